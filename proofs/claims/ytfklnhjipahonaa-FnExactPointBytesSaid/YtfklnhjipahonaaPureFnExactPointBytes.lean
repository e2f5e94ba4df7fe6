/- The program's PointBytes returns what the reference's returns, in memory of its own, and leaves its argument as it was: FnExactPointBytes returns true for every list of ints. Conditions: none. -/
import Derived.Test.YtfklnhjipahonaaHFnExactPointBytesx2
namespace Go.Proofs.Ytfklnhjipahonaa.Pure
open Go.RowKit Go.Proofs.Ytfklnhjipahonaa.HFnExactPointBytes Go.Proofs.YtfklnhjipahonaaW.PrintWords Go.Proofs.YtfklnhjipahonaaW.PrintLast
open Go
set_option linter.unusedVariables false
set_option linter.unusedSimpArgs false

theorem rd_nat (l : List Int) (i : Nat) (h : i < l.length) : rd l (i : Int) = l[i] := by
  unfold rd
  rw [Int.toNat_natCast, List.getD_eq_getElem?_getD, List.getElem?_eq_getElem h]
  rfl

theorem step_nat (i : Nat) (h : i < 4611686018427387904) : wrap64 ((i : Int) + 1) = ((i + 1 : Nat) : Int) := by
  rw [IntWalk.wrap64_in ((i : Int) + 1) (by omega)]
  rfl

theorem toIntS_l0 (l : List Int) (hl : l.length ≤ 2000000) : ∀ (d k i : Nat) (o : List Int), i + d = l.length → d < k → o.length = l.length → (∀ j, j < i → o[j]? = l[j]?) → laws_toIntS.l0 k l o (i : Int) = some l := by
  intro d
  induction d with
  | zero =>
    intro k i o hi hk ho hj
    obtain ⟨k, rfl⟩ : ∃ m, k = m + 1 := ⟨k - 1, by omega⟩
    simp only [laws_toIntS.l0]
    rw [if_neg (by omega)]
    congr 1
    apply List.ext_getElem?
    intro j
    by_cases h : j < l.length
    · exact hj j (by omega)
    · rw [List.getElem?_eq_none (by omega), List.getElem?_eq_none (by omega)]
  | succ d ih =>
    intro k i o hi hk ho hj
    obtain ⟨k, rfl⟩ : ∃ m, k = m + 1 := ⟨k - 1, by omega⟩
    simp only [laws_toIntS.l0]
    rw [if_pos (by omega), if_pos (by omega), if_pos (by omega), step_nat i (by omega), Int.toNat_natCast, rd_nat l i (by omega)]
    refine ih k (i + 1) _ (by omega) (by omega) (by rw [List.length_set]; exact ho) ?_
    intro j hji
    by_cases e : i = j
    · subst e
      rw [List.getElem?_set_self (by omega), List.getElem?_eq_getElem (by omega)]
    · rw [List.getElem?_set_ne e]
      exact hj j (by omega)

theorem toIntS_ok (l : List Int) (hl : l.length ≤ 2000000) (k : Nat) (hk : l.length < k) : laws_toIntS.f k l = some l := by
  unfold laws_toIntS.f
  rw [if_pos (by omega), if_pos (by rw [Int.toNat_natCast]; omega), Int.toNat_natCast]
  exact toIntS_l0 l hl l.length k 0 _ (by omega) hk (List.length_replicate ..) (fun j hj => absurd hj (Nat.not_lt_zero _))

theorem eqIntS_l0 (a b : List Int) (hab : a.length = b.length) (hl : a.length ≤ 2000000) : ∀ (d k i : Nat), i + d = a.length → d < k → laws_eqIntS.l0 k a b (i : Int) = some (decide (a.drop i = b.drop i)) := by
  intro d
  induction d with
  | zero =>
    intro k i hi hk
    obtain ⟨k, rfl⟩ : ∃ m, k = m + 1 := ⟨k - 1, by omega⟩
    simp only [laws_eqIntS.l0]
    rw [if_neg (by omega), List.drop_eq_nil_of_le (by omega), List.drop_eq_nil_of_le (by omega)]
    rfl
  | succ d ih =>
    intro k i hi hk
    obtain ⟨k, rfl⟩ : ∃ m, k = m + 1 := ⟨k - 1, by omega⟩
    simp only [laws_eqIntS.l0]
    rw [if_pos (by omega), if_pos (by omega), if_pos (by omega), step_nat i (by omega), rd_nat a i (by omega), rd_nat b i (by omega)]
    rw [List.drop_eq_getElem_cons (by omega : i < a.length), List.drop_eq_getElem_cons (by omega : i < b.length)]
    by_cases e : a[i]'(by omega) = b[i]'(by omega)
    · rw [if_pos e, ih k (i + 1) (by omega) (by omega), e]
      exact congrArg some (decide_eq_decide.mpr ⟨fun h => by rw [h], fun h => (List.cons.inj h).2⟩)
    · rw [if_neg e]
      exact congrArg some (decide_eq_false (fun h => e (List.cons.inj h).1)).symm

theorem eqIntS_ok (a b : List Int) (hl : a.length ≤ 2000000) (k : Nat) (hk : a.length < k) : laws_eqIntS.f k a b = some (decide (a = b)) := by
  unfold laws_eqIntS.f
  by_cases h : a.length = b.length
  · rw [if_pos (by omega)]
    exact eqIntS_l0 a b h hl a.length k 0 (by omega) hk
  · rw [if_neg (by omega), decide_eq_false (fun e => h (by rw [e]))]

theorem eqIntS_self (a : List Int) (hl : a.length ≤ 2000000) (k : Nat) (hk : a.length < k) : laws_eqIntS.f k a a = some true := by
  rw [eqIntS_ok a a hl k hk, decide_eq_true rfl]

/-- m, m + 1, .. : n numbers. -/
def iota (m : Int) (n : Nat) : List Int := (List.range n).map fun j : Nat => m + (j : Int)

theorem iota_length (m : Int) (n : Nat) : (iota m n).length = n := by simp [iota]
theorem iota_get (m : Int) (n j : Nat) (h : j < (iota m n).length) : (iota m n)[j] = m + (j : Int) := by simp [iota]
theorem iota_get? (m : Int) (n j : Nat) (h : j < n) : (iota m n)[j]? = some (m + (j : Int)) := by
  rw [List.getElem?_eq_getElem (by rw [iota_length]; exact h), iota_get]

theorem markIntS_l0 (n : Nat) (m : Int) (hn : n ≤ 2000000) (hm : 0 ≤ m) (hm' : m ≤ 4000000) : ∀ (d k i : Nat) (o : List Int), i + d = n → d < k → o.length = n → (∀ j, j < i → o[j]? = (iota m n)[j]?) → laws_markIntS.l0 k o (m + (i : Int)) (i : Int) = some (m + (n : Int), iota m n) := by
  intro d
  induction d with
  | zero =>
    intro k i o hi hk ho hj
    obtain ⟨k, rfl⟩ : ∃ m, k = m + 1 := ⟨k - 1, by omega⟩
    simp only [laws_markIntS.l0]
    rw [if_neg (by omega)]
    have e : i = n := by omega
    subst e
    congr 2
    apply List.ext_getElem?
    intro j
    by_cases h : j < i
    · exact hj j h
    · rw [List.getElem?_eq_none (by omega), List.getElem?_eq_none (by rw [iota_length]; omega)]
  | succ d ih =>
    intro k i o hi hk ho hj
    obtain ⟨k, rfl⟩ : ∃ m, k = m + 1 := ⟨k - 1, by omega⟩
    simp only [laws_markIntS.l0]
    rw [if_pos (by omega), if_pos (by omega), step_nat i (by omega), Int.toNat_natCast, (IntWalk.wrap64_in (m + (i : Int) + 1) (by omega)).trans (show m + (i : Int) + 1 = m + ((i + 1 : Nat) : Int) by omega)]
    refine ih k (i + 1) _ (by omega) (by omega) (by rw [List.length_set]; exact ho) ?_
    intro j hji
    by_cases e : i = j
    · subst e
      rw [List.getElem?_set_self (by omega), iota_get? m n i (by omega)]
    · rw [List.getElem?_set_ne e]
      exact hj j (by omega)

theorem markIntS_ok (l : List Int) (m : Int) (hl : l.length ≤ 2000000) (hm : 0 ≤ m) (hm' : m ≤ 4000000) (k : Nat) (hk : l.length < k) : laws_markIntS.f k l m = some (m + (l.length : Int), iota m l.length) := by
  unfold laws_markIntS.f
  have h := markIntS_l0 l.length m hl hm hm' l.length k 0 l (by omega) hk rfl (fun j hj => absurd hj (Nat.not_lt_zero _))
  rw [show m + ((0 : Nat) : Int) = m by omega] at h
  exact h

theorem heldIntS_l0 (n : Nat) (m : Int) (hn : n ≤ 2000000) (hm : 0 ≤ m) (hm' : m ≤ 4000000) : ∀ (d k i : Nat), i + d = n → d < k → laws_heldIntS.l0 k (iota m n) (m + (i : Int)) (i : Int) = some (m + (n : Int)) := by
  intro d
  induction d with
  | zero =>
    intro k i hi hk
    obtain ⟨k, rfl⟩ : ∃ m, k = m + 1 := ⟨k - 1, by omega⟩
    simp only [laws_heldIntS.l0]
    rw [if_neg (by rw [iota_length]; omega)]
    have e : i = n := by omega
    rw [e]
  | succ d ih =>
    intro k i hi hk
    obtain ⟨k, rfl⟩ : ∃ m, k = m + 1 := ⟨k - 1, by omega⟩
    simp only [laws_heldIntS.l0]
    rw [if_pos (by rw [iota_length]; omega), if_pos (by omega), rd_nat _ i (by rw [iota_length]; omega), iota_get, if_pos rfl, step_nat i (by omega), (IntWalk.wrap64_in (m + (i : Int) + 1) (by omega)).trans (show m + (i : Int) + 1 = m + ((i + 1 : Nat) : Int) by omega)]
    exact ih k (i + 1) (by omega) (by omega)

theorem heldIntS_ok (n : Nat) (m : Int) (hn : n ≤ 2000000) (hm : 0 ≤ m) (hm' : m ≤ 4000000) (k : Nat) (hk : n < k) : laws_heldIntS.f k (iota m n) m = some (m + (n : Int)) := by
  unfold laws_heldIntS.f
  have h := heldIntS_l0 n m hn hm hm' n k 0 (by omega) hk
  rw [show m + ((0 : Nat) : Int) = m by omega] at h
  exact h

/-- Numbers of one byte. -/
def okB (l : List Int) : Bool := l.all fun x => decide (0 ≤ x ∧ x ≤ 255)

theorem okB_iff (l : List Int) : okB l = true ↔ ∀ x ∈ l, 0 ≤ x ∧ x ≤ 255 := by simp [okB]

theorem inRange_val (x a b : Int) : spec_inRange.f x a b = some (decide (a ≤ x ∧ x ≤ b)) := by
  unfold spec_inRange.f
  by_cases h : a ≤ x
  · rw [if_pos h]; simp [h]
  · rw [if_neg h]; simp [h]

theorem validBytes_l0 (l : List Int) (m : Int) (hl : l.length ≤ 2000000) : ∀ (d k i : Nat), i + d = l.length → d < k → spec_validBytes.l0 k l m (i : Int) = some (okB (l.drop i) && decide ((l.length : Int) ≤ m)) := by
  intro d
  induction d with
  | zero =>
    intro k i hi hk
    obtain ⟨k, rfl⟩ : ∃ m, k = m + 1 := ⟨k - 1, by omega⟩
    simp only [spec_validBytes.l0]
    rw [if_neg (by omega), List.drop_eq_nil_of_le (by omega)]
    simp [okB]
  | succ d ih =>
    intro k i hi hk
    obtain ⟨k, rfl⟩ : ∃ m, k = m + 1 := ⟨k - 1, by omega⟩
    simp only [spec_validBytes.l0]
    rw [if_pos (by omega), if_pos (by omega), step_nat i (by omega), rd_nat l i (by omega), inRange_val]
    rw [List.drop_eq_getElem_cons (by omega : i < l.length)]
    simp only [Option.bind_some]
    by_cases e : 0 ≤ l[i]'(by omega) ∧ l[i]'(by omega) ≤ 255
    · rw [if_pos (decide_eq_true e), ih k (i + 1) (by omega) (by omega)]
      have h : okB (l[i]'(by omega) :: l.drop (i + 1)) = okB (l.drop (i + 1)) := by
        unfold okB
        rw [List.all_cons, decide_eq_true e, Bool.true_and]
      rw [h]
    · rw [if_neg (by simpa using e)]
      have h : okB (l[i]'(by omega) :: l.drop (i + 1)) = false := by
        unfold okB
        rw [List.all_cons, decide_eq_false e, Bool.false_and]
      rw [h, Bool.false_and]

theorem validBytes_ok (l : List Int) (m : Int) (hl : l.length ≤ 2000000) (k : Nat) (hk : l.length < k) : spec_validBytes.f k l m = some (okB l && decide ((l.length : Int) ≤ m)) := by
  unfold spec_validBytes.f
  exact validBytes_l0 l m hl l.length k 0 (by omega) hk

theorem bytesAlone_val (l : List Int) : impl_bytesAlone.f l = some (okB l) := by
  unfold impl_bytesAlone.f okB
  congr 1
  induction l with
  | nil => rfl
  | cons x l ih =>
    rw [List.any_cons, List.all_cons, ← ih]
    have h : (decide (x < 0) || decide (x > 255)) = !(decide (0 ≤ x ∧ x ≤ 255)) := by
      by_cases h1 : x < 0
      · simp [h1]
      · by_cases h2 : x > 255
        · simp [h2]
        · simp [h1, h2]; omega
    rw [h, Bool.not_or, Bool.not_not]

theorem bytesOk_val (l : List Int) : impl_bytesOk.f l = some (okB l && decide (l.length ≤ 16)) := by
  unfold impl_bytesOk.f
  rw [bytesAlone_val]
  simp only [Option.bind_some]
  by_cases h : l.length ≤ 16
  · rw [if_pos (by omega)]; simp [h]
  · rw [if_neg (by omega)]; simp [h]

/-- Groups cut at each nought, one under way. -/
def ptz : List Int → List Int → List Int
  | [], _ => []
  | x :: t, g => if x = 0 then ((g.length : Int) + 1) :: (g ++ ptz t []) else ptz t (g ++ [x])
/-- Pointed bytes. -/
def pb (t : List Int) : List Int := ptz (t ++ [0]) []

theorem ptz_skip : ∀ (g s h : List Int), (∀ x ∈ g, x ≠ 0) → ptz (g ++ s) h = ptz s (h ++ g)
  | [], s, h, _ => by simp
  | x :: g, s, h, hx => by
    have h1 := hx x (List.mem_cons_self ..)
    simp only [List.cons_append, ptz]
    rw [if_neg h1, ptz_skip g s (h ++ [x]) (fun y hy => hx y (List.mem_cons_of_mem _ hy))]
    simp

theorem pb_A (g : List Int) (hg : ∀ x ∈ g, x ≠ 0) : pb g = ((g.length : Int) + 1) :: g := by
  unfold pb
  rw [ptz_skip g [0] [] hg]
  simp [ptz]

theorem pb_B (g t : List Int) (hg : ∀ x ∈ g, x ≠ 0) : pb (g ++ 0 :: t) = ((g.length : Int) + 1) :: (g ++ pb t) := by
  unfold pb
  rw [List.append_assoc, ptz_skip g (0 :: t ++ [0]) [] hg]
  simp [ptz]

theorem split0 : ∀ t : List Int, ∃ g : List Int, (∀ x ∈ g, x ≠ 0) ∧ (t = g ∨ ∃ t', t = g ++ 0 :: t')
  | [] => ⟨[], by simp, .inl rfl⟩
  | x :: t => by
    by_cases h : x = 0
    · exact ⟨[], by simp, .inr ⟨t, by simp [h]⟩⟩
    · obtain ⟨g, h1, h2⟩ := split0 t
      refine ⟨x :: g, fun y hy => ?_, ?_⟩
      · rcases List.mem_cons.1 hy with e | e
        · rw [e]; exact h
        · exact h1 y e
      · rcases h2 with h2 | ⟨t', h2⟩
        · exact .inl (by rw [h2])
        · exact .inr ⟨t', by rw [h2]; rfl⟩

theorem ptz_length : ∀ (t g : List Int), (ptz (t ++ [0]) g).length = t.length + g.length + 1
  | [], g => by simp [ptz]
  | x :: t, g => by
    simp only [List.cons_append, ptz]
    split
    · rw [List.length_cons, List.length_append, ptz_length t []]
      simp only [List.length_cons, List.length_nil]
      omega
    · rw [ptz_length t (g ++ [x])]
      simp only [List.length_cons, List.length_append, List.length_nil]
      omega

theorem pb_length (t : List Int) : (pb t).length = t.length + 1 := by
  unfold pb
  rw [ptz_length t []]
  simp

theorem ptz_ok : ∀ (t g : List Int), (∀ x ∈ t, 0 ≤ x ∧ x ≤ 255) → (∀ x ∈ g, 1 ≤ x ∧ x ≤ 255) → t.length + g.length ≤ 16 → ∀ y ∈ ptz (t ++ [0]) g, 1 ≤ y ∧ y ≤ 255
  | [], g, ht, hg, hl => by
    intro y hy
    simp only [List.nil_append, ptz, if_true, List.append_nil, List.mem_cons] at hy
    rcases hy with e | e
    · simp at hl; omega
    · exact hg y e
  | x :: t, g, ht, hg, hl => by
    have hx := ht x (List.mem_cons_self ..)
    have ht' : ∀ z ∈ t, 0 ≤ z ∧ z ≤ 255 := fun z hz => ht z (List.mem_cons_of_mem _ hz)
    simp only [List.length_cons] at hl
    intro y hy
    simp only [List.cons_append, ptz] at hy
    by_cases h : x = 0
    · rw [if_pos h] at hy
      rcases List.mem_cons.1 hy with e | e
      · omega
      · rcases List.mem_append.1 e with e | e
        · exact hg y e
        · exact ptz_ok t [] ht' (by simp) (by simp; omega) y e
    · rw [if_neg h] at hy
      refine ptz_ok t (g ++ [x]) ht' (fun z hz => ?_) (by simp; omega) y hy
      rcases List.mem_append.1 hz with e | e
      · exact hg z e
      · rw [List.mem_singleton.1 e]; omega

theorem ptz_mem : ∀ (t g : List Int), (∀ x ∈ t, x = 0 ∨ x ∈ ptz (t ++ [0]) g) ∧ (∀ x ∈ g, x ∈ ptz (t ++ [0]) g)
  | [], g => by
    refine ⟨by simp, fun x hx => ?_⟩
    simp only [List.nil_append, ptz, if_true, List.append_nil]
    exact List.mem_cons_of_mem _ hx
  | y :: t, g => by
    simp only [List.cons_append, ptz]
    by_cases h : y = 0
    · rw [if_pos h]
      obtain ⟨h1, _⟩ := ptz_mem t []
      refine ⟨fun x hx => ?_, fun x hx => List.mem_cons_of_mem _ (List.mem_append_left _ hx)⟩
      rcases List.mem_cons.1 hx with e | e
      · exact .inl (by omega)
      · rcases h1 x e with e2 | e2
        · exact .inl e2
        · exact .inr (List.mem_cons_of_mem _ (List.mem_append_right _ e2))
    · rw [if_neg h]
      obtain ⟨h1, h2⟩ := ptz_mem t (g ++ [y])
      refine ⟨fun x hx => ?_, fun x hx => h2 x (List.mem_append_left _ hx)⟩
      rcases List.mem_cons.1 hx with e | e
      · exact .inr (h2 x (by simp [e]))
      · exact h1 x e

theorem okB_pb (t : List Int) (h : okB t = true) (hl : t.length ≤ 16) : okB (pb t) = true := by
  rw [okB_iff] at h ⊢
  intro y hy
  have := ptz_ok t [] h (by simp) (by simpa using hl) y hy
  omega

theorem okB_of_pb (t : List Int) (h : okB (pb t) = true) : okB t = true := by
  rw [okB_iff] at h ⊢
  intro x hx
  rcases (ptz_mem t []).1 x hx with e | e
  · omega
  · exact h x e

theorem implPb_l0 (l : List Int) (hl : l.length ≤ 17) : ∀ (d k i : Nat) (o g : List Int), i + d = l.length → d < k → o.length ≤ 20 * i → g.length ≤ i →
    impl_PointBytes.l0 k o g l (l.length : Int) (i : Int) = some (o ++ ptz (l.drop i) g) := by
  intro d
  induction d with
  | zero =>
    intro k i o g hi hk ho hg
    obtain ⟨k, rfl⟩ : ∃ m, k = m + 1 := ⟨k - 1, by omega⟩
    rw [impl_PointBytes.l0, if_neg (by omega), List.drop_eq_nil_of_le (by omega)]
    simp [ptz]
  | succ d ih =>
    intro k i o g hi hk ho hg
    obtain ⟨k, rfl⟩ : ∃ m, k = m + 1 := ⟨k - 1, by omega⟩
    rw [impl_PointBytes.l0, if_pos (by omega), if_pos (by omega), if_pos (by omega), step_nat i (by omega), rd_nat l i (by omega), List.drop_eq_getElem_cons (by omega : i < l.length)]
    generalize l[i]'(by omega) = x
    by_cases h : x = 0
    · rw [if_pos h, if_pos (by omega), Option.bind_some, IntWalk.wrap64_in ((g.length : Int) + 1) (by omega), if_pos (by rw [List.length_append, List.length_singleton]; omega)]
      rw [ih k (i + 1) _ _ (by omega) (by omega) (by simp only [List.length_append, List.length_cons, List.length_nil]; omega) (by simp)]
      simp only [ptz, if_pos h, List.append_assoc, List.singleton_append, List.cons_append, List.nil_append]
    · rw [if_neg h, if_pos (by omega), ih k (i + 1) _ _ (by omega) (by omega) (by omega) (by simp only [List.length_append, List.length_cons, List.length_nil]; omega)]
      simp only [ptz, if_neg h]

/-- What both return. -/
def pbB (l : List Int) : List Int := if okB l = true ∧ l.length ≤ 16 then pb l else []

theorem pbB_length (l : List Int) : (pbB l).length ≤ 17 := by
  unfold pbB
  split
  · next h => rw [pb_length]; omega
  · simp

theorem implPb_ok (l : List Int) (k : Nat) (hk : 20 ≤ k) : impl_PointBytes.f k l = some (pbB l) := by
  unfold impl_PointBytes.f pbB
  rw [bytesOk_val]
  simp only [Option.bind_some, Bool.and_eq_true, decide_eq_true_eq]
  by_cases h : okB l = true ∧ l.length ≤ 16
  · rw [if_pos h, if_pos h]
    unfold slices_Clone_int_int.f
    rw [if_pos (by omega), Option.bind_some, if_pos (by omega)]
    have hlen : (l ++ [0]).length ≤ 17 := by rw [List.length_append, List.length_singleton]; omega
    have := implPb_l0 (l ++ [0]) hlen (l ++ [0]).length k 0 [] [] (by omega) (by omega) (by simp) (by simp)
    rw [show ((0 : Nat) : Int) = 0 from rfl, List.drop_zero, List.nil_append] at this
    exact this
  · rw [if_neg h, if_neg h]

theorem specPb_l0 (l : List Int) (hl : l.length ≤ 16) : ∀ (d k i : Nat) (o g : List Int), i + d = l.length → d < k → o.length ≤ 20 * i → g.length ≤ i →
    spec_PointBytes.l0 k l o g (i : Int) = some (o ++ ptz (l.drop i ++ [0]) g) := by
  intro d
  induction d with
  | zero =>
    intro k i o g hi hk ho hg
    obtain ⟨k, rfl⟩ : ∃ m, k = m + 1 := ⟨k - 1, by omega⟩
    rw [spec_PointBytes.l0, if_neg (by omega), if_pos (by omega), Option.bind_some, IntWalk.wrap64_in ((g.length : Int) + 1) (by omega), if_pos (by rw [List.length_append, List.length_singleton]; omega), List.drop_eq_nil_of_le (by omega)]
    simp [ptz]
  | succ d ih =>
    intro k i o g hi hk ho hg
    obtain ⟨k, rfl⟩ : ∃ m, k = m + 1 := ⟨k - 1, by omega⟩
    rw [spec_PointBytes.l0, if_pos (by omega), if_pos (by omega), step_nat i (by omega), rd_nat l i (by omega), List.drop_eq_getElem_cons (by omega : i < l.length)]
    generalize l[i]'(by omega) = x
    by_cases h : x = 0
    · rw [if_pos h, if_pos (by omega), Option.bind_some, IntWalk.wrap64_in ((g.length : Int) + 1) (by omega), if_pos (by rw [List.length_append, List.length_singleton]; omega)]
      rw [ih k (i + 1) _ _ (by omega) (by omega) (by simp only [List.length_append, List.length_cons, List.length_nil]; omega) (by simp)]
      simp only [ptz, if_pos h, List.append_assoc, List.singleton_append, List.cons_append, List.nil_append]
    · rw [if_neg h, if_pos (by omega), ih k (i + 1) _ _ (by omega) (by omega) (by omega) (by simp only [List.length_append, List.length_cons, List.length_nil]; omega)]
      simp only [ptz, if_neg h, List.cons_append]

theorem specPb_ok (l : List Int) (hl : l.length ≤ 2000000) (k : Nat) (hk : l.length < k) : spec_PointBytes.f k l = some (pbB l) := by
  unfold spec_PointBytes.f pbB
  rw [validBytes_ok l 16 hl k hk]
  simp only [Option.bind_some, Bool.and_eq_true, decide_eq_true_eq]
  by_cases h : okB l = true ∧ l.length ≤ 16
  · rw [if_pos ⟨h.1, by omega⟩, if_pos h]
    have := specPb_l0 l h.2 l.length k 0 [] [] (by omega) hk (by simp) (by simp)
    rw [show ((0 : Nat) : Int) = 0 from rfl, List.drop_zero, List.nil_append] at this
    exact this
  · rw [if_neg (fun e => h ⟨e.1, by omega⟩), if_neg h]


theorem FnExactPointBytes : laws_FnExactPointBytes.Pure := by
  intro l _ _ _
  by_cases hc : (l.length : Int) > 1048576
  · exact ⟨0, by unfold laws_FnExactPointBytes.f; rw [if_pos hc]⟩
  · have hl : l.length ≤ 2000000 := by omega
    have he := pbB_length l
    have hm1 : ¬ (1 + (l.length : Int) < 0) := by omega
    have hm2 : ¬ (1 + ((pbB l).length : Int) < 0) := by omega
    refine ⟨l.length + 40, ?_⟩
    unfold laws_FnExactPointBytes.f
    rw [if_neg hc]
    simp (disch := omega) only [toIntS_ok, Option.bind_some, specPb_ok, implPb_ok, if_true, eqIntS_self, markIntS_ok, Bool.not_true, hm1, if_false]
    simp (disch := omega) only [laws_FnExactPointBytes.j0, Bool.false_eq_true, if_false, toIntS_ok, Option.bind_some, implPb_ok, eqIntS_self, markIntS_ok, heldIntS_ok, if_true, hm2]

end Go.Proofs.Ytfklnhjipahonaa.Pure
