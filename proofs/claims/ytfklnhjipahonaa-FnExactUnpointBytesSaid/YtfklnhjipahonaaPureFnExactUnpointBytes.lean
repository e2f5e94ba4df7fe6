/- The program's UnpointBytes returns what the reference's returns, in memory of its own, and leaves its argument as it was: FnExactUnpointBytes returns true for every list of ints. Conditions: none. -/
import Derived.Test.YtfklnhjipahonaaHFnExactUnpointBytesx4
namespace Go.Proofs.Ytfklnhjipahonaa.Pure
open Go.RowKit Go.Proofs.Ytfklnhjipahonaa.HFnExactUnpointBytes Go.Proofs.YtfklnhjipahonaaW.PrintWords Go.Proofs.YtfklnhjipahonaaW.PrintLast
open Go
set_option linter.unusedVariables false
set_option linter.unusedSimpArgs false

theorem rd_nat (l : List Int) (i : Nat) (h : i < l.length) : rd l (i : Int) = l[i] := by
  unfold rd
  rw [Int.toNat_natCast, List.getD_eq_getElem?_getD, List.getElem?_eq_getElem h]
  rfl

theorem step_nat (i : Nat) (h : i < 4611686018427387904) : wrap64 ((i : Int) + 1) = ((i + 1 : Nat) : Int) := by
  rw [IntWalk.wrap64_in ((i : Int) + 1) (by omega)]
  rfl

theorem toIntS_l0 (l : List Int) (hl : l.length ≤ 2000000) : ∀ (d k i : Nat) (o : List Int), i + d = l.length → d < k → o.length = l.length → (∀ j, j < i → o[j]? = l[j]?) → laws_toIntS.l0 k l o (i : Int) = some l := by
  intro d
  induction d with
  | zero =>
    intro k i o hi hk ho hj
    obtain ⟨k, rfl⟩ : ∃ m, k = m + 1 := ⟨k - 1, by omega⟩
    simp only [laws_toIntS.l0]
    rw [if_neg (by omega)]
    congr 1
    apply List.ext_getElem?
    intro j
    by_cases h : j < l.length
    · exact hj j (by omega)
    · rw [List.getElem?_eq_none (by omega), List.getElem?_eq_none (by omega)]
  | succ d ih =>
    intro k i o hi hk ho hj
    obtain ⟨k, rfl⟩ : ∃ m, k = m + 1 := ⟨k - 1, by omega⟩
    simp only [laws_toIntS.l0]
    rw [if_pos (by omega), if_pos (by omega), if_pos (by omega), step_nat i (by omega), Int.toNat_natCast, rd_nat l i (by omega)]
    refine ih k (i + 1) _ (by omega) (by omega) (by rw [List.length_set]; exact ho) ?_
    intro j hji
    by_cases e : i = j
    · subst e
      rw [List.getElem?_set_self (by omega), List.getElem?_eq_getElem (by omega)]
    · rw [List.getElem?_set_ne e]
      exact hj j (by omega)

theorem toIntS_ok (l : List Int) (hl : l.length ≤ 2000000) (k : Nat) (hk : l.length < k) : laws_toIntS.f k l = some l := by
  unfold laws_toIntS.f
  rw [if_pos (by omega), if_pos (by rw [Int.toNat_natCast]; omega), Int.toNat_natCast]
  exact toIntS_l0 l hl l.length k 0 _ (by omega) hk (List.length_replicate ..) (fun j hj => absurd hj (Nat.not_lt_zero _))

theorem eqIntS_l0 (a b : List Int) (hab : a.length = b.length) (hl : a.length ≤ 2000000) : ∀ (d k i : Nat), i + d = a.length → d < k → laws_eqIntS.l0 k a b (i : Int) = some (decide (a.drop i = b.drop i)) := by
  intro d
  induction d with
  | zero =>
    intro k i hi hk
    obtain ⟨k, rfl⟩ : ∃ m, k = m + 1 := ⟨k - 1, by omega⟩
    simp only [laws_eqIntS.l0]
    rw [if_neg (by omega), List.drop_eq_nil_of_le (by omega), List.drop_eq_nil_of_le (by omega)]
    rfl
  | succ d ih =>
    intro k i hi hk
    obtain ⟨k, rfl⟩ : ∃ m, k = m + 1 := ⟨k - 1, by omega⟩
    simp only [laws_eqIntS.l0]
    rw [if_pos (by omega), if_pos (by omega), if_pos (by omega), step_nat i (by omega), rd_nat a i (by omega), rd_nat b i (by omega)]
    rw [List.drop_eq_getElem_cons (by omega : i < a.length), List.drop_eq_getElem_cons (by omega : i < b.length)]
    by_cases e : a[i]'(by omega) = b[i]'(by omega)
    · rw [if_pos e, ih k (i + 1) (by omega) (by omega), e]
      exact congrArg some (decide_eq_decide.mpr ⟨fun h => by rw [h], fun h => (List.cons.inj h).2⟩)
    · rw [if_neg e]
      exact congrArg some (decide_eq_false (fun h => e (List.cons.inj h).1)).symm

theorem eqIntS_ok (a b : List Int) (hl : a.length ≤ 2000000) (k : Nat) (hk : a.length < k) : laws_eqIntS.f k a b = some (decide (a = b)) := by
  unfold laws_eqIntS.f
  by_cases h : a.length = b.length
  · rw [if_pos (by omega)]
    exact eqIntS_l0 a b h hl a.length k 0 (by omega) hk
  · rw [if_neg (by omega), decide_eq_false (fun e => h (by rw [e]))]

theorem eqIntS_self (a : List Int) (hl : a.length ≤ 2000000) (k : Nat) (hk : a.length < k) : laws_eqIntS.f k a a = some true := by
  rw [eqIntS_ok a a hl k hk, decide_eq_true rfl]

/-- m, m + 1, .. : n numbers. -/
def iota (m : Int) (n : Nat) : List Int := (List.range n).map fun j : Nat => m + (j : Int)

theorem iota_length (m : Int) (n : Nat) : (iota m n).length = n := by simp [iota]
theorem iota_get (m : Int) (n j : Nat) (h : j < (iota m n).length) : (iota m n)[j] = m + (j : Int) := by simp [iota]
theorem iota_get? (m : Int) (n j : Nat) (h : j < n) : (iota m n)[j]? = some (m + (j : Int)) := by
  rw [List.getElem?_eq_getElem (by rw [iota_length]; exact h), iota_get]

theorem markIntS_l0 (n : Nat) (m : Int) (hn : n ≤ 2000000) (hm : 0 ≤ m) (hm' : m ≤ 4000000) : ∀ (d k i : Nat) (o : List Int), i + d = n → d < k → o.length = n → (∀ j, j < i → o[j]? = (iota m n)[j]?) → laws_markIntS.l0 k o (m + (i : Int)) (i : Int) = some (m + (n : Int), iota m n) := by
  intro d
  induction d with
  | zero =>
    intro k i o hi hk ho hj
    obtain ⟨k, rfl⟩ : ∃ m, k = m + 1 := ⟨k - 1, by omega⟩
    simp only [laws_markIntS.l0]
    rw [if_neg (by omega)]
    have e : i = n := by omega
    subst e
    congr 2
    apply List.ext_getElem?
    intro j
    by_cases h : j < i
    · exact hj j h
    · rw [List.getElem?_eq_none (by omega), List.getElem?_eq_none (by rw [iota_length]; omega)]
  | succ d ih =>
    intro k i o hi hk ho hj
    obtain ⟨k, rfl⟩ : ∃ m, k = m + 1 := ⟨k - 1, by omega⟩
    simp only [laws_markIntS.l0]
    rw [if_pos (by omega), if_pos (by omega), step_nat i (by omega), Int.toNat_natCast, (IntWalk.wrap64_in (m + (i : Int) + 1) (by omega)).trans (show m + (i : Int) + 1 = m + ((i + 1 : Nat) : Int) by omega)]
    refine ih k (i + 1) _ (by omega) (by omega) (by rw [List.length_set]; exact ho) ?_
    intro j hji
    by_cases e : i = j
    · subst e
      rw [List.getElem?_set_self (by omega), iota_get? m n i (by omega)]
    · rw [List.getElem?_set_ne e]
      exact hj j (by omega)

theorem markIntS_ok (l : List Int) (m : Int) (hl : l.length ≤ 2000000) (hm : 0 ≤ m) (hm' : m ≤ 4000000) (k : Nat) (hk : l.length < k) : laws_markIntS.f k l m = some (m + (l.length : Int), iota m l.length) := by
  unfold laws_markIntS.f
  have h := markIntS_l0 l.length m hl hm hm' l.length k 0 l (by omega) hk rfl (fun j hj => absurd hj (Nat.not_lt_zero _))
  rw [show m + ((0 : Nat) : Int) = m by omega] at h
  exact h

theorem heldIntS_l0 (n : Nat) (m : Int) (hn : n ≤ 2000000) (hm : 0 ≤ m) (hm' : m ≤ 4000000) : ∀ (d k i : Nat), i + d = n → d < k → laws_heldIntS.l0 k (iota m n) (m + (i : Int)) (i : Int) = some (m + (n : Int)) := by
  intro d
  induction d with
  | zero =>
    intro k i hi hk
    obtain ⟨k, rfl⟩ : ∃ m, k = m + 1 := ⟨k - 1, by omega⟩
    simp only [laws_heldIntS.l0]
    rw [if_neg (by rw [iota_length]; omega)]
    have e : i = n := by omega
    rw [e]
  | succ d ih =>
    intro k i hi hk
    obtain ⟨k, rfl⟩ : ∃ m, k = m + 1 := ⟨k - 1, by omega⟩
    simp only [laws_heldIntS.l0]
    rw [if_pos (by rw [iota_length]; omega), if_pos (by omega), rd_nat _ i (by rw [iota_length]; omega), iota_get, if_pos rfl, step_nat i (by omega), (IntWalk.wrap64_in (m + (i : Int) + 1) (by omega)).trans (show m + (i : Int) + 1 = m + ((i + 1 : Nat) : Int) by omega)]
    exact ih k (i + 1) (by omega) (by omega)

theorem heldIntS_ok (n : Nat) (m : Int) (hn : n ≤ 2000000) (hm : 0 ≤ m) (hm' : m ≤ 4000000) (k : Nat) (hk : n < k) : laws_heldIntS.f k (iota m n) m = some (m + (n : Int)) := by
  unfold laws_heldIntS.f
  have h := heldIntS_l0 n m hn hm hm' n k 0 (by omega) hk
  rw [show m + ((0 : Nat) : Int) = m by omega] at h
  exact h

/-- Numbers of one byte. -/
def okB (l : List Int) : Bool := l.all fun x => decide (0 ≤ x ∧ x ≤ 255)

theorem okB_iff (l : List Int) : okB l = true ↔ ∀ x ∈ l, 0 ≤ x ∧ x ≤ 255 := by simp [okB]

theorem bytesAlone_val (l : List Int) : impl_bytesAlone.f l = some (okB l) := by
  unfold impl_bytesAlone.f okB
  congr 1
  induction l with
  | nil => rfl
  | cons x l ih =>
    rw [List.any_cons, List.all_cons, ← ih]
    have h : (decide (x < 0) || decide (x > 255)) = !(decide (0 ≤ x ∧ x ≤ 255)) := by
      by_cases h1 : x < 0
      · simp [h1]
      · by_cases h2 : x > 255
        · simp [h2]
        · simp [h1, h2]; omega
    rw [h, Bool.not_or, Bool.not_not]

theorem bytesOk_val (l : List Int) : impl_bytesOk.f l = some (okB l && decide (l.length ≤ 16)) := by
  unfold impl_bytesOk.f
  rw [bytesAlone_val]
  simp only [Option.bind_some]
  by_cases h : l.length ≤ 16
  · rw [if_pos (by omega)]; simp [h]
  · rw [if_neg (by omega)]; simp [h]

/-- Groups cut at each nought, one under way. -/
def ptz : List Int → List Int → List Int
  | [], _ => []
  | x :: t, g => if x = 0 then ((g.length : Int) + 1) :: (g ++ ptz t []) else ptz t (g ++ [x])
/-- Pointed bytes. -/
def pb (t : List Int) : List Int := ptz (t ++ [0]) []

theorem ptz_skip : ∀ (g s h : List Int), (∀ x ∈ g, x ≠ 0) → ptz (g ++ s) h = ptz s (h ++ g)
  | [], s, h, _ => by simp
  | x :: g, s, h, hx => by
    have h1 := hx x (List.mem_cons_self ..)
    simp only [List.cons_append, ptz]
    rw [if_neg h1, ptz_skip g s (h ++ [x]) (fun y hy => hx y (List.mem_cons_of_mem _ hy))]
    simp

theorem pb_A (g : List Int) (hg : ∀ x ∈ g, x ≠ 0) : pb g = ((g.length : Int) + 1) :: g := by
  unfold pb
  rw [ptz_skip g [0] [] hg]
  simp [ptz]

theorem pb_B (g t : List Int) (hg : ∀ x ∈ g, x ≠ 0) : pb (g ++ 0 :: t) = ((g.length : Int) + 1) :: (g ++ pb t) := by
  unfold pb
  rw [List.append_assoc, ptz_skip g (0 :: t ++ [0]) [] hg]
  simp [ptz]

theorem split0 : ∀ t : List Int, ∃ g : List Int, (∀ x ∈ g, x ≠ 0) ∧ (t = g ∨ ∃ t', t = g ++ 0 :: t')
  | [] => ⟨[], by simp, .inl rfl⟩
  | x :: t => by
    by_cases h : x = 0
    · exact ⟨[], by simp, .inr ⟨t, by simp [h]⟩⟩
    · obtain ⟨g, h1, h2⟩ := split0 t
      refine ⟨x :: g, fun y hy => ?_, ?_⟩
      · rcases List.mem_cons.1 hy with e | e
        · rw [e]; exact h
        · exact h1 y e
      · rcases h2 with h2 | ⟨t', h2⟩
        · exact .inl (by rw [h2])
        · exact .inr ⟨t', by rw [h2]; rfl⟩

theorem ptz_length : ∀ (t g : List Int), (ptz (t ++ [0]) g).length = t.length + g.length + 1
  | [], g => by simp [ptz]
  | x :: t, g => by
    simp only [List.cons_append, ptz]
    split
    · rw [List.length_cons, List.length_append, ptz_length t []]
      simp only [List.length_cons, List.length_nil]
      omega
    · rw [ptz_length t (g ++ [x])]
      simp only [List.length_cons, List.length_append, List.length_nil]
      omega

theorem pb_length (t : List Int) : (pb t).length = t.length + 1 := by
  unfold pb
  rw [ptz_length t []]
  simp

theorem ptz_ok : ∀ (t g : List Int), (∀ x ∈ t, 0 ≤ x ∧ x ≤ 255) → (∀ x ∈ g, 1 ≤ x ∧ x ≤ 255) → t.length + g.length ≤ 16 → ∀ y ∈ ptz (t ++ [0]) g, 1 ≤ y ∧ y ≤ 255
  | [], g, ht, hg, hl => by
    intro y hy
    simp only [List.nil_append, ptz, if_true, List.append_nil, List.mem_cons] at hy
    rcases hy with e | e
    · simp at hl; omega
    · exact hg y e
  | x :: t, g, ht, hg, hl => by
    have hx := ht x (List.mem_cons_self ..)
    have ht' : ∀ z ∈ t, 0 ≤ z ∧ z ≤ 255 := fun z hz => ht z (List.mem_cons_of_mem _ hz)
    simp only [List.length_cons] at hl
    intro y hy
    simp only [List.cons_append, ptz] at hy
    by_cases h : x = 0
    · rw [if_pos h] at hy
      rcases List.mem_cons.1 hy with e | e
      · omega
      · rcases List.mem_append.1 e with e | e
        · exact hg y e
        · exact ptz_ok t [] ht' (by simp) (by simp; omega) y e
    · rw [if_neg h] at hy
      refine ptz_ok t (g ++ [x]) ht' (fun z hz => ?_) (by simp; omega) y hy
      rcases List.mem_append.1 hz with e | e
      · exact hg z e
      · rw [List.mem_singleton.1 e]; omega

theorem ptz_mem : ∀ (t g : List Int), (∀ x ∈ t, x = 0 ∨ x ∈ ptz (t ++ [0]) g) ∧ (∀ x ∈ g, x ∈ ptz (t ++ [0]) g)
  | [], g => by
    refine ⟨by simp, fun x hx => ?_⟩
    simp only [List.nil_append, ptz, if_true, List.append_nil]
    exact List.mem_cons_of_mem _ hx
  | y :: t, g => by
    simp only [List.cons_append, ptz]
    by_cases h : y = 0
    · rw [if_pos h]
      obtain ⟨h1, _⟩ := ptz_mem t []
      refine ⟨fun x hx => ?_, fun x hx => List.mem_cons_of_mem _ (List.mem_append_left _ hx)⟩
      rcases List.mem_cons.1 hx with e | e
      · exact .inl (by omega)
      · rcases h1 x e with e2 | e2
        · exact .inl e2
        · exact .inr (List.mem_cons_of_mem _ (List.mem_append_right _ e2))
    · rw [if_neg h]
      obtain ⟨h1, h2⟩ := ptz_mem t (g ++ [y])
      refine ⟨fun x hx => ?_, fun x hx => h2 x (List.mem_append_left _ hx)⟩
      rcases List.mem_cons.1 hx with e | e
      · exact .inr (h2 x (by simp [e]))
      · exact h1 x e

theorem okB_pb (t : List Int) (h : okB t = true) (hl : t.length ≤ 16) : okB (pb t) = true := by
  rw [okB_iff] at h ⊢
  intro y hy
  have := ptz_ok t [] h (by simp) (by simpa using hl) y hy
  omega

theorem okB_of_pb (t : List Int) (h : okB (pb t) = true) : okB t = true := by
  rw [okB_iff] at h ⊢
  intro x hx
  rcases (ptz_mem t []).1 x hx with e | e
  · omega
  · exact h x e

theorem implPb_l0 (l : List Int) (hl : l.length ≤ 17) : ∀ (d k i : Nat) (o g : List Int), i + d = l.length → d < k → o.length ≤ 20 * i → g.length ≤ i →
    impl_PointBytes.l0 k o g l (l.length : Int) (i : Int) = some (o ++ ptz (l.drop i) g) := by
  intro d
  induction d with
  | zero =>
    intro k i o g hi hk ho hg
    obtain ⟨k, rfl⟩ : ∃ m, k = m + 1 := ⟨k - 1, by omega⟩
    rw [impl_PointBytes.l0, if_neg (by omega), List.drop_eq_nil_of_le (by omega)]
    simp [ptz]
  | succ d ih =>
    intro k i o g hi hk ho hg
    obtain ⟨k, rfl⟩ : ∃ m, k = m + 1 := ⟨k - 1, by omega⟩
    rw [impl_PointBytes.l0, if_pos (by omega), if_pos (by omega), if_pos (by omega), step_nat i (by omega), rd_nat l i (by omega), List.drop_eq_getElem_cons (by omega : i < l.length)]
    generalize l[i]'(by omega) = x
    by_cases h : x = 0
    · rw [if_pos h, if_pos (by omega), Option.bind_some, IntWalk.wrap64_in ((g.length : Int) + 1) (by omega), if_pos (by rw [List.length_append, List.length_singleton]; omega)]
      rw [ih k (i + 1) _ _ (by omega) (by omega) (by simp only [List.length_append, List.length_cons, List.length_nil]; omega) (by simp)]
      simp only [ptz, if_pos h, List.append_assoc, List.singleton_append, List.cons_append, List.nil_append]
    · rw [if_neg h, if_pos (by omega), ih k (i + 1) _ _ (by omega) (by omega) (by omega) (by simp only [List.length_append, List.length_cons, List.length_nil]; omega)]
      simp only [ptz, if_neg h]

/-- What both return. -/
def pbB (l : List Int) : List Int := if okB l = true ∧ l.length ≤ 16 then pb l else []

theorem pbB_length (l : List Int) : (pbB l).length ≤ 17 := by
  unfold pbB
  split
  · next h => rw [pb_length]; omega
  · simp

theorem implPb_ok (l : List Int) (k : Nat) (hk : 20 ≤ k) : impl_PointBytes.f k l = some (pbB l) := by
  unfold impl_PointBytes.f pbB
  rw [bytesOk_val]
  simp only [Option.bind_some, Bool.and_eq_true, decide_eq_true_eq]
  by_cases h : okB l = true ∧ l.length ≤ 16
  · rw [if_pos h, if_pos h]
    unfold slices_Clone_int_int.f
    rw [if_pos (by omega), Option.bind_some, if_pos (by omega)]
    have hlen : (l ++ [0]).length ≤ 17 := by rw [List.length_append, List.length_singleton]; omega
    have := implPb_l0 (l ++ [0]) hlen (l ++ [0]).length k 0 [] [] (by omega) (by omega) (by simp) (by simp)
    rw [show ((0 : Nat) : Int) = 0 from rfl, List.drop_zero, List.nil_append] at this
    exact this
  · rw [if_neg h, if_neg h]

theorem sliceEqual_l0 (a b : List Int) (hab : a.length = b.length) (hl : a.length ≤ 2000000) : ∀ (d k i : Nat), i + d = a.length → d < k → slices_Equal_int_int.l0 k a b (a.length : Int) (i : Int) = some (decide (a.drop i = b.drop i)) := by
  intro d
  induction d with
  | zero =>
    intro k i hi hk
    obtain ⟨k, rfl⟩ : ∃ m, k = m + 1 := ⟨k - 1, by omega⟩
    simp only [slices_Equal_int_int.l0]
    rw [if_neg (by omega), List.drop_eq_nil_of_le (by omega), List.drop_eq_nil_of_le (by omega)]
    rfl
  | succ d ih =>
    intro k i hi hk
    obtain ⟨k, rfl⟩ : ∃ m, k = m + 1 := ⟨k - 1, by omega⟩
    simp only [slices_Equal_int_int.l0]
    rw [if_pos (by omega), if_pos (by omega), if_pos (by omega), if_pos (by omega), step_nat i (by omega), rd_nat a i (by omega), rd_nat b i (by omega)]
    rw [List.drop_eq_getElem_cons (by omega : i < a.length), List.drop_eq_getElem_cons (by omega : i < b.length)]
    by_cases e : a[i]'(by omega) = b[i]'(by omega)
    · rw [if_pos e, ih k (i + 1) (by omega) (by omega), e]
      exact congrArg some (decide_eq_decide.mpr ⟨fun h => by rw [h], fun h => (List.cons.inj h).2⟩)
    · rw [if_neg e]
      exact congrArg some (decide_eq_false (fun h => e (List.cons.inj h).1)).symm

theorem sliceEqual_ok (a b : List Int) (hl : a.length ≤ 2000000) (k : Nat) (hk : a.length < k) : slices_Equal_int_int.f k a b = some (decide (a = b)) := by
  unfold slices_Equal_int_int.f
  by_cases h : a.length = b.length
  · rw [if_pos (by omega)]
    exact sliceEqual_l0 a b h hl a.length k 0 (by omega) hk
  · rw [if_neg (by omega), decide_eq_false (fun e => h (by rw [e]))]

/-- What the program hands back, once it has read its list as o. -/
def finP (l o : List Int) : List Int × Bool := if okB o = true ∧ o.length ≤ 16 ∧ pb o = l then (o, true) else ([], false)

theorem unP_fin (l o : List Int) (k : Nat) (hk : 40 ≤ k) (i : Int) : impl_UnpointBytes.j1 (k + 1) l o i false = some (finP l o) := by
  rw [impl_UnpointBytes.j1]
  simp only [Bool.false_eq_true, if_false, bytesOk_val, Option.bind_some, Bool.and_eq_true, decide_eq_true_eq]
  unfold finP
  by_cases h : okB o = true ∧ o.length ≤ 16
  · have he := pbB_length o
    rw [if_pos h, implPb_ok o k (by omega)]
    simp only [Option.bind_some]
    rw [sliceEqual_ok (pbB o) l (by omega) k (by omega)]
    simp only [Option.bind_some, decide_eq_true_eq]
    have hB : pbB o = pb o := by unfold pbB; rw [if_pos h]
    rw [hB]
    by_cases e : pb o = l
    · rw [if_pos e, if_pos ⟨h.1, h.2, e⟩]
    · rw [if_neg e, if_neg (fun c => e c.2.2)]
  · rw [if_neg h, if_neg (fun c => h ⟨c.1, c.2.1⟩)]

/-- The nought between two groups. -/
def btw (i : Nat) : List Int := if i = 0 then [] else [0]

theorem btw_length (i : Nat) : (btw i).length ≤ 1 := by
  unfold btw
  split <;> simp

theorem seg_eq (l : List Int) (i n : Nat) : (l.take (i + n)).drop (i + 1) = (l.drop (i + 1)).take (n - 1) := by
  by_cases h : n = 0
  · subst h
    simp
    omega
  · rw [List.drop_take, show i + n - (i + 1) = n - 1 by omega]

theorem unP_j2 (l o : List Int) (i n k : Nat) (hn : 1 ≤ n) (hin : i + n ≤ l.length) (hl : l.length ≤ 2000000) (hn17 : n ≤ 17) (ho : o.length ≤ 16) :
    impl_UnpointBytes.j2 (k + 1) l o (i : Int) (n : Int) false = impl_UnpointBytes.l0 k l (o ++ btw i ++ (l.drop (i + 1)).take (n - 1)) ((i + n : Nat) : Int) := by
  have hw : wrap64 ((i : Int) + (n : Int)) = ((i + n : Nat) : Int) := (IntWalk.wrap64_in ((i : Int) + (n : Int)) (by omega)).trans (by omega)
  have hlen : ((l.drop (i + 1)).take (n - 1)).length ≤ 17 := by rw [List.length_take]; omega
  rw [impl_UnpointBytes.j2]
  simp only [Bool.false_eq_true, if_false]
  rw [hw, step_nat i (by omega), Int.toNat_natCast, Int.toNat_natCast, seg_eq l i n]
  generalize hseg : (l.drop (i + 1)).take (n - 1) = seg at hlen ⊢
  by_cases h0 : i = 0
  · rw [if_neg (by omega), if_pos (by omega), if_pos (by omega), if_pos (by omega), if_pos (by omega)]
    rw [show btw i = [] by unfold btw; rw [if_pos h0], List.append_nil]
  · rw [if_pos (by omega), if_pos (by omega), Option.bind_some, if_pos (by omega), if_pos (by omega), if_pos (by omega), if_pos (by rw [List.length_append, List.length_singleton]; omega)]
    rw [show btw i = [0] by unfold btw; rw [if_neg h0]]

theorem unP_l0 (l : List Int) (hl : l.length ≤ 2000000) : ∀ (d k i : Nat) (o : List Int), i + d = l.length → 3 * d + 60 ≤ k → o.length ≤ 40 →
    ∃ r, impl_UnpointBytes.l0 k l o (i : Int) = some r ∧ (r = ([], false) ∨ ∃ o', r = finP l o') ∧ (∀ t, l.drop i = pb t → o.length + (btw i).length + t.length ≤ 16 → r = finP l (o ++ btw i ++ t)) := by
  intro d
  induction d using Nat.strongRecOn with
  | ind d ih =>
    intro k i o hi hk ho
    obtain ⟨k, rfl⟩ : ∃ m, k = m + 3 := ⟨k - 3, by omega⟩
    rw [impl_UnpointBytes.l0]
    by_cases hd : d = 0
    · rw [if_neg (by omega), unP_fin l o (k + 1) (by omega)]
      refine ⟨_, rfl, .inr ⟨o, rfl⟩, fun t ht _ => ?_⟩
      rw [List.drop_eq_nil_of_le (by omega)] at ht
      have := congrArg List.length ht
      rw [pb_length] at this
      simp at this
    · rw [if_pos (by omega)]
      by_cases ho16 : o.length ≤ 16
      · rw [decide_eq_true (by omega : (o.length : Int) ≤ 16), impl_UnpointBytes.j1]
        simp only [if_true]
        rw [if_pos (by omega), if_pos (by omega), rd_nat l i (by omega)]
        have hdrop : l.drop i = l[i]'(by omega) :: l.drop (i + 1) := List.drop_eq_getElem_cons (by omega : i < l.length)
        generalize l[i]'(by omega) = x at hdrop ⊢
        have hshape : ∀ t, l.drop i = pb t → t.length ≤ 16 → ∃ g : List Int, (∀ y ∈ g, y ≠ 0) ∧ x = (g.length : Int) + 1 ∧ g.length ≤ 16 ∧ ((t = g ∧ l.drop (i + 1) = g) ∨ ∃ t', t = g ++ 0 :: t' ∧ l.drop (i + 1) = g ++ pb t') := by
          intro t ht ht16
          obtain ⟨g, hg, h | ⟨t', h⟩⟩ := split0 t
          · subst h
            rw [hdrop, pb_A t hg] at ht
            obtain ⟨e1, e2⟩ := List.cons.inj ht
            exact ⟨t, hg, e1, ht16, .inl ⟨rfl, e2⟩⟩
          · subst h
            rw [hdrop, pb_B g t' hg] at ht
            obtain ⟨e1, e2⟩ := List.cons.inj ht
            rw [List.length_append] at ht16
            exact ⟨g, hg, e1, by omega, .inr ⟨t', rfl, e2⟩⟩
        have hj2t : ∀ y : Int, impl_UnpointBytes.j2 (k + 1) l o (i : Int) y true = some ([], false) := fun y => by rw [impl_UnpointBytes.j2]; simp
        by_cases h1 : x < 1
        · rw [if_pos h1, hj2t]
          refine ⟨_, rfl, .inl rfl, fun t ht hlt => ?_⟩
          obtain ⟨g, _, e, _, _⟩ := hshape t ht (by omega)
          omega
        · rw [if_neg h1]
          by_cases h2 : x > 17
          · rw [if_pos h2, hj2t]
            refine ⟨_, rfl, .inl rfl, fun t ht hlt => ?_⟩
            obtain ⟨g, _, e, _, _⟩ := hshape t ht (by omega)
            omega
          · rw [if_neg h2]
            obtain ⟨n, rfl⟩ := Int.eq_ofNat_of_zero_le (by omega : 0 ≤ x)
            rw [(IntWalk.wrap64_in ((i : Int) + (n : Int)) (by omega)).trans (show (i : Int) + (n : Int) = ((i + n : Nat) : Int) by omega)]
            by_cases h3 : i + n ≤ l.length
            · rw [decide_eq_false (by omega), unP_j2 l o i n k (by omega) h3 hl (by omega) ho16]
              have hbl := btw_length i
              have hsl : ((l.drop (i + 1)).take (n - 1)).length = n - 1 := by rw [List.length_take, List.length_drop]; omega
              obtain ⟨r, hr, h4, h5⟩ := ih (d - n) (by omega) k (i + n) (o ++ btw i ++ (l.drop (i + 1)).take (n - 1)) (by omega) (by omega) (by simp only [List.length_append, hsl]; omega)
              refine ⟨r, hr, h4, fun t ht hlt => ?_⟩
              obtain ⟨g, hg, e, hg16, h6⟩ := hshape t ht (by omega)
              have hng : n - 1 = g.length := by omega
              rcases h6 with ⟨e1, e2⟩ | ⟨t', e1, e2⟩
              · have hend : i + n = l.length := by
                  have := congrArg List.length e2
                  rw [List.length_drop] at this
                  omega
                rw [hend] at hr
                obtain ⟨k', rfl⟩ : ∃ m, k = m + 2 := ⟨k - 2, by omega⟩
                rw [impl_UnpointBytes.l0, if_neg (by omega), unP_fin l _ k' (by omega)] at hr
                rw [← Option.some.inj hr, e2, hng, List.take_length, e1]
              · have hdr : l.drop (i + n) = pb t' := by
                  rw [show i + n = i + 1 + (n - 1) by omega, ← List.drop_drop, e2, hng, List.drop_left]
                have hb1 : btw (i + n) = [0] := by unfold btw; rw [if_neg (by omega)]
                have h7 := h5 t' hdr (by
                  rw [hb1]
                  rw [e1] at hlt
                  simp only [List.length_append, List.length_cons, List.length_nil, hsl] at hlt ⊢
                  omega)
                rw [h7, e2, hng, List.take_left, hb1, e1]
                simp
            · rw [decide_eq_true (by omega), hj2t]
              refine ⟨_, rfl, .inl rfl, fun t ht hlt => ?_⟩
              obtain ⟨g, _, e, _, h6⟩ := hshape t ht (by omega)
              have hl1 : (l.drop (i + 1)).length = l.length - (i + 1) := List.length_drop ..
              rcases h6 with ⟨_, e2⟩ | ⟨t', _, e2⟩
              · rw [e2] at hl1
                omega
              · rw [e2, List.length_append] at hl1
                omega
      · rw [decide_eq_false (by omega : ¬ (o.length : Int) ≤ 16), unP_fin l o (k + 1) (by omega)]
        exact ⟨_, rfl, .inr ⟨o, rfl⟩, fun t _ h => by omega⟩

theorem unP_ok (l : List Int) (hl : l.length ≤ 2000000) (k : Nat) (hk : 3 * l.length + 60 ≤ k) :
    ∃ r, impl_UnpointBytes.f k l = some r ∧ (r = ([], false) ∨ ∃ o', r = finP l o') ∧ (∀ t, l = pb t → t.length ≤ 16 → r = finP l t) := by
  obtain ⟨r, h1, h2, h3⟩ := unP_l0 l hl l.length k 0 [] (by omega) hk (by simp)
  exact ⟨r, h1, h2, fun t ht h => by simpa [btw] using h3 t (by simpa using ht) (by simpa [btw] using h)⟩

theorem inRange_val (x a b : Int) : spec_inRange.f x a b = some (decide (a ≤ x ∧ x ≤ b)) := by
  unfold spec_inRange.f
  by_cases h : a ≤ x
  · rw [if_pos h]; simp [h]
  · rw [if_neg h]; simp [h]

theorem validBytes_l0 (l : List Int) (m : Int) (hl : l.length ≤ 2000000) : ∀ (d k i : Nat), i + d = l.length → d < k → spec_validBytes.l0 k l m (i : Int) = some (okB (l.drop i) && decide ((l.length : Int) ≤ m)) := by
  intro d
  induction d with
  | zero =>
    intro k i hi hk
    obtain ⟨k, rfl⟩ : ∃ m, k = m + 1 := ⟨k - 1, by omega⟩
    simp only [spec_validBytes.l0]
    rw [if_neg (by omega), List.drop_eq_nil_of_le (by omega)]
    simp [okB]
  | succ d ih =>
    intro k i hi hk
    obtain ⟨k, rfl⟩ : ∃ m, k = m + 1 := ⟨k - 1, by omega⟩
    simp only [spec_validBytes.l0]
    rw [if_pos (by omega), if_pos (by omega), step_nat i (by omega), rd_nat l i (by omega), inRange_val]
    rw [List.drop_eq_getElem_cons (by omega : i < l.length)]
    simp only [Option.bind_some]
    by_cases e : 0 ≤ l[i]'(by omega) ∧ l[i]'(by omega) ≤ 255
    · rw [if_pos (decide_eq_true e), ih k (i + 1) (by omega) (by omega)]
      have h : okB (l[i]'(by omega) :: l.drop (i + 1)) = okB (l.drop (i + 1)) := by
        unfold okB
        rw [List.all_cons, decide_eq_true e, Bool.true_and]
      rw [h]
    · rw [if_neg (by simpa using e)]
      have h : okB (l[i]'(by omega) :: l.drop (i + 1)) = false := by
        unfold okB
        rw [List.all_cons, decide_eq_false e, Bool.false_and]
      rw [h, Bool.false_and]

theorem validBytes_ok (l : List Int) (m : Int) (hl : l.length ≤ 2000000) (k : Nat) (hk : l.length < k) : spec_validBytes.f k l m = some (okB l && decide ((l.length : Int) ≤ m)) := by
  unfold spec_validBytes.f
  exact validBytes_l0 l m hl l.length k 0 (by omega) hk

theorem specUnP_l1 (l : List Int) (hl : l.length ≤ 17) (i e : Nat) (x : Int) (hx : wrap64 ((i : Int) + x) = (e : Int)) (he : e ≤ l.length) : ∀ (d K j : Nat) (o : List Int), j + d = e → o.length ≤ 100 + j →
    spec_UnpointBytes.l1 (K + 1 + d) l o (i : Int) x (j : Int) = if (0 : Int) ∈ (l.drop j).take d then some ([], false) else (if (e : Int) < (l.length : Int) then spec_UnpointBytes.l0 K l (o ++ (l.drop j).take d ++ [0]) (e : Int) else spec_UnpointBytes.l0 K l (o ++ (l.drop j).take d) (e : Int)) := by
  intro d
  induction d with
  | zero =>
    intro K j o hj ho
    rw [Nat.add_zero, spec_UnpointBytes.l1, hx, if_neg (by omega)]
    have h0 : ¬ (0 : Int) ∈ ([] : List Int) := by simp
    rw [List.take_zero, if_neg h0, List.append_nil]
    by_cases h : (e : Int) < (l.length : Int)
    · rw [if_pos h, if_pos (by omega), if_pos h]
    · rw [if_neg h, if_neg h]
  | succ d ih =>
    intro K j o hj ho
    rw [← Nat.add_assoc, spec_UnpointBytes.l1, hx, if_pos (by omega), if_pos (by omega), if_pos (by omega), step_nat j (by omega), rd_nat l j (by omega)]
    rw [List.drop_eq_getElem_cons (by omega : j < l.length), List.take_succ_cons]
    generalize l[j]'(by omega) = y
    by_cases hy : y = 0
    · rw [if_pos hy, if_pos (by simp [hy])]
    · rw [if_neg hy, if_pos (by omega), ih K (j + 1) (o ++ [y]) (by omega) (by rw [List.length_append, List.length_singleton]; omega)]
      have hmem : ((0 : Int) ∈ (l.drop (j + 1)).take d) ↔ ((0 : Int) ∈ y :: (l.drop (j + 1)).take d) := by
        rw [List.mem_cons]
        exact ⟨fun h => .inr h, fun h => h.resolve_left (fun h2 => hy h2.symm)⟩
      by_cases h0 : (0 : Int) ∈ (l.drop (j + 1)).take d
      · rw [if_pos h0, if_pos (hmem.1 h0)]
      · rw [if_neg h0, if_neg (fun h => h0 (hmem.2 h))]
        simp only [List.append_assoc, List.singleton_append]

theorem specUnP_l0 (l : List Int) (hok : okB l = true) (hl : l.length ≤ 17) : ∀ (d k i : Nat) (o : List Int), i + d = l.length → 1 ≤ d → 4 * d + 10 ≤ k → o.length ≤ 40 + i →
    ∃ r, spec_UnpointBytes.l0 k l o (i : Int) = some r ∧ (∀ t, l.drop i = pb t → r = (o ++ t, true)) ∧ ((¬ ∃ t, l.drop i = pb t) → r = ([], false)) := by
  have hb := (okB_iff l).1 hok
  intro d
  induction d using Nat.strongRecOn with
  | ind d ih =>
    intro k i o hi hd1 hk ho
    obtain ⟨k, rfl⟩ : ∃ m, k = m + 2 := ⟨k - 2, by omega⟩
    have hx := hb (l[i]'(by omega)) (List.getElem_mem _)
    rw [spec_UnpointBytes.l0, if_pos (by omega), if_pos (by omega), rd_nat l i (by omega)]
    have hdrop : l.drop i = l[i]'(by omega) :: l.drop (i + 1) := List.drop_eq_getElem_cons (by omega : i < l.length)
    generalize l[i]'(by omega) = x at hdrop hx ⊢
    have hshape : ∀ t, l.drop i = pb t → ∃ g : List Int, (∀ y ∈ g, y ≠ 0) ∧ x = (g.length : Int) + 1 ∧ ((t = g ∧ l.drop (i + 1) = g) ∨ ∃ t', t = g ++ 0 :: t' ∧ l.drop (i + 1) = g ++ pb t') := by
      intro t ht
      obtain ⟨g, hg, h | ⟨t', h⟩⟩ := split0 t
      · subst h
        rw [hdrop, pb_A t hg] at ht
        obtain ⟨e1, e2⟩ := List.cons.inj ht
        exact ⟨t, hg, e1, .inl ⟨rfl, e2⟩⟩
      · subst h
        rw [hdrop, pb_B g t' hg] at ht
        obtain ⟨e1, e2⟩ := List.cons.inj ht
        exact ⟨g, hg, e1, .inr ⟨t', rfl, e2⟩⟩
    have hl1 : (l.drop (i + 1)).length = l.length - (i + 1) := List.length_drop ..
    have hj2t : ∀ y : Int, spec_UnpointBytes.j2 (k + 1) l o (i : Int) y true = some ([], false) := fun y => by rw [spec_UnpointBytes.j2]; simp
    by_cases h0 : x = 0
    · rw [if_pos h0, hj2t]
      refine ⟨_, rfl, fun t ht => ?_, fun _ => rfl⟩
      obtain ⟨g, _, e, _⟩ := hshape t ht
      omega
    · rw [if_neg h0]
      obtain ⟨n, rfl⟩ := Int.eq_ofNat_of_zero_le hx.1
      have hw : wrap64 ((i : Int) + (n : Int)) = ((i + n : Nat) : Int) := (IntWalk.wrap64_in ((i : Int) + (n : Int)) (by omega)).trans (by omega)
      rw [hw]
      by_cases h3 : i + n ≤ l.length
      · rw [decide_eq_false (by omega), spec_UnpointBytes.j2]
        simp only [Bool.false_eq_true, if_false]
        rw [step_nat i (by omega)]
        obtain ⟨K, rfl⟩ : ∃ K, k = K + 1 + (n - 1) := ⟨k - n, by omega⟩
        rw [specUnP_l1 l hl i (i + n) (n : Int) hw h3 (n - 1) K (i + 1) o (by omega) (by omega)]
        have hsl : ((l.drop (i + 1)).take (n - 1)).length = n - 1 := by rw [List.length_take, List.length_drop]; omega
        have hpart := (List.take_append_drop (n - 1) (l.drop (i + 1))).symm
        rw [List.drop_drop, show i + 1 + (n - 1) = i + n by omega] at hpart
        generalize hseg : (l.drop (i + 1)).take (n - 1) = seg at hsl hpart ⊢
        have hshape2 : ∀ t, l.drop i = pb t → (∀ y ∈ seg, y ≠ 0) ∧ ((t = seg ∧ l.drop (i + n) = []) ∨ ∃ t', t = seg ++ 0 :: t' ∧ l.drop (i + n) = pb t') := by
          intro t ht
          obtain ⟨g, hg, e, h6⟩ := hshape t ht
          have hgl : g.length = seg.length := by omega
          rcases h6 with ⟨e1, e2⟩ | ⟨t', e1, e2⟩
          · rw [hpart] at e2
            have e3 : seg ++ l.drop (i + n) = g ++ [] := by rw [e2, List.append_nil]
            obtain ⟨e4, e5⟩ := List.append_inj e3 hgl.symm
            subst e4
            exact ⟨hg, .inl ⟨e1, e5⟩⟩
          · rw [hpart] at e2
            obtain ⟨e4, e5⟩ := List.append_inj e2 hgl.symm
            subst e4
            exact ⟨hg, .inr ⟨t', e1, e5⟩⟩
        by_cases hz : (0 : Int) ∈ seg
        · rw [if_pos hz]
          refine ⟨_, rfl, fun t ht => ?_, fun _ => rfl⟩
          exact absurd rfl ((hshape2 t ht).1 0 hz)
        · rw [if_neg hz]
          have hnz : ∀ y ∈ seg, y ≠ 0 := fun y hy h => hz (h ▸ hy)
          have hxn : ((n : Nat) : Int) = (seg.length : Int) + 1 := by omega
          by_cases h4 : i + n < l.length
          · rw [if_pos (by omega)]
            obtain ⟨r, hr, h5, h6⟩ := ih (d - n) (by omega) K (i + n) (o ++ seg ++ [0]) (by omega) (by omega) (by omega) (by simp only [List.length_append, List.length_cons, List.length_nil]; omega)
            refine ⟨r, hr, fun t ht => ?_, fun hno => h6 (fun ⟨t', ht'⟩ => hno ⟨seg ++ 0 :: t', ?_⟩)⟩
            · rcases (hshape2 t ht).2 with ⟨_, e2⟩ | ⟨t', e1, e2⟩
              · have := congrArg List.length e2
                rw [List.length_drop] at this
                simp at this
                omega
              · rw [h5 t' e2, e1]
                simp
            · rw [pb_B seg t' hnz, hdrop, hpart, ht', hxn]
          · rw [if_neg (by omega)]
            obtain ⟨K', rfl⟩ : ∃ m, K = m + 1 := ⟨K - 1, by omega⟩
            rw [spec_UnpointBytes.l0, if_neg (by omega)]
            have hnil : l.drop (i + n) = [] := List.drop_eq_nil_of_le (by omega)
            refine ⟨_, rfl, fun t ht => ?_, fun hno => absurd ⟨seg, ?_⟩ hno⟩
            · rcases (hshape2 t ht).2 with ⟨e1, _⟩ | ⟨t', _, e2⟩
              · rw [e1]
              · rw [hnil] at e2
                have := congrArg List.length e2
                rw [pb_length] at this
                simp at this
            · rw [pb_A seg hnz, hdrop, hpart, hnil, List.append_nil, hxn]
      · rw [decide_eq_true (by omega), hj2t]
        refine ⟨_, rfl, fun t ht => ?_, fun _ => rfl⟩
        obtain ⟨g, _, e, h6⟩ := hshape t ht
        rcases h6 with ⟨_, e2⟩ | ⟨t', _, e2⟩
        · rw [e2] at hl1
          omega
        · rw [e2, List.length_append] at hl1
          omega

theorem specUnP_ok (l : List Int) (hl : l.length ≤ 2000000) (k : Nat) (hk : l.length + 200 ≤ k) :
    ∃ r, spec_UnpointBytes.f k l = some r ∧ (∀ t, okB t = true → t.length ≤ 16 → l = pb t → r = (t, true)) ∧ ((¬ ∃ t, okB t = true ∧ t.length ≤ 16 ∧ l = pb t) → r = ([], false)) := by
  unfold spec_UnpointBytes.f
  obtain ⟨k, rfl⟩ : ∃ m, k = m + 1 := ⟨k - 1, by omega⟩
  have hT : spec_UnpointBytes.j0 (k + 1) l true = some ([], false) := by rw [spec_UnpointBytes.j0]; simp
  by_cases h0 : l.length = 0
  · rw [if_pos (by omega), hT]
    refine ⟨_, rfl, fun t _ _ h => ?_, fun _ => rfl⟩
    have := congrArg List.length h
    rw [pb_length] at this
    omega
  · rw [if_neg (by omega), validBytes_ok l 17 hl (k + 1) (by omega)]
    simp only [Option.bind_some]
    by_cases h1 : okB l = true ∧ (l.length : Int) ≤ 17
    · rw [h1.1, decide_eq_true h1.2]
      simp only [Bool.and_self, Bool.not_true]
      rw [spec_UnpointBytes.j0]
      simp only [Bool.false_eq_true, if_false]
      obtain ⟨r, hr, h2, h3⟩ := specUnP_l0 l h1.1 (by omega) l.length k 0 [] (by omega) (by omega) (by omega) (by simp)
      refine ⟨r, hr, fun t _ _ ht => by simpa using h2 t (by simpa using ht), fun hno => h3 (fun ⟨t, ht⟩ => hno ⟨t, ?_⟩)⟩
      rw [List.drop_zero] at ht
      have hlt := congrArg List.length ht
      rw [pb_length] at hlt
      refine ⟨okB_of_pb t (by rw [← ht]; exact h1.1), by omega, ht⟩
    · have hf : (okB l && decide ((l.length : Int) ≤ 17)) = false := by
        cases h5 : okB l
        · rfl
        · rw [decide_eq_false (fun h6 => h1 ⟨h5, h6⟩)]; rfl
      rw [hf, Bool.not_false, hT]
      refine ⟨_, rfl, fun t h2 h3 h => ?_, fun _ => rfl⟩
      have hlt := congrArg List.length h
      rw [pb_length] at hlt
      exact absurd ⟨by rw [h]; exact okB_pb t h2 h3, by omega⟩ h1


theorem agree (l : List Int) (hl : l.length ≤ 2000000) : ∃ r : List Int × Bool, r.1.length ≤ 16 ∧ ∀ k, 3 * l.length + 300 ≤ k → impl_UnpointBytes.f k l = some r ∧ spec_UnpointBytes.f k l = some r := by
  by_cases hE : ∃ t, okB t = true ∧ t.length ≤ 16 ∧ l = pb t
  · obtain ⟨t, h1, h2, h3⟩ := hE
    refine ⟨(t, true), h2, fun k hk => ?_⟩
    obtain ⟨r, e1, _, e2⟩ := unP_ok l hl k (by omega)
    obtain ⟨res, e3, e4, _⟩ := specUnP_ok l hl k (by omega)
    rw [e1, e3, e2 t h3 h2, e4 t h1 h2 h3]
    exact ⟨by unfold finP; rw [if_pos ⟨h1, h2, h3.symm⟩], rfl⟩
  · refine ⟨([], false), by simp, fun k hk => ?_⟩
    obtain ⟨r, e1, e2, _⟩ := unP_ok l hl k (by omega)
    obtain ⟨res, e3, _, e4⟩ := specUnP_ok l hl k (by omega)
    rw [e1, e3, e4 hE]
    refine ⟨?_, rfl⟩
    rcases e2 with e2 | ⟨o', e2⟩
    · rw [e2]
    · rw [e2]
      unfold finP
      rw [if_neg (fun c => hE ⟨o', c.1, c.2.1, c.2.2.symm⟩)]

theorem FnExactUnpointBytes : laws_FnExactUnpointBytes.Pure := by
  intro l _ _ _
  by_cases hc : (l.length : Int) > 1048576
  · exact ⟨0, by unfold laws_FnExactUnpointBytes.f; rw [if_pos hc]⟩
  · have hl : l.length ≤ 2000000 := by omega
    obtain ⟨r, hr, ha⟩ := agree l hl
    have hi := fun k hk => (ha k hk).1
    have hs := fun k hk => (ha k hk).2
    have hm1 : ¬ (1 + (l.length : Int) < 0) := by omega
    have hm2 : ¬ (1 + (r.1.length : Int) < 0) := by omega
    refine ⟨3 * l.length + 400, ?_⟩
    unfold laws_FnExactUnpointBytes.f
    rw [if_neg hc]
    simp (disch := omega) only [toIntS_ok, hs, hi, Option.bind_some, eqIntS_self, if_true, bne_self_eq_false]
    simp (disch := omega) only [laws_FnExactUnpointBytes.j0, Bool.false_eq_true, if_false, toIntS_ok, Option.bind_some, eqIntS_self, if_true, markIntS_ok, hm1, bne_self_eq_false]
    simp (disch := omega) only [laws_FnExactUnpointBytes.j1, Bool.false_eq_true, if_false, toIntS_ok, Option.bind_some, hi, eqIntS_self, if_true, markIntS_ok, heldIntS_ok, hm2, bne_self_eq_false]
    simp (disch := omega) only [laws_FnExactUnpointBytes.j2, Bool.false_eq_true, if_false, Option.bind_some, heldIntS_ok, hm2, if_true]

end Go.Proofs.Ytfklnhjipahonaa.Pure
