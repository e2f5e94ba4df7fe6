/- The program's SmoothOf returns what the reference's returns, in memory of its own, and leaves its argument as it was: FnExactSmoothOf returns true for every int and list of ints. Conditions: none. -/
import Derived.Test.YtdppkdcfocaemaaHFnExactSmoothOfx3
namespace Go.Proofs.Ytdppkdcfocaemaa.Pure
open Go.RowKit Go.Proofs.Ytdppkdcfocaemaa.HFnExactSmoothOf Go.Proofs.YtdppkdcfocaemaaW.PrintWords Go.Proofs.YtdppkdcfocaemaaW.PrintLast
open Go
set_option linter.unusedVariables false
set_option linter.unusedSimpArgs false

theorem rd_nat (l : List Int) (i : Nat) (h : i < l.length) : rd l (i : Int) = l[i] := by
  unfold rd
  rw [Int.toNat_natCast, List.getD_eq_getElem?_getD, List.getElem?_eq_getElem h]
  rfl

theorem step_nat (i : Nat) (h : i < 4611686018427387904) : wrap64 ((i : Int) + 1) = ((i + 1 : Nat) : Int) := by
  rw [IntWalk.wrap64_in ((i : Int) + 1) (by omega)]
  rfl

theorem toIntS_l0 (l : List Int) (hl : l.length ≤ 2000000) : ∀ (d k i : Nat) (o : List Int), i + d = l.length → d < k → o.length = l.length → (∀ j, j < i → o[j]? = l[j]?) → laws_toIntS.l0 k l o (i : Int) = some l := by
  intro d
  induction d with
  | zero =>
    intro k i o hi hk ho hj
    obtain ⟨k, rfl⟩ : ∃ m, k = m + 1 := ⟨k - 1, by omega⟩
    simp only [laws_toIntS.l0]
    rw [if_neg (by omega)]
    congr 1
    apply List.ext_getElem?
    intro j
    by_cases h : j < l.length
    · exact hj j (by omega)
    · rw [List.getElem?_eq_none (by omega), List.getElem?_eq_none (by omega)]
  | succ d ih =>
    intro k i o hi hk ho hj
    obtain ⟨k, rfl⟩ : ∃ m, k = m + 1 := ⟨k - 1, by omega⟩
    simp only [laws_toIntS.l0]
    rw [if_pos (by omega), if_pos (by omega), if_pos (by omega), step_nat i (by omega), Int.toNat_natCast, rd_nat l i (by omega)]
    refine ih k (i + 1) _ (by omega) (by omega) (by rw [List.length_set]; exact ho) ?_
    intro j hji
    by_cases e : i = j
    · subst e
      rw [List.getElem?_set_self (by omega), List.getElem?_eq_getElem (by omega)]
    · rw [List.getElem?_set_ne e]
      exact hj j (by omega)

theorem toIntS_ok (l : List Int) (hl : l.length ≤ 2000000) (k : Nat) (hk : l.length < k) : laws_toIntS.f k l = some l := by
  unfold laws_toIntS.f
  rw [if_pos (by omega), if_pos (by rw [Int.toNat_natCast]; omega), Int.toNat_natCast]
  exact toIntS_l0 l hl l.length k 0 _ (by omega) hk (List.length_replicate ..) (fun j hj => absurd hj (Nat.not_lt_zero _))

theorem eqIntS_l0 (a b : List Int) (hab : a.length = b.length) (hl : a.length ≤ 2000000) : ∀ (d k i : Nat), i + d = a.length → d < k → laws_eqIntS.l0 k a b (i : Int) = some (decide (a.drop i = b.drop i)) := by
  intro d
  induction d with
  | zero =>
    intro k i hi hk
    obtain ⟨k, rfl⟩ : ∃ m, k = m + 1 := ⟨k - 1, by omega⟩
    simp only [laws_eqIntS.l0]
    rw [if_neg (by omega), List.drop_eq_nil_of_le (by omega), List.drop_eq_nil_of_le (by omega)]
    rfl
  | succ d ih =>
    intro k i hi hk
    obtain ⟨k, rfl⟩ : ∃ m, k = m + 1 := ⟨k - 1, by omega⟩
    simp only [laws_eqIntS.l0]
    rw [if_pos (by omega), if_pos (by omega), if_pos (by omega), step_nat i (by omega), rd_nat a i (by omega), rd_nat b i (by omega)]
    rw [List.drop_eq_getElem_cons (by omega : i < a.length), List.drop_eq_getElem_cons (by omega : i < b.length)]
    by_cases e : a[i]'(by omega) = b[i]'(by omega)
    · rw [if_pos e, ih k (i + 1) (by omega) (by omega), e]
      exact congrArg some (decide_eq_decide.mpr ⟨fun h => by rw [h], fun h => (List.cons.inj h).2⟩)
    · rw [if_neg e]
      exact congrArg some (decide_eq_false (fun h => e (List.cons.inj h).1)).symm

theorem eqIntS_ok (a b : List Int) (hl : a.length ≤ 2000000) (k : Nat) (hk : a.length < k) : laws_eqIntS.f k a b = some (decide (a = b)) := by
  unfold laws_eqIntS.f
  by_cases h : a.length = b.length
  · rw [if_pos (by omega)]
    exact eqIntS_l0 a b h hl a.length k 0 (by omega) hk
  · rw [if_neg (by omega), decide_eq_false (fun e => h (by rw [e]))]

theorem eqIntS_self (a : List Int) (hl : a.length ≤ 2000000) (k : Nat) (hk : a.length < k) : laws_eqIntS.f k a a = some true := by
  rw [eqIntS_ok a a hl k hk, decide_eq_true rfl]

/-- m, m + 1, .. : n numbers. -/
def iota (m : Int) (n : Nat) : List Int := (List.range n).map fun j : Nat => m + (j : Int)

theorem iota_length (m : Int) (n : Nat) : (iota m n).length = n := by simp [iota]
theorem iota_get (m : Int) (n j : Nat) (h : j < (iota m n).length) : (iota m n)[j] = m + (j : Int) := by simp [iota]
theorem iota_get? (m : Int) (n j : Nat) (h : j < n) : (iota m n)[j]? = some (m + (j : Int)) := by
  rw [List.getElem?_eq_getElem (by rw [iota_length]; exact h), iota_get]

theorem markIntS_l0 (n : Nat) (m : Int) (hn : n ≤ 2000000) (hm : 0 ≤ m) (hm' : m ≤ 4000000) : ∀ (d k i : Nat) (o : List Int), i + d = n → d < k → o.length = n → (∀ j, j < i → o[j]? = (iota m n)[j]?) → laws_markIntS.l0 k o (m + (i : Int)) (i : Int) = some (m + (n : Int), iota m n) := by
  intro d
  induction d with
  | zero =>
    intro k i o hi hk ho hj
    obtain ⟨k, rfl⟩ : ∃ m, k = m + 1 := ⟨k - 1, by omega⟩
    simp only [laws_markIntS.l0]
    rw [if_neg (by omega)]
    have e : i = n := by omega
    subst e
    congr 2
    apply List.ext_getElem?
    intro j
    by_cases h : j < i
    · exact hj j h
    · rw [List.getElem?_eq_none (by omega), List.getElem?_eq_none (by rw [iota_length]; omega)]
  | succ d ih =>
    intro k i o hi hk ho hj
    obtain ⟨k, rfl⟩ : ∃ m, k = m + 1 := ⟨k - 1, by omega⟩
    simp only [laws_markIntS.l0]
    rw [if_pos (by omega), if_pos (by omega), step_nat i (by omega), Int.toNat_natCast, (IntWalk.wrap64_in (m + (i : Int) + 1) (by omega)).trans (show m + (i : Int) + 1 = m + ((i + 1 : Nat) : Int) by omega)]
    refine ih k (i + 1) _ (by omega) (by omega) (by rw [List.length_set]; exact ho) ?_
    intro j hji
    by_cases e : i = j
    · subst e
      rw [List.getElem?_set_self (by omega), iota_get? m n i (by omega)]
    · rw [List.getElem?_set_ne e]
      exact hj j (by omega)

theorem markIntS_ok (l : List Int) (m : Int) (hl : l.length ≤ 2000000) (hm : 0 ≤ m) (hm' : m ≤ 4000000) (k : Nat) (hk : l.length < k) : laws_markIntS.f k l m = some (m + (l.length : Int), iota m l.length) := by
  unfold laws_markIntS.f
  have h := markIntS_l0 l.length m hl hm hm' l.length k 0 l (by omega) hk rfl (fun j hj => absurd hj (Nat.not_lt_zero _))
  rw [show m + ((0 : Nat) : Int) = m by omega] at h
  exact h

theorem heldIntS_l0 (n : Nat) (m : Int) (hn : n ≤ 2000000) (hm : 0 ≤ m) (hm' : m ≤ 4000000) : ∀ (d k i : Nat), i + d = n → d < k → laws_heldIntS.l0 k (iota m n) (m + (i : Int)) (i : Int) = some (m + (n : Int)) := by
  intro d
  induction d with
  | zero =>
    intro k i hi hk
    obtain ⟨k, rfl⟩ : ∃ m, k = m + 1 := ⟨k - 1, by omega⟩
    simp only [laws_heldIntS.l0]
    rw [if_neg (by rw [iota_length]; omega)]
    have e : i = n := by omega
    rw [e]
  | succ d ih =>
    intro k i hi hk
    obtain ⟨k, rfl⟩ : ∃ m, k = m + 1 := ⟨k - 1, by omega⟩
    simp only [laws_heldIntS.l0]
    rw [if_pos (by rw [iota_length]; omega), if_pos (by omega), rd_nat _ i (by rw [iota_length]; omega), iota_get, if_pos rfl, step_nat i (by omega), (IntWalk.wrap64_in (m + (i : Int) + 1) (by omega)).trans (show m + (i : Int) + 1 = m + ((i + 1 : Nat) : Int) by omega)]
    exact ih k (i + 1) (by omega) (by omega)

theorem heldIntS_ok (n : Nat) (m : Int) (hn : n ≤ 2000000) (hm : 0 ≤ m) (hm' : m ≤ 4000000) (k : Nat) (hk : n < k) : laws_heldIntS.f k (iota m n) m = some (m + (n : Int)) := by
  unfold laws_heldIntS.f
  have h := heldIntS_l0 n m hn hm hm' n k 0 (by omega) hk
  rw [show m + ((0 : Nat) : Int) = m by omega] at h
  exact h

/-- Loads. -/
def okL (l : List Int) : Bool := l.all fun x => decide (0 ≤ x ∧ x ≤ 30)

theorem okL_iff (l : List Int) : okL l = true ↔ ∀ x ∈ l, 0 ≤ x ∧ x ≤ 30 := by simp [okL]

theorem inRange_val (x a b : Int) : spec_inRange.f x a b = some (decide (a ≤ x ∧ x ≤ b)) := by
  unfold spec_inRange.f
  by_cases h : a ≤ x
  · rw [if_pos h]; simp [h]
  · rw [if_neg h]; simp [h]

theorem validLoads_l0 (l : List Int) (hl : l.length ≤ 2000000) : ∀ (d k i : Nat), i + d = l.length → d < k → spec_validLoads.l0 k l (i : Int) = some (okL (l.drop i) && decide (l.length ≤ 16)) := by
  intro d
  induction d with
  | zero =>
    intro k i hi hk
    obtain ⟨k, rfl⟩ : ∃ m, k = m + 1 := ⟨k - 1, by omega⟩
    simp only [spec_validLoads.l0]
    rw [if_neg (by omega), List.drop_eq_nil_of_le (by omega)]
    have e : decide ((l.length : Int) ≤ 16) = decide (l.length ≤ 16) := decide_eq_decide.mpr (by omega)
    rw [e]
    simp [okL]
  | succ d ih =>
    intro k i hi hk
    obtain ⟨k, rfl⟩ : ∃ m, k = m + 1 := ⟨k - 1, by omega⟩
    simp only [spec_validLoads.l0]
    rw [if_pos (by omega), if_pos (by omega), step_nat i (by omega), rd_nat l i (by omega), inRange_val]
    rw [List.drop_eq_getElem_cons (by omega : i < l.length)]
    simp only [Option.bind_some]
    by_cases e : 0 ≤ l[i]'(by omega) ∧ l[i]'(by omega) ≤ 30
    · rw [if_pos (decide_eq_true e), ih k (i + 1) (by omega) (by omega)]
      have h : okL (l[i]'(by omega) :: l.drop (i + 1)) = okL (l.drop (i + 1)) := by
        unfold okL
        rw [List.all_cons, decide_eq_true e, Bool.true_and]
      rw [h]
    · rw [if_neg (by simpa using e)]
      have h : okL (l[i]'(by omega) :: l.drop (i + 1)) = false := by
        unfold okL
        rw [List.all_cons, decide_eq_false e, Bool.false_and]
      rw [h, Bool.false_and]

theorem validLoads_ok (l : List Int) (hl : l.length ≤ 2000000) (k : Nat) (hk : l.length < k) : spec_validLoads.f k l = some (okL l && decide (l.length ≤ 16)) := by
  unfold spec_validLoads.f
  exact validLoads_l0 l hl l.length k 0 (by omega) hk

theorem within_val (x a b : Int) : impl_within.f x a b = some (decide (a ≤ x ∧ x ≤ b)) := by
  unfold impl_within.f
  by_cases h : a ≤ x
  · rw [if_pos h]; simp [h]
  · rw [if_neg h]; simp [h]

theorem containsLoads_val (l : List Int) : hand_Contains_loadsOk.f l = some (!okL l) := by
  unfold hand_Contains_loadsOk.f okL impl_loadsOk_1.f
  congr 1
  induction l with
  | nil => rfl
  | cons x l ih =>
    rw [List.any_cons, List.all_cons, ih, within_val]
    simp only [Option.bind_some, Option.getD_some, Bool.not_and]

theorem loadsOk_val (l : List Int) : impl_loadsOk.f l = some (okL l && decide (l.length ≤ 16)) := by
  unfold impl_loadsOk.f
  rw [containsLoads_val]
  simp only [Option.bind_some, Bool.not_not]
  by_cases h : l.length ≤ 16
  · rw [if_pos (by omega)]; simp [h]
  · rw [if_neg (by omega)]; simp [h]

theorem mn_range (a b : Int) (ha : 0 ≤ a) (hb : 0 ≤ b) : 0 ≤ mn a b ∧ mn a b ≤ a ∧ mn a b ≤ b := by
  unfold mn
  split <;> omega

theorem mn_pos (a b : Int) (ha : 1 ≤ a) (hb : 1 ≤ b) : 1 ≤ mn a b := by
  unfold mn
  split <;> omega

/-- What leaves in each tick, and the most that waits; the first number bounds the ticks. -/
def sm (rate : Int) : Nat → List Int → Int → Int → List Int × Int
  | 0, _, _, m => ([], m)
  | f + 1, [], L, m => if L > 0 then (mn L rate :: (sm rate f [] (L - mn L rate) (mx m (L - mn L rate))).1, (sm rate f [] (L - mn L rate) (mx m (L - mn L rate))).2) else ([], m)
  | f + 1, x :: t, L, m => (mn (L + x) rate :: (sm rate f t (L + x - mn (L + x) rate) (mx m (L + x - mn (L + x) rate))).1, (sm rate f t (L + x - mn (L + x) rate) (mx m (L + x - mn (L + x) rate))).2)

theorem sm_length (rate : Int) : ∀ (f : Nat) (l : List Int) (L m : Int), (sm rate f l L m).1.length ≤ f
  | 0, _, _, _ => by simp [sm]
  | f + 1, [], L, m => by
    unfold sm
    split
    · have := sm_length rate f [] (L - mn L rate) (mx m (L - mn L rate))
      simp only [List.length_cons]
      omega
    · simp
  | f + 1, x :: t, L, m => by
    unfold sm
    have := sm_length rate f t (L + x - mn (L + x) rate) (mx m (L + x - mn (L + x) rate))
    simp only [List.length_cons]
    omega

/-- What both return. -/
def smooth (rate : Int) (l : List Int) : List Int × Int := if (1 ≤ rate ∧ rate ≤ 30) ∧ okL l = true ∧ l.length ≤ 16 then sm rate 500 l 0 0 else ([], -1)

theorem smooth_length (rate : Int) (l : List Int) : (smooth rate l).1.length ≤ 500 := by
  unfold smooth
  split
  · exact sm_length rate 500 l 0 0
  · simp

theorem implSm_l0 (rate : Int) (hr : 1 ≤ rate ∧ rate ≤ 30) (l : List Int) (hl : l.length ≤ 16) (hb : ∀ x ∈ l, 0 ≤ x ∧ x ≤ 30) : ∀ (f k i : Nat) (o : List Int) (L m : Int), 31 * (l.length - i) + L.toNat ≤ f → 2 * f + 3 ≤ k → i + f ≤ 3000 → o.length + f ≤ 5000 → 0 ≤ L →
    impl_SmoothOf.l0 k rate l o L m (i : Int) = some (o ++ (sm rate f (l.drop i) L m).1, (sm rate f (l.drop i) L m).2) := by
  intro f
  induction f with
  | zero =>
    intro k i o L m hm hk hi ho hL
    obtain ⟨k, rfl⟩ : ∃ m, k = m + 2 := ⟨k - 2, by omega⟩
    simp only [impl_SmoothOf.l0]
    rw [if_neg (by omega), decide_eq_false (by omega)]
    simp [impl_SmoothOf.j2, sm]
  | succ f ih =>
    intro k i o L m hm hk hi ho hL
    obtain ⟨k, rfl⟩ : ∃ m, k = m + 2 := ⟨k - 2, by omega⟩
    simp only [impl_SmoothOf.l0]
    by_cases h1 : i < l.length
    · rw [if_pos (by omega)]
      simp only [impl_SmoothOf.j2, if_true]
      rw [if_pos (by omega), if_pos (by omega), if_pos (by omega), step_nat i (by omega), rd_nat l i h1, List.drop_eq_getElem_cons h1]
      have hx := hb (l[i]'h1) (List.getElem_mem h1)
      generalize l[i]'h1 = x at hx ⊢
      have hn := mn_range (L + x) rate (by omega) (by omega)
      rw [IntWalk.wrap64_in (L + x) (by omega), IntWalk.wrap64_in (L + x - mn (L + x) rate) (by omega)]
      rw [ih k (i + 1) _ _ _ (by omega) (by omega) (by omega) (by rw [List.length_append, List.length_singleton]; omega) (by omega)]
      simp only [sm, List.append_assoc, List.singleton_append]
    · rw [if_neg (by omega), List.drop_eq_nil_of_le (by omega)]
      by_cases h2 : L > 0
      · rw [decide_eq_true h2]
        simp only [impl_SmoothOf.j2, if_true]
        rw [if_neg (by omega), if_pos (by omega), step_nat i (by omega)]
        have hn := mn_range L rate (by omega) (by omega)
        have hn1 := mn_pos L rate (by omega) (by omega)
        rw [IntWalk.wrap64_in (L - mn L rate) (by omega)]
        rw [ih k (i + 1) _ _ _ (by omega) (by omega) (by omega) (by rw [List.length_append, List.length_singleton]; omega) (by omega)]
        rw [List.drop_eq_nil_of_le (by omega : l.length ≤ i + 1)]
        simp only [sm, if_pos h2, List.append_assoc, List.singleton_append]
      · rw [decide_eq_false h2]
        simp [impl_SmoothOf.j2, sm, h2]

theorem implSm_ok (rate : Int) (l : List Int) (hl : l.length ≤ 2000000) (k : Nat) (hk : l.length + 1100 ≤ k) : impl_SmoothOf.f k rate l = some (smooth rate l) := by
  unfold impl_SmoothOf.f smooth
  obtain ⟨k, rfl⟩ : ∃ m, k = m + 1 := ⟨k - 1, by omega⟩
  rw [within_val, loadsOk_val l]
  simp only [Option.bind_some, decide_eq_true_eq]
  by_cases h1 : 1 ≤ rate ∧ rate ≤ 30
  · rw [if_pos h1]
    by_cases h2 : okL l = true ∧ l.length ≤ 16
    · rw [if_pos (show (1 ≤ rate ∧ rate ≤ 30) ∧ okL l = true ∧ l.length ≤ 16 from ⟨h1, h2⟩), h2.1, decide_eq_true h2.2]
      simp only [impl_SmoothOf.j0, Bool.and_self, Bool.not_true, Bool.false_eq_true, if_false]
      have := implSm_l0 rate h1 l h2.2 ((okL_iff l).1 h2.1) 500 k 0 [] 0 0 (by simp; omega) (by omega) (by omega) (by simp) (by omega)
      simpa using this
    · rw [if_neg (fun h => h2 h.2)]
      have h3 : (okL l && decide (l.length ≤ 16)) = false := by
        cases h4 : okL l
        · rfl
        · rw [decide_eq_false (fun h5 => h2 ⟨h4, h5⟩)]; rfl
      rw [h3]
      simp [impl_SmoothOf.j0]
  · rw [if_neg h1, if_neg (fun h => h1 h.1)]
    simp [impl_SmoothOf.j0]

theorem specSm_l0 (rate : Int) (hr : 1 ≤ rate ∧ rate ≤ 30) (l : List Int) (hl : l.length ≤ 16) (hb : ∀ x ∈ l, 0 ≤ x ∧ x ≤ 30) : ∀ (f k i : Nat) (o : List Int) (L m : Int), 31 * (l.length - i) + L.toNat ≤ f → 2 * f + 3 ≤ k → i + f ≤ 3000 → o.length + f ≤ 5000 → 0 ≤ L →
    spec_SmoothOf.l0 k rate l o L m (i : Int) = some (o ++ (sm rate f (l.drop i) L m).1, (sm rate f (l.drop i) L m).2) := by
  intro f
  induction f with
  | zero =>
    intro k i o L m hm hk hi ho hL
    obtain ⟨k, rfl⟩ : ∃ m, k = m + 2 := ⟨k - 2, by omega⟩
    simp only [spec_SmoothOf.l0]
    rw [if_neg (by omega), decide_eq_false (by omega)]
    simp [spec_SmoothOf.j2, sm]
  | succ f ih =>
    intro k i o L m hm hk hi ho hL
    obtain ⟨k, rfl⟩ : ∃ m, k = m + 2 := ⟨k - 2, by omega⟩
    simp only [spec_SmoothOf.l0]
    by_cases h1 : i < l.length
    · rw [if_pos (by omega)]
      simp only [spec_SmoothOf.j2, if_true]
      rw [if_pos (by omega), if_pos (by omega), if_pos (by omega), step_nat i (by omega), rd_nat l i h1, List.drop_eq_getElem_cons h1]
      have hx := hb (l[i]'h1) (List.getElem_mem h1)
      generalize l[i]'h1 = x at hx ⊢
      have hn := mn_range (L + x) rate (by omega) (by omega)
      rw [IntWalk.wrap64_in (L + x) (by omega), IntWalk.wrap64_in (L + x - mn (L + x) rate) (by omega)]
      rw [ih k (i + 1) _ _ _ (by omega) (by omega) (by omega) (by rw [List.length_append, List.length_singleton]; omega) (by omega)]
      simp only [sm, List.append_assoc, List.singleton_append]
    · rw [if_neg (by omega), List.drop_eq_nil_of_le (by omega)]
      by_cases h2 : L > 0
      · rw [decide_eq_true h2]
        simp only [spec_SmoothOf.j2, if_true]
        rw [if_neg (by omega), if_pos (by omega), step_nat i (by omega)]
        have hn := mn_range L rate (by omega) (by omega)
        have hn1 := mn_pos L rate (by omega) (by omega)
        rw [IntWalk.wrap64_in (L - mn L rate) (by omega)]
        rw [ih k (i + 1) _ _ _ (by omega) (by omega) (by omega) (by rw [List.length_append, List.length_singleton]; omega) (by omega)]
        rw [List.drop_eq_nil_of_le (by omega : l.length ≤ i + 1)]
        simp only [sm, if_pos h2, List.append_assoc, List.singleton_append]
      · rw [decide_eq_false h2]
        simp [spec_SmoothOf.j2, sm, h2]

theorem specSm_ok (rate : Int) (l : List Int) (hl : l.length ≤ 2000000) (k : Nat) (hk : l.length + 1100 ≤ k) : spec_SmoothOf.f k rate l = some (smooth rate l) := by
  unfold spec_SmoothOf.f smooth
  obtain ⟨k, rfl⟩ : ∃ m, k = m + 1 := ⟨k - 1, by omega⟩
  rw [inRange_val, validLoads_ok l hl (k + 1) (by omega)]
  simp only [Option.bind_some, decide_eq_true_eq]
  by_cases h1 : 1 ≤ rate ∧ rate ≤ 30
  · rw [if_pos h1]
    by_cases h2 : okL l = true ∧ l.length ≤ 16
    · rw [if_pos (show (1 ≤ rate ∧ rate ≤ 30) ∧ okL l = true ∧ l.length ≤ 16 from ⟨h1, h2⟩), h2.1, decide_eq_true h2.2]
      simp only [spec_SmoothOf.j0, Bool.and_self, Bool.not_true, Bool.false_eq_true, if_false]
      have := specSm_l0 rate h1 l h2.2 ((okL_iff l).1 h2.1) 500 k 0 [] 0 0 (by simp; omega) (by omega) (by omega) (by simp) (by omega)
      simpa using this
    · rw [if_neg (fun h => h2 h.2)]
      have h3 : (okL l && decide (l.length ≤ 16)) = false := by
        cases h4 : okL l
        · rfl
        · rw [decide_eq_false (fun h5 => h2 ⟨h4, h5⟩)]; rfl
      rw [h3]
      simp [spec_SmoothOf.j0]
  · rw [if_neg h1, if_neg (fun h => h1 h.1)]
    simp [spec_SmoothOf.j0]


theorem FnExactSmoothOf : laws_FnExactSmoothOf.Pure := by
  intro rate l _ _ _ _
  by_cases hc : (l.length : Int) > 1048576
  · exact ⟨0, by unfold laws_FnExactSmoothOf.f; rw [if_pos hc]⟩
  · have hl : l.length ≤ 2000000 := by omega
    have hr := smooth_length rate l
    have hi : ∀ k, l.length + 1100 ≤ k → impl_SmoothOf.f k rate l = some (smooth rate l) := implSm_ok rate l hl
    have hs : ∀ k, l.length + 1100 ≤ k → spec_SmoothOf.f k rate l = some (smooth rate l) := specSm_ok rate l hl
    generalize smooth rate l = r at hr hi hs
    have hm1 : ¬ (1 + (l.length : Int) < 0) := by omega
    have hm2 : ¬ (1 + (r.1.length : Int) < 0) := by omega
    refine ⟨l.length + 1200, ?_⟩
    unfold laws_FnExactSmoothOf.f
    rw [if_neg hc]
    simp (disch := omega) only [toIntS_ok, hs, hi, Option.bind_some, eqIntS_self, if_true, bne_self_eq_false]
    simp (disch := omega) only [laws_FnExactSmoothOf.j0, Bool.false_eq_true, if_false, toIntS_ok, Option.bind_some, eqIntS_self, if_true, markIntS_ok, hm1, bne_self_eq_false]
    simp (disch := omega) only [laws_FnExactSmoothOf.j1, Bool.false_eq_true, if_false, toIntS_ok, Option.bind_some, hi, eqIntS_self, if_true, markIntS_ok, heldIntS_ok, hm2, bne_self_eq_false]
    simp (disch := omega) only [laws_FnExactSmoothOf.j2, Bool.false_eq_true, if_false, Option.bind_some, heldIntS_ok, hm2, if_true]

end Go.Proofs.Ytdppkdcfocaemaa.Pure
