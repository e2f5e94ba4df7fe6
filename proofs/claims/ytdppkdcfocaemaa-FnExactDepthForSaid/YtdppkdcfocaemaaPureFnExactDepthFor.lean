/- The program's DepthFor returns what the reference's returns, and leaves its argument as it was: FnExactDepthFor returns true for every int and list of ints. Conditions: none. -/
import Derived.Test.YtdppkdcfocaemaaHFnExactDepthForx3
namespace Go.Proofs.Ytdppkdcfocaemaa.Pure
open Go.RowKit Go.Proofs.Ytdppkdcfocaemaa.HFnExactDepthFor Go.Proofs.YtdppkdcfocaemaaW.PrintWords Go.Proofs.YtdppkdcfocaemaaW.PrintLast
open Go
set_option linter.unusedVariables false
set_option linter.unusedSimpArgs false

theorem rd_nat (l : List Int) (i : Nat) (h : i < l.length) : rd l (i : Int) = l[i] := by
  unfold rd
  rw [Int.toNat_natCast, List.getD_eq_getElem?_getD, List.getElem?_eq_getElem h]
  rfl

theorem step_nat (i : Nat) (h : i < 4611686018427387904) : wrap64 ((i : Int) + 1) = ((i + 1 : Nat) : Int) := by
  rw [IntWalk.wrap64_in ((i : Int) + 1) (by omega)]
  rfl

theorem toIntS_l0 (l : List Int) (hl : l.length ≤ 2000000) : ∀ (d k i : Nat) (o : List Int), i + d = l.length → d < k → o.length = l.length → (∀ j, j < i → o[j]? = l[j]?) → laws_toIntS.l0 k l o (i : Int) = some l := by
  intro d
  induction d with
  | zero =>
    intro k i o hi hk ho hj
    obtain ⟨k, rfl⟩ : ∃ m, k = m + 1 := ⟨k - 1, by omega⟩
    simp only [laws_toIntS.l0]
    rw [if_neg (by omega)]
    congr 1
    apply List.ext_getElem?
    intro j
    by_cases h : j < l.length
    · exact hj j (by omega)
    · rw [List.getElem?_eq_none (by omega), List.getElem?_eq_none (by omega)]
  | succ d ih =>
    intro k i o hi hk ho hj
    obtain ⟨k, rfl⟩ : ∃ m, k = m + 1 := ⟨k - 1, by omega⟩
    simp only [laws_toIntS.l0]
    rw [if_pos (by omega), if_pos (by omega), if_pos (by omega), step_nat i (by omega), Int.toNat_natCast, rd_nat l i (by omega)]
    refine ih k (i + 1) _ (by omega) (by omega) (by rw [List.length_set]; exact ho) ?_
    intro j hji
    by_cases e : i = j
    · subst e
      rw [List.getElem?_set_self (by omega), List.getElem?_eq_getElem (by omega)]
    · rw [List.getElem?_set_ne e]
      exact hj j (by omega)

theorem toIntS_ok (l : List Int) (hl : l.length ≤ 2000000) (k : Nat) (hk : l.length < k) : laws_toIntS.f k l = some l := by
  unfold laws_toIntS.f
  rw [if_pos (by omega), if_pos (by rw [Int.toNat_natCast]; omega), Int.toNat_natCast]
  exact toIntS_l0 l hl l.length k 0 _ (by omega) hk (List.length_replicate ..) (fun j hj => absurd hj (Nat.not_lt_zero _))

theorem eqIntS_l0 (a b : List Int) (hab : a.length = b.length) (hl : a.length ≤ 2000000) : ∀ (d k i : Nat), i + d = a.length → d < k → laws_eqIntS.l0 k a b (i : Int) = some (decide (a.drop i = b.drop i)) := by
  intro d
  induction d with
  | zero =>
    intro k i hi hk
    obtain ⟨k, rfl⟩ : ∃ m, k = m + 1 := ⟨k - 1, by omega⟩
    simp only [laws_eqIntS.l0]
    rw [if_neg (by omega), List.drop_eq_nil_of_le (by omega), List.drop_eq_nil_of_le (by omega)]
    rfl
  | succ d ih =>
    intro k i hi hk
    obtain ⟨k, rfl⟩ : ∃ m, k = m + 1 := ⟨k - 1, by omega⟩
    simp only [laws_eqIntS.l0]
    rw [if_pos (by omega), if_pos (by omega), if_pos (by omega), step_nat i (by omega), rd_nat a i (by omega), rd_nat b i (by omega)]
    rw [List.drop_eq_getElem_cons (by omega : i < a.length), List.drop_eq_getElem_cons (by omega : i < b.length)]
    by_cases e : a[i]'(by omega) = b[i]'(by omega)
    · rw [if_pos e, ih k (i + 1) (by omega) (by omega), e]
      exact congrArg some (decide_eq_decide.mpr ⟨fun h => by rw [h], fun h => (List.cons.inj h).2⟩)
    · rw [if_neg e]
      exact congrArg some (decide_eq_false (fun h => e (List.cons.inj h).1)).symm

theorem eqIntS_ok (a b : List Int) (hl : a.length ≤ 2000000) (k : Nat) (hk : a.length < k) : laws_eqIntS.f k a b = some (decide (a = b)) := by
  unfold laws_eqIntS.f
  by_cases h : a.length = b.length
  · rw [if_pos (by omega)]
    exact eqIntS_l0 a b h hl a.length k 0 (by omega) hk
  · rw [if_neg (by omega), decide_eq_false (fun e => h (by rw [e]))]

theorem eqIntS_self (a : List Int) (hl : a.length ≤ 2000000) (k : Nat) (hk : a.length < k) : laws_eqIntS.f k a a = some true := by
  rw [eqIntS_ok a a hl k hk, decide_eq_true rfl]

theorem mn_min (a b : Int) : mn a b = min a b := by unfold mn; omega

/-- Which loads pass a bucket with so much left, the first one first or not, and what is left. -/
def pas (rate depth : Int) : List Int → Bool → Int → List Bool × Int
  | [], _, left => ([], left)
  | x :: t, first, left =>
    if x ≤ (if first = true then left else min depth (left + rate)) then (true :: (pas rate depth t false ((if first = true then left else min depth (left + rate)) - x)).1, (pas rate depth t false ((if first = true then left else min depth (left + rate)) - x)).2)
    else (false :: (pas rate depth t false (if first = true then left else min depth (left + rate))).1, (pas rate depth t false (if first = true then left else min depth (left + rate))).2)

theorem pas_length (rate depth : Int) : ∀ (l : List Int) (b : Bool) (left : Int), (pas rate depth l b left).1.length = l.length
  | [], _, _ => by simp [pas]
  | x :: t, b, left => by
    unfold pas
    generalize (if b = true then left else min depth (left + rate)) = m
    split
    · simp only [List.length_cons, pas_length rate depth t]
    · simp only [List.length_cons, pas_length rate depth t]

theorem pas_left (rate depth : Int) (hr : 0 ≤ rate) : ∀ (l : List Int) (b : Bool) (left : Int), (∀ x ∈ l, 0 ≤ x ∧ x ≤ 30) → 0 ≤ left → left ≤ depth → 0 ≤ (pas rate depth l b left).2 ∧ (pas rate depth l b left).2 ≤ depth
  | [], _, left, _, h0, h1 => by simp [pas]; omega
  | x :: t, b, left, hb, h0, h1 => by
    have hx := hb x (List.mem_cons_self ..)
    have ht : ∀ z ∈ t, 0 ≤ z ∧ z ≤ 30 := fun z hz => hb z (List.mem_cons_of_mem _ hz)
    unfold pas
    have hm : 0 ≤ (if b = true then left else min depth (left + rate)) ∧ (if b = true then left else min depth (left + rate)) ≤ depth := by split <;> omega
    generalize (if b = true then left else min depth (left + rate)) = m at hm ⊢
    split
    · exact pas_left rate depth hr t false (m - x) ht (by omega) (by omega)
    · exact pas_left rate depth hr t false m ht (by omega) (by omega)

/-- Loads. -/
def okL (l : List Int) : Bool := l.all fun x => decide (0 ≤ x ∧ x ≤ 30)

theorem okL_iff (l : List Int) : okL l = true ↔ ∀ x ∈ l, 0 ≤ x ∧ x ≤ 30 := by simp [okL]

theorem inRange_val (x a b : Int) : spec_inRange.f x a b = some (decide (a ≤ x ∧ x ≤ b)) := by
  unfold spec_inRange.f
  by_cases h : a ≤ x
  · rw [if_pos h]; simp [h]
  · rw [if_neg h]; simp [h]

theorem validLoads_l0 (l : List Int) (hl : l.length ≤ 2000000) : ∀ (d k i : Nat), i + d = l.length → d < k → spec_validLoads.l0 k l (i : Int) = some (okL (l.drop i) && decide (l.length ≤ 16)) := by
  intro d
  induction d with
  | zero =>
    intro k i hi hk
    obtain ⟨k, rfl⟩ : ∃ m, k = m + 1 := ⟨k - 1, by omega⟩
    simp only [spec_validLoads.l0]
    rw [if_neg (by omega), List.drop_eq_nil_of_le (by omega)]
    have e : decide ((l.length : Int) ≤ 16) = decide (l.length ≤ 16) := decide_eq_decide.mpr (by omega)
    rw [e]
    simp [okL]
  | succ d ih =>
    intro k i hi hk
    obtain ⟨k, rfl⟩ : ∃ m, k = m + 1 := ⟨k - 1, by omega⟩
    simp only [spec_validLoads.l0]
    rw [if_pos (by omega), if_pos (by omega), step_nat i (by omega), rd_nat l i (by omega), inRange_val]
    rw [List.drop_eq_getElem_cons (by omega : i < l.length)]
    simp only [Option.bind_some]
    by_cases e : 0 ≤ l[i]'(by omega) ∧ l[i]'(by omega) ≤ 30
    · rw [if_pos (decide_eq_true e), ih k (i + 1) (by omega) (by omega)]
      have h : okL (l[i]'(by omega) :: l.drop (i + 1)) = okL (l.drop (i + 1)) := by
        unfold okL
        rw [List.all_cons, decide_eq_true e, Bool.true_and]
      rw [h]
    · rw [if_neg (by simpa using e)]
      have h : okL (l[i]'(by omega) :: l.drop (i + 1)) = false := by
        unfold okL
        rw [List.all_cons, decide_eq_false e, Bool.false_and]
      rw [h, Bool.false_and]

theorem validLoads_ok (l : List Int) (hl : l.length ≤ 2000000) (k : Nat) (hk : l.length < k) : spec_validLoads.f k l = some (okL l && decide (l.length ≤ 16)) := by
  unfold spec_validLoads.f
  exact validLoads_l0 l hl l.length k 0 (by omega) hk

theorem specPas_l0 (rate depth : Int) (hr : 0 ≤ rate ∧ rate ≤ 30) (hd : 0 ≤ depth ∧ depth ≤ 200) (l : List Int) (hl : l.length ≤ 16) (hb : ∀ x ∈ l, 0 ≤ x ∧ x ≤ 30) : ∀ (d k i : Nat) (o : List Bool) (left : Int), i + d = l.length → d < k → o.length ≤ i → 0 ≤ left → left ≤ depth →
    spec_passes.l0 k rate depth l o left (i : Int) = some (o ++ (pas rate depth (l.drop i) (decide (i = 0)) left).1, (pas rate depth (l.drop i) (decide (i = 0)) left).2) := by
  intro d
  induction d with
  | zero =>
    intro k i o left hi hk ho h0 h1
    obtain ⟨k, rfl⟩ : ∃ m, k = m + 1 := ⟨k - 1, by omega⟩
    simp only [spec_passes.l0]
    rw [if_neg (by omega), List.drop_eq_nil_of_le (by omega)]
    simp [pas]
  | succ d ih =>
    intro k i o left hi hk ho h0 h1
    obtain ⟨k, rfl⟩ : ∃ m, k = m + 1 := ⟨k - 1, by omega⟩
    simp only [spec_passes.l0]
    have hx := hb (l[i]'(by omega)) (List.getElem_mem _)
    rw [if_pos (by omega), step_nat i (by omega), rd_nat l i (by omega), List.drop_eq_getElem_cons (by omega : i < l.length)]
    generalize l[i]'(by omega) = x at hx ⊢
    have hlen : ∀ z : Bool, (o ++ [z]).length ≤ i + 1 := fun z => by rw [List.length_append, List.length_singleton]; omega
    have hne : decide (i + 1 = 0) = false := decide_eq_false (by omega)
    by_cases hz : i = 0
    · rw [if_neg (by omega), if_pos (by omega)]
      rw [decide_eq_true hz]
      by_cases hp : x ≤ left
      · rw [if_pos hp, if_pos (by omega), IntWalk.wrap64_in (left - x) (by omega), ih k (i + 1) _ _ (by omega) (by omega) (hlen _) (by omega) (by omega), hne]
        simp [pas, hp]
      · rw [if_neg hp, if_pos (by omega), ih k (i + 1) _ _ (by omega) (by omega) (hlen _) (by omega) (by omega), hne]
        simp [pas, hp]
    · rw [if_pos (by omega), if_pos (by omega)]
      rw [decide_eq_false hz, IntWalk.wrap64_in (left + rate) (by omega), mn_min]
      have hm : 0 ≤ min depth (left + rate) ∧ min depth (left + rate) ≤ depth := by omega
      by_cases hp : x ≤ min depth (left + rate)
      · rw [if_pos hp, if_pos (by omega), IntWalk.wrap64_in (min depth (left + rate) - x) (by omega), ih k (i + 1) _ _ (by omega) (by omega) (hlen _) (by omega) (by omega), hne]
        simp only [pas, Bool.false_eq_true, if_false, if_pos hp, List.append_assoc, List.singleton_append]
      · rw [if_neg hp, if_pos (by omega), ih k (i + 1) _ _ (by omega) (by omega) (hlen _) (by omega) (by omega), hne]
        simp only [pas, Bool.false_eq_true, if_false, if_neg hp, List.append_assoc, List.singleton_append]

theorem specPasses_ok (rate depth : Int) (hr : 0 ≤ rate ∧ rate ≤ 30) (hd : 0 ≤ depth ∧ depth ≤ 200) (l : List Int) (hl : l.length ≤ 16) (hb : ∀ x ∈ l, 0 ≤ x ∧ x ≤ 30) (k : Nat) (hk : l.length < k) : spec_passes.f k rate depth l = some (pas rate depth l true depth) := by
  unfold spec_passes.f
  have := specPas_l0 rate depth hr hd l hl hb l.length k 0 [] depth (by omega) hk (by simp) (by omega) (by omega)
  simpa using this

theorem bucket_val (rate depth : Int) : spec_validBucket.f rate depth = some (decide ((0 ≤ rate ∧ rate ≤ 30) ∧ (0 ≤ depth ∧ depth ≤ 200))) := by
  unfold spec_validBucket.f
  simp only [inRange_val, Option.bind_some, decide_eq_true_eq]
  by_cases h : 0 ≤ rate ∧ rate ≤ 30
  · rw [if_pos h]; simp [h]
  · rw [if_neg h]; simp [h]

theorem within_val (x a b : Int) : impl_within.f x a b = some (decide (a ≤ x ∧ x ≤ b)) := by
  unfold impl_within.f
  by_cases h : a ≤ x
  · rw [if_pos h]; simp [h]
  · rw [if_neg h]; simp [h]

theorem containsLoads_val (l : List Int) : hand_Contains_loadsOk.f l = some (!okL l) := by
  unfold hand_Contains_loadsOk.f okL impl_loadsOk_1.f
  congr 1
  induction l with
  | nil => rfl
  | cons x l ih =>
    rw [List.any_cons, List.all_cons, ih, within_val]
    simp only [Option.bind_some, Option.getD_some, Bool.not_and]

theorem loadsOk_val (l : List Int) : impl_loadsOk.f l = some (okL l && decide (l.length ≤ 16)) := by
  unfold impl_loadsOk.f
  rw [containsLoads_val]
  simp only [Option.bind_some, Bool.not_not]
  by_cases h : l.length ≤ 16
  · rw [if_pos (by omega)]; simp [h]
  · rw [if_neg (by omega)]; simp [h]

theorem implPas_l0 (rate depth : Int) (hr : 0 ≤ rate ∧ rate ≤ 30) (hd : 0 ≤ depth ∧ depth ≤ 200) (l : List Int) (hl : l.length ≤ 16) (hb : ∀ x ∈ l, 0 ≤ x ∧ x ≤ 30) : ∀ (d k i : Nat) (o : List Bool) (left : Int), i + d = l.length → d < k → o.length ≤ i → 0 ≤ left → left ≤ depth →
    impl_PassesOf.l0 k rate depth o left l (l.length : Int) (i : Int) = some (o ++ (pas rate depth (l.drop i) (decide (i = 0)) left).1, (pas rate depth (l.drop i) (decide (i = 0)) left).2) := by
  intro d
  induction d with
  | zero =>
    intro k i o left hi hk ho h0 h1
    obtain ⟨k, rfl⟩ : ∃ m, k = m + 1 := ⟨k - 1, by omega⟩
    simp only [impl_PassesOf.l0]
    rw [if_neg (by omega), List.drop_eq_nil_of_le (by omega)]
    simp [pas]
  | succ d ih =>
    intro k i o left hi hk ho h0 h1
    obtain ⟨k, rfl⟩ : ∃ m, k = m + 1 := ⟨k - 1, by omega⟩
    simp only [impl_PassesOf.l0]
    have hx := hb (l[i]'(by omega)) (List.getElem_mem _)
    rw [if_pos (by omega), if_pos (by omega), if_pos (by omega), step_nat i (by omega), rd_nat l i (by omega), List.drop_eq_getElem_cons (by omega : i < l.length)]
    generalize l[i]'(by omega) = x at hx ⊢
    have hlen : ∀ z : Bool, (o ++ [z]).length ≤ i + 1 := fun z => by rw [List.length_append, List.length_singleton]; omega
    have hne : decide (i + 1 = 0) = false := decide_eq_false (by omega)
    by_cases hz : i = 0
    · rw [if_neg (by omega)]
      rw [decide_eq_true hz]
      by_cases hp : x ≤ left
      · rw [if_pos hp, if_pos (by omega), IntWalk.wrap64_in (left - x) (by omega), ih k (i + 1) _ _ (by omega) (by omega) (hlen _) (by omega) (by omega), hne]
        simp [pas, hp]
      · rw [if_neg hp, if_pos (by omega), ih k (i + 1) _ _ (by omega) (by omega) (hlen _) (by omega) (by omega), hne]
        simp [pas, hp]
    · rw [if_pos (by omega)]
      rw [decide_eq_false hz, IntWalk.wrap64_in (left + rate) (by omega), mn_min, Int.min_comm (left + rate) depth]
      have hm : 0 ≤ min depth (left + rate) ∧ min depth (left + rate) ≤ depth := by omega
      by_cases hp : x ≤ min depth (left + rate)
      · rw [if_pos hp, if_pos (by omega), IntWalk.wrap64_in (min depth (left + rate) - x) (by omega), ih k (i + 1) _ _ (by omega) (by omega) (hlen _) (by omega) (by omega), hne]
        simp only [pas, Bool.false_eq_true, if_false, if_pos hp, List.append_assoc, List.singleton_append]
      · rw [if_neg hp, if_pos (by omega), ih k (i + 1) _ _ (by omega) (by omega) (hlen _) (by omega) (by omega), hne]
        simp only [pas, Bool.false_eq_true, if_false, if_neg hp, List.append_assoc, List.singleton_append]

/-- What both return. -/
def passB (rate depth : Int) (l : List Int) : List Bool × Int := if (0 ≤ rate ∧ rate ≤ 30) ∧ (0 ≤ depth ∧ depth ≤ 200) ∧ okL l = true ∧ l.length ≤ 16 then pas rate depth l true depth else ([], -1)

theorem passB_length (rate depth : Int) (l : List Int) : (passB rate depth l).1.length ≤ 16 := by
  unfold passB
  split
  · next h => rw [pas_length]; exact h.2.2.2
  · simp

theorem implPasses_ok (rate depth : Int) (l : List Int) (k : Nat) (hk : l.length + 1 < k) : impl_PassesOf.f k rate depth l = some (passB rate depth l) := by
  unfold impl_PassesOf.f passB
  obtain ⟨k, rfl⟩ : ∃ m, k = m + 1 := ⟨k - 1, by omega⟩
  simp only [within_val, loadsOk_val, Option.bind_some, decide_eq_true_eq]
  by_cases h1 : 0 ≤ rate ∧ rate ≤ 30
  · rw [if_pos h1]
    by_cases h2 : 0 ≤ depth ∧ depth ≤ 200
    · rw [if_pos h2]
      by_cases h3 : okL l = true ∧ l.length ≤ 16
      · rw [if_pos (show (0 ≤ rate ∧ rate ≤ 30) ∧ (0 ≤ depth ∧ depth ≤ 200) ∧ okL l = true ∧ l.length ≤ 16 from ⟨h1, h2, h3⟩), h3.1, decide_eq_true h3.2]
        simp only [impl_PassesOf.j0, Bool.and_self, Bool.not_true, Bool.false_eq_true, if_false]
        have := implPas_l0 rate depth h1 h2 l h3.2 ((okL_iff l).1 h3.1) l.length k 0 [] depth (by omega) (by omega) (by simp) (by omega) (by omega)
        simpa using this
      · rw [if_neg (fun h => h3 h.2.2)]
        have h4 : (okL l && decide (l.length ≤ 16)) = false := by
          cases h5 : okL l
          · rfl
          · rw [decide_eq_false (fun h6 => h3 ⟨h5, h6⟩)]; rfl
        rw [h4]
        simp [impl_PassesOf.j0]
    · rw [if_neg h2, if_neg (fun h => h2 h.2.1)]
      simp [impl_PassesOf.j0]
  · rw [if_neg h1, if_neg (fun h => h1 h.1)]
    simp [impl_PassesOf.j0]

theorem rdOf_nat (l : List Bool) (i : Nat) (h : i < l.length) : rdOf false l (i : Int) = l[i] := by
  unfold rdOf
  rw [Int.toNat_natCast, List.getD_eq_getElem?_getD, List.getElem?_eq_getElem h]
  rfl

/-- The greatest sum of first loads less what the rate brings between them; 0 for none. -/
def pn (rate : Int) : List Int → Int
  | [] => 0
  | x :: t => x + max 0 (pn rate t - rate)
/-- The greatest sum of loads behind each other less what the rate brings between them. -/
def dep (rate : Int) : List Int → Int
  | [] => 0
  | x :: t => max (pn rate (x :: t)) (dep rate t)
/-- The most that is in use at once, v of it at first. -/
def dp (rate : Int) : List Int → Int → Int → Int
  | [], _, acc => acc
  | x :: t, v, acc => dp rate t (max (x + v - rate) 0) (max acc (x + v))

theorem pn_nonneg (rate : Int) : ∀ l : List Int, (∀ x ∈ l, 0 ≤ x ∧ x ≤ 30) → 0 ≤ pn rate l
  | [], _ => by simp [pn]
  | x :: t, h => by
    have := h x (List.mem_cons_self ..)
    unfold pn
    omega

theorem pn_le (rate : Int) (hr : 0 ≤ rate) : ∀ l : List Int, (∀ x ∈ l, 0 ≤ x ∧ x ≤ 30) → pn rate l ≤ 30 * l.length
  | [], _ => by simp [pn]
  | x :: t, h => by
    have h1 := h x (List.mem_cons_self ..)
    have h2 := pn_le rate hr t (fun y hy => h y (List.mem_cons_of_mem _ hy))
    unfold pn
    rw [List.length_cons]
    omega

theorem dep_ge (rate : Int) : ∀ l : List Int, (∀ x ∈ l, 0 ≤ x ∧ x ≤ 30) → 0 ≤ dep rate l ∧ pn rate l ≤ dep rate l
  | [], _ => by simp [dep, pn]
  | x :: t, h => by
    have h1 := pn_nonneg rate (x :: t) h
    unfold dep
    omega

theorem dep_le (rate : Int) (hr : 0 ≤ rate) : ∀ l : List Int, (∀ x ∈ l, 0 ≤ x ∧ x ≤ 30) → dep rate l ≤ 30 * l.length
  | [], _ => by simp [dep]
  | x :: t, h => by
    have h1 := pn_le rate hr (x :: t) h
    have h2 := dep_le rate hr t (fun y hy => h y (List.mem_cons_of_mem _ hy))
    unfold dep
    rw [List.length_cons] at h1 ⊢
    omega

theorem dp_eq (rate : Int) (hr : 0 ≤ rate) : ∀ (l : List Int) (v acc : Int), (∀ x ∈ l, 0 ≤ x ∧ x ≤ 30) → 0 ≤ v → v ≤ acc → dp rate l v acc = max acc (max (dep rate l) (v + pn rate l))
  | [], v, acc, _, hv, ha => by simp only [dp, dep, pn]; omega
  | x :: t, v, acc, h, hv, ha => by
    have h1 := h x (List.mem_cons_self ..)
    have ht : ∀ y ∈ t, 0 ≤ y ∧ y ≤ 30 := fun y hy => h y (List.mem_cons_of_mem _ hy)
    have h2 := dep_ge rate t ht
    simp only [dp]
    rw [dp_eq rate hr t _ _ ht (by omega) (by omega)]
    simp only [dep, pn]
    omega

theorem dp_zero (rate : Int) (hr : 0 ≤ rate) (l : List Int) (h : ∀ x ∈ l, 0 ≤ x ∧ x ≤ 30) : dp rate l 0 0 = dep rate l := by
  have h2 := dep_ge rate l h
  rw [dp_eq rate hr l 0 0 h (by omega) (by omega)]
  omega

theorem dp_mono (rate : Int) : ∀ (l : List Int) (v acc : Int), acc ≤ dp rate l v acc
  | [], _, acc => by simp [dp]
  | x :: t, v, acc => by
    have := dp_mono rate t (max (x + v - rate) 0) (max acc (x + v))
    unfold dp
    omega

theorem pas_all (rate depth : Int) (hr : 0 ≤ rate) : ∀ (l : List Int) (b : Bool) (left w acc : Int), (if b = true then left else min depth (left + rate)) = depth - w → 0 ≤ w → acc ≤ depth → ((pas rate depth l b left).1.all id = true ↔ dp rate l w acc ≤ depth)
  | [], b, left, w, acc, _, _, ha => by simp [pas, dp, ha]
  | x :: t, b, left, w, acc, hm, hw, ha => by
    unfold pas dp
    rw [hm]
    by_cases h : x ≤ depth - w
    · rw [if_pos h]
      simp only [List.all_cons, id, Bool.true_and]
      exact pas_all rate depth hr t false (depth - w - x) _ _ (by simp only [Bool.false_eq_true, if_false]; omega) (by omega) (by omega)
    · rw [if_neg h]
      have := dp_mono rate t (max (x + w - rate) 0) (max acc (x + w))
      simp only [List.all_cons, id, Bool.false_and, Bool.false_eq_true, false_iff]
      omega

theorem pas_fits (rate depth : Int) (hr : 0 ≤ rate) (hd : 0 ≤ depth) (l : List Int) (hb : ∀ x ∈ l, 0 ≤ x ∧ x ≤ 30) : (pas rate depth l true depth).1.all id = decide (dep rate l ≤ depth) := by
  have h := pas_all rate depth hr l true depth 0 0 (by simp) (by omega) hd
  rw [dp_zero rate hr l hb] at h
  rw [Bool.eq_iff_iff, h]
  simp

theorem index_l0 (bs : List Bool) (hl : bs.length ≤ 2000) : ∀ (d k i : Nat), i + d = bs.length → d < k → ∃ r, slices_Index_bool_bool.l0 k bs false (bs.length : Int) (i : Int) = some r ∧ decide (r ≥ 0) = !((bs.drop i).all id) := by
  intro d
  induction d with
  | zero =>
    intro k i hi hk
    obtain ⟨k, rfl⟩ : ∃ m, k = m + 1 := ⟨k - 1, by omega⟩
    refine ⟨-1, ?_, ?_⟩
    · simp only [slices_Index_bool_bool.l0]
      rw [if_neg (by omega)]
    · rw [List.drop_eq_nil_of_le (by omega)]
      rfl
  | succ d ih =>
    intro k i hi hk
    obtain ⟨k, rfl⟩ : ∃ m, k = m + 1 := ⟨k - 1, by omega⟩
    obtain ⟨r, h1, h2⟩ := ih k (i + 1) (by omega) (by omega)
    rw [List.drop_eq_getElem_cons (by omega : i < bs.length)]
    simp only [slices_Index_bool_bool.l0]
    rw [if_pos (by omega), if_pos (by omega), if_pos (by omega), step_nat i (by omega), rdOf_nat bs i (by omega)]
    generalize bs[i]'(by omega) = b
    cases b with
    | true => exact ⟨r, by simpa using h1, by simpa using h2⟩
    | false => exact ⟨(i : Int), by simp, by simp⟩

theorem contains_ok (bs : List Bool) (hl : bs.length ≤ 2000) (k : Nat) (hk : bs.length < k) : slices_Contains_bool_bool.f k bs false = some (!(bs.all id)) := by
  obtain ⟨r, h1, h2⟩ := index_l0 bs hl bs.length k 0 (by omega) hk
  unfold slices_Contains_bool_bool.f slices_Index_bool_bool.f
  rw [show ((0 : Nat) : Int) = 0 from rfl] at h1
  rw [h1]
  simp only [Option.bind_some, h2, List.drop_zero]

theorem fits_l0 (bs : List Bool) (hl : bs.length ≤ 2000) : ∀ (d k i : Nat), i + d = bs.length → d < k → spec_fits.l0 k bs (i : Int) = some ((bs.drop i).all id) := by
  intro d
  induction d with
  | zero =>
    intro k i hi hk
    obtain ⟨k, rfl⟩ : ∃ m, k = m + 1 := ⟨k - 1, by omega⟩
    simp only [spec_fits.l0]
    rw [if_neg (by omega), List.drop_eq_nil_of_le (by omega)]
    rfl
  | succ d ih =>
    intro k i hi hk
    obtain ⟨k, rfl⟩ : ∃ m, k = m + 1 := ⟨k - 1, by omega⟩
    have h1 := ih k (i + 1) (by omega) (by omega)
    rw [List.drop_eq_getElem_cons (by omega : i < bs.length)]
    simp only [spec_fits.l0]
    rw [if_pos (by omega), if_pos (by omega), step_nat i (by omega), rdOf_nat bs i (by omega), h1]
    generalize bs[i]'(by omega) = b
    cases b <;> simp

/-- What both loops return. -/
def depR (rate : Int) (l : List Int) : Int × Bool := if dep rate l ≤ 200 then (dep rate l, true) else (0, false)

theorem implDepth_l0 (rate : Int) (hr : 0 ≤ rate ∧ rate ≤ 30) (l : List Int) (hok : okL l = true) (hl : l.length ≤ 16) : ∀ (n k i : Nat), i + n = 201 → n + 40 ≤ k → (i : Int) ≤ dep rate l → impl_DepthFor.l0 k rate l (i : Int) = some (depR rate l) := by
  have hb := (okL_iff l).1 hok
  intro n
  induction n with
  | zero =>
    intro k i hi hk hd
    obtain ⟨k, rfl⟩ : ∃ m, k = m + 1 := ⟨k - 1, by omega⟩
    simp only [impl_DepthFor.l0]
    rw [if_neg (by omega)]
    unfold depR
    rw [if_neg (by omega)]
  | succ n ih =>
    intro k i hi hk hd
    obtain ⟨k, rfl⟩ : ∃ m, k = m + 1 := ⟨k - 1, by omega⟩
    simp only [impl_DepthFor.l0]
    have hv : passB rate (i : Int) l = pas rate (i : Int) l true (i : Int) := by unfold passB; rw [if_pos ⟨hr, by omega, hok, hl⟩]
    have hlen := pas_length rate (i : Int) l true (i : Int)
    rw [if_pos (by omega), implPasses_ok rate (i : Int) l k (by omega), hv]
    simp only [Option.bind_some]
    rw [contains_ok _ (by omega) k (by omega), pas_fits rate (i : Int) hr.1 (by omega) l hb]
    simp only [Option.bind_some]
    by_cases h : dep rate l ≤ (i : Int)
    · rw [decide_eq_true h]
      simp only [Bool.not_true, Bool.false_eq_true, if_false]
      unfold depR
      rw [if_pos (by omega), show dep rate l = (i : Int) by omega]
    · rw [decide_eq_false h, step_nat i (by omega)]
      simp only [Bool.not_false, if_true]
      exact ih k (i + 1) (by omega) (by omega) (by omega)

theorem specDepth_l0 (rate : Int) (hr : 0 ≤ rate ∧ rate ≤ 30) (l : List Int) (hok : okL l = true) (hl : l.length ≤ 16) : ∀ (n k i : Nat), i + n = 201 → n + 40 ≤ k → (i : Int) ≤ dep rate l → spec_DepthFor.l0 k rate l (i : Int) = some (depR rate l) := by
  have hb := (okL_iff l).1 hok
  intro n
  induction n with
  | zero =>
    intro k i hi hk hd
    obtain ⟨k, rfl⟩ : ∃ m, k = m + 1 := ⟨k - 1, by omega⟩
    simp only [spec_DepthFor.l0]
    rw [if_neg (by omega)]
    unfold depR
    rw [if_neg (by omega)]
  | succ n ih =>
    intro k i hi hk hd
    obtain ⟨k, rfl⟩ : ∃ m, k = m + 1 := ⟨k - 1, by omega⟩
    simp only [spec_DepthFor.l0, spec_fits.f]
    have hlen := pas_length rate (i : Int) l true (i : Int)
    rw [if_pos (by omega), specPasses_ok rate (i : Int) hr (by omega) l hl hb k (by omega)]
    simp only [Option.bind_some]
    have hf := fits_l0 (pas rate (i : Int) l true (i : Int)).1 (by omega) (pas rate (i : Int) l true (i : Int)).1.length k 0 (by omega) (by omega)
    rw [show ((0 : Nat) : Int) = 0 from rfl, List.drop_zero, pas_fits rate (i : Int) hr.1 (by omega) l hb] at hf
    rw [hf]
    simp only [Option.bind_some, decide_eq_true_eq]
    by_cases h : dep rate l ≤ (i : Int)
    · rw [if_pos h]
      unfold depR
      rw [if_pos (by omega), show dep rate l = (i : Int) by omega]
    · rw [if_neg h, step_nat i (by omega)]
      exact ih k (i + 1) (by omega) (by omega) (by omega)

/-- What both return. -/
def depthB (rate : Int) (l : List Int) : Int × Bool := if (0 ≤ rate ∧ rate ≤ 30) ∧ okL l = true ∧ l.length ≤ 16 then depR rate l else (0, false)

theorem notOk (l : List Int) (h3 : ¬ (okL l = true ∧ l.length ≤ 16)) : (okL l && decide (l.length ≤ 16)) = false := by
  cases h5 : okL l
  · rfl
  · rw [decide_eq_false (fun h6 => h3 ⟨h5, h6⟩)]; rfl

theorem implDepth_ok (rate : Int) (l : List Int) (k : Nat) (hk : 300 ≤ k) : impl_DepthFor.f k rate l = some (depthB rate l) := by
  unfold impl_DepthFor.f depthB
  obtain ⟨k, rfl⟩ : ∃ m, k = m + 1 := ⟨k - 1, by omega⟩
  simp only [within_val, loadsOk_val, Option.bind_some, decide_eq_true_eq]
  by_cases h1 : 0 ≤ rate ∧ rate ≤ 30
  · rw [if_pos h1]
    by_cases h3 : okL l = true ∧ l.length ≤ 16
    · rw [if_pos (show (0 ≤ rate ∧ rate ≤ 30) ∧ okL l = true ∧ l.length ≤ 16 from ⟨h1, h3⟩)]
      have hd := dep_ge rate l ((okL_iff l).1 h3.1)
      have := implDepth_l0 rate h1 l h3.1 h3.2 201 k 0 (by omega) (by omega) (by omega)
      rw [h3.1, decide_eq_true h3.2]
      simp only [impl_DepthFor.j0, Bool.and_self, Bool.not_true, Bool.false_eq_true, if_false]
      exact this
    · rw [if_neg (fun h => h3 h.2), notOk l h3]
      simp [impl_DepthFor.j0]
  · rw [if_neg h1, if_neg (fun h => h1 h.1)]
    simp [impl_DepthFor.j0]

theorem specDepth_ok (rate : Int) (l : List Int) (hl : l.length ≤ 2000000) (k : Nat) (hk : l.length + 300 ≤ k) : spec_DepthFor.f k rate l = some (depthB rate l) := by
  unfold spec_DepthFor.f depthB
  obtain ⟨k, rfl⟩ : ∃ m, k = m + 1 := ⟨k - 1, by omega⟩
  simp only [bucket_val, validLoads_ok l hl (k + 1) (by omega), Option.bind_some, decide_eq_true_eq]
  by_cases h1 : 0 ≤ rate ∧ rate ≤ 30
  · rw [if_pos ⟨h1, by omega, by omega⟩]
    by_cases h3 : okL l = true ∧ l.length ≤ 16
    · rw [if_pos (show (0 ≤ rate ∧ rate ≤ 30) ∧ okL l = true ∧ l.length ≤ 16 from ⟨h1, h3⟩)]
      have hd := dep_ge rate l ((okL_iff l).1 h3.1)
      have := specDepth_l0 rate h1 l h3.1 h3.2 201 k 0 (by omega) (by omega) (by omega)
      rw [h3.1, decide_eq_true h3.2]
      simp only [spec_DepthFor.j0, Bool.and_self, Bool.not_true, Bool.false_eq_true, if_false]
      exact this
    · rw [if_neg (fun h => h3 h.2), notOk l h3]
      simp [spec_DepthFor.j0]
  · rw [if_neg (fun h => h1 h.1), if_neg (fun h => h1 h.1)]
    simp [spec_DepthFor.j0]


theorem FnExactDepthFor : laws_FnExactDepthFor.Pure := by
  intro rate l _ _ _ _
  by_cases hc : (l.length : Int) > 1048576
  · exact ⟨0, by unfold laws_FnExactDepthFor.f; rw [if_pos hc]⟩
  · have hl : l.length ≤ 2000000 := by omega
    have hi := implDepth_ok rate l
    have hs := specDepth_ok rate l hl
    refine ⟨l.length + 400, ?_⟩
    unfold laws_FnExactDepthFor.f
    rw [if_neg hc]
    simp (disch := omega) only [toIntS_ok, hs, hi, Option.bind_some, if_true, bne_self_eq_false]
    simp (disch := omega) only [laws_FnExactDepthFor.j0, Bool.false_eq_true, if_false, toIntS_ok, Option.bind_some, eqIntS_self, if_true]

end Go.Proofs.Ytdppkdcfocaemaa.Pure
