/- The program's PassesOf returns what the reference's returns, in memory of its own, and leaves its argument as it was: FnExactPassesOf returns true for all ints and lists of ints. Conditions: none. -/
import Derived.Test.YtdppkdcfocaemaaHFnExactPassesOfx3
namespace Go.Proofs.Ytdppkdcfocaemaa.Pure
open Go.RowKit Go.Proofs.Ytdppkdcfocaemaa.HFnExactPassesOf Go.Proofs.YtdppkdcfocaemaaW.PrintWords Go.Proofs.YtdppkdcfocaemaaW.PrintLast
open Go
set_option linter.unusedVariables false
set_option linter.unusedSimpArgs false

theorem rd_nat (l : List Int) (i : Nat) (h : i < l.length) : rd l (i : Int) = l[i] := by
  unfold rd
  rw [Int.toNat_natCast, List.getD_eq_getElem?_getD, List.getElem?_eq_getElem h]
  rfl

theorem step_nat (i : Nat) (h : i < 4611686018427387904) : wrap64 ((i : Int) + 1) = ((i + 1 : Nat) : Int) := by
  rw [IntWalk.wrap64_in ((i : Int) + 1) (by omega)]
  rfl

theorem toIntS_l0 (l : List Int) (hl : l.length ≤ 2000000) : ∀ (d k i : Nat) (o : List Int), i + d = l.length → d < k → o.length = l.length → (∀ j, j < i → o[j]? = l[j]?) → laws_toIntS.l0 k l o (i : Int) = some l := by
  intro d
  induction d with
  | zero =>
    intro k i o hi hk ho hj
    obtain ⟨k, rfl⟩ : ∃ m, k = m + 1 := ⟨k - 1, by omega⟩
    simp only [laws_toIntS.l0]
    rw [if_neg (by omega)]
    congr 1
    apply List.ext_getElem?
    intro j
    by_cases h : j < l.length
    · exact hj j (by omega)
    · rw [List.getElem?_eq_none (by omega), List.getElem?_eq_none (by omega)]
  | succ d ih =>
    intro k i o hi hk ho hj
    obtain ⟨k, rfl⟩ : ∃ m, k = m + 1 := ⟨k - 1, by omega⟩
    simp only [laws_toIntS.l0]
    rw [if_pos (by omega), if_pos (by omega), if_pos (by omega), step_nat i (by omega), Int.toNat_natCast, rd_nat l i (by omega)]
    refine ih k (i + 1) _ (by omega) (by omega) (by rw [List.length_set]; exact ho) ?_
    intro j hji
    by_cases e : i = j
    · subst e
      rw [List.getElem?_set_self (by omega), List.getElem?_eq_getElem (by omega)]
    · rw [List.getElem?_set_ne e]
      exact hj j (by omega)

theorem toIntS_ok (l : List Int) (hl : l.length ≤ 2000000) (k : Nat) (hk : l.length < k) : laws_toIntS.f k l = some l := by
  unfold laws_toIntS.f
  rw [if_pos (by omega), if_pos (by rw [Int.toNat_natCast]; omega), Int.toNat_natCast]
  exact toIntS_l0 l hl l.length k 0 _ (by omega) hk (List.length_replicate ..) (fun j hj => absurd hj (Nat.not_lt_zero _))

theorem eqIntS_l0 (a b : List Int) (hab : a.length = b.length) (hl : a.length ≤ 2000000) : ∀ (d k i : Nat), i + d = a.length → d < k → laws_eqIntS.l0 k a b (i : Int) = some (decide (a.drop i = b.drop i)) := by
  intro d
  induction d with
  | zero =>
    intro k i hi hk
    obtain ⟨k, rfl⟩ : ∃ m, k = m + 1 := ⟨k - 1, by omega⟩
    simp only [laws_eqIntS.l0]
    rw [if_neg (by omega), List.drop_eq_nil_of_le (by omega), List.drop_eq_nil_of_le (by omega)]
    rfl
  | succ d ih =>
    intro k i hi hk
    obtain ⟨k, rfl⟩ : ∃ m, k = m + 1 := ⟨k - 1, by omega⟩
    simp only [laws_eqIntS.l0]
    rw [if_pos (by omega), if_pos (by omega), if_pos (by omega), step_nat i (by omega), rd_nat a i (by omega), rd_nat b i (by omega)]
    rw [List.drop_eq_getElem_cons (by omega : i < a.length), List.drop_eq_getElem_cons (by omega : i < b.length)]
    by_cases e : a[i]'(by omega) = b[i]'(by omega)
    · rw [if_pos e, ih k (i + 1) (by omega) (by omega), e]
      exact congrArg some (decide_eq_decide.mpr ⟨fun h => by rw [h], fun h => (List.cons.inj h).2⟩)
    · rw [if_neg e]
      exact congrArg some (decide_eq_false (fun h => e (List.cons.inj h).1)).symm

theorem eqIntS_ok (a b : List Int) (hl : a.length ≤ 2000000) (k : Nat) (hk : a.length < k) : laws_eqIntS.f k a b = some (decide (a = b)) := by
  unfold laws_eqIntS.f
  by_cases h : a.length = b.length
  · rw [if_pos (by omega)]
    exact eqIntS_l0 a b h hl a.length k 0 (by omega) hk
  · rw [if_neg (by omega), decide_eq_false (fun e => h (by rw [e]))]

theorem eqIntS_self (a : List Int) (hl : a.length ≤ 2000000) (k : Nat) (hk : a.length < k) : laws_eqIntS.f k a a = some true := by
  rw [eqIntS_ok a a hl k hk, decide_eq_true rfl]

/-- m, m + 1, .. : n numbers. -/
def iota (m : Int) (n : Nat) : List Int := (List.range n).map fun j : Nat => m + (j : Int)

theorem iota_length (m : Int) (n : Nat) : (iota m n).length = n := by simp [iota]
theorem iota_get (m : Int) (n j : Nat) (h : j < (iota m n).length) : (iota m n)[j] = m + (j : Int) := by simp [iota]
theorem iota_get? (m : Int) (n j : Nat) (h : j < n) : (iota m n)[j]? = some (m + (j : Int)) := by
  rw [List.getElem?_eq_getElem (by rw [iota_length]; exact h), iota_get]

theorem markIntS_l0 (n : Nat) (m : Int) (hn : n ≤ 2000000) (hm : 0 ≤ m) (hm' : m ≤ 4000000) : ∀ (d k i : Nat) (o : List Int), i + d = n → d < k → o.length = n → (∀ j, j < i → o[j]? = (iota m n)[j]?) → laws_markIntS.l0 k o (m + (i : Int)) (i : Int) = some (m + (n : Int), iota m n) := by
  intro d
  induction d with
  | zero =>
    intro k i o hi hk ho hj
    obtain ⟨k, rfl⟩ : ∃ m, k = m + 1 := ⟨k - 1, by omega⟩
    simp only [laws_markIntS.l0]
    rw [if_neg (by omega)]
    have e : i = n := by omega
    subst e
    congr 2
    apply List.ext_getElem?
    intro j
    by_cases h : j < i
    · exact hj j h
    · rw [List.getElem?_eq_none (by omega), List.getElem?_eq_none (by rw [iota_length]; omega)]
  | succ d ih =>
    intro k i o hi hk ho hj
    obtain ⟨k, rfl⟩ : ∃ m, k = m + 1 := ⟨k - 1, by omega⟩
    simp only [laws_markIntS.l0]
    rw [if_pos (by omega), if_pos (by omega), step_nat i (by omega), Int.toNat_natCast, (IntWalk.wrap64_in (m + (i : Int) + 1) (by omega)).trans (show m + (i : Int) + 1 = m + ((i + 1 : Nat) : Int) by omega)]
    refine ih k (i + 1) _ (by omega) (by omega) (by rw [List.length_set]; exact ho) ?_
    intro j hji
    by_cases e : i = j
    · subst e
      rw [List.getElem?_set_self (by omega), iota_get? m n i (by omega)]
    · rw [List.getElem?_set_ne e]
      exact hj j (by omega)

theorem markIntS_ok (l : List Int) (m : Int) (hl : l.length ≤ 2000000) (hm : 0 ≤ m) (hm' : m ≤ 4000000) (k : Nat) (hk : l.length < k) : laws_markIntS.f k l m = some (m + (l.length : Int), iota m l.length) := by
  unfold laws_markIntS.f
  have h := markIntS_l0 l.length m hl hm hm' l.length k 0 l (by omega) hk rfl (fun j hj => absurd hj (Nat.not_lt_zero _))
  rw [show m + ((0 : Nat) : Int) = m by omega] at h
  exact h

theorem rdOf_nat (l : List Bool) (i : Nat) (h : i < l.length) : rdOf false l (i : Int) = l[i] := by
  unfold rdOf
  rw [Int.toNat_natCast, List.getD_eq_getElem?_getD, List.getElem?_eq_getElem h]
  rfl

theorem eqBoolS_l0 (a : List Bool) (hl : a.length ≤ 2000000) : ∀ (d k i : Nat), i + d = a.length → d < k → laws_eqBoolS.l0 k a a (i : Int) = some true := by
  intro d
  induction d with
  | zero =>
    intro k i hi hk
    obtain ⟨k, rfl⟩ : ∃ m, k = m + 1 := ⟨k - 1, by omega⟩
    simp only [laws_eqBoolS.l0]
    rw [if_neg (by omega)]
  | succ d ih =>
    intro k i hi hk
    obtain ⟨k, rfl⟩ : ∃ m, k = m + 1 := ⟨k - 1, by omega⟩
    simp only [laws_eqBoolS.l0]
    rw [if_pos (by omega), if_pos (by omega), step_nat i (by omega), bne_self_eq_false]
    simp only [Bool.false_eq_true, if_false]
    rw [if_pos (by omega)]
    exact ih k (i + 1) (by omega) (by omega)

theorem eqBoolS_self (a : List Bool) (hl : a.length ≤ 2000000) (k : Nat) (hk : a.length < k) : laws_eqBoolS.f k a a = some true := by
  unfold laws_eqBoolS.f
  rw [if_pos rfl]
  exact eqBoolS_l0 a hl a.length k 0 (by omega) hk

/-- What the marks are: at place j whether m + j is a multiple of 3. -/
def biota (m : Int) (n : Nat) : List Bool := (List.range n).map fun j : Nat => Int.tmod (m + (j : Int)) 3 == 0

theorem biota_length (m : Int) (n : Nat) : (biota m n).length = n := by simp [biota]
theorem biota_get (m : Int) (n j : Nat) (h : j < (biota m n).length) : (biota m n)[j] = (Int.tmod (m + (j : Int)) 3 == 0) := by simp [biota]
theorem biota_get? (m : Int) (n j : Nat) (h : j < n) : (biota m n)[j]? = some (Int.tmod (m + (j : Int)) 3 == 0) := by
  rw [List.getElem?_eq_getElem (by rw [biota_length]; exact h), biota_get]

theorem markBoolS_l0 (n : Nat) (m : Int) (hn : n ≤ 2000000) (hm : 0 ≤ m) (hm' : m ≤ 4000000) : ∀ (d k i : Nat) (o : List Bool), i + d = n → d < k → o.length = n → (∀ j, j < i → o[j]? = (biota m n)[j]?) → laws_markBoolS.l0 k o (m + (i : Int)) (i : Int) = some (m + (n : Int), biota m n) := by
  intro d
  induction d with
  | zero =>
    intro k i o hi hk ho hj
    obtain ⟨k, rfl⟩ : ∃ m, k = m + 1 := ⟨k - 1, by omega⟩
    simp only [laws_markBoolS.l0]
    rw [if_neg (by omega)]
    have e : i = n := by omega
    subst e
    congr 2
    apply List.ext_getElem?
    intro j
    by_cases h : j < i
    · exact hj j h
    · rw [List.getElem?_eq_none (by omega), List.getElem?_eq_none (by rw [biota_length]; omega)]
  | succ d ih =>
    intro k i o hi hk ho hj
    obtain ⟨k, rfl⟩ : ∃ m, k = m + 1 := ⟨k - 1, by omega⟩
    simp only [laws_markBoolS.l0]
    rw [if_pos (by omega), if_pos (by omega), step_nat i (by omega), Int.toNat_natCast, (IntWalk.wrap64_in (m + (i : Int) + 1) (by omega)).trans (show m + (i : Int) + 1 = m + ((i + 1 : Nat) : Int) by omega)]
    refine ih k (i + 1) _ (by omega) (by omega) (by rw [List.length_set]; exact ho) ?_
    intro j hji
    by_cases e : i = j
    · subst e
      rw [List.getElem?_set_self (by omega), biota_get? m n i (by omega)]
    · rw [List.getElem?_set_ne e]
      exact hj j (by omega)

theorem markBoolS_ok (l : List Bool) (m : Int) (hl : l.length ≤ 2000000) (hm : 0 ≤ m) (hm' : m ≤ 4000000) (k : Nat) (hk : l.length < k) : laws_markBoolS.f k l m = some (m + (l.length : Int), biota m l.length) := by
  unfold laws_markBoolS.f
  have h := markBoolS_l0 l.length m hl hm hm' l.length k 0 l (by omega) hk rfl (fun j hj => absurd hj (Nat.not_lt_zero _))
  rw [show m + ((0 : Nat) : Int) = m by omega] at h
  exact h

theorem heldBoolS_l0 (n : Nat) (m : Int) (hn : n ≤ 2000000) (hm : 0 ≤ m) (hm' : m ≤ 4000000) : ∀ (d k i : Nat), i + d = n → d < k → laws_heldBoolS.l0 k (biota m n) (m + (i : Int)) (i : Int) = some (m + (n : Int)) := by
  intro d
  induction d with
  | zero =>
    intro k i hi hk
    obtain ⟨k, rfl⟩ : ∃ m, k = m + 1 := ⟨k - 1, by omega⟩
    simp only [laws_heldBoolS.l0]
    rw [if_neg (by rw [biota_length]; omega)]
    have e : i = n := by omega
    rw [e]
  | succ d ih =>
    intro k i hi hk
    obtain ⟨k, rfl⟩ : ∃ m, k = m + 1 := ⟨k - 1, by omega⟩
    simp only [laws_heldBoolS.l0]
    rw [if_pos (by rw [biota_length]; omega), if_pos (by omega), rdOf_nat _ i (by rw [biota_length]; omega), biota_get, bne_self_eq_false]
    simp only [Bool.false_eq_true, if_false]
    rw [step_nat i (by omega), (IntWalk.wrap64_in (m + (i : Int) + 1) (by omega)).trans (show m + (i : Int) + 1 = m + ((i + 1 : Nat) : Int) by omega)]
    exact ih k (i + 1) (by omega) (by omega)

theorem heldBoolS_ok (n : Nat) (m : Int) (hn : n ≤ 2000000) (hm : 0 ≤ m) (hm' : m ≤ 4000000) (k : Nat) (hk : n < k) : laws_heldBoolS.f k (biota m n) m = some (m + (n : Int)) := by
  unfold laws_heldBoolS.f
  have h := heldBoolS_l0 n m hn hm hm' n k 0 (by omega) hk
  rw [show m + ((0 : Nat) : Int) = m by omega] at h
  exact h

theorem mn_min (a b : Int) : mn a b = min a b := by unfold mn; omega

/-- Which loads pass a bucket with so much left, the first one first or not, and what is left. -/
def pas (rate depth : Int) : List Int → Bool → Int → List Bool × Int
  | [], _, left => ([], left)
  | x :: t, first, left =>
    if x ≤ (if first = true then left else min depth (left + rate)) then (true :: (pas rate depth t false ((if first = true then left else min depth (left + rate)) - x)).1, (pas rate depth t false ((if first = true then left else min depth (left + rate)) - x)).2)
    else (false :: (pas rate depth t false (if first = true then left else min depth (left + rate))).1, (pas rate depth t false (if first = true then left else min depth (left + rate))).2)

theorem pas_length (rate depth : Int) : ∀ (l : List Int) (b : Bool) (left : Int), (pas rate depth l b left).1.length = l.length
  | [], _, _ => by simp [pas]
  | x :: t, b, left => by
    unfold pas
    generalize (if b = true then left else min depth (left + rate)) = m
    split
    · simp only [List.length_cons, pas_length rate depth t]
    · simp only [List.length_cons, pas_length rate depth t]

theorem pas_left (rate depth : Int) (hr : 0 ≤ rate) : ∀ (l : List Int) (b : Bool) (left : Int), (∀ x ∈ l, 0 ≤ x ∧ x ≤ 30) → 0 ≤ left → left ≤ depth → 0 ≤ (pas rate depth l b left).2 ∧ (pas rate depth l b left).2 ≤ depth
  | [], _, left, _, h0, h1 => by simp [pas]; omega
  | x :: t, b, left, hb, h0, h1 => by
    have hx := hb x (List.mem_cons_self ..)
    have ht : ∀ z ∈ t, 0 ≤ z ∧ z ≤ 30 := fun z hz => hb z (List.mem_cons_of_mem _ hz)
    unfold pas
    have hm : 0 ≤ (if b = true then left else min depth (left + rate)) ∧ (if b = true then left else min depth (left + rate)) ≤ depth := by split <;> omega
    generalize (if b = true then left else min depth (left + rate)) = m at hm ⊢
    split
    · exact pas_left rate depth hr t false (m - x) ht (by omega) (by omega)
    · exact pas_left rate depth hr t false m ht (by omega) (by omega)

/-- Loads. -/
def okL (l : List Int) : Bool := l.all fun x => decide (0 ≤ x ∧ x ≤ 30)

theorem okL_iff (l : List Int) : okL l = true ↔ ∀ x ∈ l, 0 ≤ x ∧ x ≤ 30 := by simp [okL]

theorem inRange_val (x a b : Int) : spec_inRange.f x a b = some (decide (a ≤ x ∧ x ≤ b)) := by
  unfold spec_inRange.f
  by_cases h : a ≤ x
  · rw [if_pos h]; simp [h]
  · rw [if_neg h]; simp [h]

theorem validLoads_l0 (l : List Int) (hl : l.length ≤ 2000000) : ∀ (d k i : Nat), i + d = l.length → d < k → spec_validLoads.l0 k l (i : Int) = some (okL (l.drop i) && decide (l.length ≤ 16)) := by
  intro d
  induction d with
  | zero =>
    intro k i hi hk
    obtain ⟨k, rfl⟩ : ∃ m, k = m + 1 := ⟨k - 1, by omega⟩
    simp only [spec_validLoads.l0]
    rw [if_neg (by omega), List.drop_eq_nil_of_le (by omega)]
    have e : decide ((l.length : Int) ≤ 16) = decide (l.length ≤ 16) := decide_eq_decide.mpr (by omega)
    rw [e]
    simp [okL]
  | succ d ih =>
    intro k i hi hk
    obtain ⟨k, rfl⟩ : ∃ m, k = m + 1 := ⟨k - 1, by omega⟩
    simp only [spec_validLoads.l0]
    rw [if_pos (by omega), if_pos (by omega), step_nat i (by omega), rd_nat l i (by omega), inRange_val]
    rw [List.drop_eq_getElem_cons (by omega : i < l.length)]
    simp only [Option.bind_some]
    by_cases e : 0 ≤ l[i]'(by omega) ∧ l[i]'(by omega) ≤ 30
    · rw [if_pos (decide_eq_true e), ih k (i + 1) (by omega) (by omega)]
      have h : okL (l[i]'(by omega) :: l.drop (i + 1)) = okL (l.drop (i + 1)) := by
        unfold okL
        rw [List.all_cons, decide_eq_true e, Bool.true_and]
      rw [h]
    · rw [if_neg (by simpa using e)]
      have h : okL (l[i]'(by omega) :: l.drop (i + 1)) = false := by
        unfold okL
        rw [List.all_cons, decide_eq_false e, Bool.false_and]
      rw [h, Bool.false_and]

theorem validLoads_ok (l : List Int) (hl : l.length ≤ 2000000) (k : Nat) (hk : l.length < k) : spec_validLoads.f k l = some (okL l && decide (l.length ≤ 16)) := by
  unfold spec_validLoads.f
  exact validLoads_l0 l hl l.length k 0 (by omega) hk

theorem specPas_l0 (rate depth : Int) (hr : 0 ≤ rate ∧ rate ≤ 30) (hd : 0 ≤ depth ∧ depth ≤ 200) (l : List Int) (hl : l.length ≤ 16) (hb : ∀ x ∈ l, 0 ≤ x ∧ x ≤ 30) : ∀ (d k i : Nat) (o : List Bool) (left : Int), i + d = l.length → d < k → o.length ≤ i → 0 ≤ left → left ≤ depth →
    spec_passes.l0 k rate depth l o left (i : Int) = some (o ++ (pas rate depth (l.drop i) (decide (i = 0)) left).1, (pas rate depth (l.drop i) (decide (i = 0)) left).2) := by
  intro d
  induction d with
  | zero =>
    intro k i o left hi hk ho h0 h1
    obtain ⟨k, rfl⟩ : ∃ m, k = m + 1 := ⟨k - 1, by omega⟩
    simp only [spec_passes.l0]
    rw [if_neg (by omega), List.drop_eq_nil_of_le (by omega)]
    simp [pas]
  | succ d ih =>
    intro k i o left hi hk ho h0 h1
    obtain ⟨k, rfl⟩ : ∃ m, k = m + 1 := ⟨k - 1, by omega⟩
    simp only [spec_passes.l0]
    have hx := hb (l[i]'(by omega)) (List.getElem_mem _)
    rw [if_pos (by omega), step_nat i (by omega), rd_nat l i (by omega), List.drop_eq_getElem_cons (by omega : i < l.length)]
    generalize l[i]'(by omega) = x at hx ⊢
    have hlen : ∀ z : Bool, (o ++ [z]).length ≤ i + 1 := fun z => by rw [List.length_append, List.length_singleton]; omega
    have hne : decide (i + 1 = 0) = false := decide_eq_false (by omega)
    by_cases hz : i = 0
    · rw [if_neg (by omega), if_pos (by omega)]
      rw [decide_eq_true hz]
      by_cases hp : x ≤ left
      · rw [if_pos hp, if_pos (by omega), IntWalk.wrap64_in (left - x) (by omega), ih k (i + 1) _ _ (by omega) (by omega) (hlen _) (by omega) (by omega), hne]
        simp [pas, hp]
      · rw [if_neg hp, if_pos (by omega), ih k (i + 1) _ _ (by omega) (by omega) (hlen _) (by omega) (by omega), hne]
        simp [pas, hp]
    · rw [if_pos (by omega), if_pos (by omega)]
      rw [decide_eq_false hz, IntWalk.wrap64_in (left + rate) (by omega), mn_min]
      have hm : 0 ≤ min depth (left + rate) ∧ min depth (left + rate) ≤ depth := by omega
      by_cases hp : x ≤ min depth (left + rate)
      · rw [if_pos hp, if_pos (by omega), IntWalk.wrap64_in (min depth (left + rate) - x) (by omega), ih k (i + 1) _ _ (by omega) (by omega) (hlen _) (by omega) (by omega), hne]
        simp only [pas, Bool.false_eq_true, if_false, if_pos hp, List.append_assoc, List.singleton_append]
      · rw [if_neg hp, if_pos (by omega), ih k (i + 1) _ _ (by omega) (by omega) (hlen _) (by omega) (by omega), hne]
        simp only [pas, Bool.false_eq_true, if_false, if_neg hp, List.append_assoc, List.singleton_append]

theorem specPasses_ok (rate depth : Int) (hr : 0 ≤ rate ∧ rate ≤ 30) (hd : 0 ≤ depth ∧ depth ≤ 200) (l : List Int) (hl : l.length ≤ 16) (hb : ∀ x ∈ l, 0 ≤ x ∧ x ≤ 30) (k : Nat) (hk : l.length < k) : spec_passes.f k rate depth l = some (pas rate depth l true depth) := by
  unfold spec_passes.f
  have := specPas_l0 rate depth hr hd l hl hb l.length k 0 [] depth (by omega) hk (by simp) (by omega) (by omega)
  simpa using this

theorem bucket_val (rate depth : Int) : spec_validBucket.f rate depth = some (decide ((0 ≤ rate ∧ rate ≤ 30) ∧ (0 ≤ depth ∧ depth ≤ 200))) := by
  unfold spec_validBucket.f
  simp only [inRange_val, Option.bind_some, decide_eq_true_eq]
  by_cases h : 0 ≤ rate ∧ rate ≤ 30
  · rw [if_pos h]; simp [h]
  · rw [if_neg h]; simp [h]

theorem within_val (x a b : Int) : impl_within.f x a b = some (decide (a ≤ x ∧ x ≤ b)) := by
  unfold impl_within.f
  by_cases h : a ≤ x
  · rw [if_pos h]; simp [h]
  · rw [if_neg h]; simp [h]

theorem containsLoads_val (l : List Int) : hand_Contains_loadsOk.f l = some (!okL l) := by
  unfold hand_Contains_loadsOk.f okL impl_loadsOk_1.f
  congr 1
  induction l with
  | nil => rfl
  | cons x l ih =>
    rw [List.any_cons, List.all_cons, ih, within_val]
    simp only [Option.bind_some, Option.getD_some, Bool.not_and]

theorem loadsOk_val (l : List Int) : impl_loadsOk.f l = some (okL l && decide (l.length ≤ 16)) := by
  unfold impl_loadsOk.f
  rw [containsLoads_val]
  simp only [Option.bind_some, Bool.not_not]
  by_cases h : l.length ≤ 16
  · rw [if_pos (by omega)]; simp [h]
  · rw [if_neg (by omega)]; simp [h]

theorem implPas_l0 (rate depth : Int) (hr : 0 ≤ rate ∧ rate ≤ 30) (hd : 0 ≤ depth ∧ depth ≤ 200) (l : List Int) (hl : l.length ≤ 16) (hb : ∀ x ∈ l, 0 ≤ x ∧ x ≤ 30) : ∀ (d k i : Nat) (o : List Bool) (left : Int), i + d = l.length → d < k → o.length ≤ i → 0 ≤ left → left ≤ depth →
    impl_PassesOf.l0 k rate depth o left l (l.length : Int) (i : Int) = some (o ++ (pas rate depth (l.drop i) (decide (i = 0)) left).1, (pas rate depth (l.drop i) (decide (i = 0)) left).2) := by
  intro d
  induction d with
  | zero =>
    intro k i o left hi hk ho h0 h1
    obtain ⟨k, rfl⟩ : ∃ m, k = m + 1 := ⟨k - 1, by omega⟩
    simp only [impl_PassesOf.l0]
    rw [if_neg (by omega), List.drop_eq_nil_of_le (by omega)]
    simp [pas]
  | succ d ih =>
    intro k i o left hi hk ho h0 h1
    obtain ⟨k, rfl⟩ : ∃ m, k = m + 1 := ⟨k - 1, by omega⟩
    simp only [impl_PassesOf.l0]
    have hx := hb (l[i]'(by omega)) (List.getElem_mem _)
    rw [if_pos (by omega), if_pos (by omega), if_pos (by omega), step_nat i (by omega), rd_nat l i (by omega), List.drop_eq_getElem_cons (by omega : i < l.length)]
    generalize l[i]'(by omega) = x at hx ⊢
    have hlen : ∀ z : Bool, (o ++ [z]).length ≤ i + 1 := fun z => by rw [List.length_append, List.length_singleton]; omega
    have hne : decide (i + 1 = 0) = false := decide_eq_false (by omega)
    by_cases hz : i = 0
    · rw [if_neg (by omega)]
      rw [decide_eq_true hz]
      by_cases hp : x ≤ left
      · rw [if_pos hp, if_pos (by omega), IntWalk.wrap64_in (left - x) (by omega), ih k (i + 1) _ _ (by omega) (by omega) (hlen _) (by omega) (by omega), hne]
        simp [pas, hp]
      · rw [if_neg hp, if_pos (by omega), ih k (i + 1) _ _ (by omega) (by omega) (hlen _) (by omega) (by omega), hne]
        simp [pas, hp]
    · rw [if_pos (by omega)]
      rw [decide_eq_false hz, IntWalk.wrap64_in (left + rate) (by omega), mn_min, Int.min_comm (left + rate) depth]
      have hm : 0 ≤ min depth (left + rate) ∧ min depth (left + rate) ≤ depth := by omega
      by_cases hp : x ≤ min depth (left + rate)
      · rw [if_pos hp, if_pos (by omega), IntWalk.wrap64_in (min depth (left + rate) - x) (by omega), ih k (i + 1) _ _ (by omega) (by omega) (hlen _) (by omega) (by omega), hne]
        simp only [pas, Bool.false_eq_true, if_false, if_pos hp, List.append_assoc, List.singleton_append]
      · rw [if_neg hp, if_pos (by omega), ih k (i + 1) _ _ (by omega) (by omega) (hlen _) (by omega) (by omega), hne]
        simp only [pas, Bool.false_eq_true, if_false, if_neg hp, List.append_assoc, List.singleton_append]

/-- What both return. -/
def passB (rate depth : Int) (l : List Int) : List Bool × Int := if (0 ≤ rate ∧ rate ≤ 30) ∧ (0 ≤ depth ∧ depth ≤ 200) ∧ okL l = true ∧ l.length ≤ 16 then pas rate depth l true depth else ([], -1)

theorem passB_length (rate depth : Int) (l : List Int) : (passB rate depth l).1.length ≤ 16 := by
  unfold passB
  split
  · next h => rw [pas_length]; exact h.2.2.2
  · simp

theorem implPasses_ok (rate depth : Int) (l : List Int) (k : Nat) (hk : l.length + 1 < k) : impl_PassesOf.f k rate depth l = some (passB rate depth l) := by
  unfold impl_PassesOf.f passB
  obtain ⟨k, rfl⟩ : ∃ m, k = m + 1 := ⟨k - 1, by omega⟩
  simp only [within_val, loadsOk_val, Option.bind_some, decide_eq_true_eq]
  by_cases h1 : 0 ≤ rate ∧ rate ≤ 30
  · rw [if_pos h1]
    by_cases h2 : 0 ≤ depth ∧ depth ≤ 200
    · rw [if_pos h2]
      by_cases h3 : okL l = true ∧ l.length ≤ 16
      · rw [if_pos (show (0 ≤ rate ∧ rate ≤ 30) ∧ (0 ≤ depth ∧ depth ≤ 200) ∧ okL l = true ∧ l.length ≤ 16 from ⟨h1, h2, h3⟩), h3.1, decide_eq_true h3.2]
        simp only [impl_PassesOf.j0, Bool.and_self, Bool.not_true, Bool.false_eq_true, if_false]
        have := implPas_l0 rate depth h1 h2 l h3.2 ((okL_iff l).1 h3.1) l.length k 0 [] depth (by omega) (by omega) (by simp) (by omega) (by omega)
        simpa using this
      · rw [if_neg (fun h => h3 h.2.2)]
        have h4 : (okL l && decide (l.length ≤ 16)) = false := by
          cases h5 : okL l
          · rfl
          · rw [decide_eq_false (fun h6 => h3 ⟨h5, h6⟩)]; rfl
        rw [h4]
        simp [impl_PassesOf.j0]
    · rw [if_neg h2, if_neg (fun h => h2 h.2.1)]
      simp [impl_PassesOf.j0]
  · rw [if_neg h1, if_neg (fun h => h1 h.1)]
    simp [impl_PassesOf.j0]

theorem specPassesOf_ok (rate depth : Int) (l : List Int) (hl : l.length ≤ 2000000) (k : Nat) (hk : l.length + 1 < k) : spec_PassesOf.f k rate depth l = some (passB rate depth l) := by
  unfold spec_PassesOf.f passB
  simp only [bucket_val, validLoads_ok l hl k (by omega), Option.bind_some, decide_eq_true_eq, Bool.and_eq_true]
  by_cases h1 : (0 ≤ rate ∧ rate ≤ 30) ∧ (0 ≤ depth ∧ depth ≤ 200)
  · rw [if_pos h1]
    by_cases h3 : okL l = true ∧ l.length ≤ 16
    · rw [if_pos h3, if_pos (show (0 ≤ rate ∧ rate ≤ 30) ∧ (0 ≤ depth ∧ depth ≤ 200) ∧ okL l = true ∧ l.length ≤ 16 from ⟨h1.1, h1.2, h3⟩), specPasses_ok rate depth h1.1 h1.2 l h3.2 ((okL_iff l).1 h3.1) k (by omega)]
      rfl
    · rw [if_neg h3, if_neg (fun h => h3 h.2.2)]
  · rw [if_neg h1, if_neg (fun h => h1 ⟨h.1, h.2.1⟩)]


theorem FnExactPassesOf : laws_FnExactPassesOf.Pure := by
  intro rate depth l _ _ _ _ _
  by_cases hc : (l.length : Int) > 1048576
  · exact ⟨0, by unfold laws_FnExactPassesOf.f; rw [if_pos hc]⟩
  · have hl : l.length ≤ 2000000 := by omega
    have hr := passB_length rate depth l
    have hi : ∀ k, l.length + 1 < k → impl_PassesOf.f k rate depth l = some (passB rate depth l) := implPasses_ok rate depth l
    have hs : ∀ k, l.length + 1 < k → spec_PassesOf.f k rate depth l = some (passB rate depth l) := specPassesOf_ok rate depth l hl
    generalize passB rate depth l = r at hr hi hs
    have hm1 : ¬ (1 + (l.length : Int) < 0) := by omega
    have hm2 : ¬ (1 + (r.1.length : Int) < 0) := by omega
    refine ⟨l.length + 100, ?_⟩
    unfold laws_FnExactPassesOf.f
    rw [if_neg hc]
    simp (disch := omega) only [toIntS_ok, hs, hi, Option.bind_some, eqBoolS_self, if_true, bne_self_eq_false]
    simp (disch := omega) only [laws_FnExactPassesOf.j0, Bool.false_eq_true, if_false, toIntS_ok, Option.bind_some, eqIntS_self, eqBoolS_self, if_true, markIntS_ok, hm1, bne_self_eq_false]
    simp (disch := omega) only [laws_FnExactPassesOf.j1, Bool.false_eq_true, if_false, toIntS_ok, Option.bind_some, hi, eqBoolS_self, if_true, markBoolS_ok, heldBoolS_ok, hm2, bne_self_eq_false]
    simp (disch := omega) only [laws_FnExactPassesOf.j2, Bool.false_eq_true, if_false, Option.bind_some, heldBoolS_ok, hm2, if_true]

end Go.Proofs.Ytdppkdcfocaemaa.Pure
