/- The program's LastOf returns what the reference's returns, in memory of its own, and leaves its arguments as they were: FnExactLastOf returns true for every list of fields and every tag. Conditions: none. -/
import Derived.Test.YtnolmimfpnngjaaHFnExactLastOfx3
namespace Go.Proofs.Ytnolmimfpnngjaa.Pure
open Go.RowKit Go.Proofs.Ytnolmimfpnngjaa.HFnExactLastOf Go.Proofs.YtnolmimfpnngjaaW.PrintWords Go.Proofs.YtnolmimfpnngjaaW.PrintLast
open Go
set_option linter.unusedVariables false
set_option linter.unusedSimpArgs false

theorem rd_nat (l : List Int) (i : Nat) (h : i < l.length) : rd l (i : Int) = l[i] := by
  unfold rd
  rw [Int.toNat_natCast, List.getD_eq_getElem?_getD, List.getElem?_eq_getElem h]
  rfl

theorem step_nat (i : Nat) (h : i < 4611686018427387904) : wrap64 ((i : Int) + 1) = ((i + 1 : Nat) : Int) := by
  rw [IntWalk.wrap64_in ((i : Int) + 1) (by omega)]
  rfl

/-- Numbers of one byte. -/
def okB (l : List Int) : Bool := l.all fun x => decide (0 ≤ x ∧ x ≤ 255)

theorem okB_iff (l : List Int) : okB l = true ↔ ∀ x ∈ l, 0 ≤ x ∧ x ≤ 255 := by simp [okB]

theorem inRange_val (x a b : Int) : spec_inRange.f x a b = some (decide (a ≤ x ∧ x ≤ b)) := by
  unfold spec_inRange.f
  by_cases h : a ≤ x
  · rw [if_pos h]; simp [h]
  · rw [if_neg h]; simp [h]

theorem validBytes_l0 (l : List Int) (m : Int) (hl : l.length ≤ 2000000) : ∀ (d k i : Nat), i + d = l.length → d < k → spec_validBytes.l0 k l m (i : Int) = some (okB (l.drop i) && decide ((l.length : Int) ≤ m)) := by
  intro d
  induction d with
  | zero =>
    intro k i hi hk
    obtain ⟨k, rfl⟩ : ∃ m, k = m + 1 := ⟨k - 1, by omega⟩
    simp only [spec_validBytes.l0]
    rw [if_neg (by omega), List.drop_eq_nil_of_le (by omega)]
    simp [okB]
  | succ d ih =>
    intro k i hi hk
    obtain ⟨k, rfl⟩ : ∃ m, k = m + 1 := ⟨k - 1, by omega⟩
    simp only [spec_validBytes.l0]
    rw [if_pos (by omega), if_pos (by omega), step_nat i (by omega), rd_nat l i (by omega), inRange_val]
    rw [List.drop_eq_getElem_cons (by omega : i < l.length)]
    simp only [Option.bind_some]
    by_cases e : 0 ≤ l[i]'(by omega) ∧ l[i]'(by omega) ≤ 255
    · rw [if_pos (decide_eq_true e), ih k (i + 1) (by omega) (by omega)]
      have h : okB (l[i]'(by omega) :: l.drop (i + 1)) = okB (l.drop (i + 1)) := by
        unfold okB
        rw [List.all_cons, decide_eq_true e, Bool.true_and]
      rw [h]
    · rw [if_neg (by simpa using e)]
      have h : okB (l[i]'(by omega) :: l.drop (i + 1)) = false := by
        unfold okB
        rw [List.all_cons, decide_eq_false e, Bool.false_and]
      rw [h, Bool.false_and]

theorem validBytes_ok (l : List Int) (m : Int) (hl : l.length ≤ 2000000) (k : Nat) (hk : l.length < k) : spec_validBytes.f k l m = some (okB l && decide ((l.length : Int) ≤ m)) := by
  unfold spec_validBytes.f
  exact validBytes_l0 l m hl l.length k 0 (by omega) hk

theorem bytesAlone_val (l : List Int) : impl_bytesAlone.f l = some (okB l) := by
  unfold impl_bytesAlone.f okB
  congr 1
  induction l with
  | nil => rfl
  | cons x l ih =>
    rw [List.any_cons, List.all_cons, ← ih]
    have h : (decide (x < 0) || decide (x > 255)) = !(decide (0 ≤ x ∧ x ≤ 255)) := by
      by_cases h1 : x < 0
      · simp [h1]
      · by_cases h2 : x > 255
        · simp [h2]
        · simp [h1, h2]; omega
    rw [h, Bool.not_or, Bool.not_not]

theorem bytesOk_val (l : List Int) : impl_bytesOk.f l = some (okB l && decide (l.length ≤ 16)) := by
  unfold impl_bytesOk.f
  rw [bytesAlone_val]
  simp only [Option.bind_some]
  by_cases h : l.length ≤ 16
  · rw [if_pos (by omega)]; simp [h]
  · rw [if_neg (by omega)]; simp [h]

theorem within_val (x a b : Int) : impl_within.f x a b = some (decide (a ≤ x ∧ x ≤ b)) := by
  unfold impl_within.f
  by_cases h : a ≤ x
  · rw [if_pos h]; simp [h]
  · rw [if_neg h]; simp [h]

/-- A field that may be. -/
def okF1 (f : S62) : Bool := decide (0 ≤ f.f0 ∧ f.f0 ≤ 300) && (okB f.f1 && decide (f.f1.length ≤ 16))
def okF (l : List S62) : Bool := l.all okF1 && decide (l.length ≤ 5)

theorem rdT_nat (l : List S62) (i : Nat) (h : i < l.length) : rd_T62 l (i : Int) = l[i] := by
  unfold rd_T62
  rw [Int.toNat_natCast, List.getD_eq_getElem?_getD, List.getElem?_eq_getElem h]
  rfl

theorem fieldsOk1_val (x : Int) (l : List Int) : impl_fieldsOk_1.f x l = some (!(decide (0 ≤ x ∧ x ≤ 300) && (okB l && decide (l.length ≤ 16)))) := by
  unfold impl_fieldsOk_1.f
  simp only [within_val, bytesOk_val, Option.bind_some]
  cases decide (0 ≤ x ∧ x ≤ 300) <;> cases (okB l && decide (l.length ≤ 16)) <;> rfl

theorem fieldsOk_val (l : List S62) : impl_fieldsOk.f l = some (okF l) := by
  unfold impl_fieldsOk.f hand_Contains_fieldsOk.f okF
  have hany : (l.any fun x => (impl_fieldsOk_1.f x.f0 x.f1).getD false) = !(l.all okF1) := by
    induction l with
    | nil => rfl
    | cons x l ih =>
      rw [List.any_cons, List.all_cons, ih, fieldsOk1_val, Option.getD_some]
      show (!(okF1 x) || !(l.all okF1)) = !(okF1 x && l.all okF1)
      rw [Bool.not_and]
  rw [hany]
  simp only [Option.bind_some, Bool.not_not]
  by_cases h : l.length ≤ 5
  · rw [if_pos (by omega)]; simp [h]
  · rw [if_neg (by omega)]; simp [h]

theorem okF_iff (l : List S62) : okF l = true ↔ (∀ f ∈ l, 0 ≤ f.f0 ∧ f.f0 ≤ 300 ∧ okB f.f1 = true ∧ f.f1.length ≤ 16) ∧ l.length ≤ 5 := by
  simp only [okF, okF1, Bool.and_eq_true, List.all_eq_true, decide_eq_true_eq, and_assoc]

/-- The bytes of the last one of the first fields with a tag. -/
def lst (l : List S62) (tag : Int) : Nat → List Int × Bool
  | 0 => ([], false)
  | i + 1 => if (rd_T62 l (i : Int)).f0 = tag then ((rd_T62 l (i : Int)).f1, true) else lst l tag i

theorem implLast_l0 (l : List S62) (tag : Int) (hok : okF l = true) : ∀ (i k : Nat), i ≤ l.length → i < k → impl_LastOf.l0 k l tag ((i : Int) - 1) = some (lst l tag i) := by
  have hf := (okF_iff l).1 hok
  intro i
  induction i with
  | zero =>
    intro k hi hk
    obtain ⟨k, rfl⟩ : ∃ m, k = m + 1 := ⟨k - 1, by omega⟩
    rw [impl_LastOf.l0, if_neg (by omega)]
    rfl
  | succ i ih =>
    intro k hi hk
    obtain ⟨k, rfl⟩ : ∃ m, k = m + 1 := ⟨k - 1, by omega⟩
    rw [show ((i + 1 : Nat) : Int) - 1 = (i : Int) by omega, impl_LastOf.l0, if_pos (by omega), if_pos (by omega), if_pos (by omega), lst]
    have hm := hf.1 (l[i]'(by omega)) (List.getElem_mem _)
    rw [rdT_nat l i (by omega)]
    generalize l[i]'(by omega) = f at hm ⊢
    by_cases h : f.f0 = tag
    · rw [if_pos h, if_pos h]
      unfold slices_Clone_int_int.f
      rw [if_pos (by omega)]
      rfl
    · rw [if_neg h, if_neg h, IntWalk.wrap64_in ((i : Int) - 1) (by omega)]
      exact ih k (by omega) (by omega)

/-- What both return. -/
def lastB (l : List S62) (tag : Int) : List Int × Bool := if okF l = true then lst l tag l.length else ([], false)

theorem lst_length (l : List S62) (tag : Int) (hok : okF l = true) : ∀ i, i ≤ l.length → (lst l tag i).1.length ≤ 16
  | 0, _ => by simp [lst]
  | i + 1, hi => by
    unfold lst
    have hm := ((okF_iff l).1 hok).1 (l[i]'(by omega)) (List.getElem_mem _)
    rw [rdT_nat l i (by omega)]
    split
    · exact hm.2.2.2
    · exact lst_length l tag hok i (by omega)

theorem lastB_length (l : List S62) (tag : Int) : (lastB l tag).1.length ≤ 16 := by
  unfold lastB
  split
  · next h => exact lst_length l tag h _ (Nat.le_refl _)
  · simp

theorem implLast_ok (l : List S62) (tag : Int) (k : Nat) (hk : 20 ≤ k) : impl_LastOf.f k l tag = some (lastB l tag) := by
  unfold impl_LastOf.f lastB
  rw [fieldsOk_val]
  simp only [Option.bind_some]
  by_cases h : okF l = true
  · have hl := ((okF_iff l).1 h).2
    rw [if_pos h, if_pos h, IntWalk.wrap64_in ((l.length : Int) - 1) (by omega)]
    exact implLast_l0 l tag h l.length k (Nat.le_refl _) (by omega)
  · rw [if_neg h, if_neg h]

theorem validField_ok (x : Int) (l : List Int) (hl : l.length ≤ 2000000) (k : Nat) (hk : l.length < k) : spec_validField.f k x l = some (decide (0 ≤ x ∧ x ≤ 300) && (okB l && decide (l.length ≤ 16))) := by
  unfold spec_validField.f
  rw [inRange_val, validBytes_ok l 16 hl k hk]
  have e : decide ((l.length : Int) ≤ 16) = decide (l.length ≤ 16) := decide_eq_decide.mpr (by omega)
  rw [e]
  simp only [Option.bind_some]
  cases decide (0 ≤ x ∧ x ≤ 300) <;> rfl

theorem validFields_l0 (l : List S62) (hl : l.length ≤ 2000000) (hf : ∀ f ∈ l, f.f1.length ≤ 2000000) : ∀ (d k i : Nat), i + d = l.length → d + 2000002 ≤ k → spec_validFields.l0 k l (i : Int) = some ((l.drop i).all okF1 && decide (l.length ≤ 5)) := by
  intro d
  induction d with
  | zero =>
    intro k i hi hk
    obtain ⟨k, rfl⟩ : ∃ m, k = m + 1 := ⟨k - 1, by omega⟩
    rw [spec_validFields.l0, if_neg (by omega), List.drop_eq_nil_of_le (by omega)]
    have e : decide ((l.length : Int) ≤ 5) = decide (l.length ≤ 5) := decide_eq_decide.mpr (by omega)
    rw [e]
    simp
  | succ d ih =>
    intro k i hi hk
    obtain ⟨k, rfl⟩ : ∃ m, k = m + 1 := ⟨k - 1, by omega⟩
    have hm := hf (l[i]'(by omega)) (List.getElem_mem _)
    rw [spec_validFields.l0, if_pos (by omega), if_pos (by omega), step_nat i (by omega), rdT_nat l i (by omega), List.drop_eq_getElem_cons (by omega : i < l.length)]
    generalize l[i]'(by omega) = f at hm ⊢
    rw [validField_ok f.f0 f.f1 hm k (by omega), Option.bind_some, ih k (i + 1) (by omega) (by omega), List.all_cons]
    rw [show (decide (0 ≤ f.f0 ∧ f.f0 ≤ 300) && (okB f.f1 && decide (f.f1.length ≤ 16))) = okF1 f from rfl]
    cases okF1 f
    · simp
    · simp

theorem validFields_ok (l : List S62) (hl : l.length ≤ 2000000) (hf : ∀ f ∈ l, f.f1.length ≤ 2000000) (k : Nat) (hk : l.length + 2000002 ≤ k) : spec_validFields.f k l = some (okF l) := by
  unfold spec_validFields.f
  have := validFields_l0 l hl hf l.length k 0 (by omega) hk
  rw [List.drop_zero] at this
  exact this

theorem specLast_l0 (l : List S62) (tag : Int) (hok : okF l = true) : ∀ (i k : Nat), i ≤ l.length → i < k → spec_LastOf.l0 k l tag ((i : Int) - 1) = some (lst l tag i) := by
  have hf := (okF_iff l).1 hok
  intro i
  induction i with
  | zero =>
    intro k hi hk
    obtain ⟨k, rfl⟩ : ∃ m, k = m + 1 := ⟨k - 1, by omega⟩
    rw [spec_LastOf.l0, if_neg (by omega)]
    rfl
  | succ i ih =>
    intro k hi hk
    obtain ⟨k, rfl⟩ : ∃ m, k = m + 1 := ⟨k - 1, by omega⟩
    rw [show ((i + 1 : Nat) : Int) - 1 = (i : Int) by omega, spec_LastOf.l0, if_pos (by omega), if_pos (by omega), if_pos (by omega), lst]
    have hm := hf.1 (l[i]'(by omega)) (List.getElem_mem _)
    rw [rdT_nat l i (by omega)]
    generalize l[i]'(by omega) = f at hm ⊢
    by_cases h : f.f0 = tag
    · rw [if_pos h, if_pos h, Option.bind_some, if_pos (by rw [List.length_nil]; omega), List.nil_append]
    · rw [if_neg h, if_neg h, IntWalk.wrap64_in ((i : Int) - 1) (by omega)]
      exact ih k (by omega) (by omega)

theorem specLast_ok (l : List S62) (tag : Int) (hl : l.length ≤ 2000000) (hf : ∀ f ∈ l, f.f1.length ≤ 2000000) (k : Nat) (hk : l.length + 2000002 ≤ k) : spec_LastOf.f k l tag = some (lastB l tag) := by
  unfold spec_LastOf.f lastB
  rw [validFields_ok l hl hf k hk]
  simp only [Option.bind_some]
  by_cases h : okF l = true
  · rw [if_pos h, if_pos h, IntWalk.wrap64_in ((l.length : Int) - 1) (by omega)]
    exact specLast_l0 l tag h l.length k (Nat.le_refl _) (by omega)
  · rw [if_neg h, if_neg h]

theorem toIntS_l0 (l : List Int) (hl : l.length ≤ 2000000) : ∀ (d k i : Nat) (o : List Int), i + d = l.length → d < k → o.length = l.length → (∀ j, j < i → o[j]? = l[j]?) → laws_toIntS.l0 k l o (i : Int) = some l := by
  intro d
  induction d with
  | zero =>
    intro k i o hi hk ho hj
    obtain ⟨k, rfl⟩ : ∃ m, k = m + 1 := ⟨k - 1, by omega⟩
    simp only [laws_toIntS.l0]
    rw [if_neg (by omega)]
    congr 1
    apply List.ext_getElem?
    intro j
    by_cases h : j < l.length
    · exact hj j (by omega)
    · rw [List.getElem?_eq_none (by omega), List.getElem?_eq_none (by omega)]
  | succ d ih =>
    intro k i o hi hk ho hj
    obtain ⟨k, rfl⟩ : ∃ m, k = m + 1 := ⟨k - 1, by omega⟩
    simp only [laws_toIntS.l0]
    rw [if_pos (by omega), if_pos (by omega), if_pos (by omega), step_nat i (by omega), Int.toNat_natCast, rd_nat l i (by omega)]
    refine ih k (i + 1) _ (by omega) (by omega) (by rw [List.length_set]; exact ho) ?_
    intro j hji
    by_cases e : i = j
    · subst e
      rw [List.getElem?_set_self (by omega), List.getElem?_eq_getElem (by omega)]
    · rw [List.getElem?_set_ne e]
      exact hj j (by omega)

theorem toIntS_ok (l : List Int) (hl : l.length ≤ 2000000) (k : Nat) (hk : l.length < k) : laws_toIntS.f k l = some l := by
  unfold laws_toIntS.f
  rw [if_pos (by omega), if_pos (by rw [Int.toNat_natCast]; omega), Int.toNat_natCast]
  exact toIntS_l0 l hl l.length k 0 _ (by omega) hk (List.length_replicate ..) (fun j hj => absurd hj (Nat.not_lt_zero _))

theorem eqIntS_l0 (a b : List Int) (hab : a.length = b.length) (hl : a.length ≤ 2000000) : ∀ (d k i : Nat), i + d = a.length → d < k → laws_eqIntS.l0 k a b (i : Int) = some (decide (a.drop i = b.drop i)) := by
  intro d
  induction d with
  | zero =>
    intro k i hi hk
    obtain ⟨k, rfl⟩ : ∃ m, k = m + 1 := ⟨k - 1, by omega⟩
    simp only [laws_eqIntS.l0]
    rw [if_neg (by omega), List.drop_eq_nil_of_le (by omega), List.drop_eq_nil_of_le (by omega)]
    rfl
  | succ d ih =>
    intro k i hi hk
    obtain ⟨k, rfl⟩ : ∃ m, k = m + 1 := ⟨k - 1, by omega⟩
    simp only [laws_eqIntS.l0]
    rw [if_pos (by omega), if_pos (by omega), if_pos (by omega), step_nat i (by omega), rd_nat a i (by omega), rd_nat b i (by omega)]
    rw [List.drop_eq_getElem_cons (by omega : i < a.length), List.drop_eq_getElem_cons (by omega : i < b.length)]
    by_cases e : a[i]'(by omega) = b[i]'(by omega)
    · rw [if_pos e, ih k (i + 1) (by omega) (by omega), e]
      exact congrArg some (decide_eq_decide.mpr ⟨fun h => by rw [h], fun h => (List.cons.inj h).2⟩)
    · rw [if_neg e]
      exact congrArg some (decide_eq_false (fun h => e (List.cons.inj h).1)).symm

theorem eqIntS_ok (a b : List Int) (hl : a.length ≤ 2000000) (k : Nat) (hk : a.length < k) : laws_eqIntS.f k a b = some (decide (a = b)) := by
  unfold laws_eqIntS.f
  by_cases h : a.length = b.length
  · rw [if_pos (by omega)]
    exact eqIntS_l0 a b h hl a.length k 0 (by omega) hk
  · rw [if_neg (by omega), decide_eq_false (fun e => h (by rw [e]))]

theorem eqIntS_self (a : List Int) (hl : a.length ≤ 2000000) (k : Nat) (hk : a.length < k) : laws_eqIntS.f k a a = some true := by
  rw [eqIntS_ok a a hl k hk, decide_eq_true rfl]

/-- m, m + 1, .. : n numbers. -/
def iota (m : Int) (n : Nat) : List Int := (List.range n).map fun j : Nat => m + (j : Int)

theorem iota_length (m : Int) (n : Nat) : (iota m n).length = n := by simp [iota]
theorem iota_get (m : Int) (n j : Nat) (h : j < (iota m n).length) : (iota m n)[j] = m + (j : Int) := by simp [iota]
theorem iota_get? (m : Int) (n j : Nat) (h : j < n) : (iota m n)[j]? = some (m + (j : Int)) := by
  rw [List.getElem?_eq_getElem (by rw [iota_length]; exact h), iota_get]

theorem markIntS_l0 (n : Nat) (m : Int) (hn : n ≤ 2000000) (hm : 0 ≤ m) (hm' : m ≤ 4000000) : ∀ (d k i : Nat) (o : List Int), i + d = n → d < k → o.length = n → (∀ j, j < i → o[j]? = (iota m n)[j]?) → laws_markIntS.l0 k o (m + (i : Int)) (i : Int) = some (m + (n : Int), iota m n) := by
  intro d
  induction d with
  | zero =>
    intro k i o hi hk ho hj
    obtain ⟨k, rfl⟩ : ∃ m, k = m + 1 := ⟨k - 1, by omega⟩
    simp only [laws_markIntS.l0]
    rw [if_neg (by omega)]
    have e : i = n := by omega
    subst e
    congr 2
    apply List.ext_getElem?
    intro j
    by_cases h : j < i
    · exact hj j h
    · rw [List.getElem?_eq_none (by omega), List.getElem?_eq_none (by rw [iota_length]; omega)]
  | succ d ih =>
    intro k i o hi hk ho hj
    obtain ⟨k, rfl⟩ : ∃ m, k = m + 1 := ⟨k - 1, by omega⟩
    simp only [laws_markIntS.l0]
    rw [if_pos (by omega), if_pos (by omega), step_nat i (by omega), Int.toNat_natCast, (IntWalk.wrap64_in (m + (i : Int) + 1) (by omega)).trans (show m + (i : Int) + 1 = m + ((i + 1 : Nat) : Int) by omega)]
    refine ih k (i + 1) _ (by omega) (by omega) (by rw [List.length_set]; exact ho) ?_
    intro j hji
    by_cases e : i = j
    · subst e
      rw [List.getElem?_set_self (by omega), iota_get? m n i (by omega)]
    · rw [List.getElem?_set_ne e]
      exact hj j (by omega)

theorem markIntS_ok (l : List Int) (m : Int) (hl : l.length ≤ 2000000) (hm : 0 ≤ m) (hm' : m ≤ 4000000) (k : Nat) (hk : l.length < k) : laws_markIntS.f k l m = some (m + (l.length : Int), iota m l.length) := by
  unfold laws_markIntS.f
  have h := markIntS_l0 l.length m hl hm hm' l.length k 0 l (by omega) hk rfl (fun j hj => absurd hj (Nat.not_lt_zero _))
  rw [show m + ((0 : Nat) : Int) = m by omega] at h
  exact h

theorem heldIntS_l0 (n : Nat) (m : Int) (hn : n ≤ 2000000) (hm : 0 ≤ m) (hm' : m ≤ 4000000) : ∀ (d k i : Nat), i + d = n → d < k → laws_heldIntS.l0 k (iota m n) (m + (i : Int)) (i : Int) = some (m + (n : Int)) := by
  intro d
  induction d with
  | zero =>
    intro k i hi hk
    obtain ⟨k, rfl⟩ : ∃ m, k = m + 1 := ⟨k - 1, by omega⟩
    simp only [laws_heldIntS.l0]
    rw [if_neg (by rw [iota_length]; omega)]
    have e : i = n := by omega
    rw [e]
  | succ d ih =>
    intro k i hi hk
    obtain ⟨k, rfl⟩ : ∃ m, k = m + 1 := ⟨k - 1, by omega⟩
    simp only [laws_heldIntS.l0]
    rw [if_pos (by rw [iota_length]; omega), if_pos (by omega), rd_nat _ i (by rw [iota_length]; omega), iota_get, if_pos rfl, step_nat i (by omega), (IntWalk.wrap64_in (m + (i : Int) + 1) (by omega)).trans (show m + (i : Int) + 1 = m + ((i + 1 : Nat) : Int) by omega)]
    exact ih k (i + 1) (by omega) (by omega)

theorem heldIntS_ok (n : Nat) (m : Int) (hn : n ≤ 2000000) (hm : 0 ≤ m) (hm' : m ≤ 4000000) (k : Nat) (hk : n < k) : laws_heldIntS.f k (iota m n) m = some (m + (n : Int)) := by
  unfold laws_heldIntS.f
  have h := heldIntS_l0 n m hn hm hm' n k 0 (by omega) hk
  rw [show m + ((0 : Nat) : Int) = m by omega] at h
  exact h

def tot (l : List S66) : Nat → Int
  | 0 => 0
  | n + 1 => tot l n + ((l.getD n z66).f1.length : Int)
def conv (x : S66) : S62 := ⟨x.f0, x.f1⟩
theorem rd66_nat (l : List S66) (i : Nat) (h : i < l.length) : rd_T66 l (i : Int) = l[i] := by
  unfold rd_T66
  rw [Int.toNat_natCast, List.getD_eq_getElem?_getD, List.getElem?_eq_getElem h]
  rfl
theorem tot_get (l : List S66) (i : Nat) (h : i < l.length) : tot l (i + 1) = tot l i + (l[i].f1.length : Int) := by
  rw [tot, List.getD_eq_getElem?_getD, List.getElem?_eq_getElem h]
  rfl
theorem tot_mono (l : List S66) (a b : Nat) (hab : a ≤ b) : tot l a ≤ tot l b := by
  obtain ⟨c, rfl⟩ : ∃ c, b = a + c := ⟨b - a, by omega⟩
  clear hab
  induction c with
  | zero => exact Int.le_refl _
  | succ c ih =>
    have h : tot l (a + (c + 1)) = tot l (a + c) + ((l.getD (a + c) z66).f1.length : Int) := rfl
    omega
theorem tot_nonneg (l : List S66) (a : Nat) : 0 ≤ tot l a := tot_mono l 0 a (by omega)
theorem tot_at (l : List S66) (i : Nat) (h : i < l.length) : (l[i].f1.length : Int) ≤ tot l l.length := by
  have h1 := tot_get l i h
  have h2 := tot_nonneg l i
  have h3 := tot_mono l (i + 1) l.length (by omega)
  omega

theorem szFS_l0 (l : List S66) (hl : l.length ≤ 1048576) (hM : ∀ f ∈ l, f.f1.length ≤ maxLen) : ∀ (d k i : Nat), i + d = l.length → d < k → 0 ≤ 1048576 - (l.length : Int) - tot l i → ∃ s, laws_szFieldS.l0 k l (1048576 - (l.length : Int) - tot l i) (i : Int) = some s ∧ (0 ≤ s → tot l l.length ≤ 1048576) := by
  have hm : maxLen ≤ 9223372036854775807 := by decide
  intro d
  induction d with
  | zero =>
    intro k i hi hk h0
    obtain ⟨k, rfl⟩ : ∃ m, k = m + 1 := ⟨k - 1, by omega⟩
    have e : i = l.length := by omega
    subst e
    refine ⟨_, by rw [laws_szFieldS.l0, if_neg (by omega)], fun h => by omega⟩
  | succ d ih =>
    intro k i hi hk h0
    obtain ⟨k, rfl⟩ : ∃ m, k = m + 1 := ⟨k - 1, by omega⟩
    have hil : i < l.length := by omega
    have hs0 := tot_nonneg l i
    have hlen := tot_get l i hil
    have hf := hM l[i] (List.getElem_mem _)
    have hsz : laws_szField.f (rd_T66 l (i : Int)).f0 (rd_T66 l (i : Int)).f1 (1048576 - (l.length : Int) - tot l i) = some (if 1048576 - (l.length : Int) - tot l (i + 1) < 0 then -1 else 1048576 - (l.length : Int) - tot l (i + 1)) := by
      unfold laws_szField.f laws_szIntS.f
      rw [rd66_nat l i hil, hlen, show 1048576 - (l.length : Int) - tot l i - (l[i].f1.length : Int) = 1048576 - (l.length : Int) - (tot l i + (l[i].f1.length : Int)) by omega, IntWalk.wrap64_in _ (by omega)]
      by_cases h : 1048576 - (l.length : Int) - (tot l i + (l[i].f1.length : Int)) < 0
      · rw [if_pos h, if_pos h, Option.bind_some, if_pos (by omega)]
      · rw [if_neg h, if_neg h, Option.bind_some, if_neg h]
    rw [laws_szFieldS.l0, if_pos (by omega), if_pos (by omega), hsz, Option.bind_some, step_nat i (by omega)]
    by_cases h : 1048576 - (l.length : Int) - tot l (i + 1) < 0
    · rw [if_pos h, if_pos (by omega)]
      exact ⟨_, rfl, fun h => by omega⟩
    · rw [if_neg h, if_neg h]
      exact ih k (i + 1) (by omega) (by omega) (by omega)

theorem toFS_l0 (l : List S66) (hl : l.length ≤ 1048576) (hM : ∀ f ∈ l, f.f1.length ≤ 1048576) : ∀ (d k i : Nat) (o : List S62), i + d = l.length → d + 1048578 ≤ k → o.length = l.length → (∀ j, j < i → o[j]? = (l.map conv)[j]?) → laws_toFieldS.l0 k l o (i : Int) = some (l.map conv) := by
  intro d
  induction d with
  | zero =>
    intro k i o hi hk ho hj
    obtain ⟨k, rfl⟩ : ∃ m, k = m + 1 := ⟨k - 1, by omega⟩
    rw [laws_toFieldS.l0, if_neg (by omega)]
    congr 1
    apply List.ext_getElem?
    intro j
    by_cases h : j < l.length
    · exact hj j (by omega)
    · rw [List.getElem?_eq_none (by omega), List.getElem?_eq_none (by rw [List.length_map]; omega)]
  | succ d ih =>
    intro k i o hi hk ho hj
    obtain ⟨k, rfl⟩ : ∃ m, k = m + 1 := ⟨k - 1, by omega⟩
    have hil : i < l.length := by omega
    have hf := hM l[i] (List.getElem_mem _)
    have hto : laws_toField.f k (rd_T66 l (i : Int)).f0 (rd_T66 l (i : Int)).f1 = some (l[i].f0, l[i].f1) := by
      unfold laws_toField.f
      rw [rd66_nat l i hil, toIntS_ok l[i].f1 (by omega) k (by omega), Option.bind_some]
    rw [laws_toFieldS.l0, if_pos (by omega), if_pos (by omega), hto, Option.bind_some, if_pos (by omega), step_nat i (by omega), Int.toNat_natCast]
    refine ih k (i + 1) _ (by omega) (by omega) (by rw [List.length_set]; exact ho) ?_
    intro j hji
    by_cases e : i = j
    · subst e
      rw [List.getElem?_set_self (by omega), List.getElem?_map, List.getElem?_eq_getElem hil]
      rfl
    · rw [List.getElem?_set_ne e]
      exact hj j (by omega)

theorem eqFS_l0 (l : List S62) (hl : l.length ≤ 1048576) (hM : ∀ f ∈ l, f.f1.length ≤ 1048576) : ∀ (d k i : Nat), i + d = l.length → d + 1048578 ≤ k → laws_eqFieldS.l0 k l l (i : Int) = some true := by
  intro d
  induction d with
  | zero =>
    intro k i hi hk
    obtain ⟨k, rfl⟩ : ∃ m, k = m + 1 := ⟨k - 1, by omega⟩
    rw [laws_eqFieldS.l0, if_neg (by omega)]
  | succ d ih =>
    intro k i hi hk
    obtain ⟨k, rfl⟩ : ∃ m, k = m + 1 := ⟨k - 1, by omega⟩
    have hil : i < l.length := by omega
    have hf := hM l[i] (List.getElem_mem _)
    have he : laws_eqField.f k (rd_T62 l (i : Int)).f0 (rd_T62 l (i : Int)).f1 (rd_T62 l (i : Int)).f0 (rd_T62 l (i : Int)).f1 = some true := by
      unfold laws_eqField.f
      rw [rdT_nat l i hil, if_pos rfl, eqIntS_self l[i].f1 (by omega) k (by omega), Option.bind_some, if_pos rfl]
    rw [laws_eqFieldS.l0, if_pos (by omega), if_pos (by omega), if_pos (by omega), he, Option.bind_some, if_pos rfl, step_nat i (by omega)]
    exact ih k (i + 1) (by omega) (by omega)

theorem markFS_l0 (l : List S66) (hl : l.length ≤ 1048576) (hs : tot l l.length ≤ 1048576) : ∀ (d k i : Nat), i + d = l.length → d + 1048578 ≤ k → laws_markFieldS.l0 k (l.map conv) (1 + (i : Int) + tot l i) (i : Int) = some (1 + (l.length : Int) + tot l l.length) := by
  intro d
  induction d with
  | zero =>
    intro k i hi hk
    obtain ⟨k, rfl⟩ : ∃ m, k = m + 1 := ⟨k - 1, by omega⟩
    have e : i = l.length := by omega
    rw [laws_markFieldS.l0, if_neg (by rw [List.length_map]; omega), e]
  | succ d ih =>
    intro k i hi hk
    obtain ⟨k, rfl⟩ : ∃ m, k = m + 1 := ⟨k - 1, by omega⟩
    have hil : i < l.length := by omega
    have hf := tot_at l i hil
    have hs0 := tot_nonneg l i
    have hlen := tot_get l i hil
    have hle := tot_mono l (i + 1) l.length (by omega)
    have hg : ((l.map conv).getD i z62).f1 = l[i].f1 := by
      rw [List.getD_eq_getElem?_getD, List.getElem?_map, List.getElem?_eq_getElem hil]
      rfl
    rw [laws_markFieldS.l0, if_pos (by rw [List.length_map]; omega), if_pos (by omega), Int.toNat_natCast, hg, IntWalk.wrap64_in (1 + (i : Int) + tot l i + 1) (by omega), markIntS_ok l[i].f1 (1 + (i : Int) + tot l i + 1) (by omega) (by omega) (by omega) k (by omega), Option.bind_some, step_nat i (by omega)]
    show laws_markFieldS.l0 k (l.map conv) (1 + (i : Int) + tot l i + 1 + (l[i].f1.length : Int)) ((i + 1 : Nat) : Int) = _
    rw [show 1 + (i : Int) + tot l i + 1 + (l[i].f1.length : Int) = 1 + ((i + 1 : Nat) : Int) + tot l (i + 1) by rw [hlen]; omega]
    exact ih k (i + 1) (by omega) (by omega)

theorem run (q : Int) (A0 : Option Addr) (c0 : Nat) (l : List S66) (w : World) (hr0 : Kd.C k66 w A0 l.length l) (hc0 : l.length ≤ c0) (hl : l.length ≤ maxLen) (hM : ∀ f ∈ l, f.f1.length ≤ maxLen) :
    Calls Try.prog 4 #[.slice A0 l.length c0, .int .i64 q] w fun e w' => e = .returned (.bool true) ∧ Below w.heap.size w w' := by
  have hm : maxLen ≤ 9223372036854775807 := by decide
  have hw : wrap64 (1048576 - (l.length : Int)) = 1048576 - (l.length : Int) := IntWalk.wrap64_in _ (by omega)
  by_cases hn : 1048576 - (l.length : Int) < 0
  · refine laws_FnExactLastOf.walk_early 0 q A0 c0 l (-1) w hr0 hc0 ?_ (by omega)
    unfold laws_szFieldS.f
    rw [hw, if_pos hn]
  · obtain ⟨k, hk⟩ : ∃ k : Nat, k = l.length + 2000010 := ⟨_, rfl⟩
    obtain ⟨s, e1, e2⟩ := szFS_l0 l (by omega) hM l.length k 0 (by omega) (by omega) (by rw [show tot l 0 = 0 from rfl]; omega)
    rw [show tot l 0 = 0 from rfl, Int.sub_zero, show ((0 : Nat) : Int) = 0 from rfl] at e1
    have e3 : laws_szFieldS.f k l 1048576 = some s := by
      unfold laws_szFieldS.f
      rw [hw, if_neg hn]
      exact e1
    by_cases hneg : s < 0
    · exact laws_FnExactLastOf.walk_early k q A0 c0 l s w hr0 hc0 e3 hneg
    · have hsum := e2 (by omega)
      have hM' : ∀ f ∈ l, f.f1.length ≤ 1048576 := by
        intro f hf
        obtain ⟨i, hi, rfl⟩ := List.getElem_of_mem hf
        have := tot_at l i hi
        omega
      have hl1 : (l.map conv).length = l.length := List.length_map ..
      have hM1 : ∀ f ∈ l.map conv, f.f1.length ≤ 1048576 := by
        intro f hf
        obtain ⟨x, hx, rfl⟩ := List.mem_map.1 hf
        exact hM' x hx
      have h1 : laws_toFieldS.f k l = some (l.map conv) := by
        unfold laws_toFieldS.f
        rw [if_pos (by omega), if_pos (by rw [Int.toNat_natCast]; omega), Int.toNat_natCast]
        exact toFS_l0 l (by omega) hM' l.length k 0 _ (by omega) (by omega) (List.length_replicate ..) (fun j hj => absurd hj (Nat.not_lt_zero _))
      have h4 : laws_eqFieldS.f k (l.map conv) (l.map conv) = some true := by
        unfold laws_eqFieldS.f
        rw [if_pos rfl]
        exact eqFS_l0 (l.map conv) (by omega) hM1 (l.map conv).length k 0 (by omega) (by omega)
      have h5 : laws_markFieldS.f k (l.map conv) 1 = some (1 + (l.length : Int) + tot l l.length) := markFS_l0 l (by omega) hsum l.length k 0 (by omega) (by omega)
      have h0 := tot_nonneg l l.length
      have hB := lastB_length (l.map conv) q
      have hs1 := specLast_ok (l.map conv) q (by omega) (fun f hf => by have := hM1 f hf; omega) k (by omega)
      have hs2 := implLast_ok (l.map conv) q k (by omega)
      generalize lastB (l.map conv) q = p at hB hs1 hs2
      obtain ⟨r, b⟩ := p
      have hB' : r.length ≤ 16 := hB
      exact laws_FnExactLastOf.walk_true k q A0 c0 l (l.map conv) b r (iota 1 r.length) s (1 + (l.length : Int) + tot l l.length) (1 + (r.length : Int)) w hr0 hc0 e3 (by omega) h1 hs1 hs2 (eqIntS_self r (by omega) k (by omega)) h4 h5 (by omega)
        (markIntS_ok r 1 (by omega) (by omega) (by omega) k (by omega)) (heldIntS_ok r.length 1 (by omega) (by omega) (by omega) k (by omega)) (by omega) (fun n hn => step_nat n (by omega))

end Go.Proofs.Ytnolmimfpnngjaa.Pure
