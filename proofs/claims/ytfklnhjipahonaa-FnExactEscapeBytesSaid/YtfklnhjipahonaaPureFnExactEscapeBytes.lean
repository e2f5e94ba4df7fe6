/- The program's EscapeBytes returns what the reference's returns, in memory of its own, and leaves its argument as it was: FnExactEscapeBytes returns true for every list of ints. Conditions: none. -/
import Derived.Test.YtfklnhjipahonaaHFnExactEscapeBytesx2
namespace Go.Proofs.Ytfklnhjipahonaa.Pure
open Go.RowKit Go.Proofs.Ytfklnhjipahonaa.HFnExactEscapeBytes Go.Proofs.YtfklnhjipahonaaW.PrintWords Go.Proofs.YtfklnhjipahonaaW.PrintLast
open Go
set_option linter.unusedVariables false
set_option linter.unusedSimpArgs false

theorem rd_nat (l : List Int) (i : Nat) (h : i < l.length) : rd l (i : Int) = l[i] := by
  unfold rd
  rw [Int.toNat_natCast, List.getD_eq_getElem?_getD, List.getElem?_eq_getElem h]
  rfl

theorem step_nat (i : Nat) (h : i < 4611686018427387904) : wrap64 ((i : Int) + 1) = ((i + 1 : Nat) : Int) := by
  rw [IntWalk.wrap64_in ((i : Int) + 1) (by omega)]
  rfl

theorem toIntS_l0 (l : List Int) (hl : l.length ≤ 2000000) : ∀ (d k i : Nat) (o : List Int), i + d = l.length → d < k → o.length = l.length → (∀ j, j < i → o[j]? = l[j]?) → laws_toIntS.l0 k l o (i : Int) = some l := by
  intro d
  induction d with
  | zero =>
    intro k i o hi hk ho hj
    obtain ⟨k, rfl⟩ : ∃ m, k = m + 1 := ⟨k - 1, by omega⟩
    simp only [laws_toIntS.l0]
    rw [if_neg (by omega)]
    congr 1
    apply List.ext_getElem?
    intro j
    by_cases h : j < l.length
    · exact hj j (by omega)
    · rw [List.getElem?_eq_none (by omega), List.getElem?_eq_none (by omega)]
  | succ d ih =>
    intro k i o hi hk ho hj
    obtain ⟨k, rfl⟩ : ∃ m, k = m + 1 := ⟨k - 1, by omega⟩
    simp only [laws_toIntS.l0]
    rw [if_pos (by omega), if_pos (by omega), if_pos (by omega), step_nat i (by omega), Int.toNat_natCast, rd_nat l i (by omega)]
    refine ih k (i + 1) _ (by omega) (by omega) (by rw [List.length_set]; exact ho) ?_
    intro j hji
    by_cases e : i = j
    · subst e
      rw [List.getElem?_set_self (by omega), List.getElem?_eq_getElem (by omega)]
    · rw [List.getElem?_set_ne e]
      exact hj j (by omega)

theorem toIntS_ok (l : List Int) (hl : l.length ≤ 2000000) (k : Nat) (hk : l.length < k) : laws_toIntS.f k l = some l := by
  unfold laws_toIntS.f
  rw [if_pos (by omega), if_pos (by rw [Int.toNat_natCast]; omega), Int.toNat_natCast]
  exact toIntS_l0 l hl l.length k 0 _ (by omega) hk (List.length_replicate ..) (fun j hj => absurd hj (Nat.not_lt_zero _))

theorem eqIntS_l0 (a b : List Int) (hab : a.length = b.length) (hl : a.length ≤ 2000000) : ∀ (d k i : Nat), i + d = a.length → d < k → laws_eqIntS.l0 k a b (i : Int) = some (decide (a.drop i = b.drop i)) := by
  intro d
  induction d with
  | zero =>
    intro k i hi hk
    obtain ⟨k, rfl⟩ : ∃ m, k = m + 1 := ⟨k - 1, by omega⟩
    simp only [laws_eqIntS.l0]
    rw [if_neg (by omega), List.drop_eq_nil_of_le (by omega), List.drop_eq_nil_of_le (by omega)]
    rfl
  | succ d ih =>
    intro k i hi hk
    obtain ⟨k, rfl⟩ : ∃ m, k = m + 1 := ⟨k - 1, by omega⟩
    simp only [laws_eqIntS.l0]
    rw [if_pos (by omega), if_pos (by omega), if_pos (by omega), step_nat i (by omega), rd_nat a i (by omega), rd_nat b i (by omega)]
    rw [List.drop_eq_getElem_cons (by omega : i < a.length), List.drop_eq_getElem_cons (by omega : i < b.length)]
    by_cases e : a[i]'(by omega) = b[i]'(by omega)
    · rw [if_pos e, ih k (i + 1) (by omega) (by omega), e]
      exact congrArg some (decide_eq_decide.mpr ⟨fun h => by rw [h], fun h => (List.cons.inj h).2⟩)
    · rw [if_neg e]
      exact congrArg some (decide_eq_false (fun h => e (List.cons.inj h).1)).symm

theorem eqIntS_ok (a b : List Int) (hl : a.length ≤ 2000000) (k : Nat) (hk : a.length < k) : laws_eqIntS.f k a b = some (decide (a = b)) := by
  unfold laws_eqIntS.f
  by_cases h : a.length = b.length
  · rw [if_pos (by omega)]
    exact eqIntS_l0 a b h hl a.length k 0 (by omega) hk
  · rw [if_neg (by omega), decide_eq_false (fun e => h (by rw [e]))]

theorem eqIntS_self (a : List Int) (hl : a.length ≤ 2000000) (k : Nat) (hk : a.length < k) : laws_eqIntS.f k a a = some true := by
  rw [eqIntS_ok a a hl k hk, decide_eq_true rfl]

/-- m, m + 1, .. : n numbers. -/
def iota (m : Int) (n : Nat) : List Int := (List.range n).map fun j : Nat => m + (j : Int)

theorem iota_length (m : Int) (n : Nat) : (iota m n).length = n := by simp [iota]
theorem iota_get (m : Int) (n j : Nat) (h : j < (iota m n).length) : (iota m n)[j] = m + (j : Int) := by simp [iota]
theorem iota_get? (m : Int) (n j : Nat) (h : j < n) : (iota m n)[j]? = some (m + (j : Int)) := by
  rw [List.getElem?_eq_getElem (by rw [iota_length]; exact h), iota_get]

theorem markIntS_l0 (n : Nat) (m : Int) (hn : n ≤ 2000000) (hm : 0 ≤ m) (hm' : m ≤ 4000000) : ∀ (d k i : Nat) (o : List Int), i + d = n → d < k → o.length = n → (∀ j, j < i → o[j]? = (iota m n)[j]?) → laws_markIntS.l0 k o (m + (i : Int)) (i : Int) = some (m + (n : Int), iota m n) := by
  intro d
  induction d with
  | zero =>
    intro k i o hi hk ho hj
    obtain ⟨k, rfl⟩ : ∃ m, k = m + 1 := ⟨k - 1, by omega⟩
    simp only [laws_markIntS.l0]
    rw [if_neg (by omega)]
    have e : i = n := by omega
    subst e
    congr 2
    apply List.ext_getElem?
    intro j
    by_cases h : j < i
    · exact hj j h
    · rw [List.getElem?_eq_none (by omega), List.getElem?_eq_none (by rw [iota_length]; omega)]
  | succ d ih =>
    intro k i o hi hk ho hj
    obtain ⟨k, rfl⟩ : ∃ m, k = m + 1 := ⟨k - 1, by omega⟩
    simp only [laws_markIntS.l0]
    rw [if_pos (by omega), if_pos (by omega), step_nat i (by omega), Int.toNat_natCast, (IntWalk.wrap64_in (m + (i : Int) + 1) (by omega)).trans (show m + (i : Int) + 1 = m + ((i + 1 : Nat) : Int) by omega)]
    refine ih k (i + 1) _ (by omega) (by omega) (by rw [List.length_set]; exact ho) ?_
    intro j hji
    by_cases e : i = j
    · subst e
      rw [List.getElem?_set_self (by omega), iota_get? m n i (by omega)]
    · rw [List.getElem?_set_ne e]
      exact hj j (by omega)

theorem markIntS_ok (l : List Int) (m : Int) (hl : l.length ≤ 2000000) (hm : 0 ≤ m) (hm' : m ≤ 4000000) (k : Nat) (hk : l.length < k) : laws_markIntS.f k l m = some (m + (l.length : Int), iota m l.length) := by
  unfold laws_markIntS.f
  have h := markIntS_l0 l.length m hl hm hm' l.length k 0 l (by omega) hk rfl (fun j hj => absurd hj (Nat.not_lt_zero _))
  rw [show m + ((0 : Nat) : Int) = m by omega] at h
  exact h

theorem heldIntS_l0 (n : Nat) (m : Int) (hn : n ≤ 2000000) (hm : 0 ≤ m) (hm' : m ≤ 4000000) : ∀ (d k i : Nat), i + d = n → d < k → laws_heldIntS.l0 k (iota m n) (m + (i : Int)) (i : Int) = some (m + (n : Int)) := by
  intro d
  induction d with
  | zero =>
    intro k i hi hk
    obtain ⟨k, rfl⟩ : ∃ m, k = m + 1 := ⟨k - 1, by omega⟩
    simp only [laws_heldIntS.l0]
    rw [if_neg (by rw [iota_length]; omega)]
    have e : i = n := by omega
    rw [e]
  | succ d ih =>
    intro k i hi hk
    obtain ⟨k, rfl⟩ : ∃ m, k = m + 1 := ⟨k - 1, by omega⟩
    simp only [laws_heldIntS.l0]
    rw [if_pos (by rw [iota_length]; omega), if_pos (by omega), rd_nat _ i (by rw [iota_length]; omega), iota_get, if_pos rfl, step_nat i (by omega), (IntWalk.wrap64_in (m + (i : Int) + 1) (by omega)).trans (show m + (i : Int) + 1 = m + ((i + 1 : Nat) : Int) by omega)]
    exact ih k (i + 1) (by omega) (by omega)

theorem heldIntS_ok (n : Nat) (m : Int) (hn : n ≤ 2000000) (hm : 0 ≤ m) (hm' : m ≤ 4000000) (k : Nat) (hk : n < k) : laws_heldIntS.f k (iota m n) m = some (m + (n : Int)) := by
  unfold laws_heldIntS.f
  have h := heldIntS_l0 n m hn hm hm' n k 0 (by omega) hk
  rw [show m + ((0 : Nat) : Int) = m by omega] at h
  exact h

/-- Numbers of one byte. -/
def okB (l : List Int) : Bool := l.all fun x => decide (0 ≤ x ∧ x ≤ 255)

theorem okB_iff (l : List Int) : okB l = true ↔ ∀ x ∈ l, 0 ≤ x ∧ x ≤ 255 := by simp [okB]

theorem inRange_val (x a b : Int) : spec_inRange.f x a b = some (decide (a ≤ x ∧ x ≤ b)) := by
  unfold spec_inRange.f
  by_cases h : a ≤ x
  · rw [if_pos h]; simp [h]
  · rw [if_neg h]; simp [h]

theorem validBytes_l0 (l : List Int) (m : Int) (hl : l.length ≤ 2000000) : ∀ (d k i : Nat), i + d = l.length → d < k → spec_validBytes.l0 k l m (i : Int) = some (okB (l.drop i) && decide ((l.length : Int) ≤ m)) := by
  intro d
  induction d with
  | zero =>
    intro k i hi hk
    obtain ⟨k, rfl⟩ : ∃ m, k = m + 1 := ⟨k - 1, by omega⟩
    simp only [spec_validBytes.l0]
    rw [if_neg (by omega), List.drop_eq_nil_of_le (by omega)]
    simp [okB]
  | succ d ih =>
    intro k i hi hk
    obtain ⟨k, rfl⟩ : ∃ m, k = m + 1 := ⟨k - 1, by omega⟩
    simp only [spec_validBytes.l0]
    rw [if_pos (by omega), if_pos (by omega), step_nat i (by omega), rd_nat l i (by omega), inRange_val]
    rw [List.drop_eq_getElem_cons (by omega : i < l.length)]
    simp only [Option.bind_some]
    by_cases e : 0 ≤ l[i]'(by omega) ∧ l[i]'(by omega) ≤ 255
    · rw [if_pos (decide_eq_true e), ih k (i + 1) (by omega) (by omega)]
      have h : okB (l[i]'(by omega) :: l.drop (i + 1)) = okB (l.drop (i + 1)) := by
        unfold okB
        rw [List.all_cons, decide_eq_true e, Bool.true_and]
      rw [h]
    · rw [if_neg (by simpa using e)]
      have h : okB (l[i]'(by omega) :: l.drop (i + 1)) = false := by
        unfold okB
        rw [List.all_cons, decide_eq_false e, Bool.false_and]
      rw [h, Bool.false_and]

theorem validBytes_ok (l : List Int) (m : Int) (hl : l.length ≤ 2000000) (k : Nat) (hk : l.length < k) : spec_validBytes.f k l m = some (okB l && decide ((l.length : Int) ≤ m)) := by
  unfold spec_validBytes.f
  exact validBytes_l0 l m hl l.length k 0 (by omega) hk

theorem bytesAlone_val (l : List Int) : impl_bytesAlone.f l = some (okB l) := by
  unfold impl_bytesAlone.f okB
  congr 1
  induction l with
  | nil => rfl
  | cons x l ih =>
    rw [List.any_cons, List.all_cons, ← ih]
    have h : (decide (x < 0) || decide (x > 255)) = !(decide (0 ≤ x ∧ x ≤ 255)) := by
      by_cases h1 : x < 0
      · simp [h1]
      · by_cases h2 : x > 255
        · simp [h2]
        · simp [h1, h2]; omega
    rw [h, Bool.not_or, Bool.not_not]

theorem bytesOk_val (l : List Int) : impl_bytesOk.f l = some (okB l && decide (l.length ≤ 16)) := by
  unfold impl_bytesOk.f
  rw [bytesAlone_val]
  simp only [Option.bind_some]
  by_cases h : l.length ≤ 16
  · rw [if_pos (by omega)]; simp [h]
  · rw [if_neg (by omega)]; simp [h]

/-- What stands for a byte. -/
def esc1 (x : Int) : List Int := if x = 192 then [219, 220] else if x = 219 then [219, 221] else [x]
def escL (l : List Int) : List Int := l.flatMap esc1

theorem esc1_length (x : Int) : 1 ≤ (esc1 x).length ∧ (esc1 x).length ≤ 2 := by
  unfold esc1
  split
  · simp
  · split <;> simp

theorem escL_length (l : List Int) : (escL l).length ≤ 2 * l.length := by
  induction l with
  | nil => simp [escL]
  | cons x l ih =>
    have h := (esc1_length x).2
    have e : escL (x :: l) = esc1 x ++ escL l := by simp [escL]
    rw [e, List.length_append, List.length_cons]
    omega

theorem escL_cons (x : Int) (l : List Int) : escL (x :: l) = esc1 x ++ escL l := by simp [escL]

theorem specEsc_l0 (l : List Int) (hl : l.length ≤ 16) : ∀ (d k i : Nat) (o : List Int), i + d = l.length → d < k → o.length ≤ 2 * i →
    spec_EscapeBytes.l0 k l o (i : Int) = some (o ++ escL (l.drop i) ++ [192]) := by
  intro d
  induction d with
  | zero =>
    intro k i o hi hk ho
    obtain ⟨k, rfl⟩ : ∃ m, k = m + 1 := ⟨k - 1, by omega⟩
    simp only [spec_EscapeBytes.l0]
    rw [if_neg (by omega), List.drop_eq_nil_of_le (by omega), if_pos (by omega)]
    simp [escL]
  | succ d ih =>
    intro k i o hi hk ho
    obtain ⟨k, rfl⟩ : ∃ m, k = m + 1 := ⟨k - 1, by omega⟩
    simp only [spec_EscapeBytes.l0]
    rw [if_pos (by omega), if_pos (by omega), step_nat i (by omega), rd_nat l i (by omega)]
    rw [List.drop_eq_getElem_cons (by omega : i < l.length), escL_cons]
    generalize l[i]'(by omega) = x
    simp only [Option.bind_some]
    have hlen : ∀ y : List Int, y.length ≤ 2 → (o ++ y).length ≤ 2 * (i + 1) := fun y hy => by rw [List.length_append]; omega
    by_cases h1 : x = 192
    · rw [if_pos h1, if_pos (by simp; omega), ih k (i + 1) _ (by omega) (by omega) (hlen _ (by simp))]
      simp [esc1, h1]
    · rw [if_neg h1]
      by_cases h2 : x = 219
      · rw [if_pos h2, if_pos (by simp; omega), ih k (i + 1) _ (by omega) (by omega) (hlen _ (by simp))]
        simp [esc1, h2]
      · rw [if_neg h2, if_pos (by omega), ih k (i + 1) _ (by omega) (by omega) (hlen _ (by simp))]
        simp [esc1, h1, h2]

theorem implEsc_l0 (l : List Int) (hl : l.length ≤ 16) : ∀ (d k i : Nat) (o : List Int), i + d = l.length → d < k → o.length ≤ 2 * i →
    impl_EscapeBytes.l0 k o l (l.length : Int) (i : Int) = some (o ++ escL (l.drop i) ++ [192]) := by
  intro d
  induction d with
  | zero =>
    intro k i o hi hk ho
    obtain ⟨k, rfl⟩ : ∃ m, k = m + 1 := ⟨k - 1, by omega⟩
    simp only [impl_EscapeBytes.l0]
    rw [if_neg (by omega), List.drop_eq_nil_of_le (by omega), if_pos (by omega)]
    simp [escL]
  | succ d ih =>
    intro k i o hi hk ho
    obtain ⟨k, rfl⟩ : ∃ m, k = m + 1 := ⟨k - 1, by omega⟩
    simp only [impl_EscapeBytes.l0]
    rw [if_pos (by omega), if_pos (by omega), if_pos (by omega), step_nat i (by omega), rd_nat l i (by omega)]
    rw [List.drop_eq_getElem_cons (by omega : i < l.length), escL_cons]
    generalize l[i]'(by omega) = x
    simp only [Option.bind_some]
    have hlen : ∀ y : List Int, y.length ≤ 2 → (o ++ y).length ≤ 2 * (i + 1) := fun y hy => by rw [List.length_append]; omega
    by_cases h1 : x = 192
    · rw [if_pos h1, if_pos (by simp; omega), ih k (i + 1) _ (by omega) (by omega) (hlen _ (by simp))]
      simp [esc1, h1]
    · rw [if_neg h1]
      by_cases h2 : x = 219
      · rw [if_pos h2, if_pos (by simp; omega), ih k (i + 1) _ (by omega) (by omega) (hlen _ (by simp))]
        simp [esc1, h2]
      · rw [if_neg h2, if_pos (by omega), ih k (i + 1) _ (by omega) (by omega) (hlen _ (by simp))]
        simp [esc1, h1, h2]

/-- What both return. -/
def escB (l : List Int) : List Int := if okB l = true ∧ l.length ≤ 16 then escL l ++ [192] else []

theorem escB_length (l : List Int) : (escB l).length ≤ 33 := by
  unfold escB
  split
  · next h =>
    have := escL_length l
    rw [List.length_append, List.length_singleton]
    omega
  · simp

theorem implEsc_ok (l : List Int) (k : Nat) (hk : l.length < k) : impl_EscapeBytes.f k l = some (escB l) := by
  unfold impl_EscapeBytes.f escB
  rw [bytesOk_val]
  simp only [Option.bind_some, Bool.and_eq_true, decide_eq_true_eq]
  by_cases h : okB l = true ∧ l.length ≤ 16
  · rw [if_pos h, if_pos h]
    have := implEsc_l0 l h.2 l.length k 0 [] (by omega) hk (by simp)
    simpa using this
  · rw [if_neg h, if_neg h]

theorem specEsc_ok (l : List Int) (hl : l.length ≤ 2000000) (k : Nat) (hk : l.length < k) : spec_EscapeBytes.f k l = some (escB l) := by
  unfold spec_EscapeBytes.f escB
  rw [validBytes_ok l 16 hl k hk]
  simp only [Option.bind_some, Bool.and_eq_true, decide_eq_true_eq]
  by_cases h : okB l = true ∧ l.length ≤ 16
  · rw [if_pos ⟨h.1, by omega⟩, if_pos h]
    have := specEsc_l0 l h.2 l.length k 0 [] (by omega) hk (by simp)
    simpa using this
  · rw [if_neg (fun e => h ⟨e.1, by omega⟩), if_neg h]


theorem FnExactEscapeBytes : laws_FnExactEscapeBytes.Pure := by
  intro l _ _ _
  by_cases hc : (l.length : Int) > 1048576
  · exact ⟨0, by unfold laws_FnExactEscapeBytes.f; rw [if_pos hc]⟩
  · have hl : l.length ≤ 2000000 := by omega
    have he := escB_length l
    refine ⟨l.length + 40, ?_⟩
    unfold laws_FnExactEscapeBytes.f
    rw [if_neg hc]
    simp only [toIntS_ok l hl (l.length + 40) (by omega), Option.bind_some, specEsc_ok l hl (l.length + 40) (by omega), implEsc_ok l (l.length + 40) (by omega), if_true, eqIntS_self l hl (l.length + 40) (by omega), eqIntS_self (escB l) (by omega) (l.length + 40) (by omega), markIntS_ok l 1 hl (by omega) (by omega) (l.length + 40) (by omega), Bool.not_true]
    rw [if_neg (by omega)]
    simp only [laws_FnExactEscapeBytes.j0, Bool.false_eq_true, if_false, toIntS_ok l hl (l.length + 39) (by omega), Option.bind_some, implEsc_ok l (l.length + 39) (by omega), eqIntS_self (escB l) (by omega) (l.length + 39) (by omega), markIntS_ok (escB l) 1 (by omega) (by omega) (by omega) (l.length + 39) (by omega), heldIntS_ok (escB l).length 1 (by omega) (by omega) (by omega) (l.length + 39) (by omega), if_true]
    rw [if_neg (by omega), if_neg (by omega)]

end Go.Proofs.Ytfklnhjipahonaa.Pure
