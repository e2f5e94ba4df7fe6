/- The program's UnescapeBytes returns what the reference's returns, in memory of its own, and leaves its argument as it was: FnExactUnescapeBytes returns true for every list of ints. Conditions: none. -/
import Derived.Test.YtfklnhjipahonaaHFnExactUnescapeBytesx4
namespace Go.Proofs.Ytfklnhjipahonaa.Pure
open Go.RowKit Go.Proofs.Ytfklnhjipahonaa.HFnExactUnescapeBytes Go.Proofs.YtfklnhjipahonaaW.PrintWords Go.Proofs.YtfklnhjipahonaaW.PrintLast
open Go
set_option linter.unusedVariables false
set_option linter.unusedSimpArgs false

theorem rd_nat (l : List Int) (i : Nat) (h : i < l.length) : rd l (i : Int) = l[i] := by
  unfold rd
  rw [Int.toNat_natCast, List.getD_eq_getElem?_getD, List.getElem?_eq_getElem h]
  rfl

theorem step_nat (i : Nat) (h : i < 4611686018427387904) : wrap64 ((i : Int) + 1) = ((i + 1 : Nat) : Int) := by
  rw [IntWalk.wrap64_in ((i : Int) + 1) (by omega)]
  rfl

theorem toIntS_l0 (l : List Int) (hl : l.length ≤ 2000000) : ∀ (d k i : Nat) (o : List Int), i + d = l.length → d < k → o.length = l.length → (∀ j, j < i → o[j]? = l[j]?) → laws_toIntS.l0 k l o (i : Int) = some l := by
  intro d
  induction d with
  | zero =>
    intro k i o hi hk ho hj
    obtain ⟨k, rfl⟩ : ∃ m, k = m + 1 := ⟨k - 1, by omega⟩
    simp only [laws_toIntS.l0]
    rw [if_neg (by omega)]
    congr 1
    apply List.ext_getElem?
    intro j
    by_cases h : j < l.length
    · exact hj j (by omega)
    · rw [List.getElem?_eq_none (by omega), List.getElem?_eq_none (by omega)]
  | succ d ih =>
    intro k i o hi hk ho hj
    obtain ⟨k, rfl⟩ : ∃ m, k = m + 1 := ⟨k - 1, by omega⟩
    simp only [laws_toIntS.l0]
    rw [if_pos (by omega), if_pos (by omega), if_pos (by omega), step_nat i (by omega), Int.toNat_natCast, rd_nat l i (by omega)]
    refine ih k (i + 1) _ (by omega) (by omega) (by rw [List.length_set]; exact ho) ?_
    intro j hji
    by_cases e : i = j
    · subst e
      rw [List.getElem?_set_self (by omega), List.getElem?_eq_getElem (by omega)]
    · rw [List.getElem?_set_ne e]
      exact hj j (by omega)

theorem toIntS_ok (l : List Int) (hl : l.length ≤ 2000000) (k : Nat) (hk : l.length < k) : laws_toIntS.f k l = some l := by
  unfold laws_toIntS.f
  rw [if_pos (by omega), if_pos (by rw [Int.toNat_natCast]; omega), Int.toNat_natCast]
  exact toIntS_l0 l hl l.length k 0 _ (by omega) hk (List.length_replicate ..) (fun j hj => absurd hj (Nat.not_lt_zero _))

theorem eqIntS_l0 (a b : List Int) (hab : a.length = b.length) (hl : a.length ≤ 2000000) : ∀ (d k i : Nat), i + d = a.length → d < k → laws_eqIntS.l0 k a b (i : Int) = some (decide (a.drop i = b.drop i)) := by
  intro d
  induction d with
  | zero =>
    intro k i hi hk
    obtain ⟨k, rfl⟩ : ∃ m, k = m + 1 := ⟨k - 1, by omega⟩
    simp only [laws_eqIntS.l0]
    rw [if_neg (by omega), List.drop_eq_nil_of_le (by omega), List.drop_eq_nil_of_le (by omega)]
    rfl
  | succ d ih =>
    intro k i hi hk
    obtain ⟨k, rfl⟩ : ∃ m, k = m + 1 := ⟨k - 1, by omega⟩
    simp only [laws_eqIntS.l0]
    rw [if_pos (by omega), if_pos (by omega), if_pos (by omega), step_nat i (by omega), rd_nat a i (by omega), rd_nat b i (by omega)]
    rw [List.drop_eq_getElem_cons (by omega : i < a.length), List.drop_eq_getElem_cons (by omega : i < b.length)]
    by_cases e : a[i]'(by omega) = b[i]'(by omega)
    · rw [if_pos e, ih k (i + 1) (by omega) (by omega), e]
      exact congrArg some (decide_eq_decide.mpr ⟨fun h => by rw [h], fun h => (List.cons.inj h).2⟩)
    · rw [if_neg e]
      exact congrArg some (decide_eq_false (fun h => e (List.cons.inj h).1)).symm

theorem eqIntS_ok (a b : List Int) (hl : a.length ≤ 2000000) (k : Nat) (hk : a.length < k) : laws_eqIntS.f k a b = some (decide (a = b)) := by
  unfold laws_eqIntS.f
  by_cases h : a.length = b.length
  · rw [if_pos (by omega)]
    exact eqIntS_l0 a b h hl a.length k 0 (by omega) hk
  · rw [if_neg (by omega), decide_eq_false (fun e => h (by rw [e]))]

theorem eqIntS_self (a : List Int) (hl : a.length ≤ 2000000) (k : Nat) (hk : a.length < k) : laws_eqIntS.f k a a = some true := by
  rw [eqIntS_ok a a hl k hk, decide_eq_true rfl]

/-- m, m + 1, .. : n numbers. -/
def iota (m : Int) (n : Nat) : List Int := (List.range n).map fun j : Nat => m + (j : Int)

theorem iota_length (m : Int) (n : Nat) : (iota m n).length = n := by simp [iota]
theorem iota_get (m : Int) (n j : Nat) (h : j < (iota m n).length) : (iota m n)[j] = m + (j : Int) := by simp [iota]
theorem iota_get? (m : Int) (n j : Nat) (h : j < n) : (iota m n)[j]? = some (m + (j : Int)) := by
  rw [List.getElem?_eq_getElem (by rw [iota_length]; exact h), iota_get]

theorem markIntS_l0 (n : Nat) (m : Int) (hn : n ≤ 2000000) (hm : 0 ≤ m) (hm' : m ≤ 4000000) : ∀ (d k i : Nat) (o : List Int), i + d = n → d < k → o.length = n → (∀ j, j < i → o[j]? = (iota m n)[j]?) → laws_markIntS.l0 k o (m + (i : Int)) (i : Int) = some (m + (n : Int), iota m n) := by
  intro d
  induction d with
  | zero =>
    intro k i o hi hk ho hj
    obtain ⟨k, rfl⟩ : ∃ m, k = m + 1 := ⟨k - 1, by omega⟩
    simp only [laws_markIntS.l0]
    rw [if_neg (by omega)]
    have e : i = n := by omega
    subst e
    congr 2
    apply List.ext_getElem?
    intro j
    by_cases h : j < i
    · exact hj j h
    · rw [List.getElem?_eq_none (by omega), List.getElem?_eq_none (by rw [iota_length]; omega)]
  | succ d ih =>
    intro k i o hi hk ho hj
    obtain ⟨k, rfl⟩ : ∃ m, k = m + 1 := ⟨k - 1, by omega⟩
    simp only [laws_markIntS.l0]
    rw [if_pos (by omega), if_pos (by omega), step_nat i (by omega), Int.toNat_natCast, (IntWalk.wrap64_in (m + (i : Int) + 1) (by omega)).trans (show m + (i : Int) + 1 = m + ((i + 1 : Nat) : Int) by omega)]
    refine ih k (i + 1) _ (by omega) (by omega) (by rw [List.length_set]; exact ho) ?_
    intro j hji
    by_cases e : i = j
    · subst e
      rw [List.getElem?_set_self (by omega), iota_get? m n i (by omega)]
    · rw [List.getElem?_set_ne e]
      exact hj j (by omega)

theorem markIntS_ok (l : List Int) (m : Int) (hl : l.length ≤ 2000000) (hm : 0 ≤ m) (hm' : m ≤ 4000000) (k : Nat) (hk : l.length < k) : laws_markIntS.f k l m = some (m + (l.length : Int), iota m l.length) := by
  unfold laws_markIntS.f
  have h := markIntS_l0 l.length m hl hm hm' l.length k 0 l (by omega) hk rfl (fun j hj => absurd hj (Nat.not_lt_zero _))
  rw [show m + ((0 : Nat) : Int) = m by omega] at h
  exact h

theorem heldIntS_l0 (n : Nat) (m : Int) (hn : n ≤ 2000000) (hm : 0 ≤ m) (hm' : m ≤ 4000000) : ∀ (d k i : Nat), i + d = n → d < k → laws_heldIntS.l0 k (iota m n) (m + (i : Int)) (i : Int) = some (m + (n : Int)) := by
  intro d
  induction d with
  | zero =>
    intro k i hi hk
    obtain ⟨k, rfl⟩ : ∃ m, k = m + 1 := ⟨k - 1, by omega⟩
    simp only [laws_heldIntS.l0]
    rw [if_neg (by rw [iota_length]; omega)]
    have e : i = n := by omega
    rw [e]
  | succ d ih =>
    intro k i hi hk
    obtain ⟨k, rfl⟩ : ∃ m, k = m + 1 := ⟨k - 1, by omega⟩
    simp only [laws_heldIntS.l0]
    rw [if_pos (by rw [iota_length]; omega), if_pos (by omega), rd_nat _ i (by rw [iota_length]; omega), iota_get, if_pos rfl, step_nat i (by omega), (IntWalk.wrap64_in (m + (i : Int) + 1) (by omega)).trans (show m + (i : Int) + 1 = m + ((i + 1 : Nat) : Int) by omega)]
    exact ih k (i + 1) (by omega) (by omega)

theorem heldIntS_ok (n : Nat) (m : Int) (hn : n ≤ 2000000) (hm : 0 ≤ m) (hm' : m ≤ 4000000) (k : Nat) (hk : n < k) : laws_heldIntS.f k (iota m n) m = some (m + (n : Int)) := by
  unfold laws_heldIntS.f
  have h := heldIntS_l0 n m hn hm hm' n k 0 (by omega) hk
  rw [show m + ((0 : Nat) : Int) = m by omega] at h
  exact h

/-- Numbers of one byte. -/
def okB (l : List Int) : Bool := l.all fun x => decide (0 ≤ x ∧ x ≤ 255)

theorem okB_iff (l : List Int) : okB l = true ↔ ∀ x ∈ l, 0 ≤ x ∧ x ≤ 255 := by simp [okB]

theorem bytesAlone_val (l : List Int) : impl_bytesAlone.f l = some (okB l) := by
  unfold impl_bytesAlone.f okB
  congr 1
  induction l with
  | nil => rfl
  | cons x l ih =>
    rw [List.any_cons, List.all_cons, ← ih]
    have h : (decide (x < 0) || decide (x > 255)) = !(decide (0 ≤ x ∧ x ≤ 255)) := by
      by_cases h1 : x < 0
      · simp [h1]
      · by_cases h2 : x > 255
        · simp [h2]
        · simp [h1, h2]; omega
    rw [h, Bool.not_or, Bool.not_not]

theorem bytesOk_val (l : List Int) : impl_bytesOk.f l = some (okB l && decide (l.length ≤ 16)) := by
  unfold impl_bytesOk.f
  rw [bytesAlone_val]
  simp only [Option.bind_some]
  by_cases h : l.length ≤ 16
  · rw [if_pos (by omega)]; simp [h]
  · rw [if_neg (by omega)]; simp [h]

/-- What stands for a byte. -/
def esc1 (x : Int) : List Int := if x = 192 then [219, 220] else if x = 219 then [219, 221] else [x]
def escL (l : List Int) : List Int := l.flatMap esc1

theorem esc1_length (x : Int) : 1 ≤ (esc1 x).length ∧ (esc1 x).length ≤ 2 := by
  unfold esc1
  split
  · simp
  · split <;> simp

theorem escL_length (l : List Int) : (escL l).length ≤ 2 * l.length := by
  induction l with
  | nil => simp [escL]
  | cons x l ih =>
    have h := (esc1_length x).2
    have e : escL (x :: l) = esc1 x ++ escL l := by simp [escL]
    rw [e, List.length_append, List.length_cons]
    omega

theorem escL_cons (x : Int) (l : List Int) : escL (x :: l) = esc1 x ++ escL l := by simp [escL]

theorem implEsc_l0 (l : List Int) (hl : l.length ≤ 16) : ∀ (d k i : Nat) (o : List Int), i + d = l.length → d < k → o.length ≤ 2 * i →
    impl_EscapeBytes.l0 k o l (l.length : Int) (i : Int) = some (o ++ escL (l.drop i) ++ [192]) := by
  intro d
  induction d with
  | zero =>
    intro k i o hi hk ho
    obtain ⟨k, rfl⟩ : ∃ m, k = m + 1 := ⟨k - 1, by omega⟩
    simp only [impl_EscapeBytes.l0]
    rw [if_neg (by omega), List.drop_eq_nil_of_le (by omega), if_pos (by omega)]
    simp [escL]
  | succ d ih =>
    intro k i o hi hk ho
    obtain ⟨k, rfl⟩ : ∃ m, k = m + 1 := ⟨k - 1, by omega⟩
    simp only [impl_EscapeBytes.l0]
    rw [if_pos (by omega), if_pos (by omega), if_pos (by omega), step_nat i (by omega), rd_nat l i (by omega)]
    rw [List.drop_eq_getElem_cons (by omega : i < l.length), escL_cons]
    generalize l[i]'(by omega) = x
    simp only [Option.bind_some]
    have hlen : ∀ y : List Int, y.length ≤ 2 → (o ++ y).length ≤ 2 * (i + 1) := fun y hy => by rw [List.length_append]; omega
    by_cases h1 : x = 192
    · rw [if_pos h1, if_pos (by simp; omega), ih k (i + 1) _ (by omega) (by omega) (hlen _ (by simp))]
      simp [esc1, h1]
    · rw [if_neg h1]
      by_cases h2 : x = 219
      · rw [if_pos h2, if_pos (by simp; omega), ih k (i + 1) _ (by omega) (by omega) (hlen _ (by simp))]
        simp [esc1, h2]
      · rw [if_neg h2, if_pos (by omega), ih k (i + 1) _ (by omega) (by omega) (hlen _ (by simp))]
        simp [esc1, h1, h2]

/-- What both return. -/
def escB (l : List Int) : List Int := if okB l = true ∧ l.length ≤ 16 then escL l ++ [192] else []

theorem escB_length (l : List Int) : (escB l).length ≤ 33 := by
  unfold escB
  split
  · next h =>
    have := escL_length l
    rw [List.length_append, List.length_singleton]
    omega
  · simp

theorem implEsc_ok (l : List Int) (k : Nat) (hk : l.length < k) : impl_EscapeBytes.f k l = some (escB l) := by
  unfold impl_EscapeBytes.f escB
  rw [bytesOk_val]
  simp only [Option.bind_some, Bool.and_eq_true, decide_eq_true_eq]
  by_cases h : okB l = true ∧ l.length ≤ 16
  · rw [if_pos h, if_pos h]
    have := implEsc_l0 l h.2 l.length k 0 [] (by omega) hk (by simp)
    simpa using this
  · rw [if_neg h, if_neg h]

theorem sliceEqual_l0 (a b : List Int) (hab : a.length = b.length) (hl : a.length ≤ 2000000) : ∀ (d k i : Nat), i + d = a.length → d < k → slices_Equal_int_int.l0 k a b (a.length : Int) (i : Int) = some (decide (a.drop i = b.drop i)) := by
  intro d
  induction d with
  | zero =>
    intro k i hi hk
    obtain ⟨k, rfl⟩ : ∃ m, k = m + 1 := ⟨k - 1, by omega⟩
    simp only [slices_Equal_int_int.l0]
    rw [if_neg (by omega), List.drop_eq_nil_of_le (by omega), List.drop_eq_nil_of_le (by omega)]
    rfl
  | succ d ih =>
    intro k i hi hk
    obtain ⟨k, rfl⟩ : ∃ m, k = m + 1 := ⟨k - 1, by omega⟩
    simp only [slices_Equal_int_int.l0]
    rw [if_pos (by omega), if_pos (by omega), if_pos (by omega), if_pos (by omega), step_nat i (by omega), rd_nat a i (by omega), rd_nat b i (by omega)]
    rw [List.drop_eq_getElem_cons (by omega : i < a.length), List.drop_eq_getElem_cons (by omega : i < b.length)]
    by_cases e : a[i]'(by omega) = b[i]'(by omega)
    · rw [if_pos e, ih k (i + 1) (by omega) (by omega), e]
      exact congrArg some (decide_eq_decide.mpr ⟨fun h => by rw [h], fun h => (List.cons.inj h).2⟩)
    · rw [if_neg e]
      exact congrArg some (decide_eq_false (fun h => e (List.cons.inj h).1)).symm

theorem sliceEqual_ok (a b : List Int) (hl : a.length ≤ 2000000) (k : Nat) (hk : a.length < k) : slices_Equal_int_int.f k a b = some (decide (a = b)) := by
  unfold slices_Equal_int_int.f
  by_cases h : a.length = b.length
  · rw [if_pos (by omega)]
    exact sliceEqual_l0 a b h hl a.length k 0 (by omega) hk
  · rw [if_neg (by omega), decide_eq_false (fun e => h (by rw [e]))]

theorem esc_cases (t : List Int) (x : Int) (r : List Int) (h : x :: r = escL t ++ [192]) :
    (t = [] ∧ x = 192 ∧ r = []) ∨ (∃ t', t = 192 :: t' ∧ x = 219 ∧ r = 220 :: (escL t' ++ [192])) ∨ (∃ t', t = 219 :: t' ∧ x = 219 ∧ r = 221 :: (escL t' ++ [192])) ∨ (∃ t', t = x :: t' ∧ x ≠ 192 ∧ x ≠ 219 ∧ r = escL t' ++ [192]) := by
  cases t with
  | nil =>
    have h' : x :: r = [192] := h
    exact .inl ⟨rfl, (List.cons.inj h').1, (List.cons.inj h').2⟩
  | cons y t =>
    rw [escL_cons] at h
    by_cases h1 : y = 192
    · subst h1
      have h' : x :: r = 219 :: 220 :: (escL t ++ [192]) := h
      exact .inr (.inl ⟨t, rfl, (List.cons.inj h').1, (List.cons.inj h').2⟩)
    · by_cases h2 : y = 219
      · subst h2
        have h' : x :: r = 219 :: 221 :: (escL t ++ [192]) := h
        exact .inr (.inr (.inl ⟨t, rfl, (List.cons.inj h').1, (List.cons.inj h').2⟩))
      · have h' : x :: r = y :: (escL t ++ [192]) := by
          rw [h]
          simp [esc1, h1, h2]
        obtain ⟨e1, e2⟩ := List.cons.inj h'
        subst e1
        exact .inr (.inr (.inr ⟨t, rfl, h1, h2, e2⟩))

/-- What the program hands back, once it has read its list as o. -/
def fin (l o : List Int) : List Int × Bool := if okB o = true ∧ o.length ≤ 16 ∧ escL o ++ [192] = l then (o, true) else ([], false)

theorem implUn_fin (l o : List Int) (k : Nat) (hk : 40 ≤ k) (i : Int) : impl_UnescapeBytes.j1 (k + 1) l o i false = some (fin l o) := by
  simp only [impl_UnescapeBytes.j1, Bool.false_eq_true, if_false, bytesOk_val, Option.bind_some, Bool.and_eq_true, decide_eq_true_eq]
  unfold fin
  by_cases h : okB o = true ∧ o.length ≤ 16
  · have he := escB_length o
    rw [if_pos h, implEsc_ok o k (by omega)]
    simp only [Option.bind_some]
    rw [sliceEqual_ok (escB o) l (by omega) k (by omega)]
    simp only [Option.bind_some, decide_eq_true_eq]
    have hB : escB o = escL o ++ [192] := by unfold escB; rw [if_pos h]
    rw [hB]
    by_cases e : escL o ++ [192] = l
    · rw [if_pos e, if_pos ⟨h.1, h.2, e⟩]
    · rw [if_neg e, if_neg (fun c => e c.2.2)]
  · rw [if_neg h, if_neg (fun c => h ⟨c.1, c.2.1⟩)]

theorem implUn_l0 (l : List Int) (hl : l.length ≤ 2000000) : ∀ (d k i : Nat) (o : List Int), l.length ≤ i + d → 2 * d + 60 ≤ k → o.length ≤ 17 → i ≤ l.length + 1 →
    ∃ o', impl_UnescapeBytes.l0 k l o (i : Int) = some (fin l o') ∧ ∀ t, l.drop i = escL t ++ [192] → o.length + t.length ≤ 16 → o' = o ++ t := by
  intro d
  induction d with
  | zero =>
    intro k i o hi hk ho hin
    obtain ⟨k, rfl⟩ : ∃ m, k = m + 2 := ⟨k - 2, by omega⟩
    simp only [impl_UnescapeBytes.l0]
    rw [step_nat i (by omega), if_neg (by omega)]
    refine ⟨o, implUn_fin l o k (by omega) _, fun t ht _ => ?_⟩
    rw [List.drop_eq_nil_of_le (by omega)] at ht
    exact absurd ht.symm (by simp)
  | succ d ih =>
    intro k i o hi hk ho hin
    obtain ⟨k, rfl⟩ : ∃ m, k = m + 2 := ⟨k - 2, by omega⟩
    simp only [impl_UnescapeBytes.l0]
    rw [step_nat i (by omega)]
    by_cases h1 : i + 1 < l.length
    · rw [if_pos (by omega)]
      by_cases h2 : o.length ≤ 16
      · rw [decide_eq_true (by omega : (o.length : Int) ≤ 16)]
        simp only [impl_UnescapeBytes.j1, if_true]
        have hd1 : l.drop i = l[i]'(by omega) :: l[i + 1]'(by omega) :: l.drop (i + 2) := by
          rw [List.drop_eq_getElem_cons (by omega : i < l.length), List.drop_eq_getElem_cons (by omega : i + 1 < l.length)]
        have hd2 : l.drop (i + 1) = l[i + 1]'(by omega) :: l.drop (i + 2) := List.drop_eq_getElem_cons (by omega : i + 1 < l.length)
        rw [if_pos (by omega), if_pos (by omega), step_nat i (by omega), step_nat (i + 1) (by omega), rd_nat l i (by omega), rd_nat l (i + 1) h1]
        generalize l[i]'(by omega) = x at hd1 ⊢
        generalize l[i + 1]'(by omega) = y at hd1 hd2 ⊢
        have hlen : ∀ z : Int, (o ++ [z]).length ≤ 17 := fun z => by rw [List.length_append, List.length_singleton]; omega
        by_cases h3 : x = 219
        · rw [if_pos h3, if_pos (by omega), if_pos (by omega)]
          by_cases h4 : y = 221
          · rw [if_pos h4, if_pos (by omega)]
            obtain ⟨o', he, ht⟩ := ih (k) (i + 1 + 1) (o ++ [219]) (by omega) (by omega) (hlen _) (by omega)
            refine ⟨o', he, fun t h5 h6 => ?_⟩
            rw [hd1] at h5
            rcases esc_cases t x _ h5 with ⟨_, e, _⟩ | ⟨t', e1, _, e2⟩ | ⟨t', e1, _, e2⟩ | ⟨t', _, _, e, _⟩
            · omega
            · have := (List.cons.inj e2).1
              omega
            · rw [e1] at h6 ⊢
              rw [List.length_cons] at h6
              rw [ht t' (List.cons.inj e2).2 (by rw [List.length_append, List.length_singleton]; omega)]
              simp
            · omega
          · rw [if_neg h4, if_pos (by omega)]
            obtain ⟨o', he, ht⟩ := ih (k) (i + 1 + 1) (o ++ [192]) (by omega) (by omega) (hlen _) (by omega)
            refine ⟨o', he, fun t h5 h6 => ?_⟩
            rw [hd1] at h5
            rcases esc_cases t x _ h5 with ⟨_, e, _⟩ | ⟨t', e1, _, e2⟩ | ⟨t', e1, _, e2⟩ | ⟨t', _, _, e, _⟩
            · omega
            · rw [e1] at h6 ⊢
              rw [List.length_cons] at h6
              rw [ht t' (List.cons.inj e2).2 (by rw [List.length_append, List.length_singleton]; omega)]
              simp
            · have := (List.cons.inj e2).1
              omega
            · omega
        · rw [if_neg h3, if_pos (by omega)]
          obtain ⟨o', he, ht⟩ := ih (k) (i + 1) (o ++ [x]) (by omega) (by omega) (hlen _) (by omega)
          refine ⟨o', he, fun t h5 h6 => ?_⟩
          rw [hd1] at h5
          rcases esc_cases t x _ h5 with ⟨_, _, e⟩ | ⟨t', _, e, _⟩ | ⟨t', _, e, _⟩ | ⟨t', e1, _, _, e2⟩
          · cases e
          · omega
          · omega
          · rw [e1] at h6 ⊢
            rw [List.length_cons] at h6
            rw [ht t' (hd2.trans e2) (by rw [List.length_append, List.length_singleton]; omega)]
            simp
      · rw [decide_eq_false (by omega : ¬ (o.length : Int) ≤ 16)]
        exact ⟨o, implUn_fin l o k (by omega) _, fun t _ h => by omega⟩
    · rw [if_neg (by omega)]
      refine ⟨o, implUn_fin l o k (by omega) _, fun t ht _ => ?_⟩
      have hle := congrArg List.length ht
      rw [List.length_drop, List.length_append, List.length_singleton] at hle
      cases t with
      | nil => simp
      | cons y t =>
        rw [escL_cons, List.length_append] at hle
        have := (esc1_length y).1
        omega

theorem implUn_ok (l : List Int) (hl : l.length ≤ 2000000) (k : Nat) (hk : 2 * l.length + 60 ≤ k) :
    ∃ o', impl_UnescapeBytes.f k l = some (fin l o') ∧ ∀ t, l = escL t ++ [192] → t.length ≤ 16 → o' = t := by
  obtain ⟨o', h1, h2⟩ := implUn_l0 l hl l.length k 0 [] (by omega) hk (by simp) (by omega)
  exact ⟨o', h1, fun t ht h => by simpa using h2 t (by simpa using ht) (by simpa using h)⟩

theorem inRange_val (x a b : Int) : spec_inRange.f x a b = some (decide (a ≤ x ∧ x ≤ b)) := by
  unfold spec_inRange.f
  by_cases h : a ≤ x
  · rw [if_pos h]; simp [h]
  · rw [if_neg h]; simp [h]

theorem validBytes_l0 (l : List Int) (m : Int) (hl : l.length ≤ 2000000) : ∀ (d k i : Nat), i + d = l.length → d < k → spec_validBytes.l0 k l m (i : Int) = some (okB (l.drop i) && decide ((l.length : Int) ≤ m)) := by
  intro d
  induction d with
  | zero =>
    intro k i hi hk
    obtain ⟨k, rfl⟩ : ∃ m, k = m + 1 := ⟨k - 1, by omega⟩
    simp only [spec_validBytes.l0]
    rw [if_neg (by omega), List.drop_eq_nil_of_le (by omega)]
    simp [okB]
  | succ d ih =>
    intro k i hi hk
    obtain ⟨k, rfl⟩ : ∃ m, k = m + 1 := ⟨k - 1, by omega⟩
    simp only [spec_validBytes.l0]
    rw [if_pos (by omega), if_pos (by omega), step_nat i (by omega), rd_nat l i (by omega), inRange_val]
    rw [List.drop_eq_getElem_cons (by omega : i < l.length)]
    simp only [Option.bind_some]
    by_cases e : 0 ≤ l[i]'(by omega) ∧ l[i]'(by omega) ≤ 255
    · rw [if_pos (decide_eq_true e), ih k (i + 1) (by omega) (by omega)]
      have h : okB (l[i]'(by omega) :: l.drop (i + 1)) = okB (l.drop (i + 1)) := by
        unfold okB
        rw [List.all_cons, decide_eq_true e, Bool.true_and]
      rw [h]
    · rw [if_neg (by simpa using e)]
      have h : okB (l[i]'(by omega) :: l.drop (i + 1)) = false := by
        unfold okB
        rw [List.all_cons, decide_eq_false e, Bool.false_and]
      rw [h, Bool.false_and]

theorem validBytes_ok (l : List Int) (m : Int) (hl : l.length ≤ 2000000) (k : Nat) (hk : l.length < k) : spec_validBytes.f k l m = some (okB l && decide ((l.length : Int) ≤ m)) := by
  unfold spec_validBytes.f
  exact validBytes_l0 l m hl l.length k 0 (by omega) hk

theorem specUn_l0 (l : List Int) (n : Nat) (hn : n + 1 = l.length) (hl : l.length ≤ 33) (hlast : l[n]'(by omega) = 192) : ∀ (d k i : Nat) (o : List Int), i + d = n → d < k → o.length ≤ i →
    ∃ res, spec_UnescapeBytes.l0 k l (l.length : Int) o (i : Int) = some res ∧ (∀ t, l.drop i = escL t ++ [192] → res = if o.length + t.length ≤ 16 then (o ++ t, true) else ([], false)) ∧ ((¬ ∃ t, l.drop i = escL t ++ [192]) → res = ([], false)) := by
  intro d
  induction d using Nat.strongRecOn with
  | ind d ih =>
    intro k i o hi hk ho
    obtain ⟨k, rfl⟩ : ∃ m, k = m + 1 := ⟨k - 1, by omega⟩
    simp only [spec_UnescapeBytes.l0]
    rw [(IntWalk.wrap64_in ((l.length : Int) - 1) (by omega)).trans (show (l.length : Int) - 1 = (n : Int) by omega)]
    by_cases h0 : d = 0
    · have hin : i = n := by omega
      subst hin
      rw [if_neg (by omega)]
      have hd : l.drop i = [192] := by
        rw [List.drop_eq_getElem_cons (by omega : i < l.length), List.drop_eq_nil_of_le (by omega), hlast]
      have h1 : ∀ t, l.drop i = escL t ++ [192] → t = [] := by
        intro t ht
        rw [hd] at ht
        rcases esc_cases t 192 [] ht with ⟨e, _, _⟩ | ⟨t', _, e, _⟩ | ⟨t', _, e, _⟩ | ⟨t', _, e, _⟩
        · exact e
        · omega
        · omega
        · omega
      by_cases h2 : o.length ≤ 16
      · rw [if_neg (by omega)]
        refine ⟨_, rfl, fun t ht => ?_, fun h => absurd ⟨[], hd⟩ h⟩
        rw [h1 t ht]
        simp [h2]
      · rw [if_pos (by omega)]
        refine ⟨_, rfl, fun t ht => ?_, fun h => absurd ⟨[], hd⟩ h⟩
        rw [h1 t ht]
        simp [h2]
    · rw [if_pos (by omega), if_pos (by omega), if_pos (by omega), step_nat i (by omega), step_nat (i + 1) (by omega), rd_nat l i (by omega), rd_nat l (i + 1) (by omega)]
      have hd1 : l.drop i = l[i]'(by omega) :: l[i + 1]'(by omega) :: l.drop (i + 2) := by
        rw [List.drop_eq_getElem_cons (by omega : i < l.length), List.drop_eq_getElem_cons (by omega : i + 1 < l.length)]
      have hd2 : l.drop (i + 1) = l[i + 1]'(by omega) :: l.drop (i + 2) := List.drop_eq_getElem_cons (by omega : i + 1 < l.length)
      have hy : l[i + 1]'(by omega) ≠ 192 → i + 2 ≤ n := by
        intro h
        by_cases e : i + 1 = n
        · subst e
          exact absurd hlast h
        · omega
      generalize l[i]'(by omega) = x at hd1 ⊢
      generalize l[i + 1]'(by omega) = y at hd1 hd2 hy ⊢
      by_cases h1 : x = 192
      · rw [if_pos h1]
        refine ⟨_, rfl, fun t ht => ?_, fun _ => rfl⟩
        rw [hd1] at ht
        rcases esc_cases t x _ ht with ⟨_, _, e⟩ | ⟨t', _, e, _⟩ | ⟨t', _, e, _⟩ | ⟨t', _, e, _⟩
        · cases e
        · omega
        · omega
        · omega
      · rw [if_neg h1]
        by_cases h2 : x = 219
        · rw [if_pos h2, if_pos (by omega), if_pos (by omega)]
          by_cases h3 : y = 220
          · rw [if_pos h3, if_pos (by omega)]
            have hy' := hy (by omega)
            obtain ⟨res, he, ht, hf⟩ := ih (d - 2) (by omega) k (i + 1 + 1) (o ++ [192]) (by omega) (by omega) (by rw [List.length_append, List.length_singleton]; omega)
            refine ⟨res, he, fun t h5 => ?_, fun h5 => hf (fun ⟨t, h6⟩ => h5 ⟨192 :: t, ?_⟩)⟩
            · rw [hd1] at h5
              rcases esc_cases t x _ h5 with ⟨_, e, _⟩ | ⟨t', e1, _, e2⟩ | ⟨t', e1, _, e2⟩ | ⟨t', _, _, e, _⟩
              · omega
              · rw [ht t' (List.cons.inj e2).2, e1]
                simp only [List.length_append, List.length_cons, List.length_nil, Nat.zero_add, List.append_assoc, List.singleton_append]
                by_cases h6 : o.length + 1 + t'.length ≤ 16
                · rw [if_pos h6, if_pos (by omega)]
                · rw [if_neg h6, if_neg (by omega)]
              · have := (List.cons.inj e2).1
                omega
              · omega
            · rw [hd1, escL_cons, h2, h3]
              rw [show i + 2 = i + 1 + 1 by omega, h6]
              rfl
          · rw [if_neg h3]
            by_cases h4 : y = 221
            · rw [if_pos h4, if_pos (by omega)]
              have hy' := hy (by omega)
              obtain ⟨res, he, ht, hf⟩ := ih (d - 2) (by omega) k (i + 1 + 1) (o ++ [219]) (by omega) (by omega) (by rw [List.length_append, List.length_singleton]; omega)
              refine ⟨res, he, fun t h5 => ?_, fun h5 => hf (fun ⟨t, h6⟩ => h5 ⟨219 :: t, ?_⟩)⟩
              · rw [hd1] at h5
                rcases esc_cases t x _ h5 with ⟨_, e, _⟩ | ⟨t', e1, _, e2⟩ | ⟨t', e1, _, e2⟩ | ⟨t', _, _, e, _⟩
                · omega
                · have := (List.cons.inj e2).1
                  omega
                · rw [ht t' (List.cons.inj e2).2, e1]
                  simp only [List.length_append, List.length_cons, List.length_nil, Nat.zero_add, List.append_assoc, List.singleton_append]
                  by_cases h6 : o.length + 1 + t'.length ≤ 16
                  · rw [if_pos h6, if_pos (by omega)]
                  · rw [if_neg h6, if_neg (by omega)]
                · omega
              · rw [hd1, escL_cons, h2, h4]
                rw [show i + 2 = i + 1 + 1 by omega, h6]
                rfl
            · rw [if_neg h4]
              refine ⟨_, rfl, fun t h5 => ?_, fun _ => rfl⟩
              rw [hd1] at h5
              rcases esc_cases t x _ h5 with ⟨_, e, _⟩ | ⟨t', e1, _, e2⟩ | ⟨t', e1, _, e2⟩ | ⟨t', _, _, e, _⟩
              · omega
              · have := (List.cons.inj e2).1
                omega
              · have := (List.cons.inj e2).1
                omega
              · omega
        · rw [if_neg h2, if_pos (by omega)]
          obtain ⟨res, he, ht, hf⟩ := ih (d - 1) (by omega) k (i + 1) (o ++ [x]) (by omega) (by omega) (by rw [List.length_append, List.length_singleton]; omega)
          refine ⟨res, he, fun t h5 => ?_, fun h5 => hf (fun ⟨t, h6⟩ => h5 ⟨x :: t, ?_⟩)⟩
          · rw [hd1] at h5
            rcases esc_cases t x _ h5 with ⟨_, e, _⟩ | ⟨t', _, e, _⟩ | ⟨t', _, e, _⟩ | ⟨t', e1, _, _, e2⟩
            · omega
            · omega
            · omega
            · rw [ht t' (hd2.trans e2), e1]
              simp only [List.length_append, List.length_cons, List.length_nil, Nat.zero_add, List.append_assoc, List.singleton_append]
              by_cases h6 : o.length + 1 + t'.length ≤ 16
              · rw [if_pos h6, if_pos (by omega)]
              · rw [if_neg h6, if_neg (by omega)]
          · rw [hd1, ← hd2, h6, escL_cons]
            simp [esc1, h1, h2]

theorem okB_esc (t : List Int) (h : okB t = true) : okB (escL t ++ [192]) = true := by
  rw [okB_iff] at h ⊢
  intro x hx
  rw [List.mem_append] at hx
  rcases hx with hx | hx
  · unfold escL at hx
    rw [List.mem_flatMap] at hx
    obtain ⟨y, hy, hxy⟩ := hx
    have := h y hy
    unfold esc1 at hxy
    split at hxy
    · simp at hxy; omega
    · split at hxy
      · simp at hxy; omega
      · simp at hxy; omega
  · simp at hx; omega

theorem okB_of_esc (t : List Int) (h : okB (escL t ++ [192]) = true) : okB t = true := by
  rw [okB_iff] at h ⊢
  intro y hy
  by_cases h1 : y = 192
  · omega
  · by_cases h2 : y = 219
    · omega
    · refine h y (List.mem_append_left _ ?_)
      unfold escL
      rw [List.mem_flatMap]
      exact ⟨y, hy, by simp [esc1, h1, h2]⟩

theorem specUn_ok (l : List Int) (hl : l.length ≤ 2000000) (k : Nat) (hk : l.length + 40 ≤ k) :
    ∃ res, spec_UnescapeBytes.f k l = some res ∧ (∀ t, okB t = true → t.length ≤ 16 → l = escL t ++ [192] → res = (t, true)) ∧ ((¬ ∃ t, okB t = true ∧ t.length ≤ 16 ∧ l = escL t ++ [192]) → res = ([], false)) := by
  unfold spec_UnescapeBytes.f
  obtain ⟨k, rfl⟩ : ∃ m, k = m + 1 := ⟨k - 1, by omega⟩
  have hno : ∀ (P : Prop), (∀ t, okB t = true → t.length ≤ 16 → l = escL t ++ [192] → P) → ∀ x : Int, spec_UnescapeBytes.j0 (k + 1) l x true = some ([], false) := fun _ _ x => by simp [spec_UnescapeBytes.j0]
  by_cases h0 : l.length = 0
  · rw [if_pos (by omega), hno True (fun _ _ _ _ => trivial)]
    refine ⟨_, rfl, fun t _ _ h => ?_, fun _ => rfl⟩
    have := congrArg List.length h
    rw [List.length_append, List.length_singleton] at this
    omega
  · rw [if_neg (by omega), validBytes_ok l 33 hl (k + 1) (by omega)]
    simp only [Option.bind_some, Bool.and_eq_true, decide_eq_true_eq]
    by_cases h1 : okB l = true ∧ (l.length : Int) ≤ 33
    · rw [if_pos h1, (IntWalk.wrap64_in ((l.length : Int) - 1) (by omega)).trans (show (l.length : Int) - 1 = ((l.length - 1 : Nat) : Int) by omega), if_pos (by omega), if_pos (by omega), rd_nat l (l.length - 1) (by omega)]
      by_cases h2 : l[l.length - 1]'(by omega) = 192
      · have hb : (l[l.length - 1]'(by omega) != 192) = false := by rw [h2]; rfl
        rw [hb]
        simp only [spec_UnescapeBytes.j0, Bool.false_eq_true, if_false]
        obtain ⟨res, he, ht, hf⟩ := specUn_l0 l (l.length - 1) (by omega) (by omega) h2 (l.length - 1) k 0 [] (by omega) (by omega) (by simp)
        refine ⟨res, he, fun t h3 h4 h5 => ?_, fun h3 => ?_⟩
        · have := ht t (by simpa using h5)
          rw [this]
          simp [h4]
        · by_cases h4 : ∃ t, l.drop 0 = escL t ++ [192]
          · obtain ⟨t, h5⟩ := h4
            rw [ht t h5]
            have h6 : l = escL t ++ [192] := by simpa using h5
            have h7 : okB t = true := okB_of_esc t (by rw [← h6]; exact h1.1)
            rw [if_neg (fun h8 => h3 ⟨t, h7, by simpa using h8, h6⟩)]
          · exact hf h4
      · have hb : (l[l.length - 1]'(by omega) != 192) = true := bne_iff_ne.mpr h2
        rw [hb, hno True (fun _ _ _ _ => trivial)]
        refine ⟨_, rfl, fun t _ _ h => ?_, fun _ => rfl⟩
        subst h
        exact absurd (by simp) h2
    · rw [if_neg h1, hno True (fun _ _ _ _ => trivial)]
      refine ⟨_, rfl, fun t h2 h3 h => ?_, fun _ => rfl⟩
      subst h
      have := escL_length t
      exact absurd ⟨okB_esc t h2, by rw [List.length_append, List.length_singleton]; omega⟩ h1


theorem agree (l : List Int) (hl : l.length ≤ 2000000) : ∃ r : List Int × Bool, r.1.length ≤ 16 ∧ ∀ k, 2 * l.length + 60 ≤ k → impl_UnescapeBytes.f k l = some r ∧ spec_UnescapeBytes.f k l = some r := by
  by_cases hE : ∃ t, okB t = true ∧ t.length ≤ 16 ∧ l = escL t ++ [192]
  · obtain ⟨t, h1, h2, h3⟩ := hE
    refine ⟨(t, true), h2, fun k hk => ?_⟩
    obtain ⟨o', e1, e2⟩ := implUn_ok l hl k hk
    obtain ⟨res, e3, e4, _⟩ := specUn_ok l hl k (by omega)
    rw [e1, e3, e2 t h3 h2, e4 t h1 h2 h3]
    exact ⟨by unfold fin; rw [if_pos ⟨h1, h2, h3.symm⟩], rfl⟩
  · refine ⟨([], false), by simp, fun k hk => ?_⟩
    obtain ⟨o', e1, _⟩ := implUn_ok l hl k hk
    obtain ⟨res, e3, _, e4⟩ := specUn_ok l hl k (by omega)
    rw [e1, e3, e4 hE]
    exact ⟨by unfold fin; rw [if_neg (fun c => hE ⟨o', c.1, c.2.1, c.2.2.symm⟩)], rfl⟩

theorem FnExactUnescapeBytes : laws_FnExactUnescapeBytes.Pure := by
  intro l _ _ _
  by_cases hc : (l.length : Int) > 1048576
  · exact ⟨0, by unfold laws_FnExactUnescapeBytes.f; rw [if_pos hc]⟩
  · have hl : l.length ≤ 2000000 := by omega
    obtain ⟨r, hr, ha⟩ := agree l hl
    have hi := fun k hk => (ha k hk).1
    have hs := fun k hk => (ha k hk).2
    have hm1 : ¬ (1 + (l.length : Int) < 0) := by omega
    have hm2 : ¬ (1 + (r.1.length : Int) < 0) := by omega
    refine ⟨2 * l.length + 70, ?_⟩
    unfold laws_FnExactUnescapeBytes.f
    rw [if_neg hc]
    simp (disch := omega) only [toIntS_ok, hs, hi, Option.bind_some, eqIntS_self, if_true, bne_self_eq_false]
    simp (disch := omega) only [laws_FnExactUnescapeBytes.j0, Bool.false_eq_true, if_false, toIntS_ok, Option.bind_some, eqIntS_self, if_true, markIntS_ok, hm1, bne_self_eq_false]
    simp (disch := omega) only [laws_FnExactUnescapeBytes.j1, Bool.false_eq_true, if_false, toIntS_ok, Option.bind_some, hi, eqIntS_self, if_true, markIntS_ok, heldIntS_ok, hm2, bne_self_eq_false]
    simp (disch := omega) only [laws_FnExactUnescapeBytes.j2, Bool.false_eq_true, if_false, Option.bind_some, heldIntS_ok, hm2, if_true]

end Go.Proofs.Ytfklnhjipahonaa.Pure
