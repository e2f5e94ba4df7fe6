/- The program's SumBytes returns what the reference's returns, and leaves its argument as it was: FnExactSumBytes returns true for every list of ints. Conditions: none. -/
import Derived.Test.YtfklnhjipahonaaHFnExactSumBytesx2
namespace Go.Proofs.Ytfklnhjipahonaa.Pure
open Go.RowKit Go.Proofs.Ytfklnhjipahonaa.HFnExactSumBytes Go.Proofs.YtfklnhjipahonaaW.PrintWords Go.Proofs.YtfklnhjipahonaaW.PrintLast
open Go
set_option linter.unusedVariables false
set_option linter.unusedSimpArgs false

theorem rd_nat (l : List Int) (i : Nat) (h : i < l.length) : rd l (i : Int) = l[i] := by
  unfold rd
  rw [Int.toNat_natCast, List.getD_eq_getElem?_getD, List.getElem?_eq_getElem h]
  rfl

theorem step_nat (i : Nat) (h : i < 4611686018427387904) : wrap64 ((i : Int) + 1) = ((i + 1 : Nat) : Int) := by
  rw [IntWalk.wrap64_in ((i : Int) + 1) (by omega)]
  rfl

theorem toIntS_l0 (l : List Int) (hl : l.length ≤ 2000000) : ∀ (d k i : Nat) (o : List Int), i + d = l.length → d < k → o.length = l.length → (∀ j, j < i → o[j]? = l[j]?) → laws_toIntS.l0 k l o (i : Int) = some l := by
  intro d
  induction d with
  | zero =>
    intro k i o hi hk ho hj
    obtain ⟨k, rfl⟩ : ∃ m, k = m + 1 := ⟨k - 1, by omega⟩
    simp only [laws_toIntS.l0]
    rw [if_neg (by omega)]
    congr 1
    apply List.ext_getElem?
    intro j
    by_cases h : j < l.length
    · exact hj j (by omega)
    · rw [List.getElem?_eq_none (by omega), List.getElem?_eq_none (by omega)]
  | succ d ih =>
    intro k i o hi hk ho hj
    obtain ⟨k, rfl⟩ : ∃ m, k = m + 1 := ⟨k - 1, by omega⟩
    simp only [laws_toIntS.l0]
    rw [if_pos (by omega), if_pos (by omega), if_pos (by omega), step_nat i (by omega), Int.toNat_natCast, rd_nat l i (by omega)]
    refine ih k (i + 1) _ (by omega) (by omega) (by rw [List.length_set]; exact ho) ?_
    intro j hji
    by_cases e : i = j
    · subst e
      rw [List.getElem?_set_self (by omega), List.getElem?_eq_getElem (by omega)]
    · rw [List.getElem?_set_ne e]
      exact hj j (by omega)

theorem toIntS_ok (l : List Int) (hl : l.length ≤ 2000000) (k : Nat) (hk : l.length < k) : laws_toIntS.f k l = some l := by
  unfold laws_toIntS.f
  rw [if_pos (by omega), if_pos (by rw [Int.toNat_natCast]; omega), Int.toNat_natCast]
  exact toIntS_l0 l hl l.length k 0 _ (by omega) hk (List.length_replicate ..) (fun j hj => absurd hj (Nat.not_lt_zero _))

theorem eqIntS_l0 (a b : List Int) (hab : a.length = b.length) (hl : a.length ≤ 2000000) : ∀ (d k i : Nat), i + d = a.length → d < k → laws_eqIntS.l0 k a b (i : Int) = some (decide (a.drop i = b.drop i)) := by
  intro d
  induction d with
  | zero =>
    intro k i hi hk
    obtain ⟨k, rfl⟩ : ∃ m, k = m + 1 := ⟨k - 1, by omega⟩
    simp only [laws_eqIntS.l0]
    rw [if_neg (by omega), List.drop_eq_nil_of_le (by omega), List.drop_eq_nil_of_le (by omega)]
    rfl
  | succ d ih =>
    intro k i hi hk
    obtain ⟨k, rfl⟩ : ∃ m, k = m + 1 := ⟨k - 1, by omega⟩
    simp only [laws_eqIntS.l0]
    rw [if_pos (by omega), if_pos (by omega), if_pos (by omega), step_nat i (by omega), rd_nat a i (by omega), rd_nat b i (by omega)]
    rw [List.drop_eq_getElem_cons (by omega : i < a.length), List.drop_eq_getElem_cons (by omega : i < b.length)]
    by_cases e : a[i]'(by omega) = b[i]'(by omega)
    · rw [if_pos e, ih k (i + 1) (by omega) (by omega), e]
      exact congrArg some (decide_eq_decide.mpr ⟨fun h => by rw [h], fun h => (List.cons.inj h).2⟩)
    · rw [if_neg e]
      exact congrArg some (decide_eq_false (fun h => e (List.cons.inj h).1)).symm

theorem eqIntS_ok (a b : List Int) (hl : a.length ≤ 2000000) (k : Nat) (hk : a.length < k) : laws_eqIntS.f k a b = some (decide (a = b)) := by
  unfold laws_eqIntS.f
  by_cases h : a.length = b.length
  · rw [if_pos (by omega)]
    exact eqIntS_l0 a b h hl a.length k 0 (by omega) hk
  · rw [if_neg (by omega), decide_eq_false (fun e => h (by rw [e]))]

theorem eqIntS_self (a : List Int) (hl : a.length ≤ 2000000) (k : Nat) (hk : a.length < k) : laws_eqIntS.f k a a = some true := by
  rw [eqIntS_ok a a hl k hk, decide_eq_true rfl]

/-- Numbers of one byte. -/
def okB (l : List Int) : Bool := l.all fun x => decide (0 ≤ x ∧ x ≤ 255)

theorem okB_iff (l : List Int) : okB l = true ↔ ∀ x ∈ l, 0 ≤ x ∧ x ≤ 255 := by simp [okB]

theorem inRange_val (x a b : Int) : spec_inRange.f x a b = some (decide (a ≤ x ∧ x ≤ b)) := by
  unfold spec_inRange.f
  by_cases h : a ≤ x
  · rw [if_pos h]; simp [h]
  · rw [if_neg h]; simp [h]

theorem validBytes_l0 (l : List Int) (m : Int) (hl : l.length ≤ 2000000) : ∀ (d k i : Nat), i + d = l.length → d < k → spec_validBytes.l0 k l m (i : Int) = some (okB (l.drop i) && decide ((l.length : Int) ≤ m)) := by
  intro d
  induction d with
  | zero =>
    intro k i hi hk
    obtain ⟨k, rfl⟩ : ∃ m, k = m + 1 := ⟨k - 1, by omega⟩
    simp only [spec_validBytes.l0]
    rw [if_neg (by omega), List.drop_eq_nil_of_le (by omega)]
    simp [okB]
  | succ d ih =>
    intro k i hi hk
    obtain ⟨k, rfl⟩ : ∃ m, k = m + 1 := ⟨k - 1, by omega⟩
    simp only [spec_validBytes.l0]
    rw [if_pos (by omega), if_pos (by omega), step_nat i (by omega), rd_nat l i (by omega), inRange_val]
    rw [List.drop_eq_getElem_cons (by omega : i < l.length)]
    simp only [Option.bind_some]
    by_cases e : 0 ≤ l[i]'(by omega) ∧ l[i]'(by omega) ≤ 255
    · rw [if_pos (decide_eq_true e), ih k (i + 1) (by omega) (by omega)]
      have h : okB (l[i]'(by omega) :: l.drop (i + 1)) = okB (l.drop (i + 1)) := by
        unfold okB
        rw [List.all_cons, decide_eq_true e, Bool.true_and]
      rw [h]
    · rw [if_neg (by simpa using e)]
      have h : okB (l[i]'(by omega) :: l.drop (i + 1)) = false := by
        unfold okB
        rw [List.all_cons, decide_eq_false e, Bool.false_and]
      rw [h, Bool.false_and]

theorem validBytes_ok (l : List Int) (m : Int) (hl : l.length ≤ 2000000) (k : Nat) (hk : l.length < k) : spec_validBytes.f k l m = some (okB l && decide ((l.length : Int) ≤ m)) := by
  unfold spec_validBytes.f
  exact validBytes_l0 l m hl l.length k 0 (by omega) hk

theorem bytesAlone_val (l : List Int) : impl_bytesAlone.f l = some (okB l) := by
  unfold impl_bytesAlone.f okB
  congr 1
  induction l with
  | nil => rfl
  | cons x l ih =>
    rw [List.any_cons, List.all_cons, ← ih]
    have h : (decide (x < 0) || decide (x > 255)) = !(decide (0 ≤ x ∧ x ≤ 255)) := by
      by_cases h1 : x < 0
      · simp [h1]
      · by_cases h2 : x > 255
        · simp [h2]
        · simp [h1, h2]; omega
    rw [h, Bool.not_or, Bool.not_not]

theorem bytesOk_val (l : List Int) : impl_bytesOk.f l = some (okB l && decide (l.length ≤ 16)) := by
  unfold impl_bytesOk.f
  rw [bytesAlone_val]
  simp only [Option.bind_some]
  by_cases h : l.length ≤ 16
  · rw [if_pos (by omega)]; simp [h]
  · rw [if_neg (by omega)]; simp [h]

/-- A carry beyond 65535 added again. -/
def cap (y : Int) : Int := if y > 65535 then y - 65535 else y
/-- The running sum of bytes two by two, from place i on. -/
def ocsum : List Int → Nat → Int → Int
  | [], _, s => s
  | x :: t, i, s => ocsum t (i + 1) (cap (s + (if i % 2 = 0 then 256 * x else x)))

theorem cap_range (y : Int) (h0 : 0 ≤ y) (h1 : y ≤ 131070) : 0 ≤ cap y ∧ cap y ≤ 65535 := by
  unfold cap
  split <;> omega

theorem ocsum_range : ∀ (l : List Int) (i : Nat) (s : Int), (∀ x ∈ l, 0 ≤ x ∧ x ≤ 255) → 0 ≤ s → s ≤ 65535 → 0 ≤ ocsum l i s ∧ ocsum l i s ≤ 65535
  | [], _, _, _, h0, h1 => ⟨h0, h1⟩
  | x :: t, i, s, hx, h0, h1 => by
    have hb := hx x (List.mem_cons_self ..)
    have hc := cap_range (s + (if i % 2 = 0 then 256 * x else x)) (by split <;> omega) (by split <;> omega)
    exact ocsum_range t (i + 1) _ (fun y hy => hx y (List.mem_cons_of_mem _ hy)) hc.1 hc.2

theorem implSum_l0 (l : List Int) (hl : l.length ≤ 16) (hb : ∀ x ∈ l, 0 ≤ x ∧ x ≤ 255) : ∀ (d k i : Nat) (s : Int), i + d = l.length → d < k → 0 ≤ s → s ≤ 65535 →
    impl_SumBytes.l0 k s l (l.length : Int) (i : Int) = some (65535 - ocsum (l.drop i) i s) := by
  intro d
  induction d with
  | zero =>
    intro k i s hi hk hs hs'
    obtain ⟨k, rfl⟩ : ∃ m, k = m + 1 := ⟨k - 1, by omega⟩
    simp only [impl_SumBytes.l0]
    rw [if_neg (by omega), List.drop_eq_nil_of_le (by omega), IntWalk.wrap64_in (65535 - s) (by omega)]
    rfl
  | succ d ih =>
    intro k i s hi hk hs hs'
    obtain ⟨k, rfl⟩ : ∃ m, k = m + 1 := ⟨k - 1, by omega⟩
    simp only [impl_SumBytes.l0]
    have hx := hb (l[i]'(by omega)) (List.getElem_mem _)
    rw [if_pos (by omega), if_pos (by omega), if_pos (by omega), step_nat i (by omega), rd_nat l i (by omega), Int.tmod_eq_emod_of_nonneg (by omega : 0 ≤ (i : Int))]
    rw [List.drop_eq_getElem_cons (by omega : i < l.length)]
    simp only [ocsum]
    generalize l[i]'(by omega) = x at hx ⊢
    have key : ∀ y : Int, 0 ≤ y → y ≤ 131070 → wrap64 (Int.tmod y 65536 + wrap64 (Int.tdiv y 65536)) = cap y := by
      intro y h0 h1
      rw [Int.tmod_eq_emod_of_nonneg h0, Int.tdiv_eq_ediv_of_nonneg h0, IntWalk.wrap64_in (y / 65536) (by omega), IntWalk.wrap64_in (y % 65536 + y / 65536) (by omega)]
      unfold cap
      split <;> omega
    by_cases e : i % 2 = 0
    · rw [if_pos (by omega), if_pos e, IntWalk.wrap64_in (x * 256) (by omega), IntWalk.wrap64_in (s + x * 256) (by omega), key _ (by omega) (by omega), show s + x * 256 = s + 256 * x by omega]
      have hc := cap_range (s + 256 * x) (by omega) (by omega)
      exact ih k (i + 1) _ (by omega) (by omega) hc.1 hc.2
    · rw [if_neg (by omega), if_neg e, IntWalk.wrap64_in (s + x) (by omega), key _ (by omega) (by omega)]
      have hc := cap_range (s + x) (by omega) (by omega)
      exact ih k (i + 1) _ (by omega) (by omega) hc.1 hc.2

theorem specSum_l0 (l : List Int) (hl : l.length ≤ 16) (hb : ∀ x ∈ l, 0 ≤ x ∧ x ≤ 255) : ∀ (d k i : Nat) (s : Int), i + d = l.length → d < k → 0 ≤ s → s ≤ 65535 →
    spec_SumBytes.l0 k l s (i : Int) = some (65535 - ocsum (l.drop i) i s) := by
  intro d
  induction d with
  | zero =>
    intro k i s hi hk hs hs'
    obtain ⟨k, rfl⟩ : ∃ m, k = m + 1 := ⟨k - 1, by omega⟩
    simp only [spec_SumBytes.l0]
    rw [if_neg (by omega), List.drop_eq_nil_of_le (by omega), IntWalk.wrap64_in (65535 - s) (by omega)]
    rfl
  | succ d ih =>
    intro k i s hi hk hs hs'
    obtain ⟨k, rfl⟩ : ∃ m, k = m + 1 := ⟨k - 1, by omega⟩
    simp only [spec_SumBytes.l0]
    have hx := hb (l[i]'(by omega)) (List.getElem_mem _)
    rw [if_pos (by omega), if_pos (by omega), step_nat i (by omega), rd_nat l i (by omega), Int.tmod_eq_emod_of_nonneg (by omega : 0 ≤ (i : Int))]
    rw [List.drop_eq_getElem_cons (by omega : i < l.length)]
    simp only [ocsum]
    generalize l[i]'(by omega) = x at hx ⊢
    have key : ∀ y : Int, 0 ≤ y → y ≤ 131070 → (if y > 65535 then spec_SumBytes.l0 k l (wrap64 (y - 65535)) ((i + 1 : Nat) : Int) else spec_SumBytes.l0 k l y ((i + 1 : Nat) : Int)) = spec_SumBytes.l0 k l (cap y) ((i + 1 : Nat) : Int) := by
      intro y h0 h1
      unfold cap
      split
      · rw [IntWalk.wrap64_in (y - 65535) (by omega)]
      · rfl
    by_cases e : i % 2 = 0
    · rw [if_pos (by omega), if_pos e, IntWalk.wrap64_in (256 * x) (by omega), IntWalk.wrap64_in (s + 256 * x) (by omega), key _ (by omega) (by omega)]
      have hc := cap_range (s + 256 * x) (by omega) (by omega)
      exact ih k (i + 1) _ (by omega) (by omega) hc.1 hc.2
    · rw [if_neg (by omega), if_neg e, IntWalk.wrap64_in (s + x) (by omega), key _ (by omega) (by omega)]
      have hc := cap_range (s + x) (by omega) (by omega)
      exact ih k (i + 1) _ (by omega) (by omega) hc.1 hc.2

/-- What both return. -/
def sumB (l : List Int) : Int := if okB l = true ∧ l.length ≤ 16 then 65535 - ocsum l 0 0 else -1

theorem implSum_ok (l : List Int) (k : Nat) (hk : l.length < k) : impl_SumBytes.f k l = some (sumB l) := by
  unfold impl_SumBytes.f sumB
  rw [bytesOk_val]
  simp only [Option.bind_some, Bool.and_eq_true, decide_eq_true_eq]
  by_cases h : okB l = true ∧ l.length ≤ 16
  · rw [if_pos h, if_pos h]
    exact implSum_l0 l h.2 ((okB_iff l).1 h.1) l.length k 0 0 (by omega) hk (by omega) (by omega)
  · rw [if_neg h, if_neg h]

theorem specSum_ok (l : List Int) (hl : l.length ≤ 2000000) (k : Nat) (hk : l.length < k) : spec_SumBytes.f k l = some (sumB l) := by
  unfold spec_SumBytes.f sumB
  rw [validBytes_ok l 16 hl k hk]
  simp only [Option.bind_some, Bool.and_eq_true, decide_eq_true_eq]
  by_cases h : okB l = true ∧ l.length ≤ 16
  · rw [if_pos ⟨h.1, by omega⟩, if_pos h]
    exact specSum_l0 l h.2 ((okB_iff l).1 h.1) l.length k 0 0 (by omega) hk (by omega) (by omega)
  · rw [if_neg (fun e => h ⟨e.1, by omega⟩), if_neg h]


theorem FnExactSumBytes : laws_FnExactSumBytes.Pure := by
  intro l _ _ _
  by_cases hc : (l.length : Int) > 1048576
  · exact ⟨0, by unfold laws_FnExactSumBytes.f; rw [if_pos hc]⟩
  · have hl : l.length ≤ 2000000 := by omega
    refine ⟨l.length + 2, ?_⟩
    unfold laws_FnExactSumBytes.f
    rw [if_neg hc]
    simp only [toIntS_ok l hl (l.length + 2) (by omega), Option.bind_some, specSum_ok l hl (l.length + 2) (by omega), implSum_ok l (l.length + 2) (by omega), if_true, eqIntS_self l hl (l.length + 2) (by omega)]

end Go.Proofs.Ytfklnhjipahonaa.Pure
