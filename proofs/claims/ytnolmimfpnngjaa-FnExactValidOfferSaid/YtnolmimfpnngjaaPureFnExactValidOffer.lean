/- The program's ValidOffer tells what the reference's tells, and leaves its argument as it was: FnExactValidOffer returns true for every offer. Conditions: none. -/
import Derived.Test.YtnolmimfpnngjaaHFnExactValidOfferx2
namespace Go.Proofs.Ytnolmimfpnngjaa.Pure
open Go.RowKit Go.Proofs.Ytnolmimfpnngjaa.HFnExactValidOffer Go.Proofs.YtnolmimfpnngjaaW.PrintWords Go.Proofs.YtnolmimfpnngjaaW.PrintLast
open Go
set_option linter.unusedVariables false
set_option linter.unusedSimpArgs false

theorem rd_nat (l : List Int) (i : Nat) (h : i < l.length) : rd l (i : Int) = l[i] := by
  unfold rd
  rw [Int.toNat_natCast, List.getD_eq_getElem?_getD, List.getElem?_eq_getElem h]
  rfl

theorem step_nat (i : Nat) (h : i < 4611686018427387904) : wrap64 ((i : Int) + 1) = ((i + 1 : Nat) : Int) := by
  rw [IntWalk.wrap64_in ((i : Int) + 1) (by omega)]
  rfl

theorem toIntS_l0 (l : List Int) (hl : l.length ≤ 2000000) : ∀ (d k i : Nat) (o : List Int), i + d = l.length → d < k → o.length = l.length → (∀ j, j < i → o[j]? = l[j]?) → laws_toIntS.l0 k l o (i : Int) = some l := by
  intro d
  induction d with
  | zero =>
    intro k i o hi hk ho hj
    obtain ⟨k, rfl⟩ : ∃ m, k = m + 1 := ⟨k - 1, by omega⟩
    simp only [laws_toIntS.l0]
    rw [if_neg (by omega)]
    congr 1
    apply List.ext_getElem?
    intro j
    by_cases h : j < l.length
    · exact hj j (by omega)
    · rw [List.getElem?_eq_none (by omega), List.getElem?_eq_none (by omega)]
  | succ d ih =>
    intro k i o hi hk ho hj
    obtain ⟨k, rfl⟩ : ∃ m, k = m + 1 := ⟨k - 1, by omega⟩
    simp only [laws_toIntS.l0]
    rw [if_pos (by omega), if_pos (by omega), if_pos (by omega), step_nat i (by omega), Int.toNat_natCast, rd_nat l i (by omega)]
    refine ih k (i + 1) _ (by omega) (by omega) (by rw [List.length_set]; exact ho) ?_
    intro j hji
    by_cases e : i = j
    · subst e
      rw [List.getElem?_set_self (by omega), List.getElem?_eq_getElem (by omega)]
    · rw [List.getElem?_set_ne e]
      exact hj j (by omega)

theorem toIntS_ok (l : List Int) (hl : l.length ≤ 2000000) (k : Nat) (hk : l.length < k) : laws_toIntS.f k l = some l := by
  unfold laws_toIntS.f
  rw [if_pos (by omega), if_pos (by rw [Int.toNat_natCast]; omega), Int.toNat_natCast]
  exact toIntS_l0 l hl l.length k 0 _ (by omega) hk (List.length_replicate ..) (fun j hj => absurd hj (Nat.not_lt_zero _))

theorem eqIntS_l0 (a b : List Int) (hab : a.length = b.length) (hl : a.length ≤ 2000000) : ∀ (d k i : Nat), i + d = a.length → d < k → laws_eqIntS.l0 k a b (i : Int) = some (decide (a.drop i = b.drop i)) := by
  intro d
  induction d with
  | zero =>
    intro k i hi hk
    obtain ⟨k, rfl⟩ : ∃ m, k = m + 1 := ⟨k - 1, by omega⟩
    simp only [laws_eqIntS.l0]
    rw [if_neg (by omega), List.drop_eq_nil_of_le (by omega), List.drop_eq_nil_of_le (by omega)]
    rfl
  | succ d ih =>
    intro k i hi hk
    obtain ⟨k, rfl⟩ : ∃ m, k = m + 1 := ⟨k - 1, by omega⟩
    simp only [laws_eqIntS.l0]
    rw [if_pos (by omega), if_pos (by omega), if_pos (by omega), step_nat i (by omega), rd_nat a i (by omega), rd_nat b i (by omega)]
    rw [List.drop_eq_getElem_cons (by omega : i < a.length), List.drop_eq_getElem_cons (by omega : i < b.length)]
    by_cases e : a[i]'(by omega) = b[i]'(by omega)
    · rw [if_pos e, ih k (i + 1) (by omega) (by omega), e]
      exact congrArg some (decide_eq_decide.mpr ⟨fun h => by rw [h], fun h => (List.cons.inj h).2⟩)
    · rw [if_neg e]
      exact congrArg some (decide_eq_false (fun h => e (List.cons.inj h).1)).symm

theorem eqIntS_ok (a b : List Int) (hl : a.length ≤ 2000000) (k : Nat) (hk : a.length < k) : laws_eqIntS.f k a b = some (decide (a = b)) := by
  unfold laws_eqIntS.f
  by_cases h : a.length = b.length
  · rw [if_pos (by omega)]
    exact eqIntS_l0 a b h hl a.length k 0 (by omega) hk
  · rw [if_neg (by omega), decide_eq_false (fun e => h (by rw [e]))]

theorem eqIntS_self (a : List Int) (hl : a.length ≤ 2000000) (k : Nat) (hk : a.length < k) : laws_eqIntS.f k a a = some true := by
  rw [eqIntS_ok a a hl k hk, decide_eq_true rfl]

theorem sz_ok (a b c : Int) (l : List Int) (n : Int) (hl : l.length ≤ maxLen) (h0 : 0 ≤ n) (h1 : n ≤ 1048576) : laws_szOffer.f a b c l n = some (if n - (l.length : Int) < 0 then -1 else n - (l.length : Int)) := by
  have hm : maxLen ≤ 9223372036854775807 := by decide
  unfold laws_szOffer.f laws_szIntS.f
  rw [IntWalk.wrap64_in (n - (l.length : Int)) (by omega)]
  by_cases h : n - (l.length : Int) < 0
  · rw [if_pos h, if_pos h, Option.bind_some, if_pos (show (-1 : Int) < 0 by omega)]
  · rw [if_neg h, if_neg h, Option.bind_some, if_neg h]
theorem toOffer_ok (a b c : Int) (l : List Int) (hl : l.length ≤ 2000000) (k : Nat) (hk : l.length < k) : laws_toOffer.f k a b c l = some (a, b, c, l) := by
  unfold laws_toOffer.f
  rw [toIntS_ok l hl k hk, Option.bind_some]
theorem eqOffer_ok (a b c : Int) (l : List Int) (hl : l.length ≤ 2000000) (k : Nat) (hk : l.length < k) : laws_eqOffer.f k a b c l a b c l = some true := by
  unfold laws_eqOffer.f
  rw [if_pos rfl, if_pos rfl, if_pos rfl, eqIntS_self l hl k hk, Option.bind_some, if_pos rfl]

/-- What ValidOffer tells. -/
def okO (a b c : Int) (l : List Int) : Bool :=
  decide (0 ≤ a ∧ a ≤ 20) && decide (a ≤ b ∧ b ≤ 20) && decide (0 ≤ c ∧ c ≤ 31) && decide (l.length = 5) && !(l.any fun n => !decide (0 ≤ n ∧ n ≤ 31))

theorem implValid_val (a b c : Int) (l : List Int) : impl_ValidOffer.f a b c l = some (okO a b c l) := rfl

theorem inRange_val (x a b : Int) : spec_inRange.f x a b = some (decide (a ≤ x ∧ x ≤ b)) := by
  unfold spec_inRange.f
  by_cases h : a ≤ x
  · rw [if_pos h]; simp [h]
  · rw [if_neg h]; simp [h]

theorem specPower_l0 : ∀ (i k a : Nat), i < k → i ≤ 5 → a * 2 ^ i ≤ 1000000 → spec_power.l0 k (i : Int) (a : Int) = some ((a * 2 ^ i : Nat) : Int) := by
  intro i
  induction i with
  | zero =>
    intro k a hk _ _
    obtain ⟨k, rfl⟩ : ∃ m, k = m + 1 := ⟨k - 1, by omega⟩
    rw [spec_power.l0, if_neg (by omega), Nat.pow_zero, Nat.mul_one]
  | succ i ih =>
    intro k a hk h5 ha
    obtain ⟨k, rfl⟩ : ∃ m, k = m + 1 := ⟨k - 1, by omega⟩
    have e : a * 2 ^ (i + 1) = 2 * a * 2 ^ i := by rw [Nat.pow_succ, Nat.mul_comm (2 ^ i) 2, ← Nat.mul_assoc, Nat.mul_comm a 2]
    rw [e] at ha
    have hp : 1 ≤ 2 ^ i := Nat.one_le_two_pow
    have h2 : 2 * a * 1 ≤ 2 * a * 2 ^ i := Nat.mul_le_mul_left _ hp
    rw [spec_power.l0, if_pos (by omega), (IntWalk.wrap64_in (((i + 1 : Nat) : Int) - 1) (by omega)).trans (show ((i + 1 : Nat) : Int) - 1 = (i : Int) by omega), (IntWalk.wrap64_in (2 * (a : Int)) (by omega)).trans (show 2 * (a : Int) = ((2 * a : Nat) : Int) by omega), ih k (2 * a) (by omega) (by omega) ha, e]

theorem specPower_ok (i : Nat) (hi : i ≤ 5) (k : Nat) (hk : 6 ≤ k) : spec_power.f k (i : Int) = some ((2 ^ i : Nat) : Int) := by
  have h2 : 2 ^ i ≤ 2 ^ 5 := Nat.pow_le_pow_right (by omega) hi
  have h := specPower_l0 i k 1 (by omega) hi (by omega)
  rw [Nat.one_mul] at h
  exact h

theorem specPower5 (k : Nat) (hk : 6 ≤ k) : spec_power.f k 5 = some 32 := specPower_ok 5 (by omega) k hk

theorem specValid_l0 (a b c : Int) (l : List Int) (hl : l.length ≤ 2000000) : ∀ (d k i : Nat), i + d = l.length → d + 7 < k → spec_validOffer.l0 k (i : Int) a b c l = some (decide (0 ≤ a ∧ a ≤ 20) && decide (a ≤ b ∧ b ≤ 20) && decide (0 ≤ c ∧ c ≤ 31) && decide (l.length = 5) && !((l.drop i).any fun n => !decide (0 ≤ n ∧ n ≤ 31))) := by
  intro d
  induction d with
  | zero =>
    intro k i hi hk
    obtain ⟨k, rfl⟩ : ∃ m, k = m + 1 := ⟨k - 1, by omega⟩
    rw [spec_validOffer.l0, if_neg (by omega), List.drop_eq_nil_of_le (by omega), inRange_val, inRange_val, specPower5 k (by omega)]
    simp only [Option.bind_some, inRange_val, show wrap64 (32 - 1) = 31 from IntWalk.wrap64_in (32 - 1) (by omega), List.any_nil, Bool.not_false, Bool.and_true]
    by_cases h1 : l.length = 5
    · rw [if_pos (by omega), decide_eq_true h1, Bool.and_true]
      by_cases h2 : 0 ≤ a ∧ a ≤ 20
      · rw [decide_eq_true h2, if_pos rfl, Bool.true_and]
        by_cases h3 : a ≤ b ∧ b ≤ 20
        · rw [decide_eq_true h3, if_pos rfl, Bool.true_and]
        · rw [decide_eq_false h3, if_neg Bool.false_ne_true, Bool.false_and]
      · rw [decide_eq_false h2, if_neg Bool.false_ne_true, Bool.false_and, Bool.false_and]
    · rw [if_neg (by omega), decide_eq_false h1, Bool.and_false]
  | succ d ih =>
    intro k i hi hk
    obtain ⟨k, rfl⟩ : ∃ m, k = m + 1 := ⟨k - 1, by omega⟩
    rw [spec_validOffer.l0, if_pos (by omega), if_pos (by omega), specPower5 k (by omega), Option.bind_some, inRange_val, Option.bind_some, step_nat i (by omega), rd_nat l i (by omega), List.drop_eq_getElem_cons (by omega : i < l.length), List.any_cons, show wrap64 (32 - 1) = 31 from IntWalk.wrap64_in (32 - 1) (by omega)]
    by_cases h : 0 ≤ l[i]'(by omega) ∧ l[i]'(by omega) ≤ 31
    · rw [decide_eq_true h, if_pos rfl, ih k (i + 1) (by omega) (by omega), Bool.not_true, Bool.false_or]
    · rw [decide_eq_false h, if_neg Bool.false_ne_true, Bool.not_false, Bool.true_or, Bool.not_true, Bool.and_false]

theorem specvalid_ok (a b c : Int) (l : List Int) (hl : l.length ≤ 2000000) (k : Nat) (hk : l.length + 7 < k) : spec_validOffer.f k a b c l = some (okO a b c l) := by
  unfold spec_validOffer.f
  have h := specValid_l0 a b c l hl l.length k 0 (by omega) hk
  rw [List.drop_zero] at h
  exact h

theorem FnExactValidOffer (a b c : Int) (l : List Int) (hl : l.length ≤ maxLen) : ∃ k, laws_FnExactValidOffer.f k a b c l = some true := by
  refine ⟨l.length + 100, ?_⟩
  unfold laws_FnExactValidOffer.f
  rw [sz_ok a b c l 1048576 hl (by omega) (by omega), Option.bind_some]
  by_cases h : (1048576 : Int) - (l.length : Int) < 0
  · rw [if_pos h, if_pos (show (-1 : Int) < 0 by omega)]
  · rw [if_neg h, if_neg h, toOffer_ok a b c l (by omega) _ (by omega), Option.bind_some]
    have hs : spec_ValidOffer.f (l.length + 100) a b c l = some (okO a b c l) := by
      unfold spec_ValidOffer.f
      rw [specvalid_ok a b c l (by omega) _ (by omega), Option.bind_some]
    rw [hs, Option.bind_some, Option.bind_some, implValid_val, Option.bind_some, bne_self_eq_false, if_neg Bool.false_ne_true, Option.bind_some, eqOffer_ok a b c l (by omega) _ (by omega), Option.bind_some, if_pos rfl]

end Go.Proofs.Ytnolmimfpnngjaa.Pure
