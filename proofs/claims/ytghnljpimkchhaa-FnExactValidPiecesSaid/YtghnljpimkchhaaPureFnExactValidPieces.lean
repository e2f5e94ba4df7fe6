/- The program's ValidPieces tells what the reference's tells, and leaves its argument as it was: FnExactValidPieces returns true for every list of pieces. Conditions: none. -/
import Derived.Test.YtghnljpimkchhaaHFnExactValidPiecesx2
namespace Go.Proofs.Ytghnljpimkchhaa.Pure
open Go.RowKit Go.Proofs.Ytghnljpimkchhaa.HFnExactValidPieces Go.Proofs.YtghnljpimkchhaaW.PrintWords Go.Proofs.YtghnljpimkchhaaW.PrintLast
open Go
set_option linter.unusedVariables false
set_option linter.unusedSimpArgs false

theorem rd_nat (l : List Int) (i : Nat) (h : i < l.length) : rd l (i : Int) = l[i] := by
  unfold rd
  rw [Int.toNat_natCast, List.getD_eq_getElem?_getD, List.getElem?_eq_getElem h]
  rfl

theorem step_nat (i : Nat) (h : i < 4611686018427387904) : wrap64 ((i : Int) + 1) = ((i + 1 : Nat) : Int) := by
  rw [IntWalk.wrap64_in ((i : Int) + 1) (by omega)]
  rfl

theorem within_val (x a b : Int) : impl_within.f x a b = some (decide (a ≤ x ∧ x ≤ b)) := by
  unfold impl_within.f
  by_cases h : a ≤ x
  · rw [if_pos h]; simp [h]
  · rw [if_neg h]; simp [h]

theorem inRange_val (x a b : Int) : spec_inRange.f x a b = some (decide (a ≤ x ∧ x ≤ b)) := by
  unfold spec_inRange.f
  by_cases h : a ≤ x
  · rw [if_pos h]; simp [h]
  · rw [if_neg h]; simp [h]

def okP1 (x : S47) : Bool := decide (0 ≤ x.f0 ∧ x.f0 ≤ 59) && decide (1 ≤ x.f1 ∧ x.f1 ≤ wrap64 (60 - x.f0))
def okP (l : List S47) : Bool := l.all okP1 && decide (l.length ≤ 20)

theorem vp1_val (x : S47) : impl_ValidPieces_1.f x.f0 x.f1 x.f2 = some (!(okP1 x)) := by
  unfold impl_ValidPieces_1.f okP1
  rw [within_val, Option.bind_some, within_val, Option.bind_some]
  by_cases h : 0 ≤ x.f0 ∧ x.f0 ≤ 59
  · rw [decide_eq_true h, if_pos rfl, Bool.true_and]
  · rw [decide_eq_false h, if_neg Bool.false_ne_true, Bool.false_and, Bool.not_false]

theorem implVP_val (l : List S47) : impl_ValidPieces.f l = some (okP l) := by
  unfold impl_ValidPieces.f hand_Contains_ValidPieces.f
  have hany : (l.any fun x => (impl_ValidPieces_1.f x.f0 x.f1 x.f2).getD false) = !(l.all okP1) := by
    induction l with
    | nil => rfl
    | cons x l ih =>
      rw [List.any_cons, List.all_cons, ih, vp1_val, Option.getD_some]
      show (!(okP1 x) || !(l.all okP1)) = !(okP1 x && l.all okP1)
      rw [Bool.not_and]
  rw [hany, Option.bind_some, Bool.not_not]
  unfold okP
  by_cases h : l.length ≤ 20
  · rw [if_pos (by omega), decide_eq_true h, Bool.and_true]
  · rw [if_neg (by omega), decide_eq_false h, Bool.and_false]

theorem rdP47_nat (l : List S47) (i : Nat) (h : i < l.length) : rd_T47 l (i : Int) = l[i] := by
  unfold rd_T47
  rw [Int.toNat_natCast, List.getD_eq_getElem?_getD, List.getElem?_eq_getElem h]
  rfl

theorem specVP_l0 (l : List S47) (hl : l.length ≤ 2000000) : ∀ (d k i : Nat), i + d = l.length → d < k → spec_validPieces.l0 k l (i : Int) = some ((l.drop i).all okP1 && decide (l.length ≤ 20)) := by
  intro d
  induction d with
  | zero =>
    intro k i hi hk
    obtain ⟨k, rfl⟩ : ∃ m, k = m + 1 := ⟨k - 1, by omega⟩
    rw [spec_validPieces.l0, if_neg (by omega), List.drop_eq_nil_of_le (by omega), List.all_nil, Bool.true_and]
    exact congrArg some (decide_eq_decide.mpr (by omega))
  | succ d ih =>
    intro k i hi hk
    obtain ⟨k, rfl⟩ : ∃ m, k = m + 1 := ⟨k - 1, by omega⟩
    rw [spec_validPieces.l0, if_pos (by omega), if_pos (by omega), rdP47_nat l i (by omega), inRange_val, Option.bind_some, inRange_val, Option.bind_some, step_nat i (by omega), List.drop_eq_getElem_cons (by omega : i < l.length), List.all_cons]
    generalize l[i]'(by omega) = x
    unfold okP1
    by_cases h1 : 0 ≤ x.f0 ∧ x.f0 ≤ 59
    · rw [decide_eq_true h1, if_pos rfl, Bool.true_and]
      by_cases h2 : 1 ≤ x.f1 ∧ x.f1 ≤ wrap64 (60 - x.f0)
      · rw [decide_eq_true h2, if_pos rfl, Bool.true_and, ih k (i + 1) (by omega) (by omega)]
        rfl
      · rw [decide_eq_false h2, if_neg Bool.false_ne_true, Bool.false_and, Bool.false_and]
    · rw [decide_eq_false h1, if_neg Bool.false_ne_true, Bool.false_and, Bool.false_and, Bool.false_and]

theorem specVP_ok (l : List S47) (hl : l.length ≤ 2000000) (k : Nat) (hk : l.length < k) : spec_validPieces.f k l = some (okP l) := by
  unfold spec_validPieces.f
  have h := specVP_l0 l hl l.length k 0 (by omega) hk
  rw [List.drop_zero] at h
  exact h

theorem eqPiece_self (a b : Int) (c : Bool) : laws_eqPiece.f a b c a b c = some true := by
  unfold laws_eqPiece.f
  rw [if_pos rfl, if_pos rfl, bne_self_eq_false, if_neg Bool.false_ne_true]

theorem eqPieceS_l0 (a : List S47) (hl : a.length ≤ 2000000) : ∀ (d k i : Nat), i + d = a.length → d < k → laws_eqPieceS.l0 k a a (i : Int) = some true := by
  intro d
  induction d with
  | zero =>
    intro k i hi hk
    obtain ⟨k, rfl⟩ : ∃ m, k = m + 1 := ⟨k - 1, by omega⟩
    simp only [laws_eqPieceS.l0]
    rw [if_neg (by omega)]
  | succ d ih =>
    intro k i hi hk
    obtain ⟨k, rfl⟩ : ∃ m, k = m + 1 := ⟨k - 1, by omega⟩
    simp only [laws_eqPieceS.l0]
    rw [if_pos (by omega), if_pos (by omega), if_pos (by omega), eqPiece_self, Option.bind_some, if_pos rfl, step_nat i (by omega)]
    exact ih k (i + 1) (by omega) (by omega)

theorem eqPieceS_self (a : List S47) (hl : a.length ≤ 2000000) (k : Nat) (hk : a.length < k) : laws_eqPieceS.f k a a = some true := by
  unfold laws_eqPieceS.f
  rw [if_pos rfl]
  exact eqPieceS_l0 a hl a.length k 0 (by omega) hk

theorem rdP_nat (l : List S47) (i : Nat) (h : i < l.length) : rd_T47 l (i : Int) = l[i] := by
  unfold rd_T47
  rw [Int.toNat_natCast, List.getD_eq_getElem?_getD, List.getElem?_eq_getElem h]
  rfl

def conv (x : S56) : S47 := ⟨x.f0, x.f1, x.f2⟩
theorem rdP56_nat (l : List S56) (i : Nat) (h : i < l.length) : rd_T56 l (i : Int) = l[i] := by
  unfold rd_T56
  rw [Int.toNat_natCast, List.getD_eq_getElem?_getD, List.getElem?_eq_getElem h]
  rfl
theorem toPieceS_l0 (l : List S56) (hl : l.length ≤ 2000000) : ∀ (d k i : Nat) (o : List S47), i + d = l.length → d < k → o.length = l.length → (∀ j, j < i → o[j]? = (l.map conv)[j]?) → laws_toPieceS.l0 k l o (i : Int) = some (l.map conv) := by
  intro d
  induction d with
  | zero =>
    intro k i o hi hk ho hj
    obtain ⟨k, rfl⟩ : ∃ m, k = m + 1 := ⟨k - 1, by omega⟩
    rw [laws_toPieceS.l0, if_neg (by omega)]
    congr 1
    apply List.ext_getElem?
    intro j
    by_cases h : j < l.length
    · exact hj j (by omega)
    · rw [List.getElem?_eq_none (by omega), List.getElem?_eq_none (by rw [List.length_map]; omega)]
  | succ d ih =>
    intro k i o hi hk ho hj
    obtain ⟨k, rfl⟩ : ∃ m, k = m + 1 := ⟨k - 1, by omega⟩
    rw [laws_toPieceS.l0, if_pos (by omega), if_pos (by omega)]
    unfold laws_toPiece.f
    rw [Option.bind_some, if_pos (by omega), step_nat i (by omega), Int.toNat_natCast, rdP56_nat l i (by omega)]
    refine ih k (i + 1) _ (by omega) (by omega) (by rw [List.length_set]; exact ho) ?_
    intro j hji
    by_cases e : i = j
    · subst e
      rw [List.getElem?_set_self (by omega), List.getElem?_map, List.getElem?_eq_getElem (by omega)]
      rfl
    · rw [List.getElem?_set_ne e]
      exact hj j (by omega)

theorem toPieceS_ok (l : List S56) (hl : l.length ≤ 2000000) (k : Nat) (hk : l.length < k) : laws_toPieceS.f k l = some (l.map conv) := by
  unfold laws_toPieceS.f
  rw [if_pos (by omega), if_pos (by rw [Int.toNat_natCast]; omega), Int.toNat_natCast]
  exact toPieceS_l0 l hl l.length k 0 _ (by omega) hk (List.length_replicate ..) (fun j hj => absurd hj (Nat.not_lt_zero _))

theorem szP_ok (l : List S56) (n : Int) (hl : l.length ≤ maxLen) (h0 : 0 ≤ n) (h1 : n ≤ 1048576) : laws_szPieceS.f l n = some (if n - (l.length : Int) < 0 then -1 else n - (l.length : Int)) := by
  have hm : maxLen ≤ 9223372036854775807 := by decide
  unfold laws_szPieceS.f
  rw [IntWalk.wrap64_in (n - (l.length : Int)) (by omega)]
  by_cases h : n - (l.length : Int) < 0
  · rw [if_pos h, if_pos h]
  · rw [if_neg h, if_neg h]

theorem FnExactValidPieces (l : List S56) (hl : l.length ≤ maxLen) : ∃ k, laws_FnExactValidPieces.f k l = some true := by
  refine ⟨l.length + 100, ?_⟩
  unfold laws_FnExactValidPieces.f
  rw [szP_ok l 1048576 hl (by omega) (by omega), Option.bind_some]
  by_cases h : (1048576 : Int) - (l.length : Int) < 0
  · rw [if_pos h, if_pos (show (-1 : Int) < 0 by omega)]
  · rw [if_neg h, if_neg h, toPieceS_ok l (by omega) _ (by omega)]
    have hn : (l.map conv).length = l.length := List.length_map ..
    generalize l.map conv = m at hn
    have hs : spec_ValidPieces.f (l.length + 100) m = some (okP m) := by
      unfold spec_ValidPieces.f
      rw [specVP_ok m (by omega) _ (by omega), Option.bind_some]
    rw [Option.bind_some, hs, Option.bind_some, Option.bind_some, implVP_val, Option.bind_some, bne_self_eq_false, if_neg Bool.false_ne_true, Option.bind_some, eqPieceS_self m (by omega) _ (by omega), Option.bind_some, if_pos rfl]

end Go.Proofs.Ytghnljpimkchhaa.Pure
