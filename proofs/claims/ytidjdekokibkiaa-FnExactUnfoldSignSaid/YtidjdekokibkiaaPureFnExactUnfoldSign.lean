/- The program's UnfoldSign returns what the reference's returns: FnExactUnfoldSign returns true for every int. Conditions: none. -/
import Derived.Test.YtidjdekokibkiaaPFnExactUnfoldSignx1
namespace Go.Proofs.Ytidjdekokibkiaa.Pure
open Go.RowKit Go.Proofs.Ytidjdekokibkiaa.PFnExactUnfoldSign Go.Proofs.YtidjdekokibkiaaW.PrintWords Go.Proofs.YtidjdekokibkiaaW.PrintLast
open Go
set_option linter.unusedVariables false
set_option linter.unusedSimpArgs false

theorem within_val (x a b : Int) : impl_within.f x a b = some (decide (a ≤ x ∧ x ≤ b)) := by
  unfold impl_within.f
  by_cases h : a ≤ x
  · rw [if_pos h]; simp [h]
  · rw [if_neg h]; simp [h]

theorem inRange_val (x a b : Int) : spec_inRange.f x a b = some (decide (a ≤ x ∧ x ≤ b)) := by
  unfold spec_inRange.f
  by_cases h : a ≤ x
  · rw [if_pos h]; simp [h]
  · rw [if_neg h]; simp [h]

theorem unfold_val (x : Int) : impl_UnfoldSign.f x = some (if 0 ≤ x ∧ x ≤ 2000000 then (if x % 2 = 1 then -((x + 1) / 2) else x / 2, true) else (0, false)) := by
  unfold impl_UnfoldSign.f
  rw [within_val]
  simp only [Option.bind_some, decide_eq_true_eq]
  by_cases h : 0 ≤ x ∧ x ≤ 2000000
  · rw [if_pos h, if_pos h]
    simp (disch := omega) only [IntWalk.wrap64_in, Int.tmod_eq_emod_of_nonneg, Int.tdiv_eq_ediv_of_nonneg, Int.neg_tdiv]
    split <;> rfl
  · rw [if_neg h, if_neg h]

theorem unfoldS_val (x : Int) : spec_UnfoldSign.f x = impl_UnfoldSign.f x := by
  unfold spec_UnfoldSign.f impl_UnfoldSign.f
  rw [within_val, inRange_val]


theorem FnExactUnfoldSign : laws_FnExactUnfoldSign.Pure := by
  intro x _
  unfold laws_FnExactUnfoldSign.f
  rw [unfoldS_val, unfold_val]
  simp

end Go.Proofs.Ytidjdekokibkiaa.Pure
