/- The program's FoldSign returns what the reference's returns: FnExactFoldSign returns true for every int. Conditions: none. -/
import Derived.Test.YtidjdekokibkiaaPFnExactFoldSignx1
namespace Go.Proofs.Ytidjdekokibkiaa.Pure
open Go.RowKit Go.Proofs.Ytidjdekokibkiaa.PFnExactFoldSign Go.Proofs.YtidjdekokibkiaaW.PrintWords Go.Proofs.YtidjdekokibkiaaW.PrintLast
open Go
set_option linter.unusedVariables false
set_option linter.unusedSimpArgs false

theorem within_val (x a b : Int) : impl_within.f x a b = some (decide (a ≤ x ∧ x ≤ b)) := by
  unfold impl_within.f
  by_cases h : a ≤ x
  · rw [if_pos h]; simp [h]
  · rw [if_neg h]; simp [h]

theorem inRange_val (x a b : Int) : spec_inRange.f x a b = some (decide (a ≤ x ∧ x ≤ b)) := by
  unfold spec_inRange.f
  by_cases h : a ≤ x
  · rw [if_pos h]; simp [h]
  · rw [if_neg h]; simp [h]

theorem fold_val (x : Int) : impl_FoldSign.f x = some (if -1000000 ≤ x ∧ x ≤ 1000000 then (if x < 0 then -2 * x - 1 else 2 * x) else -1) := by
  unfold impl_FoldSign.f
  rw [within_val]
  simp only [Option.bind_some, decide_eq_true_eq]
  by_cases h : -1000000 ≤ x ∧ x ≤ 1000000
  · rw [if_pos h, if_pos h]
    simp (disch := omega) only [IntWalk.wrap64_in]
    split <;> rfl
  · rw [if_neg h, if_neg h]

theorem foldS_val (x : Int) : spec_FoldSign.f x = impl_FoldSign.f x := by
  unfold spec_FoldSign.f impl_FoldSign.f
  rw [within_val, inRange_val]


theorem FnExactFoldSign : laws_FnExactFoldSign.Pure := by
  intro x _
  unfold laws_FnExactFoldSign.f
  rw [foldS_val, fold_val]
  simp

end Go.Proofs.Ytidjdekokibkiaa.Pure
