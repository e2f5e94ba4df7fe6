/- The program's ValidPlan tells what the reference's tells, and leaves its argument as it was: FnExactValidPlan returns true for every plan. Conditions: none. -/
import Derived.Test.YtidjdekokibkiaaPFnExactValidPlanx1
namespace Go.Proofs.Ytidjdekokibkiaa.Pure
open Go.RowKit Go.Proofs.Ytidjdekokibkiaa.PFnExactValidPlan Go.Proofs.YtidjdekokibkiaaW.PrintWords Go.Proofs.YtidjdekokibkiaaW.PrintLast
open Go
set_option linter.unusedVariables false
set_option linter.unusedSimpArgs false

theorem within_val (x a b : Int) : impl_within.f x a b = some (decide (a ≤ x ∧ x ≤ b)) := by
  unfold impl_within.f
  by_cases h : a ≤ x
  · rw [if_pos h]; simp [h]
  · rw [if_neg h]; simp [h]

theorem inRange_val (x a b : Int) : spec_inRange.f x a b = some (decide (a ≤ x ∧ x ≤ b)) := by
  unfold spec_inRange.f
  by_cases h : a ≤ x
  · rw [if_pos h]; simp [h]
  · rw [if_neg h]; simp [h]

theorem impl_val (a b c d : Int) : impl_ValidPlan.f a b c d = some (decide ((2 ≤ a ∧ a ≤ 4) ∧ (1 ≤ b ∧ b ≤ 4) ∧ (1 ≤ c ∧ c ≤ 4) ∧ (1 ≤ d ∧ d ≤ 5))) := by
  unfold impl_ValidPlan.f
  simp only [within_val, Option.bind_some, decide_eq_true_eq]
  by_cases h1 : 2 ≤ a ∧ a ≤ 4
  · rw [if_pos h1]
    by_cases h2 : 1 ≤ b ∧ b ≤ 4
    · rw [if_pos h2]
      by_cases h3 : 1 ≤ c ∧ c ≤ 4
      · rw [if_pos h3]; simp [h1, h2, h3]
      · rw [if_neg h3]; simp [h3]
    · rw [if_neg h2]; simp [h2]
  · rw [if_neg h1]; simp [h1]

theorem spec_val (a b c d : Int) : spec_ValidPlan.f a b c d = impl_ValidPlan.f a b c d := by
  unfold spec_ValidPlan.f spec_validPlan.f impl_ValidPlan.f
  simp only [within_val, inRange_val, Option.bind_some]
  cases h : (if decide (2 ≤ a ∧ a ≤ 4) = true then if decide (1 ≤ b ∧ b ≤ 4) = true then if decide (1 ≤ c ∧ c ≤ 4) = true then some (decide (1 ≤ d ∧ d ≤ 5)) else some false else some false else some false) <;> rfl

theorem FnExactValidPlan (a b c d : Int) : laws_FnExactValidPlan.f a b c d = some true := by
  unfold laws_FnExactValidPlan.f laws_toPlan.f
  simp only [Option.bind_some, spec_val, impl_val, bne_self_eq_false, Bool.false_eq_true, if_false]

end Go.Proofs.Ytidjdekokibkiaa.Pure
