/- The program's BreadOk and the reference's answer alike, for all arguments. No condition. -/
import Derived.Test.YtnhkneicepmiiaaPFnExactBreadOkx1
import Derived.Test.YtnhkneicepmiiaaBase
namespace Go.Proofs.Ytnhkneicepmiiaa.Pure
open Go.RowKit Go.Proofs.Ytnhkneicepmiiaa.PFnExactBreadOk Go.Proofs.YtnhkneicepmiiaaW.PrintWords Go.Proofs.YtnhkneicepmiiaaW.PrintLast Go.Proofs.YtnhkneicepmiiaaW.PrintMore Go.Proofs.Ytnhkneicepmiiaa.Base
set_option linter.unusedVariables false
set_option linter.unusedSimpArgs false
theorem in_f (a b c : Int) : impl_in.f a b c = some (decide (b ≤ a ∧ a ≤ c)) := by
  unfold impl_in.f
  by_cases h : b ≤ a <;> simp [h]
theorem l01In_f (a b c : Int) : spec_l01In.f a b c = some (decide (b ≤ a ∧ a ≤ c)) := by
  unfold spec_l01In.f
  by_cases h : b ≤ a <;> simp [h]
theorem FnExactBreadOk (x y z : Int) (_ : (Lit.int .i64 x).wf = true) (_ : (Lit.int .i64 y).wf = true) (_ : (Lit.int .i64 z).wf = true) : laws_FnExactBreadOk.f x y z = some true := by
  unfold laws_FnExactBreadOk.f laws_toBread.f spec_BreadOk.f impl_BreadOk.f
  simp only [in_f, l01In_f, Option.bind_some, decide_eq_true_eq]
  by_cases c1 : 100 ≤ y ∧ y ≤ 350
  · rw [if_pos c1]
    by_cases c2 : 100 ≤ x ∧ x ≤ y
    · rw [if_pos c2, if_pos c2, if_pos c1.2]
      simp
    · rw [if_neg c2, if_neg c2]
      simp
  · rw [if_neg c1]
    by_cases c2 : 100 ≤ x ∧ x ≤ y
    · rw [if_pos c2, if_neg (by omega)]
      simp
    · rw [if_neg c2]
      simp
end Go.Proofs.Ytnhkneicepmiiaa.Pure
