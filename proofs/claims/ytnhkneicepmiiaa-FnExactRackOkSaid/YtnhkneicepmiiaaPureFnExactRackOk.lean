/- The program's RackOk and the reference's answer alike, for all arguments. No condition. -/
import Derived.Test.YtnhkneicepmiiaaPFnExactRackOkx1
import Derived.Test.YtnhkneicepmiiaaBase
namespace Go.Proofs.Ytnhkneicepmiiaa.Pure
open Go.RowKit Go.Proofs.Ytnhkneicepmiiaa.PFnExactRackOk Go.Proofs.YtnhkneicepmiiaaW.PrintWords Go.Proofs.YtnhkneicepmiiaaW.PrintLast Go.Proofs.YtnhkneicepmiiaaW.PrintMore Go.Proofs.Ytnhkneicepmiiaa.Base
set_option linter.unusedVariables false
set_option linter.unusedSimpArgs false
theorem l01In_f (a b c : Int) : spec_l01In.f a b c = some (decide (b ≤ a ∧ a ≤ c)) := by
  unfold spec_l01In.f
  by_cases h : b ≤ a <;> simp [h]
def rackOk (x y z : Int) : Bool := decide (0 ≤ x ∧ x ≤ 10000) && decide (0 ≤ y ∧ y ≤ 10000) && decide (0 ≤ z ∧ z ≤ 10000)
theorem rackI (x y z : Int) : impl_RackOk.f x y z = some (rackOk x y z) := by
  unfold impl_RackOk.f rackOk
  simp only [impl_allIn.f, Option.bind_some, List.all_cons, List.all_nil, Bool.and_true, Bool.and_assoc]
theorem rackS (x y z : Int) : spec_RackOk.f x y z = some (rackOk x y z) := by
  unfold spec_RackOk.f rackOk
  simp only [l01In_f, Option.bind_some, decide_eq_true_eq]
  by_cases c1 : 0 ≤ x ∧ x ≤ 10000
  · by_cases c2 : 0 ≤ y ∧ y ≤ 10000
    · simp [c1, c2]
    · simp [c1, c2]
  · simp [c1]
theorem FnExactRackOk (x y z : Int) (_ : (Lit.int .i64 x).wf = true) (_ : (Lit.int .i64 y).wf = true) (_ : (Lit.int .i64 z).wf = true) : laws_FnExactRackOk.f x y z = some true := by
  unfold laws_FnExactRackOk.f laws_toRack.f
  simp only [Option.bind_some, rackI, rackS, bne_self_eq_false, Bool.false_eq_true, if_false]
end Go.Proofs.Ytnhkneicepmiiaa.Pure
