/- The program's SellCheap and the reference's answer alike, for all arguments. No condition. -/
import Derived.Test.YtljodkhonaeceaaPFnExactSellCheapx1
import Derived.Test.YtljodkhonaeceaaBase
namespace Go.Proofs.Ytljodkhonaeceaa.Pure
open Go.RowKit Go.Proofs.Ytljodkhonaeceaa.PFnExactSellCheap Go.Proofs.YtljodkhonaeceaaW.PrintWords Go.Proofs.YtljodkhonaeceaaW.PrintLast Go.Proofs.YtljodkhonaeceaaW.PrintMore Go.Proofs.Ytljodkhonaeceaa.Base
set_option linter.unusedVariables false
set_option linter.unusedSimpArgs false
theorem in_f (a b c : Int) : impl_in.f a b c = some (decide (b ≤ a ∧ a ≤ c)) := by
  unfold impl_in.f
  by_cases h : b ≤ a <;> simp [h]
theorem l01In_f (a b c : Int) : spec_l01In.f a b c = some (decide (b ≤ a ∧ a ≤ c)) := by
  unfold spec_l01In.f
  by_cases h : b ≤ a <;> simp [h]
def rackOk (x y z : Int) : Bool := decide (0 ≤ x ∧ x ≤ 10000) && decide (0 ≤ y ∧ y ≤ 10000) && decide (0 ≤ z ∧ z ≤ 10000)
theorem rackI (x y z : Int) : impl_RackOk.f x y z = some (rackOk x y z) := by
  unfold impl_RackOk.f rackOk
  simp only [impl_allIn.f, Option.bind_some, List.all_cons, List.all_nil, Bool.and_true, Bool.and_assoc]
theorem rackS (x y z : Int) : spec_RackOk.f x y z = some (rackOk x y z) := by
  unfold spec_RackOk.f rackOk
  simp only [l01In_f, Option.bind_some, decide_eq_true_eq]
  by_cases c1 : 0 ≤ x ∧ x ≤ 10000
  · by_cases c2 : 0 ≤ y ∧ y ≤ 10000
    · simp [c1, c2]
    · simp [c1, c2]
  · simp [c1]
theorem rackOk_iff (x y z : Int) : rackOk x y z = true ↔ (0 ≤ x ∧ x ≤ 10000) ∧ (0 ≤ y ∧ y ≤ 10000) ∧ (0 ≤ z ∧ z ≤ 10000) := by
  unfold rackOk
  simp only [Bool.and_eq_true, decide_eq_true_eq, and_assoc]
def freshV (x y z n : Int) : Int × Int × Int × Int :=
  if rackOk x y z = true ∧ (0 ≤ n ∧ n ≤ 10000) then (x - min n x, y - min (n - min n x) y, z, min n x + min (n - min n x) y) else (x, y, z, -1)
def cheapV (x y z n : Int) : Int × Int × Int × Int :=
  if rackOk x y z = true ∧ (0 ≤ n ∧ n ≤ 10000) then (x, y - min (n - min n z) y, z - min n z, min n z + min (n - min n z) y) else (x, y, z, -1)
def morningV (x y z n : Int) : Int × Int × Int × Int :=
  if rackOk x y z = true ∧ (0 ≤ n ∧ n ≤ 10000) then (n, x, y, z) else (x, y, z, -1)
def valueV (x y z p : Int) : Int := if rackOk x y z = true ∧ (0 ≤ p ∧ p ≤ 1000) then x * p + y * (p / 2) + z * (p / 4) else -1
theorem mulb (x p : Int) (h1 : 0 ≤ x) (h2 : x ≤ 10000) (h3 : 0 ≤ p) (h4 : p ≤ 1000) : 0 ≤ x * p ∧ x * p ≤ 10000000 :=
  ⟨Int.mul_nonneg h1 h3, by have := Int.mul_le_mul h2 h4 h3 (by omega); omega⟩
theorem cheapI (x y z n : Int) : impl_SellCheap.f x y z n = some (cheapV x y z n) := by
  unfold impl_SellCheap.f cheapV
  simp only [rackI, in_f, impl_taken.f, Option.bind_some, decide_eq_true_eq]
  by_cases c1 : rackOk x y z = true
  · have h := (rackOk_iff x y z).1 c1
    by_cases c2 : 0 ≤ n ∧ n ≤ 10000
    · simp only [if_pos c1, if_pos c2, if_pos (And.intro c1 c2)]
      simp only [mn_eq, Int.min_comm z n]
      simp (disch := omega) only [w64]
      rw [Int.min_comm y (n - min n z)]
    · simp only [if_pos c1, if_neg c2, if_neg (show ¬ (rackOk x y z = true ∧ 0 ≤ n ∧ n ≤ 10000) from fun h => c2 h.2)]
  · simp only [if_neg c1, if_neg (show ¬ (rackOk x y z = true ∧ 0 ≤ n ∧ n ≤ 10000) from fun h => c1 h.1)]
theorem cheapS (x y z n : Int) : spec_SellCheap.f x y z n = some (cheapV x y z n) := by
  unfold spec_SellCheap.f cheapV
  simp only [rackS, l01In_f, Option.bind_some, decide_eq_true_eq]
  by_cases c1 : rackOk x y z = true
  · have h := (rackOk_iff x y z).1 c1
    by_cases c2 : 0 ≤ n ∧ n ≤ 10000
    · simp only [if_pos c1, if_pos c2, if_pos (And.intro c1 c2)]
      simp only [mn_eq]
      simp (disch := omega) only [w64]
    · simp only [if_pos c1, if_neg c2, if_neg (show ¬ (rackOk x y z = true ∧ 0 ≤ n ∧ n ≤ 10000) from fun h => c2 h.2)]
  · simp only [if_neg c1, if_neg (show ¬ (rackOk x y z = true ∧ 0 ≤ n ∧ n ≤ 10000) from fun h => c1 h.1)]
theorem FnExactSellCheap (x y z n : Int) (_ : (Lit.int .i64 x).wf = true) (_ : (Lit.int .i64 y).wf = true) (_ : (Lit.int .i64 z).wf = true) (_ : (Lit.int .i64 n).wf = true) : laws_FnExactSellCheap.f x y z n = some true := by
  unfold laws_FnExactSellCheap.f laws_toRack.f
  simp only [Option.bind_some, cheapI, cheapS, laws_eqRack.f, if_true]
end Go.Proofs.Ytljodkhonaeceaa.Pure
