/- The program's RowsFor and the reference's answer alike, for all arguments. No condition. -/
import Derived.Test.YtnhkneicepmiiaaPFnExactRowsForx1
import Derived.Test.YtnhkneicepmiiaaBase
namespace Go.Proofs.Ytnhkneicepmiiaa.Pure
open Go.RowKit Go.Proofs.Ytnhkneicepmiiaa.PFnExactRowsFor Go.Proofs.YtnhkneicepmiiaaW.PrintWords Go.Proofs.YtnhkneicepmiiaaW.PrintLast Go.Proofs.YtnhkneicepmiiaaW.PrintMore Go.Proofs.Ytnhkneicepmiiaa.Base
theorem in_f (a b c : Int) : impl_in.f a b c = some (decide (b ≤ a ∧ a ≤ c)) := by
  unfold impl_in.f
  by_cases h : b ≤ a <;> simp [h]
theorem l01In_f (a b c : Int) : spec_l01In.f a b c = some (decide (b ≤ a ∧ a ≤ c)) := by
  unfold spec_l01In.f
  by_cases h : b ≤ a <;> simp [h]
/-- How many loaves stand on a length. -/
def rowsV (l a g : Int) : Int := if (1 ≤ l ∧ l ≤ 1000) ∧ (1 ≤ a ∧ a ≤ 500) ∧ (0 ≤ g ∧ g ≤ 100) then (l + g) / (a + g) else -1
theorem rowsV_le (l a g : Int) : -1 ≤ rowsV l a g ∧ rowsV l a g ≤ 1100 := by
  unfold rowsV
  split
  · rename_i h
    refine ⟨?_, ?_⟩
    · have : 0 ≤ (l + g) / (a + g) := Int.ediv_nonneg (by omega) (by omega)
      omega
    · have : (l + g) / (a + g) ≤ l + g := Int.ediv_le_self _ (by omega)
      omega
  · omega
theorem rowsS (l a g : Int) : spec_RowsFor.f l a g = some (rowsV l a g) := by
  unfold spec_RowsFor.f rowsV
  simp only [l01In_f, Option.bind_some, decide_eq_true_eq]
  by_cases h1 : 1 ≤ l ∧ l ≤ 1000
  · by_cases h2 : 1 ≤ a ∧ a ≤ 500
    · by_cases h3 : 0 ≤ g ∧ g ≤ 100
      · rw [if_pos h1, if_pos h2, if_pos h3, if_pos (show (1 ≤ l ∧ l ≤ 1000) ∧ (1 ≤ a ∧ a ≤ 500) ∧ (0 ≤ g ∧ g ≤ 100) from ⟨h1, h2, h3⟩), w64 (x := l + g) (by omega) (by omega), w64 (x := a + g) (by omega) (by omega), if_neg (by omega), tdiv_pos (by omega)]
        have h4 : 0 ≤ (l + g) / (a + g) := Int.ediv_nonneg (by omega) (by omega)
        have h5 : (l + g) / (a + g) ≤ l + g := Int.ediv_le_self _ (by omega)
        rw [w64 (by omega) (by omega)]
      · rw [if_pos h1, if_pos h2, if_neg h3, if_neg (show ¬ ((1 ≤ l ∧ l ≤ 1000) ∧ (1 ≤ a ∧ a ≤ 500) ∧ (0 ≤ g ∧ g ≤ 100)) from fun h => h3 h.2.2)]
    · rw [if_pos h1, if_neg h2, if_neg (show ¬ ((1 ≤ l ∧ l ≤ 1000) ∧ (1 ≤ a ∧ a ≤ 500) ∧ (0 ≤ g ∧ g ≤ 100)) from fun h => h2 h.2.1)]
  · rw [if_neg h1, if_neg (show ¬ ((1 ≤ l ∧ l ≤ 1000) ∧ (1 ≤ a ∧ a ≤ 500) ∧ (0 ≤ g ∧ g ≤ 100)) from fun h => h1 h.1)]
theorem rowsI (l a g : Int) : impl_RowsFor.f l a g = some (rowsV l a g) := by
  unfold impl_RowsFor.f rowsV
  simp only [in_f, Option.bind_some, decide_eq_true_eq]
  by_cases h1 : 1 ≤ l ∧ l ≤ 1000
  · by_cases h2 : 1 ≤ a ∧ a ≤ 500
    · by_cases h3 : 0 ≤ g ∧ g ≤ 100
      · rw [if_pos h1, if_pos h2, if_pos h3, if_pos (show (1 ≤ l ∧ l ≤ 1000) ∧ (1 ≤ a ∧ a ≤ 500) ∧ (0 ≤ g ∧ g ≤ 100) from ⟨h1, h2, h3⟩), w64 (x := l + g) (by omega) (by omega), w64 (x := a + g) (by omega) (by omega), if_neg (by omega), tdiv_pos (by omega)]
        have h4 : 0 ≤ (l + g) / (a + g) := Int.ediv_nonneg (by omega) (by omega)
        have h5 : (l + g) / (a + g) ≤ l + g := Int.ediv_le_self _ (by omega)
        rw [w64 (by omega) (by omega)]
      · rw [if_pos h1, if_pos h2, if_neg h3, if_neg (show ¬ ((1 ≤ l ∧ l ≤ 1000) ∧ (1 ≤ a ∧ a ≤ 500) ∧ (0 ≤ g ∧ g ≤ 100)) from fun h => h3 h.2.2)]
    · rw [if_pos h1, if_neg h2, if_neg (show ¬ ((1 ≤ l ∧ l ≤ 1000) ∧ (1 ≤ a ∧ a ≤ 500) ∧ (0 ≤ g ∧ g ≤ 100)) from fun h => h2 h.2.1)]
  · rw [if_neg h1, if_neg (show ¬ ((1 ≤ l ∧ l ≤ 1000) ∧ (1 ≤ a ∧ a ≤ 500) ∧ (0 ≤ g ∧ g ≤ 100)) from fun h => h1 h.1)]
theorem FnExactRowsFor : laws_FnExactRowsFor.Pure := by
  intro a b c _ _ _
  unfold laws_FnExactRowsFor.f
  simp only [rowsS, rowsI, Option.bind_some, if_true]
end Go.Proofs.Ytnhkneicepmiiaa.Pure
