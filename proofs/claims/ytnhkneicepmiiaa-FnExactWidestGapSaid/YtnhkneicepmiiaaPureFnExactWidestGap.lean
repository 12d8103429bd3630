/- The program's WidestGap and the reference's answer alike, for all arguments. No condition. -/
import Derived.Test.YtnhkneicepmiiaaPFnExactWidestGapx1
import Derived.Test.YtnhkneicepmiiaaBase
namespace Go.Proofs.Ytnhkneicepmiiaa.Pure
open Go.RowKit Go.Proofs.Ytnhkneicepmiiaa.PFnExactWidestGap Go.Proofs.YtnhkneicepmiiaaW.PrintWords Go.Proofs.YtnhkneicepmiiaaW.PrintLast Go.Proofs.YtnhkneicepmiiaaW.PrintMore Go.Proofs.Ytnhkneicepmiiaa.Base
theorem in_f (a b c : Int) : impl_in.f a b c = some (decide (b ≤ a ∧ a ≤ c)) := by
  unfold impl_in.f
  by_cases h : b ≤ a <;> simp [h]
theorem l01In_f (a b c : Int) : spec_l01In.f a b c = some (decide (b ≤ a ∧ a ≤ c)) := by
  unfold spec_l01In.f
  by_cases h : b ≤ a <;> simp [h]
/-- How many loaves stand on a length. -/
def rowsV (l a g : Int) : Int := if (1 ≤ l ∧ l ≤ 1000) ∧ (1 ≤ a ∧ a ≤ 500) ∧ (0 ≤ g ∧ g ≤ 100) then (l + g) / (a + g) else -1
theorem rowsV_le (l a g : Int) : -1 ≤ rowsV l a g ∧ rowsV l a g ≤ 1100 := by
  unfold rowsV
  split
  · rename_i h
    refine ⟨?_, ?_⟩
    · have : 0 ≤ (l + g) / (a + g) := Int.ediv_nonneg (by omega) (by omega)
      omega
    · have : (l + g) / (a + g) ≤ l + g := Int.ediv_le_self _ (by omega)
      omega
  · omega
theorem rowsS (l a g : Int) : spec_RowsFor.f l a g = some (rowsV l a g) := by
  unfold spec_RowsFor.f rowsV
  simp only [l01In_f, Option.bind_some, decide_eq_true_eq]
  by_cases h1 : 1 ≤ l ∧ l ≤ 1000
  · by_cases h2 : 1 ≤ a ∧ a ≤ 500
    · by_cases h3 : 0 ≤ g ∧ g ≤ 100
      · rw [if_pos h1, if_pos h2, if_pos h3, if_pos (show (1 ≤ l ∧ l ≤ 1000) ∧ (1 ≤ a ∧ a ≤ 500) ∧ (0 ≤ g ∧ g ≤ 100) from ⟨h1, h2, h3⟩), w64 (x := l + g) (by omega) (by omega), w64 (x := a + g) (by omega) (by omega), if_neg (by omega), tdiv_pos (by omega)]
        have h4 : 0 ≤ (l + g) / (a + g) := Int.ediv_nonneg (by omega) (by omega)
        have h5 : (l + g) / (a + g) ≤ l + g := Int.ediv_le_self _ (by omega)
        rw [w64 (by omega) (by omega)]
      · rw [if_pos h1, if_pos h2, if_neg h3, if_neg (show ¬ ((1 ≤ l ∧ l ≤ 1000) ∧ (1 ≤ a ∧ a ≤ 500) ∧ (0 ≤ g ∧ g ≤ 100)) from fun h => h3 h.2.2)]
    · rw [if_pos h1, if_neg h2, if_neg (show ¬ ((1 ≤ l ∧ l ≤ 1000) ∧ (1 ≤ a ∧ a ≤ 500) ∧ (0 ≤ g ∧ g ≤ 100)) from fun h => h2 h.2.1)]
  · rw [if_neg h1, if_neg (show ¬ ((1 ≤ l ∧ l ≤ 1000) ∧ (1 ≤ a ∧ a ≤ 500) ∧ (0 ≤ g ∧ g ≤ 100)) from fun h => h1 h.1)]
theorem rowsI (l a g : Int) : impl_RowsFor.f l a g = some (rowsV l a g) := by
  unfold impl_RowsFor.f rowsV
  simp only [in_f, Option.bind_some, decide_eq_true_eq]
  by_cases h1 : 1 ≤ l ∧ l ≤ 1000
  · by_cases h2 : 1 ≤ a ∧ a ≤ 500
    · by_cases h3 : 0 ≤ g ∧ g ≤ 100
      · rw [if_pos h1, if_pos h2, if_pos h3, if_pos (show (1 ≤ l ∧ l ≤ 1000) ∧ (1 ≤ a ∧ a ≤ 500) ∧ (0 ≤ g ∧ g ≤ 100) from ⟨h1, h2, h3⟩), w64 (x := l + g) (by omega) (by omega), w64 (x := a + g) (by omega) (by omega), if_neg (by omega), tdiv_pos (by omega)]
        have h4 : 0 ≤ (l + g) / (a + g) := Int.ediv_nonneg (by omega) (by omega)
        have h5 : (l + g) / (a + g) ≤ l + g := Int.ediv_le_self _ (by omega)
        rw [w64 (by omega) (by omega)]
      · rw [if_pos h1, if_pos h2, if_neg h3, if_neg (show ¬ ((1 ≤ l ∧ l ≤ 1000) ∧ (1 ≤ a ∧ a ≤ 500) ∧ (0 ≤ g ∧ g ≤ 100)) from fun h => h3 h.2.2)]
    · rw [if_pos h1, if_neg h2, if_neg (show ¬ ((1 ≤ l ∧ l ≤ 1000) ∧ (1 ≤ a ∧ a ≤ 500) ∧ (0 ≤ g ∧ g ≤ 100)) from fun h => h2 h.2.1)]
  · rw [if_neg h1, if_neg (show ¬ ((1 ≤ l ∧ l ≤ 1000) ∧ (1 ≤ a ∧ a ≤ 500) ∧ (0 ≤ g ∧ g ≤ 100)) from fun h => h1 h.1)]
/-- The widest gap, from g gaps on downward. -/
def gapV (l a n : Int) : Nat → Int
  | 0 => -1
  | g + 1 => if 0 ≤ rowsV l a g ∧ n ≤ rowsV l a g then g else gapV l a n g
theorem gapI_l (l a n : Int) (g : Nat) (hg : g ≤ 101) : Ev (fun k => impl_WidestGap.l0 k l a n ((g : Int) - 1)) (gapV l a n g) := by
  induction g with
  | zero => exact ev_now fun k => by simp only [impl_WidestGap.l0]; rw [if_neg (by omega)]; rfl
  | succ g ih =>
    have ih := ih (by omega)
    have e : ((g + 1 : Nat) : Int) - 1 = (g : Int) := by omega
    rw [e]
    unfold gapV
    by_cases c : 0 ≤ rowsV l a g ∧ n ≤ rowsV l a g
    · rw [if_pos c]
      exact ev_now fun k => by
        simp only [impl_WidestGap.l0, rowsI, Option.bind_some]
        rw [if_pos (by omega), if_pos (by omega), if_pos (by omega)]
    · rw [if_neg c]
      refine ev_next (fun k => ?_) _ ih
      simp only [impl_WidestGap.l0, rowsI, Option.bind_some]
      rw [if_pos (by omega), w64 (by omega) (by omega)]
      by_cases c1 : rowsV l a g ≥ 0
      · rw [if_pos c1, if_neg (by omega)]
      · rw [if_neg c1]
theorem gapI (l a n : Int) : Ev (fun k => impl_WidestGap.f k l a n) (if 0 ≤ n ∧ n ≤ 1000 then gapV l a n 101 else -1) := by
  unfold impl_WidestGap.f
  simp only [in_f, Option.bind_some, decide_eq_true_eq]
  by_cases c : 0 ≤ n ∧ n ≤ 1000
  · simp only [if_pos c]
    exact gapI_l l a n 101 (Nat.le_refl _)
  · simp only [if_neg c]
    exact ev_const rfl
theorem gapS_l (l a n : Int) (h0 : 0 ≤ n) (g : Nat) (hg : g ≤ 101) : Ev (fun k => spec_WidestGap.l0 k l a n ((g : Int) - 1)) (gapV l a n g) := by
  induction g with
  | zero => exact ev_now fun k => by simp only [spec_WidestGap.l0]; rw [if_neg (by omega)]; rfl
  | succ g ih =>
    have ih := ih (by omega)
    have e : ((g + 1 : Nat) : Int) - 1 = (g : Int) := by omega
    rw [e]
    unfold gapV
    by_cases c : 0 ≤ rowsV l a g ∧ n ≤ rowsV l a g
    · rw [if_pos c]
      exact ev_now fun k => by
        simp only [spec_WidestGap.l0, rowsS, Option.bind_some, mx_eq]
        rw [if_pos (by omega), if_pos (by omega), if_pos (by omega)]
    · rw [if_neg c]
      refine ev_next (fun k => ?_) _ ih
      simp only [spec_WidestGap.l0, rowsS, Option.bind_some, mx_eq]
      rw [if_pos (by omega), w64 (by omega) (by omega), if_neg (by omega)]
theorem gapS (l a n : Int) : Ev (fun k => spec_WidestGap.f k l a n) (if 0 ≤ n ∧ n ≤ 1000 then gapV l a n 101 else -1) := by
  unfold spec_WidestGap.f
  simp only [l01In_f, Option.bind_some, decide_eq_true_eq]
  by_cases c : 0 ≤ n ∧ n ≤ 1000
  · simp only [if_pos c]
    exact gapS_l l a n c.1 101 (Nat.le_refl _)
  · simp only [if_neg c]
    exact ev_const rfl
theorem FnExactWidestGap : laws_FnExactWidestGap.Pure := by
  intro l a n _ _ _
  refine Ev.rounds ?_
  unfold laws_FnExactWidestGap.f
  refine Ev.bind (gapS l a n) (Ev.bind (gapI l a n) ?_)
  simp only [if_true]
  exact Ev.now _
end Go.Proofs.Ytnhkneicepmiiaa.Pure
