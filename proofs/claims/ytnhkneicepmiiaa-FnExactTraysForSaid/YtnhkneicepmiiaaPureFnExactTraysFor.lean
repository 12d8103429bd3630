/- The program's TraysFor and the reference's answer alike, for all arguments. No condition. -/
import Derived.Test.YtnhkneicepmiiaaPFnExactTraysForx1
import Derived.Test.YtnhkneicepmiiaaBase
namespace Go.Proofs.Ytnhkneicepmiiaa.Pure
open Go.RowKit Go.Proofs.Ytnhkneicepmiiaa.PFnExactTraysFor Go.Proofs.YtnhkneicepmiiaaW.PrintWords Go.Proofs.YtnhkneicepmiiaaW.PrintLast Go.Proofs.YtnhkneicepmiiaaW.PrintMore Go.Proofs.Ytnhkneicepmiiaa.Base
theorem in_f (a b c : Int) : impl_in.f a b c = some (decide (b ≤ a ∧ a ≤ c)) := by
  unfold impl_in.f
  by_cases h : b ≤ a <;> simp [h]
theorem l01In_f (a b c : Int) : spec_l01In.f a b c = some (decide (b ≤ a ∧ a ≤ c)) := by
  unfold spec_l01In.f
  by_cases h : b ≤ a <;> simp [h]
/-- How many loaves stand on a length. -/
def rowsV (l a g : Int) : Int := if (1 ≤ l ∧ l ≤ 1000) ∧ (1 ≤ a ∧ a ≤ 500) ∧ (0 ≤ g ∧ g ≤ 100) then (l + g) / (a + g) else -1
theorem rowsV_le (l a g : Int) : -1 ≤ rowsV l a g ∧ rowsV l a g ≤ 1100 := by
  unfold rowsV
  split
  · rename_i h
    refine ⟨?_, ?_⟩
    · have : 0 ≤ (l + g) / (a + g) := Int.ediv_nonneg (by omega) (by omega)
      omega
    · have : (l + g) / (a + g) ≤ l + g := Int.ediv_le_self _ (by omega)
      omega
  · omega
theorem rowsS (l a g : Int) : spec_RowsFor.f l a g = some (rowsV l a g) := by
  unfold spec_RowsFor.f rowsV
  simp only [l01In_f, Option.bind_some, decide_eq_true_eq]
  by_cases h1 : 1 ≤ l ∧ l ≤ 1000
  · by_cases h2 : 1 ≤ a ∧ a ≤ 500
    · by_cases h3 : 0 ≤ g ∧ g ≤ 100
      · rw [if_pos h1, if_pos h2, if_pos h3, if_pos (show (1 ≤ l ∧ l ≤ 1000) ∧ (1 ≤ a ∧ a ≤ 500) ∧ (0 ≤ g ∧ g ≤ 100) from ⟨h1, h2, h3⟩), w64 (x := l + g) (by omega) (by omega), w64 (x := a + g) (by omega) (by omega), if_neg (by omega), tdiv_pos (by omega)]
        have h4 : 0 ≤ (l + g) / (a + g) := Int.ediv_nonneg (by omega) (by omega)
        have h5 : (l + g) / (a + g) ≤ l + g := Int.ediv_le_self _ (by omega)
        rw [w64 (by omega) (by omega)]
      · rw [if_pos h1, if_pos h2, if_neg h3, if_neg (show ¬ ((1 ≤ l ∧ l ≤ 1000) ∧ (1 ≤ a ∧ a ≤ 500) ∧ (0 ≤ g ∧ g ≤ 100)) from fun h => h3 h.2.2)]
    · rw [if_pos h1, if_neg h2, if_neg (show ¬ ((1 ≤ l ∧ l ≤ 1000) ∧ (1 ≤ a ∧ a ≤ 500) ∧ (0 ≤ g ∧ g ≤ 100)) from fun h => h2 h.2.1)]
  · rw [if_neg h1, if_neg (show ¬ ((1 ≤ l ∧ l ≤ 1000) ∧ (1 ≤ a ∧ a ≤ 500) ∧ (0 ≤ g ∧ g ≤ 100)) from fun h => h1 h.1)]
theorem rowsI (l a g : Int) : impl_RowsFor.f l a g = some (rowsV l a g) := by
  unfold impl_RowsFor.f rowsV
  simp only [in_f, Option.bind_some, decide_eq_true_eq]
  by_cases h1 : 1 ≤ l ∧ l ≤ 1000
  · by_cases h2 : 1 ≤ a ∧ a ≤ 500
    · by_cases h3 : 0 ≤ g ∧ g ≤ 100
      · rw [if_pos h1, if_pos h2, if_pos h3, if_pos (show (1 ≤ l ∧ l ≤ 1000) ∧ (1 ≤ a ∧ a ≤ 500) ∧ (0 ≤ g ∧ g ≤ 100) from ⟨h1, h2, h3⟩), w64 (x := l + g) (by omega) (by omega), w64 (x := a + g) (by omega) (by omega), if_neg (by omega), tdiv_pos (by omega)]
        have h4 : 0 ≤ (l + g) / (a + g) := Int.ediv_nonneg (by omega) (by omega)
        have h5 : (l + g) / (a + g) ≤ l + g := Int.ediv_le_self _ (by omega)
        rw [w64 (by omega) (by omega)]
      · rw [if_pos h1, if_pos h2, if_neg h3, if_neg (show ¬ ((1 ≤ l ∧ l ≤ 1000) ∧ (1 ≤ a ∧ a ≤ 500) ∧ (0 ≤ g ∧ g ≤ 100)) from fun h => h3 h.2.2)]
    · rw [if_pos h1, if_neg h2, if_neg (show ¬ ((1 ≤ l ∧ l ≤ 1000) ∧ (1 ≤ a ∧ a ≤ 500) ∧ (0 ≤ g ∧ g ≤ 100)) from fun h => h2 h.2.1)]
  · rw [if_neg h1, if_neg (show ¬ ((1 ≤ l ∧ l ≤ 1000) ∧ (1 ≤ a ∧ a ≤ 500) ∧ (0 ≤ g ∧ g ≤ 100)) from fun h => h1 h.1)]
theorem mul_bd {x y : Int} (h1 : 0 ≤ x) (h2 : x ≤ 1100) (h3 : 0 ≤ y) (h4 : y ≤ 1100) : 0 ≤ x * y ∧ x * y ≤ 1210000 :=
  ⟨Int.mul_nonneg h1 h3, by have := Int.mul_le_mul h2 h4 h3 (by omega); omega⟩
/-- How many loaves stand on a tray. -/
def trayV (l w a b g : Int) : Int :=
  if rowsV l a g < 0 ∨ rowsV w b g < 0 ∨ rowsV l b g < 0 ∨ rowsV w a g < 0 then -1 else max (rowsV l a g * rowsV w b g) (rowsV l b g * rowsV w a g)
theorem trayV_le (l w a b g : Int) : -1 ≤ trayV l w a b g ∧ trayV l w a b g ≤ 1210000 := by
  unfold trayV
  split
  · omega
  · rename_i h
    have h1 := rowsV_le l a g
    have h2 := rowsV_le w b g
    have h3 := rowsV_le l b g
    have h4 := rowsV_le w a g
    have h5 := mul_bd (x := rowsV l a g) (y := rowsV w b g) (by omega) (by omega) (by omega) (by omega)
    have h6 := mul_bd (x := rowsV l b g) (y := rowsV w a g) (by omega) (by omega) (by omega) (by omega)
    generalize rowsV l a g * rowsV w b g = x at *
    generalize rowsV l b g * rowsV w a g = y at *
    omega
theorem trayS (l w a b g : Int) : spec_OnTray.f l w a b g = some (trayV l w a b g) := by
  unfold spec_OnTray.f trayV
  simp only [rowsS, Option.bind_some]
  have h1 := rowsV_le l a g
  have h2 := rowsV_le w b g
  have h3 := rowsV_le l b g
  have h4 := rowsV_le w a g
  by_cases c1 : rowsV l a g < 0
  · rw [if_pos c1, if_pos (.inl c1)]
  by_cases c2 : rowsV w b g < 0
  · rw [if_neg c1, if_pos c2, if_pos (.inr (.inl c2))]
  by_cases c3 : rowsV l b g < 0
  · rw [if_neg c1, if_neg c2, if_pos c3, if_pos (.inr (.inr (.inl c3)))]
  by_cases c4 : rowsV w a g < 0
  · rw [if_neg c1, if_neg c2, if_neg c3, if_pos c4, if_pos (.inr (.inr (.inr c4)))]
  rw [if_neg c1, if_neg c2, if_neg c3, if_neg c4, if_neg (by omega)]
  have h5 := mul_bd (x := rowsV l a g) (y := rowsV w b g) (by omega) (by omega) (by omega) (by omega)
  have h6 := mul_bd (x := rowsV l b g) (y := rowsV w a g) (by omega) (by omega) (by omega) (by omega)
  rw [w64 (by omega) (by omega), w64 (by omega) (by omega), mx_eq]
theorem trayI (l w a b g : Int) : impl_OnTray.f l w a b g = some (trayV l w a b g) := by
  unfold impl_OnTray.f trayV
  simp only [rowsI, Option.bind_some, mn_eq]
  have h1 := rowsV_le l a g
  have h2 := rowsV_le w b g
  have h3 := rowsV_le l b g
  have h4 := rowsV_le w a g
  by_cases c : rowsV l a g < 0 ∨ rowsV w b g < 0 ∨ rowsV l b g < 0 ∨ rowsV w a g < 0
  · rw [if_pos (by omega), if_pos c]
  · rw [if_neg (by omega), if_neg c]
    have h5 := mul_bd (x := rowsV l a g) (y := rowsV w b g) (by omega) (by omega) (by omega) (by omega)
    have h6 := mul_bd (x := rowsV l b g) (y := rowsV w a g) (by omega) (by omega) (by omega) (by omega)
    rw [w64 (by omega) (by omega), w64 (by omega) (by omega), mx_eq]
def traysV (n l w a b g : Int) : Int :=
  if trayV l w a b g ≤ 0 then -1 else if 0 ≤ n ∧ n ≤ 10000 then (n + trayV l w a b g - 1) / trayV l w a b g else -1
theorem traysI (n l w a b g : Int) : impl_TraysFor.f n l w a b g = some (traysV n l w a b g) := by
  unfold impl_TraysFor.f traysV impl_up.f
  simp only [trayI, in_f, Option.bind_some, decide_eq_true_eq]
  have h1 := trayV_le l w a b g
  by_cases c : trayV l w a b g ≤ 0
  · rw [if_pos c, if_pos c]
  · rw [if_neg c, if_neg c]
    by_cases c2 : 0 ≤ n ∧ n ≤ 10000
    · rw [if_pos c2, if_pos c2, if_neg (by omega), w64 (x := n + _) (by omega) (by omega), w64 (x := n + _ - 1) (by omega) (by omega), tdiv_pos (by omega)]
      have h4 : 0 ≤ (n + trayV l w a b g - 1) / trayV l w a b g := Int.ediv_nonneg (by omega) (by omega)
      have h5 : (n + trayV l w a b g - 1) / trayV l w a b g ≤ n + trayV l w a b g - 1 := Int.ediv_le_self _ (by omega)
      rw [w64 (by omega) (by omega)]
      rfl
    · rw [if_neg c2, if_neg c2]
theorem traysS (n l w a b g : Int) : spec_TraysFor.f n l w a b g = some (traysV n l w a b g) := by
  unfold spec_TraysFor.f traysV
  simp only [trayS, l01In_f, Option.bind_some, decide_eq_true_eq]
  have h1 := trayV_le l w a b g
  by_cases c : trayV l w a b g ≤ 0
  · rw [if_pos c, if_pos c]
  · rw [if_neg c, if_neg c]
    by_cases c2 : 0 ≤ n ∧ n ≤ 10000
    · rw [if_pos c2, if_pos c2, if_neg (by omega), w64 (x := n + _) (by omega) (by omega), w64 (x := n + _ - 1) (by omega) (by omega), tdiv_pos (by omega)]
      have h4 : 0 ≤ (n + trayV l w a b g - 1) / trayV l w a b g := Int.ediv_nonneg (by omega) (by omega)
      have h5 : (n + trayV l w a b g - 1) / trayV l w a b g ≤ n + trayV l w a b g - 1 := Int.ediv_le_self _ (by omega)
      rw [w64 (by omega) (by omega)]
    · rw [if_neg c2, if_neg c2]
theorem FnExactTraysFor : laws_FnExactTraysFor.Pure := by
  intro n l w a b g _ _ _ _ _ _
  unfold laws_FnExactTraysFor.f
  simp only [traysS, traysI, Option.bind_some, if_true]
end Go.Proofs.Ytnhkneicepmiiaa.Pure
