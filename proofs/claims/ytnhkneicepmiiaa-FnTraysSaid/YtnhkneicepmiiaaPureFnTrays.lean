/- As many loaves stand on a tray as fit, and one more does not: the law FnTrays answers true for every input. No condition. -/
import Derived.Test.YtnhkneicepmiiaaPFnTraysx2
import Derived.Test.YtnhkneicepmiiaaBase
namespace Go.Proofs.Ytnhkneicepmiiaa.Pure
open Go.RowKit Go.Proofs.Ytnhkneicepmiiaa.PFnTrays Go.Proofs.YtnhkneicepmiiaaW.PrintWords Go.Proofs.YtnhkneicepmiiaaW.PrintLast Go.Proofs.YtnhkneicepmiiaaW.PrintMore Go.Proofs.Ytnhkneicepmiiaa.Base
set_option linter.unusedVariables false
set_option linter.unusedSimpArgs false
theorem in_f (a b c : Int) : impl_in.f a b c = some (decide (b ≤ a ∧ a ≤ c)) := by
  unfold impl_in.f
  by_cases h : b ≤ a <;> simp [h]
/-- How many loaves stand on a length. -/
def rowsV (l a g : Int) : Int := if (1 ≤ l ∧ l ≤ 1000) ∧ (1 ≤ a ∧ a ≤ 500) ∧ (0 ≤ g ∧ g ≤ 100) then (l + g) / (a + g) else -1
theorem rowsV_le (l a g : Int) : -1 ≤ rowsV l a g ∧ rowsV l a g ≤ 1100 := by
  unfold rowsV
  split
  · rename_i h
    refine ⟨?_, ?_⟩
    · have : 0 ≤ (l + g) / (a + g) := Int.ediv_nonneg (by omega) (by omega)
      omega
    · have : (l + g) / (a + g) ≤ l + g := Int.ediv_le_self _ (by omega)
      omega
  · omega
theorem rowsI (l a g : Int) : impl_RowsFor.f l a g = some (rowsV l a g) := by
  unfold impl_RowsFor.f rowsV
  simp only [in_f, Option.bind_some, decide_eq_true_eq]
  by_cases h1 : 1 ≤ l ∧ l ≤ 1000
  · by_cases h2 : 1 ≤ a ∧ a ≤ 500
    · by_cases h3 : 0 ≤ g ∧ g ≤ 100
      · rw [if_pos h1, if_pos h2, if_pos h3, if_pos (show (1 ≤ l ∧ l ≤ 1000) ∧ (1 ≤ a ∧ a ≤ 500) ∧ (0 ≤ g ∧ g ≤ 100) from ⟨h1, h2, h3⟩), w64 (x := l + g) (by omega) (by omega), w64 (x := a + g) (by omega) (by omega), if_neg (by omega), tdiv_pos (by omega)]
        have h4 : 0 ≤ (l + g) / (a + g) := Int.ediv_nonneg (by omega) (by omega)
        have h5 : (l + g) / (a + g) ≤ l + g := Int.ediv_le_self _ (by omega)
        rw [w64 (by omega) (by omega)]
      · rw [if_pos h1, if_pos h2, if_neg h3, if_neg (show ¬ ((1 ≤ l ∧ l ≤ 1000) ∧ (1 ≤ a ∧ a ≤ 500) ∧ (0 ≤ g ∧ g ≤ 100)) from fun h => h3 h.2.2)]
    · rw [if_pos h1, if_neg h2, if_neg (show ¬ ((1 ≤ l ∧ l ≤ 1000) ∧ (1 ≤ a ∧ a ≤ 500) ∧ (0 ≤ g ∧ g ≤ 100)) from fun h => h2 h.2.1)]
  · rw [if_neg h1, if_neg (show ¬ ((1 ≤ l ∧ l ≤ 1000) ∧ (1 ≤ a ∧ a ≤ 500) ∧ (0 ≤ g ∧ g ≤ 100)) from fun h => h1 h.1)]
def placesV (l a g : Int) : List Int := (List.range (rowsV l a g).toNat).map fun (i : Nat) => (i : Int) * (a + g)
theorem placesV_len (l a g : Int) : (placesV l a g).length ≤ 1100 := by
  unfold placesV
  have := rowsV_le l a g
  simp
  omega
theorem rows_range (l a g : Int) (h : 0 ≤ rowsV l a g) : (1 ≤ l ∧ l ≤ 1000) ∧ (1 ≤ a ∧ a ≤ 500) ∧ (0 ≤ g ∧ g ≤ 100) := by
  unfold rowsV at h
  split at h
  · assumption
  · omega
theorem place_bd (a g : Int) (i : Nat) (h1 : 1 ≤ a ∧ a ≤ 500) (h2 : 0 ≤ g ∧ g ≤ 100) (h3 : i ≤ 1100) : 0 ≤ (i : Int) * (a + g) ∧ (i : Int) * (a + g) ≤ 1100 * 600 :=
  ⟨Int.mul_nonneg (by omega) (by omega), Int.mul_le_mul (by omega) (by omega) (by omega) (by omega)⟩
theorem placesI (l a g : Int) : Ev (fun k => impl_PlacesOf.f k l a g) (placesV l a g) := by
  unfold impl_PlacesOf.f
  simp only [rowsI, Option.bind_some]
  have hb := rowsV_le l a g
  by_cases c : rowsV l a g < 0
  · simp only [if_pos c]
    refine ev_const ?_
    unfold placesV
    rw [show (rowsV l a g).toNat = 0 by omega]
    rfl
  · simp only [if_neg c]
    obtain ⟨r1, r2, r3⟩ := rows_range l a g (by omega)
    refine ev_build (fun k s i => impl_PlacesOf.l0 k a g s (rowsV l a g) i) (rowsV l a g).toNat (fun (i : Nat) => (i : Int) * (a + g)) (fun k s i hi hs => ?_) (fun k s => ?_)
    · have hp := place_bd a g i r2 r3 (by omega)
      simp only [impl_PlacesOf.l0]
      rw [if_pos (by omega), if_pos (by omega), w64 (x := a + g) (by omega) (by omega), w64 (x := (i : Int) * (a + g)) (by omega) (by omega), w64 (by omega) (by omega)]
    · simp only [impl_PlacesOf.l0]
      rw [if_neg (by omega)]
theorem mul_bd {x y : Int} (h1 : 0 ≤ x) (h2 : x ≤ 1100) (h3 : 0 ≤ y) (h4 : y ≤ 1100) : 0 ≤ x * y ∧ x * y ≤ 1210000 :=
  ⟨Int.mul_nonneg h1 h3, by have := Int.mul_le_mul h2 h4 h3 (by omega); omega⟩
/-- How many loaves stand on a tray. -/
def trayV (l w a b g : Int) : Int :=
  if rowsV l a g < 0 ∨ rowsV w b g < 0 ∨ rowsV l b g < 0 ∨ rowsV w a g < 0 then -1 else max (rowsV l a g * rowsV w b g) (rowsV l b g * rowsV w a g)
theorem trayV_le (l w a b g : Int) : -1 ≤ trayV l w a b g ∧ trayV l w a b g ≤ 1210000 := by
  unfold trayV
  split
  · omega
  · rename_i h
    have h1 := rowsV_le l a g
    have h2 := rowsV_le w b g
    have h3 := rowsV_le l b g
    have h4 := rowsV_le w a g
    have h5 := mul_bd (x := rowsV l a g) (y := rowsV w b g) (by omega) (by omega) (by omega) (by omega)
    have h6 := mul_bd (x := rowsV l b g) (y := rowsV w a g) (by omega) (by omega) (by omega) (by omega)
    generalize rowsV l a g * rowsV w b g = x at *
    generalize rowsV l b g * rowsV w a g = y at *
    omega
theorem trayI (l w a b g : Int) : impl_OnTray.f l w a b g = some (trayV l w a b g) := by
  unfold impl_OnTray.f trayV
  simp only [rowsI, Option.bind_some, mn_eq]
  have h1 := rowsV_le l a g
  have h2 := rowsV_le w b g
  have h3 := rowsV_le l b g
  have h4 := rowsV_le w a g
  by_cases c : rowsV l a g < 0 ∨ rowsV w b g < 0 ∨ rowsV l b g < 0 ∨ rowsV w a g < 0
  · rw [if_pos (by omega), if_pos c]
  · rw [if_neg (by omega), if_neg c]
    have h5 := mul_bd (x := rowsV l a g) (y := rowsV w b g) (by omega) (by omega) (by omega) (by omega)
    have h6 := mul_bd (x := rowsV l b g) (y := rowsV w a g) (by omega) (by omega) (by omega) (by omega)
    rw [w64 (by omega) (by omega), w64 (by omega) (by omega), mx_eq]
def traysV (n l w a b g : Int) : Int :=
  if trayV l w a b g ≤ 0 then -1 else if 0 ≤ n ∧ n ≤ 10000 then (n + trayV l w a b g - 1) / trayV l w a b g else -1
theorem traysI (n l w a b g : Int) : impl_TraysFor.f n l w a b g = some (traysV n l w a b g) := by
  unfold impl_TraysFor.f traysV impl_up.f
  simp only [trayI, in_f, Option.bind_some, decide_eq_true_eq]
  have h1 := trayV_le l w a b g
  by_cases c : trayV l w a b g ≤ 0
  · rw [if_pos c, if_pos c]
  · rw [if_neg c, if_neg c]
    by_cases c2 : 0 ≤ n ∧ n ≤ 10000
    · rw [if_pos c2, if_pos c2, if_neg (by omega), w64 (x := n + _) (by omega) (by omega), w64 (x := n + _ - 1) (by omega) (by omega), tdiv_pos (by omega)]
      have h4 : 0 ≤ (n + trayV l w a b g - 1) / trayV l w a b g := Int.ediv_nonneg (by omega) (by omega)
      have h5 : (n + trayV l w a b g - 1) / trayV l w a b g ≤ n + trayV l w a b g - 1 := Int.ediv_le_self _ (by omega)
      rw [w64 (by omega) (by omega)]
      rfl
    · rw [if_neg c2, if_neg c2]
/-- The widest gap, from g gaps on downward. -/
def gapV (l a n : Int) : Nat → Int
  | 0 => -1
  | g + 1 => if 0 ≤ rowsV l a g ∧ n ≤ rowsV l a g then g else gapV l a n g
theorem gapI_l (l a n : Int) (g : Nat) (hg : g ≤ 101) : Ev (fun k => impl_WidestGap.l0 k l a n ((g : Int) - 1)) (gapV l a n g) := by
  induction g with
  | zero => exact ev_now fun k => by simp only [impl_WidestGap.l0]; rw [if_neg (by omega)]; rfl
  | succ g ih =>
    have ih := ih (by omega)
    have e : ((g + 1 : Nat) : Int) - 1 = (g : Int) := by omega
    rw [e]
    unfold gapV
    by_cases c : 0 ≤ rowsV l a g ∧ n ≤ rowsV l a g
    · rw [if_pos c]
      exact ev_now fun k => by
        simp only [impl_WidestGap.l0, rowsI, Option.bind_some]
        rw [if_pos (by omega), if_pos (by omega), if_pos (by omega)]
    · rw [if_neg c]
      refine ev_next (fun k => ?_) _ ih
      simp only [impl_WidestGap.l0, rowsI, Option.bind_some]
      rw [if_pos (by omega), w64 (by omega) (by omega)]
      by_cases c1 : rowsV l a g ≥ 0
      · rw [if_pos c1, if_neg (by omega)]
      · rw [if_neg c1]
theorem gapI (l a n : Int) : Ev (fun k => impl_WidestGap.f k l a n) (if 0 ≤ n ∧ n ≤ 1000 then gapV l a n 101 else -1) := by
  unfold impl_WidestGap.f
  simp only [in_f, Option.bind_some, decide_eq_true_eq]
  by_cases c : 0 ≤ n ∧ n ≤ 1000
  · simp only [if_pos c]
    exact gapI_l l a n 101 (Nat.le_refl _)
  · simp only [if_neg c]
    exact ev_const rfl
theorem at_f (l : List Int) (hw : ∀ x ∈ l, (Lit.int .u8 x).wf = true) (hl : l.length ≤ 140737488351232) (i : Int) (h0 : 0 ≤ i) (h1 : i ≤ 1000) : ∃ v, laws_at.f l i = some v ∧ 0 ≤ v ∧ v ≤ 255 := by
  unfold laws_at.f
  by_cases c : (l.length : Int) = 0
  · exact ⟨0, by rw [if_pos c], by omega, by omega⟩
  · rw [if_neg c, w64 (x := i * 5) (by omega) (by omega), w64 (x := i * 5 + 1) (by omega) (by omega), tmod_pos (by omega)]
    have hm : 0 ≤ (i * 5 + 1) % (l.length : Int) := Int.emod_nonneg _ c
    have hn : (i * 5 + 1) % (l.length : Int) < (l.length : Int) := Int.emod_lt_of_pos _ (by omega)
    rw [if_pos hm, if_pos hn]
    obtain ⟨j, hj⟩ := Int.eq_ofNat_of_zero_le hm
    rw [hj] at hn ⊢
    have hx := (u8_iff _).1 (hw _ (List.getElem_mem (show j < l.length by omega)))
    rw [rd_get _ _ (by omega), w64 (by omega) (by omega)]
    exact ⟨_, rfl, hx.1, hx.2⟩
theorem big_f (l : List Int) : laws_big.f l = some (decide ((l.length : Int) > 1048576)) := rfl
theorem rows_spec (l a g : Int) (h1 : 1 ≤ l ∧ l ≤ 1000) (h2 : 1 ≤ a ∧ a ≤ 500) (h3 : 0 ≤ g ∧ g ≤ 100) :
    0 ≤ rowsV l a g ∧ rowsV l a g * a + rowsV l a g * g ≤ l + g ∧ l < rowsV l a g * a + rowsV l a g * g + a := by
  unfold rowsV
  rw [if_pos ⟨h1, h2, h3⟩]
  have e1 := Int.emod_nonneg (l + g) (show a + g ≠ 0 by omega)
  have e2 := Int.emod_lt_of_pos (l + g) (show 0 < a + g by omega)
  have e3 := Int.mul_ediv_add_emod (l + g) (a + g)
  have e4 : (l + g) / (a + g) * a + (l + g) / (a + g) * g = (a + g) * ((l + g) / (a + g)) := by rw [← Int.mul_add, Int.mul_comm]
  refine ⟨Int.ediv_nonneg (by omega) (by omega), ?_, ?_⟩
  · omega
  · omega
theorem gap_spec (l a n : Int) (G : Nat) : (gapV l a n G = -1 ∧ ∀ g : Nat, g < G → ¬ (0 ≤ rowsV l a g ∧ n ≤ rowsV l a g)) ∨ ∃ g : Nat, g < G ∧ gapV l a n G = g ∧ (0 ≤ rowsV l a g ∧ n ≤ rowsV l a g) ∧ ∀ h : Nat, g < h → h < G → ¬ (0 ≤ rowsV l a h ∧ n ≤ rowsV l a h) := by
  induction G with
  | zero => exact .inl ⟨rfl, fun g hg => absurd hg (by omega)⟩
  | succ G ih =>
    by_cases c : 0 ≤ rowsV l a G ∧ n ≤ rowsV l a G
    · refine .inr ⟨G, by omega, ?_, c, fun h h1 h2 => absurd h1 (by omega)⟩
      unfold gapV
      rw [if_pos c]
    · have e : gapV l a n (G + 1) = gapV l a n G := by
        show (if _ then _ else _) = _
        rw [if_neg c]
      rw [e]
      rcases ih with ⟨h1, h2⟩ | ⟨g, h1, h2, h3, h4⟩
      · refine .inl ⟨h1, fun g hg => ?_⟩
        by_cases d : g = G
        · subst d; exact c
        · exact h2 g (by omega)
      · refine .inr ⟨g, by omega, h2, h3, fun h i1 i2 => ?_⟩
        by_cases d : h = G
        · subst d; exact c
        · exact h4 h i1 (by omega)
theorem last_f (l a : Int) (hl : 1 ≤ l ∧ l ≤ 1000) (ha : 1 ≤ a ∧ a ≤ 300) : Ev (fun k => laws_FnTrays.j2 k l a false) true := by
  have hg := gapI l a 3
  rw [if_pos (by omega)] at hg
  have h0 := rows_spec l a 0 hl (by omega) (by omega)
  have h80 : rowsV 80 20 10 = 3 := by decide
  have e : Ev (fun k => (impl_WidestGap.f k l a 3).bind fun t141 => (if t141 < 0 then (if ((decide (t141 ≥ 0)) == (decide ((wrap64 (3 * a)) ≤ l))) = true then ((impl_RowsFor.f 80 20 10).bind fun t142 => (some (t142 == 3))) else (some false)) else ((impl_RowsFor.f l a t141).bind fun t143 => (if t143 ≥ 3 then (if t141 = 100 then (if ((decide (t141 ≥ 0)) == (decide ((wrap64 (3 * a)) ≤ l))) = true then ((impl_RowsFor.f 80 20 10).bind fun t144 => (some (t144 == 3))) else (some false)) else ((impl_RowsFor.f l a (wrap64 (t141 + 1))).bind fun t145 => (if t145 < 3 then (if ((decide (t141 ≥ 0)) == (decide ((wrap64 (3 * a)) ≤ l))) = true then ((impl_RowsFor.f 80 20 10).bind fun t146 => (some (t146 == 3))) else (some false)) else (some false)))) else (some false))))) true := by
    refine Ev.bind hg ?_
    refine ev_const ?_
    rw [w64 (x := 3 * a) (by omega) (by omega)]
    simp only [rowsI, Option.bind_some, h80]
    rcases gap_spec l a 3 101 with ⟨h1, h2⟩ | ⟨g, h1, h2, h3, h4⟩
    · rw [h1]
      have := h2 0 (by omega)
      rw [Int.natCast_zero] at this
      generalize rowsV l a 0 = z at *
      have : ¬ 3 * a ≤ l := by
        intro hc
        have : z < 3 := by omega
        have : z ≤ 2 := by omega
        have : z * a ≤ 2 * a := Int.mul_le_mul_of_nonneg_right this (by omega)
        omega
      simp [this]
    · rw [h2, if_neg (by omega), if_pos h3.2]
      have hgs := rows_spec l a g hl (by omega) (by omega)
      have h5 : 3 * a ≤ l := by
        have q1 : 3 * a ≤ rowsV l a g * a := Int.mul_le_mul_of_nonneg_right h3.2 (by omega)
        have q2 : 3 * (g : Int) ≤ rowsV l a g * g := Int.mul_le_mul_of_nonneg_right h3.2 (by omega)
        omega
      have h6 : (g : Int) ≥ 0 := by omega
      by_cases c : (g : Int) = 100
      · rw [if_pos c]
        simp [h5, h6]
      · rw [if_neg c, w64 (by omega) (by omega)]
        have h7 := h4 (g + 1) (by omega) (by omega)
        have h8 := rows_spec l a (g + 1) hl (by omega) (by omega)
        rw [show ((g + 1 : Nat) : Int) = (g : Int) + 1 by omega] at h7
        rw [if_pos (by omega)]
        simp [h5, h6]
  refine ev_next (fun k => ?_) _ e
  simp only [laws_FnTrays.j2]
  rw [if_neg (by decide)]
theorem FnTrays (l : List Int) (_ : l.length ≤ maxLen) (hb : l.length * 1 ≤ 140737488351232) (hw : ∀ x ∈ l, (Lit.int .u8 x).wf = true) : ∃ k, laws_FnTrays.f k l = some true := by
  refine Ev.rounds ?_
  unfold laws_FnTrays.f
  simp only [big_f, Option.bind_some, decide_eq_true_eq]
  by_cases c : (l.length : Int) > 1048576
  · simp only [if_pos c]
    exact Ev.now _
  · simp only [if_neg c]
    obtain ⟨a0, ha0, b0, c0⟩ := at_f l hw (by omega) 0 (by omega) (by omega)
    obtain ⟨a1, ha1, b1, c1⟩ := at_f l hw (by omega) 1 (by omega) (by omega)
    obtain ⟨a2, ha2, b2, c2⟩ := at_f l hw (by omega) 2 (by omega) (by omega)
    obtain ⟨a3, ha3, b3, c3⟩ := at_f l hw (by omega) 3 (by omega) (by omega)
    obtain ⟨a4, ha4, b4, c4⟩ := at_f l hw (by omega) 4 (by omega) (by omega)
    obtain ⟨a5, ha5, b5, c5⟩ := at_f l hw (by omega) 5 (by omega) (by omega)
    simp only [ha0, ha1, ha2, Option.bind_some]
    rw [tmod_pos b1, tmod_pos b2, w64 (x := a0 * 3) (by omega) (by omega), w64 (x := 1 + a0 * 3) (by omega) (by omega), w64 (x := 1 + a1 % 60) (by omega) (by omega)]
    obtain ⟨L, hL⟩ : ∃ L, L = 1 + a0 * 3 := ⟨_, rfl⟩
    obtain ⟨A, hA⟩ : ∃ A, A = 1 + a1 % 60 := ⟨_, rfl⟩
    obtain ⟨G, hG⟩ : ∃ G, G = a2 % 20 := ⟨_, rfl⟩
    rw [← hL, ← hA, ← hG]
    have rL : 1 ≤ L ∧ L ≤ 766 := by omega
    have rA : 1 ≤ A ∧ A ≤ 60 := by omega
    have rG : 0 ≤ G ∧ G < 20 := by omega
    simp only [rowsI, Option.bind_some]
    refine Ev.bind (placesI L A G) ?_
    have hs := rows_spec L A G (by omega) (by omega) (by omega)
    have hn := rowsV_le L A G
    have hlen : (placesV L A G).length = (rowsV L A G).toNat := by simp [placesV]
    have m1 : (rowsV L A G - 1) * G = rowsV L A G * G - G := by rw [Int.sub_mul, Int.one_mul]
    have m2 : (rowsV L A G + 1) * A = rowsV L A G * A + A := by rw [Int.add_mul, Int.one_mul]
    have n1 := Int.mul_nonneg hs.1 (show 0 ≤ A by omega)
    have n2 := Int.mul_nonneg hs.1 (show 0 ≤ G by omega)
    have key : Ev (fun k => laws_FnTrays.j0 k l L A G (rowsV L A G) (placesV L A G) false) true := by
      have e : Ev (fun k => laws_FnTrays.l0 k l L A G (rowsV L A G) (placesV L A G) 0) true := by
        obtain ⟨N, hN⟩ := Int.eq_ofNat_of_zero_le hs.1
        refine ev_to (fun k (_ : Unit) i => laws_FnTrays.l0 k l L A G (rowsV L A G) (placesV L A G) i) N (fun i _ => True) true (fun i _ hi _ => .inl ⟨(), trivial, fun r hr => ev_next (fun k => ?_) r hr⟩) (fun _ _ => ?_) 0 () (by omega) trivial
        · have hi' : (i : Int) < rowsV L A G := by omega
          have hil : i < (placesV L A G).length := by omega
          have gi : (placesV L A G)[i] = (i : Int) * (A + G) := by simp [placesV]
          have k1 : 0 ≤ (i : Int) * (A + G) := Int.mul_nonneg (by omega) (by omega)
          have k2 : (i : Int) * (A + G) ≤ (rowsV L A G - 1) * (A + G) := Int.mul_le_mul_of_nonneg_right (by omega) (by omega)
          have k3 : (rowsV L A G - 1) * (A + G) = rowsV L A G * A + rowsV L A G * G - A - G := by rw [Int.sub_mul, Int.one_mul, Int.mul_add]; omega
          simp only [laws_FnTrays.l0]
          rw [if_pos hi', if_pos (by omega), if_pos (by omega), rd_get _ _ hil, gi, if_neg (by omega), w64 (x := (i : Int) * (A + G) + A) (by omega) (by omega), if_neg (by omega), w64 (x := (i : Int) + 1) (by omega) (by omega)]
          by_cases cz : (i : Int) > 0
          · have e1 : (i : Int) - 1 = ((i - 1 : Nat) : Int) := by omega
            have hjl : i - 1 < (placesV L A G).length := by omega
            have gj : (placesV L A G)[i - 1] = (i : Int) * (A + G) - (A + G) := by
              have : (placesV L A G)[i - 1] = ((i - 1 : Nat) : Int) * (A + G) := by simp [placesV]
              rw [this, ← e1, Int.sub_mul, Int.one_mul]
            rw [if_pos cz, w64 (x := (i : Int) - 1) (by omega) (by omega), if_pos (by omega), if_pos (by omega), e1, rd_get _ _ hjl, gj, w64 (x := (i : Int) * (A + G) - _) (by omega) (by omega), w64 (x := A + G) (by omega) (by omega), if_pos (by omega)]
          · rw [if_neg cz]
        · have hN' : ¬ (N : Int) < rowsV L A G := by omega
          obtain ⟨W, hW⟩ : ∃ W, W = 1 + a3 := ⟨_, rfl⟩
          obtain ⟨B, hB⟩ : ∃ B, B = 1 + a4 % 40 := ⟨_, rfl⟩
          have sAB := rows_spec W B G (by omega) (by omega) (by omega)
          have sLB := rows_spec L B G (by omega) (by omega) (by omega)
          have sWA := rows_spec W A G (by omega) (by omega) (by omega)
          have lAB := rowsV_le W B G
          have lLB := rowsV_le L B G
          have lWA := rowsV_le W A G
          have ht := trayV_le L W A B G
          have q1 : trayV L W A B G = max (rowsV L A G * rowsV W B G) (rowsV L B G * rowsV W A G) := by
            unfold trayV; rw [if_neg (by omega)]
          have q2 : trayV W L A B G = max (rowsV L A G * rowsV W B G) (rowsV L B G * rowsV W A G) := by
            unfold trayV; rw [if_neg (by omega), Int.mul_comm (rowsV W A G), Int.mul_comm (rowsV W B G)]; omega
          have q3 : trayV L W B A G = max (rowsV L A G * rowsV W B G) (rowsV L B G * rowsV W A G) := by
            unfold trayV; rw [if_neg (by omega)]; omega
          have p1 := mul_bd (x := rowsV L A G) (y := rowsV W B G) (by omega) (by omega) (by omega) (by omega)
          refine ev_next (fun k => ?_) _ (last_f L A (by omega) (by omega))
          simp only [laws_FnTrays.l0, ha3, ha4, ha5, Option.bind_some]
          rw [if_neg hN', tmod_pos b4, w64 (x := 1 + a3) (by omega) (by omega), w64 (x := 1 + a4 % 40) (by omega) (by omega), ← hW, ← hB]
          simp only [trayI, traysI, rowsI, Option.bind_some, mx_eq]
          rw [if_neg (by omega), if_pos (by omega), if_pos (by omega), w64 (x := rowsV L A G * _) (by omega) (by omega), if_neg (by omega)]
          unfold traysV
          generalize trayV L W A B G = T at *
          by_cases cT : T ≤ 0
          · rw [if_pos cT]
            have d1 : ¬ T > 0 := by omega
            simp [d1]
          · rw [if_neg cT, if_pos (show 0 ≤ a5 ∧ a5 ≤ 10000 by omega)]
            have e1 := Int.emod_nonneg (a5 + T - 1) (show T ≠ 0 by omega)
            have e2 := Int.emod_lt_of_pos (a5 + T - 1) (show 0 < T by omega)
            have e3 := Int.mul_ediv_add_emod (a5 + T - 1) T
            rw [Int.mul_comm] at e3
            have e4 : 0 ≤ (a5 + T - 1) / T := Int.ediv_nonneg (by omega) (by omega)
            have e5 : (a5 + T - 1) / T ≤ a5 + T - 1 := Int.ediv_le_self _ (by omega)
            generalize (a5 + T - 1) / T = K at *
            have e6 : (K - 1) * T = K * T - T := by rw [Int.sub_mul, Int.one_mul]
            have d1 : T > 0 := by omega
            have d2 : K ≥ 0 := e4
            rw [if_neg (show ¬ ((decide (K ≥ 0)) != (decide (T > 0))) = true by simp [d1, d2]), if_pos d2, w64 (x := K * T) (by omega) (by omega), if_neg (show ¬ K * T < a5 by omega), w64 (x := K - 1) (by omega) (by omega), e6, w64 (by omega) (by omega), decide_eq_false (by omega)]
      refine ev_next (fun k => ?_) _ e
      simp only [laws_FnTrays.j0]
      rw [if_neg (by decide)]
    have hne : (((placesV L A G).length : Int) != rowsV L A G) = false := by
      have : ((placesV L A G).length : Int) = rowsV L A G := by omega
      simp [this]
    rw [hne, w64 (x := rowsV L A G * A) (by omega) (by omega), w64 (x := rowsV L A G - 1) (by omega) (by omega), m1, w64 (x := rowsV L A G * G - G) (by omega) (by omega), w64 (x := rowsV L A G * A + _) (by omega) (by omega), w64 (x := rowsV L A G + 1) (by omega) (by omega), m2, w64 (x := rowsV L A G * A + A) (by omega) (by omega), w64 (x := rowsV L A G * G) (by omega) (by omega), w64 (x := rowsV L A G * A + A + _) (by omega) (by omega)]
    simp only [if_neg (show ¬ rowsV L A G < 0 by omega), if_neg (show ¬ rowsV L A G * A + (rowsV L A G * G - G) > L by omega), if_neg (show ¬ rowsV L A G * A + A + rowsV L A G * G ≤ L by omega), ite_self]
    exact key
end Go.Proofs.Ytnhkneicepmiiaa.Pure
