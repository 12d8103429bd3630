/- What the Go functions that the law FnPairs reaches compute, each as a plain function, and that the machine's calls come to just that. No condition. -/
import Derived.Test.YtdglbjekpbdmoaaPFnPairsx0
import Derived.Test.YtdglbjekpbdmoaaPFnPairsx1
import Derived.Test.YtdglbjekpbdmoaaPFnPairsx2
import Derived.Test.YtdglbjekpbdmoaaPFnPairsx3
namespace Go.Proofs.Ytdglbjekpbdmoaa.PFnPairs
open Go.RowKit Go.Proofs.YtdglbjekpbdmoaaW.PrintWords Go.Proofs.YtdglbjekpbdmoaaW.PrintLast Go.Proofs.YtdglbjekpbdmoaaW.PrintMore
attribute [local go_sem] max2_int min2_int max_two min_two max_three min_three max_four min_four   -- for this text's walks alone
set_option linter.unusedVariables false
set_option linter.unusedSimpArgs false

/-! ### laws_FnPairs: function 8 -/
mutual
def laws_FnPairs.j0 : Nat → List (S25) → List Int → List Int → Bool → Option (Bool)
  | 0, _, _, _, _ => none
  | k + 1, x3, x4, x5, x44 => if x44 = true then (some false) else (laws_FnPairs.l0 k x3 x4 x5 0)
def laws_FnPairs.l0 : Nat → List (S25) → List Int → List Int → Int → Option (Bool)
  | 0, _, _, _, _ => none
  | k + 1, x3, x4, x5, x6 => if x6 < (x5.length : Int) then (if 0 ≤ x6 then (if (rd x5 x6) < 0 then (laws_FnPairs.j2 k x3 x4 x5 x6 true) else (if (rd x5 x6) ≥ (x3.length : Int) then (laws_FnPairs.j2 k x3 x4 x5 x6 true) else (if x6 < (x4.length : Int) then (if 0 ≤ (rd x5 x6) then (if (rd x5 x6) < (x3.length : Int) then (if (rd x4 x6) = ((rd_T25 x3 (rd x5 x6)).f1) then (if x6 > 0 then (if 0 ≤ (wrap64 (x6 - 1)) then (if (wrap64 (x6 - 1)) < (x4.length : Int) then (laws_FnPairs.j2 k x3 x4 x5 x6 (decide ((rd x4 x6) ≤ (rd x4 (wrap64 (x6 - 1)))))) else (none)) else (none)) else (laws_FnPairs.j2 k x3 x4 x5 x6 false)) else (laws_FnPairs.j2 k x3 x4 x5 x6 true)) else (none)) else (none)) else (none)))) else (none)) else (laws_FnPairs.l2 k x3 x4 0)
def laws_FnPairs.j2 : Nat → List (S25) → List Int → List Int → Int → Bool → Option (Bool)
  | 0, _, _, _, _, _ => none
  | k + 1, x3, x4, x5, x6, x95 => if x95 = true then (some false) else (laws_FnPairs.l1 k x3 x4 x5 x6 0)
def laws_FnPairs.l1 : Nat → List (S25) → List Int → List Int → Int → Int → Option (Bool)
  | 0, _, _, _, _, _ => none
  | k + 1, x3, x4, x5, x6, x7 => if x7 < x6 then (if 0 ≤ x6 then (if x6 < (x5.length : Int) then (if 0 ≤ (rd x5 x6) then (if (rd x5 x6) < (x3.length : Int) then (if 0 ≤ x7 then (if x7 < (x5.length : Int) then (if 0 ≤ (rd x5 x7) then (if (rd x5 x7) < (x3.length : Int) then ((impl_CanShare.f k ((rd_T25 x3 (rd x5 x6)).f0) ((rd_T25 x3 (rd x5 x6)).f1) ((rd_T25 x3 (rd x5 x6)).f2) ((rd_T25 x3 (rd x5 x7)).f0) ((rd_T25 x3 (rd x5 x7)).f1) ((rd_T25 x3 (rd x5 x7)).f2)).bind fun t203 => (if t203 = true then (some false) else (laws_FnPairs.l1 k x3 x4 x5 x6 (wrap64 (x7 + 1))))) else (none)) else (none)) else (none)) else (none)) else (none)) else (none)) else (none)) else (none)) else (laws_FnPairs.l0 k x3 x4 x5 (wrap64 (x6 + 1)))
def laws_FnPairs.l2 : Nat → List (S25) → List Int → Int → Option (Bool)
  | 0, _, _, _ => none
  | k + 1, x3, x4, x8 => if x8 < (x3.length : Int) then (laws_FnPairs.l3 k x3 x4 x8 false 0) else ((impl_CommonHeat.f k x3).bind fun bt213 => (if (bt213.2.2 != ((x4.length : Int) == 1)) = true then (laws_FnPairs.j6 k x3 bt213.1 bt213.2.1 bt213.2.2 true) else (if bt213.2.2 = true then (laws_FnPairs.j6 k x3 bt213.1 bt213.2.1 bt213.2.2 (decide (bt213.1 > bt213.2.1))) else (laws_FnPairs.j6 k x3 bt213.1 bt213.2.1 bt213.2.2 false))))
def laws_FnPairs.l3 : Nat → List (S25) → List Int → Int → Bool → Int → Option (Bool)
  | 0, _, _, _, _, _ => none
  | k + 1, x3, x4, x8, x9, x10 => if x10 < (x4.length : Int) then (if x9 = true then (laws_FnPairs.l3 k x3 x4 x8 true (wrap64 (x10 + 1))) else (if 0 ≤ x8 then (if x8 < (x3.length : Int) then (if 0 ≤ x10 then (if ((rd_T25 x3 x8).f0) ≤ (rd x4 x10) then (laws_FnPairs.l3 k x3 x4 x8 (decide ((rd x4 x10) ≤ ((rd_T25 x3 x8).f1))) (wrap64 (x10 + 1))) else (laws_FnPairs.l3 k x3 x4 x8 false (wrap64 (x10 + 1)))) else (none)) else (none)) else (none))) else (if x9 = true then (if 0 ≤ x8 then (if x8 < (x3.length : Int) then ((impl_BreadOk.f ((rd_T25 x3 x8).f0) ((rd_T25 x3 x8).f1) ((rd_T25 x3 x8).f2)).bind fun t209 => (if t209 = true then ((impl_CanShare.f k ((rd_T25 x3 x8).f0) ((rd_T25 x3 x8).f1) ((rd_T25 x3 x8).f2) ((rd_T25 x3 x8).f0) ((rd_T25 x3 x8).f1) ((rd_T25 x3 x8).f2)).bind fun t212 => (if t212 = true then (laws_FnPairs.l2 k x3 x4 (wrap64 (x8 + 1))) else (some false))) else (some false))) else (none)) else (none)) else (some false))
def laws_FnPairs.j6 : Nat → List (S25) → Int → Int → Bool → Bool → Option (Bool)
  | 0, _, _, _, _, _ => none
  | k + 1, x3, x11, x12, x13, x193 => if x193 = true then (some false) else (laws_FnPairs.l4 k x3 x11 x12 x13 0)
def laws_FnPairs.l4 : Nat → List (S25) → Int → Int → Bool → Int → Option (Bool)
  | 0, _, _, _, _, _ => none
  | k + 1, x3, x11, x12, x13, x14 => if x14 < (x3.length : Int) then (laws_FnPairs.j8 k x3 x11 x12 x13 x14 x13) else (laws_FnPairs.j8 k x3 x11 x12 x13 x14 false)
def laws_FnPairs.j8 : Nat → List (S25) → Int → Int → Bool → Int → Bool → Option (Bool)
  | 0, _, _, _, _, _, _ => none
  | k + 1, x3, x11, x12, x13, x14, x200 => if x200 = true then (if 0 ≤ x14 then (if x14 < (x3.length : Int) then (if x11 < ((rd_T25 x3 x14).f0) then (some false) else (if x12 > ((rd_T25 x3 x14).f1) then (some false) else (laws_FnPairs.l4 k x3 x11 x12 x13 (wrap64 (x14 + 1))))) else (none)) else (none)) else ((impl_LongestShared.f k x3).bind fun t218 => (laws_FnPairs.l5 k x3 x13 t218 0 0 0))
def laws_FnPairs.l5 : Nat → List (S25) → Bool → Int → Int → Int → Int → Option (Bool)
  | 0, _, _, _, _, _, _ => none
  | k + 1, x3, x13, x15, x16, x17, x18 => if x18 < (x3.length : Int) then (if 0 ≤ x18 then (laws_FnPairs.l5 k x3 x13 x15 (wrap64 (x16 + ((rd_T25 x3 x18).f2))) (mx x17 ((rd_T25 x3 x18).f2)) (wrap64 (x18 + 1))) else (none)) else (if x15 ≥ 0 then (if x15 ≤ (wrap64 (x16 - x17)) then (if x13 = true then (some (x15 == (wrap64 (x16 - x17)))) else (some true)) else (some false)) else (some false))
end
def laws_FnPairs.f (k : Nat) (l0 : List Int) : Option (Bool) := (laws_big.f l0).bind fun t181 => (if t181 = true then (some true) else ((spec_DrawBreads.f k l0).bind fun t182 => ((impl_FewestHeats.f k t182).bind fun t185 => ((impl_ApartBreads.f k t182).bind fun t188 => ((impl_LongestShared.f k ([] : List (S25))).bind fun t191 => (if t191 = 0 then (if (t185.length : Int) = (t188.length : Int) then (laws_FnPairs.j0 k t182 t185 t188 (((t185.length : Int) == 0) != ((t182.length : Int) == 0))) else (laws_FnPairs.j0 k t182 t185 t188 true)) else (laws_FnPairs.j0 k t182 t185 t188 true)))))))
theorem laws_FnPairs.j0_no {k : Nat} {u0 : List (S25)} {u1 : List Int} {u2 : List Int} {r : Bool} (h : laws_FnPairs.j0 k u0 u1 u2 true = some r) (h2 : r = true) : False := by
  subst h2
  cases k <;> simp [laws_FnPairs.j0] at h
theorem laws_FnPairs.j2_no {k : Nat} {u0 : List (S25)} {u1 : List Int} {u2 : List Int} {u3 : Int} {r : Bool} (h : laws_FnPairs.j2 k u0 u1 u2 u3 true = some r) (h2 : r = true) : False := by
  subst h2
  cases k <;> simp [laws_FnPairs.j2] at h
theorem laws_FnPairs.j6_no {k : Nat} {u0 : List (S25)} {u1 : Int} {u2 : Int} {u3 : Bool} {r : Bool} (h : laws_FnPairs.j6 k u0 u1 u2 u3 true = some r) (h2 : r = true) : False := by
  subst h2
  cases k <;> simp [laws_FnPairs.j6] at h
theorem laws_FnPairs.mono_l : ∀ k, (∀ y0 y1 y2 y3, LeO (laws_FnPairs.j0 k y0 y1 y2 y3) (laws_FnPairs.j0 (k + 1) y0 y1 y2 y3)) ∧ (∀ y0 y1 y2 y3, LeO (laws_FnPairs.l0 k y0 y1 y2 y3) (laws_FnPairs.l0 (k + 1) y0 y1 y2 y3)) ∧ (∀ y0 y1 y2 y3 y4, LeO (laws_FnPairs.j2 k y0 y1 y2 y3 y4) (laws_FnPairs.j2 (k + 1) y0 y1 y2 y3 y4)) ∧ (∀ y0 y1 y2 y3 y4, LeO (laws_FnPairs.l1 k y0 y1 y2 y3 y4) (laws_FnPairs.l1 (k + 1) y0 y1 y2 y3 y4)) ∧ (∀ y0 y1 y2, LeO (laws_FnPairs.l2 k y0 y1 y2) (laws_FnPairs.l2 (k + 1) y0 y1 y2)) ∧ (∀ y0 y1 y2 y3 y4, LeO (laws_FnPairs.l3 k y0 y1 y2 y3 y4) (laws_FnPairs.l3 (k + 1) y0 y1 y2 y3 y4)) ∧ (∀ y0 y1 y2 y3 y4, LeO (laws_FnPairs.j6 k y0 y1 y2 y3 y4) (laws_FnPairs.j6 (k + 1) y0 y1 y2 y3 y4)) ∧ (∀ y0 y1 y2 y3 y4, LeO (laws_FnPairs.l4 k y0 y1 y2 y3 y4) (laws_FnPairs.l4 (k + 1) y0 y1 y2 y3 y4)) ∧ (∀ y0 y1 y2 y3 y4 y5, LeO (laws_FnPairs.j8 k y0 y1 y2 y3 y4 y5) (laws_FnPairs.j8 (k + 1) y0 y1 y2 y3 y4 y5)) ∧ (∀ y0 y1 y2 y3 y4 y5, LeO (laws_FnPairs.l5 k y0 y1 y2 y3 y4 y5) (laws_FnPairs.l5 (k + 1) y0 y1 y2 y3 y4 y5))
  | 0 => ⟨fun _ _ _ _ r h => by simp [laws_FnPairs.j0] at h, fun _ _ _ _ r h => by simp [laws_FnPairs.l0] at h, fun _ _ _ _ _ r h => by simp [laws_FnPairs.j2] at h, fun _ _ _ _ _ r h => by simp [laws_FnPairs.l1] at h, fun _ _ _ r h => by simp [laws_FnPairs.l2] at h, fun _ _ _ _ _ r h => by simp [laws_FnPairs.l3] at h, fun _ _ _ _ _ r h => by simp [laws_FnPairs.j6] at h, fun _ _ _ _ _ r h => by simp [laws_FnPairs.l4] at h, fun _ _ _ _ _ _ r h => by simp [laws_FnPairs.j8] at h, fun _ _ _ _ _ _ r h => by simp [laws_FnPairs.l5] at h⟩
  | k + 1 => by
    obtain ⟨ih0, ih1, ih2, ih3, ih4, ih5, ih6, ih7, ih8, ih9⟩ := laws_FnPairs.mono_l k
    refine ⟨?_, ?_, ?_, ?_, ?_, ?_, ?_, ?_, ?_, ?_⟩
    · intro y0 y1 y2 y3
      unfold laws_FnPairs.j0
      repeat' first
      | (with_reducible exact ih0 _ _ _ _)
      | (with_reducible exact ih1 _ _ _ _)
      | (with_reducible exact ih2 _ _ _ _ _)
      | (with_reducible exact ih3 _ _ _ _ _)
      | (with_reducible exact ih4 _ _ _)
      | (with_reducible exact ih5 _ _ _ _ _)
      | (with_reducible exact ih6 _ _ _ _ _)
      | (with_reducible exact ih7 _ _ _ _ _)
      | (with_reducible exact ih8 _ _ _ _ _ _)
      | (with_reducible exact ih9 _ _ _ _ _ _)
      | (with_reducible exact impl_ApartBreads.mono _ _)
      | (with_reducible exact impl_CanShare.mono _ _ _ _ _ _ _)
      | (with_reducible exact impl_CommonHeat.mono _ _)
      | (with_reducible exact impl_FewestHeats.mono _ _)
      | (with_reducible exact impl_LongestShared.mono _ _)
      | (with_reducible exact spec_DrawBreads.mono _ _)
      | (with_reducible exact LeO.refl _)
      | (with_reducible exact LeO.none _)
      | (with_reducible refine LeO.ite ?_ ?_)
      | (with_reducible refine LeO.bind ?_ (fun _ => ?_))
      | exact ih0 _ _ _ _
      | exact ih1 _ _ _ _
      | exact ih2 _ _ _ _ _
      | exact ih3 _ _ _ _ _
      | exact ih4 _ _ _
      | exact ih5 _ _ _ _ _
      | exact ih6 _ _ _ _ _
      | exact ih7 _ _ _ _ _
      | exact ih8 _ _ _ _ _ _
      | exact ih9 _ _ _ _ _ _
      | exact impl_ApartBreads.mono _ _
      | exact impl_CanShare.mono _ _ _ _ _ _ _
      | exact impl_CommonHeat.mono _ _
      | exact impl_FewestHeats.mono _ _
      | exact impl_LongestShared.mono _ _
      | exact spec_DrawBreads.mono _ _
      | exact LeO.none _
      | refine LeO.ite ?_ ?_
      | refine LeO.bind ?_ (fun _ => ?_)
    · intro y0 y1 y2 y3
      unfold laws_FnPairs.l0
      repeat' first
      | (with_reducible exact ih0 _ _ _ _)
      | (with_reducible exact ih1 _ _ _ _)
      | (with_reducible exact ih2 _ _ _ _ _)
      | (with_reducible exact ih3 _ _ _ _ _)
      | (with_reducible exact ih4 _ _ _)
      | (with_reducible exact ih5 _ _ _ _ _)
      | (with_reducible exact ih6 _ _ _ _ _)
      | (with_reducible exact ih7 _ _ _ _ _)
      | (with_reducible exact ih8 _ _ _ _ _ _)
      | (with_reducible exact ih9 _ _ _ _ _ _)
      | (with_reducible exact impl_ApartBreads.mono _ _)
      | (with_reducible exact impl_CanShare.mono _ _ _ _ _ _ _)
      | (with_reducible exact impl_CommonHeat.mono _ _)
      | (with_reducible exact impl_FewestHeats.mono _ _)
      | (with_reducible exact impl_LongestShared.mono _ _)
      | (with_reducible exact spec_DrawBreads.mono _ _)
      | (with_reducible exact LeO.refl _)
      | (with_reducible exact LeO.none _)
      | (with_reducible refine LeO.ite ?_ ?_)
      | (with_reducible refine LeO.bind ?_ (fun _ => ?_))
      | exact ih0 _ _ _ _
      | exact ih1 _ _ _ _
      | exact ih2 _ _ _ _ _
      | exact ih3 _ _ _ _ _
      | exact ih4 _ _ _
      | exact ih5 _ _ _ _ _
      | exact ih6 _ _ _ _ _
      | exact ih7 _ _ _ _ _
      | exact ih8 _ _ _ _ _ _
      | exact ih9 _ _ _ _ _ _
      | exact impl_ApartBreads.mono _ _
      | exact impl_CanShare.mono _ _ _ _ _ _ _
      | exact impl_CommonHeat.mono _ _
      | exact impl_FewestHeats.mono _ _
      | exact impl_LongestShared.mono _ _
      | exact spec_DrawBreads.mono _ _
      | exact LeO.none _
      | refine LeO.ite ?_ ?_
      | refine LeO.bind ?_ (fun _ => ?_)
    · intro y0 y1 y2 y3 y4
      unfold laws_FnPairs.j2
      repeat' first
      | (with_reducible exact ih0 _ _ _ _)
      | (with_reducible exact ih1 _ _ _ _)
      | (with_reducible exact ih2 _ _ _ _ _)
      | (with_reducible exact ih3 _ _ _ _ _)
      | (with_reducible exact ih4 _ _ _)
      | (with_reducible exact ih5 _ _ _ _ _)
      | (with_reducible exact ih6 _ _ _ _ _)
      | (with_reducible exact ih7 _ _ _ _ _)
      | (with_reducible exact ih8 _ _ _ _ _ _)
      | (with_reducible exact ih9 _ _ _ _ _ _)
      | (with_reducible exact impl_ApartBreads.mono _ _)
      | (with_reducible exact impl_CanShare.mono _ _ _ _ _ _ _)
      | (with_reducible exact impl_CommonHeat.mono _ _)
      | (with_reducible exact impl_FewestHeats.mono _ _)
      | (with_reducible exact impl_LongestShared.mono _ _)
      | (with_reducible exact spec_DrawBreads.mono _ _)
      | (with_reducible exact LeO.refl _)
      | (with_reducible exact LeO.none _)
      | (with_reducible refine LeO.ite ?_ ?_)
      | (with_reducible refine LeO.bind ?_ (fun _ => ?_))
      | exact ih0 _ _ _ _
      | exact ih1 _ _ _ _
      | exact ih2 _ _ _ _ _
      | exact ih3 _ _ _ _ _
      | exact ih4 _ _ _
      | exact ih5 _ _ _ _ _
      | exact ih6 _ _ _ _ _
      | exact ih7 _ _ _ _ _
      | exact ih8 _ _ _ _ _ _
      | exact ih9 _ _ _ _ _ _
      | exact impl_ApartBreads.mono _ _
      | exact impl_CanShare.mono _ _ _ _ _ _ _
      | exact impl_CommonHeat.mono _ _
      | exact impl_FewestHeats.mono _ _
      | exact impl_LongestShared.mono _ _
      | exact spec_DrawBreads.mono _ _
      | exact LeO.none _
      | refine LeO.ite ?_ ?_
      | refine LeO.bind ?_ (fun _ => ?_)
    · intro y0 y1 y2 y3 y4
      unfold laws_FnPairs.l1
      repeat' first
      | (with_reducible exact ih0 _ _ _ _)
      | (with_reducible exact ih1 _ _ _ _)
      | (with_reducible exact ih2 _ _ _ _ _)
      | (with_reducible exact ih3 _ _ _ _ _)
      | (with_reducible exact ih4 _ _ _)
      | (with_reducible exact ih5 _ _ _ _ _)
      | (with_reducible exact ih6 _ _ _ _ _)
      | (with_reducible exact ih7 _ _ _ _ _)
      | (with_reducible exact ih8 _ _ _ _ _ _)
      | (with_reducible exact ih9 _ _ _ _ _ _)
      | (with_reducible exact impl_ApartBreads.mono _ _)
      | (with_reducible exact impl_CanShare.mono _ _ _ _ _ _ _)
      | (with_reducible exact impl_CommonHeat.mono _ _)
      | (with_reducible exact impl_FewestHeats.mono _ _)
      | (with_reducible exact impl_LongestShared.mono _ _)
      | (with_reducible exact spec_DrawBreads.mono _ _)
      | (with_reducible exact LeO.refl _)
      | (with_reducible exact LeO.none _)
      | (with_reducible refine LeO.ite ?_ ?_)
      | (with_reducible refine LeO.bind ?_ (fun _ => ?_))
      | exact ih0 _ _ _ _
      | exact ih1 _ _ _ _
      | exact ih2 _ _ _ _ _
      | exact ih3 _ _ _ _ _
      | exact ih4 _ _ _
      | exact ih5 _ _ _ _ _
      | exact ih6 _ _ _ _ _
      | exact ih7 _ _ _ _ _
      | exact ih8 _ _ _ _ _ _
      | exact ih9 _ _ _ _ _ _
      | exact impl_ApartBreads.mono _ _
      | exact impl_CanShare.mono _ _ _ _ _ _ _
      | exact impl_CommonHeat.mono _ _
      | exact impl_FewestHeats.mono _ _
      | exact impl_LongestShared.mono _ _
      | exact spec_DrawBreads.mono _ _
      | exact LeO.none _
      | refine LeO.ite ?_ ?_
      | refine LeO.bind ?_ (fun _ => ?_)
    · intro y0 y1 y2
      unfold laws_FnPairs.l2
      repeat' first
      | (with_reducible exact ih0 _ _ _ _)
      | (with_reducible exact ih1 _ _ _ _)
      | (with_reducible exact ih2 _ _ _ _ _)
      | (with_reducible exact ih3 _ _ _ _ _)
      | (with_reducible exact ih4 _ _ _)
      | (with_reducible exact ih5 _ _ _ _ _)
      | (with_reducible exact ih6 _ _ _ _ _)
      | (with_reducible exact ih7 _ _ _ _ _)
      | (with_reducible exact ih8 _ _ _ _ _ _)
      | (with_reducible exact ih9 _ _ _ _ _ _)
      | (with_reducible exact impl_ApartBreads.mono _ _)
      | (with_reducible exact impl_CanShare.mono _ _ _ _ _ _ _)
      | (with_reducible exact impl_CommonHeat.mono _ _)
      | (with_reducible exact impl_FewestHeats.mono _ _)
      | (with_reducible exact impl_LongestShared.mono _ _)
      | (with_reducible exact spec_DrawBreads.mono _ _)
      | (with_reducible exact LeO.refl _)
      | (with_reducible exact LeO.none _)
      | (with_reducible refine LeO.ite ?_ ?_)
      | (with_reducible refine LeO.bind ?_ (fun _ => ?_))
      | exact ih0 _ _ _ _
      | exact ih1 _ _ _ _
      | exact ih2 _ _ _ _ _
      | exact ih3 _ _ _ _ _
      | exact ih4 _ _ _
      | exact ih5 _ _ _ _ _
      | exact ih6 _ _ _ _ _
      | exact ih7 _ _ _ _ _
      | exact ih8 _ _ _ _ _ _
      | exact ih9 _ _ _ _ _ _
      | exact impl_ApartBreads.mono _ _
      | exact impl_CanShare.mono _ _ _ _ _ _ _
      | exact impl_CommonHeat.mono _ _
      | exact impl_FewestHeats.mono _ _
      | exact impl_LongestShared.mono _ _
      | exact spec_DrawBreads.mono _ _
      | exact LeO.none _
      | refine LeO.ite ?_ ?_
      | refine LeO.bind ?_ (fun _ => ?_)
    · intro y0 y1 y2 y3 y4
      unfold laws_FnPairs.l3
      repeat' first
      | (with_reducible exact ih0 _ _ _ _)
      | (with_reducible exact ih1 _ _ _ _)
      | (with_reducible exact ih2 _ _ _ _ _)
      | (with_reducible exact ih3 _ _ _ _ _)
      | (with_reducible exact ih4 _ _ _)
      | (with_reducible exact ih5 _ _ _ _ _)
      | (with_reducible exact ih6 _ _ _ _ _)
      | (with_reducible exact ih7 _ _ _ _ _)
      | (with_reducible exact ih8 _ _ _ _ _ _)
      | (with_reducible exact ih9 _ _ _ _ _ _)
      | (with_reducible exact impl_ApartBreads.mono _ _)
      | (with_reducible exact impl_CanShare.mono _ _ _ _ _ _ _)
      | (with_reducible exact impl_CommonHeat.mono _ _)
      | (with_reducible exact impl_FewestHeats.mono _ _)
      | (with_reducible exact impl_LongestShared.mono _ _)
      | (with_reducible exact spec_DrawBreads.mono _ _)
      | (with_reducible exact LeO.refl _)
      | (with_reducible exact LeO.none _)
      | (with_reducible refine LeO.ite ?_ ?_)
      | (with_reducible refine LeO.bind ?_ (fun _ => ?_))
      | exact ih0 _ _ _ _
      | exact ih1 _ _ _ _
      | exact ih2 _ _ _ _ _
      | exact ih3 _ _ _ _ _
      | exact ih4 _ _ _
      | exact ih5 _ _ _ _ _
      | exact ih6 _ _ _ _ _
      | exact ih7 _ _ _ _ _
      | exact ih8 _ _ _ _ _ _
      | exact ih9 _ _ _ _ _ _
      | exact impl_ApartBreads.mono _ _
      | exact impl_CanShare.mono _ _ _ _ _ _ _
      | exact impl_CommonHeat.mono _ _
      | exact impl_FewestHeats.mono _ _
      | exact impl_LongestShared.mono _ _
      | exact spec_DrawBreads.mono _ _
      | exact LeO.none _
      | refine LeO.ite ?_ ?_
      | refine LeO.bind ?_ (fun _ => ?_)
    · intro y0 y1 y2 y3 y4
      unfold laws_FnPairs.j6
      repeat' first
      | (with_reducible exact ih0 _ _ _ _)
      | (with_reducible exact ih1 _ _ _ _)
      | (with_reducible exact ih2 _ _ _ _ _)
      | (with_reducible exact ih3 _ _ _ _ _)
      | (with_reducible exact ih4 _ _ _)
      | (with_reducible exact ih5 _ _ _ _ _)
      | (with_reducible exact ih6 _ _ _ _ _)
      | (with_reducible exact ih7 _ _ _ _ _)
      | (with_reducible exact ih8 _ _ _ _ _ _)
      | (with_reducible exact ih9 _ _ _ _ _ _)
      | (with_reducible exact impl_ApartBreads.mono _ _)
      | (with_reducible exact impl_CanShare.mono _ _ _ _ _ _ _)
      | (with_reducible exact impl_CommonHeat.mono _ _)
      | (with_reducible exact impl_FewestHeats.mono _ _)
      | (with_reducible exact impl_LongestShared.mono _ _)
      | (with_reducible exact spec_DrawBreads.mono _ _)
      | (with_reducible exact LeO.refl _)
      | (with_reducible exact LeO.none _)
      | (with_reducible refine LeO.ite ?_ ?_)
      | (with_reducible refine LeO.bind ?_ (fun _ => ?_))
      | exact ih0 _ _ _ _
      | exact ih1 _ _ _ _
      | exact ih2 _ _ _ _ _
      | exact ih3 _ _ _ _ _
      | exact ih4 _ _ _
      | exact ih5 _ _ _ _ _
      | exact ih6 _ _ _ _ _
      | exact ih7 _ _ _ _ _
      | exact ih8 _ _ _ _ _ _
      | exact ih9 _ _ _ _ _ _
      | exact impl_ApartBreads.mono _ _
      | exact impl_CanShare.mono _ _ _ _ _ _ _
      | exact impl_CommonHeat.mono _ _
      | exact impl_FewestHeats.mono _ _
      | exact impl_LongestShared.mono _ _
      | exact spec_DrawBreads.mono _ _
      | exact LeO.none _
      | refine LeO.ite ?_ ?_
      | refine LeO.bind ?_ (fun _ => ?_)
    · intro y0 y1 y2 y3 y4
      unfold laws_FnPairs.l4
      repeat' first
      | (with_reducible exact ih0 _ _ _ _)
      | (with_reducible exact ih1 _ _ _ _)
      | (with_reducible exact ih2 _ _ _ _ _)
      | (with_reducible exact ih3 _ _ _ _ _)
      | (with_reducible exact ih4 _ _ _)
      | (with_reducible exact ih5 _ _ _ _ _)
      | (with_reducible exact ih6 _ _ _ _ _)
      | (with_reducible exact ih7 _ _ _ _ _)
      | (with_reducible exact ih8 _ _ _ _ _ _)
      | (with_reducible exact ih9 _ _ _ _ _ _)
      | (with_reducible exact impl_ApartBreads.mono _ _)
      | (with_reducible exact impl_CanShare.mono _ _ _ _ _ _ _)
      | (with_reducible exact impl_CommonHeat.mono _ _)
      | (with_reducible exact impl_FewestHeats.mono _ _)
      | (with_reducible exact impl_LongestShared.mono _ _)
      | (with_reducible exact spec_DrawBreads.mono _ _)
      | (with_reducible exact LeO.refl _)
      | (with_reducible exact LeO.none _)
      | (with_reducible refine LeO.ite ?_ ?_)
      | (with_reducible refine LeO.bind ?_ (fun _ => ?_))
      | exact ih0 _ _ _ _
      | exact ih1 _ _ _ _
      | exact ih2 _ _ _ _ _
      | exact ih3 _ _ _ _ _
      | exact ih4 _ _ _
      | exact ih5 _ _ _ _ _
      | exact ih6 _ _ _ _ _
      | exact ih7 _ _ _ _ _
      | exact ih8 _ _ _ _ _ _
      | exact ih9 _ _ _ _ _ _
      | exact impl_ApartBreads.mono _ _
      | exact impl_CanShare.mono _ _ _ _ _ _ _
      | exact impl_CommonHeat.mono _ _
      | exact impl_FewestHeats.mono _ _
      | exact impl_LongestShared.mono _ _
      | exact spec_DrawBreads.mono _ _
      | exact LeO.none _
      | refine LeO.ite ?_ ?_
      | refine LeO.bind ?_ (fun _ => ?_)
    · intro y0 y1 y2 y3 y4 y5
      unfold laws_FnPairs.j8
      repeat' first
      | (with_reducible exact ih0 _ _ _ _)
      | (with_reducible exact ih1 _ _ _ _)
      | (with_reducible exact ih2 _ _ _ _ _)
      | (with_reducible exact ih3 _ _ _ _ _)
      | (with_reducible exact ih4 _ _ _)
      | (with_reducible exact ih5 _ _ _ _ _)
      | (with_reducible exact ih6 _ _ _ _ _)
      | (with_reducible exact ih7 _ _ _ _ _)
      | (with_reducible exact ih8 _ _ _ _ _ _)
      | (with_reducible exact ih9 _ _ _ _ _ _)
      | (with_reducible exact impl_ApartBreads.mono _ _)
      | (with_reducible exact impl_CanShare.mono _ _ _ _ _ _ _)
      | (with_reducible exact impl_CommonHeat.mono _ _)
      | (with_reducible exact impl_FewestHeats.mono _ _)
      | (with_reducible exact impl_LongestShared.mono _ _)
      | (with_reducible exact spec_DrawBreads.mono _ _)
      | (with_reducible exact LeO.refl _)
      | (with_reducible exact LeO.none _)
      | (with_reducible refine LeO.ite ?_ ?_)
      | (with_reducible refine LeO.bind ?_ (fun _ => ?_))
      | exact ih0 _ _ _ _
      | exact ih1 _ _ _ _
      | exact ih2 _ _ _ _ _
      | exact ih3 _ _ _ _ _
      | exact ih4 _ _ _
      | exact ih5 _ _ _ _ _
      | exact ih6 _ _ _ _ _
      | exact ih7 _ _ _ _ _
      | exact ih8 _ _ _ _ _ _
      | exact ih9 _ _ _ _ _ _
      | exact impl_ApartBreads.mono _ _
      | exact impl_CanShare.mono _ _ _ _ _ _ _
      | exact impl_CommonHeat.mono _ _
      | exact impl_FewestHeats.mono _ _
      | exact impl_LongestShared.mono _ _
      | exact spec_DrawBreads.mono _ _
      | exact LeO.none _
      | refine LeO.ite ?_ ?_
      | refine LeO.bind ?_ (fun _ => ?_)
    · intro y0 y1 y2 y3 y4 y5
      unfold laws_FnPairs.l5
      repeat' first
      | (with_reducible exact ih0 _ _ _ _)
      | (with_reducible exact ih1 _ _ _ _)
      | (with_reducible exact ih2 _ _ _ _ _)
      | (with_reducible exact ih3 _ _ _ _ _)
      | (with_reducible exact ih4 _ _ _)
      | (with_reducible exact ih5 _ _ _ _ _)
      | (with_reducible exact ih6 _ _ _ _ _)
      | (with_reducible exact ih7 _ _ _ _ _)
      | (with_reducible exact ih8 _ _ _ _ _ _)
      | (with_reducible exact ih9 _ _ _ _ _ _)
      | (with_reducible exact impl_ApartBreads.mono _ _)
      | (with_reducible exact impl_CanShare.mono _ _ _ _ _ _ _)
      | (with_reducible exact impl_CommonHeat.mono _ _)
      | (with_reducible exact impl_FewestHeats.mono _ _)
      | (with_reducible exact impl_LongestShared.mono _ _)
      | (with_reducible exact spec_DrawBreads.mono _ _)
      | (with_reducible exact LeO.refl _)
      | (with_reducible exact LeO.none _)
      | (with_reducible refine LeO.ite ?_ ?_)
      | (with_reducible refine LeO.bind ?_ (fun _ => ?_))
      | exact ih0 _ _ _ _
      | exact ih1 _ _ _ _
      | exact ih2 _ _ _ _ _
      | exact ih3 _ _ _ _ _
      | exact ih4 _ _ _
      | exact ih5 _ _ _ _ _
      | exact ih6 _ _ _ _ _
      | exact ih7 _ _ _ _ _
      | exact ih8 _ _ _ _ _ _
      | exact ih9 _ _ _ _ _ _
      | exact impl_ApartBreads.mono _ _
      | exact impl_CanShare.mono _ _ _ _ _ _ _
      | exact impl_CommonHeat.mono _ _
      | exact impl_FewestHeats.mono _ _
      | exact impl_LongestShared.mono _ _
      | exact spec_DrawBreads.mono _ _
      | exact LeO.none _
      | refine LeO.ite ?_ ?_
      | refine LeO.bind ?_ (fun _ => ?_)
theorem laws_FnPairs.mono : ∀ a0 k, LeO (laws_FnPairs.f k a0) (laws_FnPairs.f (k + 1) a0) := by
  intro a0 k
  obtain ⟨ih0, ih1, ih2, ih3, ih4, ih5, ih6, ih7, ih8, ih9⟩ := laws_FnPairs.mono_l k
  unfold laws_FnPairs.f
  repeat' first
      | (with_reducible exact ih0 _ _ _ _)
      | (with_reducible exact ih1 _ _ _ _)
      | (with_reducible exact ih2 _ _ _ _ _)
      | (with_reducible exact ih3 _ _ _ _ _)
      | (with_reducible exact ih4 _ _ _)
      | (with_reducible exact ih5 _ _ _ _ _)
      | (with_reducible exact ih6 _ _ _ _ _)
      | (with_reducible exact ih7 _ _ _ _ _)
      | (with_reducible exact ih8 _ _ _ _ _ _)
      | (with_reducible exact ih9 _ _ _ _ _ _)
      | (with_reducible exact impl_ApartBreads.mono _ _)
      | (with_reducible exact impl_CanShare.mono _ _ _ _ _ _ _)
      | (with_reducible exact impl_CommonHeat.mono _ _)
      | (with_reducible exact impl_FewestHeats.mono _ _)
      | (with_reducible exact impl_LongestShared.mono _ _)
      | (with_reducible exact spec_DrawBreads.mono _ _)
      | (with_reducible exact LeO.refl _)
      | (with_reducible exact LeO.none _)
      | (with_reducible refine LeO.ite ?_ ?_)
      | (with_reducible refine LeO.bind ?_ (fun _ => ?_))
      | exact ih0 _ _ _ _
      | exact ih1 _ _ _ _
      | exact ih2 _ _ _ _ _
      | exact ih3 _ _ _ _ _
      | exact ih4 _ _ _
      | exact ih5 _ _ _ _ _
      | exact ih6 _ _ _ _ _
      | exact ih7 _ _ _ _ _
      | exact ih8 _ _ _ _ _ _
      | exact ih9 _ _ _ _ _ _
      | exact impl_ApartBreads.mono _ _
      | exact impl_CanShare.mono _ _ _ _ _ _ _
      | exact impl_CommonHeat.mono _ _
      | exact impl_FewestHeats.mono _ _
      | exact impl_LongestShared.mono _ _
      | exact spec_DrawBreads.mono _ _
      | exact LeO.none _
      | refine LeO.ite ?_ ?_
      | refine LeO.bind ?_ (fun _ => ?_)
def laws_FnPairs.T11 : Bool × List (List Nat × List Nat) := (true, [([], []), ([], []), ([0, 1], [0, 1]), ([2], [2]), ([3], [3]), ([4], [4]), ([5], [5]), ([5], [5]), ([6, 7, 5], [5, 6, 7]), ([8, 5], [5, 8]), ([5], [5]), ([10, 5], [5, 10]), ([9, 11, 5], [5, 9, 11]), ([5, 12], [5, 12]), ([13, 5], [13]), ([14], [14]), ([14], [14]), ([15, 16, 14], [14, 15, 16]), ([17, 14], [14, 17]), ([14], [14]), ([14], [14]), ([14], [14]), ([20, 21, 14], [14, 20, 21]), ([22, 14], [14, 22]), ([19, 23, 14], [14, 19, 23]), ([24, 14], [14, 24]), ([25, 14], [14, 25]), ([18, 26, 14], [14, 18, 26]), ([14, 27], [14, 27]), ([28, 14], [28]), ([29], [29]), ([30, 29], [29, 30]), ([31, 29, 29], [29, 31]), ([32], [32]), ([32], [32]), ([33, 34, 32], [32, 33, 34]), ([35, 32], [32, 35]), ([32], [32]), ([32], [32]), ([38, 32], [32, 38]), ([37, 39, 32], [32, 37, 39]), ([40, 32], [32, 40]), ([36, 41, 32], [32, 36, 41]), ([32, 42, 29], [29, 32, 42]), ([29, 43], [29, 43])])
def laws_FnPairs.B11 : List Nat := [0, 0, 3, 7, 15, 31, 63, 63, 255, 511, 63, 1087, 4095, 8191, 16383, 32767, 32767, 131071, 262143, 32767, 32767, 32767, 3178495, 7372799, 16285695, 33062911, 66617343, 134217727, 268435455, 536870911, 1073741823, 2147483647, 4294967295, 8589934591, 8589934591, 34359738367, 68719476735, 8589934591, 8589934591, 283467841535, 970662608895, 2070174236671, 4398046511103, 8796093022207, 17592186044415]
theorem laws_FnPairs.tab11 : rtab .any (opsOf Try.f8 11) = laws_FnPairs.T11 := by kernel_rfl
theorem laws_FnPairs.bits11 : waitsOk laws_FnPairs.T11.2 laws_FnPairs.B11 = true := by kernel_rfl
def laws_FnPairs.T16 : Bool × List (List Nat × List Nat) := (true, [([], []), ([], []), ([], []), ([1, 2], [1, 2]), ([3], [3]), ([0, 4], [0, 4]), ([5], [5]), ([], []), ([], []), ([], []), ([8, 9], [8, 9]), ([10], [10]), ([7, 11], [7, 11]), ([12], [12]), ([6, 13], [6, 13])])
def laws_FnPairs.B16 : List Nat := [0, 0, 0, 6, 14, 31, 63, 0, 0, 0, 768, 1792, 3968, 8064, 16383]
theorem laws_FnPairs.tab16 : rtab .any (opsOf Try.f8 16) = laws_FnPairs.T16 := by kernel_rfl
theorem laws_FnPairs.bits16 : waitsOk laws_FnPairs.T16.2 laws_FnPairs.B16 = true := by kernel_rfl
def laws_FnPairs.T25 : Bool × List (List Nat × List Nat) := (true, [([], []), ([0], [0]), ([1], [1]), ([1], [1]), ([2, 3, 1], [1, 2, 3]), ([4, 1], [1, 4]), ([5, 1], [1, 5]), ([1], [1]), ([1], [1]), ([7, 8, 1], [1, 7, 8]), ([9, 1], [1, 9]), ([6, 10, 1], [1, 6, 10]), ([11, 1, 1], [1, 11]), ([12], [12]), ([12], [12]), ([13, 14, 12], [12, 13, 14]), ([15, 12], [12, 15]), ([12], [12]), ([12], [12]), ([17, 18, 12], [12, 17, 18]), ([19, 12], [12, 19]), ([20, 12], [12, 20]), ([16, 21, 12], [12, 16, 21]), ([12, 22, 1], [1, 12, 22]), ([1, 23], [1, 23]), ([24, 12, 0, 1, 2, 3, 4, 5, 6, 7, 8, 9, 10, 11, 12, 13, 14, 15, 16, 17, 18, 19, 20, 21, 22, 23, 24], [0, 24])])
def laws_FnPairs.B25 : List Nat := [0, 1, 3, 3, 15, 31, 63, 3, 3, 387, 899, 2047, 4095, 8191, 8191, 32767, 65535, 8191, 8191, 401407, 925695, 1974271, 4194303, 8388607, 16777215, 33554431]
theorem laws_FnPairs.tab25 : rtab .any (opsOf Try.f8 25) = laws_FnPairs.T25 := by kernel_rfl
theorem laws_FnPairs.bits25 : waitsOk laws_FnPairs.T25.2 laws_FnPairs.B25 = true := by kernel_rfl
def laws_FnPairs.T26 : Bool × List (List Nat × List Nat) := (true, [([], []), ([0], [0]), ([1], [1]), ([2], [2]), ([2], [2]), ([3, 4, 2], [2, 3, 4]), ([5, 2], [2, 5]), ([6, 2, 2], [2, 6]), ([7, 2], [2, 7]), ([2, 8], [2, 8]), ([9, 7], [9]), ([10], [10]), ([10], [10]), ([11, 12, 10], [10, 11, 12]), ([13, 10], [10, 13]), ([10], [10]), ([10], [10]), ([15, 16, 10], [10, 15, 16]), ([17, 10], [10, 17]), ([14, 18, 10, 10], [10, 14, 18]), ([19, 10], [10, 19]), ([10, 20], [10, 20])])
def laws_FnPairs.B26 : List Nat := [0, 1, 3, 7, 7, 31, 63, 127, 255, 511, 1023, 2047, 2047, 8191, 16383, 2047, 2047, 100351, 231423, 524287, 1048575, 2097151]
theorem laws_FnPairs.tab26 : rtab .any (opsOf Try.f8 26) = laws_FnPairs.T26 := by kernel_rfl
theorem laws_FnPairs.bits26 : waitsOk laws_FnPairs.T26.2 laws_FnPairs.B26 = true := by kernel_rfl
/-- A list of bits by its number. -/
abbrev bv_ (n m : Nat) : Array Bool := ((List.range n).map m.testBit).toArray
end Go.Proofs.Ytdglbjekpbdmoaa.PFnPairs
