/- What the Go functions that the law FnDivisions reaches compute, each as a plain function, and that the machine's calls come to just that. No condition. -/
import Derived.Test.YtbfgllgjniogiaaPFnDivisionsx0
import Derived.Test.YtbfgllgjniogiaaPFnDivisionsx1
import Derived.Test.YtbfgllgjniogiaaPFnDivisionsx2
import Derived.Test.YtbfgllgjniogiaaPFnDivisionsx3
namespace Go.Proofs.Ytbfgllgjniogiaa.PFnDivisions
open Go.RowKit Go.Proofs.YtbfgllgjniogiaaW.PrintWords Go.Proofs.YtbfgllgjniogiaaW.PrintLast Go.Proofs.YtbfgllgjniogiaaW.PrintMore
attribute [local go_sem] max2_int min2_int max_two min_two max_three min_three max_four min_four   -- for this text's walks alone
set_option linter.unusedVariables false
set_option linter.unusedSimpArgs false

/-! ### laws_FnDivisions: function 13 -/
mutual
def laws_FnDivisions.l0 : Nat → List Int → List Int → Int → Int → Int → List Int → Int → Option (Bool)
  | 0, _, _, _, _, _, _, _ => none
  | k + 1, x0, x3, x4, x5, x6, x7, x8 => if x8 < x4 then ((laws_has.f k x7 x8).bind fun t199 => (if 0 ≤ x8 then (if x8 < (x3.length : Int) then (if (rd x3 x8) < (wrap64 (x5 - x6)) then (if (t199 != true) = true then (some false) else (laws_FnDivisions.l0 k x0 x3 x4 x5 x6 x7 (wrap64 (x8 + 1)))) else (if (t199 != (decide ((rd x3 x8) > (wrap64 (x5 + x6))))) = true then (some false) else (laws_FnDivisions.l0 k x0 x3 x4 x5 x6 x7 (wrap64 (x8 + 1))))) else (none)) else (none))) else ((laws_at.f x0 2).bind fun t202 => ((laws_at.f x0 3).bind fun t203 => ((impl_EqualPieces.f k (wrap64 (40 + (wrap64 (t202 * 7)))) (wrap64 (1 + (Int.tmod t203 40)))).bind fun t204 => (laws_FnDivisions.l1 k x3 x4 x6 x7 (wrap64 (40 + (wrap64 (t202 * 7)))) (wrap64 (1 + (Int.tmod t203 40))) t204 0 0))))
def laws_FnDivisions.l1 : Nat → List Int → Int → Int → List Int → Int → Int → List Int → Int → Int → Option (Bool)
  | 0, _, _, _, _, _, _, _, _, _ => none
  | k + 1, x3, x4, x6, x7, x9, x10, x11, x12, x13 => if x13 < (x11.length : Int) then (if 0 ≤ x13 then (if x13 > 0 then (if 0 ≤ (wrap64 (x13 - 1)) then (if (wrap64 (x13 - 1)) < (x11.length : Int) then (if (rd x11 x13) > (rd x11 (wrap64 (x13 - 1))) then (some false) else (laws_FnDivisions.l1 k x3 x4 x6 x7 x9 x10 x11 (wrap64 (x12 + (rd x11 x13))) (wrap64 (x13 + 1)))) else (none)) else (none)) else (laws_FnDivisions.l1 k x3 x4 x6 x7 x9 x10 x11 (wrap64 (x12 + (rd x11 x13))) (wrap64 (x13 + 1)))) else (none)) else (if (x11.length : Int) = x10 then (if x12 = x9 then ((impl_SpreadOf.f x11).bind fun t210 => (if t210 > 1 then (laws_FnDivisions.j2 k x3 x4 x6 x7 true) else ((impl_SpreadOf.f x11).bind fun t211 => (if t211 < 0 then (laws_FnDivisions.j2 k x3 x4 x6 x7 true) else ((impl_LeastMoves.f k x11).bind fun t212 => (laws_FnDivisions.j2 k x3 x4 x6 x7 (t212 != 0))))))) else (laws_FnDivisions.j2 k x3 x4 x6 x7 true)) else (laws_FnDivisions.j2 k x3 x4 x6 x7 true))
def laws_FnDivisions.j2 : Nat → List Int → Int → Int → List Int → Bool → Option (Bool)
  | 0, _, _, _, _, _ => none
  | k + 1, x3, x4, x6, x7, x121 => if x121 = true then (some false) else ((impl_SpreadOf.f x3).bind fun t213 => ((impl_LeastMoves.f k x3).bind fun t214 => ((impl_BestWant.f k x3 x6).bind fun t215 => (if x4 = 0 then (if t213 = 0 then (if t214 = (-1) then (some (t215 == (-1))) else (some false)) else (some false)) else (if t215 < 1 then (laws_FnDivisions.j3 k x3 t213 t214 true) else (if t215 > 5000 then (laws_FnDivisions.j3 k x3 t213 t214 true) else ((impl_BadPieces.f k x3 t215 x6).bind fun t216 => (laws_FnDivisions.j3 k x3 t213 t214 (decide ((t216.length : Int) > (x7.length : Int)))))))))))
def laws_FnDivisions.j3 : Nat → List Int → Int → Int → Bool → Option (Bool)
  | 0, _, _, _, _ => none
  | k + 1, x3, x14, x15, x156 => if x156 = true then (some false) else (if x15 ≥ 0 then (if ((x15 == 0) == (decide (x14 ≤ 1))) = true then ((impl_PiecesOk.f x3).bind fun t219 => (if t219 = true then ((impl_LeastMoves.f k (([10, 20, 30] : List Int))).bind fun t223 => (some (t223 == 10))) else (some false))) else (some false)) else (some false))
end
def laws_FnDivisions.f (k : Nat) (l0 : List Int) : Option (Bool) := (laws_big.f l0).bind fun t190 => (if t190 = true then (some true) else ((spec_DrawPieces.f k l0).bind fun t191 => ((laws_at.f l0 0).bind fun t194 => ((laws_at.f l0 1).bind fun t195 => ((impl_BadPieces.f k t191 (wrap64 (80 + (Int.tmod t194 40))) (Int.tmod t195 12)).bind fun t196 => (laws_FnDivisions.l0 k l0 t191 (t191.length : Int) (wrap64 (80 + (Int.tmod t194 40))) (Int.tmod t195 12) t196 0))))))
theorem laws_FnDivisions.j2_no {k : Nat} {u0 : List Int} {u1 : Int} {u2 : Int} {u3 : List Int} {r : Bool} (h : laws_FnDivisions.j2 k u0 u1 u2 u3 true = some r) (h2 : r = true) : False := by
  subst h2
  cases k <;> simp [laws_FnDivisions.j2] at h
theorem laws_FnDivisions.j3_no {k : Nat} {u0 : List Int} {u1 : Int} {u2 : Int} {r : Bool} (h : laws_FnDivisions.j3 k u0 u1 u2 true = some r) (h2 : r = true) : False := by
  subst h2
  cases k <;> simp [laws_FnDivisions.j3] at h
theorem laws_FnDivisions.mono_l : ∀ k, (∀ y0 y1 y2 y3 y4 y5 y6, LeO (laws_FnDivisions.l0 k y0 y1 y2 y3 y4 y5 y6) (laws_FnDivisions.l0 (k + 1) y0 y1 y2 y3 y4 y5 y6)) ∧ (∀ y0 y1 y2 y3 y4 y5 y6 y7 y8, LeO (laws_FnDivisions.l1 k y0 y1 y2 y3 y4 y5 y6 y7 y8) (laws_FnDivisions.l1 (k + 1) y0 y1 y2 y3 y4 y5 y6 y7 y8)) ∧ (∀ y0 y1 y2 y3 y4, LeO (laws_FnDivisions.j2 k y0 y1 y2 y3 y4) (laws_FnDivisions.j2 (k + 1) y0 y1 y2 y3 y4)) ∧ (∀ y0 y1 y2 y3, LeO (laws_FnDivisions.j3 k y0 y1 y2 y3) (laws_FnDivisions.j3 (k + 1) y0 y1 y2 y3))
  | 0 => ⟨fun _ _ _ _ _ _ _ r h => by simp [laws_FnDivisions.l0] at h, fun _ _ _ _ _ _ _ _ _ r h => by simp [laws_FnDivisions.l1] at h, fun _ _ _ _ _ r h => by simp [laws_FnDivisions.j2] at h, fun _ _ _ _ r h => by simp [laws_FnDivisions.j3] at h⟩
  | k + 1 => by
    obtain ⟨ih0, ih1, ih2, ih3⟩ := laws_FnDivisions.mono_l k
    refine ⟨?_, ?_, ?_, ?_⟩
    · intro y0 y1 y2 y3 y4 y5 y6
      unfold laws_FnDivisions.l0
      repeat' first
      | (with_reducible exact ih0 _ _ _ _ _ _ _)
      | (with_reducible exact ih1 _ _ _ _ _ _ _ _ _)
      | (with_reducible exact ih2 _ _ _ _ _)
      | (with_reducible exact ih3 _ _ _ _)
      | (with_reducible exact impl_BadPieces.mono _ _ _ _)
      | (with_reducible exact impl_BestWant.mono _ _ _)
      | (with_reducible exact impl_EqualPieces.mono _ _ _)
      | (with_reducible exact impl_LeastMoves.mono _ _)
      | (with_reducible exact laws_has.mono _ _ _)
      | (with_reducible exact spec_DrawPieces.mono _ _)
      | (with_reducible exact LeO.refl _)
      | (with_reducible exact LeO.none _)
      | (with_reducible refine LeO.ite ?_ ?_)
      | (with_reducible refine LeO.bind ?_ (fun _ => ?_))
      | exact ih0 _ _ _ _ _ _ _
      | exact ih1 _ _ _ _ _ _ _ _ _
      | exact ih2 _ _ _ _ _
      | exact ih3 _ _ _ _
      | exact impl_BadPieces.mono _ _ _ _
      | exact impl_BestWant.mono _ _ _
      | exact impl_EqualPieces.mono _ _ _
      | exact impl_LeastMoves.mono _ _
      | exact laws_has.mono _ _ _
      | exact spec_DrawPieces.mono _ _
      | exact LeO.none _
      | refine LeO.ite ?_ ?_
      | refine LeO.bind ?_ (fun _ => ?_)
    · intro y0 y1 y2 y3 y4 y5 y6 y7 y8
      unfold laws_FnDivisions.l1
      repeat' first
      | (with_reducible exact ih0 _ _ _ _ _ _ _)
      | (with_reducible exact ih1 _ _ _ _ _ _ _ _ _)
      | (with_reducible exact ih2 _ _ _ _ _)
      | (with_reducible exact ih3 _ _ _ _)
      | (with_reducible exact impl_BadPieces.mono _ _ _ _)
      | (with_reducible exact impl_BestWant.mono _ _ _)
      | (with_reducible exact impl_EqualPieces.mono _ _ _)
      | (with_reducible exact impl_LeastMoves.mono _ _)
      | (with_reducible exact laws_has.mono _ _ _)
      | (with_reducible exact spec_DrawPieces.mono _ _)
      | (with_reducible exact LeO.refl _)
      | (with_reducible exact LeO.none _)
      | (with_reducible refine LeO.ite ?_ ?_)
      | (with_reducible refine LeO.bind ?_ (fun _ => ?_))
      | exact ih0 _ _ _ _ _ _ _
      | exact ih1 _ _ _ _ _ _ _ _ _
      | exact ih2 _ _ _ _ _
      | exact ih3 _ _ _ _
      | exact impl_BadPieces.mono _ _ _ _
      | exact impl_BestWant.mono _ _ _
      | exact impl_EqualPieces.mono _ _ _
      | exact impl_LeastMoves.mono _ _
      | exact laws_has.mono _ _ _
      | exact spec_DrawPieces.mono _ _
      | exact LeO.none _
      | refine LeO.ite ?_ ?_
      | refine LeO.bind ?_ (fun _ => ?_)
    · intro y0 y1 y2 y3 y4
      unfold laws_FnDivisions.j2
      repeat' first
      | (with_reducible exact ih0 _ _ _ _ _ _ _)
      | (with_reducible exact ih1 _ _ _ _ _ _ _ _ _)
      | (with_reducible exact ih2 _ _ _ _ _)
      | (with_reducible exact ih3 _ _ _ _)
      | (with_reducible exact impl_BadPieces.mono _ _ _ _)
      | (with_reducible exact impl_BestWant.mono _ _ _)
      | (with_reducible exact impl_EqualPieces.mono _ _ _)
      | (with_reducible exact impl_LeastMoves.mono _ _)
      | (with_reducible exact laws_has.mono _ _ _)
      | (with_reducible exact spec_DrawPieces.mono _ _)
      | (with_reducible exact LeO.refl _)
      | (with_reducible exact LeO.none _)
      | (with_reducible refine LeO.ite ?_ ?_)
      | (with_reducible refine LeO.bind ?_ (fun _ => ?_))
      | exact ih0 _ _ _ _ _ _ _
      | exact ih1 _ _ _ _ _ _ _ _ _
      | exact ih2 _ _ _ _ _
      | exact ih3 _ _ _ _
      | exact impl_BadPieces.mono _ _ _ _
      | exact impl_BestWant.mono _ _ _
      | exact impl_EqualPieces.mono _ _ _
      | exact impl_LeastMoves.mono _ _
      | exact laws_has.mono _ _ _
      | exact spec_DrawPieces.mono _ _
      | exact LeO.none _
      | refine LeO.ite ?_ ?_
      | refine LeO.bind ?_ (fun _ => ?_)
    · intro y0 y1 y2 y3
      unfold laws_FnDivisions.j3
      repeat' first
      | (with_reducible exact ih0 _ _ _ _ _ _ _)
      | (with_reducible exact ih1 _ _ _ _ _ _ _ _ _)
      | (with_reducible exact ih2 _ _ _ _ _)
      | (with_reducible exact ih3 _ _ _ _)
      | (with_reducible exact impl_BadPieces.mono _ _ _ _)
      | (with_reducible exact impl_BestWant.mono _ _ _)
      | (with_reducible exact impl_EqualPieces.mono _ _ _)
      | (with_reducible exact impl_LeastMoves.mono _ _)
      | (with_reducible exact laws_has.mono _ _ _)
      | (with_reducible exact spec_DrawPieces.mono _ _)
      | (with_reducible exact LeO.refl _)
      | (with_reducible exact LeO.none _)
      | (with_reducible refine LeO.ite ?_ ?_)
      | (with_reducible refine LeO.bind ?_ (fun _ => ?_))
      | exact ih0 _ _ _ _ _ _ _
      | exact ih1 _ _ _ _ _ _ _ _ _
      | exact ih2 _ _ _ _ _
      | exact ih3 _ _ _ _
      | exact impl_BadPieces.mono _ _ _ _
      | exact impl_BestWant.mono _ _ _
      | exact impl_EqualPieces.mono _ _ _
      | exact impl_LeastMoves.mono _ _
      | exact laws_has.mono _ _ _
      | exact spec_DrawPieces.mono _ _
      | exact LeO.none _
      | refine LeO.ite ?_ ?_
      | refine LeO.bind ?_ (fun _ => ?_)
theorem laws_FnDivisions.mono : ∀ a0 k, LeO (laws_FnDivisions.f k a0) (laws_FnDivisions.f (k + 1) a0) := by
  intro a0 k
  obtain ⟨ih0, ih1, ih2, ih3⟩ := laws_FnDivisions.mono_l k
  unfold laws_FnDivisions.f
  repeat' first
      | (with_reducible exact ih0 _ _ _ _ _ _ _)
      | (with_reducible exact ih1 _ _ _ _ _ _ _ _ _)
      | (with_reducible exact ih2 _ _ _ _ _)
      | (with_reducible exact ih3 _ _ _ _)
      | (with_reducible exact impl_BadPieces.mono _ _ _ _)
      | (with_reducible exact impl_BestWant.mono _ _ _)
      | (with_reducible exact impl_EqualPieces.mono _ _ _)
      | (with_reducible exact impl_LeastMoves.mono _ _)
      | (with_reducible exact laws_has.mono _ _ _)
      | (with_reducible exact spec_DrawPieces.mono _ _)
      | (with_reducible exact LeO.refl _)
      | (with_reducible exact LeO.none _)
      | (with_reducible refine LeO.ite ?_ ?_)
      | (with_reducible refine LeO.bind ?_ (fun _ => ?_))
      | exact ih0 _ _ _ _ _ _ _
      | exact ih1 _ _ _ _ _ _ _ _ _
      | exact ih2 _ _ _ _ _
      | exact ih3 _ _ _ _
      | exact impl_BadPieces.mono _ _ _ _
      | exact impl_BestWant.mono _ _ _
      | exact impl_EqualPieces.mono _ _ _
      | exact impl_LeastMoves.mono _ _
      | exact laws_has.mono _ _ _
      | exact spec_DrawPieces.mono _ _
      | exact LeO.none _
      | refine LeO.ite ?_ ?_
      | refine LeO.bind ?_ (fun _ => ?_)
/-- A list of bits by its number. -/
abbrev bv_ (n m : Nat) : Array Bool := ((List.range n).map m.testBit).toArray
end Go.Proofs.Ytbfgllgjniogiaa.PFnDivisions
