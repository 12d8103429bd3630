/- What the Go functions that the law FnHeats reaches compute, each as a plain function, and that the machine's calls come to just that. No condition. -/
import Derived.Test.YtkcfpkokgpimaaaPFnHeatsx0
import Derived.Test.YtkcfpkokgpimaaaPFnHeatsx1
import Derived.Test.YtkcfpkokgpimaaaPFnHeatsx2
import Derived.Test.YtkcfpkokgpimaaaPFnHeatsx3
import Derived.Test.YtkcfpkokgpimaaaPFnHeatsx4
import Derived.Test.YtkcfpkokgpimaaaPFnHeatsx5
namespace Go.Proofs.Ytkcfpkokgpimaaa.PFnHeats
open Go.RowKit Go.Proofs.YtkcfpkokgpimaaaW.PrintWords Go.Proofs.YtkcfpkokgpimaaaW.PrintLast Go.Proofs.YtkcfpkokgpimaaaW.PrintMore
attribute [local go_sem] max2_int min2_int max_two min_two max_three min_three max_four min_four   -- for this text's walks alone
set_option linter.unusedVariables false
set_option linter.unusedSimpArgs false

/-! ### laws_FnHeats: function 8 -/
mutual
def laws_FnHeats.j0 : Nat → List Int → List Int → Int → Int → List Int → Bool → Option (Bool)
  | 0, _, _, _, _, _, _ => none
  | k + 1, x0, x3, x4, x7, x8, x62 => if x62 = true then (some false) else (laws_FnHeats.l0 k x0 x3 x4 x7 x8 (([] : List Int)) 0)
def laws_FnHeats.l0 : Nat → List Int → List Int → Int → Int → List Int → List Int → Int → Option (Bool)
  | 0, _, _, _, _, _, _, _ => none
  | k + 1, x0, x3, x4, x7, x8, x9, x10 => if x10 < (x3.length : Int) then ((laws_at.f x0 1).bind fun t183 => (if (x3.length : Int) = 0 then (none) else (if x9.length < 17592186044416 then (laws_FnHeats.l0 k x0 x3 x4 x7 x8 (x9 ++ [Int.tmod (wrap64 (x10 + t183)) (x3.length : Int)]) (wrap64 (x10 + 1))) else (none)))) else ((impl_OrderCost.f k x3 x9 x4).bind fun t187 => (if t187 < x7 then (some false) else (laws_FnHeats.l1 k x0 x3 x4 x7 x8 350 0 0)))
def laws_FnHeats.l1 : Nat → List Int → List Int → Int → Int → List Int → Int → Int → Int → Option (Bool)
  | 0, _, _, _, _, _, _, _, _ => none
  | k + 1, x0, x3, x4, x7, x8, x11, x12, x13 => if x13 < (x3.length : Int) then (if 0 ≤ x13 then (if x13 < (x8.length : Int) then (if (rd x8 x13) < 0 then (some false) else (if (rd x8 x13) ≥ (x3.length : Int) then (some false) else (if x13 > 0 then (if 0 ≤ (rd x8 x13) then (if (rd x8 x13) < (x3.length : Int) then (if 0 ≤ (wrap64 (x13 - 1)) then (if (wrap64 (x13 - 1)) < (x8.length : Int) then (if 0 ≤ (rd x8 (wrap64 (x13 - 1))) then (if (rd x8 (wrap64 (x13 - 1))) < (x3.length : Int) then (if (rd x3 (rd x8 x13)) > (rd x3 (rd x8 (wrap64 (x13 - 1)))) then (some false) else (laws_FnHeats.l1 k x0 x3 x4 x7 x8 (mn x11 (rd x3 x13)) (mx x12 (rd x3 x13)) (wrap64 (x13 + 1)))) else (none)) else (none)) else (none)) else (none)) else (none)) else (none)) else (laws_FnHeats.l1 k x0 x3 x4 x7 x8 (mn x11 (rd x3 x13)) (mx x12 (rd x3 x13)) (wrap64 (x13 + 1)))))) else (none)) else (none)) else (if (x3.length : Int) > 0 then ((impl_OrderCost.f k x3 x8 350).bind fun t196 => (if t196 = (wrap64 (350 - x11)) then ((impl_HeatCost.f k x4 x11).bind fun t197 => (if x7 < t197 then (laws_FnHeats.j3 k x0 x12 (decide (x4 > x11))) else (laws_FnHeats.j3 k x0 x12 false))) else (laws_FnHeats.j3 k x0 x12 true))) else (laws_FnHeats.j3 k x0 x12 false))
def laws_FnHeats.j3 : Nat → List Int → Int → Bool → Option (Bool)
  | 0, _, _, _ => none
  | k + 1, x0, x12, x167 => if x167 = true then (some false) else ((laws_at.f x0 2).bind fun t198 => ((impl_CoolAfter.f k (wrap64 (20 + t198)) 5).bind fun t199 => ((impl_HeatCost.f k 100 130).bind fun t200 => (if t200 = 60 then ((impl_HeatCost.f k 130 100).bind fun t201 => (if t201 = 30 then (if t199 ≤ (wrap64 (20 + t198)) then (if t199 ≥ 20 then ((impl_CoolAfter.f k (wrap64 (20 + t198)) 6).bind fun t202 => (if t202 ≤ t199 then ((impl_CoolAfter.f k t199 3).bind fun t203 => ((impl_CoolAfter.f k (wrap64 (20 + t198)) 8).bind fun t204 => (if t203 = t204 then ((impl_CoolAfter.f k (wrap64 (20 + t198)) 0).bind fun t205 => (if t205 = (wrap64 (20 + t198)) then (some (decide (x12 ≤ 350))) else (some false))) else (some false)))) else (some false))) else (some false)) else (some false)) else (some false))) else (some false)))))
end
def laws_FnHeats.f (k : Nat) (l0 : List Int) : Option (Bool) := (laws_big.f l0).bind fun t166 => (if t166 = true then (some true) else ((spec_DrawHeats.f k l0).bind fun t167 => ((laws_at.f l0 0).bind fun t170 => ((impl_BestHeats.f k t167 (wrap64 (t170 + 50))).bind fun bt171 => ((impl_OrderCost.f k t167 bt171.1 (wrap64 (t170 + 50))).bind fun t175 => ((impl_FallingOrder.f k t167).bind fun t176 => (if bt171.2 = true then (if (bt171.1.length : Int) = (t167.length : Int) then (if t175 < 0 then (laws_FnHeats.j0 k l0 t167 (wrap64 (t170 + 50)) t175 t176 true) else (if (t176.length : Int) = (t167.length : Int) then ((impl_OrderCost.f k t167 t176 (wrap64 (t170 + 50))).bind fun t179 => (laws_FnHeats.j0 k l0 t167 (wrap64 (t170 + 50)) t175 t176 (decide (t179 < t175)))) else (laws_FnHeats.j0 k l0 t167 (wrap64 (t170 + 50)) t175 t176 true))) else (laws_FnHeats.j0 k l0 t167 (wrap64 (t170 + 50)) t175 t176 true)) else (laws_FnHeats.j0 k l0 t167 (wrap64 (t170 + 50)) t175 t176 true))))))))
theorem laws_FnHeats.j0_no {k : Nat} {u0 : List Int} {u1 : List Int} {u2 : Int} {u3 : Int} {u4 : List Int} {r : Bool} (h : laws_FnHeats.j0 k u0 u1 u2 u3 u4 true = some r) (h2 : r = true) : False := by
  subst h2
  cases k <;> simp [laws_FnHeats.j0] at h
theorem laws_FnHeats.j3_no {k : Nat} {u0 : List Int} {u1 : Int} {r : Bool} (h : laws_FnHeats.j3 k u0 u1 true = some r) (h2 : r = true) : False := by
  subst h2
  cases k <;> simp [laws_FnHeats.j3] at h
theorem laws_FnHeats.mono_l : ∀ k, (∀ y0 y1 y2 y3 y4 y5, LeO (laws_FnHeats.j0 k y0 y1 y2 y3 y4 y5) (laws_FnHeats.j0 (k + 1) y0 y1 y2 y3 y4 y5)) ∧ (∀ y0 y1 y2 y3 y4 y5 y6, LeO (laws_FnHeats.l0 k y0 y1 y2 y3 y4 y5 y6) (laws_FnHeats.l0 (k + 1) y0 y1 y2 y3 y4 y5 y6)) ∧ (∀ y0 y1 y2 y3 y4 y5 y6 y7, LeO (laws_FnHeats.l1 k y0 y1 y2 y3 y4 y5 y6 y7) (laws_FnHeats.l1 (k + 1) y0 y1 y2 y3 y4 y5 y6 y7)) ∧ (∀ y0 y1 y2, LeO (laws_FnHeats.j3 k y0 y1 y2) (laws_FnHeats.j3 (k + 1) y0 y1 y2))
  | 0 => ⟨fun _ _ _ _ _ _ r h => by simp [laws_FnHeats.j0] at h, fun _ _ _ _ _ _ _ r h => by simp [laws_FnHeats.l0] at h, fun _ _ _ _ _ _ _ _ r h => by simp [laws_FnHeats.l1] at h, fun _ _ _ r h => by simp [laws_FnHeats.j3] at h⟩
  | k + 1 => by
    obtain ⟨ih0, ih1, ih2, ih3⟩ := laws_FnHeats.mono_l k
    refine ⟨?_, ?_, ?_, ?_⟩
    · intro y0 y1 y2 y3 y4 y5
      unfold laws_FnHeats.j0
      repeat' first
      | (with_reducible exact ih0 _ _ _ _ _ _)
      | (with_reducible exact ih1 _ _ _ _ _ _ _)
      | (with_reducible exact ih2 _ _ _ _ _ _ _ _)
      | (with_reducible exact ih3 _ _ _)
      | (with_reducible exact impl_BestHeats.mono _ _ _)
      | (with_reducible exact impl_CoolAfter.mono _ _ _)
      | (with_reducible exact impl_FallingOrder.mono _ _)
      | (with_reducible exact impl_HeatCost.mono _ _ _)
      | (with_reducible exact impl_OrderCost.mono _ _ _ _)
      | (with_reducible exact spec_DrawHeats.mono _ _)
      | (with_reducible exact LeO.refl _)
      | (with_reducible exact LeO.none _)
      | (with_reducible refine LeO.ite ?_ ?_)
      | (with_reducible refine LeO.bind ?_ (fun _ => ?_))
      | exact ih0 _ _ _ _ _ _
      | exact ih1 _ _ _ _ _ _ _
      | exact ih2 _ _ _ _ _ _ _ _
      | exact ih3 _ _ _
      | exact impl_BestHeats.mono _ _ _
      | exact impl_CoolAfter.mono _ _ _
      | exact impl_FallingOrder.mono _ _
      | exact impl_HeatCost.mono _ _ _
      | exact impl_OrderCost.mono _ _ _ _
      | exact spec_DrawHeats.mono _ _
      | exact LeO.none _
      | refine LeO.ite ?_ ?_
      | refine LeO.bind ?_ (fun _ => ?_)
    · intro y0 y1 y2 y3 y4 y5 y6
      unfold laws_FnHeats.l0
      repeat' first
      | (with_reducible exact ih0 _ _ _ _ _ _)
      | (with_reducible exact ih1 _ _ _ _ _ _ _)
      | (with_reducible exact ih2 _ _ _ _ _ _ _ _)
      | (with_reducible exact ih3 _ _ _)
      | (with_reducible exact impl_BestHeats.mono _ _ _)
      | (with_reducible exact impl_CoolAfter.mono _ _ _)
      | (with_reducible exact impl_FallingOrder.mono _ _)
      | (with_reducible exact impl_HeatCost.mono _ _ _)
      | (with_reducible exact impl_OrderCost.mono _ _ _ _)
      | (with_reducible exact spec_DrawHeats.mono _ _)
      | (with_reducible exact LeO.refl _)
      | (with_reducible exact LeO.none _)
      | (with_reducible refine LeO.ite ?_ ?_)
      | (with_reducible refine LeO.bind ?_ (fun _ => ?_))
      | exact ih0 _ _ _ _ _ _
      | exact ih1 _ _ _ _ _ _ _
      | exact ih2 _ _ _ _ _ _ _ _
      | exact ih3 _ _ _
      | exact impl_BestHeats.mono _ _ _
      | exact impl_CoolAfter.mono _ _ _
      | exact impl_FallingOrder.mono _ _
      | exact impl_HeatCost.mono _ _ _
      | exact impl_OrderCost.mono _ _ _ _
      | exact spec_DrawHeats.mono _ _
      | exact LeO.none _
      | refine LeO.ite ?_ ?_
      | refine LeO.bind ?_ (fun _ => ?_)
    · intro y0 y1 y2 y3 y4 y5 y6 y7
      unfold laws_FnHeats.l1
      repeat' first
      | (with_reducible exact ih0 _ _ _ _ _ _)
      | (with_reducible exact ih1 _ _ _ _ _ _ _)
      | (with_reducible exact ih2 _ _ _ _ _ _ _ _)
      | (with_reducible exact ih3 _ _ _)
      | (with_reducible exact impl_BestHeats.mono _ _ _)
      | (with_reducible exact impl_CoolAfter.mono _ _ _)
      | (with_reducible exact impl_FallingOrder.mono _ _)
      | (with_reducible exact impl_HeatCost.mono _ _ _)
      | (with_reducible exact impl_OrderCost.mono _ _ _ _)
      | (with_reducible exact spec_DrawHeats.mono _ _)
      | (with_reducible exact LeO.refl _)
      | (with_reducible exact LeO.none _)
      | (with_reducible refine LeO.ite ?_ ?_)
      | (with_reducible refine LeO.bind ?_ (fun _ => ?_))
      | exact ih0 _ _ _ _ _ _
      | exact ih1 _ _ _ _ _ _ _
      | exact ih2 _ _ _ _ _ _ _ _
      | exact ih3 _ _ _
      | exact impl_BestHeats.mono _ _ _
      | exact impl_CoolAfter.mono _ _ _
      | exact impl_FallingOrder.mono _ _
      | exact impl_HeatCost.mono _ _ _
      | exact impl_OrderCost.mono _ _ _ _
      | exact spec_DrawHeats.mono _ _
      | exact LeO.none _
      | refine LeO.ite ?_ ?_
      | refine LeO.bind ?_ (fun _ => ?_)
    · intro y0 y1 y2
      unfold laws_FnHeats.j3
      repeat' first
      | (with_reducible exact ih0 _ _ _ _ _ _)
      | (with_reducible exact ih1 _ _ _ _ _ _ _)
      | (with_reducible exact ih2 _ _ _ _ _ _ _ _)
      | (with_reducible exact ih3 _ _ _)
      | (with_reducible exact impl_BestHeats.mono _ _ _)
      | (with_reducible exact impl_CoolAfter.mono _ _ _)
      | (with_reducible exact impl_FallingOrder.mono _ _)
      | (with_reducible exact impl_HeatCost.mono _ _ _)
      | (with_reducible exact impl_OrderCost.mono _ _ _ _)
      | (with_reducible exact spec_DrawHeats.mono _ _)
      | (with_reducible exact LeO.refl _)
      | (with_reducible exact LeO.none _)
      | (with_reducible refine LeO.ite ?_ ?_)
      | (with_reducible refine LeO.bind ?_ (fun _ => ?_))
      | exact ih0 _ _ _ _ _ _
      | exact ih1 _ _ _ _ _ _ _
      | exact ih2 _ _ _ _ _ _ _ _
      | exact ih3 _ _ _
      | exact impl_BestHeats.mono _ _ _
      | exact impl_CoolAfter.mono _ _ _
      | exact impl_FallingOrder.mono _ _
      | exact impl_HeatCost.mono _ _ _
      | exact impl_OrderCost.mono _ _ _ _
      | exact spec_DrawHeats.mono _ _
      | exact LeO.none _
      | refine LeO.ite ?_ ?_
      | refine LeO.bind ?_ (fun _ => ?_)
theorem laws_FnHeats.mono : ∀ a0 k, LeO (laws_FnHeats.f k a0) (laws_FnHeats.f (k + 1) a0) := by
  intro a0 k
  obtain ⟨ih0, ih1, ih2, ih3⟩ := laws_FnHeats.mono_l k
  unfold laws_FnHeats.f
  repeat' first
      | (with_reducible exact ih0 _ _ _ _ _ _)
      | (with_reducible exact ih1 _ _ _ _ _ _ _)
      | (with_reducible exact ih2 _ _ _ _ _ _ _ _)
      | (with_reducible exact ih3 _ _ _)
      | (with_reducible exact impl_BestHeats.mono _ _ _)
      | (with_reducible exact impl_CoolAfter.mono _ _ _)
      | (with_reducible exact impl_FallingOrder.mono _ _)
      | (with_reducible exact impl_HeatCost.mono _ _ _)
      | (with_reducible exact impl_OrderCost.mono _ _ _ _)
      | (with_reducible exact spec_DrawHeats.mono _ _)
      | (with_reducible exact LeO.refl _)
      | (with_reducible exact LeO.none _)
      | (with_reducible refine LeO.ite ?_ ?_)
      | (with_reducible refine LeO.bind ?_ (fun _ => ?_))
      | exact ih0 _ _ _ _ _ _
      | exact ih1 _ _ _ _ _ _ _
      | exact ih2 _ _ _ _ _ _ _ _
      | exact ih3 _ _ _
      | exact impl_BestHeats.mono _ _ _
      | exact impl_CoolAfter.mono _ _ _
      | exact impl_FallingOrder.mono _ _
      | exact impl_HeatCost.mono _ _ _
      | exact impl_OrderCost.mono _ _ _ _
      | exact spec_DrawHeats.mono _ _
      | exact LeO.none _
      | refine LeO.ite ?_ ?_
      | refine LeO.bind ?_ (fun _ => ?_)
set_option maxHeartbeats 8000000 in
set_option maxRecDepth 100000 in
theorem laws_FnHeats.calls (k : Nat) (A0 : Option Addr) (c0 : Nat) (l0 : List Int) (r : Bool) (w : World) (hr_ : Aside0 (r = true)) (hr0 : Kd.C (Kd.int .u8) w A0 l0.length l0) (hc0 : l0.length ≤ c0) (h : laws_FnHeats.f k l0 = some r) :
    Calls Try.prog 8 #[.slice A0 l0.length c0] w fun e w' => e = .returned (.bool r) ∧ Below w.heap.size w w' := by
  have HR0 := Aside0.mk hr0
  have HC0 := Aside0.mk hc0
  clear hr0 hc0
  have HB := Aside0.mk (Below.refl w.heap.size w)
  have H : ((laws_big.f l0).bind fun t166 => (if t166 = true then (some true) else ((spec_DrawHeats.f k l0).bind fun t167 => ((laws_at.f l0 0).bind fun t170 => ((impl_BestHeats.f k t167 (wrap64 (t170 + 50))).bind fun bt171 => ((impl_OrderCost.f k t167 bt171.1 (wrap64 (t170 + 50))).bind fun t175 => ((impl_FallingOrder.f k t167).bind fun t176 => (if bt171.2 = true then (if (bt171.1.length : Int) = (t167.length : Int) then (if t175 < 0 then (laws_FnHeats.j0 k l0 t167 (wrap64 (t170 + 50)) t175 t176 true) else (if (t176.length : Int) = (t167.length : Int) then ((impl_OrderCost.f k t167 t176 (wrap64 (t170 + 50))).bind fun t179 => (laws_FnHeats.j0 k l0 t167 (wrap64 (t170 + 50)) t175 t176 (decide (t179 < t175)))) else (laws_FnHeats.j0 k l0 t167 (wrap64 (t170 + 50)) t175 t176 true))) else (laws_FnHeats.j0 k l0 t167 (wrap64 (t170 + 50)) t175 t176 true)) else (laws_FnHeats.j0 k l0 t167 (wrap64 (t170 + 50)) t175 t176 true))))))))) = some r := h
  clear h
  replace H := Option.bind_eq_some_iff.mp H
  obtain ⟨t166, A20, H⟩ := H
  replace H : (if t166 = true then (some true) else ((spec_DrawHeats.f k l0).bind fun t167 => ((laws_at.f l0 0).bind fun t170 => ((impl_BestHeats.f k t167 (wrap64 (t170 + 50))).bind fun bt171 => ((impl_OrderCost.f k t167 bt171.1 (wrap64 (t170 + 50))).bind fun t175 => ((impl_FallingOrder.f k t167).bind fun t176 => (if bt171.2 = true then (if (bt171.1.length : Int) = (t167.length : Int) then (if t175 < 0 then (laws_FnHeats.j0 k l0 t167 (wrap64 (t170 + 50)) t175 t176 true) else (if (t176.length : Int) = (t167.length : Int) then ((impl_OrderCost.f k t167 t176 (wrap64 (t170 + 50))).bind fun t179 => (laws_FnHeats.j0 k l0 t167 (wrap64 (t170 + 50)) t175 t176 (decide (t179 < t175)))) else (laws_FnHeats.j0 k l0 t167 (wrap64 (t170 + 50)) t175 t176 true))) else (laws_FnHeats.j0 k l0 t167 (wrap64 (t170 + 50)) t175 t176 true)) else (laws_FnHeats.j0 k l0 t167 (wrap64 (t170 + 50)) t175 t176 true)))))))) = some r := H
  have A2 := Aside0.mk A20
  clear A20
  by_cases c3 : t166 = true
  · subst c3
    have H1 : (some true) = some r := by rw [if_pos rfl] at H; exact H
    clear H
    have H := H1
    clear H1
    obtain rfl := Option.some.inj H
    go_enter Try.func8, Try.ntmps8
    go_wp2_with (first | (go_at_call 25; (with_reducible refine (laws_big.calls _ _ l0 true _ ?side1 ?side2 A2.out).mono ?_); (case side1 => repeat (first | exact HR0.out | (with_reducible refine Kd.C_alloc ?_ _) | (with_reducible refine Kd.C_drewN ?_ _) | (with_reducible refine Kd.C_drew ?_))); (case side2 => exact HC0.out); rintro e w' ⟨rfl, ⟨nd, rfl⟩⟩; (try first | exact ⟨rfl, _, World.drewN_drewN _ _ _⟩ | exact ⟨rfl, _, Eq.trans (World.drewN_drewN _ _ _) (congrArg (World.drewN _) (Nat.add_assoc _ _ _))⟩)))
    repeat (go_quiet (first | (go_at_call 25; (with_reducible refine (laws_big.calls _ _ l0 true _ ?side1 ?side2 A2.out).mono ?_); (case side1 => repeat (first | exact HR0.out | (with_reducible refine Kd.C_alloc ?_ _) | (with_reducible refine Kd.C_drewN ?_ _) | (with_reducible refine Kd.C_drew ?_))); (case side2 => exact HC0.out); rintro e w' ⟨rfl, ⟨nd, rfl⟩⟩; (try first | exact ⟨rfl, _, World.drewN_drewN _ _ _⟩ | exact ⟨rfl, _, Eq.trans (World.drewN_drewN _ _ _) (congrArg (World.drewN _) (Nat.add_assoc _ _ _))⟩))); try go_wp2_with (first | (go_at_call 25; (with_reducible refine (laws_big.calls _ _ l0 true _ ?side1 ?side2 A2.out).mono ?_); (case side1 => repeat (first | exact HR0.out | (with_reducible refine Kd.C_alloc ?_ _) | (with_reducible refine Kd.C_drewN ?_ _) | (with_reducible refine Kd.C_drew ?_))); (case side2 => exact HC0.out); rintro e w' ⟨rfl, ⟨nd, rfl⟩⟩; (try first | exact ⟨rfl, _, World.drewN_drewN _ _ _⟩ | exact ⟨rfl, _, Eq.trans (World.drewN_drewN _ _ _) (congrArg (World.drewN _) (Nat.add_assoc _ _ _))⟩))))
    go_ret
    exact ⟨by first | rfl | (simp [errW_none, errW_some] <;> rfl) | (simp [*, errW_none, errW_some] <;> rfl), by repeat (first | (with_reducible first | exact HB.out | apply below_alloc | apply pw_below_drewN | apply below_drew1) | exact HB.out)⟩
  · replace c3 := Bool.eq_false_iff.mpr c3
    subst c3
    have H1 : ((spec_DrawHeats.f k l0).bind fun t167 => ((laws_at.f l0 0).bind fun t170 => ((impl_BestHeats.f k t167 (wrap64 (t170 + 50))).bind fun bt171 => ((impl_OrderCost.f k t167 bt171.1 (wrap64 (t170 + 50))).bind fun t175 => ((impl_FallingOrder.f k t167).bind fun t176 => (if bt171.2 = true then (if (bt171.1.length : Int) = (t167.length : Int) then (if t175 < 0 then (laws_FnHeats.j0 k l0 t167 (wrap64 (t170 + 50)) t175 t176 true) else (if (t176.length : Int) = (t167.length : Int) then ((impl_OrderCost.f k t167 t176 (wrap64 (t170 + 50))).bind fun t179 => (laws_FnHeats.j0 k l0 t167 (wrap64 (t170 + 50)) t175 t176 (decide (t179 < t175)))) else (laws_FnHeats.j0 k l0 t167 (wrap64 (t170 + 50)) t175 t176 true))) else (laws_FnHeats.j0 k l0 t167 (wrap64 (t170 + 50)) t175 t176 true)) else (laws_FnHeats.j0 k l0 t167 (wrap64 (t170 + 50)) t175 t176 true))))))) = some r := by rw [if_neg (show ¬ (false = true) by decide)] at H; exact H
    clear H
    have H := H1
    clear H1
    replace H := Option.bind_eq_some_iff.mp H
    obtain ⟨t167, A40, H⟩ := H
    replace H : ((laws_at.f l0 0).bind fun t170 => ((impl_BestHeats.f k t167 (wrap64 (t170 + 50))).bind fun bt171 => ((impl_OrderCost.f k t167 bt171.1 (wrap64 (t170 + 50))).bind fun t175 => ((impl_FallingOrder.f k t167).bind fun t176 => (if bt171.2 = true then (if (bt171.1.length : Int) = (t167.length : Int) then (if t175 < 0 then (laws_FnHeats.j0 k l0 t167 (wrap64 (t170 + 50)) t175 t176 true) else (if (t176.length : Int) = (t167.length : Int) then ((impl_OrderCost.f k t167 t176 (wrap64 (t170 + 50))).bind fun t179 => (laws_FnHeats.j0 k l0 t167 (wrap64 (t170 + 50)) t175 t176 (decide (t179 < t175)))) else (laws_FnHeats.j0 k l0 t167 (wrap64 (t170 + 50)) t175 t176 true))) else (laws_FnHeats.j0 k l0 t167 (wrap64 (t170 + 50)) t175 t176 true)) else (laws_FnHeats.j0 k l0 t167 (wrap64 (t170 + 50)) t175 t176 true)))))) = some r := H
    have A4 := Aside0.mk A40
    clear A40
    replace H := Option.bind_eq_some_iff.mp H
    obtain ⟨t170, A50, H⟩ := H
    replace H : ((impl_BestHeats.f k t167 (wrap64 (t170 + 50))).bind fun bt171 => ((impl_OrderCost.f k t167 bt171.1 (wrap64 (t170 + 50))).bind fun t175 => ((impl_FallingOrder.f k t167).bind fun t176 => (if bt171.2 = true then (if (bt171.1.length : Int) = (t167.length : Int) then (if t175 < 0 then (laws_FnHeats.j0 k l0 t167 (wrap64 (t170 + 50)) t175 t176 true) else (if (t176.length : Int) = (t167.length : Int) then ((impl_OrderCost.f k t167 t176 (wrap64 (t170 + 50))).bind fun t179 => (laws_FnHeats.j0 k l0 t167 (wrap64 (t170 + 50)) t175 t176 (decide (t179 < t175)))) else (laws_FnHeats.j0 k l0 t167 (wrap64 (t170 + 50)) t175 t176 true))) else (laws_FnHeats.j0 k l0 t167 (wrap64 (t170 + 50)) t175 t176 true)) else (laws_FnHeats.j0 k l0 t167 (wrap64 (t170 + 50)) t175 t176 true))))) = some r := H
    have A5 := Aside0.mk A50
    clear A50
    replace H := Option.bind_eq_some_iff.mp H
    obtain ⟨⟨t171, t172⟩, A60, H⟩ := H
    replace H : ((impl_OrderCost.f k t167 t171 (wrap64 (t170 + 50))).bind fun t175 => ((impl_FallingOrder.f k t167).bind fun t176 => (if t172 = true then (if (t171.length : Int) = (t167.length : Int) then (if t175 < 0 then (laws_FnHeats.j0 k l0 t167 (wrap64 (t170 + 50)) t175 t176 true) else (if (t176.length : Int) = (t167.length : Int) then ((impl_OrderCost.f k t167 t176 (wrap64 (t170 + 50))).bind fun t179 => (laws_FnHeats.j0 k l0 t167 (wrap64 (t170 + 50)) t175 t176 (decide (t179 < t175)))) else (laws_FnHeats.j0 k l0 t167 (wrap64 (t170 + 50)) t175 t176 true))) else (laws_FnHeats.j0 k l0 t167 (wrap64 (t170 + 50)) t175 t176 true)) else (laws_FnHeats.j0 k l0 t167 (wrap64 (t170 + 50)) t175 t176 true)))) = some r := H
    have A6 := Aside0.mk A60
    clear A60
    replace H := Option.bind_eq_some_iff.mp H
    obtain ⟨t175, A70, H⟩ := H
    replace H : ((impl_FallingOrder.f k t167).bind fun t176 => (if t172 = true then (if (t171.length : Int) = (t167.length : Int) then (if t175 < 0 then (laws_FnHeats.j0 k l0 t167 (wrap64 (t170 + 50)) t175 t176 true) else (if (t176.length : Int) = (t167.length : Int) then ((impl_OrderCost.f k t167 t176 (wrap64 (t170 + 50))).bind fun t179 => (laws_FnHeats.j0 k l0 t167 (wrap64 (t170 + 50)) t175 t176 (decide (t179 < t175)))) else (laws_FnHeats.j0 k l0 t167 (wrap64 (t170 + 50)) t175 t176 true))) else (laws_FnHeats.j0 k l0 t167 (wrap64 (t170 + 50)) t175 t176 true)) else (laws_FnHeats.j0 k l0 t167 (wrap64 (t170 + 50)) t175 t176 true))) = some r := H
    have A7 := Aside0.mk A70
    clear A70
    replace H := Option.bind_eq_some_iff.mp H
    obtain ⟨t176, A80, H⟩ := H
    replace H : (if t172 = true then (if (t171.length : Int) = (t167.length : Int) then (if t175 < 0 then (laws_FnHeats.j0 k l0 t167 (wrap64 (t170 + 50)) t175 t176 true) else (if (t176.length : Int) = (t167.length : Int) then ((impl_OrderCost.f k t167 t176 (wrap64 (t170 + 50))).bind fun t179 => (laws_FnHeats.j0 k l0 t167 (wrap64 (t170 + 50)) t175 t176 (decide (t179 < t175)))) else (laws_FnHeats.j0 k l0 t167 (wrap64 (t170 + 50)) t175 t176 true))) else (laws_FnHeats.j0 k l0 t167 (wrap64 (t170 + 50)) t175 t176 true)) else (laws_FnHeats.j0 k l0 t167 (wrap64 (t170 + 50)) t175 t176 true)) = some r := H
    have A8 := Aside0.mk A80
    clear A80
    have HC9 := Aside0.mk H
    clear H
    go_enter Try.func8, Try.ntmps8
    go_upto_region 8 with (first | (go_at_call 25; (with_reducible refine (laws_big.calls _ _ l0 false _ ?side1 ?side2 A2.out).mono ?_); (case side1 => repeat (first | exact HR0.out | (with_reducible refine Kd.C_alloc ?_ _) | (with_reducible refine Kd.C_drewN ?_ _) | (with_reducible refine Kd.C_drew ?_))); (case side2 => exact HC0.out); rintro e w' ⟨rfl, ⟨nd, rfl⟩⟩; (try first | exact ⟨rfl, _, World.drewN_drewN _ _ _⟩ | exact ⟨rfl, _, Eq.trans (World.drewN_drewN _ _ _) (congrArg (World.drewN _) (Nat.add_assoc _ _ _))⟩)) | (go_at_call 32; (with_reducible refine (spec_DrawHeats.calls k _ _ l0 t167 _ ?side1 ?side2 A4.out).mono ?_); (case side1 => repeat (first | exact HR0.out | (with_reducible refine Kd.C_alloc ?_ _) | (with_reducible refine Kd.C_drewN ?_ _) | (with_reducible refine Kd.C_drew ?_))); (case side2 => exact HC0.out); rintro e w10 ⟨v168, rfl, ho0, hb⟩; have n0_ := Aside0.mk (Kd.R_lower ho0 (below_size (by repeat (first | (with_reducible first | exact HB.out | apply below_alloc | apply pw_below_drewN | apply below_drew1) | exact HB.out)))); have n1_ := Aside0.mk (below_step (by repeat (first | (with_reducible first | exact HB.out | apply below_alloc | apply pw_below_drewN | apply below_drew1) | exact HB.out)) hb); clear HB; have HO169 := n0_; have HB := n1_; clear n0_ n1_; (try clear hb); (try clear hb2); (try clear hk); (try clear hi); (try clear ho0)) | (go_at_call 27; (with_reducible refine (laws_at.calls _ _ l0 0 t170 _ ?side1 ?side2 A5.out).mono ?_); (case side1 => repeat (first | exact (Kd.C_below HR0.out HB.out) | (with_reducible refine Kd.C_alloc ?_ _) | (with_reducible refine Kd.C_drewN ?_ _) | (with_reducible refine Kd.C_drew ?_))); (case side2 => exact HC0.out); rintro e w' ⟨rfl, ⟨nd, rfl⟩⟩; (try first | exact ⟨rfl, _, World.drewN_drewN _ _ _⟩ | exact ⟨rfl, _, Eq.trans (World.drewN_drewN _ _ _) (congrArg (World.drewN _) (Nat.add_assoc _ _ _))⟩); obtain ⟨Ao11, co11, eo11⟩ := Kd.R_slice HO169.out; subst eo11) | (go_at_call 33; (with_reducible refine (impl_BestHeats.calls k _ _ t167 (wrap64 (t170 + 50)) t171 t172 _ ?side1 ?side2 A6.out).mono ?_); (case side1 => repeat (first | exact (Kd.R_reads' HO169.out).2.2 | (with_reducible refine Kd.C_alloc ?_ _) | (with_reducible refine Kd.C_drewN ?_ _) | (with_reducible refine Kd.C_drew ?_))); (case side2 => exact (Kd.R_reads' HO169.out).2.1); rintro e w12 ⟨v173, rfl, ho0, hb⟩; have n0_ := Aside0.mk (Kd.R_elder' (by (with_reducible repeat (first | apply Kd.R_alloc | apply Kd.R_drewN | apply Kd.R_drew)); exact HO169.out) (Kd.R_base ho0) hb); have n1_ := Aside0.mk (Kd.R_lower (Kd.R_new' ho0 (Kd.R_lt (by (with_reducible repeat (first | apply Kd.R_alloc | apply Kd.R_drewN | apply Kd.R_drew)); exact HO169.out))) (below_size (by repeat (first | (with_reducible first | exact HB.out | apply below_alloc | apply pw_below_drewN | apply below_drew1) | exact HB.out)))); have n2_ := Aside0.mk (below_step (by repeat (first | (with_reducible first | exact HB.out | apply below_alloc | apply pw_below_drewN | apply below_drew1) | exact HB.out)) hb); clear HO169; clear HB; have HO169 := n0_; have HO174 := n1_; have HB := n2_; clear n0_ n1_ n2_; (try clear hb); (try clear hb2); (try clear hk); (try clear hi); (try clear ho0); obtain ⟨Ao13, co13, eo13⟩ := Kd.R_slice HO174.out; subst eo13) | (go_at_call 34; (with_reducible refine (impl_OrderCost.calls k _ _ t167 _ _ t171 (wrap64 (t170 + 50)) t175 _ ?side1 ?side2 ?side3 ?side4 A7.out).mono ?_); (case side1 => repeat (first | exact (Kd.R_reads' HO169.out).2.2 | (with_reducible refine Kd.C_alloc ?_ _) | (with_reducible refine Kd.C_drewN ?_ _) | (with_reducible refine Kd.C_drew ?_))); (case side2 => exact (Kd.R_reads' HO169.out).2.1); (case side3 => repeat (first | exact (Kd.R_reads' HO174.out).2.2 | (with_reducible refine Kd.C_alloc ?_ _) | (with_reducible refine Kd.C_drewN ?_ _) | (with_reducible refine Kd.C_drew ?_))); (case side4 => exact (Kd.R_reads' HO174.out).2.1); rintro e w14 ⟨rfl, hb⟩; have n0_ := Aside0.mk (Kd.R_below (by (with_reducible repeat (first | apply Kd.R_alloc | apply Kd.R_drewN | apply Kd.R_drew)); exact HO169.out) hb); have n1_ := Aside0.mk (Kd.R_below (by (with_reducible repeat (first | apply Kd.R_alloc | apply Kd.R_drewN | apply Kd.R_drew)); exact HO174.out) hb); have n2_ := Aside0.mk (below_step (by repeat (first | (with_reducible first | exact HB.out | apply below_alloc | apply pw_below_drewN | apply below_drew1) | exact HB.out)) hb); clear HO169; clear HO174; clear HB; have HO169 := n0_; have HO174 := n1_; have HB := n2_; clear n0_ n1_ n2_; (try clear hb); (try clear hb2); (try clear hk); (try clear hi)) | (go_at_call 31; (with_reducible refine (impl_FallingOrder.calls k _ _ t167 t176 _ ?side1 ?side2 A8.out).mono ?_); (case side1 => repeat (first | exact (Kd.R_reads' HO169.out).2.2 | (with_reducible refine Kd.C_alloc ?_ _) | (with_reducible refine Kd.C_drewN ?_ _) | (with_reducible refine Kd.C_drew ?_))); (case side2 => exact (Kd.R_reads' HO169.out).2.1); rintro e w15 ⟨v177, rfl, ho0, hb⟩; have n0_ := Aside0.mk (Kd.R_elder' (by (with_reducible repeat (first | apply Kd.R_alloc | apply Kd.R_drewN | apply Kd.R_drew)); exact HO169.out) (Kd.R_base ho0) hb); have n1_ := Aside0.mk (Kd.R_elder' (by (with_reducible repeat (first | apply Kd.R_alloc | apply Kd.R_drewN | apply Kd.R_drew)); exact HO174.out) (Kd.R_base ho0) hb); have n2_ := Aside0.mk (Kd.R_lower (Kd.R_new' (Kd.R_new' ho0 (Kd.R_lt (by (with_reducible repeat (first | apply Kd.R_alloc | apply Kd.R_drewN | apply Kd.R_drew)); exact HO169.out))) (Kd.R_lt (by (with_reducible repeat (first | apply Kd.R_alloc | apply Kd.R_drewN | apply Kd.R_drew)); exact HO174.out))) (below_size (by repeat (first | (with_reducible first | exact HB.out | apply below_alloc | apply pw_below_drewN | apply below_drew1) | exact HB.out)))); have n3_ := Aside0.mk (below_step (by repeat (first | (with_reducible first | exact HB.out | apply below_alloc | apply pw_below_drewN | apply below_drew1) | exact HB.out)) hb); clear HO169; clear HO174; clear HB; have HO169 := n0_; have HO174 := n1_; have HO178 := n2_; have HB := n3_; clear n0_ n1_ n2_ n3_; (try clear hb); (try clear hb2); (try clear hk); (try clear hi); (try clear ho0)))
    repeat (go_quiet (first | (go_at_call 25; (with_reducible refine (laws_big.calls _ _ l0 false _ ?side1 ?side2 A2.out).mono ?_); (case side1 => repeat (first | exact HR0.out | (with_reducible refine Kd.C_alloc ?_ _) | (with_reducible refine Kd.C_drewN ?_ _) | (with_reducible refine Kd.C_drew ?_))); (case side2 => exact HC0.out); rintro e w' ⟨rfl, ⟨nd, rfl⟩⟩; (try first | exact ⟨rfl, _, World.drewN_drewN _ _ _⟩ | exact ⟨rfl, _, Eq.trans (World.drewN_drewN _ _ _) (congrArg (World.drewN _) (Nat.add_assoc _ _ _))⟩)) | (go_at_call 32; (with_reducible refine (spec_DrawHeats.calls k _ _ l0 t167 _ ?side1 ?side2 A4.out).mono ?_); (case side1 => repeat (first | exact HR0.out | (with_reducible refine Kd.C_alloc ?_ _) | (with_reducible refine Kd.C_drewN ?_ _) | (with_reducible refine Kd.C_drew ?_))); (case side2 => exact HC0.out); rintro e w10 ⟨v168, rfl, ho0, hb⟩; have n0_ := Aside0.mk (Kd.R_lower ho0 (below_size (by repeat (first | (with_reducible first | exact HB.out | apply below_alloc | apply pw_below_drewN | apply below_drew1) | exact HB.out)))); have n1_ := Aside0.mk (below_step (by repeat (first | (with_reducible first | exact HB.out | apply below_alloc | apply pw_below_drewN | apply below_drew1) | exact HB.out)) hb); clear HB; have HO169 := n0_; have HB := n1_; clear n0_ n1_; (try clear hb); (try clear hb2); (try clear hk); (try clear hi); (try clear ho0)) | (go_at_call 27; (with_reducible refine (laws_at.calls _ _ l0 0 t170 _ ?side1 ?side2 A5.out).mono ?_); (case side1 => repeat (first | exact (Kd.C_below HR0.out HB.out) | (with_reducible refine Kd.C_alloc ?_ _) | (with_reducible refine Kd.C_drewN ?_ _) | (with_reducible refine Kd.C_drew ?_))); (case side2 => exact HC0.out); rintro e w' ⟨rfl, ⟨nd, rfl⟩⟩; (try first | exact ⟨rfl, _, World.drewN_drewN _ _ _⟩ | exact ⟨rfl, _, Eq.trans (World.drewN_drewN _ _ _) (congrArg (World.drewN _) (Nat.add_assoc _ _ _))⟩); obtain ⟨Ao11, co11, eo11⟩ := Kd.R_slice HO169.out; subst eo11) | (go_at_call 33; (with_reducible refine (impl_BestHeats.calls k _ _ t167 (wrap64 (t170 + 50)) t171 t172 _ ?side1 ?side2 A6.out).mono ?_); (case side1 => repeat (first | exact (Kd.R_reads' HO169.out).2.2 | (with_reducible refine Kd.C_alloc ?_ _) | (with_reducible refine Kd.C_drewN ?_ _) | (with_reducible refine Kd.C_drew ?_))); (case side2 => exact (Kd.R_reads' HO169.out).2.1); rintro e w12 ⟨v173, rfl, ho0, hb⟩; have n0_ := Aside0.mk (Kd.R_elder' (by (with_reducible repeat (first | apply Kd.R_alloc | apply Kd.R_drewN | apply Kd.R_drew)); exact HO169.out) (Kd.R_base ho0) hb); have n1_ := Aside0.mk (Kd.R_lower (Kd.R_new' ho0 (Kd.R_lt (by (with_reducible repeat (first | apply Kd.R_alloc | apply Kd.R_drewN | apply Kd.R_drew)); exact HO169.out))) (below_size (by repeat (first | (with_reducible first | exact HB.out | apply below_alloc | apply pw_below_drewN | apply below_drew1) | exact HB.out)))); have n2_ := Aside0.mk (below_step (by repeat (first | (with_reducible first | exact HB.out | apply below_alloc | apply pw_below_drewN | apply below_drew1) | exact HB.out)) hb); clear HO169; clear HB; have HO169 := n0_; have HO174 := n1_; have HB := n2_; clear n0_ n1_ n2_; (try clear hb); (try clear hb2); (try clear hk); (try clear hi); (try clear ho0); obtain ⟨Ao13, co13, eo13⟩ := Kd.R_slice HO174.out; subst eo13) | (go_at_call 34; (with_reducible refine (impl_OrderCost.calls k _ _ t167 _ _ t171 (wrap64 (t170 + 50)) t175 _ ?side1 ?side2 ?side3 ?side4 A7.out).mono ?_); (case side1 => repeat (first | exact (Kd.R_reads' HO169.out).2.2 | (with_reducible refine Kd.C_alloc ?_ _) | (with_reducible refine Kd.C_drewN ?_ _) | (with_reducible refine Kd.C_drew ?_))); (case side2 => exact (Kd.R_reads' HO169.out).2.1); (case side3 => repeat (first | exact (Kd.R_reads' HO174.out).2.2 | (with_reducible refine Kd.C_alloc ?_ _) | (with_reducible refine Kd.C_drewN ?_ _) | (with_reducible refine Kd.C_drew ?_))); (case side4 => exact (Kd.R_reads' HO174.out).2.1); rintro e w14 ⟨rfl, hb⟩; have n0_ := Aside0.mk (Kd.R_below (by (with_reducible repeat (first | apply Kd.R_alloc | apply Kd.R_drewN | apply Kd.R_drew)); exact HO169.out) hb); have n1_ := Aside0.mk (Kd.R_below (by (with_reducible repeat (first | apply Kd.R_alloc | apply Kd.R_drewN | apply Kd.R_drew)); exact HO174.out) hb); have n2_ := Aside0.mk (below_step (by repeat (first | (with_reducible first | exact HB.out | apply below_alloc | apply pw_below_drewN | apply below_drew1) | exact HB.out)) hb); clear HO169; clear HO174; clear HB; have HO169 := n0_; have HO174 := n1_; have HB := n2_; clear n0_ n1_ n2_; (try clear hb); (try clear hb2); (try clear hk); (try clear hi)) | (go_at_call 31; (with_reducible refine (impl_FallingOrder.calls k _ _ t167 t176 _ ?side1 ?side2 A8.out).mono ?_); (case side1 => repeat (first | exact (Kd.R_reads' HO169.out).2.2 | (with_reducible refine Kd.C_alloc ?_ _) | (with_reducible refine Kd.C_drewN ?_ _) | (with_reducible refine Kd.C_drew ?_))); (case side2 => exact (Kd.R_reads' HO169.out).2.1); rintro e w15 ⟨v177, rfl, ho0, hb⟩; have n0_ := Aside0.mk (Kd.R_elder' (by (with_reducible repeat (first | apply Kd.R_alloc | apply Kd.R_drewN | apply Kd.R_drew)); exact HO169.out) (Kd.R_base ho0) hb); have n1_ := Aside0.mk (Kd.R_elder' (by (with_reducible repeat (first | apply Kd.R_alloc | apply Kd.R_drewN | apply Kd.R_drew)); exact HO174.out) (Kd.R_base ho0) hb); have n2_ := Aside0.mk (Kd.R_lower (Kd.R_new' (Kd.R_new' ho0 (Kd.R_lt (by (with_reducible repeat (first | apply Kd.R_alloc | apply Kd.R_drewN | apply Kd.R_drew)); exact HO169.out))) (Kd.R_lt (by (with_reducible repeat (first | apply Kd.R_alloc | apply Kd.R_drewN | apply Kd.R_drew)); exact HO174.out))) (below_size (by repeat (first | (with_reducible first | exact HB.out | apply below_alloc | apply pw_below_drewN | apply below_drew1) | exact HB.out)))); have n3_ := Aside0.mk (below_step (by repeat (first | (with_reducible first | exact HB.out | apply below_alloc | apply pw_below_drewN | apply below_drew1) | exact HB.out)) hb); clear HO169; clear HO174; clear HB; have HO169 := n0_; have HO174 := n1_; have HO178 := n2_; have HB := n3_; clear n0_ n1_ n2_ n3_; (try clear hb); (try clear hb2); (try clear hk); (try clear hi); (try clear ho0))); go_upto_region 8 with (first | (go_at_call 25; (with_reducible refine (laws_big.calls _ _ l0 false _ ?side1 ?side2 A2.out).mono ?_); (case side1 => repeat (first | exact HR0.out | (with_reducible refine Kd.C_alloc ?_ _) | (with_reducible refine Kd.C_drewN ?_ _) | (with_reducible refine Kd.C_drew ?_))); (case side2 => exact HC0.out); rintro e w' ⟨rfl, ⟨nd, rfl⟩⟩; (try first | exact ⟨rfl, _, World.drewN_drewN _ _ _⟩ | exact ⟨rfl, _, Eq.trans (World.drewN_drewN _ _ _) (congrArg (World.drewN _) (Nat.add_assoc _ _ _))⟩)) | (go_at_call 32; (with_reducible refine (spec_DrawHeats.calls k _ _ l0 t167 _ ?side1 ?side2 A4.out).mono ?_); (case side1 => repeat (first | exact HR0.out | (with_reducible refine Kd.C_alloc ?_ _) | (with_reducible refine Kd.C_drewN ?_ _) | (with_reducible refine Kd.C_drew ?_))); (case side2 => exact HC0.out); rintro e w10 ⟨v168, rfl, ho0, hb⟩; have n0_ := Aside0.mk (Kd.R_lower ho0 (below_size (by repeat (first | (with_reducible first | exact HB.out | apply below_alloc | apply pw_below_drewN | apply below_drew1) | exact HB.out)))); have n1_ := Aside0.mk (below_step (by repeat (first | (with_reducible first | exact HB.out | apply below_alloc | apply pw_below_drewN | apply below_drew1) | exact HB.out)) hb); clear HB; have HO169 := n0_; have HB := n1_; clear n0_ n1_; (try clear hb); (try clear hb2); (try clear hk); (try clear hi); (try clear ho0)) | (go_at_call 27; (with_reducible refine (laws_at.calls _ _ l0 0 t170 _ ?side1 ?side2 A5.out).mono ?_); (case side1 => repeat (first | exact (Kd.C_below HR0.out HB.out) | (with_reducible refine Kd.C_alloc ?_ _) | (with_reducible refine Kd.C_drewN ?_ _) | (with_reducible refine Kd.C_drew ?_))); (case side2 => exact HC0.out); rintro e w' ⟨rfl, ⟨nd, rfl⟩⟩; (try first | exact ⟨rfl, _, World.drewN_drewN _ _ _⟩ | exact ⟨rfl, _, Eq.trans (World.drewN_drewN _ _ _) (congrArg (World.drewN _) (Nat.add_assoc _ _ _))⟩); obtain ⟨Ao11, co11, eo11⟩ := Kd.R_slice HO169.out; subst eo11) | (go_at_call 33; (with_reducible refine (impl_BestHeats.calls k _ _ t167 (wrap64 (t170 + 50)) t171 t172 _ ?side1 ?side2 A6.out).mono ?_); (case side1 => repeat (first | exact (Kd.R_reads' HO169.out).2.2 | (with_reducible refine Kd.C_alloc ?_ _) | (with_reducible refine Kd.C_drewN ?_ _) | (with_reducible refine Kd.C_drew ?_))); (case side2 => exact (Kd.R_reads' HO169.out).2.1); rintro e w12 ⟨v173, rfl, ho0, hb⟩; have n0_ := Aside0.mk (Kd.R_elder' (by (with_reducible repeat (first | apply Kd.R_alloc | apply Kd.R_drewN | apply Kd.R_drew)); exact HO169.out) (Kd.R_base ho0) hb); have n1_ := Aside0.mk (Kd.R_lower (Kd.R_new' ho0 (Kd.R_lt (by (with_reducible repeat (first | apply Kd.R_alloc | apply Kd.R_drewN | apply Kd.R_drew)); exact HO169.out))) (below_size (by repeat (first | (with_reducible first | exact HB.out | apply below_alloc | apply pw_below_drewN | apply below_drew1) | exact HB.out)))); have n2_ := Aside0.mk (below_step (by repeat (first | (with_reducible first | exact HB.out | apply below_alloc | apply pw_below_drewN | apply below_drew1) | exact HB.out)) hb); clear HO169; clear HB; have HO169 := n0_; have HO174 := n1_; have HB := n2_; clear n0_ n1_ n2_; (try clear hb); (try clear hb2); (try clear hk); (try clear hi); (try clear ho0); obtain ⟨Ao13, co13, eo13⟩ := Kd.R_slice HO174.out; subst eo13) | (go_at_call 34; (with_reducible refine (impl_OrderCost.calls k _ _ t167 _ _ t171 (wrap64 (t170 + 50)) t175 _ ?side1 ?side2 ?side3 ?side4 A7.out).mono ?_); (case side1 => repeat (first | exact (Kd.R_reads' HO169.out).2.2 | (with_reducible refine Kd.C_alloc ?_ _) | (with_reducible refine Kd.C_drewN ?_ _) | (with_reducible refine Kd.C_drew ?_))); (case side2 => exact (Kd.R_reads' HO169.out).2.1); (case side3 => repeat (first | exact (Kd.R_reads' HO174.out).2.2 | (with_reducible refine Kd.C_alloc ?_ _) | (with_reducible refine Kd.C_drewN ?_ _) | (with_reducible refine Kd.C_drew ?_))); (case side4 => exact (Kd.R_reads' HO174.out).2.1); rintro e w14 ⟨rfl, hb⟩; have n0_ := Aside0.mk (Kd.R_below (by (with_reducible repeat (first | apply Kd.R_alloc | apply Kd.R_drewN | apply Kd.R_drew)); exact HO169.out) hb); have n1_ := Aside0.mk (Kd.R_below (by (with_reducible repeat (first | apply Kd.R_alloc | apply Kd.R_drewN | apply Kd.R_drew)); exact HO174.out) hb); have n2_ := Aside0.mk (below_step (by repeat (first | (with_reducible first | exact HB.out | apply below_alloc | apply pw_below_drewN | apply below_drew1) | exact HB.out)) hb); clear HO169; clear HO174; clear HB; have HO169 := n0_; have HO174 := n1_; have HB := n2_; clear n0_ n1_ n2_; (try clear hb); (try clear hb2); (try clear hk); (try clear hi)) | (go_at_call 31; (with_reducible refine (impl_FallingOrder.calls k _ _ t167 t176 _ ?side1 ?side2 A8.out).mono ?_); (case side1 => repeat (first | exact (Kd.R_reads' HO169.out).2.2 | (with_reducible refine Kd.C_alloc ?_ _) | (with_reducible refine Kd.C_drewN ?_ _) | (with_reducible refine Kd.C_drew ?_))); (case side2 => exact (Kd.R_reads' HO169.out).2.1); rintro e w15 ⟨v177, rfl, ho0, hb⟩; have n0_ := Aside0.mk (Kd.R_elder' (by (with_reducible repeat (first | apply Kd.R_alloc | apply Kd.R_drewN | apply Kd.R_drew)); exact HO169.out) (Kd.R_base ho0) hb); have n1_ := Aside0.mk (Kd.R_elder' (by (with_reducible repeat (first | apply Kd.R_alloc | apply Kd.R_drewN | apply Kd.R_drew)); exact HO174.out) (Kd.R_base ho0) hb); have n2_ := Aside0.mk (Kd.R_lower (Kd.R_new' (Kd.R_new' ho0 (Kd.R_lt (by (with_reducible repeat (first | apply Kd.R_alloc | apply Kd.R_drewN | apply Kd.R_drew)); exact HO169.out))) (Kd.R_lt (by (with_reducible repeat (first | apply Kd.R_alloc | apply Kd.R_drewN | apply Kd.R_drew)); exact HO174.out))) (below_size (by repeat (first | (with_reducible first | exact HB.out | apply below_alloc | apply pw_below_drewN | apply below_drew1) | exact HB.out)))); have n3_ := Aside0.mk (below_step (by repeat (first | (with_reducible first | exact HB.out | apply below_alloc | apply pw_below_drewN | apply below_drew1) | exact HB.out)) hb); clear HO169; clear HO174; clear HB; have HO169 := n0_; have HO174 := n1_; have HO178 := n2_; have HB := n3_; clear n0_ n1_ n2_ n3_; (try clear hb); (try clear hb2); (try clear hk); (try clear hi); (try clear ho0))))
    (try simp only [Act.put, List.setIfInBounds_toArray, List.set_cons_zero, List.set_cons_succ])
    go_cut [62] (fun v62 wc => ∃ (kq : Nat) (x62_8 : Bool), v62 = .bool x62_8 ∧ Aside0 (laws_FnHeats.j0 kq l0 t167 (wrap64 (t170 + 50)) t175 t176 x62_8 = some r) ∧ Aside0 (kq ≤ k) ∧ Aside0 (Kd.R (Kd.int .i64) 3 wc w.heap.size (fun k_ => some k_ ≠ (v177 : Value).ownBlock) (.slice Ao11 t167.length co11) t167) ∧ Aside0 (Kd.R (Kd.int .i64) 3 wc w.heap.size (fun k_ => some k_ ≠ ((.slice Ao11 t167.length co11) : Value).ownBlock) v177 t176) ∧ Aside0 (Below w.heap.size w wc))
    case first =>
      have H := HC9.out
      clear HC9
      by_cases c16 : t172 = true
      · subst c16
        have H1 : (if (t171.length : Int) = (t167.length : Int) then (if t175 < 0 then (laws_FnHeats.j0 k l0 t167 (wrap64 (t170 + 50)) t175 t176 true) else (if (t176.length : Int) = (t167.length : Int) then ((impl_OrderCost.f k t167 t176 (wrap64 (t170 + 50))).bind fun t179 => (laws_FnHeats.j0 k l0 t167 (wrap64 (t170 + 50)) t175 t176 (decide (t179 < t175)))) else (laws_FnHeats.j0 k l0 t167 (wrap64 (t170 + 50)) t175 t176 true))) else (laws_FnHeats.j0 k l0 t167 (wrap64 (t170 + 50)) t175 t176 true)) = some r := by rw [if_pos rfl] at H; exact H
        clear H
        have H := H1
        clear H1
        by_cases c17 : (t171.length : Int) = (t167.length : Int)
        · rw [if_pos c17] at H
          have c17b0 : ((t171.length : Int) == (t167.length : Int)) = true := beq_iff_eq.mpr c17
          have c17b1 : ((t171.length : Int) != (t167.length : Int)) = false := bne_eq_false_iff_eq.mpr c17
          have c17b2 : (t171.length == t167.length) = true := by first | simpa using c17 | (simp at c17 ⊢; omega)
          clear c17
          (first | rw [c17b0] | (simp only [i64_w, i32_w]; rw [c17b0]) | skip)
          by_cases c18 : t175 < 0
          · rw [if_pos c18] at H
            have c18b0 : decide (t175 < 0) = true := decide_eq_true c18
            clear c18
            have H' := Aside0.mk H
            first | exact (laws_FnHeats.j0_no H'.out hr_.out).elim | exact (laws_FnHeats.j3_no H'.out hr_.out).elim
          · rw [if_neg c18] at H
            have c18b0 : decide (t175 < 0) = false := decide_eq_false c18
            clear c18
            by_cases c19 : (t176.length : Int) = (t167.length : Int)
            · rw [if_pos c19] at H
              have c19b0 : ((t176.length : Int) == (t167.length : Int)) = true := beq_iff_eq.mpr c19
              have c19b1 : ((t176.length : Int) != (t167.length : Int)) = false := bne_eq_false_iff_eq.mpr c19
              have c19b2 : (t176.length == t167.length) = true := by first | simpa using c19 | (simp at c19 ⊢; omega)
              clear c19
              replace H := Option.bind_eq_some_iff.mp H
              obtain ⟨t179, A200, H⟩ := H
              replace H : (laws_FnHeats.j0 k l0 t167 (wrap64 (t170 + 50)) t175 t176 (decide (t179 < t175))) = some r := H
              have A20 := Aside0.mk A200
              clear A200
              have H' := Aside0.mk H
              clear H
              obtain ⟨Ao21, co21, eo21⟩ := Kd.R_slice HO178.out
              subst eo21
              go_wp2_with (first | (go_at_call 34; (with_reducible refine (impl_OrderCost.calls k _ _ t167 _ _ t176 (wrap64 (t170 + 50)) t179 _ ?side1 ?side2 ?side3 ?side4 A20.out).mono ?_); (case side1 => repeat (first | exact (Kd.R_reads' HO169.out).2.2 | (with_reducible refine Kd.C_alloc ?_ _) | (with_reducible refine Kd.C_drewN ?_ _) | (with_reducible refine Kd.C_drew ?_))); (case side2 => exact (Kd.R_reads' HO169.out).2.1); (case side3 => repeat (first | exact (Kd.R_reads' HO178.out).2.2 | (with_reducible refine Kd.C_alloc ?_ _) | (with_reducible refine Kd.C_drewN ?_ _) | (with_reducible refine Kd.C_drew ?_))); (case side4 => exact (Kd.R_reads' HO178.out).2.1); rintro e w22 ⟨rfl, hb⟩; have n0_ := Aside0.mk (Kd.R_below (by (with_reducible repeat (first | apply Kd.R_alloc | apply Kd.R_drewN | apply Kd.R_drew)); exact HO169.out) hb); have n1_ := Aside0.mk (Kd.R_below (by (with_reducible repeat (first | apply Kd.R_alloc | apply Kd.R_drewN | apply Kd.R_drew)); exact HO174.out) hb); have n2_ := Aside0.mk (Kd.R_below (by (with_reducible repeat (first | apply Kd.R_alloc | apply Kd.R_drewN | apply Kd.R_drew)); exact HO178.out) hb); have n3_ := Aside0.mk (below_step (by repeat (first | (with_reducible first | exact HB.out | apply below_alloc | apply pw_below_drewN | apply below_drew1) | exact HB.out)) hb); clear HO169; clear HO174; clear HO178; clear HB; have HO169 := n0_; have HO174 := n1_; have HO178 := n2_; have HB := n3_; clear n0_ n1_ n2_ n3_; (try clear hb); (try clear hb2); (try clear hk); (try clear hi)))
              repeat (go_quiet (first | (go_at_call 34; (with_reducible refine (impl_OrderCost.calls k _ _ t167 _ _ t176 (wrap64 (t170 + 50)) t179 _ ?side1 ?side2 ?side3 ?side4 A20.out).mono ?_); (case side1 => repeat (first | exact (Kd.R_reads' HO169.out).2.2 | (with_reducible refine Kd.C_alloc ?_ _) | (with_reducible refine Kd.C_drewN ?_ _) | (with_reducible refine Kd.C_drew ?_))); (case side2 => exact (Kd.R_reads' HO169.out).2.1); (case side3 => repeat (first | exact (Kd.R_reads' HO178.out).2.2 | (with_reducible refine Kd.C_alloc ?_ _) | (with_reducible refine Kd.C_drewN ?_ _) | (with_reducible refine Kd.C_drew ?_))); (case side4 => exact (Kd.R_reads' HO178.out).2.1); rintro e w22 ⟨rfl, hb⟩; have n0_ := Aside0.mk (Kd.R_below (by (with_reducible repeat (first | apply Kd.R_alloc | apply Kd.R_drewN | apply Kd.R_drew)); exact HO169.out) hb); have n1_ := Aside0.mk (Kd.R_below (by (with_reducible repeat (first | apply Kd.R_alloc | apply Kd.R_drewN | apply Kd.R_drew)); exact HO174.out) hb); have n2_ := Aside0.mk (Kd.R_below (by (with_reducible repeat (first | apply Kd.R_alloc | apply Kd.R_drewN | apply Kd.R_drew)); exact HO178.out) hb); have n3_ := Aside0.mk (below_step (by repeat (first | (with_reducible first | exact HB.out | apply below_alloc | apply pw_below_drewN | apply below_drew1) | exact HB.out)) hb); clear HO169; clear HO174; clear HO178; clear HB; have HO169 := n0_; have HO174 := n1_; have HO178 := n2_; have HB := n3_; clear n0_ n1_ n2_ n3_; (try clear hb); (try clear hb2); (try clear hk); (try clear hi))); try go_wp2_with (first | (go_at_call 34; (with_reducible refine (impl_OrderCost.calls k _ _ t167 _ _ t176 (wrap64 (t170 + 50)) t179 _ ?side1 ?side2 ?side3 ?side4 A20.out).mono ?_); (case side1 => repeat (first | exact (Kd.R_reads' HO169.out).2.2 | (with_reducible refine Kd.C_alloc ?_ _) | (with_reducible refine Kd.C_drewN ?_ _) | (with_reducible refine Kd.C_drew ?_))); (case side2 => exact (Kd.R_reads' HO169.out).2.1); (case side3 => repeat (first | exact (Kd.R_reads' HO178.out).2.2 | (with_reducible refine Kd.C_alloc ?_ _) | (with_reducible refine Kd.C_drewN ?_ _) | (with_reducible refine Kd.C_drew ?_))); (case side4 => exact (Kd.R_reads' HO178.out).2.1); rintro e w22 ⟨rfl, hb⟩; have n0_ := Aside0.mk (Kd.R_below (by (with_reducible repeat (first | apply Kd.R_alloc | apply Kd.R_drewN | apply Kd.R_drew)); exact HO169.out) hb); have n1_ := Aside0.mk (Kd.R_below (by (with_reducible repeat (first | apply Kd.R_alloc | apply Kd.R_drewN | apply Kd.R_drew)); exact HO174.out) hb); have n2_ := Aside0.mk (Kd.R_below (by (with_reducible repeat (first | apply Kd.R_alloc | apply Kd.R_drewN | apply Kd.R_drew)); exact HO178.out) hb); have n3_ := Aside0.mk (below_step (by repeat (first | (with_reducible first | exact HB.out | apply below_alloc | apply pw_below_drewN | apply below_drew1) | exact HB.out)) hb); clear HO169; clear HO174; clear HO178; clear HB; have HO169 := n0_; have HO174 := n1_; have HO178 := n2_; have HB := n3_; clear n0_ n1_ n2_ n3_; (try clear hb); (try clear hb2); (try clear hk); (try clear hi))))
              go_meet
              case rel => exact ⟨_, (decide (t179 < t175)), (by first | rfl | (simp; done) | (simp [*]; done)), H', ⟨by first | omega | exact Nat.le_refl _⟩, ⟨by (with_reducible repeat (first | apply Kd.R_alloc | apply Kd.R_drewN | apply Kd.R_drew)); exact Kd.R_mono HO169.out (fun _ hk => hk.2)⟩, ⟨by (with_reducible repeat (first | apply Kd.R_alloc | apply Kd.R_drewN | apply Kd.R_drew)); exact Kd.R_mono HO178.out (fun _ hk => hk.1.2)⟩, ⟨by repeat (first | (with_reducible first | exact HB.out | apply below_alloc | apply pw_below_drewN | apply below_drew1) | exact HB.out)⟩⟩
            · rw [if_neg c19] at H
              have c19b0 : ((t176.length : Int) == (t167.length : Int)) = false := beq_eq_false_iff_ne.mpr c19
              have c19b1 : ((t176.length : Int) != (t167.length : Int)) = true := bne_iff_ne.mpr c19
              have c19b2 : (t176.length == t167.length) = false := by first | simpa using c19 | (simp at c19 ⊢; omega)
              have H' := Aside0.mk H
              first | exact (laws_FnHeats.j0_no H'.out hr_.out).elim | exact (laws_FnHeats.j3_no H'.out hr_.out).elim
        · rw [if_neg c17] at H
          have c17b0 : ((t171.length : Int) == (t167.length : Int)) = false := beq_eq_false_iff_ne.mpr c17
          have c17b1 : ((t171.length : Int) != (t167.length : Int)) = true := bne_iff_ne.mpr c17
          have c17b2 : (t171.length == t167.length) = false := by first | simpa using c17 | (simp at c17 ⊢; omega)
          (first | rw [c17b0] | (simp only [i64_w, i32_w]; rw [c17b0]) | skip)
          have H' := Aside0.mk H
          first | exact (laws_FnHeats.j0_no H'.out hr_.out).elim | exact (laws_FnHeats.j3_no H'.out hr_.out).elim
      · replace c16 := Bool.eq_false_iff.mpr c16
        subst c16
        have H1 : (laws_FnHeats.j0 k l0 t167 (wrap64 (t170 + 50)) t175 t176 true) = some r := by rw [if_neg (show ¬ (false = true) by decide)] at H; exact H
        clear H
        have H := H1
        clear H1
        have H' := Aside0.mk H
        first | exact (laws_FnHeats.j0_no H'.out hr_.out).elim | exact (laws_FnHeats.j3_no H'.out hr_.out).elim
    case rest =>
      clear HC9
      try clear c1
      try clear p2
      try clear c3
      try clear p6
      try clear c8
      try clear c16
      try clear c17
      try clear c17b0
      try clear c17b1
      try clear c17b2
      try clear c18
      try clear c18b0
      try clear c19
      try clear c19b0
      try clear c19b1
      try clear c19b2
      obtain ⟨kq, x62_8, rfl, HA, HJ8, HO_3, HO_8, HB⟩ := hcut
      cases kq with
      | zero => exact absurd HA.out (by simp [laws_FnHeats.j0])
      | succ kj8 =>
        have H := HA.out
        clear HA
        simp only [laws_FnHeats.j0] at H
        by_cases c24 : x62_8 = true
        · subst c24
          have H1 : (some false) = some r := by rw [if_pos rfl] at H; exact H
          clear H
          have H := H1
          clear H1
          exact absurd (Option.some.inj H) (by rw [hr_.out]; decide)
        · replace c24 := Bool.eq_false_iff.mpr c24
          subst c24
          have H1 : (laws_FnHeats.l0 kj8 l0 t167 (wrap64 (t170 + 50)) t175 t176 (([] : List Int)) 0) = some r := by rw [if_neg (show ¬ (false = true) by decide)] at H; exact H
          clear H
          have H := H1
          clear H1
          obtain ⟨y180, hy180⟩ : ∃ y_ : List Int, y_ = (([] : List Int)) := ⟨_, rfl⟩
          replace H : (laws_FnHeats.l0 kj8 l0 t167 (wrap64 (t170 + 50)) t175 t176 y180 0) = some r := by first | (rw [hy180]; with_reducible exact H) | (have H2_ := (Option.bind_some _ _).symm.trans H; rw [hy180]; with_reducible exact H2_) | (have H2_ := (Option.bind_some _ _).symm.trans H; with_reducible exact H2_) | with_reducible exact H | (rw [hy180]; exact H) | exact H
          have Ny180 := Aside0.mk hy180
          clear hy180
          have H' := Aside0.mk H
          clear H
          go_wp2_with (first | ((with_reducible refine gate_dst (N := 63) rfl ?_); (try (refine gate_guard (by rfl) ?_; dsimp only)); refine Kd.R_lit (Kd.int .i64) _ 3 ?hg (N := 63) ?hd (xs := ([] : List Int)) (inner := []) (ok := fun _ => True) (okp := fun _ => True) ?hr ?hp (fun _ hk => hk) trivial (Below.refl _ _) (Nat.le_refl _) (by simp) ?_; (case hd => rfl); (case hg => rfl); (case hr => first | (go_simp; done) | (go_simp; rfl)); (case hp => exact (Reps.none _ _)); intro v181 w25 ho26 hb hg_ hnew_; clear hg_ hnew_; (first | rw [← Ny180.out] at ho26 | (simp only [Int.reduceToNat] at ho26; rw [← Ny180.out] at ho26)); have n0_ := Aside0.mk (Kd.R_elder' (by (with_reducible repeat (first | apply Kd.R_alloc | apply Kd.R_drewN | apply Kd.R_drew)); exact HO_3.out) (Kd.R_base ho26) hb); have n1_ := Aside0.mk (Kd.R_elder' (by (with_reducible repeat (first | apply Kd.R_alloc | apply Kd.R_drewN | apply Kd.R_drew)); exact HO_8.out) (Kd.R_base ho26) hb); have n2_ := Aside0.mk (Kd.R_lower (Kd.R_new' (Kd.R_new' ho26 (Kd.R_lt (by (with_reducible repeat (first | apply Kd.R_alloc | apply Kd.R_drewN | apply Kd.R_drew)); exact HO_3.out))) (Kd.R_lt (by (with_reducible repeat (first | apply Kd.R_alloc | apply Kd.R_drewN | apply Kd.R_drew)); exact HO_8.out))) (below_size (by repeat (first | (with_reducible first | exact HB.out | apply below_alloc | apply pw_below_drewN | apply below_drew1) | exact HB.out)))); have n3_ := Aside0.mk (below_step (by repeat (first | (with_reducible first | exact HB.out | apply below_alloc | apply pw_below_drewN | apply below_drew1) | exact HB.out)) hb); clear HO_3; clear HO_8; clear HB; have HO_3 := n0_; have HO_8 := n1_; have HO182 := n2_; have HB := n3_; clear n0_ n1_ n2_ n3_; clear hb ho26))
          repeat (go_quiet (first | ((with_reducible refine gate_dst (N := 63) rfl ?_); (try (refine gate_guard (by rfl) ?_; dsimp only)); refine Kd.R_lit (Kd.int .i64) _ 3 ?hg (N := 63) ?hd (xs := ([] : List Int)) (inner := []) (ok := fun _ => True) (okp := fun _ => True) ?hr ?hp (fun _ hk => hk) trivial (Below.refl _ _) (Nat.le_refl _) (by simp) ?_; (case hd => rfl); (case hg => rfl); (case hr => first | (go_simp; done) | (go_simp; rfl)); (case hp => exact (Reps.none _ _)); intro v181 w25 ho26 hb hg_ hnew_; clear hg_ hnew_; (first | rw [← Ny180.out] at ho26 | (simp only [Int.reduceToNat] at ho26; rw [← Ny180.out] at ho26)); have n0_ := Aside0.mk (Kd.R_elder' (by (with_reducible repeat (first | apply Kd.R_alloc | apply Kd.R_drewN | apply Kd.R_drew)); exact HO_3.out) (Kd.R_base ho26) hb); have n1_ := Aside0.mk (Kd.R_elder' (by (with_reducible repeat (first | apply Kd.R_alloc | apply Kd.R_drewN | apply Kd.R_drew)); exact HO_8.out) (Kd.R_base ho26) hb); have n2_ := Aside0.mk (Kd.R_lower (Kd.R_new' (Kd.R_new' ho26 (Kd.R_lt (by (with_reducible repeat (first | apply Kd.R_alloc | apply Kd.R_drewN | apply Kd.R_drew)); exact HO_3.out))) (Kd.R_lt (by (with_reducible repeat (first | apply Kd.R_alloc | apply Kd.R_drewN | apply Kd.R_drew)); exact HO_8.out))) (below_size (by repeat (first | (with_reducible first | exact HB.out | apply below_alloc | apply pw_below_drewN | apply below_drew1) | exact HB.out)))); have n3_ := Aside0.mk (below_step (by repeat (first | (with_reducible first | exact HB.out | apply below_alloc | apply pw_below_drewN | apply below_drew1) | exact HB.out)) hb); clear HO_3; clear HO_8; clear HB; have HO_3 := n0_; have HO_8 := n1_; have HO182 := n2_; have HB := n3_; clear n0_ n1_ n2_ n3_; clear hb ho26)); try go_wp2_with (first | ((with_reducible refine gate_dst (N := 63) rfl ?_); (try (refine gate_guard (by rfl) ?_; dsimp only)); refine Kd.R_lit (Kd.int .i64) _ 3 ?hg (N := 63) ?hd (xs := ([] : List Int)) (inner := []) (ok := fun _ => True) (okp := fun _ => True) ?hr ?hp (fun _ hk => hk) trivial (Below.refl _ _) (Nat.le_refl _) (by simp) ?_; (case hd => rfl); (case hg => rfl); (case hr => first | (go_simp; done) | (go_simp; rfl)); (case hp => exact (Reps.none _ _)); intro v181 w25 ho26 hb hg_ hnew_; clear hg_ hnew_; (first | rw [← Ny180.out] at ho26 | (simp only [Int.reduceToNat] at ho26; rw [← Ny180.out] at ho26)); have n0_ := Aside0.mk (Kd.R_elder' (by (with_reducible repeat (first | apply Kd.R_alloc | apply Kd.R_drewN | apply Kd.R_drew)); exact HO_3.out) (Kd.R_base ho26) hb); have n1_ := Aside0.mk (Kd.R_elder' (by (with_reducible repeat (first | apply Kd.R_alloc | apply Kd.R_drewN | apply Kd.R_drew)); exact HO_8.out) (Kd.R_base ho26) hb); have n2_ := Aside0.mk (Kd.R_lower (Kd.R_new' (Kd.R_new' ho26 (Kd.R_lt (by (with_reducible repeat (first | apply Kd.R_alloc | apply Kd.R_drewN | apply Kd.R_drew)); exact HO_3.out))) (Kd.R_lt (by (with_reducible repeat (first | apply Kd.R_alloc | apply Kd.R_drewN | apply Kd.R_drew)); exact HO_8.out))) (below_size (by repeat (first | (with_reducible first | exact HB.out | apply below_alloc | apply pw_below_drewN | apply below_drew1) | exact HB.out)))); have n3_ := Aside0.mk (below_step (by repeat (first | (with_reducible first | exact HB.out | apply below_alloc | apply pw_below_drewN | apply below_drew1) | exact HB.out)) hb); clear HO_3; clear HO_8; clear HB; have HO_3 := n0_; have HO_8 := n1_; have HO182 := n2_; have HB := n3_; clear n0_ n1_ n2_ n3_; clear hb ho26)))
          go_loopg [9, 10] kj8 (fun kq v9 v10 w' => ∃ (x9_2 : List Int) (x10_2 : Int), v10 = .int .i64 x10_2 ∧ Aside0 (laws_FnHeats.l0 kq l0 t167 (wrap64 (t170 + 50)) t175 t176 x9_2 x10_2 = some r) ∧ Aside0 (kq ≤ kj8) ∧ Aside0 (Kd.R (Kd.int .i64) 3 w' w.heap.size (fun k_ => some k_ ≠ (v177 : Value).ownBlock ∧ some k_ ≠ (v9 : Value).ownBlock) (.slice Ao11 t167.length co11) t167) ∧ Aside0 (Kd.R (Kd.int .i64) 3 w' w.heap.size (fun k_ => some k_ ≠ ((.slice Ao11 t167.length co11) : Value).ownBlock ∧ some k_ ≠ (v9 : Value).ownBlock) v177 t176) ∧ Aside0 (Kd.R (Kd.int .i64) 3 w' w.heap.size (fun k_ => some k_ ≠ ((.slice Ao11 t167.length co11) : Value).ownBlock ∧ some k_ ≠ (v177 : Value).ownBlock) v9 x9_2) ∧ Aside0 (Below w.heap.size w w'))
          case atStart => exact ⟨(y180), (0), (by first | rfl | (simp; done) | (simp [*]; done)), H', ⟨Nat.le_refl _⟩, ⟨by (with_reducible repeat (first | apply Kd.R_alloc | apply Kd.R_drewN | apply Kd.R_drew)); exact HO_3.out⟩, ⟨by (with_reducible repeat (first | apply Kd.R_alloc | apply Kd.R_drewN | apply Kd.R_drew)); exact HO_8.out⟩, ⟨by (with_reducible repeat (first | apply Kd.R_alloc | apply Kd.R_drewN | apply Kd.R_drew)); exact Kd.R_mono HO182.out (fun _ hk => ⟨hk.1.2, hk.2⟩)⟩, ⟨by repeat (first | (with_reducible first | exact HB.out | apply below_alloc | apply pw_below_drewN | apply below_drew1) | exact HB.out)⟩⟩
          case round =>
            clear H'
            try clear c1
            try clear c2
            try clear p2
            try clear c3
            try clear p6
            try clear c8
            try clear c16
            try clear c17
            try clear c17b0
            try clear c17b1
            try clear c17b2
            try clear c18
            try clear c18b0
            try clear c19
            try clear c19b0
            try clear c19b1
            try clear c19b2
            try clear c24
            try clear p2
            try clear p6
            obtain ⟨x9_2, x10_2, rfl, HA, HK2, HO_3, HO_8, HO_9, HB⟩ := hrel
            cases gk with
            | zero => exact absurd HA.out (by simp [laws_FnHeats.l0])
            | succ k2 =>
              have H := HA.out
              clear HA
              simp only [laws_FnHeats.l0] at H
              by_cases c27 : x10_2 < (t167.length : Int)
              · rw [if_pos c27] at H
                have c27b0 : decide (x10_2 < (t167.length : Int)) = true := decide_eq_true c27
                clear c27
                replace H := Option.bind_eq_some_iff.mp H
                obtain ⟨t183, A280, H⟩ := H
                replace H : (if (t167.length : Int) = 0 then (none) else (if x9_2.length < 17592186044416 then (laws_FnHeats.l0 k2 l0 t167 (wrap64 (t170 + 50)) t175 t176 (x9_2 ++ [Int.tmod (wrap64 (x10_2 + t183)) (t167.length : Int)]) (wrap64 (x10_2 + 1))) else (none))) = some r := H
                have A28 := Aside0.mk A280
                clear A280
                by_cases c29 : (t167.length : Int) = 0
                · rw [if_pos c29] at H
                  exact absurd H (by simp)
                · rw [if_neg c29] at H
                  have c29b0 : ((t167.length : Int) == 0) = false := beq_eq_false_iff_ne.mpr c29
                  have c29b1 : ((t167.length : Int) != 0) = true := bne_iff_ne.mpr c29
                  have c29b2 : ¬ (t167 = []) := fun h_ => c29 (by rw [h_]; rfl)
                  by_cases c30 : x9_2.length < 17592186044416
                  · rw [if_pos c30] at H
                    have LMc30 := Aside0.mk c30
                    clear c30
                    obtain ⟨y184, hy184⟩ : ∃ y_ : List Int, y_ = (x9_2 ++ [Int.tmod (wrap64 (x10_2 + t183)) (t167.length : Int)]) := ⟨_, rfl⟩
                    replace H : (laws_FnHeats.l0 k2 l0 t167 (wrap64 (t170 + 50)) t175 t176 y184 (wrap64 (x10_2 + 1))) = some r := by first | (rw [hy184]; with_reducible exact H) | (have H2_ := (Option.bind_some _ _).symm.trans H; rw [hy184]; with_reducible exact H2_) | (have H2_ := (Option.bind_some _ _).symm.trans H; with_reducible exact H2_) | with_reducible exact H | (rw [hy184]; exact H) | exact H
                    have Ny184 := Aside0.mk hy184
                    clear hy184
                    have H' := Aside0.mk H
                    clear H
                    go_wp2_with (first | (go_at_call 27; (with_reducible refine (laws_at.calls _ _ l0 1 t183 _ ?side1 ?side2 A28.out).mono ?_); (case side1 => repeat (first | exact (Kd.C_below HR0.out HB.out) | (with_reducible refine Kd.C_alloc ?_ _) | (with_reducible refine Kd.C_drewN ?_ _) | (with_reducible refine Kd.C_drew ?_))); (case side2 => exact HC0.out); rintro e w' ⟨rfl, ⟨nd, rfl⟩⟩; (try first | exact ⟨rfl, _, World.drewN_drewN _ _ _⟩ | exact ⟨rfl, _, Eq.trans (World.drewN_drewN _ _ _) (congrArg (World.drewN _) (Nat.add_assoc _ _ _))⟩)) | ((with_reducible refine gate_builtin (b := .append) (xs := #[.tmp 70, .tmp 78]) rfl ?_); (try (refine gate_guard (by rfl) ?_; dsimp only)); at_builtin; refine Kd.R_append (Kd.int .i64) (w0 := w) w.heap.size rfl (.tmp 70) (.tmp 78) 22 3 (.int .i64 0) 8 rfl Try.underlying22 info3 rfl (by decide) (by omega) u9 x9_2 (Int.tmod (wrap64 (x10_2 + t183)) (t167.length : Int)) [.int .i64 (Int.tmod (wrap64 (x10_2 + t183)) (t167.length : Int))] (fun k_ => some k_ ≠ (.slice Ao11 t167.length co11 : Value).ownBlock ∧ some k_ ≠ (v177 : Value).ownBlock) (fun _ => False) rfl rfl ?aP (fun _ hk => hk.elim) ?aF ?aO ?aB ?aS ?aL ?_; (case aP => exact rfl); (case aB => exact (by repeat (first | (with_reducible first | exact HB.out | apply below_alloc | apply pw_below_drewN | apply below_drew1) | exact HB.out))); (case aF => exact (fun k_ hk => ⟨Kd.fresh' (Kd.R_lt (by (with_reducible repeat (first | apply Kd.R_alloc | apply Kd.R_drewN | apply Kd.R_drew)); exact HO_3.out)) k_ hk, Kd.fresh' (Kd.R_lt (by (with_reducible repeat (first | apply Kd.R_alloc | apply Kd.R_drewN | apply Kd.R_drew)); exact HO_8.out)) k_ hk⟩)); (case aO => exact (by (with_reducible repeat (first | apply Kd.R_alloc | apply Kd.R_drewN | apply Kd.R_drew)); exact HO_9.out)); (case aS => exact (below_size (by repeat (first | (with_reducible first | exact HB.out | apply below_alloc | apply pw_below_drewN | apply below_drew1) | exact HB.out)))); (case aL => have := LMc30.out; omega); intro v185 w31 ho hb hg hat; rw [← Ny184.out] at ho; have n0_ := Aside0.mk (Kd.R_after (ok := (fun k_ => some k_ ≠ (v177 : Value).ownBlock)) (by (with_reducible repeat (first | apply Kd.R_alloc | apply Kd.R_drewN | apply Kd.R_drew)); exact HO_3.out) hg hat); have n1_ := Aside0.mk (Kd.R_after (ok := (fun k_ => some k_ ≠ (.slice Ao11 t167.length co11 : Value).ownBlock)) (by (with_reducible repeat (first | apply Kd.R_alloc | apply Kd.R_drewN | apply Kd.R_drew)); exact HO_8.out) hg hat); have n2_ := Aside0.mk (hb); have n3_ := Aside0.mk (ho); clear HO_3; clear HO_8; clear HB; clear HO_9; have HO_3 := n0_; have HO_8 := n1_; have HB := n2_; have HO186 := n3_; clear n0_ n1_ n2_ n3_; clear ho hb hg hat))
                    repeat (go_quiet (first | (go_at_call 27; (with_reducible refine (laws_at.calls _ _ l0 1 t183 _ ?side1 ?side2 A28.out).mono ?_); (case side1 => repeat (first | exact (Kd.C_below HR0.out HB.out) | (with_reducible refine Kd.C_alloc ?_ _) | (with_reducible refine Kd.C_drewN ?_ _) | (with_reducible refine Kd.C_drew ?_))); (case side2 => exact HC0.out); rintro e w' ⟨rfl, ⟨nd, rfl⟩⟩; (try first | exact ⟨rfl, _, World.drewN_drewN _ _ _⟩ | exact ⟨rfl, _, Eq.trans (World.drewN_drewN _ _ _) (congrArg (World.drewN _) (Nat.add_assoc _ _ _))⟩)) | ((with_reducible refine gate_builtin (b := .append) (xs := #[.tmp 70, .tmp 78]) rfl ?_); (try (refine gate_guard (by rfl) ?_; dsimp only)); at_builtin; refine Kd.R_append (Kd.int .i64) (w0 := w) w.heap.size rfl (.tmp 70) (.tmp 78) 22 3 (.int .i64 0) 8 rfl Try.underlying22 info3 rfl (by decide) (by omega) u9 x9_2 (Int.tmod (wrap64 (x10_2 + t183)) (t167.length : Int)) [.int .i64 (Int.tmod (wrap64 (x10_2 + t183)) (t167.length : Int))] (fun k_ => some k_ ≠ (.slice Ao11 t167.length co11 : Value).ownBlock ∧ some k_ ≠ (v177 : Value).ownBlock) (fun _ => False) rfl rfl ?aP (fun _ hk => hk.elim) ?aF ?aO ?aB ?aS ?aL ?_; (case aP => exact rfl); (case aB => exact (by repeat (first | (with_reducible first | exact HB.out | apply below_alloc | apply pw_below_drewN | apply below_drew1) | exact HB.out))); (case aF => exact (fun k_ hk => ⟨Kd.fresh' (Kd.R_lt (by (with_reducible repeat (first | apply Kd.R_alloc | apply Kd.R_drewN | apply Kd.R_drew)); exact HO_3.out)) k_ hk, Kd.fresh' (Kd.R_lt (by (with_reducible repeat (first | apply Kd.R_alloc | apply Kd.R_drewN | apply Kd.R_drew)); exact HO_8.out)) k_ hk⟩)); (case aO => exact (by (with_reducible repeat (first | apply Kd.R_alloc | apply Kd.R_drewN | apply Kd.R_drew)); exact HO_9.out)); (case aS => exact (below_size (by repeat (first | (with_reducible first | exact HB.out | apply below_alloc | apply pw_below_drewN | apply below_drew1) | exact HB.out)))); (case aL => have := LMc30.out; omega); intro v185 w31 ho hb hg hat; rw [← Ny184.out] at ho; have n0_ := Aside0.mk (Kd.R_after (ok := (fun k_ => some k_ ≠ (v177 : Value).ownBlock)) (by (with_reducible repeat (first | apply Kd.R_alloc | apply Kd.R_drewN | apply Kd.R_drew)); exact HO_3.out) hg hat); have n1_ := Aside0.mk (Kd.R_after (ok := (fun k_ => some k_ ≠ (.slice Ao11 t167.length co11 : Value).ownBlock)) (by (with_reducible repeat (first | apply Kd.R_alloc | apply Kd.R_drewN | apply Kd.R_drew)); exact HO_8.out) hg hat); have n2_ := Aside0.mk (hb); have n3_ := Aside0.mk (ho); clear HO_3; clear HO_8; clear HB; clear HO_9; have HO_3 := n0_; have HO_8 := n1_; have HB := n2_; have HO186 := n3_; clear n0_ n1_ n2_ n3_; clear ho hb hg hat)); try go_wp2_with (first | (go_at_call 27; (with_reducible refine (laws_at.calls _ _ l0 1 t183 _ ?side1 ?side2 A28.out).mono ?_); (case side1 => repeat (first | exact (Kd.C_below HR0.out HB.out) | (with_reducible refine Kd.C_alloc ?_ _) | (with_reducible refine Kd.C_drewN ?_ _) | (with_reducible refine Kd.C_drew ?_))); (case side2 => exact HC0.out); rintro e w' ⟨rfl, ⟨nd, rfl⟩⟩; (try first | exact ⟨rfl, _, World.drewN_drewN _ _ _⟩ | exact ⟨rfl, _, Eq.trans (World.drewN_drewN _ _ _) (congrArg (World.drewN _) (Nat.add_assoc _ _ _))⟩)) | ((with_reducible refine gate_builtin (b := .append) (xs := #[.tmp 70, .tmp 78]) rfl ?_); (try (refine gate_guard (by rfl) ?_; dsimp only)); at_builtin; refine Kd.R_append (Kd.int .i64) (w0 := w) w.heap.size rfl (.tmp 70) (.tmp 78) 22 3 (.int .i64 0) 8 rfl Try.underlying22 info3 rfl (by decide) (by omega) u9 x9_2 (Int.tmod (wrap64 (x10_2 + t183)) (t167.length : Int)) [.int .i64 (Int.tmod (wrap64 (x10_2 + t183)) (t167.length : Int))] (fun k_ => some k_ ≠ (.slice Ao11 t167.length co11 : Value).ownBlock ∧ some k_ ≠ (v177 : Value).ownBlock) (fun _ => False) rfl rfl ?aP (fun _ hk => hk.elim) ?aF ?aO ?aB ?aS ?aL ?_; (case aP => exact rfl); (case aB => exact (by repeat (first | (with_reducible first | exact HB.out | apply below_alloc | apply pw_below_drewN | apply below_drew1) | exact HB.out))); (case aF => exact (fun k_ hk => ⟨Kd.fresh' (Kd.R_lt (by (with_reducible repeat (first | apply Kd.R_alloc | apply Kd.R_drewN | apply Kd.R_drew)); exact HO_3.out)) k_ hk, Kd.fresh' (Kd.R_lt (by (with_reducible repeat (first | apply Kd.R_alloc | apply Kd.R_drewN | apply Kd.R_drew)); exact HO_8.out)) k_ hk⟩)); (case aO => exact (by (with_reducible repeat (first | apply Kd.R_alloc | apply Kd.R_drewN | apply Kd.R_drew)); exact HO_9.out)); (case aS => exact (below_size (by repeat (first | (with_reducible first | exact HB.out | apply below_alloc | apply pw_below_drewN | apply below_drew1) | exact HB.out)))); (case aL => have := LMc30.out; omega); intro v185 w31 ho hb hg hat; rw [← Ny184.out] at ho; have n0_ := Aside0.mk (Kd.R_after (ok := (fun k_ => some k_ ≠ (v177 : Value).ownBlock)) (by (with_reducible repeat (first | apply Kd.R_alloc | apply Kd.R_drewN | apply Kd.R_drew)); exact HO_3.out) hg hat); have n1_ := Aside0.mk (Kd.R_after (ok := (fun k_ => some k_ ≠ (.slice Ao11 t167.length co11 : Value).ownBlock)) (by (with_reducible repeat (first | apply Kd.R_alloc | apply Kd.R_drewN | apply Kd.R_drew)); exact HO_8.out) hg hat); have n2_ := Aside0.mk (hb); have n3_ := Aside0.mk (ho); clear HO_3; clear HO_8; clear HB; clear HO_9; have HO_3 := n0_; have HO_8 := n1_; have HB := n2_; have HO186 := n3_; clear n0_ n1_ n2_ n3_; clear ho hb hg hat)))
                    go_roundg k2
                    case measure => have := HJ8.out; have := HK2.out; omega
                    case rel => exact ⟨(y184), (wrap64 (x10_2 + 1)), (by first | rfl | (simp; done) | (simp [*]; done)), H', ⟨by have := HJ8.out; have := HK2.out; omega⟩, ⟨by (with_reducible repeat (first | apply Kd.R_alloc | apply Kd.R_drewN | apply Kd.R_drew)); exact HO_3.out⟩, ⟨by (with_reducible repeat (first | apply Kd.R_alloc | apply Kd.R_drewN | apply Kd.R_drew)); exact HO_8.out⟩, ⟨by (with_reducible repeat (first | apply Kd.R_alloc | apply Kd.R_drewN | apply Kd.R_drew)); exact HO186.out⟩, ⟨by repeat (first | (with_reducible first | exact HB.out | apply below_alloc | apply pw_below_drewN | apply below_drew1) | exact HB.out)⟩⟩
                  · rw [if_neg c30] at H
                    exact absurd H (by simp)
              · rw [if_neg c27] at H
                have c27b0 : decide (x10_2 < (t167.length : Int)) = false := decide_eq_false c27
                clear c27
                replace H := Option.bind_eq_some_iff.mp H
                obtain ⟨t187, A320, H⟩ := H
                replace H : (if t187 < t175 then (some false) else (laws_FnHeats.l1 k2 l0 t167 (wrap64 (t170 + 50)) t175 t176 350 0 0)) = some r := H
                have A32 := Aside0.mk A320
                clear A320
                by_cases c33 : t187 < t175
                · rw [if_pos c33] at H
                  have c33b0 : decide (t187 < t175) = true := decide_eq_true c33
                  clear c33
                  exact absurd (Option.some.inj H) (by rw [hr_.out]; decide)
                · rw [if_neg c33] at H
                  have c33b0 : decide (t187 < t175) = false := decide_eq_false c33
                  clear c33
                  have H' := Aside0.mk H
                  clear H
                  obtain ⟨Ao34, co34, eo34⟩ := Kd.R_slice HO_9.out
                  subst eo34
                  go_wp2_with (first | (go_at_call 34; (with_reducible refine (impl_OrderCost.calls k2 _ _ t167 _ _ x9_2 (wrap64 (t170 + 50)) t187 _ ?side1 ?side2 ?side3 ?side4 A32.out).mono ?_); (case side1 => repeat (first | exact (Kd.R_reads' HO_3.out).2.2 | (with_reducible refine Kd.C_alloc ?_ _) | (with_reducible refine Kd.C_drewN ?_ _) | (with_reducible refine Kd.C_drew ?_))); (case side2 => exact (Kd.R_reads' HO_3.out).2.1); (case side3 => repeat (first | exact (Kd.R_reads' HO_9.out).2.2 | (with_reducible refine Kd.C_alloc ?_ _) | (with_reducible refine Kd.C_drewN ?_ _) | (with_reducible refine Kd.C_drew ?_))); (case side4 => exact (Kd.R_reads' HO_9.out).2.1); rintro e w35 ⟨rfl, hb⟩; have n0_ := Aside0.mk (Kd.R_below (by (with_reducible repeat (first | apply Kd.R_alloc | apply Kd.R_drewN | apply Kd.R_drew)); exact HO_3.out) hb); have n1_ := Aside0.mk (Kd.R_below (by (with_reducible repeat (first | apply Kd.R_alloc | apply Kd.R_drewN | apply Kd.R_drew)); exact HO_8.out) hb); have n2_ := Aside0.mk (Kd.R_below (by (with_reducible repeat (first | apply Kd.R_alloc | apply Kd.R_drewN | apply Kd.R_drew)); exact HO_9.out) hb); have n3_ := Aside0.mk (below_step (by repeat (first | (with_reducible first | exact HB.out | apply below_alloc | apply pw_below_drewN | apply below_drew1) | exact HB.out)) hb); clear HO_3; clear HO_8; clear HO_9; clear HB; have HO_3 := n0_; have HO_8 := n1_; have HO_9 := n2_; have HB := n3_; clear n0_ n1_ n2_ n3_; (try clear hb); (try clear hb2); (try clear hk); (try clear hi)))
                  repeat (go_quiet (first | (go_at_call 34; (with_reducible refine (impl_OrderCost.calls k2 _ _ t167 _ _ x9_2 (wrap64 (t170 + 50)) t187 _ ?side1 ?side2 ?side3 ?side4 A32.out).mono ?_); (case side1 => repeat (first | exact (Kd.R_reads' HO_3.out).2.2 | (with_reducible refine Kd.C_alloc ?_ _) | (with_reducible refine Kd.C_drewN ?_ _) | (with_reducible refine Kd.C_drew ?_))); (case side2 => exact (Kd.R_reads' HO_3.out).2.1); (case side3 => repeat (first | exact (Kd.R_reads' HO_9.out).2.2 | (with_reducible refine Kd.C_alloc ?_ _) | (with_reducible refine Kd.C_drewN ?_ _) | (with_reducible refine Kd.C_drew ?_))); (case side4 => exact (Kd.R_reads' HO_9.out).2.1); rintro e w35 ⟨rfl, hb⟩; have n0_ := Aside0.mk (Kd.R_below (by (with_reducible repeat (first | apply Kd.R_alloc | apply Kd.R_drewN | apply Kd.R_drew)); exact HO_3.out) hb); have n1_ := Aside0.mk (Kd.R_below (by (with_reducible repeat (first | apply Kd.R_alloc | apply Kd.R_drewN | apply Kd.R_drew)); exact HO_8.out) hb); have n2_ := Aside0.mk (Kd.R_below (by (with_reducible repeat (first | apply Kd.R_alloc | apply Kd.R_drewN | apply Kd.R_drew)); exact HO_9.out) hb); have n3_ := Aside0.mk (below_step (by repeat (first | (with_reducible first | exact HB.out | apply below_alloc | apply pw_below_drewN | apply below_drew1) | exact HB.out)) hb); clear HO_3; clear HO_8; clear HO_9; clear HB; have HO_3 := n0_; have HO_8 := n1_; have HO_9 := n2_; have HB := n3_; clear n0_ n1_ n2_ n3_; (try clear hb); (try clear hb2); (try clear hk); (try clear hi))); try go_wp2_with (first | (go_at_call 34; (with_reducible refine (impl_OrderCost.calls k2 _ _ t167 _ _ x9_2 (wrap64 (t170 + 50)) t187 _ ?side1 ?side2 ?side3 ?side4 A32.out).mono ?_); (case side1 => repeat (first | exact (Kd.R_reads' HO_3.out).2.2 | (with_reducible refine Kd.C_alloc ?_ _) | (with_reducible refine Kd.C_drewN ?_ _) | (with_reducible refine Kd.C_drew ?_))); (case side2 => exact (Kd.R_reads' HO_3.out).2.1); (case side3 => repeat (first | exact (Kd.R_reads' HO_9.out).2.2 | (with_reducible refine Kd.C_alloc ?_ _) | (with_reducible refine Kd.C_drewN ?_ _) | (with_reducible refine Kd.C_drew ?_))); (case side4 => exact (Kd.R_reads' HO_9.out).2.1); rintro e w35 ⟨rfl, hb⟩; have n0_ := Aside0.mk (Kd.R_below (by (with_reducible repeat (first | apply Kd.R_alloc | apply Kd.R_drewN | apply Kd.R_drew)); exact HO_3.out) hb); have n1_ := Aside0.mk (Kd.R_below (by (with_reducible repeat (first | apply Kd.R_alloc | apply Kd.R_drewN | apply Kd.R_drew)); exact HO_8.out) hb); have n2_ := Aside0.mk (Kd.R_below (by (with_reducible repeat (first | apply Kd.R_alloc | apply Kd.R_drewN | apply Kd.R_drew)); exact HO_9.out) hb); have n3_ := Aside0.mk (below_step (by repeat (first | (with_reducible first | exact HB.out | apply below_alloc | apply pw_below_drewN | apply below_drew1) | exact HB.out)) hb); clear HO_3; clear HO_8; clear HO_9; clear HB; have HO_3 := n0_; have HO_8 := n1_; have HO_9 := n2_; have HB := n3_; clear n0_ n1_ n2_ n3_; (try clear hb); (try clear hb2); (try clear hk); (try clear hi))))
                  go_loopg [11, 12, 13] k2 (fun kq v11 v12 v13 w' => ∃ (x11_3 : Int) (x12_3 : Int) (x13_3 : Int), v11 = .int .i64 x11_3 ∧ v12 = .int .i64 x12_3 ∧ v13 = .int .i64 x13_3 ∧ Aside0 (laws_FnHeats.l1 kq l0 t167 (wrap64 (t170 + 50)) t175 t176 x11_3 x12_3 x13_3 = some r) ∧ Aside0 (kq ≤ k2) ∧ Aside0 (Kd.R (Kd.int .i64) 3 w' w.heap.size (fun k_ => some k_ ≠ (v177 : Value).ownBlock) (.slice Ao11 t167.length co11) t167) ∧ Aside0 (Kd.R (Kd.int .i64) 3 w' w.heap.size (fun k_ => some k_ ≠ ((.slice Ao11 t167.length co11) : Value).ownBlock) v177 t176) ∧ Aside0 (Below w.heap.size w w'))
                  case atStart => exact ⟨(350), (0), (0), (by first | rfl | (simp; done) | (simp [*]; done)), (by first | rfl | (simp; done) | (simp [*]; done)), (by first | rfl | (simp; done) | (simp [*]; done)), H', ⟨Nat.le_refl _⟩, ⟨by (with_reducible repeat (first | apply Kd.R_alloc | apply Kd.R_drewN | apply Kd.R_drew)); exact Kd.R_mono HO_3.out (fun _ hk => hk.1)⟩, ⟨by (with_reducible repeat (first | apply Kd.R_alloc | apply Kd.R_drewN | apply Kd.R_drew)); exact Kd.R_mono HO_8.out (fun _ hk => hk.1)⟩, ⟨by repeat (first | (with_reducible first | exact HB.out | apply below_alloc | apply pw_below_drewN | apply below_drew1) | exact HB.out)⟩⟩
                  case round =>
                    clear H'
                    try clear c1
                    try clear c2
                    try clear p2
                    try clear c3
                    try clear p6
                    try clear c8
                    try clear c16
                    try clear c17
                    try clear c17b0
                    try clear c17b1
                    try clear c17b2
                    try clear c18
                    try clear c18b0
                    try clear c19
                    try clear c19b0
                    try clear c19b1
                    try clear c19b2
                    try clear c24
                    try clear c27
                    try clear c27b0
                    try clear c29
                    try clear c29b0
                    try clear c29b1
                    try clear c29b2
                    try clear c30
                    try clear c33
                    try clear c33b0
                    try clear p2
                    try clear p6
                    obtain ⟨x11_3, x12_3, x13_3, rfl, rfl, rfl, HA, HK3, HO_3, HO_8, HB⟩ := hrel
                    cases gk with
                    | zero => exact absurd HA.out (by simp [laws_FnHeats.l1])
                    | succ k3 =>
                      have H := HA.out
                      clear HA
                      simp only [laws_FnHeats.l1] at H
                      by_cases c36 : x13_3 < (t167.length : Int)
                      · rw [if_pos c36] at H
                        have c36b0 : decide (x13_3 < (t167.length : Int)) = true := decide_eq_true c36
                        clear c36
                        by_cases c37 : 0 ≤ x13_3
                        · rw [if_pos c37] at H
                          have c37b0 : decide (0 ≤ x13_3) = true := decide_eq_true c37
                          clear c37
                          obtain ⟨ji38, hji38⟩ : ∃ j_ : Int, (mn x11_3 (rd t167 x13_3)) = j_ := ⟨_, rfl⟩
                          replace H : (if x13_3 < (t176.length : Int) then (if (rd t176 x13_3) < 0 then (some false) else (if (rd t176 x13_3) ≥ (t167.length : Int) then (some false) else (if x13_3 > 0 then (if 0 ≤ (rd t176 x13_3) then (if (rd t176 x13_3) < (t167.length : Int) then (if 0 ≤ (wrap64 (x13_3 - 1)) then (if (wrap64 (x13_3 - 1)) < (t176.length : Int) then (if 0 ≤ (rd t176 (wrap64 (x13_3 - 1))) then (if (rd t176 (wrap64 (x13_3 - 1))) < (t167.length : Int) then (if (rd t167 (rd t176 x13_3)) > (rd t167 (rd t176 (wrap64 (x13_3 - 1)))) then (some false) else (laws_FnHeats.l1 k3 l0 t167 (wrap64 (t170 + 50)) t175 t176 ji38 (mx x12_3 (rd t167 x13_3)) (wrap64 (x13_3 + 1)))) else (none)) else (none)) else (none)) else (none)) else (none)) else (none)) else (laws_FnHeats.l1 k3 l0 t167 (wrap64 (t170 + 50)) t175 t176 ji38 (mx x12_3 (rd t167 x13_3)) (wrap64 (x13_3 + 1)))))) else (none)) = some r := by first | (rw [hji38] at H; exact H) | (simp only [hji38] at H ⊢; exact H)
                          have hji38_ : (if (rd t167 x13_3) < x11_3 then (rd t167 x13_3) else x11_3) = ji38 := hji38
                          obtain ⟨ji39, hji39⟩ : ∃ j_ : Int, (mx x12_3 (rd t167 x13_3)) = j_ := ⟨_, rfl⟩
                          replace H : (if x13_3 < (t176.length : Int) then (if (rd t176 x13_3) < 0 then (some false) else (if (rd t176 x13_3) ≥ (t167.length : Int) then (some false) else (if x13_3 > 0 then (if 0 ≤ (rd t176 x13_3) then (if (rd t176 x13_3) < (t167.length : Int) then (if 0 ≤ (wrap64 (x13_3 - 1)) then (if (wrap64 (x13_3 - 1)) < (t176.length : Int) then (if 0 ≤ (rd t176 (wrap64 (x13_3 - 1))) then (if (rd t176 (wrap64 (x13_3 - 1))) < (t167.length : Int) then (if (rd t167 (rd t176 x13_3)) > (rd t167 (rd t176 (wrap64 (x13_3 - 1)))) then (some false) else (laws_FnHeats.l1 k3 l0 t167 (wrap64 (t170 + 50)) t175 t176 ji38 ji39 (wrap64 (x13_3 + 1)))) else (none)) else (none)) else (none)) else (none)) else (none)) else (none)) else (laws_FnHeats.l1 k3 l0 t167 (wrap64 (t170 + 50)) t175 t176 ji38 ji39 (wrap64 (x13_3 + 1)))))) else (none)) = some r := by first | (rw [hji39] at H; exact H) | (simp only [hji39] at H ⊢; exact H)
                          have hji39_ : (if x12_3 < (rd t167 x13_3) then (rd t167 x13_3) else x12_3) = ji39 := hji39
                          by_cases c40 : x13_3 < (t176.length : Int)
                          · rw [if_pos c40] at H
                            have c40b0 : decide (x13_3 < (t176.length : Int)) = true := decide_eq_true c40
                            clear c40
                            by_cases c41 : (rd t176 x13_3) < 0
                            · rw [if_pos c41] at H
                              have c41b0 : decide ((rd t176 x13_3) < 0) = true := decide_eq_true c41
                              clear c41
                              exact absurd (Option.some.inj H) (by rw [hr_.out]; decide)
                            · rw [if_neg c41] at H
                              have c41b0 : decide ((rd t176 x13_3) < 0) = false := decide_eq_false c41
                              clear c41
                              by_cases c42 : (rd t176 x13_3) ≥ (t167.length : Int)
                              · rw [if_pos c42] at H
                                have c42b0 : decide ((t167.length : Int) ≤ (rd t176 x13_3)) = true := decide_eq_true c42
                                clear c42
                                exact absurd (Option.some.inj H) (by rw [hr_.out]; decide)
                              · rw [if_neg c42] at H
                                have c42b0 : decide ((t167.length : Int) ≤ (rd t176 x13_3)) = false := decide_eq_false c42
                                clear c42
                                by_cases c43 : x13_3 > 0
                                · rw [if_pos c43] at H
                                  have c43b0 : decide (0 < x13_3) = true := decide_eq_true c43
                                  clear c43
                                  by_cases c44 : 0 ≤ (rd t176 x13_3)
                                  · rw [if_pos c44] at H
                                    have c44b0 : decide (0 ≤ (rd t176 x13_3)) = true := decide_eq_true c44
                                    clear c44
                                    by_cases c45 : (rd t176 x13_3) < (t167.length : Int)
                                    · rw [if_pos c45] at H
                                      have c45b0 : decide ((rd t176 x13_3) < (t167.length : Int)) = true := decide_eq_true c45
                                      clear c45
                                      obtain ⟨ji46, hji46⟩ : ∃ j_ : Int, (wrap64 (x13_3 - 1)) = j_ := ⟨_, rfl⟩
                                      replace H : (if 0 ≤ (ji46) then (if (ji46) < (t176.length : Int) then (if 0 ≤ (rd t176 (ji46)) then (if (rd t176 (ji46)) < (t167.length : Int) then (if (rd t167 (rd t176 x13_3)) > (rd t167 (rd t176 (ji46))) then (some false) else (laws_FnHeats.l1 k3 l0 t167 (wrap64 (t170 + 50)) t175 t176 ji38 ji39 (wrap64 (x13_3 + 1)))) else (none)) else (none)) else (none)) else (none)) = some r := by first | (rw [hji46] at H; exact H) | (simp only [hji46] at H ⊢; exact H)
                                      have hji46w : (IntKind.i64.wrap (x13_3 - 1)) = ji46 := (i64_w _).trans hji46
                                      by_cases c47 : 0 ≤ (ji46)
                                      · rw [if_pos c47] at H
                                        have c47b0 : decide (0 ≤ (ji46)) = true := decide_eq_true c47
                                        clear c47
                                        by_cases c48 : (ji46) < (t176.length : Int)
                                        · rw [if_pos c48] at H
                                          have c48b0 : decide ((ji46) < (t176.length : Int)) = true := decide_eq_true c48
                                          clear c48
                                          by_cases c49 : 0 ≤ (rd t176 (ji46))
                                          · rw [if_pos c49] at H
                                            have c49b0 : decide (0 ≤ (rd t176 (ji46))) = true := decide_eq_true c49
                                            clear c49
                                            by_cases c50 : (rd t176 (ji46)) < (t167.length : Int)
                                            · rw [if_pos c50] at H
                                              have c50b0 : decide ((rd t176 (ji46)) < (t167.length : Int)) = true := decide_eq_true c50
                                              clear c50
                                              by_cases c51 : (rd t167 (rd t176 x13_3)) > (rd t167 (rd t176 (ji46)))
                                              · rw [if_pos c51] at H
                                                have c51b0 : decide ((rd t167 (rd t176 (ji46))) < (rd t167 (rd t176 x13_3))) = true := decide_eq_true c51
                                                clear c51
                                                exact absurd (Option.some.inj H) (by rw [hr_.out]; decide)
                                              · rw [if_neg c51] at H
                                                have c51b0 : decide ((rd t167 (rd t176 (ji46))) < (rd t167 (rd t176 x13_3))) = false := decide_eq_false c51
                                                clear c51
                                                have H' := Aside0.mk H
                                                clear H
                                                have p188 : 0 ≤ (x13_3 : Int) := of_decide_eq_true (by first | (with_reducible assumption) | assumption)
                                                have q188 : x13_3 < (t167.length : Int) := of_decide_eq_true (by first | (with_reducible assumption) | assumption)
                                                obtain ⟨ad188, e188, hx188_0⟩ := Kd.at_int (Kd.R_reads' HO_3.out).2.2 x13_3 p188 q188
                                                cases e188
                                                replace p188 := eq_true p188
                                                replace q188 := eq_true q188
                                                have p189 : 0 ≤ (x13_3 : Int) := of_decide_eq_true (by first | (with_reducible assumption) | assumption)
                                                have q189 : x13_3 < (t167.length : Int) := of_decide_eq_true (by first | (with_reducible assumption) | assumption)
                                                obtain ⟨ad189, e189, hx189_0⟩ := Kd.at_int (Kd.R_reads' HO_3.out).2.2 x13_3 p189 q189
                                                obtain rfl : ad188 = ad189 := (by injection e189)
                                                replace p189 := eq_true p189
                                                replace q189 := eq_true q189
                                                obtain ⟨Ao52, co52, eo52⟩ := Kd.R_slice HO_8.out
                                                subst eo52
                                                have p190 : 0 ≤ (x13_3 : Int) := of_decide_eq_true (by first | (with_reducible assumption) | assumption)
                                                have q190 : x13_3 < (t176.length : Int) := of_decide_eq_true (by first | (with_reducible assumption) | assumption)
                                                obtain ⟨ad190, e190, hx190_0⟩ := Kd.at_int (Kd.R_reads' HO_8.out).2.2 x13_3 p190 q190
                                                cases e190
                                                replace p190 := eq_true p190
                                                replace q190 := eq_true q190
                                                have p191 : 0 ≤ (x13_3 : Int) := of_decide_eq_true (by first | (with_reducible assumption) | assumption)
                                                have q191 : x13_3 < (t176.length : Int) := of_decide_eq_true (by first | (with_reducible assumption) | assumption)
                                                obtain ⟨ad191, e191, hx191_0⟩ := Kd.at_int (Kd.R_reads' HO_8.out).2.2 x13_3 p191 q191
                                                obtain rfl : ad190 = ad191 := (by injection e191)
                                                replace p191 := eq_true p191
                                                replace q191 := eq_true q191
                                                have p192 : 0 ≤ (x13_3 : Int) := of_decide_eq_true (by first | (with_reducible assumption) | assumption)
                                                have q192 : x13_3 < (t176.length : Int) := of_decide_eq_true (by first | (with_reducible assumption) | assumption)
                                                obtain ⟨ad192, e192, hx192_0⟩ := Kd.at_int (Kd.R_reads' HO_8.out).2.2 x13_3 p192 q192
                                                obtain rfl : ad190 = ad192 := (by injection e192)
                                                replace p192 := eq_true p192
                                                replace q192 := eq_true q192
                                                have p193 : 0 ≤ ((rd t176 x13_3) : Int) := of_decide_eq_true (by first | (with_reducible assumption) | assumption)
                                                have q193 : (rd t176 x13_3) < (t167.length : Int) := of_decide_eq_true (by first | (with_reducible assumption) | assumption)
                                                obtain ⟨ad193, e193, hx193_0⟩ := Kd.at_int (Kd.R_reads' HO_3.out).2.2 (rd t176 x13_3) p193 q193
                                                obtain rfl : ad188 = ad193 := (by injection e193)
                                                replace p193 := eq_true p193
                                                replace q193 := eq_true q193
                                                have p194 : 0 ≤ ((ji46) : Int) := of_decide_eq_true (by first | (with_reducible assumption) | assumption)
                                                have q194 : (ji46) < (t176.length : Int) := of_decide_eq_true (by first | (with_reducible assumption) | assumption)
                                                obtain ⟨ad194, e194, hx194_0⟩ := Kd.at_int (Kd.R_reads' HO_8.out).2.2 (ji46) p194 q194
                                                obtain rfl : ad190 = ad194 := (by injection e194)
                                                replace p194 := eq_true p194
                                                replace q194 := eq_true q194
                                                have p195 : 0 ≤ ((rd t176 (ji46)) : Int) := of_decide_eq_true (by first | (with_reducible assumption) | assumption)
                                                have q195 : (rd t176 (ji46)) < (t167.length : Int) := of_decide_eq_true (by first | (with_reducible assumption) | assumption)
                                                obtain ⟨ad195, e195, hx195_0⟩ := Kd.at_int (Kd.R_reads' HO_3.out).2.2 (rd t176 (ji46)) p195 q195
                                                obtain rfl : ad188 = ad195 := (by injection e195)
                                                replace p195 := eq_true p195
                                                replace q195 := eq_true q195
                                                go_wp2
                                                repeat (go_quiet (fail); try go_wp2)
                                                go_roundg k3
                                                case measure => have := HJ8.out; have := HK2.out; have := HK3.out; omega
                                                case rel => exact ⟨(ji38), (ji39), (wrap64 (x13_3 + 1)), (by first | rfl | (simp; done) | (simp only [← hji38] <;> (first | rfl | simp)) | (simp [*]; done)), (by first | rfl | (simp; done) | (simp only [← hji39] <;> (first | rfl | simp)) | (simp [*]; done)), (by first | rfl | (simp; done) | (simp [*]; done)), H', ⟨by have := HJ8.out; have := HK2.out; have := HK3.out; omega⟩, ⟨by (with_reducible repeat (first | apply Kd.R_alloc | apply Kd.R_drewN | apply Kd.R_drew)); exact HO_3.out⟩, ⟨by (with_reducible repeat (first | apply Kd.R_alloc | apply Kd.R_drewN | apply Kd.R_drew)); exact HO_8.out⟩, ⟨by repeat (first | (with_reducible first | exact HB.out | apply below_alloc | apply pw_below_drewN | apply below_drew1) | exact HB.out)⟩⟩
                                            · rw [if_neg c50] at H
                                              exact absurd H (by simp)
                                          · rw [if_neg c49] at H
                                            exact absurd H (by simp)
                                        · rw [if_neg c48] at H
                                          exact absurd H (by simp)
                                      · rw [if_neg c47] at H
                                        exact absurd H (by simp)
                                    · rw [if_neg c45] at H
                                      exact absurd H (by simp)
                                  · rw [if_neg c44] at H
                                    exact absurd H (by simp)
                                · rw [if_neg c43] at H
                                  have c43b0 : decide (0 < x13_3) = false := decide_eq_false c43
                                  clear c43
                                  have H' := Aside0.mk H
                                  clear H
                                  have p188 : 0 ≤ (x13_3 : Int) := of_decide_eq_true (by first | (with_reducible assumption) | assumption)
                                  have q188 : x13_3 < (t167.length : Int) := of_decide_eq_true (by first | (with_reducible assumption) | assumption)
                                  obtain ⟨ad188, e188, hx188_0⟩ := Kd.at_int (Kd.R_reads' HO_3.out).2.2 x13_3 p188 q188
                                  cases e188
                                  replace p188 := eq_true p188
                                  replace q188 := eq_true q188
                                  have p189 : 0 ≤ (x13_3 : Int) := of_decide_eq_true (by first | (with_reducible assumption) | assumption)
                                  have q189 : x13_3 < (t167.length : Int) := of_decide_eq_true (by first | (with_reducible assumption) | assumption)
                                  obtain ⟨ad189, e189, hx189_0⟩ := Kd.at_int (Kd.R_reads' HO_3.out).2.2 x13_3 p189 q189
                                  obtain rfl : ad188 = ad189 := (by injection e189)
                                  replace p189 := eq_true p189
                                  replace q189 := eq_true q189
                                  obtain ⟨Ao53, co53, eo53⟩ := Kd.R_slice HO_8.out
                                  subst eo53
                                  have p190 : 0 ≤ (x13_3 : Int) := of_decide_eq_true (by first | (with_reducible assumption) | assumption)
                                  have q190 : x13_3 < (t176.length : Int) := of_decide_eq_true (by first | (with_reducible assumption) | assumption)
                                  obtain ⟨ad190, e190, hx190_0⟩ := Kd.at_int (Kd.R_reads' HO_8.out).2.2 x13_3 p190 q190
                                  cases e190
                                  replace p190 := eq_true p190
                                  replace q190 := eq_true q190
                                  have p191 : 0 ≤ (x13_3 : Int) := of_decide_eq_true (by first | (with_reducible assumption) | assumption)
                                  have q191 : x13_3 < (t176.length : Int) := of_decide_eq_true (by first | (with_reducible assumption) | assumption)
                                  obtain ⟨ad191, e191, hx191_0⟩ := Kd.at_int (Kd.R_reads' HO_8.out).2.2 x13_3 p191 q191
                                  obtain rfl : ad190 = ad191 := (by injection e191)
                                  replace p191 := eq_true p191
                                  replace q191 := eq_true q191
                                  go_wp2
                                  repeat (go_quiet (fail); try go_wp2)
                                  go_roundg k3
                                  case measure => have := HJ8.out; have := HK2.out; have := HK3.out; omega
                                  case rel => exact ⟨(ji38), (ji39), (wrap64 (x13_3 + 1)), (by first | rfl | (simp; done) | (simp only [← hji38] <;> (first | rfl | simp)) | (simp [*]; done)), (by first | rfl | (simp; done) | (simp only [← hji39] <;> (first | rfl | simp)) | (simp [*]; done)), (by first | rfl | (simp; done) | (simp [*]; done)), H', ⟨by have := HJ8.out; have := HK2.out; have := HK3.out; omega⟩, ⟨by (with_reducible repeat (first | apply Kd.R_alloc | apply Kd.R_drewN | apply Kd.R_drew)); exact HO_3.out⟩, ⟨by (with_reducible repeat (first | apply Kd.R_alloc | apply Kd.R_drewN | apply Kd.R_drew)); exact HO_8.out⟩, ⟨by repeat (first | (with_reducible first | exact HB.out | apply below_alloc | apply pw_below_drewN | apply below_drew1) | exact HB.out)⟩⟩
                          · rw [if_neg c40] at H
                            exact absurd H (by simp)
                        · rw [if_neg c37] at H
                          exact absurd H (by simp)
                      · rw [if_neg c36] at H
                        have c36b0 : decide (x13_3 < (t167.length : Int)) = false := decide_eq_false c36
                        clear c36
                        have HC54 := Aside0.mk H
                        clear H
                        go_upto_region 26 with (fail)
                        repeat (go_quiet (fail); go_upto_region 26 with (fail))
                        go_cut [167] (fun v167 wc => ∃ (kq : Nat) (x167_53 : Bool), v167 = .bool x167_53 ∧ Aside0 (laws_FnHeats.j3 kq l0 x12_3 x167_53 = some r) ∧ Aside0 (kq ≤ k3) ∧ Aside0 (Below w.heap.size w wc))
                        case first =>
                          have H := HC54.out
                          clear HC54
                          by_cases c55 : (t167.length : Int) > 0
                          · rw [if_pos c55] at H
                            have c55b0 : decide (0 < (t167.length : Int)) = true := decide_eq_true c55
                            have c55b1 : decide (0 < t167.length) = true := decide_eq_true (by omega)
                            clear c55
                            (first | rw [c55b0] | (simp only [i64_w, i32_w]; rw [c55b0]) | skip)
                            replace H := Option.bind_eq_some_iff.mp H
                            obtain ⟨t196, A560, H⟩ := H
                            replace H : (if t196 = (wrap64 (350 - x11_3)) then ((impl_HeatCost.f k3 (wrap64 (t170 + 50)) x11_3).bind fun t197 => (if t175 < t197 then (laws_FnHeats.j3 k3 l0 x12_3 (decide ((wrap64 (t170 + 50)) > x11_3))) else (laws_FnHeats.j3 k3 l0 x12_3 false))) else (laws_FnHeats.j3 k3 l0 x12_3 true)) = some r := H
                            have A56 := Aside0.mk A560
                            clear A560
                            by_cases c57 : t196 = (wrap64 (350 - x11_3))
                            · rw [if_pos c57] at H
                              have c57b0 : (t196 == (wrap64 (350 - x11_3))) = true := beq_iff_eq.mpr c57
                              have c57b1 : (t196 != (wrap64 (350 - x11_3))) = false := bne_eq_false_iff_eq.mpr c57
                              clear c57
                              replace H := Option.bind_eq_some_iff.mp H
                              obtain ⟨t197, A580, H⟩ := H
                              replace H : (if t175 < t197 then (laws_FnHeats.j3 k3 l0 x12_3 (decide ((wrap64 (t170 + 50)) > x11_3))) else (laws_FnHeats.j3 k3 l0 x12_3 false)) = some r := H
                              have A58 := Aside0.mk A580
                              clear A580
                              by_cases c59 : t175 < t197
                              · rw [if_pos c59] at H
                                have c59b0 : decide (t175 < t197) = true := decide_eq_true c59
                                clear c59
                                have H' := Aside0.mk H
                                clear H
                                obtain ⟨Ao60, co60, eo60⟩ := Kd.R_slice HO_8.out
                                subst eo60
                                go_wp2_with (first | (go_at_call 34; (with_reducible refine (impl_OrderCost.calls k3 _ _ t167 _ _ t176 350 t196 _ ?side1 ?side2 ?side3 ?side4 A56.out).mono ?_); (case side1 => repeat (first | exact (Kd.R_reads' HO_3.out).2.2 | (with_reducible refine Kd.C_alloc ?_ _) | (with_reducible refine Kd.C_drewN ?_ _) | (with_reducible refine Kd.C_drew ?_))); (case side2 => exact (Kd.R_reads' HO_3.out).2.1); (case side3 => repeat (first | exact (Kd.R_reads' HO_8.out).2.2 | (with_reducible refine Kd.C_alloc ?_ _) | (with_reducible refine Kd.C_drewN ?_ _) | (with_reducible refine Kd.C_drew ?_))); (case side4 => exact (Kd.R_reads' HO_8.out).2.1); rintro e w61 ⟨rfl, hb⟩; have n0_ := Aside0.mk (Kd.R_below (by (with_reducible repeat (first | apply Kd.R_alloc | apply Kd.R_drewN | apply Kd.R_drew)); exact HO_3.out) hb); have n1_ := Aside0.mk (Kd.R_below (by (with_reducible repeat (first | apply Kd.R_alloc | apply Kd.R_drewN | apply Kd.R_drew)); exact HO_8.out) hb); have n2_ := Aside0.mk (below_step (by repeat (first | (with_reducible first | exact HB.out | apply below_alloc | apply pw_below_drewN | apply below_drew1) | exact HB.out)) hb); clear HO_3; clear HO_8; clear HB; have HO_3 := n0_; have HO_8 := n1_; have HB := n2_; clear n0_ n1_ n2_; (try clear hb); (try clear hb2); (try clear hk); (try clear hi)) | (go_at_call 35; (with_reducible refine (impl_HeatCost.calls k3 (wrap64 (t170 + 50)) x11_3 t197 _ A58.out).mono ?_); rintro e w' ⟨rfl, ⟨nd, rfl⟩⟩; (try first | exact ⟨rfl, _, World.drewN_drewN _ _ _⟩ | exact ⟨rfl, _, Eq.trans (World.drewN_drewN _ _ _) (congrArg (World.drewN _) (Nat.add_assoc _ _ _))⟩)))
                                repeat (go_quiet (first | (go_at_call 34; (with_reducible refine (impl_OrderCost.calls k3 _ _ t167 _ _ t176 350 t196 _ ?side1 ?side2 ?side3 ?side4 A56.out).mono ?_); (case side1 => repeat (first | exact (Kd.R_reads' HO_3.out).2.2 | (with_reducible refine Kd.C_alloc ?_ _) | (with_reducible refine Kd.C_drewN ?_ _) | (with_reducible refine Kd.C_drew ?_))); (case side2 => exact (Kd.R_reads' HO_3.out).2.1); (case side3 => repeat (first | exact (Kd.R_reads' HO_8.out).2.2 | (with_reducible refine Kd.C_alloc ?_ _) | (with_reducible refine Kd.C_drewN ?_ _) | (with_reducible refine Kd.C_drew ?_))); (case side4 => exact (Kd.R_reads' HO_8.out).2.1); rintro e w61 ⟨rfl, hb⟩; have n0_ := Aside0.mk (Kd.R_below (by (with_reducible repeat (first | apply Kd.R_alloc | apply Kd.R_drewN | apply Kd.R_drew)); exact HO_3.out) hb); have n1_ := Aside0.mk (Kd.R_below (by (with_reducible repeat (first | apply Kd.R_alloc | apply Kd.R_drewN | apply Kd.R_drew)); exact HO_8.out) hb); have n2_ := Aside0.mk (below_step (by repeat (first | (with_reducible first | exact HB.out | apply below_alloc | apply pw_below_drewN | apply below_drew1) | exact HB.out)) hb); clear HO_3; clear HO_8; clear HB; have HO_3 := n0_; have HO_8 := n1_; have HB := n2_; clear n0_ n1_ n2_; (try clear hb); (try clear hb2); (try clear hk); (try clear hi)) | (go_at_call 35; (with_reducible refine (impl_HeatCost.calls k3 (wrap64 (t170 + 50)) x11_3 t197 _ A58.out).mono ?_); rintro e w' ⟨rfl, ⟨nd, rfl⟩⟩; (try first | exact ⟨rfl, _, World.drewN_drewN _ _ _⟩ | exact ⟨rfl, _, Eq.trans (World.drewN_drewN _ _ _) (congrArg (World.drewN _) (Nat.add_assoc _ _ _))⟩))); try go_wp2_with (first | (go_at_call 34; (with_reducible refine (impl_OrderCost.calls k3 _ _ t167 _ _ t176 350 t196 _ ?side1 ?side2 ?side3 ?side4 A56.out).mono ?_); (case side1 => repeat (first | exact (Kd.R_reads' HO_3.out).2.2 | (with_reducible refine Kd.C_alloc ?_ _) | (with_reducible refine Kd.C_drewN ?_ _) | (with_reducible refine Kd.C_drew ?_))); (case side2 => exact (Kd.R_reads' HO_3.out).2.1); (case side3 => repeat (first | exact (Kd.R_reads' HO_8.out).2.2 | (with_reducible refine Kd.C_alloc ?_ _) | (with_reducible refine Kd.C_drewN ?_ _) | (with_reducible refine Kd.C_drew ?_))); (case side4 => exact (Kd.R_reads' HO_8.out).2.1); rintro e w61 ⟨rfl, hb⟩; have n0_ := Aside0.mk (Kd.R_below (by (with_reducible repeat (first | apply Kd.R_alloc | apply Kd.R_drewN | apply Kd.R_drew)); exact HO_3.out) hb); have n1_ := Aside0.mk (Kd.R_below (by (with_reducible repeat (first | apply Kd.R_alloc | apply Kd.R_drewN | apply Kd.R_drew)); exact HO_8.out) hb); have n2_ := Aside0.mk (below_step (by repeat (first | (with_reducible first | exact HB.out | apply below_alloc | apply pw_below_drewN | apply below_drew1) | exact HB.out)) hb); clear HO_3; clear HO_8; clear HB; have HO_3 := n0_; have HO_8 := n1_; have HB := n2_; clear n0_ n1_ n2_; (try clear hb); (try clear hb2); (try clear hk); (try clear hi)) | (go_at_call 35; (with_reducible refine (impl_HeatCost.calls k3 (wrap64 (t170 + 50)) x11_3 t197 _ A58.out).mono ?_); rintro e w' ⟨rfl, ⟨nd, rfl⟩⟩; (try first | exact ⟨rfl, _, World.drewN_drewN _ _ _⟩ | exact ⟨rfl, _, Eq.trans (World.drewN_drewN _ _ _) (congrArg (World.drewN _) (Nat.add_assoc _ _ _))⟩))))
                                go_meet
                                case rel => exact ⟨_, (decide ((wrap64 (t170 + 50)) > x11_3)), (by first | rfl | (simp; done) | (simp [*]; done)), H', ⟨by have := HJ8.out; have := HK2.out; have := HK3.out; first | omega | exact Nat.le_refl _⟩, ⟨by repeat (first | (with_reducible first | exact HB.out | apply below_alloc | apply pw_below_drewN | apply below_drew1) | exact HB.out)⟩⟩
                              · rw [if_neg c59] at H
                                have c59b0 : decide (t175 < t197) = false := decide_eq_false c59
                                clear c59
                                have H' := Aside0.mk H
                                clear H
                                obtain ⟨Ao62, co62, eo62⟩ := Kd.R_slice HO_8.out
                                subst eo62
                                go_wp2_with (first | (go_at_call 34; (with_reducible refine (impl_OrderCost.calls k3 _ _ t167 _ _ t176 350 t196 _ ?side1 ?side2 ?side3 ?side4 A56.out).mono ?_); (case side1 => repeat (first | exact (Kd.R_reads' HO_3.out).2.2 | (with_reducible refine Kd.C_alloc ?_ _) | (with_reducible refine Kd.C_drewN ?_ _) | (with_reducible refine Kd.C_drew ?_))); (case side2 => exact (Kd.R_reads' HO_3.out).2.1); (case side3 => repeat (first | exact (Kd.R_reads' HO_8.out).2.2 | (with_reducible refine Kd.C_alloc ?_ _) | (with_reducible refine Kd.C_drewN ?_ _) | (with_reducible refine Kd.C_drew ?_))); (case side4 => exact (Kd.R_reads' HO_8.out).2.1); rintro e w63 ⟨rfl, hb⟩; have n0_ := Aside0.mk (Kd.R_below (by (with_reducible repeat (first | apply Kd.R_alloc | apply Kd.R_drewN | apply Kd.R_drew)); exact HO_3.out) hb); have n1_ := Aside0.mk (Kd.R_below (by (with_reducible repeat (first | apply Kd.R_alloc | apply Kd.R_drewN | apply Kd.R_drew)); exact HO_8.out) hb); have n2_ := Aside0.mk (below_step (by repeat (first | (with_reducible first | exact HB.out | apply below_alloc | apply pw_below_drewN | apply below_drew1) | exact HB.out)) hb); clear HO_3; clear HO_8; clear HB; have HO_3 := n0_; have HO_8 := n1_; have HB := n2_; clear n0_ n1_ n2_; (try clear hb); (try clear hb2); (try clear hk); (try clear hi)) | (go_at_call 35; (with_reducible refine (impl_HeatCost.calls k3 (wrap64 (t170 + 50)) x11_3 t197 _ A58.out).mono ?_); rintro e w' ⟨rfl, ⟨nd, rfl⟩⟩; (try first | exact ⟨rfl, _, World.drewN_drewN _ _ _⟩ | exact ⟨rfl, _, Eq.trans (World.drewN_drewN _ _ _) (congrArg (World.drewN _) (Nat.add_assoc _ _ _))⟩)))
                                repeat (go_quiet (first | (go_at_call 34; (with_reducible refine (impl_OrderCost.calls k3 _ _ t167 _ _ t176 350 t196 _ ?side1 ?side2 ?side3 ?side4 A56.out).mono ?_); (case side1 => repeat (first | exact (Kd.R_reads' HO_3.out).2.2 | (with_reducible refine Kd.C_alloc ?_ _) | (with_reducible refine Kd.C_drewN ?_ _) | (with_reducible refine Kd.C_drew ?_))); (case side2 => exact (Kd.R_reads' HO_3.out).2.1); (case side3 => repeat (first | exact (Kd.R_reads' HO_8.out).2.2 | (with_reducible refine Kd.C_alloc ?_ _) | (with_reducible refine Kd.C_drewN ?_ _) | (with_reducible refine Kd.C_drew ?_))); (case side4 => exact (Kd.R_reads' HO_8.out).2.1); rintro e w63 ⟨rfl, hb⟩; have n0_ := Aside0.mk (Kd.R_below (by (with_reducible repeat (first | apply Kd.R_alloc | apply Kd.R_drewN | apply Kd.R_drew)); exact HO_3.out) hb); have n1_ := Aside0.mk (Kd.R_below (by (with_reducible repeat (first | apply Kd.R_alloc | apply Kd.R_drewN | apply Kd.R_drew)); exact HO_8.out) hb); have n2_ := Aside0.mk (below_step (by repeat (first | (with_reducible first | exact HB.out | apply below_alloc | apply pw_below_drewN | apply below_drew1) | exact HB.out)) hb); clear HO_3; clear HO_8; clear HB; have HO_3 := n0_; have HO_8 := n1_; have HB := n2_; clear n0_ n1_ n2_; (try clear hb); (try clear hb2); (try clear hk); (try clear hi)) | (go_at_call 35; (with_reducible refine (impl_HeatCost.calls k3 (wrap64 (t170 + 50)) x11_3 t197 _ A58.out).mono ?_); rintro e w' ⟨rfl, ⟨nd, rfl⟩⟩; (try first | exact ⟨rfl, _, World.drewN_drewN _ _ _⟩ | exact ⟨rfl, _, Eq.trans (World.drewN_drewN _ _ _) (congrArg (World.drewN _) (Nat.add_assoc _ _ _))⟩))); try go_wp2_with (first | (go_at_call 34; (with_reducible refine (impl_OrderCost.calls k3 _ _ t167 _ _ t176 350 t196 _ ?side1 ?side2 ?side3 ?side4 A56.out).mono ?_); (case side1 => repeat (first | exact (Kd.R_reads' HO_3.out).2.2 | (with_reducible refine Kd.C_alloc ?_ _) | (with_reducible refine Kd.C_drewN ?_ _) | (with_reducible refine Kd.C_drew ?_))); (case side2 => exact (Kd.R_reads' HO_3.out).2.1); (case side3 => repeat (first | exact (Kd.R_reads' HO_8.out).2.2 | (with_reducible refine Kd.C_alloc ?_ _) | (with_reducible refine Kd.C_drewN ?_ _) | (with_reducible refine Kd.C_drew ?_))); (case side4 => exact (Kd.R_reads' HO_8.out).2.1); rintro e w63 ⟨rfl, hb⟩; have n0_ := Aside0.mk (Kd.R_below (by (with_reducible repeat (first | apply Kd.R_alloc | apply Kd.R_drewN | apply Kd.R_drew)); exact HO_3.out) hb); have n1_ := Aside0.mk (Kd.R_below (by (with_reducible repeat (first | apply Kd.R_alloc | apply Kd.R_drewN | apply Kd.R_drew)); exact HO_8.out) hb); have n2_ := Aside0.mk (below_step (by repeat (first | (with_reducible first | exact HB.out | apply below_alloc | apply pw_below_drewN | apply below_drew1) | exact HB.out)) hb); clear HO_3; clear HO_8; clear HB; have HO_3 := n0_; have HO_8 := n1_; have HB := n2_; clear n0_ n1_ n2_; (try clear hb); (try clear hb2); (try clear hk); (try clear hi)) | (go_at_call 35; (with_reducible refine (impl_HeatCost.calls k3 (wrap64 (t170 + 50)) x11_3 t197 _ A58.out).mono ?_); rintro e w' ⟨rfl, ⟨nd, rfl⟩⟩; (try first | exact ⟨rfl, _, World.drewN_drewN _ _ _⟩ | exact ⟨rfl, _, Eq.trans (World.drewN_drewN _ _ _) (congrArg (World.drewN _) (Nat.add_assoc _ _ _))⟩))))
                                go_meet
                                case rel => exact ⟨_, (false), (by first | rfl | (simp; done) | (simp [*]; done)), H', ⟨by have := HJ8.out; have := HK2.out; have := HK3.out; first | omega | exact Nat.le_refl _⟩, ⟨by repeat (first | (with_reducible first | exact HB.out | apply below_alloc | apply pw_below_drewN | apply below_drew1) | exact HB.out)⟩⟩
                            · rw [if_neg c57] at H
                              have c57b0 : (t196 == (wrap64 (350 - x11_3))) = false := beq_eq_false_iff_ne.mpr c57
                              have c57b1 : (t196 != (wrap64 (350 - x11_3))) = true := bne_iff_ne.mpr c57
                              have H' := Aside0.mk H
                              first | exact (laws_FnHeats.j0_no H'.out hr_.out).elim | exact (laws_FnHeats.j3_no H'.out hr_.out).elim
                          · rw [if_neg c55] at H
                            have c55b0 : decide (0 < (t167.length : Int)) = false := decide_eq_false c55
                            have c55b1 : decide (0 < t167.length) = false := decide_eq_false (by omega)
                            clear c55
                            (first | rw [c55b0] | (simp only [i64_w, i32_w]; rw [c55b0]) | skip)
                            have H' := Aside0.mk H
                            clear H
                            go_wp2
                            repeat (go_quiet (fail); try go_wp2)
                            go_meet
                            case rel => exact ⟨_, (false), (by first | rfl | (simp; done) | (simp [*]; done)), H', ⟨by have := HJ8.out; have := HK2.out; have := HK3.out; first | omega | exact Nat.le_refl _⟩, ⟨by repeat (first | (with_reducible first | exact HB.out | apply below_alloc | apply pw_below_drewN | apply below_drew1) | exact HB.out)⟩⟩
                        case rest =>
                          clear HC54
                          try clear c1
                          try clear p1
                          try clear q1
                          try clear hx1
                          try clear c2
                          try clear p2
                          try clear c3
                          try clear c4
                          try clear c5
                          try clear p6
                          try clear c8
                          try clear c16
                          try clear c17
                          try clear c17b0
                          try clear c17b1
                          try clear c17b2
                          try clear c18
                          try clear c18b0
                          try clear p18
                          try clear q18
                          try clear hx18
                          try clear c19
                          try clear c19b0
                          try clear c19b1
                          try clear c19b2
                          try clear p19
                          try clear q19
                          try clear hx19
                          try clear c24
                          try clear c27
                          try clear c27b0
                          try clear c29
                          try clear c29b0
                          try clear c29b1
                          try clear c29b2
                          try clear c30
                          try clear c33
                          try clear c33b0
                          try clear c36
                          try clear c36b0
                          try clear c37
                          try clear c37b0
                          try clear c40
                          try clear c40b0
                          try clear c41
                          try clear c41b0
                          try clear c42
                          try clear c42b0
                          try clear c43
                          try clear c43b0
                          try clear c44
                          try clear c44b0
                          try clear c45
                          try clear c45b0
                          try clear c47
                          try clear c47b0
                          try clear c48
                          try clear c48b0
                          try clear c49
                          try clear c49b0
                          try clear c50
                          try clear c50b0
                          try clear c51
                          try clear c51b0
                          try clear c55
                          try clear c55b0
                          try clear c55b1
                          try clear c57
                          try clear c57b0
                          try clear c57b1
                          try clear c59
                          try clear c59b0
                          try clear p64
                          try clear hx188_0
                          try clear hx189_0
                          try clear hx190_0
                          try clear hx191_0
                          try clear hx192_0
                          try clear hx193_0
                          try clear hx194_0
                          try clear hx195_0
                          try clear p188
                          try clear p189
                          try clear p190
                          try clear p191
                          try clear p192
                          try clear p193
                          try clear p194
                          try clear p195
                          try clear p2
                          try clear p6
                          try clear q188
                          try clear q189
                          try clear q190
                          try clear q191
                          try clear q192
                          try clear q193
                          try clear q194
                          try clear q195
                          obtain ⟨kq, x167_53, rfl, HA, HJ53, HB⟩ := hcut
                          cases kq with
                          | zero => exact absurd HA.out (by simp [laws_FnHeats.j3])
                          | succ kj53 =>
                            have H := HA.out
                            clear HA
                            simp only [laws_FnHeats.j3] at H
                            by_cases c66 : x167_53 = true
                            · subst c66
                              have H1 : (some false) = some r := by rw [if_pos rfl] at H; exact H
                              clear H
                              have H := H1
                              clear H1
                              exact absurd (Option.some.inj H) (by rw [hr_.out]; decide)
                            · replace c66 := Bool.eq_false_iff.mpr c66
                              subst c66
                              have H1 : ((laws_at.f l0 2).bind fun t198 => ((impl_CoolAfter.f kj53 (wrap64 (20 + t198)) 5).bind fun t199 => ((impl_HeatCost.f kj53 100 130).bind fun t200 => (if t200 = 60 then ((impl_HeatCost.f kj53 130 100).bind fun t201 => (if t201 = 30 then (if t199 ≤ (wrap64 (20 + t198)) then (if t199 ≥ 20 then ((impl_CoolAfter.f kj53 (wrap64 (20 + t198)) 6).bind fun t202 => (if t202 ≤ t199 then ((impl_CoolAfter.f kj53 t199 3).bind fun t203 => ((impl_CoolAfter.f kj53 (wrap64 (20 + t198)) 8).bind fun t204 => (if t203 = t204 then ((impl_CoolAfter.f kj53 (wrap64 (20 + t198)) 0).bind fun t205 => (if t205 = (wrap64 (20 + t198)) then (some (decide (x12_3 ≤ 350))) else (some false))) else (some false)))) else (some false))) else (some false)) else (some false)) else (some false))) else (some false))))) = some r := by rw [if_neg (show ¬ (false = true) by decide)] at H; exact H
                              clear H
                              have H := H1
                              clear H1
                              replace H := Option.bind_eq_some_iff.mp H
                              obtain ⟨t198, A670, H⟩ := H
                              replace H : ((impl_CoolAfter.f kj53 (wrap64 (20 + t198)) 5).bind fun t199 => ((impl_HeatCost.f kj53 100 130).bind fun t200 => (if t200 = 60 then ((impl_HeatCost.f kj53 130 100).bind fun t201 => (if t201 = 30 then (if t199 ≤ (wrap64 (20 + t198)) then (if t199 ≥ 20 then ((impl_CoolAfter.f kj53 (wrap64 (20 + t198)) 6).bind fun t202 => (if t202 ≤ t199 then ((impl_CoolAfter.f kj53 t199 3).bind fun t203 => ((impl_CoolAfter.f kj53 (wrap64 (20 + t198)) 8).bind fun t204 => (if t203 = t204 then ((impl_CoolAfter.f kj53 (wrap64 (20 + t198)) 0).bind fun t205 => (if t205 = (wrap64 (20 + t198)) then (some (decide (x12_3 ≤ 350))) else (some false))) else (some false)))) else (some false))) else (some false)) else (some false)) else (some false))) else (some false)))) = some r := H
                              have A67 := Aside0.mk A670
                              clear A670
                              replace H := Option.bind_eq_some_iff.mp H
                              obtain ⟨t199, A680, H⟩ := H
                              replace H : ((impl_HeatCost.f kj53 100 130).bind fun t200 => (if t200 = 60 then ((impl_HeatCost.f kj53 130 100).bind fun t201 => (if t201 = 30 then (if t199 ≤ (wrap64 (20 + t198)) then (if t199 ≥ 20 then ((impl_CoolAfter.f kj53 (wrap64 (20 + t198)) 6).bind fun t202 => (if t202 ≤ t199 then ((impl_CoolAfter.f kj53 t199 3).bind fun t203 => ((impl_CoolAfter.f kj53 (wrap64 (20 + t198)) 8).bind fun t204 => (if t203 = t204 then ((impl_CoolAfter.f kj53 (wrap64 (20 + t198)) 0).bind fun t205 => (if t205 = (wrap64 (20 + t198)) then (some (decide (x12_3 ≤ 350))) else (some false))) else (some false)))) else (some false))) else (some false)) else (some false)) else (some false))) else (some false))) = some r := H
                              have A68 := Aside0.mk A680
                              clear A680
                              replace H := Option.bind_eq_some_iff.mp H
                              obtain ⟨t200, A690, H⟩ := H
                              replace H : (if t200 = 60 then ((impl_HeatCost.f kj53 130 100).bind fun t201 => (if t201 = 30 then (if t199 ≤ (wrap64 (20 + t198)) then (if t199 ≥ 20 then ((impl_CoolAfter.f kj53 (wrap64 (20 + t198)) 6).bind fun t202 => (if t202 ≤ t199 then ((impl_CoolAfter.f kj53 t199 3).bind fun t203 => ((impl_CoolAfter.f kj53 (wrap64 (20 + t198)) 8).bind fun t204 => (if t203 = t204 then ((impl_CoolAfter.f kj53 (wrap64 (20 + t198)) 0).bind fun t205 => (if t205 = (wrap64 (20 + t198)) then (some (decide (x12_3 ≤ 350))) else (some false))) else (some false)))) else (some false))) else (some false)) else (some false)) else (some false))) else (some false)) = some r := H
                              have A69 := Aside0.mk A690
                              clear A690
                              by_cases c70 : t200 = 60
                              · rw [if_pos c70] at H
                                have c70b0 : (t200 == 60) = true := beq_iff_eq.mpr c70
                                have c70b1 : (t200 != 60) = false := bne_eq_false_iff_eq.mpr c70
                                clear c70
                                replace H := Option.bind_eq_some_iff.mp H
                                obtain ⟨t201, A710, H⟩ := H
                                replace H : (if t201 = 30 then (if t199 ≤ (wrap64 (20 + t198)) then (if t199 ≥ 20 then ((impl_CoolAfter.f kj53 (wrap64 (20 + t198)) 6).bind fun t202 => (if t202 ≤ t199 then ((impl_CoolAfter.f kj53 t199 3).bind fun t203 => ((impl_CoolAfter.f kj53 (wrap64 (20 + t198)) 8).bind fun t204 => (if t203 = t204 then ((impl_CoolAfter.f kj53 (wrap64 (20 + t198)) 0).bind fun t205 => (if t205 = (wrap64 (20 + t198)) then (some (decide (x12_3 ≤ 350))) else (some false))) else (some false)))) else (some false))) else (some false)) else (some false)) else (some false)) = some r := H
                                have A71 := Aside0.mk A710
                                clear A710
                                by_cases c72 : t201 = 30
                                · rw [if_pos c72] at H
                                  have c72b0 : (t201 == 30) = true := beq_iff_eq.mpr c72
                                  have c72b1 : (t201 != 30) = false := bne_eq_false_iff_eq.mpr c72
                                  clear c72
                                  by_cases c73 : t199 ≤ (wrap64 (20 + t198))
                                  · rw [if_pos c73] at H
                                    have c73b0 : decide (t199 ≤ (wrap64 (20 + t198))) = true := decide_eq_true c73
                                    clear c73
                                    by_cases c74 : t199 ≥ 20
                                    · rw [if_pos c74] at H
                                      have c74b0 : decide (20 ≤ t199) = true := decide_eq_true c74
                                      clear c74
                                      replace H := Option.bind_eq_some_iff.mp H
                                      obtain ⟨t202, A750, H⟩ := H
                                      replace H : (if t202 ≤ t199 then ((impl_CoolAfter.f kj53 t199 3).bind fun t203 => ((impl_CoolAfter.f kj53 (wrap64 (20 + t198)) 8).bind fun t204 => (if t203 = t204 then ((impl_CoolAfter.f kj53 (wrap64 (20 + t198)) 0).bind fun t205 => (if t205 = (wrap64 (20 + t198)) then (some (decide (x12_3 ≤ 350))) else (some false))) else (some false)))) else (some false)) = some r := H
                                      have A75 := Aside0.mk A750
                                      clear A750
                                      by_cases c76 : t202 ≤ t199
                                      · rw [if_pos c76] at H
                                        have c76b0 : decide (t202 ≤ t199) = true := decide_eq_true c76
                                        clear c76
                                        replace H := Option.bind_eq_some_iff.mp H
                                        obtain ⟨t203, A770, H⟩ := H
                                        replace H : ((impl_CoolAfter.f kj53 (wrap64 (20 + t198)) 8).bind fun t204 => (if t203 = t204 then ((impl_CoolAfter.f kj53 (wrap64 (20 + t198)) 0).bind fun t205 => (if t205 = (wrap64 (20 + t198)) then (some (decide (x12_3 ≤ 350))) else (some false))) else (some false))) = some r := H
                                        have A77 := Aside0.mk A770
                                        clear A770
                                        replace H := Option.bind_eq_some_iff.mp H
                                        obtain ⟨t204, A780, H⟩ := H
                                        replace H : (if t203 = t204 then ((impl_CoolAfter.f kj53 (wrap64 (20 + t198)) 0).bind fun t205 => (if t205 = (wrap64 (20 + t198)) then (some (decide (x12_3 ≤ 350))) else (some false))) else (some false)) = some r := H
                                        have A78 := Aside0.mk A780
                                        clear A780
                                        by_cases c79 : t203 = t204
                                        · rw [if_pos c79] at H
                                          have c79b0 : (t203 == t204) = true := beq_iff_eq.mpr c79
                                          have c79b1 : (t203 != t204) = false := bne_eq_false_iff_eq.mpr c79
                                          clear c79
                                          replace H := Option.bind_eq_some_iff.mp H
                                          obtain ⟨t205, A800, H⟩ := H
                                          replace H : (if t205 = (wrap64 (20 + t198)) then (some (decide (x12_3 ≤ 350))) else (some false)) = some r := H
                                          have A80 := Aside0.mk A800
                                          clear A800
                                          by_cases c81 : t205 = (wrap64 (20 + t198))
                                          · rw [if_pos c81] at H
                                            have c81b0 : (t205 == (wrap64 (20 + t198))) = true := beq_iff_eq.mpr c81
                                            have c81b1 : (t205 != (wrap64 (20 + t198))) = false := bne_eq_false_iff_eq.mpr c81
                                            clear c81
                                            obtain rfl := Option.some.inj H
                                            go_wp2_with (first | (go_at_call 27; (with_reducible refine (laws_at.calls _ _ l0 2 t198 _ ?side1 ?side2 A67.out).mono ?_); (case side1 => repeat (first | exact (Kd.C_below HR0.out HB.out) | (with_reducible refine Kd.C_alloc ?_ _) | (with_reducible refine Kd.C_drewN ?_ _) | (with_reducible refine Kd.C_drew ?_))); (case side2 => exact HC0.out); rintro e w' ⟨rfl, ⟨nd, rfl⟩⟩; (try first | exact ⟨rfl, _, World.drewN_drewN _ _ _⟩ | exact ⟨rfl, _, Eq.trans (World.drewN_drewN _ _ _) (congrArg (World.drewN _) (Nat.add_assoc _ _ _))⟩)) | (go_at_call 36; (with_reducible refine (impl_CoolAfter.calls kj53 (wrap64 (20 + t198)) 5 t199 _ A68.out).mono ?_); rintro e w82 ⟨rfl, hb⟩; have n0_ := Aside0.mk (below_step (by repeat (first | (with_reducible first | exact HB.out | apply below_alloc | apply pw_below_drewN | apply below_drew1) | exact HB.out)) hb); clear HB; have HB := n0_; clear n0_; (try clear hb); (try clear hb2); (try clear hk); (try clear hi)) | (go_at_call 35; (with_reducible refine (impl_HeatCost.calls kj53 100 130 t200 _ A69.out).mono ?_); rintro e w' ⟨rfl, ⟨nd, rfl⟩⟩; (try first | exact ⟨rfl, _, World.drewN_drewN _ _ _⟩ | exact ⟨rfl, _, Eq.trans (World.drewN_drewN _ _ _) (congrArg (World.drewN _) (Nat.add_assoc _ _ _))⟩)) | (go_at_call 35; (with_reducible refine (impl_HeatCost.calls kj53 130 100 t201 _ A71.out).mono ?_); rintro e w' ⟨rfl, ⟨nd, rfl⟩⟩; (try first | exact ⟨rfl, _, World.drewN_drewN _ _ _⟩ | exact ⟨rfl, _, Eq.trans (World.drewN_drewN _ _ _) (congrArg (World.drewN _) (Nat.add_assoc _ _ _))⟩)) | (go_at_call 36; (with_reducible refine (impl_CoolAfter.calls kj53 (wrap64 (20 + t198)) 6 t202 _ A75.out).mono ?_); rintro e w83 ⟨rfl, hb⟩; have n0_ := Aside0.mk (below_step (by repeat (first | (with_reducible first | exact HB.out | apply below_alloc | apply pw_below_drewN | apply below_drew1) | exact HB.out)) hb); clear HB; have HB := n0_; clear n0_; (try clear hb); (try clear hb2); (try clear hk); (try clear hi)) | (go_at_call 36; (with_reducible refine (impl_CoolAfter.calls kj53 t199 3 t203 _ A77.out).mono ?_); rintro e w84 ⟨rfl, hb⟩; have n0_ := Aside0.mk (below_step (by repeat (first | (with_reducible first | exact HB.out | apply below_alloc | apply pw_below_drewN | apply below_drew1) | exact HB.out)) hb); clear HB; have HB := n0_; clear n0_; (try clear hb); (try clear hb2); (try clear hk); (try clear hi)) | (go_at_call 36; (with_reducible refine (impl_CoolAfter.calls kj53 (wrap64 (20 + t198)) 8 t204 _ A78.out).mono ?_); rintro e w85 ⟨rfl, hb⟩; have n0_ := Aside0.mk (below_step (by repeat (first | (with_reducible first | exact HB.out | apply below_alloc | apply pw_below_drewN | apply below_drew1) | exact HB.out)) hb); clear HB; have HB := n0_; clear n0_; (try clear hb); (try clear hb2); (try clear hk); (try clear hi)) | (go_at_call 36; (with_reducible refine (impl_CoolAfter.calls kj53 (wrap64 (20 + t198)) 0 t205 _ A80.out).mono ?_); rintro e w86 ⟨rfl, hb⟩; have n0_ := Aside0.mk (below_step (by repeat (first | (with_reducible first | exact HB.out | apply below_alloc | apply pw_below_drewN | apply below_drew1) | exact HB.out)) hb); clear HB; have HB := n0_; clear n0_; (try clear hb); (try clear hb2); (try clear hk); (try clear hi)))
                                            repeat (go_quiet (first | (go_at_call 27; (with_reducible refine (laws_at.calls _ _ l0 2 t198 _ ?side1 ?side2 A67.out).mono ?_); (case side1 => repeat (first | exact (Kd.C_below HR0.out HB.out) | (with_reducible refine Kd.C_alloc ?_ _) | (with_reducible refine Kd.C_drewN ?_ _) | (with_reducible refine Kd.C_drew ?_))); (case side2 => exact HC0.out); rintro e w' ⟨rfl, ⟨nd, rfl⟩⟩; (try first | exact ⟨rfl, _, World.drewN_drewN _ _ _⟩ | exact ⟨rfl, _, Eq.trans (World.drewN_drewN _ _ _) (congrArg (World.drewN _) (Nat.add_assoc _ _ _))⟩)) | (go_at_call 36; (with_reducible refine (impl_CoolAfter.calls kj53 (wrap64 (20 + t198)) 5 t199 _ A68.out).mono ?_); rintro e w82 ⟨rfl, hb⟩; have n0_ := Aside0.mk (below_step (by repeat (first | (with_reducible first | exact HB.out | apply below_alloc | apply pw_below_drewN | apply below_drew1) | exact HB.out)) hb); clear HB; have HB := n0_; clear n0_; (try clear hb); (try clear hb2); (try clear hk); (try clear hi)) | (go_at_call 35; (with_reducible refine (impl_HeatCost.calls kj53 100 130 t200 _ A69.out).mono ?_); rintro e w' ⟨rfl, ⟨nd, rfl⟩⟩; (try first | exact ⟨rfl, _, World.drewN_drewN _ _ _⟩ | exact ⟨rfl, _, Eq.trans (World.drewN_drewN _ _ _) (congrArg (World.drewN _) (Nat.add_assoc _ _ _))⟩)) | (go_at_call 35; (with_reducible refine (impl_HeatCost.calls kj53 130 100 t201 _ A71.out).mono ?_); rintro e w' ⟨rfl, ⟨nd, rfl⟩⟩; (try first | exact ⟨rfl, _, World.drewN_drewN _ _ _⟩ | exact ⟨rfl, _, Eq.trans (World.drewN_drewN _ _ _) (congrArg (World.drewN _) (Nat.add_assoc _ _ _))⟩)) | (go_at_call 36; (with_reducible refine (impl_CoolAfter.calls kj53 (wrap64 (20 + t198)) 6 t202 _ A75.out).mono ?_); rintro e w83 ⟨rfl, hb⟩; have n0_ := Aside0.mk (below_step (by repeat (first | (with_reducible first | exact HB.out | apply below_alloc | apply pw_below_drewN | apply below_drew1) | exact HB.out)) hb); clear HB; have HB := n0_; clear n0_; (try clear hb); (try clear hb2); (try clear hk); (try clear hi)) | (go_at_call 36; (with_reducible refine (impl_CoolAfter.calls kj53 t199 3 t203 _ A77.out).mono ?_); rintro e w84 ⟨rfl, hb⟩; have n0_ := Aside0.mk (below_step (by repeat (first | (with_reducible first | exact HB.out | apply below_alloc | apply pw_below_drewN | apply below_drew1) | exact HB.out)) hb); clear HB; have HB := n0_; clear n0_; (try clear hb); (try clear hb2); (try clear hk); (try clear hi)) | (go_at_call 36; (with_reducible refine (impl_CoolAfter.calls kj53 (wrap64 (20 + t198)) 8 t204 _ A78.out).mono ?_); rintro e w85 ⟨rfl, hb⟩; have n0_ := Aside0.mk (below_step (by repeat (first | (with_reducible first | exact HB.out | apply below_alloc | apply pw_below_drewN | apply below_drew1) | exact HB.out)) hb); clear HB; have HB := n0_; clear n0_; (try clear hb); (try clear hb2); (try clear hk); (try clear hi)) | (go_at_call 36; (with_reducible refine (impl_CoolAfter.calls kj53 (wrap64 (20 + t198)) 0 t205 _ A80.out).mono ?_); rintro e w86 ⟨rfl, hb⟩; have n0_ := Aside0.mk (below_step (by repeat (first | (with_reducible first | exact HB.out | apply below_alloc | apply pw_below_drewN | apply below_drew1) | exact HB.out)) hb); clear HB; have HB := n0_; clear n0_; (try clear hb); (try clear hb2); (try clear hk); (try clear hi))); try go_wp2_with (first | (go_at_call 27; (with_reducible refine (laws_at.calls _ _ l0 2 t198 _ ?side1 ?side2 A67.out).mono ?_); (case side1 => repeat (first | exact (Kd.C_below HR0.out HB.out) | (with_reducible refine Kd.C_alloc ?_ _) | (with_reducible refine Kd.C_drewN ?_ _) | (with_reducible refine Kd.C_drew ?_))); (case side2 => exact HC0.out); rintro e w' ⟨rfl, ⟨nd, rfl⟩⟩; (try first | exact ⟨rfl, _, World.drewN_drewN _ _ _⟩ | exact ⟨rfl, _, Eq.trans (World.drewN_drewN _ _ _) (congrArg (World.drewN _) (Nat.add_assoc _ _ _))⟩)) | (go_at_call 36; (with_reducible refine (impl_CoolAfter.calls kj53 (wrap64 (20 + t198)) 5 t199 _ A68.out).mono ?_); rintro e w82 ⟨rfl, hb⟩; have n0_ := Aside0.mk (below_step (by repeat (first | (with_reducible first | exact HB.out | apply below_alloc | apply pw_below_drewN | apply below_drew1) | exact HB.out)) hb); clear HB; have HB := n0_; clear n0_; (try clear hb); (try clear hb2); (try clear hk); (try clear hi)) | (go_at_call 35; (with_reducible refine (impl_HeatCost.calls kj53 100 130 t200 _ A69.out).mono ?_); rintro e w' ⟨rfl, ⟨nd, rfl⟩⟩; (try first | exact ⟨rfl, _, World.drewN_drewN _ _ _⟩ | exact ⟨rfl, _, Eq.trans (World.drewN_drewN _ _ _) (congrArg (World.drewN _) (Nat.add_assoc _ _ _))⟩)) | (go_at_call 35; (with_reducible refine (impl_HeatCost.calls kj53 130 100 t201 _ A71.out).mono ?_); rintro e w' ⟨rfl, ⟨nd, rfl⟩⟩; (try first | exact ⟨rfl, _, World.drewN_drewN _ _ _⟩ | exact ⟨rfl, _, Eq.trans (World.drewN_drewN _ _ _) (congrArg (World.drewN _) (Nat.add_assoc _ _ _))⟩)) | (go_at_call 36; (with_reducible refine (impl_CoolAfter.calls kj53 (wrap64 (20 + t198)) 6 t202 _ A75.out).mono ?_); rintro e w83 ⟨rfl, hb⟩; have n0_ := Aside0.mk (below_step (by repeat (first | (with_reducible first | exact HB.out | apply below_alloc | apply pw_below_drewN | apply below_drew1) | exact HB.out)) hb); clear HB; have HB := n0_; clear n0_; (try clear hb); (try clear hb2); (try clear hk); (try clear hi)) | (go_at_call 36; (with_reducible refine (impl_CoolAfter.calls kj53 t199 3 t203 _ A77.out).mono ?_); rintro e w84 ⟨rfl, hb⟩; have n0_ := Aside0.mk (below_step (by repeat (first | (with_reducible first | exact HB.out | apply below_alloc | apply pw_below_drewN | apply below_drew1) | exact HB.out)) hb); clear HB; have HB := n0_; clear n0_; (try clear hb); (try clear hb2); (try clear hk); (try clear hi)) | (go_at_call 36; (with_reducible refine (impl_CoolAfter.calls kj53 (wrap64 (20 + t198)) 8 t204 _ A78.out).mono ?_); rintro e w85 ⟨rfl, hb⟩; have n0_ := Aside0.mk (below_step (by repeat (first | (with_reducible first | exact HB.out | apply below_alloc | apply pw_below_drewN | apply below_drew1) | exact HB.out)) hb); clear HB; have HB := n0_; clear n0_; (try clear hb); (try clear hb2); (try clear hk); (try clear hi)) | (go_at_call 36; (with_reducible refine (impl_CoolAfter.calls kj53 (wrap64 (20 + t198)) 0 t205 _ A80.out).mono ?_); rintro e w86 ⟨rfl, hb⟩; have n0_ := Aside0.mk (below_step (by repeat (first | (with_reducible first | exact HB.out | apply below_alloc | apply pw_below_drewN | apply below_drew1) | exact HB.out)) hb); clear HB; have HB := n0_; clear n0_; (try clear hb); (try clear hb2); (try clear hk); (try clear hi))))
                                            go_ret
                                            exact ⟨by first | rfl | (simp [errW_none, errW_some] <;> rfl) | (simp [*, errW_none, errW_some] <;> rfl), by repeat (first | (with_reducible first | exact HB.out | apply below_alloc | apply pw_below_drewN | apply below_drew1) | exact HB.out)⟩
                                          · rw [if_neg c81] at H
                                            have c81b0 : (t205 == (wrap64 (20 + t198))) = false := beq_eq_false_iff_ne.mpr c81
                                            have c81b1 : (t205 != (wrap64 (20 + t198))) = true := bne_iff_ne.mpr c81
                                            exact absurd (Option.some.inj H) (by rw [hr_.out]; decide)
                                        · rw [if_neg c79] at H
                                          have c79b0 : (t203 == t204) = false := beq_eq_false_iff_ne.mpr c79
                                          have c79b1 : (t203 != t204) = true := bne_iff_ne.mpr c79
                                          exact absurd (Option.some.inj H) (by rw [hr_.out]; decide)
                                      · rw [if_neg c76] at H
                                        have c76b0 : decide (t202 ≤ t199) = false := decide_eq_false c76
                                        clear c76
                                        exact absurd (Option.some.inj H) (by rw [hr_.out]; decide)
                                    · rw [if_neg c74] at H
                                      have c74b0 : decide (20 ≤ t199) = false := decide_eq_false c74
                                      clear c74
                                      exact absurd (Option.some.inj H) (by rw [hr_.out]; decide)
                                  · rw [if_neg c73] at H
                                    have c73b0 : decide (t199 ≤ (wrap64 (20 + t198))) = false := decide_eq_false c73
                                    clear c73
                                    exact absurd (Option.some.inj H) (by rw [hr_.out]; decide)
                                · rw [if_neg c72] at H
                                  have c72b0 : (t201 == 30) = false := beq_eq_false_iff_ne.mpr c72
                                  have c72b1 : (t201 != 30) = true := bne_iff_ne.mpr c72
                                  exact absurd (Option.some.inj H) (by rw [hr_.out]; decide)
                              · rw [if_neg c70] at H
                                have c70b0 : (t200 == 60) = false := beq_eq_false_iff_ne.mpr c70
                                have c70b1 : (t200 != 60) = true := bne_iff_ne.mpr c70
                                exact absurd (Option.some.inj H) (by rw [hr_.out]; decide)

/-- THE ONE PURE STATEMENT of laws_FnHeats: yours. -/
def laws_FnHeats.Pure : Prop := ∀ (l0 : List Int), l0.length ≤ maxLen → l0.length * 1 ≤ 140737488351232 → (∀ x ∈ l0, (Lit.int .u8 x).wf = true) → ∃ k, laws_FnHeats.f k l0 = some true
theorem laws_FnHeats.walk (P : laws_FnHeats.Pure) (a0 : Option Addr) (len0 cap0 : Nat) (z0 : List Int) (w : World) (w0 : (a0 = none ∧ len0 = 0 ∧ cap0 = 0 ∧ z0 = []) ∨ ∃ x, a0 = some x ∧ len0 ≤ cap0 ∧ cap0 ≤ maxLen ∧ z0.length = cap0 ∧ (∀ i, i < z0.length → w.cell? (x.add i) = some (.int .u8 (z0.getD i 0))) ∧ ∀ n ∈ z0, (Lit.int .u8 n).wf = true) (y0 : len0 * 1 ≤ 140737488351232) :
    Calls Try.prog 8 #[.slice a0 len0 cap0] w fun e w' => e = .returned (.bool true) ∧ Below w.heap.size w w' := by
  obtain ⟨l0, rfl, hr0, hm0, hw0, hc0⟩ := ReadsInt.ofRowC w0
  obtain ⟨k, h⟩ := P l0 hm0 y0 hw0
  refine (laws_FnHeats.calls k _ _ l0 true w ⟨rfl⟩ (Kd.C_of_reads (d := (0 : Int)) (h1 := fun _ => rfl) hr0) hc0 h).mono ?_
  rintro e w' ⟨rfl, hd⟩
  exact ⟨rfl, hd⟩

end Go.Proofs.Ytkcfpkokgpimaaa.PFnHeats
