/- What the Go functions that the law FnTrays reaches compute, each as a plain function, and that the machine's calls come to just that. No condition. -/
import Derived.Test.YtnhkneicepmiiaaPFnTraysx0
import Derived.Test.YtnhkneicepmiiaaPFnTraysx1
namespace Go.Proofs.Ytnhkneicepmiiaa.PFnTrays
open Go.RowKit Go.Proofs.YtnhkneicepmiiaaW.PrintWords Go.Proofs.YtnhkneicepmiiaaW.PrintLast Go.Proofs.YtnhkneicepmiiaaW.PrintMore
attribute [local go_sem] max2_int min2_int max_two min_two max_three min_three max_four min_four   -- for this text's walks alone
set_option linter.unusedVariables false
set_option linter.unusedSimpArgs false

/-! ### laws_FnTrays: function 14 -/
mutual
def laws_FnTrays.j0 : Nat → List Int → Int → Int → Int → Int → List Int → Bool → Option (Bool)
  | 0, _, _, _, _, _, _, _ => none
  | k + 1, x0, x3, x4, x5, x6, x7, x71 => if x71 = true then (some false) else (laws_FnTrays.l0 k x0 x3 x4 x5 x6 x7 0)
def laws_FnTrays.l0 : Nat → List Int → Int → Int → Int → Int → List Int → Int → Option (Bool)
  | 0, _, _, _, _, _, _, _ => none
  | k + 1, x0, x3, x4, x5, x6, x7, x8 => if x8 < x6 then (if 0 ≤ x8 then (if x8 < (x7.length : Int) then (if (rd x7 x8) < 0 then (some false) else (if (wrap64 ((rd x7 x8) + x4)) > x3 then (some false) else (if x8 > 0 then (if 0 ≤ (wrap64 (x8 - 1)) then (if (wrap64 (x8 - 1)) < (x7.length : Int) then (if (wrap64 ((rd x7 x8) - (rd x7 (wrap64 (x8 - 1))))) = (wrap64 (x4 + x5)) then (laws_FnTrays.l0 k x0 x3 x4 x5 x6 x7 (wrap64 (x8 + 1))) else (some false)) else (none)) else (none)) else (laws_FnTrays.l0 k x0 x3 x4 x5 x6 x7 (wrap64 (x8 + 1)))))) else (none)) else (none)) else ((laws_at.f x0 3).bind fun t133 => ((laws_at.f x0 4).bind fun t134 => ((impl_OnTray.f x3 (wrap64 (1 + t133)) x4 (wrap64 (1 + (Int.tmod t134 40))) x5).bind fun t135 => ((laws_at.f x0 5).bind fun t136 => ((impl_TraysFor.f t136 x3 (wrap64 (1 + t133)) x4 (wrap64 (1 + (Int.tmod t134 40))) x5).bind fun t137 => (if t135 < 0 then (laws_FnTrays.j2 k x3 x4 true) else ((impl_OnTray.f (wrap64 (1 + t133)) x3 x4 (wrap64 (1 + (Int.tmod t134 40))) x5).bind fun t138 => (if t135 = t138 then ((impl_OnTray.f x3 (wrap64 (1 + t133)) (wrap64 (1 + (Int.tmod t134 40))) x4 x5).bind fun t139 => (if t135 = t139 then ((impl_RowsFor.f (wrap64 (1 + t133)) (wrap64 (1 + (Int.tmod t134 40))) x5).bind fun t140 => (if t135 < (wrap64 (x6 * t140)) then (laws_FnTrays.j2 k x3 x4 true) else (if ((decide (t137 ≥ 0)) != (decide (t135 > 0))) = true then (laws_FnTrays.j2 k x3 x4 true) else (if t137 ≥ 0 then (if (wrap64 (t137 * t135)) < t136 then (laws_FnTrays.j2 k x3 x4 true) else (laws_FnTrays.j2 k x3 x4 (decide ((wrap64 ((wrap64 (t137 - 1)) * t135)) ≥ (mx t136 1))))) else (laws_FnTrays.j2 k x3 x4 false))))) else (laws_FnTrays.j2 k x3 x4 true))) else (laws_FnTrays.j2 k x3 x4 true)))))))))
def laws_FnTrays.j2 : Nat → Int → Int → Bool → Option (Bool)
  | 0, _, _, _ => none
  | k + 1, x3, x4, x192 => if x192 = true then (some false) else ((impl_WidestGap.f k x3 x4 3).bind fun t141 => (if t141 < 0 then (if ((decide (t141 ≥ 0)) == (decide ((wrap64 (3 * x4)) ≤ x3))) = true then ((impl_RowsFor.f 80 20 10).bind fun t142 => (some (t142 == 3))) else (some false)) else ((impl_RowsFor.f x3 x4 t141).bind fun t143 => (if t143 ≥ 3 then (if t141 = 100 then (if ((decide (t141 ≥ 0)) == (decide ((wrap64 (3 * x4)) ≤ x3))) = true then ((impl_RowsFor.f 80 20 10).bind fun t144 => (some (t144 == 3))) else (some false)) else ((impl_RowsFor.f x3 x4 (wrap64 (t141 + 1))).bind fun t145 => (if t145 < 3 then (if ((decide (t141 ≥ 0)) == (decide ((wrap64 (3 * x4)) ≤ x3))) = true then ((impl_RowsFor.f 80 20 10).bind fun t146 => (some (t146 == 3))) else (some false)) else (some false)))) else (some false)))))
end
def laws_FnTrays.f (k : Nat) (l0 : List Int) : Option (Bool) := (laws_big.f l0).bind fun t121 => (if t121 = true then (some true) else ((laws_at.f l0 0).bind fun t122 => ((laws_at.f l0 1).bind fun t123 => ((laws_at.f l0 2).bind fun t124 => ((impl_RowsFor.f (wrap64 (1 + (wrap64 (t122 * 3)))) (wrap64 (1 + (Int.tmod t123 60))) (Int.tmod t124 20)).bind fun t125 => ((impl_PlacesOf.f k (wrap64 (1 + (wrap64 (t122 * 3)))) (wrap64 (1 + (Int.tmod t123 60))) (Int.tmod t124 20)).bind fun t126 => (if t125 < 0 then (laws_FnTrays.j0 k l0 (wrap64 (1 + (wrap64 (t122 * 3)))) (wrap64 (1 + (Int.tmod t123 60))) (Int.tmod t124 20) t125 t126 true) else (if t125 > 0 then (if (wrap64 ((wrap64 (t125 * (wrap64 (1 + (Int.tmod t123 60))))) + (wrap64 ((wrap64 (t125 - 1)) * (Int.tmod t124 20))))) > (wrap64 (1 + (wrap64 (t122 * 3)))) then (laws_FnTrays.j0 k l0 (wrap64 (1 + (wrap64 (t122 * 3)))) (wrap64 (1 + (Int.tmod t123 60))) (Int.tmod t124 20) t125 t126 true) else (if (wrap64 ((wrap64 ((wrap64 (t125 + 1)) * (wrap64 (1 + (Int.tmod t123 60))))) + (wrap64 (t125 * (Int.tmod t124 20))))) ≤ (wrap64 (1 + (wrap64 (t122 * 3)))) then (laws_FnTrays.j0 k l0 (wrap64 (1 + (wrap64 (t122 * 3)))) (wrap64 (1 + (Int.tmod t123 60))) (Int.tmod t124 20) t125 t126 true) else (laws_FnTrays.j0 k l0 (wrap64 (1 + (wrap64 (t122 * 3)))) (wrap64 (1 + (Int.tmod t123 60))) (Int.tmod t124 20) t125 t126 ((t126.length : Int) != t125)))) else (if (wrap64 ((wrap64 ((wrap64 (t125 + 1)) * (wrap64 (1 + (Int.tmod t123 60))))) + (wrap64 (t125 * (Int.tmod t124 20))))) ≤ (wrap64 (1 + (wrap64 (t122 * 3)))) then (laws_FnTrays.j0 k l0 (wrap64 (1 + (wrap64 (t122 * 3)))) (wrap64 (1 + (Int.tmod t123 60))) (Int.tmod t124 20) t125 t126 true) else (laws_FnTrays.j0 k l0 (wrap64 (1 + (wrap64 (t122 * 3)))) (wrap64 (1 + (Int.tmod t123 60))) (Int.tmod t124 20) t125 t126 ((t126.length : Int) != t125)))))))))))
theorem laws_FnTrays.j0_no {k : Nat} {u0 : List Int} {u1 : Int} {u2 : Int} {u3 : Int} {u4 : Int} {u5 : List Int} {r : Bool} (h : laws_FnTrays.j0 k u0 u1 u2 u3 u4 u5 true = some r) (h2 : r = true) : False := by
  subst h2
  cases k <;> simp [laws_FnTrays.j0] at h
theorem laws_FnTrays.j2_no {k : Nat} {u0 : Int} {u1 : Int} {r : Bool} (h : laws_FnTrays.j2 k u0 u1 true = some r) (h2 : r = true) : False := by
  subst h2
  cases k <;> simp [laws_FnTrays.j2] at h
theorem laws_FnTrays.mono_l : ∀ k, (∀ y0 y1 y2 y3 y4 y5 y6, LeO (laws_FnTrays.j0 k y0 y1 y2 y3 y4 y5 y6) (laws_FnTrays.j0 (k + 1) y0 y1 y2 y3 y4 y5 y6)) ∧ (∀ y0 y1 y2 y3 y4 y5 y6, LeO (laws_FnTrays.l0 k y0 y1 y2 y3 y4 y5 y6) (laws_FnTrays.l0 (k + 1) y0 y1 y2 y3 y4 y5 y6)) ∧ (∀ y0 y1 y2, LeO (laws_FnTrays.j2 k y0 y1 y2) (laws_FnTrays.j2 (k + 1) y0 y1 y2))
  | 0 => ⟨fun _ _ _ _ _ _ _ r h => by simp [laws_FnTrays.j0] at h, fun _ _ _ _ _ _ _ r h => by simp [laws_FnTrays.l0] at h, fun _ _ _ r h => by simp [laws_FnTrays.j2] at h⟩
  | k + 1 => by
    obtain ⟨ih0, ih1, ih2⟩ := laws_FnTrays.mono_l k
    refine ⟨?_, ?_, ?_⟩
    · intro y0 y1 y2 y3 y4 y5 y6
      unfold laws_FnTrays.j0
      repeat' first
      | (with_reducible exact ih0 _ _ _ _ _ _ _)
      | (with_reducible exact ih1 _ _ _ _ _ _ _)
      | (with_reducible exact ih2 _ _ _)
      | (with_reducible exact impl_PlacesOf.mono _ _ _ _)
      | (with_reducible exact impl_WidestGap.mono _ _ _ _)
      | (with_reducible exact LeO.refl _)
      | (with_reducible exact LeO.none _)
      | (with_reducible refine LeO.ite ?_ ?_)
      | (with_reducible refine LeO.bind ?_ (fun _ => ?_))
      | exact ih0 _ _ _ _ _ _ _
      | exact ih1 _ _ _ _ _ _ _
      | exact ih2 _ _ _
      | exact impl_PlacesOf.mono _ _ _ _
      | exact impl_WidestGap.mono _ _ _ _
      | exact LeO.none _
      | refine LeO.ite ?_ ?_
      | refine LeO.bind ?_ (fun _ => ?_)
    · intro y0 y1 y2 y3 y4 y5 y6
      unfold laws_FnTrays.l0
      repeat' first
      | (with_reducible exact ih0 _ _ _ _ _ _ _)
      | (with_reducible exact ih1 _ _ _ _ _ _ _)
      | (with_reducible exact ih2 _ _ _)
      | (with_reducible exact impl_PlacesOf.mono _ _ _ _)
      | (with_reducible exact impl_WidestGap.mono _ _ _ _)
      | (with_reducible exact LeO.refl _)
      | (with_reducible exact LeO.none _)
      | (with_reducible refine LeO.ite ?_ ?_)
      | (with_reducible refine LeO.bind ?_ (fun _ => ?_))
      | exact ih0 _ _ _ _ _ _ _
      | exact ih1 _ _ _ _ _ _ _
      | exact ih2 _ _ _
      | exact impl_PlacesOf.mono _ _ _ _
      | exact impl_WidestGap.mono _ _ _ _
      | exact LeO.none _
      | refine LeO.ite ?_ ?_
      | refine LeO.bind ?_ (fun _ => ?_)
    · intro y0 y1 y2
      unfold laws_FnTrays.j2
      repeat' first
      | (with_reducible exact ih0 _ _ _ _ _ _ _)
      | (with_reducible exact ih1 _ _ _ _ _ _ _)
      | (with_reducible exact ih2 _ _ _)
      | (with_reducible exact impl_PlacesOf.mono _ _ _ _)
      | (with_reducible exact impl_WidestGap.mono _ _ _ _)
      | (with_reducible exact LeO.refl _)
      | (with_reducible exact LeO.none _)
      | (with_reducible refine LeO.ite ?_ ?_)
      | (with_reducible refine LeO.bind ?_ (fun _ => ?_))
      | exact ih0 _ _ _ _ _ _ _
      | exact ih1 _ _ _ _ _ _ _
      | exact ih2 _ _ _
      | exact impl_PlacesOf.mono _ _ _ _
      | exact impl_WidestGap.mono _ _ _ _
      | exact LeO.none _
      | refine LeO.ite ?_ ?_
      | refine LeO.bind ?_ (fun _ => ?_)
theorem laws_FnTrays.mono : ∀ a0 k, LeO (laws_FnTrays.f k a0) (laws_FnTrays.f (k + 1) a0) := by
  intro a0 k
  obtain ⟨ih0, ih1, ih2⟩ := laws_FnTrays.mono_l k
  unfold laws_FnTrays.f
  repeat' first
      | (with_reducible exact ih0 _ _ _ _ _ _ _)
      | (with_reducible exact ih1 _ _ _ _ _ _ _)
      | (with_reducible exact ih2 _ _ _)
      | (with_reducible exact impl_PlacesOf.mono _ _ _ _)
      | (with_reducible exact impl_WidestGap.mono _ _ _ _)
      | (with_reducible exact LeO.refl _)
      | (with_reducible exact LeO.none _)
      | (with_reducible refine LeO.ite ?_ ?_)
      | (with_reducible refine LeO.bind ?_ (fun _ => ?_))
      | exact ih0 _ _ _ _ _ _ _
      | exact ih1 _ _ _ _ _ _ _
      | exact ih2 _ _ _
      | exact impl_PlacesOf.mono _ _ _ _
      | exact impl_WidestGap.mono _ _ _ _
      | exact LeO.none _
      | refine LeO.ite ?_ ?_
      | refine LeO.bind ?_ (fun _ => ?_)
set_option maxHeartbeats 8000000 in
set_option maxRecDepth 100000 in
theorem laws_FnTrays.calls (k : Nat) (A0 : Option Addr) (c0 : Nat) (l0 : List Int) (r : Bool) (w : World) (hr_ : Aside0 (r = true)) (hr0 : Kd.C (Kd.int .u8) w A0 l0.length l0) (hc0 : l0.length ≤ c0) (h : laws_FnTrays.f k l0 = some r) :
    Calls Try.prog 14 #[.slice A0 l0.length c0] w fun e w' => e = .returned (.bool r) ∧ Below w.heap.size w w' := by
  have HR0 := Aside0.mk hr0
  have HC0 := Aside0.mk hc0
  clear hr0 hc0
  have HB := Aside0.mk (Below.refl w.heap.size w)
  have H : ((laws_big.f l0).bind fun t121 => (if t121 = true then (some true) else ((laws_at.f l0 0).bind fun t122 => ((laws_at.f l0 1).bind fun t123 => ((laws_at.f l0 2).bind fun t124 => ((impl_RowsFor.f (wrap64 (1 + (wrap64 (t122 * 3)))) (wrap64 (1 + (Int.tmod t123 60))) (Int.tmod t124 20)).bind fun t125 => ((impl_PlacesOf.f k (wrap64 (1 + (wrap64 (t122 * 3)))) (wrap64 (1 + (Int.tmod t123 60))) (Int.tmod t124 20)).bind fun t126 => (if t125 < 0 then (laws_FnTrays.j0 k l0 (wrap64 (1 + (wrap64 (t122 * 3)))) (wrap64 (1 + (Int.tmod t123 60))) (Int.tmod t124 20) t125 t126 true) else (if t125 > 0 then (if (wrap64 ((wrap64 (t125 * (wrap64 (1 + (Int.tmod t123 60))))) + (wrap64 ((wrap64 (t125 - 1)) * (Int.tmod t124 20))))) > (wrap64 (1 + (wrap64 (t122 * 3)))) then (laws_FnTrays.j0 k l0 (wrap64 (1 + (wrap64 (t122 * 3)))) (wrap64 (1 + (Int.tmod t123 60))) (Int.tmod t124 20) t125 t126 true) else (if (wrap64 ((wrap64 ((wrap64 (t125 + 1)) * (wrap64 (1 + (Int.tmod t123 60))))) + (wrap64 (t125 * (Int.tmod t124 20))))) ≤ (wrap64 (1 + (wrap64 (t122 * 3)))) then (laws_FnTrays.j0 k l0 (wrap64 (1 + (wrap64 (t122 * 3)))) (wrap64 (1 + (Int.tmod t123 60))) (Int.tmod t124 20) t125 t126 true) else (laws_FnTrays.j0 k l0 (wrap64 (1 + (wrap64 (t122 * 3)))) (wrap64 (1 + (Int.tmod t123 60))) (Int.tmod t124 20) t125 t126 ((t126.length : Int) != t125)))) else (if (wrap64 ((wrap64 ((wrap64 (t125 + 1)) * (wrap64 (1 + (Int.tmod t123 60))))) + (wrap64 (t125 * (Int.tmod t124 20))))) ≤ (wrap64 (1 + (wrap64 (t122 * 3)))) then (laws_FnTrays.j0 k l0 (wrap64 (1 + (wrap64 (t122 * 3)))) (wrap64 (1 + (Int.tmod t123 60))) (Int.tmod t124 20) t125 t126 true) else (laws_FnTrays.j0 k l0 (wrap64 (1 + (wrap64 (t122 * 3)))) (wrap64 (1 + (Int.tmod t123 60))) (Int.tmod t124 20) t125 t126 ((t126.length : Int) != t125)))))))))))) = some r := h
  clear h
  replace H := Option.bind_eq_some_iff.mp H
  obtain ⟨t121, A20, H⟩ := H
  replace H : (if t121 = true then (some true) else ((laws_at.f l0 0).bind fun t122 => ((laws_at.f l0 1).bind fun t123 => ((laws_at.f l0 2).bind fun t124 => ((impl_RowsFor.f (wrap64 (1 + (wrap64 (t122 * 3)))) (wrap64 (1 + (Int.tmod t123 60))) (Int.tmod t124 20)).bind fun t125 => ((impl_PlacesOf.f k (wrap64 (1 + (wrap64 (t122 * 3)))) (wrap64 (1 + (Int.tmod t123 60))) (Int.tmod t124 20)).bind fun t126 => (if t125 < 0 then (laws_FnTrays.j0 k l0 (wrap64 (1 + (wrap64 (t122 * 3)))) (wrap64 (1 + (Int.tmod t123 60))) (Int.tmod t124 20) t125 t126 true) else (if t125 > 0 then (if (wrap64 ((wrap64 (t125 * (wrap64 (1 + (Int.tmod t123 60))))) + (wrap64 ((wrap64 (t125 - 1)) * (Int.tmod t124 20))))) > (wrap64 (1 + (wrap64 (t122 * 3)))) then (laws_FnTrays.j0 k l0 (wrap64 (1 + (wrap64 (t122 * 3)))) (wrap64 (1 + (Int.tmod t123 60))) (Int.tmod t124 20) t125 t126 true) else (if (wrap64 ((wrap64 ((wrap64 (t125 + 1)) * (wrap64 (1 + (Int.tmod t123 60))))) + (wrap64 (t125 * (Int.tmod t124 20))))) ≤ (wrap64 (1 + (wrap64 (t122 * 3)))) then (laws_FnTrays.j0 k l0 (wrap64 (1 + (wrap64 (t122 * 3)))) (wrap64 (1 + (Int.tmod t123 60))) (Int.tmod t124 20) t125 t126 true) else (laws_FnTrays.j0 k l0 (wrap64 (1 + (wrap64 (t122 * 3)))) (wrap64 (1 + (Int.tmod t123 60))) (Int.tmod t124 20) t125 t126 ((t126.length : Int) != t125)))) else (if (wrap64 ((wrap64 ((wrap64 (t125 + 1)) * (wrap64 (1 + (Int.tmod t123 60))))) + (wrap64 (t125 * (Int.tmod t124 20))))) ≤ (wrap64 (1 + (wrap64 (t122 * 3)))) then (laws_FnTrays.j0 k l0 (wrap64 (1 + (wrap64 (t122 * 3)))) (wrap64 (1 + (Int.tmod t123 60))) (Int.tmod t124 20) t125 t126 true) else (laws_FnTrays.j0 k l0 (wrap64 (1 + (wrap64 (t122 * 3)))) (wrap64 (1 + (Int.tmod t123 60))) (Int.tmod t124 20) t125 t126 ((t126.length : Int) != t125))))))))))) = some r := H
  have A2 := Aside0.mk A20
  clear A20
  by_cases c3 : t121 = true
  · subst c3
    have H1 : (some true) = some r := by rw [if_pos rfl] at H; exact H
    clear H
    have H := H1
    clear H1
    obtain rfl := Option.some.inj H
    go_enter Try.func14, Try.ntmps14
    go_wp2_with (first | (go_at_call 45; (with_reducible refine (laws_big.calls _ _ l0 true _ ?side1 ?side2 A2.out).mono ?_); (case side1 => repeat (first | exact HR0.out | (with_reducible refine Kd.C_alloc ?_ _) | (with_reducible refine Kd.C_drewN ?_ _) | (with_reducible refine Kd.C_drew ?_))); (case side2 => exact HC0.out); rintro e w' ⟨rfl, ⟨nd, rfl⟩⟩; (try first | exact ⟨rfl, _, World.drewN_drewN _ _ _⟩ | exact ⟨rfl, _, Eq.trans (World.drewN_drewN _ _ _) (congrArg (World.drewN _) (Nat.add_assoc _ _ _))⟩)))
    repeat (go_quiet (first | (go_at_call 45; (with_reducible refine (laws_big.calls _ _ l0 true _ ?side1 ?side2 A2.out).mono ?_); (case side1 => repeat (first | exact HR0.out | (with_reducible refine Kd.C_alloc ?_ _) | (with_reducible refine Kd.C_drewN ?_ _) | (with_reducible refine Kd.C_drew ?_))); (case side2 => exact HC0.out); rintro e w' ⟨rfl, ⟨nd, rfl⟩⟩; (try first | exact ⟨rfl, _, World.drewN_drewN _ _ _⟩ | exact ⟨rfl, _, Eq.trans (World.drewN_drewN _ _ _) (congrArg (World.drewN _) (Nat.add_assoc _ _ _))⟩))); try go_wp2_with (first | (go_at_call 45; (with_reducible refine (laws_big.calls _ _ l0 true _ ?side1 ?side2 A2.out).mono ?_); (case side1 => repeat (first | exact HR0.out | (with_reducible refine Kd.C_alloc ?_ _) | (with_reducible refine Kd.C_drewN ?_ _) | (with_reducible refine Kd.C_drew ?_))); (case side2 => exact HC0.out); rintro e w' ⟨rfl, ⟨nd, rfl⟩⟩; (try first | exact ⟨rfl, _, World.drewN_drewN _ _ _⟩ | exact ⟨rfl, _, Eq.trans (World.drewN_drewN _ _ _) (congrArg (World.drewN _) (Nat.add_assoc _ _ _))⟩))))
    go_ret
    exact ⟨by first | rfl | (simp [errW_none, errW_some] <;> rfl) | (simp [*, errW_none, errW_some] <;> rfl), by repeat (first | (with_reducible first | exact HB.out | apply below_alloc | apply pw_below_drewN | apply below_drew1) | exact HB.out)⟩
  · replace c3 := Bool.eq_false_iff.mpr c3
    subst c3
    have H1 : ((laws_at.f l0 0).bind fun t122 => ((laws_at.f l0 1).bind fun t123 => ((laws_at.f l0 2).bind fun t124 => ((impl_RowsFor.f (wrap64 (1 + (wrap64 (t122 * 3)))) (wrap64 (1 + (Int.tmod t123 60))) (Int.tmod t124 20)).bind fun t125 => ((impl_PlacesOf.f k (wrap64 (1 + (wrap64 (t122 * 3)))) (wrap64 (1 + (Int.tmod t123 60))) (Int.tmod t124 20)).bind fun t126 => (if t125 < 0 then (laws_FnTrays.j0 k l0 (wrap64 (1 + (wrap64 (t122 * 3)))) (wrap64 (1 + (Int.tmod t123 60))) (Int.tmod t124 20) t125 t126 true) else (if t125 > 0 then (if (wrap64 ((wrap64 (t125 * (wrap64 (1 + (Int.tmod t123 60))))) + (wrap64 ((wrap64 (t125 - 1)) * (Int.tmod t124 20))))) > (wrap64 (1 + (wrap64 (t122 * 3)))) then (laws_FnTrays.j0 k l0 (wrap64 (1 + (wrap64 (t122 * 3)))) (wrap64 (1 + (Int.tmod t123 60))) (Int.tmod t124 20) t125 t126 true) else (if (wrap64 ((wrap64 ((wrap64 (t125 + 1)) * (wrap64 (1 + (Int.tmod t123 60))))) + (wrap64 (t125 * (Int.tmod t124 20))))) ≤ (wrap64 (1 + (wrap64 (t122 * 3)))) then (laws_FnTrays.j0 k l0 (wrap64 (1 + (wrap64 (t122 * 3)))) (wrap64 (1 + (Int.tmod t123 60))) (Int.tmod t124 20) t125 t126 true) else (laws_FnTrays.j0 k l0 (wrap64 (1 + (wrap64 (t122 * 3)))) (wrap64 (1 + (Int.tmod t123 60))) (Int.tmod t124 20) t125 t126 ((t126.length : Int) != t125)))) else (if (wrap64 ((wrap64 ((wrap64 (t125 + 1)) * (wrap64 (1 + (Int.tmod t123 60))))) + (wrap64 (t125 * (Int.tmod t124 20))))) ≤ (wrap64 (1 + (wrap64 (t122 * 3)))) then (laws_FnTrays.j0 k l0 (wrap64 (1 + (wrap64 (t122 * 3)))) (wrap64 (1 + (Int.tmod t123 60))) (Int.tmod t124 20) t125 t126 true) else (laws_FnTrays.j0 k l0 (wrap64 (1 + (wrap64 (t122 * 3)))) (wrap64 (1 + (Int.tmod t123 60))) (Int.tmod t124 20) t125 t126 ((t126.length : Int) != t125)))))))))) = some r := by rw [if_neg (show ¬ (false = true) by decide)] at H; exact H
    clear H
    have H := H1
    clear H1
    replace H := Option.bind_eq_some_iff.mp H
    obtain ⟨t122, A40, H⟩ := H
    replace H : ((laws_at.f l0 1).bind fun t123 => ((laws_at.f l0 2).bind fun t124 => ((impl_RowsFor.f (wrap64 (1 + (wrap64 (t122 * 3)))) (wrap64 (1 + (Int.tmod t123 60))) (Int.tmod t124 20)).bind fun t125 => ((impl_PlacesOf.f k (wrap64 (1 + (wrap64 (t122 * 3)))) (wrap64 (1 + (Int.tmod t123 60))) (Int.tmod t124 20)).bind fun t126 => (if t125 < 0 then (laws_FnTrays.j0 k l0 (wrap64 (1 + (wrap64 (t122 * 3)))) (wrap64 (1 + (Int.tmod t123 60))) (Int.tmod t124 20) t125 t126 true) else (if t125 > 0 then (if (wrap64 ((wrap64 (t125 * (wrap64 (1 + (Int.tmod t123 60))))) + (wrap64 ((wrap64 (t125 - 1)) * (Int.tmod t124 20))))) > (wrap64 (1 + (wrap64 (t122 * 3)))) then (laws_FnTrays.j0 k l0 (wrap64 (1 + (wrap64 (t122 * 3)))) (wrap64 (1 + (Int.tmod t123 60))) (Int.tmod t124 20) t125 t126 true) else (if (wrap64 ((wrap64 ((wrap64 (t125 + 1)) * (wrap64 (1 + (Int.tmod t123 60))))) + (wrap64 (t125 * (Int.tmod t124 20))))) ≤ (wrap64 (1 + (wrap64 (t122 * 3)))) then (laws_FnTrays.j0 k l0 (wrap64 (1 + (wrap64 (t122 * 3)))) (wrap64 (1 + (Int.tmod t123 60))) (Int.tmod t124 20) t125 t126 true) else (laws_FnTrays.j0 k l0 (wrap64 (1 + (wrap64 (t122 * 3)))) (wrap64 (1 + (Int.tmod t123 60))) (Int.tmod t124 20) t125 t126 ((t126.length : Int) != t125)))) else (if (wrap64 ((wrap64 ((wrap64 (t125 + 1)) * (wrap64 (1 + (Int.tmod t123 60))))) + (wrap64 (t125 * (Int.tmod t124 20))))) ≤ (wrap64 (1 + (wrap64 (t122 * 3)))) then (laws_FnTrays.j0 k l0 (wrap64 (1 + (wrap64 (t122 * 3)))) (wrap64 (1 + (Int.tmod t123 60))) (Int.tmod t124 20) t125 t126 true) else (laws_FnTrays.j0 k l0 (wrap64 (1 + (wrap64 (t122 * 3)))) (wrap64 (1 + (Int.tmod t123 60))) (Int.tmod t124 20) t125 t126 ((t126.length : Int) != t125))))))))) = some r := H
    have A4 := Aside0.mk A40
    clear A40
    replace H := Option.bind_eq_some_iff.mp H
    obtain ⟨t123, A50, H⟩ := H
    replace H : ((laws_at.f l0 2).bind fun t124 => ((impl_RowsFor.f (wrap64 (1 + (wrap64 (t122 * 3)))) (wrap64 (1 + (Int.tmod t123 60))) (Int.tmod t124 20)).bind fun t125 => ((impl_PlacesOf.f k (wrap64 (1 + (wrap64 (t122 * 3)))) (wrap64 (1 + (Int.tmod t123 60))) (Int.tmod t124 20)).bind fun t126 => (if t125 < 0 then (laws_FnTrays.j0 k l0 (wrap64 (1 + (wrap64 (t122 * 3)))) (wrap64 (1 + (Int.tmod t123 60))) (Int.tmod t124 20) t125 t126 true) else (if t125 > 0 then (if (wrap64 ((wrap64 (t125 * (wrap64 (1 + (Int.tmod t123 60))))) + (wrap64 ((wrap64 (t125 - 1)) * (Int.tmod t124 20))))) > (wrap64 (1 + (wrap64 (t122 * 3)))) then (laws_FnTrays.j0 k l0 (wrap64 (1 + (wrap64 (t122 * 3)))) (wrap64 (1 + (Int.tmod t123 60))) (Int.tmod t124 20) t125 t126 true) else (if (wrap64 ((wrap64 ((wrap64 (t125 + 1)) * (wrap64 (1 + (Int.tmod t123 60))))) + (wrap64 (t125 * (Int.tmod t124 20))))) ≤ (wrap64 (1 + (wrap64 (t122 * 3)))) then (laws_FnTrays.j0 k l0 (wrap64 (1 + (wrap64 (t122 * 3)))) (wrap64 (1 + (Int.tmod t123 60))) (Int.tmod t124 20) t125 t126 true) else (laws_FnTrays.j0 k l0 (wrap64 (1 + (wrap64 (t122 * 3)))) (wrap64 (1 + (Int.tmod t123 60))) (Int.tmod t124 20) t125 t126 ((t126.length : Int) != t125)))) else (if (wrap64 ((wrap64 ((wrap64 (t125 + 1)) * (wrap64 (1 + (Int.tmod t123 60))))) + (wrap64 (t125 * (Int.tmod t124 20))))) ≤ (wrap64 (1 + (wrap64 (t122 * 3)))) then (laws_FnTrays.j0 k l0 (wrap64 (1 + (wrap64 (t122 * 3)))) (wrap64 (1 + (Int.tmod t123 60))) (Int.tmod t124 20) t125 t126 true) else (laws_FnTrays.j0 k l0 (wrap64 (1 + (wrap64 (t122 * 3)))) (wrap64 (1 + (Int.tmod t123 60))) (Int.tmod t124 20) t125 t126 ((t126.length : Int) != t125)))))))) = some r := H
    have A5 := Aside0.mk A50
    clear A50
    replace H := Option.bind_eq_some_iff.mp H
    obtain ⟨t124, A60, H⟩ := H
    replace H : ((impl_RowsFor.f (wrap64 (1 + (wrap64 (t122 * 3)))) (wrap64 (1 + (Int.tmod t123 60))) (Int.tmod t124 20)).bind fun t125 => ((impl_PlacesOf.f k (wrap64 (1 + (wrap64 (t122 * 3)))) (wrap64 (1 + (Int.tmod t123 60))) (Int.tmod t124 20)).bind fun t126 => (if t125 < 0 then (laws_FnTrays.j0 k l0 (wrap64 (1 + (wrap64 (t122 * 3)))) (wrap64 (1 + (Int.tmod t123 60))) (Int.tmod t124 20) t125 t126 true) else (if t125 > 0 then (if (wrap64 ((wrap64 (t125 * (wrap64 (1 + (Int.tmod t123 60))))) + (wrap64 ((wrap64 (t125 - 1)) * (Int.tmod t124 20))))) > (wrap64 (1 + (wrap64 (t122 * 3)))) then (laws_FnTrays.j0 k l0 (wrap64 (1 + (wrap64 (t122 * 3)))) (wrap64 (1 + (Int.tmod t123 60))) (Int.tmod t124 20) t125 t126 true) else (if (wrap64 ((wrap64 ((wrap64 (t125 + 1)) * (wrap64 (1 + (Int.tmod t123 60))))) + (wrap64 (t125 * (Int.tmod t124 20))))) ≤ (wrap64 (1 + (wrap64 (t122 * 3)))) then (laws_FnTrays.j0 k l0 (wrap64 (1 + (wrap64 (t122 * 3)))) (wrap64 (1 + (Int.tmod t123 60))) (Int.tmod t124 20) t125 t126 true) else (laws_FnTrays.j0 k l0 (wrap64 (1 + (wrap64 (t122 * 3)))) (wrap64 (1 + (Int.tmod t123 60))) (Int.tmod t124 20) t125 t126 ((t126.length : Int) != t125)))) else (if (wrap64 ((wrap64 ((wrap64 (t125 + 1)) * (wrap64 (1 + (Int.tmod t123 60))))) + (wrap64 (t125 * (Int.tmod t124 20))))) ≤ (wrap64 (1 + (wrap64 (t122 * 3)))) then (laws_FnTrays.j0 k l0 (wrap64 (1 + (wrap64 (t122 * 3)))) (wrap64 (1 + (Int.tmod t123 60))) (Int.tmod t124 20) t125 t126 true) else (laws_FnTrays.j0 k l0 (wrap64 (1 + (wrap64 (t122 * 3)))) (wrap64 (1 + (Int.tmod t123 60))) (Int.tmod t124 20) t125 t126 ((t126.length : Int) != t125))))))) = some r := H
    have A6 := Aside0.mk A60
    clear A60
    replace H := Option.bind_eq_some_iff.mp H
    obtain ⟨t125, A70, H⟩ := H
    replace H : ((impl_PlacesOf.f k (wrap64 (1 + (wrap64 (t122 * 3)))) (wrap64 (1 + (Int.tmod t123 60))) (Int.tmod t124 20)).bind fun t126 => (if t125 < 0 then (laws_FnTrays.j0 k l0 (wrap64 (1 + (wrap64 (t122 * 3)))) (wrap64 (1 + (Int.tmod t123 60))) (Int.tmod t124 20) t125 t126 true) else (if t125 > 0 then (if (wrap64 ((wrap64 (t125 * (wrap64 (1 + (Int.tmod t123 60))))) + (wrap64 ((wrap64 (t125 - 1)) * (Int.tmod t124 20))))) > (wrap64 (1 + (wrap64 (t122 * 3)))) then (laws_FnTrays.j0 k l0 (wrap64 (1 + (wrap64 (t122 * 3)))) (wrap64 (1 + (Int.tmod t123 60))) (Int.tmod t124 20) t125 t126 true) else (if (wrap64 ((wrap64 ((wrap64 (t125 + 1)) * (wrap64 (1 + (Int.tmod t123 60))))) + (wrap64 (t125 * (Int.tmod t124 20))))) ≤ (wrap64 (1 + (wrap64 (t122 * 3)))) then (laws_FnTrays.j0 k l0 (wrap64 (1 + (wrap64 (t122 * 3)))) (wrap64 (1 + (Int.tmod t123 60))) (Int.tmod t124 20) t125 t126 true) else (laws_FnTrays.j0 k l0 (wrap64 (1 + (wrap64 (t122 * 3)))) (wrap64 (1 + (Int.tmod t123 60))) (Int.tmod t124 20) t125 t126 ((t126.length : Int) != t125)))) else (if (wrap64 ((wrap64 ((wrap64 (t125 + 1)) * (wrap64 (1 + (Int.tmod t123 60))))) + (wrap64 (t125 * (Int.tmod t124 20))))) ≤ (wrap64 (1 + (wrap64 (t122 * 3)))) then (laws_FnTrays.j0 k l0 (wrap64 (1 + (wrap64 (t122 * 3)))) (wrap64 (1 + (Int.tmod t123 60))) (Int.tmod t124 20) t125 t126 true) else (laws_FnTrays.j0 k l0 (wrap64 (1 + (wrap64 (t122 * 3)))) (wrap64 (1 + (Int.tmod t123 60))) (Int.tmod t124 20) t125 t126 ((t126.length : Int) != t125)))))) = some r := H
    have A7 := Aside0.mk A70
    clear A70
    replace H := Option.bind_eq_some_iff.mp H
    obtain ⟨t126, A80, H⟩ := H
    replace H : (if t125 < 0 then (laws_FnTrays.j0 k l0 (wrap64 (1 + (wrap64 (t122 * 3)))) (wrap64 (1 + (Int.tmod t123 60))) (Int.tmod t124 20) t125 t126 true) else (if t125 > 0 then (if (wrap64 ((wrap64 (t125 * (wrap64 (1 + (Int.tmod t123 60))))) + (wrap64 ((wrap64 (t125 - 1)) * (Int.tmod t124 20))))) > (wrap64 (1 + (wrap64 (t122 * 3)))) then (laws_FnTrays.j0 k l0 (wrap64 (1 + (wrap64 (t122 * 3)))) (wrap64 (1 + (Int.tmod t123 60))) (Int.tmod t124 20) t125 t126 true) else (if (wrap64 ((wrap64 ((wrap64 (t125 + 1)) * (wrap64 (1 + (Int.tmod t123 60))))) + (wrap64 (t125 * (Int.tmod t124 20))))) ≤ (wrap64 (1 + (wrap64 (t122 * 3)))) then (laws_FnTrays.j0 k l0 (wrap64 (1 + (wrap64 (t122 * 3)))) (wrap64 (1 + (Int.tmod t123 60))) (Int.tmod t124 20) t125 t126 true) else (laws_FnTrays.j0 k l0 (wrap64 (1 + (wrap64 (t122 * 3)))) (wrap64 (1 + (Int.tmod t123 60))) (Int.tmod t124 20) t125 t126 ((t126.length : Int) != t125)))) else (if (wrap64 ((wrap64 ((wrap64 (t125 + 1)) * (wrap64 (1 + (Int.tmod t123 60))))) + (wrap64 (t125 * (Int.tmod t124 20))))) ≤ (wrap64 (1 + (wrap64 (t122 * 3)))) then (laws_FnTrays.j0 k l0 (wrap64 (1 + (wrap64 (t122 * 3)))) (wrap64 (1 + (Int.tmod t123 60))) (Int.tmod t124 20) t125 t126 true) else (laws_FnTrays.j0 k l0 (wrap64 (1 + (wrap64 (t122 * 3)))) (wrap64 (1 + (Int.tmod t123 60))) (Int.tmod t124 20) t125 t126 ((t126.length : Int) != t125))))) = some r := H
    have A8 := Aside0.mk A80
    clear A80
    have HC9 := Aside0.mk H
    clear H
    go_enter Try.func14, Try.ntmps14
    go_upto_region 8 with (first | (go_at_call 45; (with_reducible refine (laws_big.calls _ _ l0 false _ ?side1 ?side2 A2.out).mono ?_); (case side1 => repeat (first | exact HR0.out | (with_reducible refine Kd.C_alloc ?_ _) | (with_reducible refine Kd.C_drewN ?_ _) | (with_reducible refine Kd.C_drew ?_))); (case side2 => exact HC0.out); rintro e w' ⟨rfl, ⟨nd, rfl⟩⟩; (try first | exact ⟨rfl, _, World.drewN_drewN _ _ _⟩ | exact ⟨rfl, _, Eq.trans (World.drewN_drewN _ _ _) (congrArg (World.drewN _) (Nat.add_assoc _ _ _))⟩)) | (go_at_call 46; (with_reducible refine (laws_at.calls _ _ l0 0 t122 _ ?side1 ?side2 A4.out).mono ?_); (case side1 => repeat (first | exact HR0.out | (with_reducible refine Kd.C_alloc ?_ _) | (with_reducible refine Kd.C_drewN ?_ _) | (with_reducible refine Kd.C_drew ?_))); (case side2 => exact HC0.out); rintro e w' ⟨rfl, ⟨nd, rfl⟩⟩; (try first | exact ⟨rfl, _, World.drewN_drewN _ _ _⟩ | exact ⟨rfl, _, Eq.trans (World.drewN_drewN _ _ _) (congrArg (World.drewN _) (Nat.add_assoc _ _ _))⟩)) | (go_at_call 46; (with_reducible refine (laws_at.calls _ _ l0 1 t123 _ ?side1 ?side2 A5.out).mono ?_); (case side1 => repeat (first | exact HR0.out | (with_reducible refine Kd.C_alloc ?_ _) | (with_reducible refine Kd.C_drewN ?_ _) | (with_reducible refine Kd.C_drew ?_))); (case side2 => exact HC0.out); rintro e w' ⟨rfl, ⟨nd, rfl⟩⟩; (try first | exact ⟨rfl, _, World.drewN_drewN _ _ _⟩ | exact ⟨rfl, _, Eq.trans (World.drewN_drewN _ _ _) (congrArg (World.drewN _) (Nat.add_assoc _ _ _))⟩)) | (go_at_call 46; (with_reducible refine (laws_at.calls _ _ l0 2 t124 _ ?side1 ?side2 A6.out).mono ?_); (case side1 => repeat (first | exact HR0.out | (with_reducible refine Kd.C_alloc ?_ _) | (with_reducible refine Kd.C_drewN ?_ _) | (with_reducible refine Kd.C_drew ?_))); (case side2 => exact HC0.out); rintro e w' ⟨rfl, ⟨nd, rfl⟩⟩; (try first | exact ⟨rfl, _, World.drewN_drewN _ _ _⟩ | exact ⟨rfl, _, Eq.trans (World.drewN_drewN _ _ _) (congrArg (World.drewN _) (Nat.add_assoc _ _ _))⟩)) | (go_at_call 16; (with_reducible refine (impl_RowsFor.calls (wrap64 (1 + (wrap64 (t122 * 3)))) (wrap64 (1 + (Int.tmod t123 60))) (Int.tmod t124 20) t125 _ A7.out).mono ?_); rintro e w' ⟨rfl, ⟨nd, rfl⟩⟩; (try first | exact ⟨rfl, _, World.drewN_drewN _ _ _⟩ | exact ⟨rfl, _, Eq.trans (World.drewN_drewN _ _ _) (congrArg (World.drewN _) (Nat.add_assoc _ _ _))⟩)) | (go_at_call 41; (with_reducible refine (impl_PlacesOf.calls k (wrap64 (1 + (wrap64 (t122 * 3)))) (wrap64 (1 + (Int.tmod t123 60))) (Int.tmod t124 20) t126 _ A8.out).mono ?_); rintro e w10 ⟨v127, rfl, ho0, hb⟩; have n0_ := Aside0.mk (Kd.R_lower ho0 (below_size (by repeat (first | (with_reducible first | exact HB.out | apply below_alloc | apply pw_below_drewN | apply below_drew1) | exact HB.out)))); have n1_ := Aside0.mk (below_step (by repeat (first | (with_reducible first | exact HB.out | apply below_alloc | apply pw_below_drewN | apply below_drew1) | exact HB.out)) hb); clear HB; have HO128 := n0_; have HB := n1_; clear n0_ n1_; (try clear hb); (try clear hb2); (try clear hk); (try clear hi); (try clear ho0)))
    repeat (go_quiet (first | (go_at_call 45; (with_reducible refine (laws_big.calls _ _ l0 false _ ?side1 ?side2 A2.out).mono ?_); (case side1 => repeat (first | exact HR0.out | (with_reducible refine Kd.C_alloc ?_ _) | (with_reducible refine Kd.C_drewN ?_ _) | (with_reducible refine Kd.C_drew ?_))); (case side2 => exact HC0.out); rintro e w' ⟨rfl, ⟨nd, rfl⟩⟩; (try first | exact ⟨rfl, _, World.drewN_drewN _ _ _⟩ | exact ⟨rfl, _, Eq.trans (World.drewN_drewN _ _ _) (congrArg (World.drewN _) (Nat.add_assoc _ _ _))⟩)) | (go_at_call 46; (with_reducible refine (laws_at.calls _ _ l0 0 t122 _ ?side1 ?side2 A4.out).mono ?_); (case side1 => repeat (first | exact HR0.out | (with_reducible refine Kd.C_alloc ?_ _) | (with_reducible refine Kd.C_drewN ?_ _) | (with_reducible refine Kd.C_drew ?_))); (case side2 => exact HC0.out); rintro e w' ⟨rfl, ⟨nd, rfl⟩⟩; (try first | exact ⟨rfl, _, World.drewN_drewN _ _ _⟩ | exact ⟨rfl, _, Eq.trans (World.drewN_drewN _ _ _) (congrArg (World.drewN _) (Nat.add_assoc _ _ _))⟩)) | (go_at_call 46; (with_reducible refine (laws_at.calls _ _ l0 1 t123 _ ?side1 ?side2 A5.out).mono ?_); (case side1 => repeat (first | exact HR0.out | (with_reducible refine Kd.C_alloc ?_ _) | (with_reducible refine Kd.C_drewN ?_ _) | (with_reducible refine Kd.C_drew ?_))); (case side2 => exact HC0.out); rintro e w' ⟨rfl, ⟨nd, rfl⟩⟩; (try first | exact ⟨rfl, _, World.drewN_drewN _ _ _⟩ | exact ⟨rfl, _, Eq.trans (World.drewN_drewN _ _ _) (congrArg (World.drewN _) (Nat.add_assoc _ _ _))⟩)) | (go_at_call 46; (with_reducible refine (laws_at.calls _ _ l0 2 t124 _ ?side1 ?side2 A6.out).mono ?_); (case side1 => repeat (first | exact HR0.out | (with_reducible refine Kd.C_alloc ?_ _) | (with_reducible refine Kd.C_drewN ?_ _) | (with_reducible refine Kd.C_drew ?_))); (case side2 => exact HC0.out); rintro e w' ⟨rfl, ⟨nd, rfl⟩⟩; (try first | exact ⟨rfl, _, World.drewN_drewN _ _ _⟩ | exact ⟨rfl, _, Eq.trans (World.drewN_drewN _ _ _) (congrArg (World.drewN _) (Nat.add_assoc _ _ _))⟩)) | (go_at_call 16; (with_reducible refine (impl_RowsFor.calls (wrap64 (1 + (wrap64 (t122 * 3)))) (wrap64 (1 + (Int.tmod t123 60))) (Int.tmod t124 20) t125 _ A7.out).mono ?_); rintro e w' ⟨rfl, ⟨nd, rfl⟩⟩; (try first | exact ⟨rfl, _, World.drewN_drewN _ _ _⟩ | exact ⟨rfl, _, Eq.trans (World.drewN_drewN _ _ _) (congrArg (World.drewN _) (Nat.add_assoc _ _ _))⟩)) | (go_at_call 41; (with_reducible refine (impl_PlacesOf.calls k (wrap64 (1 + (wrap64 (t122 * 3)))) (wrap64 (1 + (Int.tmod t123 60))) (Int.tmod t124 20) t126 _ A8.out).mono ?_); rintro e w10 ⟨v127, rfl, ho0, hb⟩; have n0_ := Aside0.mk (Kd.R_lower ho0 (below_size (by repeat (first | (with_reducible first | exact HB.out | apply below_alloc | apply pw_below_drewN | apply below_drew1) | exact HB.out)))); have n1_ := Aside0.mk (below_step (by repeat (first | (with_reducible first | exact HB.out | apply below_alloc | apply pw_below_drewN | apply below_drew1) | exact HB.out)) hb); clear HB; have HO128 := n0_; have HB := n1_; clear n0_ n1_; (try clear hb); (try clear hb2); (try clear hk); (try clear hi); (try clear ho0))); go_upto_region 8 with (first | (go_at_call 45; (with_reducible refine (laws_big.calls _ _ l0 false _ ?side1 ?side2 A2.out).mono ?_); (case side1 => repeat (first | exact HR0.out | (with_reducible refine Kd.C_alloc ?_ _) | (with_reducible refine Kd.C_drewN ?_ _) | (with_reducible refine Kd.C_drew ?_))); (case side2 => exact HC0.out); rintro e w' ⟨rfl, ⟨nd, rfl⟩⟩; (try first | exact ⟨rfl, _, World.drewN_drewN _ _ _⟩ | exact ⟨rfl, _, Eq.trans (World.drewN_drewN _ _ _) (congrArg (World.drewN _) (Nat.add_assoc _ _ _))⟩)) | (go_at_call 46; (with_reducible refine (laws_at.calls _ _ l0 0 t122 _ ?side1 ?side2 A4.out).mono ?_); (case side1 => repeat (first | exact HR0.out | (with_reducible refine Kd.C_alloc ?_ _) | (with_reducible refine Kd.C_drewN ?_ _) | (with_reducible refine Kd.C_drew ?_))); (case side2 => exact HC0.out); rintro e w' ⟨rfl, ⟨nd, rfl⟩⟩; (try first | exact ⟨rfl, _, World.drewN_drewN _ _ _⟩ | exact ⟨rfl, _, Eq.trans (World.drewN_drewN _ _ _) (congrArg (World.drewN _) (Nat.add_assoc _ _ _))⟩)) | (go_at_call 46; (with_reducible refine (laws_at.calls _ _ l0 1 t123 _ ?side1 ?side2 A5.out).mono ?_); (case side1 => repeat (first | exact HR0.out | (with_reducible refine Kd.C_alloc ?_ _) | (with_reducible refine Kd.C_drewN ?_ _) | (with_reducible refine Kd.C_drew ?_))); (case side2 => exact HC0.out); rintro e w' ⟨rfl, ⟨nd, rfl⟩⟩; (try first | exact ⟨rfl, _, World.drewN_drewN _ _ _⟩ | exact ⟨rfl, _, Eq.trans (World.drewN_drewN _ _ _) (congrArg (World.drewN _) (Nat.add_assoc _ _ _))⟩)) | (go_at_call 46; (with_reducible refine (laws_at.calls _ _ l0 2 t124 _ ?side1 ?side2 A6.out).mono ?_); (case side1 => repeat (first | exact HR0.out | (with_reducible refine Kd.C_alloc ?_ _) | (with_reducible refine Kd.C_drewN ?_ _) | (with_reducible refine Kd.C_drew ?_))); (case side2 => exact HC0.out); rintro e w' ⟨rfl, ⟨nd, rfl⟩⟩; (try first | exact ⟨rfl, _, World.drewN_drewN _ _ _⟩ | exact ⟨rfl, _, Eq.trans (World.drewN_drewN _ _ _) (congrArg (World.drewN _) (Nat.add_assoc _ _ _))⟩)) | (go_at_call 16; (with_reducible refine (impl_RowsFor.calls (wrap64 (1 + (wrap64 (t122 * 3)))) (wrap64 (1 + (Int.tmod t123 60))) (Int.tmod t124 20) t125 _ A7.out).mono ?_); rintro e w' ⟨rfl, ⟨nd, rfl⟩⟩; (try first | exact ⟨rfl, _, World.drewN_drewN _ _ _⟩ | exact ⟨rfl, _, Eq.trans (World.drewN_drewN _ _ _) (congrArg (World.drewN _) (Nat.add_assoc _ _ _))⟩)) | (go_at_call 41; (with_reducible refine (impl_PlacesOf.calls k (wrap64 (1 + (wrap64 (t122 * 3)))) (wrap64 (1 + (Int.tmod t123 60))) (Int.tmod t124 20) t126 _ A8.out).mono ?_); rintro e w10 ⟨v127, rfl, ho0, hb⟩; have n0_ := Aside0.mk (Kd.R_lower ho0 (below_size (by repeat (first | (with_reducible first | exact HB.out | apply below_alloc | apply pw_below_drewN | apply below_drew1) | exact HB.out)))); have n1_ := Aside0.mk (below_step (by repeat (first | (with_reducible first | exact HB.out | apply below_alloc | apply pw_below_drewN | apply below_drew1) | exact HB.out)) hb); clear HB; have HO128 := n0_; have HB := n1_; clear n0_ n1_; (try clear hb); (try clear hb2); (try clear hk); (try clear hi); (try clear ho0))))
    (try simp only [Act.put, List.setIfInBounds_toArray, List.set_cons_zero, List.set_cons_succ])
    go_cut [71] (fun v71 wc => ∃ (kq : Nat) (x71_8 : Bool), v71 = .bool x71_8 ∧ Aside0 (laws_FnTrays.j0 kq l0 (wrap64 (1 + (wrap64 (t122 * 3)))) (wrap64 (1 + (Int.tmod t123 60))) (Int.tmod t124 20) t125 t126 x71_8 = some r) ∧ Aside0 (kq ≤ k) ∧ Aside0 (Kd.R (Kd.int .i64) 3 wc w.heap.size (fun _ => True) v127 t126) ∧ Aside0 (Below w.heap.size w wc))
    case first =>
      have H := HC9.out
      clear HC9
      by_cases c11 : t125 < 0
      · rw [if_pos c11] at H
        have c11b0 : decide (t125 < 0) = true := decide_eq_true c11
        clear c11
        (first | rw [c11b0] | (simp only [i64_w, i32_w]; rw [c11b0]) | skip)
        have H' := Aside0.mk H
        first | exact (laws_FnTrays.j0_no H'.out hr_.out).elim | exact (laws_FnTrays.j2_no H'.out hr_.out).elim
      · rw [if_neg c11] at H
        have c11b0 : decide (t125 < 0) = false := decide_eq_false c11
        clear c11
        (first | rw [c11b0] | (simp only [i64_w, i32_w]; rw [c11b0]) | skip)
        by_cases c12 : t125 > 0
        · rw [if_pos c12] at H
          have c12b0 : decide (0 < t125) = true := decide_eq_true c12
          clear c12
          by_cases c13 : (wrap64 ((wrap64 (t125 * (wrap64 (1 + (Int.tmod t123 60))))) + (wrap64 ((wrap64 (t125 - 1)) * (Int.tmod t124 20))))) > (wrap64 (1 + (wrap64 (t122 * 3))))
          · rw [if_pos c13] at H
            have c13b0 : decide ((wrap64 (1 + (wrap64 (t122 * 3)))) < (wrap64 ((wrap64 (t125 * (wrap64 (1 + (Int.tmod t123 60))))) + (wrap64 ((wrap64 (t125 - 1)) * (Int.tmod t124 20)))))) = true := decide_eq_true c13
            clear c13
            have H' := Aside0.mk H
            first | exact (laws_FnTrays.j0_no H'.out hr_.out).elim | exact (laws_FnTrays.j2_no H'.out hr_.out).elim
          · rw [if_neg c13] at H
            have c13b0 : decide ((wrap64 (1 + (wrap64 (t122 * 3)))) < (wrap64 ((wrap64 (t125 * (wrap64 (1 + (Int.tmod t123 60))))) + (wrap64 ((wrap64 (t125 - 1)) * (Int.tmod t124 20)))))) = false := decide_eq_false c13
            clear c13
            by_cases c14 : (wrap64 ((wrap64 ((wrap64 (t125 + 1)) * (wrap64 (1 + (Int.tmod t123 60))))) + (wrap64 (t125 * (Int.tmod t124 20))))) ≤ (wrap64 (1 + (wrap64 (t122 * 3))))
            · rw [if_pos c14] at H
              have c14b0 : decide ((wrap64 ((wrap64 ((wrap64 (t125 + 1)) * (wrap64 (1 + (Int.tmod t123 60))))) + (wrap64 (t125 * (Int.tmod t124 20))))) ≤ (wrap64 (1 + (wrap64 (t122 * 3))))) = true := decide_eq_true c14
              clear c14
              have H' := Aside0.mk H
              first | exact (laws_FnTrays.j0_no H'.out hr_.out).elim | exact (laws_FnTrays.j2_no H'.out hr_.out).elim
            · rw [if_neg c14] at H
              have c14b0 : decide ((wrap64 ((wrap64 ((wrap64 (t125 + 1)) * (wrap64 (1 + (Int.tmod t123 60))))) + (wrap64 (t125 * (Int.tmod t124 20))))) ≤ (wrap64 (1 + (wrap64 (t122 * 3))))) = false := decide_eq_false c14
              clear c14
              have H' := Aside0.mk H
              clear H
              obtain ⟨Ao15, co15, eo15⟩ := Kd.R_slice HO128.out
              subst eo15
              go_wp2
              repeat (go_quiet (fail); try go_wp2)
              go_meet
              case rel => exact ⟨_, (((t126.length : Int) != t125)), (by first | rfl | (simp; done) | (simp [*]; done)), H', ⟨by first | omega | exact Nat.le_refl _⟩, ⟨by (with_reducible repeat (first | apply Kd.R_alloc | apply Kd.R_drewN | apply Kd.R_drew)); exact HO128.out⟩, ⟨by repeat (first | (with_reducible first | exact HB.out | apply below_alloc | apply pw_below_drewN | apply below_drew1) | exact HB.out)⟩⟩
              all_goals (exfalso; (try simp at c48b0); (try simp at c51b0); (try simp at c52b0); omega)
        · rw [if_neg c12] at H
          have c12b0 : decide (0 < t125) = false := decide_eq_false c12
          clear c12
          by_cases c16 : (wrap64 ((wrap64 ((wrap64 (t125 + 1)) * (wrap64 (1 + (Int.tmod t123 60))))) + (wrap64 (t125 * (Int.tmod t124 20))))) ≤ (wrap64 (1 + (wrap64 (t122 * 3))))
          · rw [if_pos c16] at H
            have c16b0 : decide ((wrap64 ((wrap64 ((wrap64 (t125 + 1)) * (wrap64 (1 + (Int.tmod t123 60))))) + (wrap64 (t125 * (Int.tmod t124 20))))) ≤ (wrap64 (1 + (wrap64 (t122 * 3))))) = true := decide_eq_true c16
            clear c16
            have H' := Aside0.mk H
            first | exact (laws_FnTrays.j0_no H'.out hr_.out).elim | exact (laws_FnTrays.j2_no H'.out hr_.out).elim
          · rw [if_neg c16] at H
            have c16b0 : decide ((wrap64 ((wrap64 ((wrap64 (t125 + 1)) * (wrap64 (1 + (Int.tmod t123 60))))) + (wrap64 (t125 * (Int.tmod t124 20))))) ≤ (wrap64 (1 + (wrap64 (t122 * 3))))) = false := decide_eq_false c16
            clear c16
            have H' := Aside0.mk H
            clear H
            obtain ⟨Ao17, co17, eo17⟩ := Kd.R_slice HO128.out
            subst eo17
            go_wp2
            repeat (go_quiet (fail); try go_wp2)
            go_meet
            case rel => exact ⟨_, (((t126.length : Int) != t125)), (by first | rfl | (simp; done) | (simp [*]; done)), H', ⟨by first | omega | exact Nat.le_refl _⟩, ⟨by (with_reducible repeat (first | apply Kd.R_alloc | apply Kd.R_drewN | apply Kd.R_drew)); exact HO128.out⟩, ⟨by repeat (first | (with_reducible first | exact HB.out | apply below_alloc | apply pw_below_drewN | apply below_drew1) | exact HB.out)⟩⟩
            all_goals (exfalso; (try simp at c48b0); (try simp at c51b0); (try simp at c52b0); omega)
    case rest =>
      clear HC9
      try clear c1
      try clear p2
      try clear c3
      try clear p6
      try clear c11
      try clear c11b0
      try clear c12
      try clear c12b0
      try clear c13
      try clear c13b0
      try clear c14
      try clear c14b0
      try clear c16
      try clear c16b0
      obtain ⟨kq, x71_8, rfl, HA, HJ8, HO_7, HB⟩ := hcut
      cases kq with
      | zero => exact absurd HA.out (by simp [laws_FnTrays.j0])
      | succ kj8 =>
        have H := HA.out
        clear HA
        simp only [laws_FnTrays.j0] at H
        by_cases c18 : x71_8 = true
        · subst c18
          have H1 : (some false) = some r := by rw [if_pos rfl] at H; exact H
          clear H
          have H := H1
          clear H1
          exact absurd (Option.some.inj H) (by rw [hr_.out]; decide)
        · replace c18 := Bool.eq_false_iff.mpr c18
          subst c18
          have H1 : (laws_FnTrays.l0 kj8 l0 (wrap64 (1 + (wrap64 (t122 * 3)))) (wrap64 (1 + (Int.tmod t123 60))) (Int.tmod t124 20) t125 t126 0) = some r := by rw [if_neg (show ¬ (false = true) by decide)] at H; exact H
          clear H
          have H := H1
          clear H1
          have H' := Aside0.mk H
          clear H
          go_wp2
          repeat (go_quiet (fail); try go_wp2)
          go_loopg [8] kj8 (fun kq v8 w' => ∃ (x8_2 : Int), v8 = .int .i64 x8_2 ∧ Aside0 (laws_FnTrays.l0 kq l0 (wrap64 (1 + (wrap64 (t122 * 3)))) (wrap64 (1 + (Int.tmod t123 60))) (Int.tmod t124 20) t125 t126 x8_2 = some r) ∧ Aside0 (kq ≤ kj8) ∧ Aside0 (Kd.R (Kd.int .i64) 3 w' w.heap.size (fun _ => True) v127 t126) ∧ Aside0 (Below w.heap.size w w'))
          case atStart => exact ⟨(0), (by first | rfl | (simp; done) | (simp [*]; done)), H', ⟨Nat.le_refl _⟩, ⟨by (with_reducible repeat (first | apply Kd.R_alloc | apply Kd.R_drewN | apply Kd.R_drew)); exact HO_7.out⟩, ⟨by repeat (first | (with_reducible first | exact HB.out | apply below_alloc | apply pw_below_drewN | apply below_drew1) | exact HB.out)⟩⟩
          case round =>
            clear H'
            try clear c1
            try clear p2
            try clear c3
            try clear p6
            try clear c11
            try clear c11b0
            try clear c12
            try clear c12b0
            try clear c13
            try clear c13b0
            try clear c14
            try clear c14b0
            try clear c16
            try clear c16b0
            try clear c18
            try clear p2
            try clear p6
            obtain ⟨x8_2, rfl, HA, HK2, HO_7, HB⟩ := hrel
            cases gk with
            | zero => exact absurd HA.out (by simp [laws_FnTrays.l0])
            | succ k2 =>
              have H := HA.out
              clear HA
              simp only [laws_FnTrays.l0] at H
              by_cases c19 : x8_2 < t125
              · rw [if_pos c19] at H
                have c19b0 : decide (x8_2 < t125) = true := decide_eq_true c19
                clear c19
                by_cases c20 : 0 ≤ x8_2
                · rw [if_pos c20] at H
                  have c20b0 : decide (0 ≤ x8_2) = true := decide_eq_true c20
                  clear c20
                  by_cases c21 : x8_2 < (t126.length : Int)
                  · rw [if_pos c21] at H
                    have c21b0 : decide (x8_2 < (t126.length : Int)) = true := decide_eq_true c21
                    clear c21
                    by_cases c22 : (rd t126 x8_2) < 0
                    · rw [if_pos c22] at H
                      have c22b0 : decide ((rd t126 x8_2) < 0) = true := decide_eq_true c22
                      clear c22
                      exact absurd (Option.some.inj H) (by rw [hr_.out]; decide)
                    · rw [if_neg c22] at H
                      have c22b0 : decide ((rd t126 x8_2) < 0) = false := decide_eq_false c22
                      clear c22
                      by_cases c23 : (wrap64 ((rd t126 x8_2) + (wrap64 (1 + (Int.tmod t123 60))))) > (wrap64 (1 + (wrap64 (t122 * 3))))
                      · rw [if_pos c23] at H
                        have c23b0 : decide ((wrap64 (1 + (wrap64 (t122 * 3)))) < (wrap64 ((rd t126 x8_2) + (wrap64 (1 + (Int.tmod t123 60)))))) = true := decide_eq_true c23
                        clear c23
                        exact absurd (Option.some.inj H) (by rw [hr_.out]; decide)
                      · rw [if_neg c23] at H
                        have c23b0 : decide ((wrap64 (1 + (wrap64 (t122 * 3)))) < (wrap64 ((rd t126 x8_2) + (wrap64 (1 + (Int.tmod t123 60)))))) = false := decide_eq_false c23
                        clear c23
                        by_cases c24 : x8_2 > 0
                        · rw [if_pos c24] at H
                          have c24b0 : decide (0 < x8_2) = true := decide_eq_true c24
                          clear c24
                          obtain ⟨ji25, hji25⟩ : ∃ j_ : Int, (wrap64 (x8_2 - 1)) = j_ := ⟨_, rfl⟩
                          replace H : (if 0 ≤ (ji25) then (if (ji25) < (t126.length : Int) then (if (wrap64 ((rd t126 x8_2) - (rd t126 (ji25)))) = (wrap64 ((wrap64 (1 + (Int.tmod t123 60))) + (Int.tmod t124 20))) then (laws_FnTrays.l0 k2 l0 (wrap64 (1 + (wrap64 (t122 * 3)))) (wrap64 (1 + (Int.tmod t123 60))) (Int.tmod t124 20) t125 t126 (wrap64 (x8_2 + 1))) else (some false)) else (none)) else (none)) = some r := by first | (rw [hji25] at H; exact H) | (simp only [hji25] at H ⊢; exact H)
                          have hji25w : (IntKind.i64.wrap (x8_2 - 1)) = ji25 := (i64_w _).trans hji25
                          by_cases c26 : 0 ≤ (ji25)
                          · rw [if_pos c26] at H
                            have c26b0 : decide (0 ≤ (ji25)) = true := decide_eq_true c26
                            clear c26
                            by_cases c27 : (ji25) < (t126.length : Int)
                            · rw [if_pos c27] at H
                              have c27b0 : decide ((ji25) < (t126.length : Int)) = true := decide_eq_true c27
                              clear c27
                              by_cases c28 : (wrap64 ((rd t126 x8_2) - (rd t126 (ji25)))) = (wrap64 ((wrap64 (1 + (Int.tmod t123 60))) + (Int.tmod t124 20)))
                              · rw [if_pos c28] at H
                                have c28b0 : ((wrap64 ((rd t126 x8_2) - (rd t126 (ji25)))) == (wrap64 ((wrap64 (1 + (Int.tmod t123 60))) + (Int.tmod t124 20)))) = true := beq_iff_eq.mpr c28
                                have c28b1 : ((wrap64 ((rd t126 x8_2) - (rd t126 (ji25)))) != (wrap64 ((wrap64 (1 + (Int.tmod t123 60))) + (Int.tmod t124 20)))) = false := bne_eq_false_iff_eq.mpr c28
                                clear c28
                                have H' := Aside0.mk H
                                clear H
                                obtain ⟨Ao29, co29, eo29⟩ := Kd.R_slice HO_7.out
                                subst eo29
                                have p129 : 0 ≤ (x8_2 : Int) := of_decide_eq_true (by first | (with_reducible assumption) | assumption)
                                have q129 : x8_2 < (t126.length : Int) := of_decide_eq_true (by first | (with_reducible assumption) | assumption)
                                obtain ⟨ad129, e129, hx129_0⟩ := Kd.at_int (Kd.R_reads' HO_7.out).2.2 x8_2 p129 q129
                                cases e129
                                replace p129 := eq_true p129
                                replace q129 := eq_true q129
                                have p130 : 0 ≤ (x8_2 : Int) := of_decide_eq_true (by first | (with_reducible assumption) | assumption)
                                have q130 : x8_2 < (t126.length : Int) := of_decide_eq_true (by first | (with_reducible assumption) | assumption)
                                obtain ⟨ad130, e130, hx130_0⟩ := Kd.at_int (Kd.R_reads' HO_7.out).2.2 x8_2 p130 q130
                                obtain rfl : ad129 = ad130 := (by injection e130)
                                replace p130 := eq_true p130
                                replace q130 := eq_true q130
                                have p131 : 0 ≤ (x8_2 : Int) := of_decide_eq_true (by first | (with_reducible assumption) | assumption)
                                have q131 : x8_2 < (t126.length : Int) := of_decide_eq_true (by first | (with_reducible assumption) | assumption)
                                obtain ⟨ad131, e131, hx131_0⟩ := Kd.at_int (Kd.R_reads' HO_7.out).2.2 x8_2 p131 q131
                                obtain rfl : ad129 = ad131 := (by injection e131)
                                replace p131 := eq_true p131
                                replace q131 := eq_true q131
                                have p132 : 0 ≤ ((ji25) : Int) := of_decide_eq_true (by first | (with_reducible assumption) | assumption)
                                have q132 : (ji25) < (t126.length : Int) := of_decide_eq_true (by first | (with_reducible assumption) | assumption)
                                obtain ⟨ad132, e132, hx132_0⟩ := Kd.at_int (Kd.R_reads' HO_7.out).2.2 (ji25) p132 q132
                                obtain rfl : ad129 = ad132 := (by injection e132)
                                replace p132 := eq_true p132
                                replace q132 := eq_true q132
                                go_wp2
                                repeat (go_quiet (fail); try go_wp2)
                                go_roundg k2
                                case measure => have := HJ8.out; have := HK2.out; omega
                                case rel => exact ⟨(wrap64 (x8_2 + 1)), (by first | rfl | (simp; done) | (simp [*]; done)), H', ⟨by have := HJ8.out; have := HK2.out; omega⟩, ⟨by (with_reducible repeat (first | apply Kd.R_alloc | apply Kd.R_drewN | apply Kd.R_drew)); exact HO_7.out⟩, ⟨by repeat (first | (with_reducible first | exact HB.out | apply below_alloc | apply pw_below_drewN | apply below_drew1) | exact HB.out)⟩⟩
                              · rw [if_neg c28] at H
                                have c28b0 : ((wrap64 ((rd t126 x8_2) - (rd t126 (ji25)))) == (wrap64 ((wrap64 (1 + (Int.tmod t123 60))) + (Int.tmod t124 20)))) = false := beq_eq_false_iff_ne.mpr c28
                                have c28b1 : ((wrap64 ((rd t126 x8_2) - (rd t126 (ji25)))) != (wrap64 ((wrap64 (1 + (Int.tmod t123 60))) + (Int.tmod t124 20)))) = true := bne_iff_ne.mpr c28
                                exact absurd (Option.some.inj H) (by rw [hr_.out]; decide)
                            · rw [if_neg c27] at H
                              exact absurd H (by simp)
                          · rw [if_neg c26] at H
                            exact absurd H (by simp)
                        · rw [if_neg c24] at H
                          have c24b0 : decide (0 < x8_2) = false := decide_eq_false c24
                          clear c24
                          have H' := Aside0.mk H
                          clear H
                          obtain ⟨Ao30, co30, eo30⟩ := Kd.R_slice HO_7.out
                          subst eo30
                          have p129 : 0 ≤ (x8_2 : Int) := of_decide_eq_true (by first | (with_reducible assumption) | assumption)
                          have q129 : x8_2 < (t126.length : Int) := of_decide_eq_true (by first | (with_reducible assumption) | assumption)
                          obtain ⟨ad129, e129, hx129_0⟩ := Kd.at_int (Kd.R_reads' HO_7.out).2.2 x8_2 p129 q129
                          cases e129
                          replace p129 := eq_true p129
                          replace q129 := eq_true q129
                          have p130 : 0 ≤ (x8_2 : Int) := of_decide_eq_true (by first | (with_reducible assumption) | assumption)
                          have q130 : x8_2 < (t126.length : Int) := of_decide_eq_true (by first | (with_reducible assumption) | assumption)
                          obtain ⟨ad130, e130, hx130_0⟩ := Kd.at_int (Kd.R_reads' HO_7.out).2.2 x8_2 p130 q130
                          obtain rfl : ad129 = ad130 := (by injection e130)
                          replace p130 := eq_true p130
                          replace q130 := eq_true q130
                          go_wp2
                          repeat (go_quiet (fail); try go_wp2)
                          go_roundg k2
                          case measure => have := HJ8.out; have := HK2.out; omega
                          case rel => exact ⟨(wrap64 (x8_2 + 1)), (by first | rfl | (simp; done) | (simp [*]; done)), H', ⟨by have := HJ8.out; have := HK2.out; omega⟩, ⟨by (with_reducible repeat (first | apply Kd.R_alloc | apply Kd.R_drewN | apply Kd.R_drew)); exact HO_7.out⟩, ⟨by repeat (first | (with_reducible first | exact HB.out | apply below_alloc | apply pw_below_drewN | apply below_drew1) | exact HB.out)⟩⟩
                  · rw [if_neg c21] at H
                    exact absurd H (by simp)
                · rw [if_neg c20] at H
                  exact absurd H (by simp)
              · rw [if_neg c19] at H
                have c19b0 : decide (x8_2 < t125) = false := decide_eq_false c19
                clear c19
                replace H := Option.bind_eq_some_iff.mp H
                obtain ⟨t133, A310, H⟩ := H
                replace H : ((laws_at.f l0 4).bind fun t134 => ((impl_OnTray.f (wrap64 (1 + (wrap64 (t122 * 3)))) (wrap64 (1 + t133)) (wrap64 (1 + (Int.tmod t123 60))) (wrap64 (1 + (Int.tmod t134 40))) (Int.tmod t124 20)).bind fun t135 => ((laws_at.f l0 5).bind fun t136 => ((impl_TraysFor.f t136 (wrap64 (1 + (wrap64 (t122 * 3)))) (wrap64 (1 + t133)) (wrap64 (1 + (Int.tmod t123 60))) (wrap64 (1 + (Int.tmod t134 40))) (Int.tmod t124 20)).bind fun t137 => (if t135 < 0 then (laws_FnTrays.j2 k2 (wrap64 (1 + (wrap64 (t122 * 3)))) (wrap64 (1 + (Int.tmod t123 60))) true) else ((impl_OnTray.f (wrap64 (1 + t133)) (wrap64 (1 + (wrap64 (t122 * 3)))) (wrap64 (1 + (Int.tmod t123 60))) (wrap64 (1 + (Int.tmod t134 40))) (Int.tmod t124 20)).bind fun t138 => (if t135 = t138 then ((impl_OnTray.f (wrap64 (1 + (wrap64 (t122 * 3)))) (wrap64 (1 + t133)) (wrap64 (1 + (Int.tmod t134 40))) (wrap64 (1 + (Int.tmod t123 60))) (Int.tmod t124 20)).bind fun t139 => (if t135 = t139 then ((impl_RowsFor.f (wrap64 (1 + t133)) (wrap64 (1 + (Int.tmod t134 40))) (Int.tmod t124 20)).bind fun t140 => (if t135 < (wrap64 (t125 * t140)) then (laws_FnTrays.j2 k2 (wrap64 (1 + (wrap64 (t122 * 3)))) (wrap64 (1 + (Int.tmod t123 60))) true) else (if ((decide (t137 ≥ 0)) != (decide (t135 > 0))) = true then (laws_FnTrays.j2 k2 (wrap64 (1 + (wrap64 (t122 * 3)))) (wrap64 (1 + (Int.tmod t123 60))) true) else (if t137 ≥ 0 then (if (wrap64 (t137 * t135)) < t136 then (laws_FnTrays.j2 k2 (wrap64 (1 + (wrap64 (t122 * 3)))) (wrap64 (1 + (Int.tmod t123 60))) true) else (laws_FnTrays.j2 k2 (wrap64 (1 + (wrap64 (t122 * 3)))) (wrap64 (1 + (Int.tmod t123 60))) (decide ((wrap64 ((wrap64 (t137 - 1)) * t135)) ≥ (mx t136 1))))) else (laws_FnTrays.j2 k2 (wrap64 (1 + (wrap64 (t122 * 3)))) (wrap64 (1 + (Int.tmod t123 60))) false))))) else (laws_FnTrays.j2 k2 (wrap64 (1 + (wrap64 (t122 * 3)))) (wrap64 (1 + (Int.tmod t123 60))) true))) else (laws_FnTrays.j2 k2 (wrap64 (1 + (wrap64 (t122 * 3)))) (wrap64 (1 + (Int.tmod t123 60))) true)))))))) = some r := H
                have A31 := Aside0.mk A310
                clear A310
                replace H := Option.bind_eq_some_iff.mp H
                obtain ⟨t134, A320, H⟩ := H
                replace H : ((impl_OnTray.f (wrap64 (1 + (wrap64 (t122 * 3)))) (wrap64 (1 + t133)) (wrap64 (1 + (Int.tmod t123 60))) (wrap64 (1 + (Int.tmod t134 40))) (Int.tmod t124 20)).bind fun t135 => ((laws_at.f l0 5).bind fun t136 => ((impl_TraysFor.f t136 (wrap64 (1 + (wrap64 (t122 * 3)))) (wrap64 (1 + t133)) (wrap64 (1 + (Int.tmod t123 60))) (wrap64 (1 + (Int.tmod t134 40))) (Int.tmod t124 20)).bind fun t137 => (if t135 < 0 then (laws_FnTrays.j2 k2 (wrap64 (1 + (wrap64 (t122 * 3)))) (wrap64 (1 + (Int.tmod t123 60))) true) else ((impl_OnTray.f (wrap64 (1 + t133)) (wrap64 (1 + (wrap64 (t122 * 3)))) (wrap64 (1 + (Int.tmod t123 60))) (wrap64 (1 + (Int.tmod t134 40))) (Int.tmod t124 20)).bind fun t138 => (if t135 = t138 then ((impl_OnTray.f (wrap64 (1 + (wrap64 (t122 * 3)))) (wrap64 (1 + t133)) (wrap64 (1 + (Int.tmod t134 40))) (wrap64 (1 + (Int.tmod t123 60))) (Int.tmod t124 20)).bind fun t139 => (if t135 = t139 then ((impl_RowsFor.f (wrap64 (1 + t133)) (wrap64 (1 + (Int.tmod t134 40))) (Int.tmod t124 20)).bind fun t140 => (if t135 < (wrap64 (t125 * t140)) then (laws_FnTrays.j2 k2 (wrap64 (1 + (wrap64 (t122 * 3)))) (wrap64 (1 + (Int.tmod t123 60))) true) else (if ((decide (t137 ≥ 0)) != (decide (t135 > 0))) = true then (laws_FnTrays.j2 k2 (wrap64 (1 + (wrap64 (t122 * 3)))) (wrap64 (1 + (Int.tmod t123 60))) true) else (if t137 ≥ 0 then (if (wrap64 (t137 * t135)) < t136 then (laws_FnTrays.j2 k2 (wrap64 (1 + (wrap64 (t122 * 3)))) (wrap64 (1 + (Int.tmod t123 60))) true) else (laws_FnTrays.j2 k2 (wrap64 (1 + (wrap64 (t122 * 3)))) (wrap64 (1 + (Int.tmod t123 60))) (decide ((wrap64 ((wrap64 (t137 - 1)) * t135)) ≥ (mx t136 1))))) else (laws_FnTrays.j2 k2 (wrap64 (1 + (wrap64 (t122 * 3)))) (wrap64 (1 + (Int.tmod t123 60))) false))))) else (laws_FnTrays.j2 k2 (wrap64 (1 + (wrap64 (t122 * 3)))) (wrap64 (1 + (Int.tmod t123 60))) true))) else (laws_FnTrays.j2 k2 (wrap64 (1 + (wrap64 (t122 * 3)))) (wrap64 (1 + (Int.tmod t123 60))) true))))))) = some r := H
                have A32 := Aside0.mk A320
                clear A320
                replace H := Option.bind_eq_some_iff.mp H
                obtain ⟨t135, A330, H⟩ := H
                replace H : ((laws_at.f l0 5).bind fun t136 => ((impl_TraysFor.f t136 (wrap64 (1 + (wrap64 (t122 * 3)))) (wrap64 (1 + t133)) (wrap64 (1 + (Int.tmod t123 60))) (wrap64 (1 + (Int.tmod t134 40))) (Int.tmod t124 20)).bind fun t137 => (if t135 < 0 then (laws_FnTrays.j2 k2 (wrap64 (1 + (wrap64 (t122 * 3)))) (wrap64 (1 + (Int.tmod t123 60))) true) else ((impl_OnTray.f (wrap64 (1 + t133)) (wrap64 (1 + (wrap64 (t122 * 3)))) (wrap64 (1 + (Int.tmod t123 60))) (wrap64 (1 + (Int.tmod t134 40))) (Int.tmod t124 20)).bind fun t138 => (if t135 = t138 then ((impl_OnTray.f (wrap64 (1 + (wrap64 (t122 * 3)))) (wrap64 (1 + t133)) (wrap64 (1 + (Int.tmod t134 40))) (wrap64 (1 + (Int.tmod t123 60))) (Int.tmod t124 20)).bind fun t139 => (if t135 = t139 then ((impl_RowsFor.f (wrap64 (1 + t133)) (wrap64 (1 + (Int.tmod t134 40))) (Int.tmod t124 20)).bind fun t140 => (if t135 < (wrap64 (t125 * t140)) then (laws_FnTrays.j2 k2 (wrap64 (1 + (wrap64 (t122 * 3)))) (wrap64 (1 + (Int.tmod t123 60))) true) else (if ((decide (t137 ≥ 0)) != (decide (t135 > 0))) = true then (laws_FnTrays.j2 k2 (wrap64 (1 + (wrap64 (t122 * 3)))) (wrap64 (1 + (Int.tmod t123 60))) true) else (if t137 ≥ 0 then (if (wrap64 (t137 * t135)) < t136 then (laws_FnTrays.j2 k2 (wrap64 (1 + (wrap64 (t122 * 3)))) (wrap64 (1 + (Int.tmod t123 60))) true) else (laws_FnTrays.j2 k2 (wrap64 (1 + (wrap64 (t122 * 3)))) (wrap64 (1 + (Int.tmod t123 60))) (decide ((wrap64 ((wrap64 (t137 - 1)) * t135)) ≥ (mx t136 1))))) else (laws_FnTrays.j2 k2 (wrap64 (1 + (wrap64 (t122 * 3)))) (wrap64 (1 + (Int.tmod t123 60))) false))))) else (laws_FnTrays.j2 k2 (wrap64 (1 + (wrap64 (t122 * 3)))) (wrap64 (1 + (Int.tmod t123 60))) true))) else (laws_FnTrays.j2 k2 (wrap64 (1 + (wrap64 (t122 * 3)))) (wrap64 (1 + (Int.tmod t123 60))) true)))))) = some r := H
                have A33 := Aside0.mk A330
                clear A330
                replace H := Option.bind_eq_some_iff.mp H
                obtain ⟨t136, A340, H⟩ := H
                replace H : ((impl_TraysFor.f t136 (wrap64 (1 + (wrap64 (t122 * 3)))) (wrap64 (1 + t133)) (wrap64 (1 + (Int.tmod t123 60))) (wrap64 (1 + (Int.tmod t134 40))) (Int.tmod t124 20)).bind fun t137 => (if t135 < 0 then (laws_FnTrays.j2 k2 (wrap64 (1 + (wrap64 (t122 * 3)))) (wrap64 (1 + (Int.tmod t123 60))) true) else ((impl_OnTray.f (wrap64 (1 + t133)) (wrap64 (1 + (wrap64 (t122 * 3)))) (wrap64 (1 + (Int.tmod t123 60))) (wrap64 (1 + (Int.tmod t134 40))) (Int.tmod t124 20)).bind fun t138 => (if t135 = t138 then ((impl_OnTray.f (wrap64 (1 + (wrap64 (t122 * 3)))) (wrap64 (1 + t133)) (wrap64 (1 + (Int.tmod t134 40))) (wrap64 (1 + (Int.tmod t123 60))) (Int.tmod t124 20)).bind fun t139 => (if t135 = t139 then ((impl_RowsFor.f (wrap64 (1 + t133)) (wrap64 (1 + (Int.tmod t134 40))) (Int.tmod t124 20)).bind fun t140 => (if t135 < (wrap64 (t125 * t140)) then (laws_FnTrays.j2 k2 (wrap64 (1 + (wrap64 (t122 * 3)))) (wrap64 (1 + (Int.tmod t123 60))) true) else (if ((decide (t137 ≥ 0)) != (decide (t135 > 0))) = true then (laws_FnTrays.j2 k2 (wrap64 (1 + (wrap64 (t122 * 3)))) (wrap64 (1 + (Int.tmod t123 60))) true) else (if t137 ≥ 0 then (if (wrap64 (t137 * t135)) < t136 then (laws_FnTrays.j2 k2 (wrap64 (1 + (wrap64 (t122 * 3)))) (wrap64 (1 + (Int.tmod t123 60))) true) else (laws_FnTrays.j2 k2 (wrap64 (1 + (wrap64 (t122 * 3)))) (wrap64 (1 + (Int.tmod t123 60))) (decide ((wrap64 ((wrap64 (t137 - 1)) * t135)) ≥ (mx t136 1))))) else (laws_FnTrays.j2 k2 (wrap64 (1 + (wrap64 (t122 * 3)))) (wrap64 (1 + (Int.tmod t123 60))) false))))) else (laws_FnTrays.j2 k2 (wrap64 (1 + (wrap64 (t122 * 3)))) (wrap64 (1 + (Int.tmod t123 60))) true))) else (laws_FnTrays.j2 k2 (wrap64 (1 + (wrap64 (t122 * 3)))) (wrap64 (1 + (Int.tmod t123 60))) true))))) = some r := H
                have A34 := Aside0.mk A340
                clear A340
                replace H := Option.bind_eq_some_iff.mp H
                obtain ⟨t137, A350, H⟩ := H
                replace H : (if t135 < 0 then (laws_FnTrays.j2 k2 (wrap64 (1 + (wrap64 (t122 * 3)))) (wrap64 (1 + (Int.tmod t123 60))) true) else ((impl_OnTray.f (wrap64 (1 + t133)) (wrap64 (1 + (wrap64 (t122 * 3)))) (wrap64 (1 + (Int.tmod t123 60))) (wrap64 (1 + (Int.tmod t134 40))) (Int.tmod t124 20)).bind fun t138 => (if t135 = t138 then ((impl_OnTray.f (wrap64 (1 + (wrap64 (t122 * 3)))) (wrap64 (1 + t133)) (wrap64 (1 + (Int.tmod t134 40))) (wrap64 (1 + (Int.tmod t123 60))) (Int.tmod t124 20)).bind fun t139 => (if t135 = t139 then ((impl_RowsFor.f (wrap64 (1 + t133)) (wrap64 (1 + (Int.tmod t134 40))) (Int.tmod t124 20)).bind fun t140 => (if t135 < (wrap64 (t125 * t140)) then (laws_FnTrays.j2 k2 (wrap64 (1 + (wrap64 (t122 * 3)))) (wrap64 (1 + (Int.tmod t123 60))) true) else (if ((decide (t137 ≥ 0)) != (decide (t135 > 0))) = true then (laws_FnTrays.j2 k2 (wrap64 (1 + (wrap64 (t122 * 3)))) (wrap64 (1 + (Int.tmod t123 60))) true) else (if t137 ≥ 0 then (if (wrap64 (t137 * t135)) < t136 then (laws_FnTrays.j2 k2 (wrap64 (1 + (wrap64 (t122 * 3)))) (wrap64 (1 + (Int.tmod t123 60))) true) else (laws_FnTrays.j2 k2 (wrap64 (1 + (wrap64 (t122 * 3)))) (wrap64 (1 + (Int.tmod t123 60))) (decide ((wrap64 ((wrap64 (t137 - 1)) * t135)) ≥ (mx t136 1))))) else (laws_FnTrays.j2 k2 (wrap64 (1 + (wrap64 (t122 * 3)))) (wrap64 (1 + (Int.tmod t123 60))) false))))) else (laws_FnTrays.j2 k2 (wrap64 (1 + (wrap64 (t122 * 3)))) (wrap64 (1 + (Int.tmod t123 60))) true))) else (laws_FnTrays.j2 k2 (wrap64 (1 + (wrap64 (t122 * 3)))) (wrap64 (1 + (Int.tmod t123 60))) true)))) = some r := H
                have A35 := Aside0.mk A350
                clear A350
                have HC36 := Aside0.mk H
                clear H
                go_upto_region 20 with (first | (go_at_call 46; (with_reducible refine (laws_at.calls _ _ l0 3 t133 _ ?side1 ?side2 A31.out).mono ?_); (case side1 => repeat (first | exact (Kd.C_below HR0.out HB.out) | (with_reducible refine Kd.C_alloc ?_ _) | (with_reducible refine Kd.C_drewN ?_ _) | (with_reducible refine Kd.C_drew ?_))); (case side2 => exact HC0.out); rintro e w' ⟨rfl, ⟨nd, rfl⟩⟩; (try first | exact ⟨rfl, _, World.drewN_drewN _ _ _⟩ | exact ⟨rfl, _, Eq.trans (World.drewN_drewN _ _ _) (congrArg (World.drewN _) (Nat.add_assoc _ _ _))⟩)) | (go_at_call 46; (with_reducible refine (laws_at.calls _ _ l0 4 t134 _ ?side1 ?side2 A32.out).mono ?_); (case side1 => repeat (first | exact (Kd.C_below HR0.out (by repeat (first | (with_reducible first | exact HB.out | apply below_alloc | apply pw_below_drewN | apply below_drew1) | exact HB.out))) | (with_reducible refine Kd.C_alloc ?_ _) | (with_reducible refine Kd.C_drewN ?_ _) | (with_reducible refine Kd.C_drew ?_))); (case side2 => exact HC0.out); rintro e w' ⟨rfl, ⟨nd, rfl⟩⟩; (try first | exact ⟨rfl, _, World.drewN_drewN _ _ _⟩ | exact ⟨rfl, _, Eq.trans (World.drewN_drewN _ _ _) (congrArg (World.drewN _) (Nat.add_assoc _ _ _))⟩)) | (go_at_call 21; (with_reducible refine (impl_OnTray.calls (wrap64 (1 + (wrap64 (t122 * 3)))) (wrap64 (1 + t133)) (wrap64 (1 + (Int.tmod t123 60))) (wrap64 (1 + (Int.tmod t134 40))) (Int.tmod t124 20) t135 _ A33.out).mono ?_); rintro e w37 ⟨rfl, hb⟩; have n0_ := Aside0.mk (Kd.R_below (by (with_reducible repeat (first | apply Kd.R_alloc | apply Kd.R_drewN | apply Kd.R_drew)); exact HO_7.out) hb); have n1_ := Aside0.mk (below_step (by repeat (first | (with_reducible first | exact HB.out | apply below_alloc | apply pw_below_drewN | apply below_drew1) | exact HB.out)) hb); clear HO_7; clear HB; have HO_7 := n0_; have HB := n1_; clear n0_ n1_; (try clear hb); (try clear hb2); (try clear hk); (try clear hi)) | (go_at_call 46; (with_reducible refine (laws_at.calls _ _ l0 5 t136 _ ?side1 ?side2 A34.out).mono ?_); (case side1 => repeat (first | exact (Kd.C_below HR0.out HB.out) | (with_reducible refine Kd.C_alloc ?_ _) | (with_reducible refine Kd.C_drewN ?_ _) | (with_reducible refine Kd.C_drew ?_))); (case side2 => exact HC0.out); rintro e w' ⟨rfl, ⟨nd, rfl⟩⟩; (try first | exact ⟨rfl, _, World.drewN_drewN _ _ _⟩ | exact ⟨rfl, _, Eq.trans (World.drewN_drewN _ _ _) (congrArg (World.drewN _) (Nat.add_assoc _ _ _))⟩)) | (go_at_call 27; (with_reducible refine (impl_TraysFor.calls t136 (wrap64 (1 + (wrap64 (t122 * 3)))) (wrap64 (1 + t133)) (wrap64 (1 + (Int.tmod t123 60))) (wrap64 (1 + (Int.tmod t134 40))) (Int.tmod t124 20) t137 _ A35.out).mono ?_); rintro e w38 ⟨rfl, hb⟩; have n0_ := Aside0.mk (Kd.R_below (by (with_reducible repeat (first | apply Kd.R_alloc | apply Kd.R_drewN | apply Kd.R_drew)); exact HO_7.out) hb); have n1_ := Aside0.mk (below_step (by repeat (first | (with_reducible first | exact HB.out | apply below_alloc | apply pw_below_drewN | apply below_drew1) | exact HB.out)) hb); clear HO_7; clear HB; have HO_7 := n0_; have HB := n1_; clear n0_ n1_; (try clear hb); (try clear hb2); (try clear hk); (try clear hi)))
                repeat (go_quiet (first | (go_at_call 46; (with_reducible refine (laws_at.calls _ _ l0 3 t133 _ ?side1 ?side2 A31.out).mono ?_); (case side1 => repeat (first | exact (Kd.C_below HR0.out HB.out) | (with_reducible refine Kd.C_alloc ?_ _) | (with_reducible refine Kd.C_drewN ?_ _) | (with_reducible refine Kd.C_drew ?_))); (case side2 => exact HC0.out); rintro e w' ⟨rfl, ⟨nd, rfl⟩⟩; (try first | exact ⟨rfl, _, World.drewN_drewN _ _ _⟩ | exact ⟨rfl, _, Eq.trans (World.drewN_drewN _ _ _) (congrArg (World.drewN _) (Nat.add_assoc _ _ _))⟩)) | (go_at_call 46; (with_reducible refine (laws_at.calls _ _ l0 4 t134 _ ?side1 ?side2 A32.out).mono ?_); (case side1 => repeat (first | exact (Kd.C_below HR0.out (by repeat (first | (with_reducible first | exact HB.out | apply below_alloc | apply pw_below_drewN | apply below_drew1) | exact HB.out))) | (with_reducible refine Kd.C_alloc ?_ _) | (with_reducible refine Kd.C_drewN ?_ _) | (with_reducible refine Kd.C_drew ?_))); (case side2 => exact HC0.out); rintro e w' ⟨rfl, ⟨nd, rfl⟩⟩; (try first | exact ⟨rfl, _, World.drewN_drewN _ _ _⟩ | exact ⟨rfl, _, Eq.trans (World.drewN_drewN _ _ _) (congrArg (World.drewN _) (Nat.add_assoc _ _ _))⟩)) | (go_at_call 21; (with_reducible refine (impl_OnTray.calls (wrap64 (1 + (wrap64 (t122 * 3)))) (wrap64 (1 + t133)) (wrap64 (1 + (Int.tmod t123 60))) (wrap64 (1 + (Int.tmod t134 40))) (Int.tmod t124 20) t135 _ A33.out).mono ?_); rintro e w37 ⟨rfl, hb⟩; have n0_ := Aside0.mk (Kd.R_below (by (with_reducible repeat (first | apply Kd.R_alloc | apply Kd.R_drewN | apply Kd.R_drew)); exact HO_7.out) hb); have n1_ := Aside0.mk (below_step (by repeat (first | (with_reducible first | exact HB.out | apply below_alloc | apply pw_below_drewN | apply below_drew1) | exact HB.out)) hb); clear HO_7; clear HB; have HO_7 := n0_; have HB := n1_; clear n0_ n1_; (try clear hb); (try clear hb2); (try clear hk); (try clear hi)) | (go_at_call 46; (with_reducible refine (laws_at.calls _ _ l0 5 t136 _ ?side1 ?side2 A34.out).mono ?_); (case side1 => repeat (first | exact (Kd.C_below HR0.out HB.out) | (with_reducible refine Kd.C_alloc ?_ _) | (with_reducible refine Kd.C_drewN ?_ _) | (with_reducible refine Kd.C_drew ?_))); (case side2 => exact HC0.out); rintro e w' ⟨rfl, ⟨nd, rfl⟩⟩; (try first | exact ⟨rfl, _, World.drewN_drewN _ _ _⟩ | exact ⟨rfl, _, Eq.trans (World.drewN_drewN _ _ _) (congrArg (World.drewN _) (Nat.add_assoc _ _ _))⟩)) | (go_at_call 27; (with_reducible refine (impl_TraysFor.calls t136 (wrap64 (1 + (wrap64 (t122 * 3)))) (wrap64 (1 + t133)) (wrap64 (1 + (Int.tmod t123 60))) (wrap64 (1 + (Int.tmod t134 40))) (Int.tmod t124 20) t137 _ A35.out).mono ?_); rintro e w38 ⟨rfl, hb⟩; have n0_ := Aside0.mk (Kd.R_below (by (with_reducible repeat (first | apply Kd.R_alloc | apply Kd.R_drewN | apply Kd.R_drew)); exact HO_7.out) hb); have n1_ := Aside0.mk (below_step (by repeat (first | (with_reducible first | exact HB.out | apply below_alloc | apply pw_below_drewN | apply below_drew1) | exact HB.out)) hb); clear HO_7; clear HB; have HO_7 := n0_; have HB := n1_; clear n0_ n1_; (try clear hb); (try clear hb2); (try clear hk); (try clear hi))); go_upto_region 20 with (first | (go_at_call 46; (with_reducible refine (laws_at.calls _ _ l0 3 t133 _ ?side1 ?side2 A31.out).mono ?_); (case side1 => repeat (first | exact (Kd.C_below HR0.out HB.out) | (with_reducible refine Kd.C_alloc ?_ _) | (with_reducible refine Kd.C_drewN ?_ _) | (with_reducible refine Kd.C_drew ?_))); (case side2 => exact HC0.out); rintro e w' ⟨rfl, ⟨nd, rfl⟩⟩; (try first | exact ⟨rfl, _, World.drewN_drewN _ _ _⟩ | exact ⟨rfl, _, Eq.trans (World.drewN_drewN _ _ _) (congrArg (World.drewN _) (Nat.add_assoc _ _ _))⟩)) | (go_at_call 46; (with_reducible refine (laws_at.calls _ _ l0 4 t134 _ ?side1 ?side2 A32.out).mono ?_); (case side1 => repeat (first | exact (Kd.C_below HR0.out (by repeat (first | (with_reducible first | exact HB.out | apply below_alloc | apply pw_below_drewN | apply below_drew1) | exact HB.out))) | (with_reducible refine Kd.C_alloc ?_ _) | (with_reducible refine Kd.C_drewN ?_ _) | (with_reducible refine Kd.C_drew ?_))); (case side2 => exact HC0.out); rintro e w' ⟨rfl, ⟨nd, rfl⟩⟩; (try first | exact ⟨rfl, _, World.drewN_drewN _ _ _⟩ | exact ⟨rfl, _, Eq.trans (World.drewN_drewN _ _ _) (congrArg (World.drewN _) (Nat.add_assoc _ _ _))⟩)) | (go_at_call 21; (with_reducible refine (impl_OnTray.calls (wrap64 (1 + (wrap64 (t122 * 3)))) (wrap64 (1 + t133)) (wrap64 (1 + (Int.tmod t123 60))) (wrap64 (1 + (Int.tmod t134 40))) (Int.tmod t124 20) t135 _ A33.out).mono ?_); rintro e w37 ⟨rfl, hb⟩; have n0_ := Aside0.mk (Kd.R_below (by (with_reducible repeat (first | apply Kd.R_alloc | apply Kd.R_drewN | apply Kd.R_drew)); exact HO_7.out) hb); have n1_ := Aside0.mk (below_step (by repeat (first | (with_reducible first | exact HB.out | apply below_alloc | apply pw_below_drewN | apply below_drew1) | exact HB.out)) hb); clear HO_7; clear HB; have HO_7 := n0_; have HB := n1_; clear n0_ n1_; (try clear hb); (try clear hb2); (try clear hk); (try clear hi)) | (go_at_call 46; (with_reducible refine (laws_at.calls _ _ l0 5 t136 _ ?side1 ?side2 A34.out).mono ?_); (case side1 => repeat (first | exact (Kd.C_below HR0.out HB.out) | (with_reducible refine Kd.C_alloc ?_ _) | (with_reducible refine Kd.C_drewN ?_ _) | (with_reducible refine Kd.C_drew ?_))); (case side2 => exact HC0.out); rintro e w' ⟨rfl, ⟨nd, rfl⟩⟩; (try first | exact ⟨rfl, _, World.drewN_drewN _ _ _⟩ | exact ⟨rfl, _, Eq.trans (World.drewN_drewN _ _ _) (congrArg (World.drewN _) (Nat.add_assoc _ _ _))⟩)) | (go_at_call 27; (with_reducible refine (impl_TraysFor.calls t136 (wrap64 (1 + (wrap64 (t122 * 3)))) (wrap64 (1 + t133)) (wrap64 (1 + (Int.tmod t123 60))) (wrap64 (1 + (Int.tmod t134 40))) (Int.tmod t124 20) t137 _ A35.out).mono ?_); rintro e w38 ⟨rfl, hb⟩; have n0_ := Aside0.mk (Kd.R_below (by (with_reducible repeat (first | apply Kd.R_alloc | apply Kd.R_drewN | apply Kd.R_drew)); exact HO_7.out) hb); have n1_ := Aside0.mk (below_step (by repeat (first | (with_reducible first | exact HB.out | apply below_alloc | apply pw_below_drewN | apply below_drew1) | exact HB.out)) hb); clear HO_7; clear HB; have HO_7 := n0_; have HB := n1_; clear n0_ n1_; (try clear hb); (try clear hb2); (try clear hk); (try clear hi))))
                (try simp only [Act.put, List.setIfInBounds_toArray, List.set_cons_zero, List.set_cons_succ])
                go_cut [192] (fun v192 wc => ∃ (kq : Nat) (x192_35 : Bool), v192 = .bool x192_35 ∧ Aside0 (laws_FnTrays.j2 kq (wrap64 (1 + (wrap64 (t122 * 3)))) (wrap64 (1 + (Int.tmod t123 60))) x192_35 = some r) ∧ Aside0 (kq ≤ k2) ∧ Aside0 (Below w.heap.size w wc))
                case first =>
                  have H := HC36.out
                  clear HC36
                  by_cases c39 : t135 < 0
                  · rw [if_pos c39] at H
                    have c39b0 : decide (t135 < 0) = true := decide_eq_true c39
                    clear c39
                    (first | rw [c39b0] | (simp only [i64_w, i32_w]; rw [c39b0]) | skip)
                    have H' := Aside0.mk H
                    first | exact (laws_FnTrays.j0_no H'.out hr_.out).elim | exact (laws_FnTrays.j2_no H'.out hr_.out).elim
                  · rw [if_neg c39] at H
                    have c39b0 : decide (t135 < 0) = false := decide_eq_false c39
                    clear c39
                    (first | rw [c39b0] | (simp only [i64_w, i32_w]; rw [c39b0]) | skip)
                    replace H := Option.bind_eq_some_iff.mp H
                    obtain ⟨t138, A400, H⟩ := H
                    replace H : (if t135 = t138 then ((impl_OnTray.f (wrap64 (1 + (wrap64 (t122 * 3)))) (wrap64 (1 + t133)) (wrap64 (1 + (Int.tmod t134 40))) (wrap64 (1 + (Int.tmod t123 60))) (Int.tmod t124 20)).bind fun t139 => (if t135 = t139 then ((impl_RowsFor.f (wrap64 (1 + t133)) (wrap64 (1 + (Int.tmod t134 40))) (Int.tmod t124 20)).bind fun t140 => (if t135 < (wrap64 (t125 * t140)) then (laws_FnTrays.j2 k2 (wrap64 (1 + (wrap64 (t122 * 3)))) (wrap64 (1 + (Int.tmod t123 60))) true) else (if ((decide (t137 ≥ 0)) != (decide (t135 > 0))) = true then (laws_FnTrays.j2 k2 (wrap64 (1 + (wrap64 (t122 * 3)))) (wrap64 (1 + (Int.tmod t123 60))) true) else (if t137 ≥ 0 then (if (wrap64 (t137 * t135)) < t136 then (laws_FnTrays.j2 k2 (wrap64 (1 + (wrap64 (t122 * 3)))) (wrap64 (1 + (Int.tmod t123 60))) true) else (laws_FnTrays.j2 k2 (wrap64 (1 + (wrap64 (t122 * 3)))) (wrap64 (1 + (Int.tmod t123 60))) (decide ((wrap64 ((wrap64 (t137 - 1)) * t135)) ≥ (mx t136 1))))) else (laws_FnTrays.j2 k2 (wrap64 (1 + (wrap64 (t122 * 3)))) (wrap64 (1 + (Int.tmod t123 60))) false))))) else (laws_FnTrays.j2 k2 (wrap64 (1 + (wrap64 (t122 * 3)))) (wrap64 (1 + (Int.tmod t123 60))) true))) else (laws_FnTrays.j2 k2 (wrap64 (1 + (wrap64 (t122 * 3)))) (wrap64 (1 + (Int.tmod t123 60))) true)) = some r := H
                    have A40 := Aside0.mk A400
                    clear A400
                    by_cases c41 : t135 = t138
                    · rw [if_pos c41] at H
                      have c41b0 : (t135 == t138) = true := beq_iff_eq.mpr c41
                      have c41b1 : (t135 != t138) = false := bne_eq_false_iff_eq.mpr c41
                      clear c41
                      replace H := Option.bind_eq_some_iff.mp H
                      obtain ⟨t139, A420, H⟩ := H
                      replace H : (if t135 = t139 then ((impl_RowsFor.f (wrap64 (1 + t133)) (wrap64 (1 + (Int.tmod t134 40))) (Int.tmod t124 20)).bind fun t140 => (if t135 < (wrap64 (t125 * t140)) then (laws_FnTrays.j2 k2 (wrap64 (1 + (wrap64 (t122 * 3)))) (wrap64 (1 + (Int.tmod t123 60))) true) else (if ((decide (t137 ≥ 0)) != (decide (t135 > 0))) = true then (laws_FnTrays.j2 k2 (wrap64 (1 + (wrap64 (t122 * 3)))) (wrap64 (1 + (Int.tmod t123 60))) true) else (if t137 ≥ 0 then (if (wrap64 (t137 * t135)) < t136 then (laws_FnTrays.j2 k2 (wrap64 (1 + (wrap64 (t122 * 3)))) (wrap64 (1 + (Int.tmod t123 60))) true) else (laws_FnTrays.j2 k2 (wrap64 (1 + (wrap64 (t122 * 3)))) (wrap64 (1 + (Int.tmod t123 60))) (decide ((wrap64 ((wrap64 (t137 - 1)) * t135)) ≥ (mx t136 1))))) else (laws_FnTrays.j2 k2 (wrap64 (1 + (wrap64 (t122 * 3)))) (wrap64 (1 + (Int.tmod t123 60))) false))))) else (laws_FnTrays.j2 k2 (wrap64 (1 + (wrap64 (t122 * 3)))) (wrap64 (1 + (Int.tmod t123 60))) true)) = some r := H
                      have A42 := Aside0.mk A420
                      clear A420
                      by_cases c43 : t135 = t139
                      · rw [if_pos c43] at H
                        have c43b0 : (t135 == t139) = true := beq_iff_eq.mpr c43
                        have c43b1 : (t135 != t139) = false := bne_eq_false_iff_eq.mpr c43
                        clear c43
                        replace H := Option.bind_eq_some_iff.mp H
                        obtain ⟨t140, A440, H⟩ := H
                        replace H : (if t135 < (wrap64 (t125 * t140)) then (laws_FnTrays.j2 k2 (wrap64 (1 + (wrap64 (t122 * 3)))) (wrap64 (1 + (Int.tmod t123 60))) true) else (if ((decide (t137 ≥ 0)) != (decide (t135 > 0))) = true then (laws_FnTrays.j2 k2 (wrap64 (1 + (wrap64 (t122 * 3)))) (wrap64 (1 + (Int.tmod t123 60))) true) else (if t137 ≥ 0 then (if (wrap64 (t137 * t135)) < t136 then (laws_FnTrays.j2 k2 (wrap64 (1 + (wrap64 (t122 * 3)))) (wrap64 (1 + (Int.tmod t123 60))) true) else (laws_FnTrays.j2 k2 (wrap64 (1 + (wrap64 (t122 * 3)))) (wrap64 (1 + (Int.tmod t123 60))) (decide ((wrap64 ((wrap64 (t137 - 1)) * t135)) ≥ (mx t136 1))))) else (laws_FnTrays.j2 k2 (wrap64 (1 + (wrap64 (t122 * 3)))) (wrap64 (1 + (Int.tmod t123 60))) false)))) = some r := H
                        have A44 := Aside0.mk A440
                        clear A440
                        by_cases c45 : t135 < (wrap64 (t125 * t140))
                        · rw [if_pos c45] at H
                          have c45b0 : decide (t135 < (wrap64 (t125 * t140))) = true := decide_eq_true c45
                          clear c45
                          have H' := Aside0.mk H
                          first | exact (laws_FnTrays.j0_no H'.out hr_.out).elim | exact (laws_FnTrays.j2_no H'.out hr_.out).elim
                        · rw [if_neg c45] at H
                          have c45b0 : decide (t135 < (wrap64 (t125 * t140))) = false := decide_eq_false c45
                          clear c45
                          by_cases c48 : ((decide (t137 ≥ 0)) != (decide (t135 > 0))) = true
                          · rw [if_pos c48] at H
                            have c48b0 : ((decide (t137 ≥ 0)) != (decide (t135 > 0))) = true := c48
                            (try (have c48b1 : decide ((decide (t137 ≥ 0)) = (decide (t135 > 0))) = false := by simpa using c48))
                            (try (have c48b2 : ((decide (t137 ≥ 0)) == (decide (t135 > 0))) = false := by simpa using c48))
                            (try (have c48b3 : ¬ ((decide (t137 ≥ 0)) = (decide (t135 > 0))) := by simpa using c48))
                            clear c48
                            have H' := Aside0.mk H
                            first | exact (laws_FnTrays.j0_no H'.out hr_.out).elim | exact (laws_FnTrays.j2_no H'.out hr_.out).elim
                          · rw [if_neg c48] at H
                            have c48b0 : ((decide (t137 ≥ 0)) != (decide (t135 > 0))) = false := by simpa using c48
                            (try (have c48b1 : decide ((decide (t137 ≥ 0)) = (decide (t135 > 0))) = true := by simpa using c48))
                            (try (have c48b2 : ((decide (t137 ≥ 0)) == (decide (t135 > 0))) = true := by simpa using c48))
                            clear c48
                            by_cases c51 : t137 ≥ 0
                            · rw [if_pos c51] at H
                              have c51b0 : decide (0 ≤ t137) = true := decide_eq_true c51
                              clear c51
                              by_cases c52 : (wrap64 (t137 * t135)) < t136
                              · rw [if_pos c52] at H
                                have c52b0 : decide ((wrap64 (t137 * t135)) < t136) = true := decide_eq_true c52
                                clear c52
                                have H' := Aside0.mk H
                                first | exact (laws_FnTrays.j0_no H'.out hr_.out).elim | exact (laws_FnTrays.j2_no H'.out hr_.out).elim
                              · rw [if_neg c52] at H
                                have c52b0 : decide ((wrap64 (t137 * t135)) < t136) = false := decide_eq_false c52
                                clear c52
                                obtain ⟨ji55, hji55⟩ : ∃ j_ : Int, (mx t136 1) = j_ := ⟨_, rfl⟩
                                replace H : (laws_FnTrays.j2 k2 (wrap64 (1 + (wrap64 (t122 * 3)))) (wrap64 (1 + (Int.tmod t123 60))) (decide ((wrap64 ((wrap64 (t137 - 1)) * t135)) ≥ (ji55)))) = some r := by first | (rw [hji55] at H; exact H) | (simp only [hji55] at H ⊢; exact H)
                                (try rw [hji55] at A40)
                                (try rw [hji55] at A42)
                                (try rw [hji55] at A44)
                                (try (have hji55l : 1 ≤ ji55 := by (rw [← hji55]; unfold mx; (repeat' split) <;> omega)))
                                (try (have hji55m : 0 ≤ ji55 := by omega))
                                have hji55_ : (if t136 < 1 then 1 else t136) = ji55 := hji55
                                have H' := Aside0.mk H
                                clear H
                                go_wp2_with (first | (go_at_call 21; (with_reducible refine (impl_OnTray.calls (wrap64 (1 + t133)) (wrap64 (1 + (wrap64 (t122 * 3)))) (wrap64 (1 + (Int.tmod t123 60))) (wrap64 (1 + (Int.tmod t134 40))) (Int.tmod t124 20) t138 _ A40.out).mono ?_); rintro e w56 ⟨rfl, hb⟩; have n0_ := Aside0.mk (Kd.R_below (by (with_reducible repeat (first | apply Kd.R_alloc | apply Kd.R_drewN | apply Kd.R_drew)); exact HO_7.out) hb); have n1_ := Aside0.mk (below_step (by repeat (first | (with_reducible first | exact HB.out | apply below_alloc | apply pw_below_drewN | apply below_drew1) | exact HB.out)) hb); clear HO_7; clear HB; have HO_7 := n0_; have HB := n1_; clear n0_ n1_; (try clear hb); (try clear hb2); (try clear hk); (try clear hi)) | (go_at_call 21; (with_reducible refine (impl_OnTray.calls (wrap64 (1 + (wrap64 (t122 * 3)))) (wrap64 (1 + t133)) (wrap64 (1 + (Int.tmod t134 40))) (wrap64 (1 + (Int.tmod t123 60))) (Int.tmod t124 20) t139 _ A42.out).mono ?_); rintro e w57 ⟨rfl, hb⟩; have n0_ := Aside0.mk (Kd.R_below (by (with_reducible repeat (first | apply Kd.R_alloc | apply Kd.R_drewN | apply Kd.R_drew)); exact HO_7.out) hb); have n1_ := Aside0.mk (below_step (by repeat (first | (with_reducible first | exact HB.out | apply below_alloc | apply pw_below_drewN | apply below_drew1) | exact HB.out)) hb); clear HO_7; clear HB; have HO_7 := n0_; have HB := n1_; clear n0_ n1_; (try clear hb); (try clear hb2); (try clear hk); (try clear hi)) | (go_at_call 16; (with_reducible refine (impl_RowsFor.calls (wrap64 (1 + t133)) (wrap64 (1 + (Int.tmod t134 40))) (Int.tmod t124 20) t140 _ A44.out).mono ?_); rintro e w' ⟨rfl, ⟨nd, rfl⟩⟩; (try first | exact ⟨rfl, _, World.drewN_drewN _ _ _⟩ | exact ⟨rfl, _, Eq.trans (World.drewN_drewN _ _ _) (congrArg (World.drewN _) (Nat.add_assoc _ _ _))⟩)))
                                repeat (go_quiet (first | (go_at_call 21; (with_reducible refine (impl_OnTray.calls (wrap64 (1 + t133)) (wrap64 (1 + (wrap64 (t122 * 3)))) (wrap64 (1 + (Int.tmod t123 60))) (wrap64 (1 + (Int.tmod t134 40))) (Int.tmod t124 20) t138 _ A40.out).mono ?_); rintro e w56 ⟨rfl, hb⟩; have n0_ := Aside0.mk (Kd.R_below (by (with_reducible repeat (first | apply Kd.R_alloc | apply Kd.R_drewN | apply Kd.R_drew)); exact HO_7.out) hb); have n1_ := Aside0.mk (below_step (by repeat (first | (with_reducible first | exact HB.out | apply below_alloc | apply pw_below_drewN | apply below_drew1) | exact HB.out)) hb); clear HO_7; clear HB; have HO_7 := n0_; have HB := n1_; clear n0_ n1_; (try clear hb); (try clear hb2); (try clear hk); (try clear hi)) | (go_at_call 21; (with_reducible refine (impl_OnTray.calls (wrap64 (1 + (wrap64 (t122 * 3)))) (wrap64 (1 + t133)) (wrap64 (1 + (Int.tmod t134 40))) (wrap64 (1 + (Int.tmod t123 60))) (Int.tmod t124 20) t139 _ A42.out).mono ?_); rintro e w57 ⟨rfl, hb⟩; have n0_ := Aside0.mk (Kd.R_below (by (with_reducible repeat (first | apply Kd.R_alloc | apply Kd.R_drewN | apply Kd.R_drew)); exact HO_7.out) hb); have n1_ := Aside0.mk (below_step (by repeat (first | (with_reducible first | exact HB.out | apply below_alloc | apply pw_below_drewN | apply below_drew1) | exact HB.out)) hb); clear HO_7; clear HB; have HO_7 := n0_; have HB := n1_; clear n0_ n1_; (try clear hb); (try clear hb2); (try clear hk); (try clear hi)) | (go_at_call 16; (with_reducible refine (impl_RowsFor.calls (wrap64 (1 + t133)) (wrap64 (1 + (Int.tmod t134 40))) (Int.tmod t124 20) t140 _ A44.out).mono ?_); rintro e w' ⟨rfl, ⟨nd, rfl⟩⟩; (try first | exact ⟨rfl, _, World.drewN_drewN _ _ _⟩ | exact ⟨rfl, _, Eq.trans (World.drewN_drewN _ _ _) (congrArg (World.drewN _) (Nat.add_assoc _ _ _))⟩))); try go_wp2_with (first | (go_at_call 21; (with_reducible refine (impl_OnTray.calls (wrap64 (1 + t133)) (wrap64 (1 + (wrap64 (t122 * 3)))) (wrap64 (1 + (Int.tmod t123 60))) (wrap64 (1 + (Int.tmod t134 40))) (Int.tmod t124 20) t138 _ A40.out).mono ?_); rintro e w56 ⟨rfl, hb⟩; have n0_ := Aside0.mk (Kd.R_below (by (with_reducible repeat (first | apply Kd.R_alloc | apply Kd.R_drewN | apply Kd.R_drew)); exact HO_7.out) hb); have n1_ := Aside0.mk (below_step (by repeat (first | (with_reducible first | exact HB.out | apply below_alloc | apply pw_below_drewN | apply below_drew1) | exact HB.out)) hb); clear HO_7; clear HB; have HO_7 := n0_; have HB := n1_; clear n0_ n1_; (try clear hb); (try clear hb2); (try clear hk); (try clear hi)) | (go_at_call 21; (with_reducible refine (impl_OnTray.calls (wrap64 (1 + (wrap64 (t122 * 3)))) (wrap64 (1 + t133)) (wrap64 (1 + (Int.tmod t134 40))) (wrap64 (1 + (Int.tmod t123 60))) (Int.tmod t124 20) t139 _ A42.out).mono ?_); rintro e w57 ⟨rfl, hb⟩; have n0_ := Aside0.mk (Kd.R_below (by (with_reducible repeat (first | apply Kd.R_alloc | apply Kd.R_drewN | apply Kd.R_drew)); exact HO_7.out) hb); have n1_ := Aside0.mk (below_step (by repeat (first | (with_reducible first | exact HB.out | apply below_alloc | apply pw_below_drewN | apply below_drew1) | exact HB.out)) hb); clear HO_7; clear HB; have HO_7 := n0_; have HB := n1_; clear n0_ n1_; (try clear hb); (try clear hb2); (try clear hk); (try clear hi)) | (go_at_call 16; (with_reducible refine (impl_RowsFor.calls (wrap64 (1 + t133)) (wrap64 (1 + (Int.tmod t134 40))) (Int.tmod t124 20) t140 _ A44.out).mono ?_); rintro e w' ⟨rfl, ⟨nd, rfl⟩⟩; (try first | exact ⟨rfl, _, World.drewN_drewN _ _ _⟩ | exact ⟨rfl, _, Eq.trans (World.drewN_drewN _ _ _) (congrArg (World.drewN _) (Nat.add_assoc _ _ _))⟩))))
                                go_meet
                                case rel => exact ⟨_, (decide ((wrap64 ((wrap64 (t137 - 1)) * t135)) ≥ (ji55))), (by first | rfl | (simp; done) | (simp only [← hji55] <;> (first | rfl | simp)) | (simp [*]; done)), H', ⟨by have := HJ8.out; have := HK2.out; first | omega | exact Nat.le_refl _⟩, ⟨by repeat (first | (with_reducible first | exact HB.out | apply below_alloc | apply pw_below_drewN | apply below_drew1) | exact HB.out)⟩⟩
                                all_goals (exfalso; (try simp at c48b0); (try simp at c51b0); (try simp at c52b0); omega)
                            · rw [if_neg c51] at H
                              have c51b0 : decide (0 ≤ t137) = false := decide_eq_false c51
                              clear c51
                              have H' := Aside0.mk H
                              clear H
                              go_wp2_with (first | (go_at_call 21; (with_reducible refine (impl_OnTray.calls (wrap64 (1 + t133)) (wrap64 (1 + (wrap64 (t122 * 3)))) (wrap64 (1 + (Int.tmod t123 60))) (wrap64 (1 + (Int.tmod t134 40))) (Int.tmod t124 20) t138 _ A40.out).mono ?_); rintro e w58 ⟨rfl, hb⟩; have n0_ := Aside0.mk (Kd.R_below (by (with_reducible repeat (first | apply Kd.R_alloc | apply Kd.R_drewN | apply Kd.R_drew)); exact HO_7.out) hb); have n1_ := Aside0.mk (below_step (by repeat (first | (with_reducible first | exact HB.out | apply below_alloc | apply pw_below_drewN | apply below_drew1) | exact HB.out)) hb); clear HO_7; clear HB; have HO_7 := n0_; have HB := n1_; clear n0_ n1_; (try clear hb); (try clear hb2); (try clear hk); (try clear hi)) | (go_at_call 21; (with_reducible refine (impl_OnTray.calls (wrap64 (1 + (wrap64 (t122 * 3)))) (wrap64 (1 + t133)) (wrap64 (1 + (Int.tmod t134 40))) (wrap64 (1 + (Int.tmod t123 60))) (Int.tmod t124 20) t139 _ A42.out).mono ?_); rintro e w59 ⟨rfl, hb⟩; have n0_ := Aside0.mk (Kd.R_below (by (with_reducible repeat (first | apply Kd.R_alloc | apply Kd.R_drewN | apply Kd.R_drew)); exact HO_7.out) hb); have n1_ := Aside0.mk (below_step (by repeat (first | (with_reducible first | exact HB.out | apply below_alloc | apply pw_below_drewN | apply below_drew1) | exact HB.out)) hb); clear HO_7; clear HB; have HO_7 := n0_; have HB := n1_; clear n0_ n1_; (try clear hb); (try clear hb2); (try clear hk); (try clear hi)) | (go_at_call 16; (with_reducible refine (impl_RowsFor.calls (wrap64 (1 + t133)) (wrap64 (1 + (Int.tmod t134 40))) (Int.tmod t124 20) t140 _ A44.out).mono ?_); rintro e w' ⟨rfl, ⟨nd, rfl⟩⟩; (try first | exact ⟨rfl, _, World.drewN_drewN _ _ _⟩ | exact ⟨rfl, _, Eq.trans (World.drewN_drewN _ _ _) (congrArg (World.drewN _) (Nat.add_assoc _ _ _))⟩)))
                              repeat (go_quiet (first | (go_at_call 21; (with_reducible refine (impl_OnTray.calls (wrap64 (1 + t133)) (wrap64 (1 + (wrap64 (t122 * 3)))) (wrap64 (1 + (Int.tmod t123 60))) (wrap64 (1 + (Int.tmod t134 40))) (Int.tmod t124 20) t138 _ A40.out).mono ?_); rintro e w58 ⟨rfl, hb⟩; have n0_ := Aside0.mk (Kd.R_below (by (with_reducible repeat (first | apply Kd.R_alloc | apply Kd.R_drewN | apply Kd.R_drew)); exact HO_7.out) hb); have n1_ := Aside0.mk (below_step (by repeat (first | (with_reducible first | exact HB.out | apply below_alloc | apply pw_below_drewN | apply below_drew1) | exact HB.out)) hb); clear HO_7; clear HB; have HO_7 := n0_; have HB := n1_; clear n0_ n1_; (try clear hb); (try clear hb2); (try clear hk); (try clear hi)) | (go_at_call 21; (with_reducible refine (impl_OnTray.calls (wrap64 (1 + (wrap64 (t122 * 3)))) (wrap64 (1 + t133)) (wrap64 (1 + (Int.tmod t134 40))) (wrap64 (1 + (Int.tmod t123 60))) (Int.tmod t124 20) t139 _ A42.out).mono ?_); rintro e w59 ⟨rfl, hb⟩; have n0_ := Aside0.mk (Kd.R_below (by (with_reducible repeat (first | apply Kd.R_alloc | apply Kd.R_drewN | apply Kd.R_drew)); exact HO_7.out) hb); have n1_ := Aside0.mk (below_step (by repeat (first | (with_reducible first | exact HB.out | apply below_alloc | apply pw_below_drewN | apply below_drew1) | exact HB.out)) hb); clear HO_7; clear HB; have HO_7 := n0_; have HB := n1_; clear n0_ n1_; (try clear hb); (try clear hb2); (try clear hk); (try clear hi)) | (go_at_call 16; (with_reducible refine (impl_RowsFor.calls (wrap64 (1 + t133)) (wrap64 (1 + (Int.tmod t134 40))) (Int.tmod t124 20) t140 _ A44.out).mono ?_); rintro e w' ⟨rfl, ⟨nd, rfl⟩⟩; (try first | exact ⟨rfl, _, World.drewN_drewN _ _ _⟩ | exact ⟨rfl, _, Eq.trans (World.drewN_drewN _ _ _) (congrArg (World.drewN _) (Nat.add_assoc _ _ _))⟩))); try go_wp2_with (first | (go_at_call 21; (with_reducible refine (impl_OnTray.calls (wrap64 (1 + t133)) (wrap64 (1 + (wrap64 (t122 * 3)))) (wrap64 (1 + (Int.tmod t123 60))) (wrap64 (1 + (Int.tmod t134 40))) (Int.tmod t124 20) t138 _ A40.out).mono ?_); rintro e w58 ⟨rfl, hb⟩; have n0_ := Aside0.mk (Kd.R_below (by (with_reducible repeat (first | apply Kd.R_alloc | apply Kd.R_drewN | apply Kd.R_drew)); exact HO_7.out) hb); have n1_ := Aside0.mk (below_step (by repeat (first | (with_reducible first | exact HB.out | apply below_alloc | apply pw_below_drewN | apply below_drew1) | exact HB.out)) hb); clear HO_7; clear HB; have HO_7 := n0_; have HB := n1_; clear n0_ n1_; (try clear hb); (try clear hb2); (try clear hk); (try clear hi)) | (go_at_call 21; (with_reducible refine (impl_OnTray.calls (wrap64 (1 + (wrap64 (t122 * 3)))) (wrap64 (1 + t133)) (wrap64 (1 + (Int.tmod t134 40))) (wrap64 (1 + (Int.tmod t123 60))) (Int.tmod t124 20) t139 _ A42.out).mono ?_); rintro e w59 ⟨rfl, hb⟩; have n0_ := Aside0.mk (Kd.R_below (by (with_reducible repeat (first | apply Kd.R_alloc | apply Kd.R_drewN | apply Kd.R_drew)); exact HO_7.out) hb); have n1_ := Aside0.mk (below_step (by repeat (first | (with_reducible first | exact HB.out | apply below_alloc | apply pw_below_drewN | apply below_drew1) | exact HB.out)) hb); clear HO_7; clear HB; have HO_7 := n0_; have HB := n1_; clear n0_ n1_; (try clear hb); (try clear hb2); (try clear hk); (try clear hi)) | (go_at_call 16; (with_reducible refine (impl_RowsFor.calls (wrap64 (1 + t133)) (wrap64 (1 + (Int.tmod t134 40))) (Int.tmod t124 20) t140 _ A44.out).mono ?_); rintro e w' ⟨rfl, ⟨nd, rfl⟩⟩; (try first | exact ⟨rfl, _, World.drewN_drewN _ _ _⟩ | exact ⟨rfl, _, Eq.trans (World.drewN_drewN _ _ _) (congrArg (World.drewN _) (Nat.add_assoc _ _ _))⟩))))
                              go_meet
                              case rel => exact ⟨_, (false), (by first | rfl | (simp; done) | (simp [*]; done)), H', ⟨by have := HJ8.out; have := HK2.out; first | omega | exact Nat.le_refl _⟩, ⟨by repeat (first | (with_reducible first | exact HB.out | apply below_alloc | apply pw_below_drewN | apply below_drew1) | exact HB.out)⟩⟩
                              all_goals (exfalso; (try simp at c48b0); (try simp at c51b0); (try simp at c52b0); omega)
                      · rw [if_neg c43] at H
                        have c43b0 : (t135 == t139) = false := beq_eq_false_iff_ne.mpr c43
                        have c43b1 : (t135 != t139) = true := bne_iff_ne.mpr c43
                        have H' := Aside0.mk H
                        first | exact (laws_FnTrays.j0_no H'.out hr_.out).elim | exact (laws_FnTrays.j2_no H'.out hr_.out).elim
                    · rw [if_neg c41] at H
                      have c41b0 : (t135 == t138) = false := beq_eq_false_iff_ne.mpr c41
                      have c41b1 : (t135 != t138) = true := bne_iff_ne.mpr c41
                      have H' := Aside0.mk H
                      first | exact (laws_FnTrays.j0_no H'.out hr_.out).elim | exact (laws_FnTrays.j2_no H'.out hr_.out).elim
                case rest =>
                  clear HC36
                  try clear c1
                  try clear p1
                  try clear q1
                  try clear hx1
                  try clear c2
                  try clear p2
                  try clear c3
                  try clear c4
                  try clear c5
                  try clear p6
                  try clear c11
                  try clear c11b0
                  try clear c12
                  try clear c12b0
                  try clear p12
                  try clear q12
                  try clear hx12
                  try clear c13
                  try clear c13b0
                  try clear p13
                  try clear q13
                  try clear hx13
                  try clear c14
                  try clear c14b0
                  try clear c16
                  try clear c16b0
                  try clear c18
                  try clear c19
                  try clear c19b0
                  try clear c20
                  try clear c20b0
                  try clear c21
                  try clear c21b0
                  try clear c22
                  try clear c22b0
                  try clear c23
                  try clear c23b0
                  try clear c24
                  try clear c24b0
                  try clear c26
                  try clear c26b0
                  try clear c27
                  try clear c27b0
                  try clear c28
                  try clear c28b0
                  try clear c28b1
                  try clear c39
                  try clear c39b0
                  try clear c41
                  try clear c41b0
                  try clear c41b1
                  try clear c43
                  try clear c43b0
                  try clear c43b1
                  try clear c45
                  try clear c45b0
                  try clear c48
                  try clear c48b0
                  try clear c48b1
                  try clear c48b2
                  try clear c51
                  try clear c51b0
                  try clear c52
                  try clear c52b0
                  try clear hx129_0
                  try clear hx130_0
                  try clear hx131_0
                  try clear hx132_0
                  try clear p129
                  try clear p130
                  try clear p131
                  try clear p132
                  try clear p2
                  try clear p6
                  try clear q129
                  try clear q130
                  try clear q131
                  try clear q132
                  obtain ⟨kq, x192_35, rfl, HA, HJ35, HB⟩ := hcut
                  cases kq with
                  | zero => exact absurd HA.out (by simp [laws_FnTrays.j2])
                  | succ kj35 =>
                    have H := HA.out
                    clear HA
                    simp only [laws_FnTrays.j2] at H
                    by_cases c63 : x192_35 = true
                    · subst c63
                      have H1 : (some false) = some r := by rw [if_pos rfl] at H; exact H
                      clear H
                      have H := H1
                      clear H1
                      exact absurd (Option.some.inj H) (by rw [hr_.out]; decide)
                    · replace c63 := Bool.eq_false_iff.mpr c63
                      subst c63
                      have H1 : ((impl_WidestGap.f kj35 (wrap64 (1 + (wrap64 (t122 * 3)))) (wrap64 (1 + (Int.tmod t123 60))) 3).bind fun t141 => (if t141 < 0 then (if ((decide (t141 ≥ 0)) == (decide ((wrap64 (3 * (wrap64 (1 + (Int.tmod t123 60))))) ≤ (wrap64 (1 + (wrap64 (t122 * 3))))))) = true then ((impl_RowsFor.f 80 20 10).bind fun t142 => (some (t142 == 3))) else (some false)) else ((impl_RowsFor.f (wrap64 (1 + (wrap64 (t122 * 3)))) (wrap64 (1 + (Int.tmod t123 60))) t141).bind fun t143 => (if t143 ≥ 3 then (if t141 = 100 then (if ((decide (t141 ≥ 0)) == (decide ((wrap64 (3 * (wrap64 (1 + (Int.tmod t123 60))))) ≤ (wrap64 (1 + (wrap64 (t122 * 3))))))) = true then ((impl_RowsFor.f 80 20 10).bind fun t144 => (some (t144 == 3))) else (some false)) else ((impl_RowsFor.f (wrap64 (1 + (wrap64 (t122 * 3)))) (wrap64 (1 + (Int.tmod t123 60))) (wrap64 (t141 + 1))).bind fun t145 => (if t145 < 3 then (if ((decide (t141 ≥ 0)) == (decide ((wrap64 (3 * (wrap64 (1 + (Int.tmod t123 60))))) ≤ (wrap64 (1 + (wrap64 (t122 * 3))))))) = true then ((impl_RowsFor.f 80 20 10).bind fun t146 => (some (t146 == 3))) else (some false)) else (some false)))) else (some false))))) = some r := by rw [if_neg (show ¬ (false = true) by decide)] at H; exact H
                      clear H
                      have H := H1
                      clear H1
                      replace H := Option.bind_eq_some_iff.mp H
                      obtain ⟨t141, A640, H⟩ := H
                      replace H : (if t141 < 0 then (if ((decide (t141 ≥ 0)) == (decide ((wrap64 (3 * (wrap64 (1 + (Int.tmod t123 60))))) ≤ (wrap64 (1 + (wrap64 (t122 * 3))))))) = true then ((impl_RowsFor.f 80 20 10).bind fun t142 => (some (t142 == 3))) else (some false)) else ((impl_RowsFor.f (wrap64 (1 + (wrap64 (t122 * 3)))) (wrap64 (1 + (Int.tmod t123 60))) t141).bind fun t143 => (if t143 ≥ 3 then (if t141 = 100 then (if ((decide (t141 ≥ 0)) == (decide ((wrap64 (3 * (wrap64 (1 + (Int.tmod t123 60))))) ≤ (wrap64 (1 + (wrap64 (t122 * 3))))))) = true then ((impl_RowsFor.f 80 20 10).bind fun t144 => (some (t144 == 3))) else (some false)) else ((impl_RowsFor.f (wrap64 (1 + (wrap64 (t122 * 3)))) (wrap64 (1 + (Int.tmod t123 60))) (wrap64 (t141 + 1))).bind fun t145 => (if t145 < 3 then (if ((decide (t141 ≥ 0)) == (decide ((wrap64 (3 * (wrap64 (1 + (Int.tmod t123 60))))) ≤ (wrap64 (1 + (wrap64 (t122 * 3))))))) = true then ((impl_RowsFor.f 80 20 10).bind fun t146 => (some (t146 == 3))) else (some false)) else (some false)))) else (some false)))) = some r := H
                      have A64 := Aside0.mk A640
                      clear A640
                      by_cases c65 : t141 < 0
                      · rw [if_pos c65] at H
                        have c65b0 : decide (t141 < 0) = true := decide_eq_true c65
                        clear c65
                        by_cases c66 : ((decide (t141 ≥ 0)) == (decide ((wrap64 (3 * (wrap64 (1 + (Int.tmod t123 60))))) ≤ (wrap64 (1 + (wrap64 (t122 * 3))))))) = true
                        · rw [if_pos c66] at H
                          have c66b0 : ((decide (t141 ≥ 0)) == (decide ((wrap64 (3 * (wrap64 (1 + (Int.tmod t123 60))))) ≤ (wrap64 (1 + (wrap64 (t122 * 3))))))) = true := c66
                          (try (have c66b1 : decide ((decide (t141 ≥ 0)) = (decide ((wrap64 (3 * (wrap64 (1 + (Int.tmod t123 60))))) ≤ (wrap64 (1 + (wrap64 (t122 * 3))))))) = true := by simpa using c66))
                          (try (have c66b2 : ((decide (t141 ≥ 0)) == (decide ((wrap64 (3 * (wrap64 (1 + (Int.tmod t123 60))))) ≤ (wrap64 (1 + (wrap64 (t122 * 3))))))) = true := by simpa using c66))
                          clear c66
                          replace H := Option.bind_eq_some_iff.mp H
                          obtain ⟨t142, A670, H⟩ := H
                          replace H : (some (t142 == 3)) = some r := H
                          have A67 := Aside0.mk A670
                          clear A670
                          obtain rfl := Option.some.inj H
                          go_wp2_with (first | (go_at_call 25; (with_reducible refine (impl_WidestGap.calls kj35 (wrap64 (1 + (wrap64 (t122 * 3)))) (wrap64 (1 + (Int.tmod t123 60))) 3 t141 _ A64.out).mono ?_); rintro e w' ⟨rfl, ⟨nd, rfl⟩⟩; (try first | exact ⟨rfl, _, World.drewN_drewN _ _ _⟩ | exact ⟨rfl, _, Eq.trans (World.drewN_drewN _ _ _) (congrArg (World.drewN _) (Nat.add_assoc _ _ _))⟩)) | (go_at_call 16; (with_reducible refine (impl_RowsFor.calls 80 20 10 t142 _ A67.out).mono ?_); rintro e w' ⟨rfl, ⟨nd, rfl⟩⟩; (try first | exact ⟨rfl, _, World.drewN_drewN _ _ _⟩ | exact ⟨rfl, _, Eq.trans (World.drewN_drewN _ _ _) (congrArg (World.drewN _) (Nat.add_assoc _ _ _))⟩)))
                          repeat (go_quiet (first | (go_at_call 25; (with_reducible refine (impl_WidestGap.calls kj35 (wrap64 (1 + (wrap64 (t122 * 3)))) (wrap64 (1 + (Int.tmod t123 60))) 3 t141 _ A64.out).mono ?_); rintro e w' ⟨rfl, ⟨nd, rfl⟩⟩; (try first | exact ⟨rfl, _, World.drewN_drewN _ _ _⟩ | exact ⟨rfl, _, Eq.trans (World.drewN_drewN _ _ _) (congrArg (World.drewN _) (Nat.add_assoc _ _ _))⟩)) | (go_at_call 16; (with_reducible refine (impl_RowsFor.calls 80 20 10 t142 _ A67.out).mono ?_); rintro e w' ⟨rfl, ⟨nd, rfl⟩⟩; (try first | exact ⟨rfl, _, World.drewN_drewN _ _ _⟩ | exact ⟨rfl, _, Eq.trans (World.drewN_drewN _ _ _) (congrArg (World.drewN _) (Nat.add_assoc _ _ _))⟩))); try go_wp2_with (first | (go_at_call 25; (with_reducible refine (impl_WidestGap.calls kj35 (wrap64 (1 + (wrap64 (t122 * 3)))) (wrap64 (1 + (Int.tmod t123 60))) 3 t141 _ A64.out).mono ?_); rintro e w' ⟨rfl, ⟨nd, rfl⟩⟩; (try first | exact ⟨rfl, _, World.drewN_drewN _ _ _⟩ | exact ⟨rfl, _, Eq.trans (World.drewN_drewN _ _ _) (congrArg (World.drewN _) (Nat.add_assoc _ _ _))⟩)) | (go_at_call 16; (with_reducible refine (impl_RowsFor.calls 80 20 10 t142 _ A67.out).mono ?_); rintro e w' ⟨rfl, ⟨nd, rfl⟩⟩; (try first | exact ⟨rfl, _, World.drewN_drewN _ _ _⟩ | exact ⟨rfl, _, Eq.trans (World.drewN_drewN _ _ _) (congrArg (World.drewN _) (Nat.add_assoc _ _ _))⟩))))
                          go_ret
                          exact ⟨by first | rfl | (simp [errW_none, errW_some] <;> rfl) | (simp [*, errW_none, errW_some] <;> rfl), by repeat (first | (with_reducible first | exact HB.out | apply below_alloc | apply pw_below_drewN | apply below_drew1) | exact HB.out)⟩
                        · rw [if_neg c66] at H
                          have c66b0 : ((decide (t141 ≥ 0)) == (decide ((wrap64 (3 * (wrap64 (1 + (Int.tmod t123 60))))) ≤ (wrap64 (1 + (wrap64 (t122 * 3))))))) = false := by simpa using c66
                          (try (have c66b1 : decide ((decide (t141 ≥ 0)) = (decide ((wrap64 (3 * (wrap64 (1 + (Int.tmod t123 60))))) ≤ (wrap64 (1 + (wrap64 (t122 * 3))))))) = false := by simpa using c66))
                          (try (have c66b2 : ((decide (t141 ≥ 0)) == (decide ((wrap64 (3 * (wrap64 (1 + (Int.tmod t123 60))))) ≤ (wrap64 (1 + (wrap64 (t122 * 3))))))) = false := by simpa using c66))
                          (try (have c66b3 : ¬ ((decide (t141 ≥ 0)) = (decide ((wrap64 (3 * (wrap64 (1 + (Int.tmod t123 60))))) ≤ (wrap64 (1 + (wrap64 (t122 * 3))))))) := by simpa using c66))
                          clear c66
                          exact absurd (Option.some.inj H) (by rw [hr_.out]; decide)
                      · rw [if_neg c65] at H
                        have c65b0 : decide (t141 < 0) = false := decide_eq_false c65
                        clear c65
                        replace H := Option.bind_eq_some_iff.mp H
                        obtain ⟨t143, A680, H⟩ := H
                        replace H : (if t143 ≥ 3 then (if t141 = 100 then (if ((decide (t141 ≥ 0)) == (decide ((wrap64 (3 * (wrap64 (1 + (Int.tmod t123 60))))) ≤ (wrap64 (1 + (wrap64 (t122 * 3))))))) = true then ((impl_RowsFor.f 80 20 10).bind fun t144 => (some (t144 == 3))) else (some false)) else ((impl_RowsFor.f (wrap64 (1 + (wrap64 (t122 * 3)))) (wrap64 (1 + (Int.tmod t123 60))) (wrap64 (t141 + 1))).bind fun t145 => (if t145 < 3 then (if ((decide (t141 ≥ 0)) == (decide ((wrap64 (3 * (wrap64 (1 + (Int.tmod t123 60))))) ≤ (wrap64 (1 + (wrap64 (t122 * 3))))))) = true then ((impl_RowsFor.f 80 20 10).bind fun t146 => (some (t146 == 3))) else (some false)) else (some false)))) else (some false)) = some r := H
                        have A68 := Aside0.mk A680
                        clear A680
                        by_cases c69 : t143 ≥ 3
                        · rw [if_pos c69] at H
                          have c69b0 : decide (3 ≤ t143) = true := decide_eq_true c69
                          clear c69
                          by_cases c70 : t141 = 100
                          · rw [if_pos c70] at H
                            have c70b0 : (t141 == 100) = true := beq_iff_eq.mpr c70
                            have c70b1 : (t141 != 100) = false := bne_eq_false_iff_eq.mpr c70
                            clear c70
                            by_cases c71 : ((decide (t141 ≥ 0)) == (decide ((wrap64 (3 * (wrap64 (1 + (Int.tmod t123 60))))) ≤ (wrap64 (1 + (wrap64 (t122 * 3))))))) = true
                            · rw [if_pos c71] at H
                              have c71b0 : ((decide (t141 ≥ 0)) == (decide ((wrap64 (3 * (wrap64 (1 + (Int.tmod t123 60))))) ≤ (wrap64 (1 + (wrap64 (t122 * 3))))))) = true := c71
                              (try (have c71b1 : decide ((decide (t141 ≥ 0)) = (decide ((wrap64 (3 * (wrap64 (1 + (Int.tmod t123 60))))) ≤ (wrap64 (1 + (wrap64 (t122 * 3))))))) = true := by simpa using c71))
                              (try (have c71b2 : ((decide (t141 ≥ 0)) == (decide ((wrap64 (3 * (wrap64 (1 + (Int.tmod t123 60))))) ≤ (wrap64 (1 + (wrap64 (t122 * 3))))))) = true := by simpa using c71))
                              clear c71
                              replace H := Option.bind_eq_some_iff.mp H
                              obtain ⟨t144, A720, H⟩ := H
                              replace H : (some (t144 == 3)) = some r := H
                              have A72 := Aside0.mk A720
                              clear A720
                              obtain rfl := Option.some.inj H
                              go_wp2_with (first | (go_at_call 25; (with_reducible refine (impl_WidestGap.calls kj35 (wrap64 (1 + (wrap64 (t122 * 3)))) (wrap64 (1 + (Int.tmod t123 60))) 3 t141 _ A64.out).mono ?_); rintro e w' ⟨rfl, ⟨nd, rfl⟩⟩; (try first | exact ⟨rfl, _, World.drewN_drewN _ _ _⟩ | exact ⟨rfl, _, Eq.trans (World.drewN_drewN _ _ _) (congrArg (World.drewN _) (Nat.add_assoc _ _ _))⟩)) | (go_at_call 16; (with_reducible refine (impl_RowsFor.calls (wrap64 (1 + (wrap64 (t122 * 3)))) (wrap64 (1 + (Int.tmod t123 60))) t141 t143 _ A68.out).mono ?_); rintro e w' ⟨rfl, ⟨nd, rfl⟩⟩; (try first | exact ⟨rfl, _, World.drewN_drewN _ _ _⟩ | exact ⟨rfl, _, Eq.trans (World.drewN_drewN _ _ _) (congrArg (World.drewN _) (Nat.add_assoc _ _ _))⟩)) | (go_at_call 16; (with_reducible refine (impl_RowsFor.calls 80 20 10 t144 _ A72.out).mono ?_); rintro e w' ⟨rfl, ⟨nd, rfl⟩⟩; (try first | exact ⟨rfl, _, World.drewN_drewN _ _ _⟩ | exact ⟨rfl, _, Eq.trans (World.drewN_drewN _ _ _) (congrArg (World.drewN _) (Nat.add_assoc _ _ _))⟩)))
                              repeat (go_quiet (first | (go_at_call 25; (with_reducible refine (impl_WidestGap.calls kj35 (wrap64 (1 + (wrap64 (t122 * 3)))) (wrap64 (1 + (Int.tmod t123 60))) 3 t141 _ A64.out).mono ?_); rintro e w' ⟨rfl, ⟨nd, rfl⟩⟩; (try first | exact ⟨rfl, _, World.drewN_drewN _ _ _⟩ | exact ⟨rfl, _, Eq.trans (World.drewN_drewN _ _ _) (congrArg (World.drewN _) (Nat.add_assoc _ _ _))⟩)) | (go_at_call 16; (with_reducible refine (impl_RowsFor.calls (wrap64 (1 + (wrap64 (t122 * 3)))) (wrap64 (1 + (Int.tmod t123 60))) t141 t143 _ A68.out).mono ?_); rintro e w' ⟨rfl, ⟨nd, rfl⟩⟩; (try first | exact ⟨rfl, _, World.drewN_drewN _ _ _⟩ | exact ⟨rfl, _, Eq.trans (World.drewN_drewN _ _ _) (congrArg (World.drewN _) (Nat.add_assoc _ _ _))⟩)) | (go_at_call 16; (with_reducible refine (impl_RowsFor.calls 80 20 10 t144 _ A72.out).mono ?_); rintro e w' ⟨rfl, ⟨nd, rfl⟩⟩; (try first | exact ⟨rfl, _, World.drewN_drewN _ _ _⟩ | exact ⟨rfl, _, Eq.trans (World.drewN_drewN _ _ _) (congrArg (World.drewN _) (Nat.add_assoc _ _ _))⟩))); try go_wp2_with (first | (go_at_call 25; (with_reducible refine (impl_WidestGap.calls kj35 (wrap64 (1 + (wrap64 (t122 * 3)))) (wrap64 (1 + (Int.tmod t123 60))) 3 t141 _ A64.out).mono ?_); rintro e w' ⟨rfl, ⟨nd, rfl⟩⟩; (try first | exact ⟨rfl, _, World.drewN_drewN _ _ _⟩ | exact ⟨rfl, _, Eq.trans (World.drewN_drewN _ _ _) (congrArg (World.drewN _) (Nat.add_assoc _ _ _))⟩)) | (go_at_call 16; (with_reducible refine (impl_RowsFor.calls (wrap64 (1 + (wrap64 (t122 * 3)))) (wrap64 (1 + (Int.tmod t123 60))) t141 t143 _ A68.out).mono ?_); rintro e w' ⟨rfl, ⟨nd, rfl⟩⟩; (try first | exact ⟨rfl, _, World.drewN_drewN _ _ _⟩ | exact ⟨rfl, _, Eq.trans (World.drewN_drewN _ _ _) (congrArg (World.drewN _) (Nat.add_assoc _ _ _))⟩)) | (go_at_call 16; (with_reducible refine (impl_RowsFor.calls 80 20 10 t144 _ A72.out).mono ?_); rintro e w' ⟨rfl, ⟨nd, rfl⟩⟩; (try first | exact ⟨rfl, _, World.drewN_drewN _ _ _⟩ | exact ⟨rfl, _, Eq.trans (World.drewN_drewN _ _ _) (congrArg (World.drewN _) (Nat.add_assoc _ _ _))⟩))))
                              go_ret
                              exact ⟨by first | rfl | (simp [errW_none, errW_some] <;> rfl) | (simp [*, errW_none, errW_some] <;> rfl), by repeat (first | (with_reducible first | exact HB.out | apply below_alloc | apply pw_below_drewN | apply below_drew1) | exact HB.out)⟩
                            · rw [if_neg c71] at H
                              have c71b0 : ((decide (t141 ≥ 0)) == (decide ((wrap64 (3 * (wrap64 (1 + (Int.tmod t123 60))))) ≤ (wrap64 (1 + (wrap64 (t122 * 3))))))) = false := by simpa using c71
                              (try (have c71b1 : decide ((decide (t141 ≥ 0)) = (decide ((wrap64 (3 * (wrap64 (1 + (Int.tmod t123 60))))) ≤ (wrap64 (1 + (wrap64 (t122 * 3))))))) = false := by simpa using c71))
                              (try (have c71b2 : ((decide (t141 ≥ 0)) == (decide ((wrap64 (3 * (wrap64 (1 + (Int.tmod t123 60))))) ≤ (wrap64 (1 + (wrap64 (t122 * 3))))))) = false := by simpa using c71))
                              (try (have c71b3 : ¬ ((decide (t141 ≥ 0)) = (decide ((wrap64 (3 * (wrap64 (1 + (Int.tmod t123 60))))) ≤ (wrap64 (1 + (wrap64 (t122 * 3))))))) := by simpa using c71))
                              clear c71
                              exact absurd (Option.some.inj H) (by rw [hr_.out]; decide)
                          · rw [if_neg c70] at H
                            have c70b0 : (t141 == 100) = false := beq_eq_false_iff_ne.mpr c70
                            have c70b1 : (t141 != 100) = true := bne_iff_ne.mpr c70
                            replace H := Option.bind_eq_some_iff.mp H
                            obtain ⟨t145, A730, H⟩ := H
                            replace H : (if t145 < 3 then (if ((decide (t141 ≥ 0)) == (decide ((wrap64 (3 * (wrap64 (1 + (Int.tmod t123 60))))) ≤ (wrap64 (1 + (wrap64 (t122 * 3))))))) = true then ((impl_RowsFor.f 80 20 10).bind fun t146 => (some (t146 == 3))) else (some false)) else (some false)) = some r := H
                            have A73 := Aside0.mk A730
                            clear A730
                            by_cases c74 : t145 < 3
                            · rw [if_pos c74] at H
                              have c74b0 : decide (t145 < 3) = true := decide_eq_true c74
                              clear c74
                              by_cases c75 : ((decide (t141 ≥ 0)) == (decide ((wrap64 (3 * (wrap64 (1 + (Int.tmod t123 60))))) ≤ (wrap64 (1 + (wrap64 (t122 * 3))))))) = true
                              · rw [if_pos c75] at H
                                have c75b0 : ((decide (t141 ≥ 0)) == (decide ((wrap64 (3 * (wrap64 (1 + (Int.tmod t123 60))))) ≤ (wrap64 (1 + (wrap64 (t122 * 3))))))) = true := c75
                                (try (have c75b1 : decide ((decide (t141 ≥ 0)) = (decide ((wrap64 (3 * (wrap64 (1 + (Int.tmod t123 60))))) ≤ (wrap64 (1 + (wrap64 (t122 * 3))))))) = true := by simpa using c75))
                                (try (have c75b2 : ((decide (t141 ≥ 0)) == (decide ((wrap64 (3 * (wrap64 (1 + (Int.tmod t123 60))))) ≤ (wrap64 (1 + (wrap64 (t122 * 3))))))) = true := by simpa using c75))
                                clear c75
                                replace H := Option.bind_eq_some_iff.mp H
                                obtain ⟨t146, A760, H⟩ := H
                                replace H : (some (t146 == 3)) = some r := H
                                have A76 := Aside0.mk A760
                                clear A760
                                obtain rfl := Option.some.inj H
                                go_wp2_with (first | (go_at_call 25; (with_reducible refine (impl_WidestGap.calls kj35 (wrap64 (1 + (wrap64 (t122 * 3)))) (wrap64 (1 + (Int.tmod t123 60))) 3 t141 _ A64.out).mono ?_); rintro e w' ⟨rfl, ⟨nd, rfl⟩⟩; (try first | exact ⟨rfl, _, World.drewN_drewN _ _ _⟩ | exact ⟨rfl, _, Eq.trans (World.drewN_drewN _ _ _) (congrArg (World.drewN _) (Nat.add_assoc _ _ _))⟩)) | (go_at_call 16; (with_reducible refine (impl_RowsFor.calls (wrap64 (1 + (wrap64 (t122 * 3)))) (wrap64 (1 + (Int.tmod t123 60))) t141 t143 _ A68.out).mono ?_); rintro e w' ⟨rfl, ⟨nd, rfl⟩⟩; (try first | exact ⟨rfl, _, World.drewN_drewN _ _ _⟩ | exact ⟨rfl, _, Eq.trans (World.drewN_drewN _ _ _) (congrArg (World.drewN _) (Nat.add_assoc _ _ _))⟩)) | (go_at_call 16; (with_reducible refine (impl_RowsFor.calls (wrap64 (1 + (wrap64 (t122 * 3)))) (wrap64 (1 + (Int.tmod t123 60))) (wrap64 (t141 + 1)) t145 _ A73.out).mono ?_); rintro e w' ⟨rfl, ⟨nd, rfl⟩⟩; (try first | exact ⟨rfl, _, World.drewN_drewN _ _ _⟩ | exact ⟨rfl, _, Eq.trans (World.drewN_drewN _ _ _) (congrArg (World.drewN _) (Nat.add_assoc _ _ _))⟩)) | (go_at_call 16; (with_reducible refine (impl_RowsFor.calls 80 20 10 t146 _ A76.out).mono ?_); rintro e w' ⟨rfl, ⟨nd, rfl⟩⟩; (try first | exact ⟨rfl, _, World.drewN_drewN _ _ _⟩ | exact ⟨rfl, _, Eq.trans (World.drewN_drewN _ _ _) (congrArg (World.drewN _) (Nat.add_assoc _ _ _))⟩)))
                                repeat (go_quiet (first | (go_at_call 25; (with_reducible refine (impl_WidestGap.calls kj35 (wrap64 (1 + (wrap64 (t122 * 3)))) (wrap64 (1 + (Int.tmod t123 60))) 3 t141 _ A64.out).mono ?_); rintro e w' ⟨rfl, ⟨nd, rfl⟩⟩; (try first | exact ⟨rfl, _, World.drewN_drewN _ _ _⟩ | exact ⟨rfl, _, Eq.trans (World.drewN_drewN _ _ _) (congrArg (World.drewN _) (Nat.add_assoc _ _ _))⟩)) | (go_at_call 16; (with_reducible refine (impl_RowsFor.calls (wrap64 (1 + (wrap64 (t122 * 3)))) (wrap64 (1 + (Int.tmod t123 60))) t141 t143 _ A68.out).mono ?_); rintro e w' ⟨rfl, ⟨nd, rfl⟩⟩; (try first | exact ⟨rfl, _, World.drewN_drewN _ _ _⟩ | exact ⟨rfl, _, Eq.trans (World.drewN_drewN _ _ _) (congrArg (World.drewN _) (Nat.add_assoc _ _ _))⟩)) | (go_at_call 16; (with_reducible refine (impl_RowsFor.calls (wrap64 (1 + (wrap64 (t122 * 3)))) (wrap64 (1 + (Int.tmod t123 60))) (wrap64 (t141 + 1)) t145 _ A73.out).mono ?_); rintro e w' ⟨rfl, ⟨nd, rfl⟩⟩; (try first | exact ⟨rfl, _, World.drewN_drewN _ _ _⟩ | exact ⟨rfl, _, Eq.trans (World.drewN_drewN _ _ _) (congrArg (World.drewN _) (Nat.add_assoc _ _ _))⟩)) | (go_at_call 16; (with_reducible refine (impl_RowsFor.calls 80 20 10 t146 _ A76.out).mono ?_); rintro e w' ⟨rfl, ⟨nd, rfl⟩⟩; (try first | exact ⟨rfl, _, World.drewN_drewN _ _ _⟩ | exact ⟨rfl, _, Eq.trans (World.drewN_drewN _ _ _) (congrArg (World.drewN _) (Nat.add_assoc _ _ _))⟩))); try go_wp2_with (first | (go_at_call 25; (with_reducible refine (impl_WidestGap.calls kj35 (wrap64 (1 + (wrap64 (t122 * 3)))) (wrap64 (1 + (Int.tmod t123 60))) 3 t141 _ A64.out).mono ?_); rintro e w' ⟨rfl, ⟨nd, rfl⟩⟩; (try first | exact ⟨rfl, _, World.drewN_drewN _ _ _⟩ | exact ⟨rfl, _, Eq.trans (World.drewN_drewN _ _ _) (congrArg (World.drewN _) (Nat.add_assoc _ _ _))⟩)) | (go_at_call 16; (with_reducible refine (impl_RowsFor.calls (wrap64 (1 + (wrap64 (t122 * 3)))) (wrap64 (1 + (Int.tmod t123 60))) t141 t143 _ A68.out).mono ?_); rintro e w' ⟨rfl, ⟨nd, rfl⟩⟩; (try first | exact ⟨rfl, _, World.drewN_drewN _ _ _⟩ | exact ⟨rfl, _, Eq.trans (World.drewN_drewN _ _ _) (congrArg (World.drewN _) (Nat.add_assoc _ _ _))⟩)) | (go_at_call 16; (with_reducible refine (impl_RowsFor.calls (wrap64 (1 + (wrap64 (t122 * 3)))) (wrap64 (1 + (Int.tmod t123 60))) (wrap64 (t141 + 1)) t145 _ A73.out).mono ?_); rintro e w' ⟨rfl, ⟨nd, rfl⟩⟩; (try first | exact ⟨rfl, _, World.drewN_drewN _ _ _⟩ | exact ⟨rfl, _, Eq.trans (World.drewN_drewN _ _ _) (congrArg (World.drewN _) (Nat.add_assoc _ _ _))⟩)) | (go_at_call 16; (with_reducible refine (impl_RowsFor.calls 80 20 10 t146 _ A76.out).mono ?_); rintro e w' ⟨rfl, ⟨nd, rfl⟩⟩; (try first | exact ⟨rfl, _, World.drewN_drewN _ _ _⟩ | exact ⟨rfl, _, Eq.trans (World.drewN_drewN _ _ _) (congrArg (World.drewN _) (Nat.add_assoc _ _ _))⟩))))
                                go_ret
                                exact ⟨by first | rfl | (simp [errW_none, errW_some] <;> rfl) | (simp [*, errW_none, errW_some] <;> rfl), by repeat (first | (with_reducible first | exact HB.out | apply below_alloc | apply pw_below_drewN | apply below_drew1) | exact HB.out)⟩
                              · rw [if_neg c75] at H
                                have c75b0 : ((decide (t141 ≥ 0)) == (decide ((wrap64 (3 * (wrap64 (1 + (Int.tmod t123 60))))) ≤ (wrap64 (1 + (wrap64 (t122 * 3))))))) = false := by simpa using c75
                                (try (have c75b1 : decide ((decide (t141 ≥ 0)) = (decide ((wrap64 (3 * (wrap64 (1 + (Int.tmod t123 60))))) ≤ (wrap64 (1 + (wrap64 (t122 * 3))))))) = false := by simpa using c75))
                                (try (have c75b2 : ((decide (t141 ≥ 0)) == (decide ((wrap64 (3 * (wrap64 (1 + (Int.tmod t123 60))))) ≤ (wrap64 (1 + (wrap64 (t122 * 3))))))) = false := by simpa using c75))
                                (try (have c75b3 : ¬ ((decide (t141 ≥ 0)) = (decide ((wrap64 (3 * (wrap64 (1 + (Int.tmod t123 60))))) ≤ (wrap64 (1 + (wrap64 (t122 * 3))))))) := by simpa using c75))
                                clear c75
                                exact absurd (Option.some.inj H) (by rw [hr_.out]; decide)
                            · rw [if_neg c74] at H
                              have c74b0 : decide (t145 < 3) = false := decide_eq_false c74
                              clear c74
                              exact absurd (Option.some.inj H) (by rw [hr_.out]; decide)
                        · rw [if_neg c69] at H
                          have c69b0 : decide (3 ≤ t143) = false := decide_eq_false c69
                          clear c69
                          exact absurd (Option.some.inj H) (by rw [hr_.out]; decide)

/-- THE ONE PURE STATEMENT of laws_FnTrays: yours. -/
def laws_FnTrays.Pure : Prop := ∀ (l0 : List Int), l0.length ≤ maxLen → l0.length * 1 ≤ 140737488351232 → (∀ x ∈ l0, (Lit.int .u8 x).wf = true) → ∃ k, laws_FnTrays.f k l0 = some true
theorem laws_FnTrays.walk (P : laws_FnTrays.Pure) (a0 : Option Addr) (len0 cap0 : Nat) (z0 : List Int) (w : World) (w0 : (a0 = none ∧ len0 = 0 ∧ cap0 = 0 ∧ z0 = []) ∨ ∃ x, a0 = some x ∧ len0 ≤ cap0 ∧ cap0 ≤ maxLen ∧ z0.length = cap0 ∧ (∀ i, i < z0.length → w.cell? (x.add i) = some (.int .u8 (z0.getD i 0))) ∧ ∀ n ∈ z0, (Lit.int .u8 n).wf = true) (y0 : len0 * 1 ≤ 140737488351232) :
    Calls Try.prog 14 #[.slice a0 len0 cap0] w fun e w' => e = .returned (.bool true) ∧ Below w.heap.size w w' := by
  obtain ⟨l0, rfl, hr0, hm0, hw0, hc0⟩ := ReadsInt.ofRowC w0
  obtain ⟨k, h⟩ := P l0 hm0 y0 hw0
  refine (laws_FnTrays.calls k _ _ l0 true w ⟨rfl⟩ (Kd.C_of_reads (d := (0 : Int)) (h1 := fun _ => rfl) hr0) hc0 h).mono ?_
  rintro e w' ⟨rfl, hd⟩
  exact ⟨rfl, hd⟩

end Go.Proofs.Ytnhkneicepmiiaa.PFnTrays
