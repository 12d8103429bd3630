/- What the Go functions that the law FnBakings reaches compute, each as a plain function, and that the machine's calls come to just that. No condition. -/
import Derived.Test.YtkcfpkokgpimaaaPFnBakingsx0
import Derived.Test.YtkcfpkokgpimaaaPFnBakingsx1
import Derived.Test.YtkcfpkokgpimaaaPFnBakingsx2
namespace Go.Proofs.Ytkcfpkokgpimaaa.PFnBakings
open Go.RowKit Go.Proofs.YtkcfpkokgpimaaaW.PrintWords Go.Proofs.YtkcfpkokgpimaaaW.PrintLast Go.Proofs.YtkcfpkokgpimaaaW.PrintMore
attribute [local go_sem] max2_int min2_int max_two min_two max_three min_three max_four min_four   -- for this text's walks alone
set_option linter.unusedVariables false
set_option linter.unusedSimpArgs false

/-! ### laws_FnBakings: function 13 -/
mutual
def laws_FnBakings.j0 : Nat → List Int → List (S54) → Int → Int → Int → Bool → Option (Bool)
  | 0, _, _, _, _, _, _ => none
  | k + 1, x0, x3, x4, x5, x6, x35 => if x35 = true then (some false) else ((laws_at.f x0 2).bind fun t174 => ((impl_GainFor.f k x3 x6 x4 x5).bind fun t175 => ((impl_GainFor.f k x3 t174 x4 x5).bind fun t176 => (if t176 > t175 then (laws_FnBakings.j1 k x3 x4 x5 x6 t174 true) else ((impl_IsBetter.f k x3 t174 x6 x4 x5).bind fun t177 => (if t177 = true then (laws_FnBakings.j1 k x3 x4 x5 x6 t174 true) else (if x6 > 0 then ((impl_GainFor.f k x3 (wrap64 (x6 - 1)) x4 x5).bind fun t178 => (if t178 ≥ t175 then (laws_FnBakings.j1 k x3 x4 x5 x6 t174 true) else ((impl_GainFor.f k x3 (wrap64 (x6 + 1)) x4 x5).bind fun t179 => (laws_FnBakings.j1 k x3 x4 x5 x6 t174 (decide (t179 > t175)))))) else ((impl_GainFor.f k x3 (wrap64 (x6 + 1)) x4 x5).bind fun t180 => (laws_FnBakings.j1 k x3 x4 x5 x6 t174 (decide (t180 > t175)))))))))))
def laws_FnBakings.j1 : Nat → List (S54) → Int → Int → Int → Int → Bool → Option (Bool)
  | 0, _, _, _, _, _, _ => none
  | k + 1, x3, x4, x5, x6, x7, x81 => if x81 = true then (some false) else (laws_FnBakings.l0 k x3 x4 x5 x6 x7 0 0 0)
def laws_FnBakings.l0 : Nat → List (S54) → Int → Int → Int → Int → Int → Int → Int → Option (Bool)
  | 0, _, _, _, _, _, _, _, _ => none
  | k + 1, x3, x4, x5, x6, x7, x9, x10, x11 => if x11 < (x3.length : Int) then (if 0 ≤ x11 then (laws_FnBakings.l0 k x3 x4 x5 x6 x7 (wrap64 (x9 + ((rd_T54 x3 x11).f1))) (wrap64 (x10 + (wrap64 (((rd_T54 x3 x11).f1) * (wrap64 ((wrap64 (x4 * (mn x7 ((rd_T54 x3 x11).f0)))) - (wrap64 (x5 * x7)))))))) (wrap64 (x11 + 1))) else (none)) else ((impl_SoldOutWeight.f k x3 x6).bind fun t184 => (if t184 < 0 then (laws_FnBakings.j3 k x3 x4 x5 x6 x7 x10 t184 true) else (if t184 > x9 then (laws_FnBakings.j3 k x3 x4 x5 x6 x7 x10 t184 true) else (if (wrap64 (x4 * t184)) > (wrap64 (x5 * x9)) then (laws_FnBakings.j3 k x3 x4 x5 x6 x7 x10 t184 true) else (if x6 > 0 then ((impl_SoldOutWeight.f k x3 (wrap64 (x6 - 1))).bind fun t185 => (laws_FnBakings.j3 k x3 x4 x5 x6 x7 x10 t184 (decide ((wrap64 (x4 * t185)) ≤ (wrap64 (x5 * x9)))))) else (laws_FnBakings.j3 k x3 x4 x5 x6 x7 x10 t184 false))))))
def laws_FnBakings.j3 : Nat → List (S54) → Int → Int → Int → Int → Int → Int → Bool → Option (Bool)
  | 0, _, _, _, _, _, _, _, _ => none
  | k + 1, x3, x4, x5, x6, x7, x10, x12, x150 => if x150 = true then (some false) else ((impl_GainFor.f k x3 x7 x4 x5).bind fun t186 => (if t186 = x10 then ((impl_SoldOutWeight.f k x3 1000).bind fun t187 => (if t187 = 0 then ((impl_GainFor.f k x3 0 x4 x5).bind fun t188 => (if t188 = 0 then ((impl_IsBetter.f k x3 x6 x6 x4 x5).bind fun t189 => (if t189 = true then (some false) else ((impl_OddsOk.f k x3).bind fun t190 => (if t190 = true then (if x7 ≤ x6 then (some true) else ((impl_SoldOutWeight.f k x3 x7).bind fun t191 => (some (decide (t191 ≤ x12))))) else (some false))))) else (some false))) else (some false))) else (some false)))
end
def laws_FnBakings.f (k : Nat) (l0 : List Int) : Option (Bool) := (laws_big.f l0).bind fun t167 => (if t167 = true then (some true) else ((spec_DrawOdds.f k l0).bind fun t168 => ((laws_at.f l0 0).bind fun t171 => ((laws_at.f l0 1).bind fun t172 => (if (wrap64 ((wrap64 (1 + (Int.tmod t171 20))) + 1)) = 0 then (none) else ((impl_BestBake.f k t168 (wrap64 (1 + (Int.tmod t171 20))) (Int.tmod t172 (wrap64 ((wrap64 (1 + (Int.tmod t171 20))) + 1)))).bind fun t173 => (if t173 < 0 then (laws_FnBakings.j0 k l0 t168 (wrap64 (1 + (Int.tmod t171 20))) (Int.tmod t172 (wrap64 ((wrap64 (1 + (Int.tmod t171 20))) + 1))) t173 true) else (laws_FnBakings.j0 k l0 t168 (wrap64 (1 + (Int.tmod t171 20))) (Int.tmod t172 (wrap64 ((wrap64 (1 + (Int.tmod t171 20))) + 1))) t173 (decide (t173 > 1000))))))))))
theorem laws_FnBakings.j0_no {k : Nat} {u0 : List Int} {u1 : List (S54)} {u2 : Int} {u3 : Int} {u4 : Int} {r : Bool} (h : laws_FnBakings.j0 k u0 u1 u2 u3 u4 true = some r) (h2 : r = true) : False := by
  subst h2
  cases k <;> simp [laws_FnBakings.j0] at h
theorem laws_FnBakings.j1_no {k : Nat} {u0 : List (S54)} {u1 : Int} {u2 : Int} {u3 : Int} {u4 : Int} {r : Bool} (h : laws_FnBakings.j1 k u0 u1 u2 u3 u4 true = some r) (h2 : r = true) : False := by
  subst h2
  cases k <;> simp [laws_FnBakings.j1] at h
theorem laws_FnBakings.j3_no {k : Nat} {u0 : List (S54)} {u1 : Int} {u2 : Int} {u3 : Int} {u4 : Int} {u5 : Int} {u6 : Int} {r : Bool} (h : laws_FnBakings.j3 k u0 u1 u2 u3 u4 u5 u6 true = some r) (h2 : r = true) : False := by
  subst h2
  cases k <;> simp [laws_FnBakings.j3] at h
theorem laws_FnBakings.mono_l : ∀ k, (∀ y0 y1 y2 y3 y4 y5, LeO (laws_FnBakings.j0 k y0 y1 y2 y3 y4 y5) (laws_FnBakings.j0 (k + 1) y0 y1 y2 y3 y4 y5)) ∧ (∀ y0 y1 y2 y3 y4 y5, LeO (laws_FnBakings.j1 k y0 y1 y2 y3 y4 y5) (laws_FnBakings.j1 (k + 1) y0 y1 y2 y3 y4 y5)) ∧ (∀ y0 y1 y2 y3 y4 y5 y6 y7, LeO (laws_FnBakings.l0 k y0 y1 y2 y3 y4 y5 y6 y7) (laws_FnBakings.l0 (k + 1) y0 y1 y2 y3 y4 y5 y6 y7)) ∧ (∀ y0 y1 y2 y3 y4 y5 y6 y7, LeO (laws_FnBakings.j3 k y0 y1 y2 y3 y4 y5 y6 y7) (laws_FnBakings.j3 (k + 1) y0 y1 y2 y3 y4 y5 y6 y7))
  | 0 => ⟨fun _ _ _ _ _ _ r h => by simp [laws_FnBakings.j0] at h, fun _ _ _ _ _ _ r h => by simp [laws_FnBakings.j1] at h, fun _ _ _ _ _ _ _ _ r h => by simp [laws_FnBakings.l0] at h, fun _ _ _ _ _ _ _ _ r h => by simp [laws_FnBakings.j3] at h⟩
  | k + 1 => by
    obtain ⟨ih0, ih1, ih2, ih3⟩ := laws_FnBakings.mono_l k
    refine ⟨?_, ?_, ?_, ?_⟩
    · intro y0 y1 y2 y3 y4 y5
      unfold laws_FnBakings.j0
      repeat' first
      | (with_reducible exact ih0 _ _ _ _ _ _)
      | (with_reducible exact ih1 _ _ _ _ _ _)
      | (with_reducible exact ih2 _ _ _ _ _ _ _ _)
      | (with_reducible exact ih3 _ _ _ _ _ _ _ _)
      | (with_reducible exact impl_BestBake.mono _ _ _ _)
      | (with_reducible exact impl_GainFor.mono _ _ _ _ _)
      | (with_reducible exact impl_IsBetter.mono _ _ _ _ _ _)
      | (with_reducible exact impl_OddsOk.mono _ _)
      | (with_reducible exact impl_SoldOutWeight.mono _ _ _)
      | (with_reducible exact spec_DrawOdds.mono _ _)
      | (with_reducible exact LeO.refl _)
      | (with_reducible exact LeO.none _)
      | (with_reducible refine LeO.ite ?_ ?_)
      | (with_reducible refine LeO.bind ?_ (fun _ => ?_))
      | exact ih0 _ _ _ _ _ _
      | exact ih1 _ _ _ _ _ _
      | exact ih2 _ _ _ _ _ _ _ _
      | exact ih3 _ _ _ _ _ _ _ _
      | exact impl_BestBake.mono _ _ _ _
      | exact impl_GainFor.mono _ _ _ _ _
      | exact impl_IsBetter.mono _ _ _ _ _ _
      | exact impl_OddsOk.mono _ _
      | exact impl_SoldOutWeight.mono _ _ _
      | exact spec_DrawOdds.mono _ _
      | exact LeO.none _
      | refine LeO.ite ?_ ?_
      | refine LeO.bind ?_ (fun _ => ?_)
    · intro y0 y1 y2 y3 y4 y5
      unfold laws_FnBakings.j1
      repeat' first
      | (with_reducible exact ih0 _ _ _ _ _ _)
      | (with_reducible exact ih1 _ _ _ _ _ _)
      | (with_reducible exact ih2 _ _ _ _ _ _ _ _)
      | (with_reducible exact ih3 _ _ _ _ _ _ _ _)
      | (with_reducible exact impl_BestBake.mono _ _ _ _)
      | (with_reducible exact impl_GainFor.mono _ _ _ _ _)
      | (with_reducible exact impl_IsBetter.mono _ _ _ _ _ _)
      | (with_reducible exact impl_OddsOk.mono _ _)
      | (with_reducible exact impl_SoldOutWeight.mono _ _ _)
      | (with_reducible exact spec_DrawOdds.mono _ _)
      | (with_reducible exact LeO.refl _)
      | (with_reducible exact LeO.none _)
      | (with_reducible refine LeO.ite ?_ ?_)
      | (with_reducible refine LeO.bind ?_ (fun _ => ?_))
      | exact ih0 _ _ _ _ _ _
      | exact ih1 _ _ _ _ _ _
      | exact ih2 _ _ _ _ _ _ _ _
      | exact ih3 _ _ _ _ _ _ _ _
      | exact impl_BestBake.mono _ _ _ _
      | exact impl_GainFor.mono _ _ _ _ _
      | exact impl_IsBetter.mono _ _ _ _ _ _
      | exact impl_OddsOk.mono _ _
      | exact impl_SoldOutWeight.mono _ _ _
      | exact spec_DrawOdds.mono _ _
      | exact LeO.none _
      | refine LeO.ite ?_ ?_
      | refine LeO.bind ?_ (fun _ => ?_)
    · intro y0 y1 y2 y3 y4 y5 y6 y7
      unfold laws_FnBakings.l0
      repeat' first
      | (with_reducible exact ih0 _ _ _ _ _ _)
      | (with_reducible exact ih1 _ _ _ _ _ _)
      | (with_reducible exact ih2 _ _ _ _ _ _ _ _)
      | (with_reducible exact ih3 _ _ _ _ _ _ _ _)
      | (with_reducible exact impl_BestBake.mono _ _ _ _)
      | (with_reducible exact impl_GainFor.mono _ _ _ _ _)
      | (with_reducible exact impl_IsBetter.mono _ _ _ _ _ _)
      | (with_reducible exact impl_OddsOk.mono _ _)
      | (with_reducible exact impl_SoldOutWeight.mono _ _ _)
      | (with_reducible exact spec_DrawOdds.mono _ _)
      | (with_reducible exact LeO.refl _)
      | (with_reducible exact LeO.none _)
      | (with_reducible refine LeO.ite ?_ ?_)
      | (with_reducible refine LeO.bind ?_ (fun _ => ?_))
      | exact ih0 _ _ _ _ _ _
      | exact ih1 _ _ _ _ _ _
      | exact ih2 _ _ _ _ _ _ _ _
      | exact ih3 _ _ _ _ _ _ _ _
      | exact impl_BestBake.mono _ _ _ _
      | exact impl_GainFor.mono _ _ _ _ _
      | exact impl_IsBetter.mono _ _ _ _ _ _
      | exact impl_OddsOk.mono _ _
      | exact impl_SoldOutWeight.mono _ _ _
      | exact spec_DrawOdds.mono _ _
      | exact LeO.none _
      | refine LeO.ite ?_ ?_
      | refine LeO.bind ?_ (fun _ => ?_)
    · intro y0 y1 y2 y3 y4 y5 y6 y7
      unfold laws_FnBakings.j3
      repeat' first
      | (with_reducible exact ih0 _ _ _ _ _ _)
      | (with_reducible exact ih1 _ _ _ _ _ _)
      | (with_reducible exact ih2 _ _ _ _ _ _ _ _)
      | (with_reducible exact ih3 _ _ _ _ _ _ _ _)
      | (with_reducible exact impl_BestBake.mono _ _ _ _)
      | (with_reducible exact impl_GainFor.mono _ _ _ _ _)
      | (with_reducible exact impl_IsBetter.mono _ _ _ _ _ _)
      | (with_reducible exact impl_OddsOk.mono _ _)
      | (with_reducible exact impl_SoldOutWeight.mono _ _ _)
      | (with_reducible exact spec_DrawOdds.mono _ _)
      | (with_reducible exact LeO.refl _)
      | (with_reducible exact LeO.none _)
      | (with_reducible refine LeO.ite ?_ ?_)
      | (with_reducible refine LeO.bind ?_ (fun _ => ?_))
      | exact ih0 _ _ _ _ _ _
      | exact ih1 _ _ _ _ _ _
      | exact ih2 _ _ _ _ _ _ _ _
      | exact ih3 _ _ _ _ _ _ _ _
      | exact impl_BestBake.mono _ _ _ _
      | exact impl_GainFor.mono _ _ _ _ _
      | exact impl_IsBetter.mono _ _ _ _ _ _
      | exact impl_OddsOk.mono _ _
      | exact impl_SoldOutWeight.mono _ _ _
      | exact spec_DrawOdds.mono _ _
      | exact LeO.none _
      | refine LeO.ite ?_ ?_
      | refine LeO.bind ?_ (fun _ => ?_)
theorem laws_FnBakings.mono : ∀ a0 k, LeO (laws_FnBakings.f k a0) (laws_FnBakings.f (k + 1) a0) := by
  intro a0 k
  obtain ⟨ih0, ih1, ih2, ih3⟩ := laws_FnBakings.mono_l k
  unfold laws_FnBakings.f
  repeat' first
      | (with_reducible exact ih0 _ _ _ _ _ _)
      | (with_reducible exact ih1 _ _ _ _ _ _)
      | (with_reducible exact ih2 _ _ _ _ _ _ _ _)
      | (with_reducible exact ih3 _ _ _ _ _ _ _ _)
      | (with_reducible exact impl_BestBake.mono _ _ _ _)
      | (with_reducible exact impl_GainFor.mono _ _ _ _ _)
      | (with_reducible exact impl_IsBetter.mono _ _ _ _ _ _)
      | (with_reducible exact impl_OddsOk.mono _ _)
      | (with_reducible exact impl_SoldOutWeight.mono _ _ _)
      | (with_reducible exact spec_DrawOdds.mono _ _)
      | (with_reducible exact LeO.refl _)
      | (with_reducible exact LeO.none _)
      | (with_reducible refine LeO.ite ?_ ?_)
      | (with_reducible refine LeO.bind ?_ (fun _ => ?_))
      | exact ih0 _ _ _ _ _ _
      | exact ih1 _ _ _ _ _ _
      | exact ih2 _ _ _ _ _ _ _ _
      | exact ih3 _ _ _ _ _ _ _ _
      | exact impl_BestBake.mono _ _ _ _
      | exact impl_GainFor.mono _ _ _ _ _
      | exact impl_IsBetter.mono _ _ _ _ _ _
      | exact impl_OddsOk.mono _ _
      | exact impl_SoldOutWeight.mono _ _ _
      | exact spec_DrawOdds.mono _ _
      | exact LeO.none _
      | refine LeO.ite ?_ ?_
      | refine LeO.bind ?_ (fun _ => ?_)
set_option maxHeartbeats 8000000 in
set_option maxRecDepth 100000 in
theorem laws_FnBakings.calls (k : Nat) (A0 : Option Addr) (c0 : Nat) (l0 : List Int) (r : Bool) (w : World) (hr_ : Aside0 (r = true)) (hr0 : Kd.C (Kd.int .u8) w A0 l0.length l0) (hc0 : l0.length ≤ c0) (h : laws_FnBakings.f k l0 = some r) :
    Calls Try.prog 13 #[.slice A0 l0.length c0] w fun e w' => e = .returned (.bool r) ∧ Below w.heap.size w w' := by
  have HR0 := Aside0.mk hr0
  have HC0 := Aside0.mk hc0
  clear hr0 hc0
  have HB := Aside0.mk (Below.refl w.heap.size w)
  have H : ((laws_big.f l0).bind fun t167 => (if t167 = true then (some true) else ((spec_DrawOdds.f k l0).bind fun t168 => ((laws_at.f l0 0).bind fun t171 => ((laws_at.f l0 1).bind fun t172 => (if (wrap64 ((wrap64 (1 + (Int.tmod t171 20))) + 1)) = 0 then (none) else ((impl_BestBake.f k t168 (wrap64 (1 + (Int.tmod t171 20))) (Int.tmod t172 (wrap64 ((wrap64 (1 + (Int.tmod t171 20))) + 1)))).bind fun t173 => (if t173 < 0 then (laws_FnBakings.j0 k l0 t168 (wrap64 (1 + (Int.tmod t171 20))) (Int.tmod t172 (wrap64 ((wrap64 (1 + (Int.tmod t171 20))) + 1))) t173 true) else (laws_FnBakings.j0 k l0 t168 (wrap64 (1 + (Int.tmod t171 20))) (Int.tmod t172 (wrap64 ((wrap64 (1 + (Int.tmod t171 20))) + 1))) t173 (decide (t173 > 1000))))))))))) = some r := h
  clear h
  replace H := Option.bind_eq_some_iff.mp H
  obtain ⟨t167, A20, H⟩ := H
  replace H : (if t167 = true then (some true) else ((spec_DrawOdds.f k l0).bind fun t168 => ((laws_at.f l0 0).bind fun t171 => ((laws_at.f l0 1).bind fun t172 => (if (wrap64 ((wrap64 (1 + (Int.tmod t171 20))) + 1)) = 0 then (none) else ((impl_BestBake.f k t168 (wrap64 (1 + (Int.tmod t171 20))) (Int.tmod t172 (wrap64 ((wrap64 (1 + (Int.tmod t171 20))) + 1)))).bind fun t173 => (if t173 < 0 then (laws_FnBakings.j0 k l0 t168 (wrap64 (1 + (Int.tmod t171 20))) (Int.tmod t172 (wrap64 ((wrap64 (1 + (Int.tmod t171 20))) + 1))) t173 true) else (laws_FnBakings.j0 k l0 t168 (wrap64 (1 + (Int.tmod t171 20))) (Int.tmod t172 (wrap64 ((wrap64 (1 + (Int.tmod t171 20))) + 1))) t173 (decide (t173 > 1000)))))))))) = some r := H
  have A2 := Aside0.mk A20
  clear A20
  by_cases c3 : t167 = true
  · subst c3
    have H1 : (some true) = some r := by rw [if_pos rfl] at H; exact H
    clear H
    have H := H1
    clear H1
    obtain rfl := Option.some.inj H
    go_enter Try.func13, Try.ntmps13
    go_wp2_with (first | (go_at_call 25; (with_reducible refine (laws_big.calls _ _ l0 true _ ?side1 ?side2 A2.out).mono ?_); (case side1 => repeat (first | exact HR0.out | (with_reducible refine Kd.C_alloc ?_ _) | (with_reducible refine Kd.C_drewN ?_ _) | (with_reducible refine Kd.C_drew ?_))); (case side2 => exact HC0.out); rintro e w' ⟨rfl, ⟨nd, rfl⟩⟩; (try first | exact ⟨rfl, _, World.drewN_drewN _ _ _⟩ | exact ⟨rfl, _, Eq.trans (World.drewN_drewN _ _ _) (congrArg (World.drewN _) (Nat.add_assoc _ _ _))⟩)))
    repeat (go_quiet (first | (go_at_call 25; (with_reducible refine (laws_big.calls _ _ l0 true _ ?side1 ?side2 A2.out).mono ?_); (case side1 => repeat (first | exact HR0.out | (with_reducible refine Kd.C_alloc ?_ _) | (with_reducible refine Kd.C_drewN ?_ _) | (with_reducible refine Kd.C_drew ?_))); (case side2 => exact HC0.out); rintro e w' ⟨rfl, ⟨nd, rfl⟩⟩; (try first | exact ⟨rfl, _, World.drewN_drewN _ _ _⟩ | exact ⟨rfl, _, Eq.trans (World.drewN_drewN _ _ _) (congrArg (World.drewN _) (Nat.add_assoc _ _ _))⟩))); try go_wp2_with (first | (go_at_call 25; (with_reducible refine (laws_big.calls _ _ l0 true _ ?side1 ?side2 A2.out).mono ?_); (case side1 => repeat (first | exact HR0.out | (with_reducible refine Kd.C_alloc ?_ _) | (with_reducible refine Kd.C_drewN ?_ _) | (with_reducible refine Kd.C_drew ?_))); (case side2 => exact HC0.out); rintro e w' ⟨rfl, ⟨nd, rfl⟩⟩; (try first | exact ⟨rfl, _, World.drewN_drewN _ _ _⟩ | exact ⟨rfl, _, Eq.trans (World.drewN_drewN _ _ _) (congrArg (World.drewN _) (Nat.add_assoc _ _ _))⟩))))
    go_ret
    exact ⟨by first | rfl | (simp [errW_none, errW_some] <;> rfl) | (simp [*, errW_none, errW_some] <;> rfl), by repeat (first | (with_reducible first | exact HB.out | apply below_alloc | apply pw_below_drewN | apply below_drew1) | exact HB.out)⟩
  · replace c3 := Bool.eq_false_iff.mpr c3
    subst c3
    have H1 : ((spec_DrawOdds.f k l0).bind fun t168 => ((laws_at.f l0 0).bind fun t171 => ((laws_at.f l0 1).bind fun t172 => (if (wrap64 ((wrap64 (1 + (Int.tmod t171 20))) + 1)) = 0 then (none) else ((impl_BestBake.f k t168 (wrap64 (1 + (Int.tmod t171 20))) (Int.tmod t172 (wrap64 ((wrap64 (1 + (Int.tmod t171 20))) + 1)))).bind fun t173 => (if t173 < 0 then (laws_FnBakings.j0 k l0 t168 (wrap64 (1 + (Int.tmod t171 20))) (Int.tmod t172 (wrap64 ((wrap64 (1 + (Int.tmod t171 20))) + 1))) t173 true) else (laws_FnBakings.j0 k l0 t168 (wrap64 (1 + (Int.tmod t171 20))) (Int.tmod t172 (wrap64 ((wrap64 (1 + (Int.tmod t171 20))) + 1))) t173 (decide (t173 > 1000))))))))) = some r := by rw [if_neg (show ¬ (false = true) by decide)] at H; exact H
    clear H
    have H := H1
    clear H1
    replace H := Option.bind_eq_some_iff.mp H
    obtain ⟨t168, A40, H⟩ := H
    replace H : ((laws_at.f l0 0).bind fun t171 => ((laws_at.f l0 1).bind fun t172 => (if (wrap64 ((wrap64 (1 + (Int.tmod t171 20))) + 1)) = 0 then (none) else ((impl_BestBake.f k t168 (wrap64 (1 + (Int.tmod t171 20))) (Int.tmod t172 (wrap64 ((wrap64 (1 + (Int.tmod t171 20))) + 1)))).bind fun t173 => (if t173 < 0 then (laws_FnBakings.j0 k l0 t168 (wrap64 (1 + (Int.tmod t171 20))) (Int.tmod t172 (wrap64 ((wrap64 (1 + (Int.tmod t171 20))) + 1))) t173 true) else (laws_FnBakings.j0 k l0 t168 (wrap64 (1 + (Int.tmod t171 20))) (Int.tmod t172 (wrap64 ((wrap64 (1 + (Int.tmod t171 20))) + 1))) t173 (decide (t173 > 1000)))))))) = some r := H
    have A4 := Aside0.mk A40
    clear A40
    replace H := Option.bind_eq_some_iff.mp H
    obtain ⟨t171, A50, H⟩ := H
    replace H : ((laws_at.f l0 1).bind fun t172 => (if (wrap64 ((wrap64 (1 + (Int.tmod t171 20))) + 1)) = 0 then (none) else ((impl_BestBake.f k t168 (wrap64 (1 + (Int.tmod t171 20))) (Int.tmod t172 (wrap64 ((wrap64 (1 + (Int.tmod t171 20))) + 1)))).bind fun t173 => (if t173 < 0 then (laws_FnBakings.j0 k l0 t168 (wrap64 (1 + (Int.tmod t171 20))) (Int.tmod t172 (wrap64 ((wrap64 (1 + (Int.tmod t171 20))) + 1))) t173 true) else (laws_FnBakings.j0 k l0 t168 (wrap64 (1 + (Int.tmod t171 20))) (Int.tmod t172 (wrap64 ((wrap64 (1 + (Int.tmod t171 20))) + 1))) t173 (decide (t173 > 1000))))))) = some r := H
    have A5 := Aside0.mk A50
    clear A50
    replace H := Option.bind_eq_some_iff.mp H
    obtain ⟨t172, A60, H⟩ := H
    replace H : (if (wrap64 ((wrap64 (1 + (Int.tmod t171 20))) + 1)) = 0 then (none) else ((impl_BestBake.f k t168 (wrap64 (1 + (Int.tmod t171 20))) (Int.tmod t172 (wrap64 ((wrap64 (1 + (Int.tmod t171 20))) + 1)))).bind fun t173 => (if t173 < 0 then (laws_FnBakings.j0 k l0 t168 (wrap64 (1 + (Int.tmod t171 20))) (Int.tmod t172 (wrap64 ((wrap64 (1 + (Int.tmod t171 20))) + 1))) t173 true) else (laws_FnBakings.j0 k l0 t168 (wrap64 (1 + (Int.tmod t171 20))) (Int.tmod t172 (wrap64 ((wrap64 (1 + (Int.tmod t171 20))) + 1))) t173 (decide (t173 > 1000)))))) = some r := H
    have A6 := Aside0.mk A60
    clear A60
    by_cases c7 : (wrap64 ((wrap64 (1 + (Int.tmod t171 20))) + 1)) = 0
    · rw [if_pos c7] at H
      exact absurd H (by simp)
    · rw [if_neg c7] at H
      have c7b0 : ((wrap64 ((wrap64 (1 + (Int.tmod t171 20))) + 1)) == 0) = false := beq_eq_false_iff_ne.mpr c7
      have c7b1 : ((wrap64 ((wrap64 (1 + (Int.tmod t171 20))) + 1)) != 0) = true := bne_iff_ne.mpr c7
      replace H := Option.bind_eq_some_iff.mp H
      obtain ⟨t173, A80, H⟩ := H
      replace H : (if t173 < 0 then (laws_FnBakings.j0 k l0 t168 (wrap64 (1 + (Int.tmod t171 20))) (Int.tmod t172 (wrap64 ((wrap64 (1 + (Int.tmod t171 20))) + 1))) t173 true) else (laws_FnBakings.j0 k l0 t168 (wrap64 (1 + (Int.tmod t171 20))) (Int.tmod t172 (wrap64 ((wrap64 (1 + (Int.tmod t171 20))) + 1))) t173 (decide (t173 > 1000)))) = some r := H
      have A8 := Aside0.mk A80
      clear A80
      have HC9 := Aside0.mk H
      clear H
      go_enter Try.func13, Try.ntmps13
      go_upto_region 7 with (first | (go_at_call 25; (with_reducible refine (laws_big.calls _ _ l0 false _ ?side1 ?side2 A2.out).mono ?_); (case side1 => repeat (first | exact HR0.out | (with_reducible refine Kd.C_alloc ?_ _) | (with_reducible refine Kd.C_drewN ?_ _) | (with_reducible refine Kd.C_drew ?_))); (case side2 => exact HC0.out); rintro e w' ⟨rfl, ⟨nd, rfl⟩⟩; (try first | exact ⟨rfl, _, World.drewN_drewN _ _ _⟩ | exact ⟨rfl, _, Eq.trans (World.drewN_drewN _ _ _) (congrArg (World.drewN _) (Nat.add_assoc _ _ _))⟩)) | (go_at_call 48; (with_reducible refine (spec_DrawOdds.calls k _ _ l0 t168 _ ?side1 ?side2 A4.out).mono ?_); (case side1 => repeat (first | exact HR0.out | (with_reducible refine Kd.C_alloc ?_ _) | (with_reducible refine Kd.C_drewN ?_ _) | (with_reducible refine Kd.C_drew ?_))); (case side2 => exact HC0.out); rintro e w10 ⟨v169, rfl, ho0, hb⟩; have n0_ := Aside0.mk (Kd.R_lower ho0 (below_size (by repeat (first | (with_reducible first | exact HB.out | apply below_alloc | apply pw_below_drewN | apply below_drew1) | exact HB.out)))); have n1_ := Aside0.mk (below_step (by repeat (first | (with_reducible first | exact HB.out | apply below_alloc | apply pw_below_drewN | apply below_drew1) | exact HB.out)) hb); clear HB; have HO170 := n0_; have HB := n1_; clear n0_ n1_; (try clear hb); (try clear hb2); (try clear hk); (try clear hi); (try clear ho0)) | (go_at_call 27; (with_reducible refine (laws_at.calls _ _ l0 0 t171 _ ?side1 ?side2 A5.out).mono ?_); (case side1 => repeat (first | exact (Kd.C_below HR0.out HB.out) | (with_reducible refine Kd.C_alloc ?_ _) | (with_reducible refine Kd.C_drewN ?_ _) | (with_reducible refine Kd.C_drew ?_))); (case side2 => exact HC0.out); rintro e w' ⟨rfl, ⟨nd, rfl⟩⟩; (try first | exact ⟨rfl, _, World.drewN_drewN _ _ _⟩ | exact ⟨rfl, _, Eq.trans (World.drewN_drewN _ _ _) (congrArg (World.drewN _) (Nat.add_assoc _ _ _))⟩)) | (go_at_call 27; (with_reducible refine (laws_at.calls _ _ l0 1 t172 _ ?side1 ?side2 A6.out).mono ?_); (case side1 => repeat (first | exact (Kd.C_below HR0.out (by repeat (first | (with_reducible first | exact HB.out | apply below_alloc | apply pw_below_drewN | apply below_drew1) | exact HB.out))) | (with_reducible refine Kd.C_alloc ?_ _) | (with_reducible refine Kd.C_drewN ?_ _) | (with_reducible refine Kd.C_drew ?_))); (case side2 => exact HC0.out); rintro e w' ⟨rfl, ⟨nd, rfl⟩⟩; (try first | exact ⟨rfl, _, World.drewN_drewN _ _ _⟩ | exact ⟨rfl, _, Eq.trans (World.drewN_drewN _ _ _) (congrArg (World.drewN _) (Nat.add_assoc _ _ _))⟩); obtain ⟨Ao11, co11, eo11⟩ := Kd.R_slice HO170.out; subst eo11) | (go_at_call 47; (with_reducible refine (impl_BestBake.calls k _ _ t168 (wrap64 (1 + (Int.tmod t171 20))) (Int.tmod t172 (wrap64 ((wrap64 (1 + (Int.tmod t171 20))) + 1))) t173 _ ?side1 ?side2 A8.out).mono ?_); (case side1 => repeat (first | exact (Kd.R_reads' HO170.out).2.2 | (with_reducible refine Kd.C_alloc ?_ _) | (with_reducible refine Kd.C_drewN ?_ _) | (with_reducible refine Kd.C_drew ?_))); (case side2 => exact (Kd.R_reads' HO170.out).2.1); rintro e w12 ⟨rfl, hb⟩; have n0_ := Aside0.mk (Kd.R_below (by (with_reducible repeat (first | apply Kd.R_alloc | apply Kd.R_drewN | apply Kd.R_drew)); exact HO170.out) hb); have n1_ := Aside0.mk (below_step (by repeat (first | (with_reducible first | exact HB.out | apply below_alloc | apply pw_below_drewN | apply below_drew1) | exact HB.out)) hb); clear HO170; clear HB; have HO170 := n0_; have HB := n1_; clear n0_ n1_; (try clear hb); (try clear hb2); (try clear hk); (try clear hi)))
      repeat (go_quiet (first | (go_at_call 25; (with_reducible refine (laws_big.calls _ _ l0 false _ ?side1 ?side2 A2.out).mono ?_); (case side1 => repeat (first | exact HR0.out | (with_reducible refine Kd.C_alloc ?_ _) | (with_reducible refine Kd.C_drewN ?_ _) | (with_reducible refine Kd.C_drew ?_))); (case side2 => exact HC0.out); rintro e w' ⟨rfl, ⟨nd, rfl⟩⟩; (try first | exact ⟨rfl, _, World.drewN_drewN _ _ _⟩ | exact ⟨rfl, _, Eq.trans (World.drewN_drewN _ _ _) (congrArg (World.drewN _) (Nat.add_assoc _ _ _))⟩)) | (go_at_call 48; (with_reducible refine (spec_DrawOdds.calls k _ _ l0 t168 _ ?side1 ?side2 A4.out).mono ?_); (case side1 => repeat (first | exact HR0.out | (with_reducible refine Kd.C_alloc ?_ _) | (with_reducible refine Kd.C_drewN ?_ _) | (with_reducible refine Kd.C_drew ?_))); (case side2 => exact HC0.out); rintro e w10 ⟨v169, rfl, ho0, hb⟩; have n0_ := Aside0.mk (Kd.R_lower ho0 (below_size (by repeat (first | (with_reducible first | exact HB.out | apply below_alloc | apply pw_below_drewN | apply below_drew1) | exact HB.out)))); have n1_ := Aside0.mk (below_step (by repeat (first | (with_reducible first | exact HB.out | apply below_alloc | apply pw_below_drewN | apply below_drew1) | exact HB.out)) hb); clear HB; have HO170 := n0_; have HB := n1_; clear n0_ n1_; (try clear hb); (try clear hb2); (try clear hk); (try clear hi); (try clear ho0)) | (go_at_call 27; (with_reducible refine (laws_at.calls _ _ l0 0 t171 _ ?side1 ?side2 A5.out).mono ?_); (case side1 => repeat (first | exact (Kd.C_below HR0.out HB.out) | (with_reducible refine Kd.C_alloc ?_ _) | (with_reducible refine Kd.C_drewN ?_ _) | (with_reducible refine Kd.C_drew ?_))); (case side2 => exact HC0.out); rintro e w' ⟨rfl, ⟨nd, rfl⟩⟩; (try first | exact ⟨rfl, _, World.drewN_drewN _ _ _⟩ | exact ⟨rfl, _, Eq.trans (World.drewN_drewN _ _ _) (congrArg (World.drewN _) (Nat.add_assoc _ _ _))⟩)) | (go_at_call 27; (with_reducible refine (laws_at.calls _ _ l0 1 t172 _ ?side1 ?side2 A6.out).mono ?_); (case side1 => repeat (first | exact (Kd.C_below HR0.out (by repeat (first | (with_reducible first | exact HB.out | apply below_alloc | apply pw_below_drewN | apply below_drew1) | exact HB.out))) | (with_reducible refine Kd.C_alloc ?_ _) | (with_reducible refine Kd.C_drewN ?_ _) | (with_reducible refine Kd.C_drew ?_))); (case side2 => exact HC0.out); rintro e w' ⟨rfl, ⟨nd, rfl⟩⟩; (try first | exact ⟨rfl, _, World.drewN_drewN _ _ _⟩ | exact ⟨rfl, _, Eq.trans (World.drewN_drewN _ _ _) (congrArg (World.drewN _) (Nat.add_assoc _ _ _))⟩); obtain ⟨Ao11, co11, eo11⟩ := Kd.R_slice HO170.out; subst eo11) | (go_at_call 47; (with_reducible refine (impl_BestBake.calls k _ _ t168 (wrap64 (1 + (Int.tmod t171 20))) (Int.tmod t172 (wrap64 ((wrap64 (1 + (Int.tmod t171 20))) + 1))) t173 _ ?side1 ?side2 A8.out).mono ?_); (case side1 => repeat (first | exact (Kd.R_reads' HO170.out).2.2 | (with_reducible refine Kd.C_alloc ?_ _) | (with_reducible refine Kd.C_drewN ?_ _) | (with_reducible refine Kd.C_drew ?_))); (case side2 => exact (Kd.R_reads' HO170.out).2.1); rintro e w12 ⟨rfl, hb⟩; have n0_ := Aside0.mk (Kd.R_below (by (with_reducible repeat (first | apply Kd.R_alloc | apply Kd.R_drewN | apply Kd.R_drew)); exact HO170.out) hb); have n1_ := Aside0.mk (below_step (by repeat (first | (with_reducible first | exact HB.out | apply below_alloc | apply pw_below_drewN | apply below_drew1) | exact HB.out)) hb); clear HO170; clear HB; have HO170 := n0_; have HB := n1_; clear n0_ n1_; (try clear hb); (try clear hb2); (try clear hk); (try clear hi))); go_upto_region 7 with (first | (go_at_call 25; (with_reducible refine (laws_big.calls _ _ l0 false _ ?side1 ?side2 A2.out).mono ?_); (case side1 => repeat (first | exact HR0.out | (with_reducible refine Kd.C_alloc ?_ _) | (with_reducible refine Kd.C_drewN ?_ _) | (with_reducible refine Kd.C_drew ?_))); (case side2 => exact HC0.out); rintro e w' ⟨rfl, ⟨nd, rfl⟩⟩; (try first | exact ⟨rfl, _, World.drewN_drewN _ _ _⟩ | exact ⟨rfl, _, Eq.trans (World.drewN_drewN _ _ _) (congrArg (World.drewN _) (Nat.add_assoc _ _ _))⟩)) | (go_at_call 48; (with_reducible refine (spec_DrawOdds.calls k _ _ l0 t168 _ ?side1 ?side2 A4.out).mono ?_); (case side1 => repeat (first | exact HR0.out | (with_reducible refine Kd.C_alloc ?_ _) | (with_reducible refine Kd.C_drewN ?_ _) | (with_reducible refine Kd.C_drew ?_))); (case side2 => exact HC0.out); rintro e w10 ⟨v169, rfl, ho0, hb⟩; have n0_ := Aside0.mk (Kd.R_lower ho0 (below_size (by repeat (first | (with_reducible first | exact HB.out | apply below_alloc | apply pw_below_drewN | apply below_drew1) | exact HB.out)))); have n1_ := Aside0.mk (below_step (by repeat (first | (with_reducible first | exact HB.out | apply below_alloc | apply pw_below_drewN | apply below_drew1) | exact HB.out)) hb); clear HB; have HO170 := n0_; have HB := n1_; clear n0_ n1_; (try clear hb); (try clear hb2); (try clear hk); (try clear hi); (try clear ho0)) | (go_at_call 27; (with_reducible refine (laws_at.calls _ _ l0 0 t171 _ ?side1 ?side2 A5.out).mono ?_); (case side1 => repeat (first | exact (Kd.C_below HR0.out HB.out) | (with_reducible refine Kd.C_alloc ?_ _) | (with_reducible refine Kd.C_drewN ?_ _) | (with_reducible refine Kd.C_drew ?_))); (case side2 => exact HC0.out); rintro e w' ⟨rfl, ⟨nd, rfl⟩⟩; (try first | exact ⟨rfl, _, World.drewN_drewN _ _ _⟩ | exact ⟨rfl, _, Eq.trans (World.drewN_drewN _ _ _) (congrArg (World.drewN _) (Nat.add_assoc _ _ _))⟩)) | (go_at_call 27; (with_reducible refine (laws_at.calls _ _ l0 1 t172 _ ?side1 ?side2 A6.out).mono ?_); (case side1 => repeat (first | exact (Kd.C_below HR0.out (by repeat (first | (with_reducible first | exact HB.out | apply below_alloc | apply pw_below_drewN | apply below_drew1) | exact HB.out))) | (with_reducible refine Kd.C_alloc ?_ _) | (with_reducible refine Kd.C_drewN ?_ _) | (with_reducible refine Kd.C_drew ?_))); (case side2 => exact HC0.out); rintro e w' ⟨rfl, ⟨nd, rfl⟩⟩; (try first | exact ⟨rfl, _, World.drewN_drewN _ _ _⟩ | exact ⟨rfl, _, Eq.trans (World.drewN_drewN _ _ _) (congrArg (World.drewN _) (Nat.add_assoc _ _ _))⟩); obtain ⟨Ao11, co11, eo11⟩ := Kd.R_slice HO170.out; subst eo11) | (go_at_call 47; (with_reducible refine (impl_BestBake.calls k _ _ t168 (wrap64 (1 + (Int.tmod t171 20))) (Int.tmod t172 (wrap64 ((wrap64 (1 + (Int.tmod t171 20))) + 1))) t173 _ ?side1 ?side2 A8.out).mono ?_); (case side1 => repeat (first | exact (Kd.R_reads' HO170.out).2.2 | (with_reducible refine Kd.C_alloc ?_ _) | (with_reducible refine Kd.C_drewN ?_ _) | (with_reducible refine Kd.C_drew ?_))); (case side2 => exact (Kd.R_reads' HO170.out).2.1); rintro e w12 ⟨rfl, hb⟩; have n0_ := Aside0.mk (Kd.R_below (by (with_reducible repeat (first | apply Kd.R_alloc | apply Kd.R_drewN | apply Kd.R_drew)); exact HO170.out) hb); have n1_ := Aside0.mk (below_step (by repeat (first | (with_reducible first | exact HB.out | apply below_alloc | apply pw_below_drewN | apply below_drew1) | exact HB.out)) hb); clear HO170; clear HB; have HO170 := n0_; have HB := n1_; clear n0_ n1_; (try clear hb); (try clear hb2); (try clear hk); (try clear hi))))
      (try simp only [Act.put, List.setIfInBounds_toArray, List.set_cons_zero, List.set_cons_succ])
      go_cut [35] (fun v35 wc => ∃ (kq : Nat) (x35_8 : Bool), v35 = .bool x35_8 ∧ Aside0 (laws_FnBakings.j0 kq l0 t168 (wrap64 (1 + (Int.tmod t171 20))) (Int.tmod t172 (wrap64 ((wrap64 (1 + (Int.tmod t171 20))) + 1))) t173 x35_8 = some r) ∧ Aside0 (kq ≤ k) ∧ Aside0 (Kd.R k54 54 wc w.heap.size (fun _ => True) (.slice Ao11 t168.length co11) t168) ∧ Aside0 (Below w.heap.size w wc))
      case first =>
        have H := HC9.out
        clear HC9
        by_cases c13 : t173 < 0
        · rw [if_pos c13] at H
          have c13b0 : decide (t173 < 0) = true := decide_eq_true c13
          clear c13
          (first | rw [c13b0] | (simp only [i64_w, i32_w]; rw [c13b0]) | skip)
          have H' := Aside0.mk H
          first | exact (laws_FnBakings.j0_no H'.out hr_.out).elim | exact (laws_FnBakings.j1_no H'.out hr_.out).elim | exact (laws_FnBakings.j3_no H'.out hr_.out).elim
        · rw [if_neg c13] at H
          have c13b0 : decide (t173 < 0) = false := decide_eq_false c13
          clear c13
          (first | rw [c13b0] | (simp only [i64_w, i32_w]; rw [c13b0]) | skip)
          have H' := Aside0.mk H
          clear H
          go_wp2
          repeat (go_quiet (fail); try go_wp2)
          go_meet
          case rel => exact ⟨_, (decide (t173 > 1000)), (by first | rfl | (simp; done) | (simp [*]; done)), H', ⟨by first | omega | exact Nat.le_refl _⟩, ⟨by (with_reducible repeat (first | apply Kd.R_alloc | apply Kd.R_drewN | apply Kd.R_drew)); exact HO170.out⟩, ⟨by repeat (first | (with_reducible first | exact HB.out | apply below_alloc | apply pw_below_drewN | apply below_drew1) | exact HB.out)⟩⟩
      case rest =>
        clear HC9
        try clear c1
        try clear p2
        try clear c3
        try clear p6
        try clear c7
        try clear c7b0
        try clear c7b1
        try clear c13
        try clear c13b0
        obtain ⟨kq, x35_8, rfl, HA, HJ8, HO_3, HB⟩ := hcut
        cases kq with
        | zero => exact absurd HA.out (by simp [laws_FnBakings.j0])
        | succ kj8 =>
          have H := HA.out
          clear HA
          simp only [laws_FnBakings.j0] at H
          by_cases c14 : x35_8 = true
          · subst c14
            have H1 : (some false) = some r := by rw [if_pos rfl] at H; exact H
            clear H
            have H := H1
            clear H1
            exact absurd (Option.some.inj H) (by rw [hr_.out]; decide)
          · replace c14 := Bool.eq_false_iff.mpr c14
            subst c14
            have H1 : ((laws_at.f l0 2).bind fun t174 => ((impl_GainFor.f kj8 t168 t173 (wrap64 (1 + (Int.tmod t171 20))) (Int.tmod t172 (wrap64 ((wrap64 (1 + (Int.tmod t171 20))) + 1)))).bind fun t175 => ((impl_GainFor.f kj8 t168 t174 (wrap64 (1 + (Int.tmod t171 20))) (Int.tmod t172 (wrap64 ((wrap64 (1 + (Int.tmod t171 20))) + 1)))).bind fun t176 => (if t176 > t175 then (laws_FnBakings.j1 kj8 t168 (wrap64 (1 + (Int.tmod t171 20))) (Int.tmod t172 (wrap64 ((wrap64 (1 + (Int.tmod t171 20))) + 1))) t173 t174 true) else ((impl_IsBetter.f kj8 t168 t174 t173 (wrap64 (1 + (Int.tmod t171 20))) (Int.tmod t172 (wrap64 ((wrap64 (1 + (Int.tmod t171 20))) + 1)))).bind fun t177 => (if t177 = true then (laws_FnBakings.j1 kj8 t168 (wrap64 (1 + (Int.tmod t171 20))) (Int.tmod t172 (wrap64 ((wrap64 (1 + (Int.tmod t171 20))) + 1))) t173 t174 true) else (if t173 > 0 then ((impl_GainFor.f kj8 t168 (wrap64 (t173 - 1)) (wrap64 (1 + (Int.tmod t171 20))) (Int.tmod t172 (wrap64 ((wrap64 (1 + (Int.tmod t171 20))) + 1)))).bind fun t178 => (if t178 ≥ t175 then (laws_FnBakings.j1 kj8 t168 (wrap64 (1 + (Int.tmod t171 20))) (Int.tmod t172 (wrap64 ((wrap64 (1 + (Int.tmod t171 20))) + 1))) t173 t174 true) else ((impl_GainFor.f kj8 t168 (wrap64 (t173 + 1)) (wrap64 (1 + (Int.tmod t171 20))) (Int.tmod t172 (wrap64 ((wrap64 (1 + (Int.tmod t171 20))) + 1)))).bind fun t179 => (laws_FnBakings.j1 kj8 t168 (wrap64 (1 + (Int.tmod t171 20))) (Int.tmod t172 (wrap64 ((wrap64 (1 + (Int.tmod t171 20))) + 1))) t173 t174 (decide (t179 > t175)))))) else ((impl_GainFor.f kj8 t168 (wrap64 (t173 + 1)) (wrap64 (1 + (Int.tmod t171 20))) (Int.tmod t172 (wrap64 ((wrap64 (1 + (Int.tmod t171 20))) + 1)))).bind fun t180 => (laws_FnBakings.j1 kj8 t168 (wrap64 (1 + (Int.tmod t171 20))) (Int.tmod t172 (wrap64 ((wrap64 (1 + (Int.tmod t171 20))) + 1))) t173 t174 (decide (t180 > t175))))))))))) = some r := by rw [if_neg (show ¬ (false = true) by decide)] at H; exact H
            clear H
            have H := H1
            clear H1
            replace H := Option.bind_eq_some_iff.mp H
            obtain ⟨t174, A150, H⟩ := H
            replace H : ((impl_GainFor.f kj8 t168 t173 (wrap64 (1 + (Int.tmod t171 20))) (Int.tmod t172 (wrap64 ((wrap64 (1 + (Int.tmod t171 20))) + 1)))).bind fun t175 => ((impl_GainFor.f kj8 t168 t174 (wrap64 (1 + (Int.tmod t171 20))) (Int.tmod t172 (wrap64 ((wrap64 (1 + (Int.tmod t171 20))) + 1)))).bind fun t176 => (if t176 > t175 then (laws_FnBakings.j1 kj8 t168 (wrap64 (1 + (Int.tmod t171 20))) (Int.tmod t172 (wrap64 ((wrap64 (1 + (Int.tmod t171 20))) + 1))) t173 t174 true) else ((impl_IsBetter.f kj8 t168 t174 t173 (wrap64 (1 + (Int.tmod t171 20))) (Int.tmod t172 (wrap64 ((wrap64 (1 + (Int.tmod t171 20))) + 1)))).bind fun t177 => (if t177 = true then (laws_FnBakings.j1 kj8 t168 (wrap64 (1 + (Int.tmod t171 20))) (Int.tmod t172 (wrap64 ((wrap64 (1 + (Int.tmod t171 20))) + 1))) t173 t174 true) else (if t173 > 0 then ((impl_GainFor.f kj8 t168 (wrap64 (t173 - 1)) (wrap64 (1 + (Int.tmod t171 20))) (Int.tmod t172 (wrap64 ((wrap64 (1 + (Int.tmod t171 20))) + 1)))).bind fun t178 => (if t178 ≥ t175 then (laws_FnBakings.j1 kj8 t168 (wrap64 (1 + (Int.tmod t171 20))) (Int.tmod t172 (wrap64 ((wrap64 (1 + (Int.tmod t171 20))) + 1))) t173 t174 true) else ((impl_GainFor.f kj8 t168 (wrap64 (t173 + 1)) (wrap64 (1 + (Int.tmod t171 20))) (Int.tmod t172 (wrap64 ((wrap64 (1 + (Int.tmod t171 20))) + 1)))).bind fun t179 => (laws_FnBakings.j1 kj8 t168 (wrap64 (1 + (Int.tmod t171 20))) (Int.tmod t172 (wrap64 ((wrap64 (1 + (Int.tmod t171 20))) + 1))) t173 t174 (decide (t179 > t175)))))) else ((impl_GainFor.f kj8 t168 (wrap64 (t173 + 1)) (wrap64 (1 + (Int.tmod t171 20))) (Int.tmod t172 (wrap64 ((wrap64 (1 + (Int.tmod t171 20))) + 1)))).bind fun t180 => (laws_FnBakings.j1 kj8 t168 (wrap64 (1 + (Int.tmod t171 20))) (Int.tmod t172 (wrap64 ((wrap64 (1 + (Int.tmod t171 20))) + 1))) t173 t174 (decide (t180 > t175)))))))))) = some r := H
            have A15 := Aside0.mk A150
            clear A150
            replace H := Option.bind_eq_some_iff.mp H
            obtain ⟨t175, A160, H⟩ := H
            replace H : ((impl_GainFor.f kj8 t168 t174 (wrap64 (1 + (Int.tmod t171 20))) (Int.tmod t172 (wrap64 ((wrap64 (1 + (Int.tmod t171 20))) + 1)))).bind fun t176 => (if t176 > t175 then (laws_FnBakings.j1 kj8 t168 (wrap64 (1 + (Int.tmod t171 20))) (Int.tmod t172 (wrap64 ((wrap64 (1 + (Int.tmod t171 20))) + 1))) t173 t174 true) else ((impl_IsBetter.f kj8 t168 t174 t173 (wrap64 (1 + (Int.tmod t171 20))) (Int.tmod t172 (wrap64 ((wrap64 (1 + (Int.tmod t171 20))) + 1)))).bind fun t177 => (if t177 = true then (laws_FnBakings.j1 kj8 t168 (wrap64 (1 + (Int.tmod t171 20))) (Int.tmod t172 (wrap64 ((wrap64 (1 + (Int.tmod t171 20))) + 1))) t173 t174 true) else (if t173 > 0 then ((impl_GainFor.f kj8 t168 (wrap64 (t173 - 1)) (wrap64 (1 + (Int.tmod t171 20))) (Int.tmod t172 (wrap64 ((wrap64 (1 + (Int.tmod t171 20))) + 1)))).bind fun t178 => (if t178 ≥ t175 then (laws_FnBakings.j1 kj8 t168 (wrap64 (1 + (Int.tmod t171 20))) (Int.tmod t172 (wrap64 ((wrap64 (1 + (Int.tmod t171 20))) + 1))) t173 t174 true) else ((impl_GainFor.f kj8 t168 (wrap64 (t173 + 1)) (wrap64 (1 + (Int.tmod t171 20))) (Int.tmod t172 (wrap64 ((wrap64 (1 + (Int.tmod t171 20))) + 1)))).bind fun t179 => (laws_FnBakings.j1 kj8 t168 (wrap64 (1 + (Int.tmod t171 20))) (Int.tmod t172 (wrap64 ((wrap64 (1 + (Int.tmod t171 20))) + 1))) t173 t174 (decide (t179 > t175)))))) else ((impl_GainFor.f kj8 t168 (wrap64 (t173 + 1)) (wrap64 (1 + (Int.tmod t171 20))) (Int.tmod t172 (wrap64 ((wrap64 (1 + (Int.tmod t171 20))) + 1)))).bind fun t180 => (laws_FnBakings.j1 kj8 t168 (wrap64 (1 + (Int.tmod t171 20))) (Int.tmod t172 (wrap64 ((wrap64 (1 + (Int.tmod t171 20))) + 1))) t173 t174 (decide (t180 > t175))))))))) = some r := H
            have A16 := Aside0.mk A160
            clear A160
            have HC17 := Aside0.mk H
            clear H
            go_upto_region 11 with (first | (go_at_call 27; (with_reducible refine (laws_at.calls _ _ l0 2 t174 _ ?side1 ?side2 A15.out).mono ?_); (case side1 => repeat (first | exact (Kd.C_below HR0.out HB.out) | (with_reducible refine Kd.C_alloc ?_ _) | (with_reducible refine Kd.C_drewN ?_ _) | (with_reducible refine Kd.C_drew ?_))); (case side2 => exact HC0.out); rintro e w' ⟨rfl, ⟨nd, rfl⟩⟩; (try first | exact ⟨rfl, _, World.drewN_drewN _ _ _⟩ | exact ⟨rfl, _, Eq.trans (World.drewN_drewN _ _ _) (congrArg (World.drewN _) (Nat.add_assoc _ _ _))⟩)) | (go_at_call 40; (with_reducible refine (impl_GainFor.calls kj8 _ _ t168 t173 (wrap64 (1 + (Int.tmod t171 20))) (Int.tmod t172 (wrap64 ((wrap64 (1 + (Int.tmod t171 20))) + 1))) t175 _ ?side1 ?side2 A16.out).mono ?_); (case side1 => repeat (first | exact (Kd.R_reads' HO_3.out).2.2 | (with_reducible refine Kd.C_alloc ?_ _) | (with_reducible refine Kd.C_drewN ?_ _) | (with_reducible refine Kd.C_drew ?_))); (case side2 => exact (Kd.R_reads' HO_3.out).2.1); rintro e w18 ⟨rfl, hb⟩; have n0_ := Aside0.mk (Kd.R_below (by (with_reducible repeat (first | apply Kd.R_alloc | apply Kd.R_drewN | apply Kd.R_drew)); exact HO_3.out) hb); have n1_ := Aside0.mk (below_step (by repeat (first | (with_reducible first | exact HB.out | apply below_alloc | apply pw_below_drewN | apply below_drew1) | exact HB.out)) hb); clear HO_3; clear HB; have HO_3 := n0_; have HB := n1_; clear n0_ n1_; (try clear hb); (try clear hb2); (try clear hk); (try clear hi)))
            repeat (go_quiet (first | (go_at_call 27; (with_reducible refine (laws_at.calls _ _ l0 2 t174 _ ?side1 ?side2 A15.out).mono ?_); (case side1 => repeat (first | exact (Kd.C_below HR0.out HB.out) | (with_reducible refine Kd.C_alloc ?_ _) | (with_reducible refine Kd.C_drewN ?_ _) | (with_reducible refine Kd.C_drew ?_))); (case side2 => exact HC0.out); rintro e w' ⟨rfl, ⟨nd, rfl⟩⟩; (try first | exact ⟨rfl, _, World.drewN_drewN _ _ _⟩ | exact ⟨rfl, _, Eq.trans (World.drewN_drewN _ _ _) (congrArg (World.drewN _) (Nat.add_assoc _ _ _))⟩)) | (go_at_call 40; (with_reducible refine (impl_GainFor.calls kj8 _ _ t168 t173 (wrap64 (1 + (Int.tmod t171 20))) (Int.tmod t172 (wrap64 ((wrap64 (1 + (Int.tmod t171 20))) + 1))) t175 _ ?side1 ?side2 A16.out).mono ?_); (case side1 => repeat (first | exact (Kd.R_reads' HO_3.out).2.2 | (with_reducible refine Kd.C_alloc ?_ _) | (with_reducible refine Kd.C_drewN ?_ _) | (with_reducible refine Kd.C_drew ?_))); (case side2 => exact (Kd.R_reads' HO_3.out).2.1); rintro e w18 ⟨rfl, hb⟩; have n0_ := Aside0.mk (Kd.R_below (by (with_reducible repeat (first | apply Kd.R_alloc | apply Kd.R_drewN | apply Kd.R_drew)); exact HO_3.out) hb); have n1_ := Aside0.mk (below_step (by repeat (first | (with_reducible first | exact HB.out | apply below_alloc | apply pw_below_drewN | apply below_drew1) | exact HB.out)) hb); clear HO_3; clear HB; have HO_3 := n0_; have HB := n1_; clear n0_ n1_; (try clear hb); (try clear hb2); (try clear hk); (try clear hi))); go_upto_region 11 with (first | (go_at_call 27; (with_reducible refine (laws_at.calls _ _ l0 2 t174 _ ?side1 ?side2 A15.out).mono ?_); (case side1 => repeat (first | exact (Kd.C_below HR0.out HB.out) | (with_reducible refine Kd.C_alloc ?_ _) | (with_reducible refine Kd.C_drewN ?_ _) | (with_reducible refine Kd.C_drew ?_))); (case side2 => exact HC0.out); rintro e w' ⟨rfl, ⟨nd, rfl⟩⟩; (try first | exact ⟨rfl, _, World.drewN_drewN _ _ _⟩ | exact ⟨rfl, _, Eq.trans (World.drewN_drewN _ _ _) (congrArg (World.drewN _) (Nat.add_assoc _ _ _))⟩)) | (go_at_call 40; (with_reducible refine (impl_GainFor.calls kj8 _ _ t168 t173 (wrap64 (1 + (Int.tmod t171 20))) (Int.tmod t172 (wrap64 ((wrap64 (1 + (Int.tmod t171 20))) + 1))) t175 _ ?side1 ?side2 A16.out).mono ?_); (case side1 => repeat (first | exact (Kd.R_reads' HO_3.out).2.2 | (with_reducible refine Kd.C_alloc ?_ _) | (with_reducible refine Kd.C_drewN ?_ _) | (with_reducible refine Kd.C_drew ?_))); (case side2 => exact (Kd.R_reads' HO_3.out).2.1); rintro e w18 ⟨rfl, hb⟩; have n0_ := Aside0.mk (Kd.R_below (by (with_reducible repeat (first | apply Kd.R_alloc | apply Kd.R_drewN | apply Kd.R_drew)); exact HO_3.out) hb); have n1_ := Aside0.mk (below_step (by repeat (first | (with_reducible first | exact HB.out | apply below_alloc | apply pw_below_drewN | apply below_drew1) | exact HB.out)) hb); clear HO_3; clear HB; have HO_3 := n0_; have HB := n1_; clear n0_ n1_; (try clear hb); (try clear hb2); (try clear hk); (try clear hi))))
            (try simp only [Act.put, List.setIfInBounds_toArray, List.set_cons_zero, List.set_cons_succ])
            go_cut [81] (fun v81 wc => ∃ (kq : Nat) (x81_16 : Bool), v81 = .bool x81_16 ∧ Aside0 (laws_FnBakings.j1 kq t168 (wrap64 (1 + (Int.tmod t171 20))) (Int.tmod t172 (wrap64 ((wrap64 (1 + (Int.tmod t171 20))) + 1))) t173 t174 x81_16 = some r) ∧ Aside0 (kq ≤ kj8) ∧ Aside0 (Kd.R k54 54 wc w.heap.size (fun _ => True) (.slice Ao11 t168.length co11) t168) ∧ Aside0 (Below w.heap.size w wc))
            case first =>
              have H := HC17.out
              clear HC17
              replace H := Option.bind_eq_some_iff.mp H
              obtain ⟨t176, A190, H⟩ := H
              replace H : (if t176 > t175 then (laws_FnBakings.j1 kj8 t168 (wrap64 (1 + (Int.tmod t171 20))) (Int.tmod t172 (wrap64 ((wrap64 (1 + (Int.tmod t171 20))) + 1))) t173 t174 true) else ((impl_IsBetter.f kj8 t168 t174 t173 (wrap64 (1 + (Int.tmod t171 20))) (Int.tmod t172 (wrap64 ((wrap64 (1 + (Int.tmod t171 20))) + 1)))).bind fun t177 => (if t177 = true then (laws_FnBakings.j1 kj8 t168 (wrap64 (1 + (Int.tmod t171 20))) (Int.tmod t172 (wrap64 ((wrap64 (1 + (Int.tmod t171 20))) + 1))) t173 t174 true) else (if t173 > 0 then ((impl_GainFor.f kj8 t168 (wrap64 (t173 - 1)) (wrap64 (1 + (Int.tmod t171 20))) (Int.tmod t172 (wrap64 ((wrap64 (1 + (Int.tmod t171 20))) + 1)))).bind fun t178 => (if t178 ≥ t175 then (laws_FnBakings.j1 kj8 t168 (wrap64 (1 + (Int.tmod t171 20))) (Int.tmod t172 (wrap64 ((wrap64 (1 + (Int.tmod t171 20))) + 1))) t173 t174 true) else ((impl_GainFor.f kj8 t168 (wrap64 (t173 + 1)) (wrap64 (1 + (Int.tmod t171 20))) (Int.tmod t172 (wrap64 ((wrap64 (1 + (Int.tmod t171 20))) + 1)))).bind fun t179 => (laws_FnBakings.j1 kj8 t168 (wrap64 (1 + (Int.tmod t171 20))) (Int.tmod t172 (wrap64 ((wrap64 (1 + (Int.tmod t171 20))) + 1))) t173 t174 (decide (t179 > t175)))))) else ((impl_GainFor.f kj8 t168 (wrap64 (t173 + 1)) (wrap64 (1 + (Int.tmod t171 20))) (Int.tmod t172 (wrap64 ((wrap64 (1 + (Int.tmod t171 20))) + 1)))).bind fun t180 => (laws_FnBakings.j1 kj8 t168 (wrap64 (1 + (Int.tmod t171 20))) (Int.tmod t172 (wrap64 ((wrap64 (1 + (Int.tmod t171 20))) + 1))) t173 t174 (decide (t180 > t175)))))))) = some r := H
              have A19 := Aside0.mk A190
              clear A190
              by_cases c20 : t176 > t175
              · rw [if_pos c20] at H
                have c20b0 : decide (t175 < t176) = true := decide_eq_true c20
                clear c20
                (first | rw [c20b0] | (simp only [i64_w, i32_w]; rw [c20b0]) | skip)
                have H' := Aside0.mk H
                first | exact (laws_FnBakings.j0_no H'.out hr_.out).elim | exact (laws_FnBakings.j1_no H'.out hr_.out).elim | exact (laws_FnBakings.j3_no H'.out hr_.out).elim
              · rw [if_neg c20] at H
                have c20b0 : decide (t175 < t176) = false := decide_eq_false c20
                clear c20
                (first | rw [c20b0] | (simp only [i64_w, i32_w]; rw [c20b0]) | skip)
                replace H := Option.bind_eq_some_iff.mp H
                obtain ⟨t177, A220, H⟩ := H
                replace H : (if t177 = true then (laws_FnBakings.j1 kj8 t168 (wrap64 (1 + (Int.tmod t171 20))) (Int.tmod t172 (wrap64 ((wrap64 (1 + (Int.tmod t171 20))) + 1))) t173 t174 true) else (if t173 > 0 then ((impl_GainFor.f kj8 t168 (wrap64 (t173 - 1)) (wrap64 (1 + (Int.tmod t171 20))) (Int.tmod t172 (wrap64 ((wrap64 (1 + (Int.tmod t171 20))) + 1)))).bind fun t178 => (if t178 ≥ t175 then (laws_FnBakings.j1 kj8 t168 (wrap64 (1 + (Int.tmod t171 20))) (Int.tmod t172 (wrap64 ((wrap64 (1 + (Int.tmod t171 20))) + 1))) t173 t174 true) else ((impl_GainFor.f kj8 t168 (wrap64 (t173 + 1)) (wrap64 (1 + (Int.tmod t171 20))) (Int.tmod t172 (wrap64 ((wrap64 (1 + (Int.tmod t171 20))) + 1)))).bind fun t179 => (laws_FnBakings.j1 kj8 t168 (wrap64 (1 + (Int.tmod t171 20))) (Int.tmod t172 (wrap64 ((wrap64 (1 + (Int.tmod t171 20))) + 1))) t173 t174 (decide (t179 > t175)))))) else ((impl_GainFor.f kj8 t168 (wrap64 (t173 + 1)) (wrap64 (1 + (Int.tmod t171 20))) (Int.tmod t172 (wrap64 ((wrap64 (1 + (Int.tmod t171 20))) + 1)))).bind fun t180 => (laws_FnBakings.j1 kj8 t168 (wrap64 (1 + (Int.tmod t171 20))) (Int.tmod t172 (wrap64 ((wrap64 (1 + (Int.tmod t171 20))) + 1))) t173 t174 (decide (t180 > t175)))))) = some r := H
                have A22 := Aside0.mk A220
                clear A220
                by_cases c23 : t177 = true
                · subst c23
                  have H1 : (laws_FnBakings.j1 kj8 t168 (wrap64 (1 + (Int.tmod t171 20))) (Int.tmod t172 (wrap64 ((wrap64 (1 + (Int.tmod t171 20))) + 1))) t173 t174 true) = some r := by rw [if_pos rfl] at H; exact H
                  clear H
                  have H := H1
                  clear H1
                  have H' := Aside0.mk H
                  first | exact (laws_FnBakings.j0_no H'.out hr_.out).elim | exact (laws_FnBakings.j1_no H'.out hr_.out).elim | exact (laws_FnBakings.j3_no H'.out hr_.out).elim
                · replace c23 := Bool.eq_false_iff.mpr c23
                  subst c23
                  have H1 : (if t173 > 0 then ((impl_GainFor.f kj8 t168 (wrap64 (t173 - 1)) (wrap64 (1 + (Int.tmod t171 20))) (Int.tmod t172 (wrap64 ((wrap64 (1 + (Int.tmod t171 20))) + 1)))).bind fun t178 => (if t178 ≥ t175 then (laws_FnBakings.j1 kj8 t168 (wrap64 (1 + (Int.tmod t171 20))) (Int.tmod t172 (wrap64 ((wrap64 (1 + (Int.tmod t171 20))) + 1))) t173 t174 true) else ((impl_GainFor.f kj8 t168 (wrap64 (t173 + 1)) (wrap64 (1 + (Int.tmod t171 20))) (Int.tmod t172 (wrap64 ((wrap64 (1 + (Int.tmod t171 20))) + 1)))).bind fun t179 => (laws_FnBakings.j1 kj8 t168 (wrap64 (1 + (Int.tmod t171 20))) (Int.tmod t172 (wrap64 ((wrap64 (1 + (Int.tmod t171 20))) + 1))) t173 t174 (decide (t179 > t175)))))) else ((impl_GainFor.f kj8 t168 (wrap64 (t173 + 1)) (wrap64 (1 + (Int.tmod t171 20))) (Int.tmod t172 (wrap64 ((wrap64 (1 + (Int.tmod t171 20))) + 1)))).bind fun t180 => (laws_FnBakings.j1 kj8 t168 (wrap64 (1 + (Int.tmod t171 20))) (Int.tmod t172 (wrap64 ((wrap64 (1 + (Int.tmod t171 20))) + 1))) t173 t174 (decide (t180 > t175))))) = some r := by rw [if_neg (show ¬ (false = true) by decide)] at H; exact H
                  clear H
                  have H := H1
                  clear H1
                  by_cases c26 : t173 > 0
                  · rw [if_pos c26] at H
                    have c26b0 : decide (0 < t173) = true := decide_eq_true c26
                    clear c26
                    replace H := Option.bind_eq_some_iff.mp H
                    obtain ⟨t178, A270, H⟩ := H
                    replace H : (if t178 ≥ t175 then (laws_FnBakings.j1 kj8 t168 (wrap64 (1 + (Int.tmod t171 20))) (Int.tmod t172 (wrap64 ((wrap64 (1 + (Int.tmod t171 20))) + 1))) t173 t174 true) else ((impl_GainFor.f kj8 t168 (wrap64 (t173 + 1)) (wrap64 (1 + (Int.tmod t171 20))) (Int.tmod t172 (wrap64 ((wrap64 (1 + (Int.tmod t171 20))) + 1)))).bind fun t179 => (laws_FnBakings.j1 kj8 t168 (wrap64 (1 + (Int.tmod t171 20))) (Int.tmod t172 (wrap64 ((wrap64 (1 + (Int.tmod t171 20))) + 1))) t173 t174 (decide (t179 > t175))))) = some r := H
                    have A27 := Aside0.mk A270
                    clear A270
                    by_cases c28 : t178 ≥ t175
                    · rw [if_pos c28] at H
                      have c28b0 : decide (t175 ≤ t178) = true := decide_eq_true c28
                      clear c28
                      have H' := Aside0.mk H
                      first | exact (laws_FnBakings.j0_no H'.out hr_.out).elim | exact (laws_FnBakings.j1_no H'.out hr_.out).elim | exact (laws_FnBakings.j3_no H'.out hr_.out).elim
                    · rw [if_neg c28] at H
                      have c28b0 : decide (t175 ≤ t178) = false := decide_eq_false c28
                      clear c28
                      replace H := Option.bind_eq_some_iff.mp H
                      obtain ⟨t179, A320, H⟩ := H
                      replace H : (laws_FnBakings.j1 kj8 t168 (wrap64 (1 + (Int.tmod t171 20))) (Int.tmod t172 (wrap64 ((wrap64 (1 + (Int.tmod t171 20))) + 1))) t173 t174 (decide (t179 > t175))) = some r := H
                      have A32 := Aside0.mk A320
                      clear A320
                      have H' := Aside0.mk H
                      clear H
                      go_wp2_with (first | (go_at_call 40; (with_reducible refine (impl_GainFor.calls kj8 _ _ t168 t174 (wrap64 (1 + (Int.tmod t171 20))) (Int.tmod t172 (wrap64 ((wrap64 (1 + (Int.tmod t171 20))) + 1))) t176 _ ?side1 ?side2 A19.out).mono ?_); (case side1 => repeat (first | exact (Kd.R_reads' HO_3.out).2.2 | (with_reducible refine Kd.C_alloc ?_ _) | (with_reducible refine Kd.C_drewN ?_ _) | (with_reducible refine Kd.C_drew ?_))); (case side2 => exact (Kd.R_reads' HO_3.out).2.1); rintro e w33 ⟨rfl, hb⟩; have n0_ := Aside0.mk (Kd.R_below (by (with_reducible repeat (first | apply Kd.R_alloc | apply Kd.R_drewN | apply Kd.R_drew)); exact HO_3.out) hb); have n1_ := Aside0.mk (below_step (by repeat (first | (with_reducible first | exact HB.out | apply below_alloc | apply pw_below_drewN | apply below_drew1) | exact HB.out)) hb); clear HO_3; clear HB; have HO_3 := n0_; have HB := n1_; clear n0_ n1_; (try clear hb); (try clear hb2); (try clear hk); (try clear hi)) | (go_at_call 45; (with_reducible refine (impl_IsBetter.calls kj8 _ _ t168 t174 t173 (wrap64 (1 + (Int.tmod t171 20))) (Int.tmod t172 (wrap64 ((wrap64 (1 + (Int.tmod t171 20))) + 1))) false _ ?side1 ?side2 A22.out).mono ?_); (case side1 => repeat (first | exact (Kd.R_reads' HO_3.out).2.2 | (with_reducible refine Kd.C_alloc ?_ _) | (with_reducible refine Kd.C_drewN ?_ _) | (with_reducible refine Kd.C_drew ?_))); (case side2 => exact (Kd.R_reads' HO_3.out).2.1); rintro e w34 ⟨rfl, hb⟩; have n0_ := Aside0.mk (Kd.R_below (by (with_reducible repeat (first | apply Kd.R_alloc | apply Kd.R_drewN | apply Kd.R_drew)); exact HO_3.out) hb); have n1_ := Aside0.mk (below_step (by repeat (first | (with_reducible first | exact HB.out | apply below_alloc | apply pw_below_drewN | apply below_drew1) | exact HB.out)) hb); clear HO_3; clear HB; have HO_3 := n0_; have HB := n1_; clear n0_ n1_; (try clear hb); (try clear hb2); (try clear hk); (try clear hi)) | (go_at_call 40; (with_reducible refine (impl_GainFor.calls kj8 _ _ t168 (wrap64 (t173 - 1)) (wrap64 (1 + (Int.tmod t171 20))) (Int.tmod t172 (wrap64 ((wrap64 (1 + (Int.tmod t171 20))) + 1))) t178 _ ?side1 ?side2 A27.out).mono ?_); (case side1 => repeat (first | exact (Kd.R_reads' HO_3.out).2.2 | (with_reducible refine Kd.C_alloc ?_ _) | (with_reducible refine Kd.C_drewN ?_ _) | (with_reducible refine Kd.C_drew ?_))); (case side2 => exact (Kd.R_reads' HO_3.out).2.1); rintro e w35 ⟨rfl, hb⟩; have n0_ := Aside0.mk (Kd.R_below (by (with_reducible repeat (first | apply Kd.R_alloc | apply Kd.R_drewN | apply Kd.R_drew)); exact HO_3.out) hb); have n1_ := Aside0.mk (below_step (by repeat (first | (with_reducible first | exact HB.out | apply below_alloc | apply pw_below_drewN | apply below_drew1) | exact HB.out)) hb); clear HO_3; clear HB; have HO_3 := n0_; have HB := n1_; clear n0_ n1_; (try clear hb); (try clear hb2); (try clear hk); (try clear hi)) | (go_at_call 40; (with_reducible refine (impl_GainFor.calls kj8 _ _ t168 (wrap64 (t173 + 1)) (wrap64 (1 + (Int.tmod t171 20))) (Int.tmod t172 (wrap64 ((wrap64 (1 + (Int.tmod t171 20))) + 1))) t179 _ ?side1 ?side2 A32.out).mono ?_); (case side1 => repeat (first | exact (Kd.R_reads' HO_3.out).2.2 | (with_reducible refine Kd.C_alloc ?_ _) | (with_reducible refine Kd.C_drewN ?_ _) | (with_reducible refine Kd.C_drew ?_))); (case side2 => exact (Kd.R_reads' HO_3.out).2.1); rintro e w36 ⟨rfl, hb⟩; have n0_ := Aside0.mk (Kd.R_below (by (with_reducible repeat (first | apply Kd.R_alloc | apply Kd.R_drewN | apply Kd.R_drew)); exact HO_3.out) hb); have n1_ := Aside0.mk (below_step (by repeat (first | (with_reducible first | exact HB.out | apply below_alloc | apply pw_below_drewN | apply below_drew1) | exact HB.out)) hb); clear HO_3; clear HB; have HO_3 := n0_; have HB := n1_; clear n0_ n1_; (try clear hb); (try clear hb2); (try clear hk); (try clear hi)))
                      repeat (go_quiet (first | (go_at_call 40; (with_reducible refine (impl_GainFor.calls kj8 _ _ t168 t174 (wrap64 (1 + (Int.tmod t171 20))) (Int.tmod t172 (wrap64 ((wrap64 (1 + (Int.tmod t171 20))) + 1))) t176 _ ?side1 ?side2 A19.out).mono ?_); (case side1 => repeat (first | exact (Kd.R_reads' HO_3.out).2.2 | (with_reducible refine Kd.C_alloc ?_ _) | (with_reducible refine Kd.C_drewN ?_ _) | (with_reducible refine Kd.C_drew ?_))); (case side2 => exact (Kd.R_reads' HO_3.out).2.1); rintro e w33 ⟨rfl, hb⟩; have n0_ := Aside0.mk (Kd.R_below (by (with_reducible repeat (first | apply Kd.R_alloc | apply Kd.R_drewN | apply Kd.R_drew)); exact HO_3.out) hb); have n1_ := Aside0.mk (below_step (by repeat (first | (with_reducible first | exact HB.out | apply below_alloc | apply pw_below_drewN | apply below_drew1) | exact HB.out)) hb); clear HO_3; clear HB; have HO_3 := n0_; have HB := n1_; clear n0_ n1_; (try clear hb); (try clear hb2); (try clear hk); (try clear hi)) | (go_at_call 45; (with_reducible refine (impl_IsBetter.calls kj8 _ _ t168 t174 t173 (wrap64 (1 + (Int.tmod t171 20))) (Int.tmod t172 (wrap64 ((wrap64 (1 + (Int.tmod t171 20))) + 1))) false _ ?side1 ?side2 A22.out).mono ?_); (case side1 => repeat (first | exact (Kd.R_reads' HO_3.out).2.2 | (with_reducible refine Kd.C_alloc ?_ _) | (with_reducible refine Kd.C_drewN ?_ _) | (with_reducible refine Kd.C_drew ?_))); (case side2 => exact (Kd.R_reads' HO_3.out).2.1); rintro e w34 ⟨rfl, hb⟩; have n0_ := Aside0.mk (Kd.R_below (by (with_reducible repeat (first | apply Kd.R_alloc | apply Kd.R_drewN | apply Kd.R_drew)); exact HO_3.out) hb); have n1_ := Aside0.mk (below_step (by repeat (first | (with_reducible first | exact HB.out | apply below_alloc | apply pw_below_drewN | apply below_drew1) | exact HB.out)) hb); clear HO_3; clear HB; have HO_3 := n0_; have HB := n1_; clear n0_ n1_; (try clear hb); (try clear hb2); (try clear hk); (try clear hi)) | (go_at_call 40; (with_reducible refine (impl_GainFor.calls kj8 _ _ t168 (wrap64 (t173 - 1)) (wrap64 (1 + (Int.tmod t171 20))) (Int.tmod t172 (wrap64 ((wrap64 (1 + (Int.tmod t171 20))) + 1))) t178 _ ?side1 ?side2 A27.out).mono ?_); (case side1 => repeat (first | exact (Kd.R_reads' HO_3.out).2.2 | (with_reducible refine Kd.C_alloc ?_ _) | (with_reducible refine Kd.C_drewN ?_ _) | (with_reducible refine Kd.C_drew ?_))); (case side2 => exact (Kd.R_reads' HO_3.out).2.1); rintro e w35 ⟨rfl, hb⟩; have n0_ := Aside0.mk (Kd.R_below (by (with_reducible repeat (first | apply Kd.R_alloc | apply Kd.R_drewN | apply Kd.R_drew)); exact HO_3.out) hb); have n1_ := Aside0.mk (below_step (by repeat (first | (with_reducible first | exact HB.out | apply below_alloc | apply pw_below_drewN | apply below_drew1) | exact HB.out)) hb); clear HO_3; clear HB; have HO_3 := n0_; have HB := n1_; clear n0_ n1_; (try clear hb); (try clear hb2); (try clear hk); (try clear hi)) | (go_at_call 40; (with_reducible refine (impl_GainFor.calls kj8 _ _ t168 (wrap64 (t173 + 1)) (wrap64 (1 + (Int.tmod t171 20))) (Int.tmod t172 (wrap64 ((wrap64 (1 + (Int.tmod t171 20))) + 1))) t179 _ ?side1 ?side2 A32.out).mono ?_); (case side1 => repeat (first | exact (Kd.R_reads' HO_3.out).2.2 | (with_reducible refine Kd.C_alloc ?_ _) | (with_reducible refine Kd.C_drewN ?_ _) | (with_reducible refine Kd.C_drew ?_))); (case side2 => exact (Kd.R_reads' HO_3.out).2.1); rintro e w36 ⟨rfl, hb⟩; have n0_ := Aside0.mk (Kd.R_below (by (with_reducible repeat (first | apply Kd.R_alloc | apply Kd.R_drewN | apply Kd.R_drew)); exact HO_3.out) hb); have n1_ := Aside0.mk (below_step (by repeat (first | (with_reducible first | exact HB.out | apply below_alloc | apply pw_below_drewN | apply below_drew1) | exact HB.out)) hb); clear HO_3; clear HB; have HO_3 := n0_; have HB := n1_; clear n0_ n1_; (try clear hb); (try clear hb2); (try clear hk); (try clear hi))); try go_wp2_with (first | (go_at_call 40; (with_reducible refine (impl_GainFor.calls kj8 _ _ t168 t174 (wrap64 (1 + (Int.tmod t171 20))) (Int.tmod t172 (wrap64 ((wrap64 (1 + (Int.tmod t171 20))) + 1))) t176 _ ?side1 ?side2 A19.out).mono ?_); (case side1 => repeat (first | exact (Kd.R_reads' HO_3.out).2.2 | (with_reducible refine Kd.C_alloc ?_ _) | (with_reducible refine Kd.C_drewN ?_ _) | (with_reducible refine Kd.C_drew ?_))); (case side2 => exact (Kd.R_reads' HO_3.out).2.1); rintro e w33 ⟨rfl, hb⟩; have n0_ := Aside0.mk (Kd.R_below (by (with_reducible repeat (first | apply Kd.R_alloc | apply Kd.R_drewN | apply Kd.R_drew)); exact HO_3.out) hb); have n1_ := Aside0.mk (below_step (by repeat (first | (with_reducible first | exact HB.out | apply below_alloc | apply pw_below_drewN | apply below_drew1) | exact HB.out)) hb); clear HO_3; clear HB; have HO_3 := n0_; have HB := n1_; clear n0_ n1_; (try clear hb); (try clear hb2); (try clear hk); (try clear hi)) | (go_at_call 45; (with_reducible refine (impl_IsBetter.calls kj8 _ _ t168 t174 t173 (wrap64 (1 + (Int.tmod t171 20))) (Int.tmod t172 (wrap64 ((wrap64 (1 + (Int.tmod t171 20))) + 1))) false _ ?side1 ?side2 A22.out).mono ?_); (case side1 => repeat (first | exact (Kd.R_reads' HO_3.out).2.2 | (with_reducible refine Kd.C_alloc ?_ _) | (with_reducible refine Kd.C_drewN ?_ _) | (with_reducible refine Kd.C_drew ?_))); (case side2 => exact (Kd.R_reads' HO_3.out).2.1); rintro e w34 ⟨rfl, hb⟩; have n0_ := Aside0.mk (Kd.R_below (by (with_reducible repeat (first | apply Kd.R_alloc | apply Kd.R_drewN | apply Kd.R_drew)); exact HO_3.out) hb); have n1_ := Aside0.mk (below_step (by repeat (first | (with_reducible first | exact HB.out | apply below_alloc | apply pw_below_drewN | apply below_drew1) | exact HB.out)) hb); clear HO_3; clear HB; have HO_3 := n0_; have HB := n1_; clear n0_ n1_; (try clear hb); (try clear hb2); (try clear hk); (try clear hi)) | (go_at_call 40; (with_reducible refine (impl_GainFor.calls kj8 _ _ t168 (wrap64 (t173 - 1)) (wrap64 (1 + (Int.tmod t171 20))) (Int.tmod t172 (wrap64 ((wrap64 (1 + (Int.tmod t171 20))) + 1))) t178 _ ?side1 ?side2 A27.out).mono ?_); (case side1 => repeat (first | exact (Kd.R_reads' HO_3.out).2.2 | (with_reducible refine Kd.C_alloc ?_ _) | (with_reducible refine Kd.C_drewN ?_ _) | (with_reducible refine Kd.C_drew ?_))); (case side2 => exact (Kd.R_reads' HO_3.out).2.1); rintro e w35 ⟨rfl, hb⟩; have n0_ := Aside0.mk (Kd.R_below (by (with_reducible repeat (first | apply Kd.R_alloc | apply Kd.R_drewN | apply Kd.R_drew)); exact HO_3.out) hb); have n1_ := Aside0.mk (below_step (by repeat (first | (with_reducible first | exact HB.out | apply below_alloc | apply pw_below_drewN | apply below_drew1) | exact HB.out)) hb); clear HO_3; clear HB; have HO_3 := n0_; have HB := n1_; clear n0_ n1_; (try clear hb); (try clear hb2); (try clear hk); (try clear hi)) | (go_at_call 40; (with_reducible refine (impl_GainFor.calls kj8 _ _ t168 (wrap64 (t173 + 1)) (wrap64 (1 + (Int.tmod t171 20))) (Int.tmod t172 (wrap64 ((wrap64 (1 + (Int.tmod t171 20))) + 1))) t179 _ ?side1 ?side2 A32.out).mono ?_); (case side1 => repeat (first | exact (Kd.R_reads' HO_3.out).2.2 | (with_reducible refine Kd.C_alloc ?_ _) | (with_reducible refine Kd.C_drewN ?_ _) | (with_reducible refine Kd.C_drew ?_))); (case side2 => exact (Kd.R_reads' HO_3.out).2.1); rintro e w36 ⟨rfl, hb⟩; have n0_ := Aside0.mk (Kd.R_below (by (with_reducible repeat (first | apply Kd.R_alloc | apply Kd.R_drewN | apply Kd.R_drew)); exact HO_3.out) hb); have n1_ := Aside0.mk (below_step (by repeat (first | (with_reducible first | exact HB.out | apply below_alloc | apply pw_below_drewN | apply below_drew1) | exact HB.out)) hb); clear HO_3; clear HB; have HO_3 := n0_; have HB := n1_; clear n0_ n1_; (try clear hb); (try clear hb2); (try clear hk); (try clear hi))))
                      go_meet
                      case rel => exact ⟨_, (decide (t179 > t175)), (by first | rfl | (simp; done) | (simp [*]; done)), H', ⟨by have := HJ8.out; first | omega | exact Nat.le_refl _⟩, ⟨by (with_reducible repeat (first | apply Kd.R_alloc | apply Kd.R_drewN | apply Kd.R_drew)); exact HO_3.out⟩, ⟨by repeat (first | (with_reducible first | exact HB.out | apply below_alloc | apply pw_below_drewN | apply below_drew1) | exact HB.out)⟩⟩
                  · rw [if_neg c26] at H
                    have c26b0 : decide (0 < t173) = false := decide_eq_false c26
                    clear c26
                    replace H := Option.bind_eq_some_iff.mp H
                    obtain ⟨t180, A370, H⟩ := H
                    replace H : (laws_FnBakings.j1 kj8 t168 (wrap64 (1 + (Int.tmod t171 20))) (Int.tmod t172 (wrap64 ((wrap64 (1 + (Int.tmod t171 20))) + 1))) t173 t174 (decide (t180 > t175))) = some r := H
                    have A37 := Aside0.mk A370
                    clear A370
                    have H' := Aside0.mk H
                    clear H
                    go_wp2_with (first | (go_at_call 40; (with_reducible refine (impl_GainFor.calls kj8 _ _ t168 t174 (wrap64 (1 + (Int.tmod t171 20))) (Int.tmod t172 (wrap64 ((wrap64 (1 + (Int.tmod t171 20))) + 1))) t176 _ ?side1 ?side2 A19.out).mono ?_); (case side1 => repeat (first | exact (Kd.R_reads' HO_3.out).2.2 | (with_reducible refine Kd.C_alloc ?_ _) | (with_reducible refine Kd.C_drewN ?_ _) | (with_reducible refine Kd.C_drew ?_))); (case side2 => exact (Kd.R_reads' HO_3.out).2.1); rintro e w38 ⟨rfl, hb⟩; have n0_ := Aside0.mk (Kd.R_below (by (with_reducible repeat (first | apply Kd.R_alloc | apply Kd.R_drewN | apply Kd.R_drew)); exact HO_3.out) hb); have n1_ := Aside0.mk (below_step (by repeat (first | (with_reducible first | exact HB.out | apply below_alloc | apply pw_below_drewN | apply below_drew1) | exact HB.out)) hb); clear HO_3; clear HB; have HO_3 := n0_; have HB := n1_; clear n0_ n1_; (try clear hb); (try clear hb2); (try clear hk); (try clear hi)) | (go_at_call 45; (with_reducible refine (impl_IsBetter.calls kj8 _ _ t168 t174 t173 (wrap64 (1 + (Int.tmod t171 20))) (Int.tmod t172 (wrap64 ((wrap64 (1 + (Int.tmod t171 20))) + 1))) false _ ?side1 ?side2 A22.out).mono ?_); (case side1 => repeat (first | exact (Kd.R_reads' HO_3.out).2.2 | (with_reducible refine Kd.C_alloc ?_ _) | (with_reducible refine Kd.C_drewN ?_ _) | (with_reducible refine Kd.C_drew ?_))); (case side2 => exact (Kd.R_reads' HO_3.out).2.1); rintro e w39 ⟨rfl, hb⟩; have n0_ := Aside0.mk (Kd.R_below (by (with_reducible repeat (first | apply Kd.R_alloc | apply Kd.R_drewN | apply Kd.R_drew)); exact HO_3.out) hb); have n1_ := Aside0.mk (below_step (by repeat (first | (with_reducible first | exact HB.out | apply below_alloc | apply pw_below_drewN | apply below_drew1) | exact HB.out)) hb); clear HO_3; clear HB; have HO_3 := n0_; have HB := n1_; clear n0_ n1_; (try clear hb); (try clear hb2); (try clear hk); (try clear hi)) | (go_at_call 40; (with_reducible refine (impl_GainFor.calls kj8 _ _ t168 (wrap64 (t173 + 1)) (wrap64 (1 + (Int.tmod t171 20))) (Int.tmod t172 (wrap64 ((wrap64 (1 + (Int.tmod t171 20))) + 1))) t180 _ ?side1 ?side2 A37.out).mono ?_); (case side1 => repeat (first | exact (Kd.R_reads' HO_3.out).2.2 | (with_reducible refine Kd.C_alloc ?_ _) | (with_reducible refine Kd.C_drewN ?_ _) | (with_reducible refine Kd.C_drew ?_))); (case side2 => exact (Kd.R_reads' HO_3.out).2.1); rintro e w40 ⟨rfl, hb⟩; have n0_ := Aside0.mk (Kd.R_below (by (with_reducible repeat (first | apply Kd.R_alloc | apply Kd.R_drewN | apply Kd.R_drew)); exact HO_3.out) hb); have n1_ := Aside0.mk (below_step (by repeat (first | (with_reducible first | exact HB.out | apply below_alloc | apply pw_below_drewN | apply below_drew1) | exact HB.out)) hb); clear HO_3; clear HB; have HO_3 := n0_; have HB := n1_; clear n0_ n1_; (try clear hb); (try clear hb2); (try clear hk); (try clear hi)))
                    repeat (go_quiet (first | (go_at_call 40; (with_reducible refine (impl_GainFor.calls kj8 _ _ t168 t174 (wrap64 (1 + (Int.tmod t171 20))) (Int.tmod t172 (wrap64 ((wrap64 (1 + (Int.tmod t171 20))) + 1))) t176 _ ?side1 ?side2 A19.out).mono ?_); (case side1 => repeat (first | exact (Kd.R_reads' HO_3.out).2.2 | (with_reducible refine Kd.C_alloc ?_ _) | (with_reducible refine Kd.C_drewN ?_ _) | (with_reducible refine Kd.C_drew ?_))); (case side2 => exact (Kd.R_reads' HO_3.out).2.1); rintro e w38 ⟨rfl, hb⟩; have n0_ := Aside0.mk (Kd.R_below (by (with_reducible repeat (first | apply Kd.R_alloc | apply Kd.R_drewN | apply Kd.R_drew)); exact HO_3.out) hb); have n1_ := Aside0.mk (below_step (by repeat (first | (with_reducible first | exact HB.out | apply below_alloc | apply pw_below_drewN | apply below_drew1) | exact HB.out)) hb); clear HO_3; clear HB; have HO_3 := n0_; have HB := n1_; clear n0_ n1_; (try clear hb); (try clear hb2); (try clear hk); (try clear hi)) | (go_at_call 45; (with_reducible refine (impl_IsBetter.calls kj8 _ _ t168 t174 t173 (wrap64 (1 + (Int.tmod t171 20))) (Int.tmod t172 (wrap64 ((wrap64 (1 + (Int.tmod t171 20))) + 1))) false _ ?side1 ?side2 A22.out).mono ?_); (case side1 => repeat (first | exact (Kd.R_reads' HO_3.out).2.2 | (with_reducible refine Kd.C_alloc ?_ _) | (with_reducible refine Kd.C_drewN ?_ _) | (with_reducible refine Kd.C_drew ?_))); (case side2 => exact (Kd.R_reads' HO_3.out).2.1); rintro e w39 ⟨rfl, hb⟩; have n0_ := Aside0.mk (Kd.R_below (by (with_reducible repeat (first | apply Kd.R_alloc | apply Kd.R_drewN | apply Kd.R_drew)); exact HO_3.out) hb); have n1_ := Aside0.mk (below_step (by repeat (first | (with_reducible first | exact HB.out | apply below_alloc | apply pw_below_drewN | apply below_drew1) | exact HB.out)) hb); clear HO_3; clear HB; have HO_3 := n0_; have HB := n1_; clear n0_ n1_; (try clear hb); (try clear hb2); (try clear hk); (try clear hi)) | (go_at_call 40; (with_reducible refine (impl_GainFor.calls kj8 _ _ t168 (wrap64 (t173 + 1)) (wrap64 (1 + (Int.tmod t171 20))) (Int.tmod t172 (wrap64 ((wrap64 (1 + (Int.tmod t171 20))) + 1))) t180 _ ?side1 ?side2 A37.out).mono ?_); (case side1 => repeat (first | exact (Kd.R_reads' HO_3.out).2.2 | (with_reducible refine Kd.C_alloc ?_ _) | (with_reducible refine Kd.C_drewN ?_ _) | (with_reducible refine Kd.C_drew ?_))); (case side2 => exact (Kd.R_reads' HO_3.out).2.1); rintro e w40 ⟨rfl, hb⟩; have n0_ := Aside0.mk (Kd.R_below (by (with_reducible repeat (first | apply Kd.R_alloc | apply Kd.R_drewN | apply Kd.R_drew)); exact HO_3.out) hb); have n1_ := Aside0.mk (below_step (by repeat (first | (with_reducible first | exact HB.out | apply below_alloc | apply pw_below_drewN | apply below_drew1) | exact HB.out)) hb); clear HO_3; clear HB; have HO_3 := n0_; have HB := n1_; clear n0_ n1_; (try clear hb); (try clear hb2); (try clear hk); (try clear hi))); try go_wp2_with (first | (go_at_call 40; (with_reducible refine (impl_GainFor.calls kj8 _ _ t168 t174 (wrap64 (1 + (Int.tmod t171 20))) (Int.tmod t172 (wrap64 ((wrap64 (1 + (Int.tmod t171 20))) + 1))) t176 _ ?side1 ?side2 A19.out).mono ?_); (case side1 => repeat (first | exact (Kd.R_reads' HO_3.out).2.2 | (with_reducible refine Kd.C_alloc ?_ _) | (with_reducible refine Kd.C_drewN ?_ _) | (with_reducible refine Kd.C_drew ?_))); (case side2 => exact (Kd.R_reads' HO_3.out).2.1); rintro e w38 ⟨rfl, hb⟩; have n0_ := Aside0.mk (Kd.R_below (by (with_reducible repeat (first | apply Kd.R_alloc | apply Kd.R_drewN | apply Kd.R_drew)); exact HO_3.out) hb); have n1_ := Aside0.mk (below_step (by repeat (first | (with_reducible first | exact HB.out | apply below_alloc | apply pw_below_drewN | apply below_drew1) | exact HB.out)) hb); clear HO_3; clear HB; have HO_3 := n0_; have HB := n1_; clear n0_ n1_; (try clear hb); (try clear hb2); (try clear hk); (try clear hi)) | (go_at_call 45; (with_reducible refine (impl_IsBetter.calls kj8 _ _ t168 t174 t173 (wrap64 (1 + (Int.tmod t171 20))) (Int.tmod t172 (wrap64 ((wrap64 (1 + (Int.tmod t171 20))) + 1))) false _ ?side1 ?side2 A22.out).mono ?_); (case side1 => repeat (first | exact (Kd.R_reads' HO_3.out).2.2 | (with_reducible refine Kd.C_alloc ?_ _) | (with_reducible refine Kd.C_drewN ?_ _) | (with_reducible refine Kd.C_drew ?_))); (case side2 => exact (Kd.R_reads' HO_3.out).2.1); rintro e w39 ⟨rfl, hb⟩; have n0_ := Aside0.mk (Kd.R_below (by (with_reducible repeat (first | apply Kd.R_alloc | apply Kd.R_drewN | apply Kd.R_drew)); exact HO_3.out) hb); have n1_ := Aside0.mk (below_step (by repeat (first | (with_reducible first | exact HB.out | apply below_alloc | apply pw_below_drewN | apply below_drew1) | exact HB.out)) hb); clear HO_3; clear HB; have HO_3 := n0_; have HB := n1_; clear n0_ n1_; (try clear hb); (try clear hb2); (try clear hk); (try clear hi)) | (go_at_call 40; (with_reducible refine (impl_GainFor.calls kj8 _ _ t168 (wrap64 (t173 + 1)) (wrap64 (1 + (Int.tmod t171 20))) (Int.tmod t172 (wrap64 ((wrap64 (1 + (Int.tmod t171 20))) + 1))) t180 _ ?side1 ?side2 A37.out).mono ?_); (case side1 => repeat (first | exact (Kd.R_reads' HO_3.out).2.2 | (with_reducible refine Kd.C_alloc ?_ _) | (with_reducible refine Kd.C_drewN ?_ _) | (with_reducible refine Kd.C_drew ?_))); (case side2 => exact (Kd.R_reads' HO_3.out).2.1); rintro e w40 ⟨rfl, hb⟩; have n0_ := Aside0.mk (Kd.R_below (by (with_reducible repeat (first | apply Kd.R_alloc | apply Kd.R_drewN | apply Kd.R_drew)); exact HO_3.out) hb); have n1_ := Aside0.mk (below_step (by repeat (first | (with_reducible first | exact HB.out | apply below_alloc | apply pw_below_drewN | apply below_drew1) | exact HB.out)) hb); clear HO_3; clear HB; have HO_3 := n0_; have HB := n1_; clear n0_ n1_; (try clear hb); (try clear hb2); (try clear hk); (try clear hi))))
                    go_meet
                    case rel => exact ⟨_, (decide (t180 > t175)), (by first | rfl | (simp; done) | (simp [*]; done)), H', ⟨by have := HJ8.out; first | omega | exact Nat.le_refl _⟩, ⟨by (with_reducible repeat (first | apply Kd.R_alloc | apply Kd.R_drewN | apply Kd.R_drew)); exact HO_3.out⟩, ⟨by repeat (first | (with_reducible first | exact HB.out | apply below_alloc | apply pw_below_drewN | apply below_drew1) | exact HB.out)⟩⟩
            case rest =>
              clear HC17
              try clear c1
              try clear c2
              try clear p2
              try clear c3
              try clear p6
              try clear c7
              try clear c7b0
              try clear c7b1
              try clear c13
              try clear c13b0
              try clear c14
              try clear c20
              try clear c20b0
              try clear c23
              try clear c26
              try clear c26b0
              try clear c28
              try clear c28b0
              try clear p2
              try clear p6
              obtain ⟨kq, x81_16, rfl, HA, HJ16, HO_3, HB⟩ := hcut
              cases kq with
              | zero => exact absurd HA.out (by simp [laws_FnBakings.j1])
              | succ kj16 =>
                have H := HA.out
                clear HA
                simp only [laws_FnBakings.j1] at H
                by_cases c41 : x81_16 = true
                · subst c41
                  have H1 : (some false) = some r := by rw [if_pos rfl] at H; exact H
                  clear H
                  have H := H1
                  clear H1
                  exact absurd (Option.some.inj H) (by rw [hr_.out]; decide)
                · replace c41 := Bool.eq_false_iff.mpr c41
                  subst c41
                  have H1 : (laws_FnBakings.l0 kj16 t168 (wrap64 (1 + (Int.tmod t171 20))) (Int.tmod t172 (wrap64 ((wrap64 (1 + (Int.tmod t171 20))) + 1))) t173 t174 0 0 0) = some r := by rw [if_neg (show ¬ (false = true) by decide)] at H; exact H
                  clear H
                  have H := H1
                  clear H1
                  have H' := Aside0.mk H
                  clear H
                  go_wp2
                  repeat (go_quiet (fail); try go_wp2)
                  go_loopg [9, 10, 11] kj16 (fun kq v9 v10 v11 w' => ∃ (x9_3 : Int) (x10_3 : Int) (x11_3 : Int), v9 = .int .i64 x9_3 ∧ v10 = .int .i64 x10_3 ∧ v11 = .int .i64 x11_3 ∧ Aside0 (laws_FnBakings.l0 kq t168 (wrap64 (1 + (Int.tmod t171 20))) (Int.tmod t172 (wrap64 ((wrap64 (1 + (Int.tmod t171 20))) + 1))) t173 t174 x9_3 x10_3 x11_3 = some r) ∧ Aside0 (kq ≤ kj16) ∧ Aside0 (Kd.R k54 54 w' w.heap.size (fun _ => True) (.slice Ao11 t168.length co11) t168) ∧ Aside0 (Below w.heap.size w w'))
                  case atStart => exact ⟨(0), (0), (0), (by first | rfl | (simp; done) | (simp [*]; done)), (by first | rfl | (simp; done) | (simp [*]; done)), (by first | rfl | (simp; done) | (simp [*]; done)), H', ⟨Nat.le_refl _⟩, ⟨by (with_reducible repeat (first | apply Kd.R_alloc | apply Kd.R_drewN | apply Kd.R_drew)); exact HO_3.out⟩, ⟨by repeat (first | (with_reducible first | exact HB.out | apply below_alloc | apply pw_below_drewN | apply below_drew1) | exact HB.out)⟩⟩
                  case round =>
                    clear H'
                    try clear c1
                    try clear c2
                    try clear p2
                    try clear c3
                    try clear c4
                    try clear p6
                    try clear c7
                    try clear c7b0
                    try clear c7b1
                    try clear c13
                    try clear c13b0
                    try clear c14
                    try clear c20
                    try clear c20b0
                    try clear c23
                    try clear c26
                    try clear c26b0
                    try clear c28
                    try clear c28b0
                    try clear c41
                    try clear p2
                    try clear p6
                    obtain ⟨x9_3, x10_3, x11_3, rfl, rfl, rfl, HA, HK3, HO_3, HB⟩ := hrel
                    cases gk with
                    | zero => exact absurd HA.out (by simp [laws_FnBakings.l0])
                    | succ k3 =>
                      have H := HA.out
                      clear HA
                      simp only [laws_FnBakings.l0] at H
                      by_cases c42 : x11_3 < (t168.length : Int)
                      · rw [if_pos c42] at H
                        have c42b0 : decide (x11_3 < (t168.length : Int)) = true := decide_eq_true c42
                        clear c42
                        by_cases c43 : 0 ≤ x11_3
                        · rw [if_pos c43] at H
                          have c43b0 : decide (0 ≤ x11_3) = true := decide_eq_true c43
                          clear c43
                          obtain ⟨ji44, hji44⟩ : ∃ j_ : Int, (mn t174 ((rd_T54 t168 x11_3).f0)) = j_ := ⟨_, rfl⟩
                          replace H : (laws_FnBakings.l0 k3 t168 (wrap64 (1 + (Int.tmod t171 20))) (Int.tmod t172 (wrap64 ((wrap64 (1 + (Int.tmod t171 20))) + 1))) t173 t174 (wrap64 (x9_3 + ((rd_T54 t168 x11_3).f1))) (wrap64 (x10_3 + (wrap64 (((rd_T54 t168 x11_3).f1) * (wrap64 ((wrap64 ((wrap64 (1 + (Int.tmod t171 20))) * (ji44))) - (wrap64 ((Int.tmod t172 (wrap64 ((wrap64 (1 + (Int.tmod t171 20))) + 1))) * t174)))))))) (wrap64 (x11_3 + 1))) = some r := by first | (rw [hji44] at H; exact H) | (simp only [hji44] at H ⊢; exact H)
                          have hji44_ : (if ((rd_T54 t168 x11_3).f0) < t174 then ((rd_T54 t168 x11_3).f0) else t174) = ji44 := hji44
                          have H' := Aside0.mk H
                          clear H
                          have p181 : 0 ≤ (x11_3 : Int) := of_decide_eq_true (by first | (with_reducible assumption) | assumption)
                          have q181 : x11_3 < (t168.length : Int) := of_decide_eq_true (by first | (with_reducible assumption) | assumption)
                          obtain ⟨ad181, e181, hx181_0, hx181_1⟩ := at_T54 (Kd.R_reads' HO_3.out).2.2 x11_3 p181 q181
                          cases e181
                          replace p181 := eq_true p181
                          replace q181 := eq_true q181
                          have p182 : 0 ≤ (x11_3 : Int) := of_decide_eq_true (by first | (with_reducible assumption) | assumption)
                          have q182 : x11_3 < (t168.length : Int) := of_decide_eq_true (by first | (with_reducible assumption) | assumption)
                          obtain ⟨ad182, e182, hx182_0, hx182_1⟩ := at_T54 (Kd.R_reads' HO_3.out).2.2 x11_3 p182 q182
                          obtain rfl : ad181 = ad182 := (by injection e182)
                          replace p182 := eq_true p182
                          replace q182 := eq_true q182
                          have p183 : 0 ≤ (x11_3 : Int) := of_decide_eq_true (by first | (with_reducible assumption) | assumption)
                          have q183 : x11_3 < (t168.length : Int) := of_decide_eq_true (by first | (with_reducible assumption) | assumption)
                          obtain ⟨ad183, e183, hx183_0, hx183_1⟩ := at_T54 (Kd.R_reads' HO_3.out).2.2 x11_3 p183 q183
                          obtain rfl : ad181 = ad183 := (by injection e183)
                          replace p183 := eq_true p183
                          replace q183 := eq_true q183
                          go_wp2
                          repeat (go_quiet (fail); try go_wp2)
                          go_roundg k3
                          case measure => have := HJ8.out; have := HJ16.out; have := HK3.out; omega
                          case rel => exact ⟨(wrap64 (x9_3 + ((rd_T54 t168 x11_3).f1))), (wrap64 (x10_3 + (wrap64 (((rd_T54 t168 x11_3).f1) * (wrap64 ((wrap64 ((wrap64 (1 + (Int.tmod t171 20))) * (ji44))) - (wrap64 ((Int.tmod t172 (wrap64 ((wrap64 (1 + (Int.tmod t171 20))) + 1))) * t174)))))))), (wrap64 (x11_3 + 1)), (by first | rfl | (simp; done) | (simp [*]; done)), (by first | rfl | (simp; done) | (simp only [← hji44] <;> (first | rfl | simp)) | (simp [*]; done)), (by first | rfl | (simp; done) | (simp [*]; done)), H', ⟨by have := HJ8.out; have := HJ16.out; have := HK3.out; omega⟩, ⟨by (with_reducible repeat (first | apply Kd.R_alloc | apply Kd.R_drewN | apply Kd.R_drew)); exact HO_3.out⟩, ⟨by repeat (first | (with_reducible first | exact HB.out | apply below_alloc | apply pw_below_drewN | apply below_drew1) | exact HB.out)⟩⟩
                        · rw [if_neg c43] at H
                          exact absurd H (by simp)
                      · rw [if_neg c42] at H
                        have c42b0 : decide (x11_3 < (t168.length : Int)) = false := decide_eq_false c42
                        clear c42
                        replace H := Option.bind_eq_some_iff.mp H
                        obtain ⟨t184, A450, H⟩ := H
                        replace H : (if t184 < 0 then (laws_FnBakings.j3 k3 t168 (wrap64 (1 + (Int.tmod t171 20))) (Int.tmod t172 (wrap64 ((wrap64 (1 + (Int.tmod t171 20))) + 1))) t173 t174 x10_3 t184 true) else (if t184 > x9_3 then (laws_FnBakings.j3 k3 t168 (wrap64 (1 + (Int.tmod t171 20))) (Int.tmod t172 (wrap64 ((wrap64 (1 + (Int.tmod t171 20))) + 1))) t173 t174 x10_3 t184 true) else (if (wrap64 ((wrap64 (1 + (Int.tmod t171 20))) * t184)) > (wrap64 ((Int.tmod t172 (wrap64 ((wrap64 (1 + (Int.tmod t171 20))) + 1))) * x9_3)) then (laws_FnBakings.j3 k3 t168 (wrap64 (1 + (Int.tmod t171 20))) (Int.tmod t172 (wrap64 ((wrap64 (1 + (Int.tmod t171 20))) + 1))) t173 t174 x10_3 t184 true) else (if t173 > 0 then ((impl_SoldOutWeight.f k3 t168 (wrap64 (t173 - 1))).bind fun t185 => (laws_FnBakings.j3 k3 t168 (wrap64 (1 + (Int.tmod t171 20))) (Int.tmod t172 (wrap64 ((wrap64 (1 + (Int.tmod t171 20))) + 1))) t173 t174 x10_3 t184 (decide ((wrap64 ((wrap64 (1 + (Int.tmod t171 20))) * t185)) ≤ (wrap64 ((Int.tmod t172 (wrap64 ((wrap64 (1 + (Int.tmod t171 20))) + 1))) * x9_3)))))) else (laws_FnBakings.j3 k3 t168 (wrap64 (1 + (Int.tmod t171 20))) (Int.tmod t172 (wrap64 ((wrap64 (1 + (Int.tmod t171 20))) + 1))) t173 t174 x10_3 t184 false))))) = some r := H
                        have A45 := Aside0.mk A450
                        clear A450
                        have HC46 := Aside0.mk H
                        clear H
                        go_upto_region 21 with (first | (go_at_call 43; (with_reducible refine (impl_SoldOutWeight.calls k3 _ _ t168 t173 t184 _ ?side1 ?side2 A45.out).mono ?_); (case side1 => repeat (first | exact (Kd.R_reads' HO_3.out).2.2 | (with_reducible refine Kd.C_alloc ?_ _) | (with_reducible refine Kd.C_drewN ?_ _) | (with_reducible refine Kd.C_drew ?_))); (case side2 => exact (Kd.R_reads' HO_3.out).2.1); rintro e w47 ⟨rfl, hb⟩; have n0_ := Aside0.mk (Kd.R_below (by (with_reducible repeat (first | apply Kd.R_alloc | apply Kd.R_drewN | apply Kd.R_drew)); exact HO_3.out) hb); have n1_ := Aside0.mk (below_step (by repeat (first | (with_reducible first | exact HB.out | apply below_alloc | apply pw_below_drewN | apply below_drew1) | exact HB.out)) hb); clear HO_3; clear HB; have HO_3 := n0_; have HB := n1_; clear n0_ n1_; (try clear hb); (try clear hb2); (try clear hk); (try clear hi)))
                        repeat (go_quiet (first | (go_at_call 43; (with_reducible refine (impl_SoldOutWeight.calls k3 _ _ t168 t173 t184 _ ?side1 ?side2 A45.out).mono ?_); (case side1 => repeat (first | exact (Kd.R_reads' HO_3.out).2.2 | (with_reducible refine Kd.C_alloc ?_ _) | (with_reducible refine Kd.C_drewN ?_ _) | (with_reducible refine Kd.C_drew ?_))); (case side2 => exact (Kd.R_reads' HO_3.out).2.1); rintro e w47 ⟨rfl, hb⟩; have n0_ := Aside0.mk (Kd.R_below (by (with_reducible repeat (first | apply Kd.R_alloc | apply Kd.R_drewN | apply Kd.R_drew)); exact HO_3.out) hb); have n1_ := Aside0.mk (below_step (by repeat (first | (with_reducible first | exact HB.out | apply below_alloc | apply pw_below_drewN | apply below_drew1) | exact HB.out)) hb); clear HO_3; clear HB; have HO_3 := n0_; have HB := n1_; clear n0_ n1_; (try clear hb); (try clear hb2); (try clear hk); (try clear hi))); go_upto_region 21 with (first | (go_at_call 43; (with_reducible refine (impl_SoldOutWeight.calls k3 _ _ t168 t173 t184 _ ?side1 ?side2 A45.out).mono ?_); (case side1 => repeat (first | exact (Kd.R_reads' HO_3.out).2.2 | (with_reducible refine Kd.C_alloc ?_ _) | (with_reducible refine Kd.C_drewN ?_ _) | (with_reducible refine Kd.C_drew ?_))); (case side2 => exact (Kd.R_reads' HO_3.out).2.1); rintro e w47 ⟨rfl, hb⟩; have n0_ := Aside0.mk (Kd.R_below (by (with_reducible repeat (first | apply Kd.R_alloc | apply Kd.R_drewN | apply Kd.R_drew)); exact HO_3.out) hb); have n1_ := Aside0.mk (below_step (by repeat (first | (with_reducible first | exact HB.out | apply below_alloc | apply pw_below_drewN | apply below_drew1) | exact HB.out)) hb); clear HO_3; clear HB; have HO_3 := n0_; have HB := n1_; clear n0_ n1_; (try clear hb); (try clear hb2); (try clear hk); (try clear hi))))
                        (try simp only [Act.put, List.setIfInBounds_toArray, List.set_cons_zero, List.set_cons_succ])
                        go_cut [150] (fun v150 wc => ∃ (kq : Nat) (x150_45 : Bool), v150 = .bool x150_45 ∧ Aside0 (laws_FnBakings.j3 kq t168 (wrap64 (1 + (Int.tmod t171 20))) (Int.tmod t172 (wrap64 ((wrap64 (1 + (Int.tmod t171 20))) + 1))) t173 t174 x10_3 t184 x150_45 = some r) ∧ Aside0 (kq ≤ k3) ∧ Aside0 (Kd.R k54 54 wc w.heap.size (fun _ => True) (.slice Ao11 t168.length co11) t168) ∧ Aside0 (Below w.heap.size w wc))
                        case first =>
                          have H := HC46.out
                          clear HC46
                          by_cases c48 : t184 < 0
                          · rw [if_pos c48] at H
                            have c48b0 : decide (t184 < 0) = true := decide_eq_true c48
                            clear c48
                            (first | rw [c48b0] | (simp only [i64_w, i32_w]; rw [c48b0]) | skip)
                            have H' := Aside0.mk H
                            first | exact (laws_FnBakings.j0_no H'.out hr_.out).elim | exact (laws_FnBakings.j1_no H'.out hr_.out).elim | exact (laws_FnBakings.j3_no H'.out hr_.out).elim
                          · rw [if_neg c48] at H
                            have c48b0 : decide (t184 < 0) = false := decide_eq_false c48
                            clear c48
                            (first | rw [c48b0] | (simp only [i64_w, i32_w]; rw [c48b0]) | skip)
                            by_cases c49 : t184 > x9_3
                            · rw [if_pos c49] at H
                              have c49b0 : decide (x9_3 < t184) = true := decide_eq_true c49
                              clear c49
                              have H' := Aside0.mk H
                              first | exact (laws_FnBakings.j0_no H'.out hr_.out).elim | exact (laws_FnBakings.j1_no H'.out hr_.out).elim | exact (laws_FnBakings.j3_no H'.out hr_.out).elim
                            · rw [if_neg c49] at H
                              have c49b0 : decide (x9_3 < t184) = false := decide_eq_false c49
                              clear c49
                              by_cases c50 : (wrap64 ((wrap64 (1 + (Int.tmod t171 20))) * t184)) > (wrap64 ((Int.tmod t172 (wrap64 ((wrap64 (1 + (Int.tmod t171 20))) + 1))) * x9_3))
                              · rw [if_pos c50] at H
                                have c50b0 : decide ((wrap64 ((Int.tmod t172 (wrap64 ((wrap64 (1 + (Int.tmod t171 20))) + 1))) * x9_3)) < (wrap64 ((wrap64 (1 + (Int.tmod t171 20))) * t184))) = true := decide_eq_true c50
                                clear c50
                                have H' := Aside0.mk H
                                first | exact (laws_FnBakings.j0_no H'.out hr_.out).elim | exact (laws_FnBakings.j1_no H'.out hr_.out).elim | exact (laws_FnBakings.j3_no H'.out hr_.out).elim
                              · rw [if_neg c50] at H
                                have c50b0 : decide ((wrap64 ((Int.tmod t172 (wrap64 ((wrap64 (1 + (Int.tmod t171 20))) + 1))) * x9_3)) < (wrap64 ((wrap64 (1 + (Int.tmod t171 20))) * t184))) = false := decide_eq_false c50
                                clear c50
                                by_cases c51 : t173 > 0
                                · rw [if_pos c51] at H
                                  have c51b0 : decide (0 < t173) = true := decide_eq_true c51
                                  clear c51
                                  replace H := Option.bind_eq_some_iff.mp H
                                  obtain ⟨t185, A520, H⟩ := H
                                  replace H : (laws_FnBakings.j3 k3 t168 (wrap64 (1 + (Int.tmod t171 20))) (Int.tmod t172 (wrap64 ((wrap64 (1 + (Int.tmod t171 20))) + 1))) t173 t174 x10_3 t184 (decide ((wrap64 ((wrap64 (1 + (Int.tmod t171 20))) * t185)) ≤ (wrap64 ((Int.tmod t172 (wrap64 ((wrap64 (1 + (Int.tmod t171 20))) + 1))) * x9_3))))) = some r := H
                                  have A52 := Aside0.mk A520
                                  clear A520
                                  have H' := Aside0.mk H
                                  clear H
                                  go_wp2_with (first | (go_at_call 43; (with_reducible refine (impl_SoldOutWeight.calls k3 _ _ t168 (wrap64 (t173 - 1)) t185 _ ?side1 ?side2 A52.out).mono ?_); (case side1 => repeat (first | exact (Kd.R_reads' HO_3.out).2.2 | (with_reducible refine Kd.C_alloc ?_ _) | (with_reducible refine Kd.C_drewN ?_ _) | (with_reducible refine Kd.C_drew ?_))); (case side2 => exact (Kd.R_reads' HO_3.out).2.1); rintro e w53 ⟨rfl, hb⟩; have n0_ := Aside0.mk (Kd.R_below (by (with_reducible repeat (first | apply Kd.R_alloc | apply Kd.R_drewN | apply Kd.R_drew)); exact HO_3.out) hb); have n1_ := Aside0.mk (below_step (by repeat (first | (with_reducible first | exact HB.out | apply below_alloc | apply pw_below_drewN | apply below_drew1) | exact HB.out)) hb); clear HO_3; clear HB; have HO_3 := n0_; have HB := n1_; clear n0_ n1_; (try clear hb); (try clear hb2); (try clear hk); (try clear hi)))
                                  repeat (go_quiet (first | (go_at_call 43; (with_reducible refine (impl_SoldOutWeight.calls k3 _ _ t168 (wrap64 (t173 - 1)) t185 _ ?side1 ?side2 A52.out).mono ?_); (case side1 => repeat (first | exact (Kd.R_reads' HO_3.out).2.2 | (with_reducible refine Kd.C_alloc ?_ _) | (with_reducible refine Kd.C_drewN ?_ _) | (with_reducible refine Kd.C_drew ?_))); (case side2 => exact (Kd.R_reads' HO_3.out).2.1); rintro e w53 ⟨rfl, hb⟩; have n0_ := Aside0.mk (Kd.R_below (by (with_reducible repeat (first | apply Kd.R_alloc | apply Kd.R_drewN | apply Kd.R_drew)); exact HO_3.out) hb); have n1_ := Aside0.mk (below_step (by repeat (first | (with_reducible first | exact HB.out | apply below_alloc | apply pw_below_drewN | apply below_drew1) | exact HB.out)) hb); clear HO_3; clear HB; have HO_3 := n0_; have HB := n1_; clear n0_ n1_; (try clear hb); (try clear hb2); (try clear hk); (try clear hi))); try go_wp2_with (first | (go_at_call 43; (with_reducible refine (impl_SoldOutWeight.calls k3 _ _ t168 (wrap64 (t173 - 1)) t185 _ ?side1 ?side2 A52.out).mono ?_); (case side1 => repeat (first | exact (Kd.R_reads' HO_3.out).2.2 | (with_reducible refine Kd.C_alloc ?_ _) | (with_reducible refine Kd.C_drewN ?_ _) | (with_reducible refine Kd.C_drew ?_))); (case side2 => exact (Kd.R_reads' HO_3.out).2.1); rintro e w53 ⟨rfl, hb⟩; have n0_ := Aside0.mk (Kd.R_below (by (with_reducible repeat (first | apply Kd.R_alloc | apply Kd.R_drewN | apply Kd.R_drew)); exact HO_3.out) hb); have n1_ := Aside0.mk (below_step (by repeat (first | (with_reducible first | exact HB.out | apply below_alloc | apply pw_below_drewN | apply below_drew1) | exact HB.out)) hb); clear HO_3; clear HB; have HO_3 := n0_; have HB := n1_; clear n0_ n1_; (try clear hb); (try clear hb2); (try clear hk); (try clear hi))))
                                  go_meet
                                  case rel => exact ⟨_, (decide ((wrap64 ((wrap64 (1 + (Int.tmod t171 20))) * t185)) ≤ (wrap64 ((Int.tmod t172 (wrap64 ((wrap64 (1 + (Int.tmod t171 20))) + 1))) * x9_3)))), (by first | rfl | (simp; done) | (simp [*]; done)), H', ⟨by have := HJ8.out; have := HJ16.out; have := HK3.out; first | omega | exact Nat.le_refl _⟩, ⟨by (with_reducible repeat (first | apply Kd.R_alloc | apply Kd.R_drewN | apply Kd.R_drew)); exact HO_3.out⟩, ⟨by repeat (first | (with_reducible first | exact HB.out | apply below_alloc | apply pw_below_drewN | apply below_drew1) | exact HB.out)⟩⟩
                                · rw [if_neg c51] at H
                                  have c51b0 : decide (0 < t173) = false := decide_eq_false c51
                                  clear c51
                                  have H' := Aside0.mk H
                                  clear H
                                  go_wp2
                                  repeat (go_quiet (fail); try go_wp2)
                                  go_meet
                                  case rel => exact ⟨_, (false), (by first | rfl | (simp; done) | (simp [*]; done)), H', ⟨by have := HJ8.out; have := HJ16.out; have := HK3.out; first | omega | exact Nat.le_refl _⟩, ⟨by (with_reducible repeat (first | apply Kd.R_alloc | apply Kd.R_drewN | apply Kd.R_drew)); exact HO_3.out⟩, ⟨by repeat (first | (with_reducible first | exact HB.out | apply below_alloc | apply pw_below_drewN | apply below_drew1) | exact HB.out)⟩⟩
                        case rest =>
                          clear HC46
                          try clear c1
                          try clear p1
                          try clear q1
                          try clear hx1
                          try clear c2
                          try clear p2
                          try clear c3
                          try clear c4
                          try clear c5
                          try clear p6
                          try clear c7
                          try clear c7b0
                          try clear c7b1
                          try clear c13
                          try clear c13b0
                          try clear c14
                          try clear p18
                          try clear q18
                          try clear hx18
                          try clear c20
                          try clear c20b0
                          try clear c23
                          try clear c26
                          try clear c26b0
                          try clear c28
                          try clear c28b0
                          try clear c41
                          try clear c42
                          try clear c42b0
                          try clear c43
                          try clear c43b0
                          try clear c48
                          try clear c48b0
                          try clear c49
                          try clear c49b0
                          try clear c50
                          try clear c50b0
                          try clear c51
                          try clear c51b0
                          try clear hx181_0
                          try clear hx181_1
                          try clear hx182_0
                          try clear hx182_1
                          try clear hx183_0
                          try clear hx183_1
                          try clear p181
                          try clear p182
                          try clear p183
                          try clear p2
                          try clear p6
                          try clear q181
                          try clear q182
                          try clear q183
                          obtain ⟨kq, x150_45, rfl, HA, HJ45, HO_3, HB⟩ := hcut
                          cases kq with
                          | zero => exact absurd HA.out (by simp [laws_FnBakings.j3])
                          | succ kj45 =>
                            have H := HA.out
                            clear HA
                            simp only [laws_FnBakings.j3] at H
                            by_cases c54 : x150_45 = true
                            · subst c54
                              have H1 : (some false) = some r := by rw [if_pos rfl] at H; exact H
                              clear H
                              have H := H1
                              clear H1
                              exact absurd (Option.some.inj H) (by rw [hr_.out]; decide)
                            · replace c54 := Bool.eq_false_iff.mpr c54
                              subst c54
                              have H1 : ((impl_GainFor.f kj45 t168 t174 (wrap64 (1 + (Int.tmod t171 20))) (Int.tmod t172 (wrap64 ((wrap64 (1 + (Int.tmod t171 20))) + 1)))).bind fun t186 => (if t186 = x10_3 then ((impl_SoldOutWeight.f kj45 t168 1000).bind fun t187 => (if t187 = 0 then ((impl_GainFor.f kj45 t168 0 (wrap64 (1 + (Int.tmod t171 20))) (Int.tmod t172 (wrap64 ((wrap64 (1 + (Int.tmod t171 20))) + 1)))).bind fun t188 => (if t188 = 0 then ((impl_IsBetter.f kj45 t168 t173 t173 (wrap64 (1 + (Int.tmod t171 20))) (Int.tmod t172 (wrap64 ((wrap64 (1 + (Int.tmod t171 20))) + 1)))).bind fun t189 => (if t189 = true then (some false) else ((impl_OddsOk.f kj45 t168).bind fun t190 => (if t190 = true then (if t174 ≤ t173 then (some true) else ((impl_SoldOutWeight.f kj45 t168 t174).bind fun t191 => (some (decide (t191 ≤ t184))))) else (some false))))) else (some false))) else (some false))) else (some false))) = some r := by rw [if_neg (show ¬ (false = true) by decide)] at H; exact H
                              clear H
                              have H := H1
                              clear H1
                              replace H := Option.bind_eq_some_iff.mp H
                              obtain ⟨t186, A550, H⟩ := H
                              replace H : (if t186 = x10_3 then ((impl_SoldOutWeight.f kj45 t168 1000).bind fun t187 => (if t187 = 0 then ((impl_GainFor.f kj45 t168 0 (wrap64 (1 + (Int.tmod t171 20))) (Int.tmod t172 (wrap64 ((wrap64 (1 + (Int.tmod t171 20))) + 1)))).bind fun t188 => (if t188 = 0 then ((impl_IsBetter.f kj45 t168 t173 t173 (wrap64 (1 + (Int.tmod t171 20))) (Int.tmod t172 (wrap64 ((wrap64 (1 + (Int.tmod t171 20))) + 1)))).bind fun t189 => (if t189 = true then (some false) else ((impl_OddsOk.f kj45 t168).bind fun t190 => (if t190 = true then (if t174 ≤ t173 then (some true) else ((impl_SoldOutWeight.f kj45 t168 t174).bind fun t191 => (some (decide (t191 ≤ t184))))) else (some false))))) else (some false))) else (some false))) else (some false)) = some r := H
                              have A55 := Aside0.mk A550
                              clear A550
                              by_cases c56 : t186 = x10_3
                              · rw [if_pos c56] at H
                                have c56b0 : (t186 == x10_3) = true := beq_iff_eq.mpr c56
                                have c56b1 : (t186 != x10_3) = false := bne_eq_false_iff_eq.mpr c56
                                clear c56
                                replace H := Option.bind_eq_some_iff.mp H
                                obtain ⟨t187, A570, H⟩ := H
                                replace H : (if t187 = 0 then ((impl_GainFor.f kj45 t168 0 (wrap64 (1 + (Int.tmod t171 20))) (Int.tmod t172 (wrap64 ((wrap64 (1 + (Int.tmod t171 20))) + 1)))).bind fun t188 => (if t188 = 0 then ((impl_IsBetter.f kj45 t168 t173 t173 (wrap64 (1 + (Int.tmod t171 20))) (Int.tmod t172 (wrap64 ((wrap64 (1 + (Int.tmod t171 20))) + 1)))).bind fun t189 => (if t189 = true then (some false) else ((impl_OddsOk.f kj45 t168).bind fun t190 => (if t190 = true then (if t174 ≤ t173 then (some true) else ((impl_SoldOutWeight.f kj45 t168 t174).bind fun t191 => (some (decide (t191 ≤ t184))))) else (some false))))) else (some false))) else (some false)) = some r := H
                                have A57 := Aside0.mk A570
                                clear A570
                                by_cases c58 : t187 = 0
                                · rw [if_pos c58] at H
                                  have c58b0 : (t187 == 0) = true := beq_iff_eq.mpr c58
                                  have c58b1 : (t187 != 0) = false := bne_eq_false_iff_eq.mpr c58
                                  clear c58
                                  replace H := Option.bind_eq_some_iff.mp H
                                  obtain ⟨t188, A590, H⟩ := H
                                  replace H : (if t188 = 0 then ((impl_IsBetter.f kj45 t168 t173 t173 (wrap64 (1 + (Int.tmod t171 20))) (Int.tmod t172 (wrap64 ((wrap64 (1 + (Int.tmod t171 20))) + 1)))).bind fun t189 => (if t189 = true then (some false) else ((impl_OddsOk.f kj45 t168).bind fun t190 => (if t190 = true then (if t174 ≤ t173 then (some true) else ((impl_SoldOutWeight.f kj45 t168 t174).bind fun t191 => (some (decide (t191 ≤ t184))))) else (some false))))) else (some false)) = some r := H
                                  have A59 := Aside0.mk A590
                                  clear A590
                                  by_cases c60 : t188 = 0
                                  · rw [if_pos c60] at H
                                    have c60b0 : (t188 == 0) = true := beq_iff_eq.mpr c60
                                    have c60b1 : (t188 != 0) = false := bne_eq_false_iff_eq.mpr c60
                                    clear c60
                                    replace H := Option.bind_eq_some_iff.mp H
                                    obtain ⟨t189, A610, H⟩ := H
                                    replace H : (if t189 = true then (some false) else ((impl_OddsOk.f kj45 t168).bind fun t190 => (if t190 = true then (if t174 ≤ t173 then (some true) else ((impl_SoldOutWeight.f kj45 t168 t174).bind fun t191 => (some (decide (t191 ≤ t184))))) else (some false)))) = some r := H
                                    have A61 := Aside0.mk A610
                                    clear A610
                                    by_cases c62 : t189 = true
                                    · subst c62
                                      have H1 : (some false) = some r := by rw [if_pos rfl] at H; exact H
                                      clear H
                                      have H := H1
                                      clear H1
                                      exact absurd (Option.some.inj H) (by rw [hr_.out]; decide)
                                    · replace c62 := Bool.eq_false_iff.mpr c62
                                      subst c62
                                      have H1 : ((impl_OddsOk.f kj45 t168).bind fun t190 => (if t190 = true then (if t174 ≤ t173 then (some true) else ((impl_SoldOutWeight.f kj45 t168 t174).bind fun t191 => (some (decide (t191 ≤ t184))))) else (some false))) = some r := by rw [if_neg (show ¬ (false = true) by decide)] at H; exact H
                                      clear H
                                      have H := H1
                                      clear H1
                                      replace H := Option.bind_eq_some_iff.mp H
                                      obtain ⟨t190, A630, H⟩ := H
                                      replace H : (if t190 = true then (if t174 ≤ t173 then (some true) else ((impl_SoldOutWeight.f kj45 t168 t174).bind fun t191 => (some (decide (t191 ≤ t184))))) else (some false)) = some r := H
                                      have A63 := Aside0.mk A630
                                      clear A630
                                      by_cases c64 : t190 = true
                                      · subst c64
                                        have H1 : (if t174 ≤ t173 then (some true) else ((impl_SoldOutWeight.f kj45 t168 t174).bind fun t191 => (some (decide (t191 ≤ t184))))) = some r := by rw [if_pos rfl] at H; exact H
                                        clear H
                                        have H := H1
                                        clear H1
                                        by_cases c65 : t174 ≤ t173
                                        · rw [if_pos c65] at H
                                          have c65b0 : decide (t174 ≤ t173) = true := decide_eq_true c65
                                          clear c65
                                          obtain rfl := Option.some.inj H
                                          go_wp2_with (first | (go_at_call 40; (with_reducible refine (impl_GainFor.calls kj45 _ _ t168 t174 (wrap64 (1 + (Int.tmod t171 20))) (Int.tmod t172 (wrap64 ((wrap64 (1 + (Int.tmod t171 20))) + 1))) t186 _ ?side1 ?side2 A55.out).mono ?_); (case side1 => repeat (first | exact (Kd.R_reads' HO_3.out).2.2 | (with_reducible refine Kd.C_alloc ?_ _) | (with_reducible refine Kd.C_drewN ?_ _) | (with_reducible refine Kd.C_drew ?_))); (case side2 => exact (Kd.R_reads' HO_3.out).2.1); rintro e w66 ⟨rfl, hb⟩; have n0_ := Aside0.mk (Kd.R_below (by (with_reducible repeat (first | apply Kd.R_alloc | apply Kd.R_drewN | apply Kd.R_drew)); exact HO_3.out) hb); have n1_ := Aside0.mk (below_step (by repeat (first | (with_reducible first | exact HB.out | apply below_alloc | apply pw_below_drewN | apply below_drew1) | exact HB.out)) hb); clear HO_3; clear HB; have HO_3 := n0_; have HB := n1_; clear n0_ n1_; (try clear hb); (try clear hb2); (try clear hk); (try clear hi)) | (go_at_call 43; (with_reducible refine (impl_SoldOutWeight.calls kj45 _ _ t168 1000 t187 _ ?side1 ?side2 A57.out).mono ?_); (case side1 => repeat (first | exact (Kd.R_reads' HO_3.out).2.2 | (with_reducible refine Kd.C_alloc ?_ _) | (with_reducible refine Kd.C_drewN ?_ _) | (with_reducible refine Kd.C_drew ?_))); (case side2 => exact (Kd.R_reads' HO_3.out).2.1); rintro e w67 ⟨rfl, hb⟩; have n0_ := Aside0.mk (Kd.R_below (by (with_reducible repeat (first | apply Kd.R_alloc | apply Kd.R_drewN | apply Kd.R_drew)); exact HO_3.out) hb); have n1_ := Aside0.mk (below_step (by repeat (first | (with_reducible first | exact HB.out | apply below_alloc | apply pw_below_drewN | apply below_drew1) | exact HB.out)) hb); clear HO_3; clear HB; have HO_3 := n0_; have HB := n1_; clear n0_ n1_; (try clear hb); (try clear hb2); (try clear hk); (try clear hi)) | (go_at_call 40; (with_reducible refine (impl_GainFor.calls kj45 _ _ t168 0 (wrap64 (1 + (Int.tmod t171 20))) (Int.tmod t172 (wrap64 ((wrap64 (1 + (Int.tmod t171 20))) + 1))) t188 _ ?side1 ?side2 A59.out).mono ?_); (case side1 => repeat (first | exact (Kd.R_reads' HO_3.out).2.2 | (with_reducible refine Kd.C_alloc ?_ _) | (with_reducible refine Kd.C_drewN ?_ _) | (with_reducible refine Kd.C_drew ?_))); (case side2 => exact (Kd.R_reads' HO_3.out).2.1); rintro e w68 ⟨rfl, hb⟩; have n0_ := Aside0.mk (Kd.R_below (by (with_reducible repeat (first | apply Kd.R_alloc | apply Kd.R_drewN | apply Kd.R_drew)); exact HO_3.out) hb); have n1_ := Aside0.mk (below_step (by repeat (first | (with_reducible first | exact HB.out | apply below_alloc | apply pw_below_drewN | apply below_drew1) | exact HB.out)) hb); clear HO_3; clear HB; have HO_3 := n0_; have HB := n1_; clear n0_ n1_; (try clear hb); (try clear hb2); (try clear hk); (try clear hi)) | (go_at_call 45; (with_reducible refine (impl_IsBetter.calls kj45 _ _ t168 t173 t173 (wrap64 (1 + (Int.tmod t171 20))) (Int.tmod t172 (wrap64 ((wrap64 (1 + (Int.tmod t171 20))) + 1))) false _ ?side1 ?side2 A61.out).mono ?_); (case side1 => repeat (first | exact (Kd.R_reads' HO_3.out).2.2 | (with_reducible refine Kd.C_alloc ?_ _) | (with_reducible refine Kd.C_drewN ?_ _) | (with_reducible refine Kd.C_drew ?_))); (case side2 => exact (Kd.R_reads' HO_3.out).2.1); rintro e w69 ⟨rfl, hb⟩; have n0_ := Aside0.mk (Kd.R_below (by (with_reducible repeat (first | apply Kd.R_alloc | apply Kd.R_drewN | apply Kd.R_drew)); exact HO_3.out) hb); have n1_ := Aside0.mk (below_step (by repeat (first | (with_reducible first | exact HB.out | apply below_alloc | apply pw_below_drewN | apply below_drew1) | exact HB.out)) hb); clear HO_3; clear HB; have HO_3 := n0_; have HB := n1_; clear n0_ n1_; (try clear hb); (try clear hb2); (try clear hk); (try clear hi)) | (go_at_call 49; (with_reducible refine (impl_OddsOk.calls kj45 _ _ t168 true _ ?side1 ?side2 A63.out).mono ?_); (case side1 => repeat (first | exact (Kd.R_reads' HO_3.out).2.2 | (with_reducible refine Kd.C_alloc ?_ _) | (with_reducible refine Kd.C_drewN ?_ _) | (with_reducible refine Kd.C_drew ?_))); (case side2 => exact (Kd.R_reads' HO_3.out).2.1); rintro e w70 ⟨rfl, hb⟩; have n0_ := Aside0.mk (Kd.R_below (by (with_reducible repeat (first | apply Kd.R_alloc | apply Kd.R_drewN | apply Kd.R_drew)); exact HO_3.out) hb); have n1_ := Aside0.mk (below_step (by repeat (first | (with_reducible first | exact HB.out | apply below_alloc | apply pw_below_drewN | apply below_drew1) | exact HB.out)) hb); clear HO_3; clear HB; have HO_3 := n0_; have HB := n1_; clear n0_ n1_; (try clear hb); (try clear hb2); (try clear hk); (try clear hi)))
                                          repeat (go_quiet (first | (go_at_call 40; (with_reducible refine (impl_GainFor.calls kj45 _ _ t168 t174 (wrap64 (1 + (Int.tmod t171 20))) (Int.tmod t172 (wrap64 ((wrap64 (1 + (Int.tmod t171 20))) + 1))) t186 _ ?side1 ?side2 A55.out).mono ?_); (case side1 => repeat (first | exact (Kd.R_reads' HO_3.out).2.2 | (with_reducible refine Kd.C_alloc ?_ _) | (with_reducible refine Kd.C_drewN ?_ _) | (with_reducible refine Kd.C_drew ?_))); (case side2 => exact (Kd.R_reads' HO_3.out).2.1); rintro e w66 ⟨rfl, hb⟩; have n0_ := Aside0.mk (Kd.R_below (by (with_reducible repeat (first | apply Kd.R_alloc | apply Kd.R_drewN | apply Kd.R_drew)); exact HO_3.out) hb); have n1_ := Aside0.mk (below_step (by repeat (first | (with_reducible first | exact HB.out | apply below_alloc | apply pw_below_drewN | apply below_drew1) | exact HB.out)) hb); clear HO_3; clear HB; have HO_3 := n0_; have HB := n1_; clear n0_ n1_; (try clear hb); (try clear hb2); (try clear hk); (try clear hi)) | (go_at_call 43; (with_reducible refine (impl_SoldOutWeight.calls kj45 _ _ t168 1000 t187 _ ?side1 ?side2 A57.out).mono ?_); (case side1 => repeat (first | exact (Kd.R_reads' HO_3.out).2.2 | (with_reducible refine Kd.C_alloc ?_ _) | (with_reducible refine Kd.C_drewN ?_ _) | (with_reducible refine Kd.C_drew ?_))); (case side2 => exact (Kd.R_reads' HO_3.out).2.1); rintro e w67 ⟨rfl, hb⟩; have n0_ := Aside0.mk (Kd.R_below (by (with_reducible repeat (first | apply Kd.R_alloc | apply Kd.R_drewN | apply Kd.R_drew)); exact HO_3.out) hb); have n1_ := Aside0.mk (below_step (by repeat (first | (with_reducible first | exact HB.out | apply below_alloc | apply pw_below_drewN | apply below_drew1) | exact HB.out)) hb); clear HO_3; clear HB; have HO_3 := n0_; have HB := n1_; clear n0_ n1_; (try clear hb); (try clear hb2); (try clear hk); (try clear hi)) | (go_at_call 40; (with_reducible refine (impl_GainFor.calls kj45 _ _ t168 0 (wrap64 (1 + (Int.tmod t171 20))) (Int.tmod t172 (wrap64 ((wrap64 (1 + (Int.tmod t171 20))) + 1))) t188 _ ?side1 ?side2 A59.out).mono ?_); (case side1 => repeat (first | exact (Kd.R_reads' HO_3.out).2.2 | (with_reducible refine Kd.C_alloc ?_ _) | (with_reducible refine Kd.C_drewN ?_ _) | (with_reducible refine Kd.C_drew ?_))); (case side2 => exact (Kd.R_reads' HO_3.out).2.1); rintro e w68 ⟨rfl, hb⟩; have n0_ := Aside0.mk (Kd.R_below (by (with_reducible repeat (first | apply Kd.R_alloc | apply Kd.R_drewN | apply Kd.R_drew)); exact HO_3.out) hb); have n1_ := Aside0.mk (below_step (by repeat (first | (with_reducible first | exact HB.out | apply below_alloc | apply pw_below_drewN | apply below_drew1) | exact HB.out)) hb); clear HO_3; clear HB; have HO_3 := n0_; have HB := n1_; clear n0_ n1_; (try clear hb); (try clear hb2); (try clear hk); (try clear hi)) | (go_at_call 45; (with_reducible refine (impl_IsBetter.calls kj45 _ _ t168 t173 t173 (wrap64 (1 + (Int.tmod t171 20))) (Int.tmod t172 (wrap64 ((wrap64 (1 + (Int.tmod t171 20))) + 1))) false _ ?side1 ?side2 A61.out).mono ?_); (case side1 => repeat (first | exact (Kd.R_reads' HO_3.out).2.2 | (with_reducible refine Kd.C_alloc ?_ _) | (with_reducible refine Kd.C_drewN ?_ _) | (with_reducible refine Kd.C_drew ?_))); (case side2 => exact (Kd.R_reads' HO_3.out).2.1); rintro e w69 ⟨rfl, hb⟩; have n0_ := Aside0.mk (Kd.R_below (by (with_reducible repeat (first | apply Kd.R_alloc | apply Kd.R_drewN | apply Kd.R_drew)); exact HO_3.out) hb); have n1_ := Aside0.mk (below_step (by repeat (first | (with_reducible first | exact HB.out | apply below_alloc | apply pw_below_drewN | apply below_drew1) | exact HB.out)) hb); clear HO_3; clear HB; have HO_3 := n0_; have HB := n1_; clear n0_ n1_; (try clear hb); (try clear hb2); (try clear hk); (try clear hi)) | (go_at_call 49; (with_reducible refine (impl_OddsOk.calls kj45 _ _ t168 true _ ?side1 ?side2 A63.out).mono ?_); (case side1 => repeat (first | exact (Kd.R_reads' HO_3.out).2.2 | (with_reducible refine Kd.C_alloc ?_ _) | (with_reducible refine Kd.C_drewN ?_ _) | (with_reducible refine Kd.C_drew ?_))); (case side2 => exact (Kd.R_reads' HO_3.out).2.1); rintro e w70 ⟨rfl, hb⟩; have n0_ := Aside0.mk (Kd.R_below (by (with_reducible repeat (first | apply Kd.R_alloc | apply Kd.R_drewN | apply Kd.R_drew)); exact HO_3.out) hb); have n1_ := Aside0.mk (below_step (by repeat (first | (with_reducible first | exact HB.out | apply below_alloc | apply pw_below_drewN | apply below_drew1) | exact HB.out)) hb); clear HO_3; clear HB; have HO_3 := n0_; have HB := n1_; clear n0_ n1_; (try clear hb); (try clear hb2); (try clear hk); (try clear hi))); try go_wp2_with (first | (go_at_call 40; (with_reducible refine (impl_GainFor.calls kj45 _ _ t168 t174 (wrap64 (1 + (Int.tmod t171 20))) (Int.tmod t172 (wrap64 ((wrap64 (1 + (Int.tmod t171 20))) + 1))) t186 _ ?side1 ?side2 A55.out).mono ?_); (case side1 => repeat (first | exact (Kd.R_reads' HO_3.out).2.2 | (with_reducible refine Kd.C_alloc ?_ _) | (with_reducible refine Kd.C_drewN ?_ _) | (with_reducible refine Kd.C_drew ?_))); (case side2 => exact (Kd.R_reads' HO_3.out).2.1); rintro e w66 ⟨rfl, hb⟩; have n0_ := Aside0.mk (Kd.R_below (by (with_reducible repeat (first | apply Kd.R_alloc | apply Kd.R_drewN | apply Kd.R_drew)); exact HO_3.out) hb); have n1_ := Aside0.mk (below_step (by repeat (first | (with_reducible first | exact HB.out | apply below_alloc | apply pw_below_drewN | apply below_drew1) | exact HB.out)) hb); clear HO_3; clear HB; have HO_3 := n0_; have HB := n1_; clear n0_ n1_; (try clear hb); (try clear hb2); (try clear hk); (try clear hi)) | (go_at_call 43; (with_reducible refine (impl_SoldOutWeight.calls kj45 _ _ t168 1000 t187 _ ?side1 ?side2 A57.out).mono ?_); (case side1 => repeat (first | exact (Kd.R_reads' HO_3.out).2.2 | (with_reducible refine Kd.C_alloc ?_ _) | (with_reducible refine Kd.C_drewN ?_ _) | (with_reducible refine Kd.C_drew ?_))); (case side2 => exact (Kd.R_reads' HO_3.out).2.1); rintro e w67 ⟨rfl, hb⟩; have n0_ := Aside0.mk (Kd.R_below (by (with_reducible repeat (first | apply Kd.R_alloc | apply Kd.R_drewN | apply Kd.R_drew)); exact HO_3.out) hb); have n1_ := Aside0.mk (below_step (by repeat (first | (with_reducible first | exact HB.out | apply below_alloc | apply pw_below_drewN | apply below_drew1) | exact HB.out)) hb); clear HO_3; clear HB; have HO_3 := n0_; have HB := n1_; clear n0_ n1_; (try clear hb); (try clear hb2); (try clear hk); (try clear hi)) | (go_at_call 40; (with_reducible refine (impl_GainFor.calls kj45 _ _ t168 0 (wrap64 (1 + (Int.tmod t171 20))) (Int.tmod t172 (wrap64 ((wrap64 (1 + (Int.tmod t171 20))) + 1))) t188 _ ?side1 ?side2 A59.out).mono ?_); (case side1 => repeat (first | exact (Kd.R_reads' HO_3.out).2.2 | (with_reducible refine Kd.C_alloc ?_ _) | (with_reducible refine Kd.C_drewN ?_ _) | (with_reducible refine Kd.C_drew ?_))); (case side2 => exact (Kd.R_reads' HO_3.out).2.1); rintro e w68 ⟨rfl, hb⟩; have n0_ := Aside0.mk (Kd.R_below (by (with_reducible repeat (first | apply Kd.R_alloc | apply Kd.R_drewN | apply Kd.R_drew)); exact HO_3.out) hb); have n1_ := Aside0.mk (below_step (by repeat (first | (with_reducible first | exact HB.out | apply below_alloc | apply pw_below_drewN | apply below_drew1) | exact HB.out)) hb); clear HO_3; clear HB; have HO_3 := n0_; have HB := n1_; clear n0_ n1_; (try clear hb); (try clear hb2); (try clear hk); (try clear hi)) | (go_at_call 45; (with_reducible refine (impl_IsBetter.calls kj45 _ _ t168 t173 t173 (wrap64 (1 + (Int.tmod t171 20))) (Int.tmod t172 (wrap64 ((wrap64 (1 + (Int.tmod t171 20))) + 1))) false _ ?side1 ?side2 A61.out).mono ?_); (case side1 => repeat (first | exact (Kd.R_reads' HO_3.out).2.2 | (with_reducible refine Kd.C_alloc ?_ _) | (with_reducible refine Kd.C_drewN ?_ _) | (with_reducible refine Kd.C_drew ?_))); (case side2 => exact (Kd.R_reads' HO_3.out).2.1); rintro e w69 ⟨rfl, hb⟩; have n0_ := Aside0.mk (Kd.R_below (by (with_reducible repeat (first | apply Kd.R_alloc | apply Kd.R_drewN | apply Kd.R_drew)); exact HO_3.out) hb); have n1_ := Aside0.mk (below_step (by repeat (first | (with_reducible first | exact HB.out | apply below_alloc | apply pw_below_drewN | apply below_drew1) | exact HB.out)) hb); clear HO_3; clear HB; have HO_3 := n0_; have HB := n1_; clear n0_ n1_; (try clear hb); (try clear hb2); (try clear hk); (try clear hi)) | (go_at_call 49; (with_reducible refine (impl_OddsOk.calls kj45 _ _ t168 true _ ?side1 ?side2 A63.out).mono ?_); (case side1 => repeat (first | exact (Kd.R_reads' HO_3.out).2.2 | (with_reducible refine Kd.C_alloc ?_ _) | (with_reducible refine Kd.C_drewN ?_ _) | (with_reducible refine Kd.C_drew ?_))); (case side2 => exact (Kd.R_reads' HO_3.out).2.1); rintro e w70 ⟨rfl, hb⟩; have n0_ := Aside0.mk (Kd.R_below (by (with_reducible repeat (first | apply Kd.R_alloc | apply Kd.R_drewN | apply Kd.R_drew)); exact HO_3.out) hb); have n1_ := Aside0.mk (below_step (by repeat (first | (with_reducible first | exact HB.out | apply below_alloc | apply pw_below_drewN | apply below_drew1) | exact HB.out)) hb); clear HO_3; clear HB; have HO_3 := n0_; have HB := n1_; clear n0_ n1_; (try clear hb); (try clear hb2); (try clear hk); (try clear hi))))
                                          go_ret
                                          exact ⟨by first | rfl | (simp [errW_none, errW_some] <;> rfl) | (simp [*, errW_none, errW_some] <;> rfl), by repeat (first | (with_reducible first | exact HB.out | apply below_alloc | apply pw_below_drewN | apply below_drew1) | exact HB.out)⟩
                                        · rw [if_neg c65] at H
                                          have c65b0 : decide (t174 ≤ t173) = false := decide_eq_false c65
                                          clear c65
                                          replace H := Option.bind_eq_some_iff.mp H
                                          obtain ⟨t191, A710, H⟩ := H
                                          replace H : (some (decide (t191 ≤ t184))) = some r := H
                                          have A71 := Aside0.mk A710
                                          clear A710
                                          obtain rfl := Option.some.inj H
                                          go_wp2_with (first | (go_at_call 40; (with_reducible refine (impl_GainFor.calls kj45 _ _ t168 t174 (wrap64 (1 + (Int.tmod t171 20))) (Int.tmod t172 (wrap64 ((wrap64 (1 + (Int.tmod t171 20))) + 1))) t186 _ ?side1 ?side2 A55.out).mono ?_); (case side1 => repeat (first | exact (Kd.R_reads' HO_3.out).2.2 | (with_reducible refine Kd.C_alloc ?_ _) | (with_reducible refine Kd.C_drewN ?_ _) | (with_reducible refine Kd.C_drew ?_))); (case side2 => exact (Kd.R_reads' HO_3.out).2.1); rintro e w72 ⟨rfl, hb⟩; have n0_ := Aside0.mk (Kd.R_below (by (with_reducible repeat (first | apply Kd.R_alloc | apply Kd.R_drewN | apply Kd.R_drew)); exact HO_3.out) hb); have n1_ := Aside0.mk (below_step (by repeat (first | (with_reducible first | exact HB.out | apply below_alloc | apply pw_below_drewN | apply below_drew1) | exact HB.out)) hb); clear HO_3; clear HB; have HO_3 := n0_; have HB := n1_; clear n0_ n1_; (try clear hb); (try clear hb2); (try clear hk); (try clear hi)) | (go_at_call 43; (with_reducible refine (impl_SoldOutWeight.calls kj45 _ _ t168 1000 t187 _ ?side1 ?side2 A57.out).mono ?_); (case side1 => repeat (first | exact (Kd.R_reads' HO_3.out).2.2 | (with_reducible refine Kd.C_alloc ?_ _) | (with_reducible refine Kd.C_drewN ?_ _) | (with_reducible refine Kd.C_drew ?_))); (case side2 => exact (Kd.R_reads' HO_3.out).2.1); rintro e w73 ⟨rfl, hb⟩; have n0_ := Aside0.mk (Kd.R_below (by (with_reducible repeat (first | apply Kd.R_alloc | apply Kd.R_drewN | apply Kd.R_drew)); exact HO_3.out) hb); have n1_ := Aside0.mk (below_step (by repeat (first | (with_reducible first | exact HB.out | apply below_alloc | apply pw_below_drewN | apply below_drew1) | exact HB.out)) hb); clear HO_3; clear HB; have HO_3 := n0_; have HB := n1_; clear n0_ n1_; (try clear hb); (try clear hb2); (try clear hk); (try clear hi)) | (go_at_call 40; (with_reducible refine (impl_GainFor.calls kj45 _ _ t168 0 (wrap64 (1 + (Int.tmod t171 20))) (Int.tmod t172 (wrap64 ((wrap64 (1 + (Int.tmod t171 20))) + 1))) t188 _ ?side1 ?side2 A59.out).mono ?_); (case side1 => repeat (first | exact (Kd.R_reads' HO_3.out).2.2 | (with_reducible refine Kd.C_alloc ?_ _) | (with_reducible refine Kd.C_drewN ?_ _) | (with_reducible refine Kd.C_drew ?_))); (case side2 => exact (Kd.R_reads' HO_3.out).2.1); rintro e w74 ⟨rfl, hb⟩; have n0_ := Aside0.mk (Kd.R_below (by (with_reducible repeat (first | apply Kd.R_alloc | apply Kd.R_drewN | apply Kd.R_drew)); exact HO_3.out) hb); have n1_ := Aside0.mk (below_step (by repeat (first | (with_reducible first | exact HB.out | apply below_alloc | apply pw_below_drewN | apply below_drew1) | exact HB.out)) hb); clear HO_3; clear HB; have HO_3 := n0_; have HB := n1_; clear n0_ n1_; (try clear hb); (try clear hb2); (try clear hk); (try clear hi)) | (go_at_call 45; (with_reducible refine (impl_IsBetter.calls kj45 _ _ t168 t173 t173 (wrap64 (1 + (Int.tmod t171 20))) (Int.tmod t172 (wrap64 ((wrap64 (1 + (Int.tmod t171 20))) + 1))) false _ ?side1 ?side2 A61.out).mono ?_); (case side1 => repeat (first | exact (Kd.R_reads' HO_3.out).2.2 | (with_reducible refine Kd.C_alloc ?_ _) | (with_reducible refine Kd.C_drewN ?_ _) | (with_reducible refine Kd.C_drew ?_))); (case side2 => exact (Kd.R_reads' HO_3.out).2.1); rintro e w75 ⟨rfl, hb⟩; have n0_ := Aside0.mk (Kd.R_below (by (with_reducible repeat (first | apply Kd.R_alloc | apply Kd.R_drewN | apply Kd.R_drew)); exact HO_3.out) hb); have n1_ := Aside0.mk (below_step (by repeat (first | (with_reducible first | exact HB.out | apply below_alloc | apply pw_below_drewN | apply below_drew1) | exact HB.out)) hb); clear HO_3; clear HB; have HO_3 := n0_; have HB := n1_; clear n0_ n1_; (try clear hb); (try clear hb2); (try clear hk); (try clear hi)) | (go_at_call 49; (with_reducible refine (impl_OddsOk.calls kj45 _ _ t168 true _ ?side1 ?side2 A63.out).mono ?_); (case side1 => repeat (first | exact (Kd.R_reads' HO_3.out).2.2 | (with_reducible refine Kd.C_alloc ?_ _) | (with_reducible refine Kd.C_drewN ?_ _) | (with_reducible refine Kd.C_drew ?_))); (case side2 => exact (Kd.R_reads' HO_3.out).2.1); rintro e w76 ⟨rfl, hb⟩; have n0_ := Aside0.mk (Kd.R_below (by (with_reducible repeat (first | apply Kd.R_alloc | apply Kd.R_drewN | apply Kd.R_drew)); exact HO_3.out) hb); have n1_ := Aside0.mk (below_step (by repeat (first | (with_reducible first | exact HB.out | apply below_alloc | apply pw_below_drewN | apply below_drew1) | exact HB.out)) hb); clear HO_3; clear HB; have HO_3 := n0_; have HB := n1_; clear n0_ n1_; (try clear hb); (try clear hb2); (try clear hk); (try clear hi)) | (go_at_call 43; (with_reducible refine (impl_SoldOutWeight.calls kj45 _ _ t168 t174 t191 _ ?side1 ?side2 A71.out).mono ?_); (case side1 => repeat (first | exact (Kd.R_reads' HO_3.out).2.2 | (with_reducible refine Kd.C_alloc ?_ _) | (with_reducible refine Kd.C_drewN ?_ _) | (with_reducible refine Kd.C_drew ?_))); (case side2 => exact (Kd.R_reads' HO_3.out).2.1); rintro e w77 ⟨rfl, hb⟩; have n0_ := Aside0.mk (Kd.R_below (by (with_reducible repeat (first | apply Kd.R_alloc | apply Kd.R_drewN | apply Kd.R_drew)); exact HO_3.out) hb); have n1_ := Aside0.mk (below_step (by repeat (first | (with_reducible first | exact HB.out | apply below_alloc | apply pw_below_drewN | apply below_drew1) | exact HB.out)) hb); clear HO_3; clear HB; have HO_3 := n0_; have HB := n1_; clear n0_ n1_; (try clear hb); (try clear hb2); (try clear hk); (try clear hi)))
                                          repeat (go_quiet (first | (go_at_call 40; (with_reducible refine (impl_GainFor.calls kj45 _ _ t168 t174 (wrap64 (1 + (Int.tmod t171 20))) (Int.tmod t172 (wrap64 ((wrap64 (1 + (Int.tmod t171 20))) + 1))) t186 _ ?side1 ?side2 A55.out).mono ?_); (case side1 => repeat (first | exact (Kd.R_reads' HO_3.out).2.2 | (with_reducible refine Kd.C_alloc ?_ _) | (with_reducible refine Kd.C_drewN ?_ _) | (with_reducible refine Kd.C_drew ?_))); (case side2 => exact (Kd.R_reads' HO_3.out).2.1); rintro e w72 ⟨rfl, hb⟩; have n0_ := Aside0.mk (Kd.R_below (by (with_reducible repeat (first | apply Kd.R_alloc | apply Kd.R_drewN | apply Kd.R_drew)); exact HO_3.out) hb); have n1_ := Aside0.mk (below_step (by repeat (first | (with_reducible first | exact HB.out | apply below_alloc | apply pw_below_drewN | apply below_drew1) | exact HB.out)) hb); clear HO_3; clear HB; have HO_3 := n0_; have HB := n1_; clear n0_ n1_; (try clear hb); (try clear hb2); (try clear hk); (try clear hi)) | (go_at_call 43; (with_reducible refine (impl_SoldOutWeight.calls kj45 _ _ t168 1000 t187 _ ?side1 ?side2 A57.out).mono ?_); (case side1 => repeat (first | exact (Kd.R_reads' HO_3.out).2.2 | (with_reducible refine Kd.C_alloc ?_ _) | (with_reducible refine Kd.C_drewN ?_ _) | (with_reducible refine Kd.C_drew ?_))); (case side2 => exact (Kd.R_reads' HO_3.out).2.1); rintro e w73 ⟨rfl, hb⟩; have n0_ := Aside0.mk (Kd.R_below (by (with_reducible repeat (first | apply Kd.R_alloc | apply Kd.R_drewN | apply Kd.R_drew)); exact HO_3.out) hb); have n1_ := Aside0.mk (below_step (by repeat (first | (with_reducible first | exact HB.out | apply below_alloc | apply pw_below_drewN | apply below_drew1) | exact HB.out)) hb); clear HO_3; clear HB; have HO_3 := n0_; have HB := n1_; clear n0_ n1_; (try clear hb); (try clear hb2); (try clear hk); (try clear hi)) | (go_at_call 40; (with_reducible refine (impl_GainFor.calls kj45 _ _ t168 0 (wrap64 (1 + (Int.tmod t171 20))) (Int.tmod t172 (wrap64 ((wrap64 (1 + (Int.tmod t171 20))) + 1))) t188 _ ?side1 ?side2 A59.out).mono ?_); (case side1 => repeat (first | exact (Kd.R_reads' HO_3.out).2.2 | (with_reducible refine Kd.C_alloc ?_ _) | (with_reducible refine Kd.C_drewN ?_ _) | (with_reducible refine Kd.C_drew ?_))); (case side2 => exact (Kd.R_reads' HO_3.out).2.1); rintro e w74 ⟨rfl, hb⟩; have n0_ := Aside0.mk (Kd.R_below (by (with_reducible repeat (first | apply Kd.R_alloc | apply Kd.R_drewN | apply Kd.R_drew)); exact HO_3.out) hb); have n1_ := Aside0.mk (below_step (by repeat (first | (with_reducible first | exact HB.out | apply below_alloc | apply pw_below_drewN | apply below_drew1) | exact HB.out)) hb); clear HO_3; clear HB; have HO_3 := n0_; have HB := n1_; clear n0_ n1_; (try clear hb); (try clear hb2); (try clear hk); (try clear hi)) | (go_at_call 45; (with_reducible refine (impl_IsBetter.calls kj45 _ _ t168 t173 t173 (wrap64 (1 + (Int.tmod t171 20))) (Int.tmod t172 (wrap64 ((wrap64 (1 + (Int.tmod t171 20))) + 1))) false _ ?side1 ?side2 A61.out).mono ?_); (case side1 => repeat (first | exact (Kd.R_reads' HO_3.out).2.2 | (with_reducible refine Kd.C_alloc ?_ _) | (with_reducible refine Kd.C_drewN ?_ _) | (with_reducible refine Kd.C_drew ?_))); (case side2 => exact (Kd.R_reads' HO_3.out).2.1); rintro e w75 ⟨rfl, hb⟩; have n0_ := Aside0.mk (Kd.R_below (by (with_reducible repeat (first | apply Kd.R_alloc | apply Kd.R_drewN | apply Kd.R_drew)); exact HO_3.out) hb); have n1_ := Aside0.mk (below_step (by repeat (first | (with_reducible first | exact HB.out | apply below_alloc | apply pw_below_drewN | apply below_drew1) | exact HB.out)) hb); clear HO_3; clear HB; have HO_3 := n0_; have HB := n1_; clear n0_ n1_; (try clear hb); (try clear hb2); (try clear hk); (try clear hi)) | (go_at_call 49; (with_reducible refine (impl_OddsOk.calls kj45 _ _ t168 true _ ?side1 ?side2 A63.out).mono ?_); (case side1 => repeat (first | exact (Kd.R_reads' HO_3.out).2.2 | (with_reducible refine Kd.C_alloc ?_ _) | (with_reducible refine Kd.C_drewN ?_ _) | (with_reducible refine Kd.C_drew ?_))); (case side2 => exact (Kd.R_reads' HO_3.out).2.1); rintro e w76 ⟨rfl, hb⟩; have n0_ := Aside0.mk (Kd.R_below (by (with_reducible repeat (first | apply Kd.R_alloc | apply Kd.R_drewN | apply Kd.R_drew)); exact HO_3.out) hb); have n1_ := Aside0.mk (below_step (by repeat (first | (with_reducible first | exact HB.out | apply below_alloc | apply pw_below_drewN | apply below_drew1) | exact HB.out)) hb); clear HO_3; clear HB; have HO_3 := n0_; have HB := n1_; clear n0_ n1_; (try clear hb); (try clear hb2); (try clear hk); (try clear hi)) | (go_at_call 43; (with_reducible refine (impl_SoldOutWeight.calls kj45 _ _ t168 t174 t191 _ ?side1 ?side2 A71.out).mono ?_); (case side1 => repeat (first | exact (Kd.R_reads' HO_3.out).2.2 | (with_reducible refine Kd.C_alloc ?_ _) | (with_reducible refine Kd.C_drewN ?_ _) | (with_reducible refine Kd.C_drew ?_))); (case side2 => exact (Kd.R_reads' HO_3.out).2.1); rintro e w77 ⟨rfl, hb⟩; have n0_ := Aside0.mk (Kd.R_below (by (with_reducible repeat (first | apply Kd.R_alloc | apply Kd.R_drewN | apply Kd.R_drew)); exact HO_3.out) hb); have n1_ := Aside0.mk (below_step (by repeat (first | (with_reducible first | exact HB.out | apply below_alloc | apply pw_below_drewN | apply below_drew1) | exact HB.out)) hb); clear HO_3; clear HB; have HO_3 := n0_; have HB := n1_; clear n0_ n1_; (try clear hb); (try clear hb2); (try clear hk); (try clear hi))); try go_wp2_with (first | (go_at_call 40; (with_reducible refine (impl_GainFor.calls kj45 _ _ t168 t174 (wrap64 (1 + (Int.tmod t171 20))) (Int.tmod t172 (wrap64 ((wrap64 (1 + (Int.tmod t171 20))) + 1))) t186 _ ?side1 ?side2 A55.out).mono ?_); (case side1 => repeat (first | exact (Kd.R_reads' HO_3.out).2.2 | (with_reducible refine Kd.C_alloc ?_ _) | (with_reducible refine Kd.C_drewN ?_ _) | (with_reducible refine Kd.C_drew ?_))); (case side2 => exact (Kd.R_reads' HO_3.out).2.1); rintro e w72 ⟨rfl, hb⟩; have n0_ := Aside0.mk (Kd.R_below (by (with_reducible repeat (first | apply Kd.R_alloc | apply Kd.R_drewN | apply Kd.R_drew)); exact HO_3.out) hb); have n1_ := Aside0.mk (below_step (by repeat (first | (with_reducible first | exact HB.out | apply below_alloc | apply pw_below_drewN | apply below_drew1) | exact HB.out)) hb); clear HO_3; clear HB; have HO_3 := n0_; have HB := n1_; clear n0_ n1_; (try clear hb); (try clear hb2); (try clear hk); (try clear hi)) | (go_at_call 43; (with_reducible refine (impl_SoldOutWeight.calls kj45 _ _ t168 1000 t187 _ ?side1 ?side2 A57.out).mono ?_); (case side1 => repeat (first | exact (Kd.R_reads' HO_3.out).2.2 | (with_reducible refine Kd.C_alloc ?_ _) | (with_reducible refine Kd.C_drewN ?_ _) | (with_reducible refine Kd.C_drew ?_))); (case side2 => exact (Kd.R_reads' HO_3.out).2.1); rintro e w73 ⟨rfl, hb⟩; have n0_ := Aside0.mk (Kd.R_below (by (with_reducible repeat (first | apply Kd.R_alloc | apply Kd.R_drewN | apply Kd.R_drew)); exact HO_3.out) hb); have n1_ := Aside0.mk (below_step (by repeat (first | (with_reducible first | exact HB.out | apply below_alloc | apply pw_below_drewN | apply below_drew1) | exact HB.out)) hb); clear HO_3; clear HB; have HO_3 := n0_; have HB := n1_; clear n0_ n1_; (try clear hb); (try clear hb2); (try clear hk); (try clear hi)) | (go_at_call 40; (with_reducible refine (impl_GainFor.calls kj45 _ _ t168 0 (wrap64 (1 + (Int.tmod t171 20))) (Int.tmod t172 (wrap64 ((wrap64 (1 + (Int.tmod t171 20))) + 1))) t188 _ ?side1 ?side2 A59.out).mono ?_); (case side1 => repeat (first | exact (Kd.R_reads' HO_3.out).2.2 | (with_reducible refine Kd.C_alloc ?_ _) | (with_reducible refine Kd.C_drewN ?_ _) | (with_reducible refine Kd.C_drew ?_))); (case side2 => exact (Kd.R_reads' HO_3.out).2.1); rintro e w74 ⟨rfl, hb⟩; have n0_ := Aside0.mk (Kd.R_below (by (with_reducible repeat (first | apply Kd.R_alloc | apply Kd.R_drewN | apply Kd.R_drew)); exact HO_3.out) hb); have n1_ := Aside0.mk (below_step (by repeat (first | (with_reducible first | exact HB.out | apply below_alloc | apply pw_below_drewN | apply below_drew1) | exact HB.out)) hb); clear HO_3; clear HB; have HO_3 := n0_; have HB := n1_; clear n0_ n1_; (try clear hb); (try clear hb2); (try clear hk); (try clear hi)) | (go_at_call 45; (with_reducible refine (impl_IsBetter.calls kj45 _ _ t168 t173 t173 (wrap64 (1 + (Int.tmod t171 20))) (Int.tmod t172 (wrap64 ((wrap64 (1 + (Int.tmod t171 20))) + 1))) false _ ?side1 ?side2 A61.out).mono ?_); (case side1 => repeat (first | exact (Kd.R_reads' HO_3.out).2.2 | (with_reducible refine Kd.C_alloc ?_ _) | (with_reducible refine Kd.C_drewN ?_ _) | (with_reducible refine Kd.C_drew ?_))); (case side2 => exact (Kd.R_reads' HO_3.out).2.1); rintro e w75 ⟨rfl, hb⟩; have n0_ := Aside0.mk (Kd.R_below (by (with_reducible repeat (first | apply Kd.R_alloc | apply Kd.R_drewN | apply Kd.R_drew)); exact HO_3.out) hb); have n1_ := Aside0.mk (below_step (by repeat (first | (with_reducible first | exact HB.out | apply below_alloc | apply pw_below_drewN | apply below_drew1) | exact HB.out)) hb); clear HO_3; clear HB; have HO_3 := n0_; have HB := n1_; clear n0_ n1_; (try clear hb); (try clear hb2); (try clear hk); (try clear hi)) | (go_at_call 49; (with_reducible refine (impl_OddsOk.calls kj45 _ _ t168 true _ ?side1 ?side2 A63.out).mono ?_); (case side1 => repeat (first | exact (Kd.R_reads' HO_3.out).2.2 | (with_reducible refine Kd.C_alloc ?_ _) | (with_reducible refine Kd.C_drewN ?_ _) | (with_reducible refine Kd.C_drew ?_))); (case side2 => exact (Kd.R_reads' HO_3.out).2.1); rintro e w76 ⟨rfl, hb⟩; have n0_ := Aside0.mk (Kd.R_below (by (with_reducible repeat (first | apply Kd.R_alloc | apply Kd.R_drewN | apply Kd.R_drew)); exact HO_3.out) hb); have n1_ := Aside0.mk (below_step (by repeat (first | (with_reducible first | exact HB.out | apply below_alloc | apply pw_below_drewN | apply below_drew1) | exact HB.out)) hb); clear HO_3; clear HB; have HO_3 := n0_; have HB := n1_; clear n0_ n1_; (try clear hb); (try clear hb2); (try clear hk); (try clear hi)) | (go_at_call 43; (with_reducible refine (impl_SoldOutWeight.calls kj45 _ _ t168 t174 t191 _ ?side1 ?side2 A71.out).mono ?_); (case side1 => repeat (first | exact (Kd.R_reads' HO_3.out).2.2 | (with_reducible refine Kd.C_alloc ?_ _) | (with_reducible refine Kd.C_drewN ?_ _) | (with_reducible refine Kd.C_drew ?_))); (case side2 => exact (Kd.R_reads' HO_3.out).2.1); rintro e w77 ⟨rfl, hb⟩; have n0_ := Aside0.mk (Kd.R_below (by (with_reducible repeat (first | apply Kd.R_alloc | apply Kd.R_drewN | apply Kd.R_drew)); exact HO_3.out) hb); have n1_ := Aside0.mk (below_step (by repeat (first | (with_reducible first | exact HB.out | apply below_alloc | apply pw_below_drewN | apply below_drew1) | exact HB.out)) hb); clear HO_3; clear HB; have HO_3 := n0_; have HB := n1_; clear n0_ n1_; (try clear hb); (try clear hb2); (try clear hk); (try clear hi))))
                                          go_ret
                                          exact ⟨by first | rfl | (simp [errW_none, errW_some] <;> rfl) | (simp [*, errW_none, errW_some] <;> rfl), by repeat (first | (with_reducible first | exact HB.out | apply below_alloc | apply pw_below_drewN | apply below_drew1) | exact HB.out)⟩
                                      · replace c64 := Bool.eq_false_iff.mpr c64
                                        subst c64
                                        have H1 : (some false) = some r := by rw [if_neg (show ¬ (false = true) by decide)] at H; exact H
                                        clear H
                                        have H := H1
                                        clear H1
                                        exact absurd (Option.some.inj H) (by rw [hr_.out]; decide)
                                  · rw [if_neg c60] at H
                                    have c60b0 : (t188 == 0) = false := beq_eq_false_iff_ne.mpr c60
                                    have c60b1 : (t188 != 0) = true := bne_iff_ne.mpr c60
                                    exact absurd (Option.some.inj H) (by rw [hr_.out]; decide)
                                · rw [if_neg c58] at H
                                  have c58b0 : (t187 == 0) = false := beq_eq_false_iff_ne.mpr c58
                                  have c58b1 : (t187 != 0) = true := bne_iff_ne.mpr c58
                                  exact absurd (Option.some.inj H) (by rw [hr_.out]; decide)
                              · rw [if_neg c56] at H
                                have c56b0 : (t186 == x10_3) = false := beq_eq_false_iff_ne.mpr c56
                                have c56b1 : (t186 != x10_3) = true := bne_iff_ne.mpr c56
                                exact absurd (Option.some.inj H) (by rw [hr_.out]; decide)

/-- THE ONE PURE STATEMENT of laws_FnBakings: yours. -/
def laws_FnBakings.Pure : Prop := ∀ (l0 : List Int), l0.length ≤ maxLen → l0.length * 1 ≤ 140737488351232 → (∀ x ∈ l0, (Lit.int .u8 x).wf = true) → ∃ k, laws_FnBakings.f k l0 = some true
theorem laws_FnBakings.walk (P : laws_FnBakings.Pure) (a0 : Option Addr) (len0 cap0 : Nat) (z0 : List Int) (w : World) (w0 : (a0 = none ∧ len0 = 0 ∧ cap0 = 0 ∧ z0 = []) ∨ ∃ x, a0 = some x ∧ len0 ≤ cap0 ∧ cap0 ≤ maxLen ∧ z0.length = cap0 ∧ (∀ i, i < z0.length → w.cell? (x.add i) = some (.int .u8 (z0.getD i 0))) ∧ ∀ n ∈ z0, (Lit.int .u8 n).wf = true) (y0 : len0 * 1 ≤ 140737488351232) :
    Calls Try.prog 13 #[.slice a0 len0 cap0] w fun e w' => e = .returned (.bool true) ∧ Below w.heap.size w w' := by
  obtain ⟨l0, rfl, hr0, hm0, hw0, hc0⟩ := ReadsInt.ofRowC w0
  obtain ⟨k, h⟩ := P l0 hm0 y0 hw0
  refine (laws_FnBakings.calls k _ _ l0 true w ⟨rfl⟩ (Kd.C_of_reads (d := (0 : Int)) (h1 := fun _ => rfl) hr0) hc0 h).mono ?_
  rintro e w' ⟨rfl, hd⟩
  exact ⟨rfl, hd⟩

end Go.Proofs.Ytkcfpkokgpimaaa.PFnBakings
