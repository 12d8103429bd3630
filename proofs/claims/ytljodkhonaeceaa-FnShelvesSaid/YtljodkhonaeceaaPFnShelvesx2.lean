/- What the Go functions that the law FnShelves reaches compute, each as a plain function, and that the machine's calls come to just that. No condition. -/
import Derived.Test.YtljodkhonaeceaaPFnShelvesx0
import Derived.Test.YtljodkhonaeceaaPFnShelvesx1
namespace Go.Proofs.Ytljodkhonaeceaa.PFnShelves
open Go.RowKit Go.Proofs.YtljodkhonaeceaaW.PrintWords Go.Proofs.YtljodkhonaeceaaW.PrintLast Go.Proofs.YtljodkhonaeceaaW.PrintMore
attribute [local go_sem] max2_int min2_int max_two min_two max_three min_three max_four min_four   -- for this text's walks alone
set_option linter.unusedVariables false
set_option linter.unusedSimpArgs false

/-! ### spec_l01New: function 54 -/
def spec_l01New.l0 : Nat → List Int → Int → Int → Option (List Int × Int × Int)
  | 0, _, _, _ => none
  | k + 1, x0, x3, x4 => if x4 < (x0.length : Int) then (if x4 < 4000 then (if 0 ≤ x4 then (spec_l01New.l0 k x0 (Go.bits .and .i64 (wrap64 ((wrap64 ((wrap64 (x3 * 131)) + (wrap64 (rd x0 x4)))) + 7)) 1073741823) (wrap64 (x4 + 1))) else (none)) else (some (x0, 0, x3))) else (some (x0, 0, x3))
def spec_l01New.f (k : Nat) (l0 : List Int) : Option (List Int × Int × Int) := spec_l01New.l0 k l0 (wrap64 (33101 + (l0.length : Int))) 0
theorem spec_l01New.mono_l : ∀ k, (∀ y0 y1 y2, LeO (spec_l01New.l0 k y0 y1 y2) (spec_l01New.l0 (k + 1) y0 y1 y2))
  | 0 => fun _ _ _ r h => by simp [spec_l01New.l0] at h
  | k + 1 => by
    have ih0 := spec_l01New.mono_l k
    · intro y0 y1 y2
      unfold spec_l01New.l0
      repeat' first
      | (with_reducible exact ih0 _ _ _)
      | (with_reducible exact LeO.refl _)
      | (with_reducible exact LeO.none _)
      | (with_reducible refine LeO.ite ?_ ?_)
      | (with_reducible refine LeO.bind ?_ (fun _ => ?_))
      | exact ih0 _ _ _
      | exact LeO.none _
      | refine LeO.ite ?_ ?_
      | refine LeO.bind ?_ (fun _ => ?_)
theorem spec_l01New.mono : ∀ a0 k, LeO (spec_l01New.f k a0) (spec_l01New.f (k + 1) a0) := by
  intro a0 k
  have ih0 := spec_l01New.mono_l k
  unfold spec_l01New.f
  repeat' first
      | (with_reducible exact ih0 _ _ _)
      | (with_reducible exact LeO.refl _)
      | (with_reducible exact LeO.none _)
      | (with_reducible refine LeO.ite ?_ ?_)
      | (with_reducible refine LeO.bind ?_ (fun _ => ?_))
      | exact ih0 _ _ _
      | exact LeO.none _
      | refine LeO.ite ?_ ?_
      | refine LeO.bind ?_ (fun _ => ?_)
set_option maxHeartbeats 8000000 in
set_option maxRecDepth 100000 in
theorem spec_l01New.calls (k : Nat) (A0 : Option Addr) (c0 : Nat) (l0 : List Int) (r1 : List Int) (r2 : Int) (r3 : Int) (w0 w : World) (hB : Below w0.heap.size w0 w) (hr0 : Kd.C (Kd.int .u8) w0 A0 l0.length l0) (hc0 : l0.length ≤ c0) (h : spec_l01New.f k l0 = some (r1, r2, r3)) :
    Calls Try.prog 54 #[.slice A0 l0.length c0] w fun e w' => ∃ g_ : Nat, e = .returned (.pointer (some ⟨g_, 0, none⟩)) ∧ IsS63 w0 w' g_ r1 r2 r3 ∧ Below w0.heap.size w0 w' ∧ Below w.heap.size w w' := by
  have hu63 := Try.underlying63
  have HR0 := Aside0.mk hr0
  have HC0 := Aside0.mk hc0
  clear hr0 hc0
  have HBW := Aside0.mk (Below.refl w.heap.size w)
  have HW0 := Aside0.mk hB.size
  have HB := Aside0.mk hB
  clear hB
  have H : (spec_l01New.l0 k l0 (wrap64 (33101 + (l0.length : Int))) 0) = some (r1, r2, r3) := h
  clear h
  have H' := Aside0.mk H
  clear H
  go_enter Try.func54, Try.ntmps54
  go_wp2
  go_loopg [3, 4] k (fun kq v3 v4 w' => ∃ (x3_1 : Int) (x4_1 : Int), v3 = .int .i64 x3_1 ∧ v4 = .int .i64 x4_1 ∧ Aside0 (spec_l01New.l0 kq l0 x3_1 x4_1 = some (r1, r2, r3)) ∧ Aside0 (kq ≤ k) ∧ Aside0 (Below w0.heap.size w0 w') ∧ Aside0 (Below w.heap.size w w'))
  case atStart => exact ⟨(wrap64 (33101 + (l0.length : Int))), (0), (by first | rfl | (simp; done) | (simp [*]; done)), (by first | rfl | (simp; done) | (simp [*]; done)), H', ⟨Nat.le_refl _⟩, ⟨by repeat (first | (with_reducible first | exact HB.out | apply below_alloc | apply pw_below_drewN | apply below_drew1) | exact HB.out)⟩, HBW⟩
  case round =>
    clear H' HBW
    obtain ⟨x3_1, x4_1, rfl, rfl, HA, HK1, HB, HBW⟩ := hrel
    cases gk with
    | zero => exact absurd HA.out (by simp [spec_l01New.l0])
    | succ k1 =>
      have H := HA.out
      clear HA
      simp only [spec_l01New.l0] at H
      by_cases c2 : x4_1 < (l0.length : Int)
      · rw [if_pos c2] at H
        have c2b0 : decide (x4_1 < (l0.length : Int)) = true := decide_eq_true c2
        clear c2
        by_cases c3 : x4_1 < 4000
        · rw [if_pos c3] at H
          have c3b0 : decide (x4_1 < 4000) = true := decide_eq_true c3
          clear c3
          by_cases c4 : 0 ≤ x4_1
          · rw [if_pos c4] at H
            have c4b0 : decide (0 ≤ x4_1) = true := decide_eq_true c4
            clear c4
            have H' := Aside0.mk H
            clear H
            have p153 : 0 ≤ (x4_1 : Int) := of_decide_eq_true (by first | (with_reducible assumption) | assumption)
            have q153 : x4_1 < (l0.length : Int) := of_decide_eq_true (by first | (with_reducible assumption) | assumption)
            obtain ⟨ad153, e153, hx153_0⟩ := Kd.at_int HR0.out x4_1 p153 q153
            cases e153
            replace hx153_0 := pw_cell_below HB.out hx153_0
            replace p153 := eq_true p153
            replace q153 := eq_true q153
            go_wp2
            go_roundg k1
            case measure => have := HK1.out; omega
            case rel => exact ⟨(Go.bits .and .i64 (wrap64 ((wrap64 ((wrap64 (x3_1 * 131)) + (wrap64 (rd l0 x4_1)))) + 7)) 1073741823), (wrap64 (x4_1 + 1)), (by first | rfl | (simp; done) | (simp [*]; done)), (by first | rfl | (simp; done) | (simp [*]; done)), H', ⟨by have := HK1.out; omega⟩, ⟨by repeat (first | (with_reducible first | exact HB.out | apply below_alloc | apply pw_below_drewN | apply below_drew1) | exact HB.out)⟩, ⟨by repeat (first | (with_reducible first | exact HBW.out | apply below_alloc | apply pw_below_drewN | apply below_drew1) | exact HBW.out)⟩⟩
          · rw [if_neg c4] at H
            exact absurd H (by simp)
        · rw [if_neg c3] at H
          have c3b0 : decide (x4_1 < 4000) = false := decide_eq_false c3
          clear c3
          simp only [Option.some.injEq, Prod.mk.injEq] at H
          obtain ⟨rfl, rfl, rfl⟩ := H
          go_wp2_with (first | ((with_reducible refine gate_dst (N := 31) rfl ?_); refine box_event ?hg (N := 31) ?hd (cs := #[.slice A0 l0.length c0, .int .i64 0, .int .i64 x3_1]) (t := 63) ?hr ?_; (case hd => rfl); (case hg => rfl); (case hr => first | (go_simp; done) | (go_simp; rfl)); intro gb154 hg w5 hbox hb; have n0_ := Aside0.mk (below_step HBW.out hb); have n1_ := Aside0.mk (below_step (by repeat (first | (with_reducible first | exact HB.out | apply below_alloc | apply pw_below_drewN | apply below_drew1) | exact HB.out)) hb); have n2_ := Aside0.mk (hbox); have n3_ := Aside0.mk ((by rw [hg]; exact (below_size (by repeat (first | (with_reducible first | exact HBW.out | apply below_alloc | apply pw_below_drewN | apply below_drew1) | exact HBW.out))) : w.heap.size ≤ gb154)); have n4_ := Aside0.mk ((Nat.le_trans HW0.out (by rw [hg]; exact (below_size (by repeat (first | (with_reducible first | exact HBW.out | apply below_alloc | apply pw_below_drewN | apply below_drew1) | exact HBW.out))) : w.heap.size ≤ gb154) : w0.heap.size ≤ gb154)); clear HBW; clear HB; have HBW := n0_; have HB := n1_; have BK154 := n2_; have GW154 := n3_; have GE154 := n4_; clear n0_ n1_ n2_ n3_ n4_; clear hb hbox hg))
          go_ret
          exact ⟨_, rfl, (show IsS63 w0 _ gb154 l0 0 x3_1 from ⟨_, _, by (with_reducible repeat (first | refine blk_drewN ?_ _ | refine blk_drew ?_ | refine blk_alloc ?_ _)); exact BK154.out, GE154.out, HR0.out⟩), by repeat (first | (with_reducible first | exact HB.out | apply below_alloc | apply pw_below_drewN | apply below_drew1 | refine below_set ?_ GE154.out) | exact HB.out), by repeat (first | (with_reducible first | exact HBW.out | apply below_alloc | apply pw_below_drewN | apply below_drew1 | refine below_set ?_ GW154.out) | exact HBW.out)⟩
      · rw [if_neg c2] at H
        have c2b0 : decide (x4_1 < (l0.length : Int)) = false := decide_eq_false c2
        clear c2
        simp only [Option.some.injEq, Prod.mk.injEq] at H
        obtain ⟨rfl, rfl, rfl⟩ := H
        go_wp2_with (first | ((with_reducible refine gate_dst (N := 31) rfl ?_); refine box_event ?hg (N := 31) ?hd (cs := #[.slice A0 l0.length c0, .int .i64 0, .int .i64 x3_1]) (t := 63) ?hr ?_; (case hd => rfl); (case hg => rfl); (case hr => first | (go_simp; done) | (go_simp; rfl)); intro gb155 hg w6 hbox hb; have n0_ := Aside0.mk (below_step HBW.out hb); have n1_ := Aside0.mk (below_step (by repeat (first | (with_reducible first | exact HB.out | apply below_alloc | apply pw_below_drewN | apply below_drew1) | exact HB.out)) hb); have n2_ := Aside0.mk (hbox); have n3_ := Aside0.mk ((by rw [hg]; exact (below_size (by repeat (first | (with_reducible first | exact HBW.out | apply below_alloc | apply pw_below_drewN | apply below_drew1) | exact HBW.out))) : w.heap.size ≤ gb155)); have n4_ := Aside0.mk ((Nat.le_trans HW0.out (by rw [hg]; exact (below_size (by repeat (first | (with_reducible first | exact HBW.out | apply below_alloc | apply pw_below_drewN | apply below_drew1) | exact HBW.out))) : w.heap.size ≤ gb155) : w0.heap.size ≤ gb155)); clear HBW; clear HB; have HBW := n0_; have HB := n1_; have BK155 := n2_; have GW155 := n3_; have GE155 := n4_; clear n0_ n1_ n2_ n3_ n4_; clear hb hbox hg))
        go_ret
        exact ⟨_, rfl, (show IsS63 w0 _ gb155 l0 0 x3_1 from ⟨_, _, by (with_reducible repeat (first | refine blk_drewN ?_ _ | refine blk_drew ?_ | refine blk_alloc ?_ _)); exact BK155.out, GE155.out, HR0.out⟩), by repeat (first | (with_reducible first | exact HB.out | apply below_alloc | apply pw_below_drewN | apply below_drew1 | refine below_set ?_ GE155.out) | exact HB.out), by repeat (first | (with_reducible first | exact HBW.out | apply below_alloc | apply pw_below_drewN | apply below_drew1 | refine below_set ?_ GW155.out) | exact HBW.out)⟩

/-! ### spec_DrawRack: function 36 -/
def spec_DrawRack.f (k : Nat) (l0 : List Int) : Option (Int × Int × Int) := (spec_l01New.f k l0).bind fun bt157 => ((spec_l13Rack.f bt157.1 bt157.2.1 bt157.2.2).bind fun bt161 => (some (bt161.1, bt161.2.1, bt161.2.2.1)))
theorem spec_DrawRack.mono : ∀ a0 k, LeO (spec_DrawRack.f k a0) (spec_DrawRack.f (k + 1) a0) := by
  intro a0 k
  unfold spec_DrawRack.f
  repeat' first
      | (with_reducible exact spec_l01New.mono _ _)
      | (with_reducible exact LeO.refl _)
      | (with_reducible exact LeO.none _)
      | (with_reducible refine LeO.ite ?_ ?_)
      | (with_reducible refine LeO.bind ?_ (fun _ => ?_))
      | exact spec_l01New.mono _ _
      | exact LeO.none _
      | refine LeO.ite ?_ ?_
      | refine LeO.bind ?_ (fun _ => ?_)
set_option maxHeartbeats 8000000 in
set_option maxRecDepth 100000 in
theorem spec_DrawRack.calls (k : Nat) (A0 : Option Addr) (c0 : Nat) (l0 : List Int) (r1 : Int) (r2 : Int) (r3 : Int) (w : World) (hr0 : Kd.C (Kd.int .u8) w A0 l0.length l0) (hc0 : l0.length ≤ c0) (h : spec_DrawRack.f k l0 = some (r1, r2, r3)) :
    Calls Try.prog 36 #[.slice A0 l0.length c0] w fun e w' => e = .returned (.agg #[.int .i64 r1, .int .i64 r2, .int .i64 r3]) ∧ Below w.heap.size w w' := by
  have hu25 := Try.underlying25
  have HR0 := Aside0.mk hr0
  have HC0 := Aside0.mk hc0
  clear hr0 hc0
  have HB := Aside0.mk (Below.refl w.heap.size w)
  have H : ((spec_l01New.f k l0).bind fun bt157 => ((spec_l13Rack.f bt157.1 bt157.2.1 bt157.2.2).bind fun bt161 => (some (bt161.1, bt161.2.1, bt161.2.2.1)))) = some (r1, r2, r3) := h
  clear h
  replace H := Option.bind_eq_some_iff.mp H
  obtain ⟨⟨t157, t158, t159⟩, A20, H⟩ := H
  replace H : ((spec_l13Rack.f t157 t158 t159).bind fun bt161 => (some (bt161.1, bt161.2.1, bt161.2.2.1))) = some (r1, r2, r3) := H
  have A2 := Aside0.mk A20
  clear A20
  replace H := Option.bind_eq_some_iff.mp H
  obtain ⟨⟨t161, t162, t163, t164, t165⟩, A30, H⟩ := H
  replace H : (some (t161, t162, t163)) = some (r1, r2, r3) := H
  have A3 := Aside0.mk A30
  clear A30
  simp only [Option.some.injEq, Prod.mk.injEq] at H
  obtain ⟨rfl, rfl, rfl⟩ := H
  go_enter Try.func36, Try.ntmps36
  go_wp2_with (first | ((with_reducible refine gate_dst (N := 2) rfl ?_); refine box_event ?hg (N := 2) ?hd (cs := #[.int .i64 0, .int .i64 0, .int .i64 0]) (t := 25) ?hr ?_; (case hd => rfl); (case hg => rfl); (case hr => first | (go_simp; done) | (go_simp; rfl)); intro gb156 hg w4 hbox hb; have n0_ := Aside0.mk (below_step (by repeat (first | (with_reducible first | exact HB.out | apply below_alloc | apply pw_below_drewN | apply below_drew1) | exact HB.out)) hb); have n1_ := Aside0.mk (hbox); have n2_ := Aside0.mk ((by rw [hg]; exact (below_size (by repeat (first | (with_reducible first | exact HB.out | apply below_alloc | apply pw_below_drewN | apply below_drew1) | exact HB.out))) : w.heap.size ≤ gb156)); have n3_ := Aside0.mk ((by rw [hg]; exact (below_size (by repeat (first | (with_reducible first | exact HB.out | apply below_alloc | apply pw_below_drewN | apply below_drew1) | exact HB.out))) : w.heap.size ≤ gb156)); clear HB; have HB := n0_; have BK156 := n1_; have GW156 := n2_; have GE156 := n3_; clear n0_ n1_ n2_ n3_; clear hb hbox hg) | ((with_reducible refine gate_callee (f := 54) rfl ?_); refine goesL_ (some 4) rfl rfl Try.func54 (by kernel_rfl) rfl #[.slice A0 l0.length c0] rfl (by (try simp only [List.map_toArray, List.map_cons, List.map_nil]); first | done | rfl | (simp only [List.length_drop, List.length_take]; rfl)) ?_; (with_reducible refine (spec_l01New.calls k _ _ l0 t157 t158 t159 w _ ?side1 ?side2 ?side3 A2.out).mono ?_); (case side1 => repeat (first | (with_reducible first | exact HB.out | apply below_alloc | apply pw_below_drewN | apply below_drew1 | refine below_set ?_ GE156.out) | exact HB.out)); (case side2 => exact HR0.out); (case side3 => exact HC0.out); rintro e w5 ⟨g160, rfl, hi, hb, hb2⟩; refine ⟨_, rfl, ?_⟩; have n0_ := Aside0.mk (blk_below (g := gb156) (o := .cells #[.int .i64 0, .int .i64 0, .int .i64 0] 25 (0, 0)) (by (with_reducible repeat (first | refine blk_drewN ?_ _ | refine blk_drew ?_ | refine blk_alloc ?_ _)); exact BK156.out) hb2); have n1_ := Aside0.mk (hb); have n2_ := Aside0.mk (hi); have n3_ := Aside0.mk (IsS63.ne_blk hi (blk_below (g := gb156) (o := .cells #[.int .i64 0, .int .i64 0, .int .i64 0] 25 (0, 0)) (by (with_reducible repeat (first | refine blk_drewN ?_ _ | refine blk_drew ?_ | refine blk_alloc ?_ _)); exact BK156.out) hb2) (by decide)); have n4_ := Aside0.mk (Ne.symm (IsS63.ne_blk hi (blk_below (g := gb156) (o := .cells #[.int .i64 0, .int .i64 0, .int .i64 0] 25 (0, 0)) (by (with_reducible repeat (first | refine blk_drewN ?_ _ | refine blk_drew ?_ | refine blk_alloc ?_ _)); exact BK156.out) hb2) (by decide))); clear BK156; clear HB; have BK156 := n0_; have HB := n1_; have HI160 := n2_; have NB160_156 := n3_; have NB156_160 := n4_; clear n0_ n1_ n2_ n3_ n4_; (try clear hb); (try clear hb2); (try clear hk); (try clear hi)) | ((with_reducible refine gate_callee (f := 53) rfl ?_); refine goesL_ (some 5) rfl rfl Try.func53 (by kernel_rfl) rfl #[.pointer (some ⟨g160, 0, none⟩)] rfl (by (try simp only [List.map_toArray, List.map_cons, List.map_nil]); first | done | rfl | (simp only [List.length_drop, List.length_take]; rfl)) ?_; (with_reducible refine (spec_l13Rack.calls g160 t157 t158 t159 t161 t162 t163 t164 t165 w _ ?side1 ?side2 A3.out).mono ?_); (case side1 => repeat (first | (with_reducible first | exact HI160.out | apply IsS63.alloc | apply IsS63.drewN | apply IsS63.drew | apply IsS63.set_1 | apply IsS63.set_2 | refine IsS63.far ?_ NB160_156.out _) | exact HI160.out)); (case side2 => repeat (first | (with_reducible first | exact HB.out | apply below_alloc | apply pw_below_drewN | apply below_drew1 | refine below_set ?_ (IsS63.ge HI160.out) | refine below_set ?_ GE156.out) | exact HB.out)); rintro e w6 ⟨rfl, hi, hb, hk⟩; refine ⟨_, rfl, ?_⟩; have n0_ := Aside0.mk (KeepBut.blk hk (g' := gb156) (o := .cells #[.int .i64 0, .int .i64 0, .int .i64 0] 25 (0, 0)) (by (with_reducible repeat (first | refine blk_drewN ?_ _ | refine blk_drew ?_ | refine blk_alloc ?_ _)); exact BK156.out) NB156_160.out (by simp)); have n1_ := Aside0.mk (hb); have n2_ := Aside0.mk (hi); clear BK156; clear HB; clear HI160; have BK156 := n0_; have HB := n1_; have HI160 := n2_; clear n0_ n1_ n2_; (try clear hb); (try clear hb2); (try clear hk); (try clear hi); have hnb7 := NB156_160.out; have hnc7 := NB160_156.out; have hcz8_0 : w6.cell? ⟨gb156, 0, none⟩ = some (.int .i64 0) := (blk_cell BK156.out 0).trans rfl; have hcz8_1 : w6.cell? ⟨gb156, 1, none⟩ = some (.int .i64 0) := (blk_cell BK156.out 1).trans rfl; have hcz8_2 : w6.cell? ⟨gb156, 2, none⟩ = some (.int .i64 0) := (blk_cell BK156.out 2).trans rfl; have hfz8_0 := blk_frozen BK156.out 0; have hfz8_1 := blk_frozen BK156.out 1; have hfz8_2 := blk_frozen BK156.out 2))
  refine bodyPost_ret (results_cell_row rfl _ _ gb156 25 #[.int .i64 t161, .int .i64 t162, .int .i64 t163] (0, 0) _ rfl (by (with_reducible repeat (first | refine blk_drewN ?_ _ | refine blk_drew ?_ | refine blk_alloc ?_ _)); refine blk_put (cs := #[.int .i64 t161, .int .i64 t162, .int .i64 0]) ?_ 2 _ rfl; (with_reducible repeat (first | refine blk_drewN ?_ _ | refine blk_drew ?_ | refine blk_alloc ?_ _)); refine blk_put (cs := #[.int .i64 t161, .int .i64 0, .int .i64 0]) ?_ 1 _ rfl; (with_reducible repeat (first | refine blk_drewN ?_ _ | refine blk_drew ?_ | refine blk_alloc ?_ _)); refine blk_put (cs := #[.int .i64 0, .int .i64 0, .int .i64 0]) ?_ 0 _ rfl; (with_reducible repeat (first | refine blk_drewN ?_ _ | refine blk_drew ?_ | refine blk_alloc ?_ _)); exact BK156.out) Try.underlying25 rfl (by kernel_rfl)) rfl ?_
  exact ⟨by first | rfl | (simp [errW_none, errW_some] <;> rfl) | (simp [*, errW_none, errW_some] <;> rfl), by repeat (first | (with_reducible first | exact HB.out | apply below_alloc | apply pw_below_drewN | apply below_drew1 | refine below_set ?_ (IsS63.ge HI160.out) | refine below_set ?_ GE156.out) | exact HB.out)⟩

/-! ### laws_at: function 37 -/
def laws_at.f (l0 : List Int) (a1 : Int) : Option (Int) := if (l0.length : Int) = 0 then (some 0) else (if 0 ≤ (Int.tmod (wrap64 ((wrap64 (a1 * 5)) + 1)) (l0.length : Int)) then (if (Int.tmod (wrap64 ((wrap64 (a1 * 5)) + 1)) (l0.length : Int)) < (l0.length : Int) then (some (wrap64 (rd l0 (Int.tmod (wrap64 ((wrap64 (a1 * 5)) + 1)) (l0.length : Int))))) else (none)) else (none))
set_option maxHeartbeats 8000000 in
set_option maxRecDepth 100000 in
theorem laws_at.calls (A0 : Option Addr) (c0 : Nat) (l0 : List Int) (a1 : Int) (r : Int) (w : World) (hr0 : Kd.C (Kd.int .u8) w A0 l0.length l0) (hc0 : l0.length ≤ c0) (h : laws_at.f l0 a1 = some r) :
    Calls Try.prog 37 #[.slice A0 l0.length c0, .int .i64 a1] w fun e w' => e = .returned (.int .i64 r) ∧ Drawn0 w w' := by
  have HR0 := Aside0.mk hr0
  have HC0 := Aside0.mk hc0
  clear hr0 hc0
  have H : (if (l0.length : Int) = 0 then (some 0) else (if 0 ≤ (Int.tmod (wrap64 ((wrap64 (a1 * 5)) + 1)) (l0.length : Int)) then (if (Int.tmod (wrap64 ((wrap64 (a1 * 5)) + 1)) (l0.length : Int)) < (l0.length : Int) then (some (wrap64 (rd l0 (Int.tmod (wrap64 ((wrap64 (a1 * 5)) + 1)) (l0.length : Int))))) else (none)) else (none))) = some r := h
  clear h
  by_cases c3 : (l0.length : Int) = 0
  · rw [if_pos c3] at H
    have c3b0 : ((l0.length : Int) == 0) = true := beq_iff_eq.mpr c3
    have c3b1 : ((l0.length : Int) != 0) = false := bne_eq_false_iff_eq.mpr c3
    clear c3
    obtain rfl := Option.some.inj H
    go_enter Try.func37, Try.ntmps37
    go_wp2
    go_ret
    exact ⟨by first | rfl | (simp; done) | (simp [*]; done), by repeat (first | exact Drawn0.refl _ | apply Drawn0.step)⟩
  · rw [if_neg c3] at H
    have c3b0 : ((l0.length : Int) == 0) = false := beq_eq_false_iff_ne.mpr c3
    have c3b1 : ((l0.length : Int) != 0) = true := bne_iff_ne.mpr c3
    have c3b2 : ¬ (l0 = []) := fun h_ => c3 (by rw [h_]; rfl)
    obtain ⟨ji4, hji4⟩ : ∃ j_ : Int, (Int.tmod (wrap64 ((wrap64 (a1 * 5)) + 1)) (l0.length : Int)) = j_ := ⟨_, rfl⟩
    replace H : (if 0 ≤ (ji4) then (if (ji4) < (l0.length : Int) then (some (wrap64 (rd l0 (ji4)))) else (none)) else (none)) = some r := by first | (rw [hji4] at H; exact H) | (simp only [hji4] at H ⊢; exact H)
    by_cases c5 : 0 ≤ (ji4)
    · rw [if_pos c5] at H
      have c5b0 : decide (0 ≤ (ji4)) = true := decide_eq_true c5
      clear c5
      by_cases c6 : (ji4) < (l0.length : Int)
      · rw [if_pos c6] at H
        have c6b0 : decide ((ji4) < (l0.length : Int)) = true := decide_eq_true c6
        clear c6
        obtain rfl := Option.some.inj H
        have p166 : 0 ≤ ((ji4) : Int) := of_decide_eq_true (by first | (with_reducible assumption) | assumption)
        have q166 : (ji4) < (l0.length : Int) := of_decide_eq_true (by first | (with_reducible assumption) | assumption)
        obtain ⟨ad166, e166, hx166_0⟩ := Kd.at_int HR0.out (ji4) p166 q166
        cases e166
        replace p166 := eq_true p166
        replace q166 := eq_true q166
        go_enter Try.func37, Try.ntmps37
        go_wp2
        go_ret
        exact ⟨by first | rfl | (simp; done) | (simp only [← hji4] <;> (first | rfl | simp)) | (simp [*]; done), by repeat (first | exact Drawn0.refl _ | apply Drawn0.step)⟩
      · rw [if_neg c6] at H
        exact absurd H (by simp)
    · rw [if_neg c5] at H
      exact absurd H (by simp)

/-! ### laws_FnShelves: function 11 -/
def laws_FnShelves.f (k : Nat) (l0 : List Int) : Option (Bool) := (laws_big.f l0).bind fun t167 => (if t167 = true then (some true) else ((spec_DrawRack.f k l0).bind fun bt168 => ((laws_at.f l0 0).bind fun t172 => ((impl_SellFresh.f bt168.1 bt168.2.1 bt168.2.2 (Int.tmod t172 90)).bind fun bt173 => ((impl_SellCheap.f bt168.1 bt168.2.1 bt168.2.2 (Int.tmod t172 90)).bind fun bt178 => ((laws_at.f l0 1).bind fun t183 => ((impl_NextMorning.f bt168.1 bt168.2.1 bt168.2.2 t183).bind fun bt184 => ((laws_at.f l0 2).bind fun t189 => ((impl_ValueOf.f bt168.1 bt168.2.1 bt168.2.2 t189).bind fun t190 => (if bt173.2.2.2 = (mn (Int.tmod t172 90) (wrap64 (bt168.1 + bt168.2.1))) then (if (wrap64 ((wrap64 ((wrap64 (bt173.1 + bt173.2.1)) + bt173.2.2.1)) + bt173.2.2.2)) = (wrap64 ((wrap64 (bt168.1 + bt168.2.1)) + bt168.2.2)) then (if bt173.2.2.1 = bt168.2.2 then (if bt173.1 = (mx 0 (wrap64 (bt168.1 - (Int.tmod t172 90)))) then (if bt178.2.2.2 = (mn (Int.tmod t172 90) (wrap64 (bt168.2.2 + bt168.2.1))) then (if (wrap64 ((wrap64 ((wrap64 (bt178.1 + bt178.2.1)) + bt178.2.2.1)) + bt178.2.2.2)) = (wrap64 ((wrap64 (bt168.1 + bt168.2.1)) + bt168.2.2)) then (if bt178.1 = bt168.1 then (if bt178.2.2.1 = (mx 0 (wrap64 (bt168.2.2 - (Int.tmod t172 90)))) then (if bt184.2.2.2 = bt168.2.2 then (if bt184.1 = t183 then (if bt184.2.1 = bt168.1 then (if bt184.2.2.1 = bt168.2.1 then ((impl_RackOk.f bt173.1 bt173.2.1 bt173.2.2.1).bind fun t191 => (if t191 = true then (if t190 ≥ 0 then (if t190 ≤ (wrap64 (t189 * (wrap64 ((wrap64 (bt168.1 + bt168.2.1)) + bt168.2.2)))) then ((impl_ValueOf.f 2 3 4 10).bind fun t192 => (some (t192 == 43))) else (some false)) else (some false)) else (some false))) else (some false)) else (some false)) else (some false)) else (some false)) else (some false)) else (some false)) else (some false)) else (some false)) else (some false)) else (some false)) else (some false)) else (some false)))))))))))
theorem laws_FnShelves.mono : ∀ a0 k, LeO (laws_FnShelves.f k a0) (laws_FnShelves.f (k + 1) a0) := by
  intro a0 k
  unfold laws_FnShelves.f
  repeat' first
      | (with_reducible exact spec_DrawRack.mono _ _)
      | (with_reducible exact LeO.refl _)
      | (with_reducible exact LeO.none _)
      | (with_reducible refine LeO.ite ?_ ?_)
      | (with_reducible refine LeO.bind ?_ (fun _ => ?_))
      | exact spec_DrawRack.mono _ _
      | exact LeO.none _
      | refine LeO.ite ?_ ?_
      | refine LeO.bind ?_ (fun _ => ?_)
set_option maxHeartbeats 8000000 in
set_option maxRecDepth 100000 in
theorem laws_FnShelves.calls (k : Nat) (A0 : Option Addr) (c0 : Nat) (l0 : List Int) (r : Bool) (w : World) (hr_ : Aside0 (r = true)) (hr0 : Kd.C (Kd.int .u8) w A0 l0.length l0) (hc0 : l0.length ≤ c0) (h : laws_FnShelves.f k l0 = some r) :
    Calls Try.prog 11 #[.slice A0 l0.length c0] w fun e w' => e = .returned (.bool r) ∧ Below w.heap.size w w' := by
  have hu25 := Try.underlying25
  have HR0 := Aside0.mk hr0
  have HC0 := Aside0.mk hc0
  clear hr0 hc0
  have HB := Aside0.mk (Below.refl w.heap.size w)
  have H : ((laws_big.f l0).bind fun t167 => (if t167 = true then (some true) else ((spec_DrawRack.f k l0).bind fun bt168 => ((laws_at.f l0 0).bind fun t172 => ((impl_SellFresh.f bt168.1 bt168.2.1 bt168.2.2 (Int.tmod t172 90)).bind fun bt173 => ((impl_SellCheap.f bt168.1 bt168.2.1 bt168.2.2 (Int.tmod t172 90)).bind fun bt178 => ((laws_at.f l0 1).bind fun t183 => ((impl_NextMorning.f bt168.1 bt168.2.1 bt168.2.2 t183).bind fun bt184 => ((laws_at.f l0 2).bind fun t189 => ((impl_ValueOf.f bt168.1 bt168.2.1 bt168.2.2 t189).bind fun t190 => (if bt173.2.2.2 = (mn (Int.tmod t172 90) (wrap64 (bt168.1 + bt168.2.1))) then (if (wrap64 ((wrap64 ((wrap64 (bt173.1 + bt173.2.1)) + bt173.2.2.1)) + bt173.2.2.2)) = (wrap64 ((wrap64 (bt168.1 + bt168.2.1)) + bt168.2.2)) then (if bt173.2.2.1 = bt168.2.2 then (if bt173.1 = (mx 0 (wrap64 (bt168.1 - (Int.tmod t172 90)))) then (if bt178.2.2.2 = (mn (Int.tmod t172 90) (wrap64 (bt168.2.2 + bt168.2.1))) then (if (wrap64 ((wrap64 ((wrap64 (bt178.1 + bt178.2.1)) + bt178.2.2.1)) + bt178.2.2.2)) = (wrap64 ((wrap64 (bt168.1 + bt168.2.1)) + bt168.2.2)) then (if bt178.1 = bt168.1 then (if bt178.2.2.1 = (mx 0 (wrap64 (bt168.2.2 - (Int.tmod t172 90)))) then (if bt184.2.2.2 = bt168.2.2 then (if bt184.1 = t183 then (if bt184.2.1 = bt168.1 then (if bt184.2.2.1 = bt168.2.1 then ((impl_RackOk.f bt173.1 bt173.2.1 bt173.2.2.1).bind fun t191 => (if t191 = true then (if t190 ≥ 0 then (if t190 ≤ (wrap64 (t189 * (wrap64 ((wrap64 (bt168.1 + bt168.2.1)) + bt168.2.2)))) then ((impl_ValueOf.f 2 3 4 10).bind fun t192 => (some (t192 == 43))) else (some false)) else (some false)) else (some false))) else (some false)) else (some false)) else (some false)) else (some false)) else (some false)) else (some false)) else (some false)) else (some false)) else (some false)) else (some false)) else (some false)) else (some false)))))))))))) = some r := h
  clear h
  replace H := Option.bind_eq_some_iff.mp H
  obtain ⟨t167, A20, H⟩ := H
  replace H : (if t167 = true then (some true) else ((spec_DrawRack.f k l0).bind fun bt168 => ((laws_at.f l0 0).bind fun t172 => ((impl_SellFresh.f bt168.1 bt168.2.1 bt168.2.2 (Int.tmod t172 90)).bind fun bt173 => ((impl_SellCheap.f bt168.1 bt168.2.1 bt168.2.2 (Int.tmod t172 90)).bind fun bt178 => ((laws_at.f l0 1).bind fun t183 => ((impl_NextMorning.f bt168.1 bt168.2.1 bt168.2.2 t183).bind fun bt184 => ((laws_at.f l0 2).bind fun t189 => ((impl_ValueOf.f bt168.1 bt168.2.1 bt168.2.2 t189).bind fun t190 => (if bt173.2.2.2 = (mn (Int.tmod t172 90) (wrap64 (bt168.1 + bt168.2.1))) then (if (wrap64 ((wrap64 ((wrap64 (bt173.1 + bt173.2.1)) + bt173.2.2.1)) + bt173.2.2.2)) = (wrap64 ((wrap64 (bt168.1 + bt168.2.1)) + bt168.2.2)) then (if bt173.2.2.1 = bt168.2.2 then (if bt173.1 = (mx 0 (wrap64 (bt168.1 - (Int.tmod t172 90)))) then (if bt178.2.2.2 = (mn (Int.tmod t172 90) (wrap64 (bt168.2.2 + bt168.2.1))) then (if (wrap64 ((wrap64 ((wrap64 (bt178.1 + bt178.2.1)) + bt178.2.2.1)) + bt178.2.2.2)) = (wrap64 ((wrap64 (bt168.1 + bt168.2.1)) + bt168.2.2)) then (if bt178.1 = bt168.1 then (if bt178.2.2.1 = (mx 0 (wrap64 (bt168.2.2 - (Int.tmod t172 90)))) then (if bt184.2.2.2 = bt168.2.2 then (if bt184.1 = t183 then (if bt184.2.1 = bt168.1 then (if bt184.2.2.1 = bt168.2.1 then ((impl_RackOk.f bt173.1 bt173.2.1 bt173.2.2.1).bind fun t191 => (if t191 = true then (if t190 ≥ 0 then (if t190 ≤ (wrap64 (t189 * (wrap64 ((wrap64 (bt168.1 + bt168.2.1)) + bt168.2.2)))) then ((impl_ValueOf.f 2 3 4 10).bind fun t192 => (some (t192 == 43))) else (some false)) else (some false)) else (some false))) else (some false)) else (some false)) else (some false)) else (some false)) else (some false)) else (some false)) else (some false)) else (some false)) else (some false)) else (some false)) else (some false)) else (some false))))))))))) = some r := H
  have A2 := Aside0.mk A20
  clear A20
  by_cases c3 : t167 = true
  · subst c3
    have H1 : (some true) = some r := by rw [if_pos rfl] at H; exact H
    clear H
    have H := H1
    clear H1
    obtain rfl := Option.some.inj H
    go_enter Try.func11, Try.ntmps11
    go_wp2_with (first | ((with_reducible refine gate_callee (f := 35) rfl ?_); refine goesL_ (some 16) rfl rfl Try.func35 (by kernel_rfl) rfl #[.slice A0 l0.length c0] rfl (by (try simp only [List.map_toArray, List.map_cons, List.map_nil]); first | done | rfl | (simp only [List.length_drop, List.length_take]; rfl)) ?_; (with_reducible refine (laws_big.calls _ _ l0 true _ ?side1 ?side2 A2.out).mono ?_); (case side1 => repeat (first | exact HR0.out | (with_reducible refine Kd.C_alloc ?_ _) | (with_reducible refine Kd.C_drewN ?_ _) | (with_reducible refine Kd.C_drew ?_))); (case side2 => exact HC0.out); rintro e w' ⟨rfl, ⟨nd, rfl⟩⟩; refine ⟨_, rfl, ?_⟩))
    go_ret
    exact ⟨by first | rfl | (simp [errW_none, errW_some] <;> rfl) | (simp [*, errW_none, errW_some] <;> rfl), by repeat (first | (with_reducible first | exact HB.out | apply below_alloc | apply pw_below_drewN | apply below_drew1) | exact HB.out)⟩
  · replace c3 := Bool.eq_false_iff.mpr c3
    subst c3
    have H1 : ((spec_DrawRack.f k l0).bind fun bt168 => ((laws_at.f l0 0).bind fun t172 => ((impl_SellFresh.f bt168.1 bt168.2.1 bt168.2.2 (Int.tmod t172 90)).bind fun bt173 => ((impl_SellCheap.f bt168.1 bt168.2.1 bt168.2.2 (Int.tmod t172 90)).bind fun bt178 => ((laws_at.f l0 1).bind fun t183 => ((impl_NextMorning.f bt168.1 bt168.2.1 bt168.2.2 t183).bind fun bt184 => ((laws_at.f l0 2).bind fun t189 => ((impl_ValueOf.f bt168.1 bt168.2.1 bt168.2.2 t189).bind fun t190 => (if bt173.2.2.2 = (mn (Int.tmod t172 90) (wrap64 (bt168.1 + bt168.2.1))) then (if (wrap64 ((wrap64 ((wrap64 (bt173.1 + bt173.2.1)) + bt173.2.2.1)) + bt173.2.2.2)) = (wrap64 ((wrap64 (bt168.1 + bt168.2.1)) + bt168.2.2)) then (if bt173.2.2.1 = bt168.2.2 then (if bt173.1 = (mx 0 (wrap64 (bt168.1 - (Int.tmod t172 90)))) then (if bt178.2.2.2 = (mn (Int.tmod t172 90) (wrap64 (bt168.2.2 + bt168.2.1))) then (if (wrap64 ((wrap64 ((wrap64 (bt178.1 + bt178.2.1)) + bt178.2.2.1)) + bt178.2.2.2)) = (wrap64 ((wrap64 (bt168.1 + bt168.2.1)) + bt168.2.2)) then (if bt178.1 = bt168.1 then (if bt178.2.2.1 = (mx 0 (wrap64 (bt168.2.2 - (Int.tmod t172 90)))) then (if bt184.2.2.2 = bt168.2.2 then (if bt184.1 = t183 then (if bt184.2.1 = bt168.1 then (if bt184.2.2.1 = bt168.2.1 then ((impl_RackOk.f bt173.1 bt173.2.1 bt173.2.2.1).bind fun t191 => (if t191 = true then (if t190 ≥ 0 then (if t190 ≤ (wrap64 (t189 * (wrap64 ((wrap64 (bt168.1 + bt168.2.1)) + bt168.2.2)))) then ((impl_ValueOf.f 2 3 4 10).bind fun t192 => (some (t192 == 43))) else (some false)) else (some false)) else (some false))) else (some false)) else (some false)) else (some false)) else (some false)) else (some false)) else (some false)) else (some false)) else (some false)) else (some false)) else (some false)) else (some false)) else (some false)))))))))) = some r := by rw [if_neg (show ¬ (false = true) by decide)] at H; exact H
    clear H
    have H := H1
    clear H1
    replace H := Option.bind_eq_some_iff.mp H
    obtain ⟨⟨t168, t169, t170⟩, A40, H⟩ := H
    replace H : ((laws_at.f l0 0).bind fun t172 => ((impl_SellFresh.f t168 t169 t170 (Int.tmod t172 90)).bind fun bt173 => ((impl_SellCheap.f t168 t169 t170 (Int.tmod t172 90)).bind fun bt178 => ((laws_at.f l0 1).bind fun t183 => ((impl_NextMorning.f t168 t169 t170 t183).bind fun bt184 => ((laws_at.f l0 2).bind fun t189 => ((impl_ValueOf.f t168 t169 t170 t189).bind fun t190 => (if bt173.2.2.2 = (mn (Int.tmod t172 90) (wrap64 (t168 + t169))) then (if (wrap64 ((wrap64 ((wrap64 (bt173.1 + bt173.2.1)) + bt173.2.2.1)) + bt173.2.2.2)) = (wrap64 ((wrap64 (t168 + t169)) + t170)) then (if bt173.2.2.1 = t170 then (if bt173.1 = (mx 0 (wrap64 (t168 - (Int.tmod t172 90)))) then (if bt178.2.2.2 = (mn (Int.tmod t172 90) (wrap64 (t170 + t169))) then (if (wrap64 ((wrap64 ((wrap64 (bt178.1 + bt178.2.1)) + bt178.2.2.1)) + bt178.2.2.2)) = (wrap64 ((wrap64 (t168 + t169)) + t170)) then (if bt178.1 = t168 then (if bt178.2.2.1 = (mx 0 (wrap64 (t170 - (Int.tmod t172 90)))) then (if bt184.2.2.2 = t170 then (if bt184.1 = t183 then (if bt184.2.1 = t168 then (if bt184.2.2.1 = t169 then ((impl_RackOk.f bt173.1 bt173.2.1 bt173.2.2.1).bind fun t191 => (if t191 = true then (if t190 ≥ 0 then (if t190 ≤ (wrap64 (t189 * (wrap64 ((wrap64 (t168 + t169)) + t170)))) then ((impl_ValueOf.f 2 3 4 10).bind fun t192 => (some (t192 == 43))) else (some false)) else (some false)) else (some false))) else (some false)) else (some false)) else (some false)) else (some false)) else (some false)) else (some false)) else (some false)) else (some false)) else (some false)) else (some false)) else (some false)) else (some false))))))))) = some r := H
    have A4 := Aside0.mk A40
    clear A40
    replace H := Option.bind_eq_some_iff.mp H
    obtain ⟨t172, A50, H⟩ := H
    replace H : ((impl_SellFresh.f t168 t169 t170 (Int.tmod t172 90)).bind fun bt173 => ((impl_SellCheap.f t168 t169 t170 (Int.tmod t172 90)).bind fun bt178 => ((laws_at.f l0 1).bind fun t183 => ((impl_NextMorning.f t168 t169 t170 t183).bind fun bt184 => ((laws_at.f l0 2).bind fun t189 => ((impl_ValueOf.f t168 t169 t170 t189).bind fun t190 => (if bt173.2.2.2 = (mn (Int.tmod t172 90) (wrap64 (t168 + t169))) then (if (wrap64 ((wrap64 ((wrap64 (bt173.1 + bt173.2.1)) + bt173.2.2.1)) + bt173.2.2.2)) = (wrap64 ((wrap64 (t168 + t169)) + t170)) then (if bt173.2.2.1 = t170 then (if bt173.1 = (mx 0 (wrap64 (t168 - (Int.tmod t172 90)))) then (if bt178.2.2.2 = (mn (Int.tmod t172 90) (wrap64 (t170 + t169))) then (if (wrap64 ((wrap64 ((wrap64 (bt178.1 + bt178.2.1)) + bt178.2.2.1)) + bt178.2.2.2)) = (wrap64 ((wrap64 (t168 + t169)) + t170)) then (if bt178.1 = t168 then (if bt178.2.2.1 = (mx 0 (wrap64 (t170 - (Int.tmod t172 90)))) then (if bt184.2.2.2 = t170 then (if bt184.1 = t183 then (if bt184.2.1 = t168 then (if bt184.2.2.1 = t169 then ((impl_RackOk.f bt173.1 bt173.2.1 bt173.2.2.1).bind fun t191 => (if t191 = true then (if t190 ≥ 0 then (if t190 ≤ (wrap64 (t189 * (wrap64 ((wrap64 (t168 + t169)) + t170)))) then ((impl_ValueOf.f 2 3 4 10).bind fun t192 => (some (t192 == 43))) else (some false)) else (some false)) else (some false))) else (some false)) else (some false)) else (some false)) else (some false)) else (some false)) else (some false)) else (some false)) else (some false)) else (some false)) else (some false)) else (some false)) else (some false)))))))) = some r := H
    have A5 := Aside0.mk A50
    clear A50
    replace H := Option.bind_eq_some_iff.mp H
    obtain ⟨⟨t173, t174, t175, t176⟩, A60, H⟩ := H
    replace H : ((impl_SellCheap.f t168 t169 t170 (Int.tmod t172 90)).bind fun bt178 => ((laws_at.f l0 1).bind fun t183 => ((impl_NextMorning.f t168 t169 t170 t183).bind fun bt184 => ((laws_at.f l0 2).bind fun t189 => ((impl_ValueOf.f t168 t169 t170 t189).bind fun t190 => (if t176 = (mn (Int.tmod t172 90) (wrap64 (t168 + t169))) then (if (wrap64 ((wrap64 ((wrap64 (t173 + t174)) + t175)) + t176)) = (wrap64 ((wrap64 (t168 + t169)) + t170)) then (if t175 = t170 then (if t173 = (mx 0 (wrap64 (t168 - (Int.tmod t172 90)))) then (if bt178.2.2.2 = (mn (Int.tmod t172 90) (wrap64 (t170 + t169))) then (if (wrap64 ((wrap64 ((wrap64 (bt178.1 + bt178.2.1)) + bt178.2.2.1)) + bt178.2.2.2)) = (wrap64 ((wrap64 (t168 + t169)) + t170)) then (if bt178.1 = t168 then (if bt178.2.2.1 = (mx 0 (wrap64 (t170 - (Int.tmod t172 90)))) then (if bt184.2.2.2 = t170 then (if bt184.1 = t183 then (if bt184.2.1 = t168 then (if bt184.2.2.1 = t169 then ((impl_RackOk.f t173 t174 t175).bind fun t191 => (if t191 = true then (if t190 ≥ 0 then (if t190 ≤ (wrap64 (t189 * (wrap64 ((wrap64 (t168 + t169)) + t170)))) then ((impl_ValueOf.f 2 3 4 10).bind fun t192 => (some (t192 == 43))) else (some false)) else (some false)) else (some false))) else (some false)) else (some false)) else (some false)) else (some false)) else (some false)) else (some false)) else (some false)) else (some false)) else (some false)) else (some false)) else (some false)) else (some false))))))) = some r := H
    have A6 := Aside0.mk A60
    clear A60
    replace H := Option.bind_eq_some_iff.mp H
    obtain ⟨⟨t178, t179, t180, t181⟩, A70, H⟩ := H
    replace H : ((laws_at.f l0 1).bind fun t183 => ((impl_NextMorning.f t168 t169 t170 t183).bind fun bt184 => ((laws_at.f l0 2).bind fun t189 => ((impl_ValueOf.f t168 t169 t170 t189).bind fun t190 => (if t176 = (mn (Int.tmod t172 90) (wrap64 (t168 + t169))) then (if (wrap64 ((wrap64 ((wrap64 (t173 + t174)) + t175)) + t176)) = (wrap64 ((wrap64 (t168 + t169)) + t170)) then (if t175 = t170 then (if t173 = (mx 0 (wrap64 (t168 - (Int.tmod t172 90)))) then (if t181 = (mn (Int.tmod t172 90) (wrap64 (t170 + t169))) then (if (wrap64 ((wrap64 ((wrap64 (t178 + t179)) + t180)) + t181)) = (wrap64 ((wrap64 (t168 + t169)) + t170)) then (if t178 = t168 then (if t180 = (mx 0 (wrap64 (t170 - (Int.tmod t172 90)))) then (if bt184.2.2.2 = t170 then (if bt184.1 = t183 then (if bt184.2.1 = t168 then (if bt184.2.2.1 = t169 then ((impl_RackOk.f t173 t174 t175).bind fun t191 => (if t191 = true then (if t190 ≥ 0 then (if t190 ≤ (wrap64 (t189 * (wrap64 ((wrap64 (t168 + t169)) + t170)))) then ((impl_ValueOf.f 2 3 4 10).bind fun t192 => (some (t192 == 43))) else (some false)) else (some false)) else (some false))) else (some false)) else (some false)) else (some false)) else (some false)) else (some false)) else (some false)) else (some false)) else (some false)) else (some false)) else (some false)) else (some false)) else (some false)))))) = some r := H
    have A7 := Aside0.mk A70
    clear A70
    replace H := Option.bind_eq_some_iff.mp H
    obtain ⟨t183, A80, H⟩ := H
    replace H : ((impl_NextMorning.f t168 t169 t170 t183).bind fun bt184 => ((laws_at.f l0 2).bind fun t189 => ((impl_ValueOf.f t168 t169 t170 t189).bind fun t190 => (if t176 = (mn (Int.tmod t172 90) (wrap64 (t168 + t169))) then (if (wrap64 ((wrap64 ((wrap64 (t173 + t174)) + t175)) + t176)) = (wrap64 ((wrap64 (t168 + t169)) + t170)) then (if t175 = t170 then (if t173 = (mx 0 (wrap64 (t168 - (Int.tmod t172 90)))) then (if t181 = (mn (Int.tmod t172 90) (wrap64 (t170 + t169))) then (if (wrap64 ((wrap64 ((wrap64 (t178 + t179)) + t180)) + t181)) = (wrap64 ((wrap64 (t168 + t169)) + t170)) then (if t178 = t168 then (if t180 = (mx 0 (wrap64 (t170 - (Int.tmod t172 90)))) then (if bt184.2.2.2 = t170 then (if bt184.1 = t183 then (if bt184.2.1 = t168 then (if bt184.2.2.1 = t169 then ((impl_RackOk.f t173 t174 t175).bind fun t191 => (if t191 = true then (if t190 ≥ 0 then (if t190 ≤ (wrap64 (t189 * (wrap64 ((wrap64 (t168 + t169)) + t170)))) then ((impl_ValueOf.f 2 3 4 10).bind fun t192 => (some (t192 == 43))) else (some false)) else (some false)) else (some false))) else (some false)) else (some false)) else (some false)) else (some false)) else (some false)) else (some false)) else (some false)) else (some false)) else (some false)) else (some false)) else (some false)) else (some false))))) = some r := H
    have A8 := Aside0.mk A80
    clear A80
    replace H := Option.bind_eq_some_iff.mp H
    obtain ⟨⟨t184, t185, t186, t187⟩, A90, H⟩ := H
    replace H : ((laws_at.f l0 2).bind fun t189 => ((impl_ValueOf.f t168 t169 t170 t189).bind fun t190 => (if t176 = (mn (Int.tmod t172 90) (wrap64 (t168 + t169))) then (if (wrap64 ((wrap64 ((wrap64 (t173 + t174)) + t175)) + t176)) = (wrap64 ((wrap64 (t168 + t169)) + t170)) then (if t175 = t170 then (if t173 = (mx 0 (wrap64 (t168 - (Int.tmod t172 90)))) then (if t181 = (mn (Int.tmod t172 90) (wrap64 (t170 + t169))) then (if (wrap64 ((wrap64 ((wrap64 (t178 + t179)) + t180)) + t181)) = (wrap64 ((wrap64 (t168 + t169)) + t170)) then (if t178 = t168 then (if t180 = (mx 0 (wrap64 (t170 - (Int.tmod t172 90)))) then (if t187 = t170 then (if t184 = t183 then (if t185 = t168 then (if t186 = t169 then ((impl_RackOk.f t173 t174 t175).bind fun t191 => (if t191 = true then (if t190 ≥ 0 then (if t190 ≤ (wrap64 (t189 * (wrap64 ((wrap64 (t168 + t169)) + t170)))) then ((impl_ValueOf.f 2 3 4 10).bind fun t192 => (some (t192 == 43))) else (some false)) else (some false)) else (some false))) else (some false)) else (some false)) else (some false)) else (some false)) else (some false)) else (some false)) else (some false)) else (some false)) else (some false)) else (some false)) else (some false)) else (some false)))) = some r := H
    have A9 := Aside0.mk A90
    clear A90
    replace H := Option.bind_eq_some_iff.mp H
    obtain ⟨t189, A100, H⟩ := H
    replace H : ((impl_ValueOf.f t168 t169 t170 t189).bind fun t190 => (if t176 = (mn (Int.tmod t172 90) (wrap64 (t168 + t169))) then (if (wrap64 ((wrap64 ((wrap64 (t173 + t174)) + t175)) + t176)) = (wrap64 ((wrap64 (t168 + t169)) + t170)) then (if t175 = t170 then (if t173 = (mx 0 (wrap64 (t168 - (Int.tmod t172 90)))) then (if t181 = (mn (Int.tmod t172 90) (wrap64 (t170 + t169))) then (if (wrap64 ((wrap64 ((wrap64 (t178 + t179)) + t180)) + t181)) = (wrap64 ((wrap64 (t168 + t169)) + t170)) then (if t178 = t168 then (if t180 = (mx 0 (wrap64 (t170 - (Int.tmod t172 90)))) then (if t187 = t170 then (if t184 = t183 then (if t185 = t168 then (if t186 = t169 then ((impl_RackOk.f t173 t174 t175).bind fun t191 => (if t191 = true then (if t190 ≥ 0 then (if t190 ≤ (wrap64 (t189 * (wrap64 ((wrap64 (t168 + t169)) + t170)))) then ((impl_ValueOf.f 2 3 4 10).bind fun t192 => (some (t192 == 43))) else (some false)) else (some false)) else (some false))) else (some false)) else (some false)) else (some false)) else (some false)) else (some false)) else (some false)) else (some false)) else (some false)) else (some false)) else (some false)) else (some false)) else (some false))) = some r := H
    have A10 := Aside0.mk A100
    clear A100
    replace H := Option.bind_eq_some_iff.mp H
    obtain ⟨t190, A110, H⟩ := H
    replace H : (if t176 = (mn (Int.tmod t172 90) (wrap64 (t168 + t169))) then (if (wrap64 ((wrap64 ((wrap64 (t173 + t174)) + t175)) + t176)) = (wrap64 ((wrap64 (t168 + t169)) + t170)) then (if t175 = t170 then (if t173 = (mx 0 (wrap64 (t168 - (Int.tmod t172 90)))) then (if t181 = (mn (Int.tmod t172 90) (wrap64 (t170 + t169))) then (if (wrap64 ((wrap64 ((wrap64 (t178 + t179)) + t180)) + t181)) = (wrap64 ((wrap64 (t168 + t169)) + t170)) then (if t178 = t168 then (if t180 = (mx 0 (wrap64 (t170 - (Int.tmod t172 90)))) then (if t187 = t170 then (if t184 = t183 then (if t185 = t168 then (if t186 = t169 then ((impl_RackOk.f t173 t174 t175).bind fun t191 => (if t191 = true then (if t190 ≥ 0 then (if t190 ≤ (wrap64 (t189 * (wrap64 ((wrap64 (t168 + t169)) + t170)))) then ((impl_ValueOf.f 2 3 4 10).bind fun t192 => (some (t192 == 43))) else (some false)) else (some false)) else (some false))) else (some false)) else (some false)) else (some false)) else (some false)) else (some false)) else (some false)) else (some false)) else (some false)) else (some false)) else (some false)) else (some false)) else (some false)) = some r := H
    have A11 := Aside0.mk A110
    clear A110
    obtain ⟨ji12, hji12⟩ : ∃ j_ : Int, (mn (Int.tmod t172 90) (wrap64 (t168 + t169))) = j_ := ⟨_, rfl⟩
    replace H : (if t176 = (ji12) then (if (wrap64 ((wrap64 ((wrap64 (t173 + t174)) + t175)) + t176)) = (wrap64 ((wrap64 (t168 + t169)) + t170)) then (if t175 = t170 then (if t173 = (mx 0 (wrap64 (t168 - (Int.tmod t172 90)))) then (if t181 = (mn (Int.tmod t172 90) (wrap64 (t170 + t169))) then (if (wrap64 ((wrap64 ((wrap64 (t178 + t179)) + t180)) + t181)) = (wrap64 ((wrap64 (t168 + t169)) + t170)) then (if t178 = t168 then (if t180 = (mx 0 (wrap64 (t170 - (Int.tmod t172 90)))) then (if t187 = t170 then (if t184 = t183 then (if t185 = t168 then (if t186 = t169 then ((impl_RackOk.f t173 t174 t175).bind fun t191 => (if t191 = true then (if t190 ≥ 0 then (if t190 ≤ (wrap64 (t189 * (wrap64 ((wrap64 (t168 + t169)) + t170)))) then ((impl_ValueOf.f 2 3 4 10).bind fun t192 => (some (t192 == 43))) else (some false)) else (some false)) else (some false))) else (some false)) else (some false)) else (some false)) else (some false)) else (some false)) else (some false)) else (some false)) else (some false)) else (some false)) else (some false)) else (some false)) else (some false)) = some r := by first | (rw [hji12] at H; exact H) | (simp only [hji12] at H ⊢; exact H)
    (try rw [hji12] at A2)
    (try rw [hji12] at A4)
    (try rw [hji12] at A5)
    (try rw [hji12] at A6)
    (try rw [hji12] at A7)
    (try rw [hji12] at A8)
    (try rw [hji12] at A9)
    (try rw [hji12] at A10)
    (try rw [hji12] at A11)
    have hji12_ : (if (wrap64 (t168 + t169)) < (Int.tmod t172 90) then (wrap64 (t168 + t169)) else (Int.tmod t172 90)) = ji12 := hji12
    by_cases c13 : t176 = (ji12)
    · rw [if_pos c13] at H
      have c13b0 : (t176 == (ji12)) = true := beq_iff_eq.mpr c13
      have c13b1 : (t176 != (ji12)) = false := bne_eq_false_iff_eq.mpr c13
      clear c13
      by_cases c14 : (wrap64 ((wrap64 ((wrap64 (t173 + t174)) + t175)) + t176)) = (wrap64 ((wrap64 (t168 + t169)) + t170))
      · rw [if_pos c14] at H
        have c14b0 : ((wrap64 ((wrap64 ((wrap64 (t173 + t174)) + t175)) + t176)) == (wrap64 ((wrap64 (t168 + t169)) + t170))) = true := beq_iff_eq.mpr c14
        have c14b1 : ((wrap64 ((wrap64 ((wrap64 (t173 + t174)) + t175)) + t176)) != (wrap64 ((wrap64 (t168 + t169)) + t170))) = false := bne_eq_false_iff_eq.mpr c14
        clear c14
        by_cases c15 : t175 = t170
        · rw [if_pos c15] at H
          have c15b0 : (t175 == t170) = true := beq_iff_eq.mpr c15
          have c15b1 : (t175 != t170) = false := bne_eq_false_iff_eq.mpr c15
          clear c15
          obtain ⟨ji16, hji16⟩ : ∃ j_ : Int, (mx 0 (wrap64 (t168 - (Int.tmod t172 90)))) = j_ := ⟨_, rfl⟩
          replace H : (if t173 = (ji16) then (if t181 = (mn (Int.tmod t172 90) (wrap64 (t170 + t169))) then (if (wrap64 ((wrap64 ((wrap64 (t178 + t179)) + t180)) + t181)) = (wrap64 ((wrap64 (t168 + t169)) + t170)) then (if t178 = t168 then (if t180 = (mx 0 (wrap64 (t170 - (Int.tmod t172 90)))) then (if t187 = t170 then (if t184 = t183 then (if t185 = t168 then (if t186 = t169 then ((impl_RackOk.f t173 t174 t175).bind fun t191 => (if t191 = true then (if t190 ≥ 0 then (if t190 ≤ (wrap64 (t189 * (wrap64 ((wrap64 (t168 + t169)) + t170)))) then ((impl_ValueOf.f 2 3 4 10).bind fun t192 => (some (t192 == 43))) else (some false)) else (some false)) else (some false))) else (some false)) else (some false)) else (some false)) else (some false)) else (some false)) else (some false)) else (some false)) else (some false)) else (some false)) = some r := by first | (rw [hji16] at H; exact H) | (simp only [hji16] at H ⊢; exact H)
          (try rw [hji16] at A2)
          (try rw [hji16] at A4)
          (try rw [hji16] at A5)
          (try rw [hji16] at A6)
          (try rw [hji16] at A7)
          (try rw [hji16] at A8)
          (try rw [hji16] at A9)
          (try rw [hji16] at A10)
          (try rw [hji16] at A11)
          (try (have hji16l : 0 ≤ ji16 := by (rw [← hji16]; unfold mx; (repeat' split) <;> omega)))
          (try (have hji16m : 0 ≤ ji16 := by omega))
          have hji16_ : (if 0 < (wrap64 (t168 - (Int.tmod t172 90))) then (wrap64 (t168 - (Int.tmod t172 90))) else 0) = ji16 := hji16
          by_cases c17 : t173 = (ji16)
          · rw [if_pos c17] at H
            have c17b0 : (t173 == (ji16)) = true := beq_iff_eq.mpr c17
            have c17b1 : (t173 != (ji16)) = false := bne_eq_false_iff_eq.mpr c17
            clear c17
            obtain ⟨ji18, hji18⟩ : ∃ j_ : Int, (mn (Int.tmod t172 90) (wrap64 (t170 + t169))) = j_ := ⟨_, rfl⟩
            replace H : (if t181 = (ji18) then (if (wrap64 ((wrap64 ((wrap64 (t178 + t179)) + t180)) + t181)) = (wrap64 ((wrap64 (t168 + t169)) + t170)) then (if t178 = t168 then (if t180 = (mx 0 (wrap64 (t170 - (Int.tmod t172 90)))) then (if t187 = t170 then (if t184 = t183 then (if t185 = t168 then (if t186 = t169 then ((impl_RackOk.f t173 t174 t175).bind fun t191 => (if t191 = true then (if t190 ≥ 0 then (if t190 ≤ (wrap64 (t189 * (wrap64 ((wrap64 (t168 + t169)) + t170)))) then ((impl_ValueOf.f 2 3 4 10).bind fun t192 => (some (t192 == 43))) else (some false)) else (some false)) else (some false))) else (some false)) else (some false)) else (some false)) else (some false)) else (some false)) else (some false)) else (some false)) else (some false)) = some r := by first | (rw [hji18] at H; exact H) | (simp only [hji18] at H ⊢; exact H)
            (try rw [hji18] at A2)
            (try rw [hji18] at A4)
            (try rw [hji18] at A5)
            (try rw [hji18] at A6)
            (try rw [hji18] at A7)
            (try rw [hji18] at A8)
            (try rw [hji18] at A9)
            (try rw [hji18] at A10)
            (try rw [hji18] at A11)
            have hji18_ : (if (wrap64 (t170 + t169)) < (Int.tmod t172 90) then (wrap64 (t170 + t169)) else (Int.tmod t172 90)) = ji18 := hji18
            by_cases c19 : t181 = (ji18)
            · rw [if_pos c19] at H
              have c19b0 : (t181 == (ji18)) = true := beq_iff_eq.mpr c19
              have c19b1 : (t181 != (ji18)) = false := bne_eq_false_iff_eq.mpr c19
              clear c19
              by_cases c20 : (wrap64 ((wrap64 ((wrap64 (t178 + t179)) + t180)) + t181)) = (wrap64 ((wrap64 (t168 + t169)) + t170))
              · rw [if_pos c20] at H
                have c20b0 : ((wrap64 ((wrap64 ((wrap64 (t178 + t179)) + t180)) + t181)) == (wrap64 ((wrap64 (t168 + t169)) + t170))) = true := beq_iff_eq.mpr c20
                have c20b1 : ((wrap64 ((wrap64 ((wrap64 (t178 + t179)) + t180)) + t181)) != (wrap64 ((wrap64 (t168 + t169)) + t170))) = false := bne_eq_false_iff_eq.mpr c20
                clear c20
                by_cases c21 : t178 = t168
                · rw [if_pos c21] at H
                  have c21b0 : (t178 == t168) = true := beq_iff_eq.mpr c21
                  have c21b1 : (t178 != t168) = false := bne_eq_false_iff_eq.mpr c21
                  clear c21
                  obtain ⟨ji22, hji22⟩ : ∃ j_ : Int, (mx 0 (wrap64 (t170 - (Int.tmod t172 90)))) = j_ := ⟨_, rfl⟩
                  replace H : (if t180 = (ji22) then (if t187 = t170 then (if t184 = t183 then (if t185 = t168 then (if t186 = t169 then ((impl_RackOk.f t173 t174 t175).bind fun t191 => (if t191 = true then (if t190 ≥ 0 then (if t190 ≤ (wrap64 (t189 * (wrap64 ((wrap64 (t168 + t169)) + t170)))) then ((impl_ValueOf.f 2 3 4 10).bind fun t192 => (some (t192 == 43))) else (some false)) else (some false)) else (some false))) else (some false)) else (some false)) else (some false)) else (some false)) else (some false)) = some r := by first | (rw [hji22] at H; exact H) | (simp only [hji22] at H ⊢; exact H)
                  (try rw [hji22] at A2)
                  (try rw [hji22] at A4)
                  (try rw [hji22] at A5)
                  (try rw [hji22] at A6)
                  (try rw [hji22] at A7)
                  (try rw [hji22] at A8)
                  (try rw [hji22] at A9)
                  (try rw [hji22] at A10)
                  (try rw [hji22] at A11)
                  (try (have hji22l : 0 ≤ ji22 := by (rw [← hji22]; unfold mx; (repeat' split) <;> omega)))
                  (try (have hji22m : 0 ≤ ji22 := by omega))
                  have hji22_ : (if 0 < (wrap64 (t170 - (Int.tmod t172 90))) then (wrap64 (t170 - (Int.tmod t172 90))) else 0) = ji22 := hji22
                  by_cases c23 : t180 = (ji22)
                  · rw [if_pos c23] at H
                    have c23b0 : (t180 == (ji22)) = true := beq_iff_eq.mpr c23
                    have c23b1 : (t180 != (ji22)) = false := bne_eq_false_iff_eq.mpr c23
                    clear c23
                    by_cases c24 : t187 = t170
                    · rw [if_pos c24] at H
                      have c24b0 : (t187 == t170) = true := beq_iff_eq.mpr c24
                      have c24b1 : (t187 != t170) = false := bne_eq_false_iff_eq.mpr c24
                      clear c24
                      by_cases c25 : t184 = t183
                      · rw [if_pos c25] at H
                        have c25b0 : (t184 == t183) = true := beq_iff_eq.mpr c25
                        have c25b1 : (t184 != t183) = false := bne_eq_false_iff_eq.mpr c25
                        clear c25
                        by_cases c26 : t185 = t168
                        · rw [if_pos c26] at H
                          have c26b0 : (t185 == t168) = true := beq_iff_eq.mpr c26
                          have c26b1 : (t185 != t168) = false := bne_eq_false_iff_eq.mpr c26
                          clear c26
                          by_cases c27 : t186 = t169
                          · rw [if_pos c27] at H
                            have c27b0 : (t186 == t169) = true := beq_iff_eq.mpr c27
                            have c27b1 : (t186 != t169) = false := bne_eq_false_iff_eq.mpr c27
                            clear c27
                            replace H := Option.bind_eq_some_iff.mp H
                            obtain ⟨t191, A280, H⟩ := H
                            replace H : (if t191 = true then (if t190 ≥ 0 then (if t190 ≤ (wrap64 (t189 * (wrap64 ((wrap64 (t168 + t169)) + t170)))) then ((impl_ValueOf.f 2 3 4 10).bind fun t192 => (some (t192 == 43))) else (some false)) else (some false)) else (some false)) = some r := H
                            have A28 := Aside0.mk A280
                            clear A280
                            by_cases c29 : t191 = true
                            · subst c29
                              have H1 : (if t190 ≥ 0 then (if t190 ≤ (wrap64 (t189 * (wrap64 ((wrap64 (t168 + t169)) + t170)))) then ((impl_ValueOf.f 2 3 4 10).bind fun t192 => (some (t192 == 43))) else (some false)) else (some false)) = some r := by rw [if_pos rfl] at H; exact H
                              clear H
                              have H := H1
                              clear H1
                              by_cases c30 : t190 ≥ 0
                              · rw [if_pos c30] at H
                                have c30b0 : decide (0 ≤ t190) = true := decide_eq_true c30
                                clear c30
                                by_cases c31 : t190 ≤ (wrap64 (t189 * (wrap64 ((wrap64 (t168 + t169)) + t170))))
                                · rw [if_pos c31] at H
                                  have c31b0 : decide (t190 ≤ (wrap64 (t189 * (wrap64 ((wrap64 (t168 + t169)) + t170))))) = true := decide_eq_true c31
                                  clear c31
                                  replace H := Option.bind_eq_some_iff.mp H
                                  obtain ⟨t192, A320, H⟩ := H
                                  replace H : (some (t192 == 43)) = some r := H
                                  have A32 := Aside0.mk A320
                                  clear A320
                                  obtain rfl := Option.some.inj H
                                  go_enter Try.func11, Try.ntmps11
                                  go_wp2_with (first | ((with_reducible refine gate_callee (f := 35) rfl ?_); refine goesL_ (some 16) rfl rfl Try.func35 (by kernel_rfl) rfl #[.slice A0 l0.length c0] rfl (by (try simp only [List.map_toArray, List.map_cons, List.map_nil]); first | done | rfl | (simp only [List.length_drop, List.length_take]; rfl)) ?_; (with_reducible refine (laws_big.calls _ _ l0 false _ ?side1 ?side2 A2.out).mono ?_); (case side1 => repeat (first | exact HR0.out | (with_reducible refine Kd.C_alloc ?_ _) | (with_reducible refine Kd.C_drewN ?_ _) | (with_reducible refine Kd.C_drew ?_))); (case side2 => exact HC0.out); rintro e w' ⟨rfl, ⟨nd, rfl⟩⟩; refine ⟨_, rfl, ?_⟩) | ((with_reducible refine gate_callee (f := 36) rfl ?_); refine goesL_ (some 18) rfl rfl Try.func36 (by kernel_rfl) rfl #[.slice A0 l0.length c0] rfl (by (try simp only [List.map_toArray, List.map_cons, List.map_nil]); first | done | rfl | (simp only [List.length_drop, List.length_take]; rfl)) ?_; (with_reducible refine (spec_DrawRack.calls k _ _ l0 t168 t169 t170 _ ?side1 ?side2 A4.out).mono ?_); (case side1 => repeat (first | exact HR0.out | (with_reducible refine Kd.C_alloc ?_ _) | (with_reducible refine Kd.C_drewN ?_ _) | (with_reducible refine Kd.C_drew ?_))); (case side2 => exact HC0.out); rintro e w33 ⟨rfl, hb⟩; refine ⟨_, rfl, ?_⟩; have n0_ := Aside0.mk (below_step (by repeat (first | (with_reducible first | exact HB.out | apply below_alloc | apply pw_below_drewN | apply below_drew1) | exact HB.out)) hb); clear HB; have HB := n0_; clear n0_; (try clear hb); (try clear hb2); (try clear hk); (try clear hi)) | ((with_reducible refine gate_dst (N := 3) rfl ?_); (try (refine gate_guard (by rfl) ?_; dsimp only)); refine box_event ?hg (N := 3) ?hd (cs := #[.int .i64 0, .int .i64 0, .int .i64 0]) (t := 25) ?hr ?_; (case hd => rfl); (case hg => rfl); (case hr => first | (go_simp; done) | (go_simp; rfl)); intro gb171 hg w34 hbox hb; have n0_ := Aside0.mk (below_step (by repeat (first | (with_reducible first | exact HB.out | apply below_alloc | apply pw_below_drewN | apply below_drew1) | exact HB.out)) hb); have n1_ := Aside0.mk (hbox); have n2_ := Aside0.mk ((by rw [hg]; exact (below_size (by repeat (first | (with_reducible first | exact HB.out | apply below_alloc | apply pw_below_drewN | apply below_drew1) | exact HB.out))) : w.heap.size ≤ gb171)); have n3_ := Aside0.mk ((by rw [hg]; exact (below_size (by repeat (first | (with_reducible first | exact HB.out | apply below_alloc | apply pw_below_drewN | apply below_drew1) | exact HB.out))) : w.heap.size ≤ gb171)); clear HB; have HB := n0_; have BK171 := n1_; have GW171 := n2_; have GE171 := n3_; clear n0_ n1_ n2_ n3_; clear hb hbox hg; have hcz35_0 : w34.cell? ⟨gb171, 0, none⟩ = some (.int .i64 0) := (blk_cell BK171.out 0).trans rfl; have hcz35_1 : w34.cell? ⟨gb171, 1, none⟩ = some (.int .i64 0) := (blk_cell BK171.out 1).trans rfl; have hcz35_2 : w34.cell? ⟨gb171, 2, none⟩ = some (.int .i64 0) := (blk_cell BK171.out 2).trans rfl; have hfz35_0 := blk_frozen BK171.out 0; have hfz35_1 := blk_frozen BK171.out 1; have hfz35_2 := blk_frozen BK171.out 2) | ((with_reducible refine gate_callee (f := 37) rfl ?_); refine goesL_ (some 20) rfl rfl Try.func37 (by kernel_rfl) rfl #[.slice A0 l0.length c0, .int .i64 0] rfl (by (try simp only [List.map_toArray, List.map_cons, List.map_nil]); first | done | rfl | (simp only [List.length_drop, List.length_take]; rfl)) ?_; (with_reducible refine (laws_at.calls _ _ l0 0 t172 _ ?side1 ?side2 A5.out).mono ?_); (case side1 => exact Kd.C_below HR0.out (by repeat (first | (with_reducible first | exact HB.out | apply below_alloc | apply pw_below_drewN | apply below_drew1 | refine below_set ?_ GE171.out) | exact HB.out))); (case side2 => exact HC0.out); rintro e w' ⟨rfl, ⟨nd, rfl⟩⟩; refine ⟨_, rfl, ?_⟩) | ((with_reducible refine gate_callee (f := 30) rfl ?_); refine goesL_ (some 25) rfl rfl Try.func30 (by kernel_rfl) rfl #[.agg #[.int .i64 t168, .int .i64 t169, .int .i64 t170], .int .i64 (Int.tmod t172 90)] rfl (by (try simp only [List.map_toArray, List.map_cons, List.map_nil]); first | done | rfl | (simp only [List.length_drop, List.length_take]; rfl)) ?_; (with_reducible refine (impl_SellFresh.calls t168 t169 t170 (Int.tmod t172 90) t173 t174 t175 t176 _ A6.out).mono ?_); rintro e w36 ⟨rfl, hb⟩; refine ⟨_, rfl, ?_⟩; have n0_ := Aside0.mk (blk_below (g := gb171) (o := .cells #[.int .i64 t168, .int .i64 t169, .int .i64 t170] 25 (0, 0)) (by (with_reducible repeat (first | refine blk_drewN ?_ _ | refine blk_drew ?_ | refine blk_alloc ?_ _)); refine blk_put (cs := #[.int .i64 t168, .int .i64 t169, .int .i64 0]) ?_ 2 _ rfl; (with_reducible repeat (first | refine blk_drewN ?_ _ | refine blk_drew ?_ | refine blk_alloc ?_ _)); refine blk_put (cs := #[.int .i64 t168, .int .i64 0, .int .i64 0]) ?_ 1 _ rfl; (with_reducible repeat (first | refine blk_drewN ?_ _ | refine blk_drew ?_ | refine blk_alloc ?_ _)); refine blk_put (cs := #[.int .i64 0, .int .i64 0, .int .i64 0]) ?_ 0 _ rfl; (with_reducible repeat (first | refine blk_drewN ?_ _ | refine blk_drew ?_ | refine blk_alloc ?_ _)); exact BK171.out) hb); have n1_ := Aside0.mk (below_step (by repeat (first | (with_reducible first | exact HB.out | apply below_alloc | apply pw_below_drewN | apply below_drew1 | refine below_set ?_ GE171.out) | exact HB.out)) hb); clear BK171; clear HB; have BK171 := n0_; have HB := n1_; clear n0_ n1_; (try clear hb); (try clear hb2); (try clear hk); (try clear hi)) | ((with_reducible refine gate_dst (N := 5) rfl ?_); (try (refine gate_guard (by rfl) ?_; dsimp only)); refine box_event ?hg (N := 5) ?hd (cs := #[.int .i64 0, .int .i64 0, .int .i64 0]) (t := 25) ?hr ?_; (case hd => rfl); (case hg => rfl); (case hr => first | (go_simp; done) | (go_simp; rfl)); intro gb177 hg w37 hbox hb; have n0_ := Aside0.mk (blk_below (g := gb171) (o := .cells #[.int .i64 t168, .int .i64 t169, .int .i64 t170] 25 (0, 0)) (by (with_reducible repeat (first | refine blk_drewN ?_ _ | refine blk_drew ?_ | refine blk_alloc ?_ _)); exact BK171.out) hb); have n1_ := Aside0.mk (below_step (by repeat (first | (with_reducible first | exact HB.out | apply below_alloc | apply pw_below_drewN | apply below_drew1 | refine below_set ?_ GE171.out) | exact HB.out)) hb); have n2_ := Aside0.mk (hbox); have n3_ := Aside0.mk ((by rw [hg]; exact (below_size (by repeat (first | (with_reducible first | exact HB.out | apply below_alloc | apply pw_below_drewN | apply below_drew1 | refine below_set ?_ GE171.out) | exact HB.out))) : w.heap.size ≤ gb177)); have n4_ := Aside0.mk ((by rw [hg]; exact (below_size (by repeat (first | (with_reducible first | exact HB.out | apply below_alloc | apply pw_below_drewN | apply below_drew1 | refine below_set ?_ GE171.out) | exact HB.out))) : w.heap.size ≤ gb177)); have n5_ := Aside0.mk ((by rw [hg]; exact Nat.ne_of_lt (blk_lt (g := gb171) (o := .cells #[.int .i64 t168, .int .i64 t169, .int .i64 t170] 25 (0, 0)) (by (with_reducible repeat (first | refine blk_drewN ?_ _ | refine blk_drew ?_ | refine blk_alloc ?_ _)); exact BK171.out)) : gb171 ≠ gb177)); have n6_ := Aside0.mk ((by rw [hg]; exact Nat.ne_of_gt (blk_lt (g := gb171) (o := .cells #[.int .i64 t168, .int .i64 t169, .int .i64 t170] 25 (0, 0)) (by (with_reducible repeat (first | refine blk_drewN ?_ _ | refine blk_drew ?_ | refine blk_alloc ?_ _)); exact BK171.out)) : gb177 ≠ gb171)); clear BK171; clear HB; have BK171 := n0_; have HB := n1_; have BK177 := n2_; have GW177 := n3_; have GE177 := n4_; have NB171_177 := n5_; have NB177_171 := n6_; clear n0_ n1_ n2_ n3_ n4_ n5_ n6_; clear hb hbox hg; have hnb38 := NB177_171.out; have hnc38 := NB171_177.out; have hcz39_0 : w37.cell? ⟨gb177, 0, none⟩ = some (.int .i64 0) := (blk_cell BK177.out 0).trans rfl; have hcz39_1 : w37.cell? ⟨gb177, 1, none⟩ = some (.int .i64 0) := (blk_cell BK177.out 1).trans rfl; have hcz39_2 : w37.cell? ⟨gb177, 2, none⟩ = some (.int .i64 0) := (blk_cell BK177.out 2).trans rfl; have hfz39_0 := blk_frozen BK177.out 0; have hfz39_1 := blk_frozen BK177.out 1; have hfz39_2 := blk_frozen BK177.out 2; have hcz40_0 : w37.cell? ⟨gb171, 0, none⟩ = some (.int .i64 t168) := (blk_cell BK171.out 0).trans rfl; have hcz40_1 : w37.cell? ⟨gb171, 1, none⟩ = some (.int .i64 t169) := (blk_cell BK171.out 1).trans rfl; have hcz40_2 : w37.cell? ⟨gb171, 2, none⟩ = some (.int .i64 t170) := (blk_cell BK171.out 2).trans rfl; have hfz40_0 := blk_frozen BK171.out 0; have hfz40_1 := blk_frozen BK171.out 1; have hfz40_2 := blk_frozen BK171.out 2) | ((with_reducible refine gate_callee (f := 28) rfl ?_); refine goesL_ (some 31) rfl rfl Try.func28 (by kernel_rfl) rfl #[.agg #[.int .i64 t168, .int .i64 t169, .int .i64 t170], .int .i64 (Int.tmod t172 90)] rfl (by (try simp only [List.map_toArray, List.map_cons, List.map_nil]); first | done | rfl | (simp only [List.length_drop, List.length_take]; rfl)) ?_; (with_reducible refine (impl_SellCheap.calls t168 t169 t170 (Int.tmod t172 90) t178 t179 t180 t181 _ A7.out).mono ?_); rintro e w41 ⟨rfl, hb⟩; refine ⟨_, rfl, ?_⟩; have n0_ := Aside0.mk (blk_below (g := gb171) (o := .cells #[.int .i64 t168, .int .i64 t169, .int .i64 t170] 25 (0, 0)) (by (with_reducible repeat (first | refine blk_drewN ?_ _ | refine blk_drew ?_ | refine blk_alloc ?_ _)); refine blk_far ?_ NB171_177.out _; (with_reducible repeat (first | refine blk_drewN ?_ _ | refine blk_drew ?_ | refine blk_alloc ?_ _)); refine blk_far ?_ NB171_177.out _; (with_reducible repeat (first | refine blk_drewN ?_ _ | refine blk_drew ?_ | refine blk_alloc ?_ _)); refine blk_far ?_ NB171_177.out _; (with_reducible repeat (first | refine blk_drewN ?_ _ | refine blk_drew ?_ | refine blk_alloc ?_ _)); exact BK171.out) hb); have n1_ := Aside0.mk (blk_below (g := gb177) (o := .cells #[.int .i64 t173, .int .i64 t174, .int .i64 t175] 25 (0, 0)) (by (with_reducible repeat (first | refine blk_drewN ?_ _ | refine blk_drew ?_ | refine blk_alloc ?_ _)); refine blk_put (cs := #[.int .i64 t173, .int .i64 t174, .int .i64 0]) ?_ 2 _ rfl; (with_reducible repeat (first | refine blk_drewN ?_ _ | refine blk_drew ?_ | refine blk_alloc ?_ _)); refine blk_put (cs := #[.int .i64 t173, .int .i64 0, .int .i64 0]) ?_ 1 _ rfl; (with_reducible repeat (first | refine blk_drewN ?_ _ | refine blk_drew ?_ | refine blk_alloc ?_ _)); refine blk_put (cs := #[.int .i64 0, .int .i64 0, .int .i64 0]) ?_ 0 _ rfl; (with_reducible repeat (first | refine blk_drewN ?_ _ | refine blk_drew ?_ | refine blk_alloc ?_ _)); exact BK177.out) hb); have n2_ := Aside0.mk (below_step (by repeat (first | (with_reducible first | exact HB.out | apply below_alloc | apply pw_below_drewN | apply below_drew1 | refine below_set ?_ GE171.out | refine below_set ?_ GE177.out) | exact HB.out)) hb); clear BK171; clear BK177; clear HB; have BK171 := n0_; have BK177 := n1_; have HB := n2_; clear n0_ n1_ n2_; (try clear hb); (try clear hb2); (try clear hk); (try clear hi)) | ((with_reducible refine gate_dst (N := 7) rfl ?_); (try (refine gate_guard (by rfl) ?_; dsimp only)); refine box_event ?hg (N := 7) ?hd (cs := #[.int .i64 0, .int .i64 0, .int .i64 0]) (t := 25) ?hr ?_; (case hd => rfl); (case hg => rfl); (case hr => first | (go_simp; done) | (go_simp; rfl)); intro gb182 hg w42 hbox hb; have n0_ := Aside0.mk (blk_below (g := gb171) (o := .cells #[.int .i64 t168, .int .i64 t169, .int .i64 t170] 25 (0, 0)) (by (with_reducible repeat (first | refine blk_drewN ?_ _ | refine blk_drew ?_ | refine blk_alloc ?_ _)); exact BK171.out) hb); have n1_ := Aside0.mk (blk_below (g := gb177) (o := .cells #[.int .i64 t173, .int .i64 t174, .int .i64 t175] 25 (0, 0)) (by (with_reducible repeat (first | refine blk_drewN ?_ _ | refine blk_drew ?_ | refine blk_alloc ?_ _)); exact BK177.out) hb); have n2_ := Aside0.mk (below_step (by repeat (first | (with_reducible first | exact HB.out | apply below_alloc | apply pw_below_drewN | apply below_drew1 | refine below_set ?_ GE171.out | refine below_set ?_ GE177.out) | exact HB.out)) hb); have n3_ := Aside0.mk (hbox); have n4_ := Aside0.mk ((by rw [hg]; exact (below_size (by repeat (first | (with_reducible first | exact HB.out | apply below_alloc | apply pw_below_drewN | apply below_drew1 | refine below_set ?_ GE171.out | refine below_set ?_ GE177.out) | exact HB.out))) : w.heap.size ≤ gb182)); have n5_ := Aside0.mk ((by rw [hg]; exact (below_size (by repeat (first | (with_reducible first | exact HB.out | apply below_alloc | apply pw_below_drewN | apply below_drew1 | refine below_set ?_ GE171.out | refine below_set ?_ GE177.out) | exact HB.out))) : w.heap.size ≤ gb182)); have n6_ := Aside0.mk ((by rw [hg]; exact Nat.ne_of_lt (blk_lt (g := gb171) (o := .cells #[.int .i64 t168, .int .i64 t169, .int .i64 t170] 25 (0, 0)) (by (with_reducible repeat (first | refine blk_drewN ?_ _ | refine blk_drew ?_ | refine blk_alloc ?_ _)); exact BK171.out)) : gb171 ≠ gb182)); have n7_ := Aside0.mk ((by rw [hg]; exact Nat.ne_of_gt (blk_lt (g := gb171) (o := .cells #[.int .i64 t168, .int .i64 t169, .int .i64 t170] 25 (0, 0)) (by (with_reducible repeat (first | refine blk_drewN ?_ _ | refine blk_drew ?_ | refine blk_alloc ?_ _)); exact BK171.out)) : gb182 ≠ gb171)); have n8_ := Aside0.mk ((by rw [hg]; exact Nat.ne_of_lt (blk_lt (g := gb177) (o := .cells #[.int .i64 t173, .int .i64 t174, .int .i64 t175] 25 (0, 0)) (by (with_reducible repeat (first | refine blk_drewN ?_ _ | refine blk_drew ?_ | refine blk_alloc ?_ _)); exact BK177.out)) : gb177 ≠ gb182)); have n9_ := Aside0.mk ((by rw [hg]; exact Nat.ne_of_gt (blk_lt (g := gb177) (o := .cells #[.int .i64 t173, .int .i64 t174, .int .i64 t175] 25 (0, 0)) (by (with_reducible repeat (first | refine blk_drewN ?_ _ | refine blk_drew ?_ | refine blk_alloc ?_ _)); exact BK177.out)) : gb182 ≠ gb177)); clear BK171; clear BK177; clear HB; have BK171 := n0_; have BK177 := n1_; have HB := n2_; have BK182 := n3_; have GW182 := n4_; have GE182 := n5_; have NB171_182 := n6_; have NB182_171 := n7_; have NB177_182 := n8_; have NB182_177 := n9_; clear n0_ n1_ n2_ n3_ n4_ n5_ n6_ n7_ n8_ n9_; clear hb hbox hg; have hnb43 := NB182_171.out; have hnc43 := NB171_182.out; have hnb44 := NB182_177.out; have hnc44 := NB177_182.out; have hcz45_0 : w42.cell? ⟨gb182, 0, none⟩ = some (.int .i64 0) := (blk_cell BK182.out 0).trans rfl; have hcz45_1 : w42.cell? ⟨gb182, 1, none⟩ = some (.int .i64 0) := (blk_cell BK182.out 1).trans rfl; have hcz45_2 : w42.cell? ⟨gb182, 2, none⟩ = some (.int .i64 0) := (blk_cell BK182.out 2).trans rfl; have hfz45_0 := blk_frozen BK182.out 0; have hfz45_1 := blk_frozen BK182.out 1; have hfz45_2 := blk_frozen BK182.out 2) | ((with_reducible refine gate_callee (f := 37) rfl ?_); refine goesL_ (some 35) rfl rfl Try.func37 (by kernel_rfl) rfl #[.slice A0 l0.length c0, .int .i64 1] rfl (by (try simp only [List.map_toArray, List.map_cons, List.map_nil]); first | done | rfl | (simp only [List.length_drop, List.length_take]; rfl)) ?_; (with_reducible refine (laws_at.calls _ _ l0 1 t183 _ ?side1 ?side2 A8.out).mono ?_); (case side1 => exact Kd.C_below HR0.out (by repeat (first | (with_reducible first | exact HB.out | apply below_alloc | apply pw_below_drewN | apply below_drew1 | refine below_set ?_ GE171.out | refine below_set ?_ GE177.out | refine below_set ?_ GE182.out) | exact HB.out))); (case side2 => exact HC0.out); rintro e w' ⟨rfl, ⟨nd, rfl⟩⟩; refine ⟨_, rfl, ?_⟩; have hcz46_0 : w42.cell? ⟨gb171, 0, none⟩ = some (.int .i64 t168) := (blk_cell BK171.out 0).trans rfl; have hcz46_1 : w42.cell? ⟨gb171, 1, none⟩ = some (.int .i64 t169) := (blk_cell BK171.out 1).trans rfl; have hcz46_2 : w42.cell? ⟨gb171, 2, none⟩ = some (.int .i64 t170) := (blk_cell BK171.out 2).trans rfl; have hfz46_0 := blk_frozen BK171.out 0; have hfz46_1 := blk_frozen BK171.out 1; have hfz46_2 := blk_frozen BK171.out 2) | ((with_reducible refine gate_callee (f := 25) rfl ?_); refine goesL_ (some 39) rfl rfl Try.func25 (by kernel_rfl) rfl #[.agg #[.int .i64 t168, .int .i64 t169, .int .i64 t170], .int .i64 t183] rfl (by (try simp only [List.map_toArray, List.map_cons, List.map_nil]); first | done | rfl | (simp only [List.length_drop, List.length_take]; rfl)) ?_; (with_reducible refine (impl_NextMorning.calls t168 t169 t170 t183 t184 t185 t186 t187 _ A9.out).mono ?_); rintro e w47 ⟨rfl, hb⟩; refine ⟨_, rfl, ?_⟩; have n0_ := Aside0.mk (blk_below (g := gb171) (o := .cells #[.int .i64 t168, .int .i64 t169, .int .i64 t170] 25 (0, 0)) (by (with_reducible repeat (first | refine blk_drewN ?_ _ | refine blk_drew ?_ | refine blk_alloc ?_ _)); refine blk_far ?_ NB171_182.out _; (with_reducible repeat (first | refine blk_drewN ?_ _ | refine blk_drew ?_ | refine blk_alloc ?_ _)); refine blk_far ?_ NB171_182.out _; (with_reducible repeat (first | refine blk_drewN ?_ _ | refine blk_drew ?_ | refine blk_alloc ?_ _)); refine blk_far ?_ NB171_182.out _; (with_reducible repeat (first | refine blk_drewN ?_ _ | refine blk_drew ?_ | refine blk_alloc ?_ _)); exact BK171.out) hb); have n1_ := Aside0.mk (blk_below (g := gb177) (o := .cells #[.int .i64 t173, .int .i64 t174, .int .i64 t175] 25 (0, 0)) (by (with_reducible repeat (first | refine blk_drewN ?_ _ | refine blk_drew ?_ | refine blk_alloc ?_ _)); refine blk_far ?_ NB177_182.out _; (with_reducible repeat (first | refine blk_drewN ?_ _ | refine blk_drew ?_ | refine blk_alloc ?_ _)); refine blk_far ?_ NB177_182.out _; (with_reducible repeat (first | refine blk_drewN ?_ _ | refine blk_drew ?_ | refine blk_alloc ?_ _)); refine blk_far ?_ NB177_182.out _; (with_reducible repeat (first | refine blk_drewN ?_ _ | refine blk_drew ?_ | refine blk_alloc ?_ _)); exact BK177.out) hb); have n2_ := Aside0.mk (blk_below (g := gb182) (o := .cells #[.int .i64 t178, .int .i64 t179, .int .i64 t180] 25 (0, 0)) (by (with_reducible repeat (first | refine blk_drewN ?_ _ | refine blk_drew ?_ | refine blk_alloc ?_ _)); refine blk_put (cs := #[.int .i64 t178, .int .i64 t179, .int .i64 0]) ?_ 2 _ rfl; (with_reducible repeat (first | refine blk_drewN ?_ _ | refine blk_drew ?_ | refine blk_alloc ?_ _)); refine blk_put (cs := #[.int .i64 t178, .int .i64 0, .int .i64 0]) ?_ 1 _ rfl; (with_reducible repeat (first | refine blk_drewN ?_ _ | refine blk_drew ?_ | refine blk_alloc ?_ _)); refine blk_put (cs := #[.int .i64 0, .int .i64 0, .int .i64 0]) ?_ 0 _ rfl; (with_reducible repeat (first | refine blk_drewN ?_ _ | refine blk_drew ?_ | refine blk_alloc ?_ _)); exact BK182.out) hb); have n3_ := Aside0.mk (below_step (by repeat (first | (with_reducible first | exact HB.out | apply below_alloc | apply pw_below_drewN | apply below_drew1 | refine below_set ?_ GE171.out | refine below_set ?_ GE177.out | refine below_set ?_ GE182.out) | exact HB.out)) hb); clear BK171; clear BK177; clear BK182; clear HB; have BK171 := n0_; have BK177 := n1_; have BK182 := n2_; have HB := n3_; clear n0_ n1_ n2_ n3_; (try clear hb); (try clear hb2); (try clear hk); (try clear hi)) | ((with_reducible refine gate_dst (N := 10) rfl ?_); (try (refine gate_guard (by rfl) ?_; dsimp only)); refine box_event ?hg (N := 10) ?hd (cs := #[.int .i64 0, .int .i64 0, .int .i64 0]) (t := 25) ?hr ?_; (case hd => rfl); (case hg => rfl); (case hr => first | (go_simp; done) | (go_simp; rfl)); intro gb188 hg w48 hbox hb; have n0_ := Aside0.mk (blk_below (g := gb171) (o := .cells #[.int .i64 t168, .int .i64 t169, .int .i64 t170] 25 (0, 0)) (by (with_reducible repeat (first | refine blk_drewN ?_ _ | refine blk_drew ?_ | refine blk_alloc ?_ _)); exact BK171.out) hb); have n1_ := Aside0.mk (blk_below (g := gb177) (o := .cells #[.int .i64 t173, .int .i64 t174, .int .i64 t175] 25 (0, 0)) (by (with_reducible repeat (first | refine blk_drewN ?_ _ | refine blk_drew ?_ | refine blk_alloc ?_ _)); exact BK177.out) hb); have n2_ := Aside0.mk (blk_below (g := gb182) (o := .cells #[.int .i64 t178, .int .i64 t179, .int .i64 t180] 25 (0, 0)) (by (with_reducible repeat (first | refine blk_drewN ?_ _ | refine blk_drew ?_ | refine blk_alloc ?_ _)); exact BK182.out) hb); have n3_ := Aside0.mk (below_step (by repeat (first | (with_reducible first | exact HB.out | apply below_alloc | apply pw_below_drewN | apply below_drew1 | refine below_set ?_ GE171.out | refine below_set ?_ GE177.out | refine below_set ?_ GE182.out) | exact HB.out)) hb); have n4_ := Aside0.mk (hbox); have n5_ := Aside0.mk ((by rw [hg]; exact (below_size (by repeat (first | (with_reducible first | exact HB.out | apply below_alloc | apply pw_below_drewN | apply below_drew1 | refine below_set ?_ GE171.out | refine below_set ?_ GE177.out | refine below_set ?_ GE182.out) | exact HB.out))) : w.heap.size ≤ gb188)); have n6_ := Aside0.mk ((by rw [hg]; exact (below_size (by repeat (first | (with_reducible first | exact HB.out | apply below_alloc | apply pw_below_drewN | apply below_drew1 | refine below_set ?_ GE171.out | refine below_set ?_ GE177.out | refine below_set ?_ GE182.out) | exact HB.out))) : w.heap.size ≤ gb188)); have n7_ := Aside0.mk ((by rw [hg]; exact Nat.ne_of_lt (blk_lt (g := gb171) (o := .cells #[.int .i64 t168, .int .i64 t169, .int .i64 t170] 25 (0, 0)) (by (with_reducible repeat (first | refine blk_drewN ?_ _ | refine blk_drew ?_ | refine blk_alloc ?_ _)); exact BK171.out)) : gb171 ≠ gb188)); have n8_ := Aside0.mk ((by rw [hg]; exact Nat.ne_of_gt (blk_lt (g := gb171) (o := .cells #[.int .i64 t168, .int .i64 t169, .int .i64 t170] 25 (0, 0)) (by (with_reducible repeat (first | refine blk_drewN ?_ _ | refine blk_drew ?_ | refine blk_alloc ?_ _)); exact BK171.out)) : gb188 ≠ gb171)); have n9_ := Aside0.mk ((by rw [hg]; exact Nat.ne_of_lt (blk_lt (g := gb177) (o := .cells #[.int .i64 t173, .int .i64 t174, .int .i64 t175] 25 (0, 0)) (by (with_reducible repeat (first | refine blk_drewN ?_ _ | refine blk_drew ?_ | refine blk_alloc ?_ _)); exact BK177.out)) : gb177 ≠ gb188)); have n10_ := Aside0.mk ((by rw [hg]; exact Nat.ne_of_gt (blk_lt (g := gb177) (o := .cells #[.int .i64 t173, .int .i64 t174, .int .i64 t175] 25 (0, 0)) (by (with_reducible repeat (first | refine blk_drewN ?_ _ | refine blk_drew ?_ | refine blk_alloc ?_ _)); exact BK177.out)) : gb188 ≠ gb177)); have n11_ := Aside0.mk ((by rw [hg]; exact Nat.ne_of_lt (blk_lt (g := gb182) (o := .cells #[.int .i64 t178, .int .i64 t179, .int .i64 t180] 25 (0, 0)) (by (with_reducible repeat (first | refine blk_drewN ?_ _ | refine blk_drew ?_ | refine blk_alloc ?_ _)); exact BK182.out)) : gb182 ≠ gb188)); have n12_ := Aside0.mk ((by rw [hg]; exact Nat.ne_of_gt (blk_lt (g := gb182) (o := .cells #[.int .i64 t178, .int .i64 t179, .int .i64 t180] 25 (0, 0)) (by (with_reducible repeat (first | refine blk_drewN ?_ _ | refine blk_drew ?_ | refine blk_alloc ?_ _)); exact BK182.out)) : gb188 ≠ gb182)); clear BK171; clear BK177; clear BK182; clear HB; have BK171 := n0_; have BK177 := n1_; have BK182 := n2_; have HB := n3_; have BK188 := n4_; have GW188 := n5_; have GE188 := n6_; have NB171_188 := n7_; have NB188_171 := n8_; have NB177_188 := n9_; have NB188_177 := n10_; have NB182_188 := n11_; have NB188_182 := n12_; clear n0_ n1_ n2_ n3_ n4_ n5_ n6_ n7_ n8_ n9_ n10_ n11_ n12_; clear hb hbox hg; have hnb49 := NB188_171.out; have hnc49 := NB171_188.out; have hnb50 := NB188_177.out; have hnc50 := NB177_188.out; have hnb51 := NB188_182.out; have hnc51 := NB182_188.out; have hcz52_0 : w48.cell? ⟨gb188, 0, none⟩ = some (.int .i64 0) := (blk_cell BK188.out 0).trans rfl; have hcz52_1 : w48.cell? ⟨gb188, 1, none⟩ = some (.int .i64 0) := (blk_cell BK188.out 1).trans rfl; have hcz52_2 : w48.cell? ⟨gb188, 2, none⟩ = some (.int .i64 0) := (blk_cell BK188.out 2).trans rfl; have hfz52_0 := blk_frozen BK188.out 0; have hfz52_1 := blk_frozen BK188.out 1; have hfz52_2 := blk_frozen BK188.out 2; have hcz53_0 : w48.cell? ⟨gb171, 0, none⟩ = some (.int .i64 t168) := (blk_cell BK171.out 0).trans rfl; have hcz53_1 : w48.cell? ⟨gb171, 1, none⟩ = some (.int .i64 t169) := (blk_cell BK171.out 1).trans rfl; have hcz53_2 : w48.cell? ⟨gb171, 2, none⟩ = some (.int .i64 t170) := (blk_cell BK171.out 2).trans rfl; have hfz53_0 := blk_frozen BK171.out 0; have hfz53_1 := blk_frozen BK171.out 1; have hfz53_2 := blk_frozen BK171.out 2) | ((with_reducible refine gate_callee (f := 37) rfl ?_); refine goesL_ (some 51) rfl rfl Try.func37 (by kernel_rfl) rfl #[.slice A0 l0.length c0, .int .i64 2] rfl (by (try simp only [List.map_toArray, List.map_cons, List.map_nil]); first | done | rfl | (simp only [List.length_drop, List.length_take]; rfl)) ?_; (with_reducible refine (laws_at.calls _ _ l0 2 t189 _ ?side1 ?side2 A10.out).mono ?_); (case side1 => exact Kd.C_below HR0.out (by repeat (first | (with_reducible first | exact HB.out | apply below_alloc | apply pw_below_drewN | apply below_drew1 | refine below_set ?_ GE171.out | refine below_set ?_ GE177.out | refine below_set ?_ GE182.out | refine below_set ?_ GE188.out) | exact HB.out))); (case side2 => exact HC0.out); rintro e w' ⟨rfl, ⟨nd, rfl⟩⟩; refine ⟨_, rfl, ?_⟩) | ((with_reducible refine gate_callee (f := 17) rfl ?_); refine goesL_ (some 54) rfl rfl Try.func17 (by kernel_rfl) rfl #[.agg #[.int .i64 t168, .int .i64 t169, .int .i64 t170], .int .i64 t189] rfl (by (try simp only [List.map_toArray, List.map_cons, List.map_nil]); first | done | rfl | (simp only [List.length_drop, List.length_take]; rfl)) ?_; (with_reducible refine (impl_ValueOf.calls t168 t169 t170 t189 t190 _ A11.out).mono ?_); rintro e w54 ⟨rfl, hb⟩; refine ⟨_, rfl, ?_⟩; have n0_ := Aside0.mk (blk_below (g := gb171) (o := .cells #[.int .i64 t168, .int .i64 t169, .int .i64 t170] 25 (0, 0)) (by (with_reducible repeat (first | refine blk_drewN ?_ _ | refine blk_drew ?_ | refine blk_alloc ?_ _)); refine blk_far ?_ NB171_188.out _; (with_reducible repeat (first | refine blk_drewN ?_ _ | refine blk_drew ?_ | refine blk_alloc ?_ _)); refine blk_far ?_ NB171_188.out _; (with_reducible repeat (first | refine blk_drewN ?_ _ | refine blk_drew ?_ | refine blk_alloc ?_ _)); refine blk_far ?_ NB171_188.out _; (with_reducible repeat (first | refine blk_drewN ?_ _ | refine blk_drew ?_ | refine blk_alloc ?_ _)); exact BK171.out) hb); have n1_ := Aside0.mk (blk_below (g := gb177) (o := .cells #[.int .i64 t173, .int .i64 t174, .int .i64 t175] 25 (0, 0)) (by (with_reducible repeat (first | refine blk_drewN ?_ _ | refine blk_drew ?_ | refine blk_alloc ?_ _)); refine blk_far ?_ NB177_188.out _; (with_reducible repeat (first | refine blk_drewN ?_ _ | refine blk_drew ?_ | refine blk_alloc ?_ _)); refine blk_far ?_ NB177_188.out _; (with_reducible repeat (first | refine blk_drewN ?_ _ | refine blk_drew ?_ | refine blk_alloc ?_ _)); refine blk_far ?_ NB177_188.out _; (with_reducible repeat (first | refine blk_drewN ?_ _ | refine blk_drew ?_ | refine blk_alloc ?_ _)); exact BK177.out) hb); have n2_ := Aside0.mk (blk_below (g := gb182) (o := .cells #[.int .i64 t178, .int .i64 t179, .int .i64 t180] 25 (0, 0)) (by (with_reducible repeat (first | refine blk_drewN ?_ _ | refine blk_drew ?_ | refine blk_alloc ?_ _)); refine blk_far ?_ NB182_188.out _; (with_reducible repeat (first | refine blk_drewN ?_ _ | refine blk_drew ?_ | refine blk_alloc ?_ _)); refine blk_far ?_ NB182_188.out _; (with_reducible repeat (first | refine blk_drewN ?_ _ | refine blk_drew ?_ | refine blk_alloc ?_ _)); refine blk_far ?_ NB182_188.out _; (with_reducible repeat (first | refine blk_drewN ?_ _ | refine blk_drew ?_ | refine blk_alloc ?_ _)); exact BK182.out) hb); have n3_ := Aside0.mk (blk_below (g := gb188) (o := .cells #[.int .i64 t184, .int .i64 t185, .int .i64 t186] 25 (0, 0)) (by (with_reducible repeat (first | refine blk_drewN ?_ _ | refine blk_drew ?_ | refine blk_alloc ?_ _)); refine blk_put (cs := #[.int .i64 t184, .int .i64 t185, .int .i64 0]) ?_ 2 _ rfl; (with_reducible repeat (first | refine blk_drewN ?_ _ | refine blk_drew ?_ | refine blk_alloc ?_ _)); refine blk_put (cs := #[.int .i64 t184, .int .i64 0, .int .i64 0]) ?_ 1 _ rfl; (with_reducible repeat (first | refine blk_drewN ?_ _ | refine blk_drew ?_ | refine blk_alloc ?_ _)); refine blk_put (cs := #[.int .i64 0, .int .i64 0, .int .i64 0]) ?_ 0 _ rfl; (with_reducible repeat (first | refine blk_drewN ?_ _ | refine blk_drew ?_ | refine blk_alloc ?_ _)); exact BK188.out) hb); have n4_ := Aside0.mk (below_step (by repeat (first | (with_reducible first | exact HB.out | apply below_alloc | apply pw_below_drewN | apply below_drew1 | refine below_set ?_ GE171.out | refine below_set ?_ GE177.out | refine below_set ?_ GE182.out | refine below_set ?_ GE188.out) | exact HB.out)) hb); clear BK171; clear BK177; clear BK182; clear BK188; clear HB; have BK171 := n0_; have BK177 := n1_; have BK182 := n2_; have BK188 := n3_; have HB := n4_; clear n0_ n1_ n2_ n3_ n4_; (try clear hb); (try clear hb2); (try clear hk); (try clear hi); have hcz55_0 : w54.cell? ⟨gb171, 0, none⟩ = some (.int .i64 t168) := (blk_cell BK171.out 0).trans rfl; have hcz55_1 : w54.cell? ⟨gb171, 1, none⟩ = some (.int .i64 t169) := (blk_cell BK171.out 1).trans rfl; have hcz55_2 : w54.cell? ⟨gb171, 2, none⟩ = some (.int .i64 t170) := (blk_cell BK171.out 2).trans rfl; have hfz55_0 := blk_frozen BK171.out 0; have hfz55_1 := blk_frozen BK171.out 1; have hfz55_2 := blk_frozen BK171.out 2; have hcz56_0 : w54.cell? ⟨gb177, 0, none⟩ = some (.int .i64 t173) := (blk_cell BK177.out 0).trans rfl; have hcz56_1 : w54.cell? ⟨gb177, 1, none⟩ = some (.int .i64 t174) := (blk_cell BK177.out 1).trans rfl; have hcz56_2 : w54.cell? ⟨gb177, 2, none⟩ = some (.int .i64 t175) := (blk_cell BK177.out 2).trans rfl; have hfz56_0 := blk_frozen BK177.out 0; have hfz56_1 := blk_frozen BK177.out 1; have hfz56_2 := blk_frozen BK177.out 2; have hcz57_0 : w54.cell? ⟨gb182, 0, none⟩ = some (.int .i64 t178) := (blk_cell BK182.out 0).trans rfl; have hcz57_1 : w54.cell? ⟨gb182, 1, none⟩ = some (.int .i64 t179) := (blk_cell BK182.out 1).trans rfl; have hcz57_2 : w54.cell? ⟨gb182, 2, none⟩ = some (.int .i64 t180) := (blk_cell BK182.out 2).trans rfl; have hfz57_0 := blk_frozen BK182.out 0; have hfz57_1 := blk_frozen BK182.out 1; have hfz57_2 := blk_frozen BK182.out 2; have hcz58_0 : w54.cell? ⟨gb188, 0, none⟩ = some (.int .i64 t184) := (blk_cell BK188.out 0).trans rfl; have hcz58_1 : w54.cell? ⟨gb188, 1, none⟩ = some (.int .i64 t185) := (blk_cell BK188.out 1).trans rfl; have hcz58_2 : w54.cell? ⟨gb188, 2, none⟩ = some (.int .i64 t186) := (blk_cell BK188.out 2).trans rfl; have hfz58_0 := blk_frozen BK188.out 0; have hfz58_1 := blk_frozen BK188.out 1; have hfz58_2 := blk_frozen BK188.out 2) | (go_at_call 38; (with_reducible refine (impl_RackOk.calls t173 t174 t175 true _ A28.out).mono ?_); rintro e w59 ⟨rfl, hb⟩; have n0_ := Aside0.mk (blk_below (g := gb171) (o := .cells #[.int .i64 t168, .int .i64 t169, .int .i64 t170] 25 (0, 0)) (by (with_reducible repeat (first | refine blk_drewN ?_ _ | refine blk_drew ?_ | refine blk_alloc ?_ _)); exact BK171.out) hb); have n1_ := Aside0.mk (blk_below (g := gb177) (o := .cells #[.int .i64 t173, .int .i64 t174, .int .i64 t175] 25 (0, 0)) (by (with_reducible repeat (first | refine blk_drewN ?_ _ | refine blk_drew ?_ | refine blk_alloc ?_ _)); exact BK177.out) hb); have n2_ := Aside0.mk (blk_below (g := gb182) (o := .cells #[.int .i64 t178, .int .i64 t179, .int .i64 t180] 25 (0, 0)) (by (with_reducible repeat (first | refine blk_drewN ?_ _ | refine blk_drew ?_ | refine blk_alloc ?_ _)); exact BK182.out) hb); have n3_ := Aside0.mk (blk_below (g := gb188) (o := .cells #[.int .i64 t184, .int .i64 t185, .int .i64 t186] 25 (0, 0)) (by (with_reducible repeat (first | refine blk_drewN ?_ _ | refine blk_drew ?_ | refine blk_alloc ?_ _)); exact BK188.out) hb); have n4_ := Aside0.mk (below_step (by repeat (first | (with_reducible first | exact HB.out | apply below_alloc | apply pw_below_drewN | apply below_drew1 | refine below_set ?_ GE171.out | refine below_set ?_ GE177.out | refine below_set ?_ GE182.out | refine below_set ?_ GE188.out) | exact HB.out)) hb); clear BK171; clear BK177; clear BK182; clear BK188; clear HB; have BK171 := n0_; have BK177 := n1_; have BK182 := n2_; have BK188 := n3_; have HB := n4_; clear n0_ n1_ n2_ n3_ n4_; (try clear hb); (try clear hb2); (try clear hk); (try clear hi)) | (go_at_call 17; (with_reducible refine (impl_ValueOf.calls 2 3 4 10 t192 _ A32.out).mono ?_); rintro e w60 ⟨rfl, hb⟩; have n0_ := Aside0.mk (blk_below (g := gb171) (o := .cells #[.int .i64 t168, .int .i64 t169, .int .i64 t170] 25 (0, 0)) (by (with_reducible repeat (first | refine blk_drewN ?_ _ | refine blk_drew ?_ | refine blk_alloc ?_ _)); exact BK171.out) hb); have n1_ := Aside0.mk (blk_below (g := gb177) (o := .cells #[.int .i64 t173, .int .i64 t174, .int .i64 t175] 25 (0, 0)) (by (with_reducible repeat (first | refine blk_drewN ?_ _ | refine blk_drew ?_ | refine blk_alloc ?_ _)); exact BK177.out) hb); have n2_ := Aside0.mk (blk_below (g := gb182) (o := .cells #[.int .i64 t178, .int .i64 t179, .int .i64 t180] 25 (0, 0)) (by (with_reducible repeat (first | refine blk_drewN ?_ _ | refine blk_drew ?_ | refine blk_alloc ?_ _)); exact BK182.out) hb); have n3_ := Aside0.mk (blk_below (g := gb188) (o := .cells #[.int .i64 t184, .int .i64 t185, .int .i64 t186] 25 (0, 0)) (by (with_reducible repeat (first | refine blk_drewN ?_ _ | refine blk_drew ?_ | refine blk_alloc ?_ _)); exact BK188.out) hb); have n4_ := Aside0.mk (below_step (by repeat (first | (with_reducible first | exact HB.out | apply below_alloc | apply pw_below_drewN | apply below_drew1 | refine below_set ?_ GE171.out | refine below_set ?_ GE177.out | refine below_set ?_ GE182.out | refine below_set ?_ GE188.out) | exact HB.out)) hb); clear BK171; clear BK177; clear BK182; clear BK188; clear HB; have BK171 := n0_; have BK177 := n1_; have BK182 := n2_; have BK188 := n3_; have HB := n4_; clear n0_ n1_ n2_ n3_ n4_; (try clear hb); (try clear hb2); (try clear hk); (try clear hi)))
                                  go_ret
                                  exact ⟨by first | rfl | (simp [errW_none, errW_some] <;> rfl) | (simp only [← hji12, ← hji16, ← hji18, ← hji22]; first | rfl | (simp [errW_none, errW_some] <;> rfl)) | (simp [*, errW_none, errW_some] <;> rfl), by repeat (first | (with_reducible first | exact HB.out | apply below_alloc | apply pw_below_drewN | apply below_drew1 | refine below_set ?_ GE171.out | refine below_set ?_ GE177.out | refine below_set ?_ GE182.out | refine below_set ?_ GE188.out) | exact HB.out)⟩
                                · rw [if_neg c31] at H
                                  have c31b0 : decide (t190 ≤ (wrap64 (t189 * (wrap64 ((wrap64 (t168 + t169)) + t170))))) = false := decide_eq_false c31
                                  clear c31
                                  exact absurd (Option.some.inj H) (by rw [hr_.out]; decide)
                              · rw [if_neg c30] at H
                                have c30b0 : decide (0 ≤ t190) = false := decide_eq_false c30
                                clear c30
                                exact absurd (Option.some.inj H) (by rw [hr_.out]; decide)
                            · replace c29 := Bool.eq_false_iff.mpr c29
                              subst c29
                              have H1 : (some false) = some r := by rw [if_neg (show ¬ (false = true) by decide)] at H; exact H
                              clear H
                              have H := H1
                              clear H1
                              exact absurd (Option.some.inj H) (by rw [hr_.out]; decide)
                          · rw [if_neg c27] at H
                            have c27b0 : (t186 == t169) = false := beq_eq_false_iff_ne.mpr c27
                            have c27b1 : (t186 != t169) = true := bne_iff_ne.mpr c27
                            exact absurd (Option.some.inj H) (by rw [hr_.out]; decide)
                        · rw [if_neg c26] at H
                          have c26b0 : (t185 == t168) = false := beq_eq_false_iff_ne.mpr c26
                          have c26b1 : (t185 != t168) = true := bne_iff_ne.mpr c26
                          exact absurd (Option.some.inj H) (by rw [hr_.out]; decide)
                      · rw [if_neg c25] at H
                        have c25b0 : (t184 == t183) = false := beq_eq_false_iff_ne.mpr c25
                        have c25b1 : (t184 != t183) = true := bne_iff_ne.mpr c25
                        exact absurd (Option.some.inj H) (by rw [hr_.out]; decide)
                    · rw [if_neg c24] at H
                      have c24b0 : (t187 == t170) = false := beq_eq_false_iff_ne.mpr c24
                      have c24b1 : (t187 != t170) = true := bne_iff_ne.mpr c24
                      exact absurd (Option.some.inj H) (by rw [hr_.out]; decide)
                  · rw [if_neg c23] at H
                    have c23b0 : (t180 == (ji22)) = false := beq_eq_false_iff_ne.mpr c23
                    have c23b1 : (t180 != (ji22)) = true := bne_iff_ne.mpr c23
                    exact absurd (Option.some.inj H) (by rw [hr_.out]; decide)
                · rw [if_neg c21] at H
                  have c21b0 : (t178 == t168) = false := beq_eq_false_iff_ne.mpr c21
                  have c21b1 : (t178 != t168) = true := bne_iff_ne.mpr c21
                  exact absurd (Option.some.inj H) (by rw [hr_.out]; decide)
              · rw [if_neg c20] at H
                have c20b0 : ((wrap64 ((wrap64 ((wrap64 (t178 + t179)) + t180)) + t181)) == (wrap64 ((wrap64 (t168 + t169)) + t170))) = false := beq_eq_false_iff_ne.mpr c20
                have c20b1 : ((wrap64 ((wrap64 ((wrap64 (t178 + t179)) + t180)) + t181)) != (wrap64 ((wrap64 (t168 + t169)) + t170))) = true := bne_iff_ne.mpr c20
                exact absurd (Option.some.inj H) (by rw [hr_.out]; decide)
            · rw [if_neg c19] at H
              have c19b0 : (t181 == (ji18)) = false := beq_eq_false_iff_ne.mpr c19
              have c19b1 : (t181 != (ji18)) = true := bne_iff_ne.mpr c19
              exact absurd (Option.some.inj H) (by rw [hr_.out]; decide)
          · rw [if_neg c17] at H
            have c17b0 : (t173 == (ji16)) = false := beq_eq_false_iff_ne.mpr c17
            have c17b1 : (t173 != (ji16)) = true := bne_iff_ne.mpr c17
            exact absurd (Option.some.inj H) (by rw [hr_.out]; decide)
        · rw [if_neg c15] at H
          have c15b0 : (t175 == t170) = false := beq_eq_false_iff_ne.mpr c15
          have c15b1 : (t175 != t170) = true := bne_iff_ne.mpr c15
          exact absurd (Option.some.inj H) (by rw [hr_.out]; decide)
      · rw [if_neg c14] at H
        have c14b0 : ((wrap64 ((wrap64 ((wrap64 (t173 + t174)) + t175)) + t176)) == (wrap64 ((wrap64 (t168 + t169)) + t170))) = false := beq_eq_false_iff_ne.mpr c14
        have c14b1 : ((wrap64 ((wrap64 ((wrap64 (t173 + t174)) + t175)) + t176)) != (wrap64 ((wrap64 (t168 + t169)) + t170))) = true := bne_iff_ne.mpr c14
        exact absurd (Option.some.inj H) (by rw [hr_.out]; decide)
    · rw [if_neg c13] at H
      have c13b0 : (t176 == (ji12)) = false := beq_eq_false_iff_ne.mpr c13
      have c13b1 : (t176 != (ji12)) = true := bne_iff_ne.mpr c13
      exact absurd (Option.some.inj H) (by rw [hr_.out]; decide)

/-- THE ONE PURE STATEMENT of laws_FnShelves: yours. -/
def laws_FnShelves.Pure : Prop := ∀ (l0 : List Int), l0.length ≤ maxLen → l0.length * 1 ≤ 140737488351232 → (∀ x ∈ l0, (Lit.int .u8 x).wf = true) → ∃ k, laws_FnShelves.f k l0 = some true
theorem laws_FnShelves.walk (P : laws_FnShelves.Pure) (a0 : Option Addr) (len0 cap0 : Nat) (z0 : List Int) (w : World) (w0 : (a0 = none ∧ len0 = 0 ∧ cap0 = 0 ∧ z0 = []) ∨ ∃ x, a0 = some x ∧ len0 ≤ cap0 ∧ cap0 ≤ maxLen ∧ z0.length = cap0 ∧ (∀ i, i < z0.length → w.cell? (x.add i) = some (.int .u8 (z0.getD i 0))) ∧ ∀ n ∈ z0, (Lit.int .u8 n).wf = true) (y0 : len0 * 1 ≤ 140737488351232) :
    Calls Try.prog 11 #[.slice a0 len0 cap0] w fun e w' => e = .returned (.bool true) ∧ Below w.heap.size w w' := by
  obtain ⟨l0, rfl, hr0, hm0, hw0, hc0⟩ := ReadsInt.ofRowC w0
  obtain ⟨k, h⟩ := P l0 hm0 y0 hw0
  refine (laws_FnShelves.calls k _ _ l0 true w ⟨rfl⟩ (Kd.C_of_reads (d := (0 : Int)) (h1 := fun _ => rfl) hr0) hc0 h).mono ?_
  rintro e w' ⟨rfl, hd⟩
  exact ⟨rfl, hd⟩

end Go.Proofs.Ytljodkhonaeceaa.PFnShelves
