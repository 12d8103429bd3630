/- What the Go functions that the law FnHeats reaches compute, each as a plain function, and that the machine's calls come to just that. No condition. -/
import Derived.Test.YtkcfpkokgpimaaaPFnHeatsx0
namespace Go.Proofs.Ytkcfpkokgpimaaa.PFnHeats
open Go.RowKit Go.Proofs.YtkcfpkokgpimaaaW.PrintWords Go.Proofs.YtkcfpkokgpimaaaW.PrintLast Go.Proofs.YtkcfpkokgpimaaaW.PrintMore
attribute [local go_sem] max2_int min2_int max_two min_two max_three min_three max_four min_four   -- for this text's walks alone
set_option linter.unusedVariables false
set_option linter.unusedSimpArgs false

/-! ### laws_big: function 25 -/
def laws_big.f (l0 : List Int) : Option (Bool) := some (decide ((l0.length : Int) > 1048576))
set_option maxHeartbeats 8000000 in
set_option maxRecDepth 100000 in
theorem laws_big.calls (A0 : Option Addr) (c0 : Nat) (l0 : List Int) (r : Bool) (w : World) (hr0 : Kd.C (Kd.int .u8) w A0 l0.length l0) (hc0 : l0.length ≤ c0) (h : laws_big.f l0 = some r) :
    Calls Try.prog 25 #[.slice A0 l0.length c0] w fun e w' => e = .returned (.bool r) ∧ Drawn0 w w' := by
  have HR0 := Aside0.mk hr0
  have HC0 := Aside0.mk hc0
  clear hr0 hc0
  have H : (some (decide ((l0.length : Int) > 1048576))) = some r := h
  clear h
  obtain rfl := Option.some.inj H
  go_enter Try.func25, Try.ntmps25
  go_wp2
  go_ret
  exact ⟨by first | rfl | (simp; done) | (simp [*]; done), by repeat (first | exact Drawn0.refl _ | apply Drawn0.step)⟩

/-! ### laws_at: function 27 -/
def laws_at.f (l0 : List Int) (a1 : Int) : Option (Int) := if (l0.length : Int) = 0 then (some 0) else (if 0 ≤ (Int.tmod (wrap64 ((wrap64 (a1 * 5)) + 1)) (l0.length : Int)) then (if (Int.tmod (wrap64 ((wrap64 (a1 * 5)) + 1)) (l0.length : Int)) < (l0.length : Int) then (some (wrap64 (rd l0 (Int.tmod (wrap64 ((wrap64 (a1 * 5)) + 1)) (l0.length : Int))))) else (none)) else (none))
set_option maxHeartbeats 8000000 in
set_option maxRecDepth 100000 in
theorem laws_at.calls (A0 : Option Addr) (c0 : Nat) (l0 : List Int) (a1 : Int) (r : Int) (w : World) (hr0 : Kd.C (Kd.int .u8) w A0 l0.length l0) (hc0 : l0.length ≤ c0) (h : laws_at.f l0 a1 = some r) :
    Calls Try.prog 27 #[.slice A0 l0.length c0, .int .i64 a1] w fun e w' => e = .returned (.int .i64 r) ∧ Drawn0 w w' := by
  have HR0 := Aside0.mk hr0
  have HC0 := Aside0.mk hc0
  clear hr0 hc0
  have H : (if (l0.length : Int) = 0 then (some 0) else (if 0 ≤ (Int.tmod (wrap64 ((wrap64 (a1 * 5)) + 1)) (l0.length : Int)) then (if (Int.tmod (wrap64 ((wrap64 (a1 * 5)) + 1)) (l0.length : Int)) < (l0.length : Int) then (some (wrap64 (rd l0 (Int.tmod (wrap64 ((wrap64 (a1 * 5)) + 1)) (l0.length : Int))))) else (none)) else (none))) = some r := h
  clear h
  by_cases c3 : (l0.length : Int) = 0
  · rw [if_pos c3] at H
    have c3b0 : ((l0.length : Int) == 0) = true := beq_iff_eq.mpr c3
    have c3b1 : ((l0.length : Int) != 0) = false := bne_eq_false_iff_eq.mpr c3
    clear c3
    obtain rfl := Option.some.inj H
    go_enter Try.func27, Try.ntmps27
    go_wp2
    go_ret
    exact ⟨by first | rfl | (simp; done) | (simp [*]; done), by repeat (first | exact Drawn0.refl _ | apply Drawn0.step)⟩
  · rw [if_neg c3] at H
    have c3b0 : ((l0.length : Int) == 0) = false := beq_eq_false_iff_ne.mpr c3
    have c3b1 : ((l0.length : Int) != 0) = true := bne_iff_ne.mpr c3
    have c3b2 : ¬ (l0 = []) := fun h_ => c3 (by rw [h_]; rfl)
    obtain ⟨ji4, hji4⟩ : ∃ j_ : Int, (Int.tmod (wrap64 ((wrap64 (a1 * 5)) + 1)) (l0.length : Int)) = j_ := ⟨_, rfl⟩
    replace H : (if 0 ≤ (ji4) then (if (ji4) < (l0.length : Int) then (some (wrap64 (rd l0 (ji4)))) else (none)) else (none)) = some r := by first | (rw [hji4] at H; exact H) | (simp only [hji4] at H ⊢; exact H)
    by_cases c5 : 0 ≤ (ji4)
    · rw [if_pos c5] at H
      have c5b0 : decide (0 ≤ (ji4)) = true := decide_eq_true c5
      clear c5
      by_cases c6 : (ji4) < (l0.length : Int)
      · rw [if_pos c6] at H
        have c6b0 : decide ((ji4) < (l0.length : Int)) = true := decide_eq_true c6
        clear c6
        obtain rfl := Option.some.inj H
        have p101 : 0 ≤ ((ji4) : Int) := of_decide_eq_true (by first | (with_reducible assumption) | assumption)
        have q101 : (ji4) < (l0.length : Int) := of_decide_eq_true (by first | (with_reducible assumption) | assumption)
        obtain ⟨ad101, e101, hx101_0⟩ := Kd.at_int HR0.out (ji4) p101 q101
        cases e101
        replace p101 := eq_true p101
        replace q101 := eq_true q101
        go_enter Try.func27, Try.ntmps27
        go_wp2
        go_ret
        exact ⟨by first | rfl | (simp; done) | (simp only [← hji4] <;> (first | rfl | simp)) | (simp [*]; done), by repeat (first | exact Drawn0.refl _ | apply Drawn0.step)⟩
      · rw [if_neg c6] at H
        exact absurd H (by simp)
    · rw [if_neg c5] at H
      exact absurd H (by simp)

-- NOT PRINTED: function 101 (slices_IndexFunc_int_int)

-- NOT PRINTED: function 90 (slices_ContainsFunc_int_int)

/-! ### impl_in: function 74 -/
def impl_in.f (a0 : Int) (a1 : Int) (a2 : Int) : Option (Bool) := if a1 ≤ a0 then (some (decide (a0 ≤ a2))) else (some false)
set_option maxHeartbeats 8000000 in
set_option maxRecDepth 100000 in
theorem impl_in.calls (a0 : Int) (a1 : Int) (a2 : Int) (r : Bool) (w : World) (h : impl_in.f a0 a1 a2 = some r) :
    Calls Try.prog 74 #[.int .i64 a0, .int .i64 a1, .int .i64 a2] w fun e w' => e = .returned (.bool r) ∧ Drawn0 w w' := by
  have H : (if a1 ≤ a0 then (some (decide (a0 ≤ a2))) else (some false)) = some r := h
  clear h
  by_cases c4 : a1 ≤ a0
  · rw [if_pos c4] at H
    have c4b0 : decide (a1 ≤ a0) = true := decide_eq_true c4
    clear c4
    obtain rfl := Option.some.inj H
    go_enter Try.func74, Try.ntmps74
    go_wp2
    go_ret
    exact ⟨by first | rfl | (simp; done) | (simp [*]; done), by repeat (first | exact Drawn0.refl _ | apply Drawn0.step)⟩
  · rw [if_neg c4] at H
    have c4b0 : decide (a1 ≤ a0) = false := decide_eq_false c4
    clear c4
    obtain rfl := Option.some.inj H
    go_enter Try.func74, Try.ntmps74
    go_wp2
    go_ret
    exact ⟨by first | rfl | (simp; done) | (simp [*]; done), by repeat (first | exact Drawn0.refl _ | apply Drawn0.step)⟩

-- NOT PRINTED: function 91 (impl_allIn_1)

/-! ### impl_allIn: function 65, with slices.ContainsFunc and slices.IndexFunc over whole numbers, by hand -/
def idxP (p : Int → Bool) (l : List Int) : Int := if l.any p = true then (l.findIdx p : Int) else -1
theorem idxP_hit (p : Int → Bool) (l : List Int) (k : Nat) (hk : k < l.length) (h : p (rd l (k : Int)) = true) (hb : ∀ j, j < k → p (rd l ((j : Nat) : Int)) = false) : idxP p l = (k : Int) := by
  have e : ∀ j, j < l.length → ∀ hj : j < l.length, rd l (j : Int) = l[j]'hj := by
    intro j _ hj
    unfold rd
    rw [Int.toNat_natCast, List.getD_eq_getElem?_getD, List.getElem?_eq_getElem hj]
    rfl
  unfold idxP
  have hf : l.findIdx p = k := by
    rw [List.findIdx_eq hk]
    refine ⟨by rw [← e k hk hk]; exact h, fun j hj => ?_⟩
    rw [← e j (by omega) (by omega)]
    exact hb j hj
  rw [if_pos (List.any_eq_true.2 ⟨l[k], List.getElem_mem hk, by rw [← e k hk hk]; exact h⟩), hf]
theorem idxP_miss (p : Int → Bool) (l : List Int) (hb : ∀ j, j < l.length → p (rd l ((j : Nat) : Int)) = false) : idxP p l = -1 := by
  unfold idxP
  rw [if_neg]
  intro h
  obtain ⟨x, hx, hp⟩ := List.any_eq_true.1 h
  obtain ⟨j, hj, rfl⟩ := List.mem_iff_getElem.1 hx
  have := hb j hj
  unfold rd at this
  rw [Int.toNat_natCast, List.getD_eq_getElem?_getD, List.getElem?_eq_getElem hj] at this
  simp only [Option.getD_some] at this
  rw [hp] at this
  cases this
theorem idxP_ge (p : Int → Bool) (l : List Int) : decide (0 ≤ idxP p l) = l.any p := by
  unfold idxP
  by_cases h : l.any p = true
  · rw [if_pos h, h]
    exact decide_eq_true (Int.natCast_nonneg _)
  · rw [if_neg h, Bool.eq_false_iff.2 h]
    rfl
theorem allIn_enters : ∀ args w, (callFunc 91 args).run Try.prog w = .ok (.enter 91 args) w := enters_of Try.func91 (by kernel_rfl) rfl
theorem allIn_in (a0 a1 a2 : Int) (w : World) : Calls Try.prog 74 #[.int .i64 a0, .int .i64 a1, .int .i64 a2] w fun e w' => e = .returned (.bool (decide (a1 ≤ a0 ∧ a0 ≤ a2))) ∧ w' = w := by
  by_cases c4 : a1 ≤ a0
  · have e : decide (a1 ≤ a0 ∧ a0 ≤ a2) = decide (a0 ≤ a2) := by simp [c4]
    rw [e]
    have c4b0 : decide (a1 ≤ a0) = true := decide_eq_true c4
    clear c4 e
    go_enter Try.func74, Try.ntmps74
    go_wp2
    go_ret
    exact ⟨by first | rfl | (simp; done), rfl⟩
  · have e : decide (a1 ≤ a0 ∧ a0 ≤ a2) = false := by simp [c4]
    rw [e]
    have c4b0 : decide (a1 ≤ a0) = false := decide_eq_false c4
    clear c4 e
    go_enter Try.func74, Try.ntmps74
    go_wp2
    go_ret
    exact ⟨by first | rfl | (simp; done), rfl⟩
/-- The closure of allIn: 'not in the range', its bounds in two cells. -/
theorem allIn_closure (x lo hi : Int) (B1 B2 : Nat) (w : World) (h1 : w.cell? ⟨B1, 0, none⟩ = some (.int .i64 lo)) (h2 : w.cell? ⟨B2, 0, none⟩ = some (.int .i64 hi)) :
    Calls Try.prog 91 #[.int .i64 x, .pointer (some ⟨B1, 0, none⟩), .pointer (some ⟨B2, 0, none⟩)] w fun e w' => e = .returned (.bool (!decide (lo ≤ x ∧ x ≤ hi))) ∧ ∃ q, w' = w.drewN q := by
  have hcon := fun W => allIn_in x lo hi W
  generalize decide (lo ≤ x ∧ x ≤ hi) = b at hcon ⊢
  go_enter Try.func91, Try.ntmps91
  go_wp2_with (go_at_call 74; (with_reducible refine (hcon _).mono ?_); rintro e w' ⟨rfl, rfl⟩)
  go_ret
  exact ⟨by first | rfl | (simp; done), 0, rfl⟩
set_option maxHeartbeats 8000000 in
set_option maxRecDepth 100000 in
theorem idxFunc_calls (p : Int → Bool) (lb : Array Value) (A0 : Option Addr) (c0 : Nat) (l0 : List Int) (w : World)
    (hp : ∀ (x : Int) (q : Nat), Calls Try.prog 91 (#[.int .i64 x] ++ lb) (w.drewN q) fun e w' => e = .returned (.bool (p x)) ∧ ∃ q', w' = (w.drewN q).drewN q')
    (hr0 : Kd.C (Kd.int .i64) w A0 l0.length l0) :
    Calls Try.prog 101 #[.slice A0 l0.length c0, .func (.func 91) #[] lb] w fun e w' => e = .returned (.int .i64 (idxP p l0)) ∧ ∃ q, w' = w.drewN q := by
  have HR0 := Aside0.mk hr0
  have hm : l0.length ≤ 9223372036854775807 := hr0.2.1
  have eg := allIn_enters
  clear hr0
  go_enter Try.func101, Try.ntmps101
  go_wp2
  go_loopg [5, 8] l0.length (fun gg _ s8 wr => ∃ kk q : Nat, kk ≤ l0.length ∧ l0.length - kk ≤ gg ∧ s8 = .int .i64 kk ∧ wr = w.drewN q ∧ Aside0 (∀ j, j < kk → p (rd l0 ((j : Nat) : Int)) = false))
  case atStart => exact ⟨0, 0, Nat.zero_le _, by omega, rfl, rfl, ⟨fun j hj => absurd hj (Nat.not_lt_zero _)⟩⟩
  case round =>
    obtain ⟨kk, q, hkk, hg, rfl, rfl, A⟩ := hrel
    by_cases hlt : kk < l0.length
    · have hltz : (kk : Int) < (l0.length : Int) := by omega
      obtain ⟨ad, e0, hcell⟩ := Kd.at_int HR0.out (kk : Int) (by omega) hltz
      cases e0
      rw [Int.toNat_natCast] at hcell
      generalize hy : rd l0 (kk : Int) = y at hcell
      have B : Aside0 (rd l0 (kk : Int) = y) := ⟨hy⟩
      clear hy
      have hcall := hp y
      cases hq : p y with
      | true =>
        rw [hq] at hcall
        go_wp2_with (go_at_fn 91; refine (hcall _).mono ?_; rintro e w' ⟨rfl, q', rfl⟩)
        go_ret
        refine ⟨?_, _, rfl⟩
        rw [idxP_hit p l0 kk hlt (by rw [B.out]; exact hq) A.out]
        rfl
      | false =>
        rw [hq] at hcall
        go_wp2_with (go_at_fn 91; refine (hcall _).mono ?_; rintro e w' ⟨rfl, q', rfl⟩)
        go_roundg (l0.length - (kk + 1))
        case measure => omega
        case rel =>
          refine ⟨kk + 1, _, by omega, by omega, by go_num, rfl, ⟨fun j hj => ?_⟩⟩
          by_cases e : j = kk
          · subst e
            rw [B.out]
            exact hq
          · exact A.out j (by omega)
    · have hltz : ¬ (kk : Int) < (l0.length : Int) := by omega
      have : kk = l0.length := by omega
      subst this
      go_wp2
      go_ret
      refine ⟨?_, q, rfl⟩
      rw [idxP_miss p l0 A.out]
      rfl
set_option maxHeartbeats 8000000 in
set_option maxRecDepth 100000 in
theorem containsFunc_calls (p : Int → Bool) (lb : Array Value) (A0 : Option Addr) (c0 : Nat) (l0 : List Int) (w : World)
    (hp : ∀ (x : Int) (q : Nat), Calls Try.prog 91 (#[.int .i64 x] ++ lb) (w.drewN q) fun e w' => e = .returned (.bool (p x)) ∧ ∃ q', w' = (w.drewN q).drewN q')
    (hr0 : Kd.C (Kd.int .i64) w A0 l0.length l0) :
    Calls Try.prog 90 #[.slice A0 l0.length c0, .func (.func 91) #[] lb] w fun e w' => e = .returned (.bool (l0.any p)) ∧ ∃ q, w' = w.drewN q := by
  have hcon := idxFunc_calls p lb A0 c0 l0 w hp hr0
  rw [← idxP_ge p l0]
  generalize idxP p l0 = r at hcon ⊢
  clear hr0 hp
  go_enter Try.func90, Try.ntmps90
  go_wp2_with (go_at_call 101; refine hcon.mono ?_; rintro e w' ⟨rfl, q, rfl⟩)
  go_ret
  exact ⟨rfl, q, rfl⟩
def impl_allIn.f (l0 : List Int) (a1 : Int) (a2 : Int) : Option (Bool) := some (l0.all fun x => decide (a1 ≤ x ∧ x ≤ a2))
theorem allIn_not (l : List Int) (a1 a2 : Int) : (!l.any fun x => !decide (a1 ≤ x ∧ x ≤ a2)) = l.all fun x => decide (a1 ≤ x ∧ x ≤ a2) := by
  induction l with
  | nil => rfl
  | cons x l ih => rw [List.any_cons, List.all_cons, ← ih]; cases decide (a1 ≤ x ∧ x ≤ a2) <;> simp
set_option maxHeartbeats 8000000 in
set_option maxRecDepth 100000 in
theorem impl_allIn.calls (A0 : Option Addr) (c0 : Nat) (l0 : List Int) (a1 : Int) (a2 : Int) (r : Bool) (w : World) (hr0 : Kd.C (Kd.int .i64) w A0 l0.length l0) (hc0 : l0.length ≤ c0) (h : impl_allIn.f l0 a1 a2 = some r) :
    Calls Try.prog 65 #[.slice A0 l0.length c0, .int .i64 a1, .int .i64 a2] w fun e w' => e = .returned (.bool r) ∧ Below w.heap.size w w' := by
  have hr : r = !l0.any fun x => !decide (a1 ≤ x ∧ x ≤ a2) := by
    rw [allIn_not]
    exact (Option.some.inj h).symm
  have hb : Below w.heap.size w ((w.alloc (.cells #[.int .i64 a1] 3)).alloc (.cells #[.int .i64 a2] 3)) := ((Below.refl _ w).alloc (Nat.le_refl _) _).alloc (by simp) _
  have hcon := containsFunc_calls (fun x => !decide (a1 ≤ x ∧ x ≤ a2)) #[.pointer (some ⟨w.heap.size, 0, none⟩), .pointer (some ⟨w.heap.size + 1, 0, none⟩)] A0 c0 l0 ((w.alloc (.cells #[.int .i64 a1] 3)).alloc (.cells #[.int .i64 a2] 3))
    (fun x q => allIn_closure x a1 a2 w.heap.size (w.heap.size + 1) _ (by simp) (by simp)) (Kd.C_below hr0 hb)
  have HB := Aside0.mk hb
  have HH := Aside0.mk hr
  clear hb hr hr0 h
  generalize (l0.any fun x => !decide (a1 ≤ x ∧ x ≤ a2)) = b at hcon HH
  go_enter Try.func65, Try.ntmps65
  go_wp2_with (go_at_call 90; refine hcon.mono ?_; rintro e w' ⟨rfl, q, rfl⟩)
  go_ret
  exact ⟨by rw [HH.out]; rfl, pw_below_drewN HB.out q⟩


/-! ### impl_areHeats: function 69 -/
def impl_areHeats.f (l0 : List Int) : Option (Bool) := if (l0.length : Int) ≤ 8 then ((impl_allIn.f l0 0 350).bind fun t102 => (some t102)) else (some false)
set_option maxHeartbeats 8000000 in
set_option maxRecDepth 100000 in
theorem impl_areHeats.calls (A0 : Option Addr) (c0 : Nat) (l0 : List Int) (r : Bool) (w : World) (hr0 : Kd.C (Kd.int .i64) w A0 l0.length l0) (hc0 : l0.length ≤ c0) (h : impl_areHeats.f l0 = some r) :
    Calls Try.prog 69 #[.slice A0 l0.length c0] w fun e w' => e = .returned (.bool r) ∧ Below w.heap.size w w' := by
  have HR0 := Aside0.mk hr0
  have HC0 := Aside0.mk hc0
  clear hr0 hc0
  have HB := Aside0.mk (Below.refl w.heap.size w)
  have H : (if (l0.length : Int) ≤ 8 then ((impl_allIn.f l0 0 350).bind fun t102 => (some t102)) else (some false)) = some r := h
  clear h
  by_cases c2 : (l0.length : Int) ≤ 8
  · rw [if_pos c2] at H
    have c2b0 : decide ((l0.length : Int) ≤ 8) = true := decide_eq_true c2
    have c2b1 : decide (l0.length ≤ 8) = true := decide_eq_true (by omega)
    clear c2
    replace H := Option.bind_eq_some_iff.mp H
    obtain ⟨t102, A30, H⟩ := H
    replace H : (some t102) = some r := H
    have A3 := Aside0.mk A30
    clear A30
    obtain rfl := Option.some.inj H
    go_enter Try.func69, Try.ntmps69
    go_wp2_with (first | (go_at_call 65; (with_reducible refine (impl_allIn.calls _ _ l0 0 350 t102 _ ?side1 ?side2 A3.out).mono ?_); (case side1 => repeat (first | exact HR0.out | (with_reducible refine Kd.C_alloc ?_ _) | (with_reducible refine Kd.C_drewN ?_ _) | (with_reducible refine Kd.C_drew ?_))); (case side2 => exact HC0.out); rintro e w4 ⟨rfl, hb⟩; have n0_ := Aside0.mk (below_step (by repeat (first | (with_reducible first | exact HB.out | apply below_alloc | apply pw_below_drewN | apply below_drew1) | exact HB.out)) hb); clear HB; have HB := n0_; clear n0_; (try clear hb); (try clear hb2); (try clear hk); (try clear hi)))
    go_ret
    exact ⟨by first | rfl | (simp [errW_none, errW_some] <;> rfl) | (simp [*, errW_none, errW_some] <;> rfl), by repeat (first | (with_reducible first | exact HB.out | apply below_alloc | apply pw_below_drewN | apply below_drew1) | exact HB.out)⟩
  · rw [if_neg c2] at H
    have c2b0 : decide ((l0.length : Int) ≤ 8) = false := decide_eq_false c2
    have c2b1 : decide (l0.length ≤ 8) = false := decide_eq_false (by omega)
    clear c2
    obtain rfl := Option.some.inj H
    go_enter Try.func69, Try.ntmps69
    go_wp2
    go_ret
    exact ⟨by first | rfl | (simp [errW_none, errW_some] <;> rfl) | (simp [*, errW_none, errW_some] <;> rfl), by repeat (first | (with_reducible first | exact HB.out | apply below_alloc | apply pw_below_drewN | apply below_drew1) | exact HB.out)⟩

/-! ### impl_indices: function 70 -/
def impl_indices.l0 : Nat → List Int → Int → Int → Option (List Int)
  | 0, _, _, _ => none
  | k + 1, x3, x6, x7 => if x7 < x6 then (if x3.length < 17592186044416 then (impl_indices.l0 k (x3 ++ [x7]) x6 (wrap64 (x7 + 1))) else (none)) else (some x3)
def impl_indices.f (k : Nat) (a0 : Int) : Option (List Int) := impl_indices.l0 k (([] : List Int)) a0 0
theorem impl_indices.mono_l : ∀ k, (∀ y0 y1 y2, LeO (impl_indices.l0 k y0 y1 y2) (impl_indices.l0 (k + 1) y0 y1 y2))
  | 0 => fun _ _ _ r h => by simp [impl_indices.l0] at h
  | k + 1 => by
    have ih0 := impl_indices.mono_l k
    · intro y0 y1 y2
      unfold impl_indices.l0
      repeat' first
      | (with_reducible exact ih0 _ _ _)
      | (with_reducible exact LeO.refl _)
      | (with_reducible exact LeO.none _)
      | (with_reducible refine LeO.ite ?_ ?_)
      | (with_reducible refine LeO.bind ?_ (fun _ => ?_))
      | exact ih0 _ _ _
      | exact LeO.none _
      | refine LeO.ite ?_ ?_
      | refine LeO.bind ?_ (fun _ => ?_)
theorem impl_indices.mono : ∀ a0 k, LeO (impl_indices.f k a0) (impl_indices.f (k + 1) a0) := by
  intro a0 k
  have ih0 := impl_indices.mono_l k
  unfold impl_indices.f
  repeat' first
      | (with_reducible exact ih0 _ _ _)
      | (with_reducible exact LeO.refl _)
      | (with_reducible exact LeO.none _)
      | (with_reducible refine LeO.ite ?_ ?_)
      | (with_reducible refine LeO.bind ?_ (fun _ => ?_))
      | exact ih0 _ _ _
      | exact LeO.none _
      | refine LeO.ite ?_ ?_
      | refine LeO.bind ?_ (fun _ => ?_)
set_option maxHeartbeats 8000000 in
set_option maxRecDepth 100000 in
theorem impl_indices.calls (k : Nat) (a0 : Int) (r : List Int) (w : World) (h : impl_indices.f k a0 = some r) :
    Calls Try.prog 70 #[.int .i64 a0] w fun e w' => ∃ v0_ : Value, e = .returned (v0_) ∧ Kd.R (Kd.int .i64) 3 w' w.heap.size (fun _ => True) v0_ r ∧ Below w.heap.size w w' := by
  have HB := Aside0.mk (Below.refl w.heap.size w)
  have H : (impl_indices.l0 k (([] : List Int)) a0 0) = some r := h
  clear h
  obtain ⟨y103, hy103⟩ : ∃ y_ : List Int, y_ = (([] : List Int)) := ⟨_, rfl⟩
  replace H : (impl_indices.l0 k y103 a0 0) = some r := by first | (rw [hy103]; with_reducible exact H) | (have H2_ := (Option.bind_some _ _).symm.trans H; rw [hy103]; with_reducible exact H2_) | (have H2_ := (Option.bind_some _ _).symm.trans H; with_reducible exact H2_) | with_reducible exact H | (rw [hy103]; exact H) | exact H
  have Ny103 := Aside0.mk hy103
  clear hy103
  have H' := Aside0.mk H
  clear H
  go_enter Try.func70, Try.ntmps70
  go_wp2_with (first | ((with_reducible refine gate_dst (N := 5) rfl ?_); refine Kd.R_lit (Kd.int .i64) _ 3 ?hg (N := 5) ?hd (xs := ([] : List Int)) (inner := []) (ok := fun _ => True) (okp := fun _ => True) ?hr ?hp (fun _ hk => hk) trivial (Below.refl _ _) (Nat.le_refl _) (by simp) ?_; (case hd => rfl); (case hg => rfl); (case hr => first | (go_simp; done) | (go_simp; rfl)); (case hp => exact (Reps.none _ _)); intro v104 w2 ho3 hb hg_ hnew_; clear hg_ hnew_; (first | rw [← Ny103.out] at ho3 | (simp only [Int.reduceToNat] at ho3; rw [← Ny103.out] at ho3)); have n0_ := Aside0.mk (Kd.R_lower ho3 (below_size (by repeat (first | (with_reducible first | exact HB.out | apply below_alloc | apply pw_below_drewN | apply below_drew1) | exact HB.out)))); have n1_ := Aside0.mk (below_step (by repeat (first | (with_reducible first | exact HB.out | apply below_alloc | apply pw_below_drewN | apply below_drew1) | exact HB.out)) hb); clear HB; have HO105 := n0_; have HB := n1_; clear n0_ n1_; clear hb ho3))
  go_loopg [3, 7] k (fun kq v3 v7 w' => ∃ (x3_1 : List Int) (x7_1 : Int), v7 = .int .i64 x7_1 ∧ Aside0 (impl_indices.l0 kq x3_1 a0 x7_1 = some r) ∧ Aside0 (kq ≤ k) ∧ Aside0 (Kd.R (Kd.int .i64) 3 w' w.heap.size (fun _ => True) v3 x3_1) ∧ Aside0 (Below w.heap.size w w'))
  case atStart => exact ⟨(y103), (0), (by first | rfl | (simp; done) | (simp [*]; done)), H', ⟨Nat.le_refl _⟩, ⟨by (with_reducible repeat (first | apply Kd.R_alloc | apply Kd.R_drewN | apply Kd.R_drew)); exact HO105.out⟩, ⟨by repeat (first | (with_reducible first | exact HB.out | apply below_alloc | apply pw_below_drewN | apply below_drew1) | exact HB.out)⟩⟩
  case round =>
    clear H'
    try clear p2
    obtain ⟨x3_1, x7_1, rfl, HA, HK1, HO_3, HB⟩ := hrel
    cases gk with
    | zero => exact absurd HA.out (by simp [impl_indices.l0])
    | succ k1 =>
      have H := HA.out
      clear HA
      simp only [impl_indices.l0] at H
      by_cases c4 : x7_1 < a0
      · rw [if_pos c4] at H
        have c4b0 : decide (x7_1 < a0) = true := decide_eq_true c4
        clear c4
        by_cases c5 : x3_1.length < 17592186044416
        · rw [if_pos c5] at H
          have LMc5 := Aside0.mk c5
          clear c5
          obtain ⟨y106, hy106⟩ : ∃ y_ : List Int, y_ = (x3_1 ++ [x7_1]) := ⟨_, rfl⟩
          replace H : (impl_indices.l0 k1 y106 a0 (wrap64 (x7_1 + 1))) = some r := by first | (rw [hy106]; with_reducible exact H) | (have H2_ := (Option.bind_some _ _).symm.trans H; rw [hy106]; with_reducible exact H2_) | (have H2_ := (Option.bind_some _ _).symm.trans H; with_reducible exact H2_) | with_reducible exact H | (rw [hy106]; exact H) | exact H
          have Ny106 := Aside0.mk hy106
          clear hy106
          have H' := Aside0.mk H
          clear H
          go_wp2_with (first | ((with_reducible refine gate_builtin (b := .append) (xs := #[.tmp 10, .tmp 12]) rfl ?_); at_builtin; refine Kd.R_append (Kd.int .i64) (w0 := w) w.heap.size rfl (.tmp 10) (.tmp 12) 22 3 (.int .i64 0) 8 rfl Try.underlying22 info3 rfl (by decide) (by omega) u3 x3_1 x7_1 [.int .i64 x7_1] (fun _ => True) (fun _ => False) rfl rfl ?aP (fun _ hk => hk.elim) ?aF ?aO ?aB ?aS ?aL ?_; (case aP => exact rfl); (case aB => exact (by repeat (first | (with_reducible first | exact HB.out | apply below_alloc | apply pw_below_drewN | apply below_drew1) | exact HB.out))); (case aF => exact (fun _ _ => trivial)); (case aO => exact (by (with_reducible repeat (first | apply Kd.R_alloc | apply Kd.R_drewN | apply Kd.R_drew)); exact HO_3.out)); (case aS => exact (below_size (by repeat (first | (with_reducible first | exact HB.out | apply below_alloc | apply pw_below_drewN | apply below_drew1) | exact HB.out)))); (case aL => have := LMc5.out; omega); intro v107 w6 ho hb hg hat; rw [← Ny106.out] at ho; have n0_ := Aside0.mk (hb); have n1_ := Aside0.mk (ho); clear HB; clear HO_3; have HB := n0_; have HO108 := n1_; clear n0_ n1_; clear ho hb hg hat))
          go_roundg k1
          case measure => have := HK1.out; omega
          case rel => exact ⟨(y106), (wrap64 (x7_1 + 1)), (by first | rfl | (simp; done) | (simp [*]; done)), H', ⟨by have := HK1.out; omega⟩, ⟨by (with_reducible repeat (first | apply Kd.R_alloc | apply Kd.R_drewN | apply Kd.R_drew)); exact HO108.out⟩, ⟨by repeat (first | (with_reducible first | exact HB.out | apply below_alloc | apply pw_below_drewN | apply below_drew1) | exact HB.out)⟩⟩
        · rw [if_neg c5] at H
          exact absurd H (by simp)
      · rw [if_neg c4] at H
        have c4b0 : decide (x7_1 < a0) = false := decide_eq_false c4
        clear c4
        obtain rfl := Option.some.inj H
        go_wp2
        go_ret
        exact ⟨_, by first | rfl | (simp [errW_none, errW_some] <;> rfl) | (simp [*, errW_none, errW_some] <;> rfl), by (with_reducible repeat (first | apply Kd.R_alloc | apply Kd.R_drewN | apply Kd.R_drew)); exact HO_3.out, by repeat (first | (with_reducible first | exact HB.out | apply below_alloc | apply pw_below_drewN | apply below_drew1) | exact HB.out)⟩

-- NOT PRINTED: function 102 (slices_insertionSortCmpFunc_int)

-- NOT PRINTED: function 105 (slices_swapRangeCmpFunc_int)

-- NOT PRINTED: function 104 (slices_rotateCmpFunc_int)

-- NOT PRINTED: function 103 (slices_symMergeCmpFunc_int)

-- NOT PRINTED: function 95 (slices_stableCmpFunc_int)

-- NOT PRINTED: function 71 (slices_SortStableFunc_int_int)

-- NOT PRINTED: function 72 (impl_FallingOrder_1)

/-! ### impl_FallingOrder: function 31, with slices.SortStableFunc over indices, by hand -/
def idxs (n : Nat) : List Int := (List.range n).map fun k => ((k : Nat) : Int)
theorem mem_idxs {n : Nat} {i : Int} : i ∈ idxs n ↔ 0 ≤ i ∧ i < n := by
  unfold idxs
  rw [List.mem_map]
  constructor
  · rintro ⟨k, hk, rfl⟩
    rw [List.mem_range] at hk
    omega
  · rintro ⟨h0, h1⟩
    exact ⟨i.toNat, by rw [List.mem_range]; omega, by omega⟩
theorem idxs_succ (n : Nat) : idxs (n + 1) = idxs n ++ [(n : Int)] := by simp [idxs, List.range_succ]
theorem idxs_length (n : Nat) : (idxs n).length = n := by simp [idxs]
def insGo {α : Type} (lt : α → α → Bool) (x : α) : List α → List α → List α
  | [], B => x :: B
  | y :: R, B => if lt x y = true then insGo lt x R (y :: B) else (y :: R).reverse ++ x :: B
def isort {α : Type} (lt : α → α → Bool) (l : List α) : List α := l.foldl (fun A x => insGo lt x A.reverse []) []
theorem insGo_snoc {α : Type} (lt : α → α → Bool) (x : α) (R B : List α) : insGo lt x R B = insGo lt x R [] ++ B := by
  induction R generalizing B with
  | nil => rfl
  | cons y R ih =>
    unfold insGo
    by_cases h : lt x y = true
    · rw [if_pos h, if_pos h, ih (y :: B), ih [y]]
      simp
    · rw [if_neg h, if_neg h]
      simp
theorem swp_list {α : Type} [Inhabited α] (A B : List α) (x y : α) : Go.Sort.swp (A ++ y :: x :: B).toArray (A.length + 1) A.length = (A ++ x :: y :: B).toArray := by
  unfold Go.Sort.swp
  have e1 : (A ++ y :: x :: B).toArray[A.length]! = y := by
    rw [getElem!_pos _ _ (by simp)]
    simp
  have e2 : (A ++ y :: x :: B).toArray[A.length + 1]! = x := by
    rw [getElem!_pos _ _ (by simp)]
    simp
  rw [e1, e2]
  simp
theorem insInner_list {α : Type} [Inhabited α] (lt : α → α → Bool) (x : α) (R B : List α) : Go.Sort.insInner lt 0 R.length (R.reverse ++ x :: B).toArray = (insGo lt x R B).toArray := by
  induction R generalizing B with
  | nil => rfl
  | cons y R ih =>
    have e1 : ((y :: R).reverse ++ x :: B).toArray[R.length]! = y := by
      rw [getElem!_pos _ _ (by simp)]
      simp
    have e2 : ((y :: R).reverse ++ x :: B).toArray[R.length + 1]! = x := by
      rw [getElem!_pos _ _ (by simp)]
      simp
    rw [List.length_cons]
    unfold Go.Sort.insInner insGo
    rw [e1, e2]
    by_cases h : lt x y = true
    · rw [if_pos h, if_pos (by simp [h])]
      have := swp_list R.reverse B x y
      rw [List.length_reverse] at this
      rw [show (y :: R).reverse ++ x :: B = R.reverse ++ y :: x :: B by simp, this]
      exact ih (y :: B)
    · rw [if_neg h, if_neg (by simp [h])]
theorem insGo_length {α : Type} (lt : α → α → Bool) (x : α) (R B : List α) : (insGo lt x R B).length = R.length + B.length + 1 := by
  induction R generalizing B with
  | nil => simp [insGo]
  | cons y R ih =>
    unfold insGo
    by_cases h : lt x y = true
    · rw [if_pos h, ih]; simp; omega
    · rw [if_neg h]; simp; omega
theorem insOuter_list {α : Type} [Inhabited α] (lt : α → α → Bool) (b : Nat) (B A : List α) (hb : b = A.length + B.length) : Go.Sort.insOuter lt 0 b A.length (A ++ B).toArray = (B.foldl (fun A x => insGo lt x A.reverse []) A).toArray := by
  induction B generalizing A with
  | nil =>
    rw [Go.Sort.insOuter, if_neg (by simp at hb; omega)]
    simp
  | cons x B ih =>
    rw [Go.Sort.insOuter, if_pos (by simp at hb; omega)]
    have h := insInner_list lt x A.reverse B
    rw [List.reverse_reverse, List.length_reverse] at h
    rw [h, insGo_snoc, List.foldl_cons]
    have hl : (insGo lt x A.reverse []).length = A.length + 1 := by rw [insGo_length]; simp
    have := ih (insGo lt x A.reverse []) (by rw [hl, hb]; simp; omega)
    rw [hl] at this
    exact this
theorem insertionSort_list {α : Type} [Inhabited α] (lt : α → α → Bool) (l : List α) : Go.Sort.insertionSort lt l.toArray 0 l.length = (isort lt l).toArray := by
  unfold Go.Sort.insertionSort isort
  cases l with
  | nil =>
    rw [Go.Sort.insOuter, if_neg (by simp)]
    rfl
  | cons x l =>
    have := insOuter_list lt (x :: l).length l [x] (by simp; omega)
    exact this
theorem insGo_map {α β : Type} (f : α → β) (lt : α → α → Bool) (lt' : β → β → Bool) (x : α) (R B : List α) (h : ∀ y ∈ R, lt' (f x) (f y) = lt x y) : (insGo lt x R B).map f = insGo lt' (f x) (R.map f) (B.map f) := by
  induction R generalizing B with
  | nil => rfl
  | cons y R ih =>
    rw [List.map_cons]
    rw [insGo, insGo, h y List.mem_cons_self]
    by_cases c : lt x y = true
    · rw [if_pos c, if_pos c, ih (y :: B) (fun z hz => h z (List.mem_cons_of_mem _ hz))]
      rfl
    · rw [if_neg c, if_neg c]
      simp
theorem isort_map {α β : Type} (f : α → β) (lt : α → α → Bool) (lt' : β → β → Bool) (h : ∀ x y, lt' (f x) (f y) = lt x y) (l : List α) : (isort lt l).map f = isort lt' (l.map f) := by
  have : ∀ (l A : List α), (l.foldl (fun A x => insGo lt x A.reverse []) A).map f = (l.map f).foldl (fun A x => insGo lt' x A.reverse []) (A.map f) := by
    intro l
    induction l with
    | nil => intro A; rfl
    | cons x l ih =>
      intro A
      rw [List.foldl_cons, List.map_cons, List.foldl_cons, ih, insGo_map f lt lt' x _ _ (fun y _ => h x y), List.map_reverse, List.map_nil]
  exact this l []
/-- sorted by key, stable -/
theorem insGo_perm {α : Type} (lt : α → α → Bool) (x : α) (R B : List α) : (insGo lt x R B).Perm (x :: (R.reverse ++ B)) := by
  induction R generalizing B with
  | nil => simp [insGo]
  | cons y R ih =>
    unfold insGo
    by_cases h : lt x y = true
    · rw [if_pos h]
      refine (ih (y :: B)).trans ?_
      simp
    · rw [if_neg h]
      exact List.perm_middle
theorem isort_perm {α : Type} (lt : α → α → Bool) (l : List α) : (isort lt l).Perm l := by
  have : ∀ (l A : List α), (l.foldl (fun A x => insGo lt x A.reverse []) A).Perm (A ++ l) := by
    intro l
    induction l with
    | nil => intro A; simp
    | cons x l ih =>
      intro A
      rw [List.foldl_cons]
      refine (ih _).trans ?_
      have h := insGo_perm lt x A.reverse []
      rw [List.reverse_reverse, List.append_nil] at h
      exact (h.append_right l).trans List.perm_middle.symm
  exact this l []
/-- The order that a stable sort leaves: by the key, then by the place. -/
theorem insGo_pw (key : Int → Int) (x : Int) (R B : List Int)
    (hp : (R.reverse ++ B).Pairwise (fun a b => key a < key b ∨ key a = key b ∧ a < b)) (hB : ∀ b ∈ B, key x < key b) (hR : ∀ y ∈ R, y < x) :
    (insGo (fun a b => decide (key a < key b)) x R B).Pairwise (fun a b => key a < key b ∨ key a = key b ∧ a < b) := by
  induction R generalizing B with
  | nil =>
    unfold insGo
    refine List.pairwise_cons.2 ⟨fun b hb => .inl (hB b hb), by simpa using hp⟩
  | cons y R ih =>
    unfold insGo
    by_cases h : key x < key y
    · rw [if_pos (decide_eq_true h)]
      refine ih (y :: B) (by simpa using hp) (fun b hb => ?_) (fun z hz => hR z (List.mem_cons_of_mem _ hz))
      rcases List.mem_cons.1 hb with rfl | hb
      · exact h
      · exact hB b hb
    · rw [if_neg (by simpa using h)]
      rw [List.pairwise_append] at hp ⊢
      obtain ⟨h1, h2, h3⟩ := hp
      refine ⟨h1, List.pairwise_cons.2 ⟨fun b hb => .inl (hB b hb), h2⟩, fun a ha b hb => ?_⟩
      rcases List.mem_cons.1 hb with rfl | hb
      · have ha' : a ∈ y :: R := List.mem_reverse.1 ha
        have hlt := hR a ha'
        rw [List.reverse_cons, List.pairwise_append] at h1
        rcases List.mem_cons.1 ha' with rfl | hm
        · by_cases e : key a = key b
          · exact .inr ⟨e, hlt⟩
          · exact .inl (by omega)
        · have h4 := h1.2.2 a (List.mem_reverse.2 hm) y (by simp)
          by_cases e : key a = key b
          · exact .inr ⟨e, hlt⟩
          · exact .inl (by omega)
      · exact h3 a ha b hb
theorem isort_pw (key : Int → Int) (l : List Int) (hl : l.Pairwise (· < ·)) : (isort (fun a b => decide (key a < key b)) l).Pairwise (fun a b => key a < key b ∨ key a = key b ∧ a < b) := by
  have : ∀ (l A : List Int), A.Pairwise (fun a b => key a < key b ∨ key a = key b ∧ a < b) → l.Pairwise (· < ·) → (∀ a ∈ A, ∀ b ∈ l, a < b) → (l.foldl (fun A x => insGo (fun a b => decide (key a < key b)) x A.reverse []) A).Pairwise (fun a b => key a < key b ∨ key a = key b ∧ a < b) := by
    intro l
    induction l with
    | nil => intro A h _ _; exact h
    | cons x l ih =>
      intro A hA hl hAl
      rw [List.foldl_cons]
      rw [List.pairwise_cons] at hl
      refine ih _ (insGo_pw key x A.reverse [] (by simpa using hA) (by simp) (fun y hy => hAl y (List.mem_reverse.1 hy) x List.mem_cons_self)) hl.2 (fun a ha b hb => ?_)
      have h := (insGo_perm (fun a b => decide (key a < key b)) x A.reverse []).mem_iff.1 ha
      rcases List.mem_cons.1 h with rfl | h
      · exact hl.1 b hb
      · exact hAl a (by simpa using h) b (List.mem_cons_of_mem _ hb)
  exact this l [] List.Pairwise.nil hl (by simp)
shelf_lay_g SlLaysF.n20 Slsf 20 at Try 102 as insLay
def encF {n : Nat} (i : Fin n) : Value := .int .i64 (i.val : Int)
theorem oneF {n : Nat} : Go.Proofs.OneCell (@encF n) := fun _ => rfl
set_option maxHeartbeats 8000000 in
set_option maxRecDepth 100000 in
theorem stable_calls {n : Nat} [Inhabited (Fin n)] (cf : Fin n → Fin n → Int) (g : Nat) (cb : Array Value) (blk cap : Nat) (d : Array (Fin n)) (w : World) (h20 : d.size < 20)
    (eg : ∀ args w, (callFunc g args).run Try.prog w = .ok (.enter g args) w) (hcmp : Go.Proofs.CmpReads Try.prog g cb encF cf blk 0 d.size w) (hH : Go.Sort.Holds encF w blk 0 d) :
    Calls Try.prog 95 #[.slice (some ⟨blk, 0, none⟩) d.size cap, .int .i64 d.size, .func (.func g) #[] cb] w fun e w' => e = .returned (.tuple #[]) ∧ ∃ q, w' = (Go.Sort.putRow encF w blk 0 (Go.Sort.insertionSort (Go.Proofs.ltOf cf) d 0 d.size)).drewN q := by
  have hcon := Go.Proofs.Any.insertionSortCmpFunc_one insLay encF oneF cf g cb blk 0 cap 0 d.size d w eg hcmp hH (Nat.zero_le _) (Nat.le_refl _) (by omega)
  change Calls Try.prog 102 #[.slice (some ⟨blk, 0, none⟩) d.size cap, .int .i64 0, .int .i64 d.size, .func (.func g) #[] cb] w _ at hcon
  generalize Go.Sort.insertionSort (Go.Proofs.ltOf cf) d 0 d.size = r at hcon ⊢
  clear hH hcmp
  generalize hm : d.size = m at hcon h20 ⊢
  clear hm d
  have c1 : decide ((20 : Int) ≤ (m : Int)) = false := decide_eq_false (by omega)
  have c2 : decide ((20 : Int) < (m : Int)) = false := decide_eq_false (by omega)
  go_enter Try.func95, Try.ntmps95
  go_wp2
  go_loopg [7, 8] 0 (fun _ s7 s8 wr => s7 = .int .i64 0 ∧ s8 = .int .i64 20 ∧ wr = w)
  case atStart => exact ⟨rfl, rfl, rfl⟩
  case round =>
    obtain ⟨rfl, rfl, rfl⟩ := hrel
    go_wp2_with (go_at_call 102; refine hcon.mono ?_; rintro e w' ⟨rfl, q, rfl⟩)
    go_loopg [6, 7] 0 (fun _ s6 s7 w2 => s6 = .int .i64 20 ∧ s7 = .int .i64 0 ∧ ∃ q, w2 = (Go.Sort.putRow encF wr blk 0 r).drewN q)
    case atStart => exact ⟨rfl, rfl, _, rfl⟩
    case round =>
      obtain ⟨rfl, rfl, q2, rfl⟩ := hrel
      go_wp2
      go_end0
      exact ⟨rfl, q2, rfl⟩
set_option maxHeartbeats 8000000 in
set_option maxRecDepth 100000 in
theorem sortStable_calls {n : Nat} [Inhabited (Fin n)] (cf : Fin n → Fin n → Int) (g : Nat) (cb : Array Value) (blk cap : Nat) (d : Array (Fin n)) (w : World) (h20 : d.size < 20)
    (eg : ∀ args w, (callFunc g args).run Try.prog w = .ok (.enter g args) w) (hcmp : Go.Proofs.CmpReads Try.prog g cb encF cf blk 0 d.size w) (hH : Go.Sort.Holds encF w blk 0 d) :
    Calls Try.prog 71 #[.slice (some ⟨blk, 0, none⟩) d.size cap, .func (.func g) #[] cb] w fun e w' => e = .returned (.tuple #[]) ∧ ∃ q, w' = (Go.Sort.putRow encF w blk 0 (Go.Sort.insertionSort (Go.Proofs.ltOf cf) d 0 d.size)).drewN q := by
  have hcon := stable_calls cf g cb blk cap d w h20 eg hcmp hH
  generalize Go.Sort.insertionSort (Go.Proofs.ltOf cf) d 0 d.size = r at hcon ⊢
  clear hH hcmp
  generalize hm : d.size = m at hcon h20 ⊢
  clear hm d
  go_enter Try.func71, Try.ntmps71
  go_wp2_with (go_at_call 95; refine hcon.mono ?_; rintro e w' ⟨rfl, q, rfl⟩)
  go_end0
  exact ⟨rfl, q, rfl⟩
/-! nothing to sort -/
set_option maxHeartbeats 8000000 in
set_option maxRecDepth 100000 in
theorem ins_nil (A : Option Addr) (c g : Nat) (cb : Array Value) (w : World) : Calls Try.prog 102 #[.slice A 0 c, .int .i64 0, .int .i64 0, .func (.func g) #[] cb] w fun e w' => e = .returned (.tuple #[]) ∧ w' = w := by
  go_enter Try.func102, Try.ntmps102
  go_wp2
  go_loopg [8] 0 (fun _ s8 wr => s8 = .int .i64 1 ∧ wr = w)
  case atStart => exact ⟨rfl, rfl⟩
  case round =>
    obtain ⟨rfl, rfl⟩ := hrel
    go_wp2
    go_end0
    exact ⟨rfl, rfl⟩
set_option maxHeartbeats 8000000 in
set_option maxRecDepth 100000 in
theorem stable_nil (A : Option Addr) (c g : Nat) (cb : Array Value) (w : World) : Calls Try.prog 95 #[.slice A 0 c, .int .i64 0, .func (.func g) #[] cb] w fun e w' => e = .returned (.tuple #[]) ∧ w' = w := by
  have hcon := ins_nil A c g cb w
  go_enter Try.func95, Try.ntmps95
  go_wp2
  go_loopg [7, 8] 0 (fun _ s7 s8 wr => s7 = .int .i64 0 ∧ s8 = .int .i64 20 ∧ wr = w)
  case atStart => exact ⟨rfl, rfl, rfl⟩
  case round =>
    obtain ⟨rfl, rfl, rfl⟩ := hrel
    go_wp2_with (go_at_call 102; refine hcon.mono ?_; rintro e w' ⟨rfl, rfl⟩)
    go_loopg [6, 7] 0 (fun _ s6 s7 w2 => s6 = .int .i64 20 ∧ s7 = .int .i64 0 ∧ w2 = w')
    case atStart => exact ⟨rfl, rfl, rfl⟩
    case round =>
      obtain ⟨rfl, rfl, rfl⟩ := hrel
      go_wp2
      go_end0
      exact ⟨rfl, rfl⟩
set_option maxHeartbeats 8000000 in
set_option maxRecDepth 100000 in
theorem sortStable_nil (A : Option Addr) (c g : Nat) (cb : Array Value) (w : World) : Calls Try.prog 71 #[.slice A 0 c, .func (.func g) #[] cb] w fun e w' => e = .returned (.tuple #[]) ∧ w' = w := by
  have hcon := stable_nil A c g cb w
  go_enter Try.func71, Try.ntmps71
  go_wp2_with (go_at_call 95; refine hcon.mono ?_; rintro e w' ⟨rfl, rfl⟩)
  go_end0
  exact ⟨rfl, rfl⟩
theorem putRow_heap {α : Type} [Inhabited α] (enc : α → Value) (w : World) (blk m q : Nat) (d : Array α) (os : Array Obj) (k : Nat) (hk : k < w.heap.size) (hne : k ≠ blk) :
    ((Go.Proofs.sortWorld enc w blk 0 m d os).drewN q).heap[k]? = w.heap[k]? := by
  show (Go.Sort.grow (Go.Sort.putRow enc (Go.Sort.ahead w m) blk 0 d) os).heap[k]? = _
  unfold Go.Sort.grow Go.Sort.putRow Go.Sort.mapBlock Go.Sort.ahead
  simp only
  rw [Array.getElem?_append_left (by simpa using hk), Array.getElem?_modify, if_neg (fun e => hne e.symm)]
/-- SortStableFunc over the indices below n (n < 20), cmp a closure that only reads: it leaves the stable order. -/
theorem sortStable_R (cI : Int → Int → Int) (g : Nat) (cb : Array Value) (n : Nat) (v : Value) (base : Nat) (ok : Nat → Prop) (w : World) (h20 : n < 20)
    (eg : ∀ args w, (callFunc g args).run Try.prog w = .ok (.enter g args) w)
    (hcmp : ∀ W : World, w.grownBy W v.ownBlock → ∀ x y : Int, 0 ≤ x → x < n → 0 ≤ y → y < n →
      Calls Try.prog g (#[.int .i64 x, .int .i64 y] ++ cb) W fun e w' => e = .returned (.int .i64 (cI x y)) ∧ ∃ q, w' = W.drewN q)
    (ho : Kd.R (Kd.int .i64) 3 w base ok v (idxs n)) :
    Calls Try.prog 71 #[v, .func (.func g) #[] cb] w fun e w' => e = .returned (.tuple #[]) ∧ Kd.R (Kd.int .i64) 3 w' base ok v (isort (fun a b => decide (cI a b < 0)) (idxs n)) ∧ w.grownBy w' v.ownBlock := by
  have hln := idxs_length n
  by_cases hp : 0 < n
  · obtain ⟨blk, cap, rfl, hbg, hlt, _, _⟩ := Kd.R_form ho (by rw [hln]; exact hp)
    haveI : Inhabited (Fin n) := ⟨⟨0, hp⟩⟩
    have hds : (Array.ofFn (fun i : Fin n => i)).size = n := Array.size_ofFn
    have hH : Go.Sort.Holds encF w blk 0 (Array.ofFn (fun i : Fin n => i)) := by
      intro j hj
      have hj' : j < n := by rw [hds] at hj; exact hj
      obtain ⟨h1, h2⟩ := Kd.R_celln 0 ho (j : Int) (by omega) (by rw [hln]; omega)
      rw [Int.toNat_natCast] at h1 h2
      rw [Nat.zero_add, getElem!_pos _ j hj, Array.getElem_ofFn]
      unfold rdOf at h1
      rw [Int.toNat_natCast, List.getD_eq_getElem?_getD, List.getElem?_eq_getElem (by rw [hln]; exact hj')] at h1
      refine ⟨h1.trans ?_, h2⟩
      simp [idxs, encF]
    have hown := Kd.own_of_R ho
    rw [hln] at hown
    have hc := sortStable_calls (n := n) (fun x y => cI (x.val : Int) (y.val : Int)) g cb blk cap (Array.ofFn (fun i : Fin n => i)) w (by rw [hds]; exact h20) eg (fun m os dk _ x y => by
      refine hcmp (Go.Proofs.sortWorld encF w blk 0 m dk os) ⟨rfl, rfl, rfl, ?_, fun k hk hne => ?_⟩ _ _ (by omega) (by omega) (by omega) (by omega)
      · unfold Go.Proofs.sortWorld Go.Sort.grow Go.Sort.putRow Go.Sort.mapBlock Go.Sort.ahead
        simp
      · exact putRow_heap encF w blk m 0 dk os k hk (fun e => hne (by rw [e]; rfl))) hH
    rw [hds] at hc
    have hres : Go.Sort.insertionSort (Go.Proofs.ltOf fun (x y : Fin n) => cI (x.val : Int) (y.val : Int)) (Array.ofFn (fun i : Fin n => i)) 0 n = (isort (Go.Proofs.ltOf fun (x y : Fin n) => cI (x.val : Int) (y.val : Int)) (List.ofFn (fun i : Fin n => i))).toArray := by
      have := insertionSort_list (Go.Proofs.ltOf fun (x y : Fin n) => cI (x.val : Int) (y.val : Int)) (List.ofFn (fun i : Fin n => i))
      rw [List.length_ofFn] at this
      rw [← this]
      congr 1
      apply Array.ext'
      simp
    have hmap : (isort (Go.Proofs.ltOf fun (x y : Fin n) => cI (x.val : Int) (y.val : Int)) (List.ofFn (fun i : Fin n => i))).map (fun i => (i.val : Int)) = isort (fun a b => decide (cI a b < 0)) (idxs n) := by
      rw [isort_map (fun i : Fin n => (i.val : Int)) (Go.Proofs.ltOf fun (x y : Fin n) => cI (x.val : Int) (y.val : Int)) (fun a b => decide (cI a b < 0)) (fun x y => rfl)]
      congr 1
      unfold idxs
      apply List.ext_getElem
      · simp
      · intro i h1 h2
        simp
    rw [hres] at hc
    have hll : (isort (Go.Proofs.ltOf fun (x y : Fin n) => cI (x.val : Int) (y.val : Int)) (List.ofFn (fun i : Fin n => i))).length = n := by rw [(isort_perm _ _).length_eq, List.length_ofFn]
    generalize isort (Go.Proofs.ltOf fun (x y : Fin n) => cI (x.val : Int) (y.val : Int)) (List.ofFn (fun i : Fin n => i)) = L at hc hmap hll
    rw [← hmap]
    rw [hln]
    refine hc.mono ?_
    rintro e w' ⟨rfl, q, rfl⟩
    obtain ⟨_, hcase⟩ := hown
    rcases hcase with ⟨he, _⟩ | ⟨g', cap', cur, he, hb', hh, hnc, hcm, hcs, ht⟩
    · cases he
    · injection he with ha _ hcap
      injection ha with ha
      injection ha with hgg
      subst hgg hcap
      have hheap : ((Go.Sort.putRow encF w blk 0 L.toArray).drewN q).heap[blk]? = some (.cells (Go.Sort.putCells encF 0 L.toArray cur) 3 (0, 0)) := by
        show (Go.Sort.putRow encF w blk 0 L.toArray).heap[blk]? = _
        unfold Go.Sort.putRow Go.Sort.mapBlock
        simp only
        rw [Array.getElem?_modify, if_pos rfl, hh]
        rfl
      have hgr : w.grownBy ((Go.Sort.putRow encF w blk 0 L.toArray).drewN q) (some blk) := by
        refine ⟨rfl, rfl, rfl, ?_, fun k hk hne => ?_⟩
        · show w.heap.size ≤ (Go.Sort.putRow encF w blk 0 L.toArray).heap.size
          unfold Go.Sort.putRow Go.Sort.mapBlock
          simp
        · show (Go.Sort.putRow encF w blk 0 L.toArray).heap[k]? = _
          unfold Go.Sort.putRow Go.Sort.mapBlock
          simp only
          rw [Array.getElem?_modify, if_neg (fun e => hne (by rw [e]))]
      generalize (Go.Sort.putRow encF w blk 0 L.toArray).drewN q = w' at hheap hgr
      have hsz2 : (Go.Sort.putCells encF 0 L.toArray cur).size = cur.size := by unfold Go.Sort.putCells; simp
      have hcells : (Go.Sort.putCells encF 0 L.toArray cur).toList.take (n * 1) = encs (Value.int .i64) (L.map fun i => (i.val : Int)) := by
        apply List.ext_getElem?
        intro j
        rw [Nat.mul_one, List.getElem?_take]
        unfold encs
        rw [List.getElem?_map, List.getElem?_map]
        by_cases hj : j < n
        · rw [if_pos hj, Array.getElem?_toList]
          unfold Go.Sort.putCells
          rw [Array.getElem?_mapIdx, Array.getElem?_eq_getElem (by omega), Option.map_some, if_pos ⟨Nat.zero_le _, by simp; omega⟩, List.getElem?_eq_getElem (by omega)]
          simp only [Option.map_some, Nat.sub_zero]
          rw [getElem!_pos _ j (by simp; omega)]
          rfl
        · rw [if_neg hj, List.getElem?_eq_none (by omega)]
          rfl
      have hrow : w'.ownsRow base 3 1 (.slice (some ⟨blk, 0, none⟩) n cap) (L.map fun i => (i.val : Int)).length (encs (Value.int .i64) (L.map fun i => (i.val : Int))) := by
        refine ⟨by simp [encs], .inr ⟨blk, cap, _, by rw [List.length_map, hll], hbg, hheap, by rw [List.length_map]; omega, hcm, by rw [hsz2]; exact hcs, ?_⟩⟩
        rw [List.length_map, hll]
        exact hcells
      exact ⟨rfl, Kd.R_of_own hrow (fun k hk => ho.1 k (by rw [hln]; exact hk)), hgr⟩
  · obtain rfl : n = 0 := by omega
    obtain ⟨A, c, rfl⟩ := Kd.R_slice ho
    refine (sortStable_nil A c g cb w).mono ?_
    rintro e w' ⟨rfl, rfl⟩
    exact ⟨rfl, ho, ⟨rfl, rfl, rfl, Nat.le_refl _, fun _ _ _ => rfl⟩⟩
theorem falling_enters : ∀ args w, (callFunc 72 args).run Try.prog w = .ok (.enter 72 args) w := enters_of Try.func72 (by kernel_rfl) rfl
set_option maxHeartbeats 8000000 in
set_option maxRecDepth 100000 in
/-- The closure of FallingOrder: what the later heat has more. -/
theorem falling_closure (x y : Int) (A0 : Option Addr) (c0 : Nat) (l0 : List Int) (B1 : Nat) (w : World) (hx : 0 ≤ x ∧ x < (l0.length : Int)) (hy : 0 ≤ y ∧ y < (l0.length : Int))
    (h1 : w.cell? ⟨B1, 0, none⟩ = some (.slice A0 l0.length c0)) (hr0 : Kd.C (Kd.int .i64) w A0 l0.length l0) :
    Calls Try.prog 72 #[.int .i64 x, .int .i64 y, .pointer (some ⟨B1, 0, none⟩)] w fun e w' => e = .returned (.int .i64 (wrap64 (rd l0 y - rd l0 x))) ∧ ∃ q, w' = w.drewN q := by
  obtain ⟨ad, e0, hcx⟩ := Kd.at_int hr0 x hx.1 hx.2
  cases e0
  obtain ⟨ad', e0, hcy⟩ := Kd.at_int hr0 y hy.1 hy.2
  cases e0
  obtain ⟨px, qx⟩ := hx
  obtain ⟨py, qy⟩ := hy
  generalize rd l0 x = ex at hcx ⊢
  generalize rd l0 y = ey at hcy ⊢
  clear hr0
  go_enter Try.func72, Try.ntmps72
  go_wp2
  repeat (go_quiet (fail); try go_wp2)
  go_ret
  exact ⟨by first | rfl | (rw [IntKind.wrap_i64]; rfl) | (unfold wrap64; simp; done), _, rfl⟩
theorem falling_worlds (A0 : Option Addr) (c0 : Nat) (l0 : List Int) (w w3 : World) (v : Value) (h1 : w3.cell? ⟨w.heap.size, 0, none⟩ = some (.slice A0 l0.length c0)) (hr0 : Kd.C (Kd.int .i64) w A0 l0.length l0) (hb : Below w.heap.size w w3) (hn : ∀ q, v.ownBlock = some q → w.heap.size < q) :
    ∀ W : World, w3.grownBy W v.ownBlock → ∀ x y : Int, 0 ≤ x → x < (l0.length : Int) → 0 ≤ y → y < (l0.length : Int) →
      Calls Try.prog 72 (#[.int .i64 x, .int .i64 y] ++ #[.pointer (some ⟨w.heap.size, 0, none⟩)]) W fun e w' => e = .returned (.int .i64 (wrap64 (rd l0 y - rd l0 x))) ∧ ∃ q, w' = W.drewN q := fun W hg x y hx0 hx1 hy0 hy1 =>
  falling_closure x y A0 c0 l0 w.heap.size W ⟨hx0, hx1⟩ ⟨hy0, hy1⟩ (hg.cell h1 (fun e => Nat.lt_irrefl _ (hn _ e.symm))) (Kd.C_below hr0 (hb.grown hg hb.size (fun q hq => Nat.le_of_lt (hn q hq))))
def impl_FallingOrder.f (k : Nat) (l0 : List Int) : Option (List Int) := (impl_areHeats.f l0).bind fun t => if t = true then ((impl_indices.f k (l0.length : Int)).bind fun ix => if ix = idxs l0.length ∧ l0.length < 20 then some (isort (fun a b => decide (wrap64 (rd l0 b - rd l0 a) < 0)) ix) else none) else some []
theorem impl_FallingOrder.mono : ∀ a0 k, LeO (impl_FallingOrder.f k a0) (impl_FallingOrder.f (k + 1) a0) := fun a0 k =>
  LeO.bind (LeO.refl _) (fun _ => LeO.ite (LeO.bind (impl_indices.mono _ k) (fun _ => LeO.refl _)) (LeO.refl _))
set_option maxHeartbeats 8000000 in
set_option maxRecDepth 100000 in
theorem impl_FallingOrder.calls (k : Nat) (A0 : Option Addr) (c0 : Nat) (l0 : List Int) (r : List Int) (w : World) (hr0 : Kd.C (Kd.int .i64) w A0 l0.length l0) (hc0 : l0.length ≤ c0) (h : impl_FallingOrder.f k l0 = some r) :
    Calls Try.prog 31 #[.slice A0 l0.length c0] w fun e w' => ∃ v0_ : Value, e = .returned (v0_) ∧ Kd.R (Kd.int .i64) 3 w' w.heap.size (fun _ => True) v0_ r ∧ Below w.heap.size w w' := by
  have HR0 := Aside0.mk hr0
  have HC0 := Aside0.mk hc0
  have HB1 := Aside0.mk (below_alloc (Below.refl w.heap.size w) (.cells #[.slice A0 l0.length c0] 22))
  have HC1 := Aside0.mk (Kd.C_below hr0 HB1.out)
  clear hr0 hc0
  have h' := h
  clear h
  unfold impl_FallingOrder.f at h'
  replace h' := Option.bind_eq_some_iff.mp h'
  obtain ⟨t, ht, h⟩ := h'
  have HT := Aside0.mk ht
  clear ht
  by_cases ct : t = true
  · subst ct
    replace h := (if_pos rfl).symm.trans h
    replace h := Option.bind_eq_some_iff.mp h
    obtain ⟨ix, hix, h⟩ := h
    by_cases cx : ix = idxs l0.length ∧ l0.length < 20
    · replace h := (if_pos cx).symm.trans h
      obtain ⟨rfl, h20⟩ := cx
      replace h := Option.some.inj h
      have HX := Aside0.mk hix
      have HE := Aside0.mk h
      have H20 := Aside0.mk h20
      clear h hix h20
      have eg := falling_enters
      go_enter Try.func31, Try.ntmps31
      go_wp2_with (first
        | (go_at_call 69; (with_reducible refine (impl_areHeats.calls A0 c0 l0 true _ HC1.out HC0.out HT.out).mono ?_); rintro e w2 ⟨rfl, hb2⟩; (have hcell2 : w2.cell? ⟨w.heap.size, 0, none⟩ = some (.slice A0 l0.length c0) := (hb2.cell (p := ⟨w.heap.size, 0, none⟩) (by simp)).trans (by simp)); have HB2 := Aside0.mk (below_step HB1.out hb2); have HC2 := Aside0.mk (Kd.C_below HC1.out hb2); clear hb2)
        | (go_at_call 70; (with_reducible refine (impl_indices.calls k (l0.length : Int) (idxs l0.length) _ HX.out).mono ?_); rintro e w3 ⟨v3, rfl, ho3, hb3⟩; (have hcell3 : w3.cell? ⟨w.heap.size, 0, none⟩ = some (.slice A0 l0.length c0) := pw_cell_below hb3 hcell2); have HB3 := Aside0.mk (below_step HB2.out hb3); have HC3 := Aside0.mk (Kd.C_below HC2.out hb3); have HL2 := World.block_lt_of_cell? w2 _ hcell2; have HN3 := Aside0.mk (fun q (hq : v3.ownBlock = some q) => Nat.lt_of_lt_of_le HL2 (own_base (Kd.own_of_R ho3) q hq)); clear HL2; have HO3 := Aside0.mk (Kd.R_lower ho3 (below_size HB2.out)); clear hb3 ho3 hcell2)
        | (go_at_call 71; (with_reducible refine (sortStable_R (fun a b => wrap64 (rd l0 b - rd l0 a)) 72 #[.pointer (some ⟨w.heap.size, 0, none⟩)] l0.length v3 w.heap.size (fun _ => True) w3 H20.out eg (falling_worlds A0 c0 l0 w w3 v3 hcell3 HR0.out HB3.out HN3.out) HO3.out).mono ?_); rintro e w4 ⟨rfl, ho4, hg4⟩; have HO4 := Aside0.mk ho4; have HG4 := Aside0.mk hg4; clear ho4 hg4))
      go_ret
      refine ⟨_, rfl, by rw [← HE.out]; exact HO4.out, HB3.out.grown HG4.out (below_size HB3.out) (fun q hq => Nat.le_of_lt (HN3.out q hq))⟩
    · replace h := (if_neg cx).symm.trans h
      cases h
  · replace h := (if_neg ct).symm.trans h
    replace h := Option.some.inj h
    subst h
    replace ct := Bool.eq_false_iff.mpr ct
    subst ct
    go_enter Try.func31, Try.ntmps31
    go_wp2_with (go_at_call 69; (with_reducible refine (impl_areHeats.calls A0 c0 l0 false _ HC1.out HC0.out HT.out).mono ?_); rintro e w2 ⟨rfl, hb2⟩; (have hcell2 : w2.cell? ⟨w.heap.size, 0, none⟩ = some (.slice A0 l0.length c0) := (hb2.cell (p := ⟨w.heap.size, 0, none⟩) (by simp)).trans (by simp)); have HB2 := Aside0.mk (below_step HB1.out hb2); clear hb2)
    go_ret
    exact ⟨_, rfl, Kd.R_nil _ _ _ _ _, HB2.out⟩


end Go.Proofs.Ytkcfpkokgpimaaa.PFnHeats
