/- No loaf appears or vanishes between the days: the law FnShelves answers true for every input. No condition. -/
import Derived.Test.YtljodkhonaeceaaPFnShelvesx2
import Derived.Test.YtljodkhonaeceaaBase
namespace Go.Proofs.Ytljodkhonaeceaa.Pure
open Go.RowKit Go.Proofs.Ytljodkhonaeceaa.PFnShelves Go.Proofs.YtljodkhonaeceaaW.PrintWords Go.Proofs.YtljodkhonaeceaaW.PrintLast Go.Proofs.YtljodkhonaeceaaW.PrintMore Go.Proofs.Ytljodkhonaeceaa.Base
set_option linter.unusedVariables false
set_option linter.unusedSimpArgs false
theorem in_f (a b c : Int) : impl_in.f a b c = some (decide (b ≤ a ∧ a ≤ c)) := by
  unfold impl_in.f
  by_cases h : b ≤ a <;> simp [h]
def rackOk (x y z : Int) : Bool := decide (0 ≤ x ∧ x ≤ 10000) && decide (0 ≤ y ∧ y ≤ 10000) && decide (0 ≤ z ∧ z ≤ 10000)
theorem rackI (x y z : Int) : impl_RackOk.f x y z = some (rackOk x y z) := by
  unfold impl_RackOk.f rackOk
  simp only [impl_allIn.f, Option.bind_some, List.all_cons, List.all_nil, Bool.and_true, Bool.and_assoc]
theorem rackOk_iff (x y z : Int) : rackOk x y z = true ↔ (0 ≤ x ∧ x ≤ 10000) ∧ (0 ≤ y ∧ y ≤ 10000) ∧ (0 ≤ z ∧ z ≤ 10000) := by
  unfold rackOk
  simp only [Bool.and_eq_true, decide_eq_true_eq, and_assoc]
def freshV (x y z n : Int) : Int × Int × Int × Int :=
  if rackOk x y z = true ∧ (0 ≤ n ∧ n ≤ 10000) then (x - min n x, y - min (n - min n x) y, z, min n x + min (n - min n x) y) else (x, y, z, -1)
def cheapV (x y z n : Int) : Int × Int × Int × Int :=
  if rackOk x y z = true ∧ (0 ≤ n ∧ n ≤ 10000) then (x, y - min (n - min n z) y, z - min n z, min n z + min (n - min n z) y) else (x, y, z, -1)
def morningV (x y z n : Int) : Int × Int × Int × Int :=
  if rackOk x y z = true ∧ (0 ≤ n ∧ n ≤ 10000) then (n, x, y, z) else (x, y, z, -1)
def valueV (x y z p : Int) : Int := if rackOk x y z = true ∧ (0 ≤ p ∧ p ≤ 1000) then x * p + y * (p / 2) + z * (p / 4) else -1
theorem mulb (x p : Int) (h1 : 0 ≤ x) (h2 : x ≤ 10000) (h3 : 0 ≤ p) (h4 : p ≤ 1000) : 0 ≤ x * p ∧ x * p ≤ 10000000 :=
  ⟨Int.mul_nonneg h1 h3, by have := Int.mul_le_mul h2 h4 h3 (by omega); omega⟩
theorem freshI (x y z n : Int) : impl_SellFresh.f x y z n = some (freshV x y z n) := by
  unfold impl_SellFresh.f freshV
  simp only [rackI, in_f, impl_taken.f, Option.bind_some, decide_eq_true_eq]
  by_cases c1 : rackOk x y z = true
  · have h := (rackOk_iff x y z).1 c1
    by_cases c2 : 0 ≤ n ∧ n ≤ 10000
    · simp only [if_pos c1, if_pos c2, if_pos (And.intro c1 c2)]
      simp only [mn_eq, Int.min_comm x n]
      simp (disch := omega) only [w64]
      rw [Int.min_comm y (n - min n x)]
    · simp only [if_pos c1, if_neg c2, if_neg (show ¬ (rackOk x y z = true ∧ 0 ≤ n ∧ n ≤ 10000) from fun h => c2 h.2)]
  · simp only [if_neg c1, if_neg (show ¬ (rackOk x y z = true ∧ 0 ≤ n ∧ n ≤ 10000) from fun h => c1 h.1)]
theorem cheapI (x y z n : Int) : impl_SellCheap.f x y z n = some (cheapV x y z n) := by
  unfold impl_SellCheap.f cheapV
  simp only [rackI, in_f, impl_taken.f, Option.bind_some, decide_eq_true_eq]
  by_cases c1 : rackOk x y z = true
  · have h := (rackOk_iff x y z).1 c1
    by_cases c2 : 0 ≤ n ∧ n ≤ 10000
    · simp only [if_pos c1, if_pos c2, if_pos (And.intro c1 c2)]
      simp only [mn_eq, Int.min_comm z n]
      simp (disch := omega) only [w64]
      rw [Int.min_comm y (n - min n z)]
    · simp only [if_pos c1, if_neg c2, if_neg (show ¬ (rackOk x y z = true ∧ 0 ≤ n ∧ n ≤ 10000) from fun h => c2 h.2)]
  · simp only [if_neg c1, if_neg (show ¬ (rackOk x y z = true ∧ 0 ≤ n ∧ n ≤ 10000) from fun h => c1 h.1)]
theorem morningI (x y z n : Int) : impl_NextMorning.f x y z n = some (morningV x y z n) := by
  unfold impl_NextMorning.f morningV
  simp only [rackI, in_f, Option.bind_some, decide_eq_true_eq]
  by_cases c1 : rackOk x y z = true
  · have h := (rackOk_iff x y z).1 c1
    by_cases c2 : 0 ≤ n ∧ n ≤ 10000
    · simp only [if_pos c1, if_pos c2, if_pos (And.intro c1 c2)]

    · simp only [if_pos c1, if_neg c2, if_neg (show ¬ (rackOk x y z = true ∧ 0 ≤ n ∧ n ≤ 10000) from fun h => c2 h.2)]
  · simp only [if_neg c1, if_neg (show ¬ (rackOk x y z = true ∧ 0 ≤ n ∧ n ≤ 10000) from fun h => c1 h.1)]
theorem valueI (x y z n : Int) : impl_ValueOf.f x y z n = some (valueV x y z n) := by
  unfold impl_ValueOf.f valueV
  simp only [rackI, in_f, Option.bind_some, decide_eq_true_eq]
  by_cases c1 : rackOk x y z = true
  · have h := (rackOk_iff x y z).1 c1
    by_cases c2 : 0 ≤ n ∧ n ≤ 1000
    · simp only [if_pos c1, if_pos c2, if_pos (And.intro c1 c2)]
      have m1 := mulb x n (by omega) (by omega) (by omega) (by omega)
      have m2 := mulb y (n / 2) (by omega) (by omega) (by omega) (by omega)
      have m3 := mulb z (n / 4) (by omega) (by omega) (by omega) (by omega)
      rw [tdiv_pos (by omega), tdiv_pos (by omega), w64 (x := n / 2) (by omega) (by omega), w64 (x := n / 4) (by omega) (by omega)]
      generalize x * n = a at *
      generalize y * (n / 2) = b at *
      generalize z * (n / 4) = c at *
      simp (disch := omega) only [w64]
    · simp only [if_pos c1, if_neg c2, if_neg (show ¬ (rackOk x y z = true ∧ 0 ≤ n ∧ n ≤ 1000) from fun h => c2 h.2)]
  · simp only [if_neg c1, if_neg (show ¬ (rackOk x y z = true ∧ 0 ≤ n ∧ n ≤ 1000) from fun h => c1 h.1)]
theorem at_f (l : List Int) (hw : ∀ x ∈ l, (Lit.int .u8 x).wf = true) (hl : l.length ≤ 140737488351232) (i : Int) (h0 : 0 ≤ i) (h1 : i ≤ 1000) : ∃ v, laws_at.f l i = some v ∧ 0 ≤ v ∧ v ≤ 255 := by
  unfold laws_at.f
  by_cases c : (l.length : Int) = 0
  · exact ⟨0, by rw [if_pos c], by omega, by omega⟩
  · rw [if_neg c, w64 (x := i * 5) (by omega) (by omega), w64 (x := i * 5 + 1) (by omega) (by omega), tmod_pos (by omega)]
    have hm : 0 ≤ (i * 5 + 1) % (l.length : Int) := Int.emod_nonneg _ c
    have hn : (i * 5 + 1) % (l.length : Int) < (l.length : Int) := Int.emod_lt_of_pos _ (by omega)
    rw [if_pos hm, if_pos hn]
    obtain ⟨j, hj⟩ := Int.eq_ofNat_of_zero_le hm
    rw [hj] at hn ⊢
    have hx := (u8_iff _).1 (hw _ (List.getElem_mem (show j < l.length by omega)))
    rw [rd_get _ _ (by omega), w64 (by omega) (by omega)]
    exact ⟨_, rfl, hx.1, hx.2⟩
theorem big_f (l : List Int) : laws_big.f l = some (decide ((l.length : Int) > 1048576)) := rfl
theorem and_bd (x : Int) (m : Nat) (hm : m ≤ 4294967295) : 0 ≤ Go.bits .and .i64 x (m : Int) ∧ Go.bits .and .i64 x (m : Int) ≤ m := by
  have h : ((BitVec.ofInt 64 x) &&& (BitVec.ofInt 64 (m : Int))).toNat ≤ m := by
    rw [BitVec.toNat_and]
    refine Nat.le_trans Nat.and_le_right ?_
    rw [BitVec.ofInt_natCast, BitVec.toNat_ofNat]
    exact Nat.mod_le _ _
  have e : Go.bits .and .i64 x (m : Int) = IntKind.i64.wrap (((BitVec.ofInt 64 x) &&& (BitVec.ofInt 64 (m : Int))).toNat : Int) := rfl
  rw [e]
  generalize ((BitVec.ofInt 64 x) &&& (BitVec.ofInt 64 (m : Int))).toNat = q at h ⊢
  rw [IntKind.wrap_i64]
  omega
theorem byte_f (b : List Int) (i h : Int) (hb : b.length ≤ 140737488351232) (hi : 0 ≤ i) : ∃ x i' h', spec_l01Byte.f b i h = some (x, i', h') ∧ 0 ≤ x ∧ x ≤ 255 ∧ 0 ≤ i' := by
  unfold spec_l01Byte.f
  by_cases c : i < (b.length : Int)
  · rw [if_pos c, if_pos hi]
    refine ⟨_, _, _, rfl, (and_bd _ 255 (by omega)).1, (and_bd _ 255 (by omega)).2, ?_⟩
    rw [w64 (by omega) (by omega)]
    omega
  · rw [if_neg c]
    exact ⟨_, _, _, rfl, (and_bd _ 255 (by omega)).1, (and_bd _ 255 (by omega)).2, hi⟩
theorem below_f (b : List Int) (i h n : Int) (hb : b.length ≤ 140737488351232) (hi : 0 ≤ i) (h1 : 1 ≤ n) (h2 : n ≤ 256) : ∃ x i' h', spec_l01Below.f b i h n = some (x, i', h') ∧ 0 ≤ x ∧ x < n ∧ 0 ≤ i' := by
  obtain ⟨x, i', h', e, x0, x1, i0⟩ := byte_f b i h hb hi
  unfold spec_l01Below.f
  rw [if_neg (by omega), if_pos (by omega), e]
  simp only [Option.bind_some]
  rw [if_neg (by omega), tmod_pos x0]
  exact ⟨_, _, _, rfl, Int.emod_nonneg _ (by omega), Int.emod_lt_of_pos _ (by omega), i0⟩
theorem new_f (l : List Int) (hb : l.length ≤ 140737488351232) : ∃ h, Ev (fun k => spec_l01New.f k l) (l, 0, h) := by
  unfold spec_l01New.f
  have h := ev_up (fun k s i => spec_l01New.l0 k l s i) l.length (fun _ _ => True) (fun r => ∃ h, r = (l, 0, h)) (fun i s hi _ => by
      by_cases c : i < 4000
      · refine .inl ⟨Go.bits .and .i64 (wrap64 ((wrap64 ((wrap64 (s * 131)) + (wrap64 (rd l (i : Int))))) + 7)) 1073741823, trivial, fun r hr => ev_next (fun k => ?_) r hr⟩
        simp only [spec_l01New.l0]
        rw [if_pos (by omega), if_pos (by omega), if_pos (by omega), w64 (x := (i : Int) + 1) (by omega) (by omega)]
      · refine .inr ⟨_, ⟨s, rfl⟩, ev_now fun k => ?_⟩
        · simp only [spec_l01New.l0]
          rw [if_pos (by omega), if_neg (by omega)]) (fun s _ => ⟨_, ⟨s, rfl⟩, ev_now fun k => by
      simp only [spec_l01New.l0]
      rw [if_neg (by omega)]⟩) 0 (wrap64 (33101 + (l.length : Int))) (Nat.zero_le _) trivial
  obtain ⟨r, ⟨h, rfl⟩, e⟩ := h
  exact ⟨h, e⟩
theorem drawRack_f (l : List Int) (hb : l.length ≤ 140737488351232) : ∃ x y z, Ev (fun k => spec_DrawRack.f k l) (x, y, z) ∧ (0 ≤ x ∧ x < 60) ∧ (0 ≤ y ∧ y < 30) ∧ (0 ≤ z ∧ z < 15) := by
  obtain ⟨h, e⟩ := new_f l hb
  obtain ⟨x, i1, h1, e1, x0, x1, p1⟩ := below_f l 0 h 60 hb (by omega) (by omega) (by omega)
  obtain ⟨y, i2, h2, e2, y0, y1, p2⟩ := below_f l i1 h1 30 hb p1 (by omega) (by omega)
  obtain ⟨z, i3, h3, e3, z0, z1, p3⟩ := below_f l i2 h2 15 hb p2 (by omega) (by omega)
  refine ⟨x, y, z, ?_, ⟨x0, x1⟩, ⟨y0, y1⟩, ⟨z0, z1⟩⟩
  unfold spec_DrawRack.f
  refine Ev.bind e ?_
  unfold spec_l13Rack.f
  simp only [e1, e2, e3, Option.bind_some]
  exact Ev.now _
theorem FnShelves (l : List Int) (_ : l.length ≤ maxLen) (hb : l.length * 1 ≤ 140737488351232) (hw : ∀ x ∈ l, (Lit.int .u8 x).wf = true) : ∃ k, laws_FnShelves.f k l = some true := by
  refine Ev.rounds ?_
  unfold laws_FnShelves.f
  simp only [big_f, Option.bind_some, decide_eq_true_eq]
  by_cases c : (l.length : Int) > 1048576
  · simp only [if_pos c]
    exact Ev.now _
  · simp only [if_neg c]
    obtain ⟨x, y, z, hd, hx, hy, hz⟩ := drawRack_f l (by omega)
    obtain ⟨a0, ha0, b0, c0⟩ := at_f l hw (by omega) 0 (by omega) (by omega)
    obtain ⟨a1, ha1, b1, c1⟩ := at_f l hw (by omega) 1 (by omega) (by omega)
    obtain ⟨a2, ha2, b2, c2⟩ := at_f l hw (by omega) 2 (by omega) (by omega)
    refine Ev.bind hd ?_
    simp only [ha0, ha1, ha2, Option.bind_some, freshI, cheapI, morningI, valueI, rackI]
    rw [tmod_pos b0]
    have hok : rackOk x y z = true := (rackOk_iff x y z).2 (by omega)
    have hn : 0 ≤ a0 % 90 ∧ a0 % 90 < 90 := ⟨Int.emod_nonneg _ (by omega), Int.emod_lt_of_pos _ (by omega)⟩
    generalize a0 % 90 = n at hn ⊢
    have ef : freshV x y z n = (x - min n x, y - min (n - min n x) y, z, min n x + min (n - min n x) y) := by
      unfold freshV
      rw [if_pos ⟨hok, by omega⟩]
    have ec : cheapV x y z n = (x, y - min (n - min n z) y, z - min n z, min n z + min (n - min n z) y) := by
      unfold cheapV
      rw [if_pos ⟨hok, by omega⟩]
    have em : morningV x y z a1 = (a1, x, y, z) := by
      unfold morningV
      rw [if_pos ⟨hok, by omega⟩]
    have ev : valueV x y z a2 = x * a2 + y * (a2 / 2) + z * (a2 / 4) := by
      unfold valueV
      rw [if_pos ⟨hok, by omega⟩]
    have ev2 : valueV 2 3 4 10 = 43 := by decide
    have hr : rackOk (x - min n x) (y - min (n - min n x) y) z = true := (rackOk_iff _ _ _).2 (by omega)
    have m1 := mulb x a2 (by omega) (by omega) (by omega) (by omega)
    have m2 := mulb y (a2 / 2) (by omega) (by omega) (by omega) (by omega)
    have m3 := mulb z (a2 / 4) (by omega) (by omega) (by omega) (by omega)
    have q2 : y * (a2 / 2) ≤ y * a2 := Int.mul_le_mul_of_nonneg_left (by omega) (by omega)
    have q3 : z * (a2 / 4) ≤ z * a2 := Int.mul_le_mul_of_nonneg_left (by omega) (by omega)
    have q4 : a2 * (x + y + z) = x * a2 + y * a2 + z * a2 := by rw [Int.mul_add, Int.mul_add, Int.mul_comm a2 x, Int.mul_comm a2 y, Int.mul_comm a2 z]
    have q5 := mulb y a2 (by omega) (by omega) (by omega) (by omega)
    have q6 := mulb z a2 (by omega) (by omega) (by omega) (by omega)
    rw [ef, ec, em, ev, ev2]
    simp only [hr, mn_eq, mx_eq]
    rw [w64 (x := x + y) (by omega) (by omega), w64 (x := x + y + z) (by omega) (by omega), w64 (x := z + y) (by omega) (by omega), w64 (x := x - n) (by omega) (by omega), w64 (x := z - n) (by omega) (by omega), w64 (x := a2 * (x + y + z)) (by omega) (by omega)]
    generalize a2 * (x + y + z) = p at *
    generalize x * a2 = pa at *
    generalize y * (a2 / 2) = pb at *
    generalize z * (a2 / 4) = pc at *
    simp (disch := omega) only [w64, if_pos]
    exact Ev.now _
end Go.Proofs.Ytljodkhonaeceaa.Pure
