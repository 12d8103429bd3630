/- The program's CleanCost and the reference's answer alike, for all arguments. No condition. -/
import Derived.Test.YtljodkhonaeceaaPFnExactCleanCostx1
import Derived.Test.YtljodkhonaeceaaBase
namespace Go.Proofs.Ytljodkhonaeceaa.Pure
open Go.RowKit Go.Proofs.Ytljodkhonaeceaa.PFnExactCleanCost Go.Proofs.YtljodkhonaeceaaW.PrintWords Go.Proofs.YtljodkhonaeceaaW.PrintLast Go.Proofs.YtljodkhonaeceaaW.PrintMore Go.Proofs.Ytljodkhonaeceaa.Base
set_option linter.unusedVariables false
set_option linter.unusedSimpArgs false
theorem in_f (a b c : Int) : impl_in.f a b c = some (decide (b ≤ a ∧ a ≤ c)) := by
  unfold impl_in.f
  by_cases h : b ≤ a <;> simp [h]
theorem l01In_f (a b c : Int) : spec_l01In.f a b c = some (decide (b ≤ a ∧ a ≤ c)) := by
  unfold spec_l01In.f
  by_cases h : b ≤ a <;> simp [h]
theorem bv_andnot (a b : BitVec 64) : a &&& ~~~b = 0#64 ↔ a ||| b = b := by
  constructor
  · intro h
    apply BitVec.eq_of_getLsbD_eq
    intro i hi
    have := congrArg (fun v : BitVec 64 => v.getLsbD i) h
    simp only [BitVec.getLsbD_and, BitVec.getLsbD_not, BitVec.getLsbD_zero, hi, decide_true, Bool.true_and] at this
    rw [BitVec.getLsbD_or]
    cases ha : a.getLsbD i <;> cases hb : b.getLsbD i <;> simp_all
  · intro h
    apply BitVec.eq_of_getLsbD_eq
    intro i hi
    have := congrArg (fun v : BitVec 64 => v.getLsbD i) h
    simp only [BitVec.getLsbD_or] at this
    simp only [BitVec.getLsbD_and, BitVec.getLsbD_not, BitVec.getLsbD_zero, hi, decide_true, Bool.true_and]
    cases ha : a.getLsbD i <;> cases hb : b.getLsbD i <;> simp_all
theorem or_nat (a b : Nat) (ha : a ≤ 255) (hb : b ≤ 255) : Go.bits .or .i64 (a : Int) (b : Int) = ((a ||| b : Nat) : Int) :=
  (bits_nat .i64 8 (by decide) (fun n h0 h1 => by rw [IntKind.wrap_i64]; omega) a b (by omega) (by omega)).2
theorem or_lt (a b : Nat) (ha : a ≤ 255) (hb : b ≤ 255) : a ||| b ≤ 255 := by
  have := Nat.or_lt_two_pow (n := 8) (x := a) (y := b) (by omega) (by omega)
  omega
theorem or_range (x y : Int) (hx : 0 ≤ x ∧ x ≤ 255) (hy : 0 ≤ y ∧ y ≤ 255) : 0 ≤ Go.bits .or .i64 x y ∧ Go.bits .or .i64 x y ≤ 255 := by
  obtain ⟨a, rfl⟩ := Int.eq_ofNat_of_zero_le hx.1
  obtain ⟨b, rfl⟩ := Int.eq_ofNat_of_zero_le hy.1
  rw [or_nat a b (by omega) (by omega)]
  have := or_lt a b (by omega) (by omega)
  omega
theorem andnot_iff (x y : Int) (hx : 0 ≤ x ∧ x ≤ 255) (hy : 0 ≤ y ∧ y ≤ 255) : Go.bits .andNot .i64 x y = 0 ↔ Go.bits .or .i64 x y = y := by
  obtain ⟨a, rfl⟩ := Int.eq_ofNat_of_zero_le hx.1
  obtain ⟨b, rfl⟩ := Int.eq_ofNat_of_zero_le hy.1
  have e1 : Go.bits .andNot .i64 (a : Int) (b : Int) = IntKind.i64.wrap (((BitVec.ofInt 64 (a : Int)) &&& ~~~(BitVec.ofInt 64 (b : Int))).toNat : Int) := rfl
  have e2 : (IntKind.i64.wrap (((BitVec.ofInt 64 (a : Int)) &&& ~~~(BitVec.ofInt 64 (b : Int))).toNat : Int) = 0) ↔ (BitVec.ofInt 64 (a : Int)) &&& ~~~(BitVec.ofInt 64 (b : Int)) = 0#64 := by
    rw [IntKind.wrap_i64]
    constructor
    · intro h
      apply BitVec.eq_of_toNat_eq
      have := ((BitVec.ofInt 64 (a : Int)) &&& ~~~(BitVec.ofInt 64 (b : Int))).isLt
      simp only [BitVec.toNat_ofNat]
      generalize ((BitVec.ofInt 64 (a : Int)) &&& ~~~(BitVec.ofInt 64 (b : Int))).toNat = q at *
      omega
    · intro h
      rw [h]
      decide
  rw [e1, e2, bv_andnot, or_nat a b (by omega) (by omega)]
  constructor
  · intro h
    have := congrArg BitVec.toNat h
    rw [BitVec.toNat_or, BitVec.ofInt_natCast, BitVec.ofInt_natCast, BitVec.toNat_ofNat, BitVec.toNat_ofNat, Nat.mod_eq_of_lt (by omega), Nat.mod_eq_of_lt (by omega)] at this
    omega
  · intro h
    apply BitVec.eq_of_toNat_eq
    rw [BitVec.toNat_or, BitVec.ofInt_natCast, BitVec.ofInt_natCast, BitVec.toNat_ofNat, BitVec.toNat_ofNat, Nat.mod_eq_of_lt (by omega), Nat.mod_eq_of_lt (by omega)]
    omega
def pop (n : Nat) : Int := ((List.range 8).map fun k => ((n / 2 ^ k % 2 : Nat) : Int)).sum
theorem pop_bd (n : Nat) : 0 ≤ pop n ∧ pop n ≤ 8 := by
  unfold pop
  simp [List.range, List.range.loop]
  omega
def costV (x y : Int) : Int := if (0 ≤ x ∧ x ≤ 255) ∧ (0 ≤ y ∧ y ≤ 255) then (if Go.bits .or .i64 x y = y then 0 else 5 + pop x.toNat) else -1
theorem costV_bd (x y : Int) : -1 ≤ costV x y ∧ costV x y ≤ 13 := by
  have := pop_bd x.toNat
  unfold costV
  split
  · split <;> omega
  · omega
theorem cost_all : ((List.range 256).all fun n => decide (spec_CleanCost.l0 9 (n : Int) 5 0 = some (5 + pop n))) = true := by decide +kernel
theorem costS (x y : Int) : Ev (fun k => spec_CleanCost.f k x y) (costV x y) := by
  unfold spec_CleanCost.f costV
  simp only [l01In_f, Option.bind_some, decide_eq_true_eq]
  by_cases c1 : 0 ≤ x ∧ x ≤ 255
  · simp only [if_pos c1]
    by_cases c2 : 0 ≤ y ∧ y ≤ 255
    · rw [if_pos ⟨c1, c2⟩]
      refine ev_next (f := fun k => if Go.bits .or .i64 x y = y then some 0 else spec_CleanCost.l0 k x 5 0) (fun k => ?_) _ ?_
      · simp only [spec_CleanCost.j0]
        rw [if_neg (by simp; omega)]
      · by_cases c : Go.bits .or .i64 x y = y
        · simp only [if_pos c]
          exact Ev.now _
        · simp only [if_neg c]
          have h := (List.all_eq_true.1 cost_all) x.toNat (List.mem_range.2 (by omega))
          rw [decide_eq_true_eq, show ((x.toNat : Nat) : Int) = x by omega] at h
          exact Ev.of (fun k => (spec_CleanCost.mono_l k).2 _ _ _) h
    · rw [if_neg (fun h => c2 h.2)]
      exact ev_now fun k => by simp only [spec_CleanCost.j0]; rw [if_pos (by simp; omega)]
  · simp only [if_neg c1]
    rw [if_neg (fun h => c1 h.1)]
    exact ev_now fun k => rfl
theorem ones_all : ((List.range 256).all fun n => decide (bits_OnesCount.f (IntKind.u64.wrap (n : Int)) = some (pop n))) = true := by decide +kernel
theorem costI (x y : Int) : Ev (fun k => impl_CleanCost.f k x y) (costV x y) := by
  unfold impl_CleanCost.f impl_isThings.f costV
  simp only [in_f, Option.bind_some, decide_eq_true_eq]
  by_cases c1 : 0 ≤ x ∧ x ≤ 255
  · simp only [if_pos c1]
    by_cases c2 : 0 ≤ y ∧ y ≤ 255
    · rw [if_pos ⟨c1, c2⟩]
      refine ev_now fun k => ?_
      simp only [impl_CleanCost.j0]
      rw [if_neg (by simp; omega)]
      by_cases c : Go.bits .or .i64 x y = y
      · rw [if_pos ((andnot_iff x y c1 c2).2 c), if_pos c]
      · rw [if_neg (fun h => c ((andnot_iff x y c1 c2).1 h)), if_neg c]
        have h := (List.all_eq_true.1 ones_all) x.toNat (List.mem_range.2 (by omega))
        rw [decide_eq_true_eq, show ((x.toNat : Nat) : Int) = x by omega] at h
        rw [h]
        have := pop_bd x.toNat
        simp only [Option.bind_some]
        rw [w64 (by omega) (by omega)]
    · rw [if_neg (fun h => c2 h.2)]
      exact ev_now fun k => by simp only [impl_CleanCost.j0]; rw [if_pos (by simp; omega)]
  · simp only [if_neg c1]
    rw [if_neg (fun h => c1 h.1)]
    exact ev_now fun k => rfl
theorem FnExactCleanCost : laws_FnExactCleanCost.Pure := by
  intro x y _ _
  refine Ev.rounds ?_
  unfold laws_FnExactCleanCost.f
  refine Ev.bind (costS x y) (Ev.bind (costI x y) ?_)
  simp only [if_true]
  exact Ev.now _
end Go.Proofs.Ytljodkhonaeceaa.Pure
