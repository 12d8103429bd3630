/- The program's DayCost and the reference's answer alike, for all arguments. No condition. -/
import Derived.Test.YtkcfpkokgpimaaaPFnExactDayCostx3
import Derived.Test.YtkcfpkokgpimaaaBase
namespace Go.Proofs.Ytkcfpkokgpimaaa.Pure
open Go.RowKit Go.Proofs.Ytkcfpkokgpimaaa.PFnExactDayCost Go.Proofs.YtkcfpkokgpimaaaW.PrintWords Go.Proofs.YtkcfpkokgpimaaaW.PrintLast Go.Proofs.YtkcfpkokgpimaaaW.PrintMore Go.Proofs.Ytkcfpkokgpimaaa.Base
set_option linter.unusedVariables false
set_option linter.unusedSimpArgs false
theorem in_f (a b c : Int) : impl_in.f a b c = some (decide (b ≤ a ∧ a ≤ c)) := by
  unfold impl_in.f
  by_cases h : b ≤ a <;> simp [h]
theorem l01In_f (a b c : Int) : spec_l01In.f a b c = some (decide (b ≤ a ∧ a ≤ c)) := by
  unfold spec_l01In.f
  by_cases h : b ≤ a <;> simp [h]
/-- Two lists are told alike, element by element. -/
theorem eqIntS_f (a b : List Int) (hb : a.length ≤ 1000000000) : Ev (fun k => laws_eqIntS.f k a b) (decide (a = b)) := by
  unfold laws_eqIntS.f
  by_cases c : a.length = b.length
  · simp only [if_pos (show (a.length : Int) = (b.length : Int) by omega)]
    have h := ev_all (fun k i => laws_eqIntS.l0 k a b i) a.length (fun i => decide (rd a (i : Int) = rd b (i : Int))) false true (fun k i hi => by
      simp only [laws_eqIntS.l0]
      rw [if_pos (by omega), if_pos (by omega), if_pos (by omega), w64 (by omega) (by omega)]
      by_cases e : rd a (i : Int) = rd b (i : Int)
      · rw [if_pos e, if_pos (by simpa using e)]
      · rw [if_neg e, if_neg (by simpa using e)]) (fun k => by simp only [laws_eqIntS.l0]; rw [if_neg (by omega)])
    have e : (if (List.range a.length).all (fun i => decide (rd a (i : Int) = rd b (i : Int))) = true then true else false) = decide (a = b) := by
      by_cases e : a = b
      · subst e
        rw [if_pos (by simp)]
        simp
      · rw [if_neg]
        · simp [e]
        · intro hall
          refine e (List.ext_getElem c fun i h1 h2 => ?_)
          have := (List.all_eq_true.1 hall) i (List.mem_range.2 h1)
          rw [decide_eq_true_eq, rd_get _ _ h1, rd_get _ _ h2] at this
          exact this
    rw [e] at h
    exact h
  · simp only [if_neg (show ¬ (a.length : Int) = (b.length : Int) by omega)]
    refine ev_const ?_
    have : a ≠ b := fun e => c (by rw [e])
    simp [this]
theorem toIntS_f (l : List Int) (hb : l.length ≤ 1048576) : Ev (fun k => laws_toIntS.f k l) l := by
  unfold laws_toIntS.f
  simp only [if_pos (show (0 : Int) ≤ (l.length : Int) by omega), Int.toNat_natCast, if_pos (show l.length ≤ 35184372088832 by omega)]
  have h := ev_copy (fun k s i => laws_toIntS.l0 k l s i) l 0 id 0 (fun k s i hi hs => by
    simp (disch := omega) only [laws_toIntS.l0, if_pos, w64]
    simp only [rd, Int.toNat_natCast, id]) (fun k s => by
    simp only [laws_toIntS.l0]
    rw [if_neg (by omega)])
  rwa [List.map_id] at h
theorem eqIntS_same (l : List Int) (hb : l.length ≤ 1000000000) : Ev (fun k => laws_eqIntS.f k l l) true := by
  have h := eqIntS_f l l hb
  rwa [decide_eq_true rfl] at h
/-- All numbers of a list are in a range. -/
def allOk (l : List Int) (a b : Int) : Bool := l.all fun x => decide (a ≤ x ∧ x ≤ b)
theorem allOk_mem {l : List Int} {a b : Int} (h : allOk l a b = true) : ∀ x ∈ l, a ≤ x ∧ x ≤ b := by
  intro x hx
  simpa using (List.all_eq_true.1 h) x hx
theorem allIn_f (l : List Int) (a b : Int) : impl_allIn.f l a b = some (allOk l a b) := rfl
/-- The reference's loop that asks the same. -/
theorem all_loop {R : Type} (F : Nat → Int → Option R) (l : List Int) (a b : Int) (r0 r1 : R)
    (hstep : ∀ (k : Nat) (i : Nat), i < l.length → F (k + 1) (i : Int) = if (decide (a ≤ rd l (i : Int) ∧ rd l (i : Int) ≤ b)) = true then F k ((i : Int) + 1) else some r0)
    (hend : ∀ (k : Nat), F (k + 1) (l.length : Int) = some r1) : Ev (fun k => F k 0) (if allOk l a b = true then r1 else r0) := by
  have h := ev_all F l.length (fun i => decide (a ≤ l.getD i 0 ∧ l.getD i 0 ≤ b)) r0 r1 (fun k i hi => by rw [hstep k i hi, rd_eq]) hend
  have e := all_range l 0 (fun x => decide (a ≤ x ∧ x ≤ b))
  rw [e] at h
  exact h
theorem bv_andnot (a b : BitVec 64) : a &&& ~~~b = 0#64 ↔ a ||| b = b := by
  constructor
  · intro h
    apply BitVec.eq_of_getLsbD_eq
    intro i hi
    have := congrArg (fun v : BitVec 64 => v.getLsbD i) h
    simp only [BitVec.getLsbD_and, BitVec.getLsbD_not, BitVec.getLsbD_zero, hi, decide_true, Bool.true_and] at this
    rw [BitVec.getLsbD_or]
    cases ha : a.getLsbD i <;> cases hb : b.getLsbD i <;> simp_all
  · intro h
    apply BitVec.eq_of_getLsbD_eq
    intro i hi
    have := congrArg (fun v : BitVec 64 => v.getLsbD i) h
    simp only [BitVec.getLsbD_or] at this
    simp only [BitVec.getLsbD_and, BitVec.getLsbD_not, BitVec.getLsbD_zero, hi, decide_true, Bool.true_and]
    cases ha : a.getLsbD i <;> cases hb : b.getLsbD i <;> simp_all
theorem or_nat (a b : Nat) (ha : a ≤ 255) (hb : b ≤ 255) : Go.bits .or .i64 (a : Int) (b : Int) = ((a ||| b : Nat) : Int) :=
  (bits_nat .i64 8 (by decide) (fun n h0 h1 => by rw [IntKind.wrap_i64]; omega) a b (by omega) (by omega)).2
theorem or_lt (a b : Nat) (ha : a ≤ 255) (hb : b ≤ 255) : a ||| b ≤ 255 := by
  have := Nat.or_lt_two_pow (n := 8) (x := a) (y := b) (by omega) (by omega)
  omega
theorem or_range (x y : Int) (hx : 0 ≤ x ∧ x ≤ 255) (hy : 0 ≤ y ∧ y ≤ 255) : 0 ≤ Go.bits .or .i64 x y ∧ Go.bits .or .i64 x y ≤ 255 := by
  obtain ⟨a, rfl⟩ := Int.eq_ofNat_of_zero_le hx.1
  obtain ⟨b, rfl⟩ := Int.eq_ofNat_of_zero_le hy.1
  rw [or_nat a b (by omega) (by omega)]
  have := or_lt a b (by omega) (by omega)
  omega
theorem andnot_iff (x y : Int) (hx : 0 ≤ x ∧ x ≤ 255) (hy : 0 ≤ y ∧ y ≤ 255) : Go.bits .andNot .i64 x y = 0 ↔ Go.bits .or .i64 x y = y := by
  obtain ⟨a, rfl⟩ := Int.eq_ofNat_of_zero_le hx.1
  obtain ⟨b, rfl⟩ := Int.eq_ofNat_of_zero_le hy.1
  have e1 : Go.bits .andNot .i64 (a : Int) (b : Int) = IntKind.i64.wrap (((BitVec.ofInt 64 (a : Int)) &&& ~~~(BitVec.ofInt 64 (b : Int))).toNat : Int) := rfl
  have e2 : (IntKind.i64.wrap (((BitVec.ofInt 64 (a : Int)) &&& ~~~(BitVec.ofInt 64 (b : Int))).toNat : Int) = 0) ↔ (BitVec.ofInt 64 (a : Int)) &&& ~~~(BitVec.ofInt 64 (b : Int)) = 0#64 := by
    rw [IntKind.wrap_i64]
    constructor
    · intro h
      apply BitVec.eq_of_toNat_eq
      have := ((BitVec.ofInt 64 (a : Int)) &&& ~~~(BitVec.ofInt 64 (b : Int))).isLt
      simp only [BitVec.toNat_ofNat]
      generalize ((BitVec.ofInt 64 (a : Int)) &&& ~~~(BitVec.ofInt 64 (b : Int))).toNat = q at *
      omega
    · intro h
      rw [h]
      decide
  rw [e1, e2, bv_andnot, or_nat a b (by omega) (by omega)]
  constructor
  · intro h
    have := congrArg BitVec.toNat h
    rw [BitVec.toNat_or, BitVec.ofInt_natCast, BitVec.ofInt_natCast, BitVec.toNat_ofNat, BitVec.toNat_ofNat, Nat.mod_eq_of_lt (by omega), Nat.mod_eq_of_lt (by omega)] at this
    omega
  · intro h
    apply BitVec.eq_of_toNat_eq
    rw [BitVec.toNat_or, BitVec.ofInt_natCast, BitVec.ofInt_natCast, BitVec.toNat_ofNat, BitVec.toNat_ofNat, Nat.mod_eq_of_lt (by omega), Nat.mod_eq_of_lt (by omega)]
    omega
def pop (n : Nat) : Int := ((List.range 8).map fun k => ((n / 2 ^ k % 2 : Nat) : Int)).sum
theorem pop_bd (n : Nat) : 0 ≤ pop n ∧ pop n ≤ 8 := by
  unfold pop
  simp [List.range, List.range.loop]
  omega
def costV (x y : Int) : Int := if (0 ≤ x ∧ x ≤ 255) ∧ (0 ≤ y ∧ y ≤ 255) then (if Go.bits .or .i64 x y = y then 0 else 5 + pop x.toNat) else -1
theorem costV_bd (x y : Int) : -1 ≤ costV x y ∧ costV x y ≤ 13 := by
  have := pop_bd x.toNat
  unfold costV
  split
  · split <;> omega
  · omega
theorem cost_all : ((List.range 256).all fun n => decide (spec_CleanCost.l0 9 (n : Int) 5 0 = some (5 + pop n))) = true := by decide +kernel
theorem costS (x y : Int) : Ev (fun k => spec_CleanCost.f k x y) (costV x y) := by
  unfold spec_CleanCost.f costV
  simp only [l01In_f, Option.bind_some, decide_eq_true_eq]
  by_cases c1 : 0 ≤ x ∧ x ≤ 255
  · simp only [if_pos c1]
    by_cases c2 : 0 ≤ y ∧ y ≤ 255
    · rw [if_pos ⟨c1, c2⟩]
      refine ev_next (f := fun k => if Go.bits .or .i64 x y = y then some 0 else spec_CleanCost.l0 k x 5 0) (fun k => ?_) _ ?_
      · simp only [spec_CleanCost.j0]
        rw [if_neg (by simp; omega)]
      · by_cases c : Go.bits .or .i64 x y = y
        · simp only [if_pos c]
          exact Ev.now _
        · simp only [if_neg c]
          have h := (List.all_eq_true.1 cost_all) x.toNat (List.mem_range.2 (by omega))
          rw [decide_eq_true_eq, show ((x.toNat : Nat) : Int) = x by omega] at h
          exact Ev.of (fun k => (spec_CleanCost.mono_l k).2 _ _ _) h
    · rw [if_neg (fun h => c2 h.2)]
      exact ev_now fun k => by simp only [spec_CleanCost.j0]; rw [if_pos (by simp; omega)]
  · simp only [if_neg c1]
    rw [if_neg (fun h => c1 h.1)]
    exact ev_now fun k => rfl
theorem ones_all : ((List.range 256).all fun n => decide (bits_OnesCount.f (IntKind.u64.wrap (n : Int)) = some (pop n))) = true := by decide +kernel
theorem costI (x y : Int) : Ev (fun k => impl_CleanCost.f k x y) (costV x y) := by
  unfold impl_CleanCost.f impl_isThings.f costV
  simp only [in_f, Option.bind_some, decide_eq_true_eq]
  by_cases c1 : 0 ≤ x ∧ x ≤ 255
  · simp only [if_pos c1]
    by_cases c2 : 0 ≤ y ∧ y ≤ 255
    · rw [if_pos ⟨c1, c2⟩]
      refine ev_now fun k => ?_
      simp only [impl_CleanCost.j0]
      rw [if_neg (by simp; omega)]
      by_cases c : Go.bits .or .i64 x y = y
      · rw [if_pos ((andnot_iff x y c1 c2).2 c), if_pos c]
      · rw [if_neg (fun h => c ((andnot_iff x y c1 c2).1 h)), if_neg c]
        have h := (List.all_eq_true.1 ones_all) x.toNat (List.mem_range.2 (by omega))
        rw [decide_eq_true_eq, show ((x.toNat : Nat) : Int) = x by omega] at h
        rw [h]
        have := pop_bd x.toNat
        simp only [Option.bind_some]
        rw [w64 (by omega) (by omega)]
    · rw [if_neg (fun h => c2 h.2)]
      exact ev_now fun k => by simp only [impl_CleanCost.j0]; rw [if_pos (by simp; omega)]
  · simp only [if_neg c1]
    rw [if_neg (fun h => c1 h.1)]
    exact ev_now fun k => rfl
theorem l16_f (l : List Int) (m : Int) (hb : l.length ≤ 1048576) : Ev (fun k => spec_l16Ok.f k l m) (allOk l 0 255 && decide ((l.length : Int) ≤ m)) := by
  unfold spec_l16Ok.f
  have h := all_loop (fun k i => spec_l16Ok.l0 k l m i) l 0 255 false (decide ((l.length : Int) ≤ m)) (fun k i hi => by
    simp (disch := omega) only [spec_l16Ok.l0, l01In_f, Option.bind_some, if_pos, w64]) (fun k => by
    simp only [spec_l16Ok.l0]
    rw [if_neg (by omega)])
  cases c : allOk l 0 255
  · rw [c] at h
    simpa using h
  · rw [c] at h
    simpa using h
def doughsOk (l : List Int) : Bool := allOk l 0 255 && decide ((l.length : Int) ≤ 8)
theorem doughsI (l : List Int) : impl_areDoughs.f l = some (doughsOk l) := by
  unfold impl_areDoughs.f doughsOk
  rw [allIn_f]
  by_cases c : (l.length : Int) ≤ 8
  · rw [if_pos c]
    simp [c]
  · rw [if_neg c]
    simp [c]
theorem doughsOk_iff (l : List Int) : doughsOk l = true ↔ (∀ x ∈ l, 0 ≤ x ∧ x ≤ 255) ∧ l.length ≤ 8 := by
  unfold doughsOk
  rw [Bool.and_eq_true, decide_eq_true_eq]
  constructor
  · intro h
    exact ⟨allOk_mem h.1, by omega⟩
  · intro h
    refine ⟨?_, by omega⟩
    unfold allOk
    rw [List.all_eq_true]
    intro x hx
    simpa using h.1 x hx
theorem all_no (p : Nat → Bool) {n i : Nat} (hi : i < n) (h : p i = false) : (List.range n).all p = false := by
  rw [Bool.eq_false_iff]
  intro ha
  have := (List.all_eq_true.1 ha) i (List.mem_range.2 hi)
  rw [h] at this
  cases this
theorem all_more (p : Nat → Bool) {n : Nat} (h : (List.range n).all p = true) (hp : p n = true) : (List.range (n + 1)).all p = true := by
  rw [List.range_succ, List.all_append, h]
  simp [hp]
theorem all_at {p : Nat → Bool} {n i : Nat} (h : (List.range n).all p = true) (hi : i < n) : p i = true := (List.all_eq_true.1 h) i (List.mem_range.2 hi)
/-- Place i of an order names a number below n that no place before it names. -/
def okAt (l : List Int) (n : Int) (i : Nat) : Bool := decide ((0 ≤ l.getD i 0 ∧ l.getD i 0 ≤ n - 1) ∧ l.getD i 0 ∉ l.take i)
def stepC (cost : Int → Int → Int) (d l : List Int) (k : Nat) : Int := if k = 0 then 0 else cost (d.getD (l.getD (k - 1) 0).toNat 0) (d.getD (l.getD k 0).toNat 0)
def sumC (cost : Int → Int → Int) (d l : List Int) (n : Nat) : Int := ((List.range n).map (stepC cost d l)).sum
theorem sumC_succ (cost : Int → Int → Int) (d l : List Int) (n : Nat) : sumC cost d l (n + 1) = sumC cost d l n + stepC cost d l n := by
  unfold sumC
  rw [List.range_succ, List.map_append, List.sum_append]
  simp
theorem sumC_bd (cost : Int → Int → Int) (d l : List Int) (b : Int) (hc : ∀ x y, -1 ≤ cost x y ∧ cost x y ≤ b) (hb : 0 ≤ b) (n : Nat) : -(n : Int) ≤ sumC cost d l n ∧ sumC cost d l n ≤ b * n := by
  induction n with
  | zero => simp [sumC]
  | succ n ih =>
    rw [sumC_succ]
    have h1 : -1 ≤ stepC cost d l n ∧ stepC cost d l n ≤ b := by
      unfold stepC
      split
      · omega
      · exact hc _ _
    have e : b * ((n + 1 : Nat) : Int) = b * n + b := by rw [Int.natCast_add, Int.mul_add]; simp
    rw [e]
    omega
theorem mem_take_succ (l : List Int) (i : Nat) (hi : i < l.length) (x : Int) : x ∈ l.take (i + 1) ↔ x ∈ l.take i ∨ x = l.getD i 0 := by
  rw [List.take_succ_eq_append_getElem hi, List.mem_append, List.mem_singleton, List.getD_eq_getElem?_getD, List.getElem?_eq_getElem hi]
  rfl
theorem index_f (l : List Int) (a : Int) (hb : l.length ≤ 1048576) : ∃ r, (r ≥ 0 ↔ a ∈ l) ∧ Ev (fun k => slices_Index_int_int.f k l a) r := by
  unfold slices_Index_int_int.f
  have h := ev_up (fun k (_ : Unit) i => slices_Index_int_int.l0 k l a (l.length : Int) i) l.length (fun i _ => ∀ j, j < i → l.getD j 0 ≠ a) (fun r => r ≥ 0 ↔ a ∈ l) (fun i _ hi hp => by
      by_cases c : a = l.getD i 0
      · refine .inr ⟨(i : Int), ⟨fun _ => ?_, fun _ => by omega⟩, ev_now fun k => ?_⟩
        · rw [c, List.getD_eq_getElem?_getD, List.getElem?_eq_getElem hi]
          exact List.getElem_mem hi
        · simp only [slices_Index_int_int.l0]
          rw [if_pos (by omega), if_pos (by omega), if_pos (by omega), rd_eq, if_pos c]
      · refine .inl ⟨(), fun j hj => ?_, fun r hr => ev_next (fun k => ?_) r hr⟩
        · by_cases d : j = i
          · subst d
            exact fun h => c h.symm
          · exact hp j (by omega)
        · simp only [slices_Index_int_int.l0]
          rw [if_pos (by omega), if_pos (by omega), if_pos (by omega), rd_eq, if_neg c, w64 (by omega) (by omega)]) (fun _ hp => by
      refine ⟨-1, ⟨fun h => by omega, fun h => ?_⟩, ev_now fun k => ?_⟩
      · obtain ⟨j, hj, e⟩ := List.getElem_of_mem h
        refine absurd ?_ (hp j hj)
        rw [List.getD_eq_getElem?_getD, List.getElem?_eq_getElem hj]
        exact e
      · simp only [slices_Index_int_int.l0]
        rw [if_neg (by omega)]) 0 () (Nat.zero_le _) (fun j hj => by omega)
  exact h
theorem contains_f (l : List Int) (a : Int) (hb : l.length ≤ 1048576) : Ev (fun k => slices_Contains_int_int.f k l a) (decide (a ∈ l)) := by
  obtain ⟨r, h1, h2⟩ := index_f l a hb
  unfold slices_Contains_int_int.f
  refine Ev.bind h2 ?_
  rw [show decide (a ∈ l) = decide (r ≥ 0) from by simp only [h1]]
  exact Ev.now _
theorem isOrderI (l : List Int) (n : Int) (hb : l.length ≤ 1048576) (hn : 0 ≤ n ∧ n ≤ 1048576) : Ev (fun k => impl_isOrder.f k l n) ((List.range l.length).all (okAt l n) && decide ((l.length : Int) = n)) := by
  unfold impl_isOrder.f
  have hw : wrap64 (n - 1) = n - 1 := w64 (by omega) (by omega)
  have h := ev_to (fun k (_ : Unit) i => impl_isOrder.l0 k l n l (l.length : Int) i) l.length (fun i _ => (List.range i).all (okAt l n) = true) ((List.range l.length).all (okAt l n) && decide ((l.length : Int) = n)) (fun i _ hi hp => by
      have hi' : (i : Int) < (l.length : Int) := by omega
      have hi0 : (0 : Int) ≤ (i : Int) := by omega
      have hi2 : (i : Int) ≤ (l.length : Int) := by omega
      have hbody : ∀ r, Ev (fun k => (if 0 ≤ l.getD i 0 ∧ l.getD i 0 ≤ n - 1 then ((slices_Contains_int_int.f k (l.take i) (l.getD i 0)).bind fun t138 => (if t138 = true then (some false) else (impl_isOrder.l0 k l n l (l.length : Int) ((i : Int) + 1)))) else (some false))) r → Ev (fun k => impl_isOrder.l0 k l n l (l.length : Int) (i : Int)) r := fun r h => ev_next (fun k => by
        simp only [impl_isOrder.l0, in_f, Option.bind_some, decide_eq_true_eq, hw, rd_eq]
        rw [if_pos hi', if_pos hi0, if_pos hi', if_pos hi2, w64 (x := (i : Int) + 1) (by omega) (by omega), Int.toNat_natCast]) r h
      have hlt : (l.take i).length ≤ 1048576 := by rw [List.length_take]; omega
      by_cases c1 : 0 ≤ l.getD i 0 ∧ l.getD i 0 ≤ n - 1
      · by_cases c2 : l.getD i 0 ∈ l.take i
        · refine .inr (hbody _ ?_)
          rw [all_no (okAt l n) hi (by unfold okAt; exact decide_eq_false fun h => h.2 c2), Bool.false_and]
          simp only [if_pos c1]
          refine Ev.bind (contains_f (l.take i) (l.getD i 0) hlt) ?_
          rw [decide_eq_true c2]
          simp only [if_true]
          exact Ev.now _
        · refine .inl ⟨(), all_more _ hp (by unfold okAt; exact decide_eq_true ⟨c1, c2⟩), fun r hr => hbody r ?_⟩
          simp only [if_pos c1]
          refine Ev.bind (contains_f (l.take i) (l.getD i 0) hlt) ?_
          rw [decide_eq_false c2]
          simp only [Bool.false_eq_true, if_false]
          exact hr
      · refine .inr (hbody _ ?_)
        rw [all_no (okAt l n) hi (by unfold okAt; exact decide_eq_false fun h => c1 h.1), Bool.false_and]
        simp only [if_neg c1]
        exact Ev.now _) (fun _ hp => ev_now fun k => by
      simp only [impl_isOrder.l0]
      rw [if_neg (by omega), hp, Bool.true_and]
      rfl) 0 () (Nat.zero_le _) rfl
  exact h
def dayV (d l : List Int) : Int := if doughsOk d = true ∧ (l.length : Int) = (d.length : Int) ∧ (List.range l.length).all (okAt l (d.length : Int)) = true then sumC costV d l l.length else -1
theorem okAt_in {l : List Int} {n : Int} {i : Nat} (h : okAt l n i = true) : 0 ≤ l.getD i 0 ∧ l.getD i 0 ≤ n - 1 := (of_decide_eq_true h).1
theorem dayI (d l : List Int) (hb : l.length ≤ 1048576) : Ev (fun k => impl_DayCost.f k d l) (dayV d l) := by
  unfold impl_DayCost.f
  simp only [doughsI, Option.bind_some]
  by_cases c1 : doughsOk d = true
  · have hd := ((doughsOk_iff d).1 c1).2
    simp only [if_pos c1]
    refine Ev.bind (isOrderI l (d.length : Int) hb (by omega)) ?_
    by_cases c2 : ((List.range l.length).all (okAt l (d.length : Int)) && decide ((l.length : Int) = (d.length : Int))) = true
    · rw [c2]
      rw [Bool.and_eq_true, decide_eq_true_eq] at c2
      obtain ⟨c2, c3⟩ := c2
      unfold dayV
      rw [if_pos ⟨c1, c3, c2⟩]
      refine ev_next (f := fun k => impl_DayCost.l0 k d l 0 1) (fun k => by simp only [impl_DayCost.j0]; rw [if_neg (by decide)]) _ ?_
      by_cases c4 : l.length = 0
      · rw [c4]
        exact ev_now fun k => by simp only [impl_DayCost.l0]; rw [if_neg (by omega)]; rfl
      · have h := ev_to (fun k (s : Int) i => impl_DayCost.l0 k d l s i) l.length (fun i s => 1 ≤ i ∧ s = sumC costV d l i) (sumC costV d l l.length) (fun i s hi hp => by
          obtain ⟨p1, p2⟩ := hp
          have o1 := okAt_in (all_at c2 (show i - 1 < l.length by omega))
          have o2 := okAt_in (all_at c2 hi)
          refine .inl ⟨sumC costV d l (i + 1), ⟨by omega, rfl⟩, fun r hr => ?_⟩
          have e1 : (i : Int) - 1 = ((i - 1 : Nat) : Int) := by omega
          have bd1 := sumC_bd costV d l 13 costV_bd (by omega) i
          have bd2 := costV_bd (d.getD (l.getD (i - 1) 0).toNat 0) (d.getD (l.getD i 0).toNat 0)
          have es : stepC costV d l i = costV (d.getD (l.getD (i - 1) 0).toNat 0) (d.getD (l.getD i 0).toNat 0) := by
            unfold stepC
            rw [if_neg (by omega)]
          refine ev_next (f := fun k => (impl_CleanCost.f k (d.getD (l.getD (i - 1) 0).toNat 0) (d.getD (l.getD i 0).toNat 0)).bind fun t145 => (impl_DayCost.l0 k d l (wrap64 (s + t145)) ((i : Int) + 1))) (fun k => ?_) r ?_
          · simp only [impl_DayCost.l0]
            rw [if_pos (by omega), w64 (x := (i : Int) - 1) (by omega) (by omega), if_pos (by omega), if_pos (by omega), e1, rd_eq l, rd_eq l, if_pos o1.1, if_pos (by omega), if_pos (by omega), if_pos o2.1, if_pos (by omega), w64 (x := (i : Int) + 1) (by omega) (by omega)]
            rfl
          · refine Ev.bind (costI _ _) ?_
            rw [w64 (by omega) (by omega), p2, ← es, ← sumC_succ]
            exact hr) (fun s hp => ev_now fun k => by
          simp only [impl_DayCost.l0]
          rw [if_neg (by omega), hp.2]) 1 0 (by omega) ⟨by omega, rfl⟩
        exact h
    · rw [Bool.eq_false_iff.2 c2]
      unfold dayV
      rw [if_neg (fun h => c2 (by rw [Bool.and_eq_true, decide_eq_true_eq]; exact ⟨h.2.2, h.2.1⟩))]
      exact ev_now fun k => by simp [impl_DayCost.j0]
  · simp only [if_neg c1]
    unfold dayV
    rw [if_neg (fun h => c1 h.1)]
    exact ev_now fun k => by simp [impl_DayCost.j0]
theorem dayS (d l : List Int) (hb : d.length ≤ 1048576) : Ev (fun k => spec_DayCost.f k d l) (dayV d l) := by
  unfold spec_DayCost.f
  refine Ev.bind (l16_f d 8 hb) ?_
  have e : (allOk d 0 255 && decide ((d.length : Int) ≤ 8)) = doughsOk d := rfl
  rw [e]
  by_cases c1 : doughsOk d = true
  · have hd := ((doughsOk_iff d).1 c1).2
    simp only [if_pos c1]
    by_cases c2 : (l.length : Int) = (d.length : Int)
    · rw [show ((l.length : Int) != (d.length : Int)) = false by simp [c2]]
      refine ev_next (f := fun k => spec_DayCost.l0 k d l (List.replicate d.length false) 0 0) (fun k => ?_) _ ?_
      · simp only [spec_DayCost.j0]
        rw [if_neg (by decide), if_pos (by omega), Int.toNat_natCast, if_pos (by omega)]
      · have hw : wrap64 ((d.length : Int) - 1) = (d.length : Int) - 1 := w64 (by omega) (by omega)
        have h := ev_to (fun k (s : List Bool × Int) i => spec_DayCost.l0 k d l s.1 s.2 i) l.length (fun i s => (List.range i).all (okAt l (d.length : Int)) = true ∧ s.1.length = d.length ∧ (∀ j : Nat, j < d.length → s.1.getD j false = decide ((j : Int) ∈ l.take i)) ∧ s.2 = sumC costV d l i) (dayV d l) (fun i s hi hp => by
          obtain ⟨seen, n⟩ := s
          obtain ⟨p1, p2, p3, p4⟩ := hp
          simp only at p2 p3 p4
          have hi' : (i : Int) < (l.length : Int) := by omega
          have hi0 : (0 : Int) ≤ (i : Int) := by omega
          have hno : okAt l (d.length : Int) i = false → Ev (fun k => spec_DayCost.j2 k d l seen n (i : Int) true) (dayV d l) := fun h => by
            unfold dayV
            rw [if_neg (fun hh => by have := all_at hh.2.2 hi; rw [h] at this; cases this)]
            exact ev_now fun k => by simp [spec_DayCost.j2]
          by_cases o1 : 0 ≤ l.getD i 0 ∧ l.getD i 0 ≤ (d.length : Int) - 1
          · have hlt : l.getD i 0 < (seen.length : Int) := by omega
            have hsn := p3 (l.getD i 0).toNat (by omega)
            rw [show ((l.getD i 0).toNat : Int) = l.getD i 0 by omega] at hsn
            have hbody : ∀ r, Ev (fun k => spec_DayCost.j2 k d l seen n (i : Int) (decide (l.getD i 0 ∈ l.take i))) r → Ev (fun k => spec_DayCost.l0 k d l seen n (i : Int)) r := fun r h => ev_next (fun k => by
              simp only [spec_DayCost.l0, l01In_f, Option.bind_some, decide_eq_true_eq, hw, rd_eq]
              rw [if_pos hi', if_pos hi0, if_pos o1, if_pos o1.1, if_pos hlt]
              exact congrArg _ hsn) r h
            by_cases c3 : l.getD i 0 ∈ l.take i
            · refine .inr (hbody _ ?_)
              rw [decide_eq_true c3]
              exact hno (by unfold okAt; exact decide_eq_false fun h => h.2 c3)
            · have hok : okAt l (d.length : Int) i = true := by unfold okAt; exact decide_eq_true ⟨o1, c3⟩
              refine .inl ⟨(seen.set (l.getD i 0).toNat true, sumC costV d l (i + 1)), ⟨all_more _ p1 hok, by simp [p2], fun j hj => ?_, rfl⟩, fun r hr => hbody r ?_⟩
              · simp only [List.getD_eq_getElem?_getD, List.getElem?_set]
                have hm := mem_take_succ l i hi (j : Int)
                by_cases cj : (l.getD i 0).toNat = j
                · rw [if_pos (by rw [← List.getD_eq_getElem?_getD]; exact cj), if_pos (by rw [← List.getD_eq_getElem?_getD]; omega)]
                  rw [decide_eq_true (hm.2 (.inr (by omega)))]
                  rfl
                · rw [if_neg (by rw [← List.getD_eq_getElem?_getD]; exact cj), ← List.getD_eq_getElem?_getD, p3 j hj]
                  exact decide_eq_decide.2 ⟨fun h => hm.2 (.inl h), fun h => (hm.1 h).elim id (fun h => absurd h (by omega))⟩
              · rw [decide_eq_false c3]
                have bd1 := sumC_bd costV d l 13 costV_bd (by omega) i
                have bd2 := costV_bd (d.getD (l.getD (i - 1) 0).toNat 0) (d.getD (l.getD i 0).toNat 0)
                by_cases c4 : i = 0
                · refine ev_next (fun k => ?_) r hr
                  simp only [spec_DayCost.j2, rd_eq, Option.bind_some]
                  rw [if_neg (by decide), if_pos hi0, if_pos hi', if_pos o1.1, if_pos hlt, if_neg (by omega), w64 (by omega) (by omega), sumC_succ, ← p4]
                  simp [stepC, c4]
                · have o0 := okAt_in (all_at p1 (show i - 1 < i by omega))
                  have e1 : (i : Int) - 1 = ((i - 1 : Nat) : Int) := by omega
                  have es : stepC costV d l i = costV (d.getD (l.getD (i - 1) 0).toNat 0) (d.getD (l.getD i 0).toNat 0) := by
                    unfold stepC
                    rw [if_neg (by omega)]
                  refine ev_next (f := fun k => (spec_CleanCost.f k (d.getD (l.getD (i - 1) 0).toNat 0) (d.getD (l.getD i 0).toNat 0)).bind fun t126 => (spec_DayCost.l0 k d l (seen.set (l.getD i 0).toNat true) (wrap64 (n + t126)) ((i : Int) + 1))) (fun k => ?_) r ?_
                  · simp only [spec_DayCost.j2, rd_eq l, Option.bind_some]
                    rw [if_neg (by decide), if_pos hi0, if_pos hi', if_pos o1.1, if_pos hlt, if_pos (by omega), w64 (x := (i : Int) - 1) (by omega) (by omega), if_pos (by omega), if_pos (by omega), e1, rd_eq l, if_pos o0.1, if_pos (by omega), if_pos (by omega), w64 (x := (i : Int) + 1) (by omega) (by omega)]
                    rfl
                  · refine Ev.bind (costS _ _) ?_
                    rw [w64 (by omega) (by omega), p4, ← es, ← sumC_succ]
                    exact hr
          · refine .inr (ev_next (f := fun k => spec_DayCost.j2 k d l seen n (i : Int) true) (fun k => ?_) _ (hno (by unfold okAt; exact decide_eq_false fun h => o1 h.1)))
            simp only [spec_DayCost.l0, l01In_f, Option.bind_some, decide_eq_true_eq, hw, rd_eq]
            rw [if_pos hi', if_pos hi0, if_neg o1]) (fun s hp => by
          refine ev_now fun k => ?_
          simp only [spec_DayCost.l0]
          rw [if_neg (by omega), hp.2.2.2]
          unfold dayV
          rw [if_pos ⟨c1, c2, hp.1⟩]) 0 (List.replicate d.length false, 0) (by omega) ⟨rfl, by simp, fun j hj => by
          rw [List.getD_eq_getElem?_getD, List.getElem?_replicate, if_pos hj]
          simp, rfl⟩
        exact h
    · rw [show ((l.length : Int) != (d.length : Int)) = true by simp [c2]]
      unfold dayV
      rw [if_neg (fun h => c2 h.2.1)]
      exact ev_now fun k => by simp [spec_DayCost.j0]
  · simp only [if_neg c1]
    unfold dayV
    rw [if_neg (fun h => c1 h.1)]
    exact ev_now fun k => by simp [spec_DayCost.j0]
theorem FnExactDayCost : laws_FnExactDayCost.Pure := by
  intro d l _ _ _ _ _ _
  refine Ev.rounds ?_
  unfold laws_FnExactDayCost.f
  by_cases c : (d.length : Int) > 1048576
  · simp only [if_pos c]
    exact Ev.now _
  · simp only [if_neg c]
    by_cases c' : (l.length : Int) > 1048576
    · simp only [if_pos c']
      exact Ev.now _
    · simp only [if_neg c']
      have hd := toIntS_f d (by omega)
      have hl := toIntS_f l (by omega)
      refine Ev.bind hd (Ev.bind hl (Ev.bind (dayS d l (by omega)) (Ev.bind hd (Ev.bind hl (Ev.bind (dayI d l (by omega)) ?_)))))
      simp only [if_true]
      refine Ev.bind hd (Ev.bind (eqIntS_same d (by omega)) ?_)
      simp only [if_true]
      refine Ev.bind hl (Ev.bind (eqIntS_same l (by omega)) ?_)
      simp only [if_true]
      exact Ev.now _
end Go.Proofs.Ytkcfpkokgpimaaa.Pure
