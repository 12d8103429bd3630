/- The program's BestDay and the reference's answer alike, for all arguments. No condition. -/
import Derived.Test.YtkcfpkokgpimaaaPFnExactBestDayx6
import Derived.Test.YtkcfpkokgpimaaaBase
namespace Go.Proofs.Ytkcfpkokgpimaaa.Pure
open Go.RowKit Go.Proofs.Ytkcfpkokgpimaaa.PFnExactBestDay Go.Proofs.YtkcfpkokgpimaaaW.PrintWords Go.Proofs.YtkcfpkokgpimaaaW.PrintLast Go.Proofs.YtkcfpkokgpimaaaW.PrintMore Go.Proofs.Ytkcfpkokgpimaaa.Base
set_option linter.unusedVariables false
set_option linter.unusedSimpArgs false
theorem in_f (a b c : Int) : impl_in.f a b c = some (decide (b ≤ a ∧ a ≤ c)) := by
  unfold impl_in.f
  by_cases h : b ≤ a <;> simp [h]
theorem l01In_f (a b c : Int) : spec_l01In.f a b c = some (decide (b ≤ a ∧ a ≤ c)) := by
  unfold spec_l01In.f
  by_cases h : b ≤ a <;> simp [h]
/-- Two lists are told alike, element by element. -/
theorem eqIntS_f (a b : List Int) (hb : a.length ≤ 1000000000) : Ev (fun k => laws_eqIntS.f k a b) (decide (a = b)) := by
  unfold laws_eqIntS.f
  by_cases c : a.length = b.length
  · simp only [if_pos (show (a.length : Int) = (b.length : Int) by omega)]
    have h := ev_all (fun k i => laws_eqIntS.l0 k a b i) a.length (fun i => decide (rd a (i : Int) = rd b (i : Int))) false true (fun k i hi => by
      simp only [laws_eqIntS.l0]
      rw [if_pos (by omega), if_pos (by omega), if_pos (by omega), w64 (by omega) (by omega)]
      by_cases e : rd a (i : Int) = rd b (i : Int)
      · rw [if_pos e, if_pos (by simpa using e)]
      · rw [if_neg e, if_neg (by simpa using e)]) (fun k => by simp only [laws_eqIntS.l0]; rw [if_neg (by omega)])
    have e : (if (List.range a.length).all (fun i => decide (rd a (i : Int) = rd b (i : Int))) = true then true else false) = decide (a = b) := by
      by_cases e : a = b
      · subst e
        rw [if_pos (by simp)]
        simp
      · rw [if_neg]
        · simp [e]
        · intro hall
          refine e (List.ext_getElem c fun i h1 h2 => ?_)
          have := (List.all_eq_true.1 hall) i (List.mem_range.2 h1)
          rw [decide_eq_true_eq, rd_get _ _ h1, rd_get _ _ h2] at this
          exact this
    rw [e] at h
    exact h
  · simp only [if_neg (show ¬ (a.length : Int) = (b.length : Int) by omega)]
    refine ev_const ?_
    have : a ≠ b := fun e => c (by rw [e])
    simp [this]
theorem toIntS_f (l : List Int) (hb : l.length ≤ 1048576) : Ev (fun k => laws_toIntS.f k l) l := by
  unfold laws_toIntS.f
  simp only [if_pos (show (0 : Int) ≤ (l.length : Int) by omega), Int.toNat_natCast, if_pos (show l.length ≤ 35184372088832 by omega)]
  have h := ev_copy (fun k s i => laws_toIntS.l0 k l s i) l 0 id 0 (fun k s i hi hs => by
    simp (disch := omega) only [laws_toIntS.l0, if_pos, w64]
    simp only [rd, Int.toNat_natCast, id]) (fun k s => by
    simp only [laws_toIntS.l0]
    rw [if_neg (by omega)])
  rwa [List.map_id] at h
theorem eqIntS_same (l : List Int) (hb : l.length ≤ 1000000000) : Ev (fun k => laws_eqIntS.f k l l) true := by
  have h := eqIntS_f l l hb
  rwa [decide_eq_true rfl] at h
/-- What is marked is held so. -/
theorem mark_held (a : List Int) (hb : a.length ≤ 1000000000) : ∃ m b, Ev (fun k => laws_markIntS.f k a 1) (m, b) ∧ Ev (fun k => laws_heldIntS.f k b 1) m ∧ 0 ≤ m := by
  have h1 := ev_up (fun k (s : List Int × Int) i => laws_markIntS.l0 k s.1 s.2 i) a.length (fun i s => s.1.length = a.length ∧ s.2 = 1 + (i : Int) ∧ ∀ j, j < i → s.1[j]? = some (1 + (j : Int)))
    (fun r => r.1 = 1 + (a.length : Int) ∧ r.2.length = a.length ∧ ∀ j, j < a.length → r.2[j]? = some (1 + (j : Int))) (fun i s hi hp => by
      obtain ⟨x, y⟩ := s
      obtain ⟨p1, p2, p3⟩ := hp
      simp only at p1 p2 p3
      subst p2
      refine .inl ⟨(x.set i (1 + (i : Int)), 1 + ((i + 1 : Nat) : Int)), ⟨by simp [p1], rfl, fun j hj => ?_⟩, fun r hr => ev_next (fun k => ?_) r hr⟩
      · by_cases c : j = i
        · subst c
          simp only
          rw [List.getElem?_set_self (by omega)]
        · simp only
          rw [List.getElem?_set_ne (Ne.symm c)]
          exact p3 j (by omega)
      · simp only [laws_markIntS.l0]
        rw [if_pos (by omega), if_pos (by omega), w64 (by omega) (by omega), w64 (by omega) (by omega), Int.toNat_natCast]
        congr 1 <;> omega) (fun s hp => by
      obtain ⟨x, y⟩ := s
      obtain ⟨p1, p2, p3⟩ := hp
      simp only at p1 p2 p3
      refine ⟨(y, x), ⟨p2, p1, p3⟩, ev_now fun k => ?_⟩
      simp only [laws_markIntS.l0]
      rw [if_neg (by omega)]) 0 (a, 1) (Nat.zero_le _) ⟨rfl, rfl, fun j hj => by omega⟩
  obtain ⟨⟨m, b⟩, ⟨q1, q2, q3⟩, h1⟩ := h1
  simp only at q1 q2 q3
  refine ⟨m, b, h1, ?_, by omega⟩
  have h2 := ev_to (fun k (s : Int) i => laws_heldIntS.l0 k b s i) b.length (fun i s => s = 1 + (i : Int)) m (fun i s hi hp => by
      subst hp
      refine .inl ⟨1 + ((i + 1 : Nat) : Int), rfl, fun r hr => ev_next (fun k => ?_) r hr⟩
      simp only [laws_heldIntS.l0]
      have e : rd b (i : Int) = 1 + (i : Int) := by
        rw [rd_eq, List.getD_eq_getElem?_getD, q3 i (by omega)]
        rfl
      rw [if_pos (by omega), if_pos (by omega), if_pos e, w64 (by omega) (by omega), w64 (by omega) (by omega)]
      congr 1 <;> omega) (fun s hp => by
      refine ev_now fun k => ?_
      simp only [laws_heldIntS.l0]
      rw [if_neg (by omega)]
      congr 1 <;> omega) 0 1 (Nat.zero_le _) rfl
  exact h2
/-- All numbers of a list are in a range. -/
def allOk (l : List Int) (a b : Int) : Bool := l.all fun x => decide (a ≤ x ∧ x ≤ b)
theorem allOk_mem {l : List Int} {a b : Int} (h : allOk l a b = true) : ∀ x ∈ l, a ≤ x ∧ x ≤ b := by
  intro x hx
  simpa using (List.all_eq_true.1 h) x hx
theorem allIn_f (l : List Int) (a b : Int) : impl_allIn.f l a b = some (allOk l a b) := rfl
/-- The reference's loop that asks the same. -/
theorem all_loop {R : Type} (F : Nat → Int → Option R) (l : List Int) (a b : Int) (r0 r1 : R)
    (hstep : ∀ (k : Nat) (i : Nat), i < l.length → F (k + 1) (i : Int) = if (decide (a ≤ rd l (i : Int) ∧ rd l (i : Int) ≤ b)) = true then F k ((i : Int) + 1) else some r0)
    (hend : ∀ (k : Nat), F (k + 1) (l.length : Int) = some r1) : Ev (fun k => F k 0) (if allOk l a b = true then r1 else r0) := by
  have h := ev_all F l.length (fun i => decide (a ≤ l.getD i 0 ∧ l.getD i 0 ≤ b)) r0 r1 (fun k i hi => by rw [hstep k i hi, rd_eq]) hend
  have e := all_range l 0 (fun x => decide (a ≤ x ∧ x ≤ b))
  rw [e] at h
  exact h
theorem bv_andnot (a b : BitVec 64) : a &&& ~~~b = 0#64 ↔ a ||| b = b := by
  constructor
  · intro h
    apply BitVec.eq_of_getLsbD_eq
    intro i hi
    have := congrArg (fun v : BitVec 64 => v.getLsbD i) h
    simp only [BitVec.getLsbD_and, BitVec.getLsbD_not, BitVec.getLsbD_zero, hi, decide_true, Bool.true_and] at this
    rw [BitVec.getLsbD_or]
    cases ha : a.getLsbD i <;> cases hb : b.getLsbD i <;> simp_all
  · intro h
    apply BitVec.eq_of_getLsbD_eq
    intro i hi
    have := congrArg (fun v : BitVec 64 => v.getLsbD i) h
    simp only [BitVec.getLsbD_or] at this
    simp only [BitVec.getLsbD_and, BitVec.getLsbD_not, BitVec.getLsbD_zero, hi, decide_true, Bool.true_and]
    cases ha : a.getLsbD i <;> cases hb : b.getLsbD i <;> simp_all
theorem or_nat (a b : Nat) (ha : a ≤ 255) (hb : b ≤ 255) : Go.bits .or .i64 (a : Int) (b : Int) = ((a ||| b : Nat) : Int) :=
  (bits_nat .i64 8 (by decide) (fun n h0 h1 => by rw [IntKind.wrap_i64]; omega) a b (by omega) (by omega)).2
theorem or_lt (a b : Nat) (ha : a ≤ 255) (hb : b ≤ 255) : a ||| b ≤ 255 := by
  have := Nat.or_lt_two_pow (n := 8) (x := a) (y := b) (by omega) (by omega)
  omega
theorem or_range (x y : Int) (hx : 0 ≤ x ∧ x ≤ 255) (hy : 0 ≤ y ∧ y ≤ 255) : 0 ≤ Go.bits .or .i64 x y ∧ Go.bits .or .i64 x y ≤ 255 := by
  obtain ⟨a, rfl⟩ := Int.eq_ofNat_of_zero_le hx.1
  obtain ⟨b, rfl⟩ := Int.eq_ofNat_of_zero_le hy.1
  rw [or_nat a b (by omega) (by omega)]
  have := or_lt a b (by omega) (by omega)
  omega
theorem andnot_iff (x y : Int) (hx : 0 ≤ x ∧ x ≤ 255) (hy : 0 ≤ y ∧ y ≤ 255) : Go.bits .andNot .i64 x y = 0 ↔ Go.bits .or .i64 x y = y := by
  obtain ⟨a, rfl⟩ := Int.eq_ofNat_of_zero_le hx.1
  obtain ⟨b, rfl⟩ := Int.eq_ofNat_of_zero_le hy.1
  have e1 : Go.bits .andNot .i64 (a : Int) (b : Int) = IntKind.i64.wrap (((BitVec.ofInt 64 (a : Int)) &&& ~~~(BitVec.ofInt 64 (b : Int))).toNat : Int) := rfl
  have e2 : (IntKind.i64.wrap (((BitVec.ofInt 64 (a : Int)) &&& ~~~(BitVec.ofInt 64 (b : Int))).toNat : Int) = 0) ↔ (BitVec.ofInt 64 (a : Int)) &&& ~~~(BitVec.ofInt 64 (b : Int)) = 0#64 := by
    rw [IntKind.wrap_i64]
    constructor
    · intro h
      apply BitVec.eq_of_toNat_eq
      have := ((BitVec.ofInt 64 (a : Int)) &&& ~~~(BitVec.ofInt 64 (b : Int))).isLt
      simp only [BitVec.toNat_ofNat]
      generalize ((BitVec.ofInt 64 (a : Int)) &&& ~~~(BitVec.ofInt 64 (b : Int))).toNat = q at *
      omega
    · intro h
      rw [h]
      decide
  rw [e1, e2, bv_andnot, or_nat a b (by omega) (by omega)]
  constructor
  · intro h
    have := congrArg BitVec.toNat h
    rw [BitVec.toNat_or, BitVec.ofInt_natCast, BitVec.ofInt_natCast, BitVec.toNat_ofNat, BitVec.toNat_ofNat, Nat.mod_eq_of_lt (by omega), Nat.mod_eq_of_lt (by omega)] at this
    omega
  · intro h
    apply BitVec.eq_of_toNat_eq
    rw [BitVec.toNat_or, BitVec.ofInt_natCast, BitVec.ofInt_natCast, BitVec.toNat_ofNat, BitVec.toNat_ofNat, Nat.mod_eq_of_lt (by omega), Nat.mod_eq_of_lt (by omega)]
    omega
def pop (n : Nat) : Int := ((List.range 8).map fun k => ((n / 2 ^ k % 2 : Nat) : Int)).sum
theorem pop_bd (n : Nat) : 0 ≤ pop n ∧ pop n ≤ 8 := by
  unfold pop
  simp [List.range, List.range.loop]
  omega
def costV (x y : Int) : Int := if (0 ≤ x ∧ x ≤ 255) ∧ (0 ≤ y ∧ y ≤ 255) then (if Go.bits .or .i64 x y = y then 0 else 5 + pop x.toNat) else -1
theorem costV_bd (x y : Int) : -1 ≤ costV x y ∧ costV x y ≤ 13 := by
  have := pop_bd x.toNat
  unfold costV
  split
  · split <;> omega
  · omega
theorem cost_all : ((List.range 256).all fun n => decide (spec_CleanCost.l0 9 (n : Int) 5 0 = some (5 + pop n))) = true := by decide +kernel
theorem costS (x y : Int) : Ev (fun k => spec_CleanCost.f k x y) (costV x y) := by
  unfold spec_CleanCost.f costV
  simp only [l01In_f, Option.bind_some, decide_eq_true_eq]
  by_cases c1 : 0 ≤ x ∧ x ≤ 255
  · simp only [if_pos c1]
    by_cases c2 : 0 ≤ y ∧ y ≤ 255
    · rw [if_pos ⟨c1, c2⟩]
      refine ev_next (f := fun k => if Go.bits .or .i64 x y = y then some 0 else spec_CleanCost.l0 k x 5 0) (fun k => ?_) _ ?_
      · simp only [spec_CleanCost.j0]
        rw [if_neg (by simp; omega)]
      · by_cases c : Go.bits .or .i64 x y = y
        · simp only [if_pos c]
          exact Ev.now _
        · simp only [if_neg c]
          have h := (List.all_eq_true.1 cost_all) x.toNat (List.mem_range.2 (by omega))
          rw [decide_eq_true_eq, show ((x.toNat : Nat) : Int) = x by omega] at h
          exact Ev.of (fun k => (spec_CleanCost.mono_l k).2 _ _ _) h
    · rw [if_neg (fun h => c2 h.2)]
      exact ev_now fun k => by simp only [spec_CleanCost.j0]; rw [if_pos (by simp; omega)]
  · simp only [if_neg c1]
    rw [if_neg (fun h => c1 h.1)]
    exact ev_now fun k => rfl
theorem ones_all : ((List.range 256).all fun n => decide (bits_OnesCount.f (IntKind.u64.wrap (n : Int)) = some (pop n))) = true := by decide +kernel
theorem costI (x y : Int) : Ev (fun k => impl_CleanCost.f k x y) (costV x y) := by
  unfold impl_CleanCost.f impl_isThings.f costV
  simp only [in_f, Option.bind_some, decide_eq_true_eq]
  by_cases c1 : 0 ≤ x ∧ x ≤ 255
  · simp only [if_pos c1]
    by_cases c2 : 0 ≤ y ∧ y ≤ 255
    · rw [if_pos ⟨c1, c2⟩]
      refine ev_now fun k => ?_
      simp only [impl_CleanCost.j0]
      rw [if_neg (by simp; omega)]
      by_cases c : Go.bits .or .i64 x y = y
      · rw [if_pos ((andnot_iff x y c1 c2).2 c), if_pos c]
      · rw [if_neg (fun h => c ((andnot_iff x y c1 c2).1 h)), if_neg c]
        have h := (List.all_eq_true.1 ones_all) x.toNat (List.mem_range.2 (by omega))
        rw [decide_eq_true_eq, show ((x.toNat : Nat) : Int) = x by omega] at h
        rw [h]
        have := pop_bd x.toNat
        simp only [Option.bind_some]
        rw [w64 (by omega) (by omega)]
    · rw [if_neg (fun h => c2 h.2)]
      exact ev_now fun k => by simp only [impl_CleanCost.j0]; rw [if_pos (by simp; omega)]
  · simp only [if_neg c1]
    rw [if_neg (fun h => c1 h.1)]
    exact ev_now fun k => rfl
theorem l16_f (l : List Int) (m : Int) (hb : l.length ≤ 1048576) : Ev (fun k => spec_l16Ok.f k l m) (allOk l 0 255 && decide ((l.length : Int) ≤ m)) := by
  unfold spec_l16Ok.f
  have h := all_loop (fun k i => spec_l16Ok.l0 k l m i) l 0 255 false (decide ((l.length : Int) ≤ m)) (fun k i hi => by
    simp (disch := omega) only [spec_l16Ok.l0, l01In_f, Option.bind_some, if_pos, w64]) (fun k => by
    simp only [spec_l16Ok.l0]
    rw [if_neg (by omega)])
  cases c : allOk l 0 255
  · rw [c] at h
    simpa using h
  · rw [c] at h
    simpa using h
def doughsOk (l : List Int) : Bool := allOk l 0 255 && decide ((l.length : Int) ≤ 8)
theorem doughsI (l : List Int) : impl_areDoughs.f l = some (doughsOk l) := by
  unfold impl_areDoughs.f doughsOk
  rw [allIn_f]
  by_cases c : (l.length : Int) ≤ 8
  · rw [if_pos c]
    simp [c]
  · rw [if_neg c]
    simp [c]
theorem doughsOk_iff (l : List Int) : doughsOk l = true ↔ (∀ x ∈ l, 0 ≤ x ∧ x ≤ 255) ∧ l.length ≤ 8 := by
  unfold doughsOk
  rw [Bool.and_eq_true, decide_eq_true_eq]
  constructor
  · intro h
    exact ⟨allOk_mem h.1, by omega⟩
  · intro h
    refine ⟨?_, by omega⟩
    unfold allOk
    rw [List.all_eq_true]
    intro x hx
    simpa using h.1 x hx
theorem all_no (p : Nat → Bool) {n i : Nat} (hi : i < n) (h : p i = false) : (List.range n).all p = false := by
  rw [Bool.eq_false_iff]
  intro ha
  have := (List.all_eq_true.1 ha) i (List.mem_range.2 hi)
  rw [h] at this
  cases this
theorem all_more (p : Nat → Bool) {n : Nat} (h : (List.range n).all p = true) (hp : p n = true) : (List.range (n + 1)).all p = true := by
  rw [List.range_succ, List.all_append, h]
  simp [hp]
theorem all_at {p : Nat → Bool} {n i : Nat} (h : (List.range n).all p = true) (hi : i < n) : p i = true := (List.all_eq_true.1 h) i (List.mem_range.2 hi)
/-- Place i of an order names a number below n that no place before it names. -/
def okAt (l : List Int) (n : Int) (i : Nat) : Bool := decide ((0 ≤ l.getD i 0 ∧ l.getD i 0 ≤ n - 1) ∧ l.getD i 0 ∉ l.take i)
def stepC (cost : Int → Int → Int) (d l : List Int) (k : Nat) : Int := if k = 0 then 0 else cost (d.getD (l.getD (k - 1) 0).toNat 0) (d.getD (l.getD k 0).toNat 0)
def sumC (cost : Int → Int → Int) (d l : List Int) (n : Nat) : Int := ((List.range n).map (stepC cost d l)).sum
theorem sumC_succ (cost : Int → Int → Int) (d l : List Int) (n : Nat) : sumC cost d l (n + 1) = sumC cost d l n + stepC cost d l n := by
  unfold sumC
  rw [List.range_succ, List.map_append, List.sum_append]
  simp
theorem sumC_bd (cost : Int → Int → Int) (d l : List Int) (b : Int) (hc : ∀ x y, -1 ≤ cost x y ∧ cost x y ≤ b) (hb : 0 ≤ b) (n : Nat) : -(n : Int) ≤ sumC cost d l n ∧ sumC cost d l n ≤ b * n := by
  induction n with
  | zero => simp [sumC]
  | succ n ih =>
    rw [sumC_succ]
    have h1 : -1 ≤ stepC cost d l n ∧ stepC cost d l n ≤ b := by
      unfold stepC
      split
      · omega
      · exact hc _ _
    have e : b * ((n + 1 : Nat) : Int) = b * n + b := by rw [Int.natCast_add, Int.mul_add]; simp
    rw [e]
    omega
theorem mem_take_succ (l : List Int) (i : Nat) (hi : i < l.length) (x : Int) : x ∈ l.take (i + 1) ↔ x ∈ l.take i ∨ x = l.getD i 0 := by
  rw [List.take_succ_eq_append_getElem hi, List.mem_append, List.mem_singleton, List.getD_eq_getElem?_getD, List.getElem?_eq_getElem hi]
  rfl
theorem index_f (l : List Int) (a : Int) (hb : l.length ≤ 1048576) : ∃ r, (r ≥ 0 ↔ a ∈ l) ∧ Ev (fun k => slices_Index_int_int.f k l a) r := by
  unfold slices_Index_int_int.f
  have h := ev_up (fun k (_ : Unit) i => slices_Index_int_int.l0 k l a (l.length : Int) i) l.length (fun i _ => ∀ j, j < i → l.getD j 0 ≠ a) (fun r => r ≥ 0 ↔ a ∈ l) (fun i _ hi hp => by
      by_cases c : a = l.getD i 0
      · refine .inr ⟨(i : Int), ⟨fun _ => ?_, fun _ => by omega⟩, ev_now fun k => ?_⟩
        · rw [c, List.getD_eq_getElem?_getD, List.getElem?_eq_getElem hi]
          exact List.getElem_mem hi
        · simp only [slices_Index_int_int.l0]
          rw [if_pos (by omega), if_pos (by omega), if_pos (by omega), rd_eq, if_pos c]
      · refine .inl ⟨(), fun j hj => ?_, fun r hr => ev_next (fun k => ?_) r hr⟩
        · by_cases d : j = i
          · subst d
            exact fun h => c h.symm
          · exact hp j (by omega)
        · simp only [slices_Index_int_int.l0]
          rw [if_pos (by omega), if_pos (by omega), if_pos (by omega), rd_eq, if_neg c, w64 (by omega) (by omega)]) (fun _ hp => by
      refine ⟨-1, ⟨fun h => by omega, fun h => ?_⟩, ev_now fun k => ?_⟩
      · obtain ⟨j, hj, e⟩ := List.getElem_of_mem h
        refine absurd ?_ (hp j hj)
        rw [List.getD_eq_getElem?_getD, List.getElem?_eq_getElem hj]
        exact e
      · simp only [slices_Index_int_int.l0]
        rw [if_neg (by omega)]) 0 () (Nat.zero_le _) (fun j hj => by omega)
  exact h
theorem contains_f (l : List Int) (a : Int) (hb : l.length ≤ 1048576) : Ev (fun k => slices_Contains_int_int.f k l a) (decide (a ∈ l)) := by
  obtain ⟨r, h1, h2⟩ := index_f l a hb
  unfold slices_Contains_int_int.f
  refine Ev.bind h2 ?_
  rw [show decide (a ∈ l) = decide (r ≥ 0) from by simp only [h1]]
  exact Ev.now _
theorem isOrderI (l : List Int) (n : Int) (hb : l.length ≤ 1048576) (hn : 0 ≤ n ∧ n ≤ 1048576) : Ev (fun k => impl_isOrder.f k l n) ((List.range l.length).all (okAt l n) && decide ((l.length : Int) = n)) := by
  unfold impl_isOrder.f
  have hw : wrap64 (n - 1) = n - 1 := w64 (by omega) (by omega)
  have h := ev_to (fun k (_ : Unit) i => impl_isOrder.l0 k l n l (l.length : Int) i) l.length (fun i _ => (List.range i).all (okAt l n) = true) ((List.range l.length).all (okAt l n) && decide ((l.length : Int) = n)) (fun i _ hi hp => by
      have hi' : (i : Int) < (l.length : Int) := by omega
      have hi0 : (0 : Int) ≤ (i : Int) := by omega
      have hi2 : (i : Int) ≤ (l.length : Int) := by omega
      have hbody : ∀ r, Ev (fun k => (if 0 ≤ l.getD i 0 ∧ l.getD i 0 ≤ n - 1 then ((slices_Contains_int_int.f k (l.take i) (l.getD i 0)).bind fun t138 => (if t138 = true then (some false) else (impl_isOrder.l0 k l n l (l.length : Int) ((i : Int) + 1)))) else (some false))) r → Ev (fun k => impl_isOrder.l0 k l n l (l.length : Int) (i : Int)) r := fun r h => ev_next (fun k => by
        simp only [impl_isOrder.l0, in_f, Option.bind_some, decide_eq_true_eq, hw, rd_eq]
        rw [if_pos hi', if_pos hi0, if_pos hi', if_pos hi2, w64 (x := (i : Int) + 1) (by omega) (by omega), Int.toNat_natCast]) r h
      have hlt : (l.take i).length ≤ 1048576 := by rw [List.length_take]; omega
      by_cases c1 : 0 ≤ l.getD i 0 ∧ l.getD i 0 ≤ n - 1
      · by_cases c2 : l.getD i 0 ∈ l.take i
        · refine .inr (hbody _ ?_)
          rw [all_no (okAt l n) hi (by unfold okAt; exact decide_eq_false fun h => h.2 c2), Bool.false_and]
          simp only [if_pos c1]
          refine Ev.bind (contains_f (l.take i) (l.getD i 0) hlt) ?_
          rw [decide_eq_true c2]
          simp only [if_true]
          exact Ev.now _
        · refine .inl ⟨(), all_more _ hp (by unfold okAt; exact decide_eq_true ⟨c1, c2⟩), fun r hr => hbody r ?_⟩
          simp only [if_pos c1]
          refine Ev.bind (contains_f (l.take i) (l.getD i 0) hlt) ?_
          rw [decide_eq_false c2]
          simp only [Bool.false_eq_true, if_false]
          exact hr
      · refine .inr (hbody _ ?_)
        rw [all_no (okAt l n) hi (by unfold okAt; exact decide_eq_false fun h => c1 h.1), Bool.false_and]
        simp only [if_neg c1]
        exact Ev.now _) (fun _ hp => ev_now fun k => by
      simp only [impl_isOrder.l0]
      rw [if_neg (by omega), hp, Bool.true_and]
      rfl) 0 () (Nat.zero_le _) rfl
  exact h
def dayV (d l : List Int) : Int := if doughsOk d = true ∧ (l.length : Int) = (d.length : Int) ∧ (List.range l.length).all (okAt l (d.length : Int)) = true then sumC costV d l l.length else -1
theorem okAt_in {l : List Int} {n : Int} {i : Nat} (h : okAt l n i = true) : 0 ≤ l.getD i 0 ∧ l.getD i 0 ≤ n - 1 := (of_decide_eq_true h).1
theorem dayI (d l : List Int) (hb : l.length ≤ 1048576) : Ev (fun k => impl_DayCost.f k d l) (dayV d l) := by
  unfold impl_DayCost.f
  simp only [doughsI, Option.bind_some]
  by_cases c1 : doughsOk d = true
  · have hd := ((doughsOk_iff d).1 c1).2
    simp only [if_pos c1]
    refine Ev.bind (isOrderI l (d.length : Int) hb (by omega)) ?_
    by_cases c2 : ((List.range l.length).all (okAt l (d.length : Int)) && decide ((l.length : Int) = (d.length : Int))) = true
    · rw [c2]
      rw [Bool.and_eq_true, decide_eq_true_eq] at c2
      obtain ⟨c2, c3⟩ := c2
      unfold dayV
      rw [if_pos ⟨c1, c3, c2⟩]
      refine ev_next (f := fun k => impl_DayCost.l0 k d l 0 1) (fun k => by simp only [impl_DayCost.j0]; rw [if_neg (by decide)]) _ ?_
      by_cases c4 : l.length = 0
      · rw [c4]
        exact ev_now fun k => by simp only [impl_DayCost.l0]; rw [if_neg (by omega)]; rfl
      · have h := ev_to (fun k (s : Int) i => impl_DayCost.l0 k d l s i) l.length (fun i s => 1 ≤ i ∧ s = sumC costV d l i) (sumC costV d l l.length) (fun i s hi hp => by
          obtain ⟨p1, p2⟩ := hp
          have o1 := okAt_in (all_at c2 (show i - 1 < l.length by omega))
          have o2 := okAt_in (all_at c2 hi)
          refine .inl ⟨sumC costV d l (i + 1), ⟨by omega, rfl⟩, fun r hr => ?_⟩
          have e1 : (i : Int) - 1 = ((i - 1 : Nat) : Int) := by omega
          have bd1 := sumC_bd costV d l 13 costV_bd (by omega) i
          have bd2 := costV_bd (d.getD (l.getD (i - 1) 0).toNat 0) (d.getD (l.getD i 0).toNat 0)
          have es : stepC costV d l i = costV (d.getD (l.getD (i - 1) 0).toNat 0) (d.getD (l.getD i 0).toNat 0) := by
            unfold stepC
            rw [if_neg (by omega)]
          refine ev_next (f := fun k => (impl_CleanCost.f k (d.getD (l.getD (i - 1) 0).toNat 0) (d.getD (l.getD i 0).toNat 0)).bind fun t145 => (impl_DayCost.l0 k d l (wrap64 (s + t145)) ((i : Int) + 1))) (fun k => ?_) r ?_
          · simp only [impl_DayCost.l0]
            rw [if_pos (by omega), w64 (x := (i : Int) - 1) (by omega) (by omega), if_pos (by omega), if_pos (by omega), e1, rd_eq l, rd_eq l, if_pos o1.1, if_pos (by omega), if_pos (by omega), if_pos o2.1, if_pos (by omega), w64 (x := (i : Int) + 1) (by omega) (by omega)]
            rfl
          · refine Ev.bind (costI _ _) ?_
            rw [w64 (by omega) (by omega), p2, ← es, ← sumC_succ]
            exact hr) (fun s hp => ev_now fun k => by
          simp only [impl_DayCost.l0]
          rw [if_neg (by omega), hp.2]) 1 0 (by omega) ⟨by omega, rfl⟩
        exact h
    · rw [Bool.eq_false_iff.2 c2]
      unfold dayV
      rw [if_neg (fun h => c2 (by rw [Bool.and_eq_true, decide_eq_true_eq]; exact ⟨h.2.2, h.2.1⟩))]
      exact ev_now fun k => by simp [impl_DayCost.j0]
  · simp only [if_neg c1]
    unfold dayV
    rw [if_neg (fun h => c1 h.1)]
    exact ev_now fun k => by simp [impl_DayCost.j0]
def pick (x : Int → Int) (P : Int → Bool) (l : List Int) : Option (Int × Int) :=
  l.foldl (fun s k => if P k = true then (match s with | none => some (k, x k) | some (b, m) => if x k < m then some (k, x k) else some (b, m)) else s) none
theorem pick_snoc (x : Int → Int) (P : Int → Bool) (l : List Int) (k : Int) : pick x P (l ++ [k]) = if P k = true then (match pick x P l with | none => some (k, x k) | some (b, m) => if x k < m then some (k, x k) else some (b, m)) else pick x P l := by
  unfold pick
  rw [List.foldl_append]
  rfl
theorem pick_mem (x : Int → Int) (P : Int → Bool) : ∀ (n : Nat) (k m : Int), pick x P (idxs n) = some (k, m) → (0 ≤ k ∧ k < n) ∧ P k = true ∧ m = x k
  | 0, k, m, h => by simp [idxs, pick] at h
  | n + 1, k, m, h => by
    rw [idxs_succ, pick_snoc] at h
    by_cases c : P (n : Int) = true
    · rw [if_pos c] at h
      cases e : pick x P (idxs n) with
      | none =>
        rw [e] at h
        simp only [Option.some.injEq, Prod.mk.injEq] at h
        obtain ⟨rfl, rfl⟩ := h
        exact ⟨by omega, c, rfl⟩
      | some q =>
        obtain ⟨b, l⟩ := q
        rw [e] at h
        simp only at h
        by_cases d : x (n : Int) < l
        · rw [if_pos d] at h
          simp only [Option.some.injEq, Prod.mk.injEq] at h
          obtain ⟨rfl, rfl⟩ := h
          exact ⟨by omega, c, rfl⟩
        · rw [if_neg d] at h
          simp only [Option.some.injEq, Prod.mk.injEq] at h
          obtain ⟨rfl, rfl⟩ := h
          have := pick_mem x P n b l e
          exact ⟨by omega, this.2⟩
    · rw [if_neg c] at h
      have := pick_mem x P n k m h
      exact ⟨by omega, this.2⟩
theorem pick_some (x : Int → Int) (P : Int → Bool) : ∀ (n : Nat) (i : Int), 0 ≤ i → i < n → P i = true → ∃ k m, pick x P (idxs n) = some (k, m)
  | 0, i, h0, h1, _ => by omega
  | n + 1, i, h0, h1, hp => by
    rw [idxs_succ, pick_snoc]
    by_cases c : i = (n : Int)
    · subst c
      rw [if_pos hp]
      cases e : pick x P (idxs n) with
      | none => exact ⟨_, _, rfl⟩
      | some q =>
        obtain ⟨b, l⟩ := q
        simp only
        by_cases d : x (n : Int) < l
        · rw [if_pos d]
          exact ⟨_, _, rfl⟩
        · rw [if_neg d]
          exact ⟨_, _, rfl⟩
    · obtain ⟨k, m, e⟩ := pick_some x P n i h0 (by omega) hp
      rw [e]
      by_cases d : P (n : Int) = true
      · rw [if_pos d]
        simp only
        by_cases f : x (n : Int) < m
        · rw [if_pos f]
          exact ⟨_, _, rfl⟩
        · rw [if_neg f]
          exact ⟨_, _, rfl⟩
      · rw [if_neg d]
        exact ⟨_, _, rfl⟩
theorem pick_congr (x y : Int → Int) (P : Int → Bool) (n : Nat) (h : ∀ k, 0 ≤ k → k < (n : Int) → P k = true → x k = y k) : pick x P (idxs n) = pick y P (idxs n) := by
  induction n with
  | zero => rfl
  | succ n ih =>
    rw [idxs_succ, pick_snoc, pick_snoc, ih (fun k h0 h1 => h k h0 (by omega))]
    by_cases c : P (n : Int) = true
    · rw [if_pos c, if_pos c, h (n : Int) (by omega) (by omega) c]
    · rw [if_neg c, if_neg c]
def vmeet (s t : Option (List Int × Int)) : Option (List Int × Int) :=
  match t with
  | none => s
  | some (o, c) => match s with
    | none => some (o, c)
    | some (b, l) => if c < l then some (o, c) else some (b, l)
theorem vstep_meet (cost : List Int → Int) (s : Option (List Int × Int)) (o : List Int) : vstep cost s o = vmeet s (some (o, cost o)) := by
  unfold vstep vmeet
  rcases s with _ | ⟨b, l⟩ <;> rfl
theorem vmeet_assoc (s t u : Option (List Int × Int)) : vmeet (vmeet s t) u = vmeet s (vmeet t u) := by
  rcases s with _ | ⟨b, l⟩ <;> rcases t with _ | ⟨b', l'⟩ <;> rcases u with _ | ⟨b'', l''⟩ <;> try rfl
  · simp only [vmeet]
    by_cases c : l'' < l' <;> simp only [c, if_true, if_false]
  · simp only [vmeet]
    by_cases c : l' < l <;> by_cases d : l'' < l' <;> by_cases e : l'' < l <;> simp only [c, d, e, if_true, if_false] <;> first | rfl | (exfalso; omega)
theorem vfold_meet (cost : List Int → Int) (L : List (List Int)) (s : Option (List Int × Int)) : L.foldl (vstep cost) s = vmeet s (L.foldl (vstep cost) none) := by
  induction L generalizing s with
  | nil => rfl
  | cons o L ih =>
    rw [List.foldl_cons, List.foldl_cons, ih, ih (vstep cost none o), vstep_meet, vstep_meet, vmeet_assoc]
    rfl
/-- The least one, and the first of them. -/
theorem vfold_least (cost : List Int → Int) (L : List (List Int)) (hL : L ≠ []) : ∃ b, L.foldl (vstep cost) none = some (b, cost b) ∧ b ∈ L ∧ ∀ o ∈ L, cost b ≤ cost o := by
  induction L with
  | nil => exact absurd rfl hL
  | cons o L ih =>
    rw [List.foldl_cons, vfold_meet]
    by_cases h : L = []
    · subst h
      exact ⟨o, rfl, List.mem_cons_self, fun x hx => by rw [List.mem_singleton.1 hx]; exact Int.le_refl _⟩
    · obtain ⟨b, e, hb, hm⟩ := ih h
      rw [e]
      show ∃ b', (if cost b < cost o then some (b, cost b) else some (o, cost o)) = _ ∧ _
      by_cases c : cost b < cost o
      · rw [if_pos c]
        refine ⟨b, rfl, List.mem_cons_of_mem _ hb, fun x hx => ?_⟩
        rcases List.mem_cons.1 hx with rfl | hx
        · omega
        · exact hm x hx
      · rw [if_neg c]
        refine ⟨o, rfl, List.mem_cons_self, fun x hx => ?_⟩
        rcases List.mem_cons.1 hx with rfl | hx
        · exact Int.le_refl _
        · have := hm x hx
          omega
theorem nodup_length {α : Type} [DecidableEq α] : ∀ (l m : List α), l.Nodup → l ⊆ m → l.length ≤ m.length
  | [], _, _, _ => Nat.zero_le _
  | x :: l, m, hn, hs => by
    rw [List.nodup_cons] at hn
    have hx : x ∈ m := hs List.mem_cons_self
    have h := nodup_length l (m.erase x) hn.2 (fun y hy => (List.mem_erase_of_ne (fun e => hn.1 (by rw [← e]; exact hy))).2 (hs (List.mem_cons_of_mem _ hy)))
    rw [List.length_erase_of_mem hx] at h
    have := List.length_pos_of_mem hx
    rw [List.length_cons]
    omega
/-- What the orders are. -/
structure Pre (n : Nat) (pre : List Int) : Prop where
  nodup : pre.Nodup
  rng : ∀ x ∈ pre, 0 ≤ x ∧ x < n
theorem Pre.nil (n : Nat) : Pre n [] := ⟨List.nodup_nil, by simp⟩
theorem Pre.snoc {n : Nat} {pre : List Int} (h : Pre n pre) {i : Int} (h0 : 0 ≤ i) (h1 : i < n) (hn : i ∉ pre) : Pre n (pre ++ [i]) := by
  refine ⟨?_, fun x hx => ?_⟩
  · rw [List.nodup_append]
    refine ⟨h.nodup, by simp, fun a ha b hb => ?_⟩
    rw [List.mem_singleton.1 hb]
    rintro rfl
    exact hn ha
  · rcases List.mem_append.1 hx with hx | hx
    · exact h.rng x hx
    · rw [List.mem_singleton.1 hx]
      exact ⟨h0, h1⟩
theorem Pre.subset_length {n : Nat} {pre : List Int} (h : Pre n pre) : pre.length ≤ n := by
  have : pre ⊆ idxs n := fun x hx => mem_idxs.2 (h.rng x hx)
  have := nodup_length _ _ h.nodup this
  rwa [idxs_length] at this
theorem Pre.full {n : Nat} {pre : List Int} (h : Pre n pre) (hl : pre.length = n) : ∀ i, 0 ≤ i → i < (n : Int) → i ∈ pre := by
  intro i h0 h1
  by_cases hm : i ∈ pre
  · exact hm
  · have := (h.snoc h0 h1 hm).subset_length
    simp at this
    omega
theorem Pre.miss {n : Nat} {pre : List Int} (h : Pre n pre) (hl : pre.length < n) : ∃ i, 0 ≤ i ∧ i < (n : Int) ∧ i ∉ pre := by
  apply Classical.byContradiction
  intro hc
  have hs : idxs n ⊆ pre := fun x hx => by
    apply Classical.byContradiction
    intro hx'
    have := mem_idxs.1 hx
    exact hc ⟨x, this.1, this.2, hx'⟩
  have hnd : (idxs n).Nodup := by
    unfold idxs
    rw [List.nodup_iff_pairwise_ne, List.pairwise_map]
    exact (List.nodup_range).imp (fun h e => h (by omega))
  have := nodup_length _ _ hnd hs
  rw [idxs_length] at this
  omega
theorem comps_mem {n : Nat} : ∀ (f : Nat) (pre : List Int), Pre n pre → ∀ o, o ∈ comps n f pre ↔ (∃ t, o = pre ++ t ∧ t.length = f) ∧ Pre n o
  | 0, pre, hp, o => by
    unfold comps
    rw [List.mem_singleton]
    constructor
    · rintro rfl
      exact ⟨⟨[], by simp, rfl⟩, hp⟩
    · rintro ⟨⟨t, rfl, ht⟩, _⟩
      rw [List.eq_nil_of_length_eq_zero ht, List.append_nil]
  | f + 1, pre, hp, o => by
    unfold comps
    rw [List.mem_flatMap]
    constructor
    · rintro ⟨i, hi, ho⟩
      by_cases c : i ∈ pre
      · rw [if_pos c] at ho
        simp at ho
      · rw [if_neg c] at ho
        obtain ⟨h0, h1⟩ := mem_idxs.1 hi
        obtain ⟨⟨t, rfl, ht⟩, h2⟩ := (comps_mem f _ (hp.snoc h0 h1 c) o).1 ho
        exact ⟨⟨i :: t, by simp, by simp [ht]⟩, h2⟩
    · rintro ⟨⟨t, rfl, ht⟩, h2⟩
      cases t with
      | nil => simp at ht
      | cons i t =>
        have hnd := h2.nodup
        rw [List.nodup_append] at hnd
        have c : i ∉ pre := fun hm => hnd.2.2 i hm i (by simp) rfl
        obtain ⟨h0, h1⟩ := h2.rng i (by simp)
        refine ⟨i, mem_idxs.2 ⟨h0, h1⟩, ?_⟩
        rw [if_neg c]
        exact (comps_mem f _ (hp.snoc h0 h1 c) _).2 ⟨⟨t, by simp, by simpa using ht⟩, h2⟩
theorem comps_all {n : Nat} (o : List Int) : o ∈ comps n n [] ↔ o.length = n ∧ Pre n o := by
  rw [comps_mem n [] (Pre.nil n)]
  constructor
  · rintro ⟨⟨t, rfl, ht⟩, h⟩
    exact ⟨by simpa using ht, h⟩
  · rintro ⟨h, h2⟩
    exact ⟨⟨o, by simp, h⟩, h2⟩
theorem comps_ne {n : Nat} : ∀ (f : Nat) (pre : List Int), Pre n pre → pre.length + f = n → comps n f pre ≠ []
  | 0, pre, _, _ => by simp [comps]
  | f + 1, pre, hp, hl => by
    obtain ⟨i, h0, h1, hm⟩ := hp.miss (by omega)
    have := comps_ne f (pre ++ [i]) (hp.snoc h0 h1 hm) (by simp; omega)
    obtain ⟨o, ho⟩ := List.exists_mem_of_ne_nil _ this
    intro he
    have hin : o ∈ comps n (f + 1) pre := by
      unfold comps
      rw [List.mem_flatMap]
      exact ⟨i, mem_idxs.2 ⟨h0, h1⟩, by rw [if_neg hm]; exact ho⟩
    rw [he] at hin
    simp at hin
def maskOf (pre : List Int) : Nat := pre.foldl (fun s k => s ||| 2 ^ k.toNat) 0
theorem maskOf_snoc (pre : List Int) (k : Int) : maskOf (pre ++ [k]) = maskOf pre ||| 2 ^ k.toNat := by
  unfold maskOf
  rw [List.foldl_append]
  rfl
theorem mask_bits (pre : List Int) (h : ∀ x ∈ pre, 0 ≤ x) (j : Nat) : ∀ s : Nat, (pre.foldl (fun s k => s ||| 2 ^ k.toNat) s).testBit j = (s.testBit j || decide ((j : Int) ∈ pre)) := by
  induction pre with
  | nil => intro s; simp
  | cons x pre ih =>
    intro s
    rw [List.foldl_cons, ih (fun y hy => h y (List.mem_cons_of_mem _ hy)), Nat.testBit_or, Nat.testBit_two_pow]
    have h0 := h x List.mem_cons_self
    rw [Bool.or_assoc]
    congr 1
    rw [← Bool.decide_or, decide_eq_decide, List.mem_cons]
    constructor
    · rintro (h | h)
      · exact .inl (by omega)
      · exact .inr h
    · rintro (h | h)
      · exact .inl (by omega)
      · exact .inr h
theorem maskOf_bit (pre : List Int) (h : ∀ x ∈ pre, 0 ≤ x) (j : Nat) : (maskOf pre).testBit j = decide ((j : Int) ∈ pre) := by
  unfold maskOf
  rw [mask_bits pre h j 0]
  simp
theorem maskOf_lt (n : Nat) (pre : List Int) (h : ∀ x ∈ pre, 0 ≤ x ∧ x < n) : maskOf pre < 2 ^ n := by
  unfold maskOf
  have : ∀ (pre : List Int) (s : Nat), (∀ x ∈ pre, 0 ≤ x ∧ x < n) → s < 2 ^ n → pre.foldl (fun s k => s ||| 2 ^ k.toNat) s < 2 ^ n := by
    intro pre
    induction pre with
    | nil => intro s _ h; exact h
    | cons x pre ih =>
      intro s h hs
      rw [List.foldl_cons]
      have hx := h x List.mem_cons_self
      exact ih _ (fun y hy => h y (List.mem_cons_of_mem _ hy)) (Nat.or_lt_two_pow hs (Nat.pow_lt_pow_right (by omega) (by omega)))
  exact this pre 0 h (Nat.two_pow_pos n)
theorem maskOf_grow (pre : List Int) (h : ∀ x ∈ pre, 0 ≤ x) (k : Int) (hk : 0 ≤ k) (hn : k ∉ pre) : maskOf pre < maskOf (pre ++ [k]) := by
  have h1 : maskOf pre ≤ maskOf (pre ++ [k]) := by
    rw [maskOf_snoc]
    exact Nat.left_le_or
  have h2 : maskOf pre ≠ maskOf (pre ++ [k]) := by
    intro e
    have a := maskOf_bit pre h k.toNat
    have b := maskOf_bit (pre ++ [k]) (fun x hx => by
      rcases List.mem_append.1 hx with hx | hx
      · exact h x hx
      · rw [List.mem_singleton.1 hx]; exact hk) k.toNat
    rw [← e, a] at b
    rw [show ((k.toNat : Nat) : Int) = k by omega] at b
    simp [hn] at b
  omega
theorem maskOf_miss (n : Nat) (pre : List Int) (h : ∀ x ∈ pre, 0 ≤ x ∧ x < n) (i : Int) (h0 : 0 ≤ i) (h1 : i < n) (hi : i ∉ pre) : maskOf pre < 2 ^ n - 1 := by
  have a := maskOf_lt n pre h
  have : maskOf pre ≠ 2 ^ n - 1 := by
    intro e
    have b := maskOf_bit pre (fun x hx => (h x hx).1) i.toNat
    rw [e, Nat.testBit_two_pow_sub_one, show ((i.toNat : Nat) : Int) = i by omega] at b
    simp [hi] at b
    omega
  omega
theorem bit_mod (s k : Nat) : (s / 2 ^ k % 2 = 1) ↔ s.testBit k = true := by
  rw [Nat.testBit_eq_decide_div_mod_eq, decide_eq_true_eq]
theorem idx_inj {n s s' : Nat} {k k' : Nat} (h : k < n) (h' : k' < n) (e : s * n + k = s' * n + k') : s = s' ∧ k = k' := by
  have a : (s * n + k) / n = s := by rw [Nat.mul_comm, Nat.mul_add_div (by omega), Nat.div_eq_of_lt h]; omega
  have b : (s' * n + k') / n = s' := by rw [Nat.mul_comm, Nat.mul_add_div (by omega), Nat.div_eq_of_lt h']; omega
  have : s = s' := by rw [← a, ← b, e]
  subst this
  exact ⟨rfl, by omega⟩
/-- The least cost of what is missing, and the order that picks the first best one each time. -/
def restC (n : Nat) (inc : List Int → Int → Int) : Nat → List Int → Int
  | 0, _ => 0
  | f + 1, pre => match pick (fun k => inc pre k + restC n inc f (pre ++ [k])) (fun k => !decide (k ∈ pre)) (idxs n) with
    | none => 0
    | some (_, m) => m
def bestO (n : Nat) (inc : List Int → Int → Int) : Nat → List Int → List Int
  | 0, pre => pre
  | f + 1, pre => match pick (fun k => inc pre k + restC n inc f (pre ++ [k])) (fun k => !decide (k ∈ pre)) (idxs n) with
    | none => pre
    | some (k, _) => bestO n inc f (pre ++ [k])
/-- The first of the least orders is the one that picks the first best number each time. -/
theorem first_least {n : Nat} {inc : List Int → Int → Int} {tot : List Int → Int} (ht : ∀ pre k, tot (pre ++ [k]) = tot pre + inc pre k) :
    ∀ (f : Nat) (pre : List Int), Pre n pre → pre.length + f = n → (comps n f pre).foldl (vstep tot) none = some (bestO n inc f pre, tot pre + restC n inc f pre)
  | 0, pre, _, _ => by
    simp [comps, vstep, bestO, restC]
  | f + 1, pre, hp, hl => by
    have key : ∀ m : Nat, m ≤ n → ((idxs m).flatMap fun i => if i ∈ pre then [] else comps n f (pre ++ [i])).foldl (vstep tot) none = (pick (fun k => inc pre k + restC n inc f (pre ++ [k])) (fun k => !decide (k ∈ pre)) (idxs m)).map fun q => (bestO n inc f (pre ++ [q.1]), tot pre + q.2) := by
      intro m
      induction m with
      | zero => intro _; rfl
      | succ m ih =>
        intro hm
        rw [idxs_succ, List.flatMap_append, List.foldl_append, ih (by omega), pick_snoc]
        by_cases c : ((m : Nat) : Int) ∈ pre
        · have e : (([((m : Nat) : Int)] : List Int).flatMap fun i => if i ∈ pre then [] else comps n f (pre ++ [i])) = [] := by simp [c]
          rw [e, if_neg (by simp [c])]
          rfl
        · have e : (([((m : Nat) : Int)] : List Int).flatMap fun i => if i ∈ pre then [] else comps n f (pre ++ [i])) = comps n f (pre ++ [((m : Nat) : Int)]) := by simp [c]
          rw [e, if_pos (by simp [c]), vfold_meet, first_least ht f (pre ++ [((m : Nat) : Int)]) (hp.snoc (by omega) (by omega) c) (by simp; omega), ht]
          cases pick (fun k => inc pre k + restC n inc f (pre ++ [k])) (fun k => !decide (k ∈ pre)) (idxs m) with
          | none =>
            simp only [vmeet, Option.map_none, Option.map_some]
            rw [Int.add_assoc]
          | some q =>
            simp only [vmeet, Option.map_some]
            by_cases d : inc pre (m : Int) + restC n inc f (pre ++ [(m : Int)]) < q.2
            · rw [if_pos d, if_pos (by omega), Option.map_some, Int.add_assoc]
            · rw [if_neg d, if_neg (by omega), Option.map_some]
    have hk := key n (Nat.le_refl _)
    rw [comps, hk]
    obtain ⟨i, h0, h1, hm⟩ := hp.miss (by omega)
    obtain ⟨k, m, e⟩ := pick_some (fun k => inc pre k + restC n inc f (pre ++ [k])) (fun k => !decide (k ∈ pre)) n i h0 h1 (by simp [hm])
    rw [bestO, restC, e]
    rfl
/-! the table: for each set and last number the least cost of what is missing; and the walk that picks the first best number each time -/
theorem shl_all : ((List.range 9).all fun k => decide (shl .i64 1 (k : Int) = ((2 ^ k : Nat) : Int) ∧ shl .i64 ((k : Int) + 1) (k : Int) = (((k + 1) * 2 ^ k : Nat) : Int))) = true := by decide +kernel
theorem shl_one {k : Nat} (hk : k ≤ 8) : shl .i64 1 (k : Int) = ((2 ^ k : Nat) : Int) := (of_decide_eq_true ((List.all_eq_true.1 shl_all) k (List.mem_range.2 (by omega)))).1
theorem shl_size {k : Nat} (hk : k ≤ 8) : shl .i64 ((k : Int) + 1) (k : Int) = (((k + 1) * 2 ^ k : Nat) : Int) := (of_decide_eq_true ((List.all_eq_true.1 shl_all) k (List.mem_range.2 (by omega)))).2
theorem bit_all : ((List.range 256).all fun s => (List.range 8).all fun k => decide (Go.bits .and .i64 (shr .i64 (s : Int) (k : Int)) 1 = if s.testBit k = true then 1 else 0)) = true := by decide +kernel
theorem set_bit {s k : Nat} (hs : s ≤ 255) (hk : k < 8) : Go.bits .and .i64 (shr .i64 (s : Int) (k : Int)) 1 = if s.testBit k = true then 1 else 0 :=
  of_decide_eq_true ((List.all_eq_true.1 ((List.all_eq_true.1 bit_all) s (List.mem_range.2 (by omega)))) k (List.mem_range.2 hk))
theorem pow_le8 {n : Nat} (hn : n ≤ 8) : 1 ≤ 2 ^ n ∧ 2 ^ n ≤ 256 := ⟨Nat.two_pow_pos n, Nat.pow_le_pow_right (by omega) hn⟩
theorem pow_le7 {n : Nat} (hn : n < 8) : 2 ^ n ≤ 128 := Nat.le_trans (Nat.pow_le_pow_right (by omega) (show n ≤ 7 by omega)) (by decide)
theorem set_or {s k : Nat} (hs : s ≤ 255) (hk : k < 8) : Go.bits .or .i64 (s : Int) (shl .i64 1 (k : Int)) = ((s ||| 2 ^ k : Nat) : Int) := by
  rw [shl_one (by omega)]
  exact or_nat s (2 ^ k) hs (by have := pow_le7 hk; omega)
theorem maskOf_full {n : Nat} {P : List Int} (h : Pre n P) (hl : P.length = n) : maskOf P = 2 ^ n - 1 := by
  apply Nat.eq_of_testBit_eq
  intro j
  rw [maskOf_bit P (fun x hx => (h.rng x hx).1), Nat.testBit_two_pow_sub_one, decide_eq_decide]
  constructor
  · intro hj
    have := h.rng _ hj
    omega
  · intro hj
    exact h.full hl j (by omega) (by omega)
theorem Pre.left {n : Nat} {P : List Int} {k : Int} (h : Pre n (P ++ [k])) : Pre n P ∧ (0 ≤ k ∧ k < n) ∧ k ∉ P := by
  have h1 := h.nodup
  rw [List.nodup_append] at h1
  exact ⟨⟨h1.1, fun x hx => h.rng x (by simp [hx])⟩, h.rng k (by simp), fun hk => h1.2.2 k hk k (by simp) rfl⟩
theorem restC_bd {n : Nat} {inc : List Int → Int → Int} (hb : ∀ pre (k : Int), Pre n pre → 0 ≤ k → k < n → 0 ≤ inc pre k ∧ inc pre k ≤ 1000) : ∀ (f : Nat) (pre : List Int), Pre n pre → 0 ≤ restC n inc f pre ∧ restC n inc f pre ≤ 1000 * f
  | 0, pre, _ => by simp [restC]
  | f + 1, pre, hp => by
    rw [restC]
    cases e : pick (fun k => inc pre k + restC n inc f (pre ++ [k])) (fun k => !decide (k ∈ pre)) (idxs n) with
    | none => simp only; omega
    | some q =>
      obtain ⟨k, m⟩ := q
      obtain ⟨h1, h2, h3⟩ := pick_mem _ _ n k m e
      have h4 := hb pre k hp h1.1 h1.2
      have h5 := restC_bd hb f (pre ++ [k]) (hp.snoc h1.1 h1.2 (by simpa using h2))
      simp only at h3 ⊢
      omega
def stepV (n : Nat) (w : Nat → Nat → Int) (T : List Int) (s l : Nat) (b : Int) (m : Nat) : Int :=
  if s.testBit m = true then b else if b < 0 ∨ wrap64 (w l m + T.getD ((s ||| 2 ^ m) * n + m) 0) < b then wrap64 (w l m + T.getD ((s ||| 2 ^ m) * n + m) 0) else b
def valT (n : Nat) (w : Nat → Nat → Int) (T : List Int) (s l : Nat) : Nat → Int
  | 0 => -1
  | m + 1 => stepV n w T s l (valT n w T s l m) m
def pickM (o : Option (Int × Int)) : Int := match o with | none => -1 | some (_, m) => m
def pickK (o : Option (Int × Int)) : Int := match o with | none => -1 | some (k, _) => k
theorem pickM_step (o : Option (Int × Int)) (k x : Int) (hx : 0 ≤ x) : (∀ q, o = some q → 0 ≤ q.2) → (if pickM o < 0 ∨ x < pickM o then x else pickM o) = pickM (match o with | none => some (k, x) | some (b, m) => if x < m then some (k, x) else some (b, m)) := by
  intro ho
  cases o with
  | none =>
    rw [if_pos (Or.inl (show pickM none < 0 by decide))]
    rfl
  | some q =>
    obtain ⟨b, v⟩ := q
    have hv := ho _ rfl
    simp only at hv
    have e : pickM (some (b, v)) = v := rfl
    by_cases d : x < v
    · rw [if_pos (Or.inr (show x < pickM (some (b, v)) from d))]
      show x = pickM (if x < v then some (k, x) else some (b, v))
      rw [if_pos d]
      rfl
    · rw [if_neg (fun h => h.elim (fun h => by rw [e] at h; omega) (fun h => d h))]
      show v = pickM (if x < v then some (k, x) else some (b, v))
      rw [if_neg d]
      rfl
structure GoodT (n : Nat) (inc : List Int → Int → Int) (T : List Int) (s : Nat) : Prop where
  len : T.length = (n + 1) * 2 ^ n
  at_ : ∀ pre k, Pre n (pre ++ [k]) → s ≤ maskOf (pre ++ [k]) → T.getD (maskOf (pre ++ [k]) * n + k.toNat) 0 = restC n inc (n - (pre.length + 1)) (pre ++ [k])
structure GoodM (n : Nat) (inc : List Int → Int → Int) (T : List Int) (s l : Nat) : Prop where
  more : GoodT n inc T (s + 1)
  now : ∀ pre k, Pre n (pre ++ [k]) → maskOf (pre ++ [k]) = s → k.toNat < l → T.getD (s * n + k.toNat) 0 = restC n inc (n - (pre.length + 1)) (pre ++ [k])
theorem GoodM.all {n s : Nat} {inc : List Int → Int → Int} {T : List Int} (h : GoodM n inc T s n) : GoodT n inc T s := ⟨h.more.len, fun pre k hp hs => by
  by_cases c : maskOf (pre ++ [k]) = s
  · rw [c]
    have := hp.left.2.1
    exact h.now pre k hp c (by omega)
  · exact h.more.at_ pre k hp (by omega)⟩
theorem GoodT.first {n : Nat} (inc : List Int → Int → Int) : GoodT n inc (List.replicate ((n + 1) * 2 ^ n) 0) (2 ^ n - 1) := ⟨by simp, fun pre k hp hs => by
  have hfull : (pre ++ [k]).length = n := by
    apply Classical.byContradiction
    intro hc
    have h1 := hp.subset_length
    obtain ⟨i, h0, h2, hm⟩ := hp.miss (by omega)
    have := maskOf_miss n _ hp.rng i h0 h2 hm
    omega
  rw [List.length_append, List.length_singleton] at hfull
  rw [show n - (pre.length + 1) = 0 by omega, List.getD_eq_getElem?_getD, List.getElem?_replicate]
  simp only [restC]
  split <;> rfl⟩
theorem valT_pick {n : Nat} {inc : List Int → Int → Int} {w : Nat → Nat → Int} {T : List Int} {P : List Int} {l f : Nat} (hP : Pre n P)
    (hb : ∀ pre (k : Int), Pre n pre → 0 ≤ k → k < n → 0 ≤ inc pre k ∧ inc pre k ≤ 1000) (hf : f ≤ 100)
    (hw : ∀ m : Nat, m < n → inc P m = w l m) (hT : ∀ m : Nat, m < n → (m : Int) ∉ P → T.getD ((maskOf P ||| 2 ^ m) * n + m) 0 = restC n inc f (P ++ [(m : Int)])) :
    ∀ m : Nat, m ≤ n → valT n w T (maskOf P) l m = pickM (pick (fun k => inc P k + restC n inc f (P ++ [k])) (fun k => !decide (k ∈ P)) (idxs m))
  | 0, _ => rfl
  | m + 1, hm => by
    rw [valT, valT_pick hP hb hf hw hT m (by omega), idxs_succ, pick_snoc, stepV, maskOf_bit P (fun x hx => (hP.rng x hx).1)]
    by_cases c : (m : Int) ∈ P
    · rw [if_pos (show decide ((m : Int) ∈ P) = true by simp [c]), if_neg (show ¬ (!decide ((m : Int) ∈ P)) = true by simp [c])]
    · rw [if_neg (show ¬ decide ((m : Int) ∈ P) = true by simp [c]), if_pos (show (!decide ((m : Int) ∈ P)) = true by simp [c]), hT m (by omega) c, ← hw m (by omega)]
      have h1 := hb P m hP (by omega) (by omega)
      have h2 := restC_bd hb f (P ++ [(m : Int)]) (hP.snoc (by omega) (by omega) c)
      rw [w64 (by omega) (by omega)]
      refine pickM_step _ (m : Int) (inc P (m : Int) + restC n inc f (P ++ [(m : Int)])) (by omega) (fun q hq => ?_)
      obtain ⟨k, v⟩ := q
      obtain ⟨g1, g2, g3⟩ := pick_mem _ _ m k v hq
      have h3 := hb P k hP g1.1 (by omega)
      have h4 := restC_bd hb f (P ++ [k]) (hP.snoc g1.1 (by omega) (by simpa using g2))
      simp only at g3 ⊢
      omega
theorem getD_set_ne {T : List Int} {i j : Nat} (x : Int) (h : i ≠ j) : (T.set i x).getD j 0 = T.getD j 0 := by
  rw [List.getD_eq_getElem?_getD, List.getElem?_set_ne h, ← List.getD_eq_getElem?_getD]
theorem getD_set_eq {T : List Int} {i : Nat} (x : Int) (h : i < T.length) : (T.set i x).getD i 0 = x := by
  rw [List.getD_eq_getElem?_getD, List.getElem?_set_self h]
  rfl
theorem idx_lt {n s l : Nat} (hs : s < 2 ^ n) (hl : l < n) : s * n + l < (n + 1) * 2 ^ n := by
  have h1 : s * n + n ≤ 2 ^ n * n := by
    have : (s + 1) * n ≤ 2 ^ n * n := Nat.mul_le_mul_right n hs
    rw [Nat.add_mul] at this
    omega
  have h2 : (n + 1) * 2 ^ n = 2 ^ n * n + 2 ^ n := by rw [Nat.add_mul, Nat.mul_comm]; omega
  omega
theorem GoodM.step {n s l : Nat} {inc : List Int → Int → Int} {w : Nat → Nat → Int} {T : List Int} (hn : n ≤ 8) (hb : ∀ pre (k : Int), Pre n pre → 0 ≤ k → k < n → 0 ≤ inc pre k ∧ inc pre k ≤ 1000)
    (hw : ∀ pre (k : Int) (m : Nat), Pre n (pre ++ [k]) → m < n → inc (pre ++ [k]) m = w k.toNat m) (h : GoodM n inc T s l) (hl : l < n) (hs : s < 2 ^ n - 1) : GoodM n inc (T.set (s * n + l) (valT n w T s l n)) s (l + 1) := by
  refine ⟨⟨by rw [List.length_set]; exact h.more.len, fun pre k hp hk => ?_⟩, fun pre k hp hk hlt => ?_⟩
  · have hk2 := hp.left.2.1
    rw [getD_set_ne _ (fun e => by
      have := (idx_inj hl (show k.toNat < n by omega) e).1
      omega)]
    exact h.more.at_ pre k hp hk
  · have hk2 := hp.left.2.1
    by_cases c : k.toNat = l
    · rw [c, getD_set_eq _ (by rw [h.more.len]; exact idx_lt (by omega) hl)]
      have hlen : (pre ++ [k]).length < n := by
        have h1 := hp.subset_length
        rcases Nat.lt_or_ge (pre ++ [k]).length n with h2 | h2
        · exact h2
        · have := maskOf_full hp (by omega)
          omega
      have hlen' : pre.length + 1 < n := by simpa using hlen
      rw [← hk, valT_pick (inc := inc) (f := n - (pre.length + 1 + 1)) hp hb (by omega) (fun m hm => by rw [hw pre k m hp hm, c]) (fun m hm hmem => by
        have h2 := h.more.at_ (pre ++ [k]) (m : Int) (hp.snoc (by omega) (by omega) hmem) (by
          have := maskOf_grow (pre ++ [k]) (fun x hx => (hp.rng x hx).1) (m : Int) (by omega) hmem
          omega)
        rw [maskOf_snoc, Int.toNat_natCast, List.length_append, List.length_singleton] at h2
        exact h2) n (Nat.le_refl _)]
      obtain ⟨i, h0, h1, hm⟩ := hp.miss hlen
      obtain ⟨k', m', e⟩ := pick_some (fun k' => inc (pre ++ [k]) k' + restC n inc (n - (pre.length + 1 + 1)) (pre ++ [k] ++ [k'])) (fun k' => !decide (k' ∈ pre ++ [k])) n i h0 h1 (by simpa using hm)
      rw [show n - (pre.length + 1) = (n - (pre.length + 1 + 1)) + 1 by omega, restC, e]
      rfl
    · rw [getD_set_ne _ (fun e => c (idx_inj hl (show k.toNat < n by omega) e).2.symm)]
      exact h.now pre k hp hk (by omega)
theorem dp_loop {n : Nat} (hn : n ≤ 8) {inc : List Int → Int → Int} {w : Nat → Nat → Int} (hb : ∀ pre (k : Int), Pre n pre → 0 ≤ k → k < n → 0 ≤ inc pre k ∧ inc pre k ≤ 1000)
    (hw : ∀ pre (k : Int) (m : Nat), Pre n (pre ++ [k]) → m < n → inc (pre ++ [k]) m = w k.toNat m)
    (F0 : Nat → List Int → Int → Option (List Int)) (F1 : Nat → List Int → Int → Int → Option (List Int)) (F2 : Nat → List Int → Int → Int → Int → Int → Option (List Int))
    (h0 : ∀ k T (s : Nat), F0 (k + 1) T s = F1 k T s 0) (h0e : ∀ k T, F0 (k + 1) T (-1) = some T)
    (h1 : ∀ k T (s l : Nat), l < n → F1 (k + 1) T s l = F2 k T s l (-1) 0) (h1e : ∀ k T (s : Nat), s < 2 ^ n - 1 → F1 (k + 1) T s n = F0 k T ((s : Int) - 1))
    (h2 : ∀ T (s l m : Nat) b r, T.length = (n + 1) * 2 ^ n → s < 2 ^ n - 1 → l < n → m < n → Ev (fun k => F2 k T s l (stepV n w T s l b m) ((m : Int) + 1)) r → Ev (fun k => F2 k T s l b m) r)
    (h2e : ∀ k T (s l : Nat) b, T.length = (n + 1) * 2 ^ n → s < 2 ^ n - 1 → l < n → F2 (k + 1) T s l b n = F1 k (T.set (s * n + l) b) s ((l : Int) + 1)) :
    ∀ (s : Nat) (T : List Int), s ≤ 2 ^ n - 1 → GoodT n inc T s → ∃ T', GoodT n inc T' 0 ∧ Ev (fun k => F0 k T ((s : Int) - 1)) T'
  | 0, T, _, hT => ⟨T, hT, ev_now fun k => h0e k T⟩
  | s + 1, T, hs, hT => by
    have inner : ∀ (d l : Nat) (T : List Int), n - l = d → l ≤ n → GoodM n inc T s l → ∃ T', GoodT n inc T' 0 ∧ Ev (fun k => F1 k T s l) T' := by
      intro d
      induction d with
      | zero =>
        intro l T hd hl hM
        obtain rfl : l = n := by omega
        obtain ⟨T', hT', he⟩ := dp_loop hn hb hw F0 F1 F2 h0 h0e h1 h1e h2 h2e s T (by omega) hM.all
        exact ⟨T', hT', ev_next (fun k => h1e k T s (by omega)) _ he⟩
      | succ d ih =>
        intro l T hd hl hM
        have hll : l < n := by omega
        obtain ⟨T', hT', he⟩ := ih (l + 1) (T.set (s * n + l) (valT n w T s l n)) (by omega) hll (hM.step hn hb hw hll (by omega))
        refine ⟨T', hT', ev_next (fun k => h1 k T s l hll) _ ?_⟩
        have hlen := hM.more.len
        have go : ∀ (e m : Nat), n - m = e → m ≤ n → Ev (fun k => F2 k T s l (valT n w T s l m) m) T' := by
          intro e
          induction e with
          | zero =>
            intro m hm1 hm2
            obtain rfl : m = n := by omega
            refine ev_next (fun k => h2e k T s l _ hlen (by omega) hll) _ ?_
            have e1 : ((l + 1 : Nat) : Int) = (l : Int) + 1 := by omega
            rw [e1] at he
            exact he
          | succ e ih2 =>
            intro m hm1 hm2
            refine h2 T s l m _ _ hlen (by omega) hll (by omega) ?_
            have h3 := ih2 (m + 1) (by omega) (by omega)
            have e1 : ((m + 1 : Nat) : Int) = (m : Int) + 1 := by omega
            rw [e1] at h3
            exact h3
        exact go n 0 (by omega) (Nat.zero_le _)
    obtain ⟨T', hT', he⟩ := inner n 0 T (by omega) (Nat.zero_le _) ⟨hT, fun pre k _ _ h => absurd h (Nat.not_lt_zero _)⟩
    refine ⟨T', hT', ?_⟩
    have e1 : ((s + 1 : Nat) : Int) - 1 = (s : Int) := by omega
    rw [e1]
    exact ev_next (fun k => h0 k T s) _ he
/-- The walk that picks the first best number each time. -/
theorem greedy {R : Type} {n : Nat} (hn : n ≤ 8) {inc : List Int → Int → Int} (hb : ∀ pre (k : Int), Pre n pre → 0 ≤ k → k < n → 0 ≤ inc pre k ∧ inc pre k ≤ 1000) {T : List Int} (hT : GoodT n inc T 0) (fin : List Int → R)
    (G0 : Nat → List Int → Option R) (G1 : Nat → List Int → Int → Int → Int → Option R)
    (h0 : ∀ k pre, Pre n pre → pre.length < n → G0 (k + 1) pre = G1 k pre (-1) 0 0) (h0e : ∀ k pre, Pre n pre → pre.length = n → G0 (k + 1) pre = some (fin pre))
    (h1i : ∀ pre b le (m : Nat) r, Pre n pre → pre.length < n → m < n → (m : Int) ∈ pre → Ev (fun k => G1 k pre b le ((m : Int) + 1)) r → Ev (fun k => G1 k pre b le m) r)
    (h1o : ∀ pre b le (m : Nat) r, Pre n pre → pre.length < n → m < n → (m : Int) ∉ pre → 0 ≤ T.getD ((maskOf pre ||| 2 ^ m) * n + m) 0 → T.getD ((maskOf pre ||| 2 ^ m) * n + m) 0 ≤ 100000 →
      ((b < 0 ∨ inc pre m + T.getD ((maskOf pre ||| 2 ^ m) * n + m) 0 < le) → Ev (fun k => G1 k pre m (inc pre m + T.getD ((maskOf pre ||| 2 ^ m) * n + m) 0) ((m : Int) + 1)) r) → (¬ (b < 0 ∨ inc pre m + T.getD ((maskOf pre ||| 2 ^ m) * n + m) 0 < le) → Ev (fun k => G1 k pre b le ((m : Int) + 1)) r) → Ev (fun k => G1 k pre b le m) r)
    (h1e : ∀ k pre (b le : Int), Pre n pre → pre.length < n → 0 ≤ b → b < n → b ∉ pre → G1 (k + 1) pre b le n = G0 k (pre ++ [b])) :
    ∀ (f : Nat) (pre : List Int), Pre n pre → pre.length + f = n → Ev (fun k => G0 k pre) (fin (bestO n inc f pre))
  | 0, pre, hp, hl => ev_now fun k => h0e k pre hp (by omega)
  | f + 1, pre, hp, hl => by
    have hlt : pre.length < n := by omega
    refine ev_next (fun k => h0 k pre hp hlt) _ ?_
    obtain ⟨i, i0, i1, hm⟩ := hp.miss hlt
    obtain ⟨kb, mb, eb⟩ := pick_some (fun k => inc pre k + restC n inc f (pre ++ [k])) (fun k => !decide (k ∈ pre)) n i i0 i1 (by simpa using hm)
    have go : ∀ (d m : Nat), n - m = d → m ≤ n → ∀ le, (∀ q, pick (fun k => inc pre k + restC n inc f (pre ++ [k])) (fun k => !decide (k ∈ pre)) (idxs m) = some q → le = q.2) →
        Ev (fun k => G1 k pre (pickK (pick (fun k => inc pre k + restC n inc f (pre ++ [k])) (fun k => !decide (k ∈ pre)) (idxs m))) le m) (fin (bestO n inc (f + 1) pre)) := by
      intro d
      induction d with
      | zero =>
        intro m hd hm le _
        obtain rfl : m = n := by omega
        obtain ⟨g1, g2, _⟩ := pick_mem _ _ m kb mb eb
        have hkb : kb ∉ pre := by simpa using g2
        rw [eb]
        refine ev_next (fun k => h1e k pre kb le hp hlt g1.1 g1.2 hkb) _ ?_
        rw [bestO, eb]
        exact greedy hn hb hT fin G0 G1 h0 h0e h1i h1o h1e f (pre ++ [kb]) (hp.snoc g1.1 g1.2 hkb) (by simp; omega)
      | succ d ih =>
        intro m hd hm le hle
        have e1 : ((m + 1 : Nat) : Int) = (m : Int) + 1 := by omega
        by_cases c : (m : Int) ∈ pre
        · refine h1i pre _ le m _ hp hlt (by omega) c ?_
          have e2 : pick (fun k => inc pre k + restC n inc f (pre ++ [k])) (fun k => !decide (k ∈ pre)) (idxs (m + 1)) = pick (fun k => inc pre k + restC n inc f (pre ++ [k])) (fun k => !decide (k ∈ pre)) (idxs m) := by
            rw [idxs_succ, pick_snoc, if_neg (by simp [c])]
          have h3 := ih (m + 1) (by omega) (by omega) le (by rw [e2]; exact hle)
          rw [e1, e2] at h3
          exact h3
        · have hT2 := hT.at_ pre (m : Int) (hp.snoc (by omega) (by omega) c) (Nat.zero_le _)
          rw [maskOf_snoc, Int.toNat_natCast, show n - (pre.length + 1) = f by omega] at hT2
          have hr := restC_bd hb f (pre ++ [(m : Int)]) (hp.snoc (by omega) (by omega) c)
          have e2 : pick (fun k => inc pre k + restC n inc f (pre ++ [k])) (fun k => !decide (k ∈ pre)) (idxs (m + 1)) = match pick (fun k => inc pre k + restC n inc f (pre ++ [k])) (fun k => !decide (k ∈ pre)) (idxs m) with | none => some ((m : Int), inc pre m + restC n inc f (pre ++ [(m : Int)])) | some (b, v) => if inc pre m + restC n inc f (pre ++ [(m : Int)]) < v then some ((m : Int), inc pre m + restC n inc f (pre ++ [(m : Int)])) else some (b, v) := by
            rw [idxs_succ, pick_snoc, if_pos (by simp [c])]
          cases e : pick (fun k => inc pre k + restC n inc f (pre ++ [k])) (fun k => !decide (k ∈ pre)) (idxs m) with
          | none =>
            rw [e] at e2
            simp only at e2
            have h3 := ih (m + 1) (by omega) (by omega) (inc pre m + restC n inc f (pre ++ [(m : Int)])) (by rw [e2]; intro q hq; rw [← Option.some.inj hq])
            rw [e1, e2] at h3
            refine h1o pre _ le m _ hp hlt (by omega) c (by rw [hT2]; omega) (by rw [hT2]; omega) (fun _ => by rw [hT2]; exact h3) (fun h => absurd (Or.inl (show pickK none < 0 by decide)) h)
          | some q =>
            obtain ⟨b, v⟩ := q
            rw [e] at e2 hle
            simp only at e2
            have hv := hle _ rfl
            simp only at hv
            subst hv
            obtain ⟨g1, _, _⟩ := pick_mem _ _ m b le e
            by_cases dlt : inc pre m + restC n inc f (pre ++ [(m : Int)]) < le
            · rw [if_pos dlt] at e2
              have h3 := ih (m + 1) (by omega) (by omega) (inc pre m + restC n inc f (pre ++ [(m : Int)])) (by rw [e2]; intro q hq; rw [← Option.some.inj hq])
              rw [e1, e2] at h3
              refine h1o pre _ le m _ hp hlt (by omega) c (by rw [hT2]; omega) (by rw [hT2]; omega) (fun _ => by rw [hT2]; exact h3) (fun h => absurd (Or.inr (by rw [hT2]; exact dlt)) h)
            · rw [if_neg dlt] at e2
              have h3 := ih (m + 1) (by omega) (by omega) le (by rw [e2]; intro q hq; rw [← Option.some.inj hq])
              rw [e1, e2] at h3
              refine h1o pre _ le m _ hp hlt (by omega) c (by rw [hT2]; omega) (by rw [hT2]; omega) (fun h => ?_) (fun _ => h3)
              rw [hT2] at h
              exact absurd h (fun h => h.elim (fun h => by have : pickK (some (b, le)) = b := rfl; omega) dlt)
    exact go n 0 (by omega) (Nat.zero_le _) 0 (fun q hq => by simp [idxs, pick] at hq)
def incD (d : List Int) (pre : List Int) (k : Int) : Int := if pre.length = 0 then 0 else costV (d.getD (pre.getD (pre.length - 1) 0).toNat 0) (d.getD k.toNat 0)
theorem getD_rng {d : List Int} (hd : ∀ x ∈ d, 0 ≤ x ∧ x ≤ 255) (i : Nat) : 0 ≤ d.getD i 0 ∧ d.getD i 0 ≤ 255 := by
  rw [List.getD_eq_getElem?_getD]
  cases e : d[i]? with
  | none => simp
  | some x => exact hd x (List.mem_of_getElem? e)
theorem costV_ok {x y : Int} (hx : 0 ≤ x ∧ x ≤ 255) (hy : 0 ≤ y ∧ y ≤ 255) : 0 ≤ costV x y ∧ costV x y ≤ 13 := by
  have := pop_bd x.toNat
  unfold costV
  rw [if_pos ⟨hx, hy⟩]
  split <;> omega
theorem incD_bd {d : List Int} (hd : ∀ x ∈ d, 0 ≤ x ∧ x ≤ 255) (pre : List Int) (k : Int) : 0 ≤ incD d pre k ∧ incD d pre k ≤ 13 := by
  unfold incD
  split
  · omega
  · exact costV_ok (getD_rng hd _) (getD_rng hd _)
theorem getD_snoc (pre : List Int) (k : Int) : (pre ++ [k]).getD pre.length 0 = k := by
  rw [List.getD_eq_getElem?_getD, List.getElem?_append_right (Nat.le_refl _)]
  simp
theorem getD_left {pre : List Int} {k : Int} {i : Nat} (h : i < pre.length) : (pre ++ [k]).getD i 0 = pre.getD i 0 := by
  rw [List.getD_eq_getElem?_getD, List.getElem?_append_left h, ← List.getD_eq_getElem?_getD]
theorem incD_snoc (d pre : List Int) (k : Int) (m : Nat) : incD d (pre ++ [k]) m = costV (d.getD k.toNat 0) (d.getD m 0) := by
  unfold incD
  rw [List.length_append, List.length_singleton, if_neg (by omega), Nat.add_sub_cancel, getD_snoc, Int.toNat_natCast]
def totD (d pre : List Int) : Int := sumC costV d pre pre.length
theorem totD_snoc (d pre : List Int) (k : Int) : totD d (pre ++ [k]) = totD d pre + incD d pre k := by
  unfold totD
  rw [List.length_append, List.length_singleton, sumC_succ]
  congr 1
  · unfold sumC
    congr 1
    apply List.map_congr_left
    intro i hi
    rw [List.mem_range] at hi
    unfold stepC
    by_cases c : i = 0
    · rw [if_pos c, if_pos c]
    · rw [if_neg c, if_neg c, getD_left hi, getD_left (show i - 1 < pre.length by omega)]
  · unfold stepC incD
    by_cases c : pre.length = 0
    · rw [if_pos c, if_pos c]
    · rw [if_neg c, if_neg c, getD_snoc, getD_left (show pre.length - 1 < pre.length by omega)]
theorem tab_le {n : Nat} (hn : n ≤ 8) : (n + 1) * 2 ^ n ≤ 2304 := Nat.le_trans (Nat.mul_le_mul (show n + 1 ≤ 9 by omega) (pow_le8 hn).2) (by decide)
theorem set_lt {n s m : Nat} (hs : s < 2 ^ n) (hm : m < n) : s ||| 2 ^ m < 2 ^ n := Nat.or_lt_two_pow hs (Nat.pow_lt_pow_right (by omega) hm)
theorem rd_nat (T : List Int) (i : Nat) (z : Int) (h : z = (i : Int)) : rd T z = T.getD i 0 := by
  rw [h, rd_eq]
theorem idx_w (z n m : Nat) (h : z * n + m ≤ 100000) : wrap64 (wrap64 ((z : Int) * (n : Int)) + (m : Int)) = ((z * n + m : Nat) : Int) := by
  have e : (z : Int) * (n : Int) = ((z * n : Nat) : Int) := (Int.natCast_mul z n).symm
  rw [e]
  generalize z * n = y at h ⊢
  unfold wrap64
  omega
theorem l16_step (d : List Int) (hn : d.length ≤ 8) (T : List Int) (s l m : Nat) (b : Int) (r : List Int) (hlen : T.length = (d.length + 1) * 2 ^ d.length) (hs : s < 2 ^ d.length - 1) (hl : l < d.length) (hm : m < d.length)
    (h : Ev (fun k => spec_l16Rest.l2 k d (d.length : Int) T (s : Int) (l : Int) (stepV d.length (fun l m => costV (d.getD l 0) (d.getD m 0)) T s l b m) ((m : Int) + 1)) r) : Ev (fun k => spec_l16Rest.l2 k d (d.length : Int) T (s : Int) (l : Int) b (m : Int)) r := by
  have hp := pow_le8 hn
  have ht := tab_le hn
  have hs2 : s ≤ 255 := by omega
  have hm' : (m : Int) < (d.length : Int) := by omega
  have hm0 : (0 : Int) ≤ (m : Int) := by omega
  have em : wrap64 ((m : Int) + 1) = (m : Int) + 1 := w64 (by omega) (by omega)
  unfold stepV at h
  by_cases c : s.testBit m = true
  · rw [if_pos c] at h
    refine ev_next (fun k => ?_) r h
    simp only [spec_l16Rest.l2]
    rw [if_pos hm', if_pos hm0, set_bit hs2 (by omega), if_pos c, if_pos rfl, em]
  · rw [if_neg c] at h
    have hlt := idx_lt (set_lt (show s < 2 ^ d.length by omega) hm) hm
    rw [← hlen] at hlt
    have hT : T.length ≤ 2304 := by omega
    have hm8 : m < 8 := by omega
    have hl0 : (0 : Int) ≤ (l : Int) := by omega
    have hl1 : (l : Int) < (d.length : Int) := by omega
    have e1 := idx_w (s ||| 2 ^ m) d.length m (by omega)
    have hq0 : (0 : Int) ≤ (((s ||| 2 ^ m) * d.length + m : Nat) : Int) := Int.natCast_nonneg _
    have hq1 : (((s ||| 2 ^ m) * d.length + m : Nat) : Int) < (T.length : Int) := Int.ofNat_lt.2 hlt
    generalize (s ||| 2 ^ m) * d.length + m = q at e1 hq0 hq1 h
    refine ev_next (f := fun k => (spec_CleanCost.f k (d.getD l 0) (d.getD m 0)).bind fun t118 => if b < 0 then spec_l16Rest.l2 k d (d.length : Int) T (s : Int) (l : Int) (wrap64 (t118 + T.getD q 0)) ((m : Int) + 1) else if wrap64 (t118 + T.getD q 0) < b then spec_l16Rest.l2 k d (d.length : Int) T (s : Int) (l : Int) (wrap64 (t118 + T.getD q 0)) ((m : Int) + 1) else spec_l16Rest.l2 k d (d.length : Int) T (s : Int) (l : Int) b ((m : Int) + 1)) (fun k => ?_) r ?_
    · simp only [spec_l16Rest.l2]
      rw [if_pos hm', if_pos hm0, set_bit hs2 hm8, if_neg c, if_neg (by decide), if_pos hl0, if_pos hl1, if_pos hm', rd_eq d, rd_eq d, set_or hs2 hm8, e1, rd_eq T, em]
      simp only [if_pos hq0, if_pos hq1]
    · refine Ev.bind (costS _ _) ?_
      simp only at h
      by_cases c1 : b < 0
      · rw [if_pos (Or.inl c1)] at h
        simp only [if_pos c1]
        exact h
      · by_cases c2 : wrap64 (costV (d.getD l 0) (d.getD m 0) + T.getD q 0) < b
        · rw [if_pos (Or.inr c2)] at h
          simp only [if_neg c1, if_pos c2]
          exact h
        · rw [if_neg (fun h => h.elim c1 c2)] at h
          simp only [if_neg c1, if_neg c2]
          exact h
theorem l16_end (d : List Int) (hn : d.length ≤ 8) (k : Nat) (T : List Int) (s l : Nat) (b : Int) (hlen : T.length = (d.length + 1) * 2 ^ d.length) (hs : s < 2 ^ d.length - 1) (hl : l < d.length) :
    spec_l16Rest.l2 (k + 1) d (d.length : Int) T (s : Int) (l : Int) b (d.length : Int) = spec_l16Rest.l1 k d (d.length : Int) (T.set (s * d.length + l) b) (s : Int) ((l : Int) + 1) := by
  have ht := tab_le hn
  have hlt := idx_lt (show s < 2 ^ d.length by omega) hl
  rw [← hlen] at hlt
  have hT : T.length ≤ 2304 := by omega
  have el : wrap64 ((l : Int) + 1) = (l : Int) + 1 := w64 (by omega) (by omega)
  have hnn : ¬ (d.length : Int) < (d.length : Int) := by omega
  have e1 := idx_w s d.length l (by omega)
  have hq0 : (0 : Int) ≤ ((s * d.length + l : Nat) : Int) := Int.natCast_nonneg _
  have hq1 : ((s * d.length + l : Nat) : Int) < (T.length : Int) := Int.ofNat_lt.2 hlt
  generalize s * d.length + l = q at e1 hq0 hq1 ⊢
  simp only [spec_l16Rest.l2]
  rw [if_neg hnn, e1, if_pos hq0, if_pos hq1, Int.toNat_natCast, el]
theorem restS16 (d : List Int) (hd : ∀ x ∈ d, 0 ≤ x ∧ x ≤ 255) (hn : d.length ≤ 8) : ∃ T, GoodT d.length (incD d) T 0 ∧ Ev (fun k => spec_l16Rest.f k d) T := by
  have hp := pow_le8 hn
  have ht := tab_le hn
  obtain ⟨T, hT, he⟩ := dp_loop hn (inc := incD d) (w := fun l m => costV (d.getD l 0) (d.getD m 0)) (fun pre k _ _ _ => by have := incD_bd hd pre k; omega) (fun pre k m _ _ => incD_snoc d pre k m)
    (fun k T s => spec_l16Rest.l0 k d (d.length : Int) T s) (fun k T s l => spec_l16Rest.l1 k d (d.length : Int) T s l) (fun k T s l b m => spec_l16Rest.l2 k d (d.length : Int) T s l b m)
    (fun k T s => by simp only [spec_l16Rest.l0]; rw [if_pos (by omega)])
    (fun k T => by simp only [spec_l16Rest.l0]; rw [if_neg (by omega)])
    (fun k T s l hl => by simp only [spec_l16Rest.l1]; rw [if_pos (by omega)])
    (fun k T s hs => by simp only [spec_l16Rest.l1]; rw [if_neg (by omega), w64 (by omega) (by omega)])
    (fun T s l m b r hlen hs hl hm h => l16_step d hn T s l m b r hlen hs hl hm h)
    (fun k T s l b hlen hs hl => l16_end d hn k T s l b hlen hs hl)
    (2 ^ d.length - 1) (List.replicate ((d.length + 1) * 2 ^ d.length) 0) (Nat.le_refl _) (GoodT.first _)
  refine ⟨T, hT, ?_⟩
  unfold spec_l16Rest.f
  generalize hz : (d.length + 1) * 2 ^ d.length = z at ht he
  have e1 : wrap64 ((d.length : Int) + 1) = (d.length : Int) + 1 := w64 (by omega) (by omega)
  have e2 : wrap64 (((2 ^ d.length : Nat) : Int) - 2) = ((2 ^ d.length - 1 : Nat) : Int) - 1 := by
    rw [w64 (by omega) (by omega)]
    omega
  simp only [e1, shl_size hn, shl_one hn, hz, Int.toNat_natCast, if_pos (show (0 : Int) ≤ (z : Int) by omega), if_pos (show z ≤ 35184372088832 by omega), e2]
  exact he
theorem day_in (d : List Int) (hn : d.length ≤ 8) (T : List Int) (pre : List Int) (b le : Int) (m : Nat) (r : List Int × Bool) (hpre : Pre d.length pre) (hm : m < d.length) (hmem : (m : Int) ∈ pre)
    (h : Ev (fun k => spec_BestDay.l1 k d pre (d.length : Int) T (maskOf pre : Int) b le ((m : Int) + 1)) r) : Ev (fun k => spec_BestDay.l1 k d pre (d.length : Int) T (maskOf pre : Int) b le (m : Int)) r := by
  have hp := pow_le8 hn
  have hmask := maskOf_lt d.length pre hpre.rng
  have hbit := maskOf_bit pre (fun x hx => (hpre.rng x hx).1) m
  have hs2 : maskOf pre ≤ 255 := by omega
  have hm8 : m < 8 := by omega
  have hm' : (m : Int) < (d.length : Int) := by omega
  have hm0 : (0 : Int) ≤ (m : Int) := by omega
  have em : wrap64 ((m : Int) + 1) = (m : Int) + 1 := w64 (by omega) (by omega)
  refine ev_next (fun k => ?_) r h
  simp only [spec_BestDay.l1]
  rw [if_pos hm', if_pos hm0, set_bit hs2 hm8, hbit, if_pos (decide_eq_true hmem), if_pos rfl, em]
theorem day_out (d : List Int) (hd : ∀ x ∈ d, 0 ≤ x ∧ x ≤ 255) (hn : d.length ≤ 8) (T : List Int) (hlen : T.length = (d.length + 1) * 2 ^ d.length) (pre : List Int) (b le : Int) (m : Nat) (r : List Int × Bool) (hpre : Pre d.length pre) (hm : m < d.length) (hmem : (m : Int) ∉ pre)
    (ht0 : 0 ≤ T.getD ((maskOf pre ||| 2 ^ m) * d.length + m) 0) (ht1 : T.getD ((maskOf pre ||| 2 ^ m) * d.length + m) 0 ≤ 100000)
    (hyes : (b < 0 ∨ incD d pre m + T.getD ((maskOf pre ||| 2 ^ m) * d.length + m) 0 < le) → Ev (fun k => spec_BestDay.l1 k d pre (d.length : Int) T (maskOf pre : Int) (m : Int) (incD d pre m + T.getD ((maskOf pre ||| 2 ^ m) * d.length + m) 0) ((m : Int) + 1)) r)
    (hno : ¬ (b < 0 ∨ incD d pre m + T.getD ((maskOf pre ||| 2 ^ m) * d.length + m) 0 < le) → Ev (fun k => spec_BestDay.l1 k d pre (d.length : Int) T (maskOf pre : Int) b le ((m : Int) + 1)) r) :
    Ev (fun k => spec_BestDay.l1 k d pre (d.length : Int) T (maskOf pre : Int) b le (m : Int)) r := by
  have hp := pow_le8 hn
  have ht := tab_le hn
  have hmask := maskOf_lt d.length pre hpre.rng
  have hbit := maskOf_bit pre (fun x hx => (hpre.rng x hx).1) m
  have hs2 : maskOf pre ≤ 255 := by omega
  have hm8 : m < 8 := by omega
  have hm' : (m : Int) < (d.length : Int) := by omega
  have hm0 : (0 : Int) ≤ (m : Int) := by omega
  have em : wrap64 ((m : Int) + 1) = (m : Int) + 1 := w64 (by omega) (by omega)
  have hlt := idx_lt (set_lt hmask hm) hm
  rw [← hlen] at hlt
  have hT : T.length ≤ 2304 := by omega
  have hbd := incD_bd hd pre m
  have hnot : ¬ decide ((m : Int) ∈ pre) = true := by simp [hmem]
  have e1 := idx_w (maskOf pre ||| 2 ^ m) d.length m (by omega)
  have hq0 : (0 : Int) ≤ (((maskOf pre ||| 2 ^ m) * d.length + m : Nat) : Int) := Int.natCast_nonneg _
  have hq1 : (((maskOf pre ||| 2 ^ m) * d.length + m : Nat) : Int) < (T.length : Int) := Int.ofNat_lt.2 hlt
  have hlast : pre.length ≠ 0 → 0 ≤ pre.getD (pre.length - 1) 0 ∧ pre.getD (pre.length - 1) 0 < (d.length : Int) := fun c => by
    have hmm : pre.getD (pre.length - 1) 0 ∈ pre := by
      rw [List.getD_eq_getElem?_getD, List.getElem?_eq_getElem (show pre.length - 1 < pre.length by omega)]
      exact List.getElem_mem _
    exact hpre.rng _ hmm
  have hpl := hpre.subset_length
  have hw0 : wrap64 (T.getD ((maskOf pre ||| 2 ^ m) * d.length + m) 0 + incD d pre m) = incD d pre m + T.getD ((maskOf pre ||| 2 ^ m) * d.length + m) 0 := by
    rw [w64 (by omega) (by omega)]
    omega
  have el : wrap64 ((pre.length : Int) - 1) = (pre.length : Int) - 1 := w64 (by omega) (by omega)
  generalize (maskOf pre ||| 2 ^ m) * d.length + m = q at e1 hq0 hq1 ht0 ht1 hyes hno hw0
  generalize hx : T.getD q 0 = x at ht0 ht1 hyes hno hw0
  by_cases c : pre.length = 0
  · have hi : incD d pre m = 0 := by
      unfold incD
      rw [if_pos c]
    rw [hi, Int.zero_add] at hyes hno
    have hg : ¬ (pre.length : Int) > 0 := by omega
    refine ev_next (f := fun k => if b < 0 then spec_BestDay.l1 k d pre (d.length : Int) T (maskOf pre : Int) (m : Int) x ((m : Int) + 1) else if x < le then spec_BestDay.l1 k d pre (d.length : Int) T (maskOf pre : Int) (m : Int) x ((m : Int) + 1) else spec_BestDay.l1 k d pre (d.length : Int) T (maskOf pre : Int) b le ((m : Int) + 1)) (fun k => ?_) r ?_
    · simp only [spec_BestDay.l1]
      rw [if_pos hm', if_pos hm0, set_bit hs2 hm8, hbit, if_neg hnot, if_neg (by decide), set_or hs2 hm8, e1, rd_eq T, hx, em, if_pos hq0, if_pos hq1, if_neg hg]
    · by_cases c1 : b < 0
      · simp only [if_pos c1]
        exact hyes (.inl c1)
      · by_cases c2 : x < le
        · simp only [if_neg c1, if_pos c2]
          exact hyes (.inr c2)
        · simp only [if_neg c1, if_neg c2]
          exact hno (fun h => h.elim c1 c2)
  · obtain ⟨l0, l1⟩ := hlast c
    have hi : incD d pre m = costV (d.getD (pre.getD (pre.length - 1) 0).toNat 0) (d.getD m 0) := by
      unfold incD
      rw [if_neg c, Int.toNat_natCast]
    have el2 : (pre.length : Int) - 1 = ((pre.length - 1 : Nat) : Int) := by omega
    have hg : (pre.length : Int) > 0 := by omega
    have g0 : (0 : Int) ≤ ((pre.length - 1 : Nat) : Int) := by omega
    have g1 : ((pre.length - 1 : Nat) : Int) < (pre.length : Int) := by omega
    refine ev_next (f := fun k => (spec_CleanCost.f k (d.getD (pre.getD (pre.length - 1) 0).toNat 0) (d.getD m 0)).bind fun t134 => if b < 0 then spec_BestDay.l1 k d pre (d.length : Int) T (maskOf pre : Int) (m : Int) (wrap64 (x + t134)) ((m : Int) + 1) else if wrap64 (x + t134) < le then spec_BestDay.l1 k d pre (d.length : Int) T (maskOf pre : Int) (m : Int) (wrap64 (x + t134)) ((m : Int) + 1) else spec_BestDay.l1 k d pre (d.length : Int) T (maskOf pre : Int) b le ((m : Int) + 1)) (fun k => ?_) r ?_
    · simp only [spec_BestDay.l1]
      rw [if_pos hm', if_pos hm0, set_bit hs2 hm8, hbit, if_neg hnot, if_neg (by decide), set_or hs2 hm8, e1, rd_eq T, hx, em, if_pos hq0, if_pos hq1, if_pos hg, el, el2, if_pos g0, if_pos g1, rd_eq pre, if_pos l0, if_pos l1, if_pos hm', rd_eq d]
      rfl
    · refine Ev.bind (costS _ _) ?_
      rw [← hi]
      simp only [hw0]
      by_cases c1 : b < 0
      · simp only [if_pos c1]
        exact hyes (.inl c1)
      · by_cases c2 : incD d pre m + x < le
        · simp only [if_neg c1, if_pos c2]
          exact hyes (.inr c2)
        · simp only [if_neg c1, if_neg c2]
          exact hno (fun h => h.elim c1 c2)
theorem day_end (d : List Int) (hn : d.length ≤ 8) (T : List Int) (k : Nat) (pre : List Int) (b le : Int) (hpre : Pre d.length pre) (b0 : 0 ≤ b) (b1 : b < (d.length : Int)) :
    spec_BestDay.l1 (k + 1) d pre (d.length : Int) T (maskOf pre : Int) b le (d.length : Int) = spec_BestDay.l0 k d (pre ++ [b]) (d.length : Int) T (maskOf (pre ++ [b]) : Int) := by
  have hp := pow_le8 hn
  have hmask := maskOf_lt d.length pre hpre.rng
  have hpl := hpre.subset_length
  have hset := set_or (s := maskOf pre) (k := b.toNat) (by omega) (by omega)
  rw [show ((b.toNat : Nat) : Int) = b by omega] at hset
  have hnn : ¬ (d.length : Int) < (d.length : Int) := by omega
  have hll : pre.length < 17592186044416 := by omega
  simp only [spec_BestDay.l1]
  rw [if_neg hnn, if_pos hll, if_pos b0, maskOf_snoc, hset]
theorem bestDayS (d : List Int) (hb : d.length ≤ 1048576) : Ev (fun k => spec_BestDay.f k d) (if doughsOk d = true then (bestO d.length (incD d) d.length [], true) else ([], false)) := by
  unfold spec_BestDay.f
  simp only [Option.bind_some]
  refine Ev.bind (l16_f d 8 hb) ?_
  have e : (allOk d 0 255 && decide ((d.length : Int) ≤ 8)) = doughsOk d := rfl
  rw [e]
  by_cases c1 : doughsOk d = true
  · simp only [if_pos c1]
    obtain ⟨hd, hn⟩ := (doughsOk_iff d).1 c1
    obtain ⟨T, hT, he⟩ := restS16 d hd hn
    refine Ev.bind he ?_
    have hlenT := hT.len
    have h := greedy hn (inc := incD d) (fun pre k _ _ _ => by have := incD_bd hd pre k; omega) hT (fun pre => (pre, true)) (fun k pre => spec_BestDay.l0 k d pre (d.length : Int) T (maskOf pre : Int)) (fun k pre b le m => spec_BestDay.l1 k d pre (d.length : Int) T (maskOf pre : Int) b le m)
      (fun k pre hpre hlt => by simp only [spec_BestDay.l0]; rw [if_pos (by omega)])
      (fun k pre hpre hlt => by simp only [spec_BestDay.l0]; rw [if_neg (by omega)])
      (fun pre b le m r hpre hlt hm hmem h => day_in d hn T pre b le m r hpre hm hmem h)
      (fun pre b le m r hpre hlt hm hmem ht0 ht1 hyes hno => day_out d hd hn T hlenT pre b le m r hpre hm hmem ht0 ht1 hyes hno)
      (fun k pre b le hpre hlt b0 b1 hbm => day_end d hn T k pre b le hpre b0 b1)
      d.length [] (Pre.nil _) (by simp)
    exact h
  · simp only [if_neg c1]
    exact Ev.now _
theorem dayV_order {d o : List Int} (hd : doughsOk d = true) (ho : o ∈ comps d.length d.length []) : dayV d o = totD d o := by
  obtain ⟨hl, hp⟩ := (comps_all o).1 ho
  have hall : (List.range o.length).all (okAt o (d.length : Int)) = true := by
    rw [List.all_eq_true]
    intro i hi
    rw [List.mem_range] at hi
    have e : o.getD i 0 = o[i] := by
      rw [List.getD_eq_getElem?_getD, List.getElem?_eq_getElem hi]
      rfl
    unfold okAt
    rw [decide_eq_true_eq, e]
    have := hp.rng _ (List.getElem_mem hi)
    refine ⟨by omega, fun hm => ?_⟩
    obtain ⟨j, hj, ej⟩ := List.getElem_of_mem hm
    rw [List.length_take] at hj
    rw [List.getElem_take] at ej
    have h2 := List.pairwise_iff_getElem.1 (List.nodup_iff_pairwise_ne.1 hp.nodup) j i (by omega) hi (by omega)
    exact h2 ej
  unfold dayV totD
  rw [if_pos ⟨hd, by omega, hall⟩]
theorem ev_list {α β : Type} (g : Nat → α → Option β) (v : α → β) : ∀ (L : List α), (∀ x ∈ L, Ev (fun k => g k x) (v x)) → ∃ K, ∀ k, K ≤ k → ∀ x ∈ L, g k x = some (v x)
  | [], _ => ⟨0, fun _ _ x hx => absurd hx (by simp)⟩
  | a :: L, h => by
    obtain ⟨K1, h1⟩ := ev_list g v L (fun x hx => h x (List.mem_cons_of_mem _ hx))
    obtain ⟨K2, h2⟩ := h a List.mem_cons_self
    refine ⟨K1 + K2, fun k hk x hx => ?_⟩
    rcases List.mem_cons.1 hx with rfl | hx
    · exact h2 k (by omega)
    · exact h1 k (by omega) x hx
theorem bestDayI (d : List Int) (hb : d.length ≤ 1048576) : Ev (fun k => impl_BestDay.f k d) (if doughsOk d = true then (bestO d.length (incD d) d.length [], true) else ([], false)) := by
  unfold impl_BestDay.f
  simp only [doughsI, Option.bind_some]
  by_cases c1 : doughsOk d = true
  · simp only [if_pos c1]
    obtain ⟨hd, hn⟩ := (doughsOk_iff d).1 c1
    obtain ⟨K, hK⟩ := ev_list (fun k o => impl_DayCost.f k d o) (dayV d) (comps d.length d.length []) (fun o ho => dayI d o (by have := (comps_all o).1 ho; omega))
    refine ⟨K, fun k hk => ?_⟩
    have h := hK k hk
    show (if d.length ≤ 8 ∧ ∀ o ∈ comps d.length d.length [], (impl_DayCost.f k d o).isSome = true then some (vres ((comps d.length d.length []).foldl (vstep fun o => (impl_DayCost.f k d o).getD 0) none), true) else none) = _
    rw [if_pos ⟨hn, fun o ho => by rw [h o ho]; rfl⟩]
    rw [vfold_congr (fun o => (impl_DayCost.f k d o).getD 0) (totD d) _ _ (fun o ho => by rw [h o ho, Option.getD_some]; exact dayV_order c1 ho)]
    rw [first_least (inc := incD d) (tot := totD d) (totD_snoc d) d.length [] (Pre.nil _) (by simp)]
    rfl
  · simp only [if_neg c1]
    exact Ev.now _

theorem bestO_len {n : Nat} {inc : List Int → Int → Int} : ∀ (f : Nat) (pre : List Int), (bestO n inc f pre).length ≤ pre.length + f
  | 0, pre => by simp [bestO]
  | f + 1, pre => by
    rw [bestO]
    cases pick (fun k => inc pre k + restC n inc f (pre ++ [k])) (fun k => !decide (k ∈ pre)) (idxs n) with
    | none => simp only; omega
    | some q =>
      obtain ⟨k, v⟩ := q
      have := bestO_len (n := n) (inc := inc) f (pre ++ [k])
      rw [List.length_append, List.length_singleton] at this
      simp only
      omega
theorem FnExactBestDay : laws_FnExactBestDay.Pure := by
  intro d _ _ _
  refine Ev.rounds ?_
  unfold laws_FnExactBestDay.f
  by_cases c : (d.length : Int) > 1048576
  · simp only [if_pos c]
    exact Ev.now _
  · simp only [if_neg c]
    have hd := toIntS_f d (by omega)
    have hI := bestDayI d (by omega)
    have hS := bestDayS d (by omega)
    have hlen : (if doughsOk d = true then (bestO d.length (incD d) d.length [], true) else ([], false)).1.length ≤ 1000000000 := by
      split
      · have := bestO_len (n := d.length) (inc := incD d) d.length []
        simp at this
        simp only
        omega
      · simp
    generalize (if doughsOk d = true then (bestO d.length (incD d) d.length [], true) else ([], false)) = v at hI hS hlen
    obtain ⟨v, ok⟩ := v
    simp only at hlen
    obtain ⟨m, b, hm1, hh, h0⟩ := mark_held v hlen
    obtain ⟨m', b', hm', e'⟩ := mark_held d (by omega)
    have he : Ev (fun k => laws_eqIntS.f k v v) true := by
      have h := eqIntS_f v v hlen
      rwa [decide_eq_true rfl] at h
    refine Ev.bind hd (Ev.bind hS (Ev.bind hd (Ev.bind hI (Ev.bind he ?_))))
    simp only [if_true, bne_self_eq_false]
    refine ev_next (f := fun k => (laws_toIntS.f k d).bind fun t171 => ((laws_eqIntS.f k d t171).bind fun t174 => (if t174 = true then ((laws_markIntS.f k d 1).bind fun bt175 => (if bt175.1 < 0 then (laws_FnExactBestDay.j1 k d v ok v true) else ((laws_eqIntS.f k v v).bind fun t177 => (if t177 = true then (laws_FnExactBestDay.j1 k d v ok v (ok != ok)) else (laws_FnExactBestDay.j1 k d v ok v true))))) else (some false)))) (fun k => ?_) _ ?_
    · simp only [laws_FnExactBestDay.j0]
      rw [if_neg (by decide)]
    refine Ev.bind hd (Ev.bind (eqIntS_same d (by omega)) ?_)
    simp only [if_true]
    refine Ev.bind hm' ?_
    simp only [if_neg (show ¬ m' < 0 by omega)]
    refine Ev.bind he ?_
    simp only [if_true, bne_self_eq_false]
    refine ev_next (f := fun k => (laws_markIntS.f k v 1).bind fun bt178 => ((laws_heldIntS.f k bt178.2 1).bind fun t180 => (if t180 < 0 then (some false) else (if t180 = bt178.1 then ((laws_toIntS.f k d).bind fun t181 => ((impl_BestDay.f k t181).bind fun bt184 => ((laws_eqIntS.f k bt184.1 v).bind fun t188 => (if t188 = true then (laws_FnExactBestDay.j2 k bt178.2 bt178.1 (bt184.2 != ok)) else (laws_FnExactBestDay.j2 k bt178.2 bt178.1 true))))) else (some false))))) (fun k => ?_) _ ?_
    · simp only [laws_FnExactBestDay.j1]
      rw [if_neg (by decide)]
    refine Ev.bind hm1 (Ev.bind hh ?_)
    simp only [if_neg (show ¬ m < 0 by omega), if_true]
    refine Ev.bind hd (Ev.bind hI (Ev.bind he ?_))
    simp only [if_true, bne_self_eq_false]
    refine ev_next (f := fun k => (laws_heldIntS.f k b 1).bind fun t189 => (if t189 < 0 then (some false) else (if t189 = m then (some true) else (some false)))) (fun k => ?_) _ ?_
    · simp only [laws_FnExactBestDay.j2]
      rw [if_neg (by decide)]
    refine Ev.bind hh ?_
    simp only [if_neg (show ¬ m < 0 by omega), if_true]
    exact Ev.now _
end Go.Proofs.Ytkcfpkokgpimaaa.Pure
