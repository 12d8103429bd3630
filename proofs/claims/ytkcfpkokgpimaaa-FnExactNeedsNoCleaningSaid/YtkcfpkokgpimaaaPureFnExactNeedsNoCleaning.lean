/- The program's NeedsNoCleaning and the reference's answer alike, for all arguments. No condition. -/
import Derived.Test.YtkcfpkokgpimaaaPFnExactNeedsNoCleaningx2
import Derived.Test.YtkcfpkokgpimaaaBase
namespace Go.Proofs.Ytkcfpkokgpimaaa.Pure
open Go.RowKit Go.Proofs.Ytkcfpkokgpimaaa.PFnExactNeedsNoCleaning Go.Proofs.YtkcfpkokgpimaaaW.PrintWords Go.Proofs.YtkcfpkokgpimaaaW.PrintLast Go.Proofs.YtkcfpkokgpimaaaW.PrintMore Go.Proofs.Ytkcfpkokgpimaaa.Base
set_option linter.unusedVariables false
set_option linter.unusedSimpArgs false
theorem l01In_f (a b c : Int) : spec_l01In.f a b c = some (decide (b ≤ a ∧ a ≤ c)) := by
  unfold spec_l01In.f
  by_cases h : b ≤ a <;> simp [h]
/-- Two lists are told alike, element by element. -/
theorem eqIntS_f (a b : List Int) (hb : a.length ≤ 1000000000) : Ev (fun k => laws_eqIntS.f k a b) (decide (a = b)) := by
  unfold laws_eqIntS.f
  by_cases c : a.length = b.length
  · simp only [if_pos (show (a.length : Int) = (b.length : Int) by omega)]
    have h := ev_all (fun k i => laws_eqIntS.l0 k a b i) a.length (fun i => decide (rd a (i : Int) = rd b (i : Int))) false true (fun k i hi => by
      simp only [laws_eqIntS.l0]
      rw [if_pos (by omega), if_pos (by omega), if_pos (by omega), w64 (by omega) (by omega)]
      by_cases e : rd a (i : Int) = rd b (i : Int)
      · rw [if_pos e, if_pos (by simpa using e)]
      · rw [if_neg e, if_neg (by simpa using e)]) (fun k => by simp only [laws_eqIntS.l0]; rw [if_neg (by omega)])
    have e : (if (List.range a.length).all (fun i => decide (rd a (i : Int) = rd b (i : Int))) = true then true else false) = decide (a = b) := by
      by_cases e : a = b
      · subst e
        rw [if_pos (by simp)]
        simp
      · rw [if_neg]
        · simp [e]
        · intro hall
          refine e (List.ext_getElem c fun i h1 h2 => ?_)
          have := (List.all_eq_true.1 hall) i (List.mem_range.2 h1)
          rw [decide_eq_true_eq, rd_get _ _ h1, rd_get _ _ h2] at this
          exact this
    rw [e] at h
    exact h
  · simp only [if_neg (show ¬ (a.length : Int) = (b.length : Int) by omega)]
    refine ev_const ?_
    have : a ≠ b := fun e => c (by rw [e])
    simp [this]
theorem toIntS_f (l : List Int) (hb : l.length ≤ 1048576) : Ev (fun k => laws_toIntS.f k l) l := by
  unfold laws_toIntS.f
  simp only [if_pos (show (0 : Int) ≤ (l.length : Int) by omega), Int.toNat_natCast, if_pos (show l.length ≤ 35184372088832 by omega)]
  have h := ev_copy (fun k s i => laws_toIntS.l0 k l s i) l 0 id 0 (fun k s i hi hs => by
    simp (disch := omega) only [laws_toIntS.l0, if_pos, w64]
    simp only [rd, Int.toNat_natCast, id]) (fun k s => by
    simp only [laws_toIntS.l0]
    rw [if_neg (by omega)])
  rwa [List.map_id] at h
theorem eqIntS_same (l : List Int) (hb : l.length ≤ 1000000000) : Ev (fun k => laws_eqIntS.f k l l) true := by
  have h := eqIntS_f l l hb
  rwa [decide_eq_true rfl] at h
/-- All numbers of a list are in a range. -/
def allOk (l : List Int) (a b : Int) : Bool := l.all fun x => decide (a ≤ x ∧ x ≤ b)
theorem allOk_mem {l : List Int} {a b : Int} (h : allOk l a b = true) : ∀ x ∈ l, a ≤ x ∧ x ≤ b := by
  intro x hx
  simpa using (List.all_eq_true.1 h) x hx
theorem allIn_f (l : List Int) (a b : Int) : impl_allIn.f l a b = some (allOk l a b) := rfl
/-- The reference's loop that asks the same. -/
theorem all_loop {R : Type} (F : Nat → Int → Option R) (l : List Int) (a b : Int) (r0 r1 : R)
    (hstep : ∀ (k : Nat) (i : Nat), i < l.length → F (k + 1) (i : Int) = if (decide (a ≤ rd l (i : Int) ∧ rd l (i : Int) ≤ b)) = true then F k ((i : Int) + 1) else some r0)
    (hend : ∀ (k : Nat), F (k + 1) (l.length : Int) = some r1) : Ev (fun k => F k 0) (if allOk l a b = true then r1 else r0) := by
  have h := ev_all F l.length (fun i => decide (a ≤ l.getD i 0 ∧ l.getD i 0 ≤ b)) r0 r1 (fun k i hi => by rw [hstep k i hi, rd_eq]) hend
  have e := all_range l 0 (fun x => decide (a ≤ x ∧ x ≤ b))
  rw [e] at h
  exact h
theorem bv_andnot (a b : BitVec 64) : a &&& ~~~b = 0#64 ↔ a ||| b = b := by
  constructor
  · intro h
    apply BitVec.eq_of_getLsbD_eq
    intro i hi
    have := congrArg (fun v : BitVec 64 => v.getLsbD i) h
    simp only [BitVec.getLsbD_and, BitVec.getLsbD_not, BitVec.getLsbD_zero, hi, decide_true, Bool.true_and] at this
    rw [BitVec.getLsbD_or]
    cases ha : a.getLsbD i <;> cases hb : b.getLsbD i <;> simp_all
  · intro h
    apply BitVec.eq_of_getLsbD_eq
    intro i hi
    have := congrArg (fun v : BitVec 64 => v.getLsbD i) h
    simp only [BitVec.getLsbD_or] at this
    simp only [BitVec.getLsbD_and, BitVec.getLsbD_not, BitVec.getLsbD_zero, hi, decide_true, Bool.true_and]
    cases ha : a.getLsbD i <;> cases hb : b.getLsbD i <;> simp_all
theorem or_nat (a b : Nat) (ha : a ≤ 255) (hb : b ≤ 255) : Go.bits .or .i64 (a : Int) (b : Int) = ((a ||| b : Nat) : Int) :=
  (bits_nat .i64 8 (by decide) (fun n h0 h1 => by rw [IntKind.wrap_i64]; omega) a b (by omega) (by omega)).2
theorem or_lt (a b : Nat) (ha : a ≤ 255) (hb : b ≤ 255) : a ||| b ≤ 255 := by
  have := Nat.or_lt_two_pow (n := 8) (x := a) (y := b) (by omega) (by omega)
  omega
theorem or_range (x y : Int) (hx : 0 ≤ x ∧ x ≤ 255) (hy : 0 ≤ y ∧ y ≤ 255) : 0 ≤ Go.bits .or .i64 x y ∧ Go.bits .or .i64 x y ≤ 255 := by
  obtain ⟨a, rfl⟩ := Int.eq_ofNat_of_zero_le hx.1
  obtain ⟨b, rfl⟩ := Int.eq_ofNat_of_zero_le hy.1
  rw [or_nat a b (by omega) (by omega)]
  have := or_lt a b (by omega) (by omega)
  omega
theorem andnot_iff (x y : Int) (hx : 0 ≤ x ∧ x ≤ 255) (hy : 0 ≤ y ∧ y ≤ 255) : Go.bits .andNot .i64 x y = 0 ↔ Go.bits .or .i64 x y = y := by
  obtain ⟨a, rfl⟩ := Int.eq_ofNat_of_zero_le hx.1
  obtain ⟨b, rfl⟩ := Int.eq_ofNat_of_zero_le hy.1
  have e1 : Go.bits .andNot .i64 (a : Int) (b : Int) = IntKind.i64.wrap (((BitVec.ofInt 64 (a : Int)) &&& ~~~(BitVec.ofInt 64 (b : Int))).toNat : Int) := rfl
  have e2 : (IntKind.i64.wrap (((BitVec.ofInt 64 (a : Int)) &&& ~~~(BitVec.ofInt 64 (b : Int))).toNat : Int) = 0) ↔ (BitVec.ofInt 64 (a : Int)) &&& ~~~(BitVec.ofInt 64 (b : Int)) = 0#64 := by
    rw [IntKind.wrap_i64]
    constructor
    · intro h
      apply BitVec.eq_of_toNat_eq
      have := ((BitVec.ofInt 64 (a : Int)) &&& ~~~(BitVec.ofInt 64 (b : Int))).isLt
      simp only [BitVec.toNat_ofNat]
      generalize ((BitVec.ofInt 64 (a : Int)) &&& ~~~(BitVec.ofInt 64 (b : Int))).toNat = q at *
      omega
    · intro h
      rw [h]
      decide
  rw [e1, e2, bv_andnot, or_nat a b (by omega) (by omega)]
  constructor
  · intro h
    have := congrArg BitVec.toNat h
    rw [BitVec.toNat_or, BitVec.ofInt_natCast, BitVec.ofInt_natCast, BitVec.toNat_ofNat, BitVec.toNat_ofNat, Nat.mod_eq_of_lt (by omega), Nat.mod_eq_of_lt (by omega)] at this
    omega
  · intro h
    apply BitVec.eq_of_toNat_eq
    rw [BitVec.toNat_or, BitVec.ofInt_natCast, BitVec.ofInt_natCast, BitVec.toNat_ofNat, BitVec.toNat_ofNat, Nat.mod_eq_of_lt (by omega), Nat.mod_eq_of_lt (by omega)]
    omega
theorem l16_f (l : List Int) (m : Int) (hb : l.length ≤ 1048576) : Ev (fun k => spec_l16Ok.f k l m) (allOk l 0 255 && decide ((l.length : Int) ≤ m)) := by
  unfold spec_l16Ok.f
  have h := all_loop (fun k i => spec_l16Ok.l0 k l m i) l 0 255 false (decide ((l.length : Int) ≤ m)) (fun k i hi => by
    simp (disch := omega) only [spec_l16Ok.l0, l01In_f, Option.bind_some, if_pos, w64]) (fun k => by
    simp only [spec_l16Ok.l0]
    rw [if_neg (by omega)])
  cases c : allOk l 0 255
  · rw [c] at h
    simpa using h
  · rw [c] at h
    simpa using h
def doughsOk (l : List Int) : Bool := allOk l 0 255 && decide ((l.length : Int) ≤ 8)
theorem doughsI (l : List Int) : impl_areDoughs.f l = some (doughsOk l) := by
  unfold impl_areDoughs.f doughsOk
  rw [allIn_f]
  by_cases c : (l.length : Int) ≤ 8
  · rw [if_pos c]
    simp [c]
  · rw [if_neg c]
    simp [c]
theorem doughsOk_iff (l : List Int) : doughsOk l = true ↔ (∀ x ∈ l, 0 ≤ x ∧ x ≤ 255) ∧ l.length ≤ 8 := by
  unfold doughsOk
  rw [Bool.and_eq_true, decide_eq_true_eq]
  constructor
  · intro h
    exact ⟨allOk_mem h.1, by omega⟩
  · intro h
    refine ⟨?_, by omega⟩
    unfold allOk
    rw [List.all_eq_true]
    intro x hx
    simpa using h.1 x hx
/-- A loop in a loop that asks each pair. -/
theorem ev_pairs (F0 : Nat → Int → Option Bool) (F1 : Nat → Int → Int → Option Bool) (n : Nat) (hn : n ≤ 1048576) (c : Nat → Nat → Bool) (fin : Bool)
    (h0 : ∀ (k i : Nat), i < n → F0 (k + 1) (i : Int) = F1 k (i : Int) 0) (h0e : Ev (fun k => F0 k (n : Int)) fin)
    (h1 : ∀ (k i j : Nat), i < n → j < i → F1 (k + 1) (i : Int) (j : Int) = if c i j = true then F1 k (i : Int) ((j : Int) + 1) else some false)
    (h1e : ∀ (k i : Nat), i < n → F1 (k + 1) (i : Int) (i : Int) = F0 k ((i : Int) + 1)) :
    Ev (fun k => F0 k 0) (((List.range n).all fun i => (List.range i).all (c i)) && fin) := by
  have h := ev_to (fun k (_ : Unit) i => F0 k i) n (fun i _ => ((List.range i).all fun i => (List.range i).all (c i)) = true) (((List.range n).all fun i => (List.range i).all (c i)) && fin) (fun i s hi hp => by
      by_cases hc : (List.range i).all (c i) = true
      · refine .inl ⟨(), ?_, fun r hr => ?_⟩
        · rw [List.range_succ, List.all_append, hp]
          simp only [List.all_cons, List.all_nil, hc, Bool.and_self]
        · refine ev_next (fun k => h0 k i hi) r ?_
          have h2 := ev_to (fun k (_ : Unit) j => F1 k (i : Int) j) i (fun _ _ => True) r (fun j _ hj _ => .inl ⟨(), trivial, fun r hr => ev_next (fun k => by
              rw [h1 k i j hi hj, if_pos ((List.all_eq_true.1 hc) j (List.mem_range.2 hj))]) r hr⟩) (fun _ _ => ev_next (fun k => h1e k i hi) r hr) 0 () (Nat.zero_le _) trivial
          exact h2
      · refine .inr ?_
        have hf : (((List.range n).all fun i => (List.range i).all (c i)) && fin) = false := by
          rw [Bool.and_eq_false_iff]
          left
          rw [Bool.eq_false_iff]
          intro ha
          exact hc ((List.all_eq_true.1 ha) i (List.mem_range.2 hi))
        rw [hf]
        refine ev_next (fun k => h0 k i hi) _ ?_
        have h2 := ev_to (fun k (_ : Unit) j => F1 k (i : Int) j) i (fun j _ => (List.range j).all (c i) = true) false (fun j _ hj hp => by
            by_cases e : c i j = true
            · refine .inl ⟨(), ?_, fun r hr => ev_next (fun k => by rw [h1 k i j hi hj, if_pos e]) r hr⟩
              rw [List.range_succ, List.all_append, hp]
              simp [e]
            · exact .inr (ev_now fun k => by rw [h1 k i j hi hj, if_neg e])) (fun _ hp => absurd hp hc) 0 () (Nat.zero_le _) rfl
        exact h2) (fun _ hp => by
      rw [hp, Bool.true_and]
      exact h0e) 0 () (Nat.zero_le _) rfl
  exact h
/-- One of two sets is in the other. -/
def inOne (x y : Int) : Bool := decide (Go.bits .or .i64 x y = x ∨ Go.bits .or .i64 x y = y)
def needV (l : List Int) : Bool := ((List.range l.length).all fun i => (List.range i).all fun j => inOne (l.getD i 0) (l.getD j 0)) && doughsOk l
theorem or_comm_i (x y : Int) (hx : 0 ≤ x ∧ x ≤ 255) (hy : 0 ≤ y ∧ y ≤ 255) : Go.bits .or .i64 x y = Go.bits .or .i64 y x := by
  obtain ⟨a, rfl⟩ := Int.eq_ofNat_of_zero_le hx.1
  obtain ⟨b, rfl⟩ := Int.eq_ofNat_of_zero_le hy.1
  rw [or_nat a b (by omega) (by omega), or_nat b a (by omega) (by omega), Nat.or_comm]
theorem needS (l : List Int) (hb : l.length ≤ 1048576) : Ev (fun k => spec_NeedsNoCleaning.f k l) (needV l) := by
  unfold spec_NeedsNoCleaning.f
  refine Ev.bind (l16_f l 8 hb) ?_
  have e : (allOk l 0 255 && decide ((l.length : Int) ≤ 8)) = doughsOk l := rfl
  rw [e]
  unfold needV
  by_cases c : doughsOk l = true
  · simp only [if_pos c]
    rw [c]
    exact ev_pairs (fun k i => spec_NeedsNoCleaning.l0 k l i) (fun k i j => spec_NeedsNoCleaning.l1 k l i j) l.length hb (fun i j => inOne (l.getD i 0) (l.getD j 0)) true (fun k i hi => by
      simp only [spec_NeedsNoCleaning.l0]
      rw [if_pos (by omega)]) (ev_now fun k => by
      simp only [spec_NeedsNoCleaning.l0]
      rw [if_neg (by omega)]) (fun k i j hi hj => by
      simp only [spec_NeedsNoCleaning.l1]
      rw [if_pos (by omega), if_pos (by omega), if_pos (by omega), if_pos (by omega), if_pos (by omega), w64 (by omega) (by omega), rd_eq, rd_eq]
      unfold inOne
      by_cases d1 : Go.bits .or .i64 (l.getD i 0) (l.getD j 0) = l.getD i 0
      · rw [if_pos d1, if_pos (decide_eq_true (.inl d1))]
      · rw [if_neg d1]
        by_cases d2 : Go.bits .or .i64 (l.getD i 0) (l.getD j 0) = l.getD j 0
        · rw [if_pos d2, if_pos (decide_eq_true (.inr d2))]
        · rw [if_neg d2, if_neg (fun h => (of_decide_eq_true h).elim d1 d2)]) (fun k i hi => by
      simp only [spec_NeedsNoCleaning.l1]
      rw [if_neg (by omega), w64 (by omega) (by omega)])
  · simp only [if_neg c]
    rw [Bool.eq_false_iff.2 c, Bool.and_false]
    exact Ev.now _
def inOneI (x y : Int) : Bool := decide (Go.bits .andNot .i64 x y = 0 ∨ Go.bits .andNot .i64 y x = 0)
theorem needI (l : List Int) (hb : l.length ≤ 1048576) : Ev (fun k => impl_NeedsNoCleaning.f k l) (needV l) := by
  unfold impl_NeedsNoCleaning.f
  have h := ev_pairs (fun k i => impl_NeedsNoCleaning.l0 k l l (l.length : Int) i) (fun k i j => impl_NeedsNoCleaning.l1 k l (rd l i) l (l.length : Int) i (l.take i.toNat) ((l.take i.toNat).length : Int) j) l.length hb (fun i j => inOneI (l.getD i 0) (l.getD j 0)) (doughsOk l) (fun k i hi => by
      simp only [impl_NeedsNoCleaning.l0]
      rw [if_pos (by omega), if_pos (by omega), if_pos (by omega), if_pos (by omega)]) (ev_now fun k => by
      simp only [impl_NeedsNoCleaning.l0, doughsI, Option.bind_some]
      rw [if_neg (by omega)]) (fun k i j hi hj => by
      have hl : (l.take (i : Int).toNat).length = i := by rw [Int.toNat_natCast, List.length_take]; omega
      have hr : rd (l.take (i : Int).toNat) (j : Int) = l.getD j 0 := by
        rw [Int.toNat_natCast, rd_eq, List.getD_eq_getElem?_getD, List.getElem?_take_of_lt hj, ← List.getD_eq_getElem?_getD]
      simp only [impl_NeedsNoCleaning.l1]
      rw [if_pos (by omega), if_pos (by omega), if_pos (by omega), w64 (by omega) (by omega), hr, rd_eq]
      unfold inOneI
      by_cases d1 : Go.bits .andNot .i64 (l.getD i 0) (l.getD j 0) = 0
      · rw [if_pos d1, if_pos (decide_eq_true (.inl d1))]
      · rw [if_neg d1]
        by_cases d2 : Go.bits .andNot .i64 (l.getD j 0) (l.getD i 0) = 0
        · rw [if_pos d2, if_pos (decide_eq_true (.inr d2))]
        · rw [if_neg d2, if_neg (fun h => (of_decide_eq_true h).elim d1 d2)]) (fun k i hi => by
      have hl : (l.take (i : Int).toNat).length = i := by rw [Int.toNat_natCast, List.length_take]; omega
      simp only [impl_NeedsNoCleaning.l1]
      rw [if_neg (by omega), w64 (by omega) (by omega)])
  have e : (((List.range l.length).all fun i => (List.range i).all fun j => inOneI (l.getD i 0) (l.getD j 0)) && doughsOk l) = needV l := by
    unfold needV
    by_cases c : doughsOk l = true
    · rw [c, Bool.and_true, Bool.and_true]
      have hm := ((doughsOk_iff l).1 c).1
      have key : ∀ i j, i < l.length → j < i → inOneI (l.getD i 0) (l.getD j 0) = inOne (l.getD i 0) (l.getD j 0) := by
        intro i j hi hj
        have e1 : l.getD i 0 = l[i] := by rw [List.getD_eq_getElem?_getD, List.getElem?_eq_getElem hi]; rfl
        have e2 : l.getD j 0 = l[j] := by rw [List.getD_eq_getElem?_getD, List.getElem?_eq_getElem (by omega)]; rfl
        have h1 := hm _ (List.getElem_mem hi)
        have h2 := hm _ (List.getElem_mem (show j < l.length by omega))
        rw [e1, e2]
        unfold inOneI inOne
        refine decide_eq_decide.2 ?_
        rw [andnot_iff _ _ h1 h2, andnot_iff _ _ h2 h1, or_comm_i _ _ h2 h1]
        exact Or.comm
      rw [Bool.eq_iff_iff, List.all_eq_true, List.all_eq_true]
      constructor
      · intro ha i hi
        have := ha i hi
        rw [List.all_eq_true] at this ⊢
        intro j hj
        rw [← key i j (List.mem_range.1 hi) (List.mem_range.1 hj)]
        exact this j hj
      · intro ha i hi
        have := ha i hi
        rw [List.all_eq_true] at this ⊢
        intro j hj
        rw [key i j (List.mem_range.1 hi) (List.mem_range.1 hj)]
        exact this j hj
    · rw [Bool.eq_false_iff.2 c, Bool.and_false, Bool.and_false]
  rw [e] at h
  exact h
theorem FnExactNeedsNoCleaning : laws_FnExactNeedsNoCleaning.Pure := by
  intro l  _ _ _ 
  refine Ev.rounds ?_
  unfold laws_FnExactNeedsNoCleaning.f
  by_cases c : (l.length : Int) > 1048576
  · simp only [if_pos c]
    exact Ev.now _
  · simp only [if_neg c]
    have ht := toIntS_f l (by omega)
    refine Ev.bind ht (Ev.bind (needS l  (by omega)) (Ev.bind ht (Ev.bind (needI l  (by omega)) ?_)))
    simp only [bne_self_eq_false, Bool.false_eq_true, if_false]
    refine Ev.bind ht (Ev.bind (eqIntS_same l (by omega)) ?_)
    simp only [if_true]
    exact Ev.now _
end Go.Proofs.Ytkcfpkokgpimaaa.Pure
