/- No order of doughs is cleaned more cheaply, and a chain needs no cleaning: the law FnCleanings answers true for every input. No condition. -/
import Derived.Test.YtkcfpkokgpimaaaPFnCleaningsx5
import Derived.Test.YtkcfpkokgpimaaaBase
namespace Go.Proofs.Ytkcfpkokgpimaaa.Pure
open Go.RowKit Go.Proofs.Ytkcfpkokgpimaaa.PFnCleanings Go.Proofs.YtkcfpkokgpimaaaW.PrintWords Go.Proofs.YtkcfpkokgpimaaaW.PrintLast Go.Proofs.YtkcfpkokgpimaaaW.PrintMore Go.Proofs.Ytkcfpkokgpimaaa.Base
set_option linter.unusedVariables false
set_option linter.unusedSimpArgs false
theorem in_f (a b c : Int) : impl_in.f a b c = some (decide (b ≤ a ∧ a ≤ c)) := by
  unfold impl_in.f
  by_cases h : b ≤ a <;> simp [h]
/-- All numbers of a list are in a range. -/
def allOk (l : List Int) (a b : Int) : Bool := l.all fun x => decide (a ≤ x ∧ x ≤ b)
theorem allOk_mem {l : List Int} {a b : Int} (h : allOk l a b = true) : ∀ x ∈ l, a ≤ x ∧ x ≤ b := by
  intro x hx
  simpa using (List.all_eq_true.1 h) x hx
theorem allIn_f (l : List Int) (a b : Int) : impl_allIn.f l a b = some (allOk l a b) := rfl
/-- The reference's loop that asks the same. -/
theorem all_loop {R : Type} (F : Nat → Int → Option R) (l : List Int) (a b : Int) (r0 r1 : R)
    (hstep : ∀ (k : Nat) (i : Nat), i < l.length → F (k + 1) (i : Int) = if (decide (a ≤ rd l (i : Int) ∧ rd l (i : Int) ≤ b)) = true then F k ((i : Int) + 1) else some r0)
    (hend : ∀ (k : Nat), F (k + 1) (l.length : Int) = some r1) : Ev (fun k => F k 0) (if allOk l a b = true then r1 else r0) := by
  have h := ev_all F l.length (fun i => decide (a ≤ l.getD i 0 ∧ l.getD i 0 ≤ b)) r0 r1 (fun k i hi => by rw [hstep k i hi, rd_eq]) hend
  have e := all_range l 0 (fun x => decide (a ≤ x ∧ x ≤ b))
  rw [e] at h
  exact h
theorem bv_andnot (a b : BitVec 64) : a &&& ~~~b = 0#64 ↔ a ||| b = b := by
  constructor
  · intro h
    apply BitVec.eq_of_getLsbD_eq
    intro i hi
    have := congrArg (fun v : BitVec 64 => v.getLsbD i) h
    simp only [BitVec.getLsbD_and, BitVec.getLsbD_not, BitVec.getLsbD_zero, hi, decide_true, Bool.true_and] at this
    rw [BitVec.getLsbD_or]
    cases ha : a.getLsbD i <;> cases hb : b.getLsbD i <;> simp_all
  · intro h
    apply BitVec.eq_of_getLsbD_eq
    intro i hi
    have := congrArg (fun v : BitVec 64 => v.getLsbD i) h
    simp only [BitVec.getLsbD_or] at this
    simp only [BitVec.getLsbD_and, BitVec.getLsbD_not, BitVec.getLsbD_zero, hi, decide_true, Bool.true_and]
    cases ha : a.getLsbD i <;> cases hb : b.getLsbD i <;> simp_all
theorem or_nat (a b : Nat) (ha : a ≤ 255) (hb : b ≤ 255) : Go.bits .or .i64 (a : Int) (b : Int) = ((a ||| b : Nat) : Int) :=
  (bits_nat .i64 8 (by decide) (fun n h0 h1 => by rw [IntKind.wrap_i64]; omega) a b (by omega) (by omega)).2
theorem or_lt (a b : Nat) (ha : a ≤ 255) (hb : b ≤ 255) : a ||| b ≤ 255 := by
  have := Nat.or_lt_two_pow (n := 8) (x := a) (y := b) (by omega) (by omega)
  omega
theorem or_range (x y : Int) (hx : 0 ≤ x ∧ x ≤ 255) (hy : 0 ≤ y ∧ y ≤ 255) : 0 ≤ Go.bits .or .i64 x y ∧ Go.bits .or .i64 x y ≤ 255 := by
  obtain ⟨a, rfl⟩ := Int.eq_ofNat_of_zero_le hx.1
  obtain ⟨b, rfl⟩ := Int.eq_ofNat_of_zero_le hy.1
  rw [or_nat a b (by omega) (by omega)]
  have := or_lt a b (by omega) (by omega)
  omega
theorem andnot_iff (x y : Int) (hx : 0 ≤ x ∧ x ≤ 255) (hy : 0 ≤ y ∧ y ≤ 255) : Go.bits .andNot .i64 x y = 0 ↔ Go.bits .or .i64 x y = y := by
  obtain ⟨a, rfl⟩ := Int.eq_ofNat_of_zero_le hx.1
  obtain ⟨b, rfl⟩ := Int.eq_ofNat_of_zero_le hy.1
  have e1 : Go.bits .andNot .i64 (a : Int) (b : Int) = IntKind.i64.wrap (((BitVec.ofInt 64 (a : Int)) &&& ~~~(BitVec.ofInt 64 (b : Int))).toNat : Int) := rfl
  have e2 : (IntKind.i64.wrap (((BitVec.ofInt 64 (a : Int)) &&& ~~~(BitVec.ofInt 64 (b : Int))).toNat : Int) = 0) ↔ (BitVec.ofInt 64 (a : Int)) &&& ~~~(BitVec.ofInt 64 (b : Int)) = 0#64 := by
    rw [IntKind.wrap_i64]
    constructor
    · intro h
      apply BitVec.eq_of_toNat_eq
      have := ((BitVec.ofInt 64 (a : Int)) &&& ~~~(BitVec.ofInt 64 (b : Int))).isLt
      simp only [BitVec.toNat_ofNat]
      generalize ((BitVec.ofInt 64 (a : Int)) &&& ~~~(BitVec.ofInt 64 (b : Int))).toNat = q at *
      omega
    · intro h
      rw [h]
      decide
  rw [e1, e2, bv_andnot, or_nat a b (by omega) (by omega)]
  constructor
  · intro h
    have := congrArg BitVec.toNat h
    rw [BitVec.toNat_or, BitVec.ofInt_natCast, BitVec.ofInt_natCast, BitVec.toNat_ofNat, BitVec.toNat_ofNat, Nat.mod_eq_of_lt (by omega), Nat.mod_eq_of_lt (by omega)] at this
    omega
  · intro h
    apply BitVec.eq_of_toNat_eq
    rw [BitVec.toNat_or, BitVec.ofInt_natCast, BitVec.ofInt_natCast, BitVec.toNat_ofNat, BitVec.toNat_ofNat, Nat.mod_eq_of_lt (by omega), Nat.mod_eq_of_lt (by omega)]
    omega
def pop (n : Nat) : Int := ((List.range 8).map fun k => ((n / 2 ^ k % 2 : Nat) : Int)).sum
theorem pop_bd (n : Nat) : 0 ≤ pop n ∧ pop n ≤ 8 := by
  unfold pop
  simp [List.range, List.range.loop]
  omega
def costV (x y : Int) : Int := if (0 ≤ x ∧ x ≤ 255) ∧ (0 ≤ y ∧ y ≤ 255) then (if Go.bits .or .i64 x y = y then 0 else 5 + pop x.toNat) else -1
theorem costV_bd (x y : Int) : -1 ≤ costV x y ∧ costV x y ≤ 13 := by
  have := pop_bd x.toNat
  unfold costV
  split
  · split <;> omega
  · omega
theorem ones_all : ((List.range 256).all fun n => decide (bits_OnesCount.f (IntKind.u64.wrap (n : Int)) = some (pop n))) = true := by decide +kernel
theorem costI (x y : Int) : Ev (fun k => impl_CleanCost.f k x y) (costV x y) := by
  unfold impl_CleanCost.f impl_isThings.f costV
  simp only [in_f, Option.bind_some, decide_eq_true_eq]
  by_cases c1 : 0 ≤ x ∧ x ≤ 255
  · simp only [if_pos c1]
    by_cases c2 : 0 ≤ y ∧ y ≤ 255
    · rw [if_pos ⟨c1, c2⟩]
      refine ev_now fun k => ?_
      simp only [impl_CleanCost.j0]
      rw [if_neg (by simp; omega)]
      by_cases c : Go.bits .or .i64 x y = y
      · rw [if_pos ((andnot_iff x y c1 c2).2 c), if_pos c]
      · rw [if_neg (fun h => c ((andnot_iff x y c1 c2).1 h)), if_neg c]
        have h := (List.all_eq_true.1 ones_all) x.toNat (List.mem_range.2 (by omega))
        rw [decide_eq_true_eq, show ((x.toNat : Nat) : Int) = x by omega] at h
        rw [h]
        have := pop_bd x.toNat
        simp only [Option.bind_some]
        rw [w64 (by omega) (by omega)]
    · rw [if_neg (fun h => c2 h.2)]
      exact ev_now fun k => by simp only [impl_CleanCost.j0]; rw [if_pos (by simp; omega)]
  · simp only [if_neg c1]
    rw [if_neg (fun h => c1 h.1)]
    exact ev_now fun k => rfl
def doughsOk (l : List Int) : Bool := allOk l 0 255 && decide ((l.length : Int) ≤ 8)
theorem doughsI (l : List Int) : impl_areDoughs.f l = some (doughsOk l) := by
  unfold impl_areDoughs.f doughsOk
  rw [allIn_f]
  by_cases c : (l.length : Int) ≤ 8
  · rw [if_pos c]
    simp [c]
  · rw [if_neg c]
    simp [c]
theorem doughsOk_iff (l : List Int) : doughsOk l = true ↔ (∀ x ∈ l, 0 ≤ x ∧ x ≤ 255) ∧ l.length ≤ 8 := by
  unfold doughsOk
  rw [Bool.and_eq_true, decide_eq_true_eq]
  constructor
  · intro h
    exact ⟨allOk_mem h.1, by omega⟩
  · intro h
    refine ⟨?_, by omega⟩
    unfold allOk
    rw [List.all_eq_true]
    intro x hx
    simpa using h.1 x hx
/-- A loop in a loop that asks each pair. -/
theorem ev_pairs (F0 : Nat → Int → Option Bool) (F1 : Nat → Int → Int → Option Bool) (n : Nat) (hn : n ≤ 1048576) (c : Nat → Nat → Bool) (fin : Bool)
    (h0 : ∀ (k i : Nat), i < n → F0 (k + 1) (i : Int) = F1 k (i : Int) 0) (h0e : Ev (fun k => F0 k (n : Int)) fin)
    (h1 : ∀ (k i j : Nat), i < n → j < i → F1 (k + 1) (i : Int) (j : Int) = if c i j = true then F1 k (i : Int) ((j : Int) + 1) else some false)
    (h1e : ∀ (k i : Nat), i < n → F1 (k + 1) (i : Int) (i : Int) = F0 k ((i : Int) + 1)) :
    Ev (fun k => F0 k 0) (((List.range n).all fun i => (List.range i).all (c i)) && fin) := by
  have h := ev_to (fun k (_ : Unit) i => F0 k i) n (fun i _ => ((List.range i).all fun i => (List.range i).all (c i)) = true) (((List.range n).all fun i => (List.range i).all (c i)) && fin) (fun i s hi hp => by
      by_cases hc : (List.range i).all (c i) = true
      · refine .inl ⟨(), ?_, fun r hr => ?_⟩
        · rw [List.range_succ, List.all_append, hp]
          simp only [List.all_cons, List.all_nil, hc, Bool.and_self]
        · refine ev_next (fun k => h0 k i hi) r ?_
          have h2 := ev_to (fun k (_ : Unit) j => F1 k (i : Int) j) i (fun _ _ => True) r (fun j _ hj _ => .inl ⟨(), trivial, fun r hr => ev_next (fun k => by
              rw [h1 k i j hi hj, if_pos ((List.all_eq_true.1 hc) j (List.mem_range.2 hj))]) r hr⟩) (fun _ _ => ev_next (fun k => h1e k i hi) r hr) 0 () (Nat.zero_le _) trivial
          exact h2
      · refine .inr ?_
        have hf : (((List.range n).all fun i => (List.range i).all (c i)) && fin) = false := by
          rw [Bool.and_eq_false_iff]
          left
          rw [Bool.eq_false_iff]
          intro ha
          exact hc ((List.all_eq_true.1 ha) i (List.mem_range.2 hi))
        rw [hf]
        refine ev_next (fun k => h0 k i hi) _ ?_
        have h2 := ev_to (fun k (_ : Unit) j => F1 k (i : Int) j) i (fun j _ => (List.range j).all (c i) = true) false (fun j _ hj hp => by
            by_cases e : c i j = true
            · refine .inl ⟨(), ?_, fun r hr => ev_next (fun k => by rw [h1 k i j hi hj, if_pos e]) r hr⟩
              rw [List.range_succ, List.all_append, hp]
              simp [e]
            · exact .inr (ev_now fun k => by rw [h1 k i j hi hj, if_neg e])) (fun _ hp => absurd hp hc) 0 () (Nat.zero_le _) rfl
        exact h2) (fun _ hp => by
      rw [hp, Bool.true_and]
      exact h0e) 0 () (Nat.zero_le _) rfl
  exact h
/-- One of two sets is in the other. -/
def inOne (x y : Int) : Bool := decide (Go.bits .or .i64 x y = x ∨ Go.bits .or .i64 x y = y)
def needV (l : List Int) : Bool := ((List.range l.length).all fun i => (List.range i).all fun j => inOne (l.getD i 0) (l.getD j 0)) && doughsOk l
theorem or_comm_i (x y : Int) (hx : 0 ≤ x ∧ x ≤ 255) (hy : 0 ≤ y ∧ y ≤ 255) : Go.bits .or .i64 x y = Go.bits .or .i64 y x := by
  obtain ⟨a, rfl⟩ := Int.eq_ofNat_of_zero_le hx.1
  obtain ⟨b, rfl⟩ := Int.eq_ofNat_of_zero_le hy.1
  rw [or_nat a b (by omega) (by omega), or_nat b a (by omega) (by omega), Nat.or_comm]
def inOneI (x y : Int) : Bool := decide (Go.bits .andNot .i64 x y = 0 ∨ Go.bits .andNot .i64 y x = 0)
theorem needI (l : List Int) (hb : l.length ≤ 1048576) : Ev (fun k => impl_NeedsNoCleaning.f k l) (needV l) := by
  unfold impl_NeedsNoCleaning.f
  have h := ev_pairs (fun k i => impl_NeedsNoCleaning.l0 k l l (l.length : Int) i) (fun k i j => impl_NeedsNoCleaning.l1 k l (rd l i) l (l.length : Int) i (l.take i.toNat) ((l.take i.toNat).length : Int) j) l.length hb (fun i j => inOneI (l.getD i 0) (l.getD j 0)) (doughsOk l) (fun k i hi => by
      simp only [impl_NeedsNoCleaning.l0]
      rw [if_pos (by omega), if_pos (by omega), if_pos (by omega), if_pos (by omega)]) (ev_now fun k => by
      simp only [impl_NeedsNoCleaning.l0, doughsI, Option.bind_some]
      rw [if_neg (by omega)]) (fun k i j hi hj => by
      have hl : (l.take (i : Int).toNat).length = i := by rw [Int.toNat_natCast, List.length_take]; omega
      have hr : rd (l.take (i : Int).toNat) (j : Int) = l.getD j 0 := by
        rw [Int.toNat_natCast, rd_eq, List.getD_eq_getElem?_getD, List.getElem?_take_of_lt hj, ← List.getD_eq_getElem?_getD]
      simp only [impl_NeedsNoCleaning.l1]
      rw [if_pos (by omega), if_pos (by omega), if_pos (by omega), w64 (by omega) (by omega), hr, rd_eq]
      unfold inOneI
      by_cases d1 : Go.bits .andNot .i64 (l.getD i 0) (l.getD j 0) = 0
      · rw [if_pos d1, if_pos (decide_eq_true (.inl d1))]
      · rw [if_neg d1]
        by_cases d2 : Go.bits .andNot .i64 (l.getD j 0) (l.getD i 0) = 0
        · rw [if_pos d2, if_pos (decide_eq_true (.inr d2))]
        · rw [if_neg d2, if_neg (fun h => (of_decide_eq_true h).elim d1 d2)]) (fun k i hi => by
      have hl : (l.take (i : Int).toNat).length = i := by rw [Int.toNat_natCast, List.length_take]; omega
      simp only [impl_NeedsNoCleaning.l1]
      rw [if_neg (by omega), w64 (by omega) (by omega)])
  have e : (((List.range l.length).all fun i => (List.range i).all fun j => inOneI (l.getD i 0) (l.getD j 0)) && doughsOk l) = needV l := by
    unfold needV
    by_cases c : doughsOk l = true
    · rw [c, Bool.and_true, Bool.and_true]
      have hm := ((doughsOk_iff l).1 c).1
      have key : ∀ i j, i < l.length → j < i → inOneI (l.getD i 0) (l.getD j 0) = inOne (l.getD i 0) (l.getD j 0) := by
        intro i j hi hj
        have e1 : l.getD i 0 = l[i] := by rw [List.getD_eq_getElem?_getD, List.getElem?_eq_getElem hi]; rfl
        have e2 : l.getD j 0 = l[j] := by rw [List.getD_eq_getElem?_getD, List.getElem?_eq_getElem (by omega)]; rfl
        have h1 := hm _ (List.getElem_mem hi)
        have h2 := hm _ (List.getElem_mem (show j < l.length by omega))
        rw [e1, e2]
        unfold inOneI inOne
        refine decide_eq_decide.2 ?_
        rw [andnot_iff _ _ h1 h2, andnot_iff _ _ h2 h1, or_comm_i _ _ h2 h1]
        exact Or.comm
      rw [Bool.eq_iff_iff, List.all_eq_true, List.all_eq_true]
      constructor
      · intro ha i hi
        have := ha i hi
        rw [List.all_eq_true] at this ⊢
        intro j hj
        rw [← key i j (List.mem_range.1 hi) (List.mem_range.1 hj)]
        exact this j hj
      · intro ha i hi
        have := ha i hi
        rw [List.all_eq_true] at this ⊢
        intro j hj
        rw [key i j (List.mem_range.1 hi) (List.mem_range.1 hj)]
        exact this j hj
    · rw [Bool.eq_false_iff.2 c, Bool.and_false, Bool.and_false]
  rw [e] at h
  exact h
def traceStep (l : List Int) (c : List Bool) (s : List Int × Int) (i : Nat) : List Int × Int :=
  (s.1 ++ [Go.bits .or .i64 (if rdOf false c (i : Int) = true then 0 else s.2) (rd l (i : Int))], Go.bits .or .i64 (if rdOf false c (i : Int) = true then 0 else s.2) (rd l (i : Int)))
def traces (l : List Int) (c : List Bool) (n : Nat) : List Int × Int := (List.range n).foldl (traceStep l c) ([], 0)
theorem traces_succ (l : List Int) (c : List Bool) (n : Nat) : traces l c (n + 1) = traceStep l c (traces l c n) n := by
  unfold traces
  rw [List.range_succ, List.foldl_append]
  rfl
theorem traces_len (l : List Int) (c : List Bool) (n : Nat) : (traces l c n).1.length = n := by
  induction n with
  | zero => rfl
  | succ n ih =>
    rw [traces_succ]
    unfold traceStep
    simp [ih]
def tracesV (l : List Int) (c : List Bool) : List Int := if (allOk l 0 255 = true ∧ l.length ≤ 40) ∧ c.length = l.length then (traces l c l.length).1 else []
theorem traceI (l : List Int) (c : List Bool) (hb : l.length ≤ 1048576) (hc : c.length ≤ 1048576) : Ev (fun k => impl_TracesAfter.f k l c) (tracesV l c) := by
  unfold impl_TracesAfter.f tracesV
  by_cases c0 : l.length ≤ 40
  · simp only [if_neg (show ¬ (l.length : Int) > 40 by omega), allIn_f, Option.bind_some]
    by_cases c1 : allOk l 0 255 = true
    · simp only [if_pos c1]
      by_cases c2 : c.length = l.length
      · rw [if_pos ⟨⟨c1, c0⟩, c2⟩]
        refine ev_next (f := fun k => impl_TracesAfter.l0 k c [] 0 l (l.length : Int) 0) (fun k => ?_) _ ?_
        · simp only [impl_TracesAfter.j0]
          rw [if_neg (by simp; omega)]
        · have h := ev_to (fun k (s : List Int × Int) i => impl_TracesAfter.l0 k c s.1 s.2 l (l.length : Int) i) l.length (fun i s => s = traces l c i) (traces l c l.length).1 (fun i s hi hs => by
            subst hs
            refine .inl ⟨_, rfl, fun r hr => ev_next (fun k => ?_) r hr⟩
            have hl := traces_len l c i
            rw [traces_succ]
            unfold traceStep
            generalize traces l c i = s at *
            simp only [impl_TracesAfter.l0]
            rw [if_pos (by omega), if_pos (by omega), if_pos (by omega), if_pos (by omega), w64 (by omega) (by omega)]
            by_cases d : rdOf false c (i : Int) = true
            · simp only [if_pos d]
              rw [if_pos (by omega)]
            · simp only [if_neg d]
              rw [if_pos (by omega)]) (fun s hs => by
            subst hs
            refine ev_now fun k => ?_
            simp only [impl_TracesAfter.l0]
            rw [if_neg (by omega)]) 0 ([], 0) (Nat.zero_le _) rfl
          exact h
      · rw [if_neg (fun h => c2 h.2)]
        exact ev_now fun k => by simp only [impl_TracesAfter.j0]; rw [if_pos (by simp; omega)]
    · simp only [if_neg c1]
      rw [if_neg (fun h => c1 h.1.1)]
      exact ev_now fun k => rfl
  · simp only [if_pos (show (l.length : Int) > 40 by omega)]
    rw [if_neg (fun h => c0 h.1.2)]
    exact ev_now fun k => rfl
theorem all_no (p : Nat → Bool) {n i : Nat} (hi : i < n) (h : p i = false) : (List.range n).all p = false := by
  rw [Bool.eq_false_iff]
  intro ha
  have := (List.all_eq_true.1 ha) i (List.mem_range.2 hi)
  rw [h] at this
  cases this
theorem all_more (p : Nat → Bool) {n : Nat} (h : (List.range n).all p = true) (hp : p n = true) : (List.range (n + 1)).all p = true := by
  rw [List.range_succ, List.all_append, h]
  simp [hp]
theorem all_at {p : Nat → Bool} {n i : Nat} (h : (List.range n).all p = true) (hi : i < n) : p i = true := (List.all_eq_true.1 h) i (List.mem_range.2 hi)
/-- Place i of an order names a number below n that no place before it names. -/
def okAt (l : List Int) (n : Int) (i : Nat) : Bool := decide ((0 ≤ l.getD i 0 ∧ l.getD i 0 ≤ n - 1) ∧ l.getD i 0 ∉ l.take i)
def stepC (cost : Int → Int → Int) (d l : List Int) (k : Nat) : Int := if k = 0 then 0 else cost (d.getD (l.getD (k - 1) 0).toNat 0) (d.getD (l.getD k 0).toNat 0)
def sumC (cost : Int → Int → Int) (d l : List Int) (n : Nat) : Int := ((List.range n).map (stepC cost d l)).sum
theorem sumC_succ (cost : Int → Int → Int) (d l : List Int) (n : Nat) : sumC cost d l (n + 1) = sumC cost d l n + stepC cost d l n := by
  unfold sumC
  rw [List.range_succ, List.map_append, List.sum_append]
  simp
theorem sumC_bd (cost : Int → Int → Int) (d l : List Int) (b : Int) (hc : ∀ x y, -1 ≤ cost x y ∧ cost x y ≤ b) (hb : 0 ≤ b) (n : Nat) : -(n : Int) ≤ sumC cost d l n ∧ sumC cost d l n ≤ b * n := by
  induction n with
  | zero => simp [sumC]
  | succ n ih =>
    rw [sumC_succ]
    have h1 : -1 ≤ stepC cost d l n ∧ stepC cost d l n ≤ b := by
      unfold stepC
      split
      · omega
      · exact hc _ _
    have e : b * ((n + 1 : Nat) : Int) = b * n + b := by rw [Int.natCast_add, Int.mul_add]; simp
    rw [e]
    omega
theorem mem_take_succ (l : List Int) (i : Nat) (hi : i < l.length) (x : Int) : x ∈ l.take (i + 1) ↔ x ∈ l.take i ∨ x = l.getD i 0 := by
  rw [List.take_succ_eq_append_getElem hi, List.mem_append, List.mem_singleton, List.getD_eq_getElem?_getD, List.getElem?_eq_getElem hi]
  rfl
theorem index_f (l : List Int) (a : Int) (hb : l.length ≤ 1048576) : ∃ r, (r ≥ 0 ↔ a ∈ l) ∧ Ev (fun k => slices_Index_int_int.f k l a) r := by
  unfold slices_Index_int_int.f
  have h := ev_up (fun k (_ : Unit) i => slices_Index_int_int.l0 k l a (l.length : Int) i) l.length (fun i _ => ∀ j, j < i → l.getD j 0 ≠ a) (fun r => r ≥ 0 ↔ a ∈ l) (fun i _ hi hp => by
      by_cases c : a = l.getD i 0
      · refine .inr ⟨(i : Int), ⟨fun _ => ?_, fun _ => by omega⟩, ev_now fun k => ?_⟩
        · rw [c, List.getD_eq_getElem?_getD, List.getElem?_eq_getElem hi]
          exact List.getElem_mem hi
        · simp only [slices_Index_int_int.l0]
          rw [if_pos (by omega), if_pos (by omega), if_pos (by omega), rd_eq, if_pos c]
      · refine .inl ⟨(), fun j hj => ?_, fun r hr => ev_next (fun k => ?_) r hr⟩
        · by_cases d : j = i
          · subst d
            exact fun h => c h.symm
          · exact hp j (by omega)
        · simp only [slices_Index_int_int.l0]
          rw [if_pos (by omega), if_pos (by omega), if_pos (by omega), rd_eq, if_neg c, w64 (by omega) (by omega)]) (fun _ hp => by
      refine ⟨-1, ⟨fun h => by omega, fun h => ?_⟩, ev_now fun k => ?_⟩
      · obtain ⟨j, hj, e⟩ := List.getElem_of_mem h
        refine absurd ?_ (hp j hj)
        rw [List.getD_eq_getElem?_getD, List.getElem?_eq_getElem hj]
        exact e
      · simp only [slices_Index_int_int.l0]
        rw [if_neg (by omega)]) 0 () (Nat.zero_le _) (fun j hj => by omega)
  exact h
theorem contains_f (l : List Int) (a : Int) (hb : l.length ≤ 1048576) : Ev (fun k => slices_Contains_int_int.f k l a) (decide (a ∈ l)) := by
  obtain ⟨r, h1, h2⟩ := index_f l a hb
  unfold slices_Contains_int_int.f
  refine Ev.bind h2 ?_
  rw [show decide (a ∈ l) = decide (r ≥ 0) from by simp only [h1]]
  exact Ev.now _
theorem isOrderI (l : List Int) (n : Int) (hb : l.length ≤ 1048576) (hn : 0 ≤ n ∧ n ≤ 1048576) : Ev (fun k => impl_isOrder.f k l n) ((List.range l.length).all (okAt l n) && decide ((l.length : Int) = n)) := by
  unfold impl_isOrder.f
  have hw : wrap64 (n - 1) = n - 1 := w64 (by omega) (by omega)
  have h := ev_to (fun k (_ : Unit) i => impl_isOrder.l0 k l n l (l.length : Int) i) l.length (fun i _ => (List.range i).all (okAt l n) = true) ((List.range l.length).all (okAt l n) && decide ((l.length : Int) = n)) (fun i _ hi hp => by
      have hi' : (i : Int) < (l.length : Int) := by omega
      have hi0 : (0 : Int) ≤ (i : Int) := by omega
      have hi2 : (i : Int) ≤ (l.length : Int) := by omega
      have hbody : ∀ r, Ev (fun k => (if 0 ≤ l.getD i 0 ∧ l.getD i 0 ≤ n - 1 then ((slices_Contains_int_int.f k (l.take i) (l.getD i 0)).bind fun t138 => (if t138 = true then (some false) else (impl_isOrder.l0 k l n l (l.length : Int) ((i : Int) + 1)))) else (some false))) r → Ev (fun k => impl_isOrder.l0 k l n l (l.length : Int) (i : Int)) r := fun r h => ev_next (fun k => by
        simp only [impl_isOrder.l0, in_f, Option.bind_some, decide_eq_true_eq, hw, rd_eq]
        rw [if_pos hi', if_pos hi0, if_pos hi', if_pos hi2, w64 (x := (i : Int) + 1) (by omega) (by omega), Int.toNat_natCast]) r h
      have hlt : (l.take i).length ≤ 1048576 := by rw [List.length_take]; omega
      by_cases c1 : 0 ≤ l.getD i 0 ∧ l.getD i 0 ≤ n - 1
      · by_cases c2 : l.getD i 0 ∈ l.take i
        · refine .inr (hbody _ ?_)
          rw [all_no (okAt l n) hi (by unfold okAt; exact decide_eq_false fun h => h.2 c2), Bool.false_and]
          simp only [if_pos c1]
          refine Ev.bind (contains_f (l.take i) (l.getD i 0) hlt) ?_
          rw [decide_eq_true c2]
          simp only [if_true]
          exact Ev.now _
        · refine .inl ⟨(), all_more _ hp (by unfold okAt; exact decide_eq_true ⟨c1, c2⟩), fun r hr => hbody r ?_⟩
          simp only [if_pos c1]
          refine Ev.bind (contains_f (l.take i) (l.getD i 0) hlt) ?_
          rw [decide_eq_false c2]
          simp only [Bool.false_eq_true, if_false]
          exact hr
      · refine .inr (hbody _ ?_)
        rw [all_no (okAt l n) hi (by unfold okAt; exact decide_eq_false fun h => c1 h.1), Bool.false_and]
        simp only [if_neg c1]
        exact Ev.now _) (fun _ hp => ev_now fun k => by
      simp only [impl_isOrder.l0]
      rw [if_neg (by omega), hp, Bool.true_and]
      rfl) 0 () (Nat.zero_le _) rfl
  exact h
def dayV (d l : List Int) : Int := if doughsOk d = true ∧ (l.length : Int) = (d.length : Int) ∧ (List.range l.length).all (okAt l (d.length : Int)) = true then sumC costV d l l.length else -1
theorem okAt_in {l : List Int} {n : Int} {i : Nat} (h : okAt l n i = true) : 0 ≤ l.getD i 0 ∧ l.getD i 0 ≤ n - 1 := (of_decide_eq_true h).1
theorem dayI (d l : List Int) (hb : l.length ≤ 1048576) : Ev (fun k => impl_DayCost.f k d l) (dayV d l) := by
  unfold impl_DayCost.f
  simp only [doughsI, Option.bind_some]
  by_cases c1 : doughsOk d = true
  · have hd := ((doughsOk_iff d).1 c1).2
    simp only [if_pos c1]
    refine Ev.bind (isOrderI l (d.length : Int) hb (by omega)) ?_
    by_cases c2 : ((List.range l.length).all (okAt l (d.length : Int)) && decide ((l.length : Int) = (d.length : Int))) = true
    · rw [c2]
      rw [Bool.and_eq_true, decide_eq_true_eq] at c2
      obtain ⟨c2, c3⟩ := c2
      unfold dayV
      rw [if_pos ⟨c1, c3, c2⟩]
      refine ev_next (f := fun k => impl_DayCost.l0 k d l 0 1) (fun k => by simp only [impl_DayCost.j0]; rw [if_neg (by decide)]) _ ?_
      by_cases c4 : l.length = 0
      · rw [c4]
        exact ev_now fun k => by simp only [impl_DayCost.l0]; rw [if_neg (by omega)]; rfl
      · have h := ev_to (fun k (s : Int) i => impl_DayCost.l0 k d l s i) l.length (fun i s => 1 ≤ i ∧ s = sumC costV d l i) (sumC costV d l l.length) (fun i s hi hp => by
          obtain ⟨p1, p2⟩ := hp
          have o1 := okAt_in (all_at c2 (show i - 1 < l.length by omega))
          have o2 := okAt_in (all_at c2 hi)
          refine .inl ⟨sumC costV d l (i + 1), ⟨by omega, rfl⟩, fun r hr => ?_⟩
          have e1 : (i : Int) - 1 = ((i - 1 : Nat) : Int) := by omega
          have bd1 := sumC_bd costV d l 13 costV_bd (by omega) i
          have bd2 := costV_bd (d.getD (l.getD (i - 1) 0).toNat 0) (d.getD (l.getD i 0).toNat 0)
          have es : stepC costV d l i = costV (d.getD (l.getD (i - 1) 0).toNat 0) (d.getD (l.getD i 0).toNat 0) := by
            unfold stepC
            rw [if_neg (by omega)]
          refine ev_next (f := fun k => (impl_CleanCost.f k (d.getD (l.getD (i - 1) 0).toNat 0) (d.getD (l.getD i 0).toNat 0)).bind fun t145 => (impl_DayCost.l0 k d l (wrap64 (s + t145)) ((i : Int) + 1))) (fun k => ?_) r ?_
          · simp only [impl_DayCost.l0]
            rw [if_pos (by omega), w64 (x := (i : Int) - 1) (by omega) (by omega), if_pos (by omega), if_pos (by omega), e1, rd_eq l, rd_eq l, if_pos o1.1, if_pos (by omega), if_pos (by omega), if_pos o2.1, if_pos (by omega), w64 (x := (i : Int) + 1) (by omega) (by omega)]
            rfl
          · refine Ev.bind (costI _ _) ?_
            rw [w64 (by omega) (by omega), p2, ← es, ← sumC_succ]
            exact hr) (fun s hp => ev_now fun k => by
          simp only [impl_DayCost.l0]
          rw [if_neg (by omega), hp.2]) 1 0 (by omega) ⟨by omega, rfl⟩
        exact h
    · rw [Bool.eq_false_iff.2 c2]
      unfold dayV
      rw [if_neg (fun h => c2 (by rw [Bool.and_eq_true, decide_eq_true_eq]; exact ⟨h.2.2, h.2.1⟩))]
      exact ev_now fun k => by simp [impl_DayCost.j0]
  · simp only [if_neg c1]
    unfold dayV
    rw [if_neg (fun h => c1 h.1)]
    exact ev_now fun k => by simp [impl_DayCost.j0]
theorem at_f (l : List Int) (hw : ∀ x ∈ l, (Lit.int .u8 x).wf = true) (hl : l.length ≤ 140737488351232) (i : Int) (h0 : 0 ≤ i) (h1 : i ≤ 1000) : ∃ v, laws_at.f l i = some v ∧ 0 ≤ v ∧ v ≤ 255 := by
  unfold laws_at.f
  by_cases c : (l.length : Int) = 0
  · exact ⟨0, by rw [if_pos c], by omega, by omega⟩
  · rw [if_neg c, w64 (x := i * 5) (by omega) (by omega), w64 (x := i * 5 + 1) (by omega) (by omega), tmod_pos (by omega)]
    have hm : 0 ≤ (i * 5 + 1) % (l.length : Int) := Int.emod_nonneg _ c
    have hn : (i * 5 + 1) % (l.length : Int) < (l.length : Int) := Int.emod_lt_of_pos _ (by omega)
    rw [if_pos hm, if_pos hn]
    obtain ⟨j, hj⟩ := Int.eq_ofNat_of_zero_le hm
    rw [hj] at hn ⊢
    have hx := (u8_iff _).1 (hw _ (List.getElem_mem (show j < l.length by omega)))
    rw [rd_get _ _ (by omega), w64 (by omega) (by omega)]
    exact ⟨_, rfl, hx.1, hx.2⟩
theorem big_f (l : List Int) : laws_big.f l = some (decide ((l.length : Int) > 1048576)) := rfl
theorem and_bd (x : Int) (m : Nat) (hm : m ≤ 4294967295) : 0 ≤ Go.bits .and .i64 x (m : Int) ∧ Go.bits .and .i64 x (m : Int) ≤ m := by
  have h : ((BitVec.ofInt 64 x) &&& (BitVec.ofInt 64 (m : Int))).toNat ≤ m := by
    rw [BitVec.toNat_and]
    refine Nat.le_trans Nat.and_le_right ?_
    rw [BitVec.ofInt_natCast, BitVec.toNat_ofNat]
    exact Nat.mod_le _ _
  have e : Go.bits .and .i64 x (m : Int) = IntKind.i64.wrap (((BitVec.ofInt 64 x) &&& (BitVec.ofInt 64 (m : Int))).toNat : Int) := rfl
  rw [e]
  generalize ((BitVec.ofInt 64 x) &&& (BitVec.ofInt 64 (m : Int))).toNat = q at h ⊢
  rw [IntKind.wrap_i64]
  omega
theorem byte_f (b : List Int) (i h : Int) (hb : b.length ≤ 140737488351232) (hi : 0 ≤ i) : ∃ x i' h', spec_l01Byte.f b i h = some (x, i', h') ∧ 0 ≤ x ∧ x ≤ 255 ∧ 0 ≤ i' := by
  unfold spec_l01Byte.f
  by_cases c : i < (b.length : Int)
  · rw [if_pos c, if_pos hi]
    refine ⟨_, _, _, rfl, (and_bd _ 255 (by omega)).1, (and_bd _ 255 (by omega)).2, ?_⟩
    rw [w64 (by omega) (by omega)]
    omega
  · rw [if_neg c]
    exact ⟨_, _, _, rfl, (and_bd _ 255 (by omega)).1, (and_bd _ 255 (by omega)).2, hi⟩
theorem below_f (b : List Int) (i h n : Int) (hb : b.length ≤ 140737488351232) (hi : 0 ≤ i) (h1 : 1 ≤ n) (h2 : n ≤ 256) : ∃ x i' h', spec_l01Below.f b i h n = some (x, i', h') ∧ 0 ≤ x ∧ x < n ∧ 0 ≤ i' := by
  obtain ⟨x, i', h', e, x0, x1, i0⟩ := byte_f b i h hb hi
  unfold spec_l01Below.f
  rw [if_neg (by omega), if_pos (by omega), e]
  simp only [Option.bind_some]
  rw [if_neg (by omega), tmod_pos x0]
  exact ⟨_, _, _, rfl, Int.emod_nonneg _ (by omega), Int.emod_lt_of_pos _ (by omega), i0⟩
theorem new_f (l : List Int) (hb : l.length ≤ 140737488351232) : ∃ h, Ev (fun k => spec_l01New.f k l) (l, 0, h) := by
  unfold spec_l01New.f
  have h := ev_up (fun k s i => spec_l01New.l0 k l s i) l.length (fun _ _ => True) (fun r => ∃ h, r = (l, 0, h)) (fun i s hi _ => by
      by_cases c : i < 4000
      · refine .inl ⟨Go.bits .and .i64 (wrap64 ((wrap64 ((wrap64 (s * 131)) + (wrap64 (rd l (i : Int))))) + 7)) 1073741823, trivial, fun r hr => ev_next (fun k => ?_) r hr⟩
        simp only [spec_l01New.l0]
        rw [if_pos (by omega), if_pos (by omega), if_pos (by omega), w64 (x := (i : Int) + 1) (by omega) (by omega)]
      · refine .inr ⟨_, ⟨s, rfl⟩, ev_now fun k => ?_⟩
        · simp only [spec_l01New.l0]
          rw [if_pos (by omega), if_neg (by omega)]) (fun s _ => ⟨_, ⟨s, rfl⟩, ev_now fun k => by
      simp only [spec_l01New.l0]
      rw [if_neg (by omega)]⟩) 0 (wrap64 (33101 + (l.length : Int))) (Nat.zero_le _) trivial
  obtain ⟨r, ⟨h, rfl⟩, e⟩ := h
  exact ⟨h, e⟩
theorem pick_f (b : List Int) (i h : Int) (hb : b.length ≤ 140737488351232) (hi : 0 ≤ i) : ∃ x i' h', spec_l01PickInt.f b i h ([0, 1, 2, 3, 4, 5, 6, 7, 11] : List Int) = some (x, i', h') ∧ (0 ≤ x ∧ x ≤ 11) ∧ 0 ≤ i' := by
  unfold spec_l01PickInt.f
  obtain ⟨x, i', h', e, x0, x1, i0⟩ := below_f b i h 9 hb hi (by omega) (by omega)
  rw [show ((([0, 1, 2, 3, 4, 5, 6, 7, 11] : List Int)).length : Int) = 9 from rfl, e]
  simp only [Option.bind_some]
  rw [if_pos x0, if_pos x1]
  refine ⟨_, _, _, rfl, ?_, i0⟩
  have : x = 0 ∨ x = 1 ∨ x = 2 ∨ x = 3 ∨ x = 4 ∨ x = 5 ∨ x = 6 ∨ x = 7 ∨ x = 8 := by omega
  rcases this with rfl | rfl | rfl | rfl | rfl | rfl | rfl | rfl | rfl <;> decide
theorem drawDay_f (l : List Int) (hb : l.length ≤ 140737488351232) : ∃ d : List Int, Ev (fun k => spec_DrawDay.f k l) d ∧ d.length ≤ 6 ∧ ∀ x ∈ d, 0 ≤ x ∧ x ≤ 11 := by
  unfold spec_DrawDay.f
  obtain ⟨h, hn⟩ := new_f l hb
  obtain ⟨m, i1, h1, e, m0, m1, i10⟩ := below_f l 0 h 7 hb (by omega) (by omega) (by omega)
  obtain ⟨M, rfl⟩ := Int.eq_ofNat_of_zero_le m0
  have hloop := ev_up (fun k (s : List Int × Int × Int) i => spec_l16List.l0 k s.1 (M : Int) i l s.2.1 s.2.2) M (fun i s => s.1.length = i ∧ (∀ x ∈ s.1, 0 ≤ x ∧ x ≤ 11) ∧ 0 ≤ s.2.1) (fun r => r.1.length ≤ 6 ∧ ∀ x ∈ r.1, 0 ≤ x ∧ x ≤ 11) (fun i s hi hs => by
      obtain ⟨a, p, q⟩ := s
      obtain ⟨s1, s2, s3⟩ := hs
      simp only at s1 s2 s3
      obtain ⟨x, p', q', e2, hx, hp⟩ := pick_f l p q hb s3
      refine .inl ⟨(a ++ [x], p', q'), ⟨by simp [s1], fun y hy => ?_, hp⟩, fun r hr => ev_next (fun k => ?_) r hr⟩
      · rcases List.mem_append.1 hy with hy | hy
        · exact s2 y hy
        · rw [List.mem_singleton.1 hy]
          exact hx
      · simp only [spec_l16List.l0]
        rw [if_pos (by omega), e2]
        simp only [Option.bind_some]
        rw [if_pos (by omega), w64 (x := (i : Int) + 1) (by omega) (by omega)]) (fun s hs => ⟨_, ⟨by have := hs.1; omega, hs.2.1⟩, ev_now fun k => by
      simp only [spec_l16List.l0]
      rw [if_neg (by omega)]⟩) 0 ([], i1, h1) (Nat.zero_le _) ⟨rfl, by simp, i10⟩
  obtain ⟨r, ⟨r1, r2⟩, hr⟩ := hloop
  have h2 : Ev (fun k => spec_l16List.f k l 0 h) r := by
    unfold spec_l16List.f
    rw [e]
    simp only [Option.bind_some]
    exact hr
  exact ⟨r.1, Ev.bind hn (Ev.bind h2 (Ev.now _)), r1, r2⟩
def pick (x : Int → Int) (P : Int → Bool) (l : List Int) : Option (Int × Int) :=
  l.foldl (fun s k => if P k = true then (match s with | none => some (k, x k) | some (b, m) => if x k < m then some (k, x k) else some (b, m)) else s) none
theorem pick_snoc (x : Int → Int) (P : Int → Bool) (l : List Int) (k : Int) : pick x P (l ++ [k]) = if P k = true then (match pick x P l with | none => some (k, x k) | some (b, m) => if x k < m then some (k, x k) else some (b, m)) else pick x P l := by
  unfold pick
  rw [List.foldl_append]
  rfl
theorem pick_mem (x : Int → Int) (P : Int → Bool) : ∀ (n : Nat) (k m : Int), pick x P (idxs n) = some (k, m) → (0 ≤ k ∧ k < n) ∧ P k = true ∧ m = x k
  | 0, k, m, h => by simp [idxs, pick] at h
  | n + 1, k, m, h => by
    rw [idxs_succ, pick_snoc] at h
    by_cases c : P (n : Int) = true
    · rw [if_pos c] at h
      cases e : pick x P (idxs n) with
      | none =>
        rw [e] at h
        simp only [Option.some.injEq, Prod.mk.injEq] at h
        obtain ⟨rfl, rfl⟩ := h
        exact ⟨by omega, c, rfl⟩
      | some q =>
        obtain ⟨b, l⟩ := q
        rw [e] at h
        simp only at h
        by_cases d : x (n : Int) < l
        · rw [if_pos d] at h
          simp only [Option.some.injEq, Prod.mk.injEq] at h
          obtain ⟨rfl, rfl⟩ := h
          exact ⟨by omega, c, rfl⟩
        · rw [if_neg d] at h
          simp only [Option.some.injEq, Prod.mk.injEq] at h
          obtain ⟨rfl, rfl⟩ := h
          have := pick_mem x P n b l e
          exact ⟨by omega, this.2⟩
    · rw [if_neg c] at h
      have := pick_mem x P n k m h
      exact ⟨by omega, this.2⟩
theorem pick_some (x : Int → Int) (P : Int → Bool) : ∀ (n : Nat) (i : Int), 0 ≤ i → i < n → P i = true → ∃ k m, pick x P (idxs n) = some (k, m)
  | 0, i, h0, h1, _ => by omega
  | n + 1, i, h0, h1, hp => by
    rw [idxs_succ, pick_snoc]
    by_cases c : i = (n : Int)
    · subst c
      rw [if_pos hp]
      cases e : pick x P (idxs n) with
      | none => exact ⟨_, _, rfl⟩
      | some q =>
        obtain ⟨b, l⟩ := q
        simp only
        by_cases d : x (n : Int) < l
        · rw [if_pos d]
          exact ⟨_, _, rfl⟩
        · rw [if_neg d]
          exact ⟨_, _, rfl⟩
    · obtain ⟨k, m, e⟩ := pick_some x P n i h0 (by omega) hp
      rw [e]
      by_cases d : P (n : Int) = true
      · rw [if_pos d]
        simp only
        by_cases f : x (n : Int) < m
        · rw [if_pos f]
          exact ⟨_, _, rfl⟩
        · rw [if_neg f]
          exact ⟨_, _, rfl⟩
      · rw [if_neg d]
        exact ⟨_, _, rfl⟩
theorem pick_congr (x y : Int → Int) (P : Int → Bool) (n : Nat) (h : ∀ k, 0 ≤ k → k < (n : Int) → P k = true → x k = y k) : pick x P (idxs n) = pick y P (idxs n) := by
  induction n with
  | zero => rfl
  | succ n ih =>
    rw [idxs_succ, pick_snoc, pick_snoc, ih (fun k h0 h1 => h k h0 (by omega))]
    by_cases c : P (n : Int) = true
    · rw [if_pos c, if_pos c, h (n : Int) (by omega) (by omega) c]
    · rw [if_neg c, if_neg c]
def vmeet (s t : Option (List Int × Int)) : Option (List Int × Int) :=
  match t with
  | none => s
  | some (o, c) => match s with
    | none => some (o, c)
    | some (b, l) => if c < l then some (o, c) else some (b, l)
theorem vstep_meet (cost : List Int → Int) (s : Option (List Int × Int)) (o : List Int) : vstep cost s o = vmeet s (some (o, cost o)) := by
  unfold vstep vmeet
  rcases s with _ | ⟨b, l⟩ <;> rfl
theorem vmeet_assoc (s t u : Option (List Int × Int)) : vmeet (vmeet s t) u = vmeet s (vmeet t u) := by
  rcases s with _ | ⟨b, l⟩ <;> rcases t with _ | ⟨b', l'⟩ <;> rcases u with _ | ⟨b'', l''⟩ <;> try rfl
  · simp only [vmeet]
    by_cases c : l'' < l' <;> simp only [c, if_true, if_false]
  · simp only [vmeet]
    by_cases c : l' < l <;> by_cases d : l'' < l' <;> by_cases e : l'' < l <;> simp only [c, d, e, if_true, if_false] <;> first | rfl | (exfalso; omega)
theorem vfold_meet (cost : List Int → Int) (L : List (List Int)) (s : Option (List Int × Int)) : L.foldl (vstep cost) s = vmeet s (L.foldl (vstep cost) none) := by
  induction L generalizing s with
  | nil => rfl
  | cons o L ih =>
    rw [List.foldl_cons, List.foldl_cons, ih, ih (vstep cost none o), vstep_meet, vstep_meet, vmeet_assoc]
    rfl
/-- The least one, and the first of them. -/
theorem vfold_least (cost : List Int → Int) (L : List (List Int)) (hL : L ≠ []) : ∃ b, L.foldl (vstep cost) none = some (b, cost b) ∧ b ∈ L ∧ ∀ o ∈ L, cost b ≤ cost o := by
  induction L with
  | nil => exact absurd rfl hL
  | cons o L ih =>
    rw [List.foldl_cons, vfold_meet]
    by_cases h : L = []
    · subst h
      exact ⟨o, rfl, List.mem_cons_self, fun x hx => by rw [List.mem_singleton.1 hx]; exact Int.le_refl _⟩
    · obtain ⟨b, e, hb, hm⟩ := ih h
      rw [e]
      show ∃ b', (if cost b < cost o then some (b, cost b) else some (o, cost o)) = _ ∧ _
      by_cases c : cost b < cost o
      · rw [if_pos c]
        refine ⟨b, rfl, List.mem_cons_of_mem _ hb, fun x hx => ?_⟩
        rcases List.mem_cons.1 hx with rfl | hx
        · omega
        · exact hm x hx
      · rw [if_neg c]
        refine ⟨o, rfl, List.mem_cons_self, fun x hx => ?_⟩
        rcases List.mem_cons.1 hx with rfl | hx
        · exact Int.le_refl _
        · have := hm x hx
          omega
theorem nodup_length {α : Type} [DecidableEq α] : ∀ (l m : List α), l.Nodup → l ⊆ m → l.length ≤ m.length
  | [], _, _, _ => Nat.zero_le _
  | x :: l, m, hn, hs => by
    rw [List.nodup_cons] at hn
    have hx : x ∈ m := hs List.mem_cons_self
    have h := nodup_length l (m.erase x) hn.2 (fun y hy => (List.mem_erase_of_ne (fun e => hn.1 (by rw [← e]; exact hy))).2 (hs (List.mem_cons_of_mem _ hy)))
    rw [List.length_erase_of_mem hx] at h
    have := List.length_pos_of_mem hx
    rw [List.length_cons]
    omega
/-- What the orders are. -/
structure Pre (n : Nat) (pre : List Int) : Prop where
  nodup : pre.Nodup
  rng : ∀ x ∈ pre, 0 ≤ x ∧ x < n
theorem Pre.nil (n : Nat) : Pre n [] := ⟨List.nodup_nil, by simp⟩
theorem Pre.snoc {n : Nat} {pre : List Int} (h : Pre n pre) {i : Int} (h0 : 0 ≤ i) (h1 : i < n) (hn : i ∉ pre) : Pre n (pre ++ [i]) := by
  refine ⟨?_, fun x hx => ?_⟩
  · rw [List.nodup_append]
    refine ⟨h.nodup, by simp, fun a ha b hb => ?_⟩
    rw [List.mem_singleton.1 hb]
    rintro rfl
    exact hn ha
  · rcases List.mem_append.1 hx with hx | hx
    · exact h.rng x hx
    · rw [List.mem_singleton.1 hx]
      exact ⟨h0, h1⟩
theorem Pre.subset_length {n : Nat} {pre : List Int} (h : Pre n pre) : pre.length ≤ n := by
  have : pre ⊆ idxs n := fun x hx => mem_idxs.2 (h.rng x hx)
  have := nodup_length _ _ h.nodup this
  rwa [idxs_length] at this
theorem Pre.full {n : Nat} {pre : List Int} (h : Pre n pre) (hl : pre.length = n) : ∀ i, 0 ≤ i → i < (n : Int) → i ∈ pre := by
  intro i h0 h1
  by_cases hm : i ∈ pre
  · exact hm
  · have := (h.snoc h0 h1 hm).subset_length
    simp at this
    omega
theorem Pre.miss {n : Nat} {pre : List Int} (h : Pre n pre) (hl : pre.length < n) : ∃ i, 0 ≤ i ∧ i < (n : Int) ∧ i ∉ pre := by
  apply Classical.byContradiction
  intro hc
  have hs : idxs n ⊆ pre := fun x hx => by
    apply Classical.byContradiction
    intro hx'
    have := mem_idxs.1 hx
    exact hc ⟨x, this.1, this.2, hx'⟩
  have hnd : (idxs n).Nodup := by
    unfold idxs
    rw [List.nodup_iff_pairwise_ne, List.pairwise_map]
    exact (List.nodup_range).imp (fun h e => h (by omega))
  have := nodup_length _ _ hnd hs
  rw [idxs_length] at this
  omega
theorem comps_mem {n : Nat} : ∀ (f : Nat) (pre : List Int), Pre n pre → ∀ o, o ∈ comps n f pre ↔ (∃ t, o = pre ++ t ∧ t.length = f) ∧ Pre n o
  | 0, pre, hp, o => by
    unfold comps
    rw [List.mem_singleton]
    constructor
    · rintro rfl
      exact ⟨⟨[], by simp, rfl⟩, hp⟩
    · rintro ⟨⟨t, rfl, ht⟩, _⟩
      rw [List.eq_nil_of_length_eq_zero ht, List.append_nil]
  | f + 1, pre, hp, o => by
    unfold comps
    rw [List.mem_flatMap]
    constructor
    · rintro ⟨i, hi, ho⟩
      by_cases c : i ∈ pre
      · rw [if_pos c] at ho
        simp at ho
      · rw [if_neg c] at ho
        obtain ⟨h0, h1⟩ := mem_idxs.1 hi
        obtain ⟨⟨t, rfl, ht⟩, h2⟩ := (comps_mem f _ (hp.snoc h0 h1 c) o).1 ho
        exact ⟨⟨i :: t, by simp, by simp [ht]⟩, h2⟩
    · rintro ⟨⟨t, rfl, ht⟩, h2⟩
      cases t with
      | nil => simp at ht
      | cons i t =>
        have hnd := h2.nodup
        rw [List.nodup_append] at hnd
        have c : i ∉ pre := fun hm => hnd.2.2 i hm i (by simp) rfl
        obtain ⟨h0, h1⟩ := h2.rng i (by simp)
        refine ⟨i, mem_idxs.2 ⟨h0, h1⟩, ?_⟩
        rw [if_neg c]
        exact (comps_mem f _ (hp.snoc h0 h1 c) _).2 ⟨⟨t, by simp, by simpa using ht⟩, h2⟩
theorem comps_all {n : Nat} (o : List Int) : o ∈ comps n n [] ↔ o.length = n ∧ Pre n o := by
  rw [comps_mem n [] (Pre.nil n)]
  constructor
  · rintro ⟨⟨t, rfl, ht⟩, h⟩
    exact ⟨by simpa using ht, h⟩
  · rintro ⟨h, h2⟩
    exact ⟨⟨o, by simp, h⟩, h2⟩
theorem comps_ne {n : Nat} : ∀ (f : Nat) (pre : List Int), Pre n pre → pre.length + f = n → comps n f pre ≠ []
  | 0, pre, _, _ => by simp [comps]
  | f + 1, pre, hp, hl => by
    obtain ⟨i, h0, h1, hm⟩ := hp.miss (by omega)
    have := comps_ne f (pre ++ [i]) (hp.snoc h0 h1 hm) (by simp; omega)
    obtain ⟨o, ho⟩ := List.exists_mem_of_ne_nil _ this
    intro he
    have hin : o ∈ comps n (f + 1) pre := by
      unfold comps
      rw [List.mem_flatMap]
      exact ⟨i, mem_idxs.2 ⟨h0, h1⟩, by rw [if_neg hm]; exact ho⟩
    rw [he] at hin
    simp at hin
def maskOf (pre : List Int) : Nat := pre.foldl (fun s k => s ||| 2 ^ k.toNat) 0
theorem maskOf_snoc (pre : List Int) (k : Int) : maskOf (pre ++ [k]) = maskOf pre ||| 2 ^ k.toNat := by
  unfold maskOf
  rw [List.foldl_append]
  rfl
theorem mask_bits (pre : List Int) (h : ∀ x ∈ pre, 0 ≤ x) (j : Nat) : ∀ s : Nat, (pre.foldl (fun s k => s ||| 2 ^ k.toNat) s).testBit j = (s.testBit j || decide ((j : Int) ∈ pre)) := by
  induction pre with
  | nil => intro s; simp
  | cons x pre ih =>
    intro s
    rw [List.foldl_cons, ih (fun y hy => h y (List.mem_cons_of_mem _ hy)), Nat.testBit_or, Nat.testBit_two_pow]
    have h0 := h x List.mem_cons_self
    rw [Bool.or_assoc]
    congr 1
    rw [← Bool.decide_or, decide_eq_decide, List.mem_cons]
    constructor
    · rintro (h | h)
      · exact .inl (by omega)
      · exact .inr h
    · rintro (h | h)
      · exact .inl (by omega)
      · exact .inr h
theorem maskOf_bit (pre : List Int) (h : ∀ x ∈ pre, 0 ≤ x) (j : Nat) : (maskOf pre).testBit j = decide ((j : Int) ∈ pre) := by
  unfold maskOf
  rw [mask_bits pre h j 0]
  simp
theorem maskOf_lt (n : Nat) (pre : List Int) (h : ∀ x ∈ pre, 0 ≤ x ∧ x < n) : maskOf pre < 2 ^ n := by
  unfold maskOf
  have : ∀ (pre : List Int) (s : Nat), (∀ x ∈ pre, 0 ≤ x ∧ x < n) → s < 2 ^ n → pre.foldl (fun s k => s ||| 2 ^ k.toNat) s < 2 ^ n := by
    intro pre
    induction pre with
    | nil => intro s _ h; exact h
    | cons x pre ih =>
      intro s h hs
      rw [List.foldl_cons]
      have hx := h x List.mem_cons_self
      exact ih _ (fun y hy => h y (List.mem_cons_of_mem _ hy)) (Nat.or_lt_two_pow hs (Nat.pow_lt_pow_right (by omega) (by omega)))
  exact this pre 0 h (Nat.two_pow_pos n)
theorem maskOf_grow (pre : List Int) (h : ∀ x ∈ pre, 0 ≤ x) (k : Int) (hk : 0 ≤ k) (hn : k ∉ pre) : maskOf pre < maskOf (pre ++ [k]) := by
  have h1 : maskOf pre ≤ maskOf (pre ++ [k]) := by
    rw [maskOf_snoc]
    exact Nat.left_le_or
  have h2 : maskOf pre ≠ maskOf (pre ++ [k]) := by
    intro e
    have a := maskOf_bit pre h k.toNat
    have b := maskOf_bit (pre ++ [k]) (fun x hx => by
      rcases List.mem_append.1 hx with hx | hx
      · exact h x hx
      · rw [List.mem_singleton.1 hx]; exact hk) k.toNat
    rw [← e, a] at b
    rw [show ((k.toNat : Nat) : Int) = k by omega] at b
    simp [hn] at b
  omega
theorem maskOf_miss (n : Nat) (pre : List Int) (h : ∀ x ∈ pre, 0 ≤ x ∧ x < n) (i : Int) (h0 : 0 ≤ i) (h1 : i < n) (hi : i ∉ pre) : maskOf pre < 2 ^ n - 1 := by
  have a := maskOf_lt n pre h
  have : maskOf pre ≠ 2 ^ n - 1 := by
    intro e
    have b := maskOf_bit pre (fun x hx => (h x hx).1) i.toNat
    rw [e, Nat.testBit_two_pow_sub_one, show ((i.toNat : Nat) : Int) = i by omega] at b
    simp [hi] at b
    omega
  omega
theorem bit_mod (s k : Nat) : (s / 2 ^ k % 2 = 1) ↔ s.testBit k = true := by
  rw [Nat.testBit_eq_decide_div_mod_eq, decide_eq_true_eq]
theorem idx_inj {n s s' : Nat} {k k' : Nat} (h : k < n) (h' : k' < n) (e : s * n + k = s' * n + k') : s = s' ∧ k = k' := by
  have a : (s * n + k) / n = s := by rw [Nat.mul_comm, Nat.mul_add_div (by omega), Nat.div_eq_of_lt h]; omega
  have b : (s' * n + k') / n = s' := by rw [Nat.mul_comm, Nat.mul_add_div (by omega), Nat.div_eq_of_lt h']; omega
  have : s = s' := by rw [← a, ← b, e]
  subst this
  exact ⟨rfl, by omega⟩
/-- The least cost of what is missing, and the order that picks the first best one each time. -/
def restC (n : Nat) (inc : List Int → Int → Int) : Nat → List Int → Int
  | 0, _ => 0
  | f + 1, pre => match pick (fun k => inc pre k + restC n inc f (pre ++ [k])) (fun k => !decide (k ∈ pre)) (idxs n) with
    | none => 0
    | some (_, m) => m
def bestO (n : Nat) (inc : List Int → Int → Int) : Nat → List Int → List Int
  | 0, pre => pre
  | f + 1, pre => match pick (fun k => inc pre k + restC n inc f (pre ++ [k])) (fun k => !decide (k ∈ pre)) (idxs n) with
    | none => pre
    | some (k, _) => bestO n inc f (pre ++ [k])
/-- The first of the least orders is the one that picks the first best number each time. -/
theorem first_least {n : Nat} {inc : List Int → Int → Int} {tot : List Int → Int} (ht : ∀ pre k, tot (pre ++ [k]) = tot pre + inc pre k) :
    ∀ (f : Nat) (pre : List Int), Pre n pre → pre.length + f = n → (comps n f pre).foldl (vstep tot) none = some (bestO n inc f pre, tot pre + restC n inc f pre)
  | 0, pre, _, _ => by
    simp [comps, vstep, bestO, restC]
  | f + 1, pre, hp, hl => by
    have key : ∀ m : Nat, m ≤ n → ((idxs m).flatMap fun i => if i ∈ pre then [] else comps n f (pre ++ [i])).foldl (vstep tot) none = (pick (fun k => inc pre k + restC n inc f (pre ++ [k])) (fun k => !decide (k ∈ pre)) (idxs m)).map fun q => (bestO n inc f (pre ++ [q.1]), tot pre + q.2) := by
      intro m
      induction m with
      | zero => intro _; rfl
      | succ m ih =>
        intro hm
        rw [idxs_succ, List.flatMap_append, List.foldl_append, ih (by omega), pick_snoc]
        by_cases c : ((m : Nat) : Int) ∈ pre
        · have e : (([((m : Nat) : Int)] : List Int).flatMap fun i => if i ∈ pre then [] else comps n f (pre ++ [i])) = [] := by simp [c]
          rw [e, if_neg (by simp [c])]
          rfl
        · have e : (([((m : Nat) : Int)] : List Int).flatMap fun i => if i ∈ pre then [] else comps n f (pre ++ [i])) = comps n f (pre ++ [((m : Nat) : Int)]) := by simp [c]
          rw [e, if_pos (by simp [c]), vfold_meet, first_least ht f (pre ++ [((m : Nat) : Int)]) (hp.snoc (by omega) (by omega) c) (by simp; omega), ht]
          cases pick (fun k => inc pre k + restC n inc f (pre ++ [k])) (fun k => !decide (k ∈ pre)) (idxs m) with
          | none =>
            simp only [vmeet, Option.map_none, Option.map_some]
            rw [Int.add_assoc]
          | some q =>
            simp only [vmeet, Option.map_some]
            by_cases d : inc pre (m : Int) + restC n inc f (pre ++ [(m : Int)]) < q.2
            · rw [if_pos d, if_pos (by omega), Option.map_some, Int.add_assoc]
            · rw [if_neg d, if_neg (by omega), Option.map_some]
    have hk := key n (Nat.le_refl _)
    rw [comps, hk]
    obtain ⟨i, h0, h1, hm⟩ := hp.miss (by omega)
    obtain ⟨k, m, e⟩ := pick_some (fun k => inc pre k + restC n inc f (pre ++ [k])) (fun k => !decide (k ∈ pre)) n i h0 h1 (by simp [hm])
    rw [bestO, restC, e]
    rfl
/-! the table: for each set and last number the least cost of what is missing; and the walk that picks the first best number each time -/
theorem shl_all : ((List.range 9).all fun k => decide (shl .i64 1 (k : Int) = ((2 ^ k : Nat) : Int) ∧ shl .i64 ((k : Int) + 1) (k : Int) = (((k + 1) * 2 ^ k : Nat) : Int))) = true := by decide +kernel
theorem shl_one {k : Nat} (hk : k ≤ 8) : shl .i64 1 (k : Int) = ((2 ^ k : Nat) : Int) := (of_decide_eq_true ((List.all_eq_true.1 shl_all) k (List.mem_range.2 (by omega)))).1
theorem shl_size {k : Nat} (hk : k ≤ 8) : shl .i64 ((k : Int) + 1) (k : Int) = (((k + 1) * 2 ^ k : Nat) : Int) := (of_decide_eq_true ((List.all_eq_true.1 shl_all) k (List.mem_range.2 (by omega)))).2
theorem bit_all : ((List.range 256).all fun s => (List.range 8).all fun k => decide (Go.bits .and .i64 (shr .i64 (s : Int) (k : Int)) 1 = if s.testBit k = true then 1 else 0)) = true := by decide +kernel
theorem set_bit {s k : Nat} (hs : s ≤ 255) (hk : k < 8) : Go.bits .and .i64 (shr .i64 (s : Int) (k : Int)) 1 = if s.testBit k = true then 1 else 0 :=
  of_decide_eq_true ((List.all_eq_true.1 ((List.all_eq_true.1 bit_all) s (List.mem_range.2 (by omega)))) k (List.mem_range.2 hk))
theorem pow_le8 {n : Nat} (hn : n ≤ 8) : 1 ≤ 2 ^ n ∧ 2 ^ n ≤ 256 := ⟨Nat.two_pow_pos n, Nat.pow_le_pow_right (by omega) hn⟩
theorem pow_le7 {n : Nat} (hn : n < 8) : 2 ^ n ≤ 128 := Nat.le_trans (Nat.pow_le_pow_right (by omega) (show n ≤ 7 by omega)) (by decide)
theorem set_or {s k : Nat} (hs : s ≤ 255) (hk : k < 8) : Go.bits .or .i64 (s : Int) (shl .i64 1 (k : Int)) = ((s ||| 2 ^ k : Nat) : Int) := by
  rw [shl_one (by omega)]
  exact or_nat s (2 ^ k) hs (by have := pow_le7 hk; omega)
theorem maskOf_full {n : Nat} {P : List Int} (h : Pre n P) (hl : P.length = n) : maskOf P = 2 ^ n - 1 := by
  apply Nat.eq_of_testBit_eq
  intro j
  rw [maskOf_bit P (fun x hx => (h.rng x hx).1), Nat.testBit_two_pow_sub_one, decide_eq_decide]
  constructor
  · intro hj
    have := h.rng _ hj
    omega
  · intro hj
    exact h.full hl j (by omega) (by omega)
theorem Pre.left {n : Nat} {P : List Int} {k : Int} (h : Pre n (P ++ [k])) : Pre n P ∧ (0 ≤ k ∧ k < n) ∧ k ∉ P := by
  have h1 := h.nodup
  rw [List.nodup_append] at h1
  exact ⟨⟨h1.1, fun x hx => h.rng x (by simp [hx])⟩, h.rng k (by simp), fun hk => h1.2.2 k hk k (by simp) rfl⟩
theorem restC_bd {n : Nat} {inc : List Int → Int → Int} (hb : ∀ pre (k : Int), Pre n pre → 0 ≤ k → k < n → 0 ≤ inc pre k ∧ inc pre k ≤ 1000) : ∀ (f : Nat) (pre : List Int), Pre n pre → 0 ≤ restC n inc f pre ∧ restC n inc f pre ≤ 1000 * f
  | 0, pre, _ => by simp [restC]
  | f + 1, pre, hp => by
    rw [restC]
    cases e : pick (fun k => inc pre k + restC n inc f (pre ++ [k])) (fun k => !decide (k ∈ pre)) (idxs n) with
    | none => simp only; omega
    | some q =>
      obtain ⟨k, m⟩ := q
      obtain ⟨h1, h2, h3⟩ := pick_mem _ _ n k m e
      have h4 := hb pre k hp h1.1 h1.2
      have h5 := restC_bd hb f (pre ++ [k]) (hp.snoc h1.1 h1.2 (by simpa using h2))
      simp only at h3 ⊢
      omega
def stepV (n : Nat) (w : Nat → Nat → Int) (T : List Int) (s l : Nat) (b : Int) (m : Nat) : Int :=
  if s.testBit m = true then b else if b < 0 ∨ wrap64 (w l m + T.getD ((s ||| 2 ^ m) * n + m) 0) < b then wrap64 (w l m + T.getD ((s ||| 2 ^ m) * n + m) 0) else b
def valT (n : Nat) (w : Nat → Nat → Int) (T : List Int) (s l : Nat) : Nat → Int
  | 0 => -1
  | m + 1 => stepV n w T s l (valT n w T s l m) m
def pickM (o : Option (Int × Int)) : Int := match o with | none => -1 | some (_, m) => m
def pickK (o : Option (Int × Int)) : Int := match o with | none => -1 | some (k, _) => k
theorem pickM_step (o : Option (Int × Int)) (k x : Int) (hx : 0 ≤ x) : (∀ q, o = some q → 0 ≤ q.2) → (if pickM o < 0 ∨ x < pickM o then x else pickM o) = pickM (match o with | none => some (k, x) | some (b, m) => if x < m then some (k, x) else some (b, m)) := by
  intro ho
  cases o with
  | none =>
    rw [if_pos (Or.inl (show pickM none < 0 by decide))]
    rfl
  | some q =>
    obtain ⟨b, v⟩ := q
    have hv := ho _ rfl
    simp only at hv
    have e : pickM (some (b, v)) = v := rfl
    by_cases d : x < v
    · rw [if_pos (Or.inr (show x < pickM (some (b, v)) from d))]
      show x = pickM (if x < v then some (k, x) else some (b, v))
      rw [if_pos d]
      rfl
    · rw [if_neg (fun h => h.elim (fun h => by rw [e] at h; omega) (fun h => d h))]
      show v = pickM (if x < v then some (k, x) else some (b, v))
      rw [if_neg d]
      rfl
structure GoodT (n : Nat) (inc : List Int → Int → Int) (T : List Int) (s : Nat) : Prop where
  len : T.length = (n + 1) * 2 ^ n
  at_ : ∀ pre k, Pre n (pre ++ [k]) → s ≤ maskOf (pre ++ [k]) → T.getD (maskOf (pre ++ [k]) * n + k.toNat) 0 = restC n inc (n - (pre.length + 1)) (pre ++ [k])
structure GoodM (n : Nat) (inc : List Int → Int → Int) (T : List Int) (s l : Nat) : Prop where
  more : GoodT n inc T (s + 1)
  now : ∀ pre k, Pre n (pre ++ [k]) → maskOf (pre ++ [k]) = s → k.toNat < l → T.getD (s * n + k.toNat) 0 = restC n inc (n - (pre.length + 1)) (pre ++ [k])
theorem GoodM.all {n s : Nat} {inc : List Int → Int → Int} {T : List Int} (h : GoodM n inc T s n) : GoodT n inc T s := ⟨h.more.len, fun pre k hp hs => by
  by_cases c : maskOf (pre ++ [k]) = s
  · rw [c]
    have := hp.left.2.1
    exact h.now pre k hp c (by omega)
  · exact h.more.at_ pre k hp (by omega)⟩
theorem GoodT.first {n : Nat} (inc : List Int → Int → Int) : GoodT n inc (List.replicate ((n + 1) * 2 ^ n) 0) (2 ^ n - 1) := ⟨by simp, fun pre k hp hs => by
  have hfull : (pre ++ [k]).length = n := by
    apply Classical.byContradiction
    intro hc
    have h1 := hp.subset_length
    obtain ⟨i, h0, h2, hm⟩ := hp.miss (by omega)
    have := maskOf_miss n _ hp.rng i h0 h2 hm
    omega
  rw [List.length_append, List.length_singleton] at hfull
  rw [show n - (pre.length + 1) = 0 by omega, List.getD_eq_getElem?_getD, List.getElem?_replicate]
  simp only [restC]
  split <;> rfl⟩
theorem valT_pick {n : Nat} {inc : List Int → Int → Int} {w : Nat → Nat → Int} {T : List Int} {P : List Int} {l f : Nat} (hP : Pre n P)
    (hb : ∀ pre (k : Int), Pre n pre → 0 ≤ k → k < n → 0 ≤ inc pre k ∧ inc pre k ≤ 1000) (hf : f ≤ 100)
    (hw : ∀ m : Nat, m < n → inc P m = w l m) (hT : ∀ m : Nat, m < n → (m : Int) ∉ P → T.getD ((maskOf P ||| 2 ^ m) * n + m) 0 = restC n inc f (P ++ [(m : Int)])) :
    ∀ m : Nat, m ≤ n → valT n w T (maskOf P) l m = pickM (pick (fun k => inc P k + restC n inc f (P ++ [k])) (fun k => !decide (k ∈ P)) (idxs m))
  | 0, _ => rfl
  | m + 1, hm => by
    rw [valT, valT_pick hP hb hf hw hT m (by omega), idxs_succ, pick_snoc, stepV, maskOf_bit P (fun x hx => (hP.rng x hx).1)]
    by_cases c : (m : Int) ∈ P
    · rw [if_pos (show decide ((m : Int) ∈ P) = true by simp [c]), if_neg (show ¬ (!decide ((m : Int) ∈ P)) = true by simp [c])]
    · rw [if_neg (show ¬ decide ((m : Int) ∈ P) = true by simp [c]), if_pos (show (!decide ((m : Int) ∈ P)) = true by simp [c]), hT m (by omega) c, ← hw m (by omega)]
      have h1 := hb P m hP (by omega) (by omega)
      have h2 := restC_bd hb f (P ++ [(m : Int)]) (hP.snoc (by omega) (by omega) c)
      rw [w64 (by omega) (by omega)]
      refine pickM_step _ (m : Int) (inc P (m : Int) + restC n inc f (P ++ [(m : Int)])) (by omega) (fun q hq => ?_)
      obtain ⟨k, v⟩ := q
      obtain ⟨g1, g2, g3⟩ := pick_mem _ _ m k v hq
      have h3 := hb P k hP g1.1 (by omega)
      have h4 := restC_bd hb f (P ++ [k]) (hP.snoc g1.1 (by omega) (by simpa using g2))
      simp only at g3 ⊢
      omega
theorem getD_set_ne {T : List Int} {i j : Nat} (x : Int) (h : i ≠ j) : (T.set i x).getD j 0 = T.getD j 0 := by
  rw [List.getD_eq_getElem?_getD, List.getElem?_set_ne h, ← List.getD_eq_getElem?_getD]
theorem getD_set_eq {T : List Int} {i : Nat} (x : Int) (h : i < T.length) : (T.set i x).getD i 0 = x := by
  rw [List.getD_eq_getElem?_getD, List.getElem?_set_self h]
  rfl
theorem idx_lt {n s l : Nat} (hs : s < 2 ^ n) (hl : l < n) : s * n + l < (n + 1) * 2 ^ n := by
  have h1 : s * n + n ≤ 2 ^ n * n := by
    have : (s + 1) * n ≤ 2 ^ n * n := Nat.mul_le_mul_right n hs
    rw [Nat.add_mul] at this
    omega
  have h2 : (n + 1) * 2 ^ n = 2 ^ n * n + 2 ^ n := by rw [Nat.add_mul, Nat.mul_comm]; omega
  omega
theorem GoodM.step {n s l : Nat} {inc : List Int → Int → Int} {w : Nat → Nat → Int} {T : List Int} (hn : n ≤ 8) (hb : ∀ pre (k : Int), Pre n pre → 0 ≤ k → k < n → 0 ≤ inc pre k ∧ inc pre k ≤ 1000)
    (hw : ∀ pre (k : Int) (m : Nat), Pre n (pre ++ [k]) → m < n → inc (pre ++ [k]) m = w k.toNat m) (h : GoodM n inc T s l) (hl : l < n) (hs : s < 2 ^ n - 1) : GoodM n inc (T.set (s * n + l) (valT n w T s l n)) s (l + 1) := by
  refine ⟨⟨by rw [List.length_set]; exact h.more.len, fun pre k hp hk => ?_⟩, fun pre k hp hk hlt => ?_⟩
  · have hk2 := hp.left.2.1
    rw [getD_set_ne _ (fun e => by
      have := (idx_inj hl (show k.toNat < n by omega) e).1
      omega)]
    exact h.more.at_ pre k hp hk
  · have hk2 := hp.left.2.1
    by_cases c : k.toNat = l
    · rw [c, getD_set_eq _ (by rw [h.more.len]; exact idx_lt (by omega) hl)]
      have hlen : (pre ++ [k]).length < n := by
        have h1 := hp.subset_length
        rcases Nat.lt_or_ge (pre ++ [k]).length n with h2 | h2
        · exact h2
        · have := maskOf_full hp (by omega)
          omega
      have hlen' : pre.length + 1 < n := by simpa using hlen
      rw [← hk, valT_pick (inc := inc) (f := n - (pre.length + 1 + 1)) hp hb (by omega) (fun m hm => by rw [hw pre k m hp hm, c]) (fun m hm hmem => by
        have h2 := h.more.at_ (pre ++ [k]) (m : Int) (hp.snoc (by omega) (by omega) hmem) (by
          have := maskOf_grow (pre ++ [k]) (fun x hx => (hp.rng x hx).1) (m : Int) (by omega) hmem
          omega)
        rw [maskOf_snoc, Int.toNat_natCast, List.length_append, List.length_singleton] at h2
        exact h2) n (Nat.le_refl _)]
      obtain ⟨i, h0, h1, hm⟩ := hp.miss hlen
      obtain ⟨k', m', e⟩ := pick_some (fun k' => inc (pre ++ [k]) k' + restC n inc (n - (pre.length + 1 + 1)) (pre ++ [k] ++ [k'])) (fun k' => !decide (k' ∈ pre ++ [k])) n i h0 h1 (by simpa using hm)
      rw [show n - (pre.length + 1) = (n - (pre.length + 1 + 1)) + 1 by omega, restC, e]
      rfl
    · rw [getD_set_ne _ (fun e => c (idx_inj hl (show k.toNat < n by omega) e).2.symm)]
      exact h.now pre k hp hk (by omega)
theorem dp_loop {n : Nat} (hn : n ≤ 8) {inc : List Int → Int → Int} {w : Nat → Nat → Int} (hb : ∀ pre (k : Int), Pre n pre → 0 ≤ k → k < n → 0 ≤ inc pre k ∧ inc pre k ≤ 1000)
    (hw : ∀ pre (k : Int) (m : Nat), Pre n (pre ++ [k]) → m < n → inc (pre ++ [k]) m = w k.toNat m)
    (F0 : Nat → List Int → Int → Option (List Int)) (F1 : Nat → List Int → Int → Int → Option (List Int)) (F2 : Nat → List Int → Int → Int → Int → Int → Option (List Int))
    (h0 : ∀ k T (s : Nat), F0 (k + 1) T s = F1 k T s 0) (h0e : ∀ k T, F0 (k + 1) T (-1) = some T)
    (h1 : ∀ k T (s l : Nat), l < n → F1 (k + 1) T s l = F2 k T s l (-1) 0) (h1e : ∀ k T (s : Nat), s < 2 ^ n - 1 → F1 (k + 1) T s n = F0 k T ((s : Int) - 1))
    (h2 : ∀ T (s l m : Nat) b r, T.length = (n + 1) * 2 ^ n → s < 2 ^ n - 1 → l < n → m < n → Ev (fun k => F2 k T s l (stepV n w T s l b m) ((m : Int) + 1)) r → Ev (fun k => F2 k T s l b m) r)
    (h2e : ∀ k T (s l : Nat) b, T.length = (n + 1) * 2 ^ n → s < 2 ^ n - 1 → l < n → F2 (k + 1) T s l b n = F1 k (T.set (s * n + l) b) s ((l : Int) + 1)) :
    ∀ (s : Nat) (T : List Int), s ≤ 2 ^ n - 1 → GoodT n inc T s → ∃ T', GoodT n inc T' 0 ∧ Ev (fun k => F0 k T ((s : Int) - 1)) T'
  | 0, T, _, hT => ⟨T, hT, ev_now fun k => h0e k T⟩
  | s + 1, T, hs, hT => by
    have inner : ∀ (d l : Nat) (T : List Int), n - l = d → l ≤ n → GoodM n inc T s l → ∃ T', GoodT n inc T' 0 ∧ Ev (fun k => F1 k T s l) T' := by
      intro d
      induction d with
      | zero =>
        intro l T hd hl hM
        obtain rfl : l = n := by omega
        obtain ⟨T', hT', he⟩ := dp_loop hn hb hw F0 F1 F2 h0 h0e h1 h1e h2 h2e s T (by omega) hM.all
        exact ⟨T', hT', ev_next (fun k => h1e k T s (by omega)) _ he⟩
      | succ d ih =>
        intro l T hd hl hM
        have hll : l < n := by omega
        obtain ⟨T', hT', he⟩ := ih (l + 1) (T.set (s * n + l) (valT n w T s l n)) (by omega) hll (hM.step hn hb hw hll (by omega))
        refine ⟨T', hT', ev_next (fun k => h1 k T s l hll) _ ?_⟩
        have hlen := hM.more.len
        have go : ∀ (e m : Nat), n - m = e → m ≤ n → Ev (fun k => F2 k T s l (valT n w T s l m) m) T' := by
          intro e
          induction e with
          | zero =>
            intro m hm1 hm2
            obtain rfl : m = n := by omega
            refine ev_next (fun k => h2e k T s l _ hlen (by omega) hll) _ ?_
            have e1 : ((l + 1 : Nat) : Int) = (l : Int) + 1 := by omega
            rw [e1] at he
            exact he
          | succ e ih2 =>
            intro m hm1 hm2
            refine h2 T s l m _ _ hlen (by omega) hll (by omega) ?_
            have h3 := ih2 (m + 1) (by omega) (by omega)
            have e1 : ((m + 1 : Nat) : Int) = (m : Int) + 1 := by omega
            rw [e1] at h3
            exact h3
        exact go n 0 (by omega) (Nat.zero_le _)
    obtain ⟨T', hT', he⟩ := inner n 0 T (by omega) (Nat.zero_le _) ⟨hT, fun pre k _ _ h => absurd h (Nat.not_lt_zero _)⟩
    refine ⟨T', hT', ?_⟩
    have e1 : ((s + 1 : Nat) : Int) - 1 = (s : Int) := by omega
    rw [e1]
    exact ev_next (fun k => h0 k T s) _ he
/-- The walk that picks the first best number each time. -/
theorem greedy {R : Type} {n : Nat} (hn : n ≤ 8) {inc : List Int → Int → Int} (hb : ∀ pre (k : Int), Pre n pre → 0 ≤ k → k < n → 0 ≤ inc pre k ∧ inc pre k ≤ 1000) {T : List Int} (hT : GoodT n inc T 0) (fin : List Int → R)
    (G0 : Nat → List Int → Option R) (G1 : Nat → List Int → Int → Int → Int → Option R)
    (h0 : ∀ k pre, Pre n pre → pre.length < n → G0 (k + 1) pre = G1 k pre (-1) 0 0) (h0e : ∀ k pre, Pre n pre → pre.length = n → G0 (k + 1) pre = some (fin pre))
    (h1i : ∀ pre b le (m : Nat) r, Pre n pre → pre.length < n → m < n → (m : Int) ∈ pre → Ev (fun k => G1 k pre b le ((m : Int) + 1)) r → Ev (fun k => G1 k pre b le m) r)
    (h1o : ∀ pre b le (m : Nat) r, Pre n pre → pre.length < n → m < n → (m : Int) ∉ pre → 0 ≤ T.getD ((maskOf pre ||| 2 ^ m) * n + m) 0 → T.getD ((maskOf pre ||| 2 ^ m) * n + m) 0 ≤ 100000 →
      ((b < 0 ∨ inc pre m + T.getD ((maskOf pre ||| 2 ^ m) * n + m) 0 < le) → Ev (fun k => G1 k pre m (inc pre m + T.getD ((maskOf pre ||| 2 ^ m) * n + m) 0) ((m : Int) + 1)) r) → (¬ (b < 0 ∨ inc pre m + T.getD ((maskOf pre ||| 2 ^ m) * n + m) 0 < le) → Ev (fun k => G1 k pre b le ((m : Int) + 1)) r) → Ev (fun k => G1 k pre b le m) r)
    (h1e : ∀ k pre (b le : Int), Pre n pre → pre.length < n → 0 ≤ b → b < n → b ∉ pre → G1 (k + 1) pre b le n = G0 k (pre ++ [b])) :
    ∀ (f : Nat) (pre : List Int), Pre n pre → pre.length + f = n → Ev (fun k => G0 k pre) (fin (bestO n inc f pre))
  | 0, pre, hp, hl => ev_now fun k => h0e k pre hp (by omega)
  | f + 1, pre, hp, hl => by
    have hlt : pre.length < n := by omega
    refine ev_next (fun k => h0 k pre hp hlt) _ ?_
    obtain ⟨i, i0, i1, hm⟩ := hp.miss hlt
    obtain ⟨kb, mb, eb⟩ := pick_some (fun k => inc pre k + restC n inc f (pre ++ [k])) (fun k => !decide (k ∈ pre)) n i i0 i1 (by simpa using hm)
    have go : ∀ (d m : Nat), n - m = d → m ≤ n → ∀ le, (∀ q, pick (fun k => inc pre k + restC n inc f (pre ++ [k])) (fun k => !decide (k ∈ pre)) (idxs m) = some q → le = q.2) →
        Ev (fun k => G1 k pre (pickK (pick (fun k => inc pre k + restC n inc f (pre ++ [k])) (fun k => !decide (k ∈ pre)) (idxs m))) le m) (fin (bestO n inc (f + 1) pre)) := by
      intro d
      induction d with
      | zero =>
        intro m hd hm le _
        obtain rfl : m = n := by omega
        obtain ⟨g1, g2, _⟩ := pick_mem _ _ m kb mb eb
        have hkb : kb ∉ pre := by simpa using g2
        rw [eb]
        refine ev_next (fun k => h1e k pre kb le hp hlt g1.1 g1.2 hkb) _ ?_
        rw [bestO, eb]
        exact greedy hn hb hT fin G0 G1 h0 h0e h1i h1o h1e f (pre ++ [kb]) (hp.snoc g1.1 g1.2 hkb) (by simp; omega)
      | succ d ih =>
        intro m hd hm le hle
        have e1 : ((m + 1 : Nat) : Int) = (m : Int) + 1 := by omega
        by_cases c : (m : Int) ∈ pre
        · refine h1i pre _ le m _ hp hlt (by omega) c ?_
          have e2 : pick (fun k => inc pre k + restC n inc f (pre ++ [k])) (fun k => !decide (k ∈ pre)) (idxs (m + 1)) = pick (fun k => inc pre k + restC n inc f (pre ++ [k])) (fun k => !decide (k ∈ pre)) (idxs m) := by
            rw [idxs_succ, pick_snoc, if_neg (by simp [c])]
          have h3 := ih (m + 1) (by omega) (by omega) le (by rw [e2]; exact hle)
          rw [e1, e2] at h3
          exact h3
        · have hT2 := hT.at_ pre (m : Int) (hp.snoc (by omega) (by omega) c) (Nat.zero_le _)
          rw [maskOf_snoc, Int.toNat_natCast, show n - (pre.length + 1) = f by omega] at hT2
          have hr := restC_bd hb f (pre ++ [(m : Int)]) (hp.snoc (by omega) (by omega) c)
          have e2 : pick (fun k => inc pre k + restC n inc f (pre ++ [k])) (fun k => !decide (k ∈ pre)) (idxs (m + 1)) = match pick (fun k => inc pre k + restC n inc f (pre ++ [k])) (fun k => !decide (k ∈ pre)) (idxs m) with | none => some ((m : Int), inc pre m + restC n inc f (pre ++ [(m : Int)])) | some (b, v) => if inc pre m + restC n inc f (pre ++ [(m : Int)]) < v then some ((m : Int), inc pre m + restC n inc f (pre ++ [(m : Int)])) else some (b, v) := by
            rw [idxs_succ, pick_snoc, if_pos (by simp [c])]
          cases e : pick (fun k => inc pre k + restC n inc f (pre ++ [k])) (fun k => !decide (k ∈ pre)) (idxs m) with
          | none =>
            rw [e] at e2
            simp only at e2
            have h3 := ih (m + 1) (by omega) (by omega) (inc pre m + restC n inc f (pre ++ [(m : Int)])) (by rw [e2]; intro q hq; rw [← Option.some.inj hq])
            rw [e1, e2] at h3
            refine h1o pre _ le m _ hp hlt (by omega) c (by rw [hT2]; omega) (by rw [hT2]; omega) (fun _ => by rw [hT2]; exact h3) (fun h => absurd (Or.inl (show pickK none < 0 by decide)) h)
          | some q =>
            obtain ⟨b, v⟩ := q
            rw [e] at e2 hle
            simp only at e2
            have hv := hle _ rfl
            simp only at hv
            subst hv
            obtain ⟨g1, _, _⟩ := pick_mem _ _ m b le e
            by_cases dlt : inc pre m + restC n inc f (pre ++ [(m : Int)]) < le
            · rw [if_pos dlt] at e2
              have h3 := ih (m + 1) (by omega) (by omega) (inc pre m + restC n inc f (pre ++ [(m : Int)])) (by rw [e2]; intro q hq; rw [← Option.some.inj hq])
              rw [e1, e2] at h3
              refine h1o pre _ le m _ hp hlt (by omega) c (by rw [hT2]; omega) (by rw [hT2]; omega) (fun _ => by rw [hT2]; exact h3) (fun h => absurd (Or.inr (by rw [hT2]; exact dlt)) h)
            · rw [if_neg dlt] at e2
              have h3 := ih (m + 1) (by omega) (by omega) le (by rw [e2]; intro q hq; rw [← Option.some.inj hq])
              rw [e1, e2] at h3
              refine h1o pre _ le m _ hp hlt (by omega) c (by rw [hT2]; omega) (by rw [hT2]; omega) (fun h => ?_) (fun _ => h3)
              rw [hT2] at h
              exact absurd h (fun h => h.elim (fun h => by have : pickK (some (b, le)) = b := rfl; omega) dlt)
    exact go n 0 (by omega) (Nat.zero_le _) 0 (fun q hq => by simp [idxs, pick] at hq)
def incD (d : List Int) (pre : List Int) (k : Int) : Int := if pre.length = 0 then 0 else costV (d.getD (pre.getD (pre.length - 1) 0).toNat 0) (d.getD k.toNat 0)
theorem getD_rng {d : List Int} (hd : ∀ x ∈ d, 0 ≤ x ∧ x ≤ 255) (i : Nat) : 0 ≤ d.getD i 0 ∧ d.getD i 0 ≤ 255 := by
  rw [List.getD_eq_getElem?_getD]
  cases e : d[i]? with
  | none => simp
  | some x => exact hd x (List.mem_of_getElem? e)
theorem costV_ok {x y : Int} (hx : 0 ≤ x ∧ x ≤ 255) (hy : 0 ≤ y ∧ y ≤ 255) : 0 ≤ costV x y ∧ costV x y ≤ 13 := by
  have := pop_bd x.toNat
  unfold costV
  rw [if_pos ⟨hx, hy⟩]
  split <;> omega
theorem incD_bd {d : List Int} (hd : ∀ x ∈ d, 0 ≤ x ∧ x ≤ 255) (pre : List Int) (k : Int) : 0 ≤ incD d pre k ∧ incD d pre k ≤ 13 := by
  unfold incD
  split
  · omega
  · exact costV_ok (getD_rng hd _) (getD_rng hd _)
theorem getD_snoc (pre : List Int) (k : Int) : (pre ++ [k]).getD pre.length 0 = k := by
  rw [List.getD_eq_getElem?_getD, List.getElem?_append_right (Nat.le_refl _)]
  simp
theorem getD_left {pre : List Int} {k : Int} {i : Nat} (h : i < pre.length) : (pre ++ [k]).getD i 0 = pre.getD i 0 := by
  rw [List.getD_eq_getElem?_getD, List.getElem?_append_left h, ← List.getD_eq_getElem?_getD]
theorem incD_snoc (d pre : List Int) (k : Int) (m : Nat) : incD d (pre ++ [k]) m = costV (d.getD k.toNat 0) (d.getD m 0) := by
  unfold incD
  rw [List.length_append, List.length_singleton, if_neg (by omega), Nat.add_sub_cancel, getD_snoc, Int.toNat_natCast]
def totD (d pre : List Int) : Int := sumC costV d pre pre.length
theorem totD_snoc (d pre : List Int) (k : Int) : totD d (pre ++ [k]) = totD d pre + incD d pre k := by
  unfold totD
  rw [List.length_append, List.length_singleton, sumC_succ]
  congr 1
  · unfold sumC
    congr 1
    apply List.map_congr_left
    intro i hi
    rw [List.mem_range] at hi
    unfold stepC
    by_cases c : i = 0
    · rw [if_pos c, if_pos c]
    · rw [if_neg c, if_neg c, getD_left hi, getD_left (show i - 1 < pre.length by omega)]
  · unfold stepC incD
    by_cases c : pre.length = 0
    · rw [if_pos c, if_pos c]
    · rw [if_neg c, if_neg c, getD_snoc, getD_left (show pre.length - 1 < pre.length by omega)]
theorem dayV_order {d o : List Int} (hd : doughsOk d = true) (ho : o ∈ comps d.length d.length []) : dayV d o = totD d o := by
  obtain ⟨hl, hp⟩ := (comps_all o).1 ho
  have hall : (List.range o.length).all (okAt o (d.length : Int)) = true := by
    rw [List.all_eq_true]
    intro i hi
    rw [List.mem_range] at hi
    have e : o.getD i 0 = o[i] := by
      rw [List.getD_eq_getElem?_getD, List.getElem?_eq_getElem hi]
      rfl
    unfold okAt
    rw [decide_eq_true_eq, e]
    have := hp.rng _ (List.getElem_mem hi)
    refine ⟨by omega, fun hm => ?_⟩
    obtain ⟨j, hj, ej⟩ := List.getElem_of_mem hm
    rw [List.length_take] at hj
    rw [List.getElem_take] at ej
    have h2 := List.pairwise_iff_getElem.1 (List.nodup_iff_pairwise_ne.1 hp.nodup) j i (by omega) hi (by omega)
    exact h2 ej
  unfold dayV totD
  rw [if_pos ⟨hd, by omega, hall⟩]
theorem ev_list {α β : Type} (g : Nat → α → Option β) (v : α → β) : ∀ (L : List α), (∀ x ∈ L, Ev (fun k => g k x) (v x)) → ∃ K, ∀ k, K ≤ k → ∀ x ∈ L, g k x = some (v x)
  | [], _ => ⟨0, fun _ _ x hx => absurd hx (by simp)⟩
  | a :: L, h => by
    obtain ⟨K1, h1⟩ := ev_list g v L (fun x hx => h x (List.mem_cons_of_mem _ hx))
    obtain ⟨K2, h2⟩ := h a List.mem_cons_self
    refine ⟨K1 + K2, fun k hk x hx => ?_⟩
    rcases List.mem_cons.1 hx with rfl | hx
    · exact h2 k (by omega)
    · exact h1 k (by omega) x hx
theorem bestDayI (d : List Int) (hb : d.length ≤ 1048576) : Ev (fun k => impl_BestDay.f k d) (if doughsOk d = true then (bestO d.length (incD d) d.length [], true) else ([], false)) := by
  unfold impl_BestDay.f
  simp only [doughsI, Option.bind_some]
  by_cases c1 : doughsOk d = true
  · simp only [if_pos c1]
    obtain ⟨hd, hn⟩ := (doughsOk_iff d).1 c1
    obtain ⟨K, hK⟩ := ev_list (fun k o => impl_DayCost.f k d o) (dayV d) (comps d.length d.length []) (fun o ho => dayI d o (by have := (comps_all o).1 ho; omega))
    refine ⟨K, fun k hk => ?_⟩
    have h := hK k hk
    show (if d.length ≤ 8 ∧ ∀ o ∈ comps d.length d.length [], (impl_DayCost.f k d o).isSome = true then some (vres ((comps d.length d.length []).foldl (vstep fun o => (impl_DayCost.f k d o).getD 0) none), true) else none) = _
    rw [if_pos ⟨hn, fun o ho => by rw [h o ho]; rfl⟩]
    rw [vfold_congr (fun o => (impl_DayCost.f k d o).getD 0) (totD d) _ _ (fun o ho => by rw [h o ho, Option.getD_some]; exact dayV_order c1 ho)]
    rw [first_least (inc := incD d) (tot := totD d) (totD_snoc d) d.length [] (Pre.nil _) (by simp)]
    rfl
  · simp only [if_neg c1]
    exact Ev.now _
/-! sets, one in another -/
def sub (x y : Int) : Prop := Go.bits .or .i64 x y = y
theorem sub_iff {a b : Nat} (ha : a ≤ 255) (hb : b ≤ 255) : sub (a : Int) (b : Int) ↔ a ||| b = b := by
  unfold sub
  rw [or_nat a b ha hb]
  omega
theorem sub_refl {x : Int} (hx : 0 ≤ x ∧ x ≤ 255) : sub x x := by
  obtain ⟨a, rfl⟩ := Int.eq_ofNat_of_zero_le hx.1
  rw [sub_iff (by omega) (by omega)]
  exact Nat.or_self a
theorem sub_trans {x y z : Int} (hx : 0 ≤ x ∧ x ≤ 255) (hy : 0 ≤ y ∧ y ≤ 255) (hz : 0 ≤ z ∧ z ≤ 255) (h : sub x y) (k : sub y z) : sub x z := by
  obtain ⟨a, rfl⟩ := Int.eq_ofNat_of_zero_le hx.1
  obtain ⟨b, rfl⟩ := Int.eq_ofNat_of_zero_le hy.1
  obtain ⟨c, rfl⟩ := Int.eq_ofNat_of_zero_le hz.1
  rw [sub_iff (by omega) (by omega)] at h k ⊢
  rw [← k, ← Nat.or_assoc, h]
theorem sub_le {x y : Int} (hx : 0 ≤ x ∧ x ≤ 255) (hy : 0 ≤ y ∧ y ≤ 255) (h : sub x y) : x ≤ y := by
  obtain ⟨a, rfl⟩ := Int.eq_ofNat_of_zero_le hx.1
  obtain ⟨b, rfl⟩ := Int.eq_ofNat_of_zero_le hy.1
  rw [sub_iff (by omega) (by omega)] at h
  have : a ≤ a ||| b := Nat.left_le_or
  omega
theorem cost_zero {x y : Int} (hx : 0 ≤ x ∧ x ≤ 255) (hy : 0 ≤ y ∧ y ≤ 255) : costV x y = 0 ↔ sub x y := by
  have := pop_bd x.toNat
  unfold costV sub
  rw [if_pos ⟨hx, hy⟩]
  by_cases c : Go.bits .or .i64 x y = y
  · rw [if_pos c]
    simp [c]
  · rw [if_neg c]
    constructor
    · intro h
      omega
    · intro h
      exact absurd h c
theorem step_ok {d : List Int} (hd : ∀ x ∈ d, 0 ≤ x ∧ x ≤ 255) (l : List Int) (k : Nat) : 0 ≤ stepC costV d l k := by
  unfold stepC
  split
  · omega
  · exact (costV_ok (getD_rng hd _) (getD_rng hd _)).1
theorem sumC_zero {d : List Int} (hd : ∀ x ∈ d, 0 ≤ x ∧ x ≤ 255) (l : List Int) : ∀ n : Nat, 0 ≤ sumC costV d l n ∧ (sumC costV d l n = 0 → ∀ k, k < n → stepC costV d l k = 0)
  | 0 => ⟨by simp [sumC], fun _ k hk => absurd hk (Nat.not_lt_zero _)⟩
  | n + 1 => by
    obtain ⟨h1, h2⟩ := sumC_zero hd l n
    have h3 := step_ok hd l n
    rw [sumC_succ]
    refine ⟨by omega, fun h k hk => ?_⟩
    by_cases c : k = n
    · rw [c]
      omega
    · exact h2 (by omega) k (by omega)
theorem sumC_all {d : List Int} (l : List Int) (n : Nat) (h : ∀ k, k < n → stepC costV d l k = 0) : sumC costV d l n = 0 := by
  induction n with
  | zero => simp [sumC]
  | succ n ih => rw [sumC_succ, ih (fun k hk => h k (by omega)), h n (by omega)]; rfl
/-- The best order: what it is. -/
theorem best_least {d : List Int} (hd : ∀ x ∈ d, 0 ≤ x ∧ x ≤ 255) : bestO d.length (incD d) d.length [] ∈ comps d.length d.length [] ∧ ∀ o ∈ comps d.length d.length [], totD d (bestO d.length (incD d) d.length []) ≤ totD d o := by
  obtain ⟨b, e, hb, hm⟩ := vfold_least (totD d) (comps d.length d.length []) (comps_ne d.length [] (Pre.nil _) (by simp))
  rw [first_least (inc := incD d) (tot := totD d) (totD_snoc d) d.length [] (Pre.nil _) (by simp)] at e
  have e1 := (Prod.mk.inj (Option.some.inj e)).1
  rw [e1]
  exact ⟨hb, hm⟩
theorem nz_range {d o : List Int} (ho : o ∈ comps d.length d.length []) {k : Nat} (hk : k < o.length) : 0 ≤ o.getD k 0 ∧ o.getD k 0 < (d.length : Int) := by
  have hp := ((comps_all o).1 ho).2
  rw [List.getD_eq_getElem?_getD, List.getElem?_eq_getElem hk]
  exact hp.rng _ (List.getElem_mem hk)
/-- An order of no cost goes up. -/
theorem zero_up {d o : List Int} (hd : ∀ x ∈ d, 0 ≤ x ∧ x ≤ 255) (h : totD d o = 0) (k : Nat) (hk : k + 1 < o.length) : sub (d.getD (o.getD k 0).toNat 0) (d.getD (o.getD (k + 1) 0).toNat 0) := by
  have := (sumC_zero hd o o.length).2 h (k + 1) hk
  unfold stepC at this
  rw [if_neg (by omega), Nat.add_sub_cancel] at this
  exact (cost_zero (getD_rng hd _) (getD_rng hd _)).1 this
theorem zero_chain {d o : List Int} (hd : ∀ x ∈ d, 0 ≤ x ∧ x ≤ 255) (h : totD d o = 0) : ∀ (e k : Nat), k + e < o.length → sub (d.getD (o.getD k 0).toNat 0) (d.getD (o.getD (k + e) 0).toNat 0)
  | 0, k, _ => sub_refl (getD_rng hd _)
  | e + 1, k, hk => sub_trans (getD_rng hd _) (getD_rng hd _) (getD_rng hd _) (zero_chain hd h e k (by omega)) (zero_up hd h (k + e) (by omega))
theorem need_iff {d : List Int} (hd : doughsOk d = true) : needV d = true ↔ ∀ i j : Nat, j < i → i < d.length → sub (d.getD i 0) (d.getD j 0) ∨ sub (d.getD j 0) (d.getD i 0) := by
  have hr := ((doughsOk_iff d).1 hd).1
  unfold needV inOne sub
  rw [hd, Bool.and_true, List.all_eq_true]
  constructor
  · intro h i j hj hi
    have h1 := h i (List.mem_range.2 hi)
    rw [List.all_eq_true] at h1
    have h2 := of_decide_eq_true (h1 j (List.mem_range.2 hj))
    rcases h2 with h2 | h2
    · exact .inr (by rw [or_comm_i _ _ (getD_rng hr _) (getD_rng hr _)]; exact h2)
    · exact .inl h2
  · intro h i hi
    rw [List.all_eq_true]
    intro j hj
    refine decide_eq_true ?_
    rcases h i j (List.mem_range.1 hj) (List.mem_range.1 hi) with h | h
    · exact .inr h
    · exact .inl (by rw [or_comm_i _ _ (getD_rng hr _) (getD_rng hr _)]; exact h)
theorem need_zero {d : List Int} (hd : doughsOk d = true) : needV d = decide (totD d (bestO d.length (incD d) d.length []) = 0) := by
  have hr := ((doughsOk_iff d).1 hd).1
  obtain ⟨hb, hm⟩ := best_least hr
  rw [Bool.eq_iff_iff, need_iff hd, decide_eq_true_eq]
  constructor
  · intro h
    have hcmp : ∀ i j : Nat, i < d.length → j < d.length → d.getD i 0 ≤ d.getD j 0 → sub (d.getD i 0) (d.getD j 0) := by
      intro i j hi hj hle
      rcases Nat.lt_trichotomy i j with hlt | rfl | hlt
      · rcases h j i hlt hj with h1 | h1
        · have := sub_le (getD_rng hr _) (getD_rng hr _) h1
          rw [show d.getD i 0 = d.getD j 0 by omega]
          exact sub_refl (getD_rng hr _)
        · exact h1
      · exact sub_refl (getD_rng hr _)
      · rcases h i j hlt hi with h1 | h1
        · exact h1
        · have := sub_le (getD_rng hr _) (getD_rng hr _) h1
          rw [show d.getD i 0 = d.getD j 0 by omega]
          exact sub_refl (getD_rng hr _)
    obtain ⟨o, ho⟩ : ∃ o, o = (idxs d.length).mergeSort (fun i j => decide (d.getD i.toNat 0 ≤ d.getD j.toNat 0)) := ⟨_, rfl⟩
    have hperm : o.Perm (idxs d.length) := by rw [ho]; exact List.mergeSort_perm _ _
    have hsort : o.Pairwise (fun i j => decide (d.getD i.toNat 0 ≤ d.getD j.toNat 0) = true) := by
      rw [ho]
      exact List.pairwise_mergeSort (fun a b c h1 h2 => by simp only [decide_eq_true_eq] at *; omega) (fun a b => by simp only [Bool.or_eq_true, decide_eq_true_eq]; omega) _
    have hnd : (idxs d.length).Nodup := by
      unfold idxs
      rw [List.nodup_iff_pairwise_ne, List.pairwise_map]
      exact (List.nodup_range).imp (fun h e => h (by omega))
    have hmem : o ∈ comps d.length d.length [] := (comps_all o).2 ⟨by rw [hperm.length_eq, idxs_length], (hperm.nodup_iff).2 hnd, fun x hx => mem_idxs.1 ((hperm.mem_iff).1 hx)⟩
    have hz : totD d o = 0 := sumC_all o o.length (fun k hk => by
      unfold stepC
      by_cases c : k = 0
      · rw [if_pos c]
      · rw [if_neg c]
        refine (cost_zero (getD_rng hr _) (getD_rng hr _)).2 ?_
        have r1 := nz_range hmem (k := k - 1) (by omega)
        have r2 := nz_range hmem hk
        refine hcmp _ _ (by omega) (by omega) ?_
        have h1 := List.pairwise_iff_getElem.1 hsort (k - 1) k (by omega) hk (by omega)
        rw [List.getD_eq_getElem?_getD (l := o), List.getElem?_eq_getElem (show k - 1 < o.length by omega), List.getD_eq_getElem?_getD (l := o), List.getElem?_eq_getElem hk]
        exact of_decide_eq_true h1)
    have h1 := hm o hmem
    have h2 := (sumC_zero hr (bestO d.length (incD d) d.length []) (bestO d.length (incD d) d.length []).length).1
    unfold totD at *
    omega
  · intro h i j hj hi
    obtain ⟨hl, hp⟩ := (comps_all _).1 hb
    generalize bestO d.length (incD d) d.length [] = b at *
    obtain ⟨p, hp1, hp2⟩ := List.getElem_of_mem (hp.full hl (i : Int) (by omega) (by omega))
    obtain ⟨q, hq1, hq2⟩ := List.getElem_of_mem (hp.full hl (j : Int) (by omega) (by omega))
    have e1 : b.getD p 0 = (i : Int) := by rw [List.getD_eq_getElem?_getD, List.getElem?_eq_getElem hp1]; exact hp2
    have e2 : b.getD q 0 = (j : Int) := by rw [List.getD_eq_getElem?_getD, List.getElem?_eq_getElem hq1]; exact hq2
    rcases Nat.lt_or_ge p q with hlt | hge
    · have h1 := zero_chain hr h (q - p) p (by omega)
      rw [show p + (q - p) = q by omega, e1, e2, Int.toNat_natCast, Int.toNat_natCast] at h1
      exact .inl h1
    · have h1 := zero_chain hr h (p - q) q (by omega)
      rw [show q + (p - q) = p by omega, e1, e2, Int.toNat_natCast, Int.toNat_natCast] at h1
      exact .inr h1
/-- An order that begins at a and goes round. -/
def rot (n : Nat) (a : Int) : List Int := (List.range n).map fun (k : Nat) => ((k : Int) + a) % (n : Int)
theorem rot_mem (n : Nat) (a : Int) : rot n a ∈ comps n n [] := by
  refine (comps_all _).2 ⟨by simp [rot], ?_, fun x hx => ?_⟩
  · unfold rot
    rw [List.nodup_iff_pairwise_ne, List.pairwise_map, List.pairwise_iff_getElem]
    intro i j hi hj hij
    simp only [List.length_range] at hi hj
    simp only [List.getElem_range]
    intro e
    have h1 : (((j : Int) + a) - ((i : Int) + a)) % (n : Int) = 0 := (Int.emod_eq_emod_iff_emod_sub_eq_zero).1 e.symm
    rw [show ((j : Int) + a) - ((i : Int) + a) = (j : Int) - (i : Int) by omega, Int.emod_eq_of_lt (by omega) (by omega)] at h1
    omega
  · unfold rot at hx
    obtain ⟨k, hk, rfl⟩ := List.mem_map.1 hx
    rw [List.mem_range] at hk
    exact ⟨Int.emod_nonneg _ (by omega), Int.emod_lt_of_pos _ (by omega)⟩
/-- What the traces are. -/
theorem traces_at {d : List Int} (hd : ∀ x ∈ d, 0 ≤ x ∧ x ≤ 255) (c : List Bool) : ∀ n : Nat, (traces d c n).1.length = n ∧ (traces d c n).2 = (if n = 0 then 0 else (traces d c n).1.getD (n - 1) 0) ∧ (0 ≤ (traces d c n).2 ∧ (traces d c n).2 ≤ 255) ∧
    ∀ i, i < n → (0 ≤ (traces d c n).1.getD i 0 ∧ (traces d c n).1.getD i 0 ≤ 255) ∧ (traces d c n).1.getD i 0 = Go.bits .or .i64 (if rdOf false c (i : Int) = true then 0 else if i = 0 then 0 else (traces d c n).1.getD (i - 1) 0) (d.getD i 0)
  | 0 => ⟨rfl, rfl, ⟨Int.le_refl _, (by show (0 : Int) ≤ 255; decide)⟩, fun i hi => absurd hi (Nat.not_lt_zero _)⟩
  | n + 1 => by
    obtain ⟨h1, h2, h3, h4⟩ := traces_at hd c n
    have hx := getD_rng hd n
    have hr : rd d (n : Int) = d.getD n 0 := rd_eq d n
    rw [traces_succ]
    generalize traces d c n = s at h1 h2 h3 h4 ⊢
    obtain ⟨l, m⟩ := s
    simp only at h1 h2 h3 h4
    unfold traceStep
    simp only [hr]
    have hin : 0 ≤ (if rdOf false c (n : Int) = true then (0 : Int) else m) ∧ (if rdOf false c (n : Int) = true then (0 : Int) else m) ≤ 255 := by split <;> omega
    have hv := or_range _ _ hin hx
    have e0 : (l ++ [Go.bits .or .i64 (if rdOf false c (n : Int) = true then 0 else m) (d.getD n 0)]).getD n 0 = Go.bits .or .i64 (if rdOf false c (n : Int) = true then 0 else m) (d.getD n 0) := by
      have := getD_snoc l (Go.bits .or .i64 (if rdOf false c (n : Int) = true then 0 else m) (d.getD n 0))
      rw [h1] at this
      exact this
    refine ⟨by simp [h1], ?_, hv, fun i hi => ?_⟩
    · rw [if_neg (show ¬ n + 1 = 0 by omega), Nat.add_sub_cancel]
      exact e0.symm
    · by_cases ci : i = n
      · subst ci
        rw [e0]
        refine ⟨hv, ?_⟩
        by_cases cz : i = 0
        · rw [if_pos cz] at h2 ⊢
          rw [h2]
        · rw [if_neg cz] at h2
          rw [if_neg cz, getD_left (show i - 1 < l.length by omega), ← h2]
      · have hlt : i < l.length := by omega
        obtain ⟨g1, g2⟩ := h4 i (by omega)
        rw [getD_left hlt]
        refine ⟨g1, ?_⟩
        rw [g2]
        by_cases cz : i = 0
        · rw [if_pos cz, if_pos cz]
        · rw [if_neg cz, if_neg cz, getD_left (show i - 1 < l.length by omega)]
theorem or_zero {x : Int} (hx : 0 ≤ x ∧ x ≤ 255) : Go.bits .or .i64 0 x = x := by
  obtain ⟨a, rfl⟩ := Int.eq_ofNat_of_zero_le hx.1
  have := or_nat 0 a (by omega) (by omega)
  rw [Nat.zero_or] at this
  exact this
theorem fin_f : Ev (fun k => (impl_CleanCost.f k 3 7).bind fun t227 => (if t227 = 0 then ((impl_CleanCost.f k 7 3).bind fun t228 => (if t228 = 8 then ((impl_CleanCost.f k 0 0).bind fun t229 => (some (t229 == 0))) else (some false))) else (some false))) true := by
  have e1 : costV 3 7 = 0 := by decide +kernel
  have e2 : costV 7 3 = 8 := by decide +kernel
  have e3 : costV 0 0 = 0 := by decide +kernel
  refine Ev.bind (costI 3 7) ?_
  rw [e1]
  simp only [if_true]
  refine Ev.bind (costI 7 3) ?_
  rw [e2]
  simp only [if_true]
  refine Ev.bind (costI 0 0) ?_
  rw [e3]
  exact Ev.now _
theorem j6_f (d b : List Int) (n0 i : Int) : Ev (fun k => laws_FnCleanings.j6 k d b n0 i false) true :=
  ev_next (fun k => by simp only [laws_FnCleanings.j6]; rw [if_neg (by decide)]) _ fin_f
theorem l3_f {d b : List Int} (hr : ∀ x ∈ d, 0 ≤ x ∧ x ≤ 255) (hn : d.length ≤ 8) (hb : b ∈ comps d.length d.length []) : Ev (fun k => laws_FnCleanings.l3 k d b (totD d b) 1) true := by
  obtain ⟨hl, hp⟩ := (comps_all _).1 hb
  by_cases z : totD d b = 0
  · by_cases hz : b.length = 0
    · refine ev_next (fun k => ?_) _ (j6_f d b (totD d b) 1)
      simp only [laws_FnCleanings.l3]
      rw [if_neg (by omega)]
    · have h := ev_to (fun k (_ : Unit) i => laws_FnCleanings.l3 k d b (totD d b) i) b.length (fun i _ => 1 ≤ i) true (fun i _ hi h1 => by
          refine .inl ⟨(), by omega, fun r hr2 => ?_⟩
          have r1 := nz_range hb hi
          have r0 := nz_range hb (show i - 1 < b.length by omega)
          have up := zero_up hr z (i - 1) (by omega)
          rw [show i - 1 + 1 = i by omega] at up
          unfold sub at up
          have o1 := getD_rng hr (b.getD i 0).toNat
          have o0 := getD_rng hr (b.getD (i - 1) 0).toNat
          rw [or_comm_i _ _ o0 o1] at up
          have q1 : (i : Int) < (b.length : Int) := by omega
          have q2 : (0 : Int) ≤ (i : Int) := by omega
          have q3 : (0 : Int) ≤ ((i - 1 : Nat) : Int) := by omega
          have q4 : ((i - 1 : Nat) : Int) < (b.length : Int) := by omega
          have q5 : ¬ b.getD i 0 < 0 := by omega
          have q6 : ¬ b.getD i 0 ≥ (d.length : Int) := by omega
          have q7 : ¬ b.getD (i - 1) 0 < 0 := by omega
          have q8 : ¬ b.getD (i - 1) 0 ≥ (d.length : Int) := by omega
          have ei : wrap64 ((i : Int) - 1) = ((i - 1 : Nat) : Int) := by rw [w64 (by omega) (by omega)]; omega
          have e1 : wrap64 ((i : Int) + 1) = (i : Int) + 1 := w64 (by omega) (by omega)
          have rdd : ∀ x : Int, rd d x = d.getD x.toNat 0 := fun x => rfl
          have z2 : ((totD d b) == 0) = true := by simp [z]
          refine ev_next (f := fun k => laws_FnCleanings.j6 k d b (totD d b) (i : Int) true) (fun k => ?_) r (ev_next (fun k => ?_) r hr2)
          · simp only [laws_FnCleanings.l3]
            rw [if_pos q1, z2]
          · simp only [laws_FnCleanings.j6]
            rw [if_pos trivial, if_pos q2, if_pos q1, rd_eq b, if_neg q5, if_neg q6, ei, if_pos q3, if_pos q4, rd_eq b, if_neg q7, if_neg q8, if_pos r1.1, if_pos r1.2, if_pos r0.1, if_pos r0.2, rdd, rdd, if_pos up, e1]) (fun _ _ => by
          refine ev_next (fun k => ?_) _ (j6_f d b (totD d b) (b.length : Int))
          simp only [laws_FnCleanings.l3]
          rw [if_neg (by omega)]) 1 () (by omega) (Nat.le_refl _)
      exact h
  · by_cases h1 : 1 < b.length
    · refine ev_next (fun k => ?_) _ (j6_f d b (totD d b) 1)
      simp only [laws_FnCleanings.l3]
      rw [if_pos (by omega), show ((totD d b) == 0) = false by simp [z]]
    · refine ev_next (fun k => ?_) _ (j6_f d b (totD d b) 1)
      simp only [laws_FnCleanings.l3]
      rw [if_neg (by omega)]
theorem l2_f {d b : List Int} (hr : ∀ x ∈ d, 0 ≤ x ∧ x ≤ 255) (hn : d.length ≤ 8) (hb : b ∈ comps d.length d.length []) (c : List Bool) (hc : c.length = d.length) : Ev (fun k => laws_FnCleanings.l2 k d b (totD d b) c (traces d c d.length).1 0) true := by
  obtain ⟨t1, _, _, t4⟩ := traces_at hr c d.length
  generalize (traces d c d.length).1 = T at t1 t4 ⊢
  have h := ev_to (fun k (_ : Unit) i => laws_FnCleanings.l2 k d b (totD d b) c T i) d.length (fun i _ => True) true (fun i _ hi _ => by
      refine .inl ⟨(), trivial, fun r hr2 => ?_⟩
      have q1 : (i : Int) < (d.length : Int) := by omega
      have q2 : (0 : Int) ≤ (i : Int) := by omega
      have q3 : (0 : Int) ≤ ((i - 1 : Nat) : Int) := by omega
      have q4 : ((i - 1 : Nat) : Int) < (T.length : Int) := by omega
      have q5 : (i : Int) < (T.length : Int) := by omega
      have q6 : (i : Int) < (c.length : Int) := by omega
      have q7 : i ≠ 0 → (i : Int) > 0 := fun h => by omega
      have q8 : i = 0 → ¬ (i : Int) > 0 := fun h => by omega
      have q9 : i - 1 < d.length := by omega
      have e1 : wrap64 ((i : Int) + 1) = (i : Int) + 1 := w64 (by omega) (by omega)
      have ei : i ≠ 0 → wrap64 ((i : Int) - 1) = ((i - 1 : Nat) : Int) := fun h => by rw [w64 (by omega) (by omega)]; omega
      obtain ⟨g0, g1⟩ := t4 i hi
      have di := getD_rng hr i
      by_cases cz : i = 0
      · rw [if_pos cz] at g1
        have g2 : T.getD i 0 = d.getD i 0 := by
          rw [g1]
          split <;> exact or_zero di
        refine ev_next (f := fun k => laws_FnCleanings.j4 k d b (totD d b) c T (i : Int) (d.getD i 0) false) (fun k => ?_) r (ev_next (fun k => ?_) r hr2)
        · simp only [laws_FnCleanings.l2]
          rw [if_pos q1, if_pos q2, if_neg (q8 cz), rd_eq d]
        · simp only [laws_FnCleanings.j4]
          rw [if_neg (by decide), if_pos q2, if_pos q5, rd_eq T, if_pos g2, e1]
      · rw [if_neg cz] at g1
        refine ev_next (f := fun k => laws_FnCleanings.j4 k d b (totD d b) c T (i : Int) (d.getD i 0) (!(rdOf false c (i : Int)))) (fun k => ?_) r ?_
        · simp only [laws_FnCleanings.l2]
          rw [if_pos q1, if_pos q2, if_pos (q7 cz), if_pos q6, rd_eq d]
        · cases hcl : rdOf false c (i : Int) with
          | true =>
            rw [hcl, if_pos rfl, or_zero di] at g1
            refine ev_next (fun k => ?_) r hr2
            simp only [laws_FnCleanings.j4]
            rw [if_neg (by decide), if_pos q2, if_pos q5, rd_eq T, if_pos g1, e1]
          | false =>
            have gp := (t4 (i - 1) q9).1
            rw [hcl, if_neg (by decide), or_comm_i _ _ gp di] at g1
            refine ev_next (fun k => ?_) r hr2
            simp only [laws_FnCleanings.j4]
            rw [if_pos (show (!false) = true from rfl), ei cz, if_pos q3, if_pos q4, if_pos q2, if_pos q5, rd_eq T, rd_eq T, if_pos g1, e1]) (fun _ _ => by
      refine ev_next (fun k => ?_) _ (l3_f hr hn hb)
      simp only [laws_FnCleanings.l2]
      rw [if_neg (by omega)]) 0 () (Nat.zero_le _) trivial
  exact h
theorem l1_f {d b : List Int} (l : List Int) (hw : ∀ x ∈ l, (Lit.int .u8 x).wf = true) (hll : l.length ≤ 1048576) (hd : doughsOk d = true) (hb : b ∈ comps d.length d.length []) : Ev (fun k => laws_FnCleanings.l1 k l d b (totD d b) [] 0) true := by
  obtain ⟨hr, hn⟩ := (doughsOk_iff d).1 hd
  have h := ev_to (fun k (s : List Bool) i => laws_FnCleanings.l1 k l d b (totD d b) s i) d.length (fun i s => s.length = i) true (fun i s hi hs => by
      have e1 : wrap64 ((i : Int) + 1) = (i : Int) + 1 := w64 (by omega) (by omega)
      obtain ⟨a, ha, a0, a1⟩ := at_f l hw (by omega) ((i : Int) + 1) (by omega) (by omega)
      refine .inl ⟨s ++ [(Int.tmod a 3) == 0], by simp [hs], fun r hr2 => ev_next (fun k => ?_) r hr2⟩
      simp only [laws_FnCleanings.l1]
      rw [if_pos (by omega), e1, ha]
      simp only [Option.bind_some]
      rw [if_pos (by omega)]) (fun s hs => by
      have ht := traceI d s (by omega) (by omega)
      have hall : allOk d 0 255 = true := by
        unfold doughsOk at hd
        rw [Bool.and_eq_true] at hd
        exact hd.1
      unfold tracesV at ht
      rw [if_pos ⟨⟨hall, by omega⟩, hs⟩] at ht
      have hlen := traces_len d s d.length
      refine ev_next (f := fun k => (impl_TracesAfter.f k d s).bind fun t209 => (if (t209.length : Int) = (d.length : Int) then (laws_FnCleanings.l2 k d b (totD d b) s t209 0) else (some false))) (fun k => ?_) _ (Ev.bind ht ?_)
      · simp only [laws_FnCleanings.l1]
        rw [if_neg (by omega)]
      · simp only [hlen, if_true]
        exact l2_f hr hn hb s hs) 0 [] (Nat.zero_le _) rfl
  exact h
theorem l0_f {d b : List Int} (l : List Int) (hw : ∀ x ∈ l, (Lit.int .u8 x).wf = true) (hll : l.length ≤ 1048576) (hd : doughsOk d = true) (hb : b ∈ comps d.length d.length []) (hm : ∀ o ∈ comps d.length d.length [], totD d b ≤ totD d o) : Ev (fun k => laws_FnCleanings.l0 k l d b (totD d b) [] 0) true := by
  obtain ⟨hr, hn⟩ := (doughsOk_iff d).1 hd
  obtain ⟨a, ha, a0, a1⟩ := at_f l hw (by omega) 0 (by omega) (by omega)
  have h := ev_to (fun k (s : List Int) i => laws_FnCleanings.l0 k l d b (totD d b) s i) d.length (fun i s => s = (List.range i).map fun (k : Nat) => ((k : Int) + a) % (d.length : Int)) true (fun i s hi hs => by
      have e1 : wrap64 ((i : Int) + 1) = (i : Int) + 1 := w64 (by omega) (by omega)
      have e2 : wrap64 ((i : Int) + a) = (i : Int) + a := w64 (by omega) (by omega)
      refine .inl ⟨s ++ [((i : Int) + a) % (d.length : Int)], by rw [hs, List.range_succ, List.map_append]; rfl, fun r hr2 => ev_next (fun k => ?_) r hr2⟩
      have hsl : s.length = i := by rw [hs]; simp
      simp only [laws_FnCleanings.l0]
      rw [if_pos (by omega), ha]
      simp only [Option.bind_some]
      rw [if_neg (by omega), if_pos (by omega), e1, e2, tmod_pos (by omega)]) (fun s hs => by
      have hrot : s = rot d.length a := hs
      have hmem := rot_mem d.length a
      rw [← hrot] at hmem
      have hday := dayI d s (by have := (comps_all s).1 hmem; omega)
      rw [dayV_order hd hmem] at hday
      have hle := hm s hmem
      refine ev_next (f := fun k => (impl_DayCost.f k d s).bind fun t201 => (if t201 < totD d b then (some false) else (laws_FnCleanings.l1 k l d b (totD d b) (([] : List Bool)) 0))) (fun k => ?_) _ (Ev.bind hday ?_)
      · simp only [laws_FnCleanings.l0]
        rw [if_neg (by omega)]
      · simp only [if_neg (show ¬ totD d s < totD d b by omega)]
        exact l1_f l hw hll hd hb) 0 [] (Nat.zero_le _) rfl
  exact h
theorem FnCleanings (l : List Int) (_ : l.length ≤ maxLen) (hbb : l.length * 1 ≤ 140737488351232) (hw : ∀ x ∈ l, (Lit.int .u8 x).wf = true) : ∃ k, laws_FnCleanings.f k l = some true := by
  refine Ev.rounds ?_
  unfold laws_FnCleanings.f
  simp only [big_f, Option.bind_some, decide_eq_true_eq]
  by_cases c : (l.length : Int) > 1048576
  · simp only [if_pos c]
    exact Ev.now _
  · simp only [if_neg c]
    obtain ⟨d, hdraw, hlen, hrng⟩ := drawDay_f l (by omega)
    have hd : doughsOk d = true := (doughsOk_iff d).2 ⟨fun x hx => by have := hrng x hx; omega, by omega⟩
    obtain ⟨hr, hn⟩ := (doughsOk_iff d).1 hd
    obtain ⟨hb, hm⟩ := best_least hr
    have hI := bestDayI d (by omega)
    rw [if_pos hd] at hI
    have hneed := need_zero hd
    refine Ev.bind hdraw (Ev.bind hI ?_)
    simp only
    generalize bestO d.length (incD d) d.length [] = b at hb hm hneed ⊢
    have hbl := ((comps_all b).1 hb).1
    have hday := dayI d b (by omega)
    rw [dayV_order hd hb] at hday
    have h0 := (sumC_zero hr b b.length).1
    have h0 : 0 ≤ totD d b := h0
    refine Ev.bind hday ?_
    simp only [if_true, if_pos (show (b.length : Int) = (d.length : Int) by omega), if_neg (show ¬ totD d b < 0 by omega)]
    refine Ev.bind (needI d (by omega)) ?_
    rw [hneed]
    refine ev_next (f := fun k => laws_FnCleanings.l0 k l d b (totD d b) [] 0) (fun k => ?_) _ (l0_f l hw (by omega) hd hb hm)
    simp only [laws_FnCleanings.j0]
    rw [if_neg (by by_cases z : totD d b = 0 <;> simp [z])]
end Go.Proofs.Ytkcfpkokgpimaaa.Pure
