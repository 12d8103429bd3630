/- The program's IsGrowing and the reference's answer alike, for all arguments. No condition. -/
import Derived.Test.YtbfgllgjniogiaaPFnExactIsGrowingx2
import Derived.Test.YtbfgllgjniogiaaBase
namespace Go.Proofs.Ytbfgllgjniogiaa.Pure
open Go.RowKit Go.Proofs.Ytbfgllgjniogiaa.PFnExactIsGrowing Go.Proofs.YtbfgllgjniogiaaW.PrintWords Go.Proofs.YtbfgllgjniogiaaW.PrintLast Go.Proofs.YtbfgllgjniogiaaW.PrintMore Go.Proofs.Ytbfgllgjniogiaa.Base
set_option linter.unusedVariables false
set_option linter.unusedSimpArgs false
theorem in_f (a b c : Int) : impl_in.f a b c = some (decide (b ≤ a ∧ a ≤ c)) := by
  unfold impl_in.f
  by_cases h : b ≤ a <;> simp [h]
theorem l01In_f (a b c : Int) : spec_l01In.f a b c = some (decide (b ≤ a ∧ a ≤ c)) := by
  unfold spec_l01In.f
  by_cases h : b ≤ a <;> simp [h]
/-- Two lists are told alike, element by element. -/
theorem eqIntS_f (a b : List Int) (hb : a.length ≤ 1000000000) : Ev (fun k => laws_eqIntS.f k a b) (decide (a = b)) := by
  unfold laws_eqIntS.f
  by_cases c : a.length = b.length
  · simp only [if_pos (show (a.length : Int) = (b.length : Int) by omega)]
    have h := ev_all (fun k i => laws_eqIntS.l0 k a b i) a.length (fun i => decide (rd a (i : Int) = rd b (i : Int))) false true (fun k i hi => by
      simp only [laws_eqIntS.l0]
      rw [if_pos (by omega), if_pos (by omega), if_pos (by omega), w64 (by omega) (by omega)]
      by_cases e : rd a (i : Int) = rd b (i : Int)
      · rw [if_pos e, if_pos (by simpa using e)]
      · rw [if_neg e, if_neg (by simpa using e)]) (fun k => by simp only [laws_eqIntS.l0]; rw [if_neg (by omega)])
    have e : (if (List.range a.length).all (fun i => decide (rd a (i : Int) = rd b (i : Int))) = true then true else false) = decide (a = b) := by
      by_cases e : a = b
      · subst e
        rw [if_pos (by simp)]
        simp
      · rw [if_neg]
        · simp [e]
        · intro hall
          refine e (List.ext_getElem c fun i h1 h2 => ?_)
          have := (List.all_eq_true.1 hall) i (List.mem_range.2 h1)
          rw [decide_eq_true_eq, rd_get _ _ h1, rd_get _ _ h2] at this
          exact this
    rw [e] at h
    exact h
  · simp only [if_neg (show ¬ (a.length : Int) = (b.length : Int) by omega)]
    refine ev_const ?_
    have : a ≠ b := fun e => c (by rw [e])
    simp [this]
theorem toIntS_f (l : List Int) (hb : l.length ≤ 1048576) : Ev (fun k => laws_toIntS.f k l) l := by
  unfold laws_toIntS.f
  simp only [if_pos (show (0 : Int) ≤ (l.length : Int) by omega), Int.toNat_natCast, if_pos (show l.length ≤ 35184372088832 by omega)]
  have h := ev_copy (fun k s i => laws_toIntS.l0 k l s i) l 0 id 0 (fun k s i hi hs => by
    simp (disch := omega) only [laws_toIntS.l0, if_pos, w64]
    simp only [rd, Int.toNat_natCast, id]) (fun k s => by
    simp only [laws_toIntS.l0]
    rw [if_neg (by omega)])
  rwa [List.map_id] at h
theorem eqIntS_same (l : List Int) (hb : l.length ≤ 1000000000) : Ev (fun k => laws_eqIntS.f k l l) true := by
  have h := eqIntS_f l l hb
  rwa [decide_eq_true rfl] at h
/-- All numbers of a list are in a range. -/
def allOk (l : List Int) (a b : Int) : Bool := l.all fun x => decide (a ≤ x ∧ x ≤ b)
theorem allOk_mem {l : List Int} {a b : Int} (h : allOk l a b = true) : ∀ x ∈ l, a ≤ x ∧ x ≤ b := by
  intro x hx
  simpa using (List.all_eq_true.1 h) x hx
theorem allIn_f (l : List Int) (a b : Int) : impl_allIn.f l a b = some (allOk l a b) := rfl
/-- The reference's loop that asks the same. -/
theorem all_loop {R : Type} (F : Nat → Int → Option R) (l : List Int) (a b : Int) (r0 r1 : R)
    (hstep : ∀ (k : Nat) (i : Nat), i < l.length → F (k + 1) (i : Int) = if (decide (a ≤ rd l (i : Int) ∧ rd l (i : Int) ≤ b)) = true then F k ((i : Int) + 1) else some r0)
    (hend : ∀ (k : Nat), F (k + 1) (l.length : Int) = some r1) : Ev (fun k => F k 0) (if allOk l a b = true then r1 else r0) := by
  have h := ev_all F l.length (fun i => decide (a ≤ l.getD i 0 ∧ l.getD i 0 ≤ b)) r0 r1 (fun k i hi => by rw [hstep k i hi, rd_eq]) hend
  have e := all_range l 0 (fun x => decide (a ≤ x ∧ x ≤ b))
  rw [e] at h
  exact h
def salesOk (l : List Int) : Bool := decide (7 ≤ l.length ∧ l.length ≤ 140) && allOk l 0 10000
theorem salesOkI (l : List Int) : impl_SalesOk.f l = some (salesOk l) := by
  unfold impl_SalesOk.f salesOk
  simp only [in_f, allIn_f, Option.bind_some, decide_eq_true_eq]
  by_cases c : 7 ≤ l.length ∧ l.length ≤ 140
  · rw [if_pos (by omega)]
    simp [c]
  · rw [if_neg (by omega)]
    simp only [c, decide_false, Bool.false_and]
theorem salesOkS (l : List Int) (hb : l.length ≤ 1048576) : Ev (fun k => spec_SalesOk.f k l) (salesOk l) := by
  unfold spec_SalesOk.f
  have h := all_loop (fun k i => spec_SalesOk.l0 k l i) l 0 10000 false (decide (7 ≤ l.length ∧ l.length ≤ 140)) (fun k i hi => by
    simp (disch := omega) only [spec_SalesOk.l0, l01In_f, Option.bind_some, if_pos, w64]) (fun k => by
    simp only [spec_SalesOk.l0, l01In_f, Option.bind_some]
    rw [if_neg (by omega)]
    congr 1
    exact decide_eq_decide.2 (by omega))
  unfold salesOk
  cases c : allOk l 0 10000
  · rw [c] at h
    simpa using h
  · rw [c] at h
    simpa using h
/-- The sum as the machine makes it. -/
def sumW (l : List Int) : Int := l.foldl (fun s x => wrap64 (s + x)) 0
theorem sumW_range (l : List Int) : (List.range l.length).foldl (fun s i => wrap64 (s + rd l ((i : Nat) : Int))) 0 = sumW l := by
  have h := fold_range l 0 (fun s x => wrap64 (s + x)) 0
  unfold sumW
  rw [← h]
  simp only [rd_eq]
theorem sumS (l : List Int) (hb : l.length ≤ 1048576) : Ev (fun k => spec_l02Sum.f k l) (sumW l) := by
  unfold spec_l02Sum.f
  have h := ev_fold (fun k s i => spec_l02Sum.l0 k l s i) l.length (fun s i => wrap64 (s + rd l ((i : Nat) : Int))) id (fun k s i hi => by
    simp only [spec_l02Sum.l0]
    rw [if_pos (by omega), if_pos (by omega), w64 (x := (i : Int) + 1) (by omega) (by omega)]) (fun k s => by simp only [spec_l02Sum.l0]; rw [if_neg (by omega)]; rfl) 0
  rw [id, sumW_range] at h
  exact h
theorem sumI (l : List Int) (hb : l.length ≤ 1048576) : Ev (fun k => impl_sum.f k l) (sumW l) := by
  unfold impl_sum.f
  have h := ev_fold (fun k s i => impl_sum.l0 k s l (l.length : Int) i) l.length (fun s i => wrap64 (s + rd l ((i : Nat) : Int))) id (fun k s i hi => by
    simp only [impl_sum.l0]
    rw [if_pos (by omega), if_pos (by omega), if_pos (by omega), w64 (x := (i : Int) + 1) (by omega) (by omega)]) (fun k s => by simp only [impl_sum.l0]; rw [if_neg (by omega)]; rfl) 0
  rw [id, sumW_range] at h
  exact h
def growV (l : List Int) : Bool := salesOk l && decide (14 ≤ l.length) && decide (sumW ((l.take (l.length - 7)).drop (l.length - 14)) < sumW (l.drop (l.length - 7)))
theorem growS (l : List Int) (hb : l.length ≤ 1048576) : Ev (fun k => spec_IsGrowing.f k l) (growV l) := by
  unfold spec_IsGrowing.f growV
  refine Ev.bind (salesOkS l hb) ?_
  by_cases c1 : salesOk l = true
  · simp only [if_pos c1]
    by_cases c2 : 14 ≤ l.length
    · have e7 : wrap64 ((l.length : Int) - 7) = ((l.length - 7 : Nat) : Int) := by rw [w64 (by omega) (by omega)]; omega
      have e14 : wrap64 ((l.length : Int) - 14) = ((l.length - 14 : Nat) : Int) := by rw [w64 (by omega) (by omega)]; omega
      simp only [if_pos (show (l.length : Int) ≥ 14 by omega), e7, e14, Int.toNat_natCast, if_pos (show (0 : Int) ≤ ((l.length - 7 : Nat) : Int) by omega), if_pos (show ((l.length - 7 : Nat) : Int) ≤ (l.length : Int) by omega), if_pos (show (0 : Int) ≤ ((l.length - 14 : Nat) : Int) by omega), if_pos (show ((l.length - 14 : Nat) : Int) ≤ ((l.length - 7 : Nat) : Int) by omega)]
      refine Ev.bind (sumS _ (by rw [List.length_drop]; omega)) (Ev.bind (sumS _ (by rw [List.length_drop, List.length_take]; omega)) ?_)
      rw [c1, decide_eq_true c2]
      exact Ev.now _
    · simp only [if_neg (show ¬ (l.length : Int) ≥ 14 by omega)]
      rw [decide_eq_false c2]
      simp only [Bool.and_false, Bool.false_and]
      exact Ev.now _
  · simp only [if_neg c1]
    rw [Bool.eq_false_iff.2 c1]
    exact Ev.now _
theorem growI (l : List Int) (hb : l.length ≤ 1048576) : Ev (fun k => impl_IsGrowing.f k l) (growV l) := by
  unfold impl_IsGrowing.f growV
  simp only [salesOkI, Option.bind_some]
  by_cases c1 : salesOk l = true
  · simp only [if_pos c1]
    by_cases c2 : 14 ≤ l.length
    · have e7 : wrap64 ((l.length : Int) - 7) = ((l.length - 7 : Nat) : Int) := by rw [w64 (by omega) (by omega)]; omega
      have e14 : wrap64 ((l.length : Int) - 14) = ((l.length - 14 : Nat) : Int) := by rw [w64 (by omega) (by omega)]; omega
      simp only [if_pos (show (l.length : Int) ≥ 14 by omega), e7, e14, Int.toNat_natCast, if_pos (show (0 : Int) ≤ ((l.length - 7 : Nat) : Int) by omega), if_pos (show ((l.length - 7 : Nat) : Int) ≤ (l.length : Int) by omega), if_pos (show (0 : Int) ≤ ((l.length - 14 : Nat) : Int) by omega), if_pos (show ((l.length - 14 : Nat) : Int) ≤ ((l.length - 7 : Nat) : Int) by omega)]
      refine Ev.bind (sumI _ (by rw [List.length_drop]; omega)) (Ev.bind (sumI _ (by rw [List.length_drop, List.length_take]; omega)) ?_)
      rw [c1, decide_eq_true c2]
      exact Ev.now _
    · simp only [if_neg (show ¬ (l.length : Int) ≥ 14 by omega)]
      rw [decide_eq_false c2]
      simp only [Bool.and_false, Bool.false_and]
      exact Ev.now _
  · simp only [if_neg c1]
    rw [Bool.eq_false_iff.2 c1]
    exact Ev.now _
theorem FnExactIsGrowing : laws_FnExactIsGrowing.Pure := by
  intro l  _ _ _ 
  refine Ev.rounds ?_
  unfold laws_FnExactIsGrowing.f
  by_cases c : (l.length : Int) > 1048576
  · simp only [if_pos c]
    exact Ev.now _
  · simp only [if_neg c]
    have ht := toIntS_f l (by omega)
    refine Ev.bind ht (Ev.bind (growS l  (by omega)) (Ev.bind ht (Ev.bind (growI l  (by omega)) ?_)))
    simp only [bne_self_eq_false, Bool.false_eq_true, if_false]
    refine Ev.bind ht (Ev.bind (eqIntS_same l (by omega)) ?_)
    simp only [if_true]
    exact Ev.now _
end Go.Proofs.Ytbfgllgjniogiaa.Pure
