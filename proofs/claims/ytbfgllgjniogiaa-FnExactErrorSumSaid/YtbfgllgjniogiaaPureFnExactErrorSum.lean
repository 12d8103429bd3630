/- The program's ErrorSum and the reference's answer alike, for all arguments. No condition. -/
import Derived.Test.YtbfgllgjniogiaaPFnExactErrorSumx2
import Derived.Test.YtbfgllgjniogiaaBase
namespace Go.Proofs.Ytbfgllgjniogiaa.Pure
open Go.RowKit Go.Proofs.Ytbfgllgjniogiaa.PFnExactErrorSum Go.Proofs.YtbfgllgjniogiaaW.PrintWords Go.Proofs.YtbfgllgjniogiaaW.PrintLast Go.Proofs.YtbfgllgjniogiaaW.PrintMore Go.Proofs.Ytbfgllgjniogiaa.Base
set_option linter.unusedVariables false
set_option linter.unusedSimpArgs false
theorem in_f (a b c : Int) : impl_in.f a b c = some (decide (b ≤ a ∧ a ≤ c)) := by
  unfold impl_in.f
  by_cases h : b ≤ a <;> simp [h]
theorem l01In_f (a b c : Int) : spec_l01In.f a b c = some (decide (b ≤ a ∧ a ≤ c)) := by
  unfold spec_l01In.f
  by_cases h : b ≤ a <;> simp [h]
/-- Two lists are told alike, element by element. -/
theorem eqIntS_f (a b : List Int) (hb : a.length ≤ 1000000000) : Ev (fun k => laws_eqIntS.f k a b) (decide (a = b)) := by
  unfold laws_eqIntS.f
  by_cases c : a.length = b.length
  · simp only [if_pos (show (a.length : Int) = (b.length : Int) by omega)]
    have h := ev_all (fun k i => laws_eqIntS.l0 k a b i) a.length (fun i => decide (rd a (i : Int) = rd b (i : Int))) false true (fun k i hi => by
      simp only [laws_eqIntS.l0]
      rw [if_pos (by omega), if_pos (by omega), if_pos (by omega), w64 (by omega) (by omega)]
      by_cases e : rd a (i : Int) = rd b (i : Int)
      · rw [if_pos e, if_pos (by simpa using e)]
      · rw [if_neg e, if_neg (by simpa using e)]) (fun k => by simp only [laws_eqIntS.l0]; rw [if_neg (by omega)])
    have e : (if (List.range a.length).all (fun i => decide (rd a (i : Int) = rd b (i : Int))) = true then true else false) = decide (a = b) := by
      by_cases e : a = b
      · subst e
        rw [if_pos (by simp)]
        simp
      · rw [if_neg]
        · simp [e]
        · intro hall
          refine e (List.ext_getElem c fun i h1 h2 => ?_)
          have := (List.all_eq_true.1 hall) i (List.mem_range.2 h1)
          rw [decide_eq_true_eq, rd_get _ _ h1, rd_get _ _ h2] at this
          exact this
    rw [e] at h
    exact h
  · simp only [if_neg (show ¬ (a.length : Int) = (b.length : Int) by omega)]
    refine ev_const ?_
    have : a ≠ b := fun e => c (by rw [e])
    simp [this]
theorem toIntS_f (l : List Int) (hb : l.length ≤ 1048576) : Ev (fun k => laws_toIntS.f k l) l := by
  unfold laws_toIntS.f
  simp only [if_pos (show (0 : Int) ≤ (l.length : Int) by omega), Int.toNat_natCast, if_pos (show l.length ≤ 35184372088832 by omega)]
  have h := ev_copy (fun k s i => laws_toIntS.l0 k l s i) l 0 id 0 (fun k s i hi hs => by
    simp (disch := omega) only [laws_toIntS.l0, if_pos, w64]
    simp only [rd, Int.toNat_natCast, id]) (fun k s => by
    simp only [laws_toIntS.l0]
    rw [if_neg (by omega)])
  rwa [List.map_id] at h
theorem eqIntS_same (l : List Int) (hb : l.length ≤ 1000000000) : Ev (fun k => laws_eqIntS.f k l l) true := by
  have h := eqIntS_f l l hb
  rwa [decide_eq_true rfl] at h
/-- All numbers of a list are in a range. -/
def allOk (l : List Int) (a b : Int) : Bool := l.all fun x => decide (a ≤ x ∧ x ≤ b)
theorem allOk_mem {l : List Int} {a b : Int} (h : allOk l a b = true) : ∀ x ∈ l, a ≤ x ∧ x ≤ b := by
  intro x hx
  simpa using (List.all_eq_true.1 h) x hx
theorem allIn_f (l : List Int) (a b : Int) : impl_allIn.f l a b = some (allOk l a b) := rfl
/-- The reference's loop that asks the same. -/
theorem all_loop {R : Type} (F : Nat → Int → Option R) (l : List Int) (a b : Int) (r0 r1 : R)
    (hstep : ∀ (k : Nat) (i : Nat), i < l.length → F (k + 1) (i : Int) = if (decide (a ≤ rd l (i : Int) ∧ rd l (i : Int) ≤ b)) = true then F k ((i : Int) + 1) else some r0)
    (hend : ∀ (k : Nat), F (k + 1) (l.length : Int) = some r1) : Ev (fun k => F k 0) (if allOk l a b = true then r1 else r0) := by
  have h := ev_all F l.length (fun i => decide (a ≤ l.getD i 0 ∧ l.getD i 0 ≤ b)) r0 r1 (fun k i hi => by rw [hstep k i hi, rd_eq]) hend
  have e := all_range l 0 (fun x => decide (a ≤ x ∧ x ≤ b))
  rw [e] at h
  exact h
def salesOk (l : List Int) : Bool := decide (7 ≤ l.length ∧ l.length ≤ 140) && allOk l 0 10000
theorem salesOkI (l : List Int) : impl_SalesOk.f l = some (salesOk l) := by
  unfold impl_SalesOk.f salesOk
  simp only [in_f, allIn_f, Option.bind_some, decide_eq_true_eq]
  by_cases c : 7 ≤ l.length ∧ l.length ≤ 140
  · rw [if_pos (by omega)]
    simp [c]
  · rw [if_neg (by omega)]
    simp only [c, decide_false, Bool.false_and]
theorem salesOkS (l : List Int) (hb : l.length ≤ 1048576) : Ev (fun k => spec_SalesOk.f k l) (salesOk l) := by
  unfold spec_SalesOk.f
  have h := all_loop (fun k i => spec_SalesOk.l0 k l i) l 0 10000 false (decide (7 ≤ l.length ∧ l.length ≤ 140)) (fun k i hi => by
    simp (disch := omega) only [spec_SalesOk.l0, l01In_f, Option.bind_some, if_pos, w64]) (fun k => by
    simp only [spec_SalesOk.l0, l01In_f, Option.bind_some]
    rw [if_neg (by omega)]
    congr 1
    exact decide_eq_decide.2 (by omega))
  unfold salesOk
  cases c : allOk l 0 10000
  · rw [c] at h
    simpa using h
  · rw [c] at h
    simpa using h
/-- Each seventh element, from the first on. -/
def every7 (l : List Int) : List Int :=
  match l with
  | [] => []
  | x :: t => x :: every7 (t.drop 6)
termination_by l.length
decreasing_by simp only [List.length_drop, List.length_cons]; omega
theorem every7_drop (l : List Int) (i : Nat) (h : i < l.length) : every7 (l.drop i) = l[i] :: every7 (l.drop (i + 7)) := by
  rw [List.drop_eq_getElem_cons h, every7, List.drop_drop]
theorem every7_end (l : List Int) (i : Nat) (h : l.length ≤ i) : every7 (l.drop i) = [] := by
  rw [List.drop_eq_nil_of_le h, every7]
def meanV (l : List Int) (d : Int) : Int := if salesOk l = true ∧ (0 ≤ d ∧ d ≤ 6) then (every7 (l.drop d.toNat)).sum / ((every7 (l.drop d.toNat)).length : Int) else -1
theorem salesOk_len {l : List Int} (h : salesOk l = true) : 7 ≤ l.length ∧ l.length ≤ 140 := by
  unfold salesOk at h
  simp only [Bool.and_eq_true, decide_eq_true_eq] at h
  exact h.1
theorem salesOk_mem {l : List Int} (h : salesOk l = true) : ∀ x ∈ l, 0 ≤ x ∧ x ≤ 10000 := by
  unfold salesOk at h
  simp only [Bool.and_eq_true, decide_eq_true_eq] at h
  exact allOk_mem h.2
/-- The loop that adds up a column. -/
theorem mean_loop (F : Nat → Int → Int → Int → Option Int) (l : List Int) (hl : l.length ≤ 140) (hm : ∀ x ∈ l, 0 ≤ x ∧ x ≤ 10000)
    (hF : ∀ k s c i, F (k + 1) s c i = if i < (l.length : Int) then (if 0 ≤ i then F k (wrap64 (s + rd l i)) (wrap64 (c + 1)) (wrap64 (i + 7)) else none) else (if c = 0 then none else some (wrap64 (Int.tdiv s c))))
    (n : Nat) : ∀ (i : Nat) (s c : Int), l.length ≤ i + n → 0 ≤ s → s ≤ 10000 * c → 0 ≤ c → c ≤ (i : Int) + 1 → i ≤ 146 → 1 ≤ c ∨ i < l.length → Ev (fun k => F k s c (i : Int)) ((s + (every7 (l.drop i)).sum) / (c + ((every7 (l.drop i)).length : Int))) := by
  induction n with
  | zero =>
    intro i s c hn h0 h1 h2 h3 h4 h5
    rw [every7_end l i (by omega)]
    refine ev_now fun k => ?_
    rw [hF, if_neg (by omega), if_neg (by omega), tdiv_pos h0]
    have e1 : 0 ≤ s / c := Int.ediv_nonneg h0 h2
    have e2 : s / c ≤ s := Int.ediv_le_self _ h0
    rw [w64 (by omega) (by omega)]
    simp
  | succ n ih =>
    intro i s c hn h0 h1 h2 h3 h4 h5
    by_cases hi : i < l.length
    · have hx := hm _ (List.getElem_mem hi)
      rw [every7_drop l i hi]
      have := ih (i + 7) (s + l[i]) (c + 1) (by omega) (by omega) (by omega) (by omega) (by omega) (by omega) (.inl (by omega))
      refine ev_next (fun k => ?_) _ (by
        have e : (s + (l[i] :: every7 (l.drop (i + 7))).sum) / (c + (((l[i] :: every7 (l.drop (i + 7))).length : Nat) : Int)) = (s + l[i] + (every7 (l.drop (i + 7))).sum) / (c + 1 + ((every7 (l.drop (i + 7))).length : Int)) := by
          rw [List.sum_cons, List.length_cons]
          congr 1 <;> omega
        rw [e]
        exact this)
      rw [hF, if_pos (by omega), if_pos (by omega), rd_get _ _ hi, w64 (by omega) (by omega), w64 (by omega) (by omega), w64 (by omega) (by omega)]
      rfl
    · rw [every7_end l i (by omega)]
      refine ev_now fun k => ?_
      rw [hF, if_neg (by omega), if_neg (by omega), tdiv_pos h0]
      have e1 : 0 ≤ s / c := Int.ediv_nonneg h0 h2
      have e2 : s / c ≤ s := Int.ediv_le_self _ h0
      rw [w64 (by omega) (by omega)]
      simp
theorem meanS (l : List Int) (d : Int) (hb : l.length ≤ 1048576) : Ev (fun k => spec_MeanOf.f k l d) (meanV l d) := by
  unfold spec_MeanOf.f meanV
  refine Ev.bind (salesOkS l hb) ?_
  simp only [l01In_f, Option.bind_some]
  by_cases c1 : salesOk l = true
  · simp only [if_pos c1]
    have hl := salesOk_len c1
    have hm := salesOk_mem c1
    by_cases c2 : 0 ≤ d ∧ d ≤ 6
    · rw [if_pos ⟨c1, c2⟩]
      have h := mean_loop (fun k s c i => spec_MeanOf.l0 k l s c i) l hl.2 hm (fun k s c i => rfl) l.length d.toNat 0 0 (by omega) (by omega) (by omega) (by omega) (by omega) (by omega) (.inr (by omega))
      rw [show ((d.toNat : Nat) : Int) = d by omega, Int.zero_add, Int.zero_add] at h
      refine ev_next (fun k => ?_) _ h
      simp only [spec_MeanOf.j0]
      rw [if_neg (by simp; omega)]
    · rw [if_neg (fun h => c2 h.2)]
      exact ev_now fun k => by simp only [spec_MeanOf.j0]; rw [if_pos (by simp; omega)]
  · simp only [if_neg c1]
    rw [if_neg (fun h => c1 h.1)]
    exact ev_now fun k => rfl
theorem meanI (l : List Int) (d : Int) (hb : l.length ≤ 1048576) : Ev (fun k => impl_MeanOf.f k l d) (meanV l d) := by
  unfold impl_MeanOf.f meanV
  simp only [salesOkI, in_f, Option.bind_some]
  by_cases c1 : salesOk l = true
  · simp only [if_pos c1]
    have hl := salesOk_len c1
    have hm := salesOk_mem c1
    by_cases c2 : 0 ≤ d ∧ d ≤ 6
    · rw [if_pos ⟨c1, c2⟩]
      have h := mean_loop (fun k s c i => impl_MeanOf.l0 k l s c i) l hl.2 hm (fun k s c i => rfl) l.length d.toNat 0 0 (by omega) (by omega) (by omega) (by omega) (by omega) (by omega) (.inr (by omega))
      rw [show ((d.toNat : Nat) : Int) = d by omega, Int.zero_add, Int.zero_add] at h
      refine ev_next (fun k => ?_) _ h
      simp only [impl_MeanOf.j0]
      rw [if_neg (by simp; omega)]
    · rw [if_neg (fun h => c2 h.2)]
      exact ev_now fun k => by simp only [impl_MeanOf.j0]; rw [if_pos (by simp; omega)]
  · simp only [if_neg c1]
    rw [if_neg (fun h => c1 h.1)]
    exact ev_now fun k => rfl
theorem nextS (l : List Int) (hb : l.length ≤ 1048576) : Ev (fun k => spec_NextSales.f k l) (meanV l ((l.length : Int) % 7)) := by
  unfold spec_NextSales.f
  exact Ev.bind (meanS l _ hb) (Ev.now _)
theorem nextI (l : List Int) (hb : l.length ≤ 1048576) : Ev (fun k => impl_NextSales.f k l) (meanV l ((l.length : Int) % 7)) := by
  unfold impl_NextSales.f
  exact Ev.bind (meanI l _ hb) (Ev.now _)
def errStep (l : List Int) (e : Int) (i : Nat) : Int := wrap64 (e + (mx (wrap64 (rd l (i : Int) - meanV (l.take i) (((l.take i).length : Int) % 7))) (wrap64 (-(wrap64 (rd l (i : Int) - meanV (l.take i) (((l.take i).length : Int) % 7)))))))
/-- The errors, n days from i on. -/
def errFrom (l : List Int) : Nat → Int → Nat → Int
  | 0, e, _ => e
  | n + 1, e, i => errFrom l n (errStep l e i) (i + 1)
def errV (l : List Int) : Int := if salesOk l = true then errFrom l (l.length - 7) 0 7 else -1
theorem errS_l (l : List Int) (hb : l.length ≤ 1048576) (n : Nat) (i : Nat) (hn : i + n = l.length) (e : Int) : Ev (fun k => spec_ErrorSum.l0 k l e (i : Int)) (errFrom l n e i) := by
  induction n generalizing i e with
  | zero => exact ev_now fun k => by simp only [spec_ErrorSum.l0]; rw [if_neg (by omega)]; rfl
  | succ n ih =>
    have h := ih (i + 1) (by omega) (errStep l e i)
    refine ev_next (f := fun k => (spec_NextSales.f k (l.take i)).bind fun t => spec_ErrorSum.l0 k l (wrap64 (e + (mx (wrap64 ((rd l (i : Int)) - t)) (wrap64 (-(wrap64 ((rd l (i : Int)) - t))))))) ((i + 1 : Nat) : Int)) (fun k => ?_) _ (Ev.bind (nextS (l.take i) (by rw [List.length_take]; omega)) h)
    simp only [spec_ErrorSum.l0]
    rw [if_pos (by omega), if_pos (by omega), if_pos (by omega), w64 (x := (i : Int) + 1) (by omega) (by omega), Int.toNat_natCast]
    rfl
theorem errS (l : List Int) (hb : l.length ≤ 1048576) : Ev (fun k => spec_ErrorSum.f k l) (errV l) := by
  unfold spec_ErrorSum.f errV
  refine Ev.bind (salesOkS l hb) ?_
  by_cases c1 : salesOk l = true
  · simp only [if_pos c1]
    have hl := salesOk_len c1
    exact errS_l l hb (l.length - 7) 7 (by omega) 0
  · simp only [if_neg c1]
    exact Ev.now _
theorem errI_l (l : List Int) (hb : l.length ≤ 1048576) (n : Nat) (i : Nat) (hn : i + n = l.length) (e : Int) : Ev (fun k => impl_ErrorSum.l0 k l e (i : Int)) (errFrom l n e i) := by
  induction n generalizing i e with
  | zero => exact ev_now fun k => by simp only [impl_ErrorSum.l0]; rw [if_neg (by omega)]; rfl
  | succ n ih =>
    have h := ih (i + 1) (by omega) (errStep l e i)
    refine ev_next (f := fun k => (impl_NextSales.f k (l.take i)).bind fun t => impl_ErrorSum.l0 k l (wrap64 (e + (mx (wrap64 ((rd l (i : Int)) - t)) (wrap64 (-(wrap64 ((rd l (i : Int)) - t))))))) ((i + 1 : Nat) : Int)) (fun k => ?_) _ (Ev.bind (nextI (l.take i) (by rw [List.length_take]; omega)) h)
    simp only [impl_ErrorSum.l0]
    rw [if_pos (by omega), if_pos (by omega), if_pos (by omega), w64 (x := (i : Int) + 1) (by omega) (by omega), Int.toNat_natCast]
    rfl
theorem errI (l : List Int) (hb : l.length ≤ 1048576) : Ev (fun k => impl_ErrorSum.f k l) (errV l) := by
  unfold impl_ErrorSum.f errV
  simp only [salesOkI, Option.bind_some]
  by_cases c1 : salesOk l = true
  · simp only [if_pos c1]
    have hl := salesOk_len c1
    exact errI_l l hb (l.length - 7) 7 (by omega) 0
  · simp only [if_neg c1]
    exact Ev.now _
theorem FnExactErrorSum : laws_FnExactErrorSum.Pure := by
  intro l  _ _ _ 
  refine Ev.rounds ?_
  unfold laws_FnExactErrorSum.f
  by_cases c : (l.length : Int) > 1048576
  · simp only [if_pos c]
    exact Ev.now _
  · simp only [if_neg c]
    have ht := toIntS_f l (by omega)
    refine Ev.bind ht (Ev.bind (errS l  (by omega)) (Ev.bind ht (Ev.bind (errI l  (by omega)) ?_)))
    simp only [if_true]
    refine Ev.bind ht (Ev.bind (eqIntS_same l (by omega)) ?_)
    simp only [if_true]
    exact Ev.now _
end Go.Proofs.Ytbfgllgjniogiaa.Pure
