/- Means lie between the least and the greatest sales of their day: the law FnForecasts answers true for every input. No condition. -/
import Derived.Test.YtbfgllgjniogiaaPFnForecastsx4
import Derived.Test.YtbfgllgjniogiaaBase
namespace Go.Proofs.Ytbfgllgjniogiaa.Pure
open Go.RowKit Go.Proofs.Ytbfgllgjniogiaa.PFnForecasts Go.Proofs.YtbfgllgjniogiaaW.PrintWords Go.Proofs.YtbfgllgjniogiaaW.PrintLast Go.Proofs.YtbfgllgjniogiaaW.PrintMore Go.Proofs.Ytbfgllgjniogiaa.Base
set_option linter.unusedVariables false
set_option linter.unusedSimpArgs false
theorem in_f (a b c : Int) : impl_in.f a b c = some (decide (b ≤ a ∧ a ≤ c)) := by
  unfold impl_in.f
  by_cases h : b ≤ a <;> simp [h]
/-- All numbers of a list are in a range. -/
def allOk (l : List Int) (a b : Int) : Bool := l.all fun x => decide (a ≤ x ∧ x ≤ b)
theorem allOk_mem {l : List Int} {a b : Int} (h : allOk l a b = true) : ∀ x ∈ l, a ≤ x ∧ x ≤ b := by
  intro x hx
  simpa using (List.all_eq_true.1 h) x hx
theorem allIn_f (l : List Int) (a b : Int) : impl_allIn.f l a b = some (allOk l a b) := rfl
/-- The reference's loop that asks the same. -/
theorem all_loop {R : Type} (F : Nat → Int → Option R) (l : List Int) (a b : Int) (r0 r1 : R)
    (hstep : ∀ (k : Nat) (i : Nat), i < l.length → F (k + 1) (i : Int) = if (decide (a ≤ rd l (i : Int) ∧ rd l (i : Int) ≤ b)) = true then F k ((i : Int) + 1) else some r0)
    (hend : ∀ (k : Nat), F (k + 1) (l.length : Int) = some r1) : Ev (fun k => F k 0) (if allOk l a b = true then r1 else r0) := by
  have h := ev_all F l.length (fun i => decide (a ≤ l.getD i 0 ∧ l.getD i 0 ≤ b)) r0 r1 (fun k i hi => by rw [hstep k i hi, rd_eq]) hend
  have e := all_range l 0 (fun x => decide (a ≤ x ∧ x ≤ b))
  rw [e] at h
  exact h
def salesOk (l : List Int) : Bool := decide (7 ≤ l.length ∧ l.length ≤ 140) && allOk l 0 10000
theorem salesOkI (l : List Int) : impl_SalesOk.f l = some (salesOk l) := by
  unfold impl_SalesOk.f salesOk
  simp only [in_f, allIn_f, Option.bind_some, decide_eq_true_eq]
  by_cases c : 7 ≤ l.length ∧ l.length ≤ 140
  · rw [if_pos (by omega)]
    simp [c]
  · rw [if_neg (by omega)]
    simp only [c, decide_false, Bool.false_and]
/-- Each seventh element, from the first on. -/
def every7 (l : List Int) : List Int :=
  match l with
  | [] => []
  | x :: t => x :: every7 (t.drop 6)
termination_by l.length
decreasing_by simp only [List.length_drop, List.length_cons]; omega
theorem every7_drop (l : List Int) (i : Nat) (h : i < l.length) : every7 (l.drop i) = l[i] :: every7 (l.drop (i + 7)) := by
  rw [List.drop_eq_getElem_cons h, every7, List.drop_drop]
theorem every7_end (l : List Int) (i : Nat) (h : l.length ≤ i) : every7 (l.drop i) = [] := by
  rw [List.drop_eq_nil_of_le h, every7]
def meanV (l : List Int) (d : Int) : Int := if salesOk l = true ∧ (0 ≤ d ∧ d ≤ 6) then (every7 (l.drop d.toNat)).sum / ((every7 (l.drop d.toNat)).length : Int) else -1
theorem salesOk_len {l : List Int} (h : salesOk l = true) : 7 ≤ l.length ∧ l.length ≤ 140 := by
  unfold salesOk at h
  simp only [Bool.and_eq_true, decide_eq_true_eq] at h
  exact h.1
theorem salesOk_mem {l : List Int} (h : salesOk l = true) : ∀ x ∈ l, 0 ≤ x ∧ x ≤ 10000 := by
  unfold salesOk at h
  simp only [Bool.and_eq_true, decide_eq_true_eq] at h
  exact allOk_mem h.2
/-- The loop that adds up a column. -/
theorem mean_loop (F : Nat → Int → Int → Int → Option Int) (l : List Int) (hl : l.length ≤ 140) (hm : ∀ x ∈ l, 0 ≤ x ∧ x ≤ 10000)
    (hF : ∀ k s c i, F (k + 1) s c i = if i < (l.length : Int) then (if 0 ≤ i then F k (wrap64 (s + rd l i)) (wrap64 (c + 1)) (wrap64 (i + 7)) else none) else (if c = 0 then none else some (wrap64 (Int.tdiv s c))))
    (n : Nat) : ∀ (i : Nat) (s c : Int), l.length ≤ i + n → 0 ≤ s → s ≤ 10000 * c → 0 ≤ c → c ≤ (i : Int) + 1 → i ≤ 146 → 1 ≤ c ∨ i < l.length → Ev (fun k => F k s c (i : Int)) ((s + (every7 (l.drop i)).sum) / (c + ((every7 (l.drop i)).length : Int))) := by
  induction n with
  | zero =>
    intro i s c hn h0 h1 h2 h3 h4 h5
    rw [every7_end l i (by omega)]
    refine ev_now fun k => ?_
    rw [hF, if_neg (by omega), if_neg (by omega), tdiv_pos h0]
    have e1 : 0 ≤ s / c := Int.ediv_nonneg h0 h2
    have e2 : s / c ≤ s := Int.ediv_le_self _ h0
    rw [w64 (by omega) (by omega)]
    simp
  | succ n ih =>
    intro i s c hn h0 h1 h2 h3 h4 h5
    by_cases hi : i < l.length
    · have hx := hm _ (List.getElem_mem hi)
      rw [every7_drop l i hi]
      have := ih (i + 7) (s + l[i]) (c + 1) (by omega) (by omega) (by omega) (by omega) (by omega) (by omega) (.inl (by omega))
      refine ev_next (fun k => ?_) _ (by
        have e : (s + (l[i] :: every7 (l.drop (i + 7))).sum) / (c + (((l[i] :: every7 (l.drop (i + 7))).length : Nat) : Int)) = (s + l[i] + (every7 (l.drop (i + 7))).sum) / (c + 1 + ((every7 (l.drop (i + 7))).length : Int)) := by
          rw [List.sum_cons, List.length_cons]
          congr 1 <;> omega
        rw [e]
        exact this)
      rw [hF, if_pos (by omega), if_pos (by omega), rd_get _ _ hi, w64 (by omega) (by omega), w64 (by omega) (by omega), w64 (by omega) (by omega)]
      rfl
    · rw [every7_end l i (by omega)]
      refine ev_now fun k => ?_
      rw [hF, if_neg (by omega), if_neg (by omega), tdiv_pos h0]
      have e1 : 0 ≤ s / c := Int.ediv_nonneg h0 h2
      have e2 : s / c ≤ s := Int.ediv_le_self _ h0
      rw [w64 (by omega) (by omega)]
      simp
theorem meanI (l : List Int) (d : Int) (hb : l.length ≤ 1048576) : Ev (fun k => impl_MeanOf.f k l d) (meanV l d) := by
  unfold impl_MeanOf.f meanV
  simp only [salesOkI, in_f, Option.bind_some]
  by_cases c1 : salesOk l = true
  · simp only [if_pos c1]
    have hl := salesOk_len c1
    have hm := salesOk_mem c1
    by_cases c2 : 0 ≤ d ∧ d ≤ 6
    · rw [if_pos ⟨c1, c2⟩]
      have h := mean_loop (fun k s c i => impl_MeanOf.l0 k l s c i) l hl.2 hm (fun k s c i => rfl) l.length d.toNat 0 0 (by omega) (by omega) (by omega) (by omega) (by omega) (by omega) (.inr (by omega))
      rw [show ((d.toNat : Nat) : Int) = d by omega, Int.zero_add, Int.zero_add] at h
      refine ev_next (fun k => ?_) _ h
      simp only [impl_MeanOf.j0]
      rw [if_neg (by simp; omega)]
    · rw [if_neg (fun h => c2 h.2)]
      exact ev_now fun k => by simp only [impl_MeanOf.j0]; rw [if_pos (by simp; omega)]
  · simp only [if_neg c1]
    rw [if_neg (fun h => c1 h.1)]
    exact ev_now fun k => rfl
theorem nextI (l : List Int) (hb : l.length ≤ 1048576) : Ev (fun k => impl_NextSales.f k l) (meanV l ((l.length : Int) % 7)) := by
  unfold impl_NextSales.f
  exact Ev.bind (meanI l _ hb) (Ev.now _)
def busyStep (l : List Int) (b d : Int) : Int := if meanV l d > meanV l b then d else b
/-- The best day, n days from d on, b the best so far. -/
def busyFrom (l : List Int) : Nat → Int → Int → Int
  | 0, b, _ => b
  | n + 1, b, d => busyFrom l n (busyStep l b d) (d + 1)
def busyV (l : List Int) : Int := if salesOk l = true then busyFrom l 6 0 1 else -1
theorem busyI_l (l : List Int) (hb : l.length ≤ 1048576) (n : Nat) (hn : n ≤ 7) (b : Int) : Ev (fun k => impl_BusiestDay.l0 k l b (7 - (n : Int))) (busyFrom l n b (7 - (n : Int))) := by
  induction n generalizing b with
  | zero => exact ev_now fun k => by simp only [impl_BusiestDay.l0]; rw [if_neg (by omega)]; rfl
  | succ n ih =>
    have e : (7 : Int) - ((n + 1 : Nat) : Int) + 1 = 7 - (n : Int) := by omega
    have h := ih (by omega) (busyStep l b (7 - ((n + 1 : Nat) : Int)))
    rw [← e] at h
    refine ev_next (f := fun k => (impl_MeanOf.f k l (7 - ((n + 1 : Nat) : Int))).bind fun t115 => ((impl_MeanOf.f k l b).bind fun t116 => (if t115 > t116 then (impl_BusiestDay.l0 k l (7 - ((n + 1 : Nat) : Int)) (7 - ((n + 1 : Nat) : Int) + 1)) else (impl_BusiestDay.l0 k l b (7 - ((n + 1 : Nat) : Int) + 1))))) (fun k => ?_) _ ?_
    · simp only [impl_BusiestDay.l0]
      rw [if_pos (by omega), w64 (by omega) (by omega)]
    · refine Ev.bind (meanI l _ hb) (Ev.bind (meanI l _ hb) ?_)
      unfold busyFrom
      unfold busyStep at h ⊢
      by_cases c : meanV l (7 - ((n + 1 : Nat) : Int)) > meanV l b
      · simp only [if_pos c] at h ⊢
        exact h
      · simp only [if_neg c] at h ⊢
        exact h
theorem busyI (l : List Int) (hb : l.length ≤ 1048576) : Ev (fun k => impl_BusiestDay.f k l) (busyV l) := by
  unfold impl_BusiestDay.f busyV
  simp only [salesOkI, Option.bind_some]
  by_cases c1 : salesOk l = true
  · simp only [if_pos c1]
    have h := busyI_l l hb 6 (by omega) 0

    exact h
  · simp only [if_neg c1]
    exact Ev.now _
def errStep (l : List Int) (e : Int) (i : Nat) : Int := wrap64 (e + (mx (wrap64 (rd l (i : Int) - meanV (l.take i) (((l.take i).length : Int) % 7))) (wrap64 (-(wrap64 (rd l (i : Int) - meanV (l.take i) (((l.take i).length : Int) % 7)))))))
/-- The errors, n days from i on. -/
def errFrom (l : List Int) : Nat → Int → Nat → Int
  | 0, e, _ => e
  | n + 1, e, i => errFrom l n (errStep l e i) (i + 1)
def errV (l : List Int) : Int := if salesOk l = true then errFrom l (l.length - 7) 0 7 else -1
theorem errI_l (l : List Int) (hb : l.length ≤ 1048576) (n : Nat) (i : Nat) (hn : i + n = l.length) (e : Int) : Ev (fun k => impl_ErrorSum.l0 k l e (i : Int)) (errFrom l n e i) := by
  induction n generalizing i e with
  | zero => exact ev_now fun k => by simp only [impl_ErrorSum.l0]; rw [if_neg (by omega)]; rfl
  | succ n ih =>
    have h := ih (i + 1) (by omega) (errStep l e i)
    refine ev_next (f := fun k => (impl_NextSales.f k (l.take i)).bind fun t => impl_ErrorSum.l0 k l (wrap64 (e + (mx (wrap64 ((rd l (i : Int)) - t)) (wrap64 (-(wrap64 ((rd l (i : Int)) - t))))))) ((i + 1 : Nat) : Int)) (fun k => ?_) _ (Ev.bind (nextI (l.take i) (by rw [List.length_take]; omega)) h)
    simp only [impl_ErrorSum.l0]
    rw [if_pos (by omega), if_pos (by omega), if_pos (by omega), w64 (x := (i : Int) + 1) (by omega) (by omega), Int.toNat_natCast]
    rfl
theorem errI (l : List Int) (hb : l.length ≤ 1048576) : Ev (fun k => impl_ErrorSum.f k l) (errV l) := by
  unfold impl_ErrorSum.f errV
  simp only [salesOkI, Option.bind_some]
  by_cases c1 : salesOk l = true
  · simp only [if_pos c1]
    have hl := salesOk_len c1
    exact errI_l l hb (l.length - 7) 7 (by omega) 0
  · simp only [if_neg c1]
    exact Ev.now _
/-- The sum as the machine makes it. -/
def sumW (l : List Int) : Int := l.foldl (fun s x => wrap64 (s + x)) 0
theorem sumW_range (l : List Int) : (List.range l.length).foldl (fun s i => wrap64 (s + rd l ((i : Nat) : Int))) 0 = sumW l := by
  have h := fold_range l 0 (fun s x => wrap64 (s + x)) 0
  unfold sumW
  rw [← h]
  simp only [rd_eq]
theorem sumI (l : List Int) (hb : l.length ≤ 1048576) : Ev (fun k => impl_sum.f k l) (sumW l) := by
  unfold impl_sum.f
  have h := ev_fold (fun k s i => impl_sum.l0 k s l (l.length : Int) i) l.length (fun s i => wrap64 (s + rd l ((i : Nat) : Int))) id (fun k s i hi => by
    simp only [impl_sum.l0]
    rw [if_pos (by omega), if_pos (by omega), if_pos (by omega), w64 (x := (i : Int) + 1) (by omega) (by omega)]) (fun k s => by simp only [impl_sum.l0]; rw [if_neg (by omega)]; rfl) 0
  rw [id, sumW_range] at h
  exact h
def growV (l : List Int) : Bool := salesOk l && decide (14 ≤ l.length) && decide (sumW ((l.take (l.length - 7)).drop (l.length - 14)) < sumW (l.drop (l.length - 7)))
theorem growI (l : List Int) (hb : l.length ≤ 1048576) : Ev (fun k => impl_IsGrowing.f k l) (growV l) := by
  unfold impl_IsGrowing.f growV
  simp only [salesOkI, Option.bind_some]
  by_cases c1 : salesOk l = true
  · simp only [if_pos c1]
    by_cases c2 : 14 ≤ l.length
    · have e7 : wrap64 ((l.length : Int) - 7) = ((l.length - 7 : Nat) : Int) := by rw [w64 (by omega) (by omega)]; omega
      have e14 : wrap64 ((l.length : Int) - 14) = ((l.length - 14 : Nat) : Int) := by rw [w64 (by omega) (by omega)]; omega
      simp only [if_pos (show (l.length : Int) ≥ 14 by omega), e7, e14, Int.toNat_natCast, if_pos (show (0 : Int) ≤ ((l.length - 7 : Nat) : Int) by omega), if_pos (show ((l.length - 7 : Nat) : Int) ≤ (l.length : Int) by omega), if_pos (show (0 : Int) ≤ ((l.length - 14 : Nat) : Int) by omega), if_pos (show ((l.length - 14 : Nat) : Int) ≤ ((l.length - 7 : Nat) : Int) by omega)]
      refine Ev.bind (sumI _ (by rw [List.length_drop]; omega)) (Ev.bind (sumI _ (by rw [List.length_drop, List.length_take]; omega)) ?_)
      rw [c1, decide_eq_true c2]
      exact Ev.now _
    · simp only [if_neg (show ¬ (l.length : Int) ≥ 14 by omega)]
      rw [decide_eq_false c2]
      simp only [Bool.and_false, Bool.false_and]
      exact Ev.now _
  · simp only [if_neg c1]
    rw [Bool.eq_false_iff.2 c1]
    exact Ev.now _
theorem and_bd (x : Int) (m : Nat) (hm : m ≤ 4294967295) : 0 ≤ Go.bits .and .i64 x (m : Int) ∧ Go.bits .and .i64 x (m : Int) ≤ m := by
  have h : ((BitVec.ofInt 64 x) &&& (BitVec.ofInt 64 (m : Int))).toNat ≤ m := by
    rw [BitVec.toNat_and]
    refine Nat.le_trans Nat.and_le_right ?_
    rw [BitVec.ofInt_natCast, BitVec.toNat_ofNat]
    exact Nat.mod_le _ _
  have e : Go.bits .and .i64 x (m : Int) = IntKind.i64.wrap (((BitVec.ofInt 64 x) &&& (BitVec.ofInt 64 (m : Int))).toNat : Int) := rfl
  rw [e]
  generalize ((BitVec.ofInt 64 x) &&& (BitVec.ofInt 64 (m : Int))).toNat = q at h ⊢
  rw [IntKind.wrap_i64]
  omega
theorem byte_f (b : List Int) (i h : Int) (hb : b.length ≤ 140737488351232) (hi : 0 ≤ i) : ∃ x i' h', spec_l01Byte.f b i h = some (x, i', h') ∧ 0 ≤ x ∧ x ≤ 255 ∧ 0 ≤ i' := by
  unfold spec_l01Byte.f
  by_cases c : i < (b.length : Int)
  · rw [if_pos c, if_pos hi]
    refine ⟨_, _, _, rfl, (and_bd _ 255 (by omega)).1, (and_bd _ 255 (by omega)).2, ?_⟩
    rw [w64 (by omega) (by omega)]
    omega
  · rw [if_neg c]
    exact ⟨_, _, _, rfl, (and_bd _ 255 (by omega)).1, (and_bd _ 255 (by omega)).2, hi⟩
theorem below_f (b : List Int) (i h n : Int) (hb : b.length ≤ 140737488351232) (hi : 0 ≤ i) (h1 : 1 ≤ n) (h2 : n ≤ 256) : ∃ x i' h', spec_l01Below.f b i h n = some (x, i', h') ∧ 0 ≤ x ∧ x < n ∧ 0 ≤ i' := by
  obtain ⟨x, i', h', e, x0, x1, i0⟩ := byte_f b i h hb hi
  unfold spec_l01Below.f
  rw [if_neg (by omega), if_pos (by omega), e]
  simp only [Option.bind_some]
  rw [if_neg (by omega), tmod_pos x0]
  exact ⟨_, _, _, rfl, Int.emod_nonneg _ (by omega), Int.emod_lt_of_pos _ (by omega), i0⟩
theorem new_f (l : List Int) (hb : l.length ≤ 140737488351232) : ∃ h, Ev (fun k => spec_l01New.f k l) (l, 0, h) := by
  unfold spec_l01New.f
  have h := ev_up (fun k s i => spec_l01New.l0 k l s i) l.length (fun _ _ => True) (fun r => ∃ h, r = (l, 0, h)) (fun i s hi _ => by
      by_cases c : i < 4000
      · refine .inl ⟨Go.bits .and .i64 (wrap64 ((wrap64 ((wrap64 (s * 131)) + (wrap64 (rd l (i : Int))))) + 7)) 1073741823, trivial, fun r hr => ev_next (fun k => ?_) r hr⟩
        simp only [spec_l01New.l0]
        rw [if_pos (by omega), if_pos (by omega), if_pos (by omega), w64 (x := (i : Int) + 1) (by omega) (by omega)]
      · refine .inr ⟨_, ⟨s, rfl⟩, ev_now fun k => ?_⟩
        · simp only [spec_l01New.l0]
          rw [if_pos (by omega), if_neg (by omega)]) (fun s _ => ⟨_, ⟨s, rfl⟩, ev_now fun k => by
      simp only [spec_l01New.l0]
      rw [if_neg (by omega)]⟩) 0 (wrap64 (33101 + (l.length : Int))) (Nat.zero_le _) trivial
  obtain ⟨r, ⟨h, rfl⟩, e⟩ := h
  exact ⟨h, e⟩
theorem big_f (l : List Int) : laws_big.f l = some (decide ((l.length : Int) > 1048576)) := rfl
theorem drawSales_f (l : List Int) (hb : l.length ≤ 140737488351232) : ∃ f, Ev (fun k => spec_DrawSales.f k l) f ∧ (7 ≤ f.length ∧ f.length ≤ 26) ∧ ∀ x ∈ f, 20 ≤ x ∧ x ≤ 89 := by
  obtain ⟨h, e⟩ := new_f l hb
  obtain ⟨n, i1, h1, e1, n0, n1, p1⟩ := below_f l 0 h 20 hb (by omega) (by omega) (by omega)
  obtain ⟨N, hN⟩ := Int.eq_ofNat_of_zero_le (show 0 ≤ 7 + n by omega)
  have hl := ev_up (fun k (s : List Int × Int × Int) i => spec_l14List.l0 k s.1 (7 + n) i l s.2.1 s.2.2) N (fun i s => s.1.length = i ∧ (∀ x ∈ s.1, 20 ≤ x ∧ x ≤ 89) ∧ 0 ≤ s.2.1) (fun r => (7 ≤ r.1.length ∧ r.1.length ≤ 26) ∧ ∀ x ∈ r.1, 20 ≤ x ∧ x ≤ 89) (fun i s hi hp => by
      obtain ⟨a, b, c⟩ := s
      obtain ⟨q1, q2, q3⟩ := hp
      simp only at q1 q2 q3
      obtain ⟨x, i2, h2, e2, x0, x1, p2⟩ := below_f l b c 30 hb q3 (by omega) (by omega)
      have t1 : Int.tmod (i : Int) 7 = (i : Int) % 7 := tmod_pos (by omega)
      have t2 : Int.tdiv ((i : Int) % 7) 5 = (i : Int) % 7 / 5 := tdiv_pos (by omega)
      refine .inl ⟨(a ++ [20 + x + 40 * ((i : Int) % 7 / 5)], i2, h2), ⟨by simp [q1], fun y hy => ?_, p2⟩, fun r hr => ev_next (fun k => ?_) r hr⟩
      · rcases List.mem_append.1 hy with hy | hy
        · exact q2 y hy
        · rw [List.mem_singleton.1 hy]
          omega
      · simp only [spec_l14List.l0, e2, Option.bind_some]
        rw [if_pos (by omega), if_pos (by omega), t1, t2, w64 (x := (i : Int) % 7 / 5) (by omega) (by omega), w64 (x := 40 * ((i : Int) % 7 / 5)) (by omega) (by omega), w64 (x := 20 + x) (by omega) (by omega), w64 (x := 20 + x + _) (by omega) (by omega), w64 (x := (i : Int) + 1) (by omega) (by omega)]) (fun s hp => ⟨s, ⟨by omega, hp.2.1⟩, ev_now fun k => by
      simp only [spec_l14List.l0]
      rw [if_neg (by omega)]⟩) 0 ([], i1, h1) (Nat.zero_le _) ⟨rfl, by simp, p1⟩
  obtain ⟨r, ⟨r1, r2⟩, he⟩ := hl
  refine ⟨r.1, ?_, r1, r2⟩
  unfold spec_DrawSales.f
  refine Ev.bind e ?_
  unfold spec_l14List.f
  simp only [e1, Option.bind_some]
  rw [w64 (x := 7 + n) (by omega) (by omega)]
  exact Ev.bind he (Ev.now _)
theorem busy_best (l : List Int) (n : Nat) (b d : Int) (hb : 0 ≤ b ∧ b < d) (h1 : ∀ m, 0 ≤ m → m < d → meanV l m ≤ meanV l b) (h2 : ∀ m, 0 ≤ m → m < b → meanV l m < meanV l b) :
    (0 ≤ busyFrom l n b d ∧ busyFrom l n b d < d + n) ∧ (∀ m, 0 ≤ m → m < d + n → meanV l m ≤ meanV l (busyFrom l n b d)) ∧ ∀ m, 0 ≤ m → m < busyFrom l n b d → meanV l m < meanV l (busyFrom l n b d) := by
  induction n generalizing b d with
  | zero => exact ⟨by unfold busyFrom; omega, fun m a b => h1 m a (by omega), fun m a b => h2 m a b⟩
  | succ n ih =>
    have hs : (0 ≤ busyStep l b d ∧ busyStep l b d < d + 1) ∧ (∀ m, 0 ≤ m → m < d + 1 → meanV l m ≤ meanV l (busyStep l b d)) ∧ ∀ m, 0 ≤ m → m < busyStep l b d → meanV l m < meanV l (busyStep l b d) := by
      unfold busyStep
      by_cases c : meanV l d > meanV l b
      · rw [if_pos c]
        refine ⟨by omega, fun m a e => ?_, fun m a e => ?_⟩
        · by_cases f : m = d
          · subst f; exact Int.le_refl _
          · have := h1 m a (by omega); omega
        · have := h1 m a (by omega); omega
      · rw [if_neg c]
        refine ⟨by omega, fun m a e => ?_, h2⟩
        by_cases f : m = d
        · subst f; omega
        · exact h1 m a (by omega)
    have := ih (busyStep l b d) (d + 1) hs.1 hs.2.1 hs.2.2
    rw [show d + 1 + (n : Int) = d + ((n + 1 : Nat) : Int) by omega] at this
    exact this
theorem sum_bd (l : List Int) (a b : Int) (h : ∀ x ∈ l, a ≤ x ∧ x ≤ b) : a * (l.length : Int) ≤ l.sum ∧ l.sum ≤ b * (l.length : Int) := by
  have := sumBy_bd id l a b h
  unfold sumBy at this
  rwa [List.map_id] at this
theorem mean_between (l : List Int) (lo hi : Int) (h0 : l ≠ []) (h : ∀ x ∈ l, lo ≤ x ∧ x ≤ hi) : lo ≤ l.sum / (l.length : Int) ∧ l.sum / (l.length : Int) ≤ hi := by
  have hp : 0 < l.length := List.length_pos_iff.2 h0
  obtain ⟨h1, h2⟩ := sum_bd l lo hi h
  refine ⟨Int.le_ediv_of_mul_le (by omega) h1, ?_⟩
  have : l.sum / (l.length : Int) < hi + 1 := Int.ediv_lt_of_lt_mul (by omega) (by rw [Int.add_mul, Int.one_mul]; omega)
  omega
theorem column_f (s : List Int) (len b d m : Int) (hlen : len = (s.length : Int)) (hs : s.length ≤ 1000) (n : Nat) (i : Nat) (lo hi : Int) (hn : s.length ≤ i + n) (hi7 : i ≤ 1010) :
    ∃ lo' hi' i' : Int, lo' ≤ lo ∧ hi ≤ hi' ∧ (∀ x ∈ every7 (s.drop i), lo' ≤ x ∧ x ≤ hi') ∧ len ≤ i' ∧ ∀ r, Ev (fun k => laws_FnForecasts.l1 k s len b d m lo' hi' i') r → Ev (fun k => laws_FnForecasts.l1 k s len b d m lo hi (i : Int)) r := by
  induction n generalizing i lo hi with
  | zero => exact ⟨lo, hi, (i : Int), Int.le_refl _, Int.le_refl _, by rw [every7_end s i (by omega)]; simp, by omega, fun r h => h⟩
  | succ n ih =>
    by_cases c : i < s.length
    · obtain ⟨lo', hi', i', g1, g2, g3, g4, g5⟩ := ih (i + 7) (min lo s[i]) (max hi s[i]) (by omega) (by omega)
      refine ⟨lo', hi', i', by omega, by omega, ?_, g4, fun r h => ?_⟩
      · rw [every7_drop s i c]
        intro x hx
        rcases List.mem_cons.1 hx with rfl | hx
        · omega
        · exact g3 x hx
      · refine ev_next (fun k => ?_) r (g5 r h)
        simp only [laws_FnForecasts.l1]
        rw [if_pos (by omega), if_pos (by omega), if_pos (by omega), rd_get _ _ c, mn_eq, mx_eq, w64 (x := (i : Int) + 7) (by omega) (by omega)]
        rfl
    · exact ⟨lo, hi, (i : Int), Int.le_refl _, Int.le_refl _, by rw [every7_end s i (by omega)]; simp, by omega, fun r h => h⟩
theorem FnForecasts (l : List Int) (_ : l.length ≤ maxLen) (hb : l.length * 1 ≤ 140737488351232) (hw : ∀ x ∈ l, (Lit.int .u8 x).wf = true) : ∃ k, laws_FnForecasts.f k l = some true := by
  refine Ev.rounds ?_
  unfold laws_FnForecasts.f
  simp only [big_f, Option.bind_some, decide_eq_true_eq]
  by_cases c : (l.length : Int) > 1048576
  · simp only [if_pos c]
    exact Ev.now _
  · simp only [if_neg c]
    obtain ⟨s, hd, hl, hm⟩ := drawSales_f l (by omega)
    have hs : s.length ≤ 1048576 := by omega
    have okOf : ∀ f : List Int, 7 ≤ f.length → f.length ≤ 140 → (∀ x ∈ f, 0 ≤ x ∧ x ≤ 10000) → salesOk f = true := by
      intro f h1 h2 h3
      unfold salesOk allOk
      rw [Bool.and_eq_true, decide_eq_true_eq, List.all_eq_true]
      exact ⟨⟨h1, h2⟩, fun x hx => decide_eq_true (h3 x hx)⟩
    have hok : salesOk s = true := okOf s hl.1 (by omega) (fun x hx => by have := hm x hx; omega)
    refine Ev.bind hd ?_
    have hbk := busyI s hs
    have hbv : busyV s = busyFrom s 6 0 1 := by
      unfold busyV
      rw [if_pos hok]
    rw [hbv] at hbk
    obtain ⟨b1, b2, b3⟩ := busy_best s 6 0 1 (by omega) (fun m a e => by rw [show m = 0 by omega]; exact Int.le_refl _) (fun m a e => by omega)
    refine Ev.bind hbk ?_
    generalize busyFrom s 6 0 1 = b at b1 b2 b3 ⊢
    simp only [if_neg (show ¬ b < 0 by omega), if_neg (show ¬ b > 6 by omega)]
    refine Ev.bind (nextI s hs) (Ev.bind (meanI s _ hs) ?_)
    simp only [bne_self_eq_false]
    have last : Ev (fun k => laws_FnForecasts.l2 k s (s.length : Int) 0 7) true := by
      have herr := errI s hs
      unfold errV at herr
      rw [if_pos hok] at herr
      obtain ⟨E, hE⟩ : ∃ E, E = errFrom s (s.length - 7) 0 7 := ⟨_, rfl⟩
      have loop : ∀ (n i : Nat) (e : Int), 7 ≤ i → i + n = s.length → errFrom s n e i = E → Ev (fun k => laws_FnForecasts.l2 k s (s.length : Int) e (i : Int)) true := by
        intro n
        induction n with
        | zero =>
          intro i e hi7 hin he
          obtain rfl : E = e := he.symm
          rw [← hE] at herr
          obtain ⟨x0, x1, x2, x3, x4, x5, x6, t, hst⟩ : ∃ x0 x1 x2 x3 x4 x5 x6 t, s = x0 :: x1 :: x2 :: x3 :: x4 :: x5 :: x6 :: t := by
            match s, hl.1 with
            | x0 :: x1 :: x2 :: x3 :: x4 :: x5 :: x6 :: t, _ => exact ⟨x0, x1, x2, x3, x4, x5, x6, t, rfl⟩
          have hx : ∀ y ∈ [x0, x1, x2, x3, x4, x5, x6], 20 ≤ y ∧ y ≤ 89 := fun y hy => hm y (by rw [hst]; simp only [List.mem_cons, List.not_mem_nil, or_false] at hy ⊢; rcases hy with h | h | h | h | h | h | h <;> simp [h])
          have ht7 : s.take 7 = [x0, x1, x2, x3, x4, x5, x6] := by rw [hst]; rfl
          obtain ⟨W, hW⟩ : ∃ W, W = [x0, x1, x2, x3, x4, x5, x6, x0, x1, x2, x3, x4, x5, x6] := ⟨_, rfl⟩
          have hWl : W.length = 14 := by rw [hW]; rfl
          have hWm : ∀ y ∈ W, 20 ≤ y ∧ y ≤ 89 := fun y hy => hx y (by rw [hW] at hy; simp only [List.mem_cons, List.not_mem_nil, or_false] at hy ⊢; omega)
          have hWok : salesOk W = true := okOf W (by omega) (by omega) (fun y hy => by have := hWm y hy; omega)
          have hWg : ∀ j : Nat, (h : j < 7) → W[j + 7]'(by omega) = W[j]'(by omega) := by
            intro j h
            subst hW
            have : j = 0 ∨ j = 1 ∨ j = 2 ∨ j = 3 ∨ j = 4 ∨ j = 5 ∨ j = 6 := by omega
            rcases this with rfl | rfl | rfl | rfl | rfl | rfl | rfl <;> rfl
          have hmean : ∀ j : Nat, (h : j < 7) → meanV (W.take (j + 7)) ((((W.take (j + 7)).length : Nat) : Int) % 7) = W[j]'(by omega) := by
            intro j h
            have hlt : (W.take (j + 7)).length = j + 7 := by rw [List.length_take]; omega
            have e7 : (((j + 7 : Nat) : Int) % 7) = (j : Int) := by omega
            unfold meanV
            rw [hlt, e7, if_pos ⟨okOf _ (by omega) (by omega) (fun y hy => by have := hWm y (List.mem_of_mem_take hy); omega), by omega⟩, Int.toNat_natCast, every7_drop _ j (by omega), every7_end _ (j + 7) (by omega), List.getElem_take]
            simp
          have hw1 : Ev (fun k => impl_ErrorSum.f k W) 0 := by
            have h := errI W (by omega)
            have he : errV W = 0 := by
              unfold errV
              rw [if_pos hWok, hWl]
              have stepz : ∀ j : Nat, j < 7 → errStep W 0 (j + 7) = 0 := by
                intro j hj
                unfold errStep
                have hxj := hWm _ (List.getElem_mem (show j < W.length by omega))
                rw [hmean j hj, rd_get _ _ (show j + 7 < W.length by omega), hWg j hj, Int.sub_self]
                have z : wrap64 0 = 0 := w64 (by omega) (by omega)
                rw [z, Int.neg_zero, z, mx_eq, show (0 : Int) + max 0 0 = 0 by decide]
                exact z
              have run : ∀ n j : Nat, j + n = 7 → errFrom W n 0 (j + 7) = 0 := by
                intro n
                induction n with
                | zero => intro j _; rfl
                | succ n ih =>
                  intro j hj
                  show errFrom W n (errStep W 0 (j + 7)) (j + 7 + 1) = 0
                  rw [stepz j (by omega), show j + 7 + 1 = (j + 1) + 7 by omega]
                  exact ih (j + 1) (by omega)
              exact run 7 0 (by omega)
            rwa [he] at h
          have hw2 : Ev (fun k => impl_IsGrowing.f k W) false := by
            have h := growI W (by omega)
            have he : growV W = false := by
              unfold growV
              rw [hWl, hW]
              simp
            rwa [he] at h
          have hw3 : Ev (fun k => impl_NextSales.f k W) x0 := by
            have h := nextI W (by omega)
            have he : meanV W ((W.length : Int) % 7) = x0 := by
              unfold meanV
              rw [hWl, show (((14 : Nat) : Int) % 7) = 0 from rfl, if_pos ⟨hWok, by omega⟩, show (0 : Int).toNat = 0 from rfl, every7_drop W 0 (by omega), every7_drop W 7 (by omega), every7_end W 14 (by omega), hWg 0 (by omega)]
              have : W[0]'(by omega) = x0 := by simp [hW]
              rw [this]
              simp
              omega
            rwa [he] at h
          have x0b := hx x0 (by simp)
          have x1b := hx x1 (by simp)
          have x2b := hx x2 (by simp)
          have x3b := hx x3 (by simp)
          have x4b := hx x4 (by simp)
          have x5b := hx x5 (by simp)
          have x6b := hx x6 (by simp)
          have hrd : rd W 13 = x6 := by rw [hW]; rfl
          have hmore : Ev (fun k => impl_IsGrowing.f k (W.set 13 (x6 + 1))) true := by
            have h := growI (W.set 13 (x6 + 1)) (by rw [List.length_set]; omega)
            have e1 : W.set 13 (x6 + 1) = [x0, x1, x2, x3, x4, x5, x6, x0, x1, x2, x3, x4, x5, x6 + 1] := by rw [hW]; rfl
            have he : growV (W.set 13 (x6 + 1)) = true := by
              have ok : salesOk [x0, x1, x2, x3, x4, x5, x6, x0, x1, x2, x3, x4, x5, x6 + 1] = true := okOf _ (by simp) (by simp) (fun y hy => by
                simp only [List.mem_cons, List.not_mem_nil, or_false] at hy
                omega)
              rw [e1]
              unfold growV sumW
              rw [ok]
              simp only [List.length_cons, List.length_nil, Nat.zero_add, Nat.reduceAdd, Nat.reduceSub, List.take, List.drop, List.foldl_cons, List.foldl_nil, Bool.true_and, Nat.le_refl, decide_true]
              refine decide_eq_true ?_
              simp (disch := omega) only [w64]
              omega
            rwa [he] at h
          have h0 : rd s 0 = x0 := by rw [hst]; rfl
          have happ : [x0, x1, x2, x3, x4, x5, x6] ++ [x0, x1, x2, x3, x4, x5, x6] = W := by rw [hW]; rfl
          refine ev_next (f := fun k => ((impl_ErrorSum.f k s).bind fun t203 => (if t203 = E then ((impl_ErrorSum.f k W).bind fun t204 => (if t204 = 0 then ((impl_IsGrowing.f k W).bind fun t205 => (if t205 = true then (some false) else ((impl_IsGrowing.f k (W.set 13 (x6 + 1))).bind fun t206 => (if t206 = true then ((impl_SalesOk.f s).bind fun t207 => (if t207 = true then ((impl_NextSales.f k W).bind fun t208 => (if 0 < (s.length : Int) then (some (t208 == x0)) else (none))) else (some false))) else (some false))))) else (some false))) else (some false)))) (fun k => ?_) _ (Ev.bind herr ?_)
          · simp only [laws_FnForecasts.l2, Option.bind_some, ht7, List.nil_append, happ, h0, hrd]
            rw [if_neg (by omega), if_pos (by omega), if_pos (by simp), if_pos (by simp), if_pos (by simp [hWl]), if_pos (by rw [hWl]; omega), w64 (x := x6 + 1) (by omega) (by omega)]
            rfl
          · simp only [if_true]
            refine Ev.bind hw1 ?_
            simp only [if_true]
            refine Ev.bind hw2 ?_
            simp only [Bool.false_eq_true, if_false]
            refine Ev.bind hmore ?_
            simp only [if_true, salesOkI, hok, Option.bind_some]
            refine Ev.bind hw3 ?_
            simp only [if_pos (show 0 < (s.length : Int) by omega), BEq.rfl]
            exact Ev.now _
        | succ n ih =>
          intro i e hi7 hin he
          have h := ih (i + 1) (errStep s e i) (by omega) (by omega) he
          refine ev_next (f := fun k => (impl_NextSales.f k (s.take i)).bind fun t => laws_FnForecasts.l2 k s (s.length : Int) (wrap64 (e + (mx (wrap64 ((rd s (i : Int)) - t)) (wrap64 (-(wrap64 ((rd s (i : Int)) - t))))))) ((i + 1 : Nat) : Int)) (fun k => ?_) _ (Ev.bind (nextI (s.take i) (by rw [List.length_take]; omega)) h)
          simp only [laws_FnForecasts.l2]
          rw [if_pos (by omega), if_pos (by omega), if_pos (by omega), if_pos (by omega), w64 (x := (i : Int) + 1) (by omega) (by omega), Int.toNat_natCast]
          rfl
      exact loop (s.length - 7) 7 0 (by omega) (by omega) hE.symm
    have days : ∀ n d : Nat, d + n = 7 → Ev (fun k => laws_FnForecasts.l0 k s (s.length : Int) b (d : Int)) true := by
      intro n
      induction n with
      | zero =>
        intro d hd7
        refine ev_next (fun k => ?_) _ last
        simp only [laws_FnForecasts.l0]
        rw [if_neg (by omega)]
      | succ n ih =>
        intro d hd7
        have hnext := ih (d + 1) (by omega)
        rw [show ((d + 1 : Nat) : Int) = (d : Int) + 1 by omega] at hnext
        refine ev_next (f := fun k => (impl_MeanOf.f k s (d : Int)).bind fun t167 => laws_FnForecasts.l1 k s (s.length : Int) b (d : Int) t167 10000 0 (d : Int)) (fun k => ?_) _ (Ev.bind (meanI s _ hs) ?_)
        · simp only [laws_FnForecasts.l0]
          rw [if_pos (by omega)]
        · obtain ⟨lo, hi, i', g1, g2, g3, g4, g5⟩ := column_f s (s.length : Int) b (d : Int) (meanV s (d : Int)) rfl (by omega) s.length d 10000 0 (by omega) (by omega)
          refine g5 true ?_
          have hbet : lo ≤ meanV s (d : Int) ∧ meanV s (d : Int) ≤ hi := by
            unfold meanV
            rw [if_pos ⟨hok, by omega⟩, Int.toNat_natCast]
            refine mean_between _ lo hi ?_ g3
            rw [every7_drop s d (by omega)]
            simp
          have m1 := b2 (d : Int) (by omega) (by omega)
          refine ev_next (f := fun k => (impl_MeanOf.f k s b).bind fun t170 => (if meanV s (d : Int) > t170 then (some false) else (if (d : Int) < b then ((impl_MeanOf.f k s b).bind fun t171 => (if meanV s (d : Int) = t171 then (some false) else (laws_FnForecasts.l0 k s (s.length : Int) b ((d : Int) + 1)))) else (laws_FnForecasts.l0 k s (s.length : Int) b ((d : Int) + 1))))) (fun k => ?_) _ (Ev.bind (meanI s _ hs) ?_)
          · simp only [laws_FnForecasts.l1]
            rw [if_neg (by omega), if_neg (by omega), if_neg (by omega), w64 (x := (d : Int) + 1) (by omega) (by omega)]
          · simp only [if_neg (show ¬ meanV s (d : Int) > meanV s b by omega)]
            by_cases e : (d : Int) < b
            · simp only [if_pos e]
              have m2 := b3 (d : Int) (by omega) e
              refine Ev.bind (meanI s _ hs) ?_
              simp only [if_neg (show ¬ meanV s (d : Int) = meanV s b by omega)]
              exact hnext
            · simp only [if_neg e]
              exact hnext
    refine ev_next (fun k => ?_) _ (days 7 0 (by omega))
    simp only [laws_FnForecasts.j0]
    rw [if_neg (by decide)]
    rfl
end Go.Proofs.Ytbfgllgjniogiaa.Pure
