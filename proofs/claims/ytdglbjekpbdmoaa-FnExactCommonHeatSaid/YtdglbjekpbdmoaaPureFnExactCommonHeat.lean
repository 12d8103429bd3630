/- The program's CommonHeat and the reference's answer alike, for all arguments. No condition. -/
import Derived.Test.YtdglbjekpbdmoaaPFnExactCommonHeatx3
import Derived.Test.YtdglbjekpbdmoaaBase
namespace Go.Proofs.Ytdglbjekpbdmoaa.Pure
open Go.RowKit Go.Proofs.Ytdglbjekpbdmoaa.PFnExactCommonHeat Go.Proofs.YtdglbjekpbdmoaaW.PrintWords Go.Proofs.YtdglbjekpbdmoaaW.PrintLast Go.Proofs.YtdglbjekpbdmoaaW.PrintMore Go.Proofs.Ytdglbjekpbdmoaa.Base
set_option linter.unusedVariables false
set_option linter.unusedSimpArgs false
theorem l01In_f (a b c : Int) : spec_l01In.f a b c = some (decide (b ≤ a ∧ a ≤ c)) := by
  unfold spec_l01In.f
  by_cases h : b ≤ a <;> simp [h]
def cvBread (x : S23) : S25 := ⟨x.f0, x.f1, x.f2⟩
theorem toBreadS_f (l : List S23) (hb : l.length ≤ 1048576) : Ev (fun k => laws_toBreadS.f k l) (l.map cvBread) := by
  unfold laws_toBreadS.f
  simp only [if_pos (show (0 : Int) ≤ (l.length : Int) by omega), Int.toNat_natCast, if_pos (show l.length ≤ 11728124029610 by omega)]
  refine ev_copy (fun k s i => laws_toBreadS.l0 k l s i) l z25 cvBread z23 (fun k s i hi hs => ?_) (fun k s => ?_)
  · simp only [laws_toBreadS.l0, laws_toBread.f, Option.bind_some]
    rw [if_pos (by omega), if_pos (by omega), if_pos (by omega), w64 (by omega) (by omega)]
    simp only [rd_T23, Int.toNat_natCast]
    rfl
  · simp only [laws_toBreadS.l0]
    rw [if_neg (by omega)]
theorem eqBreadS_f (l : List S25) (hb : l.length ≤ 1048576) : Ev (fun k => laws_eqBreadS.f k l l) true := by
  unfold laws_eqBreadS.f
  simp only [if_true]
  have h := ev_all (fun k i => laws_eqBreadS.l0 k l l i) l.length (fun _ => true) false true (fun k i hi => by
    simp only [laws_eqBreadS.l0, laws_eqBread.f]
    rw [if_pos (by omega), if_pos (by omega), if_pos (by omega), w64 (by omega) (by omega)]
    simp) (fun k => by simp only [laws_eqBreadS.l0]; rw [if_neg (by omega)])
  simpa using h
theorem szBreadS_f (l : List S23) (hb : l.length ≤ 17592186044416) : laws_szBreadS.f l 1048576 = some (if 1048576 < l.length then -1 else 1048576 - (l.length : Int)) := by
  unfold laws_szBreadS.f
  rw [w64 (by omega) (by omega)]
  by_cases c : 1048576 < l.length
  · rw [if_pos (by omega), if_pos c]
  · rw [if_neg (by omega), if_neg c]
def breadsV (l : List S25) : Bool := decide ((l.length : Int) ≤ 10) && l.all bk_ok
theorem breadsI (l : List S25) : impl_breadsOk.f l = some (breadsV l) := rfl
theorem breadsV_mem {l : List S25} (h : breadsV l = true) : l.length ≤ 10 ∧ ∀ x ∈ l, (100 ≤ x.f0 ∧ x.f0 ≤ x.f1) ∧ x.f1 ≤ 350 ∧ (1 ≤ x.f2 ∧ x.f2 ≤ 200) := by
  unfold breadsV at h
  rw [Bool.and_eq_true, decide_eq_true_eq, List.all_eq_true] at h
  refine ⟨by omega, fun x hx => ?_⟩
  have := h.2 x hx
  unfold bk_ok at this
  rw [Bool.and_eq_true, Bool.and_eq_true, decide_eq_true_eq, decide_eq_true_eq, decide_eq_true_eq] at this
  exact this
theorem breadS (x : S25) : spec_BreadOk.f x.f0 x.f1 x.f2 = some (bk_ok x) := by
  unfold spec_BreadOk.f bk_ok
  simp only [l01In_f, Option.bind_some, decide_eq_true_eq]
  by_cases c1 : 100 ≤ x.f1 ∧ x.f1 ≤ 350
  · rw [if_pos c1]
    by_cases c2 : 100 ≤ x.f0 ∧ x.f0 ≤ x.f1
    · rw [if_pos c2, decide_eq_true c2, decide_eq_true c1.2, Bool.true_and, Bool.true_and]
    · rw [if_neg c2, decide_eq_false c2, Bool.false_and]
  · rw [if_neg c1]
    by_cases c2 : 100 ≤ x.f0 ∧ x.f0 ≤ x.f1
    · rw [decide_eq_false (show ¬ x.f1 ≤ 350 by omega), Bool.false_and, Bool.and_false]
    · rw [decide_eq_false c2, Bool.false_and]
theorem breadsS (l : List S25) (hb : l.length ≤ 1048576) : Ev (fun k => spec_l10Ok.f k l) (breadsV l) := by
  unfold spec_l10Ok.f
  have h := ev_all (fun k i => spec_l10Ok.l0 k l i) l.length (fun i => bk_ok (l.getD i z25)) false (decide ((l.length : Int) ≤ 10)) (fun k i hi => by
    simp only [spec_l10Ok.l0, breadS, Option.bind_some]
    rw [if_pos (by omega), if_pos (by omega), w64 (by omega) (by omega)]
    have er : rd_T25 l (i : Int) = l.getD i z25 := by unfold rd_T25; rw [Int.toNat_natCast]
    rw [er]) (fun k => by
    simp only [spec_l10Ok.l0]
    rw [if_neg (by omega)])
  rw [all_range] at h
  unfold breadsV
  cases hc : l.all bk_ok
  · rw [hc] at h
    simpa using h
  · rw [hc] at h
    simpa using h
def heatF (l : List S25) (s : Int × Int) : Int × Int := l.foldl (fun s x => (max s.1 x.f0, min s.2 x.f1)) s
def heatE (s : Int × Int) : Int × Int × Bool := if s.1 > s.2 then (0, 0, false) else (s.1, s.2, true)
def heatV (l : List S25) : Int × Int × Bool := if breadsV l = true ∧ l ≠ [] then heatE (heatF l (100, 350)) else (0, 0, false)
theorem heatI (l : List S25) (hb : l.length ≤ 1048576) : Ev (fun k => impl_CommonHeat.f k l) (heatV l) := by
  unfold impl_CommonHeat.f heatV
  by_cases c0 : l = []
  · subst c0
    rw [if_neg (fun h => h.2 rfl)]
    simp only [List.length_nil, Int.natCast_zero, if_true]
    exact ev_now fun k => by simp [impl_CommonHeat.j0]
  · have hpos : 0 < l.length := List.length_pos_iff.2 c0
    simp only [if_neg (show ¬ (l.length : Int) = 0 by omega), breadsI, Option.bind_some]
    by_cases c1 : breadsV l = true
    · rw [if_pos ⟨c1, c0⟩, c1]
      obtain ⟨x, t, rfl⟩ : ∃ x t, l = x :: t := ⟨l.head c0, l.tail, (List.cons_head_tail c0).symm⟩
      have hx := (breadsV_mem c1).2 x List.mem_cons_self
      have e : heatF (x :: t) (100, 350) = heatF (x :: t) (x.f0, x.f1) := by
        unfold heatF
        rw [List.foldl_cons, List.foldl_cons]
        congr 1
        simp only [Prod.mk.injEq]
        omega
      rw [e]
      generalize hl : x :: t = l at *
      refine ev_next (f := fun k => impl_CommonHeat.l0 k x.f0 x.f1 l (l.length : Int) 0) (fun k => ?_) _ ?_
      · simp only [impl_CommonHeat.j0, Bool.not_true]
        rw [if_neg (by decide), if_pos (by omega)]
        rw [← hl]
        rfl
      · have h := ev_fold (fun k (s : Int × Int) i => impl_CommonHeat.l0 k s.1 s.2 l (l.length : Int) i) l.length (fun s i => (max s.1 (l.getD i z25).f0, min s.2 (l.getD i z25).f1)) heatE (fun k s i hi => by
            simp only [impl_CommonHeat.l0]
            rw [if_pos (by omega), if_pos (by omega), if_pos (by omega), w64 (x := (i : Int) + 1) (by omega) (by omega), mx_eq, mn_eq]
            simp only [rd_T25, Int.toNat_natCast]) (fun k s => by
            simp only [impl_CommonHeat.l0]
            rw [if_neg (by omega)]
            unfold heatE
            split <;> rfl) (x.f0, x.f1)
        have e2 := fold_range l z25 (fun (s : Int × Int) x => (max s.1 x.f0, min s.2 x.f1)) (x.f0, x.f1)
        rw [e2] at h
        exact h
    · rw [if_neg (fun h => c1 h.1), Bool.eq_false_iff.2 c1]
      exact ev_now fun k => by simp [impl_CommonHeat.j0]
theorem heatS (l : List S25) (hb : l.length ≤ 1048576) : Ev (fun k => spec_CommonHeat.f k l) (heatV l) := by
  unfold spec_CommonHeat.f heatV
  refine Ev.bind (breadsS l hb) ?_
  by_cases c1 : breadsV l = true
  · simp only [if_pos c1]
    by_cases c0 : l = []
    · subst c0
      rw [if_neg (fun h => h.2 rfl)]
      exact ev_now fun k => by simp [spec_CommonHeat.j0]
    · have hpos : 0 < l.length := List.length_pos_iff.2 c0
      rw [if_pos ⟨c1, c0⟩]
      refine ev_next (f := fun k => spec_CommonHeat.l0 k l 100 350 0) (fun k => ?_) _ ?_
      · simp only [spec_CommonHeat.j0]
        rw [if_neg (by simp; omega)]
      · have h := ev_fold (fun k (s : Int × Int) i => spec_CommonHeat.l0 k l s.1 s.2 i) l.length (fun s i => (max s.1 (l.getD i z25).f0, min s.2 (l.getD i z25).f1)) heatE (fun k s i hi => by
            simp only [spec_CommonHeat.l0]
            rw [if_pos (by omega), if_pos (by omega), w64 (x := (i : Int) + 1) (by omega) (by omega), mx_eq, mn_eq]
            simp only [rd_T25, Int.toNat_natCast]) (fun k s => by
            simp only [spec_CommonHeat.l0]
            rw [if_neg (by omega)]
            unfold heatE
            split <;> rfl) (100, 350)
        have e2 := fold_range l z25 (fun (s : Int × Int) x => (max s.1 x.f0, min s.2 x.f1)) (100, 350)
        rw [e2] at h
        exact h
  · simp only [if_neg c1]
    rw [if_neg (fun h => c1 h.1)]
    exact ev_now fun k => by simp [spec_CommonHeat.j0]
theorem FnExactCommonHeat (l : List S23) (hm : l.length ≤ maxLen) (hb : l.length * 24 ≤ 140737488351232) (hw : ∀ x ∈ l, (Lit.int .i64 x.f0).wf = true ∧ (Lit.int .i64 x.f1).wf = true ∧ (Lit.int .i64 x.f2).wf = true) : ∃ k, laws_FnExactCommonHeat.f k l = some true := by
  refine Ev.rounds ?_
  unfold laws_FnExactCommonHeat.f
  simp only [szBreadS_f l (by omega), Option.bind_some]
  by_cases c : 1048576 < l.length
  · simp only [if_pos c]
    exact ev_const (by simp)
  · simp only [if_neg c, if_neg (show ¬ (1048576 - (l.length : Int) < 0) by omega)]
    have ht := toBreadS_f l (by omega)
    have hl : (l.map cvBread).length ≤ 1048576 := by rw [List.length_map]; omega
    refine Ev.bind ht (Ev.bind (heatS _ hl) (Ev.bind ht (Ev.bind (heatI _ hl) ?_)))
    simp only [if_true]
    refine ev_next (f := fun k => (laws_toBreadS.f k l).bind fun t => (laws_eqBreadS.f k (l.map cvBread) t).bind fun t => if t = true then some true else some false) (fun k => ?_) _ (Ev.bind ht (Ev.bind (eqBreadS_f _ hl) ?_))
    · simp only [laws_FnExactCommonHeat.j0, bne_self_eq_false, Bool.false_eq_true, if_false]
    · simp only [if_true]
      exact Ev.now _
end Go.Proofs.Ytdglbjekpbdmoaa.Pure
