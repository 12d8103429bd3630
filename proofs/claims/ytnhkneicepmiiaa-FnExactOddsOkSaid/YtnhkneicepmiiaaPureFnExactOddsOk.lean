/- The program's OddsOk and the reference's answer alike, for all arguments. No condition. -/
import Derived.Test.YtnhkneicepmiiaaPFnExactOddsOkx2
import Derived.Test.YtnhkneicepmiiaaBase
namespace Go.Proofs.Ytnhkneicepmiiaa.Pure
open Go.RowKit Go.Proofs.Ytnhkneicepmiiaa.PFnExactOddsOk Go.Proofs.YtnhkneicepmiiaaW.PrintWords Go.Proofs.YtnhkneicepmiiaaW.PrintLast Go.Proofs.YtnhkneicepmiiaaW.PrintMore Go.Proofs.Ytnhkneicepmiiaa.Base
set_option linter.unusedVariables false
set_option linter.unusedSimpArgs false
theorem in_f (a b c : Int) : impl_in.f a b c = some (decide (b ≤ a ∧ a ≤ c)) := by
  unfold impl_in.f
  by_cases h : b ≤ a <;> simp [h]
theorem l01In_f (a b c : Int) : spec_l01In.f a b c = some (decide (b ≤ a ∧ a ≤ c)) := by
  unfold spec_l01In.f
  by_cases h : b ≤ a <;> simp [h]
def cvOdds (x : S62) : S60 := ⟨x.f0, x.f1⟩
theorem toOddsS_f (l : List S62) (hb : l.length ≤ 1048576) : Ev (fun k => laws_toOddsS.f k l) (l.map cvOdds) := by
  unfold laws_toOddsS.f
  simp only [if_pos (show (0 : Int) ≤ (l.length : Int) by omega), Int.toNat_natCast, if_pos (show l.length ≤ 17592186044416 by omega)]
  refine ev_copy (fun k s i => laws_toOddsS.l0 k l s i) l z60 cvOdds z62 (fun k s i hi hs => ?_) (fun k s => ?_)
  · simp only [laws_toOddsS.l0, laws_toOdds.f, Option.bind_some]
    rw [if_pos (by omega), if_pos (by omega), if_pos (by omega), w64 (by omega) (by omega)]
    simp only [rd_T62, Int.toNat_natCast]
    rfl
  · simp only [laws_toOddsS.l0]
    rw [if_neg (by omega)]
theorem eqOddsS_f (l : List S60) (hb : l.length ≤ 1048576) : Ev (fun k => laws_eqOddsS.f k l l) true := by
  unfold laws_eqOddsS.f
  simp only [if_true]
  have h := ev_all (fun k i => laws_eqOddsS.l0 k l l i) l.length (fun _ => true) false true (fun k i hi => by
    simp only [laws_eqOddsS.l0, laws_eqOdds.f]
    rw [if_pos (by omega), if_pos (by omega), if_pos (by omega), w64 (by omega) (by omega)]
    simp) (fun k => by simp only [laws_eqOddsS.l0]; rw [if_neg (by omega)])
  simpa using h
theorem szOddsS_f (l : List S62) (hb : l.length ≤ 17592186044416) : laws_szOddsS.f l 1048576 = some (if 1048576 < l.length then -1 else 1048576 - (l.length : Int)) := by
  unfold laws_szOddsS.f
  rw [w64 (by omega) (by omega)]
  by_cases c : 1048576 < l.length
  · rw [if_pos (by omega), if_pos c]
  · rw [if_neg (by omega), if_neg c]
def oddOk (x : S60) : Bool := decide (0 ≤ x.f0 ∧ x.f0 ≤ 1000) && decide (1 ≤ x.f1 ∧ x.f1 ≤ 100)
def oddsOk (l : List S60) : Bool := l.all oddOk && decide (1 ≤ l.length ∧ l.length ≤ 20)
theorem oddsI (l : List S60) (hb : l.length ≤ 1048576) : Ev (fun k => impl_OddsOk.f k l) (oddsOk l) := by
  unfold impl_OddsOk.f
  have h := ev_all (fun k i => impl_OddsOk.l0 k l l (l.length : Int) i) l.length (fun i => oddOk (l.getD i z60)) false (decide (1 ≤ l.length ∧ l.length ≤ 20)) (fun k i hi => by
    simp only [impl_OddsOk.l0, in_f, Option.bind_some, decide_eq_true_eq, oddOk, Bool.and_eq_true]
    rw [if_pos (by omega), if_pos (by omega), if_pos (by omega), w64 (by omega) (by omega)]
    simp only [rd_T60, Int.toNat_natCast]
    by_cases c1 : 0 ≤ (l.getD i z60).f0 ∧ (l.getD i z60).f0 ≤ 1000
    · by_cases c2 : 1 ≤ (l.getD i z60).f1 ∧ (l.getD i z60).f1 ≤ 100
      · simp only [c1, c2, and_self, and_true, true_and, and_false, false_and, if_true, if_false]
      · simp only [c1, c2, and_self, and_true, true_and, and_false, false_and, if_true, if_false]
    · simp only [c1, and_self, and_true, true_and, and_false, false_and, if_true, if_false]) (fun k => by
    simp only [impl_OddsOk.l0, in_f, Option.bind_some]
    rw [if_neg (by omega)]
    congr 1
    exact decide_eq_decide.2 (by omega))
  rw [all_range] at h
  unfold oddsOk
  cases hc : l.all oddOk
  · rw [hc] at h
    simpa using h
  · rw [hc] at h
    simpa using h
theorem oddsS (l : List S60) (hb : l.length ≤ 1048576) : Ev (fun k => spec_OddsOk.f k l) (oddsOk l) := by
  unfold spec_OddsOk.f
  have h := ev_all (fun k i => spec_OddsOk.l0 k l i) l.length (fun i => oddOk (l.getD i z60)) false (decide (1 ≤ l.length ∧ l.length ≤ 20)) (fun k i hi => by
    simp only [spec_OddsOk.l0, l01In_f, Option.bind_some, decide_eq_true_eq, oddOk, Bool.and_eq_true]
    rw [if_pos (by omega), if_pos (by omega), w64 (by omega) (by omega)]
    simp only [rd_T60, Int.toNat_natCast]
    by_cases c1 : 0 ≤ (l.getD i z60).f0 ∧ (l.getD i z60).f0 ≤ 1000
    · by_cases c2 : 1 ≤ (l.getD i z60).f1 ∧ (l.getD i z60).f1 ≤ 100
      · simp only [c1, c2, and_self, and_true, true_and, and_false, false_and, if_true, if_false]
      · simp only [c1, c2, and_self, and_true, true_and, and_false, false_and, if_true, if_false]
    · simp only [c1, and_self, and_true, true_and, and_false, false_and, if_true, if_false]) (fun k => by
    simp only [spec_OddsOk.l0, l01In_f, Option.bind_some]
    rw [if_neg (by omega)]
    congr 1
    exact decide_eq_decide.2 (by omega))
  rw [all_range] at h
  unfold oddsOk
  cases hc : l.all oddOk
  · rw [hc] at h
    simpa using h
  · rw [hc] at h
    simpa using h
theorem FnExactOddsOk (l : List S62) (hm : l.length ≤ maxLen) (hb : l.length * 16 ≤ 140737488351232) (hw : ∀ x ∈ l, (Lit.int .i64 x.f0).wf = true ∧ (Lit.int .i64 x.f1).wf = true) : ∃ k, laws_FnExactOddsOk.f k l = some true := by
  refine Ev.rounds ?_
  unfold laws_FnExactOddsOk.f
  simp only [szOddsS_f l (by omega), Option.bind_some]
  by_cases c : 1048576 < l.length
  · simp only [if_pos c]
    exact ev_const (by simp)
  · simp only [if_neg c, if_neg (show ¬ (1048576 - (l.length : Int) < 0) by omega)]
    have ht := toOddsS_f l (by omega)
    refine Ev.bind ht (Ev.bind (oddsS _ (by simp; omega)) (Ev.bind ht (Ev.bind (oddsI _ (by simp; omega)) ?_)))
    simp only [bne_self_eq_false, Bool.false_eq_true, if_false]
    refine Ev.bind ht (Ev.bind (eqOddsS_f _ (by simp; omega)) ?_)
    simp only [if_true]
    exact Ev.now _
end Go.Proofs.Ytnhkneicepmiiaa.Pure
