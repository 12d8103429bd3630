/- The program's UsesOk and the reference's answer alike, for all arguments. No condition. -/
import Derived.Test.YtkcfpkokgpimaaaPFnExactUsesOkx2
import Derived.Test.YtkcfpkokgpimaaaBase
namespace Go.Proofs.Ytkcfpkokgpimaaa.Pure
open Go.RowKit Go.Proofs.Ytkcfpkokgpimaaa.PFnExactUsesOk Go.Proofs.YtkcfpkokgpimaaaW.PrintWords Go.Proofs.YtkcfpkokgpimaaaW.PrintLast Go.Proofs.YtkcfpkokgpimaaaW.PrintMore Go.Proofs.Ytkcfpkokgpimaaa.Base
set_option linter.unusedVariables false
set_option linter.unusedSimpArgs false
theorem l01In_f (a b c : Int) : spec_l01In.f a b c = some (decide (b ≤ a ∧ a ≤ c)) := by
  unfold spec_l01In.f
  by_cases h : b ≤ a <;> simp [h]
def cvUse (x : S84) : S82 := ⟨x.f0, x.f1, x.f2⟩
theorem toUseS_f (l : List S84) (hb : l.length ≤ 1048576) : Ev (fun k => laws_toUseS.f k l) (l.map cvUse) := by
  unfold laws_toUseS.f
  simp only [if_pos (show (0 : Int) ≤ (l.length : Int) by omega), Int.toNat_natCast, if_pos (show l.length ≤ 11728124029610 by omega)]
  refine ev_copy (fun k s i => laws_toUseS.l0 k l s i) l z82 cvUse z84 (fun k s i hi hs => ?_) (fun k s => ?_)
  · simp only [laws_toUseS.l0, laws_toUse.f, Option.bind_some]
    rw [if_pos (by omega), if_pos (by omega), if_pos (by omega), w64 (by omega) (by omega)]
    simp only [rd_T84, Int.toNat_natCast]
    rfl
  · simp only [laws_toUseS.l0]
    rw [if_neg (by omega)]
theorem eqUseS_f (l : List S82) (hb : l.length ≤ 1048576) : Ev (fun k => laws_eqUseS.f k l l) true := by
  unfold laws_eqUseS.f
  simp only [if_true]
  have h := ev_all (fun k i => laws_eqUseS.l0 k l l i) l.length (fun _ => true) false true (fun k i hi => by
    simp only [laws_eqUseS.l0, laws_eqUse.f]
    rw [if_pos (by omega), if_pos (by omega), if_pos (by omega), w64 (by omega) (by omega)]
    simp) (fun k => by simp only [laws_eqUseS.l0]; rw [if_neg (by omega)])
  simpa using h
theorem szUseS_f (l : List S84) (hb : l.length ≤ 17592186044416) : laws_szUseS.f l 1048576 = some (if 1048576 < l.length then -1 else 1048576 - (l.length : Int)) := by
  unfold laws_szUseS.f
  rw [w64 (by omega) (by omega)]
  by_cases c : 1048576 < l.length
  · rw [if_pos (by omega), if_pos c]
  · rw [if_neg (by omega), if_neg c]
def usesV (l : List S82) : Bool := decide ((l.length : Int) ≤ 60) && l.all us_ok
theorem usesS (l : List S82) (hb : l.length ≤ 1048576) : Ev (fun k => spec_UsesOk.f k l) (usesV l) := by
  unfold spec_UsesOk.f
  have h := ev_all (fun k i => spec_UsesOk.l0 k l i) l.length (fun i => us_ok (l.getD i z82)) false (decide ((l.length : Int) ≤ 60)) (fun k i hi => by
    simp only [spec_UsesOk.l0, l01In_f, Option.bind_some, decide_eq_true_eq]
    rw [if_pos (by omega), if_pos (by omega), w64 (by omega) (by omega)]
    have er : rd_T82 l (i : Int) = l.getD i z82 := by unfold rd_T82; rw [Int.toNat_natCast]
    rw [er]
    unfold us_ok
    generalize l.getD i z82 = x
    by_cases c1 : 1 ≤ x.f0 ∧ x.f0 ≤ 50
    · by_cases c2 : 1 ≤ x.f1 ∧ x.f1 ≤ 50
      · by_cases c3 : 1 ≤ x.f2 ∧ x.f2 ≤ 100000
        · rw [if_pos c1, if_pos c2, if_pos c3, decide_eq_true c1, decide_eq_true c2, decide_eq_true c3, if_pos (show (true && (true && true)) = true from rfl)]
        · rw [if_pos c1, if_pos c2, if_neg c3, decide_eq_false c3, Bool.and_false, Bool.and_false, if_neg (by decide)]
      · rw [if_pos c1, if_neg c2, decide_eq_false c2, Bool.false_and, Bool.and_false, if_neg (by decide)]
    · rw [if_neg c1, decide_eq_false c1, Bool.false_and, if_neg (by decide)]) (fun k => by
    simp only [spec_UsesOk.l0]
    rw [if_neg (by omega)])
  rw [all_range] at h
  unfold usesV
  cases hc : l.all us_ok
  · rw [hc] at h
    simpa using h
  · rw [hc] at h
    simpa using h
theorem FnExactUsesOk (l : List S84) (hm : l.length ≤ maxLen) (hb : l.length * 24 ≤ 140737488351232) (hw : ∀ x ∈ l, (Lit.int .i64 x.f0).wf = true ∧ (Lit.int .i64 x.f1).wf = true ∧ (Lit.int .i64 x.f2).wf = true) : ∃ k, laws_FnExactUsesOk.f k l = some true := by
  refine Ev.rounds ?_
  unfold laws_FnExactUsesOk.f
  simp only [szUseS_f l (by omega), Option.bind_some]
  by_cases c : 1048576 < l.length
  · simp only [if_pos c]
    exact ev_const (by simp)
  · simp only [if_neg c, if_neg (show ¬ (1048576 - (l.length : Int) < 0) by omega)]
    have ht := toUseS_f l (by omega)
    have hl : (l.map cvUse).length ≤ 1048576 := by rw [List.length_map]; omega
    refine Ev.bind ht (Ev.bind (usesS _ hl) (Ev.bind ht ?_))
    have hi : impl_UsesOk.f (l.map cvUse) = some (usesV (l.map cvUse)) := rfl
    simp only [hi, Option.bind_some, bne_self_eq_false, Bool.false_eq_true, if_false]
    refine Ev.bind ht (Ev.bind (eqUseS_f _ hl) ?_)
    simp only [if_true]
    exact Ev.now _
end Go.Proofs.Ytkcfpkokgpimaaa.Pure
