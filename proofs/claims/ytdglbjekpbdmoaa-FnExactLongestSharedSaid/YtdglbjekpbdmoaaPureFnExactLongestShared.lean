/- The program's LongestShared and the reference's answer alike, for all arguments. No condition. -/
import Derived.Test.YtdglbjekpbdmoaaPFnExactLongestSharedx2
import Derived.Test.YtdglbjekpbdmoaaBase
namespace Go.Proofs.Ytdglbjekpbdmoaa.Pure
open Go.RowKit Go.Proofs.Ytdglbjekpbdmoaa.PFnExactLongestShared Go.Proofs.YtdglbjekpbdmoaaW.PrintWords Go.Proofs.YtdglbjekpbdmoaaW.PrintLast Go.Proofs.YtdglbjekpbdmoaaW.PrintMore Go.Proofs.Ytdglbjekpbdmoaa.Base
set_option linter.unusedVariables false
set_option linter.unusedSimpArgs false
theorem in_f (a b c : Int) : impl_in.f a b c = some (decide (b ≤ a ∧ a ≤ c)) := by
  unfold impl_in.f
  by_cases h : b ≤ a <;> simp [h]
theorem l01In_f (a b c : Int) : spec_l01In.f a b c = some (decide (b ≤ a ∧ a ≤ c)) := by
  unfold spec_l01In.f
  by_cases h : b ≤ a <;> simp [h]
def cvBread (x : S23) : S25 := ⟨x.f0, x.f1, x.f2⟩
theorem toBreadS_f (l : List S23) (hb : l.length ≤ 1048576) : Ev (fun k => laws_toBreadS.f k l) (l.map cvBread) := by
  unfold laws_toBreadS.f
  simp only [if_pos (show (0 : Int) ≤ (l.length : Int) by omega), Int.toNat_natCast, if_pos (show l.length ≤ 11728124029610 by omega)]
  refine ev_copy (fun k s i => laws_toBreadS.l0 k l s i) l z25 cvBread z23 (fun k s i hi hs => ?_) (fun k s => ?_)
  · simp only [laws_toBreadS.l0, laws_toBread.f, Option.bind_some]
    rw [if_pos (by omega), if_pos (by omega), if_pos (by omega), w64 (by omega) (by omega)]
    simp only [rd_T23, Int.toNat_natCast]
    rfl
  · simp only [laws_toBreadS.l0]
    rw [if_neg (by omega)]
theorem eqBreadS_f (l : List S25) (hb : l.length ≤ 1048576) : Ev (fun k => laws_eqBreadS.f k l l) true := by
  unfold laws_eqBreadS.f
  simp only [if_true]
  have h := ev_all (fun k i => laws_eqBreadS.l0 k l l i) l.length (fun _ => true) false true (fun k i hi => by
    simp only [laws_eqBreadS.l0, laws_eqBread.f]
    rw [if_pos (by omega), if_pos (by omega), if_pos (by omega), w64 (by omega) (by omega)]
    simp) (fun k => by simp only [laws_eqBreadS.l0]; rw [if_neg (by omega)])
  simpa using h
theorem szBreadS_f (l : List S23) (hb : l.length ≤ 17592186044416) : laws_szBreadS.f l 1048576 = some (if 1048576 < l.length then -1 else 1048576 - (l.length : Int)) := by
  unfold laws_szBreadS.f
  rw [w64 (by omega) (by omega)]
  by_cases c : 1048576 < l.length
  · rw [if_pos (by omega), if_pos c]
  · rw [if_neg (by omega), if_neg c]
def breadsV (l : List S25) : Bool := decide ((l.length : Int) ≤ 10) && l.all bk_ok
theorem breadsI (l : List S25) : impl_breadsOk.f l = some (breadsV l) := rfl
theorem breadsV_mem {l : List S25} (h : breadsV l = true) : l.length ≤ 10 ∧ ∀ x ∈ l, (100 ≤ x.f0 ∧ x.f0 ≤ x.f1) ∧ x.f1 ≤ 350 ∧ (1 ≤ x.f2 ∧ x.f2 ≤ 200) := by
  unfold breadsV at h
  rw [Bool.and_eq_true, decide_eq_true_eq, List.all_eq_true] at h
  refine ⟨by omega, fun x hx => ?_⟩
  have := h.2 x hx
  unfold bk_ok at this
  rw [Bool.and_eq_true, Bool.and_eq_true, decide_eq_true_eq, decide_eq_true_eq, decide_eq_true_eq] at this
  exact this
theorem breadS (x : S25) : spec_BreadOk.f x.f0 x.f1 x.f2 = some (bk_ok x) := by
  unfold spec_BreadOk.f bk_ok
  simp only [l01In_f, Option.bind_some, decide_eq_true_eq]
  by_cases c1 : 100 ≤ x.f1 ∧ x.f1 ≤ 350
  · rw [if_pos c1]
    by_cases c2 : 100 ≤ x.f0 ∧ x.f0 ≤ x.f1
    · rw [if_pos c2, decide_eq_true c2, decide_eq_true c1.2, Bool.true_and, Bool.true_and]
    · rw [if_neg c2, decide_eq_false c2, Bool.false_and]
  · rw [if_neg c1]
    by_cases c2 : 100 ≤ x.f0 ∧ x.f0 ≤ x.f1
    · rw [decide_eq_false (show ¬ x.f1 ≤ 350 by omega), Bool.false_and, Bool.and_false]
    · rw [decide_eq_false c2, Bool.false_and]
theorem breadsS (l : List S25) (hb : l.length ≤ 1048576) : Ev (fun k => spec_l10Ok.f k l) (breadsV l) := by
  unfold spec_l10Ok.f
  have h := ev_all (fun k i => spec_l10Ok.l0 k l i) l.length (fun i => bk_ok (l.getD i z25)) false (decide ((l.length : Int) ≤ 10)) (fun k i hi => by
    simp only [spec_l10Ok.l0, breadS, Option.bind_some]
    rw [if_pos (by omega), if_pos (by omega), w64 (by omega) (by omega)]
    have er : rd_T25 l (i : Int) = l.getD i z25 := by unfold rd_T25; rw [Int.toNat_natCast]
    rw [er]) (fun k => by
    simp only [spec_l10Ok.l0]
    rw [if_neg (by omega)])
  rw [all_range] at h
  unfold breadsV
  cases hc : l.all bk_ok
  · rw [hc] at h
    simpa using h
  · rw [hc] at h
    simpa using h
def longI (l : List S25) (h : Int) : Int × Int := l.foldl (fun s x => if x.f0 ≤ h ∧ h ≤ x.f1 then (wrap64 (s.1 + x.f2), mx s.2 x.f2) else s) (0, 0)
def longB (l : List S25) : Nat → Int → Int
  | 0, b => b
  | d + 1, b => longB l d (mx b (wrap64 ((longI l (350 - d)).1 - (longI l (350 - d)).2)))
theorem long_loop (F0 : Nat → Int → Int → Option Int) (F1 : Nat → Int → Int → Int → Int → Int → Option Int) (l : List S25) (hl : l.length ≤ 1048576)
    (h0 : ∀ k b h, h ≤ 350 → F0 (k + 1) b h = F1 k b h 0 0 0) (h0e : ∀ k b, F0 (k + 1) b 351 = some b)
    (h1 : ∀ k b h s t (i : Nat), i < l.length → F1 (k + 1) b h s t (i : Int) = if (l.getD i z25).f0 ≤ h ∧ h ≤ (l.getD i z25).f1 then F1 k b h (wrap64 (s + (l.getD i z25).f2)) (mx t (l.getD i z25).f2) ((i : Int) + 1) else F1 k b h s t ((i : Int) + 1))
    (h1e : ∀ k b h s t, 100 ≤ h → h ≤ 350 → F1 (k + 1) b h s t (l.length : Int) = F0 k (mx b (wrap64 (s - t))) (h + 1)) (d : Nat) (hd : d ≤ 251) (b : Int) : Ev (fun k => F0 k b (351 - (d : Int))) (longB l d b) := by
  induction d generalizing b with
  | zero => exact ev_now fun k => h0e k b
  | succ d ih =>
    have e : (351 : Int) - ((d + 1 : Nat) : Int) = 350 - (d : Int) := by omega
    rw [e]
    refine ev_next (fun k => h0 k b _ (by omega)) _ ?_
    have h := ev_to (fun k (s : Int × Int) i => F1 k b (350 - (d : Int)) s.1 s.2 i) l.length (fun i s => s = (List.range i).foldl (fun s i => if (l.getD i z25).f0 ≤ 350 - (d : Int) ∧ 350 - (d : Int) ≤ (l.getD i z25).f1 then (wrap64 (s.1 + (l.getD i z25).f2), mx s.2 (l.getD i z25).f2) else s) (0, 0)) (longB l (d + 1) b) (fun i s hi hp => by
        refine .inl ⟨_, rfl, fun r hr => ev_next (fun k => ?_) r hr⟩
        rw [List.range_succ, List.foldl_append, List.foldl_cons, List.foldl_nil, ← hp, h1 k b _ _ _ i hi]
        split <;> rfl) (fun s hp => by
        have e2 := fold_range l z25 (fun (s : Int × Int) x => if x.f0 ≤ 350 - (d : Int) ∧ 350 - (d : Int) ≤ x.f1 then (wrap64 (s.1 + x.f2), mx s.2 x.f2) else s) (0, 0)
        rw [e2] at hp
        have hp : s = longI l (350 - (d : Int)) := hp
        subst hp
        refine ev_next (fun k => h1e k b _ _ _ (by omega) (by omega)) _ ?_
        rw [show (350 : Int) - (d : Int) + 1 = 351 - (d : Int) by omega]
        exact ih (by omega) _) 0 (0, 0) (Nat.zero_le _) rfl
    exact h
def longV (l : List S25) : Int := if breadsV l = true then longB l 251 0 else -1
theorem longestI (l : List S25) (hb : l.length ≤ 1048576) : Ev (fun k => impl_LongestShared.f k l) (longV l) := by
  unfold impl_LongestShared.f longV
  simp only [breadsI, Option.bind_some]
  by_cases c1 : breadsV l = true
  · simp only [if_pos c1]
    exact long_loop (fun k b h => impl_LongestShared.l0 k l b h) (fun k b h s t i => impl_LongestShared.l1 k l b h s t l (l.length : Int) i) l hb (fun k b h hh => by
      simp only [impl_LongestShared.l0]
      rw [if_pos hh]) (fun k b => by
      simp only [impl_LongestShared.l0]
      rw [if_neg (by omega)]) (fun k b h s t i hi => by
      simp only [impl_LongestShared.l1, in_f, Option.bind_some, decide_eq_true_eq]
      rw [if_pos (by omega), if_pos (by omega), if_pos (by omega), w64 (x := (i : Int) + 1) (by omega) (by omega)]
      have er : rd_T25 l (i : Int) = l.getD i z25 := by unfold rd_T25; rw [Int.toNat_natCast]
      rw [er]) (fun k b h s t h1 h2 => by
      simp only [impl_LongestShared.l1]
      rw [if_neg (by omega), w64 (x := h + 1) (by omega) (by omega)]) 251 (by omega) 0
  · simp only [if_neg c1]
    exact Ev.now _
theorem longestS (l : List S25) (hb : l.length ≤ 1048576) : Ev (fun k => spec_LongestShared.f k l) (longV l) := by
  unfold spec_LongestShared.f longV
  refine Ev.bind (breadsS l hb) ?_
  by_cases c1 : breadsV l = true
  · simp only [if_pos c1]
    exact long_loop (fun k b h => spec_LongestShared.l0 k l b h) (fun k b h s t i => spec_LongestShared.l1 k l b h s t i) l hb (fun k b h hh => by
      simp only [spec_LongestShared.l0]
      rw [if_pos hh]) (fun k b => by
      simp only [spec_LongestShared.l0]
      rw [if_neg (by omega)]) (fun k b h s t i hi => by
      simp only [spec_LongestShared.l1]
      rw [if_pos (by omega), if_pos (by omega), w64 (x := (i : Int) + 1) (by omega) (by omega)]
      have er : rd_T25 l (i : Int) = l.getD i z25 := by unfold rd_T25; rw [Int.toNat_natCast]
      rw [er]
      by_cases d1 : (l.getD i z25).f0 ≤ h
      · by_cases d2 : h ≤ (l.getD i z25).f1
        · rw [if_pos d1, if_pos d2, if_pos ⟨d1, d2⟩]
        · rw [if_pos d1, if_neg d2, if_neg (fun hh => d2 hh.2)]
      · rw [if_neg d1, if_neg (fun hh => d1 hh.1)]) (fun k b h s t h1 h2 => by
      simp only [spec_LongestShared.l1]
      rw [if_neg (by omega), w64 (x := h + 1) (by omega) (by omega)]) 251 (by omega) 0
  · simp only [if_neg c1]
    exact Ev.now _
theorem FnExactLongestShared (l : List S23) (hm : l.length ≤ maxLen) (hb : l.length * 24 ≤ 140737488351232) (hw : ∀ x ∈ l, (Lit.int .i64 x.f0).wf = true ∧ (Lit.int .i64 x.f1).wf = true ∧ (Lit.int .i64 x.f2).wf = true) : ∃ k, laws_FnExactLongestShared.f k l = some true := by
  refine Ev.rounds ?_
  unfold laws_FnExactLongestShared.f
  simp only [szBreadS_f l (by omega), Option.bind_some]
  by_cases c : 1048576 < l.length
  · simp only [if_pos c]
    exact ev_const (by simp)
  · simp only [if_neg c, if_neg (show ¬ (1048576 - (l.length : Int) < 0) by omega)]
    have ht := toBreadS_f l (by omega)
    have hl : (l.map cvBread).length ≤ 1048576 := by rw [List.length_map]; omega
    refine Ev.bind ht (Ev.bind (longestS _ hl) (Ev.bind ht (Ev.bind (longestI _ hl) ?_)))
    simp only [if_true]
    refine Ev.bind ht (Ev.bind (eqBreadS_f _ hl) ?_)
    simp only [if_true]
    exact Ev.now _
end Go.Proofs.Ytdglbjekpbdmoaa.Pure
