/- The program's BestBake and the reference's answer alike, for all arguments. No condition. -/
import Derived.Test.YtkcfpkokgpimaaaPFnExactBestBakex3
import Derived.Test.YtkcfpkokgpimaaaBase
namespace Go.Proofs.Ytkcfpkokgpimaaa.Pure
open Go.RowKit Go.Proofs.Ytkcfpkokgpimaaa.PFnExactBestBake Go.Proofs.YtkcfpkokgpimaaaW.PrintWords Go.Proofs.YtkcfpkokgpimaaaW.PrintLast Go.Proofs.YtkcfpkokgpimaaaW.PrintMore Go.Proofs.Ytkcfpkokgpimaaa.Base
set_option linter.unusedVariables false
set_option linter.unusedSimpArgs false
theorem in_f (a b c : Int) : impl_in.f a b c = some (decide (b ≤ a ∧ a ≤ c)) := by
  unfold impl_in.f
  by_cases h : b ≤ a <;> simp [h]
theorem l01In_f (a b c : Int) : spec_l01In.f a b c = some (decide (b ≤ a ∧ a ≤ c)) := by
  unfold spec_l01In.f
  by_cases h : b ≤ a <;> simp [h]
def cvOdds (x : S78) : S54 := ⟨x.f0, x.f1⟩
theorem toOddsS_f (l : List S78) (hb : l.length ≤ 1048576) : Ev (fun k => laws_toOddsS.f k l) (l.map cvOdds) := by
  unfold laws_toOddsS.f
  simp only [if_pos (show (0 : Int) ≤ (l.length : Int) by omega), Int.toNat_natCast, if_pos (show l.length ≤ 17592186044416 by omega)]
  refine ev_copy (fun k s i => laws_toOddsS.l0 k l s i) l z54 cvOdds z78 (fun k s i hi hs => ?_) (fun k s => ?_)
  · simp only [laws_toOddsS.l0, laws_toOdds.f, Option.bind_some]
    rw [if_pos (by omega), if_pos (by omega), if_pos (by omega), w64 (by omega) (by omega)]
    simp only [rd_T78, Int.toNat_natCast]
    rfl
  · simp only [laws_toOddsS.l0]
    rw [if_neg (by omega)]
theorem eqOddsS_f (l : List S54) (hb : l.length ≤ 1048576) : Ev (fun k => laws_eqOddsS.f k l l) true := by
  unfold laws_eqOddsS.f
  simp only [if_true]
  have h := ev_all (fun k i => laws_eqOddsS.l0 k l l i) l.length (fun _ => true) false true (fun k i hi => by
    simp only [laws_eqOddsS.l0, laws_eqOdds.f]
    rw [if_pos (by omega), if_pos (by omega), if_pos (by omega), w64 (by omega) (by omega)]
    simp) (fun k => by simp only [laws_eqOddsS.l0]; rw [if_neg (by omega)])
  simpa using h
theorem szOddsS_f (l : List S78) (hb : l.length ≤ 17592186044416) : laws_szOddsS.f l 1048576 = some (if 1048576 < l.length then -1 else 1048576 - (l.length : Int)) := by
  unfold laws_szOddsS.f
  rw [w64 (by omega) (by omega)]
  by_cases c : 1048576 < l.length
  · rw [if_pos (by omega), if_pos c]
  · rw [if_neg (by omega), if_neg c]
def oddOk (x : S54) : Bool := decide (0 ≤ x.f0 ∧ x.f0 ≤ 1000) && decide (1 ≤ x.f1 ∧ x.f1 ≤ 100)
def oddsOk (l : List S54) : Bool := l.all oddOk && decide (1 ≤ l.length ∧ l.length ≤ 20)
theorem oddsI (l : List S54) (hb : l.length ≤ 1048576) : Ev (fun k => impl_OddsOk.f k l) (oddsOk l) := by
  unfold impl_OddsOk.f
  have h := ev_all (fun k i => impl_OddsOk.l0 k l l (l.length : Int) i) l.length (fun i => oddOk (l.getD i z54)) false (decide (1 ≤ l.length ∧ l.length ≤ 20)) (fun k i hi => by
    simp only [impl_OddsOk.l0, in_f, Option.bind_some, decide_eq_true_eq, oddOk, Bool.and_eq_true]
    rw [if_pos (by omega), if_pos (by omega), if_pos (by omega), w64 (by omega) (by omega)]
    simp only [rd_T54, Int.toNat_natCast]
    by_cases c1 : 0 ≤ (l.getD i z54).f0 ∧ (l.getD i z54).f0 ≤ 1000
    · by_cases c2 : 1 ≤ (l.getD i z54).f1 ∧ (l.getD i z54).f1 ≤ 100
      · simp only [c1, c2, and_self, and_true, true_and, and_false, false_and, if_true, if_false]
      · simp only [c1, c2, and_self, and_true, true_and, and_false, false_and, if_true, if_false]
    · simp only [c1, and_self, and_true, true_and, and_false, false_and, if_true, if_false]) (fun k => by
    simp only [impl_OddsOk.l0, in_f, Option.bind_some]
    rw [if_neg (by omega)]
    congr 1
    exact decide_eq_decide.2 (by omega))
  rw [all_range] at h
  unfold oddsOk
  cases hc : l.all oddOk
  · rw [hc] at h
    simpa using h
  · rw [hc] at h
    simpa using h
theorem oddsS (l : List S54) (hb : l.length ≤ 1048576) : Ev (fun k => spec_OddsOk.f k l) (oddsOk l) := by
  unfold spec_OddsOk.f
  have h := ev_all (fun k i => spec_OddsOk.l0 k l i) l.length (fun i => oddOk (l.getD i z54)) false (decide (1 ≤ l.length ∧ l.length ≤ 20)) (fun k i hi => by
    simp only [spec_OddsOk.l0, l01In_f, Option.bind_some, decide_eq_true_eq, oddOk, Bool.and_eq_true]
    rw [if_pos (by omega), if_pos (by omega), w64 (by omega) (by omega)]
    simp only [rd_T54, Int.toNat_natCast]
    by_cases c1 : 0 ≤ (l.getD i z54).f0 ∧ (l.getD i z54).f0 ≤ 1000
    · by_cases c2 : 1 ≤ (l.getD i z54).f1 ∧ (l.getD i z54).f1 ≤ 100
      · simp only [c1, c2, and_self, and_true, true_and, and_false, false_and, if_true, if_false]
      · simp only [c1, c2, and_self, and_true, true_and, and_false, false_and, if_true, if_false]
    · simp only [c1, and_self, and_true, true_and, and_false, false_and, if_true, if_false]) (fun k => by
    simp only [spec_OddsOk.l0, l01In_f, Option.bind_some]
    rw [if_neg (by omega)]
    congr 1
    exact decide_eq_decide.2 (by omega))
  rw [all_range] at h
  unfold oddsOk
  cases hc : l.all oddOk
  · rw [hc] at h
    simpa using h
  · rw [hc] at h
    simpa using h
theorem oddsOk_mem {l : List S54} (h : oddsOk l = true) : ∀ x ∈ l, (0 ≤ x.f0 ∧ x.f0 ≤ 1000) ∧ (1 ≤ x.f1 ∧ x.f1 ≤ 100) := by
  unfold oddsOk at h
  rw [Bool.and_eq_true] at h
  intro x hx
  have := (List.all_eq_true.1 h.1) x hx
  unfold oddOk at this
  simpa using this
theorem oddsOk_len {l : List S54} (h : oddsOk l = true) : 1 ≤ l.length ∧ l.length ≤ 20 := by
  unfold oddsOk at h
  rw [Bool.and_eq_true] at h
  simpa using h.2
def gOk (l : List S54) (b g c : Int) : Bool := oddsOk l && decide (0 ≤ b ∧ b ≤ 1000) && decide (0 ≤ g ∧ g ≤ 100) && decide (0 ≤ c ∧ c ≤ 100)
theorem gOk_iff (l : List S54) (b g c : Int) : gOk l b g c = true ↔ oddsOk l = true ∧ (0 ≤ b ∧ b ≤ 1000) ∧ (0 ≤ g ∧ g ≤ 100) ∧ (0 ≤ c ∧ c ≤ 100) := by
  unfold gOk
  simp only [Bool.and_eq_true, decide_eq_true_eq, and_assoc]
def gainOf (b g c : Int) (x : S54) : Int := x.f1 * (g * min b x.f0 - c * b)
theorem gain_bd (b g c : Int) (x : S54) (hx : (0 ≤ x.f0 ∧ x.f0 ≤ 1000) ∧ (1 ≤ x.f1 ∧ x.f1 ≤ 100)) (hb : 0 ≤ b ∧ b ≤ 1000) (hg : 0 ≤ g ∧ g ≤ 100) (hc : 0 ≤ c ∧ c ≤ 100) :
    (0 ≤ g * min b x.f0 ∧ g * min b x.f0 ≤ 100000) ∧ (0 ≤ c * b ∧ c * b ≤ 100000) ∧ (-10000000 ≤ gainOf b g c x ∧ gainOf b g c x ≤ 10000000) := by
  have h1 : 0 ≤ g * min b x.f0 := Int.mul_nonneg hg.1 (by omega)
  have h2 : g * min b x.f0 ≤ 100 * 1000 := Int.mul_le_mul hg.2 (by omega) (by omega) (by omega)
  have h3 : 0 ≤ c * b := Int.mul_nonneg hc.1 hb.1
  have h4 : c * b ≤ 100 * 1000 := Int.mul_le_mul hc.2 hb.2 hb.1 (by omega)
  refine ⟨⟨h1, h2⟩, ⟨h3, h4⟩, ?_⟩
  unfold gainOf
  generalize g * min b x.f0 = u at *
  generalize c * b = v at *
  have h5 : x.f1 * (u - v) ≤ x.f1 * 100000 := Int.mul_le_mul_of_nonneg_left (by omega) (by omega)
  have h6 : x.f1 * (-100000) ≤ x.f1 * (u - v) := Int.mul_le_mul_of_nonneg_left (by omega) (by omega)
  omega
def gainV (l : List S54) (b g c : Int) : Int := if gOk l b g c = true then sumBy (gainOf b g c) l else 0
def soldOf (b : Int) (x : S54) : Int := if x.f0 > b then x.f1 else 0
def soldV (l : List S54) (b : Int) : Int := if gOk l b 0 0 = true then sumBy (soldOf b) l else -1
def betterV (l : List S54) (a b g c : Int) : Bool := gOk l a g c && gOk l b g c && decide (gainV l b g c < gainV l a g c)
def bestOf (G : Int → Int) (n : Nat) : Int := (List.range n).foldl (fun (b : Int) (i : Nat) => if G ((i : Int) + 1) > G b then (i : Int) + 1 else b) (0 : Int)
theorem bestOf_succ (G : Int → Int) (n : Nat) : bestOf G (n + 1) = if G ((n : Int) + 1) > G (bestOf G n) then (n : Int) + 1 else bestOf G n := by
  unfold bestOf
  rw [List.range_succ, List.foldl_append]
  rfl
theorem bestOf_best (G : Int → Int) (n : Nat) : 0 ≤ bestOf G n ∧ bestOf G n ≤ n ∧ (∀ m, 0 ≤ m → m ≤ (n : Int) → G m ≤ G (bestOf G n)) ∧ ∀ m, 0 ≤ m → m < bestOf G n → G m < G (bestOf G n) := by
  induction n with
  | zero =>
    refine ⟨Int.le_refl _, Int.le_refl _, fun m h0 h1 => ?_, fun m h0 h1 => ?_⟩
    · have : m = 0 := by omega
      subst this
      exact Int.le_refl _
    · have : bestOf G 0 = 0 := rfl
      omega
  | succ n ih =>
    obtain ⟨i0, i1, i2, i3⟩ := ih
    rw [bestOf_succ]
    by_cases c : G ((n : Int) + 1) > G (bestOf G n)
    · rw [if_pos c]
      refine ⟨by omega, by omega, fun m h0 h1 => ?_, fun m h0 h1 => ?_⟩
      · by_cases e : m = (n : Int) + 1
        · subst e
          exact Int.le_refl _
        · have := i2 m h0 (by omega)
          omega
      · have := i2 m h0 (by omega)
        omega
    · rw [if_neg c]
      refine ⟨i0, by omega, fun m h0 h1 => ?_, i3⟩
      by_cases e : m = (n : Int) + 1
      · subst e
        omega
      · exact i2 m h0 (by omega)
theorem best_loop (F : Nat → Int → Int → Option Int) (X : Nat → Int → Option Int) (G : Int → Int) (N : Nat) (hN : N ≤ 100000) (hX : ∀ b, Ev (fun k => X k b) (G b))
    (hF : ∀ k b d, F (k + 1) b d = if d ≤ (N : Int) then (X k d).bind fun t => (X k b).bind fun u => if t > u then F k d (wrap64 (d + 1)) else F k b (wrap64 (d + 1)) else some b) : Ev (fun k => F k 0 1) (bestOf G N) := by
  have h := ev_to (fun k b i => F k b (i + 1)) N (fun i b => b = bestOf G i) (bestOf G N) (fun i b hi hb => by
      subst hb
      refine .inl ⟨_, rfl, fun r hr => ?_⟩
      refine ev_next (f := fun k => (X k ((i : Int) + 1)).bind fun t => (X k (bestOf G i)).bind fun u => if t > u then F k ((i : Int) + 1) ((i : Int) + 1 + 1) else F k (bestOf G i) ((i : Int) + 1 + 1)) (fun k => ?_) r ?_
      · rw [hF, if_pos (by omega), w64 (by omega) (by omega)]
      · refine Ev.bind (hX _) (Ev.bind (hX _) ?_)
        rw [bestOf_succ] at hr
        by_cases c : G ((i : Int) + 1) > G (bestOf G i)
        · simp only [if_pos c] at hr ⊢
          exact hr
        · simp only [if_neg c] at hr ⊢
          exact hr) (fun b hb => by
      subst hb
      refine ev_now fun k => ?_
      rw [hF, if_neg (by omega)]) 0 0 (Nat.zero_le _) rfl
  exact h
def bakeV (l : List S54) (g c : Int) : Int := if gOk l 0 g c = true then bestOf (fun b => gainV l b g c) 1000 else -1
theorem gOkS (l : List S54) (b g c : Int) (hb : l.length ≤ 1048576) : Ev (fun k => spec_l15Ok.f k l b g c) (gOk l b g c) := by
  unfold spec_l15Ok.f gOk
  refine Ev.bind (oddsS l hb) ?_
  simp only [l01In_f, Option.bind_some, decide_eq_true_eq]
  by_cases c1 : oddsOk l = true
  · by_cases c2 : 0 ≤ b ∧ b ≤ 1000
    · by_cases c3 : 0 ≤ g ∧ g ≤ 100
      · simp only [c1, c2, c3, and_self, if_true, decide_true, Bool.true_and]
        exact Ev.now _
      · simp only [if_pos c1, if_pos c2, if_neg c3]
        rw [decide_eq_false c3]
        simp only [Bool.and_false, Bool.false_and]
        exact Ev.now _
    · simp only [if_pos c1, if_neg c2]
      rw [decide_eq_false c2]
      simp only [Bool.and_false, Bool.false_and]
      exact Ev.now _
  · simp only [if_neg c1]
    rw [Bool.eq_false_iff.2 c1]
    simp only [Bool.false_and]
    exact Ev.now _
theorem gOkI (l : List S54) (b g c : Int) (hb : l.length ≤ 1048576) : Ev (fun k => impl_gainOk.f k l b g c) (gOk l b g c) := by
  unfold impl_gainOk.f gOk
  refine Ev.bind (oddsI l hb) ?_
  simp only [in_f, Option.bind_some, decide_eq_true_eq]
  by_cases c1 : oddsOk l = true
  · by_cases c2 : 0 ≤ b ∧ b ≤ 1000
    · by_cases c3 : 0 ≤ g ∧ g ≤ 100
      · simp only [c1, c2, c3, and_self, if_true, decide_true, Bool.true_and]
        exact Ev.now _
      · simp only [if_pos c1, if_pos c2, if_neg c3]
        rw [decide_eq_false c3]
        simp only [Bool.and_false, Bool.false_and]
        exact Ev.now _
    · simp only [if_pos c1, if_neg c2]
      rw [decide_eq_false c2]
      simp only [Bool.and_false, Bool.false_and]
      exact Ev.now _
  · simp only [if_neg c1]
    rw [Bool.eq_false_iff.2 c1]
    simp only [Bool.false_and]
    exact Ev.now _
theorem gainS (l : List S54) (b g c : Int) (hl : l.length ≤ 1048576) : Ev (fun k => spec_GainFor.f k l b g c) (gainV l b g c) := by
  unfold spec_GainFor.f gainV
  refine Ev.bind (gOkS l b g c hl) ?_
  by_cases c1 : gOk l b g c = true
  · simp only [if_pos c1]
    obtain ⟨ho, hb, hg, hc⟩ := (gOk_iff l b g c).1 c1
    have hm := oddsOk_mem ho
    refine ev_sum (fun k s i => spec_GainFor.l0 k l b g c s i) l z54 (gainOf b g c) 10000000 (by omega) hl (fun x hx => (gain_bd b g c x (hm x hx) hb hg hc).2.2) (fun k s i hi hs => ?_) (fun k s => ?_)
    · have hx := gain_bd b g c l[i] (hm _ (List.getElem_mem hi)) hb hg hc
      have er : rd_T54 l (i : Int) = l[i] := by
        unfold rd_T54
        rw [Int.toNat_natCast, List.getD_eq_getElem?_getD, List.getElem?_eq_getElem hi]
        rfl
      simp only [spec_GainFor.l0]
      rw [if_pos (by omega), if_pos (by omega), er, mn_eq]
      unfold gainOf at hx ⊢
      rw [w64 (x := g * min b l[i].f0) (by omega) (by omega), w64 (x := c * b) (by omega) (by omega), w64 (x := g * min b l[i].f0 - c * b) (by omega) (by omega)]
      generalize l[i].f1 * (g * min b l[i].f0 - c * b) = u at *
      rw [w64 (x := u) (by omega) (by omega), w64 (x := s + u) (by omega) (by omega), w64 (x := (i : Int) + 1) (by omega) (by omega)]
    · simp only [spec_GainFor.l0]
      rw [if_neg (by omega)]
  · simp only [if_neg c1]
    exact Ev.now _
theorem gainI (l : List S54) (b g c : Int) (hl : l.length ≤ 1048576) : Ev (fun k => impl_GainFor.f k l b g c) (gainV l b g c) := by
  unfold impl_GainFor.f gainV
  refine Ev.bind (gOkI l b g c hl) ?_
  by_cases c1 : gOk l b g c = true
  · simp only [if_pos c1]
    obtain ⟨ho, hb, hg, hc⟩ := (gOk_iff l b g c).1 c1
    have hm := oddsOk_mem ho
    refine ev_sum (fun k s i => impl_GainFor.l0 k b g c s l (l.length : Int) i) l z54 (gainOf b g c) 10000000 (by omega) hl (fun x hx => (gain_bd b g c x (hm x hx) hb hg hc).2.2) (fun k s i hi hs => ?_) (fun k s => ?_)
    · have hx := gain_bd b g c l[i] (hm _ (List.getElem_mem hi)) hb hg hc
      have er : rd_T54 l (i : Int) = l[i] := by
        unfold rd_T54
        rw [Int.toNat_natCast, List.getD_eq_getElem?_getD, List.getElem?_eq_getElem hi]
        rfl
      simp only [impl_GainFor.l0]
      rw [if_pos (by omega), if_pos (by omega), if_pos (by omega), er, mn_eq]
      unfold gainOf at hx ⊢
      rw [w64 (x := g * min b l[i].f0) (by omega) (by omega), w64 (x := c * b) (by omega) (by omega), w64 (x := g * min b l[i].f0 - c * b) (by omega) (by omega)]
      generalize l[i].f1 * (g * min b l[i].f0 - c * b) = u at *
      rw [w64 (x := u) (by omega) (by omega), w64 (x := s + u) (by omega) (by omega), w64 (x := (i : Int) + 1) (by omega) (by omega)]
    · simp only [impl_GainFor.l0]
      rw [if_neg (by omega)]
  · simp only [if_neg c1]
    exact Ev.now _
theorem bakeS (l : List S54) (g c : Int) (hl : l.length ≤ 1048576) : Ev (fun k => spec_BestBake.f k l g c) (bakeV l g c) := by
  unfold spec_BestBake.f bakeV
  refine Ev.bind (gOkS l 0 g c hl) ?_
  by_cases c1 : gOk l 0 g c = true
  · simp only [if_pos c1]
    exact best_loop (fun k b d => spec_BestBake.l0 k l g c b d) (fun k b => spec_GainFor.f k l b g c) (fun b => gainV l b g c) 1000 (by omega) (fun b => gainS l b g c hl) (fun k b d => rfl)
  · simp only [if_neg c1]
    exact Ev.now _
theorem bakeI (l : List S54) (g c : Int) (hl : l.length ≤ 1048576) : Ev (fun k => impl_BestBake.f k l g c) (bakeV l g c) := by
  unfold impl_BestBake.f bakeV
  refine Ev.bind (gOkI l 0 g c hl) ?_
  by_cases c1 : gOk l 0 g c = true
  · simp only [if_pos c1]
    exact best_loop (fun k b d => impl_BestBake.l0 k l g c b d) (fun k b => impl_GainFor.f k l b g c) (fun b => gainV l b g c) 1000 (by omega) (fun b => gainI l b g c hl) (fun k b d => rfl)
  · simp only [if_neg c1]
    exact Ev.now _
theorem FnExactBestBake (l : List S78) (g d : Int) (hm : l.length ≤ maxLen) (hb : l.length * 16 ≤ 140737488351232) (hw : ∀ x ∈ l, (Lit.int .i64 x.f0).wf = true ∧ (Lit.int .i64 x.f1).wf = true) (_ : (Lit.int .i64 g).wf = true) (_ : (Lit.int .i64 d).wf = true) : ∃ k, laws_FnExactBestBake.f k l g d = some true := by
  refine Ev.rounds ?_
  unfold laws_FnExactBestBake.f
  simp only [szOddsS_f l (by omega), Option.bind_some]
  by_cases c : 1048576 < l.length
  · simp only [if_pos c]
    exact ev_const (by simp)
  · simp only [if_neg c, if_neg (show ¬ (1048576 - (l.length : Int) < 0) by omega)]
    have ht := toOddsS_f l (by omega)
    refine Ev.bind ht (Ev.bind (bakeS _ g d (by simp; omega)) (Ev.bind ht (Ev.bind (bakeI _ g d (by simp; omega)) ?_)))
    simp only [if_true]
    refine Ev.bind ht (Ev.bind (eqOddsS_f _ (by simp; omega)) ?_)
    simp only [if_true]
    exact Ev.now _
end Go.Proofs.Ytkcfpkokgpimaaa.Pure
