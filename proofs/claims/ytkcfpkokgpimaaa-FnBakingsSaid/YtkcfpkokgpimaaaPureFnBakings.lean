/- No other number of loaves gains more, and the best one sells out seldom enough: the law FnBakings answers true for every input. No condition. -/
import Derived.Test.YtkcfpkokgpimaaaPFnBakingsx3
import Derived.Test.YtkcfpkokgpimaaaBase
namespace Go.Proofs.Ytkcfpkokgpimaaa.Pure
open Go.RowKit Go.Proofs.Ytkcfpkokgpimaaa.PFnBakings Go.Proofs.YtkcfpkokgpimaaaW.PrintWords Go.Proofs.YtkcfpkokgpimaaaW.PrintLast Go.Proofs.YtkcfpkokgpimaaaW.PrintMore Go.Proofs.Ytkcfpkokgpimaaa.Base
set_option linter.unusedVariables false
set_option linter.unusedSimpArgs false
theorem in_f (a b c : Int) : impl_in.f a b c = some (decide (b ≤ a ∧ a ≤ c)) := by
  unfold impl_in.f
  by_cases h : b ≤ a <;> simp [h]
def oddOk (x : S54) : Bool := decide (0 ≤ x.f0 ∧ x.f0 ≤ 1000) && decide (1 ≤ x.f1 ∧ x.f1 ≤ 100)
def oddsOk (l : List S54) : Bool := l.all oddOk && decide (1 ≤ l.length ∧ l.length ≤ 20)
theorem oddsI (l : List S54) (hb : l.length ≤ 1048576) : Ev (fun k => impl_OddsOk.f k l) (oddsOk l) := by
  unfold impl_OddsOk.f
  have h := ev_all (fun k i => impl_OddsOk.l0 k l l (l.length : Int) i) l.length (fun i => oddOk (l.getD i z54)) false (decide (1 ≤ l.length ∧ l.length ≤ 20)) (fun k i hi => by
    simp only [impl_OddsOk.l0, in_f, Option.bind_some, decide_eq_true_eq, oddOk, Bool.and_eq_true]
    rw [if_pos (by omega), if_pos (by omega), if_pos (by omega), w64 (by omega) (by omega)]
    simp only [rd_T54, Int.toNat_natCast]
    by_cases c1 : 0 ≤ (l.getD i z54).f0 ∧ (l.getD i z54).f0 ≤ 1000
    · by_cases c2 : 1 ≤ (l.getD i z54).f1 ∧ (l.getD i z54).f1 ≤ 100
      · simp only [c1, c2, and_self, and_true, true_and, and_false, false_and, if_true, if_false]
      · simp only [c1, c2, and_self, and_true, true_and, and_false, false_and, if_true, if_false]
    · simp only [c1, and_self, and_true, true_and, and_false, false_and, if_true, if_false]) (fun k => by
    simp only [impl_OddsOk.l0, in_f, Option.bind_some]
    rw [if_neg (by omega)]
    congr 1
    exact decide_eq_decide.2 (by omega))
  rw [all_range] at h
  unfold oddsOk
  cases hc : l.all oddOk
  · rw [hc] at h
    simpa using h
  · rw [hc] at h
    simpa using h
theorem oddsOk_mem {l : List S54} (h : oddsOk l = true) : ∀ x ∈ l, (0 ≤ x.f0 ∧ x.f0 ≤ 1000) ∧ (1 ≤ x.f1 ∧ x.f1 ≤ 100) := by
  unfold oddsOk at h
  rw [Bool.and_eq_true] at h
  intro x hx
  have := (List.all_eq_true.1 h.1) x hx
  unfold oddOk at this
  simpa using this
theorem oddsOk_len {l : List S54} (h : oddsOk l = true) : 1 ≤ l.length ∧ l.length ≤ 20 := by
  unfold oddsOk at h
  rw [Bool.and_eq_true] at h
  simpa using h.2
def gOk (l : List S54) (b g c : Int) : Bool := oddsOk l && decide (0 ≤ b ∧ b ≤ 1000) && decide (0 ≤ g ∧ g ≤ 100) && decide (0 ≤ c ∧ c ≤ 100)
theorem gOk_iff (l : List S54) (b g c : Int) : gOk l b g c = true ↔ oddsOk l = true ∧ (0 ≤ b ∧ b ≤ 1000) ∧ (0 ≤ g ∧ g ≤ 100) ∧ (0 ≤ c ∧ c ≤ 100) := by
  unfold gOk
  simp only [Bool.and_eq_true, decide_eq_true_eq, and_assoc]
def gainOf (b g c : Int) (x : S54) : Int := x.f1 * (g * min b x.f0 - c * b)
theorem gain_bd (b g c : Int) (x : S54) (hx : (0 ≤ x.f0 ∧ x.f0 ≤ 1000) ∧ (1 ≤ x.f1 ∧ x.f1 ≤ 100)) (hb : 0 ≤ b ∧ b ≤ 1000) (hg : 0 ≤ g ∧ g ≤ 100) (hc : 0 ≤ c ∧ c ≤ 100) :
    (0 ≤ g * min b x.f0 ∧ g * min b x.f0 ≤ 100000) ∧ (0 ≤ c * b ∧ c * b ≤ 100000) ∧ (-10000000 ≤ gainOf b g c x ∧ gainOf b g c x ≤ 10000000) := by
  have h1 : 0 ≤ g * min b x.f0 := Int.mul_nonneg hg.1 (by omega)
  have h2 : g * min b x.f0 ≤ 100 * 1000 := Int.mul_le_mul hg.2 (by omega) (by omega) (by omega)
  have h3 : 0 ≤ c * b := Int.mul_nonneg hc.1 hb.1
  have h4 : c * b ≤ 100 * 1000 := Int.mul_le_mul hc.2 hb.2 hb.1 (by omega)
  refine ⟨⟨h1, h2⟩, ⟨h3, h4⟩, ?_⟩
  unfold gainOf
  generalize g * min b x.f0 = u at *
  generalize c * b = v at *
  have h5 : x.f1 * (u - v) ≤ x.f1 * 100000 := Int.mul_le_mul_of_nonneg_left (by omega) (by omega)
  have h6 : x.f1 * (-100000) ≤ x.f1 * (u - v) := Int.mul_le_mul_of_nonneg_left (by omega) (by omega)
  omega
def gainV (l : List S54) (b g c : Int) : Int := if gOk l b g c = true then sumBy (gainOf b g c) l else 0
def soldOf (b : Int) (x : S54) : Int := if x.f0 > b then x.f1 else 0
def soldV (l : List S54) (b : Int) : Int := if gOk l b 0 0 = true then sumBy (soldOf b) l else -1
def betterV (l : List S54) (a b g c : Int) : Bool := gOk l a g c && gOk l b g c && decide (gainV l b g c < gainV l a g c)
def bestOf (G : Int → Int) (n : Nat) : Int := (List.range n).foldl (fun (b : Int) (i : Nat) => if G ((i : Int) + 1) > G b then (i : Int) + 1 else b) (0 : Int)
theorem bestOf_succ (G : Int → Int) (n : Nat) : bestOf G (n + 1) = if G ((n : Int) + 1) > G (bestOf G n) then (n : Int) + 1 else bestOf G n := by
  unfold bestOf
  rw [List.range_succ, List.foldl_append]
  rfl
theorem bestOf_best (G : Int → Int) (n : Nat) : 0 ≤ bestOf G n ∧ bestOf G n ≤ n ∧ (∀ m, 0 ≤ m → m ≤ (n : Int) → G m ≤ G (bestOf G n)) ∧ ∀ m, 0 ≤ m → m < bestOf G n → G m < G (bestOf G n) := by
  induction n with
  | zero =>
    refine ⟨Int.le_refl _, Int.le_refl _, fun m h0 h1 => ?_, fun m h0 h1 => ?_⟩
    · have : m = 0 := by omega
      subst this
      exact Int.le_refl _
    · have : bestOf G 0 = 0 := rfl
      omega
  | succ n ih =>
    obtain ⟨i0, i1, i2, i3⟩ := ih
    rw [bestOf_succ]
    by_cases c : G ((n : Int) + 1) > G (bestOf G n)
    · rw [if_pos c]
      refine ⟨by omega, by omega, fun m h0 h1 => ?_, fun m h0 h1 => ?_⟩
      · by_cases e : m = (n : Int) + 1
        · subst e
          exact Int.le_refl _
        · have := i2 m h0 (by omega)
          omega
      · have := i2 m h0 (by omega)
        omega
    · rw [if_neg c]
      refine ⟨i0, by omega, fun m h0 h1 => ?_, i3⟩
      by_cases e : m = (n : Int) + 1
      · subst e
        omega
      · exact i2 m h0 (by omega)
theorem best_loop (F : Nat → Int → Int → Option Int) (X : Nat → Int → Option Int) (G : Int → Int) (N : Nat) (hN : N ≤ 100000) (hX : ∀ b, Ev (fun k => X k b) (G b))
    (hF : ∀ k b d, F (k + 1) b d = if d ≤ (N : Int) then (X k d).bind fun t => (X k b).bind fun u => if t > u then F k d (wrap64 (d + 1)) else F k b (wrap64 (d + 1)) else some b) : Ev (fun k => F k 0 1) (bestOf G N) := by
  have h := ev_to (fun k b i => F k b (i + 1)) N (fun i b => b = bestOf G i) (bestOf G N) (fun i b hi hb => by
      subst hb
      refine .inl ⟨_, rfl, fun r hr => ?_⟩
      refine ev_next (f := fun k => (X k ((i : Int) + 1)).bind fun t => (X k (bestOf G i)).bind fun u => if t > u then F k ((i : Int) + 1) ((i : Int) + 1 + 1) else F k (bestOf G i) ((i : Int) + 1 + 1)) (fun k => ?_) r ?_
      · rw [hF, if_pos (by omega), w64 (by omega) (by omega)]
      · refine Ev.bind (hX _) (Ev.bind (hX _) ?_)
        rw [bestOf_succ] at hr
        by_cases c : G ((i : Int) + 1) > G (bestOf G i)
        · simp only [if_pos c] at hr ⊢
          exact hr
        · simp only [if_neg c] at hr ⊢
          exact hr) (fun b hb => by
      subst hb
      refine ev_now fun k => ?_
      rw [hF, if_neg (by omega)]) 0 0 (Nat.zero_le _) rfl
  exact h
def bakeV (l : List S54) (g c : Int) : Int := if gOk l 0 g c = true then bestOf (fun b => gainV l b g c) 1000 else -1
theorem gOkI (l : List S54) (b g c : Int) (hb : l.length ≤ 1048576) : Ev (fun k => impl_gainOk.f k l b g c) (gOk l b g c) := by
  unfold impl_gainOk.f gOk
  refine Ev.bind (oddsI l hb) ?_
  simp only [in_f, Option.bind_some, decide_eq_true_eq]
  by_cases c1 : oddsOk l = true
  · by_cases c2 : 0 ≤ b ∧ b ≤ 1000
    · by_cases c3 : 0 ≤ g ∧ g ≤ 100
      · simp only [c1, c2, c3, and_self, if_true, decide_true, Bool.true_and]
        exact Ev.now _
      · simp only [if_pos c1, if_pos c2, if_neg c3]
        rw [decide_eq_false c3]
        simp only [Bool.and_false, Bool.false_and]
        exact Ev.now _
    · simp only [if_pos c1, if_neg c2]
      rw [decide_eq_false c2]
      simp only [Bool.and_false, Bool.false_and]
      exact Ev.now _
  · simp only [if_neg c1]
    rw [Bool.eq_false_iff.2 c1]
    simp only [Bool.false_and]
    exact Ev.now _
theorem gainI (l : List S54) (b g c : Int) (hl : l.length ≤ 1048576) : Ev (fun k => impl_GainFor.f k l b g c) (gainV l b g c) := by
  unfold impl_GainFor.f gainV
  refine Ev.bind (gOkI l b g c hl) ?_
  by_cases c1 : gOk l b g c = true
  · simp only [if_pos c1]
    obtain ⟨ho, hb, hg, hc⟩ := (gOk_iff l b g c).1 c1
    have hm := oddsOk_mem ho
    refine ev_sum (fun k s i => impl_GainFor.l0 k b g c s l (l.length : Int) i) l z54 (gainOf b g c) 10000000 (by omega) hl (fun x hx => (gain_bd b g c x (hm x hx) hb hg hc).2.2) (fun k s i hi hs => ?_) (fun k s => ?_)
    · have hx := gain_bd b g c l[i] (hm _ (List.getElem_mem hi)) hb hg hc
      have er : rd_T54 l (i : Int) = l[i] := by
        unfold rd_T54
        rw [Int.toNat_natCast, List.getD_eq_getElem?_getD, List.getElem?_eq_getElem hi]
        rfl
      simp only [impl_GainFor.l0]
      rw [if_pos (by omega), if_pos (by omega), if_pos (by omega), er, mn_eq]
      unfold gainOf at hx ⊢
      rw [w64 (x := g * min b l[i].f0) (by omega) (by omega), w64 (x := c * b) (by omega) (by omega), w64 (x := g * min b l[i].f0 - c * b) (by omega) (by omega)]
      generalize l[i].f1 * (g * min b l[i].f0 - c * b) = u at *
      rw [w64 (x := u) (by omega) (by omega), w64 (x := s + u) (by omega) (by omega), w64 (x := (i : Int) + 1) (by omega) (by omega)]
    · simp only [impl_GainFor.l0]
      rw [if_neg (by omega)]
  · simp only [if_neg c1]
    exact Ev.now _
theorem soldI (l : List S54) (b : Int) (hl : l.length ≤ 1048576) : Ev (fun k => impl_SoldOutWeight.f k l b) (soldV l b) := by
  unfold impl_SoldOutWeight.f soldV
  refine Ev.bind (gOkI l b 0 0 hl) ?_
  by_cases c1 : gOk l b 0 0 = true
  · simp only [if_pos c1]
    obtain ⟨ho, hb, _, _⟩ := (gOk_iff l b 0 0).1 c1
    have hm := oddsOk_mem ho
    refine ev_sum (fun k s i => impl_SoldOutWeight.l0 k b s l (l.length : Int) i) l z54 (soldOf b) 100 (by omega) hl (fun x hx => by unfold soldOf; have := hm x hx; split <;> omega) (fun k s i hi hs => ?_) (fun k s => ?_)
    · have hx := hm _ (List.getElem_mem hi)
      have er : rd_T54 l (i : Int) = l[i] := by
        unfold rd_T54
        rw [Int.toNat_natCast, List.getD_eq_getElem?_getD, List.getElem?_eq_getElem hi]
        rfl
      simp only [impl_SoldOutWeight.l0]
      rw [if_pos (by omega), if_pos (by omega), if_pos (by omega), er]
      unfold soldOf
      by_cases c2 : l[i].f0 > b
      · rw [if_pos c2, if_pos c2, w64 (x := s + l[i].f1) (by omega) (by omega), w64 (x := (i : Int) + 1) (by omega) (by omega)]
      · rw [if_neg c2, if_neg c2, w64 (x := (i : Int) + 1) (by omega) (by omega), Int.add_zero]
    · simp only [impl_SoldOutWeight.l0]
      rw [if_neg (by omega)]
  · simp only [if_neg c1]
    exact Ev.now _
theorem betterI (l : List S54) (a b g c : Int) (hl : l.length ≤ 1048576) : Ev (fun k => impl_IsBetter.f k l a b g c) (betterV l a b g c) := by
  unfold impl_IsBetter.f betterV
  refine Ev.bind (gOkI l a g c hl) ?_
  by_cases c1 : gOk l a g c = true
  · simp only [if_pos c1]
    refine Ev.bind (gOkI l b g c hl) ?_
    by_cases c2 : gOk l b g c = true
    · simp only [if_pos c2]
      refine Ev.bind (gainI l a g c hl) (Ev.bind (gainI l b g c hl) ?_)
      rw [c1, c2]
      exact Ev.now _
    · simp only [if_neg c2]
      rw [Bool.eq_false_iff.2 c2]
      simp only [Bool.and_false, Bool.false_and]
      exact Ev.now _
  · simp only [if_neg c1]
    rw [Bool.eq_false_iff.2 c1]
    simp only [Bool.false_and]
    exact Ev.now _
theorem bakeI (l : List S54) (g c : Int) (hl : l.length ≤ 1048576) : Ev (fun k => impl_BestBake.f k l g c) (bakeV l g c) := by
  unfold impl_BestBake.f bakeV
  refine Ev.bind (gOkI l 0 g c hl) ?_
  by_cases c1 : gOk l 0 g c = true
  · simp only [if_pos c1]
    exact best_loop (fun k b d => impl_BestBake.l0 k l g c b d) (fun k b => impl_GainFor.f k l b g c) (fun b => gainV l b g c) 1000 (by omega) (fun b => gainI l b g c hl) (fun k b d => rfl)
  · simp only [if_neg c1]
    exact Ev.now _
theorem at_f (l : List Int) (hw : ∀ x ∈ l, (Lit.int .u8 x).wf = true) (hl : l.length ≤ 140737488351232) (i : Int) (h0 : 0 ≤ i) (h1 : i ≤ 1000) : ∃ v, laws_at.f l i = some v ∧ 0 ≤ v ∧ v ≤ 255 := by
  unfold laws_at.f
  by_cases c : (l.length : Int) = 0
  · exact ⟨0, by rw [if_pos c], by omega, by omega⟩
  · rw [if_neg c, w64 (x := i * 5) (by omega) (by omega), w64 (x := i * 5 + 1) (by omega) (by omega), tmod_pos (by omega)]
    have hm : 0 ≤ (i * 5 + 1) % (l.length : Int) := Int.emod_nonneg _ c
    have hn : (i * 5 + 1) % (l.length : Int) < (l.length : Int) := Int.emod_lt_of_pos _ (by omega)
    rw [if_pos hm, if_pos hn]
    obtain ⟨j, hj⟩ := Int.eq_ofNat_of_zero_le hm
    rw [hj] at hn ⊢
    have hx := (u8_iff _).1 (hw _ (List.getElem_mem (show j < l.length by omega)))
    rw [rd_get _ _ (by omega), w64 (by omega) (by omega)]
    exact ⟨_, rfl, hx.1, hx.2⟩
theorem big_f (l : List Int) : laws_big.f l = some (decide ((l.length : Int) > 1048576)) := rfl
theorem and_bd (x : Int) (m : Nat) (hm : m ≤ 4294967295) : 0 ≤ Go.bits .and .i64 x (m : Int) ∧ Go.bits .and .i64 x (m : Int) ≤ m := by
  have h : ((BitVec.ofInt 64 x) &&& (BitVec.ofInt 64 (m : Int))).toNat ≤ m := by
    rw [BitVec.toNat_and]
    refine Nat.le_trans Nat.and_le_right ?_
    rw [BitVec.ofInt_natCast, BitVec.toNat_ofNat]
    exact Nat.mod_le _ _
  have e : Go.bits .and .i64 x (m : Int) = IntKind.i64.wrap (((BitVec.ofInt 64 x) &&& (BitVec.ofInt 64 (m : Int))).toNat : Int) := rfl
  rw [e]
  generalize ((BitVec.ofInt 64 x) &&& (BitVec.ofInt 64 (m : Int))).toNat = q at h ⊢
  rw [IntKind.wrap_i64]
  omega
theorem byte_f (b : List Int) (i h : Int) (hb : b.length ≤ 140737488351232) (hi : 0 ≤ i) : ∃ x i' h', spec_l01Byte.f b i h = some (x, i', h') ∧ 0 ≤ x ∧ x ≤ 255 ∧ 0 ≤ i' := by
  unfold spec_l01Byte.f
  by_cases c : i < (b.length : Int)
  · rw [if_pos c, if_pos hi]
    refine ⟨_, _, _, rfl, (and_bd _ 255 (by omega)).1, (and_bd _ 255 (by omega)).2, ?_⟩
    rw [w64 (by omega) (by omega)]
    omega
  · rw [if_neg c]
    exact ⟨_, _, _, rfl, (and_bd _ 255 (by omega)).1, (and_bd _ 255 (by omega)).2, hi⟩
theorem below_f (b : List Int) (i h n : Int) (hb : b.length ≤ 140737488351232) (hi : 0 ≤ i) (h1 : 1 ≤ n) (h2 : n ≤ 256) : ∃ x i' h', spec_l01Below.f b i h n = some (x, i', h') ∧ 0 ≤ x ∧ x < n ∧ 0 ≤ i' := by
  obtain ⟨x, i', h', e, x0, x1, i0⟩ := byte_f b i h hb hi
  unfold spec_l01Below.f
  rw [if_neg (by omega), if_pos (by omega), e]
  simp only [Option.bind_some]
  rw [if_neg (by omega), tmod_pos x0]
  exact ⟨_, _, _, rfl, Int.emod_nonneg _ (by omega), Int.emod_lt_of_pos _ (by omega), i0⟩
theorem new_f (l : List Int) (hb : l.length ≤ 140737488351232) : ∃ h, Ev (fun k => spec_l01New.f k l) (l, 0, h) := by
  unfold spec_l01New.f
  have h := ev_up (fun k s i => spec_l01New.l0 k l s i) l.length (fun _ _ => True) (fun r => ∃ h, r = (l, 0, h)) (fun i s hi _ => by
      by_cases c : i < 4000
      · refine .inl ⟨Go.bits .and .i64 (wrap64 ((wrap64 ((wrap64 (s * 131)) + (wrap64 (rd l (i : Int))))) + 7)) 1073741823, trivial, fun r hr => ev_next (fun k => ?_) r hr⟩
        simp only [spec_l01New.l0]
        rw [if_pos (by omega), if_pos (by omega), if_pos (by omega), w64 (x := (i : Int) + 1) (by omega) (by omega)]
      · refine .inr ⟨_, ⟨s, rfl⟩, ev_now fun k => ?_⟩
        · simp only [spec_l01New.l0]
          rw [if_pos (by omega), if_neg (by omega)]) (fun s _ => ⟨_, ⟨s, rfl⟩, ev_now fun k => by
      simp only [spec_l01New.l0]
      rw [if_neg (by omega)]⟩) 0 (wrap64 (33101 + (l.length : Int))) (Nat.zero_le _) trivial
  obtain ⟨r, ⟨h, rfl⟩, e⟩ := h
  exact ⟨h, e⟩
def fair (l : List S54) : Prop := (1 ≤ l.length ∧ l.length ≤ 6) ∧ ∀ x ∈ l, (10 ≤ x.f0 ∧ x.f0 ≤ 69) ∧ (1 ≤ x.f1 ∧ x.f1 ≤ 9)
theorem drawOdds_f (l : List Int) (hb : l.length ≤ 140737488351232) : ∃ f, Ev (fun k => spec_DrawOdds.f k l) f ∧ fair f := by
  obtain ⟨h, e⟩ := new_f l hb
  obtain ⟨n, i1, h1, e1, n0, n1, p1⟩ := below_f l 0 h 6 hb (by omega) (by omega) (by omega)
  obtain ⟨N, hN⟩ := Int.eq_ofNat_of_zero_le (show 0 ≤ 1 + n by omega)
  have hl := ev_up (fun k (s : List S54 × Int × Int) i => spec_l15List.l0 k s.1 (1 + n) i l s.2.1 s.2.2) N (fun i s => s.1.length = i ∧ (∀ x ∈ s.1, (10 ≤ x.f0 ∧ x.f0 ≤ 69) ∧ (1 ≤ x.f1 ∧ x.f1 ≤ 9)) ∧ 0 ≤ s.2.1) (fun r => fair r.1) (fun i s hi hp => by
      obtain ⟨a, b, c⟩ := s
      obtain ⟨q1, q2, q3⟩ := hp
      simp only at q1 q2 q3
      obtain ⟨x, i2, h2, e2, x0, x1, p2⟩ := below_f l b c 60 hb q3 (by omega) (by omega)
      obtain ⟨y, i3, h3, e3, y0, y1, p3⟩ := below_f l i2 h2 9 hb p2 (by omega) (by omega)
      refine .inl ⟨(a ++ [⟨10 + x, 1 + y⟩], i3, h3), ⟨by simp [q1], fun z hz => ?_, p3⟩, fun r hr => ev_next (fun k => ?_) r hr⟩
      · rcases List.mem_append.1 hz with hz | hz
        · exact q2 z hz
        · rw [List.mem_singleton.1 hz]
          simp only
          omega
      · simp only [spec_l15List.l0, e2, e3, Option.bind_some]
        rw [if_pos (by omega), if_pos (by omega), w64 (x := 10 + x) (by omega) (by omega), w64 (x := 1 + y) (by omega) (by omega), w64 (x := (i : Int) + 1) (by omega) (by omega)]) (fun s hp => ⟨s, ⟨by omega, hp.2.1⟩, ev_now fun k => by
      simp only [spec_l15List.l0]
      rw [if_neg (by omega)]⟩) 0 ([], i1, h1) (Nat.zero_le _) ⟨rfl, by simp, p1⟩
  obtain ⟨r, hr, he⟩ := hl
  refine ⟨r.1, ?_, hr⟩
  unfold spec_DrawOdds.f
  refine Ev.bind e ?_
  unfold spec_l15List.f
  simp only [e1, Option.bind_some]
  rw [w64 (x := 1 + n) (by omega) (by omega)]
  exact Ev.bind he (Ev.now _)
theorem fair_ok {l : List S54} (h : fair l) : oddsOk l = true := by
  unfold oddsOk
  rw [Bool.and_eq_true, List.all_eq_true, decide_eq_true_eq]
  refine ⟨fun x hx => ?_, by have := h.1; omega⟩
  have := h.2 x hx
  unfold oddOk
  rw [Bool.and_eq_true, decide_eq_true_eq, decide_eq_true_eq]
  omega
def wOf (x : S54) : Int := x.f1
theorem step_gain (b g c : Int) (l : List S54) : sumBy (gainOf (b + 1) g c) l = sumBy (gainOf b g c) l + (g * sumBy (soldOf b) l - c * sumBy wOf l) := by
  induction l with
  | nil => simp [sumBy_nil]
  | cons x l ih =>
    rw [sumBy_cons, sumBy_cons, sumBy_cons, sumBy_cons, ih]
    have e : gainOf (b + 1) g c x = gainOf b g c x + (g * soldOf b x - c * wOf x) := by
      unfold gainOf soldOf wOf
      have e1 : c * (b + 1) = c * b + c := by rw [Int.mul_add, Int.mul_one]
      by_cases d : x.f0 > b
      · rw [if_pos d, show min (b + 1) x.f0 = b + 1 by omega, show min b x.f0 = b by omega, e1, show g * (b + 1) = g * b + g by rw [Int.mul_add, Int.mul_one], Int.mul_sub, Int.mul_sub, Int.mul_add, Int.mul_add, Int.mul_comm g x.f1, Int.mul_comm c x.f1]
        omega
      · rw [if_neg d, show min (b + 1) x.f0 = x.f0 by omega, show min b x.f0 = x.f0 by omega, e1, Int.mul_sub, Int.mul_sub, Int.mul_add, Int.mul_comm c x.f1]
        omega
    rw [e, Int.mul_add, Int.mul_add]
    omega
theorem sold_le (a b : Int) (h : a ≤ b) (l : List S54) (hf : ∀ x ∈ l, 1 ≤ x.f1) : sumBy (soldOf b) l ≤ sumBy (soldOf a) l ∧ 0 ≤ sumBy (soldOf b) l ∧ sumBy (soldOf a) l ≤ sumBy wOf l := by
  induction l with
  | nil => simp [sumBy_nil]
  | cons x l ih =>
    have i := ih (fun y hy => hf y (List.mem_cons_of_mem _ hy))
    have hx := hf x List.mem_cons_self
    rw [sumBy_cons, sumBy_cons, sumBy_cons]
    have : soldOf b x ≤ soldOf a x ∧ 0 ≤ soldOf b x ∧ soldOf a x ≤ wOf x := by
      unfold soldOf wOf
      split <;> split <;> omega
    omega
theorem sold_none (b : Int) (h : 69 ≤ b) (l : List S54) (hf : ∀ x ∈ l, x.f0 ≤ 69) : sumBy (soldOf b) l = 0 := by
  induction l with
  | nil => rfl
  | cons x l ih =>
    have hx := hf x List.mem_cons_self
    rw [sumBy_cons, ih (fun y hy => hf y (List.mem_cons_of_mem _ hy))]
    unfold soldOf
    rw [if_neg (by omega)]
    rfl
theorem gain_none (g c : Int) (l : List S54) (hf : ∀ x ∈ l, 0 ≤ x.f0) : sumBy (gainOf 0 g c) l = 0 := by
  induction l with
  | nil => rfl
  | cons x l ih =>
    have hx := hf x List.mem_cons_self
    rw [sumBy_cons, ih (fun y hy => hf y (List.mem_cons_of_mem _ hy))]
    unfold gainOf
    rw [show min 0 x.f0 = 0 by omega]
    simp
theorem gainV_out (l : List S54) (b g c : Int) (h : ¬ (0 ≤ b ∧ b ≤ 1000)) : gainV l b g c = 0 := by
  unfold gainV
  rw [if_neg (fun hh => h ((gOk_iff l b g c).1 hh).2.1)]
theorem gainV_in (l : List S54) (b g c : Int) (hl : oddsOk l = true) (h : 0 ≤ b ∧ b ≤ 1000) (hg : 0 ≤ g ∧ g ≤ 100) (hc : 0 ≤ c ∧ c ≤ 100) : gainV l b g c = sumBy (gainOf b g c) l := by
  unfold gainV
  rw [if_pos ((gOk_iff l b g c).2 ⟨hl, h, hg, hc⟩)]
theorem soldV_in (l : List S54) (b : Int) (hl : oddsOk l = true) (h : 0 ≤ b ∧ b ≤ 1000) : soldV l b = sumBy (soldOf b) l := by
  unfold soldV
  rw [if_pos ((gOk_iff l b 0 0).2 ⟨hl, h, by omega, by omega⟩)]
theorem FnBakings (l : List Int) (_ : l.length ≤ maxLen) (hb : l.length * 1 ≤ 140737488351232) (hw : ∀ x ∈ l, (Lit.int .u8 x).wf = true) : ∃ k, laws_FnBakings.f k l = some true := by
  refine Ev.rounds ?_
  unfold laws_FnBakings.f
  simp only [big_f, Option.bind_some, decide_eq_true_eq]
  by_cases c : (l.length : Int) > 1048576
  · simp only [if_pos c]
    exact Ev.now _
  · simp only [if_neg c]
    obtain ⟨f, hd, hf⟩ := drawOdds_f l (by omega)
    have hfl : f.length ≤ 1048576 := by have := hf.1; omega
    have ho := fair_ok hf
    obtain ⟨a0, ha0, b0, c0⟩ := at_f l hw (by omega) 0 (by omega) (by omega)
    obtain ⟨a1, ha1, b1, c1⟩ := at_f l hw (by omega) 1 (by omega) (by omega)
    obtain ⟨n, ha2, b2, c2⟩ := at_f l hw (by omega) 2 (by omega) (by omega)
    refine Ev.bind hd ?_
    obtain ⟨g, hg⟩ : ∃ g, g = 1 + a0 % 20 := ⟨_, rfl⟩
    have hg1 : 1 ≤ g ∧ g ≤ 20 := by omega
    simp only [ha0, ha1, Option.bind_some, tmod_pos b0, tmod_pos b1]
    rw [w64 (x := 1 + a0 % 20) (by omega) (by omega), ← hg, w64 (x := g + 1) (by omega) (by omega)]
    simp only [if_neg (show ¬ g + 1 = 0 by omega)]
    obtain ⟨d, hd⟩ : ∃ d, d = a1 % (g + 1) := ⟨_, rfl⟩
    have hd1 : 0 ≤ d ∧ d ≤ g := by
      have := Int.emod_nonneg a1 (show g + 1 ≠ 0 by omega)
      have := Int.emod_lt_of_pos a1 (show 0 < g + 1 by omega)
      omega
    rw [← hd]
    have hbk := bakeI f g d hfl
    have hbv : bakeV f g d = bestOf (fun b => gainV f b g d) 1000 := by
      unfold bakeV
      rw [if_pos ((gOk_iff f 0 g d).2 ⟨ho, by omega, by omega, by omega⟩)]
    rw [hbv] at hbk
    obtain ⟨q0, q1, q2, q3⟩ := bestOf_best (fun b => gainV f b g d) 1000
    refine Ev.bind hbk ?_
    generalize bestOf (fun b => gainV f b g d) 1000 = b at q0 q1 q2 q3 ⊢
    have hb1000 : b ≤ 1000 := by omega
    simp only [if_neg (show ¬ b < 0 by omega)]
    rw [decide_eq_false (show ¬ b > 1000 by omega)]
    have hf0 : ∀ x ∈ f, 0 ≤ x.f0 := fun x hx => by have := hf.2 x hx; omega
    have hf69 : ∀ x ∈ f, x.f0 ≤ 69 := fun x hx => by have := hf.2 x hx; omega
    have hf1 : ∀ x ∈ f, 1 ≤ x.f1 := fun x hx => by have := hf.2 x hx; omega
    have hall := sumBy_bd wOf f 1 9 (fun x hx => by have := hf.2 x hx; unfold wOf; omega)
    have g0 : gainV f 0 g d = 0 := by rw [gainV_in f 0 g d ho (by omega) (by omega) (by omega), gain_none g d f hf0]
    have gup : gainV f (b + 1) g d ≤ gainV f b g d := by
      by_cases e : b + 1 ≤ 1000
      · exact q2 (b + 1) (by omega) (by omega)
      · rw [gainV_out f (b + 1) g d (by omega), ← g0]
        exact q2 0 (by omega) (by omega)
    have gdown : b > 0 → gainV f (b - 1) g d < gainV f b g d := fun e => q3 (b - 1) (by omega) (by omega)
    have gn : gainV f n g d ≤ gainV f b g d := q2 n b2 (by omega)
    have hsb := sold_le b b (Int.le_refl _) f hf1
    have s1 : g * sumBy (soldOf b) f ≤ d * sumBy wOf f := by
      by_cases e : b + 1 ≤ 1000
      · rw [gainV_in f (b + 1) g d ho (by omega) (by omega) (by omega), gainV_in f b g d ho (by omega) (by omega) (by omega), step_gain] at gup
        omega
      · rw [sold_none b (by omega) f hf69, Int.mul_zero]
        exact Int.mul_nonneg hd1.1 (by omega)
    have s2 : b > 0 → g * sumBy (soldOf (b - 1)) f > d * sumBy wOf f := fun e => by
      have h1 := gdown e
      have h2 := step_gain (b - 1) g d f
      rw [show b - 1 + 1 = b by omega] at h2
      rw [gainV_in f (b - 1) g d ho (by omega) (by omega) (by omega), gainV_in f b g d ho (by omega) (by omega) (by omega), h2] at h1
      omega
    have m1 : 0 ≤ d * sumBy wOf f ∧ d * sumBy wOf f ≤ 20 * 54 := ⟨Int.mul_nonneg hd1.1 (by omega), Int.mul_le_mul (by omega) (by have := hf.1; omega) (by omega) (by omega)⟩
    have mg : ∀ a, 0 ≤ g * sumBy (soldOf a) f ∧ g * sumBy (soldOf a) f ≤ 20 * 54 := fun a => by
      have := sold_le a a (Int.le_refl _) f hf1
      exact ⟨Int.mul_nonneg (by omega) this.2.1, Int.mul_le_mul (by omega) (by have := hf.1; omega) this.2.1 (by omega)⟩
    have last : Ev (fun k => laws_FnBakings.j3 k f g d b n (sumBy (gainOf n g d) f) (sumBy (soldOf b) f) false) true := by
      have k1 := gainI f n g d hfl
      rw [gainV_in f n g d ho (by omega) (by omega) (by omega)] at k1
      have k2 := soldI f 1000 hfl
      rw [soldV_in f 1000 ho (by omega), sold_none 1000 (by omega) f hf69] at k2
      have k3 := gainI f 0 g d hfl
      rw [g0] at k3
      have k4 := betterI f b b g d hfl
      have e4 : betterV f b b g d = false := by
        unfold betterV
        rw [decide_eq_false (by omega), Bool.and_false]
      rw [e4] at k4
      have k5 := oddsI f hfl
      rw [ho] at k5
      refine ev_next (f := fun k => ((impl_GainFor.f k f n g d).bind fun t186 => (if t186 = sumBy (gainOf n g d) f then ((impl_SoldOutWeight.f k f 1000).bind fun t187 => (if t187 = 0 then ((impl_GainFor.f k f 0 g d).bind fun t188 => (if t188 = 0 then ((impl_IsBetter.f k f b b g d).bind fun t189 => (if t189 = true then (some false) else ((impl_OddsOk.f k f).bind fun t190 => (if t190 = true then (if n ≤ b then (some true) else ((impl_SoldOutWeight.f k f n).bind fun t191 => (some (decide (t191 ≤ sumBy (soldOf b) f))))) else (some false))))) else (some false))) else (some false))) else (some false)))) (fun k => ?_) _ (Ev.bind k1 ?_)
      · simp only [laws_FnBakings.j3]
        rw [if_neg (by decide)]
      · simp only [if_true]
        refine Ev.bind k2 ?_
        simp only [if_true]
        refine Ev.bind k3 ?_
        simp only [if_true]
        refine Ev.bind k4 ?_
        simp only [Bool.false_eq_true, if_false]
        refine Ev.bind k5 ?_
        simp only [if_true]
        by_cases e : n ≤ b
        · simp only [if_pos e]
          exact Ev.now _
        · simp only [if_neg e]
          have k6 := soldI f n hfl
          rw [soldV_in f n ho (by omega)] at k6
          refine Ev.bind k6 ?_
          rw [decide_eq_true (sold_le b n (by omega) f hf1).1]
          exact Ev.now _
    have hloop : Ev (fun k => laws_FnBakings.l0 k f g d b n 0 0 0) true := by
      have h := ev_to (fun k (s : Int × Int) i => laws_FnBakings.l0 k f g d b n s.1 s.2 i) f.length (fun i s => s.1 = sumBy wOf (f.take i) ∧ s.2 = sumBy (gainOf n g d) (f.take i)) true (fun i s hi hp => by
          obtain ⟨x, y⟩ := s
          obtain ⟨p1, p2⟩ := hp
          simp only at p1 p2
          subst p1 p2
          have hm := fun x hx => hf.2 x (List.mem_of_mem_take (i := i) hx)
          have hx := hf.2 _ (List.getElem_mem hi)
          have gb := fun x (hx : (10 ≤ S54.f0 x ∧ x.f0 ≤ 69) ∧ (1 ≤ x.f1 ∧ x.f1 ≤ 9)) => gain_bd n g d x (by omega) (by omega) (by omega) (by omega)
          have bd1 := sumBy_bd wOf (f.take i) 1 9 (fun x hx => by have := hm x hx; unfold wOf; omega)
          have bd2 := sumBy_bd (gainOf n g d) (f.take i) (-10000000) 10000000 (fun x hx => (gb x (hm x hx)).2.2)
          have hlt : (f.take i).length ≤ 6 := by rw [List.length_take]; have := hf.1; omega
          have g1 := gb _ hx
          have er : rd_T54 f (i : Int) = f[i] := by
            unfold rd_T54
            rw [Int.toNat_natCast, List.getD_eq_getElem?_getD, List.getElem?_eq_getElem hi]
            rfl
          refine .inl ⟨(sumBy wOf (f.take (i + 1)), sumBy (gainOf n g d) (f.take (i + 1))), ⟨rfl, rfl⟩, fun r hr => ev_next (fun k => ?_) r hr⟩
          rw [sumBy_take _ f i hi, sumBy_take _ f i hi]
          simp only [laws_FnBakings.l0]
          rw [if_pos (by omega), if_pos (by omega), er, mn_eq]
          have ew : wOf f[i] = f[i].f1 := rfl
          rw [ew]
          unfold gainOf at g1 ⊢
          rw [w64 (x := g * min n f[i].f0) (by omega) (by omega), w64 (x := d * n) (by omega) (by omega), w64 (x := g * min n f[i].f0 - d * n) (by omega) (by omega)]
          unfold gainOf at bd2
          generalize f[i].f1 * (g * min n f[i].f0 - d * n) = u at *
          generalize sumBy (fun x => x.f1 * (g * min n x.f0 - d * n)) (f.take i) = v at *
          rw [w64 (x := u) (by omega) (by omega), w64 (x := v + u) (by omega) (by omega), w64 (x := (i : Int) + 1) (by omega) (by omega), w64 (x := _ + f[i].f1) (by omega) (by omega)]) (fun s hp => by
          obtain ⟨x, y⟩ := s
          obtain ⟨p1, p2⟩ := hp
          simp only at p1 p2
          rw [List.take_length] at p1 p2
          subst p1 p2
          have k1 := soldI f b hfl
          rw [soldV_in f b ho (by omega)] at k1
          refine ev_next (f := fun k => ((impl_SoldOutWeight.f k f b).bind fun t184 => (if t184 < 0 then (laws_FnBakings.j3 k f g d b n (sumBy (gainOf n g d) f) t184 true) else (if t184 > sumBy wOf f then (laws_FnBakings.j3 k f g d b n (sumBy (gainOf n g d) f) t184 true) else (if (wrap64 (g * t184)) > (wrap64 (d * sumBy wOf f)) then (laws_FnBakings.j3 k f g d b n (sumBy (gainOf n g d) f) t184 true) else (if b > 0 then ((impl_SoldOutWeight.f k f (wrap64 (b - 1))).bind fun t185 => (laws_FnBakings.j3 k f g d b n (sumBy (gainOf n g d) f) t184 (decide ((wrap64 (g * t185)) ≤ (wrap64 (d * sumBy wOf f)))))) else (laws_FnBakings.j3 k f g d b n (sumBy (gainOf n g d) f) t184 false))))))) (fun k => ?_) _ (Ev.bind k1 ?_)
          · simp only [laws_FnBakings.l0]
            rw [if_neg (by omega)]
          · have mb := mg b
            simp only [if_neg (show ¬ sumBy (soldOf b) f < 0 by omega), if_neg (show ¬ sumBy (soldOf b) f > sumBy wOf f by omega)]
            rw [w64 (x := g * sumBy (soldOf b) f) (by omega) (by omega), w64 (x := d * sumBy wOf f) (by omega) (by omega)]
            simp only [if_neg (show ¬ g * sumBy (soldOf b) f > d * sumBy wOf f by omega)]
            by_cases e : b > 0
            · simp only [if_pos e]
              rw [w64 (x := b - 1) (by omega) (by omega)]
              have k2 := soldI f (b - 1) hfl
              rw [soldV_in f (b - 1) ho (by omega)] at k2
              have mb2 := mg (b - 1)
              have h2 := s2 e
              refine Ev.bind k2 ?_
              rw [w64 (x := g * sumBy (soldOf (b - 1)) f) (by omega) (by omega), decide_eq_false (by omega)]
              exact last
            · simp only [if_neg e]
              exact last) 0 (0, 0) (Nat.zero_le _) ⟨rfl, rfl⟩
      exact h
    have hj1 : Ev (fun k => laws_FnBakings.j1 k f g d b n false) true := ev_next (fun k => by simp only [laws_FnBakings.j1]; rw [if_neg (by decide)]) _ hloop
    have k1 := gainI f b g d hfl
    have k2 := gainI f n g d hfl
    have k3 := betterI f n b g d hfl
    have e3 : betterV f n b g d = false := by
      unfold betterV
      rw [decide_eq_false (by omega), Bool.and_false]
    rw [e3] at k3
    have k5 := gainI f (b + 1) g d hfl
    refine ev_next (f := fun k => ((impl_GainFor.f k f b g d).bind fun t175 => ((impl_GainFor.f k f n g d).bind fun t176 => (if t176 > t175 then (laws_FnBakings.j1 k f g d b n true) else ((impl_IsBetter.f k f n b g d).bind fun t177 => (if t177 = true then (laws_FnBakings.j1 k f g d b n true) else (if b > 0 then ((impl_GainFor.f k f (wrap64 (b - 1)) g d).bind fun t178 => (if t178 ≥ t175 then (laws_FnBakings.j1 k f g d b n true) else ((impl_GainFor.f k f (wrap64 (b + 1)) g d).bind fun t179 => (laws_FnBakings.j1 k f g d b n (decide (t179 > t175)))))) else ((impl_GainFor.f k f (wrap64 (b + 1)) g d).bind fun t180 => (laws_FnBakings.j1 k f g d b n (decide (t180 > t175))))))))))) (fun k => ?_) _ (Ev.bind k1 (Ev.bind k2 ?_))
    · simp only [laws_FnBakings.j0, ha2, Option.bind_some]
      rw [if_neg (by decide)]
    · simp only [if_neg (show ¬ gainV f n g d > gainV f b g d by omega)]
      refine Ev.bind k3 ?_
      simp only [Bool.false_eq_true, if_false]
      rw [w64 (x := b + 1) (by omega) (by omega), w64 (x := b - 1) (by omega) (by omega)]
      by_cases e : b > 0
      · simp only [if_pos e]
        have h1 := gdown e
        refine Ev.bind (gainI f (b - 1) g d hfl) ?_
        simp only [if_neg (show ¬ gainV f (b - 1) g d ≥ gainV f b g d by omega)]
        refine Ev.bind k5 ?_
        rw [decide_eq_false (by omega)]
        exact hj1
      · simp only [if_neg e]
        refine Ev.bind k5 ?_
        rw [decide_eq_false (by omega)]
        exact hj1
end Go.Proofs.Ytkcfpkokgpimaaa.Pure
