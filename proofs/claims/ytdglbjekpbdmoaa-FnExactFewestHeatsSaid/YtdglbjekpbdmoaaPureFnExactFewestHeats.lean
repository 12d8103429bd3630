/- The program's FewestHeats and the reference's answer alike, for all arguments. No condition. -/
import Derived.Test.YtdglbjekpbdmoaaPFnExactFewestHeatsx5
import Derived.Test.YtdglbjekpbdmoaaBase
namespace Go.Proofs.Ytdglbjekpbdmoaa.Pure
open Go.RowKit Go.Proofs.Ytdglbjekpbdmoaa.PFnExactFewestHeats Go.Proofs.YtdglbjekpbdmoaaW.PrintWords Go.Proofs.YtdglbjekpbdmoaaW.PrintLast Go.Proofs.YtdglbjekpbdmoaaW.PrintMore Go.Proofs.Ytdglbjekpbdmoaa.Base
set_option linter.unusedVariables false
set_option linter.unusedSimpArgs false
theorem l01In_f (a b c : Int) : spec_l01In.f a b c = some (decide (b ≤ a ∧ a ≤ c)) := by
  unfold spec_l01In.f
  by_cases h : b ≤ a <;> simp [h]
/-- Two lists are told alike, element by element. -/
theorem eqIntS_f (a b : List Int) (hb : a.length ≤ 1000000000) : Ev (fun k => laws_eqIntS.f k a b) (decide (a = b)) := by
  unfold laws_eqIntS.f
  by_cases c : a.length = b.length
  · simp only [if_pos (show (a.length : Int) = (b.length : Int) by omega)]
    have h := ev_all (fun k i => laws_eqIntS.l0 k a b i) a.length (fun i => decide (rd a (i : Int) = rd b (i : Int))) false true (fun k i hi => by
      simp only [laws_eqIntS.l0]
      rw [if_pos (by omega), if_pos (by omega), if_pos (by omega), w64 (by omega) (by omega)]
      by_cases e : rd a (i : Int) = rd b (i : Int)
      · rw [if_pos e, if_pos (by simpa using e)]
      · rw [if_neg e, if_neg (by simpa using e)]) (fun k => by simp only [laws_eqIntS.l0]; rw [if_neg (by omega)])
    have e : (if (List.range a.length).all (fun i => decide (rd a (i : Int) = rd b (i : Int))) = true then true else false) = decide (a = b) := by
      by_cases e : a = b
      · subst e
        rw [if_pos (by simp)]
        simp
      · rw [if_neg]
        · simp [e]
        · intro hall
          refine e (List.ext_getElem c fun i h1 h2 => ?_)
          have := (List.all_eq_true.1 hall) i (List.mem_range.2 h1)
          rw [decide_eq_true_eq, rd_get _ _ h1, rd_get _ _ h2] at this
          exact this
    rw [e] at h
    exact h
  · simp only [if_neg (show ¬ (a.length : Int) = (b.length : Int) by omega)]
    refine ev_const ?_
    have : a ≠ b := fun e => c (by rw [e])
    simp [this]
/-- What is marked is held so. -/
theorem mark_held (a : List Int) (hb : a.length ≤ 1000000000) : ∃ m b, Ev (fun k => laws_markIntS.f k a 1) (m, b) ∧ Ev (fun k => laws_heldIntS.f k b 1) m ∧ 0 ≤ m := by
  have h1 := ev_up (fun k (s : List Int × Int) i => laws_markIntS.l0 k s.1 s.2 i) a.length (fun i s => s.1.length = a.length ∧ s.2 = 1 + (i : Int) ∧ ∀ j, j < i → s.1[j]? = some (1 + (j : Int)))
    (fun r => r.1 = 1 + (a.length : Int) ∧ r.2.length = a.length ∧ ∀ j, j < a.length → r.2[j]? = some (1 + (j : Int))) (fun i s hi hp => by
      obtain ⟨x, y⟩ := s
      obtain ⟨p1, p2, p3⟩ := hp
      simp only at p1 p2 p3
      subst p2
      refine .inl ⟨(x.set i (1 + (i : Int)), 1 + ((i + 1 : Nat) : Int)), ⟨by simp [p1], rfl, fun j hj => ?_⟩, fun r hr => ev_next (fun k => ?_) r hr⟩
      · by_cases c : j = i
        · subst c
          simp only
          rw [List.getElem?_set_self (by omega)]
        · simp only
          rw [List.getElem?_set_ne (Ne.symm c)]
          exact p3 j (by omega)
      · simp only [laws_markIntS.l0]
        rw [if_pos (by omega), if_pos (by omega), w64 (by omega) (by omega), w64 (by omega) (by omega), Int.toNat_natCast]
        congr 1 <;> omega) (fun s hp => by
      obtain ⟨x, y⟩ := s
      obtain ⟨p1, p2, p3⟩ := hp
      simp only at p1 p2 p3
      refine ⟨(y, x), ⟨p2, p1, p3⟩, ev_now fun k => ?_⟩
      simp only [laws_markIntS.l0]
      rw [if_neg (by omega)]) 0 (a, 1) (Nat.zero_le _) ⟨rfl, rfl, fun j hj => by omega⟩
  obtain ⟨⟨m, b⟩, ⟨q1, q2, q3⟩, h1⟩ := h1
  simp only at q1 q2 q3
  refine ⟨m, b, h1, ?_, by omega⟩
  have h2 := ev_to (fun k (s : Int) i => laws_heldIntS.l0 k b s i) b.length (fun i s => s = 1 + (i : Int)) m (fun i s hi hp => by
      subst hp
      refine .inl ⟨1 + ((i + 1 : Nat) : Int), rfl, fun r hr => ev_next (fun k => ?_) r hr⟩
      simp only [laws_heldIntS.l0]
      have e : rd b (i : Int) = 1 + (i : Int) := by
        rw [rd_eq, List.getD_eq_getElem?_getD, q3 i (by omega)]
        rfl
      rw [if_pos (by omega), if_pos (by omega), if_pos e, w64 (by omega) (by omega), w64 (by omega) (by omega)]
      congr 1 <;> omega) (fun s hp => by
      refine ev_now fun k => ?_
      simp only [laws_heldIntS.l0]
      rw [if_neg (by omega)]
      congr 1 <;> omega) 0 1 (Nat.zero_le _) rfl
  exact h2
def cvBread (x : S23) : S25 := ⟨x.f0, x.f1, x.f2⟩
theorem toBreadS_f (l : List S23) (hb : l.length ≤ 1048576) : Ev (fun k => laws_toBreadS.f k l) (l.map cvBread) := by
  unfold laws_toBreadS.f
  simp only [if_pos (show (0 : Int) ≤ (l.length : Int) by omega), Int.toNat_natCast, if_pos (show l.length ≤ 11728124029610 by omega)]
  refine ev_copy (fun k s i => laws_toBreadS.l0 k l s i) l z25 cvBread z23 (fun k s i hi hs => ?_) (fun k s => ?_)
  · simp only [laws_toBreadS.l0, laws_toBread.f, Option.bind_some]
    rw [if_pos (by omega), if_pos (by omega), if_pos (by omega), w64 (by omega) (by omega)]
    simp only [rd_T23, Int.toNat_natCast]
    rfl
  · simp only [laws_toBreadS.l0]
    rw [if_neg (by omega)]
theorem eqBreadS_f (l : List S25) (hb : l.length ≤ 1048576) : Ev (fun k => laws_eqBreadS.f k l l) true := by
  unfold laws_eqBreadS.f
  simp only [if_true]
  have h := ev_all (fun k i => laws_eqBreadS.l0 k l l i) l.length (fun _ => true) false true (fun k i hi => by
    simp only [laws_eqBreadS.l0, laws_eqBread.f]
    rw [if_pos (by omega), if_pos (by omega), if_pos (by omega), w64 (by omega) (by omega)]
    simp) (fun k => by simp only [laws_eqBreadS.l0]; rw [if_neg (by omega)])
  simpa using h
theorem szBreadS_f (l : List S23) (hb : l.length ≤ 17592186044416) : laws_szBreadS.f l 1048576 = some (if 1048576 < l.length then -1 else 1048576 - (l.length : Int)) := by
  unfold laws_szBreadS.f
  rw [w64 (by omega) (by omega)]
  by_cases c : 1048576 < l.length
  · rw [if_pos (by omega), if_pos c]
  · rw [if_neg (by omega), if_neg c]
def mb1 (x : List S25) (i s : Int) : List S25 := x.set (i : Int).toNat (⟨s, (rd_T25 x i).f1, (rd_T25 x i).f2⟩ : S25)
def mb2 (x : List S25) (i s : Int) : List S25 := x.set (i : Int).toNat (⟨(rd_T25 x i).f0, s, (rd_T25 x i).f2⟩ : S25)
def mb3 (x : List S25) (i s : Int) : List S25 := x.set (i : Int).toNat (⟨(rd_T25 x i).f0, (rd_T25 x i).f1, s⟩ : S25)
theorem markBread_any (a : List S25) (hb : a.length ≤ 1048576) : ∃ m b, Ev (fun k => laws_markBreadS.f k a 1) (m, b) ∧ m = 1 + 3 * (a.length : Int) := by
  have h1 := ev_up (fun k (s : List S25 × Int) i => laws_markBreadS.l0 k s.1 s.2 i) a.length (fun i x => x.1.length = a.length ∧ x.2 = 1 + 3 * (i : Int))
    (fun r => r.1 = 1 + 3 * (a.length : Int)) (fun i x hi hp => by
      obtain ⟨x, y⟩ := x
      obtain ⟨p1, p2⟩ := hp
      simp only at p1 p2
      subst p2
      refine .inl ⟨(mb3 (mb2 (mb1 x (i : Int) (1 + 3 * (i : Int))) (i : Int) (1 + 3 * (i : Int) + 1)) (i : Int) (1 + 3 * (i : Int) + 1 + 1), 1 + 3 * ((i + 1 : Nat) : Int)), ⟨?_, rfl⟩, fun r hr => ev_next (fun k => ?_) r hr⟩
      rotate_left
      · simp only [laws_markBreadS.l0, Option.bind_some]
        rw [if_pos (by omega), if_pos (by omega), w64 (x := 1 + 3 * (i : Int) + 1) (by omega) (by omega), w64 (x := 1 + 3 * (i : Int) + 1 + 1) (by omega) (by omega), w64 (x := 1 + 3 * (i : Int) + 1 + 1 + 1) (by omega) (by omega), w64 (x := (i : Int) + 1) (by omega) (by omega), show 1 + 3 * ((i + 1 : Nat) : Int) = 1 + 3 * (i : Int) + 1 + 1 + 1 by omega]
        rfl
      · simp [mb1, mb2, mb3, p1]) (fun x hp => by
      obtain ⟨x, y⟩ := x
      obtain ⟨p1, p2⟩ := hp
      simp only at p1 p2
      refine ⟨(y, x), p2, ev_now fun k => ?_⟩
      simp only [laws_markBreadS.l0]
      rw [if_neg (by omega)]) 0 (a, 1) (Nat.zero_le _) ⟨rfl, by simp⟩
  obtain ⟨⟨m, b⟩, q, h1⟩ := h1
  exact ⟨m, b, h1, q⟩
def breadsV (l : List S25) : Bool := decide ((l.length : Int) ≤ 10) && l.all bk_ok
theorem breadsI (l : List S25) : impl_breadsOk.f l = some (breadsV l) := rfl
theorem breadsV_mem {l : List S25} (h : breadsV l = true) : l.length ≤ 10 ∧ ∀ x ∈ l, (100 ≤ x.f0 ∧ x.f0 ≤ x.f1) ∧ x.f1 ≤ 350 ∧ (1 ≤ x.f2 ∧ x.f2 ≤ 200) := by
  unfold breadsV at h
  rw [Bool.and_eq_true, decide_eq_true_eq, List.all_eq_true] at h
  refine ⟨by omega, fun x hx => ?_⟩
  have := h.2 x hx
  unfold bk_ok at this
  rw [Bool.and_eq_true, Bool.and_eq_true, decide_eq_true_eq, decide_eq_true_eq, decide_eq_true_eq] at this
  exact this
theorem idx_f (n : Nat) (hn : n ≤ 1048576) : Ev (fun k => impl_indices.f k (n : Int)) (idxs n) := by
  unfold impl_indices.f
  have h := ev_build (fun k s i => impl_indices.l0 k s (n : Int) i) n (fun i => (i : Int)) (fun k s i hi hs => by
    simp only [impl_indices.l0]
    rw [if_pos (by omega), if_pos (by omega), w64 (by omega) (by omega)]) (fun k s => by
    simp only [impl_indices.l0]
    rw [if_neg (by omega)])
  exact h
abbrev bd (l : List S25) (i : Int) : S25 := rd_T25 l i
theorem bd_eq (l : List S25) (i : Int) : rd_T25 l i = bd l i := rfl
theorem bd_mem {l : List S25} {i : Int} (h0 : 0 ≤ i) (h1 : i < (l.length : Int)) : bd l i ∈ l := by
  unfold bd rd_T25
  rw [List.getD_eq_getElem?_getD, List.getElem?_eq_getElem (by omega)]
  exact List.getElem_mem _
theorem bd_all {l : List S25} (h : breadsV l = true) (i : Int) : -1 ≤ (bd l i).f1 ∧ (bd l i).f1 ≤ 350 := by
  unfold bd rd_T25
  rw [List.getD_eq_getElem?_getD]
  cases e : l[i.toNat]? with
  | none =>
    show -1 ≤ (z25).f1 ∧ (z25).f1 ≤ 350
    decide
  | some x =>
    have := (breadsV_mem h).2 x (List.mem_of_getElem? e)
    simp only [Option.getD_some]
    omega
def apL (l : List S25) : List Int := isort (fun a b => decide ((bd l a).f1 < (bd l b).f1)) (idxs l.length)
def apV (l : List S25) : List Int := if breadsV l = true then ((apL l).foldl (apStep l) ([], 0)).1 else []
theorem apartI (l : List S25) (hb : l.length ≤ 1048576) : Ev (fun k => impl_ApartBreads.f k l) (apV l) := by
  unfold impl_ApartBreads.f apV
  simp only [breadsI, Option.bind_some]
  by_cases c : breadsV l = true
  · simp only [if_pos c]
    refine Ev.bind (idx_f l.length hb) ?_
    have hl := (breadsV_mem c).1
    rw [if_pos ⟨rfl, by omega⟩]
    have e : apLt l = fun a b => decide ((bd l a).f1 < (bd l b).f1) := by
      funext a b
      have h1 := bd_all c a
      have h2 := bd_all c b
      unfold apLt
      unfold bd at *
      rw [w64 (by omega) (by omega), decide_eq_decide]
      omega
    rw [e]
    exact Ev.now _
  · simp only [if_neg c]
    exact Ev.now _
theorem idxs_pw (n : Nat) : (idxs n).Pairwise (· < ·) := by
  unfold idxs
  rw [List.pairwise_map]
  exact (List.pairwise_lt_range (n := n)).imp (fun h => by omega)
theorem apL_mem {l : List S25} {i : Int} : i ∈ apL l ↔ 0 ≤ i ∧ i < (l.length : Int) := (isort_perm _ _).mem_iff.trans mem_idxs
theorem apL_len (l : List S25) : (apL l).length = l.length := ((isort_perm _ _).length_eq).trans (idxs_length _)
theorem apL_pw (l : List S25) : (apL l).Pairwise (fun a b => (bd l a).f1 < (bd l b).f1 ∨ (bd l a).f1 = (bd l b).f1 ∧ a < b) := isort_pw (fun a => (bd l a).f1) (idxs l.length) (idxs_pw _)
theorem breadS (x : S25) : spec_BreadOk.f x.f0 x.f1 x.f2 = some (bk_ok x) := by
  unfold spec_BreadOk.f bk_ok
  simp only [l01In_f, Option.bind_some, decide_eq_true_eq]
  by_cases c1 : 100 ≤ x.f1 ∧ x.f1 ≤ 350
  · rw [if_pos c1]
    by_cases c2 : 100 ≤ x.f0 ∧ x.f0 ≤ x.f1
    · rw [if_pos c2, decide_eq_true c2, decide_eq_true c1.2, Bool.true_and, Bool.true_and]
    · rw [if_neg c2, decide_eq_false c2, Bool.false_and]
  · rw [if_neg c1]
    by_cases c2 : 100 ≤ x.f0 ∧ x.f0 ≤ x.f1
    · rw [decide_eq_false (show ¬ x.f1 ≤ 350 by omega), Bool.false_and, Bool.and_false]
    · rw [decide_eq_false c2, Bool.false_and]
theorem breadsS (l : List S25) (hb : l.length ≤ 1048576) : Ev (fun k => spec_l10Ok.f k l) (breadsV l) := by
  unfold spec_l10Ok.f
  have h := ev_all (fun k i => spec_l10Ok.l0 k l i) l.length (fun i => bk_ok (l.getD i z25)) false (decide ((l.length : Int) ≤ 10)) (fun k i hi => by
    simp only [spec_l10Ok.l0, breadS, Option.bind_some]
    rw [if_pos (by omega), if_pos (by omega), w64 (by omega) (by omega)]
    have er : rd_T25 l (i : Int) = l.getD i z25 := by unfold rd_T25; rw [Int.toNat_natCast]
    rw [er]) (fun k => by
    simp only [spec_l10Ok.l0]
    rw [if_neg (by omega)])
  rw [all_range] at h
  unfold breadsV
  cases hc : l.all bk_ok
  · rw [hc] at h
    simpa using h
  · rw [hc] at h
    simpa using h
def pick (x : Int → Int) (P : Int → Bool) (l : List Int) : Option (Int × Int) :=
  l.foldl (fun s k => if P k = true then (match s with | none => some (k, x k) | some (b, m) => if x k < m then some (k, x k) else some (b, m)) else s) none
theorem pick_snoc (x : Int → Int) (P : Int → Bool) (l : List Int) (k : Int) : pick x P (l ++ [k]) = if P k = true then (match pick x P l with | none => some (k, x k) | some (b, m) => if x k < m then some (k, x k) else some (b, m)) else pick x P l := by
  unfold pick
  rw [List.foldl_append]
  rfl
theorem pick_mem (x : Int → Int) (P : Int → Bool) : ∀ (n : Nat) (k m : Int), pick x P (idxs n) = some (k, m) → (0 ≤ k ∧ k < n) ∧ P k = true ∧ m = x k
  | 0, k, m, h => by simp [idxs, pick] at h
  | n + 1, k, m, h => by
    rw [idxs_succ, pick_snoc] at h
    by_cases c : P (n : Int) = true
    · rw [if_pos c] at h
      cases e : pick x P (idxs n) with
      | none =>
        rw [e] at h
        simp only [Option.some.injEq, Prod.mk.injEq] at h
        obtain ⟨rfl, rfl⟩ := h
        exact ⟨by omega, c, rfl⟩
      | some q =>
        obtain ⟨b, l⟩ := q
        rw [e] at h
        simp only at h
        by_cases d : x (n : Int) < l
        · rw [if_pos d] at h
          simp only [Option.some.injEq, Prod.mk.injEq] at h
          obtain ⟨rfl, rfl⟩ := h
          exact ⟨by omega, c, rfl⟩
        · rw [if_neg d] at h
          simp only [Option.some.injEq, Prod.mk.injEq] at h
          obtain ⟨rfl, rfl⟩ := h
          have := pick_mem x P n b l e
          exact ⟨by omega, this.2⟩
    · rw [if_neg c] at h
      have := pick_mem x P n k m h
      exact ⟨by omega, this.2⟩
theorem pick_some (x : Int → Int) (P : Int → Bool) : ∀ (n : Nat) (i : Int), 0 ≤ i → i < n → P i = true → ∃ k m, pick x P (idxs n) = some (k, m)
  | 0, i, h0, h1, _ => by omega
  | n + 1, i, h0, h1, hp => by
    rw [idxs_succ, pick_snoc]
    by_cases c : i = (n : Int)
    · subst c
      rw [if_pos hp]
      cases e : pick x P (idxs n) with
      | none => exact ⟨_, _, rfl⟩
      | some q =>
        obtain ⟨b, l⟩ := q
        simp only
        by_cases d : x (n : Int) < l
        · rw [if_pos d]
          exact ⟨_, _, rfl⟩
        · rw [if_neg d]
          exact ⟨_, _, rfl⟩
    · obtain ⟨k, m, e⟩ := pick_some x P n i h0 (by omega) hp
      rw [e]
      by_cases d : P (n : Int) = true
      · rw [if_pos d]
        simp only
        by_cases f : x (n : Int) < m
        · rw [if_pos f]
          exact ⟨_, _, rfl⟩
        · rw [if_neg f]
          exact ⟨_, _, rfl⟩
      · rw [if_neg d]
        exact ⟨_, _, rfl⟩
theorem pick_congr (x y : Int → Int) (P : Int → Bool) (n : Nat) (h : ∀ k, 0 ≤ k → k < (n : Int) → P k = true → x k = y k) : pick x P (idxs n) = pick y P (idxs n) := by
  induction n with
  | zero => rfl
  | succ n ih =>
    rw [idxs_succ, pick_snoc, pick_snoc, ih (fun k h0 h1 => h k h0 (by omega))]
    by_cases c : P (n : Int) = true
    · rw [if_pos c, if_pos c, h (n : Int) (by omega) (by omega) c]
    · rw [if_neg c, if_neg c]
theorem pick_least (x : Int → Int) (P : Int → Bool) : ∀ (n : Nat) (k m : Int), pick x P (idxs n) = some (k, m) → ∀ j, 0 ≤ j → j < (n : Int) → P j = true → m < x j ∨ (m = x j ∧ k ≤ j)
  | 0, k, m, h => by simp [idxs, pick] at h
  | n + 1, k, m, h => by
    intro j h0 h1 hp
    rw [idxs_succ, pick_snoc] at h
    by_cases c : P (n : Int) = true
    · rw [if_pos c] at h
      cases e : pick x P (idxs n) with
      | none =>
        rw [e] at h
        simp only [Option.some.injEq, Prod.mk.injEq] at h
        obtain ⟨rfl, rfl⟩ := h
        by_cases d : j = (n : Int)
        · subst d
          exact .inr ⟨rfl, Int.le_refl _⟩
        · obtain ⟨k', m', e'⟩ := pick_some x P n j h0 (by omega) hp
          rw [e] at e'
          cases e'
      | some q =>
        obtain ⟨b, l⟩ := q
        rw [e] at h
        simp only at h
        have hb := pick_mem x P n b l e
        by_cases d : x (n : Int) < l
        · rw [if_pos d] at h
          simp only [Option.some.injEq, Prod.mk.injEq] at h
          obtain ⟨rfl, rfl⟩ := h
          by_cases f : j = (n : Int)
          · subst f
            exact .inr ⟨rfl, Int.le_refl _⟩
          · have := pick_least x P n b l e j h0 (by omega) hp
            omega
        · rw [if_neg d] at h
          simp only [Option.some.injEq, Prod.mk.injEq] at h
          obtain ⟨rfl, rfl⟩ := h
          by_cases f : j = (n : Int)
          · subst f
            omega
          · exact pick_least x P n b l e j h0 (by omega) hp
    · rw [if_neg c] at h
      by_cases f : j = (n : Int)
      · subst f
        exact absurd hp c
      · exact pick_least x P n k m h j h0 (by omega) hp
theorem pick_none (x : Int → Int) (P : Int → Bool) (n : Nat) (h : ∀ j, 0 ≤ j → j < (n : Int) → P j = false) : pick x P (idxs n) = none := by
  induction n with
  | zero => rfl
  | succ n ih =>
    rw [idxs_succ, pick_snoc, if_neg (by rw [h (n : Int) (by omega) (by omega)]; decide)]
    exact ih (fun j h0 h1 => h j h0 (by omega))
/-- The one that is less than all others is picked. -/
theorem pick_only (x : Int → Int) (P : Int → Bool) (n : Nat) (i : Int) (h0 : 0 ≤ i) (h1 : i < (n : Int)) (hp : P i = true) (h : ∀ j, 0 ≤ j → j < (n : Int) → P j = true → j ≠ i → x i < x j ∨ (x i = x j ∧ i < j)) : pick x P (idxs n) = some (i, x i) := by
  obtain ⟨k, m, e⟩ := pick_some x P n i h0 h1 hp
  obtain ⟨⟨k0, k1⟩, kp, rfl⟩ := pick_mem x P n k m e
  have hl := pick_least x P n k _ e i h0 h1 hp
  by_cases c : k = i
  · subst c
    exact e
  · have := h k k0 k1 kp c
    omega
def pickI (o : Option (Int × Int)) : Int := match o with | none => -1 | some (k, _) => k
theorem best_loop (l : List S25) (hb : l.length ≤ 1048576) (out : List Int) (last : Int) (r : List Int)
    (hend : Ev (fun k => spec_ApartBreads.l1 k l out last (pickI (pick (fun k => (bd l k).f1) (fun k => decide ((bd l k).f0 > last)) (idxs l.length))) (l.length : Int)) r) :
    Ev (fun k => spec_ApartBreads.l0 k l out last) r := by
  have h := ev_to (fun k s i => spec_ApartBreads.l1 k l out last s i) l.length (fun i s => s = pickI (pick (fun k => (bd l k).f1) (fun k => decide ((bd l k).f0 > last)) (idxs i))) r (fun i s hi hs => by
    refine .inl ⟨_, rfl, fun r hr => ?_⟩
    rw [idxs_succ, pick_snoc] at hr
    have hi' : (i : Int) < (l.length : Int) := by omega
    cases e : pick (fun k => (bd l k).f1) (fun k => decide ((bd l k).f0 > last)) (idxs i) with
    | none =>
      rw [e] at hs hr
      subst hs
      refine ev_next (fun k => ?_) r hr
      simp only [spec_ApartBreads.l1]
      rw [if_pos hi', if_pos (by omega)]
      by_cases c : (bd l (i : Int)).f0 > last
      · rw [if_pos c, if_pos (by decide), if_pos (decide_eq_true c), w64 (x := (i : Int) + 1) (by omega) (by omega)]
        rfl
      · rw [if_neg c, if_neg (by simpa using c), w64 (x := (i : Int) + 1) (by omega) (by omega)]
    | some q =>
      obtain ⟨b, m⟩ := q
      obtain ⟨⟨b0, b1⟩, _, rfl⟩ := pick_mem _ _ i b m e
      rw [e] at hs hr
      have hs : s = b := hs
      subst hs
      refine ev_next (fun k => ?_) r hr
      simp only [spec_ApartBreads.l1]
      rw [if_pos hi', if_pos (by omega)]
      by_cases c : (bd l (i : Int)).f0 > last
      · rw [if_pos c, if_neg (by omega), if_pos b0, if_pos (by omega), if_pos (decide_eq_true c), w64 (x := (i : Int) + 1) (by omega) (by omega)]
        by_cases d : (bd l (i : Int)).f1 < (bd l s).f1
        · rw [if_pos d, if_pos d]
          rfl
        · rw [if_neg d, if_neg d]
          rfl
      · rw [if_neg c, if_neg (by simpa using c), w64 (x := (i : Int) + 1) (by omega) (by omega)]
        rfl) (fun s hs => by
    subst hs
    exact hend) 0 (-1) (Nat.zero_le _) rfl
  exact ev_next (fun k => by simp only [spec_ApartBreads.l0]; rfl) r h
theorem apart_walk (l : List S25) (hv : breadsV l = true) : ∀ (M : List Int) (out : List Int) (last : Int),
    M.Pairwise (fun a b => (bd l a).f1 < (bd l b).f1 ∨ (bd l a).f1 = (bd l b).f1 ∧ a < b) → (∀ i ∈ M, 0 ≤ i ∧ i < (l.length : Int)) → (∀ i ∈ M, last ≤ (bd l i).f1) →
    (∀ i, 0 ≤ i → i < (l.length : Int) → i ∉ M → (bd l i).f0 ≤ last) → out.length + M.length ≤ 100 → Ev (fun k => spec_ApartBreads.l0 k l out last) (M.foldl (apStep l) (out, last)).1
  | [], out, last, _, _, _, hf, _ => by
    have hl := (breadsV_mem hv).1
    refine best_loop l (by omega) out last _ ?_
    rw [pick_none _ _ _ (fun j h0 h1 => decide_eq_false (by have := hf j h0 h1 (by simp); omega))]
    refine ev_now fun k => ?_
    simp only [spec_ApartBreads.l1]
    rw [if_neg (by omega), if_pos (by decide)]
    rfl
  | i :: M, out, last, hp, hr, hg, hf, hlen => by
    have hl := (breadsV_mem hv).1
    rw [List.pairwise_cons] at hp
    have hi := hr i List.mem_cons_self
    have hgi := hg i List.mem_cons_self
    have hbi := (breadsV_mem hv).2 _ (bd_mem hi.1 hi.2)
    simp only [List.length_cons] at hlen
    rw [List.foldl_cons]
    by_cases c : (bd l i).f0 ≤ last
    · have e : apStep l (out, last) i = (out, last) := by
        unfold apStep
        rw [if_pos ⟨c, hgi⟩]
      rw [e]
      refine apart_walk l hv M out last hp.2 (fun j hj => hr j (List.mem_cons_of_mem _ hj)) (fun j hj => hg j (List.mem_cons_of_mem _ hj)) (fun j h0 h1 hj => ?_) (by omega)
      by_cases d : j = i
      · rw [d]
        exact c
      · exact hf j h0 h1 (by simp [d, hj])
    · have e : apStep l (out, last) i = (out ++ [i], (bd l i).f1) := by
        unfold apStep
        rw [if_neg (fun h => c h.1)]
      rw [e]
      have ih := apart_walk l hv M (out ++ [i]) (bd l i).f1 hp.2 (fun j hj => hr j (List.mem_cons_of_mem _ hj)) (fun j hj => by have := hp.1 j hj; omega) (fun j h0 h1 hj => by
        by_cases d : j = i
        · rw [d]
          omega
        · have := hf j h0 h1 (by simp [d, hj])
          omega) (by simp; omega)
      refine best_loop l (by omega) out last _ ?_
      rw [pick_only _ _ l.length i hi.1 hi.2 (decide_eq_true (by omega)) (fun j h0 h1 hj hne => by
        have hj' := of_decide_eq_true hj
        have hm : j ∈ M := by
          apply Classical.byContradiction
          intro hm
          have := hf j h0 h1 (by simp [hne, hm])
          omega
        exact hp.1 j hm)]
      refine ev_next (fun k => ?_) _ ih
      show spec_ApartBreads.l1 (k + 1) l out last i (l.length : Int) = _
      simp only [spec_ApartBreads.l1]
      rw [if_neg (by omega), if_neg (by omega), if_pos (by omega), if_pos hi.1, if_pos hi.2]
theorem apartS (l : List S25) (hb : l.length ≤ 1048576) : Ev (fun k => spec_ApartBreads.f k l) (apV l) := by
  unfold spec_ApartBreads.f apV
  simp only [Option.bind_some]
  refine Ev.bind (breadsS l hb) ?_
  by_cases c : breadsV l = true
  · simp only [if_pos c]
    have hl := (breadsV_mem c).1
    exact apart_walk l c (apL l) [] 0 (apL_pw l) (fun i hi => apL_mem.1 hi) (fun i hi => by
      have hi := apL_mem.1 hi
      have := (breadsV_mem c).2 _ (bd_mem hi.1 hi.2)
      omega) (fun i h0 h1 hi => absurd (apL_mem.2 ⟨h0, h1⟩) hi) (by rw [apL_len]; simp; omega)
  · simp only [if_neg c]
    exact Ev.now _
theorem apFold (l : List S25) : ∀ (M : List Int) (s : List Int × Int), (M.foldl (apStep l) s).1.length ≤ s.1.length + M.length ∧ ∀ x ∈ (M.foldl (apStep l) s).1, x ∈ s.1 ∨ x ∈ M := by
  intro M
  induction M with
  | nil => intro s; exact ⟨by simp, fun x hx => .inl hx⟩
  | cons i M ih =>
    intro s
    rw [List.foldl_cons]
    obtain ⟨h1, h2⟩ := ih (apStep l s i)
    have hs : (apStep l s i).1.length ≤ s.1.length + 1 ∧ ∀ x ∈ (apStep l s i).1, x ∈ s.1 ∨ x = i := by
      unfold apStep
      split
      · exact ⟨by omega, fun x hx => .inl hx⟩
      · refine ⟨by simp, fun x hx => ?_⟩
        rcases List.mem_append.1 hx with h | h
        · exact .inl h
        · exact .inr (List.mem_singleton.1 h)
    refine ⟨by rw [List.length_cons]; omega, fun x hx => ?_⟩
    rcases h2 x hx with h | h
    · rcases hs.2 x h with h | h
      · exact .inl h
      · exact .inr (by simp [h])
    · exact .inr (List.mem_cons_of_mem _ h)
theorem apV_in {l : List S25} : ∀ x ∈ apV l, 0 ≤ x ∧ x < (l.length : Int) := by
  intro x hx
  unfold apV at hx
  split at hx
  · rcases (apFold l (apL l) ([], 0)).2 x hx with h | h
    · simp at h
    · exact apL_mem.1 h
  · simp at hx
theorem apV_len10 (l : List S25) : (apV l).length ≤ 10 := by
  unfold apV
  split
  · rename_i h
    have := (apFold l (apL l) ([], 0)).1
    rw [apL_len] at this
    have hl := (breadsV_mem h).1
    simp at this
    omega
  · simp
def fewV (l : List S25) : List Int := (apV l).map fun i => (bd l i).f1
theorem fewI (l : List S25) (hb : l.length ≤ 1048576) : Ev (fun k => impl_FewestHeats.f k l) (fewV l) := by
  unfold impl_FewestHeats.f
  refine Ev.bind (apartI l hb) ?_
  have hl := apV_len10 l
  rw [if_pos (by
    unfold fhOk
    rw [Bool.and_eq_true, decide_eq_true_eq, List.all_eq_true]
    exact ⟨by omega, fun x hx => decide_eq_true (apV_in x hx)⟩)]
  exact Ev.now _
theorem fewS (l : List S25) (hb : l.length ≤ 1048576) : Ev (fun k => spec_FewestHeats.f k l) (fewV l) := by
  unfold spec_FewestHeats.f
  refine Ev.bind (apartS l hb) ?_
  have hl := apV_len10 l
  have hin := @apV_in l
  unfold fewV
  generalize apV l = a at hl hin ⊢
  have h := ev_build (fun k s i => spec_FewestHeats.l0 k l s a i) a.length (fun i => (bd l (a.getD i 0)).f1) (fun k s i hi hs => by
    have hx : a.getD i 0 ∈ a := by
      rw [List.getD_eq_getElem?_getD, List.getElem?_eq_getElem hi]
      exact List.getElem_mem hi
    have hr := hin _ hx
    simp only [spec_FewestHeats.l0]
    rw [if_pos (by omega), if_pos (by omega), rd_eq, if_pos hr.1, if_pos hr.2, if_pos (by omega), w64 (by omega) (by omega)]) (fun k s => by
    simp only [spec_FewestHeats.l0]
    rw [if_neg (by omega)])
  rw [map_range a 0 (fun x => (bd l x).f1)] at h
  exact h
theorem FnExactFewestHeats (l : List S23) (hm : l.length ≤ maxLen) (hb : l.length * 24 ≤ 140737488351232) (hw : ∀ x ∈ l, (Lit.int .i64 x.f0).wf = true ∧ (Lit.int .i64 x.f1).wf = true ∧ (Lit.int .i64 x.f2).wf = true) : ∃ k, laws_FnExactFewestHeats.f k l = some true := by
  refine Ev.rounds ?_
  unfold laws_FnExactFewestHeats.f
  simp only [szBreadS_f l (by omega), Option.bind_some]
  by_cases c : 1048576 < l.length
  · simp only [if_pos c]
    exact ev_const (by simp)
  · simp only [if_neg c, if_neg (show ¬ (1048576 - (l.length : Int) < 0) by omega)]
    have ht := toBreadS_f l (by omega)
    have hl : (l.map cvBread).length ≤ 1048576 := by rw [List.length_map]; omega
    have hI := fewI (l.map cvBread) hl
    have hlen : (fewV (l.map cvBread)).length ≤ 1000000000 := by
      have := apV_len10 (l.map cvBread)
      unfold fewV
      rw [List.length_map]
      omega
    obtain ⟨m, b, hm1, hh, h0⟩ := mark_held (fewV (l.map cvBread)) hlen
    obtain ⟨m', b', hm', e'⟩ := markBread_any (l.map cvBread) hl
    have he : Ev (fun k => laws_eqIntS.f k (fewV (l.map cvBread)) (fewV (l.map cvBread))) true := by
      have h := eqIntS_f (fewV (l.map cvBread)) (fewV (l.map cvBread)) hlen
      rwa [decide_eq_true rfl] at h
    refine Ev.bind ht (Ev.bind (fewS _ hl) (Ev.bind ht (Ev.bind hI (Ev.bind he ?_))))
    simp only [if_true]
    refine Ev.bind ht (Ev.bind (eqBreadS_f _ hl) ?_)
    simp only [if_true]
    refine Ev.bind hm' ?_
    simp only [if_neg (show ¬ m' < 0 by omega)]
    refine Ev.bind he ?_
    refine ev_next (fun k => rfl) _ ?_
    simp only [Bool.not_true, Bool.false_eq_true, if_false]
    refine Ev.bind hm1 (Ev.bind hh ?_)
    simp only [if_neg (show ¬ m < 0 by omega), if_true]
    refine Ev.bind ht (Ev.bind hI (Ev.bind he ?_))
    simp only [if_true]
    refine Ev.bind hh ?_
    simp only [if_neg (show ¬ m < 0 by omega), if_true]
    exact Ev.now _
end Go.Proofs.Ytdglbjekpbdmoaa.Pure
