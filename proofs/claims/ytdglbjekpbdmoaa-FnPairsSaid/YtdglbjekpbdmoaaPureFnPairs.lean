/- As few heats as there are breads of which no two can share: the law FnPairs answers true for every input. No condition. -/
import Derived.Test.YtdglbjekpbdmoaaPFnPairsx5
import Derived.Test.YtdglbjekpbdmoaaBase
namespace Go.Proofs.Ytdglbjekpbdmoaa.Pure
open Go.RowKit Go.Proofs.Ytdglbjekpbdmoaa.PFnPairs Go.Proofs.YtdglbjekpbdmoaaW.PrintWords Go.Proofs.YtdglbjekpbdmoaaW.PrintLast Go.Proofs.YtdglbjekpbdmoaaW.PrintMore Go.Proofs.Ytdglbjekpbdmoaa.Base
set_option linter.unusedVariables false
set_option linter.unusedSimpArgs false
theorem in_f (a b c : Int) : impl_in.f a b c = some (decide (b ≤ a ∧ a ≤ c)) := by
  unfold impl_in.f
  by_cases h : b ≤ a <;> simp [h]
theorem and_bd (x : Int) (m : Nat) (hm : m ≤ 4294967295) : 0 ≤ Go.bits .and .i64 x (m : Int) ∧ Go.bits .and .i64 x (m : Int) ≤ m := by
  have h : ((BitVec.ofInt 64 x) &&& (BitVec.ofInt 64 (m : Int))).toNat ≤ m := by
    rw [BitVec.toNat_and]
    refine Nat.le_trans Nat.and_le_right ?_
    rw [BitVec.ofInt_natCast, BitVec.toNat_ofNat]
    exact Nat.mod_le _ _
  have e : Go.bits .and .i64 x (m : Int) = IntKind.i64.wrap (((BitVec.ofInt 64 x) &&& (BitVec.ofInt 64 (m : Int))).toNat : Int) := rfl
  rw [e]
  generalize ((BitVec.ofInt 64 x) &&& (BitVec.ofInt 64 (m : Int))).toNat = q at h ⊢
  rw [IntKind.wrap_i64]
  omega
theorem byte_f (b : List Int) (i h : Int) (hb : b.length ≤ 140737488351232) (hi : 0 ≤ i) : ∃ x i' h', spec_l01Byte.f b i h = some (x, i', h') ∧ 0 ≤ x ∧ x ≤ 255 ∧ 0 ≤ i' := by
  unfold spec_l01Byte.f
  by_cases c : i < (b.length : Int)
  · rw [if_pos c, if_pos hi]
    refine ⟨_, _, _, rfl, (and_bd _ 255 (by omega)).1, (and_bd _ 255 (by omega)).2, ?_⟩
    rw [w64 (by omega) (by omega)]
    omega
  · rw [if_neg c]
    exact ⟨_, _, _, rfl, (and_bd _ 255 (by omega)).1, (and_bd _ 255 (by omega)).2, hi⟩
theorem below_f (b : List Int) (i h n : Int) (hb : b.length ≤ 140737488351232) (hi : 0 ≤ i) (h1 : 1 ≤ n) (h2 : n ≤ 256) : ∃ x i' h', spec_l01Below.f b i h n = some (x, i', h') ∧ 0 ≤ x ∧ x < n ∧ 0 ≤ i' := by
  obtain ⟨x, i', h', e, x0, x1, i0⟩ := byte_f b i h hb hi
  unfold spec_l01Below.f
  rw [if_neg (by omega), if_pos (by omega), e]
  simp only [Option.bind_some]
  rw [if_neg (by omega), tmod_pos x0]
  exact ⟨_, _, _, rfl, Int.emod_nonneg _ (by omega), Int.emod_lt_of_pos _ (by omega), i0⟩
theorem new_f (l : List Int) (hb : l.length ≤ 140737488351232) : ∃ h, Ev (fun k => spec_l01New.f k l) (l, 0, h) := by
  unfold spec_l01New.f
  have h := ev_up (fun k s i => spec_l01New.l0 k l s i) l.length (fun _ _ => True) (fun r => ∃ h, r = (l, 0, h)) (fun i s hi _ => by
      by_cases c : i < 4000
      · refine .inl ⟨Go.bits .and .i64 (wrap64 ((wrap64 ((wrap64 (s * 131)) + (wrap64 (rd l (i : Int))))) + 7)) 1073741823, trivial, fun r hr => ev_next (fun k => ?_) r hr⟩
        simp only [spec_l01New.l0]
        rw [if_pos (by omega), if_pos (by omega), if_pos (by omega), w64 (x := (i : Int) + 1) (by omega) (by omega)]
      · refine .inr ⟨_, ⟨s, rfl⟩, ev_now fun k => ?_⟩
        · simp only [spec_l01New.l0]
          rw [if_pos (by omega), if_neg (by omega)]) (fun s _ => ⟨_, ⟨s, rfl⟩, ev_now fun k => by
      simp only [spec_l01New.l0]
      rw [if_neg (by omega)]⟩) 0 (wrap64 (33101 + (l.length : Int))) (Nat.zero_le _) trivial
  obtain ⟨r, ⟨h, rfl⟩, e⟩ := h
  exact ⟨h, e⟩
theorem bread_f (b : List Int) (i h : Int) (hb : b.length ≤ 140737488351232) (hi : 0 ≤ i) : ∃ x y z i' h', spec_l10Bread.f b i h = some (x, y, z, i', h') ∧ (160 ≤ x ∧ x ≤ y ∧ y ≤ 300 ∧ 10 ≤ z ∧ z ≤ 59) ∧ 0 ≤ i' := by
  unfold spec_l10Bread.f
  obtain ⟨x, i1, h1, e1, x0, x1, p1⟩ := below_f b i h 20 hb hi (by omega) (by omega)
  obtain ⟨y, i2, h2, e2, y0, y1, p2⟩ := below_f b i1 h1 50 hb p1 (by omega) (by omega)
  obtain ⟨z, i3, h3, e3, z0, z1, p3⟩ := below_f b i2 h2 9 hb p2 (by omega) (by omega)
  have w1 : wrap64 (160 + wrap64 (5 * x)) = 160 + 5 * x := by unfold wrap64; omega
  have w2 : wrap64 ((160 + 5 * x) + wrap64 (5 * z)) = 160 + 5 * x + 5 * z := by unfold wrap64; omega
  have w3 : wrap64 (10 + y) = 10 + y := by unfold wrap64; omega
  simp only [e1, e2, e3, Option.bind_some, w1, w2, w3]
  clear w1 w2 w3
  exact ⟨_, _, _, _, _, rfl, by omega, p3⟩
theorem drawBreads_f (l : List Int) (hb : l.length ≤ 140737488351232) : ∃ d : List S25, Ev (fun k => spec_DrawBreads.f k l) d ∧ d.length ≤ 6 ∧ ∀ x ∈ d, 160 ≤ x.f0 ∧ x.f0 ≤ x.f1 ∧ x.f1 ≤ 300 ∧ 10 ≤ x.f2 ∧ x.f2 ≤ 59 := by
  unfold spec_DrawBreads.f
  obtain ⟨h, hn⟩ := new_f l hb
  obtain ⟨m, i1, h1, e, m0, m1, i10⟩ := below_f l 0 h 7 hb (by omega) (by omega) (by omega)
  obtain ⟨M, rfl⟩ := Int.eq_ofNat_of_zero_le m0
  have hloop := ev_up (fun k (s : List S25 × Int × Int) i => spec_l10List.l0 k s.1 (M : Int) i l s.2.1 s.2.2) M (fun i s => s.1.length = i ∧ (∀ x ∈ s.1, 160 ≤ x.f0 ∧ x.f0 ≤ x.f1 ∧ x.f1 ≤ 300 ∧ 10 ≤ x.f2 ∧ x.f2 ≤ 59) ∧ 0 ≤ s.2.1) (fun r => r.1.length ≤ 6 ∧ ∀ x ∈ r.1, 160 ≤ x.f0 ∧ x.f0 ≤ x.f1 ∧ x.f1 ≤ 300 ∧ 10 ≤ x.f2 ∧ x.f2 ≤ 59) (fun i s hi hs => by
      obtain ⟨a, p, q⟩ := s
      obtain ⟨s1, s2, s3⟩ := hs
      simp only at s1 s2 s3
      obtain ⟨x, y, z, p', q', e2, hx, hp⟩ := bread_f l p q hb s3
      refine .inl ⟨(a ++ [⟨x, y, z⟩], p', q'), ⟨by simp [s1], fun y hy => ?_, hp⟩, fun r hr => ev_next (fun k => ?_) r hr⟩
      · rcases List.mem_append.1 hy with hy | hy
        · exact s2 y hy
        · rw [List.mem_singleton.1 hy]
          exact hx
      · simp only [spec_l10List.l0]
        rw [if_pos (by omega), e2]
        simp only [Option.bind_some]
        rw [if_pos (by omega), w64 (x := (i : Int) + 1) (by omega) (by omega)]) (fun s hs => ⟨_, ⟨by have := hs.1; omega, hs.2.1⟩, ev_now fun k => by
      simp only [spec_l10List.l0]
      rw [if_neg (by omega)]⟩) 0 ([], i1, h1) (Nat.zero_le _) ⟨rfl, by simp, i10⟩
  obtain ⟨r, ⟨r1, r2⟩, hr⟩ := hloop
  have h2 : Ev (fun k => spec_l10List.f k l 0 h) r := by
    unfold spec_l10List.f
    rw [e]
    simp only [Option.bind_some]
    exact hr
  exact ⟨r.1, Ev.bind hn (Ev.bind h2 (Ev.now _)), r1, r2⟩
def breadsV (l : List S25) : Bool := decide ((l.length : Int) ≤ 10) && l.all bk_ok
theorem breadsI (l : List S25) : impl_breadsOk.f l = some (breadsV l) := rfl
theorem breadsV_mem {l : List S25} (h : breadsV l = true) : l.length ≤ 10 ∧ ∀ x ∈ l, (100 ≤ x.f0 ∧ x.f0 ≤ x.f1) ∧ x.f1 ≤ 350 ∧ (1 ≤ x.f2 ∧ x.f2 ≤ 200) := by
  unfold breadsV at h
  rw [Bool.and_eq_true, decide_eq_true_eq, List.all_eq_true] at h
  refine ⟨by omega, fun x hx => ?_⟩
  have := h.2 x hx
  unfold bk_ok at this
  rw [Bool.and_eq_true, Bool.and_eq_true, decide_eq_true_eq, decide_eq_true_eq, decide_eq_true_eq] at this
  exact this
theorem idx_f (n : Nat) (hn : n ≤ 1048576) : Ev (fun k => impl_indices.f k (n : Int)) (idxs n) := by
  unfold impl_indices.f
  have h := ev_build (fun k s i => impl_indices.l0 k s (n : Int) i) n (fun i => (i : Int)) (fun k s i hi hs => by
    simp only [impl_indices.l0]
    rw [if_pos (by omega), if_pos (by omega), w64 (by omega) (by omega)]) (fun k s => by
    simp only [impl_indices.l0]
    rw [if_neg (by omega)])
  exact h
abbrev bd (l : List S25) (i : Int) : S25 := rd_T25 l i
theorem bd_eq (l : List S25) (i : Int) : rd_T25 l i = bd l i := rfl
theorem bd_mem {l : List S25} {i : Int} (h0 : 0 ≤ i) (h1 : i < (l.length : Int)) : bd l i ∈ l := by
  unfold bd rd_T25
  rw [List.getD_eq_getElem?_getD, List.getElem?_eq_getElem (by omega)]
  exact List.getElem_mem _
theorem bd_all {l : List S25} (h : breadsV l = true) (i : Int) : -1 ≤ (bd l i).f1 ∧ (bd l i).f1 ≤ 350 := by
  unfold bd rd_T25
  rw [List.getD_eq_getElem?_getD]
  cases e : l[i.toNat]? with
  | none =>
    show -1 ≤ (z25).f1 ∧ (z25).f1 ≤ 350
    decide
  | some x =>
    have := (breadsV_mem h).2 x (List.mem_of_getElem? e)
    simp only [Option.getD_some]
    omega
def apL (l : List S25) : List Int := isort (fun a b => decide ((bd l a).f1 < (bd l b).f1)) (idxs l.length)
def apV (l : List S25) : List Int := if breadsV l = true then ((apL l).foldl (apStep l) ([], 0)).1 else []
theorem apartI (l : List S25) (hb : l.length ≤ 1048576) : Ev (fun k => impl_ApartBreads.f k l) (apV l) := by
  unfold impl_ApartBreads.f apV
  simp only [breadsI, Option.bind_some]
  by_cases c : breadsV l = true
  · simp only [if_pos c]
    refine Ev.bind (idx_f l.length hb) ?_
    have hl := (breadsV_mem c).1
    rw [if_pos ⟨rfl, by omega⟩]
    have e : apLt l = fun a b => decide ((bd l a).f1 < (bd l b).f1) := by
      funext a b
      have h1 := bd_all c a
      have h2 := bd_all c b
      unfold apLt
      unfold bd at *
      rw [w64 (by omega) (by omega), decide_eq_decide]
      omega
    rw [e]
    exact Ev.now _
  · simp only [if_neg c]
    exact Ev.now _
theorem idxs_pw (n : Nat) : (idxs n).Pairwise (· < ·) := by
  unfold idxs
  rw [List.pairwise_map]
  exact (List.pairwise_lt_range (n := n)).imp (fun h => by omega)
theorem apL_mem {l : List S25} {i : Int} : i ∈ apL l ↔ 0 ≤ i ∧ i < (l.length : Int) := (isort_perm _ _).mem_iff.trans mem_idxs
theorem apL_len (l : List S25) : (apL l).length = l.length := ((isort_perm _ _).length_eq).trans (idxs_length _)
theorem apL_pw (l : List S25) : (apL l).Pairwise (fun a b => (bd l a).f1 < (bd l b).f1 ∨ (bd l a).f1 = (bd l b).f1 ∧ a < b) := isort_pw (fun a => (bd l a).f1) (idxs l.length) (idxs_pw _)
theorem apFold (l : List S25) : ∀ (M : List Int) (s : List Int × Int), (M.foldl (apStep l) s).1.length ≤ s.1.length + M.length ∧ ∀ x ∈ (M.foldl (apStep l) s).1, x ∈ s.1 ∨ x ∈ M := by
  intro M
  induction M with
  | nil => intro s; exact ⟨by simp, fun x hx => .inl hx⟩
  | cons i M ih =>
    intro s
    rw [List.foldl_cons]
    obtain ⟨h1, h2⟩ := ih (apStep l s i)
    have hs : (apStep l s i).1.length ≤ s.1.length + 1 ∧ ∀ x ∈ (apStep l s i).1, x ∈ s.1 ∨ x = i := by
      unfold apStep
      split
      · exact ⟨by omega, fun x hx => .inl hx⟩
      · refine ⟨by simp, fun x hx => ?_⟩
        rcases List.mem_append.1 hx with h | h
        · exact .inl h
        · exact .inr (List.mem_singleton.1 h)
    refine ⟨by rw [List.length_cons]; omega, fun x hx => ?_⟩
    rcases h2 x hx with h | h
    · rcases hs.2 x h with h | h
      · exact .inl h
      · exact .inr (by simp [h])
    · exact .inr (List.mem_cons_of_mem _ h)
theorem apV_in {l : List S25} : ∀ x ∈ apV l, 0 ≤ x ∧ x < (l.length : Int) := by
  intro x hx
  unfold apV at hx
  split at hx
  · rcases (apFold l (apL l) ([], 0)).2 x hx with h | h
    · simp at h
    · exact apL_mem.1 h
  · simp at hx
theorem apV_len10 (l : List S25) : (apV l).length ≤ 10 := by
  unfold apV
  split
  · rename_i h
    have := (apFold l (apL l) ([], 0)).1
    rw [apL_len] at this
    have hl := (breadsV_mem h).1
    simp at this
    omega
  · simp
def fewV (l : List S25) : List Int := (apV l).map fun i => (bd l i).f1
theorem fewI (l : List S25) (hb : l.length ≤ 1048576) : Ev (fun k => impl_FewestHeats.f k l) (fewV l) := by
  unfold impl_FewestHeats.f
  refine Ev.bind (apartI l hb) ?_
  have hl := apV_len10 l
  rw [if_pos (by
    unfold fhOk
    rw [Bool.and_eq_true, decide_eq_true_eq, List.all_eq_true]
    exact ⟨by omega, fun x hx => decide_eq_true (apV_in x hx)⟩)]
  exact Ev.now _
def heatF (l : List S25) (s : Int × Int) : Int × Int := l.foldl (fun s x => (max s.1 x.f0, min s.2 x.f1)) s
def heatE (s : Int × Int) : Int × Int × Bool := if s.1 > s.2 then (0, 0, false) else (s.1, s.2, true)
def heatV (l : List S25) : Int × Int × Bool := if breadsV l = true ∧ l ≠ [] then heatE (heatF l (100, 350)) else (0, 0, false)
theorem heatI (l : List S25) (hb : l.length ≤ 1048576) : Ev (fun k => impl_CommonHeat.f k l) (heatV l) := by
  unfold impl_CommonHeat.f heatV
  by_cases c0 : l = []
  · subst c0
    rw [if_neg (fun h => h.2 rfl)]
    simp only [List.length_nil, Int.natCast_zero, if_true]
    exact ev_now fun k => by simp [impl_CommonHeat.j0]
  · have hpos : 0 < l.length := List.length_pos_iff.2 c0
    simp only [if_neg (show ¬ (l.length : Int) = 0 by omega), breadsI, Option.bind_some]
    by_cases c1 : breadsV l = true
    · rw [if_pos ⟨c1, c0⟩, c1]
      obtain ⟨x, t, rfl⟩ : ∃ x t, l = x :: t := ⟨l.head c0, l.tail, (List.cons_head_tail c0).symm⟩
      have hx := (breadsV_mem c1).2 x List.mem_cons_self
      have e : heatF (x :: t) (100, 350) = heatF (x :: t) (x.f0, x.f1) := by
        unfold heatF
        rw [List.foldl_cons, List.foldl_cons]
        congr 1
        simp only [Prod.mk.injEq]
        omega
      rw [e]
      generalize hl : x :: t = l at *
      refine ev_next (f := fun k => impl_CommonHeat.l0 k x.f0 x.f1 l (l.length : Int) 0) (fun k => ?_) _ ?_
      · simp only [impl_CommonHeat.j0, Bool.not_true]
        rw [if_neg (by decide), if_pos (by omega)]
        rw [← hl]
        rfl
      · have h := ev_fold (fun k (s : Int × Int) i => impl_CommonHeat.l0 k s.1 s.2 l (l.length : Int) i) l.length (fun s i => (max s.1 (l.getD i z25).f0, min s.2 (l.getD i z25).f1)) heatE (fun k s i hi => by
            simp only [impl_CommonHeat.l0]
            rw [if_pos (by omega), if_pos (by omega), if_pos (by omega), w64 (x := (i : Int) + 1) (by omega) (by omega), mx_eq, mn_eq]
            simp only [rd_T25, Int.toNat_natCast]) (fun k s => by
            simp only [impl_CommonHeat.l0]
            rw [if_neg (by omega)]
            unfold heatE
            split <;> rfl) (x.f0, x.f1)
        have e2 := fold_range l z25 (fun (s : Int × Int) x => (max s.1 x.f0, min s.2 x.f1)) (x.f0, x.f1)
        rw [e2] at h
        exact h
    · rw [if_neg (fun h => c1 h.1), Bool.eq_false_iff.2 c1]
      exact ev_now fun k => by simp [impl_CommonHeat.j0]
def longI (l : List S25) (h : Int) : Int × Int := l.foldl (fun s x => if x.f0 ≤ h ∧ h ≤ x.f1 then (wrap64 (s.1 + x.f2), mx s.2 x.f2) else s) (0, 0)
def longB (l : List S25) : Nat → Int → Int
  | 0, b => b
  | d + 1, b => longB l d (mx b (wrap64 ((longI l (350 - d)).1 - (longI l (350 - d)).2)))
theorem long_loop (F0 : Nat → Int → Int → Option Int) (F1 : Nat → Int → Int → Int → Int → Int → Option Int) (l : List S25) (hl : l.length ≤ 1048576)
    (h0 : ∀ k b h, h ≤ 350 → F0 (k + 1) b h = F1 k b h 0 0 0) (h0e : ∀ k b, F0 (k + 1) b 351 = some b)
    (h1 : ∀ k b h s t (i : Nat), i < l.length → F1 (k + 1) b h s t (i : Int) = if (l.getD i z25).f0 ≤ h ∧ h ≤ (l.getD i z25).f1 then F1 k b h (wrap64 (s + (l.getD i z25).f2)) (mx t (l.getD i z25).f2) ((i : Int) + 1) else F1 k b h s t ((i : Int) + 1))
    (h1e : ∀ k b h s t, 100 ≤ h → h ≤ 350 → F1 (k + 1) b h s t (l.length : Int) = F0 k (mx b (wrap64 (s - t))) (h + 1)) (d : Nat) (hd : d ≤ 251) (b : Int) : Ev (fun k => F0 k b (351 - (d : Int))) (longB l d b) := by
  induction d generalizing b with
  | zero => exact ev_now fun k => h0e k b
  | succ d ih =>
    have e : (351 : Int) - ((d + 1 : Nat) : Int) = 350 - (d : Int) := by omega
    rw [e]
    refine ev_next (fun k => h0 k b _ (by omega)) _ ?_
    have h := ev_to (fun k (s : Int × Int) i => F1 k b (350 - (d : Int)) s.1 s.2 i) l.length (fun i s => s = (List.range i).foldl (fun s i => if (l.getD i z25).f0 ≤ 350 - (d : Int) ∧ 350 - (d : Int) ≤ (l.getD i z25).f1 then (wrap64 (s.1 + (l.getD i z25).f2), mx s.2 (l.getD i z25).f2) else s) (0, 0)) (longB l (d + 1) b) (fun i s hi hp => by
        refine .inl ⟨_, rfl, fun r hr => ev_next (fun k => ?_) r hr⟩
        rw [List.range_succ, List.foldl_append, List.foldl_cons, List.foldl_nil, ← hp, h1 k b _ _ _ i hi]
        split <;> rfl) (fun s hp => by
        have e2 := fold_range l z25 (fun (s : Int × Int) x => if x.f0 ≤ 350 - (d : Int) ∧ 350 - (d : Int) ≤ x.f1 then (wrap64 (s.1 + x.f2), mx s.2 x.f2) else s) (0, 0)
        rw [e2] at hp
        have hp : s = longI l (350 - (d : Int)) := hp
        subst hp
        refine ev_next (fun k => h1e k b _ _ _ (by omega) (by omega)) _ ?_
        rw [show (350 : Int) - (d : Int) + 1 = 351 - (d : Int) by omega]
        exact ih (by omega) _) 0 (0, 0) (Nat.zero_le _) rfl
    exact h
def longV (l : List S25) : Int := if breadsV l = true then longB l 251 0 else -1
theorem longestI (l : List S25) (hb : l.length ≤ 1048576) : Ev (fun k => impl_LongestShared.f k l) (longV l) := by
  unfold impl_LongestShared.f longV
  simp only [breadsI, Option.bind_some]
  by_cases c1 : breadsV l = true
  · simp only [if_pos c1]
    exact long_loop (fun k b h => impl_LongestShared.l0 k l b h) (fun k b h s t i => impl_LongestShared.l1 k l b h s t l (l.length : Int) i) l hb (fun k b h hh => by
      simp only [impl_LongestShared.l0]
      rw [if_pos hh]) (fun k b => by
      simp only [impl_LongestShared.l0]
      rw [if_neg (by omega)]) (fun k b h s t i hi => by
      simp only [impl_LongestShared.l1, in_f, Option.bind_some, decide_eq_true_eq]
      rw [if_pos (by omega), if_pos (by omega), if_pos (by omega), w64 (x := (i : Int) + 1) (by omega) (by omega)]
      have er : rd_T25 l (i : Int) = l.getD i z25 := by unfold rd_T25; rw [Int.toNat_natCast]
      rw [er]) (fun k b h s t h1 h2 => by
      simp only [impl_LongestShared.l1]
      rw [if_neg (by omega), w64 (x := h + 1) (by omega) (by omega)]) 251 (by omega) 0
  · simp only [if_neg c1]
    exact Ev.now _
structure ApInv (l : List S25) (P out : List Int) (last : Int) : Prop where
  le : ∀ a ∈ out, (bd l a).f1 ≤ last
  at_ : last = 0 ∨ ∃ a ∈ out, (bd l a).f1 = last
  pw : out.Pairwise (fun a b => (bd l a).f1 < (bd l b).f0)
  bake : ∀ p ∈ P, ∃ q ∈ out, (bd l p).f0 ≤ (bd l q).f1 ∧ (bd l q).f1 ≤ (bd l p).f1
theorem ap_inv (l : List S25) (hv : breadsV l = true) : ∀ (M : List Int) (P : List Int) (s : List Int × Int),
    M.Pairwise (fun a b => (bd l a).f1 < (bd l b).f1 ∨ (bd l a).f1 = (bd l b).f1 ∧ a < b) → (∀ i ∈ M, 0 ≤ i ∧ i < (l.length : Int)) → (∀ i ∈ M, s.2 ≤ (bd l i).f1) →
    ApInv l P s.1 s.2 → ApInv l (P ++ M) (M.foldl (apStep l) s).1 (M.foldl (apStep l) s).2
  | [], P, s, _, _, _, h => by
    rw [List.append_nil]
    exact h
  | i :: M, P, s, hp, hr, hg, h => by
    rw [List.pairwise_cons] at hp
    have hi := hr i List.mem_cons_self
    have hgi := hg i List.mem_cons_self
    have hbi := (breadsV_mem hv).2 _ (bd_mem hi.1 hi.2)
    rw [List.foldl_cons, show P ++ i :: M = (P ++ [i]) ++ M by simp]
    by_cases c : (bd l i).f0 ≤ s.2
    · have e : apStep l s i = s := by
        unfold apStep
        rw [if_pos ⟨c, hgi⟩]
      rw [e]
      refine ap_inv l hv M (P ++ [i]) s hp.2 (fun j hj => hr j (List.mem_cons_of_mem _ hj)) (fun j hj => hg j (List.mem_cons_of_mem _ hj)) ⟨h.le, h.at_, h.pw, fun p hp => ?_⟩
      rcases List.mem_append.1 hp with hp | hp
      · exact h.bake p hp
      · rw [List.mem_singleton.1 hp]
        rcases h.at_ with h0 | ⟨a, ha, ea⟩
        · omega
        · exact ⟨a, ha, by omega, by omega⟩
    · have e : apStep l s i = (s.1 ++ [i], (bd l i).f1) := by
        unfold apStep
        rw [if_neg (fun h => c h.1)]
      rw [e]
      refine ap_inv l hv M (P ++ [i]) _ hp.2 (fun j hj => hr j (List.mem_cons_of_mem _ hj)) (fun j hj => by have := hp.1 j hj; simp only; omega) ⟨fun a ha => ?_, .inr ⟨i, by simp, rfl⟩, ?_, fun p hp => ?_⟩
      · rcases List.mem_append.1 ha with ha | ha
        · have := h.le a ha
          simp only
          omega
        · rw [List.mem_singleton.1 ha]
          exact Int.le_refl _
      · rw [List.pairwise_append]
        refine ⟨h.pw, by simp, fun a ha b hb => ?_⟩
        rw [List.mem_singleton.1 hb]
        have := h.le a ha
        omega
      · rcases List.mem_append.1 hp with hp | hp
        · obtain ⟨q, hq, h1⟩ := h.bake p hp
          exact ⟨q, List.mem_append_left _ hq, h1⟩
        · rw [List.mem_singleton.1 hp]
          exact ⟨i, by simp, hbi.1.2, Int.le_refl _⟩
theorem apV_inv {l : List S25} (hv : breadsV l = true) : (apV l).Pairwise (fun a b => (bd l a).f1 < (bd l b).f0) ∧ ∀ p : Int, 0 ≤ p → p < (l.length : Int) → ∃ q ∈ apV l, (bd l p).f0 ≤ (bd l q).f1 ∧ (bd l q).f1 ≤ (bd l p).f1 := by
  have h := ap_inv l hv (apL l) [] ([], 0) (apL_pw l) (fun i hi => apL_mem.1 hi) (fun i hi => by
      have hi := apL_mem.1 hi
      have := (breadsV_mem hv).2 _ (bd_mem hi.1 hi.2)
      simp only
      omega) ⟨by simp, .inl rfl, List.Pairwise.nil, by simp⟩
  unfold apV
  rw [if_pos hv]
  exact ⟨h.pw, fun p h0 h1 => h.bake p (by simpa using apL_mem.2 ⟨h0, h1⟩)⟩
/-! the longest shared time -/
def allT (m : List S25) (s : Int × Int) : Int × Int := m.foldl (fun s x => (wrap64 (s.1 + x.f2), mx s.2 x.f2)) s
def longS (m : List S25) (h : Int) (s : Int × Int) : Int × Int := m.foldl (fun s x => if x.f0 ≤ h ∧ h ≤ x.f1 then (wrap64 (s.1 + x.f2), mx s.2 x.f2) else s) s
theorem long_inv (h : Int) : ∀ (m : List S25) (s S : Int × Int), (∀ x ∈ m, 1 ≤ x.f2 ∧ x.f2 ≤ 200) → 0 ≤ s.2 → s.2 ≤ s.1 → s.1 ≤ S.1 → 0 ≤ S.2 → S.2 ≤ S.1 → s.1 - s.2 ≤ S.1 - S.2 → S.1 + 200 * (m.length : Int) ≤ 100000 →
    0 ≤ (longS m h s).2 ∧ (longS m h s).2 ≤ (longS m h s).1 ∧ (longS m h s).1 ≤ (allT m S).1 ∧ (longS m h s).1 - (longS m h s).2 ≤ (allT m S).1 - (allT m S).2 ∧ (allT m S).1 ≤ 100000 ∧ 0 ≤ (allT m S).2
  | [], s, S, _, h1, h2, h3, h4, h5, h6, h7 => ⟨h1, h2, h3, h6, by show S.1 ≤ 100000; simpa using h7, h4⟩
  | x :: m, s, S, hx, h1, h2, h3, h4, h5, h6, h7 => by
    have b := hx x List.mem_cons_self
    rw [List.length_cons] at h7
    unfold longS allT
    rw [List.foldl_cons, List.foldl_cons]
    have e1 : mx S.2 x.f2 = max S.2 x.f2 := mx_eq _ _
    have e2 : mx s.2 x.f2 = max s.2 x.f2 := mx_eq _ _
    have w1 : wrap64 (S.1 + x.f2) = S.1 + x.f2 := w64 (by omega) (by omega)
    have w2 : wrap64 (s.1 + x.f2) = s.1 + x.f2 := w64 (by omega) (by omega)
    rw [e1, e2, w1, w2]
    by_cases c : x.f0 ≤ h ∧ h ≤ x.f1
    · rw [if_pos c]
      exact long_inv h m _ _ (fun y hy => hx y (List.mem_cons_of_mem _ hy)) (by simp only; omega) (by simp only; omega) (by simp only; omega) (by simp only; omega) (by simp only; omega) (by simp only; omega) (by simp only; omega)
    · rw [if_neg c]
      exact long_inv h m _ _ (fun y hy => hx y (List.mem_cons_of_mem _ hy)) h1 h2 (by simp only; omega) (by simp only; omega) (by simp only; omega) (by simp only; omega) (by simp only; omega)
theorem long_all (h : Int) : ∀ (m : List S25) (s : Int × Int), (∀ x ∈ m, x.f0 ≤ h ∧ h ≤ x.f1) → longS m h s = allT m s
  | [], _, _ => rfl
  | x :: m, s, hx => by
    unfold longS allT
    rw [List.foldl_cons, List.foldl_cons, if_pos (hx x List.mem_cons_self)]
    exact long_all h m _ (fun y hy => hx y (List.mem_cons_of_mem _ hy))
theorem longB_bd (l : List S25) (X : Int) (hl : ∀ h, 0 ≤ (longI l h).1 - (longI l h).2 ∧ (longI l h).1 - (longI l h).2 ≤ X ∧ -100000 ≤ (longI l h).1 - (longI l h).2 ∧ (longI l h).1 - (longI l h).2 ≤ 200000) :
    ∀ (d : Nat) (b : Int), b ≤ X → b ≤ longB l d b ∧ longB l d b ≤ X ∧ ∀ h : Int, 351 - (d : Int) ≤ h → h ≤ 350 → (longI l h).1 - (longI l h).2 ≤ longB l d b
  | 0, b, hb => ⟨Int.le_refl _, hb, fun h h1 h2 => by omega⟩
  | d + 1, b, hb => by
    unfold longB
    have hh := hl (350 - d)
    rw [w64 (by omega) (by omega), mx_eq]
    obtain ⟨i1, i2, i3⟩ := longB_bd l X hl d (max b ((longI l (350 - d)).1 - (longI l (350 - d)).2)) (by omega)
    refine ⟨by omega, i2, fun h h1 h2 => ?_⟩
    by_cases c : h = 350 - d
    · rw [c]
      omega
    · exact i3 h (by omega) h2
theorem longV_nil : longV [] = 0 := by
  have h : ∀ d, longB [] d 0 = 0 := by
    intro d
    induction d with
    | zero => rfl
    | succ d ih =>
      unfold longB
      have e : mx 0 (wrap64 ((longI [] (350 - d)).1 - (longI [] (350 - d)).2)) = 0 := by
        show mx 0 (wrap64 (0 - 0)) = 0
        rw [w64 (by omega) (by omega), mx_eq]
        rfl
      rw [e]
      exact ih
  unfold longV
  rw [h]
  rfl
/-- The longest shared time is at most all but the longest; if one heat suits all, just that. -/
theorem longV_bd {l : List S25} (hv : breadsV l = true) : 0 ≤ longV l ∧ longV l ≤ (allT l (0, 0)).1 - (allT l (0, 0)).2 ∧ (allT l (0, 0)).1 ≤ 100000 ∧ 0 ≤ (allT l (0, 0)).2 ∧ (allT l (0, 0)).2 ≤ (allT l (0, 0)).1 ∧ ∀ h : Int, 100 ≤ h → h ≤ 350 → (∀ x ∈ l, x.f0 ≤ h ∧ h ≤ x.f1) → longV l = (allT l (0, 0)).1 - (allT l (0, 0)).2 := by
  obtain ⟨hl, hm⟩ := breadsV_mem hv
  have hi : ∀ h, longI l h = longS l h (0, 0) := fun h => rfl
  have inv : ∀ h, _ := fun h => long_inv h l (0, 0) (0, 0) (fun x hx => (hm x hx).2.2) (Int.le_refl _) (Int.le_refl _) (Int.le_refl _) (Int.le_refl _) (Int.le_refl _) (Int.le_refl _) (by simp only; omega)
  have hb := longB_bd l ((allT l (0, 0)).1 - (allT l (0, 0)).2) (fun h => by rw [hi]; have := inv h; omega) 251 0 (by have := inv 0; omega)
  unfold longV
  rw [if_pos hv]
  have i0 := inv 0
  refine ⟨hb.1, hb.2.1, i0.2.2.2.2.1, i0.2.2.2.2.2, by omega, fun h h1 h2 ha => ?_⟩
  have h3 := hb.2.2 h (by omega) h2
  rw [hi, long_all h l _ ha] at h3
  omega
theorem big_f (l : List Int) : laws_big.f l = some (decide ((l.length : Int) > 1048576)) := rfl
abbrev Bok (x : S25) : Prop := (100 ≤ x.f0 ∧ x.f0 ≤ x.f1) ∧ x.f1 ≤ 350 ∧ (1 ≤ x.f2 ∧ x.f2 ≤ 200)
theorem breadsV_of {l : List S25} (hl : l.length ≤ 10) (h : ∀ x ∈ l, Bok x) : breadsV l = true := by
  unfold breadsV
  rw [Bool.and_eq_true, decide_eq_true_eq, List.all_eq_true]
  refine ⟨by omega, fun x hx => ?_⟩
  have := h x hx
  unfold bk_ok
  rw [Bool.and_eq_true, Bool.and_eq_true, decide_eq_true_eq, decide_eq_true_eq, decide_eq_true_eq]
  exact this
theorem share (x y : S25) (hx : Bok x) (hy : Bok y) : Ev (fun k => impl_CanShare.f k x.f0 x.f1 x.f2 y.f0 y.f1 y.f2) (decide (x.f0 ≤ y.f1 ∧ y.f0 ≤ x.f1)) := by
  obtain ⟨x0, x1, x2⟩ := x
  obtain ⟨y0, y1, y2⟩ := y
  unfold impl_CanShare.f
  refine Ev.bind (heatI [⟨x0, x1, x2⟩, ⟨y0, y1, y2⟩] (by simp)) ?_
  have hv : breadsV [(⟨x0, x1, x2⟩ : S25), ⟨y0, y1, y2⟩] = true := breadsV_of (by simp) (fun z hz => by
    rcases List.mem_cons.1 hz with rfl | hz
    · exact hx
    · rw [List.mem_singleton.1 hz]
      exact hy)
  have e : (heatV [(⟨x0, x1, x2⟩ : S25), ⟨y0, y1, y2⟩]).2.2 = decide (x0 ≤ y1 ∧ y0 ≤ x1) := by
    unfold heatV
    rw [if_pos ⟨hv, by simp⟩]
    have eh : heatF [(⟨x0, x1, x2⟩ : S25), ⟨y0, y1, y2⟩] (100, 350) = (max (max 100 x0) y0, min (min 350 x1) y1) := rfl
    rw [eh]
    show (if max (max 100 x0) y0 > min (min 350 x1) y1 then ((0 : Int), (0 : Int), false) else (max (max 100 x0) y0, min (min 350 x1) y1, true)).2.2 = _
    obtain ⟨⟨a1, a2⟩, a3, _⟩ := hx
    obtain ⟨⟨b1, b2⟩, b3, _⟩ := hy
    simp only at a1 a2 a3 b1 b2 b3
    by_cases c : x0 ≤ y1 ∧ y0 ≤ x1
    · rw [if_neg (by omega), decide_eq_true c]
    · rw [if_pos (by omega), decide_eq_false c]
  simp only [e]
  exact Ev.now _
theorem heatF_bd : ∀ (l : List S25) (s : Int × Int), (s.1 ≤ (heatF l s).1 ∧ (heatF l s).2 ≤ s.2) ∧ (∀ x ∈ l, x.f0 ≤ (heatF l s).1 ∧ (heatF l s).2 ≤ x.f1) ∧ ((heatF l s).1 = s.1 ∨ ∃ x ∈ l, (heatF l s).1 = x.f0) ∧ ((heatF l s).2 = s.2 ∨ ∃ x ∈ l, (heatF l s).2 = x.f1)
  | [], s => ⟨⟨Int.le_refl _, Int.le_refl _⟩, by simp, .inl rfl, .inl rfl⟩
  | x :: l, s => by
    obtain ⟨h1, h2, h3, h4⟩ := heatF_bd l (max s.1 x.f0, min s.2 x.f1)
    have e : heatF (x :: l) s = heatF l (max s.1 x.f0, min s.2 x.f1) := rfl
    rw [e]
    generalize heatF l (max s.1 x.f0, min s.2 x.f1) = q at h1 h2 h3 h4 ⊢
    simp only at h1 h3 h4
    refine ⟨by clear h3 h4; omega, fun y hy => ?_, ?_, ?_⟩
    · clear h3 h4
      rcases List.mem_cons.1 hy with rfl | hy
      · omega
      · exact h2 y hy
    · clear h4
      rcases h3 with h3 | ⟨y, hy, h3⟩
      · by_cases c : s.1 ≤ x.f0
        · exact .inr ⟨x, List.mem_cons_self, by omega⟩
        · exact .inl (by omega)
      · exact .inr ⟨y, List.mem_cons_of_mem _ hy, h3⟩
    · clear h3
      rcases h4 with h4 | ⟨y, hy, h4⟩
      · by_cases c : s.2 ≤ x.f1
        · exact .inl (by omega)
        · exact .inr ⟨x, List.mem_cons_self, by omega⟩
      · exact .inr ⟨y, List.mem_cons_of_mem _ hy, h4⟩
theorem bd_nat (l : List S25) (i : Nat) : rd_T25 l (i : Int) = l.getD i z25 := by
  unfold rd_T25
  rw [Int.toNat_natCast]
theorem getD_mem {l : List S25} {i : Nat} (h : i < l.length) : l.getD i z25 ∈ l := by
  rw [List.getD_eq_getElem?_getD, List.getElem?_eq_getElem h]
  exact List.getElem_mem h
/-- The sum and the longest time, and the last test. -/
theorem l5_f (l : List S25) (hv : breadsV l = true) (ok : Bool) (hok : ok = true → ∃ h : Int, 100 ≤ h ∧ h ≤ 350 ∧ ∀ x ∈ l, x.f0 ≤ h ∧ h ≤ x.f1) : Ev (fun k => laws_FnPairs.l5 k l ok (longV l) 0 0 0) true := by
  obtain ⟨hl, hm⟩ := breadsV_mem hv
  obtain ⟨g0, g1, g2, g3, g4, g5⟩ := longV_bd hv
  have h := ev_to (fun k (s : Int × Int) i => laws_FnPairs.l5 k l ok (longV l) s.1 s.2 i) l.length (fun i s => s = (List.range i).foldl (fun s i => (wrap64 (s.1 + (l.getD i z25).f2), mx s.2 (l.getD i z25).f2)) (0, 0)) true (fun i s hi hp => by
      have q1 : (i : Int) < (l.length : Int) := by omega
      have q2 : (0 : Int) ≤ (i : Int) := by omega
      have ew : wrap64 ((i : Int) + 1) = (i : Int) + 1 := w64 (by omega) (by omega)
      refine .inl ⟨_, rfl, fun r hr => ev_next (fun k => ?_) r hr⟩
      rw [List.range_succ, List.foldl_append, List.foldl_cons, List.foldl_nil, ← hp]
      simp only [laws_FnPairs.l5]
      rw [if_pos q1, if_pos q2, ew, bd_nat]) (fun s hp => by
      have e2 := fold_range l z25 (fun (s : Int × Int) x => (wrap64 (s.1 + x.f2), mx s.2 x.f2)) (0, 0)
      rw [e2] at hp
      have hp : s = allT l (0, 0) := hp
      subst hp
      generalize allT l (0, 0) = S at g1 g2 g3 g4 g5 ⊢
      have ew : wrap64 (S.1 - S.2) = S.1 - S.2 := w64 (by omega) (by omega)
      refine ev_now fun k => ?_
      simp only [laws_FnPairs.l5]
      rw [if_neg (by clear ew; omega), if_pos g0, ew, if_pos g1]
      by_cases c : ok = true
      · rw [if_pos c]
        obtain ⟨x, x0, x1, hx⟩ := hok c
        rw [g5 x x0 x1 hx]
        simp
      · rw [if_neg c]) 0 (0, 0) (Nat.zero_le _) rfl
  exact h
theorem j8_f (l : List S25) (hv : breadsV l = true) (lo hi : Int) (ok : Bool) (i : Int) (hok : ok = true → ∃ h : Int, 100 ≤ h ∧ h ≤ 350 ∧ ∀ x ∈ l, x.f0 ≤ h ∧ h ≤ x.f1) : Ev (fun k => laws_FnPairs.j8 k l lo hi ok i false) true := by
  have hl := (breadsV_mem hv).1
  refine ev_next (f := fun k => (impl_LongestShared.f k l).bind fun t218 => (laws_FnPairs.l5 k l ok t218 0 0 0)) (fun k => ?_) _ (Ev.bind (longestI l (by omega)) (l5_f l hv ok hok))
  simp only [laws_FnPairs.j8]
  rw [if_neg (by decide)]
theorem l4_f (l : List S25) (hv : breadsV l = true) (lo hi : Int) (ok : Bool) (hok : ok = true → ∃ h : Int, 100 ≤ h ∧ h ≤ 350 ∧ ∀ x ∈ l, x.f0 ≤ h ∧ h ≤ x.f1) (hb : ok = true → ∀ x ∈ l, x.f0 ≤ lo ∧ hi ≤ x.f1) : Ev (fun k => laws_FnPairs.l4 k l lo hi ok 0) true := by
  have hl := (breadsV_mem hv).1
  cases c : ok with
  | false =>
    rw [c] at hok
    refine ev_next (fun k => ?_) _ (j8_f l hv lo hi false 0 hok)
    simp only [laws_FnPairs.l4]
    split <;> rfl
  | true =>
    rw [c] at hok hb
    have h := ev_to (fun k (_ : Unit) i => laws_FnPairs.l4 k l lo hi true i) l.length (fun i _ => True) true (fun i _ hi2 _ => by
        have hm := hb rfl _ (getD_mem hi2)
        have q1 : (i : Int) < (l.length : Int) := by omega
        have q2 : (0 : Int) ≤ (i : Int) := by omega
        have q3 : ¬ lo < (l.getD i z25).f0 := by omega
        have q4 : ¬ hi > (l.getD i z25).f1 := by omega
        have ew : wrap64 ((i : Int) + 1) = (i : Int) + 1 := w64 (by omega) (by omega)
        refine .inl ⟨(), trivial, fun r hr => ev_next (f := fun k => laws_FnPairs.j8 k l lo hi true (i : Int) true) (fun k => ?_) r (ev_next (fun k => ?_) r hr)⟩
        · simp only [laws_FnPairs.l4]
          rw [if_pos q1]
        · simp only [laws_FnPairs.j8]
          rw [if_pos trivial, if_pos q2, if_pos q1, bd_nat, if_neg q3, if_neg q4, ew]) (fun _ _ => by
        refine ev_next (fun k => ?_) _ (j8_f l hv lo hi true (l.length : Int) hok)
        simp only [laws_FnPairs.l4]
        rw [if_neg (by omega)]) 0 () (Nat.zero_le _) trivial
    exact h
/-- One heat suits all breads just where one heat bakes all. -/
theorem one_heat {l : List S25} (hv : breadsV l = true) : ((heatV l).2.2 = true ↔ (apV l).length = 1) ∧ ((heatV l).2.2 = true → (heatV l).1 ≤ (heatV l).2.1 ∧ 100 ≤ (heatV l).1 ∧ (heatV l).2.1 ≤ 350 ∧ ∀ x ∈ l, x.f0 ≤ (heatV l).1 ∧ (heatV l).2.1 ≤ x.f1) := by
  obtain ⟨hl, hm⟩ := breadsV_mem hv
  obtain ⟨pw, bake⟩ := apV_inv hv
  have hin := @apV_in l
  obtain ⟨b1, b2, b3, b4⟩ := heatF_bd l (100, 350)
  simp only at b1 b3 b4
  unfold heatV
  by_cases ce : l = []
  · rw [if_neg (fun h => h.2 ce)]
    refine ⟨⟨fun h => by simp at h, fun h => ?_⟩, fun h => by simp at h⟩
    obtain ⟨x, hx⟩ := List.exists_mem_of_length_pos (show 0 < (apV l).length by omega)
    have := hin x hx
    rw [ce] at this
    simp at this
    omega
  · rw [if_pos ⟨hv, ce⟩]
    have hpos := List.length_pos_iff.2 ce
    generalize heatF l (100, 350) = H at b1 b2 b3 b4 ⊢
    unfold heatE
    generalize ha : apV l = a at pw bake hin ⊢
    by_cases c : H.1 > H.2
    · rw [if_pos c]
      refine ⟨⟨fun h => by simp at h, fun h => ?_⟩, fun h => by simp at h⟩
      exfalso
      obtain ⟨q, hq⟩ := List.length_eq_one_iff.1 h
      rw [hq] at bake hin
      have hqr := hin q (by simp)
      have hqm := hm _ (bd_mem hqr.1 hqr.2)
      have all : ∀ x ∈ l, x.f0 ≤ (bd l q).f1 ∧ (bd l q).f1 ≤ x.f1 := fun x hx => by
        obtain ⟨i, hi, rfl⟩ := List.getElem_of_mem hx
        obtain ⟨q', hq', h1⟩ := bake (i : Int) (by omega) (by omega)
        rw [List.mem_singleton.1 hq'] at h1
        have e : bd l (i : Int) = l[i] := by
          rw [bd, bd_nat, List.getD_eq_getElem?_getD, List.getElem?_eq_getElem hi]
          rfl
        rw [e] at h1
        exact h1
      have g1 : H.1 ≤ (bd l q).f1 := by
        clear b4
        rcases b3 with b3 | ⟨x, hx, b3⟩
        · omega
        · have := all x hx
          omega
      have g2 : (bd l q).f1 ≤ H.2 := by
        clear b3
        rcases b4 with b4 | ⟨x, hx, b4⟩
        · omega
        · have := all x hx
          omega
      omega
    · rw [if_neg c]
      refine ⟨⟨fun _ => ?_, fun _ => rfl⟩, fun _ => ⟨by simp only; omega, b1.1, b1.2, b2⟩⟩
      obtain ⟨q, hq, _⟩ := bake 0 (by omega) (by omega)
      match a, pw, hin, hq with
      | [], _, _, hq => simp at hq
      | [x], _, _, _ => rfl
      | x :: y :: t, pw, hin, _ =>
        exfalso
        have h1 := (List.pairwise_cons.1 pw).1 y (by simp)
        have hx := hin x (by simp)
        have hy := hin y (by simp)
        have h2 := b2 _ (bd_mem hx.1 hx.2)
        have h3 := b2 _ (bd_mem hy.1 hy.2)
        omega
theorem bread_ok (x : S25) (hx : Bok x) : impl_BreadOk.f x.f0 x.f1 x.f2 = some true := by
  obtain ⟨h1, h2, h3⟩ := hx
  unfold impl_BreadOk.f
  simp only [in_f, Option.bind_some, decide_eq_true_eq, if_pos h1, if_pos h2, decide_eq_true h3]
theorem l2_f (l : List S25) (hv : breadsV l = true) : Ev (fun k => laws_FnPairs.l2 k l (fewV l) 0) true := by
  obtain ⟨hl, hm⟩ := breadsV_mem hv
  obtain ⟨pw, bake⟩ := apV_inv hv
  obtain ⟨one, two⟩ := one_heat hv
  have hlen10 := apV_len10 l
  have hfl : (fewV l).length = (apV l).length := by unfold fewV; rw [List.length_map]
  have hfm : ∀ p : Nat, p < l.length → ∃ j, j < (fewV l).length ∧ ((l.getD p z25).f0 ≤ (fewV l).getD j 0 ∧ (fewV l).getD j 0 ≤ (l.getD p z25).f1) := fun p hp => by
    obtain ⟨q, hq, h1⟩ := bake (p : Int) (by omega) (by omega)
    obtain ⟨j, hj, rfl⟩ := List.getElem_of_mem hq
    refine ⟨j, by omega, ?_⟩
    have e : (fewV l).getD j 0 = (bd l (apV l)[j]).f1 := by
      unfold fewV
      rw [List.getD_eq_getElem?_getD, List.getElem?_map, List.getElem?_eq_getElem hj]
      rfl
    rw [e, ← bd_nat]
    exact h1
  generalize fewV l = f at hfl hfm
  have h := ev_to (fun k (_ : Unit) i => laws_FnPairs.l2 k l f i) l.length (fun i _ => True) true (fun i _ hi _ => by
      have hx := hm _ (getD_mem hi)
      have q1 : (i : Int) < (l.length : Int) := by omega
      have q2 : (0 : Int) ≤ (i : Int) := by omega
      have ew : wrap64 ((i : Int) + 1) = (i : Int) + 1 := w64 (by omega) (by omega)
      refine .inl ⟨(), trivial, fun r hr => ev_next (f := fun k => laws_FnPairs.l3 k l f (i : Int) false 0) (fun k => ?_) r ?_⟩
      · simp only [laws_FnPairs.l2]
        rw [if_pos q1]
      · obtain ⟨j0, hj0, hj1⟩ := hfm i hi
        have hs := share _ _ hx hx
        rw [decide_eq_true (show (l.getD i z25).f0 ≤ (l.getD i z25).f1 ∧ (l.getD i z25).f0 ≤ (l.getD i z25).f1 from ⟨hx.1.2, hx.1.2⟩)] at hs
        have hok := bread_ok _ hx
        have h3 := ev_to (fun k (b : Bool) j => laws_FnPairs.l3 k l f (i : Int) b j) f.length (fun j b => (∃ m, m < j ∧ ((l.getD i z25).f0 ≤ f.getD m 0 ∧ f.getD m 0 ≤ (l.getD i z25).f1)) → b = true) r (fun j b hj hp => by
            have p1 : (j : Int) < (f.length : Int) := by omega
            have p2 : (0 : Int) ≤ (j : Int) := by omega
            have ej : wrap64 ((j : Int) + 1) = (j : Int) + 1 := by
              clear ew
              exact w64 (by omega) (by omega)
            cases b with
            | true =>
              refine .inl ⟨true, fun _ => rfl, fun r hr => ev_next (fun k => ?_) r hr⟩
              simp only [laws_FnPairs.l3]
              rw [if_pos p1, if_pos trivial, ej]
            | false =>
              have hno : ∀ m, m < j → ¬ ((l.getD i z25).f0 ≤ f.getD m 0 ∧ f.getD m 0 ≤ (l.getD i z25).f1) := fun m h1 h2 => by
                have := hp ⟨m, h1, h2⟩
                cases this
              by_cases c1 : (l.getD i z25).f0 ≤ f.getD j 0
              · refine .inl ⟨decide (f.getD j 0 ≤ (l.getD i z25).f1), ?_, fun r hr => ev_next (fun k => ?_) r hr⟩
                · rintro ⟨m, m1, m2⟩
                  by_cases cm : m = j
                  · rw [cm] at m2
                    exact decide_eq_true m2.2
                  · exact absurd m2 (hno m (by clear ew ej; omega))
                · simp only [laws_FnPairs.l3]
                  rw [if_pos p1, if_neg (by decide), if_pos q2, if_pos q1, if_pos p2, bd_nat, rd_eq f, if_pos c1, ej]
              · refine .inl ⟨false, ?_, fun r hr => ev_next (fun k => ?_) r hr⟩
                · rintro ⟨m, m1, m2⟩
                  by_cases cm : m = j
                  · rw [cm] at m2
                    exact absurd m2.1 c1
                  · exact absurd m2 (hno m (by clear ew ej; omega))
                · simp only [laws_FnPairs.l3]
                  rw [if_pos p1, if_neg (by decide), if_pos q2, if_pos q1, if_pos p2, bd_nat, rd_eq f, if_neg c1, ej]) (fun b hp => by
            have hb := hp ⟨j0, hj0, hj1⟩
            subst hb
            refine ev_next (f := fun k => (impl_CanShare.f k (l.getD i z25).f0 (l.getD i z25).f1 (l.getD i z25).f2 (l.getD i z25).f0 (l.getD i z25).f1 (l.getD i z25).f2).bind fun t212 => (if t212 = true then (laws_FnPairs.l2 k l f ((i : Int) + 1)) else (some false))) (fun k => ?_) r (Ev.bind hs ?_)
            · simp only [laws_FnPairs.l3]
              rw [if_neg (by clear ew; omega), if_pos trivial, if_pos q2, if_pos q1, bd_nat, hok, ew]
              rfl
            · simp only [if_true]
              exact hr) 0 false (Nat.zero_le _) (fun ⟨m, m1, _⟩ => absurd m1 (Nat.not_lt_zero _))
        exact h3) (fun _ _ => by
      refine ev_next (f := fun k => (impl_CommonHeat.f k l).bind fun bt213 => (if (bt213.2.2 != ((f.length : Int) == 1)) = true then (laws_FnPairs.j6 k l bt213.1 bt213.2.1 bt213.2.2 true) else (if bt213.2.2 = true then (laws_FnPairs.j6 k l bt213.1 bt213.2.1 bt213.2.2 (decide (bt213.1 > bt213.2.1))) else (laws_FnPairs.j6 k l bt213.1 bt213.2.1 bt213.2.2 false)))) (fun k => ?_) _ (Ev.bind (heatI l (by omega)) ?_)
      · simp only [laws_FnPairs.l2]
        rw [if_neg (by omega)]
      · generalize heatV l = H at one two ⊢
        obtain ⟨lo, hi, ok⟩ := H
        simp only at one two ⊢
        have e1 : ((f.length : Int) == 1) = ok := by
          rw [Bool.eq_iff_iff, one, beq_iff_eq]
          omega
        rw [e1]
        simp only [bne_self_eq_false, Bool.false_eq_true, if_false]
        have hl4 := l4_f l hv lo hi ok (fun h => ⟨lo, (two h).2.1, by have := two h; omega, fun x hx => by have := (two h).2.2.2 x hx; have := (two h).1; omega⟩) (fun h => (two h).2.2.2)
        have hj6 : Ev (fun k => laws_FnPairs.j6 k l lo hi ok false) true := ev_next (fun k => by
          simp only [laws_FnPairs.j6]
          rw [if_neg (by decide)]) _ hl4
        by_cases c : ok = true
        · simp only [if_pos c]
          rw [decide_eq_false (show ¬ lo > hi from fun h => by have := (two c).1; omega)]
          exact hj6
        · simp only [if_neg c]
          exact hj6) 0 () (Nat.zero_le _) trivial
  exact h
theorem l0_f (l : List S25) (hv : breadsV l = true) : Ev (fun k => laws_FnPairs.l0 k l (fewV l) (apV l) 0) true := by
  obtain ⟨hl, hm⟩ := breadsV_mem hv
  obtain ⟨pw, bake⟩ := apV_inv hv
  have hend := l2_f l hv
  have hin := @apV_in l
  have hlen10 := apV_len10 l
  have hfl : (fewV l).length = (apV l).length := by unfold fewV; rw [List.length_map]
  have hfe : ∀ j, j < (apV l).length → (fewV l).getD j 0 = (bd l ((apV l).getD j 0)).f1 := fun j hj => by
    unfold fewV
    rw [List.getD_eq_getElem?_getD, List.getElem?_map, List.getElem?_eq_getElem hj, List.getD_eq_getElem?_getD, List.getElem?_eq_getElem hj]
    rfl
  have hpw : ∀ i j, i < j → j < (apV l).length → (bd l ((apV l).getD i 0)).f1 < (bd l ((apV l).getD j 0)).f0 := fun i j h1 h2 => by
    have := List.pairwise_iff_getElem.1 pw i j (by omega) h2 h1
    rw [List.getD_eq_getElem?_getD, List.getElem?_eq_getElem (show i < (apV l).length by omega), List.getD_eq_getElem?_getD, List.getElem?_eq_getElem h2]
    exact this
  have hrg : ∀ j, j < (apV l).length → 0 ≤ (apV l).getD j 0 ∧ (apV l).getD j 0 < (l.length : Int) := fun j hj => by
    rw [List.getD_eq_getElem?_getD, List.getElem?_eq_getElem hj]
    exact hin _ (List.getElem_mem hj)
  generalize fewV l = f at *
  generalize apV l = a at *
  have h := ev_to (fun k (_ : Unit) i => laws_FnPairs.l0 k l f a i) a.length (fun i _ => True) true (fun i _ hi _ => by
      have r1 := hrg i hi
      have hx := hm _ (bd_mem r1.1 r1.2)
      have q1 : (i : Int) < (a.length : Int) := by omega
      have q2 : (0 : Int) ≤ (i : Int) := by omega
      have q3 : ¬ a.getD i 0 < 0 := by omega
      have q4 : ¬ a.getD i 0 ≥ (l.length : Int) := by omega
      have q5 : (i : Int) < (f.length : Int) := by omega
      have q6 := hfe i hi
      have ew : wrap64 ((i : Int) + 1) = (i : Int) + 1 := w64 (by omega) (by omega)
      refine .inl ⟨(), trivial, fun r hr => ?_⟩
      refine ev_next (f := fun k => laws_FnPairs.j2 k l f a (i : Int) false) (fun k => ?_) r (ev_next (f := fun k => laws_FnPairs.l1 k l f a (i : Int) 0) (fun k => ?_) r ?_)
      · simp only [laws_FnPairs.l0]
        by_cases cz : i = 0
        · have q7 : ¬ (i : Int) > 0 := by clear ew; omega
          rw [if_pos q1, if_pos q2, rd_eq a, if_neg q3, if_neg q4, if_pos q5, if_pos r1.1, if_pos r1.2, rd_eq f, if_pos q6, if_neg q7]
        · have q7 : (i : Int) > 0 := by clear ew; omega
          have q8 : (0 : Int) ≤ ((i - 1 : Nat) : Int) := by clear ew; omega
          have q9 : ((i - 1 : Nat) : Int) < (f.length : Int) := by clear ew; omega
          have ei : wrap64 ((i : Int) - 1) = ((i - 1 : Nat) : Int) := by
            clear ew
            rw [w64 (by omega) (by omega)]
            omega
          have hup := hpw (i - 1) i (by clear ew ei; omega) hi
          have q10 := hfe (i - 1) (by clear ew ei; omega)
          have q11 : decide (f.getD i 0 ≤ f.getD (i - 1) 0) = false := decide_eq_false (by clear ew ei; omega)
          rw [if_pos q1, if_pos q2, rd_eq a, if_neg q3, if_neg q4, if_pos q5, if_pos r1.1, if_pos r1.2, rd_eq f, if_pos q6, if_pos q7, ei, if_pos q8, if_pos q9, rd_eq f, q11]
      · simp only [laws_FnPairs.j2]
        rw [if_neg (by decide)]
      · have h1 := ev_to (fun k (_ : Unit) j => laws_FnPairs.l1 k l f a (i : Int) j) i (fun j _ => True) r (fun j _ hj _ => by
            have hja : j < a.length := by clear ew; omega
            have r2 := hrg j hja
            have hy := hm _ (bd_mem r2.1 r2.2)
            have hs := share _ _ hx hy
            have hlt := hpw j i hj hi
            rw [decide_eq_false (show ¬ ((bd l (a.getD i 0)).f0 ≤ (bd l (a.getD j 0)).f1 ∧ (bd l (a.getD j 0)).f0 ≤ (bd l (a.getD i 0)).f1) from fun h => by clear ew; omega)] at hs
            have p1 : (j : Int) < (i : Int) := by clear ew; omega
            have p2 : (0 : Int) ≤ (j : Int) := by clear ew; omega
            have p3 : (j : Int) < (a.length : Int) := by clear ew; omega
            have ej : wrap64 ((j : Int) + 1) = (j : Int) + 1 := by
              clear ew
              exact w64 (by omega) (by omega)
            refine .inl ⟨(), trivial, fun r hr => ev_next (f := fun k => (impl_CanShare.f k (bd l (a.getD i 0)).f0 (bd l (a.getD i 0)).f1 (bd l (a.getD i 0)).f2 (bd l (a.getD j 0)).f0 (bd l (a.getD j 0)).f1 (bd l (a.getD j 0)).f2).bind fun t203 => (if t203 = true then (some false) else (laws_FnPairs.l1 k l f a (i : Int) ((j : Int) + 1)))) (fun k => ?_) r (Ev.bind hs ?_)⟩
            · simp only [laws_FnPairs.l1]
              rw [if_pos p1, if_pos q2, if_pos q1, rd_eq a, if_pos r1.1, if_pos r1.2, if_pos p2, if_pos p3, rd_eq a, if_pos r2.1, if_pos r2.2, ej]
            · simp only [Bool.false_eq_true, if_false]
              exact hr) (fun _ _ => by
            refine ev_next (fun k => ?_) r hr
            simp only [laws_FnPairs.l1]
            rw [if_neg (by clear ew; omega), ew]) 0 () (Nat.zero_le _) trivial
        exact h1) (fun _ _ => by
      refine ev_next (fun k => ?_) _ hend
      simp only [laws_FnPairs.l0]
      rw [if_neg (by omega)]) 0 () (Nat.zero_le _) trivial
  exact h
theorem FnPairs (l : List Int) (_ : l.length ≤ maxLen) (hbb : l.length * 1 ≤ 140737488351232) (hw : ∀ x ∈ l, (Lit.int .u8 x).wf = true) : ∃ k, laws_FnPairs.f k l = some true := by
  refine Ev.rounds ?_
  unfold laws_FnPairs.f
  simp only [big_f, Option.bind_some, decide_eq_true_eq]
  by_cases c : (l.length : Int) > 1048576
  · simp only [if_pos c]
    exact Ev.now _
  · simp only [if_neg c]
    obtain ⟨d, hdraw, hlen, hd⟩ := drawBreads_f l (by omega)
    have hv : breadsV d = true := breadsV_of (by omega) (fun x hx => by have := hd x hx; exact ⟨⟨by omega, by omega⟩, by omega, by omega, by omega⟩)
    have hnil := longestI [] (by simp)
    rw [longV_nil] at hnil
    have hfl : (fewV d).length = (apV d).length := by unfold fewV; rw [List.length_map]
    have hz : ((fewV d).length = 0) ↔ (d.length = 0) := by
      rw [hfl]
      constructor
      · intro h
        apply Classical.byContradiction
        intro hn
        obtain ⟨q, hq, _⟩ := (apV_inv hv).2 0 (by omega) (by omega)
        have := List.length_pos_of_mem hq
        omega
      · intro h
        apply Classical.byContradiction
        intro hn
        obtain ⟨x, hx⟩ := List.exists_mem_of_length_pos (show 0 < (apV d).length by omega)
        have := apV_in x hx
        omega
    refine Ev.bind hdraw (Ev.bind (fewI d (by omega)) (Ev.bind (apartI d (by omega)) (Ev.bind hnil ?_)))
    simp only [if_true, if_pos (show ((fewV d).length : Int) = ((apV d).length : Int) by omega)]
    have e : (((fewV d).length : Int) == 0) = ((d.length : Int) == 0) := by
      rw [Bool.eq_iff_iff, beq_iff_eq, beq_iff_eq]
      omega
    rw [e]
    simp only [bne_self_eq_false]
    refine ev_next (f := fun k => laws_FnPairs.l0 k d (fewV d) (apV d) 0) (fun k => ?_) _ (l0_f d hv)
    simp only [laws_FnPairs.j0]
    rw [if_neg (by decide)]
end Go.Proofs.Ytdglbjekpbdmoaa.Pure
