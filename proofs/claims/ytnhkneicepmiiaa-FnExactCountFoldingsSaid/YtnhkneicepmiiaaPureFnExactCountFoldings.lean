/- The program's CountFoldings and the reference's answer alike, for all arguments. No condition. -/
import Derived.Test.YtnhkneicepmiiaaPFnExactCountFoldingsx1
import Derived.Test.YtnhkneicepmiiaaBase
namespace Go.Proofs.Ytnhkneicepmiiaa.Pure
open Go.RowKit Go.Proofs.Ytnhkneicepmiiaa.PFnExactCountFoldings Go.Proofs.YtnhkneicepmiiaaW.PrintWords Go.Proofs.YtnhkneicepmiiaaW.PrintLast Go.Proofs.YtnhkneicepmiiaaW.PrintMore Go.Proofs.Ytnhkneicepmiiaa.Base
set_option linter.unusedVariables false
set_option linter.unusedSimpArgs false
theorem in_f (a b c : Int) : impl_in.f a b c = some (decide (b ≤ a ∧ a ≤ c)) := by
  unfold impl_in.f
  by_cases h : b ≤ a <;> simp [h]
theorem l01In_f (a b c : Int) : spec_l01In.f a b c = some (decide (b ≤ a ∧ a ≤ c)) := by
  unfold spec_l01In.f
  by_cases h : b ≤ a <;> simp [h]
/-- How many lists of 2, 3 and 4 have a product (as the machine adds them up). -/
def cw (n : Nat) : Int :=
  if n = 1 then 1 else if n = 0 then 0 else
    let a2 := if n % 2 = 0 then wrap64 (0 + cw (n / 2)) else 0
    let a3 := if n % 3 = 0 then wrap64 (a2 + cw (n / 3)) else a2
    if n % 4 = 0 then wrap64 (a3 + cw (n / 4)) else a3
termination_by n
decreasing_by all_goals omega
theorem foldI_l (n f : Nat) (acc : Int) (hf : 2 ≤ f ∧ f ≤ 4) (hn : 1 < n) (hm : n ≤ 1000000) (r : Int)
    (ih : n % f = 0 → Ev (fun k => impl_foldings.f k ((n / f : Nat) : Int)) (cw (n / f)))
    (h : Ev (fun k => impl_foldings.l0 k (n : Int) (if n % f = 0 then wrap64 (acc + cw (n / f)) else acc) ((f + 1 : Nat) : Int)) r) :
    Ev (fun k => impl_foldings.l0 k (n : Int) acc (f : Int)) r := by
  have e1 : Int.tmod (n : Int) (f : Int) = ((n % f : Nat) : Int) := by rw [tmod_pos (by omega)]; rfl
  have e2 : wrap64 (Int.tdiv (n : Int) (f : Int)) = ((n / f : Nat) : Int) := by
    rw [tdiv_pos (by omega), ← Int.natCast_ediv]
    have : n / f ≤ n := Nat.div_le_self _ _
    generalize n / f = q at this ⊢
    exact w64 (by omega) (by omega)
  have e3 : wrap64 ((f : Int) + 1) = ((f + 1 : Nat) : Int) := w64 (by omega) (by omega)
  by_cases c : n % f = 0
  · rw [if_pos c] at h
    refine ev_next (f := fun k => (impl_foldings.f k ((n / f : Nat) : Int)).bind fun t => impl_foldings.l0 k (n : Int) (wrap64 (acc + t)) ((f + 1 : Nat) : Int)) (fun k => ?_) r (Ev.bind (ih c) h)
    simp only [impl_foldings.l0]
    rw [if_pos (by omega), if_neg (by omega), if_pos (by omega), e2, e3]
  · rw [if_neg c] at h
    refine ev_next (fun k => ?_) r h
    simp only [impl_foldings.l0]
    rw [if_pos (by omega), if_neg (by omega), if_neg (by omega), e3]
theorem foldI (n : Nat) (h1 : 1 ≤ n) (hm : n ≤ 1000000) : Ev (fun k => impl_foldings.f k (n : Int)) (cw n) := by
  induction n using Nat.strongRecOn with
  | ind n ih =>
    by_cases c : n = 1
    · subst c
      refine ev_now fun k => ?_
      simp only [impl_foldings.f]
      rw [cw]
      simp
    · have hd : ∀ f, 2 ≤ f → n % f = 0 → Ev (fun k => impl_foldings.f k ((n / f : Nat) : Int)) (cw (n / f)) := by
        intro f hf hz
        have h3 : n / f < n := Nat.div_lt_self (by omega) (by omega)
        have h4 : 1 ≤ n / f := by
          rcases Nat.eq_zero_or_pos (n / f) with h0 | h0
          · have h5 := Nat.div_add_mod n f
            rw [h0, hz] at h5
            omega
          · exact h0
        exact ih (n / f) h3 h4 (by omega)
      refine ev_next (f := fun k => impl_foldings.l0 k (n : Int) 0 ((2 : Nat) : Int)) (fun k => ?_) _ ?_
      · simp only [impl_foldings.f]
        rw [if_neg (by omega)]
        rfl
      · refine foldI_l n 2 0 (by omega) (by omega) hm _ (hd 2 (by omega)) ?_
        refine foldI_l n 3 _ (by omega) (by omega) hm _ (hd 3 (by omega)) ?_
        refine foldI_l n 4 _ (by omega) (by omega) hm _ (hd 4 (by omega)) ?_
        refine ev_now fun k => ?_
        simp only [impl_foldings.l0]
        rw [if_neg (by omega)]
        conv => rhs; rw [cw]
        rw [if_neg c, if_neg (show ¬ n = 0 by omega)]
theorem foldsI (a : Int) : Ev (fun k => impl_CountFoldings.f k a) (if 1 ≤ a ∧ a ≤ 10000 then cw a.toNat else -1) := by
  unfold impl_CountFoldings.f
  simp only [in_f, Option.bind_some, decide_eq_true_eq]
  by_cases c : 1 ≤ a ∧ a ≤ 10000
  · simp only [if_pos c]
    have h := foldI a.toNat (by omega) (by omega)
    rw [show ((a.toNat : Nat) : Int) = a by omega] at h
    exact Ev.bind h (Ev.now _)
  · simp only [if_neg c]
    exact ev_const rfl
theorem inner (L n : Nat) (ways : List Int) (hL : ways.length = L + 1) (hn : 2 ≤ n) (hnL : n ≤ L) (hm : L ≤ 10000) (hw : ∀ j, j < n → ways[j]? = some (cw j)) (f : Nat) (hf : 2 ≤ f ∧ f ≤ 4) (acc r : Int)
    (h : Ev (fun k => spec_CountFoldings.l1 k (L : Int) (ways.set n (if n % f = 0 then wrap64 (acc + cw (n / f)) else acc)) (n : Int) ((f + 1 : Nat) : Int)) r) :
    Ev (fun k => spec_CountFoldings.l1 k (L : Int) (ways.set n acc) (n : Int) (f : Int)) r := by
  obtain ⟨q, hq⟩ : ∃ q, n / f = q := ⟨_, rfl⟩
  have hlt : q < n := by
    rw [← hq]
    exact Nat.div_lt_self (by omega) (by omega)
  rw [hq] at h
  have e1 : Int.tmod (n : Int) (f : Int) = ((n % f : Nat) : Int) := by rw [tmod_pos (by omega)]; rfl
  have e2 : wrap64 (Int.tdiv (n : Int) (f : Int)) = (q : Int) := by
    rw [tdiv_pos (by omega), ← Int.natCast_ediv, hq]
    exact w64 (by omega) (by omega)
  have e3 : wrap64 ((f : Int) + 1) = ((f + 1 : Nat) : Int) := w64 (by omega) (by omega)
  by_cases c : n % f = 0
  · rw [if_pos c] at h
    refine ev_next (fun k => ?_) r h
    simp only [spec_CountFoldings.l1]
    have r1 : rd (ways.set n acc) (n : Int) = acc := by
      rw [rd_eq, List.getD_eq_getElem?_getD, List.getElem?_set_self (by omega)]
      rfl
    have r2 : rd (ways.set n acc) (q : Int) = cw q := by
      rw [rd_eq, List.getD_eq_getElem?_getD, List.getElem?_set_ne (by omega), hw _ hlt]
      rfl
    rw [if_pos (by omega), if_neg (by omega), if_pos (by omega), if_pos (by omega), e2, e3, if_pos (by rw [List.length_set]; omega), if_pos (by omega), if_pos (by rw [List.length_set]; omega), r1, r2, Int.toNat_natCast, List.set_set]
  · rw [if_neg c] at h
    refine ev_next (fun k => ?_) r h
    simp only [spec_CountFoldings.l1]
    rw [if_pos (by omega), if_neg (by omega), if_neg (by omega), e3]
theorem set_id (l : List Int) (n : Nat) (x : Int) (h : l[n]? = some x) : l.set n x = l := by
  apply List.ext_getElem?
  intro i
  by_cases c : i = n
  · subst c
    rw [List.getElem?_set_self (List.getElem?_eq_some_iff.1 h).1, h]
  · rw [List.getElem?_set_ne (Ne.symm c)]
theorem outer (L : Nat) (hm : L ≤ 10000) (h1 : 1 ≤ L) (ways : List Int) (n : Nat) (h2 : 2 ≤ n) (hn : n ≤ L + 1) (hL : ways.length = L + 1) (hw : ∀ j, j < n → ways[j]? = some (cw j)) (hz : ∀ j, n ≤ j → j < L + 1 → ways[j]? = some 0) :
    Ev (fun k => spec_CountFoldings.l0 k (L : Int) ways (n : Int)) (cw L) := by
  obtain ⟨d, hd⟩ : ∃ d, L + 1 - n = d := ⟨_, rfl⟩
  induction d generalizing ways n with
  | zero =>
    refine ev_now fun k => ?_
    simp only [spec_CountFoldings.l0]
    rw [if_neg (by omega), if_pos (by omega), if_pos (by omega), rd_eq, List.getD_eq_getElem?_getD, hw L (by omega)]
    rfl
  | succ d ih =>
    refine ev_next (f := fun k => spec_CountFoldings.l1 k (L : Int) ways (n : Int) ((2 : Nat) : Int)) (fun k => ?_) _ ?_
    · simp only [spec_CountFoldings.l0]
      rw [if_pos (by omega)]
      rfl
    · rw [← set_id ways n 0 (hz n (Nat.le_refl _) (by omega))]
      refine inner L n ways hL h2 (by omega) hm hw 2 (by omega) 0 _ ?_
      refine inner L n ways hL h2 (by omega) hm hw 3 (by omega) _ _ ?_
      refine inner L n ways hL h2 (by omega) hm hw 4 (by omega) _ _ ?_
      have e : (if n % 4 = 0 then wrap64 ((if n % 3 = 0 then wrap64 ((if n % 2 = 0 then wrap64 (0 + cw (n / 2)) else 0) + cw (n / 3)) else if n % 2 = 0 then wrap64 (0 + cw (n / 2)) else 0) + cw (n / 4)) else if n % 3 = 0 then wrap64 ((if n % 2 = 0 then wrap64 (0 + cw (n / 2)) else 0) + cw (n / 3)) else if n % 2 = 0 then wrap64 (0 + cw (n / 2)) else 0) = cw n := by
        conv => rhs; rw [cw]
        rw [if_neg (show ¬ n = 1 by omega), if_neg (show ¬ n = 0 by omega)]
      rw [e]
      refine ev_next (f := fun k => spec_CountFoldings.l0 k (L : Int) (ways.set n (cw n)) ((n + 1 : Nat) : Int)) (fun k => ?_) _ ?_
      · simp only [spec_CountFoldings.l1]
        rw [if_neg (by omega), w64 (by omega) (by omega)]
        rfl
      · refine ih (ways.set n (cw n)) (n + 1) (by omega) (by omega) (by rw [List.length_set]; exact hL) (fun j hj => ?_) (fun j hj hj2 => ?_) (by omega)
        · by_cases c : j = n
          · subst c
            rw [List.getElem?_set_self (by omega)]
          · rw [List.getElem?_set_ne (Ne.symm c)]
            exact hw j (by omega)
        · rw [List.getElem?_set_ne (by omega)]
          exact hz j (by omega) hj2
theorem foldsS (a : Int) : Ev (fun k => spec_CountFoldings.f k a) (if 1 ≤ a ∧ a ≤ 10000 then cw a.toNat else -1) := by
  unfold spec_CountFoldings.f
  simp only [l01In_f, Option.bind_some, decide_eq_true_eq]
  by_cases c : 1 ≤ a ∧ a ≤ 10000
  · simp only [if_pos c]
    rw [w64 (by omega) (by omega)]
    have hl : (a + 1).toNat = a.toNat + 1 := by omega
    simp only [if_pos (show 0 ≤ a + 1 by omega), if_pos (show (a + 1).toNat ≤ 35184372088832 by omega), List.length_replicate, if_pos (show 1 < (((a + 1).toNat : Nat) : Int) by omega)]
    have h := outer a.toNat (by omega) (by omega) ((List.replicate (a + 1).toNat 0).set (1 : Int).toNat 1) 2 (by omega) (by omega) (by rw [List.length_set, List.length_replicate, hl]) (fun j hj => ?_) (fun j hj hj2 => ?_)
    · rw [show ((a.toNat : Nat) : Int) = a by omega] at h
      exact h
    · rw [show (1 : Int).toNat = 1 from rfl]
      match j, hj with
      | 0, _ => rw [List.getElem?_set_ne (by omega), List.getElem?_replicate, if_pos (by omega), cw]; simp
      | 1, _ => rw [List.getElem?_set_self (by simp; omega), cw]; simp
    · rw [show (1 : Int).toNat = 1 from rfl, List.getElem?_set_ne (by omega), List.getElem?_replicate, if_pos (by omega)]
  · simp only [if_neg c]
    exact ev_const rfl
theorem FnExactCountFoldings : laws_FnExactCountFoldings.Pure := by
  intro a _
  refine Ev.rounds ?_
  unfold laws_FnExactCountFoldings.f
  refine Ev.bind (foldsS a) (Ev.bind (foldsI a) ?_)
  simp only [if_true]
  exact Ev.now _
end Go.Proofs.Ytnhkneicepmiiaa.Pure
