/- The program's BadPieces and the reference's answer alike, for all arguments. No condition. -/
import Derived.Test.YtbfgllgjniogiaaPFnExactBadPiecesx2
import Derived.Test.YtbfgllgjniogiaaBase
namespace Go.Proofs.Ytbfgllgjniogiaa.Pure
open Go.RowKit Go.Proofs.Ytbfgllgjniogiaa.PFnExactBadPieces Go.Proofs.YtbfgllgjniogiaaW.PrintWords Go.Proofs.YtbfgllgjniogiaaW.PrintLast Go.Proofs.YtbfgllgjniogiaaW.PrintMore Go.Proofs.Ytbfgllgjniogiaa.Base
set_option linter.unusedVariables false
set_option linter.unusedSimpArgs false
theorem in_f (a b c : Int) : impl_in.f a b c = some (decide (b ≤ a ∧ a ≤ c)) := by
  unfold impl_in.f
  by_cases h : b ≤ a <;> simp [h]
theorem l01In_f (a b c : Int) : spec_l01In.f a b c = some (decide (b ≤ a ∧ a ≤ c)) := by
  unfold spec_l01In.f
  by_cases h : b ≤ a <;> simp [h]
/-- Two lists are told alike, element by element. -/
theorem eqIntS_f (a b : List Int) (hb : a.length ≤ 1000000000) : Ev (fun k => laws_eqIntS.f k a b) (decide (a = b)) := by
  unfold laws_eqIntS.f
  by_cases c : a.length = b.length
  · simp only [if_pos (show (a.length : Int) = (b.length : Int) by omega)]
    have h := ev_all (fun k i => laws_eqIntS.l0 k a b i) a.length (fun i => decide (rd a (i : Int) = rd b (i : Int))) false true (fun k i hi => by
      simp only [laws_eqIntS.l0]
      rw [if_pos (by omega), if_pos (by omega), if_pos (by omega), w64 (by omega) (by omega)]
      by_cases e : rd a (i : Int) = rd b (i : Int)
      · rw [if_pos e, if_pos (by simpa using e)]
      · rw [if_neg e, if_neg (by simpa using e)]) (fun k => by simp only [laws_eqIntS.l0]; rw [if_neg (by omega)])
    have e : (if (List.range a.length).all (fun i => decide (rd a (i : Int) = rd b (i : Int))) = true then true else false) = decide (a = b) := by
      by_cases e : a = b
      · subst e
        rw [if_pos (by simp)]
        simp
      · rw [if_neg]
        · simp [e]
        · intro hall
          refine e (List.ext_getElem c fun i h1 h2 => ?_)
          have := (List.all_eq_true.1 hall) i (List.mem_range.2 h1)
          rw [decide_eq_true_eq, rd_get _ _ h1, rd_get _ _ h2] at this
          exact this
    rw [e] at h
    exact h
  · simp only [if_neg (show ¬ (a.length : Int) = (b.length : Int) by omega)]
    refine ev_const ?_
    have : a ≠ b := fun e => c (by rw [e])
    simp [this]
theorem toIntS_f (l : List Int) (hb : l.length ≤ 1048576) : Ev (fun k => laws_toIntS.f k l) l := by
  unfold laws_toIntS.f
  simp only [if_pos (show (0 : Int) ≤ (l.length : Int) by omega), Int.toNat_natCast, if_pos (show l.length ≤ 35184372088832 by omega)]
  have h := ev_copy (fun k s i => laws_toIntS.l0 k l s i) l 0 id 0 (fun k s i hi hs => by
    simp (disch := omega) only [laws_toIntS.l0, if_pos, w64]
    simp only [rd, Int.toNat_natCast, id]) (fun k s => by
    simp only [laws_toIntS.l0]
    rw [if_neg (by omega)])
  rwa [List.map_id] at h
theorem eqIntS_same (l : List Int) (hb : l.length ≤ 1000000000) : Ev (fun k => laws_eqIntS.f k l l) true := by
  have h := eqIntS_f l l hb
  rwa [decide_eq_true rfl] at h
/-- What is marked is held so. -/
theorem mark_held (a : List Int) (hb : a.length ≤ 1000000000) : ∃ m b, Ev (fun k => laws_markIntS.f k a 1) (m, b) ∧ Ev (fun k => laws_heldIntS.f k b 1) m ∧ 0 ≤ m := by
  have h1 := ev_up (fun k (s : List Int × Int) i => laws_markIntS.l0 k s.1 s.2 i) a.length (fun i s => s.1.length = a.length ∧ s.2 = 1 + (i : Int) ∧ ∀ j, j < i → s.1[j]? = some (1 + (j : Int)))
    (fun r => r.1 = 1 + (a.length : Int) ∧ r.2.length = a.length ∧ ∀ j, j < a.length → r.2[j]? = some (1 + (j : Int))) (fun i s hi hp => by
      obtain ⟨x, y⟩ := s
      obtain ⟨p1, p2, p3⟩ := hp
      simp only at p1 p2 p3
      subst p2
      refine .inl ⟨(x.set i (1 + (i : Int)), 1 + ((i + 1 : Nat) : Int)), ⟨by simp [p1], rfl, fun j hj => ?_⟩, fun r hr => ev_next (fun k => ?_) r hr⟩
      · by_cases c : j = i
        · subst c
          simp only
          rw [List.getElem?_set_self (by omega)]
        · simp only
          rw [List.getElem?_set_ne (Ne.symm c)]
          exact p3 j (by omega)
      · simp only [laws_markIntS.l0]
        rw [if_pos (by omega), if_pos (by omega), w64 (by omega) (by omega), w64 (by omega) (by omega), Int.toNat_natCast]
        congr 1 <;> omega) (fun s hp => by
      obtain ⟨x, y⟩ := s
      obtain ⟨p1, p2, p3⟩ := hp
      simp only at p1 p2 p3
      refine ⟨(y, x), ⟨p2, p1, p3⟩, ev_now fun k => ?_⟩
      simp only [laws_markIntS.l0]
      rw [if_neg (by omega)]) 0 (a, 1) (Nat.zero_le _) ⟨rfl, rfl, fun j hj => by omega⟩
  obtain ⟨⟨m, b⟩, ⟨q1, q2, q3⟩, h1⟩ := h1
  simp only at q1 q2 q3
  refine ⟨m, b, h1, ?_, by omega⟩
  have h2 := ev_to (fun k (s : Int) i => laws_heldIntS.l0 k b s i) b.length (fun i s => s = 1 + (i : Int)) m (fun i s hi hp => by
      subst hp
      refine .inl ⟨1 + ((i + 1 : Nat) : Int), rfl, fun r hr => ev_next (fun k => ?_) r hr⟩
      simp only [laws_heldIntS.l0]
      have e : rd b (i : Int) = 1 + (i : Int) := by
        rw [rd_eq, List.getD_eq_getElem?_getD, q3 i (by omega)]
        rfl
      rw [if_pos (by omega), if_pos (by omega), if_pos e, w64 (by omega) (by omega), w64 (by omega) (by omega)]
      congr 1 <;> omega) (fun s hp => by
      refine ev_now fun k => ?_
      simp only [laws_heldIntS.l0]
      rw [if_neg (by omega)]
      congr 1 <;> omega) 0 1 (Nat.zero_le _) rfl
  exact h2
/-- Whatever is marked, a number of at least 0 comes back. -/
theorem mark_any (a : List Int) (s : Int) (hs : 1 ≤ s ∧ s ≤ 1000000000) (hb : a.length ≤ 1000000000) : ∃ m b, Ev (fun k => laws_markIntS.f k a s) (m, b) ∧ m = s + (a.length : Int) := by
  have h1 := ev_up (fun k (s : List Int × Int) i => laws_markIntS.l0 k s.1 s.2 i) a.length (fun i x => x.1.length = a.length ∧ x.2 = s + (i : Int))
    (fun r => r.1 = s + (a.length : Int)) (fun i x hi hp => by
      obtain ⟨x, y⟩ := x
      obtain ⟨p1, p2⟩ := hp
      simp only at p1 p2
      subst p2
      refine .inl ⟨(x.set i (s + (i : Int)), s + ((i + 1 : Nat) : Int)), ⟨by simp [p1], rfl⟩, fun r hr => ev_next (fun k => ?_) r hr⟩
      simp only [laws_markIntS.l0]
      rw [if_pos (by omega), if_pos (by omega), w64 (by omega) (by omega), w64 (by omega) (by omega), Int.toNat_natCast]
      congr 1 <;> omega) (fun x hp => by
      obtain ⟨x, y⟩ := x
      obtain ⟨p1, p2⟩ := hp
      simp only at p1 p2
      refine ⟨(y, x), p2, ev_now fun k => ?_⟩
      simp only [laws_markIntS.l0]
      rw [if_neg (by omega)]) 0 (a, s) (Nat.zero_le _) ⟨rfl, by simp⟩
  obtain ⟨⟨m, b⟩, q, h1⟩ := h1
  exact ⟨m, b, h1, q⟩
/-- All numbers of a list are in a range. -/
def allOk (l : List Int) (a b : Int) : Bool := l.all fun x => decide (a ≤ x ∧ x ≤ b)
theorem allOk_mem {l : List Int} {a b : Int} (h : allOk l a b = true) : ∀ x ∈ l, a ≤ x ∧ x ≤ b := by
  intro x hx
  simpa using (List.all_eq_true.1 h) x hx
theorem allIn_f (l : List Int) (a b : Int) : impl_allIn.f l a b = some (allOk l a b) := rfl
/-- The reference's loop that asks the same. -/
theorem all_loop {R : Type} (F : Nat → Int → Option R) (l : List Int) (a b : Int) (r0 r1 : R)
    (hstep : ∀ (k : Nat) (i : Nat), i < l.length → F (k + 1) (i : Int) = if (decide (a ≤ rd l (i : Int) ∧ rd l (i : Int) ≤ b)) = true then F k ((i : Int) + 1) else some r0)
    (hend : ∀ (k : Nat), F (k + 1) (l.length : Int) = some r1) : Ev (fun k => F k 0) (if allOk l a b = true then r1 else r0) := by
  have h := ev_all F l.length (fun i => decide (a ≤ l.getD i 0 ∧ l.getD i 0 ≤ b)) r0 r1 (fun k i hi => by rw [hstep k i hi, rd_eq]) hend
  have e := all_range l 0 (fun x => decide (a ≤ x ∧ x ≤ b))
  rw [e] at h
  exact h
def piecesOk (l : List Int) : Bool := decide (l.length ≤ 40) && allOk l 1 5000
theorem piecesOkI (l : List Int) : impl_PiecesOk.f l = some (piecesOk l) := by
  unfold impl_PiecesOk.f piecesOk
  rw [allIn_f]
  by_cases c : l.length ≤ 40
  · rw [if_pos (by omega)]
    simp [c]
  · rw [if_neg (by omega)]
    simp [c]
theorem piecesOkS (l : List Int) (hb : l.length ≤ 1048576) : Ev (fun k => spec_PiecesOk.f k l) (piecesOk l) := by
  unfold spec_PiecesOk.f
  have h := all_loop (fun k i => spec_PiecesOk.l0 k l i) l 1 5000 false (decide (l.length ≤ 40)) (fun k i hi => by
    simp (disch := omega) only [spec_PiecesOk.l0, l01In_f, Option.bind_some, if_pos, w64]) (fun k => by
    simp only [spec_PiecesOk.l0]
    rw [if_neg (by omega)]
    congr 1
    exact decide_eq_decide.2 (by omega))
  unfold piecesOk
  cases c : allOk l 1 5000
  · rw [c] at h
    simpa using h
  · rw [c] at h
    simpa using h
theorem piecesOk_mem {l : List Int} (h : piecesOk l = true) : l.length ≤ 40 ∧ ∀ x ∈ l, 1 ≤ x ∧ x ≤ 5000 := by
  unfold piecesOk at h
  simp only [Bool.and_eq_true, decide_eq_true_eq] at h
  exact ⟨h.1, allOk_mem h.2⟩
/-- Farther from w than t. -/
def isBad (w t n : Int) : Bool := decide (n < w - t ∨ w + t < n)
def badL (l : List Int) (w t : Int) : List Int := ((List.range l.length).filter fun i => isBad w t (l.getD i 0)).map fun (i : Nat) => (i : Int)
def badOk (l : List Int) (w t : Int) : Bool := piecesOk l && decide (1 ≤ w ∧ w ≤ 5000) && decide (0 ≤ t ∧ t ≤ 1000)
def badV (l : List Int) (w t : Int) : List Int := if badOk l w t = true then badL l w t else []
theorem badL_len (l : List Int) (w t : Int) : (badL l w t).length ≤ l.length := by
  unfold badL
  rw [List.length_map]
  exact Nat.le_trans (List.length_filter_le _ _) (by simp)
theorem badOk_iff (l : List Int) (w t : Int) : badOk l w t = true ↔ piecesOk l = true ∧ (1 ≤ w ∧ w ≤ 5000) ∧ (0 ≤ t ∧ t ≤ 1000) := by
  unfold badOk
  simp only [Bool.and_eq_true, decide_eq_true_eq, and_assoc]
theorem badV_len (l : List Int) (w t : Int) : (badV l w t).length ≤ 40 := by
  unfold badV
  split
  · rename_i h
    have := badL_len l w t
    have := (piecesOk_mem ((badOk_iff l w t).1 h).1).1
    omega
  · simp
theorem badI (l : List Int) (w t : Int) (hb : l.length ≤ 1048576) : Ev (fun k => impl_BadPieces.f k l w t) (badV l w t) := by
  unfold impl_BadPieces.f badV
  simp only [piecesOkI, in_f, Option.bind_some, decide_eq_true_eq]
  by_cases c1 : piecesOk l = true
  · simp only [if_pos c1]
    obtain ⟨hl, hm⟩ := piecesOk_mem c1
    by_cases c2 : 1 ≤ w ∧ w ≤ 5000
    · simp only [if_pos c2]
      by_cases c3 : 0 ≤ t ∧ t ≤ 1000
      · rw [if_pos ((badOk_iff l w t).2 ⟨c1, c2, c3⟩)]
        refine ev_next (f := fun k => impl_BadPieces.l0 k w t [] l (l.length : Int) 0) (fun k => ?_) _ (ev_filter (fun k s i => impl_BadPieces.l0 k w t s l (l.length : Int) i) l.length (fun i => isBad w t (l.getD i 0)) (fun k s i hi hs => ?_) (fun k s => ?_))
        · simp only [impl_BadPieces.j0]
          rw [if_neg (by simp; omega)]
        · have hx := hm _ (List.getElem_mem hi)
          have e : l.getD i 0 = l[i] := by rw [List.getD_eq_getElem?_getD, List.getElem?_eq_getElem hi]; rfl
          rw [e]
          simp only [impl_BadPieces.l0, mx_eq]
          unfold isBad
          rw [if_pos (by omega), if_pos (by omega), if_pos (by omega), rd_get _ _ hi, w64 (x := l[i] - w) (by omega) (by omega), w64 (x := w - l[i]) (by omega) (by omega), w64 (x := (i : Int) + 1) (by omega) (by omega)]
          by_cases c4 : l[i] < w - t ∨ w + t < l[i]
          · rw [if_pos (by omega), if_pos (by omega), if_pos (by simpa using c4)]
          · rw [if_neg (by omega), if_neg (by simpa using c4)]
        · simp only [impl_BadPieces.l0]
          rw [if_neg (by omega)]
      · rw [if_neg (fun h => c3 ((badOk_iff l w t).1 h).2.2)]
        exact ev_now fun k => by simp only [impl_BadPieces.j0]; rw [if_pos (by simp; omega)]
    · simp only [if_neg c2]
      rw [if_neg (fun h => c2 ((badOk_iff l w t).1 h).2.1)]
      exact ev_now fun k => rfl
  · simp only [if_neg c1]
    rw [if_neg (fun h => c1 ((badOk_iff l w t).1 h).1)]
    exact ev_now fun k => rfl
theorem badS (l : List Int) (w t : Int) (hb : l.length ≤ 1048576) : Ev (fun k => spec_BadPieces.f k l w t) (badV l w t) := by
  unfold spec_BadPieces.f badV
  simp only [Option.bind_some]
  refine Ev.bind (piecesOkS l hb) ?_
  simp only [l01In_f, Option.bind_some, decide_eq_true_eq]
  by_cases c1 : piecesOk l = true
  · simp only [if_pos c1]
    obtain ⟨hl, hm⟩ := piecesOk_mem c1
    by_cases c2 : 1 ≤ w ∧ w ≤ 5000
    · simp only [if_pos c2]
      by_cases c3 : 0 ≤ t ∧ t ≤ 1000
      · rw [if_pos ((badOk_iff l w t).2 ⟨c1, c2, c3⟩)]
        refine ev_next (f := fun k => spec_BadPieces.l0 k l w t [] 0) (fun k => ?_) _ (ev_filter (fun k s i => spec_BadPieces.l0 k l w t s i) l.length (fun i => isBad w t (l.getD i 0)) (fun k s i hi hs => ?_) (fun k s => ?_))
        · simp only [spec_BadPieces.j0]
          rw [if_neg (by simp; omega)]
        · have hx := hm _ (List.getElem_mem hi)
          have e : l.getD i 0 = l[i] := by rw [List.getD_eq_getElem?_getD, List.getElem?_eq_getElem hi]; rfl
          rw [e]
          simp only [spec_BadPieces.l0, l01In_f, Option.bind_some, decide_eq_true_eq]
          unfold isBad
          rw [if_pos (by omega), if_pos (by omega), rd_get _ _ hi, w64 (x := w - t) (by omega) (by omega), w64 (x := w + t) (by omega) (by omega), w64 (x := (i : Int) + 1) (by omega) (by omega)]
          by_cases c4 : l[i] < w - t ∨ w + t < l[i]
          · rw [if_neg (by omega), if_pos (by omega), if_pos (by simpa using c4)]
          · rw [if_pos (by omega), if_neg (by simpa using c4)]
        · simp only [spec_BadPieces.l0]
          rw [if_neg (by omega)]
      · rw [if_neg (fun h => c3 ((badOk_iff l w t).1 h).2.2)]
        exact ev_now fun k => by simp only [spec_BadPieces.j0]; rw [if_pos (by simp; omega)]
    · simp only [if_neg c2]
      rw [if_neg (fun h => c2 ((badOk_iff l w t).1 h).2.1)]
      exact ev_now fun k => rfl
  · simp only [if_neg c1]
    rw [if_neg (fun h => c1 ((badOk_iff l w t).1 h).1)]
    exact ev_now fun k => rfl
theorem FnExactBadPieces : laws_FnExactBadPieces.Pure := by
  intro l w t _ _ _ _ _
  refine Ev.rounds ?_
  unfold laws_FnExactBadPieces.f
  by_cases c : (l.length : Int) > 1048576
  · simp only [if_pos c]
    exact Ev.now _
  · simp only [if_neg c]
    have ht := toIntS_f l (by omega)
    have hl := badV_len l w t
    obtain ⟨m, b, hm, hh, h0⟩ := mark_held (badV l w t) (by omega)
    obtain ⟨m', b', hm', e'⟩ := mark_any l 1 (by omega) (by omega)
    have he := eqIntS_same (badV l w t) (by omega)
    refine Ev.bind ht (Ev.bind (badS l w t (by omega)) (Ev.bind ht (Ev.bind (badI l w t (by omega)) (Ev.bind he ?_))))
    simp only [if_true]
    refine Ev.bind ht (Ev.bind (eqIntS_same l (by omega)) ?_)
    simp only [if_true]
    refine Ev.bind hm' ?_
    simp only [if_neg (show ¬ m' < 0 by omega)]
    refine Ev.bind he ?_
    refine ev_next (fun k => rfl) _ ?_
    simp only [Bool.not_true, Bool.false_eq_true, if_false]
    refine Ev.bind hm (Ev.bind hh ?_)
    simp only [if_neg (show ¬ m < 0 by omega), if_true]
    refine Ev.bind ht (Ev.bind (badI l w t (by omega)) (Ev.bind he ?_))
    simp only [if_true]
    refine Ev.bind hh ?_
    simp only [if_neg (show ¬ m < 0 by omega), if_true]
    exact Ev.now _
end Go.Proofs.Ytbfgllgjniogiaa.Pure
