/- The program's EqualPieces and the reference's answer alike, for all arguments. No condition. -/
import Derived.Test.YtnhkneicepmiiaaPFnExactEqualPiecesx2
import Derived.Test.YtnhkneicepmiiaaBase
namespace Go.Proofs.Ytnhkneicepmiiaa.Pure
open Go.RowKit Go.Proofs.Ytnhkneicepmiiaa.PFnExactEqualPieces Go.Proofs.YtnhkneicepmiiaaW.PrintWords Go.Proofs.YtnhkneicepmiiaaW.PrintLast Go.Proofs.YtnhkneicepmiiaaW.PrintMore Go.Proofs.Ytnhkneicepmiiaa.Base
set_option linter.unusedVariables false
set_option linter.unusedSimpArgs false
theorem in_f (a b c : Int) : impl_in.f a b c = some (decide (b ≤ a ∧ a ≤ c)) := by
  unfold impl_in.f
  by_cases h : b ≤ a <;> simp [h]
theorem l01In_f (a b c : Int) : spec_l01In.f a b c = some (decide (b ≤ a ∧ a ≤ c)) := by
  unfold spec_l01In.f
  by_cases h : b ≤ a <;> simp [h]
/-- Two lists are told alike, element by element. -/
theorem eqIntS_f (a b : List Int) (hb : a.length ≤ 1000000000) : Ev (fun k => laws_eqIntS.f k a b) (decide (a = b)) := by
  unfold laws_eqIntS.f
  by_cases c : a.length = b.length
  · simp only [if_pos (show (a.length : Int) = (b.length : Int) by omega)]
    have h := ev_all (fun k i => laws_eqIntS.l0 k a b i) a.length (fun i => decide (rd a (i : Int) = rd b (i : Int))) false true (fun k i hi => by
      simp only [laws_eqIntS.l0]
      rw [if_pos (by omega), if_pos (by omega), if_pos (by omega), w64 (by omega) (by omega)]
      by_cases e : rd a (i : Int) = rd b (i : Int)
      · rw [if_pos e, if_pos (by simpa using e)]
      · rw [if_neg e, if_neg (by simpa using e)]) (fun k => by simp only [laws_eqIntS.l0]; rw [if_neg (by omega)])
    have e : (if (List.range a.length).all (fun i => decide (rd a (i : Int) = rd b (i : Int))) = true then true else false) = decide (a = b) := by
      by_cases e : a = b
      · subst e
        rw [if_pos (by simp)]
        simp
      · rw [if_neg]
        · simp [e]
        · intro hall
          refine e (List.ext_getElem c fun i h1 h2 => ?_)
          have := (List.all_eq_true.1 hall) i (List.mem_range.2 h1)
          rw [decide_eq_true_eq, rd_get _ _ h1, rd_get _ _ h2] at this
          exact this
    rw [e] at h
    exact h
  · simp only [if_neg (show ¬ (a.length : Int) = (b.length : Int) by omega)]
    refine ev_const ?_
    have : a ≠ b := fun e => c (by rw [e])
    simp [this]
/-- What is marked is held so. -/
theorem mark_held (a : List Int) (hb : a.length ≤ 1000000000) : ∃ m b, Ev (fun k => laws_markIntS.f k a 1) (m, b) ∧ Ev (fun k => laws_heldIntS.f k b 1) m ∧ 0 ≤ m := by
  have h1 := ev_up (fun k (s : List Int × Int) i => laws_markIntS.l0 k s.1 s.2 i) a.length (fun i s => s.1.length = a.length ∧ s.2 = 1 + (i : Int) ∧ ∀ j, j < i → s.1[j]? = some (1 + (j : Int)))
    (fun r => r.1 = 1 + (a.length : Int) ∧ r.2.length = a.length ∧ ∀ j, j < a.length → r.2[j]? = some (1 + (j : Int))) (fun i s hi hp => by
      obtain ⟨x, y⟩ := s
      obtain ⟨p1, p2, p3⟩ := hp
      simp only at p1 p2 p3
      subst p2
      refine .inl ⟨(x.set i (1 + (i : Int)), 1 + ((i + 1 : Nat) : Int)), ⟨by simp [p1], rfl, fun j hj => ?_⟩, fun r hr => ev_next (fun k => ?_) r hr⟩
      · by_cases c : j = i
        · subst c
          simp only
          rw [List.getElem?_set_self (by omega)]
        · simp only
          rw [List.getElem?_set_ne (Ne.symm c)]
          exact p3 j (by omega)
      · simp only [laws_markIntS.l0]
        rw [if_pos (by omega), if_pos (by omega), w64 (by omega) (by omega), w64 (by omega) (by omega), Int.toNat_natCast]
        congr 1 <;> omega) (fun s hp => by
      obtain ⟨x, y⟩ := s
      obtain ⟨p1, p2, p3⟩ := hp
      simp only at p1 p2 p3
      refine ⟨(y, x), ⟨p2, p1, p3⟩, ev_now fun k => ?_⟩
      simp only [laws_markIntS.l0]
      rw [if_neg (by omega)]) 0 (a, 1) (Nat.zero_le _) ⟨rfl, rfl, fun j hj => by omega⟩
  obtain ⟨⟨m, b⟩, ⟨q1, q2, q3⟩, h1⟩ := h1
  simp only at q1 q2 q3
  refine ⟨m, b, h1, ?_, by omega⟩
  have h2 := ev_to (fun k (s : Int) i => laws_heldIntS.l0 k b s i) b.length (fun i s => s = 1 + (i : Int)) m (fun i s hi hp => by
      subst hp
      refine .inl ⟨1 + ((i + 1 : Nat) : Int), rfl, fun r hr => ev_next (fun k => ?_) r hr⟩
      simp only [laws_heldIntS.l0]
      have e : rd b (i : Int) = 1 + (i : Int) := by
        rw [rd_eq, List.getD_eq_getElem?_getD, q3 i (by omega)]
        rfl
      rw [if_pos (by omega), if_pos (by omega), if_pos e, w64 (by omega) (by omega), w64 (by omega) (by omega)]
      congr 1 <;> omega) (fun s hp => by
      refine ev_now fun k => ?_
      simp only [laws_heldIntS.l0]
      rw [if_neg (by omega)]
      congr 1 <;> omega) 0 1 (Nat.zero_le _) rfl
  exact h2
def pieceV (d n : Int) (i : Nat) : Int := if (i : Int) < d % n then d / n + 1 else d / n
def piecesV (d n : Int) : List Int := if (1 ≤ n ∧ n ≤ 40) ∧ (n ≤ d ∧ d ≤ 200000) then (List.range n.toNat).map (pieceV d n) else []
theorem piecesV_len (d n : Int) : (piecesV d n).length ≤ 40 := by
  unfold piecesV
  split
  · simp
    omega
  · simp
theorem piece_bd (d n : Int) (h1 : 1 ≤ n) (h0 : 0 ≤ d) (hd : d ≤ 200000) : 0 ≤ d / n ∧ d / n ≤ 200000 :=
  ⟨Int.ediv_nonneg h0 (by omega), by have := Int.ediv_le_self n h0; omega⟩
theorem piecesI (d n : Int) : Ev (fun k => impl_EqualPieces.f k d n) (piecesV d n) := by
  unfold impl_EqualPieces.f piecesV
  simp only [in_f, Option.bind_some, decide_eq_true_eq]
  by_cases c1 : 1 ≤ n ∧ n ≤ 40
  · simp only [if_pos c1]
    by_cases c2 : n ≤ d ∧ d ≤ 200000
    · rw [if_pos ⟨c1, c2⟩]
      refine ev_next (f := fun k => impl_EqualPieces.l0 k d n [] n 0) (fun k => ?_) _ ?_
      · simp only [impl_EqualPieces.j0]
        rw [if_neg (by simp; omega)]
      · refine ev_build (fun k s i => impl_EqualPieces.l0 k d n s n i) n.toNat (pieceV d n) (fun k s i hi hs => ?_) (fun k s => ?_)
        · have hq := piece_bd d n c1.1 (by omega) c2.2
          simp (disch := omega) only [impl_EqualPieces.l0, tmod_pos, tdiv_pos, w64, if_pos, if_neg]
          unfold pieceV
          by_cases c : (i : Int) < d % n
          · rw [if_pos c, if_pos c]
          · rw [if_neg c, if_neg c]
        · simp only [impl_EqualPieces.l0]
          rw [if_neg (by omega)]
    · rw [if_neg (fun h => c2 h.2)]
      exact ev_now fun k => by simp only [impl_EqualPieces.j0]; rw [if_pos (by simp; omega)]
  · simp only [if_neg c1]
    rw [if_neg (fun h => c1 h.1)]
    exact ev_now fun k => rfl
theorem piecesS (d n : Int) : Ev (fun k => spec_EqualPieces.f k d n) (piecesV d n) := by
  unfold spec_EqualPieces.f piecesV
  simp only [l01In_f, Option.bind_some, decide_eq_true_eq]
  by_cases c1 : 1 ≤ n ∧ n ≤ 40
  · simp only [if_pos c1]
    by_cases c2 : n ≤ d ∧ d ≤ 200000
    · rw [if_pos ⟨c1, c2⟩]
      refine ev_next (f := fun k => spec_EqualPieces.l0 k d n [] 0) (fun k => ?_) _ ?_
      · simp only [spec_EqualPieces.j0]
        rw [if_neg (by simp; omega)]
      · refine ev_build (fun k s i => spec_EqualPieces.l0 k d n s i) n.toNat (pieceV d n) (fun k s i hi hs => ?_) (fun k s => ?_)
        · have hq := piece_bd d n c1.1 (by omega) c2.2
          simp (disch := omega) only [spec_EqualPieces.l0, tmod_pos, tdiv_pos, w64, if_pos, if_neg]
          unfold pieceV
          by_cases c : (i : Int) < d % n
          · rw [if_pos c, if_pos c]
          · rw [if_neg c, if_neg c]
        · simp only [spec_EqualPieces.l0]
          rw [if_neg (by omega)]
    · rw [if_neg (fun h => c2 h.2)]
      exact ev_now fun k => by simp only [spec_EqualPieces.j0]; rw [if_pos (by simp; omega)]
  · simp only [if_neg c1]
    rw [if_neg (fun h => c1 h.1)]
    exact ev_now fun k => rfl
theorem FnExactEqualPieces : laws_FnExactEqualPieces.Pure := by
  intro d n _ _
  refine Ev.rounds ?_
  unfold laws_FnExactEqualPieces.f
  have hl := piecesV_len d n
  obtain ⟨m, b, hm, hh, h0⟩ := mark_held (piecesV d n) (by omega)
  have he := eqIntS_f (piecesV d n) (piecesV d n) (by omega)
  rw [decide_eq_true rfl] at he
  refine Ev.bind (piecesS d n) (Ev.bind (piecesI d n) (Ev.bind he ?_))
  simp only [if_true]
  refine Ev.bind hm (Ev.bind hh ?_)
  simp only [if_neg (show ¬ m < 0 by omega), if_true]
  refine Ev.bind (piecesI d n) (Ev.bind he ?_)
  simp only [if_true]
  refine Ev.bind hh ?_
  simp only [if_neg (show ¬ m < 0 by omega), if_true]
  exact Ev.now _
end Go.Proofs.Ytnhkneicepmiiaa.Pure
