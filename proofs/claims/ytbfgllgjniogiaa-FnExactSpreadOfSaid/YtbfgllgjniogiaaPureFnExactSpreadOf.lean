/- The program's SpreadOf and the reference's answer alike, for all arguments. No condition. -/
import Derived.Test.YtbfgllgjniogiaaPFnExactSpreadOfx2
import Derived.Test.YtbfgllgjniogiaaBase
namespace Go.Proofs.Ytbfgllgjniogiaa.Pure
open Go.RowKit Go.Proofs.Ytbfgllgjniogiaa.PFnExactSpreadOf Go.Proofs.YtbfgllgjniogiaaW.PrintWords Go.Proofs.YtbfgllgjniogiaaW.PrintLast Go.Proofs.YtbfgllgjniogiaaW.PrintMore Go.Proofs.Ytbfgllgjniogiaa.Base
set_option linter.unusedVariables false
set_option linter.unusedSimpArgs false
theorem l01In_f (a b c : Int) : spec_l01In.f a b c = some (decide (b ≤ a ∧ a ≤ c)) := by
  unfold spec_l01In.f
  by_cases h : b ≤ a <;> simp [h]
/-- Two lists are told alike, element by element. -/
theorem eqIntS_f (a b : List Int) (hb : a.length ≤ 1000000000) : Ev (fun k => laws_eqIntS.f k a b) (decide (a = b)) := by
  unfold laws_eqIntS.f
  by_cases c : a.length = b.length
  · simp only [if_pos (show (a.length : Int) = (b.length : Int) by omega)]
    have h := ev_all (fun k i => laws_eqIntS.l0 k a b i) a.length (fun i => decide (rd a (i : Int) = rd b (i : Int))) false true (fun k i hi => by
      simp only [laws_eqIntS.l0]
      rw [if_pos (by omega), if_pos (by omega), if_pos (by omega), w64 (by omega) (by omega)]
      by_cases e : rd a (i : Int) = rd b (i : Int)
      · rw [if_pos e, if_pos (by simpa using e)]
      · rw [if_neg e, if_neg (by simpa using e)]) (fun k => by simp only [laws_eqIntS.l0]; rw [if_neg (by omega)])
    have e : (if (List.range a.length).all (fun i => decide (rd a (i : Int) = rd b (i : Int))) = true then true else false) = decide (a = b) := by
      by_cases e : a = b
      · subst e
        rw [if_pos (by simp)]
        simp
      · rw [if_neg]
        · simp [e]
        · intro hall
          refine e (List.ext_getElem c fun i h1 h2 => ?_)
          have := (List.all_eq_true.1 hall) i (List.mem_range.2 h1)
          rw [decide_eq_true_eq, rd_get _ _ h1, rd_get _ _ h2] at this
          exact this
    rw [e] at h
    exact h
  · simp only [if_neg (show ¬ (a.length : Int) = (b.length : Int) by omega)]
    refine ev_const ?_
    have : a ≠ b := fun e => c (by rw [e])
    simp [this]
theorem toIntS_f (l : List Int) (hb : l.length ≤ 1048576) : Ev (fun k => laws_toIntS.f k l) l := by
  unfold laws_toIntS.f
  simp only [if_pos (show (0 : Int) ≤ (l.length : Int) by omega), Int.toNat_natCast, if_pos (show l.length ≤ 35184372088832 by omega)]
  have h := ev_copy (fun k s i => laws_toIntS.l0 k l s i) l 0 id 0 (fun k s i hi hs => by
    simp (disch := omega) only [laws_toIntS.l0, if_pos, w64]
    simp only [rd, Int.toNat_natCast, id]) (fun k s => by
    simp only [laws_toIntS.l0]
    rw [if_neg (by omega)])
  rwa [List.map_id] at h
theorem eqIntS_same (l : List Int) (hb : l.length ≤ 1000000000) : Ev (fun k => laws_eqIntS.f k l l) true := by
  have h := eqIntS_f l l hb
  rwa [decide_eq_true rfl] at h
/-- All numbers of a list are in a range. -/
def allOk (l : List Int) (a b : Int) : Bool := l.all fun x => decide (a ≤ x ∧ x ≤ b)
theorem allOk_mem {l : List Int} {a b : Int} (h : allOk l a b = true) : ∀ x ∈ l, a ≤ x ∧ x ≤ b := by
  intro x hx
  simpa using (List.all_eq_true.1 h) x hx
theorem allIn_f (l : List Int) (a b : Int) : impl_allIn.f l a b = some (allOk l a b) := rfl
/-- The reference's loop that asks the same. -/
theorem all_loop {R : Type} (F : Nat → Int → Option R) (l : List Int) (a b : Int) (r0 r1 : R)
    (hstep : ∀ (k : Nat) (i : Nat), i < l.length → F (k + 1) (i : Int) = if (decide (a ≤ rd l (i : Int) ∧ rd l (i : Int) ≤ b)) = true then F k ((i : Int) + 1) else some r0)
    (hend : ∀ (k : Nat), F (k + 1) (l.length : Int) = some r1) : Ev (fun k => F k 0) (if allOk l a b = true then r1 else r0) := by
  have h := ev_all F l.length (fun i => decide (a ≤ l.getD i 0 ∧ l.getD i 0 ≤ b)) r0 r1 (fun k i hi => by rw [hstep k i hi, rd_eq]) hend
  have e := all_range l 0 (fun x => decide (a ≤ x ∧ x ≤ b))
  rw [e] at h
  exact h
def piecesOk (l : List Int) : Bool := decide (l.length ≤ 40) && allOk l 1 5000
theorem piecesOkI (l : List Int) : impl_PiecesOk.f l = some (piecesOk l) := by
  unfold impl_PiecesOk.f piecesOk
  rw [allIn_f]
  by_cases c : l.length ≤ 40
  · rw [if_pos (by omega)]
    simp [c]
  · rw [if_neg (by omega)]
    simp [c]
theorem piecesOkS (l : List Int) (hb : l.length ≤ 1048576) : Ev (fun k => spec_PiecesOk.f k l) (piecesOk l) := by
  unfold spec_PiecesOk.f
  have h := all_loop (fun k i => spec_PiecesOk.l0 k l i) l 1 5000 false (decide (l.length ≤ 40)) (fun k i hi => by
    simp (disch := omega) only [spec_PiecesOk.l0, l01In_f, Option.bind_some, if_pos, w64]) (fun k => by
    simp only [spec_PiecesOk.l0]
    rw [if_neg (by omega)]
    congr 1
    exact decide_eq_decide.2 (by omega))
  unfold piecesOk
  cases c : allOk l 1 5000
  · rw [c] at h
    simpa using h
  · rw [c] at h
    simpa using h
def spreadV (l : List Int) : Int := if piecesOk l = true then (if l.length = 0 then 0 else wrap64 (smxF l (l.length - 1) - smnF l (l.length - 1))) else -1
theorem spreadI (l : List Int) : impl_SpreadOf.f l = some (spreadV l) := by
  unfold impl_SpreadOf.f spreadV
  simp only [piecesOkI, Option.bind_some]
  by_cases c1 : piecesOk l = true
  · rw [if_pos c1, if_pos c1]
    by_cases c2 : l.length = 0
    · rw [if_pos (by omega), if_pos c2]
    · rw [if_neg (by omega), if_neg c2]
      unfold slices_Max_int_int.f slices_Min_int_int.f
      rw [if_pos (by omega), if_pos (by omega)]
      rfl
  · rw [if_neg c1, if_neg c1]
theorem spreadS (l : List Int) (hb : l.length ≤ 1048576) : Ev (fun k => spec_SpreadOf.f k l) (spreadV l) := by
  unfold spec_SpreadOf.f spreadV
  refine Ev.bind (piecesOkS l hb) ?_
  by_cases c1 : piecesOk l = true
  · simp only [if_pos c1]
    by_cases c2 : l.length = 0
    · simp only [if_pos (show (l.length : Int) = 0 by omega), if_pos c2]
      exact Ev.now _
    · simp only [if_neg (show ¬ (l.length : Int) = 0 by omega), if_neg c2, if_pos (show 0 < (l.length : Int) by omega)]
      have h := ev_to (fun k (s : Int × Int) i => spec_SpreadOf.l0 k l s.1 s.2 i) l.length (fun i s => s.1 = smnF l (i - 1) ∧ s.2 = smxF l (i - 1)) (wrap64 (smxF l (l.length - 1) - smnF l (l.length - 1))) (fun i s hi hp => by
          obtain ⟨x, y⟩ := s
          obtain ⟨p1, p2⟩ := hp
          simp only at p1 p2
          subst p1 p2
          refine .inl ⟨(smnF l i, smxF l i), ⟨rfl, rfl⟩, fun r hr => ev_next (fun k => ?_) r hr⟩
          simp only [spec_SpreadOf.l0]
          rw [if_pos (by omega), if_pos (by omega), w64 (x := (i : Int) + 1) (by omega) (by omega)]
          have e1 : mn (smnF l (i - 1)) (rd l (i : Int)) = smnF l i := by
            cases i with
            | zero => show mn (rd l 0) (rd l 0) = rd l 0; rw [mn_eq]; omega
            | succ j => rfl
          have e2 : mx (smxF l (i - 1)) (rd l (i : Int)) = smxF l i := by
            cases i with
            | zero => show mx (rd l 0) (rd l 0) = rd l 0; rw [mx_eq]; omega
            | succ j => rfl
          rw [e1, e2]) (fun s hp => by
          refine ev_now fun k => ?_
          simp only [spec_SpreadOf.l0]
          rw [if_neg (by omega), hp.1, hp.2]) 0 (rd l 0, rd l 0) (Nat.zero_le _) ⟨rfl, rfl⟩
      exact h
  · simp only [if_neg c1]
    exact Ev.now _
theorem FnExactSpreadOf : laws_FnExactSpreadOf.Pure := by
  intro l _ _ _
  refine Ev.rounds ?_
  unfold laws_FnExactSpreadOf.f
  by_cases c : (l.length : Int) > 1048576
  · simp only [if_pos c]
    exact Ev.now _
  · simp only [if_neg c]
    have ht := toIntS_f l (by omega)
    refine Ev.bind ht (Ev.bind (spreadS l (by omega)) (Ev.bind ht ?_))
    simp only [spreadI, Option.bind_some, if_true]
    refine Ev.bind ht (Ev.bind (eqIntS_same l (by omega)) ?_)
    simp only [if_true]
    exact Ev.now _
end Go.Proofs.Ytbfgllgjniogiaa.Pure
