/- The program's TracesAfter and the reference's answer alike, for all arguments. No condition. -/
import Derived.Test.YtbfgllgjniogiaaPFnExactTracesAfterx3
import Derived.Test.YtbfgllgjniogiaaBase
namespace Go.Proofs.Ytbfgllgjniogiaa.Pure
open Go.RowKit Go.Proofs.Ytbfgllgjniogiaa.PFnExactTracesAfter Go.Proofs.YtbfgllgjniogiaaW.PrintWords Go.Proofs.YtbfgllgjniogiaaW.PrintLast Go.Proofs.YtbfgllgjniogiaaW.PrintMore Go.Proofs.Ytbfgllgjniogiaa.Base
set_option linter.unusedVariables false
set_option linter.unusedSimpArgs false
theorem l01In_f (a b c : Int) : spec_l01In.f a b c = some (decide (b ≤ a ∧ a ≤ c)) := by
  unfold spec_l01In.f
  by_cases h : b ≤ a <;> simp [h]
/-- Two lists are told alike, element by element. -/
theorem eqIntS_f (a b : List Int) (hb : a.length ≤ 1000000000) : Ev (fun k => laws_eqIntS.f k a b) (decide (a = b)) := by
  unfold laws_eqIntS.f
  by_cases c : a.length = b.length
  · simp only [if_pos (show (a.length : Int) = (b.length : Int) by omega)]
    have h := ev_all (fun k i => laws_eqIntS.l0 k a b i) a.length (fun i => decide (rd a (i : Int) = rd b (i : Int))) false true (fun k i hi => by
      simp only [laws_eqIntS.l0]
      rw [if_pos (by omega), if_pos (by omega), if_pos (by omega), w64 (by omega) (by omega)]
      by_cases e : rd a (i : Int) = rd b (i : Int)
      · rw [if_pos e, if_pos (by simpa using e)]
      · rw [if_neg e, if_neg (by simpa using e)]) (fun k => by simp only [laws_eqIntS.l0]; rw [if_neg (by omega)])
    have e : (if (List.range a.length).all (fun i => decide (rd a (i : Int) = rd b (i : Int))) = true then true else false) = decide (a = b) := by
      by_cases e : a = b
      · subst e
        rw [if_pos (by simp)]
        simp
      · rw [if_neg]
        · simp [e]
        · intro hall
          refine e (List.ext_getElem c fun i h1 h2 => ?_)
          have := (List.all_eq_true.1 hall) i (List.mem_range.2 h1)
          rw [decide_eq_true_eq, rd_get _ _ h1, rd_get _ _ h2] at this
          exact this
    rw [e] at h
    exact h
  · simp only [if_neg (show ¬ (a.length : Int) = (b.length : Int) by omega)]
    refine ev_const ?_
    have : a ≠ b := fun e => c (by rw [e])
    simp [this]
theorem toIntS_f (l : List Int) (hb : l.length ≤ 1048576) : Ev (fun k => laws_toIntS.f k l) l := by
  unfold laws_toIntS.f
  simp only [if_pos (show (0 : Int) ≤ (l.length : Int) by omega), Int.toNat_natCast, if_pos (show l.length ≤ 35184372088832 by omega)]
  have h := ev_copy (fun k s i => laws_toIntS.l0 k l s i) l 0 id 0 (fun k s i hi hs => by
    simp (disch := omega) only [laws_toIntS.l0, if_pos, w64]
    simp only [rd, Int.toNat_natCast, id]) (fun k s => by
    simp only [laws_toIntS.l0]
    rw [if_neg (by omega)])
  rwa [List.map_id] at h
theorem eqIntS_same (l : List Int) (hb : l.length ≤ 1000000000) : Ev (fun k => laws_eqIntS.f k l l) true := by
  have h := eqIntS_f l l hb
  rwa [decide_eq_true rfl] at h
theorem toBoolS_f (l : List Bool) (hb : l.length ≤ 1048576) : Ev (fun k => laws_toBoolS.f k l) l := by
  unfold laws_toBoolS.f
  simp only [if_pos (show (0 : Int) ≤ (l.length : Int) by omega), Int.toNat_natCast, if_pos (show l.length ≤ 281474976710656 by omega)]
  have h := ev_copy (fun k s i => laws_toBoolS.l0 k l s i) l false id false (fun k s i hi hs => by
    simp (disch := omega) only [laws_toBoolS.l0, if_pos, w64]
    simp only [rdOf, Int.toNat_natCast, id]) (fun k s => by
    simp only [laws_toBoolS.l0]
    rw [if_neg (by omega)])
  rwa [List.map_id] at h
theorem eqBoolS_same (l : List Bool) (hb : l.length ≤ 1048576) : Ev (fun k => laws_eqBoolS.f k l l) true := by
  unfold laws_eqBoolS.f
  simp only [if_true]
  have h := ev_all (fun k i => laws_eqBoolS.l0 k l l i) l.length (fun _ => true) false true (fun k i hi => by
    simp only [laws_eqBoolS.l0, bne_self_eq_false, Bool.false_eq_true, if_false]
    rw [if_pos (by omega), if_pos (by omega), if_pos (by omega), w64 (by omega) (by omega)]
    simp) (fun k => by simp only [laws_eqBoolS.l0]; rw [if_neg (by omega)])
  simpa using h
theorem markBool_any (a : List Bool) (s : Int) (hs : 1 ≤ s ∧ s ≤ 1000000000) (hb : a.length ≤ 1000000000) : ∃ m b, Ev (fun k => laws_markBoolS.f k a s) (m, b) ∧ m = s + (a.length : Int) := by
  have h1 := ev_up (fun k (s : List Bool × Int) i => laws_markBoolS.l0 k s.1 s.2 i) a.length (fun i x => x.1.length = a.length ∧ x.2 = s + (i : Int))
    (fun r => r.1 = s + (a.length : Int)) (fun i x hi hp => by
      obtain ⟨x, y⟩ := x
      obtain ⟨p1, p2⟩ := hp
      simp only at p1 p2
      subst p2
      refine .inl ⟨(x.set i ((Int.tmod (s + (i : Int)) 3) == 0), s + ((i + 1 : Nat) : Int)), ⟨by simp [p1], rfl⟩, fun r hr => ev_next (fun k => ?_) r hr⟩
      simp only [laws_markBoolS.l0]
      rw [if_pos (by omega), if_pos (by omega), w64 (by omega) (by omega), w64 (by omega) (by omega), Int.toNat_natCast]
      congr 1 <;> omega) (fun x hp => by
      obtain ⟨x, y⟩ := x
      obtain ⟨p1, p2⟩ := hp
      simp only at p1 p2
      refine ⟨(y, x), p2, ev_now fun k => ?_⟩
      simp only [laws_markBoolS.l0]
      rw [if_neg (by omega)]) 0 (a, s) (Nat.zero_le _) ⟨rfl, by simp⟩
  obtain ⟨⟨m, b⟩, q, h1⟩ := h1
  exact ⟨m, b, h1, q⟩
/-- What is marked is held so. -/
theorem mark_held (a : List Int) (hb : a.length ≤ 1000000000) : ∃ m b, Ev (fun k => laws_markIntS.f k a 1) (m, b) ∧ Ev (fun k => laws_heldIntS.f k b 1) m ∧ 0 ≤ m := by
  have h1 := ev_up (fun k (s : List Int × Int) i => laws_markIntS.l0 k s.1 s.2 i) a.length (fun i s => s.1.length = a.length ∧ s.2 = 1 + (i : Int) ∧ ∀ j, j < i → s.1[j]? = some (1 + (j : Int)))
    (fun r => r.1 = 1 + (a.length : Int) ∧ r.2.length = a.length ∧ ∀ j, j < a.length → r.2[j]? = some (1 + (j : Int))) (fun i s hi hp => by
      obtain ⟨x, y⟩ := s
      obtain ⟨p1, p2, p3⟩ := hp
      simp only at p1 p2 p3
      subst p2
      refine .inl ⟨(x.set i (1 + (i : Int)), 1 + ((i + 1 : Nat) : Int)), ⟨by simp [p1], rfl, fun j hj => ?_⟩, fun r hr => ev_next (fun k => ?_) r hr⟩
      · by_cases c : j = i
        · subst c
          simp only
          rw [List.getElem?_set_self (by omega)]
        · simp only
          rw [List.getElem?_set_ne (Ne.symm c)]
          exact p3 j (by omega)
      · simp only [laws_markIntS.l0]
        rw [if_pos (by omega), if_pos (by omega), w64 (by omega) (by omega), w64 (by omega) (by omega), Int.toNat_natCast]
        congr 1 <;> omega) (fun s hp => by
      obtain ⟨x, y⟩ := s
      obtain ⟨p1, p2, p3⟩ := hp
      simp only at p1 p2 p3
      refine ⟨(y, x), ⟨p2, p1, p3⟩, ev_now fun k => ?_⟩
      simp only [laws_markIntS.l0]
      rw [if_neg (by omega)]) 0 (a, 1) (Nat.zero_le _) ⟨rfl, rfl, fun j hj => by omega⟩
  obtain ⟨⟨m, b⟩, ⟨q1, q2, q3⟩, h1⟩ := h1
  simp only at q1 q2 q3
  refine ⟨m, b, h1, ?_, by omega⟩
  have h2 := ev_to (fun k (s : Int) i => laws_heldIntS.l0 k b s i) b.length (fun i s => s = 1 + (i : Int)) m (fun i s hi hp => by
      subst hp
      refine .inl ⟨1 + ((i + 1 : Nat) : Int), rfl, fun r hr => ev_next (fun k => ?_) r hr⟩
      simp only [laws_heldIntS.l0]
      have e : rd b (i : Int) = 1 + (i : Int) := by
        rw [rd_eq, List.getD_eq_getElem?_getD, q3 i (by omega)]
        rfl
      rw [if_pos (by omega), if_pos (by omega), if_pos e, w64 (by omega) (by omega), w64 (by omega) (by omega)]
      congr 1 <;> omega) (fun s hp => by
      refine ev_now fun k => ?_
      simp only [laws_heldIntS.l0]
      rw [if_neg (by omega)]
      congr 1 <;> omega) 0 1 (Nat.zero_le _) rfl
  exact h2
/-- Whatever is marked, a number of at least 0 comes back. -/
theorem mark_any (a : List Int) (s : Int) (hs : 1 ≤ s ∧ s ≤ 1000000000) (hb : a.length ≤ 1000000000) : ∃ m b, Ev (fun k => laws_markIntS.f k a s) (m, b) ∧ m = s + (a.length : Int) := by
  have h1 := ev_up (fun k (s : List Int × Int) i => laws_markIntS.l0 k s.1 s.2 i) a.length (fun i x => x.1.length = a.length ∧ x.2 = s + (i : Int))
    (fun r => r.1 = s + (a.length : Int)) (fun i x hi hp => by
      obtain ⟨x, y⟩ := x
      obtain ⟨p1, p2⟩ := hp
      simp only at p1 p2
      subst p2
      refine .inl ⟨(x.set i (s + (i : Int)), s + ((i + 1 : Nat) : Int)), ⟨by simp [p1], rfl⟩, fun r hr => ev_next (fun k => ?_) r hr⟩
      simp only [laws_markIntS.l0]
      rw [if_pos (by omega), if_pos (by omega), w64 (by omega) (by omega), w64 (by omega) (by omega), Int.toNat_natCast]
      congr 1 <;> omega) (fun x hp => by
      obtain ⟨x, y⟩ := x
      obtain ⟨p1, p2⟩ := hp
      simp only at p1 p2
      refine ⟨(y, x), p2, ev_now fun k => ?_⟩
      simp only [laws_markIntS.l0]
      rw [if_neg (by omega)]) 0 (a, s) (Nat.zero_le _) ⟨rfl, by simp⟩
  obtain ⟨⟨m, b⟩, q, h1⟩ := h1
  exact ⟨m, b, h1, q⟩
/-- All numbers of a list are in a range. -/
def allOk (l : List Int) (a b : Int) : Bool := l.all fun x => decide (a ≤ x ∧ x ≤ b)
theorem allOk_mem {l : List Int} {a b : Int} (h : allOk l a b = true) : ∀ x ∈ l, a ≤ x ∧ x ≤ b := by
  intro x hx
  simpa using (List.all_eq_true.1 h) x hx
theorem allIn_f (l : List Int) (a b : Int) : impl_allIn.f l a b = some (allOk l a b) := rfl
/-- The reference's loop that asks the same. -/
theorem all_loop {R : Type} (F : Nat → Int → Option R) (l : List Int) (a b : Int) (r0 r1 : R)
    (hstep : ∀ (k : Nat) (i : Nat), i < l.length → F (k + 1) (i : Int) = if (decide (a ≤ rd l (i : Int) ∧ rd l (i : Int) ≤ b)) = true then F k ((i : Int) + 1) else some r0)
    (hend : ∀ (k : Nat), F (k + 1) (l.length : Int) = some r1) : Ev (fun k => F k 0) (if allOk l a b = true then r1 else r0) := by
  have h := ev_all F l.length (fun i => decide (a ≤ l.getD i 0 ∧ l.getD i 0 ≤ b)) r0 r1 (fun k i hi => by rw [hstep k i hi, rd_eq]) hend
  have e := all_range l 0 (fun x => decide (a ≤ x ∧ x ≤ b))
  rw [e] at h
  exact h
theorem l16_f (l : List Int) (m : Int) (hb : l.length ≤ 1048576) : Ev (fun k => spec_l16Ok.f k l m) (allOk l 0 255 && decide ((l.length : Int) ≤ m)) := by
  unfold spec_l16Ok.f
  have h := all_loop (fun k i => spec_l16Ok.l0 k l m i) l 0 255 false (decide ((l.length : Int) ≤ m)) (fun k i hi => by
    simp (disch := omega) only [spec_l16Ok.l0, l01In_f, Option.bind_some, if_pos, w64]) (fun k => by
    simp only [spec_l16Ok.l0]
    rw [if_neg (by omega)])
  cases c : allOk l 0 255
  · rw [c] at h
    simpa using h
  · rw [c] at h
    simpa using h
def traceStep (l : List Int) (c : List Bool) (s : List Int × Int) (i : Nat) : List Int × Int :=
  (s.1 ++ [Go.bits .or .i64 (if rdOf false c (i : Int) = true then 0 else s.2) (rd l (i : Int))], Go.bits .or .i64 (if rdOf false c (i : Int) = true then 0 else s.2) (rd l (i : Int)))
def traces (l : List Int) (c : List Bool) (n : Nat) : List Int × Int := (List.range n).foldl (traceStep l c) ([], 0)
theorem traces_succ (l : List Int) (c : List Bool) (n : Nat) : traces l c (n + 1) = traceStep l c (traces l c n) n := by
  unfold traces
  rw [List.range_succ, List.foldl_append]
  rfl
theorem traces_len (l : List Int) (c : List Bool) (n : Nat) : (traces l c n).1.length = n := by
  induction n with
  | zero => rfl
  | succ n ih =>
    rw [traces_succ]
    unfold traceStep
    simp [ih]
def tracesV (l : List Int) (c : List Bool) : List Int := if (allOk l 0 255 = true ∧ l.length ≤ 40) ∧ c.length = l.length then (traces l c l.length).1 else []
theorem traceS (l : List Int) (c : List Bool) (hb : l.length ≤ 1048576) (hc : c.length ≤ 1048576) : Ev (fun k => spec_TracesAfter.f k l c) (tracesV l c) := by
  unfold spec_TracesAfter.f tracesV
  simp only [Option.bind_some]
  refine Ev.bind (l16_f l 40 hb) ?_
  by_cases c1 : allOk l 0 255 = true ∧ l.length ≤ 40
  · have e : (allOk l 0 255 && decide ((l.length : Int) ≤ 40)) = true := by rw [c1.1]; simp; omega
    simp only [if_pos e]
    by_cases c2 : c.length = l.length
    · rw [if_pos ⟨c1, c2⟩]
      refine ev_next (f := fun k => spec_TracesAfter.l0 k l c [] 0 0) (fun k => ?_) _ ?_
      · simp only [spec_TracesAfter.j0]
        rw [if_neg (by simp; omega)]
      · have h := ev_to (fun k (s : List Int × Int) i => spec_TracesAfter.l0 k l c s.1 s.2 i) l.length (fun i s => s = traces l c i) (traces l c l.length).1 (fun i s hi hs => by
          subst hs
          refine .inl ⟨_, rfl, fun r hr => ev_next (fun k => ?_) r hr⟩
          have hl := traces_len l c i
          rw [traces_succ]
          unfold traceStep
          generalize traces l c i = s at *
          simp only [spec_TracesAfter.l0]
          rw [if_pos (by omega), if_pos (by omega), if_pos (by omega), w64 (by omega) (by omega)]
          by_cases d : rdOf false c (i : Int) = true
          · simp only [if_pos d]
            rw [if_pos (by omega)]
          · simp only [if_neg d]
            rw [if_pos (by omega)]) (fun s hs => by
          subst hs
          refine ev_now fun k => ?_
          simp only [spec_TracesAfter.l0]
          rw [if_neg (by omega)]) 0 ([], 0) (Nat.zero_le _) rfl
        exact h
    · rw [if_neg (fun h => c2 h.2)]
      exact ev_now fun k => by simp only [spec_TracesAfter.j0]; rw [if_pos (by simp; omega)]
  · have e : (allOk l 0 255 && decide ((l.length : Int) ≤ 40)) = false := by
      rw [Bool.eq_false_iff]
      intro h
      rw [Bool.and_eq_true, decide_eq_true_eq] at h
      exact c1 ⟨h.1, by omega⟩
    simp only [e, Bool.false_eq_true, if_false]
    rw [if_neg (fun h => c1 h.1)]
    exact ev_now fun k => rfl
theorem traceI (l : List Int) (c : List Bool) (hb : l.length ≤ 1048576) (hc : c.length ≤ 1048576) : Ev (fun k => impl_TracesAfter.f k l c) (tracesV l c) := by
  unfold impl_TracesAfter.f tracesV
  by_cases c0 : l.length ≤ 40
  · simp only [if_neg (show ¬ (l.length : Int) > 40 by omega), allIn_f, Option.bind_some]
    by_cases c1 : allOk l 0 255 = true
    · simp only [if_pos c1]
      by_cases c2 : c.length = l.length
      · rw [if_pos ⟨⟨c1, c0⟩, c2⟩]
        refine ev_next (f := fun k => impl_TracesAfter.l0 k c [] 0 l (l.length : Int) 0) (fun k => ?_) _ ?_
        · simp only [impl_TracesAfter.j0]
          rw [if_neg (by simp; omega)]
        · have h := ev_to (fun k (s : List Int × Int) i => impl_TracesAfter.l0 k c s.1 s.2 l (l.length : Int) i) l.length (fun i s => s = traces l c i) (traces l c l.length).1 (fun i s hi hs => by
            subst hs
            refine .inl ⟨_, rfl, fun r hr => ev_next (fun k => ?_) r hr⟩
            have hl := traces_len l c i
            rw [traces_succ]
            unfold traceStep
            generalize traces l c i = s at *
            simp only [impl_TracesAfter.l0]
            rw [if_pos (by omega), if_pos (by omega), if_pos (by omega), if_pos (by omega), w64 (by omega) (by omega)]
            by_cases d : rdOf false c (i : Int) = true
            · simp only [if_pos d]
              rw [if_pos (by omega)]
            · simp only [if_neg d]
              rw [if_pos (by omega)]) (fun s hs => by
            subst hs
            refine ev_now fun k => ?_
            simp only [impl_TracesAfter.l0]
            rw [if_neg (by omega)]) 0 ([], 0) (Nat.zero_le _) rfl
          exact h
      · rw [if_neg (fun h => c2 h.2)]
        exact ev_now fun k => by simp only [impl_TracesAfter.j0]; rw [if_pos (by simp; omega)]
    · simp only [if_neg c1]
      rw [if_neg (fun h => c1 h.1.1)]
      exact ev_now fun k => rfl
  · simp only [if_pos (show (l.length : Int) > 40 by omega)]
    rw [if_neg (fun h => c0 h.1.2)]
    exact ev_now fun k => rfl
theorem FnExactTracesAfter (l : List Int) (c : List Bool) (_ : l.length ≤ maxLen) (_ : l.length * 8 ≤ 140737488351232) (_ : ∀ x ∈ l, (Lit.int .i64 x).wf = true) (_ : c.length ≤ maxLen) (_ : c.length * 1 ≤ 140737488351232) : ∃ k, laws_FnExactTracesAfter.f k l c = some true := by
  refine Ev.rounds ?_
  unfold laws_FnExactTracesAfter.f
  by_cases c0 : (l.length : Int) > 1048576
  · simp only [if_pos c0]
    exact Ev.now _
  · simp only [if_neg c0]
    by_cases c1 : (c.length : Int) > 1048576
    · simp only [if_pos c1]
      exact Ev.now _
    · simp only [if_neg c1]
      have ht := toIntS_f l (by omega)
      have hc := toBoolS_f c (by omega)
      have hS := traceS l c (by omega) (by omega)
      have hI := traceI l c (by omega) (by omega)
      have hlen : (tracesV l c).length ≤ 1048576 := by
        unfold tracesV
        split
        · rw [traces_len]
          omega
        · simp
      have he := eqIntS_same (tracesV l c) (by omega)
      obtain ⟨m, b, hm, hh, h0⟩ := mark_held (tracesV l c) (by omega)
      obtain ⟨m1, b1, hm1, e1⟩ := mark_any l 1 (by omega) (by omega)
      obtain ⟨m2, b2, hm2, e2⟩ := markBool_any c m1 (by omega) (by omega)
      refine Ev.bind ht (Ev.bind hc (Ev.bind hS (Ev.bind ht (Ev.bind hc (Ev.bind hI (Ev.bind he ?_))))))
      simp only [if_true]
      refine Ev.bind ht (Ev.bind (eqIntS_same l (by omega)) ?_)
      simp only [if_true]
      refine Ev.bind hc (Ev.bind (eqBoolS_same c (by omega)) ?_)
      simp only [if_true]
      refine Ev.bind hm1 (Ev.bind hm2 ?_)
      simp only [if_neg (show ¬ m2 < 0 by omega)]
      refine Ev.bind he ?_
      refine ev_next (fun k => rfl) _ ?_
      simp only [Bool.not_true, Bool.false_eq_true, if_false]
      refine Ev.bind hm (Ev.bind hh ?_)
      simp only [if_neg (show ¬ m < 0 by omega), if_true]
      refine Ev.bind ht (Ev.bind hc (Ev.bind hI (Ev.bind he ?_)))
      simp only [if_true]
      refine Ev.bind hh ?_
      simp only [if_neg (show ¬ m < 0 by omega), if_true]
      exact Ev.now _
end Go.Proofs.Ytbfgllgjniogiaa.Pure
