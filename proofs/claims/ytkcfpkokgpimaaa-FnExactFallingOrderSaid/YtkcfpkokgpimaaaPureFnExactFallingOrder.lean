/- The program's FallingOrder and the reference's answer alike, for all arguments. No condition. -/
import Derived.Test.YtkcfpkokgpimaaaPFnExactFallingOrderx3
import Derived.Test.YtkcfpkokgpimaaaBase
namespace Go.Proofs.Ytkcfpkokgpimaaa.Pure
open Go.RowKit Go.Proofs.Ytkcfpkokgpimaaa.PFnExactFallingOrder Go.Proofs.YtkcfpkokgpimaaaW.PrintWords Go.Proofs.YtkcfpkokgpimaaaW.PrintLast Go.Proofs.YtkcfpkokgpimaaaW.PrintMore Go.Proofs.Ytkcfpkokgpimaaa.Base
set_option linter.unusedVariables false
set_option linter.unusedSimpArgs false
theorem l01In_f (a b c : Int) : spec_l01In.f a b c = some (decide (b ≤ a ∧ a ≤ c)) := by
  unfold spec_l01In.f
  by_cases h : b ≤ a <;> simp [h]
/-- Two lists are told alike, element by element. -/
theorem eqIntS_f (a b : List Int) (hb : a.length ≤ 1000000000) : Ev (fun k => laws_eqIntS.f k a b) (decide (a = b)) := by
  unfold laws_eqIntS.f
  by_cases c : a.length = b.length
  · simp only [if_pos (show (a.length : Int) = (b.length : Int) by omega)]
    have h := ev_all (fun k i => laws_eqIntS.l0 k a b i) a.length (fun i => decide (rd a (i : Int) = rd b (i : Int))) false true (fun k i hi => by
      simp only [laws_eqIntS.l0]
      rw [if_pos (by omega), if_pos (by omega), if_pos (by omega), w64 (by omega) (by omega)]
      by_cases e : rd a (i : Int) = rd b (i : Int)
      · rw [if_pos e, if_pos (by simpa using e)]
      · rw [if_neg e, if_neg (by simpa using e)]) (fun k => by simp only [laws_eqIntS.l0]; rw [if_neg (by omega)])
    have e : (if (List.range a.length).all (fun i => decide (rd a (i : Int) = rd b (i : Int))) = true then true else false) = decide (a = b) := by
      by_cases e : a = b
      · subst e
        rw [if_pos (by simp)]
        simp
      · rw [if_neg]
        · simp [e]
        · intro hall
          refine e (List.ext_getElem c fun i h1 h2 => ?_)
          have := (List.all_eq_true.1 hall) i (List.mem_range.2 h1)
          rw [decide_eq_true_eq, rd_get _ _ h1, rd_get _ _ h2] at this
          exact this
    rw [e] at h
    exact h
  · simp only [if_neg (show ¬ (a.length : Int) = (b.length : Int) by omega)]
    refine ev_const ?_
    have : a ≠ b := fun e => c (by rw [e])
    simp [this]
theorem toIntS_f (l : List Int) (hb : l.length ≤ 1048576) : Ev (fun k => laws_toIntS.f k l) l := by
  unfold laws_toIntS.f
  simp only [if_pos (show (0 : Int) ≤ (l.length : Int) by omega), Int.toNat_natCast, if_pos (show l.length ≤ 35184372088832 by omega)]
  have h := ev_copy (fun k s i => laws_toIntS.l0 k l s i) l 0 id 0 (fun k s i hi hs => by
    simp (disch := omega) only [laws_toIntS.l0, if_pos, w64]
    simp only [rd, Int.toNat_natCast, id]) (fun k s => by
    simp only [laws_toIntS.l0]
    rw [if_neg (by omega)])
  rwa [List.map_id] at h
theorem eqIntS_same (l : List Int) (hb : l.length ≤ 1000000000) : Ev (fun k => laws_eqIntS.f k l l) true := by
  have h := eqIntS_f l l hb
  rwa [decide_eq_true rfl] at h
/-- What is marked is held so. -/
theorem mark_held (a : List Int) (hb : a.length ≤ 1000000000) : ∃ m b, Ev (fun k => laws_markIntS.f k a 1) (m, b) ∧ Ev (fun k => laws_heldIntS.f k b 1) m ∧ 0 ≤ m := by
  have h1 := ev_up (fun k (s : List Int × Int) i => laws_markIntS.l0 k s.1 s.2 i) a.length (fun i s => s.1.length = a.length ∧ s.2 = 1 + (i : Int) ∧ ∀ j, j < i → s.1[j]? = some (1 + (j : Int)))
    (fun r => r.1 = 1 + (a.length : Int) ∧ r.2.length = a.length ∧ ∀ j, j < a.length → r.2[j]? = some (1 + (j : Int))) (fun i s hi hp => by
      obtain ⟨x, y⟩ := s
      obtain ⟨p1, p2, p3⟩ := hp
      simp only at p1 p2 p3
      subst p2
      refine .inl ⟨(x.set i (1 + (i : Int)), 1 + ((i + 1 : Nat) : Int)), ⟨by simp [p1], rfl, fun j hj => ?_⟩, fun r hr => ev_next (fun k => ?_) r hr⟩
      · by_cases c : j = i
        · subst c
          simp only
          rw [List.getElem?_set_self (by omega)]
        · simp only
          rw [List.getElem?_set_ne (Ne.symm c)]
          exact p3 j (by omega)
      · simp only [laws_markIntS.l0]
        rw [if_pos (by omega), if_pos (by omega), w64 (by omega) (by omega), w64 (by omega) (by omega), Int.toNat_natCast]
        congr 1 <;> omega) (fun s hp => by
      obtain ⟨x, y⟩ := s
      obtain ⟨p1, p2, p3⟩ := hp
      simp only at p1 p2 p3
      refine ⟨(y, x), ⟨p2, p1, p3⟩, ev_now fun k => ?_⟩
      simp only [laws_markIntS.l0]
      rw [if_neg (by omega)]) 0 (a, 1) (Nat.zero_le _) ⟨rfl, rfl, fun j hj => by omega⟩
  obtain ⟨⟨m, b⟩, ⟨q1, q2, q3⟩, h1⟩ := h1
  simp only at q1 q2 q3
  refine ⟨m, b, h1, ?_, by omega⟩
  have h2 := ev_to (fun k (s : Int) i => laws_heldIntS.l0 k b s i) b.length (fun i s => s = 1 + (i : Int)) m (fun i s hi hp => by
      subst hp
      refine .inl ⟨1 + ((i + 1 : Nat) : Int), rfl, fun r hr => ev_next (fun k => ?_) r hr⟩
      simp only [laws_heldIntS.l0]
      have e : rd b (i : Int) = 1 + (i : Int) := by
        rw [rd_eq, List.getD_eq_getElem?_getD, q3 i (by omega)]
        rfl
      rw [if_pos (by omega), if_pos (by omega), if_pos e, w64 (by omega) (by omega), w64 (by omega) (by omega)]
      congr 1 <;> omega) (fun s hp => by
      refine ev_now fun k => ?_
      simp only [laws_heldIntS.l0]
      rw [if_neg (by omega)]
      congr 1 <;> omega) 0 1 (Nat.zero_le _) rfl
  exact h2
/-- Whatever is marked, a number of at least 0 comes back. -/
theorem mark_any (a : List Int) (s : Int) (hs : 1 ≤ s ∧ s ≤ 1000000000) (hb : a.length ≤ 1000000000) : ∃ m b, Ev (fun k => laws_markIntS.f k a s) (m, b) ∧ m = s + (a.length : Int) := by
  have h1 := ev_up (fun k (s : List Int × Int) i => laws_markIntS.l0 k s.1 s.2 i) a.length (fun i x => x.1.length = a.length ∧ x.2 = s + (i : Int))
    (fun r => r.1 = s + (a.length : Int)) (fun i x hi hp => by
      obtain ⟨x, y⟩ := x
      obtain ⟨p1, p2⟩ := hp
      simp only at p1 p2
      subst p2
      refine .inl ⟨(x.set i (s + (i : Int)), s + ((i + 1 : Nat) : Int)), ⟨by simp [p1], rfl⟩, fun r hr => ev_next (fun k => ?_) r hr⟩
      simp only [laws_markIntS.l0]
      rw [if_pos (by omega), if_pos (by omega), w64 (by omega) (by omega), w64 (by omega) (by omega), Int.toNat_natCast]
      congr 1 <;> omega) (fun x hp => by
      obtain ⟨x, y⟩ := x
      obtain ⟨p1, p2⟩ := hp
      simp only at p1 p2
      refine ⟨(y, x), p2, ev_now fun k => ?_⟩
      simp only [laws_markIntS.l0]
      rw [if_neg (by omega)]) 0 (a, s) (Nat.zero_le _) ⟨rfl, by simp⟩
  obtain ⟨⟨m, b⟩, q, h1⟩ := h1
  exact ⟨m, b, h1, q⟩
/-- All numbers of a list are in a range. -/
def allOk (l : List Int) (a b : Int) : Bool := l.all fun x => decide (a ≤ x ∧ x ≤ b)
theorem allOk_mem {l : List Int} {a b : Int} (h : allOk l a b = true) : ∀ x ∈ l, a ≤ x ∧ x ≤ b := by
  intro x hx
  simpa using (List.all_eq_true.1 h) x hx
theorem allIn_f (l : List Int) (a b : Int) : impl_allIn.f l a b = some (allOk l a b) := rfl
/-- The reference's loop that asks the same. -/
theorem all_loop {R : Type} (F : Nat → Int → Option R) (l : List Int) (a b : Int) (r0 r1 : R)
    (hstep : ∀ (k : Nat) (i : Nat), i < l.length → F (k + 1) (i : Int) = if (decide (a ≤ rd l (i : Int) ∧ rd l (i : Int) ≤ b)) = true then F k ((i : Int) + 1) else some r0)
    (hend : ∀ (k : Nat), F (k + 1) (l.length : Int) = some r1) : Ev (fun k => F k 0) (if allOk l a b = true then r1 else r0) := by
  have h := ev_all F l.length (fun i => decide (a ≤ l.getD i 0 ∧ l.getD i 0 ≤ b)) r0 r1 (fun k i hi => by rw [hstep k i hi, rd_eq]) hend
  have e := all_range l 0 (fun x => decide (a ≤ x ∧ x ≤ b))
  rw [e] at h
  exact h
def heatsOk (l : List Int) : Bool := decide (l.length ≤ 8) && allOk l 0 350
theorem heatsOk_iff {l : List Int} : heatsOk l = true ↔ l.length ≤ 8 ∧ allOk l 0 350 = true := by
  unfold heatsOk
  rw [Bool.and_eq_true, decide_eq_true_eq]
theorem rd_heat {l : List Int} (h : heatsOk l = true) (i : Int) : 0 ≤ rd l i ∧ rd l i ≤ 350 := by
  unfold rd
  rw [List.getD_eq_getElem?_getD]
  cases e : l[i.toNat]? with
  | none => simp
  | some x => exact allOk_mem (heatsOk_iff.1 h).2 x (List.mem_of_getElem? e)
def fallLt (l : List Int) : Int → Int → Bool := fun a b => decide (- rd l a < - rd l b)
def fallV (l : List Int) : List Int := if heatsOk l = true then isort (fallLt l) (idxs l.length) else []
theorem heatsI (l : List Int) : impl_areHeats.f l = some (heatsOk l) := by
  unfold impl_areHeats.f heatsOk
  rw [allIn_f]
  by_cases c : l.length ≤ 8
  · rw [if_pos (by omega)]
    simp [c]
  · rw [if_neg (by omega)]
    simp [c]
theorem indicesI (n : Nat) (hn : n ≤ 1048576) : Ev (fun k => impl_indices.f k (n : Int)) (idxs n) := by
  unfold impl_indices.f
  have h := ev_build (fun k s i => impl_indices.l0 k s (n : Int) i) n (fun i => (i : Int)) (fun k s i hi hs => by
    simp only [impl_indices.l0]
    rw [if_pos (by omega), if_pos (by omega), w64 (by omega) (by omega)]) (fun k s => by
    simp only [impl_indices.l0]
    rw [if_neg (by omega)])
  exact h
theorem fallI (l : List Int) (hb : l.length ≤ 1048576) : Ev (fun k => impl_FallingOrder.f k l) (fallV l) := by
  unfold impl_FallingOrder.f fallV
  simp only [heatsI, Option.bind_some]
  by_cases c : heatsOk l = true
  · simp only [if_pos c]
    refine Ev.bind (indicesI l.length hb) ?_
    have hl := (heatsOk_iff.1 c).1
    rw [if_pos ⟨rfl, by omega⟩]
    have e : (fun a b => decide (wrap64 (rd l b - rd l a) < 0)) = fallLt l := by
      funext a b
      have h1 := rd_heat c a
      have h2 := rd_heat c b
      unfold fallLt
      rw [w64 (by omega) (by omega), decide_eq_decide]
      omega
    rw [e]
    exact Ev.now _
  · simp only [if_neg c]
    exact Ev.now _
theorem l08_f (l : List Int) (hb : l.length ≤ 1048576) : Ev (fun k => spec_l08List.f k l 0) (heatsOk l) := by
  unfold spec_l08List.f
  have h := all_loop (fun k i => spec_l08List.l0 k l 0 i) l 0 350 false (decide (l.length ≤ 8)) (fun k i hi => by
    simp (disch := omega) only [spec_l08List.l0, spec_l08Ok.f, l01In_f, Option.bind_some, if_pos, w64]) (fun k => by
    simp only [spec_l08List.l0, spec_l08Ok.f, l01In_f, Option.bind_some]
    rw [if_neg (by omega)]
    by_cases c : l.length ≤ 8
    · rw [if_pos (by omega), decide_eq_true c]
      rfl
    · rw [if_neg (by omega), decide_eq_false c])
  unfold heatsOk
  cases c : allOk l 0 350
  · rw [c] at h
    simpa using h
  · rw [c] at h
    simpa using h
theorem ins_loop (l : List Int) (hl : l.length ≤ 8) (x : Int) (hx : 0 ≤ x ∧ x < (l.length : Int)) : ∀ (R B : List Int) (h : Int), R.length ≤ 8 → (∀ y ∈ R, 0 ≤ y ∧ y < (l.length : Int)) → ∀ r, Ev (fun k => spec_FallingOrder.l0 k l (insGo (fallLt l) x R B) (x + 1)) r → Ev (fun k => spec_FallingOrder.l1 k l (R.reverse ++ h :: B) x (R.length : Int)) r
  | [], B, h, _, _, r, hr => by
    refine ev_next (fun k => ?_) r hr
    simp only [spec_FallingOrder.l1]
    rw [if_neg (by simp), if_pos (by simp), if_pos (by simp <;> omega), w64 (x := x + 1) (by omega) (by omega)]
    rfl
  | y :: R, B, h, hR, hy, r, hr => by
    have hy0 := hy y List.mem_cons_self
    have hlen : (((y :: R).reverse ++ h :: B).length : Int) = (R.length : Int) + 1 + 1 + (B.length : Int) := by
      simp
      try omega
    have hcl : ((y :: R).length : Int) = (R.length : Int) + 1 := by simp
    have hrl : R.length ≤ 7 := by simp at hR; omega
    have e1 : wrap64 (((y :: R).length : Int) - 1) = (R.length : Int) := by rw [w64 (by omega) (by omega)]; omega
    have e2 : rd ((y :: R).reverse ++ h :: B) (R.length : Int) = y := by
      rw [rd_eq, List.getD_eq_getElem?_getD]
      simp
    unfold insGo at hr
    by_cases c : fallLt l x y = true
    · rw [if_pos c] at hr
      have hi := ins_loop l hl x hx R (y :: B) y (by omega) (fun z hz => hy z (List.mem_cons_of_mem _ hz)) r hr
      refine ev_next (fun k => ?_) r hi
      have c' : rd l y < rd l x := by
        unfold fallLt at c
        have := of_decide_eq_true c
        omega
      simp only [spec_FallingOrder.l1]
      rw [if_pos (by omega), e1, if_pos (by omega), if_pos (by omega), e2, if_pos hy0.1, if_pos hy0.2, if_pos hx.1, if_pos hx.2, if_pos c', if_pos (by omega), if_pos (by omega)]
      congr 1
      have := set_snoc (R.reverse ++ [y]) B h y
      simp only [List.length_append, List.length_reverse, List.length_cons, List.length_nil, List.append_assoc, List.cons_append, List.nil_append] at this
      simp only [List.reverse_cons, List.append_assoc, List.cons_append, List.nil_append, List.length_cons]
      rw [show (((R.length + 1 : Nat) : Int)).toNat = R.length + 1 by omega]
      rw [show R.length + 1 = R.length + (0 + 1) by omega]
      exact this
    · rw [if_neg c] at hr
      refine ev_next (fun k => ?_) r hr
      have c' : ¬ rd l y < rd l x := by
        intro h
        refine c ?_
        unfold fallLt
        exact decide_eq_true (by omega)
      simp only [spec_FallingOrder.l1]
      rw [if_pos (by omega), e1, if_pos (by omega), if_pos (by omega), e2, if_pos hy0.1, if_pos hy0.2, if_pos hx.1, if_pos hx.2, if_neg c', if_pos (by omega), if_pos (by omega), w64 (x := x + 1) (by omega) (by omega)]
      congr 1
      have := set_snoc (y :: R).reverse B h x
      rw [List.length_reverse] at this
      rw [Int.toNat_natCast]
      exact this
theorem fallS (l : List Int) (hb : l.length ≤ 1048576) : Ev (fun k => spec_FallingOrder.f k l) (fallV l) := by
  unfold spec_FallingOrder.f fallV
  by_cases c : heatsOk l = true
  · rw [if_pos c]
    have hl := (heatsOk_iff.1 c).1
    have h := ev_to (fun k s i => spec_FallingOrder.l0 k l s i) l.length (fun i s => s = isort (fallLt l) (idxs i)) (isort (fallLt l) (idxs l.length)) (fun i s hi hs => by
      subst hs
      have hp := isort_perm (fallLt l) (idxs i)
      have hlen : (isort (fallLt l) (idxs i)).length = i := by rw [hp.length_eq, idxs_length]
      refine .inl ⟨_, rfl, fun r hr => ?_⟩
      have hst := ins_loop l hl (i : Int) (by omega) (isort (fallLt l) (idxs i)).reverse [] (i : Int) (by rw [List.length_reverse]; omega) (fun y hy => by
        have := hp.mem_iff.1 (List.mem_reverse.1 hy)
        have := mem_idxs.1 this
        omega) r (by
        have e : isort (fallLt l) (idxs (i + 1)) = insGo (fallLt l) (i : Int) (isort (fallLt l) (idxs i)).reverse [] := by
          unfold isort
          rw [idxs_succ, List.foldl_append]
          rfl
        rw [← e]
        exact hr)
      rw [List.reverse_reverse, List.length_reverse] at hst
      refine ev_next (fun k => ?_) r (Ev.bind (l08_f l hb) (f := fun k t => spec_FallingOrder.j1 k l (isort (fallLt l) (idxs i)) (i : Int) t) (ev_next (fun k => ?_) r hst))
      · simp only [spec_FallingOrder.l0]
        rw [if_pos (by omega)]
      · simp only [spec_FallingOrder.j1]
        rw [if_pos c, if_pos (by omega)]) (fun s hs => by
      subst hs
      refine ev_next (f := fun k => spec_FallingOrder.j1 k l (isort (fallLt l) (idxs l.length)) (l.length : Int) false) (fun k => ?_) _ (ev_now fun k => ?_)
      · simp only [spec_FallingOrder.l0]
        rw [if_neg (by omega)]
      · simp only [spec_FallingOrder.j1]
        rw [if_neg (by decide)]) 0 [] (Nat.zero_le _) rfl
    exact h
  · rw [if_neg c]
    refine ev_next (f := fun k => if (0 : Int) < (l.length : Int) then (spec_l08List.f k l 0).bind (fun t => spec_FallingOrder.j1 k l [] 0 t) else spec_FallingOrder.j1 k l [] 0 false) (fun k => rfl) _ ?_
    by_cases c0 : (0 : Int) < (l.length : Int)
    · simp only [if_pos c0]
      refine Ev.bind (l08_f l hb) (ev_now fun k => ?_)
      simp only [spec_FallingOrder.j1]
      rw [if_neg c]
    · simp only [if_neg c0]
      exact ev_now fun k => by simp only [spec_FallingOrder.j1]; rw [if_neg (by decide)]
theorem FnExactFallingOrder : laws_FnExactFallingOrder.Pure := by
  intro l _ _ _
  refine Ev.rounds ?_
  unfold laws_FnExactFallingOrder.f
  by_cases c : (l.length : Int) > 1048576
  · simp only [if_pos c]
    exact Ev.now _
  · simp only [if_neg c]
    have ht := toIntS_f l (by omega)
    have hI := fallI l (by omega)
    have hl : (fallV l).length ≤ 1000000000 := by
      unfold fallV
      split
      · rw [(isort_perm _ _).length_eq, idxs_length]
        omega
      · simp
    obtain ⟨m, b, hm, hh, h0⟩ := mark_held (fallV l) hl
    obtain ⟨m', b', hm', e'⟩ := mark_any l 1 (by omega) (by omega)
    have he := eqIntS_same (fallV l) hl
    refine Ev.bind ht (Ev.bind (fallS l (by omega)) (Ev.bind ht (Ev.bind hI (Ev.bind he ?_))))
    simp only [if_true]
    refine Ev.bind ht (Ev.bind (eqIntS_same l (by omega)) ?_)
    simp only [if_true]
    refine Ev.bind hm' ?_
    simp only [if_neg (show ¬ m' < 0 by omega)]
    refine Ev.bind he ?_
    refine ev_next (fun k => rfl) _ ?_
    simp only [Bool.not_true, Bool.false_eq_true, if_false]
    refine Ev.bind hm (Ev.bind hh ?_)
    simp only [if_neg (show ¬ m < 0 by omega), if_true]
    refine Ev.bind ht (Ev.bind hI (Ev.bind he ?_))
    simp only [if_true]
    refine Ev.bind hh ?_
    simp only [if_neg (show ¬ m < 0 by omega), if_true]
    exact Ev.now _
end Go.Proofs.Ytkcfpkokgpimaaa.Pure
