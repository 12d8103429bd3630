/- The program's ThicknessOf and the reference's answer alike, for all arguments. No condition. -/
import Derived.Test.YtljodkhonaeceaaPFnExactThicknessOfx2
import Derived.Test.YtljodkhonaeceaaBase
namespace Go.Proofs.Ytljodkhonaeceaa.Pure
open Go.RowKit Go.Proofs.Ytljodkhonaeceaa.PFnExactThicknessOf Go.Proofs.YtljodkhonaeceaaW.PrintWords Go.Proofs.YtljodkhonaeceaaW.PrintLast Go.Proofs.YtljodkhonaeceaaW.PrintMore Go.Proofs.Ytljodkhonaeceaa.Base
set_option linter.unusedVariables false
set_option linter.unusedSimpArgs false
theorem in_f (a b c : Int) : impl_in.f a b c = some (decide (b ≤ a ∧ a ≤ c)) := by
  unfold impl_in.f
  by_cases h : b ≤ a <;> simp [h]
theorem l01In_f (a b c : Int) : spec_l01In.f a b c = some (decide (b ≤ a ∧ a ≤ c)) := by
  unfold spec_l01In.f
  by_cases h : b ≤ a <;> simp [h]
/-- Two lists are told alike, element by element. -/
theorem eqIntS_f (a b : List Int) (hb : a.length ≤ 1000000000) : Ev (fun k => laws_eqIntS.f k a b) (decide (a = b)) := by
  unfold laws_eqIntS.f
  by_cases c : a.length = b.length
  · simp only [if_pos (show (a.length : Int) = (b.length : Int) by omega)]
    have h := ev_all (fun k i => laws_eqIntS.l0 k a b i) a.length (fun i => decide (rd a (i : Int) = rd b (i : Int))) false true (fun k i hi => by
      simp only [laws_eqIntS.l0]
      rw [if_pos (by omega), if_pos (by omega), if_pos (by omega), w64 (by omega) (by omega)]
      by_cases e : rd a (i : Int) = rd b (i : Int)
      · rw [if_pos e, if_pos (by simpa using e)]
      · rw [if_neg e, if_neg (by simpa using e)]) (fun k => by simp only [laws_eqIntS.l0]; rw [if_neg (by omega)])
    have e : (if (List.range a.length).all (fun i => decide (rd a (i : Int) = rd b (i : Int))) = true then true else false) = decide (a = b) := by
      by_cases e : a = b
      · subst e
        rw [if_pos (by simp)]
        simp
      · rw [if_neg]
        · simp [e]
        · intro hall
          refine e (List.ext_getElem c fun i h1 h2 => ?_)
          have := (List.all_eq_true.1 hall) i (List.mem_range.2 h1)
          rw [decide_eq_true_eq, rd_get _ _ h1, rd_get _ _ h2] at this
          exact this
    rw [e] at h
    exact h
  · simp only [if_neg (show ¬ (a.length : Int) = (b.length : Int) by omega)]
    refine ev_const ?_
    have : a ≠ b := fun e => c (by rw [e])
    simp [this]
theorem toIntS_f (l : List Int) (hb : l.length ≤ 1048576) : Ev (fun k => laws_toIntS.f k l) l := by
  unfold laws_toIntS.f
  simp only [if_pos (show (0 : Int) ≤ (l.length : Int) by omega), Int.toNat_natCast, if_pos (show l.length ≤ 35184372088832 by omega)]
  have h := ev_copy (fun k s i => laws_toIntS.l0 k l s i) l 0 id 0 (fun k s i hi hs => by
    simp (disch := omega) only [laws_toIntS.l0, if_pos, w64]
    simp only [rd, Int.toNat_natCast, id]) (fun k s => by
    simp only [laws_toIntS.l0]
    rw [if_neg (by omega)])
  rwa [List.map_id] at h
theorem eqIntS_same (l : List Int) (hb : l.length ≤ 1000000000) : Ev (fun k => laws_eqIntS.f k l l) true := by
  have h := eqIntS_f l l hb
  rwa [decide_eq_true rfl] at h
/-- All numbers of a list are in a range. -/
def allOk (l : List Int) (a b : Int) : Bool := l.all fun x => decide (a ≤ x ∧ x ≤ b)
theorem allOk_mem {l : List Int} {a b : Int} (h : allOk l a b = true) : ∀ x ∈ l, a ≤ x ∧ x ≤ b := by
  intro x hx
  simpa using (List.all_eq_true.1 h) x hx
theorem allIn_f (l : List Int) (a b : Int) : impl_allIn.f l a b = some (allOk l a b) := rfl
/-- The reference's loop that asks the same. -/
theorem all_loop {R : Type} (F : Nat → Int → Option R) (l : List Int) (a b : Int) (r0 r1 : R)
    (hstep : ∀ (k : Nat) (i : Nat), i < l.length → F (k + 1) (i : Int) = if (decide (a ≤ rd l (i : Int) ∧ rd l (i : Int) ≤ b)) = true then F k ((i : Int) + 1) else some r0)
    (hend : ∀ (k : Nat), F (k + 1) (l.length : Int) = some r1) : Ev (fun k => F k 0) (if allOk l a b = true then r1 else r0) := by
  have h := ev_all F l.length (fun i => decide (a ≤ l.getD i 0 ∧ l.getD i 0 ≤ b)) r0 r1 (fun k i hi => by rw [hstep k i hi, rd_eq]) hend
  have e := all_range l 0 (fun x => decide (a ≤ x ∧ x ≤ b))
  rw [e] at h
  exact h
/-- The product of the folds so far. -/
def prod (l : List Int) : Int := l.foldl (fun x n => x * n) 1
theorem prod_snoc (l : List Int) (x : Int) : prod (l ++ [x]) = prod l * x := by
  unfold prod
  rw [List.foldl_append]
  rfl
theorem prod_bd (l : List Int) (hl : ∀ x ∈ l, 2 ≤ x ∧ x ≤ 4) : 1 ≤ prod l ∧ prod l ≤ 4 ^ l.length := by
  obtain ⟨n, hn⟩ : ∃ n, l.length = n := ⟨_, rfl⟩
  induction n generalizing l with
  | zero =>
    obtain rfl := List.eq_nil_of_length_eq_zero hn
    simp [prod]
  | succ n ih =>
    obtain ⟨l', x, rfl⟩ : ∃ l' x, l = l' ++ [x] := ⟨l.dropLast, l.getLast (by intro h; rw [h] at hn; simp at hn), (List.dropLast_concat_getLast _).symm⟩
    have h1 := ih l' (fun y hy => hl y (List.mem_append_left _ hy)) (by simp at hn; omega)
    have h2 := hl x (by simp)
    rw [prod_snoc, hn, Int.pow_succ]
    have e : l'.length = n := by simp at hn; omega
    rw [e] at h1
    have h3 : prod l' * x ≤ prod l' * 4 := Int.mul_le_mul_of_nonneg_left h2.2 (by omega)
    have h4 : prod l' * 2 ≤ prod l' * x := Int.mul_le_mul_of_nonneg_left h2.1 (by omega)
    omega
theorem pow4 (n : Nat) (h : n ≤ 8) : (4 : Int) ^ n ≤ 65536 := by
  have : n = 0 ∨ n = 1 ∨ n = 2 ∨ n = 3 ∨ n = 4 ∨ n = 5 ∨ n = 6 ∨ n = 7 ∨ n = 8 := by omega
  rcases this with rfl | rfl | rfl | rfl | rfl | rfl | rfl | rfl | rfl <;> decide
def layersV (l : List Int) : Int := if (l.length ≤ 8 ∧ allOk l 2 4 = true) ∧ prod l ≤ 10000 then prod l else -1
theorem layersI (l : List Int) : Ev (fun k => impl_LayersAfter.f k l) (layersV l) := by
  unfold impl_LayersAfter.f layersV
  by_cases c1 : l.length ≤ 8
  · simp only [if_neg (show ¬ (l.length : Int) > 8 by omega), allIn_f, Option.bind_some]
    by_cases c2 : allOk l 2 4 = true
    · have hm := allOk_mem c2
      have hp : ∀ i, 1 ≤ prod (l.take i) ∧ prod (l.take i) ≤ 65536 := by
        intro i
        have h1 := prod_bd (l.take i) (fun x hx => hm x (List.mem_of_mem_take hx))
        have h2 := pow4 (l.take i).length (by rw [List.length_take]; omega)
        omega
      refine ev_next (f := fun k => impl_LayersAfter.l0 k 1 l (l.length : Int) 0) (fun k => ?_) _ ?_
      · simp only [impl_LayersAfter.j0]
        rw [c2]
        rfl
      · have h := ev_to (fun k x i => impl_LayersAfter.l0 k x l (l.length : Int) i) l.length (fun i x => x = prod (l.take i)) (if (l.length ≤ 8 ∧ allOk l 2 4 = true) ∧ prod l ≤ 10000 then prod l else -1) (fun i x hi hx => by
          subst hx
          refine .inl ⟨_, rfl, fun r hr => ev_next (fun k => ?_) r hr⟩
          have h1 := hp i
          have h2 := hp (i + 1)
          have h3 := hm _ (List.getElem_mem hi)
          rw [List.take_succ_eq_append_getElem hi, prod_snoc] at h2 ⊢
          simp (disch := omega) only [impl_LayersAfter.l0, if_pos, rd_get, w64]) (fun x hx => by
          subst hx
          rw [List.take_length]
          refine ev_now fun k => ?_
          simp (disch := omega) only [impl_LayersAfter.l0, if_neg]
          by_cases c3 : prod l ≤ 10000
          · rw [if_neg (by omega), if_pos ⟨⟨c1, c2⟩, c3⟩]
          · rw [if_pos (by omega), if_neg (fun h => c3 h.2)]) 0 1 (Nat.zero_le _) rfl
        exact h
    · rw [if_neg (fun h => c2 h.1.2)]
      exact ev_now fun k => by simp [impl_LayersAfter.j0, c2]
  · simp only [if_pos (show (l.length : Int) > 8 by omega)]
    rw [if_neg (fun h => c1 h.1.1)]
    exact ev_now fun k => rfl
/-- What the reference's loop comes to from place i on, x layers so far. -/
theorem prod_mono (l m : List Int) (hl : ∀ x ∈ m, 2 ≤ x ∧ x ≤ 4) (h : 1 ≤ prod l) : prod l ≤ prod (l ++ m) := by
  induction m generalizing l with
  | nil => simp
  | cons x m ih =>
    have hx := hl x List.mem_cons_self
    have h1 : prod l * 2 ≤ prod l * x := Int.mul_le_mul_of_nonneg_left hx.1 (by omega)
    have h2 := ih (l ++ [x]) (fun y hy => hl y (List.mem_cons_of_mem _ hy)) (by rw [prod_snoc]; omega)
    rw [prod_snoc] at h2
    rw [List.append_assoc] at h2
    show prod l ≤ prod (l ++ ([x] ++ m))
    omega
theorem layersS (l : List Int) (hb : l.length ≤ 1048576) : Ev (fun k => spec_LayersAfter.f k l) (layersV l) := by
  unfold spec_LayersAfter.f
  have h := ev_to (fun k x i => spec_LayersAfter.l0 k l x i) l.length (fun i x => x = prod (l.take i) ∧ 1 ≤ x ∧ x ≤ 10000 ∧ ∀ y ∈ l.take i, 2 ≤ y ∧ y ≤ 4) (layersV l) (fun i x hi hx => by
    obtain ⟨hx, h1, h2, h3⟩ := hx
    by_cases c : 2 ≤ l[i] ∧ l[i] ≤ 4
    · have g1 : x * l[i] ≤ x * 4 := Int.mul_le_mul_of_nonneg_left c.2 (by omega)
      have g2 : x * 2 ≤ x * l[i] := Int.mul_le_mul_of_nonneg_left c.1 (by omega)
      by_cases c2 : x * l[i] > 10000
      · refine .inr (ev_now fun k => ?_)
        simp (disch := omega) only [spec_LayersAfter.l0, l01In_f, Option.bind_some, if_pos, rd_get, w64, decide_eq_true_eq]
        unfold layersV
        rw [if_neg]
        intro hh
        have hm := allOk_mem hh.1.2
        have := prod_mono (l.take (i + 1)) (l.drop (i + 1)) (fun y hy => hm y (List.mem_of_mem_drop hy)) (by rw [List.take_succ_eq_append_getElem hi, prod_snoc, ← hx]; omega)
        rw [List.take_append_drop, List.take_succ_eq_append_getElem hi, prod_snoc, ← hx] at this
        omega
      · refine .inl ⟨x * l[i], ⟨by rw [List.take_succ_eq_append_getElem hi, prod_snoc, hx], by omega, by omega, fun y hy => ?_⟩, fun r hr => ev_next (fun k => ?_) r hr⟩
        · rw [List.take_succ_eq_append_getElem hi] at hy
          rcases List.mem_append.1 hy with hy | hy
          · exact h3 y hy
          · rw [List.mem_singleton.1 hy]
            exact c
        · simp (disch := omega) only [spec_LayersAfter.l0, l01In_f, Option.bind_some, if_pos, if_neg, rd_get, w64, decide_eq_true_eq]
    · refine .inr (ev_now fun k => ?_)
      simp (disch := omega) only [spec_LayersAfter.l0, l01In_f, Option.bind_some, if_pos, rd_get, decide_eq_true_eq]
      rw [if_neg c]
      unfold layersV
      rw [if_neg]
      intro hh
      exact c (allOk_mem hh.1.2 _ (List.getElem_mem hi))) (fun x hx => by
    obtain ⟨hx, h1, h2, h3⟩ := hx
    rw [List.take_length] at hx h3
    refine ev_now fun k => ?_
    simp (disch := omega) only [spec_LayersAfter.l0, if_neg]
    unfold layersV
    by_cases c : l.length ≤ 8
    · rw [if_neg (by omega), if_pos, hx]
      refine ⟨⟨c, ?_⟩, by omega⟩
      unfold allOk
      rw [List.all_eq_true]
      intro y hy
      simpa using h3 y hy
    · rw [if_pos (by omega), if_neg (fun h => c h.1.1)]) 0 1 (Nat.zero_le _) ⟨rfl, by omega, by omega, by simp⟩
  exact h
theorem layersV_bd (l : List Int) : layersV l = -1 ∨ (1 ≤ layersV l ∧ layersV l ≤ 10000) := by
  unfold layersV
  split
  · rename_i h
    have := prod_bd l (allOk_mem h.1.2)
    omega
  · exact .inl rfl
def thickV (l : List Int) (r : Int) : Int := if layersV l < 0 then -1 else if 1 ≤ r ∧ r ≤ 100000 then r / layersV l else -1
theorem thickV_div (l : List Int) (r : Int) (h : 1 ≤ r ∧ r ≤ 100000) (hl : ¬ layersV l < 0) : wrap64 (Int.tdiv r (layersV l)) = r / layersV l := by
  have h1 : 0 ≤ r / layersV l := Int.ediv_nonneg (by omega) (by omega)
  have h2 : r / layersV l ≤ r := Int.ediv_le_self _ (by omega)
  rw [tdiv_pos (by omega), w64 (by omega) (by omega)]
theorem thickI (l : List Int) (r : Int) (hb : l.length ≤ 1048576) : Ev (fun k => impl_ThicknessOf.f k l r) (thickV l r) := by
  unfold impl_ThicknessOf.f thickV
  refine Ev.bind (layersI l) ?_
  have hl := layersV_bd l
  by_cases c : layersV l < 0
  · simp only [if_pos c]
    exact Ev.now _
  · simp only [if_neg c, in_f, Option.bind_some, decide_eq_true_eq]
    by_cases c2 : 1 ≤ r ∧ r ≤ 100000
    · simp only [if_pos c2, if_neg (show ¬ layersV l = 0 by omega), thickV_div l r c2 c]
      exact Ev.now _
    · simp only [if_neg c2]
      exact Ev.now _
theorem thickS (l : List Int) (r : Int) (hb : l.length ≤ 1048576) : Ev (fun k => spec_ThicknessOf.f k l r) (thickV l r) := by
  unfold spec_ThicknessOf.f thickV
  refine Ev.bind (layersS l hb) ?_
  have hl := layersV_bd l
  by_cases c : layersV l < 0
  · simp only [if_pos c]
    exact Ev.now _
  · simp only [if_neg c, l01In_f, Option.bind_some, decide_eq_true_eq]
    by_cases c2 : 1 ≤ r ∧ r ≤ 100000
    · simp only [if_pos c2, if_neg (show ¬ layersV l = 0 by omega), thickV_div l r c2 c]
      exact Ev.now _
    · simp only [if_neg c2]
      exact Ev.now _
theorem FnExactThicknessOf : laws_FnExactThicknessOf.Pure := by
  intro l r _ _ _ _
  refine Ev.rounds ?_
  unfold laws_FnExactThicknessOf.f
  by_cases c : (l.length : Int) > 1048576
  · simp only [if_pos c]
    exact Ev.now _
  · simp only [if_neg c]
    have ht := toIntS_f l (by omega)
    refine Ev.bind ht (Ev.bind (thickS l r (by omega)) (Ev.bind ht (Ev.bind (thickI l r (by omega)) ?_)))
    simp only [if_true]
    refine Ev.bind ht (Ev.bind (eqIntS_same l (by omega)) ?_)
    simp only [if_true]
    exact Ev.now _
end Go.Proofs.Ytljodkhonaeceaa.Pure
