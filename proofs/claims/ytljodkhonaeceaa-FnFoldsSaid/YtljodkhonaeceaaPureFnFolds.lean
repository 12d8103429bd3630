/- Layers are products of folds, and the shortest folds make the layers: the law FnFolds answers true for every input. No condition. -/
import Derived.Test.YtljodkhonaeceaaPFnFoldsx4
import Derived.Test.YtljodkhonaeceaaBase
namespace Go.Proofs.Ytljodkhonaeceaa.Pure
open Go.RowKit Go.Proofs.Ytljodkhonaeceaa.PFnFolds Go.Proofs.YtljodkhonaeceaaW.PrintWords Go.Proofs.YtljodkhonaeceaaW.PrintLast Go.Proofs.YtljodkhonaeceaaW.PrintMore Go.Proofs.Ytljodkhonaeceaa.Base
set_option linter.unusedVariables false
set_option linter.unusedSimpArgs false
theorem in_f (a b c : Int) : impl_in.f a b c = some (decide (b ≤ a ∧ a ≤ c)) := by
  unfold impl_in.f
  by_cases h : b ≤ a <;> simp [h]
/-- All numbers of a list are in a range. -/
def allOk (l : List Int) (a b : Int) : Bool := l.all fun x => decide (a ≤ x ∧ x ≤ b)
theorem allOk_mem {l : List Int} {a b : Int} (h : allOk l a b = true) : ∀ x ∈ l, a ≤ x ∧ x ≤ b := by
  intro x hx
  simpa using (List.all_eq_true.1 h) x hx
theorem allIn_f (l : List Int) (a b : Int) : impl_allIn.f l a b = some (allOk l a b) := rfl
/-- The reference's loop that asks the same. -/
theorem all_loop {R : Type} (F : Nat → Int → Option R) (l : List Int) (a b : Int) (r0 r1 : R)
    (hstep : ∀ (k : Nat) (i : Nat), i < l.length → F (k + 1) (i : Int) = if (decide (a ≤ rd l (i : Int) ∧ rd l (i : Int) ≤ b)) = true then F k ((i : Int) + 1) else some r0)
    (hend : ∀ (k : Nat), F (k + 1) (l.length : Int) = some r1) : Ev (fun k => F k 0) (if allOk l a b = true then r1 else r0) := by
  have h := ev_all F l.length (fun i => decide (a ≤ l.getD i 0 ∧ l.getD i 0 ≤ b)) r0 r1 (fun k i hi => by rw [hstep k i hi, rd_eq]) hend
  have e := all_range l 0 (fun x => decide (a ≤ x ∧ x ≤ b))
  rw [e] at h
  exact h
/-- The product of the folds so far. -/
def prod (l : List Int) : Int := l.foldl (fun x n => x * n) 1
theorem prod_snoc (l : List Int) (x : Int) : prod (l ++ [x]) = prod l * x := by
  unfold prod
  rw [List.foldl_append]
  rfl
theorem prod_bd (l : List Int) (hl : ∀ x ∈ l, 2 ≤ x ∧ x ≤ 4) : 1 ≤ prod l ∧ prod l ≤ 4 ^ l.length := by
  obtain ⟨n, hn⟩ : ∃ n, l.length = n := ⟨_, rfl⟩
  induction n generalizing l with
  | zero =>
    obtain rfl := List.eq_nil_of_length_eq_zero hn
    simp [prod]
  | succ n ih =>
    obtain ⟨l', x, rfl⟩ : ∃ l' x, l = l' ++ [x] := ⟨l.dropLast, l.getLast (by intro h; rw [h] at hn; simp at hn), (List.dropLast_concat_getLast _).symm⟩
    have h1 := ih l' (fun y hy => hl y (List.mem_append_left _ hy)) (by simp at hn; omega)
    have h2 := hl x (by simp)
    rw [prod_snoc, hn, Int.pow_succ]
    have e : l'.length = n := by simp at hn; omega
    rw [e] at h1
    have h3 : prod l' * x ≤ prod l' * 4 := Int.mul_le_mul_of_nonneg_left h2.2 (by omega)
    have h4 : prod l' * 2 ≤ prod l' * x := Int.mul_le_mul_of_nonneg_left h2.1 (by omega)
    omega
theorem pow4 (n : Nat) (h : n ≤ 8) : (4 : Int) ^ n ≤ 65536 := by
  have : n = 0 ∨ n = 1 ∨ n = 2 ∨ n = 3 ∨ n = 4 ∨ n = 5 ∨ n = 6 ∨ n = 7 ∨ n = 8 := by omega
  rcases this with rfl | rfl | rfl | rfl | rfl | rfl | rfl | rfl | rfl <;> decide
def layersV (l : List Int) : Int := if (l.length ≤ 8 ∧ allOk l 2 4 = true) ∧ prod l ≤ 10000 then prod l else -1
theorem layersI (l : List Int) : Ev (fun k => impl_LayersAfter.f k l) (layersV l) := by
  unfold impl_LayersAfter.f layersV
  by_cases c1 : l.length ≤ 8
  · simp only [if_neg (show ¬ (l.length : Int) > 8 by omega), allIn_f, Option.bind_some]
    by_cases c2 : allOk l 2 4 = true
    · have hm := allOk_mem c2
      have hp : ∀ i, 1 ≤ prod (l.take i) ∧ prod (l.take i) ≤ 65536 := by
        intro i
        have h1 := prod_bd (l.take i) (fun x hx => hm x (List.mem_of_mem_take hx))
        have h2 := pow4 (l.take i).length (by rw [List.length_take]; omega)
        omega
      refine ev_next (f := fun k => impl_LayersAfter.l0 k 1 l (l.length : Int) 0) (fun k => ?_) _ ?_
      · simp only [impl_LayersAfter.j0]
        rw [c2]
        rfl
      · have h := ev_to (fun k x i => impl_LayersAfter.l0 k x l (l.length : Int) i) l.length (fun i x => x = prod (l.take i)) (if (l.length ≤ 8 ∧ allOk l 2 4 = true) ∧ prod l ≤ 10000 then prod l else -1) (fun i x hi hx => by
          subst hx
          refine .inl ⟨_, rfl, fun r hr => ev_next (fun k => ?_) r hr⟩
          have h1 := hp i
          have h2 := hp (i + 1)
          have h3 := hm _ (List.getElem_mem hi)
          rw [List.take_succ_eq_append_getElem hi, prod_snoc] at h2 ⊢
          simp (disch := omega) only [impl_LayersAfter.l0, if_pos, rd_get, w64]) (fun x hx => by
          subst hx
          rw [List.take_length]
          refine ev_now fun k => ?_
          simp (disch := omega) only [impl_LayersAfter.l0, if_neg]
          by_cases c3 : prod l ≤ 10000
          · rw [if_neg (by omega), if_pos ⟨⟨c1, c2⟩, c3⟩]
          · rw [if_pos (by omega), if_neg (fun h => c3 h.2)]) 0 1 (Nat.zero_le _) rfl
        exact h
    · rw [if_neg (fun h => c2 h.1.2)]
      exact ev_now fun k => by simp [impl_LayersAfter.j0, c2]
  · simp only [if_pos (show (l.length : Int) > 8 by omega)]
    rw [if_neg (fun h => c1 h.1.1)]
    exact ev_now fun k => rfl
theorem layersV_bd (l : List Int) : layersV l = -1 ∨ (1 ≤ layersV l ∧ layersV l ≤ 10000) := by
  unfold layersV
  split
  · rename_i h
    have := prod_bd l (allOk_mem h.1.2)
    omega
  · exact .inl rfl
def thickV (l : List Int) (r : Int) : Int := if layersV l < 0 then -1 else if 1 ≤ r ∧ r ≤ 100000 then r / layersV l else -1
theorem thickV_div (l : List Int) (r : Int) (h : 1 ≤ r ∧ r ≤ 100000) (hl : ¬ layersV l < 0) : wrap64 (Int.tdiv r (layersV l)) = r / layersV l := by
  have h1 : 0 ≤ r / layersV l := Int.ediv_nonneg (by omega) (by omega)
  have h2 : r / layersV l ≤ r := Int.ediv_le_self _ (by omega)
  rw [tdiv_pos (by omega), w64 (by omega) (by omega)]
theorem thickI (l : List Int) (r : Int) (hb : l.length ≤ 1048576) : Ev (fun k => impl_ThicknessOf.f k l r) (thickV l r) := by
  unfold impl_ThicknessOf.f thickV
  refine Ev.bind (layersI l) ?_
  have hl := layersV_bd l
  by_cases c : layersV l < 0
  · simp only [if_pos c]
    exact Ev.now _
  · simp only [if_neg c, in_f, Option.bind_some, decide_eq_true_eq]
    by_cases c2 : 1 ≤ r ∧ r ≤ 100000
    · simp only [if_pos c2, if_neg (show ¬ layersV l = 0 by omega), thickV_div l r c2 c]
      exact Ev.now _
    · simp only [if_neg c2]
      exact Ev.now _
/-- Each number is a product of twos, threes and a rest without both. -/
theorem two_three (n : Nat) (h : 1 ≤ n) : ∃ t b u, n = 2 ^ t * (3 ^ b * u) ∧ u % 2 = 1 ∧ u % 3 ≠ 0 := by
  induction n using Nat.strongRecOn with
  | ind n ih =>
    by_cases c2 : n % 2 = 0
    · obtain ⟨t, b, u, e, h1, h2⟩ := ih (n / 2) (by omega) (by omega)
      refine ⟨t + 1, b, u, ?_, h1, h2⟩
      have : n = 2 * (n / 2) := by omega
      rw [this, e, Nat.pow_succ, Nat.mul_comm (2 ^ t) 2, Nat.mul_assoc]
    · by_cases c3 : n % 3 = 0
      · obtain ⟨t, b, u, e, h1, h2⟩ := ih (n / 3) (by omega) (by omega)
        have e3 : n = 3 * (n / 3) := by omega
        refine ⟨t, b + 1, u, ?_, h1, h2⟩
        rw [e3, e, Nat.pow_succ, Nat.mul_comm (3 ^ b) 3, Nat.mul_assoc 3, Nat.mul_left_comm]
      · exact ⟨0, 0, n, by simp, by omega, c3⟩
theorem odd_three (b u : Nat) (h : u % 2 = 1) : (3 ^ b * u) % 2 = 1 := by
  induction b with
  | zero => simpa using h
  | succ b ih => rw [Nat.pow_succ, Nat.mul_comm (3 ^ b) 3, Nat.mul_assoc]; omega
def foldsL (t b : Nat) : List Int := List.replicate (t / 2) 4 ++ List.replicate b 3 ++ List.replicate (t % 2) 2
theorem pow_lt (t b u : Nat) (hu : 1 ≤ u) (h : 2 ^ t * (3 ^ b * u) ≤ 10000) : t ≤ 13 ∧ b ≤ 8 := by
  have h1 : 1 ≤ 3 ^ b * u := Nat.mul_pos (Nat.pow_pos (by omega)) hu
  have h2 : 2 ^ t ≤ 10000 := Nat.le_trans (Nat.le_mul_of_pos_right _ h1) h
  have h3 : 3 ^ b ≤ 10000 := Nat.le_trans (Nat.le_trans (Nat.le_mul_of_pos_right _ hu) (Nat.le_mul_of_pos_left _ (Nat.pow_pos (by omega)))) h
  constructor
  · rcases Nat.lt_or_ge 13 t with c | c
    · have : 2 ^ 14 ≤ 2 ^ t := Nat.pow_le_pow_right (by omega) c
      omega
    · exact c
  · rcases Nat.lt_or_ge 8 b with c | c
    · have : 3 ^ 9 ≤ 3 ^ b := Nat.pow_le_pow_right (by omega) c
      omega
    · exact c
theorem divc (a b : Nat) (hb : 1 ≤ b) (ha : a ≤ 10000) : wrap64 (Int.tdiv (a : Int) (b : Int)) = ((a / b : Nat) : Int) := by
  rw [tdiv_pos (by omega), ← Int.natCast_ediv]
  have : a / b ≤ a := Nat.div_le_self _ _
  generalize a / b = q at this ⊢
  exact w64 (by omega) (by omega)
theorem modc (a b : Nat) : Int.tmod (a : Int) (b : Int) = ((a % b : Nat) : Int) := by
  rw [tmod_pos (by omega)]
  rfl
/-- One number of 4, 3, 2: as often as it divides. -/
theorem foldsI_l1 (p c : Nat) (x rest : Nat) (hp : 2 ≤ p ∧ p ≤ 4) (hr : rest % p ≠ 0) (hx : x = p ^ c * rest) (hb : x ≤ 10000) (hc : c ≤ 20) (i : Nat) (hi : i < 3) (acc : List Int) (ha : acc.length + c ≤ 1000) (r : List Int × Bool)
    (h : Ev (fun k => impl_FoldsFor.l0 k (rest : Int) (acc ++ List.replicate c (p : Int)) [4, 3, 2] 3 ((i : Int) + 1)) r) :
    Ev (fun k => impl_FoldsFor.l1 k (x : Int) acc (p : Int) [4, 3, 2] 3 (i : Int)) r := by
  induction c generalizing x acc with
  | zero =>
    obtain rfl : x = rest := by simpa using hx
    rw [List.replicate_zero, List.append_nil] at h
    refine ev_next (fun k => ?_) _ h
    simp only [impl_FoldsFor.l1, modc]
    rw [if_neg (by omega), if_neg (by omega), w64 (by omega) (by omega)]
  | succ c ih =>
    have e : x = p * (p ^ c * rest) := by rw [hx, Nat.pow_succ, Nat.mul_comm (p ^ c) p, Nat.mul_assoc]
    have e1 : x % p = 0 := by rw [e]; exact Nat.mul_mod_right _ _
    have e2 : x / p = p ^ c * rest := by rw [e]; exact Nat.mul_div_cancel_left _ (by omega)
    have hle : x / p ≤ x := Nat.div_le_self _ _
    rw [List.replicate_succ, List.append_cons] at h
    refine ev_next (fun k => ?_) _ (ih (x / p) e2 (Nat.le_trans hle hb) (by omega) (acc ++ [(p : Int)]) (by simp; omega) h)
    simp only [impl_FoldsFor.l1, modc]
    rw [if_neg (by omega), if_pos (by omega), if_pos (by omega), divc x p (by omega) hb]
theorem foldsForI (n : Nat) (t b u : Nat) (e : n = 2 ^ t * (3 ^ b * u)) (h2 : u % 2 = 1) (h3 : u % 3 ≠ 0) (hn : 1 ≤ n ∧ n ≤ 10000) :
    Ev (fun k => impl_FoldsFor.f k (n : Int)) (if u = 1 then (foldsL t b, true) else ([], false)) := by
  have hu : 1 ≤ u := by omega
  obtain ⟨ht, hb⟩ := pow_lt t b u hu (by omega)
  unfold impl_FoldsFor.f
  simp only [in_f, Option.bind_some, decide_eq_true_eq, if_pos (show 1 ≤ (n : Int) ∧ (n : Int) ≤ 10000 by omega)]
  have ho := odd_three b u h2
  have et : n = 4 ^ (t / 2) * (2 ^ (t % 2) * (3 ^ b * u)) := by
    rw [e]
    generalize 3 ^ b * u = q
    rw [← Nat.mul_assoc (4 ^ (t / 2)), show (4 : Nat) ^ (t / 2) = 2 ^ (2 * (t / 2)) from by rw [Nat.pow_mul], ← Nat.pow_add, show 2 * (t / 2) + t % 2 = t by omega]
  have hm4 : (2 ^ (t % 2) * (3 ^ b * u)) % 4 ≠ 0 := by
    generalize 3 ^ b * u = q at ho ⊢
    have : t % 2 = 0 ∨ t % 2 = 1 := by omega
    rcases this with h | h <;> rw [h] <;> omega
  have e3 : 2 ^ (t % 2) * (3 ^ b * u) = 3 ^ b * (2 ^ (t % 2) * u) := by rw [Nat.mul_left_comm]
  have hm3 : (2 ^ (t % 2) * u) % 3 ≠ 0 := by
    have : t % 2 = 0 ∨ t % 2 = 1 := by omega
    rcases this with h | h <;> rw [h] <;> omega
  have hle1 : 2 ^ (t % 2) * (3 ^ b * u) ≤ 10000 := by
    have : 2 ^ (t % 2) * (3 ^ b * u) ≤ n := by
      rw [et]
      exact Nat.le_mul_of_pos_left _ (Nat.pow_pos (by omega))
    omega
  have hle2 : 2 ^ (t % 2) * u ≤ 10000 := by
    have : 2 ^ (t % 2) * u ≤ 3 ^ b * (2 ^ (t % 2) * u) := Nat.le_mul_of_pos_left _ (Nat.pow_pos (by omega))
    omega
  have start : ∀ (x i : Nat) (hi : i < 3) (p : Nat) (hp : rd [4, 3, 2] (i : Int) = (p : Int)) (acc : List Int) (r : List Int × Bool), Ev (fun k => impl_FoldsFor.l1 k (x : Int) acc (p : Int) [4, 3, 2] 3 (i : Int)) r → Ev (fun k => impl_FoldsFor.l0 k (x : Int) acc [4, 3, 2] 3 (i : Int)) r := by
    intro x i hi p hp acc r h
    refine ev_next (fun k => ?_) _ h
    simp only [impl_FoldsFor.l0]
    rw [if_pos (by omega), if_pos (by omega), if_pos (by simp; omega), hp]
  refine start n 0 (by omega) 4 rfl [] _ (foldsI_l1 4 (t / 2) n _ (by omega) hm4 et hn.2 (by omega) 0 (by omega) [] (by simp; omega) _ ?_)
  refine start _ 1 (by omega) 3 rfl _ _ (foldsI_l1 3 b _ _ (by omega) hm3 e3 hle1 (by omega) 1 (by omega) _ (by simp; omega) _ ?_)
  refine start _ 2 (by omega) 2 rfl _ _ (foldsI_l1 2 (t % 2) _ u (by omega) (by omega) rfl hle2 (by omega) 2 (by omega) _ (by simp; omega) _ ?_)
  refine ev_now fun k => ?_
  simp only [impl_FoldsFor.l0]
  rw [if_neg (by omega)]
  by_cases c : u = 1
  · rw [if_pos (by omega), if_pos c]
    rfl
  · rw [if_neg (by omega), if_neg c]
/-- How many lists of 2, 3 and 4 have a product (as the machine adds them up). -/
def cw (n : Nat) : Int :=
  if n = 1 then 1 else if n = 0 then 0 else
    let a2 := if n % 2 = 0 then wrap64 (0 + cw (n / 2)) else 0
    let a3 := if n % 3 = 0 then wrap64 (a2 + cw (n / 3)) else a2
    if n % 4 = 0 then wrap64 (a3 + cw (n / 4)) else a3
termination_by n
decreasing_by all_goals omega
theorem foldI_l (n f : Nat) (acc : Int) (hf : 2 ≤ f ∧ f ≤ 4) (hn : 1 < n) (hm : n ≤ 1000000) (r : Int)
    (ih : n % f = 0 → Ev (fun k => impl_foldings.f k ((n / f : Nat) : Int)) (cw (n / f)))
    (h : Ev (fun k => impl_foldings.l0 k (n : Int) (if n % f = 0 then wrap64 (acc + cw (n / f)) else acc) ((f + 1 : Nat) : Int)) r) :
    Ev (fun k => impl_foldings.l0 k (n : Int) acc (f : Int)) r := by
  have e1 : Int.tmod (n : Int) (f : Int) = ((n % f : Nat) : Int) := by rw [tmod_pos (by omega)]; rfl
  have e2 : wrap64 (Int.tdiv (n : Int) (f : Int)) = ((n / f : Nat) : Int) := by
    rw [tdiv_pos (by omega), ← Int.natCast_ediv]
    have : n / f ≤ n := Nat.div_le_self _ _
    generalize n / f = q at this ⊢
    exact w64 (by omega) (by omega)
  have e3 : wrap64 ((f : Int) + 1) = ((f + 1 : Nat) : Int) := w64 (by omega) (by omega)
  by_cases c : n % f = 0
  · rw [if_pos c] at h
    refine ev_next (f := fun k => (impl_foldings.f k ((n / f : Nat) : Int)).bind fun t => impl_foldings.l0 k (n : Int) (wrap64 (acc + t)) ((f + 1 : Nat) : Int)) (fun k => ?_) r (Ev.bind (ih c) h)
    simp only [impl_foldings.l0]
    rw [if_pos (by omega), if_neg (by omega), if_pos (by omega), e2, e3]
  · rw [if_neg c] at h
    refine ev_next (fun k => ?_) r h
    simp only [impl_foldings.l0]
    rw [if_pos (by omega), if_neg (by omega), if_neg (by omega), e3]
theorem foldI (n : Nat) (h1 : 1 ≤ n) (hm : n ≤ 1000000) : Ev (fun k => impl_foldings.f k (n : Int)) (cw n) := by
  induction n using Nat.strongRecOn with
  | ind n ih =>
    by_cases c : n = 1
    · subst c
      refine ev_now fun k => ?_
      simp only [impl_foldings.f]
      rw [cw]
      simp
    · have hd : ∀ f, 2 ≤ f → n % f = 0 → Ev (fun k => impl_foldings.f k ((n / f : Nat) : Int)) (cw (n / f)) := by
        intro f hf hz
        have h3 : n / f < n := Nat.div_lt_self (by omega) (by omega)
        have h4 : 1 ≤ n / f := by
          rcases Nat.eq_zero_or_pos (n / f) with h0 | h0
          · have h5 := Nat.div_add_mod n f
            rw [h0, hz] at h5
            omega
          · exact h0
        exact ih (n / f) h3 h4 (by omega)
      refine ev_next (f := fun k => impl_foldings.l0 k (n : Int) 0 ((2 : Nat) : Int)) (fun k => ?_) _ ?_
      · simp only [impl_foldings.f]
        rw [if_neg (by omega)]
        rfl
      · refine foldI_l n 2 0 (by omega) (by omega) hm _ (hd 2 (by omega)) ?_
        refine foldI_l n 3 _ (by omega) (by omega) hm _ (hd 3 (by omega)) ?_
        refine foldI_l n 4 _ (by omega) (by omega) hm _ (hd 4 (by omega)) ?_
        refine ev_now fun k => ?_
        simp only [impl_foldings.l0]
        rw [if_neg (by omega)]
        conv => rhs; rw [cw]
        rw [if_neg c, if_neg (show ¬ n = 0 by omega)]
theorem foldsI (a : Int) : Ev (fun k => impl_CountFoldings.f k a) (if 1 ≤ a ∧ a ≤ 10000 then cw a.toNat else -1) := by
  unfold impl_CountFoldings.f
  simp only [in_f, Option.bind_some, decide_eq_true_eq]
  by_cases c : 1 ≤ a ∧ a ≤ 10000
  · simp only [if_pos c]
    have h := foldI a.toNat (by omega) (by omega)
    rw [show ((a.toNat : Nat) : Int) = a by omega] at h
    exact Ev.bind h (Ev.now _)
  · simp only [if_neg c]
    exact ev_const rfl
/-- q is closer to w than p, or as close and less. -/
def closer (w q p : Int) : Prop := max (q - w) (w - q) < max (p - w) (w - p) ∨ (max (q - w) (w - q) = max (p - w) (w - p) ∧ q < p)
instance (w q p : Int) : Decidable (closer w q p) := by unfold closer; infer_instance
theorem closer_total (w q p : Int) (h1 : ¬ closer w q p) (h2 : ¬ closer w p q) : q = p := by
  unfold closer at h1 h2
  omega
theorem closer_trans (w q p r : Int) (h1 : closer w q p) (h2 : ¬ closer w r p) : ¬ closer w r q := by
  unfold closer at *
  omega
def pick (w b p : Int) : Int := if closer w p b then p else b
/-- The best of a list, the first state given. -/
theorem pick_best (w : Int) (l : List Int) (b : Int) : (l.foldl (pick w) b = b ∨ l.foldl (pick w) b ∈ l) ∧ ¬ closer w b (l.foldl (pick w) b) ∧ ∀ p ∈ l, ¬ closer w p (l.foldl (pick w) b) := by
  induction l generalizing b with
  | nil => exact ⟨.inl rfl, by simp [closer], by simp⟩
  | cons x l ih =>
    obtain ⟨i1, i2, i3⟩ := ih (pick w b x)
    rw [List.foldl_cons]
    generalize l.foldl (pick w) (pick w b x) = r at *
    have hx : ¬ closer w x r ∧ ¬ closer w b r := by
      unfold pick at i2
      split at i2
      · rename_i c
        refine ⟨i2, fun h => ?_⟩
        unfold closer at *
        omega
      · rename_i c
        refine ⟨fun h => ?_, i2⟩
        unfold closer at *
        omega
    refine ⟨?_, hx.2, fun p hp => ?_⟩
    · rcases i1 with i1 | i1
      · unfold pick at i1
        split at i1
        · exact .inr (by rw [i1]; exact List.mem_cons_self)
        · exact .inl i1
      · exact .inr (List.mem_cons_of_mem _ i1)
    · rcases List.mem_cons.1 hp with rfl | hp
      · exact hx.1
      · exact i3 p hp
/-- Two lists with the same elements have the same best. -/
theorem best_eq (w : Int) (l m : List Int) (a b : Int) (ha : a ∈ l) (hb : b ∈ m) (h1 : ∀ p ∈ l, p ∈ m) (h2 : ∀ p ∈ m, p ∈ l) : l.foldl (pick w) a = m.foldl (pick w) b := by
  obtain ⟨p1, _, p3⟩ := pick_best w l a
  obtain ⟨q1, _, q3⟩ := pick_best w m b
  have m1 : l.foldl (pick w) a ∈ l := by 
    rcases p1 with p1 | p1
    · rw [p1]
      exact ha
    · exact p1
  have m2 : m.foldl (pick w) b ∈ m := by 
    rcases q1 with q1 | q1
    · rw [q1]
      exact hb
    · exact q1
  exact closer_total w _ _ (q3 _ (h1 _ m1)) (p3 _ (h2 _ m2))
def tri (p : Int) : List Int := [2 * p, 3 * p, 4 * p]
theorem tri_len (l : List Int) : (l.flatMap tri).length = 3 * l.length := by
  induction l with
  | nil => rfl
  | cons x l ih =>
    rw [List.flatMap_cons, List.length_append, ih, List.length_cons]
    show 3 + 3 * l.length = 3 * (l.length + 1)
    omega
/-- All products of so many numbers 2, 3 and 4. -/
def prods : Nat → List Int
  | 0 => [1]
  | n + 1 => (prods n).flatMap tri
theorem prods_bd (n : Nat) : ∀ p ∈ prods n, 1 ≤ p ∧ p ≤ 4 ^ n := by
  induction n with
  | zero => simp [prods]
  | succ n ih =>
    intro p hp
    simp only [prods, List.mem_flatMap] at hp
    obtain ⟨q, hq, hp⟩ := hp
    have := ih q hq
    have e : (4 : Int) ^ (n + 1) = 4 ^ n * 4 := by rw [Int.pow_succ]
    simp only [tri, List.mem_cons, List.not_mem_nil, or_false] at hp
    omega
theorem prods_len (n : Nat) : (prods n).length = 3 ^ n := by
  induction n with
  | zero => rfl
  | succ n ih =>
    simp only [prods]
    rw [tri_len, ih, Nat.pow_succ]
    omega
theorem pow_small (n : Nat) (h : n ≤ 6) : (4 : Int) ^ n ≤ 4096 ∧ 3 ^ n ≤ 729 := by
  have : n = 0 ∨ n = 1 ∨ n = 2 ∨ n = 3 ∨ n = 4 ∨ n = 5 ∨ n = 6 := by omega
  rcases this with rfl | rfl | rfl | rfl | rfl | rfl | rfl <;> decide
theorem prods_small (n : Nat) (h : n ≤ 6) : (∀ p ∈ prods n, 1 ≤ p ∧ p ≤ 4096) ∧ (prods n).length ≤ 729 := by
  have h1 := pow_small n h
  exact ⟨fun p hp => by have := prods_bd n p hp; omega, by rw [prods_len]; exact h1.2⟩
def closeV (w n : Int) : Int := if (1 ≤ w ∧ w ≤ 10000) ∧ (0 ≤ n ∧ n ≤ 6) then (prods n.toNat).foldl (pick w) ((prods n.toNat).getD 0 0) else -1
theorem closeI_l1 (w : Int) (n i : Nat) (ps : List Int) (hn : n ≤ 6) (hi : i < n) (hb : ∀ p ∈ ps, 1 ≤ p ∧ p ≤ 4096) (hl : ps.length ≤ 729) (r : Int)
    (h : Ev (fun k => impl_ClosestLayers.l0 k w (ps.flatMap tri) (n : Int) ((i + 1 : Nat) : Int)) r) :
    Ev (fun k => impl_ClosestLayers.l1 k w [] (n : Int) (i : Int) ps (ps.length : Int) 0) r := by
  have h2 := ev_to (fun k s j => impl_ClosestLayers.l1 k w s (n : Int) (i : Int) ps (ps.length : Int) j) ps.length (fun j s => s = (ps.take j).flatMap tri) r (fun j s hj hp => by
      subst hp
      refine .inl ⟨(ps.take (j + 1)).flatMap tri, rfl, fun r hr => ev_next (fun k => ?_) r hr⟩
      have hp := hb _ (List.getElem_mem hj)
      simp only [impl_ClosestLayers.l1]
      rw [if_pos (by omega), if_pos (by omega), if_pos (by omega), rd_get _ _ hj]
      simp only [Option.bind_some]
      have ht : ((ps.take j).flatMap tri).length ≤ 3 * 729 := by
        rw [tri_len, List.length_take]
        omega
      rw [w64 (x := 2 * ps[j]) (by omega) (by omega), w64 (x := 3 * ps[j]) (by omega) (by omega), w64 (x := 4 * ps[j]) (by omega) (by omega), w64 (x := (j : Int) + 1) (by omega) (by omega), if_pos (by simp only [List.length_cons, List.length_nil]; omega)]
      rw [List.take_succ_eq_append_getElem hj, List.flatMap_append, List.flatMap_singleton]
      rfl) (fun s hp => by
      subst hp
      rw [List.take_length]
      refine ev_next (fun k => ?_) _ h
      simp only [impl_ClosestLayers.l1]
      rw [if_neg (by omega), w64 (by omega) (by omega)]
      rfl) 0 [] (Nat.zero_le _) rfl
  exact h2
theorem fold_bd (w : Int) (l : List Int) (b : Int) (hb : ∀ p ∈ l, 1 ≤ p ∧ p ≤ 4096) (h : 1 ≤ b ∧ b ≤ 4096) : 1 ≤ l.foldl (pick w) b ∧ l.foldl (pick w) b ≤ 4096 := by
  rcases (pick_best w l b).1 with e | e
  · rw [e]
    exact h
  · exact hb _ e
theorem closeI_l2 (w : Int) (ps : List Int) (b : Int) (hw : 1 ≤ w ∧ w ≤ 10000) (hb : ∀ p ∈ ps, 1 ≤ p ∧ p ≤ 4096) (hb0 : 1 ≤ b ∧ b ≤ 4096) (hl : ps.length ≤ 729) :
    Ev (fun k => impl_ClosestLayers.l2 k w b ps (ps.length : Int) 0) (ps.foldl (pick w) b) := by
  have h2 := ev_to (fun k s j => impl_ClosestLayers.l2 k w s ps (ps.length : Int) j) ps.length (fun j s => s = (ps.take j).foldl (pick w) b) (ps.foldl (pick w) b) (fun j s hj hp => by
      subst hp
      refine .inl ⟨(ps.take (j + 1)).foldl (pick w) b, rfl, fun r hr => ev_next (fun k => ?_) r hr⟩
      have hp := hb _ (List.getElem_mem hj)
      have hq := fold_bd w (ps.take j) b (fun p hp => hb p (List.mem_of_mem_take hp)) hb0
      rw [List.take_succ_eq_append_getElem hj, List.foldl_append, List.foldl_cons, List.foldl_nil]
      generalize (ps.take j).foldl (pick w) b = s at *
      simp only [impl_ClosestLayers.l2]
      rw [if_pos (by omega), if_pos (by omega), if_pos (by omega), rd_get _ _ hj]
      generalize ps[j] = p at *
      rw [w64 (x := p - w) (by omega) (by omega), w64 (x := w - p) (by omega) (by omega), w64 (x := s - w) (by omega) (by omega), w64 (x := w - s) (by omega) (by omega), w64 (x := (j : Int) + 1) (by omega) (by omega)]
      simp only [mx_eq]
      unfold pick
      by_cases c1 : max (p - w) (w - p) < max (s - w) (w - s)
      · rw [if_pos c1, if_pos (.inl c1)]
      · rw [if_neg c1]
        by_cases c2 : max (p - w) (w - p) = max (s - w) (w - s)
        · rw [if_pos c2]
          by_cases c3 : p < s
          · rw [if_pos c3, if_pos (.inr ⟨c2, c3⟩)]
          · rw [if_neg c3, if_neg (by unfold closer; omega)]
        · rw [if_neg c2, if_neg (by unfold closer; omega)]) (fun s hp => by
      subst hp
      rw [List.take_length]
      refine ev_now fun k => ?_
      simp only [impl_ClosestLayers.l2]
      rw [if_neg (by omega)]) 0 b (Nat.zero_le _) rfl
  exact h2
theorem closeI_l0 (w : Int) (n : Nat) (hn : n ≤ 6) (hw : 1 ≤ w ∧ w ≤ 10000) (i : Nat) (hi : i ≤ n) : Ev (fun k => impl_ClosestLayers.l0 k w (prods i) (n : Int) (i : Int)) ((prods n).foldl (pick w) ((prods n).getD 0 0)) := by
  obtain ⟨d, hd⟩ : ∃ d, n - i = d := ⟨_, rfl⟩
  induction d generalizing i with
  | zero =>
    obtain rfl : i = n := by omega
    obtain ⟨hb, hl⟩ := prods_small i hn
    have hpos : 0 < (prods i).length := by rw [prods_len]; exact Nat.pow_pos (by omega)
    have hb0 : 1 ≤ (prods i).getD 0 0 ∧ (prods i).getD 0 0 ≤ 4096 := by
      rw [List.getD_eq_getElem?_getD, List.getElem?_eq_getElem hpos]
      exact hb _ (List.getElem_mem hpos)
    refine ev_next (fun k => ?_) _ (closeI_l2 w (prods i) ((prods i).getD 0 0) hw hb hb0 hl)
    simp only [impl_ClosestLayers.l0]
    rw [if_neg (by omega), if_pos (by omega)]
    rfl
  | succ d ih =>
    obtain ⟨hb, hl⟩ := prods_small i (by omega)
    refine ev_next (fun k => ?_) _ (closeI_l1 w n i (prods i) hn (by omega) hb hl _ (ih (i + 1) (by omega) (by omega)))
    simp only [impl_ClosestLayers.l0]
    rw [if_pos (by omega)]
theorem closeI (w n : Int) : Ev (fun k => impl_ClosestLayers.f k w n) (closeV w n) := by
  unfold impl_ClosestLayers.f closeV
  simp only [in_f, Option.bind_some, decide_eq_true_eq]
  by_cases c1 : 1 ≤ w ∧ w ≤ 10000
  · simp only [if_pos c1]
    by_cases c2 : 0 ≤ n ∧ n ≤ 6
    · rw [if_pos ⟨c1, c2⟩]
      have h := closeI_l0 w n.toNat (by omega) c1 0 (Nat.zero_le _)
      rw [show ((n.toNat : Nat) : Int) = n by omega] at h
      refine ev_next (fun k => ?_) _ h
      simp only [impl_ClosestLayers.j0]
      rw [if_neg (by simp; omega)]
      rfl
    · rw [if_neg (fun h => c2 h.2)]
      exact ev_now fun k => by simp only [impl_ClosestLayers.j0]; rw [if_pos (by simp; omega)]
  · simp only [if_neg c1]
    rw [if_neg (fun h => c1 h.1)]
    exact ev_now fun k => rfl
theorem at_f (l : List Int) (hw : ∀ x ∈ l, (Lit.int .u8 x).wf = true) (hl : l.length ≤ 140737488351232) (i : Int) (h0 : 0 ≤ i) (h1 : i ≤ 1000) : ∃ v, laws_at.f l i = some v ∧ 0 ≤ v ∧ v ≤ 255 := by
  unfold laws_at.f
  by_cases c : (l.length : Int) = 0
  · exact ⟨0, by rw [if_pos c], by omega, by omega⟩
  · rw [if_neg c, w64 (x := i * 5) (by omega) (by omega), w64 (x := i * 5 + 1) (by omega) (by omega), tmod_pos (by omega)]
    have hm : 0 ≤ (i * 5 + 1) % (l.length : Int) := Int.emod_nonneg _ c
    have hn : (i * 5 + 1) % (l.length : Int) < (l.length : Int) := Int.emod_lt_of_pos _ (by omega)
    rw [if_pos hm, if_pos hn]
    obtain ⟨j, hj⟩ := Int.eq_ofNat_of_zero_le hm
    rw [hj] at hn ⊢
    have hx := (u8_iff _).1 (hw _ (List.getElem_mem (show j < l.length by omega)))
    rw [rd_get _ _ (by omega), w64 (by omega) (by omega)]
    exact ⟨_, rfl, hx.1, hx.2⟩
theorem big_f (l : List Int) : laws_big.f l = some (decide ((l.length : Int) > 1048576)) := rfl
theorem and_bd (x : Int) (m : Nat) (hm : m ≤ 4294967295) : 0 ≤ Go.bits .and .i64 x (m : Int) ∧ Go.bits .and .i64 x (m : Int) ≤ m := by
  have h : ((BitVec.ofInt 64 x) &&& (BitVec.ofInt 64 (m : Int))).toNat ≤ m := by
    rw [BitVec.toNat_and]
    refine Nat.le_trans Nat.and_le_right ?_
    rw [BitVec.ofInt_natCast, BitVec.toNat_ofNat]
    exact Nat.mod_le _ _
  have e : Go.bits .and .i64 x (m : Int) = IntKind.i64.wrap (((BitVec.ofInt 64 x) &&& (BitVec.ofInt 64 (m : Int))).toNat : Int) := rfl
  rw [e]
  generalize ((BitVec.ofInt 64 x) &&& (BitVec.ofInt 64 (m : Int))).toNat = q at h ⊢
  rw [IntKind.wrap_i64]
  omega
theorem byte_f (b : List Int) (i h : Int) (hb : b.length ≤ 140737488351232) (hi : 0 ≤ i) : ∃ x i' h', spec_l01Byte.f b i h = some (x, i', h') ∧ 0 ≤ x ∧ x ≤ 255 ∧ 0 ≤ i' := by
  unfold spec_l01Byte.f
  by_cases c : i < (b.length : Int)
  · rw [if_pos c, if_pos hi]
    refine ⟨_, _, _, rfl, (and_bd _ 255 (by omega)).1, (and_bd _ 255 (by omega)).2, ?_⟩
    rw [w64 (by omega) (by omega)]
    omega
  · rw [if_neg c]
    exact ⟨_, _, _, rfl, (and_bd _ 255 (by omega)).1, (and_bd _ 255 (by omega)).2, hi⟩
theorem below_f (b : List Int) (i h n : Int) (hb : b.length ≤ 140737488351232) (hi : 0 ≤ i) (h1 : 1 ≤ n) (h2 : n ≤ 256) : ∃ x i' h', spec_l01Below.f b i h n = some (x, i', h') ∧ 0 ≤ x ∧ x < n ∧ 0 ≤ i' := by
  obtain ⟨x, i', h', e, x0, x1, i0⟩ := byte_f b i h hb hi
  unfold spec_l01Below.f
  rw [if_neg (by omega), if_pos (by omega), e]
  simp only [Option.bind_some]
  rw [if_neg (by omega), tmod_pos x0]
  exact ⟨_, _, _, rfl, Int.emod_nonneg _ (by omega), Int.emod_lt_of_pos _ (by omega), i0⟩
theorem new_f (l : List Int) (hb : l.length ≤ 140737488351232) : ∃ h, Ev (fun k => spec_l01New.f k l) (l, 0, h) := by
  unfold spec_l01New.f
  have h := ev_up (fun k s i => spec_l01New.l0 k l s i) l.length (fun _ _ => True) (fun r => ∃ h, r = (l, 0, h)) (fun i s hi _ => by
      by_cases c : i < 4000
      · refine .inl ⟨Go.bits .and .i64 (wrap64 ((wrap64 ((wrap64 (s * 131)) + (wrap64 (rd l (i : Int))))) + 7)) 1073741823, trivial, fun r hr => ev_next (fun k => ?_) r hr⟩
        simp only [spec_l01New.l0]
        rw [if_pos (by omega), if_pos (by omega), if_pos (by omega), w64 (x := (i : Int) + 1) (by omega) (by omega)]
      · refine .inr ⟨_, ⟨s, rfl⟩, ev_now fun k => ?_⟩
        · simp only [spec_l01New.l0]
          rw [if_pos (by omega), if_neg (by omega)]) (fun s _ => ⟨_, ⟨s, rfl⟩, ev_now fun k => by
      simp only [spec_l01New.l0]
      rw [if_neg (by omega)]⟩) 0 (wrap64 (33101 + (l.length : Int))) (Nat.zero_le _) trivial
  obtain ⟨r, ⟨h, rfl⟩, e⟩ := h
  exact ⟨h, e⟩
theorem drawFolds_f (l : List Int) (hb : l.length ≤ 140737488351232) : ∃ f, Ev (fun k => spec_DrawFolds.f k l) f ∧ f.length ≤ 6 ∧ ∀ x ∈ f, 2 ≤ x ∧ x ≤ 4 := by
  obtain ⟨h, e⟩ := new_f l hb
  obtain ⟨n, i1, h1, e1, n0, n1, p1⟩ := below_f l 0 h 7 hb (by omega) (by omega) (by omega)
  obtain ⟨N, rfl⟩ := Int.eq_ofNat_of_zero_le n0
  have hl := ev_up (fun k (s : List Int × Int × Int) i => spec_l11Folds.l0 k s.1 (N : Int) i l s.2.1 s.2.2) N (fun i s => s.1.length = i ∧ (∀ x ∈ s.1, 2 ≤ x ∧ x ≤ 4) ∧ 0 ≤ s.2.1) (fun r => r.1.length ≤ 6 ∧ ∀ x ∈ r.1, 2 ≤ x ∧ x ≤ 4) (fun i s hi hp => by
      obtain ⟨a, b, c⟩ := s
      obtain ⟨q1, q2, q3⟩ := hp
      simp only at q1 q2 q3
      obtain ⟨x, i2, h2, e2, x0, x1, p2⟩ := below_f l b c 3 hb q3 (by omega) (by omega)
      refine .inl ⟨(a ++ [2 + x], i2, h2), ⟨by simp [q1], fun y hy => ?_, p2⟩, fun r hr => ev_next (fun k => ?_) r hr⟩
      · rcases List.mem_append.1 hy with hy | hy
        · exact q2 y hy
        · rw [List.mem_singleton.1 hy]
          omega
      · simp only [spec_l11Folds.l0, e2, Option.bind_some]
        rw [if_pos (by omega), if_pos (by omega), w64 (x := 2 + x) (by omega) (by omega), w64 (x := (i : Int) + 1) (by omega) (by omega)]) (fun s hp => ⟨s, ⟨by omega, hp.2.1⟩, ev_now fun k => by
      simp only [spec_l11Folds.l0]
      rw [if_neg (by omega)]⟩) 0 ([], i1, h1) (Nat.zero_le _) ⟨rfl, by simp, p1⟩
  obtain ⟨r, ⟨r1, r2⟩, he⟩ := hl
  refine ⟨r.1, ?_, r1, r2⟩
  unfold spec_DrawFolds.f
  refine Ev.bind e ?_
  unfold spec_l11Folds.f
  simp only [e1, Option.bind_some]
  exact Ev.bind he (Ev.now _)
theorem prod_app (a b : List Int) : prod (a ++ b) = prod a * prod b := by
  obtain ⟨n, hn⟩ : ∃ n, b.length = n := ⟨_, rfl⟩
  induction n generalizing b with
  | zero =>
    obtain rfl := List.eq_nil_of_length_eq_zero hn
    simp [prod]
  | succ n ih =>
    obtain ⟨b', x, rfl⟩ : ∃ b' x, b = b' ++ [x] := ⟨b.dropLast, b.getLast (by intro h; rw [h] at hn; simp at hn), (List.dropLast_concat_getLast _).symm⟩
    rw [← List.append_assoc, prod_snoc, prod_snoc, ih b' (by simp at hn; omega), Int.mul_assoc]
theorem prod_rep (n : Nat) (x : Int) : prod (List.replicate n x) = x ^ n := by
  induction n with
  | zero => simp [prod]
  | succ n ih => rw [List.replicate_succ', prod_snoc, ih, Int.pow_succ]
theorem foldsL_prod (t b : Nat) : prod (foldsL t b) = 2 ^ t * 3 ^ b := by
  unfold foldsL
  rw [prod_app, prod_app, prod_rep, prod_rep, prod_rep, show (4 : Int) = 2 ^ 2 from rfl, ← Int.pow_mul, Int.mul_assoc, Int.mul_comm (3 ^ b), ← Int.mul_assoc, ← Int.pow_add, show 2 * (t / 2) + t % 2 = t by omega]
theorem foldsL_len (t b : Nat) : (foldsL t b).length = t / 2 + b + t % 2 := by simp [foldsL]; omega
theorem foldsL_mem (t b : Nat) : ∀ x ∈ foldsL t b, 2 ≤ x ∧ x ≤ 4 := by
  intro x hx
  unfold foldsL at hx
  simp only [List.mem_append, List.mem_replicate] at hx
  omega
theorem foldsL_down (t b : Nat) : (foldsL t b).Pairwise (fun x y => y ≤ x) := by
  unfold foldsL
  simp only [List.pairwise_append, List.mem_append, List.mem_replicate, List.pairwise_replicate]
  refine ⟨⟨.inr (by omega), .inr (by omega), fun x hx y hy => by omega⟩, .inr (by omega), fun x hx y hy => by omega⟩
theorem split_folds (f : List Int) (hf : ∀ x ∈ f, 2 ≤ x ∧ x ≤ 4) : ∃ t b, prod f = 2 ^ t * 3 ^ b ∧ t / 2 + b + t % 2 ≤ f.length := by
  obtain ⟨n, hn⟩ : ∃ n, f.length = n := ⟨_, rfl⟩
  induction n generalizing f with
  | zero =>
    obtain rfl := List.eq_nil_of_length_eq_zero hn
    exact ⟨0, 0, rfl, by simp⟩
  | succ n ih =>
    obtain ⟨f', x, rfl⟩ : ∃ f' x, f = f' ++ [x] := ⟨f.dropLast, f.getLast (by intro h; rw [h] at hn; simp at hn), (List.dropLast_concat_getLast _).symm⟩
    obtain ⟨t, b, e, hl⟩ := ih f' (fun y hy => hf y (List.mem_append_left _ hy)) (by simp at hn; omega)
    have hx := hf x (by simp)
    have hlen : (f' ++ [x]).length = f'.length + 1 := by simp
    rw [prod_snoc, e, hlen]
    have : x = 2 ∨ x = 3 ∨ x = 4 := by omega
    rcases this with rfl | rfl | rfl
    · exact ⟨t + 1, b, by rw [Int.pow_succ, Int.mul_assoc, Int.mul_assoc, Int.mul_comm (3 ^ b)], by omega⟩
    · exact ⟨t, b + 1, by rw [Int.pow_succ (3 : Int), Int.mul_assoc], by omega⟩
    · exact ⟨t + 2, b, by rw [Int.pow_succ, Int.pow_succ, Int.mul_assoc, Int.mul_assoc, Int.mul_assoc, Int.mul_comm (3 ^ b), ← Int.mul_assoc 2 2]; rfl, by omega⟩
theorem cw_one : cw 1 = 1 := by rw [cw]; simp
theorem cw_up (n : Nat) (h1 : n ≠ 1) (h0 : n ≠ 0) : cw n = (if n % 4 = 0 then wrap64 ((if n % 3 = 0 then wrap64 ((if n % 2 = 0 then wrap64 (0 + cw (n / 2)) else 0) + cw (n / 3)) else if n % 2 = 0 then wrap64 (0 + cw (n / 2)) else 0) + cw (n / 4)) else if n % 3 = 0 then wrap64 ((if n % 2 = 0 then wrap64 (0 + cw (n / 2)) else 0) + cw (n / 3)) else if n % 2 = 0 then wrap64 (0 + cw (n / 2)) else 0) := by
  rw [cw, if_neg h1, if_neg h0]
theorem cw_two : cw 2 = 1 := by rw [cw_up 2 (by omega) (by omega)]; simp [cw_one, wrap64]
theorem cw_three : cw 3 = 1 := by rw [cw_up 3 (by omega) (by omega)]; simp [cw_one, wrap64]
theorem cw_four : cw 4 = 2 := by rw [cw_up 4 (by omega) (by omega)]; simp [cw_one, cw_two, wrap64]
theorem cw_six : cw 6 = 2 := by rw [cw_up 6 (by omega) (by omega)]; simp [cw_three, cw_two, wrap64]
theorem cw_seven : cw 7 = 0 := by rw [cw_up 7 (by omega) (by omega)]; simp
theorem cw_eight : cw 8 = 3 := by rw [cw_up 8 (by omega) (by omega)]; simp [cw_four, cw_two, wrap64]
theorem cw_twelve : cw 12 = 5 := by rw [cw_up 12 (by omega) (by omega)]; simp [cw_six, cw_four, cw_three, wrap64]
theorem cw_bd (n : Nat) (hn : n ≤ 10000) : 0 ≤ cw n ∧ cw n ≤ ((n * n : Nat) : Int) := by
  induction n using Nat.strongRecOn with
  | ind n ih =>
    by_cases c0 : n = 0
    · subst c0
      rw [cw]
      simp
    · by_cases c1 : n = 1
      · subst c1
        rw [cw_one]
        simp
      · obtain ⟨q, hq⟩ : ∃ q, n / 2 = q := ⟨_, rfl⟩
        obtain ⟨r, hr⟩ : ∃ r, n / 3 = r := ⟨_, rfl⟩
        obtain ⟨s, hs⟩ : ∃ s, n / 4 = s := ⟨_, rfl⟩
        have iq := ih q (by omega) (by omega)
        have ir := ih r (by omega) (by omega)
        have is := ih s (by omega) (by omega)
        have bn : n * n ≤ 100000000 := Nat.mul_le_mul hn hn
        have m2 : 4 * (q * q) ≤ n * n := by
          have : (2 * q) * (2 * q) ≤ n * n := Nat.mul_le_mul (by omega) (by omega)
          have e : (2 * q) * (2 * q) = 4 * (q * q) := by rw [Nat.mul_mul_mul_comm]
          omega
        have m3 : 9 * (r * r) ≤ n * n := by
          have : (3 * r) * (3 * r) ≤ n * n := Nat.mul_le_mul (by omega) (by omega)
          have e : (3 * r) * (3 * r) = 9 * (r * r) := by rw [Nat.mul_mul_mul_comm]
          omega
        have m4 : 16 * (s * s) ≤ n * n := by
          have : (4 * s) * (4 * s) ≤ n * n := Nat.mul_le_mul (by omega) (by omega)
          have e : (4 * s) * (4 * s) = 16 * (s * s) := by rw [Nat.mul_mul_mul_comm]
          omega
        rw [cw_up n c1 c0, hq, hr, hs]
        generalize cw q = x at *
        generalize cw r = y at *
        generalize cw s = z at *
        generalize q * q = Q at *
        generalize r * r = R at *
        generalize s * s = S at *
        generalize n * n = N at *
        rw [w64 (x := 0 + x) (by omega) (by omega)]
        by_cases d2 : n % 2 = 0
        · rw [if_pos d2, w64 (x := 0 + x + y) (by omega) (by omega)]
          by_cases d3 : n % 3 = 0
          · rw [if_pos d3, w64 (by omega) (by omega)]
            split <;> omega
          · rw [if_neg d3, w64 (by omega) (by omega)]
            split <;> omega
        · rw [if_neg d2, w64 (x := 0 + y) (by omega) (by omega)]
          by_cases d3 : n % 3 = 0
          · rw [if_pos d3, w64 (by omega) (by omega)]
            split <;> omega
          · rw [if_neg d3, w64 (by omega) (by omega)]
            split <;> omega
theorem cw_pos (t b : Nat) (h : 2 ^ t * 3 ^ b ≤ 10000) : 1 ≤ cw (2 ^ t * 3 ^ b) := by
  obtain ⟨m, hm⟩ : ∃ m, t + b = m := ⟨_, rfl⟩
  induction m generalizing t b with
  | zero =>
    obtain ⟨rfl, rfl⟩ : t = 0 ∧ b = 0 := by omega
    rw [show 2 ^ 0 * 3 ^ 0 = 1 from rfl, cw_one]
    omega
  | succ m ih =>
    obtain ⟨n, hn⟩ : ∃ n, 2 ^ t * 3 ^ b = n := ⟨_, rfl⟩
    have p2 : 1 ≤ 2 ^ t := Nat.pow_pos (by omega)
    have p3 : 1 ≤ 3 ^ b := Nat.pow_pos (by omega)
    rw [hn] at h ⊢
    have bn : n * n ≤ 100000000 := Nat.mul_le_mul h h
    have iq := cw_bd (n / 2) (by omega)
    have ir := cw_bd (n / 3) (by omega)
    have is := cw_bd (n / 4) (by omega)
    have mq : n / 2 * (n / 2) ≤ n * n := Nat.mul_le_mul (by omega) (by omega)
    have mr : n / 3 * (n / 3) ≤ n * n := Nat.mul_le_mul (by omega) (by omega)
    have ms : n / 4 * (n / 4) ≤ n * n := Nat.mul_le_mul (by omega) (by omega)
    rcases t with _ | t
    · rcases b with _ | b
      · omega
      · have e : n = 3 * (2 ^ 0 * 3 ^ b) := by rw [← hn, Nat.pow_succ]; omega
        have e3 : n / 3 = 2 ^ 0 * 3 ^ b := by omega
        have i := ih 0 b (by omega) (by omega)
        rw [← e3] at i
        have p3 : 1 ≤ 3 ^ b := Nat.pow_pos (by omega)
        rw [cw_up n (by omega) (by omega), if_pos (show n % 3 = 0 by omega)]
        generalize cw (n / 2) = x at *
        generalize cw (n / 3) = y at *
        generalize cw (n / 4) = z at *
        generalize n / 2 * (n / 2) = Q at *
        generalize n / 3 * (n / 3) = R at *
        generalize n / 4 * (n / 4) = S at *
        generalize n * n = NN at *
        rw [w64 (x := 0 + x) (by omega) (by omega)]
        by_cases d2 : n % 2 = 0
        · rw [if_pos d2, w64 (x := 0 + x + y) (by omega) (by omega), w64 (by omega) (by omega)]
          split <;> omega
        · rw [if_neg d2, w64 (x := 0 + y) (by omega) (by omega), w64 (by omega) (by omega)]
          split <;> omega
    · have e : n = 2 * (2 ^ t * 3 ^ b) := by rw [← hn, Nat.pow_succ, Nat.mul_comm (2 ^ t) 2, Nat.mul_assoc]
      have e3 : n / 2 = 2 ^ t * 3 ^ b := by omega
      have i := ih t b (by omega) (by omega)
      have hge : 1 ≤ 2 ^ t * 3 ^ b := Nat.mul_pos (Nat.pow_pos (by omega)) (Nat.pow_pos (by omega))
      have n2 : 2 ≤ n := by omega
      rw [← e3] at i
      rw [cw_up n (by omega) (by omega), if_pos (show n % 2 = 0 by omega)]
      generalize cw (n / 2) = x at *
      generalize cw (n / 3) = y at *
      generalize cw (n / 4) = z at *
      generalize n / 2 * (n / 2) = Q at *
      generalize n / 3 * (n / 3) = R at *
      generalize n / 4 * (n / 4) = S at *
      generalize n * n = NN at *
      rw [w64 (x := 0 + x) (by omega) (by omega), w64 (x := 0 + x + y) (by omega) (by omega)]
      by_cases d3 : n % 3 = 0
      · rw [if_pos d3, w64 (by omega) (by omega)]
        split <;> omega
      · rw [if_neg d3, w64 (by omega) (by omega)]
        split <;> omega
theorem foldsFor_out (a : Int) (h : ¬ (1 ≤ a ∧ a ≤ 10000)) : Ev (fun k => impl_FoldsFor.f k a) ([], false) := by
  unfold impl_FoldsFor.f
  simp only [in_f, Option.bind_some, decide_eq_true_eq, if_neg h]
  exact Ev.now _
theorem prods_mem (h : List Int) (hh : ∀ x ∈ h, 2 ≤ x ∧ x ≤ 4) : prod h ∈ prods h.length := by
  obtain ⟨n, hn⟩ : ∃ n, h.length = n := ⟨_, rfl⟩
  induction n generalizing h with
  | zero =>
    obtain rfl := List.eq_nil_of_length_eq_zero hn
    simp [prod, prods]
  | succ n ih =>
    obtain ⟨f', x, rfl⟩ : ∃ f' x, h = f' ++ [x] := ⟨h.dropLast, h.getLast (by intro h; rw [h] at hn; simp at hn), (List.dropLast_concat_getLast _).symm⟩
    have i := ih f' (fun y hy => hh y (List.mem_append_left _ hy)) (by simp at hn; omega)
    have hx := hh x (by simp)
    rw [prod_snoc, show (f' ++ [x]).length = f'.length + 1 by simp, prods, List.mem_flatMap]
    refine ⟨prod f', i, ?_⟩
    have : x = 2 ∨ x = 3 ∨ x = 4 := by omega
    rcases this with rfl | rfl | rfl <;> simp [tri, Int.mul_comm]
theorem layers_of (h : List Int) (hh : ∀ x ∈ h, 2 ≤ x ∧ x ≤ 4) (hl : h.length ≤ 6) : layersV h = prod h ∧ 1 ≤ prod h ∧ prod h ≤ 4096 := by
  have hp := prod_bd h hh
  have h4 := (pow_small 6 (by omega)).1
  have h5 : (4 : Int) ^ h.length ≤ 4096 := (pow_small h.length hl).1
  have hall : allOk h 2 4 = true := by
    unfold allOk
    rw [List.all_eq_true]
    intro x hx
    simpa using hh x hx
  refine ⟨?_, hp.1, by omega⟩
  unfold layersV
  rw [if_pos ⟨⟨by omega, hall⟩, by omega⟩]
theorem foldsC (a : Int) : Ev (fun k => impl_CountFoldings.f k a) (if 1 ≤ a ∧ a ≤ 10000 then cw a.toNat else -1) := foldsI a
theorem FnFolds (l : List Int) (_ : l.length ≤ maxLen) (hb : l.length * 1 ≤ 140737488351232) (hw : ∀ x ∈ l, (Lit.int .u8 x).wf = true) : ∃ k, laws_FnFolds.f k l = some true := by
  refine Ev.rounds ?_
  unfold laws_FnFolds.f
  simp only [big_f, Option.bind_some, decide_eq_true_eq]
  by_cases c : (l.length : Int) > 1048576
  · simp only [if_pos c]
    exact Ev.now _
  · simp only [if_neg c]
    obtain ⟨f, hd, hfl, hfm⟩ := drawFolds_f l (by omega)
    obtain ⟨hL, hp1, hp2⟩ := layers_of f hfm hfl
    obtain ⟨t, b, hprod, hlen⟩ := split_folds f hfm
    obtain ⟨N, hN⟩ := Int.eq_ofNat_of_zero_le (show 0 ≤ prod f by omega)
    have hNe : N = 2 ^ t * 3 ^ b := by
      have : ((2 ^ t * 3 ^ b : Nat) : Int) = 2 ^ t * 3 ^ b := by simp
      omega
    have hfor := foldsForI N t b 1 (by rw [hNe, Nat.mul_one]) (by omega) (by omega) (by omega)
    rw [if_pos rfl] at hfor
    have hsl := foldsL_len t b
    have hsm := foldsL_mem t b
    obtain ⟨hS, _, _⟩ := layers_of (foldsL t b) hsm (by omega)
    rw [foldsL_prod, ← hprod, hN] at hS
    have hcw := foldsI (N : Int)
    rw [if_pos (by omega), Int.toNat_natCast] at hcw
    have hcw1 := cw_pos t b (by omega)
    rw [← hNe] at hcw1
    obtain ⟨a0, ha0, b0, c0⟩ := at_f l hw (by omega) 0 (by omega) (by omega)
    obtain ⟨a1, ha1, b1, c1⟩ := at_f l hw (by omega) 1 (by omega) (by omega)
    have lf := layersI f
    rw [hL, hN] at lf
    refine Ev.bind hd (Ev.bind lf (Ev.bind hfor ?_))
    simp only [if_neg (show ¬ (N : Int) < 1 by omega), if_true]
    have ls := layersI (foldsL t b)
    rw [hS] at ls
    refine Ev.bind ls ?_
    simp only [if_true, if_neg (show ¬ ((foldsL t b).length : Int) > (f.length : Int) by omega)]
    refine Ev.bind hcw ?_
    rw [decide_eq_false (by omega)]
    refine ev_next (f := fun k => laws_FnFolds.l0 k l f (N : Int) (foldsL t b) 1) (fun k => by simp only [laws_FnFolds.j0]; rw [if_neg (by decide)]) _ ?_
    have last : Ev (fun k => laws_FnFolds.j2 k l f (N : Int) false) true := by
      obtain ⟨w, hw1⟩ : ∃ w, w = 1 + a0 := ⟨_, rfl⟩
      obtain ⟨K, hK⟩ := Int.eq_ofNat_of_zero_le (Int.emod_nonneg a1 (show (5 : Int) ≠ 0 by omega))
      have hK5 : K ≤ 4 := by have := Int.emod_lt_of_pos a1 (show (0 : Int) < 5 by omega); omega
      have hc := closeI w (K : Int)
      refine ev_next (f := fun k => (impl_ClosestLayers.f k w (K : Int)).bind fun t202 => (laws_FnFolds.l1 k l f (N : Int) w (K : Int) t202 (([] : List Int)) 0)) (fun k => ?_) _ (Ev.bind hc ?_)
      · simp only [laws_FnFolds.j2, ha0, ha1, Option.bind_some]
        rw [if_neg (by decide), tmod_pos b1, hK, w64 (by omega) (by omega), ← hw1]
      · have hcv : 1 ≤ closeV w K ∧ closeV w K ≤ 4096 ∧ ∀ p ∈ prods K, ¬ closer w p (closeV w K) := by
          unfold closeV
          rw [if_pos (by omega), Int.toNat_natCast]
          obtain ⟨s1, s2⟩ := prods_small K (by omega)
          have hpos : 0 < (prods K).length := by rw [prods_len]; exact Nat.pow_pos (by omega)
          have hg : (prods K).getD 0 0 ∈ prods K := by
            rw [List.getD_eq_getElem?_getD, List.getElem?_eq_getElem hpos]
            exact List.getElem_mem hpos
          have hf := fold_bd w (prods K) ((prods K).getD 0 0) s1 (s1 _ hg)
          exact ⟨hf.1, hf.2, (pick_best w (prods K) ((prods K).getD 0 0)).2.2⟩
        generalize closeV w (K : Int) = C at hcv ⊢
        have h := ev_to (fun k s i => laws_FnFolds.l1 k l f (N : Int) w (K : Int) C s i) K (fun i s => s.length = i ∧ ∀ x ∈ s, 2 ≤ x ∧ x ≤ 4) true (fun i s hi hp => by
            obtain ⟨a, ha, q0, q1⟩ := at_f l hw (by omega) ((i : Int) + 2) (by omega) (by omega)
            refine .inl ⟨s ++ [2 + a % 3], ⟨by simp [hp.1], fun x hx => ?_⟩, fun r hr => ev_next (fun k => ?_) r hr⟩
            · rcases List.mem_append.1 hx with hx | hx
              · exact hp.2 x hx
              · rw [List.mem_singleton.1 hx]
                omega
            · simp only [laws_FnFolds.l1]
              rw [if_pos (by omega), w64 (x := (i : Int) + 2) (by omega) (by omega), ha]
              simp only [Option.bind_some]
              rw [if_pos (by rw [hp.1]; omega), tmod_pos q0, w64 (x := 2 + a % 3) (by omega) (by omega), w64 (x := (i : Int) + 1) (by omega) (by omega)]) (fun s hp => by
            obtain ⟨hsL, hs1, hs2⟩ := layers_of s hp.2 (by omega)
            have hmem := prods_mem s hp.2
            rw [hp.1] at hmem
            have hcl := hcv.2.2 _ hmem
            have ly := layersI s
            rw [hsL] at ly
            have h7 : ∃ L, Ev (fun k => impl_FoldsFor.f k (7 * (N : Int))) (L, false) := by
              by_cases c7 : 7 * N ≤ 10000
              · have := foldsForI (7 * N) t b 7 (by rw [hNe, ← Nat.mul_assoc (2 ^ t), Nat.mul_comm]) (by omega) (by omega) (by omega)
                rw [if_neg (by omega)] at this
                rw [show ((7 * N : Nat) : Int) = 7 * (N : Int) by omega] at this
                exact ⟨_, this⟩
              · exact ⟨_, foldsFor_out _ (by omega)⟩
            obtain ⟨L7, h7⟩ := h7
            have ht := thickI f (1 + a0 * 30) (by omega)
            have htv : thickV f (1 + a0 * 30) = (1 + a0 * 30) / (N : Int) := by
              unfold thickV
              rw [hL, hN, if_neg (by omega), if_pos (by omega)]
            rw [htv] at ht
            have k1 := foldsC 1
            have k8 := foldsC 8
            have k12 := foldsC 12
            have k7 := foldsC 7
            rw [if_pos (by omega), show (1 : Int).toNat = 1 from rfl, cw_one] at k1
            rw [if_pos (by omega), show (8 : Int).toNat = 8 from rfl, cw_eight] at k8
            rw [if_pos (by omega), show (12 : Int).toNat = 12 from rfl, cw_twelve] at k12
            rw [if_pos (by omega), show (7 : Int).toNat = 7 from rfl, cw_seven] at k7
            have hq1 : 0 ≤ (1 + a0 * 30) / (N : Int) := Int.ediv_nonneg (by omega) (by omega)
            have hq2 : (1 + a0 * 30) / (N : Int) ≤ 1 + a0 * 30 := Int.ediv_le_self _ (by omega)
            have e7 : wrap64 (7 * (N : Int)) = 7 * (N : Int) := w64 (by omega) (by omega)
            have e30 : wrap64 (1 + wrap64 (a0 * 30)) = 1 + a0 * 30 := by rw [w64 (x := a0 * 30) (by omega) (by omega), w64 (by omega) (by omega)]
            refine ev_next (f := fun k => (impl_LayersAfter.f k s).bind fun t210 => ((impl_FoldsFor.f k (7 * (N : Int))).bind fun bt211 => (if C ≥ 1 then (if (mx (wrap64 (C - w)) (wrap64 (w - C))) ≤ (mx (wrap64 (t210 - w)) (wrap64 (w - t210))) then (if bt211.2 = true then (some false) else ((impl_ThicknessOf.f k f (1 + a0 * 30)).bind fun t216 => (if (N : Int) = 0 then (none) else (if t216 = (wrap64 (Int.tdiv (1 + a0 * 30) (N : Int))) then ((impl_CountFoldings.f k 1).bind fun t217 => (if t217 = 1 then ((impl_CountFoldings.f k 8).bind fun t218 => (if t218 = 3 then ((impl_CountFoldings.f k 12).bind fun t219 => (if t219 = 5 then ((impl_CountFoldings.f k 7).bind fun t220 => (some (t220 == 0))) else (some false))) else (some false))) else (some false))) else (some false))))) else (some false)) else (some false)))) (fun k => ?_) _ (Ev.bind ly (Ev.bind h7 ?_))
            · simp only [laws_FnFolds.l1, ha0, Option.bind_some, e7, e30]
              rw [if_neg (by omega)]
            · have hm : mx (wrap64 (C - w)) (wrap64 (w - C)) ≤ mx (wrap64 (prod s - w)) (wrap64 (w - prod s)) := by
                rw [mx_eq, mx_eq, w64 (x := C - w) (by omega) (by omega), w64 (x := w - C) (by omega) (by omega), w64 (x := prod s - w) (by omega) (by omega), w64 (x := w - prod s) (by omega) (by omega)]
                unfold closer at hcl
                omega
              simp only [if_pos hcv.1, if_pos hm, Bool.false_eq_true, if_false]
              refine Ev.bind ht ?_
              rw [tdiv_pos (by omega), w64 (by omega) (by omega)]
              simp only [if_neg (show ¬ (N : Int) = 0 by omega), if_true]
              refine Ev.bind k1 ?_
              simp only [if_true]
              refine Ev.bind k8 ?_
              simp only [if_true]
              refine Ev.bind k12 ?_
              simp only [if_true]
              exact Ev.bind k7 (Ev.now _)) 0 [] (Nat.zero_le _) ⟨rfl, by simp⟩
        exact h
    have hdown := List.pairwise_iff_getElem.1 (foldsL_down t b)
    have loop : ∀ i : Nat, 1 ≤ i → i ≤ (foldsL t b).length + 1 → Ev (fun k => laws_FnFolds.l0 k l f (N : Int) (foldsL t b) (i : Int)) true := by
      intro i hi1 hi2
      obtain ⟨d, hd⟩ : ∃ d, (foldsL t b).length + 1 - i = d := ⟨_, rfl⟩
      have fin : ∀ i : Nat, (foldsL t b).length ≤ i → Ev (fun k => laws_FnFolds.l0 k l f (N : Int) (foldsL t b) (i : Int)) true := by
        intro i hi
        by_cases c5 : (f.length : Int) ≤ 5
        · have l3 := layers_of (f ++ [3]) (fun x hx => by
            rcases List.mem_append.1 hx with hx | hx
            · exact hfm x hx
            · rw [List.mem_singleton.1 hx]; omega) (by rw [List.length_append, List.length_singleton]; omega)
          have ly := layersI (f ++ [3])
          rw [l3.1, prod_snoc, hN] at ly
          refine ev_next (f := fun k => (impl_LayersAfter.f k (f ++ [3])).bind fun t199 => (laws_FnFolds.j2 k l f (N : Int) (t199 != (wrap64 (3 * (N : Int)))))) (fun k => ?_) _ (Ev.bind ly ?_)
          · simp only [laws_FnFolds.l0, Option.bind_some, List.nil_append, List.length_nil]
            rw [if_neg (by omega), if_pos (by omega), if_pos (by omega), if_pos c5]
          · rw [w64 (by omega) (by omega), show ((N : Int) * 3 != 3 * (N : Int)) = false by rw [Int.mul_comm]; simp]
            exact last
        · refine ev_next (fun k => ?_) _ last
          simp only [laws_FnFolds.l0, Option.bind_some, List.nil_append, List.length_nil]
          rw [if_neg (by omega), if_pos (by omega), if_pos (by omega), if_neg c5]
      induction d generalizing i with
      | zero => exact fin i (by omega)
      | succ d ih =>
        by_cases ce : (foldsL t b).length ≤ i
        · exact fin i ce
        · have h2 := ih (i + 1) (by omega) (by omega) (by omega)
          have hgt := hdown (i - 1) i (by omega) (by omega) (by omega)
          have e1 : (i : Int) - 1 = ((i - 1 : Nat) : Int) := by omega
          rw [show ((i + 1 : Nat) : Int) = (i : Int) + 1 by omega] at h2
          refine ev_next (fun k => ?_) _ h2
          simp only [laws_FnFolds.l0]
          rw [if_pos (by omega), if_pos (by omega), w64 (x := (i : Int) - 1) (by omega) (by omega), if_pos (by omega), if_pos (by omega), e1, rd_get _ _ (by omega), rd_get _ _ (by omega), if_neg (by omega), w64 (by omega) (by omega)]
    exact loop 1 (by omega) (by omega)
end Go.Proofs.Ytljodkhonaeceaa.Pure
