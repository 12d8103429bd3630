/- The program's FoldsFor and the reference's answer alike, for all arguments. No condition. -/
import Derived.Test.YtljodkhonaeceaaPFnExactFoldsForx3
import Derived.Test.YtljodkhonaeceaaBase
namespace Go.Proofs.Ytljodkhonaeceaa.Pure
open Go.RowKit Go.Proofs.Ytljodkhonaeceaa.PFnExactFoldsFor Go.Proofs.YtljodkhonaeceaaW.PrintWords Go.Proofs.YtljodkhonaeceaaW.PrintLast Go.Proofs.YtljodkhonaeceaaW.PrintMore Go.Proofs.Ytljodkhonaeceaa.Base
set_option linter.unusedVariables false
set_option linter.unusedSimpArgs false
theorem in_f (a b c : Int) : impl_in.f a b c = some (decide (b ≤ a ∧ a ≤ c)) := by
  unfold impl_in.f
  by_cases h : b ≤ a <;> simp [h]
theorem l01In_f (a b c : Int) : spec_l01In.f a b c = some (decide (b ≤ a ∧ a ≤ c)) := by
  unfold spec_l01In.f
  by_cases h : b ≤ a <;> simp [h]
/-- Two lists are told alike, element by element. -/
theorem eqIntS_f (a b : List Int) (hb : a.length ≤ 1000000000) : Ev (fun k => laws_eqIntS.f k a b) (decide (a = b)) := by
  unfold laws_eqIntS.f
  by_cases c : a.length = b.length
  · simp only [if_pos (show (a.length : Int) = (b.length : Int) by omega)]
    have h := ev_all (fun k i => laws_eqIntS.l0 k a b i) a.length (fun i => decide (rd a (i : Int) = rd b (i : Int))) false true (fun k i hi => by
      simp only [laws_eqIntS.l0]
      rw [if_pos (by omega), if_pos (by omega), if_pos (by omega), w64 (by omega) (by omega)]
      by_cases e : rd a (i : Int) = rd b (i : Int)
      · rw [if_pos e, if_pos (by simpa using e)]
      · rw [if_neg e, if_neg (by simpa using e)]) (fun k => by simp only [laws_eqIntS.l0]; rw [if_neg (by omega)])
    have e : (if (List.range a.length).all (fun i => decide (rd a (i : Int) = rd b (i : Int))) = true then true else false) = decide (a = b) := by
      by_cases e : a = b
      · subst e
        rw [if_pos (by simp)]
        simp
      · rw [if_neg]
        · simp [e]
        · intro hall
          refine e (List.ext_getElem c fun i h1 h2 => ?_)
          have := (List.all_eq_true.1 hall) i (List.mem_range.2 h1)
          rw [decide_eq_true_eq, rd_get _ _ h1, rd_get _ _ h2] at this
          exact this
    rw [e] at h
    exact h
  · simp only [if_neg (show ¬ (a.length : Int) = (b.length : Int) by omega)]
    refine ev_const ?_
    have : a ≠ b := fun e => c (by rw [e])
    simp [this]
/-- What is marked is held so. -/
theorem mark_held (a : List Int) (hb : a.length ≤ 1000000000) : ∃ m b, Ev (fun k => laws_markIntS.f k a 1) (m, b) ∧ Ev (fun k => laws_heldIntS.f k b 1) m ∧ 0 ≤ m := by
  have h1 := ev_up (fun k (s : List Int × Int) i => laws_markIntS.l0 k s.1 s.2 i) a.length (fun i s => s.1.length = a.length ∧ s.2 = 1 + (i : Int) ∧ ∀ j, j < i → s.1[j]? = some (1 + (j : Int)))
    (fun r => r.1 = 1 + (a.length : Int) ∧ r.2.length = a.length ∧ ∀ j, j < a.length → r.2[j]? = some (1 + (j : Int))) (fun i s hi hp => by
      obtain ⟨x, y⟩ := s
      obtain ⟨p1, p2, p3⟩ := hp
      simp only at p1 p2 p3
      subst p2
      refine .inl ⟨(x.set i (1 + (i : Int)), 1 + ((i + 1 : Nat) : Int)), ⟨by simp [p1], rfl, fun j hj => ?_⟩, fun r hr => ev_next (fun k => ?_) r hr⟩
      · by_cases c : j = i
        · subst c
          simp only
          rw [List.getElem?_set_self (by omega)]
        · simp only
          rw [List.getElem?_set_ne (Ne.symm c)]
          exact p3 j (by omega)
      · simp only [laws_markIntS.l0]
        rw [if_pos (by omega), if_pos (by omega), w64 (by omega) (by omega), w64 (by omega) (by omega), Int.toNat_natCast]
        congr 1 <;> omega) (fun s hp => by
      obtain ⟨x, y⟩ := s
      obtain ⟨p1, p2, p3⟩ := hp
      simp only at p1 p2 p3
      refine ⟨(y, x), ⟨p2, p1, p3⟩, ev_now fun k => ?_⟩
      simp only [laws_markIntS.l0]
      rw [if_neg (by omega)]) 0 (a, 1) (Nat.zero_le _) ⟨rfl, rfl, fun j hj => by omega⟩
  obtain ⟨⟨m, b⟩, ⟨q1, q2, q3⟩, h1⟩ := h1
  simp only at q1 q2 q3
  refine ⟨m, b, h1, ?_, by omega⟩
  have h2 := ev_to (fun k (s : Int) i => laws_heldIntS.l0 k b s i) b.length (fun i s => s = 1 + (i : Int)) m (fun i s hi hp => by
      subst hp
      refine .inl ⟨1 + ((i + 1 : Nat) : Int), rfl, fun r hr => ev_next (fun k => ?_) r hr⟩
      simp only [laws_heldIntS.l0]
      have e : rd b (i : Int) = 1 + (i : Int) := by
        rw [rd_eq, List.getD_eq_getElem?_getD, q3 i (by omega)]
        rfl
      rw [if_pos (by omega), if_pos (by omega), if_pos e, w64 (by omega) (by omega), w64 (by omega) (by omega)]
      congr 1 <;> omega) (fun s hp => by
      refine ev_now fun k => ?_
      simp only [laws_heldIntS.l0]
      rw [if_neg (by omega)]
      congr 1 <;> omega) 0 1 (Nat.zero_le _) rfl
  exact h2
/-- Each number is a product of twos, threes and a rest without both. -/
theorem two_three (n : Nat) (h : 1 ≤ n) : ∃ t b u, n = 2 ^ t * (3 ^ b * u) ∧ u % 2 = 1 ∧ u % 3 ≠ 0 := by
  induction n using Nat.strongRecOn with
  | ind n ih =>
    by_cases c2 : n % 2 = 0
    · obtain ⟨t, b, u, e, h1, h2⟩ := ih (n / 2) (by omega) (by omega)
      refine ⟨t + 1, b, u, ?_, h1, h2⟩
      have : n = 2 * (n / 2) := by omega
      rw [this, e, Nat.pow_succ, Nat.mul_comm (2 ^ t) 2, Nat.mul_assoc]
    · by_cases c3 : n % 3 = 0
      · obtain ⟨t, b, u, e, h1, h2⟩ := ih (n / 3) (by omega) (by omega)
        have e3 : n = 3 * (n / 3) := by omega
        refine ⟨t, b + 1, u, ?_, h1, h2⟩
        rw [e3, e, Nat.pow_succ, Nat.mul_comm (3 ^ b) 3, Nat.mul_assoc 3, Nat.mul_left_comm]
      · exact ⟨0, 0, n, by simp, by omega, c3⟩
theorem odd_three (b u : Nat) (h : u % 2 = 1) : (3 ^ b * u) % 2 = 1 := by
  induction b with
  | zero => simpa using h
  | succ b ih => rw [Nat.pow_succ, Nat.mul_comm (3 ^ b) 3, Nat.mul_assoc]; omega
def foldsL (t b : Nat) : List Int := List.replicate (t / 2) 4 ++ List.replicate b 3 ++ List.replicate (t % 2) 2
theorem pow_lt (t b u : Nat) (hu : 1 ≤ u) (h : 2 ^ t * (3 ^ b * u) ≤ 10000) : t ≤ 13 ∧ b ≤ 8 := by
  have h1 : 1 ≤ 3 ^ b * u := Nat.mul_pos (Nat.pow_pos (by omega)) hu
  have h2 : 2 ^ t ≤ 10000 := Nat.le_trans (Nat.le_mul_of_pos_right _ h1) h
  have h3 : 3 ^ b ≤ 10000 := Nat.le_trans (Nat.le_trans (Nat.le_mul_of_pos_right _ hu) (Nat.le_mul_of_pos_left _ (Nat.pow_pos (by omega)))) h
  constructor
  · rcases Nat.lt_or_ge 13 t with c | c
    · have : 2 ^ 14 ≤ 2 ^ t := Nat.pow_le_pow_right (by omega) c
      omega
    · exact c
  · rcases Nat.lt_or_ge 8 b with c | c
    · have : 3 ^ 9 ≤ 3 ^ b := Nat.pow_le_pow_right (by omega) c
      omega
    · exact c
theorem divc (a b : Nat) (hb : 1 ≤ b) (ha : a ≤ 10000) : wrap64 (Int.tdiv (a : Int) (b : Int)) = ((a / b : Nat) : Int) := by
  rw [tdiv_pos (by omega), ← Int.natCast_ediv]
  have : a / b ≤ a := Nat.div_le_self _ _
  generalize a / b = q at this ⊢
  exact w64 (by omega) (by omega)
theorem modc (a b : Nat) : Int.tmod (a : Int) (b : Int) = ((a % b : Nat) : Int) := by
  rw [tmod_pos (by omega)]
  rfl
/-- One number of 4, 3, 2: as often as it divides. -/
theorem foldsI_l1 (p c : Nat) (x rest : Nat) (hp : 2 ≤ p ∧ p ≤ 4) (hr : rest % p ≠ 0) (hx : x = p ^ c * rest) (hb : x ≤ 10000) (hc : c ≤ 20) (i : Nat) (hi : i < 3) (acc : List Int) (ha : acc.length + c ≤ 1000) (r : List Int × Bool)
    (h : Ev (fun k => impl_FoldsFor.l0 k (rest : Int) (acc ++ List.replicate c (p : Int)) [4, 3, 2] 3 ((i : Int) + 1)) r) :
    Ev (fun k => impl_FoldsFor.l1 k (x : Int) acc (p : Int) [4, 3, 2] 3 (i : Int)) r := by
  induction c generalizing x acc with
  | zero =>
    obtain rfl : x = rest := by simpa using hx
    rw [List.replicate_zero, List.append_nil] at h
    refine ev_next (fun k => ?_) _ h
    simp only [impl_FoldsFor.l1, modc]
    rw [if_neg (by omega), if_neg (by omega), w64 (by omega) (by omega)]
  | succ c ih =>
    have e : x = p * (p ^ c * rest) := by rw [hx, Nat.pow_succ, Nat.mul_comm (p ^ c) p, Nat.mul_assoc]
    have e1 : x % p = 0 := by rw [e]; exact Nat.mul_mod_right _ _
    have e2 : x / p = p ^ c * rest := by rw [e]; exact Nat.mul_div_cancel_left _ (by omega)
    have hle : x / p ≤ x := Nat.div_le_self _ _
    rw [List.replicate_succ, List.append_cons] at h
    refine ev_next (fun k => ?_) _ (ih (x / p) e2 (Nat.le_trans hle hb) (by omega) (acc ++ [(p : Int)]) (by simp; omega) h)
    simp only [impl_FoldsFor.l1, modc]
    rw [if_neg (by omega), if_pos (by omega), if_pos (by omega), divc x p (by omega) hb]
theorem foldsForI (n : Nat) (t b u : Nat) (e : n = 2 ^ t * (3 ^ b * u)) (h2 : u % 2 = 1) (h3 : u % 3 ≠ 0) (hn : 1 ≤ n ∧ n ≤ 10000) :
    Ev (fun k => impl_FoldsFor.f k (n : Int)) (if u = 1 then (foldsL t b, true) else ([], false)) := by
  have hu : 1 ≤ u := by omega
  obtain ⟨ht, hb⟩ := pow_lt t b u hu (by omega)
  unfold impl_FoldsFor.f
  simp only [in_f, Option.bind_some, decide_eq_true_eq, if_pos (show 1 ≤ (n : Int) ∧ (n : Int) ≤ 10000 by omega)]
  have ho := odd_three b u h2
  have et : n = 4 ^ (t / 2) * (2 ^ (t % 2) * (3 ^ b * u)) := by
    rw [e]
    generalize 3 ^ b * u = q
    rw [← Nat.mul_assoc (4 ^ (t / 2)), show (4 : Nat) ^ (t / 2) = 2 ^ (2 * (t / 2)) from by rw [Nat.pow_mul], ← Nat.pow_add, show 2 * (t / 2) + t % 2 = t by omega]
  have hm4 : (2 ^ (t % 2) * (3 ^ b * u)) % 4 ≠ 0 := by
    generalize 3 ^ b * u = q at ho ⊢
    have : t % 2 = 0 ∨ t % 2 = 1 := by omega
    rcases this with h | h <;> rw [h] <;> omega
  have e3 : 2 ^ (t % 2) * (3 ^ b * u) = 3 ^ b * (2 ^ (t % 2) * u) := by rw [Nat.mul_left_comm]
  have hm3 : (2 ^ (t % 2) * u) % 3 ≠ 0 := by
    have : t % 2 = 0 ∨ t % 2 = 1 := by omega
    rcases this with h | h <;> rw [h] <;> omega
  have hle1 : 2 ^ (t % 2) * (3 ^ b * u) ≤ 10000 := by
    have : 2 ^ (t % 2) * (3 ^ b * u) ≤ n := by
      rw [et]
      exact Nat.le_mul_of_pos_left _ (Nat.pow_pos (by omega))
    omega
  have hle2 : 2 ^ (t % 2) * u ≤ 10000 := by
    have : 2 ^ (t % 2) * u ≤ 3 ^ b * (2 ^ (t % 2) * u) := Nat.le_mul_of_pos_left _ (Nat.pow_pos (by omega))
    omega
  have start : ∀ (x i : Nat) (hi : i < 3) (p : Nat) (hp : rd [4, 3, 2] (i : Int) = (p : Int)) (acc : List Int) (r : List Int × Bool), Ev (fun k => impl_FoldsFor.l1 k (x : Int) acc (p : Int) [4, 3, 2] 3 (i : Int)) r → Ev (fun k => impl_FoldsFor.l0 k (x : Int) acc [4, 3, 2] 3 (i : Int)) r := by
    intro x i hi p hp acc r h
    refine ev_next (fun k => ?_) _ h
    simp only [impl_FoldsFor.l0]
    rw [if_pos (by omega), if_pos (by omega), if_pos (by simp; omega), hp]
  refine start n 0 (by omega) 4 rfl [] _ (foldsI_l1 4 (t / 2) n _ (by omega) hm4 et hn.2 (by omega) 0 (by omega) [] (by simp; omega) _ ?_)
  refine start _ 1 (by omega) 3 rfl _ _ (foldsI_l1 3 b _ _ (by omega) hm3 e3 hle1 (by omega) 1 (by omega) _ (by simp; omega) _ ?_)
  refine start _ 2 (by omega) 2 rfl _ _ (foldsI_l1 2 (t % 2) _ u (by omega) (by omega) rfl hle2 (by omega) 2 (by omega) _ (by simp; omega) _ ?_)
  refine ev_now fun k => ?_
  simp only [impl_FoldsFor.l0]
  rw [if_neg (by omega)]
  by_cases c : u = 1
  · rw [if_pos (by omega), if_pos c]
    rfl
  · rw [if_neg (by omega), if_neg c]
theorem foldsForS (n : Nat) (t b u : Nat) (e : n = 2 ^ t * (3 ^ b * u)) (h2 : u % 2 = 1) (h3 : u % 3 ≠ 0) (hn : 1 ≤ n ∧ n ≤ 10000) :
    Ev (fun k => spec_FoldsFor.f k (n : Int)) (if u = 1 then (foldsL t b, true) else ([], false)) := by
  have hu : 1 ≤ u := by omega
  obtain ⟨ht, hb⟩ := pow_lt t b u hu (by omega)
  have ho := odd_three b u h2
  unfold spec_FoldsFor.f
  simp only [l01In_f, Option.bind_some, decide_eq_true_eq, if_pos (show 1 ≤ (n : Int) ∧ (n : Int) ≤ 10000 by omega)]
  -- the twos
  have s0 : ∀ (r : List Int × Bool) (c : Nat) (x : Nat) (y : Nat), c ≤ 13 → y + c ≤ 100 → x = 2 ^ c * (3 ^ b * u) → x ≤ 10000 → Ev (fun k => spec_FoldsFor.l1 k ((3 ^ b * u : Nat) : Int) [] ((y + c : Nat) : Int) 0) r → Ev (fun k => spec_FoldsFor.l0 k (x : Int) [] (y : Int) 0) r := by
    intro r c
    induction c with
    | zero =>
      intro x y _ _ hx hle h
      obtain rfl : x = 3 ^ b * u := by simpa using hx
      refine ev_next (fun k => ?_) _ h
      simp only [spec_FoldsFor.l0]
      rw [show (2 : Int) = ((2 : Nat) : Int) from rfl, modc, if_neg (by omega)]
      rfl
    | succ c ih =>
      intro x y hc hy hx hle h
      have e : x = 2 * (2 ^ c * (3 ^ b * u)) := by rw [hx, Nat.pow_succ, Nat.mul_comm (2 ^ c) 2, Nat.mul_assoc]
      have e2 : x / 2 = 2 ^ c * (3 ^ b * u) := by rw [e]; exact Nat.mul_div_cancel_left _ (by omega)
      refine ev_next (fun k => ?_) _ (ih (x / 2) (y + 1) (by omega) (by omega) e2 (by omega) (by rw [show y + 1 + c = y + (c + 1) by omega]; exact h))
      simp only [spec_FoldsFor.l0]
      rw [show (2 : Int) = ((2 : Nat) : Int) from rfl, modc, if_pos (by omega), divc x 2 (by omega) hle, w64 (by omega) (by omega)]
      rfl
  -- the threes
  have s1 : ∀ (r : List Int × Bool) (c : Nat) (x : Nat) (y : Nat), c ≤ 8 → y + c ≤ 100 → x = 3 ^ c * u → x ≤ 10000 → Ev (fun k => if u = 1 then spec_FoldsFor.l2 k [] (t : Int) ((y + c : Nat) : Int) 0 else some ([], false)) r → Ev (fun k => spec_FoldsFor.l1 k (x : Int) [] (t : Int) (y : Int)) r := by
    intro r c
    induction c with
    | zero =>
      intro x y _ _ hx hle h
      obtain rfl : x = u := by simpa using hx
      refine ev_next (fun k => ?_) _ h
      simp only [spec_FoldsFor.l1]
      rw [show (3 : Int) = ((3 : Nat) : Int) from rfl, modc, if_neg (by omega)]
      by_cases c1 : x = 1
      · rw [if_pos (by omega), if_pos c1]
        rfl
      · rw [if_neg (by omega), if_neg c1]
    | succ c ih =>
      intro x y hc hy hx hle h
      have e : x = 3 * (3 ^ c * u) := by rw [hx, Nat.pow_succ, Nat.mul_comm (3 ^ c) 3, Nat.mul_assoc]
      have e2 : x / 3 = 3 ^ c * u := by rw [e]; exact Nat.mul_div_cancel_left _ (by omega)
      refine ev_next (fun k => ?_) _ (ih (x / 3) (y + 1) (by omega) (by omega) e2 (by omega) (by rw [show y + 1 + c = y + (c + 1) by omega]; exact h))
      simp only [spec_FoldsFor.l1]
      rw [show (3 : Int) = ((3 : Nat) : Int) from rfl, modc, if_pos (by omega), divc x 3 (by omega) hle, w64 (by omega) (by omega)]
      rfl
  have hle : 3 ^ b * u ≤ 10000 := by
    have : 3 ^ b * u ≤ n := by
      rw [e]
      exact Nat.le_mul_of_pos_left _ (Nat.pow_pos (by omega))
    omega
  refine s0 _ t n 0 ht (by omega) e hn.2 ?_
  rw [Nat.zero_add]
  refine s1 _ b (3 ^ b * u) 0 hb (by omega) rfl hle ?_
  rw [Nat.zero_add]
  by_cases c : u = 1
  · simp only [if_pos c]
    -- the fours, then the threes, then the two
    have hh : wrap64 (Int.tdiv (t : Int) 2) = ((t / 2 : Nat) : Int) := divc t 2 (by omega) (by omega)
    have s2 := ev_to (fun k (s : List Int) i => spec_FoldsFor.l2 k s (t : Int) (b : Int) i) (t / 2) (fun i s => s = List.replicate i 4) (foldsL t b, true) (fun i s hi hs => by
      subst hs
      refine .inl ⟨List.replicate (i + 1) 4, rfl, fun r hr => ev_next (fun k => ?_) r hr⟩
      simp only [spec_FoldsFor.l2]
      rw [hh, if_pos (by omega), if_pos (by simp; omega), w64 (by omega) (by omega), ← List.replicate_succ']) (fun s hs => by
      subst hs
      have s3 := ev_to (fun k (s : List Int) i => spec_FoldsFor.l3 k s (t : Int) (b : Int) i) b (fun i s => s = List.replicate (t / 2) 4 ++ List.replicate i 3) (foldsL t b, true) (fun i s hi hs => by
        subst hs
        refine .inl ⟨List.replicate (t / 2) 4 ++ List.replicate (i + 1) 3, rfl, fun r hr => ev_next (fun k => ?_) r hr⟩
        simp only [spec_FoldsFor.l3]
        rw [if_pos (by omega), if_pos (by simp; omega), w64 (by omega) (by omega), List.replicate_succ', List.append_assoc]) (fun s hs => by
        subst hs
        refine ev_now fun k => ?_
        simp only [spec_FoldsFor.l3]
        rw [if_neg (by omega), show (2 : Int) = ((2 : Nat) : Int) from rfl, modc]
        unfold foldsL
        by_cases c2 : t % 2 = 1
        · rw [if_pos (by omega), if_pos (by simp; omega), c2]
          rfl
        · rw [if_neg (by omega), show t % 2 = 0 by omega]
          simp) 0 (List.replicate (t / 2) 4) (Nat.zero_le _) (by simp)
      refine ev_next (fun k => ?_) _ s3
      simp only [spec_FoldsFor.l2]
      rw [hh, if_neg (by omega)]
      rfl) 0 [] (Nat.zero_le _) rfl
    exact s2
  · simp only [if_neg c]
    exact Ev.now _
theorem FnExactFoldsFor : laws_FnExactFoldsFor.Pure := by
  intro a _
  refine Ev.rounds ?_
  obtain ⟨L, ok, hL, hi, hs⟩ : ∃ (L : List Int) (ok : Bool), L.length ≤ 1000 ∧ Ev (fun k => impl_FoldsFor.f k a) (L, ok) ∧ Ev (fun k => spec_FoldsFor.f k a) (L, ok) := by
    by_cases c : 1 ≤ a ∧ a ≤ 10000
    · obtain ⟨n, rfl⟩ := Int.eq_ofNat_of_zero_le (show 0 ≤ a by omega)
      obtain ⟨t, b, u, e, h2, h3⟩ := two_three n (by omega)
      have h1 := foldsForI n t b u e h2 h3 (by omega)
      have h4 := foldsForS n t b u e h2 h3 (by omega)
      have hp := pow_lt t b u (by omega) (by omega)
      by_cases c1 : u = 1
      · rw [if_pos c1] at h1 h4
        exact ⟨_, _, by simp [foldsL]; omega, h1, h4⟩
      · rw [if_neg c1] at h1 h4
        exact ⟨_, _, by simp, h1, h4⟩
    · refine ⟨[], false, by simp, ?_, ?_⟩
      · unfold impl_FoldsFor.f
        simp only [in_f, Option.bind_some, decide_eq_true_eq, if_neg c]
        exact Ev.now _
      · unfold spec_FoldsFor.f
        simp only [l01In_f, Option.bind_some, decide_eq_true_eq, if_neg c]
        exact Ev.now _
  unfold laws_FnExactFoldsFor.f
  obtain ⟨m, b, hm, hh, h0⟩ := mark_held L (by omega)
  have he := eqIntS_f L L (by omega)
  rw [decide_eq_true rfl] at he
  refine Ev.bind hs (Ev.bind hi (Ev.bind he ?_))
  simp only [if_true, bne_self_eq_false]
  refine ev_next (f := fun k => (laws_markIntS.f k L 1).bind fun bt138 => ((laws_heldIntS.f k bt138.2 1).bind fun t140 => (if t140 < 0 then (some false) else (if t140 = bt138.1 then ((impl_FoldsFor.f k a).bind fun bt141 => ((laws_eqIntS.f k bt141.1 L).bind fun t145 => (if t145 = true then (laws_FnExactFoldsFor.j1 k bt138.2 bt138.1 (bt141.2 != ok)) else (laws_FnExactFoldsFor.j1 k bt138.2 bt138.1 true)))) else (some false))))) (fun k => rfl) _ ?_
  refine Ev.bind hm (Ev.bind hh ?_)
  simp only [if_neg (show ¬ m < 0 by omega), if_true]
  refine Ev.bind hi (Ev.bind he ?_)
  simp only [if_true, bne_self_eq_false]
  refine ev_next (f := fun k => (laws_heldIntS.f k b 1).bind fun t146 => (if t146 < 0 then (some false) else (if t146 = m then (some true) else (some false)))) (fun k => rfl) _ ?_
  refine Ev.bind hh ?_
  simp only [if_neg (show ¬ m < 0 by omega), if_true]
  exact Ev.now _
end Go.Proofs.Ytljodkhonaeceaa.Pure
