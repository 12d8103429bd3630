/- The program's ClosestLayers and the reference's answer alike, for all arguments. No condition. -/
import Derived.Test.YtnhkneicepmiiaaPFnExactClosestLayersx2
import Derived.Test.YtnhkneicepmiiaaBase
namespace Go.Proofs.Ytnhkneicepmiiaa.Pure
open Go.RowKit Go.Proofs.Ytnhkneicepmiiaa.PFnExactClosestLayers Go.Proofs.YtnhkneicepmiiaaW.PrintWords Go.Proofs.YtnhkneicepmiiaaW.PrintLast Go.Proofs.YtnhkneicepmiiaaW.PrintMore Go.Proofs.Ytnhkneicepmiiaa.Base
set_option linter.unusedVariables false
set_option linter.unusedSimpArgs false
theorem in_f (a b c : Int) : impl_in.f a b c = some (decide (b ≤ a ∧ a ≤ c)) := by
  unfold impl_in.f
  by_cases h : b ≤ a <;> simp [h]
theorem l01In_f (a b c : Int) : spec_l01In.f a b c = some (decide (b ≤ a ∧ a ≤ c)) := by
  unfold spec_l01In.f
  by_cases h : b ≤ a <;> simp [h]
/-- q is closer to w than p, or as close and less. -/
def closer (w q p : Int) : Prop := max (q - w) (w - q) < max (p - w) (w - p) ∨ (max (q - w) (w - q) = max (p - w) (w - p) ∧ q < p)
instance (w q p : Int) : Decidable (closer w q p) := by unfold closer; infer_instance
theorem closer_total (w q p : Int) (h1 : ¬ closer w q p) (h2 : ¬ closer w p q) : q = p := by
  unfold closer at h1 h2
  omega
theorem closer_trans (w q p r : Int) (h1 : closer w q p) (h2 : ¬ closer w r p) : ¬ closer w r q := by
  unfold closer at *
  omega
def pick (w b p : Int) : Int := if closer w p b then p else b
/-- The best of a list, the first state given. -/
theorem pick_best (w : Int) (l : List Int) (b : Int) : (l.foldl (pick w) b = b ∨ l.foldl (pick w) b ∈ l) ∧ ¬ closer w b (l.foldl (pick w) b) ∧ ∀ p ∈ l, ¬ closer w p (l.foldl (pick w) b) := by
  induction l generalizing b with
  | nil => exact ⟨.inl rfl, by simp [closer], by simp⟩
  | cons x l ih =>
    obtain ⟨i1, i2, i3⟩ := ih (pick w b x)
    rw [List.foldl_cons]
    generalize l.foldl (pick w) (pick w b x) = r at *
    have hx : ¬ closer w x r ∧ ¬ closer w b r := by
      unfold pick at i2
      split at i2
      · rename_i c
        refine ⟨i2, fun h => ?_⟩
        unfold closer at *
        omega
      · rename_i c
        refine ⟨fun h => ?_, i2⟩
        unfold closer at *
        omega
    refine ⟨?_, hx.2, fun p hp => ?_⟩
    · rcases i1 with i1 | i1
      · unfold pick at i1
        split at i1
        · exact .inr (by rw [i1]; exact List.mem_cons_self)
        · exact .inl i1
      · exact .inr (List.mem_cons_of_mem _ i1)
    · rcases List.mem_cons.1 hp with rfl | hp
      · exact hx.1
      · exact i3 p hp
/-- Two lists with the same elements have the same best. -/
theorem best_eq (w : Int) (l m : List Int) (a b : Int) (ha : a ∈ l) (hb : b ∈ m) (h1 : ∀ p ∈ l, p ∈ m) (h2 : ∀ p ∈ m, p ∈ l) : l.foldl (pick w) a = m.foldl (pick w) b := by
  obtain ⟨p1, _, p3⟩ := pick_best w l a
  obtain ⟨q1, _, q3⟩ := pick_best w m b
  have m1 : l.foldl (pick w) a ∈ l := by 
    rcases p1 with p1 | p1
    · rw [p1]
      exact ha
    · exact p1
  have m2 : m.foldl (pick w) b ∈ m := by 
    rcases q1 with q1 | q1
    · rw [q1]
      exact hb
    · exact q1
  exact closer_total w _ _ (q3 _ (h1 _ m1)) (p3 _ (h2 _ m2))
def tri (p : Int) : List Int := [2 * p, 3 * p, 4 * p]
theorem tri_len (l : List Int) : (l.flatMap tri).length = 3 * l.length := by
  induction l with
  | nil => rfl
  | cons x l ih =>
    rw [List.flatMap_cons, List.length_append, ih, List.length_cons]
    show 3 + 3 * l.length = 3 * (l.length + 1)
    omega
/-- All products of so many numbers 2, 3 and 4. -/
def prods : Nat → List Int
  | 0 => [1]
  | n + 1 => (prods n).flatMap tri
theorem prods_bd (n : Nat) : ∀ p ∈ prods n, 1 ≤ p ∧ p ≤ 4 ^ n := by
  induction n with
  | zero => simp [prods]
  | succ n ih =>
    intro p hp
    simp only [prods, List.mem_flatMap] at hp
    obtain ⟨q, hq, hp⟩ := hp
    have := ih q hq
    have e : (4 : Int) ^ (n + 1) = 4 ^ n * 4 := by rw [Int.pow_succ]
    simp only [tri, List.mem_cons, List.not_mem_nil, or_false] at hp
    omega
theorem prods_len (n : Nat) : (prods n).length = 3 ^ n := by
  induction n with
  | zero => rfl
  | succ n ih =>
    simp only [prods]
    rw [tri_len, ih, Nat.pow_succ]
    omega
theorem pow_small (n : Nat) (h : n ≤ 6) : (4 : Int) ^ n ≤ 4096 ∧ 3 ^ n ≤ 729 := by
  have : n = 0 ∨ n = 1 ∨ n = 2 ∨ n = 3 ∨ n = 4 ∨ n = 5 ∨ n = 6 := by omega
  rcases this with rfl | rfl | rfl | rfl | rfl | rfl | rfl <;> decide
theorem prods_small (n : Nat) (h : n ≤ 6) : (∀ p ∈ prods n, 1 ≤ p ∧ p ≤ 4096) ∧ (prods n).length ≤ 729 := by
  have h1 := pow_small n h
  exact ⟨fun p hp => by have := prods_bd n p hp; omega, by rw [prods_len]; exact h1.2⟩
def closeV (w n : Int) : Int := if (1 ≤ w ∧ w ≤ 10000) ∧ (0 ≤ n ∧ n ≤ 6) then (prods n.toNat).foldl (pick w) ((prods n.toNat).getD 0 0) else -1
theorem closeI_l1 (w : Int) (n i : Nat) (ps : List Int) (hn : n ≤ 6) (hi : i < n) (hb : ∀ p ∈ ps, 1 ≤ p ∧ p ≤ 4096) (hl : ps.length ≤ 729) (r : Int)
    (h : Ev (fun k => impl_ClosestLayers.l0 k w (ps.flatMap tri) (n : Int) ((i + 1 : Nat) : Int)) r) :
    Ev (fun k => impl_ClosestLayers.l1 k w [] (n : Int) (i : Int) ps (ps.length : Int) 0) r := by
  have h2 := ev_to (fun k s j => impl_ClosestLayers.l1 k w s (n : Int) (i : Int) ps (ps.length : Int) j) ps.length (fun j s => s = (ps.take j).flatMap tri) r (fun j s hj hp => by
      subst hp
      refine .inl ⟨(ps.take (j + 1)).flatMap tri, rfl, fun r hr => ev_next (fun k => ?_) r hr⟩
      have hp := hb _ (List.getElem_mem hj)
      simp only [impl_ClosestLayers.l1]
      rw [if_pos (by omega), if_pos (by omega), if_pos (by omega), rd_get _ _ hj]
      simp only [Option.bind_some]
      have ht : ((ps.take j).flatMap tri).length ≤ 3 * 729 := by
        rw [tri_len, List.length_take]
        omega
      rw [w64 (x := 2 * ps[j]) (by omega) (by omega), w64 (x := 3 * ps[j]) (by omega) (by omega), w64 (x := 4 * ps[j]) (by omega) (by omega), w64 (x := (j : Int) + 1) (by omega) (by omega), if_pos (by simp only [List.length_cons, List.length_nil]; omega)]
      rw [List.take_succ_eq_append_getElem hj, List.flatMap_append, List.flatMap_singleton]
      rfl) (fun s hp => by
      subst hp
      rw [List.take_length]
      refine ev_next (fun k => ?_) _ h
      simp only [impl_ClosestLayers.l1]
      rw [if_neg (by omega), w64 (by omega) (by omega)]
      rfl) 0 [] (Nat.zero_le _) rfl
  exact h2
theorem fold_bd (w : Int) (l : List Int) (b : Int) (hb : ∀ p ∈ l, 1 ≤ p ∧ p ≤ 4096) (h : 1 ≤ b ∧ b ≤ 4096) : 1 ≤ l.foldl (pick w) b ∧ l.foldl (pick w) b ≤ 4096 := by
  rcases (pick_best w l b).1 with e | e
  · rw [e]
    exact h
  · exact hb _ e
theorem closeI_l2 (w : Int) (ps : List Int) (b : Int) (hw : 1 ≤ w ∧ w ≤ 10000) (hb : ∀ p ∈ ps, 1 ≤ p ∧ p ≤ 4096) (hb0 : 1 ≤ b ∧ b ≤ 4096) (hl : ps.length ≤ 729) :
    Ev (fun k => impl_ClosestLayers.l2 k w b ps (ps.length : Int) 0) (ps.foldl (pick w) b) := by
  have h2 := ev_to (fun k s j => impl_ClosestLayers.l2 k w s ps (ps.length : Int) j) ps.length (fun j s => s = (ps.take j).foldl (pick w) b) (ps.foldl (pick w) b) (fun j s hj hp => by
      subst hp
      refine .inl ⟨(ps.take (j + 1)).foldl (pick w) b, rfl, fun r hr => ev_next (fun k => ?_) r hr⟩
      have hp := hb _ (List.getElem_mem hj)
      have hq := fold_bd w (ps.take j) b (fun p hp => hb p (List.mem_of_mem_take hp)) hb0
      rw [List.take_succ_eq_append_getElem hj, List.foldl_append, List.foldl_cons, List.foldl_nil]
      generalize (ps.take j).foldl (pick w) b = s at *
      simp only [impl_ClosestLayers.l2]
      rw [if_pos (by omega), if_pos (by omega), if_pos (by omega), rd_get _ _ hj]
      generalize ps[j] = p at *
      rw [w64 (x := p - w) (by omega) (by omega), w64 (x := w - p) (by omega) (by omega), w64 (x := s - w) (by omega) (by omega), w64 (x := w - s) (by omega) (by omega), w64 (x := (j : Int) + 1) (by omega) (by omega)]
      simp only [mx_eq]
      unfold pick
      by_cases c1 : max (p - w) (w - p) < max (s - w) (w - s)
      · rw [if_pos c1, if_pos (.inl c1)]
      · rw [if_neg c1]
        by_cases c2 : max (p - w) (w - p) = max (s - w) (w - s)
        · rw [if_pos c2]
          by_cases c3 : p < s
          · rw [if_pos c3, if_pos (.inr ⟨c2, c3⟩)]
          · rw [if_neg c3, if_neg (by unfold closer; omega)]
        · rw [if_neg c2, if_neg (by unfold closer; omega)]) (fun s hp => by
      subst hp
      rw [List.take_length]
      refine ev_now fun k => ?_
      simp only [impl_ClosestLayers.l2]
      rw [if_neg (by omega)]) 0 b (Nat.zero_le _) rfl
  exact h2
theorem closeI_l0 (w : Int) (n : Nat) (hn : n ≤ 6) (hw : 1 ≤ w ∧ w ≤ 10000) (i : Nat) (hi : i ≤ n) : Ev (fun k => impl_ClosestLayers.l0 k w (prods i) (n : Int) (i : Int)) ((prods n).foldl (pick w) ((prods n).getD 0 0)) := by
  obtain ⟨d, hd⟩ : ∃ d, n - i = d := ⟨_, rfl⟩
  induction d generalizing i with
  | zero =>
    obtain rfl : i = n := by omega
    obtain ⟨hb, hl⟩ := prods_small i hn
    have hpos : 0 < (prods i).length := by rw [prods_len]; exact Nat.pow_pos (by omega)
    have hb0 : 1 ≤ (prods i).getD 0 0 ∧ (prods i).getD 0 0 ≤ 4096 := by
      rw [List.getD_eq_getElem?_getD, List.getElem?_eq_getElem hpos]
      exact hb _ (List.getElem_mem hpos)
    refine ev_next (fun k => ?_) _ (closeI_l2 w (prods i) ((prods i).getD 0 0) hw hb hb0 hl)
    simp only [impl_ClosestLayers.l0]
    rw [if_neg (by omega), if_pos (by omega)]
    rfl
  | succ d ih =>
    obtain ⟨hb, hl⟩ := prods_small i (by omega)
    refine ev_next (fun k => ?_) _ (closeI_l1 w n i (prods i) hn (by omega) hb hl _ (ih (i + 1) (by omega) (by omega)))
    simp only [impl_ClosestLayers.l0]
    rw [if_pos (by omega)]
theorem closeI (w n : Int) : Ev (fun k => impl_ClosestLayers.f k w n) (closeV w n) := by
  unfold impl_ClosestLayers.f closeV
  simp only [in_f, Option.bind_some, decide_eq_true_eq]
  by_cases c1 : 1 ≤ w ∧ w ≤ 10000
  · simp only [if_pos c1]
    by_cases c2 : 0 ≤ n ∧ n ≤ 6
    · rw [if_pos ⟨c1, c2⟩]
      have h := closeI_l0 w n.toNat (by omega) c1 0 (Nat.zero_le _)
      rw [show ((n.toNat : Nat) : Int) = n by omega] at h
      refine ev_next (fun k => ?_) _ h
      simp only [impl_ClosestLayers.j0]
      rw [if_neg (by simp; omega)]
      rfl
    · rw [if_neg (fun h => c2 h.2)]
      exact ev_now fun k => by simp only [impl_ClosestLayers.j0]; rw [if_pos (by simp; omega)]
  · simp only [if_neg c1]
    rw [if_neg (fun h => c1 h.1)]
    exact ev_now fun k => rfl
def fac (a b k : Nat) : Int := if k < a then 2 else if k < a + b then 3 else 4
def pw (a b j : Nat) : Int := (List.range j).foldl (fun x k => x * fac a b k) 1
theorem pw_succ (a b j : Nat) : pw a b (j + 1) = pw a b j * fac a b j := by
  unfold pw
  rw [List.range_succ, List.foldl_append]
  rfl
theorem pw_bd (a b j : Nat) : 1 ≤ pw a b j ∧ pw a b j ≤ 4 ^ j := by
  induction j with
  | zero => simp [pw]
  | succ j ih =>
    rw [pw_succ, Int.pow_succ]
    unfold fac
    split
    · omega
    · split <;> omega
def cands (n : Nat) : List Int := (List.range (n + 1)).flatMap fun a => (List.range (n + 1 - a)).map fun b => pw a b n
def pickS (w b p : Int) : Int := if b < 0 then p else pick w b p
theorem same_sets : ∀ n, n < 7 → ((prods n).all (fun p => (cands n).contains p) && (cands n).all (fun p => (prods n).contains p)) = true := by decide +kernel
theorem cands_pos (n : Nat) : ∀ p ∈ cands n, 1 ≤ p ∧ p ≤ 4 ^ n := by
  intro p hp
  unfold cands at hp
  simp only [List.mem_flatMap, List.mem_map] at hp
  obtain ⟨a, _, b, _, rfl⟩ := hp
  exact pw_bd a b n
theorem pickS_pos (w : Int) (l : List Int) (b : Int) (hb : 1 ≤ b) (hl : ∀ p ∈ l, 1 ≤ p) : l.foldl (pickS w) b = l.foldl (pick w) b ∧ 1 ≤ l.foldl (pick w) b := by
  induction l generalizing b with
  | nil => exact ⟨rfl, hb⟩
  | cons x l ih =>
    rw [List.foldl_cons, List.foldl_cons]
    have e : pickS w b x = pick w b x := by
      unfold pickS
      rw [if_neg (by omega)]
    rw [e]
    refine ih _ ?_ (fun p hp => hl p (List.mem_cons_of_mem _ hp))
    unfold pick
    have := hl x List.mem_cons_self
    split <;> omega
theorem pick_self (w b : Int) : pick w b b = b := by
  unfold pick
  split <;> rfl
theorem spec_best (w : Int) (n : Nat) (hn : n ≤ 6) : (cands n).foldl (pickS w) (-1) = (prods n).foldl (pick w) ((prods n).getD 0 0) := by
  have hs := same_sets n (by omega)
  simp only [Bool.and_eq_true, List.all_eq_true, List.contains_iff_mem] at hs
  have hpos : 0 < (prods n).length := by rw [prods_len]; exact Nat.pow_pos (by omega)
  have hm : (prods n).getD 0 0 ∈ prods n := by
    rw [List.getD_eq_getElem?_getD, List.getElem?_eq_getElem hpos]
    exact List.getElem_mem hpos
  have hc := hs.1 _ hm
  have hp := cands_pos n
  cases hcs : cands n with
  | nil => rw [hcs] at hc; simp at hc
  | cons c l =>
    rw [hcs] at hp
    have e : (c :: l).foldl (pickS w) (-1) = (c :: l).foldl (pick w) c := by
      rw [List.foldl_cons, List.foldl_cons, pick_self]
      have : pickS w (-1) c = c := by unfold pickS; rw [if_pos (by omega)]
      rw [this]
      exact (pickS_pos w l c (hp c List.mem_cons_self).1 (fun p hq => (hp p (List.mem_cons_of_mem _ hq)).1)).1
    rw [e]
    rw [hcs] at hs
    exact best_eq w (c :: l) (prods n) c _ List.mem_cons_self hm hs.2 hs.1
theorem specB (w : Int) (n : Nat) (hn : n ≤ 6) (l : List Int) (hl : ∀ p ∈ l, 1 ≤ p ∧ p ≤ 4096) : -1 ≤ l.foldl (pickS w) (-1) ∧ l.foldl (pickS w) (-1) ≤ 4096 := by
  cases l with
  | nil => simp
  | cons c l =>
    rw [List.foldl_cons]
    have : pickS w (-1) c = c := by unfold pickS; rw [if_pos (by omega)]
    rw [this, (pickS_pos w l c (hl c List.mem_cons_self).1 (fun p hq => (hl p (List.mem_cons_of_mem _ hq)).1)).1]
    have := fold_bd w l c (fun p hq => hl p (List.mem_cons_of_mem _ hq)) (hl c List.mem_cons_self)
    omega
theorem closeS_l2 (w : Int) (hw : 1 ≤ w ∧ w ≤ 10000) (n a b : Nat) (hn : n ≤ 6) (hab : a + b ≤ n) (s r : Int) (hs : -1 ≤ s ∧ s ≤ 4096)
    (h : Ev (fun k => spec_ClosestLayers.l1 k w (n : Int) (pickS w s (pw a b n)) (a : Int) ((b + 1 : Nat) : Int)) r) :
    Ev (fun k => spec_ClosestLayers.l2 k w (n : Int) s (a : Int) (b : Int) 1 0) r := by
  have hpn := pow_small n hn
  have h2 := ev_to (fun k x j => spec_ClosestLayers.l2 k w (n : Int) s (a : Int) (b : Int) x j) n (fun j x => x = pw a b j) r (fun j x hj hp => by
      subst hp
      refine .inl ⟨pw a b (j + 1), rfl, fun r hr => ev_next (fun k => ?_) r hr⟩
      have h1 := pw_bd a b j
      have h3 := pow_small j (by omega)
      rw [pw_succ]
      unfold fac
      simp only [spec_ClosestLayers.l2]
      rw [if_pos (by omega), w64 (x := (a : Int) + (b : Int)) (by omega) (by omega), w64 (x := (j : Int) + 1) (by omega) (by omega), w64 (x := pw a b j * 2) (by omega) (by omega), w64 (x := pw a b j * 3) (by omega) (by omega), w64 (x := pw a b j * 4) (by omega) (by omega)]
      by_cases c1 : j < a
      · rw [if_pos (by omega), if_pos c1]
      · rw [if_neg (by omega), if_neg c1]
        by_cases c2 : j < a + b
        · rw [if_pos (by omega), if_pos c2]
        · rw [if_neg (by omega), if_neg c2]) (fun x hp => by
      subst hp
      have h1 := pw_bd a b n
      generalize pw a b n = p at *
      refine ev_next (fun k => ?_) _ h
      simp only [spec_ClosestLayers.l2]
      rw [if_neg (by omega), w64 (x := p - w) (by omega) (by omega), w64 (x := w - p) (by omega) (by omega), w64 (x := s - w) (by omega) (by omega), w64 (x := w - s) (by omega) (by omega), w64 (x := (b : Int) + 1) (by omega) (by omega)]
      simp only [mx_eq]
      unfold pickS
      by_cases c0 : s < 0
      · rw [if_pos c0, if_pos c0]
        rfl
      · rw [if_neg c0, if_neg c0]
        unfold pick
        by_cases c1 : max (p - w) (w - p) < max (s - w) (w - s)
        · rw [if_pos c1, if_pos (.inl c1)]
          rfl
        · rw [if_neg c1]
          by_cases c2 : max (p - w) (w - p) = max (s - w) (w - s)
          · rw [if_pos c2]
            by_cases c3 : p < s
            · rw [if_pos c3, if_pos (.inr ⟨c2, c3⟩)]
              rfl
            · rw [if_neg c3, if_neg (by unfold closer; omega)]
              rfl
          · rw [if_neg c2, if_neg (by unfold closer; omega)]
            rfl) 0 1 (Nat.zero_le _) rfl
  exact h2
theorem closeS_l1 (w : Int) (hw : 1 ≤ w ∧ w ≤ 10000) (n a : Nat) (hn : n ≤ 6) (ha : a ≤ n) (l : List Int) (hl : ∀ p ∈ l, 1 ≤ p ∧ p ≤ 4096) (r : Int)
    (h : Ev (fun k => spec_ClosestLayers.l0 k w (n : Int) ((l ++ (List.range (n + 1 - a)).map fun b => pw a b n).foldl (pickS w) (-1)) ((a + 1 : Nat) : Int)) r) :
    Ev (fun k => spec_ClosestLayers.l1 k w (n : Int) (l.foldl (pickS w) (-1)) (a : Int) 0) r := by
  have hpn := pow_small n hn
  have hbd : ∀ j, ∀ p ∈ l ++ (List.range j).map fun b => pw a b n, 1 ≤ p ∧ p ≤ 4096 := by
    intro j p hp
    rcases List.mem_append.1 hp with hp | hp
    · exact hl p hp
    · obtain ⟨b, _, rfl⟩ := List.mem_map.1 hp
      have := pw_bd a b n
      omega
  have h2 := ev_to (fun k x j => spec_ClosestLayers.l1 k w (n : Int) x (a : Int) j) (n + 1 - a) (fun j x => x = (l ++ (List.range j).map fun b => pw a b n).foldl (pickS w) (-1)) r (fun j x hj hp => by
      subst hp
      refine .inl ⟨_, rfl, fun r hr => ?_⟩
      have e : ((l ++ (List.range (j + 1)).map fun b => pw a b n).foldl (pickS w) (-1)) = pickS w ((l ++ (List.range j).map fun b => pw a b n).foldl (pickS w) (-1)) (pw a j n) := by
        rw [List.range_succ, List.map_append, ← List.append_assoc, List.foldl_append]
        rfl
      rw [e] at hr
      have hr' : Ev (fun k => spec_ClosestLayers.l1 k w (n : Int) (pickS w ((l ++ (List.range j).map fun b => pw a b n).foldl (pickS w) (-1)) (pw a j n)) (a : Int) ((j + 1 : Nat) : Int)) r := hr
      refine ev_next (fun k => ?_) r (closeS_l2 w hw n a j hn (by omega) _ r (specB w n hn _ (hbd j)) hr')
      simp only [spec_ClosestLayers.l1]
      rw [w64 (by omega) (by omega), if_pos (by omega)]) (fun x hp => by
      subst hp
      refine ev_next (fun k => ?_) _ h
      simp only [spec_ClosestLayers.l1]
      rw [w64 (by omega) (by omega), if_neg (by omega), w64 (by omega) (by omega)]
      rfl) 0 (l.foldl (pickS w) (-1)) (Nat.zero_le _) (by simp)
  exact h2
theorem closeS_l0 (w : Int) (hw : 1 ≤ w ∧ w ≤ 10000) (n : Nat) (hn : n ≤ 6) : Ev (fun k => spec_ClosestLayers.l0 k w (n : Int) (-1) 0) ((cands n).foldl (pickS w) (-1)) := by
  have hpn := pow_small n hn
  have h2 := ev_to (fun k x j => spec_ClosestLayers.l0 k w (n : Int) x j) (n + 1) (fun j x => x = ((List.range j).flatMap fun a => (List.range (n + 1 - a)).map fun b => pw a b n).foldl (pickS w) (-1)) ((cands n).foldl (pickS w) (-1)) (fun j x hj hp => by
      subst hp
      refine .inl ⟨_, rfl, fun r hr => ?_⟩
      rw [List.range_succ, List.flatMap_append, List.flatMap_singleton] at hr
      refine ev_next (fun k => ?_) r (closeS_l1 w hw n j hn (by omega) _ (fun p hp => by
        obtain ⟨a, _, hp⟩ := List.mem_flatMap.1 hp
        obtain ⟨b, _, rfl⟩ := List.mem_map.1 hp
        have := pw_bd a b n
        omega) r hr)
      simp only [spec_ClosestLayers.l0]
      rw [if_pos (by omega)]) (fun x hp => by
      subst hp
      refine ev_now fun k => ?_
      simp only [spec_ClosestLayers.l0]
      rw [if_neg (by omega)]
      rfl) 0 (-1) (Nat.zero_le _) rfl
  exact h2
theorem closeS (w n : Int) : Ev (fun k => spec_ClosestLayers.f k w n) (closeV w n) := by
  unfold spec_ClosestLayers.f closeV
  simp only [l01In_f, Option.bind_some, decide_eq_true_eq]
  by_cases c1 : 1 ≤ w ∧ w ≤ 10000
  · simp only [if_pos c1]
    by_cases c2 : 0 ≤ n ∧ n ≤ 6
    · rw [if_pos ⟨c1, c2⟩]
      have h := closeS_l0 w c1 n.toNat (by omega)
      rw [show ((n.toNat : Nat) : Int) = n by omega, spec_best w n.toNat (by omega)] at h
      refine ev_next (fun k => ?_) _ h
      simp only [spec_ClosestLayers.j0]
      rw [if_neg (by simp; omega)]
    · rw [if_neg (fun h => c2 h.2)]
      exact ev_now fun k => by simp only [spec_ClosestLayers.j0]; rw [if_pos (by simp; omega)]
  · simp only [if_neg c1]
    rw [if_neg (fun h => c1 h.1)]
    exact ev_now fun k => rfl
theorem FnExactClosestLayers : laws_FnExactClosestLayers.Pure := by
  intro w n _ _
  refine Ev.rounds ?_
  unfold laws_FnExactClosestLayers.f
  refine Ev.bind (closeS w n) (Ev.bind (closeI w n) ?_)
  simp only [if_true]
  exact Ev.now _
end Go.Proofs.Ytnhkneicepmiiaa.Pure
