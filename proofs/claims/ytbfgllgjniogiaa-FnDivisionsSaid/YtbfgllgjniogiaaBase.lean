/- Plain facts about whole numbers, lists and rounds, used by the pure statements of this seat. No condition. -/
import Derived.Test.YtbfgllgjniogiaaWWords
import Derived.Test.YtbfgllgjniogiaaWLast
import Derived.Test.YtbfgllgjniogiaaWMore
namespace Go.Proofs.Ytbfgllgjniogiaa.Base
open Go.RowKit Go.Proofs.YtbfgllgjniogiaaW.PrintWords Go.Proofs.YtbfgllgjniogiaaW.PrintLast Go.Proofs.YtbfgllgjniogiaaW.PrintMore
set_option linter.unusedVariables false
set_option linter.unusedSimpArgs false

theorem w64 {x : Int} (h1 : -9223372036854775808 ≤ x) (h2 : x ≤ 9223372036854775807) : wrap64 x = x := by
  unfold wrap64
  omega
theorem wf_iff (x : Int) : (Lit.int .i64 x).wf = true ↔ (-9223372036854775808 ≤ x ∧ x ≤ 9223372036854775807) := by
  simp only [Lit.wf, IntKind.min, IntKind.max, IntKind.signed, IntKind.bits, Bool.and_eq_true, decide_eq_true_eq, if_true]
  omega
theorem u8_iff (x : Int) : (Lit.int .u8 x).wf = true ↔ (0 ≤ x ∧ x ≤ 255) := by
  simp [Lit.wf, IntKind.min, IntKind.max, IntKind.signed, IntKind.bits]
theorem tdiv_pos {a b : Int} (h : 0 ≤ a) : Int.tdiv a b = a / b := Int.tdiv_eq_ediv_of_nonneg h
theorem tmod_pos {a b : Int} (h : 0 ≤ a) : Int.tmod a b = a % b := Int.tmod_eq_emod_of_nonneg h

/-- A loop that counts up to n, with a relation P between the count and the state, and Q of what it answers. -/
theorem ev_up {S R : Type} (F : Nat → S → Int → Option R) (n : Nat) (P : Nat → S → Prop) (Q : R → Prop)
    (hstep : ∀ (i : Nat) (s : S), i < n → P i s → (∃ s', P (i + 1) s' ∧ ∀ r, Ev (fun k => F k s' ((i : Int) + 1)) r → Ev (fun k => F k s (i : Int)) r) ∨ ∃ r, Q r ∧ Ev (fun k => F k s (i : Int)) r)
    (hend : ∀ s, P n s → ∃ r, Q r ∧ Ev (fun k => F k s (n : Int)) r) :
    ∀ (i : Nat) (s : S), i ≤ n → P i s → ∃ r, Q r ∧ Ev (fun k => F k s (i : Int)) r := by
  intro i s hi hp
  obtain ⟨d, hd⟩ : ∃ d, n - i = d := ⟨_, rfl⟩
  induction d generalizing i s with
  | zero =>
    obtain rfl : i = n := by omega
    exact hend s hp
  | succ d ih =>
    rcases hstep i s (by omega) hp with ⟨s', hp', hr⟩ | h
    · obtain ⟨r, hq, he⟩ := ih (i + 1) s' (by omega) hp' (by omega)
      refine ⟨r, hq, hr r ?_⟩
      have e : ((i + 1 : Nat) : Int) = (i : Int) + 1 := by omega
      rw [e] at he
      exact he
    · exact h

/-- The same, one fixed answer. -/
theorem ev_to {S R : Type} (F : Nat → S → Int → Option R) (n : Nat) (P : Nat → S → Prop) (r : R)
    (hstep : ∀ (i : Nat) (s : S), i < n → P i s → (∃ s', P (i + 1) s' ∧ ∀ r, Ev (fun k => F k s' ((i : Int) + 1)) r → Ev (fun k => F k s (i : Int)) r) ∨ Ev (fun k => F k s (i : Int)) r)
    (hend : ∀ s, P n s → Ev (fun k => F k s (n : Int)) r) (i : Nat) (s : S) (hi : i ≤ n) (hp : P i s) : Ev (fun k => F k s (i : Int)) r := by
  obtain ⟨r', rfl, h⟩ := ev_up F n P (· = r) (fun i s hi hp => (hstep i s hi hp).imp id (fun h => ⟨r, rfl, h⟩)) (fun s hp => ⟨r, rfl, hend s hp⟩) i s hi hp
  exact h

theorem ev_now {R : Type} {g : Nat → Option R} {r : R} (h : ∀ k, g (k + 1) = some r) : Ev g r :=
  ⟨1, fun n hn => by
    obtain ⟨m, rfl⟩ : ∃ m, n = m + 1 := ⟨n - 1, by omega⟩
    exact h m⟩
theorem ev_next {R : Type} {g f : Nat → Option R} (h : ∀ k, g (k + 1) = f k) (r : R) (k : Ev f r) : Ev g r := Ev.step h k
theorem ev_const {R : Type} {g : Option R} {r : R} (h : g = some r) : Ev (fun _ => g) r := ⟨0, fun _ _ => h⟩

theorem rd_eq (xs : List Int) (i : Nat) : rd xs (i : Int) = xs.getD i 0 := by
  unfold rd
  rw [Int.toNat_natCast]
theorem rd_get (xs : List Int) (i : Nat) (h : i < xs.length) : rd xs (i : Int) = xs[i] := by
  rw [rd_eq, List.getD_eq_getElem?_getD, List.getElem?_eq_getElem h]
  rfl
theorem mx_eq (a b : Int) : mx a b = max a b := by
  unfold mx
  omega
theorem mn_eq (a b : Int) : mn a b = min a b := by
  unfold mn
  omega
theorem set_snoc {α : Type} (a b : List α) (x y : α) : (a ++ x :: b).set a.length y = a ++ y :: b := by
  rw [List.set_append_right _ _ (Nat.le_refl _)]
  simp
/-- A loop that builds a list, one element a round. -/
theorem ev_build {α : Type} (F : Nat → List α → Int → Option (List α)) (n : Nat) (f : Nat → α)
    (hstep : ∀ (k : Nat) (s : List α) (i : Nat), i < n → s.length = i → F (k + 1) s (i : Int) = F k (s ++ [f i]) ((i : Int) + 1))
    (hend : ∀ (k : Nat) (s : List α), F (k + 1) s (n : Int) = some s) : Ev (fun k => F k [] 0) ((List.range n).map f) := by
  have h := ev_to F n (fun i s => s = (List.range i).map f) ((List.range n).map f) (fun i s hi hp => by
      subst hp
      refine .inl ⟨(List.range (i + 1)).map f, rfl, fun r hr => ev_next (fun k => ?_) r hr⟩
      rw [hstep k _ i hi (by simp), List.range_succ, List.map_append]
      rfl) (fun s hp => by
      subst hp
      exact ev_now (fun k => hend k _)) 0 [] (Nat.zero_le _) rfl
  exact h

/-- A loop that folds the numbers below n into its state. -/
theorem ev_fold {S R : Type} (F : Nat → S → Int → Option R) (n : Nat) (step : S → Nat → S) (fin : S → R)
    (hstep : ∀ (k : Nat) (s : S) (i : Nat), i < n → F (k + 1) s (i : Int) = F k (step s i) ((i : Int) + 1))
    (hend : ∀ (k : Nat) (s : S), F (k + 1) s (n : Int) = some (fin s)) (s0 : S) : Ev (fun k => F k s0 0) (fin ((List.range n).foldl step s0)) := by
  have h := ev_to F n (fun i s => s = (List.range i).foldl step s0) (fin ((List.range n).foldl step s0)) (fun i s hi hp => by
      subst hp
      refine .inl ⟨(List.range (i + 1)).foldl step s0, rfl, fun r hr => ev_next (fun k => ?_) r hr⟩
      rw [hstep k _ i hi, List.range_succ, List.foldl_append]
      rfl) (fun s hp => by
      subst hp
      exact ev_now (fun k => hend k _)) 0 s0 (Nat.zero_le _) rfl
  exact h

/-- A loop that asks the same of each number below n and stops at the first 'no'. -/
theorem ev_all {R : Type} (F : Nat → Int → Option R) (n : Nat) (p : Nat → Bool) (r0 r1 : R)
    (hstep : ∀ (k : Nat) (i : Nat), i < n → F (k + 1) (i : Int) = if p i = true then F k ((i : Int) + 1) else some r0)
    (hend : ∀ (k : Nat), F (k + 1) (n : Int) = some r1) : Ev (fun k => F k 0) (if (List.range n).all p = true then r1 else r0) := by
  have h := ev_to (fun k (_ : Unit) i => F k i) n (fun i _ => (List.range i).all p = true) (if (List.range n).all p = true then r1 else r0) (fun i s hi hp => by
      by_cases hpi : p i = true
      · refine .inl ⟨(), ?_, fun r hr => ev_next (fun k => ?_) r hr⟩
        · rw [List.range_succ, List.all_append, hp]
          simp [hpi]
        · rw [hstep k i hi, if_pos hpi]
      · refine .inr (ev_now (fun k => ?_))
        rw [hstep k i hi, if_neg hpi, if_neg]
        intro ha
        rw [List.all_eq_true] at ha
        exact hpi (ha i (List.mem_range.2 hi))) (fun s hp => ev_now (fun k => by rw [if_pos hp]; exact hend k)) 0 () (Nat.zero_le _) rfl
  exact h
theorem all_range {α : Type} (l : List α) (d : α) (p : α → Bool) : (List.range l.length).all (fun i => p (l.getD i d)) = l.all p := by
  rw [Bool.eq_iff_iff, List.all_eq_true, List.all_eq_true]
  constructor
  · intro h x hx
    obtain ⟨i, hi, rfl⟩ := List.mem_iff_getElem.1 hx
    have := h i (List.mem_range.2 hi)
    rwa [List.getD_eq_getElem?_getD, List.getElem?_eq_getElem hi] at this
  · intro h i hi
    rw [List.mem_range] at hi
    rw [List.getD_eq_getElem?_getD, List.getElem?_eq_getElem hi]
    exact h _ (List.getElem_mem hi)
theorem map_range {α β : Type} (l : List α) (d : α) (f : α → β) : (List.range l.length).map (fun i => f (l.getD i d)) = l.map f := by
  apply List.ext_getElem
  · simp
  · intro i h1 h2
    simp only [List.length_map, List.length_range] at h1
    simp [List.getElem?_eq_getElem h1]
theorem fold_range {α S : Type} (l : List α) (d : α) (f : S → α → S) (s : S) : (List.range l.length).foldl (fun s i => f s (l.getD i d)) s = l.foldl f s := by
  have h := map_range l d id
  rw [List.map_id] at h
  conv => rhs; rw [← h]
  rw [List.foldl_map]
  rfl

/-- A copy: zeros, then each set. -/
theorem ev_copy {α β : Type} (F : Nat → List β → Int → Option (List β)) (l : List α) (z : β) (f : α → β) (d : α)
    (hstep : ∀ (k : Nat) (s : List β) (i : Nat), i < l.length → s.length = l.length → F (k + 1) s (i : Int) = F k (s.set i (f (l.getD i d))) ((i : Int) + 1))
    (hend : ∀ (k : Nat) (s : List β), F (k + 1) s (l.length : Int) = some s) : Ev (fun k => F k (List.replicate l.length z) 0) (l.map f) := by
  have h := ev_to F l.length (fun i s => s.length = l.length ∧ ∀ j, j < i → s[j]? = some (f (l.getD j d))) (l.map f) (fun i s hi hp => by
      refine .inl ⟨s.set i (f (l.getD i d)), ⟨by rw [List.length_set]; exact hp.1, fun j hj => ?_⟩, fun r hr => ev_next (fun k => hstep k _ i hi hp.1) r hr⟩
      by_cases hji : j = i
      · subst hji
        rw [List.getElem?_set_self (by omega)]
      · rw [List.getElem?_set_ne (Ne.symm hji)]
        exact hp.2 j (by omega)) (fun s hp => ev_now (fun k => by
      rw [hend]
      refine congrArg some (List.ext_getElem? fun j => ?_)
      by_cases hj : j < l.length
      · rw [hp.2 j hj, List.getElem?_map, List.getElem?_eq_getElem hj, List.getD_eq_getElem?_getD, List.getElem?_eq_getElem hj]
        rfl
      · rw [List.getElem?_eq_none (by omega), List.getElem?_eq_none (by simp; omega)])) 0 (List.replicate l.length z) (Nat.zero_le _) ⟨by simp, fun j hj => by omega⟩
  exact h
/-- The sum of a function over a list. -/
def sumBy {α : Type} (f : α → Int) (l : List α) : Int := (l.map f).sum
theorem sumBy_nil {α : Type} (f : α → Int) : sumBy f [] = 0 := rfl
theorem sumBy_cons {α : Type} (f : α → Int) (x : α) (l : List α) : sumBy f (x :: l) = f x + sumBy f l := by
  unfold sumBy
  rw [List.map_cons, List.sum_cons]
theorem sumBy_append {α : Type} (f : α → Int) (l m : List α) : sumBy f (l ++ m) = sumBy f l + sumBy f m := by
  induction l with
  | nil => rw [List.nil_append, sumBy_nil]; omega
  | cons x l ih => rw [List.cons_append, sumBy_cons, sumBy_cons, ih]; omega
theorem sumBy_take {α : Type} (f : α → Int) (l : List α) (i : Nat) (h : i < l.length) : sumBy f (l.take (i + 1)) = sumBy f (l.take i) + f l[i] := by
  rw [List.take_succ_eq_append_getElem h, sumBy_append, sumBy_cons, sumBy_nil]
  omega
theorem sumBy_bd {α : Type} (f : α → Int) (l : List α) (a b : Int) (h : ∀ x ∈ l, a ≤ f x ∧ f x ≤ b) : a * (l.length : Int) ≤ sumBy f l ∧ sumBy f l ≤ b * (l.length : Int) := by
  induction l with
  | nil => simp [sumBy_nil]
  | cons x l ih =>
    have h1 := h x List.mem_cons_self
    have h2 := ih (fun y hy => h y (List.mem_cons_of_mem _ hy))
    rw [sumBy_cons, List.length_cons]
    have e1 : a * ((l.length + 1 : Nat) : Int) = a * (l.length : Int) + a := by rw [Int.natCast_add, Int.mul_add]; simp
    have e2 : b * ((l.length + 1 : Nat) : Int) = b * (l.length : Int) + b := by rw [Int.natCast_add, Int.mul_add]; simp
    omega
/-- A loop that adds up. -/
theorem ev_sum {α : Type} (F : Nat → Int → Int → Option Int) (l : List α) (d : α) (f : α → Int) (B : Int) (hB : 0 ≤ B ∧ B ≤ 1000000000) (hl : l.length ≤ 1048576) (hf : ∀ x ∈ l, -B ≤ f x ∧ f x ≤ B)
    (hstep : ∀ (k : Nat) (s : Int) (i : Nat) (hi : i < l.length), -1048576000000000 ≤ s ∧ s ≤ 1048576000000000 → F (k + 1) s (i : Int) = F k (s + f l[i]) ((i : Int) + 1))
    (hend : ∀ (k : Nat) (s : Int), F (k + 1) s (l.length : Int) = some s) : Ev (fun k => F k 0 0) (sumBy f l) := by
  have h := ev_to F l.length (fun i s => s = sumBy f (l.take i)) (sumBy f l) (fun i s hi hs => by
      subst hs
      refine .inl ⟨_, rfl, fun r hr => ev_next (fun k => ?_) r hr⟩
      have hb := sumBy_bd f (l.take i) (-B) B (fun x hx => hf x (List.mem_of_mem_take hx))
      have h1 : ((l.take i).length : Int) ≤ 1048576 := by rw [List.length_take]; omega
      have h2 : B * ((l.take i).length : Int) ≤ 1000000000 * 1048576 := Int.mul_le_mul hB.2 h1 (by omega) (by omega)
      have h3 : -B * ((l.take i).length : Int) = -(B * ((l.take i).length : Int)) := Int.neg_mul _ _
      rw [hstep k _ i hi (by omega), sumBy_take f l i hi]) (fun s hs => by
      subst hs
      rw [List.take_length]
      exact ev_now fun k => hend k _) 0 0 (Nat.zero_le _) rfl
  exact h
/-- A loop that collects the numbers of which p holds. -/
theorem ev_filter (F : Nat → List Int → Int → Option (List Int)) (n : Nat) (p : Nat → Bool)
    (hstep : ∀ (k : Nat) (s : List Int) (i : Nat), i < n → s.length ≤ i → F (k + 1) s (i : Int) = if p i = true then F k (s ++ [(i : Int)]) ((i : Int) + 1) else F k s ((i : Int) + 1))
    (hend : ∀ (k : Nat) (s : List Int), F (k + 1) s (n : Int) = some s) : Ev (fun k => F k [] 0) (((List.range n).filter p).map fun (i : Nat) => (i : Int)) := by
  have h := ev_to F n (fun i s => s = ((List.range i).filter p).map fun (i : Nat) => (i : Int)) (((List.range n).filter p).map fun (i : Nat) => (i : Int)) (fun i s hi hs => by
      subst hs
      refine .inl ⟨_, rfl, fun r hr => ev_next (fun k => ?_) r hr⟩
      rw [hstep k _ i hi (by rw [List.length_map]; exact Nat.le_trans (List.length_filter_le _ _) (by simp)), List.range_succ, List.filter_append, List.map_append]
      by_cases c : p i = true
      · rw [if_pos c]
        simp [c]
      · rw [if_neg c]
        simp [c]) (fun s hs => by
      subst hs
      exact ev_now fun k => hend k _) 0 [] (Nat.zero_le _) rfl
  exact h
/-- q has a less value than p, or the same and is less itself. -/
def before (G : Int → Int) (q p : Int) : Prop := G q < G p ∨ (G q = G p ∧ q < p)
theorem before_total (G : Int → Int) (q p : Int) (h1 : ¬ before G q p) (h2 : ¬ before G p q) : q = p := by
  unfold before at h1 h2
  omega
end Go.Proofs.Ytbfgllgjniogiaa.Base
