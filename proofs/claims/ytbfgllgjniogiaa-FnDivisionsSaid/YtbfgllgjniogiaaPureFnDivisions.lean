/- Equal pieces have the whole dough, and pieces that are far from a weight are bad: the law FnDivisions answers true for every input. No condition. -/
import Derived.Test.YtbfgllgjniogiaaPFnDivisionsx5
import Derived.Test.YtbfgllgjniogiaaBase
namespace Go.Proofs.Ytbfgllgjniogiaa.Pure
open Go.RowKit Go.Proofs.Ytbfgllgjniogiaa.PFnDivisions Go.Proofs.YtbfgllgjniogiaaW.PrintWords Go.Proofs.YtbfgllgjniogiaaW.PrintLast Go.Proofs.YtbfgllgjniogiaaW.PrintMore Go.Proofs.Ytbfgllgjniogiaa.Base
set_option linter.unusedVariables false
set_option linter.unusedSimpArgs false
theorem in_f (a b c : Int) : impl_in.f a b c = some (decide (b ≤ a ∧ a ≤ c)) := by
  unfold impl_in.f
  by_cases h : b ≤ a <;> simp [h]
/-- All numbers of a list are in a range. -/
def allOk (l : List Int) (a b : Int) : Bool := l.all fun x => decide (a ≤ x ∧ x ≤ b)
theorem allOk_mem {l : List Int} {a b : Int} (h : allOk l a b = true) : ∀ x ∈ l, a ≤ x ∧ x ≤ b := by
  intro x hx
  simpa using (List.all_eq_true.1 h) x hx
theorem allIn_f (l : List Int) (a b : Int) : impl_allIn.f l a b = some (allOk l a b) := rfl
/-- The reference's loop that asks the same. -/
theorem all_loop {R : Type} (F : Nat → Int → Option R) (l : List Int) (a b : Int) (r0 r1 : R)
    (hstep : ∀ (k : Nat) (i : Nat), i < l.length → F (k + 1) (i : Int) = if (decide (a ≤ rd l (i : Int) ∧ rd l (i : Int) ≤ b)) = true then F k ((i : Int) + 1) else some r0)
    (hend : ∀ (k : Nat), F (k + 1) (l.length : Int) = some r1) : Ev (fun k => F k 0) (if allOk l a b = true then r1 else r0) := by
  have h := ev_all F l.length (fun i => decide (a ≤ l.getD i 0 ∧ l.getD i 0 ≤ b)) r0 r1 (fun k i hi => by rw [hstep k i hi, rd_eq]) hend
  have e := all_range l 0 (fun x => decide (a ≤ x ∧ x ≤ b))
  rw [e] at h
  exact h
def piecesOk (l : List Int) : Bool := decide (l.length ≤ 40) && allOk l 1 5000
theorem piecesOkI (l : List Int) : impl_PiecesOk.f l = some (piecesOk l) := by
  unfold impl_PiecesOk.f piecesOk
  rw [allIn_f]
  by_cases c : l.length ≤ 40
  · rw [if_pos (by omega)]
    simp [c]
  · rw [if_neg (by omega)]
    simp [c]
def pieceV (d n : Int) (i : Nat) : Int := if (i : Int) < d % n then d / n + 1 else d / n
def piecesV (d n : Int) : List Int := if (1 ≤ n ∧ n ≤ 40) ∧ (n ≤ d ∧ d ≤ 200000) then (List.range n.toNat).map (pieceV d n) else []
theorem piecesV_len (d n : Int) : (piecesV d n).length ≤ 40 := by
  unfold piecesV
  split
  · simp
    omega
  · simp
theorem piece_bd (d n : Int) (h1 : 1 ≤ n) (h0 : 0 ≤ d) (hd : d ≤ 200000) : 0 ≤ d / n ∧ d / n ≤ 200000 :=
  ⟨Int.ediv_nonneg h0 (by omega), by have := Int.ediv_le_self n h0; omega⟩
theorem piecesI (d n : Int) : Ev (fun k => impl_EqualPieces.f k d n) (piecesV d n) := by
  unfold impl_EqualPieces.f piecesV
  simp only [in_f, Option.bind_some, decide_eq_true_eq]
  by_cases c1 : 1 ≤ n ∧ n ≤ 40
  · simp only [if_pos c1]
    by_cases c2 : n ≤ d ∧ d ≤ 200000
    · rw [if_pos ⟨c1, c2⟩]
      refine ev_next (f := fun k => impl_EqualPieces.l0 k d n [] n 0) (fun k => ?_) _ ?_
      · simp only [impl_EqualPieces.j0]
        rw [if_neg (by simp; omega)]
      · refine ev_build (fun k s i => impl_EqualPieces.l0 k d n s n i) n.toNat (pieceV d n) (fun k s i hi hs => ?_) (fun k s => ?_)
        · have hq := piece_bd d n c1.1 (by omega) c2.2
          simp (disch := omega) only [impl_EqualPieces.l0, tmod_pos, tdiv_pos, w64, if_pos, if_neg]
          unfold pieceV
          by_cases c : (i : Int) < d % n
          · rw [if_pos c, if_pos c]
          · rw [if_neg c, if_neg c]
        · simp only [impl_EqualPieces.l0]
          rw [if_neg (by omega)]
    · rw [if_neg (fun h => c2 h.2)]
      exact ev_now fun k => by simp only [impl_EqualPieces.j0]; rw [if_pos (by simp; omega)]
  · simp only [if_neg c1]
    rw [if_neg (fun h => c1 h.1)]
    exact ev_now fun k => rfl
theorem piecesOk_mem {l : List Int} (h : piecesOk l = true) : l.length ≤ 40 ∧ ∀ x ∈ l, 1 ≤ x ∧ x ≤ 5000 := by
  unfold piecesOk at h
  simp only [Bool.and_eq_true, decide_eq_true_eq] at h
  exact ⟨h.1, allOk_mem h.2⟩
/-- Farther from w than t. -/
def isBad (w t n : Int) : Bool := decide (n < w - t ∨ w + t < n)
def badL (l : List Int) (w t : Int) : List Int := ((List.range l.length).filter fun i => isBad w t (l.getD i 0)).map fun (i : Nat) => (i : Int)
def badOk (l : List Int) (w t : Int) : Bool := piecesOk l && decide (1 ≤ w ∧ w ≤ 5000) && decide (0 ≤ t ∧ t ≤ 1000)
def badV (l : List Int) (w t : Int) : List Int := if badOk l w t = true then badL l w t else []
theorem badL_len (l : List Int) (w t : Int) : (badL l w t).length ≤ l.length := by
  unfold badL
  rw [List.length_map]
  exact Nat.le_trans (List.length_filter_le _ _) (by simp)
theorem badOk_iff (l : List Int) (w t : Int) : badOk l w t = true ↔ piecesOk l = true ∧ (1 ≤ w ∧ w ≤ 5000) ∧ (0 ≤ t ∧ t ≤ 1000) := by
  unfold badOk
  simp only [Bool.and_eq_true, decide_eq_true_eq, and_assoc]
theorem badV_len (l : List Int) (w t : Int) : (badV l w t).length ≤ 40 := by
  unfold badV
  split
  · rename_i h
    have := badL_len l w t
    have := (piecesOk_mem ((badOk_iff l w t).1 h).1).1
    omega
  · simp
theorem badI (l : List Int) (w t : Int) (hb : l.length ≤ 1048576) : Ev (fun k => impl_BadPieces.f k l w t) (badV l w t) := by
  unfold impl_BadPieces.f badV
  simp only [piecesOkI, in_f, Option.bind_some, decide_eq_true_eq]
  by_cases c1 : piecesOk l = true
  · simp only [if_pos c1]
    obtain ⟨hl, hm⟩ := piecesOk_mem c1
    by_cases c2 : 1 ≤ w ∧ w ≤ 5000
    · simp only [if_pos c2]
      by_cases c3 : 0 ≤ t ∧ t ≤ 1000
      · rw [if_pos ((badOk_iff l w t).2 ⟨c1, c2, c3⟩)]
        refine ev_next (f := fun k => impl_BadPieces.l0 k w t [] l (l.length : Int) 0) (fun k => ?_) _ (ev_filter (fun k s i => impl_BadPieces.l0 k w t s l (l.length : Int) i) l.length (fun i => isBad w t (l.getD i 0)) (fun k s i hi hs => ?_) (fun k s => ?_))
        · simp only [impl_BadPieces.j0]
          rw [if_neg (by simp; omega)]
        · have hx := hm _ (List.getElem_mem hi)
          have e : l.getD i 0 = l[i] := by rw [List.getD_eq_getElem?_getD, List.getElem?_eq_getElem hi]; rfl
          rw [e]
          simp only [impl_BadPieces.l0, mx_eq]
          unfold isBad
          rw [if_pos (by omega), if_pos (by omega), if_pos (by omega), rd_get _ _ hi, w64 (x := l[i] - w) (by omega) (by omega), w64 (x := w - l[i]) (by omega) (by omega), w64 (x := (i : Int) + 1) (by omega) (by omega)]
          by_cases c4 : l[i] < w - t ∨ w + t < l[i]
          · rw [if_pos (by omega), if_pos (by omega), if_pos (by simpa using c4)]
          · rw [if_neg (by omega), if_neg (by simpa using c4)]
        · simp only [impl_BadPieces.l0]
          rw [if_neg (by omega)]
      · rw [if_neg (fun h => c3 ((badOk_iff l w t).1 h).2.2)]
        exact ev_now fun k => by simp only [impl_BadPieces.j0]; rw [if_pos (by simp; omega)]
    · simp only [if_neg c2]
      rw [if_neg (fun h => c2 ((badOk_iff l w t).1 h).2.1)]
      exact ev_now fun k => rfl
  · simp only [if_neg c1]
    rw [if_neg (fun h => c1 ((badOk_iff l w t).1 h).1)]
    exact ev_now fun k => rfl
/-- How many pieces are bad. -/
def cnt (l : List Int) (t w : Int) : Int := ((badL l w t).length : Int)
theorem badV_cnt (l : List Int) (w t : Int) (h : badOk l w t = true) : ((badV l w t).length : Int) = cnt l t w := by
  unfold badV cnt
  rw [if_pos h]
theorem cnt_le (l : List Int) (t w : Int) : 0 ≤ cnt l t w ∧ cnt l t w ≤ (l.length : Int) := by
  have := badL_len l w t
  unfold cnt
  omega
theorem filter_len_le {α : Type} (l : List α) (p q : α → Bool) (h : ∀ x ∈ l, p x = true → q x = true) : (l.filter p).length ≤ (l.filter q).length := by
  induction l with
  | nil => simp
  | cons x l ih =>
    have ih := ih (fun y hy => h y (List.mem_cons_of_mem _ hy))
    rw [List.filter_cons, List.filter_cons]
    by_cases c : p x = true
    · rw [if_pos c, if_pos (h x List.mem_cons_self c)]
      simpa using ih
    · rw [if_neg c]
      split
      · simp
        omega
      · exact ih
/-- One step down loses no good piece, but where a piece lies just t above. -/
theorem cnt_down (l : List Int) (t w : Int) (h : ∀ x ∈ l, x - t ≠ w) : cnt l t (w - 1) ≤ cnt l t w := by
  unfold cnt badL
  rw [List.length_map, List.length_map]
  have := filter_len_le (List.range l.length) (fun i => isBad (w - 1) t (l.getD i 0)) (fun i => isBad w t (l.getD i 0)) (fun i hi hb => by
    rw [List.mem_range] at hi
    have hx := h _ (List.getElem_mem hi)
    have e : l.getD i 0 = l[i] := by rw [List.getD_eq_getElem?_getD, List.getElem?_eq_getElem hi]; rfl
    rw [e] at hb ⊢
    unfold isBad at hb ⊢
    simp only [decide_eq_true_eq] at hb ⊢
    omega)
  omega
/-- The best want of those up to n: fewest bad pieces, then the least. -/
structure IsBest (G : Int → Int) (n b : Int) : Prop where
  lo : 1 ≤ b
  hi : b ≤ n
  best : ∀ m, 1 ≤ m → m ≤ n → ¬ before G m b
theorem isBest_uniq {G : Int → Int} {n a b : Int} (ha : IsBest G n a) (hb : IsBest G n b) : a = b := before_total G a b (hb.best a ha.lo ha.hi) (ha.best b hb.lo hb.hi)
theorem best_exists (G : Int → Int) (n : Nat) (h : 1 ≤ n) : ∃ b, IsBest G (n : Int) b := by
  induction n with
  | zero => omega
  | succ n ih =>
    by_cases c : n = 0
    · subst c
      exact ⟨1, by omega, by omega, fun m h1 h2 => by have : m = 1 := by omega
                                                      subst this; unfold before; omega⟩
    · obtain ⟨b, hb⟩ := ih (by omega)
      have h1 := hb.lo
      have h2 := hb.hi
      by_cases c2 : G ((n : Int) + 1) < G b
      · refine ⟨(n : Int) + 1, by omega, by omega, fun m m1 m2 => ?_⟩
        by_cases e : m = (n : Int) + 1
        · subst e
          unfold before
          omega
        · have := hb.best m m1 (by omega)
          unfold before at this ⊢
          omega
      · refine ⟨b, by omega, by omega, fun m m1 m2 => ?_⟩
        by_cases e : m = (n : Int) + 1
        · subst e
          unfold before
          omega
        · exact hb.best m m1 (by omega)
theorem best_cand (l : List Int) (t b : Int) (ht : 0 ≤ t ∧ t ≤ 1000) (hl : l ≠ []) (hm : ∀ x ∈ l, 1 ≤ x ∧ x ≤ 5000) (hb : IsBest (cnt l t) 5000 b) : ∃ x ∈ l, b = max 1 (x - t) := by
  by_cases c : ∃ x ∈ l, x - t = b
  · obtain ⟨x, hx, e⟩ := c
    have := hb.lo
    exact ⟨x, hx, by omega⟩
  · by_cases c1 : b = 1
    · -- the least want: some piece's own bound is no more, or a step up would be as good
      by_cases c2 : ∃ x ∈ l, x - t ≤ 1
      · obtain ⟨x, hx, e⟩ := c2
        exact ⟨x, hx, by omega⟩
      · -- every piece is too far above 1: each piece is bad there, and a piece's own bound has fewer
        exfalso
        obtain ⟨x, hx⟩ := List.exists_mem_of_ne_nil l hl
        have hall : ∀ y ∈ l, 1 < y - t := fun y hy => by
          have : ¬ (y - t ≤ 1) := fun h => c2 ⟨y, hy, h⟩
          omega
        have e1 : cnt l t 1 = (l.length : Int) := by
          unfold cnt badL
          rw [List.length_map, List.filter_eq_self.2]
          · simp
          · intro i hi
            rw [List.mem_range] at hi
            have := hall _ (List.getElem_mem hi)
            have e : l.getD i 0 = l[i] := by rw [List.getD_eq_getElem?_getD, List.getElem?_eq_getElem hi]; rfl
            rw [e]
            unfold isBad
            simp only [decide_eq_true_eq]
            omega
        have e2 : cnt l t (x - t) < (l.length : Int) := by
          unfold cnt badL
          rw [List.length_map]
          obtain ⟨j, hj, e⟩ := List.mem_iff_getElem.1 hx
          have hlt : ((List.range l.length).filter fun i => isBad (x - t) t (l.getD i 0)).length < (List.range l.length).length := by
            rcases Nat.lt_or_ge ((List.range l.length).filter fun i => isBad (x - t) t (l.getD i 0)).length (List.range l.length).length with h | h
            · exact h
            · have := List.length_filter_eq_length_iff.1 (Nat.le_antisymm (List.length_filter_le _ _) h) j (List.mem_range.2 hj)
              have e3 : l.getD j 0 = l[j] := by rw [List.getD_eq_getElem?_getD, List.getElem?_eq_getElem hj]; rfl
              rw [e3, e] at this
              unfold isBad at this
              simp only [decide_eq_true_eq] at this
              omega
          rw [List.length_range] at hlt
          omega
        have h3 := hall x hx
        have h4 := hm x hx
        have := hb.best (x - t) (by omega) (by omega)
        rw [c1] at this
        unfold before at this
        omega
    · exfalso
      have h1 := hb.lo
      have := hb.best (b - 1) (by omega) (by have := hb.hi; omega)
      have h2 := cnt_down l t b (fun x hx e => c ⟨x, hx, e⟩)
      unfold before at this
      omega
def wantOk (l : List Int) (t : Int) : Bool := piecesOk l && decide (l.length ≠ 0) && decide (0 ≤ t ∧ t ≤ 1000)
theorem wantOk_iff (l : List Int) (t : Int) : wantOk l t = true ↔ piecesOk l = true ∧ l.length ≠ 0 ∧ (0 ≤ t ∧ t ≤ 1000) := by
  unfold wantOk
  simp only [Bool.and_eq_true, decide_eq_true_eq, and_assoc]
theorem wantI (l : List Int) (t b : Int) (hb : l.length ≤ 1048576) (h : wantOk l t = true → IsBest (cnt l t) 5000 b) : Ev (fun k => impl_BestWant.f k l t) (if wantOk l t = true then b else -1) := by
  unfold impl_BestWant.f
  simp only [piecesOkI, in_f, Option.bind_some, decide_eq_true_eq]
  by_cases c1 : piecesOk l = true
  · simp only [if_pos c1]
    obtain ⟨hl, hm⟩ := piecesOk_mem c1
    by_cases c2 : l.length = 0
    · simp only [if_pos (show (l.length : Int) = 0 by omega)]
      rw [if_neg (fun h => ((wantOk_iff l t).1 h).2.1 c2)]
      exact ev_now fun k => rfl
    · simp only [if_neg (show ¬ (l.length : Int) = 0 by omega)]
      by_cases c3 : 0 ≤ t ∧ t ≤ 1000
      · have hw := (wantOk_iff l t).2 ⟨c1, c2, c3⟩
        rw [if_pos hw]
        have hB := h hw
        refine ev_next (f := fun k => impl_BestWant.l0 k l t 0 ((l.length : Int) + 1) 1) (fun k => ?_) _ ?_
        · simp only [impl_BestWant.j0]
          rw [if_neg (by simp; omega), w64 (by omega) (by omega)]
        · have hh := ev_to (fun k (s : Int × Int) i => impl_BestWant.l0 k l t s.1 s.2 (i + 1)) 5000 (fun i s => (i = 0 ∧ s = (0, (l.length : Int) + 1)) ∨ (1 ≤ i ∧ IsBest (cnt l t) (i : Int) s.1 ∧ s.2 = cnt l t s.1)) b (fun i s hi hs => by
            have hok : badOk l ((i : Int) + 1) t = true := (badOk_iff _ _ _).2 ⟨c1, by omega, c3⟩
            have hc := badV_cnt l ((i : Int) + 1) t hok
            have hcl := cnt_le l t ((i : Int) + 1)
            have hstep : ∀ r, Ev (fun k => if ((badV l ((i : Int) + 1) t).length : Int) < s.2 then impl_BestWant.l0 k l t ((i : Int) + 1) ((badV l ((i : Int) + 1) t).length : Int) ((i : Int) + 1 + 1) else impl_BestWant.l0 k l t s.1 s.2 ((i : Int) + 1 + 1)) r → Ev (fun k => impl_BestWant.l0 k l t s.1 s.2 ((i : Int) + 1)) r := by
              intro r hr
              refine ev_next (f := fun k => (impl_BadPieces.f k l ((i : Int) + 1) t).bind fun t140 => (if (t140.length : Int) < s.2 then (impl_BestWant.l0 k l t ((i : Int) + 1) (t140.length : Int) ((i : Int) + 1 + 1)) else (impl_BestWant.l0 k l t s.1 s.2 ((i : Int) + 1 + 1)))) (fun k => ?_) r (Ev.bind (badI l ((i : Int) + 1) t hb) hr)
              simp only [impl_BestWant.l0]
              rw [if_pos (by omega), w64 (by omega) (by omega)]
            rw [hc] at hstep
            rcases hs with ⟨h0, rfl⟩ | ⟨h1, hbest, h2⟩
            · refine .inl ⟨((i : Int) + 1, cnt l t ((i : Int) + 1)), .inr ⟨by omega, ⟨by omega, by omega, fun m m1 m2 => ?_⟩, rfl⟩, fun r hr => hstep r ?_⟩
              · have : m = (i : Int) + 1 := by omega
                subst this
                unfold before
                simp only
                omega
              · simp only [if_pos (show cnt l t ((i : Int) + 1) < (l.length : Int) + 1 by omega)]
                exact hr
            · obtain ⟨b1, f1⟩ := s
              simp only at h2 hbest hstep
              subst h2
              have g1 := hbest.lo
              have g2 := hbest.hi
              by_cases c4 : cnt l t ((i : Int) + 1) < cnt l t b1
              · refine .inl ⟨((i : Int) + 1, cnt l t ((i : Int) + 1)), .inr ⟨by omega, ⟨by simp only; omega, by simp only; omega, fun m m1 m2 => ?_⟩, rfl⟩, fun r hr => hstep r ?_⟩
                · simp only
                  by_cases e : m = (i : Int) + 1
                  · subst e
                    unfold before
                    omega
                  · have := hbest.best m m1 (by omega)
                    unfold before at this ⊢
                    omega
                · simp only [if_pos c4]
                  exact hr
              · refine .inl ⟨(b1, cnt l t b1), .inr ⟨by omega, ⟨by simp only; omega, by simp only; omega, fun m m1 m2 => ?_⟩, rfl⟩, fun r hr => hstep r ?_⟩
                · simp only
                  by_cases e : m = (i : Int) + 1
                  · subst e
                    unfold before
                    omega
                  · exact hbest.best m m1 (by omega)
                · simp only [if_neg c4]
                  exact hr) (fun s hs => by
            rcases hs with ⟨h0, _⟩ | ⟨_, hbest, _⟩
            · omega
            · refine ev_now fun k => ?_
              simp only [impl_BestWant.l0]
              rw [if_neg (by omega), isBest_uniq hbest hB]) 0 (0, (l.length : Int) + 1) (Nat.zero_le _) (.inl ⟨rfl, rfl⟩)
          exact hh
      · rw [if_neg (fun h => c3 ((wantOk_iff l t).1 h).2.2)]
        exact ev_now fun k => by simp only [impl_BestWant.j0]; rw [if_pos (by simp; omega)]
  · simp only [if_neg c1]
    rw [if_neg (fun h => c1 ((wantOk_iff l t).1 h).1)]
    exact ev_now fun k => rfl
/-- The sum as the machine makes it. -/
def sumW (l : List Int) : Int := l.foldl (fun s x => wrap64 (s + x)) 0
theorem sumW_range (l : List Int) : (List.range l.length).foldl (fun s i => wrap64 (s + rd l ((i : Nat) : Int))) 0 = sumW l := by
  have h := fold_range l 0 (fun s x => wrap64 (s + x)) 0
  unfold sumW
  rw [← h]
  simp only [rd_eq]
theorem sumI (l : List Int) (hb : l.length ≤ 1048576) : Ev (fun k => impl_sum.f k l) (sumW l) := by
  unfold impl_sum.f
  have h := ev_fold (fun k s i => impl_sum.l0 k s l (l.length : Int) i) l.length (fun s i => wrap64 (s + rd l ((i : Nat) : Int))) id (fun k s i hi => by
    simp only [impl_sum.l0]
    rw [if_pos (by omega), if_pos (by omega), if_pos (by omega), w64 (x := (i : Int) + 1) (by omega) (by omega)]) (fun k s => by simp only [impl_sum.l0]; rw [if_neg (by omega)]; rfl) 0
  rw [id, sumW_range] at h
  exact h
theorem sum_in (l : List Int) (a b : Int) (h : ∀ x ∈ l, a ≤ x ∧ x ≤ b) : a * (l.length : Int) ≤ l.sum ∧ l.sum ≤ b * (l.length : Int) := by
  have := sumBy_bd id l a b h
  unfold sumBy at this
  rwa [List.map_id] at this
theorem sumW_exact (l : List Int) (hm : ∀ x ∈ l, 0 ≤ x ∧ x ≤ 5000) (hl : l.length ≤ 1000) : sumW l = l.sum := by
  obtain ⟨n, hn⟩ : ∃ n, l.length = n := ⟨_, rfl⟩
  induction n generalizing l with
  | zero =>
    obtain rfl := List.eq_nil_of_length_eq_zero hn
    rfl
  | succ n ih =>
    obtain ⟨l', x, rfl⟩ : ∃ l' x, l = l' ++ [x] := ⟨l.dropLast, l.getLast (by intro h; rw [h] at hn; simp at hn), (List.dropLast_concat_getLast _).symm⟩
    have hn' : l'.length = n := by simp at hn; omega
    have h1 := ih l' (fun y hy => hm y (List.mem_append_left _ hy)) (by simp at hl; omega) hn'
    have h2 := sum_in l' 0 5000 (fun y hy => hm y (List.mem_append_left _ hy))
    have h3 := hm x (by simp)
    have e : sumW (l' ++ [x]) = wrap64 (sumW l' + x) := by
      unfold sumW
      rw [List.foldl_append]
      rfl
    rw [e, h1, List.sum_append, List.sum_cons, List.sum_nil, Int.add_zero, w64 (by omega) (by omega)]
def gtOf (low x : Int) : Int := max (x - low) 0
def cntOf (low x : Int) : Int := if x > low then 1 else 0
def unOf (low x : Int) : Int := max (low - x) 0
theorem sumBy_perm {α : Type} (f : α → Int) {l m : List α} (h : l.Perm m) : sumBy f l = sumBy f m := by
  induction h with
  | nil => rfl
  | cons x _ ih => rw [sumBy_cons, sumBy_cons, ih]
  | swap x y l => rw [sumBy_cons, sumBy_cons, sumBy_cons, sumBy_cons]; omega
  | trans _ _ h1 h2 => rw [h1, h2]
theorem cnt_pos (low : Int) (l : List Int) : 0 ≤ sumBy (cntOf low) l := by
  have := sumBy_bd (cntOf low) l 0 1 (fun x _ => by unfold cntOf; split <;> omega)
  omega
theorem gt_un (low : Int) (l : List Int) : sumBy (gtOf low) l - sumBy (unOf low) l = l.sum - low * (l.length : Int) := by
  induction l with
  | nil => simp [sumBy_nil]
  | cons x l ih =>
    have e : low * ((l.length + 1 : Nat) : Int) = low * (l.length : Int) + low := by rw [Int.natCast_add, Int.mul_add]; simp
    rw [sumBy_cons, sumBy_cons, List.sum_cons, List.length_cons, e]
    have : gtOf low x - unOf low x = x - low := by unfold gtOf unOf; omega
    omega
theorem low_none (low : Int) (l : List Int) (h : ∀ x ∈ l, x ≤ low) : sumBy (gtOf low) l = 0 ∧ sumBy (cntOf low) l = 0 := by
  induction l with
  | nil => exact ⟨rfl, rfl⟩
  | cons x l ih =>
    have hx := h x List.mem_cons_self
    obtain ⟨h1, h2⟩ := ih (fun y hy => h y (List.mem_cons_of_mem _ hy))
    rw [sumBy_cons, sumBy_cons, h1, h2]
    unfold gtOf cntOf
    rw [if_neg (by omega)]
    omega
/-- What a list that falls has above its equal pieces. -/
theorem moves_down (low : Int) (o : List Int) (hd : o.Pairwise (fun x y => y ≤ x)) (R : Int) :
    ((List.range o.length).map fun (i : Nat) => max (o.getD i 0 - (if (i : Int) < R then low + 1 else low)) 0).sum = sumBy (gtOf low) o - max 0 (min R (sumBy (cntOf low) o)) := by
  induction o generalizing R with
  | nil => simp [sumBy_nil]; omega
  | cons p t ih =>
    rw [List.pairwise_cons] at hd
    have h := ih hd.2 (R - 1)
    have hc := cnt_pos low t
    rw [List.length_cons, List.range_succ_eq_map, List.map_cons, List.sum_cons, List.map_map]
    have e : ((List.range t.length).map ((fun (i : Nat) => max ((p :: t).getD i 0 - (if (i : Int) < R then low + 1 else low)) 0) ∘ Nat.succ)) = (List.range t.length).map fun (i : Nat) => max (t.getD i 0 - (if (i : Int) < R - 1 then low + 1 else low)) 0 := by
      apply List.map_congr_left
      intro i _
      show max ((p :: t).getD (i + 1) 0 - (if ((i + 1 : Nat) : Int) < R then low + 1 else low)) 0 = _
      rw [List.getD_cons_succ]
      by_cases c : (i : Int) < R - 1
      · rw [if_pos c, if_pos (by omega)]
      · rw [if_neg c, if_neg (by omega)]
    rw [e, h, List.getD_cons_zero, sumBy_cons, sumBy_cons]
    by_cases c : p > low
    · have e1 : gtOf low p = p - low := by unfold gtOf; omega
      have e2 : cntOf low p = 1 := by unfold cntOf; rw [if_pos c]
      rw [e1, e2]
      by_cases c2 : ((0 : Nat) : Int) < R
      · rw [if_pos c2]
        omega
      · rw [if_neg c2]
        omega
    · obtain ⟨z1, z2⟩ := low_none low t (fun x hx => by have := hd.1 x hx; omega)
      have e1 : gtOf low p = 0 := by unfold gtOf; omega
      have e2 : cntOf low p = 0 := by unfold cntOf; rw [if_neg c]
      rw [e1, e2, z1, z2]
      by_cases c2 : ((0 : Nat) : Int) < R
      · rw [if_pos c2]
        omega
      · rw [if_neg c2]
        omega
def movesV (l : List Int) : Int := if piecesOk l = true ∧ l.length ≠ 0 then sumBy (gtOf (l.sum / (l.length : Int))) l - min (l.sum % (l.length : Int)) (sumBy (cntOf (l.sum / (l.length : Int))) l) else -1
theorem pieces_mem {l : List Int} (h : piecesOk l = true) : l.length ≤ 40 ∧ ∀ x ∈ l, 1 ≤ x ∧ x ≤ 5000 := by
  unfold piecesOk at h
  rw [Bool.and_eq_true, decide_eq_true_eq] at h
  exact ⟨h.1, allOk_mem h.2⟩
theorem reverse_f (l : List Int) (hb : l.length ≤ 1000000) : Ev (fun k => slices_Reverse_int_int.f k l) l.reverse := by
  unfold slices_Reverse_int_int.f
  rw [w64 (by omega) (by omega)]
  have h := ev_to (fun k (s : List Int) i => slices_Reverse_int_int.l0 k s i ((l.length : Int) - 1 - i)) (l.length / 2) (fun i s => s.length = l.length ∧ ∀ m : Nat, m < l.length → s.getD m 0 = if m < i ∨ l.length - i ≤ m then l.getD (l.length - 1 - m) 0 else l.getD m 0) l.reverse (fun i s hi hp => by
      obtain ⟨p1, p2⟩ := hp
      have e1 : (l.length : Int) - 1 - (i : Int) = ((l.length - 1 - i : Nat) : Int) := by omega
      have q1 := p2 i (by omega)
      have q2 := p2 (l.length - 1 - i) (by omega)
      rw [if_neg (by omega)] at q1
      rw [if_neg (by omega)] at q2
      refine .inl ⟨(s.set i (l.getD (l.length - 1 - i) 0)).set (l.length - 1 - i) (l.getD i 0), ⟨by simp [p1], fun m hm => ?_⟩, fun r hr => ev_next (fun k => ?_) r hr⟩
      · have q := p2 m hm
        simp only [List.getD_eq_getElem?_getD, List.getElem?_set, List.length_set] at q q1 q2 ⊢
        by_cases c1 : l.length - 1 - i = m
        · subst c1
          rw [if_pos rfl, if_pos (by omega), if_pos (by omega), show l.length - 1 - (l.length - 1 - i) = i by omega]
          rfl
        · rw [if_neg c1]
          by_cases c2 : i = m
          · subst c2
            rw [if_pos rfl, if_pos (by omega), if_pos (by omega)]
            rfl
          · rw [if_neg c2, q]
            by_cases c3 : m < i ∨ l.length - i ≤ m
            · rw [if_pos c3, if_pos (by omega)]
            · rw [if_neg c3, if_neg (by omega)]
      · simp only [slices_Reverse_int_int.l0]
        rw [e1, if_pos (by omega), if_pos (by omega), if_pos (by omega), if_pos (by omega), if_pos (by omega), rd_eq, rd_eq, q1, q2, Int.toNat_natCast, Int.toNat_natCast, w64 (x := (i : Int) + 1) (by omega) (by omega), w64 (x := ((l.length - 1 - i : Nat) : Int) - 1) (by omega) (by omega)]
        congr 1
        omega) (fun s hp => by
      obtain ⟨p1, p2⟩ := hp
      refine ev_now fun k => ?_
      simp only [slices_Reverse_int_int.l0]
      rw [if_neg (by omega)]
      congr 1
      apply List.ext_getElem (by rw [List.length_reverse]; exact p1)
      intro m h1 h2
      have q := p2 m (by omega)
      rw [List.getD_eq_getElem?_getD, List.getElem?_eq_getElem h1] at q
      have e : l.getD (l.length - 1 - m) 0 = l.reverse[m] := by
        rw [List.getElem_reverse, List.getD_eq_getElem?_getD, List.getElem?_eq_getElem (by omega)]
        rfl
      have q' : s[m] = if m < l.length / 2 ∨ l.length - l.length / 2 ≤ m then l.getD (l.length - 1 - m) 0 else l.getD m 0 := q
      rw [q']
      by_cases c : m < l.length / 2 ∨ l.length - l.length / 2 ≤ m
      · rw [if_pos c, e]
      · rw [if_neg c, ← e, show l.length - 1 - m = m by omega]) 0 l (Nat.zero_le _) ⟨rfl, fun m hm => by rw [if_neg (by omega)]⟩
  have e0 : (l.length : Int) - 1 - ((0 : Nat) : Int) = (l.length : Int) - 1 := by omega
  rw [Int.natCast_zero] at h
  rw [Int.natCast_zero] at e0
  rw [e0] at h
  exact h
theorem movesI (l : List Int) (hb : l.length ≤ 1048576) : Ev (fun k => impl_LeastMoves.f k l) (movesV l) := by
  unfold impl_LeastMoves.f movesV
  simp only [piecesOkI, Option.bind_some]
  by_cases c1 : piecesOk l = true
  · obtain ⟨hl, hm⟩ := pieces_mem c1
    simp only [if_pos c1]
    by_cases c2 : l.length = 0
    · rw [if_neg (fun h => h.2 c2), show ((l.length : Int) == 0) = true by simp [c2]]
      exact ev_now fun k => by simp [impl_LeastMoves.j0]
    · rw [if_pos ⟨c1, c2⟩, show ((l.length : Int) == 0) = false from beq_eq_false_iff_ne.2 (by omega)]
      obtain ⟨o, ho⟩ : ∃ o, o = (l.mergeSort fun x y => decide (x ≤ y)).reverse := ⟨_, rfl⟩
      have hperm : o.Perm l := by
        rw [ho]
        exact (List.reverse_perm _).trans (List.mergeSort_perm _ _)
      have hol : o.length = l.length := hperm.length_eq
      have hom : ∀ x ∈ o, 1 ≤ x ∧ x ≤ 5000 := fun x hx => hm x (hperm.mem_iff.1 hx)
      have hdown : o.Pairwise (fun x y => y ≤ x) := by
        rw [ho, List.pairwise_reverse]
        have := List.pairwise_mergeSort (le := fun (x y : Int) => decide (x ≤ y)) (fun a b c h1 h2 => by simp at *; omega) (fun a b => by simp; omega) l
        exact this.imp (fun h => of_decide_eq_true h)
      have hsum : o.sum = l.sum := by
        have := sumBy_perm id hperm
        unfold sumBy at this
        rwa [List.map_id, List.map_id] at this
      have hsb := sum_in l 1 5000 hm
      have hsW : sumW o = l.sum := by rw [sumW_exact o (fun x hx => by have := hom x hx; omega) (by omega), hsum]
      have hsi := sumI o (by omega)
      rw [hsW] at hsi
      obtain ⟨S, hS⟩ : ∃ S, S = l.sum := ⟨_, rfl⟩
      rw [← hS] at hsi hsb ⊢
      have hms : (l.mergeSort fun x y => decide (x ≤ y)).length = l.length := List.length_mergeSort _
      have hrev := reverse_f (l.mergeSort fun x y => decide (x ≤ y)) (by omega)
      rw [← ho] at hrev
      have hpc := piecesI S (l.length : Int)
      have hpv : piecesV S (l.length : Int) = (List.range l.length).map (pieceV S (l.length : Int)) := by
        unfold piecesV
        rw [if_pos (by omega), Int.toNat_natCast]
      refine ev_next (f := fun k => (slices_Reverse_int_int.f k (l.mergeSort fun x y => decide (x ≤ y))).bind fun t141 => ((impl_sum.f k t141).bind fun t142 => ((impl_EqualPieces.f k t142 (l.length : Int)).bind fun t143 => (impl_LeastMoves.l0 k t141 0 t143 (t143.length : Int) 0)))) (fun k => ?_) _ (Ev.bind hrev (Ev.bind hsi (Ev.bind hpc ?_)))
      · simp only [impl_LeastMoves.j0, slices_Clone_int_int.f, slices_Sort_int_int.f]
        rw [if_neg (by decide), if_pos (by omega)]
        simp only [Option.bind_some]
        rw [if_pos (by omega)]
        rfl
      · have hq := piece_bd S (l.length : Int) (by omega) (by omega) (by omega)
        have hr0 := Int.emod_nonneg S (show (l.length : Int) ≠ 0 by omega)
        have hmd := moves_down (S / (l.length : Int)) o hdown (S % (l.length : Int))
        rw [sumBy_perm _ hperm, sumBy_perm _ hperm] at hmd
        have hcp := cnt_pos (S / (l.length : Int)) l
        rw [show max 0 (min (S % (l.length : Int)) (sumBy (cntOf (S / (l.length : Int))) l)) = min (S % (l.length : Int)) (sumBy (cntOf (S / (l.length : Int))) l) by omega] at hmd
        rw [← hmd, hpv]
        have hplen : ((List.range l.length).map (pieceV S (l.length : Int))).length = l.length := by simp
        rw [hplen]
        obtain ⟨T, hT⟩ : ∃ T : Nat → Int, T = fun (i : Nat) => max (o.getD i 0 - (if (i : Int) < S % (l.length : Int) then S / (l.length : Int) + 1 else S / (l.length : Int))) 0 := ⟨_, rfl⟩
        have hTb : ∀ i : Nat, i < l.length → 0 ≤ T i ∧ T i ≤ 5000 := by
          intro i hi
          have := hom _ (List.getElem_mem (show i < o.length by omega))
          rw [hT]
          simp only [List.getD_eq_getElem?_getD, List.getElem?_eq_getElem (show i < o.length by omega), Option.getD_some]
          split <;> omega
        have hTs : ∀ i : Nat, i ≤ l.length → 0 ≤ ((List.range i).map T).sum ∧ ((List.range i).map T).sum ≤ 5000 * i := by
          intro i hi
          have := sum_in ((List.range i).map T) 0 5000 (fun x hx => by
            obtain ⟨j, hj, rfl⟩ := List.mem_map.1 hx
            exact hTb j (by have := List.mem_range.1 hj; omega))
          rw [List.length_map, List.length_range] at this
          omega
        have h := ev_to (fun k s i => impl_LeastMoves.l0 k o s ((List.range l.length).map (pieceV S (l.length : Int))) (l.length : Int) i) l.length (fun i s => s = ((List.range i).map T).sum) (((List.range l.length).map T).sum) (fun i s hi hp => by
            refine .inl ⟨((List.range (i + 1)).map T).sum, rfl, fun r hr => ev_next (fun k => ?_) r hr⟩
            have b1 := hTs i (by omega)
            have b2 := hTb i hi
            have hx := hom _ (List.getElem_mem (show i < o.length by omega))
            have er : rd ((List.range l.length).map (pieceV S (l.length : Int))) (i : Int) = pieceV S (l.length : Int) i := by
              rw [rd_get _ _ (by simpa using hi)]
              simp
            have eT : T i = max (o[i]'(by omega) - pieceV S (l.length : Int) i) 0 := by
              rw [hT]
              simp only [List.getD_eq_getElem?_getD, List.getElem?_eq_getElem (show i < o.length by omega), Option.getD_some]
              rfl
            have hpb : 0 ≤ pieceV S (l.length : Int) i ∧ pieceV S (l.length : Int) i ≤ 200001 := by unfold pieceV; split <;> omega
            simp only [impl_LeastMoves.l0]
            rw [if_pos (by omega), if_pos (by omega), if_pos (by rw [hplen]; omega), if_pos (by omega), er, rd_get o i (by omega), w64 (x := o[i] - _) (by omega) (by omega), mx_eq, ← eT, w64 (x := s + T i) (by omega) (by omega), w64 (x := (i : Int) + 1) (by omega) (by omega), List.range_succ, List.map_append, List.sum_append, ← hp]
            simp) (fun s hp => ev_now fun k => by
            simp only [impl_LeastMoves.l0]
            rw [if_neg (by omega), hp]) 0 0 (Nat.zero_le _) rfl
        rw [hol, ← hT]
        exact h
  · simp only [if_neg c1]
    rw [if_neg (fun h => c1 h.1)]
    exact ev_now fun k => by simp [impl_LeastMoves.j0]
def spreadV (l : List Int) : Int := if piecesOk l = true then (if l.length = 0 then 0 else wrap64 (smxF l (l.length - 1) - smnF l (l.length - 1))) else -1
theorem spreadI (l : List Int) : impl_SpreadOf.f l = some (spreadV l) := by
  unfold impl_SpreadOf.f spreadV
  simp only [piecesOkI, Option.bind_some]
  by_cases c1 : piecesOk l = true
  · rw [if_pos c1, if_pos c1]
    by_cases c2 : l.length = 0
    · rw [if_pos (by omega), if_pos c2]
    · rw [if_neg (by omega), if_neg c2]
      unfold slices_Max_int_int.f slices_Min_int_int.f
      rw [if_pos (by omega), if_pos (by omega)]
      rfl
  · rw [if_neg c1, if_neg c1]
theorem at_f (l : List Int) (hw : ∀ x ∈ l, (Lit.int .u8 x).wf = true) (hl : l.length ≤ 140737488351232) (i : Int) (h0 : 0 ≤ i) (h1 : i ≤ 1000) : ∃ v, laws_at.f l i = some v ∧ 0 ≤ v ∧ v ≤ 255 := by
  unfold laws_at.f
  by_cases c : (l.length : Int) = 0
  · exact ⟨0, by rw [if_pos c], by omega, by omega⟩
  · rw [if_neg c, w64 (x := i * 5) (by omega) (by omega), w64 (x := i * 5 + 1) (by omega) (by omega), tmod_pos (by omega)]
    have hm : 0 ≤ (i * 5 + 1) % (l.length : Int) := Int.emod_nonneg _ c
    have hn : (i * 5 + 1) % (l.length : Int) < (l.length : Int) := Int.emod_lt_of_pos _ (by omega)
    rw [if_pos hm, if_pos hn]
    obtain ⟨j, hj⟩ := Int.eq_ofNat_of_zero_le hm
    rw [hj] at hn ⊢
    have hx := (u8_iff _).1 (hw _ (List.getElem_mem (show j < l.length by omega)))
    rw [rd_get _ _ (by omega), w64 (by omega) (by omega)]
    exact ⟨_, rfl, hx.1, hx.2⟩
theorem big_f (l : List Int) : laws_big.f l = some (decide ((l.length : Int) > 1048576)) := rfl
theorem and_bd (x : Int) (m : Nat) (hm : m ≤ 4294967295) : 0 ≤ Go.bits .and .i64 x (m : Int) ∧ Go.bits .and .i64 x (m : Int) ≤ m := by
  have h : ((BitVec.ofInt 64 x) &&& (BitVec.ofInt 64 (m : Int))).toNat ≤ m := by
    rw [BitVec.toNat_and]
    refine Nat.le_trans Nat.and_le_right ?_
    rw [BitVec.ofInt_natCast, BitVec.toNat_ofNat]
    exact Nat.mod_le _ _
  have e : Go.bits .and .i64 x (m : Int) = IntKind.i64.wrap (((BitVec.ofInt 64 x) &&& (BitVec.ofInt 64 (m : Int))).toNat : Int) := rfl
  rw [e]
  generalize ((BitVec.ofInt 64 x) &&& (BitVec.ofInt 64 (m : Int))).toNat = q at h ⊢
  rw [IntKind.wrap_i64]
  omega
theorem byte_f (b : List Int) (i h : Int) (hb : b.length ≤ 140737488351232) (hi : 0 ≤ i) : ∃ x i' h', spec_l01Byte.f b i h = some (x, i', h') ∧ 0 ≤ x ∧ x ≤ 255 ∧ 0 ≤ i' := by
  unfold spec_l01Byte.f
  by_cases c : i < (b.length : Int)
  · rw [if_pos c, if_pos hi]
    refine ⟨_, _, _, rfl, (and_bd _ 255 (by omega)).1, (and_bd _ 255 (by omega)).2, ?_⟩
    rw [w64 (by omega) (by omega)]
    omega
  · rw [if_neg c]
    exact ⟨_, _, _, rfl, (and_bd _ 255 (by omega)).1, (and_bd _ 255 (by omega)).2, hi⟩
theorem below_f (b : List Int) (i h n : Int) (hb : b.length ≤ 140737488351232) (hi : 0 ≤ i) (h1 : 1 ≤ n) (h2 : n ≤ 256) : ∃ x i' h', spec_l01Below.f b i h n = some (x, i', h') ∧ 0 ≤ x ∧ x < n ∧ 0 ≤ i' := by
  obtain ⟨x, i', h', e, x0, x1, i0⟩ := byte_f b i h hb hi
  unfold spec_l01Below.f
  rw [if_neg (by omega), if_pos (by omega), e]
  simp only [Option.bind_some]
  rw [if_neg (by omega), tmod_pos x0]
  exact ⟨_, _, _, rfl, Int.emod_nonneg _ (by omega), Int.emod_lt_of_pos _ (by omega), i0⟩
theorem new_f (l : List Int) (hb : l.length ≤ 140737488351232) : ∃ h, Ev (fun k => spec_l01New.f k l) (l, 0, h) := by
  unfold spec_l01New.f
  have h := ev_up (fun k s i => spec_l01New.l0 k l s i) l.length (fun _ _ => True) (fun r => ∃ h, r = (l, 0, h)) (fun i s hi _ => by
      by_cases c : i < 4000
      · refine .inl ⟨Go.bits .and .i64 (wrap64 ((wrap64 ((wrap64 (s * 131)) + (wrap64 (rd l (i : Int))))) + 7)) 1073741823, trivial, fun r hr => ev_next (fun k => ?_) r hr⟩
        simp only [spec_l01New.l0]
        rw [if_pos (by omega), if_pos (by omega), if_pos (by omega), w64 (x := (i : Int) + 1) (by omega) (by omega)]
      · refine .inr ⟨_, ⟨s, rfl⟩, ev_now fun k => ?_⟩
        · simp only [spec_l01New.l0]
          rw [if_pos (by omega), if_neg (by omega)]) (fun s _ => ⟨_, ⟨s, rfl⟩, ev_now fun k => by
      simp only [spec_l01New.l0]
      rw [if_neg (by omega)]⟩) 0 (wrap64 (33101 + (l.length : Int))) (Nat.zero_le _) trivial
  obtain ⟨r, ⟨h, rfl⟩, e⟩ := h
  exact ⟨h, e⟩
theorem drawPieces_f (l : List Int) (hb : l.length ≤ 140737488351232) : ∃ f, Ev (fun k => spec_DrawPieces.f k l) f ∧ f.length ≤ 8 ∧ ∀ x ∈ f, 80 ≤ x ∧ x ≤ 119 := by
  obtain ⟨h, e⟩ := new_f l hb
  obtain ⟨n, i1, h1, e1, n0, n1, p1⟩ := below_f l 0 h 9 hb (by omega) (by omega) (by omega)
  obtain ⟨N, rfl⟩ := Int.eq_ofNat_of_zero_le n0
  have hl := ev_up (fun k (s : List Int × Int × Int) i => spec_l12List.l0 k s.1 (N : Int) i l s.2.1 s.2.2) N (fun i s => s.1.length = i ∧ (∀ x ∈ s.1, 80 ≤ x ∧ x ≤ 119) ∧ 0 ≤ s.2.1) (fun r => r.1.length ≤ 8 ∧ ∀ x ∈ r.1, 80 ≤ x ∧ x ≤ 119) (fun i s hi hp => by
      obtain ⟨a, b, c⟩ := s
      obtain ⟨q1, q2, q3⟩ := hp
      simp only at q1 q2 q3
      obtain ⟨x, i2, h2, e2, x0, x1, p2⟩ := below_f l b c 40 hb q3 (by omega) (by omega)
      refine .inl ⟨(a ++ [80 + x], i2, h2), ⟨by simp [q1], fun y hy => ?_, p2⟩, fun r hr => ev_next (fun k => ?_) r hr⟩
      · rcases List.mem_append.1 hy with hy | hy
        · exact q2 y hy
        · rw [List.mem_singleton.1 hy]
          omega
      · simp only [spec_l12List.l0, e2, Option.bind_some]
        rw [if_pos (by omega), if_pos (by omega), w64 (x := 80 + x) (by omega) (by omega), w64 (x := (i : Int) + 1) (by omega) (by omega)]) (fun s hp => ⟨s, ⟨by omega, hp.2.1⟩, ev_now fun k => by
      simp only [spec_l12List.l0]
      rw [if_neg (by omega)]⟩) 0 ([], i1, h1) (Nat.zero_le _) ⟨rfl, by simp, p1⟩
  obtain ⟨r, ⟨r1, r2⟩, he⟩ := hl
  refine ⟨r.1, ?_, r1, r2⟩
  unfold spec_DrawPieces.f
  refine Ev.bind e ?_
  unfold spec_l12List.f
  simp only [e1, Option.bind_some]
  exact Ev.bind he (Ev.now _)
theorem has_f (l : List Int) (a : Int) (hb : l.length ≤ 1048576) : Ev (fun k => laws_has.f k l a) (decide (a ∈ l)) := by
  unfold laws_has.f
  have h := ev_to (fun k (_ : Unit) i => laws_has.l0 k l a i) l.length (fun i _ => ∀ j, j < i → l.getD j 0 ≠ a) (decide (a ∈ l)) (fun i _ hi hp => by
      by_cases c : l.getD i 0 = a
      · refine .inr (ev_now fun k => ?_)
        have hm : a ∈ l := by
          rw [← c, List.getD_eq_getElem?_getD, List.getElem?_eq_getElem hi]
          exact List.getElem_mem hi
        simp only [laws_has.l0]
        rw [if_pos (by omega), if_pos (by omega), rd_eq, if_pos c, decide_eq_true hm]
      · refine .inl ⟨(), fun j hj => ?_, fun r hr => ev_next (fun k => ?_) r hr⟩
        · by_cases d : j = i
          · subst d
            exact c
          · exact hp j (by omega)
        · simp only [laws_has.l0]
          rw [if_pos (by omega), if_pos (by omega), rd_eq, if_neg c, w64 (by omega) (by omega)]) (fun _ hp => by
      have hm : a ∉ l := by
        intro h
        obtain ⟨j, hj, e⟩ := List.getElem_of_mem h
        refine hp j hj ?_
        rw [List.getD_eq_getElem?_getD, List.getElem?_eq_getElem hj]
        exact e
      rw [decide_eq_false hm]
      exact ev_now fun k => by
        simp only [laws_has.l0]
        rw [if_neg (by omega)]) 0 () (Nat.zero_le _) (fun j hj => by omega)
  exact h
theorem smx_ge (l : List Int) (n i : Nat) (h : i ≤ n) : rd l (i : Int) ≤ smxF l n := by
  induction n with
  | zero => rw [show i = 0 by omega]; exact Int.le_refl _
  | succ n ih =>
    show _ ≤ mx (smxF l n) (rd l ((n + 1 : Nat) : Int))
    rw [mx_eq]
    by_cases c : i = n + 1
    · subst c; omega
    · have := ih (by omega); omega
theorem smn_le (l : List Int) (n i : Nat) (h : i ≤ n) : smnF l n ≤ rd l (i : Int) := by
  induction n with
  | zero => rw [show i = 0 by omega]; exact Int.le_refl _
  | succ n ih =>
    show mn (smnF l n) (rd l ((n + 1 : Nat) : Int)) ≤ _
    rw [mn_eq]
    by_cases c : i = n + 1
    · subst c; omega
    · have := ih (by omega); omega
theorem smx_in (l : List Int) (n : Nat) (a b : Int) (h : ∀ i : Nat, i ≤ n → a ≤ rd l (i : Int) ∧ rd l (i : Int) ≤ b) : (a ≤ smxF l n ∧ smxF l n ≤ b) ∧ (a ≤ smnF l n ∧ smnF l n ≤ b) := by
  induction n with
  | zero => exact ⟨h 0 (Nat.le_refl _), h 0 (Nat.le_refl _)⟩
  | succ n ih =>
    have i1 := ih (fun i hi => h i (by omega))
    have i2 := h (n + 1) (Nat.le_refl _)
    show (a ≤ mx (smxF l n) (rd l ((n + 1 : Nat) : Int)) ∧ mx (smxF l n) (rd l ((n + 1 : Nat) : Int)) ≤ b) ∧ (a ≤ mn (smnF l n) (rd l ((n + 1 : Nat) : Int)) ∧ mn (smnF l n) (rd l ((n + 1 : Nat) : Int)) ≤ b)
    rw [mx_eq, mn_eq]
    omega
theorem rd_mem (l : List Int) (i : Nat) (h : i < l.length) : rd l (i : Int) ∈ l := by
  rw [rd_get l i h]
  exact List.getElem_mem h
/-- What the spread says. -/
theorem spread_spec (l : List Int) (h0 : piecesOk l = true) (h1 : l.length ≠ 0) : ∃ a b, spreadV l = b - a ∧ a ≤ b ∧ (1 ≤ a ∧ b ≤ 5000) ∧ (∀ x ∈ l, a ≤ x ∧ x ≤ b) ∧ ∀ c d, (∀ x ∈ l, c ≤ x ∧ x ≤ d) → c ≤ a ∧ b ≤ d := by
  obtain ⟨hl, hm⟩ := pieces_mem h0
  have hin := fun c d (h : ∀ x ∈ l, c ≤ x ∧ x ≤ d) => smx_in l (l.length - 1) c d (fun i hi => h _ (rd_mem l i (by omega)))
  have hb := hin 1 5000 hm
  refine ⟨smnF l (l.length - 1), smxF l (l.length - 1), ?_, ?_, by omega, ?_, fun c d h => by have := hin c d h; omega⟩
  · unfold spreadV
    rw [if_pos h0, if_neg h1, w64 (by omega) (by omega)]
  · have a1 := smx_ge l (l.length - 1) 0 (by omega)
    have a2 := smn_le l (l.length - 1) 0 (by omega)
    omega
  · intro x hx
    obtain ⟨j, hj, rfl⟩ := List.mem_iff_getElem.1 hx
    have a1 := smx_ge l (l.length - 1) j (by omega)
    have a2 := smn_le l (l.length - 1) j (by omega)
    rw [rd_get l j hj] at a1 a2
    exact ⟨a2, a1⟩
theorem sum_zero {α : Type} (f : α → Int) (l : List α) (h : ∀ x ∈ l, 0 ≤ f x) (hs : sumBy f l ≤ 0) : ∀ x ∈ l, f x = 0 := by
  induction l with
  | nil => simp
  | cons y l ih =>
    rw [sumBy_cons] at hs
    have hy := h y List.mem_cons_self
    have hl := sumBy_bd f l 0 1000000000000000000000000 
    have hnn : 0 ≤ sumBy f l := by
      clear hs hl ih hy
      induction l with
      | nil => exact Int.le_refl _
      | cons z l ih2 =>
        rw [sumBy_cons]
        have h1 := h z (by simp)
        have h2 := ih2 (fun x hx => h x (by rcases List.mem_cons.1 hx with e | e <;> simp [e]))
        omega
    intro x hx
    rcases List.mem_cons.1 hx with rfl | hx
    · omega
    · exact ih (fun x hx => h x (List.mem_cons_of_mem _ hx)) (by omega) x hx
theorem sumBy_congr {α : Type} (f g : α → Int) (l : List α) (h : ∀ x ∈ l, f x = g x) : sumBy f l = sumBy g l := by
  induction l with
  | nil => rfl
  | cons y l ih => rw [sumBy_cons, sumBy_cons, h y List.mem_cons_self, ih (fun x hx => h x (List.mem_cons_of_mem _ hx))]
theorem sumBy_le {α : Type} (f g : α → Int) (l : List α) (h : ∀ x ∈ l, f x ≤ g x) : sumBy f l ≤ sumBy g l := by
  induction l with
  | nil => exact Int.le_refl _
  | cons y l ih =>
    rw [sumBy_cons, sumBy_cons]
    have := h y List.mem_cons_self
    have := ih (fun x hx => h x (List.mem_cons_of_mem _ hx))
    omega
theorem sumBy_sub {α : Type} (f g : α → Int) (l : List α) : sumBy (fun x => f x - g x) l = sumBy f l - sumBy g l := by
  induction l with
  | nil => rfl
  | cons y l ih => rw [sumBy_cons, sumBy_cons, sumBy_cons, ih]; omega
theorem sumBy_zero {α : Type} (l : List α) : sumBy (fun _ => (0 : Int)) l = 0 := by
  induction l with
  | nil => rfl
  | cons y l ih => rw [sumBy_cons, ih]; rfl
/-- No move is needed just where the spread is at most one. -/
theorem moves_spread (l : List Int) (h0 : piecesOk l = true) (h1 : l.length ≠ 0) : 0 ≤ movesV l ∧ (movesV l = 0 ↔ spreadV l ≤ 1) := by
  obtain ⟨hl, hm⟩ := pieces_mem h0
  obtain ⟨a, b, hs, hab, hr, hin, hout⟩ := spread_spec l h0 h1
  have hv : movesV l = sumBy (gtOf (l.sum / (l.length : Int))) l - min (l.sum % (l.length : Int)) (sumBy (cntOf (l.sum / (l.length : Int))) l) := by
    unfold movesV
    rw [if_pos ⟨h0, h1⟩]
  have hg := gt_un (l.sum / (l.length : Int)) l
  have e3 := Int.mul_ediv_add_emod l.sum (l.length : Int)
  rw [Int.mul_comm] at e3
  have hR := Int.emod_nonneg l.sum (show (l.length : Int) ≠ 0 by omega)
  have hR2 := Int.emod_lt_of_pos l.sum (show 0 < (l.length : Int) by omega)
  obtain ⟨low, hlow⟩ : ∃ low, low = l.sum / (l.length : Int) := ⟨_, rfl⟩
  rw [← hlow] at hv hg e3
  have hcg : sumBy (cntOf low) l ≤ sumBy (gtOf low) l := sumBy_le _ _ l (fun x _ => by unfold cntOf gtOf; split <;> omega)
  have hun : 0 ≤ sumBy (unOf low) l := by
    have := sumBy_le (fun _ => (0 : Int)) (unOf low) l (fun x _ => by unfold unOf; omega)
    rwa [sumBy_zero] at this
  rw [hv, hs]
  refine ⟨by omega, fun h => ?_, fun h => ?_⟩
  · have hz1 := sum_zero (unOf low) l (fun x _ => by unfold unOf; omega) (by omega)
    have hz2 := sum_zero (fun x => gtOf low x - cntOf low x) l (fun x _ => by unfold cntOf gtOf; split <;> omega) (by rw [sumBy_sub]; omega)
    have := hout low (low + 1) (fun x hx => by
      have q1 := hz1 x hx
      have q2 := hz2 x hx
      unfold unOf at q1
      unfold gtOf cntOf at q2
      split at q2 <;> omega)
    omega
  · have s1 := sum_in l a (a + 1) (fun x hx => by have := hin x hx; omega)
    have e1 : (a + 1) * (l.length : Int) = a * (l.length : Int) + (l.length : Int) := by rw [Int.add_mul, Int.one_mul]
    by_cases c : l.sum < (a + 1) * (l.length : Int)
    · have hla : low = a := by
        have q1 : a ≤ low := by rw [hlow]; exact Int.le_ediv_of_mul_le (by omega) s1.1
        have q2 : low < a + 1 := by rw [hlow]; exact Int.ediv_lt_of_lt_mul (by omega) c
        omega
      have g1 : sumBy (gtOf low) l = sumBy (cntOf low) l := sumBy_congr _ _ l (fun x hx => by have := hin x hx; unfold gtOf cntOf; split <;> omega)
      have g2 : sumBy (unOf low) l = 0 := by
        rw [sumBy_congr (unOf low) (fun _ => 0) l (fun x hx => by have := hin x hx; unfold unOf; omega), sumBy_zero]
      omega
    · have hla : low = a + 1 := by
        have e : l.sum = (a + 1) * (l.length : Int) := by omega
        rw [hlow, e, Int.mul_ediv_cancel _ (by omega)]
      obtain ⟨z1, z2⟩ := low_none low l (fun x hx => by have := hin x hx; omega)
      rw [z1, z2]
      omega
theorem bad_mem (p : List Int) (w t : Int) (k : Nat) (hk : k < p.length) : ((k : Int) ∈ badL p w t) ↔ isBad w t (p.getD k 0) = true := by
  unfold badL
  rw [List.mem_map]
  constructor
  · rintro ⟨i, hi, e⟩
    have : i = k := by omega
    subst this
    exact (List.mem_filter.1 hi).2
  · intro h
    exact ⟨k, List.mem_filter.2 ⟨List.mem_range.2 hk, h⟩, rfl⟩
theorem pieces_sum (d m : Int) (n : Nat) (hR : 0 ≤ d % m) : ((List.range n).map (pieceV d m)).sum = (n : Int) * (d / m) + min (n : Int) (d % m) := by
  induction n with
  | zero => simp; omega
  | succ n ih =>
    rw [List.range_succ, List.map_append, List.sum_append, ih]
    have e : ((n + 1 : Nat) : Int) * (d / m) = (n : Int) * (d / m) + d / m := by rw [Int.natCast_add, Int.add_mul]; simp
    rw [e]
    simp only [List.map_cons, List.map_nil, List.sum_cons, List.sum_nil]
    unfold pieceV
    split <;> omega
theorem pieces_all (d m : Int) (hm : 1 ≤ m ∧ m ≤ 40) (hd : 40 ≤ d ∧ d ≤ 5000) : ∃ E, piecesV d m = E ∧ (E.length : Int) = m ∧ E.sum = d ∧ piecesOk E = true ∧ E.length ≠ 0 ∧ (0 ≤ spreadV E ∧ spreadV E ≤ 1) ∧ movesV E = 0 ∧ (∀ i (h : i < E.length), E[i] = pieceV d m i) ∧ ∀ x ∈ E, 1 ≤ x ∧ x ≤ 5001 := by
  have hR := Int.emod_nonneg d (show m ≠ 0 by omega)
  have hR2 := Int.emod_lt_of_pos d (show 0 < m by omega)
  have e3 := Int.mul_ediv_add_emod d m
  have hq1 : 1 ≤ d / m := Int.le_ediv_of_mul_le (by omega) (by omega)
  have hq2 : d / m ≤ d := Int.ediv_le_self _ (by omega)
  have hq3 : d / m + 1 ≤ 5000 ∨ d % m = 0 := by
    by_cases c : d / m + 1 ≤ 5000
    · exact .inl c
    · refine .inr ?_
      have : m * 5000 ≤ m * (d / m) := Int.mul_le_mul_of_nonneg_left (by omega) (by omega)
      omega
  obtain ⟨M, rfl⟩ := Int.eq_ofNat_of_zero_le (show 0 ≤ m by omega)
  have hv : piecesV d (M : Int) = (List.range M).map (pieceV d (M : Int)) := by
    unfold piecesV
    rw [if_pos (by omega), Int.toNat_natCast]
  have hlen : ((List.range M).map (pieceV d (M : Int))).length = M := by simp
  have hin : ∀ x ∈ (List.range M).map (pieceV d (M : Int)), d / (M : Int) ≤ x ∧ x ≤ d / (M : Int) + 1 := by
    intro x hx
    obtain ⟨i, _, rfl⟩ := List.mem_map.1 hx
    unfold pieceV
    split <;> omega
  have hin5 : ∀ x ∈ (List.range M).map (pieceV d (M : Int)), 1 ≤ x ∧ x ≤ 5000 := by
    intro x hx
    obtain ⟨i, _, rfl⟩ := List.mem_map.1 hx
    unfold pieceV
    split <;> omega
  have hok : piecesOk ((List.range M).map (pieceV d (M : Int))) = true := by
    unfold piecesOk allOk
    rw [Bool.and_eq_true, decide_eq_true_eq, List.all_eq_true, hlen]
    exact ⟨by omega, fun x hx => decide_eq_true (hin5 x hx)⟩
  have hne : ((List.range M).map (pieceV d (M : Int))).length ≠ 0 := by rw [hlen]; omega
  obtain ⟨a, b, hs, hab, _, _, hout⟩ := spread_spec _ hok hne
  have ho := hout (d / (M : Int)) (d / (M : Int) + 1) hin
  have hsp : 0 ≤ spreadV ((List.range M).map (pieceV d (M : Int))) ∧ spreadV ((List.range M).map (pieceV d (M : Int))) ≤ 1 := by omega
  refine ⟨_, hv, by rw [hlen], ?_, hok, hne, hsp, (moves_spread _ hok hne).2.2 hsp.2, fun i h => by simp, fun x hx => by have := hin5 x hx; omega⟩
  rw [pieces_sum d M M hR]
  omega
theorem FnDivisions (l : List Int) (_ : l.length ≤ maxLen) (hb : l.length * 1 ≤ 140737488351232) (hw : ∀ x ∈ l, (Lit.int .u8 x).wf = true) : ∃ k, laws_FnDivisions.f k l = some true := by
  refine Ev.rounds ?_
  unfold laws_FnDivisions.f
  simp only [big_f, Option.bind_some, decide_eq_true_eq]
  by_cases c : (l.length : Int) > 1048576
  · simp only [if_pos c]
    exact Ev.now _
  · simp only [if_neg c]
    obtain ⟨p, hd, hl, hm⟩ := drawPieces_f l (by omega)
    obtain ⟨a0, ha0, b0, c0⟩ := at_f l hw (by omega) 0 (by omega) (by omega)
    obtain ⟨a1, ha1, b1, c1⟩ := at_f l hw (by omega) 1 (by omega) (by omega)
    obtain ⟨a2, ha2, b2, c2⟩ := at_f l hw (by omega) 2 (by omega) (by omega)
    obtain ⟨a3, ha3, b3, c3⟩ := at_f l hw (by omega) 3 (by omega) (by omega)
    refine Ev.bind hd ?_
    simp only [ha0, ha1, Option.bind_some, tmod_pos b0, tmod_pos b1]
    rw [w64 (x := 80 + a0 % 40) (by omega) (by omega)]
    obtain ⟨w, hW⟩ : ∃ w, w = 80 + a0 % 40 := ⟨_, rfl⟩
    obtain ⟨t, hT⟩ : ∃ t, t = a1 % 12 := ⟨_, rfl⟩
    rw [← hW, ← hT]
    have hw1 : 80 ≤ w ∧ w ≤ 119 := by omega
    have ht1 : 0 ≤ t ∧ t ≤ 11 := by omega
    have hpk : piecesOk p = true := by
      unfold piecesOk allOk
      rw [Bool.and_eq_true, decide_eq_true_eq, List.all_eq_true]
      exact ⟨by omega, fun x hx => decide_eq_true (by have := hm x hx; omega)⟩
    have hbok : badOk p w t = true := (badOk_iff p w t).2 ⟨hpk, by omega, by omega⟩
    have hbi := badI p w t (by omega)
    have hbv : badV p w t = badL p w t := by unfold badV; rw [if_pos hbok]
    rw [hbv] at hbi
    have hbl := badL_len p w t
    refine Ev.bind hbi ?_
    have fin3 : ∀ s v : Int, 0 ≤ v → (v = 0 ↔ s ≤ 1) → Ev (fun k => laws_FnDivisions.j3 k p s v false) true := by
      intro s v h1 h2
      have hmv := movesI [10, 20, 30] (by simp)
      rw [show movesV [10, 20, 30] = 10 by decide +kernel] at hmv
      refine ev_next (f := fun k => ((impl_PiecesOk.f p).bind fun t219 => (if t219 = true then ((impl_LeastMoves.f k (([10, 20, 30] : List Int))).bind fun t223 => (some (t223 == 10))) else (some false)))) (fun k => ?_) _ ?_
      · simp only [laws_FnDivisions.j3]
        rw [if_neg (by decide), if_pos h1, if_pos]
        by_cases e : v = 0
        · simp [e, h2.1 e]
        · have : ¬ s ≤ 1 := fun h => e (h2.2 h)
          simp [e, this]
      · simp only [piecesOkI, hpk, Option.bind_some, if_true]
        exact Ev.bind hmv (Ev.now _)
    have fin2 : Ev (fun k => laws_FnDivisions.j2 k p (p.length : Int) t (badL p w t) false) true := by
      have hmv := movesI p (by omega)
      by_cases e : p.length = 0
      · have hwk : wantOk p t = false := Bool.eq_false_iff.2 (fun h => ((wantOk_iff p t).1 h).2.1 e)
        have hwi := wantI p t 0 (by omega) (fun h => by rw [hwk] at h; cases h)
        rw [hwk] at hwi
        have hv : movesV p = -1 := by unfold movesV; rw [if_neg (fun h => h.2 e)]
        have hs : spreadV p = 0 := by unfold spreadV; rw [if_pos hpk, if_pos e]
        rw [hv] at hmv
        refine ev_next (f := fun k => ((impl_LeastMoves.f k p).bind fun t214 => ((impl_BestWant.f k p t).bind fun t215 => (if (p.length : Int) = 0 then (if (0 : Int) = 0 then (if t214 = (-1) then (some (t215 == (-1))) else (some false)) else (some false)) else (if t215 < 1 then (laws_FnDivisions.j3 k p 0 t214 true) else (if t215 > 5000 then (laws_FnDivisions.j3 k p 0 t214 true) else ((impl_BadPieces.f k p t215 t).bind fun t216 => (laws_FnDivisions.j3 k p 0 t214 (decide ((t216.length : Int) > ((badL p w t).length : Int))))))))))) (fun k => ?_) _ (Ev.bind hmv (Ev.bind hwi ?_))
        · simp only [laws_FnDivisions.j2, spreadI, hs, Option.bind_some]
          rw [if_neg (by decide)]
        · simp only [if_pos (show (p.length : Int) = 0 by omega), if_true, Bool.false_eq_true, if_false]
          exact Ev.now _
      · obtain ⟨x, hx⟩ := best_exists (cnt p t) 5000 (by omega)
        have hx' : IsBest (cnt p t) 5000 x := hx
        have hwk : wantOk p t = true := (wantOk_iff p t).2 ⟨hpk, e, by omega⟩
        have hwi := wantI p t x (by omega) (fun _ => hx')
        rw [if_pos hwk] at hwi
        have x1 := hx'.lo
        have x2 := hx'.hi
        have hb2 := badI p x t (by omega)
        have hbok2 : badOk p x t = true := (badOk_iff p x t).2 ⟨hpk, by omega, by omega⟩
        have hbc := badV_cnt p x t hbok2
        have hle : cnt p t x ≤ ((badL p w t).length : Int) := by
          have := hx'.best w (by omega) (by omega)
          unfold before at this
          have e2 : cnt p t w = ((badL p w t).length : Int) := rfl
          omega
        have hms := moves_spread p hpk e
        refine ev_next (f := fun k => ((impl_LeastMoves.f k p).bind fun t214 => ((impl_BestWant.f k p t).bind fun t215 => (if (p.length : Int) = 0 then (if spreadV p = 0 then (if t214 = (-1) then (some (t215 == (-1))) else (some false)) else (some false)) else (if t215 < 1 then (laws_FnDivisions.j3 k p (spreadV p) t214 true) else (if t215 > 5000 then (laws_FnDivisions.j3 k p (spreadV p) t214 true) else ((impl_BadPieces.f k p t215 t).bind fun t216 => (laws_FnDivisions.j3 k p (spreadV p) t214 (decide ((t216.length : Int) > ((badL p w t).length : Int))))))))))) (fun k => ?_) _ (Ev.bind hmv (Ev.bind hwi ?_))
        · simp only [laws_FnDivisions.j2, spreadI, Option.bind_some]
          rw [if_neg (by decide)]
        · simp only [if_neg (show ¬ (p.length : Int) = 0 by omega), if_neg (show ¬ x < 1 by omega), if_neg (show ¬ x > 5000 by omega)]
          refine Ev.bind hb2 ?_
          rw [hbc, decide_eq_false (by omega)]
          exact fin3 _ _ hms.1 hms.2
    have hmul : wrap64 (40 + wrap64 (a2 * 7)) = 40 + a2 * 7 := by rw [w64 (x := a2 * 7) (by omega) (by omega), w64 (by omega) (by omega)]
    have hmod : wrap64 (1 + Int.tmod a3 40) = 1 + a3 % 40 := by rw [tmod_pos b3, w64 (by omega) (by omega)]
    obtain ⟨D, hD⟩ : ∃ D, D = 40 + a2 * 7 := ⟨_, rfl⟩
    obtain ⟨m, hM⟩ : ∃ m, m = 1 + a3 % 40 := ⟨_, rfl⟩
    rw [← hD] at hmul
    rw [← hM] at hmod
    obtain ⟨E, hE, hEl, hEs, hEok, hEne, hEsp, hEmv, hEg, hEm⟩ := pieces_all D m (by omega) (by omega)
    have fin1 : Ev (fun k => laws_FnDivisions.l1 k p (p.length : Int) t (badL p w t) D m E 0 0) true := by
      have h := ev_to (fun k s i => laws_FnDivisions.l1 k p (p.length : Int) t (badL p w t) D m E s i) E.length (fun i s => s = (E.take i).sum) true (fun i s hi hp => by
          refine .inl ⟨(E.take (i + 1)).sum, rfl, fun r hr => ev_next (fun k => ?_) r hr⟩
          have b1 := sum_in (E.take i) 1 5001 (fun x hx => hEm x (List.mem_of_mem_take hx))
          have b2 := hEm _ (List.getElem_mem hi)
          have b3 : ((E.take i).length : Int) ≤ 40 := by rw [List.length_take]; omega
          have es : (E.take (i + 1)).sum = s + E[i] := by rw [List.take_succ_eq_append_getElem hi, List.sum_append, hp]; simp
          rw [es]
          simp only [laws_FnDivisions.l1]
          rw [if_pos (by omega), if_pos (by omega), rd_get _ _ hi, w64 (x := s + E[i]) (by omega) (by omega), w64 (x := (i : Int) + 1) (by omega) (by omega)]
          by_cases c4 : (i : Int) > 0
          · have e1 : (i : Int) - 1 = ((i - 1 : Nat) : Int) := by omega
            have hj : i - 1 < E.length := by omega
            have g1 := hEg i hi
            have g2 := hEg (i - 1) hj
            have hle : E[i] ≤ E[i - 1] := by
              rw [g1, g2]
              unfold pieceV
              split <;> split <;> omega
            rw [if_pos c4, w64 (x := (i : Int) - 1) (by omega) (by omega), if_pos (by omega), if_pos (by omega), e1, rd_get _ _ hj, if_neg (by omega)]
          · rw [if_neg c4]) (fun s hp => by
          rw [List.take_length] at hp
          have hmv := movesI E (by omega)
          rw [hEmv] at hmv
          refine ev_next (f := fun k => ((impl_LeastMoves.f k E).bind fun t212 => (laws_FnDivisions.j2 k p (p.length : Int) t (badL p w t) (t212 != 0)))) (fun k => ?_) _ (Ev.bind hmv fin2)
          simp only [laws_FnDivisions.l1, spreadI, Option.bind_some]
          rw [if_neg (by omega), if_pos hEl, if_pos (by omega), if_neg (by omega), if_neg (by omega)]) 0 0 (Nat.zero_le _) rfl
      exact h
    have h := ev_to (fun k (_ : Unit) i => laws_FnDivisions.l0 k l p (p.length : Int) w t (badL p w t) i) p.length (fun i _ => True) true (fun i _ hi _ => by
        refine .inl ⟨(), trivial, fun r hr => ?_⟩
        have hmem := bad_mem p w t i hi
        have hx := hm _ (List.getElem_mem hi)
        have eg : p.getD i 0 = p[i] := by rw [List.getD_eq_getElem?_getD, List.getElem?_eq_getElem hi]; rfl
        rw [eg] at hmem
        unfold isBad at hmem
        rw [decide_eq_true_eq] at hmem
        have hh := has_f (badL p w t) (i : Int) (by omega)
        refine ev_next (f := fun k => ((laws_has.f k (badL p w t) (i : Int)).bind fun t199 => (if p[i] < w - t then (if (t199 != true) = true then (some false) else (laws_FnDivisions.l0 k l p (p.length : Int) w t (badL p w t) ((i : Int) + 1))) else (if (t199 != (decide (p[i] > w + t))) = true then (some false) else (laws_FnDivisions.l0 k l p (p.length : Int) w t (badL p w t) ((i : Int) + 1)))))) (fun k => ?_) r (Ev.bind hh ?_)
        · simp only [laws_FnDivisions.l0]
          have s1 : (0 : Int) ≤ (i : Int) := by omega
          have s2 : (i : Int) < (p.length : Int) := by omega
          obtain ⟨e1, e2, e3⟩ : wrap64 (w - t) = w - t ∧ wrap64 (w + t) = w + t ∧ wrap64 ((i : Int) + 1) = (i : Int) + 1 := ⟨w64 (by omega) (by omega), w64 (by omega) (by omega), w64 (by omega) (by omega)⟩
          simp only [if_pos s1, if_pos s2, rd_get p i hi, e1, e2, e3]
        · by_cases c4 : p[i] < w - t
          · simp only [if_pos c4]
            rw [decide_eq_true (hmem.2 (.inl c4))]
            simp only [bne_self_eq_false, Bool.false_eq_true, if_false]
            exact hr
          · simp only [if_neg c4]
            have : decide ((i : Int) ∈ badL p w t) = decide (p[i] > w + t) := decide_eq_decide.2 ⟨fun h => (hmem.1 h).elim (fun h => absurd h c4) id, fun h => hmem.2 (.inr h)⟩
            rw [this]
            simp only [bne_self_eq_false, Bool.false_eq_true, if_false]
            exact hr) (fun _ _ => by
        have hpi := piecesI D m
        rw [hE] at hpi
        refine ev_next (f := fun k => ((impl_EqualPieces.f k D m).bind fun t204 => (laws_FnDivisions.l1 k p (p.length : Int) t (badL p w t) D m t204 0 0))) (fun k => ?_) _ (Ev.bind hpi fin1)
        simp only [laws_FnDivisions.l0, ha2, ha3, Option.bind_some, hmul, hmod]
        rw [if_neg (by omega)]) 0 () (Nat.zero_le _) trivial
    exact h
end Go.Proofs.Ytbfgllgjniogiaa.Pure
