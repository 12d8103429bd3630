/- The program's BestWant and the reference's answer alike, for all arguments. No condition. -/
import Derived.Test.YtbfgllgjniogiaaPFnExactBestWantx3
import Derived.Test.YtbfgllgjniogiaaBase
namespace Go.Proofs.Ytbfgllgjniogiaa.Pure
open Go.RowKit Go.Proofs.Ytbfgllgjniogiaa.PFnExactBestWant Go.Proofs.YtbfgllgjniogiaaW.PrintWords Go.Proofs.YtbfgllgjniogiaaW.PrintLast Go.Proofs.YtbfgllgjniogiaaW.PrintMore Go.Proofs.Ytbfgllgjniogiaa.Base
set_option linter.unusedVariables false
set_option linter.unusedSimpArgs false
theorem in_f (a b c : Int) : impl_in.f a b c = some (decide (b ≤ a ∧ a ≤ c)) := by
  unfold impl_in.f
  by_cases h : b ≤ a <;> simp [h]
theorem l01In_f (a b c : Int) : spec_l01In.f a b c = some (decide (b ≤ a ∧ a ≤ c)) := by
  unfold spec_l01In.f
  by_cases h : b ≤ a <;> simp [h]
/-- Two lists are told alike, element by element. -/
theorem eqIntS_f (a b : List Int) (hb : a.length ≤ 1000000000) : Ev (fun k => laws_eqIntS.f k a b) (decide (a = b)) := by
  unfold laws_eqIntS.f
  by_cases c : a.length = b.length
  · simp only [if_pos (show (a.length : Int) = (b.length : Int) by omega)]
    have h := ev_all (fun k i => laws_eqIntS.l0 k a b i) a.length (fun i => decide (rd a (i : Int) = rd b (i : Int))) false true (fun k i hi => by
      simp only [laws_eqIntS.l0]
      rw [if_pos (by omega), if_pos (by omega), if_pos (by omega), w64 (by omega) (by omega)]
      by_cases e : rd a (i : Int) = rd b (i : Int)
      · rw [if_pos e, if_pos (by simpa using e)]
      · rw [if_neg e, if_neg (by simpa using e)]) (fun k => by simp only [laws_eqIntS.l0]; rw [if_neg (by omega)])
    have e : (if (List.range a.length).all (fun i => decide (rd a (i : Int) = rd b (i : Int))) = true then true else false) = decide (a = b) := by
      by_cases e : a = b
      · subst e
        rw [if_pos (by simp)]
        simp
      · rw [if_neg]
        · simp [e]
        · intro hall
          refine e (List.ext_getElem c fun i h1 h2 => ?_)
          have := (List.all_eq_true.1 hall) i (List.mem_range.2 h1)
          rw [decide_eq_true_eq, rd_get _ _ h1, rd_get _ _ h2] at this
          exact this
    rw [e] at h
    exact h
  · simp only [if_neg (show ¬ (a.length : Int) = (b.length : Int) by omega)]
    refine ev_const ?_
    have : a ≠ b := fun e => c (by rw [e])
    simp [this]
theorem toIntS_f (l : List Int) (hb : l.length ≤ 1048576) : Ev (fun k => laws_toIntS.f k l) l := by
  unfold laws_toIntS.f
  simp only [if_pos (show (0 : Int) ≤ (l.length : Int) by omega), Int.toNat_natCast, if_pos (show l.length ≤ 35184372088832 by omega)]
  have h := ev_copy (fun k s i => laws_toIntS.l0 k l s i) l 0 id 0 (fun k s i hi hs => by
    simp (disch := omega) only [laws_toIntS.l0, if_pos, w64]
    simp only [rd, Int.toNat_natCast, id]) (fun k s => by
    simp only [laws_toIntS.l0]
    rw [if_neg (by omega)])
  rwa [List.map_id] at h
theorem eqIntS_same (l : List Int) (hb : l.length ≤ 1000000000) : Ev (fun k => laws_eqIntS.f k l l) true := by
  have h := eqIntS_f l l hb
  rwa [decide_eq_true rfl] at h
/-- All numbers of a list are in a range. -/
def allOk (l : List Int) (a b : Int) : Bool := l.all fun x => decide (a ≤ x ∧ x ≤ b)
theorem allOk_mem {l : List Int} {a b : Int} (h : allOk l a b = true) : ∀ x ∈ l, a ≤ x ∧ x ≤ b := by
  intro x hx
  simpa using (List.all_eq_true.1 h) x hx
theorem allIn_f (l : List Int) (a b : Int) : impl_allIn.f l a b = some (allOk l a b) := rfl
/-- The reference's loop that asks the same. -/
theorem all_loop {R : Type} (F : Nat → Int → Option R) (l : List Int) (a b : Int) (r0 r1 : R)
    (hstep : ∀ (k : Nat) (i : Nat), i < l.length → F (k + 1) (i : Int) = if (decide (a ≤ rd l (i : Int) ∧ rd l (i : Int) ≤ b)) = true then F k ((i : Int) + 1) else some r0)
    (hend : ∀ (k : Nat), F (k + 1) (l.length : Int) = some r1) : Ev (fun k => F k 0) (if allOk l a b = true then r1 else r0) := by
  have h := ev_all F l.length (fun i => decide (a ≤ l.getD i 0 ∧ l.getD i 0 ≤ b)) r0 r1 (fun k i hi => by rw [hstep k i hi, rd_eq]) hend
  have e := all_range l 0 (fun x => decide (a ≤ x ∧ x ≤ b))
  rw [e] at h
  exact h
def piecesOk (l : List Int) : Bool := decide (l.length ≤ 40) && allOk l 1 5000
theorem piecesOkI (l : List Int) : impl_PiecesOk.f l = some (piecesOk l) := by
  unfold impl_PiecesOk.f piecesOk
  rw [allIn_f]
  by_cases c : l.length ≤ 40
  · rw [if_pos (by omega)]
    simp [c]
  · rw [if_neg (by omega)]
    simp [c]
theorem piecesOkS (l : List Int) (hb : l.length ≤ 1048576) : Ev (fun k => spec_PiecesOk.f k l) (piecesOk l) := by
  unfold spec_PiecesOk.f
  have h := all_loop (fun k i => spec_PiecesOk.l0 k l i) l 1 5000 false (decide (l.length ≤ 40)) (fun k i hi => by
    simp (disch := omega) only [spec_PiecesOk.l0, l01In_f, Option.bind_some, if_pos, w64]) (fun k => by
    simp only [spec_PiecesOk.l0]
    rw [if_neg (by omega)]
    congr 1
    exact decide_eq_decide.2 (by omega))
  unfold piecesOk
  cases c : allOk l 1 5000
  · rw [c] at h
    simpa using h
  · rw [c] at h
    simpa using h
theorem piecesOk_mem {l : List Int} (h : piecesOk l = true) : l.length ≤ 40 ∧ ∀ x ∈ l, 1 ≤ x ∧ x ≤ 5000 := by
  unfold piecesOk at h
  simp only [Bool.and_eq_true, decide_eq_true_eq] at h
  exact ⟨h.1, allOk_mem h.2⟩
/-- Farther from w than t. -/
def isBad (w t n : Int) : Bool := decide (n < w - t ∨ w + t < n)
def badL (l : List Int) (w t : Int) : List Int := ((List.range l.length).filter fun i => isBad w t (l.getD i 0)).map fun (i : Nat) => (i : Int)
def badOk (l : List Int) (w t : Int) : Bool := piecesOk l && decide (1 ≤ w ∧ w ≤ 5000) && decide (0 ≤ t ∧ t ≤ 1000)
def badV (l : List Int) (w t : Int) : List Int := if badOk l w t = true then badL l w t else []
theorem badL_len (l : List Int) (w t : Int) : (badL l w t).length ≤ l.length := by
  unfold badL
  rw [List.length_map]
  exact Nat.le_trans (List.length_filter_le _ _) (by simp)
theorem badOk_iff (l : List Int) (w t : Int) : badOk l w t = true ↔ piecesOk l = true ∧ (1 ≤ w ∧ w ≤ 5000) ∧ (0 ≤ t ∧ t ≤ 1000) := by
  unfold badOk
  simp only [Bool.and_eq_true, decide_eq_true_eq, and_assoc]
theorem badV_len (l : List Int) (w t : Int) : (badV l w t).length ≤ 40 := by
  unfold badV
  split
  · rename_i h
    have := badL_len l w t
    have := (piecesOk_mem ((badOk_iff l w t).1 h).1).1
    omega
  · simp
theorem badI (l : List Int) (w t : Int) (hb : l.length ≤ 1048576) : Ev (fun k => impl_BadPieces.f k l w t) (badV l w t) := by
  unfold impl_BadPieces.f badV
  simp only [piecesOkI, in_f, Option.bind_some, decide_eq_true_eq]
  by_cases c1 : piecesOk l = true
  · simp only [if_pos c1]
    obtain ⟨hl, hm⟩ := piecesOk_mem c1
    by_cases c2 : 1 ≤ w ∧ w ≤ 5000
    · simp only [if_pos c2]
      by_cases c3 : 0 ≤ t ∧ t ≤ 1000
      · rw [if_pos ((badOk_iff l w t).2 ⟨c1, c2, c3⟩)]
        refine ev_next (f := fun k => impl_BadPieces.l0 k w t [] l (l.length : Int) 0) (fun k => ?_) _ (ev_filter (fun k s i => impl_BadPieces.l0 k w t s l (l.length : Int) i) l.length (fun i => isBad w t (l.getD i 0)) (fun k s i hi hs => ?_) (fun k s => ?_))
        · simp only [impl_BadPieces.j0]
          rw [if_neg (by simp; omega)]
        · have hx := hm _ (List.getElem_mem hi)
          have e : l.getD i 0 = l[i] := by rw [List.getD_eq_getElem?_getD, List.getElem?_eq_getElem hi]; rfl
          rw [e]
          simp only [impl_BadPieces.l0, mx_eq]
          unfold isBad
          rw [if_pos (by omega), if_pos (by omega), if_pos (by omega), rd_get _ _ hi, w64 (x := l[i] - w) (by omega) (by omega), w64 (x := w - l[i]) (by omega) (by omega), w64 (x := (i : Int) + 1) (by omega) (by omega)]
          by_cases c4 : l[i] < w - t ∨ w + t < l[i]
          · rw [if_pos (by omega), if_pos (by omega), if_pos (by simpa using c4)]
          · rw [if_neg (by omega), if_neg (by simpa using c4)]
        · simp only [impl_BadPieces.l0]
          rw [if_neg (by omega)]
      · rw [if_neg (fun h => c3 ((badOk_iff l w t).1 h).2.2)]
        exact ev_now fun k => by simp only [impl_BadPieces.j0]; rw [if_pos (by simp; omega)]
    · simp only [if_neg c2]
      rw [if_neg (fun h => c2 ((badOk_iff l w t).1 h).2.1)]
      exact ev_now fun k => rfl
  · simp only [if_neg c1]
    rw [if_neg (fun h => c1 ((badOk_iff l w t).1 h).1)]
    exact ev_now fun k => rfl
theorem badS (l : List Int) (w t : Int) (hb : l.length ≤ 1048576) : Ev (fun k => spec_BadPieces.f k l w t) (badV l w t) := by
  unfold spec_BadPieces.f badV
  simp only [Option.bind_some]
  refine Ev.bind (piecesOkS l hb) ?_
  simp only [l01In_f, Option.bind_some, decide_eq_true_eq]
  by_cases c1 : piecesOk l = true
  · simp only [if_pos c1]
    obtain ⟨hl, hm⟩ := piecesOk_mem c1
    by_cases c2 : 1 ≤ w ∧ w ≤ 5000
    · simp only [if_pos c2]
      by_cases c3 : 0 ≤ t ∧ t ≤ 1000
      · rw [if_pos ((badOk_iff l w t).2 ⟨c1, c2, c3⟩)]
        refine ev_next (f := fun k => spec_BadPieces.l0 k l w t [] 0) (fun k => ?_) _ (ev_filter (fun k s i => spec_BadPieces.l0 k l w t s i) l.length (fun i => isBad w t (l.getD i 0)) (fun k s i hi hs => ?_) (fun k s => ?_))
        · simp only [spec_BadPieces.j0]
          rw [if_neg (by simp; omega)]
        · have hx := hm _ (List.getElem_mem hi)
          have e : l.getD i 0 = l[i] := by rw [List.getD_eq_getElem?_getD, List.getElem?_eq_getElem hi]; rfl
          rw [e]
          simp only [spec_BadPieces.l0, l01In_f, Option.bind_some, decide_eq_true_eq]
          unfold isBad
          rw [if_pos (by omega), if_pos (by omega), rd_get _ _ hi, w64 (x := w - t) (by omega) (by omega), w64 (x := w + t) (by omega) (by omega), w64 (x := (i : Int) + 1) (by omega) (by omega)]
          by_cases c4 : l[i] < w - t ∨ w + t < l[i]
          · rw [if_neg (by omega), if_pos (by omega), if_pos (by simpa using c4)]
          · rw [if_pos (by omega), if_neg (by simpa using c4)]
        · simp only [spec_BadPieces.l0]
          rw [if_neg (by omega)]
      · rw [if_neg (fun h => c3 ((badOk_iff l w t).1 h).2.2)]
        exact ev_now fun k => by simp only [spec_BadPieces.j0]; rw [if_pos (by simp; omega)]
    · simp only [if_neg c2]
      rw [if_neg (fun h => c2 ((badOk_iff l w t).1 h).2.1)]
      exact ev_now fun k => rfl
  · simp only [if_neg c1]
    rw [if_neg (fun h => c1 ((badOk_iff l w t).1 h).1)]
    exact ev_now fun k => rfl
/-- How many pieces are bad. -/
def cnt (l : List Int) (t w : Int) : Int := ((badL l w t).length : Int)
theorem badV_cnt (l : List Int) (w t : Int) (h : badOk l w t = true) : ((badV l w t).length : Int) = cnt l t w := by
  unfold badV cnt
  rw [if_pos h]
theorem cnt_le (l : List Int) (t w : Int) : 0 ≤ cnt l t w ∧ cnt l t w ≤ (l.length : Int) := by
  have := badL_len l w t
  unfold cnt
  omega
theorem filter_len_le {α : Type} (l : List α) (p q : α → Bool) (h : ∀ x ∈ l, p x = true → q x = true) : (l.filter p).length ≤ (l.filter q).length := by
  induction l with
  | nil => simp
  | cons x l ih =>
    have ih := ih (fun y hy => h y (List.mem_cons_of_mem _ hy))
    rw [List.filter_cons, List.filter_cons]
    by_cases c : p x = true
    · rw [if_pos c, if_pos (h x List.mem_cons_self c)]
      simpa using ih
    · rw [if_neg c]
      split
      · simp
        omega
      · exact ih
/-- One step down loses no good piece, but where a piece lies just t above. -/
theorem cnt_down (l : List Int) (t w : Int) (h : ∀ x ∈ l, x - t ≠ w) : cnt l t (w - 1) ≤ cnt l t w := by
  unfold cnt badL
  rw [List.length_map, List.length_map]
  have := filter_len_le (List.range l.length) (fun i => isBad (w - 1) t (l.getD i 0)) (fun i => isBad w t (l.getD i 0)) (fun i hi hb => by
    rw [List.mem_range] at hi
    have hx := h _ (List.getElem_mem hi)
    have e : l.getD i 0 = l[i] := by rw [List.getD_eq_getElem?_getD, List.getElem?_eq_getElem hi]; rfl
    rw [e] at hb ⊢
    unfold isBad at hb ⊢
    simp only [decide_eq_true_eq] at hb ⊢
    omega)
  omega
/-- The best want of those up to n: fewest bad pieces, then the least. -/
structure IsBest (G : Int → Int) (n b : Int) : Prop where
  lo : 1 ≤ b
  hi : b ≤ n
  best : ∀ m, 1 ≤ m → m ≤ n → ¬ before G m b
theorem isBest_uniq {G : Int → Int} {n a b : Int} (ha : IsBest G n a) (hb : IsBest G n b) : a = b := before_total G a b (hb.best a ha.lo ha.hi) (ha.best b hb.lo hb.hi)
theorem best_exists (G : Int → Int) (n : Nat) (h : 1 ≤ n) : ∃ b, IsBest G (n : Int) b := by
  induction n with
  | zero => omega
  | succ n ih =>
    by_cases c : n = 0
    · subst c
      exact ⟨1, by omega, by omega, fun m h1 h2 => by have : m = 1 := by omega
                                                      subst this; unfold before; omega⟩
    · obtain ⟨b, hb⟩ := ih (by omega)
      have h1 := hb.lo
      have h2 := hb.hi
      by_cases c2 : G ((n : Int) + 1) < G b
      · refine ⟨(n : Int) + 1, by omega, by omega, fun m m1 m2 => ?_⟩
        by_cases e : m = (n : Int) + 1
        · subst e
          unfold before
          omega
        · have := hb.best m m1 (by omega)
          unfold before at this ⊢
          omega
      · refine ⟨b, by omega, by omega, fun m m1 m2 => ?_⟩
        by_cases e : m = (n : Int) + 1
        · subst e
          unfold before
          omega
        · exact hb.best m m1 (by omega)
theorem best_cand (l : List Int) (t b : Int) (ht : 0 ≤ t ∧ t ≤ 1000) (hl : l ≠ []) (hm : ∀ x ∈ l, 1 ≤ x ∧ x ≤ 5000) (hb : IsBest (cnt l t) 5000 b) : ∃ x ∈ l, b = max 1 (x - t) := by
  by_cases c : ∃ x ∈ l, x - t = b
  · obtain ⟨x, hx, e⟩ := c
    have := hb.lo
    exact ⟨x, hx, by omega⟩
  · by_cases c1 : b = 1
    · -- the least want: some piece's own bound is no more, or a step up would be as good
      by_cases c2 : ∃ x ∈ l, x - t ≤ 1
      · obtain ⟨x, hx, e⟩ := c2
        exact ⟨x, hx, by omega⟩
      · -- every piece is too far above 1: each piece is bad there, and a piece's own bound has fewer
        exfalso
        obtain ⟨x, hx⟩ := List.exists_mem_of_ne_nil l hl
        have hall : ∀ y ∈ l, 1 < y - t := fun y hy => by
          have : ¬ (y - t ≤ 1) := fun h => c2 ⟨y, hy, h⟩
          omega
        have e1 : cnt l t 1 = (l.length : Int) := by
          unfold cnt badL
          rw [List.length_map, List.filter_eq_self.2]
          · simp
          · intro i hi
            rw [List.mem_range] at hi
            have := hall _ (List.getElem_mem hi)
            have e : l.getD i 0 = l[i] := by rw [List.getD_eq_getElem?_getD, List.getElem?_eq_getElem hi]; rfl
            rw [e]
            unfold isBad
            simp only [decide_eq_true_eq]
            omega
        have e2 : cnt l t (x - t) < (l.length : Int) := by
          unfold cnt badL
          rw [List.length_map]
          obtain ⟨j, hj, e⟩ := List.mem_iff_getElem.1 hx
          have hlt : ((List.range l.length).filter fun i => isBad (x - t) t (l.getD i 0)).length < (List.range l.length).length := by
            rcases Nat.lt_or_ge ((List.range l.length).filter fun i => isBad (x - t) t (l.getD i 0)).length (List.range l.length).length with h | h
            · exact h
            · have := List.length_filter_eq_length_iff.1 (Nat.le_antisymm (List.length_filter_le _ _) h) j (List.mem_range.2 hj)
              have e3 : l.getD j 0 = l[j] := by rw [List.getD_eq_getElem?_getD, List.getElem?_eq_getElem hj]; rfl
              rw [e3, e] at this
              unfold isBad at this
              simp only [decide_eq_true_eq] at this
              omega
          rw [List.length_range] at hlt
          omega
        have h3 := hall x hx
        have h4 := hm x hx
        have := hb.best (x - t) (by omega) (by omega)
        rw [c1] at this
        unfold before at this
        omega
    · exfalso
      have h1 := hb.lo
      have := hb.best (b - 1) (by omega) (by have := hb.hi; omega)
      have h2 := cnt_down l t b (fun x hx e => c ⟨x, hx, e⟩)
      unfold before at this
      omega
def wantOk (l : List Int) (t : Int) : Bool := piecesOk l && decide (l.length ≠ 0) && decide (0 ≤ t ∧ t ≤ 1000)
theorem wantOk_iff (l : List Int) (t : Int) : wantOk l t = true ↔ piecesOk l = true ∧ l.length ≠ 0 ∧ (0 ≤ t ∧ t ≤ 1000) := by
  unfold wantOk
  simp only [Bool.and_eq_true, decide_eq_true_eq, and_assoc]
theorem wantI (l : List Int) (t b : Int) (hb : l.length ≤ 1048576) (h : wantOk l t = true → IsBest (cnt l t) 5000 b) : Ev (fun k => impl_BestWant.f k l t) (if wantOk l t = true then b else -1) := by
  unfold impl_BestWant.f
  simp only [piecesOkI, in_f, Option.bind_some, decide_eq_true_eq]
  by_cases c1 : piecesOk l = true
  · simp only [if_pos c1]
    obtain ⟨hl, hm⟩ := piecesOk_mem c1
    by_cases c2 : l.length = 0
    · simp only [if_pos (show (l.length : Int) = 0 by omega)]
      rw [if_neg (fun h => ((wantOk_iff l t).1 h).2.1 c2)]
      exact ev_now fun k => rfl
    · simp only [if_neg (show ¬ (l.length : Int) = 0 by omega)]
      by_cases c3 : 0 ≤ t ∧ t ≤ 1000
      · have hw := (wantOk_iff l t).2 ⟨c1, c2, c3⟩
        rw [if_pos hw]
        have hB := h hw
        refine ev_next (f := fun k => impl_BestWant.l0 k l t 0 ((l.length : Int) + 1) 1) (fun k => ?_) _ ?_
        · simp only [impl_BestWant.j0]
          rw [if_neg (by simp; omega), w64 (by omega) (by omega)]
        · have hh := ev_to (fun k (s : Int × Int) i => impl_BestWant.l0 k l t s.1 s.2 (i + 1)) 5000 (fun i s => (i = 0 ∧ s = (0, (l.length : Int) + 1)) ∨ (1 ≤ i ∧ IsBest (cnt l t) (i : Int) s.1 ∧ s.2 = cnt l t s.1)) b (fun i s hi hs => by
            have hok : badOk l ((i : Int) + 1) t = true := (badOk_iff _ _ _).2 ⟨c1, by omega, c3⟩
            have hc := badV_cnt l ((i : Int) + 1) t hok
            have hcl := cnt_le l t ((i : Int) + 1)
            have hstep : ∀ r, Ev (fun k => if ((badV l ((i : Int) + 1) t).length : Int) < s.2 then impl_BestWant.l0 k l t ((i : Int) + 1) ((badV l ((i : Int) + 1) t).length : Int) ((i : Int) + 1 + 1) else impl_BestWant.l0 k l t s.1 s.2 ((i : Int) + 1 + 1)) r → Ev (fun k => impl_BestWant.l0 k l t s.1 s.2 ((i : Int) + 1)) r := by
              intro r hr
              refine ev_next (f := fun k => (impl_BadPieces.f k l ((i : Int) + 1) t).bind fun t140 => (if (t140.length : Int) < s.2 then (impl_BestWant.l0 k l t ((i : Int) + 1) (t140.length : Int) ((i : Int) + 1 + 1)) else (impl_BestWant.l0 k l t s.1 s.2 ((i : Int) + 1 + 1)))) (fun k => ?_) r (Ev.bind (badI l ((i : Int) + 1) t hb) hr)
              simp only [impl_BestWant.l0]
              rw [if_pos (by omega), w64 (by omega) (by omega)]
            rw [hc] at hstep
            rcases hs with ⟨h0, rfl⟩ | ⟨h1, hbest, h2⟩
            · refine .inl ⟨((i : Int) + 1, cnt l t ((i : Int) + 1)), .inr ⟨by omega, ⟨by omega, by omega, fun m m1 m2 => ?_⟩, rfl⟩, fun r hr => hstep r ?_⟩
              · have : m = (i : Int) + 1 := by omega
                subst this
                unfold before
                simp only
                omega
              · simp only [if_pos (show cnt l t ((i : Int) + 1) < (l.length : Int) + 1 by omega)]
                exact hr
            · obtain ⟨b1, f1⟩ := s
              simp only at h2 hbest hstep
              subst h2
              have g1 := hbest.lo
              have g2 := hbest.hi
              by_cases c4 : cnt l t ((i : Int) + 1) < cnt l t b1
              · refine .inl ⟨((i : Int) + 1, cnt l t ((i : Int) + 1)), .inr ⟨by omega, ⟨by simp only; omega, by simp only; omega, fun m m1 m2 => ?_⟩, rfl⟩, fun r hr => hstep r ?_⟩
                · simp only
                  by_cases e : m = (i : Int) + 1
                  · subst e
                    unfold before
                    omega
                  · have := hbest.best m m1 (by omega)
                    unfold before at this ⊢
                    omega
                · simp only [if_pos c4]
                  exact hr
              · refine .inl ⟨(b1, cnt l t b1), .inr ⟨by omega, ⟨by simp only; omega, by simp only; omega, fun m m1 m2 => ?_⟩, rfl⟩, fun r hr => hstep r ?_⟩
                · simp only
                  by_cases e : m = (i : Int) + 1
                  · subst e
                    unfold before
                    omega
                  · exact hbest.best m m1 (by omega)
                · simp only [if_neg c4]
                  exact hr) (fun s hs => by
            rcases hs with ⟨h0, _⟩ | ⟨_, hbest, _⟩
            · omega
            · refine ev_now fun k => ?_
              simp only [impl_BestWant.l0]
              rw [if_neg (by omega), isBest_uniq hbest hB]) 0 (0, (l.length : Int) + 1) (Nat.zero_le _) (.inl ⟨rfl, rfl⟩)
          exact hh
      · rw [if_neg (fun h => c3 ((wantOk_iff l t).1 h).2.2)]
        exact ev_now fun k => by simp only [impl_BestWant.j0]; rw [if_pos (by simp; omega)]
  · simp only [if_neg c1]
    rw [if_neg (fun h => c1 ((wantOk_iff l t).1 h).1)]
    exact ev_now fun k => rfl
theorem wantS (l : List Int) (t b : Int) (hb : l.length ≤ 1048576) (h : wantOk l t = true → IsBest (cnt l t) 5000 b) : Ev (fun k => spec_BestWant.f k l t) (if wantOk l t = true then b else -1) := by
  unfold spec_BestWant.f
  refine Ev.bind (piecesOkS l hb) ?_
  simp only [l01In_f, Option.bind_some, decide_eq_true_eq]
  by_cases c1 : piecesOk l = true
  · simp only [if_pos c1]
    obtain ⟨hl, hm⟩ := piecesOk_mem c1
    by_cases c2 : l.length = 0
    · simp only [if_pos (show (l.length : Int) = 0 by omega)]
      rw [if_neg (fun h => ((wantOk_iff l t).1 h).2.1 c2)]
      exact ev_now fun k => rfl
    · simp only [if_neg (show ¬ (l.length : Int) = 0 by omega)]
      by_cases c3 : 0 ≤ t ∧ t ≤ 1000
      · have hw := (wantOk_iff l t).2 ⟨c1, c2, c3⟩
        rw [if_pos hw]
        have hB := h hw
        obtain ⟨x0, hx0, e0⟩ := best_cand l t b c3 (fun e => c2 (by rw [e]; rfl)) hm hB
        refine ev_next (f := fun k => spec_BestWant.l0 k l t (-1) 0 0) (fun k => ?_) _ ?_
        · simp only [spec_BestWant.j0]
          rw [if_neg (by simp; omega)]
        · have hh := ev_to (fun k (s : Int × Int) i => spec_BestWant.l0 k l t s.1 s.2 i) l.length (fun i s => (i = 0 ∧ s = (-1, 0)) ∨ (1 ≤ i ∧ (1 ≤ s.1 ∧ s.1 ≤ 5000) ∧ s.2 = cnt l t s.1 ∧ ∀ x ∈ l.take i, ¬ before (cnt l t) (max 1 (x - t)) s.1)) b (fun i s hi hs => by
            have hx := hm _ (List.getElem_mem hi)
            have hok : badOk l (max 1 (l[i] - t)) t = true := (badOk_iff _ _ _).2 ⟨c1, by omega, c3⟩
            have hc := badV_cnt l (max 1 (l[i] - t)) t hok
            have hcl := cnt_le l t (max 1 (l[i] - t))
            obtain ⟨b1, f1⟩ := s
            have hstep : ∀ r, Ev (fun k => if b1 < 0 then spec_BestWant.l0 k l t (max 1 (l[i] - t)) (cnt l t (max 1 (l[i] - t))) ((i : Int) + 1) else if cnt l t (max 1 (l[i] - t)) < f1 then spec_BestWant.l0 k l t (max 1 (l[i] - t)) (cnt l t (max 1 (l[i] - t))) ((i : Int) + 1) else if cnt l t (max 1 (l[i] - t)) = f1 then if max 1 (l[i] - t) < b1 then spec_BestWant.l0 k l t (max 1 (l[i] - t)) (cnt l t (max 1 (l[i] - t))) ((i : Int) + 1) else spec_BestWant.l0 k l t b1 f1 ((i : Int) + 1) else spec_BestWant.l0 k l t b1 f1 ((i : Int) + 1)) r → Ev (fun k => spec_BestWant.l0 k l t b1 f1 (i : Int)) r := by
              intro r hr
              rw [← hc] at hr
              refine ev_next (f := fun k => (spec_BadPieces.f k l (max 1 (l[i] - t)) t).bind fun t124 => (if b1 < 0 then spec_BestWant.l0 k l t (max 1 (l[i] - t)) (t124.length : Int) ((i : Int) + 1) else if (t124.length : Int) < f1 then spec_BestWant.l0 k l t (max 1 (l[i] - t)) (t124.length : Int) ((i : Int) + 1) else if (t124.length : Int) = f1 then if max 1 (l[i] - t) < b1 then spec_BestWant.l0 k l t (max 1 (l[i] - t)) (t124.length : Int) ((i : Int) + 1) else spec_BestWant.l0 k l t b1 f1 ((i : Int) + 1) else spec_BestWant.l0 k l t b1 f1 ((i : Int) + 1))) (fun k => ?_) r (Ev.bind (badS l (max 1 (l[i] - t)) t hb) hr)
              simp only [spec_BestWant.l0]
              rw [if_pos (by omega), if_pos (by omega), rd_get _ _ hi, w64 (x := l[i] - t) (by omega) (by omega), w64 (x := (i : Int) + 1) (by omega) (by omega), mx_eq]
            rcases hs with ⟨h0, e⟩ | ⟨h1, hr1, h2, h3⟩
            · obtain ⟨rfl, rfl⟩ := Prod.mk.inj e
              subst h0
              refine .inl ⟨(max 1 (l[0] - t), cnt l t (max 1 (l[0] - t))), .inr ⟨by omega, by simp only; omega, rfl, fun x hx => ?_⟩, fun r hr => hstep r ?_⟩
              · rw [List.take_succ_eq_append_getElem hi] at hx
                simp only [List.take_zero, List.nil_append, List.mem_singleton] at hx
                subst hx
                unfold before
                simp only
                omega
              · simp only [if_pos (show (-1 : Int) < 0 by omega)]
                exact hr
            · simp only at h2 h3 hr1
              subst h2
              have hn : ¬ b1 < 0 := by omega
              by_cases c4 : before (cnt l t) (max 1 (l[i] - t)) b1
              · refine .inl ⟨(max 1 (l[i] - t), cnt l t (max 1 (l[i] - t))), .inr ⟨by omega, by simp only; omega, rfl, fun x hx => ?_⟩, fun r hr => hstep r ?_⟩
                · rw [List.take_succ_eq_append_getElem hi] at hx
                  rcases List.mem_append.1 hx with hx | hx
                  · have := h3 x hx
                    unfold before at this c4 ⊢
                    simp only
                    omega
                  · rw [List.mem_singleton.1 hx]
                    unfold before
                    simp only
                    omega
                · unfold before at c4
                  simp only [if_neg hn]
                  by_cases d1 : cnt l t (max 1 (l[i] - t)) < cnt l t b1
                  · simp only [if_pos d1]
                    exact hr
                  · simp only [if_neg d1, if_pos (show cnt l t (max 1 (l[i] - t)) = cnt l t b1 by omega), if_pos (show max 1 (l[i] - t) < b1 by omega)]
                    exact hr
              · refine .inl ⟨(b1, cnt l t b1), .inr ⟨by omega, hr1, rfl, fun x hx => ?_⟩, fun r hr => hstep r ?_⟩
                · rw [List.take_succ_eq_append_getElem hi] at hx
                  rcases List.mem_append.1 hx with hx | hx
                  · exact h3 x hx
                  · rw [List.mem_singleton.1 hx]
                    exact c4
                · unfold before at c4
                  simp only [if_neg hn, if_neg (show ¬ cnt l t (max 1 (l[i] - t)) < cnt l t b1 by omega)]
                  by_cases d1 : cnt l t (max 1 (l[i] - t)) = cnt l t b1
                  · simp only [if_pos d1, if_neg (show ¬ max 1 (l[i] - t) < b1 by omega)]
                    exact hr
                  · simp only [if_neg d1]
                    exact hr) (fun s hs => by
            rcases hs with ⟨h0, _⟩ | ⟨_, hr1, _, h3⟩
            · omega
            · refine ev_now fun k => ?_
              simp only [spec_BestWant.l0]
              rw [if_neg (by omega)]
              rw [List.take_length] at h3
              congr 1
              have h4 := h3 x0 hx0
              rw [← e0] at h4
              exact before_total (cnt l t) s.1 b (hB.best _ hr1.1 hr1.2) h4) 0 (-1, 0) (Nat.zero_le _) (.inl ⟨rfl, rfl⟩)
          exact hh
      · rw [if_neg (fun h => c3 ((wantOk_iff l t).1 h).2.2)]
        exact ev_now fun k => by simp only [spec_BestWant.j0]; rw [if_pos (by simp; omega)]
  · simp only [if_neg c1]
    rw [if_neg (fun h => c1 ((wantOk_iff l t).1 h).1)]
    exact ev_now fun k => rfl
theorem FnExactBestWant : laws_FnExactBestWant.Pure := by
  intro l t _ _ _ _
  refine Ev.rounds ?_
  unfold laws_FnExactBestWant.f
  by_cases c : (l.length : Int) > 1048576
  · simp only [if_pos c]
    exact Ev.now _
  · simp only [if_neg c]
    have ht := toIntS_f l (by omega)
    obtain ⟨b, hb⟩ := best_exists (cnt l t) 5000 (by omega)
    refine Ev.bind ht (Ev.bind (wantS l t b (by omega) (fun _ => hb)) (Ev.bind ht (Ev.bind (wantI l t b (by omega) (fun _ => hb)) ?_)))
    simp only [if_true]
    refine Ev.bind ht (Ev.bind (eqIntS_same l (by omega)) ?_)
    simp only [if_true]
    exact Ev.now _
end Go.Proofs.Ytbfgllgjniogiaa.Pure
