/- The program's LeastMoves and the reference's answer alike, for all arguments. No condition. -/
import Derived.Test.YtbfgllgjniogiaaPFnExactLeastMovesx3
import Derived.Test.YtbfgllgjniogiaaBase
namespace Go.Proofs.Ytbfgllgjniogiaa.Pure
open Go.RowKit Go.Proofs.Ytbfgllgjniogiaa.PFnExactLeastMoves Go.Proofs.YtbfgllgjniogiaaW.PrintWords Go.Proofs.YtbfgllgjniogiaaW.PrintLast Go.Proofs.YtbfgllgjniogiaaW.PrintMore Go.Proofs.Ytbfgllgjniogiaa.Base
set_option linter.unusedVariables false
set_option linter.unusedSimpArgs false
theorem in_f (a b c : Int) : impl_in.f a b c = some (decide (b ≤ a ∧ a ≤ c)) := by
  unfold impl_in.f
  by_cases h : b ≤ a <;> simp [h]
theorem l01In_f (a b c : Int) : spec_l01In.f a b c = some (decide (b ≤ a ∧ a ≤ c)) := by
  unfold spec_l01In.f
  by_cases h : b ≤ a <;> simp [h]
/-- Two lists are told alike, element by element. -/
theorem eqIntS_f (a b : List Int) (hb : a.length ≤ 1000000000) : Ev (fun k => laws_eqIntS.f k a b) (decide (a = b)) := by
  unfold laws_eqIntS.f
  by_cases c : a.length = b.length
  · simp only [if_pos (show (a.length : Int) = (b.length : Int) by omega)]
    have h := ev_all (fun k i => laws_eqIntS.l0 k a b i) a.length (fun i => decide (rd a (i : Int) = rd b (i : Int))) false true (fun k i hi => by
      simp only [laws_eqIntS.l0]
      rw [if_pos (by omega), if_pos (by omega), if_pos (by omega), w64 (by omega) (by omega)]
      by_cases e : rd a (i : Int) = rd b (i : Int)
      · rw [if_pos e, if_pos (by simpa using e)]
      · rw [if_neg e, if_neg (by simpa using e)]) (fun k => by simp only [laws_eqIntS.l0]; rw [if_neg (by omega)])
    have e : (if (List.range a.length).all (fun i => decide (rd a (i : Int) = rd b (i : Int))) = true then true else false) = decide (a = b) := by
      by_cases e : a = b
      · subst e
        rw [if_pos (by simp)]
        simp
      · rw [if_neg]
        · simp [e]
        · intro hall
          refine e (List.ext_getElem c fun i h1 h2 => ?_)
          have := (List.all_eq_true.1 hall) i (List.mem_range.2 h1)
          rw [decide_eq_true_eq, rd_get _ _ h1, rd_get _ _ h2] at this
          exact this
    rw [e] at h
    exact h
  · simp only [if_neg (show ¬ (a.length : Int) = (b.length : Int) by omega)]
    refine ev_const ?_
    have : a ≠ b := fun e => c (by rw [e])
    simp [this]
theorem toIntS_f (l : List Int) (hb : l.length ≤ 1048576) : Ev (fun k => laws_toIntS.f k l) l := by
  unfold laws_toIntS.f
  simp only [if_pos (show (0 : Int) ≤ (l.length : Int) by omega), Int.toNat_natCast, if_pos (show l.length ≤ 35184372088832 by omega)]
  have h := ev_copy (fun k s i => laws_toIntS.l0 k l s i) l 0 id 0 (fun k s i hi hs => by
    simp (disch := omega) only [laws_toIntS.l0, if_pos, w64]
    simp only [rd, Int.toNat_natCast, id]) (fun k s => by
    simp only [laws_toIntS.l0]
    rw [if_neg (by omega)])
  rwa [List.map_id] at h
theorem eqIntS_same (l : List Int) (hb : l.length ≤ 1000000000) : Ev (fun k => laws_eqIntS.f k l l) true := by
  have h := eqIntS_f l l hb
  rwa [decide_eq_true rfl] at h
/-- All numbers of a list are in a range. -/
def allOk (l : List Int) (a b : Int) : Bool := l.all fun x => decide (a ≤ x ∧ x ≤ b)
theorem allOk_mem {l : List Int} {a b : Int} (h : allOk l a b = true) : ∀ x ∈ l, a ≤ x ∧ x ≤ b := by
  intro x hx
  simpa using (List.all_eq_true.1 h) x hx
theorem allIn_f (l : List Int) (a b : Int) : impl_allIn.f l a b = some (allOk l a b) := rfl
/-- The reference's loop that asks the same. -/
theorem all_loop {R : Type} (F : Nat → Int → Option R) (l : List Int) (a b : Int) (r0 r1 : R)
    (hstep : ∀ (k : Nat) (i : Nat), i < l.length → F (k + 1) (i : Int) = if (decide (a ≤ rd l (i : Int) ∧ rd l (i : Int) ≤ b)) = true then F k ((i : Int) + 1) else some r0)
    (hend : ∀ (k : Nat), F (k + 1) (l.length : Int) = some r1) : Ev (fun k => F k 0) (if allOk l a b = true then r1 else r0) := by
  have h := ev_all F l.length (fun i => decide (a ≤ l.getD i 0 ∧ l.getD i 0 ≤ b)) r0 r1 (fun k i hi => by rw [hstep k i hi, rd_eq]) hend
  have e := all_range l 0 (fun x => decide (a ≤ x ∧ x ≤ b))
  rw [e] at h
  exact h
def piecesOk (l : List Int) : Bool := decide (l.length ≤ 40) && allOk l 1 5000
theorem piecesOkI (l : List Int) : impl_PiecesOk.f l = some (piecesOk l) := by
  unfold impl_PiecesOk.f piecesOk
  rw [allIn_f]
  by_cases c : l.length ≤ 40
  · rw [if_pos (by omega)]
    simp [c]
  · rw [if_neg (by omega)]
    simp [c]
theorem piecesOkS (l : List Int) (hb : l.length ≤ 1048576) : Ev (fun k => spec_PiecesOk.f k l) (piecesOk l) := by
  unfold spec_PiecesOk.f
  have h := all_loop (fun k i => spec_PiecesOk.l0 k l i) l 1 5000 false (decide (l.length ≤ 40)) (fun k i hi => by
    simp (disch := omega) only [spec_PiecesOk.l0, l01In_f, Option.bind_some, if_pos, w64]) (fun k => by
    simp only [spec_PiecesOk.l0]
    rw [if_neg (by omega)]
    congr 1
    exact decide_eq_decide.2 (by omega))
  unfold piecesOk
  cases c : allOk l 1 5000
  · rw [c] at h
    simpa using h
  · rw [c] at h
    simpa using h
def pieceV (d n : Int) (i : Nat) : Int := if (i : Int) < d % n then d / n + 1 else d / n
def piecesV (d n : Int) : List Int := if (1 ≤ n ∧ n ≤ 40) ∧ (n ≤ d ∧ d ≤ 200000) then (List.range n.toNat).map (pieceV d n) else []
theorem piecesV_len (d n : Int) : (piecesV d n).length ≤ 40 := by
  unfold piecesV
  split
  · simp
    omega
  · simp
theorem piece_bd (d n : Int) (h1 : 1 ≤ n) (h0 : 0 ≤ d) (hd : d ≤ 200000) : 0 ≤ d / n ∧ d / n ≤ 200000 :=
  ⟨Int.ediv_nonneg h0 (by omega), by have := Int.ediv_le_self n h0; omega⟩
theorem piecesI (d n : Int) : Ev (fun k => impl_EqualPieces.f k d n) (piecesV d n) := by
  unfold impl_EqualPieces.f piecesV
  simp only [in_f, Option.bind_some, decide_eq_true_eq]
  by_cases c1 : 1 ≤ n ∧ n ≤ 40
  · simp only [if_pos c1]
    by_cases c2 : n ≤ d ∧ d ≤ 200000
    · rw [if_pos ⟨c1, c2⟩]
      refine ev_next (f := fun k => impl_EqualPieces.l0 k d n [] n 0) (fun k => ?_) _ ?_
      · simp only [impl_EqualPieces.j0]
        rw [if_neg (by simp; omega)]
      · refine ev_build (fun k s i => impl_EqualPieces.l0 k d n s n i) n.toNat (pieceV d n) (fun k s i hi hs => ?_) (fun k s => ?_)
        · have hq := piece_bd d n c1.1 (by omega) c2.2
          simp (disch := omega) only [impl_EqualPieces.l0, tmod_pos, tdiv_pos, w64, if_pos, if_neg]
          unfold pieceV
          by_cases c : (i : Int) < d % n
          · rw [if_pos c, if_pos c]
          · rw [if_neg c, if_neg c]
        · simp only [impl_EqualPieces.l0]
          rw [if_neg (by omega)]
    · rw [if_neg (fun h => c2 h.2)]
      exact ev_now fun k => by simp only [impl_EqualPieces.j0]; rw [if_pos (by simp; omega)]
  · simp only [if_neg c1]
    rw [if_neg (fun h => c1 h.1)]
    exact ev_now fun k => rfl
/-- The sum as the machine makes it. -/
def sumW (l : List Int) : Int := l.foldl (fun s x => wrap64 (s + x)) 0
theorem sumW_range (l : List Int) : (List.range l.length).foldl (fun s i => wrap64 (s + rd l ((i : Nat) : Int))) 0 = sumW l := by
  have h := fold_range l 0 (fun s x => wrap64 (s + x)) 0
  unfold sumW
  rw [← h]
  simp only [rd_eq]
theorem sumS (l : List Int) (hb : l.length ≤ 1048576) : Ev (fun k => spec_l02Sum.f k l) (sumW l) := by
  unfold spec_l02Sum.f
  have h := ev_fold (fun k s i => spec_l02Sum.l0 k l s i) l.length (fun s i => wrap64 (s + rd l ((i : Nat) : Int))) id (fun k s i hi => by
    simp only [spec_l02Sum.l0]
    rw [if_pos (by omega), if_pos (by omega), w64 (x := (i : Int) + 1) (by omega) (by omega)]) (fun k s => by simp only [spec_l02Sum.l0]; rw [if_neg (by omega)]; rfl) 0
  rw [id, sumW_range] at h
  exact h
theorem sumI (l : List Int) (hb : l.length ≤ 1048576) : Ev (fun k => impl_sum.f k l) (sumW l) := by
  unfold impl_sum.f
  have h := ev_fold (fun k s i => impl_sum.l0 k s l (l.length : Int) i) l.length (fun s i => wrap64 (s + rd l ((i : Nat) : Int))) id (fun k s i hi => by
    simp only [impl_sum.l0]
    rw [if_pos (by omega), if_pos (by omega), if_pos (by omega), w64 (x := (i : Int) + 1) (by omega) (by omega)]) (fun k s => by simp only [impl_sum.l0]; rw [if_neg (by omega)]; rfl) 0
  rw [id, sumW_range] at h
  exact h
theorem sum_in (l : List Int) (a b : Int) (h : ∀ x ∈ l, a ≤ x ∧ x ≤ b) : a * (l.length : Int) ≤ l.sum ∧ l.sum ≤ b * (l.length : Int) := by
  have := sumBy_bd id l a b h
  unfold sumBy at this
  rwa [List.map_id] at this
theorem sumW_exact (l : List Int) (hm : ∀ x ∈ l, 0 ≤ x ∧ x ≤ 5000) (hl : l.length ≤ 1000) : sumW l = l.sum := by
  obtain ⟨n, hn⟩ : ∃ n, l.length = n := ⟨_, rfl⟩
  induction n generalizing l with
  | zero =>
    obtain rfl := List.eq_nil_of_length_eq_zero hn
    rfl
  | succ n ih =>
    obtain ⟨l', x, rfl⟩ : ∃ l' x, l = l' ++ [x] := ⟨l.dropLast, l.getLast (by intro h; rw [h] at hn; simp at hn), (List.dropLast_concat_getLast _).symm⟩
    have hn' : l'.length = n := by simp at hn; omega
    have h1 := ih l' (fun y hy => hm y (List.mem_append_left _ hy)) (by simp at hl; omega) hn'
    have h2 := sum_in l' 0 5000 (fun y hy => hm y (List.mem_append_left _ hy))
    have h3 := hm x (by simp)
    have e : sumW (l' ++ [x]) = wrap64 (sumW l' + x) := by
      unfold sumW
      rw [List.foldl_append]
      rfl
    rw [e, h1, List.sum_append, List.sum_cons, List.sum_nil, Int.add_zero, w64 (by omega) (by omega)]
def gtOf (low x : Int) : Int := max (x - low) 0
def cntOf (low x : Int) : Int := if x > low then 1 else 0
def unOf (low x : Int) : Int := max (low - x) 0
theorem sumBy_perm {α : Type} (f : α → Int) {l m : List α} (h : l.Perm m) : sumBy f l = sumBy f m := by
  induction h with
  | nil => rfl
  | cons x _ ih => rw [sumBy_cons, sumBy_cons, ih]
  | swap x y l => rw [sumBy_cons, sumBy_cons, sumBy_cons, sumBy_cons]; omega
  | trans _ _ h1 h2 => rw [h1, h2]
theorem cnt_pos (low : Int) (l : List Int) : 0 ≤ sumBy (cntOf low) l := by
  have := sumBy_bd (cntOf low) l 0 1 (fun x _ => by unfold cntOf; split <;> omega)
  omega
theorem gt_un (low : Int) (l : List Int) : sumBy (gtOf low) l - sumBy (unOf low) l = l.sum - low * (l.length : Int) := by
  induction l with
  | nil => simp [sumBy_nil]
  | cons x l ih =>
    have e : low * ((l.length + 1 : Nat) : Int) = low * (l.length : Int) + low := by rw [Int.natCast_add, Int.mul_add]; simp
    rw [sumBy_cons, sumBy_cons, List.sum_cons, List.length_cons, e]
    have : gtOf low x - unOf low x = x - low := by unfold gtOf unOf; omega
    omega
theorem low_none (low : Int) (l : List Int) (h : ∀ x ∈ l, x ≤ low) : sumBy (gtOf low) l = 0 ∧ sumBy (cntOf low) l = 0 := by
  induction l with
  | nil => exact ⟨rfl, rfl⟩
  | cons x l ih =>
    have hx := h x List.mem_cons_self
    obtain ⟨h1, h2⟩ := ih (fun y hy => h y (List.mem_cons_of_mem _ hy))
    rw [sumBy_cons, sumBy_cons, h1, h2]
    unfold gtOf cntOf
    rw [if_neg (by omega)]
    omega
/-- What a list that falls has above its equal pieces. -/
theorem moves_down (low : Int) (o : List Int) (hd : o.Pairwise (fun x y => y ≤ x)) (R : Int) :
    ((List.range o.length).map fun (i : Nat) => max (o.getD i 0 - (if (i : Int) < R then low + 1 else low)) 0).sum = sumBy (gtOf low) o - max 0 (min R (sumBy (cntOf low) o)) := by
  induction o generalizing R with
  | nil => simp [sumBy_nil]; omega
  | cons p t ih =>
    rw [List.pairwise_cons] at hd
    have h := ih hd.2 (R - 1)
    have hc := cnt_pos low t
    rw [List.length_cons, List.range_succ_eq_map, List.map_cons, List.sum_cons, List.map_map]
    have e : ((List.range t.length).map ((fun (i : Nat) => max ((p :: t).getD i 0 - (if (i : Int) < R then low + 1 else low)) 0) ∘ Nat.succ)) = (List.range t.length).map fun (i : Nat) => max (t.getD i 0 - (if (i : Int) < R - 1 then low + 1 else low)) 0 := by
      apply List.map_congr_left
      intro i _
      show max ((p :: t).getD (i + 1) 0 - (if ((i + 1 : Nat) : Int) < R then low + 1 else low)) 0 = _
      rw [List.getD_cons_succ]
      by_cases c : (i : Int) < R - 1
      · rw [if_pos c, if_pos (by omega)]
      · rw [if_neg c, if_neg (by omega)]
    rw [e, h, List.getD_cons_zero, sumBy_cons, sumBy_cons]
    by_cases c : p > low
    · have e1 : gtOf low p = p - low := by unfold gtOf; omega
      have e2 : cntOf low p = 1 := by unfold cntOf; rw [if_pos c]
      rw [e1, e2]
      by_cases c2 : ((0 : Nat) : Int) < R
      · rw [if_pos c2]
        omega
      · rw [if_neg c2]
        omega
    · obtain ⟨z1, z2⟩ := low_none low t (fun x hx => by have := hd.1 x hx; omega)
      have e1 : gtOf low p = 0 := by unfold gtOf; omega
      have e2 : cntOf low p = 0 := by unfold cntOf; rw [if_neg c]
      rw [e1, e2, z1, z2]
      by_cases c2 : ((0 : Nat) : Int) < R
      · rw [if_pos c2]
        omega
      · rw [if_neg c2]
        omega
def movesV (l : List Int) : Int := if piecesOk l = true ∧ l.length ≠ 0 then sumBy (gtOf (l.sum / (l.length : Int))) l - min (l.sum % (l.length : Int)) (sumBy (cntOf (l.sum / (l.length : Int))) l) else -1
theorem pieces_mem {l : List Int} (h : piecesOk l = true) : l.length ≤ 40 ∧ ∀ x ∈ l, 1 ≤ x ∧ x ≤ 5000 := by
  unfold piecesOk at h
  rw [Bool.and_eq_true, decide_eq_true_eq] at h
  exact ⟨h.1, allOk_mem h.2⟩
theorem reverse_f (l : List Int) (hb : l.length ≤ 1000000) : Ev (fun k => slices_Reverse_int_int.f k l) l.reverse := by
  unfold slices_Reverse_int_int.f
  rw [w64 (by omega) (by omega)]
  have h := ev_to (fun k (s : List Int) i => slices_Reverse_int_int.l0 k s i ((l.length : Int) - 1 - i)) (l.length / 2) (fun i s => s.length = l.length ∧ ∀ m : Nat, m < l.length → s.getD m 0 = if m < i ∨ l.length - i ≤ m then l.getD (l.length - 1 - m) 0 else l.getD m 0) l.reverse (fun i s hi hp => by
      obtain ⟨p1, p2⟩ := hp
      have e1 : (l.length : Int) - 1 - (i : Int) = ((l.length - 1 - i : Nat) : Int) := by omega
      have q1 := p2 i (by omega)
      have q2 := p2 (l.length - 1 - i) (by omega)
      rw [if_neg (by omega)] at q1
      rw [if_neg (by omega)] at q2
      refine .inl ⟨(s.set i (l.getD (l.length - 1 - i) 0)).set (l.length - 1 - i) (l.getD i 0), ⟨by simp [p1], fun m hm => ?_⟩, fun r hr => ev_next (fun k => ?_) r hr⟩
      · have q := p2 m hm
        simp only [List.getD_eq_getElem?_getD, List.getElem?_set, List.length_set] at q q1 q2 ⊢
        by_cases c1 : l.length - 1 - i = m
        · subst c1
          rw [if_pos rfl, if_pos (by omega), if_pos (by omega), show l.length - 1 - (l.length - 1 - i) = i by omega]
          rfl
        · rw [if_neg c1]
          by_cases c2 : i = m
          · subst c2
            rw [if_pos rfl, if_pos (by omega), if_pos (by omega)]
            rfl
          · rw [if_neg c2, q]
            by_cases c3 : m < i ∨ l.length - i ≤ m
            · rw [if_pos c3, if_pos (by omega)]
            · rw [if_neg c3, if_neg (by omega)]
      · simp only [slices_Reverse_int_int.l0]
        rw [e1, if_pos (by omega), if_pos (by omega), if_pos (by omega), if_pos (by omega), if_pos (by omega), rd_eq, rd_eq, q1, q2, Int.toNat_natCast, Int.toNat_natCast, w64 (x := (i : Int) + 1) (by omega) (by omega), w64 (x := ((l.length - 1 - i : Nat) : Int) - 1) (by omega) (by omega)]
        congr 1
        omega) (fun s hp => by
      obtain ⟨p1, p2⟩ := hp
      refine ev_now fun k => ?_
      simp only [slices_Reverse_int_int.l0]
      rw [if_neg (by omega)]
      congr 1
      apply List.ext_getElem (by rw [List.length_reverse]; exact p1)
      intro m h1 h2
      have q := p2 m (by omega)
      rw [List.getD_eq_getElem?_getD, List.getElem?_eq_getElem h1] at q
      have e : l.getD (l.length - 1 - m) 0 = l.reverse[m] := by
        rw [List.getElem_reverse, List.getD_eq_getElem?_getD, List.getElem?_eq_getElem (by omega)]
        rfl
      have q' : s[m] = if m < l.length / 2 ∨ l.length - l.length / 2 ≤ m then l.getD (l.length - 1 - m) 0 else l.getD m 0 := q
      rw [q']
      by_cases c : m < l.length / 2 ∨ l.length - l.length / 2 ≤ m
      · rw [if_pos c, e]
      · rw [if_neg c, ← e, show l.length - 1 - m = m by omega]) 0 l (Nat.zero_le _) ⟨rfl, fun m hm => by rw [if_neg (by omega)]⟩
  have e0 : (l.length : Int) - 1 - ((0 : Nat) : Int) = (l.length : Int) - 1 := by omega
  rw [Int.natCast_zero] at h
  rw [Int.natCast_zero] at e0
  rw [e0] at h
  exact h
theorem movesI (l : List Int) (hb : l.length ≤ 1048576) : Ev (fun k => impl_LeastMoves.f k l) (movesV l) := by
  unfold impl_LeastMoves.f movesV
  simp only [piecesOkI, Option.bind_some]
  by_cases c1 : piecesOk l = true
  · obtain ⟨hl, hm⟩ := pieces_mem c1
    simp only [if_pos c1]
    by_cases c2 : l.length = 0
    · rw [if_neg (fun h => h.2 c2), show ((l.length : Int) == 0) = true by simp [c2]]
      exact ev_now fun k => by simp [impl_LeastMoves.j0]
    · rw [if_pos ⟨c1, c2⟩, show ((l.length : Int) == 0) = false from beq_eq_false_iff_ne.2 (by omega)]
      obtain ⟨o, ho⟩ : ∃ o, o = (l.mergeSort fun x y => decide (x ≤ y)).reverse := ⟨_, rfl⟩
      have hperm : o.Perm l := by
        rw [ho]
        exact (List.reverse_perm _).trans (List.mergeSort_perm _ _)
      have hol : o.length = l.length := hperm.length_eq
      have hom : ∀ x ∈ o, 1 ≤ x ∧ x ≤ 5000 := fun x hx => hm x (hperm.mem_iff.1 hx)
      have hdown : o.Pairwise (fun x y => y ≤ x) := by
        rw [ho, List.pairwise_reverse]
        have := List.pairwise_mergeSort (le := fun (x y : Int) => decide (x ≤ y)) (fun a b c h1 h2 => by simp at *; omega) (fun a b => by simp; omega) l
        exact this.imp (fun h => of_decide_eq_true h)
      have hsum : o.sum = l.sum := by
        have := sumBy_perm id hperm
        unfold sumBy at this
        rwa [List.map_id, List.map_id] at this
      have hsb := sum_in l 1 5000 hm
      have hsW : sumW o = l.sum := by rw [sumW_exact o (fun x hx => by have := hom x hx; omega) (by omega), hsum]
      have hsi := sumI o (by omega)
      rw [hsW] at hsi
      obtain ⟨S, hS⟩ : ∃ S, S = l.sum := ⟨_, rfl⟩
      rw [← hS] at hsi hsb ⊢
      have hms : (l.mergeSort fun x y => decide (x ≤ y)).length = l.length := List.length_mergeSort _
      have hrev := reverse_f (l.mergeSort fun x y => decide (x ≤ y)) (by omega)
      rw [← ho] at hrev
      have hpc := piecesI S (l.length : Int)
      have hpv : piecesV S (l.length : Int) = (List.range l.length).map (pieceV S (l.length : Int)) := by
        unfold piecesV
        rw [if_pos (by omega), Int.toNat_natCast]
      refine ev_next (f := fun k => (slices_Reverse_int_int.f k (l.mergeSort fun x y => decide (x ≤ y))).bind fun t141 => ((impl_sum.f k t141).bind fun t142 => ((impl_EqualPieces.f k t142 (l.length : Int)).bind fun t143 => (impl_LeastMoves.l0 k t141 0 t143 (t143.length : Int) 0)))) (fun k => ?_) _ (Ev.bind hrev (Ev.bind hsi (Ev.bind hpc ?_)))
      · simp only [impl_LeastMoves.j0, slices_Clone_int_int.f, slices_Sort_int_int.f]
        rw [if_neg (by decide), if_pos (by omega)]
        simp only [Option.bind_some]
        rw [if_pos (by omega)]
        rfl
      · have hq := piece_bd S (l.length : Int) (by omega) (by omega) (by omega)
        have hr0 := Int.emod_nonneg S (show (l.length : Int) ≠ 0 by omega)
        have hmd := moves_down (S / (l.length : Int)) o hdown (S % (l.length : Int))
        rw [sumBy_perm _ hperm, sumBy_perm _ hperm] at hmd
        have hcp := cnt_pos (S / (l.length : Int)) l
        rw [show max 0 (min (S % (l.length : Int)) (sumBy (cntOf (S / (l.length : Int))) l)) = min (S % (l.length : Int)) (sumBy (cntOf (S / (l.length : Int))) l) by omega] at hmd
        rw [← hmd, hpv]
        have hplen : ((List.range l.length).map (pieceV S (l.length : Int))).length = l.length := by simp
        rw [hplen]
        obtain ⟨T, hT⟩ : ∃ T : Nat → Int, T = fun (i : Nat) => max (o.getD i 0 - (if (i : Int) < S % (l.length : Int) then S / (l.length : Int) + 1 else S / (l.length : Int))) 0 := ⟨_, rfl⟩
        have hTb : ∀ i : Nat, i < l.length → 0 ≤ T i ∧ T i ≤ 5000 := by
          intro i hi
          have := hom _ (List.getElem_mem (show i < o.length by omega))
          rw [hT]
          simp only [List.getD_eq_getElem?_getD, List.getElem?_eq_getElem (show i < o.length by omega), Option.getD_some]
          split <;> omega
        have hTs : ∀ i : Nat, i ≤ l.length → 0 ≤ ((List.range i).map T).sum ∧ ((List.range i).map T).sum ≤ 5000 * i := by
          intro i hi
          have := sum_in ((List.range i).map T) 0 5000 (fun x hx => by
            obtain ⟨j, hj, rfl⟩ := List.mem_map.1 hx
            exact hTb j (by have := List.mem_range.1 hj; omega))
          rw [List.length_map, List.length_range] at this
          omega
        have h := ev_to (fun k s i => impl_LeastMoves.l0 k o s ((List.range l.length).map (pieceV S (l.length : Int))) (l.length : Int) i) l.length (fun i s => s = ((List.range i).map T).sum) (((List.range l.length).map T).sum) (fun i s hi hp => by
            refine .inl ⟨((List.range (i + 1)).map T).sum, rfl, fun r hr => ev_next (fun k => ?_) r hr⟩
            have b1 := hTs i (by omega)
            have b2 := hTb i hi
            have hx := hom _ (List.getElem_mem (show i < o.length by omega))
            have er : rd ((List.range l.length).map (pieceV S (l.length : Int))) (i : Int) = pieceV S (l.length : Int) i := by
              rw [rd_get _ _ (by simpa using hi)]
              simp
            have eT : T i = max (o[i]'(by omega) - pieceV S (l.length : Int) i) 0 := by
              rw [hT]
              simp only [List.getD_eq_getElem?_getD, List.getElem?_eq_getElem (show i < o.length by omega), Option.getD_some]
              rfl
            have hpb : 0 ≤ pieceV S (l.length : Int) i ∧ pieceV S (l.length : Int) i ≤ 200001 := by unfold pieceV; split <;> omega
            simp only [impl_LeastMoves.l0]
            rw [if_pos (by omega), if_pos (by omega), if_pos (by rw [hplen]; omega), if_pos (by omega), er, rd_get o i (by omega), w64 (x := o[i] - _) (by omega) (by omega), mx_eq, ← eT, w64 (x := s + T i) (by omega) (by omega), w64 (x := (i : Int) + 1) (by omega) (by omega), List.range_succ, List.map_append, List.sum_append, ← hp]
            simp) (fun s hp => ev_now fun k => by
            simp only [impl_LeastMoves.l0]
            rw [if_neg (by omega), hp]) 0 0 (Nat.zero_le _) rfl
        rw [hol, ← hT]
        exact h
  · simp only [if_neg c1]
    rw [if_neg (fun h => c1 h.1)]
    exact ev_now fun k => by simp [impl_LeastMoves.j0]
theorem movesS (l : List Int) (hb : l.length ≤ 1048576) : Ev (fun k => spec_LeastMoves.f k l) (movesV l) := by
  unfold spec_LeastMoves.f movesV
  refine Ev.bind (piecesOkS l hb) ?_
  by_cases c1 : piecesOk l = true
  · obtain ⟨hl, hm⟩ := pieces_mem c1
    simp only [if_pos c1]
    by_cases c2 : l.length = 0
    · rw [if_neg (fun h => h.2 c2), show ((l.length : Int) == 0) = true by simp [c2]]
      exact ev_now fun k => by simp [spec_LeastMoves.j0]
    · rw [if_pos ⟨c1, c2⟩, show ((l.length : Int) == 0) = false from beq_eq_false_iff_ne.2 (by omega)]
      have hsb := sum_in l 1 5000 hm
      have hsW : sumW l = l.sum := sumW_exact l (fun x hx => by have := hm x hx; omega) (by omega)
      have hs := sumS l hb
      rw [hsW] at hs
      have hg := gt_un (l.sum / (l.length : Int)) l
      obtain ⟨S, hS⟩ : ∃ S, S = l.sum := ⟨_, rfl⟩
      rw [← hS] at hs hsb hg ⊢
      have e3 := Int.mul_ediv_add_emod S (l.length : Int)
      rw [Int.mul_comm] at e3
      have hR := Int.emod_nonneg S (show (l.length : Int) ≠ 0 by omega)
      have hR2 := Int.emod_lt_of_pos S (show 0 < (l.length : Int) by omega)
      have hq1 : 0 ≤ S / (l.length : Int) := Int.ediv_nonneg (by omega) (by omega)
      have hq2 : S / (l.length : Int) ≤ S := Int.ediv_le_self _ (by omega)
      obtain ⟨low, hlow⟩ : ∃ low, low = S / (l.length : Int) := ⟨_, rfl⟩
      obtain ⟨R, hRR⟩ : ∃ R, R = S % (l.length : Int) := ⟨_, rfl⟩
      rw [← hlow] at hg e3 hq1 hq2 ⊢
      rw [← hRR] at hR hR2 e3 ⊢
      refine ev_next (f := fun k => (spec_l02Sum.f k l).bind fun t112 => (if (l.length : Int) = 0 then (none) else ((spec_l02Sum.f k l).bind fun t113 => (spec_LeastMoves.l0 k l (wrap64 (Int.tdiv t112 (l.length : Int))) (Int.tmod t113 (l.length : Int)) 0 0 0)))) (fun k => ?_) _ (Ev.bind hs ?_)
      · simp only [spec_LeastMoves.j0]
        rw [if_neg (by decide)]
      · simp only [if_neg (show ¬ (l.length : Int) = 0 by omega)]
        refine Ev.bind hs ?_
        rw [tdiv_pos (by omega), tmod_pos (by omega), ← hlow, ← hRR, w64 (by omega) (by omega)]
        have bG := fun i : Nat => sumBy_bd (gtOf low) (l.take i) 0 5000 (fun x hx => by have := hm x (List.mem_of_mem_take hx); unfold gtOf; omega)
        have bU := fun i : Nat => sumBy_bd (unOf low) (l.take i) 0 200000 (fun x hx => by have := hm x (List.mem_of_mem_take hx); unfold unOf; omega)
        have bC := fun i : Nat => sumBy_bd (cntOf low) (l.take i) 0 1 (fun x hx => by unfold cntOf; split <;> omega)
        have bl := fun i : Nat => show ((l.take i).length : Int) ≤ 40 by rw [List.length_take]; omega
        have h := ev_to (fun k (s : Int × Int × Int) i => spec_LeastMoves.l0 k l low s.1 s.2.1 s.2.2 i) l.length (fun i s => s.1 = R - min R (sumBy (cntOf low) (l.take i)) ∧ s.2.1 = sumBy (gtOf low) (l.take i) - min R (sumBy (cntOf low) (l.take i)) ∧ s.2.2 = sumBy (unOf low) (l.take i)) (sumBy (gtOf low) l - min R (sumBy (cntOf low) l)) (fun i s hi hp => by
            obtain ⟨rest, over, under⟩ := s
            obtain ⟨p1, p2, p3⟩ := hp
            simp only at p1 p2 p3
            have hx := hm _ (List.getElem_mem hi)
            have g1 := bG i
            have u1 := bU i
            have d1 := bC i
            have l1 := bl i
            refine .inl ⟨(R - min R (sumBy (cntOf low) (l.take (i + 1))), sumBy (gtOf low) (l.take (i + 1)) - min R (sumBy (cntOf low) (l.take (i + 1))), sumBy (unOf low) (l.take (i + 1))), ⟨rfl, rfl, rfl⟩, fun r hr => ev_next (fun k => ?_) r hr⟩
            simp only [sumBy_take _ l i hi]
            have eu : mx 0 (wrap64 (low - l[i])) = unOf low l[i] := by
              rw [mx_eq, w64 (by omega) (by omega)]
              unfold unOf
              omega
            have bu : 0 ≤ unOf low l[i] ∧ unOf low l[i] ≤ 200000 := by unfold unOf; omega
            generalize sumBy (gtOf low) (l.take i) = G at *
            generalize sumBy (cntOf low) (l.take i) = C at *
            generalize sumBy (unOf low) (l.take i) = U at *
            simp only [spec_LeastMoves.l0]
            rw [if_pos (by omega), if_pos (by omega), rd_get _ _ hi, eu, w64 (x := under + _) (by omega) (by omega), w64 (x := (i : Int) + 1) (by omega) (by omega), p3]
            by_cases c3 : l[i] > low
            · have e1 : gtOf low l[i] = l[i] - low := by unfold gtOf; omega
              have e2 : cntOf low l[i] = 1 := by unfold cntOf; rw [if_pos c3]
              rw [if_pos c3, e1, e2]
              by_cases c4 : rest > 0
              · rw [if_pos c4, w64 (x := rest - 1) (by omega) (by omega), w64 (x := over + l[i]) (by omega) (by omega), w64 (x := over + l[i] - low) (by omega) (by omega), w64 (x := over + l[i] - low - 1) (by omega) (by omega)]
                congr 1 <;> omega
              · rw [if_neg c4, w64 (x := over + l[i]) (by omega) (by omega), w64 (x := over + l[i] - low) (by omega) (by omega)]
                congr 1 <;> omega
            · have e1 : gtOf low l[i] = 0 := by unfold gtOf; omega
              have e2 : cntOf low l[i] = 0 := by unfold cntOf; rw [if_neg c3]
              rw [if_neg c3, e1, e2]
              congr 1 <;> omega) (fun s hp => by
            obtain ⟨rest, over, under⟩ := s
            obtain ⟨p1, p2, p3⟩ := hp
            simp only at p1 p2 p3
            rw [List.take_length] at p1 p2 p3
            refine ev_now fun k => ?_
            simp only [spec_LeastMoves.l0]
            rw [if_neg (by omega), mx_eq, p2, p3]
            congr 1
            omega) 0 (R, 0, 0) (Nat.zero_le _) ⟨by simp [sumBy_nil]; omega, by simp [sumBy_nil]; omega, rfl⟩
        exact h
  · simp only [if_neg c1]
    rw [if_neg (fun h => c1 h.1)]
    exact ev_now fun k => by simp [spec_LeastMoves.j0]
theorem FnExactLeastMoves : laws_FnExactLeastMoves.Pure := by
  intro l _ _ _
  refine Ev.rounds ?_
  unfold laws_FnExactLeastMoves.f
  by_cases c : (l.length : Int) > 1048576
  · simp only [if_pos c]
    exact Ev.now _
  · simp only [if_neg c]
    have ht := toIntS_f l (by omega)
    refine Ev.bind ht (Ev.bind (movesS l (by omega)) (Ev.bind ht (Ev.bind (movesI l (by omega)) ?_)))
    simp only [if_true]
    refine Ev.bind ht (Ev.bind (eqIntS_same l (by omega)) ?_)
    simp only [if_true]
    exact Ev.now _
end Go.Proofs.Ytbfgllgjniogiaa.Pure
