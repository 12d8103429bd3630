/- No order of heats costs less than the best one, and what falls costs least from above: the law FnHeats answers true for every input. No condition. -/
import Derived.Test.YtkcfpkokgpimaaaPFnHeatsx6
import Derived.Test.YtkcfpkokgpimaaaBase
namespace Go.Proofs.Ytkcfpkokgpimaaa.Pure
open Go.RowKit Go.Proofs.Ytkcfpkokgpimaaa.PFnHeats Go.Proofs.YtkcfpkokgpimaaaW.PrintWords Go.Proofs.YtkcfpkokgpimaaaW.PrintLast Go.Proofs.YtkcfpkokgpimaaaW.PrintMore Go.Proofs.Ytkcfpkokgpimaaa.Base
set_option linter.unusedVariables false
set_option linter.unusedSimpArgs false
theorem in_f (a b c : Int) : impl_in.f a b c = some (decide (b ≤ a ∧ a ≤ c)) := by
  unfold impl_in.f
  by_cases h : b ≤ a <;> simp [h]
/-- All numbers of a list are in a range. -/
def allOk (l : List Int) (a b : Int) : Bool := l.all fun x => decide (a ≤ x ∧ x ≤ b)
theorem allOk_mem {l : List Int} {a b : Int} (h : allOk l a b = true) : ∀ x ∈ l, a ≤ x ∧ x ≤ b := by
  intro x hx
  simpa using (List.all_eq_true.1 h) x hx
theorem allIn_f (l : List Int) (a b : Int) : impl_allIn.f l a b = some (allOk l a b) := rfl
/-- The reference's loop that asks the same. -/
theorem all_loop {R : Type} (F : Nat → Int → Option R) (l : List Int) (a b : Int) (r0 r1 : R)
    (hstep : ∀ (k : Nat) (i : Nat), i < l.length → F (k + 1) (i : Int) = if (decide (a ≤ rd l (i : Int) ∧ rd l (i : Int) ≤ b)) = true then F k ((i : Int) + 1) else some r0)
    (hend : ∀ (k : Nat), F (k + 1) (l.length : Int) = some r1) : Ev (fun k => F k 0) (if allOk l a b = true then r1 else r0) := by
  have h := ev_all F l.length (fun i => decide (a ≤ l.getD i 0 ∧ l.getD i 0 ≤ b)) r0 r1 (fun k i hi => by rw [hstep k i hi, rd_eq]) hend
  have e := all_range l 0 (fun x => decide (a ≤ x ∧ x ≤ b))
  rw [e] at h
  exact h
def heatsOk (l : List Int) : Bool := decide (l.length ≤ 8) && allOk l 0 350
theorem heatsOk_iff {l : List Int} : heatsOk l = true ↔ l.length ≤ 8 ∧ allOk l 0 350 = true := by
  unfold heatsOk
  rw [Bool.and_eq_true, decide_eq_true_eq]
theorem rd_heat {l : List Int} (h : heatsOk l = true) (i : Int) : 0 ≤ rd l i ∧ rd l i ≤ 350 := by
  unfold rd
  rw [List.getD_eq_getElem?_getD]
  cases e : l[i.toNat]? with
  | none => simp
  | some x => exact allOk_mem (heatsOk_iff.1 h).2 x (List.mem_of_getElem? e)
def fallLt (l : List Int) : Int → Int → Bool := fun a b => decide (- rd l a < - rd l b)
def fallV (l : List Int) : List Int := if heatsOk l = true then isort (fallLt l) (idxs l.length) else []
theorem heatsI (l : List Int) : impl_areHeats.f l = some (heatsOk l) := by
  unfold impl_areHeats.f heatsOk
  rw [allIn_f]
  by_cases c : l.length ≤ 8
  · rw [if_pos (by omega)]
    simp [c]
  · rw [if_neg (by omega)]
    simp [c]
theorem indicesI (n : Nat) (hn : n ≤ 1048576) : Ev (fun k => impl_indices.f k (n : Int)) (idxs n) := by
  unfold impl_indices.f
  have h := ev_build (fun k s i => impl_indices.l0 k s (n : Int) i) n (fun i => (i : Int)) (fun k s i hi hs => by
    simp only [impl_indices.l0]
    rw [if_pos (by omega), if_pos (by omega), w64 (by omega) (by omega)]) (fun k s => by
    simp only [impl_indices.l0]
    rw [if_neg (by omega)])
  exact h
theorem fallI (l : List Int) (hb : l.length ≤ 1048576) : Ev (fun k => impl_FallingOrder.f k l) (fallV l) := by
  unfold impl_FallingOrder.f fallV
  simp only [heatsI, Option.bind_some]
  by_cases c : heatsOk l = true
  · simp only [if_pos c]
    refine Ev.bind (indicesI l.length hb) ?_
    have hl := (heatsOk_iff.1 c).1
    rw [if_pos ⟨rfl, by omega⟩]
    have e : (fun a b => decide (wrap64 (rd l b - rd l a) < 0)) = fallLt l := by
      funext a b
      have h1 := rd_heat c a
      have h2 := rd_heat c b
      unfold fallLt
      rw [w64 (by omega) (by omega), decide_eq_decide]
      omega
    rw [e]
    exact Ev.now _
  · simp only [if_neg c]
    exact Ev.now _
theorem all_no (p : Nat → Bool) {n i : Nat} (hi : i < n) (h : p i = false) : (List.range n).all p = false := by
  rw [Bool.eq_false_iff]
  intro ha
  have := (List.all_eq_true.1 ha) i (List.mem_range.2 hi)
  rw [h] at this
  cases this
theorem all_more (p : Nat → Bool) {n : Nat} (h : (List.range n).all p = true) (hp : p n = true) : (List.range (n + 1)).all p = true := by
  rw [List.range_succ, List.all_append, h]
  simp [hp]
theorem all_at {p : Nat → Bool} {n i : Nat} (h : (List.range n).all p = true) (hi : i < n) : p i = true := (List.all_eq_true.1 h) i (List.mem_range.2 hi)
/-- Place i of an order names a number below n that no place before it names. -/
def okAt (l : List Int) (n : Int) (i : Nat) : Bool := decide ((0 ≤ l.getD i 0 ∧ l.getD i 0 ≤ n - 1) ∧ l.getD i 0 ∉ l.take i)
def stepC (cost : Int → Int → Int) (d l : List Int) (k : Nat) : Int := if k = 0 then 0 else cost (d.getD (l.getD (k - 1) 0).toNat 0) (d.getD (l.getD k 0).toNat 0)
def sumC (cost : Int → Int → Int) (d l : List Int) (n : Nat) : Int := ((List.range n).map (stepC cost d l)).sum
theorem sumC_succ (cost : Int → Int → Int) (d l : List Int) (n : Nat) : sumC cost d l (n + 1) = sumC cost d l n + stepC cost d l n := by
  unfold sumC
  rw [List.range_succ, List.map_append, List.sum_append]
  simp
theorem sumC_bd (cost : Int → Int → Int) (d l : List Int) (b : Int) (hc : ∀ x y, -1 ≤ cost x y ∧ cost x y ≤ b) (hb : 0 ≤ b) (n : Nat) : -(n : Int) ≤ sumC cost d l n ∧ sumC cost d l n ≤ b * n := by
  induction n with
  | zero => simp [sumC]
  | succ n ih =>
    rw [sumC_succ]
    have h1 : -1 ≤ stepC cost d l n ∧ stepC cost d l n ≤ b := by
      unfold stepC
      split
      · omega
      · exact hc _ _
    have e : b * ((n + 1 : Nat) : Int) = b * n + b := by rw [Int.natCast_add, Int.mul_add]; simp
    rw [e]
    omega
theorem mem_take_succ (l : List Int) (i : Nat) (hi : i < l.length) (x : Int) : x ∈ l.take (i + 1) ↔ x ∈ l.take i ∨ x = l.getD i 0 := by
  rw [List.take_succ_eq_append_getElem hi, List.mem_append, List.mem_singleton, List.getD_eq_getElem?_getD, List.getElem?_eq_getElem hi]
  rfl
theorem index_f (l : List Int) (a : Int) (hb : l.length ≤ 1048576) : ∃ r, (r ≥ 0 ↔ a ∈ l) ∧ Ev (fun k => slices_Index_int_int.f k l a) r := by
  unfold slices_Index_int_int.f
  have h := ev_up (fun k (_ : Unit) i => slices_Index_int_int.l0 k l a (l.length : Int) i) l.length (fun i _ => ∀ j, j < i → l.getD j 0 ≠ a) (fun r => r ≥ 0 ↔ a ∈ l) (fun i _ hi hp => by
      by_cases c : a = l.getD i 0
      · refine .inr ⟨(i : Int), ⟨fun _ => ?_, fun _ => by omega⟩, ev_now fun k => ?_⟩
        · rw [c, List.getD_eq_getElem?_getD, List.getElem?_eq_getElem hi]
          exact List.getElem_mem hi
        · simp only [slices_Index_int_int.l0]
          rw [if_pos (by omega), if_pos (by omega), if_pos (by omega), rd_eq, if_pos c]
      · refine .inl ⟨(), fun j hj => ?_, fun r hr => ev_next (fun k => ?_) r hr⟩
        · by_cases d : j = i
          · subst d
            exact fun h => c h.symm
          · exact hp j (by omega)
        · simp only [slices_Index_int_int.l0]
          rw [if_pos (by omega), if_pos (by omega), if_pos (by omega), rd_eq, if_neg c, w64 (by omega) (by omega)]) (fun _ hp => by
      refine ⟨-1, ⟨fun h => by omega, fun h => ?_⟩, ev_now fun k => ?_⟩
      · obtain ⟨j, hj, e⟩ := List.getElem_of_mem h
        refine absurd ?_ (hp j hj)
        rw [List.getD_eq_getElem?_getD, List.getElem?_eq_getElem hj]
        exact e
      · simp only [slices_Index_int_int.l0]
        rw [if_neg (by omega)]) 0 () (Nat.zero_le _) (fun j hj => by omega)
  exact h
theorem contains_f (l : List Int) (a : Int) (hb : l.length ≤ 1048576) : Ev (fun k => slices_Contains_int_int.f k l a) (decide (a ∈ l)) := by
  obtain ⟨r, h1, h2⟩ := index_f l a hb
  unfold slices_Contains_int_int.f
  refine Ev.bind h2 ?_
  rw [show decide (a ∈ l) = decide (r ≥ 0) from by simp only [h1]]
  exact Ev.now _
theorem isOrderI (l : List Int) (n : Int) (hb : l.length ≤ 1048576) (hn : 0 ≤ n ∧ n ≤ 1048576) : Ev (fun k => impl_isOrder.f k l n) ((List.range l.length).all (okAt l n) && decide ((l.length : Int) = n)) := by
  unfold impl_isOrder.f
  have hw : wrap64 (n - 1) = n - 1 := w64 (by omega) (by omega)
  have h := ev_to (fun k (_ : Unit) i => impl_isOrder.l0 k l n l (l.length : Int) i) l.length (fun i _ => (List.range i).all (okAt l n) = true) ((List.range l.length).all (okAt l n) && decide ((l.length : Int) = n)) (fun i _ hi hp => by
      have hi' : (i : Int) < (l.length : Int) := by omega
      have hi0 : (0 : Int) ≤ (i : Int) := by omega
      have hi2 : (i : Int) ≤ (l.length : Int) := by omega
      have hbody : ∀ r, Ev (fun k => (if 0 ≤ l.getD i 0 ∧ l.getD i 0 ≤ n - 1 then ((slices_Contains_int_int.f k (l.take i) (l.getD i 0)).bind fun t138 => (if t138 = true then (some false) else (impl_isOrder.l0 k l n l (l.length : Int) ((i : Int) + 1)))) else (some false))) r → Ev (fun k => impl_isOrder.l0 k l n l (l.length : Int) (i : Int)) r := fun r h => ev_next (fun k => by
        simp only [impl_isOrder.l0, in_f, Option.bind_some, decide_eq_true_eq, hw, rd_eq]
        rw [if_pos hi', if_pos hi0, if_pos hi', if_pos hi2, w64 (x := (i : Int) + 1) (by omega) (by omega), Int.toNat_natCast]) r h
      have hlt : (l.take i).length ≤ 1048576 := by rw [List.length_take]; omega
      by_cases c1 : 0 ≤ l.getD i 0 ∧ l.getD i 0 ≤ n - 1
      · by_cases c2 : l.getD i 0 ∈ l.take i
        · refine .inr (hbody _ ?_)
          rw [all_no (okAt l n) hi (by unfold okAt; exact decide_eq_false fun h => h.2 c2), Bool.false_and]
          simp only [if_pos c1]
          refine Ev.bind (contains_f (l.take i) (l.getD i 0) hlt) ?_
          rw [decide_eq_true c2]
          simp only [if_true]
          exact Ev.now _
        · refine .inl ⟨(), all_more _ hp (by unfold okAt; exact decide_eq_true ⟨c1, c2⟩), fun r hr => hbody r ?_⟩
          simp only [if_pos c1]
          refine Ev.bind (contains_f (l.take i) (l.getD i 0) hlt) ?_
          rw [decide_eq_false c2]
          simp only [Bool.false_eq_true, if_false]
          exact hr
      · refine .inr (hbody _ ?_)
        rw [all_no (okAt l n) hi (by unfold okAt; exact decide_eq_false fun h => c1 h.1), Bool.false_and]
        simp only [if_neg c1]
        exact Ev.now _) (fun _ hp => ev_now fun k => by
      simp only [impl_isOrder.l0]
      rw [if_neg (by omega), hp, Bool.true_and]
      rfl) 0 () (Nat.zero_le _) rfl
  exact h
theorem at_f (l : List Int) (hw : ∀ x ∈ l, (Lit.int .u8 x).wf = true) (hl : l.length ≤ 140737488351232) (i : Int) (h0 : 0 ≤ i) (h1 : i ≤ 1000) : ∃ v, laws_at.f l i = some v ∧ 0 ≤ v ∧ v ≤ 255 := by
  unfold laws_at.f
  by_cases c : (l.length : Int) = 0
  · exact ⟨0, by rw [if_pos c], by omega, by omega⟩
  · rw [if_neg c, w64 (x := i * 5) (by omega) (by omega), w64 (x := i * 5 + 1) (by omega) (by omega), tmod_pos (by omega)]
    have hm : 0 ≤ (i * 5 + 1) % (l.length : Int) := Int.emod_nonneg _ c
    have hn : (i * 5 + 1) % (l.length : Int) < (l.length : Int) := Int.emod_lt_of_pos _ (by omega)
    rw [if_pos hm, if_pos hn]
    obtain ⟨j, hj⟩ := Int.eq_ofNat_of_zero_le hm
    rw [hj] at hn ⊢
    have hx := (u8_iff _).1 (hw _ (List.getElem_mem (show j < l.length by omega)))
    rw [rd_get _ _ (by omega), w64 (by omega) (by omega)]
    exact ⟨_, rfl, hx.1, hx.2⟩
theorem big_f (l : List Int) : laws_big.f l = some (decide ((l.length : Int) > 1048576)) := rfl
theorem and_bd (x : Int) (m : Nat) (hm : m ≤ 4294967295) : 0 ≤ Go.bits .and .i64 x (m : Int) ∧ Go.bits .and .i64 x (m : Int) ≤ m := by
  have h : ((BitVec.ofInt 64 x) &&& (BitVec.ofInt 64 (m : Int))).toNat ≤ m := by
    rw [BitVec.toNat_and]
    refine Nat.le_trans Nat.and_le_right ?_
    rw [BitVec.ofInt_natCast, BitVec.toNat_ofNat]
    exact Nat.mod_le _ _
  have e : Go.bits .and .i64 x (m : Int) = IntKind.i64.wrap (((BitVec.ofInt 64 x) &&& (BitVec.ofInt 64 (m : Int))).toNat : Int) := rfl
  rw [e]
  generalize ((BitVec.ofInt 64 x) &&& (BitVec.ofInt 64 (m : Int))).toNat = q at h ⊢
  rw [IntKind.wrap_i64]
  omega
theorem byte_f (b : List Int) (i h : Int) (hb : b.length ≤ 140737488351232) (hi : 0 ≤ i) : ∃ x i' h', spec_l01Byte.f b i h = some (x, i', h') ∧ 0 ≤ x ∧ x ≤ 255 ∧ 0 ≤ i' := by
  unfold spec_l01Byte.f
  by_cases c : i < (b.length : Int)
  · rw [if_pos c, if_pos hi]
    refine ⟨_, _, _, rfl, (and_bd _ 255 (by omega)).1, (and_bd _ 255 (by omega)).2, ?_⟩
    rw [w64 (by omega) (by omega)]
    omega
  · rw [if_neg c]
    exact ⟨_, _, _, rfl, (and_bd _ 255 (by omega)).1, (and_bd _ 255 (by omega)).2, hi⟩
theorem below_f (b : List Int) (i h n : Int) (hb : b.length ≤ 140737488351232) (hi : 0 ≤ i) (h1 : 1 ≤ n) (h2 : n ≤ 256) : ∃ x i' h', spec_l01Below.f b i h n = some (x, i', h') ∧ 0 ≤ x ∧ x < n ∧ 0 ≤ i' := by
  obtain ⟨x, i', h', e, x0, x1, i0⟩ := byte_f b i h hb hi
  unfold spec_l01Below.f
  rw [if_neg (by omega), if_pos (by omega), e]
  simp only [Option.bind_some]
  rw [if_neg (by omega), tmod_pos x0]
  exact ⟨_, _, _, rfl, Int.emod_nonneg _ (by omega), Int.emod_lt_of_pos _ (by omega), i0⟩
theorem new_f (l : List Int) (hb : l.length ≤ 140737488351232) : ∃ h, Ev (fun k => spec_l01New.f k l) (l, 0, h) := by
  unfold spec_l01New.f
  have h := ev_up (fun k s i => spec_l01New.l0 k l s i) l.length (fun _ _ => True) (fun r => ∃ h, r = (l, 0, h)) (fun i s hi _ => by
      by_cases c : i < 4000
      · refine .inl ⟨Go.bits .and .i64 (wrap64 ((wrap64 ((wrap64 (s * 131)) + (wrap64 (rd l (i : Int))))) + 7)) 1073741823, trivial, fun r hr => ev_next (fun k => ?_) r hr⟩
        simp only [spec_l01New.l0]
        rw [if_pos (by omega), if_pos (by omega), if_pos (by omega), w64 (x := (i : Int) + 1) (by omega) (by omega)]
      · refine .inr ⟨_, ⟨s, rfl⟩, ev_now fun k => ?_⟩
        · simp only [spec_l01New.l0]
          rw [if_pos (by omega), if_neg (by omega)]) (fun s _ => ⟨_, ⟨s, rfl⟩, ev_now fun k => by
      simp only [spec_l01New.l0]
      rw [if_neg (by omega)]⟩) 0 (wrap64 (33101 + (l.length : Int))) (Nat.zero_le _) trivial
  obtain ⟨r, ⟨h, rfl⟩, e⟩ := h
  exact ⟨h, e⟩
theorem drawHeats_f (l : List Int) (hb : l.length ≤ 140737488351232) : ∃ d : List Int, Ev (fun k => spec_DrawHeats.f k l) d ∧ d.length ≤ 6 ∧ ∀ x ∈ d, 150 ≤ x ∧ x ≤ 260 := by
  unfold spec_DrawHeats.f
  obtain ⟨h, hn⟩ := new_f l hb
  obtain ⟨m, i1, h1, e, m0, m1, i10⟩ := below_f l 0 h 7 hb (by omega) (by omega) (by omega)
  obtain ⟨M, rfl⟩ := Int.eq_ofNat_of_zero_le m0
  have hloop := ev_up (fun k (s : List Int × Int × Int) i => spec_l08Heats.l0 k s.1 (M : Int) i l s.2.1 s.2.2) M (fun i s => s.1.length = i ∧ (∀ x ∈ s.1, 150 ≤ x ∧ x ≤ 260) ∧ 0 ≤ s.2.1) (fun r => r.1.length ≤ 6 ∧ ∀ x ∈ r.1, 150 ≤ x ∧ x ≤ 260) (fun i s hi hs => by
      obtain ⟨a, p, q⟩ := s
      obtain ⟨s1, s2, s3⟩ := hs
      simp only at s1 s2 s3
      obtain ⟨x, p', q', e2, x0, x1, hp⟩ := below_f l p q 12 hb s3 (by omega) (by omega)
      have ew : wrap64 (150 + wrap64 (10 * x)) = 150 + 10 * x := by
        unfold wrap64
        omega
      refine .inl ⟨(a ++ [150 + 10 * x], p', q'), ⟨by simp [s1], fun y hy => ?_, hp⟩, fun r hr => ev_next (fun k => ?_) r hr⟩
      · rcases List.mem_append.1 hy with hy | hy
        · exact s2 y hy
        · rw [List.mem_singleton.1 hy]
          omega
      · simp only [spec_l08Heats.l0]
        rw [if_pos (by omega), e2]
        simp only [Option.bind_some]
        rw [if_pos (by omega), w64 (x := (i : Int) + 1) (by omega) (by omega), ew]) (fun s hs => ⟨_, ⟨by have := hs.1; omega, hs.2.1⟩, ev_now fun k => by
      simp only [spec_l08Heats.l0]
      rw [if_neg (by omega)]⟩) 0 ([], i1, h1) (Nat.zero_le _) ⟨rfl, by simp, i10⟩
  obtain ⟨r, ⟨r1, r2⟩, hr⟩ := hloop
  have h2 : Ev (fun k => spec_l08Heats.f k l 0 h) r := by
    unfold spec_l08Heats.f
    rw [e]
    simp only [Option.bind_some]
    exact hr
  exact ⟨r.1, Ev.bind hn (Ev.bind h2 (Ev.now _)), r1, r2⟩
def vmeet (s t : Option (List Int × Int)) : Option (List Int × Int) :=
  match t with
  | none => s
  | some (o, c) => match s with
    | none => some (o, c)
    | some (b, l) => if c < l then some (o, c) else some (b, l)
theorem vstep_meet (cost : List Int → Int) (s : Option (List Int × Int)) (o : List Int) : vstep cost s o = vmeet s (some (o, cost o)) := by
  unfold vstep vmeet
  rcases s with _ | ⟨b, l⟩ <;> rfl
theorem vmeet_assoc (s t u : Option (List Int × Int)) : vmeet (vmeet s t) u = vmeet s (vmeet t u) := by
  rcases s with _ | ⟨b, l⟩ <;> rcases t with _ | ⟨b', l'⟩ <;> rcases u with _ | ⟨b'', l''⟩ <;> try rfl
  · simp only [vmeet]
    by_cases c : l'' < l' <;> simp only [c, if_true, if_false]
  · simp only [vmeet]
    by_cases c : l' < l <;> by_cases d : l'' < l' <;> by_cases e : l'' < l <;> simp only [c, d, e, if_true, if_false] <;> first | rfl | (exfalso; omega)
theorem vfold_meet (cost : List Int → Int) (L : List (List Int)) (s : Option (List Int × Int)) : L.foldl (vstep cost) s = vmeet s (L.foldl (vstep cost) none) := by
  induction L generalizing s with
  | nil => rfl
  | cons o L ih =>
    rw [List.foldl_cons, List.foldl_cons, ih, ih (vstep cost none o), vstep_meet, vstep_meet, vmeet_assoc]
    rfl
/-- The least one, and the first of them. -/
theorem vfold_least (cost : List Int → Int) (L : List (List Int)) (hL : L ≠ []) : ∃ b, L.foldl (vstep cost) none = some (b, cost b) ∧ b ∈ L ∧ ∀ o ∈ L, cost b ≤ cost o := by
  induction L with
  | nil => exact absurd rfl hL
  | cons o L ih =>
    rw [List.foldl_cons, vfold_meet]
    by_cases h : L = []
    · subst h
      exact ⟨o, rfl, List.mem_cons_self, fun x hx => by rw [List.mem_singleton.1 hx]; exact Int.le_refl _⟩
    · obtain ⟨b, e, hb, hm⟩ := ih h
      rw [e]
      show ∃ b', (if cost b < cost o then some (b, cost b) else some (o, cost o)) = _ ∧ _
      by_cases c : cost b < cost o
      · rw [if_pos c]
        refine ⟨b, rfl, List.mem_cons_of_mem _ hb, fun x hx => ?_⟩
        rcases List.mem_cons.1 hx with rfl | hx
        · omega
        · exact hm x hx
      · rw [if_neg c]
        refine ⟨o, rfl, List.mem_cons_self, fun x hx => ?_⟩
        rcases List.mem_cons.1 hx with rfl | hx
        · exact Int.le_refl _
        · have := hm x hx
          omega
theorem nodup_length {α : Type} [DecidableEq α] : ∀ (l m : List α), l.Nodup → l ⊆ m → l.length ≤ m.length
  | [], _, _, _ => Nat.zero_le _
  | x :: l, m, hn, hs => by
    rw [List.nodup_cons] at hn
    have hx : x ∈ m := hs List.mem_cons_self
    have h := nodup_length l (m.erase x) hn.2 (fun y hy => (List.mem_erase_of_ne (fun e => hn.1 (by rw [← e]; exact hy))).2 (hs (List.mem_cons_of_mem _ hy)))
    rw [List.length_erase_of_mem hx] at h
    have := List.length_pos_of_mem hx
    rw [List.length_cons]
    omega
/-- What the orders are. -/
structure Pre (n : Nat) (pre : List Int) : Prop where
  nodup : pre.Nodup
  rng : ∀ x ∈ pre, 0 ≤ x ∧ x < n
theorem Pre.nil (n : Nat) : Pre n [] := ⟨List.nodup_nil, by simp⟩
theorem Pre.snoc {n : Nat} {pre : List Int} (h : Pre n pre) {i : Int} (h0 : 0 ≤ i) (h1 : i < n) (hn : i ∉ pre) : Pre n (pre ++ [i]) := by
  refine ⟨?_, fun x hx => ?_⟩
  · rw [List.nodup_append]
    refine ⟨h.nodup, by simp, fun a ha b hb => ?_⟩
    rw [List.mem_singleton.1 hb]
    rintro rfl
    exact hn ha
  · rcases List.mem_append.1 hx with hx | hx
    · exact h.rng x hx
    · rw [List.mem_singleton.1 hx]
      exact ⟨h0, h1⟩
theorem Pre.subset_length {n : Nat} {pre : List Int} (h : Pre n pre) : pre.length ≤ n := by
  have : pre ⊆ idxs n := fun x hx => mem_idxs.2 (h.rng x hx)
  have := nodup_length _ _ h.nodup this
  rwa [idxs_length] at this
theorem Pre.full {n : Nat} {pre : List Int} (h : Pre n pre) (hl : pre.length = n) : ∀ i, 0 ≤ i → i < (n : Int) → i ∈ pre := by
  intro i h0 h1
  by_cases hm : i ∈ pre
  · exact hm
  · have := (h.snoc h0 h1 hm).subset_length
    simp at this
    omega
theorem Pre.miss {n : Nat} {pre : List Int} (h : Pre n pre) (hl : pre.length < n) : ∃ i, 0 ≤ i ∧ i < (n : Int) ∧ i ∉ pre := by
  apply Classical.byContradiction
  intro hc
  have hs : idxs n ⊆ pre := fun x hx => by
    apply Classical.byContradiction
    intro hx'
    have := mem_idxs.1 hx
    exact hc ⟨x, this.1, this.2, hx'⟩
  have hnd : (idxs n).Nodup := by
    unfold idxs
    rw [List.nodup_iff_pairwise_ne, List.pairwise_map]
    exact (List.nodup_range).imp (fun h e => h (by omega))
  have := nodup_length _ _ hnd hs
  rw [idxs_length] at this
  omega
theorem comps_mem {n : Nat} : ∀ (f : Nat) (pre : List Int), Pre n pre → ∀ o, o ∈ comps n f pre ↔ (∃ t, o = pre ++ t ∧ t.length = f) ∧ Pre n o
  | 0, pre, hp, o => by
    unfold comps
    rw [List.mem_singleton]
    constructor
    · rintro rfl
      exact ⟨⟨[], by simp, rfl⟩, hp⟩
    · rintro ⟨⟨t, rfl, ht⟩, _⟩
      rw [List.eq_nil_of_length_eq_zero ht, List.append_nil]
  | f + 1, pre, hp, o => by
    unfold comps
    rw [List.mem_flatMap]
    constructor
    · rintro ⟨i, hi, ho⟩
      by_cases c : i ∈ pre
      · rw [if_pos c] at ho
        simp at ho
      · rw [if_neg c] at ho
        obtain ⟨h0, h1⟩ := mem_idxs.1 hi
        obtain ⟨⟨t, rfl, ht⟩, h2⟩ := (comps_mem f _ (hp.snoc h0 h1 c) o).1 ho
        exact ⟨⟨i :: t, by simp, by simp [ht]⟩, h2⟩
    · rintro ⟨⟨t, rfl, ht⟩, h2⟩
      cases t with
      | nil => simp at ht
      | cons i t =>
        have hnd := h2.nodup
        rw [List.nodup_append] at hnd
        have c : i ∉ pre := fun hm => hnd.2.2 i hm i (by simp) rfl
        obtain ⟨h0, h1⟩ := h2.rng i (by simp)
        refine ⟨i, mem_idxs.2 ⟨h0, h1⟩, ?_⟩
        rw [if_neg c]
        exact (comps_mem f _ (hp.snoc h0 h1 c) _).2 ⟨⟨t, by simp, by simpa using ht⟩, h2⟩
theorem comps_all {n : Nat} (o : List Int) : o ∈ comps n n [] ↔ o.length = n ∧ Pre n o := by
  rw [comps_mem n [] (Pre.nil n)]
  constructor
  · rintro ⟨⟨t, rfl, ht⟩, h⟩
    exact ⟨by simpa using ht, h⟩
  · rintro ⟨h, h2⟩
    exact ⟨⟨o, by simp, h⟩, h2⟩
theorem comps_ne {n : Nat} : ∀ (f : Nat) (pre : List Int), Pre n pre → pre.length + f = n → comps n f pre ≠ []
  | 0, pre, _, _ => by simp [comps]
  | f + 1, pre, hp, hl => by
    obtain ⟨i, h0, h1, hm⟩ := hp.miss (by omega)
    have := comps_ne f (pre ++ [i]) (hp.snoc h0 h1 hm) (by simp; omega)
    obtain ⟨o, ho⟩ := List.exists_mem_of_ne_nil _ this
    intro he
    have hin : o ∈ comps n (f + 1) pre := by
      unfold comps
      rw [List.mem_flatMap]
      exact ⟨i, mem_idxs.2 ⟨h0, h1⟩, by rw [if_neg hm]; exact ho⟩
    rw [he] at hin
    simp at hin
/-- An order that begins at a and goes round. -/
def rot (n : Nat) (a : Int) : List Int := (List.range n).map fun (k : Nat) => ((k : Int) + a) % (n : Int)
theorem rot_mem (n : Nat) (a : Int) : rot n a ∈ comps n n [] := by
  refine (comps_all _).2 ⟨by simp [rot], ?_, fun x hx => ?_⟩
  · unfold rot
    rw [List.nodup_iff_pairwise_ne, List.pairwise_map, List.pairwise_iff_getElem]
    intro i j hi hj hij
    simp only [List.length_range] at hi hj
    simp only [List.getElem_range]
    intro e
    have h1 : (((j : Int) + a) - ((i : Int) + a)) % (n : Int) = 0 := (Int.emod_eq_emod_iff_emod_sub_eq_zero).1 e.symm
    rw [show ((j : Int) + a) - ((i : Int) + a) = (j : Int) - (i : Int) by omega, Int.emod_eq_of_lt (by omega) (by omega)] at h1
    omega
  · unfold rot at hx
    obtain ⟨k, hk, rfl⟩ := List.mem_map.1 hx
    rw [List.mem_range] at hk
    exact ⟨Int.emod_nonneg _ (by omega), Int.emod_lt_of_pos _ (by omega)⟩
def hcV (x y : Int) : Int := if (0 ≤ x ∧ x ≤ 350) ∧ (0 ≤ y ∧ y ≤ 350) then (if y > x then 2 * (y - x) else x - y) else -1
theorem hcI (x y : Int) : Ev (fun k => impl_HeatCost.f k x y) (hcV x y) := by
  unfold impl_HeatCost.f hcV
  simp only [in_f, Option.bind_some, decide_eq_true_eq]
  by_cases c1 : 0 ≤ x ∧ x ≤ 350
  · simp only [if_pos c1]
    by_cases c2 : 0 ≤ y ∧ y ≤ 350
    · rw [if_pos ⟨c1, c2⟩]
      obtain ⟨e1, e2, e3⟩ : wrap64 (y - x) = y - x ∧ wrap64 (2 * (y - x)) = 2 * (y - x) ∧ wrap64 (x - y) = x - y := ⟨w64 (by omega) (by omega), w64 (by omega) (by omega), w64 (by omega) (by omega)⟩
      refine ev_now fun k => ?_
      simp only [impl_HeatCost.j0]
      rw [if_neg (by simp [c2]), e1, e2, e3]
      split <;> rfl
    · rw [if_neg (fun h => c2 h.2)]
      exact ev_now fun k => by
        simp only [impl_HeatCost.j0]
        rw [if_pos (by simp [c2])]
  · simp only [if_neg c1]
    rw [if_neg (fun h => c1 h.1)]
    exact ev_now fun k => rfl
theorem hc_ok {x y : Int} (hx : 0 ≤ x ∧ x ≤ 350) (hy : 0 ≤ y ∧ y ≤ 350) : hcV x y = if y > x then 2 * (y - x) else x - y := by
  unfold hcV
  rw [if_pos ⟨hx, hy⟩]
/-- The cost of a way from a heat on. -/
def pc (d : List Int) : Int → List Int → Int
  | _, [] => 0
  | s, i :: o => hcV s (d.getD i.toNat 0) + pc d (d.getD i.toNat 0) o
theorem heat_rng {d : List Int} (hd : ∀ x ∈ d, 150 ≤ x ∧ x ≤ 260) (i : Nat) : 0 ≤ d.getD i 0 ∧ d.getD i 0 ≤ 260 := by
  rw [List.getD_eq_getElem?_getD]
  cases e : d[i]? with
  | none => simp
  | some x =>
    have := hd x (List.mem_of_getElem? e)
    simp only [Option.getD_some]
    omega
theorem pc_bd {d : List Int} (hd : ∀ x ∈ d, 150 ≤ x ∧ x ≤ 260) : ∀ (o : List Int) (s : Int), 0 ≤ s ∧ s ≤ 350 → 0 ≤ pc d s o ∧ pc d s o ≤ 700 * o.length ∧ ∀ i ∈ o, s - d.getD i.toNat 0 ≤ pc d s o
  | [], s, _ => ⟨Int.le_refl _, by simp [pc], by simp⟩
  | j :: o, s, hs => by
    have hj := heat_rng hd j.toNat
    obtain ⟨h1, h2, h3⟩ := pc_bd hd o (d.getD j.toNat 0) (by omega)
    have hc := hc_ok hs (show 0 ≤ d.getD j.toNat 0 ∧ d.getD j.toNat 0 ≤ 350 by omega)
    unfold pc
    rw [hc, List.length_cons]
    refine ⟨by split <;> omega, by split <;> omega, fun i hi => ?_⟩
    rcases List.mem_cons.1 hi with rfl | hi
    · split <;> omega
    · have := h3 i hi
      split <;> omega
/-- The value of OrderCost over an order. -/
theorem costHI {d o : List Int} (hd : ∀ x ∈ d, 150 ≤ x ∧ x ≤ 260) (hn : d.length ≤ 8) (hok : heatsOk d = true) (ho : o ∈ comps d.length d.length []) (s : Int) (hs : 0 ≤ s ∧ s ≤ 350) : Ev (fun k => impl_OrderCost.f k d o s) (pc d s o) := by
  obtain ⟨hl, hp⟩ := (comps_all o).1 ho
  have hall : (List.range o.length).all (okAt o (d.length : Int)) = true := by
    rw [List.all_eq_true]
    intro i hi
    rw [List.mem_range] at hi
    have e : o.getD i 0 = o[i] := by
      rw [List.getD_eq_getElem?_getD, List.getElem?_eq_getElem hi]
      rfl
    unfold okAt
    rw [decide_eq_true_eq, e]
    have := hp.rng _ (List.getElem_mem hi)
    refine ⟨by omega, fun hm => ?_⟩
    obtain ⟨j, hj, ej⟩ := List.getElem_of_mem hm
    rw [List.length_take] at hj
    rw [List.getElem_take] at ej
    have h2 := List.pairwise_iff_getElem.1 (List.nodup_iff_pairwise_ne.1 hp.nodup) j i (by omega) hi (by omega)
    exact h2 ej
  unfold impl_OrderCost.f
  simp only [heatsI, in_f, Option.bind_some, decide_eq_true_eq, if_pos hok, if_pos hs]
  refine Ev.bind (isOrderI o (d.length : Int) (by omega) (by omega)) ?_
  rw [hall, Bool.true_and, decide_eq_true (show (o.length : Int) = (d.length : Int) by omega)]
  refine ev_next (f := fun k => impl_OrderCost.l0 k d s 0 o (o.length : Int) 0) (fun k => ?_) _ ?_
  · simp only [impl_OrderCost.j0]
    rw [if_neg (by decide)]
  · have go : ∀ (e i : Nat) (t acc : Int), o.length - i = e → i ≤ o.length → 0 ≤ t ∧ t ≤ 350 → 0 ≤ acc ∧ acc ≤ 700 * i → Ev (fun k => impl_OrderCost.l0 k d t acc o (o.length : Int) i) (acc + pc d t (o.drop i)) := by
      intro e
      induction e with
      | zero =>
        intro i t acc h1 h2 _ _
        obtain rfl : i = o.length := by omega
        rw [List.drop_length]
        refine ev_now fun k => ?_
        simp only [impl_OrderCost.l0]
        rw [if_neg (by omega)]
        simp [pc]
      | succ e ih =>
        intro i t acc h1 h2 ht ha
        have hi : i < o.length := by omega
        have hr : 0 ≤ o.getD i 0 ∧ o.getD i 0 < (d.length : Int) := by
          rw [List.getD_eq_getElem?_getD, List.getElem?_eq_getElem hi]
          exact hp.rng _ (List.getElem_mem hi)
        have hg := heat_rng hd (o.getD i 0).toNat
        have hc := hc_ok ht (show 0 ≤ d.getD (o.getD i 0).toNat 0 ∧ d.getD (o.getD i 0).toNat 0 ≤ 350 by omega)
        have hcb : 0 ≤ hcV t (d.getD (o.getD i 0).toNat 0) ∧ hcV t (d.getD (o.getD i 0).toNat 0) ≤ 700 := by
          rw [hc]
          split <;> omega
        have hdrop : o.drop i = o.getD i 0 :: o.drop (i + 1) := by
          rw [List.drop_eq_getElem_cons hi, List.getD_eq_getElem?_getD, List.getElem?_eq_getElem hi]
          rfl
        have q1 : (i : Int) < (o.length : Int) := by omega
        have q2 : (0 : Int) ≤ (i : Int) := by omega
        have e1 : ((i + 1 : Nat) : Int) = (i : Int) + 1 := by omega
        have hx := ih (i + 1) (d.getD (o.getD i 0).toNat 0) (acc + hcV t (d.getD (o.getD i 0).toNat 0)) (by omega) hi (by omega) (by omega)
        rw [hdrop]
        unfold pc
        rw [← Int.add_assoc]
        obtain ⟨ew, ea⟩ : wrap64 ((i : Int) + 1) = (i : Int) + 1 ∧ wrap64 (acc + hcV t (d.getD (o.getD i 0).toNat 0)) = acc + hcV t (d.getD (o.getD i 0).toNat 0) := ⟨w64 (by omega) (by omega), w64 (by omega) (by omega)⟩
        have rdd : ∀ x : Int, rd d x = d.getD x.toNat 0 := fun x => rfl
        refine ev_next (f := fun k => (impl_HeatCost.f k t (d.getD (o.getD i 0).toNat 0)).bind fun t162 => (impl_OrderCost.l0 k d (d.getD (o.getD i 0).toNat 0) (wrap64 (acc + t162)) o (o.length : Int) ((i : Int) + 1))) (fun k => ?_) _ (Ev.bind (hcI _ _) ?_)
        · simp only [impl_OrderCost.l0]
          rw [if_pos q1, if_pos q2, if_pos q1, rd_eq o, if_pos hr.1, if_pos hr.2, rdd, ew]
        · rw [ea]
          rw [e1] at hx
          exact hx
    have h := go o.length 0 s 0 (by omega) (Nat.zero_le _) hs (by omega)
    rw [Int.zero_add, List.drop_zero] at h
    exact h
theorem ev_list {α β : Type} (g : Nat → α → Option β) (v : α → β) : ∀ (L : List α), (∀ x ∈ L, Ev (fun k => g k x) (v x)) → ∃ K, ∀ k, K ≤ k → ∀ x ∈ L, g k x = some (v x)
  | [], _ => ⟨0, fun _ _ x hx => absurd hx (by simp)⟩
  | a :: L, h => by
    obtain ⟨K1, h1⟩ := ev_list g v L (fun x hx => h x (List.mem_cons_of_mem _ hx))
    obtain ⟨K2, h2⟩ := h a List.mem_cons_self
    refine ⟨K1 + K2, fun k hk x hx => ?_⟩
    rcases List.mem_cons.1 hx with rfl | hx
    · exact h2 k (by omega)
    · exact h1 k (by omega) x hx
theorem bestHeatsI {d : List Int} (hd : ∀ x ∈ d, 150 ≤ x ∧ x ≤ 260) (hn : d.length ≤ 8) (hok : heatsOk d = true) (s : Int) (hs : 0 ≤ s ∧ s ≤ 350) : ∃ b, b ∈ comps d.length d.length [] ∧ (∀ o ∈ comps d.length d.length [], pc d s b ≤ pc d s o) ∧ Ev (fun k => impl_BestHeats.f k d s) (b, true) := by
  obtain ⟨b, e, hb, hm⟩ := vfold_least (pc d s) (comps d.length d.length []) (comps_ne d.length [] (Pre.nil _) (by simp))
  refine ⟨b, hb, hm, ?_⟩
  unfold impl_BestHeats.f
  simp only [heatsI, in_f, Option.bind_some, decide_eq_true_eq, if_pos hok, if_pos hs]
  obtain ⟨K, hK⟩ := ev_list (fun k o => impl_OrderCost.f k d o s) (pc d s) (comps d.length d.length []) (fun o ho => costHI hd hn hok ho s hs)
  refine ⟨K, fun k hk => ?_⟩
  have h := hK k hk
  show (if d.length ≤ 8 ∧ ∀ o ∈ comps d.length d.length [], (impl_OrderCost.f k d o s).isSome = true then some (vres ((comps d.length d.length []).foldl (vstep fun o => (impl_OrderCost.f k d o s).getD 0) none), true) else none) = _
  rw [if_pos ⟨hn, fun o ho => by rw [h o ho]; rfl⟩]
  rw [vfold_congr (fun o => (impl_OrderCost.f k d o s).getD 0) (pc d s) _ _ (fun o ho => by rw [h o ho, Option.getD_some]), e]
  rfl
theorem idxs_pw (n : Nat) : (idxs n).Pairwise (· < ·) := by
  unfold idxs
  rw [List.pairwise_map]
  exact (List.pairwise_lt_range (n := n)).imp (fun h => by omega)
theorem fall_mem {d : List Int} (hok : heatsOk d = true) : fallV d ∈ comps d.length d.length [] := by
  unfold fallV
  rw [if_pos hok]
  have hperm := isort_perm (fallLt d) (idxs d.length)
  have hnd : (idxs d.length).Nodup := by
    rw [List.nodup_iff_pairwise_ne]
    exact (idxs_pw d.length).imp (fun h => by omega)
  exact (comps_all _).2 ⟨by rw [hperm.length_eq, idxs_length], (hperm.nodup_iff).2 hnd, fun x hx => mem_idxs.1 ((hperm.mem_iff).1 hx)⟩
theorem fall_pw {d : List Int} (hok : heatsOk d = true) : (fallV d).Pairwise (fun a b => d.getD b.toNat 0 ≤ d.getD a.toNat 0) := by
  unfold fallV
  rw [if_pos hok]
  have h := isort_pw (fun i => - rd d i) (idxs d.length) (idxs_pw _)
  have e : (fun a b => decide ((fun i => - rd d i) a < (fun i => - rd d i) b)) = fallLt d := rfl
  rw [e] at h
  refine h.imp (fun {a b} h => ?_)
  have e1 : rd d a = d.getD a.toNat 0 := rfl
  have e2 : rd d b = d.getD b.toNat 0 := rfl
  rw [← e1, ← e2]
  omega
/-- From above, what falls costs the difference. -/
theorem pc_fall {d : List Int} (hd : ∀ x ∈ d, 150 ≤ x ∧ x ≤ 260) : ∀ (o : List Int) (s : Int), 0 ≤ s ∧ s ≤ 350 → o.Pairwise (fun a b => d.getD b.toNat 0 ≤ d.getD a.toNat 0) → (∀ i ∈ o, d.getD i.toNat 0 ≤ s) → ∃ m, pc d s o = s - m ∧ (o = [] ∧ m = s ∨ ∃ i ∈ o, m = d.getD i.toNat 0) ∧ (m ≤ s ∧ ∀ i ∈ o, m ≤ d.getD i.toNat 0)
  | [], s, _, _, _ => ⟨s, by simp [pc], .inl ⟨rfl, rfl⟩, Int.le_refl _, by simp⟩
  | j :: o, s, hs, hp, hle => by
    rw [List.pairwise_cons] at hp
    have hj := heat_rng hd j.toNat
    have hjs := hle j List.mem_cons_self
    obtain ⟨m, h1, h2, h3, h4⟩ := pc_fall hd o (d.getD j.toNat 0) (by omega) hp.2 (fun i hi => hp.1 i hi)
    refine ⟨m, ?_, .inr ?_, by omega, fun i hi => ?_⟩
    · unfold pc
      rw [hc_ok hs (by omega), if_neg (by omega), h1]
      omega
    · rcases h2 with ⟨_, h2⟩ | ⟨i, hi, h2⟩
      · exact ⟨j, List.mem_cons_self, h2⟩
      · exact ⟨i, List.mem_cons_of_mem _ hi, h2⟩
    · rcases List.mem_cons.1 hi with rfl | hi
      · exact h3
      · exact h4 i hi
/-! cooling -/
def coolS (x : Int) : Int := max (x - 1 - (x - 20) / 50) 20
def itC (x : Int) : Nat → Int
  | 0 => x
  | m + 1 => coolS (itC x m)
theorem coolS_bd {x : Int} (h : 20 ≤ x ∧ x ≤ 350) : 20 ≤ coolS x ∧ coolS x ≤ x := by
  unfold coolS
  omega
theorem itC_bd {x : Int} (h : 20 ≤ x ∧ x ≤ 350) : ∀ m, 20 ≤ itC x m ∧ itC x m ≤ x
  | 0 => ⟨h.1, Int.le_refl _⟩
  | m + 1 => by
    have h1 := itC_bd h m
    have h2 := coolS_bd (x := itC x m) (by omega)
    show 20 ≤ coolS (itC x m) ∧ coolS (itC x m) ≤ x
    omega
theorem itC_add (x : Int) (a : Nat) : ∀ b, itC (itC x a) b = itC x (a + b)
  | 0 => rfl
  | b + 1 => by
    show coolS (itC (itC x a) b) = coolS (itC x (a + b))
    rw [itC_add x a b]
theorem coolI (x : Int) (h : 20 ≤ x ∧ x ≤ 350) (m : Nat) (hm : m ≤ 1000) : Ev (fun k => impl_CoolAfter.f k x (m : Int)) (itC x m) := by
  unfold impl_CoolAfter.f
  simp only [in_f, Option.bind_some, decide_eq_true_eq, if_pos h]
  rw [decide_eq_true (show 0 ≤ (m : Int) ∧ (m : Int) ≤ 1000 by omega)]
  refine ev_next (f := fun k => impl_CoolAfter.l0 k x (m : Int) 0) (fun k => ?_) _ ?_
  · simp only [impl_CoolAfter.j0]
    rw [if_neg (by decide)]
  · have hl := ev_to (fun k (s : Int) i => impl_CoolAfter.l0 k s (m : Int) i) m (fun i s => s = itC x i) (itC x m) (fun i s hi hs => by
      have hb := itC_bd h i
      rw [← hs] at hb
      have es : mx (wrap64 (wrap64 (s - 1) - wrap64 (Int.tdiv (wrap64 (s - 20)) 50))) 20 = coolS s := by
        rw [w64 (x := s - 20) (by omega) (by omega), tdiv_pos (by omega), w64 (x := s - 1) (by omega) (by omega), w64 (x := (s - 20) / 50) (by omega) (by omega), w64 (by omega) (by omega), mx_eq]
        rfl
      have q : (i : Int) < (m : Int) := by omega
      have ew : wrap64 ((i : Int) + 1) = (i : Int) + 1 := by
        clear es
        exact w64 (by omega) (by omega)
      refine .inl ⟨coolS s, by rw [hs]; rfl, fun r hr => ev_next (fun k => ?_) r hr⟩
      simp only [impl_CoolAfter.l0]
      rw [if_pos q, es, ew]) (fun s hs => ev_now fun k => by
      simp only [impl_CoolAfter.l0]
      rw [if_neg (by omega), hs]) 0 x (Nat.zero_le _) rfl
    exact hl
theorem j3_f (l : List Int) (hw : ∀ x ∈ l, (Lit.int .u8 x).wf = true) (hll : l.length ≤ 1048576) (high : Int) (hh : high ≤ 350) : Ev (fun k => laws_FnHeats.j3 k l high false) true := by
  obtain ⟨a, ha, a0, a1⟩ := at_f l hw (by omega) 2 (by omega) (by omega)
  have ew : wrap64 (20 + a) = 20 + a := w64 (by omega) (by omega)
  have hA : 20 ≤ 20 + a ∧ 20 + a ≤ 350 := ⟨by clear ew; omega, by clear ew; omega⟩
  refine ev_next (f := fun k => (impl_CoolAfter.f k (20 + a) 5).bind fun t199 => ((impl_HeatCost.f k 100 130).bind fun t200 => (if t200 = 60 then ((impl_HeatCost.f k 130 100).bind fun t201 => (if t201 = 30 then (if t199 ≤ (20 + a) then (if t199 ≥ 20 then ((impl_CoolAfter.f k (20 + a) 6).bind fun t202 => (if t202 ≤ t199 then ((impl_CoolAfter.f k t199 3).bind fun t203 => ((impl_CoolAfter.f k (20 + a) 8).bind fun t204 => (if t203 = t204 then ((impl_CoolAfter.f k (20 + a) 0).bind fun t205 => (if t205 = (20 + a) then (some (decide (high ≤ 350))) else (some false))) else (some false)))) else (some false))) else (some false)) else (some false)) else (some false))) else (some false)))) (fun k => ?_) _ ?_
  · simp only [laws_FnHeats.j3, ha, Option.bind_some, ew]
    rw [if_neg (by decide)]
  · clear ew
    have e1 : hcV 100 130 = 60 := by decide
    have e2 : hcV 130 100 = 30 := by decide
    have b5 := itC_bd hA 5
    have b6 := coolS_bd (x := itC (20 + a) 5) (by omega)
    have c5 : Ev (fun k => impl_CoolAfter.f k (20 + a) 5) (itC (20 + a) 5) := coolI _ hA 5 (by omega)
    have c6 : Ev (fun k => impl_CoolAfter.f k (20 + a) 6) (itC (20 + a) 6) := coolI _ hA 6 (by omega)
    have c8 : Ev (fun k => impl_CoolAfter.f k (20 + a) 8) (itC (20 + a) 8) := coolI _ hA 8 (by omega)
    have c0 : Ev (fun k => impl_CoolAfter.f k (20 + a) 0) (itC (20 + a) 0) := coolI _ hA 0 (by omega)
    have c3 : Ev (fun k => impl_CoolAfter.f k (itC (20 + a) 5) 3) (itC (itC (20 + a) 5) 3) := coolI _ (by omega) 3 (by omega)
    rw [itC_add] at c3
    refine Ev.bind c5 (Ev.bind (hcI 100 130) ?_)
    rw [e1]
    simp only [if_true]
    refine Ev.bind (hcI 130 100) ?_
    rw [e2]
    simp only [if_true, if_pos b5.2, if_pos (show itC (20 + a) 5 ≥ 20 from b5.1)]
    refine Ev.bind c6 ?_
    simp only [if_pos (show itC (20 + a) 6 ≤ itC (20 + a) 5 from b6.2)]
    refine Ev.bind c3 (Ev.bind c8 ?_)
    simp only [show 5 + 3 = 8 from rfl, if_true]
    refine Ev.bind c0 ?_
    simp only [show itC (20 + a) 0 = 20 + a from rfl, if_true, decide_eq_true hh]
    exact Ev.now _
theorem l1_f {d b : List Int} (l : List Int) (hw : ∀ x ∈ l, (Lit.int .u8 x).wf = true) (hll : l.length ≤ 1048576) (hd : ∀ x ∈ d, 150 ≤ x ∧ x ≤ 260) (hn : d.length ≤ 8) (hok : heatsOk d = true) (s : Int) (hs : 0 ≤ s ∧ s ≤ 350) (hb : b ∈ comps d.length d.length []) :
    Ev (fun k => laws_FnHeats.l1 k l d s (pc d s b) (fallV d) 350 0 0) true := by
  have hf := fall_mem hok
  obtain ⟨fl, fp⟩ := (comps_all _).1 hf
  have hpw := fall_pw hok
  have hcost := costHI hd hn hok hf 350 (by omega)
  have hbm := (pc_bd hd b s hs).2.2
  obtain ⟨bl, bp⟩ := (comps_all _).1 hb
  obtain ⟨m, hm1, hm2, hm3, hm4⟩ := pc_fall hd (fallV d) 350 (by omega) hpw (fun i _ => by have := heat_rng hd i.toNat; omega)
  rw [hm1] at hcost
  generalize fallV d = f at *
  have h := ev_to (fun k (q : Int × Int) i => laws_FnHeats.l1 k l d s (pc d s b) f q.1 q.2 i) d.length (fun i q => (q.1 ≤ 350 ∧ 0 ≤ q.1) ∧ (∀ j, j < i → q.1 ≤ d.getD j 0) ∧ (q.1 = 350 ∨ ∃ j, j < i ∧ q.1 = d.getD j 0) ∧ q.2 ≤ 350) true (fun i q hi hp => by
      obtain ⟨low, high⟩ := q
      obtain ⟨p1, p2, p3, p4⟩ := hp
      simp only at p1 p2 p3 p4
      have hx := heat_rng hd i
      have fi : i < f.length := by omega
      have rng : ∀ j, j < f.length → 0 ≤ f.getD j 0 ∧ f.getD j 0 < (d.length : Int) := fun j hj => by
        rw [List.getD_eq_getElem?_getD, List.getElem?_eq_getElem hj]
        exact fp.rng _ (List.getElem_mem hj)
      have r1 := rng i fi
      have q1 : (i : Int) < (d.length : Int) := by omega
      have q2 : (0 : Int) ≤ (i : Int) := by omega
      have q3 : (i : Int) < (f.length : Int) := by omega
      have q4 : ¬ f.getD i 0 < 0 := by omega
      have q5 : ¬ f.getD i 0 ≥ (d.length : Int) := by omega
      have ew : wrap64 ((i : Int) + 1) = (i : Int) + 1 := w64 (by omega) (by omega)
      have rdd : ∀ x : Int, rd d x = d.getD x.toNat 0 := fun x => rfl
      refine .inl ⟨(mn low (d.getD i 0), mx high (d.getD i 0)), ?_, fun r hr => ?_⟩
      · clear ew
        simp only [mn_eq, mx_eq]
        refine ⟨by omega, fun j hj => ?_, ?_, by omega⟩
        · by_cases c : j = i
          · rw [c]
            omega
          · have := p2 j (by omega)
            omega
        · by_cases c : low ≤ d.getD i 0
          · rw [show min low (d.getD i 0) = low by omega]
            rcases p3 with p3 | ⟨j, hj, p3⟩
            · exact .inl p3
            · exact .inr ⟨j, by omega, p3⟩
          · exact .inr ⟨i, by omega, by omega⟩
      · by_cases cz : i = 0
        · have q6 : ¬ (i : Int) > 0 := by clear ew; omega
          refine ev_next (fun k => ?_) r hr
          simp only [laws_FnHeats.l1]
          rw [if_pos q1, if_pos q2, if_pos q3, rd_eq f, if_neg q4, if_neg q5, if_neg q6, rd_eq d, ew]
        · have q6 : (i : Int) > 0 := by clear ew; omega
          have r0 := rng (i - 1) (by clear ew; omega)
          have q7 : (0 : Int) ≤ ((i - 1 : Nat) : Int) := by clear ew; omega
          have q8 : ((i - 1 : Nat) : Int) < (f.length : Int) := by clear ew; omega
          have down := List.pairwise_iff_getElem.1 hpw (i - 1) i (by clear ew; omega) fi (by clear ew; omega)
          have g1 : f.getD i 0 = f[i] := by
            rw [List.getD_eq_getElem?_getD, List.getElem?_eq_getElem fi]
            rfl
          have g0 : f.getD (i - 1) 0 = f[i - 1]'(by clear ew; omega) := by
            rw [List.getD_eq_getElem?_getD, List.getElem?_eq_getElem (by clear ew; omega)]
            rfl
          rw [← g1, ← g0] at down
          have q9 : ¬ d.getD (f.getD i 0).toNat 0 > d.getD (f.getD (i - 1) 0).toNat 0 := by clear ew; omega
          have ei : wrap64 ((i : Int) - 1) = ((i - 1 : Nat) : Int) := by
            clear ew
            rw [w64 (by omega) (by omega)]
            omega
          refine ev_next (fun k => ?_) r hr
          simp only [laws_FnHeats.l1]
          rw [if_pos q1, if_pos q2, if_pos q3, rd_eq f, if_neg q4, if_neg q5, if_pos q6, if_pos r1.1, if_pos r1.2, ei, if_pos q7, if_pos q8, rd_eq f, if_pos r0.1, if_pos r0.2, rdd (f.getD i 0), rdd (f.getD (i - 1) 0), if_neg q9, rd_eq d, ew]) (fun q hp => by
      obtain ⟨low, high⟩ := q
      obtain ⟨p1, p2, p3, p4⟩ := hp
      simp only at p1 p2 p3 p4
      by_cases cz : d.length = 0
      · refine ev_next (fun k => ?_) _ (j3_f l hw hll high p4)
        simp only [laws_FnHeats.l1]
        rw [if_neg (by omega), if_neg (by omega)]
      · have h0 := p2 0 (by omega)
        have hx0 := heat_rng hd 0
        have hlow : ∃ j, j < d.length ∧ low = d.getD j 0 := by
          rcases p3 with p3 | p3
          · omega
          · exact p3
        have hml : m = low := by
          obtain ⟨j, hj, ej⟩ := hlow
          have h1 := hm4 (j : Int) (fp.full fl (j : Int) (by omega) (by omega))
          rw [Int.toNat_natCast] at h1
          rcases hm2 with ⟨he, _⟩ | ⟨i, hi, ei⟩
          · rw [he] at fl
            simp at fl
            omega
          · have hr := fp.rng i hi
            have h2 := p2 i.toNat (by omega)
            omega
        have ew : wrap64 (350 - low) = 350 - low := w64 (by omega) (by omega)
        have hbig : low < s → hcV s low ≤ pc d s b := fun hlt => by
          clear ew
          obtain ⟨j, hj, ej⟩ := hlow
          have h1 := hbm (j : Int) (bp.full bl (j : Int) (by omega) (by omega))
          rw [Int.toNat_natCast, ← ej] at h1
          rw [hc_ok hs (by omega), if_neg (by omega)]
          exact h1
        rw [hml] at hcost
        refine ev_next (f := fun k => (impl_OrderCost.f k d f 350).bind fun t196 => (if t196 = 350 - low then ((impl_HeatCost.f k s low).bind fun t197 => (if pc d s b < t197 then (laws_FnHeats.j3 k l high (decide (s > low))) else (laws_FnHeats.j3 k l high false))) else (laws_FnHeats.j3 k l high true))) (fun k => ?_) _ (Ev.bind hcost ?_)
        · simp only [laws_FnHeats.l1]
          rw [if_neg (by clear ew; omega), if_pos (by clear ew; omega), ew]
        · simp only [if_true]
          refine Ev.bind (hcI s low) ?_
          by_cases c : pc d s b < hcV s low
          · simp only [if_pos c]
            rw [decide_eq_false (show ¬ s > low from fun h => by have := hbig h; clear ew; omega)]
            exact j3_f l hw hll high p4
          · simp only [if_neg c]
            exact j3_f l hw hll high p4) 0 (350, 0) (Nat.zero_le _) ⟨by simp, fun j hj => absurd hj (Nat.not_lt_zero _), .inl rfl, by simp⟩
  exact h
theorem l0_f {d b : List Int} (l : List Int) (hw : ∀ x ∈ l, (Lit.int .u8 x).wf = true) (hll : l.length ≤ 1048576) (hd : ∀ x ∈ d, 150 ≤ x ∧ x ≤ 260) (hn : d.length ≤ 8) (hok : heatsOk d = true) (s : Int) (hs : 0 ≤ s ∧ s ≤ 350) (hb : b ∈ comps d.length d.length []) (hm : ∀ o ∈ comps d.length d.length [], pc d s b ≤ pc d s o) :
    Ev (fun k => laws_FnHeats.l0 k l d s (pc d s b) (fallV d) [] 0) true := by
  obtain ⟨a, ha, a0, a1⟩ := at_f l hw (by omega) 1 (by omega) (by omega)
  have h := ev_to (fun k (q : List Int) i => laws_FnHeats.l0 k l d s (pc d s b) (fallV d) q i) d.length (fun i q => q = (List.range i).map fun (k : Nat) => ((k : Int) + a) % (d.length : Int)) true (fun i q hi hq => by
      have hql : q.length = i := by rw [hq]; simp
      have q1 : (i : Int) < (d.length : Int) := by omega
      have q2 : ¬ (d.length : Int) = 0 := by omega
      have q3 : q.length < 17592186044416 := by omega
      obtain ⟨e1, e2⟩ : wrap64 ((i : Int) + 1) = (i : Int) + 1 ∧ wrap64 ((i : Int) + a) = (i : Int) + a := ⟨w64 (by omega) (by omega), w64 (by omega) (by omega)⟩
      have e3 : Int.tmod ((i : Int) + a) (d.length : Int) = ((i : Int) + a) % (d.length : Int) := tmod_pos (by clear e1 e2; omega)
      refine .inl ⟨q ++ [((i : Int) + a) % (d.length : Int)], by rw [hq, List.range_succ, List.map_append]; rfl, fun r hr2 => ev_next (fun k => ?_) r hr2⟩
      simp only [laws_FnHeats.l0]
      rw [if_pos q1, ha]
      simp only [Option.bind_some]
      rw [if_neg q2, if_pos q3, e1, e2, e3]) (fun q hq => by
      have hrot : q = rot d.length a := hq
      have hmem := rot_mem d.length a
      rw [← hrot] at hmem
      have hday := costHI hd hn hok hmem s hs
      have hle := hm q hmem
      refine ev_next (f := fun k => (impl_OrderCost.f k d q s).bind fun t187 => (if t187 < pc d s b then (some false) else (laws_FnHeats.l1 k l d s (pc d s b) (fallV d) 350 0 0))) (fun k => ?_) _ (Ev.bind hday ?_)
      · simp only [laws_FnHeats.l0]
        rw [if_neg (by omega)]
      · simp only [if_neg (show ¬ pc d s q < pc d s b by omega)]
        exact l1_f l hw hll hd hn hok s hs hb) 0 [] (Nat.zero_le _) rfl
  exact h
theorem FnHeats (l : List Int) (_ : l.length ≤ maxLen) (hbb : l.length * 1 ≤ 140737488351232) (hw : ∀ x ∈ l, (Lit.int .u8 x).wf = true) : ∃ k, laws_FnHeats.f k l = some true := by
  refine Ev.rounds ?_
  unfold laws_FnHeats.f
  simp only [big_f, Option.bind_some, decide_eq_true_eq]
  by_cases c : (l.length : Int) > 1048576
  · simp only [if_pos c]
    exact Ev.now _
  · simp only [if_neg c]
    obtain ⟨d, hdraw, hlen, hd⟩ := drawHeats_f l (by omega)
    have hn : d.length ≤ 8 := by omega
    have hok : heatsOk d = true := heatsOk_iff.2 ⟨hn, by
      unfold allOk
      rw [List.all_eq_true]
      intro x hx
      have := hd x hx
      exact decide_eq_true ⟨by omega, by omega⟩⟩
    obtain ⟨a, ha, a0, a1⟩ := at_f l hw (by omega) 0 (by omega) (by omega)
    have ew : wrap64 (a + 50) = a + 50 := w64 (by omega) (by omega)
    simp only [ha, Option.bind_some, ew]
    clear ew
    have hs : 0 ≤ a + 50 ∧ a + 50 ≤ 350 := by omega
    generalize a + 50 = s at hs
    obtain ⟨b, hb, hm, hI⟩ := bestHeatsI hd hn hok s hs
    have hcb := costHI hd hn hok hb s hs
    have hf := fall_mem hok
    have hcf := costHI hd hn hok hf s hs
    have hle := hm _ hf
    have h0 := (pc_bd hd b s hs).1
    have hbl := ((comps_all _).1 hb).1
    have hfl := ((comps_all _).1 hf).1
    refine Ev.bind hdraw (Ev.bind hI (Ev.bind hcb (Ev.bind (fallI d (by omega)) ?_)))
    simp only [if_true, if_pos (show (b.length : Int) = (d.length : Int) by omega), if_neg (show ¬ pc d s b < 0 by omega), if_pos (show ((fallV d).length : Int) = (d.length : Int) by omega)]
    refine Ev.bind hcf ?_
    rw [decide_eq_false (show ¬ pc d s (fallV d) < pc d s b by omega)]
    refine ev_next (f := fun k => laws_FnHeats.l0 k l d s (pc d s b) (fallV d) [] 0) (fun k => ?_) _ (l0_f l hw (by omega) hd hn hok s hs hb hm)
    simp only [laws_FnHeats.j0]
    rw [if_neg (by decide)]
end Go.Proofs.Ytkcfpkokgpimaaa.Pure
