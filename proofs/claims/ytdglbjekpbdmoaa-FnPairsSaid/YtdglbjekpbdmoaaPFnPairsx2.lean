/- What the Go functions that the law FnPairs reaches compute, each as a plain function, and that the machine's calls come to just that. No condition. -/
import Derived.Test.YtdglbjekpbdmoaaPFnPairsx0
import Derived.Test.YtdglbjekpbdmoaaPFnPairsx1
namespace Go.Proofs.Ytdglbjekpbdmoaa.PFnPairs
open Go.RowKit Go.Proofs.YtdglbjekpbdmoaaW.PrintWords Go.Proofs.YtdglbjekpbdmoaaW.PrintLast Go.Proofs.YtdglbjekpbdmoaaW.PrintMore
attribute [local go_sem] max2_int min2_int max_two min_two max_three min_three max_four min_four   -- for this text's walks alone
set_option linter.unusedVariables false
set_option linter.unusedSimpArgs false

/-! ### impl_indices: function 34 -/
def impl_indices.l0 : Nat → List Int → Int → Int → Option (List Int)
  | 0, _, _, _ => none
  | k + 1, x3, x6, x7 => if x7 < x6 then (if x3.length < 17592186044416 then (impl_indices.l0 k (x3 ++ [x7]) x6 (wrap64 (x7 + 1))) else (none)) else (some x3)
def impl_indices.f (k : Nat) (a0 : Int) : Option (List Int) := impl_indices.l0 k (([] : List Int)) a0 0
theorem impl_indices.mono_l : ∀ k, (∀ y0 y1 y2, LeO (impl_indices.l0 k y0 y1 y2) (impl_indices.l0 (k + 1) y0 y1 y2))
  | 0 => fun _ _ _ r h => by simp [impl_indices.l0] at h
  | k + 1 => by
    have ih0 := impl_indices.mono_l k
    · intro y0 y1 y2
      unfold impl_indices.l0
      repeat' first
      | (with_reducible exact ih0 _ _ _)
      | (with_reducible exact LeO.refl _)
      | (with_reducible exact LeO.none _)
      | (with_reducible refine LeO.ite ?_ ?_)
      | (with_reducible refine LeO.bind ?_ (fun _ => ?_))
      | exact ih0 _ _ _
      | exact LeO.none _
      | refine LeO.ite ?_ ?_
      | refine LeO.bind ?_ (fun _ => ?_)
theorem impl_indices.mono : ∀ a0 k, LeO (impl_indices.f k a0) (impl_indices.f (k + 1) a0) := by
  intro a0 k
  have ih0 := impl_indices.mono_l k
  unfold impl_indices.f
  repeat' first
      | (with_reducible exact ih0 _ _ _)
      | (with_reducible exact LeO.refl _)
      | (with_reducible exact LeO.none _)
      | (with_reducible refine LeO.ite ?_ ?_)
      | (with_reducible refine LeO.bind ?_ (fun _ => ?_))
      | exact ih0 _ _ _
      | exact LeO.none _
      | refine LeO.ite ?_ ?_
      | refine LeO.bind ?_ (fun _ => ?_)
set_option maxHeartbeats 8000000 in
set_option maxRecDepth 100000 in
theorem impl_indices.calls (k : Nat) (a0 : Int) (r : List Int) (w : World) (h : impl_indices.f k a0 = some r) :
    Calls Try.prog 34 #[.int .i64 a0] w fun e w' => ∃ v0_ : Value, e = .returned (v0_) ∧ Kd.R (Kd.int .i64) 3 w' w.heap.size (fun _ => True) v0_ r ∧ Below w.heap.size w w' := by
  have HB := Aside0.mk (Below.refl w.heap.size w)
  have H : (impl_indices.l0 k (([] : List Int)) a0 0) = some r := h
  clear h
  obtain ⟨y121, hy121⟩ : ∃ y_ : List Int, y_ = (([] : List Int)) := ⟨_, rfl⟩
  replace H : (impl_indices.l0 k y121 a0 0) = some r := by first | (rw [hy121]; with_reducible exact H) | (have H2_ := (Option.bind_some _ _).symm.trans H; rw [hy121]; with_reducible exact H2_) | (have H2_ := (Option.bind_some _ _).symm.trans H; with_reducible exact H2_) | with_reducible exact H | (rw [hy121]; exact H) | exact H
  have Ny121 := Aside0.mk hy121
  clear hy121
  have H' := Aside0.mk H
  clear H
  go_enter Try.func34, Try.ntmps34
  go_wp2_with (first | ((with_reducible refine gate_dst (N := 5) rfl ?_); refine Kd.R_lit (Kd.int .i64) _ 3 ?hg (N := 5) ?hd (xs := ([] : List Int)) (inner := []) (ok := fun _ => True) (okp := fun _ => True) ?hr ?hp (fun _ hk => hk) trivial (Below.refl _ _) (Nat.le_refl _) (by simp) ?_; (case hd => rfl); (case hg => rfl); (case hr => first | (go_simp; done) | (go_simp; rfl)); (case hp => exact (Reps.none _ _)); intro v122 w2 ho3 hb hg_ hnew_; clear hg_ hnew_; (first | rw [← Ny121.out] at ho3 | (simp only [Int.reduceToNat] at ho3; rw [← Ny121.out] at ho3)); have n0_ := Aside0.mk (Kd.R_lower ho3 (below_size (by repeat (first | (with_reducible first | exact HB.out | apply below_alloc | apply pw_below_drewN | apply below_drew1) | exact HB.out)))); have n1_ := Aside0.mk (below_step (by repeat (first | (with_reducible first | exact HB.out | apply below_alloc | apply pw_below_drewN | apply below_drew1) | exact HB.out)) hb); clear HB; have HO123 := n0_; have HB := n1_; clear n0_ n1_; clear hb ho3))
  go_loopg [3, 7] k (fun kq v3 v7 w' => ∃ (x3_1 : List Int) (x7_1 : Int), v7 = .int .i64 x7_1 ∧ Aside0 (impl_indices.l0 kq x3_1 a0 x7_1 = some r) ∧ Aside0 (kq ≤ k) ∧ Aside0 (Kd.R (Kd.int .i64) 3 w' w.heap.size (fun _ => True) v3 x3_1) ∧ Aside0 (Below w.heap.size w w'))
  case atStart => exact ⟨(y121), (0), (by first | rfl | (simp; done) | (simp [*]; done)), H', ⟨Nat.le_refl _⟩, ⟨by (with_reducible repeat (first | apply Kd.R_alloc | apply Kd.R_drewN | apply Kd.R_drew)); exact HO123.out⟩, ⟨by repeat (first | (with_reducible first | exact HB.out | apply below_alloc | apply pw_below_drewN | apply below_drew1) | exact HB.out)⟩⟩
  case round =>
    clear H'
    try clear p2
    try clear c3
    obtain ⟨x3_1, x7_1, rfl, HA, HK1, HO_3, HB⟩ := hrel
    cases gk with
    | zero => exact absurd HA.out (by simp [impl_indices.l0])
    | succ k1 =>
      have H := HA.out
      clear HA
      simp only [impl_indices.l0] at H
      by_cases c4 : x7_1 < a0
      · rw [if_pos c4] at H
        have c4b0 : decide (x7_1 < a0) = true := decide_eq_true c4
        clear c4
        by_cases c5 : x3_1.length < 17592186044416
        · rw [if_pos c5] at H
          have LMc5 := Aside0.mk c5
          clear c5
          obtain ⟨y124, hy124⟩ : ∃ y_ : List Int, y_ = (x3_1 ++ [x7_1]) := ⟨_, rfl⟩
          replace H : (impl_indices.l0 k1 y124 a0 (wrap64 (x7_1 + 1))) = some r := by first | (rw [hy124]; with_reducible exact H) | (have H2_ := (Option.bind_some _ _).symm.trans H; rw [hy124]; with_reducible exact H2_) | (have H2_ := (Option.bind_some _ _).symm.trans H; with_reducible exact H2_) | with_reducible exact H | (rw [hy124]; exact H) | exact H
          have Ny124 := Aside0.mk hy124
          clear hy124
          have H' := Aside0.mk H
          clear H
          go_wp2_with (first | ((with_reducible refine gate_builtin (b := .append) (xs := #[.tmp 10, .tmp 12]) rfl ?_); at_builtin; refine Kd.R_append (Kd.int .i64) (w0 := w) w.heap.size rfl (.tmp 10) (.tmp 12) 37 3 (.int .i64 0) 8 rfl Try.underlying37 info3 rfl (by decide) (by omega) u3 x3_1 x7_1 [.int .i64 x7_1] (fun _ => True) (fun _ => False) rfl rfl ?aP (fun _ hk => hk.elim) ?aF ?aO ?aB ?aS ?aL ?_; (case aP => exact rfl); (case aB => exact (by repeat (first | (with_reducible first | exact HB.out | apply below_alloc | apply pw_below_drewN | apply below_drew1) | exact HB.out))); (case aF => exact (fun _ _ => trivial)); (case aO => exact (by (with_reducible repeat (first | apply Kd.R_alloc | apply Kd.R_drewN | apply Kd.R_drew)); exact HO_3.out)); (case aS => exact (below_size (by repeat (first | (with_reducible first | exact HB.out | apply below_alloc | apply pw_below_drewN | apply below_drew1) | exact HB.out)))); (case aL => have := LMc5.out; omega); intro v125 w6 ho hb hg hat; rw [← Ny124.out] at ho; have n0_ := Aside0.mk (hb); have n1_ := Aside0.mk (ho); clear HB; clear HO_3; have HB := n0_; have HO126 := n1_; clear n0_ n1_; clear ho hb hg hat))
          go_roundg k1
          case measure => have := HK1.out; omega
          case rel => exact ⟨(y124), (wrap64 (x7_1 + 1)), (by first | rfl | (simp; done) | (simp [*]; done)), H', ⟨by have := HK1.out; omega⟩, ⟨by (with_reducible repeat (first | apply Kd.R_alloc | apply Kd.R_drewN | apply Kd.R_drew)); exact HO126.out⟩, ⟨by repeat (first | (with_reducible first | exact HB.out | apply below_alloc | apply pw_below_drewN | apply below_drew1) | exact HB.out)⟩⟩
        · rw [if_neg c5] at H
          exact absurd H (by simp)
      · rw [if_neg c4] at H
        have c4b0 : decide (x7_1 < a0) = false := decide_eq_false c4
        clear c4
        obtain rfl := Option.some.inj H
        go_wp2
        go_ret
        exact ⟨_, by first | rfl | (simp [errW_none, errW_some] <;> rfl) | (simp [*, errW_none, errW_some] <;> rfl), by (with_reducible repeat (first | apply Kd.R_alloc | apply Kd.R_drewN | apply Kd.R_drew)); exact HO_3.out, by repeat (first | (with_reducible first | exact HB.out | apply below_alloc | apply pw_below_drewN | apply below_drew1) | exact HB.out)⟩

-- NOT PRINTED: function 47 (slices_insertionSortCmpFunc_int)

-- NOT PRINTED: function 51 (slices_swapRangeCmpFunc_int)

-- NOT PRINTED: function 50 (slices_rotateCmpFunc_int)

-- NOT PRINTED: function 48 (slices_symMergeCmpFunc_int)

-- NOT PRINTED: function 42 (slices_stableCmpFunc_int)

-- NOT PRINTED: function 35 (slices_SortStableFunc_int_int)

-- NOT PRINTED: function 36 (impl_ApartBreads_1)

/-! ### impl_ApartBreads: function 20, with slices.SortStableFunc over indices, by hand -/
def idxs (n : Nat) : List Int := (List.range n).map fun k => ((k : Nat) : Int)
theorem mem_idxs {n : Nat} {i : Int} : i ∈ idxs n ↔ 0 ≤ i ∧ i < n := by
  unfold idxs
  rw [List.mem_map]
  constructor
  · rintro ⟨k, hk, rfl⟩
    rw [List.mem_range] at hk
    omega
  · rintro ⟨h0, h1⟩
    exact ⟨i.toNat, by rw [List.mem_range]; omega, by omega⟩
theorem idxs_succ (n : Nat) : idxs (n + 1) = idxs n ++ [(n : Int)] := by simp [idxs, List.range_succ]
theorem idxs_length (n : Nat) : (idxs n).length = n := by simp [idxs]
def insGo {α : Type} (lt : α → α → Bool) (x : α) : List α → List α → List α
  | [], B => x :: B
  | y :: R, B => if lt x y = true then insGo lt x R (y :: B) else (y :: R).reverse ++ x :: B
def isort {α : Type} (lt : α → α → Bool) (l : List α) : List α := l.foldl (fun A x => insGo lt x A.reverse []) []
theorem insGo_snoc {α : Type} (lt : α → α → Bool) (x : α) (R B : List α) : insGo lt x R B = insGo lt x R [] ++ B := by
  induction R generalizing B with
  | nil => rfl
  | cons y R ih =>
    unfold insGo
    by_cases h : lt x y = true
    · rw [if_pos h, if_pos h, ih (y :: B), ih [y]]
      simp
    · rw [if_neg h, if_neg h]
      simp
theorem swp_list {α : Type} [Inhabited α] (A B : List α) (x y : α) : Go.Sort.swp (A ++ y :: x :: B).toArray (A.length + 1) A.length = (A ++ x :: y :: B).toArray := by
  unfold Go.Sort.swp
  have e1 : (A ++ y :: x :: B).toArray[A.length]! = y := by
    rw [getElem!_pos _ _ (by simp)]
    simp
  have e2 : (A ++ y :: x :: B).toArray[A.length + 1]! = x := by
    rw [getElem!_pos _ _ (by simp)]
    simp
  rw [e1, e2]
  simp
theorem insInner_list {α : Type} [Inhabited α] (lt : α → α → Bool) (x : α) (R B : List α) : Go.Sort.insInner lt 0 R.length (R.reverse ++ x :: B).toArray = (insGo lt x R B).toArray := by
  induction R generalizing B with
  | nil => rfl
  | cons y R ih =>
    have e1 : ((y :: R).reverse ++ x :: B).toArray[R.length]! = y := by
      rw [getElem!_pos _ _ (by simp)]
      simp
    have e2 : ((y :: R).reverse ++ x :: B).toArray[R.length + 1]! = x := by
      rw [getElem!_pos _ _ (by simp)]
      simp
    rw [List.length_cons]
    unfold Go.Sort.insInner insGo
    rw [e1, e2]
    by_cases h : lt x y = true
    · rw [if_pos h, if_pos (by simp [h])]
      have := swp_list R.reverse B x y
      rw [List.length_reverse] at this
      rw [show (y :: R).reverse ++ x :: B = R.reverse ++ y :: x :: B by simp, this]
      exact ih (y :: B)
    · rw [if_neg h, if_neg (by simp [h])]
theorem insGo_length {α : Type} (lt : α → α → Bool) (x : α) (R B : List α) : (insGo lt x R B).length = R.length + B.length + 1 := by
  induction R generalizing B with
  | nil => simp [insGo]
  | cons y R ih =>
    unfold insGo
    by_cases h : lt x y = true
    · rw [if_pos h, ih]; simp; omega
    · rw [if_neg h]; simp; omega
theorem insOuter_list {α : Type} [Inhabited α] (lt : α → α → Bool) (b : Nat) (B A : List α) (hb : b = A.length + B.length) : Go.Sort.insOuter lt 0 b A.length (A ++ B).toArray = (B.foldl (fun A x => insGo lt x A.reverse []) A).toArray := by
  induction B generalizing A with
  | nil =>
    rw [Go.Sort.insOuter, if_neg (by simp at hb; omega)]
    simp
  | cons x B ih =>
    rw [Go.Sort.insOuter, if_pos (by simp at hb; omega)]
    have h := insInner_list lt x A.reverse B
    rw [List.reverse_reverse, List.length_reverse] at h
    rw [h, insGo_snoc, List.foldl_cons]
    have hl : (insGo lt x A.reverse []).length = A.length + 1 := by rw [insGo_length]; simp
    have := ih (insGo lt x A.reverse []) (by rw [hl, hb]; simp; omega)
    rw [hl] at this
    exact this
theorem insertionSort_list {α : Type} [Inhabited α] (lt : α → α → Bool) (l : List α) : Go.Sort.insertionSort lt l.toArray 0 l.length = (isort lt l).toArray := by
  unfold Go.Sort.insertionSort isort
  cases l with
  | nil =>
    rw [Go.Sort.insOuter, if_neg (by simp)]
    rfl
  | cons x l =>
    have := insOuter_list lt (x :: l).length l [x] (by simp; omega)
    exact this
theorem insGo_map {α β : Type} (f : α → β) (lt : α → α → Bool) (lt' : β → β → Bool) (x : α) (R B : List α) (h : ∀ y ∈ R, lt' (f x) (f y) = lt x y) : (insGo lt x R B).map f = insGo lt' (f x) (R.map f) (B.map f) := by
  induction R generalizing B with
  | nil => rfl
  | cons y R ih =>
    rw [List.map_cons]
    rw [insGo, insGo, h y List.mem_cons_self]
    by_cases c : lt x y = true
    · rw [if_pos c, if_pos c, ih (y :: B) (fun z hz => h z (List.mem_cons_of_mem _ hz))]
      rfl
    · rw [if_neg c, if_neg c]
      simp
theorem isort_map {α β : Type} (f : α → β) (lt : α → α → Bool) (lt' : β → β → Bool) (h : ∀ x y, lt' (f x) (f y) = lt x y) (l : List α) : (isort lt l).map f = isort lt' (l.map f) := by
  have : ∀ (l A : List α), (l.foldl (fun A x => insGo lt x A.reverse []) A).map f = (l.map f).foldl (fun A x => insGo lt' x A.reverse []) (A.map f) := by
    intro l
    induction l with
    | nil => intro A; rfl
    | cons x l ih =>
      intro A
      rw [List.foldl_cons, List.map_cons, List.foldl_cons, ih, insGo_map f lt lt' x _ _ (fun y _ => h x y), List.map_reverse, List.map_nil]
  exact this l []
/-- sorted by key, stable -/
theorem insGo_perm {α : Type} (lt : α → α → Bool) (x : α) (R B : List α) : (insGo lt x R B).Perm (x :: (R.reverse ++ B)) := by
  induction R generalizing B with
  | nil => simp [insGo]
  | cons y R ih =>
    unfold insGo
    by_cases h : lt x y = true
    · rw [if_pos h]
      refine (ih (y :: B)).trans ?_
      simp
    · rw [if_neg h]
      exact List.perm_middle
theorem isort_perm {α : Type} (lt : α → α → Bool) (l : List α) : (isort lt l).Perm l := by
  have : ∀ (l A : List α), (l.foldl (fun A x => insGo lt x A.reverse []) A).Perm (A ++ l) := by
    intro l
    induction l with
    | nil => intro A; simp
    | cons x l ih =>
      intro A
      rw [List.foldl_cons]
      refine (ih _).trans ?_
      have h := insGo_perm lt x A.reverse []
      rw [List.reverse_reverse, List.append_nil] at h
      exact (h.append_right l).trans List.perm_middle.symm
  exact this l []
/-- The order that a stable sort leaves: by the key, then by the place. -/
theorem insGo_pw (key : Int → Int) (x : Int) (R B : List Int)
    (hp : (R.reverse ++ B).Pairwise (fun a b => key a < key b ∨ key a = key b ∧ a < b)) (hB : ∀ b ∈ B, key x < key b) (hR : ∀ y ∈ R, y < x) :
    (insGo (fun a b => decide (key a < key b)) x R B).Pairwise (fun a b => key a < key b ∨ key a = key b ∧ a < b) := by
  induction R generalizing B with
  | nil =>
    unfold insGo
    refine List.pairwise_cons.2 ⟨fun b hb => .inl (hB b hb), by simpa using hp⟩
  | cons y R ih =>
    unfold insGo
    by_cases h : key x < key y
    · rw [if_pos (decide_eq_true h)]
      refine ih (y :: B) (by simpa using hp) (fun b hb => ?_) (fun z hz => hR z (List.mem_cons_of_mem _ hz))
      rcases List.mem_cons.1 hb with rfl | hb
      · exact h
      · exact hB b hb
    · rw [if_neg (by simpa using h)]
      rw [List.pairwise_append] at hp ⊢
      obtain ⟨h1, h2, h3⟩ := hp
      refine ⟨h1, List.pairwise_cons.2 ⟨fun b hb => .inl (hB b hb), h2⟩, fun a ha b hb => ?_⟩
      rcases List.mem_cons.1 hb with rfl | hb
      · have ha' : a ∈ y :: R := List.mem_reverse.1 ha
        have hlt := hR a ha'
        rw [List.reverse_cons, List.pairwise_append] at h1
        rcases List.mem_cons.1 ha' with rfl | hm
        · by_cases e : key a = key b
          · exact .inr ⟨e, hlt⟩
          · exact .inl (by omega)
        · have h4 := h1.2.2 a (List.mem_reverse.2 hm) y (by simp)
          by_cases e : key a = key b
          · exact .inr ⟨e, hlt⟩
          · exact .inl (by omega)
      · exact h3 a ha b hb
theorem isort_pw (key : Int → Int) (l : List Int) (hl : l.Pairwise (· < ·)) : (isort (fun a b => decide (key a < key b)) l).Pairwise (fun a b => key a < key b ∨ key a = key b ∧ a < b) := by
  have : ∀ (l A : List Int), A.Pairwise (fun a b => key a < key b ∨ key a = key b ∧ a < b) → l.Pairwise (· < ·) → (∀ a ∈ A, ∀ b ∈ l, a < b) → (l.foldl (fun A x => insGo (fun a b => decide (key a < key b)) x A.reverse []) A).Pairwise (fun a b => key a < key b ∨ key a = key b ∧ a < b) := by
    intro l
    induction l with
    | nil => intro A h _ _; exact h
    | cons x l ih =>
      intro A hA hl hAl
      rw [List.foldl_cons]
      rw [List.pairwise_cons] at hl
      refine ih _ (insGo_pw key x A.reverse [] (by simpa using hA) (by simp) (fun y hy => hAl y (List.mem_reverse.1 hy) x List.mem_cons_self)) hl.2 (fun a ha b hb => ?_)
      have h := (insGo_perm (fun a b => decide (key a < key b)) x A.reverse []).mem_iff.1 ha
      rcases List.mem_cons.1 h with rfl | h
      · exact hl.1 b hb
      · exact hAl a (by simpa using h) b (List.mem_cons_of_mem _ hb)
  exact this l [] List.Pairwise.nil hl (by simp)
shelf_lay_g SlLaysF.n20 Slsf 20 at Try 47 as insLay
def encF {n : Nat} (i : Fin n) : Value := .int .i64 (i.val : Int)
theorem oneF {n : Nat} : Go.Proofs.OneCell (@encF n) := fun _ => rfl
set_option maxHeartbeats 8000000 in
set_option maxRecDepth 100000 in
theorem stable_calls {n : Nat} [Inhabited (Fin n)] (cf : Fin n → Fin n → Int) (g : Nat) (cb : Array Value) (blk cap : Nat) (d : Array (Fin n)) (w : World) (h20 : d.size < 20)
    (eg : ∀ args w, (callFunc g args).run Try.prog w = .ok (.enter g args) w) (hcmp : Go.Proofs.CmpReads Try.prog g cb encF cf blk 0 d.size w) (hH : Go.Sort.Holds encF w blk 0 d) :
    Calls Try.prog 42 #[.slice (some ⟨blk, 0, none⟩) d.size cap, .int .i64 d.size, .func (.func g) #[] cb] w fun e w' => e = .returned (.tuple #[]) ∧ ∃ q, w' = (Go.Sort.putRow encF w blk 0 (Go.Sort.insertionSort (Go.Proofs.ltOf cf) d 0 d.size)).drewN q := by
  have hcon := Go.Proofs.Any.insertionSortCmpFunc_one insLay encF oneF cf g cb blk 0 cap 0 d.size d w eg hcmp hH (Nat.zero_le _) (Nat.le_refl _) (by omega)
  change Calls Try.prog 47 #[.slice (some ⟨blk, 0, none⟩) d.size cap, .int .i64 0, .int .i64 d.size, .func (.func g) #[] cb] w _ at hcon
  generalize Go.Sort.insertionSort (Go.Proofs.ltOf cf) d 0 d.size = r at hcon ⊢
  clear hH hcmp
  generalize hm : d.size = m at hcon h20 ⊢
  clear hm d
  have c1 : decide ((20 : Int) ≤ (m : Int)) = false := decide_eq_false (by omega)
  have c2 : decide ((20 : Int) < (m : Int)) = false := decide_eq_false (by omega)
  go_enter Try.func42, Try.ntmps42
  go_wp2
  go_loopg [7, 8] 0 (fun _ s7 s8 wr => s7 = .int .i64 0 ∧ s8 = .int .i64 20 ∧ wr = w)
  case atStart => exact ⟨rfl, rfl, rfl⟩
  case round =>
    obtain ⟨rfl, rfl, rfl⟩ := hrel
    go_wp2_with (go_at_call 47; refine hcon.mono ?_; rintro e w' ⟨rfl, q, rfl⟩)
    go_loopg [6, 7] 0 (fun _ s6 s7 w2 => s6 = .int .i64 20 ∧ s7 = .int .i64 0 ∧ ∃ q, w2 = (Go.Sort.putRow encF wr blk 0 r).drewN q)
    case atStart => exact ⟨rfl, rfl, _, rfl⟩
    case round =>
      obtain ⟨rfl, rfl, q2, rfl⟩ := hrel
      go_wp2
      go_end0
      exact ⟨rfl, q2, rfl⟩
set_option maxHeartbeats 8000000 in
set_option maxRecDepth 100000 in
theorem sortStable_calls {n : Nat} [Inhabited (Fin n)] (cf : Fin n → Fin n → Int) (g : Nat) (cb : Array Value) (blk cap : Nat) (d : Array (Fin n)) (w : World) (h20 : d.size < 20)
    (eg : ∀ args w, (callFunc g args).run Try.prog w = .ok (.enter g args) w) (hcmp : Go.Proofs.CmpReads Try.prog g cb encF cf blk 0 d.size w) (hH : Go.Sort.Holds encF w blk 0 d) :
    Calls Try.prog 35 #[.slice (some ⟨blk, 0, none⟩) d.size cap, .func (.func g) #[] cb] w fun e w' => e = .returned (.tuple #[]) ∧ ∃ q, w' = (Go.Sort.putRow encF w blk 0 (Go.Sort.insertionSort (Go.Proofs.ltOf cf) d 0 d.size)).drewN q := by
  have hcon := stable_calls cf g cb blk cap d w h20 eg hcmp hH
  generalize Go.Sort.insertionSort (Go.Proofs.ltOf cf) d 0 d.size = r at hcon ⊢
  clear hH hcmp
  generalize hm : d.size = m at hcon h20 ⊢
  clear hm d
  go_enter Try.func35, Try.ntmps35
  go_wp2_with (go_at_call 42; refine hcon.mono ?_; rintro e w' ⟨rfl, q, rfl⟩)
  go_end0
  exact ⟨rfl, q, rfl⟩
/-! nothing to sort -/
set_option maxHeartbeats 8000000 in
set_option maxRecDepth 100000 in
theorem ins_nil (A : Option Addr) (c g : Nat) (cb : Array Value) (w : World) : Calls Try.prog 47 #[.slice A 0 c, .int .i64 0, .int .i64 0, .func (.func g) #[] cb] w fun e w' => e = .returned (.tuple #[]) ∧ w' = w := by
  go_enter Try.func47, Try.ntmps47
  go_wp2
  go_loopg [8] 0 (fun _ s8 wr => s8 = .int .i64 1 ∧ wr = w)
  case atStart => exact ⟨rfl, rfl⟩
  case round =>
    obtain ⟨rfl, rfl⟩ := hrel
    go_wp2
    go_end0
    exact ⟨rfl, rfl⟩
set_option maxHeartbeats 8000000 in
set_option maxRecDepth 100000 in
theorem stable_nil (A : Option Addr) (c g : Nat) (cb : Array Value) (w : World) : Calls Try.prog 42 #[.slice A 0 c, .int .i64 0, .func (.func g) #[] cb] w fun e w' => e = .returned (.tuple #[]) ∧ w' = w := by
  have hcon := ins_nil A c g cb w
  go_enter Try.func42, Try.ntmps42
  go_wp2
  go_loopg [7, 8] 0 (fun _ s7 s8 wr => s7 = .int .i64 0 ∧ s8 = .int .i64 20 ∧ wr = w)
  case atStart => exact ⟨rfl, rfl, rfl⟩
  case round =>
    obtain ⟨rfl, rfl, rfl⟩ := hrel
    go_wp2_with (go_at_call 47; refine hcon.mono ?_; rintro e w' ⟨rfl, rfl⟩)
    go_loopg [6, 7] 0 (fun _ s6 s7 w2 => s6 = .int .i64 20 ∧ s7 = .int .i64 0 ∧ w2 = w')
    case atStart => exact ⟨rfl, rfl, rfl⟩
    case round =>
      obtain ⟨rfl, rfl, rfl⟩ := hrel
      go_wp2
      go_end0
      exact ⟨rfl, rfl⟩
set_option maxHeartbeats 8000000 in
set_option maxRecDepth 100000 in
theorem sortStable_nil (A : Option Addr) (c g : Nat) (cb : Array Value) (w : World) : Calls Try.prog 35 #[.slice A 0 c, .func (.func g) #[] cb] w fun e w' => e = .returned (.tuple #[]) ∧ w' = w := by
  have hcon := stable_nil A c g cb w
  go_enter Try.func35, Try.ntmps35
  go_wp2_with (go_at_call 42; refine hcon.mono ?_; rintro e w' ⟨rfl, rfl⟩)
  go_end0
  exact ⟨rfl, rfl⟩
theorem putRow_heap {α : Type} [Inhabited α] (enc : α → Value) (w : World) (blk m q : Nat) (d : Array α) (os : Array Obj) (k : Nat) (hk : k < w.heap.size) (hne : k ≠ blk) :
    ((Go.Proofs.sortWorld enc w blk 0 m d os).drewN q).heap[k]? = w.heap[k]? := by
  show (Go.Sort.grow (Go.Sort.putRow enc (Go.Sort.ahead w m) blk 0 d) os).heap[k]? = _
  unfold Go.Sort.grow Go.Sort.putRow Go.Sort.mapBlock Go.Sort.ahead
  simp only
  rw [Array.getElem?_append_left (by simpa using hk), Array.getElem?_modify, if_neg (fun e => hne e.symm)]
/-- SortStableFunc over the indices below n (n < 20), cmp a closure that only reads: it leaves the stable order. -/
theorem sortStable_R (cI : Int → Int → Int) (g : Nat) (cb : Array Value) (n : Nat) (v : Value) (base : Nat) (ok : Nat → Prop) (w : World) (h20 : n < 20)
    (eg : ∀ args w, (callFunc g args).run Try.prog w = .ok (.enter g args) w)
    (hcmp : ∀ W : World, w.grownBy W v.ownBlock → ∀ x y : Int, 0 ≤ x → x < n → 0 ≤ y → y < n →
      Calls Try.prog g (#[.int .i64 x, .int .i64 y] ++ cb) W fun e w' => e = .returned (.int .i64 (cI x y)) ∧ ∃ q, w' = W.drewN q)
    (ho : Kd.R (Kd.int .i64) 3 w base ok v (idxs n)) :
    Calls Try.prog 35 #[v, .func (.func g) #[] cb] w fun e w' => e = .returned (.tuple #[]) ∧ Kd.R (Kd.int .i64) 3 w' base ok v (isort (fun a b => decide (cI a b < 0)) (idxs n)) ∧ w.grownBy w' v.ownBlock := by
  have hln := idxs_length n
  by_cases hp : 0 < n
  · obtain ⟨blk, cap, rfl, hbg, hlt, _, _⟩ := Kd.R_form ho (by rw [hln]; exact hp)
    haveI : Inhabited (Fin n) := ⟨⟨0, hp⟩⟩
    have hds : (Array.ofFn (fun i : Fin n => i)).size = n := Array.size_ofFn
    have hH : Go.Sort.Holds encF w blk 0 (Array.ofFn (fun i : Fin n => i)) := by
      intro j hj
      have hj' : j < n := by rw [hds] at hj; exact hj
      obtain ⟨h1, h2⟩ := Kd.R_celln 0 ho (j : Int) (by omega) (by rw [hln]; omega)
      rw [Int.toNat_natCast] at h1 h2
      rw [Nat.zero_add, getElem!_pos _ j hj, Array.getElem_ofFn]
      unfold rdOf at h1
      rw [Int.toNat_natCast, List.getD_eq_getElem?_getD, List.getElem?_eq_getElem (by rw [hln]; exact hj')] at h1
      refine ⟨h1.trans ?_, h2⟩
      simp [idxs, encF]
    have hown := Kd.own_of_R ho
    rw [hln] at hown
    have hc := sortStable_calls (n := n) (fun x y => cI (x.val : Int) (y.val : Int)) g cb blk cap (Array.ofFn (fun i : Fin n => i)) w (by rw [hds]; exact h20) eg (fun m os dk _ x y => by
      refine hcmp (Go.Proofs.sortWorld encF w blk 0 m dk os) ⟨rfl, rfl, rfl, ?_, fun k hk hne => ?_⟩ _ _ (by omega) (by omega) (by omega) (by omega)
      · unfold Go.Proofs.sortWorld Go.Sort.grow Go.Sort.putRow Go.Sort.mapBlock Go.Sort.ahead
        simp
      · exact putRow_heap encF w blk m 0 dk os k hk (fun e => hne (by rw [e]; rfl))) hH
    rw [hds] at hc
    have hres : Go.Sort.insertionSort (Go.Proofs.ltOf fun (x y : Fin n) => cI (x.val : Int) (y.val : Int)) (Array.ofFn (fun i : Fin n => i)) 0 n = (isort (Go.Proofs.ltOf fun (x y : Fin n) => cI (x.val : Int) (y.val : Int)) (List.ofFn (fun i : Fin n => i))).toArray := by
      have := insertionSort_list (Go.Proofs.ltOf fun (x y : Fin n) => cI (x.val : Int) (y.val : Int)) (List.ofFn (fun i : Fin n => i))
      rw [List.length_ofFn] at this
      rw [← this]
      congr 1
      apply Array.ext'
      simp
    have hmap : (isort (Go.Proofs.ltOf fun (x y : Fin n) => cI (x.val : Int) (y.val : Int)) (List.ofFn (fun i : Fin n => i))).map (fun i => (i.val : Int)) = isort (fun a b => decide (cI a b < 0)) (idxs n) := by
      rw [isort_map (fun i : Fin n => (i.val : Int)) (Go.Proofs.ltOf fun (x y : Fin n) => cI (x.val : Int) (y.val : Int)) (fun a b => decide (cI a b < 0)) (fun x y => rfl)]
      congr 1
      unfold idxs
      apply List.ext_getElem
      · simp
      · intro i h1 h2
        simp
    rw [hres] at hc
    have hll : (isort (Go.Proofs.ltOf fun (x y : Fin n) => cI (x.val : Int) (y.val : Int)) (List.ofFn (fun i : Fin n => i))).length = n := by rw [(isort_perm _ _).length_eq, List.length_ofFn]
    generalize isort (Go.Proofs.ltOf fun (x y : Fin n) => cI (x.val : Int) (y.val : Int)) (List.ofFn (fun i : Fin n => i)) = L at hc hmap hll
    rw [← hmap]
    rw [hln]
    refine hc.mono ?_
    rintro e w' ⟨rfl, q, rfl⟩
    obtain ⟨_, hcase⟩ := hown
    rcases hcase with ⟨he, _⟩ | ⟨g', cap', cur, he, hb', hh, hnc, hcm, hcs, ht⟩
    · cases he
    · injection he with ha _ hcap
      injection ha with ha
      injection ha with hgg
      subst hgg hcap
      have hheap : ((Go.Sort.putRow encF w blk 0 L.toArray).drewN q).heap[blk]? = some (.cells (Go.Sort.putCells encF 0 L.toArray cur) 3 (0, 0)) := by
        show (Go.Sort.putRow encF w blk 0 L.toArray).heap[blk]? = _
        unfold Go.Sort.putRow Go.Sort.mapBlock
        simp only
        rw [Array.getElem?_modify, if_pos rfl, hh]
        rfl
      have hgr : w.grownBy ((Go.Sort.putRow encF w blk 0 L.toArray).drewN q) (some blk) := by
        refine ⟨rfl, rfl, rfl, ?_, fun k hk hne => ?_⟩
        · show w.heap.size ≤ (Go.Sort.putRow encF w blk 0 L.toArray).heap.size
          unfold Go.Sort.putRow Go.Sort.mapBlock
          simp
        · show (Go.Sort.putRow encF w blk 0 L.toArray).heap[k]? = _
          unfold Go.Sort.putRow Go.Sort.mapBlock
          simp only
          rw [Array.getElem?_modify, if_neg (fun e => hne (by rw [e]))]
      generalize (Go.Sort.putRow encF w blk 0 L.toArray).drewN q = w' at hheap hgr
      have hsz2 : (Go.Sort.putCells encF 0 L.toArray cur).size = cur.size := by unfold Go.Sort.putCells; simp
      have hcells : (Go.Sort.putCells encF 0 L.toArray cur).toList.take (n * 1) = encs (Value.int .i64) (L.map fun i => (i.val : Int)) := by
        apply List.ext_getElem?
        intro j
        rw [Nat.mul_one, List.getElem?_take]
        unfold encs
        rw [List.getElem?_map, List.getElem?_map]
        by_cases hj : j < n
        · rw [if_pos hj, Array.getElem?_toList]
          unfold Go.Sort.putCells
          rw [Array.getElem?_mapIdx, Array.getElem?_eq_getElem (by omega), Option.map_some, if_pos ⟨Nat.zero_le _, by simp; omega⟩, List.getElem?_eq_getElem (by omega)]
          simp only [Option.map_some, Nat.sub_zero]
          rw [getElem!_pos _ j (by simp; omega)]
          rfl
        · rw [if_neg hj, List.getElem?_eq_none (by omega)]
          rfl
      have hrow : w'.ownsRow base 3 1 (.slice (some ⟨blk, 0, none⟩) n cap) (L.map fun i => (i.val : Int)).length (encs (Value.int .i64) (L.map fun i => (i.val : Int))) := by
        refine ⟨by simp [encs], .inr ⟨blk, cap, _, by rw [List.length_map, hll], hbg, hheap, by rw [List.length_map]; omega, hcm, by rw [hsz2]; exact hcs, ?_⟩⟩
        rw [List.length_map, hll]
        exact hcells
      exact ⟨rfl, Kd.R_of_own hrow (fun k hk => ho.1 k (by rw [hln]; exact hk)), hgr⟩
  · obtain rfl : n = 0 := by omega
    obtain ⟨A, c, rfl⟩ := Kd.R_slice ho
    refine (sortStable_nil A c g cb w).mono ?_
    rintro e w' ⟨rfl, rfl⟩
    exact ⟨rfl, ho, ⟨rfl, rfl, rfl, Nat.le_refl _, fun _ _ _ => rfl⟩⟩
theorem apart_enters : ∀ args w, (callFunc 36 args).run Try.prog w = .ok (.enter 36 args) w := enters_of Try.func36 (by kernel_rfl) rfl
set_option maxHeartbeats 8000000 in
set_option maxRecDepth 100000 in
/-- The closure of ApartBreads: the first one's upper heat less the second one's. -/
theorem apart_closure (x y : Int) (A0 : Option Addr) (c0 : Nat) (l0 : List S25) (B1 : Nat) (w : World) (hx : 0 ≤ x ∧ x < (l0.length : Int)) (hy : 0 ≤ y ∧ y < (l0.length : Int))
    (h1 : w.cell? ⟨B1, 0, none⟩ = some (.slice A0 l0.length c0)) (hr0 : Kd.C k25 w A0 l0.length l0) :
    Calls Try.prog 36 #[.int .i64 x, .int .i64 y, .pointer (some ⟨B1, 0, none⟩)] w fun e w' => e = .returned (.int .i64 (wrap64 ((rd_T25 l0 x).f1 - (rd_T25 l0 y).f1))) ∧ ∃ q, w' = w.drewN q := by
  have hu := Try.underlying25
  obtain ⟨ad, e0, hx_0, hx_1, hx_2⟩ := at_T25 hr0 x hx.1 hx.2
  cases e0
  obtain ⟨ad', e0, hy_0, hy_1, hy_2⟩ := at_T25 hr0 y hy.1 hy.2
  cases e0
  obtain ⟨px, qx⟩ := hx
  obtain ⟨py, qy⟩ := hy
  generalize rd_T25 l0 x = ex at hx_0 hx_1 hx_2 ⊢
  generalize rd_T25 l0 y = ey at hy_0 hy_1 hy_2 ⊢
  clear hr0
  obtain ⟨x0, x1, x2⟩ := ex
  obtain ⟨y0, y1, y2⟩ := ey
  simp only at hx_0 hx_1 hx_2 hy_0 hy_1 hy_2 ⊢
  clear hx_0 hx_2 hy_0 hy_2
  go_enter Try.func36, Try.ntmps36
  go_wp2
  repeat (go_quiet (fail); try go_wp2)
  go_ret
  exact ⟨by first | rfl | (rw [IntKind.wrap_i64]; rfl) | (unfold wrap64; simp; done), _, rfl⟩
theorem apart_worlds (A0 : Option Addr) (c0 : Nat) (l0 : List S25) (w w3 : World) (v : Value) (h1 : w3.cell? ⟨w.heap.size, 0, none⟩ = some (.slice A0 l0.length c0)) (hr0 : Kd.C k25 w A0 l0.length l0) (hb : Below w.heap.size w w3) (hn : ∀ q, v.ownBlock = some q → w.heap.size < q) :
    ∀ W : World, w3.grownBy W v.ownBlock → ∀ x y : Int, 0 ≤ x → x < (l0.length : Int) → 0 ≤ y → y < (l0.length : Int) →
      Calls Try.prog 36 (#[.int .i64 x, .int .i64 y] ++ #[.pointer (some ⟨w.heap.size, 0, none⟩)]) W fun e w' => e = .returned (.int .i64 (wrap64 ((rd_T25 l0 x).f1 - (rd_T25 l0 y).f1))) ∧ ∃ q, w' = W.drewN q := fun W hg x y hx0 hx1 hy0 hy1 =>
  apart_closure x y A0 c0 l0 w.heap.size W ⟨hx0, hx1⟩ ⟨hy0, hy1⟩ (hg.cell h1 (fun e => Nat.lt_irrefl _ (hn _ e.symm))) (Kd.C_below hr0 (hb.grown hg hb.size (fun q hq => Nat.le_of_lt (hn q hq))))
theorem apart_lt {w : World} {base : Nat} {ok : Nat → Prop} {v : Value} {L : List Int} {A : Option Addr} {c B : Nat} (h : Kd.R (Kd.int .i64) 3 w base ok v L) (e : v = .slice A L.length c) (hb : ∀ q, v.ownBlock = some q → q < B) : ∀ ad, A = some ad → 0 < L.length → ad.block < B := by
  intro ad ha hp
  obtain ⟨g, cap, e2, _⟩ := Kd.R_form h hp
  have h2 := hb g (by rw [e2]; rfl)
  rw [e2, ha] at e
  injection e with e3
  injection e3 with e3
  rw [← e3]
  exact h2
def apStep (l0 : List S25) (s : List Int × Int) (i : Int) : List Int × Int := if (rd_T25 l0 i).f0 ≤ s.2 ∧ s.2 ≤ (rd_T25 l0 i).f1 then s else (s.1 ++ [i], (rd_T25 l0 i).f1)
def apLt (l0 : List S25) : Int → Int → Bool := fun a b => decide (wrap64 ((rd_T25 l0 a).f1 - (rd_T25 l0 b).f1) < 0)
def impl_ApartBreads.f (k : Nat) (l0 : List S25) : Option (List Int) := (impl_breadsOk.f l0).bind fun t => if t = true then ((impl_indices.f k (l0.length : Int)).bind fun ix => if ix = idxs l0.length ∧ l0.length < 20 then some ((isort (apLt l0) ix).foldl (apStep l0) ([], 0)).1 else none) else some []
theorem impl_ApartBreads.mono : ∀ a0 k, LeO (impl_ApartBreads.f k a0) (impl_ApartBreads.f (k + 1) a0) := fun a0 k =>
  LeO.bind (LeO.refl _) (fun _ => LeO.ite (LeO.bind (impl_indices.mono _ k) (fun _ => LeO.refl _)) (LeO.refl _))
set_option maxHeartbeats 8000000 in
set_option maxRecDepth 100000 in
theorem impl_ApartBreads.calls (k : Nat) (A0 : Option Addr) (c0 : Nat) (l0 : List S25) (r : List Int) (w : World) (hr0 : Kd.C k25 w A0 l0.length l0) (hc0 : l0.length ≤ c0) (h : impl_ApartBreads.f k l0 = some r) :
    Calls Try.prog 20 #[.slice A0 l0.length c0] w fun e w' => ∃ v0_ : Value, e = .returned (v0_) ∧ Kd.R (Kd.int .i64) 3 w' w.heap.size (fun _ => True) v0_ r ∧ Below w.heap.size w w' := by
  have hu := Try.underlying25
  have HR0 := Aside0.mk hr0
  have HC0 := Aside0.mk hc0
  have HB1 := Aside0.mk (below_alloc (Below.refl w.heap.size w) (.cells #[.slice A0 l0.length c0] 32))
  have HC1 := Aside0.mk (Kd.C_below hr0 HB1.out)
  clear hr0 hc0
  have h' := h
  clear h
  unfold impl_ApartBreads.f at h'
  replace h' := Option.bind_eq_some_iff.mp h'
  obtain ⟨t, ht, h⟩ := h'
  have HT := Aside0.mk ht
  clear ht
  by_cases ct : t = true
  · subst ct
    replace h := (if_pos rfl).symm.trans h
    replace h := Option.bind_eq_some_iff.mp h
    obtain ⟨ix, hix, h⟩ := h
    by_cases cx : ix = idxs l0.length ∧ l0.length < 20
    · replace h := (if_pos cx).symm.trans h
      obtain ⟨rfl, h20⟩ := cx
      replace h := Option.some.inj h
      have HX := Aside0.mk hix
      have HE := Aside0.mk h
      have H20 := Aside0.mk h20
      obtain ⟨L, hL⟩ : ∃ L, isort (apLt l0) (idxs l0.length) = L := ⟨_, rfl⟩
      obtain ⟨fin, hfin⟩ : ∃ fin, L.foldl (apStep l0) ([], 0) = fin := ⟨_, rfl⟩
      have hr : fin.1 = r := by rw [← hfin, ← hL]; exact h
      have hLr : ∀ j : Nat, j < L.length → 0 ≤ rd L (j : Int) ∧ rd L (j : Int) < (l0.length : Int) := by
        intro j hj
        have hm : rd L (j : Int) ∈ L := by
          unfold rd
          rw [Int.toNat_natCast, List.getD_eq_getElem?_getD, List.getElem?_eq_getElem hj]
          exact List.getElem_mem hj
        rw [← hL] at hm
        rw [← hL]
        exact mem_idxs.1 ((isort_perm _ _).mem_iff.1 hm)
      have hLn : L.length < 20 := by rw [← hL, (isort_perm _ _).length_eq, idxs_length]; exact h20
      have HLE := Aside0.mk hL
      have HLR := Aside0.mk hLr
      have HFIN := Aside0.mk hfin
      have HR := Aside0.mk hr
      clear h hix h20 hL hfin hLr hr HE
      have eg := apart_enters
      go_enter Try.func20, Try.ntmps20
      go_wp2_with (first
        | (go_at_call 31; (with_reducible refine (impl_breadsOk.calls A0 c0 l0 true _ HC1.out HC0.out HT.out).mono ?_); rintro e w2 ⟨rfl, hb2⟩; (have hcell2 : w2.cell? ⟨w.heap.size, 0, none⟩ = some (.slice A0 l0.length c0) := (hb2.cell (p := ⟨w.heap.size, 0, none⟩) (by simp)).trans (by simp)); have HB2 := Aside0.mk (below_step HB1.out hb2); have HC2 := Aside0.mk (Kd.C_below HC1.out hb2); clear hb2)
        | (go_at_call 34; (with_reducible refine (impl_indices.calls k (l0.length : Int) (idxs l0.length) _ HX.out).mono ?_); rintro e w3 ⟨v3, rfl, ho3, hb3⟩; (have hcell3 : w3.cell? ⟨w.heap.size, 0, none⟩ = some (.slice A0 l0.length c0) := pw_cell_below hb3 hcell2); have HC3box := Aside0.mk hcell3; have HB3 := Aside0.mk (below_step HB2.out hb3); have HC3 := Aside0.mk (Kd.C_below HC2.out hb3); have HL2 := World.block_lt_of_cell? w2 _ hcell2; have HN3 := Aside0.mk (fun q (hq : v3.ownBlock = some q) => Nat.lt_of_lt_of_le HL2 (own_base (Kd.own_of_R ho3) q hq)); clear HL2; have HO3 := Aside0.mk (Kd.R_lower ho3 (below_size HB2.out)); have HLT3 := Aside0.mk (fun q (hq : v3.ownBlock = some q) => own_lt (Kd.own_of_R ho3) q hq); clear hb3 ho3 hcell2)
        | ((with_reducible refine gate_dst (N := 15) rfl ?_); refine Kd.R_lit (Kd.int .i64) w3.heap.size 3 ?hg (N := 15) ?hd (xs := ([] : List Int)) (inner := []) (ok := fun _ => True) (okp := fun _ => True) ?hr ?hp (fun _ hk => hk) trivial (Below.refl _ w3) (Nat.le_refl _) (by simp) ?_; (case hd => rfl); (case hg => rfl); (case hr => first | (go_simp; done) | (go_simp; rfl)); (case hp => exact (Reps.none _ _)); intro v5 w5 ho5 hb5 hg5 hnew5; (have hcell5 : w5.cell? ⟨w.heap.size, 0, none⟩ = some (.slice A0 l0.length c0) := pw_cell_below hb5 hcell3); have HO5 := Aside0.mk ho5; have HB35 := Aside0.mk hb5; have HB5 := Aside0.mk (below_step HB3.out hb5); have HO35 := Aside0.mk (Kd.R_below HO3.out hb5); clear hg5 hnew5 hb5 ho5 hcell3)
        | (go_at_call 35; (with_reducible refine (sortStable_R (fun a b => wrap64 ((rd_T25 l0 a).f1 - (rd_T25 l0 b).f1)) 36 #[.pointer (some ⟨w.heap.size, 0, none⟩)] l0.length v3 w.heap.size (fun _ => True) w5 H20.out eg (apart_worlds A0 c0 l0 w w5 v3 hcell5 HR0.out HB5.out HN3.out) HO35.out).mono ?_); rintro e w6 ⟨rfl, ho6, hg6⟩; (replace ho6 : Kd.R (Kd.int .i64) 3 w6 w.heap.size (fun _ => True) v3 L := (by rw [← HLE.out]; exact ho6)); (have hcell6 : w6.cell? ⟨w.heap.size, 0, none⟩ = some (.slice A0 l0.length c0) := hg6.cell hcell5 (fun e => Nat.lt_irrefl _ (HN3.out _ e.symm))); have HB6 := Aside0.mk (HB5.out.grown hg6 (below_size HB5.out) (fun q hq => Nat.le_of_lt (HN3.out q hq))); have HO56 := Aside0.mk (Kd.R_mono (Kd.R_grown (Kd.R_mono (Kd.R_bound HO5.out) (fun _ hk => hk.2.1)) hg6 (fun q hk e => Nat.lt_irrefl _ (Nat.lt_of_lt_of_le (HLT3.out q e.symm) hk))) (fun _ _ => trivial)); have HZ6 := Aside0.mk (Nat.le_trans (below_size HB35.out) hg6.size); have HW3 := Aside0.mk (below_size HB3.out); have HL3 := Aside0.mk (World.block_lt_of_cell? w3 _ (HC3box.out)); obtain ⟨A6, c6, e6, hl6, hc6⟩ := Kd.R_reads ho6; have HA6 := Aside0.mk (apart_lt ho6 e6 HLT3.out); have HC6 := Aside0.mk hc6; subst e6; clear ho6 hg6 hc6 hl6 hcell5))
      go_loopg [4, 5, 21] L.length (fun gg s4 s5 s21 wr => ∃ (i : Nat) (out : List Int) (last : Int), s21 = .int .i64 i ∧ s5 = .int .i64 last ∧ i ≤ L.length ∧ out.length ≤ i ∧ L.length - i ≤ gg ∧ Aside0 (Kd.R (Kd.int .i64) 3 wr w3.heap.size (fun _ => True) s4 out) ∧ Aside0 ((L.drop i).foldl (apStep l0) (out, last) = fin) ∧ Aside0 (Below w3.heap.size w6 wr))
      case atStart => exact ⟨0, [], 0, rfl, rfl, Nat.zero_le _, Nat.le_refl _, by omega, HO56, HFIN, ⟨Below.refl _ _⟩⟩
      case round =>
        clear HO56 HFIN
        obtain ⟨i, out, last, rfl, rfl, hi, hol, hgg, HO, HF, HB⟩ := hrel
        by_cases hlt : i < L.length
        · have hltz : (i : Int) < (L.length : Int) := by omega
          have hi0 : (0 : Int) ≤ (i : Int) := by omega
          obtain ⟨px, qx⟩ := HLR.out i hlt
          obtain ⟨ad, e0, hcx⟩ := Kd.at_int HC6.out (i : Int) hi0 hltz
          cases e0
          rw [Int.toNat_natCast] at hcx
          have hadB := HA6.out ad rfl (by omega)
          replace hcx := (HB.out.cell (p := ad.add i) (by rw [add_block]; exact hadB)).trans hcx
          have hcell := (HB.out.cell (p := ⟨w.heap.size, 0, none⟩) HL3.out).trans hcell6
          obtain ⟨bd, e1, hx_0, hx_1, hx_2⟩ := at_T25 HR0.out (rd L (i : Int)) px qx
          cases e1
          have hbw := HB6.out.trans (HB.out.mono HW3.out)
          replace hx_0 := (hbw.cell (World.block_lt_of_cell? w _ hx_0)).trans hx_0
          replace hx_1 := (hbw.cell (World.block_lt_of_cell? w _ hx_1)).trans hx_1
          replace hx_2 := (hbw.cell (World.block_lt_of_cell? w _ hx_2)).trans hx_2
          have hd : L.drop i = rd L (i : Int) :: L.drop (i + 1) := by
            rw [List.drop_eq_getElem_cons hlt]
            unfold rd
            rw [Int.toNat_natCast, List.getD_eq_getElem?_getD, List.getElem?_eq_getElem hlt]
            rfl
          have hf := HF.out
          rw [hd, List.foldl_cons] at hf
          clear hd HF hadB hi
          generalize rd L (i : Int) = x at hcx hx_0 hx_1 hx_2 hf px qx
          have hin := bk_in_eq last (rd_T25 l0 x).f0 (rd_T25 l0 x).f1
          obtain ⟨s1, hs1⟩ : ∃ s1, apStep l0 (out, last) x = s1 := ⟨_, rfl⟩
          rw [hs1] at hf
          unfold apStep at hs1
          generalize rd_T25 l0 x = y at hx_0 hx_1 hx_2 hs1 hin
          obtain ⟨y0, y1, y2⟩ := y
          simp only at hx_0 hx_1 hx_2 hs1 hin
          have HO1 := Aside0.mk (Kd.R_mono (ok' := fun k => k < wr.heap.size) (Kd.R_bound HO.out) (fun _ hk => hk.2.2.1))
          have HBW := Aside0.mk hbw
          have HS := Aside0.mk (Nat.le_trans HZ6.out HB.out.size)
          clear HO hbw
          by_cases cin : y0 ≤ last ∧ last ≤ y1
          · rw [if_pos cin] at hs1
            subst hs1
            rw [decide_eq_true cin] at hin
            have HF := Aside0.mk hf
            have HIN := Aside0.mk hin
            clear hf hin cin
            go_wp2_with (first
              | ((with_reducible refine gate_dst (N := 8) rfl ?_); refine box_event ?hg (N := 8) ?hd (cs := #[.int .i64 0, .int .i64 0, .int .i64 0]) (t := 25) ?hr ?_; (case hd => rfl); (case hg => rfl); (case hr => first | (go_simp; done) | (go_simp; rfl)); intro gb hg w7 hbox hb; have GB := Aside0.mk hg; have BK := Aside0.mk hbox; have HB7 := Aside0.mk hb; clear hb hbox hg; have hcz_0 : w7.cell? ⟨gb, 0, none⟩ = some (.int .i64 0) := (blk_cell BK.out 0).trans rfl; have hcz_1 : w7.cell? ⟨gb, 1, none⟩ = some (.int .i64 0) := (blk_cell BK.out 1).trans rfl; have hcz_2 : w7.cell? ⟨gb, 2, none⟩ = some (.int .i64 0) := (blk_cell BK.out 2).trans rfl; have hfz_0 := blk_frozen BK.out 0; have hfz_1 := blk_frozen BK.out 1; have hfz_2 := blk_frozen BK.out 2)
              | (go_at_call 33; (with_reducible refine (bk_in.calls last y0 y1 true _ HIN.out).mono ?_); rintro e w' ⟨rfl, ⟨nd, rfl⟩⟩))
            go_roundg (L.length - (i + 1))
            case measure => omega
            case rel =>
              refine ⟨i + 1, out, last, by go_num, rfl, by omega, by omega, Nat.le_refl _, ⟨?_⟩, HF, ⟨?_⟩⟩
              · have hne : ∀ k, k < wr.heap.size → k ≠ gb := fun k hk e => by rw [e, GB.out] at hk; exact Nat.lt_irrefl _ hk
                exact Kd.R_mono (Kd.R_drewN (Kd.R_far (Kd.R_far (Kd.R_far (Kd.R_below HO1.out HB7.out) hne _) hne _) hne _) nd) (fun _ _ => trivial)
              · have hge : w3.heap.size ≤ gb := by rw [GB.out]; exact HS.out
                exact HB.out.trans (pw_below_drewN ((((HB7.out.mono HS.out).setCell hge _).setCell hge _).setCell hge _) nd)
          · rw [if_neg cin] at hs1
            subst hs1
            rw [decide_eq_false cin] at hin
            have HF := Aside0.mk hf
            have HIN := Aside0.mk hin
            clear hf hin cin
            go_wp2_with (first
              | ((with_reducible refine gate_dst (N := 8) rfl ?_); refine box_event ?hg (N := 8) ?hd (cs := #[.int .i64 0, .int .i64 0, .int .i64 0]) (t := 25) ?hr ?_; (case hd => rfl); (case hg => rfl); (case hr => first | (go_simp; done) | (go_simp; rfl)); intro gb hg w7 hbox hb; have GB := Aside0.mk hg; have BK := Aside0.mk hbox; have HB7 := Aside0.mk hb; clear hb hbox hg; have hcz_0 : w7.cell? ⟨gb, 0, none⟩ = some (.int .i64 0) := (blk_cell BK.out 0).trans rfl; have hcz_1 : w7.cell? ⟨gb, 1, none⟩ = some (.int .i64 0) := (blk_cell BK.out 1).trans rfl; have hcz_2 : w7.cell? ⟨gb, 2, none⟩ = some (.int .i64 0) := (blk_cell BK.out 2).trans rfl; have hfz_0 := blk_frozen BK.out 0; have hfz_1 := blk_frozen BK.out 1; have hfz_2 := blk_frozen BK.out 2)
              | (go_at_call 33; (with_reducible refine (bk_in.calls last y0 y1 false _ HIN.out).mono ?_); rintro e w' ⟨rfl, ⟨nd, rfl⟩⟩))
            have hne : ∀ k, k < wr.heap.size → k ≠ gb := fun k hk e => by rw [e, GB.out] at hk; exact Nat.lt_irrefl _ hk
            have hge : w3.heap.size ≤ gb := by rw [GB.out]; exact HS.out
            generalize hw8 : World.drewN _ nd = w8
            have HO8 : Aside0 (Kd.R (Kd.int .i64) 3 w8 w3.heap.size (fun k => k < wr.heap.size) u4 out) := ⟨by rw [← hw8]; exact Kd.R_drewN (Kd.R_far (Kd.R_far (Kd.R_far (Kd.R_below HO1.out HB7.out) hne _) hne _) hne _) nd⟩
            have HB8 : Aside0 (Below w3.heap.size w6 w8) := ⟨by rw [← hw8]; exact HB.out.trans (pw_below_drewN ((((HB7.out.mono HS.out).setCell hge _).setCell hge _).setCell hge _) nd)⟩
            have hc8 : w8.cell? ⟨gb, 1, none⟩ = some (.int .i64 y1) := by rw [← hw8]; exact (blk_cell (blk_set (blk_set (blk_set BK.out 0 _) 1 _) 2 _) 1).trans rfl
            have HG8 : Aside0 (gb < w8.heap.size) := ⟨by rw [← hw8]; exact blk_lt (blk_set (blk_set (blk_set BK.out 0 (.int .i64 y0)) 1 (.int .i64 y1)) 2 (.int .i64 y2))⟩
            have HNE : Aside0 (some gb ≠ u4.ownBlock) := ⟨fun e => hne _ (HO8.out.1 gb e.symm) rfl⟩
            clear hw8 hne hge hcz_0 hcz_1 hcz_2 hfz_0 hfz_1 hfz_2 hx_0 hx_1 hx_2
            have hLo : out.length < 100 := by omega
            have hown := Kd.own_of_R HO8.out
            have HC8 := Aside0.mk hc8
            obtain ⟨i0, hi0, hz0, hz1, hz2⟩ := info_parts info3
            have hg8 := HG8.out
            have hbase : w3.heap.size ≤ w8.heap.size := Nat.le_trans HZ6.out HB8.out.size
            go_region_held3 (fun w' => w'.cell? ⟨gb, 1, none⟩ = some (.int .i64 y1))
              (first
                | go_keep
                | exact hgrow.cell ((World.cell?_alloc_lt w8 _ _ HG8.out).trans HC8.out) HNE.out)
              ((refine step_append_lies _ (by rfl) _ _ _ (by rfl) w3.heap.size 3 i0 _ 1 8 Try.underlying37 hi0 hz0 hz1 hz2 rfl (by omega) u4 out.length (encs (Value.int .i64) out) (by rfl) ((hown.alloc _).drew) ⟨w8.heap.size, 0, none⟩ 1 1 [.int .i64 x] (by rfl) (by rfl) (World.news_of_block (cs := #[.int .i64 x]) (t := 3) (fr := (0, 0)) (heap_alloc_new w8 _)) (by simp [Value.oneCell']) (by omega) (by simp only [maxLen]; omega) (by omega) (by simp; omega) (w8.heap.size + 1) (by simp) ?_; intro gg cap w9 hown9 hgrow hat hlt9))
            have HO9 : Aside0 (Kd.R (Kd.int .i64) 3 w9 w3.heap.size (fun _ => True) (.slice (some ⟨gg, 0, none⟩) (out.length + 1) cap) (out ++ [x])) := ⟨Kd.R_of_own (by simpa [encs] using hown9) (fun _ _ => trivial)⟩
            have HB9 : Aside0 (Below w3.heap.size w6 w9) := ⟨(below_drew (HB8.out.alloc hbase _)).grown hgrow (by simp; omega) (fun q hq => own_base hown q hq)⟩
            clear hown9 hgrow hat hown hc8 hi0 hz0 hz1 hz2
            go_wp2
            go_roundg (L.length - (i + 1))
            case measure => omega
            case rel =>
              exact ⟨i + 1, out ++ [x], y1, by go_num, rfl, by omega, by simp; omega, Nat.le_refl _, HO9, HF, HB9⟩
        · have hltz : ¬ (i : Int) < (L.length : Int) := by omega
          have : i = L.length := by omega
          subst this
          go_wp2
          go_ret
          have hf := HF.out
          rw [List.drop_length] at hf
          refine ⟨_, rfl, ?_, HB6.out.trans (HB.out.mono HW3.out)⟩
          rw [← HR.out, ← hf]
          exact Kd.R_lower HO.out HW3.out
    · replace h := (if_neg cx).symm.trans h
      cases h
  · replace h := (if_neg ct).symm.trans h
    replace h := Option.some.inj h
    subst h
    replace ct := Bool.eq_false_iff.mpr ct
    subst ct
    go_enter Try.func20, Try.ntmps20
    go_wp2_with (go_at_call 31; (with_reducible refine (impl_breadsOk.calls A0 c0 l0 false _ HC1.out HC0.out HT.out).mono ?_); rintro e w2 ⟨rfl, hb2⟩; (have hcell2 : w2.cell? ⟨w.heap.size, 0, none⟩ = some (.slice A0 l0.length c0) := (hb2.cell (p := ⟨w.heap.size, 0, none⟩) (by simp)).trans (by simp)); have HB2 := Aside0.mk (below_step HB1.out hb2); clear hb2)
    go_ret
    exact ⟨_, rfl, Kd.R_nil _ _ _ _ _, HB2.out⟩


/-! ### impl_FewestHeats: function 26, by hand -/
def fhOk (n : Nat) (a : List Int) : Bool := decide (a.length < 100) && a.all fun x => decide (0 ≤ x ∧ x < (n : Int))
def impl_FewestHeats.f (k : Nat) (l0 : List S25) : Option (List Int) := (impl_ApartBreads.f k l0).bind fun a => if fhOk l0.length a = true then some (a.map fun i => (rd_T25 l0 i).f1) else none
theorem impl_FewestHeats.mono : ∀ a0 k, LeO (impl_FewestHeats.f k a0) (impl_FewestHeats.f (k + 1) a0) := fun a0 k =>
  LeO.bind (impl_ApartBreads.mono _ k) (fun _ => LeO.refl _)
theorem reads_lt {w : World} {A : Option Addr} {L : List Int} (h : Kd.C (Kd.int .i64) w A L.length L) : ∀ ad, A = some ad → 0 < L.length → ad.block < w.heap.size := by
  intro ad ha hp
  obtain ⟨ad', e, hc⟩ := Kd.at_int h 0 (Int.le_refl _) (by omega)
  rw [ha] at e
  injection e with e
  subst e
  have := World.block_lt_of_cell? w _ hc
  rwa [add_block] at this
set_option maxHeartbeats 8000000 in
set_option maxRecDepth 100000 in
theorem impl_FewestHeats.calls (k : Nat) (A0 : Option Addr) (c0 : Nat) (l0 : List S25) (r : List Int) (w : World) (hr0 : Kd.C k25 w A0 l0.length l0) (hc0 : l0.length ≤ c0) (h : impl_FewestHeats.f k l0 = some r) :
    Calls Try.prog 26 #[.slice A0 l0.length c0] w fun e w' => ∃ v0_ : Value, e = .returned (v0_) ∧ Kd.R (Kd.int .i64) 3 w' w.heap.size (fun _ => True) v0_ r ∧ Below w.heap.size w w' := by
  have hu := Try.underlying25
  have HR0 := Aside0.mk hr0
  have HC0 := Aside0.mk hc0
  clear hr0 hc0
  have h' := h
  clear h
  unfold impl_FewestHeats.f at h'
  replace h' := Option.bind_eq_some_iff.mp h'
  obtain ⟨a, ha, h⟩ := h'
  have HAP := Aside0.mk ha
  clear ha
  by_cases cx : fhOk l0.length a = true
  · replace h := (if_pos cx).symm.trans h
    replace h := Option.some.inj h
    unfold fhOk at cx
    rw [Bool.and_eq_true, decide_eq_true_eq, List.all_eq_true] at cx
    obtain ⟨hla, hin⟩ := cx
    have HIN : Aside0 (∀ j : Nat, j < a.length → 0 ≤ rd a (j : Int) ∧ rd a (j : Int) < (l0.length : Int)) := ⟨fun j hj => by
      have hm : rd a (j : Int) ∈ a := by
        unfold rd
        rw [Int.toNat_natCast, List.getD_eq_getElem?_getD, List.getElem?_eq_getElem hj]
        exact List.getElem_mem hj
      simpa using hin _ hm⟩
    have HE := Aside0.mk h
    clear h hin
    have q22 : ∀ (w : World) (a : Option Addr) (n c n' c' : Nat), (binOp .eql 37 (.slice a n c) (.slice none n' c')).run Try.prog w = .ok (.bool a.isNone) w := fun w a n c n' c' => Go.Lib.run_eql_slice_nil w _ _ a n c n' c' Try.underlying37
    go_enter Try.func26, Try.ntmps26
    go_wp2_with (first
      | (go_at_call 20; (with_reducible refine (impl_ApartBreads.calls k A0 c0 l0 a _ HR0.out HC0.out HAP.out).mono ?_); rintro e w2 ⟨v2, rfl, ho2, hb2⟩; obtain ⟨A2, c2, rfl, hl2, hc2⟩ := Kd.R_reads ho2; have HC2 := Aside0.mk hc2; have HL2 := Aside0.mk (reads_lt hc2); have HB2 := Aside0.mk hb2; clear ho2 hb2 hl2 hc2)
      | ((with_reducible refine gate_dst (N := 11) rfl ?_); refine Kd.R_lit (Kd.int .i64) w2.heap.size 3 ?hg (N := 11) ?hd (xs := ([] : List Int)) (inner := []) (ok := fun _ => True) (okp := fun _ => True) ?hr ?hp (fun _ hk => hk) trivial (Below.refl _ w2) (Nat.le_refl _) (by simp) ?_; (case hd => rfl); (case hg => rfl); (case hr => first | (go_simp; done) | (go_simp; rfl)); (case hp => exact (Reps.none _ _)); intro v5 w5 ho5 hb5 hg5 hnew5; have HO5 := Aside0.mk ho5; have HB5 := Aside0.mk hb5; clear hg5 hnew5 hb5 ho5))
    · go_ret
      have ha0 : a = [] := by
        cases ha : a with
        | nil => rfl
        | cons x a' =>
          exfalso
          obtain ⟨ad, e, _⟩ := Kd.at_int HC2.out 0 (Int.le_refl _) (by rw [ha, List.length_cons]; omega)
          subst e
          simp at *
      refine ⟨_, rfl, ?_, HB2.out⟩
      rw [← HE.out, ha0]
      exact Kd.R_nil _ _ _ _ _
    · go_loopg [4, 14] a.length (fun gg s4 s14 wr => ∃ (i : Nat) (out : List Int), s14 = .int .i64 i ∧ i ≤ a.length ∧ out.length ≤ i ∧ a.length - i ≤ gg ∧ Aside0 (Kd.R (Kd.int .i64) 3 wr w2.heap.size (fun _ => True) s4 out) ∧ Aside0 (out = (a.take i).map fun i => (rd_T25 l0 i).f1) ∧ Aside0 (Below w2.heap.size w2 wr))
      case atStart => exact ⟨0, [], rfl, Nat.zero_le _, Nat.le_refl _, by omega, HO5, ⟨by simp⟩, HB5⟩
      case round =>
        clear HO5 HB5
        obtain ⟨i, out, rfl, hi, hol, hgg, HO, HF, HB⟩ := hrel
        by_cases hlt : i < a.length
        · have hltz : (i : Int) < (a.length : Int) := by omega
          have hi0 : (0 : Int) ≤ (i : Int) := by omega
          obtain ⟨px, qx⟩ := HIN.out i hlt
          obtain ⟨ad, e0, hcx⟩ := Kd.at_int HC2.out (i : Int) hi0 hltz
          cases e0
          rw [Int.toNat_natCast] at hcx
          have hadB := HL2.out ad rfl (by omega)
          replace hcx := (HB.out.cell (p := ad.add i) (by rw [add_block]; exact hadB)).trans hcx
          obtain ⟨bd, e1, hx_0, hx_1, hx_2⟩ := at_T25 HR0.out (rd a (i : Int)) px qx
          cases e1
          have hbw := HB2.out.trans (HB.out.mono (below_size HB2.out))
          replace hx_1 := (hbw.cell (World.block_lt_of_cell? w _ hx_1)).trans hx_1
          have hd : a.take (i + 1) = a.take i ++ [rd a (i : Int)] := by
            rw [List.take_succ_eq_append_getElem hlt]
            unfold rd
            rw [Int.toNat_natCast, List.getD_eq_getElem?_getD, List.getElem?_eq_getElem hlt]
            rfl
          have hf : out ++ [(rd_T25 l0 (rd a (i : Int))).f1] = (a.take (i + 1)).map fun i => (rd_T25 l0 i).f1 := by
            rw [hd, List.map_append, ← HF.out]
            rfl
          clear hd HF hadB hi hx_0 hx_2
          generalize rd a (i : Int) = x at hcx hx_1 hf px qx
          generalize (rd_T25 l0 x).f1 = y at hx_1 hf
          have HF := Aside0.mk hf
          have HS := Aside0.mk HB.out.size
          clear hf hbw
          go_wp2_with ((with_reducible refine gate_builtin (b := .append) (xs := #[.tmp 18, .tmp 24]) rfl ?_); at_builtin; refine Kd.R_append (Kd.int .i64) (w0 := w2) w2.heap.size rfl (.tmp 18) (.tmp 24) 37 3 (.int .i64 0) 8 rfl Try.underlying37 info3 rfl (by decide) (by omega) u4 out y [.int .i64 y] (fun _ => True) (fun _ => False) rfl rfl ?aP (fun _ hk => hk.elim) ?aF ?aO ?aB ?aS ?aL ?_; (case aP => exact rfl); (case aB => exact HB.out); (case aF => exact (fun _ _ => trivial)); (case aO => exact HO.out); (case aS => exact HS.out); (case aL => omega); intro v9 w9 ho9 hb9 hg9 hat9; have HO9 := Aside0.mk ho9; have HB9 := Aside0.mk hb9; clear ho9 hb9 hg9 hat9)
          go_roundg (a.length - (i + 1))
          case measure => omega
          case rel => exact ⟨i + 1, _, by go_num, by omega, by simp; omega, Nat.le_refl _, HO9, HF, HB9⟩
        · have hltz : ¬ (i : Int) < (a.length : Int) := by omega
          have : i = a.length := by omega
          subst this
          go_wp2
          go_ret
          refine ⟨_, rfl, ?_, HB2.out.trans (HB.out.mono (below_size HB2.out))⟩
          rw [← HE.out]
          have hf := HF.out
          rw [List.take_length] at hf
          rw [← hf]
          exact Kd.R_lower HO.out (below_size HB2.out)
  · replace h := (if_neg cx).symm.trans h
    cases h


/-! ### laws_big: function 27 -/
def laws_big.f (l0 : List Int) : Option (Bool) := some (decide ((l0.length : Int) > 1048576))
set_option maxHeartbeats 8000000 in
set_option maxRecDepth 100000 in
theorem laws_big.calls (A0 : Option Addr) (c0 : Nat) (l0 : List Int) (r : Bool) (w : World) (hr0 : Kd.C (Kd.int .u8) w A0 l0.length l0) (hc0 : l0.length ≤ c0) (h : laws_big.f l0 = some r) :
    Calls Try.prog 27 #[.slice A0 l0.length c0] w fun e w' => e = .returned (.bool r) ∧ Drawn0 w w' := by
  have HR0 := Aside0.mk hr0
  have HC0 := Aside0.mk hc0
  clear hr0 hc0
  have H : (some (decide ((l0.length : Int) > 1048576))) = some r := h
  clear h
  obtain rfl := Option.some.inj H
  go_enter Try.func27, Try.ntmps27
  go_wp2
  go_ret
  exact ⟨by first | rfl | (simp; done) | (simp [*]; done), by repeat (first | exact Drawn0.refl _ | apply Drawn0.step)⟩

end Go.Proofs.Ytdglbjekpbdmoaa.PFnPairs
