/- What the Go functions that the law FnExactFallingOrder reaches compute, each as a plain function, and that the machine's calls come to just that. No condition. -/
import Derived.Test.YtkcfpkokgpimaaaPFnExactFallingOrderx0
import Derived.Test.YtkcfpkokgpimaaaPFnExactFallingOrderx1
import Derived.Test.YtkcfpkokgpimaaaPFnExactFallingOrderx2
namespace Go.Proofs.Ytkcfpkokgpimaaa.PFnExactFallingOrder
open Go.RowKit Go.Proofs.YtkcfpkokgpimaaaW.PrintWords Go.Proofs.YtkcfpkokgpimaaaW.PrintLast Go.Proofs.YtkcfpkokgpimaaaW.PrintMore
attribute [local go_sem] max2_int min2_int max_two min_two max_three min_three max_four min_four   -- for this text's walks alone
set_option linter.unusedVariables false
set_option linter.unusedSimpArgs false

/-! ### impl_FallingOrder: function 31, with slices.SortStableFunc over indices, by hand -/
def idxs (n : Nat) : List Int := (List.range n).map fun k => ((k : Nat) : Int)
theorem mem_idxs {n : Nat} {i : Int} : i ∈ idxs n ↔ 0 ≤ i ∧ i < n := by
  unfold idxs
  rw [List.mem_map]
  constructor
  · rintro ⟨k, hk, rfl⟩
    rw [List.mem_range] at hk
    omega
  · rintro ⟨h0, h1⟩
    exact ⟨i.toNat, by rw [List.mem_range]; omega, by omega⟩
theorem idxs_succ (n : Nat) : idxs (n + 1) = idxs n ++ [(n : Int)] := by simp [idxs, List.range_succ]
theorem idxs_length (n : Nat) : (idxs n).length = n := by simp [idxs]
def insGo {α : Type} (lt : α → α → Bool) (x : α) : List α → List α → List α
  | [], B => x :: B
  | y :: R, B => if lt x y = true then insGo lt x R (y :: B) else (y :: R).reverse ++ x :: B
def isort {α : Type} (lt : α → α → Bool) (l : List α) : List α := l.foldl (fun A x => insGo lt x A.reverse []) []
theorem insGo_snoc {α : Type} (lt : α → α → Bool) (x : α) (R B : List α) : insGo lt x R B = insGo lt x R [] ++ B := by
  induction R generalizing B with
  | nil => rfl
  | cons y R ih =>
    unfold insGo
    by_cases h : lt x y = true
    · rw [if_pos h, if_pos h, ih (y :: B), ih [y]]
      simp
    · rw [if_neg h, if_neg h]
      simp
theorem swp_list {α : Type} [Inhabited α] (A B : List α) (x y : α) : Go.Sort.swp (A ++ y :: x :: B).toArray (A.length + 1) A.length = (A ++ x :: y :: B).toArray := by
  unfold Go.Sort.swp
  have e1 : (A ++ y :: x :: B).toArray[A.length]! = y := by
    rw [getElem!_pos _ _ (by simp)]
    simp
  have e2 : (A ++ y :: x :: B).toArray[A.length + 1]! = x := by
    rw [getElem!_pos _ _ (by simp)]
    simp
  rw [e1, e2]
  simp
theorem insInner_list {α : Type} [Inhabited α] (lt : α → α → Bool) (x : α) (R B : List α) : Go.Sort.insInner lt 0 R.length (R.reverse ++ x :: B).toArray = (insGo lt x R B).toArray := by
  induction R generalizing B with
  | nil => rfl
  | cons y R ih =>
    have e1 : ((y :: R).reverse ++ x :: B).toArray[R.length]! = y := by
      rw [getElem!_pos _ _ (by simp)]
      simp
    have e2 : ((y :: R).reverse ++ x :: B).toArray[R.length + 1]! = x := by
      rw [getElem!_pos _ _ (by simp)]
      simp
    rw [List.length_cons]
    unfold Go.Sort.insInner insGo
    rw [e1, e2]
    by_cases h : lt x y = true
    · rw [if_pos h, if_pos (by simp [h])]
      have := swp_list R.reverse B x y
      rw [List.length_reverse] at this
      rw [show (y :: R).reverse ++ x :: B = R.reverse ++ y :: x :: B by simp, this]
      exact ih (y :: B)
    · rw [if_neg h, if_neg (by simp [h])]
theorem insGo_length {α : Type} (lt : α → α → Bool) (x : α) (R B : List α) : (insGo lt x R B).length = R.length + B.length + 1 := by
  induction R generalizing B with
  | nil => simp [insGo]
  | cons y R ih =>
    unfold insGo
    by_cases h : lt x y = true
    · rw [if_pos h, ih]; simp; omega
    · rw [if_neg h]; simp; omega
theorem insOuter_list {α : Type} [Inhabited α] (lt : α → α → Bool) (b : Nat) (B A : List α) (hb : b = A.length + B.length) : Go.Sort.insOuter lt 0 b A.length (A ++ B).toArray = (B.foldl (fun A x => insGo lt x A.reverse []) A).toArray := by
  induction B generalizing A with
  | nil =>
    rw [Go.Sort.insOuter, if_neg (by simp at hb; omega)]
    simp
  | cons x B ih =>
    rw [Go.Sort.insOuter, if_pos (by simp at hb; omega)]
    have h := insInner_list lt x A.reverse B
    rw [List.reverse_reverse, List.length_reverse] at h
    rw [h, insGo_snoc, List.foldl_cons]
    have hl : (insGo lt x A.reverse []).length = A.length + 1 := by rw [insGo_length]; simp
    have := ih (insGo lt x A.reverse []) (by rw [hl, hb]; simp; omega)
    rw [hl] at this
    exact this
theorem insertionSort_list {α : Type} [Inhabited α] (lt : α → α → Bool) (l : List α) : Go.Sort.insertionSort lt l.toArray 0 l.length = (isort lt l).toArray := by
  unfold Go.Sort.insertionSort isort
  cases l with
  | nil =>
    rw [Go.Sort.insOuter, if_neg (by simp)]
    rfl
  | cons x l =>
    have := insOuter_list lt (x :: l).length l [x] (by simp; omega)
    exact this
theorem insGo_map {α β : Type} (f : α → β) (lt : α → α → Bool) (lt' : β → β → Bool) (x : α) (R B : List α) (h : ∀ y ∈ R, lt' (f x) (f y) = lt x y) : (insGo lt x R B).map f = insGo lt' (f x) (R.map f) (B.map f) := by
  induction R generalizing B with
  | nil => rfl
  | cons y R ih =>
    rw [List.map_cons]
    rw [insGo, insGo, h y List.mem_cons_self]
    by_cases c : lt x y = true
    · rw [if_pos c, if_pos c, ih (y :: B) (fun z hz => h z (List.mem_cons_of_mem _ hz))]
      rfl
    · rw [if_neg c, if_neg c]
      simp
theorem isort_map {α β : Type} (f : α → β) (lt : α → α → Bool) (lt' : β → β → Bool) (h : ∀ x y, lt' (f x) (f y) = lt x y) (l : List α) : (isort lt l).map f = isort lt' (l.map f) := by
  have : ∀ (l A : List α), (l.foldl (fun A x => insGo lt x A.reverse []) A).map f = (l.map f).foldl (fun A x => insGo lt' x A.reverse []) (A.map f) := by
    intro l
    induction l with
    | nil => intro A; rfl
    | cons x l ih =>
      intro A
      rw [List.foldl_cons, List.map_cons, List.foldl_cons, ih, insGo_map f lt lt' x _ _ (fun y _ => h x y), List.map_reverse, List.map_nil]
  exact this l []
/-- sorted by key, stable -/
theorem insGo_perm {α : Type} (lt : α → α → Bool) (x : α) (R B : List α) : (insGo lt x R B).Perm (x :: (R.reverse ++ B)) := by
  induction R generalizing B with
  | nil => simp [insGo]
  | cons y R ih =>
    unfold insGo
    by_cases h : lt x y = true
    · rw [if_pos h]
      refine (ih (y :: B)).trans ?_
      simp
    · rw [if_neg h]
      exact List.perm_middle
theorem isort_perm {α : Type} (lt : α → α → Bool) (l : List α) : (isort lt l).Perm l := by
  have : ∀ (l A : List α), (l.foldl (fun A x => insGo lt x A.reverse []) A).Perm (A ++ l) := by
    intro l
    induction l with
    | nil => intro A; simp
    | cons x l ih =>
      intro A
      rw [List.foldl_cons]
      refine (ih _).trans ?_
      have h := insGo_perm lt x A.reverse []
      rw [List.reverse_reverse, List.append_nil] at h
      exact (h.append_right l).trans List.perm_middle.symm
  exact this l []
/-- The order that a stable sort leaves: by the key, then by the place. -/
theorem insGo_pw (key : Int → Int) (x : Int) (R B : List Int)
    (hp : (R.reverse ++ B).Pairwise (fun a b => key a < key b ∨ key a = key b ∧ a < b)) (hB : ∀ b ∈ B, key x < key b) (hR : ∀ y ∈ R, y < x) :
    (insGo (fun a b => decide (key a < key b)) x R B).Pairwise (fun a b => key a < key b ∨ key a = key b ∧ a < b) := by
  induction R generalizing B with
  | nil =>
    unfold insGo
    refine List.pairwise_cons.2 ⟨fun b hb => .inl (hB b hb), by simpa using hp⟩
  | cons y R ih =>
    unfold insGo
    by_cases h : key x < key y
    · rw [if_pos (decide_eq_true h)]
      refine ih (y :: B) (by simpa using hp) (fun b hb => ?_) (fun z hz => hR z (List.mem_cons_of_mem _ hz))
      rcases List.mem_cons.1 hb with rfl | hb
      · exact h
      · exact hB b hb
    · rw [if_neg (by simpa using h)]
      rw [List.pairwise_append] at hp ⊢
      obtain ⟨h1, h2, h3⟩ := hp
      refine ⟨h1, List.pairwise_cons.2 ⟨fun b hb => .inl (hB b hb), h2⟩, fun a ha b hb => ?_⟩
      rcases List.mem_cons.1 hb with rfl | hb
      · have ha' : a ∈ y :: R := List.mem_reverse.1 ha
        have hlt := hR a ha'
        rw [List.reverse_cons, List.pairwise_append] at h1
        rcases List.mem_cons.1 ha' with rfl | hm
        · by_cases e : key a = key b
          · exact .inr ⟨e, hlt⟩
          · exact .inl (by omega)
        · have h4 := h1.2.2 a (List.mem_reverse.2 hm) y (by simp)
          by_cases e : key a = key b
          · exact .inr ⟨e, hlt⟩
          · exact .inl (by omega)
      · exact h3 a ha b hb
theorem isort_pw (key : Int → Int) (l : List Int) (hl : l.Pairwise (· < ·)) : (isort (fun a b => decide (key a < key b)) l).Pairwise (fun a b => key a < key b ∨ key a = key b ∧ a < b) := by
  have : ∀ (l A : List Int), A.Pairwise (fun a b => key a < key b ∨ key a = key b ∧ a < b) → l.Pairwise (· < ·) → (∀ a ∈ A, ∀ b ∈ l, a < b) → (l.foldl (fun A x => insGo (fun a b => decide (key a < key b)) x A.reverse []) A).Pairwise (fun a b => key a < key b ∨ key a = key b ∧ a < b) := by
    intro l
    induction l with
    | nil => intro A h _ _; exact h
    | cons x l ih =>
      intro A hA hl hAl
      rw [List.foldl_cons]
      rw [List.pairwise_cons] at hl
      refine ih _ (insGo_pw key x A.reverse [] (by simpa using hA) (by simp) (fun y hy => hAl y (List.mem_reverse.1 hy) x List.mem_cons_self)) hl.2 (fun a ha b hb => ?_)
      have h := (insGo_perm (fun a b => decide (key a < key b)) x A.reverse []).mem_iff.1 ha
      rcases List.mem_cons.1 h with rfl | h
      · exact hl.1 b hb
      · exact hAl a (by simpa using h) b (List.mem_cons_of_mem _ hb)
  exact this l [] List.Pairwise.nil hl (by simp)
shelf_lay_g SlLaysF.n20 Slsf 20 at Try 102 as insLay
def encF {n : Nat} (i : Fin n) : Value := .int .i64 (i.val : Int)
theorem oneF {n : Nat} : Go.Proofs.OneCell (@encF n) := fun _ => rfl
set_option maxHeartbeats 8000000 in
set_option maxRecDepth 100000 in
theorem stable_calls {n : Nat} [Inhabited (Fin n)] (cf : Fin n → Fin n → Int) (g : Nat) (cb : Array Value) (blk cap : Nat) (d : Array (Fin n)) (w : World) (h20 : d.size < 20)
    (eg : ∀ args w, (callFunc g args).run Try.prog w = .ok (.enter g args) w) (hcmp : Go.Proofs.CmpReads Try.prog g cb encF cf blk 0 d.size w) (hH : Go.Sort.Holds encF w blk 0 d) :
    Calls Try.prog 95 #[.slice (some ⟨blk, 0, none⟩) d.size cap, .int .i64 d.size, .func (.func g) #[] cb] w fun e w' => e = .returned (.tuple #[]) ∧ ∃ q, w' = (Go.Sort.putRow encF w blk 0 (Go.Sort.insertionSort (Go.Proofs.ltOf cf) d 0 d.size)).drewN q := by
  have hcon := Go.Proofs.Any.insertionSortCmpFunc_one insLay encF oneF cf g cb blk 0 cap 0 d.size d w eg hcmp hH (Nat.zero_le _) (Nat.le_refl _) (by omega)
  change Calls Try.prog 102 #[.slice (some ⟨blk, 0, none⟩) d.size cap, .int .i64 0, .int .i64 d.size, .func (.func g) #[] cb] w _ at hcon
  generalize Go.Sort.insertionSort (Go.Proofs.ltOf cf) d 0 d.size = r at hcon ⊢
  clear hH hcmp
  generalize hm : d.size = m at hcon h20 ⊢
  clear hm d
  have c1 : decide ((20 : Int) ≤ (m : Int)) = false := decide_eq_false (by omega)
  have c2 : decide ((20 : Int) < (m : Int)) = false := decide_eq_false (by omega)
  go_enter Try.func95, Try.ntmps95
  go_wp2
  go_loopg [7, 8] 0 (fun _ s7 s8 wr => s7 = .int .i64 0 ∧ s8 = .int .i64 20 ∧ wr = w)
  case atStart => exact ⟨rfl, rfl, rfl⟩
  case round =>
    obtain ⟨rfl, rfl, rfl⟩ := hrel
    go_wp2_with (go_at_call 102; refine hcon.mono ?_; rintro e w' ⟨rfl, q, rfl⟩)
    go_loopg [6, 7] 0 (fun _ s6 s7 w2 => s6 = .int .i64 20 ∧ s7 = .int .i64 0 ∧ ∃ q, w2 = (Go.Sort.putRow encF wr blk 0 r).drewN q)
    case atStart => exact ⟨rfl, rfl, _, rfl⟩
    case round =>
      obtain ⟨rfl, rfl, q2, rfl⟩ := hrel
      go_wp2
      go_end0
      exact ⟨rfl, q2, rfl⟩
set_option maxHeartbeats 8000000 in
set_option maxRecDepth 100000 in
theorem sortStable_calls {n : Nat} [Inhabited (Fin n)] (cf : Fin n → Fin n → Int) (g : Nat) (cb : Array Value) (blk cap : Nat) (d : Array (Fin n)) (w : World) (h20 : d.size < 20)
    (eg : ∀ args w, (callFunc g args).run Try.prog w = .ok (.enter g args) w) (hcmp : Go.Proofs.CmpReads Try.prog g cb encF cf blk 0 d.size w) (hH : Go.Sort.Holds encF w blk 0 d) :
    Calls Try.prog 71 #[.slice (some ⟨blk, 0, none⟩) d.size cap, .func (.func g) #[] cb] w fun e w' => e = .returned (.tuple #[]) ∧ ∃ q, w' = (Go.Sort.putRow encF w blk 0 (Go.Sort.insertionSort (Go.Proofs.ltOf cf) d 0 d.size)).drewN q := by
  have hcon := stable_calls cf g cb blk cap d w h20 eg hcmp hH
  generalize Go.Sort.insertionSort (Go.Proofs.ltOf cf) d 0 d.size = r at hcon ⊢
  clear hH hcmp
  generalize hm : d.size = m at hcon h20 ⊢
  clear hm d
  go_enter Try.func71, Try.ntmps71
  go_wp2_with (go_at_call 95; refine hcon.mono ?_; rintro e w' ⟨rfl, q, rfl⟩)
  go_end0
  exact ⟨rfl, q, rfl⟩
/-! nothing to sort -/
set_option maxHeartbeats 8000000 in
set_option maxRecDepth 100000 in
theorem ins_nil (A : Option Addr) (c g : Nat) (cb : Array Value) (w : World) : Calls Try.prog 102 #[.slice A 0 c, .int .i64 0, .int .i64 0, .func (.func g) #[] cb] w fun e w' => e = .returned (.tuple #[]) ∧ w' = w := by
  go_enter Try.func102, Try.ntmps102
  go_wp2
  go_loopg [8] 0 (fun _ s8 wr => s8 = .int .i64 1 ∧ wr = w)
  case atStart => exact ⟨rfl, rfl⟩
  case round =>
    obtain ⟨rfl, rfl⟩ := hrel
    go_wp2
    go_end0
    exact ⟨rfl, rfl⟩
set_option maxHeartbeats 8000000 in
set_option maxRecDepth 100000 in
theorem stable_nil (A : Option Addr) (c g : Nat) (cb : Array Value) (w : World) : Calls Try.prog 95 #[.slice A 0 c, .int .i64 0, .func (.func g) #[] cb] w fun e w' => e = .returned (.tuple #[]) ∧ w' = w := by
  have hcon := ins_nil A c g cb w
  go_enter Try.func95, Try.ntmps95
  go_wp2
  go_loopg [7, 8] 0 (fun _ s7 s8 wr => s7 = .int .i64 0 ∧ s8 = .int .i64 20 ∧ wr = w)
  case atStart => exact ⟨rfl, rfl, rfl⟩
  case round =>
    obtain ⟨rfl, rfl, rfl⟩ := hrel
    go_wp2_with (go_at_call 102; refine hcon.mono ?_; rintro e w' ⟨rfl, rfl⟩)
    go_loopg [6, 7] 0 (fun _ s6 s7 w2 => s6 = .int .i64 20 ∧ s7 = .int .i64 0 ∧ w2 = w')
    case atStart => exact ⟨rfl, rfl, rfl⟩
    case round =>
      obtain ⟨rfl, rfl, rfl⟩ := hrel
      go_wp2
      go_end0
      exact ⟨rfl, rfl⟩
set_option maxHeartbeats 8000000 in
set_option maxRecDepth 100000 in
theorem sortStable_nil (A : Option Addr) (c g : Nat) (cb : Array Value) (w : World) : Calls Try.prog 71 #[.slice A 0 c, .func (.func g) #[] cb] w fun e w' => e = .returned (.tuple #[]) ∧ w' = w := by
  have hcon := stable_nil A c g cb w
  go_enter Try.func71, Try.ntmps71
  go_wp2_with (go_at_call 95; refine hcon.mono ?_; rintro e w' ⟨rfl, rfl⟩)
  go_end0
  exact ⟨rfl, rfl⟩
theorem putRow_heap {α : Type} [Inhabited α] (enc : α → Value) (w : World) (blk m q : Nat) (d : Array α) (os : Array Obj) (k : Nat) (hk : k < w.heap.size) (hne : k ≠ blk) :
    ((Go.Proofs.sortWorld enc w blk 0 m d os).drewN q).heap[k]? = w.heap[k]? := by
  show (Go.Sort.grow (Go.Sort.putRow enc (Go.Sort.ahead w m) blk 0 d) os).heap[k]? = _
  unfold Go.Sort.grow Go.Sort.putRow Go.Sort.mapBlock Go.Sort.ahead
  simp only
  rw [Array.getElem?_append_left (by simpa using hk), Array.getElem?_modify, if_neg (fun e => hne e.symm)]
/-- SortStableFunc over the indices below n (n < 20), cmp a closure that only reads: it leaves the stable order. -/
theorem sortStable_R (cI : Int → Int → Int) (g : Nat) (cb : Array Value) (n : Nat) (v : Value) (base : Nat) (ok : Nat → Prop) (w : World) (h20 : n < 20)
    (eg : ∀ args w, (callFunc g args).run Try.prog w = .ok (.enter g args) w)
    (hcmp : ∀ W : World, w.grownBy W v.ownBlock → ∀ x y : Int, 0 ≤ x → x < n → 0 ≤ y → y < n →
      Calls Try.prog g (#[.int .i64 x, .int .i64 y] ++ cb) W fun e w' => e = .returned (.int .i64 (cI x y)) ∧ ∃ q, w' = W.drewN q)
    (ho : Kd.R (Kd.int .i64) 3 w base ok v (idxs n)) :
    Calls Try.prog 71 #[v, .func (.func g) #[] cb] w fun e w' => e = .returned (.tuple #[]) ∧ Kd.R (Kd.int .i64) 3 w' base ok v (isort (fun a b => decide (cI a b < 0)) (idxs n)) ∧ w.grownBy w' v.ownBlock := by
  have hln := idxs_length n
  by_cases hp : 0 < n
  · obtain ⟨blk, cap, rfl, hbg, hlt, _, _⟩ := Kd.R_form ho (by rw [hln]; exact hp)
    haveI : Inhabited (Fin n) := ⟨⟨0, hp⟩⟩
    have hds : (Array.ofFn (fun i : Fin n => i)).size = n := Array.size_ofFn
    have hH : Go.Sort.Holds encF w blk 0 (Array.ofFn (fun i : Fin n => i)) := by
      intro j hj
      have hj' : j < n := by rw [hds] at hj; exact hj
      obtain ⟨h1, h2⟩ := Kd.R_celln 0 ho (j : Int) (by omega) (by rw [hln]; omega)
      rw [Int.toNat_natCast] at h1 h2
      rw [Nat.zero_add, getElem!_pos _ j hj, Array.getElem_ofFn]
      unfold rdOf at h1
      rw [Int.toNat_natCast, List.getD_eq_getElem?_getD, List.getElem?_eq_getElem (by rw [hln]; exact hj')] at h1
      refine ⟨h1.trans ?_, h2⟩
      simp [idxs, encF]
    have hown := Kd.own_of_R ho
    rw [hln] at hown
    have hc := sortStable_calls (n := n) (fun x y => cI (x.val : Int) (y.val : Int)) g cb blk cap (Array.ofFn (fun i : Fin n => i)) w (by rw [hds]; exact h20) eg (fun m os dk _ x y => by
      refine hcmp (Go.Proofs.sortWorld encF w blk 0 m dk os) ⟨rfl, rfl, rfl, ?_, fun k hk hne => ?_⟩ _ _ (by omega) (by omega) (by omega) (by omega)
      · unfold Go.Proofs.sortWorld Go.Sort.grow Go.Sort.putRow Go.Sort.mapBlock Go.Sort.ahead
        simp
      · exact putRow_heap encF w blk m 0 dk os k hk (fun e => hne (by rw [e]; rfl))) hH
    rw [hds] at hc
    have hres : Go.Sort.insertionSort (Go.Proofs.ltOf fun (x y : Fin n) => cI (x.val : Int) (y.val : Int)) (Array.ofFn (fun i : Fin n => i)) 0 n = (isort (Go.Proofs.ltOf fun (x y : Fin n) => cI (x.val : Int) (y.val : Int)) (List.ofFn (fun i : Fin n => i))).toArray := by
      have := insertionSort_list (Go.Proofs.ltOf fun (x y : Fin n) => cI (x.val : Int) (y.val : Int)) (List.ofFn (fun i : Fin n => i))
      rw [List.length_ofFn] at this
      rw [← this]
      congr 1
      apply Array.ext'
      simp
    have hmap : (isort (Go.Proofs.ltOf fun (x y : Fin n) => cI (x.val : Int) (y.val : Int)) (List.ofFn (fun i : Fin n => i))).map (fun i => (i.val : Int)) = isort (fun a b => decide (cI a b < 0)) (idxs n) := by
      rw [isort_map (fun i : Fin n => (i.val : Int)) (Go.Proofs.ltOf fun (x y : Fin n) => cI (x.val : Int) (y.val : Int)) (fun a b => decide (cI a b < 0)) (fun x y => rfl)]
      congr 1
      unfold idxs
      apply List.ext_getElem
      · simp
      · intro i h1 h2
        simp
    rw [hres] at hc
    have hll : (isort (Go.Proofs.ltOf fun (x y : Fin n) => cI (x.val : Int) (y.val : Int)) (List.ofFn (fun i : Fin n => i))).length = n := by rw [(isort_perm _ _).length_eq, List.length_ofFn]
    generalize isort (Go.Proofs.ltOf fun (x y : Fin n) => cI (x.val : Int) (y.val : Int)) (List.ofFn (fun i : Fin n => i)) = L at hc hmap hll
    rw [← hmap]
    rw [hln]
    refine hc.mono ?_
    rintro e w' ⟨rfl, q, rfl⟩
    obtain ⟨_, hcase⟩ := hown
    rcases hcase with ⟨he, _⟩ | ⟨g', cap', cur, he, hb', hh, hnc, hcm, hcs, ht⟩
    · cases he
    · injection he with ha _ hcap
      injection ha with ha
      injection ha with hgg
      subst hgg hcap
      have hheap : ((Go.Sort.putRow encF w blk 0 L.toArray).drewN q).heap[blk]? = some (.cells (Go.Sort.putCells encF 0 L.toArray cur) 3 (0, 0)) := by
        show (Go.Sort.putRow encF w blk 0 L.toArray).heap[blk]? = _
        unfold Go.Sort.putRow Go.Sort.mapBlock
        simp only
        rw [Array.getElem?_modify, if_pos rfl, hh]
        rfl
      have hgr : w.grownBy ((Go.Sort.putRow encF w blk 0 L.toArray).drewN q) (some blk) := by
        refine ⟨rfl, rfl, rfl, ?_, fun k hk hne => ?_⟩
        · show w.heap.size ≤ (Go.Sort.putRow encF w blk 0 L.toArray).heap.size
          unfold Go.Sort.putRow Go.Sort.mapBlock
          simp
        · show (Go.Sort.putRow encF w blk 0 L.toArray).heap[k]? = _
          unfold Go.Sort.putRow Go.Sort.mapBlock
          simp only
          rw [Array.getElem?_modify, if_neg (fun e => hne (by rw [e]))]
      generalize (Go.Sort.putRow encF w blk 0 L.toArray).drewN q = w' at hheap hgr
      have hsz2 : (Go.Sort.putCells encF 0 L.toArray cur).size = cur.size := by unfold Go.Sort.putCells; simp
      have hcells : (Go.Sort.putCells encF 0 L.toArray cur).toList.take (n * 1) = encs (Value.int .i64) (L.map fun i => (i.val : Int)) := by
        apply List.ext_getElem?
        intro j
        rw [Nat.mul_one, List.getElem?_take]
        unfold encs
        rw [List.getElem?_map, List.getElem?_map]
        by_cases hj : j < n
        · rw [if_pos hj, Array.getElem?_toList]
          unfold Go.Sort.putCells
          rw [Array.getElem?_mapIdx, Array.getElem?_eq_getElem (by omega), Option.map_some, if_pos ⟨Nat.zero_le _, by simp; omega⟩, List.getElem?_eq_getElem (by omega)]
          simp only [Option.map_some, Nat.sub_zero]
          rw [getElem!_pos _ j (by simp; omega)]
          rfl
        · rw [if_neg hj, List.getElem?_eq_none (by omega)]
          rfl
      have hrow : w'.ownsRow base 3 1 (.slice (some ⟨blk, 0, none⟩) n cap) (L.map fun i => (i.val : Int)).length (encs (Value.int .i64) (L.map fun i => (i.val : Int))) := by
        refine ⟨by simp [encs], .inr ⟨blk, cap, _, by rw [List.length_map, hll], hbg, hheap, by rw [List.length_map]; omega, hcm, by rw [hsz2]; exact hcs, ?_⟩⟩
        rw [List.length_map, hll]
        exact hcells
      exact ⟨rfl, Kd.R_of_own hrow (fun k hk => ho.1 k (by rw [hln]; exact hk)), hgr⟩
  · obtain rfl : n = 0 := by omega
    obtain ⟨A, c, rfl⟩ := Kd.R_slice ho
    refine (sortStable_nil A c g cb w).mono ?_
    rintro e w' ⟨rfl, rfl⟩
    exact ⟨rfl, ho, ⟨rfl, rfl, rfl, Nat.le_refl _, fun _ _ _ => rfl⟩⟩
theorem falling_enters : ∀ args w, (callFunc 72 args).run Try.prog w = .ok (.enter 72 args) w := enters_of Try.func72 (by kernel_rfl) rfl
set_option maxHeartbeats 8000000 in
set_option maxRecDepth 100000 in
/-- The closure of FallingOrder: what the later heat has more. -/
theorem falling_closure (x y : Int) (A0 : Option Addr) (c0 : Nat) (l0 : List Int) (B1 : Nat) (w : World) (hx : 0 ≤ x ∧ x < (l0.length : Int)) (hy : 0 ≤ y ∧ y < (l0.length : Int))
    (h1 : w.cell? ⟨B1, 0, none⟩ = some (.slice A0 l0.length c0)) (hr0 : Kd.C (Kd.int .i64) w A0 l0.length l0) :
    Calls Try.prog 72 #[.int .i64 x, .int .i64 y, .pointer (some ⟨B1, 0, none⟩)] w fun e w' => e = .returned (.int .i64 (wrap64 (rd l0 y - rd l0 x))) ∧ ∃ q, w' = w.drewN q := by
  obtain ⟨ad, e0, hcx⟩ := Kd.at_int hr0 x hx.1 hx.2
  cases e0
  obtain ⟨ad', e0, hcy⟩ := Kd.at_int hr0 y hy.1 hy.2
  cases e0
  obtain ⟨px, qx⟩ := hx
  obtain ⟨py, qy⟩ := hy
  generalize rd l0 x = ex at hcx ⊢
  generalize rd l0 y = ey at hcy ⊢
  clear hr0
  go_enter Try.func72, Try.ntmps72
  go_wp2
  repeat (go_quiet (fail); try go_wp2)
  go_ret
  exact ⟨by first | rfl | (rw [IntKind.wrap_i64]; rfl) | (unfold wrap64; simp; done), _, rfl⟩
theorem falling_worlds (A0 : Option Addr) (c0 : Nat) (l0 : List Int) (w w3 : World) (v : Value) (h1 : w3.cell? ⟨w.heap.size, 0, none⟩ = some (.slice A0 l0.length c0)) (hr0 : Kd.C (Kd.int .i64) w A0 l0.length l0) (hb : Below w.heap.size w w3) (hn : ∀ q, v.ownBlock = some q → w.heap.size < q) :
    ∀ W : World, w3.grownBy W v.ownBlock → ∀ x y : Int, 0 ≤ x → x < (l0.length : Int) → 0 ≤ y → y < (l0.length : Int) →
      Calls Try.prog 72 (#[.int .i64 x, .int .i64 y] ++ #[.pointer (some ⟨w.heap.size, 0, none⟩)]) W fun e w' => e = .returned (.int .i64 (wrap64 (rd l0 y - rd l0 x))) ∧ ∃ q, w' = W.drewN q := fun W hg x y hx0 hx1 hy0 hy1 =>
  falling_closure x y A0 c0 l0 w.heap.size W ⟨hx0, hx1⟩ ⟨hy0, hy1⟩ (hg.cell h1 (fun e => Nat.lt_irrefl _ (hn _ e.symm))) (Kd.C_below hr0 (hb.grown hg hb.size (fun q hq => Nat.le_of_lt (hn q hq))))
def impl_FallingOrder.f (k : Nat) (l0 : List Int) : Option (List Int) := (impl_areHeats.f l0).bind fun t => if t = true then ((impl_indices.f k (l0.length : Int)).bind fun ix => if ix = idxs l0.length ∧ l0.length < 20 then some (isort (fun a b => decide (wrap64 (rd l0 b - rd l0 a) < 0)) ix) else none) else some []
theorem impl_FallingOrder.mono : ∀ a0 k, LeO (impl_FallingOrder.f k a0) (impl_FallingOrder.f (k + 1) a0) := fun a0 k =>
  LeO.bind (LeO.refl _) (fun _ => LeO.ite (LeO.bind (impl_indices.mono _ k) (fun _ => LeO.refl _)) (LeO.refl _))
set_option maxHeartbeats 8000000 in
set_option maxRecDepth 100000 in
theorem impl_FallingOrder.calls (k : Nat) (A0 : Option Addr) (c0 : Nat) (l0 : List Int) (r : List Int) (w : World) (hr0 : Kd.C (Kd.int .i64) w A0 l0.length l0) (hc0 : l0.length ≤ c0) (h : impl_FallingOrder.f k l0 = some r) :
    Calls Try.prog 31 #[.slice A0 l0.length c0] w fun e w' => ∃ v0_ : Value, e = .returned (v0_) ∧ Kd.R (Kd.int .i64) 3 w' w.heap.size (fun _ => True) v0_ r ∧ Below w.heap.size w w' := by
  have HR0 := Aside0.mk hr0
  have HC0 := Aside0.mk hc0
  have HB1 := Aside0.mk (below_alloc (Below.refl w.heap.size w) (.cells #[.slice A0 l0.length c0] 22))
  have HC1 := Aside0.mk (Kd.C_below hr0 HB1.out)
  clear hr0 hc0
  have h' := h
  clear h
  unfold impl_FallingOrder.f at h'
  replace h' := Option.bind_eq_some_iff.mp h'
  obtain ⟨t, ht, h⟩ := h'
  have HT := Aside0.mk ht
  clear ht
  by_cases ct : t = true
  · subst ct
    replace h := (if_pos rfl).symm.trans h
    replace h := Option.bind_eq_some_iff.mp h
    obtain ⟨ix, hix, h⟩ := h
    by_cases cx : ix = idxs l0.length ∧ l0.length < 20
    · replace h := (if_pos cx).symm.trans h
      obtain ⟨rfl, h20⟩ := cx
      replace h := Option.some.inj h
      have HX := Aside0.mk hix
      have HE := Aside0.mk h
      have H20 := Aside0.mk h20
      clear h hix h20
      have eg := falling_enters
      go_enter Try.func31, Try.ntmps31
      go_wp2_with (first
        | (go_at_call 69; (with_reducible refine (impl_areHeats.calls A0 c0 l0 true _ HC1.out HC0.out HT.out).mono ?_); rintro e w2 ⟨rfl, hb2⟩; (have hcell2 : w2.cell? ⟨w.heap.size, 0, none⟩ = some (.slice A0 l0.length c0) := (hb2.cell (p := ⟨w.heap.size, 0, none⟩) (by simp)).trans (by simp)); have HB2 := Aside0.mk (below_step HB1.out hb2); have HC2 := Aside0.mk (Kd.C_below HC1.out hb2); clear hb2)
        | (go_at_call 70; (with_reducible refine (impl_indices.calls k (l0.length : Int) (idxs l0.length) _ HX.out).mono ?_); rintro e w3 ⟨v3, rfl, ho3, hb3⟩; (have hcell3 : w3.cell? ⟨w.heap.size, 0, none⟩ = some (.slice A0 l0.length c0) := pw_cell_below hb3 hcell2); have HB3 := Aside0.mk (below_step HB2.out hb3); have HC3 := Aside0.mk (Kd.C_below HC2.out hb3); have HL2 := World.block_lt_of_cell? w2 _ hcell2; have HN3 := Aside0.mk (fun q (hq : v3.ownBlock = some q) => Nat.lt_of_lt_of_le HL2 (own_base (Kd.own_of_R ho3) q hq)); clear HL2; have HO3 := Aside0.mk (Kd.R_lower ho3 (below_size HB2.out)); clear hb3 ho3 hcell2)
        | (go_at_call 71; (with_reducible refine (sortStable_R (fun a b => wrap64 (rd l0 b - rd l0 a)) 72 #[.pointer (some ⟨w.heap.size, 0, none⟩)] l0.length v3 w.heap.size (fun _ => True) w3 H20.out eg (falling_worlds A0 c0 l0 w w3 v3 hcell3 HR0.out HB3.out HN3.out) HO3.out).mono ?_); rintro e w4 ⟨rfl, ho4, hg4⟩; have HO4 := Aside0.mk ho4; have HG4 := Aside0.mk hg4; clear ho4 hg4))
      go_ret
      refine ⟨_, rfl, by rw [← HE.out]; exact HO4.out, HB3.out.grown HG4.out (below_size HB3.out) (fun q hq => Nat.le_of_lt (HN3.out q hq))⟩
    · replace h := (if_neg cx).symm.trans h
      cases h
  · replace h := (if_neg ct).symm.trans h
    replace h := Option.some.inj h
    subst h
    replace ct := Bool.eq_false_iff.mpr ct
    subst ct
    go_enter Try.func31, Try.ntmps31
    go_wp2_with (go_at_call 69; (with_reducible refine (impl_areHeats.calls A0 c0 l0 false _ HC1.out HC0.out HT.out).mono ?_); rintro e w2 ⟨rfl, hb2⟩; (have hcell2 : w2.cell? ⟨w.heap.size, 0, none⟩ = some (.slice A0 l0.length c0) := (hb2.cell (p := ⟨w.heap.size, 0, none⟩) (by simp)).trans (by simp)); have HB2 := Aside0.mk (below_step HB1.out hb2); clear hb2)
    go_ret
    exact ⟨_, rfl, Kd.R_nil _ _ _ _ _, HB2.out⟩


/-! ### laws_FnExactFallingOrder: function 7 -/
def laws_FnExactFallingOrder.j0 : Nat → List Int → List Int → List Int → Bool → Option (Bool)
  | 0, _, _, _, _ => none
  | k + 1, x0, x3, x5, x39 => if x39 = true then (some false) else ((laws_markIntS.f k x5 1).bind fun bt155 => ((laws_heldIntS.f k bt155.2 1).bind fun t157 => (if t157 < 0 then (some false) else (if t157 = bt155.1 then ((laws_toIntS.f k x0).bind fun t158 => ((impl_FallingOrder.f k t158).bind fun t161 => ((laws_eqIntS.f k t161 x3).bind fun t164 => (if t164 = true then ((laws_heldIntS.f k bt155.2 1).bind fun t165 => (if t165 < 0 then (some false) else (if t165 = bt155.1 then (some true) else (some false)))) else (some false))))) else (some false)))))
def laws_FnExactFallingOrder.f (k : Nat) (l0 : List Int) : Option (Bool) := if (l0.length : Int) > 1048576 then (some true) else ((laws_toIntS.f k l0).bind fun t135 => ((spec_FallingOrder.f k t135).bind fun t138 => ((laws_toIntS.f k l0).bind fun t141 => ((impl_FallingOrder.f k t141).bind fun t144 => ((laws_eqIntS.f k t144 t138).bind fun t147 => (if t147 = true then ((laws_toIntS.f k l0).bind fun t148 => ((laws_eqIntS.f k t141 t148).bind fun t151 => (if t151 = true then ((laws_markIntS.f k t141 1).bind fun bt152 => (if bt152.1 < 0 then (laws_FnExactFallingOrder.j0 k l0 t138 t144 true) else ((laws_eqIntS.f k t144 t138).bind fun t154 => (laws_FnExactFallingOrder.j0 k l0 t138 t144 (!t154))))) else (some false)))) else (some false)))))))
theorem laws_FnExactFallingOrder.j0_no {k : Nat} {u0 : List Int} {u1 : List Int} {u2 : List Int} {r : Bool} (h : laws_FnExactFallingOrder.j0 k u0 u1 u2 true = some r) (h2 : r = true) : False := by
  subst h2
  cases k <;> simp [laws_FnExactFallingOrder.j0] at h
theorem laws_FnExactFallingOrder.mono_l : ∀ k, (∀ y0 y1 y2 y3, LeO (laws_FnExactFallingOrder.j0 k y0 y1 y2 y3) (laws_FnExactFallingOrder.j0 (k + 1) y0 y1 y2 y3))
  | 0 => fun _ _ _ _ r h => by simp [laws_FnExactFallingOrder.j0] at h
  | k + 1 => by
    have ih0 := laws_FnExactFallingOrder.mono_l k
    · intro y0 y1 y2 y3
      unfold laws_FnExactFallingOrder.j0
      repeat' first
      | (with_reducible exact ih0 _ _ _ _)
      | (with_reducible exact impl_FallingOrder.mono _ _)
      | (with_reducible exact laws_eqIntS.mono _ _ _)
      | (with_reducible exact laws_heldIntS.mono _ _ _)
      | (with_reducible exact laws_markIntS.mono _ _ _)
      | (with_reducible exact laws_toIntS.mono _ _)
      | (with_reducible exact spec_FallingOrder.mono _ _)
      | (with_reducible exact LeO.refl _)
      | (with_reducible exact LeO.none _)
      | (with_reducible refine LeO.ite ?_ ?_)
      | (with_reducible refine LeO.bind ?_ (fun _ => ?_))
      | exact ih0 _ _ _ _
      | exact impl_FallingOrder.mono _ _
      | exact laws_eqIntS.mono _ _ _
      | exact laws_heldIntS.mono _ _ _
      | exact laws_markIntS.mono _ _ _
      | exact laws_toIntS.mono _ _
      | exact spec_FallingOrder.mono _ _
      | exact LeO.none _
      | refine LeO.ite ?_ ?_
      | refine LeO.bind ?_ (fun _ => ?_)
theorem laws_FnExactFallingOrder.mono : ∀ a0 k, LeO (laws_FnExactFallingOrder.f k a0) (laws_FnExactFallingOrder.f (k + 1) a0) := by
  intro a0 k
  have ih0 := laws_FnExactFallingOrder.mono_l k
  unfold laws_FnExactFallingOrder.f
  repeat' first
      | (with_reducible exact ih0 _ _ _ _)
      | (with_reducible exact impl_FallingOrder.mono _ _)
      | (with_reducible exact laws_eqIntS.mono _ _ _)
      | (with_reducible exact laws_heldIntS.mono _ _ _)
      | (with_reducible exact laws_markIntS.mono _ _ _)
      | (with_reducible exact laws_toIntS.mono _ _)
      | (with_reducible exact spec_FallingOrder.mono _ _)
      | (with_reducible exact LeO.refl _)
      | (with_reducible exact LeO.none _)
      | (with_reducible refine LeO.ite ?_ ?_)
      | (with_reducible refine LeO.bind ?_ (fun _ => ?_))
      | exact ih0 _ _ _ _
      | exact impl_FallingOrder.mono _ _
      | exact laws_eqIntS.mono _ _ _
      | exact laws_heldIntS.mono _ _ _
      | exact laws_markIntS.mono _ _ _
      | exact laws_toIntS.mono _ _
      | exact spec_FallingOrder.mono _ _
      | exact LeO.none _
      | refine LeO.ite ?_ ?_
      | refine LeO.bind ?_ (fun _ => ?_)
set_option maxHeartbeats 8000000 in
set_option maxRecDepth 100000 in
theorem laws_FnExactFallingOrder.calls (k : Nat) (A0 : Option Addr) (c0 : Nat) (l0 : List Int) (r : Bool) (w : World) (hr_ : Aside0 (r = true)) (hr0 : Kd.C (Kd.int .i64) w A0 l0.length l0) (hc0 : l0.length ≤ c0) (h : laws_FnExactFallingOrder.f k l0 = some r) :
    Calls Try.prog 7 #[.slice A0 l0.length c0] w fun e w' => e = .returned (.bool r) ∧ Below w.heap.size w w' := by
  have HR0 := Aside0.mk hr0
  have HC0 := Aside0.mk hc0
  clear hr0 hc0
  have HB := Aside0.mk (Below.refl w.heap.size w)
  have H : (if (l0.length : Int) > 1048576 then (some true) else ((laws_toIntS.f k l0).bind fun t135 => ((spec_FallingOrder.f k t135).bind fun t138 => ((laws_toIntS.f k l0).bind fun t141 => ((impl_FallingOrder.f k t141).bind fun t144 => ((laws_eqIntS.f k t144 t138).bind fun t147 => (if t147 = true then ((laws_toIntS.f k l0).bind fun t148 => ((laws_eqIntS.f k t141 t148).bind fun t151 => (if t151 = true then ((laws_markIntS.f k t141 1).bind fun bt152 => (if bt152.1 < 0 then (laws_FnExactFallingOrder.j0 k l0 t138 t144 true) else ((laws_eqIntS.f k t144 t138).bind fun t154 => (laws_FnExactFallingOrder.j0 k l0 t138 t144 (!t154))))) else (some false)))) else (some false)))))))) = some r := h
  clear h
  by_cases c2 : (l0.length : Int) > 1048576
  · rw [if_pos c2] at H
    have c2b0 : decide (1048576 < (l0.length : Int)) = true := decide_eq_true c2
    have c2b1 : decide (1048576 < l0.length) = true := decide_eq_true (by omega)
    clear c2
    obtain rfl := Option.some.inj H
    go_enter Try.func7, Try.ntmps7
    go_wp2
    go_ret
    exact ⟨by first | rfl | (simp [errW_none, errW_some] <;> rfl) | (simp [*, errW_none, errW_some] <;> rfl), by repeat (first | (with_reducible first | exact HB.out | apply below_alloc | apply pw_below_drewN | apply below_drew1) | exact HB.out)⟩
  · rw [if_neg c2] at H
    have c2b0 : decide (1048576 < (l0.length : Int)) = false := decide_eq_false c2
    have c2b1 : decide (1048576 < l0.length) = false := decide_eq_false (by omega)
    clear c2
    replace H := Option.bind_eq_some_iff.mp H
    obtain ⟨t135, A30, H⟩ := H
    replace H : ((spec_FallingOrder.f k t135).bind fun t138 => ((laws_toIntS.f k l0).bind fun t141 => ((impl_FallingOrder.f k t141).bind fun t144 => ((laws_eqIntS.f k t144 t138).bind fun t147 => (if t147 = true then ((laws_toIntS.f k l0).bind fun t148 => ((laws_eqIntS.f k t141 t148).bind fun t151 => (if t151 = true then ((laws_markIntS.f k t141 1).bind fun bt152 => (if bt152.1 < 0 then (laws_FnExactFallingOrder.j0 k l0 t138 t144 true) else ((laws_eqIntS.f k t144 t138).bind fun t154 => (laws_FnExactFallingOrder.j0 k l0 t138 t144 (!t154))))) else (some false)))) else (some false)))))) = some r := H
    have A3 := Aside0.mk A30
    clear A30
    replace H := Option.bind_eq_some_iff.mp H
    obtain ⟨t138, A40, H⟩ := H
    replace H : ((laws_toIntS.f k l0).bind fun t141 => ((impl_FallingOrder.f k t141).bind fun t144 => ((laws_eqIntS.f k t144 t138).bind fun t147 => (if t147 = true then ((laws_toIntS.f k l0).bind fun t148 => ((laws_eqIntS.f k t141 t148).bind fun t151 => (if t151 = true then ((laws_markIntS.f k t141 1).bind fun bt152 => (if bt152.1 < 0 then (laws_FnExactFallingOrder.j0 k l0 t138 t144 true) else ((laws_eqIntS.f k t144 t138).bind fun t154 => (laws_FnExactFallingOrder.j0 k l0 t138 t144 (!t154))))) else (some false)))) else (some false))))) = some r := H
    have A4 := Aside0.mk A40
    clear A40
    replace H := Option.bind_eq_some_iff.mp H
    obtain ⟨t141, A50, H⟩ := H
    replace H : ((impl_FallingOrder.f k t141).bind fun t144 => ((laws_eqIntS.f k t144 t138).bind fun t147 => (if t147 = true then ((laws_toIntS.f k l0).bind fun t148 => ((laws_eqIntS.f k t141 t148).bind fun t151 => (if t151 = true then ((laws_markIntS.f k t141 1).bind fun bt152 => (if bt152.1 < 0 then (laws_FnExactFallingOrder.j0 k l0 t138 t144 true) else ((laws_eqIntS.f k t144 t138).bind fun t154 => (laws_FnExactFallingOrder.j0 k l0 t138 t144 (!t154))))) else (some false)))) else (some false)))) = some r := H
    have A5 := Aside0.mk A50
    clear A50
    replace H := Option.bind_eq_some_iff.mp H
    obtain ⟨t144, A60, H⟩ := H
    replace H : ((laws_eqIntS.f k t144 t138).bind fun t147 => (if t147 = true then ((laws_toIntS.f k l0).bind fun t148 => ((laws_eqIntS.f k t141 t148).bind fun t151 => (if t151 = true then ((laws_markIntS.f k t141 1).bind fun bt152 => (if bt152.1 < 0 then (laws_FnExactFallingOrder.j0 k l0 t138 t144 true) else ((laws_eqIntS.f k t144 t138).bind fun t154 => (laws_FnExactFallingOrder.j0 k l0 t138 t144 (!t154))))) else (some false)))) else (some false))) = some r := H
    have A6 := Aside0.mk A60
    clear A60
    replace H := Option.bind_eq_some_iff.mp H
    obtain ⟨t147, A70, H⟩ := H
    replace H : (if t147 = true then ((laws_toIntS.f k l0).bind fun t148 => ((laws_eqIntS.f k t141 t148).bind fun t151 => (if t151 = true then ((laws_markIntS.f k t141 1).bind fun bt152 => (if bt152.1 < 0 then (laws_FnExactFallingOrder.j0 k l0 t138 t144 true) else ((laws_eqIntS.f k t144 t138).bind fun t154 => (laws_FnExactFallingOrder.j0 k l0 t138 t144 (!t154))))) else (some false)))) else (some false)) = some r := H
    have A7 := Aside0.mk A70
    clear A70
    by_cases c8 : t147 = true
    · subst c8
      have H1 : ((laws_toIntS.f k l0).bind fun t148 => ((laws_eqIntS.f k t141 t148).bind fun t151 => (if t151 = true then ((laws_markIntS.f k t141 1).bind fun bt152 => (if bt152.1 < 0 then (laws_FnExactFallingOrder.j0 k l0 t138 t144 true) else ((laws_eqIntS.f k t144 t138).bind fun t154 => (laws_FnExactFallingOrder.j0 k l0 t138 t144 (!t154))))) else (some false)))) = some r := by rw [if_pos rfl] at H; exact H
      clear H
      have H := H1
      clear H1
      replace H := Option.bind_eq_some_iff.mp H
      obtain ⟨t148, A90, H⟩ := H
      replace H : ((laws_eqIntS.f k t141 t148).bind fun t151 => (if t151 = true then ((laws_markIntS.f k t141 1).bind fun bt152 => (if bt152.1 < 0 then (laws_FnExactFallingOrder.j0 k l0 t138 t144 true) else ((laws_eqIntS.f k t144 t138).bind fun t154 => (laws_FnExactFallingOrder.j0 k l0 t138 t144 (!t154))))) else (some false))) = some r := H
      have A9 := Aside0.mk A90
      clear A90
      replace H := Option.bind_eq_some_iff.mp H
      obtain ⟨t151, A100, H⟩ := H
      replace H : (if t151 = true then ((laws_markIntS.f k t141 1).bind fun bt152 => (if bt152.1 < 0 then (laws_FnExactFallingOrder.j0 k l0 t138 t144 true) else ((laws_eqIntS.f k t144 t138).bind fun t154 => (laws_FnExactFallingOrder.j0 k l0 t138 t144 (!t154))))) else (some false)) = some r := H
      have A10 := Aside0.mk A100
      clear A100
      by_cases c11 : t151 = true
      · subst c11
        have H1 : ((laws_markIntS.f k t141 1).bind fun bt152 => (if bt152.1 < 0 then (laws_FnExactFallingOrder.j0 k l0 t138 t144 true) else ((laws_eqIntS.f k t144 t138).bind fun t154 => (laws_FnExactFallingOrder.j0 k l0 t138 t144 (!t154))))) = some r := by rw [if_pos rfl] at H; exact H
        clear H
        have H := H1
        clear H1
        replace H := Option.bind_eq_some_iff.mp H
        obtain ⟨⟨t152, t153⟩, A120, H⟩ := H
        replace H : (if t152 < 0 then (laws_FnExactFallingOrder.j0 k l0 t138 t144 true) else ((laws_eqIntS.f k t144 t138).bind fun t154 => (laws_FnExactFallingOrder.j0 k l0 t138 t144 (!t154)))) = some r := H
        have A12 := Aside0.mk A120
        clear A120
        have HC13 := Aside0.mk H
        clear H
        go_enter Try.func7, Try.ntmps7
        go_upto_region 12 with (first | ((with_reducible refine gate_callee (f := 16) rfl ?_); refine goesL_ (some 14) rfl rfl Try.func16 (by kernel_rfl) rfl #[.slice A0 l0.length c0] rfl (by (try simp only [List.map_toArray, List.map_cons, List.map_nil]); first | done | rfl | (simp only [List.length_drop, List.length_take]; rfl)) ?_; (with_reducible refine (laws_toIntS.calls k _ _ l0 t135 _ ?side1 ?side2 A3.out).mono ?_); (case side1 => repeat (first | exact HR0.out | (with_reducible refine Kd.C_alloc ?_ _) | (with_reducible refine Kd.C_drewN ?_ _) | (with_reducible refine Kd.C_drew ?_))); (case side2 => exact HC0.out); rintro e w14 ⟨v136, rfl, ho0, hb⟩; refine ⟨_, rfl, ?_⟩; have n0_ := Aside0.mk (Kd.R_lower ho0 (below_size (by repeat (first | (with_reducible first | exact HB.out | apply below_alloc | apply pw_below_drewN | apply below_drew1) | exact HB.out)))); have n1_ := Aside0.mk (below_step (by repeat (first | (with_reducible first | exact HB.out | apply below_alloc | apply pw_below_drewN | apply below_drew1) | exact HB.out)) hb); clear HB; have HO137 := n0_; have HB := n1_; clear n0_ n1_; (try clear hb); (try clear hb2); (try clear hk); (try clear hi); (try clear ho0); obtain ⟨Ao15, co15, eo15⟩ := Kd.R_slice HO137.out; subst eo15) | ((with_reducible refine gate_callee (f := 30) rfl ?_); refine goesL_ (some 15) rfl rfl Try.func30 (by kernel_rfl) rfl #[.slice Ao15 t135.length co15] rfl (by (try simp only [List.map_toArray, List.map_cons, List.map_nil]); first | done | rfl | (simp only [List.length_drop, List.length_take]; rfl)) ?_; (with_reducible refine (spec_FallingOrder.calls k _ _ t135 t138 _ ?side1 ?side2 A4.out).mono ?_); (case side1 => repeat (first | exact (Kd.R_reads' HO137.out).2.2 | (with_reducible refine Kd.C_alloc ?_ _) | (with_reducible refine Kd.C_drewN ?_ _) | (with_reducible refine Kd.C_drew ?_))); (case side2 => exact (Kd.R_reads' HO137.out).2.1); rintro e w16 ⟨v139, rfl, ho0, hb⟩; refine ⟨_, rfl, ?_⟩; have n0_ := Aside0.mk (Kd.R_elder' (by (with_reducible repeat (first | apply Kd.R_alloc | apply Kd.R_drewN | apply Kd.R_drew)); exact HO137.out) (Kd.R_base ho0) hb); have n1_ := Aside0.mk (Kd.R_lower (Kd.R_new' ho0 (Kd.R_lt (by (with_reducible repeat (first | apply Kd.R_alloc | apply Kd.R_drewN | apply Kd.R_drew)); exact HO137.out))) (below_size (by repeat (first | (with_reducible first | exact HB.out | apply below_alloc | apply pw_below_drewN | apply below_drew1) | exact HB.out)))); have n2_ := Aside0.mk (below_step (by repeat (first | (with_reducible first | exact HB.out | apply below_alloc | apply pw_below_drewN | apply below_drew1) | exact HB.out)) hb); clear HO137; clear HB; have HO137 := n0_; have HO140 := n1_; have HB := n2_; clear n0_ n1_ n2_; (try clear hb); (try clear hb2); (try clear hk); (try clear hi); (try clear ho0)) | ((with_reducible refine gate_callee (f := 16) rfl ?_); refine goesL_ (some 17) rfl rfl Try.func16 (by kernel_rfl) rfl #[.slice A0 l0.length c0] rfl (by (try simp only [List.map_toArray, List.map_cons, List.map_nil]); first | done | rfl | (simp only [List.length_drop, List.length_take]; rfl)) ?_; (with_reducible refine (laws_toIntS.calls k _ _ l0 t141 _ ?side1 ?side2 A5.out).mono ?_); (case side1 => repeat (first | exact (Kd.C_below HR0.out HB.out) | (with_reducible refine Kd.C_alloc ?_ _) | (with_reducible refine Kd.C_drewN ?_ _) | (with_reducible refine Kd.C_drew ?_))); (case side2 => exact HC0.out); rintro e w17 ⟨v142, rfl, ho0, hb⟩; refine ⟨_, rfl, ?_⟩; have n0_ := Aside0.mk (Kd.R_elder' (by (with_reducible repeat (first | apply Kd.R_alloc | apply Kd.R_drewN | apply Kd.R_drew)); exact HO137.out) (Kd.R_base ho0) hb); have n1_ := Aside0.mk (Kd.R_elder' (by (with_reducible repeat (first | apply Kd.R_alloc | apply Kd.R_drewN | apply Kd.R_drew)); exact HO140.out) (Kd.R_base ho0) hb); have n2_ := Aside0.mk (Kd.R_lower (Kd.R_new' (Kd.R_new' ho0 (Kd.R_lt (by (with_reducible repeat (first | apply Kd.R_alloc | apply Kd.R_drewN | apply Kd.R_drew)); exact HO137.out))) (Kd.R_lt (by (with_reducible repeat (first | apply Kd.R_alloc | apply Kd.R_drewN | apply Kd.R_drew)); exact HO140.out))) (below_size (by repeat (first | (with_reducible first | exact HB.out | apply below_alloc | apply pw_below_drewN | apply below_drew1) | exact HB.out)))); have n3_ := Aside0.mk (below_step (by repeat (first | (with_reducible first | exact HB.out | apply below_alloc | apply pw_below_drewN | apply below_drew1) | exact HB.out)) hb); clear HO137; clear HO140; clear HB; have HO137 := n0_; have HO140 := n1_; have HO143 := n2_; have HB := n3_; clear n0_ n1_ n2_ n3_; (try clear hb); (try clear hb2); (try clear hk); (try clear hi); (try clear ho0); obtain ⟨Ao18, co18, eo18⟩ := Kd.R_slice HO143.out; subst eo18) | ((with_reducible refine gate_callee (f := 31) rfl ?_); refine goesL_ (some 19) rfl rfl Try.func31 (by kernel_rfl) rfl #[.slice Ao18 t141.length co18] rfl (by (try simp only [List.map_toArray, List.map_cons, List.map_nil]); first | done | rfl | (simp only [List.length_drop, List.length_take]; rfl)) ?_; (with_reducible refine (impl_FallingOrder.calls k _ _ t141 t144 _ ?side1 ?side2 A6.out).mono ?_); (case side1 => repeat (first | exact (Kd.R_reads' HO143.out).2.2 | (with_reducible refine Kd.C_alloc ?_ _) | (with_reducible refine Kd.C_drewN ?_ _) | (with_reducible refine Kd.C_drew ?_))); (case side2 => exact (Kd.R_reads' HO143.out).2.1); rintro e w19 ⟨v145, rfl, ho0, hb⟩; refine ⟨_, rfl, ?_⟩; have n0_ := Aside0.mk (Kd.R_elder' (by (with_reducible repeat (first | apply Kd.R_alloc | apply Kd.R_drewN | apply Kd.R_drew)); exact HO137.out) (Kd.R_base ho0) hb); have n1_ := Aside0.mk (Kd.R_elder' (by (with_reducible repeat (first | apply Kd.R_alloc | apply Kd.R_drewN | apply Kd.R_drew)); exact HO140.out) (Kd.R_base ho0) hb); have n2_ := Aside0.mk (Kd.R_elder' (by (with_reducible repeat (first | apply Kd.R_alloc | apply Kd.R_drewN | apply Kd.R_drew)); exact HO143.out) (Kd.R_base ho0) hb); have n3_ := Aside0.mk (Kd.R_lower (Kd.R_new' (Kd.R_new' (Kd.R_new' ho0 (Kd.R_lt (by (with_reducible repeat (first | apply Kd.R_alloc | apply Kd.R_drewN | apply Kd.R_drew)); exact HO137.out))) (Kd.R_lt (by (with_reducible repeat (first | apply Kd.R_alloc | apply Kd.R_drewN | apply Kd.R_drew)); exact HO140.out))) (Kd.R_lt (by (with_reducible repeat (first | apply Kd.R_alloc | apply Kd.R_drewN | apply Kd.R_drew)); exact HO143.out))) (below_size (by repeat (first | (with_reducible first | exact HB.out | apply below_alloc | apply pw_below_drewN | apply below_drew1) | exact HB.out)))); have n4_ := Aside0.mk (below_step (by repeat (first | (with_reducible first | exact HB.out | apply below_alloc | apply pw_below_drewN | apply below_drew1) | exact HB.out)) hb); clear HO137; clear HO140; clear HO143; clear HB; have HO137 := n0_; have HO140 := n1_; have HO143 := n2_; have HO146 := n3_; have HB := n4_; clear n0_ n1_ n2_ n3_ n4_; (try clear hb); (try clear hb2); (try clear hk); (try clear hi); (try clear ho0); obtain ⟨Ao20, co20, eo20⟩ := Kd.R_slice HO146.out; subst eo20; obtain ⟨Ao21, co21, eo21⟩ := Kd.R_slice HO140.out; subst eo21) | ((with_reducible refine gate_callee (f := 18) rfl ?_); refine goesL_ (some 22) rfl rfl Try.func18 (by kernel_rfl) rfl #[.slice Ao20 t144.length co20, .slice Ao21 t138.length co21] rfl (by (try simp only [List.map_toArray, List.map_cons, List.map_nil]); first | done | rfl | (simp only [List.length_drop, List.length_take]; rfl)) ?_; (with_reducible refine (laws_eqIntS.calls k _ _ t144 _ _ t138 true _ ?side1 ?side2 ?side3 ?side4 A7.out).mono ?_); (case side1 => repeat (first | exact (Kd.R_reads' HO146.out).2.2 | (with_reducible refine Kd.C_alloc ?_ _) | (with_reducible refine Kd.C_drewN ?_ _) | (with_reducible refine Kd.C_drew ?_))); (case side2 => exact (Kd.R_reads' HO146.out).2.1); (case side3 => repeat (first | exact (Kd.R_reads' HO140.out).2.2 | (with_reducible refine Kd.C_alloc ?_ _) | (with_reducible refine Kd.C_drewN ?_ _) | (with_reducible refine Kd.C_drew ?_))); (case side4 => exact (Kd.R_reads' HO140.out).2.1); rintro e w' ⟨rfl, ⟨nd, rfl⟩⟩; refine ⟨_, rfl, ?_⟩) | ((with_reducible refine gate_callee (f := 16) rfl ?_); refine goesL_ (some 26) rfl rfl Try.func16 (by kernel_rfl) rfl #[.slice A0 l0.length c0] rfl (by (try simp only [List.map_toArray, List.map_cons, List.map_nil]); first | done | rfl | (simp only [List.length_drop, List.length_take]; rfl)) ?_; (with_reducible refine (laws_toIntS.calls k _ _ l0 t148 _ ?side1 ?side2 A9.out).mono ?_); (case side1 => repeat (first | exact (Kd.C_below HR0.out (by repeat (first | (with_reducible first | exact HB.out | apply below_alloc | apply pw_below_drewN | apply below_drew1) | exact HB.out))) | (with_reducible refine Kd.C_alloc ?_ _) | (with_reducible refine Kd.C_drewN ?_ _) | (with_reducible refine Kd.C_drew ?_))); (case side2 => exact HC0.out); rintro e w22 ⟨v149, rfl, ho0, hb⟩; refine ⟨_, rfl, ?_⟩; have n0_ := Aside0.mk (Kd.R_elder' (by (with_reducible repeat (first | apply Kd.R_alloc | apply Kd.R_drewN | apply Kd.R_drew)); exact HO137.out) (Kd.R_base ho0) hb); have n1_ := Aside0.mk (Kd.R_elder' (by (with_reducible repeat (first | apply Kd.R_alloc | apply Kd.R_drewN | apply Kd.R_drew)); exact HO140.out) (Kd.R_base ho0) hb); have n2_ := Aside0.mk (Kd.R_elder' (by (with_reducible repeat (first | apply Kd.R_alloc | apply Kd.R_drewN | apply Kd.R_drew)); exact HO143.out) (Kd.R_base ho0) hb); have n3_ := Aside0.mk (Kd.R_elder' (by (with_reducible repeat (first | apply Kd.R_alloc | apply Kd.R_drewN | apply Kd.R_drew)); exact HO146.out) (Kd.R_base ho0) hb); have n4_ := Aside0.mk (Kd.R_lower (Kd.R_new' (Kd.R_new' (Kd.R_new' (Kd.R_new' ho0 (Kd.R_lt (by (with_reducible repeat (first | apply Kd.R_alloc | apply Kd.R_drewN | apply Kd.R_drew)); exact HO137.out))) (Kd.R_lt (by (with_reducible repeat (first | apply Kd.R_alloc | apply Kd.R_drewN | apply Kd.R_drew)); exact HO140.out))) (Kd.R_lt (by (with_reducible repeat (first | apply Kd.R_alloc | apply Kd.R_drewN | apply Kd.R_drew)); exact HO143.out))) (Kd.R_lt (by (with_reducible repeat (first | apply Kd.R_alloc | apply Kd.R_drewN | apply Kd.R_drew)); exact HO146.out))) (below_size (by repeat (first | (with_reducible first | exact HB.out | apply below_alloc | apply pw_below_drewN | apply below_drew1) | exact HB.out)))); have n5_ := Aside0.mk (below_step (by repeat (first | (with_reducible first | exact HB.out | apply below_alloc | apply pw_below_drewN | apply below_drew1) | exact HB.out)) hb); clear HO137; clear HO140; clear HO143; clear HO146; clear HB; have HO137 := n0_; have HO140 := n1_; have HO143 := n2_; have HO146 := n3_; have HO150 := n4_; have HB := n5_; clear n0_ n1_ n2_ n3_ n4_ n5_; (try clear hb); (try clear hb2); (try clear hk); (try clear hi); (try clear ho0); obtain ⟨Ao23, co23, eo23⟩ := Kd.R_slice HO150.out; subst eo23) | ((with_reducible refine gate_callee (f := 18) rfl ?_); refine goesL_ (some 27) rfl rfl Try.func18 (by kernel_rfl) rfl #[.slice Ao18 t141.length co18, .slice Ao23 t148.length co23] rfl (by (try simp only [List.map_toArray, List.map_cons, List.map_nil]); first | done | rfl | (simp only [List.length_drop, List.length_take]; rfl)) ?_; (with_reducible refine (laws_eqIntS.calls k _ _ t141 _ _ t148 true _ ?side1 ?side2 ?side3 ?side4 A10.out).mono ?_); (case side1 => repeat (first | exact (Kd.R_reads' HO143.out).2.2 | (with_reducible refine Kd.C_alloc ?_ _) | (with_reducible refine Kd.C_drewN ?_ _) | (with_reducible refine Kd.C_drew ?_))); (case side2 => exact (Kd.R_reads' HO143.out).2.1); (case side3 => repeat (first | exact (Kd.R_reads' HO150.out).2.2 | (with_reducible refine Kd.C_alloc ?_ _) | (with_reducible refine Kd.C_drewN ?_ _) | (with_reducible refine Kd.C_drew ?_))); (case side4 => exact (Kd.R_reads' HO150.out).2.1); rintro e w' ⟨rfl, ⟨nd, rfl⟩⟩; refine ⟨_, rfl, ?_⟩) | ((with_reducible refine gate_callee (f := 23) rfl ?_); refine goesL_ (some 31) rfl rfl Try.func23 (by kernel_rfl) rfl #[.slice Ao18 t141.length co18, .int .i64 1] rfl (by (try simp only [List.map_toArray, List.map_cons, List.map_nil]); first | done | rfl | (simp only [List.length_drop, List.length_take]; rfl)) ?_; (with_reducible refine (laws_markIntS.calls k (fun k_ => some k_ = (.slice Ao18 t141.length co18 : Value).ownBlock) (.slice Ao18 t141.length co18) t141 1 t152 t153 w _ ?side1 ?side2 A12.out).mono ?_); (case side1 => repeat (first | (with_reducible first | exact HB.out | apply below_alloc | apply pw_below_drewN | apply below_drew1) | exact HB.out)); (case side2 => exact Kd.R_tight rfl HO143.out); rintro e w24 ⟨rfl, hy0, hb, hkp⟩; refine ⟨_, rfl, ?_⟩; have n0_ := Aside0.mk (Kd.R_mono (ok' := fun k_ => some k_ ≠ (.slice Ao21 t138.length co21 : Value).ownBlock ∧ some k_ ≠ (.slice Ao18 t141.length co18 : Value).ownBlock ∧ some k_ ≠ (.slice Ao20 t144.length co20 : Value).ownBlock ∧ some k_ ≠ (.slice Ao23 t148.length co23 : Value).ownBlock) (Kd.R_keptB (HO137.out) hkp (fun k_ hk_ hs_ => (hk_.1.1.2) hs_)) (fun k_ hk_ => ⟨hk_.1.1.1.1.2, hk_.1.1.1.2, hk_.1.1.2, hk_.1.2⟩)); have n1_ := Aside0.mk (Kd.R_mono (ok' := fun k_ => some k_ ≠ (.slice Ao15 t135.length co15 : Value).ownBlock ∧ some k_ ≠ (.slice Ao18 t141.length co18 : Value).ownBlock ∧ some k_ ≠ (.slice Ao20 t144.length co20 : Value).ownBlock ∧ some k_ ≠ (.slice Ao23 t148.length co23 : Value).ownBlock) (Kd.R_keptB (HO140.out) hkp (fun k_ hk_ hs_ => (hk_.1.1.2) hs_)) (fun k_ hk_ => ⟨hk_.1.1.1.1.2, hk_.1.1.1.2, hk_.1.1.2, hk_.1.2⟩)); have n2_ := Aside0.mk (Kd.R_reok rfl hy0 (fun k_ e_ => HO143.out.1 k_ e_)); have n3_ := Aside0.mk (Kd.R_mono (ok' := fun k_ => some k_ ≠ (.slice Ao15 t135.length co15 : Value).ownBlock ∧ some k_ ≠ (.slice Ao21 t138.length co21 : Value).ownBlock ∧ some k_ ≠ (.slice Ao18 t141.length co18 : Value).ownBlock ∧ some k_ ≠ (.slice Ao23 t148.length co23 : Value).ownBlock) (Kd.R_keptB (HO146.out) hkp (fun k_ hk_ hs_ => (hk_.1.2) hs_)) (fun k_ hk_ => ⟨hk_.1.1.1.1.2, hk_.1.1.1.2, hk_.1.1.2, hk_.1.2⟩)); have n4_ := Aside0.mk (Kd.R_mono (ok' := fun k_ => some k_ ≠ (.slice Ao15 t135.length co15 : Value).ownBlock ∧ some k_ ≠ (.slice Ao21 t138.length co21 : Value).ownBlock ∧ some k_ ≠ (.slice Ao18 t141.length co18 : Value).ownBlock ∧ some k_ ≠ (.slice Ao20 t144.length co20 : Value).ownBlock) (Kd.R_keptB (HO150.out) hkp (fun k_ hk_ hs_ => (hk_.1.2) hs_)) (fun k_ hk_ => ⟨hk_.1.1.1.1.2, hk_.1.1.1.2, hk_.1.1.2, hk_.1.2⟩)); have n5_ := Aside0.mk (hb); clear HO137; clear HO140; clear HO143; clear HO146; clear HO150; clear HB; have HO137 := n0_; have HO140 := n1_; have HO143 := n2_; have HO146 := n3_; have HO150 := n4_; have HB := n5_; clear n0_ n1_ n2_ n3_ n4_ n5_; (try clear hb); (try clear hkp); (try clear hy0)))
        (try simp only [Act.put, List.setIfInBounds_toArray, List.set_cons_zero, List.set_cons_succ])
        go_cut [39] (fun v39 wc => ∃ (kq : Nat) (x39_12 : Bool), v39 = .bool x39_12 ∧ Aside0 (laws_FnExactFallingOrder.j0 kq l0 t138 t144 x39_12 = some r) ∧ Aside0 (kq ≤ k) ∧ Aside0 (Kd.R (Kd.int .i64) 3 wc w.heap.size (fun k_ => some k_ ≠ ((.slice Ao20 t144.length co20) : Value).ownBlock) (.slice Ao21 t138.length co21) t138) ∧ Aside0 (Kd.R (Kd.int .i64) 3 wc w.heap.size (fun k_ => some k_ ≠ ((.slice Ao21 t138.length co21) : Value).ownBlock) (.slice Ao20 t144.length co20) t144) ∧ Aside0 (Below w.heap.size w wc))
        case first =>
          have H := HC13.out
          clear HC13
          by_cases c25 : t152 < 0
          · rw [if_pos c25] at H
            have c25b0 : decide (t152 < 0) = true := decide_eq_true c25
            clear c25
            (first | rw [c25b0] | (simp only [i64_w, i32_w]; rw [c25b0]) | skip)
            have H' := Aside0.mk H
            first | exact (laws_FnExactFallingOrder.j0_no H'.out hr_.out).elim
          · rw [if_neg c25] at H
            have c25b0 : decide (t152 < 0) = false := decide_eq_false c25
            clear c25
            (first | rw [c25b0] | (simp only [i64_w, i32_w]; rw [c25b0]) | skip)
            replace H := Option.bind_eq_some_iff.mp H
            obtain ⟨t154, A260, H⟩ := H
            replace H : (laws_FnExactFallingOrder.j0 k l0 t138 t144 (!t154)) = some r := H
            have A26 := Aside0.mk A260
            clear A260
            have H' := Aside0.mk H
            clear H
            go_wp2_with (first | (go_at_call 18; (with_reducible refine (laws_eqIntS.calls k _ _ t144 _ _ t138 t154 _ ?side1 ?side2 ?side3 ?side4 A26.out).mono ?_); (case side1 => repeat (first | exact (Kd.R_reads' HO146.out).2.2 | (with_reducible refine Kd.C_alloc ?_ _) | (with_reducible refine Kd.C_drewN ?_ _) | (with_reducible refine Kd.C_drew ?_))); (case side2 => exact (Kd.R_reads' HO146.out).2.1); (case side3 => repeat (first | exact (Kd.R_reads' HO140.out).2.2 | (with_reducible refine Kd.C_alloc ?_ _) | (with_reducible refine Kd.C_drewN ?_ _) | (with_reducible refine Kd.C_drew ?_))); (case side4 => exact (Kd.R_reads' HO140.out).2.1); rintro e w' ⟨rfl, ⟨nd, rfl⟩⟩))
            go_meet
            case rel => exact ⟨_, (!t154), (by first | rfl | (simp; done) | (simp [*]; done)), H', ⟨by first | omega | exact Nat.le_refl _⟩, ⟨by (with_reducible repeat (first | apply Kd.R_alloc | apply Kd.R_drewN | apply Kd.R_drew)); exact Kd.R_mono HO140.out (fun _ hk => hk.2.2.1)⟩, ⟨by (with_reducible repeat (first | apply Kd.R_alloc | apply Kd.R_drewN | apply Kd.R_drew)); exact Kd.R_mono HO146.out (fun _ hk => hk.2.1)⟩, ⟨by repeat (first | (with_reducible first | exact HB.out | apply below_alloc | apply pw_below_drewN | apply below_drew1) | exact HB.out)⟩⟩
        case rest =>
          clear HC13
          try clear c1
          try clear c2
          try clear c2b0
          try clear c2b1
          try clear p2
          try clear c3
          try clear c7
          try clear c8
          try clear c11
          try clear c16
          try clear c18
          try clear c23
          try clear c25
          try clear c25b0
          obtain ⟨kq, x39_12, rfl, HA, HJ12, HO_3, HO_5, HB⟩ := hcut
          cases kq with
          | zero => exact absurd HA.out (by simp [laws_FnExactFallingOrder.j0])
          | succ kj12 =>
            have H := HA.out
            clear HA
            simp only [laws_FnExactFallingOrder.j0] at H
            by_cases c27 : x39_12 = true
            · subst c27
              have H1 : (some false) = some r := by rw [if_pos rfl] at H; exact H
              clear H
              have H := H1
              clear H1
              exact absurd (Option.some.inj H) (by rw [hr_.out]; decide)
            · replace c27 := Bool.eq_false_iff.mpr c27
              subst c27
              have H1 : ((laws_markIntS.f kj12 t144 1).bind fun bt155 => ((laws_heldIntS.f kj12 bt155.2 1).bind fun t157 => (if t157 < 0 then (some false) else (if t157 = bt155.1 then ((laws_toIntS.f kj12 l0).bind fun t158 => ((impl_FallingOrder.f kj12 t158).bind fun t161 => ((laws_eqIntS.f kj12 t161 t138).bind fun t164 => (if t164 = true then ((laws_heldIntS.f kj12 bt155.2 1).bind fun t165 => (if t165 < 0 then (some false) else (if t165 = bt155.1 then (some true) else (some false)))) else (some false))))) else (some false))))) = some r := by rw [if_neg (show ¬ (false = true) by decide)] at H; exact H
              clear H
              have H := H1
              clear H1
              replace H := Option.bind_eq_some_iff.mp H
              obtain ⟨⟨t155, t156⟩, A280, H⟩ := H
              replace H : ((laws_heldIntS.f kj12 t156 1).bind fun t157 => (if t157 < 0 then (some false) else (if t157 = t155 then ((laws_toIntS.f kj12 l0).bind fun t158 => ((impl_FallingOrder.f kj12 t158).bind fun t161 => ((laws_eqIntS.f kj12 t161 t138).bind fun t164 => (if t164 = true then ((laws_heldIntS.f kj12 t156 1).bind fun t165 => (if t165 < 0 then (some false) else (if t165 = t155 then (some true) else (some false)))) else (some false))))) else (some false)))) = some r := H
              have A28 := Aside0.mk A280
              clear A280
              replace H := Option.bind_eq_some_iff.mp H
              obtain ⟨t157, A290, H⟩ := H
              replace H : (if t157 < 0 then (some false) else (if t157 = t155 then ((laws_toIntS.f kj12 l0).bind fun t158 => ((impl_FallingOrder.f kj12 t158).bind fun t161 => ((laws_eqIntS.f kj12 t161 t138).bind fun t164 => (if t164 = true then ((laws_heldIntS.f kj12 t156 1).bind fun t165 => (if t165 < 0 then (some false) else (if t165 = t155 then (some true) else (some false)))) else (some false))))) else (some false))) = some r := H
              have A29 := Aside0.mk A290
              clear A290
              by_cases c30 : t157 < 0
              · rw [if_pos c30] at H
                have c30b0 : decide (t157 < 0) = true := decide_eq_true c30
                clear c30
                exact absurd (Option.some.inj H) (by rw [hr_.out]; decide)
              · rw [if_neg c30] at H
                have c30b0 : decide (t157 < 0) = false := decide_eq_false c30
                clear c30
                by_cases c31 : t157 = t155
                · rw [if_pos c31] at H
                  have c31b0 : (t157 == t155) = true := beq_iff_eq.mpr c31
                  have c31b1 : (t157 != t155) = false := bne_eq_false_iff_eq.mpr c31
                  clear c31
                  replace H := Option.bind_eq_some_iff.mp H
                  obtain ⟨t158, A320, H⟩ := H
                  replace H : ((impl_FallingOrder.f kj12 t158).bind fun t161 => ((laws_eqIntS.f kj12 t161 t138).bind fun t164 => (if t164 = true then ((laws_heldIntS.f kj12 t156 1).bind fun t165 => (if t165 < 0 then (some false) else (if t165 = t155 then (some true) else (some false)))) else (some false)))) = some r := H
                  have A32 := Aside0.mk A320
                  clear A320
                  replace H := Option.bind_eq_some_iff.mp H
                  obtain ⟨t161, A330, H⟩ := H
                  replace H : ((laws_eqIntS.f kj12 t161 t138).bind fun t164 => (if t164 = true then ((laws_heldIntS.f kj12 t156 1).bind fun t165 => (if t165 < 0 then (some false) else (if t165 = t155 then (some true) else (some false)))) else (some false))) = some r := H
                  have A33 := Aside0.mk A330
                  clear A330
                  replace H := Option.bind_eq_some_iff.mp H
                  obtain ⟨t164, A340, H⟩ := H
                  replace H : (if t164 = true then ((laws_heldIntS.f kj12 t156 1).bind fun t165 => (if t165 < 0 then (some false) else (if t165 = t155 then (some true) else (some false)))) else (some false)) = some r := H
                  have A34 := Aside0.mk A340
                  clear A340
                  by_cases c35 : t164 = true
                  · subst c35
                    have H1 : ((laws_heldIntS.f kj12 t156 1).bind fun t165 => (if t165 < 0 then (some false) else (if t165 = t155 then (some true) else (some false)))) = some r := by rw [if_pos rfl] at H; exact H
                    clear H
                    have H := H1
                    clear H1
                    replace H := Option.bind_eq_some_iff.mp H
                    obtain ⟨t165, A360, H⟩ := H
                    replace H : (if t165 < 0 then (some false) else (if t165 = t155 then (some true) else (some false))) = some r := H
                    have A36 := Aside0.mk A360
                    clear A360
                    by_cases c37 : t165 < 0
                    · rw [if_pos c37] at H
                      have c37b0 : decide (t165 < 0) = true := decide_eq_true c37
                      clear c37
                      exact absurd (Option.some.inj H) (by rw [hr_.out]; decide)
                    · rw [if_neg c37] at H
                      have c37b0 : decide (t165 < 0) = false := decide_eq_false c37
                      clear c37
                      by_cases c38 : t165 = t155
                      · rw [if_pos c38] at H
                        have c38b0 : (t165 == t155) = true := beq_iff_eq.mpr c38
                        have c38b1 : (t165 != t155) = false := bne_eq_false_iff_eq.mpr c38
                        clear c38
                        obtain rfl := Option.some.inj H
                        go_wp2_with (first | ((with_reducible refine gate_callee (f := 23) rfl ?_); refine goesL_ (some 42) rfl rfl Try.func23 (by kernel_rfl) rfl #[.slice Ao20 t144.length co20, .int .i64 1] rfl (by (try simp only [List.map_toArray, List.map_cons, List.map_nil]); first | done | rfl | (simp only [List.length_drop, List.length_take]; rfl)) ?_; (with_reducible refine (laws_markIntS.calls kj12 (fun k_ => some k_ = (.slice Ao20 t144.length co20 : Value).ownBlock) (.slice Ao20 t144.length co20) t144 1 t155 t156 w _ ?side1 ?side2 A28.out).mono ?_); (case side1 => repeat (first | (with_reducible first | exact HB.out | apply below_alloc | apply pw_below_drewN | apply below_drew1) | exact HB.out)); (case side2 => exact Kd.R_tight rfl HO_5.out); rintro e w39 ⟨rfl, hy0, hb, hkp⟩; refine ⟨_, rfl, ?_⟩; have n0_ := Aside0.mk (Kd.R_mono (ok' := fun k_ => some k_ ≠ (.slice Ao20 t144.length co20 : Value).ownBlock) (Kd.R_keptB (HO_3.out) hkp (fun k_ hk_ hs_ => (hk_) hs_)) (fun k_ hk_ => hk_.1)); have n1_ := Aside0.mk (Kd.R_reok rfl hy0 (fun k_ e_ => HO_5.out.1 k_ e_)); have n2_ := Aside0.mk (hb); clear HO_3; clear HO_5; clear HB; have HO_3 := n0_; have HO_5 := n1_; have HB := n2_; clear n0_ n1_ n2_; (try clear hb); (try clear hkp); (try clear hy0)) | ((with_reducible refine gate_callee (f := 24) rfl ?_); refine goesL_ (some 45) rfl rfl Try.func24 (by kernel_rfl) rfl #[.slice Ao20 t156.length co20, .int .i64 1] rfl (by (try simp only [List.map_toArray, List.map_cons, List.map_nil]); first | done | (rw [show t156.length = t144.length from (Kd.R_reads' HO_5.out).1.symm] <;> rfl) | rfl | (simp only [List.length_drop, List.length_take]; rfl)) ?_; (with_reducible refine (laws_heldIntS.calls kj12 _ _ t156 1 t157 _ ?side1 ?side2 A29.out).mono ?_); (case side1 => repeat (first | exact (Kd.R_reads' HO_5.out).2.2 | (with_reducible refine Kd.C_alloc ?_ _) | (with_reducible refine Kd.C_drewN ?_ _) | (with_reducible refine Kd.C_drew ?_))); (case side2 => rw [show t156.length = t144.length from (Kd.R_reads' HO_5.out).1.symm]; exact (Kd.R_reads' HO_5.out).2.1); rintro e w' ⟨rfl, ⟨nd, rfl⟩⟩; refine ⟨_, rfl, ?_⟩) | ((with_reducible refine gate_callee (f := 16) rfl ?_); refine goesL_ (some 52) rfl rfl Try.func16 (by kernel_rfl) rfl #[.slice A0 l0.length c0] rfl (by (try simp only [List.map_toArray, List.map_cons, List.map_nil]); first | done | rfl | (simp only [List.length_drop, List.length_take]; rfl)) ?_; (with_reducible refine (laws_toIntS.calls kj12 _ _ l0 t158 _ ?side1 ?side2 A32.out).mono ?_); (case side1 => repeat (first | exact (Kd.C_below HR0.out (by repeat (first | (with_reducible first | exact HB.out | apply below_alloc | apply pw_below_drewN | apply below_drew1) | exact HB.out))) | (with_reducible refine Kd.C_alloc ?_ _) | (with_reducible refine Kd.C_drewN ?_ _) | (with_reducible refine Kd.C_drew ?_))); (case side2 => exact HC0.out); rintro e w40 ⟨v159, rfl, ho0, hb⟩; refine ⟨_, rfl, ?_⟩; have n0_ := Aside0.mk (Kd.R_elder' (by (with_reducible repeat (first | apply Kd.R_alloc | apply Kd.R_drewN | apply Kd.R_drew)); exact HO_3.out) (Kd.R_base ho0) hb); have n1_ := Aside0.mk (Kd.R_elder' (by (with_reducible repeat (first | apply Kd.R_alloc | apply Kd.R_drewN | apply Kd.R_drew)); exact HO_5.out) (Kd.R_base ho0) hb); have n2_ := Aside0.mk (Kd.R_lower (Kd.R_new' (Kd.R_new' ho0 (Kd.R_lt (by (with_reducible repeat (first | apply Kd.R_alloc | apply Kd.R_drewN | apply Kd.R_drew)); exact HO_3.out))) (Kd.R_lt (by (with_reducible repeat (first | apply Kd.R_alloc | apply Kd.R_drewN | apply Kd.R_drew)); exact HO_5.out))) (below_size (by repeat (first | (with_reducible first | exact HB.out | apply below_alloc | apply pw_below_drewN | apply below_drew1) | exact HB.out)))); have n3_ := Aside0.mk (below_step (by repeat (first | (with_reducible first | exact HB.out | apply below_alloc | apply pw_below_drewN | apply below_drew1) | exact HB.out)) hb); clear HO_3; clear HO_5; clear HB; have HO_3 := n0_; have HO_5 := n1_; have HO160 := n2_; have HB := n3_; clear n0_ n1_ n2_ n3_; (try clear hb); (try clear hb2); (try clear hk); (try clear hi); (try clear ho0); obtain ⟨Ao41, co41, eo41⟩ := Kd.R_slice HO160.out; subst eo41) | ((with_reducible refine gate_callee (f := 31) rfl ?_); refine goesL_ (some 53) rfl rfl Try.func31 (by kernel_rfl) rfl #[.slice Ao41 t158.length co41] rfl (by (try simp only [List.map_toArray, List.map_cons, List.map_nil]); first | done | rfl | (simp only [List.length_drop, List.length_take]; rfl)) ?_; (with_reducible refine (impl_FallingOrder.calls kj12 _ _ t158 t161 _ ?side1 ?side2 A33.out).mono ?_); (case side1 => repeat (first | exact (Kd.R_reads' HO160.out).2.2 | (with_reducible refine Kd.C_alloc ?_ _) | (with_reducible refine Kd.C_drewN ?_ _) | (with_reducible refine Kd.C_drew ?_))); (case side2 => exact (Kd.R_reads' HO160.out).2.1); rintro e w42 ⟨v162, rfl, ho0, hb⟩; refine ⟨_, rfl, ?_⟩; have n0_ := Aside0.mk (Kd.R_elder' (by (with_reducible repeat (first | apply Kd.R_alloc | apply Kd.R_drewN | apply Kd.R_drew)); exact HO_3.out) (Kd.R_base ho0) hb); have n1_ := Aside0.mk (Kd.R_elder' (by (with_reducible repeat (first | apply Kd.R_alloc | apply Kd.R_drewN | apply Kd.R_drew)); exact HO_5.out) (Kd.R_base ho0) hb); have n2_ := Aside0.mk (Kd.R_elder' (by (with_reducible repeat (first | apply Kd.R_alloc | apply Kd.R_drewN | apply Kd.R_drew)); exact HO160.out) (Kd.R_base ho0) hb); have n3_ := Aside0.mk (Kd.R_lower (Kd.R_new' (Kd.R_new' (Kd.R_new' ho0 (Kd.R_lt (by (with_reducible repeat (first | apply Kd.R_alloc | apply Kd.R_drewN | apply Kd.R_drew)); exact HO_3.out))) (Kd.R_lt (by (with_reducible repeat (first | apply Kd.R_alloc | apply Kd.R_drewN | apply Kd.R_drew)); exact HO_5.out))) (Kd.R_lt (by (with_reducible repeat (first | apply Kd.R_alloc | apply Kd.R_drewN | apply Kd.R_drew)); exact HO160.out))) (below_size (by repeat (first | (with_reducible first | exact HB.out | apply below_alloc | apply pw_below_drewN | apply below_drew1) | exact HB.out)))); have n4_ := Aside0.mk (below_step (by repeat (first | (with_reducible first | exact HB.out | apply below_alloc | apply pw_below_drewN | apply below_drew1) | exact HB.out)) hb); clear HO_3; clear HO_5; clear HO160; clear HB; have HO_3 := n0_; have HO_5 := n1_; have HO160 := n2_; have HO163 := n3_; have HB := n4_; clear n0_ n1_ n2_ n3_ n4_; (try clear hb); (try clear hb2); (try clear hk); (try clear hi); (try clear ho0); obtain ⟨Ao43, co43, eo43⟩ := Kd.R_slice HO163.out; subst eo43) | ((with_reducible refine gate_callee (f := 18) rfl ?_); refine goesL_ (some 56) rfl rfl Try.func18 (by kernel_rfl) rfl #[.slice Ao43 t161.length co43, .slice Ao21 t138.length co21] rfl (by (try simp only [List.map_toArray, List.map_cons, List.map_nil]); first | done | rfl | (simp only [List.length_drop, List.length_take]; rfl)) ?_; (with_reducible refine (laws_eqIntS.calls kj12 _ _ t161 _ _ t138 true _ ?side1 ?side2 ?side3 ?side4 A34.out).mono ?_); (case side1 => repeat (first | exact (Kd.R_reads' HO163.out).2.2 | (with_reducible refine Kd.C_alloc ?_ _) | (with_reducible refine Kd.C_drewN ?_ _) | (with_reducible refine Kd.C_drew ?_))); (case side2 => exact (Kd.R_reads' HO163.out).2.1); (case side3 => repeat (first | exact (Kd.R_reads' HO_3.out).2.2 | (with_reducible refine Kd.C_alloc ?_ _) | (with_reducible refine Kd.C_drewN ?_ _) | (with_reducible refine Kd.C_drew ?_))); (case side4 => exact (Kd.R_reads' HO_3.out).2.1); rintro e w' ⟨rfl, ⟨nd, rfl⟩⟩; refine ⟨_, rfl, ?_⟩) | ((with_reducible refine gate_callee (f := 24) rfl ?_); refine goesL_ (some 60) rfl rfl Try.func24 (by kernel_rfl) rfl #[.slice Ao20 t156.length co20, .int .i64 1] rfl (by (try simp only [List.map_toArray, List.map_cons, List.map_nil]); first | done | (rw [show t156.length = t144.length from (Kd.R_reads' HO_5.out).1.symm] <;> rfl) | rfl | (simp only [List.length_drop, List.length_take]; rfl)) ?_; (with_reducible refine (laws_heldIntS.calls kj12 _ _ t156 1 t165 _ ?side1 ?side2 A36.out).mono ?_); (case side1 => repeat (first | exact (Kd.R_reads' HO_5.out).2.2 | (with_reducible refine Kd.C_alloc ?_ _) | (with_reducible refine Kd.C_drewN ?_ _) | (with_reducible refine Kd.C_drew ?_))); (case side2 => rw [show t156.length = t144.length from (Kd.R_reads' HO_5.out).1.symm]; exact (Kd.R_reads' HO_5.out).2.1); rintro e w' ⟨rfl, ⟨nd, rfl⟩⟩; refine ⟨_, rfl, ?_⟩))
                        go_ret
                        exact ⟨by first | rfl | (simp [errW_none, errW_some] <;> rfl) | (simp [*, errW_none, errW_some] <;> rfl), by repeat (first | (with_reducible first | exact HB.out | apply below_alloc | apply pw_below_drewN | apply below_drew1) | exact HB.out)⟩
                      · rw [if_neg c38] at H
                        have c38b0 : (t165 == t155) = false := beq_eq_false_iff_ne.mpr c38
                        have c38b1 : (t165 != t155) = true := bne_iff_ne.mpr c38
                        exact absurd (Option.some.inj H) (by rw [hr_.out]; decide)
                  · replace c35 := Bool.eq_false_iff.mpr c35
                    subst c35
                    have H1 : (some false) = some r := by rw [if_neg (show ¬ (false = true) by decide)] at H; exact H
                    clear H
                    have H := H1
                    clear H1
                    exact absurd (Option.some.inj H) (by rw [hr_.out]; decide)
                · rw [if_neg c31] at H
                  have c31b0 : (t157 == t155) = false := beq_eq_false_iff_ne.mpr c31
                  have c31b1 : (t157 != t155) = true := bne_iff_ne.mpr c31
                  exact absurd (Option.some.inj H) (by rw [hr_.out]; decide)
      · replace c11 := Bool.eq_false_iff.mpr c11
        subst c11
        have H1 : (some false) = some r := by rw [if_neg (show ¬ (false = true) by decide)] at H; exact H
        clear H
        have H := H1
        clear H1
        exact absurd (Option.some.inj H) (by rw [hr_.out]; decide)
    · replace c8 := Bool.eq_false_iff.mpr c8
      subst c8
      have H1 : (some false) = some r := by rw [if_neg (show ¬ (false = true) by decide)] at H; exact H
      clear H
      have H := H1
      clear H1
      exact absurd (Option.some.inj H) (by rw [hr_.out]; decide)

/-- THE ONE PURE STATEMENT of laws_FnExactFallingOrder: yours. -/
def laws_FnExactFallingOrder.Pure : Prop := ∀ (l0 : List Int), l0.length ≤ maxLen → l0.length * 8 ≤ 140737488351232 → (∀ x ∈ l0, (Lit.int .i64 x).wf = true) → ∃ k, laws_FnExactFallingOrder.f k l0 = some true
theorem laws_FnExactFallingOrder.walk (P : laws_FnExactFallingOrder.Pure) (a0 : Option Addr) (len0 cap0 : Nat) (z0 : List Int) (w : World) (w0 : (a0 = none ∧ len0 = 0 ∧ cap0 = 0 ∧ z0 = []) ∨ ∃ x, a0 = some x ∧ len0 ≤ cap0 ∧ cap0 ≤ maxLen ∧ z0.length = cap0 ∧ (∀ i, i < z0.length → w.cell? (x.add i) = some (.int .i64 (z0.getD i 0))) ∧ ∀ n ∈ z0, (Lit.int .i64 n).wf = true) (y0 : len0 * 8 ≤ 140737488351232) :
    Calls Try.prog 7 #[.slice a0 len0 cap0] w fun e w' => e = .returned (.bool true) ∧ Below w.heap.size w w' := by
  obtain ⟨l0, rfl, hr0, hm0, hw0, hc0⟩ := ReadsInt.ofRowC w0
  obtain ⟨k, h⟩ := P l0 hm0 y0 hw0
  refine (laws_FnExactFallingOrder.calls k _ _ l0 true w ⟨rfl⟩ (Kd.C_of_reads (d := (0 : Int)) (h1 := fun _ => rfl) hr0) hc0 h).mono ?_
  rintro e w' ⟨rfl, hd⟩
  exact ⟨rfl, hd⟩

end Go.Proofs.Ytkcfpkokgpimaaa.PFnExactFallingOrder
