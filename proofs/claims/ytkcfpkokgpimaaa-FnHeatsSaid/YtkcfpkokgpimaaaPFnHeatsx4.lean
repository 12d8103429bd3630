/- What the Go functions that the law FnHeats reaches compute, each as a plain function, and that the machine's calls come to just that. No condition. -/
import Derived.Test.YtkcfpkokgpimaaaPFnHeatsx0
import Derived.Test.YtkcfpkokgpimaaaPFnHeatsx1
import Derived.Test.YtkcfpkokgpimaaaPFnHeatsx2
import Derived.Test.YtkcfpkokgpimaaaPFnHeatsx3
namespace Go.Proofs.Ytkcfpkokgpimaaa.PFnHeats
open Go.RowKit Go.Proofs.YtkcfpkokgpimaaaW.PrintWords Go.Proofs.YtkcfpkokgpimaaaW.PrintLast Go.Proofs.YtkcfpkokgpimaaaW.PrintMore
attribute [local go_sem] max2_int min2_int max_two min_two max_three min_three max_four min_four   -- for this text's walks alone
set_option linter.unusedVariables false
set_option linter.unusedSimpArgs false

/-! ### impl_BestHeats: function 33, with impl.leastOrder and impl.orders, by hand -/
/-- What a run keeps: all but the blocks of S, and what is new. -/
structure KW (S : Nat → Prop) (w W : World) : Prop where
  os : W.os = w.os
  tape : W.tape = w.tape
  output : W.output = w.output
  size : w.heap.size ≤ W.heap.size
  block : ∀ k, k < w.heap.size → ¬ S k → W.heap[k]? = w.heap[k]?
theorem KW.refl (S : Nat → Prop) (w : World) : KW S w w := ⟨rfl, rfl, rfl, Nat.le_refl _, fun _ _ _ => rfl⟩
theorem KW.mono {S T : Nat → Prop} {w W : World} (h : KW S w W) (hs : ∀ k, k < w.heap.size → S k → T k) : KW T w W := ⟨h.os, h.tape, h.output, h.size, fun k hk hn => h.block k hk (fun hs' => hn (hs k hk hs'))⟩
theorem KW.trans {S : Nat → Prop} {a b c : World} (h : KW S a b) (k : KW S b c) : KW S a c :=
  ⟨k.os.trans h.os, k.tape.trans h.tape, k.output.trans h.output, Nat.le_trans h.size k.size, fun i hi hn => (k.block i (Nat.lt_of_lt_of_le hi h.size) hn).trans (h.block i hi hn)⟩
theorem KW.of_below {S : Nat → Prop} {w W : World} (h : Below w.heap.size w W) : KW S w W := ⟨h.os, h.tape, h.output, h.size, fun k hk _ => h.block k hk⟩
theorem KW.below {S : Nat → Prop} {B : Nat} {w W : World} (h : KW S w W) (hs : ∀ k, S k → B ≤ k) (hB : B ≤ w.heap.size) : Below B w W := ⟨h.os, h.tape, h.output, h.size, fun k hk => h.block k (Nat.lt_of_lt_of_le hk hB) (fun h2 => by have := hs k h2; omega)⟩
theorem KW.at {S : Nat → Prop} {w W : World} {o : Obj} {k : Nat} (h : KW S w W) (ho : w.heap[k]? = some o) (hn : ¬ S k) : W.heap[k]? = some o := (h.block k (lt_of_block ho) hn).trans ho
theorem KW.cell {S : Nat → Prop} {w W : World} {a : Addr} {v : Value} (h : KW S w W) (hc : w.cell? a = some v) (hn : ¬ S a.block) : W.cell? a = some v := (World.cell?_of_block (h.block a.block (World.block_lt_of_cell? w a hc) hn)).trans hc
theorem KW.of_grown {S : Nat → Prop} {w W : World} {row : Option Nat} (h : w.grownBy W row) (hs : ∀ k, row = some k → S k) : KW S w W := ⟨h.os, h.tape, h.output, h.size, fun k hk hn => h.block k hk (fun e => hn (hs k e.symm))⟩
theorem KW.setCell {S : Nat → Prop} {w W : World} (h : KW S w W) {p : Addr} (hp : S p.block) (u : Value) : KW S w (W.setCell p u) :=
  h.trans ⟨rfl, rfl, rfl, by simp [World.setCell], fun k _ hn => Below.heap_setCell W p u k (fun e => hn (by rw [e]; exact hp))⟩
theorem KW.drewN {S : Nat → Prop} {w W : World} (h : KW S w W) (n : Nat) : KW S w (W.drewN n) := ⟨h.os, h.tape, h.output, h.size, h.block⟩
theorem KW.drew {S : Nat → Prop} {w W : World} (h : KW S w W) : KW S w W.drew := ⟨h.os, h.tape, h.output, h.size, h.block⟩
theorem KW.after {S T : Nat → Prop} {w X W : World} (hb : Below w.heap.size w X) (h : KW T X W) (hs : ∀ k, k < w.heap.size → T k → S k) : KW S w W :=
  ⟨h.os.trans hb.os, h.tape.trans hb.tape, h.output.trans hb.output, Nat.le_trans hb.size h.size, fun k hk hn => (h.block k (Nat.lt_of_lt_of_le hk hb.size) (fun ht => hn (hs k hk ht))).trans (hb.block k hk)⟩
theorem drew_cell {w : World} {a : Addr} {v : Value} (h : w.cell? a = some v) : w.drew.cell? a = some v := h
theorem alloc_cell {w : World} {a : Addr} {v : Value} (h : w.cell? a = some v) (o : Obj) : (w.alloc o).cell? a = some v := pw_cell_below (below_alloc (Below.refl _ _) o) h
/-- A call of a closure's value, its function known, in a region. -/
theorem clo_ {P : Program} {ops : Array Oper} {oi : Oper} {N : Option Tmp} {a : Act} {w : World} {K : Act → World → Prop} {Q : Exit → Act → World → Prop} {f : FuncId} {asg : Array Operand} {ts : Array TypeId} (r : Operand) (cap : Array Value)
    (he : ∀ args w, (callFunc f args).run P w = .ok (.enter f args) w) (args : Array Value) (hw : Region.wanted oi (yielded ops a.tmps) = true) (hN : oi.dst = N) (hop : oi.op = .call { callee := .value r, args := asg, argTypes := ts }) (hr : a.eval r = .func (.func f) #[] cap) (hargs : asg.map a.eval = args)
    (h : Calls P f (args ++ cap) w fun e w' => ∃ v, e = .returned v ∧ K (a.put N v) w') : if Region.wanted oi (yielded ops a.tmps) = true then Oper.wp P oi a w K Q else K (a.put N undef) w := by
  refine call_ f (args ++ cap) hw hN ?_ h
  unfold execOp
  simp [hop, resolve, Deferred.ofValue, invoke, hr, hargs, he]
/-- A call of a closure's value, its function known, in a plain row of operations. -/
theorem cloL_ {P : Program} {ops : Array Oper} {rest : List Oper} {oi : Oper} {a : Act} {w : World} {Q : Exit → Act → World → Prop} (N : Option Tmp) (hd : oi.dst = N) (hg : oi.guard = none) {f : FuncId} {asg : Array Operand} {ts : Array TypeId} (r : Operand) (cap : Array Value)
    (hop : oi.op = .call { callee := .value r, args := asg, argTypes := ts }) (hr : a.eval r = .func (.func f) #[] cap) (he : ∀ args w, (callFunc f args).run P w = .ok (.enter f args) w) (args : Array Value) (hargs : asg.map a.eval = args)
    (h : Calls P f (args ++ cap) w fun e w' => ∃ v, e = .returned v ∧ wpList P ops Q rest (a.put N v) w') : wpList P ops Q (oi :: rest) a w := by
  refine wpList_plain hg fun K hK => ?_
  have hrun : (execOp a.eval oi).run P w = .ok (.enter f (args ++ cap)) w := by
    unfold execOp
    simp [hop, resolve, Deferred.ofValue, invoke, hr, hargs, he]
  unfold Oper.wp
  rw [hrun, Oper.upon_enter]
  refine h.mono fun e w'' hh => ?_
  obtain ⟨v, rfl, hk⟩ := hh
  subst hd
  exact hK _ _ hk
/-- The buffer (block gb, room for n) begins with pre. -/
def Buf (e gb n : Nat) (pre : List Int) (w : World) : Prop := ∃ cur : Array Value, w.heap[gb]? = some (.cells cur e (0, 0)) ∧ cur.size = n ∧ pre.length ≤ n ∧ cur.toList.take pre.length = pre.map (Value.int .i64)
theorem Buf.kw {e gb n : Nat} {pre : List Int} {S : Nat → Prop} {w W : World} (h : Buf e gb n pre w) (k : KW S w W) (hn : ¬ S gb) : Buf e gb n pre W := by
  obtain ⟨cur, h1, h2⟩ := h
  exact ⟨cur, k.at h1 hn, h2⟩
theorem Buf.init {e gb n : Nat} {pre : List Int} {i : Int} {w : World} (h : Buf e gb n (pre ++ [i]) w) : Buf e gb n pre w := by
  obtain ⟨cur, h1, h2, h3, h4⟩ := h
  rw [List.length_append, List.length_singleton] at h3 h4
  refine ⟨cur, h1, h2, by omega, ?_⟩
  have h5 := congrArg (List.take pre.length) h4
  rw [List.take_take, Nat.min_eq_left (by omega), List.map_append, List.take_left' (by simp)] at h5
  exact h5
theorem Buf.lt {e gb n : Nat} {pre : List Int} {w : World} (h : Buf e gb n pre w) : gb < w.heap.size := by
  obtain ⟨cur, h1, _⟩ := h
  exact lt_of_block h1
theorem Buf.reads {e gb n : Nat} {pre : List Int} {w : World} (h : Buf e gb n pre w) (hn : n ≤ 1000) : Kd.C (Kd.int .i64) w (some ⟨gb, 0, none⟩) pre.length pre := by
  obtain ⟨cur, h1, h2, h3, h4⟩ := h
  have hrow : w.ownsRow 0 e 1 (.slice (some ⟨gb, 0, none⟩) pre.length n) pre.length (encs (Value.int .i64) pre) := by
    refine ⟨by simp [encs], .inr ⟨gb, n, cur, rfl, Nat.zero_le _, h1, h3, by unfold maxLen; omega, by rw [h2, Nat.mul_one], ?_⟩⟩
    rw [Nat.mul_one, h4]
    rfl
  have hR : Kd.R (Kd.int .i64) e w 0 (fun _ => True) (.slice (some ⟨gb, 0, none⟩) pre.length n) pre := Kd.R_of_own hrow (fun _ _ => trivial)
  obtain ⟨A, c, e1, _, hc⟩ := Kd.R_reads hR
  injection e1 with e1 _ _
  rw [e1]
  exact hc
/-- append where there is room, to the buffer. -/
theorem append_buf {P : Program} {ops : Array Oper} {o : Oper} {a : Act} {K : Act → World → Prop} {Q : Exit → Act → World → Prop} {E : Prop} (hw : Region.wanted o (yielded ops a.tmps) = true) (s x : Operand) (t e : TypeId) (z : Value) (bytes : Nat)
    (ho : o.op = .call { callee := .builtin .append, args := #[s, x], argTypes := #[t, t] }) (ht : P.underlying t = some (.slice e)) (hinfo : (P.info? e).map (fun i => (i.zero, i.size, i.bytes)) = some (some z, 1, bytes))
    (gb n B : Nat) (pre : List Int) (i : Int) (W : World) (hs : a.eval s = .slice (some ⟨gb, 0, none⟩) pre.length n) (hx : a.eval x = .slice (some ⟨B, 0, none⟩) 1 1) (hxc : W.cell? ⟨B, 0, none⟩ = some (.int .i64 i)) (hb : Buf e gb n pre W) (hroom : pre.length + 1 ≤ n)
    (h : ∀ w1, Buf e gb n (pre ++ [i]) w1 → KW (fun k => k = gb) W w1 → K (a.put o.dst (.slice (some ⟨gb, 0, none⟩) (pre.length + 1) n)) w1) :
    if Region.wanted o (yielded ops a.tmps) = true then Oper.wp P o a W K Q else E := by
  rw [if_pos hw]
  obtain ⟨i0, hi, hzz⟩ := Option.map_eq_some_iff.1 hinfo
  simp only [Prod.mk.injEq] at hzz
  obtain ⟨_, hs1, _⟩ := hzz
  obtain ⟨cur, hg, hsz, hle, htk⟩ := hb
  have hlt := lt_of_block hg
  have hrun := run_append_room (P := P) W t o.type e i0 ht hi gb pre.length n cur hg ⟨B, 0, none⟩ 1 1 [.int .i64 i] (by rw [hs1]; rfl) (by
    intro j u hj
    cases j with
    | zero =>
      simp at hj
      subst hj
      have hadd : (⟨B, 0, none⟩ : Addr).add 0 = ⟨B, 0, none⟩ := by unfold Addr.add; split <;> simp_all
      rw [hadd]
      exact hxc
    | succ j => simp at hj) (by simp [Value.oneCell']) hroom (by rw [hs1]; simp; omega)
  rw [hs1, Nat.mul_one] at hrun
  have hl1 : (cur.toList.take pre.length).length = pre.length := by rw [List.length_take, Array.length_toList (xs := cur)]; omega
  have hk := h (W.setRow gb (cur.toList.take pre.length ++ [Value.int .i64 i] ++ cur.toList.drop (pre.length + 1)).toArray) ⟨_, setRow_heap _ _ _ _ _ _ hg, by
    rw [List.size_toArray, List.length_append, List.length_append, hl1, List.length_drop, Array.length_toList (xs := cur), List.length_singleton]
    omega, by rw [List.length_append, List.length_singleton]; exact hroom, by
    rw [List.length_append, List.length_singleton, List.take_left' (by rw [List.length_append, hl1, List.length_singleton]), htk, List.map_append]
    rfl⟩ ⟨rfl, rfl, rfl, by rw [size_setRow]; exact Nat.le_refl _, fun k hk hn => by
    rw [setRow_other _ _ _ _ hn]⟩
  unfold Oper.wp
  simp [execOp, ho, resolve, invoke, builtin, hs, hx, hrun, Result.andThen]
  simp only [List.append_assoc, List.singleton_append] at hk
  exact hk
/-- All orders that begin with 'pre', in lexicographic order; f numbers are missing. -/
def comps (n : Nat) : Nat → List Int → List (List Int)
  | 0, pre => [pre]
  | f + 1, pre => (idxs n).flatMap fun i => if i ∈ pre then [] else comps n f (pre ++ [i])
def vstep (cost : List Int → Int) (s : Option (List Int × Int)) (o : List Int) : Option (List Int × Int) :=
  match s with
  | none => some (o, cost o)
  | some (b, l) => if cost o < l then some (o, cost o) else some (b, l)
/-! slices.Contains over the numbers that are laid -/
theorem index_go (l : List Int) (a : Int) (hb : l.length ≤ 1000) : ∀ (d i k : Nat), l.length - i = d → i ≤ l.length → d < k → ∃ r : Int, slices_Index_int_int.l0 k l a (l.length : Int) (i : Int) = some r ∧ (r ≥ 0 ↔ a ∈ l.drop i)
  | 0, i, k, hd, hi, hk => by
    obtain ⟨k, rfl⟩ : ∃ m, k = m + 1 := ⟨k - 1, by omega⟩
    obtain rfl : i = l.length := by omega
    refine ⟨-1, ?_, ?_⟩
    · simp only [slices_Index_int_int.l0]
      rw [if_neg (by omega)]
    · rw [List.drop_length]
      simp
  | d + 1, i, k, hd, hi, hk => by
    obtain ⟨k, rfl⟩ : ∃ m, k = m + 1 := ⟨k - 1, by omega⟩
    have hlt : i < l.length := by omega
    have hr : rd l (i : Int) = l[i] := by
      unfold rd
      rw [Int.toNat_natCast, List.getD_eq_getElem?_getD, List.getElem?_eq_getElem hlt]
      rfl
    have hd : l.drop i = l[i] :: l.drop (i + 1) := List.drop_eq_getElem_cons hlt
    by_cases c : a = l[i]
    · refine ⟨(i : Int), ?_, ?_⟩
      · simp only [slices_Index_int_int.l0]
        rw [if_pos (by omega), if_pos (by omega), if_pos (by omega), hr, if_pos c]
      · rw [hd]
        constructor
        · intro _
          rw [c]
          exact List.mem_cons_self
        · intro _
          omega
    · obtain ⟨r, h1, h2⟩ := index_go l a hb d (i + 1) k (by omega) hlt (by omega)
      refine ⟨r, ?_, ?_⟩
      · simp only [slices_Index_int_int.l0]
        rw [if_pos (by omega), if_pos (by omega), if_pos (by omega), hr, if_neg c, show wrap64 ((i : Int) + 1) = ((i + 1 : Nat) : Int) from by unfold wrap64; omega]
        exact h1
      · rw [h2, hd, List.mem_cons]
        constructor
        · exact .inr
        · rintro (h | h)
          · exact absurd h c
          · exact h
theorem contains_go (l : List Int) (a : Int) (hb : l.length ≤ 1000) : slices_Contains_int_int.f (l.length + 1) l a = some (decide (a ∈ l)) := by
  obtain ⟨r, h1, h2⟩ := index_go l a hb l.length 0 (l.length + 1) (by omega) (Nat.zero_le _) (by omega)
  rw [List.drop_zero] at h2
  unfold slices_Contains_int_int.f slices_Index_int_int.f
  have h1 : slices_Index_int_int.l0 (l.length + 1) l a (l.length : Int) 0 = some r := h1
  simp only [h1, Option.bind_some]
  rw [show decide (a ∈ l) = decide (r ≥ 0) from by simp only [h2]]
theorem comps_step {n d : Nat} {pre o : List Int} {i : Int} (hi : i ∈ idxs n) (hm : i ∉ pre) (h : o ∈ comps n d (pre ++ [i])) : o ∈ comps n (d + 1) pre := by
  unfold comps
  rw [List.mem_flatMap]
  exact ⟨i, hi, by rw [if_neg hm]; exact h⟩
/-- The orders whose next number is below i. -/
def compsTo (n d : Nat) (pre : List Int) (i : Nat) : List (List Int) := (idxs i).flatMap fun j => if j ∈ pre then [] else comps n d (pre ++ [j])
theorem compsTo_in {n d i : Nat} {pre : List Int} (h : (i : Int) ∈ pre) : compsTo n d pre (i + 1) = compsTo n d pre i := by
  unfold compsTo
  rw [idxs_succ, List.flatMap_append]
  simp [h]
theorem compsTo_out {n d i : Nat} {pre : List Int} (h : (i : Int) ∉ pre) : compsTo n d pre (i + 1) = compsTo n d pre i ++ comps n d (pre ++ [(i : Int)]) := by
  unfold compsTo
  rw [idxs_succ, List.flatMap_append]
  simp [h]
theorem extend_enters : ∀ args w, (callFunc 99 args).run Try.prog w = .ok (.enter 99 args) w := enters_of Try.func99 (by kernel_rfl) rfl
/-- One call of extend. -/
def ExtPost {σ : Type} (I : σ → World → Prop) (S : Nat → Prop) (gb n : Nat) (pre : List Int) (s : σ) (w : World) (e : Ending) (w' : World) : Prop := e = .returned (.tuple #[]) ∧ I s w' ∧ KW S w w' ∧ Buf 3 gb n pre w'
set_option maxHeartbeats 8000000 in
set_option maxRecDepth 100000 in
theorem extend_calls {σ : Type} (n : Nat) (hn : n ≤ 8) (g : Nat) (cb : Array Value) (bn bf be gb : Nat) (eg : ∀ args w, (callFunc g args).run Try.prog w = .ok (.enter g args) w)
    (step : σ → List Int → σ) (I : σ → World → Prop) (SS : Nat → Prop) (P : List Int → Prop)
    (hn1 : bn ≠ gb) (hn2 : bf ≠ gb) (hn3 : be ≠ gb) (hs1 : ¬ SS bn) (hs2 : ¬ SS bf) (hs3 : ¬ SS be) (hs4 : ¬ SS gb)
    (hI : ∀ s W W', I s W → KW (fun k => k = gb) W W' → I s W')
    (hf : ∀ s o W, P o → o.length = n → I s W → Buf 3 gb n o W → Calls Try.prog g (#[.slice (some ⟨gb, 0, none⟩) n n] ++ cb) W fun e w' => e = .returned (.tuple #[]) ∧ I (step s o) w' ∧ KW SS W w') :
    ∀ (d : Nat) (pre : List Int) (s : σ) (w : World), pre.length + d = n → (∀ o ∈ comps n d pre, P o) →
      w.cell? ⟨bn, 0, none⟩ = some (.int .i64 n) → w.cell? ⟨bf, 0, none⟩ = some (.func (.func g) #[] cb) → w.cell? ⟨be, 0, none⟩ = some (.func (.func 99) #[] #[.pointer (some ⟨bn, 0, none⟩), .pointer (some ⟨bf, 0, none⟩), .pointer (some ⟨be, 0, none⟩)]) →
      Buf 3 gb n pre w → I s w →
      Calls Try.prog 99 (#[.slice (some ⟨gb, 0, none⟩) pre.length n] ++ #[.pointer (some ⟨bn, 0, none⟩), .pointer (some ⟨bf, 0, none⟩), .pointer (some ⟨be, 0, none⟩)]) w (ExtPost I (fun k => k = gb ∨ SS k) gb n pre ((comps n d pre).foldl step s) w)
  | 0, pre, s, w, hl, hP, hcn, hcf, hce, hB, hS => by
    have hlen : pre.length = n := by omega
    have HF := Aside0.mk (hf s pre w (hP pre (by simp [comps])) hlen hS hB)
    have HBU := Aside0.mk hB
    have EG := Aside0.mk eg
    have HN := Aside0.mk hs4
    clear hf hI hP hB hS eg hl hs4 hs1 hs2 hs3 hn1 hn2 hn3
    have hl1 : ((pre.length : Int) == (n : Int)) = true := by rw [hlen]; simp
    rw [hlen]
    clear hlen hl1
    show Calls Try.prog 99 #[.slice (some ⟨gb, 0, none⟩) n n, .pointer (some ⟨bn, 0, none⟩), .pointer (some ⟨bf, 0, none⟩), .pointer (some ⟨be, 0, none⟩)] w _
    go_enter Try.func99, Try.ntmps99
    go_wp2_with ((with_reducible refine gate_dst (N := 12) rfl ?_); refine cloL_ (some 12) rfl rfl (.tmp 10) cb rfl rfl EG.out #[.slice (some ⟨gb, 0, none⟩) n n] (by simp only [List.map_toArray, List.map_cons, List.map_nil]; rfl) ?_; (with_reducible refine HF.out.mono ?_); rintro e w2 ⟨rfl, hi2, hk2⟩; refine ⟨_, rfl, ?_⟩; have HI2 := Aside0.mk hi2; have HK2 := Aside0.mk hk2; clear hi2 hk2)
    go_end0
    exact ⟨rfl, HI2.out, HK2.out.mono (fun _ _ h => .inr h), HBU.out.kw HK2.out HN.out⟩
  | d + 1, pre, s, w, hl, hP, hcn, hcf, hce, hB, hS => by
    have hlen : pre.length < n := by omega
    have ihf := extend_calls n hn g cb bn bf be gb eg step I SS P hn1 hn2 hn3 hs1 hs2 hs3 hs4 hI hf d
    have IHF := Aside0.mk ihf
    have HP := Aside0.mk hP
    have HIS := Aside0.mk hI
    have HCN := Aside0.mk hcn
    have HCF := Aside0.mk hcf
    have HCE0 := Aside0.mk hce
    have HBU := Aside0.mk hB
    have HS0 := Aside0.mk hS
    have HL := Aside0.mk hl
    have HSN := Aside0.mk hs4
    have HBN : Aside0 (¬ (bn = gb ∨ SS bn)) := ⟨fun h => h.elim hn1 hs1⟩
    have HBF : Aside0 (¬ (bf = gb ∨ SS bf)) := ⟨fun h => h.elim hn2 hs2⟩
    have HBE : Aside0 (¬ (be = gb ∨ SS be)) := ⟨fun h => h.elim hn3 hs3⟩
    have NE := Aside0.mk hn3
    have HRoom : Aside0 (pre.length + 1 ≤ n) := ⟨by omega⟩
    clear hP hI hf ihf hB hS eg hl hs1 hs2 hs3 hs4 hn1 hn2 hn3
    have hl1 : ((pre.length : Int) == (n : Int)) = false := by
      rw [beq_eq_false_iff_ne]
      omega
    show Calls Try.prog 99 #[.slice (some ⟨gb, 0, none⟩) pre.length n, .pointer (some ⟨bn, 0, none⟩), .pointer (some ⟨bf, 0, none⟩), .pointer (some ⟨be, 0, none⟩)] w _
    go_enter Try.func99, Try.ntmps99
    go_wp2_with fail
    go_loopg [14] n (fun gg s14 wr => ∃ i : Nat, s14 = .int .i64 i ∧ i ≤ n ∧ n - i ≤ gg ∧ Aside0 (I ((compsTo n d pre i).foldl step s) wr) ∧ Aside0 (KW (fun k => k = gb ∨ SS k) w wr) ∧ Aside0 (Buf 3 gb n pre wr))
    case atStart => exact ⟨0, rfl, Nat.zero_le _, by omega, HS0, ⟨KW.refl _ _⟩, HBU⟩
    case round =>
      clear HBU HS0
      obtain ⟨i, rfl, hi, hgg, HIr, HKr, HBr⟩ := hrel
      clear hcn hcf hce
      by_cases hlt : i < n
      · have hltz : (i : Int) < (n : Int) := by omega
        have hi0 : (0 : Int) ≤ (i : Int) := by omega
        have HCont := Aside0.mk (contains_go pre (i : Int) (by omega))
        have HRd := Aside0.mk (HBr.out.reads (by omega))
        have HLe : Aside0 (pre.length ≤ n) := ⟨by omega⟩
        have hmem : (i : Int) ∈ idxs n := mem_idxs.2 ⟨hi0, hltz⟩
        by_cases hm : (i : Int) ∈ pre
        · have HFold : Aside0 ((compsTo n d pre (i + 1)) = compsTo n d pre i) := ⟨compsTo_in hm⟩
          rw [decide_eq_true hm] at HCont
          clear hm hmem
          go_wp2_with (go_at_call 85; (with_reducible refine (slices_Contains_int_int.calls (pre.length + 1) (some ⟨gb, 0, none⟩) n pre (i : Int) true _ HRd.out HLe.out HCont.out).mono ?_); rintro e w2 ⟨rfl, hb2⟩; have HB2 := Aside0.mk hb2; clear hb2)
          go_roundg (n - (i + 1))
          case measure => omega
          case rel => exact ⟨i + 1, by go_num, by omega, Nat.le_refl _, ⟨by rw [HFold.out]; exact HIS.out _ _ _ HIr.out (KW.of_below HB2.out.below)⟩, ⟨HKr.out.trans (KW.of_below HB2.out.below)⟩, ⟨HBr.out.kw (S := fun _ => False) (KW.of_below HB2.out.below) (fun h => h)⟩⟩
        · have HFold : Aside0 (compsTo n d pre (i + 1) = compsTo n d pre i ++ comps n d (pre ++ [(i : Int)])) := ⟨compsTo_out hm⟩
          have HPx : Aside0 (∀ o ∈ comps n d (pre ++ [(i : Int)]), P o) := ⟨fun o ho => HP.out o (comps_step hmem hm ho)⟩
          rw [decide_eq_false hm] at HCont
          clear hm hmem
          go_wp2_with (go_at_call 85; (with_reducible refine (slices_Contains_int_int.calls (pre.length + 1) (some ⟨gb, 0, none⟩) n pre (i : Int) false _ HRd.out HLe.out HCont.out).mono ?_); rintro e w2 ⟨rfl, hb2⟩; have HB2 := Aside0.mk hb2; clear hb2)
          have K2 : Aside0 (KW (fun _ => False) wr (w2.alloc (.cells #[.int .i64 (i : Int)] 3)).drew) := ⟨((KW.of_below HB2.out.below).trans (KW.of_below (below_alloc (Below.refl _ _) _))).drew⟩
          have HCX : Aside0 ((w2.alloc (.cells #[.int .i64 (i : Int)] 3)).drew.cell? ⟨w2.heap.size, 0, none⟩ = some (.int .i64 (i : Int))) := ⟨cell_of_one (heap_alloc_new w2 (.cells #[.int .i64 (i : Int)] 3))⟩
          have BU1 : Aside0 (Buf 3 gb n pre (w2.alloc (.cells #[.int .i64 (i : Int)] 3)).drew) := ⟨HBr.out.kw K2.out (fun h => h)⟩
          have I1 : Aside0 (I ((compsTo n d pre i).foldl step s) (w2.alloc (.cells #[.int .i64 (i : Int)] 3)).drew) := ⟨HIS.out _ _ _ HIr.out (K2.out.mono (fun _ _ h => h.elim))⟩
          have KR1 : Aside0 (KW (fun k => k = gb ∨ SS k) w (w2.alloc (.cells #[.int .i64 (i : Int)] 3)).drew) := ⟨HKr.out.trans (K2.out.mono (fun _ _ h => h.elim))⟩
          have HCE : Aside0 (w2.cell? ⟨be, 0, none⟩ = some (.func (.func 99) #[] #[.pointer (some ⟨bn, 0, none⟩), .pointer (some ⟨bf, 0, none⟩), .pointer (some ⟨be, 0, none⟩)])) := ⟨(HKr.out.trans (KW.of_below HB2.out.below)).cell HCE0.out HBE.out⟩
          have IH : Aside0 (∀ W, KW (fun k => k = gb) (w2.alloc (.cells #[.int .i64 (i : Int)] 3)).drew W → Buf 3 gb n (pre ++ [(i : Int)]) W → Calls Try.prog 99 (#[.slice (some ⟨gb, 0, none⟩) (pre.length + 1) n] ++ #[.pointer (some ⟨bn, 0, none⟩), .pointer (some ⟨bf, 0, none⟩), .pointer (some ⟨be, 0, none⟩)]) W (ExtPost I (fun k => k = gb ∨ SS k) gb n (pre ++ [(i : Int)]) ((comps n d (pre ++ [(i : Int)])).foldl step ((compsTo n d pre i).foldl step s)) W)) := ⟨fun W hk hb => by
            have kk := KR1.out.trans (hk.mono (fun _ _ h => .inl h))
            have h := IHF.out (pre ++ [(i : Int)]) ((compsTo n d pre i).foldl step s) W (by rw [List.length_append, List.length_singleton]; have := HL.out; omega) HPx.out (kk.cell HCN.out HBN.out) (kk.cell HCF.out HBF.out) (kk.cell HCE0.out HBE.out) hb (HIS.out _ _ _ I1.out hk)
            rw [List.length_append, List.length_singleton] at h
            exact h⟩
          have NE2 : Aside0 (¬ (be = gb ∨ SS be)) := HBE
          refine start_ (n := 6) (S := fun w' => w'.cell? ⟨be, 0, none⟩ = some (.func (.func 99) #[] #[.pointer (some ⟨bn, 0, none⟩), .pointer (some ⟨bf, 0, none⟩), .pointer (some ⟨be, 0, none⟩)])) (ds := []) #[false, false, false, false, false, false] (by kernel_rfl) rfl rfl (drew_cell HCE.out) (fun hHeld => ?_)
          refine pure_ (i := 1) (N := some 22) (v := ?_) (a' := ?_) #[false, true, false, false, false, false] rfl rfl (by kernel_rfl) (fun _ _ _ h => h) (Or.inl ⟨by rfl, ?_⟩) ?_ ?_
          rotate_left
          · intro w'
            go_simp
            with_reducible rfl
          rotate_left
          · simp only [Act.put, List.setIfInBounds_toArray, List.set_cons_zero, List.set_cons_succ, i64_w, i32_w]
            rfl
          refine pure_ (i := 2) (N := some 23) (v := ?_) (a' := ?_) #[false, true, true, false, false, false] rfl rfl (by kernel_rfl) (fun _ _ _ h => h) (Or.inl ⟨by rfl, ?_⟩) ?_ ?_
          rotate_left
          · intro w'
            go_simp
            with_reducible rfl
          rotate_left
          · simp only [Act.put, List.setIfInBounds_toArray, List.set_cons_zero, List.set_cons_succ, i64_w, i32_w]
            rfl
          refine take_ (i := 0) (N := some 21) (v := ?_) (a' := ?_) #[true, true, true, false, false, false] rfl rfl (by kernel_rfl) (fun _ _ _ h => h) (Or.inl ⟨by rfl, ?_⟩) hHeld ?_ ?_
          rotate_left
          · intro w' s0
            go_simp
            with_reducible rfl
          rotate_left
          · simp only [Act.put, List.setIfInBounds_toArray, List.set_cons_zero, List.set_cons_succ, i64_w, i32_w]
            rfl
          refine one_ (i := 3) (N := some 24) #[true, true, true, true, false, false] rfl rfl (by kernel_rfl) (by decide) (fun K hK => ?_)
          refine value_ (w1 := ?_) (v := ?_) (by rfl) rfl ?_ ?_
          rotate_left 2
          · go_simp
            constructor
            · rfl
            · rfl
          refine hK.out _ _ (alloc_cell hHeld _) (fun hHeld => ?_)
          clear hK K
          refine norm_ (a' := ?_) ?_ ?_
          rotate_left
          · show Act.put _ (some 24) _ = _
            simp only [Act.put, List.setIfInBounds_toArray, List.set_cons_zero, List.set_cons_succ, i64_w, i32_w]
            rfl
          refine one_ (i := 4) (N := some 25) #[true, true, true, true, true, false] rfl rfl (by kernel_rfl) (by decide) (fun K hK => ?_)
          refine append_buf (by rfl) (.tmp 22) (.tmp 24) 22 3 (.int .i64 0) 8 rfl Try.underlying22 info3 gb n w2.heap.size pre (i : Int) _ rfl rfl HCX.out BU1.out HRoom.out ?_
          intro w4 bu4 kw4
          have BU4 := Aside0.mk bu4
          have KW4 := Aside0.mk kw4
          clear bu4 kw4
          refine hK.out _ _ (KW4.out.cell hHeld NE.out) (fun hHeld => ?_)
          clear hK K
          refine norm_ (a' := ?_) ?_ ?_
          rotate_left
          · show Act.put _ (some 25) _ = _
            simp only [Act.put, List.setIfInBounds_toArray, List.set_cons_zero, List.set_cons_succ, i64_w, i32_w]
            rfl
          refine one_ (i := 5) (N := some 26) #[true, true, true, true, true, true] rfl rfl (by kernel_rfl) (by decide) (fun K hK => ?_)
          refine clo_ (.tmp 21) #[.pointer (some ⟨bn, 0, none⟩), .pointer (some ⟨bf, 0, none⟩), .pointer (some ⟨be, 0, none⟩)] extend_enters #[.slice (some ⟨gb, 0, none⟩) (pre.length + 1) n] (by rfl) rfl rfl rfl (by simp only [List.map_toArray, List.map_cons, List.map_nil]; rfl) ?_
          with_reducible refine (IH.out w4 KW4.out BU4.out).mono ?_
          rintro e w6 ⟨rfl, i6, kw6, bu6⟩
          refine ⟨_, rfl, ?_⟩
          have I6 := Aside0.mk i6
          have KW6 := Aside0.mk kw6
          have BU6 := Aside0.mk bu6
          clear i6 kw6 bu6
          refine hK.out _ _ (KW6.out.cell hHeld NE2.out) (fun hHeld => ?_)
          clear hK K
          refine norm_ (a' := ?_) ?_ ?_
          rotate_left
          · show Act.put _ (some 26) _ = _
            simp only [Act.put, List.setIfInBounds_toArray, List.set_cons_zero, List.set_cons_succ, i64_w, i32_w]
            rfl
          refine done_ (by kernel_rfl) ?_
          go_wp2_with fail
          go_roundg (n - (i + 1))
          case measure => omega
          case rel => exact ⟨i + 1, by go_num, by omega, Nat.le_refl _, ⟨by rw [HFold.out, List.foldl_append]; exact I6.out⟩, ⟨(KR1.out.trans (KW4.out.mono (fun _ _ h => .inl h))).trans KW6.out⟩, ⟨BU6.out.init⟩⟩
      · have hltz : ¬ (i : Int) < (n : Int) := by omega
        obtain rfl : i = n := by omega
        go_wp2_with fail
        go_end0
        exact ⟨rfl, HIr.out, HKr.out, HBr.out⟩
theorem comps_len (n : Nat) : ∀ (d : Nat) (pre o : List Int), o ∈ comps n d pre → o.length = pre.length + d
  | 0, pre, o, h => by
    unfold comps at h
    rw [List.mem_singleton.1 h]
    rfl
  | d + 1, pre, o, h => by
    unfold comps at h
    obtain ⟨i, _, h⟩ := List.mem_flatMap.1 h
    by_cases c : i ∈ pre
    · rw [if_pos c] at h
      cases h
    · rw [if_neg c] at h
      have := comps_len n d _ o h
      rw [List.length_append, List.length_singleton] at this
      omega
set_option maxHeartbeats 8000000 in
set_option maxRecDepth 100000 in
/-- orders: f is called with each order, in lexicographic order. The buffer's block: the fourth new one. -/
theorem orders_calls {σ : Type} (n : Nat) (hn : n ≤ 8) (g : Nat) (cb : Array Value) (eg : ∀ args w, (callFunc g args).run Try.prog w = .ok (.enter g args) w)
    (step : σ → List Int → σ) (I : σ → World → Prop) (SS : Nat → Prop) (s0 : σ) (w : World)
    (hS : ∀ k, SS k → k < w.heap.size)
    (h0 : ∀ W, Below w.heap.size w W → I s0 W)
    (hI : ∀ s W W', I s W → KW (fun k => k = w.heap.size + 1 + 1 + 1) W W' → I s W')
    (hf : ∀ s o W, o ∈ comps n n [] → o.length = n → I s W → Buf 3 (w.heap.size + 1 + 1 + 1) n o W → Calls Try.prog g (#[.slice (some ⟨w.heap.size + 1 + 1 + 1, 0, none⟩) n n] ++ cb) W fun e w' => e = .returned (.tuple #[]) ∧ I (step s o) w' ∧ KW SS W w') :
    Calls Try.prog 86 #[.int .i64 n, .func (.func g) #[] cb] w fun e w' => e = .returned (.tuple #[]) ∧ I ((comps n n []).foldl step s0) w' ∧ KW SS w w' := by
  have HMK := Aside0.mk (fun W => run_make_room (P := Try.prog) 22 3 (.int .i64 0) 8 Try.underlying22 info3 rfl .i64 .i64 n (by omega) (by omega) W)
  obtain ⟨F, hF⟩ : ∃ F : Value, F = .func (.func 99) #[] #[.pointer (some ⟨w.heap.size, 0, none⟩), .pointer (some ⟨w.heap.size + 1, 0, none⟩), .pointer (some ⟨w.heap.size + 1 + 1, 0, none⟩)] := ⟨_, rfl⟩
  obtain ⟨V, hV⟩ : ∃ V : World, V = (((w.alloc (.cells #[.int .i64 n] 3)).alloc (.cells #[.func (.func g) #[] cb] 89)).alloc (.cells #[F] 89)) := ⟨_, rfl⟩
  have hsz : V.heap.size = w.heap.size + 1 + 1 + 1 := by rw [hV]; simp
  have hcn : V.cell? ⟨w.heap.size, 0, none⟩ = some (.int .i64 n) := by
    rw [hV]
    exact alloc_cell (alloc_cell (cell_of_one (heap_alloc_new w (.cells #[.int .i64 n] 3))) _) _
  have hcf : V.cell? ⟨w.heap.size + 1, 0, none⟩ = some (.func (.func g) #[] cb) := by
    rw [hV]
    have h1 := cell_of_one (heap_alloc_new (w.alloc (.cells #[.int .i64 n] 3)) (.cells #[.func (.func g) #[] cb] 89))
    rw [show (w.alloc (.cells #[.int .i64 n] 3)).heap.size = w.heap.size + 1 by simp] at h1
    exact alloc_cell h1 _
  have hce : V.cell? ⟨w.heap.size + 1 + 1, 0, none⟩ = some F := by
    rw [hV]
    have h1 := cell_of_one (heap_alloc_new ((w.alloc (.cells #[.int .i64 n] 3)).alloc (.cells #[.func (.func g) #[] cb] 89)) (.cells #[F] 89))
    rw [show ((w.alloc (.cells #[.int .i64 n] 3)).alloc (.cells #[.func (.func g) #[] cb] 89)).heap.size = w.heap.size + 1 + 1 by simp] at h1
    exact h1
  have hVb : Below w.heap.size w V := by
    rw [hV]
    exact below_alloc (below_alloc (below_alloc (Below.refl _ _) _) _) _
  obtain ⟨X, hX⟩ : ∃ X : World, X = (V.alloc (.cells (madeCells #[.int .i64 0] n) 3)).drew := ⟨_, rfl⟩
  have kVX : KW (fun _ => False) V X := by
    rw [hX]
    exact (KW.of_below (below_alloc (Below.refl _ _) _)).drew
  have hbuf : Buf 3 (w.heap.size + 1 + 1 + 1) n [] X := by
    rw [hX, ← hsz]
    refine ⟨madeCells #[.int .i64 0] n, heap_alloc_new V (.cells (madeCells #[.int .i64 0] n) 3), ?_, Nat.zero_le _, rfl⟩
    simp [madeCells]
  have hXb : Below w.heap.size w X := hVb.trans ((kVX.below (fun _ h => h.elim) (by omega)))
  have hext := extend_calls n hn g cb w.heap.size (w.heap.size + 1) (w.heap.size + 1 + 1) (w.heap.size + 1 + 1 + 1) eg step I SS (fun o => o ∈ comps n n []) (by omega) (by omega) (by omega) (fun h => by have := hS _ h; omega) (fun h => by have := hS _ h; omega) (fun h => by have := hS _ h; omega) (fun h => by have := hS _ h; omega) hI hf n [] s0 X (by simp) (fun o h => h) (kVX.cell hcn (fun h => h)) (kVX.cell hcf (fun h => h)) (by rw [← hF]; exact kVX.cell hce (fun h => h)) hbuf (h0 X hXb)
  rw [List.length_nil] at hext
  have EXT := Aside0.mk hext
  have EG := Aside0.mk eg
  have HF := Aside0.mk hf
  have HI := Aside0.mk hI
  have H0 := Aside0.mk h0
  have HS := Aside0.mk hS
  have HSZ := Aside0.mk hsz
  have HCE := Aside0.mk hce
  have HCN := Aside0.mk hcn
  have HXB := Aside0.mk hXb
  have HV := Aside0.mk hV
  have HX := Aside0.mk hX
  have HFE := Aside0.mk hF
  clear eg hf hI h0 hS hext hbuf kVX hVb hcf hsz hce hcn hXb hV hX hF
  go_enter Try.func86, Try.ntmps86
  go_wp2_with fail
  rw [← HFE.out, ← HV.out]
  refine start_ (n := 4) (S := fun w' => w'.cell? ⟨w.heap.size + 1 + 1, 0, none⟩ = some F ∧ w'.cell? ⟨w.heap.size, 0, none⟩ = some (.int .i64 (n : Int))) (ds := [3]) #[false, false, false, false] (by kernel_rfl) rfl rfl ⟨HCE.out, HCN.out⟩ (fun hHeld => ?_)
  refine take_ (i := 0) (N := some 6) (v := ?_) (a' := ?_) #[true, false, false, false] rfl rfl (by kernel_rfl) (fun _ _ _ h => h) (Or.inl ⟨by rfl, ?_⟩) hHeld ?_ ?_
  rotate_left
  · rintro w' ⟨s0, s1⟩
    go_simp
    with_reducible rfl
  rotate_left
  · simp only [Act.put, List.setIfInBounds_toArray, List.set_cons_zero, List.set_cons_succ, i64_w, i32_w]
    rfl
  refine take_ (i := 1) (N := some 7) (v := ?_) (a' := ?_) #[true, true, false, false] rfl rfl (by kernel_rfl) (fun _ _ _ h => h) (Or.inl ⟨by rfl, ?_⟩) hHeld ?_ ?_
  rotate_left
  · rintro w' ⟨s0, s1⟩
    go_simp
    with_reducible rfl
  rotate_left
  · simp only [Act.put, List.setIfInBounds_toArray, List.set_cons_zero, List.set_cons_succ, i64_w, i32_w]
    rfl
  refine one_ (i := 2) (N := some 8) #[true, true, true, false] rfl rfl (by kernel_rfl) (by decide) (fun K hK => ?_)
  have hmk := HMK.out
  refine value_ (w1 := ?_) (v := ?_) (by rfl) rfl ?_ ?_
  rotate_left 2
  · go_simp
    constructor
    · rfl
    · rfl
  clear hmk
  refine hK.out _ _ ⟨alloc_cell hHeld.1 _, alloc_cell hHeld.2 _⟩ (fun hHeld => ?_)
  clear hK K
  refine norm_ (a' := ?_) ?_ ?_
  rotate_left
  · show Act.put _ (some 8) _ = _
    simp only [Act.put, List.setIfInBounds_toArray, List.set_cons_zero, List.set_cons_succ, i64_w, i32_w]
    rfl
  refine last_ (i := 3) (N := some 9) #[true, true, true, true] rfl rfl (by kernel_rfl) (by decide) (fun K hK => ?_)
  rw [← HX.out]
  have hsz := HSZ.out
  rw [hsz]
  clear hsz
  refine clo_ (.tmp 6) #[.pointer (some ⟨w.heap.size, 0, none⟩), .pointer (some ⟨w.heap.size + 1, 0, none⟩), .pointer (some ⟨w.heap.size + 1 + 1, 0, none⟩)] extend_enters #[.slice (some ⟨w.heap.size + 1 + 1 + 1, 0, none⟩) 0 n] (by rfl) rfl rfl HFE.out (by simp only [List.map_toArray, List.map_cons, List.map_nil]; rfl) ?_
  with_reducible refine (EXT.out).mono ?_
  rintro e w6 ⟨rfl, i6, kw6, bu6⟩
  refine ⟨_, rfl, ?_⟩
  have I6 := Aside0.mk i6
  have KW6 := Aside0.mk kw6
  clear i6 kw6 bu6
  refine hK.out _ _ ?_
  clear hK K
  refine norm_ (a' := ?_) ?_ ?_
  rotate_left
  · show Act.put _ (some 9) _ = _
    simp only [Act.put, List.setIfInBounds_toArray, List.set_cons_zero, List.set_cons_succ, i64_w, i32_w]
    rfl
  refine done_ (by kernel_rfl) ?_
  go_wp2_with fail
  go_end0
  exact ⟨rfl, I6.out, KW.after HXB.out KW6.out (fun k hk h => h.elim (fun e => by omega) id)⟩
/-! ### leastOrder's closure -/
/-- What is kept of the best order: its value and cost. -/
def LV (w0 : World) (gb bc bb bl : Nat) (s : Option (List Int × Int)) (v : Value) (least : Int) (W : World) : Prop :=
  match s with
  | none => v = .slice none 0 0
  | some (o, c) => least = c ∧ (∃ b, v.ownBlock = some b) ∧ Kd.R (Kd.int .i64) 3 W w0.heap.size (fun k => k ≠ gb ∧ k ≠ bc ∧ k ≠ bb ∧ k ≠ bl) v o
structure LI (w0 : World) (F : Value) (gb bc bb bl : Nat) (s : Option (List Int × Int)) (W : World) : Prop where
  below : Below w0.heap.size w0 W
  fn : W.heap[bc]? = some (.cells #[F] 66 (0, 0))
  best : ∃ (v : Value) (least : Int), W.heap[bb]? = some (.cells #[v] 22 (0, 0)) ∧ W.heap[bl]? = some (.cells #[.int .i64 least] 3 (0, 0)) ∧ LV w0 gb bc bb bl s v least W
theorem LV.kw {w0 : World} {gb bc bb bl : Nat} {s : Option (List Int × Int)} {v : Value} {least : Int} {S : Nat → Prop} {W W' : World} (h : LV w0 gb bc bb bl s v least W) (k : KW S W W') (hs : ∀ k, S k → k = gb ∨ k = bc ∨ k = bb ∨ k = bl) : LV w0 gb bc bb bl s v least W' := by
  cases s with
  | none => exact h
  | some q =>
    obtain ⟨o, c⟩ := q
    obtain ⟨h1, h2, h3⟩ := h
    exact ⟨h1, h2, Kd.R_step h3 (fun q hq hlt => k.block q hlt (fun hS => by
      rcases hs q hS with e | e | e | e
      · exact hq.1 e
      · exact hq.2.1 e
      · exact hq.2.2.1 e
      · exact hq.2.2.2 e))⟩
theorem LI.kw {w0 : World} {F : Value} {gb bc bb bl : Nat} {s : Option (List Int × Int)} {W W' : World} (h : LI w0 F gb bc bb bl s W) (hg : w0.heap.size ≤ gb) (h1 : bc ≠ gb) (h2 : bb ≠ gb) (h3 : bl ≠ gb) (k : KW (fun k => k = gb) W W') : LI w0 F gb bc bb bl s W' := by
  obtain ⟨hb, hf, v, least, hbb, hbl, hv⟩ := h
  refine ⟨⟨k.os.trans hb.os, k.tape.trans hb.tape, k.output.trans hb.output, Nat.le_trans hb.size k.size, fun q hq => (k.block q (Nat.lt_of_lt_of_le hq hb.size) (fun e => by omega)).trans (hb.block q hq)⟩, k.at hf h1, v, least, k.at hbb h2, k.at hbl h3, hv.kw k (fun _ e => .inl e)⟩
def LPost (w0 : World) (F : Value) (gb bc bb bl : Nat) (s : Option (List Int × Int)) (W : World) (e : Ending) (w' : World) : Prop := e = .returned (.tuple #[]) ∧ LI w0 F gb bc bb bl s w' ∧ KW (fun k => k = bb ∨ k = bl) W w'
theorem own_slice_some {v : Value} {b : Nat} (h : v.ownBlock = some b) : ∃ ad n c, v = .slice (some ad) n c := by
  cases v with
  | slice a n c =>
    cases a with
    | none => simp [Value.ownBlock] at h
    | some ad => exact ⟨ad, n, c, rfl⟩
  | _ => simp [Value.ownBlock] at h
/-- The new best order is stored. -/
theorem LI.store {w0 : World} {F : Value} {gb bc bb bl : Nat} {o : List Int} {c : Int} {W W2 w5 : World} {v5 v0 : Value} {l0 : Int} (hd : gb ≠ bc ∧ gb ≠ bb ∧ gb ≠ bl ∧ bc ≠ bb ∧ bc ≠ bl ∧ bb ≠ bl) (hge : w0.heap.size ≤ bb ∧ w0.heap.size ≤ bl) (hgb : gb < W2.heap.size)
    (hb : Below w0.heap.size w0 W2) (hf : W2.heap[bc]? = some (.cells #[F] 66 (0, 0))) (hbb : W2.heap[bb]? = some (.cells #[v0] 22 (0, 0))) (hbl : W2.heap[bl]? = some (.cells #[.int .i64 l0] 3 (0, 0)))
    (h5 : Below W2.heap.size W2 w5) (hr : Kd.R (Kd.int .i64) 3 w5 W2.heap.size (fun _ => True) v5 o) (hn : ∃ b, v5.ownBlock = some b) (hW : Below W.heap.size W W2) :
    LI w0 F gb bc bb bl (some (o, c)) ((w5.setCell ⟨bb, 0, none⟩ v5).setCell ⟨bl, 0, none⟩ (.int .i64 c)) ∧ KW (fun k => k = bb ∨ k = bl) W ((w5.setCell ⟨bb, 0, none⟩ v5).setCell ⟨bl, 0, none⟩ (.int .i64 c)) := by
  have l1 := lt_of_block hf
  have l2 := lt_of_block hbb
  have l3 := lt_of_block hbl
  have k5 : KW (fun _ => False) W2 w5 := KW.of_below h5
  have k6 : KW (fun k => k = bb ∨ k = bl) w5 ((w5.setCell ⟨bb, 0, none⟩ v5).setCell ⟨bl, 0, none⟩ (.int .i64 c)) := KW.setCell (KW.setCell (KW.refl _ _) (p := ⟨bb, 0, none⟩) (.inl rfl) _) (p := ⟨bl, 0, none⟩) (.inr rfl) _
  have b5 : Below w0.heap.size w0 w5 := below_step hb h5
  refine ⟨⟨?_, ?_, v5, c, ?_, ?_, rfl, hn, ?_⟩, ?_⟩
  · exact (b5.setCell (p := ⟨bb, 0, none⟩) hge.1 _).setCell (p := ⟨bl, 0, none⟩) hge.2 _
  · exact k6.at (k5.at hf (fun h => h)) (fun h => h.elim hd.2.2.2.1 hd.2.2.2.2.1)
  · have h1 := one_setCell (u := v5) (k5.at hbb (fun h => h))
    rw [Below.heap_setCell _ _ _ _ (by exact hd.2.2.2.2.2)]
    exact h1
  · refine one_setCell (v := .int .i64 l0) ?_
    rw [Below.heap_setCell _ _ _ _ (by exact fun e => hd.2.2.2.2.2 e.symm)]
    exact k5.at hbl (fun h => h)
  · refine Kd.R_lower (Kd.R_mono (Kd.R_step (Kd.R_bound hr) (fun k hk hlt => k6.block k hlt (fun h => ?_))) (fun k hk => ?_)) (below_size hb)
    · have := hk.2.1
      rcases h with h | h <;> omega
    · have := hk.2.1
      exact ⟨by omega, by omega, by omega, by omega⟩
  · exact (KW.of_below (below_step hW h5)).trans k6
set_option maxHeartbeats 8000000 in
set_option maxRecDepth 100000 in
/-- The closure of leastOrder: one order is held against the best one. -/
theorem least_step (o : List Int) (hn : o.length ≤ 8) (w0 : World) (gc : Nat) (cc : Array Value) (egc : ∀ args w, (callFunc gc args).run Try.prog w = .ok (.enter gc args) w) (c : Int) (cost : List Int → Int) (hco : cost o = c) (gb bc bb bl : Nat)
    (hd : gb ≠ bc ∧ gb ≠ bb ∧ gb ≠ bl ∧ bc ≠ bb ∧ bc ≠ bl ∧ bb ≠ bl) (hge : w0.heap.size ≤ bb ∧ w0.heap.size ≤ bl)
    (hcost : ∀ W, Below w0.heap.size w0 W → Buf 3 gb o.length o W → Calls Try.prog gc (#[.slice (some ⟨gb, 0, none⟩) o.length o.length] ++ cc) W fun e w' => e = .returned (.int .i64 c) ∧ Below W.heap.size W w')
    (s : Option (List Int × Int)) (W : World) (hI : LI w0 (.func (.func gc) #[] cc) gb bc bb bl s W) (hB : Buf 3 gb o.length o W) :
    Calls Try.prog 87 (#[.slice (some ⟨gb, 0, none⟩) o.length o.length] ++ #[.pointer (some ⟨bc, 0, none⟩), .pointer (some ⟨bb, 0, none⟩), .pointer (some ⟨bl, 0, none⟩)]) W (LPost w0 (.func (.func gc) #[] cc) gb bc bb bl (vstep cost s o) W) := by
  have q22 : ∀ (w : World) (a : Option Addr) (n c n' c' : Nat), (binOp .eql 22 (.slice a n c) (.slice none n' c')).run Try.prog w = .ok (.bool a.isNone) w := fun w a n c n' c' => Go.Lib.run_eql_slice_nil w _ _ a n c n' c' Try.underlying22
  have hco' := Aside0.mk hco
  have EGC := Aside0.mk egc
  have HCOST := Aside0.mk (hcost W hI.below hB)
  have HB := Aside0.mk hB
  have HD := Aside0.mk hd
  have HGE := Aside0.mk hge
  obtain ⟨hb, hf, v, least, hbb, hbl, hv⟩ := hI
  have HBW := Aside0.mk hb
  have HF := Aside0.mk hf
  have HBB := Aside0.mk hbb
  have HBL := Aside0.mk hbl
  have hcf := cell_of_one hf
  clear hco egc hcost hB hd hge hb hf hbb hbl
  have go : ∀ (t : Bool) (hv' : (v = .slice none 0 0 ∧ t = true) ∨ (∃ ad n c, v = .slice (some ad) n c) ∧ t = decide (c < least)), Calls Try.prog 87 #[.slice (some ⟨gb, 0, none⟩) o.length o.length, .pointer (some ⟨bc, 0, none⟩), .pointer (some ⟨bb, 0, none⟩), .pointer (some ⟨bl, 0, none⟩)] W fun e w' => e = .returned (.tuple #[]) ∧ (if t = true then LI w0 (.func (.func gc) #[] cc) gb bc bb bl (some (o, c)) w' ∧ KW (fun k => k = bb ∨ k = bl) W w' else Below W.heap.size W w') := by
    intro t hv'
    have hstart : (v = .slice none 0 0 ∧ t = true) ∨ (∃ ad n c, v = .slice (some ad) n c) ∧ t = decide (c < least) := hv'
    clear hv' hv
    rcases hstart with ⟨rfl, rfl⟩ | ⟨⟨ad, n, c', rfl⟩, ht⟩
    · go_enter Try.func87, Try.ntmps87
      go_wp2_with (first
        | ((with_reducible refine gate_dst (N := 8) rfl ?_); refine cloL_ (some 8) rfl rfl (.tmp 6) cc rfl rfl EGC.out #[.slice (some ⟨gb, 0, none⟩) o.length o.length] (by simp only [List.map_toArray, List.map_cons, List.map_nil]; rfl) ?_; (with_reducible refine HCOST.out.mono ?_); rintro e w2 ⟨rfl, hb2⟩; refine ⟨_, rfl, ?_⟩; have hcb := pw_cell_below hb2 (cell_of_one HBB.out); have hcl := pw_cell_below hb2 (cell_of_one HBL.out); have HB2 := Aside0.mk hb2; have HBF2 := Aside0.mk (HB.out.kw (S := fun _ => False) (KW.of_below hb2) (fun h => h)); clear hb2)
        | ((with_reducible refine gate_dst (N := 16) rfl ?_); refine Kd.R_lit (Kd.int .i64) (w0 := w2) w2.heap.size 3 ?hg (N := 16) ?hd (xs := ([] : List Int)) (inner := []) (ok := fun _ => True) (okp := fun _ => True) ?hr ?hp (fun _ hk => hk) trivial (Below.refl _ w2) (Nat.le_refl _) (by simp) ?_; (case hd => rfl); (case hg => rfl); (case hr => first | (go_simp; done) | (go_simp; rfl)); (case hp => exact (Reps.none _ _)); intro v4 w4 ho4 hb4 hg4 hnew4; have HO4 := Aside0.mk ho4; have HB4 := Aside0.mk hb4; have HN4 := Aside0.mk hnew4; have HRD4 := Aside0.mk (HBF2.out.kw (S := fun _ => False) (KW.of_below hb4) (fun h => h)); clear hg4 hnew4 hb4 ho4)
        | ((with_reducible refine gate_builtin (b := .append) (xs := #[.tmp 16, .tmp 17]) rfl ?_); at_builtin; refine Kd.R_append_rows (Kd.int .i64) (w0 := w2) w2.heap.size rfl (.tmp 16) (.tmp 17) 22 3 (.int .i64 0) 8 rfl Try.underlying22 info3 rfl (by decide) (by omega) v4 [] o _ _ _ (fun k_ => True) (fun _ => False) rfl rfl ?aO ?aR (fun _ _ h => h) (fun _ h => h.elim) ?aF ?aB ?aS ?aL ?_; (case aR => exact HRD4.out.reads (by omega)); (case aB => exact HB4.out); (case aF => exact (fun _ _ => trivial)); (case aO => exact HO4.out); (case aS => exact (below_size HB4.out)); (case aL => simp only [List.length_nil]; omega); intro v5 w5 ho5 hb5 hg5 hat5; rw [List.nil_append] at ho5; obtain ⟨A5, c5, e5⟩ := Kd.R_slice ho5; subst e5; have HO5 := Aside0.mk ho5; have HB5 := Aside0.mk hb5; have HAT5 := Aside0.mk hat5; have hcb5 := cell_of_one ((KW.of_below (S := fun _ => False) (below_step HB2.out hb5)).at HBB.out (fun h => h)); have hfb5 := free_of_one ((KW.of_below (S := fun _ => False) (below_step HB2.out hb5)).at HBB.out (fun h => h)); have hbl5 := ((KW.of_below (S := fun _ => False) (below_step HB2.out hb5)).trans (KW.refl _ _)).at HBL.out (fun h => h); have hbl6 : (w5.setCell ⟨bb, 0, none⟩ (.slice A5 o.length c5)).heap[bl]? = some (.cells #[.int .i64 least] 3 (0, 0)) := (Below.heap_setCell _ _ _ _ (fun e => HD.out.2.2.2.2.2 e.symm)).trans hbl5; have hcl6 := cell_of_one hbl6; have hfl6 := free_of_one hbl6; clear ho5 hb5 hg5 hat5 hbl5 hbl6 hcb hcl))
      go_end0
      have hn5 : ∃ b, (Value.slice A5 o.length c5).ownBlock = some b := by
        rcases HAT5.out with h | ⟨b, h, _⟩
        · obtain ⟨b, h2, _⟩ := HN4.out
          exact ⟨b, h.trans h2⟩
        · exact ⟨b, h⟩
      have ho5 := HO5.out
      refine ⟨rfl, ?_⟩
      exact LI.store HD.out HGE.out HBF2.out.lt (below_step HBW.out HB2.out) ((KW.of_below (S := fun _ => False) HB2.out).at HF.out (fun h => h)) ((KW.of_below (S := fun _ => False) HB2.out).at HBB.out (fun h => h)) ((KW.of_below (S := fun _ => False) HB2.out).at HBL.out (fun h => h)) HB5.out ho5 hn5 HB2.out
    · by_cases hlt : c < least
      · obtain rfl : t = true := by rw [ht]; exact decide_eq_true hlt
        clear ht
        go_enter Try.func87, Try.ntmps87
        go_wp2_with (first
          | ((with_reducible refine gate_dst (N := 8) rfl ?_); refine cloL_ (some 8) rfl rfl (.tmp 6) cc rfl rfl EGC.out #[.slice (some ⟨gb, 0, none⟩) o.length o.length] (by simp only [List.map_toArray, List.map_cons, List.map_nil]; rfl) ?_; (with_reducible refine HCOST.out.mono ?_); rintro e w2 ⟨rfl, hb2⟩; refine ⟨_, rfl, ?_⟩; have hcb := pw_cell_below hb2 (cell_of_one HBB.out); have hcl := pw_cell_below hb2 (cell_of_one HBL.out); have HB2 := Aside0.mk hb2; have HBF2 := Aside0.mk (HB.out.kw (S := fun _ => False) (KW.of_below hb2) (fun h => h)); clear hb2)
          | ((with_reducible refine gate_dst (N := 16) rfl ?_); refine Kd.R_lit (Kd.int .i64) (w0 := w2) w2.heap.size 3 ?hg (N := 16) ?hd (xs := ([] : List Int)) (inner := []) (ok := fun _ => True) (okp := fun _ => True) ?hr ?hp (fun _ hk => hk) trivial (Below.refl _ w2) (Nat.le_refl _) (by simp) ?_; (case hd => rfl); (case hg => rfl); (case hr => first | (go_simp; done) | (go_simp; rfl)); (case hp => exact (Reps.none _ _)); intro v4 w4 ho4 hb4 hg4 hnew4; have HO4 := Aside0.mk ho4; have HB4 := Aside0.mk hb4; have HN4 := Aside0.mk hnew4; have HRD4 := Aside0.mk (HBF2.out.kw (S := fun _ => False) (KW.of_below hb4) (fun h => h)); clear hg4 hnew4 hb4 ho4)
          | ((with_reducible refine gate_builtin (b := .append) (xs := #[.tmp 16, .tmp 17]) rfl ?_); at_builtin; refine Kd.R_append_rows (Kd.int .i64) (w0 := w2) w2.heap.size rfl (.tmp 16) (.tmp 17) 22 3 (.int .i64 0) 8 rfl Try.underlying22 info3 rfl (by decide) (by omega) v4 [] o _ _ _ (fun k_ => True) (fun _ => False) rfl rfl ?aO ?aR (fun _ _ h => h) (fun _ h => h.elim) ?aF ?aB ?aS ?aL ?_; (case aR => exact HRD4.out.reads (by omega)); (case aB => exact HB4.out); (case aF => exact (fun _ _ => trivial)); (case aO => exact HO4.out); (case aS => exact (below_size HB4.out)); (case aL => simp only [List.length_nil]; omega); intro v5 w5 ho5 hb5 hg5 hat5; rw [List.nil_append] at ho5; obtain ⟨A5, c5, e5⟩ := Kd.R_slice ho5; subst e5; have HO5 := Aside0.mk ho5; have HB5 := Aside0.mk hb5; have HAT5 := Aside0.mk hat5; have hcb5 := cell_of_one ((KW.of_below (S := fun _ => False) (below_step HB2.out hb5)).at HBB.out (fun h => h)); have hfb5 := free_of_one ((KW.of_below (S := fun _ => False) (below_step HB2.out hb5)).at HBB.out (fun h => h)); have hbl5 := ((KW.of_below (S := fun _ => False) (below_step HB2.out hb5)).trans (KW.refl _ _)).at HBL.out (fun h => h); have hbl6 : (w5.setCell ⟨bb, 0, none⟩ (.slice A5 o.length c5)).heap[bl]? = some (.cells #[.int .i64 least] 3 (0, 0)) := (Below.heap_setCell _ _ _ _ (fun e => HD.out.2.2.2.2.2 e.symm)).trans hbl5; have hcl6 := cell_of_one hbl6; have hfl6 := free_of_one hbl6; clear ho5 hb5 hg5 hat5 hbl5 hbl6 hcb hcl))
        go_end0
        have hn5 : ∃ b, (Value.slice A5 o.length c5).ownBlock = some b := by
          rcases HAT5.out with h | ⟨b, h, _⟩
          · obtain ⟨b, h2, _⟩ := HN4.out
            exact ⟨b, h.trans h2⟩
          · exact ⟨b, h⟩
        have ho5 := HO5.out
        refine ⟨rfl, ?_⟩
        exact LI.store HD.out HGE.out HBF2.out.lt (below_step HBW.out HB2.out) ((KW.of_below (S := fun _ => False) HB2.out).at HF.out (fun h => h)) ((KW.of_below (S := fun _ => False) HB2.out).at HBB.out (fun h => h)) ((KW.of_below (S := fun _ => False) HB2.out).at HBL.out (fun h => h)) HB5.out ho5 hn5 HB2.out
      · obtain rfl : t = false := by rw [ht]; exact decide_eq_false hlt
        clear ht
        go_enter Try.func87, Try.ntmps87
        go_wp2_with (first
          | ((with_reducible refine gate_dst (N := 8) rfl ?_); refine cloL_ (some 8) rfl rfl (.tmp 6) cc rfl rfl EGC.out #[.slice (some ⟨gb, 0, none⟩) o.length o.length] (by simp only [List.map_toArray, List.map_cons, List.map_nil]; rfl) ?_; (with_reducible refine HCOST.out.mono ?_); rintro e w2 ⟨rfl, hb2⟩; refine ⟨_, rfl, ?_⟩; have hcb := pw_cell_below hb2 (cell_of_one HBB.out); have hcl := pw_cell_below hb2 (cell_of_one HBL.out); have HB2 := Aside0.mk hb2; have HBF2 := Aside0.mk (HB.out.kw (S := fun _ => False) (KW.of_below hb2) (fun h => h)); clear hb2))
        go_end0
        exact ⟨rfl, HB2.out⟩
  have hco := hco'.out
  clear hco' HCOST
  subst hco
  show Calls Try.prog 87 #[.slice (some ⟨gb, 0, none⟩) o.length o.length, .pointer (some ⟨bc, 0, none⟩), .pointer (some ⟨bb, 0, none⟩), .pointer (some ⟨bl, 0, none⟩)] W _
  cases s with
  | none =>
    refine (go true (.inl ⟨hv, rfl⟩)).mono ?_
    rintro e w' ⟨rfl, h⟩
    rw [if_pos rfl] at h
    exact ⟨rfl, h.1, h.2⟩
  | some q =>
    obtain ⟨b, l⟩ := q
    have hv' := hv
    obtain ⟨h1, ⟨bk, h2⟩, h3⟩ := hv
    refine (go (decide (cost o < least)) (.inr ⟨own_slice_some h2, rfl⟩)).mono ?_
    rintro e w' ⟨rfl, h⟩
    by_cases c : cost o < l
    · rw [if_pos (decide_eq_true (by rw [h1]; exact c))] at h
      refine ⟨rfl, ?_, h.2⟩
      unfold vstep
      simp only
      rw [if_pos c]
      exact h.1
    · rw [if_neg (by rw [h1]; simpa using c)] at h
      refine ⟨rfl, ?_, KW.of_below h⟩
      unfold vstep
      simp only
      rw [if_neg c]
      have k := KW.of_below (S := fun _ => False) h
      exact ⟨below_step HBW.out h, k.at HF.out (fun h => h), v, least, k.at HBB.out (fun h => h), k.at HBL.out (fun h => h), hv'.kw k (fun _ h => h.elim)⟩
def vres (s : Option (List Int × Int)) : List Int := match s with | none => [] | some (o, _) => o
theorem least_enters : ∀ args w, (callFunc 87 args).run Try.prog w = .ok (.enter 87 args) w := enters_of Try.func87 (by kernel_rfl) rfl
def LOPost (w : World) (n : Nat) (cost : List Int → Int) (e : Ending) (w' : World) : Prop := ∃ v : Value, e = .returned v ∧ Kd.R (Kd.int .i64) 3 w' w.heap.size (fun _ => True) v (vres ((comps n n []).foldl (vstep cost) none)) ∧ Below w.heap.size w w'
set_option maxHeartbeats 8000000 in
set_option maxRecDepth 100000 in
/-- leastOrder: the first order of the least cost. -/
theorem leastOrder_calls (n : Nat) (hn : n ≤ 8) (gc : Nat) (cc : Array Value) (egc : ∀ args w, (callFunc gc args).run Try.prog w = .ok (.enter gc args) w) (cost : List Int → Int) (w : World)
    (hcost : ∀ gb, ∀ o ∈ comps n n [], ∀ W, Below w.heap.size w W → Buf 3 gb n o W → Calls Try.prog gc (#[.slice (some ⟨gb, 0, none⟩) n n] ++ cc) W fun e w' => e = .returned (.int .i64 (cost o)) ∧ Below W.heap.size W w') :
    Calls Try.prog 61 #[.int .i64 n, .func (.func gc) #[] cc] w (LOPost w n cost) := by
  obtain ⟨V, hV⟩ : ∃ V : World, V = (((w.alloc (.cells #[.func (.func gc) #[] cc] 66)).alloc (.cells #[.slice none 0 0] 22)).alloc (.cells #[.int .i64 0] 3)) := ⟨_, rfl⟩
  have hsz : V.heap.size = w.heap.size + 1 + 1 + 1 := by rw [hV]; simp
  have hbc : V.heap[w.heap.size]? = some (.cells #[.func (.func gc) #[] cc] 66 (0, 0)) := by
    rw [hV]
    exact (KW.of_below (S := fun _ => False) (below_alloc (below_alloc (Below.refl _ _) _) _)).at (heap_alloc_new w (.cells #[.func (.func gc) #[] cc] 66)) (fun h => h)
  have hbb : V.heap[w.heap.size + 1]? = some (.cells #[.slice none 0 0] 22 (0, 0)) := by
    rw [hV]
    have h1 := heap_alloc_new (w.alloc (.cells #[.func (.func gc) #[] cc] 66)) (.cells #[.slice none 0 0] 22)
    rw [show (w.alloc (.cells #[.func (.func gc) #[] cc] 66)).heap.size = w.heap.size + 1 by simp] at h1
    exact (KW.of_below (S := fun _ => False) (below_alloc (Below.refl _ _) _)).at h1 (fun h => h)
  have hbl : V.heap[w.heap.size + 1 + 1]? = some (.cells #[.int .i64 0] 3 (0, 0)) := by
    rw [hV]
    have h1 := heap_alloc_new ((w.alloc (.cells #[.func (.func gc) #[] cc] 66)).alloc (.cells #[.slice none 0 0] 22)) (.cells #[.int .i64 0] 3)
    rw [show ((w.alloc (.cells #[.func (.func gc) #[] cc] 66)).alloc (.cells #[.slice none 0 0] 22)).heap.size = w.heap.size + 1 + 1 by simp] at h1
    exact h1
  have hVb : Below w.heap.size w V := by
    rw [hV]
    exact below_alloc (below_alloc (below_alloc (Below.refl _ _) _) _) _
  obtain ⟨gb, hgb⟩ : ∃ gb : Nat, gb = V.heap.size + 1 + 1 + 1 := ⟨_, rfl⟩
  have hord := orders_calls n hn 87 #[.pointer (some ⟨w.heap.size, 0, none⟩), .pointer (some ⟨w.heap.size + 1, 0, none⟩), .pointer (some ⟨w.heap.size + 1 + 1, 0, none⟩)] least_enters (vstep cost) (LI w (.func (.func gc) #[] cc) gb w.heap.size (w.heap.size + 1) (w.heap.size + 1 + 1)) (fun k => k = w.heap.size + 1 ∨ k = w.heap.size + 1 + 1) none V (fun k hk => by omega)
    (fun W hb => by
      have k := KW.of_below (S := fun _ => False) hb
      exact ⟨below_step hVb hb, k.at hbc (fun h => h), _, _, k.at hbb (fun h => h), k.at hbl (fun h => h), rfl⟩)
    (fun s W W' h k => by
      rw [← hgb] at k
      exact h.kw (by omega) (by omega) (by omega) (by omega) k)
    (fun s o W ho hl hI hB => by
      rw [← hgb] at hB ⊢
      subst hl
      have h := least_step o hn w gc cc egc (cost o) cost rfl gb w.heap.size (w.heap.size + 1) (w.heap.size + 1 + 1) ⟨by omega, by omega, by omega, by omega, by omega, by omega⟩ ⟨by omega, by omega⟩ (hcost gb o ho) s W hI hB
      exact h)
  have HORD := Aside0.mk hord
  have HVB := Aside0.mk hVb
  have HV := Aside0.mk hV
  clear hord hVb hbc hbb hbl hsz hcost egc
  rw [hV] at HORD
  clear hV
  go_enter Try.func61, Try.ntmps61
  go_wp2_with ((go_at_call 86; (with_reducible refine HORD.out.mono ?_); rintro e w2 ⟨rfl, hi2, hk2⟩; obtain ⟨hb2, hf2, v2, least2, hbb2, hbl2, hv2⟩ := hi2; have hcb := cell_of_one hbb2; have HB2 := Aside0.mk hb2; have HV2 := Aside0.mk hv2; clear hb2 hf2 hbb2 hbl2 hv2 hk2))
  go_ret
  refine ⟨v2, rfl, ?_, HB2.out⟩
  have h := HV2.out
  generalize (comps n n []).foldl (vstep cost) none = s at h ⊢
  cases s with
  | none =>
    rw [show v2 = .slice none 0 0 from h]
    exact Kd.R_nil _ _ _ _ _
  | some q =>
    obtain ⟨o, c⟩ := q
    exact Kd.R_mono h.2.2 (fun _ _ => trivial)
theorem bestHeats_enters : ∀ args w, (callFunc 75 args).run Try.prog w = .ok (.enter 75 args) w := enters_of Try.func75 (by kernel_rfl) rfl
set_option maxHeartbeats 8000000 in
set_option maxRecDepth 100000 in
/-- The closure of BestHeats: an order's cost. -/
theorem bestHeats_closure (k : Nat) (A0 : Option Addr) (c0 : Nat) (l0 o : List Int) (a1 r : Int) (B B2 gb n : Nat) (w : World) (hc : w.cell? ⟨B, 0, none⟩ = some (.slice A0 l0.length c0)) (hca : w.cell? ⟨B2, 0, none⟩ = some (.int .i64 a1)) (hr0 : Kd.C (Kd.int .i64) w A0 l0.length l0) (hc0 : l0.length ≤ c0)
    (hn : n ≤ 1000) (hl : o.length = n) (hB : Buf 3 gb n o w) (h : impl_OrderCost.f k l0 o a1 = some r) :
    Calls Try.prog 75 (#[.slice (some ⟨gb, 0, none⟩) n n] ++ #[.pointer (some ⟨B, 0, none⟩), .pointer (some ⟨B2, 0, none⟩)]) w fun e w' => e = .returned (.int .i64 r) ∧ Below w.heap.size w w' := by
  subst hl
  have HR1 := Aside0.mk (hB.reads hn)
  have HR0 := Aside0.mk hr0
  have HC0 := Aside0.mk hc0
  have H := Aside0.mk h
  clear hr0 hc0 h hB hn
  show Calls Try.prog 75 #[.slice (some ⟨gb, 0, none⟩) o.length o.length, .pointer (some ⟨B, 0, none⟩), .pointer (some ⟨B2, 0, none⟩)] w _
  go_enter Try.func75, Try.ntmps75
  go_wp2_with ((go_at_call 34; (with_reducible refine (impl_OrderCost.calls k A0 c0 l0 (some ⟨gb, 0, none⟩) o.length o a1 r _ HR0.out HC0.out HR1.out (Nat.le_refl _) H.out).mono ?_); rintro e w2 ⟨rfl, hb2⟩; have HB2 := Aside0.mk hb2; clear hb2))
  go_ret
  exact ⟨rfl, HB2.out⟩
def impl_BestHeats.f (k : Nat) (l0 : List Int) (a1 : Int) : Option (List Int × Bool) := (impl_areHeats.f l0).bind fun t => if t = true then ((impl_in.f a1 0 350).bind fun u => if u = true then (if l0.length ≤ 8 ∧ ∀ o ∈ comps l0.length l0.length [], (impl_OrderCost.f k l0 o a1).isSome = true then some (vres ((comps l0.length l0.length []).foldl (vstep fun o => (impl_OrderCost.f k l0 o a1).getD 0) none), true) else none) else some ([], false)) else some ([], false)
theorem vfold_congr (c d : List Int → Int) : ∀ (L : List (List Int)) (s : Option (List Int × Int)), (∀ o ∈ L, c o = d o) → L.foldl (vstep c) s = L.foldl (vstep d) s
  | [], _, _ => rfl
  | o :: L, s, h => by
    rw [List.foldl_cons, List.foldl_cons, show vstep c s o = vstep d s o by unfold vstep; rw [h o List.mem_cons_self]]
    exact vfold_congr c d L _ (fun x hx => h x (List.mem_cons_of_mem _ hx))
theorem impl_BestHeats.mono : ∀ a0 a1 k, LeO (impl_BestHeats.f k a0 a1) (impl_BestHeats.f (k + 1) a0 a1) := fun a0 a1 k =>
  LeO.bind (LeO.refl _) (fun t => LeO.ite (LeO.bind (LeO.refl _) (fun u => by
    by_cases c : u = true
    · rw [if_pos c, if_pos c]
      intro r h
      by_cases d : a0.length ≤ 8 ∧ ∀ o ∈ comps a0.length a0.length [], (impl_OrderCost.f k a0 o a1).isSome = true
      · rw [if_pos d] at h
        have hm : ∀ o ∈ comps a0.length a0.length [], impl_OrderCost.f (k + 1) a0 o a1 = impl_OrderCost.f k a0 o a1 := fun o ho => by
          obtain ⟨x, hx⟩ := Option.isSome_iff_exists.1 (d.2 o ho)
          rw [hx]
          exact impl_OrderCost.mono a0 o a1 k x hx
        rw [if_pos ⟨d.1, fun o ho => by rw [hm o ho]; exact d.2 o ho⟩, ← h]
        rw [vfold_congr (fun o => (impl_OrderCost.f (k + 1) a0 o a1).getD 0) (fun o => (impl_OrderCost.f k a0 o a1).getD 0) _ _ (fun o ho => by rw [hm o ho])]
      · rw [if_neg d] at h
        cases h
    · rw [if_neg c, if_neg c]
      exact LeO.refl _)) (LeO.refl _))
set_option maxHeartbeats 8000000 in
set_option maxRecDepth 100000 in
theorem impl_BestHeats.calls (k : Nat) (A0 : Option Addr) (c0 : Nat) (l0 : List Int) (a1 : Int) (r1 : List Int) (r2 : Bool) (w : World) (hr0 : Kd.C (Kd.int .i64) w A0 l0.length l0) (hc0 : l0.length ≤ c0) (h : impl_BestHeats.f k l0 a1 = some (r1, r2)) :
    Calls Try.prog 33 #[.slice A0 l0.length c0, .int .i64 a1] w fun e w' => ∃ v0_ : Value, e = .returned (.tuple #[v0_, .bool r2]) ∧ Kd.R (Kd.int .i64) 3 w' w.heap.size (fun _ => True) v0_ r1 ∧ Below w.heap.size w w' := by
  have HR0 := Aside0.mk hr0
  have HC0 := Aside0.mk hc0
  obtain ⟨V, hV⟩ : ∃ V : World, V = (w.alloc (.cells #[.slice A0 l0.length c0] 22)).alloc (.cells #[.int .i64 a1] 3) := ⟨_, rfl⟩
  have hvb : Below w.heap.size w V := by
    rw [hV]
    exact below_alloc (below_alloc (Below.refl _ _) _) _
  have hv1 : V.cell? ⟨w.heap.size, 0, none⟩ = some (.slice A0 l0.length c0) := by
    rw [hV]
    exact alloc_cell (cell_of_one (heap_alloc_new w (.cells #[.slice A0 l0.length c0] 22))) _
  have hv2 : V.cell? ⟨w.heap.size + 1, 0, none⟩ = some (.int .i64 a1) := by
    rw [hV]
    have h1 := cell_of_one (heap_alloc_new (w.alloc (.cells #[.slice A0 l0.length c0] 22)) (.cells #[.int .i64 a1] 3))
    rw [show (w.alloc (.cells #[.slice A0 l0.length c0] 22)).heap.size = w.heap.size + 1 by simp] at h1
    exact h1
  have HC1 := Aside0.mk (Kd.C_below hr0 hvb)
  have HVB := Aside0.mk hvb
  have HV1 := Aside0.mk hv1
  have HV2 := Aside0.mk hv2
  rw [hV] at HC1 HVB HV1 HV2
  clear hr0 hc0 hv1 hv2 hvb hV
  have h' := h
  clear h
  unfold impl_BestHeats.f at h'
  replace h' := Option.bind_eq_some_iff.mp h'
  obtain ⟨t, ht, h⟩ := h'
  have HT := Aside0.mk ht
  clear ht
  by_cases ct : t = true
  · subst ct
    replace h := (if_pos rfl).symm.trans h
    replace h := Option.bind_eq_some_iff.mp h
    obtain ⟨u, hu, h⟩ := h
    have HU := Aside0.mk hu
    clear hu
    by_cases cu : u = true
    · subst cu
      replace h := (if_pos rfl).symm.trans h
      by_cases cx : l0.length ≤ 8 ∧ ∀ o ∈ comps l0.length l0.length [], (impl_OrderCost.f k l0 o a1).isSome = true
      · replace h := (if_pos cx).symm.trans h
        replace h := Option.some.inj h
        obtain ⟨h8, hs⟩ := cx
        obtain ⟨rfl, rfl⟩ : vres ((comps l0.length l0.length []).foldl (vstep fun o => (impl_OrderCost.f k l0 o a1).getD 0) none) = r1 ∧ true = r2 := Prod.mk.inj h
        have H8 := Aside0.mk h8
        have HS := Aside0.mk hs
        have LO : Aside0 (∀ W, Below w.heap.size w W → W.cell? ⟨w.heap.size, 0, none⟩ = some (.slice A0 l0.length c0) → W.cell? ⟨w.heap.size + 1, 0, none⟩ = some (.int .i64 a1) → Calls Try.prog 61 #[.int .i64 l0.length, .func (.func 75) #[] #[.pointer (some ⟨w.heap.size, 0, none⟩), .pointer (some ⟨w.heap.size + 1, 0, none⟩)]] W (LOPost W l0.length (fun o => (impl_OrderCost.f k l0 o a1).getD 0))) := ⟨fun W hb hcell hcell2 => by
          refine leastOrder_calls l0.length H8.out 75 #[.pointer (some ⟨w.heap.size, 0, none⟩), .pointer (some ⟨w.heap.size + 1, 0, none⟩)] bestHeats_enters _ W (fun gb o ho W2 hb2 hB2 => ?_)
          obtain ⟨x, hx⟩ := Option.isSome_iff_exists.1 (HS.out o ho)
          have hl := comps_len l0.length l0.length [] o ho
          refine bestHeats_closure k A0 c0 l0 o a1 _ w.heap.size (w.heap.size + 1) gb l0.length W2 (pw_cell_below hb2 hcell) (pw_cell_below hb2 hcell2) (Kd.C_below HR0.out (below_step hb hb2)) HC0.out (by have := H8.out; omega) (by rw [hl]; simp) hB2 ?_
          rw [hx]
          rfl⟩
        clear h h8 hs
        go_enter Try.func33, Try.ntmps33
        go_wp2_with (first
          | (go_at_call 69; (with_reducible refine (impl_areHeats.calls A0 c0 l0 true _ HC1.out HC0.out HT.out).mono ?_); rintro e w2 ⟨rfl, hb2⟩; have hcell2 := pw_cell_below hb2 HV1.out; have hcella2 := pw_cell_below hb2 HV2.out; have HCE2 := Aside0.mk hcell2; have HCA2 := Aside0.mk hcella2; have HB2 := Aside0.mk (below_step HVB.out hb2); clear hb2)
          | (go_at_call 74; (with_reducible refine (impl_in.calls a1 0 350 true _ HU.out).mono ?_); rintro e w3 ⟨rfl, hd3⟩; have hcell3 := pw_cell_below hd3.below HCE2.out; have hcella3 := pw_cell_below hd3.below HCA2.out; have HCE3 := Aside0.mk hcell3; have HCA3 := Aside0.mk hcella3; have HB3 := Aside0.mk (below_step HB2.out hd3.below); clear hd3 hcell2 hcella2)
          | (go_at_call 61; (with_reducible refine (LO.out _ HB3.out HCE3.out HCA3.out).mono ?_); rintro e w4 ⟨v4, rfl, ho4, hb4⟩; have HO4 := Aside0.mk ho4; have HB4 := Aside0.mk hb4; clear ho4 hb4 hcell3 hcella3))
        go_ret2
        exact ⟨_, rfl, Kd.R_lower HO4.out (below_size HB3.out), below_step HB3.out HB4.out⟩
      · replace h := (if_neg cx).symm.trans h
        cases h
    · replace h := (if_neg cu).symm.trans h
      replace h := Option.some.inj h
      obtain ⟨rfl, rfl⟩ := Prod.mk.inj h
      replace cu := Bool.eq_false_iff.mpr cu
      subst cu
      clear h
      go_enter Try.func33, Try.ntmps33
      go_wp2_with (first
        | (go_at_call 69; (with_reducible refine (impl_areHeats.calls A0 c0 l0 true _ HC1.out HC0.out HT.out).mono ?_); rintro e w2 ⟨rfl, hb2⟩; have hcell2 := pw_cell_below hb2 HV1.out; have hcella2 := pw_cell_below hb2 HV2.out; have HB2 := Aside0.mk (below_step HVB.out hb2); clear hb2)
        | (go_at_call 74; (with_reducible refine (impl_in.calls a1 0 350 false _ HU.out).mono ?_); rintro e w3 ⟨rfl, hd3⟩; have HB3 := Aside0.mk (below_step HB2.out hd3.below); clear hd3 hcell2 hcella2))
      go_ret2
      exact ⟨_, rfl, Kd.R_nil _ _ _ _ _, HB3.out⟩
  · replace h := (if_neg ct).symm.trans h
    replace h := Option.some.inj h
    obtain ⟨rfl, rfl⟩ := Prod.mk.inj h
    replace ct := Bool.eq_false_iff.mpr ct
    subst ct
    clear h
    go_enter Try.func33, Try.ntmps33
    go_wp2_with (go_at_call 69; (with_reducible refine (impl_areHeats.calls A0 c0 l0 false _ HC1.out HC0.out HT.out).mono ?_); rintro e w2 ⟨rfl, hb2⟩; have HB2 := Aside0.mk (below_step HVB.out hb2); clear hb2)
    go_ret2
    exact ⟨_, rfl, Kd.R_nil _ _ _ _ _, HB2.out⟩


end Go.Proofs.Ytkcfpkokgpimaaa.PFnHeats
