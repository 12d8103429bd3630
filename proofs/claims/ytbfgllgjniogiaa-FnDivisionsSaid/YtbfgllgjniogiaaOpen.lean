/- How arguments that are structs of whole numbers, slices of them and slices of bools read, for the rows of this seat. No condition. -/
import Derived.Lib.SmallJoins
import Derived.Deep.Slices
import Derived.Deep.SlicePairs
import Derived.Deep.Grids
import Derived.SizedLaws
import Derived.ChangeSlices
import Derived.Test.YtbfgllgjniogiaaWWords
namespace Go.Proofs.Ytbfgllgjniogiaa.Open
open Go.ChangeShapes Go.WideShapes Go.ChangeAt Go.RowKit Go.Joins Go.Deep Go.Proofs.YtbfgllgjniogiaaW.PrintWords

section
variable {H : Type} {enc : TypeId × Value → H} {P : Program} {W : World} {base : Nat} {held : Bool}

theorem open_ints3 {spare : Nat → Bool} {r : Reach} {b0 : Nat} {t : TypeId} {f0 f1 f2 : Field} {v : Value} {d : DataW H} {p : List MemPlace} (hs : P.underlying t = some (.struct #[f0, f1, f2])) (hone : oneCellFields P #[f0, f1, f2] = true) (hC : P.cellsOf t = 3)
    (u0 : P.underlying f0.type = some (.int .i64)) (u1 : P.underlying f1.type = some (.int .i64)) (u2 : P.underlying f2.type = some (.int .i64)) (hv : Value.okWide P W r b0 t v) (h : DataW.Trod enc P W base spare held t v d p) :
    ∃ x y z : Int, v = .agg #[.int .i64 x, .int .i64 y, .int .i64 z] ∧ (Lit.int .i64 x).wf = true ∧ (Lit.int .i64 y).wf = true ∧ (Lit.int .i64 z).wf = true := by
  obtain ⟨c0, c1, c2, y0, y1, y2, m, rfl, _, _, hy0, hy1, hy2⟩ := open_agg3 hs hone hC hv h
  obtain ⟨a, e0, _, wa⟩ := DataW.trod_int u0 hy0
  obtain ⟨b, e1, _, wb⟩ := DataW.trod_int u1 hy1
  obtain ⟨c, e2, _, wc⟩ := DataW.trod_int u2 hy2
  simp only [List.cons.injEq, and_true] at e0 e1 e2
  subst e0 e1 e2
  exact ⟨a, b, c, rfl, wa, wb, wc⟩

/-- A slice of structs of two whole numbers. -/
theorem open_rows2 {t e : TypeId} {f0 f1 : Field} {a : Option Addr} {len cap : Nat} {d : DataW H} {ps : List MemPlace} {ts : List TypeId} {ds : List (DataW H)} {j : Nat}
    (hsz : (DataW.weightsEach P ts ds).all (· ≤ reachBytes) = true) (htj : ts[j]? = some t) (hdj : ds[j]? = some d) (ht : P.underlying t = some (.slice e)) (he : P.underlying e = some (.struct #[f0, f1]))
    (ce : P.cellsOf e = 2) (hone : oneCellFields P #[f0, f1] = true) (u0 : P.underlying f0.type = some (.int .i64)) (u1 : P.underlying f1.type = some (.int .i64)) (hB : P.bytesOf e = 16)
    (h : DataW.Trod enc P W base (fun _ => true) held t (.slice a len cap) d ps) :
    ∃ l : List (Int × Int), len = l.length ∧ l.length ≤ cap ∧ l.length ≤ maxLen ∧ l.length * 16 ≤ 140737488351232 ∧ (∀ x ∈ l, (Lit.int .i64 x.1).wf = true ∧ (Lit.int .i64 x.2).wf = true) ∧
      (0 < l.length → ∃ ad, a = some ad ∧ ∀ (j : Nat) x, l[j]? = some x → W.cell? (ad.add (j * 2)) = some (.int .i64 x.1) ∧ W.cell? (ad.add (j * 2 + 1)) = some (.int .i64 x.2)) := by
  obtain ⟨fuel, hf⟩ := h
  obtain ⟨o0, c0⟩ := hone_of hone 0 f0 rfl
  obtain ⟨o1, c1⟩ := hone_of hone 1 f1 rfl
  rcases open_slice_pairs ht he ce o0 o1 c0 c1 hf with ⟨hcs, _⟩ | ⟨x, l, c, m, n, V0, V1, D0, D1, P0, P1, hcs, _, hl, hm, hmm, hx, hcell⟩
  · simp [Value.cells] at hcs
    obtain ⟨rfl, rfl, rfl⟩ := hcs
    exact ⟨[], rfl, Nat.le_refl _, Nat.zero_le _, by simp, by simp, fun h => absurd h (by simp)⟩
  · simp [Value.cells] at hcs
    obtain ⟨rfl, rfl, rfl⟩ := hcs
    simp only [if_true] at hmm
    subst hmm
    have hlen : ∀ i, i < len → ∃ q : Int × Int, (V0 i = .int .i64 q.1 ∧ (Lit.int .i64 q.1).wf = true) ∧ (V1 i = .int .i64 q.2 ∧ (Lit.int .i64 q.2).wf = true) := by
      intro i hi
      obtain ⟨_, _, h0, h1⟩ := hcell i (by omega)
      obtain ⟨p, e0, _, w0⟩ := DataW.trod_int u0 h0
      obtain ⟨q, e1, _, w1⟩ := DataW.trod_int u1 h1
      simp only [List.cons.injEq, and_true] at e0 e1
      exact ⟨(p, q), ⟨e0, w0⟩, ⟨e1, w1⟩⟩
    obtain ⟨q, hq⟩ := choose_lt hlen
    obtain ⟨hx1, _⟩ := Prod.mk.inj hx
    subst hx1
    have z := sized_slice hsz htj hdj ht
    rw [hB] at z
    simp only [List.length_map, List.length_range] at z
    refine ⟨(List.range len).map q, by simp, by simpa using hl, by simp; omega, ?_, ?_, fun _ => ⟨x, rfl, ?_⟩⟩
    · simp only [List.length_map, List.length_range]
      exact Nat.le_trans (Nat.mul_le_mul_right _ (by omega)) z
    · intro y hy
      obtain ⟨i, hi, rfl⟩ := List.mem_map.1 hy
      have := hq i (List.mem_range.1 hi)
      exact ⟨this.1.2, this.2.2⟩
    · intro i y hy
      rw [List.getElem?_map, Option.map_eq_some_iff] at hy
      obtain ⟨i', hi', rfl⟩ := hy
      have hi : i < len := by
        have := (List.getElem?_eq_some_iff.1 hi').1
        simpa using this
      obtain rfl : i = i' := by
        rw [List.getElem?_range hi] at hi'
        exact Option.some.inj hi'
      have h1 := hcell i (by omega)
      have h2 := hq i hi
      exact ⟨by rw [h1.1, h2.1.1], by rw [h1.2.1, h2.2.1]⟩

/-- A slice of structs of three whole numbers. -/
theorem open_rows3 {t e : TypeId} {f0 f1 f2 : Field} {a : Option Addr} {len cap : Nat} {d : DataW H} {ps : List MemPlace} {ts : List TypeId} {ds : List (DataW H)} {j : Nat}
    (hsz : (DataW.weightsEach P ts ds).all (· ≤ reachBytes) = true) (htj : ts[j]? = some t) (hdj : ds[j]? = some d) (ht : P.underlying t = some (.slice e)) (he : P.underlying e = some (.struct #[f0, f1, f2]))
    (ce : P.cellsOf e = 3) (hone : oneCellFields P #[f0, f1, f2] = true) (u0 : P.underlying f0.type = some (.int .i64)) (u1 : P.underlying f1.type = some (.int .i64)) (u2 : P.underlying f2.type = some (.int .i64)) (hB : P.bytesOf e = 24)
    (h : DataW.Trod enc P W base (fun _ => true) held t (.slice a len cap) d ps) :
    ∃ l : List (Int × Int × Int), len = l.length ∧ l.length ≤ cap ∧ l.length ≤ maxLen ∧ l.length * 24 ≤ 140737488351232 ∧ (∀ x ∈ l, (Lit.int .i64 x.1).wf = true ∧ (Lit.int .i64 x.2.1).wf = true ∧ (Lit.int .i64 x.2.2).wf = true) ∧
      (0 < l.length → ∃ ad, a = some ad ∧ ∀ (j : Nat) x, l[j]? = some x → W.cell? (ad.add (j * 3)) = some (.int .i64 x.1) ∧ W.cell? (ad.add (j * 3 + 1)) = some (.int .i64 x.2.1) ∧ W.cell? (ad.add (j * 3 + 2)) = some (.int .i64 x.2.2)) := by
  obtain ⟨fuel, hf⟩ := h
  obtain ⟨o0, c0⟩ := hone_of hone 0 f0 rfl
  obtain ⟨o1, c1⟩ := hone_of hone 1 f1 rfl
  obtain ⟨o2, c2⟩ := hone_of hone 2 f2 rfl
  rcases open_slice ht hf with ⟨hcs, _⟩ | ⟨x, l, c, m, n, D, Pl, hcs, _, hl, hm, hmm, hx, hcell⟩
  · simp [Value.cells] at hcs
    obtain ⟨rfl, rfl, rfl⟩ := hcs
    exact ⟨[], rfl, Nat.le_refl _, Nat.zero_le _, by simp, by simp, fun h => absurd h (by simp)⟩
  · simp [Value.cells] at hcs
    obtain ⟨rfl, rfl, rfl⟩ := hcs
    simp only [if_true] at hmm
    subst hmm
    rw [ce] at hcell
    have hlen : ∀ i, i < len → ∃ q : Int × Int × Int, (W.cell? (x.add (i * 3)) = some (.int .i64 q.1) ∧ W.cell? (x.add (i * 3 + 1)) = some (.int .i64 q.2.1) ∧ W.cell? (x.add (i * 3 + 2)) = some (.int .i64 q.2.2)) ∧
        (Lit.int .i64 q.1).wf = true ∧ (Lit.int .i64 q.2.1).wf = true ∧ (Lit.int .i64 q.2.2).wf = true := by
      intro i hi
      obtain ⟨cs', h1, h2⟩ := hcell i (by omega)
      obtain ⟨_, hlen, hc⟩ := World.cells?_some h1
      obtain ⟨y0, y1, y2, k, _, _, g0, g1, g2⟩ := trod_struct3 he h2
      match cs', hlen with
      | [v0, v1, v2], _ =>
        simp [o0, o1, o2, c0, c1, c2] at g0 g1 g2
        obtain ⟨p, e0, _, w0⟩ := DataW.trod_int u0 g0
        obtain ⟨q, e1, _, w1⟩ := DataW.trod_int u1 g1
        obtain ⟨s, e2, _, w2⟩ := DataW.trod_int u2 g2
        simp only [List.cons.injEq, and_true] at e0 e1 e2
        subst e0 e1 e2
        have k0 := hc 0 (by omega)
        have k1 := hc 1 (by omega)
        have k2 := hc 2 (by omega)
        rw [Deep.add_add] at k0 k1 k2
        exact ⟨(p, q, s), ⟨by simpa using k0, by simpa using k1, by simpa using k2⟩, w0, w1, w2⟩
    obtain ⟨q, hq⟩ := choose_lt hlen
    obtain ⟨hx1, _⟩ := Prod.mk.inj hx
    subst hx1
    have z := sized_slice hsz htj hdj ht
    rw [hB] at z
    simp only [List.length_map, List.length_range] at z
    refine ⟨(List.range len).map q, by simp, by simpa using hl, by simp; omega, ?_, ?_, fun _ => ⟨x, rfl, ?_⟩⟩
    · simp only [List.length_map, List.length_range]
      exact Nat.le_trans (Nat.mul_le_mul_right _ (by omega)) z
    · intro y hy
      obtain ⟨i, hi, rfl⟩ := List.mem_map.1 hy
      have := hq i (List.mem_range.1 hi)
      exact this.2
    · intro i y hy
      rw [List.getElem?_map, Option.map_eq_some_iff] at hy
      obtain ⟨i', hi', rfl⟩ := hy
      have hi : i < len := by
        have := (List.getElem?_eq_some_iff.1 hi').1
        simpa using this
      obtain rfl : i = i' := by
        rw [List.getElem?_range hi] at hi'
        exact Option.some.inj hi'
      exact (hq i hi).1

/-- A slice of bools. -/
theorem open_bools1 {t e : TypeId} {a : Option Addr} {len cap : Nat} {d : DataW H} {ps : List MemPlace} {ts : List TypeId} {ds : List (DataW H)} {j : Nat}
    (hsz : (DataW.weightsEach P ts ds).all (· ≤ reachBytes) = true) (htj : ts[j]? = some t) (hdj : ds[j]? = some d) (ht : P.underlying t = some (.slice e)) (he : P.underlying e = some .bool) (ce : P.cellsOf e = 1) (hB : P.bytesOf e = 1)
    (h : DataW.Trod enc P W base (fun _ => true) held t (.slice a len cap) d ps) :
    ∃ l : List Bool, len = l.length ∧ l.length ≤ cap ∧ l.length ≤ maxLen ∧ l.length * 1 ≤ 140737488351232 ∧
      (0 < l.length → ∃ ad, a = some ad ∧ ∀ (j : Nat) x, l[j]? = some x → W.cell? (ad.add j) = some (.bool x)) := by
  obtain ⟨fuel, hf⟩ := h
  rcases open_bools ht he ce hf with ⟨hcs, _⟩ | ⟨x, l, c, B, hcs, _, hl, hm, hx, hcell⟩
  · simp [Value.cells] at hcs
    obtain ⟨rfl, rfl, rfl⟩ := hcs
    exact ⟨[], rfl, Nat.le_refl _, Nat.zero_le _, by simp, fun h => absurd h (by simp)⟩
  · simp [Value.cells] at hcs
    obtain ⟨rfl, rfl, rfl⟩ := hcs
    obtain ⟨hx1, _⟩ := Prod.mk.inj hx
    subst hx1
    have z := sized_slice hsz htj hdj ht
    rw [hB] at z
    simp only [List.length_map, List.length_range] at z
    refine ⟨(List.range len).map B, by simp, by simpa using hl, by simp; omega, ?_, fun _ => ⟨x, rfl, ?_⟩⟩
    · simp only [List.length_map, List.length_range]
      exact Nat.le_trans (Nat.mul_le_mul_right _ (by omega)) z
    · intro i y hy
      rw [List.getElem?_map, Option.map_eq_some_iff] at hy
      obtain ⟨i', hi', rfl⟩ := hy
      have hi : i < len := by
        have := (List.getElem?_eq_some_iff.1 hi').1
        simpa using this
      obtain rfl : i = i' := by
        rw [List.getElem?_range hi] at hi'
        exact Option.some.inj hi'
      exact hcell i (by omega)
end
theorem kd_rows2 {α : Type} {d : Kd α} (hsz : d.sz = 2) (mk : Int × Int → α) (hK : ∀ w x, d.K w (mk x) [.int .i64 x.1, .int .i64 x.2]) {W : World} {a : Option Addr} {l : List (Int × Int)} (hm : l.length ≤ maxLen)
    (hc : 0 < l.length → ∃ ad, a = some ad ∧ ∀ (j : Nat) x, l[j]? = some x → W.cell? (ad.add (j * 2)) = some (.int .i64 x.1) ∧ W.cell? (ad.add (j * 2 + 1)) = some (.int .i64 x.2)) : Kd.C d W a (l.map mk).length (l.map mk) := by
  refine ⟨rfl, by rw [List.length_map]; exact hm, fun h => ?_⟩
  rw [List.length_map] at h
  obtain ⟨ad, rfl, hc'⟩ := hc h
  refine ⟨ad, rfl, fun j p hp => ?_⟩
  rw [List.getElem?_map, Option.map_eq_some_iff] at hp
  obtain ⟨x, hx, rfl⟩ := hp
  refine ⟨_, by rw [hsz]; rfl, hK W x, fun i u hu => ?_⟩
  rw [hsz]
  match i, hu with
  | 0, hu => simp at hu; rw [← hu]; exact (hc' j x hx).1
  | 1, hu => simp at hu; rw [← hu]; exact (hc' j x hx).2
  | i + 2, hu => simp at hu
theorem kd_rows3 {α : Type} {d : Kd α} (hsz : d.sz = 3) (mk : Int × Int × Int → α) (hK : ∀ w x, d.K w (mk x) [.int .i64 x.1, .int .i64 x.2.1, .int .i64 x.2.2]) {W : World} {a : Option Addr} {l : List (Int × Int × Int)} (hm : l.length ≤ maxLen)
    (hc : 0 < l.length → ∃ ad, a = some ad ∧ ∀ (j : Nat) x, l[j]? = some x → W.cell? (ad.add (j * 3)) = some (.int .i64 x.1) ∧ W.cell? (ad.add (j * 3 + 1)) = some (.int .i64 x.2.1) ∧ W.cell? (ad.add (j * 3 + 2)) = some (.int .i64 x.2.2)) : Kd.C d W a (l.map mk).length (l.map mk) := by
  refine ⟨rfl, by rw [List.length_map]; exact hm, fun h => ?_⟩
  rw [List.length_map] at h
  obtain ⟨ad, rfl, hc'⟩ := hc h
  refine ⟨ad, rfl, fun j p hp => ?_⟩
  rw [List.getElem?_map, Option.map_eq_some_iff] at hp
  obtain ⟨x, hx, rfl⟩ := hp
  refine ⟨_, by rw [hsz]; rfl, hK W x, fun i u hu => ?_⟩
  rw [hsz]
  match i, hu with
  | 0, hu => simp at hu; rw [← hu]; exact (hc' j x hx).1
  | 1, hu => simp at hu; rw [← hu]; exact (hc' j x hx).2.1
  | 2, hu => simp at hu; rw [← hu]; exact (hc' j x hx).2.2
  | i + 3, hu => simp at hu
theorem kd_bools {W : World} {a : Option Addr} {l : List Bool} (hm : l.length ≤ maxLen) (hc : 0 < l.length → ∃ ad, a = some ad ∧ ∀ (j : Nat) x, l[j]? = some x → W.cell? (ad.add j) = some (.bool x)) : Kd.C Kd.bool W a l.length l := by
  refine ⟨rfl, hm, fun h => ?_⟩
  obtain ⟨ad, rfl, hc'⟩ := hc h
  refine ⟨ad, rfl, fun j p hp => ⟨[.bool p], rfl, rfl, fun i u hu => ?_⟩⟩
  match i, hu with
  | 0, hu => simp at hu; rw [← hu]; show W.cell? (ad.add (j * 1 + 0)) = _; rw [Nat.mul_one]; exact hc' j p hp
  | i + 1, hu => simp at hu
theorem open_kd2 {α : Type} {H : Type} {enc : TypeId × Value → H} {P : Program} {W : World} {base : Nat} {held : Bool} {t e : TypeId} {f0 f1 : Field} {a : Option Addr} {len cap : Nat} {dd : DataW H} {ps : List MemPlace} {ts : List TypeId} {ds : List (DataW H)} {j : Nat}
    (d : Kd α) (hs2 : d.sz = 2) (mk : Int × Int → α) (hK : ∀ w x, d.K w (mk x) [.int .i64 x.1, .int .i64 x.2])
    (hsz : (DataW.weightsEach P ts ds).all (· ≤ reachBytes) = true) (htj : ts[j]? = some t) (hdj : ds[j]? = some dd) (ht : P.underlying t = some (.slice e)) (he : P.underlying e = some (.struct #[f0, f1]))
    (ce : P.cellsOf e = 2) (hone : oneCellFields P #[f0, f1] = true) (u0 : P.underlying f0.type = some (.int .i64)) (u1 : P.underlying f1.type = some (.int .i64)) (hB : P.bytesOf e = 16)
    (h : DataW.Trod enc P W base (fun _ => true) held t (.slice a len cap) dd ps) :
    ∃ L : List α, len = L.length ∧ L.length ≤ cap ∧ L.length ≤ maxLen ∧ L.length * 16 ≤ 140737488351232 ∧ (∀ y ∈ L, ∃ x : Int × Int, y = mk x ∧ (Lit.int .i64 x.1).wf = true ∧ (Lit.int .i64 x.2).wf = true) ∧ Kd.C d W a L.length L := by
  obtain ⟨l, rfl, hc, hm, hb, hw, hcell⟩ := open_rows2 hsz htj hdj ht he ce hone u0 u1 hB h
  refine ⟨l.map mk, by simp, by simpa using hc, by simpa using hm, by simpa using hb, fun y hy => ?_, kd_rows2 hs2 mk hK hm hcell⟩
  obtain ⟨x, hx, rfl⟩ := List.mem_map.1 hy
  exact ⟨x, rfl, (hw x hx).1, (hw x hx).2⟩
theorem open_kd3 {α : Type} {H : Type} {enc : TypeId × Value → H} {P : Program} {W : World} {base : Nat} {held : Bool} {t e : TypeId} {f0 f1 f2 : Field} {a : Option Addr} {len cap : Nat} {dd : DataW H} {ps : List MemPlace} {ts : List TypeId} {ds : List (DataW H)} {j : Nat}
    (d : Kd α) (hs3 : d.sz = 3) (mk : Int × Int × Int → α) (hK : ∀ w x, d.K w (mk x) [.int .i64 x.1, .int .i64 x.2.1, .int .i64 x.2.2])
    (hsz : (DataW.weightsEach P ts ds).all (· ≤ reachBytes) = true) (htj : ts[j]? = some t) (hdj : ds[j]? = some dd) (ht : P.underlying t = some (.slice e)) (he : P.underlying e = some (.struct #[f0, f1, f2]))
    (ce : P.cellsOf e = 3) (hone : oneCellFields P #[f0, f1, f2] = true) (u0 : P.underlying f0.type = some (.int .i64)) (u1 : P.underlying f1.type = some (.int .i64)) (u2 : P.underlying f2.type = some (.int .i64)) (hB : P.bytesOf e = 24)
    (h : DataW.Trod enc P W base (fun _ => true) held t (.slice a len cap) dd ps) :
    ∃ L : List α, len = L.length ∧ L.length ≤ cap ∧ L.length ≤ maxLen ∧ L.length * 24 ≤ 140737488351232 ∧ (∀ y ∈ L, ∃ x : Int × Int × Int, y = mk x ∧ (Lit.int .i64 x.1).wf = true ∧ (Lit.int .i64 x.2.1).wf = true ∧ (Lit.int .i64 x.2.2).wf = true) ∧ Kd.C d W a L.length L := by
  obtain ⟨l, rfl, hc, hm, hb, hw, hcell⟩ := open_rows3 hsz htj hdj ht he ce hone u0 u1 u2 hB h
  refine ⟨l.map mk, by simp, by simpa using hc, by simpa using hm, by simpa using hb, fun y hy => ?_, kd_rows3 hs3 mk hK hm hcell⟩
  obtain ⟨x, hx, rfl⟩ := List.mem_map.1 hy
  exact ⟨x, rfl, hw x hx⟩
end Go.Proofs.Ytbfgllgjniogiaa.Open
