/-
  No cell of these rows narrows 'for every input' (looked for: loops, veiled, ifaces, maps, wideKeys, modest, calm, conditions, laid).
  DERIVED. THE GIVEN ROWS OF THIS SEAT. 12 by the template 'for every input the law returns true; each argument reads behind the call as it read before'; 0 by the template 'total and deterministic' (their statements: YtljodkhonaeceaaTotals.lean).
  GIVEN WITH THE SEED: the statements are not yours to turn. If you find one false, say at which input.
  Laid BY PROGRAM, IN A SANDBOX (cutbox-rows.mjs): the forced cells as the released guide's own fill.sh prints them over the translation 48b00a178ad8b06a… (all of the seat's roots in one cut). By AI agents, Wed Nov 11 2026. No macro, syntax, notation, axiom, sorry.
-/
import Derived.Test.YtljodkhonaeceaaChecked
import GoSem.Claim
import GoSem.ClaimJoined
import GoSem.ClaimMapViews
import Derived.JoinedTies
import Derived.KernelRfl
namespace Go.Proofs.Ytljodkhonaeceaa
/- THE CELL 'sum', in the pinned program and in every row, IS THE sha256 OF THE DUMP (.gsa) THAT YtljodkhonaeceaaProg.lean LOADS. Nothing in Lean hashes anything: it is a label: what it is worth is what the hold of that sum in a sandbox is worth. -/
noncomputable def Try.pinned : Pinned := { name := "ytljodkhonaeceaa", sum := "48b00a178ad8b06add34ec7a65033e1fce5a493bcdcbb792d2e7eec63eed6794", checked := Try.checked }
namespace Rows
def none {H : Type} : Left H := { results := [], args := [] }

/-- 'laws.FnExactValueOf': WHATEVER THE INPUT: true; the input reads as it did. -/
def fnExactValueOfSpec : ChangeSpec := { name := "fnExactValueOf", fn := fun _ => fun
  | [d1, d2] => { results := [.lit (.bool true)], args := [d1, d2] }
  | _ => none }
def fnExactValueOfRow : OpenClaim := { program := "ytljodkhonaeceaa", sum := "48b00a178ad8b06add34ec7a65033e1fce5a493bcdcbb792d2e7eec63eed6794", func := "loop.example/g03310/laws.FnExactValueOf", spec := "fnExactValueOf", unfollowed := true, recurses := true, apart := false }
def FnExactValueOfSaid : Prop := fnExactValueOfRow.holds Try.pinned (OpenSpec.ofChange fnExactValueOfSpec)

/-- ITS FALSE NEIGHBOUR: 'it returns false'. Refute it at one input. -/
def fnExactValueOfWrong : ChangeSpec := { name := "fnExactValueOf", fn := fun _ => fun
  | [d1, d2] => { results := [.lit (.bool false)], args := [d1, d2] }
  | _ => none }
def FnExactValueOfWrongFalsely : Prop := fnExactValueOfRow.holds Try.pinned (OpenSpec.ofChange fnExactValueOfWrong)

/-- 'laws.FnExactPiecesOk': WHATEVER THE INPUT: true; the input reads as it did. -/
def fnExactPiecesOkSpec : ChangeSpec := { name := "fnExactPiecesOk", fn := fun _ => fun
  | [d] => { results := [.lit (.bool true)], args := [d] }
  | _ => none }
def fnExactPiecesOkRow : OpenClaim := { program := "ytljodkhonaeceaa", sum := "48b00a178ad8b06add34ec7a65033e1fce5a493bcdcbb792d2e7eec63eed6794", func := "loop.example/g03310/laws.FnExactPiecesOk", spec := "fnExactPiecesOk", unfollowed := true, recurses := true, apart := false }
def FnExactPiecesOkSaid : Prop := fnExactPiecesOkRow.holds Try.pinned (OpenSpec.ofChange fnExactPiecesOkSpec)

/-- ITS FALSE NEIGHBOUR: 'it returns false'. Refute it at one input. -/
def fnExactPiecesOkWrong : ChangeSpec := { name := "fnExactPiecesOk", fn := fun _ => fun
  | [d] => { results := [.lit (.bool false)], args := [d] }
  | _ => none }
def FnExactPiecesOkWrongFalsely : Prop := fnExactPiecesOkRow.holds Try.pinned (OpenSpec.ofChange fnExactPiecesOkWrong)

/-- 'laws.FnExactSalesOk': WHATEVER THE INPUT: true; the input reads as it did. -/
def fnExactSalesOkSpec : ChangeSpec := { name := "fnExactSalesOk", fn := fun _ => fun
  | [d] => { results := [.lit (.bool true)], args := [d] }
  | _ => none }
def fnExactSalesOkRow : OpenClaim := { program := "ytljodkhonaeceaa", sum := "48b00a178ad8b06add34ec7a65033e1fce5a493bcdcbb792d2e7eec63eed6794", func := "loop.example/g03310/laws.FnExactSalesOk", spec := "fnExactSalesOk", unfollowed := true, recurses := true, apart := false }
def FnExactSalesOkSaid : Prop := fnExactSalesOkRow.holds Try.pinned (OpenSpec.ofChange fnExactSalesOkSpec)

/-- ITS FALSE NEIGHBOUR: 'it returns false'. Refute it at one input. -/
def fnExactSalesOkWrong : ChangeSpec := { name := "fnExactSalesOk", fn := fun _ => fun
  | [d] => { results := [.lit (.bool false)], args := [d] }
  | _ => none }
def FnExactSalesOkWrongFalsely : Prop := fnExactSalesOkRow.holds Try.pinned (OpenSpec.ofChange fnExactSalesOkWrong)

/-- 'laws.FnExactNextMorning': WHATEVER THE INPUT: true; the input reads as it did. -/
def fnExactNextMorningSpec : ChangeSpec := { name := "fnExactNextMorning", fn := fun _ => fun
  | [d1, d2] => { results := [.lit (.bool true)], args := [d1, d2] }
  | _ => none }
def fnExactNextMorningRow : OpenClaim := { program := "ytljodkhonaeceaa", sum := "48b00a178ad8b06add34ec7a65033e1fce5a493bcdcbb792d2e7eec63eed6794", func := "loop.example/g03310/laws.FnExactNextMorning", spec := "fnExactNextMorning", unfollowed := true, recurses := true, apart := false }
def FnExactNextMorningSaid : Prop := fnExactNextMorningRow.holds Try.pinned (OpenSpec.ofChange fnExactNextMorningSpec)

/-- ITS FALSE NEIGHBOUR: 'it returns false'. Refute it at one input. -/
def fnExactNextMorningWrong : ChangeSpec := { name := "fnExactNextMorning", fn := fun _ => fun
  | [d1, d2] => { results := [.lit (.bool false)], args := [d1, d2] }
  | _ => none }
def FnExactNextMorningWrongFalsely : Prop := fnExactNextMorningRow.holds Try.pinned (OpenSpec.ofChange fnExactNextMorningWrong)

/-- 'laws.FnExactSellCheap': WHATEVER THE INPUT: true; the input reads as it did. -/
def fnExactSellCheapSpec : ChangeSpec := { name := "fnExactSellCheap", fn := fun _ => fun
  | [d1, d2] => { results := [.lit (.bool true)], args := [d1, d2] }
  | _ => none }
def fnExactSellCheapRow : OpenClaim := { program := "ytljodkhonaeceaa", sum := "48b00a178ad8b06add34ec7a65033e1fce5a493bcdcbb792d2e7eec63eed6794", func := "loop.example/g03310/laws.FnExactSellCheap", spec := "fnExactSellCheap", unfollowed := true, recurses := true, apart := false }
def FnExactSellCheapSaid : Prop := fnExactSellCheapRow.holds Try.pinned (OpenSpec.ofChange fnExactSellCheapSpec)

/-- ITS FALSE NEIGHBOUR: 'it returns false'. Refute it at one input. -/
def fnExactSellCheapWrong : ChangeSpec := { name := "fnExactSellCheap", fn := fun _ => fun
  | [d1, d2] => { results := [.lit (.bool false)], args := [d1, d2] }
  | _ => none }
def FnExactSellCheapWrongFalsely : Prop := fnExactSellCheapRow.holds Try.pinned (OpenSpec.ofChange fnExactSellCheapWrong)

/-- 'laws.FnExactSellFresh': WHATEVER THE INPUT: true; the input reads as it did. -/
def fnExactSellFreshSpec : ChangeSpec := { name := "fnExactSellFresh", fn := fun _ => fun
  | [d1, d2] => { results := [.lit (.bool true)], args := [d1, d2] }
  | _ => none }
def fnExactSellFreshRow : OpenClaim := { program := "ytljodkhonaeceaa", sum := "48b00a178ad8b06add34ec7a65033e1fce5a493bcdcbb792d2e7eec63eed6794", func := "loop.example/g03310/laws.FnExactSellFresh", spec := "fnExactSellFresh", unfollowed := true, recurses := true, apart := false }
def FnExactSellFreshSaid : Prop := fnExactSellFreshRow.holds Try.pinned (OpenSpec.ofChange fnExactSellFreshSpec)

/-- ITS FALSE NEIGHBOUR: 'it returns false'. Refute it at one input. -/
def fnExactSellFreshWrong : ChangeSpec := { name := "fnExactSellFresh", fn := fun _ => fun
  | [d1, d2] => { results := [.lit (.bool false)], args := [d1, d2] }
  | _ => none }
def FnExactSellFreshWrongFalsely : Prop := fnExactSellFreshRow.holds Try.pinned (OpenSpec.ofChange fnExactSellFreshWrong)

/-- 'laws.FnExactLayersAfter': WHATEVER THE INPUT: true; the input reads as it did. -/
def fnExactLayersAfterSpec : ChangeSpec := { name := "fnExactLayersAfter", fn := fun _ => fun
  | [d] => { results := [.lit (.bool true)], args := [d] }
  | _ => none }
def fnExactLayersAfterRow : OpenClaim := { program := "ytljodkhonaeceaa", sum := "48b00a178ad8b06add34ec7a65033e1fce5a493bcdcbb792d2e7eec63eed6794", func := "loop.example/g03310/laws.FnExactLayersAfter", spec := "fnExactLayersAfter", unfollowed := true, recurses := true, apart := false }
def FnExactLayersAfterSaid : Prop := fnExactLayersAfterRow.holds Try.pinned (OpenSpec.ofChange fnExactLayersAfterSpec)

/-- ITS FALSE NEIGHBOUR: 'it returns false'. Refute it at one input. -/
def fnExactLayersAfterWrong : ChangeSpec := { name := "fnExactLayersAfter", fn := fun _ => fun
  | [d] => { results := [.lit (.bool false)], args := [d] }
  | _ => none }
def FnExactLayersAfterWrongFalsely : Prop := fnExactLayersAfterRow.holds Try.pinned (OpenSpec.ofChange fnExactLayersAfterWrong)

/-- 'laws.FnExactThicknessOf': WHATEVER THE INPUT: true; the input reads as it did. -/
def fnExactThicknessOfSpec : ChangeSpec := { name := "fnExactThicknessOf", fn := fun _ => fun
  | [d1, d2] => { results := [.lit (.bool true)], args := [d1, d2] }
  | _ => none }
def fnExactThicknessOfRow : OpenClaim := { program := "ytljodkhonaeceaa", sum := "48b00a178ad8b06add34ec7a65033e1fce5a493bcdcbb792d2e7eec63eed6794", func := "loop.example/g03310/laws.FnExactThicknessOf", spec := "fnExactThicknessOf", unfollowed := true, recurses := true, apart := false }
def FnExactThicknessOfSaid : Prop := fnExactThicknessOfRow.holds Try.pinned (OpenSpec.ofChange fnExactThicknessOfSpec)

/-- ITS FALSE NEIGHBOUR: 'it returns false'. Refute it at one input. -/
def fnExactThicknessOfWrong : ChangeSpec := { name := "fnExactThicknessOf", fn := fun _ => fun
  | [d1, d2] => { results := [.lit (.bool false)], args := [d1, d2] }
  | _ => none }
def FnExactThicknessOfWrongFalsely : Prop := fnExactThicknessOfRow.holds Try.pinned (OpenSpec.ofChange fnExactThicknessOfWrong)

/-- 'laws.FnShelves': WHATEVER THE INPUT: true; the input reads as it did. -/
def fnShelvesSpec : ChangeSpec := { name := "fnShelves", fn := fun _ => fun
  | [d] => { results := [.lit (.bool true)], args := [d] }
  | _ => none }
def fnShelvesRow : OpenClaim := { program := "ytljodkhonaeceaa", sum := "48b00a178ad8b06add34ec7a65033e1fce5a493bcdcbb792d2e7eec63eed6794", func := "loop.example/g03310/laws.FnShelves", spec := "fnShelves", unfollowed := true, recurses := true, apart := false }
def FnShelvesSaid : Prop := fnShelvesRow.holds Try.pinned (OpenSpec.ofChange fnShelvesSpec)

/-- ITS FALSE NEIGHBOUR: 'it returns false'. Refute it at one input. -/
def fnShelvesWrong : ChangeSpec := { name := "fnShelves", fn := fun _ => fun
  | [d] => { results := [.lit (.bool false)], args := [d] }
  | _ => none }
def FnShelvesWrongFalsely : Prop := fnShelvesRow.holds Try.pinned (OpenSpec.ofChange fnShelvesWrong)

/-- 'laws.FnFolds': WHATEVER THE INPUT: true; the input reads as it did. -/
def fnFoldsSpec : ChangeSpec := { name := "fnFolds", fn := fun _ => fun
  | [d] => { results := [.lit (.bool true)], args := [d] }
  | _ => none }
def fnFoldsRow : OpenClaim := { program := "ytljodkhonaeceaa", sum := "48b00a178ad8b06add34ec7a65033e1fce5a493bcdcbb792d2e7eec63eed6794", func := "loop.example/g03310/laws.FnFolds", spec := "fnFolds", unfollowed := true, recurses := true, apart := false }
def FnFoldsSaid : Prop := fnFoldsRow.holds Try.pinned (OpenSpec.ofChange fnFoldsSpec)

/-- ITS FALSE NEIGHBOUR: 'it returns false'. Refute it at one input. -/
def fnFoldsWrong : ChangeSpec := { name := "fnFolds", fn := fun _ => fun
  | [d] => { results := [.lit (.bool false)], args := [d] }
  | _ => none }
def FnFoldsWrongFalsely : Prop := fnFoldsRow.holds Try.pinned (OpenSpec.ofChange fnFoldsWrong)

/-- 'laws.FnExactFoldsFor': WHATEVER THE INPUT: true; the input reads as it did. -/
def fnExactFoldsForSpec : ChangeSpec := { name := "fnExactFoldsFor", fn := fun _ => fun
  | [d] => { results := [.lit (.bool true)], args := [d] }
  | _ => none }
def fnExactFoldsForRow : OpenClaim := { program := "ytljodkhonaeceaa", sum := "48b00a178ad8b06add34ec7a65033e1fce5a493bcdcbb792d2e7eec63eed6794", func := "loop.example/g03310/laws.FnExactFoldsFor", spec := "fnExactFoldsFor", apart := false }
def FnExactFoldsForSaid : Prop := fnExactFoldsForRow.holds Try.pinned (OpenSpec.ofChange fnExactFoldsForSpec)

/-- ITS FALSE NEIGHBOUR: 'it returns false'. Refute it at one input. -/
def fnExactFoldsForWrong : ChangeSpec := { name := "fnExactFoldsFor", fn := fun _ => fun
  | [d] => { results := [.lit (.bool false)], args := [d] }
  | _ => none }
def FnExactFoldsForWrongFalsely : Prop := fnExactFoldsForRow.holds Try.pinned (OpenSpec.ofChange fnExactFoldsForWrong)

/-- 'laws.FnExactCleanCost': WHATEVER THE INPUT: true; the input reads as it did. -/
def fnExactCleanCostSpec : ChangeSpec := { name := "fnExactCleanCost", fn := fun _ => fun
  | [d1, d2] => { results := [.lit (.bool true)], args := [d1, d2] }
  | _ => none }
def fnExactCleanCostRow : OpenClaim := { program := "ytljodkhonaeceaa", sum := "48b00a178ad8b06add34ec7a65033e1fce5a493bcdcbb792d2e7eec63eed6794", func := "loop.example/g03310/laws.FnExactCleanCost", spec := "fnExactCleanCost", apart := false }
def FnExactCleanCostSaid : Prop := fnExactCleanCostRow.holds Try.pinned (OpenSpec.ofChange fnExactCleanCostSpec)

/-- ITS FALSE NEIGHBOUR: 'it returns false'. Refute it at one input. -/
def fnExactCleanCostWrong : ChangeSpec := { name := "fnExactCleanCost", fn := fun _ => fun
  | [d1, d2] => { results := [.lit (.bool false)], args := [d1, d2] }
  | _ => none }
def FnExactCleanCostWrongFalsely : Prop := fnExactCleanCostRow.holds Try.pinned (OpenSpec.ofChange fnExactCleanCostWrong)

/- THE SECOND FORM. 'bulk': how many values and letters a reading holds, each counted each time it is reached (what is shared counts as often as it is met; a slice's spare places count too). A statement '..UptoSaid' is the law's where the arguments, and the package variables that the reading takes, are together of bulk at most 1048576: NARROWER than '..Said'. Prove '..Said' where nothing that the law and all that it calls make is longer than what came in: it says more and counts as full. Else prove '..UptoSaid'. A law counts once. -/
mutual
def uptoBulk {H : Type} : DataW H → Nat
  | .lit (.string bytes) => bytes.length + 1
  | .lit _ => 1
  | .nil => 1
  | .ptr d => uptoBulk d + 1
  | .slice elems spare => uptoBulkAll elems + uptoBulkAll spare + 1
  | .agg parts => uptoBulkAll parts + 1
  | .iface _ d => uptoBulk d + 1
  | .map entries => uptoBulkEntries entries + 1
  | .held _ => 1
def uptoBulkAll {H : Type} : List (DataW H) → Nat
  | [] => 0
  | d :: r => uptoBulk d + uptoBulkAll r
def uptoBulkEntries {H : Type} : List (Lit × DataW H) → Nat
  | [] => 0
  | x :: r => uptoBulkEntry x + uptoBulkEntries r
def uptoBulkEntry {H : Type} : Lit × DataW H → Nat
  | (.string bytes, d) => bytes.length + uptoBulk d + 1
  | (_, d) => uptoBulk d + 1
 end
def uptoSmall : (H : Type) → List (DataW H) → Bool := fun _ ds => decide (uptoBulkAll ds ≤ 1048576)
def OpenSpec.upto (s : _root_.Go.ChangeSpec) : _root_.Go.OpenSpec := { _root_.Go.OpenSpec.ofChange s with cond := some uptoSmall }

/-- 'laws.FnExactValueOf', WHERE WHAT IT READS IS OF BULK AT MOST 1048576: true; the input reads as it did. -/
def fnExactValueOfUptoRow : OpenClaim := { program := "ytljodkhonaeceaa", sum := "48b00a178ad8b06add34ec7a65033e1fce5a493bcdcbb792d2e7eec63eed6794", func := "loop.example/g03310/laws.FnExactValueOf", spec := "fnExactValueOf", unfollowed := true, recurses := true, apart := false, narrowed := true }
def FnExactValueOfUptoSaid : Prop := fnExactValueOfUptoRow.holds Try.pinned (OpenSpec.upto fnExactValueOfSpec)

/-- 'laws.FnExactPiecesOk', WHERE WHAT IT READS IS OF BULK AT MOST 1048576: true; the input reads as it did. -/
def fnExactPiecesOkUptoRow : OpenClaim := { program := "ytljodkhonaeceaa", sum := "48b00a178ad8b06add34ec7a65033e1fce5a493bcdcbb792d2e7eec63eed6794", func := "loop.example/g03310/laws.FnExactPiecesOk", spec := "fnExactPiecesOk", unfollowed := true, recurses := true, apart := false, narrowed := true }
def FnExactPiecesOkUptoSaid : Prop := fnExactPiecesOkUptoRow.holds Try.pinned (OpenSpec.upto fnExactPiecesOkSpec)

/-- 'laws.FnExactSalesOk', WHERE WHAT IT READS IS OF BULK AT MOST 1048576: true; the input reads as it did. -/
def fnExactSalesOkUptoRow : OpenClaim := { program := "ytljodkhonaeceaa", sum := "48b00a178ad8b06add34ec7a65033e1fce5a493bcdcbb792d2e7eec63eed6794", func := "loop.example/g03310/laws.FnExactSalesOk", spec := "fnExactSalesOk", unfollowed := true, recurses := true, apart := false, narrowed := true }
def FnExactSalesOkUptoSaid : Prop := fnExactSalesOkUptoRow.holds Try.pinned (OpenSpec.upto fnExactSalesOkSpec)

/-- 'laws.FnExactNextMorning', WHERE WHAT IT READS IS OF BULK AT MOST 1048576: true; the input reads as it did. -/
def fnExactNextMorningUptoRow : OpenClaim := { program := "ytljodkhonaeceaa", sum := "48b00a178ad8b06add34ec7a65033e1fce5a493bcdcbb792d2e7eec63eed6794", func := "loop.example/g03310/laws.FnExactNextMorning", spec := "fnExactNextMorning", unfollowed := true, recurses := true, apart := false, narrowed := true }
def FnExactNextMorningUptoSaid : Prop := fnExactNextMorningUptoRow.holds Try.pinned (OpenSpec.upto fnExactNextMorningSpec)

/-- 'laws.FnExactSellCheap', WHERE WHAT IT READS IS OF BULK AT MOST 1048576: true; the input reads as it did. -/
def fnExactSellCheapUptoRow : OpenClaim := { program := "ytljodkhonaeceaa", sum := "48b00a178ad8b06add34ec7a65033e1fce5a493bcdcbb792d2e7eec63eed6794", func := "loop.example/g03310/laws.FnExactSellCheap", spec := "fnExactSellCheap", unfollowed := true, recurses := true, apart := false, narrowed := true }
def FnExactSellCheapUptoSaid : Prop := fnExactSellCheapUptoRow.holds Try.pinned (OpenSpec.upto fnExactSellCheapSpec)

/-- 'laws.FnExactSellFresh', WHERE WHAT IT READS IS OF BULK AT MOST 1048576: true; the input reads as it did. -/
def fnExactSellFreshUptoRow : OpenClaim := { program := "ytljodkhonaeceaa", sum := "48b00a178ad8b06add34ec7a65033e1fce5a493bcdcbb792d2e7eec63eed6794", func := "loop.example/g03310/laws.FnExactSellFresh", spec := "fnExactSellFresh", unfollowed := true, recurses := true, apart := false, narrowed := true }
def FnExactSellFreshUptoSaid : Prop := fnExactSellFreshUptoRow.holds Try.pinned (OpenSpec.upto fnExactSellFreshSpec)

/-- 'laws.FnExactLayersAfter', WHERE WHAT IT READS IS OF BULK AT MOST 1048576: true; the input reads as it did. -/
def fnExactLayersAfterUptoRow : OpenClaim := { program := "ytljodkhonaeceaa", sum := "48b00a178ad8b06add34ec7a65033e1fce5a493bcdcbb792d2e7eec63eed6794", func := "loop.example/g03310/laws.FnExactLayersAfter", spec := "fnExactLayersAfter", unfollowed := true, recurses := true, apart := false, narrowed := true }
def FnExactLayersAfterUptoSaid : Prop := fnExactLayersAfterUptoRow.holds Try.pinned (OpenSpec.upto fnExactLayersAfterSpec)

/-- 'laws.FnExactThicknessOf', WHERE WHAT IT READS IS OF BULK AT MOST 1048576: true; the input reads as it did. -/
def fnExactThicknessOfUptoRow : OpenClaim := { program := "ytljodkhonaeceaa", sum := "48b00a178ad8b06add34ec7a65033e1fce5a493bcdcbb792d2e7eec63eed6794", func := "loop.example/g03310/laws.FnExactThicknessOf", spec := "fnExactThicknessOf", unfollowed := true, recurses := true, apart := false, narrowed := true }
def FnExactThicknessOfUptoSaid : Prop := fnExactThicknessOfUptoRow.holds Try.pinned (OpenSpec.upto fnExactThicknessOfSpec)

/-- 'laws.FnShelves', WHERE WHAT IT READS IS OF BULK AT MOST 1048576: true; the input reads as it did. -/
def fnShelvesUptoRow : OpenClaim := { program := "ytljodkhonaeceaa", sum := "48b00a178ad8b06add34ec7a65033e1fce5a493bcdcbb792d2e7eec63eed6794", func := "loop.example/g03310/laws.FnShelves", spec := "fnShelves", unfollowed := true, recurses := true, apart := false, narrowed := true }
def FnShelvesUptoSaid : Prop := fnShelvesUptoRow.holds Try.pinned (OpenSpec.upto fnShelvesSpec)

/-- 'laws.FnFolds', WHERE WHAT IT READS IS OF BULK AT MOST 1048576: true; the input reads as it did. -/
def fnFoldsUptoRow : OpenClaim := { program := "ytljodkhonaeceaa", sum := "48b00a178ad8b06add34ec7a65033e1fce5a493bcdcbb792d2e7eec63eed6794", func := "loop.example/g03310/laws.FnFolds", spec := "fnFolds", unfollowed := true, recurses := true, apart := false, narrowed := true }
def FnFoldsUptoSaid : Prop := fnFoldsUptoRow.holds Try.pinned (OpenSpec.upto fnFoldsSpec)

/-- 'laws.FnExactFoldsFor', WHERE WHAT IT READS IS OF BULK AT MOST 1048576: true; the input reads as it did. -/
def fnExactFoldsForUptoRow : OpenClaim := { program := "ytljodkhonaeceaa", sum := "48b00a178ad8b06add34ec7a65033e1fce5a493bcdcbb792d2e7eec63eed6794", func := "loop.example/g03310/laws.FnExactFoldsFor", spec := "fnExactFoldsFor", apart := false, narrowed := true }
def FnExactFoldsForUptoSaid : Prop := fnExactFoldsForUptoRow.holds Try.pinned (OpenSpec.upto fnExactFoldsForSpec)

/-- 'laws.FnExactCleanCost', WHERE WHAT IT READS IS OF BULK AT MOST 1048576: true; the input reads as it did. -/
def fnExactCleanCostUptoRow : OpenClaim := { program := "ytljodkhonaeceaa", sum := "48b00a178ad8b06add34ec7a65033e1fce5a493bcdcbb792d2e7eec63eed6794", func := "loop.example/g03310/laws.FnExactCleanCost", spec := "fnExactCleanCost", apart := false, narrowed := true }
def FnExactCleanCostUptoSaid : Prop := fnExactCleanCostUptoRow.holds Try.pinned (OpenSpec.upto fnExactCleanCostSpec)

end Rows
end Go.Proofs.Ytljodkhonaeceaa
