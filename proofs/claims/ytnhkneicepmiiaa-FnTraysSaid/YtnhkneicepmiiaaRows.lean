/-
  No cell of these rows narrows 'for every input' (looked for: loops, veiled, ifaces, maps, wideKeys, modest, calm, conditions, laid).
  DERIVED. THE GIVEN ROWS OF THIS SEAT. 12 by the template 'for every input the law returns true; each argument reads behind the call as it read before'; 0 by the template 'total and deterministic' (their statements: YtnhkneicepmiiaaTotals.lean).
  GIVEN WITH THE SEED: the statements are not yours to turn. If you find one false, say at which input.
  Laid BY PROGRAM, IN A SANDBOX (cutbox-rows.mjs): the forced cells as the released guide's own fill.sh prints them over the translation c9e6a0e9c40156cb… (all of the seat's roots in one cut). By AI agents, Wed Nov 11 2026. No macro, syntax, notation, axiom, sorry.
-/
import Derived.Test.YtnhkneicepmiiaaChecked
import GoSem.Claim
import GoSem.ClaimJoined
import GoSem.ClaimMapViews
import Derived.JoinedTies
import Derived.KernelRfl
namespace Go.Proofs.Ytnhkneicepmiiaa
/- THE CELL 'sum', in the pinned program and in every row, IS THE sha256 OF THE DUMP (.gsa) THAT YtnhkneicepmiiaaProg.lean LOADS. Nothing in Lean hashes anything: it is a label: what it is worth is what the hold of that sum in a sandbox is worth. -/
noncomputable def Try.pinned : Pinned := { name := "ytnhkneicepmiiaa", sum := "c9e6a0e9c40156cb15581d0cd4291a27157aa602ef6621ab97d1faa9deee05fa", checked := Try.checked }
namespace Rows
def none {H : Type} : Left H := { results := [], args := [] }

/-- 'laws.FnExactRowsFor': WHATEVER THE INPUT: true; the input reads as it did. -/
def fnExactRowsForSpec : ChangeSpec := { name := "fnExactRowsFor", fn := fun _ => fun
  | [d1, d2, d3] => { results := [.lit (.bool true)], args := [d1, d2, d3] }
  | _ => none }
def fnExactRowsForRow : OpenClaim := { program := "ytnhkneicepmiiaa", sum := "c9e6a0e9c40156cb15581d0cd4291a27157aa602ef6621ab97d1faa9deee05fa", func := "loop.example/g03310/laws.FnExactRowsFor", spec := "fnExactRowsFor", apart := false }
def FnExactRowsForSaid : Prop := fnExactRowsForRow.holds Try.pinned (OpenSpec.ofChange fnExactRowsForSpec)

/-- ITS FALSE NEIGHBOUR: 'it returns false'. Refute it at one input. -/
def fnExactRowsForWrong : ChangeSpec := { name := "fnExactRowsFor", fn := fun _ => fun
  | [d1, d2, d3] => { results := [.lit (.bool false)], args := [d1, d2, d3] }
  | _ => none }
def FnExactRowsForWrongFalsely : Prop := fnExactRowsForRow.holds Try.pinned (OpenSpec.ofChange fnExactRowsForWrong)

/-- 'laws.FnExactBreadOk': WHATEVER THE INPUT: true; the input reads as it did. -/
def fnExactBreadOkSpec : ChangeSpec := { name := "fnExactBreadOk", fn := fun _ => fun
  | [d] => { results := [.lit (.bool true)], args := [d] }
  | _ => none }
def fnExactBreadOkRow : OpenClaim := { program := "ytnhkneicepmiiaa", sum := "c9e6a0e9c40156cb15581d0cd4291a27157aa602ef6621ab97d1faa9deee05fa", func := "loop.example/g03310/laws.FnExactBreadOk", spec := "fnExactBreadOk", apart := false }
def FnExactBreadOkSaid : Prop := fnExactBreadOkRow.holds Try.pinned (OpenSpec.ofChange fnExactBreadOkSpec)

/-- ITS FALSE NEIGHBOUR: 'it returns false'. Refute it at one input. -/
def fnExactBreadOkWrong : ChangeSpec := { name := "fnExactBreadOk", fn := fun _ => fun
  | [d] => { results := [.lit (.bool false)], args := [d] }
  | _ => none }
def FnExactBreadOkWrongFalsely : Prop := fnExactBreadOkRow.holds Try.pinned (OpenSpec.ofChange fnExactBreadOkWrong)

/-- 'laws.FnExactOnTray': WHATEVER THE INPUT: true; the input reads as it did. -/
def fnExactOnTraySpec : ChangeSpec := { name := "fnExactOnTray", fn := fun _ => fun
  | [d1, d2, d3, d4, d5] => { results := [.lit (.bool true)], args := [d1, d2, d3, d4, d5] }
  | _ => none }
def fnExactOnTrayRow : OpenClaim := { program := "ytnhkneicepmiiaa", sum := "c9e6a0e9c40156cb15581d0cd4291a27157aa602ef6621ab97d1faa9deee05fa", func := "loop.example/g03310/laws.FnExactOnTray", spec := "fnExactOnTray", apart := false }
def FnExactOnTraySaid : Prop := fnExactOnTrayRow.holds Try.pinned (OpenSpec.ofChange fnExactOnTraySpec)

/-- ITS FALSE NEIGHBOUR: 'it returns false'. Refute it at one input. -/
def fnExactOnTrayWrong : ChangeSpec := { name := "fnExactOnTray", fn := fun _ => fun
  | [d1, d2, d3, d4, d5] => { results := [.lit (.bool false)], args := [d1, d2, d3, d4, d5] }
  | _ => none }
def FnExactOnTrayWrongFalsely : Prop := fnExactOnTrayRow.holds Try.pinned (OpenSpec.ofChange fnExactOnTrayWrong)

/-- 'laws.FnExactCountFoldings': WHATEVER THE INPUT: true; the input reads as it did. -/
def fnExactCountFoldingsSpec : ChangeSpec := { name := "fnExactCountFoldings", fn := fun _ => fun
  | [d] => { results := [.lit (.bool true)], args := [d] }
  | _ => none }
def fnExactCountFoldingsRow : OpenClaim := { program := "ytnhkneicepmiiaa", sum := "c9e6a0e9c40156cb15581d0cd4291a27157aa602ef6621ab97d1faa9deee05fa", func := "loop.example/g03310/laws.FnExactCountFoldings", spec := "fnExactCountFoldings", recurses := true, apart := false }
def FnExactCountFoldingsSaid : Prop := fnExactCountFoldingsRow.holds Try.pinned (OpenSpec.ofChange fnExactCountFoldingsSpec)

/-- ITS FALSE NEIGHBOUR: 'it returns false'. Refute it at one input. -/
def fnExactCountFoldingsWrong : ChangeSpec := { name := "fnExactCountFoldings", fn := fun _ => fun
  | [d] => { results := [.lit (.bool false)], args := [d] }
  | _ => none }
def FnExactCountFoldingsWrongFalsely : Prop := fnExactCountFoldingsRow.holds Try.pinned (OpenSpec.ofChange fnExactCountFoldingsWrong)

/-- 'laws.FnExactWidestGap': WHATEVER THE INPUT: true; the input reads as it did. -/
def fnExactWidestGapSpec : ChangeSpec := { name := "fnExactWidestGap", fn := fun _ => fun
  | [d1, d2, d3] => { results := [.lit (.bool true)], args := [d1, d2, d3] }
  | _ => none }
def fnExactWidestGapRow : OpenClaim := { program := "ytnhkneicepmiiaa", sum := "c9e6a0e9c40156cb15581d0cd4291a27157aa602ef6621ab97d1faa9deee05fa", func := "loop.example/g03310/laws.FnExactWidestGap", spec := "fnExactWidestGap", apart := false }
def FnExactWidestGapSaid : Prop := fnExactWidestGapRow.holds Try.pinned (OpenSpec.ofChange fnExactWidestGapSpec)

/-- ITS FALSE NEIGHBOUR: 'it returns false'. Refute it at one input. -/
def fnExactWidestGapWrong : ChangeSpec := { name := "fnExactWidestGap", fn := fun _ => fun
  | [d1, d2, d3] => { results := [.lit (.bool false)], args := [d1, d2, d3] }
  | _ => none }
def FnExactWidestGapWrongFalsely : Prop := fnExactWidestGapRow.holds Try.pinned (OpenSpec.ofChange fnExactWidestGapWrong)

/-- 'laws.FnExactTraysFor': WHATEVER THE INPUT: true; the input reads as it did. -/
def fnExactTraysForSpec : ChangeSpec := { name := "fnExactTraysFor", fn := fun _ => fun
  | [d1, d2, d3, d4, d5, d6] => { results := [.lit (.bool true)], args := [d1, d2, d3, d4, d5, d6] }
  | _ => none }
def fnExactTraysForRow : OpenClaim := { program := "ytnhkneicepmiiaa", sum := "c9e6a0e9c40156cb15581d0cd4291a27157aa602ef6621ab97d1faa9deee05fa", func := "loop.example/g03310/laws.FnExactTraysFor", spec := "fnExactTraysFor", apart := false }
def FnExactTraysForSaid : Prop := fnExactTraysForRow.holds Try.pinned (OpenSpec.ofChange fnExactTraysForSpec)

/-- ITS FALSE NEIGHBOUR: 'it returns false'. Refute it at one input. -/
def fnExactTraysForWrong : ChangeSpec := { name := "fnExactTraysFor", fn := fun _ => fun
  | [d1, d2, d3, d4, d5, d6] => { results := [.lit (.bool false)], args := [d1, d2, d3, d4, d5, d6] }
  | _ => none }
def FnExactTraysForWrongFalsely : Prop := fnExactTraysForRow.holds Try.pinned (OpenSpec.ofChange fnExactTraysForWrong)

/-- 'laws.FnExactClosestLayers': WHATEVER THE INPUT: true; the input reads as it did. -/
def fnExactClosestLayersSpec : ChangeSpec := { name := "fnExactClosestLayers", fn := fun _ => fun
  | [d1, d2] => { results := [.lit (.bool true)], args := [d1, d2] }
  | _ => none }
def fnExactClosestLayersRow : OpenClaim := { program := "ytnhkneicepmiiaa", sum := "c9e6a0e9c40156cb15581d0cd4291a27157aa602ef6621ab97d1faa9deee05fa", func := "loop.example/g03310/laws.FnExactClosestLayers", spec := "fnExactClosestLayers", apart := false }
def FnExactClosestLayersSaid : Prop := fnExactClosestLayersRow.holds Try.pinned (OpenSpec.ofChange fnExactClosestLayersSpec)

/-- ITS FALSE NEIGHBOUR: 'it returns false'. Refute it at one input. -/
def fnExactClosestLayersWrong : ChangeSpec := { name := "fnExactClosestLayers", fn := fun _ => fun
  | [d1, d2] => { results := [.lit (.bool false)], args := [d1, d2] }
  | _ => none }
def FnExactClosestLayersWrongFalsely : Prop := fnExactClosestLayersRow.holds Try.pinned (OpenSpec.ofChange fnExactClosestLayersWrong)

/-- 'laws.FnExactEqualPieces': WHATEVER THE INPUT: true; the input reads as it did. -/
def fnExactEqualPiecesSpec : ChangeSpec := { name := "fnExactEqualPieces", fn := fun _ => fun
  | [d1, d2] => { results := [.lit (.bool true)], args := [d1, d2] }
  | _ => none }
def fnExactEqualPiecesRow : OpenClaim := { program := "ytnhkneicepmiiaa", sum := "c9e6a0e9c40156cb15581d0cd4291a27157aa602ef6621ab97d1faa9deee05fa", func := "loop.example/g03310/laws.FnExactEqualPieces", spec := "fnExactEqualPieces", apart := false }
def FnExactEqualPiecesSaid : Prop := fnExactEqualPiecesRow.holds Try.pinned (OpenSpec.ofChange fnExactEqualPiecesSpec)

/-- ITS FALSE NEIGHBOUR: 'it returns false'. Refute it at one input. -/
def fnExactEqualPiecesWrong : ChangeSpec := { name := "fnExactEqualPieces", fn := fun _ => fun
  | [d1, d2] => { results := [.lit (.bool false)], args := [d1, d2] }
  | _ => none }
def FnExactEqualPiecesWrongFalsely : Prop := fnExactEqualPiecesRow.holds Try.pinned (OpenSpec.ofChange fnExactEqualPiecesWrong)

/-- 'laws.FnExactOddsOk': WHATEVER THE INPUT: true; the input reads as it did. -/
def fnExactOddsOkSpec : ChangeSpec := { name := "fnExactOddsOk", fn := fun _ => fun
  | [d] => { results := [.lit (.bool true)], args := [d] }
  | _ => none }
def fnExactOddsOkRow : OpenClaim := { program := "ytnhkneicepmiiaa", sum := "c9e6a0e9c40156cb15581d0cd4291a27157aa602ef6621ab97d1faa9deee05fa", func := "loop.example/g03310/laws.FnExactOddsOk", spec := "fnExactOddsOk", apart := false }
def FnExactOddsOkSaid : Prop := fnExactOddsOkRow.holds Try.pinned (OpenSpec.ofChange fnExactOddsOkSpec)

/-- ITS FALSE NEIGHBOUR: 'it returns false'. Refute it at one input. -/
def fnExactOddsOkWrong : ChangeSpec := { name := "fnExactOddsOk", fn := fun _ => fun
  | [d] => { results := [.lit (.bool false)], args := [d] }
  | _ => none }
def FnExactOddsOkWrongFalsely : Prop := fnExactOddsOkRow.holds Try.pinned (OpenSpec.ofChange fnExactOddsOkWrong)

/-- 'laws.FnExactPlacesOf': WHATEVER THE INPUT: true; the input reads as it did. -/
def fnExactPlacesOfSpec : ChangeSpec := { name := "fnExactPlacesOf", fn := fun _ => fun
  | [d1, d2, d3] => { results := [.lit (.bool true)], args := [d1, d2, d3] }
  | _ => none }
def fnExactPlacesOfRow : OpenClaim := { program := "ytnhkneicepmiiaa", sum := "c9e6a0e9c40156cb15581d0cd4291a27157aa602ef6621ab97d1faa9deee05fa", func := "loop.example/g03310/laws.FnExactPlacesOf", spec := "fnExactPlacesOf", apart := false }
def FnExactPlacesOfSaid : Prop := fnExactPlacesOfRow.holds Try.pinned (OpenSpec.ofChange fnExactPlacesOfSpec)

/-- ITS FALSE NEIGHBOUR: 'it returns false'. Refute it at one input. -/
def fnExactPlacesOfWrong : ChangeSpec := { name := "fnExactPlacesOf", fn := fun _ => fun
  | [d1, d2, d3] => { results := [.lit (.bool false)], args := [d1, d2, d3] }
  | _ => none }
def FnExactPlacesOfWrongFalsely : Prop := fnExactPlacesOfRow.holds Try.pinned (OpenSpec.ofChange fnExactPlacesOfWrong)

/-- 'laws.FnExactRackOk': WHATEVER THE INPUT: true; the input reads as it did. -/
def fnExactRackOkSpec : ChangeSpec := { name := "fnExactRackOk", fn := fun _ => fun
  | [d] => { results := [.lit (.bool true)], args := [d] }
  | _ => none }
def fnExactRackOkRow : OpenClaim := { program := "ytnhkneicepmiiaa", sum := "c9e6a0e9c40156cb15581d0cd4291a27157aa602ef6621ab97d1faa9deee05fa", func := "loop.example/g03310/laws.FnExactRackOk", spec := "fnExactRackOk", unfollowed := true, recurses := true, apart := false }
def FnExactRackOkSaid : Prop := fnExactRackOkRow.holds Try.pinned (OpenSpec.ofChange fnExactRackOkSpec)

/-- ITS FALSE NEIGHBOUR: 'it returns false'. Refute it at one input. -/
def fnExactRackOkWrong : ChangeSpec := { name := "fnExactRackOk", fn := fun _ => fun
  | [d] => { results := [.lit (.bool false)], args := [d] }
  | _ => none }
def FnExactRackOkWrongFalsely : Prop := fnExactRackOkRow.holds Try.pinned (OpenSpec.ofChange fnExactRackOkWrong)

/-- 'laws.FnTrays': WHATEVER THE INPUT: true; the input reads as it did. -/
def fnTraysSpec : ChangeSpec := { name := "fnTrays", fn := fun _ => fun
  | [d] => { results := [.lit (.bool true)], args := [d] }
  | _ => none }
def fnTraysRow : OpenClaim := { program := "ytnhkneicepmiiaa", sum := "c9e6a0e9c40156cb15581d0cd4291a27157aa602ef6621ab97d1faa9deee05fa", func := "loop.example/g03310/laws.FnTrays", spec := "fnTrays", apart := false }
def FnTraysSaid : Prop := fnTraysRow.holds Try.pinned (OpenSpec.ofChange fnTraysSpec)

/-- ITS FALSE NEIGHBOUR: 'it returns false'. Refute it at one input. -/
def fnTraysWrong : ChangeSpec := { name := "fnTrays", fn := fun _ => fun
  | [d] => { results := [.lit (.bool false)], args := [d] }
  | _ => none }
def FnTraysWrongFalsely : Prop := fnTraysRow.holds Try.pinned (OpenSpec.ofChange fnTraysWrong)

/- THE SECOND FORM. 'bulk': how many values and letters a reading holds, each counted each time it is reached (what is shared counts as often as it is met; a slice's spare places count too). A statement '..UptoSaid' is the law's where the arguments, and the package variables that the reading takes, are together of bulk at most 1048576: NARROWER than '..Said'. Prove '..Said' where nothing that the law and all that it calls make is longer than what came in: it says more and counts as full. Else prove '..UptoSaid'. A law counts once. -/
mutual
def uptoBulk {H : Type} : DataW H → Nat
  | .lit (.string bytes) => bytes.length + 1
  | .lit _ => 1
  | .nil => 1
  | .ptr d => uptoBulk d + 1
  | .slice elems spare => uptoBulkAll elems + uptoBulkAll spare + 1
  | .agg parts => uptoBulkAll parts + 1
  | .iface _ d => uptoBulk d + 1
  | .map entries => uptoBulkEntries entries + 1
  | .held _ => 1
def uptoBulkAll {H : Type} : List (DataW H) → Nat
  | [] => 0
  | d :: r => uptoBulk d + uptoBulkAll r
def uptoBulkEntries {H : Type} : List (Lit × DataW H) → Nat
  | [] => 0
  | x :: r => uptoBulkEntry x + uptoBulkEntries r
def uptoBulkEntry {H : Type} : Lit × DataW H → Nat
  | (.string bytes, d) => bytes.length + uptoBulk d + 1
  | (_, d) => uptoBulk d + 1
 end
def uptoSmall : (H : Type) → List (DataW H) → Bool := fun _ ds => decide (uptoBulkAll ds ≤ 1048576)
def OpenSpec.upto (s : _root_.Go.ChangeSpec) : _root_.Go.OpenSpec := { _root_.Go.OpenSpec.ofChange s with cond := some uptoSmall }

/-- 'laws.FnExactRowsFor', WHERE WHAT IT READS IS OF BULK AT MOST 1048576: true; the input reads as it did. -/
def fnExactRowsForUptoRow : OpenClaim := { program := "ytnhkneicepmiiaa", sum := "c9e6a0e9c40156cb15581d0cd4291a27157aa602ef6621ab97d1faa9deee05fa", func := "loop.example/g03310/laws.FnExactRowsFor", spec := "fnExactRowsFor", apart := false, narrowed := true }
def FnExactRowsForUptoSaid : Prop := fnExactRowsForUptoRow.holds Try.pinned (OpenSpec.upto fnExactRowsForSpec)

/-- 'laws.FnExactBreadOk', WHERE WHAT IT READS IS OF BULK AT MOST 1048576: true; the input reads as it did. -/
def fnExactBreadOkUptoRow : OpenClaim := { program := "ytnhkneicepmiiaa", sum := "c9e6a0e9c40156cb15581d0cd4291a27157aa602ef6621ab97d1faa9deee05fa", func := "loop.example/g03310/laws.FnExactBreadOk", spec := "fnExactBreadOk", apart := false, narrowed := true }
def FnExactBreadOkUptoSaid : Prop := fnExactBreadOkUptoRow.holds Try.pinned (OpenSpec.upto fnExactBreadOkSpec)

/-- 'laws.FnExactOnTray', WHERE WHAT IT READS IS OF BULK AT MOST 1048576: true; the input reads as it did. -/
def fnExactOnTrayUptoRow : OpenClaim := { program := "ytnhkneicepmiiaa", sum := "c9e6a0e9c40156cb15581d0cd4291a27157aa602ef6621ab97d1faa9deee05fa", func := "loop.example/g03310/laws.FnExactOnTray", spec := "fnExactOnTray", apart := false, narrowed := true }
def FnExactOnTrayUptoSaid : Prop := fnExactOnTrayUptoRow.holds Try.pinned (OpenSpec.upto fnExactOnTraySpec)

/-- 'laws.FnExactCountFoldings', WHERE WHAT IT READS IS OF BULK AT MOST 1048576: true; the input reads as it did. -/
def fnExactCountFoldingsUptoRow : OpenClaim := { program := "ytnhkneicepmiiaa", sum := "c9e6a0e9c40156cb15581d0cd4291a27157aa602ef6621ab97d1faa9deee05fa", func := "loop.example/g03310/laws.FnExactCountFoldings", spec := "fnExactCountFoldings", recurses := true, apart := false, narrowed := true }
def FnExactCountFoldingsUptoSaid : Prop := fnExactCountFoldingsUptoRow.holds Try.pinned (OpenSpec.upto fnExactCountFoldingsSpec)

/-- 'laws.FnExactWidestGap', WHERE WHAT IT READS IS OF BULK AT MOST 1048576: true; the input reads as it did. -/
def fnExactWidestGapUptoRow : OpenClaim := { program := "ytnhkneicepmiiaa", sum := "c9e6a0e9c40156cb15581d0cd4291a27157aa602ef6621ab97d1faa9deee05fa", func := "loop.example/g03310/laws.FnExactWidestGap", spec := "fnExactWidestGap", apart := false, narrowed := true }
def FnExactWidestGapUptoSaid : Prop := fnExactWidestGapUptoRow.holds Try.pinned (OpenSpec.upto fnExactWidestGapSpec)

/-- 'laws.FnExactTraysFor', WHERE WHAT IT READS IS OF BULK AT MOST 1048576: true; the input reads as it did. -/
def fnExactTraysForUptoRow : OpenClaim := { program := "ytnhkneicepmiiaa", sum := "c9e6a0e9c40156cb15581d0cd4291a27157aa602ef6621ab97d1faa9deee05fa", func := "loop.example/g03310/laws.FnExactTraysFor", spec := "fnExactTraysFor", apart := false, narrowed := true }
def FnExactTraysForUptoSaid : Prop := fnExactTraysForUptoRow.holds Try.pinned (OpenSpec.upto fnExactTraysForSpec)

/-- 'laws.FnExactClosestLayers', WHERE WHAT IT READS IS OF BULK AT MOST 1048576: true; the input reads as it did. -/
def fnExactClosestLayersUptoRow : OpenClaim := { program := "ytnhkneicepmiiaa", sum := "c9e6a0e9c40156cb15581d0cd4291a27157aa602ef6621ab97d1faa9deee05fa", func := "loop.example/g03310/laws.FnExactClosestLayers", spec := "fnExactClosestLayers", apart := false, narrowed := true }
def FnExactClosestLayersUptoSaid : Prop := fnExactClosestLayersUptoRow.holds Try.pinned (OpenSpec.upto fnExactClosestLayersSpec)

/-- 'laws.FnExactEqualPieces', WHERE WHAT IT READS IS OF BULK AT MOST 1048576: true; the input reads as it did. -/
def fnExactEqualPiecesUptoRow : OpenClaim := { program := "ytnhkneicepmiiaa", sum := "c9e6a0e9c40156cb15581d0cd4291a27157aa602ef6621ab97d1faa9deee05fa", func := "loop.example/g03310/laws.FnExactEqualPieces", spec := "fnExactEqualPieces", apart := false, narrowed := true }
def FnExactEqualPiecesUptoSaid : Prop := fnExactEqualPiecesUptoRow.holds Try.pinned (OpenSpec.upto fnExactEqualPiecesSpec)

/-- 'laws.FnExactOddsOk', WHERE WHAT IT READS IS OF BULK AT MOST 1048576: true; the input reads as it did. -/
def fnExactOddsOkUptoRow : OpenClaim := { program := "ytnhkneicepmiiaa", sum := "c9e6a0e9c40156cb15581d0cd4291a27157aa602ef6621ab97d1faa9deee05fa", func := "loop.example/g03310/laws.FnExactOddsOk", spec := "fnExactOddsOk", apart := false, narrowed := true }
def FnExactOddsOkUptoSaid : Prop := fnExactOddsOkUptoRow.holds Try.pinned (OpenSpec.upto fnExactOddsOkSpec)

/-- 'laws.FnExactPlacesOf', WHERE WHAT IT READS IS OF BULK AT MOST 1048576: true; the input reads as it did. -/
def fnExactPlacesOfUptoRow : OpenClaim := { program := "ytnhkneicepmiiaa", sum := "c9e6a0e9c40156cb15581d0cd4291a27157aa602ef6621ab97d1faa9deee05fa", func := "loop.example/g03310/laws.FnExactPlacesOf", spec := "fnExactPlacesOf", apart := false, narrowed := true }
def FnExactPlacesOfUptoSaid : Prop := fnExactPlacesOfUptoRow.holds Try.pinned (OpenSpec.upto fnExactPlacesOfSpec)

/-- 'laws.FnExactRackOk', WHERE WHAT IT READS IS OF BULK AT MOST 1048576: true; the input reads as it did. -/
def fnExactRackOkUptoRow : OpenClaim := { program := "ytnhkneicepmiiaa", sum := "c9e6a0e9c40156cb15581d0cd4291a27157aa602ef6621ab97d1faa9deee05fa", func := "loop.example/g03310/laws.FnExactRackOk", spec := "fnExactRackOk", unfollowed := true, recurses := true, apart := false, narrowed := true }
def FnExactRackOkUptoSaid : Prop := fnExactRackOkUptoRow.holds Try.pinned (OpenSpec.upto fnExactRackOkSpec)

/-- 'laws.FnTrays', WHERE WHAT IT READS IS OF BULK AT MOST 1048576: true; the input reads as it did. -/
def fnTraysUptoRow : OpenClaim := { program := "ytnhkneicepmiiaa", sum := "c9e6a0e9c40156cb15581d0cd4291a27157aa602ef6621ab97d1faa9deee05fa", func := "loop.example/g03310/laws.FnTrays", spec := "fnTrays", apart := false, narrowed := true }
def FnTraysUptoSaid : Prop := fnTraysUptoRow.holds Try.pinned (OpenSpec.upto fnTraysSpec)

end Rows
end Go.Proofs.Ytnhkneicepmiiaa
