/-
  No cell of these rows narrows 'for every input' (looked for: loops, veiled, ifaces, maps, wideKeys, modest, calm, conditions, laid).
  DERIVED. THE GIVEN ROWS OF THIS SEAT. 12 by the template 'for every input the law returns true; each argument reads behind the call as it read before'; 0 by the template 'total and deterministic' (their statements: YtbfgllgjniogiaaTotals.lean).
  GIVEN WITH THE SEED: the statements are not yours to turn. If you find one false, say at which input.
  Laid BY PROGRAM, IN A SANDBOX (cutbox-rows.mjs): the forced cells as the released guide's own fill.sh prints them over the translation 5008739d58d18535… (all of the seat's roots in one cut). By AI agents, Wed Nov 11 2026. No macro, syntax, notation, axiom, sorry.
-/
import Derived.Test.YtbfgllgjniogiaaChecked
import GoSem.Claim
import GoSem.ClaimJoined
import GoSem.ClaimMapViews
import Derived.JoinedTies
import Derived.KernelRfl
namespace Go.Proofs.Ytbfgllgjniogiaa
/- THE CELL 'sum', in the pinned program and in every row, IS THE sha256 OF THE DUMP (.gsa) THAT YtbfgllgjniogiaaProg.lean LOADS. Nothing in Lean hashes anything: it is a label: what it is worth is what the hold of that sum in a sandbox is worth. -/
noncomputable def Try.pinned : Pinned := { name := "ytbfgllgjniogiaa", sum := "5008739d58d1853559a43605c76412874345b238c3976f327abbbfba6a4c288d", checked := Try.checked }
namespace Rows
def none {H : Type} : Left H := { results := [], args := [] }

/-- 'laws.FnExactMeanOf': WHATEVER THE INPUT: true; the input reads as it did. -/
def fnExactMeanOfSpec : ChangeSpec := { name := "fnExactMeanOf", fn := fun _ => fun
  | [d1, d2] => { results := [.lit (.bool true)], args := [d1, d2] }
  | _ => none }
def fnExactMeanOfRow : OpenClaim := { program := "ytbfgllgjniogiaa", sum := "5008739d58d1853559a43605c76412874345b238c3976f327abbbfba6a4c288d", func := "loop.example/g03310/laws.FnExactMeanOf", spec := "fnExactMeanOf", unfollowed := true, recurses := true, apart := false }
def FnExactMeanOfSaid : Prop := fnExactMeanOfRow.holds Try.pinned (OpenSpec.ofChange fnExactMeanOfSpec)

/-- ITS FALSE NEIGHBOUR: 'it returns false'. Refute it at one input. -/
def fnExactMeanOfWrong : ChangeSpec := { name := "fnExactMeanOf", fn := fun _ => fun
  | [d1, d2] => { results := [.lit (.bool false)], args := [d1, d2] }
  | _ => none }
def FnExactMeanOfWrongFalsely : Prop := fnExactMeanOfRow.holds Try.pinned (OpenSpec.ofChange fnExactMeanOfWrong)

/-- 'laws.FnExactNextSales': WHATEVER THE INPUT: true; the input reads as it did. -/
def fnExactNextSalesSpec : ChangeSpec := { name := "fnExactNextSales", fn := fun _ => fun
  | [d] => { results := [.lit (.bool true)], args := [d] }
  | _ => none }
def fnExactNextSalesRow : OpenClaim := { program := "ytbfgllgjniogiaa", sum := "5008739d58d1853559a43605c76412874345b238c3976f327abbbfba6a4c288d", func := "loop.example/g03310/laws.FnExactNextSales", spec := "fnExactNextSales", unfollowed := true, recurses := true, apart := false }
def FnExactNextSalesSaid : Prop := fnExactNextSalesRow.holds Try.pinned (OpenSpec.ofChange fnExactNextSalesSpec)

/-- ITS FALSE NEIGHBOUR: 'it returns false'. Refute it at one input. -/
def fnExactNextSalesWrong : ChangeSpec := { name := "fnExactNextSales", fn := fun _ => fun
  | [d] => { results := [.lit (.bool false)], args := [d] }
  | _ => none }
def FnExactNextSalesWrongFalsely : Prop := fnExactNextSalesRow.holds Try.pinned (OpenSpec.ofChange fnExactNextSalesWrong)

/-- 'laws.FnExactIsGrowing': WHATEVER THE INPUT: true; the input reads as it did. -/
def fnExactIsGrowingSpec : ChangeSpec := { name := "fnExactIsGrowing", fn := fun _ => fun
  | [d] => { results := [.lit (.bool true)], args := [d] }
  | _ => none }
def fnExactIsGrowingRow : OpenClaim := { program := "ytbfgllgjniogiaa", sum := "5008739d58d1853559a43605c76412874345b238c3976f327abbbfba6a4c288d", func := "loop.example/g03310/laws.FnExactIsGrowing", spec := "fnExactIsGrowing", unfollowed := true, recurses := true, apart := false }
def FnExactIsGrowingSaid : Prop := fnExactIsGrowingRow.holds Try.pinned (OpenSpec.ofChange fnExactIsGrowingSpec)

/-- ITS FALSE NEIGHBOUR: 'it returns false'. Refute it at one input. -/
def fnExactIsGrowingWrong : ChangeSpec := { name := "fnExactIsGrowing", fn := fun _ => fun
  | [d] => { results := [.lit (.bool false)], args := [d] }
  | _ => none }
def FnExactIsGrowingWrongFalsely : Prop := fnExactIsGrowingRow.holds Try.pinned (OpenSpec.ofChange fnExactIsGrowingWrong)

/-- 'laws.FnExactBusiestDay': WHATEVER THE INPUT: true; the input reads as it did. -/
def fnExactBusiestDaySpec : ChangeSpec := { name := "fnExactBusiestDay", fn := fun _ => fun
  | [d] => { results := [.lit (.bool true)], args := [d] }
  | _ => none }
def fnExactBusiestDayRow : OpenClaim := { program := "ytbfgllgjniogiaa", sum := "5008739d58d1853559a43605c76412874345b238c3976f327abbbfba6a4c288d", func := "loop.example/g03310/laws.FnExactBusiestDay", spec := "fnExactBusiestDay", unfollowed := true, recurses := true, apart := false }
def FnExactBusiestDaySaid : Prop := fnExactBusiestDayRow.holds Try.pinned (OpenSpec.ofChange fnExactBusiestDaySpec)

/-- ITS FALSE NEIGHBOUR: 'it returns false'. Refute it at one input. -/
def fnExactBusiestDayWrong : ChangeSpec := { name := "fnExactBusiestDay", fn := fun _ => fun
  | [d] => { results := [.lit (.bool false)], args := [d] }
  | _ => none }
def FnExactBusiestDayWrongFalsely : Prop := fnExactBusiestDayRow.holds Try.pinned (OpenSpec.ofChange fnExactBusiestDayWrong)

/-- 'laws.FnExactErrorSum': WHATEVER THE INPUT: true; the input reads as it did. -/
def fnExactErrorSumSpec : ChangeSpec := { name := "fnExactErrorSum", fn := fun _ => fun
  | [d] => { results := [.lit (.bool true)], args := [d] }
  | _ => none }
def fnExactErrorSumRow : OpenClaim := { program := "ytbfgllgjniogiaa", sum := "5008739d58d1853559a43605c76412874345b238c3976f327abbbfba6a4c288d", func := "loop.example/g03310/laws.FnExactErrorSum", spec := "fnExactErrorSum", unfollowed := true, recurses := true, apart := false }
def FnExactErrorSumSaid : Prop := fnExactErrorSumRow.holds Try.pinned (OpenSpec.ofChange fnExactErrorSumSpec)

/-- ITS FALSE NEIGHBOUR: 'it returns false'. Refute it at one input. -/
def fnExactErrorSumWrong : ChangeSpec := { name := "fnExactErrorSum", fn := fun _ => fun
  | [d] => { results := [.lit (.bool false)], args := [d] }
  | _ => none }
def FnExactErrorSumWrongFalsely : Prop := fnExactErrorSumRow.holds Try.pinned (OpenSpec.ofChange fnExactErrorSumWrong)

/-- 'laws.FnForecasts': WHATEVER THE INPUT: true; the input reads as it did. -/
def fnForecastsSpec : ChangeSpec := { name := "fnForecasts", fn := fun _ => fun
  | [d] => { results := [.lit (.bool true)], args := [d] }
  | _ => none }
def fnForecastsRow : OpenClaim := { program := "ytbfgllgjniogiaa", sum := "5008739d58d1853559a43605c76412874345b238c3976f327abbbfba6a4c288d", func := "loop.example/g03310/laws.FnForecasts", spec := "fnForecasts", unfollowed := true, recurses := true, apart := false }
def FnForecastsSaid : Prop := fnForecastsRow.holds Try.pinned (OpenSpec.ofChange fnForecastsSpec)

/-- ITS FALSE NEIGHBOUR: 'it returns false'. Refute it at one input. -/
def fnForecastsWrong : ChangeSpec := { name := "fnForecasts", fn := fun _ => fun
  | [d] => { results := [.lit (.bool false)], args := [d] }
  | _ => none }
def FnForecastsWrongFalsely : Prop := fnForecastsRow.holds Try.pinned (OpenSpec.ofChange fnForecastsWrong)

/-- 'laws.FnExactBadPieces': WHATEVER THE INPUT: true; the input reads as it did. -/
def fnExactBadPiecesSpec : ChangeSpec := { name := "fnExactBadPieces", fn := fun _ => fun
  | [d1, d2, d3] => { results := [.lit (.bool true)], args := [d1, d2, d3] }
  | _ => none }
def fnExactBadPiecesRow : OpenClaim := { program := "ytbfgllgjniogiaa", sum := "5008739d58d1853559a43605c76412874345b238c3976f327abbbfba6a4c288d", func := "loop.example/g03310/laws.FnExactBadPieces", spec := "fnExactBadPieces", unfollowed := true, recurses := true, apart := false }
def FnExactBadPiecesSaid : Prop := fnExactBadPiecesRow.holds Try.pinned (OpenSpec.ofChange fnExactBadPiecesSpec)

/-- ITS FALSE NEIGHBOUR: 'it returns false'. Refute it at one input. -/
def fnExactBadPiecesWrong : ChangeSpec := { name := "fnExactBadPieces", fn := fun _ => fun
  | [d1, d2, d3] => { results := [.lit (.bool false)], args := [d1, d2, d3] }
  | _ => none }
def FnExactBadPiecesWrongFalsely : Prop := fnExactBadPiecesRow.holds Try.pinned (OpenSpec.ofChange fnExactBadPiecesWrong)

/-- 'laws.FnExactBestWant': WHATEVER THE INPUT: true; the input reads as it did. -/
def fnExactBestWantSpec : ChangeSpec := { name := "fnExactBestWant", fn := fun _ => fun
  | [d1, d2] => { results := [.lit (.bool true)], args := [d1, d2] }
  | _ => none }
def fnExactBestWantRow : OpenClaim := { program := "ytbfgllgjniogiaa", sum := "5008739d58d1853559a43605c76412874345b238c3976f327abbbfba6a4c288d", func := "loop.example/g03310/laws.FnExactBestWant", spec := "fnExactBestWant", unfollowed := true, recurses := true, apart := false }
def FnExactBestWantSaid : Prop := fnExactBestWantRow.holds Try.pinned (OpenSpec.ofChange fnExactBestWantSpec)

/-- ITS FALSE NEIGHBOUR: 'it returns false'. Refute it at one input. -/
def fnExactBestWantWrong : ChangeSpec := { name := "fnExactBestWant", fn := fun _ => fun
  | [d1, d2] => { results := [.lit (.bool false)], args := [d1, d2] }
  | _ => none }
def FnExactBestWantWrongFalsely : Prop := fnExactBestWantRow.holds Try.pinned (OpenSpec.ofChange fnExactBestWantWrong)

/-- 'laws.FnExactSpreadOf': WHATEVER THE INPUT: true; the input reads as it did. -/
def fnExactSpreadOfSpec : ChangeSpec := { name := "fnExactSpreadOf", fn := fun _ => fun
  | [d] => { results := [.lit (.bool true)], args := [d] }
  | _ => none }
def fnExactSpreadOfRow : OpenClaim := { program := "ytbfgllgjniogiaa", sum := "5008739d58d1853559a43605c76412874345b238c3976f327abbbfba6a4c288d", func := "loop.example/g03310/laws.FnExactSpreadOf", spec := "fnExactSpreadOf", unfollowed := true, recurses := true, apart := false }
def FnExactSpreadOfSaid : Prop := fnExactSpreadOfRow.holds Try.pinned (OpenSpec.ofChange fnExactSpreadOfSpec)

/-- ITS FALSE NEIGHBOUR: 'it returns false'. Refute it at one input. -/
def fnExactSpreadOfWrong : ChangeSpec := { name := "fnExactSpreadOf", fn := fun _ => fun
  | [d] => { results := [.lit (.bool false)], args := [d] }
  | _ => none }
def FnExactSpreadOfWrongFalsely : Prop := fnExactSpreadOfRow.holds Try.pinned (OpenSpec.ofChange fnExactSpreadOfWrong)

/-- 'laws.FnExactLeastMoves': WHATEVER THE INPUT: true; the input reads as it did. -/
def fnExactLeastMovesSpec : ChangeSpec := { name := "fnExactLeastMoves", fn := fun _ => fun
  | [d] => { results := [.lit (.bool true)], args := [d] }
  | _ => none }
def fnExactLeastMovesRow : OpenClaim := { program := "ytbfgllgjniogiaa", sum := "5008739d58d1853559a43605c76412874345b238c3976f327abbbfba6a4c288d", func := "loop.example/g03310/laws.FnExactLeastMoves", spec := "fnExactLeastMoves", unfollowed := true, recurses := true, apart := false }
def FnExactLeastMovesSaid : Prop := fnExactLeastMovesRow.holds Try.pinned (OpenSpec.ofChange fnExactLeastMovesSpec)

/-- ITS FALSE NEIGHBOUR: 'it returns false'. Refute it at one input. -/
def fnExactLeastMovesWrong : ChangeSpec := { name := "fnExactLeastMoves", fn := fun _ => fun
  | [d] => { results := [.lit (.bool false)], args := [d] }
  | _ => none }
def FnExactLeastMovesWrongFalsely : Prop := fnExactLeastMovesRow.holds Try.pinned (OpenSpec.ofChange fnExactLeastMovesWrong)

/-- 'laws.FnDivisions': WHATEVER THE INPUT: true; the input reads as it did. -/
def fnDivisionsSpec : ChangeSpec := { name := "fnDivisions", fn := fun _ => fun
  | [d] => { results := [.lit (.bool true)], args := [d] }
  | _ => none }
def fnDivisionsRow : OpenClaim := { program := "ytbfgllgjniogiaa", sum := "5008739d58d1853559a43605c76412874345b238c3976f327abbbfba6a4c288d", func := "loop.example/g03310/laws.FnDivisions", spec := "fnDivisions", unfollowed := true, recurses := true, apart := false }
def FnDivisionsSaid : Prop := fnDivisionsRow.holds Try.pinned (OpenSpec.ofChange fnDivisionsSpec)

/-- ITS FALSE NEIGHBOUR: 'it returns false'. Refute it at one input. -/
def fnDivisionsWrong : ChangeSpec := { name := "fnDivisions", fn := fun _ => fun
  | [d] => { results := [.lit (.bool false)], args := [d] }
  | _ => none }
def FnDivisionsWrongFalsely : Prop := fnDivisionsRow.holds Try.pinned (OpenSpec.ofChange fnDivisionsWrong)

/-- 'laws.FnExactTracesAfter': WHATEVER THE INPUT: true; the input reads as it did. -/
def fnExactTracesAfterSpec : ChangeSpec := { name := "fnExactTracesAfter", fn := fun _ => fun
  | [d1, d2] => { results := [.lit (.bool true)], args := [d1, d2] }
  | _ => none }
def fnExactTracesAfterRow : OpenClaim := { program := "ytbfgllgjniogiaa", sum := "5008739d58d1853559a43605c76412874345b238c3976f327abbbfba6a4c288d", func := "loop.example/g03310/laws.FnExactTracesAfter", spec := "fnExactTracesAfter", unfollowed := true, recurses := true, apart := false }
def FnExactTracesAfterSaid : Prop := fnExactTracesAfterRow.holds Try.pinned (OpenSpec.ofChange fnExactTracesAfterSpec)

/-- ITS FALSE NEIGHBOUR: 'it returns false'. Refute it at one input. -/
def fnExactTracesAfterWrong : ChangeSpec := { name := "fnExactTracesAfter", fn := fun _ => fun
  | [d1, d2] => { results := [.lit (.bool false)], args := [d1, d2] }
  | _ => none }
def FnExactTracesAfterWrongFalsely : Prop := fnExactTracesAfterRow.holds Try.pinned (OpenSpec.ofChange fnExactTracesAfterWrong)

/- THE SECOND FORM. 'bulk': how many values and letters a reading holds, each counted each time it is reached (what is shared counts as often as it is met; a slice's spare places count too). A statement '..UptoSaid' is the law's where the arguments, and the package variables that the reading takes, are together of bulk at most 1048576: NARROWER than '..Said'. Prove '..Said' where nothing that the law and all that it calls make is longer than what came in: it says more and counts as full. Else prove '..UptoSaid'. A law counts once. -/
mutual
def uptoBulk {H : Type} : DataW H → Nat
  | .lit (.string bytes) => bytes.length + 1
  | .lit _ => 1
  | .nil => 1
  | .ptr d => uptoBulk d + 1
  | .slice elems spare => uptoBulkAll elems + uptoBulkAll spare + 1
  | .agg parts => uptoBulkAll parts + 1
  | .iface _ d => uptoBulk d + 1
  | .map entries => uptoBulkEntries entries + 1
  | .held _ => 1
def uptoBulkAll {H : Type} : List (DataW H) → Nat
  | [] => 0
  | d :: r => uptoBulk d + uptoBulkAll r
def uptoBulkEntries {H : Type} : List (Lit × DataW H) → Nat
  | [] => 0
  | x :: r => uptoBulkEntry x + uptoBulkEntries r
def uptoBulkEntry {H : Type} : Lit × DataW H → Nat
  | (.string bytes, d) => bytes.length + uptoBulk d + 1
  | (_, d) => uptoBulk d + 1
 end
def uptoSmall : (H : Type) → List (DataW H) → Bool := fun _ ds => decide (uptoBulkAll ds ≤ 1048576)
def OpenSpec.upto (s : _root_.Go.ChangeSpec) : _root_.Go.OpenSpec := { _root_.Go.OpenSpec.ofChange s with cond := some uptoSmall }

/-- 'laws.FnExactMeanOf', WHERE WHAT IT READS IS OF BULK AT MOST 1048576: true; the input reads as it did. -/
def fnExactMeanOfUptoRow : OpenClaim := { program := "ytbfgllgjniogiaa", sum := "5008739d58d1853559a43605c76412874345b238c3976f327abbbfba6a4c288d", func := "loop.example/g03310/laws.FnExactMeanOf", spec := "fnExactMeanOf", unfollowed := true, recurses := true, apart := false, narrowed := true }
def FnExactMeanOfUptoSaid : Prop := fnExactMeanOfUptoRow.holds Try.pinned (OpenSpec.upto fnExactMeanOfSpec)

/-- 'laws.FnExactNextSales', WHERE WHAT IT READS IS OF BULK AT MOST 1048576: true; the input reads as it did. -/
def fnExactNextSalesUptoRow : OpenClaim := { program := "ytbfgllgjniogiaa", sum := "5008739d58d1853559a43605c76412874345b238c3976f327abbbfba6a4c288d", func := "loop.example/g03310/laws.FnExactNextSales", spec := "fnExactNextSales", unfollowed := true, recurses := true, apart := false, narrowed := true }
def FnExactNextSalesUptoSaid : Prop := fnExactNextSalesUptoRow.holds Try.pinned (OpenSpec.upto fnExactNextSalesSpec)

/-- 'laws.FnExactIsGrowing', WHERE WHAT IT READS IS OF BULK AT MOST 1048576: true; the input reads as it did. -/
def fnExactIsGrowingUptoRow : OpenClaim := { program := "ytbfgllgjniogiaa", sum := "5008739d58d1853559a43605c76412874345b238c3976f327abbbfba6a4c288d", func := "loop.example/g03310/laws.FnExactIsGrowing", spec := "fnExactIsGrowing", unfollowed := true, recurses := true, apart := false, narrowed := true }
def FnExactIsGrowingUptoSaid : Prop := fnExactIsGrowingUptoRow.holds Try.pinned (OpenSpec.upto fnExactIsGrowingSpec)

/-- 'laws.FnExactBusiestDay', WHERE WHAT IT READS IS OF BULK AT MOST 1048576: true; the input reads as it did. -/
def fnExactBusiestDayUptoRow : OpenClaim := { program := "ytbfgllgjniogiaa", sum := "5008739d58d1853559a43605c76412874345b238c3976f327abbbfba6a4c288d", func := "loop.example/g03310/laws.FnExactBusiestDay", spec := "fnExactBusiestDay", unfollowed := true, recurses := true, apart := false, narrowed := true }
def FnExactBusiestDayUptoSaid : Prop := fnExactBusiestDayUptoRow.holds Try.pinned (OpenSpec.upto fnExactBusiestDaySpec)

/-- 'laws.FnExactErrorSum', WHERE WHAT IT READS IS OF BULK AT MOST 1048576: true; the input reads as it did. -/
def fnExactErrorSumUptoRow : OpenClaim := { program := "ytbfgllgjniogiaa", sum := "5008739d58d1853559a43605c76412874345b238c3976f327abbbfba6a4c288d", func := "loop.example/g03310/laws.FnExactErrorSum", spec := "fnExactErrorSum", unfollowed := true, recurses := true, apart := false, narrowed := true }
def FnExactErrorSumUptoSaid : Prop := fnExactErrorSumUptoRow.holds Try.pinned (OpenSpec.upto fnExactErrorSumSpec)

/-- 'laws.FnForecasts', WHERE WHAT IT READS IS OF BULK AT MOST 1048576: true; the input reads as it did. -/
def fnForecastsUptoRow : OpenClaim := { program := "ytbfgllgjniogiaa", sum := "5008739d58d1853559a43605c76412874345b238c3976f327abbbfba6a4c288d", func := "loop.example/g03310/laws.FnForecasts", spec := "fnForecasts", unfollowed := true, recurses := true, apart := false, narrowed := true }
def FnForecastsUptoSaid : Prop := fnForecastsUptoRow.holds Try.pinned (OpenSpec.upto fnForecastsSpec)

/-- 'laws.FnExactBadPieces', WHERE WHAT IT READS IS OF BULK AT MOST 1048576: true; the input reads as it did. -/
def fnExactBadPiecesUptoRow : OpenClaim := { program := "ytbfgllgjniogiaa", sum := "5008739d58d1853559a43605c76412874345b238c3976f327abbbfba6a4c288d", func := "loop.example/g03310/laws.FnExactBadPieces", spec := "fnExactBadPieces", unfollowed := true, recurses := true, apart := false, narrowed := true }
def FnExactBadPiecesUptoSaid : Prop := fnExactBadPiecesUptoRow.holds Try.pinned (OpenSpec.upto fnExactBadPiecesSpec)

/-- 'laws.FnExactBestWant', WHERE WHAT IT READS IS OF BULK AT MOST 1048576: true; the input reads as it did. -/
def fnExactBestWantUptoRow : OpenClaim := { program := "ytbfgllgjniogiaa", sum := "5008739d58d1853559a43605c76412874345b238c3976f327abbbfba6a4c288d", func := "loop.example/g03310/laws.FnExactBestWant", spec := "fnExactBestWant", unfollowed := true, recurses := true, apart := false, narrowed := true }
def FnExactBestWantUptoSaid : Prop := fnExactBestWantUptoRow.holds Try.pinned (OpenSpec.upto fnExactBestWantSpec)

/-- 'laws.FnExactSpreadOf', WHERE WHAT IT READS IS OF BULK AT MOST 1048576: true; the input reads as it did. -/
def fnExactSpreadOfUptoRow : OpenClaim := { program := "ytbfgllgjniogiaa", sum := "5008739d58d1853559a43605c76412874345b238c3976f327abbbfba6a4c288d", func := "loop.example/g03310/laws.FnExactSpreadOf", spec := "fnExactSpreadOf", unfollowed := true, recurses := true, apart := false, narrowed := true }
def FnExactSpreadOfUptoSaid : Prop := fnExactSpreadOfUptoRow.holds Try.pinned (OpenSpec.upto fnExactSpreadOfSpec)

/-- 'laws.FnExactLeastMoves', WHERE WHAT IT READS IS OF BULK AT MOST 1048576: true; the input reads as it did. -/
def fnExactLeastMovesUptoRow : OpenClaim := { program := "ytbfgllgjniogiaa", sum := "5008739d58d1853559a43605c76412874345b238c3976f327abbbfba6a4c288d", func := "loop.example/g03310/laws.FnExactLeastMoves", spec := "fnExactLeastMoves", unfollowed := true, recurses := true, apart := false, narrowed := true }
def FnExactLeastMovesUptoSaid : Prop := fnExactLeastMovesUptoRow.holds Try.pinned (OpenSpec.upto fnExactLeastMovesSpec)

/-- 'laws.FnDivisions', WHERE WHAT IT READS IS OF BULK AT MOST 1048576: true; the input reads as it did. -/
def fnDivisionsUptoRow : OpenClaim := { program := "ytbfgllgjniogiaa", sum := "5008739d58d1853559a43605c76412874345b238c3976f327abbbfba6a4c288d", func := "loop.example/g03310/laws.FnDivisions", spec := "fnDivisions", unfollowed := true, recurses := true, apart := false, narrowed := true }
def FnDivisionsUptoSaid : Prop := fnDivisionsUptoRow.holds Try.pinned (OpenSpec.upto fnDivisionsSpec)

/-- 'laws.FnExactTracesAfter', WHERE WHAT IT READS IS OF BULK AT MOST 1048576: true; the input reads as it did. -/
def fnExactTracesAfterUptoRow : OpenClaim := { program := "ytbfgllgjniogiaa", sum := "5008739d58d1853559a43605c76412874345b238c3976f327abbbfba6a4c288d", func := "loop.example/g03310/laws.FnExactTracesAfter", spec := "fnExactTracesAfter", unfollowed := true, recurses := true, apart := false, narrowed := true }
def FnExactTracesAfterUptoSaid : Prop := fnExactTracesAfterUptoRow.holds Try.pinned (OpenSpec.upto fnExactTracesAfterSpec)

end Rows
end Go.Proofs.Ytbfgllgjniogiaa
