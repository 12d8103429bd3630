/-
  No cell of these rows narrows 'for every input' (looked for: loops, veiled, ifaces, maps, wideKeys, modest, calm, conditions, laid).
  DERIVED. THE GIVEN ROWS OF THIS SEAT. 12 by the template 'for every input the law returns true; each argument reads behind the call as it read before'; 0 by the template 'total and deterministic' (their statements: YtkcfpkokgpimaaaTotals.lean).
  GIVEN WITH THE SEED: the statements are not yours to turn. If you find one false, say at which input.
  Laid BY PROGRAM, IN A SANDBOX (cutbox-rows.mjs): the forced cells as the released guide's own fill.sh prints them over the translation d54311865ca95adf… (all of the seat's roots in one cut). By AI agents, Wed Nov 11 2026. No macro, syntax, notation, axiom, sorry.
-/
import Derived.Test.YtkcfpkokgpimaaaChecked
import GoSem.Claim
import GoSem.ClaimJoined
import GoSem.ClaimMapViews
import Derived.JoinedTies
import Derived.KernelRfl
namespace Go.Proofs.Ytkcfpkokgpimaaa
/- THE CELL 'sum', in the pinned program and in every row, IS THE sha256 OF THE DUMP (.gsa) THAT YtkcfpkokgpimaaaProg.lean LOADS. Nothing in Lean hashes anything: it is a label: what it is worth is what the hold of that sum in a sandbox is worth. -/
noncomputable def Try.pinned : Pinned := { name := "ytkcfpkokgpimaaa", sum := "d54311865ca95adff87d56d08df1a30ebe42d2b9a22d8a178933d05ae8fc4cbf", checked := Try.checked }
namespace Rows
def none {H : Type} : Left H := { results := [], args := [] }

/-- 'laws.FnExactNeedsNoCleaning': WHATEVER THE INPUT: true; the input reads as it did. -/
def fnExactNeedsNoCleaningSpec : ChangeSpec := { name := "fnExactNeedsNoCleaning", fn := fun _ => fun
  | [d] => { results := [.lit (.bool true)], args := [d] }
  | _ => none }
def fnExactNeedsNoCleaningRow : OpenClaim := { program := "ytkcfpkokgpimaaa", sum := "d54311865ca95adff87d56d08df1a30ebe42d2b9a22d8a178933d05ae8fc4cbf", func := "loop.example/g03310/laws.FnExactNeedsNoCleaning", spec := "fnExactNeedsNoCleaning", unfollowed := true, recurses := true, apart := false }
def FnExactNeedsNoCleaningSaid : Prop := fnExactNeedsNoCleaningRow.holds Try.pinned (OpenSpec.ofChange fnExactNeedsNoCleaningSpec)

/-- ITS FALSE NEIGHBOUR: 'it returns false'. Refute it at one input. -/
def fnExactNeedsNoCleaningWrong : ChangeSpec := { name := "fnExactNeedsNoCleaning", fn := fun _ => fun
  | [d] => { results := [.lit (.bool false)], args := [d] }
  | _ => none }
def FnExactNeedsNoCleaningWrongFalsely : Prop := fnExactNeedsNoCleaningRow.holds Try.pinned (OpenSpec.ofChange fnExactNeedsNoCleaningWrong)

/-- 'laws.FnExactDayCost': WHATEVER THE INPUT: true; the input reads as it did. -/
def fnExactDayCostSpec : ChangeSpec := { name := "fnExactDayCost", fn := fun _ => fun
  | [d1, d2] => { results := [.lit (.bool true)], args := [d1, d2] }
  | _ => none }
def fnExactDayCostRow : OpenClaim := { program := "ytkcfpkokgpimaaa", sum := "d54311865ca95adff87d56d08df1a30ebe42d2b9a22d8a178933d05ae8fc4cbf", func := "loop.example/g03310/laws.FnExactDayCost", spec := "fnExactDayCost", unfollowed := true, recurses := true, apart := false }
def FnExactDayCostSaid : Prop := fnExactDayCostRow.holds Try.pinned (OpenSpec.ofChange fnExactDayCostSpec)

/-- ITS FALSE NEIGHBOUR: 'it returns false'. Refute it at one input. -/
def fnExactDayCostWrong : ChangeSpec := { name := "fnExactDayCost", fn := fun _ => fun
  | [d1, d2] => { results := [.lit (.bool false)], args := [d1, d2] }
  | _ => none }
def FnExactDayCostWrongFalsely : Prop := fnExactDayCostRow.holds Try.pinned (OpenSpec.ofChange fnExactDayCostWrong)

/-- 'laws.FnExactBestDay': WHATEVER THE INPUT: true; the input reads as it did. -/
def fnExactBestDaySpec : ChangeSpec := { name := "fnExactBestDay", fn := fun _ => fun
  | [d] => { results := [.lit (.bool true)], args := [d] }
  | _ => none }
def fnExactBestDayRow : OpenClaim := { program := "ytkcfpkokgpimaaa", sum := "d54311865ca95adff87d56d08df1a30ebe42d2b9a22d8a178933d05ae8fc4cbf", func := "loop.example/g03310/laws.FnExactBestDay", spec := "fnExactBestDay", unfollowed := true, recurses := true, apart := false }
def FnExactBestDaySaid : Prop := fnExactBestDayRow.holds Try.pinned (OpenSpec.ofChange fnExactBestDaySpec)

/-- ITS FALSE NEIGHBOUR: 'it returns false'. Refute it at one input. -/
def fnExactBestDayWrong : ChangeSpec := { name := "fnExactBestDay", fn := fun _ => fun
  | [d] => { results := [.lit (.bool false)], args := [d] }
  | _ => none }
def FnExactBestDayWrongFalsely : Prop := fnExactBestDayRow.holds Try.pinned (OpenSpec.ofChange fnExactBestDayWrong)

/-- 'laws.FnCleanings': WHATEVER THE INPUT: true; the input reads as it did. -/
def fnCleaningsSpec : ChangeSpec := { name := "fnCleanings", fn := fun _ => fun
  | [d] => { results := [.lit (.bool true)], args := [d] }
  | _ => none }
def fnCleaningsRow : OpenClaim := { program := "ytkcfpkokgpimaaa", sum := "d54311865ca95adff87d56d08df1a30ebe42d2b9a22d8a178933d05ae8fc4cbf", func := "loop.example/g03310/laws.FnCleanings", spec := "fnCleanings", unfollowed := true, recurses := true, apart := false }
def FnCleaningsSaid : Prop := fnCleaningsRow.holds Try.pinned (OpenSpec.ofChange fnCleaningsSpec)

/-- ITS FALSE NEIGHBOUR: 'it returns false'. Refute it at one input. -/
def fnCleaningsWrong : ChangeSpec := { name := "fnCleanings", fn := fun _ => fun
  | [d] => { results := [.lit (.bool false)], args := [d] }
  | _ => none }
def FnCleaningsWrongFalsely : Prop := fnCleaningsRow.holds Try.pinned (OpenSpec.ofChange fnCleaningsWrong)

/-- 'laws.FnExactFallingOrder': WHATEVER THE INPUT: true; the input reads as it did. -/
def fnExactFallingOrderSpec : ChangeSpec := { name := "fnExactFallingOrder", fn := fun _ => fun
  | [d] => { results := [.lit (.bool true)], args := [d] }
  | _ => none }
def fnExactFallingOrderRow : OpenClaim := { program := "ytkcfpkokgpimaaa", sum := "d54311865ca95adff87d56d08df1a30ebe42d2b9a22d8a178933d05ae8fc4cbf", func := "loop.example/g03310/laws.FnExactFallingOrder", spec := "fnExactFallingOrder", unfollowed := true, recurses := true, apart := false }
def FnExactFallingOrderSaid : Prop := fnExactFallingOrderRow.holds Try.pinned (OpenSpec.ofChange fnExactFallingOrderSpec)

/-- ITS FALSE NEIGHBOUR: 'it returns false'. Refute it at one input. -/
def fnExactFallingOrderWrong : ChangeSpec := { name := "fnExactFallingOrder", fn := fun _ => fun
  | [d] => { results := [.lit (.bool false)], args := [d] }
  | _ => none }
def FnExactFallingOrderWrongFalsely : Prop := fnExactFallingOrderRow.holds Try.pinned (OpenSpec.ofChange fnExactFallingOrderWrong)

/-- 'laws.FnHeats': WHATEVER THE INPUT: true; the input reads as it did. -/
def fnHeatsSpec : ChangeSpec := { name := "fnHeats", fn := fun _ => fun
  | [d] => { results := [.lit (.bool true)], args := [d] }
  | _ => none }
def fnHeatsRow : OpenClaim := { program := "ytkcfpkokgpimaaa", sum := "d54311865ca95adff87d56d08df1a30ebe42d2b9a22d8a178933d05ae8fc4cbf", func := "loop.example/g03310/laws.FnHeats", spec := "fnHeats", unfollowed := true, recurses := true, apart := false }
def FnHeatsSaid : Prop := fnHeatsRow.holds Try.pinned (OpenSpec.ofChange fnHeatsSpec)

/-- ITS FALSE NEIGHBOUR: 'it returns false'. Refute it at one input. -/
def fnHeatsWrong : ChangeSpec := { name := "fnHeats", fn := fun _ => fun
  | [d] => { results := [.lit (.bool false)], args := [d] }
  | _ => none }
def FnHeatsWrongFalsely : Prop := fnHeatsRow.holds Try.pinned (OpenSpec.ofChange fnHeatsWrong)

/-- 'laws.FnExactGainFor': WHATEVER THE INPUT: true; the input reads as it did. -/
def fnExactGainForSpec : ChangeSpec := { name := "fnExactGainFor", fn := fun _ => fun
  | [d1, d2, d3, d4] => { results := [.lit (.bool true)], args := [d1, d2, d3, d4] }
  | _ => none }
def fnExactGainForRow : OpenClaim := { program := "ytkcfpkokgpimaaa", sum := "d54311865ca95adff87d56d08df1a30ebe42d2b9a22d8a178933d05ae8fc4cbf", func := "loop.example/g03310/laws.FnExactGainFor", spec := "fnExactGainFor", apart := false }
def FnExactGainForSaid : Prop := fnExactGainForRow.holds Try.pinned (OpenSpec.ofChange fnExactGainForSpec)

/-- ITS FALSE NEIGHBOUR: 'it returns false'. Refute it at one input. -/
def fnExactGainForWrong : ChangeSpec := { name := "fnExactGainFor", fn := fun _ => fun
  | [d1, d2, d3, d4] => { results := [.lit (.bool false)], args := [d1, d2, d3, d4] }
  | _ => none }
def FnExactGainForWrongFalsely : Prop := fnExactGainForRow.holds Try.pinned (OpenSpec.ofChange fnExactGainForWrong)

/-- 'laws.FnExactSoldOutWeight': WHATEVER THE INPUT: true; the input reads as it did. -/
def fnExactSoldOutWeightSpec : ChangeSpec := { name := "fnExactSoldOutWeight", fn := fun _ => fun
  | [d1, d2] => { results := [.lit (.bool true)], args := [d1, d2] }
  | _ => none }
def fnExactSoldOutWeightRow : OpenClaim := { program := "ytkcfpkokgpimaaa", sum := "d54311865ca95adff87d56d08df1a30ebe42d2b9a22d8a178933d05ae8fc4cbf", func := "loop.example/g03310/laws.FnExactSoldOutWeight", spec := "fnExactSoldOutWeight", apart := false }
def FnExactSoldOutWeightSaid : Prop := fnExactSoldOutWeightRow.holds Try.pinned (OpenSpec.ofChange fnExactSoldOutWeightSpec)

/-- ITS FALSE NEIGHBOUR: 'it returns false'. Refute it at one input. -/
def fnExactSoldOutWeightWrong : ChangeSpec := { name := "fnExactSoldOutWeight", fn := fun _ => fun
  | [d1, d2] => { results := [.lit (.bool false)], args := [d1, d2] }
  | _ => none }
def FnExactSoldOutWeightWrongFalsely : Prop := fnExactSoldOutWeightRow.holds Try.pinned (OpenSpec.ofChange fnExactSoldOutWeightWrong)

/-- 'laws.FnExactIsBetter': WHATEVER THE INPUT: true; the input reads as it did. -/
def fnExactIsBetterSpec : ChangeSpec := { name := "fnExactIsBetter", fn := fun _ => fun
  | [d1, d2, d3, d4, d5] => { results := [.lit (.bool true)], args := [d1, d2, d3, d4, d5] }
  | _ => none }
def fnExactIsBetterRow : OpenClaim := { program := "ytkcfpkokgpimaaa", sum := "d54311865ca95adff87d56d08df1a30ebe42d2b9a22d8a178933d05ae8fc4cbf", func := "loop.example/g03310/laws.FnExactIsBetter", spec := "fnExactIsBetter", apart := false }
def FnExactIsBetterSaid : Prop := fnExactIsBetterRow.holds Try.pinned (OpenSpec.ofChange fnExactIsBetterSpec)

/-- ITS FALSE NEIGHBOUR: 'it returns false'. Refute it at one input. -/
def fnExactIsBetterWrong : ChangeSpec := { name := "fnExactIsBetter", fn := fun _ => fun
  | [d1, d2, d3, d4, d5] => { results := [.lit (.bool false)], args := [d1, d2, d3, d4, d5] }
  | _ => none }
def FnExactIsBetterWrongFalsely : Prop := fnExactIsBetterRow.holds Try.pinned (OpenSpec.ofChange fnExactIsBetterWrong)

/-- 'laws.FnExactBestBake': WHATEVER THE INPUT: true; the input reads as it did. -/
def fnExactBestBakeSpec : ChangeSpec := { name := "fnExactBestBake", fn := fun _ => fun
  | [d1, d2, d3] => { results := [.lit (.bool true)], args := [d1, d2, d3] }
  | _ => none }
def fnExactBestBakeRow : OpenClaim := { program := "ytkcfpkokgpimaaa", sum := "d54311865ca95adff87d56d08df1a30ebe42d2b9a22d8a178933d05ae8fc4cbf", func := "loop.example/g03310/laws.FnExactBestBake", spec := "fnExactBestBake", apart := false }
def FnExactBestBakeSaid : Prop := fnExactBestBakeRow.holds Try.pinned (OpenSpec.ofChange fnExactBestBakeSpec)

/-- ITS FALSE NEIGHBOUR: 'it returns false'. Refute it at one input. -/
def fnExactBestBakeWrong : ChangeSpec := { name := "fnExactBestBake", fn := fun _ => fun
  | [d1, d2, d3] => { results := [.lit (.bool false)], args := [d1, d2, d3] }
  | _ => none }
def FnExactBestBakeWrongFalsely : Prop := fnExactBestBakeRow.holds Try.pinned (OpenSpec.ofChange fnExactBestBakeWrong)

/-- 'laws.FnBakings': WHATEVER THE INPUT: true; the input reads as it did. -/
def fnBakingsSpec : ChangeSpec := { name := "fnBakings", fn := fun _ => fun
  | [d] => { results := [.lit (.bool true)], args := [d] }
  | _ => none }
def fnBakingsRow : OpenClaim := { program := "ytkcfpkokgpimaaa", sum := "d54311865ca95adff87d56d08df1a30ebe42d2b9a22d8a178933d05ae8fc4cbf", func := "loop.example/g03310/laws.FnBakings", spec := "fnBakings", apart := false }
def FnBakingsSaid : Prop := fnBakingsRow.holds Try.pinned (OpenSpec.ofChange fnBakingsSpec)

/-- ITS FALSE NEIGHBOUR: 'it returns false'. Refute it at one input. -/
def fnBakingsWrong : ChangeSpec := { name := "fnBakings", fn := fun _ => fun
  | [d] => { results := [.lit (.bool false)], args := [d] }
  | _ => none }
def FnBakingsWrongFalsely : Prop := fnBakingsRow.holds Try.pinned (OpenSpec.ofChange fnBakingsWrong)

/-- 'laws.FnExactUsesOk': WHATEVER THE INPUT: true; the input reads as it did. -/
def fnExactUsesOkSpec : ChangeSpec := { name := "fnExactUsesOk", fn := fun _ => fun
  | [d] => { results := [.lit (.bool true)], args := [d] }
  | _ => none }
def fnExactUsesOkRow : OpenClaim := { program := "ytkcfpkokgpimaaa", sum := "d54311865ca95adff87d56d08df1a30ebe42d2b9a22d8a178933d05ae8fc4cbf", func := "loop.example/g03310/laws.FnExactUsesOk", spec := "fnExactUsesOk", unfollowed := true, recurses := true, apart := false }
def FnExactUsesOkSaid : Prop := fnExactUsesOkRow.holds Try.pinned (OpenSpec.ofChange fnExactUsesOkSpec)

/-- ITS FALSE NEIGHBOUR: 'it returns false'. Refute it at one input. -/
def fnExactUsesOkWrong : ChangeSpec := { name := "fnExactUsesOk", fn := fun _ => fun
  | [d] => { results := [.lit (.bool false)], args := [d] }
  | _ => none }
def FnExactUsesOkWrongFalsely : Prop := fnExactUsesOkRow.holds Try.pinned (OpenSpec.ofChange fnExactUsesOkWrong)

/- THE SECOND FORM. 'bulk': how many values and letters a reading holds, each counted each time it is reached (what is shared counts as often as it is met; a slice's spare places count too). A statement '..UptoSaid' is the law's where the arguments, and the package variables that the reading takes, are together of bulk at most 1048576: NARROWER than '..Said'. Prove '..Said' where nothing that the law and all that it calls make is longer than what came in: it says more and counts as full. Else prove '..UptoSaid'. A law counts once. -/
mutual
def uptoBulk {H : Type} : DataW H → Nat
  | .lit (.string bytes) => bytes.length + 1
  | .lit _ => 1
  | .nil => 1
  | .ptr d => uptoBulk d + 1
  | .slice elems spare => uptoBulkAll elems + uptoBulkAll spare + 1
  | .agg parts => uptoBulkAll parts + 1
  | .iface _ d => uptoBulk d + 1
  | .map entries => uptoBulkEntries entries + 1
  | .held _ => 1
def uptoBulkAll {H : Type} : List (DataW H) → Nat
  | [] => 0
  | d :: r => uptoBulk d + uptoBulkAll r
def uptoBulkEntries {H : Type} : List (Lit × DataW H) → Nat
  | [] => 0
  | x :: r => uptoBulkEntry x + uptoBulkEntries r
def uptoBulkEntry {H : Type} : Lit × DataW H → Nat
  | (.string bytes, d) => bytes.length + uptoBulk d + 1
  | (_, d) => uptoBulk d + 1
 end
def uptoSmall : (H : Type) → List (DataW H) → Bool := fun _ ds => decide (uptoBulkAll ds ≤ 1048576)
def OpenSpec.upto (s : _root_.Go.ChangeSpec) : _root_.Go.OpenSpec := { _root_.Go.OpenSpec.ofChange s with cond := some uptoSmall }

/-- 'laws.FnExactNeedsNoCleaning', WHERE WHAT IT READS IS OF BULK AT MOST 1048576: true; the input reads as it did. -/
def fnExactNeedsNoCleaningUptoRow : OpenClaim := { program := "ytkcfpkokgpimaaa", sum := "d54311865ca95adff87d56d08df1a30ebe42d2b9a22d8a178933d05ae8fc4cbf", func := "loop.example/g03310/laws.FnExactNeedsNoCleaning", spec := "fnExactNeedsNoCleaning", unfollowed := true, recurses := true, apart := false, narrowed := true }
def FnExactNeedsNoCleaningUptoSaid : Prop := fnExactNeedsNoCleaningUptoRow.holds Try.pinned (OpenSpec.upto fnExactNeedsNoCleaningSpec)

/-- 'laws.FnExactDayCost', WHERE WHAT IT READS IS OF BULK AT MOST 1048576: true; the input reads as it did. -/
def fnExactDayCostUptoRow : OpenClaim := { program := "ytkcfpkokgpimaaa", sum := "d54311865ca95adff87d56d08df1a30ebe42d2b9a22d8a178933d05ae8fc4cbf", func := "loop.example/g03310/laws.FnExactDayCost", spec := "fnExactDayCost", unfollowed := true, recurses := true, apart := false, narrowed := true }
def FnExactDayCostUptoSaid : Prop := fnExactDayCostUptoRow.holds Try.pinned (OpenSpec.upto fnExactDayCostSpec)

/-- 'laws.FnExactBestDay', WHERE WHAT IT READS IS OF BULK AT MOST 1048576: true; the input reads as it did. -/
def fnExactBestDayUptoRow : OpenClaim := { program := "ytkcfpkokgpimaaa", sum := "d54311865ca95adff87d56d08df1a30ebe42d2b9a22d8a178933d05ae8fc4cbf", func := "loop.example/g03310/laws.FnExactBestDay", spec := "fnExactBestDay", unfollowed := true, recurses := true, apart := false, narrowed := true }
def FnExactBestDayUptoSaid : Prop := fnExactBestDayUptoRow.holds Try.pinned (OpenSpec.upto fnExactBestDaySpec)

/-- 'laws.FnCleanings', WHERE WHAT IT READS IS OF BULK AT MOST 1048576: true; the input reads as it did. -/
def fnCleaningsUptoRow : OpenClaim := { program := "ytkcfpkokgpimaaa", sum := "d54311865ca95adff87d56d08df1a30ebe42d2b9a22d8a178933d05ae8fc4cbf", func := "loop.example/g03310/laws.FnCleanings", spec := "fnCleanings", unfollowed := true, recurses := true, apart := false, narrowed := true }
def FnCleaningsUptoSaid : Prop := fnCleaningsUptoRow.holds Try.pinned (OpenSpec.upto fnCleaningsSpec)

/-- 'laws.FnExactFallingOrder', WHERE WHAT IT READS IS OF BULK AT MOST 1048576: true; the input reads as it did. -/
def fnExactFallingOrderUptoRow : OpenClaim := { program := "ytkcfpkokgpimaaa", sum := "d54311865ca95adff87d56d08df1a30ebe42d2b9a22d8a178933d05ae8fc4cbf", func := "loop.example/g03310/laws.FnExactFallingOrder", spec := "fnExactFallingOrder", unfollowed := true, recurses := true, apart := false, narrowed := true }
def FnExactFallingOrderUptoSaid : Prop := fnExactFallingOrderUptoRow.holds Try.pinned (OpenSpec.upto fnExactFallingOrderSpec)

/-- 'laws.FnHeats', WHERE WHAT IT READS IS OF BULK AT MOST 1048576: true; the input reads as it did. -/
def fnHeatsUptoRow : OpenClaim := { program := "ytkcfpkokgpimaaa", sum := "d54311865ca95adff87d56d08df1a30ebe42d2b9a22d8a178933d05ae8fc4cbf", func := "loop.example/g03310/laws.FnHeats", spec := "fnHeats", unfollowed := true, recurses := true, apart := false, narrowed := true }
def FnHeatsUptoSaid : Prop := fnHeatsUptoRow.holds Try.pinned (OpenSpec.upto fnHeatsSpec)

/-- 'laws.FnExactGainFor', WHERE WHAT IT READS IS OF BULK AT MOST 1048576: true; the input reads as it did. -/
def fnExactGainForUptoRow : OpenClaim := { program := "ytkcfpkokgpimaaa", sum := "d54311865ca95adff87d56d08df1a30ebe42d2b9a22d8a178933d05ae8fc4cbf", func := "loop.example/g03310/laws.FnExactGainFor", spec := "fnExactGainFor", apart := false, narrowed := true }
def FnExactGainForUptoSaid : Prop := fnExactGainForUptoRow.holds Try.pinned (OpenSpec.upto fnExactGainForSpec)

/-- 'laws.FnExactSoldOutWeight', WHERE WHAT IT READS IS OF BULK AT MOST 1048576: true; the input reads as it did. -/
def fnExactSoldOutWeightUptoRow : OpenClaim := { program := "ytkcfpkokgpimaaa", sum := "d54311865ca95adff87d56d08df1a30ebe42d2b9a22d8a178933d05ae8fc4cbf", func := "loop.example/g03310/laws.FnExactSoldOutWeight", spec := "fnExactSoldOutWeight", apart := false, narrowed := true }
def FnExactSoldOutWeightUptoSaid : Prop := fnExactSoldOutWeightUptoRow.holds Try.pinned (OpenSpec.upto fnExactSoldOutWeightSpec)

/-- 'laws.FnExactIsBetter', WHERE WHAT IT READS IS OF BULK AT MOST 1048576: true; the input reads as it did. -/
def fnExactIsBetterUptoRow : OpenClaim := { program := "ytkcfpkokgpimaaa", sum := "d54311865ca95adff87d56d08df1a30ebe42d2b9a22d8a178933d05ae8fc4cbf", func := "loop.example/g03310/laws.FnExactIsBetter", spec := "fnExactIsBetter", apart := false, narrowed := true }
def FnExactIsBetterUptoSaid : Prop := fnExactIsBetterUptoRow.holds Try.pinned (OpenSpec.upto fnExactIsBetterSpec)

/-- 'laws.FnExactBestBake', WHERE WHAT IT READS IS OF BULK AT MOST 1048576: true; the input reads as it did. -/
def fnExactBestBakeUptoRow : OpenClaim := { program := "ytkcfpkokgpimaaa", sum := "d54311865ca95adff87d56d08df1a30ebe42d2b9a22d8a178933d05ae8fc4cbf", func := "loop.example/g03310/laws.FnExactBestBake", spec := "fnExactBestBake", apart := false, narrowed := true }
def FnExactBestBakeUptoSaid : Prop := fnExactBestBakeUptoRow.holds Try.pinned (OpenSpec.upto fnExactBestBakeSpec)

/-- 'laws.FnBakings', WHERE WHAT IT READS IS OF BULK AT MOST 1048576: true; the input reads as it did. -/
def fnBakingsUptoRow : OpenClaim := { program := "ytkcfpkokgpimaaa", sum := "d54311865ca95adff87d56d08df1a30ebe42d2b9a22d8a178933d05ae8fc4cbf", func := "loop.example/g03310/laws.FnBakings", spec := "fnBakings", apart := false, narrowed := true }
def FnBakingsUptoSaid : Prop := fnBakingsUptoRow.holds Try.pinned (OpenSpec.upto fnBakingsSpec)

/-- 'laws.FnExactUsesOk', WHERE WHAT IT READS IS OF BULK AT MOST 1048576: true; the input reads as it did. -/
def fnExactUsesOkUptoRow : OpenClaim := { program := "ytkcfpkokgpimaaa", sum := "d54311865ca95adff87d56d08df1a30ebe42d2b9a22d8a178933d05ae8fc4cbf", func := "loop.example/g03310/laws.FnExactUsesOk", spec := "fnExactUsesOk", unfollowed := true, recurses := true, apart := false, narrowed := true }
def FnExactUsesOkUptoSaid : Prop := fnExactUsesOkUptoRow.holds Try.pinned (OpenSpec.upto fnExactUsesOkSpec)

end Rows
end Go.Proofs.Ytkcfpkokgpimaaa
