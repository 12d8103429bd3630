/-
  No cell of these rows narrows 'for every input' (looked for: loops, veiled, ifaces, maps, wideKeys, modest, calm, conditions, laid).
  DERIVED. THE GIVEN ROWS OF THIS SEAT. 6 by the template 'for every input the law returns true; each argument reads behind the call as it read before'; 0 by the template 'total and deterministic' (their statements: YtdglbjekpbdmoaaTotals.lean).
  GIVEN WITH THE SEED: the statements are not yours to turn. If you find one false, say at which input.
  Laid BY PROGRAM, IN A SANDBOX (cutbox-rows.mjs): the forced cells as the released guide's own fill.sh prints them over the translation 6fd5595766f3a701… (all of the seat's roots in one cut). By AI agents, Wed Nov 11 2026. No macro, syntax, notation, axiom, sorry.
-/
import Derived.Test.YtdglbjekpbdmoaaChecked
import GoSem.Claim
import GoSem.ClaimJoined
import GoSem.ClaimMapViews
import Derived.JoinedTies
import Derived.KernelRfl
namespace Go.Proofs.Ytdglbjekpbdmoaa
/- THE CELL 'sum', in the pinned program and in every row, IS THE sha256 OF THE DUMP (.gsa) THAT YtdglbjekpbdmoaaProg.lean LOADS. Nothing in Lean hashes anything: it is a label: what it is worth is what the hold of that sum in a sandbox is worth. -/
noncomputable def Try.pinned : Pinned := { name := "ytdglbjekpbdmoaa", sum := "6fd5595766f3a7018ee22e6b0bdbb30f38d97bf84d85d333bc8e1314d5d4af2b", checked := Try.checked }
namespace Rows
def none {H : Type} : Left H := { results := [], args := [] }

/-- 'laws.FnExactCanShare': WHATEVER THE INPUT: true; the input reads as it did. -/
def fnExactCanShareSpec : ChangeSpec := { name := "fnExactCanShare", fn := fun _ => fun
  | [d1, d2] => { results := [.lit (.bool true)], args := [d1, d2] }
  | _ => none }
def fnExactCanShareRow : OpenClaim := { program := "ytdglbjekpbdmoaa", sum := "6fd5595766f3a7018ee22e6b0bdbb30f38d97bf84d85d333bc8e1314d5d4af2b", func := "loop.example/g03310/laws.FnExactCanShare", spec := "fnExactCanShare", unfollowed := true, recurses := true, apart := false }
def FnExactCanShareSaid : Prop := fnExactCanShareRow.holds Try.pinned (OpenSpec.ofChange fnExactCanShareSpec)

/-- ITS FALSE NEIGHBOUR: 'it returns false'. Refute it at one input. -/
def fnExactCanShareWrong : ChangeSpec := { name := "fnExactCanShare", fn := fun _ => fun
  | [d1, d2] => { results := [.lit (.bool false)], args := [d1, d2] }
  | _ => none }
def FnExactCanShareWrongFalsely : Prop := fnExactCanShareRow.holds Try.pinned (OpenSpec.ofChange fnExactCanShareWrong)

/-- 'laws.FnExactCommonHeat': WHATEVER THE INPUT: true; the input reads as it did. -/
def fnExactCommonHeatSpec : ChangeSpec := { name := "fnExactCommonHeat", fn := fun _ => fun
  | [d] => { results := [.lit (.bool true)], args := [d] }
  | _ => none }
def fnExactCommonHeatRow : OpenClaim := { program := "ytdglbjekpbdmoaa", sum := "6fd5595766f3a7018ee22e6b0bdbb30f38d97bf84d85d333bc8e1314d5d4af2b", func := "loop.example/g03310/laws.FnExactCommonHeat", spec := "fnExactCommonHeat", unfollowed := true, recurses := true, apart := false }
def FnExactCommonHeatSaid : Prop := fnExactCommonHeatRow.holds Try.pinned (OpenSpec.ofChange fnExactCommonHeatSpec)

/-- ITS FALSE NEIGHBOUR: 'it returns false'. Refute it at one input. -/
def fnExactCommonHeatWrong : ChangeSpec := { name := "fnExactCommonHeat", fn := fun _ => fun
  | [d] => { results := [.lit (.bool false)], args := [d] }
  | _ => none }
def FnExactCommonHeatWrongFalsely : Prop := fnExactCommonHeatRow.holds Try.pinned (OpenSpec.ofChange fnExactCommonHeatWrong)

/-- 'laws.FnExactLongestShared': WHATEVER THE INPUT: true; the input reads as it did. -/
def fnExactLongestSharedSpec : ChangeSpec := { name := "fnExactLongestShared", fn := fun _ => fun
  | [d] => { results := [.lit (.bool true)], args := [d] }
  | _ => none }
def fnExactLongestSharedRow : OpenClaim := { program := "ytdglbjekpbdmoaa", sum := "6fd5595766f3a7018ee22e6b0bdbb30f38d97bf84d85d333bc8e1314d5d4af2b", func := "loop.example/g03310/laws.FnExactLongestShared", spec := "fnExactLongestShared", unfollowed := true, recurses := true, apart := false }
def FnExactLongestSharedSaid : Prop := fnExactLongestSharedRow.holds Try.pinned (OpenSpec.ofChange fnExactLongestSharedSpec)

/-- ITS FALSE NEIGHBOUR: 'it returns false'. Refute it at one input. -/
def fnExactLongestSharedWrong : ChangeSpec := { name := "fnExactLongestShared", fn := fun _ => fun
  | [d] => { results := [.lit (.bool false)], args := [d] }
  | _ => none }
def FnExactLongestSharedWrongFalsely : Prop := fnExactLongestSharedRow.holds Try.pinned (OpenSpec.ofChange fnExactLongestSharedWrong)

/-- 'laws.FnExactApartBreads': WHATEVER THE INPUT: true; the input reads as it did. -/
def fnExactApartBreadsSpec : ChangeSpec := { name := "fnExactApartBreads", fn := fun _ => fun
  | [d] => { results := [.lit (.bool true)], args := [d] }
  | _ => none }
def fnExactApartBreadsRow : OpenClaim := { program := "ytdglbjekpbdmoaa", sum := "6fd5595766f3a7018ee22e6b0bdbb30f38d97bf84d85d333bc8e1314d5d4af2b", func := "loop.example/g03310/laws.FnExactApartBreads", spec := "fnExactApartBreads", unfollowed := true, recurses := true, apart := false }
def FnExactApartBreadsSaid : Prop := fnExactApartBreadsRow.holds Try.pinned (OpenSpec.ofChange fnExactApartBreadsSpec)

/-- ITS FALSE NEIGHBOUR: 'it returns false'. Refute it at one input. -/
def fnExactApartBreadsWrong : ChangeSpec := { name := "fnExactApartBreads", fn := fun _ => fun
  | [d] => { results := [.lit (.bool false)], args := [d] }
  | _ => none }
def FnExactApartBreadsWrongFalsely : Prop := fnExactApartBreadsRow.holds Try.pinned (OpenSpec.ofChange fnExactApartBreadsWrong)

/-- 'laws.FnExactFewestHeats': WHATEVER THE INPUT: true; the input reads as it did. -/
def fnExactFewestHeatsSpec : ChangeSpec := { name := "fnExactFewestHeats", fn := fun _ => fun
  | [d] => { results := [.lit (.bool true)], args := [d] }
  | _ => none }
def fnExactFewestHeatsRow : OpenClaim := { program := "ytdglbjekpbdmoaa", sum := "6fd5595766f3a7018ee22e6b0bdbb30f38d97bf84d85d333bc8e1314d5d4af2b", func := "loop.example/g03310/laws.FnExactFewestHeats", spec := "fnExactFewestHeats", unfollowed := true, recurses := true, apart := false }
def FnExactFewestHeatsSaid : Prop := fnExactFewestHeatsRow.holds Try.pinned (OpenSpec.ofChange fnExactFewestHeatsSpec)

/-- ITS FALSE NEIGHBOUR: 'it returns false'. Refute it at one input. -/
def fnExactFewestHeatsWrong : ChangeSpec := { name := "fnExactFewestHeats", fn := fun _ => fun
  | [d] => { results := [.lit (.bool false)], args := [d] }
  | _ => none }
def FnExactFewestHeatsWrongFalsely : Prop := fnExactFewestHeatsRow.holds Try.pinned (OpenSpec.ofChange fnExactFewestHeatsWrong)

/-- 'laws.FnPairs': WHATEVER THE INPUT: true; the input reads as it did. -/
def fnPairsSpec : ChangeSpec := { name := "fnPairs", fn := fun _ => fun
  | [d] => { results := [.lit (.bool true)], args := [d] }
  | _ => none }
def fnPairsRow : OpenClaim := { program := "ytdglbjekpbdmoaa", sum := "6fd5595766f3a7018ee22e6b0bdbb30f38d97bf84d85d333bc8e1314d5d4af2b", func := "loop.example/g03310/laws.FnPairs", spec := "fnPairs", unfollowed := true, recurses := true, apart := false }
def FnPairsSaid : Prop := fnPairsRow.holds Try.pinned (OpenSpec.ofChange fnPairsSpec)

/-- ITS FALSE NEIGHBOUR: 'it returns false'. Refute it at one input. -/
def fnPairsWrong : ChangeSpec := { name := "fnPairs", fn := fun _ => fun
  | [d] => { results := [.lit (.bool false)], args := [d] }
  | _ => none }
def FnPairsWrongFalsely : Prop := fnPairsRow.holds Try.pinned (OpenSpec.ofChange fnPairsWrong)

/- THE SECOND FORM. 'bulk': how many values and letters a reading holds, each counted each time it is reached (what is shared counts as often as it is met; a slice's spare places count too). A statement '..UptoSaid' is the law's where the arguments, and the package variables that the reading takes, are together of bulk at most 1048576: NARROWER than '..Said'. Prove '..Said' where nothing that the law and all that it calls make is longer than what came in: it says more and counts as full. Else prove '..UptoSaid'. A law counts once. -/
mutual
def uptoBulk {H : Type} : DataW H → Nat
  | .lit (.string bytes) => bytes.length + 1
  | .lit _ => 1
  | .nil => 1
  | .ptr d => uptoBulk d + 1
  | .slice elems spare => uptoBulkAll elems + uptoBulkAll spare + 1
  | .agg parts => uptoBulkAll parts + 1
  | .iface _ d => uptoBulk d + 1
  | .map entries => uptoBulkEntries entries + 1
  | .held _ => 1
def uptoBulkAll {H : Type} : List (DataW H) → Nat
  | [] => 0
  | d :: r => uptoBulk d + uptoBulkAll r
def uptoBulkEntries {H : Type} : List (Lit × DataW H) → Nat
  | [] => 0
  | x :: r => uptoBulkEntry x + uptoBulkEntries r
def uptoBulkEntry {H : Type} : Lit × DataW H → Nat
  | (.string bytes, d) => bytes.length + uptoBulk d + 1
  | (_, d) => uptoBulk d + 1
 end
def uptoSmall : (H : Type) → List (DataW H) → Bool := fun _ ds => decide (uptoBulkAll ds ≤ 1048576)
def OpenSpec.upto (s : _root_.Go.ChangeSpec) : _root_.Go.OpenSpec := { _root_.Go.OpenSpec.ofChange s with cond := some uptoSmall }

/-- 'laws.FnExactCanShare', WHERE WHAT IT READS IS OF BULK AT MOST 1048576: true; the input reads as it did. -/
def fnExactCanShareUptoRow : OpenClaim := { program := "ytdglbjekpbdmoaa", sum := "6fd5595766f3a7018ee22e6b0bdbb30f38d97bf84d85d333bc8e1314d5d4af2b", func := "loop.example/g03310/laws.FnExactCanShare", spec := "fnExactCanShare", unfollowed := true, recurses := true, apart := false, narrowed := true }
def FnExactCanShareUptoSaid : Prop := fnExactCanShareUptoRow.holds Try.pinned (OpenSpec.upto fnExactCanShareSpec)

/-- 'laws.FnExactCommonHeat', WHERE WHAT IT READS IS OF BULK AT MOST 1048576: true; the input reads as it did. -/
def fnExactCommonHeatUptoRow : OpenClaim := { program := "ytdglbjekpbdmoaa", sum := "6fd5595766f3a7018ee22e6b0bdbb30f38d97bf84d85d333bc8e1314d5d4af2b", func := "loop.example/g03310/laws.FnExactCommonHeat", spec := "fnExactCommonHeat", unfollowed := true, recurses := true, apart := false, narrowed := true }
def FnExactCommonHeatUptoSaid : Prop := fnExactCommonHeatUptoRow.holds Try.pinned (OpenSpec.upto fnExactCommonHeatSpec)

/-- 'laws.FnExactLongestShared', WHERE WHAT IT READS IS OF BULK AT MOST 1048576: true; the input reads as it did. -/
def fnExactLongestSharedUptoRow : OpenClaim := { program := "ytdglbjekpbdmoaa", sum := "6fd5595766f3a7018ee22e6b0bdbb30f38d97bf84d85d333bc8e1314d5d4af2b", func := "loop.example/g03310/laws.FnExactLongestShared", spec := "fnExactLongestShared", unfollowed := true, recurses := true, apart := false, narrowed := true }
def FnExactLongestSharedUptoSaid : Prop := fnExactLongestSharedUptoRow.holds Try.pinned (OpenSpec.upto fnExactLongestSharedSpec)

/-- 'laws.FnExactApartBreads', WHERE WHAT IT READS IS OF BULK AT MOST 1048576: true; the input reads as it did. -/
def fnExactApartBreadsUptoRow : OpenClaim := { program := "ytdglbjekpbdmoaa", sum := "6fd5595766f3a7018ee22e6b0bdbb30f38d97bf84d85d333bc8e1314d5d4af2b", func := "loop.example/g03310/laws.FnExactApartBreads", spec := "fnExactApartBreads", unfollowed := true, recurses := true, apart := false, narrowed := true }
def FnExactApartBreadsUptoSaid : Prop := fnExactApartBreadsUptoRow.holds Try.pinned (OpenSpec.upto fnExactApartBreadsSpec)

/-- 'laws.FnExactFewestHeats', WHERE WHAT IT READS IS OF BULK AT MOST 1048576: true; the input reads as it did. -/
def fnExactFewestHeatsUptoRow : OpenClaim := { program := "ytdglbjekpbdmoaa", sum := "6fd5595766f3a7018ee22e6b0bdbb30f38d97bf84d85d333bc8e1314d5d4af2b", func := "loop.example/g03310/laws.FnExactFewestHeats", spec := "fnExactFewestHeats", unfollowed := true, recurses := true, apart := false, narrowed := true }
def FnExactFewestHeatsUptoSaid : Prop := fnExactFewestHeatsUptoRow.holds Try.pinned (OpenSpec.upto fnExactFewestHeatsSpec)

/-- 'laws.FnPairs', WHERE WHAT IT READS IS OF BULK AT MOST 1048576: true; the input reads as it did. -/
def fnPairsUptoRow : OpenClaim := { program := "ytdglbjekpbdmoaa", sum := "6fd5595766f3a7018ee22e6b0bdbb30f38d97bf84d85d333bc8e1314d5d4af2b", func := "loop.example/g03310/laws.FnPairs", spec := "fnPairs", unfollowed := true, recurses := true, apart := false, narrowed := true }
def FnPairsUptoSaid : Prop := fnPairsUptoRow.holds Try.pinned (OpenSpec.upto fnPairsSpec)

end Rows
end Go.Proofs.Ytdglbjekpbdmoaa
