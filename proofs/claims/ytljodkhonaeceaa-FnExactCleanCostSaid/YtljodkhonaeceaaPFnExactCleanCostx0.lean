/- What the Go functions that the law FnExactCleanCost reaches compute, each as a plain function, and that the machine's calls come to just that. No condition. -/
import Derived.Test.YtljodkhonaeceaaProg
import Derived.Below
import Derived.Deep.Draws
import Derived.Deep.AppendLies
import Derived.Maps.AppendAt
import Derived.OwnWalk
import Derived.Laws.BytesArg
import Derived.Laws.MakeOwn
import Derived.Laws.OwnMore
import Derived.Deep.OwnRows
import Derived.Tactics
import Derived.Lib.ConvBytes
import Derived.Laws.Slices
import Derived.WalkKit
import Derived.KernelRfl
import Derived.RowKit3
import Derived.Deep.LoopGhost
import Derived.Deep.QuietTactic
import Derived.BigQuiet
import Derived.WideLaws
import Derived.Deep.DeepCutAuto
import Derived.Deep.CutBlock
import Derived.Deep.RegionHeld3
import Derived.Laws.Rows
import Derived.Lib.AppendStr
import Derived.ArgAppend
import Derived.Laws.IdiomCopy
import Derived.OrdersHeld
import Derived.Laws.BitsLemmas
import Derived.RowKit
import Derived.Shelf.Abstract
import Derived.Test.YtljodkhonaeceaaWWords
import Derived.Test.YtljodkhonaeceaaWLast
import Derived.Test.YtljodkhonaeceaaWTab
import Derived.Test.YtljodkhonaeceaaWFour
import Derived.Test.YtljodkhonaeceaaWQPut
import Derived.Test.YtljodkhonaeceaaWApart
import Derived.Test.YtljodkhonaeceaaWArr
import Derived.Test.YtljodkhonaeceaaWZeros
import Derived.Test.YtljodkhonaeceaaWFoot
import Derived.Test.YtljodkhonaeceaaWKept
import Derived.Test.YtljodkhonaeceaaWShare
import Derived.Test.YtljodkhonaeceaaWN
import Derived.Test.YtljodkhonaeceaaWFootNe
import Derived.Test.YtljodkhonaeceaaWAt
import Derived.Test.YtljodkhonaeceaaWEqStruct
import Derived.Test.YtljodkhonaeceaaWRepsOne
import Derived.Test.YtljodkhonaeceaaWInv
import Derived.Test.YtljodkhonaeceaaWInvWords
import Derived.Test.YtljodkhonaeceaaWGuard
import Derived.Test.YtljodkhonaeceaaWNEv
import Derived.Test.YtljodkhonaeceaaWMore
namespace Go.Proofs.Ytljodkhonaeceaa.PFnExactCleanCost
open Go.RowKit Go.Proofs.YtljodkhonaeceaaW.PrintWords Go.Proofs.YtljodkhonaeceaaW.PrintLast Go.Proofs.YtljodkhonaeceaaW.PrintMore
attribute [local go_sem] max2_int min2_int max_two min_two max_three min_three max_four min_four   -- for this text's walks alone
set_option linter.unusedVariables false
set_option linter.unusedSimpArgs false



def errW : Option Int → Value
  | none => .nilIface
  | some c => .iface 0 (.int .i64 c)
theorem errW_none : errW none = .nilIface := rfl
theorem errW_some (c : Int) : errW (some c) = .iface 0 (.int .i64 c) := rfl

-- the values' own types

end Go.Proofs.Ytljodkhonaeceaa.PFnExactCleanCost
