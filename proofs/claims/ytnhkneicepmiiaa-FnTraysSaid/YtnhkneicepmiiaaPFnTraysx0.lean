/- What the Go functions that the law FnTrays reaches compute, each as a plain function, and that the machine's calls come to just that. No condition. -/
import Derived.Test.YtnhkneicepmiiaaProg
import Derived.Below
import Derived.Deep.Draws
import Derived.Deep.AppendLies
import Derived.Maps.AppendAt
import Derived.OwnWalk
import Derived.Laws.BytesArg
import Derived.Laws.MakeOwn
import Derived.Laws.OwnMore
import Derived.Deep.OwnRows
import Derived.Tactics
import Derived.Lib.ConvBytes
import Derived.Laws.Slices
import Derived.WalkKit
import Derived.KernelRfl
import Derived.RowKit3
import Derived.Deep.LoopGhost
import Derived.Deep.QuietTactic
import Derived.BigQuiet
import Derived.WideLaws
import Derived.Deep.DeepCutAuto
import Derived.Deep.CutBlock
import Derived.Deep.RegionHeld3
import Derived.Laws.Rows
import Derived.Lib.AppendStr
import Derived.ArgAppend
import Derived.Laws.IdiomCopy
import Derived.OrdersHeld
import Derived.Laws.BitsLemmas
import Derived.RowKit
import Derived.Shelf.Abstract
import Derived.Test.YtnhkneicepmiiaaWWords
import Derived.Test.YtnhkneicepmiiaaWLast
import Derived.Test.YtnhkneicepmiiaaWTab
import Derived.Test.YtnhkneicepmiiaaWFour
import Derived.Test.YtnhkneicepmiiaaWQPut
import Derived.Test.YtnhkneicepmiiaaWApart
import Derived.Test.YtnhkneicepmiiaaWArr
import Derived.Test.YtnhkneicepmiiaaWZeros
import Derived.Test.YtnhkneicepmiiaaWFoot
import Derived.Test.YtnhkneicepmiiaaWKept
import Derived.Test.YtnhkneicepmiiaaWShare
import Derived.Test.YtnhkneicepmiiaaWN
import Derived.Test.YtnhkneicepmiiaaWFootNe
import Derived.Test.YtnhkneicepmiiaaWAt
import Derived.Test.YtnhkneicepmiiaaWEqStruct
import Derived.Test.YtnhkneicepmiiaaWRepsOne
import Derived.Test.YtnhkneicepmiiaaWInv
import Derived.Test.YtnhkneicepmiiaaWInvWords
import Derived.Test.YtnhkneicepmiiaaWGuard
import Derived.Test.YtnhkneicepmiiaaWNEv
import Derived.Test.YtnhkneicepmiiaaWMore
namespace Go.Proofs.Ytnhkneicepmiiaa.PFnTrays
open Go.RowKit Go.Proofs.YtnhkneicepmiiaaW.PrintWords Go.Proofs.YtnhkneicepmiiaaW.PrintLast Go.Proofs.YtnhkneicepmiiaaW.PrintMore
attribute [local go_sem] max2_int min2_int max_two min_two max_three min_three max_four min_four   -- for this text's walks alone
set_option linter.unusedVariables false
set_option linter.unusedSimpArgs false



def errW : Option Int → Value
  | none => .nilIface
  | some c => .iface 0 (.int .i64 c)
theorem errW_none : errW none = .nilIface := rfl
theorem errW_some (c : Int) : errW (some c) = .iface 0 (.int .i64 c) := rfl

theorem info3 : (Try.prog.info? 3).map (fun i => (i.zero, i.size, i.bytes)) = some (some (.int .i64 0), 1, 8) := by kernel_rfl
-- the values' own types

end Go.Proofs.Ytnhkneicepmiiaa.PFnTrays
