-- Printed by this session's own program (wip/print/mkprint.py, over the kit's print.py): plain text, checked by Lean.
import Derived.Test.YtjffghebcaklaaaDoorProg
import Derived.Below
import Derived.Deep.Draws
import Derived.Deep.AppendLies
import Derived.Maps.AppendAt
import Derived.OwnWalk
import Derived.Laws.BytesArg
import Derived.Laws.MakeOwn
import Derived.Laws.OwnMore
import Derived.Deep.OwnRows
import Derived.Tactics
import Derived.Lib.ConvBytes
import Derived.Laws.Slices
import Derived.WalkKit
import Derived.KernelRfl
import Derived.RowKit3
import Derived.Deep.LoopGhost
import Derived.Deep.QuietTactic
import Derived.BigQuiet
import Derived.WideLaws
import Derived.Deep.DeepCutAuto
import Derived.Deep.CutBlock
import Derived.Deep.RegionHeld3
import Derived.Laws.Rows
import Derived.Lib.AppendStr
import Derived.ArgAppend
import Derived.Laws.IdiomCopy
import Derived.OrdersHeld
import Derived.Laws.BitsLemmas
import Derived.RowKit
import Derived.Test.YtjffghebcaklaaaDoorWWords
import Derived.Test.YtjffghebcaklaaaDoorWLast
import Derived.Test.YtjffghebcaklaaaDoorWTab
import Derived.Test.YtjffghebcaklaaaDoorWFour
import Derived.Test.YtjffghebcaklaaaDoorWQPut
import Derived.Test.YtjffghebcaklaaaDoorWApart
import Derived.Test.YtjffghebcaklaaaDoorWArr
import Derived.Test.YtjffghebcaklaaaDoorWZeros
import Derived.Test.YtjffghebcaklaaaDoorWFoot
import Derived.Test.YtjffghebcaklaaaDoorWKept
import Derived.Test.YtjffghebcaklaaaDoorWShare
import Derived.Test.YtjffghebcaklaaaDoorWN
import Derived.Test.YtjffghebcaklaaaDoorWFootNe
import Derived.Test.YtjffghebcaklaaaDoorWAt
import Derived.Test.YtjffghebcaklaaaDoorWEqStruct
import Derived.Test.YtjffghebcaklaaaDoorWRepsOne
import Derived.Test.YtjffghebcaklaaaDoorWInv
import Derived.Test.YtjffghebcaklaaaDoorWInvWords
import Derived.Test.YtjffghebcaklaaaDoorWGuard
import Derived.Test.YtjffghebcaklaaaDoorWNEv
import Derived.Test.YtjffghebcaklaaaDoorWMore
import Derived.Test.YtjffghebcaklaaaDoorFlt
import Derived.Test.YtjffghebcaklaaaDoorDig
namespace Go.Proofs.YtjffghebcaklaaaDoor.PId
attribute [local go_sem] Go.Proofs.YtjffghebcaklaaaDoorW.PrintWords.run_store_float
open Go Go.RowKit Go.Proofs.YtjffghebcaklaaaDoorW.PrintWords Go.Proofs.YtjffghebcaklaaaDoorW.PrintLast Go.Proofs.YtjffghebcaklaaaDoorW.PrintMore
attribute [local go_sem] max2_int min2_int max_two min_two max_three min_three max_four min_four   -- for this text's walks alone
set_option linter.unusedVariables false
set_option linter.unusedSimpArgs false



def errW : Option Int → Value
  | none => .nilIface
  | some c => .iface 0 (.int .i64 c)
theorem errW_none : errW none = .nilIface := rfl
theorem errW_some (c : Int) : errW (some c) = .iface 0 (.int .i64 c) := rfl

theorem info3 : (Tryd.prog.info? 3).map (fun i => (i.zero, i.size, i.bytes)) = some (some (.int .i64 0), 1, 8) := by kernel_rfl
-- the values' own types

end Go.Proofs.YtjffghebcaklaaaDoor.PId
