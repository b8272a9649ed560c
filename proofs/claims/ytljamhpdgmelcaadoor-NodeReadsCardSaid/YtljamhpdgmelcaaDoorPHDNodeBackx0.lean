-- Written by a program of the session (wip/tools/hybrid.py) over the translation; Lean checks it.
import Derived.Test.YtljamhpdgmelcaaDoorProg
import Derived.Below
import Derived.Deep.Draws
import Derived.Deep.AppendLies
import Derived.Maps.AppendAt
import Derived.OwnWalk
import Derived.Laws.BytesArg
import Derived.Laws.MakeOwn
import Derived.Laws.OwnMore
import Derived.Deep.OwnRows
import Derived.Tactics
import Derived.Lib.ConvBytes
import Derived.Laws.Slices
import Derived.WalkKit
import Derived.KernelRfl
import Derived.RowKit3
import Derived.Deep.LoopGhost
import Derived.Deep.QuietTactic
import Derived.BigQuiet
import Derived.WideLaws
import Derived.Deep.DeepCutAuto
import Derived.Deep.CutBlock
import Derived.Deep.RegionHeld3
import Derived.Laws.Rows
import Derived.Lib.AppendStr
import Derived.ArgAppend
import Derived.Laws.IdiomCopy
import Derived.OrdersHeld
import Derived.Laws.BitsLemmas
import Derived.RowKit
import Derived.Test.YtljamhpdgmelcaaDoorWWords
import Derived.Test.YtljamhpdgmelcaaDoorWLast
import Derived.Test.YtljamhpdgmelcaaDoorWTab
import Derived.Test.YtljamhpdgmelcaaDoorWFour
import Derived.Test.YtljamhpdgmelcaaDoorWQPut
import Derived.Test.YtljamhpdgmelcaaDoorWApart
import Derived.Test.YtljamhpdgmelcaaDoorWArr
import Derived.Test.YtljamhpdgmelcaaDoorWZeros
import Derived.Test.YtljamhpdgmelcaaDoorWFoot
import Derived.Test.YtljamhpdgmelcaaDoorWKept
import Derived.Test.YtljamhpdgmelcaaDoorWShare
import Derived.Test.YtljamhpdgmelcaaDoorWN
import Derived.Test.YtljamhpdgmelcaaDoorWFootNe
import Derived.Test.YtljamhpdgmelcaaDoorWAt
import Derived.Test.YtljamhpdgmelcaaDoorWEqStruct
import Derived.Test.YtljamhpdgmelcaaDoorWRepsOne
import Derived.Test.YtljamhpdgmelcaaDoorWInv
import Derived.Test.YtljamhpdgmelcaaDoorWInvWords
import Derived.Test.YtljamhpdgmelcaaDoorWGuard
import Derived.Test.YtljamhpdgmelcaaDoorWNEv
import Derived.Test.YtljamhpdgmelcaaDoorWMore
import Derived.Test.YtljamhpdgmelcaaDoorHR
namespace Go.Proofs.YtljamhpdgmelcaaDoor.PHDNodeBack
open Go.RowKit Go.Proofs.YtljamhpdgmelcaaDoorW.PrintWords Go.Proofs.YtljamhpdgmelcaaDoorW.PrintLast Go.Proofs.YtljamhpdgmelcaaDoorW.PrintMore
attribute [local go_sem] max2_int min2_int max_two min_two max_three min_three max_four min_four   -- for this text's walks alone
set_option linter.unusedVariables false
set_option linter.unusedSimpArgs false



def errW : Option Int → Value
  | none => .nilIface
  | some c => .iface 0 (.int .i64 c)
theorem errW_none : errW none = .nilIface := rfl
theorem errW_some (c : Int) : errW (some c) = .iface 0 (.int .i64 c) := rfl

theorem info5 : (Tryd.prog.info? 5).map (fun i => (i.zero, i.size, i.bytes)) = some (some (.int .u8 0), 1, 1) := by kernel_rfl
-- the values' own types

end Go.Proofs.YtljamhpdgmelcaaDoor.PHDNodeBack
