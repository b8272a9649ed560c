-- Written by a program of the session (wip/tools/hybrid.py) over the translation; Lean checks it.
import Derived.Test.YtbinnghemkppdaaProg
import Derived.Below
import Derived.Deep.Draws
import Derived.Deep.AppendLies
import Derived.Maps.AppendAt
import Derived.OwnWalk
import Derived.Laws.BytesArg
import Derived.Laws.MakeOwn
import Derived.Laws.OwnMore
import Derived.Deep.OwnRows
import Derived.Tactics
import Derived.Lib.ConvBytes
import Derived.Laws.Slices
import Derived.WalkKit
import Derived.KernelRfl
import Derived.RowKit3
import Derived.Deep.LoopGhost
import Derived.Deep.QuietTactic
import Derived.BigQuiet
import Derived.WideLaws
import Derived.Deep.DeepCutAuto
import Derived.Deep.CutBlock
import Derived.Deep.RegionHeld3
import Derived.Laws.Rows
import Derived.Lib.AppendStr
import Derived.ArgAppend
import Derived.Laws.IdiomCopy
import Derived.OrdersHeld
import Derived.Laws.BitsLemmas
import Derived.RowKit
import Derived.Test.YtbinnghemkppdaaWWords
import Derived.Test.YtbinnghemkppdaaWLast
import Derived.Test.YtbinnghemkppdaaWTab
import Derived.Test.YtbinnghemkppdaaWFour
import Derived.Test.YtbinnghemkppdaaWQPut
import Derived.Test.YtbinnghemkppdaaWApart
import Derived.Test.YtbinnghemkppdaaWArr
import Derived.Test.YtbinnghemkppdaaWZeros
import Derived.Test.YtbinnghemkppdaaWFoot
import Derived.Test.YtbinnghemkppdaaWKept
import Derived.Test.YtbinnghemkppdaaWShare
import Derived.Test.YtbinnghemkppdaaWN
import Derived.Test.YtbinnghemkppdaaWFootNe
import Derived.Test.YtbinnghemkppdaaWAt
import Derived.Test.YtbinnghemkppdaaWEqStruct
import Derived.Test.YtbinnghemkppdaaWRepsOne
import Derived.Test.YtbinnghemkppdaaWInv
import Derived.Test.YtbinnghemkppdaaWInvWords
import Derived.Test.YtbinnghemkppdaaWGuard
import Derived.Test.YtbinnghemkppdaaWNEv
import Derived.Test.YtbinnghemkppdaaWMore
import Derived.Test.YtbinnghemkppdaaHJ
namespace Go.Proofs.Ytbinnghemkppdaa.PHJ
open Go.RowKit Go.Proofs.YtbinnghemkppdaaW.PrintWords Go.Proofs.YtbinnghemkppdaaW.PrintLast Go.Proofs.YtbinnghemkppdaaW.PrintMore
attribute [local go_sem] max2_int min2_int max_two min_two max_three min_three max_four min_four   -- for this text's walks alone
set_option linter.unusedVariables false
set_option linter.unusedSimpArgs false



def errW : Option Int → Value
  | none => .nilIface
  | some c => .iface 0 (.int .i64 c)
theorem errW_none : errW none = .nilIface := rfl
theorem errW_some (c : Int) : errW (some c) = .iface 0 (.int .i64 c) := rfl

-- the values' own types

end Go.Proofs.Ytbinnghemkppdaa.PHJ
