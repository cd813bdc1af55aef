-- Made by this seat's own program wip/tools/xprint.py.
import Derived.Test.YtajffjhfecckbaaProg
import Derived.Below
import Derived.Deep.Draws
import Derived.Deep.AppendLies
import Derived.Maps.AppendAt
import Derived.OwnWalk
import Derived.Laws.BytesArg
import Derived.Laws.MakeOwn
import Derived.Laws.OwnMore
import Derived.Deep.OwnRows
import Derived.Tactics
import Derived.Lib.ConvBytes
import Derived.Laws.Slices
import Derived.WalkKit
import Derived.KernelRfl
import Derived.RowKit3
import Derived.Deep.LoopGhost
import Derived.Deep.QuietTactic
import Derived.BigQuiet
import Derived.WideLaws
import Derived.Deep.DeepCutAuto
import Derived.Deep.CutBlock
import Derived.Deep.RegionHeld3
import Derived.Laws.Rows
import Derived.Lib.AppendStr
import Derived.ArgAppend
import Derived.Laws.IdiomCopy
import Derived.OrdersHeld
import Derived.Laws.BitsLemmas
import Derived.RowKit
import Derived.Test.YtajffjhfecckbaaWWords
import Derived.Test.YtajffjhfecckbaaWLast
import Derived.Test.YtajffjhfecckbaaWTab
import Derived.Test.YtajffjhfecckbaaWFour
import Derived.Test.YtajffjhfecckbaaWQPut
import Derived.Test.YtajffjhfecckbaaWApart
import Derived.Test.YtajffjhfecckbaaWArr
import Derived.Test.YtajffjhfecckbaaWZeros
import Derived.Test.YtajffjhfecckbaaWFoot
import Derived.Test.YtajffjhfecckbaaWKept
import Derived.Test.YtajffjhfecckbaaWShare
import Derived.Test.YtajffjhfecckbaaWN
import Derived.Test.YtajffjhfecckbaaWFootNe
import Derived.Test.YtajffjhfecckbaaWAt
import Derived.Test.YtajffjhfecckbaaWEqStruct
import Derived.Test.YtajffjhfecckbaaWRepsOne
import Derived.Test.YtajffjhfecckbaaWInv
import Derived.Test.YtajffjhfecckbaaWInvWords
import Derived.Test.YtajffjhfecckbaaWGuard
import Derived.Test.YtajffjhfecckbaaWNEv
import Derived.Test.YtajffjhfecckbaaWMore
namespace Go.Proofs.Ytajffjhfecckbaa.XAluAccs
open Go.RowKit Go.Proofs.YtajffjhfecckbaaW.PrintWords Go.Proofs.YtajffjhfecckbaaW.PrintLast Go.Proofs.YtajffjhfecckbaaW.PrintMore
attribute [local go_sem] max2_int min2_int max_two min_two max_three min_three max_four min_four   -- for this text's walks alone
set_option linter.unusedVariables false
set_option linter.unusedSimpArgs false



def errW : Option Int → Value
  | none => .nilIface
  | some c => .iface 0 (.int .i64 c)
theorem errW_none : errW none = .nilIface := rfl
theorem errW_some (c : Int) : errW (some c) = .iface 0 (.int .i64 c) := rfl

-- the values' own types

end Go.Proofs.Ytajffjhfecckbaa.XAluAccs
