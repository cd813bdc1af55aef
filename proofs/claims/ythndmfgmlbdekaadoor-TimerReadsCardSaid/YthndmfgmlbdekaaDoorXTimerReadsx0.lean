-- Made by this seat's own program wip/tools/xprint.py and thread.py.
import Derived.Test.YthndmfgmlbdekaaDoorProg
import Derived.Below
import Derived.Deep.Draws
import Derived.Deep.AppendLies
import Derived.Maps.AppendAt
import Derived.OwnWalk
import Derived.Laws.BytesArg
import Derived.Laws.MakeOwn
import Derived.Laws.OwnMore
import Derived.Deep.OwnRows
import Derived.Tactics
import Derived.Lib.ConvBytes
import Derived.Laws.Slices
import Derived.WalkKit
import Derived.KernelRfl
import Derived.RowKit3
import Derived.Deep.LoopGhost
import Derived.Deep.QuietTactic
import Derived.BigQuiet
import Derived.WideLaws
import Derived.Deep.DeepCutAuto
import Derived.Deep.CutBlock
import Derived.Deep.RegionHeld3
import Derived.Laws.Rows
import Derived.Lib.AppendStr
import Derived.ArgAppend
import Derived.Laws.IdiomCopy
import Derived.OrdersHeld
import Derived.Laws.BitsLemmas
import Derived.RowKit
import Derived.Test.YthndmfgmlbdekaaDoorDivider
import Derived.Test.YthndmfgmlbdekaaDoorWWords
import Derived.Test.YthndmfgmlbdekaaDoorWLast
import Derived.Test.YthndmfgmlbdekaaDoorWTab
import Derived.Test.YthndmfgmlbdekaaDoorWQPut
import Derived.Test.YthndmfgmlbdekaaDoorWApart
import Derived.Test.YthndmfgmlbdekaaDoorWArr
import Derived.Test.YthndmfgmlbdekaaDoorWZeros
import Derived.Test.YthndmfgmlbdekaaDoorWFoot
import Derived.Test.YthndmfgmlbdekaaDoorWKept
import Derived.Test.YthndmfgmlbdekaaDoorWShare
import Derived.Test.YthndmfgmlbdekaaDoorWN
import Derived.Test.YthndmfgmlbdekaaDoorWEqStruct
import Derived.Test.YthndmfgmlbdekaaDoorWRepsOne
import Derived.Test.YthndmfgmlbdekaaDoorWGuard
import Derived.Test.YthndmfgmlbdekaaDoorWNEv
import Derived.Test.YthndmfgmlbdekaaDoorWMore
namespace Go.Proofs.YthndmfgmlbdekaaDoor.XTimerReads
open Go.RowKit Go.Proofs.YthndmfgmlbdekaaDoor.Ext Go.Proofs.YthndmfgmlbdekaaDoorW.PrintWords Go.Proofs.YthndmfgmlbdekaaDoorW.PrintLast Go.Proofs.YthndmfgmlbdekaaDoorW.PrintMore
attribute [local go_sem] max2_int min2_int max_two min_two max_three min_three max_four min_four   -- for this text's walks alone
set_option linter.unusedVariables false
set_option linter.unusedSimpArgs false



def errW : Option Int → Value
  | none => .nilIface
  | some c => .iface 0 (.int .i64 c)
theorem errW_none : errW none = .nilIface := rfl
theorem errW_some (c : Int) : errW (some c) = .iface 0 (.int .i64 c) := rfl

-- the values' own types

end Go.Proofs.YthndmfgmlbdekaaDoor.XTimerReads
