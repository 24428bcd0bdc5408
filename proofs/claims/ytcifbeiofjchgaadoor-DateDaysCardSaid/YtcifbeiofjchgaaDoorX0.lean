/- By a program of this session, over the print of the kit: for each function of the program what it computes, and that its call comes to just that. -/
import Derived.Test.YtcifbeiofjchgaaDoorProg
import Derived.Below
import Derived.Deep.Draws
import Derived.Deep.AppendLies
import Derived.Maps.AppendAt
import Derived.OwnWalk
import Derived.Laws.BytesArg
import Derived.Laws.MakeOwn
import Derived.Laws.OwnMore
import Derived.Deep.OwnRows
import Derived.Tactics
import Derived.Lib.ConvBytes
import Derived.Laws.Slices
import Derived.WalkKit
import Derived.KernelRfl
import Derived.RowKit3
import Derived.Deep.LoopGhost
import Derived.Deep.QuietTactic
import Derived.BigQuiet
import Derived.WideLaws
import Derived.Deep.DeepCutAuto
import Derived.Deep.CutBlock
import Derived.Deep.RegionHeld3
import Derived.Laws.Rows
import Derived.Lib.AppendStr
import Derived.ArgAppend
import Derived.Laws.IdiomCopy
import Derived.OrdersHeld
import Derived.Laws.BitsLemmas
import Derived.RowKit
import Derived.Test.YtcifbeiofjchgaaDoorS0
import Derived.Test.YtcifbeiofjchgaaDoorWWords
import Derived.Test.YtcifbeiofjchgaaDoorWLast
import Derived.Test.YtcifbeiofjchgaaDoorWTab
import Derived.Test.YtcifbeiofjchgaaDoorWFour
import Derived.Test.YtcifbeiofjchgaaDoorWQPut
import Derived.Test.YtcifbeiofjchgaaDoorWApart
import Derived.Test.YtcifbeiofjchgaaDoorWArr
import Derived.Test.YtcifbeiofjchgaaDoorWZeros
import Derived.Test.YtcifbeiofjchgaaDoorWFoot
import Derived.Test.YtcifbeiofjchgaaDoorWKept
import Derived.Test.YtcifbeiofjchgaaDoorWShare
import Derived.Test.YtcifbeiofjchgaaDoorWN
import Derived.Test.YtcifbeiofjchgaaDoorWFootNe
import Derived.Test.YtcifbeiofjchgaaDoorWAt
import Derived.Test.YtcifbeiofjchgaaDoorWEqStruct
import Derived.Test.YtcifbeiofjchgaaDoorWRepsOne
import Derived.Test.YtcifbeiofjchgaaDoorWInv
import Derived.Test.YtcifbeiofjchgaaDoorWInvWords
import Derived.Test.YtcifbeiofjchgaaDoorWGuard
import Derived.Test.YtcifbeiofjchgaaDoorWNEv
import Derived.Test.YtcifbeiofjchgaaDoorWMore
namespace Go.Proofs.YtcifbeiofjchgaaDoor.X
open Go.RowKit Go.Proofs.Mine Go.Proofs.YtcifbeiofjchgaaDoorW.PrintWords Go.Proofs.YtcifbeiofjchgaaDoorW.PrintLast Go.Proofs.YtcifbeiofjchgaaDoorW.PrintMore
attribute [local go_sem] max2_int min2_int max_two min_two max_three min_three max_four min_four   -- for this text's walks alone
set_option linter.unusedVariables false
set_option linter.unusedSimpArgs false



def errW : Option Int → Value
 | none => .nilIface
 | some c => .iface 0 (.int .i64 c)
theorem errW_none : errW none = .nilIface := rfl
theorem errW_some (c : Int) : errW (some c) = .iface 0 (.int .i64 c) := rfl

theorem info3 : (Tryd.prog.info? 3).map (fun i => (i.zero, i.size, i.bytes)) = some (some (.int .i64 0), 1, 8) := by kernel_rfl
-- the values' own types

end Go.Proofs.YtcifbeiofjchgaaDoor.X
