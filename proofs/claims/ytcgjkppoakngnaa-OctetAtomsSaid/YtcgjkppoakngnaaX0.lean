/- By a program of this session, over the print of the kit: for each function of the program what it computes, and that its call comes to just that. -/
import Derived.Test.YtcgjkppoakngnaaProg
import Derived.Below
import Derived.Deep.Draws
import Derived.Deep.AppendLies
import Derived.Maps.AppendAt
import Derived.OwnWalk
import Derived.Laws.BytesArg
import Derived.Laws.MakeOwn
import Derived.Laws.OwnMore
import Derived.Deep.OwnRows
import Derived.Tactics
import Derived.Lib.ConvBytes
import Derived.Laws.Slices
import Derived.WalkKit
import Derived.KernelRfl
import Derived.RowKit3
import Derived.Deep.LoopGhost
import Derived.Deep.QuietTactic
import Derived.BigQuiet
import Derived.WideLaws
import Derived.Deep.DeepCutAuto
import Derived.Deep.CutBlock
import Derived.Deep.RegionHeld3
import Derived.Laws.Rows
import Derived.Lib.AppendStr
import Derived.ArgAppend
import Derived.Laws.IdiomCopy
import Derived.OrdersHeld
import Derived.Laws.BitsLemmas
import Derived.RowKit
import Derived.Test.YtcgjkppoakngnaaS0
import Derived.Test.YtcgjkppoakngnaaWWords
import Derived.Test.YtcgjkppoakngnaaWLast
import Derived.Test.YtcgjkppoakngnaaWTab
import Derived.Test.YtcgjkppoakngnaaWFour
import Derived.Test.YtcgjkppoakngnaaWQPut
import Derived.Test.YtcgjkppoakngnaaWApart
import Derived.Test.YtcgjkppoakngnaaWArr
import Derived.Test.YtcgjkppoakngnaaWZeros
import Derived.Test.YtcgjkppoakngnaaWFoot
import Derived.Test.YtcgjkppoakngnaaWKept
import Derived.Test.YtcgjkppoakngnaaWShare
import Derived.Test.YtcgjkppoakngnaaWN
import Derived.Test.YtcgjkppoakngnaaWFootNe
import Derived.Test.YtcgjkppoakngnaaWAt
import Derived.Test.YtcgjkppoakngnaaWEqStruct
import Derived.Test.YtcgjkppoakngnaaWRepsOne
import Derived.Test.YtcgjkppoakngnaaWInv
import Derived.Test.YtcgjkppoakngnaaWInvWords
import Derived.Test.YtcgjkppoakngnaaWGuard
import Derived.Test.YtcgjkppoakngnaaWNEv
import Derived.Test.YtcgjkppoakngnaaWMore
namespace Go.Proofs.Ytcgjkppoakngnaa.X
open Go.RowKit Go.Proofs.Mine Go.Proofs.YtcgjkppoakngnaaW.PrintWords Go.Proofs.YtcgjkppoakngnaaW.PrintLast Go.Proofs.YtcgjkppoakngnaaW.PrintMore
attribute [local go_sem] max2_int min2_int max_two min_two max_three min_three max_four min_four   -- for this text's walks alone
set_option linter.unusedVariables false
set_option linter.unusedSimpArgs false



def errW : Option Int → Value
  | none => .nilIface
  | some c => .iface 0 (.int .i64 c)
theorem errW_none : errW none = .nilIface := rfl
theorem errW_some (c : Int) : errW (some c) = .iface 0 (.int .i64 c) := rfl

theorem info5 : (Try.prog.info? 5).map (fun i => (i.zero, i.size, i.bytes)) = some (some (.int .u8 0), 1, 1) := by kernel_rfl
-- the values' own types

end Go.Proofs.Ytcgjkppoakngnaa.X
