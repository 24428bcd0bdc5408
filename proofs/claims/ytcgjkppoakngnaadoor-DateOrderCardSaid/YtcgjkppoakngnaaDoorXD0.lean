/- By a program of this session, over the print of the kit: for each function of the program what it computes, and that its call comes to just that. -/
import Derived.Test.YtcgjkppoakngnaaDoorProg
import Derived.Below
import Derived.Deep.Draws
import Derived.Deep.AppendLies
import Derived.Maps.AppendAt
import Derived.OwnWalk
import Derived.Laws.BytesArg
import Derived.Laws.MakeOwn
import Derived.Laws.OwnMore
import Derived.Deep.OwnRows
import Derived.Tactics
import Derived.Lib.ConvBytes
import Derived.Laws.Slices
import Derived.WalkKit
import Derived.KernelRfl
import Derived.RowKit3
import Derived.Deep.LoopGhost
import Derived.Deep.QuietTactic
import Derived.BigQuiet
import Derived.WideLaws
import Derived.Deep.DeepCutAuto
import Derived.Deep.CutBlock
import Derived.Deep.RegionHeld3
import Derived.Laws.Rows
import Derived.Lib.AppendStr
import Derived.ArgAppend
import Derived.Laws.IdiomCopy
import Derived.OrdersHeld
import Derived.Laws.BitsLemmas
import Derived.RowKit
import Derived.Test.YtcgjkppoakngnaaDoorS0D
import Derived.Test.YtcgjkppoakngnaaDoorWWords
import Derived.Test.YtcgjkppoakngnaaDoorWLast
import Derived.Test.YtcgjkppoakngnaaDoorWTab
import Derived.Test.YtcgjkppoakngnaaDoorWFour
import Derived.Test.YtcgjkppoakngnaaDoorWQPut
import Derived.Test.YtcgjkppoakngnaaDoorWApart
import Derived.Test.YtcgjkppoakngnaaDoorWArr
import Derived.Test.YtcgjkppoakngnaaDoorWZeros
import Derived.Test.YtcgjkppoakngnaaDoorWFoot
import Derived.Test.YtcgjkppoakngnaaDoorWKept
import Derived.Test.YtcgjkppoakngnaaDoorWShare
import Derived.Test.YtcgjkppoakngnaaDoorWN
import Derived.Test.YtcgjkppoakngnaaDoorWFootNe
import Derived.Test.YtcgjkppoakngnaaDoorWAt
import Derived.Test.YtcgjkppoakngnaaDoorWEqStruct
import Derived.Test.YtcgjkppoakngnaaDoorWRepsOne
import Derived.Test.YtcgjkppoakngnaaDoorWInv
import Derived.Test.YtcgjkppoakngnaaDoorWInvWords
import Derived.Test.YtcgjkppoakngnaaDoorWGuard
import Derived.Test.YtcgjkppoakngnaaDoorWNEv
import Derived.Test.YtcgjkppoakngnaaDoorWMore
namespace Go.Proofs.YtcgjkppoakngnaaDoor.X
open Go.RowKit Go.Proofs.Mine Go.Proofs.YtcgjkppoakngnaaDoorW.PrintWords Go.Proofs.YtcgjkppoakngnaaDoorW.PrintLast Go.Proofs.YtcgjkppoakngnaaDoorW.PrintMore
attribute [local go_sem] max2_int min2_int max_two min_two max_three min_three max_four min_four   -- for this text's walks alone
set_option linter.unusedVariables false
set_option linter.unusedSimpArgs false



def errW : Option Int → Value
  | none => .nilIface
  | some c => .iface 0 (.int .i64 c)
theorem errW_none : errW none = .nilIface := rfl
theorem errW_some (c : Int) : errW (some c) = .iface 0 (.int .i64 c) := rfl

theorem info3 : (Tryd.prog.info? 3).map (fun i => (i.zero, i.size, i.bytes)) = some (some (.int .i64 0), 1, 8) := by kernel_rfl
-- the values' own types

end Go.Proofs.YtcgjkppoakngnaaDoor.X
