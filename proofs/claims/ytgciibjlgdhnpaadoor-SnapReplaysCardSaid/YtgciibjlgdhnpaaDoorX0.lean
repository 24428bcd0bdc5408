/- By a program of this session, over the print of the kit: for each function of the program what it computes, and that its call comes to just that. -/
import Derived.Test.YtgciibjlgdhnpaaDoorProg
import Derived.Below
import Derived.Deep.Draws
import Derived.Deep.AppendLies
import Derived.Maps.AppendAt
import Derived.OwnWalk
import Derived.Laws.BytesArg
import Derived.Laws.MakeOwn
import Derived.Laws.OwnMore
import Derived.Deep.OwnRows
import Derived.Tactics
import Derived.Lib.ConvBytes
import Derived.Laws.Slices
import Derived.WalkKit
import Derived.KernelRfl
import Derived.RowKit3
import Derived.Deep.LoopGhost
import Derived.Deep.QuietTactic
import Derived.BigQuiet
import Derived.WideLaws
import Derived.Deep.DeepCutAuto
import Derived.Deep.CutBlock
import Derived.Deep.RegionHeld3
import Derived.Laws.Rows
import Derived.Lib.AppendStr
import Derived.ArgAppend
import Derived.Laws.IdiomCopy
import Derived.OrdersHeld
import Derived.Laws.BitsLemmas
import Derived.RowKit
import Derived.Test.YtgciibjlgdhnpaaDoorS0
import Derived.Test.YtgciibjlgdhnpaaDoorMpu
import Derived.Test.YtgciibjlgdhnpaaDoorAwake
import Derived.Test.YtgciibjlgdhnpaaDoorWWords
import Derived.Test.YtgciibjlgdhnpaaDoorWLast
import Derived.Test.YtgciibjlgdhnpaaDoorWTab
import Derived.Test.YtgciibjlgdhnpaaDoorWFour
import Derived.Test.YtgciibjlgdhnpaaDoorWQPut
import Derived.Test.YtgciibjlgdhnpaaDoorWApart
import Derived.Test.YtgciibjlgdhnpaaDoorWArr
import Derived.Test.YtgciibjlgdhnpaaDoorWZeros
import Derived.Test.YtgciibjlgdhnpaaDoorWFoot
import Derived.Test.YtgciibjlgdhnpaaDoorWKept
import Derived.Test.YtgciibjlgdhnpaaDoorWShare
import Derived.Test.YtgciibjlgdhnpaaDoorWN
import Derived.Test.YtgciibjlgdhnpaaDoorWFootNe
import Derived.Test.YtgciibjlgdhnpaaDoorWAt
import Derived.Test.YtgciibjlgdhnpaaDoorWEqStruct
import Derived.Test.YtgciibjlgdhnpaaDoorWRepsOne
import Derived.Test.YtgciibjlgdhnpaaDoorWInv
import Derived.Test.YtgciibjlgdhnpaaDoorWInvWords
import Derived.Test.YtgciibjlgdhnpaaDoorWGuard
import Derived.Test.YtgciibjlgdhnpaaDoorWNEv
import Derived.Test.YtgciibjlgdhnpaaDoorWMore
namespace Go.Proofs.YtgciibjlgdhnpaaDoor.X
open Go.RowKit Go.Proofs.Mine Go.Proofs.YtgciibjlgdhnpaaDoorW.PrintWords Go.Proofs.YtgciibjlgdhnpaaDoorW.PrintLast Go.Proofs.YtgciibjlgdhnpaaDoorW.PrintMore
attribute [local go_sem] max2_int min2_int max_two min_two max_three min_three max_four min_four   -- for this text's walks alone
set_option linter.unusedVariables false
set_option linter.unusedSimpArgs false



def errW : Option Int → Value
 | none => .nilIface
 | some c => .iface 0 (.int .i64 c)
theorem errW_none : errW none = .nilIface := rfl
theorem errW_some (c : Int) : errW (some c) = .iface 0 (.int .i64 c) := rfl

theorem info9 : (Tryd.prog.info? 9).map (fun i => (i.zero, i.size, i.bytes)) = some (some (.string ⟨#[]⟩), 1, 16) := by kernel_rfl
-- the values' own types

end Go.Proofs.YtgciibjlgdhnpaaDoor.X
