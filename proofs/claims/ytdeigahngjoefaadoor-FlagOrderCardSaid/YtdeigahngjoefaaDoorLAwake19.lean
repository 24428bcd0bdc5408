/- Flags: the law is awake; the law of no flags. -/
import Derived.Test.YtdeigahngjoefaaDoorLSort
set_option linter.unusedVariables false
set_option linter.unusedSimpArgs false
set_option maxRecDepth 100000
set_option maxHeartbeats 8000000
namespace Go.Proofs.YtdeigahngjoefaaDoor.L
open Go Go.Proofs Go.Dev Go.RowKit
theorem Awake : Prim E 7 [] (.val (.bool true)) :=
  ran1 (C := primC Tryd.prog [28, 46, 53, 54, 55, 56, 60, 61, 75, 76, 113] 1000 []) (n := 60) (tab := []) rfl (prim_world names (fun e he => by cases he)) .nil (by kernel_rfl)
end Go.Proofs.YtdeigahngjoefaaDoor.L
