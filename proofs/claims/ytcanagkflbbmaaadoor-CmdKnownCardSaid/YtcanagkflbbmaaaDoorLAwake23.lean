/- Commands: the law is awake. -/
import Derived.Test.YtcanagkflbbmaaaDoorLCmd8
set_option linter.unusedVariables false
set_option linter.unusedSimpArgs false
set_option maxRecDepth 100000
set_option maxHeartbeats 8000000
namespace Go.Proofs.YtcanagkflbbmaaaDoor.L
open Go Go.Proofs Go.Dev Go.RowKit
theorem Awake : Prim E 9 [] (.val (.bool true)) :=
  ran1 (C := primC Tryd.prog [19, 24, 25, 26, 28, 29, 30, 31, 41, 43, 44, 45, 46, 47, 50, 51, 52, 62, 63, 105] 1000 [(20, .bIdx)]) (n := 60) (tab := []) rfl (prim_world names (fun e he => by
    rcases List.mem_singleton.1 he with rfl
    exact ⟨(hasBody Tryd.func20 rfl), fun a1 a2 n c1 k c2 xs ys m w h1 h2 h3 h4 h5 h6 h7 h8 h9 h10 => Tryd.bytes_Index_at a1 a2 n c1 k c2 xs ys m w h1 h2 h3 h4 h5 h6 h7 h8 h9 h10⟩)) .nil (by kernel_rfl)
end Go.Proofs.YtcanagkflbbmaaaDoor.L
