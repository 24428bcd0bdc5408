/- Commands: the law is awake. -/
import Derived.Test.YtcanagkflbbmaaaGreatDoorLCmd8
set_option linter.unusedVariables false
set_option linter.unusedSimpArgs false
set_option maxRecDepth 100000
set_option maxHeartbeats 8000000
namespace Go.Proofs.YtcanagkflbbmaaaGreatDoor.L
open Go Go.Proofs Go.Dev Go.RowKit
theorem Awake : Prim E 4 [] (.val (.bool true)) :=
  ran1 (C := primC Tryz.prog [12, 19, 20, 21, 23, 24, 25, 26, 43, 45, 46, 47, 48, 49, 61, 62, 63, 75, 76, 118] 1000 [(13, .bIdx)]) (n := 60) (tab := []) rfl (prim_world names (fun e he => by
    rcases List.mem_singleton.1 he with rfl
    exact ⟨(hasBody Tryz.func13 rfl), fun a1 a2 n c1 k c2 xs ys m w h1 h2 h3 h4 h5 h6 h7 h8 h9 h10 => Tryz.bytes_Index_at a1 a2 n c1 k c2 xs ys m w h1 h2 h3 h4 h5 h6 h7 h8 h9 h10⟩)) .nil (by kernel_rfl)
end Go.Proofs.YtcanagkflbbmaaaGreatDoor.L
