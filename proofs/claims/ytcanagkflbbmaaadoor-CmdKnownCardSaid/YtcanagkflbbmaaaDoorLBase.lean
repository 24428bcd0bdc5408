/- The program, and what is known of the world. -/
import Derived.Test.YtcanagkflbbmaaaDoorProg
import Derived.Test.YtcanagkflbbmaaaDoorLog3
namespace Go.Proofs.YtcanagkflbbmaaaDoor.L
open Go Go.Proofs Go.Dev Go.RowKit
theorem names : Go.Dev.namesOk Tryd.prog = true := by kernel_rfl
noncomputable def E : Env := { P := Tryd.prog, G := MaxG 0, NG := 0 + 1 }
theorem ok : E.Ok := ⟨(prim_world (imps := []) (L := 0) (ga := 0) (tab := []) names (fun e he => by cases he)).name, (prim_world (imps := []) (L := 0) (ga := 0) (tab := []) names (fun e he => by cases he)).glob, by kernel_rfl⟩
def ga : Nat := 0
end Go.Proofs.YtcanagkflbbmaaaDoor.L
