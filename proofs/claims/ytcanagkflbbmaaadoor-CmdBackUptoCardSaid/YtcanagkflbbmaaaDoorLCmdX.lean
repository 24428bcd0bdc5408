/- Commands: lists of words that are alike. -/
import Derived.Test.YtcanagkflbbmaaaDoorLCmd15
set_option linter.unusedVariables false
set_option linter.unusedSimpArgs false
set_option maxRecDepth 100000
set_option maxHeartbeats 8000000
namespace Go.Proofs.YtcanagkflbbmaaaDoor.L
open Go Go.Proofs Go.Dev Go.RowKit
theorem SameA (A B : List Word) (hA : A.length < 1000000) (hB : B.length < 1000000) (fA : ∀ w ∈ A, Fits w) (fB : ∀ w ∈ B, Fits w) : Prim E 23 [.agg [Str [], .bool false, .imm 4 (A.map wdv), .bool false], .agg [Str [], .bool false, .imm 4 (B.map wdv), .bool false]] (.val (.bool (weq (.mk [] false A false) (.mk [] false B false)))) := by
  have := Same _ (.mk [] false A false) (.mk [] false B false) (Nat.le_refl _) (.mk _ _ _ _ hA (by decide) fA) (.mk _ _ _ _ hB (by decide) fB)
  rw [wdv_mk, wdv_mk] at this
  exact this
end Go.Proofs.YtcanagkflbbmaaaDoor.L
