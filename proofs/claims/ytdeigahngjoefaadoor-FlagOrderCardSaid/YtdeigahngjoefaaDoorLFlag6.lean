/- Flags: the order of what is given does not count, whatever came in. -/
import Derived.Test.YtdeigahngjoefaaDoorLFlag5
set_option linter.unusedVariables false
set_option linter.unusedSimpArgs false
set_option maxRecDepth 100000
set_option maxHeartbeats 8000000
namespace Go.Proofs.YtdeigahngjoefaaDoor.L
open Go Go.Proofs Go.Dev Go.RowKit
theorem Order (l : List Txt) (h : l.length ≤ reachBytes ∧ ∀ s ∈ l, s.length ≤ reachBytes) : Prim E 3 [Strs l] (.val (.bool true)) := by
  by_cases h0 : l = []
  · subst h0
    exact Order0
  · exact Order1 l (by unfold reachBytes at h; unfold big; omega) (fun x hx => by have := h.2 x hx; unfold reachBytes at this; unfold big; omega) h0
end Go.Proofs.YtdeigahngjoefaaDoor.L
