/- What is told ahead of each law of the layer seq holds. -/
import Derived.Test.YtdmpnjebomdllaaDoorPLib
import Derived.Test.YtdmpnjebomdllaaDoorX3
namespace Go.Proofs.YtdmpnjebomdllaaDoor.Pure
open Go.RowKit Go.Proofs.YtdmpnjebomdllaaDoorW.PrintWords Go.Proofs.YtdmpnjebomdllaaDoorW.PrintLast Go.Proofs.YtdmpnjebomdllaaDoor.X Go.Proofs.Mine
theorem awake_ev : Ev (fun k => frankinglaw9_awake.f k) true := Ev.of (k := 20) frankinglaw9_awake.mono (by kernel_rfl)
end Go.Proofs.YtdmpnjebomdllaaDoor.Pure
