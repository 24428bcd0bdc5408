/- What is told ahead of each law of the layer date holds. -/
import Derived.Test.YtcgjkppoakngnaaDoorPDLib
import Derived.Test.YtcgjkppoakngnaaDoorXD4
namespace Go.Proofs.YtcgjkppoakngnaaDoor.Pure
open Go.RowKit Go.Proofs.YtcgjkppoakngnaaDoorW.PrintWords Go.Proofs.YtcgjkppoakngnaaDoorW.PrintLast Go.Proofs.YtcgjkppoakngnaaDoor.X Go.Proofs.Mine
theorem awake_ev : Ev (fun k => frankinglaw10_awake.f k) true := Ev.of (k := 20) frankinglaw10_awake.mono (by kernel_rfl)
end Go.Proofs.YtcgjkppoakngnaaDoor.Pure
