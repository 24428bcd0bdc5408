/- What is told ahead of each law of the layer octet holds. -/
import Derived.Test.YtcgjkppoakngnaaDoorPLib
import Derived.Test.YtcgjkppoakngnaaDoorX2
namespace Go.Proofs.YtcgjkppoakngnaaDoor.Pure
open Go.RowKit Go.Proofs.YtcgjkppoakngnaaDoorW.PrintWords Go.Proofs.YtcgjkppoakngnaaDoorW.PrintLast Go.Proofs.YtcgjkppoakngnaaDoor.X Go.Proofs.Mine
theorem awake_ev : Ev (fun k => frankinglaw1_awake.f k) true := Ev.of (k := 20) frankinglaw1_awake.mono (by kernel_rfl)
end Go.Proofs.YtcgjkppoakngnaaDoor.Pure
