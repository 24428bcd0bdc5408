/- What is told ahead of each law of the layer octet holds. -/
import Derived.Test.YtcgjkppoakngnaaPLib
import Derived.Test.YtcgjkppoakngnaaX2
namespace Go.Proofs.Ytcgjkppoakngnaa.Pure
open Go.RowKit Go.Proofs.YtcgjkppoakngnaaW.PrintWords Go.Proofs.YtcgjkppoakngnaaW.PrintLast Go.Proofs.Ytcgjkppoakngnaa.X Go.Proofs.Mine
theorem awake_ev : Ev (fun k => frankinglaw1_awake.f k) true := Ev.of (k := 20) frankinglaw1_awake.mono (by kernel_rfl)
end Go.Proofs.Ytcgjkppoakngnaa.Pure
