/- What is told ahead of each law of the layer date holds. -/
import Derived.Test.YtcifbeiofjchgaaDoorPLib
import Derived.Test.YtcifbeiofjchgaaDoorX5
namespace Go.Proofs.YtcifbeiofjchgaaDoor.Pure
open Go.RowKit Go.Proofs.YtcifbeiofjchgaaDoorW.PrintWords Go.Proofs.YtcifbeiofjchgaaDoorW.PrintLast Go.Proofs.YtcifbeiofjchgaaDoor.X Go.Proofs.Mine
theorem awake_ev : Ev (fun k => frankinglaw10_awake.f k) true := Ev.of (k := 20) frankinglaw10_awake.mono (by kernel_rfl)
end Go.Proofs.YtcifbeiofjchgaaDoor.Pure
