/- What is told ahead of each law of the layer head holds. -/
import Derived.Test.YtonlncajnniebaaDoorPLib
import Derived.Test.YtonlncajnniebaaDoorX3
namespace Go.Proofs.YtonlncajnniebaaDoor.Pure
open Go.RowKit Go.Proofs.YtonlncajnniebaaDoorW.PrintWords Go.Proofs.YtonlncajnniebaaDoorW.PrintLast Go.Proofs.YtonlncajnniebaaDoor.X Go.Proofs.Mine
theorem awake_ev : Ev (fun k => frankinglaw11_awake.f k) true := Ev.of (k := 60) frankinglaw11_awake.mono (by kernel_rfl)
end Go.Proofs.YtonlncajnniebaaDoor.Pure
