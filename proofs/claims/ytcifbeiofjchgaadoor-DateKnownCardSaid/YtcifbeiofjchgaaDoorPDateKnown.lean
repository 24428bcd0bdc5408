/- DateKnown, as a plain law: one computation. -/
import Derived.Test.YtcifbeiofjchgaaDoorPLib
import Derived.Test.YtcifbeiofjchgaaDoorX9
namespace Go.Proofs.YtcifbeiofjchgaaDoor.Pure
open Go.RowKit Go.Proofs.YtcifbeiofjchgaaDoorW.PrintWords Go.Proofs.YtcifbeiofjchgaaDoorW.PrintLast Go.Proofs.YtcifbeiofjchgaaDoor.X Go.Proofs.Mine
theorem DateKnown : frankinglaw10_DateKnown.Pure := ⟨60, by kernel_rfl⟩
end Go.Proofs.YtcifbeiofjchgaaDoor.Pure
