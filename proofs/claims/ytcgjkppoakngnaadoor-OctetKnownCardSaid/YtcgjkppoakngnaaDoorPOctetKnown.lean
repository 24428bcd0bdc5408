/- OctetKnown, as a plain law: one computation. -/
import Derived.Test.YtcgjkppoakngnaaDoorPLib
import Derived.Test.YtcgjkppoakngnaaDoorX6
namespace Go.Proofs.YtcgjkppoakngnaaDoor.Pure
open Go.RowKit Go.Proofs.YtcgjkppoakngnaaDoorW.PrintWords Go.Proofs.YtcgjkppoakngnaaDoorW.PrintLast Go.Proofs.YtcgjkppoakngnaaDoor.X Go.Proofs.Mine
theorem OctetKnown : frankinglaw1_OctetKnown.Pure := ⟨30, by kernel_rfl⟩
end Go.Proofs.YtcgjkppoakngnaaDoor.Pure
