/- HeadKnown, as a plain law: one computation. -/
import Derived.Test.YtonlncajnniebaaDoorPLib
import Derived.Test.YtonlncajnniebaaDoorX11
namespace Go.Proofs.YtonlncajnniebaaDoor.Pure
open Go.RowKit Go.Proofs.YtonlncajnniebaaDoorW.PrintWords Go.Proofs.YtonlncajnniebaaDoorW.PrintLast Go.Proofs.YtonlncajnniebaaDoor.X Go.Proofs.Mine
theorem HeadKnown : frankinglaw11_HeadKnown.Pure := ⟨200, by kernel_rfl⟩
end Go.Proofs.YtonlncajnniebaaDoor.Pure
