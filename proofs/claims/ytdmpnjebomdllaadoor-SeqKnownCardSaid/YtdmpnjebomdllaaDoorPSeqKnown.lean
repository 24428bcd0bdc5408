/- SeqKnown, as a plain law: one computation. -/
import Derived.Test.YtdmpnjebomdllaaDoorPLib
import Derived.Test.YtdmpnjebomdllaaDoorX11
namespace Go.Proofs.YtdmpnjebomdllaaDoor.Pure
open Go.RowKit Go.Proofs.YtdmpnjebomdllaaDoorW.PrintWords Go.Proofs.YtdmpnjebomdllaaDoorW.PrintLast Go.Proofs.YtdmpnjebomdllaaDoor.X Go.Proofs.Mine
theorem SeqKnown : frankinglaw9_SeqKnown.Pure := ⟨500, by kernel_rfl⟩
end Go.Proofs.YtdmpnjebomdllaaDoor.Pure
