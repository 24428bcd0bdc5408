/- Folded texts, plainly. -/
import Derived.Test.YtcgjkppoakngnaaDoorPLib
import Derived.Test.YtcgjkppoakngnaaDoorX2
namespace Go.Proofs.Mine
open Go.RowKit Go.Proofs.YtcgjkppoakngnaaDoorW.PrintWords Go.Proofs.YtcgjkppoakngnaaDoorW.PrintLast Go.Proofs.YtcgjkppoakngnaaDoor.X

theorem low_low (c : UInt8) : low (low c) = low c := by
  have h : ∀ n : Fin 256, low (low (UInt8.ofNat n.val)) = low (UInt8.ofNat n.val) := by decide +kernel
  have := h ⟨c.toNat, c.toNat_lt⟩
  simpa using this
theorem foldBA_fold (s : ByteArray) : foldBA (foldBA s) = foldBA s := by
  unfold foldBA
  simp only [Array.map_map]
  congr 1
  apply Array.map_congr_left
  intro c _
  exact low_low c
theorem fold_eq (s : ByteArray) (h : s.size ≤ 9223372036854775807) : octet_Fold.f s = some (foldBA s) := by
  unfold octet_Fold.f
  rw [if_pos h]
end Go.Proofs.Mine
