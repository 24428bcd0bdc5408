/- Texts told by their bytes. -/
import Derived.Test.YtonlncajnniebaaDoorPLib
namespace Go.Proofs.Mine
open Go.RowKit Go.Proofs.YtonlncajnniebaaDoorW.PrintWords Go.Proofs.YtonlncajnniebaaDoorW.PrintLast

def Nm (s : List UInt8) : List Int := s.map fun b => (b.toNat : Int)
theorem Nm_app (a b : List UInt8) : Nm (a ++ b) = Nm a ++ Nm b := by simp [Nm]
theorem Nm_len (a : List UInt8) : (Nm a).length = a.length := by simp [Nm]
theorem bytesOf_Nm (s : List UInt8) : bytesOf ⟨s.toArray⟩ = Nm s := bytesOf_lit s
theorem Nm_byte (s : List UInt8) : ∀ c ∈ Nm s, Byte c := by rw [← bytesOf_Nm]; exact bytesOf_byte _
theorem strN (s : List UInt8) : strOfNums (Nm s) = ⟨s.toArray⟩ := bytesOf_inj (by rw [bytesOf_strOfNums (Nm_byte s), bytesOf_Nm])
theorem sizeN (s : List UInt8) : (⟨s.toArray⟩ : ByteArray).size = s.length := by rw [← bytesOf_length, bytesOf_Nm, Nm_len]
theorem dataN (s : List UInt8) : (⟨s.toArray⟩ : ByteArray).data.toList = s := by simp
end Go.Proofs.Mine
