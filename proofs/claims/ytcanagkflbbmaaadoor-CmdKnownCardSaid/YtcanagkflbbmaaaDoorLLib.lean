/- Functions of the library, by the shelf's contracts. -/
import Derived.Test.YtcanagkflbbmaaaDoorLBase
import Derived.Test.YtcanagkflbbmaaaDoorShelf
set_option linter.unusedVariables false
set_option linter.unusedSimpArgs false
set_option maxRecDepth 100000
set_option maxHeartbeats 8000000
namespace Go.Proofs.YtcanagkflbbmaaaDoor.L
open Go Go.Proofs Go.Dev Go.RowKit
def big : Nat := 4000000000000000000
theorem IndexByte (s : List UInt8) (c : UInt8) : Prim E 60 [Str s, .int .u8 (c.toNat : Int)] (.val (.int .i64 (Lib.indexByte s c))) :=
  Prim.same ((hasBody Tryd.func60 rfl)) (l := [.string ⟨s.toArray⟩, .int .u8 (c.toNat : Int)]) rfl rfl fun w _ => by
    show Calls Tryd.prog _ _ w _
    have h := Tryd.strings_IndexByte ⟨s.toArray⟩ (c.toNat : Int) w
    rw [Int.toNat_natCast] at h
    simpa using h
end Go.Proofs.YtcanagkflbbmaaaDoor.L
