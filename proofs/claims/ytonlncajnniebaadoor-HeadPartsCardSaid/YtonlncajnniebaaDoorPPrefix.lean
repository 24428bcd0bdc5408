/- Does a text begin with another? -/
import Derived.Test.YtonlncajnniebaaDoorPLib
import Derived.Test.YtonlncajnniebaaDoorX1
namespace Go.Proofs.Mine
open Go.RowKit Go.Proofs.YtonlncajnniebaaDoorW.PrintWords Go.Proofs.YtonlncajnniebaaDoorW.PrintLast Go.Proofs.YtonlncajnniebaaDoor.X

theorem hasPrefix_eq (s p : ByteArray) : strings_HasPrefix.f s p = some (decide ((bytesOf s).take p.size = bytesOf p)) := by
  unfold strings_HasPrefix.f stringslite_HasPrefix.f
  by_cases h : p.size ≤ s.size
  · rw [if_pos (by omega), if_pos (by omega), if_pos (by omega), Option.bind_some, toList_beq, bytesOf_extract, Int.toNat_natCast, List.drop_zero]
  · rw [if_neg (by omega), Option.bind_some]
    rw [decide_eq_false]
    intro e
    have := congrArg List.length e
    rw [List.length_take, bytesOf_length, bytesOf_length] at this
    omega
end Go.Proofs.Mine
