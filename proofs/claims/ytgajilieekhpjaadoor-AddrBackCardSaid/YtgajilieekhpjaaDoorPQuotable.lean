/- Which bytes may be quoted. -/
import Derived.Test.YtgajilieekhpjaaDoorPLib
import Derived.Test.YtgajilieekhpjaaDoorX2
namespace Go.Proofs.Mine
open Go.RowKit Go.Proofs.YtgajilieekhpjaaDoorW.PrintWords Go.Proofs.YtgajilieekhpjaaDoorW.PrintLast Go.Proofs.YtgajilieekhpjaaDoor.X
set_option linter.unusedSimpArgs false

/-- May a byte be quoted? -/
def quotC (c : Int) : Bool := !decide (c = 0) && !decide (c = 13) && !decide (c = 10) && decide (c ≤ 127)
theorem quotable_eq (c : Int) : octet_quotable.f c = some (quotC c) := by
  unfold octet_quotable.f quotC
  by_cases h0 : c = 0
  · simp [h0]
  by_cases h1 : c = 13
  · simp [h0, h1]
  by_cases h2 : c = 10
  · simp [h0, h1, h2]
  simp [h0, h1, h2]
/-- How a byte is written within quotes. -/
def esc (c : Int) : List Int := if c = 34 ∨ c = 92 then [92, c] else [c]
theorem esc_len (c : Int) : (esc c).length ≤ 2 := by unfold esc; split <;> simp
end Go.Proofs.Mine
