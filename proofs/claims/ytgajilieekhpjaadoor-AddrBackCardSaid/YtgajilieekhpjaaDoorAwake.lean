/- frankinglaw12.awake answers true: the kernel runs the evaluator over the program's code. -/
import Derived.Test.YtgajilieekhpjaaDoorDev4
import Derived.Test.YtgajilieekhpjaaDoorShelf
namespace Go.Proofs.Mine
open Go.Proofs Go.RowKit
set_option linter.unusedVariables false
set_option maxRecDepth 1000000
def apt : List (FuncId × Go.Dev.PK) := [(72, .sIdx), (33, .sAny)]
theorem aprims : ∀ e ∈ apt, Go.Dev.PKOK Tryd.prog 0 e.1 e.2 := by
  intro e he
  simp only [apt, List.mem_cons, List.not_mem_nil, or_false] at he
  rcases he with rfl | rfl
  · exact ⟨⟨_, Tryd.func72, by kernel_rfl⟩, fun s t m w h1 h2 => Tryd.stringslite_Index s t m w h1 h2⟩
  · exact ⟨⟨_, Tryd.func33, by kernel_rfl⟩, fun s t w h1 h2 h3 h4 => Tryd.strings_IndexAny_laid s t w h1 h2 h3 h4⟩
theorem anames : Go.Dev.namesOk Tryd.prog = true := by kernel_rfl
theorem arun : Go.Dev.isTrue (Go.Dev.runT (Go.Dev.primC Tryd.prog [20, 22, 23, 40, 41, 63, 108] 1000000 apt) [] 60 7 [] []) = true := by kernel_rfl
theorem awake_walk (w : World) (hg : ∃ m, w.cell? ⟨0, 0, none⟩ = some (.int .i64 m)) : Calls Tryd.prog 7 #[] w fun e w' => e = .returned (.bool true) ∧ Below w.heap.size w w' := Go.Dev.knownP anames aprims Go.Dev.TabOK.nil arun w hg
#print axioms awake_walk
end Go.Proofs.Mine
