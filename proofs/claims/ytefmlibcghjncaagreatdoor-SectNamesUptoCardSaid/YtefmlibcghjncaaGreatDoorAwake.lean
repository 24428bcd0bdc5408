/- frankinglaw17.awake answers true: the kernel runs the evaluator over the program's code. -/
import Derived.Test.YtefmlibcghjncaaGreatDoorDev4
import Derived.Test.YtefmlibcghjncaaGreatDoorShelf
namespace Go.Proofs.Mine
open Go.Proofs Go.RowKit
set_option linter.unusedVariables false
set_option maxRecDepth 1000000
def apt : List (FuncId × Go.Dev.PK) := [(87, .bIdx), (80, .sIdx), (74, .sIdx), (160, .sAny), (152, .sHas)]
theorem aprims : ∀ e ∈ apt, Go.Dev.PKOK Tryz.prog 0 e.1 e.2 := by
  intro e he
  simp only [apt, List.mem_cons, List.not_mem_nil, or_false] at he
  rcases he with rfl | rfl | rfl | rfl | rfl
  · exact ⟨⟨_, Tryz.func87, by kernel_rfl⟩, fun a1 a2 n c1 k c2 xs ys m w h1 h2 h3 h4 h5 h6 h7 h8 h9 h10 => Tryz.bytes_Index_at a1 a2 n c1 k c2 xs ys m w h1 h2 h3 h4 h5 h6 h7 h8 h9 h10⟩
  · exact ⟨⟨_, Tryz.func80, by kernel_rfl⟩, fun s t m w h1 h2 => Tryz.strings_Index s t m w h1 h2⟩
  · exact ⟨⟨_, Tryz.func74, by kernel_rfl⟩, fun s t m w h1 h2 => Tryz.stringslite_Index s t m w h1 h2⟩
  · exact ⟨⟨_, Tryz.func160, by kernel_rfl⟩, fun s t w h1 h2 h3 h4 => Tryz.strings_IndexAny_laid s t w h1 h2 h3 h4⟩
  · exact ⟨⟨_, Tryz.func152, by kernel_rfl⟩, fun s t w h1 h2 h3 h4 => Tryz.strings_ContainsAny_laid s t w h1 h2 h3 h4⟩
theorem anames : Go.Dev.namesOk Tryz.prog = true := by kernel_rfl
theorem arun : Go.Dev.isTrue (Go.Dev.runT (Go.Dev.primC Tryz.prog [64, 65, 66, 92, 93, 182] 1000000 apt) [] 60 7 [] []) = true := by kernel_rfl
theorem awake_walk (w : World) (hg : ∃ m, w.cell? ⟨0, 0, none⟩ = some (.int .i64 m)) : Calls Tryz.prog 7 #[] w fun e w' => e = .returned (.bool true) ∧ Below w.heap.size w w' := Go.Dev.knownP anames aprims Go.Dev.TabOK.nil arun w hg
#print axioms awake_walk
end Go.Proofs.Mine
