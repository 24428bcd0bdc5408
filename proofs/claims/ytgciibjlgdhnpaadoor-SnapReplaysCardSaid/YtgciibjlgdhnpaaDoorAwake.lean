/- frankinglaw25.awake answers true: the kernel runs the evaluator over the program's code. -/
import Derived.Test.YtgciibjlgdhnpaaDoorProg
import Derived.Test.YtgciibjlgdhnpaaDoorDev4
namespace Go.Proofs.Mine
open Go.Proofs Go.RowKit
set_option linter.unusedVariables false
set_option maxRecDepth 1000000
theorem anames : Go.Dev.namesOk Tryd.prog = true := by kernel_rfl
theorem arun : Go.Dev.isTrue (Go.Dev.runT (Go.Dev.plainC Tryd.prog [9, 11, 12, 14, 16, 17, 18, 20, 22, 23, 26, 27] 1000000) [] 60 7 [] []) = true := by kernel_rfl
theorem awake_walk (w : World) : Calls Tryd.prog 7 #[] w fun e w' => e = .returned (.bool true) ∧ Below w.heap.size w w' := Go.Dev.knownT anames Go.Dev.TabOK.nil arun w
#print axioms awake_walk
end Go.Proofs.Mine
