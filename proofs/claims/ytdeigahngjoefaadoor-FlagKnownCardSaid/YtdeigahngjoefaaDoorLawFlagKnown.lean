/- FlagKnown: whatever the input, true: the kernel runs the evaluator over the program's code; that the evaluator answers as the calls do is proved ahead. -/
import Derived.Test.YtdeigahngjoefaaDoorRows
import Derived.Test.YtdeigahngjoefaaDoorDev4
import Derived.Test.YtdeigahngjoefaaDoorCard
import Derived.Test.YtdeigahngjoefaaDoorTie
import Derived.Test.YtdeigahngjoefaaDoorCards
import Derived.Lay
import Derived.Handy
import Derived.SevenTiedAt
import Derived.WalkKit
import Derived.ProofKit
import Derived.OpenShut
import Derived.ShutString
import Derived.ChangeOld
import Derived.Below
import Derived.SizedLaws
import Derived.HandedShaped
namespace Go.Proofs.YtdeigahngjoefaaDoor.flagKnown
open Go.Proofs Go.ChangeShapes Go.WideShapes Go.ChangeAt Go.RowKit
open Go.ChangeMaps (open_string shut_string)
set_option linter.unusedVariables false
theorem own : ownKnob Tryd.prog.godebug = none := by kernel_rfl
theorem names : Go.Dev.namesOk Tryd.prog = true := by kernel_rfl
set_option maxRecDepth 1000000
def bs (l : List Nat) : ByteArray := ⟨(l.map UInt8.ofNat).toArray⟩
def t0 : List Go.Dev.Ent := []
theorem w0 : Go.Dev.TabOK (Go.Dev.plainC Tryd.prog [28, 46, 53, 54, 55, 56, 60, 61, 75, 76, 113] 1000000) (fun _ => True) 0 t0 := Go.Dev.TabOK.nil
def e1 : Go.Dev.Ent := ⟨26, [.str (bs [92, 115, 101, 101, 110])], .tup [.str (bs [92, 83, 101, 101, 110]), .bool true], [.row ⟨[.str (bs [92, 65, 110, 115, 119, 101, 114, 101, 100]), .str (bs [92, 68, 101, 108, 101, 116, 101, 100]), .str (bs [92, 68, 114, 97, 102, 116]), .str (bs [92, 70, 108, 97, 103, 103, 101, 100]), .str (bs [92, 83, 101, 101, 110])], 1, 0, false, none⟩]⟩
def t1 : List Go.Dev.Ent := e1 :: t0
theorem o1 : Go.Dev.entOk (Go.Dev.plainC Tryd.prog [28, 46, 53, 54, 55, 56, 60, 61, 75, 76, 113] 1000000) t0 60 e1 = true := by kernel_rfl
theorem w1 : Go.Dev.TabOK (Go.Dev.plainC Tryd.prog [28, 46, 53, 54, 55, 56, 60, 61, 75, 76, 113] 1000000) (fun _ => True) 0 t1 := Go.Dev.TabOK.cons (Go.Dev.plain_world names) w0 o1
def e2 : Go.Dev.Ent := ⟨26, [.str (bs [120])], .tup [.str (bs [120]), .bool true], [.row ⟨[.str (bs [92, 65, 110, 115, 119, 101, 114, 101, 100]), .str (bs [92, 68, 101, 108, 101, 116, 101, 100]), .str (bs [92, 68, 114, 97, 102, 116]), .str (bs [92, 70, 108, 97, 103, 103, 101, 100]), .str (bs [92, 83, 101, 101, 110])], 1, 0, false, none⟩]⟩
def t2 : List Go.Dev.Ent := e2 :: t1
theorem o2 : Go.Dev.entOk (Go.Dev.plainC Tryd.prog [28, 46, 53, 54, 55, 56, 60, 61, 75, 76, 113] 1000000) t1 60 e2 = true := by kernel_rfl
theorem w2 : Go.Dev.TabOK (Go.Dev.plainC Tryd.prog [28, 46, 53, 54, 55, 56, 60, 61, 75, 76, 113] 1000000) (fun _ => True) 0 t2 := Go.Dev.TabOK.cons (Go.Dev.plain_world names) w1 o2
def e3 : Go.Dev.Ent := ⟨9, [.imm 1 [.str (bs [92, 115, 101, 101, 110]), .str (bs [120])]], .agg [.ref 3 0 2 1 1 2], [.row ⟨[.agg [.ref 3 0 2 1 1 2]], 1, 0, false, some 26⟩, .map [(.str (bs [92, 115, 101, 101, 110]), .bool true), (.str (bs [120]), .bool true)], .row ⟨[.str (bs [92, 83, 101, 101, 110])], 1, 0, false, some 9⟩, .row ⟨[.str (bs [92, 83, 101, 101, 110]), .str (bs [120])], 1, 1, false, some 9⟩, .row ⟨[.str (bs [120])], 1, 0, false, some 9⟩]⟩
def t3 : List Go.Dev.Ent := e3 :: t2
theorem o3 : Go.Dev.entOk (Go.Dev.plainC Tryd.prog [28, 46, 53, 54, 55, 56, 60, 61, 75, 76, 113] 1000000) t2 60 e3 = true := by kernel_rfl
theorem w3 : Go.Dev.TabOK (Go.Dev.plainC Tryd.prog [28, 46, 53, 54, 55, 56, 60, 61, 75, 76, 113] 1000000) (fun _ => True) 0 t3 := Go.Dev.TabOK.cons (Go.Dev.plain_world names) w2 o3
def e4 : Go.Dev.Ent := ⟨11, [.str (bs [40, 92, 115, 101, 101, 110, 32, 120, 41])], .tup [.agg [.ref 3 0 2 1 0 2], .int .i64 (0)], [.row ⟨[.agg [.ref 3 0 2 1 0 2]], 1, 0, false, some 26⟩, .row ⟨[.str (bs [92, 115, 101, 101, 110]), .str (bs [120])], 1, 0, true, none⟩, .map [(.str (bs [92, 115, 101, 101, 110]), .bool true), (.str (bs [120]), .bool true)], .row ⟨[.str (bs [92, 83, 101, 101, 110]), .str (bs [120])], 1, 0, false, none⟩]⟩
def t4 : List Go.Dev.Ent := e4 :: t3
theorem o4 : Go.Dev.entOk (Go.Dev.plainC Tryd.prog [28, 46, 53, 54, 55, 56, 60, 61, 75, 76, 113] 1000000) t3 60 e4 = true := by kernel_rfl
theorem w4 : Go.Dev.TabOK (Go.Dev.plainC Tryd.prog [28, 46, 53, 54, 55, 56, 60, 61, 75, 76, 113] 1000000) (fun _ => True) 0 t4 := Go.Dev.TabOK.cons (Go.Dev.plain_world names) w3 o4
def e5 : Go.Dev.Ent := ⟨26, [.str (bs [97])], .tup [.str (bs [97]), .bool true], [.row ⟨[.str (bs [92, 65, 110, 115, 119, 101, 114, 101, 100]), .str (bs [92, 68, 101, 108, 101, 116, 101, 100]), .str (bs [92, 68, 114, 97, 102, 116]), .str (bs [92, 70, 108, 97, 103, 103, 101, 100]), .str (bs [92, 83, 101, 101, 110])], 1, 0, false, none⟩]⟩
def t5 : List Go.Dev.Ent := e5 :: t4
theorem o5 : Go.Dev.entOk (Go.Dev.plainC Tryd.prog [28, 46, 53, 54, 55, 56, 60, 61, 75, 76, 113] 1000000) t4 60 e5 = true := by kernel_rfl
theorem w5 : Go.Dev.TabOK (Go.Dev.plainC Tryd.prog [28, 46, 53, 54, 55, 56, 60, 61, 75, 76, 113] 1000000) (fun _ => True) 0 t5 := Go.Dev.TabOK.cons (Go.Dev.plain_world names) w4 o5
def e6 : Go.Dev.Ent := ⟨7, [], .bool true, [.row ⟨[.agg [.imm 1 [.str (bs [92, 83, 101, 101, 110]), .str (bs [120])]]], 1, 0, false, some 26⟩, .row ⟨[.str (bs [92, 83, 101, 101, 110]), .str (bs [120])], 1, 0, false, some 9⟩]⟩
def t6 : List Go.Dev.Ent := e6 :: t5
theorem o6 : Go.Dev.entOk (Go.Dev.plainC Tryd.prog [28, 46, 53, 54, 55, 56, 60, 61, 75, 76, 113] 1000000) t5 60 e6 = true := by kernel_rfl
theorem w6 : Go.Dev.TabOK (Go.Dev.plainC Tryd.prog [28, 46, 53, 54, 55, 56, 60, 61, 75, 76, 113] 1000000) (fun _ => True) 0 t6 := Go.Dev.TabOK.cons (Go.Dev.plain_world names) w5 o6
def e7 : Go.Dev.Ent := ⟨26, [.str (bs [])], .tup [.str (bs []), .bool false], [.row ⟨[.str (bs [92, 65, 110, 115, 119, 101, 114, 101, 100]), .str (bs [92, 68, 101, 108, 101, 116, 101, 100]), .str (bs [92, 68, 114, 97, 102, 116]), .str (bs [92, 70, 108, 97, 103, 103, 101, 100]), .str (bs [92, 83, 101, 101, 110])], 1, 0, false, none⟩]⟩
def t7 : List Go.Dev.Ent := e7 :: t6
theorem o7 : Go.Dev.entOk (Go.Dev.plainC Tryd.prog [28, 46, 53, 54, 55, 56, 60, 61, 75, 76, 113] 1000000) t6 60 e7 = true := by kernel_rfl
theorem w7 : Go.Dev.TabOK (Go.Dev.plainC Tryd.prog [28, 46, 53, 54, 55, 56, 60, 61, 75, 76, 113] 1000000) (fun _ => True) 0 t7 := Go.Dev.TabOK.cons (Go.Dev.plain_world names) w6 o7
def e8 : Go.Dev.Ent := ⟨26, [.str (bs [65])], .tup [.str (bs [65]), .bool true], [.row ⟨[.str (bs [92, 65, 110, 115, 119, 101, 114, 101, 100]), .str (bs [92, 68, 101, 108, 101, 116, 101, 100]), .str (bs [92, 68, 114, 97, 102, 116]), .str (bs [92, 70, 108, 97, 103, 103, 101, 100]), .str (bs [92, 83, 101, 101, 110])], 1, 0, false, none⟩]⟩
def t8 : List Go.Dev.Ent := e8 :: t7
theorem o8 : Go.Dev.entOk (Go.Dev.plainC Tryd.prog [28, 46, 53, 54, 55, 56, 60, 61, 75, 76, 113] 1000000) t7 60 e8 = true := by kernel_rfl
theorem w8 : Go.Dev.TabOK (Go.Dev.plainC Tryd.prog [28, 46, 53, 54, 55, 56, 60, 61, 75, 76, 113] 1000000) (fun _ => True) 0 t8 := Go.Dev.TabOK.cons (Go.Dev.plain_world names) w7 o8
def e9 : Go.Dev.Ent := ⟨26, [.str (bs [92, 120])], .tup [.str (bs [92, 120]), .bool false], [.row ⟨[.str (bs [92, 65, 110, 115, 119, 101, 114, 101, 100]), .str (bs [92, 68, 101, 108, 101, 116, 101, 100]), .str (bs [92, 68, 114, 97, 102, 116]), .str (bs [92, 70, 108, 97, 103, 103, 101, 100]), .str (bs [92, 83, 101, 101, 110])], 1, 0, false, none⟩]⟩
def t9 : List Go.Dev.Ent := e9 :: t8
theorem o9 : Go.Dev.entOk (Go.Dev.plainC Tryd.prog [28, 46, 53, 54, 55, 56, 60, 61, 75, 76, 113] 1000000) t8 60 e9 = true := by kernel_rfl
theorem w9 : Go.Dev.TabOK (Go.Dev.plainC Tryd.prog [28, 46, 53, 54, 55, 56, 60, 61, 75, 76, 113] 1000000) (fun _ => True) 0 t9 := Go.Dev.TabOK.cons (Go.Dev.plain_world names) w8 o9
def e10 : Go.Dev.Ent := ⟨26, [.str (bs [97, 34])], .tup [.str (bs [97, 34]), .bool false], [.row ⟨[.str (bs [92, 65, 110, 115, 119, 101, 114, 101, 100]), .str (bs [92, 68, 101, 108, 101, 116, 101, 100]), .str (bs [92, 68, 114, 97, 102, 116]), .str (bs [92, 70, 108, 97, 103, 103, 101, 100]), .str (bs [92, 83, 101, 101, 110])], 1, 0, false, none⟩]⟩
def t10 : List Go.Dev.Ent := e10 :: t9
theorem o10 : Go.Dev.entOk (Go.Dev.plainC Tryd.prog [28, 46, 53, 54, 55, 56, 60, 61, 75, 76, 113] 1000000) t9 60 e10 = true := by kernel_rfl
theorem w10 : Go.Dev.TabOK (Go.Dev.plainC Tryd.prog [28, 46, 53, 54, 55, 56, 60, 61, 75, 76, 113] 1000000) (fun _ => True) 0 t10 := Go.Dev.TabOK.cons (Go.Dev.plain_world names) w9 o10
def e11 : Go.Dev.Ent := ⟨26, [.str (bs [92, 83, 101, 101, 110])], .tup [.str (bs [92, 83, 101, 101, 110]), .bool true], [.row ⟨[.str (bs [92, 65, 110, 115, 119, 101, 114, 101, 100]), .str (bs [92, 68, 101, 108, 101, 116, 101, 100]), .str (bs [92, 68, 114, 97, 102, 116]), .str (bs [92, 70, 108, 97, 103, 103, 101, 100]), .str (bs [92, 83, 101, 101, 110])], 1, 0, false, none⟩]⟩
def t11 : List Go.Dev.Ent := e11 :: t10
theorem o11 : Go.Dev.entOk (Go.Dev.plainC Tryd.prog [28, 46, 53, 54, 55, 56, 60, 61, 75, 76, 113] 1000000) t10 60 e11 = true := by kernel_rfl
theorem w11 : Go.Dev.TabOK (Go.Dev.plainC Tryd.prog [28, 46, 53, 54, 55, 56, 60, 61, 75, 76, 113] 1000000) (fun _ => True) 0 t11 := Go.Dev.TabOK.cons (Go.Dev.plain_world names) w10 o11
def e12 : Go.Dev.Ent := ⟨26, [.str (bs [92, 83, 69, 69, 78])], .tup [.str (bs [92, 83, 101, 101, 110]), .bool true], [.row ⟨[.str (bs [92, 65, 110, 115, 119, 101, 114, 101, 100]), .str (bs [92, 68, 101, 108, 101, 116, 101, 100]), .str (bs [92, 68, 114, 97, 102, 116]), .str (bs [92, 70, 108, 97, 103, 103, 101, 100]), .str (bs [92, 83, 101, 101, 110])], 1, 0, false, none⟩]⟩
def t12 : List Go.Dev.Ent := e12 :: t11
theorem o12 : Go.Dev.entOk (Go.Dev.plainC Tryd.prog [28, 46, 53, 54, 55, 56, 60, 61, 75, 76, 113] 1000000) t11 60 e12 = true := by kernel_rfl
theorem w12 : Go.Dev.TabOK (Go.Dev.plainC Tryd.prog [28, 46, 53, 54, 55, 56, 60, 61, 75, 76, 113] 1000000) (fun _ => True) 0 t12 := Go.Dev.TabOK.cons (Go.Dev.plain_world names) w11 o12
def e13 : Go.Dev.Ent := ⟨11, [.str (bs [40, 92, 83, 101, 101, 110, 32, 92, 83, 69, 69, 78, 41])], .tup [.agg [.nils], .int .i64 (3)], [.row ⟨[.agg [.nils]], 1, 0, false, some 26⟩, .row ⟨[.str (bs [92, 83, 101, 101, 110]), .str (bs [92, 83, 69, 69, 78])], 1, 0, false, none⟩, .map [(.str (bs [92, 115, 101, 101, 110]), .bool true)]]⟩
def t13 : List Go.Dev.Ent := e13 :: t12
theorem o13 : Go.Dev.entOk (Go.Dev.plainC Tryd.prog [28, 46, 53, 54, 55, 56, 60, 61, 75, 76, 113] 1000000) t12 60 e13 = true := by kernel_rfl
theorem w13 : Go.Dev.TabOK (Go.Dev.plainC Tryd.prog [28, 46, 53, 54, 55, 56, 60, 61, 75, 76, 113] 1000000) (fun _ => True) 0 t13 := Go.Dev.TabOK.cons (Go.Dev.plain_world names) w12 o13
def e14 : Go.Dev.Ent := ⟨26, [.str (bs [40, 41])], .tup [.str (bs [40, 41]), .bool false], [.row ⟨[.str (bs [92, 65, 110, 115, 119, 101, 114, 101, 100]), .str (bs [92, 68, 101, 108, 101, 116, 101, 100]), .str (bs [92, 68, 114, 97, 102, 116]), .str (bs [92, 70, 108, 97, 103, 103, 101, 100]), .str (bs [92, 83, 101, 101, 110])], 1, 0, false, none⟩]⟩
def t14 : List Go.Dev.Ent := e14 :: t13
theorem o14 : Go.Dev.entOk (Go.Dev.plainC Tryd.prog [28, 46, 53, 54, 55, 56, 60, 61, 75, 76, 113] 1000000) t13 60 e14 = true := by kernel_rfl
theorem w14 : Go.Dev.TabOK (Go.Dev.plainC Tryd.prog [28, 46, 53, 54, 55, 56, 60, 61, 75, 76, 113] 1000000) (fun _ => True) 0 t14 := Go.Dev.TabOK.cons (Go.Dev.plain_world names) w13 o14
def e15 : Go.Dev.Ent := ⟨52, [.str (bs [97, 32, 107, 97, 97, 32, 107, 98, 97, 32, 107, 99, 97, 32, 107, 100, 97, 32, 107, 101, 97, 32, 107, 102, 97, 32, 107, 103, 97, 32, 107, 104, 97, 32, 107, 105, 97, 32, 107, 106, 97, 32, 107, 107, 97, 32, 107, 108, 97, 32, 107, 109, 97, 32, 107, 110, 97, 32, 107, 111, 97, 32, 107, 112, 97, 32, 107, 113, 97, 32, 107, 114, 97, 32, 107, 115, 97, 32, 107, 116, 97, 32, 107, 117, 97, 32, 107, 118, 97, 32, 107, 119, 97, 32, 107, 120, 97, 32, 107, 121, 97, 32, 107, 122, 97, 32, 107, 97, 98, 32, 107, 98, 98, 32, 107, 99, 98, 32, 107, 100, 98]), .str (bs [32]), .int .i64 (0), .int .i64 (-1)], .ref 0 0 31 1 0 31, [.row ⟨[.str (bs [97]), .str (bs [107, 97, 97]), .str (bs [107, 98, 97]), .str (bs [107, 99, 97]), .str (bs [107, 100, 97]), .str (bs [107, 101, 97]), .str (bs [107, 102, 97]), .str (bs [107, 103, 97]), .str (bs [107, 104, 97]), .str (bs [107, 105, 97]), .str (bs [107, 106, 97]), .str (bs [107, 107, 97]), .str (bs [107, 108, 97]), .str (bs [107, 109, 97]), .str (bs [107, 110, 97]), .str (bs [107, 111, 97]), .str (bs [107, 112, 97]), .str (bs [107, 113, 97]), .str (bs [107, 114, 97]), .str (bs [107, 115, 97]), .str (bs [107, 116, 97]), .str (bs [107, 117, 97]), .str (bs [107, 118, 97]), .str (bs [107, 119, 97]), .str (bs [107, 120, 97]), .str (bs [107, 121, 97]), .str (bs [107, 122, 97]), .str (bs [107, 97, 98]), .str (bs [107, 98, 98]), .str (bs [107, 99, 98]), .str (bs [107, 100, 98])], 1, 0, false, some 9⟩]⟩
def t15 : List Go.Dev.Ent := e15 :: t14
theorem o15 : Go.Dev.entOk (Go.Dev.plainC Tryd.prog [28, 46, 53, 54, 55, 56, 60, 61, 75, 76, 113] 1000000) t14 60 e15 = true := by kernel_rfl
theorem w15 : Go.Dev.TabOK (Go.Dev.plainC Tryd.prog [28, 46, 53, 54, 55, 56, 60, 61, 75, 76, 113] 1000000) (fun _ => True) 0 t15 := Go.Dev.TabOK.cons (Go.Dev.plain_world names) w14 o15
def e16 : Go.Dev.Ent := ⟨26, [.str (bs [107, 97, 97])], .tup [.str (bs [107, 97, 97]), .bool true], [.row ⟨[.str (bs [92, 65, 110, 115, 119, 101, 114, 101, 100]), .str (bs [92, 68, 101, 108, 101, 116, 101, 100]), .str (bs [92, 68, 114, 97, 102, 116]), .str (bs [92, 70, 108, 97, 103, 103, 101, 100]), .str (bs [92, 83, 101, 101, 110])], 1, 0, false, none⟩]⟩
def t16 : List Go.Dev.Ent := e16 :: t15
theorem o16 : Go.Dev.entOk (Go.Dev.plainC Tryd.prog [28, 46, 53, 54, 55, 56, 60, 61, 75, 76, 113] 1000000) t15 60 e16 = true := by kernel_rfl
theorem w16 : Go.Dev.TabOK (Go.Dev.plainC Tryd.prog [28, 46, 53, 54, 55, 56, 60, 61, 75, 76, 113] 1000000) (fun _ => True) 0 t16 := Go.Dev.TabOK.cons (Go.Dev.plain_world names) w15 o16
def e17 : Go.Dev.Ent := ⟨26, [.str (bs [107, 98, 97])], .tup [.str (bs [107, 98, 97]), .bool true], [.row ⟨[.str (bs [92, 65, 110, 115, 119, 101, 114, 101, 100]), .str (bs [92, 68, 101, 108, 101, 116, 101, 100]), .str (bs [92, 68, 114, 97, 102, 116]), .str (bs [92, 70, 108, 97, 103, 103, 101, 100]), .str (bs [92, 83, 101, 101, 110])], 1, 0, false, none⟩]⟩
def t17 : List Go.Dev.Ent := e17 :: t16
theorem o17 : Go.Dev.entOk (Go.Dev.plainC Tryd.prog [28, 46, 53, 54, 55, 56, 60, 61, 75, 76, 113] 1000000) t16 60 e17 = true := by kernel_rfl
theorem w17 : Go.Dev.TabOK (Go.Dev.plainC Tryd.prog [28, 46, 53, 54, 55, 56, 60, 61, 75, 76, 113] 1000000) (fun _ => True) 0 t17 := Go.Dev.TabOK.cons (Go.Dev.plain_world names) w16 o17
def e18 : Go.Dev.Ent := ⟨26, [.str (bs [107, 99, 97])], .tup [.str (bs [107, 99, 97]), .bool true], [.row ⟨[.str (bs [92, 65, 110, 115, 119, 101, 114, 101, 100]), .str (bs [92, 68, 101, 108, 101, 116, 101, 100]), .str (bs [92, 68, 114, 97, 102, 116]), .str (bs [92, 70, 108, 97, 103, 103, 101, 100]), .str (bs [92, 83, 101, 101, 110])], 1, 0, false, none⟩]⟩
def t18 : List Go.Dev.Ent := e18 :: t17
theorem o18 : Go.Dev.entOk (Go.Dev.plainC Tryd.prog [28, 46, 53, 54, 55, 56, 60, 61, 75, 76, 113] 1000000) t17 60 e18 = true := by kernel_rfl
theorem w18 : Go.Dev.TabOK (Go.Dev.plainC Tryd.prog [28, 46, 53, 54, 55, 56, 60, 61, 75, 76, 113] 1000000) (fun _ => True) 0 t18 := Go.Dev.TabOK.cons (Go.Dev.plain_world names) w17 o18
def e19 : Go.Dev.Ent := ⟨26, [.str (bs [107, 100, 97])], .tup [.str (bs [107, 100, 97]), .bool true], [.row ⟨[.str (bs [92, 65, 110, 115, 119, 101, 114, 101, 100]), .str (bs [92, 68, 101, 108, 101, 116, 101, 100]), .str (bs [92, 68, 114, 97, 102, 116]), .str (bs [92, 70, 108, 97, 103, 103, 101, 100]), .str (bs [92, 83, 101, 101, 110])], 1, 0, false, none⟩]⟩
def t19 : List Go.Dev.Ent := e19 :: t18
theorem o19 : Go.Dev.entOk (Go.Dev.plainC Tryd.prog [28, 46, 53, 54, 55, 56, 60, 61, 75, 76, 113] 1000000) t18 60 e19 = true := by kernel_rfl
theorem w19 : Go.Dev.TabOK (Go.Dev.plainC Tryd.prog [28, 46, 53, 54, 55, 56, 60, 61, 75, 76, 113] 1000000) (fun _ => True) 0 t19 := Go.Dev.TabOK.cons (Go.Dev.plain_world names) w18 o19
def e20 : Go.Dev.Ent := ⟨26, [.str (bs [107, 101, 97])], .tup [.str (bs [107, 101, 97]), .bool true], [.row ⟨[.str (bs [92, 65, 110, 115, 119, 101, 114, 101, 100]), .str (bs [92, 68, 101, 108, 101, 116, 101, 100]), .str (bs [92, 68, 114, 97, 102, 116]), .str (bs [92, 70, 108, 97, 103, 103, 101, 100]), .str (bs [92, 83, 101, 101, 110])], 1, 0, false, none⟩]⟩
def t20 : List Go.Dev.Ent := e20 :: t19
theorem o20 : Go.Dev.entOk (Go.Dev.plainC Tryd.prog [28, 46, 53, 54, 55, 56, 60, 61, 75, 76, 113] 1000000) t19 60 e20 = true := by kernel_rfl
theorem w20 : Go.Dev.TabOK (Go.Dev.plainC Tryd.prog [28, 46, 53, 54, 55, 56, 60, 61, 75, 76, 113] 1000000) (fun _ => True) 0 t20 := Go.Dev.TabOK.cons (Go.Dev.plain_world names) w19 o20
def e21 : Go.Dev.Ent := ⟨26, [.str (bs [107, 102, 97])], .tup [.str (bs [107, 102, 97]), .bool true], [.row ⟨[.str (bs [92, 65, 110, 115, 119, 101, 114, 101, 100]), .str (bs [92, 68, 101, 108, 101, 116, 101, 100]), .str (bs [92, 68, 114, 97, 102, 116]), .str (bs [92, 70, 108, 97, 103, 103, 101, 100]), .str (bs [92, 83, 101, 101, 110])], 1, 0, false, none⟩]⟩
def t21 : List Go.Dev.Ent := e21 :: t20
theorem o21 : Go.Dev.entOk (Go.Dev.plainC Tryd.prog [28, 46, 53, 54, 55, 56, 60, 61, 75, 76, 113] 1000000) t20 60 e21 = true := by kernel_rfl
theorem w21 : Go.Dev.TabOK (Go.Dev.plainC Tryd.prog [28, 46, 53, 54, 55, 56, 60, 61, 75, 76, 113] 1000000) (fun _ => True) 0 t21 := Go.Dev.TabOK.cons (Go.Dev.plain_world names) w20 o21
def e22 : Go.Dev.Ent := ⟨26, [.str (bs [107, 103, 97])], .tup [.str (bs [107, 103, 97]), .bool true], [.row ⟨[.str (bs [92, 65, 110, 115, 119, 101, 114, 101, 100]), .str (bs [92, 68, 101, 108, 101, 116, 101, 100]), .str (bs [92, 68, 114, 97, 102, 116]), .str (bs [92, 70, 108, 97, 103, 103, 101, 100]), .str (bs [92, 83, 101, 101, 110])], 1, 0, false, none⟩]⟩
def t22 : List Go.Dev.Ent := e22 :: t21
theorem o22 : Go.Dev.entOk (Go.Dev.plainC Tryd.prog [28, 46, 53, 54, 55, 56, 60, 61, 75, 76, 113] 1000000) t21 60 e22 = true := by kernel_rfl
theorem w22 : Go.Dev.TabOK (Go.Dev.plainC Tryd.prog [28, 46, 53, 54, 55, 56, 60, 61, 75, 76, 113] 1000000) (fun _ => True) 0 t22 := Go.Dev.TabOK.cons (Go.Dev.plain_world names) w21 o22
def e23 : Go.Dev.Ent := ⟨26, [.str (bs [107, 104, 97])], .tup [.str (bs [107, 104, 97]), .bool true], [.row ⟨[.str (bs [92, 65, 110, 115, 119, 101, 114, 101, 100]), .str (bs [92, 68, 101, 108, 101, 116, 101, 100]), .str (bs [92, 68, 114, 97, 102, 116]), .str (bs [92, 70, 108, 97, 103, 103, 101, 100]), .str (bs [92, 83, 101, 101, 110])], 1, 0, false, none⟩]⟩
def t23 : List Go.Dev.Ent := e23 :: t22
theorem o23 : Go.Dev.entOk (Go.Dev.plainC Tryd.prog [28, 46, 53, 54, 55, 56, 60, 61, 75, 76, 113] 1000000) t22 60 e23 = true := by kernel_rfl
theorem w23 : Go.Dev.TabOK (Go.Dev.plainC Tryd.prog [28, 46, 53, 54, 55, 56, 60, 61, 75, 76, 113] 1000000) (fun _ => True) 0 t23 := Go.Dev.TabOK.cons (Go.Dev.plain_world names) w22 o23
def e24 : Go.Dev.Ent := ⟨26, [.str (bs [107, 105, 97])], .tup [.str (bs [107, 105, 97]), .bool true], [.row ⟨[.str (bs [92, 65, 110, 115, 119, 101, 114, 101, 100]), .str (bs [92, 68, 101, 108, 101, 116, 101, 100]), .str (bs [92, 68, 114, 97, 102, 116]), .str (bs [92, 70, 108, 97, 103, 103, 101, 100]), .str (bs [92, 83, 101, 101, 110])], 1, 0, false, none⟩]⟩
def t24 : List Go.Dev.Ent := e24 :: t23
theorem o24 : Go.Dev.entOk (Go.Dev.plainC Tryd.prog [28, 46, 53, 54, 55, 56, 60, 61, 75, 76, 113] 1000000) t23 60 e24 = true := by kernel_rfl
theorem w24 : Go.Dev.TabOK (Go.Dev.plainC Tryd.prog [28, 46, 53, 54, 55, 56, 60, 61, 75, 76, 113] 1000000) (fun _ => True) 0 t24 := Go.Dev.TabOK.cons (Go.Dev.plain_world names) w23 o24
def e25 : Go.Dev.Ent := ⟨26, [.str (bs [107, 106, 97])], .tup [.str (bs [107, 106, 97]), .bool true], [.row ⟨[.str (bs [92, 65, 110, 115, 119, 101, 114, 101, 100]), .str (bs [92, 68, 101, 108, 101, 116, 101, 100]), .str (bs [92, 68, 114, 97, 102, 116]), .str (bs [92, 70, 108, 97, 103, 103, 101, 100]), .str (bs [92, 83, 101, 101, 110])], 1, 0, false, none⟩]⟩
def t25 : List Go.Dev.Ent := e25 :: t24
theorem o25 : Go.Dev.entOk (Go.Dev.plainC Tryd.prog [28, 46, 53, 54, 55, 56, 60, 61, 75, 76, 113] 1000000) t24 60 e25 = true := by kernel_rfl
theorem w25 : Go.Dev.TabOK (Go.Dev.plainC Tryd.prog [28, 46, 53, 54, 55, 56, 60, 61, 75, 76, 113] 1000000) (fun _ => True) 0 t25 := Go.Dev.TabOK.cons (Go.Dev.plain_world names) w24 o25
def e26 : Go.Dev.Ent := ⟨26, [.str (bs [107, 107, 97])], .tup [.str (bs [107, 107, 97]), .bool true], [.row ⟨[.str (bs [92, 65, 110, 115, 119, 101, 114, 101, 100]), .str (bs [92, 68, 101, 108, 101, 116, 101, 100]), .str (bs [92, 68, 114, 97, 102, 116]), .str (bs [92, 70, 108, 97, 103, 103, 101, 100]), .str (bs [92, 83, 101, 101, 110])], 1, 0, false, none⟩]⟩
def t26 : List Go.Dev.Ent := e26 :: t25
theorem o26 : Go.Dev.entOk (Go.Dev.plainC Tryd.prog [28, 46, 53, 54, 55, 56, 60, 61, 75, 76, 113] 1000000) t25 60 e26 = true := by kernel_rfl
theorem w26 : Go.Dev.TabOK (Go.Dev.plainC Tryd.prog [28, 46, 53, 54, 55, 56, 60, 61, 75, 76, 113] 1000000) (fun _ => True) 0 t26 := Go.Dev.TabOK.cons (Go.Dev.plain_world names) w25 o26
def e27 : Go.Dev.Ent := ⟨26, [.str (bs [107, 108, 97])], .tup [.str (bs [107, 108, 97]), .bool true], [.row ⟨[.str (bs [92, 65, 110, 115, 119, 101, 114, 101, 100]), .str (bs [92, 68, 101, 108, 101, 116, 101, 100]), .str (bs [92, 68, 114, 97, 102, 116]), .str (bs [92, 70, 108, 97, 103, 103, 101, 100]), .str (bs [92, 83, 101, 101, 110])], 1, 0, false, none⟩]⟩
def t27 : List Go.Dev.Ent := e27 :: t26
theorem o27 : Go.Dev.entOk (Go.Dev.plainC Tryd.prog [28, 46, 53, 54, 55, 56, 60, 61, 75, 76, 113] 1000000) t26 60 e27 = true := by kernel_rfl
theorem w27 : Go.Dev.TabOK (Go.Dev.plainC Tryd.prog [28, 46, 53, 54, 55, 56, 60, 61, 75, 76, 113] 1000000) (fun _ => True) 0 t27 := Go.Dev.TabOK.cons (Go.Dev.plain_world names) w26 o27
def e28 : Go.Dev.Ent := ⟨26, [.str (bs [107, 109, 97])], .tup [.str (bs [107, 109, 97]), .bool true], [.row ⟨[.str (bs [92, 65, 110, 115, 119, 101, 114, 101, 100]), .str (bs [92, 68, 101, 108, 101, 116, 101, 100]), .str (bs [92, 68, 114, 97, 102, 116]), .str (bs [92, 70, 108, 97, 103, 103, 101, 100]), .str (bs [92, 83, 101, 101, 110])], 1, 0, false, none⟩]⟩
def t28 : List Go.Dev.Ent := e28 :: t27
theorem o28 : Go.Dev.entOk (Go.Dev.plainC Tryd.prog [28, 46, 53, 54, 55, 56, 60, 61, 75, 76, 113] 1000000) t27 60 e28 = true := by kernel_rfl
theorem w28 : Go.Dev.TabOK (Go.Dev.plainC Tryd.prog [28, 46, 53, 54, 55, 56, 60, 61, 75, 76, 113] 1000000) (fun _ => True) 0 t28 := Go.Dev.TabOK.cons (Go.Dev.plain_world names) w27 o28
def e29 : Go.Dev.Ent := ⟨26, [.str (bs [107, 110, 97])], .tup [.str (bs [107, 110, 97]), .bool true], [.row ⟨[.str (bs [92, 65, 110, 115, 119, 101, 114, 101, 100]), .str (bs [92, 68, 101, 108, 101, 116, 101, 100]), .str (bs [92, 68, 114, 97, 102, 116]), .str (bs [92, 70, 108, 97, 103, 103, 101, 100]), .str (bs [92, 83, 101, 101, 110])], 1, 0, false, none⟩]⟩
def t29 : List Go.Dev.Ent := e29 :: t28
theorem o29 : Go.Dev.entOk (Go.Dev.plainC Tryd.prog [28, 46, 53, 54, 55, 56, 60, 61, 75, 76, 113] 1000000) t28 60 e29 = true := by kernel_rfl
theorem w29 : Go.Dev.TabOK (Go.Dev.plainC Tryd.prog [28, 46, 53, 54, 55, 56, 60, 61, 75, 76, 113] 1000000) (fun _ => True) 0 t29 := Go.Dev.TabOK.cons (Go.Dev.plain_world names) w28 o29
def e30 : Go.Dev.Ent := ⟨26, [.str (bs [107, 111, 97])], .tup [.str (bs [107, 111, 97]), .bool true], [.row ⟨[.str (bs [92, 65, 110, 115, 119, 101, 114, 101, 100]), .str (bs [92, 68, 101, 108, 101, 116, 101, 100]), .str (bs [92, 68, 114, 97, 102, 116]), .str (bs [92, 70, 108, 97, 103, 103, 101, 100]), .str (bs [92, 83, 101, 101, 110])], 1, 0, false, none⟩]⟩
def t30 : List Go.Dev.Ent := e30 :: t29
theorem o30 : Go.Dev.entOk (Go.Dev.plainC Tryd.prog [28, 46, 53, 54, 55, 56, 60, 61, 75, 76, 113] 1000000) t29 60 e30 = true := by kernel_rfl
theorem w30 : Go.Dev.TabOK (Go.Dev.plainC Tryd.prog [28, 46, 53, 54, 55, 56, 60, 61, 75, 76, 113] 1000000) (fun _ => True) 0 t30 := Go.Dev.TabOK.cons (Go.Dev.plain_world names) w29 o30
def e31 : Go.Dev.Ent := ⟨26, [.str (bs [107, 112, 97])], .tup [.str (bs [107, 112, 97]), .bool true], [.row ⟨[.str (bs [92, 65, 110, 115, 119, 101, 114, 101, 100]), .str (bs [92, 68, 101, 108, 101, 116, 101, 100]), .str (bs [92, 68, 114, 97, 102, 116]), .str (bs [92, 70, 108, 97, 103, 103, 101, 100]), .str (bs [92, 83, 101, 101, 110])], 1, 0, false, none⟩]⟩
def t31 : List Go.Dev.Ent := e31 :: t30
theorem o31 : Go.Dev.entOk (Go.Dev.plainC Tryd.prog [28, 46, 53, 54, 55, 56, 60, 61, 75, 76, 113] 1000000) t30 60 e31 = true := by kernel_rfl
theorem w31 : Go.Dev.TabOK (Go.Dev.plainC Tryd.prog [28, 46, 53, 54, 55, 56, 60, 61, 75, 76, 113] 1000000) (fun _ => True) 0 t31 := Go.Dev.TabOK.cons (Go.Dev.plain_world names) w30 o31
def e32 : Go.Dev.Ent := ⟨26, [.str (bs [107, 113, 97])], .tup [.str (bs [107, 113, 97]), .bool true], [.row ⟨[.str (bs [92, 65, 110, 115, 119, 101, 114, 101, 100]), .str (bs [92, 68, 101, 108, 101, 116, 101, 100]), .str (bs [92, 68, 114, 97, 102, 116]), .str (bs [92, 70, 108, 97, 103, 103, 101, 100]), .str (bs [92, 83, 101, 101, 110])], 1, 0, false, none⟩]⟩
def t32 : List Go.Dev.Ent := e32 :: t31
theorem o32 : Go.Dev.entOk (Go.Dev.plainC Tryd.prog [28, 46, 53, 54, 55, 56, 60, 61, 75, 76, 113] 1000000) t31 60 e32 = true := by kernel_rfl
theorem w32 : Go.Dev.TabOK (Go.Dev.plainC Tryd.prog [28, 46, 53, 54, 55, 56, 60, 61, 75, 76, 113] 1000000) (fun _ => True) 0 t32 := Go.Dev.TabOK.cons (Go.Dev.plain_world names) w31 o32
def e33 : Go.Dev.Ent := ⟨26, [.str (bs [107, 114, 97])], .tup [.str (bs [107, 114, 97]), .bool true], [.row ⟨[.str (bs [92, 65, 110, 115, 119, 101, 114, 101, 100]), .str (bs [92, 68, 101, 108, 101, 116, 101, 100]), .str (bs [92, 68, 114, 97, 102, 116]), .str (bs [92, 70, 108, 97, 103, 103, 101, 100]), .str (bs [92, 83, 101, 101, 110])], 1, 0, false, none⟩]⟩
def t33 : List Go.Dev.Ent := e33 :: t32
theorem o33 : Go.Dev.entOk (Go.Dev.plainC Tryd.prog [28, 46, 53, 54, 55, 56, 60, 61, 75, 76, 113] 1000000) t32 60 e33 = true := by kernel_rfl
theorem w33 : Go.Dev.TabOK (Go.Dev.plainC Tryd.prog [28, 46, 53, 54, 55, 56, 60, 61, 75, 76, 113] 1000000) (fun _ => True) 0 t33 := Go.Dev.TabOK.cons (Go.Dev.plain_world names) w32 o33
def e34 : Go.Dev.Ent := ⟨26, [.str (bs [107, 115, 97])], .tup [.str (bs [107, 115, 97]), .bool true], [.row ⟨[.str (bs [92, 65, 110, 115, 119, 101, 114, 101, 100]), .str (bs [92, 68, 101, 108, 101, 116, 101, 100]), .str (bs [92, 68, 114, 97, 102, 116]), .str (bs [92, 70, 108, 97, 103, 103, 101, 100]), .str (bs [92, 83, 101, 101, 110])], 1, 0, false, none⟩]⟩
def t34 : List Go.Dev.Ent := e34 :: t33
theorem o34 : Go.Dev.entOk (Go.Dev.plainC Tryd.prog [28, 46, 53, 54, 55, 56, 60, 61, 75, 76, 113] 1000000) t33 60 e34 = true := by kernel_rfl
theorem w34 : Go.Dev.TabOK (Go.Dev.plainC Tryd.prog [28, 46, 53, 54, 55, 56, 60, 61, 75, 76, 113] 1000000) (fun _ => True) 0 t34 := Go.Dev.TabOK.cons (Go.Dev.plain_world names) w33 o34
def e35 : Go.Dev.Ent := ⟨26, [.str (bs [107, 116, 97])], .tup [.str (bs [107, 116, 97]), .bool true], [.row ⟨[.str (bs [92, 65, 110, 115, 119, 101, 114, 101, 100]), .str (bs [92, 68, 101, 108, 101, 116, 101, 100]), .str (bs [92, 68, 114, 97, 102, 116]), .str (bs [92, 70, 108, 97, 103, 103, 101, 100]), .str (bs [92, 83, 101, 101, 110])], 1, 0, false, none⟩]⟩
def t35 : List Go.Dev.Ent := e35 :: t34
theorem o35 : Go.Dev.entOk (Go.Dev.plainC Tryd.prog [28, 46, 53, 54, 55, 56, 60, 61, 75, 76, 113] 1000000) t34 60 e35 = true := by kernel_rfl
theorem w35 : Go.Dev.TabOK (Go.Dev.plainC Tryd.prog [28, 46, 53, 54, 55, 56, 60, 61, 75, 76, 113] 1000000) (fun _ => True) 0 t35 := Go.Dev.TabOK.cons (Go.Dev.plain_world names) w34 o35
def e36 : Go.Dev.Ent := ⟨26, [.str (bs [107, 117, 97])], .tup [.str (bs [107, 117, 97]), .bool true], [.row ⟨[.str (bs [92, 65, 110, 115, 119, 101, 114, 101, 100]), .str (bs [92, 68, 101, 108, 101, 116, 101, 100]), .str (bs [92, 68, 114, 97, 102, 116]), .str (bs [92, 70, 108, 97, 103, 103, 101, 100]), .str (bs [92, 83, 101, 101, 110])], 1, 0, false, none⟩]⟩
def t36 : List Go.Dev.Ent := e36 :: t35
theorem o36 : Go.Dev.entOk (Go.Dev.plainC Tryd.prog [28, 46, 53, 54, 55, 56, 60, 61, 75, 76, 113] 1000000) t35 60 e36 = true := by kernel_rfl
theorem w36 : Go.Dev.TabOK (Go.Dev.plainC Tryd.prog [28, 46, 53, 54, 55, 56, 60, 61, 75, 76, 113] 1000000) (fun _ => True) 0 t36 := Go.Dev.TabOK.cons (Go.Dev.plain_world names) w35 o36
def e37 : Go.Dev.Ent := ⟨26, [.str (bs [107, 118, 97])], .tup [.str (bs [107, 118, 97]), .bool true], [.row ⟨[.str (bs [92, 65, 110, 115, 119, 101, 114, 101, 100]), .str (bs [92, 68, 101, 108, 101, 116, 101, 100]), .str (bs [92, 68, 114, 97, 102, 116]), .str (bs [92, 70, 108, 97, 103, 103, 101, 100]), .str (bs [92, 83, 101, 101, 110])], 1, 0, false, none⟩]⟩
def t37 : List Go.Dev.Ent := e37 :: t36
theorem o37 : Go.Dev.entOk (Go.Dev.plainC Tryd.prog [28, 46, 53, 54, 55, 56, 60, 61, 75, 76, 113] 1000000) t36 60 e37 = true := by kernel_rfl
theorem w37 : Go.Dev.TabOK (Go.Dev.plainC Tryd.prog [28, 46, 53, 54, 55, 56, 60, 61, 75, 76, 113] 1000000) (fun _ => True) 0 t37 := Go.Dev.TabOK.cons (Go.Dev.plain_world names) w36 o37
def e38 : Go.Dev.Ent := ⟨26, [.str (bs [107, 119, 97])], .tup [.str (bs [107, 119, 97]), .bool true], [.row ⟨[.str (bs [92, 65, 110, 115, 119, 101, 114, 101, 100]), .str (bs [92, 68, 101, 108, 101, 116, 101, 100]), .str (bs [92, 68, 114, 97, 102, 116]), .str (bs [92, 70, 108, 97, 103, 103, 101, 100]), .str (bs [92, 83, 101, 101, 110])], 1, 0, false, none⟩]⟩
def t38 : List Go.Dev.Ent := e38 :: t37
theorem o38 : Go.Dev.entOk (Go.Dev.plainC Tryd.prog [28, 46, 53, 54, 55, 56, 60, 61, 75, 76, 113] 1000000) t37 60 e38 = true := by kernel_rfl
theorem w38 : Go.Dev.TabOK (Go.Dev.plainC Tryd.prog [28, 46, 53, 54, 55, 56, 60, 61, 75, 76, 113] 1000000) (fun _ => True) 0 t38 := Go.Dev.TabOK.cons (Go.Dev.plain_world names) w37 o38
def e39 : Go.Dev.Ent := ⟨26, [.str (bs [107, 120, 97])], .tup [.str (bs [107, 120, 97]), .bool true], [.row ⟨[.str (bs [92, 65, 110, 115, 119, 101, 114, 101, 100]), .str (bs [92, 68, 101, 108, 101, 116, 101, 100]), .str (bs [92, 68, 114, 97, 102, 116]), .str (bs [92, 70, 108, 97, 103, 103, 101, 100]), .str (bs [92, 83, 101, 101, 110])], 1, 0, false, none⟩]⟩
def t39 : List Go.Dev.Ent := e39 :: t38
theorem o39 : Go.Dev.entOk (Go.Dev.plainC Tryd.prog [28, 46, 53, 54, 55, 56, 60, 61, 75, 76, 113] 1000000) t38 60 e39 = true := by kernel_rfl
theorem w39 : Go.Dev.TabOK (Go.Dev.plainC Tryd.prog [28, 46, 53, 54, 55, 56, 60, 61, 75, 76, 113] 1000000) (fun _ => True) 0 t39 := Go.Dev.TabOK.cons (Go.Dev.plain_world names) w38 o39
def e40 : Go.Dev.Ent := ⟨26, [.str (bs [107, 121, 97])], .tup [.str (bs [107, 121, 97]), .bool true], [.row ⟨[.str (bs [92, 65, 110, 115, 119, 101, 114, 101, 100]), .str (bs [92, 68, 101, 108, 101, 116, 101, 100]), .str (bs [92, 68, 114, 97, 102, 116]), .str (bs [92, 70, 108, 97, 103, 103, 101, 100]), .str (bs [92, 83, 101, 101, 110])], 1, 0, false, none⟩]⟩
def t40 : List Go.Dev.Ent := e40 :: t39
theorem o40 : Go.Dev.entOk (Go.Dev.plainC Tryd.prog [28, 46, 53, 54, 55, 56, 60, 61, 75, 76, 113] 1000000) t39 60 e40 = true := by kernel_rfl
theorem w40 : Go.Dev.TabOK (Go.Dev.plainC Tryd.prog [28, 46, 53, 54, 55, 56, 60, 61, 75, 76, 113] 1000000) (fun _ => True) 0 t40 := Go.Dev.TabOK.cons (Go.Dev.plain_world names) w39 o40
def e41 : Go.Dev.Ent := ⟨26, [.str (bs [107, 122, 97])], .tup [.str (bs [107, 122, 97]), .bool true], [.row ⟨[.str (bs [92, 65, 110, 115, 119, 101, 114, 101, 100]), .str (bs [92, 68, 101, 108, 101, 116, 101, 100]), .str (bs [92, 68, 114, 97, 102, 116]), .str (bs [92, 70, 108, 97, 103, 103, 101, 100]), .str (bs [92, 83, 101, 101, 110])], 1, 0, false, none⟩]⟩
def t41 : List Go.Dev.Ent := e41 :: t40
theorem o41 : Go.Dev.entOk (Go.Dev.plainC Tryd.prog [28, 46, 53, 54, 55, 56, 60, 61, 75, 76, 113] 1000000) t40 60 e41 = true := by kernel_rfl
theorem w41 : Go.Dev.TabOK (Go.Dev.plainC Tryd.prog [28, 46, 53, 54, 55, 56, 60, 61, 75, 76, 113] 1000000) (fun _ => True) 0 t41 := Go.Dev.TabOK.cons (Go.Dev.plain_world names) w40 o41
def e42 : Go.Dev.Ent := ⟨26, [.str (bs [107, 97, 98])], .tup [.str (bs [107, 97, 98]), .bool true], [.row ⟨[.str (bs [92, 65, 110, 115, 119, 101, 114, 101, 100]), .str (bs [92, 68, 101, 108, 101, 116, 101, 100]), .str (bs [92, 68, 114, 97, 102, 116]), .str (bs [92, 70, 108, 97, 103, 103, 101, 100]), .str (bs [92, 83, 101, 101, 110])], 1, 0, false, none⟩]⟩
def t42 : List Go.Dev.Ent := e42 :: t41
theorem o42 : Go.Dev.entOk (Go.Dev.plainC Tryd.prog [28, 46, 53, 54, 55, 56, 60, 61, 75, 76, 113] 1000000) t41 60 e42 = true := by kernel_rfl
theorem w42 : Go.Dev.TabOK (Go.Dev.plainC Tryd.prog [28, 46, 53, 54, 55, 56, 60, 61, 75, 76, 113] 1000000) (fun _ => True) 0 t42 := Go.Dev.TabOK.cons (Go.Dev.plain_world names) w41 o42
def e43 : Go.Dev.Ent := ⟨26, [.str (bs [107, 98, 98])], .tup [.str (bs [107, 98, 98]), .bool true], [.row ⟨[.str (bs [92, 65, 110, 115, 119, 101, 114, 101, 100]), .str (bs [92, 68, 101, 108, 101, 116, 101, 100]), .str (bs [92, 68, 114, 97, 102, 116]), .str (bs [92, 70, 108, 97, 103, 103, 101, 100]), .str (bs [92, 83, 101, 101, 110])], 1, 0, false, none⟩]⟩
def t43 : List Go.Dev.Ent := e43 :: t42
theorem o43 : Go.Dev.entOk (Go.Dev.plainC Tryd.prog [28, 46, 53, 54, 55, 56, 60, 61, 75, 76, 113] 1000000) t42 60 e43 = true := by kernel_rfl
theorem w43 : Go.Dev.TabOK (Go.Dev.plainC Tryd.prog [28, 46, 53, 54, 55, 56, 60, 61, 75, 76, 113] 1000000) (fun _ => True) 0 t43 := Go.Dev.TabOK.cons (Go.Dev.plain_world names) w42 o43
def e44 : Go.Dev.Ent := ⟨26, [.str (bs [107, 99, 98])], .tup [.str (bs [107, 99, 98]), .bool true], [.row ⟨[.str (bs [92, 65, 110, 115, 119, 101, 114, 101, 100]), .str (bs [92, 68, 101, 108, 101, 116, 101, 100]), .str (bs [92, 68, 114, 97, 102, 116]), .str (bs [92, 70, 108, 97, 103, 103, 101, 100]), .str (bs [92, 83, 101, 101, 110])], 1, 0, false, none⟩]⟩
def t44 : List Go.Dev.Ent := e44 :: t43
theorem o44 : Go.Dev.entOk (Go.Dev.plainC Tryd.prog [28, 46, 53, 54, 55, 56, 60, 61, 75, 76, 113] 1000000) t43 60 e44 = true := by kernel_rfl
theorem w44 : Go.Dev.TabOK (Go.Dev.plainC Tryd.prog [28, 46, 53, 54, 55, 56, 60, 61, 75, 76, 113] 1000000) (fun _ => True) 0 t44 := Go.Dev.TabOK.cons (Go.Dev.plain_world names) w43 o44
def e45 : Go.Dev.Ent := ⟨26, [.str (bs [107, 100, 98])], .tup [.str (bs [107, 100, 98]), .bool true], [.row ⟨[.str (bs [92, 65, 110, 115, 119, 101, 114, 101, 100]), .str (bs [92, 68, 101, 108, 101, 116, 101, 100]), .str (bs [92, 68, 114, 97, 102, 116]), .str (bs [92, 70, 108, 97, 103, 103, 101, 100]), .str (bs [92, 83, 101, 101, 110])], 1, 0, false, none⟩]⟩
def t45 : List Go.Dev.Ent := e45 :: t44
theorem o45 : Go.Dev.entOk (Go.Dev.plainC Tryd.prog [28, 46, 53, 54, 55, 56, 60, 61, 75, 76, 113] 1000000) t44 60 e45 = true := by kernel_rfl
theorem w45 : Go.Dev.TabOK (Go.Dev.plainC Tryd.prog [28, 46, 53, 54, 55, 56, 60, 61, 75, 76, 113] 1000000) (fun _ => True) 0 t45 := Go.Dev.TabOK.cons (Go.Dev.plain_world names) w44 o45
def e46 : Go.Dev.Ent := ⟨11, [.str (bs [40, 97, 32, 107, 97, 97, 32, 107, 98, 97, 32, 107, 99, 97, 32, 107, 100, 97, 32, 107, 101, 97, 32, 107, 102, 97, 32, 107, 103, 97, 32, 107, 104, 97, 32, 107, 105, 97, 32, 107, 106, 97, 32, 107, 107, 97, 32, 107, 108, 97, 32, 107, 109, 97, 32, 107, 110, 97, 32, 107, 111, 97, 32, 107, 112, 97, 32, 107, 113, 97, 32, 107, 114, 97, 32, 107, 115, 97, 32, 107, 116, 97, 32, 107, 117, 97, 32, 107, 118, 97, 32, 107, 119, 97, 32, 107, 120, 97, 32, 107, 121, 97, 32, 107, 122, 97, 32, 107, 97, 98, 32, 107, 98, 98, 32, 107, 99, 98, 32, 107, 100, 98, 41])], .tup [.agg [.nils], .int .i64 (2)], [.row ⟨[.agg [.nils]], 1, 0, false, some 26⟩, .row ⟨[.str (bs [97]), .str (bs [107, 97, 97]), .str (bs [107, 98, 97]), .str (bs [107, 99, 97]), .str (bs [107, 100, 97]), .str (bs [107, 101, 97]), .str (bs [107, 102, 97]), .str (bs [107, 103, 97]), .str (bs [107, 104, 97]), .str (bs [107, 105, 97]), .str (bs [107, 106, 97]), .str (bs [107, 107, 97]), .str (bs [107, 108, 97]), .str (bs [107, 109, 97]), .str (bs [107, 110, 97]), .str (bs [107, 111, 97]), .str (bs [107, 112, 97]), .str (bs [107, 113, 97]), .str (bs [107, 114, 97]), .str (bs [107, 115, 97]), .str (bs [107, 116, 97]), .str (bs [107, 117, 97]), .str (bs [107, 118, 97]), .str (bs [107, 119, 97]), .str (bs [107, 120, 97]), .str (bs [107, 121, 97]), .str (bs [107, 122, 97]), .str (bs [107, 97, 98]), .str (bs [107, 98, 98]), .str (bs [107, 99, 98]), .str (bs [107, 100, 98])], 1, 0, false, none⟩, .map [(.str (bs [97]), .bool true), (.str (bs [107, 97, 97]), .bool true), (.str (bs [107, 98, 97]), .bool true), (.str (bs [107, 99, 97]), .bool true), (.str (bs [107, 100, 97]), .bool true), (.str (bs [107, 101, 97]), .bool true), (.str (bs [107, 102, 97]), .bool true), (.str (bs [107, 103, 97]), .bool true), (.str (bs [107, 104, 97]), .bool true), (.str (bs [107, 105, 97]), .bool true), (.str (bs [107, 106, 97]), .bool true), (.str (bs [107, 107, 97]), .bool true), (.str (bs [107, 108, 97]), .bool true), (.str (bs [107, 109, 97]), .bool true), (.str (bs [107, 110, 97]), .bool true), (.str (bs [107, 111, 97]), .bool true), (.str (bs [107, 112, 97]), .bool true), (.str (bs [107, 113, 97]), .bool true), (.str (bs [107, 114, 97]), .bool true), (.str (bs [107, 115, 97]), .bool true), (.str (bs [107, 116, 97]), .bool true), (.str (bs [107, 117, 97]), .bool true), (.str (bs [107, 118, 97]), .bool true), (.str (bs [107, 119, 97]), .bool true), (.str (bs [107, 120, 97]), .bool true), (.str (bs [107, 121, 97]), .bool true), (.str (bs [107, 122, 97]), .bool true), (.str (bs [107, 97, 98]), .bool true), (.str (bs [107, 98, 98]), .bool true), (.str (bs [107, 99, 98]), .bool true), (.str (bs [107, 100, 98]), .bool true)]]⟩
def t46 : List Go.Dev.Ent := e46 :: t45
theorem o46 : Go.Dev.entOk (Go.Dev.plainC Tryd.prog [28, 46, 53, 54, 55, 56, 60, 61, 75, 76, 113] 1000000) t45 60 e46 = true := by kernel_rfl
theorem w46 : Go.Dev.TabOK (Go.Dev.plainC Tryd.prog [28, 46, 53, 54, 55, 56, 60, 61, 75, 76, 113] 1000000) (fun _ => True) 0 t46 := Go.Dev.TabOK.cons (Go.Dev.plain_world names) w45 o46
def e47 : Go.Dev.Ent := ⟨26, [.str (bs [98])], .tup [.str (bs [98]), .bool true], [.row ⟨[.str (bs [92, 65, 110, 115, 119, 101, 114, 101, 100]), .str (bs [92, 68, 101, 108, 101, 116, 101, 100]), .str (bs [92, 68, 114, 97, 102, 116]), .str (bs [92, 70, 108, 97, 103, 103, 101, 100]), .str (bs [92, 83, 101, 101, 110])], 1, 0, false, none⟩]⟩
def t47 : List Go.Dev.Ent := e47 :: t46
theorem o47 : Go.Dev.entOk (Go.Dev.plainC Tryd.prog [28, 46, 53, 54, 55, 56, 60, 61, 75, 76, 113] 1000000) t46 60 e47 = true := by kernel_rfl
theorem w47 : Go.Dev.TabOK (Go.Dev.plainC Tryd.prog [28, 46, 53, 54, 55, 56, 60, 61, 75, 76, 113] 1000000) (fun _ => True) 0 t47 := Go.Dev.TabOK.cons (Go.Dev.plain_world names) w46 o47
def e48 : Go.Dev.Ent := ⟨26, [.str (bs [92, 100, 114, 97, 102, 116])], .tup [.str (bs [92, 68, 114, 97, 102, 116]), .bool true], [.row ⟨[.str (bs [92, 65, 110, 115, 119, 101, 114, 101, 100]), .str (bs [92, 68, 101, 108, 101, 116, 101, 100]), .str (bs [92, 68, 114, 97, 102, 116]), .str (bs [92, 70, 108, 97, 103, 103, 101, 100]), .str (bs [92, 83, 101, 101, 110])], 1, 0, false, none⟩]⟩
def t48 : List Go.Dev.Ent := e48 :: t47
theorem o48 : Go.Dev.entOk (Go.Dev.plainC Tryd.prog [28, 46, 53, 54, 55, 56, 60, 61, 75, 76, 113] 1000000) t47 60 e48 = true := by kernel_rfl
theorem w48 : Go.Dev.TabOK (Go.Dev.plainC Tryd.prog [28, 46, 53, 54, 55, 56, 60, 61, 75, 76, 113] 1000000) (fun _ => True) 0 t48 := Go.Dev.TabOK.cons (Go.Dev.plain_world names) w47 o48
def e49 : Go.Dev.Ent := ⟨26, [.str (bs [92, 110, 111, 112, 101])], .tup [.str (bs [92, 110, 111, 112, 101]), .bool false], [.row ⟨[.str (bs [92, 65, 110, 115, 119, 101, 114, 101, 100]), .str (bs [92, 68, 101, 108, 101, 116, 101, 100]), .str (bs [92, 68, 114, 97, 102, 116]), .str (bs [92, 70, 108, 97, 103, 103, 101, 100]), .str (bs [92, 83, 101, 101, 110])], 1, 0, false, none⟩]⟩
def t49 : List Go.Dev.Ent := e49 :: t48
theorem o49 : Go.Dev.entOk (Go.Dev.plainC Tryd.prog [28, 46, 53, 54, 55, 56, 60, 61, 75, 76, 113] 1000000) t48 60 e49 = true := by kernel_rfl
theorem w49 : Go.Dev.TabOK (Go.Dev.plainC Tryd.prog [28, 46, 53, 54, 55, 56, 60, 61, 75, 76, 113] 1000000) (fun _ => True) 0 t49 := Go.Dev.TabOK.cons (Go.Dev.plain_world names) w48 o49
def e50 : Go.Dev.Ent := ⟨9, [.imm 1 [.str (bs [98]), .str (bs [92, 100, 114, 97, 102, 116]), .str (bs [65]), .str (bs [97]), .str (bs []), .str (bs [92, 110, 111, 112, 101])]], .agg [.ref 3 0 3 1 2 3], [.row ⟨[.agg [.ref 3 0 3 1 2 3]], 1, 0, false, some 26⟩, .map [(.str (bs [98]), .bool true), (.str (bs [92, 100, 114, 97, 102, 116]), .bool true), (.str (bs [97]), .bool true)], .row ⟨[.str (bs [98])], 1, 0, false, some 9⟩, .row ⟨[.str (bs [92, 68, 114, 97, 102, 116]), .str (bs [65]), .str (bs [98])], 1, 2, false, some 9⟩, .row ⟨[.str (bs [92, 68, 114, 97, 102, 116])], 1, 0, false, some 9⟩, .row ⟨[.str (bs [65])], 1, 0, false, some 9⟩]⟩
def t50 : List Go.Dev.Ent := e50 :: t49
theorem o50 : Go.Dev.entOk (Go.Dev.plainC Tryd.prog [28, 46, 53, 54, 55, 56, 60, 61, 75, 76, 113] 1000000) t49 60 e50 = true := by kernel_rfl
theorem w50 : Go.Dev.TabOK (Go.Dev.plainC Tryd.prog [28, 46, 53, 54, 55, 56, 60, 61, 75, 76, 113] 1000000) (fun _ => True) 0 t50 := Go.Dev.TabOK.cons (Go.Dev.plain_world names) w49 o50
def e51 : Go.Dev.Ent := ⟨26, [.str (bs [92, 68, 82, 65, 70, 84])], .tup [.str (bs [92, 68, 114, 97, 102, 116]), .bool true], [.row ⟨[.str (bs [92, 65, 110, 115, 119, 101, 114, 101, 100]), .str (bs [92, 68, 101, 108, 101, 116, 101, 100]), .str (bs [92, 68, 114, 97, 102, 116]), .str (bs [92, 70, 108, 97, 103, 103, 101, 100]), .str (bs [92, 83, 101, 101, 110])], 1, 0, false, none⟩]⟩
def t51 : List Go.Dev.Ent := e51 :: t50
theorem o51 : Go.Dev.entOk (Go.Dev.plainC Tryd.prog [28, 46, 53, 54, 55, 56, 60, 61, 75, 76, 113] 1000000) t50 60 e51 = true := by kernel_rfl
theorem w51 : Go.Dev.TabOK (Go.Dev.plainC Tryd.prog [28, 46, 53, 54, 55, 56, 60, 61, 75, 76, 113] 1000000) (fun _ => True) 0 t51 := Go.Dev.TabOK.cons (Go.Dev.plain_world names) w50 o51
def e52 : Go.Dev.Ent := ⟨9, [.imm 1 [.str (bs [97]), .str (bs [92, 68, 82, 65, 70, 84])]], .agg [.ref 3 0 2 1 1 2], [.row ⟨[.agg [.ref 3 0 2 1 1 2]], 1, 0, false, some 26⟩, .map [(.str (bs [97]), .bool true), (.str (bs [92, 100, 114, 97, 102, 116]), .bool true)], .row ⟨[.str (bs [97])], 1, 0, false, some 9⟩, .row ⟨[.str (bs [92, 68, 114, 97, 102, 116]), .str (bs [97])], 1, 1, false, some 9⟩, .row ⟨[.str (bs [92, 68, 114, 97, 102, 116])], 1, 0, false, some 9⟩]⟩
def t52 : List Go.Dev.Ent := e52 :: t51
theorem o52 : Go.Dev.entOk (Go.Dev.plainC Tryd.prog [28, 46, 53, 54, 55, 56, 60, 61, 75, 76, 113] 1000000) t51 60 e52 = true := by kernel_rfl
theorem w52 : Go.Dev.TabOK (Go.Dev.plainC Tryd.prog [28, 46, 53, 54, 55, 56, 60, 61, 75, 76, 113] 1000000) (fun _ => True) 0 t52 := Go.Dev.TabOK.cons (Go.Dev.plain_world names) w51 o52
def e53 : Go.Dev.Ent := ⟨13, [.agg [.imm 1 [.str (bs [92, 68, 114, 97, 102, 116]), .str (bs [65]), .str (bs [98])]], .agg [.imm 1 [.str (bs [92, 68, 114, 97, 102, 116]), .str (bs [97])]]], .agg [.ref 5 0 1 1 0 1], [.row ⟨[.agg [.imm 1 [.str (bs [92, 68, 114, 97, 102, 116]), .str (bs [65]), .str (bs [98])]]], 1, 0, false, some 26⟩, .row ⟨[.agg [.imm 1 [.str (bs [92, 68, 114, 97, 102, 116]), .str (bs [97])]]], 1, 0, false, some 26⟩, .row ⟨[.agg [.ref 5 0 1 1 0 1]], 1, 0, false, some 26⟩, .row ⟨[.str (bs [98])], 1, 0, false, some 9⟩, .row ⟨[.str (bs [98])], 1, 0, true, some 9⟩, .row ⟨[.str (bs [98])], 1, 0, false, none⟩]⟩
def t53 : List Go.Dev.Ent := e53 :: t52
theorem o53 : Go.Dev.entOk (Go.Dev.plainC Tryd.prog [28, 46, 53, 54, 55, 56, 60, 61, 75, 76, 113] 1000000) t52 60 e53 = true := by kernel_rfl
theorem w53 : Go.Dev.TabOK (Go.Dev.plainC Tryd.prog [28, 46, 53, 54, 55, 56, 60, 61, 75, 76, 113] 1000000) (fun _ => True) 0 t53 := Go.Dev.TabOK.cons (Go.Dev.plain_world names) w52 o53
def e54 : Go.Dev.Ent := ⟨26, [.str (bs [66])], .tup [.str (bs [66]), .bool true], [.row ⟨[.str (bs [92, 65, 110, 115, 119, 101, 114, 101, 100]), .str (bs [92, 68, 101, 108, 101, 116, 101, 100]), .str (bs [92, 68, 114, 97, 102, 116]), .str (bs [92, 70, 108, 97, 103, 103, 101, 100]), .str (bs [92, 83, 101, 101, 110])], 1, 0, false, none⟩]⟩
def t54 : List Go.Dev.Ent := e54 :: t53
theorem o54 : Go.Dev.entOk (Go.Dev.plainC Tryd.prog [28, 46, 53, 54, 55, 56, 60, 61, 75, 76, 113] 1000000) t53 60 e54 = true := by kernel_rfl
theorem w54 : Go.Dev.TabOK (Go.Dev.plainC Tryd.prog [28, 46, 53, 54, 55, 56, 60, 61, 75, 76, 113] 1000000) (fun _ => True) 0 t54 := Go.Dev.TabOK.cons (Go.Dev.plain_world names) w53 o54
def e55 : Go.Dev.Ent := ⟨26, [.str (bs [99])], .tup [.str (bs [99]), .bool true], [.row ⟨[.str (bs [92, 65, 110, 115, 119, 101, 114, 101, 100]), .str (bs [92, 68, 101, 108, 101, 116, 101, 100]), .str (bs [92, 68, 114, 97, 102, 116]), .str (bs [92, 70, 108, 97, 103, 103, 101, 100]), .str (bs [92, 83, 101, 101, 110])], 1, 0, false, none⟩]⟩
def t55 : List Go.Dev.Ent := e55 :: t54
theorem o55 : Go.Dev.entOk (Go.Dev.plainC Tryd.prog [28, 46, 53, 54, 55, 56, 60, 61, 75, 76, 113] 1000000) t54 60 e55 = true := by kernel_rfl
theorem w55 : Go.Dev.TabOK (Go.Dev.plainC Tryd.prog [28, 46, 53, 54, 55, 56, 60, 61, 75, 76, 113] 1000000) (fun _ => True) 0 t55 := Go.Dev.TabOK.cons (Go.Dev.plain_world names) w54 o55
def e56 : Go.Dev.Ent := ⟨26, [.str (bs [92, 68, 114, 97, 102, 116])], .tup [.str (bs [92, 68, 114, 97, 102, 116]), .bool true], [.row ⟨[.str (bs [92, 65, 110, 115, 119, 101, 114, 101, 100]), .str (bs [92, 68, 101, 108, 101, 116, 101, 100]), .str (bs [92, 68, 114, 97, 102, 116]), .str (bs [92, 70, 108, 97, 103, 103, 101, 100]), .str (bs [92, 83, 101, 101, 110])], 1, 0, false, none⟩]⟩
def t56 : List Go.Dev.Ent := e56 :: t55
theorem o56 : Go.Dev.entOk (Go.Dev.plainC Tryd.prog [28, 46, 53, 54, 55, 56, 60, 61, 75, 76, 113] 1000000) t55 60 e56 = true := by kernel_rfl
theorem w56 : Go.Dev.TabOK (Go.Dev.plainC Tryd.prog [28, 46, 53, 54, 55, 56, 60, 61, 75, 76, 113] 1000000) (fun _ => True) 0 t56 := Go.Dev.TabOK.cons (Go.Dev.plain_world names) w55 o56
def e57 : Go.Dev.Ent := ⟨9, [.imm 1 [.str (bs [92, 68, 114, 97, 102, 116]), .str (bs [65]), .str (bs [98]), .str (bs [66]), .str (bs [99])]], .agg [.ref 3 0 4 1 3 4], [.row ⟨[.agg [.ref 3 0 4 1 3 4]], 1, 0, false, some 26⟩, .map [(.str (bs [92, 100, 114, 97, 102, 116]), .bool true), (.str (bs [97]), .bool true), (.str (bs [98]), .bool true), (.str (bs [99]), .bool true)], .row ⟨[.str (bs [92, 68, 114, 97, 102, 116])], 1, 0, false, some 9⟩, .row ⟨[.str (bs [92, 68, 114, 97, 102, 116]), .str (bs [65]), .str (bs [98]), .str (bs [99])], 1, 3, false, some 9⟩, .row ⟨[.str (bs [65])], 1, 0, false, some 9⟩, .row ⟨[.str (bs [98])], 1, 0, false, some 9⟩, .row ⟨[.str (bs [99])], 1, 0, false, some 9⟩]⟩
def t57 : List Go.Dev.Ent := e57 :: t56
theorem o57 : Go.Dev.entOk (Go.Dev.plainC Tryd.prog [28, 46, 53, 54, 55, 56, 60, 61, 75, 76, 113] 1000000) t56 60 e57 = true := by kernel_rfl
theorem w57 : Go.Dev.TabOK (Go.Dev.plainC Tryd.prog [28, 46, 53, 54, 55, 56, 60, 61, 75, 76, 113] 1000000) (fun _ => True) 0 t57 := Go.Dev.TabOK.cons (Go.Dev.plain_world names) w56 o57
def e58 : Go.Dev.Ent := ⟨26, [.str (bs [92, 82, 101, 99, 101, 110, 116])], .tup [.str (bs [92, 82, 101, 99, 101, 110, 116]), .bool false], [.row ⟨[.str (bs [92, 65, 110, 115, 119, 101, 114, 101, 100]), .str (bs [92, 68, 101, 108, 101, 116, 101, 100]), .str (bs [92, 68, 114, 97, 102, 116]), .str (bs [92, 70, 108, 97, 103, 103, 101, 100]), .str (bs [92, 83, 101, 101, 110])], 1, 0, false, none⟩]⟩
def t58 : List Go.Dev.Ent := e58 :: t57
theorem o58 : Go.Dev.entOk (Go.Dev.plainC Tryd.prog [28, 46, 53, 54, 55, 56, 60, 61, 75, 76, 113] 1000000) t57 60 e58 = true := by kernel_rfl
theorem w58 : Go.Dev.TabOK (Go.Dev.plainC Tryd.prog [28, 46, 53, 54, 55, 56, 60, 61, 75, 76, 113] 1000000) (fun _ => True) 0 t58 := Go.Dev.TabOK.cons (Go.Dev.plain_world names) w57 o58
theorem run : Go.Dev.isTrue (Go.Dev.runT (Go.Dev.plainC Tryd.prog [28, 46, 53, 54, 55, 56, 60, 61, 75, 76, 113] 1000000) t58 60 4 [] []) = true := by kernel_rfl
theorem walk (W : World) : Calls Tryd.prog 4 #[] W fun e W' => e = .returned (.bool true) ∧ Below W.heap.size W W' := Go.Dev.knownT names w58 run W
set_option maxRecDepth 100000 in
theorem lifted (os : Os) (started : os.Started) (H : Type) (enc : TypeId × Value → H) :
    ReturnsInHanded {} Tryd.checked os 4 .any (fun w args => (Rows.flagKnownSpec.pre enc Tryd.prog Tryd.f4 [] false w args ∧ laidMetH Tryd.prog Rows.flagKnownRow.laid w) ∧ sizedMet enc Tryd.prog Tryd.f4 (OpenSpec.ofChange Rows.flagKnownSpec) false w args) (Rows.flagKnownSpec.post enc Tryd.prog Tryd.f4 false true false false) := by
  refine Mine.handed_laid (C := Tryd.checked) own started (by kernel_rfl) Tryd.func4
    (ChangeSpec.witness_shaped (enc := enc) (C := Tryd.checked) (os := os) (X := fun w _ => laidMetH Tryd.prog Rows.flagKnownRow.laid w) false (World.laidAll Tryd.prog os Rows.flagKnownRow.laid) #[] 8 (World.laidAll_os _ _ _)
      (World.shaped_of_ZipB (by kernel_rfl) (by kernel_rfl)) (by kernel_rfl) (by kernel_rfl) (by kernel_rfl)
      (by rw [MakeChecks.laidMetH_plain _ _ _ (by kernel_rfl)]; exact laidMet_laidAll _ (by kernel_rfl) (by kernel_rfl))) ?_
  intro W base args ds gs before hval0 hW hcnd hsz0 hL hsh _
  have hW' := hW
  obtain ⟨p, q, hA0, hV, rfl, hfz, hnd⟩ := hW
  have hA : DataW.TrodAll enc Tryd.prog W 0 (fun _ => true) true Tryd.f4.params.toList args.toList ds p := hA0
  rw [Tryd.params4] at hA
  obtain ⟨rfl, rfl, rfl⟩ := trodAll_none hA
  obtain ⟨rfl, rfl⟩ := trodVars_none hV
  refine (walk W).mono fun e W' ⟨he, bel⟩ => ?_
  subst he
  exact ⟨_, rfl, _, _, _, [], _, [], hW', trodAll_mk1 (shut_bool Tryd.underlying4 _), trodAll_mk0, rfl, bel.frame _, fun h => by cases h⟩
theorem over : Rows.flagKnownRow.holds Tryd.pinned (OpenSpec.ofChange Rows.flagKnownSpec) :=
  OpenClaim.holds_of_wide 4 Tryd.f4 rfl rfl rfl rfl rfl rfl rfl ⟨rfl, rfl, rfl, rfl, rfl⟩ rfl rfl rfl rfl rfl (by kernel_rfl) Tryd.func4 (by kernel_rfl)
    (of_decide_eq_true (by kernel_rfl)) (by unfold Func.isWrapper; first | (rw [if_pos (by decide +kernel)]; kernel_rfl) | (rw [if_neg (by decide +kernel)]; exact ⟨rfl, rfl⟩))
    (fun os started H enc _ => lifted os started H enc)
theorem proved : Rows.FlagKnownSaid := over
#print axioms proved
end Go.Proofs.YtdeigahngjoefaaDoor.flagKnown
namespace Go.Proofs.YtdeigahngjoefaaDoor
/-- The row, under a short name, for the claim. -/
theorem flagKnown_row_holds : Rows.FlagKnownSaid := flagKnown.proved
/-- THE CARD. -/
theorem flagKnown_holds : Rows.FlagKnownCardSaid :=
  Claim7.holds_tied_plain_at .later [] [.data, .pinned] true (true, "ebee54c7c274c131dbbc121529aef73b02aadd12ec13abd59003d90c05c54458") false
    flagKnown_row_holds (fun _ h => by cases h) (by kernel_rfl) (fun _ h => by cases h) flagKnown_row_tie rfl ⟨rfl, rfl⟩ (by kernel_rfl) rfl
    (fun f fn hf hfn => by
      obtain rfl : f = 4 := Option.some.inj ((show Tryd.prog.funcNamed "franking/frankinglaw19.FlagKnown" = some 4 by kernel_rfl).symm.trans hf) |>.symm
      obtain rfl : fn = Tryd.f4 := (Option.some.inj (Tryd.func4.symm.trans hfn)).symm
      exact ⟨by kernel_rfl, fun j t ht => by
        rw [Tryd.params4] at ht
        simp at ht⟩)
    (by kernel_rfl)
end Go.Proofs.YtdeigahngjoefaaDoor
