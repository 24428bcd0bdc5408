/- SectKnown: whatever the input, true: the kernel runs the evaluator over the program's code; that the evaluator answers as the calls do is proved ahead. -/
import Derived.Test.YtefmlibcghjncaaGreatDoorRows
import Derived.Test.YtefmlibcghjncaaGreatDoorDev4
import Derived.Test.YtefmlibcghjncaaGreatDoorShelf
import Derived.Test.YtefmlibcghjncaaGreatDoorCard
import Derived.Test.YtefmlibcghjncaaGreatDoorTie
import Derived.Test.YtefmlibcghjncaaGreatDoorCards
import Derived.Lay
import Derived.Handy
import Derived.SevenTiedAt
import Derived.WalkKit
import Derived.ProofKit
import Derived.OpenShut
import Derived.ShutString
import Derived.ChangeOld
import Derived.Below
import Derived.SizedLaws
import Derived.HandedShaped
namespace Go.Proofs.YtefmlibcghjncaaGreatDoor.sectKnown
open Go.Proofs Go.ChangeShapes Go.WideShapes Go.ChangeAt Go.RowKit
open Go.ChangeMaps (open_string shut_string)
set_option linter.unusedVariables false
theorem own : ownKnob Tryz.prog.godebug = none := by kernel_rfl
def pt : List (FuncId × Go.Dev.PK) := [(87, .bIdx), (80, .sIdx), (74, .sIdx), (160, .sAny), (152, .sHas)]
theorem prims : ∀ e ∈ pt, Go.Dev.PKOK Tryz.prog 0 e.1 e.2 := by
  intro e he
  simp only [pt, List.mem_cons, List.not_mem_nil, or_false] at he
  rcases he with rfl | rfl | rfl | rfl | rfl
  · exact ⟨⟨_, Tryz.func87, by kernel_rfl⟩, fun a1 a2 n c1 k c2 xs ys m w h1 h2 h3 h4 h5 h6 h7 h8 h9 h10 => Tryz.bytes_Index_at a1 a2 n c1 k c2 xs ys m w h1 h2 h3 h4 h5 h6 h7 h8 h9 h10⟩
  · exact ⟨⟨_, Tryz.func80, by kernel_rfl⟩, fun s t m w h1 h2 => Tryz.strings_Index s t m w h1 h2⟩
  · exact ⟨⟨_, Tryz.func74, by kernel_rfl⟩, fun s t m w h1 h2 => Tryz.stringslite_Index s t m w h1 h2⟩
  · exact ⟨⟨_, Tryz.func160, by kernel_rfl⟩, fun s t w h1 h2 h3 h4 => Tryz.strings_IndexAny_laid s t w h1 h2 h3 h4⟩
  · exact ⟨⟨_, Tryz.func152, by kernel_rfl⟩, fun s t w h1 h2 h3 h4 => Tryz.strings_ContainsAny_laid s t w h1 h2 h3 h4⟩
theorem maxg (w : World) (h : w.ShapedOpen Tryz.prog) : Go.Dev.MaxG 0 w := Tryz.laysM219.s1_3 w h
theorem names : Go.Dev.namesOk Tryz.prog = true := by kernel_rfl
set_option maxRecDepth 1000000
def bs (l : List Nat) : ByteArray := ⟨(l.map UInt8.ofNat).toArray⟩
def t0 : List Go.Dev.Ent := []
theorem w0 : Go.Dev.TabOK (Go.Dev.primC Tryz.prog [64, 65, 66, 92, 93, 182] 1000000 pt) (Go.Dev.MaxG 0) (0 + 1) t0 := Go.Dev.TabOK.nil
def e1 : Go.Dev.Ent := ⟨50, [.str (bs [72, 69, 65, 68, 69, 82, 46, 70, 73, 69, 76, 68, 83]), .str (bs [109, 105, 109, 101])], .bool false, []⟩
def t1 : List Go.Dev.Ent := e1 :: t0
theorem o1 : Go.Dev.entOk (Go.Dev.primC Tryz.prog [64, 65, 66, 92, 93, 182] 1000000 pt) t0 60 e1 = true := by kernel_rfl
theorem w1 : Go.Dev.TabOK (Go.Dev.primC Tryz.prog [64, 65, 66, 92, 93, 182] 1000000 pt) (Go.Dev.MaxG 0) (0 + 1) t1 := Go.Dev.TabOK.cons (Go.Dev.prim_world names prims) w0 o1
def e2 : Go.Dev.Ent := ⟨75, [.str (bs [72, 69, 65, 68, 69, 82, 46, 70, 73, 69, 76, 68, 83, 46, 78, 79, 84])], .str (bs [104, 101, 97, 100, 101, 114, 46, 102, 105, 101, 108, 100, 115, 46, 110, 111, 116]), [.row ⟨[.int .u8 (104), .int .u8 (101), .int .u8 (97), .int .u8 (100), .int .u8 (101), .int .u8 (114), .int .u8 (46), .int .u8 (102), .int .u8 (105), .int .u8 (101), .int .u8 (108), .int .u8 (100), .int .u8 (115), .int .u8 (46), .int .u8 (110), .int .u8 (111), .int .u8 (116)], 1, 0, false, some 5⟩]⟩
def t2 : List Go.Dev.Ent := e2 :: t1
theorem o2 : Go.Dev.entOk (Go.Dev.primC Tryz.prog [64, 65, 66, 92, 93, 182] 1000000 pt) t1 60 e2 = true := by kernel_rfl
theorem w2 : Go.Dev.TabOK (Go.Dev.primC Tryz.prog [64, 65, 66, 92, 93, 182] 1000000 pt) (Go.Dev.MaxG 0) (0 + 1) t2 := Go.Dev.TabOK.cons (Go.Dev.prim_world names prims) w1 o2
def e3 : Go.Dev.Ent := ⟨48, [.imm 1 [.str (bs []), .str (bs [72, 69, 65, 68, 69, 82]), .str (bs [84, 69, 88, 84]), .str (bs [72, 69, 65, 68, 69, 82, 46, 70, 73, 69, 76, 68, 83]), .str (bs [72, 69, 65, 68, 69, 82, 46, 70, 73, 69, 76, 68, 83, 46, 78, 79, 84]), .str (bs [77, 73, 77, 69])], .fn 49 [.ipt (.str (bs [109, 105, 109, 101])) 0]], .int .i64 (5), []⟩
def t3 : List Go.Dev.Ent := e3 :: t2
theorem o3 : Go.Dev.entOk (Go.Dev.primC Tryz.prog [64, 65, 66, 92, 93, 182] 1000000 pt) t2 60 e3 = true := by kernel_rfl
theorem w3 : Go.Dev.TabOK (Go.Dev.primC Tryz.prog [64, 65, 66, 92, 93, 182] 1000000 pt) (Go.Dev.MaxG 0) (0 + 1) t3 := Go.Dev.TabOK.cons (Go.Dev.prim_world names prims) w2 o3
def e4 : Go.Dev.Ent := ⟨8, [.str (bs [49, 46, 50, 46, 109, 105, 109, 101])], .tup [.agg [.ref 3 0 2 1 1 2, .int .i64 (5), .nils], .int .i64 (0)], [.row ⟨[.agg [.ref 3 0 2 1 1 2, .int .i64 (5), .nils]], 3, 0, false, some 26⟩, .row ⟨[.agg [.ref 3 0 2 1 1 2, .int .i64 (5), .nils]], 3, 0, false, some 26⟩, .row ⟨[.int .i64 (1)], 1, 0, false, some 3⟩, .row ⟨[.int .i64 (1), .int .i64 (2)], 1, 1, false, some 3⟩, .row ⟨[.int .i64 (2)], 1, 0, false, some 3⟩]⟩
def t4 : List Go.Dev.Ent := e4 :: t3
theorem o4 : Go.Dev.entOk (Go.Dev.primC Tryz.prog [64, 65, 66, 92, 93, 182] 1000000 pt) t3 60 e4 = true := by kernel_rfl
theorem w4 : Go.Dev.TabOK (Go.Dev.primC Tryz.prog [64, 65, 66, 92, 93, 182] 1000000 pt) (Go.Dev.MaxG 0) (0 + 1) t4 := Go.Dev.TabOK.cons (Go.Dev.prim_world names prims) w3 o4
def e5 : Go.Dev.Ent := ⟨34, [.imm 1 [.str (bs [49]), .str (bs [50]), .str (bs [77, 73, 77, 69])], .str (bs [46])], .str (bs [49, 46, 50, 46, 77, 73, 77, 69]), [.row ⟨[.agg [.ptr 0 0 0 2 0, .ref 1 0 8 1 0 8]], 2, 0, false, some 103⟩, .dead]⟩
def t5 : List Go.Dev.Ent := e5 :: t4
theorem o5 : Go.Dev.entOk (Go.Dev.primC Tryz.prog [64, 65, 66, 92, 93, 182] 1000000 pt) t4 60 e5 = true := by kernel_rfl
theorem w5 : Go.Dev.TabOK (Go.Dev.primC Tryz.prog [64, 65, 66, 92, 93, 182] 1000000 pt) (Go.Dev.MaxG 0) (0 + 1) t5 := Go.Dev.TabOK.cons (Go.Dev.prim_world names prims) w4 o5
def e6 : Go.Dev.Ent := ⟨50, [.str (bs [72, 69, 65, 68, 69, 82, 46, 70, 73, 69, 76, 68, 83]), .str (bs [120])], .bool false, []⟩
def t6 : List Go.Dev.Ent := e6 :: t5
theorem o6 : Go.Dev.entOk (Go.Dev.primC Tryz.prog [64, 65, 66, 92, 93, 182] 1000000 pt) t5 60 e6 = true := by kernel_rfl
theorem w6 : Go.Dev.TabOK (Go.Dev.primC Tryz.prog [64, 65, 66, 92, 93, 182] 1000000 pt) (Go.Dev.MaxG 0) (0 + 1) t6 := Go.Dev.TabOK.cons (Go.Dev.prim_world names prims) w5 o6
def e7 : Go.Dev.Ent := ⟨48, [.imm 1 [.str (bs []), .str (bs [72, 69, 65, 68, 69, 82]), .str (bs [84, 69, 88, 84]), .str (bs [72, 69, 65, 68, 69, 82, 46, 70, 73, 69, 76, 68, 83]), .str (bs [72, 69, 65, 68, 69, 82, 46, 70, 73, 69, 76, 68, 83, 46, 78, 79, 84]), .str (bs [77, 73, 77, 69])], .fn 49 [.ipt (.str (bs [120])) 0]], .int .i64 (-1), []⟩
def t7 : List Go.Dev.Ent := e7 :: t6
theorem o7 : Go.Dev.entOk (Go.Dev.primC Tryz.prog [64, 65, 66, 92, 93, 182] 1000000 pt) t6 60 e7 = true := by kernel_rfl
theorem w7 : Go.Dev.TabOK (Go.Dev.primC Tryz.prog [64, 65, 66, 92, 93, 182] 1000000 pt) (Go.Dev.MaxG 0) (0 + 1) t7 := Go.Dev.TabOK.cons (Go.Dev.prim_world names prims) w6 o7
def e8 : Go.Dev.Ent := ⟨8, [.str (bs [49, 46])], .tup [.agg [.nils, .int .i64 (0), .nils], .int .i64 (3)], [.row ⟨[.agg [.nils, .int .i64 (0), .nils]], 3, 0, false, some 26⟩, .row ⟨[.agg [.ref 3 0 1 1 0 1, .int .i64 (0), .nils]], 3, 0, false, some 26⟩, .row ⟨[.int .i64 (1)], 1, 0, false, some 3⟩, .row ⟨[.int .i64 (1)], 1, 0, false, some 3⟩]⟩
def t8 : List Go.Dev.Ent := e8 :: t7
theorem o8 : Go.Dev.entOk (Go.Dev.primC Tryz.prog [64, 65, 66, 92, 93, 182] 1000000 pt) t7 60 e8 = true := by kernel_rfl
theorem w8 : Go.Dev.TabOK (Go.Dev.primC Tryz.prog [64, 65, 66, 92, 93, 182] 1000000 pt) (Go.Dev.MaxG 0) (0 + 1) t8 := Go.Dev.TabOK.cons (Go.Dev.prim_world names prims) w7 o8
def e9 : Go.Dev.Ent := ⟨50, [.str (bs [72, 69, 65, 68, 69, 82, 46, 70, 73, 69, 76, 68, 83]), .str (bs [48])], .bool false, []⟩
def t9 : List Go.Dev.Ent := e9 :: t8
theorem o9 : Go.Dev.entOk (Go.Dev.primC Tryz.prog [64, 65, 66, 92, 93, 182] 1000000 pt) t8 60 e9 = true := by kernel_rfl
theorem w9 : Go.Dev.TabOK (Go.Dev.primC Tryz.prog [64, 65, 66, 92, 93, 182] 1000000 pt) (Go.Dev.MaxG 0) (0 + 1) t9 := Go.Dev.TabOK.cons (Go.Dev.prim_world names prims) w8 o9
def e10 : Go.Dev.Ent := ⟨48, [.imm 1 [.str (bs []), .str (bs [72, 69, 65, 68, 69, 82]), .str (bs [84, 69, 88, 84]), .str (bs [72, 69, 65, 68, 69, 82, 46, 70, 73, 69, 76, 68, 83]), .str (bs [72, 69, 65, 68, 69, 82, 46, 70, 73, 69, 76, 68, 83, 46, 78, 79, 84]), .str (bs [77, 73, 77, 69])], .fn 49 [.ipt (.str (bs [48])) 0]], .int .i64 (-1), []⟩
def t10 : List Go.Dev.Ent := e10 :: t9
theorem o10 : Go.Dev.entOk (Go.Dev.primC Tryz.prog [64, 65, 66, 92, 93, 182] 1000000 pt) t9 60 e10 = true := by kernel_rfl
theorem w10 : Go.Dev.TabOK (Go.Dev.primC Tryz.prog [64, 65, 66, 92, 93, 182] 1000000 pt) (Go.Dev.MaxG 0) (0 + 1) t10 := Go.Dev.TabOK.cons (Go.Dev.prim_world names prims) w9 o10
def e11 : Go.Dev.Ent := ⟨50, [.str (bs [72, 69, 65, 68, 69, 82, 46, 70, 73, 69, 76, 68, 83]), .str (bs [48, 49])], .bool false, []⟩
def t11 : List Go.Dev.Ent := e11 :: t10
theorem o11 : Go.Dev.entOk (Go.Dev.primC Tryz.prog [64, 65, 66, 92, 93, 182] 1000000 pt) t10 60 e11 = true := by kernel_rfl
theorem w11 : Go.Dev.TabOK (Go.Dev.primC Tryz.prog [64, 65, 66, 92, 93, 182] 1000000 pt) (Go.Dev.MaxG 0) (0 + 1) t11 := Go.Dev.TabOK.cons (Go.Dev.prim_world names prims) w10 o11
def e12 : Go.Dev.Ent := ⟨48, [.imm 1 [.str (bs []), .str (bs [72, 69, 65, 68, 69, 82]), .str (bs [84, 69, 88, 84]), .str (bs [72, 69, 65, 68, 69, 82, 46, 70, 73, 69, 76, 68, 83]), .str (bs [72, 69, 65, 68, 69, 82, 46, 70, 73, 69, 76, 68, 83, 46, 78, 79, 84]), .str (bs [77, 73, 77, 69])], .fn 49 [.ipt (.str (bs [48, 49])) 0]], .int .i64 (-1), []⟩
def t12 : List Go.Dev.Ent := e12 :: t11
theorem o12 : Go.Dev.entOk (Go.Dev.primC Tryz.prog [64, 65, 66, 92, 93, 182] 1000000 pt) t11 60 e12 = true := by kernel_rfl
theorem w12 : Go.Dev.TabOK (Go.Dev.primC Tryz.prog [64, 65, 66, 92, 93, 182] 1000000 pt) (Go.Dev.MaxG 0) (0 + 1) t12 := Go.Dev.TabOK.cons (Go.Dev.prim_world names prims) w11 o12
def e13 : Go.Dev.Ent := ⟨50, [.str (bs [72, 69, 65, 68, 69, 82, 46, 70, 73, 69, 76, 68, 83]), .str (bs [50, 48, 49])], .bool false, []⟩
def t13 : List Go.Dev.Ent := e13 :: t12
theorem o13 : Go.Dev.entOk (Go.Dev.primC Tryz.prog [64, 65, 66, 92, 93, 182] 1000000 pt) t12 60 e13 = true := by kernel_rfl
theorem w13 : Go.Dev.TabOK (Go.Dev.primC Tryz.prog [64, 65, 66, 92, 93, 182] 1000000 pt) (Go.Dev.MaxG 0) (0 + 1) t13 := Go.Dev.TabOK.cons (Go.Dev.prim_world names prims) w12 o13
def e14 : Go.Dev.Ent := ⟨48, [.imm 1 [.str (bs []), .str (bs [72, 69, 65, 68, 69, 82]), .str (bs [84, 69, 88, 84]), .str (bs [72, 69, 65, 68, 69, 82, 46, 70, 73, 69, 76, 68, 83]), .str (bs [72, 69, 65, 68, 69, 82, 46, 70, 73, 69, 76, 68, 83, 46, 78, 79, 84]), .str (bs [77, 73, 77, 69])], .fn 49 [.ipt (.str (bs [50, 48, 49])) 0]], .int .i64 (-1), []⟩
def t14 : List Go.Dev.Ent := e14 :: t13
theorem o14 : Go.Dev.entOk (Go.Dev.primC Tryz.prog [64, 65, 66, 92, 93, 182] 1000000 pt) t13 60 e14 = true := by kernel_rfl
theorem w14 : Go.Dev.TabOK (Go.Dev.primC Tryz.prog [64, 65, 66, 92, 93, 182] 1000000 pt) (Go.Dev.MaxG 0) (0 + 1) t14 := Go.Dev.TabOK.cons (Go.Dev.prim_world names prims) w13 o14
def e15 : Go.Dev.Ent := ⟨48, [.imm 1 [.str (bs []), .str (bs [72, 69, 65, 68, 69, 82]), .str (bs [84, 69, 88, 84]), .str (bs [72, 69, 65, 68, 69, 82, 46, 70, 73, 69, 76, 68, 83]), .str (bs [72, 69, 65, 68, 69, 82, 46, 70, 73, 69, 76, 68, 83, 46, 78, 79, 84]), .str (bs [77, 73, 77, 69])], .fn 49 [.ipt (.str (bs [116, 101, 120, 116])) 0]], .int .i64 (2), []⟩
def t15 : List Go.Dev.Ent := e15 :: t14
theorem o15 : Go.Dev.entOk (Go.Dev.primC Tryz.prog [64, 65, 66, 92, 93, 182] 1000000 pt) t14 60 e15 = true := by kernel_rfl
theorem w15 : Go.Dev.TabOK (Go.Dev.primC Tryz.prog [64, 65, 66, 92, 93, 182] 1000000 pt) (Go.Dev.MaxG 0) (0 + 1) t15 := Go.Dev.TabOK.cons (Go.Dev.prim_world names prims) w14 o15
def e16 : Go.Dev.Ent := ⟨8, [.str (bs [49, 46, 116, 101, 120, 116])], .tup [.agg [.nils, .int .i64 (0), .nils], .int .i64 (3)], [.row ⟨[.agg [.nils, .int .i64 (0), .nils]], 3, 0, false, some 26⟩, .row ⟨[.agg [.ref 3 0 1 1 0 1, .int .i64 (2), .nils]], 3, 0, false, some 26⟩, .row ⟨[.int .i64 (1)], 1, 0, false, some 3⟩, .row ⟨[.int .i64 (1)], 1, 0, false, some 3⟩]⟩
def t16 : List Go.Dev.Ent := e16 :: t15
theorem o16 : Go.Dev.entOk (Go.Dev.primC Tryz.prog [64, 65, 66, 92, 93, 182] 1000000 pt) t15 60 e16 = true := by kernel_rfl
theorem w16 : Go.Dev.TabOK (Go.Dev.primC Tryz.prog [64, 65, 66, 92, 93, 182] 1000000 pt) (Go.Dev.MaxG 0) (0 + 1) t16 := Go.Dev.TabOK.cons (Go.Dev.prim_world names prims) w15 o16
def e17 : Go.Dev.Ent := ⟨50, [.str (bs [72, 69, 65, 68, 69, 82]), .str (bs [104, 101, 97, 100, 101, 114, 46, 102, 105, 101, 108, 100, 115])], .bool false, []⟩
def t17 : List Go.Dev.Ent := e17 :: t16
theorem o17 : Go.Dev.entOk (Go.Dev.primC Tryz.prog [64, 65, 66, 92, 93, 182] 1000000 pt) t16 60 e17 = true := by kernel_rfl
theorem w17 : Go.Dev.TabOK (Go.Dev.primC Tryz.prog [64, 65, 66, 92, 93, 182] 1000000 pt) (Go.Dev.MaxG 0) (0 + 1) t17 := Go.Dev.TabOK.cons (Go.Dev.prim_world names prims) w16 o17
def e18 : Go.Dev.Ent := ⟨50, [.str (bs [72, 69, 65, 68, 69, 82, 46, 70, 73, 69, 76, 68, 83]), .str (bs [104, 101, 97, 100, 101, 114, 46, 102, 105, 101, 108, 100, 115])], .bool true, []⟩
def t18 : List Go.Dev.Ent := e18 :: t17
theorem o18 : Go.Dev.entOk (Go.Dev.primC Tryz.prog [64, 65, 66, 92, 93, 182] 1000000 pt) t17 60 e18 = true := by kernel_rfl
theorem w18 : Go.Dev.TabOK (Go.Dev.primC Tryz.prog [64, 65, 66, 92, 93, 182] 1000000 pt) (Go.Dev.MaxG 0) (0 + 1) t18 := Go.Dev.TabOK.cons (Go.Dev.prim_world names prims) w17 o18
def e19 : Go.Dev.Ent := ⟨48, [.imm 1 [.str (bs []), .str (bs [72, 69, 65, 68, 69, 82]), .str (bs [84, 69, 88, 84]), .str (bs [72, 69, 65, 68, 69, 82, 46, 70, 73, 69, 76, 68, 83]), .str (bs [72, 69, 65, 68, 69, 82, 46, 70, 73, 69, 76, 68, 83, 46, 78, 79, 84]), .str (bs [77, 73, 77, 69])], .fn 49 [.ipt (.str (bs [104, 101, 97, 100, 101, 114, 46, 102, 105, 101, 108, 100, 115])) 0]], .int .i64 (3), []⟩
def t19 : List Go.Dev.Ent := e19 :: t18
theorem o19 : Go.Dev.entOk (Go.Dev.primC Tryz.prog [64, 65, 66, 92, 93, 182] 1000000 pt) t18 60 e19 = true := by kernel_rfl
theorem w19 : Go.Dev.TabOK (Go.Dev.primC Tryz.prog [64, 65, 66, 92, 93, 182] 1000000 pt) (Go.Dev.MaxG 0) (0 + 1) t19 := Go.Dev.TabOK.cons (Go.Dev.prim_world names prims) w18 o19
def e20 : Go.Dev.Ent := ⟨8, [.str (bs [104, 101, 97, 100, 101, 114, 46, 102, 105, 101, 108, 100, 115, 32, 40, 41])], .tup [.agg [.nils, .int .i64 (0), .nils], .int .i64 (3)], [.row ⟨[.agg [.nils, .int .i64 (0), .nils]], 3, 0, false, some 26⟩, .row ⟨[.agg [.nils, .int .i64 (3), .ref 2 0 1 1 0 1]], 3, 0, false, some 26⟩, .row ⟨[.str (bs [])], 1, 0, false, none⟩]⟩
def t20 : List Go.Dev.Ent := e20 :: t19
theorem o20 : Go.Dev.entOk (Go.Dev.primC Tryz.prog [64, 65, 66, 92, 93, 182] 1000000 pt) t19 60 e20 = true := by kernel_rfl
theorem w20 : Go.Dev.TabOK (Go.Dev.primC Tryz.prog [64, 65, 66, 92, 93, 182] 1000000 pt) (Go.Dev.MaxG 0) (0 + 1) t20 := Go.Dev.TabOK.cons (Go.Dev.prim_world names prims) w19 o20
def e21 : Go.Dev.Ent := ⟨8, [.str (bs [104, 101, 97, 100, 101, 114, 46, 102, 105, 101, 108, 100, 115, 32, 40, 97, 32, 32, 98, 41])], .tup [.agg [.nils, .int .i64 (0), .nils], .int .i64 (3)], [.row ⟨[.agg [.nils, .int .i64 (0), .nils]], 3, 0, false, some 26⟩, .row ⟨[.agg [.nils, .int .i64 (3), .ref 2 0 3 1 0 3]], 3, 0, false, some 26⟩, .row ⟨[.str (bs [97]), .str (bs []), .str (bs [98])], 1, 0, false, none⟩]⟩
def t21 : List Go.Dev.Ent := e21 :: t20
theorem o21 : Go.Dev.entOk (Go.Dev.primC Tryz.prog [64, 65, 66, 92, 93, 182] 1000000 pt) t20 60 e21 = true := by kernel_rfl
theorem w21 : Go.Dev.TabOK (Go.Dev.primC Tryz.prog [64, 65, 66, 92, 93, 182] 1000000 pt) (Go.Dev.MaxG 0) (0 + 1) t21 := Go.Dev.TabOK.cons (Go.Dev.prim_world names prims) w20 o21
def e22 : Go.Dev.Ent := ⟨50, [.str (bs [72, 69, 65, 68, 69, 82]), .str (bs [104, 101, 97, 100, 101, 114, 46, 102, 105, 101, 108, 100, 115, 40, 97, 41])], .bool false, []⟩
def t22 : List Go.Dev.Ent := e22 :: t21
theorem o22 : Go.Dev.entOk (Go.Dev.primC Tryz.prog [64, 65, 66, 92, 93, 182] 1000000 pt) t21 60 e22 = true := by kernel_rfl
theorem w22 : Go.Dev.TabOK (Go.Dev.primC Tryz.prog [64, 65, 66, 92, 93, 182] 1000000 pt) (Go.Dev.MaxG 0) (0 + 1) t22 := Go.Dev.TabOK.cons (Go.Dev.prim_world names prims) w21 o22
def e23 : Go.Dev.Ent := ⟨50, [.str (bs [84, 69, 88, 84]), .str (bs [104, 101, 97, 100, 101, 114, 46, 102, 105, 101, 108, 100, 115, 40, 97, 41])], .bool false, []⟩
def t23 : List Go.Dev.Ent := e23 :: t22
theorem o23 : Go.Dev.entOk (Go.Dev.primC Tryz.prog [64, 65, 66, 92, 93, 182] 1000000 pt) t22 60 e23 = true := by kernel_rfl
theorem w23 : Go.Dev.TabOK (Go.Dev.primC Tryz.prog [64, 65, 66, 92, 93, 182] 1000000 pt) (Go.Dev.MaxG 0) (0 + 1) t23 := Go.Dev.TabOK.cons (Go.Dev.prim_world names prims) w22 o23
def e24 : Go.Dev.Ent := ⟨50, [.str (bs [72, 69, 65, 68, 69, 82, 46, 70, 73, 69, 76, 68, 83]), .str (bs [104, 101, 97, 100, 101, 114, 46, 102, 105, 101, 108, 100, 115, 40, 97, 41])], .bool false, []⟩
def t24 : List Go.Dev.Ent := e24 :: t23
theorem o24 : Go.Dev.entOk (Go.Dev.primC Tryz.prog [64, 65, 66, 92, 93, 182] 1000000 pt) t23 60 e24 = true := by kernel_rfl
theorem w24 : Go.Dev.TabOK (Go.Dev.primC Tryz.prog [64, 65, 66, 92, 93, 182] 1000000 pt) (Go.Dev.MaxG 0) (0 + 1) t24 := Go.Dev.TabOK.cons (Go.Dev.prim_world names prims) w23 o24
def e25 : Go.Dev.Ent := ⟨50, [.str (bs [77, 73, 77, 69]), .str (bs [104, 101, 97, 100, 101, 114, 46, 102, 105, 101, 108, 100, 115, 40, 97, 41])], .bool false, []⟩
def t25 : List Go.Dev.Ent := e25 :: t24
theorem o25 : Go.Dev.entOk (Go.Dev.primC Tryz.prog [64, 65, 66, 92, 93, 182] 1000000 pt) t24 60 e25 = true := by kernel_rfl
theorem w25 : Go.Dev.TabOK (Go.Dev.primC Tryz.prog [64, 65, 66, 92, 93, 182] 1000000 pt) (Go.Dev.MaxG 0) (0 + 1) t25 := Go.Dev.TabOK.cons (Go.Dev.prim_world names prims) w24 o25
def e26 : Go.Dev.Ent := ⟨48, [.imm 1 [.str (bs []), .str (bs [72, 69, 65, 68, 69, 82]), .str (bs [84, 69, 88, 84]), .str (bs [72, 69, 65, 68, 69, 82, 46, 70, 73, 69, 76, 68, 83]), .str (bs [72, 69, 65, 68, 69, 82, 46, 70, 73, 69, 76, 68, 83, 46, 78, 79, 84]), .str (bs [77, 73, 77, 69])], .fn 49 [.ipt (.str (bs [104, 101, 97, 100, 101, 114, 46, 102, 105, 101, 108, 100, 115, 40, 97, 41])) 0]], .int .i64 (-1), []⟩
def t26 : List Go.Dev.Ent := e26 :: t25
theorem o26 : Go.Dev.entOk (Go.Dev.primC Tryz.prog [64, 65, 66, 92, 93, 182] 1000000 pt) t25 60 e26 = true := by kernel_rfl
theorem w26 : Go.Dev.TabOK (Go.Dev.primC Tryz.prog [64, 65, 66, 92, 93, 182] 1000000 pt) (Go.Dev.MaxG 0) (0 + 1) t26 := Go.Dev.TabOK.cons (Go.Dev.prim_world names prims) w25 o26
def e27 : Go.Dev.Ent := ⟨8, [.str (bs [49, 46, 50, 32])], .tup [.agg [.nils, .int .i64 (0), .nils], .int .i64 (3)], [.row ⟨[.agg [.nils, .int .i64 (0), .nils]], 3, 0, false, some 26⟩, .row ⟨[.agg [.ref 3 0 2 1 1 2, .int .i64 (0), .nils]], 3, 0, false, some 26⟩, .row ⟨[.int .i64 (1)], 1, 0, false, some 3⟩, .row ⟨[.int .i64 (1), .int .i64 (2)], 1, 1, false, some 3⟩, .row ⟨[.int .i64 (2)], 1, 0, false, some 3⟩]⟩
def t27 : List Go.Dev.Ent := e27 :: t26
theorem o27 : Go.Dev.entOk (Go.Dev.primC Tryz.prog [64, 65, 66, 92, 93, 182] 1000000 pt) t26 60 e27 = true := by kernel_rfl
theorem w27 : Go.Dev.TabOK (Go.Dev.primC Tryz.prog [64, 65, 66, 92, 93, 182] 1000000 pt) (Go.Dev.MaxG 0) (0 + 1) t27 := Go.Dev.TabOK.cons (Go.Dev.prim_world names prims) w26 o27
def e28 : Go.Dev.Ent := ⟨50, [.str (bs [72, 69, 65, 68, 69, 82, 46, 70, 73, 69, 76, 68, 83]), .str (bs [104, 101, 97, 100, 101, 114, 46])], .bool false, []⟩
def t28 : List Go.Dev.Ent := e28 :: t27
theorem o28 : Go.Dev.entOk (Go.Dev.primC Tryz.prog [64, 65, 66, 92, 93, 182] 1000000 pt) t27 60 e28 = true := by kernel_rfl
theorem w28 : Go.Dev.TabOK (Go.Dev.primC Tryz.prog [64, 65, 66, 92, 93, 182] 1000000 pt) (Go.Dev.MaxG 0) (0 + 1) t28 := Go.Dev.TabOK.cons (Go.Dev.prim_world names prims) w27 o28
def e29 : Go.Dev.Ent := ⟨48, [.imm 1 [.str (bs []), .str (bs [72, 69, 65, 68, 69, 82]), .str (bs [84, 69, 88, 84]), .str (bs [72, 69, 65, 68, 69, 82, 46, 70, 73, 69, 76, 68, 83]), .str (bs [72, 69, 65, 68, 69, 82, 46, 70, 73, 69, 76, 68, 83, 46, 78, 79, 84]), .str (bs [77, 73, 77, 69])], .fn 49 [.ipt (.str (bs [104, 101, 97, 100, 101, 114, 46])) 0]], .int .i64 (-1), []⟩
def t29 : List Go.Dev.Ent := e29 :: t28
theorem o29 : Go.Dev.entOk (Go.Dev.primC Tryz.prog [64, 65, 66, 92, 93, 182] 1000000 pt) t28 60 e29 = true := by kernel_rfl
theorem w29 : Go.Dev.TabOK (Go.Dev.primC Tryz.prog [64, 65, 66, 92, 93, 182] 1000000 pt) (Go.Dev.MaxG 0) (0 + 1) t29 := Go.Dev.TabOK.cons (Go.Dev.prim_world names prims) w28 o29
def e30 : Go.Dev.Ent := ⟨8, [.str (bs [116, 101, 120, 116, 32, 40, 97, 41])], .tup [.agg [.nils, .int .i64 (0), .nils], .int .i64 (3)], [.row ⟨[.agg [.nils, .int .i64 (0), .nils]], 3, 0, false, some 26⟩, .row ⟨[.agg [.nils, .int .i64 (2), .ref 2 0 1 1 0 1]], 3, 0, false, some 26⟩, .row ⟨[.str (bs [97])], 1, 0, false, none⟩]⟩
def t30 : List Go.Dev.Ent := e30 :: t29
theorem o30 : Go.Dev.entOk (Go.Dev.primC Tryz.prog [64, 65, 66, 92, 93, 182] 1000000 pt) t29 60 e30 = true := by kernel_rfl
theorem w30 : Go.Dev.TabOK (Go.Dev.primC Tryz.prog [64, 65, 66, 92, 93, 182] 1000000 pt) (Go.Dev.MaxG 0) (0 + 1) t30 := Go.Dev.TabOK.cons (Go.Dev.prim_world names prims) w29 o30
def e31 : Go.Dev.Ent := ⟨50, [.str (bs [72, 69, 65, 68, 69, 82]), .str (bs [72, 101, 97, 100, 101, 114, 46, 70, 105, 101, 108, 100, 115, 46, 78, 111, 116])], .bool false, []⟩
def t31 : List Go.Dev.Ent := e31 :: t30
theorem o31 : Go.Dev.entOk (Go.Dev.primC Tryz.prog [64, 65, 66, 92, 93, 182] 1000000 pt) t30 60 e31 = true := by kernel_rfl
theorem w31 : Go.Dev.TabOK (Go.Dev.primC Tryz.prog [64, 65, 66, 92, 93, 182] 1000000 pt) (Go.Dev.MaxG 0) (0 + 1) t31 := Go.Dev.TabOK.cons (Go.Dev.prim_world names prims) w30 o31
def e32 : Go.Dev.Ent := ⟨50, [.str (bs [84, 69, 88, 84]), .str (bs [72, 101, 97, 100, 101, 114, 46, 70, 105, 101, 108, 100, 115, 46, 78, 111, 116])], .bool false, []⟩
def t32 : List Go.Dev.Ent := e32 :: t31
theorem o32 : Go.Dev.entOk (Go.Dev.primC Tryz.prog [64, 65, 66, 92, 93, 182] 1000000 pt) t31 60 e32 = true := by kernel_rfl
theorem w32 : Go.Dev.TabOK (Go.Dev.primC Tryz.prog [64, 65, 66, 92, 93, 182] 1000000 pt) (Go.Dev.MaxG 0) (0 + 1) t32 := Go.Dev.TabOK.cons (Go.Dev.prim_world names prims) w31 o32
def e33 : Go.Dev.Ent := ⟨50, [.str (bs [72, 69, 65, 68, 69, 82, 46, 70, 73, 69, 76, 68, 83]), .str (bs [72, 101, 97, 100, 101, 114, 46, 70, 105, 101, 108, 100, 115, 46, 78, 111, 116])], .bool false, []⟩
def t33 : List Go.Dev.Ent := e33 :: t32
theorem o33 : Go.Dev.entOk (Go.Dev.primC Tryz.prog [64, 65, 66, 92, 93, 182] 1000000 pt) t32 60 e33 = true := by kernel_rfl
theorem w33 : Go.Dev.TabOK (Go.Dev.primC Tryz.prog [64, 65, 66, 92, 93, 182] 1000000 pt) (Go.Dev.MaxG 0) (0 + 1) t33 := Go.Dev.TabOK.cons (Go.Dev.prim_world names prims) w32 o33
def e34 : Go.Dev.Ent := ⟨48, [.imm 1 [.str (bs []), .str (bs [72, 69, 65, 68, 69, 82]), .str (bs [84, 69, 88, 84]), .str (bs [72, 69, 65, 68, 69, 82, 46, 70, 73, 69, 76, 68, 83]), .str (bs [72, 69, 65, 68, 69, 82, 46, 70, 73, 69, 76, 68, 83, 46, 78, 79, 84]), .str (bs [77, 73, 77, 69])], .fn 49 [.ipt (.str (bs [72, 101, 97, 100, 101, 114, 46, 70, 105, 101, 108, 100, 115, 46, 78, 111, 116])) 0]], .int .i64 (4), []⟩
def t34 : List Go.Dev.Ent := e34 :: t33
theorem o34 : Go.Dev.entOk (Go.Dev.primC Tryz.prog [64, 65, 66, 92, 93, 182] 1000000 pt) t33 60 e34 = true := by kernel_rfl
theorem w34 : Go.Dev.TabOK (Go.Dev.primC Tryz.prog [64, 65, 66, 92, 93, 182] 1000000 pt) (Go.Dev.MaxG 0) (0 + 1) t34 := Go.Dev.TabOK.cons (Go.Dev.prim_world names prims) w33 o34
def e35 : Go.Dev.Ent := ⟨8, [.str (bs [72, 101, 97, 100, 101, 114, 46, 70, 105, 101, 108, 100, 115, 46, 78, 111, 116, 32, 40, 84, 111, 32, 99, 99, 41])], .tup [.agg [.nils, .int .i64 (4), .ref 2 0 2 1 0 2], .int .i64 (0)], [.row ⟨[.agg [.nils, .int .i64 (4), .ref 2 0 2 1 0 2]], 3, 0, false, some 26⟩, .row ⟨[.agg [.nils, .int .i64 (4), .ref 2 0 2 1 0 2]], 3, 0, false, some 26⟩, .row ⟨[.str (bs [84, 111]), .str (bs [99, 99])], 1, 0, false, none⟩]⟩
def t35 : List Go.Dev.Ent := e35 :: t34
theorem o35 : Go.Dev.entOk (Go.Dev.primC Tryz.prog [64, 65, 66, 92, 93, 182] 1000000 pt) t34 60 e35 = true := by kernel_rfl
theorem w35 : Go.Dev.TabOK (Go.Dev.primC Tryz.prog [64, 65, 66, 92, 93, 182] 1000000 pt) (Go.Dev.MaxG 0) (0 + 1) t35 := Go.Dev.TabOK.cons (Go.Dev.prim_world names prims) w34 o35
def e36 : Go.Dev.Ent := ⟨9, [.str (bs [84, 111, 58, 32, 97, 10, 67, 99, 58, 32, 98, 10, 88, 58, 32, 99, 10, 10, 98, 111, 100, 121])], .ref 1 0 26 1 25 26, [.row ⟨[.int .u8 (84)], 1, 0, false, some 5⟩, .row ⟨[.int .u8 (84), .int .u8 (111), .int .u8 (58), .int .u8 (32), .int .u8 (97), .int .u8 (13), .int .u8 (10), .int .u8 (67), .int .u8 (99), .int .u8 (58), .int .u8 (32), .int .u8 (98), .int .u8 (13), .int .u8 (10), .int .u8 (88), .int .u8 (58), .int .u8 (32), .int .u8 (99), .int .u8 (13), .int .u8 (10), .int .u8 (13), .int .u8 (10), .int .u8 (98), .int .u8 (111), .int .u8 (100), .int .u8 (121)], 1, 25, false, some 5⟩, .row ⟨[.int .u8 (111)], 1, 0, false, some 5⟩, .row ⟨[.int .u8 (58)], 1, 0, false, some 5⟩, .row ⟨[.int .u8 (32)], 1, 0, false, some 5⟩, .row ⟨[.int .u8 (97)], 1, 0, false, some 5⟩, .row ⟨[.int .u8 (13)], 1, 0, false, some 5⟩, .row ⟨[.int .u8 (10)], 1, 0, false, some 5⟩, .row ⟨[.int .u8 (67)], 1, 0, false, some 5⟩, .row ⟨[.int .u8 (99)], 1, 0, false, some 5⟩, .row ⟨[.int .u8 (58)], 1, 0, false, some 5⟩, .row ⟨[.int .u8 (32)], 1, 0, false, some 5⟩, .row ⟨[.int .u8 (98)], 1, 0, false, some 5⟩, .row ⟨[.int .u8 (13)], 1, 0, false, some 5⟩, .row ⟨[.int .u8 (10)], 1, 0, false, some 5⟩, .row ⟨[.int .u8 (88)], 1, 0, false, some 5⟩, .row ⟨[.int .u8 (58)], 1, 0, false, some 5⟩, .row ⟨[.int .u8 (32)], 1, 0, false, some 5⟩, .row ⟨[.int .u8 (99)], 1, 0, false, some 5⟩, .row ⟨[.int .u8 (13)], 1, 0, false, some 5⟩, .row ⟨[.int .u8 (10)], 1, 0, false, some 5⟩, .row ⟨[.int .u8 (13)], 1, 0, false, some 5⟩, .row ⟨[.int .u8 (10)], 1, 0, false, some 5⟩, .row ⟨[.int .u8 (98)], 1, 0, false, some 5⟩, .row ⟨[.int .u8 (111)], 1, 0, false, some 5⟩, .row ⟨[.int .u8 (100)], 1, 0, false, some 5⟩, .row ⟨[.int .u8 (121)], 1, 0, false, some 5⟩]⟩
def t36 : List Go.Dev.Ent := e36 :: t35
theorem o36 : Go.Dev.entOk (Go.Dev.primC Tryz.prog [64, 65, 66, 92, 93, 182] 1000000 pt) t35 60 e36 = true := by kernel_rfl
theorem w36 : Go.Dev.TabOK (Go.Dev.primC Tryz.prog [64, 65, 66, 92, 93, 182] 1000000 pt) (Go.Dev.MaxG 0) (0 + 1) t36 := Go.Dev.TabOK.cons (Go.Dev.prim_world names prims) w35 o36
def e37 : Go.Dev.Ent := ⟨90, [.str (bs [32, 97, 13, 10])], .str (bs [97]), []⟩
def t37 : List Go.Dev.Ent := e37 :: t36
theorem o37 : Go.Dev.entOk (Go.Dev.primC Tryz.prog [64, 65, 66, 92, 93, 182] 1000000 pt) t36 60 e37 = true := by kernel_rfl
theorem w37 : Go.Dev.TabOK (Go.Dev.primC Tryz.prog [64, 65, 66, 92, 93, 182] 1000000 pt) (Go.Dev.MaxG 0) (0 + 1) t37 := Go.Dev.TabOK.cons (Go.Dev.prim_world names prims) w36 o37
def e38 : Go.Dev.Ent := ⟨90, [.str (bs [32, 98, 13, 10])], .str (bs [98]), []⟩
def t38 : List Go.Dev.Ent := e38 :: t37
theorem o38 : Go.Dev.entOk (Go.Dev.primC Tryz.prog [64, 65, 66, 92, 93, 182] 1000000 pt) t37 60 e38 = true := by kernel_rfl
theorem w38 : Go.Dev.TabOK (Go.Dev.primC Tryz.prog [64, 65, 66, 92, 93, 182] 1000000 pt) (Go.Dev.MaxG 0) (0 + 1) t38 := Go.Dev.TabOK.cons (Go.Dev.prim_world names prims) w37 o38
def e39 : Go.Dev.Ent := ⟨90, [.str (bs [32, 99, 13, 10])], .str (bs [99]), []⟩
def t39 : List Go.Dev.Ent := e39 :: t38
theorem o39 : Go.Dev.entOk (Go.Dev.primC Tryz.prog [64, 65, 66, 92, 93, 182] 1000000 pt) t38 60 e39 = true := by kernel_rfl
theorem w39 : Go.Dev.TabOK (Go.Dev.primC Tryz.prog [64, 65, 66, 92, 93, 182] 1000000 pt) (Go.Dev.MaxG 0) (0 + 1) t39 := Go.Dev.TabOK.cons (Go.Dev.prim_world names prims) w38 o39
def e40 : Go.Dev.Ent := ⟨61, [.imm 1 [.int .u8 (84), .int .u8 (111), .int .u8 (58), .int .u8 (32), .int .u8 (97), .int .u8 (13), .int .u8 (10), .int .u8 (67), .int .u8 (99), .int .u8 (58), .int .u8 (32), .int .u8 (98), .int .u8 (13), .int .u8 (10), .int .u8 (88), .int .u8 (58), .int .u8 (32), .int .u8 (99), .int .u8 (13), .int .u8 (10), .int .u8 (13), .int .u8 (10), .int .u8 (98), .int .u8 (111), .int .u8 (100), .int .u8 (121)]], .ref 2 0 3 4 2 3, [.row ⟨[.imm 1 [.int .u8 (84), .int .u8 (111), .int .u8 (58), .int .u8 (32), .int .u8 (97), .int .u8 (13), .int .u8 (10)], .imm 1 [.int .u8 (67), .int .u8 (99), .int .u8 (58), .int .u8 (32), .int .u8 (98), .int .u8 (13), .int .u8 (10)], .imm 1 [.int .u8 (88), .int .u8 (58), .int .u8 (32), .int .u8 (99), .int .u8 (13), .int .u8 (10)], .imm 1 [.int .u8 (13), .int .u8 (10)]], 1, 0, false, none⟩, .row ⟨[.agg [.str (bs [84, 111]), .str (bs []), .int .i64 (0), .int .i64 (7)]], 4, 0, false, some 100⟩, .row ⟨[.agg [.str (bs [84, 111]), .str (bs [97]), .int .i64 (0), .int .i64 (7)], .agg [.str (bs [67, 99]), .str (bs [98]), .int .i64 (7), .int .i64 (14)], .agg [.str (bs [88]), .str (bs [99]), .int .i64 (14), .int .i64 (20)]], 4, 2, false, some 100⟩, .row ⟨[.agg [.str (bs [67, 99]), .str (bs []), .int .i64 (7), .int .i64 (14)]], 4, 0, false, some 100⟩, .row ⟨[.agg [.str (bs [88]), .str (bs []), .int .i64 (14), .int .i64 (20)]], 4, 0, false, some 100⟩, .row ⟨[.agg [.str (bs [84, 111]), .str (bs []), .int .i64 (0), .int .i64 (7)]], 4, 0, false, some 100⟩, .row ⟨[.agg [.str (bs [67, 99]), .str (bs []), .int .i64 (7), .int .i64 (14)]], 4, 0, false, some 100⟩, .row ⟨[.agg [.str (bs [88]), .str (bs []), .int .i64 (14), .int .i64 (20)]], 4, 0, false, some 100⟩]⟩
def t40 : List Go.Dev.Ent := e40 :: t39
theorem o40 : Go.Dev.entOk (Go.Dev.primC Tryz.prog [64, 65, 66, 92, 93, 182] 1000000 pt) t39 60 e40 = true := by kernel_rfl
theorem w40 : Go.Dev.TabOK (Go.Dev.primC Tryz.prog [64, 65, 66, 92, 93, 182] 1000000 pt) (Go.Dev.MaxG 0) (0 + 1) t40 := Go.Dev.TabOK.cons (Go.Dev.prim_world names prims) w39 o40
def e41 : Go.Dev.Ent := ⟨31, [.imm 1 [.int .u8 (84), .int .u8 (111), .int .u8 (58), .int .u8 (32), .int .u8 (97), .int .u8 (13), .int .u8 (10), .int .u8 (67), .int .u8 (99), .int .u8 (58), .int .u8 (32), .int .u8 (98), .int .u8 (13), .int .u8 (10), .int .u8 (88), .int .u8 (58), .int .u8 (32), .int .u8 (99), .int .u8 (13), .int .u8 (10), .int .u8 (13), .int .u8 (10), .int .u8 (98), .int .u8 (111), .int .u8 (100), .int .u8 (121)], .imm 1 [.str (bs [84, 111]), .str (bs [99, 99])], .bool true], .ref 5 0 8 1 1 8, [.row ⟨[.agg [.str (bs [84, 111]), .str (bs [97]), .int .i64 (0), .int .i64 (7)], .agg [.str (bs [67, 99]), .str (bs [98]), .int .i64 (7), .int .i64 (14)], .agg [.str (bs [88]), .str (bs [99]), .int .i64 (14), .int .i64 (20)]], 4, 0, false, none⟩, .row ⟨[.agg [.str (bs [84, 111]), .str (bs [97]), .int .i64 (0), .int .i64 (7)]], 4, 0, false, some 100⟩, .row ⟨[.agg [.str (bs [67, 99]), .str (bs [98]), .int .i64 (7), .int .i64 (14)]], 4, 0, false, some 100⟩, .row ⟨[.agg [.str (bs [88]), .str (bs [99]), .int .i64 (14), .int .i64 (20)]], 4, 0, false, some 100⟩, .row ⟨[.int .u8 (88), .int .u8 (58), .int .u8 (32), .int .u8 (99), .int .u8 (13), .int .u8 (10)], 1, 0, true, some 5⟩, .row ⟨[.int .u8 (88), .int .u8 (58), .int .u8 (32), .int .u8 (99), .int .u8 (13), .int .u8 (10), .int .u8 (13), .int .u8 (10)], 1, 1, false, none⟩]⟩
def t41 : List Go.Dev.Ent := e41 :: t40
theorem o41 : Go.Dev.entOk (Go.Dev.primC Tryz.prog [64, 65, 66, 92, 93, 182] 1000000 pt) t40 60 e41 = true := by kernel_rfl
theorem w41 : Go.Dev.TabOK (Go.Dev.primC Tryz.prog [64, 65, 66, 92, 93, 182] 1000000 pt) (Go.Dev.MaxG 0) (0 + 1) t41 := Go.Dev.TabOK.cons (Go.Dev.prim_world names prims) w40 o41
def e42 : Go.Dev.Ent := ⟨10, [.imm 1 [.int .u8 (84), .int .u8 (111), .int .u8 (58), .int .u8 (32), .int .u8 (97), .int .u8 (13), .int .u8 (10), .int .u8 (67), .int .u8 (99), .int .u8 (58), .int .u8 (32), .int .u8 (98), .int .u8 (13), .int .u8 (10), .int .u8 (88), .int .u8 (58), .int .u8 (32), .int .u8 (99), .int .u8 (13), .int .u8 (10), .int .u8 (13), .int .u8 (10), .int .u8 (98), .int .u8 (111), .int .u8 (100), .int .u8 (121)], .agg [.nils, .int .i64 (4), .imm 1 [.str (bs [84, 111]), .str (bs [99, 99])]]], .tup [.ref 1 0 8 1 0 8, .bool true], [.row ⟨[.agg [.nils, .int .i64 (4), .imm 1 [.str (bs [84, 111]), .str (bs [99, 99])]]], 3, 0, false, some 26⟩, .row ⟨[.int .u8 (88), .int .u8 (58), .int .u8 (32), .int .u8 (99), .int .u8 (13), .int .u8 (10), .int .u8 (13), .int .u8 (10)], 1, 0, false, none⟩]⟩
def t42 : List Go.Dev.Ent := e42 :: t41
theorem o42 : Go.Dev.entOk (Go.Dev.primC Tryz.prog [64, 65, 66, 92, 93, 182] 1000000 pt) t41 60 e42 = true := by kernel_rfl
theorem w42 : Go.Dev.TabOK (Go.Dev.primC Tryz.prog [64, 65, 66, 92, 93, 182] 1000000 pt) (Go.Dev.MaxG 0) (0 + 1) t42 := Go.Dev.TabOK.cons (Go.Dev.prim_world names prims) w41 o42
def e43 : Go.Dev.Ent := ⟨48, [.imm 1 [.str (bs []), .str (bs [72, 69, 65, 68, 69, 82]), .str (bs [84, 69, 88, 84]), .str (bs [72, 69, 65, 68, 69, 82, 46, 70, 73, 69, 76, 68, 83]), .str (bs [72, 69, 65, 68, 69, 82, 46, 70, 73, 69, 76, 68, 83, 46, 78, 79, 84]), .str (bs [77, 73, 77, 69])], .fn 49 [.ipt (.str (bs [84, 69, 88, 84])) 0]], .int .i64 (2), []⟩
def t43 : List Go.Dev.Ent := e43 :: t42
theorem o43 : Go.Dev.entOk (Go.Dev.primC Tryz.prog [64, 65, 66, 92, 93, 182] 1000000 pt) t42 60 e43 = true := by kernel_rfl
theorem w43 : Go.Dev.TabOK (Go.Dev.primC Tryz.prog [64, 65, 66, 92, 93, 182] 1000000 pt) (Go.Dev.MaxG 0) (0 + 1) t43 := Go.Dev.TabOK.cons (Go.Dev.prim_world names prims) w42 o43
def e44 : Go.Dev.Ent := ⟨10, [.imm 1 [.int .u8 (84), .int .u8 (111), .int .u8 (58), .int .u8 (32), .int .u8 (97), .int .u8 (13), .int .u8 (10), .int .u8 (67), .int .u8 (99), .int .u8 (58), .int .u8 (32), .int .u8 (98), .int .u8 (13), .int .u8 (10), .int .u8 (88), .int .u8 (58), .int .u8 (32), .int .u8 (99), .int .u8 (13), .int .u8 (10), .int .u8 (13), .int .u8 (10), .int .u8 (98), .int .u8 (111), .int .u8 (100), .int .u8 (121)], .agg [.nils, .int .i64 (2), .nils]], .tup [.ref 1 0 4 1 0 4, .bool true], [.row ⟨[.agg [.nils, .int .i64 (2), .nils]], 3, 0, false, some 26⟩, .row ⟨[.int .u8 (98), .int .u8 (111), .int .u8 (100), .int .u8 (121)], 1, 0, false, none⟩]⟩
def t44 : List Go.Dev.Ent := e44 :: t43
theorem o44 : Go.Dev.entOk (Go.Dev.primC Tryz.prog [64, 65, 66, 92, 93, 182] 1000000 pt) t43 60 e44 = true := by kernel_rfl
theorem w44 : Go.Dev.TabOK (Go.Dev.primC Tryz.prog [64, 65, 66, 92, 93, 182] 1000000 pt) (Go.Dev.MaxG 0) (0 + 1) t44 := Go.Dev.TabOK.cons (Go.Dev.prim_world names prims) w43 o44
def e45 : Go.Dev.Ent := ⟨10, [.imm 1 [.int .u8 (84), .int .u8 (111), .int .u8 (58), .int .u8 (32), .int .u8 (97), .int .u8 (13), .int .u8 (10), .int .u8 (67), .int .u8 (99), .int .u8 (58), .int .u8 (32), .int .u8 (98), .int .u8 (13), .int .u8 (10), .int .u8 (88), .int .u8 (58), .int .u8 (32), .int .u8 (99), .int .u8 (13), .int .u8 (10), .int .u8 (13), .int .u8 (10), .int .u8 (98), .int .u8 (111), .int .u8 (100), .int .u8 (121)], .agg [.nils, .int .i64 (0), .nils]], .tup [.ref 1 0 26 1 0 26, .bool true], [.row ⟨[.agg [.nils, .int .i64 (0), .nils]], 3, 0, false, some 26⟩, .row ⟨[.int .u8 (84), .int .u8 (111), .int .u8 (58), .int .u8 (32), .int .u8 (97), .int .u8 (13), .int .u8 (10), .int .u8 (67), .int .u8 (99), .int .u8 (58), .int .u8 (32), .int .u8 (98), .int .u8 (13), .int .u8 (10), .int .u8 (88), .int .u8 (58), .int .u8 (32), .int .u8 (99), .int .u8 (13), .int .u8 (10), .int .u8 (13), .int .u8 (10), .int .u8 (98), .int .u8 (111), .int .u8 (100), .int .u8 (121)], 1, 0, false, none⟩]⟩
def t45 : List Go.Dev.Ent := e45 :: t44
theorem o45 : Go.Dev.entOk (Go.Dev.primC Tryz.prog [64, 65, 66, 92, 93, 182] 1000000 pt) t44 60 e45 = true := by kernel_rfl
theorem w45 : Go.Dev.TabOK (Go.Dev.primC Tryz.prog [64, 65, 66, 92, 93, 182] 1000000 pt) (Go.Dev.MaxG 0) (0 + 1) t45 := Go.Dev.TabOK.cons (Go.Dev.prim_world names prims) w44 o45
def e46 : Go.Dev.Ent := ⟨8, [.str (bs [49])], .tup [.agg [.ref 3 0 1 1 0 1, .int .i64 (0), .nils], .int .i64 (0)], [.row ⟨[.agg [.ref 3 0 1 1 0 1, .int .i64 (0), .nils]], 3, 0, false, some 26⟩, .row ⟨[.agg [.ref 3 0 1 1 0 1, .int .i64 (0), .nils]], 3, 0, false, some 26⟩, .row ⟨[.int .i64 (1)], 1, 0, false, some 3⟩, .row ⟨[.int .i64 (1)], 1, 0, false, some 3⟩]⟩
def t46 : List Go.Dev.Ent := e46 :: t45
theorem o46 : Go.Dev.entOk (Go.Dev.primC Tryz.prog [64, 65, 66, 92, 93, 182] 1000000 pt) t45 60 e46 = true := by kernel_rfl
theorem w46 : Go.Dev.TabOK (Go.Dev.primC Tryz.prog [64, 65, 66, 92, 93, 182] 1000000 pt) (Go.Dev.MaxG 0) (0 + 1) t46 := Go.Dev.TabOK.cons (Go.Dev.prim_world names prims) w45 o46
def e47 : Go.Dev.Ent := ⟨83, [.imm 1 [.int .u8 (84), .int .u8 (111), .int .u8 (58), .int .u8 (32), .int .u8 (97), .int .u8 (13), .int .u8 (10), .int .u8 (67), .int .u8 (99), .int .u8 (58), .int .u8 (32), .int .u8 (98), .int .u8 (13), .int .u8 (10), .int .u8 (88), .int .u8 (58), .int .u8 (32), .int .u8 (99), .int .u8 (13), .int .u8 (10), .int .u8 (13), .int .u8 (10), .int .u8 (98), .int .u8 (111), .int .u8 (100), .int .u8 (121)], .str (bs [67, 111, 110, 116, 101, 110, 116, 45, 84, 121, 112, 101])], .tup [.str (bs []), .bool false], [.row ⟨[.agg [.str (bs [84, 111]), .str (bs [97]), .int .i64 (0), .int .i64 (7)], .agg [.str (bs [67, 99]), .str (bs [98]), .int .i64 (7), .int .i64 (14)], .agg [.str (bs [88]), .str (bs [99]), .int .i64 (14), .int .i64 (20)]], 4, 0, false, none⟩, .row ⟨[.agg [.str (bs [84, 111]), .str (bs [97]), .int .i64 (0), .int .i64 (7)]], 4, 0, false, some 100⟩, .row ⟨[.agg [.str (bs [67, 99]), .str (bs [98]), .int .i64 (7), .int .i64 (14)]], 4, 0, false, some 100⟩, .row ⟨[.agg [.str (bs [88]), .str (bs [99]), .int .i64 (14), .int .i64 (20)]], 4, 0, false, some 100⟩]⟩
def t47 : List Go.Dev.Ent := e47 :: t46
theorem o47 : Go.Dev.entOk (Go.Dev.primC Tryz.prog [64, 65, 66, 92, 93, 182] 1000000 pt) t46 60 e47 = true := by kernel_rfl
theorem w47 : Go.Dev.TabOK (Go.Dev.primC Tryz.prog [64, 65, 66, 92, 93, 182] 1000000 pt) (Go.Dev.MaxG 0) (0 + 1) t47 := Go.Dev.TabOK.cons (Go.Dev.prim_world names prims) w46 o47
def e48 : Go.Dev.Ent := ⟨59, [.ipt (.agg [.imm 1 [.int .u8 (84), .int .u8 (111), .int .u8 (58), .int .u8 (32), .int .u8 (97), .int .u8 (13), .int .u8 (10), .int .u8 (67), .int .u8 (99), .int .u8 (58), .int .u8 (32), .int .u8 (98), .int .u8 (13), .int .u8 (10), .int .u8 (88), .int .u8 (58), .int .u8 (32), .int .u8 (99), .int .u8 (13), .int .u8 (10), .int .u8 (13), .int .u8 (10), .int .u8 (98), .int .u8 (111), .int .u8 (100), .int .u8 (121)], .int .i64 (1)]) 0, .int .i64 (0), .int .i64 (26), .int .i64 (0)], .agg [.int .i64 (0), .int .i64 (22), .int .i64 (26), .str (bs [116, 101, 120, 116]), .str (bs [112, 108, 97, 105, 110]), .nils, .nils], [.row ⟨[.agg [.int .i64 (0), .int .i64 (22), .int .i64 (26), .str (bs [116, 101, 120, 116]), .str (bs [112, 108, 97, 105, 110]), .nils, .nils]], 7, 0, false, some 58⟩, .row ⟨[.agg [.int .i64 (0), .int .i64 (22), .int .i64 (26), .str (bs [116, 101, 120, 116]), .str (bs [112, 108, 97, 105, 110]), .nils, .nils]], 7, 0, false, some 58⟩]⟩
def t48 : List Go.Dev.Ent := e48 :: t47
theorem o48 : Go.Dev.entOk (Go.Dev.primC Tryz.prog [64, 65, 66, 92, 93, 182] 1000000 pt) t47 60 e48 = true := by kernel_rfl
theorem w48 : Go.Dev.TabOK (Go.Dev.primC Tryz.prog [64, 65, 66, 92, 93, 182] 1000000 pt) (Go.Dev.MaxG 0) (0 + 1) t48 := Go.Dev.TabOK.cons (Go.Dev.prim_world names prims) w47 o48
def e49 : Go.Dev.Ent := ⟨11, [.agg [.nils, .int .i64 (4), .imm 1 [.str (bs [84, 111]), .str (bs [99, 99])]]], .str (bs [72, 69, 65, 68, 69, 82, 46, 70, 73, 69, 76, 68, 83, 46, 78, 79, 84, 32, 40, 84, 111, 32, 99, 99, 41]), [.row ⟨[.agg [.nils, .int .i64 (4), .imm 1 [.str (bs [84, 111]), .str (bs [99, 99])]]], 3, 0, false, some 26⟩, .row ⟨[.str (bs []), .str (bs [72, 69, 65, 68, 69, 82]), .str (bs [84, 69, 88, 84]), .str (bs [72, 69, 65, 68, 69, 82, 46, 70, 73, 69, 76, 68, 83]), .str (bs [72, 69, 65, 68, 69, 82, 46, 70, 73, 69, 76, 68, 83, 46, 78, 79, 84]), .str (bs [77, 73, 77, 69])], 1, 0, false, none⟩, .row ⟨[.str (bs [72, 69, 65, 68, 69, 82, 46, 70, 73, 69, 76, 68, 83, 46, 78, 79, 84])], 1, 0, false, some 9⟩, .row ⟨[.str (bs [72, 69, 65, 68, 69, 82, 46, 70, 73, 69, 76, 68, 83, 46, 78, 79, 84])], 1, 0, false, some 9⟩]⟩
def t49 : List Go.Dev.Ent := e49 :: t48
theorem o49 : Go.Dev.entOk (Go.Dev.primC Tryz.prog [64, 65, 66, 92, 93, 182] 1000000 pt) t48 60 e49 = true := by kernel_rfl
theorem w49 : Go.Dev.TabOK (Go.Dev.primC Tryz.prog [64, 65, 66, 92, 93, 182] 1000000 pt) (Go.Dev.MaxG 0) (0 + 1) t49 := Go.Dev.TabOK.cons (Go.Dev.prim_world names prims) w48 o49
theorem run : Go.Dev.isTrue (Go.Dev.runT (Go.Dev.primC Tryz.prog [64, 65, 66, 92, 93, 182] 1000000 pt) t49 60 3 [] []) = true := by kernel_rfl
theorem walk (W : World) (hsh : W.ShapedOpen Tryz.prog) : Calls Tryz.prog 3 #[] W fun e W' => e = .returned (.bool true) ∧ Below W.heap.size W W' := Go.Dev.knownP names prims w49 run W (maxg W hsh)
set_option maxRecDepth 100000 in
theorem lifted (os : Os) (started : os.Started) (H : Type) (enc : TypeId × Value → H) :
    ReturnsInHanded {} Tryz.checked os 3 .any (fun w args => (Rows.sectKnownSpec.pre enc Tryz.prog Tryz.f3 [] false w args ∧ laidMetH Tryz.prog Rows.sectKnownRow.laid w) ∧ sizedMet enc Tryz.prog Tryz.f3 (OpenSpec.ofChange Rows.sectKnownSpec) false w args) (Rows.sectKnownSpec.post enc Tryz.prog Tryz.f3 false true false false) := by
  refine Mine.handed_laid (C := Tryz.checked) own started (by kernel_rfl) Tryz.func3
    (ChangeSpec.witness_shaped (enc := enc) (C := Tryz.checked) (os := os) (X := fun w _ => laidMetH Tryz.prog Rows.sectKnownRow.laid w) false (World.laidAll Tryz.prog os Rows.sectKnownRow.laid) #[] 8 (World.laidAll_os _ _ _)
      (World.shaped_of_ZipB (by kernel_rfl) (by kernel_rfl)) (by kernel_rfl) (by kernel_rfl) (by kernel_rfl)
      (by rw [MakeChecks.laidMetH_plain _ _ _ (by kernel_rfl)]; exact laidMet_laidAll _ (by kernel_rfl) (by kernel_rfl))) ?_
  intro W base args ds gs before hval0 hW hcnd hsz0 hL hsh _
  have hW' := hW
  obtain ⟨p, q, hA0, hV, rfl, hfz, hnd⟩ := hW
  have hA : DataW.TrodAll enc Tryz.prog W 0 (fun _ => true) true Tryz.f3.params.toList args.toList ds p := hA0
  rw [Tryz.params3] at hA
  obtain ⟨rfl, rfl, rfl⟩ := trodAll_none hA
  obtain ⟨rfl, rfl⟩ := trodVars_none hV
  refine (walk W hsh).mono fun e W' ⟨he, bel⟩ => ?_
  subst he
  exact ⟨_, rfl, _, _, _, [], _, [], hW', trodAll_mk1 (shut_bool Tryz.underlying4 _), trodAll_mk0, rfl, bel.frame _, fun h => by cases h⟩
theorem over : Rows.sectKnownRow.holds Tryz.pinned (OpenSpec.ofChange Rows.sectKnownSpec) :=
  OpenClaim.holds_of_wide 3 Tryz.f3 rfl rfl rfl rfl rfl rfl rfl ⟨rfl, rfl, rfl, rfl, rfl⟩ rfl rfl rfl rfl rfl (by kernel_rfl) Tryz.func3 (by kernel_rfl)
    (of_decide_eq_true (by kernel_rfl)) (by unfold Func.isWrapper; first | (rw [if_pos (by decide +kernel)]; kernel_rfl) | (rw [if_neg (by decide +kernel)]; exact ⟨rfl, rfl⟩))
    (fun os started H enc _ => lifted os started H enc)
theorem proved : Rows.SectKnownSaid := over
#print axioms proved
end Go.Proofs.YtefmlibcghjncaaGreatDoor.sectKnown
namespace Go.Proofs.YtefmlibcghjncaaGreatDoor
/-- The row, under a short name, for the claim. -/
theorem sectKnown_row_holds : Rows.SectKnownSaid := sectKnown.proved
/-- THE CARD. -/
theorem sectKnown_holds : Rows.SectKnownCardSaid :=
  Claim7.holds_tied_plain_at .later [] [.data, .data, .data, .data, .pinned] true (true, "b1e0bdd1b5bf2f684da657674ab6aaf4cc1c07154658991ccd305346355b5bb7") false
    sectKnown_row_holds (fun _ h => by cases h) (by kernel_rfl) (fun _ h => by cases h) sectKnown_row_tie rfl ⟨rfl, rfl⟩ (by kernel_rfl) rfl
    (fun f fn hf hfn => by
      obtain rfl : f = 3 := Option.some.inj ((show Tryz.prog.funcNamed "franking/frankinglaw17.SectKnown" = some 3 by kernel_rfl).symm.trans hf) |>.symm
      obtain rfl : fn = Tryz.f3 := (Option.some.inj (Tryz.func3.symm.trans hfn)).symm
      exact ⟨by kernel_rfl, fun j t ht => by
        rw [Tryz.params3] at ht
        simp at ht⟩)
    (by kernel_rfl)
end Go.Proofs.YtefmlibcghjncaaGreatDoor
