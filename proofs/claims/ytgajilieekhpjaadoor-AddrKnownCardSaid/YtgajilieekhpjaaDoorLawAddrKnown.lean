/- AddrKnown: whatever the input, true: the kernel runs the evaluator over the program's code; that the evaluator answers as the calls do is proved ahead. -/
import Derived.Test.YtgajilieekhpjaaDoorRows
import Derived.Test.YtgajilieekhpjaaDoorDev4
import Derived.Test.YtgajilieekhpjaaDoorShelf
import Derived.Test.YtgajilieekhpjaaDoorCard
import Derived.Test.YtgajilieekhpjaaDoorTie
import Derived.Test.YtgajilieekhpjaaDoorCards
import Derived.Lay
import Derived.Handy
import Derived.SevenTiedAt
import Derived.WalkKit
import Derived.ProofKit
import Derived.OpenShut
import Derived.ShutString
import Derived.ChangeOld
import Derived.Below
import Derived.SizedLaws
import Derived.HandedShaped
namespace Go.Proofs.YtgajilieekhpjaaDoor.addrKnown
open Go.Proofs Go.ChangeShapes Go.WideShapes Go.ChangeAt Go.RowKit
open Go.ChangeMaps (open_string shut_string)
set_option linter.unusedVariables false
theorem own : ownKnob Tryd.prog.godebug = none := by kernel_rfl
def pt : List (FuncId × Go.Dev.PK) := [(72, .sIdx), (33, .sAny)]
theorem prims : ∀ e ∈ pt, Go.Dev.PKOK Tryd.prog 0 e.1 e.2 := by
  intro e he
  simp only [pt, List.mem_cons, List.not_mem_nil, or_false] at he
  rcases he with rfl | rfl
  · exact ⟨⟨_, Tryd.func72, by kernel_rfl⟩, fun s t m w h1 h2 => Tryd.stringslite_Index s t m w h1 h2⟩
  · exact ⟨⟨_, Tryd.func33, by kernel_rfl⟩, fun s t w h1 h2 h3 h4 => Tryd.strings_IndexAny_laid s t w h1 h2 h3 h4⟩
theorem maxg (w : World) (h : w.ShapedOpen Tryd.prog) : Go.Dev.MaxG 0 w := Tryd.laysM219.s1_3 w h
theorem names : Go.Dev.namesOk Tryd.prog = true := by kernel_rfl
set_option maxRecDepth 1000000
noncomputable def C : Go.Dev.Ctx := Go.Dev.primC Tryd.prog [20, 22, 23, 40, 41, 63, 108] 1000000 pt
def bs (l : List Nat) : ByteArray := ⟨(l.map UInt8.ofNat).toArray⟩
def t0 : List Go.Dev.Ent := []
theorem w0 : Go.Dev.TabOK C (Go.Dev.MaxG 0) (0 + 1) t0 := Go.Dev.TabOK.nil
def e1 : Go.Dev.Ent := ⟨35, [.str (bs [97, 64, 98])], .tup [.agg [.str (bs []), .str (bs [97]), .str (bs [98])], .bool true], [.row ⟨[.agg [.str (bs []), .str (bs [97]), .str (bs [98])]], 3, 0, false, some 33⟩, .row ⟨[.agg [.str (bs []), .str (bs [97]), .str (bs [98])]], 3, 0, false, some 33⟩]⟩
def t1 : List Go.Dev.Ent := e1 :: t0
theorem o1 : Go.Dev.entOk C t0 60 e1 = true := by kernel_rfl
theorem w1 : Go.Dev.TabOK C (Go.Dev.MaxG 0) (0 + 1) t1 := Go.Dev.TabOK.cons (Go.Dev.prim_world names prims) w0 o1
def e2 : Go.Dev.Ent := ⟨17, [.str (bs [65, 110, 110, 32, 60, 97, 64, 98, 62])], .tup [.agg [.str (bs [65, 110, 110]), .str (bs [97]), .str (bs [98])], .str (bs []), .bool true], [.row ⟨[.agg [.str (bs [65, 110, 110]), .str (bs [97]), .str (bs [98])]], 3, 0, false, some 33⟩]⟩
def t2 : List Go.Dev.Ent := e2 :: t1
theorem o2 : Go.Dev.entOk C t1 60 e2 = true := by kernel_rfl
theorem w2 : Go.Dev.TabOK C (Go.Dev.MaxG 0) (0 + 1) t2 := Go.Dev.TabOK.cons (Go.Dev.prim_world names prims) w1 o2
def e3 : Go.Dev.Ent := ⟨12, [.imm 3 [.agg [.str (bs [65, 110, 110]), .str (bs [97]), .str (bs [98])]]], .str (bs [40, 40, 34, 65, 110, 110, 34, 32, 78, 73, 76, 32, 34, 97, 34, 32, 34, 98, 34, 41, 41]), [.row ⟨[.agg [.ptr 0 0 0 2 0, .ref 2 0 21 1 2 21]], 2, 0, false, some 50⟩, .row ⟨[.int .u8 (40)], 1, 0, false, some 5⟩, .dead, .row ⟨[.agg [.str (bs [65, 110, 110]), .str (bs [97]), .str (bs [98])]], 3, 0, false, some 33⟩, .row ⟨[.int .u8 (41)], 1, 0, false, some 5⟩]⟩
def t3 : List Go.Dev.Ent := e3 :: t2
theorem o3 : Go.Dev.entOk C t2 60 e3 = true := by kernel_rfl
theorem w3 : Go.Dev.TabOK C (Go.Dev.MaxG 0) (0 + 1) t3 := Go.Dev.TabOK.cons (Go.Dev.prim_world names prims) w2 o3
def e4 : Go.Dev.Ent := ⟨7, [], .bool true, [.row ⟨[.agg [.str (bs [65, 110, 110]), .str (bs [97]), .str (bs [98])]], 3, 0, false, none⟩]⟩
def t4 : List Go.Dev.Ent := e4 :: t3
theorem o4 : Go.Dev.entOk C t3 60 e4 = true := by kernel_rfl
theorem w4 : Go.Dev.TabOK C (Go.Dev.MaxG 0) (0 + 1) t4 := Go.Dev.TabOK.cons (Go.Dev.prim_world names prims) w3 o4
def e5 : Go.Dev.Ent := ⟨17, [.str (bs [32, 34, 120, 44, 32, 121, 34, 32, 60, 97, 64, 98, 62, 32, 44, 32, 99, 32, 64, 32, 100, 44, 60, 101, 64, 102, 62])], .tup [.agg [.str (bs [120, 44, 32, 121]), .str (bs [97]), .str (bs [98])], .str (bs [44, 32, 99, 32, 64, 32, 100, 44, 60, 101, 64, 102, 62]), .bool true], [.row ⟨[.agg [.str (bs [120, 44, 32, 121]), .str (bs [97]), .str (bs [98])]], 3, 0, false, some 33⟩]⟩
def t5 : List Go.Dev.Ent := e5 :: t4
theorem o5 : Go.Dev.entOk C t4 60 e5 = true := by kernel_rfl
theorem w5 : Go.Dev.TabOK C (Go.Dev.MaxG 0) (0 + 1) t5 := Go.Dev.TabOK.cons (Go.Dev.prim_world names prims) w4 o5
def e6 : Go.Dev.Ent := ⟨35, [.str (bs [99, 32, 64, 32, 100])], .tup [.agg [.str (bs []), .str (bs [99]), .str (bs [100])], .bool true], [.row ⟨[.agg [.str (bs []), .str (bs [99]), .str (bs [100])]], 3, 0, false, some 33⟩, .row ⟨[.agg [.str (bs []), .str (bs [99]), .str (bs [100])]], 3, 0, false, some 33⟩]⟩
def t6 : List Go.Dev.Ent := e6 :: t5
theorem o6 : Go.Dev.entOk C t5 60 e6 = true := by kernel_rfl
theorem w6 : Go.Dev.TabOK C (Go.Dev.MaxG 0) (0 + 1) t6 := Go.Dev.TabOK.cons (Go.Dev.prim_world names prims) w5 o6
def e7 : Go.Dev.Ent := ⟨35, [.str (bs [101, 64, 102])], .tup [.agg [.str (bs []), .str (bs [101]), .str (bs [102])], .bool true], [.row ⟨[.agg [.str (bs []), .str (bs [101]), .str (bs [102])]], 3, 0, false, some 33⟩, .row ⟨[.agg [.str (bs []), .str (bs [101]), .str (bs [102])]], 3, 0, false, some 33⟩]⟩
def t7 : List Go.Dev.Ent := e7 :: t6
theorem o7 : Go.Dev.entOk C t6 60 e7 = true := by kernel_rfl
theorem w7 : Go.Dev.TabOK C (Go.Dev.MaxG 0) (0 + 1) t7 := Go.Dev.TabOK.cons (Go.Dev.prim_world names prims) w6 o7
def e8 : Go.Dev.Ent := ⟨8, [.str (bs [32, 34, 120, 44, 32, 121, 34, 32, 60, 97, 64, 98, 62, 32, 44, 32, 99, 32, 64, 32, 100, 44, 60, 101, 64, 102, 62])], .tup [.ref 2 0 3 3 2 3, .int .i64 (0)], [.row ⟨[.agg [.str (bs [120, 44, 32, 121]), .str (bs [97]), .str (bs [98])]], 3, 0, false, some 33⟩, .row ⟨[.agg [.str (bs [120, 44, 32, 121]), .str (bs [97]), .str (bs [98])]], 3, 0, false, some 33⟩, .row ⟨[.agg [.str (bs [120, 44, 32, 121]), .str (bs [97]), .str (bs [98])], .agg [.str (bs []), .str (bs [99]), .str (bs [100])], .agg [.str (bs []), .str (bs [101]), .str (bs [102])]], 3, 2, false, some 33⟩, .row ⟨[.agg [.str (bs []), .str (bs [99]), .str (bs [100])]], 3, 0, false, some 33⟩, .row ⟨[.agg [.str (bs []), .str (bs [99]), .str (bs [100])]], 3, 0, false, some 33⟩, .row ⟨[.agg [.str (bs []), .str (bs [101]), .str (bs [102])]], 3, 0, false, some 33⟩, .row ⟨[.agg [.str (bs []), .str (bs [101]), .str (bs [102])]], 3, 0, false, some 33⟩]⟩
def t8 : List Go.Dev.Ent := e8 :: t7
theorem o8 : Go.Dev.entOk C t7 60 e8 = true := by kernel_rfl
theorem w8 : Go.Dev.TabOK C (Go.Dev.MaxG 0) (0 + 1) t8 := Go.Dev.TabOK.cons (Go.Dev.prim_world names prims) w7 o8
def e9 : Go.Dev.Ent := ⟨8, [.str (bs [97, 64, 98, 44])], .tup [.nils, .int .i64 (3)], [.row ⟨[.agg [.str (bs []), .str (bs [97]), .str (bs [98])]], 3, 0, false, some 33⟩, .row ⟨[.agg [.str (bs []), .str (bs [97]), .str (bs [98])]], 3, 0, false, some 33⟩, .row ⟨[.agg [.str (bs []), .str (bs [97]), .str (bs [98])]], 3, 0, false, some 33⟩, .row ⟨[.agg [.str (bs []), .str (bs []), .str (bs [])]], 3, 0, false, some 33⟩]⟩
def t9 : List Go.Dev.Ent := e9 :: t8
theorem o9 : Go.Dev.entOk C t8 60 e9 = true := by kernel_rfl
theorem w9 : Go.Dev.TabOK C (Go.Dev.MaxG 0) (0 + 1) t9 := Go.Dev.TabOK.cons (Go.Dev.prim_world names prims) w8 o9
def e10 : Go.Dev.Ent := ⟨17, [.str (bs [97])], .tup [.agg [.str (bs []), .str (bs [97]), .str (bs [])], .str (bs []), .bool false], [.row ⟨[.agg [.str (bs []), .str (bs [97]), .str (bs [])]], 3, 0, false, some 33⟩]⟩
def t10 : List Go.Dev.Ent := e10 :: t9
theorem o10 : Go.Dev.entOk C t9 60 e10 = true := by kernel_rfl
theorem w10 : Go.Dev.TabOK C (Go.Dev.MaxG 0) (0 + 1) t10 := Go.Dev.TabOK.cons (Go.Dev.prim_world names prims) w9 o10
def e11 : Go.Dev.Ent := ⟨35, [.str (bs [97, 64, 98, 64, 99])], .tup [.agg [.str (bs []), .str (bs [97]), .str (bs [98, 64, 99])], .bool false], [.row ⟨[.agg [.str (bs []), .str (bs [97]), .str (bs [98, 64, 99])]], 3, 0, false, some 33⟩, .row ⟨[.agg [.str (bs []), .str (bs [97]), .str (bs [98, 64, 99])]], 3, 0, false, some 33⟩]⟩
def t11 : List Go.Dev.Ent := e11 :: t10
theorem o11 : Go.Dev.entOk C t10 60 e11 = true := by kernel_rfl
theorem w11 : Go.Dev.TabOK C (Go.Dev.MaxG 0) (0 + 1) t11 := Go.Dev.TabOK.cons (Go.Dev.prim_world names prims) w10 o11
def e12 : Go.Dev.Ent := ⟨8, [.str (bs [97, 64, 98, 64, 99])], .tup [.nils, .int .i64 (3)], [.row ⟨[.agg [.str (bs []), .str (bs [97]), .str (bs [98, 64, 99])]], 3, 0, false, some 33⟩]⟩
def t12 : List Go.Dev.Ent := e12 :: t11
theorem o12 : Go.Dev.entOk C t11 60 e12 = true := by kernel_rfl
theorem w12 : Go.Dev.TabOK C (Go.Dev.MaxG 0) (0 + 1) t12 := Go.Dev.TabOK.cons (Go.Dev.prim_world names prims) w11 o12
def e13 : Go.Dev.Ent := ⟨17, [.str (bs [34, 120, 34, 32, 97, 64, 98])], .tup [.agg [.str (bs []), .str (bs []), .str (bs [])], .str (bs []), .bool false], [.row ⟨[.agg [.str (bs []), .str (bs []), .str (bs [])]], 3, 0, false, some 33⟩]⟩
def t13 : List Go.Dev.Ent := e13 :: t12
theorem o13 : Go.Dev.entOk C t12 60 e13 = true := by kernel_rfl
theorem w13 : Go.Dev.TabOK C (Go.Dev.MaxG 0) (0 + 1) t13 := Go.Dev.TabOK.cons (Go.Dev.prim_world names prims) w12 o13
def e14 : Go.Dev.Ent := ⟨17, [.str (bs [120, 32, 60, 97, 64, 98, 62, 32, 121])], .tup [.agg [.str (bs [120]), .str (bs [97]), .str (bs [98])], .str (bs [121]), .bool true], [.row ⟨[.agg [.str (bs [120]), .str (bs [97]), .str (bs [98])]], 3, 0, false, some 33⟩]⟩
def t14 : List Go.Dev.Ent := e14 :: t13
theorem o14 : Go.Dev.entOk C t13 60 e14 = true := by kernel_rfl
theorem w14 : Go.Dev.TabOK C (Go.Dev.MaxG 0) (0 + 1) t14 := Go.Dev.TabOK.cons (Go.Dev.prim_world names prims) w13 o14
def e15 : Go.Dev.Ent := ⟨18, [.agg [.str (bs [120, 44, 32, 121]), .str (bs [97]), .str (bs [98])]], .tup [.str (bs [34, 120, 44, 32, 121, 34, 32, 60, 97, 64, 98, 62]), .bool true], [.row ⟨[.agg [.str (bs [120, 44, 32, 121]), .str (bs [97]), .str (bs [98])]], 3, 0, false, some 33⟩]⟩
def t15 : List Go.Dev.Ent := e15 :: t14
theorem o15 : Go.Dev.entOk C t14 60 e15 = true := by kernel_rfl
theorem w15 : Go.Dev.TabOK C (Go.Dev.MaxG 0) (0 + 1) t15 := Go.Dev.TabOK.cons (Go.Dev.prim_world names prims) w14 o15
def e16 : Go.Dev.Ent := ⟨19, [.imm 1 [.str (bs [34, 120, 44, 32, 121, 34, 32, 60, 97, 64, 98, 62]), .str (bs [99, 64, 100]), .str (bs [101, 64, 102])], .str (bs [44, 32])], .str (bs [34, 120, 44, 32, 121, 34, 32, 60, 97, 64, 98, 62, 44, 32, 99, 64, 100, 44, 32, 101, 64, 102]), [.row ⟨[.agg [.ptr 0 0 0 2 0, .ref 1 0 22 1 0 22]], 2, 0, false, some 50⟩, .dead]⟩
def t16 : List Go.Dev.Ent := e16 :: t15
theorem o16 : Go.Dev.entOk C t15 60 e16 = true := by kernel_rfl
theorem w16 : Go.Dev.TabOK C (Go.Dev.MaxG 0) (0 + 1) t16 := Go.Dev.TabOK.cons (Go.Dev.prim_world names prims) w15 o16
theorem run : Go.Dev.isTrue (Go.Dev.runT C t16 60 3 [] []) = true := by kernel_rfl
theorem walk (W : World) (hsh : W.ShapedOpen Tryd.prog) : Calls Tryd.prog 3 #[] W fun e W' => e = .returned (.bool true) ∧ Below W.heap.size W W' := Go.Dev.knownP names prims w16 run W (maxg W hsh)
set_option maxRecDepth 100000 in
theorem lifted (os : Os) (started : os.Started) (H : Type) (enc : TypeId × Value → H) :
    ReturnsInHanded {} Tryd.checked os 3 .any (fun w args => (Rows.addrKnownSpec.pre enc Tryd.prog Tryd.f3 [] false w args ∧ laidMetH Tryd.prog Rows.addrKnownRow.laid w) ∧ sizedMet enc Tryd.prog Tryd.f3 (OpenSpec.ofChange Rows.addrKnownSpec) false w args) (Rows.addrKnownSpec.post enc Tryd.prog Tryd.f3 false true false false) := by
  refine Mine.handed_laid (C := Tryd.checked) own started (by kernel_rfl) Tryd.func3
    (ChangeSpec.witness_shaped (enc := enc) (C := Tryd.checked) (os := os) (X := fun w _ => laidMetH Tryd.prog Rows.addrKnownRow.laid w) false (World.laidAll Tryd.prog os Rows.addrKnownRow.laid) #[] 8 (World.laidAll_os _ _ _)
      (World.shaped_of_ZipB (by kernel_rfl) (by kernel_rfl)) (by kernel_rfl) (by kernel_rfl) (by kernel_rfl)
      (by rw [MakeChecks.laidMetH_plain _ _ _ (by kernel_rfl)]; exact laidMet_laidAll _ (by kernel_rfl) (by kernel_rfl))) ?_
  intro W base args ds gs before hval0 hW hcnd hsz0 hL hsh _
  have hW' := hW
  obtain ⟨p, q, hA0, hV, rfl, hfz, hnd⟩ := hW
  have hA : DataW.TrodAll enc Tryd.prog W 0 (fun _ => true) true Tryd.f3.params.toList args.toList ds p := hA0
  rw [Tryd.params3] at hA
  obtain ⟨rfl, rfl, rfl⟩ := trodAll_none hA
  obtain ⟨rfl, rfl⟩ := trodVars_none hV
  refine (walk W hsh).mono fun e W' ⟨he, bel⟩ => ?_
  subst he
  exact ⟨_, rfl, _, _, _, [], _, [], hW', trodAll_mk1 (shut_bool Tryd.underlying4 _), trodAll_mk0, rfl, bel.frame _, fun h => by cases h⟩
theorem over : Rows.addrKnownRow.holds Tryd.pinned (OpenSpec.ofChange Rows.addrKnownSpec) :=
  OpenClaim.holds_of_wide 3 Tryd.f3 rfl rfl rfl rfl rfl rfl rfl ⟨rfl, rfl, rfl, rfl, rfl⟩ rfl rfl rfl rfl rfl (by kernel_rfl) Tryd.func3 (by kernel_rfl)
    (of_decide_eq_true (by kernel_rfl)) (by unfold Func.isWrapper; first | (rw [if_pos (by decide +kernel)]; kernel_rfl) | (rw [if_neg (by decide +kernel)]; exact ⟨rfl, rfl⟩))
    (fun os started H enc _ => lifted os started H enc)
theorem proved : Rows.AddrKnownSaid := over
#print axioms proved
end Go.Proofs.YtgajilieekhpjaaDoor.addrKnown
namespace Go.Proofs.YtgajilieekhpjaaDoor
/-- The row, under a short name, for the claim. -/
theorem addrKnown_row_holds : Rows.AddrKnownSaid := addrKnown.proved
/-- THE CARD. -/
theorem addrKnown_holds : Rows.AddrKnownCardSaid :=
  Claim7.holds_tied_plain_at .later [] [.data, .data, .data, .data, .pinned] true (true, "ba2c67bd0ba3889d963945fdd0210ef8f6bcd45d47c6e83862b20c2877c9203b") false
    addrKnown_row_holds (fun _ h => by cases h) (by kernel_rfl) (fun _ h => by cases h) addrKnown_row_tie rfl ⟨rfl, rfl⟩ (by kernel_rfl) rfl
    (fun f fn hf hfn => by
      obtain rfl : f = 3 := Option.some.inj ((show Tryd.prog.funcNamed "franking/frankinglaw12.AddrKnown" = some 3 by kernel_rfl).symm.trans hf) |>.symm
      obtain rfl : fn = Tryd.f3 := (Option.some.inj (Tryd.func3.symm.trans hfn)).symm
      exact ⟨by kernel_rfl, fun j t ht => by
        rw [Tryd.params3] at ht
        simp at ht⟩)
    (by kernel_rfl)
end Go.Proofs.YtgajilieekhpjaaDoor
