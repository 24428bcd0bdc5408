/- Commands: what chapter 23 says of fixed ones: the law. -/
import Derived.Test.YtcanagkflbbmaaaDoorLCmdK
import Derived.Test.YtcanagkflbbmaaaDoorLCmd12
import Derived.Test.YtcanagkflbbmaaaDoorLAwake23
import Derived.Test.YtcanagkflbbmaaaDoorLAppR
set_option linter.unusedVariables false
set_option linter.unusedSimpArgs false
set_option maxRecDepth 100000
set_option maxHeartbeats 8000000
namespace Go.Proofs.YtcanagkflbbmaaaDoor.L
open Go Go.Proofs Go.Dev Go.RowKit
theorem K1 : parseC [116, 32, 120, 32, 40, 97, 32, 34, 98, 32, 99, 34, 32, 40, 41, 41, 32, 123, 51, 125, 13, 10, 49, 13, 10, 32, 66, 79, 68, 89, 91, 97, 32, 98, 93, 32, 123, 48, 43, 125, 13, 10, 13, 10] = ((⟨[116], [88], [.mk [] false [.mk [97] false [] false, .mk [98, 32, 99] true [] false, .mk [] false [] true] true, .mk [49, 13, 10] true [] false, .mk [66, 79, 68, 89, 91, 97, 32, 98, 93] false [] false, .mk [] true [] false]⟩ : Cmd), (44 : Int), (0 : Int)) := by kernel_rfl
theorem P1 : Prim E 10 [Byt [116, 32, 120, 32, 40, 97, 32, 34, 98, 32, 99, 34, 32, 40, 41, 41, 32, 123, 51, 125, 13, 10, 49, 13, 10, 32, 66, 79, 68, 89, 91, 97, 32, 98, 93, 32, 123, 48, 43, 125, 13, 10, 13, 10]] (.val (.tup [.agg [Str [116], Str [88], .imm 4 [.agg [Str [], .bool false, .imm 4 [.agg [Str [97], .bool false, .imm 4 [], .bool false], .agg [Str [98, 32, 99], .bool true, .imm 4 [], .bool false], .agg [Str [], .bool false, .imm 4 [], .bool true]], .bool true], .agg [Str [49, 13, 10], .bool true, .imm 4 [], .bool false], .agg [Str [66, 79, 68, 89, 91, 97, 32, 98, 93], .bool false, .imm 4 [], .bool false], .agg [Str [], .bool true, .imm 4 [], .bool false]]], .int .i64 44, .int .i64 0])) := by
  have := Parse [116, 32, 120, 32, 40, 97, 32, 34, 98, 32, 99, 34, 32, 40, 41, 41, 32, 123, 51, 125, 13, 10, 49, 13, 10, 32, 66, 79, 68, 89, 91, 97, 32, 98, 93, 32, 123, 48, 43, 125, 13, 10, 13, 10] (by decide)
  rw [K1] at this
  simpa only [cdv, List.map_cons, List.map_nil, wdv_mk] using this
theorem ReadS (s : Txt) (hs : s.length < 1000000) : Prim E 16 [Str s] (.val (.tup [.int .i64 (parseC s).2.1, .int .i64 (parseC s).2.2])) := by
  refine Prim.ofX Tryd.func16 Tryd.ntmps16 rfl rfl ?_
  repeat' ((conv => whnf); first | with_reducible refine JoinK.go ?_ | (show OX _ _ _ _ _ _ _; first | refine OX.cp (Parse s (by omega)) rfl rfl ?_ | refine OX.ca (Parse s (by omega)) rfl rfl (by repeat' (first | exact FrzE.pure (pureB_ok 9 _ rfl) | exact FrzE.slot (by first | exact Cel.str | exact Cel.byte | exact Cel.byte) rfl (by first | rfl | omega) | exact FrzE.rowA (by first | exact Cel.str | exact Cel.byte | exact Cel.byte) rfl (by first | rfl | omega) | refine FrzE.fn ?_ | refine FrzE.agg ?_ | refine FrzE.tup ?_ | refine FrzE.ptr1 rfl rfl rfl rfl rfl rfl ?_ | refine FrzE.ptrA rfl rfl rfl rfl ?_ | exact FrzLE.nil | refine FrzLE.cons ?_ ?_)) ?_ | refine OX.rc (Rc.cvF (by repeat' (first | exact FrzE.pure (pureB_ok 9 _ rfl) | exact FrzE.slot (by first | exact Cel.str | exact Cel.byte | exact Cel.byte) rfl (by first | rfl | omega) | exact FrzE.rowA (by first | exact Cel.str | exact Cel.byte | exact Cel.byte) rfl (by first | rfl | omega) | refine FrzE.fn ?_ | refine FrzE.agg ?_ | refine FrzE.tup ?_ | refine FrzE.ptr1 rfl rfl rfl rfl rfl rfl ?_ | refine FrzE.ptrA rfl rfl rfl rfl ?_ | exact FrzLE.nil | refine FrzLE.cons ?_ ?_)) rfl rfl rfl) ?_) | with_reducible refine NilK.nil ?_ | ((with_reducible refine And.intro ?_ ?_); · first | (first | omega | exact u8rng _ | (simp only [List.length_cons, List.length_nil, List.length_append]; omega)) | exact Nat.le_of_ble_eq_true rfl) | (with_reducible refine bxN.dec (fun h => ?_) (fun h => ?_)) <;> (try (exfalso; omega)) <;> (try simp only [Int.natCast_inj, Int.ofNat_le, Int.ofNat_lt, u8i, Nat.reduceLT, UInt8.reduceOfNat, ne_eq, Decidable.not_not] at h) <;> (try simp only [il1, il2, il3, il4, il5] at h) <;> (try rw [if_pos h] at hr) <;> (try rw [if_neg h] at hr) | (with_reducible refine bxN.ndec (fun h => ?_) (fun h => ?_)) <;> (try (exfalso; omega)) <;> (try simp only [Int.natCast_inj, Int.ofNat_le, Int.ofNat_lt, u8i, Nat.reduceLT, UInt8.reduceOfNat, ne_eq, Decidable.not_not] at h) <;> (try simp only [il1, il2, il3, il4, il5] at h) <;> (try rw [if_pos h] at hr) <;> (try rw [if_neg h] at hr) | (with_reducible refine bxN.not (fun h => ?_) (fun h => ?_)) <;> (try simp only [h, reduceIte, Bool.false_eq_true] at hr) | (with_reducible refine bxN.split (fun h => ?_) (fun h => ?_)) <;> (try simp only [h, reduceIte, Bool.false_eq_true] at hr) | with_reducible refine natK.cast ?_ | with_reducible refine natK.lit ?_ | with_reducible refine natK.add ?_ | with_reducible refine natK.addl ?_ | ((with_reducible refine natK.pred ?_ ?_); · (first | omega | exact u8rng _ | (simp only [List.length_cons, List.length_nil, List.length_append]; omega))) | ((with_reducible refine natK.sub ?_ ?_); · (first | omega | exact u8rng _ | (simp only [List.length_cons, List.length_nil, List.length_append]; omega))) | ((with_reducible refine natK.nn ?_ ?_); · (first | omega | exact u8rng _ | (simp only [List.length_cons, List.length_nil, List.length_append]; omega))) | ((with_reducible refine nthK.map ?_ ?_); · (first | omega | exact u8rng _ | (simp only [List.length_cons, List.length_nil, List.length_append]; omega))) | ((with_reducible refine nthK.any ?_ ?_); · (first | omega | exact u8rng _ | (simp only [List.length_cons, List.length_nil, List.length_append]; omega))) | refine geK.of rfl ?_ | ((with_reducible refine rowK.slot (List.ne_nil_of_length_pos ?_) ?_); · (first | omega | exact u8rng _ | (simp only [List.length_cons, List.length_nil, List.length_append]; omega))) | ((with_reducible refine ArU.ok ?_ ?_); · omega) | with_reducible refine ArU.of ?_ | with_reducible refine LnK.map ?_ | with_reducible refine LnK.lit rfl ?_ | with_reducible refine PcK.map0 ?_ | with_reducible refine PcK.mapT ?_ | with_reducible refine PcK.map ?_ | with_reducible refine CvK.map ?_ | with_reducible refine OpenK.of (by kernel_rfl) ?_ | refine EndW.of (by kernel_rfl) (by repeat' ((conv => whnf); first | exact trivial | with_reducible refine And.intro ?_ ?_ | exact rfl | refine MkA.same rfl ?_ | refine MkA.anc (by kernel_rfl) ?_)) ?_ | exact RetK.eq rfl (by with_reducible rfl) | refine RetM.eq rfl rfl rfl (by with_reducible rfl) ?_ | refine RetK.eq rfl ?_ | refine RetM.eq rfl rfl rfl ?_ ?_ | ((show RetM _ _ _ _); refine RetM.fx (by repeat' (first | exact FrzX.pure rfl | exact FrzX.nils | exact FrzX.slot (by first | exact Cel.str | exact Cel.byte | exact Cel.byte) rfl rfl (by first | rfl | omega) | exact FrzX.rowA (by first | exact Cel.str | exact Cel.byte | exact Cel.byte) rfl rfl (by first | rfl | omega) | apply FrzX.agg | apply FrzX.tup | exact FrzLX.nil | apply FrzLX.cons)) rfl rfl ?_ ?_) | ((show RetK _ _ _); refine RetK.fz (by repeat' (first | exact FrzE.pure (pureB_ok 9 _ rfl) | exact FrzE.slot (by first | exact Cel.str | exact Cel.byte | exact Cel.byte) rfl (by first | rfl | omega) | exact FrzE.rowA (by first | exact Cel.str | exact Cel.byte | exact Cel.byte) rfl (by first | rfl | omega) | refine FrzE.fn ?_ | refine FrzE.agg ?_ | refine FrzE.tup ?_ | refine FrzE.ptr1 rfl rfl rfl rfl rfl rfl ?_ | refine FrzE.ptrA rfl rfl rfl rfl ?_ | exact FrzLE.nil | refine FrzLE.cons ?_ ?_)) ?_))
  all_goals (try (conv => whnf))
  all_goals first
    | rfl
    | skip
theorem ReadC (s : Txt) (n e : Int) (hs : s.length < 1000000) (h : (parseC s).2 = (n, e)) : Prim E 16 [Str s] (.val (.tup [.int .i64 n, .int .i64 e])) := by
  have := ReadS s hs
  rw [h] at this
  exact this
theorem WantC (s : Txt) (v : Bool) (hs : s.length < 1000000) (h : (decide ((rdA s).2.err = 8) && (rdA s).2.wants) = v) : Prim E 17 [Byt s] (.val (.bool v)) := by
  rw [← h]
  exact Wants s (by omega)
theorem R0 : Prim E 16 [Str [97]] (.val (.tup [.int .i64 0, .int .i64 8])) := ReadC _ _ _ (by decide) (by kernel_rfl)
theorem R1 : Prim E 16 [Str [97, 32, 32, 98, 13, 10, 120]] (.val (.tup [.int .i64 6, .int .i64 3])) := ReadC _ _ _ (by decide) (by kernel_rfl)
theorem R2 : Prim E 16 [Str [97, 32, 98]] (.val (.tup [.int .i64 0, .int .i64 8])) := ReadC _ _ _ (by decide) (by kernel_rfl)
theorem R3 : Prim E 16 [Str [97, 32, 98, 32, 123, 55, 48, 48, 48, 48, 125, 13, 10, 120]] (.val (.tup [.int .i64 13, .int .i64 2])) := ReadC _ _ _ (by decide) (by kernel_rfl)
theorem R4 : Prim E 16 [Str [97, 32, 40, 98, 41, 13, 10]] (.val (.tup [.int .i64 7, .int .i64 3])) := ReadC _ _ _ (by decide) (by kernel_rfl)
theorem R5 : Prim E 16 [Str [97, 32, 98, 32, 34, 99, 13, 10]] (.val (.tup [.int .i64 8, .int .i64 3])) := ReadC _ _ _ (by decide) (by kernel_rfl)
theorem R6 : Prim E 16 [Str [97, 32, 98, 32, 123, 120, 125, 13, 10]] (.val (.tup [.int .i64 9, .int .i64 3])) := ReadC _ _ _ (by decide) (by kernel_rfl)
theorem R7 : Prim E 16 [Str [43, 32, 98]] (.val (.tup [.int .i64 0, .int .i64 8])) := ReadC _ _ _ (by decide) (by kernel_rfl)
theorem W0 : Prim E 17 [Byt [97, 32, 98, 32, 123, 51, 125, 13, 10]] (.val (.bool true)) := WantC _ _ (by decide) (by kernel_rfl)
theorem W1 : Prim E 17 [Byt [97, 32, 98, 32, 123, 51, 43, 125, 13, 10]] (.val (.bool false)) := WantC _ _ (by decide) (by kernel_rfl)
theorem W2 : Prim E 17 [Byt [97, 32, 98, 32, 123, 51, 125, 13, 10, 120]] (.val (.bool false)) := WantC _ _ (by decide) (by kernel_rfl)
theorem W3 : Prim E 17 [Byt [97, 32, 98, 32, 123, 55, 48, 48, 48, 48, 125, 13, 10]] (.val (.bool false)) := WantC _ _ (by decide) (by kernel_rfl)
theorem RL1 (l : Txt) (h : l = long) : Prim E 16 [Str (l ++ [13, 10, 120])] (.val (.tup [.int .i64 8193, .int .i64 3])) := by
  subst h
  exact ReadC _ _ _ (by rw [List.length_append, long_len]; decide) (by rw [long1])
theorem RL2 (l : Txt) (h : l = long) : Prim E 16 [Str ([97, 32] ++ l ++ [13, 10, 120])] (.val (.tup [.int .i64 8195, .int .i64 2])) := by
  subst h
  exact ReadC _ _ _ (by rw [List.length_append, List.length_append, long_len]; decide) (by rw [long2])
theorem rep_snoc {i : Nat} {l : Txt} (h : l = List.replicate i 97) : l ++ [97] = List.replicate (i + 1) 97 := by rw [h]; exact (List.replicate_succ').symm
theorem rep_end {i : Nat} {l : Txt} (h : l = List.replicate i 97) (hi : i = 8191) : l = long := by rw [h, hi]; rfl
end Go.Proofs.YtcanagkflbbmaaaDoor.L
