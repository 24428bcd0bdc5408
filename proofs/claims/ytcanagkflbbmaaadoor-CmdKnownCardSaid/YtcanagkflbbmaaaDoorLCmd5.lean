/- Commands: names in capitals. -/
import Derived.Test.YtcanagkflbbmaaaDoorLCmd4
set_option linter.unusedVariables false
set_option linter.unusedSimpArgs false
set_option maxRecDepth 100000
set_option maxHeartbeats 8000000
namespace Go.Proofs.YtcanagkflbbmaaaDoor.L
open Go Go.Proofs Go.Dev Go.RowKit
theorem lsetB {m : Txt} {i : Nat} {v : Int} (y : UInt8) {K : List DV → Prop} (hv : v = (y.toNat : Int)) (h : K ((m.set i y).map byteDV)) : lsetK (.int .u8 v) (m.map byteDV) i K := by
  rw [lsetK_eq, hv]
  rw [List.map_set] at h
  exact h
theorem up_no {c : UInt8} (h : ¬97 ≤ c.toNat) : upper c = c := if_neg (fun hh => h hh.1)
theorem up_no' {c : UInt8} (h : ¬c.toNat ≤ 122) : upper c = c := if_neg (fun hh => h hh.2)
theorem up_yes {c : UInt8} (h : 97 ≤ c.toNat) (h' : c.toNat ≤ 122) : upper c = c - 32 := if_pos ⟨h, h'⟩
theorem up_int {c : UInt8} (h : 97 ≤ c.toNat) : (c.toNat : Int) - 97 + 65 = ((c - 32).toNat : Int) := by
  rw [UInt8.toNat_sub_of_le _ _ (UInt8.le_iff_toNat_le.2 (by show 32 ≤ c.toNat; omega))]
  show (c.toNat : Int) - 97 + 65 = ((c.toNat - 32 : Nat) : Int)
  omega
theorem up_step {l m : Txt} {i : Nat} (hi : i < l.length) (hm : m = (l.take i).map upper ++ l.drop i) {c : UInt8} (hc : c = upper l[i]) : m.set i c = (l.take (i + 1)).map upper ++ l.drop (i + 1) := by
  subst hm hc
  have e : l.drop i = l[i] :: l.drop (i + 1) := List.drop_eq_getElem_cons hi
  rw [e, List.set_append_right _ _ (by simp; omega)]
  have : i - ((l.take i).map upper).length = 0 := by simp; omega
  rw [this, List.set_cons_zero, List.take_succ_eq_append_getElem hi, List.map_append, List.append_assoc]
  rfl
theorem up_at {l m : Txt} {i : Nat} (hi : i < l.length) (hm : m = (l.take i).map upper ++ l.drop i) (h : i < m.length) : m[i] = l[i] := by
  subst hm
  rw [List.getElem_append_right (by simp; omega)]
  have : i - ((l.take i).map upper).length = 0 := by simp; omega
  rw [List.getElem_drop]
  congr 1
  omega
theorem up_keep {l m : Txt} {i : Nat} (hi : i < l.length) (hm : m = (l.take i).map upper ++ l.drop i) (hu : upper l[i] = l[i]) : m = (l.take (i + 1)).map upper ++ l.drop (i + 1) := by
  rw [← up_step hi hm hu.symm]
  have h : i < m.length := by subst hm; simp; omega
  rw [← up_at hi hm h, List.set_getElem_self]
theorem Capitals (l : Txt) (hl : l.length < 1000000000000) : Prim E 27 [Str l] (.val (Str (l.map upper))) := by
  refine Prim.ofX Tryd.func27 Tryd.ntmps27 rfl rfl ?_
  repeat' ((conv => whnf); first | ((with_reducible refine lsetB (m[i] - 32) (up_int (by assumption)) ?_)) | ((first | (show LoopK _ _ (.seq (.region 3 _ _) _) _ _ _ _) | (show LoopK _ _ (.seq (.seq (.region 3 _ _) _) _) _ _ _ _) | (show LoopK _ _ (.region 3 _ _) _ _ _ _) | (show LoopK _ _ (.block _ (.seq (.region 3 _ _) _)) _ _ _ _) | (show LoopK _ _ (.seq (.block _ (.seq (.region 3 _ _) _)) _) _ _ _ _) | (show LoopK _ _ (.block _ (.seq (.block _ (.seq (.region 3 _ _) _)) _)) _ _ _ _) | (show LoopK _ _ (.scope (.seq (.region 3 _ _) _)) _ _ _ _) | (show LoopK _ _ (.scope (.block _ (.seq (.region 3 _ _) _))) _ _ _ _)); (refine LoopK.forU [2, 3, 8, 9] (fun (⟨i, m⟩ : Nat × Txt) => i ≤ l.length ∧ m = (l.take i).map upper ++ l.drop i) (fun (⟨i, m⟩ : Nat × Txt) => [(10, .int .i64 i)]) (fun H => fun (⟨i, m⟩ : Nat × Txt) => [.row ⟨m.map byteDV, 1, 0, false, some 5⟩]) (fun (⟨i, m⟩ : Nat × Txt) => l.length - i) ((0, l)) ?_; (conv => whnf); refine ForU.of ?_ (by repeat' (first | exact trivial | refine And.intro rfl ?_)) (by first | exact .refl _ | (repeat' (first | exact .nil | refine .same ?_ | refine .kill ?_))) ?_; rotate_left; rintro ⟨i, m⟩ ⟨hi, hm⟩; have hml : m.length = l.length := (by subst hm; simp; omega))) | with_reducible refine JoinK.go ?_ | (show OX _ _ _ _ _ _ _; first | refine OX.rc (Rc.cvF (by repeat' (first | exact FrzE.pure (pureB_ok 9 _ rfl) | exact FrzE.slot (by first | exact Cel.str | exact Cel.byte) rfl (by first | rfl | omega) | exact FrzE.rowA (by first | exact Cel.str | exact Cel.byte) rfl (by first | rfl | omega) | refine FrzE.fn ?_ | refine FrzE.agg ?_ | refine FrzE.tup ?_ | refine FrzE.ptr1 rfl rfl rfl rfl rfl rfl ?_ | refine FrzE.ptrA rfl rfl rfl rfl ?_ | exact FrzLE.nil | refine FrzLE.cons ?_ ?_)) rfl rfl rfl) ?_) | with_reducible refine NilK.nil ?_ | ((with_reducible refine And.intro ?_ ?_); · first | (first | omega | exact u8rng _ | (simp only [List.length_cons, List.length_nil, List.length_append]; omega)) | exact Nat.le_of_ble_eq_true rfl) | (with_reducible refine bxN.dec (fun h => ?_) (fun h => ?_)) <;> (try (exfalso; omega)) <;> (try simp only [Int.natCast_inj, Int.ofNat_le, Int.ofNat_lt, u8i, Nat.reduceLT, UInt8.reduceOfNat, ne_eq, Decidable.not_not] at h) <;> (try simp only [il1, il2, il3, il4, il5] at h) <;> (try rw [if_pos h] at hr) <;> (try rw [if_neg h] at hr) | (with_reducible refine bxN.ndec (fun h => ?_) (fun h => ?_)) <;> (try (exfalso; omega)) <;> (try simp only [Int.natCast_inj, Int.ofNat_le, Int.ofNat_lt, u8i, Nat.reduceLT, UInt8.reduceOfNat, ne_eq, Decidable.not_not] at h) <;> (try simp only [il1, il2, il3, il4, il5] at h) <;> (try rw [if_pos h] at hr) <;> (try rw [if_neg h] at hr) | (with_reducible refine bxN.not (fun h => ?_) (fun h => ?_)) <;> (try simp only [h, reduceIte, Bool.false_eq_true] at hr) | (with_reducible refine bxN.split (fun h => ?_) (fun h => ?_)) <;> (try simp only [h, reduceIte, Bool.false_eq_true] at hr) | with_reducible refine natK.cast ?_ | with_reducible refine natK.lit ?_ | with_reducible refine natK.add ?_ | with_reducible refine natK.addl ?_ | ((with_reducible refine natK.pred ?_ ?_); · (first | omega | exact u8rng _ | (simp only [List.length_cons, List.length_nil, List.length_append]; omega))) | ((with_reducible refine natK.sub ?_ ?_); · (first | omega | exact u8rng _ | (simp only [List.length_cons, List.length_nil, List.length_append]; omega))) | ((with_reducible refine natK.nn ?_ ?_); · (first | omega | exact u8rng _ | (simp only [List.length_cons, List.length_nil, List.length_append]; omega))) | ((with_reducible refine nthK.map ?_ ?_); · (first | omega | exact u8rng _ | (simp only [List.length_cons, List.length_nil, List.length_append]; omega))) | ((with_reducible refine nthK.any ?_ ?_); · (first | omega | exact u8rng _ | (simp only [List.length_cons, List.length_nil, List.length_append]; omega))) | refine geK.of rfl ?_ | ((with_reducible refine rowK.slot (List.ne_nil_of_length_pos ?_) ?_); · (first | omega | exact u8rng _ | (simp only [List.length_cons, List.length_nil, List.length_append]; omega))) | ((with_reducible refine ArU.ok ?_ ?_); · omega) | with_reducible refine ArU.of ?_ | with_reducible refine LnK.map ?_ | with_reducible refine LnK.lit rfl ?_ | with_reducible refine PcK.map0 ?_ | with_reducible refine PcK.mapT ?_ | with_reducible refine PcK.map ?_ | with_reducible refine CvK.map ?_ | with_reducible refine OpenK.of (by kernel_rfl) ?_ | refine EndW.of (by kernel_rfl) (by repeat' ((conv => whnf); first | exact trivial | with_reducible refine And.intro ?_ ?_ | exact rfl | refine MkA.same rfl ?_ | refine MkA.anc (by kernel_rfl) ?_)) ?_ | exact RetK.eq rfl (by with_reducible rfl) | refine RetM.eq rfl rfl rfl (by with_reducible rfl) ?_ | refine RetK.eq rfl ?_ | refine RetM.eq rfl rfl rfl ?_ ?_ | ((show RetM _ _ _ _); refine RetM.fx (by repeat' (first | exact FrzX.pure rfl | exact FrzX.nils | exact FrzX.slot (by first | exact Cel.str | exact Cel.byte) rfl rfl (by first | rfl | omega) | exact FrzX.rowA (by first | exact Cel.str | exact Cel.byte) rfl rfl (by first | rfl | omega) | apply FrzX.agg | apply FrzX.tup | exact FrzLX.nil | apply FrzLX.cons)) rfl rfl ?_ ?_) | ((show RetK _ _ _); refine RetK.fz (by repeat' (first | exact FrzE.pure (pureB_ok 9 _ rfl) | exact FrzE.slot (by first | exact Cel.str | exact Cel.byte) rfl (by first | rfl | omega) | exact FrzE.rowA (by first | exact Cel.str | exact Cel.byte) rfl (by first | rfl | omega) | refine FrzE.fn ?_ | refine FrzE.agg ?_ | refine FrzE.tup ?_ | refine FrzE.ptr1 rfl rfl rfl rfl rfl rfl ?_ | refine FrzE.ptrA rfl rfl rfl rfl ?_ | exact FrzLE.nil | refine FrzLE.cons ?_ ?_)) ?_))
  all_goals (try (conv => whnf))
  all_goals first
    | rfl
    | (refine BackU.of ((i + 1, m.set i (m[i] - 32))) ?_ ?_ ?_ ?_ ?_; rotate_left; (focus (first | exact Nat.lt_succ_self _ | omega | (simp only [List.length_cons]; omega) | (simp_all; omega))); (focus (repeat' (first | exact trivial | refine And.intro rfl ?_))); (focus (repeat' (first | exact trivial | refine And.intro rfl ?_))); (focus (first | exact .refl _ | (repeat' (first | exact .nil | refine .same ?_ | refine .kill ?_)))); (focus (refine ⟨by omega, up_step (by assumption) hm ?_⟩; rw [up_at (by assumption) hm, up_yes (by rw [← up_at (by assumption) hm]; assumption) (by rw [← up_at (by assumption) hm]; assumption)])))
    | (refine BackU.of ((i + 1, m)) ?_ ?_ ?_ ?_ ?_; rotate_left; (focus (first | exact Nat.lt_succ_self _ | omega | (simp only [List.length_cons]; omega) | (simp_all; omega))); (focus (repeat' (first | exact trivial | refine And.intro rfl ?_))); (focus (repeat' (first | exact trivial | refine And.intro rfl ?_))); (focus (first | exact .refl _ | (repeat' (first | exact .nil | refine .same ?_ | refine .kill ?_)))); (focus (refine ⟨by omega, up_keep (by assumption) hm ?_⟩; first | exact up_no (by rw [← up_at (by assumption) hm]; assumption) | exact up_no' (by rw [← up_at (by assumption) hm]; assumption))))
    | (have e : i = l.length := by omega); subst e; subst hm; simp
    | skip
end Go.Proofs.YtcanagkflbbmaaaDoor.L
