/- Commands: words that are written. -/
import Derived.Test.YtcanagkflbbmaaaDoorLSh2
import Derived.Test.YtcanagkflbbmaaaDoorLShJ
set_option linter.unusedVariables false
set_option linter.unusedSimpArgs false
set_option maxRecDepth 100000
set_option maxHeartbeats 8000000
namespace Go.Proofs.YtcanagkflbbmaaaDoor.L
open Go Go.Proofs Go.Dev Go.RowKit
theorem idx125 : ∀ (l r : Txt), 125 ∉ l → Lib.index (l ++ 125 :: r) [125] = l.length
  | [], r, _ => by
    rw [List.nil_append, Lib.index]
    simp [List.isPrefixOf]
  | c :: l, r, h => by
    have ih := idx125 l r (fun hm => h (List.mem_cons_of_mem _ hm))
    have hc : (125 : UInt8) ≠ c := fun e => h (by rw [e]; exact List.mem_cons_self ..)
    rw [List.cons_append, Lib.index, ih]
    rw [if_neg (by simp [List.isPrefixOf, hc]), if_neg (by first | (simp; done) | (simp; omega))]
    simp
theorem dig_no {D : Txt} (h : D.all isDig = true) : (125 : UInt8) ∉ D := fun hm => by
  have := List.all_eq_true.1 h _ hm
  revert this
  decide
theorem rep_head (D t : Txt) (h : D.all isDig = true) : Lib.replace (litHead D false ++ t) [125] [43, 125] 1 = litHead D true ++ t := by
  have e : litHead D false ++ t = (123 :: D) ++ 125 :: (13 :: 10 :: t) := by simp [litHead]
  have hn : (125 : UInt8) ∉ (123 :: D : Txt) := fun hm => by
    rcases List.mem_cons.1 hm with h1 | h1
    · revert h1; decide
    · exact dig_no h h1
  have hi := idx125 (123 :: D) (13 :: 10 :: t) hn
  have hc : 1 ≤ Lib.count ((123 :: D) ++ 125 :: (13 :: 10 :: t)) [125] := by
    rw [Lib.count_one]
    exact List.count_pos_iff.2 (by simp)
  rw [e]
  unfold Lib.replace Lib.replaceNum
  rw [if_neg (by decide), if_neg (by omega)]
  show Lib.replaceK [125] [43, 125] (0 + 1) _ = _
  rw [Lib.replaceK_hit _ _ _ _ _ hi]
  rw [List.take_left, show (123 :: D : Txt).length + ([125] : Txt).length = ((123 :: D) ++ [125] : Txt).length from by simp, show (123 :: D) ++ 125 :: (13 :: 10 :: t) = ((123 :: D) ++ [125]) ++ (13 :: 10 :: t) from by simp, List.drop_left]
  simp [Lib.replaceK, litHead]
theorem hp_t {t : Txt} (h : Lib.hasPrefix (nstr0 t) [123] = true) : Lib.replace (nstr0 t) [125] [43, 125] 1 = nstr t := by
  unfold nstr0 at h ⊢
  unfold nstr
  by_cases hq : qok t = true
  · rw [if_pos hq] at h
    simp [Lib.hasPrefix, quoteT, List.isPrefixOf] at h
  · rw [if_neg hq, if_neg hq, rep_head _ _ (digs_all _)]
theorem hp_f {t : Txt} (h : Lib.hasPrefix (nstr0 t) [123] = false) : nstr0 t = nstr t := by
  unfold nstr0 at h ⊢
  unfold nstr
  by_cases hq : qok t = true
  · rw [if_pos hq, if_pos hq]
  · rw [if_neg hq] at h
    simp [Lib.hasPrefix, litHead, List.isPrefixOf] at h
theorem nstr0_len (t : Txt) (hl : t.length < 1000000) : (nstr0 t).length < 3000000 := by
  have he := escs_len t
  have hd := digs_len 8 t.length (by omega)
  unfold nstr0
  split
  · simp [quoteT]; omega
  · simp [litHead]; omega
theorem WordQ (t : Txt) (hl : t.length < 1000000) : Prim E2 22 [.agg [Str t, .bool true, .imm 4 [], .bool false]] (.val (Str (nstr t))) := by
  have hn := nstr0_len t hl
  have hc := Lib.countB_le ⟨([125] : Txt).toArray⟩ (by decide) (nstr0 t).length ⟨(nstr0 t).toArray⟩ (by rw [Lib.size_eq]; first | done | simp)
  have hs : (⟨(nstr0 t).toArray⟩ : ByteArray).size = (nstr0 t).length := by rw [Lib.size_eq]; first | done | simp
  refine Prim.ofX Tryd.func22 Tryd.ntmps22 rfl rfl ?_
  repeat' ((conv => whnf); first | with_reducible refine JoinK.go ?_ | (show OX _ _ _ _ _ _ _; first | refine OX.cp (NString t hl) rfl rfl ?_ | refine OX.ca (NString t hl) rfl rfl (by repeat' (first | exact FrzE.pure (pureB_ok 9 _ rfl) | exact FrzE.slot (by first | exact Cel.str | exact Cel.byte | exact Cel.wdv) rfl (by first | rfl | omega) | exact FrzE.rowA (by first | exact Cel.str | exact Cel.byte | exact Cel.wdv) rfl (by first | rfl | omega) | refine FrzE.fn ?_ | refine FrzE.agg ?_ | refine FrzE.tup ?_ | refine FrzE.ptr1 rfl rfl rfl rfl rfl rfl ?_ | refine FrzE.ptrA rfl rfl rfl rfl ?_ | exact FrzLE.nil | refine FrzLE.cons ?_ ?_)) ?_ | refine OX.cp (HasPrefix (nstr0 t) [123]) rfl rfl ?_ | refine OX.ca (HasPrefix (nstr0 t) [123]) rfl rfl (by repeat' (first | exact FrzE.pure (pureB_ok 9 _ rfl) | exact FrzE.slot (by first | exact Cel.str | exact Cel.byte | exact Cel.wdv) rfl (by first | rfl | omega) | exact FrzE.rowA (by first | exact Cel.str | exact Cel.byte | exact Cel.wdv) rfl (by first | rfl | omega) | refine FrzE.fn ?_ | refine FrzE.agg ?_ | refine FrzE.tup ?_ | refine FrzE.ptr1 rfl rfl rfl rfl rfl rfl ?_ | refine FrzE.ptrA rfl rfl rfl rfl ?_ | exact FrzLE.nil | refine FrzLE.cons ?_ ?_)) ?_ | refine OX.cp (Replace (nstr0 t) [125] [43, 125] 1 (by omega) (by decide) (by rw [hs] at hc; simp only [List.length_cons, List.length_nil]; omega)) rfl rfl ?_ | refine OX.ca (Replace (nstr0 t) [125] [43, 125] 1 (by omega) (by decide) (by rw [hs] at hc; simp only [List.length_cons, List.length_nil]; omega)) rfl rfl (by repeat' (first | exact FrzE.pure (pureB_ok 9 _ rfl) | exact FrzE.slot (by first | exact Cel.str | exact Cel.byte | exact Cel.wdv) rfl (by first | rfl | omega) | exact FrzE.rowA (by first | exact Cel.str | exact Cel.byte | exact Cel.wdv) rfl (by first | rfl | omega) | refine FrzE.fn ?_ | refine FrzE.agg ?_ | refine FrzE.tup ?_ | refine FrzE.ptr1 rfl rfl rfl rfl rfl rfl ?_ | refine FrzE.ptrA rfl rfl rfl rfl ?_ | exact FrzLE.nil | refine FrzLE.cons ?_ ?_)) ?_ | refine OX.rc (Rc.cvF (by repeat' (first | exact FrzE.pure (pureB_ok 9 _ rfl) | exact FrzE.slot (by first | exact Cel.str | exact Cel.byte | exact Cel.wdv) rfl (by first | rfl | omega) | exact FrzE.rowA (by first | exact Cel.str | exact Cel.byte | exact Cel.wdv) rfl (by first | rfl | omega) | refine FrzE.fn ?_ | refine FrzE.agg ?_ | refine FrzE.tup ?_ | refine FrzE.ptr1 rfl rfl rfl rfl rfl rfl ?_ | refine FrzE.ptrA rfl rfl rfl rfl ?_ | exact FrzLE.nil | refine FrzLE.cons ?_ ?_)) rfl rfl rfl) ?_) | with_reducible refine NilK.nil ?_ | ((with_reducible refine And.intro ?_ ?_); · first | (first | omega | exact u8rng _ | (simp only [List.length_cons, List.length_nil, List.length_append]; omega)) | exact Nat.le_of_ble_eq_true rfl) | (with_reducible refine bxN.dec (fun h => ?_) (fun h => ?_)) <;> (try (exfalso; omega)) <;> (try simp only [Int.natCast_inj, Int.ofNat_le, Int.ofNat_lt, u8i, Nat.reduceLT, UInt8.reduceOfNat, ne_eq, Decidable.not_not] at h) <;> (try simp only [il1, il2, il3, il4, il5] at h) <;> (try rw [if_pos h] at hr) <;> (try rw [if_neg h] at hr) | (with_reducible refine bxN.ndec (fun h => ?_) (fun h => ?_)) <;> (try (exfalso; omega)) <;> (try simp only [Int.natCast_inj, Int.ofNat_le, Int.ofNat_lt, u8i, Nat.reduceLT, UInt8.reduceOfNat, ne_eq, Decidable.not_not] at h) <;> (try simp only [il1, il2, il3, il4, il5] at h) <;> (try rw [if_pos h] at hr) <;> (try rw [if_neg h] at hr) | (with_reducible refine bxN.not (fun h => ?_) (fun h => ?_)) <;> (try simp only [h, reduceIte, Bool.false_eq_true] at hr) | (with_reducible refine bxN.split (fun h => ?_) (fun h => ?_)) <;> (try simp only [h, reduceIte, Bool.false_eq_true] at hr) | with_reducible refine natK.cast ?_ | with_reducible refine natK.lit ?_ | with_reducible refine natK.add ?_ | with_reducible refine natK.addl ?_ | ((with_reducible refine natK.pred ?_ ?_); · (first | omega | exact u8rng _ | (simp only [List.length_cons, List.length_nil, List.length_append]; omega))) | ((with_reducible refine natK.sub ?_ ?_); · (first | omega | exact u8rng _ | (simp only [List.length_cons, List.length_nil, List.length_append]; omega))) | ((with_reducible refine natK.nn ?_ ?_); · (first | omega | exact u8rng _ | (simp only [List.length_cons, List.length_nil, List.length_append]; omega))) | ((with_reducible refine nthK.map ?_ ?_); · (first | omega | exact u8rng _ | (simp only [List.length_cons, List.length_nil, List.length_append]; omega))) | ((with_reducible refine nthK.any ?_ ?_); · (first | omega | exact u8rng _ | (simp only [List.length_cons, List.length_nil, List.length_append]; omega))) | refine geK.of rfl ?_ | ((with_reducible refine rowK.slot (List.ne_nil_of_length_pos ?_) ?_); · (first | omega | exact u8rng _ | (simp only [List.length_cons, List.length_nil, List.length_append]; omega))) | ((with_reducible refine ArU.ok ?_ ?_); · omega) | with_reducible refine ArU.of ?_ | with_reducible refine LnK.map ?_ | with_reducible refine LnK.lit rfl ?_ | with_reducible refine PcK.map0 ?_ | with_reducible refine PcK.mapT ?_ | with_reducible refine PcK.map ?_ | with_reducible refine CvK.map ?_ | with_reducible refine OpenK.of (by kernel_rfl) ?_ | refine EndW.of (by kernel_rfl) (by repeat' ((conv => whnf); first | exact trivial | with_reducible refine And.intro ?_ ?_ | exact rfl | refine MkA.same rfl ?_ | refine MkA.anc (by kernel_rfl) ?_)) ?_ | exact RetK.eq rfl (by with_reducible rfl) | refine RetM.eq rfl rfl rfl (by with_reducible rfl) ?_ | refine RetK.eq rfl ?_ | refine RetM.eq rfl rfl rfl ?_ ?_ | ((show RetM _ _ _ _); refine RetM.fx (by repeat' (first | exact FrzX.pure rfl | exact FrzX.nils | exact FrzX.slot (by first | exact Cel.str | exact Cel.byte | exact Cel.wdv) rfl rfl (by first | rfl | omega) | exact FrzX.rowA (by first | exact Cel.str | exact Cel.byte | exact Cel.wdv) rfl rfl (by first | rfl | omega) | apply FrzX.agg | apply FrzX.tup | exact FrzLX.nil | apply FrzLX.cons)) rfl rfl ?_ ?_) | ((show RetK _ _ _); refine RetK.fz (by repeat' (first | exact FrzE.pure (pureB_ok 9 _ rfl) | exact FrzE.slot (by first | exact Cel.str | exact Cel.byte | exact Cel.wdv) rfl (by first | rfl | omega) | exact FrzE.rowA (by first | exact Cel.str | exact Cel.byte | exact Cel.wdv) rfl (by first | rfl | omega) | refine FrzE.fn ?_ | refine FrzE.agg ?_ | refine FrzE.tup ?_ | refine FrzE.ptr1 rfl rfl rfl rfl rfl rfl ?_ | refine FrzE.ptrA rfl rfl rfl rfl ?_ | exact FrzLE.nil | refine FrzLE.cons ?_ ?_)) ?_))
  all_goals (try (conv => whnf))
  all_goals first
    | rfl
    | (rw [hp_t (by assumption)]; done)
    | (rw [hp_f (by assumption)]; done)
    | skip
theorem WordT (t : Txt) (hl : t.length < 1000000) : Prim E2 22 [.agg [Str t, .bool false, .imm 4 [], .bool false]] (.val (Str t)) := by
  refine Prim.ofX Tryd.func22 Tryd.ntmps22 rfl rfl ?_
  repeat' ((conv => whnf); first | with_reducible refine JoinK.go ?_ | (show OX _ _ _ _ _ _ _; first | refine OX.rc (Rc.cvF (by repeat' (first | exact FrzE.pure (pureB_ok 9 _ rfl) | exact FrzE.slot (by first | exact Cel.str | exact Cel.byte | exact Cel.wdv) rfl (by first | rfl | omega) | exact FrzE.rowA (by first | exact Cel.str | exact Cel.byte | exact Cel.wdv) rfl (by first | rfl | omega) | refine FrzE.fn ?_ | refine FrzE.agg ?_ | refine FrzE.tup ?_ | refine FrzE.ptr1 rfl rfl rfl rfl rfl rfl ?_ | refine FrzE.ptrA rfl rfl rfl rfl ?_ | exact FrzLE.nil | refine FrzLE.cons ?_ ?_)) rfl rfl rfl) ?_) | with_reducible refine NilK.nil ?_ | ((with_reducible refine And.intro ?_ ?_); · first | (first | omega | exact u8rng _ | (simp only [List.length_cons, List.length_nil, List.length_append]; omega)) | exact Nat.le_of_ble_eq_true rfl) | (with_reducible refine bxN.dec (fun h => ?_) (fun h => ?_)) <;> (try (exfalso; omega)) <;> (try simp only [Int.natCast_inj, Int.ofNat_le, Int.ofNat_lt, u8i, Nat.reduceLT, UInt8.reduceOfNat, ne_eq, Decidable.not_not] at h) <;> (try simp only [il1, il2, il3, il4, il5] at h) <;> (try rw [if_pos h] at hr) <;> (try rw [if_neg h] at hr) | (with_reducible refine bxN.ndec (fun h => ?_) (fun h => ?_)) <;> (try (exfalso; omega)) <;> (try simp only [Int.natCast_inj, Int.ofNat_le, Int.ofNat_lt, u8i, Nat.reduceLT, UInt8.reduceOfNat, ne_eq, Decidable.not_not] at h) <;> (try simp only [il1, il2, il3, il4, il5] at h) <;> (try rw [if_pos h] at hr) <;> (try rw [if_neg h] at hr) | (with_reducible refine bxN.not (fun h => ?_) (fun h => ?_)) <;> (try simp only [h, reduceIte, Bool.false_eq_true] at hr) | (with_reducible refine bxN.split (fun h => ?_) (fun h => ?_)) <;> (try simp only [h, reduceIte, Bool.false_eq_true] at hr) | with_reducible refine natK.cast ?_ | with_reducible refine natK.lit ?_ | with_reducible refine natK.add ?_ | with_reducible refine natK.addl ?_ | ((with_reducible refine natK.pred ?_ ?_); · (first | omega | exact u8rng _ | (simp only [List.length_cons, List.length_nil, List.length_append]; omega))) | ((with_reducible refine natK.sub ?_ ?_); · (first | omega | exact u8rng _ | (simp only [List.length_cons, List.length_nil, List.length_append]; omega))) | ((with_reducible refine natK.nn ?_ ?_); · (first | omega | exact u8rng _ | (simp only [List.length_cons, List.length_nil, List.length_append]; omega))) | ((with_reducible refine nthK.map ?_ ?_); · (first | omega | exact u8rng _ | (simp only [List.length_cons, List.length_nil, List.length_append]; omega))) | ((with_reducible refine nthK.any ?_ ?_); · (first | omega | exact u8rng _ | (simp only [List.length_cons, List.length_nil, List.length_append]; omega))) | refine geK.of rfl ?_ | ((with_reducible refine rowK.slot (List.ne_nil_of_length_pos ?_) ?_); · (first | omega | exact u8rng _ | (simp only [List.length_cons, List.length_nil, List.length_append]; omega))) | ((with_reducible refine ArU.ok ?_ ?_); · omega) | with_reducible refine ArU.of ?_ | with_reducible refine LnK.map ?_ | with_reducible refine LnK.lit rfl ?_ | with_reducible refine PcK.map0 ?_ | with_reducible refine PcK.mapT ?_ | with_reducible refine PcK.map ?_ | with_reducible refine CvK.map ?_ | with_reducible refine OpenK.of (by kernel_rfl) ?_ | refine EndW.of (by kernel_rfl) (by repeat' ((conv => whnf); first | exact trivial | with_reducible refine And.intro ?_ ?_ | exact rfl | refine MkA.same rfl ?_ | refine MkA.anc (by kernel_rfl) ?_)) ?_ | exact RetK.eq rfl (by with_reducible rfl) | refine RetM.eq rfl rfl rfl (by with_reducible rfl) ?_ | refine RetK.eq rfl ?_ | refine RetM.eq rfl rfl rfl ?_ ?_ | ((show RetM _ _ _ _); refine RetM.fx (by repeat' (first | exact FrzX.pure rfl | exact FrzX.nils | exact FrzX.slot (by first | exact Cel.str | exact Cel.byte | exact Cel.wdv) rfl rfl (by first | rfl | omega) | exact FrzX.rowA (by first | exact Cel.str | exact Cel.byte | exact Cel.wdv) rfl rfl (by first | rfl | omega) | apply FrzX.agg | apply FrzX.tup | exact FrzLX.nil | apply FrzLX.cons)) rfl rfl ?_ ?_) | ((show RetK _ _ _); refine RetK.fz (by repeat' (first | exact FrzE.pure (pureB_ok 9 _ rfl) | exact FrzE.slot (by first | exact Cel.str | exact Cel.byte | exact Cel.wdv) rfl (by first | rfl | omega) | exact FrzE.rowA (by first | exact Cel.str | exact Cel.byte | exact Cel.wdv) rfl (by first | rfl | omega) | refine FrzE.fn ?_ | refine FrzE.agg ?_ | refine FrzE.tup ?_ | refine FrzE.ptr1 rfl rfl rfl rfl rfl rfl ?_ | refine FrzE.ptrA rfl rfl rfl rfl ?_ | exact FrzLE.nil | refine FrzLE.cons ?_ ?_)) ?_))
  all_goals (try (conv => whnf))
  all_goals first
    | rfl
    | skip
theorem shR_eq : ∀ l : List Word, shR l = ((l.map shW).map ([32] ++ ·)).flatten
  | [] => by simp [shR]
  | w :: l => by rw [shR_cons, shR_eq l]; simp
theorem join_shL : ∀ l : List Word, Lib.join (l.map shW) [32] = shL l
  | [] => by simp [Lib.join, shL]
  | w :: l => by
    rw [List.map_cons, Lib.join_cons, shL_cons, shR_eq]
    rfl
theorem shR_app (a b : List Word) : shR (a ++ b) = shR a ++ shR b := by rw [shR_eq, shR_eq, shR_eq]; simp
theorem shL_take (l : List Word) (i : Nat) : (shL (l.take i)).length ≤ (shL l).length := by
  cases l with
  | nil => simp
  | cons w l =>
    cases i with
    | zero => simp [shL]
    | succ i =>
      have e : shR l = shR (l.take i) ++ shR (l.drop i) := by rw [← shR_app, List.take_append_drop]
      rw [List.take_succ_cons, shL_cons, shL_cons, e]
      simp
theorem WordL1 (l : List Word) (hl : l.length < 1000000) (hb : (shL l).length < 1000000) (ih : ∀ w ∈ l, Prim E2 22 [wdv w] (.val (Str (shW w)))) : Prim E2 22 [.agg [Str [], .bool false, .imm 4 (l.map wdv), .bool true]] (.val (Str (40 :: (shL l ++ [41])))) := by
  refine Prim.ofX Tryd.func22 Tryd.ntmps22 rfl rfl ?_
  repeat' ((conv => whnf); first | ((first | (show LoopK _ _ (.seq (.region 4 _ _) _) _ _ _ _) | (show LoopK _ _ (.seq (.seq (.region 4 _ _) _) _) _ _ _ _) | (show LoopK _ _ (.region 4 _ _) _ _ _ _) | (show LoopK _ _ (.block _ (.seq (.region 4 _ _) _)) _ _ _ _) | (show LoopK _ _ (.seq (.block _ (.seq (.region 4 _ _) _)) _) _ _ _ _) | (show LoopK _ _ (.block _ (.seq (.block _ (.seq (.region 4 _ _) _)) _)) _ _ _ _) | (show LoopK _ _ (.scope (.seq (.region 4 _ _) _)) _ _ _ _) | (show LoopK _ _ (.scope (.block _ (.seq (.region 4 _ _) _))) _ _ _ _)); (refine LoopK.forK [1, 2, 10, 11] (fun (⟨i, acc, G⟩ : Nat × List Txt × Nat) => i ≤ l.length ∧ acc = (l.take i).map shW) (fun (⟨i, acc, G⟩ : Nat × List Txt × Nat) => [(12, .int .i64 i), (3, .ref 1 0 acc.length 1 G acc.length)]) (fun H => fun (⟨i, acc, G⟩ : Nat × List Txt × Nat) => [.row ⟨[.agg [Str [], .bool false, .imm 4 (l.map wdv), .bool true]], 4, 0, false, some 43⟩, slotR Str 9 1 G acc]) (fun (⟨i, acc, G⟩ : Nat × List Txt × Nat) => l.length - i) ((0, [], 0)) ?_; (conv => whnf); refine ForK.of ?_ (by repeat' (first | exact trivial | refine And.intro rfl ?_)) ⟨(by first | exact .refl _ | (repeat' (first | exact .nil | refine .same ?_ | refine .kill ?_))), rfl⟩ (fun x hx => ⟨rfl, (by repeat' (first | exact trivial | refine And.intro ?_ ?_ | exact Bd.und | exact Bd.ref (by first | decide | exact Nat.le_of_ble_eq_true rfl) | exact Bd.ptr (by first | decide | exact Nat.le_of_ble_eq_true rfl) | exact Bd.mp (by first | decide | exact Nat.le_of_ble_eq_true rfl) | exact (pureB_ok 9 _ rfl).bd _ | exact BdO.slot (by first | exact Cel.str | exact Cel.byte | exact Cel.wdv) | exact BdO.cel (by first | exact Cel.str | exact Cel.byte | exact Cel.wdv) | exact BdO.mset | refine BdO.one ?_ | (refine Bd.agg fun c hc => ?_; simp at hc; rcases hc with rfl | rfl | rfl | rfl <;> first | exact Bd.ref (by decide) | exact Bd.ptr (by decide) | exact (pureB_ok 9 _ rfl).bd _) | exact rfl)), (by repeat' (first | exact trivial | refine And.intro ?_ ?_ | exact Bd.und | exact Bd.ref (by first | decide | exact Nat.le_of_ble_eq_true rfl) | exact Bd.ptr (by first | decide | exact Nat.le_of_ble_eq_true rfl) | exact Bd.mp (by first | decide | exact Nat.le_of_ble_eq_true rfl) | exact (pureB_ok 9 _ rfl).bd _ | exact BdO.slot (by first | exact Cel.str | exact Cel.byte | exact Cel.wdv) | exact BdO.cel (by first | exact Cel.str | exact Cel.byte | exact Cel.wdv) | exact BdO.mset | refine BdO.one ?_ | (refine Bd.agg fun c hc => ?_; simp at hc; rcases hc with rfl | rfl | rfl | rfl <;> first | exact Bd.ref (by decide) | exact Bd.ptr (by decide) | exact (pureB_ok 9 _ rfl).bd _) | exact rfl)), (by repeat' (first | exact trivial | refine And.intro ?_ ?_ | exact Bd.und | exact Bd.ref (by first | decide | exact Nat.le_of_ble_eq_true rfl) | exact Bd.ptr (by first | decide | exact Nat.le_of_ble_eq_true rfl) | exact Bd.mp (by first | decide | exact Nat.le_of_ble_eq_true rfl) | exact (pureB_ok 9 _ rfl).bd _ | exact BdO.slot (by first | exact Cel.str | exact Cel.byte | exact Cel.wdv) | exact BdO.cel (by first | exact Cel.str | exact Cel.byte | exact Cel.wdv) | exact BdO.mset | refine BdO.one ?_ | (refine Bd.agg fun c hc => ?_; simp at hc; rcases hc with rfl | rfl | rfl | rfl <;> first | exact Bd.ref (by decide) | exact Bd.ptr (by decide) | exact (pureB_ok 9 _ rfl).bd _) | exact rfl))⟩) ?_; rotate_left; rintro ⟨i, acc, G⟩ ⟨hi, ha⟩; have hal : acc.length ≤ l.length := (by rw [ha]; simp; omega); have hj : (Lib.join acc [32]).length ≤ (shL l).length := (by rw [ha, join_shL]; exact shL_take l i))) | with_reducible refine JoinK.go ?_ | (show OX _ _ _ _ _ _ _; first | refine OX.cp (ih l[i] (List.getElem_mem _)) rfl rfl ?_ | refine OX.ca (ih l[i] (List.getElem_mem _)) rfl rfl (by repeat' (first | exact FrzE.pure (pureB_ok 9 _ rfl) | exact FrzE.slot (by first | exact Cel.str | exact Cel.byte | exact Cel.wdv) rfl (by first | rfl | omega) | exact FrzE.rowA (by first | exact Cel.str | exact Cel.byte | exact Cel.wdv) rfl (by first | rfl | omega) | refine FrzE.fn ?_ | refine FrzE.agg ?_ | refine FrzE.tup ?_ | refine FrzE.ptr1 rfl rfl rfl rfl rfl rfl ?_ | refine FrzE.ptrA rfl rfl rfl rfl ?_ | exact FrzLE.nil | refine FrzLE.cons ?_ ?_)) ?_ | (refine OX.app Cel.str (xs := [shW l[i]]) rfl rfl rfl rfl rfl rfl rfl ?_ (fun G => ?_); · (first | omega | exact u8rng _ | (simp only [List.length_cons, List.length_nil, List.length_append]; omega))) | refine OX.cp (Join acc [32] (by omega) (by omega)) rfl rfl ?_ | refine OX.ca (Join acc [32] (by omega) (by omega)) rfl rfl (by repeat' (first | exact FrzE.pure (pureB_ok 9 _ rfl) | exact FrzE.slot (by first | exact Cel.str | exact Cel.byte | exact Cel.wdv) rfl (by first | rfl | omega) | exact FrzE.rowA (by first | exact Cel.str | exact Cel.byte | exact Cel.wdv) rfl (by first | rfl | omega) | refine FrzE.fn ?_ | refine FrzE.agg ?_ | refine FrzE.tup ?_ | refine FrzE.ptr1 rfl rfl rfl rfl rfl rfl ?_ | refine FrzE.ptrA rfl rfl rfl rfl ?_ | exact FrzLE.nil | refine FrzLE.cons ?_ ?_)) ?_ | refine OX.rc (Rc.cvF (by repeat' (first | exact FrzE.pure (pureB_ok 9 _ rfl) | exact FrzE.slot (by first | exact Cel.str | exact Cel.byte | exact Cel.wdv) rfl (by first | rfl | omega) | exact FrzE.rowA (by first | exact Cel.str | exact Cel.byte | exact Cel.wdv) rfl (by first | rfl | omega) | refine FrzE.fn ?_ | refine FrzE.agg ?_ | refine FrzE.tup ?_ | refine FrzE.ptr1 rfl rfl rfl rfl rfl rfl ?_ | refine FrzE.ptrA rfl rfl rfl rfl ?_ | exact FrzLE.nil | refine FrzLE.cons ?_ ?_)) rfl rfl rfl) ?_) | (show NilK _ _ _ _ (fun d _ _ => putX _ _ (some 3) d _); refine NilK.slot rfl rfl rfl ?_) | with_reducible refine NilK.nil ?_ | ((with_reducible refine And.intro ?_ ?_); · first | (first | omega | exact u8rng _ | (simp only [List.length_cons, List.length_nil, List.length_append]; omega)) | exact Nat.le_of_ble_eq_true rfl) | (with_reducible refine bxN.dec (fun h => ?_) (fun h => ?_)) <;> (try (exfalso; omega)) <;> (try simp only [Int.natCast_inj, Int.ofNat_le, Int.ofNat_lt, u8i, Nat.reduceLT, UInt8.reduceOfNat, ne_eq, Decidable.not_not] at h) <;> (try simp only [il1, il2, il3, il4, il5] at h) <;> (try rw [if_pos h] at hr) <;> (try rw [if_neg h] at hr) | (with_reducible refine bxN.ndec (fun h => ?_) (fun h => ?_)) <;> (try (exfalso; omega)) <;> (try simp only [Int.natCast_inj, Int.ofNat_le, Int.ofNat_lt, u8i, Nat.reduceLT, UInt8.reduceOfNat, ne_eq, Decidable.not_not] at h) <;> (try simp only [il1, il2, il3, il4, il5] at h) <;> (try rw [if_pos h] at hr) <;> (try rw [if_neg h] at hr) | (with_reducible refine bxN.not (fun h => ?_) (fun h => ?_)) <;> (try simp only [h, reduceIte, Bool.false_eq_true] at hr) | (with_reducible refine bxN.split (fun h => ?_) (fun h => ?_)) <;> (try simp only [h, reduceIte, Bool.false_eq_true] at hr) | with_reducible refine natK.cast ?_ | with_reducible refine natK.lit ?_ | with_reducible refine natK.add ?_ | with_reducible refine natK.addl ?_ | ((with_reducible refine natK.pred ?_ ?_); · (first | omega | exact u8rng _ | (simp only [List.length_cons, List.length_nil, List.length_append]; omega))) | ((with_reducible refine natK.sub ?_ ?_); · (first | omega | exact u8rng _ | (simp only [List.length_cons, List.length_nil, List.length_append]; omega))) | ((with_reducible refine natK.nn ?_ ?_); · (first | omega | exact u8rng _ | (simp only [List.length_cons, List.length_nil, List.length_append]; omega))) | ((with_reducible refine nthK.map ?_ ?_); · (first | omega | exact u8rng _ | (simp only [List.length_cons, List.length_nil, List.length_append]; omega))) | ((with_reducible refine nthK.any ?_ ?_); · (first | omega | exact u8rng _ | (simp only [List.length_cons, List.length_nil, List.length_append]; omega))) | refine geK.of rfl ?_ | ((with_reducible refine rowK.slot (List.ne_nil_of_length_pos ?_) ?_); · (first | omega | exact u8rng _ | (simp only [List.length_cons, List.length_nil, List.length_append]; omega))) | ((with_reducible refine ArU.ok ?_ ?_); · omega) | with_reducible refine ArU.of ?_ | with_reducible refine LnK.map ?_ | with_reducible refine LnK.lit rfl ?_ | with_reducible refine PcK.map0 ?_ | with_reducible refine PcK.mapT ?_ | with_reducible refine PcK.map ?_ | with_reducible refine CvK.map ?_ | with_reducible refine OpenK.of (by kernel_rfl) ?_ | refine EndW.of (by kernel_rfl) (by repeat' ((conv => whnf); first | exact trivial | with_reducible refine And.intro ?_ ?_ | exact rfl | refine MkA.same rfl ?_ | refine MkA.anc (by kernel_rfl) ?_)) ?_ | exact RetK.eq rfl (by with_reducible rfl) | refine RetM.eq rfl rfl rfl (by with_reducible rfl) ?_ | refine RetK.eq rfl ?_ | refine RetM.eq rfl rfl rfl ?_ ?_ | ((show RetM _ _ _ _); refine RetM.fx (by repeat' (first | exact FrzX.pure rfl | exact FrzX.nils | exact FrzX.slot (by first | exact Cel.str | exact Cel.byte | exact Cel.wdv) rfl rfl (by first | rfl | omega) | exact FrzX.rowA (by first | exact Cel.str | exact Cel.byte | exact Cel.wdv) rfl rfl (by first | rfl | omega) | apply FrzX.agg | apply FrzX.tup | exact FrzLX.nil | apply FrzLX.cons)) rfl rfl ?_ ?_) | ((show RetK _ _ _); refine RetK.fz (by repeat' (first | exact FrzE.pure (pureB_ok 9 _ rfl) | exact FrzE.slot (by first | exact Cel.str | exact Cel.byte | exact Cel.wdv) rfl (by first | rfl | omega) | exact FrzE.rowA (by first | exact Cel.str | exact Cel.byte | exact Cel.wdv) rfl (by first | rfl | omega) | refine FrzE.fn ?_ | refine FrzE.agg ?_ | refine FrzE.tup ?_ | refine FrzE.ptr1 rfl rfl rfl rfl rfl rfl ?_ | refine FrzE.ptrA rfl rfl rfl rfl ?_ | exact FrzLE.nil | refine FrzLE.cons ?_ ?_)) ?_))
  all_goals (try (conv => whnf))
  all_goals first
    | rfl
    | (refine BackK.of ((i + 1, acc ++ [shW l[i]], G)) ?_ ?_ ?_ ?_ ?_ rfl; rotate_left; (focus (first | exact Nat.lt_succ_self _ | omega | (simp only [List.length_cons]; omega) | (simp_all; omega))); (focus (repeat' (first | exact trivial | refine And.intro rfl ?_))); (focus (repeat' (first | exact trivial | refine And.intro rfl ?_))); (focus (first | exact .refl _ | (repeat' (first | exact .nil | refine .same ?_ | refine .kill ?_)))); (focus (exact ⟨by omega, by rw [ha, List.take_succ_eq_append_getElem (by assumption), List.map_append]; rfl⟩)))
    | (rw [ha, List.take_of_length_le (by omega), join_shL]; rfl)
    | exact ⟨Nat.zero_le _, rfl⟩
    | skip
theorem shW_mem {w : Word} : ∀ {l : List Word}, w ∈ l → (shW w).length ≤ (shR l).length
  | [], h => by cases h
  | x :: l, h => by
    rw [shR_cons]
    rcases List.mem_cons.1 h with rfl | h
    · simp only [List.length_cons, List.length_append]; omega
    · have := shW_mem h
      simp only [List.length_cons, List.length_append]; omega
theorem shL_shR (l : List Word) : (shL l).length + 1 = (shR l).length ∨ l = [] := by
  cases l with
  | nil => exact .inr rfl
  | cons w l => exact .inl (by rw [shL_cons, shR_cons]; simp)
theorem shR_len : ∀ l : List Word, l.length ≤ (shR l).length
  | [] => Nat.zero_le _
  | w :: l => by
    have := shR_len l
    rw [shR_cons]
    simp only [List.length_cons, List.length_append]
    omega
theorem WordS : ∀ (d : Nat) (w : Word), OkW d w → (shW w).length < 900000 → Prim E2 22 [wdv w] (.val (Str (shW w))) := by
  have flat : (∀ t : Txt, (shW (.mk t false [] false)).length < 900000 → Prim E2 22 [wdv (.mk t false [] false)] (.val (Str (shW (.mk t false [] false))))) ∧ (∀ t : Txt, (shW (.mk t true [] false)).length < 900000 → Prim E2 22 [wdv (.mk t true [] false)] (.val (Str (shW (.mk t true [] false))))) := by
    refine ⟨fun t h => ?_, fun t h => ?_⟩
    · rw [shW_pl] at h ⊢
      rw [wdv_mk]
      exact WordT t (by omega)
    · rw [shW_qu] at h ⊢
      rw [wdv_mk]
      have : t.length ≤ (nstr t).length := by
        have he := escs_len t
        unfold nstr
        split
        · simp [quoteT]; omega
        · simp
      exact WordQ t (by omega)
  intro d
  induction d with
  | zero =>
    intro w hw h
    cases hw with
    | pl _ t _ _ => exact flat.1 t h
    | qu _ t _ => exact flat.2 t h
  | succ d ih =>
    intro w hw h
    cases hw with
    | pl _ t _ _ => exact flat.1 t h
    | qu _ t _ => exact flat.2 t h
    | li _ l hl =>
      rw [shW_li] at h ⊢
      rw [wdv_mk]
      simp only [List.length_cons, List.length_append, List.length_nil] at h
      have h2 := shR_len l
      have h3 : (shR l).length ≤ (shL l).length + 1 := by
        rcases shL_shR l with e | e
        · omega
        · rw [e]; simp [shR]
      exact WordL1 l (by omega) (by omega) (fun w hw => ih w (hl w hw) (by have := shW_mem hw; omega))
end Go.Proofs.YtcanagkflbbmaaaDoor.L
