/- Commands: a whole one. -/
import Derived.Test.YtcanagkflbbmaaaDoorLCmd8
set_option linter.unusedVariables false
set_option linter.unusedSimpArgs false
set_option maxRecDepth 100000
set_option maxHeartbeats 8000000
namespace Go.Proofs.YtcanagkflbbmaaaDoor.L
open Go Go.Proofs Go.Dev Go.RowKit
theorem run_len {b no : Txt} {op : RS → RS} {from_ : Nat} : ∀ (n : Nat) (s : RS), (run b no op from_ n s).1.length ≤ b.length
  | 0, _ => Nat.zero_le _
  | n + 1, s => by
    unfold run
    split
    · exact Nat.zero_le _
    · split
      · exact run_len n _
      · simp only [List.length_take, List.length_drop]
        omega
def r0 : RS := ⟨0, 0, 0, 0, 0, false⟩
def argsL (b : Txt) : Nat → List Word → RS → List Word × RS
  | 0, acc, s => (acc, s)
  | n + 1, acc, s => if s.err = 0 then
      (if (isB b s 13).1 = true then (acc, endL b (isB b s 13).2)
       else argsL b n (acc ++ [(wordW b 32 (want b (isB b s 13).2 32)).1]) (wordW b 32 (want b (isB b s 13).2 32)).2) else (acc, s)
structure Cmd where
  tag : Txt
  name : Txt
  args : List Word
def rd1 (b : Txt) : Txt × RS := run b noTag noop 0 (b.length + 1) r0
def rd2 (b : Txt) : RS := inc (want b (rd1 b).2 32)
def rd3 (b : Txt) : Txt × RS := plain b (rd2 b)
def rdA (b : Txt) : List Word × RS := argsL b 1002 [] (rd3 b).2
def readC (b : Txt) : Cmd := ⟨(rd1 b).1, (rd3 b).1.map upper, (rdA b).1⟩
def cdv (c : Cmd) : DV := .agg [Str c.tag, Str c.name, .imm 4 (c.args.map wdv)]
theorem r0_wf {b : Txt} (h : b.length < 1000000000) : WF b r0 := ⟨h, Nat.zero_le _, Nat.le_refl _, Nat.zero_le _, fun _ => Nat.zero_le _, by show (0 : Int) ≤ 0 ∧ (0 : Int) ≤ _; omega⟩
theorem rd1_wf {b : Txt} (h : b.length < 1000000000) : WF b (rd1 b).2 := (run_wf (fun s h => ⟨h, Nat.le_refl _⟩) _ _ (r0_wf h)).1
theorem rd1_words {b : Txt} : (rd1 b).2.words = 0 := run_words (fun _ => rfl) _ _
theorem rd2_wf {b : Txt} (h : b.length < 1000000000) : WF b (rd2 b) := by
  have w := want_wf (rd1_wf h) 32
  have e : (want b (rd1 b).2 32).words = 0 := want_words.trans rd1_words
  exact ⟨w.big, w.at_, w.line, by show (want b (rd1 b).2 32).words + 1 ≤ _; omega, fun _ => by show (want b (rd1 b).2 32).words + 1 ≤ _; omega, w.bad⟩
theorem rd2_words {b : Txt} : (rd2 b).words = 1 := by
  have e : (want b (rd1 b).2 32).words = 0 := want_words.trans rd1_words
  show (want b (rd1 b).2 32).words + 1 = 1
  omega
theorem rd3_wf {b : Txt} (h : b.length < 1000000000) : WF b (rd3 b).2 := plain_wf (rd2_wf h)
theorem rd3_words {b : Txt} : (rd3 b).2.words = 1 := plain_words.trans rd2_words
theorem Read (b : Txt) (hb : b.length < 1000000000) : PrimM E 19 (rdr b r0) [rp] (cdv (readC b)) (rdr b (rdA b).2) := by
  have w0 := r0_wf hb
  have w1 := rd1_wf hb
  have w2 := rd2_wf hb
  have w3 := rd3_wf hb
  have wk := wordW_ok (b := b) 32
  have z1 := rd1_words (b := b)
  have z2 : (want b (rd1 b).2 32).words = 0 := want_words.trans rd1_words
  have z3 := rd3_words (b := b)
  have ln : (rd3 b).1.length ≤ b.length := run_len _ _
  refine PrimM.ofX Tryd.func19 Tryd.ntmps19 rfl rfl ?_
  repeat' ((conv => whnf); first | refine LoopK.nz 2 2 4 rfl rfl ?_ | ((first | (show LoopK _ _ (.seq (.region 5 _ _) _) _ _ _ _) | (show LoopK _ _ (.seq (.seq (.region 5 _ _) _) _) _ _ _ _) | (show LoopK _ _ (.region 5 _ _) _ _ _ _) | (show LoopK _ _ (.block _ (.seq (.region 5 _ _) _)) _ _ _ _) | (show LoopK _ _ (.seq (.block _ (.seq (.region 5 _ _) _)) _) _ _ _ _) | (show LoopK _ _ (.block _ (.seq (.block _ (.seq (.region 5 _ _) _)) _)) _ _ _ _) | (show LoopK _ _ (.scope (.seq (.region 5 _ _) _)) _ _ _ _) | (show LoopK _ _ (.scope (.block _ (.seq (.region 5 _ _) _))) _ _ _ _)); (refine LoopK.forU [0, 2, 3] (fun (⟨acc, G, s1, n⟩ : List Word × Nat × RS × Nat) => WF b s1 ∧ acc.length ≤ 1002 ∧ (s1.err = 0 → acc.length ≤ s1.words ∧ 1001 < n + s1.words) ∧ 0 < n ∧ argsL b n acc s1 = rdA b) (fun (⟨acc, G, s1, n⟩ : List Word × Nat × RS × Nat) => []) (fun H => fun (⟨acc, G, s1, n⟩ : List Word × Nat × RS × Nat) => [.row (rdr b s1), .row ⟨[.agg [Str [], Str [], .nils]], 3, 0, false, some 26⟩, .row ⟨[.agg [Str (rd1 b).1, Str ((rd3 b).1.map upper), .ref 3 0 acc.length 4 G acc.length]], 3, 0, false, some 26⟩, slotR wdv 43 4 G acc]) (fun (⟨acc, G, s1, n⟩ : List Word × Nat × RS × Nat) => n) (([], 0, (rd3 b).2, 1002)) ?_; (conv => whnf); refine ForU.of ?_ (by repeat' (first | exact trivial | refine And.intro rfl ?_)) (by first | exact .refl _ | (repeat' (first | exact .nil | refine .same ?_ | refine .kill ?_))) ?_; rotate_left; rintro ⟨acc, G, s1, n⟩ ⟨hw, ha, hn, hp, hr⟩; (obtain ⟨m, rfl⟩ : ∃ m, n = m + 1 := ⟨n - 1, by omega⟩); rw [argsL] at hr; have hw1 := hw.words; have hw2 := hw.w0)) | with_reducible refine JoinK.go ?_ | (show OX _ _ _ _ _ _ _; first | refine OX.cm 0 (Run0 b noTag r0 w0) rfl (by repeat' (first | exact MvL.nil | refine MvL.cons ?_ ?_ | exact Mv.ptr | exact Mv.pure rfl | refine Mv.bfn ?_ | refine Mv.fn ?_)) rfl rfl rfl ?_ | refine OX.cm 0 (Want b (rd1 b).2 32 w1) rfl (by repeat' (first | exact MvL.nil | refine MvL.cons ?_ ?_ | exact Mv.ptr | exact Mv.pure rfl | refine Mv.bfn ?_ | refine Mv.fn ?_)) rfl rfl rfl ?_ | refine OX.cm 0 (RunB b noPlain (rd2 b) w2) rfl (by repeat' (first | exact MvL.nil | refine MvL.cons ?_ ?_ | exact Mv.ptr | exact Mv.pure rfl | refine Mv.bfn ?_ | refine Mv.fn ?_)) rfl rfl rfl ?_ | refine OX.cp (Capitals (rd3 b).1 (by omega)) rfl rfl ?_ | refine OX.ca (Capitals (rd3 b).1 (by omega)) rfl rfl (by repeat' (first | exact FrzE.pure (pureB_ok 9 _ rfl) | exact FrzE.slot (by first | exact Cel.str | exact Cel.byte | exact Cel.wdv) rfl (by first | rfl | omega) | exact FrzE.rowA (by first | exact Cel.str | exact Cel.byte | exact Cel.wdv) rfl (by first | rfl | omega) | refine FrzE.fn ?_ | refine FrzE.agg ?_ | refine FrzE.tup ?_ | refine FrzE.ptr1 rfl rfl rfl rfl rfl rfl ?_ | refine FrzE.ptrA rfl rfl rfl rfl ?_ | exact FrzLE.nil | refine FrzLE.cons ?_ ?_)) ?_ | refine OX.cm 0 (Is b _ 13 (by assumption)) rfl (by repeat' (first | exact MvL.nil | refine MvL.cons ?_ ?_ | exact Mv.ptr | exact Mv.pure rfl | refine Mv.bfn ?_ | refine Mv.fn ?_)) rfl rfl rfl ?_ | refine OX.cm 0 (EndL b _ (isB_wf hw 13)) rfl (by repeat' (first | exact MvL.nil | refine MvL.cons ?_ ?_ | exact Mv.ptr | exact Mv.pure rfl | refine Mv.bfn ?_ | refine Mv.fn ?_)) rfl rfl rfl ?_ | refine OX.cm 0 (Want b _ 32 (isB_wf hw 13)) rfl (by repeat' (first | exact MvL.nil | refine MvL.cons ?_ ?_ | exact Mv.ptr | exact Mv.pure rfl | refine Mv.bfn ?_ | refine Mv.fn ?_)) rfl rfl rfl ?_ | refine OX.cm 0 (Word0 b _ (want_wf (isB_wf hw 13) 32)) rfl (by repeat' (first | exact MvL.nil | refine MvL.cons ?_ ?_ | exact Mv.ptr | exact Mv.pure rfl | refine Mv.bfn ?_ | refine Mv.fn ?_)) rfl rfl rfl ?_ | (refine OX.app Cel.wdv (xs := [_]) rfl rfl rfl rfl rfl rfl rfl ?_ (fun G => ?_); · (first | omega | exact u8rng _ | (simp only [List.length_cons, List.length_nil, List.length_append]; omega))) | refine OX.rc (Rc.cvF (by repeat' (first | exact FrzE.pure (pureB_ok 9 _ rfl) | exact FrzE.slot (by first | exact Cel.str | exact Cel.byte | exact Cel.wdv) rfl (by first | rfl | omega) | exact FrzE.rowA (by first | exact Cel.str | exact Cel.byte | exact Cel.wdv) rfl (by first | rfl | omega) | refine FrzE.fn ?_ | refine FrzE.agg ?_ | refine FrzE.tup ?_ | refine FrzE.ptr1 rfl rfl rfl rfl rfl rfl ?_ | refine FrzE.ptrA rfl rfl rfl rfl ?_ | exact FrzLE.nil | refine FrzLE.cons ?_ ?_)) rfl rfl rfl) ?_) | with_reducible refine NilK.nil ?_ | ((with_reducible refine And.intro ?_ ?_); · first | (first | omega | exact u8rng _ | (simp only [List.length_cons, List.length_nil, List.length_append]; omega)) | exact Nat.le_of_ble_eq_true rfl) | (with_reducible refine bxN.dec (fun h => ?_) (fun h => ?_)) <;> (try (exfalso; omega)) <;> (try simp only [Int.natCast_inj, Int.ofNat_le, Int.ofNat_lt, u8i, Nat.reduceLT, UInt8.reduceOfNat, ne_eq, Decidable.not_not] at h) <;> (try simp only [il1, il2, il3, il4, il5] at h) <;> (try rw [if_pos h] at hr) <;> (try rw [if_neg h] at hr) | (with_reducible refine bxN.ndec (fun h => ?_) (fun h => ?_)) <;> (try (exfalso; omega)) <;> (try simp only [Int.natCast_inj, Int.ofNat_le, Int.ofNat_lt, u8i, Nat.reduceLT, UInt8.reduceOfNat, ne_eq, Decidable.not_not] at h) <;> (try simp only [il1, il2, il3, il4, il5] at h) <;> (try rw [if_pos h] at hr) <;> (try rw [if_neg h] at hr) | (with_reducible refine bxN.not (fun h => ?_) (fun h => ?_)) <;> (try simp only [h, reduceIte, Bool.false_eq_true] at hr) | (with_reducible refine bxN.split (fun h => ?_) (fun h => ?_)) <;> (try simp only [h, reduceIte, Bool.false_eq_true] at hr) | with_reducible refine natK.cast ?_ | with_reducible refine natK.lit ?_ | with_reducible refine natK.add ?_ | with_reducible refine natK.addl ?_ | ((with_reducible refine natK.pred ?_ ?_); · (first | omega | exact u8rng _ | (simp only [List.length_cons, List.length_nil, List.length_append]; omega))) | ((with_reducible refine natK.sub ?_ ?_); · (first | omega | exact u8rng _ | (simp only [List.length_cons, List.length_nil, List.length_append]; omega))) | ((with_reducible refine natK.nn ?_ ?_); · (first | omega | exact u8rng _ | (simp only [List.length_cons, List.length_nil, List.length_append]; omega))) | ((with_reducible refine nthK.map ?_ ?_); · (first | omega | exact u8rng _ | (simp only [List.length_cons, List.length_nil, List.length_append]; omega))) | ((with_reducible refine nthK.any ?_ ?_); · (first | omega | exact u8rng _ | (simp only [List.length_cons, List.length_nil, List.length_append]; omega))) | refine geK.of rfl ?_ | ((with_reducible refine rowK.slot (List.ne_nil_of_length_pos ?_) ?_); · (first | omega | exact u8rng _ | (simp only [List.length_cons, List.length_nil, List.length_append]; omega))) | ((with_reducible refine ArU.ok ?_ ?_); · omega) | with_reducible refine ArU.of ?_ | with_reducible refine LnK.map ?_ | with_reducible refine LnK.lit rfl ?_ | with_reducible refine PcK.map0 ?_ | with_reducible refine PcK.mapT ?_ | with_reducible refine PcK.map ?_ | with_reducible refine CvK.map ?_ | with_reducible refine OpenK.of (by kernel_rfl) ?_ | refine EndW.of (by kernel_rfl) (by repeat' ((conv => whnf); first | exact trivial | with_reducible refine And.intro ?_ ?_ | exact rfl | refine MkA.same rfl ?_ | refine MkA.anc (by kernel_rfl) ?_)) ?_ | exact RetK.eq rfl (by with_reducible rfl) | refine RetM.eq rfl rfl rfl (by with_reducible rfl) ?_ | ((show RetM _ _ _ _); refine RetM.fx (by repeat' (first | exact FrzX.nils (z := 4) | apply FrzX.agg | apply FrzX.tup | exact FrzX.pure rfl | exact FrzX.slot (by first | exact Cel.str | exact Cel.byte | exact Cel.wdv) rfl rfl (by first | rfl | omega) | exact FrzX.rowA (by first | exact Cel.str | exact Cel.byte | exact Cel.wdv) rfl rfl (by first | rfl | omega) | exact FrzLX.nil | apply FrzLX.cons)) rfl rfl ?_ ?_) | ((show RetK _ _ _); refine RetK.fz (by repeat' (first | exact FrzE.nils (z := 4) | apply FrzE.agg | apply FrzE.tup | exact FrzE.pure (pureB_ok 9 _ rfl) | exact FrzE.slot (by first | exact Cel.str | exact Cel.byte | exact Cel.wdv) rfl (by first | rfl | omega) | exact FrzE.rowA (by first | exact Cel.str | exact Cel.byte | exact Cel.wdv) rfl (by first | rfl | omega) | exact FrzLE.nil | apply FrzLE.cons)) ?_) | refine RetK.eq rfl ?_ | refine RetM.eq rfl rfl rfl ?_ ?_ | ((show RetM _ _ _ _); refine RetM.fx (by repeat' (first | exact FrzX.pure rfl | exact FrzX.nils | exact FrzX.slot (by first | exact Cel.str | exact Cel.byte | exact Cel.wdv) rfl rfl (by first | rfl | omega) | exact FrzX.rowA (by first | exact Cel.str | exact Cel.byte | exact Cel.wdv) rfl rfl (by first | rfl | omega) | apply FrzX.agg | apply FrzX.tup | exact FrzLX.nil | apply FrzLX.cons)) rfl rfl ?_ ?_) | ((show RetK _ _ _); refine RetK.fz (by repeat' (first | exact FrzE.pure (pureB_ok 9 _ rfl) | exact FrzE.slot (by first | exact Cel.str | exact Cel.byte | exact Cel.wdv) rfl (by first | rfl | omega) | exact FrzE.rowA (by first | exact Cel.str | exact Cel.byte | exact Cel.wdv) rfl (by first | rfl | omega) | refine FrzE.fn ?_ | refine FrzE.agg ?_ | refine FrzE.tup ?_ | refine FrzE.ptr1 rfl rfl rfl rfl rfl rfl ?_ | refine FrzE.ptrA rfl rfl rfl rfl ?_ | exact FrzLE.nil | refine FrzLE.cons ?_ ?_)) ?_))
  all_goals (try (conv => whnf))
  all_goals first
    | rfl
    | (rw [← hr]; done)
    | (rw [cdv, readC, ← hr]; done)
    | (refine BackU.of ((acc ++ [(wordW b 32 (want b (isB b s1 13).2 32)).1], G, (wordW b 32 (want b (isB b s1 13).2 32)).2, m)) ?_ ?_ ?_ ?_ ?_; rotate_left; (focus (first | exact Nat.lt_succ_self _ | omega | (simp only [List.length_cons]; omega) | (simp_all; omega))); (focus (repeat' (first | exact trivial | refine And.intro rfl ?_))); (focus (repeat' (first | exact trivial | refine And.intro rfl ?_))); (focus (first | exact .refl _ | (repeat' (first | exact .nil | refine .same ?_ | refine .kill ?_)))); (focus (have q := wk.more _ (want_wf (isB_wf hw 13) 32); have q' : (want b (isB b s1 13).2 32).words = s1.words := want_words.trans peek_words; refine ⟨wk.wf _ (want_wf (isB_wf hw 13) 32), ?_, ?_, ?_, ?_⟩ <;> first | exact hr | (simp; omega) | omega | (intro he; have q2 := q.2 he; simp; omega))))
    | skip
end Go.Proofs.YtcanagkflbbmaaaDoor.L
