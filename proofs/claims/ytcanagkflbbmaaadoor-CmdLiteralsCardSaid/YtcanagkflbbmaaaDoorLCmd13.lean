/- Commands: however bytes come. -/
import Derived.Test.YtcanagkflbbmaaaDoorLCmdR
import Derived.Test.YtcanagkflbbmaaaDoorLCmd12
import Derived.Test.YtcanagkflbbmaaaDoorLAwake23
import Derived.Test.YtcanagkflbbmaaaDoorLAppR
set_option linter.unusedVariables false
set_option linter.unusedSimpArgs false
set_option maxRecDepth 100000
set_option maxHeartbeats 8000000
namespace Go.Proofs.YtcanagkflbbmaaaDoor.L
open Go Go.Proofs Go.Dev Go.RowKit
theorem quotedL_len {b : Txt} : ∀ (n : Nat) (acc : Txt) (s : RS), (quotedL b n acc s).1.length ≤ acc.length + n
  | 0, _, _ => Nat.zero_le _
  | n + 1, acc, s => by
    unfold quotedL
    have k : ∀ (c : UInt8) (t : RS), (quotedL b n (acc ++ [c]) t).1.length ≤ acc.length + (n + 1) := fun c t => by
      have := quotedL_len (b := b) n (acc ++ [c]) t
      simp at this
      omega
    split
    · exact Nat.zero_le _
    · split
      · exact Nat.zero_le _
      · split
        · exact Nat.zero_le _
        · split
          · exact Nat.zero_le _
          · split
            · exact Nat.zero_le _
            · split
              · simp only; omega
              · split
                · split
                  · exact Nat.zero_le _
                  · split
                    · exact k _ _
                    · split
                      · exact k _ _
                      · exact Nat.zero_le _
                · exact k _ _
theorem literal_len {b : Txt} {s : RS} : (literal b s).1.length ≤ b.length := by
  unfold literal
  split
  · exact Nat.zero_le _
  · split
    · exact Nat.zero_le _
    · simp
      omega
theorem fits_none : Fits noW := .mk _ _ _ _ (by decide) (by decide) (fun w h => by cases h)
theorem fits_t {t : Txt} {q : Bool} (h : t.length < 1000000) : Fits (.mk t q [] false) := .mk _ _ _ _ (by decide) h (fun w h => by cases h)
theorem wordF_fits {b : Txt} (hb : b.length < 900000) {lst : Option (RS → Word × RS)} (hl : ∀ f, lst = some f → ∀ s, Fits (f s).1) (s : RS) : Fits (wordF b lst s).1 := by
  unfold wordF
  split
  · exact fits_none
  · split
    · exact fits_none
    · split
      · exact fits_t (by have := quotedL_len (b := b) (b.length + 1) [] (want b (inc s) 34); simp at this; unfold quoted; omega)
      · split
        · exact fits_t (by have := literal_len (b := b) (s := inc s); omega)
        · split
          · split
            · exact fits_none
            · exact hl _ rfl _
          · exact fits_t (by have := run_len (b := b) (no := noPlain) (op := brk b) (from_ := (inc s).at_) (b.length + 1) (inc s); unfold plain; omega)
theorem listL_fits {b : Txt} {rec : RS → Word × RS} (hr : ∀ s, Fits (rec s).1) : ∀ (n : Nat) (acc : List Word) (s : RS), (∀ w ∈ acc, Fits w) → (∀ w ∈ (listL b rec n acc s).1, Fits w) ∧ (listL b rec n acc s).1.length ≤ acc.length + n
  | 0, acc, s, h => ⟨h, Nat.le_refl _⟩
  | n + 1, acc, s, h => by
    have h2 : ∀ w ∈ acc ++ [(rec s).1], Fits w := fun w hw => by
      rcases List.mem_append.1 hw with hw | hw
      · exact h w hw
      · rw [List.mem_singleton.1 hw]; exact hr s
    unfold listL
    split
    · split
      · exact ⟨h2, by simp⟩
      · obtain ⟨q1, q2⟩ := listL_fits hr n _ (want b (may b (rec s).2 41).2 32) h2
        exact ⟨q1, by simp at q2 ⊢; omega⟩
    · exact ⟨h, by simp only; omega⟩
theorem listF_fits {b : Txt} {rec : RS → Word × RS} (hr : ∀ s, Fits (rec s).1) (s : RS) : Fits (listF b rec s).1 := by
  unfold listF
  split
  · exact .mk _ _ _ _ (by decide) (by decide) (fun w h => by cases h)
  · obtain ⟨q1, q2⟩ := listL_fits (b := b) hr 1002 [] (may b (want b s 40) 41).2 (fun w h => by cases h)
    exact .mk _ _ _ _ (by simp at q2; omega) (by decide) q1
theorem wordW_fits {b : Txt} (hb : b.length < 900000) : ∀ d s, Fits (wordW b d s).1
  | 0, s => wordF_fits hb (fun f h => by cases h) s
  | d + 1, s => wordF_fits hb (fun f h s => by cases h; exact listF_fits (wordW_fits hb d) s) s
theorem argsL_fits {b : Txt} (hb : b.length < 900000) : ∀ (n : Nat) (acc : List Word) (s : RS), (∀ w ∈ acc, Fits w) → (∀ w ∈ (argsL b n acc s).1, Fits w) ∧ (argsL b n acc s).1.length ≤ acc.length + n
  | 0, acc, s, h => ⟨h, Nat.le_refl _⟩
  | n + 1, acc, s, h => by
    unfold argsL
    split
    · split
      · exact ⟨h, by simp only; omega⟩
      · obtain ⟨q1, q2⟩ := argsL_fits hb n (acc ++ [(wordW b 32 (want b (isB b s 13).2 32)).1]) (wordW b 32 (want b (isB b s 13).2 32)).2 (fun w hw => by
          rcases List.mem_append.1 hw with hw | hw
          · exact h w hw
          · rw [List.mem_singleton.1 hw]; exact wordW_fits hb _ _)
        exact ⟨q1, by simp at q2 ⊢; omega⟩
    · exact ⟨h, by simp only; omega⟩
theorem parse_fits {b : Txt} (hb : b.length < 900000) : (∀ w ∈ (parseC b).1.args, Fits w) ∧ (parseC b).1.args.length < 1000000 := by
  have h := argsL_fits hb 1002 [] (rd3 b).2 (fun w h => by cases h)
  have hn : (∀ w ∈ noC.args, Fits w) ∧ noC.args.length < 1000000 := ⟨fun w h => (by cases h), by decide⟩
  unfold parseC
  split
  · exact ⟨h.1, Nat.lt_of_le_of_lt h.2 (by decide)⟩
  · split
    · exact hn
    · split <;> exact hn
theorem OwnP (b : Txt) (hb : b.length < 900000) : Prim E 12 [cdv (parseC b).1] (.val (cdv (parseC b).1)) := Own _ (parse_fits hb).2 (parse_fits hb).1
theorem SameP (b : Txt) (hb : b.length < 900000) : Prim E 11 [cdv (parseC b).1, cdv (parseC b).1] (.val (.bool true)) := SameCmd _ (parse_fits hb).2 (parse_fits hb).1
theorem chunk {b : Txt} {i : Nat} (hb : b.length < 1000000000) (h : (parseC (b.take i)).2.2 ≠ 8) : parseC b = parseC (b.take i) := by
  have := parse_fwd (p := b.take i) (x := b.drop i) (by rw [List.take_append_drop]; exact hb) h
  rw [List.take_append_drop] at this
  exact this
theorem chunk_n {b : Txt} {i : Nat} (hb : b.length < 1000000000) (h : (parseC (b.take i)).2.2 ≠ 8) : (parseC (b.take i)).2.1 ≤ i := by
  have := (parse_n (b := b.take i) (by simp; omega)).2.1
  simp at this
  omega
theorem chunk_8 {b : Txt} {i : Nat} (hi : i ≤ b.length) (hb : b.length < 1000000000) (h : (parseC (b.take i)).2.2 = 8) (h8 : (parseC b).2.2 ≠ 8) : (i : Int) < (parseC b).2.1 := by
  refine Classical.byContradiction fun e => ?_
  have := parse_bwd (p := b.take i) (x := b.drop i) (by rw [List.take_append_drop]; exact hb) (by rw [List.take_append_drop]; exact h8) (by rw [List.take_append_drop]; simp; omega)
  exact this h
theorem chunk_all (b : Txt) (i : Nat) (hb : b.length ≤ 240) (hi : i ≤ b.length) : ((parseC (b.take i)).2.2 = 8 → (parseC (b.take i)).2.1 = 0 ∧ ((parseC b).2.2 = 8 ∨ (i : Int) < (parseC b).2.1)) ∧ ((parseC (b.take i)).2.2 ≠ 8 → (parseC (b.take i)).2.2 = (parseC b).2.2 ∧ (parseC (b.take i)).2.1 = (parseC b).2.1 ∧ (parseC b).2.1 ≤ i) := by
  refine ⟨fun h => ⟨((parse_n (b := b.take i) (by simp; omega)).2.2 h).1, ?_⟩, fun h => ?_⟩
  · by_cases h8 : (parseC b).2.2 = 8
    · exact .inl h8
    · exact .inr (chunk_8 hi (by omega) h h8)
  · have e := chunk (by omega) h
    have n := chunk_n (by omega) h
    rw [e]
    exact ⟨rfl, rfl, n⟩
theorem SameQ (b : Txt) (i : Nat) (hb : b.length < 900000) (h : (parseC (b.take i)).2.2 ≠ 8) : Prim E 11 [cdv (parseC b).1, cdv (parseC (b.take i)).1] (.val (.bool true)) := by
  rw [← chunk (by omega) h]
  exact SameP b hb
attribute [local irreducible] parseC
theorem Chunks1 (b r : Txt) (hb : ¬120 < b.length) (hr : ¬120 < r.length) : Prim E 3 [Byt b, Byt r] (.val (.bool true)) := by
  have hl : (b ++ r).length ≤ 240 := by simp; omega
  have ht : ∀ i, ((b ++ r).take i).length ≤ 240 := fun i => by simp; omega
  refine Prim.ofX Tryd.func3 Tryd.ntmps3 rfl rfl ?_
  repeat' ((conv => whnf); first | ((first | (show LoopK _ _ (.seq (.region 8 _ _) _) _ _ _ _) | (show LoopK _ _ (.seq (.seq (.region 8 _ _) _) _) _ _ _ _) | (show LoopK _ _ (.region 8 _ _) _ _ _ _) | (show LoopK _ _ (.block _ (.seq (.region 8 _ _) _)) _ _ _ _) | (show LoopK _ _ (.seq (.block _ (.seq (.region 8 _ _) _)) _) _ _ _ _) | (show LoopK _ _ (.block _ (.seq (.block _ (.seq (.region 8 _ _) _)) _)) _ _ _ _) | (show LoopK _ _ (.scope (.seq (.region 8 _ _) _)) _ _ _ _) | (show LoopK _ _ (.scope (.block _ (.seq (.region 8 _ _) _))) _ _ _ _)); (refine LoopK.forK [5, 6, 7, 8] (fun (i : Nat) => i ≤ (b ++ r).length + 1) (fun (i : Nat) => [(9, .int .i64 i)]) (fun H => fun (i : Nat) => H) (fun (i : Nat) => (b ++ r).length + 1 - i) (0) ?_; (conv => whnf); refine ForK.of ?_ (by repeat' (first | exact trivial | refine And.intro rfl ?_)) ⟨(by first | exact .refl _ | (repeat' (first | exact .nil | refine .same ?_ | refine .kill ?_))), rfl⟩ (fun x hx => ⟨rfl, (by repeat' (first | exact trivial | refine And.intro ?_ ?_ | exact Bd.und | exact Bd.ref (by first | decide | exact Nat.le_of_ble_eq_true rfl) | exact Bd.ptr (by first | decide | exact Nat.le_of_ble_eq_true rfl) | exact Bd.mp (by first | decide | exact Nat.le_of_ble_eq_true rfl) | exact (pureB_ok 9 _ rfl).bd _ | exact BdO.slot (by first | exact Cel.str | exact Cel.byte | exact Cel.wdv) | exact BdO.cel (by first | exact Cel.str | exact Cel.byte | exact Cel.wdv) | exact BdO.mset | refine BdO.one ?_ | (refine Bd.agg fun c hc => ?_; simp at hc; rcases hc with rfl | rfl | rfl | rfl <;> first | exact Bd.ref (by decide) | exact Bd.ptr (by decide) | exact (pureB_ok 9 _ rfl).bd _) | exact rfl)), (by repeat' (first | exact trivial | refine And.intro ?_ ?_ | exact Bd.und | exact Bd.ref (by first | decide | exact Nat.le_of_ble_eq_true rfl) | exact Bd.ptr (by first | decide | exact Nat.le_of_ble_eq_true rfl) | exact Bd.mp (by first | decide | exact Nat.le_of_ble_eq_true rfl) | exact (pureB_ok 9 _ rfl).bd _ | exact BdO.slot (by first | exact Cel.str | exact Cel.byte | exact Cel.wdv) | exact BdO.cel (by first | exact Cel.str | exact Cel.byte | exact Cel.wdv) | exact BdO.mset | refine BdO.one ?_ | (refine Bd.agg fun c hc => ?_; simp at hc; rcases hc with rfl | rfl | rfl | rfl <;> first | exact Bd.ref (by decide) | exact Bd.ptr (by decide) | exact (pureB_ok 9 _ rfl).bd _) | exact rfl)), (by repeat' (first | exact trivial | refine And.intro ?_ ?_ | exact Bd.und | exact Bd.ref (by first | decide | exact Nat.le_of_ble_eq_true rfl) | exact Bd.ptr (by first | decide | exact Nat.le_of_ble_eq_true rfl) | exact Bd.mp (by first | decide | exact Nat.le_of_ble_eq_true rfl) | exact (pureB_ok 9 _ rfl).bd _ | exact BdO.slot (by first | exact Cel.str | exact Cel.byte | exact Cel.wdv) | exact BdO.cel (by first | exact Cel.str | exact Cel.byte | exact Cel.wdv) | exact BdO.mset | refine BdO.one ?_ | (refine Bd.agg fun c hc => ?_; simp at hc; rcases hc with rfl | rfl | rfl | rfl <;> first | exact Bd.ref (by decide) | exact Bd.ptr (by decide) | exact (pureB_ok 9 _ rfl).bd _) | exact rfl))⟩) ?_; rotate_left; rintro i hi)) | with_reducible refine JoinK.go ?_ | (show OX _ _ _ _ _ _ _; first | refine OX.cp Awake rfl rfl ?_ | refine OX.ca Awake rfl rfl (by repeat' (first | exact FrzE.pure (pureB_ok 9 _ rfl) | exact FrzE.slot (by first | exact Cel.str | exact Cel.byte | exact Cel.wdv) rfl (by first | rfl | omega) | exact FrzE.rowA (by first | exact Cel.str | exact Cel.byte | exact Cel.wdv) rfl (by first | rfl | omega) | refine FrzE.fn ?_ | refine FrzE.agg ?_ | refine FrzE.tup ?_ | refine FrzE.ptr1 rfl rfl rfl rfl rfl rfl ?_ | refine FrzE.ptrA rfl rfl rfl rfl ?_ | exact FrzLE.nil | refine FrzLE.cons ?_ ?_)) ?_ | (refine OX.appR Cel.byte (l := []) (xs := b) rfl rfl rfl rfl rfl rfl rfl ?_ (fun G => ?_); · (first | omega | exact u8rng _ | (simp only [List.length_cons, List.length_nil, List.length_append]; omega))) | (refine OX.appR Cel.byte (l := [] ++ b) (xs := r) rfl rfl rfl rfl rfl rfl rfl ?_ (fun G => ?_); · (first | omega | exact u8rng _ | (simp only [List.length_cons, List.length_nil, List.length_append]; omega))) | refine OX.cw (Parse ((b ++ r).take i) (by have := ht i; omega)) rfl (by repeat' (first | exact FrzL.nil | apply FrzL.cons (Frz.pure (pureB_ok 9 _ rfl)) | apply FrzL.cons (Frz.rowT (by first | exact Cel.str | exact Cel.byte | exact Cel.wdv) rfl (by first | simp; done | omega | (simp; omega)) (by first | rfl | exact (List.take_of_length_le (Nat.le_refl _)).symm | (simp; done))))) ?_ | refine OX.cw (Parse (b ++ r) (by omega)) rfl (by repeat' (first | exact FrzL.nil | apply FrzL.cons (Frz.pure (pureB_ok 9 _ rfl)) | apply FrzL.cons (Frz.rowT (by first | exact Cel.str | exact Cel.byte | exact Cel.wdv) rfl (by first | simp; done | omega | (simp; omega)) (by first | rfl | exact (List.take_of_length_le (Nat.le_refl _)).symm | (simp; done))))) ?_ | refine OX.cp (OwnP (b ++ r) (by omega)) rfl rfl ?_ | refine OX.ca (OwnP (b ++ r) (by omega)) rfl rfl (by repeat' (first | exact FrzE.pure (pureB_ok 9 _ rfl) | exact FrzE.slot (by first | exact Cel.str | exact Cel.byte | exact Cel.wdv) rfl (by first | rfl | omega) | exact FrzE.rowA (by first | exact Cel.str | exact Cel.byte | exact Cel.wdv) rfl (by first | rfl | omega) | refine FrzE.fn ?_ | refine FrzE.agg ?_ | refine FrzE.tup ?_ | refine FrzE.ptr1 rfl rfl rfl rfl rfl rfl ?_ | refine FrzE.ptrA rfl rfl rfl rfl ?_ | exact FrzLE.nil | refine FrzLE.cons ?_ ?_)) ?_ | refine OX.cp (OwnP ((b ++ r).take i) (by have := ht i; omega)) rfl rfl ?_ | refine OX.ca (OwnP ((b ++ r).take i) (by have := ht i; omega)) rfl rfl (by repeat' (first | exact FrzE.pure (pureB_ok 9 _ rfl) | exact FrzE.slot (by first | exact Cel.str | exact Cel.byte | exact Cel.wdv) rfl (by first | rfl | omega) | exact FrzE.rowA (by first | exact Cel.str | exact Cel.byte | exact Cel.wdv) rfl (by first | rfl | omega) | refine FrzE.fn ?_ | refine FrzE.agg ?_ | refine FrzE.tup ?_ | refine FrzE.ptr1 rfl rfl rfl rfl rfl rfl ?_ | refine FrzE.ptrA rfl rfl rfl rfl ?_ | exact FrzLE.nil | refine FrzLE.cons ?_ ?_)) ?_ | refine OX.cp (SameQ (b ++ r) i (by omega) (by assumption)) rfl rfl ?_ | refine OX.ca (SameQ (b ++ r) i (by omega) (by assumption)) rfl rfl (by repeat' (first | exact FrzE.pure (pureB_ok 9 _ rfl) | exact FrzE.slot (by first | exact Cel.str | exact Cel.byte | exact Cel.wdv) rfl (by first | rfl | omega) | exact FrzE.rowA (by first | exact Cel.str | exact Cel.byte | exact Cel.wdv) rfl (by first | rfl | omega) | refine FrzE.fn ?_ | refine FrzE.agg ?_ | refine FrzE.tup ?_ | refine FrzE.ptr1 rfl rfl rfl rfl rfl rfl ?_ | refine FrzE.ptrA rfl rfl rfl rfl ?_ | exact FrzLE.nil | refine FrzLE.cons ?_ ?_)) ?_ | refine OX.rc (Rc.cvF (by repeat' (first | exact FrzE.pure (pureB_ok 9 _ rfl) | exact FrzE.slot (by first | exact Cel.str | exact Cel.byte | exact Cel.wdv) rfl (by first | rfl | omega) | exact FrzE.rowA (by first | exact Cel.str | exact Cel.byte | exact Cel.wdv) rfl (by first | rfl | omega) | refine FrzE.fn ?_ | refine FrzE.agg ?_ | refine FrzE.tup ?_ | refine FrzE.ptr1 rfl rfl rfl rfl rfl rfl ?_ | refine FrzE.ptrA rfl rfl rfl rfl ?_ | exact FrzLE.nil | refine FrzLE.cons ?_ ?_)) rfl rfl rfl) ?_) | with_reducible refine NilK.nil ?_ | ((with_reducible refine And.intro ?_ ?_); · first | (first | omega | exact u8rng _ | (simp only [List.length_cons, List.length_nil, List.length_append]; omega)) | exact Nat.le_of_ble_eq_true rfl) | (with_reducible refine bxN.dec (fun h => ?_) (fun h => ?_)) <;> (try (exfalso; omega)) <;> (try simp only [Int.natCast_inj, Int.ofNat_le, Int.ofNat_lt, u8i, Nat.reduceLT, UInt8.reduceOfNat, ne_eq, Decidable.not_not] at h) <;> (try simp only [il1, il2, il3, il4, il5] at h) <;> (try rw [if_pos h] at hr) <;> (try rw [if_neg h] at hr) | (with_reducible refine bxN.ndec (fun h => ?_) (fun h => ?_)) <;> (try (exfalso; omega)) <;> (try simp only [Int.natCast_inj, Int.ofNat_le, Int.ofNat_lt, u8i, Nat.reduceLT, UInt8.reduceOfNat, ne_eq, Decidable.not_not] at h) <;> (try simp only [il1, il2, il3, il4, il5] at h) <;> (try rw [if_pos h] at hr) <;> (try rw [if_neg h] at hr) | (with_reducible refine bxN.not (fun h => ?_) (fun h => ?_)) <;> (try simp only [h, reduceIte, Bool.false_eq_true] at hr) | (with_reducible refine bxN.split (fun h => ?_) (fun h => ?_)) <;> (try simp only [h, reduceIte, Bool.false_eq_true] at hr) | with_reducible refine natK.cast ?_ | with_reducible refine natK.lit ?_ | with_reducible refine natK.add ?_ | with_reducible refine natK.addl ?_ | ((with_reducible refine natK.pred ?_ ?_); · (first | omega | exact u8rng _ | (simp only [List.length_cons, List.length_nil, List.length_append]; omega))) | ((with_reducible refine natK.sub ?_ ?_); · (first | omega | exact u8rng _ | (simp only [List.length_cons, List.length_nil, List.length_append]; omega))) | ((with_reducible refine natK.nn ?_ ?_); · (first | omega | exact u8rng _ | (simp only [List.length_cons, List.length_nil, List.length_append]; omega))) | ((with_reducible refine nthK.map ?_ ?_); · (first | omega | exact u8rng _ | (simp only [List.length_cons, List.length_nil, List.length_append]; omega))) | ((with_reducible refine nthK.any ?_ ?_); · (first | omega | exact u8rng _ | (simp only [List.length_cons, List.length_nil, List.length_append]; omega))) | refine geK.of rfl ?_ | ((with_reducible refine rowK.slot (List.ne_nil_of_length_pos ?_) ?_); · (first | omega | exact u8rng _ | (simp only [List.length_cons, List.length_nil, List.length_append]; omega))) | ((with_reducible refine ArU.ok ?_ ?_); · omega) | with_reducible refine ArU.of ?_ | with_reducible refine LnK.map ?_ | with_reducible refine LnK.lit rfl ?_ | with_reducible refine PcK.map0 ?_ | with_reducible refine PcK.mapT ?_ | with_reducible refine PcK.map ?_ | with_reducible refine CvK.map ?_ | with_reducible refine OpenK.of (by kernel_rfl) ?_ | refine EndW.of (by kernel_rfl) (by repeat' ((conv => whnf); first | exact trivial | with_reducible refine And.intro ?_ ?_ | exact rfl | refine MkA.same rfl ?_ | refine MkA.anc (by kernel_rfl) ?_)) ?_ | exact RetK.eq rfl (by with_reducible rfl) | refine RetM.eq rfl rfl rfl (by with_reducible rfl) ?_ | refine RetK.eq rfl ?_ | refine RetM.eq rfl rfl rfl ?_ ?_ | ((show RetM _ _ _ _); refine RetM.fx (by repeat' (first | exact FrzX.pure rfl | exact FrzX.nils | exact FrzX.slot (by first | exact Cel.str | exact Cel.byte | exact Cel.wdv) rfl rfl (by first | rfl | omega) | exact FrzX.rowA (by first | exact Cel.str | exact Cel.byte | exact Cel.wdv) rfl rfl (by first | rfl | omega) | apply FrzX.agg | apply FrzX.tup | exact FrzLX.nil | apply FrzLX.cons)) rfl rfl ?_ ?_) | ((show RetK _ _ _); refine RetK.fz (by repeat' (first | exact FrzE.pure (pureB_ok 9 _ rfl) | exact FrzE.slot (by first | exact Cel.str | exact Cel.byte | exact Cel.wdv) rfl (by first | rfl | omega) | exact FrzE.rowA (by first | exact Cel.str | exact Cel.byte | exact Cel.wdv) rfl (by first | rfl | omega) | refine FrzE.fn ?_ | refine FrzE.agg ?_ | refine FrzE.tup ?_ | refine FrzE.ptr1 rfl rfl rfl rfl rfl rfl ?_ | refine FrzE.ptrA rfl rfl rfl rfl ?_ | exact FrzLE.nil | refine FrzLE.cons ?_ ?_)) ?_))
  all_goals (try (conv => whnf))
  all_goals first
    | rfl
    | exact Nat.zero_le _
    | (exfalso; obtain ⟨q1, q2⟩ := chunk_all (b ++ r) i hl (by assumption); by_cases h8 : (parseC ((b ++ r).take i)).2.2 = 8; (have := q1 h8; omega); (have := q2 h8; omega))
    | (have hj : i ≤ (b ++ r).length := (by assumption); (refine BackK.of (i + 1) ?_ ?_ ?_ ?_ ?_ rfl; rotate_left; (focus (first | exact Nat.lt_succ_self _ | omega | (simp only [List.length_cons]; omega) | (simp_all; omega))); (focus (repeat' (first | exact trivial | refine And.intro rfl ?_))); (focus (repeat' (first | exact trivial | refine And.intro rfl ?_))); (focus (first | exact .refl _ | (repeat' (first | exact .nil | refine .same ?_ | refine .kill ?_)))); (focus (exact Nat.succ_le_succ hj))))
theorem Chunks2 (b r : Txt) (hb : b.length < 200000000000000) (hr : r.length < 200000000000000) (h0 : 120 < b.length) : Prim E 3 [Byt b, Byt r] (.val (.bool true)) := by
  refine Prim.ofX Tryd.func3 Tryd.ntmps3 rfl rfl ?_
  repeat' ((conv => whnf); first | with_reducible refine JoinK.go ?_ | (show OX _ _ _ _ _ _ _; first | refine OX.cp Awake rfl rfl ?_ | refine OX.ca Awake rfl rfl (by repeat' (first | exact FrzE.pure (pureB_ok 9 _ rfl) | exact FrzE.slot (by first | exact Cel.str | exact Cel.byte | exact Cel.wdv) rfl (by first | rfl | omega) | exact FrzE.rowA (by first | exact Cel.str | exact Cel.byte | exact Cel.wdv) rfl (by first | rfl | omega) | refine FrzE.fn ?_ | refine FrzE.agg ?_ | refine FrzE.tup ?_ | refine FrzE.ptr1 rfl rfl rfl rfl rfl rfl ?_ | refine FrzE.ptrA rfl rfl rfl rfl ?_ | exact FrzLE.nil | refine FrzLE.cons ?_ ?_)) ?_ | refine OX.rc (Rc.cvF (by repeat' (first | exact FrzE.pure (pureB_ok 9 _ rfl) | exact FrzE.slot (by first | exact Cel.str | exact Cel.byte | exact Cel.wdv) rfl (by first | rfl | omega) | exact FrzE.rowA (by first | exact Cel.str | exact Cel.byte | exact Cel.wdv) rfl (by first | rfl | omega) | refine FrzE.fn ?_ | refine FrzE.agg ?_ | refine FrzE.tup ?_ | refine FrzE.ptr1 rfl rfl rfl rfl rfl rfl ?_ | refine FrzE.ptrA rfl rfl rfl rfl ?_ | exact FrzLE.nil | refine FrzLE.cons ?_ ?_)) rfl rfl rfl) ?_) | with_reducible refine NilK.nil ?_ | ((with_reducible refine And.intro ?_ ?_); · first | (first | omega | exact u8rng _ | (simp only [List.length_cons, List.length_nil, List.length_append]; omega)) | exact Nat.le_of_ble_eq_true rfl) | (with_reducible refine bxN.dec (fun h => ?_) (fun h => ?_)) <;> (try (exfalso; omega)) <;> (try simp only [Int.natCast_inj, Int.ofNat_le, Int.ofNat_lt, u8i, Nat.reduceLT, UInt8.reduceOfNat, ne_eq, Decidable.not_not] at h) <;> (try simp only [il1, il2, il3, il4, il5] at h) <;> (try rw [if_pos h] at hr) <;> (try rw [if_neg h] at hr) | (with_reducible refine bxN.ndec (fun h => ?_) (fun h => ?_)) <;> (try (exfalso; omega)) <;> (try simp only [Int.natCast_inj, Int.ofNat_le, Int.ofNat_lt, u8i, Nat.reduceLT, UInt8.reduceOfNat, ne_eq, Decidable.not_not] at h) <;> (try simp only [il1, il2, il3, il4, il5] at h) <;> (try rw [if_pos h] at hr) <;> (try rw [if_neg h] at hr) | (with_reducible refine bxN.not (fun h => ?_) (fun h => ?_)) <;> (try simp only [h, reduceIte, Bool.false_eq_true] at hr) | (with_reducible refine bxN.split (fun h => ?_) (fun h => ?_)) <;> (try simp only [h, reduceIte, Bool.false_eq_true] at hr) | with_reducible refine natK.cast ?_ | with_reducible refine natK.lit ?_ | with_reducible refine natK.add ?_ | with_reducible refine natK.addl ?_ | ((with_reducible refine natK.pred ?_ ?_); · (first | omega | exact u8rng _ | (simp only [List.length_cons, List.length_nil, List.length_append]; omega))) | ((with_reducible refine natK.sub ?_ ?_); · (first | omega | exact u8rng _ | (simp only [List.length_cons, List.length_nil, List.length_append]; omega))) | ((with_reducible refine natK.nn ?_ ?_); · (first | omega | exact u8rng _ | (simp only [List.length_cons, List.length_nil, List.length_append]; omega))) | ((with_reducible refine nthK.map ?_ ?_); · (first | omega | exact u8rng _ | (simp only [List.length_cons, List.length_nil, List.length_append]; omega))) | ((with_reducible refine nthK.any ?_ ?_); · (first | omega | exact u8rng _ | (simp only [List.length_cons, List.length_nil, List.length_append]; omega))) | refine geK.of rfl ?_ | ((with_reducible refine rowK.slot (List.ne_nil_of_length_pos ?_) ?_); · (first | omega | exact u8rng _ | (simp only [List.length_cons, List.length_nil, List.length_append]; omega))) | ((with_reducible refine ArU.ok ?_ ?_); · omega) | with_reducible refine ArU.of ?_ | with_reducible refine LnK.map ?_ | with_reducible refine LnK.lit rfl ?_ | with_reducible refine PcK.map0 ?_ | with_reducible refine PcK.mapT ?_ | with_reducible refine PcK.map ?_ | with_reducible refine CvK.map ?_ | with_reducible refine OpenK.of (by kernel_rfl) ?_ | refine EndW.of (by kernel_rfl) (by repeat' ((conv => whnf); first | exact trivial | with_reducible refine And.intro ?_ ?_ | exact rfl | refine MkA.same rfl ?_ | refine MkA.anc (by kernel_rfl) ?_)) ?_ | exact RetK.eq rfl (by with_reducible rfl) | refine RetM.eq rfl rfl rfl (by with_reducible rfl) ?_ | refine RetK.eq rfl ?_ | refine RetM.eq rfl rfl rfl ?_ ?_ | ((show RetM _ _ _ _); refine RetM.fx (by repeat' (first | exact FrzX.pure rfl | exact FrzX.nils | exact FrzX.slot (by first | exact Cel.str | exact Cel.byte | exact Cel.wdv) rfl rfl (by first | rfl | omega) | exact FrzX.rowA (by first | exact Cel.str | exact Cel.byte | exact Cel.wdv) rfl rfl (by first | rfl | omega) | apply FrzX.agg | apply FrzX.tup | exact FrzLX.nil | apply FrzLX.cons)) rfl rfl ?_ ?_) | ((show RetK _ _ _); refine RetK.fz (by repeat' (first | exact FrzE.pure (pureB_ok 9 _ rfl) | exact FrzE.slot (by first | exact Cel.str | exact Cel.byte | exact Cel.wdv) rfl (by first | rfl | omega) | exact FrzE.rowA (by first | exact Cel.str | exact Cel.byte | exact Cel.wdv) rfl (by first | rfl | omega) | refine FrzE.fn ?_ | refine FrzE.agg ?_ | refine FrzE.tup ?_ | refine FrzE.ptr1 rfl rfl rfl rfl rfl rfl ?_ | refine FrzE.ptrA rfl rfl rfl rfl ?_ | exact FrzLE.nil | refine FrzLE.cons ?_ ?_)) ?_))
  all_goals (try (conv => whnf))
  all_goals first
    | rfl
    | (exfalso; omega)
    | skip
theorem Chunks3 (b r : Txt) (hb : b.length < 200000000000000) (hr : r.length < 200000000000000) (h0 : ¬120 < b.length) (h1 : 120 < r.length) : Prim E 3 [Byt b, Byt r] (.val (.bool true)) := by
  refine Prim.ofX Tryd.func3 Tryd.ntmps3 rfl rfl ?_
  repeat' ((conv => whnf); first | with_reducible refine JoinK.go ?_ | (show OX _ _ _ _ _ _ _; first | refine OX.cp Awake rfl rfl ?_ | refine OX.ca Awake rfl rfl (by repeat' (first | exact FrzE.pure (pureB_ok 9 _ rfl) | exact FrzE.slot (by first | exact Cel.str | exact Cel.byte | exact Cel.wdv) rfl (by first | rfl | omega) | exact FrzE.rowA (by first | exact Cel.str | exact Cel.byte | exact Cel.wdv) rfl (by first | rfl | omega) | refine FrzE.fn ?_ | refine FrzE.agg ?_ | refine FrzE.tup ?_ | refine FrzE.ptr1 rfl rfl rfl rfl rfl rfl ?_ | refine FrzE.ptrA rfl rfl rfl rfl ?_ | exact FrzLE.nil | refine FrzLE.cons ?_ ?_)) ?_ | refine OX.rc (Rc.cvF (by repeat' (first | exact FrzE.pure (pureB_ok 9 _ rfl) | exact FrzE.slot (by first | exact Cel.str | exact Cel.byte | exact Cel.wdv) rfl (by first | rfl | omega) | exact FrzE.rowA (by first | exact Cel.str | exact Cel.byte | exact Cel.wdv) rfl (by first | rfl | omega) | refine FrzE.fn ?_ | refine FrzE.agg ?_ | refine FrzE.tup ?_ | refine FrzE.ptr1 rfl rfl rfl rfl rfl rfl ?_ | refine FrzE.ptrA rfl rfl rfl rfl ?_ | exact FrzLE.nil | refine FrzLE.cons ?_ ?_)) rfl rfl rfl) ?_) | with_reducible refine NilK.nil ?_ | ((with_reducible refine And.intro ?_ ?_); · first | (first | omega | exact u8rng _ | (simp only [List.length_cons, List.length_nil, List.length_append]; omega)) | exact Nat.le_of_ble_eq_true rfl) | (with_reducible refine bxN.dec (fun h => ?_) (fun h => ?_)) <;> (try (exfalso; omega)) <;> (try simp only [Int.natCast_inj, Int.ofNat_le, Int.ofNat_lt, u8i, Nat.reduceLT, UInt8.reduceOfNat, ne_eq, Decidable.not_not] at h) <;> (try simp only [il1, il2, il3, il4, il5] at h) <;> (try rw [if_pos h] at hr) <;> (try rw [if_neg h] at hr) | (with_reducible refine bxN.ndec (fun h => ?_) (fun h => ?_)) <;> (try (exfalso; omega)) <;> (try simp only [Int.natCast_inj, Int.ofNat_le, Int.ofNat_lt, u8i, Nat.reduceLT, UInt8.reduceOfNat, ne_eq, Decidable.not_not] at h) <;> (try simp only [il1, il2, il3, il4, il5] at h) <;> (try rw [if_pos h] at hr) <;> (try rw [if_neg h] at hr) | (with_reducible refine bxN.not (fun h => ?_) (fun h => ?_)) <;> (try simp only [h, reduceIte, Bool.false_eq_true] at hr) | (with_reducible refine bxN.split (fun h => ?_) (fun h => ?_)) <;> (try simp only [h, reduceIte, Bool.false_eq_true] at hr) | with_reducible refine natK.cast ?_ | with_reducible refine natK.lit ?_ | with_reducible refine natK.add ?_ | with_reducible refine natK.addl ?_ | ((with_reducible refine natK.pred ?_ ?_); · (first | omega | exact u8rng _ | (simp only [List.length_cons, List.length_nil, List.length_append]; omega))) | ((with_reducible refine natK.sub ?_ ?_); · (first | omega | exact u8rng _ | (simp only [List.length_cons, List.length_nil, List.length_append]; omega))) | ((with_reducible refine natK.nn ?_ ?_); · (first | omega | exact u8rng _ | (simp only [List.length_cons, List.length_nil, List.length_append]; omega))) | ((with_reducible refine nthK.map ?_ ?_); · (first | omega | exact u8rng _ | (simp only [List.length_cons, List.length_nil, List.length_append]; omega))) | ((with_reducible refine nthK.any ?_ ?_); · (first | omega | exact u8rng _ | (simp only [List.length_cons, List.length_nil, List.length_append]; omega))) | refine geK.of rfl ?_ | ((with_reducible refine rowK.slot (List.ne_nil_of_length_pos ?_) ?_); · (first | omega | exact u8rng _ | (simp only [List.length_cons, List.length_nil, List.length_append]; omega))) | ((with_reducible refine ArU.ok ?_ ?_); · omega) | with_reducible refine ArU.of ?_ | with_reducible refine LnK.map ?_ | with_reducible refine LnK.lit rfl ?_ | with_reducible refine PcK.map0 ?_ | with_reducible refine PcK.mapT ?_ | with_reducible refine PcK.map ?_ | with_reducible refine CvK.map ?_ | with_reducible refine OpenK.of (by kernel_rfl) ?_ | refine EndW.of (by kernel_rfl) (by repeat' ((conv => whnf); first | exact trivial | with_reducible refine And.intro ?_ ?_ | exact rfl | refine MkA.same rfl ?_ | refine MkA.anc (by kernel_rfl) ?_)) ?_ | exact RetK.eq rfl (by with_reducible rfl) | refine RetM.eq rfl rfl rfl (by with_reducible rfl) ?_ | refine RetK.eq rfl ?_ | refine RetM.eq rfl rfl rfl ?_ ?_ | ((show RetM _ _ _ _); refine RetM.fx (by repeat' (first | exact FrzX.pure rfl | exact FrzX.nils | exact FrzX.slot (by first | exact Cel.str | exact Cel.byte | exact Cel.wdv) rfl rfl (by first | rfl | omega) | exact FrzX.rowA (by first | exact Cel.str | exact Cel.byte | exact Cel.wdv) rfl rfl (by first | rfl | omega) | apply FrzX.agg | apply FrzX.tup | exact FrzLX.nil | apply FrzLX.cons)) rfl rfl ?_ ?_) | ((show RetK _ _ _); refine RetK.fz (by repeat' (first | exact FrzE.pure (pureB_ok 9 _ rfl) | exact FrzE.slot (by first | exact Cel.str | exact Cel.byte | exact Cel.wdv) rfl (by first | rfl | omega) | exact FrzE.rowA (by first | exact Cel.str | exact Cel.byte | exact Cel.wdv) rfl (by first | rfl | omega) | refine FrzE.fn ?_ | refine FrzE.agg ?_ | refine FrzE.tup ?_ | refine FrzE.ptr1 rfl rfl rfl rfl rfl rfl ?_ | refine FrzE.ptrA rfl rfl rfl rfl ?_ | exact FrzLE.nil | refine FrzLE.cons ?_ ?_)) ?_))
  all_goals (try (conv => whnf))
  all_goals first
    | rfl
    | (exfalso; omega)
    | skip
/-- CmdChunks. -/
theorem Chunks (b : Txt) (W0 : b.length ≤ reachBytes ∧ ∀ y ∈ b, True) (r : Txt) (W1 : r.length ≤ reachBytes ∧ ∀ y ∈ r, True) : Prim E 3 [Byt b, Byt r] (.val (.bool true)) := by
  by_cases hb : 120 < b.length
  · exact Chunks2 b r (by have := W0.1; unfold reachBytes at this; omega) (by have := W1.1; unfold reachBytes at this; omega) hb
  · by_cases hr : 120 < r.length
    · exact Chunks3 b r (by have := W0.1; unfold reachBytes at this; omega) (by have := W1.1; unfold reachBytes at this; omega) hb hr
    · exact Chunks1 b r hb hr
end Go.Proofs.YtcanagkflbbmaaaDoor.L
