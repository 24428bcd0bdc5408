/- Commands: a name's letters may be small or capital: the law. -/
import Derived.Test.YtcanagkflbbmaaaDoorLCmd16
import Derived.Test.YtcanagkflbbmaaaDoorLCmdN
import Derived.Test.YtcanagkflbbmaaaDoorLCmd13
set_option linter.unusedVariables false
set_option linter.unusedSimpArgs false
set_option maxRecDepth 100000
set_option maxHeartbeats 8000000
namespace Go.Proofs.YtcanagkflbbmaaaDoor.L
open Go Go.Proofs Go.Dev Go.RowKit
theorem WordP (t : Txt) (hl : t.length < 1000000) : Prim E 22 [.agg [Str t, .bool false, .imm 4 [], .bool false]] (.val (Str t)) := by
  refine Prim.ofX Tryd.func22 Tryd.ntmps22 rfl rfl ?_
  repeat' ((conv => whnf); first | with_reducible refine JoinK.go ?_ | (show OX _ _ _ _ _ _ _; first | refine OX.rc (Rc.cvF (by repeat' (first | exact FrzE.pure (pureB_ok 9 _ rfl) | exact FrzE.slot (by first | exact Cel.str | exact Cel.byte | exact Cel.wdv) rfl (by first | rfl | omega) | exact FrzE.rowA (by first | exact Cel.str | exact Cel.byte | exact Cel.wdv) rfl (by first | rfl | omega) | refine FrzE.fn ?_ | refine FrzE.agg ?_ | refine FrzE.tup ?_ | refine FrzE.ptr1 rfl rfl rfl rfl rfl rfl ?_ | refine FrzE.ptrA rfl rfl rfl rfl ?_ | exact FrzLE.nil | refine FrzLE.cons ?_ ?_)) rfl rfl rfl) ?_) | with_reducible refine NilK.nil ?_ | ((with_reducible refine And.intro ?_ ?_); · first | (first | omega | exact u8rng _ | (simp only [List.length_cons, List.length_nil, List.length_append]; omega)) | exact Nat.le_of_ble_eq_true rfl) | (with_reducible refine bxN.dec (fun h => ?_) (fun h => ?_)) <;> (try (exfalso; omega)) <;> (try simp only [Int.natCast_inj, Int.ofNat_le, Int.ofNat_lt, u8i, Nat.reduceLT, UInt8.reduceOfNat, ne_eq, Decidable.not_not] at h) <;> (try simp only [il1, il2, il3, il4, il5] at h) <;> (try rw [if_pos h] at hr) <;> (try rw [if_neg h] at hr) | (with_reducible refine bxN.ndec (fun h => ?_) (fun h => ?_)) <;> (try (exfalso; omega)) <;> (try simp only [Int.natCast_inj, Int.ofNat_le, Int.ofNat_lt, u8i, Nat.reduceLT, UInt8.reduceOfNat, ne_eq, Decidable.not_not] at h) <;> (try simp only [il1, il2, il3, il4, il5] at h) <;> (try rw [if_pos h] at hr) <;> (try rw [if_neg h] at hr) | (with_reducible refine bxN.not (fun h => ?_) (fun h => ?_)) <;> (try simp only [h, reduceIte, Bool.false_eq_true] at hr) | (with_reducible refine bxN.split (fun h => ?_) (fun h => ?_)) <;> (try simp only [h, reduceIte, Bool.false_eq_true] at hr) | with_reducible refine natK.cast ?_ | with_reducible refine natK.lit ?_ | with_reducible refine natK.add ?_ | with_reducible refine natK.addl ?_ | ((with_reducible refine natK.pred ?_ ?_); · (first | omega | exact u8rng _ | (simp only [List.length_cons, List.length_nil, List.length_append]; omega))) | ((with_reducible refine natK.sub ?_ ?_); · (first | omega | exact u8rng _ | (simp only [List.length_cons, List.length_nil, List.length_append]; omega))) | ((with_reducible refine natK.nn ?_ ?_); · (first | omega | exact u8rng _ | (simp only [List.length_cons, List.length_nil, List.length_append]; omega))) | ((with_reducible refine nthK.map ?_ ?_); · (first | omega | exact u8rng _ | (simp only [List.length_cons, List.length_nil, List.length_append]; omega))) | ((with_reducible refine nthK.any ?_ ?_); · (first | omega | exact u8rng _ | (simp only [List.length_cons, List.length_nil, List.length_append]; omega))) | refine geK.of rfl ?_ | ((with_reducible refine rowK.slot (List.ne_nil_of_length_pos ?_) ?_); · (first | omega | exact u8rng _ | (simp only [List.length_cons, List.length_nil, List.length_append]; omega))) | ((with_reducible refine ArU.ok ?_ ?_); · omega) | with_reducible refine ArU.of ?_ | with_reducible refine LnK.map ?_ | with_reducible refine LnK.lit rfl ?_ | with_reducible refine PcK.map0 ?_ | with_reducible refine PcK.mapT ?_ | with_reducible refine PcK.map ?_ | with_reducible refine CvK.map ?_ | with_reducible refine OpenK.of (by kernel_rfl) ?_ | refine EndW.of (by kernel_rfl) (by repeat' ((conv => whnf); first | exact trivial | with_reducible refine And.intro ?_ ?_ | exact rfl | refine MkA.same rfl ?_ | refine MkA.anc (by kernel_rfl) ?_)) ?_ | exact RetK.eq rfl (by with_reducible rfl) | refine RetM.eq rfl rfl rfl (by with_reducible rfl) ?_ | refine RetK.eq rfl ?_ | refine RetM.eq rfl rfl rfl ?_ ?_ | ((show RetM _ _ _ _); refine RetM.fx (by repeat' (first | exact FrzX.pure rfl | exact FrzX.nils | exact FrzX.slot (by first | exact Cel.str | exact Cel.byte | exact Cel.wdv) rfl rfl (by first | rfl | omega) | exact FrzX.rowA (by first | exact Cel.str | exact Cel.byte | exact Cel.wdv) rfl rfl (by first | rfl | omega) | apply FrzX.agg | apply FrzX.tup | exact FrzLX.nil | apply FrzLX.cons)) rfl rfl ?_ ?_) | ((show RetK _ _ _); refine RetK.fz (by repeat' (first | exact FrzE.pure (pureB_ok 9 _ rfl) | exact FrzE.slot (by first | exact Cel.str | exact Cel.byte | exact Cel.wdv) rfl (by first | rfl | omega) | exact FrzE.rowA (by first | exact Cel.str | exact Cel.byte | exact Cel.wdv) rfl (by first | rfl | omega) | refine FrzE.fn ?_ | refine FrzE.agg ?_ | refine FrzE.tup ?_ | refine FrzE.ptr1 rfl rfl rfl rfl rfl rfl ?_ | refine FrzE.ptrA rfl rfl rfl rfl ?_ | exact FrzLE.nil | refine FrzLE.cons ?_ ?_)) ?_))
  all_goals (try (conv => whnf))
  all_goals first
    | rfl
    | skip
theorem SameA (A B : List Word) (hA : A.length < 1000000) (hB : B.length < 1000000) (fA : ∀ w ∈ A, Fits w) (fB : ∀ w ∈ B, Fits w) : Prim E 23 [.agg [Str [], .bool false, .imm 4 (A.map wdv), .bool false], .agg [Str [], .bool false, .imm 4 (B.map wdv), .bool false]] (.val (.bool (weq (.mk [] false A false) (.mk [] false B false)))) := by
  have := Same _ (.mk [] false A false) (.mk [] false B false) (Nat.le_refl _) (.mk _ _ _ _ hA (by decide) fA) (.mk _ _ _ _ hB (by decide) fB)
  rw [wdv_mk, wdv_mk] at this
  exact this
/-- A command of plain words that is written. -/
theorem ShowN (nm : Txt) (hn : nm.length < 1000) : Prim E 14 [.agg [Str [116], Str nm, .imm 4 [.agg [Str [120], .bool false, .imm 4 [], .bool false]]]] (.val (Str (showC Word.text ⟨[116], nm, [.mk [120] false [] false]⟩))) := by
  have hl : (showT Word.text ⟨[116], nm, [.mk [120] false [] false]⟩).length = nm.length + 6 := by
    simp [showT, shT, Word.text]
  have hp := parse_fits (b := showT Word.text ⟨[116], nm, [.mk [120] false [] false]⟩) (by omega)
  have := ShowG Word.text ⟨[116], nm, [.mk [120] false [] false]⟩ (by simp) (by omega) (fun w hw => by
    have hw' : w = .mk [120] false [] false := List.mem_singleton.1 hw
    rw [hw', wdv_mk]
    exact WordP [120] (by decide)) (SameA _ _ hp.2 (by simp) hp.1 (fun w hw => by
    have hw' : w = .mk [120] false [] false := List.mem_singleton.1 hw
    rw [hw']
    exact fits_t (by decide)))
  simpa only [cdv, List.map_cons, List.map_nil, wdv_mk] using this
def low (c : UInt8) : Bool := decide (97 ≤ c.toNat) && decide (c.toNat ≤ 122)
theorem low_t {c : UInt8} (h : low c = true) : 97 ≤ c.toNat ∧ c.toNat ≤ 122 := by simpa [low] using h
theorem upper_low {c : UInt8} (h : low c = true) : upper c = c - 32 := up_yes (low_t h).1 (low_t h).2
theorem upper_up {c : UInt8} (h : low c = true) : upper (upper c) = upper c ∧ (upper c).toNat = c.toNat - 32 := by
  obtain ⟨h1, h2⟩ := low_t h
  rw [upper_low h]
  have h3 : (c - 32).toNat = c.toNat - 32 := by
    rw [UInt8.toNat_sub_of_le _ _ (UInt8.le_iff_toNat_le.2 (by show 32 ≤ c.toNat; omega))]
    rfl
  exact ⟨if_neg (by omega), h3⟩
theorem noPlain_mem {c : UInt8} (h : 65 ≤ c.toNat) (h2 : c.toNat ≤ 122) : c ∉ noPlain := by
  intro hm
  simp [noPlain] at hm
  rcases hm with rfl | rfl | rfl | rfl <;> revert h h2 <;> decide
theorem index_no : ∀ (l : Txt) (c : UInt8), c ∉ l → Lib.indexByte l c < 0
  | [], c, _ => by show (-1 : Int) < 0; decide
  | b :: l, c, h => by
    have ih := index_no l c (fun hm => h (List.mem_cons_of_mem _ hm))
    have g := Lib.indexByte_ge l c
    unfold Lib.indexByte
    rw [if_neg (by simp; intro e; exact h (by rw [e]; exact List.mem_cons_self ..)), if_pos (by simp; omega)]
    decide
theorem vis_let {c : UInt8} (h : 65 ≤ c.toNat) (h2 : c.toNat ≤ 122) : vis noPlain c = true := by
  unfold vis
  simp only [Bool.and_eq_true, decide_eq_true_eq]
  exact ⟨⟨by omega, by omega⟩, index_no _ _ (noPlain_mem h h2)⟩
theorem vis_low {s : Txt} (h : s.all low = true) : ∀ c ∈ s, vis noPlain c = true ∧ c ≠ 91 := fun c hc => by
  obtain ⟨h1, h2⟩ := low_t (List.all_eq_true.1 h c hc)
  exact ⟨vis_let (by omega) h2, fun e => by subst e; revert h1; decide⟩
theorem vis_up {s : Txt} (h : s.all low = true) : ∀ c ∈ s.map upper, vis noPlain c = true ∧ c ≠ 91 := fun c hc => by
  obtain ⟨d, hd, rfl⟩ := List.mem_map.1 hc
  have hl := List.all_eq_true.1 h d hd
  obtain ⟨h1, h2⟩ := low_t hl
  have h3 := (upper_up hl).2
  exact ⟨vis_let (by omega) (by omega), fun e => by rw [e] at h3; have : (91 : UInt8).toNat = 91 := rfl; omega⟩
theorem map_up {s : Txt} (h : s.all low = true) : (s.map upper).map upper = s.map upper := by
  rw [List.map_map]
  exact List.map_congr_left fun c hc => (upper_up (List.all_eq_true.1 h c hc)).1
/-- A command with that name. -/
theorem NameP (s m nm : Txt) (h1 : s ≠ []) (hl : s.length ≤ 30) (hs : s.all low = true) (hm : m = s ∨ m = s.map upper) (hn : nm = s.map upper) (x : Txt) (hx : x = [116, 32] ++ m ++ [32, 120, 13, 10]) : Prim E 10 [Byt x] (.val (.tup [.agg [Str [116], Str nm, .imm 4 [.agg [Str [120], .bool false, .imm 4 [], .bool false]]], .int .i64 ((s.length : Int) + 6), .int .i64 0])) := by
  have hml : m.length = s.length := by rcases hm with rfl | rfl <;> simp
  have hp : parseC x = ((⟨[116], nm, [.mk [120] false [] false]⟩ : Cmd), ((s.length : Int) + 6), (0 : Int)) := by
    rw [hx, name_parse m (by intro e; rw [e] at hml; exact h1 (List.eq_nil_of_length_eq_zero hml.symm)) (by omega) (by rcases hm with rfl | rfl <;> first | exact vis_low hs | exact vis_up hs), hml]
    rcases hm with rfl | rfl
    · rw [hn]
    · rw [hn, map_up hs]
  have := Parse x (by rw [hx]; simp; omega)
  rw [hp] at this
  simpa only [cdv, List.map_cons, List.map_nil, wdv_mk] using this
theorem W00 : Prim E 15 [.imm 4 []] (.val (.imm 4 [])) := Words1 [] (by decide) (fun w h => by cases h)
theorem up_int2' {c : UInt8} (h : 97 ≤ c.toNat) : (c.toNat : Int) - 32 = ((c - 32).toNat : Int) := by
  rw [UInt8.toNat_sub_of_le _ _ (UInt8.le_iff_toNat_le.2 (by show 32 ≤ c.toNat; omega))]
  show (c.toNat : Int) - 32 = ((c.toNat - 32 : Nat) : Int)
  omega
theorem low_step {s : Txt} {i : Nat} (h : i < s.length) (ha : (s.take i).all low = true) (h1 : ¬s[i].toNat < 97) (h2 : ¬122 < s[i].toNat) : (s.take (i + 1)).all low = true := all_take low s h ha (by simp [low]; omega)
theorem low_end {s : Txt} {i : Nat} (h : ¬i < s.length) (ha : (s.take i).all low = true) : s.all low = true := by
  rwa [List.take_of_length_le (by omega)] at ha
theorem low_at {s m : Txt} {i : Nat} (hs : s.all low = true) (hm : m = (s.take i).map upper ++ s.drop i) (hi : i < s.length) (h : i < m.length) : low m[i] = true := by
  rw [up_at hi hm h]
  exact List.all_eq_true.1 hs _ (List.getElem_mem _)
theorem wrap32 {c : UInt8} (h : low c = true) : IntKind.u8.wrap ((c.toNat : Int) - 32) = ((c - 32).toNat : Int) := by
  obtain ⟨h1, h2⟩ := low_t h
  rw [← up_int2' (by omega)]
  show ((c.toNat : Int) - 32) % 256 = _
  omega
theorem up_end {s m : Txt} {i : Nat} (hm : m = (s.take i).map upper ++ s.drop i) (hi : ¬i < s.length) : m = s.map upper := by
  rw [hm, List.take_of_length_le (by omega), List.drop_eq_nil_of_le (by omega), List.append_nil]
theorem Names1 (s : Txt) (h0 : 1 ≤ s.length) (h30 : s.length ≤ 30) : Prim E 6 [Str s] (.val (.bool true)) := by
  have hne : s ≠ [] := by intro e; rw [e] at h0; simp at h0
  refine Prim.ofX Tryd.func6 Tryd.ntmps6 rfl rfl ?_
  repeat' ((conv => whnf); first | ((with_reducible refine lsetB (m[i] - 32) (wrap32 (low_at hall hm (by assumption) (by omega))) ?_)) | ((first | (show LoopK _ _ (.seq (.region 6 _ _) _) _ _ _ _) | (show LoopK _ _ (.seq (.seq (.region 6 _ _) _) _) _ _ _ _) | (show LoopK _ _ (.region 6 _ _) _ _ _ _) | (show LoopK _ _ (.block _ (.seq (.region 6 _ _) _)) _ _ _ _) | (show LoopK _ _ (.seq (.block _ (.seq (.region 6 _ _) _)) _) _ _ _ _) | (show LoopK _ _ (.block _ (.seq (.block _ (.seq (.region 6 _ _) _)) _)) _ _ _ _) | (show LoopK _ _ (.scope (.seq (.region 6 _ _) _)) _ _ _ _) | (show LoopK _ _ (.scope (.block _ (.seq (.region 6 _ _) _))) _ _ _ _)); (refine LoopK.forU [0] (fun (i : Nat) => i ≤ s.length ∧ (s.take i).all low = true) (fun (i : Nat) => [(3, .int .i64 i)]) (fun H => fun (i : Nat) => H) (fun (i : Nat) => s.length - i) (0) ?_; (conv => whnf); refine ForU.of ?_ (by repeat' (first | exact trivial | refine And.intro rfl ?_)) (by first | exact .refl _ | (repeat' (first | exact .nil | refine .same ?_ | refine .kill ?_))) ?_; rotate_left; rintro i ⟨hi, ha⟩)) | ((first | (show LoopK _ _ (.seq (.region 12 _ _) _) _ _ _ _) | (show LoopK _ _ (.seq (.seq (.region 12 _ _) _) _) _ _ _ _) | (show LoopK _ _ (.region 12 _ _) _ _ _ _) | (show LoopK _ _ (.block _ (.seq (.region 12 _ _) _)) _ _ _ _) | (show LoopK _ _ (.seq (.block _ (.seq (.region 12 _ _) _)) _) _ _ _ _) | (show LoopK _ _ (.block _ (.seq (.block _ (.seq (.region 12 _ _) _)) _)) _ _ _ _) | (show LoopK _ _ (.scope (.seq (.region 12 _ _) _)) _ _ _ _) | (show LoopK _ _ (.scope (.block _ (.seq (.region 12 _ _) _))) _ _ _ _)); (refine LoopK.forU [0, 2, 4] (fun (⟨i, m⟩ : Nat × Txt) => i ≤ s.length ∧ m = (s.take i).map upper ++ s.drop i) (fun (⟨i, m⟩ : Nat × Txt) => [(5, .int .i64 i)]) (fun H => fun (⟨i, m⟩ : Nat × Txt) => [.row ⟨m.map byteDV, 1, 0, false, some 5⟩]) (fun (⟨i, m⟩ : Nat × Txt) => s.length - i) ((0, s)) ?_; (conv => whnf); refine ForU.of ?_ (by repeat' (first | exact trivial | refine And.intro rfl ?_)) (by first | exact .refl _ | (repeat' (first | exact .nil | refine .same ?_ | refine .kill ?_))) ?_; rotate_left; rintro ⟨i, m⟩ ⟨hi, hm⟩; have hml : m.length = s.length := (by subst hm; simp; omega); have hall := low_end (by assumption) ha)) | with_reducible refine JoinK.go ?_ | (show OX _ _ _ _ _ _ _; first | refine OX.cp Awake rfl rfl ?_ | refine OX.ca Awake rfl rfl (by repeat' (first | exact FrzE.pure (pureB_ok 9 _ rfl) | exact FrzE.slot (by first | exact Cel.str | exact Cel.byte | exact Cel.wdv) rfl (by first | rfl | omega) | exact FrzE.rowA (by first | exact Cel.str | exact Cel.byte | exact Cel.wdv) rfl (by first | rfl | omega) | refine FrzE.fn ?_ | refine FrzE.agg ?_ | refine FrzE.tup ?_ | refine FrzE.ptr1 rfl rfl rfl rfl rfl rfl ?_ | refine FrzE.ptrA rfl rfl rfl rfl ?_ | exact FrzLE.nil | refine FrzLE.cons ?_ ?_)) ?_ | refine OX.cp (NameP s m (s.map upper) hne h30 hall (.inr (up_end hm (by assumption))) rfl _ rfl) rfl rfl ?_ | refine OX.ca (NameP s m (s.map upper) hne h30 hall (.inr (up_end hm (by assumption))) rfl _ rfl) rfl rfl (by repeat' (first | exact FrzE.pure (pureB_ok 9 _ rfl) | exact FrzE.slot (by first | exact Cel.str | exact Cel.byte | exact Cel.wdv) rfl (by first | rfl | omega) | exact FrzE.rowA (by first | exact Cel.str | exact Cel.byte | exact Cel.wdv) rfl (by first | rfl | omega) | refine FrzE.fn ?_ | refine FrzE.agg ?_ | refine FrzE.tup ?_ | refine FrzE.ptr1 rfl rfl rfl rfl rfl rfl ?_ | refine FrzE.ptrA rfl rfl rfl rfl ?_ | exact FrzLE.nil | refine FrzLE.cons ?_ ?_)) ?_ | refine OX.cp (NameP s s (s.map upper) hne h30 hall (.inl rfl) rfl _ rfl) rfl rfl ?_ | refine OX.ca (NameP s s (s.map upper) hne h30 hall (.inl rfl) rfl _ rfl) rfl rfl (by repeat' (first | exact FrzE.pure (pureB_ok 9 _ rfl) | exact FrzE.slot (by first | exact Cel.str | exact Cel.byte | exact Cel.wdv) rfl (by first | rfl | omega) | exact FrzE.rowA (by first | exact Cel.str | exact Cel.byte | exact Cel.wdv) rfl (by first | rfl | omega) | refine FrzE.fn ?_ | refine FrzE.agg ?_ | refine FrzE.tup ?_ | refine FrzE.ptr1 rfl rfl rfl rfl rfl rfl ?_ | refine FrzE.ptrA rfl rfl rfl rfl ?_ | exact FrzLE.nil | refine FrzLE.cons ?_ ?_)) ?_ | refine OX.cp (ShowN (s.map upper) (by simp; omega)) rfl rfl ?_ | refine OX.ca (ShowN (s.map upper) (by simp; omega)) rfl rfl (by repeat' (first | exact FrzE.pure (pureB_ok 9 _ rfl) | exact FrzE.slot (by first | exact Cel.str | exact Cel.byte | exact Cel.wdv) rfl (by first | rfl | omega) | exact FrzE.rowA (by first | exact Cel.str | exact Cel.byte | exact Cel.wdv) rfl (by first | rfl | omega) | refine FrzE.fn ?_ | refine FrzE.agg ?_ | refine FrzE.tup ?_ | refine FrzE.ptr1 rfl rfl rfl rfl rfl rfl ?_ | refine FrzE.ptrA rfl rfl rfl rfl ?_ | exact FrzLE.nil | refine FrzLE.cons ?_ ?_)) ?_ | refine OX.cw W00 rfl (by repeat' (first | exact FrzL.nil | apply FrzL.cons (Frz.pure (pureB_ok 9 _ rfl)) | apply FrzL.cons (Frz.row0 rfl) | apply FrzL.cons (Frz.rowB (by first | exact Cel.str | exact Cel.byte | exact Cel.wdv) rfl rfl) | apply FrzL.cons (Frz.rowT (by first | exact Cel.str | exact Cel.byte | exact Cel.wdv) rfl (by first | simp; done | omega | (simp; omega)) (by first | rfl | exact (List.take_of_length_le (Nat.le_refl _)).symm | (simp; done))))) ?_ | refine OX.rc (Rc.cvF (by repeat' (first | exact FrzE.pure (pureB_ok 9 _ rfl) | exact FrzE.slot (by first | exact Cel.str | exact Cel.byte | exact Cel.wdv) rfl (by first | rfl | omega) | exact FrzE.rowA (by first | exact Cel.str | exact Cel.byte | exact Cel.wdv) rfl (by first | rfl | omega) | refine FrzE.fn ?_ | refine FrzE.agg ?_ | refine FrzE.tup ?_ | refine FrzE.ptr1 rfl rfl rfl rfl rfl rfl ?_ | refine FrzE.ptrA rfl rfl rfl rfl ?_ | exact FrzLE.nil | refine FrzLE.cons ?_ ?_)) rfl rfl rfl) ?_) | with_reducible refine NilK.nil ?_ | ((with_reducible refine And.intro ?_ ?_); · first | (first | omega | exact u8rng _ | (simp only [List.length_cons, List.length_nil, List.length_append]; omega)) | exact Nat.le_of_ble_eq_true rfl) | (with_reducible refine bxN.dec (fun h => ?_) (fun h => ?_)) <;> (try (exfalso; omega)) <;> (try simp only [Int.natCast_inj, Int.ofNat_le, Int.ofNat_lt, u8i, Nat.reduceLT, UInt8.reduceOfNat, ne_eq, Decidable.not_not] at h) <;> (try simp only [il1, il2, il3, il4, il5] at h) <;> (try rw [if_pos h] at hr) <;> (try rw [if_neg h] at hr) | (with_reducible refine bxN.ndec (fun h => ?_) (fun h => ?_)) <;> (try (exfalso; omega)) <;> (try simp only [Int.natCast_inj, Int.ofNat_le, Int.ofNat_lt, u8i, Nat.reduceLT, UInt8.reduceOfNat, ne_eq, Decidable.not_not] at h) <;> (try simp only [il1, il2, il3, il4, il5] at h) <;> (try rw [if_pos h] at hr) <;> (try rw [if_neg h] at hr) | (with_reducible refine bxN.not (fun h => ?_) (fun h => ?_)) <;> (try simp only [h, reduceIte, Bool.false_eq_true] at hr) | (with_reducible refine bxN.split (fun h => ?_) (fun h => ?_)) <;> (try simp only [h, reduceIte, Bool.false_eq_true] at hr) | with_reducible refine natK.cast ?_ | with_reducible refine natK.lit ?_ | with_reducible refine natK.add ?_ | with_reducible refine natK.addl ?_ | ((with_reducible refine natK.pred ?_ ?_); · (first | omega | exact u8rng _ | (simp only [List.length_cons, List.length_nil, List.length_append]; omega))) | ((with_reducible refine natK.sub ?_ ?_); · (first | omega | exact u8rng _ | (simp only [List.length_cons, List.length_nil, List.length_append]; omega))) | ((with_reducible refine natK.nn ?_ ?_); · (first | omega | exact u8rng _ | (simp only [List.length_cons, List.length_nil, List.length_append]; omega))) | ((with_reducible refine nthK.map ?_ ?_); · (first | omega | exact u8rng _ | (simp only [List.length_cons, List.length_nil, List.length_append]; omega))) | ((with_reducible refine nthK.any ?_ ?_); · (first | omega | exact u8rng _ | (simp only [List.length_cons, List.length_nil, List.length_append]; omega))) | refine geK.of rfl ?_ | ((with_reducible refine rowK.slot (List.ne_nil_of_length_pos ?_) ?_); · (first | omega | exact u8rng _ | (simp only [List.length_cons, List.length_nil, List.length_append]; omega))) | ((with_reducible refine ArU.ok ?_ ?_); · omega) | with_reducible refine ArU.of ?_ | with_reducible refine LnK.map ?_ | with_reducible refine LnK.lit rfl ?_ | with_reducible refine PcK.map0 ?_ | with_reducible refine PcK.mapT ?_ | with_reducible refine PcK.map ?_ | with_reducible refine CvK.map ?_ | with_reducible refine OpenK.of (by kernel_rfl) ?_ | refine EndW.of (by kernel_rfl) (by repeat' ((conv => whnf); first | exact trivial | with_reducible refine And.intro ?_ ?_ | exact rfl | refine MkA.same rfl ?_ | refine MkA.anc (by kernel_rfl) ?_)) ?_ | exact RetK.eq rfl (by with_reducible rfl) | refine RetM.eq rfl rfl rfl (by with_reducible rfl) ?_ | refine RetK.eq rfl ?_ | refine RetM.eq rfl rfl rfl ?_ ?_ | ((show RetM _ _ _ _); refine RetM.fx (by repeat' (first | exact FrzX.pure rfl | exact FrzX.nils | exact FrzX.slot (by first | exact Cel.str | exact Cel.byte | exact Cel.wdv) rfl rfl (by first | rfl | omega) | exact FrzX.rowA (by first | exact Cel.str | exact Cel.byte | exact Cel.wdv) rfl rfl (by first | rfl | omega) | apply FrzX.agg | apply FrzX.tup | exact FrzLX.nil | apply FrzLX.cons)) rfl rfl ?_ ?_) | ((show RetK _ _ _); refine RetK.fz (by repeat' (first | exact FrzE.pure (pureB_ok 9 _ rfl) | exact FrzE.slot (by first | exact Cel.str | exact Cel.byte | exact Cel.wdv) rfl (by first | rfl | omega) | exact FrzE.rowA (by first | exact Cel.str | exact Cel.byte | exact Cel.wdv) rfl (by first | rfl | omega) | refine FrzE.fn ?_ | refine FrzE.agg ?_ | refine FrzE.tup ?_ | refine FrzE.ptr1 rfl rfl rfl rfl rfl rfl ?_ | refine FrzE.ptrA rfl rfl rfl rfl ?_ | exact FrzLE.nil | refine FrzLE.cons ?_ ?_)) ?_))
  all_goals (try (conv => whnf))
  all_goals first
    | rfl
    | exact ⟨Nat.zero_le _, rfl⟩
    | (refine BackU.of (i + 1) ?_ ?_ ?_ ?_ ?_; rotate_left; (focus (first | exact Nat.lt_succ_self _ | omega | (simp only [List.length_cons]; omega) | (simp_all; omega))); (focus (repeat' (first | exact trivial | refine And.intro rfl ?_))); (focus (repeat' (first | exact trivial | refine And.intro rfl ?_))); (focus (first | exact .refl _ | (repeat' (first | exact .nil | refine .same ?_ | refine .kill ?_)))); (focus (exact ⟨by omega, low_step (by assumption) ha (by assumption) (by assumption)⟩)))
    | (refine BackU.of ((i + 1, m.set i (m[i] - 32))) ?_ ?_ ?_ ?_ ?_; rotate_left; (focus (first | exact Nat.lt_succ_self _ | omega | (simp only [List.length_cons]; omega) | (simp_all; omega))); (focus (repeat' (first | exact trivial | refine And.intro rfl ?_))); (focus (repeat' (first | exact trivial | refine And.intro rfl ?_))); (focus (first | exact .refl _ | (repeat' (first | exact .nil | refine .same ?_ | refine .kill ?_)))); (focus (refine ⟨by omega, up_step (by omega) hm ?_⟩; rw [up_at (by omega) hm, upper_low (by rw [← up_at (by omega) hm]; exact low_at hall hm (by omega) (by omega))])))
    | exact absurd trivial (by assumption)
    | exact absurd (up_end hm (by assumption)).symm (by assumption)
    | skip
end Go.Proofs.YtcanagkflbbmaaaDoor.L
