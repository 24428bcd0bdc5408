/- Commands: where a text stands within another. -/
import Derived.Test.YtcanagkflbbmaaaDoorLCmd7
set_option linter.unusedVariables false
set_option linter.unusedSimpArgs false
set_option maxRecDepth 100000
set_option maxHeartbeats 8000000
namespace Go.Proofs.YtcanagkflbbmaaaDoor.L
open Go Go.Proofs Go.Dev Go.RowKit
theorem Prim.known {f : FuncId} {ds : List DV} {pr : PR} {k : PK} (hok : PKOK E.P 0 f k) (h : primD k ds = some pr) : Prim E f ds pr := .of0 fun hE => by
  have h0 := (prim_world (P := E.P) (imps := []) (L := 0) (ga := 0) (tab := [(f, k)]) names (fun e he => by
    rcases List.mem_singleton.1 he with rfl
    exact hok)).prim f ds pr (by
      show (lookP f [(f, k)]).bind _ = _
      simp only [lookP, decide_true, if_true, Option.bind_some]
      exact h)
  refine ⟨h0.1, fun S w vs a b c d => (h0.2 S w vs a b c d).mono fun e w' hx => ?_⟩
  obtain ⟨v, S', q1, q2, q3, q4, q5, q6, q7, q8⟩ := hx
  refine ⟨v, S', q1, q2, q3, q4, q5, q6, q7, ?_⟩
  cases pr with
  | val d => exact q8
  | own z l => exact q8
theorem allSome_byt : ∀ (l : List UInt8), allSome ((l.map byteDV).map byteI) = some (l.map fun c => (c.toNat : Int))
  | [] => rfl
  | c :: l => by
    have h : byteI (byteDV c) = some (c.toNat : Int) := by
      have := c.toNat_lt
      show (if (0 : Int) ≤ c.toNat ∧ (c.toNat : Int) < 256 then some (c.toNat : Int) else none) = _
      rw [if_pos ⟨by omega, by omega⟩]
    simp only [List.map_cons, h, allSome]
    rw [show (l.map byteDV).map byteI = (l.map byteDV).map byteI from rfl, allSome_byt l]
    rfl
theorem immB_byt {l : List UInt8} (h : l ≠ []) : immB (Byt l) = some (l.map fun c => (c.toNat : Int)) := by
  cases l with
  | nil => exact absurd rfl h
  | cons c l => exact allSome_byt (c :: l)
theorem bytesOf_map (l : List UInt8) : Lib.bytesOf (l.map fun c => (c.toNat : Int)) = l := by
  unfold Lib.bytesOf
  rw [List.map_map]
  conv => rhs; rw [← List.map_id l]
  apply List.map_congr_left
  intro c _
  simp
theorem BytesIndex1 (a b : List UInt8) (ha : a ≠ []) (hb : b ≠ []) (hal : a.length < 4294967281) (hbl : b.length ≤ 4294967281) : Prim E 20 [Byt a, Byt b] (.val (.int .i64 (Lib.index a b))) :=
  Prim.known (k := .bIdx) ⟨(hasBody Tryd.func20 rfl), fun a1 a2 n c1 k c2 xs ys m w h1 h2 h3 h4 h5 h6 h7 h8 h9 h10 => Tryd.bytes_Index_at a1 a2 n c1 k c2 xs ys m w h1 h2 h3 h4 h5 h6 h7 h8 h9 h10⟩ (by
    simp only [primD, immB_byt ha, immB_byt hb, Option.bind_some, bytesOf_map]
    rw [if_pos ⟨by simpa using hal, by simpa using hbl⟩])
theorem BytesIndex0 (a b : List UInt8) (ha : a.length = 0) (hb : 2 ≤ b.length) (hbl : b.length ≤ 4294967281) : Prim E 20 [Byt a, Byt b] (.val (.int .i64 (-1))) := by
  refine Prim.ofX Tryd.func20 Tryd.ntmps20 rfl rfl ?_
  repeat' ((conv => whnf); first | with_reducible refine JoinK.go ?_ | (show OX _ _ _ _ _ _ _; first | refine OX.rc (Rc.cvF (by repeat' (first | exact FrzE.pure (pureB_ok 9 _ rfl) | exact FrzE.slot (by first | exact Cel.str | exact Cel.byte) rfl (by first | rfl | omega) | exact FrzE.rowA (by first | exact Cel.str | exact Cel.byte) rfl (by first | rfl | omega) | refine FrzE.fn ?_ | refine FrzE.agg ?_ | refine FrzE.tup ?_ | refine FrzE.ptr1 rfl rfl rfl rfl rfl rfl ?_ | refine FrzE.ptrA rfl rfl rfl rfl ?_ | exact FrzLE.nil | refine FrzLE.cons ?_ ?_)) rfl rfl rfl) ?_) | with_reducible refine NilK.nil ?_ | ((with_reducible refine And.intro ?_ ?_); · first | (first | omega | exact u8rng _ | (simp only [List.length_cons, List.length_nil, List.length_append]; omega)) | exact Nat.le_of_ble_eq_true rfl) | (with_reducible refine bxN.dec (fun h => ?_) (fun h => ?_)) <;> (try (exfalso; omega)) <;> (try simp only [Int.natCast_inj, Int.ofNat_le, Int.ofNat_lt, u8i, Nat.reduceLT, UInt8.reduceOfNat, ne_eq, Decidable.not_not] at h) <;> (try simp only [il1, il2, il3, il4, il5] at h) <;> (try rw [if_pos h] at hr) <;> (try rw [if_neg h] at hr) | (with_reducible refine bxN.ndec (fun h => ?_) (fun h => ?_)) <;> (try (exfalso; omega)) <;> (try simp only [Int.natCast_inj, Int.ofNat_le, Int.ofNat_lt, u8i, Nat.reduceLT, UInt8.reduceOfNat, ne_eq, Decidable.not_not] at h) <;> (try simp only [il1, il2, il3, il4, il5] at h) <;> (try rw [if_pos h] at hr) <;> (try rw [if_neg h] at hr) | (with_reducible refine bxN.not (fun h => ?_) (fun h => ?_)) <;> (try simp only [h, reduceIte, Bool.false_eq_true] at hr) | (with_reducible refine bxN.split (fun h => ?_) (fun h => ?_)) <;> (try simp only [h, reduceIte, Bool.false_eq_true] at hr) | with_reducible refine natK.cast ?_ | with_reducible refine natK.lit ?_ | with_reducible refine natK.add ?_ | with_reducible refine natK.addl ?_ | ((with_reducible refine natK.pred ?_ ?_); · (first | omega | exact u8rng _ | (simp only [List.length_cons, List.length_nil, List.length_append]; omega))) | ((with_reducible refine natK.sub ?_ ?_); · (first | omega | exact u8rng _ | (simp only [List.length_cons, List.length_nil, List.length_append]; omega))) | ((with_reducible refine natK.nn ?_ ?_); · (first | omega | exact u8rng _ | (simp only [List.length_cons, List.length_nil, List.length_append]; omega))) | ((with_reducible refine nthK.map ?_ ?_); · (first | omega | exact u8rng _ | (simp only [List.length_cons, List.length_nil, List.length_append]; omega))) | ((with_reducible refine nthK.any ?_ ?_); · (first | omega | exact u8rng _ | (simp only [List.length_cons, List.length_nil, List.length_append]; omega))) | refine geK.of rfl ?_ | ((with_reducible refine rowK.slot (List.ne_nil_of_length_pos ?_) ?_); · (first | omega | exact u8rng _ | (simp only [List.length_cons, List.length_nil, List.length_append]; omega))) | ((with_reducible refine ArU.ok ?_ ?_); · omega) | with_reducible refine ArU.of ?_ | with_reducible refine LnK.map ?_ | with_reducible refine LnK.lit rfl ?_ | with_reducible refine PcK.map0 ?_ | with_reducible refine PcK.mapT ?_ | with_reducible refine PcK.map ?_ | with_reducible refine CvK.map ?_ | with_reducible refine OpenK.of (by kernel_rfl) ?_ | refine EndW.of (by kernel_rfl) (by repeat' ((conv => whnf); first | exact trivial | with_reducible refine And.intro ?_ ?_ | exact rfl | refine MkA.same rfl ?_ | refine MkA.anc (by kernel_rfl) ?_)) ?_ | exact RetK.eq rfl (by with_reducible rfl) | refine RetM.eq rfl rfl rfl (by with_reducible rfl) ?_ | refine RetK.eq rfl ?_ | refine RetM.eq rfl rfl rfl ?_ ?_ | ((show RetM _ _ _ _); refine RetM.fx (by repeat' (first | exact FrzX.pure rfl | exact FrzX.nils | exact FrzX.slot (by first | exact Cel.str | exact Cel.byte) rfl rfl (by first | rfl | omega) | exact FrzX.rowA (by first | exact Cel.str | exact Cel.byte) rfl rfl (by first | rfl | omega) | apply FrzX.agg | apply FrzX.tup | exact FrzLX.nil | apply FrzLX.cons)) rfl rfl ?_ ?_) | ((show RetK _ _ _); refine RetK.fz (by repeat' (first | exact FrzE.pure (pureB_ok 9 _ rfl) | exact FrzE.slot (by first | exact Cel.str | exact Cel.byte) rfl (by first | rfl | omega) | exact FrzE.rowA (by first | exact Cel.str | exact Cel.byte) rfl (by first | rfl | omega) | refine FrzE.fn ?_ | refine FrzE.agg ?_ | refine FrzE.tup ?_ | refine FrzE.ptr1 rfl rfl rfl rfl rfl rfl ?_ | refine FrzE.ptrA rfl rfl rfl rfl ?_ | exact FrzLE.nil | refine FrzLE.cons ?_ ?_)) ?_))
  all_goals (try (conv => whnf))
theorem index_nil {b : List UInt8} (hb : 2 ≤ b.length) : Lib.index [] b = -1 := by
  cases b with
  | nil => simp at hb
  | cons c l => rfl
theorem BytesIndex (a b : List UInt8) (hb : 2 ≤ b.length) (hal : a.length < 4294967281) (hbl : b.length ≤ 4294967281) : Prim E 20 [Byt a, Byt b] (.val (.int .i64 (Lib.index a b))) := by
  by_cases h : a = []
  · subst h
    rw [index_nil hb]
    exact BytesIndex0 [] b rfl hb hbl
  · exact BytesIndex1 a b h (by intro e; subst e; simp at hb) hal hbl
end Go.Proofs.YtcanagkflbbmaaaDoor.L
