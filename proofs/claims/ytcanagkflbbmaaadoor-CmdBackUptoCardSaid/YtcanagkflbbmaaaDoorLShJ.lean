/- Joins. -/
import Derived.Test.YtcanagkflbbmaaaDoorLSh1
set_option linter.unusedVariables false
set_option linter.unusedSimpArgs false
set_option maxRecDepth 100000
set_option maxHeartbeats 8000000
namespace Go.Proofs.YtcanagkflbbmaaaDoor.L
open Go Go.Proofs Go.Dev Go.RowKit
theorem two_vs {vs : Array Value} (h : vs.size = 2) : ∃ a b, vs = #[a, b] := ⟨vs[0], vs[1], by
  apply Array.ext
  · simpa using h
  · intro i h1 h2
    match i with
    | 0 => rfl
    | 1 => rfl
    | i + 2 => exact absurd h1 (by omega)⟩
theorem join_cells {S : Nat → Nat → Prop} {w : World} {v1 : Value} (ls : List Txt) (h0 : ls ≠ []) (hv1 : V S mu0 w (.imm 1 (ls.map Str)) v1) : ∃ B o cap, v1 = .slice (some ⟨B, o, none⟩) ls.length cap ∧ ls.length ≤ cap ∧ ∀ (j : Nat) (x : Txt), ls[j]? = some x → w.cell? ⟨B, o + j, none⟩ = some (.string ⟨x.toArray⟩) ∧ S B (o + j) := by
  generalize hL : ls.map Str = L at hv1
  cases hv1 with
  | imm0 => exact absurd (List.map_eq_nil_iff.1 hL) h0
  | imm _ _ B o cap cv hc hl' h hv =>
    have hlen : L.length = ls.length := by rw [← hL]; simp
    refine ⟨B, o, cap, by rw [hlen], by omega, fun j x hx => ?_⟩
    have e1 : L[j]? = some (Str x) := by rw [← hL, List.getElem?_map, hx]; rfl
    obtain ⟨q1, q2⟩ := h j (Str x) 0 (Str x) e1 rfl
    have q3 := hv j (Str x) 0 (Str x) e1 rfl
    rw [show o + j * 1 + 0 = o + j by omega] at q1 q2
    refine ⟨?_, q2⟩
    rw [cell_eq, q1]
    have : V S mu0 w (.str ⟨x.toArray⟩) (cv j 0) := q3
    generalize cv j 0 = y at this
    cases this
    rfl
theorem Join1 (ls : List Txt) (sep : Txt) (h0 : ls ≠ []) (hl : ls.length ≤ 140737488355328) (hj : (Lib.join ls sep).length ≤ 140737488355328) : Prim E2 37 [.imm 1 (ls.map Str), Str sep] (.val (Str (Lib.join ls sep))) := .of0 fun hE => ⟨(hasBody Tryd.func37 rfl), fun S w vs hG hng hst hcr => by
  obtain ⟨v1, v2, rfl⟩ := two_vs hcr.1.symm
  have hv1 : V S mu0 w (.imm 1 (ls.map Str)) v1 := hcr.2 0 _ _ rfl rfl
  have hv2 : V S mu0 w (.str ⟨sep.toArray⟩) v2 := hcr.2 1 _ _ rfl rfl
  cases hv2
  obtain ⟨B, o, cap, rfl, hc, key⟩ := join_cells ls h0 hv1
  have hB : B < w.heap.size := by
    cases hls : ls with
    | nil => exact absurd hls h0
    | cons x r => exact hst B _ (key 0 x (by rw [hls]; rfl)).2
  have hlen : ls.length = (ls.map fun l => (⟨l.toArray⟩ : ByteArray)).length := by simp
  have hmap : (ls.map fun l => (⟨l.toArray⟩ : ByteArray)).map (·.data.toList) = ls := by simp [List.map_map, Function.comp_def]
  have hcall := Tryd.strings_Join B o cap (ls.map fun l => (⟨l.toArray⟩ : ByteArray)) ⟨sep.toArray⟩ w (fun j x hx => by
    rw [List.getElem?_map, Option.map_eq_some_iff] at hx
    obtain ⟨y, hy, rfl⟩ := hx
    exact (key j y hy).1) hB (by simpa using hl) (by simpa using hc) (by rw [hmap]; exact hj)
  rw [hmap, ← hlen] at hcall
  refine hcall.mono fun e w' ⟨he, ⟨b1, b2, b3, b4, b5⟩⟩ => ?_
  exact ⟨_, S, he, fun _ _ h => h, fun _ _ h => .inl h, fun B c hc => Nat.lt_of_lt_of_le (hst B c hc) b4, b4, b5, ⟨b1, b2, b3, Mo.any _ _⟩, .str _⟩⟩
theorem Join0 (sep : Txt) : Prim E2 37 [.imm 1 [], Str sep] (.val (Str [])) := by
  refine Prim.ofX Tryd.func37 Tryd.ntmps37 rfl rfl ?_
  repeat' ((conv => whnf); first | with_reducible refine JoinK.go ?_ | (show OX _ _ _ _ _ _ _; first | refine OX.rc (Rc.cvF (by repeat' (first | exact FrzE.pure (pureB_ok 9 _ rfl) | exact FrzE.slot (by first | exact Cel.str | exact Cel.byte) rfl (by first | rfl | omega) | exact FrzE.rowA (by first | exact Cel.str | exact Cel.byte) rfl (by first | rfl | omega) | refine FrzE.fn ?_ | refine FrzE.agg ?_ | refine FrzE.tup ?_ | refine FrzE.ptr1 rfl rfl rfl rfl rfl rfl ?_ | refine FrzE.ptrA rfl rfl rfl rfl ?_ | exact FrzLE.nil | refine FrzLE.cons ?_ ?_)) rfl rfl rfl) ?_) | with_reducible refine NilK.nil ?_ | ((with_reducible refine And.intro ?_ ?_); · first | (first | omega | exact u8rng _ | (simp only [List.length_cons, List.length_nil, List.length_append]; omega)) | exact Nat.le_of_ble_eq_true rfl) | (with_reducible refine bxN.dec (fun h => ?_) (fun h => ?_)) <;> (try (exfalso; omega)) <;> (try simp only [Int.natCast_inj, Int.ofNat_le, Int.ofNat_lt, u8i, Nat.reduceLT, UInt8.reduceOfNat, ne_eq, Decidable.not_not] at h) <;> (try simp only [il1, il2, il3, il4, il5] at h) <;> (try rw [if_pos h] at hr) <;> (try rw [if_neg h] at hr) | (with_reducible refine bxN.ndec (fun h => ?_) (fun h => ?_)) <;> (try (exfalso; omega)) <;> (try simp only [Int.natCast_inj, Int.ofNat_le, Int.ofNat_lt, u8i, Nat.reduceLT, UInt8.reduceOfNat, ne_eq, Decidable.not_not] at h) <;> (try simp only [il1, il2, il3, il4, il5] at h) <;> (try rw [if_pos h] at hr) <;> (try rw [if_neg h] at hr) | (with_reducible refine bxN.not (fun h => ?_) (fun h => ?_)) <;> (try simp only [h, reduceIte, Bool.false_eq_true] at hr) | (with_reducible refine bxN.split (fun h => ?_) (fun h => ?_)) <;> (try simp only [h, reduceIte, Bool.false_eq_true] at hr) | with_reducible refine natK.cast ?_ | with_reducible refine natK.lit ?_ | with_reducible refine natK.add ?_ | with_reducible refine natK.addl ?_ | ((with_reducible refine natK.pred ?_ ?_); · (first | omega | exact u8rng _ | (simp only [List.length_cons, List.length_nil, List.length_append]; omega))) | ((with_reducible refine natK.sub ?_ ?_); · (first | omega | exact u8rng _ | (simp only [List.length_cons, List.length_nil, List.length_append]; omega))) | ((with_reducible refine natK.nn ?_ ?_); · (first | omega | exact u8rng _ | (simp only [List.length_cons, List.length_nil, List.length_append]; omega))) | ((with_reducible refine nthK.map ?_ ?_); · (first | omega | exact u8rng _ | (simp only [List.length_cons, List.length_nil, List.length_append]; omega))) | ((with_reducible refine nthK.any ?_ ?_); · (first | omega | exact u8rng _ | (simp only [List.length_cons, List.length_nil, List.length_append]; omega))) | refine geK.of rfl ?_ | ((with_reducible refine rowK.slot (List.ne_nil_of_length_pos ?_) ?_); · (first | omega | exact u8rng _ | (simp only [List.length_cons, List.length_nil, List.length_append]; omega))) | ((with_reducible refine ArU.ok ?_ ?_); · omega) | with_reducible refine ArU.of ?_ | with_reducible refine LnK.map ?_ | with_reducible refine LnK.lit rfl ?_ | with_reducible refine PcK.map0 ?_ | with_reducible refine PcK.mapT ?_ | with_reducible refine PcK.map ?_ | with_reducible refine CvK.map ?_ | with_reducible refine OpenK.of (by kernel_rfl) ?_ | refine EndW.of (by kernel_rfl) (by repeat' ((conv => whnf); first | exact trivial | with_reducible refine And.intro ?_ ?_ | exact rfl | refine MkA.same rfl ?_ | refine MkA.anc (by kernel_rfl) ?_)) ?_ | exact RetK.eq rfl (by with_reducible rfl) | refine RetM.eq rfl rfl rfl (by with_reducible rfl) ?_ | refine RetK.eq rfl ?_ | refine RetM.eq rfl rfl rfl ?_ ?_ | ((show RetM _ _ _ _); refine RetM.fx (by repeat' (first | exact FrzX.pure rfl | exact FrzX.nils | exact FrzX.slot (by first | exact Cel.str | exact Cel.byte) rfl rfl (by first | rfl | omega) | exact FrzX.rowA (by first | exact Cel.str | exact Cel.byte) rfl rfl (by first | rfl | omega) | apply FrzX.agg | apply FrzX.tup | exact FrzLX.nil | apply FrzLX.cons)) rfl rfl ?_ ?_) | ((show RetK _ _ _); refine RetK.fz (by repeat' (first | exact FrzE.pure (pureB_ok 9 _ rfl) | exact FrzE.slot (by first | exact Cel.str | exact Cel.byte) rfl (by first | rfl | omega) | exact FrzE.rowA (by first | exact Cel.str | exact Cel.byte) rfl (by first | rfl | omega) | refine FrzE.fn ?_ | refine FrzE.agg ?_ | refine FrzE.tup ?_ | refine FrzE.ptr1 rfl rfl rfl rfl rfl rfl ?_ | refine FrzE.ptrA rfl rfl rfl rfl ?_ | exact FrzLE.nil | refine FrzLE.cons ?_ ?_)) ?_))
  all_goals (try (conv => whnf))
  all_goals first
    | rfl
    | skip
theorem Join  (ls : List Txt) (sep : Txt) (hl : ls.length ≤ 140737488355328) (hj : (Lib.join ls sep).length ≤ 140737488355328) : Prim E2 37 [.imm 1 (ls.map Str), Str sep] (.val (Str (Lib.join ls sep))) := by
  by_cases h0 : ls = []
  · subst h0
    exact Join0 sep
  · exact Join1 ls sep h0 hl hj
end Go.Proofs.YtcanagkflbbmaaaDoor.L
