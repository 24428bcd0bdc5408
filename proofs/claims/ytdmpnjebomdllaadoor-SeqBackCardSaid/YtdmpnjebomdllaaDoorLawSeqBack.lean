/- By a program of this session, over the print of the kit: for each function of the program what it computes, and that its call comes to just that. -/
import Derived.Test.YtdmpnjebomdllaaDoorRows
import Derived.Test.YtdmpnjebomdllaaDoorX9
import Derived.Test.YtdmpnjebomdllaaDoorPSeqBack
import Derived.Test.YtdmpnjebomdllaaDoorTie
import Derived.Test.YtdmpnjebomdllaaDoorCards
import Derived.Lay
import Derived.Handy
import Derived.SevenTiedAt
import Derived.WalkKit
import Derived.ProofKit
import Derived.OpenShut
import Derived.ShutString
import Derived.ChangeOld
import Derived.Below
import Derived.SizedLaws
import Derived.HandedShaped
namespace Go.Proofs.YtdmpnjebomdllaaDoor.seqBack
open Go.Proofs Go.ChangeShapes Go.WideShapes Go.ChangeAt Go.RowKit
open Go.ChangeMaps (open_string shut_string)
set_option linter.unusedVariables false
theorem own : ownKnob Tryd.prog.godebug = none := by kernel_rfl
theorem laidOut : laidOutB Tryd.prog = true := by kernel_rfl
theorem op38 (n : Nat) : Mine.Opens Tryd.prog n 38 X.k38 X.Wf38 :=
  Mine.opens_struct Tryd.underlying38 rfl (by kernel_rfl) (fun n => (Mine.opensL_cons rfl (by kernel_rfl) ((Mine.opens_int Tryd.underlying2) n) (Mine.opensL_one rfl (by kernel_rfl) ((Mine.opens_int Tryd.underlying2) n)))) (fun x : X.S38 => (x.f0, x.f1)) (fun y => ⟨y.1, y.2⟩) (fun _ => rfl) n
theorem op24 (n : Nat) : Mine.Opens Tryd.prog n 24 X.k24 X.Wf24 :=
  Mine.opens_struct Tryd.underlying24 rfl (by kernel_rfl) (fun n => (Mine.opensL_one rfl (by kernel_rfl) ((Mine.opens_slice Tryd.underlying22 (by kernel_rfl) op38) n))) (fun x : X.S24 => x.f0) (fun y => ⟨y⟩) (fun _ => rfl) n
set_option maxRecDepth 100000 in
set_option maxHeartbeats 8000000 in
theorem lifted (os : Os) (started : os.Started) (H : Type) (enc : TypeId × Value → H) :
    ReturnsInHanded {} Tryd.checked os 3 .any (fun w args => (Rows.seqBackSpec.pre enc Tryd.prog Tryd.f3 [] false w args ∧ laidMetH Tryd.prog Rows.seqBackRow.laid w) ∧ sizedMet enc Tryd.prog Tryd.f3 (OpenSpec.ofChange Rows.seqBackSpec) false w args) (Rows.seqBackSpec.post enc Tryd.prog Tryd.f3 false true false false) := by
  refine Mine.handed_laid (C := Tryd.checked) own started (by kernel_rfl) Tryd.func3
    (ChangeSpec.witness_shaped (enc := enc) (C := Tryd.checked) (os := os) (X := fun w _ => laidMetH Tryd.prog Rows.seqBackRow.laid w) false (World.laidAll Tryd.prog os Rows.seqBackRow.laid) #[.agg #[(.slice none 0 0)], .slice none 0 0, .int .i64 0] 8 (World.laidAll_os _ _ _)
      (World.shaped_of_ZipB (by kernel_rfl) (by kernel_rfl)) (by kernel_rfl) (by kernel_rfl) (by kernel_rfl)
      (by rw [MakeChecks.laidMetH_plain _ _ _ (by kernel_rfl)]; exact laidMet_laidAll _ (by kernel_rfl) (by kernel_rfl))) ?_
  intro W base args ds gs before hval0 hW hcnd hsz0 hL hsh _
  have hval : ∀ (j : Nat) t v, Tryd.f3.params[j]? = some t → args[j]? = some v → Value.okWide Tryd.prog W .any base t v := hval0
  have hW' := hW
  obtain ⟨p, q, hA0, hV, rfl, hfz, hnd⟩ := hW
  have hA : DataW.TrodAll enc Tryd.prog W 0 (fun _ => true) true Tryd.f3.params.toList args.toList ds p := hA0
  rw [Tryd.params3] at hA hval
  obtain ⟨v0, vs0, d0, ds0, p0, q0, hargs, rfl, rfl, h0, r0⟩ := trodAll_cons hA
  obtain ⟨v1, vs1, d1, ds1, p1, q1, rfl, rfl, rfl, h1, r1⟩ := trodAll_cons r0
  obtain ⟨v2, vs2, d2, ds2, p2, q2, rfl, rfl, rfl, h2, r2⟩ := trodAll_cons r1
  obtain ⟨rfl, rfl, rfl⟩ := trodAll_nil r2
  obtain rfl : args = #[v0, v1, v2] := by cases args; simp_all
  obtain ⟨rfl, rfl⟩ := trodVars_none hV
  have lt0 : ∀ x ∈ p0, x.block < W.heap.size := by obtain ⟨m, hm⟩ := h0; exact DataW.trod_lt m _ _ _ hm
  obtain ⟨y0, K0, W0⟩ := Mine.Opens.arg op24 h0
  obtain ⟨b0, rfl, _⟩ := okWide_struct Tryd.underlying24 (hval 0 24 v0 rfl rfl)
  obtain ⟨A0_0, c0_0, e0, l0_0, g0_0⟩ := X.k24_open K0
  obtain rfl := Array.toList_inj.1 (show b0.toList = (List.toArray _).toList from e0)
  have lt1 : ∀ x ∈ p1, x.block < W.heap.size := by obtain ⟨m, hm⟩ := h1; exact DataW.trod_lt m _ _ _ hm
  obtain ⟨y1, K1, W1⟩ := Mine.Opens.arg (Mine.opens_slice Tryd.underlying25 (by kernel_rfl) (Mine.opens_int Tryd.underlying2)) h1
  obtain ⟨a1, len1, cap1, rfl⟩ := okWide_slice Tryd.underlying25 (hval 1 25 v1 rfl rfl)
  obtain ⟨A1, c1, e1, l1, g1⟩ := K1
  simp only [Value.cells] at e1
  obtain ⟨rfl, rfl, rfl⟩ : a1 = A1 ∧ len1 = y1.length ∧ cap1 = c1 := by simpa using e1
  have lt2 : ∀ x ∈ p2, x.block < W.heap.size := by obtain ⟨m, hm⟩ := h2; exact DataW.trod_lt m _ _ _ hm
  obtain ⟨y2, K2, W2⟩ := Mine.Opens.arg (Mine.opens_int Tryd.underlying2) h2
  obtain ⟨a2, rfl⟩ := okWide_int Tryd.underlying2 (hval 2 2 v2 rfl rfl)
  obtain rfl : a2 = y2 := by simpa [Value.cells, YtdmpnjebomdllaaDoorW.PrintWords.Kd.K, YtdmpnjebomdllaaDoorW.PrintWords.Kd.int, YtdmpnjebomdllaaDoorW.PrintWords.Kd.bool, YtdmpnjebomdllaaDoorW.PrintWords.Kd.string, YtdmpnjebomdllaaDoorW.PrintWords.Kd.scalar] using K2
  obtain ⟨k, h⟩ := Pure.SeqBack y0.f0 y1 a2 W0 W1 W2
  refine (X.frankinglaw9_SeqBack.calls k A0_0 c0_0 y0.f0 a1 cap1 y1 a2 W g0_0 l0_0 g1 l1 (Mine.Gl.start hsh (Mine.laid_tab hL "internal/strconv.uint64pow10" .u64 Lib.pow10Tab (by kernel_rfl) (g := 1) (t := 118) (e := 100) (n := 20) (by kernel_rfl) (by kernel_rfl) Tryd.underlying118 Tryd.underlying100 (by kernel_rfl) (by kernel_rfl))) h).mono fun e W' ⟨he, bel0⟩ => ?_
  have bel := bel0
  subst he
  exact ⟨_, rfl, _, _, _, [], _, [], hW', trodAll_mk1 (shut_bool Tryd.underlying4 _), (trodAll_cons_mk (Below.trod laidOut (by kernel_rfl) (of_decide_eq_true (by kernel_rfl)) h0 bel lt0) (trodAll_cons_mk (Below.trod laidOut (by kernel_rfl) (of_decide_eq_true (by kernel_rfl)) h1 bel lt1) (trodAll_cons_mk (Below.trod laidOut (by kernel_rfl) (of_decide_eq_true (by kernel_rfl)) h2 bel lt2) trodAll_mk0))), rfl, bel.frame _, fun h => by cases h⟩
theorem over : Rows.seqBackRow.holds Tryd.pinned (OpenSpec.ofChange Rows.seqBackSpec) :=
  OpenClaim.holds_of_wide 3 Tryd.f3 rfl rfl rfl rfl rfl rfl rfl ⟨rfl, rfl, rfl, rfl, rfl⟩ rfl rfl rfl rfl rfl (by kernel_rfl) Tryd.func3 (by kernel_rfl)
    (of_decide_eq_true (by kernel_rfl)) (by unfold Func.isWrapper; first | (rw [if_pos (by decide +kernel)]; kernel_rfl) | (rw [if_neg (by decide +kernel)]; exact ⟨rfl, rfl⟩))
    (fun os started H enc _ => lifted os started H enc)
theorem proved : Rows.SeqBackSaid := over
#print axioms proved
end Go.Proofs.YtdmpnjebomdllaaDoor.seqBack
namespace Go.Proofs.YtdmpnjebomdllaaDoor
/-- The row, under a short name, for the claim. -/
theorem seqBack_row_holds : Rows.SeqBackSaid := seqBack.proved
/-- THE CARD. -/
theorem seqBack_holds : Rows.SeqBackCardSaid :=
  Claim7.holds_tied_plain_at .later [] [.data, .data, .data] true (true, "e9a37422a28b21f78375b90b5bed9863c17c15d9a9178055dbefc4ee9a833d60") false
    seqBack_row_holds (fun _ h => by cases h) (by kernel_rfl) (fun _ h => by cases h) seqBack_row_tie rfl ⟨rfl, rfl⟩ (by kernel_rfl) rfl
    (fun f fn hf hfn => by
      obtain rfl : f = 3 := Option.some.inj ((show Tryd.prog.funcNamed "franking/frankinglaw9.SeqBack" = some 3 by kernel_rfl).symm.trans hf) |>.symm
      obtain rfl : fn = Tryd.f3 := (Option.some.inj (Tryd.func3.symm.trans hfn)).symm
      exact ⟨by kernel_rfl, fun j t ht => by
        rw [Tryd.params3] at ht
        have hm : t ∈ [24, 25, 2] := by simpa using Array.mem_of_getElem? ht
        have hall : ([24, 25, 2].all fun u => !Tryd.prog.wantsStandIn u) = true := by kernel_rfl
        exact (show Tryd.prog.wantsStandIn t = false by simpa using List.all_eq_true.1 hall t hm)⟩)
    (by kernel_rfl)
end Go.Proofs.YtdmpnjebomdllaaDoor