/- By a program of this session, over the print of the kit: for each function of the program what it computes, and that its call comes to just that. -/
import Derived.Test.YtgciibjlgdhnpaaDoorRows
import Derived.Test.YtgciibjlgdhnpaaDoorX1
import Derived.Test.YtgciibjlgdhnpaaDoorPSnapReplays
import Derived.Test.YtgciibjlgdhnpaaDoorTie
import Derived.Test.YtgciibjlgdhnpaaDoorCards
import Derived.Lay
import Derived.Handy
import Derived.SevenTiedAt
import Derived.WalkKit
import Derived.ProofKit
import Derived.OpenShut
import Derived.ShutString
import Derived.ChangeOld
import Derived.Below
import Derived.SizedLaws
import Derived.HandedShaped
namespace Go.Proofs.YtgciibjlgdhnpaaDoor.snapReplays
open Go.Proofs Go.ChangeShapes Go.WideShapes Go.ChangeAt Go.RowKit
open Go.ChangeMaps (open_string shut_string)
set_option linter.unusedVariables false
theorem own : ownKnob Tryd.prog.godebug = none := by kernel_rfl
theorem laidOut : laidOutB Tryd.prog = true := by kernel_rfl
set_option maxRecDepth 100000 in
set_option maxHeartbeats 8000000 in
theorem lifted (os : Os) (started : os.Started) (H : Type) (enc : TypeId × Value → H) :
    ReturnsInHanded {} Tryd.checked os 4 .any (fun w args => (Rows.snapReplaysSpec.pre enc Tryd.prog Tryd.f4 [] false w args ∧ laidMetH Tryd.prog Rows.snapReplaysRow.laid w) ∧ sizedMet enc Tryd.prog Tryd.f4 (OpenSpec.ofChange Rows.snapReplaysSpec) false w args) (Rows.snapReplaysSpec.post enc Tryd.prog Tryd.f4 false true false false) := by
  refine Mine.handed_laid (C := Tryd.checked) own started (by kernel_rfl) Tryd.func4
    (ChangeSpec.witness_shaped (enc := enc) (C := Tryd.checked) (os := os) (X := fun w _ => laidMetH Tryd.prog Rows.snapReplaysRow.laid w) false (World.laidAll Tryd.prog os Rows.snapReplaysRow.laid) #[.int .i64 0, .slice none 0 0, .slice none 0 0] 8 (World.laidAll_os _ _ _)
      (World.shaped_of_ZipB (by kernel_rfl) (by kernel_rfl)) (by kernel_rfl) (by kernel_rfl) (by kernel_rfl)
      (by rw [MakeChecks.laidMetH_plain _ _ _ (by kernel_rfl)]; exact laidMet_laidAll _ (by kernel_rfl) (by kernel_rfl))) ?_
  intro W base args ds gs before hval0 hW hcnd hsz0 hL hsh _
  have hsz : (DataW.weightsEach Tryd.prog (Tryd.f4.params.toList ++ Rows.snapReplaysSpec.plain.varTypes Tryd.prog) (ds ++ gs)).all (· ≤ reachBytes) = true := hsz0
  have hval : ∀ (j : Nat) t v, Tryd.f4.params[j]? = some t → args[j]? = some v → Value.okWide Tryd.prog W .any base t v := hval0
  have hW' := hW
  obtain ⟨p, q, hA0, hV, rfl, hfz, hnd⟩ := hW
  have hA : DataW.TrodAll enc Tryd.prog W 0 (fun _ => true) true Tryd.f4.params.toList args.toList ds p := hA0
  rw [Tryd.params4] at hA hval hsz
  obtain ⟨v0, vs0, d0, ds0, p0, q0, hargs, rfl, rfl, h0, r0⟩ := trodAll_cons hA
  obtain ⟨v1, vs1, d1, ds1, p1, q1, rfl, rfl, rfl, h1, r1⟩ := trodAll_cons r0
  obtain ⟨v2, vs2, d2, ds2, p2, q2, rfl, rfl, rfl, h2, r2⟩ := trodAll_cons r1
  obtain ⟨rfl, rfl, rfl⟩ := trodAll_nil r2
  obtain rfl : args = #[v0, v1, v2] := by cases args; simp_all
  obtain ⟨rfl, rfl⟩ := trodVars_none hV
  have lt0 : ∀ x ∈ p0, x.block < W.heap.size := by obtain ⟨m, hm⟩ := h0; exact DataW.trod_lt m _ _ _ hm
  obtain ⟨y0, K0, W0⟩ := Mine.Opens.arg (Z := 140737488351232) (Mine.opens_int Tryd.underlying3) h0 (j := 0) hsz rfl rfl (by decide)
  obtain ⟨a0, rfl⟩ := okWide_int Tryd.underlying3 (hval 0 3 v0 rfl rfl)
  obtain rfl : a0 = y0 := by simpa [Value.cells, YtgciibjlgdhnpaaDoorW.PrintWords.Kd.K, YtgciibjlgdhnpaaDoorW.PrintWords.Kd.int, YtgciibjlgdhnpaaDoorW.PrintWords.Kd.bool, YtgciibjlgdhnpaaDoorW.PrintWords.Kd.string, YtgciibjlgdhnpaaDoorW.PrintWords.Kd.scalar] using K0
  have lt1 : ∀ x ∈ p1, x.block < W.heap.size := by obtain ⟨m, hm⟩ := h1; exact DataW.trod_lt m _ _ _ hm
  obtain ⟨y1, K1, W1⟩ := Mine.Opens.arg (Z := 140737488351232) (Mine.opens_slice Tryd.underlying31 (by kernel_rfl) (Mine.opens_string Tryd.underlying9)) h1 (j := 1) hsz rfl rfl (by decide)
  obtain ⟨a1, len1, cap1, rfl⟩ := okWide_slice Tryd.underlying31 (hval 1 31 v1 rfl rfl)
  obtain ⟨A1, c1, e1, l1, g1⟩ := K1
  simp only [Value.cells] at e1
  obtain ⟨rfl, rfl, rfl⟩ : a1 = A1 ∧ len1 = y1.length ∧ cap1 = c1 := by simpa using e1
  have lt2 : ∀ x ∈ p2, x.block < W.heap.size := by obtain ⟨m, hm⟩ := h2; exact DataW.trod_lt m _ _ _ hm
  obtain ⟨y2, K2, W2⟩ := Mine.Opens.arg (Z := 140737488351232) (Mine.opens_slice Tryd.underlying31 (by kernel_rfl) (Mine.opens_string Tryd.underlying9)) h2 (j := 2) hsz rfl rfl (by decide)
  obtain ⟨a2, len2, cap2, rfl⟩ := okWide_slice Tryd.underlying31 (hval 2 31 v2 rfl rfl)
  obtain ⟨A2, c2, e2, l2, g2⟩ := K2
  simp only [Value.cells] at e2
  obtain ⟨rfl, rfl, rfl⟩ : a2 = A2 ∧ len2 = y2.length ∧ cap2 = c2 := by simpa using e2
  obtain ⟨k, h⟩ := Pure.SnapReplays a0 y1 y2 W0 W1 W2
  refine (X.frankinglaw25_SnapReplays.calls k a0 a1 cap1 y1 a2 cap2 y2 W g1 l1 g2 l2 (Mine.Gl.start hsh (Mine.laid_tab hL "internal/strconv.uint64pow10" .u64 Lib.pow10Tab (by kernel_rfl) (g := 0) (t := 97) (e := 72) (n := 20) (by kernel_rfl) (by kernel_rfl) Tryd.underlying97 Tryd.underlying72 (by kernel_rfl) (by kernel_rfl)) (Mine.laid_err hL "strconv.ErrSyntax" "*errors.errorString" (.ptr (.agg [.lit (.string [105, 110, 118, 97, 108, 105, 100, 32, 115, 121, 110, 116, 97, 120])])) (by kernel_rfl) (by kernel_rfl) (g := 1) (ti := 74) (by kernel_rfl) (by kernel_rfl) Tryd.underlying74)) h).mono fun e W' ⟨he, bel0⟩ => ?_
  have bel := bel0
  subst he
  exact ⟨_, rfl, _, _, _, [], _, [], hW', trodAll_mk1 (shut_bool Tryd.underlying4 _), (trodAll_cons_mk (Below.trod laidOut (by kernel_rfl) (of_decide_eq_true (by kernel_rfl)) h0 bel lt0) (trodAll_cons_mk (Below.trod laidOut (by kernel_rfl) (of_decide_eq_true (by kernel_rfl)) h1 bel lt1) (trodAll_cons_mk (Below.trod laidOut (by kernel_rfl) (of_decide_eq_true (by kernel_rfl)) h2 bel lt2) trodAll_mk0))), rfl, bel.frame _, fun h => by cases h⟩
theorem over : Rows.snapReplaysRow.holds Tryd.pinned (OpenSpec.ofChange Rows.snapReplaysSpec) :=
  OpenClaim.holds_of_wide 4 Tryd.f4 rfl rfl rfl rfl rfl rfl rfl ⟨rfl, rfl, rfl, rfl, rfl⟩ rfl rfl rfl rfl rfl (by kernel_rfl) Tryd.func4 (by kernel_rfl)
    (of_decide_eq_true (by kernel_rfl)) (by unfold Func.isWrapper; first | (rw [if_pos (by decide +kernel)]; kernel_rfl) | (rw [if_neg (by decide +kernel)]; exact ⟨rfl, rfl⟩))
    (fun os started H enc _ => lifted os started H enc)
theorem proved : Rows.SnapReplaysSaid := over
#print axioms proved
end Go.Proofs.YtgciibjlgdhnpaaDoor.snapReplays
namespace Go.Proofs.YtgciibjlgdhnpaaDoor
/-- The row, under a short name, for the claim. -/
theorem snapReplays_row_holds : Rows.SnapReplaysSaid := snapReplays.proved
/-- THE CARD. -/
theorem snapReplays_holds : Rows.SnapReplaysCardSaid :=
  Claim7.holds_tied_plain_at .later [] [.data, .data, .data, .sentinel, .sentinel] true (true, "a56bd4a9c3702846839ac838bfec994d0229288d26bdc1ce0a25b673b85da957") true
    snapReplays_row_holds (fun _ h => by cases h) (by kernel_rfl) (fun _ h => by cases h) snapReplays_row_tie rfl ⟨rfl, rfl⟩ (by kernel_rfl) rfl
    (fun f fn hf hfn => by
      obtain rfl : f = 4 := Option.some.inj ((show Tryd.prog.funcNamed "franking/frankinglaw25.SnapReplays" = some 4 by kernel_rfl).symm.trans hf) |>.symm
      obtain rfl : fn = Tryd.f4 := (Option.some.inj (Tryd.func4.symm.trans hfn)).symm
      exact ⟨by kernel_rfl, fun j t ht => by
        rw [Tryd.params4] at ht
        have hm : t ∈ [3, 31, 31] := by simpa using Array.mem_of_getElem? ht
        have hall : ([3, 31, 31].all fun u => !Tryd.prog.wantsStandIn u) = true := by kernel_rfl
        exact (show Tryd.prog.wantsStandIn t = false by simpa using List.all_eq_true.1 hall t hm)⟩)
    (by kernel_rfl)
end Go.Proofs.YtgciibjlgdhnpaaDoor