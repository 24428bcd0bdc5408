/- CmdShows: whatever the input, true: the row and its card; the walk is the logic's. -/
import Derived.Test.YtcanagkflbbmaaaDoorRows
import Derived.Test.YtcanagkflbbmaaaDoorLSh4
import Derived.Test.YtcanagkflbbmaaaDoorCard
import Derived.Test.YtcanagkflbbmaaaDoorShelf
import Derived.Test.YtcanagkflbbmaaaDoorTie
import Derived.Test.YtcanagkflbbmaaaDoorCards
import Derived.Lay
import Derived.Handy
import Derived.SevenTiedAt
import Derived.WalkKit
import Derived.ProofKit
import Derived.OpenShut
import Derived.ShutString
import Derived.ChangeOld
import Derived.Below
import Derived.SizedLaws
import Derived.HandedShaped
namespace Go.Proofs.YtcanagkflbbmaaaDoor.cmdShows
open Go.Proofs Go.ChangeShapes Go.WideShapes Go.ChangeAt Go.RowKit
open Go.ChangeMaps (open_string shut_string)
set_option linter.unusedVariables false
theorem u8 {P : Program} {Z : Nat} {t : TypeId} (ht : P.underlying t = some (.int .u8)) : ∀ n, Go.Dev.OpD P Z n t Go.Dev.byteDV (fun _ : UInt8 => True) := by
  intro n H enc w fuel cs x _ h _
  obtain ⟨z, rfl, _, hw⟩ := DataW.trod_int ht h
  have hz : 0 ≤ z ∧ z < 256 := by
    simp [Lit.wf, IntKind.min, IntKind.max, IntKind.signed, IntKind.bits] at hw
    omega
  refine ⟨UInt8.ofNat z.toNat, trivial, .one rfl ?_⟩
  have : Go.Dev.byteDV (UInt8.ofNat z.toNat) = .int .u8 z := by
    unfold Go.Dev.byteDV
    have : (UInt8.ofNat z.toNat).toNat = z.toNat := by simp; omega
    rw [this, Int.toNat_of_nonneg hz.1]
  rw [this]
  exact .int .u8 z
theorem own : ownKnob Tryd.prog.godebug = none := by kernel_rfl
theorem laidOut : laidOutB Tryd.prog = true := by kernel_rfl
theorem glob (w : World) (h : w.ShapedOpen Tryd.prog) : Go.Dev.MaxG L.ga w := Tryd.laysM219.s1_3 w h
theorem ng (w : World) (h : w.ShapedOpen Tryd.prog) : L.E.NG ≤ w.heap.size := (glob w h).size
theorem walk {ds : List Go.Dev.DV} (hp : Go.Dev.Prim L.E2 5 ds (.val (.bool true))) (W : World) (vs : Array Value) (hsh : W.ShapedOpen Tryd.prog) (hT : L.TabG W) (hv : Go.Dev.CR (Go.Dev.Old W) Go.Dev.mu0 W ds vs) : Calls Tryd.prog 5 vs W fun e W' => e = .returned (.bool true) ∧ Below W.heap.size W W' := by
  obtain ⟨_, h⟩ := hp.run L.ok2
  refine (h (Go.Dev.Old W) W vs ⟨glob W hsh, hT⟩ (L.tab_size hT) (fun B c h => h) hv).mono fun e W' ⟨v, S', he, s1, s2, s3, s4, s5, s6, hval⟩ => ?_
  have hval' : Go.Dev.V S' Go.Dev.mu0 W' (.bool true) v := hval
  cases hval'
  exact ⟨he, s6.1, s6.2.1, s6.2.2.1, s4, s5⟩
set_option maxRecDepth 100000 in
set_option maxHeartbeats 8000000 in
theorem lifted (os : Os) (started : os.Started) (H : Type) (enc : TypeId × Value → H) :
    ReturnsInHanded {} Tryd.checked os 5 .any (fun w args => (Rows.cmdShowsSpec.pre enc Tryd.prog Tryd.f5 [] false w args ∧ laidMetH Tryd.prog Rows.cmdShowsRow.laid w) ∧ sizedMet enc Tryd.prog Tryd.f5 (OpenSpec.ofChange Rows.cmdShowsSpec) false w args) (Rows.cmdShowsSpec.post enc Tryd.prog Tryd.f5 false true false false) := by
  refine Mine.handed_laid (C := Tryd.checked) own started (by kernel_rfl) Tryd.func5
    (ChangeSpec.witness_shaped (enc := enc) (C := Tryd.checked) (os := os) (X := fun w _ => laidMetH Tryd.prog Rows.cmdShowsRow.laid w) false (World.laidAll Tryd.prog os Rows.cmdShowsRow.laid) #[.slice none 0 0] 8 (World.laidAll_os _ _ _)
      (World.shaped_of_ZipB (by kernel_rfl) (by kernel_rfl)) (by kernel_rfl) (by kernel_rfl) (by kernel_rfl)
      (by rw [MakeChecks.laidMetH_plain _ _ _ (by kernel_rfl)]; exact laidMet_laidAll _ (by kernel_rfl) (by kernel_rfl))) ?_
  intro W base args ds gs before hval0 hW hcnd hsz0 hL hsh _
  have hsz : (DataW.weightsEach Tryd.prog (Tryd.f5.params.toList ++ Rows.cmdShowsSpec.plain.varTypes Tryd.prog) (ds ++ gs)).all (· ≤ reachBytes) = true := hsz0
  have hval : ∀ (j : Nat) t v, Tryd.f5.params[j]? = some t → args[j]? = some v → Value.okWide Tryd.prog W .any base t v := hval0
  have hW' := hW
  obtain ⟨p, q, hA0, hV, rfl, hfz, hnd⟩ := hW
  have hA : DataW.TrodAll enc Tryd.prog W 0 (fun _ => true) true Tryd.f5.params.toList args.toList ds p := hA0
  rw [Tryd.params5] at hA hval hsz
  obtain ⟨v0, vs0, d0, ds0, p0, q0, hargs, rfl, rfl, h0, r0⟩ := trodAll_cons hA
  obtain ⟨rfl, rfl, rfl⟩ := trodAll_nil r0
  obtain rfl : args = #[v0] := by cases args; simp_all
  obtain ⟨rfl, rfl⟩ := trodVars_none hV
  have lt0 : ∀ x ∈ p0, x.block < W.heap.size := by obtain ⟨m, hm⟩ := h0; exact DataW.trod_lt m _ _ _ hm
  have c0 : v0.cells.toList = [v0] := by
    obtain ⟨a, len, cap, rfl⟩ := okWide_slice Tryd.underlying22 (hval 0 22 v0 rfl rfl)
    rfl
  obtain ⟨y0, W0, V0⟩ := Go.Dev.OpD.arg ((Go.Dev.OpD.slice Tryd.underlying22 (sz := 1) (by kernel_rfl) (by decide) (by rw [show Tryd.prog.bytesOf 5 = 1 from by kernel_rfl]; decide) (u8 Tryd.underlying5))) h0 (j := 0) hsz rfl rfl (Nat.le_refl _) c0 (fun _ => rfl)
  refine (walk (L.Shows y0 W0) W _ hsh (Mine.laid_tab hL "internal/strconv.uint64pow10" .u64 Lib.pow10Tab (by kernel_rfl) (g := 3) (t := 112) (e := 105) (n := 20) (by kernel_rfl) (by kernel_rfl) Tryd.underlying112 Tryd.underlying105 (by kernel_rfl) (by kernel_rfl)) ⟨rfl, fun i c v hc hv => by
    match i with
    | 0 => simp at hc hv; subst hc hv; exact V0
    | i + 1 => simp at hc⟩).mono fun e W' ⟨he, bel⟩ => ?_
  subst he
  exact ⟨_, rfl, _, _, _, [], _, [], hW', trodAll_mk1 (shut_bool Tryd.underlying4 _), (trodAll_cons_mk (Below.trod laidOut (by kernel_rfl) (of_decide_eq_true (by kernel_rfl)) h0 bel lt0) trodAll_mk0), rfl, bel.frame _, fun h => by cases h⟩
theorem over : Rows.cmdShowsRow.holds Tryd.pinned (OpenSpec.ofChange Rows.cmdShowsSpec) :=
  OpenClaim.holds_of_wide 5 Tryd.f5 rfl rfl rfl rfl rfl rfl rfl ⟨rfl, rfl, rfl, rfl, rfl⟩ rfl rfl rfl rfl rfl (by kernel_rfl) Tryd.func5 (by kernel_rfl)
    (of_decide_eq_true (by kernel_rfl)) (by unfold Func.isWrapper; first | (rw [if_pos (by decide +kernel)]; kernel_rfl) | (rw [if_neg (by decide +kernel)]; exact ⟨rfl, rfl⟩))
    (fun os started H enc _ => lifted os started H enc)
theorem proved : Rows.CmdShowsSaid := over
#print axioms proved
end Go.Proofs.YtcanagkflbbmaaaDoor.cmdShows
namespace Go.Proofs.YtcanagkflbbmaaaDoor
/-- The row, under a short name, for the claim. -/
theorem cmdShows_row_holds : Rows.CmdShowsSaid := cmdShows.proved
/-- THE CARD. -/
theorem cmdShows_holds : Rows.CmdShowsCardSaid :=
  Claim7.holds_tied_plain_at .later [] [.data, .data, .data, .data, .pinned] true (true, "e7b997b7e58be20de1991f1be982651de558e8d5666004abe80552d6e70cff66") false
    cmdShows_row_holds (fun _ h => by cases h) (by kernel_rfl) (fun _ h => by cases h) cmdShows_row_tie rfl ⟨rfl, rfl⟩ (by kernel_rfl) rfl
    (fun f fn hf hfn => by
      obtain rfl : f = 5 := Option.some.inj ((show Tryd.prog.funcNamed "franking/frankinglaw23.CmdShows" = some 5 by kernel_rfl).symm.trans hf) |>.symm
      obtain rfl : fn = Tryd.f5 := (Option.some.inj (Tryd.func5.symm.trans hfn)).symm
      exact ⟨by kernel_rfl, fun j t ht => by
        rw [Tryd.params5] at ht
        have hm : t ∈ [22] := by simpa using Array.mem_of_getElem? ht
        have hall : ([22].all fun u => !Tryd.prog.wantsStandIn u) = true := by kernel_rfl
        exact (show Tryd.prog.wantsStandIn t = false by simpa using List.all_eq_true.1 hall t hm)⟩)
    (by kernel_rfl)
end Go.Proofs.YtcanagkflbbmaaaDoor
