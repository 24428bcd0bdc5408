/- CmdKnown: whatever the input, true: the row and its card; the walk is the logic's. -/
import Derived.Test.YtcanagkflbbmaaaDoorRows
import Derived.Test.YtcanagkflbbmaaaDoorLCmd21
import Derived.Test.YtcanagkflbbmaaaDoorCard
import Derived.Test.YtcanagkflbbmaaaDoorShelf
import Derived.Test.YtcanagkflbbmaaaDoorTie
import Derived.Test.YtcanagkflbbmaaaDoorCards
import Derived.Lay
import Derived.Handy
import Derived.SevenTiedAt
import Derived.WalkKit
import Derived.ProofKit
import Derived.OpenShut
import Derived.ShutString
import Derived.ChangeOld
import Derived.Below
import Derived.SizedLaws
import Derived.HandedShaped
namespace Go.Proofs.YtcanagkflbbmaaaDoor.cmdKnown
open Go.Proofs Go.ChangeShapes Go.WideShapes Go.ChangeAt Go.RowKit
open Go.ChangeMaps (open_string shut_string)
set_option linter.unusedVariables false
theorem u8 {P : Program} {Z : Nat} {t : TypeId} (ht : P.underlying t = some (.int .u8)) : ∀ n, Go.Dev.OpD P Z n t Go.Dev.byteDV (fun _ : UInt8 => True) := by
  intro n H enc w fuel cs x _ h _
  obtain ⟨z, rfl, _, hw⟩ := DataW.trod_int ht h
  have hz : 0 ≤ z ∧ z < 256 := by
    simp [Lit.wf, IntKind.min, IntKind.max, IntKind.signed, IntKind.bits] at hw
    omega
  refine ⟨UInt8.ofNat z.toNat, trivial, .one rfl ?_⟩
  have : Go.Dev.byteDV (UInt8.ofNat z.toNat) = .int .u8 z := by
    unfold Go.Dev.byteDV
    have : (UInt8.ofNat z.toNat).toNat = z.toNat := by simp; omega
    rw [this, Int.toNat_of_nonneg hz.1]
  rw [this]
  exact .int .u8 z
theorem own : ownKnob Tryd.prog.godebug = none := by kernel_rfl
theorem laidOut : laidOutB Tryd.prog = true := by kernel_rfl
theorem glob (w : World) (h : w.ShapedOpen Tryd.prog) : Go.Dev.MaxG L.ga w := Tryd.laysM219.s1_3 w h
theorem ng (w : World) (h : w.ShapedOpen Tryd.prog) : L.E.NG ≤ w.heap.size := (glob w h).size
theorem walk {ds : List Go.Dev.DV} (hp : Go.Dev.Prim L.E 7 ds (.val (.bool true))) (W : World) (vs : Array Value) (hsh : W.ShapedOpen Tryd.prog) (hv : Go.Dev.CR (Go.Dev.Old W) Go.Dev.mu0 W ds vs) : Calls Tryd.prog 7 vs W fun e W' => e = .returned (.bool true) ∧ Below W.heap.size W W' := by
  obtain ⟨_, h⟩ := hp.run L.ok
  refine (h (Go.Dev.Old W) W vs (glob W hsh) (ng W hsh) (fun B c h => h) hv).mono fun e W' ⟨v, S', he, s1, s2, s3, s4, s5, s6, hval⟩ => ?_
  have hval' : Go.Dev.V S' Go.Dev.mu0 W' (.bool true) v := hval
  cases hval'
  exact ⟨he, s6.1, s6.2.1, s6.2.2.1, s4, s5⟩
set_option maxRecDepth 100000 in
set_option maxHeartbeats 8000000 in
theorem lifted (os : Os) (started : os.Started) (H : Type) (enc : TypeId × Value → H) :
    ReturnsInHanded {} Tryd.checked os 7 .any (fun w args => (Rows.cmdKnownSpec.pre enc Tryd.prog Tryd.f7 [] false w args ∧ laidMetH Tryd.prog Rows.cmdKnownRow.laid w) ∧ sizedMet enc Tryd.prog Tryd.f7 (OpenSpec.ofChange Rows.cmdKnownSpec) false w args) (Rows.cmdKnownSpec.post enc Tryd.prog Tryd.f7 false true false false) := by
  refine Mine.handed_laid (C := Tryd.checked) own started (by kernel_rfl) Tryd.func7
    (ChangeSpec.witness_shaped (enc := enc) (C := Tryd.checked) (os := os) (X := fun w _ => laidMetH Tryd.prog Rows.cmdKnownRow.laid w) false (World.laidAll Tryd.prog os Rows.cmdKnownRow.laid) #[] 8 (World.laidAll_os _ _ _)
      (World.shaped_of_ZipB (by kernel_rfl) (by kernel_rfl)) (by kernel_rfl) (by kernel_rfl) (by kernel_rfl)
      (by rw [MakeChecks.laidMetH_plain _ _ _ (by kernel_rfl)]; exact laidMet_laidAll _ (by kernel_rfl) (by kernel_rfl))) ?_
  intro W base args ds gs before hval0 hW hcnd hsz0 hL hsh _
  have hsz : (DataW.weightsEach Tryd.prog (Tryd.f7.params.toList ++ Rows.cmdKnownSpec.plain.varTypes Tryd.prog) (ds ++ gs)).all (· ≤ reachBytes) = true := hsz0
  have hval : ∀ (j : Nat) t v, Tryd.f7.params[j]? = some t → args[j]? = some v → Value.okWide Tryd.prog W .any base t v := hval0
  have hW' := hW
  obtain ⟨p, q, hA0, hV, rfl, hfz, hnd⟩ := hW
  have hA : DataW.TrodAll enc Tryd.prog W 0 (fun _ => true) true Tryd.f7.params.toList args.toList ds p := hA0
  rw [Tryd.params7] at hA hval hsz
  obtain ⟨h0, rfl, rfl⟩ := trodAll_nil hA
  obtain rfl : args = #[] := by cases args; simp_all
  obtain ⟨rfl, rfl⟩ := trodVars_none hV
  refine (walk (L.Known ) W _ hsh ⟨rfl, fun i c v hc hv => by
    match i with
    | i => simp at hc⟩).mono fun e W' ⟨he, bel⟩ => ?_
  subst he
  exact ⟨_, rfl, _, _, _, [], _, [], hW', trodAll_mk1 (shut_bool Tryd.underlying4 _), trodAll_mk0, rfl, bel.frame _, fun h => by cases h⟩
theorem over : Rows.cmdKnownRow.holds Tryd.pinned (OpenSpec.ofChange Rows.cmdKnownSpec) :=
  OpenClaim.holds_of_wide 7 Tryd.f7 rfl rfl rfl rfl rfl rfl rfl ⟨rfl, rfl, rfl, rfl, rfl⟩ rfl rfl rfl rfl rfl (by kernel_rfl) Tryd.func7 (by kernel_rfl)
    (of_decide_eq_true (by kernel_rfl)) (by unfold Func.isWrapper; first | (rw [if_pos (by decide +kernel)]; kernel_rfl) | (rw [if_neg (by decide +kernel)]; exact ⟨rfl, rfl⟩))
    (fun os started H enc _ => lifted os started H enc)
theorem proved : Rows.CmdKnownSaid := over
#print axioms proved
end Go.Proofs.YtcanagkflbbmaaaDoor.cmdKnown
namespace Go.Proofs.YtcanagkflbbmaaaDoor
/-- The row, under a short name, for the claim. -/
theorem cmdKnown_row_holds : Rows.CmdKnownSaid := cmdKnown.proved
/-- THE CARD. -/
theorem cmdKnown_holds : Rows.CmdKnownCardSaid :=
  Claim7.holds_tied_plain_at .later [] [.data, .data, .data, .data, .pinned] true (true, "e7b997b7e58be20de1991f1be982651de558e8d5666004abe80552d6e70cff66") false
    cmdKnown_row_holds (fun _ h => by cases h) (by kernel_rfl) (fun _ h => by cases h) cmdKnown_row_tie rfl ⟨rfl, rfl⟩ (by kernel_rfl) rfl
    (fun f fn hf hfn => by
      obtain rfl : f = 7 := Option.some.inj ((show Tryd.prog.funcNamed "franking/frankinglaw23.CmdKnown" = some 7 by kernel_rfl).symm.trans hf) |>.symm
      obtain rfl : fn = Tryd.f7 := (Option.some.inj (Tryd.func7.symm.trans hfn)).symm
      exact ⟨by kernel_rfl, fun j t ht => by
        rw [Tryd.params7] at ht
        simp at ht⟩)
    (by kernel_rfl)
end Go.Proofs.YtcanagkflbbmaaaDoor
