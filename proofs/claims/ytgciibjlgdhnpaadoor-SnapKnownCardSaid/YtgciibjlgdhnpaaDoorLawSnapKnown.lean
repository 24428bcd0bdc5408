/- SnapKnown: whatever the input, true: the kernel runs the evaluator over the program's code; that the evaluator answers as the calls do is proved ahead. -/
import Derived.Test.YtgciibjlgdhnpaaDoorRows
import Derived.Test.YtgciibjlgdhnpaaDoorDev4
import Derived.Test.YtgciibjlgdhnpaaDoorCard
import Derived.Test.YtgciibjlgdhnpaaDoorTie
import Derived.Test.YtgciibjlgdhnpaaDoorCards
import Derived.Lay
import Derived.Handy
import Derived.SevenTiedAt
import Derived.WalkKit
import Derived.ProofKit
import Derived.OpenShut
import Derived.ShutString
import Derived.ChangeOld
import Derived.Below
import Derived.SizedLaws
import Derived.HandedShaped
namespace Go.Proofs.YtgciibjlgdhnpaaDoor.snapKnown
open Go.Proofs Go.ChangeShapes Go.WideShapes Go.ChangeAt Go.RowKit
open Go.ChangeMaps (open_string shut_string)
set_option linter.unusedVariables false
theorem own : ownKnob Tryd.prog.godebug = none := by kernel_rfl
theorem names : Go.Dev.namesOk Tryd.prog = true := by kernel_rfl
set_option maxRecDepth 1000000 in
theorem run : Go.Dev.isTrue (Go.Dev.run (Go.Dev.plainC Tryd.prog [9, 11, 12, 14, 16, 17, 18, 20, 22, 23, 26, 27] 1000000) 60 5 [] []) = true := by kernel_rfl
theorem walk (W : World) : Calls Tryd.prog 5 #[] W fun e W' => e = .returned (.bool true) ∧ Below W.heap.size W W' := Go.Dev.known names run W
set_option maxRecDepth 100000 in
theorem lifted (os : Os) (started : os.Started) (H : Type) (enc : TypeId × Value → H) :
    ReturnsInHanded {} Tryd.checked os 5 .any (fun w args => (Rows.snapKnownSpec.pre enc Tryd.prog Tryd.f5 [] false w args ∧ laidMetH Tryd.prog Rows.snapKnownRow.laid w) ∧ sizedMet enc Tryd.prog Tryd.f5 (OpenSpec.ofChange Rows.snapKnownSpec) false w args) (Rows.snapKnownSpec.post enc Tryd.prog Tryd.f5 false true false false) := by
  refine Mine.handed_laid (C := Tryd.checked) own started (by kernel_rfl) Tryd.func5
    (ChangeSpec.witness_shaped (enc := enc) (C := Tryd.checked) (os := os) (X := fun w _ => laidMetH Tryd.prog Rows.snapKnownRow.laid w) false (World.laidAll Tryd.prog os Rows.snapKnownRow.laid) #[] 8 (World.laidAll_os _ _ _)
      (World.shaped_of_ZipB (by kernel_rfl) (by kernel_rfl)) (by kernel_rfl) (by kernel_rfl) (by kernel_rfl)
      (by rw [MakeChecks.laidMetH_plain _ _ _ (by kernel_rfl)]; exact laidMet_laidAll _ (by kernel_rfl) (by kernel_rfl))) ?_
  intro W base args ds gs before hval0 hW hcnd hsz0 hL hsh _
  have hW' := hW
  obtain ⟨p, q, hA0, hV, rfl, hfz, hnd⟩ := hW
  have hA : DataW.TrodAll enc Tryd.prog W 0 (fun _ => true) true Tryd.f5.params.toList args.toList ds p := hA0
  rw [Tryd.params5] at hA
  obtain ⟨rfl, rfl, rfl⟩ := trodAll_none hA
  obtain ⟨rfl, rfl⟩ := trodVars_none hV
  refine (walk W).mono fun e W' ⟨he, bel⟩ => ?_
  subst he
  exact ⟨_, rfl, _, _, _, [], _, [], hW', trodAll_mk1 (shut_bool Tryd.underlying4 _), trodAll_mk0, rfl, bel.frame _, fun h => by cases h⟩
theorem over : Rows.snapKnownRow.holds Tryd.pinned (OpenSpec.ofChange Rows.snapKnownSpec) :=
  OpenClaim.holds_of_wide 5 Tryd.f5 rfl rfl rfl rfl rfl rfl rfl ⟨rfl, rfl, rfl, rfl, rfl⟩ rfl rfl rfl rfl rfl (by kernel_rfl) Tryd.func5 (by kernel_rfl)
    (of_decide_eq_true (by kernel_rfl)) (by unfold Func.isWrapper; first | (rw [if_pos (by decide +kernel)]; kernel_rfl) | (rw [if_neg (by decide +kernel)]; exact ⟨rfl, rfl⟩))
    (fun os started H enc _ => lifted os started H enc)
theorem proved : Rows.SnapKnownSaid := over
#print axioms proved
end Go.Proofs.YtgciibjlgdhnpaaDoor.snapKnown
namespace Go.Proofs.YtgciibjlgdhnpaaDoor
/-- The row, under a short name, for the claim. -/
theorem snapKnown_row_holds : Rows.SnapKnownSaid := snapKnown.proved
/-- THE CARD. -/
theorem snapKnown_holds : Rows.SnapKnownCardSaid :=
  Claim7.holds_tied_plain_at .later [] [.data, .data, .data, .sentinel, .sentinel] true (true, "a56bd4a9c3702846839ac838bfec994d0229288d26bdc1ce0a25b673b85da957") true
    snapKnown_row_holds (fun _ h => by cases h) (by kernel_rfl) (fun _ h => by cases h) snapKnown_row_tie rfl ⟨rfl, rfl⟩ (by kernel_rfl) rfl
    (fun f fn hf hfn => by
      obtain rfl : f = 5 := Option.some.inj ((show Tryd.prog.funcNamed "franking/frankinglaw25.SnapKnown" = some 5 by kernel_rfl).symm.trans hf) |>.symm
      obtain rfl : fn = Tryd.f5 := (Option.some.inj (Tryd.func5.symm.trans hfn)).symm
      exact ⟨by kernel_rfl, fun j t ht => by
        rw [Tryd.params5] at ht
        simp at ht⟩)
    (by kernel_rfl)
end Go.Proofs.YtgciibjlgdhnpaaDoor
