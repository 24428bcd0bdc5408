/- By a program of this session, over the print of the kit: for each function of the program what it computes, and that its call comes to just that. -/
import Derived.Test.YtefmlibcghjncaaGreatDoorRows
import Derived.Test.YtefmlibcghjncaaGreatDoorX5
import Derived.Test.YtefmlibcghjncaaGreatDoorPSectNames
import Derived.Test.YtefmlibcghjncaaGreatDoorBulk
import Derived.Test.YtefmlibcghjncaaGreatDoorTie
import Derived.Test.YtefmlibcghjncaaGreatDoorCards
import Derived.Lay
import Derived.Handy
import Derived.SevenTiedAt
import Derived.Deep.DeepHandedRow
import Derived.Lib.LaidTab
import Derived.WalkKit
import Derived.ProofKit
import Derived.OpenShut
import Derived.ShutString
import Derived.ChangeOld
import Derived.Below
import Derived.SizedLaws
import Derived.HandedShaped
namespace Go.Proofs.YtefmlibcghjncaaGreatDoor.sectNames
open Go.Proofs Go.ChangeShapes Go.WideShapes Go.ChangeAt Go.RowKit
open Go.ChangeMaps (open_string shut_string)
set_option linter.unusedVariables false
theorem own : ownKnob Tryz.prog.godebug = none := by kernel_rfl
theorem laidOut : laidOutB Tryz.prog = true := by kernel_rfl
set_option maxRecDepth 100000 in
set_option maxHeartbeats 8000000 in
theorem lifted (os : Os) (started : os.Started) (H : Type) (enc : TypeId × Value → H) (F : Stop.Interp) :
    ReturnsInHanded {} Tryz.checked os 6 .any ((Rows.OpenSpec.upto Rows.sectNamesSpec).preRow enc Tryz.prog Tryz.f6 Rows.sectNamesUptoRow.domain false Rows.sectNamesUptoRow.laid) (((Rows.OpenSpec.upto Rows.sectNamesSpec).at F).post enc Tryz.prog Tryz.f6 false true false false) := by
  have hx0 : ((DataW.whole enc Tryz.prog ((World.laidAll Tryz.prog os Rows.sectNamesUptoRow.laid).forCall (fun _ _ => 0) ⟨#[], #[.slice none 0 0, .slice none 0 0], []⟩).memory Tryz.f6.params.toList Rows.sectNamesSpec.vars false (#[.slice none 0 0, .slice none 0 0] : Array Value).toList 8).map fun x => Rows.uptoSmall H (x.1 ++ x.2.1)) = some true := by kernel_rfl
  obtain ⟨x, hx, hxk⟩ := Option.map_eq_some_iff.1 hx0
  have hok : Input.okWideB Tryz.prog ((World.laidAll Tryz.prog os Rows.sectNamesUptoRow.laid).forCall (fun _ _ => 0) ⟨#[], #[.slice none 0 0, .slice none 0 0], []⟩) 6 ⟨#[], #[.slice none 0 0, .slice none 0 0], []⟩ = true := by kernel_rfl
  refine returnsInHanded_of_row (C := Tryz.checked) (s := Rows.OpenSpec.upto Rows.sectNamesSpec) own started (by kernel_rfl) Tryz.func6
    ⟨World.laidAll Tryz.prog os Rows.sectNamesUptoRow.laid, fun _ _ => 0, ⟨#[], #[.slice none 0 0, .slice none 0 0], []⟩, World.laidAll_os _ _ _, World.shaped_of_ZipB (by kernel_rfl) (by kernel_rfl), (Input.okWide_of_okWideB (base := 0) hok).1, (Input.okWide_of_okWideB hok).2,
      OpenSpec.preRow_of_cond 8 hx rfl (fun k hk => by cases hk; exact hxk) (by kernel_rfl) (by rw [MakeChecks.laidMetH_plain _ _ _ (by kernel_rfl)]; exact laidMet_laidAll _ (by kernel_rfl) (by kernel_rfl)),
      by simp only [Assume.holds]; exact ⟨by simp, by simp, fun _ => Modest.zero, by simp, by simp⟩⟩ ?_
  intro W base args ds gs before hval0 hW hcnd hk0 hsz0 hL hsh _
  have hk : Rows.uptoSmall H (ds ++ gs) = true := hk0 _ rfl
  show Calls Tryz.prog 6 args W fun e W' => ∃ v, e = .returned v ∧ Rows.sectNamesSpec.post enc Tryz.prog Tryz.f6 false true false false W args v W'
  have hsz : (DataW.weightsEach Tryz.prog (Tryz.f6.params.toList ++ Rows.sectNamesSpec.plain.varTypes Tryz.prog) (ds ++ gs)).all (· ≤ reachBytes) = true := hsz0
  have hval : ∀ (j : Nat) t v, Tryz.f6.params[j]? = some t → args[j]? = some v → Value.okWide Tryz.prog W .any base t v := hval0
  have hW' := hW
  obtain ⟨p, q, hA0, hV, rfl, hfz, hnd⟩ := hW
  have hA : DataW.TrodAll enc Tryz.prog W 0 (fun _ => true) true Tryz.f6.params.toList args.toList ds p := hA0
  rw [Tryz.params6] at hA hval hsz
  obtain ⟨v0, vs0, d0, ds0, p0, q0, hargs, rfl, rfl, h0, r0⟩ := trodAll_cons hA
  obtain ⟨v1, vs1, d1, ds1, p1, q1, rfl, rfl, rfl, h1, r1⟩ := trodAll_cons r0
  obtain ⟨rfl, rfl, rfl⟩ := trodAll_nil r1
  obtain rfl : args = #[v0, v1] := by cases args; simp_all
  obtain ⟨rfl, rfl⟩ := trodVars_none hV
  have lt0 : ∀ x ∈ p0, x.block < W.heap.size := by obtain ⟨m, hm⟩ := h0; exact DataW.trod_lt m _ _ _ hm
  obtain ⟨y0, K0, W0⟩ := Mine.Opens.argZ (Z := 536870912) (Mine.opens_slice Tryz.underlying30 (by kernel_rfl) (Mine.opens_int Tryz.underlying5)) h0 (Mine.weights_upto (B := 512) (by decide) (by decide) hk (by simp) (l := Mine.grow Tryz.prog 1000 [30] []) (List.contains_iff_mem.1 (by kernel_rfl)) (by kernel_rfl))
  obtain ⟨a0, len0, cap0, rfl⟩ := okWide_slice Tryz.underlying30 (hval 0 30 v0 rfl rfl)
  obtain ⟨A0, c0, e0, l0, g0⟩ := K0
  simp only [Value.cells] at e0
  obtain ⟨rfl, rfl, rfl⟩ : a0 = A0 ∧ len0 = y0.length ∧ cap0 = c0 := by simpa using e0
  have lt1 : ∀ x ∈ p1, x.block < W.heap.size := by obtain ⟨m, hm⟩ := h1; exact DataW.trod_lt m _ _ _ hm
  obtain ⟨y1, K1, W1⟩ := Mine.Opens.argZ (Z := 536870912) (Mine.opens_slice Tryz.underlying23 (by kernel_rfl) (Mine.opens_string Tryz.underlying9)) h1 (Mine.weights_upto (B := 512) (by decide) (by decide) hk (by simp) (l := Mine.grow Tryz.prog 1000 [23] []) (List.contains_iff_mem.1 (by kernel_rfl)) (by kernel_rfl))
  obtain ⟨a1, len1, cap1, rfl⟩ := okWide_slice Tryz.underlying23 (hval 1 23 v1 rfl rfl)
  obtain ⟨A1, c1, e1, l1, g1⟩ := K1
  simp only [Value.cells] at e1
  obtain ⟨rfl, rfl, rfl⟩ : a1 = A1 ∧ len1 = y1.length ∧ cap1 = c1 := by simpa using e1
  obtain ⟨k, h⟩ := Pure.SectNames y0 y1 W0 W1
  refine (X.frankinglaw17_SectNames.calls k a0 cap0 y0 a1 cap1 y1 W g0 l0 g1 l1 (Mine.Gl.start hsh (Mine.laid_tab hL "internal/strconv.uint64pow10" .u64 Lib.pow10Tab (by kernel_rfl) (g := 1) (t := 179) (e := 152) (n := 20) (by kernel_rfl) (by kernel_rfl) Tryz.underlying179 Tryz.underlying152 (by kernel_rfl) (by kernel_rfl))) h).mono fun e W' ⟨he, bel0⟩ => ?_
  have bel := bel0
  subst he
  exact ⟨_, rfl, _, _, _, [], _, [], hW', trodAll_mk1 (shut_bool Tryz.underlying4 _), (trodAll_cons_mk (Below.trod laidOut (by kernel_rfl) (of_decide_eq_true (by kernel_rfl)) h0 bel lt0) (trodAll_cons_mk (Below.trod laidOut (by kernel_rfl) (of_decide_eq_true (by kernel_rfl)) h1 bel lt1) trodAll_mk0)), rfl, bel.frame _, fun h => by cases h⟩
theorem over : Rows.sectNamesUptoRow.holds Tryz.pinned (Rows.OpenSpec.upto Rows.sectNamesSpec) :=
  OpenClaim.holds_of_cond 6 Tryz.f6 rfl rfl rfl rfl rfl rfl rfl ⟨rfl, rfl, rfl, rfl, rfl⟩ rfl rfl rfl rfl rfl (by kernel_rfl) Tryz.func6 (by kernel_rfl)
    (of_decide_eq_true (by kernel_rfl)) (by unfold Func.isWrapper; first | (rw [if_pos (by decide +kernel)]; kernel_rfl) | (rw [if_neg (by decide +kernel)]; exact ⟨rfl, rfl⟩))
    (fun os started H enc _ F => by rw [OpenClaim.pre_eq_preRow]; exact lifted os started H enc F)
theorem proved : Rows.SectNamesUptoSaid := over
#print axioms proved
end Go.Proofs.YtefmlibcghjncaaGreatDoor.sectNames
namespace Go.Proofs.YtefmlibcghjncaaGreatDoor
/-- The row, under a short name, for the claim. -/
theorem sectNames_row_holds : Rows.SectNamesUptoSaid := sectNames.proved
/-- THE CARD. -/
theorem sectNamesUpto_holds : Rows.SectNamesUptoCardSaid :=
  Claim7.holds_tied_plain_at .later [] [.data, .data, .data, .data, .pinned] true (true, "b1e0bdd1b5bf2f684da657674ab6aaf4cc1c07154658991ccd305346355b5bb7") false
    sectNames_row_holds (fun _ h => by cases h) (by kernel_rfl) (fun _ h => by cases h) sectNamesUpto_row_tie rfl ⟨rfl, rfl⟩ (by kernel_rfl) rfl
    (fun f fn hf hfn => by
      obtain rfl : f = 6 := Option.some.inj ((show Tryz.prog.funcNamed "franking/frankinglaw17.SectNames" = some 6 by kernel_rfl).symm.trans hf) |>.symm
      obtain rfl : fn = Tryz.f6 := (Option.some.inj (Tryz.func6.symm.trans hfn)).symm
      exact ⟨by kernel_rfl, fun j t ht => by
        rw [Tryz.params6] at ht
        have hm : t ∈ [30, 23] := by simpa using Array.mem_of_getElem? ht
        have hall : ([30, 23].all fun u => !Tryz.prog.wantsStandIn u) = true := by kernel_rfl
        exact (show Tryz.prog.wantsStandIn t = false by simpa using List.all_eq_true.1 hall t hm)⟩)
    (by kernel_rfl)
end Go.Proofs.YtefmlibcghjncaaGreatDoor