/- CmdBack, where what it reads is of bulk at most 1048576: true: the row of the second form and its card; the walk is the logic's. -/
import Derived.Test.YtcanagkflbbmaaaDoorRows
import Derived.Test.YtcanagkflbbmaaaDoorLBk3
import Derived.Test.YtcanagkflbbmaaaDoorCard
import Derived.Test.YtcanagkflbbmaaaDoorShelf
import Derived.Test.YtcanagkflbbmaaaDoorTie
import Derived.Test.YtcanagkflbbmaaaDoorCards
import Derived.Lay
import Derived.Handy
import Derived.SevenTiedAt
import Derived.Deep.DeepHandedRow
import Derived.Lib.LaidTab
import Derived.WalkKit
import Derived.ProofKit
import Derived.OpenShut
import Derived.ShutString
import Derived.ChangeOld
import Derived.Below
import Derived.SizedLaws
import Derived.HandedShaped
namespace Go.Proofs.YtcanagkflbbmaaaDoor.cmdBack
open Go.Proofs Go.ChangeShapes Go.WideShapes Go.ChangeAt Go.RowKit
open Go.ChangeMaps (open_string shut_string)
set_option linter.unusedVariables false
theorem own : ownKnob Tryd.prog.godebug = none := by kernel_rfl
theorem laidOut : laidOutB Tryd.prog = true := by kernel_rfl
theorem glob (w : World) (h : w.ShapedOpen Tryd.prog) : Go.Dev.MaxG L.ga w := Tryd.laysM219.s1_3 w h
theorem walk {ds : List Go.Dev.DV} (hp : Go.Dev.Prim L.E2 4 ds (.val (.bool true))) (W : World) (vs : Array Value) (hsh : W.ShapedOpen Tryd.prog) (hT : L.TabG W) (hv : Go.Dev.CR (Go.Dev.Old W) Go.Dev.mu0 W ds vs) : Calls Tryd.prog 4 vs W fun e W' => e = .returned (.bool true) ∧ Below W.heap.size W W' := by
  obtain ⟨_, h⟩ := hp.run L.ok2
  refine (h (Go.Dev.Old W) W vs ⟨glob W hsh, hT⟩ (L.tab_size hT) (fun B c h => h) hv).mono fun e W' ⟨v, S', he, s1, s2, s3, s4, s5, s6, hval⟩ => ?_
  have hval' : Go.Dev.V S' Go.Dev.mu0 W' (.bool true) v := hval
  cases hval'
  exact ⟨he, s6.1, s6.2.1, s6.2.2.1, s4, s5⟩
set_option maxRecDepth 100000 in
set_option maxHeartbeats 8000000 in
theorem lifted (os : Os) (started : os.Started) (H : Type) (enc : TypeId × Value → H) (F : Stop.Interp) :
    ReturnsInHanded {} Tryd.checked os 4 .any ((Rows.OpenSpec.upto Rows.cmdBackSpec).preRow enc Tryd.prog Tryd.f4 Rows.cmdBackUptoRow.domain false Rows.cmdBackUptoRow.laid) (((Rows.OpenSpec.upto Rows.cmdBackSpec).at F).post enc Tryd.prog Tryd.f4 false true false false) := by
  have hx0 : ((DataW.whole enc Tryd.prog ((World.laidAll Tryd.prog os Rows.cmdBackUptoRow.laid).forCall (fun _ _ => 0) ⟨#[], #[.agg #[.string ⟨#[]⟩, .string ⟨#[]⟩, .slice none 0 0], .slice none 0 0], []⟩).memory Tryd.f4.params.toList Rows.cmdBackSpec.vars false (#[.agg #[.string ⟨#[]⟩, .string ⟨#[]⟩, .slice none 0 0], .slice none 0 0] : Array Value).toList 8).map fun x => Rows.uptoSmall H (x.1 ++ x.2.1)) = some true := by kernel_rfl
  obtain ⟨x, hx, hxk⟩ := Option.map_eq_some_iff.1 hx0
  have hok : Input.okWideB Tryd.prog ((World.laidAll Tryd.prog os Rows.cmdBackUptoRow.laid).forCall (fun _ _ => 0) ⟨#[], #[.agg #[.string ⟨#[]⟩, .string ⟨#[]⟩, .slice none 0 0], .slice none 0 0], []⟩) 4 ⟨#[], #[.agg #[.string ⟨#[]⟩, .string ⟨#[]⟩, .slice none 0 0], .slice none 0 0], []⟩ = true := by kernel_rfl
  refine returnsInHanded_of_row (C := Tryd.checked) (s := Rows.OpenSpec.upto Rows.cmdBackSpec) own started (by kernel_rfl) Tryd.func4
    ⟨World.laidAll Tryd.prog os Rows.cmdBackUptoRow.laid, fun _ _ => 0, ⟨#[], #[.agg #[.string ⟨#[]⟩, .string ⟨#[]⟩, .slice none 0 0], .slice none 0 0], []⟩, World.laidAll_os _ _ _, World.shaped_of_ZipB (by kernel_rfl) (by kernel_rfl), (Input.okWide_of_okWideB (base := 0) hok).1, (Input.okWide_of_okWideB hok).2,
      OpenSpec.preRow_of_cond 8 hx rfl (fun k hk => by cases hk; exact hxk) (by kernel_rfl) (by rw [MakeChecks.laidMetH_plain _ _ _ (by kernel_rfl)]; exact laidMet_laidAll _ (by kernel_rfl) (by kernel_rfl)),
      by simp only [Assume.holds]; exact ⟨by simp, by simp, fun _ => Modest.zero, by simp, by simp⟩⟩ ?_
  intro W base args ds gs before hval0 hW hcnd hk0 hsz0 hL hsh _
  have hk : Rows.uptoSmall H (ds ++ gs) = true := hk0 _ rfl
  show Calls Tryd.prog 4 args W fun e W' => ∃ v, e = .returned v ∧ Rows.cmdBackSpec.post enc Tryd.prog Tryd.f4 false true false false W args v W'
  have hval : ∀ (j : Nat) t v, Tryd.f4.params[j]? = some t → args[j]? = some v → Value.okWide Tryd.prog W .any base t v := hval0
  have hW' := hW
  obtain ⟨p, q, hA0, hV, rfl, hfz, hnd⟩ := hW
  have hA : DataW.TrodAll enc Tryd.prog W 0 (fun _ => true) true Tryd.f4.params.toList args.toList ds p := hA0
  rw [Tryd.params4] at hA hval
  obtain ⟨v0, vs0, d0, ds0, p0, q0, hargs, rfl, rfl, h0, r0⟩ := trodAll_cons hA
  obtain ⟨v1, vs1, d1, ds1, p1, q1, rfl, rfl, rfl, h1, r1⟩ := trodAll_cons r0
  obtain ⟨rfl, rfl, rfl⟩ := trodAll_nil r1
  obtain rfl : args = #[v0, v1] := by cases args; simp_all
  obtain ⟨rfl, rfl⟩ := trodVars_none hV
  have lt0 : ∀ x ∈ p0, x.block < W.heap.size := by obtain ⟨m, hm⟩ := h0; exact DataW.trod_lt m _ _ _ hm
  obtain ⟨cs0, rfl, _⟩ := okWide_struct Tryd.underlying26 (hval 0 26 v0 rfl rfl)
  obtain ⟨y0, M0, V0⟩ := L.argC h0
  have lt1 : ∀ x ∈ p1, x.block < W.heap.size := by obtain ⟨m, hm⟩ := h1; exact DataW.trod_lt m _ _ _ hm
  have c1 : v1.cells.toList = [v1] := by
    obtain ⟨a, len, cap, rfl⟩ := okWide_slice Tryd.underlying22 (hval 1 22 v1 rfl rfl)
    rfl
  obtain ⟨y1, M1, V1⟩ := L.argB Tryd.underlying22 h1 c1
  have hb : Rows.uptoBulkAll ([d0, d1] ++ []) ≤ 1048576 := of_decide_eq_true hk
  simp only [List.append_nil, Rows.uptoBulkAll] at hb
  unfold L.cmdWt at M0
  refine (walk (L.Back y0 y1 (by omega)) W _ hsh (Mine.laid_tab hL "internal/strconv.uint64pow10" .u64 Lib.pow10Tab (by kernel_rfl) (g := 3) (t := 112) (e := 105) (n := 20) (by kernel_rfl) (by kernel_rfl) Tryd.underlying112 Tryd.underlying105 (by kernel_rfl) (by kernel_rfl)) ⟨rfl, fun i c v hc hv => by
    match i with
    | 0 => simp at hc hv; subst hc hv; exact V0
    | 1 => simp at hc hv; subst hc hv; exact V1
    | i + 2 => simp at hc⟩).mono fun e W' ⟨he, bel⟩ => ?_
  subst he
  exact ⟨_, rfl, _, _, _, [], _, [], hW', trodAll_mk1 (shut_bool Tryd.underlying4 _), (trodAll_cons_mk (Below.trod laidOut (by kernel_rfl) (of_decide_eq_true (by kernel_rfl)) h0 bel lt0) (trodAll_cons_mk (Below.trod laidOut (by kernel_rfl) (of_decide_eq_true (by kernel_rfl)) h1 bel lt1) trodAll_mk0)), rfl, bel.frame _, fun h => by cases h⟩
theorem over : Rows.cmdBackUptoRow.holds Tryd.pinned (Rows.OpenSpec.upto Rows.cmdBackSpec) :=
  OpenClaim.holds_of_cond 4 Tryd.f4 rfl rfl rfl rfl rfl rfl rfl ⟨rfl, rfl, rfl, rfl, rfl⟩ rfl rfl rfl rfl rfl (by kernel_rfl) Tryd.func4 (by kernel_rfl)
    (of_decide_eq_true (by kernel_rfl)) (by unfold Func.isWrapper; first | (rw [if_pos (by decide +kernel)]; kernel_rfl) | (rw [if_neg (by decide +kernel)]; exact ⟨rfl, rfl⟩))
    (fun os started H enc _ F => by rw [OpenClaim.pre_eq_preRow]; exact lifted os started H enc F)
theorem proved : Rows.CmdBackUptoSaid := over
#print axioms proved
end Go.Proofs.YtcanagkflbbmaaaDoor.cmdBack
namespace Go.Proofs.YtcanagkflbbmaaaDoor
/-- The row, under a short name, for the claim. -/
theorem cmdBack_row_holds : Rows.CmdBackUptoSaid := cmdBack.proved
/-- THE CARD. -/
theorem cmdBackUpto_holds : Rows.CmdBackUptoCardSaid :=
  Claim7.holds_tied_plain_at .later [] [.data, .data, .data, .data, .pinned] true (true, "e7b997b7e58be20de1991f1be982651de558e8d5666004abe80552d6e70cff66") false
    cmdBack_row_holds (fun _ h => by cases h) (by kernel_rfl) (fun _ h => by cases h) cmdBackUpto_row_tie rfl ⟨rfl, rfl⟩ (by kernel_rfl) rfl
    (fun f fn hf hfn => by
      obtain rfl : f = 4 := Option.some.inj ((show Tryd.prog.funcNamed "franking/frankinglaw23.CmdBack" = some 4 by kernel_rfl).symm.trans hf) |>.symm
      obtain rfl : fn = Tryd.f4 := (Option.some.inj (Tryd.func4.symm.trans hfn)).symm
      exact ⟨by kernel_rfl, fun j t ht => by
        rw [Tryd.params4] at ht
        have hm : t ∈ [26, 22] := by simpa using Array.mem_of_getElem? ht
        have hall : ([26, 22].all fun u => !Tryd.prog.wantsStandIn u) = true := by kernel_rfl
        exact (show Tryd.prog.wantsStandIn t = false by simpa using List.all_eq_true.1 hall t hm)⟩)
    (by kernel_rfl)
end Go.Proofs.YtcanagkflbbmaaaDoor
