/- By a program of this session, over the print of the kit: for each function of the program what it computes, and that its call comes to just that. -/
import Derived.Test.YtonlncajnniebaaDoorX0
import Derived.Test.YtonlncajnniebaaDoorX1
import Derived.Test.YtonlncajnniebaaDoorX2
import Derived.Test.YtonlncajnniebaaDoorX3
import Derived.Test.YtonlncajnniebaaDoorX4
namespace Go.Proofs.YtonlncajnniebaaDoor.X
open Go.RowKit Go.Proofs.Mine Go.Proofs.YtonlncajnniebaaDoorW.PrintWords Go.Proofs.YtonlncajnniebaaDoorW.PrintLast Go.Proofs.YtonlncajnniebaaDoorW.PrintMore
attribute [local go_sem] max2_int min2_int max_two min_two max_three min_three max_four min_four   -- for this text's walks alone
set_option linter.unusedVariables false
set_option linter.unusedSimpArgs false

/-! ### frankinglaw11_HeadParts: function 7 -/
mutual
def frankinglaw11_HeadParts.j0 : Nat → List Int → List ByteArray → Bool → Option (Bool)
 | 0, _, _, _ => none
 | k + 1, x0, x1, x21 => if x21 = true then (some true) else ((head_Fields.f k x0).bind fun t242 => ((head_Pick.f k x0 x1 false).bind fun t245 => ((head_Pick.f k x0 x1 true).bind fun t248 => (frankinglaw11_HeadParts.l0 k x0 t242 t245 t248 4 0 0))))
def frankinglaw11_HeadParts.l0 : Nat → List Int → List (S29) → List Int → List Int → Int → Int → Int → Option (Bool)
 | 0, _, _, _, _, _, _, _ => none
 | k + 1, x0, x5, x6, x7, x8, x9, x10 => if x10 < (x5.length : Int) then (if 0 ≤ x10 then (if ((rd_T29 x5 x10).f2) < x9 then (frankinglaw11_HeadParts.j2 k x0 x5 x6 x7 x8 x10 true ((rd_T29 x5 x10).f0) ((rd_T29 x5 x10).f1) ((rd_T29 x5 x10).f2) ((rd_T29 x5 x10).f3)) else (if ((rd_T29 x5 x10).f3) ≤ ((rd_T29 x5 x10).f2) then (frankinglaw11_HeadParts.j2 k x0 x5 x6 x7 x8 x10 true ((rd_T29 x5 x10).f0) ((rd_T29 x5 x10).f1) ((rd_T29 x5 x10).f2) ((rd_T29 x5 x10).f3)) else (if ((rd_T29 x5 x10).f3) > (x0.length : Int) then (frankinglaw11_HeadParts.j2 k x0 x5 x6 x7 x8 x10 true ((rd_T29 x5 x10).f0) ((rd_T29 x5 x10).f1) ((rd_T29 x5 x10).f2) ((rd_T29 x5 x10).f3)) else (if (((rd_T29 x5 x10).f0).size : Int) < 1 then (frankinglaw11_HeadParts.j2 k x0 x5 x6 x7 x8 x10 true ((rd_T29 x5 x10).f0) ((rd_T29 x5 x10).f1) ((rd_T29 x5 x10).f2) ((rd_T29 x5 x10).f3)) else (frankinglaw11_HeadParts.j2 k x0 x5 x6 x7 x8 x10 (decide ((wrap64 (((rd_T29 x5 x10).f2) + (((rd_T29 x5 x10).f0).size : Int))) ≥ (x0.length : Int))) ((rd_T29 x5 x10).f0) ((rd_T29 x5 x10).f1) ((rd_T29 x5 x10).f2) ((rd_T29 x5 x10).f3)))))) else (none)) else (if (wrap64 ((x6.length : Int) + (x7.length : Int))) = x8 then ((frankingref1_Lines.f k x0).bind fun t251 => (some (decide ((t251.length : Int) ≥ 0)))) else (some false))
def frankinglaw11_HeadParts.j2 : Nat → List Int → List (S29) → List Int → List Int → Int → Int → Bool → ByteArray → ByteArray → Int → Int → Option (Bool)
 | 0, _, _, _, _, _, _, _, _, _, _, _ => none
 | k + 1, x0, x5, x6, x7, x8, x10, x74, x256000, x256001, x256002, x256003 => if x74 = true then (some false) else (if 0 ≤ x256002 then (if x256002 ≤ (wrap64 ((wrap64 (x256002 + (x256000.size : Int))) + 1)) then (if (wrap64 ((wrap64 (x256002 + (x256000.size : Int))) + 1)) ≤ (x0.length : Int) then (if x256000.size + 1 ≤ 9223372036854775807 then (if (strOfNums ((x0.take ((wrap64 ((wrap64 (x256002 + (x256000.size : Int))) + 1)) : Int).toNat).drop (x256002 : Int).toNat)).toList = (x256000 ++ (⟨#[58]⟩ : ByteArray)).toList then (if 0 ≤ (wrap64 ((wrap64 (x256002 + (x256000.size : Int))) + 1)) then (if (wrap64 ((wrap64 (x256002 + (x256000.size : Int))) + 1)) ≤ x256003 then (if x256003 ≤ (x0.length : Int) then ((head_Value.f (strOfNums ((x0.take (x256003 : Int).toNat).drop ((wrap64 ((wrap64 (x256002 + (x256000.size : Int))) + 1)) : Int).toNat))).bind fun t258 => (if t258.toList = x256001.toList then (frankinglaw11_HeadParts.l0 k x0 x5 x6 x7 (wrap64 ((wrap64 (x8 + x256003)) - x256002)) x256003 (wrap64 (x10 + 1))) else (some false))) else (none)) else (none)) else (none)) else (some false)) else (none)) else (none)) else (none)) else (none))
end
def frankinglaw11_HeadParts.f (k : Nat) (l0 : List Int) (l1 : List ByteArray) : Option (Bool) := (frankinglaw11_awake.f k).bind fun t241 => (if t241 = true then (if (l0.length : Int) > 1500 then (frankinglaw11_HeadParts.j0 k l0 l1 true) else (frankinglaw11_HeadParts.j0 k l0 l1 (decide ((l1.length : Int) > 10)))) else (some false))
theorem frankinglaw11_HeadParts.mono_l : ∀ k, (∀ y0 y1 y2, LeO (frankinglaw11_HeadParts.j0 k y0 y1 y2) (frankinglaw11_HeadParts.j0 (k + 1) y0 y1 y2)) ∧ (∀ y0 y1 y2 y3 y4 y5 y6, LeO (frankinglaw11_HeadParts.l0 k y0 y1 y2 y3 y4 y5 y6) (frankinglaw11_HeadParts.l0 (k + 1) y0 y1 y2 y3 y4 y5 y6)) ∧ (∀ y0 y1 y2 y3 y4 y5 y6 y7 y8 y9 y10, LeO (frankinglaw11_HeadParts.j2 k y0 y1 y2 y3 y4 y5 y6 y7 y8 y9 y10) (frankinglaw11_HeadParts.j2 (k + 1) y0 y1 y2 y3 y4 y5 y6 y7 y8 y9 y10))
 | 0 => ⟨fun _ _ _ r h => by simp [frankinglaw11_HeadParts.j0] at h, fun _ _ _ _ _ _ _ r h => by simp [frankinglaw11_HeadParts.l0] at h, fun _ _ _ _ _ _ _ _ _ _ _ r h => by simp [frankinglaw11_HeadParts.j2] at h⟩
 | k + 1 => by
  obtain ⟨ih0, ih1, ih2⟩ := frankinglaw11_HeadParts.mono_l k
  refine ⟨?_, ?_, ?_⟩
  ·intro y0 y1 y2
   unfold frankinglaw11_HeadParts.j0
   repeat' first
   | (with_reducible exact ih0 _ _ _)
   | (with_reducible exact ih1 _ _ _ _ _ _ _)
   | (with_reducible exact ih2 _ _ _ _ _ _ _ _ _ _ _)
   | (with_reducible exact frankinglaw11_awake.mono _)
   | (with_reducible exact frankingref1_Lines.mono _ _)
   | (with_reducible exact head_Fields.mono _ _)
   | (with_reducible exact head_Pick.mono _ _ _ _)
   | (with_reducible exact LeO.refl _)
   | (with_reducible exact LeO.none _)
   | (with_reducible refine LeO.ite ?_ ?_)
   | (with_reducible refine LeO.bind ?_ (fun _ => ?_))
   | exact ih0 _ _ _
   | exact ih1 _ _ _ _ _ _ _
   | exact ih2 _ _ _ _ _ _ _ _ _ _ _
   | exact frankinglaw11_awake.mono _
   | exact frankingref1_Lines.mono _ _
   | exact head_Fields.mono _ _
   | exact head_Pick.mono _ _ _ _
   | exact LeO.none _
   | refine LeO.ite ?_ ?_
   | refine LeO.bind ?_ (fun _ => ?_)
  ·intro y0 y1 y2 y3 y4 y5 y6
   unfold frankinglaw11_HeadParts.l0
   repeat' first
   | (with_reducible exact ih0 _ _ _)
   | (with_reducible exact ih1 _ _ _ _ _ _ _)
   | (with_reducible exact ih2 _ _ _ _ _ _ _ _ _ _ _)
   | (with_reducible exact frankinglaw11_awake.mono _)
   | (with_reducible exact frankingref1_Lines.mono _ _)
   | (with_reducible exact head_Fields.mono _ _)
   | (with_reducible exact head_Pick.mono _ _ _ _)
   | (with_reducible exact LeO.refl _)
   | (with_reducible exact LeO.none _)
   | (with_reducible refine LeO.ite ?_ ?_)
   | (with_reducible refine LeO.bind ?_ (fun _ => ?_))
   | exact ih0 _ _ _
   | exact ih1 _ _ _ _ _ _ _
   | exact ih2 _ _ _ _ _ _ _ _ _ _ _
   | exact frankinglaw11_awake.mono _
   | exact frankingref1_Lines.mono _ _
   | exact head_Fields.mono _ _
   | exact head_Pick.mono _ _ _ _
   | exact LeO.none _
   | refine LeO.ite ?_ ?_
   | refine LeO.bind ?_ (fun _ => ?_)
  ·intro y0 y1 y2 y3 y4 y5 y6 y7 y8 y9 y10
   unfold frankinglaw11_HeadParts.j2
   repeat' first
   | (with_reducible exact ih0 _ _ _)
   | (with_reducible exact ih1 _ _ _ _ _ _ _)
   | (with_reducible exact ih2 _ _ _ _ _ _ _ _ _ _ _)
   | (with_reducible exact frankinglaw11_awake.mono _)
   | (with_reducible exact frankingref1_Lines.mono _ _)
   | (with_reducible exact head_Fields.mono _ _)
   | (with_reducible exact head_Pick.mono _ _ _ _)
   | (with_reducible exact LeO.refl _)
   | (with_reducible exact LeO.none _)
   | (with_reducible refine LeO.ite ?_ ?_)
   | (with_reducible refine LeO.bind ?_ (fun _ => ?_))
   | exact ih0 _ _ _
   | exact ih1 _ _ _ _ _ _ _
   | exact ih2 _ _ _ _ _ _ _ _ _ _ _
   | exact frankinglaw11_awake.mono _
   | exact frankingref1_Lines.mono _ _
   | exact head_Fields.mono _ _
   | exact head_Pick.mono _ _ _ _
   | exact LeO.none _
   | refine LeO.ite ?_ ?_
   | refine LeO.bind ?_ (fun _ => ?_)
theorem frankinglaw11_HeadParts.mono : ∀ a0 a1 k, LeO (frankinglaw11_HeadParts.f k a0 a1) (frankinglaw11_HeadParts.f (k + 1) a0 a1) := by
 intro a0 a1 k
 obtain ⟨ih0, ih1, ih2⟩ := frankinglaw11_HeadParts.mono_l k
 unfold frankinglaw11_HeadParts.f
 repeat' first
   | (with_reducible exact ih0 _ _ _)
   | (with_reducible exact ih1 _ _ _ _ _ _ _)
   | (with_reducible exact ih2 _ _ _ _ _ _ _ _ _ _ _)
   | (with_reducible exact frankinglaw11_awake.mono _)
   | (with_reducible exact frankingref1_Lines.mono _ _)
   | (with_reducible exact head_Fields.mono _ _)
   | (with_reducible exact head_Pick.mono _ _ _ _)
   | (with_reducible exact LeO.refl _)
   | (with_reducible exact LeO.none _)
   | (with_reducible refine LeO.ite ?_ ?_)
   | (with_reducible refine LeO.bind ?_ (fun _ => ?_))
   | exact ih0 _ _ _
   | exact ih1 _ _ _ _ _ _ _
   | exact ih2 _ _ _ _ _ _ _ _ _ _ _
   | exact frankinglaw11_awake.mono _
   | exact frankingref1_Lines.mono _ _
   | exact head_Fields.mono _ _
   | exact head_Pick.mono _ _ _ _
   | exact LeO.none _
   | refine LeO.ite ?_ ?_
   | refine LeO.bind ?_ (fun _ => ?_)
def frankinglaw11_HeadParts.T15 : Bool × List (List Nat × List Nat) := (true, [([], []), ([], []), ([1], [1]), ([], []), ([3], [3]), ([], []), ([5], [5]), ([6], [6]), ([4, 7], [4, 7]), ([8], [8]), ([0, 2, 9], [0, 2, 9]), ([10], [10]), ([], []), ([12], [12]), ([13], [13]), ([11, 14], [11, 14]), ([15], [15]), ([16], [16]), ([16], [16]), ([18, 16], [16, 18]), ([16], [16]), ([20, 16], [16, 20]), ([21, 16], [16, 21]), ([19, 22, 16], [16, 19, 22]), ([23, 16], [16, 23]), ([16], [16]), ([25, 16], [16, 25]), ([17, 24, 26, 16], [16, 17, 24, 26]), ([27, 16], [16, 27]), ([28, 16, 16], [16, 28]), ([16], [16]), ([30, 16], [16, 30]), ([29, 31, 16], [16, 29, 31]), ([16, 32], [16, 32])])
def frankinglaw11_HeadParts.B15 : List Nat := [0, 0, 2, 0, 8, 0, 32, 96, 248, 504, 1023, 2047, 0, 4096, 12288, 32767, 65535, 131071, 131071, 393215, 131071, 1179647, 3276799, 8257535, 16646143, 131071, 33685503, 134217727, 268435455, 536870911, 131071, 1073872895, 4294967295, 8589934591]
theorem frankinglaw11_HeadParts.tab15 : rtab .any (opsOf Tryd.f7 15) = frankinglaw11_HeadParts.T15 := by kernel_rfl
theorem frankinglaw11_HeadParts.bits15 : waitsOk frankinglaw11_HeadParts.T15.2 frankinglaw11_HeadParts.B15 = true := by kernel_rfl
set_option maxHeartbeats 8000000 in
set_option maxRecDepth 100000 in
theorem frankinglaw11_HeadParts.calls (k : Nat) (A0 : Option Addr) (c0 : Nat) (l0 : List Int) (A1 : Option Addr) (c1 : Nat) (l1 : List ByteArray) (w : World) (hr0 : Kd.C (Kd.int .u8) w A0 l0.length l0) (hc0 : l0.length ≤ c0) (hr1 : Kd.C Kd.string w A1 l1.length l1) (hc1 : l1.length ≤ c1) (hG : Gl w) (h : frankinglaw11_HeadParts.f k l0 l1 = some true) :
  Calls Tryd.prog 7 #[.slice A0 l0.length c0, .slice A1 l1.length c1] w fun e w' => e = .returned (.bool true) ∧ Below w.heap.size w w' := by
 have hu29 := Tryd.underlying29
 have HR0 := Aside0.mk hr0
 have HC0 := Aside0.mk hc0
 clear hr0 hc0
 have HR1 := Aside0.mk hr1
 have HC1 := Aside0.mk hc1
 clear hr1 hc1
 have HB := Aside0.mk (Below.refl w.heap.size w)
 have HG := Aside0.mk hG
 clear hG
 have H : ((frankinglaw11_awake.f k).bind fun t241 => (if t241 = true then (if (l0.length : Int) > 1500 then (frankinglaw11_HeadParts.j0 k l0 l1 true) else (frankinglaw11_HeadParts.j0 k l0 l1 (decide ((l1.length : Int) > 10)))) else (some false))) = some true := h
 clear h
 replace H := Option.bind_eq_some_iff.mp H
 obtain ⟨t241, A30, H⟩ := H
 replace H : (if t241 = true then (if (l0.length : Int) > 1500 then (frankinglaw11_HeadParts.j0 k l0 l1 true) else (frankinglaw11_HeadParts.j0 k l0 l1 (decide ((l1.length : Int) > 10)))) else (some false)) = some true := H
 have A3 := Aside0.mk A30
 clear A30
 by_cases c4 : t241 = true
 ·subst c4
  have H1 : (if (l0.length : Int) > 1500 then (frankinglaw11_HeadParts.j0 k l0 l1 true) else (frankinglaw11_HeadParts.j0 k l0 l1 (decide ((l1.length : Int) > 10)))) = some true := by (rw [if_pos rfl] at H) <;> exact H
  clear H
  have H := H1
  clear H1
  have HC5 := Aside0.mk H
  clear H
  go_enter Tryd.func7, Tryd.ntmps7
  go_upto_region 3 with (first | ((with_reducible refine gate_callee (f := 8) rfl ?_); refine goesL_ (some 12) rfl rfl Tryd.func8 (by kernel_rfl) rfl #[] rfl (by (try simp only [List.map_toArray, List.map_cons, List.map_nil]); first | done | rfl | (simp only [List.length_drop, List.length_take]; rfl)) ?_; (with_reducible refine (frankinglaw11_awake.calls k  true _ ?side1 A3.out).mono ?_); (case side1 => exact Gl.below HG.out (by repeat (first | (with_reducible first | exact HB.out | apply below_alloc | apply pw_below_drewN | apply below_drew1) | exact HB.out))); rintro e w6 ⟨rfl, hb⟩; refine ⟨_, rfl, ?_⟩; have n0_ := Aside0.mk (below_step (by repeat (first | (with_reducible first | exact HB.out | apply below_alloc | apply pw_below_drewN | apply below_drew1) | exact HB.out)) hb); clear HB; have HB := n0_; clear n0_; (try clear hb); (try clear hb2); (try clear hk); (try clear hi)))
  (try simp only [Act.put, List.setIfInBounds_toArray, List.set_cons_zero, List.set_cons_succ])
  go_cut [21] (fun v21 wc => ∃ (kq : Nat) (x21_4 : Bool), v21 = .bool x21_4 ∧ Aside0 (frankinglaw11_HeadParts.j0 kq l0 l1 x21_4 = some true) ∧ Aside0 (kq ≤ k) ∧ Aside0 (Below w.heap.size w wc))
  case first =>
   have H := HC5.out
   clear HC5
   by_cases c7 : (l0.length : Int) > 1500
   ·rw [if_pos c7] at H
    have c7b0 : decide (1500 < (l0.length : Int)) = true := decide_eq_true c7
    have c7b1 : decide (1500 < l0.length) = true := decide_eq_true (by omega)
    clear c7
    (first | rw [c7b0] | (simp only [i64_w, i32_w]; rw [c7b0]) | skip)
    have H' := Aside0.mk H
    clear H
    go_wp2
    go_meet
    case rel => exact ⟨_, (true), (by first | rfl | (simp; done) | (simp [*]; done) | (simp [bne_nil8, beq_nil8]; done)), H', ⟨by first | omega | exact Nat.le_refl _⟩, ⟨by repeat (first | (with_reducible first | exact HB.out | apply below_alloc | apply pw_below_drewN | apply below_drew1) | exact HB.out)⟩⟩
   ·rw [if_neg c7] at H
    have c7b0 : decide (1500 < (l0.length : Int)) = false := decide_eq_false c7
    have c7b1 : decide (1500 < l0.length) = false := decide_eq_false (by omega)
    clear c7
    (first | rw [c7b0] | (simp only [i64_w, i32_w]; rw [c7b0]) | skip)
    have H' := Aside0.mk H
    clear H
    go_wp2
    go_meet
    case rel => exact ⟨_, (decide ((l1.length : Int) > 10)), (by first | rfl | (simp; done) | (simp [*]; done) | (simp [bne_nil8, beq_nil8]; done)), H', ⟨by first | omega | exact Nat.le_refl _⟩, ⟨by repeat (first | (with_reducible first | exact HB.out | apply below_alloc | apply pw_below_drewN | apply below_drew1) | exact HB.out)⟩⟩
  case rest =>
   clear HC5
   try clear c1
   try clear p2
   try clear c4
   try clear c7
   try clear c7b0
   try clear c7b1
   obtain ⟨kq, x21_4, rfl, HA, HJ4, HB⟩ := hcut
   cases kq with
   | zero => exact absurd HA.out (by simp [frankinglaw11_HeadParts.j0])
   | succ kj4 =>
    have H := HA.out
    clear HA
    simp only [frankinglaw11_HeadParts.j0] at H
    by_cases c8 : x21_4 = true
    ·subst c8
     have H1 : (some true) = some true := by (rw [if_pos rfl] at H) <;> exact H
     clear H
     have H := H1
     clear H1
     clear H
     go_wp2
     go_ret
     exact ⟨by first | rfl | (simp [errW_none, errW_some] <;> rfl) | (simp [*, errW_none, errW_some] <;> rfl), by repeat (first | (with_reducible first | exact HB.out | apply below_alloc | apply pw_below_drewN | apply below_drew1) | exact HB.out)⟩
    ·replace c8 := Bool.eq_false_iff.mpr c8
     subst c8
     have H1 : ((head_Fields.f kj4 l0).bind fun t242 => ((head_Pick.f kj4 l0 l1 false).bind fun t245 => ((head_Pick.f kj4 l0 l1 true).bind fun t248 => (frankinglaw11_HeadParts.l0 kj4 l0 t242 t245 t248 4 0 0)))) = some true := by (rw [if_neg (show ¬ (false = true) by decide)] at H) <;> exact H
     clear H
     have H := H1
     clear H1
     replace H := Option.bind_eq_some_iff.mp H
     obtain ⟨t242, A90, H⟩ := H
     replace H : ((head_Pick.f kj4 l0 l1 false).bind fun t245 => ((head_Pick.f kj4 l0 l1 true).bind fun t248 => (frankinglaw11_HeadParts.l0 kj4 l0 t242 t245 t248 4 0 0))) = some true := H
     have A9 := Aside0.mk A90
     clear A90
     replace H := Option.bind_eq_some_iff.mp H
     obtain ⟨t245, A100, H⟩ := H
     replace H : ((head_Pick.f kj4 l0 l1 true).bind fun t248 => (frankinglaw11_HeadParts.l0 kj4 l0 t242 t245 t248 4 0 0)) = some true := H
     have A10 := Aside0.mk A100
     clear A100
     replace H := Option.bind_eq_some_iff.mp H
     obtain ⟨t248, A110, H⟩ := H
     replace H : (frankinglaw11_HeadParts.l0 kj4 l0 t242 t245 t248 4 0 0) = some true := H
     have A11 := Aside0.mk A110
     clear A110
     have H' := Aside0.mk H
     clear H
     go_wp2_with (first | ((with_reducible refine gate_callee (f := 10) rfl ?_); refine goesL_ (some 23) rfl rfl Tryd.func10 (by kernel_rfl) rfl #[.slice A0 l0.length c0] rfl (by (try simp only [List.map_toArray, List.map_cons, List.map_nil]); first | done | rfl | (simp only [List.length_drop, List.length_take]; rfl)) ?_; (with_reducible refine (head_Fields.calls kj4 _ _ l0 t242 _ ?side1 ?side2 ?side3 A9.out).mono ?_); (case side1 => repeat (first | exact (Kd.C_below HR0.out HB.out) | (with_reducible refine Kd.C_alloc ?_ _) | (with_reducible refine Kd.C_drewN ?_ _) | (with_reducible refine Kd.C_drew ?_))); (case side2 => exact HC0.out); (case side3 => exact Gl.below HG.out (by repeat (first | (with_reducible first | exact HB.out | apply below_alloc | apply pw_below_drewN | apply below_drew1) | exact HB.out))); rintro e w12 ⟨v243, rfl, ho0, hb⟩; refine ⟨_, rfl, ?_⟩; have n0_ := Aside0.mk (Kd.R_lower ho0 (below_size (by repeat (first | (with_reducible first | exact HB.out | apply below_alloc | apply pw_below_drewN | apply below_drew1) | exact HB.out)))); have n1_ := Aside0.mk (below_step (by repeat (first | (with_reducible first | exact HB.out | apply below_alloc | apply pw_below_drewN | apply below_drew1) | exact HB.out)) hb); clear HB; have HO244 := n0_; have HB := n1_; clear n0_ n1_; (try clear hb); (try clear hb2); (try clear hk); (try clear hi); (try clear ho0)) | ((with_reducible refine gate_callee (f := 17) rfl ?_); refine goesL_ (some 26) rfl rfl Tryd.func17 (by kernel_rfl) rfl #[.slice A0 l0.length c0, .slice A1 l1.length c1, .bool false] rfl (by (try simp only [List.map_toArray, List.map_cons, List.map_nil]); first | done | rfl | (simp only [List.length_drop, List.length_take]; rfl)) ?_; (with_reducible refine (head_Pick.calls kj4 _ _ l0 _ _ l1 false t245 _ ?side1 ?side2 ?side3 ?side4 ?side5 A10.out).mono ?_); (case side1 => repeat (first | exact (Kd.C_below HR0.out HB.out) | (with_reducible refine Kd.C_alloc ?_ _) | (with_reducible refine Kd.C_drewN ?_ _) | (with_reducible refine Kd.C_drew ?_))); (case side2 => exact HC0.out); (case side3 => repeat (first | exact (Kd.C_below HR1.out HB.out) | (with_reducible refine Kd.C_alloc ?_ _) | (with_reducible refine Kd.C_drewN ?_ _) | (with_reducible refine Kd.C_drew ?_))); (case side4 => exact HC1.out); (case side5 => exact Gl.below HG.out (by repeat (first | (with_reducible first | exact HB.out | apply below_alloc | apply pw_below_drewN | apply below_drew1) | exact HB.out))); rintro e w13 ⟨v246, rfl, ho0, hb⟩; refine ⟨_, rfl, ?_⟩; have n0_ := Aside0.mk (Kd.R_below (by (with_reducible repeat (first | apply Kd.R_alloc | apply Kd.R_drewN | apply Kd.R_drew)); exact HO244.out) hb); have n1_ := Aside0.mk (Kd.R_lower ho0 (below_size (by repeat (first | (with_reducible first | exact HB.out | apply below_alloc | apply pw_below_drewN | apply below_drew1) | exact HB.out)))); have n2_ := Aside0.mk (below_step (by repeat (first | (with_reducible first | exact HB.out | apply below_alloc | apply pw_below_drewN | apply below_drew1) | exact HB.out)) hb); clear HO244; clear HB; have HO244 := n0_; have HO247 := n1_; have HB := n2_; clear n0_ n1_ n2_; (try clear hb); (try clear hb2); (try clear hk); (try clear hi); (try clear ho0)) | ((with_reducible refine gate_callee (f := 17) rfl ?_); refine goesL_ (some 29) rfl rfl Tryd.func17 (by kernel_rfl) rfl #[.slice A0 l0.length c0, .slice A1 l1.length c1, .bool true] rfl (by (try simp only [List.map_toArray, List.map_cons, List.map_nil]); first | done | rfl | (simp only [List.length_drop, List.length_take]; rfl)) ?_; (with_reducible refine (head_Pick.calls kj4 _ _ l0 _ _ l1 true t248 _ ?side1 ?side2 ?side3 ?side4 ?side5 A11.out).mono ?_); (case side1 => repeat (first | exact (Kd.C_below HR0.out HB.out) | (with_reducible refine Kd.C_alloc ?_ _) | (with_reducible refine Kd.C_drewN ?_ _) | (with_reducible refine Kd.C_drew ?_))); (case side2 => exact HC0.out); (case side3 => repeat (first | exact (Kd.C_below HR1.out HB.out) | (with_reducible refine Kd.C_alloc ?_ _) | (with_reducible refine Kd.C_drewN ?_ _) | (with_reducible refine Kd.C_drew ?_))); (case side4 => exact HC1.out); (case side5 => exact Gl.below HG.out (by repeat (first | (with_reducible first | exact HB.out | apply below_alloc | apply pw_below_drewN | apply below_drew1) | exact HB.out))); rintro e w14 ⟨v249, rfl, ho0, hb⟩; refine ⟨_, rfl, ?_⟩; have n0_ := Aside0.mk (Kd.R_below (by (with_reducible repeat (first | apply Kd.R_alloc | apply Kd.R_drewN | apply Kd.R_drew)); exact HO244.out) hb); have n1_ := Aside0.mk (Kd.R_elder' (by (with_reducible repeat (first | apply Kd.R_alloc | apply Kd.R_drewN | apply Kd.R_drew)); exact HO247.out) (Kd.R_base ho0) hb); have n2_ := Aside0.mk (Kd.R_lower (Kd.R_new' ho0 (Kd.R_lt (by (with_reducible repeat (first | apply Kd.R_alloc | apply Kd.R_drewN | apply Kd.R_drew)); exact HO247.out))) (below_size (by repeat (first | (with_reducible first | exact HB.out | apply below_alloc | apply pw_below_drewN | apply below_drew1) | exact HB.out)))); have n3_ := Aside0.mk (below_step (by repeat (first | (with_reducible first | exact HB.out | apply below_alloc | apply pw_below_drewN | apply below_drew1) | exact HB.out)) hb); clear HO244; clear HO247; clear HB; have HO244 := n0_; have HO247 := n1_; have HO250 := n2_; have HB := n3_; clear n0_ n1_ n2_ n3_; (try clear hb); (try clear hb2); (try clear hk); (try clear hi); (try clear ho0)))
     go_loopg [8, 9, 10] kj4 (fun kq v8 v9 v10 w' => ∃ (x8_2 : Int) (x9_2 : Int) (x10_2 : Int), v8 = .int .i64 x8_2 ∧ v9 = .int .i64 x9_2 ∧ v10 = .int .i64 x10_2 ∧ Aside0 (frankinglaw11_HeadParts.l0 kq l0 t242 t245 t248 x8_2 x9_2 x10_2 = some true) ∧ Aside0 (kq ≤ kj4) ∧ Aside0 (Kd.R k29 29 w' w.heap.size (fun _ => True) v243 t242) ∧ Aside0 (Kd.R (Kd.int .u8) 5 w' w.heap.size (fun k_ => some k_ ≠ (v249 : Value).ownBlock) v246 t245) ∧ Aside0 (Kd.R (Kd.int .u8) 5 w' w.heap.size (fun k_ => some k_ ≠ (v246 : Value).ownBlock) v249 t248) ∧ Aside0 (Below w.heap.size w w'))
     case atStart => exact ⟨(4), (0), (0), (by first | rfl | (simp; done) | (simp [*]; done) | (simp [bne_nil8, beq_nil8]; done)), (by first | rfl | (simp; done) | (simp [*]; done) | (simp [bne_nil8, beq_nil8]; done)), (by first | rfl | (simp; done) | (simp [*]; done) | (simp [bne_nil8, beq_nil8]; done)), H', ⟨Nat.le_refl _⟩, ⟨by (with_reducible repeat (first | apply Kd.R_alloc | apply Kd.R_drewN | apply Kd.R_drew)); exact HO244.out⟩, ⟨by (with_reducible repeat (first | apply Kd.R_alloc | apply Kd.R_drewN | apply Kd.R_drew)); exact Kd.R_mono HO247.out (fun _ hk => hk.2)⟩, ⟨by (with_reducible repeat (first | apply Kd.R_alloc | apply Kd.R_drewN | apply Kd.R_drew)); exact Kd.R_mono HO250.out (fun _ hk => hk.2)⟩, ⟨by repeat (first | (with_reducible first | exact HB.out | apply below_alloc | apply pw_below_drewN | apply below_drew1) | exact HB.out)⟩⟩
     case round =>
      clear H'
      try clear c1
      try clear p2
      try clear c4
      try clear c7
      try clear c7b0
      try clear c7b1
      try clear c8
      try clear c10
      try clear p2
      obtain ⟨x8_2, x9_2, x10_2, rfl, rfl, rfl, HA, HK2, HO_5, HO_6, HO_7, HB⟩ := hrel
      cases gk with
      | zero => exact absurd HA.out (by simp [frankinglaw11_HeadParts.l0])
      | succ k2 =>
       have H := HA.out
       clear HA
       simp only [frankinglaw11_HeadParts.l0] at H
       by_cases c15 : x10_2 < (t242.length : Int)
       ·rw [if_pos c15] at H
        have c15b0 : decide (x10_2 < (t242.length : Int)) = true := decide_eq_true c15
        clear c15
        by_cases c16 : 0 ≤ x10_2
        ·rw [if_pos c16] at H
         have c16b0 : decide (0 ≤ x10_2) = true := decide_eq_true c16
         clear c16
         have HC17 := Aside0.mk H
         clear H
         obtain ⟨Ao18, co18, eo18⟩ := Kd.R_slice HO_5.out
         subst eo18
         have p254 : 0 ≤ (x10_2 : Int) := of_decide_eq_true (by first | (with_reducible assumption) | assumption)
         have q254 : x10_2 < (t242.length : Int) := of_decide_eq_true (by first | (with_reducible assumption) | assumption)
         obtain ⟨ad254, e254, hx254_0, hx254_1, hx254_2, hx254_3⟩ := at_T29 (Kd.R_reads' HO_5.out).2.2 x10_2 p254 q254
         cases e254
         replace p254 := eq_true p254
         replace q254 := eq_true q254
         go_upto_region 13 with (first | ((with_reducible refine gate_dst (N := 11) rfl ?_); (try (refine gate_guard (by rfl) ?_; dsimp only)); refine box_event ?hg (N := 11) ?hd (cs := #[.string (⟨#[]⟩ : ByteArray), .string (⟨#[]⟩ : ByteArray), .int .i64 0, .int .i64 0]) (t := 29) ?hr ?_; (case hd => rfl); (case hg => rfl); (case hr => first | (go_simp; done) | (go_simp; rfl)); intro gb255 hg w19 hbox hb; have n0_ := Aside0.mk (Kd.R_below (Kd.R_elderB (by (with_reducible repeat (first | apply Kd.R_alloc | apply Kd.R_drewN | apply Kd.R_drew)); exact HO_5.out) gb255 (Nat.le_of_eq hg.symm)) hb); have n1_ := Aside0.mk (Kd.R_below (by (with_reducible repeat (first | apply Kd.R_alloc | apply Kd.R_drewN | apply Kd.R_drew)); exact HO_6.out) hb); have n2_ := Aside0.mk (Kd.R_below (by (with_reducible repeat (first | apply Kd.R_alloc | apply Kd.R_drewN | apply Kd.R_drew)); exact HO_7.out) hb); have n3_ := Aside0.mk (below_step (by repeat (first | (with_reducible first | exact HB.out | apply below_alloc | apply pw_below_drewN | apply below_drew1) | exact HB.out)) hb); have n4_ := Aside0.mk (hbox); have n5_ := Aside0.mk ((by rw [hg]; exact (below_size (by repeat (first | (with_reducible first | exact HB.out | apply below_alloc | apply pw_below_drewN | apply below_drew1) | exact HB.out))) : w.heap.size ≤ gb255)); have n6_ := Aside0.mk ((by rw [hg]; exact (below_size (by repeat (first | (with_reducible first | exact HB.out | apply below_alloc | apply pw_below_drewN | apply below_drew1) | exact HB.out))) : w.heap.size ≤ gb255)); clear HO_5; clear HO_6; clear HO_7; clear HB; have HO_5 := n0_; have HO_6 := n1_; have HO_7 := n2_; have HB := n3_; have BK255 := n4_; have GW255 := n5_; have GE255 := n6_; clear n0_ n1_ n2_ n3_ n4_ n5_ n6_; clear hb hbox hg; have hcz20_0 : w19.cell? ⟨gb255, 0, none⟩ = some (.string (⟨#[]⟩ : ByteArray)) := (blk_cell BK255.out 0).trans rfl; have hcz20_1 : w19.cell? ⟨gb255, 1, none⟩ = some (.string (⟨#[]⟩ : ByteArray)) := (blk_cell BK255.out 1).trans rfl; have hcz20_2 : w19.cell? ⟨gb255, 2, none⟩ = some (.int .i64 0) := (blk_cell BK255.out 2).trans rfl; have hcz20_3 : w19.cell? ⟨gb255, 3, none⟩ = some (.int .i64 0) := (blk_cell BK255.out 3).trans rfl; have hfz20_0 := blk_frozen BK255.out 0; have hfz20_1 := blk_frozen BK255.out 1; have hfz20_2 := blk_frozen BK255.out 2; have hfz20_3 := blk_frozen BK255.out 3))
         (try simp only [Act.put, List.setIfInBounds_toArray, List.set_cons_zero, List.set_cons_succ])
         go_cut [74] (fun v74 wc => ∃ (kq : Nat) (x74_16 : Bool), v74 = .bool x74_16 ∧ Aside0 (frankinglaw11_HeadParts.j2 kq l0 t242 t245 t248 x8_2 x10_2 x74_16 ((rd_T29 t242 x10_2).f0) ((rd_T29 t242 x10_2).f1) ((rd_T29 t242 x10_2).f2) ((rd_T29 t242 x10_2).f3) = some true) ∧ Aside0 (kq ≤ k2) ∧ Aside0 (Kd.R k29 29 wc w.heap.size (fun k_ => k_ ≠ gb255) (.slice (some ad254) t242.length co18) t242) ∧ Aside0 (Kd.R (Kd.int .u8) 5 wc w.heap.size (fun k_ => some k_ ≠ (v249 : Value).ownBlock) v246 t245) ∧ Aside0 (Kd.R (Kd.int .u8) 5 wc w.heap.size (fun k_ => some k_ ≠ (v246 : Value).ownBlock) v249 t248) ∧ Aside0 (wc.heap[gb255]? = some (.cells #[.string ((rd_T29 t242 x10_2).f0), .string ((rd_T29 t242 x10_2).f1), .int .i64 ((rd_T29 t242 x10_2).f2), .int .i64 ((rd_T29 t242 x10_2).f3)] 29 (0, 0))) ∧ Aside0 (Below w.heap.size w wc))
         case first =>
          have H := HC17.out
          clear HC17
          by_cases c21 : ((rd_T29 t242 x10_2).f2) < x9_2
          ·rw [if_pos c21] at H
           have c21b0 : decide (((rd_T29 t242 x10_2).f2) < x9_2) = true := decide_eq_true c21
           clear c21
           (first | rw [c21b0] | (simp only [i64_w, i32_w]; rw [c21b0]) | skip)
           have H' := Aside0.mk H
           clear H
           have hcz22_0 : w19.cell? ⟨gb255, 0, none⟩ = some (.string (⟨#[]⟩ : ByteArray)) := (blk_cell BK255.out 0).trans rfl
           have hcz22_1 : w19.cell? ⟨gb255, 1, none⟩ = some (.string (⟨#[]⟩ : ByteArray)) := (blk_cell BK255.out 1).trans rfl
           have hcz22_2 : w19.cell? ⟨gb255, 2, none⟩ = some (.int .i64 0) := (blk_cell BK255.out 2).trans rfl
           have hcz22_3 : w19.cell? ⟨gb255, 3, none⟩ = some (.int .i64 0) := (blk_cell BK255.out 3).trans rfl
           have hfz22_0 := blk_frozen BK255.out 0
           have hfz22_1 := blk_frozen BK255.out 1
           have hfz22_2 := blk_frozen BK255.out 2
           have hfz22_3 := blk_frozen BK255.out 3
           go_wp2
           go_meet
           case rel => exact ⟨_, (true), (by first | rfl | (simp; done) | (simp [*]; done) | (simp [bne_nil8, beq_nil8]; done)), H', ⟨by have := HJ4.out; have := HK2.out; first | omega | exact Nat.le_refl _⟩, ⟨by (with_reducible repeat (first | apply Kd.R_alloc | apply Kd.R_drewN | apply Kd.R_drew)); exact Kd.R_mono (Kd.R_far (p := ⟨gb255, 3, none⟩) (Kd.R_far (p := ⟨gb255, 2, none⟩) (Kd.R_far (p := ⟨gb255, 1, none⟩) (Kd.R_far (p := ⟨gb255, 0, none⟩) (Kd.R_mono HO_5.out (fun k_ hk => (⟨hk, hk.2⟩ : _ ∧ k_ ≠ gb255))) (fun _ hk => hk.2) (.string ((rd_T29 t242 x10_2).f0))) (fun _ hk => hk.2) (.string ((rd_T29 t242 x10_2).f1))) (fun _ hk => hk.2) (.int .i64 ((rd_T29 t242 x10_2).f2))) (fun _ hk => hk.2) (.int .i64 ((rd_T29 t242 x10_2).f3))) (fun _ hk => hk.1.2)⟩, ⟨by (with_reducible repeat (first | apply Kd.R_alloc | apply Kd.R_drewN | apply Kd.R_drew)); exact Kd.R_mono (Kd.R_far (p := ⟨gb255, 3, none⟩) (Kd.R_far (p := ⟨gb255, 2, none⟩) (Kd.R_far (p := ⟨gb255, 1, none⟩) (Kd.R_far (p := ⟨gb255, 0, none⟩) (Kd.R_types HO_6.out BK255.out (by decide)) (fun _ hk => hk.2) (.string ((rd_T29 t242 x10_2).f0))) (fun _ hk => hk.2) (.string ((rd_T29 t242 x10_2).f1))) (fun _ hk => hk.2) (.int .i64 ((rd_T29 t242 x10_2).f2))) (fun _ hk => hk.2) (.int .i64 ((rd_T29 t242 x10_2).f3))) (fun _ hk => hk.1)⟩, ⟨by (with_reducible repeat (first | apply Kd.R_alloc | apply Kd.R_drewN | apply Kd.R_drew)); exact Kd.R_mono (Kd.R_far (p := ⟨gb255, 3, none⟩) (Kd.R_far (p := ⟨gb255, 2, none⟩) (Kd.R_far (p := ⟨gb255, 1, none⟩) (Kd.R_far (p := ⟨gb255, 0, none⟩) (Kd.R_types HO_7.out BK255.out (by decide)) (fun _ hk => hk.2) (.string ((rd_T29 t242 x10_2).f0))) (fun _ hk => hk.2) (.string ((rd_T29 t242 x10_2).f1))) (fun _ hk => hk.2) (.int .i64 ((rd_T29 t242 x10_2).f2))) (fun _ hk => hk.2) (.int .i64 ((rd_T29 t242 x10_2).f3))) (fun _ hk => hk.1)⟩, ⟨by (with_reducible repeat (first | refine blk_drewN ?_ _ | refine blk_drew ?_ | refine blk_alloc ?_ _)); (first | refine blk_put (cs := #[.string ((rd_T29 t242 x10_2).f0), .string ((rd_T29 t242 x10_2).f1), .int .i64 ((rd_T29 t242 x10_2).f2), .int .i64 0]) ?_ 3 _ rfl | refine blk_put (cs := #[.string ((rd_T29 t242 x10_2).f0), .string ((rd_T29 t242 x10_2).f1), .int .i64 ((rd_T29 t242 x10_2).f2), .int .i64 0]) ?_ 3 _ (by first | rfl | (simp; done))); (with_reducible repeat (first | refine blk_drewN ?_ _ | refine blk_drew ?_ | refine blk_alloc ?_ _)); (first | refine blk_put (cs := #[.string ((rd_T29 t242 x10_2).f0), .string ((rd_T29 t242 x10_2).f1), .int .i64 0, .int .i64 0]) ?_ 2 _ rfl | refine blk_put (cs := #[.string ((rd_T29 t242 x10_2).f0), .string ((rd_T29 t242 x10_2).f1), .int .i64 0, .int .i64 0]) ?_ 2 _ (by first | rfl | (simp; done))); (with_reducible repeat (first | refine blk_drewN ?_ _ | refine blk_drew ?_ | refine blk_alloc ?_ _)); (first | refine blk_put (cs := #[.string ((rd_T29 t242 x10_2).f0), .string (⟨#[]⟩ : ByteArray), .int .i64 0, .int .i64 0]) ?_ 1 _ rfl | refine blk_put (cs := #[.string ((rd_T29 t242 x10_2).f0), .string (⟨#[]⟩ : ByteArray), .int .i64 0, .int .i64 0]) ?_ 1 _ (by first | rfl | (simp; done))); (with_reducible repeat (first | refine blk_drewN ?_ _ | refine blk_drew ?_ | refine blk_alloc ?_ _)); (first | refine blk_put (cs := #[.string (⟨#[]⟩ : ByteArray), .string (⟨#[]⟩ : ByteArray), .int .i64 0, .int .i64 0]) ?_ 0 _ rfl | refine blk_put (cs := #[.string (⟨#[]⟩ : ByteArray), .string (⟨#[]⟩ : ByteArray), .int .i64 0, .int .i64 0]) ?_ 0 _ (by first | rfl | (simp; done))); (with_reducible repeat (first | refine blk_drewN ?_ _ | refine blk_drew ?_ | refine blk_alloc ?_ _)); exact BK255.out⟩, ⟨by repeat (first | (with_reducible first | exact HB.out | apply below_alloc | apply pw_below_drewN | apply below_drew1 | refine below_set ?_ GE255.out) | exact HB.out)⟩⟩
          ·rw [if_neg c21] at H
           have c21b0 : decide (((rd_T29 t242 x10_2).f2) < x9_2) = false := decide_eq_false c21
           clear c21
           (first | rw [c21b0] | (simp only [i64_w, i32_w]; rw [c21b0]) | skip)
           by_cases c23 : ((rd_T29 t242 x10_2).f3) ≤ ((rd_T29 t242 x10_2).f2)
           ·rw [if_pos c23] at H
            have c23b0 : decide (((rd_T29 t242 x10_2).f3) ≤ ((rd_T29 t242 x10_2).f2)) = true := decide_eq_true c23
            clear c23
            have H' := Aside0.mk H
            clear H
            have hcz24_0 : w19.cell? ⟨gb255, 0, none⟩ = some (.string (⟨#[]⟩ : ByteArray)) := (blk_cell BK255.out 0).trans rfl
            have hcz24_1 : w19.cell? ⟨gb255, 1, none⟩ = some (.string (⟨#[]⟩ : ByteArray)) := (blk_cell BK255.out 1).trans rfl
            have hcz24_2 : w19.cell? ⟨gb255, 2, none⟩ = some (.int .i64 0) := (blk_cell BK255.out 2).trans rfl
            have hcz24_3 : w19.cell? ⟨gb255, 3, none⟩ = some (.int .i64 0) := (blk_cell BK255.out 3).trans rfl
            have hfz24_0 := blk_frozen BK255.out 0
            have hfz24_1 := blk_frozen BK255.out 1
            have hfz24_2 := blk_frozen BK255.out 2
            have hfz24_3 := blk_frozen BK255.out 3
            go_wp2
            go_meet
            case rel => exact ⟨_, (true), (by first | rfl | (simp; done) | (simp [*]; done) | (simp [bne_nil8, beq_nil8]; done)), H', ⟨by have := HJ4.out; have := HK2.out; first | omega | exact Nat.le_refl _⟩, ⟨by (with_reducible repeat (first | apply Kd.R_alloc | apply Kd.R_drewN | apply Kd.R_drew)); exact Kd.R_mono (Kd.R_far (p := ⟨gb255, 3, none⟩) (Kd.R_far (p := ⟨gb255, 2, none⟩) (Kd.R_far (p := ⟨gb255, 1, none⟩) (Kd.R_far (p := ⟨gb255, 0, none⟩) (Kd.R_mono HO_5.out (fun k_ hk => (⟨hk, hk.2⟩ : _ ∧ k_ ≠ gb255))) (fun _ hk => hk.2) (.string ((rd_T29 t242 x10_2).f0))) (fun _ hk => hk.2) (.string ((rd_T29 t242 x10_2).f1))) (fun _ hk => hk.2) (.int .i64 ((rd_T29 t242 x10_2).f2))) (fun _ hk => hk.2) (.int .i64 ((rd_T29 t242 x10_2).f3))) (fun _ hk => hk.1.2)⟩, ⟨by (with_reducible repeat (first | apply Kd.R_alloc | apply Kd.R_drewN | apply Kd.R_drew)); exact Kd.R_mono (Kd.R_far (p := ⟨gb255, 3, none⟩) (Kd.R_far (p := ⟨gb255, 2, none⟩) (Kd.R_far (p := ⟨gb255, 1, none⟩) (Kd.R_far (p := ⟨gb255, 0, none⟩) (Kd.R_types HO_6.out BK255.out (by decide)) (fun _ hk => hk.2) (.string ((rd_T29 t242 x10_2).f0))) (fun _ hk => hk.2) (.string ((rd_T29 t242 x10_2).f1))) (fun _ hk => hk.2) (.int .i64 ((rd_T29 t242 x10_2).f2))) (fun _ hk => hk.2) (.int .i64 ((rd_T29 t242 x10_2).f3))) (fun _ hk => hk.1)⟩, ⟨by (with_reducible repeat (first | apply Kd.R_alloc | apply Kd.R_drewN | apply Kd.R_drew)); exact Kd.R_mono (Kd.R_far (p := ⟨gb255, 3, none⟩) (Kd.R_far (p := ⟨gb255, 2, none⟩) (Kd.R_far (p := ⟨gb255, 1, none⟩) (Kd.R_far (p := ⟨gb255, 0, none⟩) (Kd.R_types HO_7.out BK255.out (by decide)) (fun _ hk => hk.2) (.string ((rd_T29 t242 x10_2).f0))) (fun _ hk => hk.2) (.string ((rd_T29 t242 x10_2).f1))) (fun _ hk => hk.2) (.int .i64 ((rd_T29 t242 x10_2).f2))) (fun _ hk => hk.2) (.int .i64 ((rd_T29 t242 x10_2).f3))) (fun _ hk => hk.1)⟩, ⟨by (with_reducible repeat (first | refine blk_drewN ?_ _ | refine blk_drew ?_ | refine blk_alloc ?_ _)); (first | refine blk_put (cs := #[.string ((rd_T29 t242 x10_2).f0), .string ((rd_T29 t242 x10_2).f1), .int .i64 ((rd_T29 t242 x10_2).f2), .int .i64 0]) ?_ 3 _ rfl | refine blk_put (cs := #[.string ((rd_T29 t242 x10_2).f0), .string ((rd_T29 t242 x10_2).f1), .int .i64 ((rd_T29 t242 x10_2).f2), .int .i64 0]) ?_ 3 _ (by first | rfl | (simp; done))); (with_reducible repeat (first | refine blk_drewN ?_ _ | refine blk_drew ?_ | refine blk_alloc ?_ _)); (first | refine blk_put (cs := #[.string ((rd_T29 t242 x10_2).f0), .string ((rd_T29 t242 x10_2).f1), .int .i64 0, .int .i64 0]) ?_ 2 _ rfl | refine blk_put (cs := #[.string ((rd_T29 t242 x10_2).f0), .string ((rd_T29 t242 x10_2).f1), .int .i64 0, .int .i64 0]) ?_ 2 _ (by first | rfl | (simp; done))); (with_reducible repeat (first | refine blk_drewN ?_ _ | refine blk_drew ?_ | refine blk_alloc ?_ _)); (first | refine blk_put (cs := #[.string ((rd_T29 t242 x10_2).f0), .string (⟨#[]⟩ : ByteArray), .int .i64 0, .int .i64 0]) ?_ 1 _ rfl | refine blk_put (cs := #[.string ((rd_T29 t242 x10_2).f0), .string (⟨#[]⟩ : ByteArray), .int .i64 0, .int .i64 0]) ?_ 1 _ (by first | rfl | (simp; done))); (with_reducible repeat (first | refine blk_drewN ?_ _ | refine blk_drew ?_ | refine blk_alloc ?_ _)); (first | refine blk_put (cs := #[.string (⟨#[]⟩ : ByteArray), .string (⟨#[]⟩ : ByteArray), .int .i64 0, .int .i64 0]) ?_ 0 _ rfl | refine blk_put (cs := #[.string (⟨#[]⟩ : ByteArray), .string (⟨#[]⟩ : ByteArray), .int .i64 0, .int .i64 0]) ?_ 0 _ (by first | rfl | (simp; done))); (with_reducible repeat (first | refine blk_drewN ?_ _ | refine blk_drew ?_ | refine blk_alloc ?_ _)); exact BK255.out⟩, ⟨by repeat (first | (with_reducible first | exact HB.out | apply below_alloc | apply pw_below_drewN | apply below_drew1 | refine below_set ?_ GE255.out) | exact HB.out)⟩⟩
           ·rw [if_neg c23] at H
            have c23b0 : decide (((rd_T29 t242 x10_2).f3) ≤ ((rd_T29 t242 x10_2).f2)) = false := decide_eq_false c23
            clear c23
            by_cases c25 : ((rd_T29 t242 x10_2).f3) > (l0.length : Int)
            ·rw [if_pos c25] at H
             have c25b0 : decide ((l0.length : Int) < ((rd_T29 t242 x10_2).f3)) = true := decide_eq_true c25
             clear c25
             have H' := Aside0.mk H
             clear H
             have hcz26_0 : w19.cell? ⟨gb255, 0, none⟩ = some (.string (⟨#[]⟩ : ByteArray)) := (blk_cell BK255.out 0).trans rfl
             have hcz26_1 : w19.cell? ⟨gb255, 1, none⟩ = some (.string (⟨#[]⟩ : ByteArray)) := (blk_cell BK255.out 1).trans rfl
             have hcz26_2 : w19.cell? ⟨gb255, 2, none⟩ = some (.int .i64 0) := (blk_cell BK255.out 2).trans rfl
             have hcz26_3 : w19.cell? ⟨gb255, 3, none⟩ = some (.int .i64 0) := (blk_cell BK255.out 3).trans rfl
             have hfz26_0 := blk_frozen BK255.out 0
             have hfz26_1 := blk_frozen BK255.out 1
             have hfz26_2 := blk_frozen BK255.out 2
             have hfz26_3 := blk_frozen BK255.out 3
             go_wp2
             go_meet
             case rel => exact ⟨_, (true), (by first | rfl | (simp; done) | (simp [*]; done) | (simp [bne_nil8, beq_nil8]; done)), H', ⟨by have := HJ4.out; have := HK2.out; first | omega | exact Nat.le_refl _⟩, ⟨by (with_reducible repeat (first | apply Kd.R_alloc | apply Kd.R_drewN | apply Kd.R_drew)); exact Kd.R_mono (Kd.R_far (p := ⟨gb255, 3, none⟩) (Kd.R_far (p := ⟨gb255, 2, none⟩) (Kd.R_far (p := ⟨gb255, 1, none⟩) (Kd.R_far (p := ⟨gb255, 0, none⟩) (Kd.R_mono HO_5.out (fun k_ hk => (⟨hk, hk.2⟩ : _ ∧ k_ ≠ gb255))) (fun _ hk => hk.2) (.string ((rd_T29 t242 x10_2).f0))) (fun _ hk => hk.2) (.string ((rd_T29 t242 x10_2).f1))) (fun _ hk => hk.2) (.int .i64 ((rd_T29 t242 x10_2).f2))) (fun _ hk => hk.2) (.int .i64 ((rd_T29 t242 x10_2).f3))) (fun _ hk => hk.1.2)⟩, ⟨by (with_reducible repeat (first | apply Kd.R_alloc | apply Kd.R_drewN | apply Kd.R_drew)); exact Kd.R_mono (Kd.R_far (p := ⟨gb255, 3, none⟩) (Kd.R_far (p := ⟨gb255, 2, none⟩) (Kd.R_far (p := ⟨gb255, 1, none⟩) (Kd.R_far (p := ⟨gb255, 0, none⟩) (Kd.R_types HO_6.out BK255.out (by decide)) (fun _ hk => hk.2) (.string ((rd_T29 t242 x10_2).f0))) (fun _ hk => hk.2) (.string ((rd_T29 t242 x10_2).f1))) (fun _ hk => hk.2) (.int .i64 ((rd_T29 t242 x10_2).f2))) (fun _ hk => hk.2) (.int .i64 ((rd_T29 t242 x10_2).f3))) (fun _ hk => hk.1)⟩, ⟨by (with_reducible repeat (first | apply Kd.R_alloc | apply Kd.R_drewN | apply Kd.R_drew)); exact Kd.R_mono (Kd.R_far (p := ⟨gb255, 3, none⟩) (Kd.R_far (p := ⟨gb255, 2, none⟩) (Kd.R_far (p := ⟨gb255, 1, none⟩) (Kd.R_far (p := ⟨gb255, 0, none⟩) (Kd.R_types HO_7.out BK255.out (by decide)) (fun _ hk => hk.2) (.string ((rd_T29 t242 x10_2).f0))) (fun _ hk => hk.2) (.string ((rd_T29 t242 x10_2).f1))) (fun _ hk => hk.2) (.int .i64 ((rd_T29 t242 x10_2).f2))) (fun _ hk => hk.2) (.int .i64 ((rd_T29 t242 x10_2).f3))) (fun _ hk => hk.1)⟩, ⟨by (with_reducible repeat (first | refine blk_drewN ?_ _ | refine blk_drew ?_ | refine blk_alloc ?_ _)); (first | refine blk_put (cs := #[.string ((rd_T29 t242 x10_2).f0), .string ((rd_T29 t242 x10_2).f1), .int .i64 ((rd_T29 t242 x10_2).f2), .int .i64 0]) ?_ 3 _ rfl | refine blk_put (cs := #[.string ((rd_T29 t242 x10_2).f0), .string ((rd_T29 t242 x10_2).f1), .int .i64 ((rd_T29 t242 x10_2).f2), .int .i64 0]) ?_ 3 _ (by first | rfl | (simp; done))); (with_reducible repeat (first | refine blk_drewN ?_ _ | refine blk_drew ?_ | refine blk_alloc ?_ _)); (first | refine blk_put (cs := #[.string ((rd_T29 t242 x10_2).f0), .string ((rd_T29 t242 x10_2).f1), .int .i64 0, .int .i64 0]) ?_ 2 _ rfl | refine blk_put (cs := #[.string ((rd_T29 t242 x10_2).f0), .string ((rd_T29 t242 x10_2).f1), .int .i64 0, .int .i64 0]) ?_ 2 _ (by first | rfl | (simp; done))); (with_reducible repeat (first | refine blk_drewN ?_ _ | refine blk_drew ?_ | refine blk_alloc ?_ _)); (first | refine blk_put (cs := #[.string ((rd_T29 t242 x10_2).f0), .string (⟨#[]⟩ : ByteArray), .int .i64 0, .int .i64 0]) ?_ 1 _ rfl | refine blk_put (cs := #[.string ((rd_T29 t242 x10_2).f0), .string (⟨#[]⟩ : ByteArray), .int .i64 0, .int .i64 0]) ?_ 1 _ (by first | rfl | (simp; done))); (with_reducible repeat (first | refine blk_drewN ?_ _ | refine blk_drew ?_ | refine blk_alloc ?_ _)); (first | refine blk_put (cs := #[.string (⟨#[]⟩ : ByteArray), .string (⟨#[]⟩ : ByteArray), .int .i64 0, .int .i64 0]) ?_ 0 _ rfl | refine blk_put (cs := #[.string (⟨#[]⟩ : ByteArray), .string (⟨#[]⟩ : ByteArray), .int .i64 0, .int .i64 0]) ?_ 0 _ (by first | rfl | (simp; done))); (with_reducible repeat (first | refine blk_drewN ?_ _ | refine blk_drew ?_ | refine blk_alloc ?_ _)); exact BK255.out⟩, ⟨by repeat (first | (with_reducible first | exact HB.out | apply below_alloc | apply pw_below_drewN | apply below_drew1 | refine below_set ?_ GE255.out) | exact HB.out)⟩⟩
            ·rw [if_neg c25] at H
             have c25b0 : decide ((l0.length : Int) < ((rd_T29 t242 x10_2).f3)) = false := decide_eq_false c25
             clear c25
             by_cases c27 : (((rd_T29 t242 x10_2).f0).size : Int) < 1
             ·rw [if_pos c27] at H
              have c27b0 : decide ((((rd_T29 t242 x10_2).f0).size : Int) < 1) = true := decide_eq_true c27
              have c27b1 : decide (((rd_T29 t242 x10_2).f0).size < 1) = true := decide_eq_true (by omega)
              clear c27
              have H' := Aside0.mk H
              clear H
              have hcz28_0 : w19.cell? ⟨gb255, 0, none⟩ = some (.string (⟨#[]⟩ : ByteArray)) := (blk_cell BK255.out 0).trans rfl
              have hcz28_1 : w19.cell? ⟨gb255, 1, none⟩ = some (.string (⟨#[]⟩ : ByteArray)) := (blk_cell BK255.out 1).trans rfl
              have hcz28_2 : w19.cell? ⟨gb255, 2, none⟩ = some (.int .i64 0) := (blk_cell BK255.out 2).trans rfl
              have hcz28_3 : w19.cell? ⟨gb255, 3, none⟩ = some (.int .i64 0) := (blk_cell BK255.out 3).trans rfl
              have hfz28_0 := blk_frozen BK255.out 0
              have hfz28_1 := blk_frozen BK255.out 1
              have hfz28_2 := blk_frozen BK255.out 2
              have hfz28_3 := blk_frozen BK255.out 3
              go_wp2
              go_meet
              case rel => exact ⟨_, (true), (by first | rfl | (simp; done) | (simp [*]; done) | (simp [bne_nil8, beq_nil8]; done)), H', ⟨by have := HJ4.out; have := HK2.out; first | omega | exact Nat.le_refl _⟩, ⟨by (with_reducible repeat (first | apply Kd.R_alloc | apply Kd.R_drewN | apply Kd.R_drew)); exact Kd.R_mono (Kd.R_far (p := ⟨gb255, 3, none⟩) (Kd.R_far (p := ⟨gb255, 2, none⟩) (Kd.R_far (p := ⟨gb255, 1, none⟩) (Kd.R_far (p := ⟨gb255, 0, none⟩) (Kd.R_mono HO_5.out (fun k_ hk => (⟨hk, hk.2⟩ : _ ∧ k_ ≠ gb255))) (fun _ hk => hk.2) (.string ((rd_T29 t242 x10_2).f0))) (fun _ hk => hk.2) (.string ((rd_T29 t242 x10_2).f1))) (fun _ hk => hk.2) (.int .i64 ((rd_T29 t242 x10_2).f2))) (fun _ hk => hk.2) (.int .i64 ((rd_T29 t242 x10_2).f3))) (fun _ hk => hk.1.2)⟩, ⟨by (with_reducible repeat (first | apply Kd.R_alloc | apply Kd.R_drewN | apply Kd.R_drew)); exact Kd.R_mono (Kd.R_far (p := ⟨gb255, 3, none⟩) (Kd.R_far (p := ⟨gb255, 2, none⟩) (Kd.R_far (p := ⟨gb255, 1, none⟩) (Kd.R_far (p := ⟨gb255, 0, none⟩) (Kd.R_types HO_6.out BK255.out (by decide)) (fun _ hk => hk.2) (.string ((rd_T29 t242 x10_2).f0))) (fun _ hk => hk.2) (.string ((rd_T29 t242 x10_2).f1))) (fun _ hk => hk.2) (.int .i64 ((rd_T29 t242 x10_2).f2))) (fun _ hk => hk.2) (.int .i64 ((rd_T29 t242 x10_2).f3))) (fun _ hk => hk.1)⟩, ⟨by (with_reducible repeat (first | apply Kd.R_alloc | apply Kd.R_drewN | apply Kd.R_drew)); exact Kd.R_mono (Kd.R_far (p := ⟨gb255, 3, none⟩) (Kd.R_far (p := ⟨gb255, 2, none⟩) (Kd.R_far (p := ⟨gb255, 1, none⟩) (Kd.R_far (p := ⟨gb255, 0, none⟩) (Kd.R_types HO_7.out BK255.out (by decide)) (fun _ hk => hk.2) (.string ((rd_T29 t242 x10_2).f0))) (fun _ hk => hk.2) (.string ((rd_T29 t242 x10_2).f1))) (fun _ hk => hk.2) (.int .i64 ((rd_T29 t242 x10_2).f2))) (fun _ hk => hk.2) (.int .i64 ((rd_T29 t242 x10_2).f3))) (fun _ hk => hk.1)⟩, ⟨by (with_reducible repeat (first | refine blk_drewN ?_ _ | refine blk_drew ?_ | refine blk_alloc ?_ _)); (first | refine blk_put (cs := #[.string ((rd_T29 t242 x10_2).f0), .string ((rd_T29 t242 x10_2).f1), .int .i64 ((rd_T29 t242 x10_2).f2), .int .i64 0]) ?_ 3 _ rfl | refine blk_put (cs := #[.string ((rd_T29 t242 x10_2).f0), .string ((rd_T29 t242 x10_2).f1), .int .i64 ((rd_T29 t242 x10_2).f2), .int .i64 0]) ?_ 3 _ (by first | rfl | (simp; done))); (with_reducible repeat (first | refine blk_drewN ?_ _ | refine blk_drew ?_ | refine blk_alloc ?_ _)); (first | refine blk_put (cs := #[.string ((rd_T29 t242 x10_2).f0), .string ((rd_T29 t242 x10_2).f1), .int .i64 0, .int .i64 0]) ?_ 2 _ rfl | refine blk_put (cs := #[.string ((rd_T29 t242 x10_2).f0), .string ((rd_T29 t242 x10_2).f1), .int .i64 0, .int .i64 0]) ?_ 2 _ (by first | rfl | (simp; done))); (with_reducible repeat (first | refine blk_drewN ?_ _ | refine blk_drew ?_ | refine blk_alloc ?_ _)); (first | refine blk_put (cs := #[.string ((rd_T29 t242 x10_2).f0), .string (⟨#[]⟩ : ByteArray), .int .i64 0, .int .i64 0]) ?_ 1 _ rfl | refine blk_put (cs := #[.string ((rd_T29 t242 x10_2).f0), .string (⟨#[]⟩ : ByteArray), .int .i64 0, .int .i64 0]) ?_ 1 _ (by first | rfl | (simp; done))); (with_reducible repeat (first | refine blk_drewN ?_ _ | refine blk_drew ?_ | refine blk_alloc ?_ _)); (first | refine blk_put (cs := #[.string (⟨#[]⟩ : ByteArray), .string (⟨#[]⟩ : ByteArray), .int .i64 0, .int .i64 0]) ?_ 0 _ rfl | refine blk_put (cs := #[.string (⟨#[]⟩ : ByteArray), .string (⟨#[]⟩ : ByteArray), .int .i64 0, .int .i64 0]) ?_ 0 _ (by first | rfl | (simp; done))); (with_reducible repeat (first | refine blk_drewN ?_ _ | refine blk_drew ?_ | refine blk_alloc ?_ _)); exact BK255.out⟩, ⟨by repeat (first | (with_reducible first | exact HB.out | apply below_alloc | apply pw_below_drewN | apply below_drew1 | refine below_set ?_ GE255.out) | exact HB.out)⟩⟩
             ·rw [if_neg c27] at H
              have c27b0 : decide ((((rd_T29 t242 x10_2).f0).size : Int) < 1) = false := decide_eq_false c27
              have c27b1 : decide (((rd_T29 t242 x10_2).f0).size < 1) = false := decide_eq_false (by omega)
              clear c27
              have H' := Aside0.mk H
              clear H
              have hcz29_0 : w19.cell? ⟨gb255, 0, none⟩ = some (.string (⟨#[]⟩ : ByteArray)) := (blk_cell BK255.out 0).trans rfl
              have hcz29_1 : w19.cell? ⟨gb255, 1, none⟩ = some (.string (⟨#[]⟩ : ByteArray)) := (blk_cell BK255.out 1).trans rfl
              have hcz29_2 : w19.cell? ⟨gb255, 2, none⟩ = some (.int .i64 0) := (blk_cell BK255.out 2).trans rfl
              have hcz29_3 : w19.cell? ⟨gb255, 3, none⟩ = some (.int .i64 0) := (blk_cell BK255.out 3).trans rfl
              have hfz29_0 := blk_frozen BK255.out 0
              have hfz29_1 := blk_frozen BK255.out 1
              have hfz29_2 := blk_frozen BK255.out 2
              have hfz29_3 := blk_frozen BK255.out 3
              go_wp2
              go_meet
              case rel => exact ⟨_, (decide ((wrap64 (((rd_T29 t242 x10_2).f2) + (((rd_T29 t242 x10_2).f0).size : Int))) ≥ (l0.length : Int))), (by first | rfl | (simp; done) | (simp [*]; done) | (simp [bne_nil8, beq_nil8]; done)), H', ⟨by have := HJ4.out; have := HK2.out; first | omega | exact Nat.le_refl _⟩, ⟨by (with_reducible repeat (first | apply Kd.R_alloc | apply Kd.R_drewN | apply Kd.R_drew)); exact Kd.R_mono (Kd.R_far (p := ⟨gb255, 3, none⟩) (Kd.R_far (p := ⟨gb255, 2, none⟩) (Kd.R_far (p := ⟨gb255, 1, none⟩) (Kd.R_far (p := ⟨gb255, 0, none⟩) (Kd.R_mono HO_5.out (fun k_ hk => (⟨hk, hk.2⟩ : _ ∧ k_ ≠ gb255))) (fun _ hk => hk.2) (.string ((rd_T29 t242 x10_2).f0))) (fun _ hk => hk.2) (.string ((rd_T29 t242 x10_2).f1))) (fun _ hk => hk.2) (.int .i64 ((rd_T29 t242 x10_2).f2))) (fun _ hk => hk.2) (.int .i64 ((rd_T29 t242 x10_2).f3))) (fun _ hk => hk.1.2)⟩, ⟨by (with_reducible repeat (first | apply Kd.R_alloc | apply Kd.R_drewN | apply Kd.R_drew)); exact Kd.R_mono (Kd.R_far (p := ⟨gb255, 3, none⟩) (Kd.R_far (p := ⟨gb255, 2, none⟩) (Kd.R_far (p := ⟨gb255, 1, none⟩) (Kd.R_far (p := ⟨gb255, 0, none⟩) (Kd.R_types HO_6.out BK255.out (by decide)) (fun _ hk => hk.2) (.string ((rd_T29 t242 x10_2).f0))) (fun _ hk => hk.2) (.string ((rd_T29 t242 x10_2).f1))) (fun _ hk => hk.2) (.int .i64 ((rd_T29 t242 x10_2).f2))) (fun _ hk => hk.2) (.int .i64 ((rd_T29 t242 x10_2).f3))) (fun _ hk => hk.1)⟩, ⟨by (with_reducible repeat (first | apply Kd.R_alloc | apply Kd.R_drewN | apply Kd.R_drew)); exact Kd.R_mono (Kd.R_far (p := ⟨gb255, 3, none⟩) (Kd.R_far (p := ⟨gb255, 2, none⟩) (Kd.R_far (p := ⟨gb255, 1, none⟩) (Kd.R_far (p := ⟨gb255, 0, none⟩) (Kd.R_types HO_7.out BK255.out (by decide)) (fun _ hk => hk.2) (.string ((rd_T29 t242 x10_2).f0))) (fun _ hk => hk.2) (.string ((rd_T29 t242 x10_2).f1))) (fun _ hk => hk.2) (.int .i64 ((rd_T29 t242 x10_2).f2))) (fun _ hk => hk.2) (.int .i64 ((rd_T29 t242 x10_2).f3))) (fun _ hk => hk.1)⟩, ⟨by (with_reducible repeat (first | refine blk_drewN ?_ _ | refine blk_drew ?_ | refine blk_alloc ?_ _)); (first | refine blk_put (cs := #[.string ((rd_T29 t242 x10_2).f0), .string ((rd_T29 t242 x10_2).f1), .int .i64 ((rd_T29 t242 x10_2).f2), .int .i64 0]) ?_ 3 _ rfl | refine blk_put (cs := #[.string ((rd_T29 t242 x10_2).f0), .string ((rd_T29 t242 x10_2).f1), .int .i64 ((rd_T29 t242 x10_2).f2), .int .i64 0]) ?_ 3 _ (by first | rfl | (simp; done))); (with_reducible repeat (first | refine blk_drewN ?_ _ | refine blk_drew ?_ | refine blk_alloc ?_ _)); (first | refine blk_put (cs := #[.string ((rd_T29 t242 x10_2).f0), .string ((rd_T29 t242 x10_2).f1), .int .i64 0, .int .i64 0]) ?_ 2 _ rfl | refine blk_put (cs := #[.string ((rd_T29 t242 x10_2).f0), .string ((rd_T29 t242 x10_2).f1), .int .i64 0, .int .i64 0]) ?_ 2 _ (by first | rfl | (simp; done))); (with_reducible repeat (first | refine blk_drewN ?_ _ | refine blk_drew ?_ | refine blk_alloc ?_ _)); (first | refine blk_put (cs := #[.string ((rd_T29 t242 x10_2).f0), .string (⟨#[]⟩ : ByteArray), .int .i64 0, .int .i64 0]) ?_ 1 _ rfl | refine blk_put (cs := #[.string ((rd_T29 t242 x10_2).f0), .string (⟨#[]⟩ : ByteArray), .int .i64 0, .int .i64 0]) ?_ 1 _ (by first | rfl | (simp; done))); (with_reducible repeat (first | refine blk_drewN ?_ _ | refine blk_drew ?_ | refine blk_alloc ?_ _)); (first | refine blk_put (cs := #[.string (⟨#[]⟩ : ByteArray), .string (⟨#[]⟩ : ByteArray), .int .i64 0, .int .i64 0]) ?_ 0 _ rfl | refine blk_put (cs := #[.string (⟨#[]⟩ : ByteArray), .string (⟨#[]⟩ : ByteArray), .int .i64 0, .int .i64 0]) ?_ 0 _ (by first | rfl | (simp; done))); (with_reducible repeat (first | refine blk_drewN ?_ _ | refine blk_drew ?_ | refine blk_alloc ?_ _)); exact BK255.out⟩, ⟨by repeat (first | (with_reducible first | exact HB.out | apply below_alloc | apply pw_below_drewN | apply below_drew1 | refine below_set ?_ GE255.out) | exact HB.out)⟩⟩
         case rest =>
          clear HC17
          try clear c1
          try clear c2
          try clear p2
          try clear q2
          try clear hx2
          try clear c4
          try clear p6
          try clear c7
          try clear c7b0
          try clear c7b1
          try clear c8
          try clear c10
          try clear c15
          try clear c15b0
          try clear c16
          try clear c16b0
          try clear c17
          try clear c21
          try clear c21b0
          try clear c23
          try clear c23b0
          try clear c25
          try clear c25b0
          try clear p25
          try clear q25
          try clear hx25
          try clear c27
          try clear c27b0
          try clear c27b1
          try clear hcz20_0
          try clear hcz20_1
          try clear hcz20_2
          try clear hcz20_3
          try clear hcz22_0
          try clear hcz22_1
          try clear hcz22_2
          try clear hcz22_3
          try clear hcz24_0
          try clear hcz24_1
          try clear hcz24_2
          try clear hcz24_3
          try clear hcz26_0
          try clear hcz26_1
          try clear hcz26_2
          try clear hcz26_3
          try clear hcz28_0
          try clear hcz28_1
          try clear hcz28_2
          try clear hcz28_3
          try clear hcz29_0
          try clear hcz29_1
          try clear hcz29_2
          try clear hcz29_3
          try clear hfz20_0
          try clear hfz20_1
          try clear hfz20_2
          try clear hfz20_3
          try clear hfz22_0
          try clear hfz22_1
          try clear hfz22_2
          try clear hfz22_3
          try clear hfz24_0
          try clear hfz24_1
          try clear hfz24_2
          try clear hfz24_3
          try clear hfz26_0
          try clear hfz26_1
          try clear hfz26_2
          try clear hfz26_3
          try clear hfz28_0
          try clear hfz28_1
          try clear hfz28_2
          try clear hfz28_3
          try clear hfz29_0
          try clear hfz29_1
          try clear hfz29_2
          try clear hfz29_3
          try clear hx254_0
          try clear hx254_1
          try clear hx254_2
          try clear hx254_3
          try clear p2
          try clear p254
          try clear q254
          obtain ⟨kq, x74_16, rfl, HA, HJ16, HO_5, HO_6, HO_7, BK255, HB⟩ := hcut
          cases kq with
          | zero => exact absurd HA.out (by simp [frankinglaw11_HeadParts.j2])
          | succ kj16 =>
           have H := HA.out
           clear HA
           simp only [frankinglaw11_HeadParts.j2] at H
           by_cases c30 : x74_16 = true
           ·subst c30
            have H1 : (some false) = some true := by (rw [if_pos rfl] at H) <;> exact H
            clear H
            have H := H1
            clear H1
            exact absurd (Option.some.inj H) (by decide)
           ·replace c30 := Bool.eq_false_iff.mpr c30
            subst c30
            have H1 : (if 0 ≤ ((rd_T29 t242 x10_2).f2) then (if ((rd_T29 t242 x10_2).f2) ≤ (wrap64 ((wrap64 (((rd_T29 t242 x10_2).f2) + (((rd_T29 t242 x10_2).f0).size : Int))) + 1)) then (if (wrap64 ((wrap64 (((rd_T29 t242 x10_2).f2) + (((rd_T29 t242 x10_2).f0).size : Int))) + 1)) ≤ (l0.length : Int) then (if ((rd_T29 t242 x10_2).f0).size + 1 ≤ 9223372036854775807 then (if (strOfNums ((l0.take ((wrap64 ((wrap64 (((rd_T29 t242 x10_2).f2) + (((rd_T29 t242 x10_2).f0).size : Int))) + 1)) : Int).toNat).drop (((rd_T29 t242 x10_2).f2) : Int).toNat)).toList = (((rd_T29 t242 x10_2).f0) ++ (⟨#[58]⟩ : ByteArray)).toList then (if 0 ≤ (wrap64 ((wrap64 (((rd_T29 t242 x10_2).f2) + (((rd_T29 t242 x10_2).f0).size : Int))) + 1)) then (if (wrap64 ((wrap64 (((rd_T29 t242 x10_2).f2) + (((rd_T29 t242 x10_2).f0).size : Int))) + 1)) ≤ ((rd_T29 t242 x10_2).f3) then (if ((rd_T29 t242 x10_2).f3) ≤ (l0.length : Int) then ((head_Value.f (strOfNums ((l0.take (((rd_T29 t242 x10_2).f3) : Int).toNat).drop ((wrap64 ((wrap64 (((rd_T29 t242 x10_2).f2) + (((rd_T29 t242 x10_2).f0).size : Int))) + 1)) : Int).toNat))).bind fun t258 => (if t258.toList = ((rd_T29 t242 x10_2).f1).toList then (frankinglaw11_HeadParts.l0 kj16 l0 t242 t245 t248 (wrap64 ((wrap64 (x8_2 + ((rd_T29 t242 x10_2).f3))) - ((rd_T29 t242 x10_2).f2))) ((rd_T29 t242 x10_2).f3) (wrap64 (x10_2 + 1))) else (some false))) else (none)) else (none)) else (none)) else (some false)) else (none)) else (none)) else (none)) else (none)) = some true := by (rw [if_neg (show ¬ (false = true) by decide)] at H) <;> exact H
            clear H
            have H := H1
            clear H1
            by_cases c31 : 0 ≤ ((rd_T29 t242 x10_2).f2)
            ·rw [if_pos c31] at H
             have c31b0 := eq_true c31
             have c31b1 : decide (0 ≤ ((rd_T29 t242 x10_2).f2)) = true := decide_eq_true c31
             clear c31
             by_cases c32 : ((rd_T29 t242 x10_2).f2) ≤ (wrap64 ((wrap64 (((rd_T29 t242 x10_2).f2) + (((rd_T29 t242 x10_2).f0).size : Int))) + 1))
             ·rw [if_pos c32] at H
              have c32b0 := eq_true c32
              have c32b1 : decide (((rd_T29 t242 x10_2).f2) ≤ (wrap64 ((wrap64 (((rd_T29 t242 x10_2).f2) + (((rd_T29 t242 x10_2).f0).size : Int))) + 1))) = true := decide_eq_true c32
              by_cases c33 : (wrap64 ((wrap64 (((rd_T29 t242 x10_2).f2) + (((rd_T29 t242 x10_2).f0).size : Int))) + 1)) ≤ (l0.length : Int)
              ·rw [if_pos c33] at H
               have c33b0 := eq_true c33
               have c33b1 : decide ((wrap64 ((wrap64 (((rd_T29 t242 x10_2).f2) + (((rd_T29 t242 x10_2).f0).size : Int))) + 1)) ≤ (l0.length : Int)) = true := decide_eq_true c33
               by_cases c34 : ((rd_T29 t242 x10_2).f0).size + 1 ≤ 9223372036854775807
               ·rw [if_pos c34] at H
                have c34b0 := eq_true c34
                have c34b1 : decide (((rd_T29 t242 x10_2).f0).size + 1 ≤ 9223372036854775807) = true := decide_eq_true c34
                try have c34b2 : (9223372036854775807 < ((rd_T29 t242 x10_2).f0).size + 1) = False := eq_false (Nat.not_lt.2 c34)
                by_cases c35 : (strOfNums ((l0.take ((wrap64 ((wrap64 (((rd_T29 t242 x10_2).f2) + (((rd_T29 t242 x10_2).f0).size : Int))) + 1)) : Int).toNat).drop (((rd_T29 t242 x10_2).f2) : Int).toNat)).toList = (((rd_T29 t242 x10_2).f0) ++ (⟨#[58]⟩ : ByteArray)).toList
                ·rw [if_pos c35] at H
                 have c35b0 : ((strOfNums ((l0.take ((wrap64 ((wrap64 (((rd_T29 t242 x10_2).f2) + (((rd_T29 t242 x10_2).f0).size : Int))) + 1)) : Int).toNat).drop (((rd_T29 t242 x10_2).f2) : Int).toNat)).toList == (((rd_T29 t242 x10_2).f0) ++ (⟨#[58]⟩ : ByteArray)).toList) = true := beq_iff_eq.mpr c35
                 have c35b1 : ((strOfNums ((l0.take ((wrap64 ((wrap64 (((rd_T29 t242 x10_2).f2) + (((rd_T29 t242 x10_2).f0).size : Int))) + 1)) : Int).toNat).drop (((rd_T29 t242 x10_2).f2) : Int).toNat)).toList != (((rd_T29 t242 x10_2).f0) ++ (⟨#[58]⟩ : ByteArray)).toList) = false := bne_eq_false_iff_eq.mpr c35
                 (try (have c35b0w : ((strOfNums ((l0.take ((IntKind.i64.wrap ((IntKind.i64.wrap (((rd_T29 t242 x10_2).f2) + (((rd_T29 t242 x10_2).f0).size : Int))) + 1)) : Int).toNat).drop (((rd_T29 t242 x10_2).f2) : Int).toNat)).toList == (((rd_T29 t242 x10_2).f0) ++ (⟨#[58]⟩ : ByteArray)).toList) = true := (by simp only [i64_w]; exact c35b0)))
                 (try (have c35b1w : ((strOfNums ((l0.take ((IntKind.i64.wrap ((IntKind.i64.wrap (((rd_T29 t242 x10_2).f2) + (((rd_T29 t242 x10_2).f0).size : Int))) + 1)) : Int).toNat).drop (((rd_T29 t242 x10_2).f2) : Int).toNat)).toList != (((rd_T29 t242 x10_2).f0) ++ (⟨#[58]⟩ : ByteArray)).toList) = false := (by simp only [i64_w]; exact c35b1)))
                 clear c35
                 obtain ⟨ji36, hji36⟩ : ∃ j_ : Int, (wrap64 ((wrap64 (((rd_T29 t242 x10_2).f2) + (((rd_T29 t242 x10_2).f0).size : Int))) + 1)) = j_ := ⟨_, rfl⟩
                 replace H : (if 0 ≤ (ji36) then (if (ji36) ≤ ((rd_T29 t242 x10_2).f3) then (if ((rd_T29 t242 x10_2).f3) ≤ (l0.length : Int) then ((head_Value.f (strOfNums ((l0.take (((rd_T29 t242 x10_2).f3) : Int).toNat).drop ((ji36) : Int).toNat))).bind fun t258 => (if t258.toList = ((rd_T29 t242 x10_2).f1).toList then (frankinglaw11_HeadParts.l0 kj16 l0 t242 t245 t248 (wrap64 ((wrap64 (x8_2 + ((rd_T29 t242 x10_2).f3))) - ((rd_T29 t242 x10_2).f2))) ((rd_T29 t242 x10_2).f3) (wrap64 (x10_2 + 1))) else (some false))) else (none)) else (none)) else (none)) = some true := by first | (rw [hji36] at H; exact H) | (simp only [hji36] at H ⊢; exact H)
                 (try rw [hji36] at c32b0)
                 (try rw [hji36] at c32b1)
                 (try rw [hji36] at c32)
                 (try rw [hji36] at c33b0)
                 (try rw [hji36] at c33b1)
                 (try rw [hji36] at c33)
                 (try rw [hji36] at c35b0)
                 (try rw [hji36] at c35b1)
                 have hji36w : (IntKind.i64.wrap ((wrap64 (((rd_T29 t242 x10_2).f2) + (((rd_T29 t242 x10_2).f0).size : Int))) + 1)) = ji36 := (i64_w _).trans hji36
                 by_cases c37 : 0 ≤ (ji36)
                 ·rw [if_pos c37] at H
                  have c37b0 := eq_true c37
                  have c37b1 : decide (0 ≤ (ji36)) = true := decide_eq_true c37
                  clear c37
                  by_cases c38 : (ji36) ≤ ((rd_T29 t242 x10_2).f3)
                  ·rw [if_pos c38] at H
                   have c38b0 := eq_true c38
                   have c38b1 : decide ((ji36) ≤ ((rd_T29 t242 x10_2).f3)) = true := decide_eq_true c38
                   clear c38
                   by_cases c39 : ((rd_T29 t242 x10_2).f3) ≤ (l0.length : Int)
                   ·rw [if_pos c39] at H
                    have c39b0 := eq_true c39
                    have c39b1 : decide (((rd_T29 t242 x10_2).f3) ≤ (l0.length : Int)) = true := decide_eq_true c39
                    clear c39
                    replace H := Option.bind_eq_some_iff.mp H
                    obtain ⟨t258, A400, H⟩ := H
                    replace H : (if t258.toList = ((rd_T29 t242 x10_2).f1).toList then (frankinglaw11_HeadParts.l0 kj16 l0 t242 t245 t248 (wrap64 ((wrap64 (x8_2 + ((rd_T29 t242 x10_2).f3))) - ((rd_T29 t242 x10_2).f2))) ((rd_T29 t242 x10_2).f3) (wrap64 (x10_2 + 1))) else (some false)) = some true := H
                    have A40 := Aside0.mk A400
                    clear A400
                    by_cases c41 : t258.toList = ((rd_T29 t242 x10_2).f1).toList
                    ·rw [if_pos c41] at H
                     have c41b0 : (t258.toList == ((rd_T29 t242 x10_2).f1).toList) = true := beq_iff_eq.mpr c41
                     have c41b1 : (t258.toList != ((rd_T29 t242 x10_2).f1).toList) = false := bne_eq_false_iff_eq.mpr c41
                     clear c41
                     have H' := Aside0.mk H
                     clear H
                     try go_wp2
                     have n0_ := Aside0.mk (Kd.R_drew HO_5.out)
                     have n1_ := Aside0.mk (Kd.R_drew HO_6.out)
                     have n2_ := Aside0.mk (Kd.R_drew HO_7.out)
                     have n3_ := Aside0.mk (blk_drew BK255.out)
                     have n4_ := Aside0.mk (below_drew1 HB.out)
                     clear HO_5
                     clear HO_6
                     clear HO_7
                     clear BK255
                     clear HB
                     have HO_5 := n0_
                     have HO_6 := n1_
                     have HO_7 := n2_
                     have BK255 := n3_
                     have HB := n4_
                     clear n0_ n1_ n2_ n3_ n4_
                     obtain ⟨i043, hi043, _, hsz43, _⟩ := info_parts info5
                     obtain ⟨A43, hcut43, hA43, hC43⟩ := print_mid_of (P := Tryd.prog) (Value.int .u8) 0 27 5 .i64 .i64 Tryd.underlying27 hi043 hsz43 A0 c0 l0 ((rd_T29 t242 x10_2).f2) (ji36) (of_decide_eq_true (by first | (with_reducible assumption) | assumption)) (by first | omega | exact of_decide_eq_true (by first | (with_reducible assumption) | assumption)) (of_decide_eq_true (by first | (with_reducible assumption) | assumption)) HC0.out
                     have HR256 := Aside0.mk (Kd.C_of_reads (h1 := fun _ => rfl) (hA43 _ (Kd.reads_of_C HR0.out)))
                     have HC256 := Aside0.mk hC43
                     clear hA43 hC43 hi043 hsz43
                     have hcv44 := Kd.C_string (P := Tryd.prog) (A := A43) (c := (c0 - ((rd_T29 t242 x10_2).f2).toNat)) Tryd.underlying27 Tryd.underlying5 Tryd.underlying9 (Kd.C_below HR256.out HB.out)
                     have hcw45 := fun n_ : Nat => Kd.C_string (P := Tryd.prog) (A := A43) (c := (c0 - ((rd_T29 t242 x10_2).f2).toNat)) Tryd.underlying27 Tryd.underlying5 Tryd.underlying9 (Kd.C_drewN (Kd.C_below HR256.out HB.out) n_)
                     obtain ⟨i046, hi046, _, hsz46, _⟩ := info_parts info5
                     obtain ⟨A46, hcut46, hA46, hC46⟩ := print_mid_of (P := Tryd.prog) (Value.int .u8) 0 27 5 .i64 .i64 Tryd.underlying27 hi046 hsz46 A0 c0 l0 (ji36) ((rd_T29 t242 x10_2).f3) (of_decide_eq_true (by first | (with_reducible assumption) | assumption)) (by first | omega | exact of_decide_eq_true (by first | (with_reducible assumption) | assumption)) (of_decide_eq_true (by first | (with_reducible assumption) | assumption)) HC0.out
                     have HR257 := Aside0.mk (Kd.C_of_reads (h1 := fun _ => rfl) (hA46 _ (Kd.reads_of_C HR0.out)))
                     have HC257 := Aside0.mk hC46
                     clear hA46 hC46 hi046 hsz46
                     have hcv47 := Kd.C_string (P := Tryd.prog) (A := A46) (c := (c0 - (ji36).toNat)) Tryd.underlying27 Tryd.underlying5 Tryd.underlying9 (Kd.C_below HR257.out HB.out)
                     have hcw48 := fun n_ : Nat => Kd.C_string (P := Tryd.prog) (A := A46) (c := (c0 - (ji36).toNat)) Tryd.underlying27 Tryd.underlying5 Tryd.underlying9 (Kd.C_drewN (Kd.C_below HR257.out HB.out) n_)
                     refine start_ (n := 34) (S := fun w' => w'.cell? ⟨gb255, 0, none⟩ = some (.string ((rd_T29 t242 x10_2).f0)) ∧ w'.cell? ⟨gb255, 1, none⟩ = some (.string ((rd_T29 t242 x10_2).f1)) ∧ w'.cell? ⟨gb255, 2, none⟩ = some (.int .i64 ((rd_T29 t242 x10_2).f2)) ∧ w'.cell? ⟨gb255, 3, none⟩ = some (.int .i64 ((rd_T29 t242 x10_2).f3)) ∧ (∀ n_ : Nat, n_ = ((l0.take ((ji36)).toNat).drop (((rd_T29 t242 x10_2).f2)).toNat).length → (convert 27 9 (Value.slice A43 n_ (c0 - ((rd_T29 t242 x10_2).f2).toNat))).run Tryd.prog w' = .ok (.string (strOfNums ((l0.take ((ji36)).toNat).drop (((rd_T29 t242 x10_2).f2)).toNat))) w') ∧ (∀ n_ : Nat, n_ = ((l0.take (((rd_T29 t242 x10_2).f3)).toNat).drop ((ji36)).toNat).length → (convert 27 9 (Value.slice A46 n_ (c0 - (ji36).toNat))).run Tryd.prog w' = .ok (.string (strOfNums ((l0.take (((rd_T29 t242 x10_2).f3)).toNat).drop ((ji36)).toNat))) w')) (ds := []) #[false, false, false, false, false, false, false, false, false, false, false, false, false, false, false, false, false, false, false, false, false, false, false, false, false, false, false, false, false, false, false, false, false, false] (by kernel_rfl) rfl rfl ⟨(blk_cell BK255.out 0).trans rfl, (blk_cell BK255.out 1).trans rfl, (blk_cell BK255.out 2).trans rfl, (blk_cell BK255.out 3).trans rfl, (fun n_ hn_ => by subst hn_; exact Kd.C_string (P := Tryd.prog) (A := A43) (c := (c0 - ((rd_T29 t242 x10_2).f2).toNat)) Tryd.underlying27 Tryd.underlying5 Tryd.underlying9 (Kd.C_below HR256.out HB.out)), (fun n_ hn_ => by subst hn_; exact Kd.C_string (P := Tryd.prog) (A := A46) (c := (c0 - (ji36).toNat)) Tryd.underlying27 Tryd.underlying5 Tryd.underlying9 (Kd.C_below HR257.out HB.out))⟩ (fun hHeld => ?_); refine with_tabW frankinglaw11_HeadParts.tab15 frankinglaw11_HeadParts.bits15 (fun HT_ HW_ => ?_)
                     generalize wc.drew = w42 at HO_5 HO_6 HO_7 BK255 HB HR256 HR257 hHeld ⊢
                     refine pure_ (i := 0) (N := some 75) (v := ?_) (a' := ?_) #[true, false, false, false, false, false, false, false, false, false, false, false, false, false, false, false, false, false, false, false, false, false, false, false, false, false, false, false, false, false, false, false, false, false] rfl rfl (any_of HT_.out (by kernel_rfl)) (fun _ _ _ h => h) (Or.inl ⟨by rfl, ?_⟩) ?_ ?_
                     rotate_left
                     ·intro w'
                      go_simp
                      with_reducible rfl
                     rotate_left
                     ·simp only [Act.put, List.setIfInBounds_toArray, List.set_cons_zero, List.set_cons_succ, i64_w, i32_w]
                      rfl
                     refine pure_ (i := 1) (N := some 76) (v := ?_) (a' := ?_) #[true, true, false, false, false, false, false, false, false, false, false, false, false, false, false, false, false, false, false, false, false, false, false, false, false, false, false, false, false, false, false, false, false, false] rfl rfl (any_of HT_.out (by kernel_rfl)) (fun _ _ _ h => h) (Or.inl ⟨by rfl, ?_⟩) ?_ ?_
                     rotate_left
                     ·intro w'
                      go_simp
                      with_reducible rfl
                     rotate_left
                     ·simp only [Act.put, List.setIfInBounds_toArray, List.set_cons_zero, List.set_cons_succ, i64_w, i32_w]
                      rfl
                     refine pure_ (i := 3) (N := some 78) (v := ?_) (a' := ?_) #[true, true, false, true, false, false, false, false, false, false, false, false, false, false, false, false, false, false, false, false, false, false, false, false, false, false, false, false, false, false, false, false, false, false] rfl rfl (any_of HT_.out (by kernel_rfl)) (fun _ _ _ h => h) (Or.inl ⟨by rfl, ?_⟩) ?_ ?_
                     rotate_left
                     ·intro w'
                      go_simp
                      with_reducible rfl
                     rotate_left
                     ·simp only [Act.put, List.setIfInBounds_toArray, List.set_cons_zero, List.set_cons_succ, i64_w, i32_w]
                      rfl
                     refine pure_ (i := 5) (N := some 80) (v := ?_) (a' := ?_) #[true, true, false, true, false, true, false, false, false, false, false, false, false, false, false, false, false, false, false, false, false, false, false, false, false, false, false, false, false, false, false, false, false, false] rfl rfl (any_of HT_.out (by kernel_rfl)) (fun _ _ _ h => h) (Or.inl ⟨by rfl, ?_⟩) ?_ ?_
                     rotate_left
                     ·intro w'
                      go_simp
                      with_reducible rfl
                     rotate_left
                     ·simp only [Act.put, List.setIfInBounds_toArray, List.set_cons_zero, List.set_cons_succ, i64_w, i32_w]
                      rfl
                     refine pure_ (i := 12) (N := some 87) (v := ?_) (a' := ?_) #[true, true, false, true, false, true, false, false, false, false, false, false, true, false, false, false, false, false, false, false, false, false, false, false, false, false, false, false, false, false, false, false, false, false] rfl rfl (any_of HT_.out (by kernel_rfl)) (fun _ _ _ h => h) (Or.inl ⟨by rfl, ?_⟩) ?_ ?_
                     rotate_left
                     ·intro w'
                      go_simp
                      with_reducible rfl
                     rotate_left
                     ·simp only [Act.put, List.setIfInBounds_toArray, List.set_cons_zero, List.set_cons_succ, i64_w, i32_w]
                      rfl
                     refine take_ (i := 2) (N := some 77) (v := ?_) (a' := ?_) #[true, true, true, true, false, true, false, false, false, false, false, false, true, false, false, false, false, false, false, false, false, false, false, false, false, false, false, false, false, false, false, false, false, false] rfl rfl (take_ofW HT_.out HW_.out (by kernel_rfl)) (fun _ _ _ h => h) (Or.inl ⟨by rfl, ?_⟩) hHeld ?_ ?_
                     rotate_left
                     ·rintro w' ⟨s0, s1, s2, s3, s4, s5⟩
                      go_simp
                      with_reducible rfl
                     rotate_left
                     ·simp only [Act.put, List.setIfInBounds_toArray, List.set_cons_zero, List.set_cons_succ, i64_w, i32_w]
                      rfl
                     refine take_ (i := 4) (N := some 79) (v := ?_) (a' := ?_) #[true, true, true, true, true, true, false, false, false, false, false, false, true, false, false, false, false, false, false, false, false, false, false, false, false, false, false, false, false, false, false, false, false, false] rfl rfl (take_ofW HT_.out HW_.out (by kernel_rfl)) (fun _ _ _ h => h) (Or.inl ⟨by rfl, ?_⟩) hHeld ?_ ?_
                     rotate_left
                     ·rintro w' ⟨s0, s1, s2, s3, s4, s5⟩
                      go_simp
                      with_reducible rfl
                     rotate_left
                     ·simp only [Act.put, List.setIfInBounds_toArray, List.set_cons_zero, List.set_cons_succ, i64_w, i32_w]
                      rfl
                     refine take_ (i := 6) (N := some 81) (v := ?_) (a' := ?_) #[true, true, true, true, true, true, true, false, false, false, false, false, true, false, false, false, false, false, false, false, false, false, false, false, false, false, false, false, false, false, false, false, false, false] rfl rfl (take_ofW HT_.out HW_.out (by kernel_rfl)) (fun _ _ _ h => h) (Or.inl ⟨by rfl, ?_⟩) hHeld ?_ ?_
                     rotate_left
                     ·rintro w' ⟨s0, s1, s2, s3, s4, s5⟩
                      go_simp
                      with_reducible rfl
                     rotate_left
                     ·simp only [Act.put, List.setIfInBounds_toArray, List.set_cons_zero, List.set_cons_succ, i64_w, i32_w]
                      rfl
                     refine pure_ (i := 7) (N := some 82) (v := ?_) (a' := ?_) #[true, true, true, true, true, true, true, true, false, false, false, false, true, false, false, false, false, false, false, false, false, false, false, false, false, false, false, false, false, false, false, false, false, false] rfl rfl (any_of HT_.out (by kernel_rfl)) (fun _ _ _ h => h) (Or.inl ⟨by rfl, ?_⟩) ?_ ?_
                     rotate_left
                     ·intro w'
                      go_simp
                      with_reducible rfl
                     rotate_left
                     ·simp only [Act.put, List.setIfInBounds_toArray, List.set_cons_zero, List.set_cons_succ, i64_w, i32_w]
                      rfl
                     refine pure_ (i := 8) (N := some 83) (v := ?_) (a' := ?_) #[true, true, true, true, true, true, true, true, true, false, false, false, true, false, false, false, false, false, false, false, false, false, false, false, false, false, false, false, false, false, false, false, false, false] rfl rfl (any_of HT_.out (by kernel_rfl)) (fun _ _ _ h => h) (Or.inl ⟨by rfl, ?_⟩) ?_ ?_
                     rotate_left
                     ·intro w'
                      go_simp
                      with_reducible rfl
                     rotate_left
                     ·simp only [Act.put, List.setIfInBounds_toArray, List.set_cons_zero, List.set_cons_succ, i64_w, i32_w]
                      rfl
                     refine pure_ (i := 9) (N := some 84) (v := ?_) (a' := ?_) #[true, true, true, true, true, true, true, true, true, true, false, false, true, false, false, false, false, false, false, false, false, false, false, false, false, false, false, false, false, false, false, false, false, false] rfl rfl (any_of HT_.out (by kernel_rfl)) (fun _ _ _ h => h) (Or.inl ⟨by rfl, ?_⟩) ?_ ?_
                     rotate_left
                     ·intro w'
                      go_simp
                      with_reducible rfl
                     rotate_left
                     ·simp only [Act.put, List.setIfInBounds_toArray, List.set_cons_zero, List.set_cons_succ, i64_w, i32_w]
                      rfl
                     refine pure_ (i := 10) (N := some 85) (v := ?_) (a' := ?_) #[true, true, true, true, true, true, true, true, true, true, true, false, true, false, false, false, false, false, false, false, false, false, false, false, false, false, false, false, false, false, false, false, false, false] rfl rfl (any_of HT_.out (by kernel_rfl)) (fun _ _ _ h => h) (Or.inl ⟨by rfl, ?_⟩) ?_ ?_
                     rotate_left
                     ·intro w'
                      go_simp
                      with_reducible rfl
                     rotate_left
                     ·simp only [Act.put, List.setIfInBounds_toArray, List.set_cons_zero, List.set_cons_succ, i64_w, i32_w]
                      rfl
                     refine take_ (i := 11) (N := some 86) (v := ?_) (a' := ?_) #[true, true, true, true, true, true, true, true, true, true, true, true, true, false, false, false, false, false, false, false, false, false, false, false, false, false, false, false, false, false, false, false, false, false] rfl rfl (take_ofW HT_.out HW_.out (by kernel_rfl)) (fun _ _ _ h => h) (Or.inl ⟨by rfl, ?_⟩) hHeld ?_ ?_
                     rotate_left
                     ·rintro w' ⟨s0, s1, s2, s3, s4, s5⟩
                      go_simp
                      with_reducible rfl
                     rotate_left
                     ·simp only [Act.put, List.setIfInBounds_toArray, List.set_cons_zero, List.set_cons_succ, i64_w, i32_w]
                      rfl
                     refine take_ (i := 13) (N := some 88) (v := ?_) (a' := ?_) #[true, true, true, true, true, true, true, true, true, true, true, true, true, true, false, false, false, false, false, false, false, false, false, false, false, false, false, false, false, false, false, false, false, false] rfl rfl (take_ofW HT_.out HW_.out (by kernel_rfl)) (fun _ _ _ h => h) (Or.inl ⟨by rfl, ?_⟩) hHeld ?_ ?_
                     rotate_left
                     ·rintro w' ⟨s0, s1, s2, s3, s4, s5⟩
                      go_simp
                      with_reducible rfl
                     rotate_left
                     ·simp only [Act.put, List.setIfInBounds_toArray, List.set_cons_zero, List.set_cons_succ, i64_w, i32_w]
                      rfl
                     refine pure_ (i := 14) (N := some 89) (v := ?_) (a' := ?_) #[true, true, true, true, true, true, true, true, true, true, true, true, true, true, true, false, false, false, false, false, false, false, false, false, false, false, false, false, false, false, false, false, false, false] rfl rfl (any_of HT_.out (by kernel_rfl)) (fun _ _ _ h => h) (Or.inl ⟨by rfl, ?_⟩) ?_ ?_
                     rotate_left
                     ·intro w'
                      go_simp
                      with_reducible rfl
                     rotate_left
                     ·simp only [Act.put, List.setIfInBounds_toArray, List.set_cons_zero, List.set_cons_succ, i64_w, i32_w]
                      rfl
                     refine pure_ (i := 15) (N := some 90) (v := ?_) (a' := ?_) #[true, true, true, true, true, true, true, true, true, true, true, true, true, true, true, true, false, false, false, false, false, false, false, false, false, false, false, false, false, false, false, false, false, false] rfl rfl (any_of HT_.out (by kernel_rfl)) (fun _ _ _ h => h) (Or.inl ⟨by rfl, ?_⟩) ?_ ?_
                     rotate_left
                     ·intro w'
                      go_simp
                      with_reducible rfl
                     rotate_left
                     ·simp only [Act.put, List.setIfInBounds_toArray, List.set_cons_zero, List.set_cons_succ, i64_w, i32_w]
                      rfl
                     refine pure_ (i := 16) (N := some 91) (v := ?_) (a' := ?_) #[true, true, true, true, true, true, true, true, true, true, true, true, true, true, true, true, true, false, false, false, false, false, false, false, false, false, false, false, false, false, false, false, false, false] rfl rfl (any_of HT_.out (by kernel_rfl)) (fun _ _ _ h => h) (Or.inl ⟨by rfl, ?_⟩) ?_ ?_
                     rotate_left
                     ·intro w'
                      go_simp
                      with_reducible rfl
                     rotate_left
                     ·simp only [Act.put, List.setIfInBounds_toArray, List.set_cons_zero, List.set_cons_succ, i64_w, i32_w]
                      rfl
                     refine pure_ (i := 17) (N := some 92) (v := ?_) (a' := ?_) #[true, true, true, true, true, true, true, true, true, true, true, true, true, true, true, true, true, true, false, false, false, false, false, false, false, false, false, false, false, false, false, false, false, false] rfl rfl (any_of HT_.out (by kernel_rfl)) (fun _ _ _ h => h) (Or.inl ⟨by rfl, ?_⟩) ?_ ?_
                     rotate_left
                     ·intro w'
                      go_simp
                      with_reducible rfl
                     rotate_left
                     ·simp only [Act.put, List.setIfInBounds_toArray, List.set_cons_zero, List.set_cons_succ, i64_w, i32_w]
                      rfl
                     refine pure_ (i := 18) (N := some 93) (v := ?_) (a' := ?_) #[true, true, true, true, true, true, true, true, true, true, true, true, true, true, true, true, true, true, true, false, false, false, false, false, false, false, false, false, false, false, false, false, false, false] rfl rfl (any_of HT_.out (by kernel_rfl)) (fun _ _ _ h => h) (Or.inl ⟨by rfl, ?_⟩) ?_ ?_
                     rotate_left
                     ·intro w'
                      go_simp
                      with_reducible rfl
                     rotate_left
                     ·simp only [Act.put, List.setIfInBounds_toArray, List.set_cons_zero, List.set_cons_succ, i64_w, i32_w]
                      rfl
                     refine pure_ (i := 20) (N := some 95) (v := ?_) (a' := ?_) #[true, true, true, true, true, true, true, true, true, true, true, true, true, true, true, true, true, true, true, false, true, false, false, false, false, false, false, false, false, false, false, false, false, false] rfl rfl (any_of HT_.out (by kernel_rfl)) (fun _ _ _ h => h) (Or.inl ⟨by rfl, ?_⟩) ?_ ?_
                     rotate_left
                     ·intro w'
                      go_simp
                      with_reducible rfl
                     rotate_left
                     ·simp only [Act.put, List.setIfInBounds_toArray, List.set_cons_zero, List.set_cons_succ, i64_w, i32_w]
                      rfl
                     refine pure_ (i := 25) (N := some 100) (v := ?_) (a' := ?_) #[true, true, true, true, true, true, true, true, true, true, true, true, true, true, true, true, true, true, true, false, true, false, false, false, false, true, false, false, false, false, false, false, false, false] rfl rfl (any_of HT_.out (by kernel_rfl)) (fun _ _ _ h => h) (Or.inl ⟨by rfl, ?_⟩) ?_ ?_
                     rotate_left
                     ·intro w'
                      go_simp
                      with_reducible rfl
                     rotate_left
                     ·simp only [Act.put, List.setIfInBounds_toArray, List.set_cons_zero, List.set_cons_succ, i64_w, i32_w]
                      rfl
                     refine pure_ (i := 30) (N := some 105) (v := ?_) (a' := ?_) #[true, true, true, true, true, true, true, true, true, true, true, true, true, true, true, true, true, true, true, false, true, false, false, false, false, true, false, false, false, false, true, false, false, false] rfl rfl (any_of HT_.out (by kernel_rfl)) (fun _ _ _ h => h) (Or.inl ⟨by rfl, ?_⟩) ?_ ?_
                     rotate_left
                     ·intro w'
                      go_simp
                      with_reducible rfl
                     rotate_left
                     ·simp only [Act.put, List.setIfInBounds_toArray, List.set_cons_zero, List.set_cons_succ, i64_w, i32_w]
                      rfl
                     refine take_ (i := 19) (N := some 94) (v := ?_) (a' := ?_) #[true, true, true, true, true, true, true, true, true, true, true, true, true, true, true, true, true, true, true, true, true, false, false, false, false, true, false, false, false, false, true, false, false, false] rfl rfl (take_ofW HT_.out HW_.out (by kernel_rfl)) (fun _ _ _ h => h) (Or.inl ⟨by rfl, ?_⟩) hHeld ?_ ?_
                     rotate_left
                     ·rintro w' ⟨s0, s1, s2, s3, s4, s5⟩
                      go_simp
                      with_reducible rfl
                     rotate_left
                     ·simp only [Act.put, List.setIfInBounds_toArray, List.set_cons_zero, List.set_cons_succ, i64_w, i32_w]
                      rfl
                     refine take_ (i := 21) (N := some 96) (v := ?_) (a' := ?_) #[true, true, true, true, true, true, true, true, true, true, true, true, true, true, true, true, true, true, true, true, true, true, false, false, false, true, false, false, false, false, true, false, false, false] rfl rfl (take_ofW HT_.out HW_.out (by kernel_rfl)) (fun _ _ _ h => h) (Or.inl ⟨by rfl, ?_⟩) hHeld ?_ ?_
                     rotate_left
                     ·rintro w' ⟨s0, s1, s2, s3, s4, s5⟩
                      go_simp
                      with_reducible rfl
                     rotate_left
                     ·simp only [Act.put, List.setIfInBounds_toArray, List.set_cons_zero, List.set_cons_succ, i64_w, i32_w]
                      rfl
                     refine pure_ (i := 22) (N := some 97) (v := ?_) (a' := ?_) #[true, true, true, true, true, true, true, true, true, true, true, true, true, true, true, true, true, true, true, true, true, true, true, false, false, true, false, false, false, false, true, false, false, false] rfl rfl (any_of HT_.out (by kernel_rfl)) (fun _ _ _ h => h) (Or.inl ⟨by rfl, ?_⟩) ?_ ?_
                     rotate_left
                     ·intro w'
                      go_simp
                      with_reducible rfl
                     rotate_left
                     ·simp only [Act.put, List.setIfInBounds_toArray, List.set_cons_zero, List.set_cons_succ, i64_w, i32_w]
                      rfl
                     refine pure_ (i := 23) (N := some 98) (v := ?_) (a' := ?_) #[true, true, true, true, true, true, true, true, true, true, true, true, true, true, true, true, true, true, true, true, true, true, true, true, false, true, false, false, false, false, true, false, false, false] rfl rfl (any_of HT_.out (by kernel_rfl)) (fun _ _ _ h => h) (Or.inl ⟨by rfl, ?_⟩) ?_ ?_
                     rotate_left
                     ·intro w'
                      go_simp
                      with_reducible rfl
                     rotate_left
                     ·simp only [Act.put, List.setIfInBounds_toArray, List.set_cons_zero, List.set_cons_succ, i64_w, i32_w]
                      rfl
                     refine pure_ (i := 24) (N := some 99) (v := ?_) (a' := ?_) #[true, true, true, true, true, true, true, true, true, true, true, true, true, true, true, true, true, true, true, true, true, true, true, true, true, true, false, false, false, false, true, false, false, false] rfl rfl (any_of HT_.out (by kernel_rfl)) (fun _ _ _ h => h) (Or.inl ⟨by rfl, ?_⟩) ?_ ?_
                     rotate_left
                     ·intro w'
                      go_simp
                      with_reducible rfl
                     rotate_left
                     ·simp only [Act.put, List.setIfInBounds_toArray, List.set_cons_zero, List.set_cons_succ, i64_w, i32_w]
                      rfl
                     refine take_ (i := 26) (N := some 101) (v := ?_) (a' := ?_) #[true, true, true, true, true, true, true, true, true, true, true, true, true, true, true, true, true, true, true, true, true, true, true, true, true, true, true, false, false, false, true, false, false, false] rfl rfl (take_ofW HT_.out HW_.out (by kernel_rfl)) (fun _ _ _ h => h) (Or.inl ⟨by rfl, ?_⟩) hHeld ?_ ?_
                     rotate_left
                     ·rintro w' ⟨s0, s1, s2, s3, s4, s5⟩
                      go_simp
                      with_reducible rfl
                     rotate_left
                     ·simp only [Act.put, List.setIfInBounds_toArray, List.set_cons_zero, List.set_cons_succ, i64_w, i32_w]
                      rfl
                     refine pure_ (i := 27) (N := some 102) (v := ?_) (a' := ?_) #[true, true, true, true, true, true, true, true, true, true, true, true, true, true, true, true, true, true, true, true, true, true, true, true, true, true, true, true, false, false, true, false, false, false] rfl rfl (any_of HT_.out (by kernel_rfl)) (fun _ _ _ h => h) (Or.inl ⟨by rfl, ?_⟩) ?_ ?_
                     rotate_left
                     ·intro w'
                      go_simp
                      with_reducible rfl
                     rotate_left
                     ·simp only [Act.put, List.setIfInBounds_toArray, List.set_cons_zero, List.set_cons_succ, i64_w, i32_w]
                      rfl
                     refine take_ (i := 28) (N := some 103) (v := ?_) (a' := ?_) #[true, true, true, true, true, true, true, true, true, true, true, true, true, true, true, true, true, true, true, true, true, true, true, true, true, true, true, true, true, false, true, false, false, false] rfl rfl (take_ofW HT_.out HW_.out (by kernel_rfl)) (fun _ _ _ h => h) (Or.inl ⟨by rfl, ?_⟩) hHeld ?_ ?_
                     rotate_left
                     ·rintro w' ⟨s0, s1, s2, s3, s4, s5⟩
                      go_simp
                      with_reducible rfl
                     rotate_left
                     ·simp only [Act.put, List.setIfInBounds_toArray, List.set_cons_zero, List.set_cons_succ, i64_w, i32_w]
                      rfl
                     refine take_ (i := 31) (N := some 106) (v := ?_) (a' := ?_) #[true, true, true, true, true, true, true, true, true, true, true, true, true, true, true, true, true, true, true, true, true, true, true, true, true, true, true, true, true, false, true, true, false, false] rfl rfl (take_ofW HT_.out HW_.out (by kernel_rfl)) (fun _ _ _ h => h) (Or.inl ⟨by rfl, ?_⟩) hHeld ?_ ?_
                     rotate_left
                     ·rintro w' ⟨s0, s1, s2, s3, s4, s5⟩
                      go_simp
                      with_reducible rfl
                     rotate_left
                     ·simp only [Act.put, List.setIfInBounds_toArray, List.set_cons_zero, List.set_cons_succ, i64_w, i32_w]
                      rfl
                     refine one_ (i := 29) (N := some 104) #[true, true, true, true, true, true, true, true, true, true, true, true, true, true, true, true, true, true, true, true, true, true, true, true, true, true, true, true, true, true, true, true, false, false] rfl rfl (one_of HT_.out (by kernel_rfl)) (by decide) (fun K hK => ?_)
                     refine goes_ Tryd.func11 (by kernel_rfl) rfl #[.string (strOfNums ((l0.take (((rd_T29 t242 x10_2).f3) : Int).toNat).drop ((ji36) : Int).toNat))] (by rfl) rfl rfl (by (try simp only [List.map_toArray, List.map_cons, List.map_nil]); first | done | (simp only [hji36]; rfl) | rfl | (simp only [List.length_drop, List.length_take]; rfl)) ?_
                     with_reducible refine (head_Value.calls (strOfNums ((l0.take (((rd_T29 t242 x10_2).f3) : Int).toNat).drop ((ji36) : Int).toNat)) t258 _ ?side1 A40.out).mono ?_
                     (case side1 => exact Gl.below HG.out (by repeat (first | (with_reducible first | exact HB.out | apply below_alloc | apply pw_below_drewN | apply below_drew1 | refine below_set ?_ GE255.out) | exact HB.out)))
                     rintro e w49 ⟨rfl, hb⟩
                     refine ⟨_, rfl, ?_⟩
                     have n0_ := Aside0.mk (Kd.R_below (by (with_reducible repeat (first | apply Kd.R_alloc | apply Kd.R_drewN | apply Kd.R_drew)); exact HO_5.out) hb)
                     have n1_ := Aside0.mk (Kd.R_below (by (with_reducible repeat (first | apply Kd.R_alloc | apply Kd.R_drewN | apply Kd.R_drew)); exact HO_6.out) hb)
                     have n2_ := Aside0.mk (Kd.R_below (by (with_reducible repeat (first | apply Kd.R_alloc | apply Kd.R_drewN | apply Kd.R_drew)); exact HO_7.out) hb)
                     have n3_ := Aside0.mk (blk_below (g := gb255) (o := .cells #[.string ((rd_T29 t242 x10_2).f0), .string ((rd_T29 t242 x10_2).f1), .int .i64 ((rd_T29 t242 x10_2).f2), .int .i64 ((rd_T29 t242 x10_2).f3)] 29 (0, 0)) (by (with_reducible repeat (first | refine blk_drewN ?_ _ | refine blk_drew ?_ | refine blk_alloc ?_ _)); exact BK255.out) hb)
                     have n4_ := Aside0.mk (below_step (by repeat (first | (with_reducible first | exact HB.out | apply below_alloc | apply pw_below_drewN | apply below_drew1 | refine below_set ?_ GE255.out) | exact HB.out)) hb)
                     clear HO_5
                     clear HO_6
                     clear HO_7
                     clear BK255
                     clear HB
                     have HO_5 := n0_
                     have HO_6 := n1_
                     have HO_7 := n2_
                     have BK255 := n3_
                     have HB := n4_
                     clear n0_ n1_ n2_ n3_ n4_
                     (try clear hb)
                     (try clear hb2)
                     (try clear hk)
                     (try clear hi)
                     refine hK.out _ _ ⟨(blk_cell BK255.out 0).trans rfl, (blk_cell BK255.out 1).trans rfl, (blk_cell BK255.out 2).trans rfl, (blk_cell BK255.out 3).trans rfl, (fun n_ hn_ => by subst hn_; exact Kd.C_string (P := Tryd.prog) (A := A43) (c := (c0 - ((rd_T29 t242 x10_2).f2).toNat)) Tryd.underlying27 Tryd.underlying5 Tryd.underlying9 (Kd.C_below HR256.out HB.out)), (fun n_ hn_ => by subst hn_; exact Kd.C_string (P := Tryd.prog) (A := A46) (c := (c0 - (ji36).toNat)) Tryd.underlying27 Tryd.underlying5 Tryd.underlying9 (Kd.C_below HR257.out HB.out))⟩ (fun hHeld => ?_)
                     clear hK K
                     refine norm_ (a' := ?_) ?_ ?_
                     rotate_left
                     ·show Act.put _ (some 104) _ = _
                      simp only [Act.put, List.setIfInBounds_toArray, List.set_cons_zero, List.set_cons_succ, i64_w, i32_w]
                      rfl
                     refine pure_ (i := 32) (N := some 107) (v := ?_) (a' := ?_) #[true, true, true, true, true, true, true, true, true, true, true, true, true, true, true, true, true, true, true, true, true, true, true, true, true, true, true, true, true, true, true, true, true, false] rfl rfl (any_of HT_.out (by kernel_rfl)) (fun _ _ _ h => h) (Or.inl ⟨by rfl, ?_⟩) ?_ ?_
                     rotate_left
                     ·intro w'
                      go_simp
                      with_reducible rfl
                     rotate_left
                     ·simp only [Act.put, List.setIfInBounds_toArray, List.set_cons_zero, List.set_cons_succ, i64_w, i32_w]
                      rfl
                     refine pure_ (i := 33) (N := some 108) (v := ?_) (a' := ?_) #[true, true, true, true, true, true, true, true, true, true, true, true, true, true, true, true, true, true, true, true, true, true, true, true, true, true, true, true, true, true, true, true, true, true] rfl rfl (any_of HT_.out (by kernel_rfl)) (fun _ _ _ h => h) (Or.inl ⟨by rfl, ?_⟩) ?_ ?_
                     rotate_left
                     ·intro w'
                      go_simp
                      with_reducible rfl
                     rotate_left
                     ·simp only [Act.put, List.setIfInBounds_toArray, List.set_cons_zero, List.set_cons_succ, i64_w, i32_w]
                      rfl
                     refine done_ (done_of HT_.out (by kernel_rfl)) ?_
                     have hcz50_0 : w49.cell? ⟨gb255, 0, none⟩ = some (.string ((rd_T29 t242 x10_2).f0)) := (blk_cell BK255.out 0).trans rfl
                     have hcz50_1 : w49.cell? ⟨gb255, 1, none⟩ = some (.string ((rd_T29 t242 x10_2).f1)) := (blk_cell BK255.out 1).trans rfl
                     have hcz50_2 : w49.cell? ⟨gb255, 2, none⟩ = some (.int .i64 ((rd_T29 t242 x10_2).f2)) := (blk_cell BK255.out 2).trans rfl
                     have hcz50_3 : w49.cell? ⟨gb255, 3, none⟩ = some (.int .i64 ((rd_T29 t242 x10_2).f3)) := (blk_cell BK255.out 3).trans rfl
                     have hfz50_0 := blk_frozen BK255.out 0
                     have hfz50_1 := blk_frozen BK255.out 1
                     have hfz50_2 := blk_frozen BK255.out 2
                     have hfz50_3 := blk_frozen BK255.out 3
                     try go_wp2
                     go_roundg kj16
                     case measure => have := HJ4.out; have := HK2.out; have := HJ16.out; omega
                     case rel => exact ⟨(wrap64 ((wrap64 (x8_2 + ((rd_T29 t242 x10_2).f3))) - ((rd_T29 t242 x10_2).f2))), (((rd_T29 t242 x10_2).f3)), (wrap64 (x10_2 + 1)), (by first | rfl | (simp; done) | (simp [*]; done) | (simp [bne_nil8, beq_nil8]; done)), (by first | rfl | (simp; done) | (simp [*]; done) | (simp [bne_nil8, beq_nil8]; done)), (by first | rfl | (simp; done) | (simp [*]; done) | (simp [bne_nil8, beq_nil8]; done)), H', ⟨by have := HJ4.out; have := HK2.out; have := HJ16.out; omega⟩, ⟨by (with_reducible repeat (first | apply Kd.R_alloc | apply Kd.R_drewN | apply Kd.R_drew)); exact Kd.R_mono HO_5.out (fun _ hk => trivial)⟩, ⟨by (with_reducible repeat (first | apply Kd.R_alloc | apply Kd.R_drewN | apply Kd.R_drew)); exact HO_6.out⟩, ⟨by (with_reducible repeat (first | apply Kd.R_alloc | apply Kd.R_drewN | apply Kd.R_drew)); exact HO_7.out⟩, ⟨by repeat (first | (with_reducible first | exact HB.out | apply below_alloc | apply pw_below_drewN | apply below_drew1 | refine below_set ?_ GE255.out) | exact HB.out)⟩⟩
                    ·rw [if_neg c41] at H
                     have c41b0 : (t258.toList == ((rd_T29 t242 x10_2).f1).toList) = false := beq_eq_false_iff_ne.mpr c41
                     have c41b1 : (t258.toList != ((rd_T29 t242 x10_2).f1).toList) = true := bne_iff_ne.mpr c41
                     exact absurd (Option.some.inj H) (by decide)
                   ·rw [if_neg c39] at H
                    exact absurd H (by simp)
                  ·rw [if_neg c38] at H
                   exact absurd H (by simp)
                 ·rw [if_neg c37] at H
                  exact absurd H (by simp)
                ·rw [if_neg c35] at H
                 have c35b0 : ((strOfNums ((l0.take ((wrap64 ((wrap64 (((rd_T29 t242 x10_2).f2) + (((rd_T29 t242 x10_2).f0).size : Int))) + 1)) : Int).toNat).drop (((rd_T29 t242 x10_2).f2) : Int).toNat)).toList == (((rd_T29 t242 x10_2).f0) ++ (⟨#[58]⟩ : ByteArray)).toList) = false := beq_eq_false_iff_ne.mpr c35
                 have c35b1 : ((strOfNums ((l0.take ((wrap64 ((wrap64 (((rd_T29 t242 x10_2).f2) + (((rd_T29 t242 x10_2).f0).size : Int))) + 1)) : Int).toNat).drop (((rd_T29 t242 x10_2).f2) : Int).toNat)).toList != (((rd_T29 t242 x10_2).f0) ++ (⟨#[58]⟩ : ByteArray)).toList) = true := bne_iff_ne.mpr c35
                 (try (have c35b0w : ((strOfNums ((l0.take ((IntKind.i64.wrap ((IntKind.i64.wrap (((rd_T29 t242 x10_2).f2) + (((rd_T29 t242 x10_2).f0).size : Int))) + 1)) : Int).toNat).drop (((rd_T29 t242 x10_2).f2) : Int).toNat)).toList == (((rd_T29 t242 x10_2).f0) ++ (⟨#[58]⟩ : ByteArray)).toList) = false := (by simp only [i64_w]; exact c35b0)))
                 (try (have c35b1w : ((strOfNums ((l0.take ((IntKind.i64.wrap ((IntKind.i64.wrap (((rd_T29 t242 x10_2).f2) + (((rd_T29 t242 x10_2).f0).size : Int))) + 1)) : Int).toNat).drop (((rd_T29 t242 x10_2).f2) : Int).toNat)).toList != (((rd_T29 t242 x10_2).f0) ++ (⟨#[58]⟩ : ByteArray)).toList) = true := (by simp only [i64_w]; exact c35b1)))
                 exact absurd (Option.some.inj H) (by decide)
               ·rw [if_neg c34] at H
                exact absurd H (by simp)
              ·rw [if_neg c33] at H
               exact absurd H (by simp)
             ·rw [if_neg c32] at H
              exact absurd H (by simp)
            ·rw [if_neg c31] at H
             exact absurd H (by simp)
        ·rw [if_neg c16] at H
         exact absurd H (by simp)
       ·rw [if_neg c15] at H
        have c15b0 : decide (x10_2 < (t242.length : Int)) = false := decide_eq_false c15
        clear c15
        by_cases c51 : (wrap64 ((t245.length : Int) + (t248.length : Int))) = x8_2
        ·rw [if_pos c51] at H
         have c51b0 : ((wrap64 ((t245.length : Int) + (t248.length : Int))) == x8_2) = true := beq_iff_eq.mpr c51
         have c51b1 : ((wrap64 ((t245.length : Int) + (t248.length : Int))) != x8_2) = false := bne_eq_false_iff_eq.mpr c51
         (try (have c51b0w : ((IntKind.i64.wrap ((t245.length : Int) + (t248.length : Int))) == x8_2) = true := (by simp only [i64_w]; exact c51b0)))
         (try (have c51b1w : ((IntKind.i64.wrap ((t245.length : Int) + (t248.length : Int))) != x8_2) = false := (by simp only [i64_w]; exact c51b1)))
         clear c51
         replace H := Option.bind_eq_some_iff.mp H
         obtain ⟨t251, A520, H⟩ := H
         replace H : (some (decide ((t251.length : Int) ≥ 0))) = some true := H
         have A52 := Aside0.mk A520
         clear A520
         have hR_ : (decide ((t251.length : Int) ≥ 0)) = true := Option.some.inj H
         obtain ⟨Ao53, co53, eo53⟩ := Kd.R_slice HO_5.out
         subst eo53
         obtain ⟨Ao54, co54, eo54⟩ := Kd.R_slice HO_6.out
         subst eo54
         obtain ⟨Ao55, co55, eo55⟩ := Kd.R_slice HO_7.out
         subst eo55
         go_wp2_with (first | (go_at_call 24; (with_reducible refine (frankingref1_Lines.calls k2 (fun k_ => k_ < w.heap.size) _ _ l0 t251 _ ?side1 A52.out).mono ?_); (case side1 => exact Kd.V_mk HC0.out (Kd.F_below (Kd.C_F (Kd.heap_int .u8) HR0.out) (by repeat (first | (with_reducible first | exact HB.out | apply below_alloc | apply pw_below_drewN | apply below_drew1) | exact HB.out)))); rintro e w56 ⟨v252, rfl, ho0, hb⟩; (try (have hsn_ := Kd.S_N ho0; clear ho0; have ho0 := hsn_; clear hsn_)); have n0_ := Aside0.mk (Kd.R_below (by (with_reducible repeat (first | apply Kd.R_alloc | apply Kd.R_drewN | apply Kd.R_drew)); exact HO_5.out) hb); have n1_ := Aside0.mk (Kd.R_below (by (with_reducible repeat (first | apply Kd.R_alloc | apply Kd.R_drewN | apply Kd.R_drew)); exact HO_6.out) hb); have n2_ := Aside0.mk (Kd.R_below (by (with_reducible repeat (first | apply Kd.R_alloc | apply Kd.R_drewN | apply Kd.R_drew)); exact HO_7.out) hb); have n3_ := Aside0.mk (Kd.N_lower (Kd.N_mono (ok' := fun k_ => some k_ ≠ (.slice Ao53 t242.length co53 : Value).ownBlock ∧ some k_ ≠ (.slice Ao54 t245.length co54 : Value).ownBlock ∧ some k_ ≠ (.slice Ao55 t248.length co55 : Value).ownBlock) ho0 (fun k_ hk_ => ⟨Or.elim hk_ (fun hs_ => fun e_ => Nat.not_le.2 hs_ (Kd.R_base HO_5.out k_ e_.symm)) (fun hn_ => (Kd.fresh' (Kd.R_lt (by (with_reducible repeat (first | apply Kd.R_alloc | apply Kd.R_drewN | apply Kd.R_drew)); exact HO_5.out)) k_ hn_)), Or.elim hk_ (fun hs_ => fun e_ => Nat.not_le.2 hs_ (Kd.R_base HO_6.out k_ e_.symm)) (fun hn_ => (Kd.fresh' (Kd.R_lt (by (with_reducible repeat (first | apply Kd.R_alloc | apply Kd.R_drewN | apply Kd.R_drew)); exact HO_6.out)) k_ hn_)), Or.elim hk_ (fun hs_ => fun e_ => Nat.not_le.2 hs_ (Kd.R_base HO_7.out k_ e_.symm)) (fun hn_ => (Kd.fresh' (Kd.R_lt (by (with_reducible repeat (first | apply Kd.R_alloc | apply Kd.R_drewN | apply Kd.R_drew)); exact HO_7.out)) k_ hn_))⟩)) (below_size (by repeat (first | (with_reducible first | exact HB.out | apply below_alloc | apply pw_below_drewN | apply below_drew1) | exact HB.out)))); have n4_ := Aside0.mk (below_step (by repeat (first | (with_reducible first | exact HB.out | apply below_alloc | apply pw_below_drewN | apply below_drew1) | exact HB.out)) hb); clear HO_5; clear HO_6; clear HO_7; clear HB; have HO_5 := n0_; have HO_6 := n1_; have HO_7 := n2_; have HO253 := n3_; have HB := n4_; clear n0_ n1_ n2_ n3_ n4_; (try clear hb); (try clear hb2); (try clear hk); (try clear hi); (try clear ho0); obtain ⟨Ao57, co57, eo57⟩ := Kd.N_slice HO253.out; subst eo57))
         go_ret
         refine ⟨by first | rfl | exact Eq.trans (b := Ending.returned (.bool (decide ((t251.length : Int) ≥ 0)))) (by first | rfl | (simp [errW_none, errW_some] <;> rfl) | (clear hR_; simp [*, errW_none, errW_some] <;> rfl)) (by rw [hR_]), ?_⟩
         exact by repeat (first | (with_reducible first | exact HB.out | apply below_alloc | apply pw_below_drewN | apply below_drew1) | exact HB.out)
        ·rw [if_neg c51] at H
         have c51b0 : ((wrap64 ((t245.length : Int) + (t248.length : Int))) == x8_2) = false := beq_eq_false_iff_ne.mpr c51
         have c51b1 : ((wrap64 ((t245.length : Int) + (t248.length : Int))) != x8_2) = true := bne_iff_ne.mpr c51
         (try (have c51b0w : ((IntKind.i64.wrap ((t245.length : Int) + (t248.length : Int))) == x8_2) = false := (by simp only [i64_w]; exact c51b0)))
         (try (have c51b1w : ((IntKind.i64.wrap ((t245.length : Int) + (t248.length : Int))) != x8_2) = true := (by simp only [i64_w]; exact c51b1)))
         exact absurd (Option.some.inj H) (by decide)
 ·replace c4 := Bool.eq_false_iff.mpr c4
  subst c4
  have H1 : (some false) = some true := by (rw [if_neg (show ¬ (false = true) by decide)] at H) <;> exact H
  clear H
  have H := H1
  clear H1
  exact absurd (Option.some.inj H) (by decide)

/-- THE ONE PURE STATEMENT of frankinglaw11_HeadParts: yours. -/
def frankinglaw11_HeadParts.Pure : Prop := ∀ (l0 : List Int) (l1 : List ByteArray), (l0.length ≤ maxLen ∧ ∀ y_ ∈ l0, (Lit.int .u8 y_).wf = true) → (l1.length ≤ maxLen ∧ ∀ y_ ∈ l1, y_.size ≤ 140737488351232) → ∃ k, frankinglaw11_HeadParts.f k l0 l1 = some true

end Go.Proofs.YtonlncajnniebaaDoor.X
