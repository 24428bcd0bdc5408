/- By a program of this session, over the print of the kit: for each function of the program what it computes, and that its call comes to just that. -/
import Derived.Test.YtonlncajnniebaaDoorX0
import Derived.Test.YtonlncajnniebaaDoorX2
import Derived.Test.YtonlncajnniebaaDoorX3
namespace Go.Proofs.YtonlncajnniebaaDoor.X
open Go.RowKit Go.Proofs.Mine Go.Proofs.YtonlncajnniebaaDoorW.PrintWords Go.Proofs.YtonlncajnniebaaDoorW.PrintLast Go.Proofs.YtonlncajnniebaaDoorW.PrintMore
attribute [local go_sem] max2_int min2_int max_two min_two max_three min_three max_four min_four   -- for this text's walks alone
set_option linter.unusedVariables false
set_option linter.unusedSimpArgs false

/-! ### frankinglaw11_HeadFolds: function 4 -/
def frankinglaw11_HeadFolds.j0 : Nat → ByteArray → ByteArray → ByteArray → Bool → Option (Bool)
 | 0, _, _, _, _ => none
 | k + 1, x0, x1, x2, x25 => if x25 = true then (some true) else (if x0.size + 2 ≤ 9223372036854775807 then (if x0.size + 2 + x1.size ≤ 9223372036854775807 then (if x0.size + 2 + x1.size + 1 ≤ 9223372036854775807 then (if x0.size + 2 + x1.size + 1 + x2.size ≤ 9223372036854775807 then (if x0.size + 2 + x1.size + 1 + x2.size + 4 ≤ 9223372036854775807 then ((head_Get.f k (bytesOf (((((x0 ++ (⟨#[58, 32]⟩ : ByteArray)) ++ x1) ++ (⟨#[32]⟩ : ByteArray)) ++ x2) ++ (⟨#[13, 10, 13, 10]⟩ : ByteArray))) x0).bind fun bt334 => (if x0.size + 2 + x1.size + 3 ≤ 9223372036854775807 then (if x0.size + 2 + x1.size + 3 + x2.size ≤ 9223372036854775807 then (if x0.size + 2 + x1.size + 3 + x2.size + 4 ≤ 9223372036854775807 then ((head_Get.f k (bytesOf (((((x0 ++ (⟨#[58, 32]⟩ : ByteArray)) ++ x1) ++ (⟨#[13, 10, 32]⟩ : ByteArray)) ++ x2) ++ (⟨#[13, 10, 13, 10]⟩ : ByteArray))) x0).bind fun bt339 => (if bt334.2 = true then (if bt339.2 = true then (some (bt334.1.toList == bt339.1.toList)) else (some false)) else (some false))) else (none)) else (none)) else (none))) else (none)) else (none)) else (none)) else (none)) else (none))
def frankinglaw11_HeadFolds.f (k : Nat) (a0 : ByteArray) (a1 : ByteArray) (a2 : ByteArray) : Option (Bool) := (frankinglaw11_awake.f k).bind fun t327 => (if t327 = true then ((frankinglaw11_plain.f k a0 true).bind fun t328 => (if t328 = true then ((frankinglaw11_plain.f k a1 false).bind fun t329 => (if t329 = true then ((frankinglaw11_plain.f k a2 false).bind fun t330 => (frankinglaw11_HeadFolds.j0 k a0 a1 a2 (!t330))) else (frankinglaw11_HeadFolds.j0 k a0 a1 a2 true))) else (frankinglaw11_HeadFolds.j0 k a0 a1 a2 true))) else (some false))
theorem frankinglaw11_HeadFolds.mono_l : ∀ k, (∀ y0 y1 y2 y3, LeO (frankinglaw11_HeadFolds.j0 k y0 y1 y2 y3) (frankinglaw11_HeadFolds.j0 (k + 1) y0 y1 y2 y3))
 | 0 => fun _ _ _ _ r h => by simp [frankinglaw11_HeadFolds.j0] at h
 | k + 1 => by
  have ih0 := frankinglaw11_HeadFolds.mono_l k
  ·intro y0 y1 y2 y3
   unfold frankinglaw11_HeadFolds.j0
   repeat' first
   | (with_reducible exact ih0 _ _ _ _)
   | (with_reducible exact frankinglaw11_awake.mono _)
   | (with_reducible exact frankinglaw11_plain.mono _ _ _)
   | (with_reducible exact head_Get.mono _ _ _)
   | (with_reducible exact LeO.refl _)
   | (with_reducible exact LeO.none _)
   | (with_reducible refine LeO.ite ?_ ?_)
   | (with_reducible refine LeO.bind ?_ (fun _ => ?_))
   | exact ih0 _ _ _ _
   | exact frankinglaw11_awake.mono _
   | exact frankinglaw11_plain.mono _ _ _
   | exact head_Get.mono _ _ _
   | exact LeO.none _
   | refine LeO.ite ?_ ?_
   | refine LeO.bind ?_ (fun _ => ?_)
theorem frankinglaw11_HeadFolds.mono : ∀ a0 a1 a2 k, LeO (frankinglaw11_HeadFolds.f k a0 a1 a2) (frankinglaw11_HeadFolds.f (k + 1) a0 a1 a2) := by
 intro a0 a1 a2 k
 have ih0 := frankinglaw11_HeadFolds.mono_l k
 unfold frankinglaw11_HeadFolds.f
 repeat' first
   | (with_reducible exact ih0 _ _ _ _)
   | (with_reducible exact frankinglaw11_awake.mono _)
   | (with_reducible exact frankinglaw11_plain.mono _ _ _)
   | (with_reducible exact head_Get.mono _ _ _)
   | (with_reducible exact LeO.refl _)
   | (with_reducible exact LeO.none _)
   | (with_reducible refine LeO.ite ?_ ?_)
   | (with_reducible refine LeO.bind ?_ (fun _ => ?_))
   | exact ih0 _ _ _ _
   | exact frankinglaw11_awake.mono _
   | exact frankinglaw11_plain.mono _ _ _
   | exact head_Get.mono _ _ _
   | exact LeO.none _
   | refine LeO.ite ?_ ?_
   | refine LeO.bind ?_ (fun _ => ?_)
set_option maxHeartbeats 8000000 in
set_option maxRecDepth 100000 in
theorem frankinglaw11_HeadFolds.calls (k : Nat) (a0 : ByteArray) (a1 : ByteArray) (a2 : ByteArray) (w : World) (hG : Gl w) (h : frankinglaw11_HeadFolds.f k a0 a1 a2 = some true) :
  Calls Tryd.prog 4 #[.string a0, .string a1, .string a2] w fun e w' => e = .returned (.bool true) ∧ Below w.heap.size w w' := by
 have HB := Aside0.mk (Below.refl w.heap.size w)
 have HG := Aside0.mk hG
 clear hG
 have H : ((frankinglaw11_awake.f k).bind fun t327 => (if t327 = true then ((frankinglaw11_plain.f k a0 true).bind fun t328 => (if t328 = true then ((frankinglaw11_plain.f k a1 false).bind fun t329 => (if t329 = true then ((frankinglaw11_plain.f k a2 false).bind fun t330 => (frankinglaw11_HeadFolds.j0 k a0 a1 a2 (!t330))) else (frankinglaw11_HeadFolds.j0 k a0 a1 a2 true))) else (frankinglaw11_HeadFolds.j0 k a0 a1 a2 true))) else (some false))) = some true := h
 clear h
 replace H := Option.bind_eq_some_iff.mp H
 obtain ⟨t327, A40, H⟩ := H
 replace H : (if t327 = true then ((frankinglaw11_plain.f k a0 true).bind fun t328 => (if t328 = true then ((frankinglaw11_plain.f k a1 false).bind fun t329 => (if t329 = true then ((frankinglaw11_plain.f k a2 false).bind fun t330 => (frankinglaw11_HeadFolds.j0 k a0 a1 a2 (!t330))) else (frankinglaw11_HeadFolds.j0 k a0 a1 a2 true))) else (frankinglaw11_HeadFolds.j0 k a0 a1 a2 true))) else (some false)) = some true := H
 have A4 := Aside0.mk A40
 clear A40
 by_cases c5 : t327 = true
 ·subst c5
  have H1 : ((frankinglaw11_plain.f k a0 true).bind fun t328 => (if t328 = true then ((frankinglaw11_plain.f k a1 false).bind fun t329 => (if t329 = true then ((frankinglaw11_plain.f k a2 false).bind fun t330 => (frankinglaw11_HeadFolds.j0 k a0 a1 a2 (!t330))) else (frankinglaw11_HeadFolds.j0 k a0 a1 a2 true))) else (frankinglaw11_HeadFolds.j0 k a0 a1 a2 true))) = some true := by (rw [if_pos rfl] at H) <;> exact H
  clear H
  have H := H1
  clear H1
  have HC6 := Aside0.mk H
  clear H
  go_enter Tryd.func4, Tryd.ntmps4
  go_upto_region 3 with (first | ((with_reducible refine gate_callee (f := 8) rfl ?_); refine goesL_ (some 11) rfl rfl Tryd.func8 (by kernel_rfl) rfl #[] rfl (by (try simp only [List.map_toArray, List.map_cons, List.map_nil]); first | done | rfl | (simp only [List.length_drop, List.length_take]; rfl)) ?_; (with_reducible refine (frankinglaw11_awake.calls k  true _ ?side1 A4.out).mono ?_); (case side1 => exact Gl.below HG.out (by repeat (first | (with_reducible first | exact HB.out | apply below_alloc | apply pw_below_drewN | apply below_drew1) | exact HB.out))); rintro e w7 ⟨rfl, hb⟩; refine ⟨_, rfl, ?_⟩; have n0_ := Aside0.mk (below_step (by repeat (first | (with_reducible first | exact HB.out | apply below_alloc | apply pw_below_drewN | apply below_drew1) | exact HB.out)) hb); clear HB; have HB := n0_; clear n0_; (try clear hb); (try clear hb2); (try clear hk); (try clear hi)))
  (try simp only [Act.put, List.setIfInBounds_toArray, List.set_cons_zero, List.set_cons_succ])
  go_cut [25] (fun v25 wc => ∃ (kq : Nat) (x25_5 : Bool), v25 = .bool x25_5 ∧ Aside0 (frankinglaw11_HeadFolds.j0 kq a0 a1 a2 x25_5 = some true) ∧ Aside0 (kq ≤ k) ∧ Aside0 (Below w.heap.size w wc))
  case first =>
   have H := HC6.out
   clear HC6
   replace H := Option.bind_eq_some_iff.mp H
   obtain ⟨t328, A80, H⟩ := H
   replace H : (if t328 = true then ((frankinglaw11_plain.f k a1 false).bind fun t329 => (if t329 = true then ((frankinglaw11_plain.f k a2 false).bind fun t330 => (frankinglaw11_HeadFolds.j0 k a0 a1 a2 (!t330))) else (frankinglaw11_HeadFolds.j0 k a0 a1 a2 true))) else (frankinglaw11_HeadFolds.j0 k a0 a1 a2 true)) = some true := H
   have A8 := Aside0.mk A80
   clear A80
   by_cases c9 : t328 = true
   ·subst c9
    have H1 : ((frankinglaw11_plain.f k a1 false).bind fun t329 => (if t329 = true then ((frankinglaw11_plain.f k a2 false).bind fun t330 => (frankinglaw11_HeadFolds.j0 k a0 a1 a2 (!t330))) else (frankinglaw11_HeadFolds.j0 k a0 a1 a2 true))) = some true := by (rw [if_pos rfl] at H) <;> exact H
    clear H
    have H := H1
    clear H1
    replace H := Option.bind_eq_some_iff.mp H
    obtain ⟨t329, A100, H⟩ := H
    replace H : (if t329 = true then ((frankinglaw11_plain.f k a2 false).bind fun t330 => (frankinglaw11_HeadFolds.j0 k a0 a1 a2 (!t330))) else (frankinglaw11_HeadFolds.j0 k a0 a1 a2 true)) = some true := H
    have A10 := Aside0.mk A100
    clear A100
    by_cases c11 : t329 = true
    ·subst c11
     have H1 : ((frankinglaw11_plain.f k a2 false).bind fun t330 => (frankinglaw11_HeadFolds.j0 k a0 a1 a2 (!t330))) = some true := by (rw [if_pos rfl] at H) <;> exact H
     clear H
     have H := H1
     clear H1
     replace H := Option.bind_eq_some_iff.mp H
     obtain ⟨t330, A120, H⟩ := H
     replace H : (frankinglaw11_HeadFolds.j0 k a0 a1 a2 (!t330)) = some true := H
     have A12 := Aside0.mk A120
     clear A120
     have H' := Aside0.mk H
     clear H
     go_wp2_with (first | ((with_reducible refine gate_callee (f := 9) rfl ?_); refine goesL_ (some 14) rfl rfl Tryd.func9 (by kernel_rfl) rfl #[.string a0, .bool true] rfl (by (try simp only [List.map_toArray, List.map_cons, List.map_nil]); first | done | rfl | (simp only [List.length_drop, List.length_take]; rfl)) ?_; (with_reducible refine (frankinglaw11_plain.calls k a0 true true _ A8.out).mono ?_); rintro e w' ⟨rfl, ⟨nd, rfl⟩⟩; refine ⟨_, rfl, ?_⟩) | (go_at_call 9; (with_reducible refine (frankinglaw11_plain.calls k a1 false true _ A10.out).mono ?_); rintro e w' ⟨rfl, ⟨nd, rfl⟩⟩) | (go_at_call 9; (with_reducible refine (frankinglaw11_plain.calls k a2 false t330 _ A12.out).mono ?_); rintro e w' ⟨rfl, ⟨nd, rfl⟩⟩))
     go_meet
     case rel => exact ⟨_, (!t330), (by first | rfl | (simp; done) | (simp [*]; done) | (simp [bne_nil8, beq_nil8]; done)), H', ⟨by first | omega | exact Nat.le_refl _⟩, ⟨by repeat (first | (with_reducible first | exact HB.out | apply below_alloc | apply pw_below_drewN | apply below_drew1) | exact HB.out)⟩⟩
    ·replace c11 := Bool.eq_false_iff.mpr c11
     subst c11
     have H1 : (frankinglaw11_HeadFolds.j0 k a0 a1 a2 true) = some true := by (rw [if_neg (show ¬ (false = true) by decide)] at H) <;> exact H
     clear H
     have H := H1
     clear H1
     have H' := Aside0.mk H
     clear H
     go_wp2_with (first | ((with_reducible refine gate_callee (f := 9) rfl ?_); refine goesL_ (some 14) rfl rfl Tryd.func9 (by kernel_rfl) rfl #[.string a0, .bool true] rfl (by (try simp only [List.map_toArray, List.map_cons, List.map_nil]); first | done | rfl | (simp only [List.length_drop, List.length_take]; rfl)) ?_; (with_reducible refine (frankinglaw11_plain.calls k a0 true true _ A8.out).mono ?_); rintro e w' ⟨rfl, ⟨nd, rfl⟩⟩; refine ⟨_, rfl, ?_⟩) | (go_at_call 9; (with_reducible refine (frankinglaw11_plain.calls k a1 false false _ A10.out).mono ?_); rintro e w' ⟨rfl, ⟨nd, rfl⟩⟩))
     go_meet
     case rel => exact ⟨_, (true), (by first | rfl | (simp; done) | (simp [*]; done) | (simp [bne_nil8, beq_nil8]; done)), H', ⟨by first | omega | exact Nat.le_refl _⟩, ⟨by repeat (first | (with_reducible first | exact HB.out | apply below_alloc | apply pw_below_drewN | apply below_drew1) | exact HB.out)⟩⟩
   ·replace c9 := Bool.eq_false_iff.mpr c9
    subst c9
    have H1 : (frankinglaw11_HeadFolds.j0 k a0 a1 a2 true) = some true := by (rw [if_neg (show ¬ (false = true) by decide)] at H) <;> exact H
    clear H
    have H := H1
    clear H1
    have H' := Aside0.mk H
    clear H
    go_wp2_with (first | ((with_reducible refine gate_callee (f := 9) rfl ?_); refine goesL_ (some 14) rfl rfl Tryd.func9 (by kernel_rfl) rfl #[.string a0, .bool true] rfl (by (try simp only [List.map_toArray, List.map_cons, List.map_nil]); first | done | rfl | (simp only [List.length_drop, List.length_take]; rfl)) ?_; (with_reducible refine (frankinglaw11_plain.calls k a0 true false _ A8.out).mono ?_); rintro e w' ⟨rfl, ⟨nd, rfl⟩⟩; refine ⟨_, rfl, ?_⟩))
    go_meet
    case rel => exact ⟨_, (true), (by first | rfl | (simp; done) | (simp [*]; done) | (simp [bne_nil8, beq_nil8]; done)), H', ⟨by first | omega | exact Nat.le_refl _⟩, ⟨by repeat (first | (with_reducible first | exact HB.out | apply below_alloc | apply pw_below_drewN | apply below_drew1) | exact HB.out)⟩⟩
  case rest =>
   clear HC6
   try clear c1
   try clear p2
   try clear c4
   try clear c5
   try clear c8
   try clear c9
   try clear c11
   obtain ⟨kq, x25_5, rfl, HA, HJ5, HB⟩ := hcut
   cases kq with
   | zero => exact absurd HA.out (by simp [frankinglaw11_HeadFolds.j0])
   | succ kj5 =>
    have H := HA.out
    clear HA
    simp only [frankinglaw11_HeadFolds.j0] at H
    by_cases c13 : x25_5 = true
    ·subst c13
     have H1 : (some true) = some true := by (rw [if_pos rfl] at H) <;> exact H
     clear H
     have H := H1
     clear H1
     clear H
     go_wp2
     go_ret
     exact ⟨by first | rfl | (simp [errW_none, errW_some] <;> rfl) | (simp [*, errW_none, errW_some] <;> rfl), by repeat (first | (with_reducible first | exact HB.out | apply below_alloc | apply pw_below_drewN | apply below_drew1) | exact HB.out)⟩
    ·replace c13 := Bool.eq_false_iff.mpr c13
     subst c13
     have H1 : (if a0.size + 2 ≤ 9223372036854775807 then (if a0.size + 2 + a1.size ≤ 9223372036854775807 then (if a0.size + 2 + a1.size + 1 ≤ 9223372036854775807 then (if a0.size + 2 + a1.size + 1 + a2.size ≤ 9223372036854775807 then (if a0.size + 2 + a1.size + 1 + a2.size + 4 ≤ 9223372036854775807 then ((head_Get.f kj5 (bytesOf (((((a0 ++ (⟨#[58, 32]⟩ : ByteArray)) ++ a1) ++ (⟨#[32]⟩ : ByteArray)) ++ a2) ++ (⟨#[13, 10, 13, 10]⟩ : ByteArray))) a0).bind fun bt334 => (if a0.size + 2 + a1.size + 3 ≤ 9223372036854775807 then (if a0.size + 2 + a1.size + 3 + a2.size ≤ 9223372036854775807 then (if a0.size + 2 + a1.size + 3 + a2.size + 4 ≤ 9223372036854775807 then ((head_Get.f kj5 (bytesOf (((((a0 ++ (⟨#[58, 32]⟩ : ByteArray)) ++ a1) ++ (⟨#[13, 10, 32]⟩ : ByteArray)) ++ a2) ++ (⟨#[13, 10, 13, 10]⟩ : ByteArray))) a0).bind fun bt339 => (if bt334.2 = true then (if bt339.2 = true then (some (bt334.1.toList == bt339.1.toList)) else (some false)) else (some false))) else (none)) else (none)) else (none))) else (none)) else (none)) else (none)) else (none)) else (none)) = some true := by (rw [if_neg (show ¬ (false = true) by decide)] at H) <;> exact H
     clear H
     have H := H1
     clear H1
     by_cases c14 : a0.size + 2 ≤ 9223372036854775807
     ·rw [if_pos c14] at H
      have c14b0 := eq_true c14
      have c14b1 : decide (a0.size + 2 ≤ 9223372036854775807) = true := decide_eq_true c14
      try have c14b2 : (9223372036854775807 < a0.size + 2) = False := eq_false (Nat.not_lt.2 c14)
      by_cases c15 : a0.size + 2 + a1.size ≤ 9223372036854775807
      ·rw [if_pos c15] at H
       have c15b0 := eq_true c15
       have c15b1 : decide (a0.size + 2 + a1.size ≤ 9223372036854775807) = true := decide_eq_true c15
       try have c15b2 : (9223372036854775807 < a0.size + 2 + a1.size) = False := eq_false (Nat.not_lt.2 c15)
       by_cases c16 : a0.size + 2 + a1.size + 1 ≤ 9223372036854775807
       ·rw [if_pos c16] at H
        have c16b0 := eq_true c16
        have c16b1 : decide (a0.size + 2 + a1.size + 1 ≤ 9223372036854775807) = true := decide_eq_true c16
        try have c16b2 : (9223372036854775807 < a0.size + 2 + a1.size + 1) = False := eq_false (Nat.not_lt.2 c16)
        by_cases c17 : a0.size + 2 + a1.size + 1 + a2.size ≤ 9223372036854775807
        ·rw [if_pos c17] at H
         have c17b0 := eq_true c17
         have c17b1 : decide (a0.size + 2 + a1.size + 1 + a2.size ≤ 9223372036854775807) = true := decide_eq_true c17
         try have c17b2 : (9223372036854775807 < a0.size + 2 + a1.size + 1 + a2.size) = False := eq_false (Nat.not_lt.2 c17)
         by_cases c18 : a0.size + 2 + a1.size + 1 + a2.size + 4 ≤ 9223372036854775807
         ·rw [if_pos c18] at H
          have c18b0 := eq_true c18
          have c18b1 : decide (a0.size + 2 + a1.size + 1 + a2.size + 4 ≤ 9223372036854775807) = true := decide_eq_true c18
          try have c18b2 : (9223372036854775807 < a0.size + 2 + a1.size + 1 + a2.size + 4) = False := eq_false (Nat.not_lt.2 c18)
          obtain ⟨y331, hy331⟩ : ∃ y_ : List Int, y_ = (bytesOf (((((a0 ++ (⟨#[58, 32]⟩ : ByteArray)) ++ a1) ++ (⟨#[32]⟩ : ByteArray)) ++ a2) ++ (⟨#[13, 10, 13, 10]⟩ : ByteArray))) := ⟨_, rfl⟩
          replace H : ((head_Get.f kj5 y331 a0).bind fun bt334 => (if a0.size + 2 + a1.size + 3 ≤ 9223372036854775807 then (if a0.size + 2 + a1.size + 3 + a2.size ≤ 9223372036854775807 then (if a0.size + 2 + a1.size + 3 + a2.size + 4 ≤ 9223372036854775807 then ((head_Get.f kj5 (bytesOf (((((a0 ++ (⟨#[58, 32]⟩ : ByteArray)) ++ a1) ++ (⟨#[13, 10, 32]⟩ : ByteArray)) ++ a2) ++ (⟨#[13, 10, 13, 10]⟩ : ByteArray))) a0).bind fun bt339 => (if bt334.2 = true then (if bt339.2 = true then (some (bt334.1.toList == bt339.1.toList)) else (some false)) else (some false))) else (none)) else (none)) else (none))) = some true := by first | (rw [hy331]; with_reducible exact H) | (have H2_ := (Option.bind_some _ _).symm.trans H; rw [hy331]; with_reducible exact H2_) | (have H2_ := (Option.bind_some _ _).symm.trans H; with_reducible exact H2_) | with_reducible exact H | (rw [hy331]; exact H) | exact H
          have Ny331 := Aside0.mk hy331
          clear hy331
          replace H := Option.bind_eq_some_iff.mp H
          obtain ⟨⟨t334, t335⟩, A190, H⟩ := H
          replace H : (if a0.size + 2 + a1.size + 3 ≤ 9223372036854775807 then (if a0.size + 2 + a1.size + 3 + a2.size ≤ 9223372036854775807 then (if a0.size + 2 + a1.size + 3 + a2.size + 4 ≤ 9223372036854775807 then ((head_Get.f kj5 (bytesOf (((((a0 ++ (⟨#[58, 32]⟩ : ByteArray)) ++ a1) ++ (⟨#[13, 10, 32]⟩ : ByteArray)) ++ a2) ++ (⟨#[13, 10, 13, 10]⟩ : ByteArray))) a0).bind fun bt339 => (if t335 = true then (if bt339.2 = true then (some (t334.toList == bt339.1.toList)) else (some false)) else (some false))) else (none)) else (none)) else (none)) = some true := H
          have A19 := Aside0.mk A190
          clear A190
          by_cases c20 : a0.size + 2 + a1.size + 3 ≤ 9223372036854775807
          ·rw [if_pos c20] at H
           have c20b0 := eq_true c20
           have c20b1 : decide (a0.size + 2 + a1.size + 3 ≤ 9223372036854775807) = true := decide_eq_true c20
           try have c20b2 : (9223372036854775807 < a0.size + 2 + a1.size + 3) = False := eq_false (Nat.not_lt.2 c20)
           by_cases c21 : a0.size + 2 + a1.size + 3 + a2.size ≤ 9223372036854775807
           ·rw [if_pos c21] at H
            have c21b0 := eq_true c21
            have c21b1 : decide (a0.size + 2 + a1.size + 3 + a2.size ≤ 9223372036854775807) = true := decide_eq_true c21
            try have c21b2 : (9223372036854775807 < a0.size + 2 + a1.size + 3 + a2.size) = False := eq_false (Nat.not_lt.2 c21)
            by_cases c22 : a0.size + 2 + a1.size + 3 + a2.size + 4 ≤ 9223372036854775807
            ·rw [if_pos c22] at H
             have c22b0 := eq_true c22
             have c22b1 : decide (a0.size + 2 + a1.size + 3 + a2.size + 4 ≤ 9223372036854775807) = true := decide_eq_true c22
             try have c22b2 : (9223372036854775807 < a0.size + 2 + a1.size + 3 + a2.size + 4) = False := eq_false (Nat.not_lt.2 c22)
             obtain ⟨y336, hy336⟩ : ∃ y_ : List Int, y_ = (bytesOf (((((a0 ++ (⟨#[58, 32]⟩ : ByteArray)) ++ a1) ++ (⟨#[13, 10, 32]⟩ : ByteArray)) ++ a2) ++ (⟨#[13, 10, 13, 10]⟩ : ByteArray))) := ⟨_, rfl⟩
             replace H : ((head_Get.f kj5 y336 a0).bind fun bt339 => (if t335 = true then (if bt339.2 = true then (some (t334.toList == bt339.1.toList)) else (some false)) else (some false))) = some true := by first | (rw [hy336]; with_reducible exact H) | (have H2_ := (Option.bind_some _ _).symm.trans H; rw [hy336]; with_reducible exact H2_) | (have H2_ := (Option.bind_some _ _).symm.trans H; with_reducible exact H2_) | with_reducible exact H | (rw [hy336]; exact H) | exact H
             have Ny336 := Aside0.mk hy336
             clear hy336
             replace H := Option.bind_eq_some_iff.mp H
             obtain ⟨⟨t339, t340⟩, A230, H⟩ := H
             replace H : (if t335 = true then (if t340 = true then (some (t334.toList == t339.toList)) else (some false)) else (some false)) = some true := H
             have A23 := Aside0.mk A230
             clear A230
             by_cases c24 : t335 = true
             ·subst c24
              have H1 : (if t340 = true then (some (t334.toList == t339.toList)) else (some false)) = some true := by (rw [if_pos rfl] at H) <;> exact H
              clear H
              have H := H1
              clear H1
              by_cases c25 : t340 = true
              ·subst c25
               have H1 : (some (t334.toList == t339.toList)) = some true := by (rw [if_pos rfl] at H) <;> exact H
               clear H
               have H := H1
               clear H1
               have hR_ : ((t334.toList == t339.toList)) = true := Option.some.inj H
               go_wp2_with (first | ((with_reducible refine gate_dst (N := 35) rfl ?_); refine conv_str 5 rfl (N := 35) rfl 9 27 _ rfl Tryd.underlying9 Tryd.underlying27 Tryd.underlying5 (((((a0 ++ (⟨#[58, 32]⟩ : ByteArray)) ++ a1) ++ (⟨#[32]⟩ : ByteArray)) ++ a2) ++ (⟨#[13, 10, 13, 10]⟩ : ByteArray)) rfl (by first | exact of_decide_eq_true (by first | (with_reducible assumption) | assumption) | (simp only [ByteArray.size_append]; exact of_decide_eq_true (by assumption))) y331 Ny331.out ?_; intro v332 w27 ho28 hb; have n0_ := Aside0.mk (Kd.V_lower (Kd.V_mono (ok' := fun k_ => True) ho28 (fun k_ hk_ => trivial)) (below_size (by repeat (first | (with_reducible first | exact HB.out | apply below_alloc | apply pw_below_drewN | apply below_drew1) | exact HB.out)))); have n1_ := Aside0.mk (below_step (by repeat (first | (with_reducible first | exact HB.out | apply below_alloc | apply pw_below_drewN | apply below_drew1) | exact HB.out)) hb); clear HB; have HO333 := n0_; have HB := n1_; clear n0_ n1_; clear hb ho28; obtain ⟨Ao29, co29, eo29⟩ := Kd.V_slice HO333.out; subst eo29) | ((with_reducible refine gate_callee (f := 12) rfl ?_); refine goesL_ (some 37) rfl rfl Tryd.func12 (by kernel_rfl) rfl #[.slice Ao29 y331.length co29, .string a0] rfl (by (try simp only [List.map_toArray, List.map_cons, List.map_nil]); first | done | rfl | (simp only [List.length_drop, List.length_take]; rfl)) ?_; (with_reducible refine (head_Get.calls kj5 _ _ y331 a0 t334 true _ ?side1 ?side2 ?side3 A19.out).mono ?_); (case side1 => repeat (first | exact (Kd.V_reads' HO333.out).2.2 | (with_reducible refine Kd.C_alloc ?_ _) | (with_reducible refine Kd.C_drewN ?_ _) | (with_reducible refine Kd.C_drew ?_))); (case side2 => exact (Kd.V_reads' HO333.out).2.1); (case side3 => exact Gl.below HG.out (by repeat (first | (with_reducible first | exact HB.out | apply below_alloc | apply pw_below_drewN | apply below_drew1) | exact HB.out))); rintro e w30 ⟨rfl, hb⟩; refine ⟨_, rfl, ?_⟩; have n0_ := Aside0.mk (Kd.V_below (by (with_reducible repeat (first | apply Kd.V_alloc | apply Kd.V_drewN | apply Kd.V_drew)); exact HO333.out) hb); have n1_ := Aside0.mk (below_step (by repeat (first | (with_reducible first | exact HB.out | apply below_alloc | apply pw_below_drewN | apply below_drew1) | exact HB.out)) hb); clear HO333; clear HB; have HO333 := n0_; have HB := n1_; clear n0_ n1_; (try clear hb); (try clear hb2); (try clear hk); (try clear hi)) | ((with_reducible refine gate_dst (N := 49) rfl ?_); refine conv_str 5 rfl (N := 49) rfl 9 27 _ rfl Tryd.underlying9 Tryd.underlying27 Tryd.underlying5 (((((a0 ++ (⟨#[58, 32]⟩ : ByteArray)) ++ a1) ++ (⟨#[13, 10, 32]⟩ : ByteArray)) ++ a2) ++ (⟨#[13, 10, 13, 10]⟩ : ByteArray)) rfl (by first | exact of_decide_eq_true (by first | (with_reducible assumption) | assumption) | (simp only [ByteArray.size_append]; exact of_decide_eq_true (by assumption))) y336 Ny336.out ?_; intro v337 w32 ho33 hb; have n0_ := Aside0.mk (Kd.V_below (by (with_reducible repeat (first | apply Kd.V_alloc | apply Kd.V_drewN | apply Kd.V_drew)); exact HO333.out) hb); have n1_ := Aside0.mk (Kd.V_lower (Kd.V_mono (ok' := fun k_ => True) ho33 (fun k_ hk_ => trivial)) (below_size (by repeat (first | (with_reducible first | exact HB.out | apply below_alloc | apply pw_below_drewN | apply below_drew1) | exact HB.out)))); have n2_ := Aside0.mk (below_step (by repeat (first | (with_reducible first | exact HB.out | apply below_alloc | apply pw_below_drewN | apply below_drew1) | exact HB.out)) hb); clear HO333; clear HB; have HO333 := n0_; have HO338 := n1_; have HB := n2_; clear n0_ n1_ n2_; clear hb ho33; obtain ⟨Ao34, co34, eo34⟩ := Kd.V_slice HO338.out; subst eo34) | ((with_reducible refine gate_callee (f := 12) rfl ?_); refine goesL_ (some 51) rfl rfl Tryd.func12 (by kernel_rfl) rfl #[.slice Ao34 y336.length co34, .string a0] rfl (by (try simp only [List.map_toArray, List.map_cons, List.map_nil]); first | done | rfl | (simp only [List.length_drop, List.length_take]; rfl)) ?_; (with_reducible refine (head_Get.calls kj5 _ _ y336 a0 t339 true _ ?side1 ?side2 ?side3 A23.out).mono ?_); (case side1 => repeat (first | exact (Kd.V_reads' HO338.out).2.2 | (with_reducible refine Kd.C_alloc ?_ _) | (with_reducible refine Kd.C_drewN ?_ _) | (with_reducible refine Kd.C_drew ?_))); (case side2 => exact (Kd.V_reads' HO338.out).2.1); (case side3 => exact Gl.below HG.out (by repeat (first | (with_reducible first | exact HB.out | apply below_alloc | apply pw_below_drewN | apply below_drew1) | exact HB.out))); rintro e w35 ⟨rfl, hb⟩; refine ⟨_, rfl, ?_⟩; have n0_ := Aside0.mk (Kd.V_below (by (with_reducible repeat (first | apply Kd.V_alloc | apply Kd.V_drewN | apply Kd.V_drew)); exact HO333.out) hb); have n1_ := Aside0.mk (Kd.V_below (by (with_reducible repeat (first | apply Kd.V_alloc | apply Kd.V_drewN | apply Kd.V_drew)); exact HO338.out) hb); have n2_ := Aside0.mk (below_step (by repeat (first | (with_reducible first | exact HB.out | apply below_alloc | apply pw_below_drewN | apply below_drew1) | exact HB.out)) hb); clear HO333; clear HO338; clear HB; have HO333 := n0_; have HO338 := n1_; have HB := n2_; clear n0_ n1_ n2_; (try clear hb); (try clear hb2); (try clear hk); (try clear hi)))
               go_ret
               refine ⟨by first | rfl | exact Eq.trans (b := Ending.returned (.bool ((t334.toList == t339.toList)))) (by first | rfl | (simp [errW_none, errW_some] <;> rfl) | (clear hR_; simp [*, errW_none, errW_some] <;> rfl)) (by rw [hR_]), ?_⟩
               exact by repeat (first | (with_reducible first | exact HB.out | apply below_alloc | apply pw_below_drewN | apply below_drew1) | exact HB.out)
              ·replace c25 := Bool.eq_false_iff.mpr c25
               subst c25
               have H1 : (some false) = some true := by (rw [if_neg (show ¬ (false = true) by decide)] at H) <;> exact H
               clear H
               have H := H1
               clear H1
               exact absurd (Option.some.inj H) (by decide)
             ·replace c24 := Bool.eq_false_iff.mpr c24
              subst c24
              have H1 : (some false) = some true := by (rw [if_neg (show ¬ (false = true) by decide)] at H) <;> exact H
              clear H
              have H := H1
              clear H1
              exact absurd (Option.some.inj H) (by decide)
            ·rw [if_neg c22] at H
             exact absurd H (by simp)
           ·rw [if_neg c21] at H
            exact absurd H (by simp)
          ·rw [if_neg c20] at H
           exact absurd H (by simp)
         ·rw [if_neg c18] at H
          exact absurd H (by simp)
        ·rw [if_neg c17] at H
         exact absurd H (by simp)
       ·rw [if_neg c16] at H
        exact absurd H (by simp)
      ·rw [if_neg c15] at H
       exact absurd H (by simp)
     ·rw [if_neg c14] at H
      exact absurd H (by simp)
 ·replace c5 := Bool.eq_false_iff.mpr c5
  subst c5
  have H1 : (some false) = some true := by (rw [if_neg (show ¬ (false = true) by decide)] at H) <;> exact H
  clear H
  have H := H1
  clear H1
  exact absurd (Option.some.inj H) (by decide)

/-- THE ONE PURE STATEMENT of frankinglaw11_HeadFolds: yours. -/
def frankinglaw11_HeadFolds.Pure : Prop := ∀ (a0 : ByteArray) (a1 : ByteArray) (a2 : ByteArray), a0.size ≤ 140737488351232 → a1.size ≤ 140737488351232 → a2.size ≤ 140737488351232 → ∃ k, frankinglaw11_HeadFolds.f k a0 a1 a2 = some true
theorem frankinglaw11_HeadFolds.walk (P : frankinglaw11_HeadFolds.Pure) (a0 : ByteArray) (a1 : ByteArray) (a2 : ByteArray) (w : World) (w0 : a0.size ≤ 140737488351232) (w1 : a1.size ≤ 140737488351232) (w2 : a2.size ≤ 140737488351232) (hG : Gl w) :
  Calls Tryd.prog 4 #[.string a0, .string a1, .string a2] w fun e w' => e = .returned (.bool true) ∧ Below w.heap.size w w' := by
 obtain ⟨k, h⟩ := P a0 a1 a2 w0 w1 w2
 refine (frankinglaw11_HeadFolds.calls k a0 a1 a2 w hG h).mono ?_
 rintro e w' ⟨rfl, hd⟩
 exact ⟨rfl, hd⟩

end Go.Proofs.YtonlncajnniebaaDoor.X
