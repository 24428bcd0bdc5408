/- By a program of this session, over the print of the kit: for each function of the program what it computes, and that its call comes to just that. -/
import Derived.Test.YtefmlibcghjncaaGreatDoorX0
import Derived.Test.YtefmlibcghjncaaGreatDoorX1
import Derived.Test.YtefmlibcghjncaaGreatDoorX3
import Derived.Test.YtefmlibcghjncaaGreatDoorX4
namespace Go.Proofs.YtefmlibcghjncaaGreatDoor.X
open Go.RowKit Go.Proofs.Mine Go.Proofs.YtefmlibcghjncaaGreatDoorW.PrintWords Go.Proofs.YtefmlibcghjncaaGreatDoorW.PrintLast Go.Proofs.YtefmlibcghjncaaGreatDoorW.PrintMore
attribute [local go_sem] max2_int min2_int max_two min_two max_three min_three max_four min_four   -- for this text's walks alone
set_option linter.unusedVariables false
set_option linter.unusedSimpArgs false

/-! ### frankinglaw17_SectNames: function 6 -/
def frankinglaw17_SectNames.j0 : Nat → List Int → List ByteArray → Bool → Int → List ByteArray → Option (Bool)
 | 0, _, _, _, _, _ => none
 | k + 1, x0, x1, x28, x206001, x206002 => if x28 = true then (some true) else ((sect_Get.f k x0 ([] : List Int) x206001 x206002).bind fun bt207 => ((sect_Get.f k x0 ([] : List Int) 4 x1).bind fun bt211 => ((sect_Get.f k x0 ([] : List Int) 1 ([] : List ByteArray)).bind fun bt215 => (if bt207.2 = true then (if bt211.2 = true then (if bt215.2 = true then (if (wrap64 ((bt207.1.length : Int) + (bt211.1.length : Int))) ≤ (wrap64 ((bt215.1.length : Int) + 4)) then (if (bt207.1.length : Int) ≥ 2 then (if (bt211.1.length : Int) ≥ 2 then (if 0 ≤ (wrap64 ((bt207.1.length : Int) - 2)) then (if (wrap64 ((bt207.1.length : Int) - 2)) ≤ (bt207.1.length : Int) then (if (strOfNums (bt207.1.drop ((wrap64 ((bt207.1.length : Int) - 2)) : Int).toNat)).toList = ([13, 10] : List UInt8) then (if 0 ≤ (wrap64 ((bt211.1.length : Int) - 2)) then (if (wrap64 ((bt211.1.length : Int) - 2)) ≤ (bt211.1.length : Int) then (some ((strOfNums (bt211.1.drop ((wrap64 ((bt211.1.length : Int) - 2)) : Int).toNat)).toList == ([13, 10] : List UInt8))) else (none)) else (none)) else (some false)) else (none)) else (none)) else (some false)) else (some false)) else (some false)) else (some false)) else (some false)) else (some false)))))
def frankinglaw17_SectNames.f (k : Nat) (l0 : List Int) (l1 : List ByteArray) : Option (Bool) := (frankinglaw17_awake.f).bind fun t204 => (if t204 = true then (if (l0.length : Int) > 1500 then (frankinglaw17_SectNames.j0 k l0 l1 true 3 l1) else (if (l1.length : Int) > 10 then (frankinglaw17_SectNames.j0 k l0 l1 true 3 l1) else ((sect_Show.f k ([] : List Int) 3 l1).bind fun t206 => (frankinglaw17_SectNames.j0 k l0 l1 (t206.toList == ([] : List UInt8)) 3 l1)))) else (some false))
theorem frankinglaw17_SectNames.mono_l : ∀ k, (∀ y0 y1 y2 y3 y4, LeO (frankinglaw17_SectNames.j0 k y0 y1 y2 y3 y4) (frankinglaw17_SectNames.j0 (k + 1) y0 y1 y2 y3 y4))
 | 0 => fun _ _ _ _ _ r h => by simp [frankinglaw17_SectNames.j0] at h
 | k + 1 => by
  have ih0 := frankinglaw17_SectNames.mono_l k
  ·intro y0 y1 y2 y3 y4
   unfold frankinglaw17_SectNames.j0
   repeat' first
   | (with_reducible exact ih0 _ _ _ _ _)
   | (with_reducible exact sect_Get.mono _ _ _ _ _)
   | (with_reducible exact sect_Show.mono _ _ _ _)
   | (with_reducible exact LeO.refl _)
   | (with_reducible exact LeO.none _)
   | (with_reducible refine LeO.ite ?_ ?_)
   | (with_reducible refine LeO.bind ?_ (fun _ => ?_))
   | exact ih0 _ _ _ _ _
   | exact sect_Get.mono _ _ _ _ _
   | exact sect_Show.mono _ _ _ _
   | exact LeO.none _
   | refine LeO.ite ?_ ?_
   | refine LeO.bind ?_ (fun _ => ?_)
theorem frankinglaw17_SectNames.mono : ∀ a0 a1 k, LeO (frankinglaw17_SectNames.f k a0 a1) (frankinglaw17_SectNames.f (k + 1) a0 a1) := by
 intro a0 a1 k
 have ih0 := frankinglaw17_SectNames.mono_l k
 unfold frankinglaw17_SectNames.f
 repeat' first
   | (with_reducible exact ih0 _ _ _ _ _)
   | (with_reducible exact sect_Get.mono _ _ _ _ _)
   | (with_reducible exact sect_Show.mono _ _ _ _)
   | (with_reducible exact LeO.refl _)
   | (with_reducible exact LeO.none _)
   | (with_reducible refine LeO.ite ?_ ?_)
   | (with_reducible refine LeO.bind ?_ (fun _ => ?_))
   | exact ih0 _ _ _ _ _
   | exact sect_Get.mono _ _ _ _ _
   | exact sect_Show.mono _ _ _ _
   | exact LeO.none _
   | refine LeO.ite ?_ ?_
   | refine LeO.bind ?_ (fun _ => ?_)
set_option maxHeartbeats 8000000 in
set_option maxRecDepth 100000 in
theorem frankinglaw17_SectNames.calls (k : Nat) (A0 : Option Addr) (c0 : Nat) (l0 : List Int) (A1 : Option Addr) (c1 : Nat) (l1 : List ByteArray) (w : World) (hr0 : Kd.C (Kd.int .u8) w A0 l0.length l0) (hc0 : l0.length ≤ c0) (hr1 : Kd.C Kd.string w A1 l1.length l1) (hc1 : l1.length ≤ c1) (hG : Gl w) (h : frankinglaw17_SectNames.f k l0 l1 = some true) :
  Calls Tryz.prog 6 #[.slice A0 l0.length c0, .slice A1 l1.length c1] w fun e w' => e = .returned (.bool true) ∧ Below w.heap.size w w' := by
 have hu26 := Tryz.underlying26
 have HR0 := Aside0.mk hr0
 have HC0 := Aside0.mk hc0
 clear hr0 hc0
 have HR1 := Aside0.mk hr1
 have HC1 := Aside0.mk hc1
 clear hr1 hc1
 have HB := Aside0.mk (Below.refl w.heap.size w)
 have HG := Aside0.mk hG
 clear hG
 have H : ((frankinglaw17_awake.f).bind fun t204 => (if t204 = true then (if (l0.length : Int) > 1500 then (frankinglaw17_SectNames.j0 k l0 l1 true 3 l1) else (if (l1.length : Int) > 10 then (frankinglaw17_SectNames.j0 k l0 l1 true 3 l1) else ((sect_Show.f k ([] : List Int) 3 l1).bind fun t206 => (frankinglaw17_SectNames.j0 k l0 l1 (t206.toList == ([] : List UInt8)) 3 l1)))) else (some false))) = some true := h
 clear h
 replace H := Option.bind_eq_some_iff.mp H
 obtain ⟨t204, A30, H⟩ := H
 replace H : (if t204 = true then (if (l0.length : Int) > 1500 then (frankinglaw17_SectNames.j0 k l0 l1 true 3 l1) else (if (l1.length : Int) > 10 then (frankinglaw17_SectNames.j0 k l0 l1 true 3 l1) else ((sect_Show.f k ([] : List Int) 3 l1).bind fun t206 => (frankinglaw17_SectNames.j0 k l0 l1 (t206.toList == ([] : List UInt8)) 3 l1)))) else (some false)) = some true := H
 have A3 := Aside0.mk A30
 clear A30
 by_cases c4 : t204 = true
 ·subst c4
  have H1 : (if (l0.length : Int) > 1500 then (frankinglaw17_SectNames.j0 k l0 l1 true 3 l1) else (if (l1.length : Int) > 10 then (frankinglaw17_SectNames.j0 k l0 l1 true 3 l1) else ((sect_Show.f k ([] : List Int) 3 l1).bind fun t206 => (frankinglaw17_SectNames.j0 k l0 l1 (t206.toList == ([] : List UInt8)) 3 l1)))) = some true := by (rw [if_pos rfl] at H) <;> exact H
  clear H
  have H := H1
  clear H1
  have HC5 := Aside0.mk H
  clear H
  go_enter Tryz.func6, Tryz.ntmps6
  go_upto_region 4 with (first | ((with_reducible refine gate_callee (f := 7) rfl ?_); refine goesL_ (some 12) rfl rfl Tryz.func7 (by kernel_rfl) rfl #[] rfl (by (try simp only [List.map_toArray, List.map_cons, List.map_nil]); first | done | rfl | (simp only [List.length_drop, List.length_take]; rfl)) ?_; (with_reducible refine (frankinglaw17_awake.calls  true _ ?side1 A3.out).mono ?_); (case side1 => exact Gl.below HG.out (by repeat (first | (with_reducible first | exact HB.out | apply below_alloc | apply pw_below_drewN | apply below_drew1) | exact HB.out))); rintro e w6 ⟨rfl, hb⟩; refine ⟨_, rfl, ?_⟩; have n0_ := Aside0.mk (below_step (by repeat (first | (with_reducible first | exact HB.out | apply below_alloc | apply pw_below_drewN | apply below_drew1) | exact HB.out)) hb); clear HB; have HB := n0_; clear n0_; (try clear hb); (try clear hb2); (try clear hk); (try clear hi)) | ((with_reducible refine gate_dst (N := 5) rfl ?_); (try (refine gate_guard (by rfl) ?_; dsimp only)); refine box_event ?hg (N := 5) ?hd (cs := #[.slice none 0 0, .int .i64 0, .slice none 0 0]) (t := 26) ?hr ?_; (case hd => rfl); (case hg => rfl); (case hr => first | (go_simp; done) | (go_simp; rfl)); intro gb205 hg w7 hbox hb; have n0_ := Aside0.mk (below_step (by repeat (first | (with_reducible first | exact HB.out | apply below_alloc | apply pw_below_drewN | apply below_drew1) | exact HB.out)) hb); have n1_ := Aside0.mk (hbox); have n2_ := Aside0.mk ((by rw [hg]; exact (below_size (by repeat (first | (with_reducible first | exact HB.out | apply below_alloc | apply pw_below_drewN | apply below_drew1) | exact HB.out))) : w.heap.size ≤ gb205)); have n3_ := Aside0.mk ((by rw [hg]; exact (below_size (by repeat (first | (with_reducible first | exact HB.out | apply below_alloc | apply pw_below_drewN | apply below_drew1) | exact HB.out))) : w.heap.size ≤ gb205)); clear HB; have HB := n0_; have BK205 := n1_; have GW205 := n2_; have GE205 := n3_; clear n0_ n1_ n2_ n3_; clear hb hbox hg; have hcz8_0 : w7.cell? ⟨gb205, 0, none⟩ = some (.slice none 0 0) := (blk_cell BK205.out 0).trans rfl; have hcz8_1 : w7.cell? ⟨gb205, 1, none⟩ = some (.int .i64 0) := (blk_cell BK205.out 1).trans rfl; have hcz8_2 : w7.cell? ⟨gb205, 2, none⟩ = some (.slice none 0 0) := (blk_cell BK205.out 2).trans rfl; have hfz8_0 := blk_frozen BK205.out 0; have hfz8_1 := blk_frozen BK205.out 1; have hfz8_2 := blk_frozen BK205.out 2))
  (try simp only [Act.put, List.setIfInBounds_toArray, List.set_cons_zero, List.set_cons_succ])
  go_cut [28] (fun v28 wc => ∃ (kq : Nat) (x28_4 : Bool), v28 = .bool x28_4 ∧ Aside0 (frankinglaw17_SectNames.j0 kq l0 l1 x28_4 3 l1 = some true) ∧ Aside0 (kq ≤ k) ∧ Aside0 (wc.heap[gb205]? = some (.cells #[(.slice none 0 0), .int .i64 3, (.slice A1 l1.length c1)] 26 (0, 0))) ∧ Aside0 (Below w.heap.size w wc))
  case first =>
   have H := HC5.out
   clear HC5
   by_cases c9 : (l0.length : Int) > 1500
   ·rw [if_pos c9] at H
    have c9b0 : decide (1500 < (l0.length : Int)) = true := decide_eq_true c9
    have c9b1 : decide (1500 < l0.length) = true := decide_eq_true (by omega)
    clear c9
    (first | rw [c9b0] | (simp only [i64_w, i32_w]; rw [c9b0]) | skip)
    have H' := Aside0.mk H
    clear H
    go_wp2
    go_meet
    case rel => exact ⟨_, (true), (by first | rfl | (simp; done) | (simp [*]; done) | (simp [bne_nil8, beq_nil8]; done)), H', ⟨by first | omega | exact Nat.le_refl _⟩, ⟨by (with_reducible repeat (first | refine blk_drewN ?_ _ | refine blk_drew ?_ | refine blk_alloc ?_ _)); (first | refine blk_put (cs := #[.slice none 0 0, .int .i64 3, .slice none 0 0]) ?_ 2 _ rfl | refine blk_put (cs := #[.slice none 0 0, .int .i64 3, .slice none 0 0]) ?_ 2 _ (by first | rfl | (simp; done))); (with_reducible repeat (first | refine blk_drewN ?_ _ | refine blk_drew ?_ | refine blk_alloc ?_ _)); (first | refine blk_put (cs := #[.slice none 0 0, .int .i64 0, .slice none 0 0]) ?_ 1 _ rfl | refine blk_put (cs := #[.slice none 0 0, .int .i64 0, .slice none 0 0]) ?_ 1 _ (by first | rfl | (simp; done))); (with_reducible repeat (first | refine blk_drewN ?_ _ | refine blk_drew ?_ | refine blk_alloc ?_ _)); (first | refine blk_put (cs := #[.slice none 0 0, .int .i64 0, .slice none 0 0]) ?_ 0 _ rfl | refine blk_put (cs := #[.slice none 0 0, .int .i64 0, .slice none 0 0]) ?_ 0 _ (by first | rfl | (simp; done))); (with_reducible repeat (first | refine blk_drewN ?_ _ | refine blk_drew ?_ | refine blk_alloc ?_ _)); exact BK205.out⟩, ⟨by repeat (first | (with_reducible first | exact HB.out | apply below_alloc | apply pw_below_drewN | apply below_drew1 | refine below_set ?_ GE205.out) | exact HB.out)⟩⟩
   ·rw [if_neg c9] at H
    have c9b0 : decide (1500 < (l0.length : Int)) = false := decide_eq_false c9
    have c9b1 : decide (1500 < l0.length) = false := decide_eq_false (by omega)
    clear c9
    (first | rw [c9b0] | (simp only [i64_w, i32_w]; rw [c9b0]) | skip)
    by_cases c10 : (l1.length : Int) > 10
    ·rw [if_pos c10] at H
     have c10b0 : decide (10 < (l1.length : Int)) = true := decide_eq_true c10
     have c10b1 : decide (10 < l1.length) = true := decide_eq_true (by omega)
     clear c10
     have H' := Aside0.mk H
     clear H
     go_wp2
     go_meet
     case rel => exact ⟨_, (true), (by first | rfl | (simp; done) | (simp [*]; done) | (simp [bne_nil8, beq_nil8]; done)), H', ⟨by first | omega | exact Nat.le_refl _⟩, ⟨by (with_reducible repeat (first | refine blk_drewN ?_ _ | refine blk_drew ?_ | refine blk_alloc ?_ _)); (first | refine blk_put (cs := #[.slice none 0 0, .int .i64 3, .slice none 0 0]) ?_ 2 _ rfl | refine blk_put (cs := #[.slice none 0 0, .int .i64 3, .slice none 0 0]) ?_ 2 _ (by first | rfl | (simp; done))); (with_reducible repeat (first | refine blk_drewN ?_ _ | refine blk_drew ?_ | refine blk_alloc ?_ _)); (first | refine blk_put (cs := #[.slice none 0 0, .int .i64 0, .slice none 0 0]) ?_ 1 _ rfl | refine blk_put (cs := #[.slice none 0 0, .int .i64 0, .slice none 0 0]) ?_ 1 _ (by first | rfl | (simp; done))); (with_reducible repeat (first | refine blk_drewN ?_ _ | refine blk_drew ?_ | refine blk_alloc ?_ _)); (first | refine blk_put (cs := #[.slice none 0 0, .int .i64 0, .slice none 0 0]) ?_ 0 _ rfl | refine blk_put (cs := #[.slice none 0 0, .int .i64 0, .slice none 0 0]) ?_ 0 _ (by first | rfl | (simp; done))); (with_reducible repeat (first | refine blk_drewN ?_ _ | refine blk_drew ?_ | refine blk_alloc ?_ _)); exact BK205.out⟩, ⟨by repeat (first | (with_reducible first | exact HB.out | apply below_alloc | apply pw_below_drewN | apply below_drew1 | refine below_set ?_ GE205.out) | exact HB.out)⟩⟩
    ·rw [if_neg c10] at H
     have c10b0 : decide (10 < (l1.length : Int)) = false := decide_eq_false c10
     have c10b1 : decide (10 < l1.length) = false := decide_eq_false (by omega)
     clear c10
     replace H := Option.bind_eq_some_iff.mp H
     obtain ⟨t206, A110, H⟩ := H
     replace H : (frankinglaw17_SectNames.j0 k l0 l1 (t206.toList == ([] : List UInt8)) 3 l1) = some true := H
     have A11 := Aside0.mk A110
     clear A110
     have H' := Aside0.mk H
     clear H
     have hcz12_0 : w7.cell? ⟨gb205, 0, none⟩ = some (.slice none 0 0) := (blk_cell BK205.out 0).trans rfl
     have hcz12_1 : w7.cell? ⟨gb205, 1, none⟩ = some (.int .i64 0) := (blk_cell BK205.out 1).trans rfl
     have hcz12_2 : w7.cell? ⟨gb205, 2, none⟩ = some (.slice none 0 0) := (blk_cell BK205.out 2).trans rfl
     have hfz12_0 := blk_frozen BK205.out 0
     have hfz12_1 := blk_frozen BK205.out 1
     have hfz12_2 := blk_frozen BK205.out 2
     go_wp2_with (first | (go_at_call 11; (refine (sect_Show.calls k _ _ ([] : List Int) 3 _ _ l1 t206 _ ?side1 ?side2 ?side3 ?side4 ?side5 A11.out).mono ?_); (case side1 => exact Kd.C_nil _ _); (case side2 => exact Nat.le_refl _); (case side3 => exact Kd.C_below HR1.out (by repeat (first | (with_reducible first | exact HB.out | apply below_alloc | apply pw_below_drewN | apply below_drew1 | refine below_set ?_ GE205.out) | exact HB.out))); (case side4 => exact HC1.out); (case side5 => exact Gl.below HG.out (by repeat (first | (with_reducible first | exact HB.out | apply below_alloc | apply pw_below_drewN | apply below_drew1 | refine below_set ?_ GE205.out) | exact HB.out))); rintro e w13 ⟨rfl, hb⟩; have n0_ := Aside0.mk (blk_below (g := gb205) (o := .cells #[.slice none 0 0, .int .i64 3, .slice A1 l1.length c1] 26 (0, 0)) (by (with_reducible repeat (first | refine blk_drewN ?_ _ | refine blk_drew ?_ | refine blk_alloc ?_ _)); (first | refine blk_put (cs := #[.slice none 0 0, .int .i64 3, .slice none 0 0]) ?_ 2 _ rfl | refine blk_put (cs := #[.slice none 0 0, .int .i64 3, .slice none 0 0]) ?_ 2 _ (by first | rfl | (simp; done))); (with_reducible repeat (first | refine blk_drewN ?_ _ | refine blk_drew ?_ | refine blk_alloc ?_ _)); (first | refine blk_put (cs := #[.slice none 0 0, .int .i64 0, .slice none 0 0]) ?_ 1 _ rfl | refine blk_put (cs := #[.slice none 0 0, .int .i64 0, .slice none 0 0]) ?_ 1 _ (by first | rfl | (simp; done))); (with_reducible repeat (first | refine blk_drewN ?_ _ | refine blk_drew ?_ | refine blk_alloc ?_ _)); (first | refine blk_put (cs := #[.slice none 0 0, .int .i64 0, .slice none 0 0]) ?_ 0 _ rfl | refine blk_put (cs := #[.slice none 0 0, .int .i64 0, .slice none 0 0]) ?_ 0 _ (by first | rfl | (simp; done))); (with_reducible repeat (first | refine blk_drewN ?_ _ | refine blk_drew ?_ | refine blk_alloc ?_ _)); exact BK205.out) hb); have n1_ := Aside0.mk (below_step (by repeat (first | (with_reducible first | exact HB.out | apply below_alloc | apply pw_below_drewN | apply below_drew1 | refine below_set ?_ GE205.out) | exact HB.out)) hb); clear BK205; clear HB; have BK205 := n0_; have HB := n1_; clear n0_ n1_; (try clear hb); (try clear hb2); (try clear hk); (try clear hi)))
     go_meet
     case rel => exact ⟨_, ((t206.toList == ([] : List UInt8))), (by first | rfl | (simp; done) | (simp [*]; done) | (simp [bne_nil8, beq_nil8]; done)), H', ⟨by first | omega | exact Nat.le_refl _⟩, ⟨by (with_reducible repeat (first | refine blk_drewN ?_ _ | refine blk_drew ?_ | refine blk_alloc ?_ _)); exact BK205.out⟩, ⟨by repeat (first | (with_reducible first | exact HB.out | apply below_alloc | apply pw_below_drewN | apply below_drew1 | refine below_set ?_ GE205.out) | exact HB.out)⟩⟩
  case rest =>
   clear HC5
   try clear c1
   try clear p2
   try clear c4
   try clear c6
   try clear c7
   try clear c9
   try clear c9b0
   try clear c9b1
   try clear c10
   try clear c10b0
   try clear c10b1
   try clear hcz12_0
   try clear hcz12_1
   try clear hcz12_2
   try clear hcz8_0
   try clear hcz8_1
   try clear hcz8_2
   try clear hfz12_0
   try clear hfz12_1
   try clear hfz12_2
   try clear hfz8_0
   try clear hfz8_1
   try clear hfz8_2
   obtain ⟨kq, x28_4, rfl, HA, HJ4, BK205, HB⟩ := hcut
   cases kq with
   | zero => exact absurd HA.out (by simp [frankinglaw17_SectNames.j0])
   | succ kj4 =>
    have H := HA.out
    clear HA
    simp only [frankinglaw17_SectNames.j0] at H
    by_cases c14 : x28_4 = true
    ·subst c14
     have H1 : (some true) = some true := by (rw [if_pos rfl] at H) <;> exact H
     clear H
     have H := H1
     clear H1
     clear H
     go_wp2
     go_ret
     exact ⟨by first | rfl | (simp [errW_none, errW_some] <;> rfl) | (simp [*, errW_none, errW_some] <;> rfl), by repeat (first | (with_reducible first | exact HB.out | apply below_alloc | apply pw_below_drewN | apply below_drew1 | refine below_set ?_ GE205.out) | exact HB.out)⟩
    ·replace c14 := Bool.eq_false_iff.mpr c14
     subst c14
     have H1 : ((sect_Get.f kj4 l0 ([] : List Int) 3 l1).bind fun bt207 => ((sect_Get.f kj4 l0 ([] : List Int) 4 l1).bind fun bt211 => ((sect_Get.f kj4 l0 ([] : List Int) 1 ([] : List ByteArray)).bind fun bt215 => (if bt207.2 = true then (if bt211.2 = true then (if bt215.2 = true then (if (wrap64 ((bt207.1.length : Int) + (bt211.1.length : Int))) ≤ (wrap64 ((bt215.1.length : Int) + 4)) then (if (bt207.1.length : Int) ≥ 2 then (if (bt211.1.length : Int) ≥ 2 then (if 0 ≤ (wrap64 ((bt207.1.length : Int) - 2)) then (if (wrap64 ((bt207.1.length : Int) - 2)) ≤ (bt207.1.length : Int) then (if (strOfNums (bt207.1.drop ((wrap64 ((bt207.1.length : Int) - 2)) : Int).toNat)).toList = ([13, 10] : List UInt8) then (if 0 ≤ (wrap64 ((bt211.1.length : Int) - 2)) then (if (wrap64 ((bt211.1.length : Int) - 2)) ≤ (bt211.1.length : Int) then (some ((strOfNums (bt211.1.drop ((wrap64 ((bt211.1.length : Int) - 2)) : Int).toNat)).toList == ([13, 10] : List UInt8))) else (none)) else (none)) else (some false)) else (none)) else (none)) else (some false)) else (some false)) else (some false)) else (some false)) else (some false)) else (some false))))) = some true := by (rw [if_neg (show ¬ (false = true) by decide)] at H) <;> exact H
     clear H
     have H := H1
     clear H1
     replace H := Option.bind_eq_some_iff.mp H
     obtain ⟨⟨t207, t210⟩, A150, H⟩ := H
     replace H : ((sect_Get.f kj4 l0 ([] : List Int) 4 l1).bind fun bt211 => ((sect_Get.f kj4 l0 ([] : List Int) 1 ([] : List ByteArray)).bind fun bt215 => (if t210 = true then (if bt211.2 = true then (if bt215.2 = true then (if (wrap64 ((t207.length : Int) + (bt211.1.length : Int))) ≤ (wrap64 ((bt215.1.length : Int) + 4)) then (if (t207.length : Int) ≥ 2 then (if (bt211.1.length : Int) ≥ 2 then (if 0 ≤ (wrap64 ((t207.length : Int) - 2)) then (if (wrap64 ((t207.length : Int) - 2)) ≤ (t207.length : Int) then (if (strOfNums (t207.drop ((wrap64 ((t207.length : Int) - 2)) : Int).toNat)).toList = ([13, 10] : List UInt8) then (if 0 ≤ (wrap64 ((bt211.1.length : Int) - 2)) then (if (wrap64 ((bt211.1.length : Int) - 2)) ≤ (bt211.1.length : Int) then (some ((strOfNums (bt211.1.drop ((wrap64 ((bt211.1.length : Int) - 2)) : Int).toNat)).toList == ([13, 10] : List UInt8))) else (none)) else (none)) else (some false)) else (none)) else (none)) else (some false)) else (some false)) else (some false)) else (some false)) else (some false)) else (some false)))) = some true := H
     have A15 := Aside0.mk A150
     clear A150
     replace H := Option.bind_eq_some_iff.mp H
     obtain ⟨⟨t211, t214⟩, A160, H⟩ := H
     replace H : ((sect_Get.f kj4 l0 ([] : List Int) 1 ([] : List ByteArray)).bind fun bt215 => (if t210 = true then (if t214 = true then (if bt215.2 = true then (if (wrap64 ((t207.length : Int) + (t211.length : Int))) ≤ (wrap64 ((bt215.1.length : Int) + 4)) then (if (t207.length : Int) ≥ 2 then (if (t211.length : Int) ≥ 2 then (if 0 ≤ (wrap64 ((t207.length : Int) - 2)) then (if (wrap64 ((t207.length : Int) - 2)) ≤ (t207.length : Int) then (if (strOfNums (t207.drop ((wrap64 ((t207.length : Int) - 2)) : Int).toNat)).toList = ([13, 10] : List UInt8) then (if 0 ≤ (wrap64 ((t211.length : Int) - 2)) then (if (wrap64 ((t211.length : Int) - 2)) ≤ (t211.length : Int) then (some ((strOfNums (t211.drop ((wrap64 ((t211.length : Int) - 2)) : Int).toNat)).toList == ([13, 10] : List UInt8))) else (none)) else (none)) else (some false)) else (none)) else (none)) else (some false)) else (some false)) else (some false)) else (some false)) else (some false)) else (some false))) = some true := H
     have A16 := Aside0.mk A160
     clear A160
     replace H := Option.bind_eq_some_iff.mp H
     obtain ⟨⟨t215, t218⟩, A170, H⟩ := H
     replace H : (if t210 = true then (if t214 = true then (if t218 = true then (if (wrap64 ((t207.length : Int) + (t211.length : Int))) ≤ (wrap64 ((t215.length : Int) + 4)) then (if (t207.length : Int) ≥ 2 then (if (t211.length : Int) ≥ 2 then (if 0 ≤ (wrap64 ((t207.length : Int) - 2)) then (if (wrap64 ((t207.length : Int) - 2)) ≤ (t207.length : Int) then (if (strOfNums (t207.drop ((wrap64 ((t207.length : Int) - 2)) : Int).toNat)).toList = ([13, 10] : List UInt8) then (if 0 ≤ (wrap64 ((t211.length : Int) - 2)) then (if (wrap64 ((t211.length : Int) - 2)) ≤ (t211.length : Int) then (some ((strOfNums (t211.drop ((wrap64 ((t211.length : Int) - 2)) : Int).toNat)).toList == ([13, 10] : List UInt8))) else (none)) else (none)) else (some false)) else (none)) else (none)) else (some false)) else (some false)) else (some false)) else (some false)) else (some false)) else (some false)) = some true := H
     have A17 := Aside0.mk A170
     clear A170
     by_cases c18 : t210 = true
     ·subst c18
      have H1 : (if t214 = true then (if t218 = true then (if (wrap64 ((t207.length : Int) + (t211.length : Int))) ≤ (wrap64 ((t215.length : Int) + 4)) then (if (t207.length : Int) ≥ 2 then (if (t211.length : Int) ≥ 2 then (if 0 ≤ (wrap64 ((t207.length : Int) - 2)) then (if (wrap64 ((t207.length : Int) - 2)) ≤ (t207.length : Int) then (if (strOfNums (t207.drop ((wrap64 ((t207.length : Int) - 2)) : Int).toNat)).toList = ([13, 10] : List UInt8) then (if 0 ≤ (wrap64 ((t211.length : Int) - 2)) then (if (wrap64 ((t211.length : Int) - 2)) ≤ (t211.length : Int) then (some ((strOfNums (t211.drop ((wrap64 ((t211.length : Int) - 2)) : Int).toNat)).toList == ([13, 10] : List UInt8))) else (none)) else (none)) else (some false)) else (none)) else (none)) else (some false)) else (some false)) else (some false)) else (some false)) else (some false)) = some true := by (rw [if_pos rfl] at H) <;> exact H
      clear H
      have H := H1
      clear H1
      by_cases c19 : t214 = true
      ·subst c19
       have H1 : (if t218 = true then (if (wrap64 ((t207.length : Int) + (t211.length : Int))) ≤ (wrap64 ((t215.length : Int) + 4)) then (if (t207.length : Int) ≥ 2 then (if (t211.length : Int) ≥ 2 then (if 0 ≤ (wrap64 ((t207.length : Int) - 2)) then (if (wrap64 ((t207.length : Int) - 2)) ≤ (t207.length : Int) then (if (strOfNums (t207.drop ((wrap64 ((t207.length : Int) - 2)) : Int).toNat)).toList = ([13, 10] : List UInt8) then (if 0 ≤ (wrap64 ((t211.length : Int) - 2)) then (if (wrap64 ((t211.length : Int) - 2)) ≤ (t211.length : Int) then (some ((strOfNums (t211.drop ((wrap64 ((t211.length : Int) - 2)) : Int).toNat)).toList == ([13, 10] : List UInt8))) else (none)) else (none)) else (some false)) else (none)) else (none)) else (some false)) else (some false)) else (some false)) else (some false)) = some true := by (rw [if_pos rfl] at H) <;> exact H
       clear H
       have H := H1
       clear H1
       by_cases c20 : t218 = true
       ·subst c20
        have H1 : (if (wrap64 ((t207.length : Int) + (t211.length : Int))) ≤ (wrap64 ((t215.length : Int) + 4)) then (if (t207.length : Int) ≥ 2 then (if (t211.length : Int) ≥ 2 then (if 0 ≤ (wrap64 ((t207.length : Int) - 2)) then (if (wrap64 ((t207.length : Int) - 2)) ≤ (t207.length : Int) then (if (strOfNums (t207.drop ((wrap64 ((t207.length : Int) - 2)) : Int).toNat)).toList = ([13, 10] : List UInt8) then (if 0 ≤ (wrap64 ((t211.length : Int) - 2)) then (if (wrap64 ((t211.length : Int) - 2)) ≤ (t211.length : Int) then (some ((strOfNums (t211.drop ((wrap64 ((t211.length : Int) - 2)) : Int).toNat)).toList == ([13, 10] : List UInt8))) else (none)) else (none)) else (some false)) else (none)) else (none)) else (some false)) else (some false)) else (some false)) = some true := by (rw [if_pos rfl] at H) <;> exact H
        clear H
        have H := H1
        clear H1
        by_cases c21 : (wrap64 ((t207.length : Int) + (t211.length : Int))) ≤ (wrap64 ((t215.length : Int) + 4))
        ·rw [if_pos c21] at H
         have c21b0 : decide ((wrap64 ((t207.length : Int) + (t211.length : Int))) ≤ (wrap64 ((t215.length : Int) + 4))) = true := decide_eq_true c21
         clear c21
         by_cases c22 : (t207.length : Int) ≥ 2
         ·rw [if_pos c22] at H
          have c22b0 : decide (2 ≤ (t207.length : Int)) = true := decide_eq_true c22
          have c22b1 : decide (2 ≤ t207.length) = true := decide_eq_true (by omega)
          clear c22
          by_cases c23 : (t211.length : Int) ≥ 2
          ·rw [if_pos c23] at H
           have c23b0 : decide (2 ≤ (t211.length : Int)) = true := decide_eq_true c23
           have c23b1 : decide (2 ≤ t211.length) = true := decide_eq_true (by omega)
           clear c23
           obtain ⟨ji24, hji24⟩ : ∃ j_ : Int, (wrap64 ((t207.length : Int) - 2)) = j_ := ⟨_, rfl⟩
           replace H : (if 0 ≤ (ji24) then (if (ji24) ≤ (t207.length : Int) then (if (strOfNums (t207.drop ((ji24) : Int).toNat)).toList = ([13, 10] : List UInt8) then (if 0 ≤ (wrap64 ((t211.length : Int) - 2)) then (if (wrap64 ((t211.length : Int) - 2)) ≤ (t211.length : Int) then (some ((strOfNums (t211.drop ((wrap64 ((t211.length : Int) - 2)) : Int).toNat)).toList == ([13, 10] : List UInt8))) else (none)) else (none)) else (some false)) else (none)) else (none)) = some true := by first | (rw [hji24] at H; exact H) | (simp only [hji24] at H ⊢; exact H)
           (try rw [hji24] at A15)
           (try rw [hji24] at A16)
           (try rw [hji24] at A17)
           have hji24w : (IntKind.i64.wrap ((t207.length : Int) - 2)) = ji24 := (i64_w _).trans hji24
           by_cases c25 : 0 ≤ (ji24)
           ·rw [if_pos c25] at H
            have c25b0 := eq_true c25
            have c25b1 : decide (0 ≤ (ji24)) = true := decide_eq_true c25
            clear c25
            by_cases c26 : (ji24) ≤ (t207.length : Int)
            ·rw [if_pos c26] at H
             have c26b0 := eq_true c26
             have c26b1 : decide ((ji24) ≤ (t207.length : Int)) = true := decide_eq_true c26
             clear c26
             obtain ⟨y219, hy219⟩ : ∃ y_ : List Int, y_ = (t207.drop ((ji24) : Int).toNat) := ⟨_, rfl⟩
             replace H : (if (strOfNums y219).toList = ([13, 10] : List UInt8) then (if 0 ≤ (wrap64 ((t211.length : Int) - 2)) then (if (wrap64 ((t211.length : Int) - 2)) ≤ (t211.length : Int) then (some ((strOfNums (t211.drop ((wrap64 ((t211.length : Int) - 2)) : Int).toNat)).toList == ([13, 10] : List UInt8))) else (none)) else (none)) else (some false)) = some true := by first | (rw [hy219]; with_reducible exact H) | (have H2_ := (Option.bind_some _ _).symm.trans H; rw [hy219]; with_reducible exact H2_) | (have H2_ := (Option.bind_some _ _).symm.trans H; with_reducible exact H2_) | with_reducible exact H | (rw [hy219]; exact H) | exact H
             have Ny219 := Aside0.mk hy219
             clear hy219
             by_cases c27 : (strOfNums y219).toList = ([13, 10] : List UInt8)
             ·rw [if_pos c27] at H
              have c27b0 : ((strOfNums y219).toList == ([13, 10] : List UInt8)) = true := beq_iff_eq.mpr c27
              have c27b1 : ((strOfNums y219).toList != ([13, 10] : List UInt8)) = false := bne_eq_false_iff_eq.mpr c27
              clear c27
              obtain ⟨ji28, hji28⟩ : ∃ j_ : Int, (wrap64 ((t211.length : Int) - 2)) = j_ := ⟨_, rfl⟩
              replace H : (if 0 ≤ (ji28) then (if (ji28) ≤ (t211.length : Int) then (some ((strOfNums (t211.drop ((ji28) : Int).toNat)).toList == ([13, 10] : List UInt8))) else (none)) else (none)) = some true := by first | (rw [hji28] at H; exact H) | (simp only [hji28] at H ⊢; exact H)
              (try rw [hji28] at A15)
              (try rw [hji28] at A16)
              (try rw [hji28] at A17)
              have hji28w : (IntKind.i64.wrap ((t211.length : Int) - 2)) = ji28 := (i64_w _).trans hji28
              by_cases c29 : 0 ≤ (ji28)
              ·rw [if_pos c29] at H
               have c29b0 := eq_true c29
               have c29b1 : decide (0 ≤ (ji28)) = true := decide_eq_true c29
               clear c29
               by_cases c30 : (ji28) ≤ (t211.length : Int)
               ·rw [if_pos c30] at H
                have c30b0 := eq_true c30
                have c30b1 : decide ((ji28) ≤ (t211.length : Int)) = true := decide_eq_true c30
                clear c30
                obtain ⟨y223, hy223⟩ : ∃ y_ : List Int, y_ = (t211.drop ((ji28) : Int).toNat) := ⟨_, rfl⟩
                replace H : (some ((strOfNums y223).toList == ([13, 10] : List UInt8))) = some true := by first | (rw [hy223]; with_reducible exact H) | (have H2_ := (Option.bind_some _ _).symm.trans H; rw [hy223]; with_reducible exact H2_) | (have H2_ := (Option.bind_some _ _).symm.trans H; with_reducible exact H2_) | with_reducible exact H | (rw [hy223]; exact H) | exact H
                have Ny223 := Aside0.mk hy223
                clear hy223
                have hR_ : (((strOfNums y223).toList == ([13, 10] : List UInt8))) = true := Option.some.inj H
                have hcz31_0 : wc.cell? ⟨gb205, 0, none⟩ = some (.slice none 0 0) := (blk_cell BK205.out 0).trans rfl
                have hcz31_1 : wc.cell? ⟨gb205, 1, none⟩ = some (.int .i64 3) := (blk_cell BK205.out 1).trans rfl
                have hcz31_2 : wc.cell? ⟨gb205, 2, none⟩ = some (.slice A1 l1.length c1) := (blk_cell BK205.out 2).trans rfl
                have hfz31_0 := blk_frozen BK205.out 0
                have hfz31_1 := blk_frozen BK205.out 1
                have hfz31_2 := blk_frozen BK205.out 2
                go_wp2_with (first | ((with_reducible refine gate_callee (f := 10) rfl ?_); refine goesL_ (some 32) rfl rfl Tryz.func10 (by kernel_rfl) rfl #[.slice A0 l0.length c0, .agg #[.slice none 0 0, .int .i64 3, .slice A1 l1.length c1]] rfl (by (try simp only [List.map_toArray, List.map_cons, List.map_nil]); first | done | rfl | (simp only [List.length_drop, List.length_take]; rfl)) ?_; (refine (sect_Get.calls kj4 _ _ l0 _ _ ([] : List Int) 3 _ _ l1 t207 true _ ?side1 ?side2 ?side3 ?side4 ?side5 ?side6 ?side7 A15.out).mono ?_); (case side1 => repeat (first | exact (Kd.C_below HR0.out HB.out) | (with_reducible refine Kd.C_alloc ?_ _) | (with_reducible refine Kd.C_drewN ?_ _) | (with_reducible refine Kd.C_drew ?_))); (case side2 => exact HC0.out); (case side3 => exact Kd.C_nil _ _); (case side4 => exact Nat.le_refl _); (case side5 => repeat (first | exact (Kd.C_below HR1.out HB.out) | (with_reducible refine Kd.C_alloc ?_ _) | (with_reducible refine Kd.C_drewN ?_ _) | (with_reducible refine Kd.C_drew ?_))); (case side6 => exact HC1.out); (case side7 => exact Gl.below HG.out (by repeat (first | (with_reducible first | exact HB.out | apply below_alloc | apply pw_below_drewN | apply below_drew1 | refine below_set ?_ GE205.out) | exact HB.out))); rintro e w32 ⟨v208, rfl, ho0, hb⟩; refine ⟨_, rfl, ?_⟩; have n0_ := Aside0.mk (Kd.R_lower ho0 (below_size (by repeat (first | (with_reducible first | exact HB.out | apply below_alloc | apply pw_below_drewN | apply below_drew1 | refine below_set ?_ GE205.out) | exact HB.out)))); have n1_ := Aside0.mk (blk_below (g := gb205) (o := .cells #[.slice none 0 0, .int .i64 3, .slice A1 l1.length c1] 26 (0, 0)) (by (with_reducible repeat (first | refine blk_drewN ?_ _ | refine blk_drew ?_ | refine blk_alloc ?_ _)); exact BK205.out) hb); have n2_ := Aside0.mk (below_step (by repeat (first | (with_reducible first | exact HB.out | apply below_alloc | apply pw_below_drewN | apply below_drew1 | refine below_set ?_ GE205.out) | exact HB.out)) hb); clear BK205; clear HB; have HO209 := n0_; have BK205 := n1_; have HB := n2_; clear n0_ n1_ n2_; (try clear hb); (try clear hb2); (try clear hk); (try clear hi); (try clear ho0)) | ((with_reducible refine gate_callee (f := 10) rfl ?_); refine goesL_ (some 39) rfl rfl Tryz.func10 (by kernel_rfl) rfl #[.slice A0 l0.length c0, .agg #[.slice none 0 0, .int .i64 4, .slice A1 l1.length c1]] rfl (by (try simp only [List.map_toArray, List.map_cons, List.map_nil]); first | done | rfl | (simp only [List.length_drop, List.length_take]; rfl)) ?_; (refine (sect_Get.calls kj4 _ _ l0 _ _ ([] : List Int) 4 _ _ l1 t211 true _ ?side1 ?side2 ?side3 ?side4 ?side5 ?side6 ?side7 A16.out).mono ?_); (case side1 => repeat (first | exact (Kd.C_below HR0.out HB.out) | (with_reducible refine Kd.C_alloc ?_ _) | (with_reducible refine Kd.C_drewN ?_ _) | (with_reducible refine Kd.C_drew ?_))); (case side2 => exact HC0.out); (case side3 => exact Kd.C_nil _ _); (case side4 => exact Nat.le_refl _); (case side5 => repeat (first | exact (Kd.C_below HR1.out HB.out) | (with_reducible refine Kd.C_alloc ?_ _) | (with_reducible refine Kd.C_drewN ?_ _) | (with_reducible refine Kd.C_drew ?_))); (case side6 => exact HC1.out); (case side7 => exact Gl.below HG.out (by repeat (first | (with_reducible first | exact HB.out | apply below_alloc | apply pw_below_drewN | apply below_drew1 | refine below_set ?_ GE205.out) | exact HB.out))); rintro e w33 ⟨v212, rfl, ho0, hb⟩; refine ⟨_, rfl, ?_⟩; have n0_ := Aside0.mk (Kd.R_elder' (by (with_reducible repeat (first | apply Kd.R_alloc | apply Kd.R_drewN | apply Kd.R_drew)); exact HO209.out) (Kd.R_base ho0) hb); have n1_ := Aside0.mk (Kd.R_lower (Kd.R_new' ho0 (Kd.R_lt (by (with_reducible repeat (first | apply Kd.R_alloc | apply Kd.R_drewN | apply Kd.R_drew)); exact HO209.out))) (below_size (by repeat (first | (with_reducible first | exact HB.out | apply below_alloc | apply pw_below_drewN | apply below_drew1 | refine below_set ?_ GE205.out) | exact HB.out)))); have n2_ := Aside0.mk (blk_below (g := gb205) (o := .cells #[.slice none 0 0, .int .i64 3, .slice A1 l1.length c1] 26 (0, 0)) (by (with_reducible repeat (first | refine blk_drewN ?_ _ | refine blk_drew ?_ | refine blk_alloc ?_ _)); exact BK205.out) hb); have n3_ := Aside0.mk (below_step (by repeat (first | (with_reducible first | exact HB.out | apply below_alloc | apply pw_below_drewN | apply below_drew1 | refine below_set ?_ GE205.out) | exact HB.out)) hb); clear HO209; clear BK205; clear HB; have HO209 := n0_; have HO213 := n1_; have BK205 := n2_; have HB := n3_; clear n0_ n1_ n2_ n3_; (try clear hb); (try clear hb2); (try clear hk); (try clear hi); (try clear ho0)) | ((with_reducible refine gate_callee (f := 10) rfl ?_); refine goesL_ (some 45) rfl rfl Tryz.func10 (by kernel_rfl) rfl #[.slice A0 l0.length c0, .agg #[.slice none 0 0, .int .i64 1, .slice none 0 0]] rfl (by (try simp only [List.map_toArray, List.map_cons, List.map_nil]); first | done | rfl | (simp only [List.length_drop, List.length_take]; rfl)) ?_; (refine (sect_Get.calls kj4 _ _ l0 _ _ ([] : List Int) 1 _ _ ([] : List ByteArray) t215 true _ ?side1 ?side2 ?side3 ?side4 ?side5 ?side6 ?side7 A17.out).mono ?_); (case side1 => repeat (first | exact (Kd.C_below HR0.out HB.out) | (with_reducible refine Kd.C_alloc ?_ _) | (with_reducible refine Kd.C_drewN ?_ _) | (with_reducible refine Kd.C_drew ?_))); (case side2 => exact HC0.out); (case side3 => exact Kd.C_nil _ _); (case side4 => exact Nat.le_refl _); (case side5 => exact Kd.C_nil _ _); (case side6 => exact Nat.le_refl _); (case side7 => exact Gl.below HG.out (by repeat (first | (with_reducible first | exact HB.out | apply below_alloc | apply pw_below_drewN | apply below_drew1 | refine below_set ?_ GE205.out) | exact HB.out))); rintro e w34 ⟨v216, rfl, ho0, hb⟩; refine ⟨_, rfl, ?_⟩; have n0_ := Aside0.mk (Kd.R_elder' (by (with_reducible repeat (first | apply Kd.R_alloc | apply Kd.R_drewN | apply Kd.R_drew)); exact HO209.out) (Kd.R_base ho0) hb); have n1_ := Aside0.mk (Kd.R_elder' (by (with_reducible repeat (first | apply Kd.R_alloc | apply Kd.R_drewN | apply Kd.R_drew)); exact HO213.out) (Kd.R_base ho0) hb); have n2_ := Aside0.mk (Kd.R_lower (Kd.R_new' (Kd.R_new' ho0 (Kd.R_lt (by (with_reducible repeat (first | apply Kd.R_alloc | apply Kd.R_drewN | apply Kd.R_drew)); exact HO209.out))) (Kd.R_lt (by (with_reducible repeat (first | apply Kd.R_alloc | apply Kd.R_drewN | apply Kd.R_drew)); exact HO213.out))) (below_size (by repeat (first | (with_reducible first | exact HB.out | apply below_alloc | apply pw_below_drewN | apply below_drew1 | refine below_set ?_ GE205.out) | exact HB.out)))); have n3_ := Aside0.mk (blk_below (g := gb205) (o := .cells #[.slice none 0 0, .int .i64 3, .slice A1 l1.length c1] 26 (0, 0)) (by (with_reducible repeat (first | refine blk_drewN ?_ _ | refine blk_drew ?_ | refine blk_alloc ?_ _)); exact BK205.out) hb); have n4_ := Aside0.mk (below_step (by repeat (first | (with_reducible first | exact HB.out | apply below_alloc | apply pw_below_drewN | apply below_drew1 | refine below_set ?_ GE205.out) | exact HB.out)) hb); clear HO209; clear HO213; clear BK205; clear HB; have HO209 := n0_; have HO213 := n1_; have HO217 := n2_; have BK205 := n3_; have HB := n4_; clear n0_ n1_ n2_ n3_ n4_; (try clear hb); (try clear hb2); (try clear hk); (try clear hi); (try clear ho0); obtain ⟨Ao35, co35, eo35⟩ := Kd.R_slice HO209.out; subst eo35; obtain ⟨Ao36, co36, eo36⟩ := Kd.R_slice HO213.out; subst eo36; obtain ⟨Ao37, co37, eo37⟩ := Kd.R_slice HO217.out; subst eo37; have q38 : ((ji24) : Int) ≤ ((t207.length : Int) : Int) := of_decide_eq_true (by first | (with_reducible assumption) | assumption); obtain ⟨i038, hi038, _, hsz38, _⟩ := info_parts info5; have hroom38 : t207.length ≤ co35 := (Kd.R_reads' HO209.out).2.1; have hC38 : Kd.C (Kd.int .u8) _ Ao35 t207.length t207 := (Kd.R_reads' HO209.out).2.2; have q038 : (0 : Int) ≤ ((ji24) : Int) := of_decide_eq_true (by first | (with_reducible assumption) | assumption); have hcut38 := cut_from (P := Tryz.prog) 30 5 .i64 Tryz.underlying30 hi038 1 hsz38 Ao35 t207.length co35 (ji24) q038 q38; have hr38 := Kd.C_drop (m := ((ji24) : Int).toNat) (c := co35) hC38 (by omega) hroom38; obtain ⟨A38, hA38⟩ : ∃ A1, A1 = (if co35 = ((ji24) : Int).toNat then Ao35 else (Ao35 : Option Addr).map (·.add (((ji24) : Int).toNat * 1))) := ⟨_, rfl⟩; obtain ⟨c38, hc38⟩ : ∃ c1, c1 = co35 - ((ji24) : Int).toNat := ⟨_, rfl⟩; have hy38 : y219.length = t207.length - ((ji24) : Int).toNat := (by rw [Ny219.out, List.length_drop] <;> omega); rw [show (t207).drop ((ji24) : Int).toNat = y219 from Ny219.out.symm] at hr38; replace hr38 : Kd.C (Kd.int .u8) _ A38 y219.length y219 := (by rw [hA38]; exact hr38); rw [← hy38, ← hA38, ← hc38] at hcut38; have HR222 := Aside0.mk hr38; have HC222 := Aside0.mk (show y219.length ≤ c38 from by rw [hy38, hc38]; exact Nat.sub_le_sub_right hroom38 _); clear hr38 hC38 hroom38 hi038 hsz38 hc38; have KY38 := Aside0.mk hy38; have KA38 := Aside0.mk hA38; clear hy38 hA38; have KL38 := Aside0.mk (show ((ji24) : Int).toNat ≤ t207.length from by omega); replace q38 := eq_true q38; have hcv39 := Kd.C_string (P := Tryz.prog) (A := A38) (c := c38) Tryz.underlying30 Tryz.underlying5 Tryz.underlying9 (by repeat (first | (with_reducible exact HR222.out) | (with_reducible refine Kd.C_alloc ?_ _) | (with_reducible refine Kd.C_drewN ?_ _) | (with_reducible refine Kd.C_drew ?_) | exact HR222.out)); have hcw40 := fun n_ : Nat => Kd.C_string (P := Tryz.prog) (A := A38) (c := c38) Tryz.underlying30 Tryz.underlying5 Tryz.underlying9 (Kd.C_drewN (by repeat (first | (with_reducible exact HR222.out) | (with_reducible refine Kd.C_alloc ?_ _) | (with_reducible refine Kd.C_drewN ?_ _) | (with_reducible refine Kd.C_drew ?_) | exact HR222.out)) n_); have q41 : ((ji28) : Int) ≤ ((t211.length : Int) : Int) := of_decide_eq_true (by first | (with_reducible assumption) | assumption); obtain ⟨i041, hi041, _, hsz41, _⟩ := info_parts info5; have hroom41 : t211.length ≤ co36 := (Kd.R_reads' HO213.out).2.1; have hC41 : Kd.C (Kd.int .u8) _ Ao36 t211.length t211 := (Kd.R_reads' HO213.out).2.2; have q041 : (0 : Int) ≤ ((ji28) : Int) := of_decide_eq_true (by first | (with_reducible assumption) | assumption); have hcut41 := cut_from (P := Tryz.prog) 30 5 .i64 Tryz.underlying30 hi041 1 hsz41 Ao36 t211.length co36 (ji28) q041 q41; have hr41 := Kd.C_drop (m := ((ji28) : Int).toNat) (c := co36) hC41 (by omega) hroom41; obtain ⟨A41, hA41⟩ : ∃ A1, A1 = (if co36 = ((ji28) : Int).toNat then Ao36 else (Ao36 : Option Addr).map (·.add (((ji28) : Int).toNat * 1))) := ⟨_, rfl⟩; obtain ⟨c41, hc41⟩ : ∃ c1, c1 = co36 - ((ji28) : Int).toNat := ⟨_, rfl⟩; have hy41 : y223.length = t211.length - ((ji28) : Int).toNat := (by rw [Ny223.out, List.length_drop] <;> omega); rw [show (t211).drop ((ji28) : Int).toNat = y223 from Ny223.out.symm] at hr41; replace hr41 : Kd.C (Kd.int .u8) _ A41 y223.length y223 := (by rw [hA41]; exact hr41); rw [← hy41, ← hA41, ← hc41] at hcut41; have HR226 := Aside0.mk hr41; have HC226 := Aside0.mk (show y223.length ≤ c41 from by rw [hy41, hc41]; exact Nat.sub_le_sub_right hroom41 _); clear hr41 hC41 hroom41 hi041 hsz41 hc41; have KY41 := Aside0.mk hy41; have KA41 := Aside0.mk hA41; clear hy41 hA41; have KL41 := Aside0.mk (show ((ji28) : Int).toNat ≤ t211.length from by omega); replace q41 := eq_true q41; have hcv42 := Kd.C_string (P := Tryz.prog) (A := A41) (c := c41) Tryz.underlying30 Tryz.underlying5 Tryz.underlying9 (by repeat (first | (with_reducible exact HR226.out) | (with_reducible refine Kd.C_alloc ?_ _) | (with_reducible refine Kd.C_drewN ?_ _) | (with_reducible refine Kd.C_drew ?_) | exact HR226.out)); have hcw43 := fun n_ : Nat => Kd.C_string (P := Tryz.prog) (A := A41) (c := c41) Tryz.underlying30 Tryz.underlying5 Tryz.underlying9 (Kd.C_drewN (by repeat (first | (with_reducible exact HR226.out) | (with_reducible refine Kd.C_alloc ?_ _) | (with_reducible refine Kd.C_drewN ?_ _) | (with_reducible refine Kd.C_drew ?_) | exact HR226.out)) n_)))
                go_ret
                refine ⟨by first | rfl | exact Eq.trans (b := Ending.returned (.bool (((strOfNums y223).toList == ([13, 10] : List UInt8))))) (by first | rfl | (simp [errW_none, errW_some] <;> rfl) | (clear hR_; simp [*, errW_none, errW_some] <;> rfl)) (by rw [hR_]), ?_⟩
                exact by repeat (first | (with_reducible first | exact HB.out | apply below_alloc | apply pw_below_drewN | apply below_drew1 | refine below_set ?_ GE205.out) | exact HB.out)
               ·rw [if_neg c30] at H
                exact absurd H (by simp)
              ·rw [if_neg c29] at H
               exact absurd H (by simp)
             ·rw [if_neg c27] at H
              have c27b0 : ((strOfNums y219).toList == ([13, 10] : List UInt8)) = false := beq_eq_false_iff_ne.mpr c27
              have c27b1 : ((strOfNums y219).toList != ([13, 10] : List UInt8)) = true := bne_iff_ne.mpr c27
              exact absurd (Option.some.inj H) (by decide)
            ·rw [if_neg c26] at H
             exact absurd H (by simp)
           ·rw [if_neg c25] at H
            exact absurd H (by simp)
          ·rw [if_neg c23] at H
           have c23b0 : decide (2 ≤ (t211.length : Int)) = false := decide_eq_false c23
           have c23b1 : decide (2 ≤ t211.length) = false := decide_eq_false (by omega)
           clear c23
           exact absurd (Option.some.inj H) (by decide)
         ·rw [if_neg c22] at H
          have c22b0 : decide (2 ≤ (t207.length : Int)) = false := decide_eq_false c22
          have c22b1 : decide (2 ≤ t207.length) = false := decide_eq_false (by omega)
          clear c22
          exact absurd (Option.some.inj H) (by decide)
        ·rw [if_neg c21] at H
         have c21b0 : decide ((wrap64 ((t207.length : Int) + (t211.length : Int))) ≤ (wrap64 ((t215.length : Int) + 4))) = false := decide_eq_false c21
         clear c21
         exact absurd (Option.some.inj H) (by decide)
       ·replace c20 := Bool.eq_false_iff.mpr c20
        subst c20
        have H1 : (some false) = some true := by (rw [if_neg (show ¬ (false = true) by decide)] at H) <;> exact H
        clear H
        have H := H1
        clear H1
        exact absurd (Option.some.inj H) (by decide)
      ·replace c19 := Bool.eq_false_iff.mpr c19
       subst c19
       have H1 : (some false) = some true := by (rw [if_neg (show ¬ (false = true) by decide)] at H) <;> exact H
       clear H
       have H := H1
       clear H1
       exact absurd (Option.some.inj H) (by decide)
     ·replace c18 := Bool.eq_false_iff.mpr c18
      subst c18
      have H1 : (some false) = some true := by (rw [if_neg (show ¬ (false = true) by decide)] at H) <;> exact H
      clear H
      have H := H1
      clear H1
      exact absurd (Option.some.inj H) (by decide)
 ·replace c4 := Bool.eq_false_iff.mpr c4
  subst c4
  have H1 : (some false) = some true := by (rw [if_neg (show ¬ (false = true) by decide)] at H) <;> exact H
  clear H
  have H := H1
  clear H1
  exact absurd (Option.some.inj H) (by decide)

/-- THE ONE PURE STATEMENT of frankinglaw17_SectNames: yours. -/
def frankinglaw17_SectNames.Pure : Prop := ∀ (l0 : List Int) (l1 : List ByteArray), (l0.length ≤ maxLen ∧ ∀ y_ ∈ l0, (Lit.int .u8 y_).wf = true) → (l1.length ≤ maxLen ∧ ∀ y_ ∈ l1, y_.size ≤ 140737488351232) → ∃ k, frankinglaw17_SectNames.f k l0 l1 = some true

end Go.Proofs.YtefmlibcghjncaaGreatDoor.X
