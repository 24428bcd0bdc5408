/- By a program of this session, over the print of the kit: for each function of the program what it computes, and that its call comes to just that. -/
import Derived.Test.YtonlncajnniebaaDoorX0
import Derived.Test.YtonlncajnniebaaDoorX1
import Derived.Test.YtonlncajnniebaaDoorX2
import Derived.Test.YtonlncajnniebaaDoorX3
namespace Go.Proofs.YtonlncajnniebaaDoor.X
open Go.RowKit Go.Proofs.Mine Go.Proofs.YtonlncajnniebaaDoorW.PrintWords Go.Proofs.YtonlncajnniebaaDoorW.PrintLast Go.Proofs.YtonlncajnniebaaDoorW.PrintMore
attribute [local go_sem] max2_int min2_int max_two min_two max_three min_three max_four min_four   -- for this text's walks alone
set_option linter.unusedVariables false
set_option linter.unusedSimpArgs false

/-! ### frankinglaw11_HeadBuilt: function 3 -/
mutual
def frankinglaw11_HeadBuilt.j0 : Nat → List ByteArray → List ByteArray → ByteArray → Bool → Option (Bool)
 | 0, _, _, _, _ => none
 | k + 1, x0, x1, x2, x27 => if x27 = true then (some true) else (frankinglaw11_HeadBuilt.l0 k x0 x1 x2 (⟨#[]⟩ : ByteArray) 0)
def frankinglaw11_HeadBuilt.l0 : Nat → List ByteArray → List ByteArray → ByteArray → ByteArray → Int → Option (Bool)
 | 0, _, _, _, _, _ => none
 | k + 1, x0, x1, x2, x7, x8 => if x8 < (x0.length : Int) then (if 0 ≤ x8 then ((frankinglaw11_plain.f k (rdOf ByteArray.empty x0 x8) true).bind fun t311 => (if t311 = true then (if x8 < (x1.length : Int) then ((frankinglaw11_plain.f k (rdOf ByteArray.empty x1 x8) false).bind fun t313 => (if t313 = true then (if x7.size + (rdOf ByteArray.empty x0 x8).size ≤ 9223372036854775807 then (if x7.size + (rdOf ByteArray.empty x0 x8).size + 2 ≤ 9223372036854775807 then (if x7.size + (rdOf ByteArray.empty x0 x8).size + 2 + (rdOf ByteArray.empty x1 x8).size ≤ 9223372036854775807 then (if x7.size + (rdOf ByteArray.empty x0 x8).size + 2 + (rdOf ByteArray.empty x1 x8).size + 2 ≤ 9223372036854775807 then (frankinglaw11_HeadBuilt.l0 k x0 x1 x2 ((((x7 ++ (rdOf ByteArray.empty x0 x8)) ++ (⟨#[58, 32]⟩ : ByteArray)) ++ (rdOf ByteArray.empty x1 x8)) ++ (⟨#[13, 10]⟩ : ByteArray)) (wrap64 (x8 + 1))) else (none)) else (none)) else (none)) else (none)) else (some true))) else (none)) else (some true))) else (none)) else (if x7.size + 2 ≤ 9223372036854775807 then (if x7.size + 2 + x2.size ≤ 9223372036854775807 then ((head_Fields.f k (bytesOf ((x7 ++ (⟨#[13, 10]⟩ : ByteArray)) ++ x2))).bind fun t319 => (if (t319.length : Int) = (x0.length : Int) then (frankinglaw11_HeadBuilt.l1 k x0 x1 t319 0) else (some false))) else (none)) else (none))
def frankinglaw11_HeadBuilt.l1 : Nat → List ByteArray → List ByteArray → List (S29) → Int → Option (Bool)
 | 0, _, _, _, _ => none
 | k + 1, x0, x1, x9, x10 => if x10 < (x9.length : Int) then (if 0 ≤ x10 then (if x10 < (x0.length : Int) then (if ((rd_T29 x9 x10).f0).toList = (rdOf ByteArray.empty x0 x10).toList then (if x10 < (x1.length : Int) then ((head_Value.f (rdOf ByteArray.empty x1 x10)).bind fun t326 => (if ((rd_T29 x9 x10).f1).toList = t326.toList then (frankinglaw11_HeadBuilt.l1 k x0 x1 x9 (wrap64 (x10 + 1))) else (some false))) else (none)) else (some false)) else (none)) else (none)) else (some true)
end
def frankinglaw11_HeadBuilt.f (k : Nat) (l0 : List ByteArray) (l1 : List ByteArray) (a2 : ByteArray) : Option (Bool) := (frankinglaw11_awake.f k).bind fun t309 => (if t309 = true then (if (l0.length : Int) > 20 then (frankinglaw11_HeadBuilt.j0 k l0 l1 a2 true) else (if (l1.length : Int) < (l0.length : Int) then (frankinglaw11_HeadBuilt.j0 k l0 l1 a2 true) else (frankinglaw11_HeadBuilt.j0 k l0 l1 a2 (decide ((a2.size : Int) > 200))))) else (some false))
theorem frankinglaw11_HeadBuilt.mono_l : ∀ k, (∀ y0 y1 y2 y3, LeO (frankinglaw11_HeadBuilt.j0 k y0 y1 y2 y3) (frankinglaw11_HeadBuilt.j0 (k + 1) y0 y1 y2 y3)) ∧ (∀ y0 y1 y2 y3 y4, LeO (frankinglaw11_HeadBuilt.l0 k y0 y1 y2 y3 y4) (frankinglaw11_HeadBuilt.l0 (k + 1) y0 y1 y2 y3 y4)) ∧ (∀ y0 y1 y2 y3, LeO (frankinglaw11_HeadBuilt.l1 k y0 y1 y2 y3) (frankinglaw11_HeadBuilt.l1 (k + 1) y0 y1 y2 y3))
 | 0 => ⟨fun _ _ _ _ r h => by simp [frankinglaw11_HeadBuilt.j0] at h, fun _ _ _ _ _ r h => by simp [frankinglaw11_HeadBuilt.l0] at h, fun _ _ _ _ r h => by simp [frankinglaw11_HeadBuilt.l1] at h⟩
 | k + 1 => by
  obtain ⟨ih0, ih1, ih2⟩ := frankinglaw11_HeadBuilt.mono_l k
  refine ⟨?_, ?_, ?_⟩
  ·intro y0 y1 y2 y3
   unfold frankinglaw11_HeadBuilt.j0
   repeat' first
   | (with_reducible exact ih0 _ _ _ _)
   | (with_reducible exact ih1 _ _ _ _ _)
   | (with_reducible exact ih2 _ _ _ _)
   | (with_reducible exact frankinglaw11_awake.mono _)
   | (with_reducible exact frankinglaw11_plain.mono _ _ _)
   | (with_reducible exact head_Fields.mono _ _)
   | (with_reducible exact LeO.refl _)
   | (with_reducible exact LeO.none _)
   | (with_reducible refine LeO.ite ?_ ?_)
   | (with_reducible refine LeO.bind ?_ (fun _ => ?_))
   | exact ih0 _ _ _ _
   | exact ih1 _ _ _ _ _
   | exact ih2 _ _ _ _
   | exact frankinglaw11_awake.mono _
   | exact frankinglaw11_plain.mono _ _ _
   | exact head_Fields.mono _ _
   | exact LeO.none _
   | refine LeO.ite ?_ ?_
   | refine LeO.bind ?_ (fun _ => ?_)
  ·intro y0 y1 y2 y3 y4
   unfold frankinglaw11_HeadBuilt.l0
   repeat' first
   | (with_reducible exact ih0 _ _ _ _)
   | (with_reducible exact ih1 _ _ _ _ _)
   | (with_reducible exact ih2 _ _ _ _)
   | (with_reducible exact frankinglaw11_awake.mono _)
   | (with_reducible exact frankinglaw11_plain.mono _ _ _)
   | (with_reducible exact head_Fields.mono _ _)
   | (with_reducible exact LeO.refl _)
   | (with_reducible exact LeO.none _)
   | (with_reducible refine LeO.ite ?_ ?_)
   | (with_reducible refine LeO.bind ?_ (fun _ => ?_))
   | exact ih0 _ _ _ _
   | exact ih1 _ _ _ _ _
   | exact ih2 _ _ _ _
   | exact frankinglaw11_awake.mono _
   | exact frankinglaw11_plain.mono _ _ _
   | exact head_Fields.mono _ _
   | exact LeO.none _
   | refine LeO.ite ?_ ?_
   | refine LeO.bind ?_ (fun _ => ?_)
  ·intro y0 y1 y2 y3
   unfold frankinglaw11_HeadBuilt.l1
   repeat' first
   | (with_reducible exact ih0 _ _ _ _)
   | (with_reducible exact ih1 _ _ _ _ _)
   | (with_reducible exact ih2 _ _ _ _)
   | (with_reducible exact frankinglaw11_awake.mono _)
   | (with_reducible exact frankinglaw11_plain.mono _ _ _)
   | (with_reducible exact head_Fields.mono _ _)
   | (with_reducible exact LeO.refl _)
   | (with_reducible exact LeO.none _)
   | (with_reducible refine LeO.ite ?_ ?_)
   | (with_reducible refine LeO.bind ?_ (fun _ => ?_))
   | exact ih0 _ _ _ _
   | exact ih1 _ _ _ _ _
   | exact ih2 _ _ _ _
   | exact frankinglaw11_awake.mono _
   | exact frankinglaw11_plain.mono _ _ _
   | exact head_Fields.mono _ _
   | exact LeO.none _
   | refine LeO.ite ?_ ?_
   | refine LeO.bind ?_ (fun _ => ?_)
theorem frankinglaw11_HeadBuilt.mono : ∀ a0 a1 a2 k, LeO (frankinglaw11_HeadBuilt.f k a0 a1 a2) (frankinglaw11_HeadBuilt.f (k + 1) a0 a1 a2) := by
 intro a0 a1 a2 k
 obtain ⟨ih0, ih1, ih2⟩ := frankinglaw11_HeadBuilt.mono_l k
 unfold frankinglaw11_HeadBuilt.f
 repeat' first
   | (with_reducible exact ih0 _ _ _ _)
   | (with_reducible exact ih1 _ _ _ _ _)
   | (with_reducible exact ih2 _ _ _ _)
   | (with_reducible exact frankinglaw11_awake.mono _)
   | (with_reducible exact frankinglaw11_plain.mono _ _ _)
   | (with_reducible exact head_Fields.mono _ _)
   | (with_reducible exact LeO.refl _)
   | (with_reducible exact LeO.none _)
   | (with_reducible refine LeO.ite ?_ ?_)
   | (with_reducible refine LeO.bind ?_ (fun _ => ?_))
   | exact ih0 _ _ _ _
   | exact ih1 _ _ _ _ _
   | exact ih2 _ _ _ _
   | exact frankinglaw11_awake.mono _
   | exact frankinglaw11_plain.mono _ _ _
   | exact head_Fields.mono _ _
   | exact LeO.none _
   | refine LeO.ite ?_ ?_
   | refine LeO.bind ?_ (fun _ => ?_)
def frankinglaw11_HeadBuilt.T11 : Bool × List (List Nat × List Nat) := (true, [([], []), ([], []), ([], []), ([1, 2], [1, 2]), ([3], [3]), ([0, 4], [0, 4]), ([5], [5]), ([], []), ([], []), ([7, 8], [7, 8]), ([9], [9]), ([6, 10], [6, 10]), ([11], [11]), ([12, 0, 1, 2, 3, 4, 5, 6, 7, 8, 9, 10, 11, 12], [0, 12])])
def frankinglaw11_HeadBuilt.B11 : List Nat := [0, 0, 0, 6, 14, 31, 63, 0, 0, 384, 896, 2047, 4095, 8191]
theorem frankinglaw11_HeadBuilt.tab11 : rtab .any (opsOf Tryd.f3 11) = frankinglaw11_HeadBuilt.T11 := by kernel_rfl
theorem frankinglaw11_HeadBuilt.bits11 : waitsOk frankinglaw11_HeadBuilt.T11.2 frankinglaw11_HeadBuilt.B11 = true := by kernel_rfl
def frankinglaw11_HeadBuilt.T18 : Bool × List (List Nat × List Nat) := (true, [([], []), ([], []), ([0, 1], [0, 1]), ([2], [2]), ([3], [3]), ([], []), ([], []), ([5, 6], [5, 6]), ([7], [7]), ([4, 8], [4, 8]), ([9], [9]), ([10], [10]), ([10], [10]), ([11, 12, 10], [10, 11, 12]), ([13, 10], [10, 13]), ([14, 10], [10, 14]), ([10], [10]), ([10], [10]), ([16, 17, 10], [10, 16, 17]), ([18, 10], [10, 18]), ([19, 10, 10], [10, 19]), ([15, 20, 10], [10, 15, 20]), ([10, 21], [10, 21])])
def frankinglaw11_HeadBuilt.B18 : List Nat := [0, 0, 3, 7, 15, 0, 0, 96, 224, 511, 1023, 2047, 2047, 8191, 16383, 32767, 2047, 2047, 198655, 460799, 985087, 2097151, 4194303]
theorem frankinglaw11_HeadBuilt.tab18 : rtab .any (opsOf Tryd.f3 18) = frankinglaw11_HeadBuilt.T18 := by kernel_rfl
theorem frankinglaw11_HeadBuilt.bits18 : waitsOk frankinglaw11_HeadBuilt.T18.2 frankinglaw11_HeadBuilt.B18 = true := by kernel_rfl
set_option maxHeartbeats 8000000 in
set_option maxRecDepth 100000 in
theorem frankinglaw11_HeadBuilt.calls (k : Nat) (A0 : Option Addr) (c0 : Nat) (l0 : List ByteArray) (A1 : Option Addr) (c1 : Nat) (l1 : List ByteArray) (a2 : ByteArray) (w : World) (hr0 : Kd.C Kd.string w A0 l0.length l0) (hc0 : l0.length ≤ c0) (hr1 : Kd.C Kd.string w A1 l1.length l1) (hc1 : l1.length ≤ c1) (hG : Gl w) (h : frankinglaw11_HeadBuilt.f k l0 l1 a2 = some true) :
  Calls Tryd.prog 3 #[.slice A0 l0.length c0, .slice A1 l1.length c1, .string a2] w fun e w' => e = .returned (.bool true) ∧ Below w.heap.size w w' := by
 have HR0 := Aside0.mk hr0
 have HC0 := Aside0.mk hc0
 clear hr0 hc0
 have HR1 := Aside0.mk hr1
 have HC1 := Aside0.mk hc1
 clear hr1 hc1
 have HB := Aside0.mk (Below.refl w.heap.size w)
 have HG := Aside0.mk hG
 clear hG
 have H : ((frankinglaw11_awake.f k).bind fun t309 => (if t309 = true then (if (l0.length : Int) > 20 then (frankinglaw11_HeadBuilt.j0 k l0 l1 a2 true) else (if (l1.length : Int) < (l0.length : Int) then (frankinglaw11_HeadBuilt.j0 k l0 l1 a2 true) else (frankinglaw11_HeadBuilt.j0 k l0 l1 a2 (decide ((a2.size : Int) > 200))))) else (some false))) = some true := h
 clear h
 replace H := Option.bind_eq_some_iff.mp H
 obtain ⟨t309, A40, H⟩ := H
 replace H : (if t309 = true then (if (l0.length : Int) > 20 then (frankinglaw11_HeadBuilt.j0 k l0 l1 a2 true) else (if (l1.length : Int) < (l0.length : Int) then (frankinglaw11_HeadBuilt.j0 k l0 l1 a2 true) else (frankinglaw11_HeadBuilt.j0 k l0 l1 a2 (decide ((a2.size : Int) > 200))))) else (some false)) = some true := H
 have A4 := Aside0.mk A40
 clear A40
 by_cases c5 : t309 = true
 ·subst c5
  have H1 : (if (l0.length : Int) > 20 then (frankinglaw11_HeadBuilt.j0 k l0 l1 a2 true) else (if (l1.length : Int) < (l0.length : Int) then (frankinglaw11_HeadBuilt.j0 k l0 l1 a2 true) else (frankinglaw11_HeadBuilt.j0 k l0 l1 a2 (decide ((a2.size : Int) > 200))))) = some true := by (rw [if_pos rfl] at H) <;> exact H
  clear H
  have H := H1
  clear H1
  have HC6 := Aside0.mk H
  clear H
  go_enter Tryd.func3, Tryd.ntmps3
  go_upto_region 3 with (first | ((with_reducible refine gate_callee (f := 8) rfl ?_); refine goesL_ (some 11) rfl rfl Tryd.func8 (by kernel_rfl) rfl #[] rfl (by (try simp only [List.map_toArray, List.map_cons, List.map_nil]); first | done | rfl | (simp only [List.length_drop, List.length_take]; rfl)) ?_; (with_reducible refine (frankinglaw11_awake.calls k  true _ ?side1 A4.out).mono ?_); (case side1 => exact Gl.below HG.out (by repeat (first | (with_reducible first | exact HB.out | apply below_alloc | apply pw_below_drewN | apply below_drew1) | exact HB.out))); rintro e w7 ⟨rfl, hb⟩; refine ⟨_, rfl, ?_⟩; have n0_ := Aside0.mk (below_step (by repeat (first | (with_reducible first | exact HB.out | apply below_alloc | apply pw_below_drewN | apply below_drew1) | exact HB.out)) hb); clear HB; have HB := n0_; clear n0_; (try clear hb); (try clear hb2); (try clear hk); (try clear hi)))
  (try simp only [Act.put, List.setIfInBounds_toArray, List.set_cons_zero, List.set_cons_succ])
  go_cut [27] (fun v27 wc => ∃ (kq : Nat) (x27_5 : Bool), v27 = .bool x27_5 ∧ Aside0 (frankinglaw11_HeadBuilt.j0 kq l0 l1 a2 x27_5 = some true) ∧ Aside0 (kq ≤ k) ∧ Aside0 (Below w.heap.size w wc))
  case first =>
   have H := HC6.out
   clear HC6
   by_cases c8 : (l0.length : Int) > 20
   ·rw [if_pos c8] at H
    have c8b0 : decide (20 < (l0.length : Int)) = true := decide_eq_true c8
    have c8b1 : decide (20 < l0.length) = true := decide_eq_true (by omega)
    clear c8
    (first | rw [c8b0] | (simp only [i64_w, i32_w]; rw [c8b0]) | skip)
    have H' := Aside0.mk H
    clear H
    go_wp2
    go_meet
    case rel => exact ⟨_, (true), (by first | rfl | (simp; done) | (simp [*]; done) | (simp [bne_nil8, beq_nil8]; done)), H', ⟨by first | omega | exact Nat.le_refl _⟩, ⟨by repeat (first | (with_reducible first | exact HB.out | apply below_alloc | apply pw_below_drewN | apply below_drew1) | exact HB.out)⟩⟩
   ·rw [if_neg c8] at H
    have c8b0 : decide (20 < (l0.length : Int)) = false := decide_eq_false c8
    have c8b1 : decide (20 < l0.length) = false := decide_eq_false (by omega)
    clear c8
    (first | rw [c8b0] | (simp only [i64_w, i32_w]; rw [c8b0]) | skip)
    by_cases c9 : (l1.length : Int) < (l0.length : Int)
    ·rw [if_pos c9] at H
     have c9b0 : decide ((l1.length : Int) < (l0.length : Int)) = true := decide_eq_true c9
     have c9b1 : decide (l1.length < l0.length) = true := decide_eq_true (Int.ofNat_lt.mp c9)
     clear c9
     have H' := Aside0.mk H
     clear H
     go_wp2
     go_meet
     case rel => exact ⟨_, (true), (by first | rfl | (simp; done) | (simp [*]; done) | (simp [bne_nil8, beq_nil8]; done)), H', ⟨by first | omega | exact Nat.le_refl _⟩, ⟨by repeat (first | (with_reducible first | exact HB.out | apply below_alloc | apply pw_below_drewN | apply below_drew1) | exact HB.out)⟩⟩
    ·rw [if_neg c9] at H
     have c9b0 : decide ((l1.length : Int) < (l0.length : Int)) = false := decide_eq_false c9
     have c9b1 : decide (l1.length < l0.length) = false := decide_eq_false (fun h => c9 (Int.ofNat_lt.mpr h))
     clear c9
     have H' := Aside0.mk H
     clear H
     go_wp2
     go_meet
     case rel => exact ⟨_, (decide ((a2.size : Int) > 200)), (by first | rfl | (simp; done) | (simp [*]; done) | (simp [bne_nil8, beq_nil8]; done)), H', ⟨by first | omega | exact Nat.le_refl _⟩, ⟨by repeat (first | (with_reducible first | exact HB.out | apply below_alloc | apply pw_below_drewN | apply below_drew1) | exact HB.out)⟩⟩
  case rest =>
   clear HC6
   try clear c1
   try clear p2
   try clear c3
   try clear c5
   try clear c8
   try clear c8b0
   try clear c8b1
   try clear c9
   try clear c9b0
   try clear c9b1
   obtain ⟨kq, x27_5, rfl, HA, HJ5, HB⟩ := hcut
   cases kq with
   | zero => exact absurd HA.out (by simp [frankinglaw11_HeadBuilt.j0])
   | succ kj5 =>
    have H := HA.out
    clear HA
    simp only [frankinglaw11_HeadBuilt.j0] at H
    by_cases c10 : x27_5 = true
    ·subst c10
     have H1 : (some true) = some true := by (rw [if_pos rfl] at H) <;> exact H
     clear H
     have H := H1
     clear H1
     clear H
     go_wp2
     go_ret
     exact ⟨by first | rfl | (simp [errW_none, errW_some] <;> rfl) | (simp [*, errW_none, errW_some] <;> rfl), by repeat (first | (with_reducible first | exact HB.out | apply below_alloc | apply pw_below_drewN | apply below_drew1) | exact HB.out)⟩
    ·replace c10 := Bool.eq_false_iff.mpr c10
     subst c10
     have H1 : (frankinglaw11_HeadBuilt.l0 kj5 l0 l1 a2 (⟨#[]⟩ : ByteArray) 0) = some true := by (rw [if_neg (show ¬ (false = true) by decide)] at H) <;> exact H
     clear H
     have H := H1
     clear H1
     have H' := Aside0.mk H
     clear H
     go_wp2
     go_loopg [7, 8] kj5 (fun kq v7 v8 w' => ∃ (x7_2 : ByteArray) (x8_2 : Int), v7 = .string x7_2 ∧ v8 = .int .i64 x8_2 ∧ Aside0 (frankinglaw11_HeadBuilt.l0 kq l0 l1 a2 x7_2 x8_2 = some true) ∧ Aside0 (kq ≤ kj5) ∧ Aside0 (Below w.heap.size w w'))
     case atStart => exact ⟨((⟨#[]⟩ : ByteArray)), (0), (by first | rfl | (simp; done) | (simp [*]; done) | (simp [bne_nil8, beq_nil8]; done)), (by first | rfl | (simp; done) | (simp [*]; done) | (simp [bne_nil8, beq_nil8]; done)), H', ⟨Nat.le_refl _⟩, ⟨by repeat (first | (with_reducible first | exact HB.out | apply below_alloc | apply pw_below_drewN | apply below_drew1) | exact HB.out)⟩⟩
     case round =>
      clear H'
      try clear c1
      try clear p2
      try clear c3
      try clear c5
      try clear c8
      try clear c8b0
      try clear c8b1
      try clear c9
      try clear c9b0
      try clear c9b1
      try clear c10
      try clear p2
      obtain ⟨x7_2, x8_2, rfl, rfl, HA, HK2, HB⟩ := hrel
      cases gk with
      | zero => exact absurd HA.out (by simp [frankinglaw11_HeadBuilt.l0])
      | succ k2 =>
       have H := HA.out
       clear HA
       simp only [frankinglaw11_HeadBuilt.l0] at H
       by_cases c11 : x8_2 < (l0.length : Int)
       ·rw [if_pos c11] at H
        have c11b0 : decide (x8_2 < (l0.length : Int)) = true := decide_eq_true c11
        clear c11
        by_cases c12 : 0 ≤ x8_2
        ·rw [if_pos c12] at H
         have c12b0 : decide (0 ≤ x8_2) = true := decide_eq_true c12
         clear c12
         replace H := Option.bind_eq_some_iff.mp H
         obtain ⟨t311, A130, H⟩ := H
         replace H : (if t311 = true then (if x8_2 < (l1.length : Int) then ((frankinglaw11_plain.f k2 (rdOf ByteArray.empty l1 x8_2) false).bind fun t313 => (if t313 = true then (if x7_2.size + (rdOf ByteArray.empty l0 x8_2).size ≤ 9223372036854775807 then (if x7_2.size + (rdOf ByteArray.empty l0 x8_2).size + 2 ≤ 9223372036854775807 then (if x7_2.size + (rdOf ByteArray.empty l0 x8_2).size + 2 + (rdOf ByteArray.empty l1 x8_2).size ≤ 9223372036854775807 then (if x7_2.size + (rdOf ByteArray.empty l0 x8_2).size + 2 + (rdOf ByteArray.empty l1 x8_2).size + 2 ≤ 9223372036854775807 then (frankinglaw11_HeadBuilt.l0 k2 l0 l1 a2 ((((x7_2 ++ (rdOf ByteArray.empty l0 x8_2)) ++ (⟨#[58, 32]⟩ : ByteArray)) ++ (rdOf ByteArray.empty l1 x8_2)) ++ (⟨#[13, 10]⟩ : ByteArray)) (wrap64 (x8_2 + 1))) else (none)) else (none)) else (none)) else (none)) else (some true))) else (none)) else (some true)) = some true := H
         have A13 := Aside0.mk A130
         clear A130
         by_cases c14 : t311 = true
         ·subst c14
          have H1 : (if x8_2 < (l1.length : Int) then ((frankinglaw11_plain.f k2 (rdOf ByteArray.empty l1 x8_2) false).bind fun t313 => (if t313 = true then (if x7_2.size + (rdOf ByteArray.empty l0 x8_2).size ≤ 9223372036854775807 then (if x7_2.size + (rdOf ByteArray.empty l0 x8_2).size + 2 ≤ 9223372036854775807 then (if x7_2.size + (rdOf ByteArray.empty l0 x8_2).size + 2 + (rdOf ByteArray.empty l1 x8_2).size ≤ 9223372036854775807 then (if x7_2.size + (rdOf ByteArray.empty l0 x8_2).size + 2 + (rdOf ByteArray.empty l1 x8_2).size + 2 ≤ 9223372036854775807 then (frankinglaw11_HeadBuilt.l0 k2 l0 l1 a2 ((((x7_2 ++ (rdOf ByteArray.empty l0 x8_2)) ++ (⟨#[58, 32]⟩ : ByteArray)) ++ (rdOf ByteArray.empty l1 x8_2)) ++ (⟨#[13, 10]⟩ : ByteArray)) (wrap64 (x8_2 + 1))) else (none)) else (none)) else (none)) else (none)) else (some true))) else (none)) = some true := by (rw [if_pos rfl] at H) <;> exact H
          clear H
          have H := H1
          clear H1
          by_cases c15 : x8_2 < (l1.length : Int)
          ·rw [if_pos c15] at H
           have c15b0 : decide (x8_2 < (l1.length : Int)) = true := decide_eq_true c15
           clear c15
           replace H := Option.bind_eq_some_iff.mp H
           obtain ⟨t313, A160, H⟩ := H
           replace H : (if t313 = true then (if x7_2.size + (rdOf ByteArray.empty l0 x8_2).size ≤ 9223372036854775807 then (if x7_2.size + (rdOf ByteArray.empty l0 x8_2).size + 2 ≤ 9223372036854775807 then (if x7_2.size + (rdOf ByteArray.empty l0 x8_2).size + 2 + (rdOf ByteArray.empty l1 x8_2).size ≤ 9223372036854775807 then (if x7_2.size + (rdOf ByteArray.empty l0 x8_2).size + 2 + (rdOf ByteArray.empty l1 x8_2).size + 2 ≤ 9223372036854775807 then (frankinglaw11_HeadBuilt.l0 k2 l0 l1 a2 ((((x7_2 ++ (rdOf ByteArray.empty l0 x8_2)) ++ (⟨#[58, 32]⟩ : ByteArray)) ++ (rdOf ByteArray.empty l1 x8_2)) ++ (⟨#[13, 10]⟩ : ByteArray)) (wrap64 (x8_2 + 1))) else (none)) else (none)) else (none)) else (none)) else (some true)) = some true := H
           have A16 := Aside0.mk A160
           clear A160
           by_cases c17 : t313 = true
           ·subst c17
            have H1 : (if x7_2.size + (rdOf ByteArray.empty l0 x8_2).size ≤ 9223372036854775807 then (if x7_2.size + (rdOf ByteArray.empty l0 x8_2).size + 2 ≤ 9223372036854775807 then (if x7_2.size + (rdOf ByteArray.empty l0 x8_2).size + 2 + (rdOf ByteArray.empty l1 x8_2).size ≤ 9223372036854775807 then (if x7_2.size + (rdOf ByteArray.empty l0 x8_2).size + 2 + (rdOf ByteArray.empty l1 x8_2).size + 2 ≤ 9223372036854775807 then (frankinglaw11_HeadBuilt.l0 k2 l0 l1 a2 ((((x7_2 ++ (rdOf ByteArray.empty l0 x8_2)) ++ (⟨#[58, 32]⟩ : ByteArray)) ++ (rdOf ByteArray.empty l1 x8_2)) ++ (⟨#[13, 10]⟩ : ByteArray)) (wrap64 (x8_2 + 1))) else (none)) else (none)) else (none)) else (none)) = some true := by (rw [if_pos rfl] at H) <;> exact H
            clear H
            have H := H1
            clear H1
            by_cases c18 : x7_2.size + (rdOf ByteArray.empty l0 x8_2).size ≤ 9223372036854775807
            ·rw [if_pos c18] at H
             have c18b0 := eq_true c18
             have c18b1 : decide (x7_2.size + (rdOf ByteArray.empty l0 x8_2).size ≤ 9223372036854775807) = true := decide_eq_true c18
             try have c18b2 : (9223372036854775807 < x7_2.size + (rdOf ByteArray.empty l0 x8_2).size) = False := eq_false (Nat.not_lt.2 c18)
             by_cases c19 : x7_2.size + (rdOf ByteArray.empty l0 x8_2).size + 2 ≤ 9223372036854775807
             ·rw [if_pos c19] at H
              have c19b0 := eq_true c19
              have c19b1 : decide (x7_2.size + (rdOf ByteArray.empty l0 x8_2).size + 2 ≤ 9223372036854775807) = true := decide_eq_true c19
              try have c19b2 : (9223372036854775807 < x7_2.size + (rdOf ByteArray.empty l0 x8_2).size + 2) = False := eq_false (Nat.not_lt.2 c19)
              by_cases c20 : x7_2.size + (rdOf ByteArray.empty l0 x8_2).size + 2 + (rdOf ByteArray.empty l1 x8_2).size ≤ 9223372036854775807
              ·rw [if_pos c20] at H
               have c20b0 := eq_true c20
               have c20b1 : decide (x7_2.size + (rdOf ByteArray.empty l0 x8_2).size + 2 + (rdOf ByteArray.empty l1 x8_2).size ≤ 9223372036854775807) = true := decide_eq_true c20
               try have c20b2 : (9223372036854775807 < x7_2.size + (rdOf ByteArray.empty l0 x8_2).size + 2 + (rdOf ByteArray.empty l1 x8_2).size) = False := eq_false (Nat.not_lt.2 c20)
               by_cases c21 : x7_2.size + (rdOf ByteArray.empty l0 x8_2).size + 2 + (rdOf ByteArray.empty l1 x8_2).size + 2 ≤ 9223372036854775807
               ·rw [if_pos c21] at H
                have c21b0 := eq_true c21
                have c21b1 : decide (x7_2.size + (rdOf ByteArray.empty l0 x8_2).size + 2 + (rdOf ByteArray.empty l1 x8_2).size + 2 ≤ 9223372036854775807) = true := decide_eq_true c21
                try have c21b2 : (9223372036854775807 < x7_2.size + (rdOf ByteArray.empty l0 x8_2).size + 2 + (rdOf ByteArray.empty l1 x8_2).size + 2) = False := eq_false (Nat.not_lt.2 c21)
                have H' := Aside0.mk H
                clear H
                have p310 : 0 ≤ (x8_2 : Int) := of_decide_eq_true (by first | (with_reducible assumption) | assumption)
                have q310 : x8_2 < (l0.length : Int) := of_decide_eq_true (by first | (with_reducible assumption) | assumption)
                obtain ⟨ad310, e310, hx310_0⟩ := Kd.at_string HR0.out x8_2 p310 q310
                cases e310
                replace hx310_0 := (HB.out.cell (World.block_lt_of_cell? w _ hx310_0)).trans hx310_0
                replace p310 := eq_true p310
                replace q310 := eq_true q310
                try go_wp2_with (first | ((with_reducible refine gate_callee (f := 9) rfl ?_); refine goesL_ (some 38) rfl rfl Tryd.func9 (by kernel_rfl) rfl #[.string (rdOf ByteArray.empty l0 x8_2), .bool true] rfl (by (try simp only [List.map_toArray, List.map_cons, List.map_nil]); first | done | rfl | (simp only [List.length_drop, List.length_take]; rfl)) ?_; (with_reducible refine (frankinglaw11_plain.calls k2 (rdOf ByteArray.empty l0 x8_2) true true _ A13.out).mono ?_); rintro e w' ⟨rfl, ⟨nd, rfl⟩⟩; refine ⟨_, rfl, ?_⟩; have p312 : 0 ≤ (x8_2 : Int) := of_decide_eq_true (by first | (with_reducible assumption) | assumption); have q312 : x8_2 < (l1.length : Int) := of_decide_eq_true (by first | (with_reducible assumption) | assumption); obtain ⟨ad312, e312, hx312_0⟩ := Kd.at_string HR1.out x8_2 p312 q312; cases e312; replace hx312_0 := (HB.out.cell (World.block_lt_of_cell? w _ hx312_0)).trans hx312_0; replace p312 := eq_true p312; replace q312 := eq_true q312) | (go_at_call 9; (with_reducible refine (frankinglaw11_plain.calls k2 (rdOf ByteArray.empty l1 x8_2) false true _ A16.out).mono ?_); rintro e w' ⟨rfl, ⟨nd, rfl⟩⟩))
                (try (rw [drewN_self wr]; generalize hq_ : World.drewN wr _ = wr; have n0_ : Aside0 (Below w.heap.size w wr) := ⟨by rw [← hq_]; exact (by repeat (first | (with_reducible first | exact HB.out | apply below_alloc | apply pw_below_drewN | apply below_drew1) | exact HB.out))⟩; clear HB hq_; have HB := n0_; clear n0_))
                have n0_ := Aside0.mk (below_drew1 HB.out)
                clear HB
                have HB := n0_
                clear n0_
                have p314 : 0 ≤ (x8_2 : Int) := of_decide_eq_true (by first | (with_reducible assumption) | assumption)
                have q314 : x8_2 < (l0.length : Int) := of_decide_eq_true (by first | (with_reducible assumption) | assumption)
                obtain ⟨ad314, e314, hx314_0⟩ := Kd.at_string HR0.out x8_2 p314 q314
                have hw314_0 := hx314_0
                obtain rfl : ad310 = ad314 := (by injection e314)
                replace hx314_0 := (HB.out.cell (World.block_lt_of_cell? w _ hx314_0)).trans hx314_0
                replace p314 := eq_true p314
                replace q314 := eq_true q314
                have p315 : 0 ≤ (x8_2 : Int) := of_decide_eq_true (by first | (with_reducible assumption) | assumption)
                have q315 : x8_2 < (l1.length : Int) := of_decide_eq_true (by first | (with_reducible assumption) | assumption)
                obtain ⟨ad315, e315, hx315_0⟩ := Kd.at_string HR1.out x8_2 p315 q315
                have hw315_0 := hx315_0
                obtain rfl : ad312 = ad315 := (by injection e315)
                replace hx315_0 := (HB.out.cell (World.block_lt_of_cell? w _ hx315_0)).trans hx315_0
                replace p315 := eq_true p315
                replace q315 := eq_true q315
                refine start_ (n := 14) (S := fun w' => w'.cell? (ad310.add (x8_2).toNat) = some (.string (rdOf ByteArray.empty l0 x8_2)) ∧ w'.cell? (ad312.add (x8_2).toNat) = some (.string (rdOf ByteArray.empty l1 x8_2))) (ds := []) #[false, false, false, false, false, false, false, false, false, false, false, false, false, false] (by kernel_rfl) rfl rfl ⟨((HB.out.cell (World.block_lt_of_cell? w _ hw314_0)).trans hw314_0), ((HB.out.cell (World.block_lt_of_cell? w _ hw315_0)).trans hw315_0)⟩ (fun hHeld => ?_); refine with_tabW frankinglaw11_HeadBuilt.tab11 frankinglaw11_HeadBuilt.bits11 (fun HT_ HW_ => ?_)
                generalize wr.drew = w22 at HB hx314_0 hx315_0 hHeld ⊢
                refine pure_ (i := 0) (N := some 48) (v := ?_) (a' := ?_) #[true, false, false, false, false, false, false, false, false, false, false, false, false, false] rfl rfl (any_of HT_.out (by kernel_rfl)) (fun _ _ _ h => h) (Or.inl ⟨by rfl, ?_⟩) ?_ ?_
                rotate_left
                ·intro w'
                 go_simp
                 with_reducible rfl
                rotate_left
                ·simp only [Act.put, List.setIfInBounds_toArray, List.set_cons_zero, List.set_cons_succ, i64_w, i32_w]
                 rfl
                refine pure_ (i := 1) (N := some 49) (v := ?_) (a' := ?_) #[true, true, false, false, false, false, false, false, false, false, false, false, false, false] rfl rfl (any_of HT_.out (by kernel_rfl)) (fun _ _ _ h => h) (Or.inl ⟨by rfl, ?_⟩) ?_ ?_
                rotate_left
                ·intro w'
                 go_simp
                 with_reducible rfl
                rotate_left
                ·simp only [Act.put, List.setIfInBounds_toArray, List.set_cons_zero, List.set_cons_succ, i64_w, i32_w]
                 rfl
                refine pure_ (i := 2) (N := some 50) (v := ?_) (a' := ?_) #[true, true, true, false, false, false, false, false, false, false, false, false, false, false] rfl rfl (any_of HT_.out (by kernel_rfl)) (fun _ _ _ h => h) (Or.inl ⟨by rfl, ?_⟩) ?_ ?_
                rotate_left
                ·intro w'
                 go_simp
                 with_reducible rfl
                rotate_left
                ·simp only [Act.put, List.setIfInBounds_toArray, List.set_cons_zero, List.set_cons_succ, i64_w, i32_w]
                 rfl
                refine pure_ (i := 3) (N := some 51) (v := ?_) (a' := ?_) #[true, true, true, true, false, false, false, false, false, false, false, false, false, false] rfl rfl (any_of HT_.out (by kernel_rfl)) (fun _ _ _ h => h) (Or.inl ⟨by rfl, ?_⟩) ?_ ?_
                rotate_left
                ·intro w'
                 go_simp
                 with_reducible rfl
                rotate_left
                ·simp only [Act.put, List.setIfInBounds_toArray, List.set_cons_zero, List.set_cons_succ, i64_w, i32_w]
                 rfl
                refine pure_ (i := 7) (N := some 55) (v := ?_) (a' := ?_) #[true, true, true, true, false, false, false, true, false, false, false, false, false, false] rfl rfl (any_of HT_.out (by kernel_rfl)) (fun _ _ _ h => h) (Or.inl ⟨by rfl, ?_⟩) ?_ ?_
                rotate_left
                ·intro w'
                 go_simp
                 with_reducible rfl
                rotate_left
                ·simp only [Act.put, List.setIfInBounds_toArray, List.set_cons_zero, List.set_cons_succ, i64_w, i32_w]
                 rfl
                refine pure_ (i := 8) (N := some 56) (v := ?_) (a' := ?_) #[true, true, true, true, false, false, false, true, true, false, false, false, false, false] rfl rfl (any_of HT_.out (by kernel_rfl)) (fun _ _ _ h => h) (Or.inl ⟨by rfl, ?_⟩) ?_ ?_
                rotate_left
                ·intro w'
                 go_simp
                 with_reducible rfl
                rotate_left
                ·simp only [Act.put, List.setIfInBounds_toArray, List.set_cons_zero, List.set_cons_succ, i64_w, i32_w]
                 rfl
                refine pure_ (i := 9) (N := some 57) (v := ?_) (a' := ?_) #[true, true, true, true, false, false, false, true, true, true, false, false, false, false] rfl rfl (any_of HT_.out (by kernel_rfl)) (fun _ _ _ h => h) (Or.inl ⟨by rfl, ?_⟩) ?_ ?_
                rotate_left
                ·intro w'
                 go_simp
                 with_reducible rfl
                rotate_left
                ·simp only [Act.put, List.setIfInBounds_toArray, List.set_cons_zero, List.set_cons_succ, i64_w, i32_w]
                 rfl
                refine take_ (i := 4) (N := some 52) (v := ?_) (a' := ?_) #[true, true, true, true, true, false, false, true, true, true, false, false, false, false] rfl rfl (take_ofW HT_.out HW_.out (by kernel_rfl)) (fun _ _ _ h => h) (Or.inl ⟨by rfl, ?_⟩) hHeld ?_ ?_
                rotate_left
                ·rintro w' ⟨s0, s1⟩
                 go_simp
                 with_reducible rfl
                rotate_left
                ·simp only [Act.put, List.setIfInBounds_toArray, List.set_cons_zero, List.set_cons_succ, i64_w, i32_w]
                 rfl
                refine pure_ (i := 5) (N := some 53) (v := ?_) (a' := ?_) #[true, true, true, true, true, true, false, true, true, true, false, false, false, false] rfl rfl (any_of HT_.out (by kernel_rfl)) (fun _ _ _ h => h) (Or.inl ⟨by rfl, ?_⟩) ?_ ?_
                rotate_left
                ·intro w'
                 go_simp
                 with_reducible rfl
                rotate_left
                ·simp only [Act.put, List.setIfInBounds_toArray, List.set_cons_zero, List.set_cons_succ, i64_w, i32_w]
                 rfl
                refine pure_ (i := 6) (N := some 54) (v := ?_) (a' := ?_) #[true, true, true, true, true, true, true, true, true, true, false, false, false, false] rfl rfl (any_of HT_.out (by kernel_rfl)) (fun _ _ _ h => h) (Or.inl ⟨by rfl, ?_⟩) ?_ ?_
                rotate_left
                ·intro w'
                 go_simp
                 with_reducible rfl
                rotate_left
                ·simp only [Act.put, List.setIfInBounds_toArray, List.set_cons_zero, List.set_cons_succ, i64_w, i32_w]
                 rfl
                refine take_ (i := 10) (N := some 58) (v := ?_) (a' := ?_) #[true, true, true, true, true, true, true, true, true, true, true, false, false, false] rfl rfl (take_ofW HT_.out HW_.out (by kernel_rfl)) (fun _ _ _ h => h) (Or.inl ⟨by rfl, ?_⟩) hHeld ?_ ?_
                rotate_left
                ·rintro w' ⟨s0, s1⟩
                 go_simp
                 with_reducible rfl
                rotate_left
                ·simp only [Act.put, List.setIfInBounds_toArray, List.set_cons_zero, List.set_cons_succ, i64_w, i32_w]
                 rfl
                refine pure_ (i := 11) (N := some 59) (v := ?_) (a' := ?_) #[true, true, true, true, true, true, true, true, true, true, true, true, false, false] rfl rfl (any_of HT_.out (by kernel_rfl)) (fun _ _ _ h => h) (Or.inl ⟨by rfl, ?_⟩) ?_ ?_
                rotate_left
                ·intro w'
                 go_simp
                 with_reducible rfl
                rotate_left
                ·simp only [Act.put, List.setIfInBounds_toArray, List.set_cons_zero, List.set_cons_succ, i64_w, i32_w]
                 rfl
                refine pure_ (i := 12) (N := some 60) (v := ?_) (a' := ?_) #[true, true, true, true, true, true, true, true, true, true, true, true, true, false] rfl rfl (any_of HT_.out (by kernel_rfl)) (fun _ _ _ h => h) (Or.inl ⟨by rfl, ?_⟩) ?_ ?_
                rotate_left
                ·intro w'
                 go_simp
                 with_reducible rfl
                rotate_left
                ·simp only [Act.put, List.setIfInBounds_toArray, List.set_cons_zero, List.set_cons_succ, i64_w, i32_w]
                 rfl
                refine pure_ (i := 13) (N := some 7) (v := ?_) (a' := ?_) #[true, true, true, true, true, true, true, true, true, true, true, true, true, true] rfl rfl (any_of HT_.out (by kernel_rfl)) (fun _ _ _ h => h) (Or.inl ⟨by rfl, ?_⟩) ?_ ?_
                rotate_left
                ·intro w'
                 go_simp
                 with_reducible rfl
                rotate_left
                ·simp only [Act.put, List.setIfInBounds_toArray, List.set_cons_zero, List.set_cons_succ, i64_w, i32_w]
                 rfl
                refine done_ (done_of HT_.out (by kernel_rfl)) ?_
                try go_wp2
                go_roundg k2
                case measure => have := HJ5.out; have := HK2.out; omega
                case rel => exact ⟨((((x7_2 ++ (rdOf ByteArray.empty l0 x8_2)) ++ (⟨#[58, 32]⟩ : ByteArray)) ++ (rdOf ByteArray.empty l1 x8_2)) ++ (⟨#[13, 10]⟩ : ByteArray)), (wrap64 (x8_2 + 1)), (by first | rfl | (simp; done) | (simp [*]; done) | (simp [bne_nil8, beq_nil8]; done)), (by first | rfl | (simp; done) | (simp [*]; done) | (simp [bne_nil8, beq_nil8]; done)), H', ⟨by have := HJ5.out; have := HK2.out; omega⟩, ⟨by repeat (first | (with_reducible first | exact HB.out | apply below_alloc | apply pw_below_drewN | apply below_drew1) | exact HB.out)⟩⟩
               ·rw [if_neg c21] at H
                exact absurd H (by simp)
              ·rw [if_neg c20] at H
               exact absurd H (by simp)
             ·rw [if_neg c19] at H
              exact absurd H (by simp)
            ·rw [if_neg c18] at H
             exact absurd H (by simp)
           ·replace c17 := Bool.eq_false_iff.mpr c17
            subst c17
            have H1 : (some true) = some true := by (rw [if_neg (show ¬ (false = true) by decide)] at H) <;> exact H
            clear H
            have H := H1
            clear H1
            clear H
            have p310 : 0 ≤ (x8_2 : Int) := of_decide_eq_true (by first | (with_reducible assumption) | assumption)
            have q310 : x8_2 < (l0.length : Int) := of_decide_eq_true (by first | (with_reducible assumption) | assumption)
            obtain ⟨ad310, e310, hx310_0⟩ := Kd.at_string HR0.out x8_2 p310 q310
            cases e310
            replace hx310_0 := (HB.out.cell (World.block_lt_of_cell? w _ hx310_0)).trans hx310_0
            replace p310 := eq_true p310
            replace q310 := eq_true q310
            go_wp2_with (first | ((with_reducible refine gate_callee (f := 9) rfl ?_); refine goesL_ (some 38) rfl rfl Tryd.func9 (by kernel_rfl) rfl #[.string (rdOf ByteArray.empty l0 x8_2), .bool true] rfl (by (try simp only [List.map_toArray, List.map_cons, List.map_nil]); first | done | rfl | (simp only [List.length_drop, List.length_take]; rfl)) ?_; (with_reducible refine (frankinglaw11_plain.calls k2 (rdOf ByteArray.empty l0 x8_2) true true _ A13.out).mono ?_); rintro e w' ⟨rfl, ⟨nd, rfl⟩⟩; refine ⟨_, rfl, ?_⟩; have p312 : 0 ≤ (x8_2 : Int) := of_decide_eq_true (by first | (with_reducible assumption) | assumption); have q312 : x8_2 < (l1.length : Int) := of_decide_eq_true (by first | (with_reducible assumption) | assumption); obtain ⟨ad312, e312, hx312_0⟩ := Kd.at_string HR1.out x8_2 p312 q312; cases e312; replace hx312_0 := (HB.out.cell (World.block_lt_of_cell? w _ hx312_0)).trans hx312_0; replace p312 := eq_true p312; replace q312 := eq_true q312) | (go_at_call 9; (with_reducible refine (frankinglaw11_plain.calls k2 (rdOf ByteArray.empty l1 x8_2) false false _ A16.out).mono ?_); rintro e w' ⟨rfl, ⟨nd, rfl⟩⟩))
            go_ret
            exact ⟨by first | rfl | (simp [errW_none, errW_some] <;> rfl) | (simp [*, errW_none, errW_some] <;> rfl), by repeat (first | (with_reducible first | exact HB.out | apply below_alloc | apply pw_below_drewN | apply below_drew1) | exact HB.out)⟩
          ·rw [if_neg c15] at H
           exact absurd H (by simp)
         ·replace c14 := Bool.eq_false_iff.mpr c14
          subst c14
          have H1 : (some true) = some true := by (rw [if_neg (show ¬ (false = true) by decide)] at H) <;> exact H
          clear H
          have H := H1
          clear H1
          clear H
          have p310 : 0 ≤ (x8_2 : Int) := of_decide_eq_true (by first | (with_reducible assumption) | assumption)
          have q310 : x8_2 < (l0.length : Int) := of_decide_eq_true (by first | (with_reducible assumption) | assumption)
          obtain ⟨ad310, e310, hx310_0⟩ := Kd.at_string HR0.out x8_2 p310 q310
          cases e310
          replace hx310_0 := (HB.out.cell (World.block_lt_of_cell? w _ hx310_0)).trans hx310_0
          replace p310 := eq_true p310
          replace q310 := eq_true q310
          go_wp2_with (first | ((with_reducible refine gate_callee (f := 9) rfl ?_); refine goesL_ (some 38) rfl rfl Tryd.func9 (by kernel_rfl) rfl #[.string (rdOf ByteArray.empty l0 x8_2), .bool true] rfl (by (try simp only [List.map_toArray, List.map_cons, List.map_nil]); first | done | rfl | (simp only [List.length_drop, List.length_take]; rfl)) ?_; (with_reducible refine (frankinglaw11_plain.calls k2 (rdOf ByteArray.empty l0 x8_2) true false _ A13.out).mono ?_); rintro e w' ⟨rfl, ⟨nd, rfl⟩⟩; refine ⟨_, rfl, ?_⟩))
          go_ret
          exact ⟨by first | rfl | (simp [errW_none, errW_some] <;> rfl) | (simp [*, errW_none, errW_some] <;> rfl), by repeat (first | (with_reducible first | exact HB.out | apply below_alloc | apply pw_below_drewN | apply below_drew1) | exact HB.out)⟩
        ·rw [if_neg c12] at H
         exact absurd H (by simp)
       ·rw [if_neg c11] at H
        have c11b0 : decide (x8_2 < (l0.length : Int)) = false := decide_eq_false c11
        clear c11
        by_cases c23 : x7_2.size + 2 ≤ 9223372036854775807
        ·rw [if_pos c23] at H
         have c23b0 := eq_true c23
         have c23b1 : decide (x7_2.size + 2 ≤ 9223372036854775807) = true := decide_eq_true c23
         try have c23b2 : (9223372036854775807 < x7_2.size + 2) = False := eq_false (Nat.not_lt.2 c23)
         by_cases c24 : x7_2.size + 2 + a2.size ≤ 9223372036854775807
         ·rw [if_pos c24] at H
          have c24b0 := eq_true c24
          have c24b1 : decide (x7_2.size + 2 + a2.size ≤ 9223372036854775807) = true := decide_eq_true c24
          try have c24b2 : (9223372036854775807 < x7_2.size + 2 + a2.size) = False := eq_false (Nat.not_lt.2 c24)
          obtain ⟨y316, hy316⟩ : ∃ y_ : List Int, y_ = (bytesOf ((x7_2 ++ (⟨#[13, 10]⟩ : ByteArray)) ++ a2)) := ⟨_, rfl⟩
          replace H : ((head_Fields.f k2 y316).bind fun t319 => (if (t319.length : Int) = (l0.length : Int) then (frankinglaw11_HeadBuilt.l1 k2 l0 l1 t319 0) else (some false))) = some true := by first | (rw [hy316]; with_reducible exact H) | (have H2_ := (Option.bind_some _ _).symm.trans H; rw [hy316]; with_reducible exact H2_) | (have H2_ := (Option.bind_some _ _).symm.trans H; with_reducible exact H2_) | with_reducible exact H | (rw [hy316]; exact H) | exact H
          have Ny316 := Aside0.mk hy316
          clear hy316
          replace H := Option.bind_eq_some_iff.mp H
          obtain ⟨t319, A250, H⟩ := H
          replace H : (if (t319.length : Int) = (l0.length : Int) then (frankinglaw11_HeadBuilt.l1 k2 l0 l1 t319 0) else (some false)) = some true := H
          have A25 := Aside0.mk A250
          clear A250
          by_cases c26 : (t319.length : Int) = (l0.length : Int)
          ·rw [if_pos c26] at H
           have c26b0 : ((t319.length : Int) == (l0.length : Int)) = true := beq_iff_eq.mpr c26
           have c26b1 : ((t319.length : Int) != (l0.length : Int)) = false := bne_eq_false_iff_eq.mpr c26
           have c26b2 : (t319.length == l0.length) = true := by first | simpa using c26 | (simp at c26 ⊢; omega)
           clear c26
           have H' := Aside0.mk H
           clear H
           go_wp2_with (first | ((with_reducible refine gate_dst (N := 65) rfl ?_); (try (refine gate_guard (by rfl) ?_; dsimp only)); refine conv_str 5 rfl (N := 65) rfl 9 27 _ rfl Tryd.underlying9 Tryd.underlying27 Tryd.underlying5 ((x7_2 ++ (⟨#[13, 10]⟩ : ByteArray)) ++ a2) rfl (by first | exact of_decide_eq_true (by first | (with_reducible assumption) | assumption) | (simp only [ByteArray.size_append]; exact of_decide_eq_true (by assumption))) y316 Ny316.out ?_; intro v317 w28 ho29 hb; have n0_ := Aside0.mk (Kd.V_lower (Kd.V_mono (ok' := fun k_ => True) ho29 (fun k_ hk_ => trivial)) (below_size (by repeat (first | (with_reducible first | exact HB.out | apply below_alloc | apply pw_below_drewN | apply below_drew1) | exact HB.out)))); have n1_ := Aside0.mk (below_step (by repeat (first | (with_reducible first | exact HB.out | apply below_alloc | apply pw_below_drewN | apply below_drew1) | exact HB.out)) hb); clear HB; have HO318 := n0_; have HB := n1_; clear n0_ n1_; clear hb ho29; obtain ⟨Ao30, co30, eo30⟩ := Kd.V_slice HO318.out; subst eo30) | ((with_reducible refine gate_callee (f := 10) rfl ?_); refine goesL_ (some 66) rfl rfl Tryd.func10 (by kernel_rfl) rfl #[.slice Ao30 y316.length co30] rfl (by (try simp only [List.map_toArray, List.map_cons, List.map_nil]); first | done | rfl | (simp only [List.length_drop, List.length_take]; rfl)) ?_; (with_reducible refine (head_Fields.calls k2 _ _ y316 t319 _ ?side1 ?side2 ?side3 A25.out).mono ?_); (case side1 => repeat (first | exact (Kd.V_reads' HO318.out).2.2 | (with_reducible refine Kd.C_alloc ?_ _) | (with_reducible refine Kd.C_drewN ?_ _) | (with_reducible refine Kd.C_drew ?_))); (case side2 => exact (Kd.V_reads' HO318.out).2.1); (case side3 => exact Gl.below HG.out (by repeat (first | (with_reducible first | exact HB.out | apply below_alloc | apply pw_below_drewN | apply below_drew1) | exact HB.out))); rintro e w31 ⟨v320, rfl, ho0, hb⟩; refine ⟨_, rfl, ?_⟩; have n0_ := Aside0.mk (Kd.V_elder' (by (with_reducible repeat (first | apply Kd.V_alloc | apply Kd.V_drewN | apply Kd.V_drew)); exact HO318.out) (Kd.R_base ho0) hb); have n1_ := Aside0.mk (Kd.R_lower ho0 (below_size (by repeat (first | (with_reducible first | exact HB.out | apply below_alloc | apply pw_below_drewN | apply below_drew1) | exact HB.out)))); have n2_ := Aside0.mk (below_step (by repeat (first | (with_reducible first | exact HB.out | apply below_alloc | apply pw_below_drewN | apply below_drew1) | exact HB.out)) hb); clear HO318; clear HB; have HO318 := n0_; have HO321 := n1_; have HB := n2_; clear n0_ n1_ n2_; (try clear hb); (try clear hb2); (try clear hk); (try clear hi); (try clear ho0); obtain ⟨Ao32, co32, eo32⟩ := Kd.R_slice HO321.out; subst eo32))
           go_loopg [10] k2 (fun kq v10 w' => ∃ (x10_3 : Int), v10 = .int .i64 x10_3 ∧ Aside0 (frankinglaw11_HeadBuilt.l1 kq l0 l1 t319 x10_3 = some true) ∧ Aside0 (kq ≤ k2) ∧ Aside0 (Kd.R k29 29 w' w.heap.size (fun _ => True) (.slice Ao32 t319.length co32) t319) ∧ Aside0 (Below w.heap.size w w'))
           case atStart => exact ⟨(0), (by first | rfl | (simp; done) | (simp [*]; done) | (simp [bne_nil8, beq_nil8]; done)), H', ⟨Nat.le_refl _⟩, ⟨by (with_reducible repeat (first | apply Kd.R_alloc | apply Kd.R_drewN | apply Kd.R_drew)); exact HO321.out⟩, ⟨by repeat (first | (with_reducible first | exact HB.out | apply below_alloc | apply pw_below_drewN | apply below_drew1) | exact HB.out)⟩⟩
           case round =>
            clear H'
            try clear c1
            try clear c2
            try clear p2
            try clear c3
            try clear p3
            try clear q3
            try clear hx3
            try clear c5
            try clear p6
            try clear c8
            try clear c8b0
            try clear c8b1
            try clear c9
            try clear c9b0
            try clear c9b1
            try clear c10
            try clear c11
            try clear c11b0
            try clear c12
            try clear c12b0
            try clear c14
            try clear c15
            try clear c15b0
            try clear c17
            try clear c18
            try clear c18b0
            try clear c18b1
            try clear c18b2
            try clear c19
            try clear c19b0
            try clear c19b1
            try clear c19b2
            try clear c20
            try clear c20b0
            try clear c20b1
            try clear c20b2
            try clear c21
            try clear c21b0
            try clear c21b1
            try clear c21b2
            try clear c23
            try clear c23b0
            try clear c23b1
            try clear c23b2
            try clear c24
            try clear c24b0
            try clear c24b1
            try clear c24b2
            try clear c26
            try clear c26b0
            try clear c26b1
            try clear c26b2
            try clear p31
            try clear q31
            try clear hx31
            try clear hx310_0
            try clear hx312_0
            try clear hx314_0
            try clear hx315_0
            try clear p2
            try clear p310
            try clear p312
            try clear p314
            try clear p315
            try clear q310
            try clear q312
            try clear q314
            try clear q315
            obtain ⟨x10_3, rfl, HA, HK3, HO_9, HB⟩ := hrel
            cases gk with
            | zero => exact absurd HA.out (by simp [frankinglaw11_HeadBuilt.l1])
            | succ k3 =>
             have H := HA.out
             clear HA
             simp only [frankinglaw11_HeadBuilt.l1] at H
             by_cases c33 : x10_3 < (t319.length : Int)
             ·rw [if_pos c33] at H
              have c33b0 : decide (x10_3 < (t319.length : Int)) = true := decide_eq_true c33
              clear c33
              by_cases c34 : 0 ≤ x10_3
              ·rw [if_pos c34] at H
               have c34b0 : decide (0 ≤ x10_3) = true := decide_eq_true c34
               clear c34
               by_cases c35 : x10_3 < (l0.length : Int)
               ·rw [if_pos c35] at H
                have c35b0 : decide (x10_3 < (l0.length : Int)) = true := decide_eq_true c35
                clear c35
                by_cases c36 : ((rd_T29 t319 x10_3).f0).toList = (rdOf ByteArray.empty l0 x10_3).toList
                ·rw [if_pos c36] at H
                 have c36b0 : (((rd_T29 t319 x10_3).f0).toList == (rdOf ByteArray.empty l0 x10_3).toList) = true := beq_iff_eq.mpr c36
                 have c36b1 : (((rd_T29 t319 x10_3).f0).toList != (rdOf ByteArray.empty l0 x10_3).toList) = false := bne_eq_false_iff_eq.mpr c36
                 clear c36
                 by_cases c37 : x10_3 < (l1.length : Int)
                 ·rw [if_pos c37] at H
                  have c37b0 : decide (x10_3 < (l1.length : Int)) = true := decide_eq_true c37
                  clear c37
                  replace H := Option.bind_eq_some_iff.mp H
                  obtain ⟨t326, A380, H⟩ := H
                  replace H : (if ((rd_T29 t319 x10_3).f1).toList = t326.toList then (frankinglaw11_HeadBuilt.l1 k3 l0 l1 t319 (wrap64 (x10_3 + 1))) else (some false)) = some true := H
                  have A38 := Aside0.mk A380
                  clear A380
                  by_cases c39 : ((rd_T29 t319 x10_3).f1).toList = t326.toList
                  ·rw [if_pos c39] at H
                   have c39b0 : (((rd_T29 t319 x10_3).f1).toList == t326.toList) = true := beq_iff_eq.mpr c39
                   have c39b1 : (((rd_T29 t319 x10_3).f1).toList != t326.toList) = false := bne_eq_false_iff_eq.mpr c39
                   clear c39
                   have H' := Aside0.mk H
                   clear H
                   try go_wp2
                   have n0_ := Aside0.mk (Kd.R_drew HO_9.out)
                   have n1_ := Aside0.mk (below_drew1 HB.out)
                   clear HO_9
                   clear HB
                   have HO_9 := n0_
                   have HB := n1_
                   clear n0_ n1_
                   have p322 : 0 ≤ (x10_3 : Int) := of_decide_eq_true (by first | (with_reducible assumption) | assumption)
                   have q322 : x10_3 < (t319.length : Int) := of_decide_eq_true (by first | (with_reducible assumption) | assumption)
                   obtain ⟨ad322, e322, hx322_0, hx322_1, hx322_2, hx322_3⟩ := at_T29 (Kd.R_reads' HO_9.out).2.2 x10_3 p322 q322
                   cases e322
                   replace p322 := eq_true p322
                   replace q322 := eq_true q322
                   have p323 : 0 ≤ (x10_3 : Int) := of_decide_eq_true (by first | (with_reducible assumption) | assumption)
                   have q323 : x10_3 < (l0.length : Int) := of_decide_eq_true (by first | (with_reducible assumption) | assumption)
                   obtain ⟨ad323, e323, hx323_0⟩ := Kd.at_string HR0.out x10_3 p323 q323
                   have hw323_0 := hx323_0
                   cases e323
                   replace hx323_0 := (HB.out.cell (World.block_lt_of_cell? w _ hx323_0)).trans hx323_0
                   replace p323 := eq_true p323
                   replace q323 := eq_true q323
                   have p324 : 0 ≤ (x10_3 : Int) := of_decide_eq_true (by first | (with_reducible assumption) | assumption)
                   have q324 : x10_3 < (t319.length : Int) := of_decide_eq_true (by first | (with_reducible assumption) | assumption)
                   obtain ⟨ad324, e324, hx324_0, hx324_1, hx324_2, hx324_3⟩ := at_T29 (Kd.R_reads' HO_9.out).2.2 x10_3 p324 q324
                   obtain rfl : ad322 = ad324 := (by injection e324)
                   replace p324 := eq_true p324
                   replace q324 := eq_true q324
                   have p325 : 0 ≤ (x10_3 : Int) := of_decide_eq_true (by first | (with_reducible assumption) | assumption)
                   have q325 : x10_3 < (l1.length : Int) := of_decide_eq_true (by first | (with_reducible assumption) | assumption)
                   obtain ⟨ad325, e325, hx325_0⟩ := Kd.at_string HR1.out x10_3 p325 q325
                   have hw325_0 := hx325_0
                   cases e325
                   replace hx325_0 := (HB.out.cell (World.block_lt_of_cell? w _ hx325_0)).trans hx325_0
                   replace p325 := eq_true p325
                   replace q325 := eq_true q325
                   refine start_ (n := 23) (S := fun w' => w'.cell? (ad322.add ((x10_3).toNat * 4)) = some (.string ((rd_T29 t319 x10_3).f0)) ∧ w'.cell? ⟨(ad322.add ((x10_3).toNat * 4)).block, (ad322.add ((x10_3).toNat * 4)).off + 1, none⟩ = some (.string ((rd_T29 t319 x10_3).f1)) ∧ w'.cell? ⟨(ad322.add ((x10_3).toNat * 4)).block, (ad322.add ((x10_3).toNat * 4)).off + 2, none⟩ = some (.int .i64 ((rd_T29 t319 x10_3).f2)) ∧ w'.cell? ⟨(ad322.add ((x10_3).toNat * 4)).block, (ad322.add ((x10_3).toNat * 4)).off + 3, none⟩ = some (.int .i64 ((rd_T29 t319 x10_3).f3)) ∧ w'.cell? (ad323.add (x10_3).toNat) = some (.string (rdOf ByteArray.empty l0 x10_3)) ∧ w'.cell? (ad322.add ((x10_3).toNat * 4)) = some (.string ((rd_T29 t319 x10_3).f0)) ∧ w'.cell? ⟨(ad322.add ((x10_3).toNat * 4)).block, (ad322.add ((x10_3).toNat * 4)).off + 1, none⟩ = some (.string ((rd_T29 t319 x10_3).f1)) ∧ w'.cell? ⟨(ad322.add ((x10_3).toNat * 4)).block, (ad322.add ((x10_3).toNat * 4)).off + 2, none⟩ = some (.int .i64 ((rd_T29 t319 x10_3).f2)) ∧ w'.cell? ⟨(ad322.add ((x10_3).toNat * 4)).block, (ad322.add ((x10_3).toNat * 4)).off + 3, none⟩ = some (.int .i64 ((rd_T29 t319 x10_3).f3)) ∧ w'.cell? (ad325.add (x10_3).toNat) = some (.string (rdOf ByteArray.empty l1 x10_3))) (ds := []) #[false, false, false, false, false, false, false, false, false, false, false, false, false, false, false, false, false, false, false, false, false, false, false] (by kernel_rfl) rfl rfl ⟨hx322_0, hx322_1, hx322_2, hx322_3, ((HB.out.cell (World.block_lt_of_cell? w _ hw323_0)).trans hw323_0), hx324_0, hx324_1, hx324_2, hx324_3, ((HB.out.cell (World.block_lt_of_cell? w _ hw325_0)).trans hw325_0)⟩ (fun hHeld => ?_); refine with_tabW frankinglaw11_HeadBuilt.tab18 frankinglaw11_HeadBuilt.bits18 (fun HT_ HW_ => ?_)
                   generalize wr.drew = w40 at HO_9 HB hx322_0 hx322_1 hx322_2 hx322_3 hx323_0 hx324_0 hx324_1 hx324_2 hx324_3 hx325_0 hHeld ⊢
                   refine pure_ (i := 0) (N := some 78) (v := ?_) (a' := ?_) #[true, false, false, false, false, false, false, false, false, false, false, false, false, false, false, false, false, false, false, false, false, false, false] rfl rfl (any_of HT_.out (by kernel_rfl)) (fun _ _ _ h => h) (Or.inl ⟨by rfl, ?_⟩) ?_ ?_
                   rotate_left
                   ·intro w'
                    go_simp
                    with_reducible rfl
                   rotate_left
                   ·simp only [Act.put, List.setIfInBounds_toArray, List.set_cons_zero, List.set_cons_succ, i64_w, i32_w]
                    rfl
                   refine pure_ (i := 1) (N := some 79) (v := ?_) (a' := ?_) #[true, true, false, false, false, false, false, false, false, false, false, false, false, false, false, false, false, false, false, false, false, false, false] rfl rfl (any_of HT_.out (by kernel_rfl)) (fun _ _ _ h => h) (Or.inl ⟨by rfl, ?_⟩) ?_ ?_
                   rotate_left
                   ·intro w'
                    go_simp
                    with_reducible rfl
                   rotate_left
                   ·simp only [Act.put, List.setIfInBounds_toArray, List.set_cons_zero, List.set_cons_succ, i64_w, i32_w]
                    rfl
                   refine pure_ (i := 2) (N := some 80) (v := ?_) (a' := ?_) #[true, true, true, false, false, false, false, false, false, false, false, false, false, false, false, false, false, false, false, false, false, false, false] rfl rfl (any_of HT_.out (by kernel_rfl)) (fun _ _ _ h => h) (Or.inl ⟨by rfl, ?_⟩) ?_ ?_
                   rotate_left
                   ·intro w'
                    go_simp
                    with_reducible rfl
                   rotate_left
                   ·simp only [Act.put, List.setIfInBounds_toArray, List.set_cons_zero, List.set_cons_succ, i64_w, i32_w]
                    rfl
                   refine pure_ (i := 3) (N := some 81) (v := ?_) (a' := ?_) #[true, true, true, true, false, false, false, false, false, false, false, false, false, false, false, false, false, false, false, false, false, false, false] rfl rfl (any_of HT_.out (by kernel_rfl)) (fun _ _ _ h => h) (Or.inl ⟨by rfl, ?_⟩) ?_ ?_
                   rotate_left
                   ·intro w'
                    go_simp
                    with_reducible rfl
                   rotate_left
                   ·simp only [Act.put, List.setIfInBounds_toArray, List.set_cons_zero, List.set_cons_succ, i64_w, i32_w]
                    rfl
                   refine pure_ (i := 5) (N := some 83) (v := ?_) (a' := ?_) #[true, true, true, true, false, true, false, false, false, false, false, false, false, false, false, false, false, false, false, false, false, false, false] rfl rfl (any_of HT_.out (by kernel_rfl)) (fun _ _ _ h => h) (Or.inl ⟨by rfl, ?_⟩) ?_ ?_
                   rotate_left
                   ·intro w'
                    go_simp
                    with_reducible rfl
                   rotate_left
                   ·simp only [Act.put, List.setIfInBounds_toArray, List.set_cons_zero, List.set_cons_succ, i64_w, i32_w]
                    rfl
                   refine pure_ (i := 6) (N := some 84) (v := ?_) (a' := ?_) #[true, true, true, true, false, true, true, false, false, false, false, false, false, false, false, false, false, false, false, false, false, false, false] rfl rfl (any_of HT_.out (by kernel_rfl)) (fun _ _ _ h => h) (Or.inl ⟨by rfl, ?_⟩) ?_ ?_
                   rotate_left
                   ·intro w'
                    go_simp
                    with_reducible rfl
                   rotate_left
                   ·simp only [Act.put, List.setIfInBounds_toArray, List.set_cons_zero, List.set_cons_succ, i64_w, i32_w]
                    rfl
                   refine pure_ (i := 7) (N := some 85) (v := ?_) (a' := ?_) #[true, true, true, true, false, true, true, true, false, false, false, false, false, false, false, false, false, false, false, false, false, false, false] rfl rfl (any_of HT_.out (by kernel_rfl)) (fun _ _ _ h => h) (Or.inl ⟨by rfl, ?_⟩) ?_ ?_
                   rotate_left
                   ·intro w'
                    go_simp
                    with_reducible rfl
                   rotate_left
                   ·simp only [Act.put, List.setIfInBounds_toArray, List.set_cons_zero, List.set_cons_succ, i64_w, i32_w]
                    rfl
                   refine take_ (i := 4) (N := some 82) (v := ?_) (a' := ?_) #[true, true, true, true, true, true, true, true, false, false, false, false, false, false, false, false, false, false, false, false, false, false, false] rfl rfl (take_ofW HT_.out HW_.out (by kernel_rfl)) (fun _ _ _ h => h) (Or.inl ⟨by rfl, ?_⟩) hHeld ?_ ?_
                   rotate_left
                   ·rintro w' ⟨s0, s1, s2, s3, s4, s5, s6, s7, s8, s9⟩
                    go_simp
                    with_reducible rfl
                   rotate_left
                   ·simp only [Act.put, List.setIfInBounds_toArray, List.set_cons_zero, List.set_cons_succ, i64_w, i32_w]
                    rfl
                   refine take_ (i := 8) (N := some 86) (v := ?_) (a' := ?_) #[true, true, true, true, true, true, true, true, true, false, false, false, false, false, false, false, false, false, false, false, false, false, false] rfl rfl (take_ofW HT_.out HW_.out (by kernel_rfl)) (fun _ _ _ h => h) (Or.inl ⟨by rfl, ?_⟩) hHeld ?_ ?_
                   rotate_left
                   ·rintro w' ⟨s0, s1, s2, s3, s4, s5, s6, s7, s8, s9⟩
                    go_simp
                    with_reducible rfl
                   rotate_left
                   ·simp only [Act.put, List.setIfInBounds_toArray, List.set_cons_zero, List.set_cons_succ, i64_w, i32_w]
                    rfl
                   refine pure_ (i := 9) (N := some 87) (v := ?_) (a' := ?_) #[true, true, true, true, true, true, true, true, true, true, false, false, false, false, false, false, false, false, false, false, false, false, false] rfl rfl (any_of HT_.out (by kernel_rfl)) (fun _ _ _ h => h) (Or.inl ⟨by rfl, ?_⟩) ?_ ?_
                   rotate_left
                   ·intro w'
                    go_simp
                    with_reducible rfl
                   rotate_left
                   ·simp only [Act.put, List.setIfInBounds_toArray, List.set_cons_zero, List.set_cons_succ, i64_w, i32_w]
                    rfl
                   refine pure_ (i := 10) (N := some 88) (v := ?_) (a' := ?_) #[true, true, true, true, true, true, true, true, true, true, true, false, false, false, false, false, false, false, false, false, false, false, false] rfl rfl (any_of HT_.out (by kernel_rfl)) (fun _ _ _ h => h) (Or.inl ⟨by rfl, ?_⟩) ?_ ?_
                   rotate_left
                   ·intro w'
                    go_simp
                    with_reducible rfl
                   rotate_left
                   ·simp only [Act.put, List.setIfInBounds_toArray, List.set_cons_zero, List.set_cons_succ, i64_w, i32_w]
                    rfl
                   refine pure_ (i := 11) (N := some 89) (v := ?_) (a' := ?_) #[true, true, true, true, true, true, true, true, true, true, true, true, false, false, false, false, false, false, false, false, false, false, false] rfl rfl (any_of HT_.out (by kernel_rfl)) (fun _ _ _ h => h) (Or.inl ⟨by rfl, ?_⟩) ?_ ?_
                   rotate_left
                   ·intro w'
                    go_simp
                    with_reducible rfl
                   rotate_left
                   ·simp only [Act.put, List.setIfInBounds_toArray, List.set_cons_zero, List.set_cons_succ, i64_w, i32_w]
                    rfl
                   refine pure_ (i := 12) (N := some 90) (v := ?_) (a' := ?_) #[true, true, true, true, true, true, true, true, true, true, true, true, true, false, false, false, false, false, false, false, false, false, false] rfl rfl (any_of HT_.out (by kernel_rfl)) (fun _ _ _ h => h) (Or.inl ⟨by rfl, ?_⟩) ?_ ?_
                   rotate_left
                   ·intro w'
                    go_simp
                    with_reducible rfl
                   rotate_left
                   ·simp only [Act.put, List.setIfInBounds_toArray, List.set_cons_zero, List.set_cons_succ, i64_w, i32_w]
                    rfl
                   refine pure_ (i := 13) (N := some 91) (v := ?_) (a' := ?_) #[true, true, true, true, true, true, true, true, true, true, true, true, true, true, false, false, false, false, false, false, false, false, false] rfl rfl (any_of HT_.out (by kernel_rfl)) (fun _ _ _ h => h) (Or.inl ⟨by rfl, ?_⟩) ?_ ?_
                   rotate_left
                   ·intro w'
                    go_simp
                    with_reducible rfl
                   rotate_left
                   ·simp only [Act.put, List.setIfInBounds_toArray, List.set_cons_zero, List.set_cons_succ, i64_w, i32_w]
                    rfl
                   refine pure_ (i := 14) (N := some 92) (v := ?_) (a' := ?_) #[true, true, true, true, true, true, true, true, true, true, true, true, true, true, true, false, false, false, false, false, false, false, false] rfl rfl (any_of HT_.out (by kernel_rfl)) (fun _ _ _ h => h) (Or.inl ⟨by rfl, ?_⟩) ?_ ?_
                   rotate_left
                   ·intro w'
                    go_simp
                    with_reducible rfl
                   rotate_left
                   ·simp only [Act.put, List.setIfInBounds_toArray, List.set_cons_zero, List.set_cons_succ, i64_w, i32_w]
                    rfl
                   refine pure_ (i := 16) (N := some 94) (v := ?_) (a' := ?_) #[true, true, true, true, true, true, true, true, true, true, true, true, true, true, true, false, true, false, false, false, false, false, false] rfl rfl (any_of HT_.out (by kernel_rfl)) (fun _ _ _ h => h) (Or.inl ⟨by rfl, ?_⟩) ?_ ?_
                   rotate_left
                   ·intro w'
                    go_simp
                    with_reducible rfl
                   rotate_left
                   ·simp only [Act.put, List.setIfInBounds_toArray, List.set_cons_zero, List.set_cons_succ, i64_w, i32_w]
                    rfl
                   refine pure_ (i := 17) (N := some 95) (v := ?_) (a' := ?_) #[true, true, true, true, true, true, true, true, true, true, true, true, true, true, true, false, true, true, false, false, false, false, false] rfl rfl (any_of HT_.out (by kernel_rfl)) (fun _ _ _ h => h) (Or.inl ⟨by rfl, ?_⟩) ?_ ?_
                   rotate_left
                   ·intro w'
                    go_simp
                    with_reducible rfl
                   rotate_left
                   ·simp only [Act.put, List.setIfInBounds_toArray, List.set_cons_zero, List.set_cons_succ, i64_w, i32_w]
                    rfl
                   refine pure_ (i := 18) (N := some 96) (v := ?_) (a' := ?_) #[true, true, true, true, true, true, true, true, true, true, true, true, true, true, true, false, true, true, true, false, false, false, false] rfl rfl (any_of HT_.out (by kernel_rfl)) (fun _ _ _ h => h) (Or.inl ⟨by rfl, ?_⟩) ?_ ?_
                   rotate_left
                   ·intro w'
                    go_simp
                    with_reducible rfl
                   rotate_left
                   ·simp only [Act.put, List.setIfInBounds_toArray, List.set_cons_zero, List.set_cons_succ, i64_w, i32_w]
                    rfl
                   refine take_ (i := 15) (N := some 93) (v := ?_) (a' := ?_) #[true, true, true, true, true, true, true, true, true, true, true, true, true, true, true, true, true, true, true, false, false, false, false] rfl rfl (take_ofW HT_.out HW_.out (by kernel_rfl)) (fun _ _ _ h => h) (Or.inl ⟨by rfl, ?_⟩) hHeld ?_ ?_
                   rotate_left
                   ·rintro w' ⟨s0, s1, s2, s3, s4, s5, s6, s7, s8, s9⟩
                    go_simp
                    with_reducible rfl
                   rotate_left
                   ·simp only [Act.put, List.setIfInBounds_toArray, List.set_cons_zero, List.set_cons_succ, i64_w, i32_w]
                    rfl
                   refine take_ (i := 19) (N := some 97) (v := ?_) (a' := ?_) #[true, true, true, true, true, true, true, true, true, true, true, true, true, true, true, true, true, true, true, true, false, false, false] rfl rfl (take_ofW HT_.out HW_.out (by kernel_rfl)) (fun _ _ _ h => h) (Or.inl ⟨by rfl, ?_⟩) hHeld ?_ ?_
                   rotate_left
                   ·rintro w' ⟨s0, s1, s2, s3, s4, s5, s6, s7, s8, s9⟩
                    go_simp
                    with_reducible rfl
                   rotate_left
                   ·simp only [Act.put, List.setIfInBounds_toArray, List.set_cons_zero, List.set_cons_succ, i64_w, i32_w]
                    rfl
                   refine one_ (i := 20) (N := some 98) #[true, true, true, true, true, true, true, true, true, true, true, true, true, true, true, true, true, true, true, true, true, false, false] rfl rfl (one_of HT_.out (by kernel_rfl)) (by decide) (fun K hK => ?_)
                   refine goes_ Tryd.func11 (by kernel_rfl) rfl #[.string (rdOf ByteArray.empty l1 x10_3)] (by rfl) rfl rfl (by (try simp only [List.map_toArray, List.map_cons, List.map_nil]); first | done | rfl | (simp only [List.length_drop, List.length_take]; rfl)) ?_
                   with_reducible refine (head_Value.calls (rdOf ByteArray.empty l1 x10_3) t326 _ ?side1 A38.out).mono ?_
                   (case side1 => exact Gl.below HG.out (by repeat (first | (with_reducible first | exact HB.out | apply below_alloc | apply pw_below_drewN | apply below_drew1) | exact HB.out)))
                   rintro e w41 ⟨rfl, hb⟩
                   have HS0_ := (hb.cell (World.block_lt_of_cell? _ _ (hHeld.1))).trans (hHeld.1)
                   have HS1_ := (hb.cell (World.block_lt_of_cell? _ _ (hHeld.2.1))).trans (hHeld.2.1)
                   have HS2_ := (hb.cell (World.block_lt_of_cell? _ _ (hHeld.2.2.1))).trans (hHeld.2.2.1)
                   have HS3_ := (hb.cell (World.block_lt_of_cell? _ _ (hHeld.2.2.2.1))).trans (hHeld.2.2.2.1)
                   have HS5_ := (hb.cell (World.block_lt_of_cell? _ _ (hHeld.2.2.2.2.2.1))).trans (hHeld.2.2.2.2.2.1)
                   have HS6_ := (hb.cell (World.block_lt_of_cell? _ _ (hHeld.2.2.2.2.2.2.1))).trans (hHeld.2.2.2.2.2.2.1)
                   have HS7_ := (hb.cell (World.block_lt_of_cell? _ _ (hHeld.2.2.2.2.2.2.2.1))).trans (hHeld.2.2.2.2.2.2.2.1)
                   have HS8_ := (hb.cell (World.block_lt_of_cell? _ _ (hHeld.2.2.2.2.2.2.2.2.1))).trans (hHeld.2.2.2.2.2.2.2.2.1)
                   refine ⟨_, rfl, ?_⟩
                   have n0_ := Aside0.mk (Kd.R_below (by (with_reducible repeat (first | apply Kd.R_alloc | apply Kd.R_drewN | apply Kd.R_drew)); exact HO_9.out) hb)
                   have n1_ := Aside0.mk (below_step (by repeat (first | (with_reducible first | exact HB.out | apply below_alloc | apply pw_below_drewN | apply below_drew1) | exact HB.out)) hb)
                   clear HO_9
                   clear HB
                   have HO_9 := n0_
                   have HB := n1_
                   clear n0_ n1_
                   (try clear hb)
                   (try clear hb2)
                   (try clear hk)
                   (try clear hi)
                   refine hK.out _ _ ⟨HS0_, HS1_, HS2_, HS3_, ((HB.out.cell (World.block_lt_of_cell? w _ hw323_0)).trans hw323_0), HS5_, HS6_, HS7_, HS8_, ((HB.out.cell (World.block_lt_of_cell? w _ hw325_0)).trans hw325_0)⟩ (fun hHeld => ?_)
                   clear hK K
                   refine norm_ (a' := ?_) ?_ ?_
                   rotate_left
                   ·show Act.put _ (some 98) _ = _
                    simp only [Act.put, List.setIfInBounds_toArray, List.set_cons_zero, List.set_cons_succ, i64_w, i32_w]
                    rfl
                   refine pure_ (i := 21) (N := some 99) (v := ?_) (a' := ?_) #[true, true, true, true, true, true, true, true, true, true, true, true, true, true, true, true, true, true, true, true, true, true, false] rfl rfl (any_of HT_.out (by kernel_rfl)) (fun _ _ _ h => h) (Or.inl ⟨by rfl, ?_⟩) ?_ ?_
                   rotate_left
                   ·intro w'
                    go_simp
                    with_reducible rfl
                   rotate_left
                   ·simp only [Act.put, List.setIfInBounds_toArray, List.set_cons_zero, List.set_cons_succ, i64_w, i32_w]
                    rfl
                   refine pure_ (i := 22) (N := some 100) (v := ?_) (a' := ?_) #[true, true, true, true, true, true, true, true, true, true, true, true, true, true, true, true, true, true, true, true, true, true, true] rfl rfl (any_of HT_.out (by kernel_rfl)) (fun _ _ _ h => h) (Or.inl ⟨by rfl, ?_⟩) ?_ ?_
                   rotate_left
                   ·intro w'
                    go_simp
                    with_reducible rfl
                   rotate_left
                   ·simp only [Act.put, List.setIfInBounds_toArray, List.set_cons_zero, List.set_cons_succ, i64_w, i32_w]
                    rfl
                   refine done_ (done_of HT_.out (by kernel_rfl)) ?_
                   try go_wp2
                   go_roundg k3
                   case measure => have := HJ5.out; have := HK2.out; have := HK3.out; omega
                   case rel => exact ⟨(wrap64 (x10_3 + 1)), (by first | rfl | (simp; done) | (simp [*]; done) | (simp [bne_nil8, beq_nil8]; done)), H', ⟨by have := HJ5.out; have := HK2.out; have := HK3.out; omega⟩, ⟨by (with_reducible repeat (first | apply Kd.R_alloc | apply Kd.R_drewN | apply Kd.R_drew)); exact HO_9.out⟩, ⟨by repeat (first | (with_reducible first | exact HB.out | apply below_alloc | apply pw_below_drewN | apply below_drew1) | exact HB.out)⟩⟩
                  ·rw [if_neg c39] at H
                   have c39b0 : (((rd_T29 t319 x10_3).f1).toList == t326.toList) = false := beq_eq_false_iff_ne.mpr c39
                   have c39b1 : (((rd_T29 t319 x10_3).f1).toList != t326.toList) = true := bne_iff_ne.mpr c39
                   exact absurd (Option.some.inj H) (by decide)
                 ·rw [if_neg c37] at H
                  exact absurd H (by simp)
                ·rw [if_neg c36] at H
                 have c36b0 : (((rd_T29 t319 x10_3).f0).toList == (rdOf ByteArray.empty l0 x10_3).toList) = false := beq_eq_false_iff_ne.mpr c36
                 have c36b1 : (((rd_T29 t319 x10_3).f0).toList != (rdOf ByteArray.empty l0 x10_3).toList) = true := bne_iff_ne.mpr c36
                 exact absurd (Option.some.inj H) (by decide)
               ·rw [if_neg c35] at H
                exact absurd H (by simp)
              ·rw [if_neg c34] at H
               exact absurd H (by simp)
             ·rw [if_neg c33] at H
              have c33b0 : decide (x10_3 < (t319.length : Int)) = false := decide_eq_false c33
              clear c33
              clear H
              go_wp2
              go_ret
              exact ⟨by first | rfl | (simp [errW_none, errW_some] <;> rfl) | (simp [*, errW_none, errW_some] <;> rfl), by repeat (first | (with_reducible first | exact HB.out | apply below_alloc | apply pw_below_drewN | apply below_drew1) | exact HB.out)⟩
          ·rw [if_neg c26] at H
           have c26b0 : ((t319.length : Int) == (l0.length : Int)) = false := beq_eq_false_iff_ne.mpr c26
           have c26b1 : ((t319.length : Int) != (l0.length : Int)) = true := bne_iff_ne.mpr c26
           have c26b2 : (t319.length == l0.length) = false := by first | simpa using c26 | (simp at c26 ⊢; omega)
           exact absurd (Option.some.inj H) (by decide)
         ·rw [if_neg c24] at H
          exact absurd H (by simp)
        ·rw [if_neg c23] at H
         exact absurd H (by simp)
 ·replace c5 := Bool.eq_false_iff.mpr c5
  subst c5
  have H1 : (some false) = some true := by (rw [if_neg (show ¬ (false = true) by decide)] at H) <;> exact H
  clear H
  have H := H1
  clear H1
  exact absurd (Option.some.inj H) (by decide)

/-- THE ONE PURE STATEMENT of frankinglaw11_HeadBuilt: yours. -/
def frankinglaw11_HeadBuilt.Pure : Prop := ∀ (l0 : List ByteArray) (l1 : List ByteArray) (a2 : ByteArray), (l0.length ≤ maxLen ∧ ∀ y_ ∈ l0, y_.size ≤ maxLen) → (l1.length ≤ maxLen ∧ ∀ y_ ∈ l1, y_.size ≤ maxLen) → a2.size ≤ maxLen → ∃ k, frankinglaw11_HeadBuilt.f k l0 l1 a2 = some true

end Go.Proofs.YtonlncajnniebaaDoor.X
