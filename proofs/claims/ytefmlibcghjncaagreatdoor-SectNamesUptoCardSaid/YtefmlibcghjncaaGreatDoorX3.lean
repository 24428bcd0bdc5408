/- By a program of this session, over the print of the kit: for each function of the program what it computes, and that its call comes to just that. -/
import Derived.Test.YtefmlibcghjncaaGreatDoorX0
import Derived.Test.YtefmlibcghjncaaGreatDoorX1
import Derived.Test.YtefmlibcghjncaaGreatDoorX2
namespace Go.Proofs.YtefmlibcghjncaaGreatDoor.X
open Go.RowKit Go.Proofs.Mine Go.Proofs.YtefmlibcghjncaaGreatDoorW.PrintWords Go.Proofs.YtefmlibcghjncaaGreatDoorW.PrintLast Go.Proofs.YtefmlibcghjncaaGreatDoorW.PrintMore
attribute [local go_sem] max2_int min2_int max_two min_two max_three min_three max_four min_four   -- for this text's walks alone
set_option linter.unusedVariables false
set_option linter.unusedSimpArgs false

/-! ### head_Fields: function 61 -/
mutual
def head_Fields.l0 : Nat → List Int → List (S100) → Bool → Int → List (List Int) → Int → Int → Option ((List (S100)))
 | 0, _, _, _, _, _, _, _ => none
 | k + 1, x0, x5, x6, x7, x24, x25, x26 => if x26 < x25 then (if 0 ≤ x26 then (if x26 < (x24.length : Int) then ((strings_HasPrefix.f (strOfNums (rd_L1 x24 x26)) (⟨#[32]⟩ : ByteArray)).bind fun t155 => (if t155 = true then (head_Fields.j1 k x0 x5 x6 (wrap64 (x7 + ((strOfNums (rd_L1 x24 x26)).size : Int))) (strOfNums (rd_L1 x24 x26)) x7 x24 x25 x26 true) else ((strings_HasPrefix.f (strOfNums (rd_L1 x24 x26)) (⟨#[9]⟩ : ByteArray)).bind fun t156 => (head_Fields.j1 k x0 x5 x6 (wrap64 (x7 + ((strOfNums (rd_L1 x24 x26)).size : Int))) (strOfNums (rd_L1 x24 x26)) x7 x24 x25 x26 t156)))) else (none)) else (none)) else (head_Fields.l1 k x0 x5 (x5.length : Int) 0)
def head_Fields.j1 : Nat → List Int → List (S100) → Bool → Int → ByteArray → Int → List (List Int) → Int → Int → Bool → Option ((List (S100)))
 | 0, _, _, _, _, _, _, _, _, _, _ => none
 | k + 1, x0, x5, x6, x7, x10, x11, x24, x25, x26, x42 => if x42 = true then (if x6 = true then (if 0 ≤ (wrap64 ((x5.length : Int) - 1)) then (if (wrap64 ((x5.length : Int) - 1)) < (x5.length : Int) then (head_Fields.l0 k x0 (x5.set ((wrap64 ((x5.length : Int) - 1)) : Int).toNat (⟨(rd_T100 x5 (wrap64 ((x5.length : Int) - 1))).f0, (rd_T100 x5 (wrap64 ((x5.length : Int) - 1))).f1, (rd_T100 x5 (wrap64 ((x5.length : Int) - 1))).f2, x7⟩ : S100)) x6 x7 x24 x25 (wrap64 (x26 + 1))) else (none)) else (none)) else (head_Fields.l0 k x0 x5 x6 x7 x24 x25 (wrap64 (x26 + 1)))) else ((head_name.f k x10).bind fun bt158 => (if bt158.2 = true then (if (x5.length : Int) < 500 then (if x5.length < 2932031007402 then (head_Fields.l0 k x0 (x5 ++ [(⟨bt158.1, (⟨#[]⟩ : ByteArray), x11, x7⟩ : S100)]) (decide ((x5.length : Int) < 500)) x7 x24 x25 (wrap64 (x26 + 1))) else (none)) else (head_Fields.l0 k x0 x5 (decide ((x5.length : Int) < 500)) x7 x24 x25 (wrap64 (x26 + 1)))) else (head_Fields.l0 k x0 x5 false x7 x24 x25 (wrap64 (x26 + 1)))))
def head_Fields.l1 : Nat → List Int → List (S100) → Int → Int → Option ((List (S100)))
 | 0, _, _, _, _ => none
 | k + 1, x0, x5, x72, x73 => if x73 < x72 then (if 0 ≤ x73 then (if x73 < (x5.length : Int) then (if 0 ≤ (wrap64 ((wrap64 (((rd_T100 x5 x73).f2) + (((rd_T100 x5 x73).f0).size : Int))) + 1)) then (if (wrap64 ((wrap64 (((rd_T100 x5 x73).f2) + (((rd_T100 x5 x73).f0).size : Int))) + 1)) ≤ ((rd_T100 x5 x73).f3) then (if ((rd_T100 x5 x73).f3) ≤ (x0.length : Int) then ((head_Value.f (strOfNums ((x0.take (((rd_T100 x5 x73).f3) : Int).toNat).drop ((wrap64 ((wrap64 (((rd_T100 x5 x73).f2) + (((rd_T100 x5 x73).f0).size : Int))) + 1)) : Int).toNat))).bind fun t166 => (head_Fields.l1 k x0 (x5.set (x73 : Int).toNat (⟨(rd_T100 x5 x73).f0, t166, (rd_T100 x5 x73).f2, (rd_T100 x5 x73).f3⟩ : S100)) x72 (wrap64 (x73 + 1)))) else (none)) else (none)) else (none)) else (none)) else (none)) else (some x5)
end
def head_Fields.f (k : Nat) (l0 : List Int) : Option ((List (S100))) := (head_Split.f k l0).bind fun bt148 => (if 0 ≤ bt148.1 then (if bt148.1 ≤ (l0.length : Int) then ((octet_Lines.f k (l0.take (bt148.1 : Int).toNat)).bind fun t151 => (head_Fields.l0 k l0 ([] : List (S100)) false 0 t151 (t151.length : Int) 0)) else (none)) else (none))
theorem head_Fields.mono_l : ∀ k, (∀ y0 y1 y2 y3 y4 y5 y6, LeO (head_Fields.l0 k y0 y1 y2 y3 y4 y5 y6) (head_Fields.l0 (k + 1) y0 y1 y2 y3 y4 y5 y6)) ∧ (∀ y0 y1 y2 y3 y4 y5 y6 y7 y8 y9, LeO (head_Fields.j1 k y0 y1 y2 y3 y4 y5 y6 y7 y8 y9) (head_Fields.j1 (k + 1) y0 y1 y2 y3 y4 y5 y6 y7 y8 y9)) ∧ (∀ y0 y1 y2 y3, LeO (head_Fields.l1 k y0 y1 y2 y3) (head_Fields.l1 (k + 1) y0 y1 y2 y3))
 | 0 => ⟨fun _ _ _ _ _ _ _ r h => by simp [head_Fields.l0] at h, fun _ _ _ _ _ _ _ _ _ _ r h => by simp [head_Fields.j1] at h, fun _ _ _ _ r h => by simp [head_Fields.l1] at h⟩
 | k + 1 => by
  obtain ⟨ih0, ih1, ih2⟩ := head_Fields.mono_l k
  refine ⟨?_, ?_, ?_⟩
  ·intro y0 y1 y2 y3 y4 y5 y6
   unfold head_Fields.l0
   repeat' first
   | (with_reducible exact ih0 _ _ _ _ _ _ _)
   | (with_reducible exact ih1 _ _ _ _ _ _ _ _ _ _)
   | (with_reducible exact ih2 _ _ _ _)
   | (with_reducible exact head_Split.mono _ _)
   | (with_reducible exact head_name.mono _ _)
   | (with_reducible exact octet_Lines.mono _ _)
   | (with_reducible exact LeO.refl _)
   | (with_reducible exact LeO.none _)
   | (with_reducible refine LeO.ite ?_ ?_)
   | (with_reducible refine LeO.bind ?_ (fun _ => ?_))
   | exact ih0 _ _ _ _ _ _ _
   | exact ih1 _ _ _ _ _ _ _ _ _ _
   | exact ih2 _ _ _ _
   | exact head_Split.mono _ _
   | exact head_name.mono _ _
   | exact octet_Lines.mono _ _
   | exact LeO.none _
   | refine LeO.ite ?_ ?_
   | refine LeO.bind ?_ (fun _ => ?_)
  ·intro y0 y1 y2 y3 y4 y5 y6 y7 y8 y9
   unfold head_Fields.j1
   repeat' first
   | (with_reducible exact ih0 _ _ _ _ _ _ _)
   | (with_reducible exact ih1 _ _ _ _ _ _ _ _ _ _)
   | (with_reducible exact ih2 _ _ _ _)
   | (with_reducible exact head_Split.mono _ _)
   | (with_reducible exact head_name.mono _ _)
   | (with_reducible exact octet_Lines.mono _ _)
   | (with_reducible exact LeO.refl _)
   | (with_reducible exact LeO.none _)
   | (with_reducible refine LeO.ite ?_ ?_)
   | (with_reducible refine LeO.bind ?_ (fun _ => ?_))
   | exact ih0 _ _ _ _ _ _ _
   | exact ih1 _ _ _ _ _ _ _ _ _ _
   | exact ih2 _ _ _ _
   | exact head_Split.mono _ _
   | exact head_name.mono _ _
   | exact octet_Lines.mono _ _
   | exact LeO.none _
   | refine LeO.ite ?_ ?_
   | refine LeO.bind ?_ (fun _ => ?_)
  ·intro y0 y1 y2 y3
   unfold head_Fields.l1
   repeat' first
   | (with_reducible exact ih0 _ _ _ _ _ _ _)
   | (with_reducible exact ih1 _ _ _ _ _ _ _ _ _ _)
   | (with_reducible exact ih2 _ _ _ _)
   | (with_reducible exact head_Split.mono _ _)
   | (with_reducible exact head_name.mono _ _)
   | (with_reducible exact octet_Lines.mono _ _)
   | (with_reducible exact LeO.refl _)
   | (with_reducible exact LeO.none _)
   | (with_reducible refine LeO.ite ?_ ?_)
   | (with_reducible refine LeO.bind ?_ (fun _ => ?_))
   | exact ih0 _ _ _ _ _ _ _
   | exact ih1 _ _ _ _ _ _ _ _ _ _
   | exact ih2 _ _ _ _
   | exact head_Split.mono _ _
   | exact head_name.mono _ _
   | exact octet_Lines.mono _ _
   | exact LeO.none _
   | refine LeO.ite ?_ ?_
   | refine LeO.bind ?_ (fun _ => ?_)
theorem head_Fields.mono : ∀ a0 k, LeO (head_Fields.f k a0) (head_Fields.f (k + 1) a0) := by
 intro a0 k
 obtain ⟨ih0, ih1, ih2⟩ := head_Fields.mono_l k
 unfold head_Fields.f
 repeat' first
   | (with_reducible exact ih0 _ _ _ _ _ _ _)
   | (with_reducible exact ih1 _ _ _ _ _ _ _ _ _ _)
   | (with_reducible exact ih2 _ _ _ _)
   | (with_reducible exact head_Split.mono _ _)
   | (with_reducible exact head_name.mono _ _)
   | (with_reducible exact octet_Lines.mono _ _)
   | (with_reducible exact LeO.refl _)
   | (with_reducible exact LeO.none _)
   | (with_reducible refine LeO.ite ?_ ?_)
   | (with_reducible refine LeO.bind ?_ (fun _ => ?_))
   | exact ih0 _ _ _ _ _ _ _
   | exact ih1 _ _ _ _ _ _ _ _ _ _
   | exact ih2 _ _ _ _
   | exact head_Split.mono _ _
   | exact head_name.mono _ _
   | exact octet_Lines.mono _ _
   | exact LeO.none _
   | refine LeO.ite ?_ ?_
   | refine LeO.bind ?_ (fun _ => ?_)
set_option maxHeartbeats 8000000 in
set_option maxRecDepth 100000 in
theorem head_Fields.calls (k : Nat) (A0 : Option Addr) (c0 : Nat) (l0 : List Int) (r : List (S100)) (w : World) (hr0 : Kd.C (Kd.int .u8) w A0 l0.length l0) (hc0 : l0.length ≤ c0) (hG : Gl w) (h : head_Fields.f k l0 = some r) :
  Calls Tryz.prog 61 #[.slice A0 l0.length c0] w fun e w' => ∃ v0_ : Value, e = .returned (v0_) ∧ Kd.R k100 100 w' w.heap.size (fun _ => True) v0_ r ∧ Below w.heap.size w w' := by
 have hu100 := Tryz.underlying100
 have HR0 := Aside0.mk hr0
 have HC0 := Aside0.mk hc0
 clear hr0 hc0
 have HB := Aside0.mk (Below.refl w.heap.size w)
 have HG := Aside0.mk hG
 clear hG
 have H : ((head_Split.f k l0).bind fun bt148 => (if 0 ≤ bt148.1 then (if bt148.1 ≤ (l0.length : Int) then ((octet_Lines.f k (l0.take (bt148.1 : Int).toNat)).bind fun t151 => (head_Fields.l0 k l0 ([] : List (S100)) false 0 t151 (t151.length : Int) 0)) else (none)) else (none))) = some r := h
 clear h
 replace H := Option.bind_eq_some_iff.mp H
 obtain ⟨⟨t148, t149⟩, A20, H⟩ := H
 replace H : (if 0 ≤ t148 then (if t148 ≤ (l0.length : Int) then ((octet_Lines.f k (l0.take (t148 : Int).toNat)).bind fun t151 => (head_Fields.l0 k l0 ([] : List (S100)) false 0 t151 (t151.length : Int) 0)) else (none)) else (none)) = some r := H
 have A2 := Aside0.mk A20
 clear A20
 by_cases c3 : 0 ≤ t148
 ·rw [if_pos c3] at H
  have c3b0 := eq_true c3
  have c3b1 : decide (0 ≤ t148) = true := decide_eq_true c3
  clear c3
  by_cases c4 : t148 ≤ (l0.length : Int)
  ·rw [if_pos c4] at H
   have c4b0 := eq_true c4
   have c4b1 : decide (t148 ≤ (l0.length : Int)) = true := decide_eq_true c4
   clear c4
   replace H := Option.bind_eq_some_iff.mp H
   obtain ⟨t151, A50, H⟩ := H
   replace H : (head_Fields.l0 k l0 ([] : List (S100)) false 0 t151 (t151.length : Int) 0) = some r := H
   have A5 := Aside0.mk A50
   clear A50
   have H' := Aside0.mk H
   clear H
   go_enter Tryz.func61, Tryz.ntmps61
   go_wp2_with (first | ((with_reducible refine gate_callee (f := 30) rfl ?_); refine goesL_ (some 18) rfl rfl Tryz.func30 (by kernel_rfl) rfl #[.slice A0 l0.length c0] rfl (by (try simp only [List.map_toArray, List.map_cons, List.map_nil]); first | done | rfl | (simp only [List.length_drop, List.length_take]; rfl)) ?_; (with_reducible refine (head_Split.calls k _ _ l0 t148 t149 _ ?side1 ?side2 ?side3 A2.out).mono ?_); (case side1 => repeat (first | exact HR0.out | (with_reducible refine Kd.C_alloc ?_ _) | (with_reducible refine Kd.C_drewN ?_ _) | (with_reducible refine Kd.C_drew ?_))); (case side2 => exact HC0.out); (case side3 => exact Gl.below HG.out (by repeat (first | (with_reducible first | exact HB.out | apply below_alloc | apply pw_below_drewN | apply below_drew1) | exact HB.out))); rintro e w6 ⟨rfl, hb⟩; refine ⟨_, rfl, ?_⟩; have n0_ := Aside0.mk (below_step (by repeat (first | (with_reducible first | exact HB.out | apply below_alloc | apply pw_below_drewN | apply below_drew1) | exact HB.out)) hb); clear HB; have HB := n0_; clear n0_; (try clear hb); (try clear hb2); (try clear hk); (try clear hi); obtain ⟨i07, hi07, _, hsz7, _⟩ := info_parts info5; obtain ⟨hcut7, hA7, hC7⟩ := print_take_of (P := Tryz.prog) (Value.int .u8) 0 30 5 .i64 Tryz.underlying30 hi07 hsz7 A0 c0 l0 t148 (of_decide_eq_true (by first | (with_reducible assumption) | assumption)) (of_decide_eq_true (by first | (with_reducible assumption) | assumption)) HC0.out; have HR150 := Aside0.mk (Kd.C_of_reads (h1 := fun _ => rfl) (hA7 _ (Kd.reads_of_C HR0.out))); have HC150 := Aside0.mk hC7; clear hA7 hC7 hi07 hsz7) | ((with_reducible refine gate_callee (f := 60) rfl ?_); refine goesL_ (some 24) rfl rfl Tryz.func60 (by kernel_rfl) rfl #[.slice A0 (l0.take (t148 : Int).toNat).length c0] rfl (by (try simp only [List.map_toArray, List.map_cons, List.map_nil]); first | done | (rw [show (l0.take (t148 : Int).toNat).length = t148.toNat from (by rw [List.length_take]; have h_ : (t148 : Int) ≤ (l0.length : Int) := of_decide_eq_true (by first | (with_reducible assumption) | assumption); omega)] <;> rfl) | rfl | (simp only [List.length_drop, List.length_take]; rfl)) ?_; (with_reducible refine (octet_Lines.calls k (fun k_ => k_ < w.heap.size) _ _ (l0.take (t148 : Int).toNat) t151 _ ?side1 ?side2 A5.out).mono ?_); (case side1 => exact Kd.V_mk HC150.out (Kd.F_below (Kd.C_F (Kd.heap_int .u8) HR150.out) (by repeat (first | (with_reducible first | exact HB.out | apply below_alloc | apply pw_below_drewN | apply below_drew1) | exact HB.out)))); (case side2 => exact Gl.below HG.out (by repeat (first | (with_reducible first | exact HB.out | apply below_alloc | apply pw_below_drewN | apply below_drew1) | exact HB.out))); rintro e w8 ⟨v152, rfl, ho0, hb⟩; refine ⟨_, rfl, ?_⟩; have n0_ := Aside0.mk (Kd.S_lower (Kd.S_mono (ok' := fun k_ => True) ho0 (fun _ hk_ => trivial)) (below_size (by repeat (first | (with_reducible first | exact HB.out | apply below_alloc | apply pw_below_drewN | apply below_drew1) | exact HB.out)))); have n1_ := Aside0.mk (below_step (by repeat (first | (with_reducible first | exact HB.out | apply below_alloc | apply pw_below_drewN | apply below_drew1) | exact HB.out)) hb); clear HB; have HO153 := n0_; have HB := n1_; clear n0_ n1_; (try clear hb); (try clear hb2); (try clear hk); (try clear hi); (try clear ho0); obtain ⟨Ao9, co9, eo9⟩ := Kd.S_slice HO153.out; subst eo9))
   go_loopg [5, 6, 7, 26] k (fun kq v5 v6 v7 v26 w' => ∃ (x5_1 : List (S100)) (x6_1 : Bool) (x7_1 : Int) (x26_1 : Int), v6 = .bool x6_1 ∧ v7 = .int .i64 x7_1 ∧ v26 = .int .i64 x26_1 ∧ Aside0 (head_Fields.l0 kq l0 x5_1 x6_1 x7_1 t151 (t151.length : Int) x26_1 = some r) ∧ Aside0 (kq ≤ k) ∧ Aside0 (Kd.R k100 100 w' w.heap.size (fun _ => True) v5 x5_1) ∧ Aside0 (Kd.S (Kd.slice 5 (Kd.int .u8)) 30 w' w.heap.size (fun _ => True) (.slice Ao9 t151.length co9) t151) ∧ Aside0 (Below w.heap.size w w'))
   case atStart => exact ⟨(([] : List (S100))), (false), (0), (0), (by first | rfl | (simp; done) | (simp [*]; done) | (simp [bne_nil8, beq_nil8]; done)), (by first | rfl | (simp; done) | (simp [*]; done) | (simp [bne_nil8, beq_nil8]; done)), (by first | rfl | (simp; done) | (simp [*]; done) | (simp [bne_nil8, beq_nil8]; done)), H', ⟨Nat.le_refl _⟩, ⟨by first | exact Kd.R_nil _ _ _ _ _ | exact Kd.N_nil _ _ _ _ _ | exact Kd.V_nil _ _ _ _ _ | exact Kd.Q_nil _ _ _ _ _ | exact Kd.S_nil _ _ _ _ _⟩, ⟨by (with_reducible repeat (first | apply Kd.S_alloc | apply Kd.S_drewN | apply Kd.S_drew)); exact HO153.out⟩, ⟨by repeat (first | (with_reducible first | exact HB.out | apply below_alloc | apply pw_below_drewN | apply below_drew1) | exact HB.out)⟩⟩
   case round =>
    clear H'
    try clear p2
    try clear c3
    try clear c3b0
    try clear c3b1
    try clear c4
    try clear c4b0
    try clear c4b1
    try clear c6
    obtain ⟨x5_1, x6_1, x7_1, x26_1, rfl, rfl, rfl, HA, HK1, HO_5, HO_24, HB⟩ := hrel
    cases gk with
    | zero => exact absurd HA.out (by simp [head_Fields.l0])
    | succ k1 =>
     have H := HA.out
     clear HA
     simp only [head_Fields.l0] at H
     by_cases c10 : x26_1 < (t151.length : Int)
     ·rw [if_pos c10] at H
      have c10b0 : decide (x26_1 < (t151.length : Int)) = true := decide_eq_true c10
      clear c10
      by_cases c11 : 0 ≤ x26_1
      ·rw [if_pos c11] at H
       have c11b0 : decide (0 ≤ x26_1) = true := decide_eq_true c11
       clear c11
       by_cases c12 : x26_1 < (t151.length : Int)
       ·rw [if_pos c12] at H
        have c12b0 : decide (x26_1 < (t151.length : Int)) = true := decide_eq_true c12
        clear c12
        have HC13 := Aside0.mk H
        clear H
        have p154 : 0 ≤ (x26_1 : Int) := of_decide_eq_true (by first | (with_reducible assumption) | assumption)
        have q154 : x26_1 < (t151.length : Int) := of_decide_eq_true (by first | (with_reducible assumption) | assumption)
        obtain ⟨ad154, A154_0, c154_0, e154, hx154_0, hl154_0, hi154_0⟩ := at_L1 (Kd.S_reads' HO_24.out).2.2 x26_1 p154 q154
        cases e154
        obtain ⟨ce154, hce154, hMe154, hcc154⟩ := Kd.S_get HO_24.out [] x26_1 p154 (by first | exact q154 | exact of_decide_eq_true (by first | (with_reducible assumption) | assumption) | (have e_ := (Kd.S_reads' HO_24.out).1; omega))
        obtain ⟨ve154_0, rfl, ge154_0⟩ := hMe154
        have hv154_0 := hcc154 0 _ rfl
        rw [Nat.add_zero, show ((Kd.slice 5 (Kd.int .u8))).sz = 1 from rfl, Nat.mul_one] at hv154_0
        replace hv154_0 := Option.some.inj (hv154_0.symm.trans hx154_0)
        rw [hv154_0] at ge154_0
        have HL154_0 := Aside0.mk (show Kd.R (Kd.int .u8) 5 _ _ _ _ (rd_L1 t151 x26_1) from ge154_0)
        clear hv154_0 ge154_0
        clear hcc154 hce154
        have HR154_0 := Aside0.mk hi154_0
        have HC154_0 := Aside0.mk hl154_0
        clear hi154_0 hl154_0
        replace p154 := eq_true p154
        replace q154 := eq_true q154
        have hcv14 := Kd.C_string (P := Tryz.prog) (A := A154_0) (c := c154_0) Tryz.underlying30 Tryz.underlying5 Tryz.underlying9 (by repeat (first | (with_reducible exact HR154_0.out) | (with_reducible refine Kd.C_alloc ?_ _) | (with_reducible refine Kd.C_drewN ?_ _) | (with_reducible refine Kd.C_drew ?_) | exact HR154_0.out))
        have hcw15 := fun n_ : Nat => Kd.C_string (P := Tryz.prog) (A := A154_0) (c := c154_0) Tryz.underlying30 Tryz.underlying5 Tryz.underlying9 (Kd.C_drewN (by repeat (first | (with_reducible exact HR154_0.out) | (with_reducible refine Kd.C_alloc ?_ _) | (with_reducible refine Kd.C_drewN ?_ _) | (with_reducible refine Kd.C_drew ?_) | exact HR154_0.out)) n_)
        go_upto_region 11 with (fail)
        go_cut [42] (fun v42 wc => ∃ (kq : Nat) (x42_12 : Bool), v42 = .bool x42_12 ∧ Aside0 (head_Fields.j1 kq l0 x5_1 x6_1 (wrap64 (x7_1 + ((strOfNums (rd_L1 t151 x26_1)).size : Int))) (strOfNums (rd_L1 t151 x26_1)) x7_1 t151 (t151.length : Int) x26_1 x42_12 = some r) ∧ Aside0 (kq ≤ k1) ∧ Aside0 (Kd.R k100 100 wc w.heap.size (fun _ => True) u5 x5_1) ∧ Aside0 (Kd.S (Kd.slice 5 (Kd.int .u8)) 30 wc w.heap.size (fun _ => True) (.slice (some ad154) t151.length co9) t151) ∧ Aside0 (Kd.C (Kd.int .u8) wc A154_0 (rd_L1 t151 x26_1).length (rd_L1 t151 x26_1)) ∧ Aside0 (Below w.heap.size w wc))
        case first =>
         have H := HC13.out
         clear HC13
         replace H := Option.bind_eq_some_iff.mp H
         obtain ⟨t155, A160, H⟩ := H
         replace H : (if t155 = true then (head_Fields.j1 k1 l0 x5_1 x6_1 (wrap64 (x7_1 + ((strOfNums (rd_L1 t151 x26_1)).size : Int))) (strOfNums (rd_L1 t151 x26_1)) x7_1 t151 (t151.length : Int) x26_1 true) else ((strings_HasPrefix.f (strOfNums (rd_L1 t151 x26_1)) (⟨#[9]⟩ : ByteArray)).bind fun t156 => (head_Fields.j1 k1 l0 x5_1 x6_1 (wrap64 (x7_1 + ((strOfNums (rd_L1 t151 x26_1)).size : Int))) (strOfNums (rd_L1 t151 x26_1)) x7_1 t151 (t151.length : Int) x26_1 t156))) = some r := H
         have A16 := Aside0.mk A160
         clear A160
         by_cases c17 : t155 = true
         ·subst c17
          have H1 : (head_Fields.j1 k1 l0 x5_1 x6_1 (wrap64 (x7_1 + ((strOfNums (rd_L1 t151 x26_1)).size : Int))) (strOfNums (rd_L1 t151 x26_1)) x7_1 t151 (t151.length : Int) x26_1 true) = some r := by (rw [if_pos rfl] at H) <;> exact H
          clear H
          have H := H1
          clear H1
          have H' := Aside0.mk H
          clear H
          go_wp2_with (first | ((with_reducible refine gate_callee (f := 88) rfl ?_); refine goesL_ (some 38) rfl rfl Tryz.func88 (by kernel_rfl) rfl #[.string (strOfNums (rd_L1 t151 x26_1)), .string (⟨#[32]⟩ : ByteArray)] rfl (by (try simp only [List.map_toArray, List.map_cons, List.map_nil]); first | done | rfl | (simp only [List.length_drop, List.length_take]; rfl)) ?_; (with_reducible refine (strings_HasPrefix.calls (strOfNums (rd_L1 t151 x26_1)) (⟨#[32]⟩ : ByteArray) true _ A16.out).mono ?_); rintro e w' ⟨rfl, ⟨nd, rfl⟩⟩; refine ⟨_, rfl, ?_⟩))
          go_meet
          case rel => exact ⟨_, (true), (by first | rfl | (simp; done) | (simp [*]; done) | (simp [bne_nil8, beq_nil8]; done)), H', ⟨by have := HK1.out; first | omega | exact Nat.le_refl _⟩, ⟨by (with_reducible repeat (first | apply Kd.R_alloc | apply Kd.R_drewN | apply Kd.R_drew)); exact HO_5.out⟩, ⟨by (with_reducible repeat (first | apply Kd.S_alloc | apply Kd.S_drewN | apply Kd.S_drew)); exact HO_24.out⟩, ⟨by repeat (first | (with_reducible exact HR154_0.out) | (with_reducible refine Kd.C_alloc ?_ _) | (with_reducible refine Kd.C_drewN ?_ _) | (with_reducible refine Kd.C_drew ?_) | exact HR154_0.out)⟩, ⟨by repeat (first | (with_reducible first | exact HB.out | apply below_alloc | apply pw_below_drewN | apply below_drew1) | exact HB.out)⟩⟩
         ·replace c17 := Bool.eq_false_iff.mpr c17
          subst c17
          have H1 : ((strings_HasPrefix.f (strOfNums (rd_L1 t151 x26_1)) (⟨#[9]⟩ : ByteArray)).bind fun t156 => (head_Fields.j1 k1 l0 x5_1 x6_1 (wrap64 (x7_1 + ((strOfNums (rd_L1 t151 x26_1)).size : Int))) (strOfNums (rd_L1 t151 x26_1)) x7_1 t151 (t151.length : Int) x26_1 t156)) = some r := by (rw [if_neg (show ¬ (false = true) by decide)] at H) <;> exact H
          clear H
          have H := H1
          clear H1
          replace H := Option.bind_eq_some_iff.mp H
          obtain ⟨t156, A180, H⟩ := H
          replace H : (head_Fields.j1 k1 l0 x5_1 x6_1 (wrap64 (x7_1 + ((strOfNums (rd_L1 t151 x26_1)).size : Int))) (strOfNums (rd_L1 t151 x26_1)) x7_1 t151 (t151.length : Int) x26_1 t156) = some r := H
          have A18 := Aside0.mk A180
          clear A180
          have H' := Aside0.mk H
          clear H
          go_wp2_with (first | ((with_reducible refine gate_callee (f := 88) rfl ?_); refine goesL_ (some 38) rfl rfl Tryz.func88 (by kernel_rfl) rfl #[.string (strOfNums (rd_L1 t151 x26_1)), .string (⟨#[32]⟩ : ByteArray)] rfl (by (try simp only [List.map_toArray, List.map_cons, List.map_nil]); first | done | rfl | (simp only [List.length_drop, List.length_take]; rfl)) ?_; (with_reducible refine (strings_HasPrefix.calls (strOfNums (rd_L1 t151 x26_1)) (⟨#[32]⟩ : ByteArray) false _ A16.out).mono ?_); rintro e w' ⟨rfl, ⟨nd, rfl⟩⟩; refine ⟨_, rfl, ?_⟩) | (go_at_call 88; (with_reducible refine (strings_HasPrefix.calls (strOfNums (rd_L1 t151 x26_1)) (⟨#[9]⟩ : ByteArray) t156 _ A18.out).mono ?_); rintro e w' ⟨rfl, ⟨nd, rfl⟩⟩))
          go_meet
          case rel => exact ⟨_, (t156), (by first | rfl | (simp; done) | (simp [*]; done) | (simp [bne_nil8, beq_nil8]; done)), H', ⟨by have := HK1.out; first | omega | exact Nat.le_refl _⟩, ⟨by (with_reducible repeat (first | apply Kd.R_alloc | apply Kd.R_drewN | apply Kd.R_drew)); exact HO_5.out⟩, ⟨by (with_reducible repeat (first | apply Kd.S_alloc | apply Kd.S_drewN | apply Kd.S_drew)); exact HO_24.out⟩, ⟨by repeat (first | (with_reducible exact HR154_0.out) | (with_reducible refine Kd.C_alloc ?_ _) | (with_reducible refine Kd.C_drewN ?_ _) | (with_reducible refine Kd.C_drew ?_) | exact HR154_0.out)⟩, ⟨by repeat (first | (with_reducible first | exact HB.out | apply below_alloc | apply pw_below_drewN | apply below_drew1) | exact HB.out)⟩⟩
        case rest =>
         clear HC13
         try clear c1
         try clear p1
         try clear q1
         try clear hx1
         try clear hcv1
         try clear p2
         try clear c3
         try clear c3b0
         try clear c3b1
         try clear c4
         try clear c4b0
         try clear c4b1
         try clear c6
         try clear p6
         try clear c8
         try clear c10
         try clear c10b0
         try clear c11
         try clear c11b0
         try clear c12
         try clear c12b0
         try clear hcv14
         try clear c15
         try clear p15
         try clear q15
         try clear hx15
         try clear c17
         try clear hx154_0
         try clear p154
         try clear p2
         try clear q154
         obtain ⟨kq, x42_12, rfl, HA, HJ12, HO_5, HO_24, HR154_0, HB⟩ := hcut
         cases kq with
         | zero => exact absurd HA.out (by simp [head_Fields.j1])
         | succ kj12 =>
          have H := HA.out
          clear HA
          simp only [head_Fields.j1] at H
          by_cases c19 : x42_12 = true
          ·subst c19
           have H1 : (if x6_1 = true then (if 0 ≤ (wrap64 ((x5_1.length : Int) - 1)) then (if (wrap64 ((x5_1.length : Int) - 1)) < (x5_1.length : Int) then (head_Fields.l0 kj12 l0 (x5_1.set ((wrap64 ((x5_1.length : Int) - 1)) : Int).toNat (⟨(rd_T100 x5_1 (wrap64 ((x5_1.length : Int) - 1))).f0, (rd_T100 x5_1 (wrap64 ((x5_1.length : Int) - 1))).f1, (rd_T100 x5_1 (wrap64 ((x5_1.length : Int) - 1))).f2, (wrap64 (x7_1 + ((strOfNums (rd_L1 t151 x26_1)).size : Int)))⟩ : S100)) x6_1 (wrap64 (x7_1 + ((strOfNums (rd_L1 t151 x26_1)).size : Int))) t151 (t151.length : Int) (wrap64 (x26_1 + 1))) else (none)) else (none)) else (head_Fields.l0 kj12 l0 x5_1 x6_1 (wrap64 (x7_1 + ((strOfNums (rd_L1 t151 x26_1)).size : Int))) t151 (t151.length : Int) (wrap64 (x26_1 + 1)))) = some r := by (rw [if_pos rfl] at H) <;> exact H
           clear H
           have H := H1
           clear H1
           by_cases c20 : x6_1 = true
           ·subst c20
            have H1 : (if 0 ≤ (wrap64 ((x5_1.length : Int) - 1)) then (if (wrap64 ((x5_1.length : Int) - 1)) < (x5_1.length : Int) then (head_Fields.l0 kj12 l0 (x5_1.set ((wrap64 ((x5_1.length : Int) - 1)) : Int).toNat (⟨(rd_T100 x5_1 (wrap64 ((x5_1.length : Int) - 1))).f0, (rd_T100 x5_1 (wrap64 ((x5_1.length : Int) - 1))).f1, (rd_T100 x5_1 (wrap64 ((x5_1.length : Int) - 1))).f2, (wrap64 (x7_1 + ((strOfNums (rd_L1 t151 x26_1)).size : Int)))⟩ : S100)) true (wrap64 (x7_1 + ((strOfNums (rd_L1 t151 x26_1)).size : Int))) t151 (t151.length : Int) (wrap64 (x26_1 + 1))) else (none)) else (none)) = some r := by (rw [if_pos rfl] at H) <;> exact H
            clear H
            have H := H1
            clear H1
            obtain ⟨ji21, hji21⟩ : ∃ j_ : Int, (wrap64 ((x5_1.length : Int) - 1)) = j_ := ⟨_, rfl⟩
            replace H : (if 0 ≤ (ji21) then (if (ji21) < (x5_1.length : Int) then (head_Fields.l0 kj12 l0 (x5_1.set ((ji21) : Int).toNat (⟨(rd_T100 x5_1 (ji21)).f0, (rd_T100 x5_1 (ji21)).f1, (rd_T100 x5_1 (ji21)).f2, (wrap64 (x7_1 + ((strOfNums (rd_L1 t151 x26_1)).size : Int)))⟩ : S100)) true (wrap64 (x7_1 + ((strOfNums (rd_L1 t151 x26_1)).size : Int))) t151 (t151.length : Int) (wrap64 (x26_1 + 1))) else (none)) else (none)) = some r := by first | (rw [hji21] at H; exact H) | (simp only [hji21] at H ⊢; exact H)
            have hji21w : (IntKind.i64.wrap ((x5_1.length : Int) - 1)) = ji21 := (i64_w _).trans hji21
            by_cases c22 : 0 ≤ (ji21)
            ·rw [if_pos c22] at H
             have c22b0 : decide (0 ≤ (ji21)) = true := decide_eq_true c22
             clear c22
             by_cases c23 : (ji21) < (x5_1.length : Int)
             ·rw [if_pos c23] at H
              have c23b0 : decide ((ji21) < (x5_1.length : Int)) = true := decide_eq_true c23
              clear c23
              obtain ⟨y157, hy157⟩ : ∃ y_ : List (S100), y_ = (x5_1.set ((ji21) : Int).toNat (⟨(rd_T100 x5_1 (ji21)).f0, (rd_T100 x5_1 (ji21)).f1, (rd_T100 x5_1 (ji21)).f2, (wrap64 (x7_1 + ((strOfNums (rd_L1 t151 x26_1)).size : Int)))⟩ : S100)) := ⟨_, rfl⟩
              replace H : (head_Fields.l0 kj12 l0 y157 true (wrap64 (x7_1 + ((strOfNums (rd_L1 t151 x26_1)).size : Int))) t151 (t151.length : Int) (wrap64 (x26_1 + 1))) = some r := by first | (rw [hy157]; with_reducible exact H) | (have H2_ := (Option.bind_some _ _).symm.trans H; rw [hy157]; with_reducible exact H2_) | (have H2_ := (Option.bind_some _ _).symm.trans H; with_reducible exact H2_) | with_reducible exact H | (rw [hy157]; exact H) | exact H
              have Ny157 := Aside0.mk hy157
              clear hy157
              have H' := Aside0.mk H
              clear H
              obtain ⟨Ao25, co25, eo25⟩ := Kd.R_slice HO_5.out
              subst eo25
              have p24 : 0 ≤ ((ji21) : Int) := of_decide_eq_true (by first | (with_reducible assumption) | assumption)
              have q24 : ((ji21) : Int) < ((x5_1.length : Int) : Int) := of_decide_eq_true (by first | (with_reducible assumption) | assumption)
              obtain ⟨go24, co24, eo24, gb24, gl24, cl24, HG24⟩ := Kd.R_form HO_5.out (by omega)
              (first | cases eo24 | (injection eo24 with ea_ en_ ec_; (first | subst ea_ | (injection ea_ with ea_; subst ea_)); subst ec_; clear en_))
              have GB24 := Aside0.mk gb24
              have GG24 := Aside0.mk HG24
              clear gb24 gl24 HG24
              obtain ⟨ce24, hcl24, hM24, hcc24, hfr24⟩ := Kd.R_elem HO_5.out z100 ((ji21) : Int) p24 q24
              obtain rfl := k100_openM hM24
              have hx24_0 : wc.cell? ⟨go24, ((ji21) : Int).toNat * 4, none⟩ = some (.string ((rd_T100 x5_1 (ji21)).f0)) := hcc24 0 _ rfl
              have hx24_1 : wc.cell? ⟨go24, ((ji21) : Int).toNat * 4 + 1, none⟩ = some (.string ((rd_T100 x5_1 (ji21)).f1)) := hcc24 1 _ rfl
              have hx24_2 : wc.cell? ⟨go24, ((ji21) : Int).toNat * 4 + 2, none⟩ = some (.int .i64 ((rd_T100 x5_1 (ji21)).f2)) := hcc24 2 _ rfl
              have hx24_3 : wc.cell? ⟨go24, ((ji21) : Int).toNat * 4 + 3, none⟩ = some (.int .i64 ((rd_T100 x5_1 (ji21)).f3)) := hcc24 3 _ rfl
              have hf24_0 : wc.frozen? ⟨go24, ((ji21) : Int).toNat * 4, none⟩ = false := hfr24 0
              have hf24_1 : wc.frozen? ⟨go24, ((ji21) : Int).toNat * 4 + 1, none⟩ = false := hfr24 1
              have hf24_2 : wc.frozen? ⟨go24, ((ji21) : Int).toNat * 4 + 2, none⟩ = false := hfr24 2
              have hf24_3 : wc.frozen? ⟨go24, ((ji21) : Int).toNat * 4 + 3, none⟩ = false := hfr24 3
              clear hcl24 hcc24 hfr24 hM24
              replace p24 := eq_true p24
              replace q24 := eq_true q24
              have HX26 := Aside0.mk (show Kd.R k100 100 wc w.heap.size (fun _ => True) (.slice (some ⟨go24, 0, none⟩) x5_1.length co25) x5_1 from (by (with_reducible repeat (first | apply Kd.R_alloc | apply Kd.R_drewN | apply Kd.R_drew)); exact HO_5.out))
              obtain ⟨ce26, hcl26, hM26, hcc26, hfr26⟩ := Kd.R_elem HX26.out z100 ((ji21) : Int) (of_decide_eq_true (by first | (with_reducible assumption) | assumption)) (by have h_ : ((ji21) : Int) < ((x5_1.length : Int) : Int) := of_decide_eq_true (by first | (with_reducible assumption) | assumption); first | exact h_ | (have e_ := (Kd.R_reads' HO_5.out).1; omega) | simpa using h_)
              obtain rfl := k100_openM hM26
              have HP26 := Kd.R_seg HX26.out ((ji21) : Int) (of_decide_eq_true (by first | (with_reducible assumption) | assumption)) (by have h_ : ((ji21) : Int) < ((x5_1.length : Int) : Int) := of_decide_eq_true (by first | (with_reducible assumption) | assumption); first | exact h_ | (have e_ := (Kd.R_reads' HO_5.out).1; omega) | simpa using h_) (seg := [.int .i64 (wrap64 (x7_1 + ((strOfNums (rd_L1 t151 x26_1)).size : Int)))]) (j := 3) hcl26 hcc26 (show 4 ≤ 4 from by decide) (x' := (⟨(rd_T100 x5_1 (ji21)).f0, (rd_T100 x5_1 (ji21)).f1, (rd_T100 x5_1 (ji21)).f2, (wrap64 (x7_1 + ((strOfNums (rd_L1 t151 x26_1)).size : Int)))⟩ : S100)) (k100_mkM _ _ _ (⟨(rd_T100 x5_1 (ji21)).f0, (rd_T100 x5_1 (ji21)).f1, (rd_T100 x5_1 (ji21)).f2, (wrap64 (x7_1 + ((strOfNums (rd_L1 t151 x26_1)).size : Int)))⟩ : S100) ) (fun _ hk => hk)
              have hx26_3 := hcc26 3 _ rfl
              (try simp only [show (k100).sz = 4 from rfl, Nat.mul_one, Nat.add_zero] at hx26_3)
              have hf26_3 := hfr26 3
              (try simp only [show (k100).sz = 4 from rfl, Nat.mul_one, Nat.add_zero] at hf26_3)
              clear hcl26 hcc26 hfr26 hM26
              go_wp2_with (first | ((with_reducible refine gate_store (t := 3) (p := 50) rfl ?_); refine store_event (t := 3) (p := 50) (v := ?vo_w27) (w1 := (wc.setCell ⟨go24, ((ji21) : Int).toNat * 4 + 3, none⟩ (.int .i64 (wrap64 (x7_1 + ((strOfNums (rd_L1 t151 x26_1)).size : Int)))))) ?hg ?ho ?hn ?hr ?_; (case ho => rfl); (case hg => rfl); (case hn => rfl); (case hr => first | (go_simp; done) | (go_simp; rfl)); intro w27 hw; have hg : wc.grownBy w27 (some go24) := (by rw [hw]; exact HP26.2); have hp_ : Kd.R k100 100 w27 w.heap.size (fun _ => True) (.slice (some ⟨go24, 0, none⟩) x5_1.length co25) y157 := (by rw [hw, Ny157.out]; exact HP26.1); clear HP26; have n0_ := Aside0.mk (hp_); have n1_ := Aside0.mk (Kd.S_over' (v := (.slice (some ⟨go24, 0, none⟩) x5_1.length co25)) (by (with_reducible repeat (first | apply Kd.S_alloc | apply Kd.S_drewN | apply Kd.S_drew)); exact HO_24.out) (Kd.R_typed HO_5.out) (by decide) hg); have n2_ := Aside0.mk ((by rw [hw]; exact below_set (HB.out) GB24.out : Below w.heap.size w w27)); clear HO_5; clear HO_24; clear HB; have HO_5 := n0_; have HO_24 := n1_; have HB := n2_; clear n0_ n1_ n2_; clear hg hw hp_))
              go_roundg kj12
              case measure => have := HK1.out; have := HJ12.out; omega
              case rel => exact ⟨(y157), (true), ((wrap64 (x7_1 + ((strOfNums (rd_L1 t151 x26_1)).size : Int)))), (wrap64 (x26_1 + 1)), (by first | rfl | (simp; done) | (simp [*]; done) | (simp [bne_nil8, beq_nil8]; done)), (by first | rfl | (simp; done) | (simp [*]; done) | (simp [bne_nil8, beq_nil8]; done)), (by first | rfl | (simp; done) | (simp [*]; done) | (simp [bne_nil8, beq_nil8]; done)), H', ⟨by have := HK1.out; have := HJ12.out; omega⟩, ⟨by (with_reducible repeat (first | apply Kd.R_alloc | apply Kd.R_drewN | apply Kd.R_drew)); exact HO_5.out⟩, ⟨by (with_reducible repeat (first | apply Kd.S_alloc | apply Kd.S_drewN | apply Kd.S_drew)); exact HO_24.out⟩, ⟨by repeat (first | (with_reducible first | exact HB.out | apply below_alloc | apply pw_below_drewN | apply below_drew1) | exact HB.out)⟩⟩
             ·rw [if_neg c23] at H
              exact absurd H (by simp)
            ·rw [if_neg c22] at H
             exact absurd H (by simp)
           ·replace c20 := Bool.eq_false_iff.mpr c20
            subst c20
            have H1 : (head_Fields.l0 kj12 l0 x5_1 false (wrap64 (x7_1 + ((strOfNums (rd_L1 t151 x26_1)).size : Int))) t151 (t151.length : Int) (wrap64 (x26_1 + 1))) = some r := by (rw [if_neg (show ¬ (false = true) by decide)] at H) <;> exact H
            clear H
            have H := H1
            clear H1
            have H' := Aside0.mk H
            clear H
            go_wp2
            go_roundg kj12
            case measure => have := HK1.out; have := HJ12.out; omega
            case rel => exact ⟨(x5_1), (false), ((wrap64 (x7_1 + ((strOfNums (rd_L1 t151 x26_1)).size : Int)))), (wrap64 (x26_1 + 1)), (by first | rfl | (simp; done) | (simp [*]; done) | (simp [bne_nil8, beq_nil8]; done)), (by first | rfl | (simp; done) | (simp [*]; done) | (simp [bne_nil8, beq_nil8]; done)), (by first | rfl | (simp; done) | (simp [*]; done) | (simp [bne_nil8, beq_nil8]; done)), H', ⟨by have := HK1.out; have := HJ12.out; omega⟩, ⟨by (with_reducible repeat (first | apply Kd.R_alloc | apply Kd.R_drewN | apply Kd.R_drew)); exact HO_5.out⟩, ⟨by (with_reducible repeat (first | apply Kd.S_alloc | apply Kd.S_drewN | apply Kd.S_drew)); exact HO_24.out⟩, ⟨by repeat (first | (with_reducible first | exact HB.out | apply below_alloc | apply pw_below_drewN | apply below_drew1) | exact HB.out)⟩⟩
          ·replace c19 := Bool.eq_false_iff.mpr c19
           subst c19
           have H1 : ((head_name.f kj12 (strOfNums (rd_L1 t151 x26_1))).bind fun bt158 => (if bt158.2 = true then (if (x5_1.length : Int) < 500 then (if x5_1.length < 2932031007402 then (head_Fields.l0 kj12 l0 (x5_1 ++ [(⟨bt158.1, (⟨#[]⟩ : ByteArray), x7_1, (wrap64 (x7_1 + ((strOfNums (rd_L1 t151 x26_1)).size : Int)))⟩ : S100)]) (decide ((x5_1.length : Int) < 500)) (wrap64 (x7_1 + ((strOfNums (rd_L1 t151 x26_1)).size : Int))) t151 (t151.length : Int) (wrap64 (x26_1 + 1))) else (none)) else (head_Fields.l0 kj12 l0 x5_1 (decide ((x5_1.length : Int) < 500)) (wrap64 (x7_1 + ((strOfNums (rd_L1 t151 x26_1)).size : Int))) t151 (t151.length : Int) (wrap64 (x26_1 + 1)))) else (head_Fields.l0 kj12 l0 x5_1 false (wrap64 (x7_1 + ((strOfNums (rd_L1 t151 x26_1)).size : Int))) t151 (t151.length : Int) (wrap64 (x26_1 + 1))))) = some r := by (rw [if_neg (show ¬ (false = true) by decide)] at H) <;> exact H
           clear H
           have H := H1
           clear H1
           replace H := Option.bind_eq_some_iff.mp H
           obtain ⟨⟨t158, t159⟩, A280, H⟩ := H
           replace H : (if t159 = true then (if (x5_1.length : Int) < 500 then (if x5_1.length < 2932031007402 then (head_Fields.l0 kj12 l0 (x5_1 ++ [(⟨t158, (⟨#[]⟩ : ByteArray), x7_1, (wrap64 (x7_1 + ((strOfNums (rd_L1 t151 x26_1)).size : Int)))⟩ : S100)]) (decide ((x5_1.length : Int) < 500)) (wrap64 (x7_1 + ((strOfNums (rd_L1 t151 x26_1)).size : Int))) t151 (t151.length : Int) (wrap64 (x26_1 + 1))) else (none)) else (head_Fields.l0 kj12 l0 x5_1 (decide ((x5_1.length : Int) < 500)) (wrap64 (x7_1 + ((strOfNums (rd_L1 t151 x26_1)).size : Int))) t151 (t151.length : Int) (wrap64 (x26_1 + 1)))) else (head_Fields.l0 kj12 l0 x5_1 false (wrap64 (x7_1 + ((strOfNums (rd_L1 t151 x26_1)).size : Int))) t151 (t151.length : Int) (wrap64 (x26_1 + 1)))) = some r := H
           have A28 := Aside0.mk A280
           clear A280
           by_cases c29 : t159 = true
           ·subst c29
            have H1 : (if (x5_1.length : Int) < 500 then (if x5_1.length < 2932031007402 then (head_Fields.l0 kj12 l0 (x5_1 ++ [(⟨t158, (⟨#[]⟩ : ByteArray), x7_1, (wrap64 (x7_1 + ((strOfNums (rd_L1 t151 x26_1)).size : Int)))⟩ : S100)]) (decide ((x5_1.length : Int) < 500)) (wrap64 (x7_1 + ((strOfNums (rd_L1 t151 x26_1)).size : Int))) t151 (t151.length : Int) (wrap64 (x26_1 + 1))) else (none)) else (head_Fields.l0 kj12 l0 x5_1 (decide ((x5_1.length : Int) < 500)) (wrap64 (x7_1 + ((strOfNums (rd_L1 t151 x26_1)).size : Int))) t151 (t151.length : Int) (wrap64 (x26_1 + 1)))) = some r := by (rw [if_pos rfl] at H) <;> exact H
            clear H
            have H := H1
            clear H1
            by_cases c30 : (x5_1.length : Int) < 500
            ·rw [if_pos c30] at H
             have c30b0 : decide ((x5_1.length : Int) < 500) = true := decide_eq_true c30
             have c30b1 : decide (x5_1.length < 500) = true := decide_eq_true (by omega)
             clear c30
             by_cases c31 : x5_1.length < 2932031007402
             ·rw [if_pos c31] at H
              have LMc31 := Aside0.mk c31
              clear c31
              obtain ⟨y160, hy160⟩ : ∃ y_ : List (S100), y_ = (x5_1 ++ [(⟨t158, (⟨#[]⟩ : ByteArray), x7_1, (wrap64 (x7_1 + ((strOfNums (rd_L1 t151 x26_1)).size : Int)))⟩ : S100)]) := ⟨_, rfl⟩
              replace H : (head_Fields.l0 kj12 l0 y160 (decide ((x5_1.length : Int) < 500)) (wrap64 (x7_1 + ((strOfNums (rd_L1 t151 x26_1)).size : Int))) t151 (t151.length : Int) (wrap64 (x26_1 + 1))) = some r := by first | (rw [hy160]; with_reducible exact H) | (have H2_ := (Option.bind_some _ _).symm.trans H; rw [hy160]; with_reducible exact H2_) | (have H2_ := (Option.bind_some _ _).symm.trans H; with_reducible exact H2_) | with_reducible exact H | (rw [hy160]; exact H) | exact H
              have Ny160 := Aside0.mk hy160
              clear hy160
              have H' := Aside0.mk H
              clear H
              go_wp2_with (first | ((with_reducible refine gate_callee (f := 89) rfl ?_); refine goesL_ (some 53) rfl rfl Tryz.func89 (by kernel_rfl) rfl #[.string (strOfNums (rd_L1 t151 x26_1))] rfl (by (try simp only [List.map_toArray, List.map_cons, List.map_nil]); first | done | rfl | (simp only [List.length_drop, List.length_take]; rfl)) ?_; (with_reducible refine (head_name.calls kj12 (strOfNums (rd_L1 t151 x26_1)) t158 true _ A28.out).mono ?_); rintro e w' ⟨rfl, ⟨nd, rfl⟩⟩; refine ⟨_, rfl, ?_⟩; obtain ⟨Ao32, co32, eo32⟩ := Kd.R_slice HO_5.out; subst eo32) | ((with_reducible refine gate_builtin (b := .append) (xs := #[.tmp 63, .tmp 68]) rfl ?_); (try (refine gate_guard (by rfl) ?_; dsimp only)); at_builtin; refine Kd.R_append k100 (w0 := w) w.heap.size rfl (.tmp 63) (.tmp 68) 97 100 (.agg #[(.string ⟨#[]⟩), (.string ⟨#[]⟩), (.int .i64 0), (.int .i64 0)]) 48 rfl Tryz.underlying97 info100 rfl (by decide) (by omega) (.slice Ao32 x5_1.length co32) x5_1 (⟨t158, (⟨#[]⟩ : ByteArray), x7_1, (wrap64 (x7_1 + ((strOfNums (rd_L1 t151 x26_1)).size : Int)))⟩ : S100) [.string t158, .string (⟨#[]⟩ : ByteArray), .int .i64 x7_1, .int .i64 (wrap64 (x7_1 + ((strOfNums (rd_L1 t151 x26_1)).size : Int)))] (fun _ => True) (fun _ => False) rfl rfl ?aP (fun _ hk => hk.elim) ?aF ?aO ?aB ?aS ?aL ?_; (case aP => exact k100_mkM _ _ _ (⟨t158, (⟨#[]⟩ : ByteArray), x7_1, (wrap64 (x7_1 + ((strOfNums (rd_L1 t151 x26_1)).size : Int)))⟩ : S100)); (case aB => exact (by repeat (first | (with_reducible first | exact HB.out | apply below_alloc | apply pw_below_drewN | apply below_drew1) | exact HB.out))); (case aF => exact (fun _ _ => trivial)); (case aO => exact (by (with_reducible repeat (first | apply Kd.R_alloc | apply Kd.R_drewN | apply Kd.R_drew)); exact HO_5.out)); (case aS => exact (below_size (by repeat (first | (with_reducible first | exact HB.out | apply below_alloc | apply pw_below_drewN | apply below_drew1) | exact HB.out)))); (case aL => have := LMc31.out; omega); intro v161 w33 ho hb hg hat; rw [← Ny160.out] at ho; have n0_ := Aside0.mk (Kd.S_over' (by (with_reducible repeat (first | apply Kd.S_alloc | apply Kd.S_drewN | apply Kd.S_drew)); exact HO_24.out) (Kd.R_typed (by (with_reducible repeat (first | apply Kd.R_alloc | apply Kd.R_drewN | apply Kd.R_drew)); exact HO_5.out)) (by decide) hg); have n1_ := Aside0.mk (hb); have n2_ := Aside0.mk (ho); clear HO_24; clear HB; clear HO_5; have HO_24 := n0_; have HB := n1_; have HO162 := n2_; clear n0_ n1_ n2_; clear ho hb hg hat))
              go_roundg kj12
              case measure => have := HK1.out; have := HJ12.out; omega
              case rel => exact ⟨(y160), (decide ((x5_1.length : Int) < 500)), ((wrap64 (x7_1 + ((strOfNums (rd_L1 t151 x26_1)).size : Int)))), (wrap64 (x26_1 + 1)), (by first | rfl | (simp; done) | (simp [*]; done) | (simp [bne_nil8, beq_nil8]; done)), (by first | rfl | (simp; done) | (simp [*]; done) | (simp [bne_nil8, beq_nil8]; done)), (by first | rfl | (simp; done) | (simp [*]; done) | (simp [bne_nil8, beq_nil8]; done)), H', ⟨by have := HK1.out; have := HJ12.out; omega⟩, ⟨by (with_reducible repeat (first | apply Kd.R_alloc | apply Kd.R_drewN | apply Kd.R_drew)); exact HO162.out⟩, ⟨by (with_reducible repeat (first | apply Kd.S_alloc | apply Kd.S_drewN | apply Kd.S_drew)); exact HO_24.out⟩, ⟨by repeat (first | (with_reducible first | exact HB.out | apply below_alloc | apply pw_below_drewN | apply below_drew1) | exact HB.out)⟩⟩
             ·rw [if_neg c31] at H
              exact absurd H (by simp)
            ·rw [if_neg c30] at H
             have c30b0 : decide ((x5_1.length : Int) < 500) = false := decide_eq_false c30
             have c30b1 : decide (x5_1.length < 500) = false := decide_eq_false (by omega)
             clear c30
             have H' := Aside0.mk H
             clear H
             go_wp2_with (first | ((with_reducible refine gate_callee (f := 89) rfl ?_); refine goesL_ (some 53) rfl rfl Tryz.func89 (by kernel_rfl) rfl #[.string (strOfNums (rd_L1 t151 x26_1))] rfl (by (try simp only [List.map_toArray, List.map_cons, List.map_nil]); first | done | rfl | (simp only [List.length_drop, List.length_take]; rfl)) ?_; (with_reducible refine (head_name.calls kj12 (strOfNums (rd_L1 t151 x26_1)) t158 true _ A28.out).mono ?_); rintro e w' ⟨rfl, ⟨nd, rfl⟩⟩; refine ⟨_, rfl, ?_⟩; obtain ⟨Ao34, co34, eo34⟩ := Kd.R_slice HO_5.out; subst eo34))
             go_roundg kj12
             case measure => have := HK1.out; have := HJ12.out; omega
             case rel => exact ⟨(x5_1), (decide ((x5_1.length : Int) < 500)), ((wrap64 (x7_1 + ((strOfNums (rd_L1 t151 x26_1)).size : Int)))), (wrap64 (x26_1 + 1)), (by first | rfl | (simp; done) | (simp [*]; done) | (simp [bne_nil8, beq_nil8]; done)), (by first | rfl | (simp; done) | (simp [*]; done) | (simp [bne_nil8, beq_nil8]; done)), (by first | rfl | (simp; done) | (simp [*]; done) | (simp [bne_nil8, beq_nil8]; done)), H', ⟨by have := HK1.out; have := HJ12.out; omega⟩, ⟨by (with_reducible repeat (first | apply Kd.R_alloc | apply Kd.R_drewN | apply Kd.R_drew)); exact HO_5.out⟩, ⟨by (with_reducible repeat (first | apply Kd.S_alloc | apply Kd.S_drewN | apply Kd.S_drew)); exact HO_24.out⟩, ⟨by repeat (first | (with_reducible first | exact HB.out | apply below_alloc | apply pw_below_drewN | apply below_drew1) | exact HB.out)⟩⟩
           ·replace c29 := Bool.eq_false_iff.mpr c29
            subst c29
            have H1 : (head_Fields.l0 kj12 l0 x5_1 false (wrap64 (x7_1 + ((strOfNums (rd_L1 t151 x26_1)).size : Int))) t151 (t151.length : Int) (wrap64 (x26_1 + 1))) = some r := by (rw [if_neg (show ¬ (false = true) by decide)] at H) <;> exact H
            clear H
            have H := H1
            clear H1
            have H' := Aside0.mk H
            clear H
            go_wp2_with (first | ((with_reducible refine gate_callee (f := 89) rfl ?_); refine goesL_ (some 53) rfl rfl Tryz.func89 (by kernel_rfl) rfl #[.string (strOfNums (rd_L1 t151 x26_1))] rfl (by (try simp only [List.map_toArray, List.map_cons, List.map_nil]); first | done | rfl | (simp only [List.length_drop, List.length_take]; rfl)) ?_; (with_reducible refine (head_name.calls kj12 (strOfNums (rd_L1 t151 x26_1)) t158 false _ A28.out).mono ?_); rintro e w' ⟨rfl, ⟨nd, rfl⟩⟩; refine ⟨_, rfl, ?_⟩))
            go_roundg kj12
            case measure => have := HK1.out; have := HJ12.out; omega
            case rel => exact ⟨(x5_1), (false), ((wrap64 (x7_1 + ((strOfNums (rd_L1 t151 x26_1)).size : Int)))), (wrap64 (x26_1 + 1)), (by first | rfl | (simp; done) | (simp [*]; done) | (simp [bne_nil8, beq_nil8]; done)), (by first | rfl | (simp; done) | (simp [*]; done) | (simp [bne_nil8, beq_nil8]; done)), (by first | rfl | (simp; done) | (simp [*]; done) | (simp [bne_nil8, beq_nil8]; done)), H', ⟨by have := HK1.out; have := HJ12.out; omega⟩, ⟨by (with_reducible repeat (first | apply Kd.R_alloc | apply Kd.R_drewN | apply Kd.R_drew)); exact HO_5.out⟩, ⟨by (with_reducible repeat (first | apply Kd.S_alloc | apply Kd.S_drewN | apply Kd.S_drew)); exact HO_24.out⟩, ⟨by repeat (first | (with_reducible first | exact HB.out | apply below_alloc | apply pw_below_drewN | apply below_drew1) | exact HB.out)⟩⟩
       ·rw [if_neg c12] at H
        exact absurd H (by simp)
      ·rw [if_neg c11] at H
       exact absurd H (by simp)
     ·rw [if_neg c10] at H
      have c10b0 : decide (x26_1 < (t151.length : Int)) = false := decide_eq_false c10
      clear c10
      have H' := Aside0.mk H
      clear H
      obtain ⟨Ao35, co35, eo35⟩ := Kd.R_slice HO_5.out
      subst eo35
      go_wp2
      go_loopg [73] k1 (fun kq v73 w' => ∃ (x5_2 : List (S100)) (x73_2 : Int), v73 = .int .i64 x73_2 ∧ Aside0 (head_Fields.l1 kq l0 x5_2 (x5_1.length : Int) x73_2 = some r) ∧ Aside0 (kq ≤ k1) ∧ Aside0 (Kd.R k100 100 w' w.heap.size (fun _ => True) (.slice Ao35 x5_1.length co35) x5_2) ∧ Aside0 (Below w.heap.size w w'))
      case atStart => exact ⟨(x5_1), (0), (by first | rfl | (simp; done) | (simp [*]; done) | (simp [bne_nil8, beq_nil8]; done)), H', ⟨Nat.le_refl _⟩, ⟨by (with_reducible repeat (first | apply Kd.R_alloc | apply Kd.R_drewN | apply Kd.R_drew)); exact HO_5.out⟩, ⟨by repeat (first | (with_reducible first | exact HB.out | apply below_alloc | apply pw_below_drewN | apply below_drew1) | exact HB.out)⟩⟩
      case round =>
       clear H'
       try clear c1
       try clear p1
       try clear q1
       try clear hx1
       try clear hcv1
       try clear c2
       try clear p2
       try clear q2
       try clear hx2
       try clear hf2
       try clear c3
       try clear c3b0
       try clear c3b1
       try clear c4
       try clear c4b0
       try clear c4b1
       try clear c6
       try clear p6
       try clear c8
       try clear c10
       try clear c10b0
       try clear c11
       try clear c11b0
       try clear c12
       try clear c12b0
       try clear hcv14
       try clear c15
       try clear p15
       try clear q15
       try clear hx15
       try clear c17
       try clear c19
       try clear c20
       try clear c22
       try clear c22b0
       try clear c23
       try clear c23b0
       try clear c24
       try clear p24
       try clear q24
       try clear hx24
       try clear hf24
       try clear c26
       try clear hx26
       try clear hf26
       try clear c29
       try clear c30
       try clear c30b0
       try clear c30b1
       try clear c31
       try clear hx154_0
       try clear hx24_0
       try clear hx24_1
       try clear hx24_2
       try clear hx24_3
       try clear hx26_3
       try clear p1
       try clear p15
       try clear p154
       try clear p2
       try clear p24
       try clear p6
       try clear q1
       try clear q15
       try clear q154
       try clear q24
       obtain ⟨x5_2, x73_2, rfl, HA, HK2, HO_5, HB⟩ := hrel
       have hl5_2 := (Kd.R_reads' HO_5.out).1
       rw [hl5_2] at HO_5
       (try simp only [hl5_2])
       cases gk with
       | zero => exact absurd HA.out (by simp [head_Fields.l1])
       | succ k2 =>
        have H := HA.out
        clear HA
        simp only [head_Fields.l1] at H
        by_cases c36 : x73_2 < (x5_1.length : Int)
        ·rw [if_pos c36] at H
         have c36b0 : decide (x73_2 < (x5_1.length : Int)) = true := decide_eq_true c36
         have c36b0l := c36b0
         (try simp only [hl5_2] at c36b0l)
         clear c36
         by_cases c37 : 0 ≤ x73_2
         ·rw [if_pos c37] at H
          have c37b0 : decide (0 ≤ x73_2) = true := decide_eq_true c37
          clear c37
          by_cases c38 : x73_2 < (x5_2.length : Int)
          ·rw [if_pos c38] at H
           have c38b0 : decide (x73_2 < (x5_2.length : Int)) = true := decide_eq_true c38
           have c38b0l := c38b0
           (try simp only [hl5_2] at c38b0l)
           clear c38
           obtain ⟨ji39, hji39⟩ : ∃ j_ : Int, (wrap64 ((wrap64 (((rd_T100 x5_2 x73_2).f2) + (((rd_T100 x5_2 x73_2).f0).size : Int))) + 1)) = j_ := ⟨_, rfl⟩
           replace H : (if 0 ≤ (ji39) then (if (ji39) ≤ ((rd_T100 x5_2 x73_2).f3) then (if ((rd_T100 x5_2 x73_2).f3) ≤ (l0.length : Int) then ((head_Value.f (strOfNums ((l0.take (((rd_T100 x5_2 x73_2).f3) : Int).toNat).drop ((ji39) : Int).toNat))).bind fun t166 => (head_Fields.l1 k2 l0 (x5_2.set (x73_2 : Int).toNat (⟨(rd_T100 x5_2 x73_2).f0, t166, (rd_T100 x5_2 x73_2).f2, (rd_T100 x5_2 x73_2).f3⟩ : S100)) (x5_1.length : Int) (wrap64 (x73_2 + 1)))) else (none)) else (none)) else (none)) = some r := by first | (rw [hji39] at H; exact H) | (simp only [hji39] at H ⊢; exact H)
           have hji39w : (IntKind.i64.wrap ((wrap64 (((rd_T100 x5_2 x73_2).f2) + (((rd_T100 x5_2 x73_2).f0).size : Int))) + 1)) = ji39 := (i64_w _).trans hji39
           by_cases c40 : 0 ≤ (ji39)
           ·rw [if_pos c40] at H
            have c40b0 := eq_true c40
            have c40b1 : decide (0 ≤ (ji39)) = true := decide_eq_true c40
            clear c40
            by_cases c41 : (ji39) ≤ ((rd_T100 x5_2 x73_2).f3)
            ·rw [if_pos c41] at H
             have c41b0 := eq_true c41
             have c41b1 : decide ((ji39) ≤ ((rd_T100 x5_2 x73_2).f3)) = true := decide_eq_true c41
             clear c41
             by_cases c42 : ((rd_T100 x5_2 x73_2).f3) ≤ (l0.length : Int)
             ·rw [if_pos c42] at H
              have c42b0 := eq_true c42
              have c42b1 : decide (((rd_T100 x5_2 x73_2).f3) ≤ (l0.length : Int)) = true := decide_eq_true c42
              have c42b1l := c42b1
              (try simp only [hl5_2] at c42b1l)
              clear c42
              replace H := Option.bind_eq_some_iff.mp H
              obtain ⟨t166, A430, H⟩ := H
              replace H : (head_Fields.l1 k2 l0 (x5_2.set (x73_2 : Int).toNat (⟨(rd_T100 x5_2 x73_2).f0, t166, (rd_T100 x5_2 x73_2).f2, (rd_T100 x5_2 x73_2).f3⟩ : S100)) (x5_1.length : Int) (wrap64 (x73_2 + 1))) = some r := H
              have A43 := Aside0.mk A430
              clear A430
              obtain ⟨y167, hy167⟩ : ∃ y_ : List (S100), y_ = (x5_2.set (x73_2 : Int).toNat (⟨(rd_T100 x5_2 x73_2).f0, t166, (rd_T100 x5_2 x73_2).f2, (rd_T100 x5_2 x73_2).f3⟩ : S100)) := ⟨_, rfl⟩
              replace H : (head_Fields.l1 k2 l0 y167 (x5_1.length : Int) (wrap64 (x73_2 + 1))) = some r := by first | (rw [hy167]; with_reducible exact H) | (have H2_ := (Option.bind_some _ _).symm.trans H; rw [hy167]; with_reducible exact H2_) | (have H2_ := (Option.bind_some _ _).symm.trans H; with_reducible exact H2_) | with_reducible exact H | (rw [hy167]; exact H) | exact H
              have Ny167 := Aside0.mk hy167
              clear hy167
              have H' := Aside0.mk H
              clear H
              have p163 : 0 ≤ (x73_2 : Int) := of_decide_eq_true (by first | (with_reducible assumption) | assumption)
              have q163 : x73_2 < (x5_2.length : Int) := of_decide_eq_true (by first | (with_reducible assumption) | assumption)
              obtain ⟨ad163, e163, hx163_0, hx163_1, hx163_2, hx163_3⟩ := at_T100 (Kd.R_reads' HO_5.out).2.2 x73_2 p163 q163
              cases e163
              replace p163 := eq_true p163
              replace q163 := eq_true q163
              go_wp2_with (first | ((with_reducible refine gate_dst (N := 15) rfl ?_); (try (refine gate_guard (by rfl) ?_; dsimp only)); refine box_event ?hg (N := 15) ?hd (cs := #[.string (⟨#[]⟩ : ByteArray), .string (⟨#[]⟩ : ByteArray), .int .i64 0, .int .i64 0]) (t := 100) ?hr ?_; (case hd => rfl); (case hg => rfl); (case hr => first | (go_simp; done) | (go_simp; rfl)); intro gb164 hg w45 hbox hb; have n0_ := Aside0.mk (Kd.R_below (Kd.R_elderB (by (with_reducible repeat (first | apply Kd.R_alloc | apply Kd.R_drewN | apply Kd.R_drew)); exact HO_5.out) gb164 (Nat.le_of_eq hg.symm)) hb); have n1_ := Aside0.mk (below_step (by repeat (first | (with_reducible first | exact HB.out | apply below_alloc | apply pw_below_drewN | apply below_drew1) | exact HB.out)) hb); have n2_ := Aside0.mk (hbox); have n3_ := Aside0.mk ((by rw [hg]; exact (below_size (by repeat (first | (with_reducible first | exact HB.out | apply below_alloc | apply pw_below_drewN | apply below_drew1) | exact HB.out))) : w.heap.size ≤ gb164)); have n4_ := Aside0.mk ((by rw [hg]; exact (below_size (by repeat (first | (with_reducible first | exact HB.out | apply below_alloc | apply pw_below_drewN | apply below_drew1) | exact HB.out))) : w.heap.size ≤ gb164)); clear HO_5; clear HB; have HO_5 := n0_; have HB := n1_; have BK164 := n2_; have GW164 := n3_; have GE164 := n4_; clear n0_ n1_ n2_ n3_ n4_; clear hb hbox hg; have hcz46_0 : w45.cell? ⟨gb164, 0, none⟩ = some (.string (⟨#[]⟩ : ByteArray)) := (blk_cell BK164.out 0).trans rfl; have hcz46_1 : w45.cell? ⟨gb164, 1, none⟩ = some (.string (⟨#[]⟩ : ByteArray)) := (blk_cell BK164.out 1).trans rfl; have hcz46_2 : w45.cell? ⟨gb164, 2, none⟩ = some (.int .i64 0) := (blk_cell BK164.out 2).trans rfl; have hcz46_3 : w45.cell? ⟨gb164, 3, none⟩ = some (.int .i64 0) := (blk_cell BK164.out 3).trans rfl; have hfz46_0 := blk_frozen BK164.out 0; have hfz46_1 := blk_frozen BK164.out 1; have hfz46_2 := blk_frozen BK164.out 2; have hfz46_3 := blk_frozen BK164.out 3; obtain ⟨i047, hi047, _, hsz47, _⟩ := info_parts info5; obtain ⟨A47, hcut47, hA47, hC47⟩ := print_mid_of (P := Tryz.prog) (Value.int .u8) 0 30 5 .i64 .i64 Tryz.underlying30 hi047 hsz47 A0 c0 l0 (ji39) ((rd_T100 x5_2 x73_2).f3) (of_decide_eq_true (by first | (with_reducible assumption) | assumption)) (by first | omega | exact of_decide_eq_true (by first | (with_reducible assumption) | assumption)) (of_decide_eq_true (by first | (with_reducible assumption) | assumption)) HC0.out; have HR165 := Aside0.mk (Kd.C_of_reads (h1 := fun _ => rfl) (hA47 _ (Kd.reads_of_C HR0.out))); have HC165 := Aside0.mk hC47; clear hA47 hC47 hi047 hsz47; have hcv48 := Kd.C_string (P := Tryz.prog) (A := A47) (c := (c0 - (ji39).toNat)) Tryz.underlying30 Tryz.underlying5 Tryz.underlying9 (Kd.C_below HR165.out HB.out); have hcw49 := fun n_ : Nat => Kd.C_string (P := Tryz.prog) (A := A47) (c := (c0 - (ji39).toNat)) Tryz.underlying30 Tryz.underlying5 Tryz.underlying9 (Kd.C_drewN (Kd.C_below HR165.out HB.out) n_); have hcx49 := fun (v0_ v1_ v2_ v3_ : Value) => Kd.C_string (P := Tryz.prog) (A := A47) (c := (c0 - (ji39).toNat)) Tryz.underlying30 Tryz.underlying5 Tryz.underlying9 (Kd.C_below HR165.out (below_set (g := gb164) (j := 3) (v := v3_) (below_set (g := gb164) (j := 2) (v := v2_) (below_set (g := gb164) (j := 1) (v := v1_) (below_set (g := gb164) (j := 0) (v := v0_) HB.out GE164.out) GE164.out) GE164.out) GE164.out)); have hcx49s := hcx49; (try simp only [List.length_drop, List.length_take] at hcx49s); (try rw [Nat.min_eq_left (show (((rd_T100 x5_2 x73_2).f3) : Int).toNat ≤ l0.length by have hz_ := of_eq_true (show (((rd_T100 x5_2 x73_2).f3) ≤ (l0.length : Int)) = True by assumption); omega)] at hcx49s)) | ((with_reducible refine gate_callee (f := 90) rfl ?_); refine goesL_ (some 92) rfl rfl Tryz.func90 (by kernel_rfl) rfl #[.string (strOfNums ((l0.take (((rd_T100 x5_2 x73_2).f3) : Int).toNat).drop ((ji39) : Int).toNat))] rfl (by (try simp only [List.map_toArray, List.map_cons, List.map_nil]); first | done | (simp only [hji39]; rfl) | rfl | (simp only [List.length_drop, List.length_take]; rfl)) ?_; (with_reducible refine (head_Value.calls (strOfNums ((l0.take (((rd_T100 x5_2 x73_2).f3) : Int).toNat).drop ((ji39) : Int).toNat)) t166 _ ?side1 A43.out).mono ?_); (case side1 => exact Gl.below HG.out (by repeat (first | (with_reducible first | exact HB.out | apply below_alloc | apply pw_below_drewN | apply below_drew1 | refine below_set ?_ GE164.out) | exact HB.out))); rintro e w50 ⟨rfl, hb⟩; refine ⟨_, rfl, ?_⟩; have n0_ := Aside0.mk (Kd.R_below (by (with_reducible repeat (first | apply Kd.R_alloc | apply Kd.R_drewN | apply Kd.R_drew)); exact (Kd.R_mono (Kd.R_far (p := ⟨gb164, 3, none⟩) (Kd.R_far (p := ⟨gb164, 2, none⟩) (Kd.R_far (p := ⟨gb164, 1, none⟩) (Kd.R_far (p := ⟨gb164, 0, none⟩) (Kd.R_mono HO_5.out (fun k_ hk => (⟨hk, hk.2⟩ : _ ∧ k_ ≠ gb164))) (fun _ hk => hk.2) (.string ((rd_T100 x5_2 x73_2).f0))) (fun _ hk => hk.2) (.string ((rd_T100 x5_2 x73_2).f1))) (fun _ hk => hk.2) (.int .i64 ((rd_T100 x5_2 x73_2).f2))) (fun _ hk => hk.2) (.int .i64 ((rd_T100 x5_2 x73_2).f3))) (fun _ h_ => h_.1))) hb); have n1_ := Aside0.mk (blk_below (g := gb164) (o := .cells #[.string ((rd_T100 x5_2 x73_2).f0), .string ((rd_T100 x5_2 x73_2).f1), .int .i64 ((rd_T100 x5_2 x73_2).f2), .int .i64 ((rd_T100 x5_2 x73_2).f3)] 100 (0, 0)) (by (with_reducible repeat (first | refine blk_drewN ?_ _ | refine blk_drew ?_ | refine blk_alloc ?_ _)); (first | refine blk_put (cs := #[.string ((rd_T100 x5_2 x73_2).f0), .string ((rd_T100 x5_2 x73_2).f1), .int .i64 ((rd_T100 x5_2 x73_2).f2), .int .i64 0]) ?_ 3 _ rfl | refine blk_put (cs := #[.string ((rd_T100 x5_2 x73_2).f0), .string ((rd_T100 x5_2 x73_2).f1), .int .i64 ((rd_T100 x5_2 x73_2).f2), .int .i64 0]) ?_ 3 _ (by first | rfl | (simp; done))); (with_reducible repeat (first | refine blk_drewN ?_ _ | refine blk_drew ?_ | refine blk_alloc ?_ _)); (first | refine blk_put (cs := #[.string ((rd_T100 x5_2 x73_2).f0), .string ((rd_T100 x5_2 x73_2).f1), .int .i64 0, .int .i64 0]) ?_ 2 _ rfl | refine blk_put (cs := #[.string ((rd_T100 x5_2 x73_2).f0), .string ((rd_T100 x5_2 x73_2).f1), .int .i64 0, .int .i64 0]) ?_ 2 _ (by first | rfl | (simp; done))); (with_reducible repeat (first | refine blk_drewN ?_ _ | refine blk_drew ?_ | refine blk_alloc ?_ _)); (first | refine blk_put (cs := #[.string ((rd_T100 x5_2 x73_2).f0), .string (⟨#[]⟩ : ByteArray), .int .i64 0, .int .i64 0]) ?_ 1 _ rfl | refine blk_put (cs := #[.string ((rd_T100 x5_2 x73_2).f0), .string (⟨#[]⟩ : ByteArray), .int .i64 0, .int .i64 0]) ?_ 1 _ (by first | rfl | (simp; done))); (with_reducible repeat (first | refine blk_drewN ?_ _ | refine blk_drew ?_ | refine blk_alloc ?_ _)); (first | refine blk_put (cs := #[.string (⟨#[]⟩ : ByteArray), .string (⟨#[]⟩ : ByteArray), .int .i64 0, .int .i64 0]) ?_ 0 _ rfl | refine blk_put (cs := #[.string (⟨#[]⟩ : ByteArray), .string (⟨#[]⟩ : ByteArray), .int .i64 0, .int .i64 0]) ?_ 0 _ (by first | rfl | (simp; done))); (with_reducible repeat (first | refine blk_drewN ?_ _ | refine blk_drew ?_ | refine blk_alloc ?_ _)); exact BK164.out) hb); have n2_ := Aside0.mk (below_step (by repeat (first | (with_reducible first | exact HB.out | apply below_alloc | apply pw_below_drewN | apply below_drew1 | refine below_set ?_ GE164.out) | exact HB.out)) hb); clear HO_5; clear BK164; clear HB; have HO_5 := n0_; have BK164 := n1_; have HB := n2_; clear n0_ n1_ n2_; (try clear hb); (try clear hb2); (try clear hk); (try clear hi); have p44 : 0 ≤ (x73_2 : Int) := of_decide_eq_true (by first | (with_reducible assumption) | assumption); have q44 : (x73_2 : Int) < ((x5_2.length : Int) : Int) := of_decide_eq_true (by first | (with_reducible assumption) | assumption); obtain ⟨go44, co44, eo44, gb44, gl44, cl44, HG44⟩ := Kd.R_form HO_5.out (by omega); (first | cases eo44 | (injection eo44 with ea_ en_ ec_; (first | subst ea_ | (injection ea_ with ea_; subst ea_)); subst ec_; clear en_)); have GB44 := Aside0.mk gb44; have GG44 := Aside0.mk HG44; clear gb44 gl44 HG44; (first | simp only [add_plain] at hx163_0 | skip); (first | simp only [add_plain] at hx163_1 | skip); (first | simp only [add_plain] at hx163_2 | skip); (first | simp only [add_plain] at hx163_3 | skip); obtain ⟨ce44, hcl44, hM44, hcc44, hfr44⟩ := Kd.R_elem HO_5.out z100 (x73_2 : Int) p44 q44; obtain rfl := k100_openM hM44; have hx44_0 : w50.cell? ⟨go44, (x73_2 : Int).toNat * 4, none⟩ = some (.string ((rd_T100 x5_2 x73_2).f0)) := hcc44 0 _ rfl; have hx44_1 : w50.cell? ⟨go44, (x73_2 : Int).toNat * 4 + 1, none⟩ = some (.string ((rd_T100 x5_2 x73_2).f1)) := hcc44 1 _ rfl; have hx44_2 : w50.cell? ⟨go44, (x73_2 : Int).toNat * 4 + 2, none⟩ = some (.int .i64 ((rd_T100 x5_2 x73_2).f2)) := hcc44 2 _ rfl; have hx44_3 : w50.cell? ⟨go44, (x73_2 : Int).toNat * 4 + 3, none⟩ = some (.int .i64 ((rd_T100 x5_2 x73_2).f3)) := hcc44 3 _ rfl; have hf44_0 : w50.frozen? ⟨go44, (x73_2 : Int).toNat * 4, none⟩ = false := hfr44 0; have hf44_1 : w50.frozen? ⟨go44, (x73_2 : Int).toNat * 4 + 1, none⟩ = false := hfr44 1; have hf44_2 : w50.frozen? ⟨go44, (x73_2 : Int).toNat * 4 + 2, none⟩ = false := hfr44 2; have hf44_3 : w50.frozen? ⟨go44, (x73_2 : Int).toNat * 4 + 3, none⟩ = false := hfr44 3; clear hcl44 hcc44 hfr44 hM44; replace p44 := eq_true p44; replace q44 := eq_true q44; have n_ := Aside0.mk (Kd.R_mono (ok' := (fun k_ => k_ ≠ gb164)) HO_5.out (fun k_ hk => hk.2)); clear HO_5; have HO_5 := n_; clear n_; have HX51 := Aside0.mk (show Kd.R k100 100 w50 w.heap.size (fun k_ => k_ ≠ gb164) (.slice (some ⟨go44, 0, none⟩) x5_2.length co35) x5_2 from (by (with_reducible repeat (first | apply Kd.R_alloc | apply Kd.R_drewN | apply Kd.R_drew)); exact HO_5.out)); obtain ⟨ce51, hcl51, hM51, hcc51, hfr51⟩ := Kd.R_elem HX51.out z100 (x73_2 : Int) (of_decide_eq_true (by first | (with_reducible assumption) | assumption)) (by have h_ : (x73_2 : Int) < ((x5_2.length : Int) : Int) := of_decide_eq_true (by first | (with_reducible assumption) | assumption); first | exact h_ | (have e_ := (Kd.R_reads' HO_5.out).1; omega) | simpa using h_); obtain rfl := k100_openM hM51; have HP51 := Kd.R_seg HX51.out (x73_2 : Int) (of_decide_eq_true (by first | (with_reducible assumption) | assumption)) (by have h_ : (x73_2 : Int) < ((x5_2.length : Int) : Int) := of_decide_eq_true (by first | (with_reducible assumption) | assumption); first | exact h_ | (have e_ := (Kd.R_reads' HO_5.out).1; omega) | simpa using h_) (seg := [.string t166]) (j := 1) hcl51 hcc51 (show 2 ≤ 4 from by decide) (x' := (⟨(rd_T100 x5_2 x73_2).f0, t166, (rd_T100 x5_2 x73_2).f2, (rd_T100 x5_2 x73_2).f3⟩ : S100)) (k100_mkM _ _ _ (⟨(rd_T100 x5_2 x73_2).f0, t166, (rd_T100 x5_2 x73_2).f2, (rd_T100 x5_2 x73_2).f3⟩ : S100) ) (fun _ hk => hk); have hx51_1 := hcc51 1 _ rfl; (try simp only [show (k100).sz = 4 from rfl, Nat.mul_one, Nat.add_zero] at hx51_1); have hf51_1 := hfr51 1; (try simp only [show (k100).sz = 4 from rfl, Nat.mul_one, Nat.add_zero] at hf51_1); clear hcl51 hcc51 hfr51 hM51) | ((with_reducible refine gate_store (t := 9) (p := 94) rfl ?_); refine store_event (t := 9) (p := 94) (v := ?vo_w52) (w1 := (w50.setCell ⟨go44, (x73_2 : Int).toNat * 4 + 1, none⟩ (.string t166))) ?hg ?ho ?hn ?hr ?_; (case ho => rfl); (case hg => rfl); (case hn => rfl); (case hr => first | (go_simp; done) | (go_simp; rfl)); intro w52 hw; have hg : w50.grownBy w52 (some go44) := (by rw [hw]; exact HP51.2); have hp_ : Kd.R k100 100 w52 w.heap.size (fun k_ => k_ ≠ gb164) (.slice (some ⟨go44, 0, none⟩) x5_2.length co35) y167 := (by rw [hw, Ny167.out]; exact HP51.1); clear HP51; have n0_ := Aside0.mk (hp_); have n1_ := Aside0.mk (blk_grown (g := gb164) (o := .cells #[.string ((rd_T100 x5_2 x73_2).f0), .string ((rd_T100 x5_2 x73_2).f1), .int .i64 ((rd_T100 x5_2 x73_2).f2), .int .i64 ((rd_T100 x5_2 x73_2).f3)] 100 (0, 0)) (by (with_reducible repeat (first | refine blk_drewN ?_ _ | refine blk_drew ?_ | refine blk_alloc ?_ _)); exact BK164.out) hg (Kd.R_away HO_5.out (fun _ hk => hk))); have n2_ := Aside0.mk ((by rw [hw]; exact below_set (HB.out) GB44.out : Below w.heap.size w w52)); clear HO_5; clear BK164; clear HB; have HO_5 := n0_; have BK164 := n1_; have HB := n2_; clear n0_ n1_ n2_; clear hg hw hp_))
              (try simp only [← hl5_2])
              go_roundg k2
              case measure => have := HK1.out; have := HK2.out; omega
              case rel => exact ⟨(y167), (wrap64 (x73_2 + 1)), (by first | rfl | (simp; done) | (simp [*]; done) | (simp [bne_nil8, beq_nil8]; done)), H', ⟨by have := HK1.out; have := HK2.out; omega⟩, ⟨by (try simp only [hl5_2]); (with_reducible repeat (first | apply Kd.R_alloc | apply Kd.R_drewN | apply Kd.R_drew)); exact Kd.R_mono HO_5.out (fun _ hk => trivial)⟩, ⟨by repeat (first | (with_reducible first | exact HB.out | apply below_alloc | apply pw_below_drewN | apply below_drew1 | refine below_set ?_ GE164.out) | exact HB.out)⟩⟩
             ·rw [if_neg c42] at H
              exact absurd H (by simp)
            ·rw [if_neg c41] at H
             exact absurd H (by simp)
           ·rw [if_neg c40] at H
            exact absurd H (by simp)
          ·rw [if_neg c38] at H
           exact absurd H (by simp)
         ·rw [if_neg c37] at H
          exact absurd H (by simp)
        ·rw [if_neg c36] at H
         have c36b0 : decide (x73_2 < (x5_1.length : Int)) = false := decide_eq_false c36
         have c36b0l := c36b0
         (try simp only [hl5_2] at c36b0l)
         clear c36
         obtain rfl := Option.some.inj H
         go_wp2
         go_ret
         exact ⟨_, by first | rfl | (simp [errW_none, errW_some] <;> rfl) | (simp [*, errW_none, errW_some] <;> rfl), by (with_reducible repeat (first | apply Kd.R_alloc | apply Kd.R_drewN | apply Kd.R_drew)); exact HO_5.out, by repeat (first | (with_reducible first | exact HB.out | apply below_alloc | apply pw_below_drewN | apply below_drew1) | exact HB.out)⟩
  ·rw [if_neg c4] at H
   exact absurd H (by simp)
 ·rw [if_neg c3] at H
  exact absurd H (by simp)

/-! ### head_Pick: function 31 -/
def head_Pick.l0 : Nat → List Int → List ByteArray → Bool → List Int → List (S100) → Int → Int → Option (List Int)
 | 0, _, _, _, _, _, _, _ => none
 | k + 1, x0, x1, x2, x7, x11, x12, x13 => if x13 < x12 then (if 0 ≤ x13 then (if x13 < (x11.length : Int) then ((slices_ContainsFunc_string_string.f x1 ((rd_T100 x11 x13).f0)).bind fun t173 => (if (t173 != x2) = true then (if 0 ≤ ((rd_T100 x11 x13).f2) then (if ((rd_T100 x11 x13).f2) ≤ ((rd_T100 x11 x13).f3) then (if ((rd_T100 x11 x13).f3) ≤ (x0.length : Int) then (if x7.length + ((x0.take (((rd_T100 x11 x13).f3) : Int).toNat).drop (((rd_T100 x11 x13).f2) : Int).toNat).length < 140737488355328 then (head_Pick.l0 k x0 x1 x2 (x7 ++ ((x0.take (((rd_T100 x11 x13).f3) : Int).toNat).drop (((rd_T100 x11 x13).f2) : Int).toNat)) x11 x12 (wrap64 (x13 + 1))) else (none)) else (none)) else (none)) else (none)) else (head_Pick.l0 k x0 x1 x2 x7 x11 x12 (wrap64 (x13 + 1))))) else (none)) else (none)) else ((bytes_Clone.f x7).bind fun t178 => (if t178.length + 2 < 140737488355328 then (some (t178 ++ bytesOf (⟨#[13, 10]⟩ : ByteArray))) else (none)))
def head_Pick.f (k : Nat) (l0 : List Int) (l1 : List ByteArray) (a2 : Bool) : Option (List Int) := (head_Fields.f k l0).bind fun t168 => (head_Pick.l0 k l0 l1 a2 ([] : List Int) t168 (t168.length : Int) 0)
theorem head_Pick.mono_l : ∀ k, (∀ y0 y1 y2 y3 y4 y5 y6, LeO (head_Pick.l0 k y0 y1 y2 y3 y4 y5 y6) (head_Pick.l0 (k + 1) y0 y1 y2 y3 y4 y5 y6))
 | 0 => fun _ _ _ _ _ _ _ r h => by simp [head_Pick.l0] at h
 | k + 1 => by
  have ih0 := head_Pick.mono_l k
  ·intro y0 y1 y2 y3 y4 y5 y6
   unfold head_Pick.l0
   repeat' first
   | (with_reducible exact ih0 _ _ _ _ _ _ _)
   | (with_reducible exact head_Fields.mono _ _)
   | (with_reducible exact LeO.refl _)
   | (with_reducible exact LeO.none _)
   | (with_reducible refine LeO.ite ?_ ?_)
   | (with_reducible refine LeO.bind ?_ (fun _ => ?_))
   | exact ih0 _ _ _ _ _ _ _
   | exact head_Fields.mono _ _
   | exact LeO.none _
   | refine LeO.ite ?_ ?_
   | refine LeO.bind ?_ (fun _ => ?_)
theorem head_Pick.mono : ∀ a0 a1 a2 k, LeO (head_Pick.f k a0 a1 a2) (head_Pick.f (k + 1) a0 a1 a2) := by
 intro a0 a1 a2 k
 have ih0 := head_Pick.mono_l k
 unfold head_Pick.f
 repeat' first
   | (with_reducible exact ih0 _ _ _ _ _ _ _)
   | (with_reducible exact head_Fields.mono _ _)
   | (with_reducible exact LeO.refl _)
   | (with_reducible exact LeO.none _)
   | (with_reducible refine LeO.ite ?_ ?_)
   | (with_reducible refine LeO.bind ?_ (fun _ => ?_))
   | exact ih0 _ _ _ _ _ _ _
   | exact head_Fields.mono _ _
   | exact LeO.none _
   | refine LeO.ite ?_ ?_
   | refine LeO.bind ?_ (fun _ => ?_)
set_option maxHeartbeats 8000000 in
set_option maxRecDepth 100000 in
theorem head_Pick.calls (k : Nat) (A0 : Option Addr) (c0 : Nat) (l0 : List Int) (A1 : Option Addr) (c1 : Nat) (l1 : List ByteArray) (a2 : Bool) (r : List Int) (w : World) (hr0 : Kd.C (Kd.int .u8) w A0 l0.length l0) (hc0 : l0.length ≤ c0) (hr1 : Kd.C Kd.string w A1 l1.length l1) (hc1 : l1.length ≤ c1) (hG : Gl w) (h : head_Pick.f k l0 l1 a2 = some r) :
  Calls Tryz.prog 31 #[.slice A0 l0.length c0, .slice A1 l1.length c1, .bool a2] w fun e w' => ∃ v0_ : Value, e = .returned (v0_) ∧ Kd.R (Kd.int .u8) 5 w' w.heap.size (fun _ => True) v0_ r ∧ Below w.heap.size w w' := by
 have hu100 := Tryz.underlying100
 have HR0 := Aside0.mk hr0
 have HC0 := Aside0.mk hc0
 clear hr0 hc0
 have HR1 := Aside0.mk hr1
 have HC1 := Aside0.mk hc1
 clear hr1 hc1
 have HB := Aside0.mk (Below.refl w.heap.size w)
 have HG := Aside0.mk hG
 clear hG
 have H : ((head_Fields.f k l0).bind fun t168 => (head_Pick.l0 k l0 l1 a2 ([] : List Int) t168 (t168.length : Int) 0)) = some r := h
 clear h
 replace H := Option.bind_eq_some_iff.mp H
 obtain ⟨t168, A40, H⟩ := H
 replace H : (head_Pick.l0 k l0 l1 a2 ([] : List Int) t168 (t168.length : Int) 0) = some r := H
 have A4 := Aside0.mk A40
 clear A40
 have H' := Aside0.mk H
 clear H
 go_enter Tryz.func31, Tryz.ntmps31
 go_wp2_with (first | ((with_reducible refine gate_callee (f := 61) rfl ?_); refine goesL_ (some 11) rfl rfl Tryz.func61 (by kernel_rfl) rfl #[.slice A0 l0.length c0] rfl (by (try simp only [List.map_toArray, List.map_cons, List.map_nil]); first | done | rfl | (simp only [List.length_drop, List.length_take]; rfl)) ?_; (with_reducible refine (head_Fields.calls k _ _ l0 t168 _ ?side1 ?side2 ?side3 A4.out).mono ?_); (case side1 => repeat (first | exact HR0.out | (with_reducible refine Kd.C_alloc ?_ _) | (with_reducible refine Kd.C_drewN ?_ _) | (with_reducible refine Kd.C_drew ?_))); (case side2 => exact HC0.out); (case side3 => exact Gl.below HG.out (by repeat (first | (with_reducible first | exact HB.out | apply below_alloc | apply pw_below_drewN | apply below_drew1) | exact HB.out))); rintro e w5 ⟨v169, rfl, ho0, hb⟩; refine ⟨_, rfl, ?_⟩; have n0_ := Aside0.mk (Kd.R_lower ho0 (below_size (by repeat (first | (with_reducible first | exact HB.out | apply below_alloc | apply pw_below_drewN | apply below_drew1) | exact HB.out)))); have n1_ := Aside0.mk (below_step (by repeat (first | (with_reducible first | exact HB.out | apply below_alloc | apply pw_below_drewN | apply below_drew1) | exact HB.out)) hb); clear HB; have HO170 := n0_; have HB := n1_; clear n0_ n1_; (try clear hb); (try clear hb2); (try clear hk); (try clear hi); (try clear ho0); obtain ⟨Ao6, co6, eo6⟩ := Kd.R_slice HO170.out; subst eo6))
 go_loopg [7, 13] k (fun kq v7 v13 w' => ∃ (x7_1 : List Int) (x13_1 : Int), v13 = .int .i64 x13_1 ∧ Aside0 (head_Pick.l0 kq l0 l1 a2 x7_1 t168 (t168.length : Int) x13_1 = some r) ∧ Aside0 (kq ≤ k) ∧ Aside0 (Kd.R (Kd.int .u8) 5 w' w.heap.size (fun _ => True) v7 x7_1) ∧ Aside0 (Kd.R k100 100 w' w.heap.size (fun _ => True) (.slice Ao6 t168.length co6) t168) ∧ Aside0 (Below w.heap.size w w'))
 case atStart => exact ⟨(([] : List Int)), (0), (by first | rfl | (simp; done) | (simp [*]; done) | (simp [bne_nil8, beq_nil8]; done)), H', ⟨Nat.le_refl _⟩, ⟨by first | exact Kd.R_nil _ _ _ _ _ | exact Kd.N_nil _ _ _ _ _ | exact Kd.V_nil _ _ _ _ _ | exact Kd.Q_nil _ _ _ _ _ | exact Kd.S_nil _ _ _ _ _⟩, ⟨by (with_reducible repeat (first | apply Kd.R_alloc | apply Kd.R_drewN | apply Kd.R_drew)); exact HO170.out⟩, ⟨by repeat (first | (with_reducible first | exact HB.out | apply below_alloc | apply pw_below_drewN | apply below_drew1) | exact HB.out)⟩⟩
 case round =>
  clear H'
  try clear c1
  try clear p2
  try clear c3
  try clear c6
  obtain ⟨x7_1, x13_1, rfl, HA, HK1, HO_7, HO_11, HB⟩ := hrel
  cases gk with
  | zero => exact absurd HA.out (by simp [head_Pick.l0])
  | succ k1 =>
   have H := HA.out
   clear HA
   simp only [head_Pick.l0] at H
   by_cases c7 : x13_1 < (t168.length : Int)
   ·rw [if_pos c7] at H
    have c7b0 : decide (x13_1 < (t168.length : Int)) = true := decide_eq_true c7
    clear c7
    by_cases c8 : 0 ≤ x13_1
    ·rw [if_pos c8] at H
     have c8b0 : decide (0 ≤ x13_1) = true := decide_eq_true c8
     clear c8
     by_cases c9 : x13_1 < (t168.length : Int)
     ·rw [if_pos c9] at H
      have c9b0 : decide (x13_1 < (t168.length : Int)) = true := decide_eq_true c9
      clear c9
      replace H := Option.bind_eq_some_iff.mp H
      obtain ⟨t173, A100, H⟩ := H
      replace H : (if (t173 != a2) = true then (if 0 ≤ ((rd_T100 t168 x13_1).f2) then (if ((rd_T100 t168 x13_1).f2) ≤ ((rd_T100 t168 x13_1).f3) then (if ((rd_T100 t168 x13_1).f3) ≤ (l0.length : Int) then (if x7_1.length + ((l0.take (((rd_T100 t168 x13_1).f3) : Int).toNat).drop (((rd_T100 t168 x13_1).f2) : Int).toNat).length < 140737488355328 then (head_Pick.l0 k1 l0 l1 a2 (x7_1 ++ ((l0.take (((rd_T100 t168 x13_1).f3) : Int).toNat).drop (((rd_T100 t168 x13_1).f2) : Int).toNat)) t168 (t168.length : Int) (wrap64 (x13_1 + 1))) else (none)) else (none)) else (none)) else (none)) else (head_Pick.l0 k1 l0 l1 a2 x7_1 t168 (t168.length : Int) (wrap64 (x13_1 + 1)))) = some r := H
      have A10 := Aside0.mk A100
      clear A100
      by_cases c11 : (t173 != a2) = true
      ·rw [if_pos c11] at H
       have c11b0 : (t173 != a2) = true := c11
       (try (have c11b1 : decide (t173 = a2) = false := by simpa using c11))
       (try (have c11b2 : (t173 == a2) = false := by simpa using c11))
       (try (have c11b3 : ¬ (t173 = a2) := by simpa using c11))
       clear c11
       by_cases c12 : 0 ≤ ((rd_T100 t168 x13_1).f2)
       ·rw [if_pos c12] at H
        have c12b0 := eq_true c12
        have c12b1 : decide (0 ≤ ((rd_T100 t168 x13_1).f2)) = true := decide_eq_true c12
        clear c12
        by_cases c13 : ((rd_T100 t168 x13_1).f2) ≤ ((rd_T100 t168 x13_1).f3)
        ·rw [if_pos c13] at H
         have c13b0 := eq_true c13
         have c13b1 : decide (((rd_T100 t168 x13_1).f2) ≤ ((rd_T100 t168 x13_1).f3)) = true := decide_eq_true c13
         clear c13
         by_cases c14 : ((rd_T100 t168 x13_1).f3) ≤ (l0.length : Int)
         ·rw [if_pos c14] at H
          have c14b0 := eq_true c14
          have c14b1 : decide (((rd_T100 t168 x13_1).f3) ≤ (l0.length : Int)) = true := decide_eq_true c14
          clear c14
          by_cases c15 : x7_1.length + ((l0.take (((rd_T100 t168 x13_1).f3) : Int).toNat).drop (((rd_T100 t168 x13_1).f2) : Int).toNat).length < 140737488355328
          ·rw [if_pos c15] at H
           have LMc15 := Aside0.mk c15
           clear c15
           obtain ⟨y175, hy175⟩ : ∃ y_ : List Int, y_ = (x7_1 ++ ((l0.take (((rd_T100 t168 x13_1).f3) : Int).toNat).drop (((rd_T100 t168 x13_1).f2) : Int).toNat)) := ⟨_, rfl⟩
           replace H : (head_Pick.l0 k1 l0 l1 a2 y175 t168 (t168.length : Int) (wrap64 (x13_1 + 1))) = some r := by first | (rw [hy175]; with_reducible exact H) | (have H2_ := (Option.bind_some _ _).symm.trans H; rw [hy175]; with_reducible exact H2_) | (have H2_ := (Option.bind_some _ _).symm.trans H; with_reducible exact H2_) | with_reducible exact H | (rw [hy175]; exact H) | exact H
           have Ny175 := Aside0.mk hy175
           clear hy175
           have H' := Aside0.mk H
           clear H
           have p171 : 0 ≤ (x13_1 : Int) := of_decide_eq_true (by first | (with_reducible assumption) | assumption)
           have q171 : x13_1 < (t168.length : Int) := of_decide_eq_true (by first | (with_reducible assumption) | assumption)
           obtain ⟨ad171, e171, hx171_0, hx171_1, hx171_2, hx171_3⟩ := at_T100 (Kd.R_reads' HO_11.out).2.2 x13_1 p171 q171
           cases e171
           replace p171 := eq_true p171
           replace q171 := eq_true q171
           go_wp2_with (first | ((with_reducible refine gate_dst (N := 9) rfl ?_); refine box_event ?hg (N := 9) ?hd (cs := #[.string (⟨#[]⟩ : ByteArray), .string (⟨#[]⟩ : ByteArray), .int .i64 0, .int .i64 0]) (t := 100) ?hr ?_; (case hd => rfl); (case hg => rfl); (case hr => first | (go_simp; done) | (go_simp; rfl)); intro gb172 hg w16 hbox hb; have n0_ := Aside0.mk (Kd.R_below (by (with_reducible repeat (first | apply Kd.R_alloc | apply Kd.R_drewN | apply Kd.R_drew)); exact HO_7.out) hb); have n1_ := Aside0.mk (Kd.R_below (Kd.R_elderB (by (with_reducible repeat (first | apply Kd.R_alloc | apply Kd.R_drewN | apply Kd.R_drew)); exact HO_11.out) gb172 (Nat.le_of_eq hg.symm)) hb); have n2_ := Aside0.mk (below_step (by repeat (first | (with_reducible first | exact HB.out | apply below_alloc | apply pw_below_drewN | apply below_drew1) | exact HB.out)) hb); have n3_ := Aside0.mk (hbox); have n4_ := Aside0.mk ((by rw [hg]; exact (below_size (by repeat (first | (with_reducible first | exact HB.out | apply below_alloc | apply pw_below_drewN | apply below_drew1) | exact HB.out))) : w.heap.size ≤ gb172)); have n5_ := Aside0.mk ((by rw [hg]; exact (below_size (by repeat (first | (with_reducible first | exact HB.out | apply below_alloc | apply pw_below_drewN | apply below_drew1) | exact HB.out))) : w.heap.size ≤ gb172)); clear HO_7; clear HO_11; clear HB; have HO_7 := n0_; have HO_11 := n1_; have HB := n2_; have BK172 := n3_; have GW172 := n4_; have GE172 := n5_; clear n0_ n1_ n2_ n3_ n4_ n5_; clear hb hbox hg; have hcz17_0 : w16.cell? ⟨gb172, 0, none⟩ = some (.string (⟨#[]⟩ : ByteArray)) := (blk_cell BK172.out 0).trans rfl; have hcz17_1 : w16.cell? ⟨gb172, 1, none⟩ = some (.string (⟨#[]⟩ : ByteArray)) := (blk_cell BK172.out 1).trans rfl; have hcz17_2 : w16.cell? ⟨gb172, 2, none⟩ = some (.int .i64 0) := (blk_cell BK172.out 2).trans rfl; have hcz17_3 : w16.cell? ⟨gb172, 3, none⟩ = some (.int .i64 0) := (blk_cell BK172.out 3).trans rfl; have hfz17_0 := blk_frozen BK172.out 0; have hfz17_1 := blk_frozen BK172.out 1; have hfz17_2 := blk_frozen BK172.out 2; have hfz17_3 := blk_frozen BK172.out 3) | ((with_reducible refine gate_callee (f := 56) rfl ?_); refine goesL_ (some 19) rfl rfl Tryz.func56 (by kernel_rfl) rfl #[.slice A1 l1.length c1, .func (.func 62) #[] #[.pointer (some ⟨gb172, 0, none⟩)]] rfl (by (try simp only [List.map_toArray, List.map_cons, List.map_nil]); first | done | rfl | (simp only [List.length_drop, List.length_take]; rfl)) ?_; (with_reducible refine (slices_ContainsFunc_string_string.calls _ _ l1 gb172 ((rd_T100 t168 x13_1).f0) (.string ((rd_T100 t168 x13_1).f1)) (.int .i64 ((rd_T100 t168 x13_1).f2)) (.int .i64 ((rd_T100 t168 x13_1).f3)) t173 _ ?side1 ?side2 ?side3 A10.out).mono ?_); (case side1 => exact Kd.C_below HR1.out (by repeat (first | (with_reducible first | exact HB.out | apply below_alloc | apply pw_below_drewN | apply below_drew1 | refine below_set ?_ GE172.out) | exact HB.out))); (case side2 => exact HC1.out); (case side3 => (with_reducible repeat (first | refine blk_drewN ?_ _ | refine blk_drew ?_ | refine blk_alloc ?_ _)); (first | refine blk_put (cs := #[.string ((rd_T100 t168 x13_1).f0), .string ((rd_T100 t168 x13_1).f1), .int .i64 ((rd_T100 t168 x13_1).f2), .int .i64 0]) ?_ 3 _ rfl | refine blk_put (cs := #[.string ((rd_T100 t168 x13_1).f0), .string ((rd_T100 t168 x13_1).f1), .int .i64 ((rd_T100 t168 x13_1).f2), .int .i64 0]) ?_ 3 _ (by first | rfl | (simp; done))); (with_reducible repeat (first | refine blk_drewN ?_ _ | refine blk_drew ?_ | refine blk_alloc ?_ _)); (first | refine blk_put (cs := #[.string ((rd_T100 t168 x13_1).f0), .string ((rd_T100 t168 x13_1).f1), .int .i64 0, .int .i64 0]) ?_ 2 _ rfl | refine blk_put (cs := #[.string ((rd_T100 t168 x13_1).f0), .string ((rd_T100 t168 x13_1).f1), .int .i64 0, .int .i64 0]) ?_ 2 _ (by first | rfl | (simp; done))); (with_reducible repeat (first | refine blk_drewN ?_ _ | refine blk_drew ?_ | refine blk_alloc ?_ _)); (first | refine blk_put (cs := #[.string ((rd_T100 t168 x13_1).f0), .string (⟨#[]⟩ : ByteArray), .int .i64 0, .int .i64 0]) ?_ 1 _ rfl | refine blk_put (cs := #[.string ((rd_T100 t168 x13_1).f0), .string (⟨#[]⟩ : ByteArray), .int .i64 0, .int .i64 0]) ?_ 1 _ (by first | rfl | (simp; done))); (with_reducible repeat (first | refine blk_drewN ?_ _ | refine blk_drew ?_ | refine blk_alloc ?_ _)); (first | refine blk_put (cs := #[.string (⟨#[]⟩ : ByteArray), .string (⟨#[]⟩ : ByteArray), .int .i64 0, .int .i64 0]) ?_ 0 _ rfl | refine blk_put (cs := #[.string (⟨#[]⟩ : ByteArray), .string (⟨#[]⟩ : ByteArray), .int .i64 0, .int .i64 0]) ?_ 0 _ (by first | rfl | (simp; done))); (with_reducible repeat (first | refine blk_drewN ?_ _ | refine blk_drew ?_ | refine blk_alloc ?_ _)); exact BK172.out); rintro e w18 ⟨rfl, hb⟩; refine ⟨_, rfl, ?_⟩; have n0_ := Aside0.mk (Kd.R_below (by (with_reducible repeat (first | apply Kd.R_alloc | apply Kd.R_drewN | apply Kd.R_drew)); exact (Kd.R_mono (Kd.R_far (p := ⟨gb172, 3, none⟩) (Kd.R_far (p := ⟨gb172, 2, none⟩) (Kd.R_far (p := ⟨gb172, 1, none⟩) (Kd.R_far (p := ⟨gb172, 0, none⟩) (Kd.R_types HO_7.out BK172.out (by decide)) (fun _ hk => hk.2) (.string ((rd_T100 t168 x13_1).f0))) (fun _ hk => hk.2) (.string ((rd_T100 t168 x13_1).f1))) (fun _ hk => hk.2) (.int .i64 ((rd_T100 t168 x13_1).f2))) (fun _ hk => hk.2) (.int .i64 ((rd_T100 t168 x13_1).f3))) (fun _ h_ => h_.1))) hb); have n1_ := Aside0.mk (Kd.R_below (by (with_reducible repeat (first | apply Kd.R_alloc | apply Kd.R_drewN | apply Kd.R_drew)); exact (Kd.R_mono (Kd.R_far (p := ⟨gb172, 3, none⟩) (Kd.R_far (p := ⟨gb172, 2, none⟩) (Kd.R_far (p := ⟨gb172, 1, none⟩) (Kd.R_far (p := ⟨gb172, 0, none⟩) (Kd.R_mono HO_11.out (fun k_ hk => (⟨hk, hk.2⟩ : _ ∧ k_ ≠ gb172))) (fun _ hk => hk.2) (.string ((rd_T100 t168 x13_1).f0))) (fun _ hk => hk.2) (.string ((rd_T100 t168 x13_1).f1))) (fun _ hk => hk.2) (.int .i64 ((rd_T100 t168 x13_1).f2))) (fun _ hk => hk.2) (.int .i64 ((rd_T100 t168 x13_1).f3))) (fun _ h_ => h_.1))) hb); have n2_ := Aside0.mk (blk_below (g := gb172) (o := .cells #[.string ((rd_T100 t168 x13_1).f0), .string ((rd_T100 t168 x13_1).f1), .int .i64 ((rd_T100 t168 x13_1).f2), .int .i64 ((rd_T100 t168 x13_1).f3)] 100 (0, 0)) (by (with_reducible repeat (first | refine blk_drewN ?_ _ | refine blk_drew ?_ | refine blk_alloc ?_ _)); (first | refine blk_put (cs := #[.string ((rd_T100 t168 x13_1).f0), .string ((rd_T100 t168 x13_1).f1), .int .i64 ((rd_T100 t168 x13_1).f2), .int .i64 0]) ?_ 3 _ rfl | refine blk_put (cs := #[.string ((rd_T100 t168 x13_1).f0), .string ((rd_T100 t168 x13_1).f1), .int .i64 ((rd_T100 t168 x13_1).f2), .int .i64 0]) ?_ 3 _ (by first | rfl | (simp; done))); (with_reducible repeat (first | refine blk_drewN ?_ _ | refine blk_drew ?_ | refine blk_alloc ?_ _)); (first | refine blk_put (cs := #[.string ((rd_T100 t168 x13_1).f0), .string ((rd_T100 t168 x13_1).f1), .int .i64 0, .int .i64 0]) ?_ 2 _ rfl | refine blk_put (cs := #[.string ((rd_T100 t168 x13_1).f0), .string ((rd_T100 t168 x13_1).f1), .int .i64 0, .int .i64 0]) ?_ 2 _ (by first | rfl | (simp; done))); (with_reducible repeat (first | refine blk_drewN ?_ _ | refine blk_drew ?_ | refine blk_alloc ?_ _)); (first | refine blk_put (cs := #[.string ((rd_T100 t168 x13_1).f0), .string (⟨#[]⟩ : ByteArray), .int .i64 0, .int .i64 0]) ?_ 1 _ rfl | refine blk_put (cs := #[.string ((rd_T100 t168 x13_1).f0), .string (⟨#[]⟩ : ByteArray), .int .i64 0, .int .i64 0]) ?_ 1 _ (by first | rfl | (simp; done))); (with_reducible repeat (first | refine blk_drewN ?_ _ | refine blk_drew ?_ | refine blk_alloc ?_ _)); (first | refine blk_put (cs := #[.string (⟨#[]⟩ : ByteArray), .string (⟨#[]⟩ : ByteArray), .int .i64 0, .int .i64 0]) ?_ 0 _ rfl | refine blk_put (cs := #[.string (⟨#[]⟩ : ByteArray), .string (⟨#[]⟩ : ByteArray), .int .i64 0, .int .i64 0]) ?_ 0 _ (by first | rfl | (simp; done))); (with_reducible repeat (first | refine blk_drewN ?_ _ | refine blk_drew ?_ | refine blk_alloc ?_ _)); exact BK172.out) hb); have n3_ := Aside0.mk (below_step (by repeat (first | (with_reducible first | exact HB.out | apply below_alloc | apply pw_below_drewN | apply below_drew1 | refine below_set ?_ GE172.out) | exact HB.out)) hb); clear HO_7; clear HO_11; clear BK172; clear HB; have HO_7 := n0_; have HO_11 := n1_; have BK172 := n2_; have HB := n3_; clear n0_ n1_ n2_ n3_; (try clear hb); (try clear hb2); (try clear hk); (try clear hi); have hcz19_0 : w18.cell? ⟨gb172, 0, none⟩ = some (.string ((rd_T100 t168 x13_1).f0)) := (blk_cell BK172.out 0).trans rfl; have hcz19_1 : w18.cell? ⟨gb172, 1, none⟩ = some (.string ((rd_T100 t168 x13_1).f1)) := (blk_cell BK172.out 1).trans rfl; have hcz19_2 : w18.cell? ⟨gb172, 2, none⟩ = some (.int .i64 ((rd_T100 t168 x13_1).f2)) := (blk_cell BK172.out 2).trans rfl; have hcz19_3 : w18.cell? ⟨gb172, 3, none⟩ = some (.int .i64 ((rd_T100 t168 x13_1).f3)) := (blk_cell BK172.out 3).trans rfl; have hfz19_0 := blk_frozen BK172.out 0; have hfz19_1 := blk_frozen BK172.out 1; have hfz19_2 := blk_frozen BK172.out 2; have hfz19_3 := blk_frozen BK172.out 3; obtain ⟨i020, hi020, _, hsz20, _⟩ := info_parts info5; obtain ⟨A20, hcut20, hA20, hC20⟩ := print_mid_of (P := Tryz.prog) (Value.int .u8) 0 30 5 .i64 .i64 Tryz.underlying30 hi020 hsz20 A0 c0 l0 ((rd_T100 t168 x13_1).f2) ((rd_T100 t168 x13_1).f3) (of_decide_eq_true (by first | (with_reducible assumption) | assumption)) (by first | omega | exact of_decide_eq_true (by first | (with_reducible assumption) | assumption)) (of_decide_eq_true (by first | (with_reducible assumption) | assumption)) HC0.out; have HR174 := Aside0.mk (Kd.C_of_reads (h1 := fun _ => rfl) (hA20 _ (Kd.reads_of_C HR0.out))); have HC174 := Aside0.mk hC20; clear hA20 hC20 hi020 hsz20) | ((with_reducible refine gate_builtin (b := .append) (xs := #[.tmp 22, .tmp 28]) rfl ?_); at_builtin; refine Kd.R_append_rows (Kd.int .u8) (w0 := w) w.heap.size rfl (.tmp 22) (.tmp 28) 30 5 (.int .u8 0) 1 rfl Tryz.underlying30 info5 rfl (by decide) (by omega) u7 x7_1 ((l0.take (((rd_T100 t168 x13_1).f3) : Int).toNat).drop (((rd_T100 t168 x13_1).f2) : Int).toNat) _ _ _ (fun _ => True) (fun _ => False) rfl rfl ?aO ?aR (fun _ _ h => h) (fun _ h => h.elim) ?aF ?aB ?aS ?aL ?_; (case aR => first | (rw [← show ((l0.take (((rd_T100 t168 x13_1).f3) : Int).toNat).drop (((rd_T100 t168 x13_1).f2) : Int).toNat).length = (((rd_T100 t168 x13_1).f3).toNat - ((rd_T100 t168 x13_1).f2).toNat) from (by rw [List.length_drop, List.length_take]; have h_ : (((rd_T100 t168 x13_1).f3) : Int) ≤ (l0.length : Int) := of_decide_eq_true (by first | (with_reducible assumption) | assumption); omega)]; repeat (first | exact (Kd.C_below HR174.out HB.out) | (with_reducible refine Kd.C_alloc ?_ _) | (with_reducible refine Kd.C_drewN ?_ _) | (with_reducible refine Kd.C_drew ?_))) | (repeat (first | exact (Kd.C_below HR174.out HB.out) | (with_reducible refine Kd.C_alloc ?_ _) | (with_reducible refine Kd.C_drewN ?_ _) | (with_reducible refine Kd.C_drew ?_)))); (case aB => exact (by repeat (first | (with_reducible first | exact HB.out | apply below_alloc | apply pw_below_drewN | apply below_drew1 | refine below_set ?_ GE172.out) | exact HB.out))); (case aF => exact (fun _ _ => trivial)); (case aO => exact (by (with_reducible repeat (first | apply Kd.R_alloc | apply Kd.R_drewN | apply Kd.R_drew)); exact HO_7.out)); (case aS => exact (below_size (by repeat (first | (with_reducible first | exact HB.out | apply below_alloc | apply pw_below_drewN | apply below_drew1 | refine below_set ?_ GE172.out) | exact HB.out)))); (case aL => have := LMc15.out; have hlx_ := (show ((l0.take (((rd_T100 t168 x13_1).f3) : Int).toNat).drop (((rd_T100 t168 x13_1).f2) : Int).toNat).length = (((rd_T100 t168 x13_1).f3).toNat - ((rd_T100 t168 x13_1).f2).toNat) from (by rw [List.length_drop, List.length_take]; have h_ : (((rd_T100 t168 x13_1).f3) : Int) ≤ (l0.length : Int) := of_decide_eq_true (by first | (with_reducible assumption) | assumption); omega)); omega); intro v176 w21 ho hb hg hat; rw [← Ny175.out] at ho; have n0_ := Aside0.mk (Kd.R_over' (by (with_reducible repeat (first | apply Kd.R_alloc | apply Kd.R_drewN | apply Kd.R_drew)); exact HO_11.out) (Kd.R_typed (by (with_reducible repeat (first | apply Kd.R_alloc | apply Kd.R_drewN | apply Kd.R_drew)); exact HO_7.out)) (by decide) hg); have n1_ := Aside0.mk (blk_grown (g := gb172) (o := .cells #[.string ((rd_T100 t168 x13_1).f0), .string ((rd_T100 t168 x13_1).f1), .int .i64 ((rd_T100 t168 x13_1).f2), .int .i64 ((rd_T100 t168 x13_1).f3)] 100 (0, 0)) (by (with_reducible repeat (first | refine blk_drewN ?_ _ | refine blk_drew ?_ | refine blk_alloc ?_ _)); exact BK172.out) hg (Kd.R_ne HO_7.out BK172.out (by decide))); have n2_ := Aside0.mk (hb); have n3_ := Aside0.mk (ho); clear HO_11; clear BK172; clear HB; clear HO_7; have HO_11 := n0_; have BK172 := n1_; have HB := n2_; have HO177 := n3_; clear n0_ n1_ n2_ n3_; clear ho hb hg hat))
           go_roundg k1
           case measure => have := HK1.out; omega
           case rel => exact ⟨(y175), (wrap64 (x13_1 + 1)), (by first | rfl | (simp; done) | (simp [*]; done) | (simp [bne_nil8, beq_nil8]; done)), H', ⟨by have := HK1.out; omega⟩, ⟨by (with_reducible repeat (first | apply Kd.R_alloc | apply Kd.R_drewN | apply Kd.R_drew)); exact HO177.out⟩, ⟨by (with_reducible repeat (first | apply Kd.R_alloc | apply Kd.R_drewN | apply Kd.R_drew)); exact Kd.R_mono HO_11.out (fun _ hk => trivial)⟩, ⟨by repeat (first | (with_reducible first | exact HB.out | apply below_alloc | apply pw_below_drewN | apply below_drew1 | refine below_set ?_ GE172.out) | exact HB.out)⟩⟩
          ·rw [if_neg c15] at H
           exact absurd H (by simp)
         ·rw [if_neg c14] at H
          exact absurd H (by simp)
        ·rw [if_neg c13] at H
         exact absurd H (by simp)
       ·rw [if_neg c12] at H
        exact absurd H (by simp)
      ·rw [if_neg c11] at H
       have c11b0 : (t173 != a2) = false := by simpa using c11
       (try (have c11b1 : decide (t173 = a2) = true := by simpa using c11))
       (try (have c11b2 : (t173 == a2) = true := by simpa using c11))
       clear c11
       have H' := Aside0.mk H
       clear H
       have p171 : 0 ≤ (x13_1 : Int) := of_decide_eq_true (by first | (with_reducible assumption) | assumption)
       have q171 : x13_1 < (t168.length : Int) := of_decide_eq_true (by first | (with_reducible assumption) | assumption)
       obtain ⟨ad171, e171, hx171_0, hx171_1, hx171_2, hx171_3⟩ := at_T100 (Kd.R_reads' HO_11.out).2.2 x13_1 p171 q171
       cases e171
       replace p171 := eq_true p171
       replace q171 := eq_true q171
       go_wp2_with (first | ((with_reducible refine gate_dst (N := 9) rfl ?_); refine box_event ?hg (N := 9) ?hd (cs := #[.string (⟨#[]⟩ : ByteArray), .string (⟨#[]⟩ : ByteArray), .int .i64 0, .int .i64 0]) (t := 100) ?hr ?_; (case hd => rfl); (case hg => rfl); (case hr => first | (go_simp; done) | (go_simp; rfl)); intro gb172 hg w22 hbox hb; have n0_ := Aside0.mk (Kd.R_below (by (with_reducible repeat (first | apply Kd.R_alloc | apply Kd.R_drewN | apply Kd.R_drew)); exact HO_7.out) hb); have n1_ := Aside0.mk (Kd.R_below (Kd.R_elderB (by (with_reducible repeat (first | apply Kd.R_alloc | apply Kd.R_drewN | apply Kd.R_drew)); exact HO_11.out) gb172 (Nat.le_of_eq hg.symm)) hb); have n2_ := Aside0.mk (below_step (by repeat (first | (with_reducible first | exact HB.out | apply below_alloc | apply pw_below_drewN | apply below_drew1) | exact HB.out)) hb); have n3_ := Aside0.mk (hbox); have n4_ := Aside0.mk ((by rw [hg]; exact (below_size (by repeat (first | (with_reducible first | exact HB.out | apply below_alloc | apply pw_below_drewN | apply below_drew1) | exact HB.out))) : w.heap.size ≤ gb172)); have n5_ := Aside0.mk ((by rw [hg]; exact (below_size (by repeat (first | (with_reducible first | exact HB.out | apply below_alloc | apply pw_below_drewN | apply below_drew1) | exact HB.out))) : w.heap.size ≤ gb172)); clear HO_7; clear HO_11; clear HB; have HO_7 := n0_; have HO_11 := n1_; have HB := n2_; have BK172 := n3_; have GW172 := n4_; have GE172 := n5_; clear n0_ n1_ n2_ n3_ n4_ n5_; clear hb hbox hg; have hcz23_0 : w22.cell? ⟨gb172, 0, none⟩ = some (.string (⟨#[]⟩ : ByteArray)) := (blk_cell BK172.out 0).trans rfl; have hcz23_1 : w22.cell? ⟨gb172, 1, none⟩ = some (.string (⟨#[]⟩ : ByteArray)) := (blk_cell BK172.out 1).trans rfl; have hcz23_2 : w22.cell? ⟨gb172, 2, none⟩ = some (.int .i64 0) := (blk_cell BK172.out 2).trans rfl; have hcz23_3 : w22.cell? ⟨gb172, 3, none⟩ = some (.int .i64 0) := (blk_cell BK172.out 3).trans rfl; have hfz23_0 := blk_frozen BK172.out 0; have hfz23_1 := blk_frozen BK172.out 1; have hfz23_2 := blk_frozen BK172.out 2; have hfz23_3 := blk_frozen BK172.out 3) | ((with_reducible refine gate_callee (f := 56) rfl ?_); refine goesL_ (some 19) rfl rfl Tryz.func56 (by kernel_rfl) rfl #[.slice A1 l1.length c1, .func (.func 62) #[] #[.pointer (some ⟨gb172, 0, none⟩)]] rfl (by (try simp only [List.map_toArray, List.map_cons, List.map_nil]); first | done | rfl | (simp only [List.length_drop, List.length_take]; rfl)) ?_; (with_reducible refine (slices_ContainsFunc_string_string.calls _ _ l1 gb172 ((rd_T100 t168 x13_1).f0) (.string ((rd_T100 t168 x13_1).f1)) (.int .i64 ((rd_T100 t168 x13_1).f2)) (.int .i64 ((rd_T100 t168 x13_1).f3)) t173 _ ?side1 ?side2 ?side3 A10.out).mono ?_); (case side1 => exact Kd.C_below HR1.out (by repeat (first | (with_reducible first | exact HB.out | apply below_alloc | apply pw_below_drewN | apply below_drew1 | refine below_set ?_ GE172.out) | exact HB.out))); (case side2 => exact HC1.out); (case side3 => (with_reducible repeat (first | refine blk_drewN ?_ _ | refine blk_drew ?_ | refine blk_alloc ?_ _)); (first | refine blk_put (cs := #[.string ((rd_T100 t168 x13_1).f0), .string ((rd_T100 t168 x13_1).f1), .int .i64 ((rd_T100 t168 x13_1).f2), .int .i64 0]) ?_ 3 _ rfl | refine blk_put (cs := #[.string ((rd_T100 t168 x13_1).f0), .string ((rd_T100 t168 x13_1).f1), .int .i64 ((rd_T100 t168 x13_1).f2), .int .i64 0]) ?_ 3 _ (by first | rfl | (simp; done))); (with_reducible repeat (first | refine blk_drewN ?_ _ | refine blk_drew ?_ | refine blk_alloc ?_ _)); (first | refine blk_put (cs := #[.string ((rd_T100 t168 x13_1).f0), .string ((rd_T100 t168 x13_1).f1), .int .i64 0, .int .i64 0]) ?_ 2 _ rfl | refine blk_put (cs := #[.string ((rd_T100 t168 x13_1).f0), .string ((rd_T100 t168 x13_1).f1), .int .i64 0, .int .i64 0]) ?_ 2 _ (by first | rfl | (simp; done))); (with_reducible repeat (first | refine blk_drewN ?_ _ | refine blk_drew ?_ | refine blk_alloc ?_ _)); (first | refine blk_put (cs := #[.string ((rd_T100 t168 x13_1).f0), .string (⟨#[]⟩ : ByteArray), .int .i64 0, .int .i64 0]) ?_ 1 _ rfl | refine blk_put (cs := #[.string ((rd_T100 t168 x13_1).f0), .string (⟨#[]⟩ : ByteArray), .int .i64 0, .int .i64 0]) ?_ 1 _ (by first | rfl | (simp; done))); (with_reducible repeat (first | refine blk_drewN ?_ _ | refine blk_drew ?_ | refine blk_alloc ?_ _)); (first | refine blk_put (cs := #[.string (⟨#[]⟩ : ByteArray), .string (⟨#[]⟩ : ByteArray), .int .i64 0, .int .i64 0]) ?_ 0 _ rfl | refine blk_put (cs := #[.string (⟨#[]⟩ : ByteArray), .string (⟨#[]⟩ : ByteArray), .int .i64 0, .int .i64 0]) ?_ 0 _ (by first | rfl | (simp; done))); (with_reducible repeat (first | refine blk_drewN ?_ _ | refine blk_drew ?_ | refine blk_alloc ?_ _)); exact BK172.out); rintro e w24 ⟨rfl, hb⟩; refine ⟨_, rfl, ?_⟩; have n0_ := Aside0.mk (Kd.R_below (by (with_reducible repeat (first | apply Kd.R_alloc | apply Kd.R_drewN | apply Kd.R_drew)); exact (Kd.R_mono (Kd.R_far (p := ⟨gb172, 3, none⟩) (Kd.R_far (p := ⟨gb172, 2, none⟩) (Kd.R_far (p := ⟨gb172, 1, none⟩) (Kd.R_far (p := ⟨gb172, 0, none⟩) (Kd.R_types HO_7.out BK172.out (by decide)) (fun _ hk => hk.2) (.string ((rd_T100 t168 x13_1).f0))) (fun _ hk => hk.2) (.string ((rd_T100 t168 x13_1).f1))) (fun _ hk => hk.2) (.int .i64 ((rd_T100 t168 x13_1).f2))) (fun _ hk => hk.2) (.int .i64 ((rd_T100 t168 x13_1).f3))) (fun _ h_ => h_.1))) hb); have n1_ := Aside0.mk (Kd.R_below (by (with_reducible repeat (first | apply Kd.R_alloc | apply Kd.R_drewN | apply Kd.R_drew)); exact (Kd.R_mono (Kd.R_far (p := ⟨gb172, 3, none⟩) (Kd.R_far (p := ⟨gb172, 2, none⟩) (Kd.R_far (p := ⟨gb172, 1, none⟩) (Kd.R_far (p := ⟨gb172, 0, none⟩) (Kd.R_mono HO_11.out (fun k_ hk => (⟨hk, hk.2⟩ : _ ∧ k_ ≠ gb172))) (fun _ hk => hk.2) (.string ((rd_T100 t168 x13_1).f0))) (fun _ hk => hk.2) (.string ((rd_T100 t168 x13_1).f1))) (fun _ hk => hk.2) (.int .i64 ((rd_T100 t168 x13_1).f2))) (fun _ hk => hk.2) (.int .i64 ((rd_T100 t168 x13_1).f3))) (fun _ h_ => h_.1))) hb); have n2_ := Aside0.mk (blk_below (g := gb172) (o := .cells #[.string ((rd_T100 t168 x13_1).f0), .string ((rd_T100 t168 x13_1).f1), .int .i64 ((rd_T100 t168 x13_1).f2), .int .i64 ((rd_T100 t168 x13_1).f3)] 100 (0, 0)) (by (with_reducible repeat (first | refine blk_drewN ?_ _ | refine blk_drew ?_ | refine blk_alloc ?_ _)); (first | refine blk_put (cs := #[.string ((rd_T100 t168 x13_1).f0), .string ((rd_T100 t168 x13_1).f1), .int .i64 ((rd_T100 t168 x13_1).f2), .int .i64 0]) ?_ 3 _ rfl | refine blk_put (cs := #[.string ((rd_T100 t168 x13_1).f0), .string ((rd_T100 t168 x13_1).f1), .int .i64 ((rd_T100 t168 x13_1).f2), .int .i64 0]) ?_ 3 _ (by first | rfl | (simp; done))); (with_reducible repeat (first | refine blk_drewN ?_ _ | refine blk_drew ?_ | refine blk_alloc ?_ _)); (first | refine blk_put (cs := #[.string ((rd_T100 t168 x13_1).f0), .string ((rd_T100 t168 x13_1).f1), .int .i64 0, .int .i64 0]) ?_ 2 _ rfl | refine blk_put (cs := #[.string ((rd_T100 t168 x13_1).f0), .string ((rd_T100 t168 x13_1).f1), .int .i64 0, .int .i64 0]) ?_ 2 _ (by first | rfl | (simp; done))); (with_reducible repeat (first | refine blk_drewN ?_ _ | refine blk_drew ?_ | refine blk_alloc ?_ _)); (first | refine blk_put (cs := #[.string ((rd_T100 t168 x13_1).f0), .string (⟨#[]⟩ : ByteArray), .int .i64 0, .int .i64 0]) ?_ 1 _ rfl | refine blk_put (cs := #[.string ((rd_T100 t168 x13_1).f0), .string (⟨#[]⟩ : ByteArray), .int .i64 0, .int .i64 0]) ?_ 1 _ (by first | rfl | (simp; done))); (with_reducible repeat (first | refine blk_drewN ?_ _ | refine blk_drew ?_ | refine blk_alloc ?_ _)); (first | refine blk_put (cs := #[.string (⟨#[]⟩ : ByteArray), .string (⟨#[]⟩ : ByteArray), .int .i64 0, .int .i64 0]) ?_ 0 _ rfl | refine blk_put (cs := #[.string (⟨#[]⟩ : ByteArray), .string (⟨#[]⟩ : ByteArray), .int .i64 0, .int .i64 0]) ?_ 0 _ (by first | rfl | (simp; done))); (with_reducible repeat (first | refine blk_drewN ?_ _ | refine blk_drew ?_ | refine blk_alloc ?_ _)); exact BK172.out) hb); have n3_ := Aside0.mk (below_step (by repeat (first | (with_reducible first | exact HB.out | apply below_alloc | apply pw_below_drewN | apply below_drew1 | refine below_set ?_ GE172.out) | exact HB.out)) hb); clear HO_7; clear HO_11; clear BK172; clear HB; have HO_7 := n0_; have HO_11 := n1_; have BK172 := n2_; have HB := n3_; clear n0_ n1_ n2_ n3_; (try clear hb); (try clear hb2); (try clear hk); (try clear hi)))
       go_roundg k1
       case measure => have := HK1.out; omega
       case rel => exact ⟨(x7_1), (wrap64 (x13_1 + 1)), (by first | rfl | (simp; done) | (simp [*]; done) | (simp [bne_nil8, beq_nil8]; done)), H', ⟨by have := HK1.out; omega⟩, ⟨by (with_reducible repeat (first | apply Kd.R_alloc | apply Kd.R_drewN | apply Kd.R_drew)); exact HO_7.out⟩, ⟨by (with_reducible repeat (first | apply Kd.R_alloc | apply Kd.R_drewN | apply Kd.R_drew)); exact Kd.R_mono HO_11.out (fun _ hk => trivial)⟩, ⟨by repeat (first | (with_reducible first | exact HB.out | apply below_alloc | apply pw_below_drewN | apply below_drew1 | refine below_set ?_ GE172.out) | exact HB.out)⟩⟩
     ·rw [if_neg c9] at H
      exact absurd H (by simp)
    ·rw [if_neg c8] at H
     exact absurd H (by simp)
   ·rw [if_neg c7] at H
    have c7b0 : decide (x13_1 < (t168.length : Int)) = false := decide_eq_false c7
    clear c7
    replace H := Option.bind_eq_some_iff.mp H
    obtain ⟨t178, A250, H⟩ := H
    replace H : (if t178.length + 2 < 140737488355328 then (some (t178 ++ bytesOf (⟨#[13, 10]⟩ : ByteArray))) else (none)) = some r := H
    have A25 := Aside0.mk A250
    clear A250
    by_cases c26 : t178.length + 2 < 140737488355328
    ·rw [if_pos c26] at H
     have LMc26 := Aside0.mk c26
     clear c26
     obtain ⟨y181, hy181⟩ : ∃ y_ : List Int, y_ = (t178 ++ bytesOf (⟨#[13, 10]⟩ : ByteArray)) := ⟨_, rfl⟩
     replace H : (some y181) = some r := by first | (rw [hy181]; with_reducible exact H) | (have H2_ := (Option.bind_some _ _).symm.trans H; rw [hy181]; with_reducible exact H2_) | (have H2_ := (Option.bind_some _ _).symm.trans H; with_reducible exact H2_) | with_reducible exact H | (rw [hy181]; exact H) | exact H
     have Ny181 := Aside0.mk hy181
     clear hy181
     obtain rfl := Option.some.inj H
     obtain ⟨Ao27, co27, eo27⟩ := Kd.R_slice HO_7.out
     subst eo27
     go_wp2_with (first | ((with_reducible refine gate_callee (f := 29) rfl ?_); refine goesL_ (some 32) rfl rfl Tryz.func29 (by kernel_rfl) rfl #[.slice Ao27 x7_1.length co27] rfl (by (try simp only [List.map_toArray, List.map_cons, List.map_nil]); first | done | rfl | (simp only [List.length_drop, List.length_take]; rfl)) ?_; (with_reducible refine (bytes_Clone.calls _ _ x7_1 t178 _ ?side1 ?side2 A25.out).mono ?_); (case side1 => repeat (first | exact (Kd.R_reads' HO_7.out).2.2 | (with_reducible refine Kd.C_alloc ?_ _) | (with_reducible refine Kd.C_drewN ?_ _) | (with_reducible refine Kd.C_drew ?_))); (case side2 => exact (Kd.R_reads' HO_7.out).2.1); rintro e w28 ⟨v179, rfl, ho0, hb⟩; refine ⟨_, rfl, ?_⟩; have n0_ := Aside0.mk (Kd.R_elder' (by (with_reducible repeat (first | apply Kd.R_alloc | apply Kd.R_drewN | apply Kd.R_drew)); exact HO_7.out) (Kd.R_base ho0) hb); have n1_ := Aside0.mk (Kd.R_below (by (with_reducible repeat (first | apply Kd.R_alloc | apply Kd.R_drewN | apply Kd.R_drew)); exact HO_11.out) hb); have n2_ := Aside0.mk (Kd.R_lower (Kd.R_new' ho0 (Kd.R_lt (by (with_reducible repeat (first | apply Kd.R_alloc | apply Kd.R_drewN | apply Kd.R_drew)); exact HO_7.out))) (below_size (by repeat (first | (with_reducible first | exact HB.out | apply below_alloc | apply pw_below_drewN | apply below_drew1) | exact HB.out)))); have n3_ := Aside0.mk (below_step (by repeat (first | (with_reducible first | exact HB.out | apply below_alloc | apply pw_below_drewN | apply below_drew1) | exact HB.out)) hb); clear HO_7; clear HO_11; clear HB; have HO_7 := n0_; have HO_11 := n1_; have HO180 := n2_; have HB := n3_; clear n0_ n1_ n2_ n3_; (try clear hb); (try clear hb2); (try clear hk); (try clear hi); (try clear ho0)) | (at_builtin; refine print_append_str (w0 := w) w.heap.size rfl (.tmp 32) _ 30 9 5 rfl Tryz.underlying30 Tryz.underlying9 info5 v179 t178 (⟨#[13, 10]⟩ : ByteArray) rfl rfl ?aO ?aB ?aS ?aL ?_; (case aB => exact (by repeat (first | (with_reducible first | exact HB.out | apply below_alloc | apply pw_below_drewN | apply below_drew1) | exact HB.out))); (case aO => exact (Kd.own_of_R (by (with_reducible repeat (first | apply Kd.R_alloc | apply Kd.R_drewN | apply Kd.R_drew)); exact Kd.R_mono HO180.out (fun _ hk => trivial)))); (case aS => exact (below_size (by repeat (first | (with_reducible first | exact HB.out | apply below_alloc | apply pw_below_drewN | apply below_drew1) | exact HB.out)))); (case aL => have := LMc26.out; have hs_ : (⟨#[13, 10]⟩ : ByteArray).size = 2 := rfl; omega); intro v182 w29 ho0 hb hg; have ho := Kd.R_of_own (h1 := fun _ => rfl) (ok := fun _ => True) ho0 (fun _ _ => trivial); clear ho0; have hat := True.intro; rw [← Ny181.out] at ho; change Kd.R (Kd.int .u8) 5 w29 w.heap.size (fun _ => True) v182 y181 at ho; have n0_ := Aside0.mk (Kd.R_over' (by (with_reducible repeat (first | apply Kd.R_alloc | apply Kd.R_drewN | apply Kd.R_drew)); exact HO_11.out) (Kd.R_typed (by (with_reducible repeat (first | apply Kd.R_alloc | apply Kd.R_drewN | apply Kd.R_drew)); exact HO180.out)) (by decide) hg); have n1_ := Aside0.mk (hb); have n2_ := Aside0.mk (ho); clear HO_11; clear HB; clear HO180; have HO_11 := n0_; have HB := n1_; have HO183 := n2_; clear n0_ n1_ n2_; clear ho hb hg hat))
     go_ret
     exact ⟨_, by first | rfl | (simp [errW_none, errW_some] <;> rfl) | (simp [*, errW_none, errW_some] <;> rfl), by (with_reducible repeat (first | apply Kd.R_alloc | apply Kd.R_drewN | apply Kd.R_drew)); exact HO183.out, by repeat (first | (with_reducible first | exact HB.out | apply below_alloc | apply pw_below_drewN | apply below_drew1) | exact HB.out)⟩
    ·rw [if_neg c26] at H
     exact absurd H (by simp)

/-! ### sect_Get: function 10 -/
/-- sect.Get, at no path: the head, or picked fields. -/
def sect_Get.f (k : Nat) (l0 : List Int) (l1_0 : List Int) (a1_1 : Int) (l1_2 : List ByteArray) : Option (List Int × Bool) :=
 if l1_0 = [] ∧ (a1_1 = 1 ∨ a1_1 = 3 ∨ a1_1 = 4) then (sect_good.f k l1_0 a1_1 l1_2).bind fun g => (if g = true then
   ((head_Split.f k l0).bind fun p => (if a1_1 = 1 then (if 0 ≤ p.1 ∧ p.1 ≤ (l0.length : Int) then (bytes_Clone.f (l0.take p.1.toNat)).bind fun c => some (c, true) else none)
    else (head_Pick.f k l0 l1_2 (decide (a1_1 = 4))).bind fun c => some (c, true)))
  else some ([], false)) else none
theorem sect_Get.mono : ∀ a0 a1 a2 a3 k, LeO (sect_Get.f k a0 a1 a2 a3) (sect_Get.f (k + 1) a0 a1 a2 a3) := by
 intro a0 a1 a2 a3 k r h
 unfold sect_Get.f at h ⊢
 by_cases h0 : a1 = [] ∧ (a2 = 1 ∨ a2 = 3 ∨ a2 = 4)
 ·rw [if_pos h0] at h ⊢
  obtain ⟨g, h1, h2⟩ := Option.bind_eq_some_iff.mp h
  rw [sect_good.mono _ _ _ k g h1, Option.bind_some]
  by_cases hg : g = true
  ·rw [if_pos hg] at h2 ⊢
   obtain ⟨p, h3, h4⟩ := Option.bind_eq_some_iff.mp h2
   rw [head_Split.mono _ k p h3, Option.bind_some]
   by_cases h5 : a2 = 1
   ·rw [if_pos h5] at h4 ⊢; exact h4
   ·rw [if_neg h5] at h4 ⊢
    obtain ⟨c, h6, h7⟩ := Option.bind_eq_some_iff.mp h4
    rw [head_Pick.mono _ _ _ k c h6, Option.bind_some]
    exact h7
  ·rw [if_neg hg] at h2 ⊢; exact h2
 ·rw [if_neg h0] at h; cases h
theorem sect_Get.box {w w1 : World} {o : Obj} (hb : Below (w.alloc o).heap.size (w.alloc o) w1) : w1.heap[w.heap.size]? = some o ∧ Below w.heap.size w w1 := by
 have hs : (w.alloc o).heap.size = w.heap.size + 1 := Array.size_push _
 refine ⟨(hb.block w.heap.size (by rw [hs]; omega)).trans (heap_alloc_new w _), ((Below.refl _ w).alloc (Nat.le_refl _) _).trans ⟨hb.os, hb.tape, hb.output, hb.size, fun b' hb' => hb.block b' (by rw [hs]; omega)⟩⟩
theorem sect_Get.on {w1 w2 : World} {B : Nat} {o : Obj} (hk : w1.heap[B]? = some o) (hb : Below w1.heap.size w1 w2) : w2.heap[B]? = some o := by
 have hlt : B < w1.heap.size := by
  rcases Nat.lt_or_ge B w1.heap.size with h | h
  ·exact h
  ·rw [Array.getElem?_eq_none h] at hk; cases hk
 rw [hb.block B hlt, hk]
set_option maxHeartbeats 8000000 in
set_option maxRecDepth 100000 in
theorem sect_Get.calls (k : Nat) (A0 : Option Addr) (c0 : Nat) (l0 : List Int) (A1_0 : Option Addr) (c1_0 : Nat) (l1_0 : List Int) (a1_1 : Int) (A1_2 : Option Addr) (c1_2 : Nat) (l1_2 : List ByteArray) (r1 : List Int) (r2 : Bool) (w : World) (hr0 : Kd.C (Kd.int .u8) w A0 l0.length l0) (hc0 : l0.length ≤ c0) (hr1_0 : Kd.C (Kd.int .i64) w A1_0 l1_0.length l1_0) (hc1_0 : l1_0.length ≤ c1_0) (hr1_2 : Kd.C Kd.string w A1_2 l1_2.length l1_2) (hc1_2 : l1_2.length ≤ c1_2) (hG : Gl w) (h : sect_Get.f k l0 l1_0 a1_1 l1_2 = some (r1, r2)) :
  Calls Tryz.prog 10 #[.slice A0 l0.length c0, .agg #[.slice A1_0 l1_0.length c1_0, .int .i64 a1_1, .slice A1_2 l1_2.length c1_2]] w fun e w' => ∃ v0_ : Value, e = .returned (.tuple #[v0_, .bool r2]) ∧ Kd.R (Kd.int .u8) 5 w' w.heap.size (fun _ => True) v0_ r1 ∧ Below w.heap.size w w' := by
 have hu_ := Tryz.underlying26
 unfold sect_Get.f at h
 split at h
 case isFalse => cases h
 rename_i h0
 obtain ⟨h0, hk⟩ := h0
 subst h0
 obtain ⟨g, h1, h2⟩ := Option.bind_eq_some_iff.mp h
 have hgood := fun w1 (hb1 : Below w.heap.size w w1) => sect_good.calls k A1_0 c1_0 [] a1_1 A1_2 c1_2 l1_2 g w1 (Kd.C_below hr1_0 hb1) hc1_0 (Kd.C_below hr1_2 hb1) hc1_2 h1
 cases g with
 | false =>
  rw [if_neg (by decide)] at h2
  obtain ⟨rfl, rfl⟩ := Prod.mk.inj (Option.some.inj h2)
  have HC := Aside0.mk hgood
  clear hgood h h1 h2 hr0 hr1_0 hr1_2
  go_enter Tryz.func10, Tryz.ntmps10
  go_wp2_with (go_at_call 26; refine (HC.out _ ?_).mono ?_)
  ·exact (Below.refl _ w).alloc (Nat.le_refl _) _
  rintro e w1 ⟨rfl, hb⟩
  obtain ⟨hk, hb0⟩ := sect_Get.box hb
  have HB := Aside0.mk hb0
  clear hb hb0 hk
  go_wp2
  go_ret2
  exact ⟨_, rfl, Kd.R_nil _ _ _ _ _, HB.out⟩
 | true =>
  rw [if_pos rfl] at h2
  obtain ⟨⟨p1, p2⟩, h3, h4⟩ := Option.bind_eq_some_iff.mp h2
  have HC := Aside0.mk hgood
  have HS := Aside0.mk (fun w1 (hb1 : Below w.heap.size w w1) => head_Split.calls k A0 c0 l0 p1 p2 w1 (Kd.C_below hr0 hb1) hc0 (hG.below hb1) h3)
  by_cases h5 : a1_1 = 1
  ·subst h5
   rw [if_pos rfl] at h4
   split at h4
   case isFalse => cases h4
   rename_i hp
   obtain ⟨hp0, hp1⟩ := hp
   obtain ⟨c, h6, h7⟩ := Option.bind_eq_some_iff.mp h4
   obtain ⟨rfl, rfl⟩ := Prod.mk.inj (Option.some.inj h7)
   have hlen : (l0.take p1.toNat).length = p1.toNat := by rw [List.length_take]; simp only at hp1; omega
   have hcl := fun w1 (hb1 : Below w.heap.size w w1) => bytes_Clone.calls A0 c0 (l0.take p1.toNat) c w1 (Kd.C_take (Kd.C_below hr0 hb1) (by simp only at hp1; omega)) (by rw [hlen]; simp only at hp1; omega) h6
   rw [hlen] at hcl
   have HL := Aside0.mk hcl
   have y0 : (0 : Int) ≤ p1 := hp0
   have y1 : p1 ≤ (l0.length : Int) := hp1
   have y2 : p1 ≤ (c0 : Int) := by omega
   clear hcl hgood h h1 h2 h3 h4 h6 h7 hr0 hr1_0 hr1_2
   go_enter Tryz.func10, Tryz.ntmps10
   go_wp2_with (first | (go_at_call 26; refine (HC.out _ ((Below.refl _ w).alloc (Nat.le_refl _) _)).mono ?_; rintro e w1 ⟨rfl, hb⟩; have HB := Aside0.mk (sect_Get.box hb).2; have HK := Aside0.mk (sect_Get.box hb).1; have q0 : w1.cell? ⟨w.heap.size, 0, none⟩ = some (.slice A1_0 0 c1_0) := (blk_cell HK.out 0).trans rfl; have q1 : w1.cell? ⟨w.heap.size, 1, none⟩ = some (.int .i64 1) := (blk_cell HK.out 1).trans rfl; have q2 : w1.cell? ⟨w.heap.size, 2, none⟩ = some (.slice A1_2 l1_2.length c1_2) := (blk_cell HK.out 2).trans rfl; clear hb) | (go_at_call 30; refine (HS.out _ HB.out).mono ?_; rintro e w2 ⟨rfl, hb⟩; have HK2 := Aside0.mk (sect_Get.on HK.out hb); have HB2 := Aside0.mk (below_step HB.out hb); have p0 : w2.cell? ⟨w.heap.size, 0, none⟩ = some (.slice A1_0 0 c1_0) := (blk_cell HK2.out 0).trans rfl; have p1' : w2.cell? ⟨w.heap.size, 1, none⟩ = some (.int .i64 1) := (blk_cell HK2.out 1).trans rfl; have p2' : w2.cell? ⟨w.heap.size, 2, none⟩ = some (.slice A1_2 l1_2.length c1_2) := (blk_cell HK2.out 2).trans rfl; clear hb q0 q1 q2 HK) | (go_at_call 29; refine (HL.out _ HB2.out).mono ?_; rintro e w3 ⟨v0_, rfl, hR, hb⟩; have HR3 := Aside0.mk hR; have HB3 := Aside0.mk (below_step HB2.out hb); have HZ := Aside0.mk HB2.out.size; clear hb hR p0 p1' p2'))
   all_goals go_ret2
   all_goals exact ⟨_, rfl, Kd.R_lower HR3.out HZ.out, HB3.out⟩
  ·rw [if_neg h5] at h4
   obtain ⟨c, h6, h7⟩ := Option.bind_eq_some_iff.mp h4
   obtain ⟨rfl, rfl⟩ := Prod.mk.inj (Option.some.inj h7)
   have HL := Aside0.mk (fun w1 (hb1 : Below w.heap.size w w1) => head_Pick.calls k A0 c0 l0 A1_2 c1_2 l1_2 (decide (a1_1 = 4)) c w1 (Kd.C_below hr0 hb1) hc0 (Kd.C_below hr1_2 hb1) hc1_2 (hG.below hb1) h6)
   clear hgood h h1 h2 h3 h4 h6 h7 hr0 hr1_0 hr1_2
   rcases hk with rfl | rfl | rfl
   ·exact absurd rfl h5
   ·clear h5
    go_enter Tryz.func10, Tryz.ntmps10
    go_wp2_with (first | (go_at_call 26; refine (HC.out _ ((Below.refl _ w).alloc (Nat.le_refl _) _)).mono ?_; rintro e w1 ⟨rfl, hb⟩; have HB := Aside0.mk (sect_Get.box hb).2; have HK := Aside0.mk (sect_Get.box hb).1; have q0 : w1.cell? ⟨w.heap.size, 0, none⟩ = some (.slice A1_0 0 c1_0) := (blk_cell HK.out 0).trans rfl; have q1 : w1.cell? ⟨w.heap.size, 1, none⟩ = some (.int .i64 3) := (blk_cell HK.out 1).trans rfl; have q2 : w1.cell? ⟨w.heap.size, 2, none⟩ = some (.slice A1_2 l1_2.length c1_2) := (blk_cell HK.out 2).trans rfl; clear hb) | (go_at_call 30; refine (HS.out _ HB.out).mono ?_; rintro e w2 ⟨rfl, hb⟩; have HK2 := Aside0.mk (sect_Get.on HK.out hb); have HB2 := Aside0.mk (below_step HB.out hb); have p0 : w2.cell? ⟨w.heap.size, 0, none⟩ = some (.slice A1_0 0 c1_0) := (blk_cell HK2.out 0).trans rfl; have p1' : w2.cell? ⟨w.heap.size, 1, none⟩ = some (.int .i64 3) := (blk_cell HK2.out 1).trans rfl; have p2' : w2.cell? ⟨w.heap.size, 2, none⟩ = some (.slice A1_2 l1_2.length c1_2) := (blk_cell HK2.out 2).trans rfl; clear hb q0 q1 q2 HK) | (go_at_call 31; refine (HL.out _ HB2.out).mono ?_; rintro e w3 ⟨v0_, rfl, hR, hb⟩; have HR3 := Aside0.mk hR; have HB3 := Aside0.mk (below_step HB2.out hb); have HZ := Aside0.mk HB2.out.size; clear hb hR p0 p1' p2'))
    all_goals go_ret2
    all_goals exact ⟨_, rfl, Kd.R_lower HR3.out HZ.out, HB3.out⟩
   ·clear h5
    go_enter Tryz.func10, Tryz.ntmps10
    go_wp2_with (first | (go_at_call 26; refine (HC.out _ ((Below.refl _ w).alloc (Nat.le_refl _) _)).mono ?_; rintro e w1 ⟨rfl, hb⟩; have HB := Aside0.mk (sect_Get.box hb).2; have HK := Aside0.mk (sect_Get.box hb).1; have q0 : w1.cell? ⟨w.heap.size, 0, none⟩ = some (.slice A1_0 0 c1_0) := (blk_cell HK.out 0).trans rfl; have q1 : w1.cell? ⟨w.heap.size, 1, none⟩ = some (.int .i64 4) := (blk_cell HK.out 1).trans rfl; have q2 : w1.cell? ⟨w.heap.size, 2, none⟩ = some (.slice A1_2 l1_2.length c1_2) := (blk_cell HK.out 2).trans rfl; clear hb) | (go_at_call 30; refine (HS.out _ HB.out).mono ?_; rintro e w2 ⟨rfl, hb⟩; have HK2 := Aside0.mk (sect_Get.on HK.out hb); have HB2 := Aside0.mk (below_step HB.out hb); have p0 : w2.cell? ⟨w.heap.size, 0, none⟩ = some (.slice A1_0 0 c1_0) := (blk_cell HK2.out 0).trans rfl; have p1' : w2.cell? ⟨w.heap.size, 1, none⟩ = some (.int .i64 4) := (blk_cell HK2.out 1).trans rfl; have p2' : w2.cell? ⟨w.heap.size, 2, none⟩ = some (.slice A1_2 l1_2.length c1_2) := (blk_cell HK2.out 2).trans rfl; clear hb q0 q1 q2 HK) | (go_at_call 31; refine (HL.out _ HB2.out).mono ?_; rintro e w3 ⟨v0_, rfl, hR, hb⟩; have HR3 := Aside0.mk hR; have HB3 := Aside0.mk (below_step HB2.out hb); have HZ := Aside0.mk HB2.out.size; clear hb hR p0 p1' p2'))
    all_goals go_ret2
    all_goals exact ⟨_, rfl, Kd.R_lower HR3.out HZ.out, HB3.out⟩

/-! ### strconv_Itoa_63: function 63 -/
def strconv_Itoa_63.f (a0 : Int) : Option (ByteArray) := if decide (-9223372036854775808 ≤ a0) && decide (a0 ≤ 9223372036854775807) then some ⟨(itoaF a0).toArray⟩ else none
theorem strconv_Itoa_63.calls (a0 : Int) (r : ByteArray) (w : World) (hG : Gl w) (h : strconv_Itoa_63.f a0 = some r) :
  Calls Tryz.prog 63 #[.int .i64 a0] w fun e w' => e = .returned (.string r) ∧ Below w.heap.size w w' := by
 unfold strconv_Itoa_63.f at h
 split at h
 case isFalse => cases h
 rename_i hif
 simp only [Bool.and_eq_true, decide_eq_true_eq] at hif
 obtain rfl := Option.some.inj h
 rw [← itoaF_eq a0 hif.1 hif.2]
 exact (Tryz.internal_strconv_Itoa a0 hif.1 hif.2 w hG.pow10).mono fun e w' ⟨h1, k, os, h2⟩ => ⟨h1, by rw [h2]; exact below_grow _ _ _⟩

end Go.Proofs.YtefmlibcghjncaaGreatDoor.X
