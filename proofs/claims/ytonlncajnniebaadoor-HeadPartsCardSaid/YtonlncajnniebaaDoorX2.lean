/- By a program of this session, over the print of the kit: for each function of the program what it computes, and that its call comes to just that. -/
import Derived.Test.YtonlncajnniebaaDoorX0
import Derived.Test.YtonlncajnniebaaDoorX1
namespace Go.Proofs.YtonlncajnniebaaDoor.X
open Go.RowKit Go.Proofs.Mine Go.Proofs.YtonlncajnniebaaDoorW.PrintWords Go.Proofs.YtonlncajnniebaaDoorW.PrintLast Go.Proofs.YtonlncajnniebaaDoorW.PrintMore
attribute [local go_sem] max2_int min2_int max_two min_two max_three min_three max_four min_four   -- for this text's walks alone
set_option linter.unusedVariables false
set_option linter.unusedSimpArgs false

/-! ### head_Fields: function 10 -/
mutual
def head_Fields.l0 : Nat → List Int → List (S29) → Bool → Int → List (List Int) → Int → Int → Option ((List (S29)))
 | 0, _, _, _, _, _, _, _ => none
 | k + 1, x0, x5, x6, x7, x24, x25, x26 => if x26 < x25 then (if 0 ≤ x26 then (if x26 < (x24.length : Int) then ((strings_HasPrefix.f (strOfNums (rd_L1 x24 x26)) (⟨#[32]⟩ : ByteArray)).bind fun t152 => (if t152 = true then (head_Fields.j1 k x0 x5 x6 (wrap64 (x7 + ((strOfNums (rd_L1 x24 x26)).size : Int))) (strOfNums (rd_L1 x24 x26)) x7 x24 x25 x26 true) else ((strings_HasPrefix.f (strOfNums (rd_L1 x24 x26)) (⟨#[9]⟩ : ByteArray)).bind fun t153 => (head_Fields.j1 k x0 x5 x6 (wrap64 (x7 + ((strOfNums (rd_L1 x24 x26)).size : Int))) (strOfNums (rd_L1 x24 x26)) x7 x24 x25 x26 t153)))) else (none)) else (none)) else (head_Fields.l1 k x0 x5 (x5.length : Int) 0)
def head_Fields.j1 : Nat → List Int → List (S29) → Bool → Int → ByteArray → Int → List (List Int) → Int → Int → Bool → Option ((List (S29)))
 | 0, _, _, _, _, _, _, _, _, _, _ => none
 | k + 1, x0, x5, x6, x7, x10, x11, x24, x25, x26, x42 => if x42 = true then (if x6 = true then (if 0 ≤ (wrap64 ((x5.length : Int) - 1)) then (if (wrap64 ((x5.length : Int) - 1)) < (x5.length : Int) then (head_Fields.l0 k x0 (x5.set ((wrap64 ((x5.length : Int) - 1)) : Int).toNat (⟨(rd_T29 x5 (wrap64 ((x5.length : Int) - 1))).f0, (rd_T29 x5 (wrap64 ((x5.length : Int) - 1))).f1, (rd_T29 x5 (wrap64 ((x5.length : Int) - 1))).f2, x7⟩ : S29)) x6 x7 x24 x25 (wrap64 (x26 + 1))) else (none)) else (none)) else (head_Fields.l0 k x0 x5 x6 x7 x24 x25 (wrap64 (x26 + 1)))) else ((head_name.f k x10).bind fun bt155 => (if bt155.2 = true then (if (x5.length : Int) < 500 then (if x5.length < 2932031007402 then (head_Fields.l0 k x0 (x5 ++ [(⟨bt155.1, (⟨#[]⟩ : ByteArray), x11, x7⟩ : S29)]) (decide ((x5.length : Int) < 500)) x7 x24 x25 (wrap64 (x26 + 1))) else (none)) else (head_Fields.l0 k x0 x5 (decide ((x5.length : Int) < 500)) x7 x24 x25 (wrap64 (x26 + 1)))) else (head_Fields.l0 k x0 x5 false x7 x24 x25 (wrap64 (x26 + 1)))))
def head_Fields.l1 : Nat → List Int → List (S29) → Int → Int → Option ((List (S29)))
 | 0, _, _, _, _ => none
 | k + 1, x0, x5, x72, x73 => if x73 < x72 then (if 0 ≤ x73 then (if x73 < (x5.length : Int) then (if 0 ≤ (wrap64 ((wrap64 (((rd_T29 x5 x73).f2) + (((rd_T29 x5 x73).f0).size : Int))) + 1)) then (if (wrap64 ((wrap64 (((rd_T29 x5 x73).f2) + (((rd_T29 x5 x73).f0).size : Int))) + 1)) ≤ ((rd_T29 x5 x73).f3) then (if ((rd_T29 x5 x73).f3) ≤ (x0.length : Int) then ((head_Value.f (strOfNums ((x0.take (((rd_T29 x5 x73).f3) : Int).toNat).drop ((wrap64 ((wrap64 (((rd_T29 x5 x73).f2) + (((rd_T29 x5 x73).f0).size : Int))) + 1)) : Int).toNat))).bind fun t163 => (head_Fields.l1 k x0 (x5.set (x73 : Int).toNat (⟨(rd_T29 x5 x73).f0, t163, (rd_T29 x5 x73).f2, (rd_T29 x5 x73).f3⟩ : S29)) x72 (wrap64 (x73 + 1)))) else (none)) else (none)) else (none)) else (none)) else (none)) else (some x5)
end
def head_Fields.f (k : Nat) (l0 : List Int) : Option ((List (S29))) := (head_Split.f k l0).bind fun bt145 => (if 0 ≤ bt145.1 then (if bt145.1 ≤ (l0.length : Int) then ((octet_Lines.f k (l0.take (bt145.1 : Int).toNat)).bind fun t148 => (head_Fields.l0 k l0 ([] : List (S29)) false 0 t148 (t148.length : Int) 0)) else (none)) else (none))
theorem head_Fields.mono_l : ∀ k, (∀ y0 y1 y2 y3 y4 y5 y6, LeO (head_Fields.l0 k y0 y1 y2 y3 y4 y5 y6) (head_Fields.l0 (k + 1) y0 y1 y2 y3 y4 y5 y6)) ∧ (∀ y0 y1 y2 y3 y4 y5 y6 y7 y8 y9, LeO (head_Fields.j1 k y0 y1 y2 y3 y4 y5 y6 y7 y8 y9) (head_Fields.j1 (k + 1) y0 y1 y2 y3 y4 y5 y6 y7 y8 y9)) ∧ (∀ y0 y1 y2 y3, LeO (head_Fields.l1 k y0 y1 y2 y3) (head_Fields.l1 (k + 1) y0 y1 y2 y3))
 | 0 => ⟨fun _ _ _ _ _ _ _ r h => by simp [head_Fields.l0] at h, fun _ _ _ _ _ _ _ _ _ _ r h => by simp [head_Fields.j1] at h, fun _ _ _ _ r h => by simp [head_Fields.l1] at h⟩
 | k + 1 => by
  obtain ⟨ih0, ih1, ih2⟩ := head_Fields.mono_l k
  refine ⟨?_, ?_, ?_⟩
  ·intro y0 y1 y2 y3 y4 y5 y6
   unfold head_Fields.l0
   repeat' first
   | (with_reducible exact ih0 _ _ _ _ _ _ _)
   | (with_reducible exact ih1 _ _ _ _ _ _ _ _ _ _)
   | (with_reducible exact ih2 _ _ _ _)
   | (with_reducible exact head_Split.mono _ _)
   | (with_reducible exact head_name.mono _ _)
   | (with_reducible exact octet_Lines.mono _ _)
   | (with_reducible exact LeO.refl _)
   | (with_reducible exact LeO.none _)
   | (with_reducible refine LeO.ite ?_ ?_)
   | (with_reducible refine LeO.bind ?_ (fun _ => ?_))
   | exact ih0 _ _ _ _ _ _ _
   | exact ih1 _ _ _ _ _ _ _ _ _ _
   | exact ih2 _ _ _ _
   | exact head_Split.mono _ _
   | exact head_name.mono _ _
   | exact octet_Lines.mono _ _
   | exact LeO.none _
   | refine LeO.ite ?_ ?_
   | refine LeO.bind ?_ (fun _ => ?_)
  ·intro y0 y1 y2 y3 y4 y5 y6 y7 y8 y9
   unfold head_Fields.j1
   repeat' first
   | (with_reducible exact ih0 _ _ _ _ _ _ _)
   | (with_reducible exact ih1 _ _ _ _ _ _ _ _ _ _)
   | (with_reducible exact ih2 _ _ _ _)
   | (with_reducible exact head_Split.mono _ _)
   | (with_reducible exact head_name.mono _ _)
   | (with_reducible exact octet_Lines.mono _ _)
   | (with_reducible exact LeO.refl _)
   | (with_reducible exact LeO.none _)
   | (with_reducible refine LeO.ite ?_ ?_)
   | (with_reducible refine LeO.bind ?_ (fun _ => ?_))
   | exact ih0 _ _ _ _ _ _ _
   | exact ih1 _ _ _ _ _ _ _ _ _ _
   | exact ih2 _ _ _ _
   | exact head_Split.mono _ _
   | exact head_name.mono _ _
   | exact octet_Lines.mono _ _
   | exact LeO.none _
   | refine LeO.ite ?_ ?_
   | refine LeO.bind ?_ (fun _ => ?_)
  ·intro y0 y1 y2 y3
   unfold head_Fields.l1
   repeat' first
   | (with_reducible exact ih0 _ _ _ _ _ _ _)
   | (with_reducible exact ih1 _ _ _ _ _ _ _ _ _ _)
   | (with_reducible exact ih2 _ _ _ _)
   | (with_reducible exact head_Split.mono _ _)
   | (with_reducible exact head_name.mono _ _)
   | (with_reducible exact octet_Lines.mono _ _)
   | (with_reducible exact LeO.refl _)
   | (with_reducible exact LeO.none _)
   | (with_reducible refine LeO.ite ?_ ?_)
   | (with_reducible refine LeO.bind ?_ (fun _ => ?_))
   | exact ih0 _ _ _ _ _ _ _
   | exact ih1 _ _ _ _ _ _ _ _ _ _
   | exact ih2 _ _ _ _
   | exact head_Split.mono _ _
   | exact head_name.mono _ _
   | exact octet_Lines.mono _ _
   | exact LeO.none _
   | refine LeO.ite ?_ ?_
   | refine LeO.bind ?_ (fun _ => ?_)
theorem head_Fields.mono : ∀ a0 k, LeO (head_Fields.f k a0) (head_Fields.f (k + 1) a0) := by
 intro a0 k
 obtain ⟨ih0, ih1, ih2⟩ := head_Fields.mono_l k
 unfold head_Fields.f
 repeat' first
   | (with_reducible exact ih0 _ _ _ _ _ _ _)
   | (with_reducible exact ih1 _ _ _ _ _ _ _ _ _ _)
   | (with_reducible exact ih2 _ _ _ _)
   | (with_reducible exact head_Split.mono _ _)
   | (with_reducible exact head_name.mono _ _)
   | (with_reducible exact octet_Lines.mono _ _)
   | (with_reducible exact LeO.refl _)
   | (with_reducible exact LeO.none _)
   | (with_reducible refine LeO.ite ?_ ?_)
   | (with_reducible refine LeO.bind ?_ (fun _ => ?_))
   | exact ih0 _ _ _ _ _ _ _
   | exact ih1 _ _ _ _ _ _ _ _ _ _
   | exact ih2 _ _ _ _
   | exact head_Split.mono _ _
   | exact head_name.mono _ _
   | exact octet_Lines.mono _ _
   | exact LeO.none _
   | refine LeO.ite ?_ ?_
   | refine LeO.bind ?_ (fun _ => ?_)
set_option maxHeartbeats 8000000 in
set_option maxRecDepth 100000 in
theorem head_Fields.calls (k : Nat) (A0 : Option Addr) (c0 : Nat) (l0 : List Int) (r : List (S29)) (w : World) (hr0 : Kd.C (Kd.int .u8) w A0 l0.length l0) (hc0 : l0.length ≤ c0) (hG : Gl w) (h : head_Fields.f k l0 = some r) :
  Calls Tryd.prog 10 #[.slice A0 l0.length c0] w fun e w' => ∃ v0_ : Value, e = .returned (v0_) ∧ Kd.R k29 29 w' w.heap.size (fun _ => True) v0_ r ∧ Below w.heap.size w w' := by
 have hu29 := Tryd.underlying29
 have HR0 := Aside0.mk hr0
 have HC0 := Aside0.mk hc0
 clear hr0 hc0
 have HB := Aside0.mk (Below.refl w.heap.size w)
 have HG := Aside0.mk hG
 clear hG
 have H : ((head_Split.f k l0).bind fun bt145 => (if 0 ≤ bt145.1 then (if bt145.1 ≤ (l0.length : Int) then ((octet_Lines.f k (l0.take (bt145.1 : Int).toNat)).bind fun t148 => (head_Fields.l0 k l0 ([] : List (S29)) false 0 t148 (t148.length : Int) 0)) else (none)) else (none))) = some r := h
 clear h
 replace H := Option.bind_eq_some_iff.mp H
 obtain ⟨⟨t145, t146⟩, A20, H⟩ := H
 replace H : (if 0 ≤ t145 then (if t145 ≤ (l0.length : Int) then ((octet_Lines.f k (l0.take (t145 : Int).toNat)).bind fun t148 => (head_Fields.l0 k l0 ([] : List (S29)) false 0 t148 (t148.length : Int) 0)) else (none)) else (none)) = some r := H
 have A2 := Aside0.mk A20
 clear A20
 by_cases c3 : 0 ≤ t145
 ·rw [if_pos c3] at H
  have c3b0 := eq_true c3
  have c3b1 : decide (0 ≤ t145) = true := decide_eq_true c3
  clear c3
  by_cases c4 : t145 ≤ (l0.length : Int)
  ·rw [if_pos c4] at H
   have c4b0 := eq_true c4
   have c4b1 : decide (t145 ≤ (l0.length : Int)) = true := decide_eq_true c4
   clear c4
   replace H := Option.bind_eq_some_iff.mp H
   obtain ⟨t148, A50, H⟩ := H
   replace H : (head_Fields.l0 k l0 ([] : List (S29)) false 0 t148 (t148.length : Int) 0) = some r := H
   have A5 := Aside0.mk A50
   clear A50
   have H' := Aside0.mk H
   clear H
   go_enter Tryd.func10, Tryd.ntmps10
   go_wp2_with (first | ((with_reducible refine gate_callee (f := 14) rfl ?_); refine goesL_ (some 18) rfl rfl Tryd.func14 (by kernel_rfl) rfl #[.slice A0 l0.length c0] rfl (by (try simp only [List.map_toArray, List.map_cons, List.map_nil]); first | done | rfl | (simp only [List.length_drop, List.length_take]; rfl)) ?_; (with_reducible refine (head_Split.calls k _ _ l0 t145 t146 _ ?side1 ?side2 ?side3 A2.out).mono ?_); (case side1 => repeat (first | exact HR0.out | (with_reducible refine Kd.C_alloc ?_ _) | (with_reducible refine Kd.C_drewN ?_ _) | (with_reducible refine Kd.C_drew ?_))); (case side2 => exact HC0.out); (case side3 => exact Gl.below HG.out (by repeat (first | (with_reducible first | exact HB.out | apply below_alloc | apply pw_below_drewN | apply below_drew1) | exact HB.out))); rintro e w6 ⟨rfl, hb⟩; refine ⟨_, rfl, ?_⟩; have n0_ := Aside0.mk (below_step (by repeat (first | (with_reducible first | exact HB.out | apply below_alloc | apply pw_below_drewN | apply below_drew1) | exact HB.out)) hb); clear HB; have HB := n0_; clear n0_; (try clear hb); (try clear hb2); (try clear hk); (try clear hi); obtain ⟨i07, hi07, _, hsz7, _⟩ := info_parts info5; obtain ⟨hcut7, hA7, hC7⟩ := print_take_of (P := Tryd.prog) (Value.int .u8) 0 27 5 .i64 Tryd.underlying27 hi07 hsz7 A0 c0 l0 t145 (of_decide_eq_true (by first | (with_reducible assumption) | assumption)) (of_decide_eq_true (by first | (with_reducible assumption) | assumption)) HC0.out; have HR147 := Aside0.mk (Kd.C_of_reads (h1 := fun _ => rfl) (hA7 _ (Kd.reads_of_C HR0.out))); have HC147 := Aside0.mk hC7; clear hA7 hC7 hi07 hsz7) | ((with_reducible refine gate_callee (f := 25) rfl ?_); refine goesL_ (some 24) rfl rfl Tryd.func25 (by kernel_rfl) rfl #[.slice A0 (l0.take (t145 : Int).toNat).length c0] rfl (by (try simp only [List.map_toArray, List.map_cons, List.map_nil]); first | done | (rw [show (l0.take (t145 : Int).toNat).length = t145.toNat from (by rw [List.length_take]; have h_ : (t145 : Int) ≤ (l0.length : Int) := of_decide_eq_true (by first | (with_reducible assumption) | assumption); omega)] <;> rfl) | rfl | (simp only [List.length_drop, List.length_take]; rfl)) ?_; (with_reducible refine (octet_Lines.calls k (fun k_ => k_ < w.heap.size) _ _ (l0.take (t145 : Int).toNat) t148 _ ?side1 ?side2 A5.out).mono ?_); (case side1 => exact Kd.V_mk HC147.out (Kd.F_below (Kd.C_F (Kd.heap_int .u8) HR147.out) (by repeat (first | (with_reducible first | exact HB.out | apply below_alloc | apply pw_below_drewN | apply below_drew1) | exact HB.out)))); (case side2 => exact Gl.below HG.out (by repeat (first | (with_reducible first | exact HB.out | apply below_alloc | apply pw_below_drewN | apply below_drew1) | exact HB.out))); rintro e w8 ⟨v149, rfl, ho0, hb⟩; refine ⟨_, rfl, ?_⟩; have n0_ := Aside0.mk (Kd.S_lower (Kd.S_mono (ok' := fun k_ => True) ho0 (fun _ hk_ => trivial)) (below_size (by repeat (first | (with_reducible first | exact HB.out | apply below_alloc | apply pw_below_drewN | apply below_drew1) | exact HB.out)))); have n1_ := Aside0.mk (below_step (by repeat (first | (with_reducible first | exact HB.out | apply below_alloc | apply pw_below_drewN | apply below_drew1) | exact HB.out)) hb); clear HB; have HO150 := n0_; have HB := n1_; clear n0_ n1_; (try clear hb); (try clear hb2); (try clear hk); (try clear hi); (try clear ho0); obtain ⟨Ao9, co9, eo9⟩ := Kd.S_slice HO150.out; subst eo9))
   go_loopg [5, 6, 7, 26] k (fun kq v5 v6 v7 v26 w' => ∃ (x5_1 : List (S29)) (x6_1 : Bool) (x7_1 : Int) (x26_1 : Int), v6 = .bool x6_1 ∧ v7 = .int .i64 x7_1 ∧ v26 = .int .i64 x26_1 ∧ Aside0 (head_Fields.l0 kq l0 x5_1 x6_1 x7_1 t148 (t148.length : Int) x26_1 = some r) ∧ Aside0 (kq ≤ k) ∧ Aside0 (Kd.R k29 29 w' w.heap.size (fun _ => True) v5 x5_1) ∧ Aside0 (Kd.S (Kd.slice 5 (Kd.int .u8)) 27 w' w.heap.size (fun _ => True) (.slice Ao9 t148.length co9) t148) ∧ Aside0 (Below w.heap.size w w'))
   case atStart => exact ⟨(([] : List (S29))), (false), (0), (0), (by first | rfl | (simp; done) | (simp [*]; done) | (simp [bne_nil8, beq_nil8]; done)), (by first | rfl | (simp; done) | (simp [*]; done) | (simp [bne_nil8, beq_nil8]; done)), (by first | rfl | (simp; done) | (simp [*]; done) | (simp [bne_nil8, beq_nil8]; done)), H', ⟨Nat.le_refl _⟩, ⟨by first | exact Kd.R_nil _ _ _ _ _ | exact Kd.N_nil _ _ _ _ _ | exact Kd.V_nil _ _ _ _ _ | exact Kd.Q_nil _ _ _ _ _ | exact Kd.S_nil _ _ _ _ _⟩, ⟨by (with_reducible repeat (first | apply Kd.S_alloc | apply Kd.S_drewN | apply Kd.S_drew)); exact HO150.out⟩, ⟨by repeat (first | (with_reducible first | exact HB.out | apply below_alloc | apply pw_below_drewN | apply below_drew1) | exact HB.out)⟩⟩
   case round =>
    clear H'
    try clear c1
    try clear c2
    try clear p2
    try clear c3
    try clear c3b0
    try clear c3b1
    try clear c4
    try clear c4b0
    try clear c4b1
    obtain ⟨x5_1, x6_1, x7_1, x26_1, rfl, rfl, rfl, HA, HK1, HO_5, HO_24, HB⟩ := hrel
    cases gk with
    | zero => exact absurd HA.out (by simp [head_Fields.l0])
    | succ k1 =>
     have H := HA.out
     clear HA
     simp only [head_Fields.l0] at H
     by_cases c10 : x26_1 < (t148.length : Int)
     ·rw [if_pos c10] at H
      have c10b0 : decide (x26_1 < (t148.length : Int)) = true := decide_eq_true c10
      clear c10
      by_cases c11 : 0 ≤ x26_1
      ·rw [if_pos c11] at H
       have c11b0 : decide (0 ≤ x26_1) = true := decide_eq_true c11
       clear c11
       by_cases c12 : x26_1 < (t148.length : Int)
       ·rw [if_pos c12] at H
        have c12b0 : decide (x26_1 < (t148.length : Int)) = true := decide_eq_true c12
        clear c12
        have HC13 := Aside0.mk H
        clear H
        have p151 : 0 ≤ (x26_1 : Int) := of_decide_eq_true (by first | (with_reducible assumption) | assumption)
        have q151 : x26_1 < (t148.length : Int) := of_decide_eq_true (by first | (with_reducible assumption) | assumption)
        obtain ⟨ad151, A151_0, c151_0, e151, hx151_0, hl151_0, hi151_0⟩ := at_L1 (Kd.S_reads' HO_24.out).2.2 x26_1 p151 q151
        cases e151
        obtain ⟨ce151, hce151, hMe151, hcc151⟩ := Kd.S_get HO_24.out [] x26_1 p151 (by first | exact q151 | exact of_decide_eq_true (by first | (with_reducible assumption) | assumption) | (have e_ := (Kd.S_reads' HO_24.out).1; omega))
        obtain ⟨ve151_0, rfl, ge151_0⟩ := hMe151
        have hv151_0 := hcc151 0 _ rfl
        rw [Nat.add_zero, show ((Kd.slice 5 (Kd.int .u8))).sz = 1 from rfl, Nat.mul_one] at hv151_0
        replace hv151_0 := Option.some.inj (hv151_0.symm.trans hx151_0)
        rw [hv151_0] at ge151_0
        have HL151_0 := Aside0.mk (show Kd.R (Kd.int .u8) 5 _ _ _ _ (rd_L1 t148 x26_1) from ge151_0)
        clear hv151_0 ge151_0
        clear hcc151 hce151
        have HR151_0 := Aside0.mk hi151_0
        have HC151_0 := Aside0.mk hl151_0
        clear hi151_0 hl151_0
        replace p151 := eq_true p151
        replace q151 := eq_true q151
        have hcv14 := Kd.C_string (P := Tryd.prog) (A := A151_0) (c := c151_0) Tryd.underlying27 Tryd.underlying5 Tryd.underlying9 (by repeat (first | (with_reducible exact HR151_0.out) | (with_reducible refine Kd.C_alloc ?_ _) | (with_reducible refine Kd.C_drewN ?_ _) | (with_reducible refine Kd.C_drew ?_) | exact HR151_0.out))
        have hcw15 := fun n_ : Nat => Kd.C_string (P := Tryd.prog) (A := A151_0) (c := c151_0) Tryd.underlying27 Tryd.underlying5 Tryd.underlying9 (Kd.C_drewN (by repeat (first | (with_reducible exact HR151_0.out) | (with_reducible refine Kd.C_alloc ?_ _) | (with_reducible refine Kd.C_drewN ?_ _) | (with_reducible refine Kd.C_drew ?_) | exact HR151_0.out)) n_)
        go_upto_region 11 with (fail)
        go_cut [42] (fun v42 wc => ∃ (kq : Nat) (x42_12 : Bool), v42 = .bool x42_12 ∧ Aside0 (head_Fields.j1 kq l0 x5_1 x6_1 (wrap64 (x7_1 + ((strOfNums (rd_L1 t148 x26_1)).size : Int))) (strOfNums (rd_L1 t148 x26_1)) x7_1 t148 (t148.length : Int) x26_1 x42_12 = some r) ∧ Aside0 (kq ≤ k1) ∧ Aside0 (Kd.R k29 29 wc w.heap.size (fun _ => True) u5 x5_1) ∧ Aside0 (Kd.S (Kd.slice 5 (Kd.int .u8)) 27 wc w.heap.size (fun _ => True) (.slice (some ad151) t148.length co9) t148) ∧ Aside0 (Kd.C (Kd.int .u8) wc A151_0 (rd_L1 t148 x26_1).length (rd_L1 t148 x26_1)) ∧ Aside0 (Below w.heap.size w wc))
        case first =>
         have H := HC13.out
         clear HC13
         replace H := Option.bind_eq_some_iff.mp H
         obtain ⟨t152, A160, H⟩ := H
         replace H : (if t152 = true then (head_Fields.j1 k1 l0 x5_1 x6_1 (wrap64 (x7_1 + ((strOfNums (rd_L1 t148 x26_1)).size : Int))) (strOfNums (rd_L1 t148 x26_1)) x7_1 t148 (t148.length : Int) x26_1 true) else ((strings_HasPrefix.f (strOfNums (rd_L1 t148 x26_1)) (⟨#[9]⟩ : ByteArray)).bind fun t153 => (head_Fields.j1 k1 l0 x5_1 x6_1 (wrap64 (x7_1 + ((strOfNums (rd_L1 t148 x26_1)).size : Int))) (strOfNums (rd_L1 t148 x26_1)) x7_1 t148 (t148.length : Int) x26_1 t153))) = some r := H
         have A16 := Aside0.mk A160
         clear A160
         by_cases c17 : t152 = true
         ·subst c17
          have H1 : (head_Fields.j1 k1 l0 x5_1 x6_1 (wrap64 (x7_1 + ((strOfNums (rd_L1 t148 x26_1)).size : Int))) (strOfNums (rd_L1 t148 x26_1)) x7_1 t148 (t148.length : Int) x26_1 true) = some r := by (rw [if_pos rfl] at H) <;> exact H
          clear H
          have H := H1
          clear H1
          have H' := Aside0.mk H
          clear H
          go_wp2_with (first | ((with_reducible refine gate_callee (f := 26) rfl ?_); refine goesL_ (some 38) rfl rfl Tryd.func26 (by kernel_rfl) rfl #[.string (strOfNums (rd_L1 t148 x26_1)), .string (⟨#[32]⟩ : ByteArray)] rfl (by (try simp only [List.map_toArray, List.map_cons, List.map_nil]); first | done | rfl | (simp only [List.length_drop, List.length_take]; rfl)) ?_; (with_reducible refine (strings_HasPrefix.calls (strOfNums (rd_L1 t148 x26_1)) (⟨#[32]⟩ : ByteArray) true _ A16.out).mono ?_); rintro e w' ⟨rfl, ⟨nd, rfl⟩⟩; refine ⟨_, rfl, ?_⟩))
          go_meet
          case rel => exact ⟨_, (true), (by first | rfl | (simp; done) | (simp [*]; done) | (simp [bne_nil8, beq_nil8]; done)), H', ⟨by have := HK1.out; first | omega | exact Nat.le_refl _⟩, ⟨by (with_reducible repeat (first | apply Kd.R_alloc | apply Kd.R_drewN | apply Kd.R_drew)); exact HO_5.out⟩, ⟨by (with_reducible repeat (first | apply Kd.S_alloc | apply Kd.S_drewN | apply Kd.S_drew)); exact HO_24.out⟩, ⟨by repeat (first | (with_reducible exact HR151_0.out) | (with_reducible refine Kd.C_alloc ?_ _) | (with_reducible refine Kd.C_drewN ?_ _) | (with_reducible refine Kd.C_drew ?_) | exact HR151_0.out)⟩, ⟨by repeat (first | (with_reducible first | exact HB.out | apply below_alloc | apply pw_below_drewN | apply below_drew1) | exact HB.out)⟩⟩
         ·replace c17 := Bool.eq_false_iff.mpr c17
          subst c17
          have H1 : ((strings_HasPrefix.f (strOfNums (rd_L1 t148 x26_1)) (⟨#[9]⟩ : ByteArray)).bind fun t153 => (head_Fields.j1 k1 l0 x5_1 x6_1 (wrap64 (x7_1 + ((strOfNums (rd_L1 t148 x26_1)).size : Int))) (strOfNums (rd_L1 t148 x26_1)) x7_1 t148 (t148.length : Int) x26_1 t153)) = some r := by (rw [if_neg (show ¬ (false = true) by decide)] at H) <;> exact H
          clear H
          have H := H1
          clear H1
          replace H := Option.bind_eq_some_iff.mp H
          obtain ⟨t153, A180, H⟩ := H
          replace H : (head_Fields.j1 k1 l0 x5_1 x6_1 (wrap64 (x7_1 + ((strOfNums (rd_L1 t148 x26_1)).size : Int))) (strOfNums (rd_L1 t148 x26_1)) x7_1 t148 (t148.length : Int) x26_1 t153) = some r := H
          have A18 := Aside0.mk A180
          clear A180
          have H' := Aside0.mk H
          clear H
          go_wp2_with (first | ((with_reducible refine gate_callee (f := 26) rfl ?_); refine goesL_ (some 38) rfl rfl Tryd.func26 (by kernel_rfl) rfl #[.string (strOfNums (rd_L1 t148 x26_1)), .string (⟨#[32]⟩ : ByteArray)] rfl (by (try simp only [List.map_toArray, List.map_cons, List.map_nil]); first | done | rfl | (simp only [List.length_drop, List.length_take]; rfl)) ?_; (with_reducible refine (strings_HasPrefix.calls (strOfNums (rd_L1 t148 x26_1)) (⟨#[32]⟩ : ByteArray) false _ A16.out).mono ?_); rintro e w' ⟨rfl, ⟨nd, rfl⟩⟩; refine ⟨_, rfl, ?_⟩) | (go_at_call 26; (with_reducible refine (strings_HasPrefix.calls (strOfNums (rd_L1 t148 x26_1)) (⟨#[9]⟩ : ByteArray) t153 _ A18.out).mono ?_); rintro e w' ⟨rfl, ⟨nd, rfl⟩⟩))
          go_meet
          case rel => exact ⟨_, (t153), (by first | rfl | (simp; done) | (simp [*]; done) | (simp [bne_nil8, beq_nil8]; done)), H', ⟨by have := HK1.out; first | omega | exact Nat.le_refl _⟩, ⟨by (with_reducible repeat (first | apply Kd.R_alloc | apply Kd.R_drewN | apply Kd.R_drew)); exact HO_5.out⟩, ⟨by (with_reducible repeat (first | apply Kd.S_alloc | apply Kd.S_drewN | apply Kd.S_drew)); exact HO_24.out⟩, ⟨by repeat (first | (with_reducible exact HR151_0.out) | (with_reducible refine Kd.C_alloc ?_ _) | (with_reducible refine Kd.C_drewN ?_ _) | (with_reducible refine Kd.C_drew ?_) | exact HR151_0.out)⟩, ⟨by repeat (first | (with_reducible first | exact HB.out | apply below_alloc | apply pw_below_drewN | apply below_drew1) | exact HB.out)⟩⟩
        case rest =>
         clear HC13
         try clear c1
         try clear p1
         try clear q1
         try clear hx1
         try clear hcv1
         try clear c2
         try clear p2
         try clear c3
         try clear c3b0
         try clear c3b1
         try clear c4
         try clear c4b0
         try clear c4b1
         try clear p6
         try clear c10
         try clear c10b0
         try clear c11
         try clear c11b0
         try clear c12
         try clear c12b0
         try clear c14
         try clear hcv14
         try clear c15
         try clear p15
         try clear q15
         try clear hx15
         try clear c17
         try clear hx151_0
         try clear p151
         try clear p2
         try clear q151
         obtain ⟨kq, x42_12, rfl, HA, HJ12, HO_5, HO_24, HR151_0, HB⟩ := hcut
         cases kq with
         | zero => exact absurd HA.out (by simp [head_Fields.j1])
         | succ kj12 =>
          have H := HA.out
          clear HA
          simp only [head_Fields.j1] at H
          by_cases c19 : x42_12 = true
          ·subst c19
           have H1 : (if x6_1 = true then (if 0 ≤ (wrap64 ((x5_1.length : Int) - 1)) then (if (wrap64 ((x5_1.length : Int) - 1)) < (x5_1.length : Int) then (head_Fields.l0 kj12 l0 (x5_1.set ((wrap64 ((x5_1.length : Int) - 1)) : Int).toNat (⟨(rd_T29 x5_1 (wrap64 ((x5_1.length : Int) - 1))).f0, (rd_T29 x5_1 (wrap64 ((x5_1.length : Int) - 1))).f1, (rd_T29 x5_1 (wrap64 ((x5_1.length : Int) - 1))).f2, (wrap64 (x7_1 + ((strOfNums (rd_L1 t148 x26_1)).size : Int)))⟩ : S29)) x6_1 (wrap64 (x7_1 + ((strOfNums (rd_L1 t148 x26_1)).size : Int))) t148 (t148.length : Int) (wrap64 (x26_1 + 1))) else (none)) else (none)) else (head_Fields.l0 kj12 l0 x5_1 x6_1 (wrap64 (x7_1 + ((strOfNums (rd_L1 t148 x26_1)).size : Int))) t148 (t148.length : Int) (wrap64 (x26_1 + 1)))) = some r := by (rw [if_pos rfl] at H) <;> exact H
           clear H
           have H := H1
           clear H1
           by_cases c20 : x6_1 = true
           ·subst c20
            have H1 : (if 0 ≤ (wrap64 ((x5_1.length : Int) - 1)) then (if (wrap64 ((x5_1.length : Int) - 1)) < (x5_1.length : Int) then (head_Fields.l0 kj12 l0 (x5_1.set ((wrap64 ((x5_1.length : Int) - 1)) : Int).toNat (⟨(rd_T29 x5_1 (wrap64 ((x5_1.length : Int) - 1))).f0, (rd_T29 x5_1 (wrap64 ((x5_1.length : Int) - 1))).f1, (rd_T29 x5_1 (wrap64 ((x5_1.length : Int) - 1))).f2, (wrap64 (x7_1 + ((strOfNums (rd_L1 t148 x26_1)).size : Int)))⟩ : S29)) true (wrap64 (x7_1 + ((strOfNums (rd_L1 t148 x26_1)).size : Int))) t148 (t148.length : Int) (wrap64 (x26_1 + 1))) else (none)) else (none)) = some r := by (rw [if_pos rfl] at H) <;> exact H
            clear H
            have H := H1
            clear H1
            obtain ⟨ji21, hji21⟩ : ∃ j_ : Int, (wrap64 ((x5_1.length : Int) - 1)) = j_ := ⟨_, rfl⟩
            replace H : (if 0 ≤ (ji21) then (if (ji21) < (x5_1.length : Int) then (head_Fields.l0 kj12 l0 (x5_1.set ((ji21) : Int).toNat (⟨(rd_T29 x5_1 (ji21)).f0, (rd_T29 x5_1 (ji21)).f1, (rd_T29 x5_1 (ji21)).f2, (wrap64 (x7_1 + ((strOfNums (rd_L1 t148 x26_1)).size : Int)))⟩ : S29)) true (wrap64 (x7_1 + ((strOfNums (rd_L1 t148 x26_1)).size : Int))) t148 (t148.length : Int) (wrap64 (x26_1 + 1))) else (none)) else (none)) = some r := by first | (rw [hji21] at H; exact H) | (simp only [hji21] at H ⊢; exact H)
            have hji21w : (IntKind.i64.wrap ((x5_1.length : Int) - 1)) = ji21 := (i64_w _).trans hji21
            by_cases c22 : 0 ≤ (ji21)
            ·rw [if_pos c22] at H
             have c22b0 : decide (0 ≤ (ji21)) = true := decide_eq_true c22
             clear c22
             by_cases c23 : (ji21) < (x5_1.length : Int)
             ·rw [if_pos c23] at H
              have c23b0 : decide ((ji21) < (x5_1.length : Int)) = true := decide_eq_true c23
              clear c23
              obtain ⟨y154, hy154⟩ : ∃ y_ : List (S29), y_ = (x5_1.set ((ji21) : Int).toNat (⟨(rd_T29 x5_1 (ji21)).f0, (rd_T29 x5_1 (ji21)).f1, (rd_T29 x5_1 (ji21)).f2, (wrap64 (x7_1 + ((strOfNums (rd_L1 t148 x26_1)).size : Int)))⟩ : S29)) := ⟨_, rfl⟩
              replace H : (head_Fields.l0 kj12 l0 y154 true (wrap64 (x7_1 + ((strOfNums (rd_L1 t148 x26_1)).size : Int))) t148 (t148.length : Int) (wrap64 (x26_1 + 1))) = some r := by first | (rw [hy154]; with_reducible exact H) | (have H2_ := (Option.bind_some _ _).symm.trans H; rw [hy154]; with_reducible exact H2_) | (have H2_ := (Option.bind_some _ _).symm.trans H; with_reducible exact H2_) | with_reducible exact H | (rw [hy154]; exact H) | exact H
              have Ny154 := Aside0.mk hy154
              clear hy154
              have H' := Aside0.mk H
              clear H
              obtain ⟨Ao25, co25, eo25⟩ := Kd.R_slice HO_5.out
              subst eo25
              have p24 : 0 ≤ ((ji21) : Int) := of_decide_eq_true (by first | (with_reducible assumption) | assumption)
              have q24 : ((ji21) : Int) < ((x5_1.length : Int) : Int) := of_decide_eq_true (by first | (with_reducible assumption) | assumption)
              obtain ⟨go24, co24, eo24, gb24, gl24, cl24, HG24⟩ := Kd.R_form HO_5.out (by omega)
              (first | cases eo24 | (injection eo24 with ea_ en_ ec_; (first | subst ea_ | (injection ea_ with ea_; subst ea_)); subst ec_; clear en_))
              have GB24 := Aside0.mk gb24
              have GG24 := Aside0.mk HG24
              clear gb24 gl24 HG24
              obtain ⟨ce24, hcl24, hM24, hcc24, hfr24⟩ := Kd.R_elem HO_5.out z29 ((ji21) : Int) p24 q24
              obtain rfl := k29_openM hM24
              have hx24_0 : wc.cell? ⟨go24, ((ji21) : Int).toNat * 4, none⟩ = some (.string ((rd_T29 x5_1 (ji21)).f0)) := hcc24 0 _ rfl
              have hx24_1 : wc.cell? ⟨go24, ((ji21) : Int).toNat * 4 + 1, none⟩ = some (.string ((rd_T29 x5_1 (ji21)).f1)) := hcc24 1 _ rfl
              have hx24_2 : wc.cell? ⟨go24, ((ji21) : Int).toNat * 4 + 2, none⟩ = some (.int .i64 ((rd_T29 x5_1 (ji21)).f2)) := hcc24 2 _ rfl
              have hx24_3 : wc.cell? ⟨go24, ((ji21) : Int).toNat * 4 + 3, none⟩ = some (.int .i64 ((rd_T29 x5_1 (ji21)).f3)) := hcc24 3 _ rfl
              have hf24_0 : wc.frozen? ⟨go24, ((ji21) : Int).toNat * 4, none⟩ = false := hfr24 0
              have hf24_1 : wc.frozen? ⟨go24, ((ji21) : Int).toNat * 4 + 1, none⟩ = false := hfr24 1
              have hf24_2 : wc.frozen? ⟨go24, ((ji21) : Int).toNat * 4 + 2, none⟩ = false := hfr24 2
              have hf24_3 : wc.frozen? ⟨go24, ((ji21) : Int).toNat * 4 + 3, none⟩ = false := hfr24 3
              clear hcl24 hcc24 hfr24 hM24
              replace p24 := eq_true p24
              replace q24 := eq_true q24
              have HX26 := Aside0.mk (show Kd.R k29 29 wc w.heap.size (fun _ => True) (.slice (some ⟨go24, 0, none⟩) x5_1.length co25) x5_1 from (by (with_reducible repeat (first | apply Kd.R_alloc | apply Kd.R_drewN | apply Kd.R_drew)); exact HO_5.out))
              obtain ⟨ce26, hcl26, hM26, hcc26, hfr26⟩ := Kd.R_elem HX26.out z29 ((ji21) : Int) (of_decide_eq_true (by first | (with_reducible assumption) | assumption)) (by have h_ : ((ji21) : Int) < ((x5_1.length : Int) : Int) := of_decide_eq_true (by first | (with_reducible assumption) | assumption); first | exact h_ | (have e_ := (Kd.R_reads' HO_5.out).1; omega) | simpa using h_)
              obtain rfl := k29_openM hM26
              have HP26 := Kd.R_seg HX26.out ((ji21) : Int) (of_decide_eq_true (by first | (with_reducible assumption) | assumption)) (by have h_ : ((ji21) : Int) < ((x5_1.length : Int) : Int) := of_decide_eq_true (by first | (with_reducible assumption) | assumption); first | exact h_ | (have e_ := (Kd.R_reads' HO_5.out).1; omega) | simpa using h_) (seg := [.int .i64 (wrap64 (x7_1 + ((strOfNums (rd_L1 t148 x26_1)).size : Int)))]) (j := 3) hcl26 hcc26 (show 4 ≤ 4 from by decide) (x' := (⟨(rd_T29 x5_1 (ji21)).f0, (rd_T29 x5_1 (ji21)).f1, (rd_T29 x5_1 (ji21)).f2, (wrap64 (x7_1 + ((strOfNums (rd_L1 t148 x26_1)).size : Int)))⟩ : S29)) (k29_mkM _ _ _ (⟨(rd_T29 x5_1 (ji21)).f0, (rd_T29 x5_1 (ji21)).f1, (rd_T29 x5_1 (ji21)).f2, (wrap64 (x7_1 + ((strOfNums (rd_L1 t148 x26_1)).size : Int)))⟩ : S29) ) (fun _ hk => hk)
              have hx26_3 := hcc26 3 _ rfl
              (try simp only [show (k29).sz = 4 from rfl, Nat.mul_one, Nat.add_zero] at hx26_3)
              have hf26_3 := hfr26 3
              (try simp only [show (k29).sz = 4 from rfl, Nat.mul_one, Nat.add_zero] at hf26_3)
              clear hcl26 hcc26 hfr26 hM26
              go_wp2_with (first | ((with_reducible refine gate_store (t := 3) (p := 50) rfl ?_); refine store_event (t := 3) (p := 50) (v := ?vo_w27) (w1 := (wc.setCell ⟨go24, ((ji21) : Int).toNat * 4 + 3, none⟩ (.int .i64 (wrap64 (x7_1 + ((strOfNums (rd_L1 t148 x26_1)).size : Int)))))) ?hg ?ho ?hn ?hr ?_; (case ho => rfl); (case hg => rfl); (case hn => rfl); (case hr => first | (go_simp; done) | (go_simp; rfl)); intro w27 hw; have hg : wc.grownBy w27 (some go24) := (by rw [hw]; exact HP26.2); have hp_ : Kd.R k29 29 w27 w.heap.size (fun _ => True) (.slice (some ⟨go24, 0, none⟩) x5_1.length co25) y154 := (by rw [hw, Ny154.out]; exact HP26.1); clear HP26; have n0_ := Aside0.mk (hp_); have n1_ := Aside0.mk (Kd.S_over' (v := (.slice (some ⟨go24, 0, none⟩) x5_1.length co25)) (by (with_reducible repeat (first | apply Kd.S_alloc | apply Kd.S_drewN | apply Kd.S_drew)); exact HO_24.out) (Kd.R_typed HO_5.out) (by decide) hg); have n2_ := Aside0.mk ((by rw [hw]; exact below_set (HB.out) GB24.out : Below w.heap.size w w27)); clear HO_5; clear HO_24; clear HB; have HO_5 := n0_; have HO_24 := n1_; have HB := n2_; clear n0_ n1_ n2_; clear hg hw hp_))
              go_roundg kj12
              case measure => have := HK1.out; have := HJ12.out; omega
              case rel => exact ⟨(y154), (true), ((wrap64 (x7_1 + ((strOfNums (rd_L1 t148 x26_1)).size : Int)))), (wrap64 (x26_1 + 1)), (by first | rfl | (simp; done) | (simp [*]; done) | (simp [bne_nil8, beq_nil8]; done)), (by first | rfl | (simp; done) | (simp [*]; done) | (simp [bne_nil8, beq_nil8]; done)), (by first | rfl | (simp; done) | (simp [*]; done) | (simp [bne_nil8, beq_nil8]; done)), H', ⟨by have := HK1.out; have := HJ12.out; omega⟩, ⟨by (with_reducible repeat (first | apply Kd.R_alloc | apply Kd.R_drewN | apply Kd.R_drew)); exact HO_5.out⟩, ⟨by (with_reducible repeat (first | apply Kd.S_alloc | apply Kd.S_drewN | apply Kd.S_drew)); exact HO_24.out⟩, ⟨by repeat (first | (with_reducible first | exact HB.out | apply below_alloc | apply pw_below_drewN | apply below_drew1) | exact HB.out)⟩⟩
             ·rw [if_neg c23] at H
              exact absurd H (by simp)
            ·rw [if_neg c22] at H
             exact absurd H (by simp)
           ·replace c20 := Bool.eq_false_iff.mpr c20
            subst c20
            have H1 : (head_Fields.l0 kj12 l0 x5_1 false (wrap64 (x7_1 + ((strOfNums (rd_L1 t148 x26_1)).size : Int))) t148 (t148.length : Int) (wrap64 (x26_1 + 1))) = some r := by (rw [if_neg (show ¬ (false = true) by decide)] at H) <;> exact H
            clear H
            have H := H1
            clear H1
            have H' := Aside0.mk H
            clear H
            go_wp2
            go_roundg kj12
            case measure => have := HK1.out; have := HJ12.out; omega
            case rel => exact ⟨(x5_1), (false), ((wrap64 (x7_1 + ((strOfNums (rd_L1 t148 x26_1)).size : Int)))), (wrap64 (x26_1 + 1)), (by first | rfl | (simp; done) | (simp [*]; done) | (simp [bne_nil8, beq_nil8]; done)), (by first | rfl | (simp; done) | (simp [*]; done) | (simp [bne_nil8, beq_nil8]; done)), (by first | rfl | (simp; done) | (simp [*]; done) | (simp [bne_nil8, beq_nil8]; done)), H', ⟨by have := HK1.out; have := HJ12.out; omega⟩, ⟨by (with_reducible repeat (first | apply Kd.R_alloc | apply Kd.R_drewN | apply Kd.R_drew)); exact HO_5.out⟩, ⟨by (with_reducible repeat (first | apply Kd.S_alloc | apply Kd.S_drewN | apply Kd.S_drew)); exact HO_24.out⟩, ⟨by repeat (first | (with_reducible first | exact HB.out | apply below_alloc | apply pw_below_drewN | apply below_drew1) | exact HB.out)⟩⟩
          ·replace c19 := Bool.eq_false_iff.mpr c19
           subst c19
           have H1 : ((head_name.f kj12 (strOfNums (rd_L1 t148 x26_1))).bind fun bt155 => (if bt155.2 = true then (if (x5_1.length : Int) < 500 then (if x5_1.length < 2932031007402 then (head_Fields.l0 kj12 l0 (x5_1 ++ [(⟨bt155.1, (⟨#[]⟩ : ByteArray), x7_1, (wrap64 (x7_1 + ((strOfNums (rd_L1 t148 x26_1)).size : Int)))⟩ : S29)]) (decide ((x5_1.length : Int) < 500)) (wrap64 (x7_1 + ((strOfNums (rd_L1 t148 x26_1)).size : Int))) t148 (t148.length : Int) (wrap64 (x26_1 + 1))) else (none)) else (head_Fields.l0 kj12 l0 x5_1 (decide ((x5_1.length : Int) < 500)) (wrap64 (x7_1 + ((strOfNums (rd_L1 t148 x26_1)).size : Int))) t148 (t148.length : Int) (wrap64 (x26_1 + 1)))) else (head_Fields.l0 kj12 l0 x5_1 false (wrap64 (x7_1 + ((strOfNums (rd_L1 t148 x26_1)).size : Int))) t148 (t148.length : Int) (wrap64 (x26_1 + 1))))) = some r := by (rw [if_neg (show ¬ (false = true) by decide)] at H) <;> exact H
           clear H
           have H := H1
           clear H1
           replace H := Option.bind_eq_some_iff.mp H
           obtain ⟨⟨t155, t156⟩, A280, H⟩ := H
           replace H : (if t156 = true then (if (x5_1.length : Int) < 500 then (if x5_1.length < 2932031007402 then (head_Fields.l0 kj12 l0 (x5_1 ++ [(⟨t155, (⟨#[]⟩ : ByteArray), x7_1, (wrap64 (x7_1 + ((strOfNums (rd_L1 t148 x26_1)).size : Int)))⟩ : S29)]) (decide ((x5_1.length : Int) < 500)) (wrap64 (x7_1 + ((strOfNums (rd_L1 t148 x26_1)).size : Int))) t148 (t148.length : Int) (wrap64 (x26_1 + 1))) else (none)) else (head_Fields.l0 kj12 l0 x5_1 (decide ((x5_1.length : Int) < 500)) (wrap64 (x7_1 + ((strOfNums (rd_L1 t148 x26_1)).size : Int))) t148 (t148.length : Int) (wrap64 (x26_1 + 1)))) else (head_Fields.l0 kj12 l0 x5_1 false (wrap64 (x7_1 + ((strOfNums (rd_L1 t148 x26_1)).size : Int))) t148 (t148.length : Int) (wrap64 (x26_1 + 1)))) = some r := H
           have A28 := Aside0.mk A280
           clear A280
           by_cases c29 : t156 = true
           ·subst c29
            have H1 : (if (x5_1.length : Int) < 500 then (if x5_1.length < 2932031007402 then (head_Fields.l0 kj12 l0 (x5_1 ++ [(⟨t155, (⟨#[]⟩ : ByteArray), x7_1, (wrap64 (x7_1 + ((strOfNums (rd_L1 t148 x26_1)).size : Int)))⟩ : S29)]) (decide ((x5_1.length : Int) < 500)) (wrap64 (x7_1 + ((strOfNums (rd_L1 t148 x26_1)).size : Int))) t148 (t148.length : Int) (wrap64 (x26_1 + 1))) else (none)) else (head_Fields.l0 kj12 l0 x5_1 (decide ((x5_1.length : Int) < 500)) (wrap64 (x7_1 + ((strOfNums (rd_L1 t148 x26_1)).size : Int))) t148 (t148.length : Int) (wrap64 (x26_1 + 1)))) = some r := by (rw [if_pos rfl] at H) <;> exact H
            clear H
            have H := H1
            clear H1
            by_cases c30 : (x5_1.length : Int) < 500
            ·rw [if_pos c30] at H
             have c30b0 : decide ((x5_1.length : Int) < 500) = true := decide_eq_true c30
             have c30b1 : decide (x5_1.length < 500) = true := decide_eq_true (by omega)
             clear c30
             by_cases c31 : x5_1.length < 2932031007402
             ·rw [if_pos c31] at H
              have LMc31 := Aside0.mk c31
              clear c31
              obtain ⟨y157, hy157⟩ : ∃ y_ : List (S29), y_ = (x5_1 ++ [(⟨t155, (⟨#[]⟩ : ByteArray), x7_1, (wrap64 (x7_1 + ((strOfNums (rd_L1 t148 x26_1)).size : Int)))⟩ : S29)]) := ⟨_, rfl⟩
              replace H : (head_Fields.l0 kj12 l0 y157 (decide ((x5_1.length : Int) < 500)) (wrap64 (x7_1 + ((strOfNums (rd_L1 t148 x26_1)).size : Int))) t148 (t148.length : Int) (wrap64 (x26_1 + 1))) = some r := by first | (rw [hy157]; with_reducible exact H) | (have H2_ := (Option.bind_some _ _).symm.trans H; rw [hy157]; with_reducible exact H2_) | (have H2_ := (Option.bind_some _ _).symm.trans H; with_reducible exact H2_) | with_reducible exact H | (rw [hy157]; exact H) | exact H
              have Ny157 := Aside0.mk hy157
              clear hy157
              have H' := Aside0.mk H
              clear H
              go_wp2_with (first | ((with_reducible refine gate_callee (f := 27) rfl ?_); refine goesL_ (some 53) rfl rfl Tryd.func27 (by kernel_rfl) rfl #[.string (strOfNums (rd_L1 t148 x26_1))] rfl (by (try simp only [List.map_toArray, List.map_cons, List.map_nil]); first | done | rfl | (simp only [List.length_drop, List.length_take]; rfl)) ?_; (with_reducible refine (head_name.calls kj12 (strOfNums (rd_L1 t148 x26_1)) t155 true _ A28.out).mono ?_); rintro e w' ⟨rfl, ⟨nd, rfl⟩⟩; refine ⟨_, rfl, ?_⟩; obtain ⟨Ao32, co32, eo32⟩ := Kd.R_slice HO_5.out; subst eo32) | ((with_reducible refine gate_builtin (b := .append) (xs := #[.tmp 63, .tmp 68]) rfl ?_); (try (refine gate_guard (by rfl) ?_; dsimp only)); at_builtin; refine Kd.R_append k29 (w0 := w) w.heap.size rfl (.tmp 63) (.tmp 68) 25 29 (.agg #[(.string ⟨#[]⟩), (.string ⟨#[]⟩), (.int .i64 0), (.int .i64 0)]) 48 rfl Tryd.underlying25 info29 rfl (by decide) (by omega) (.slice Ao32 x5_1.length co32) x5_1 (⟨t155, (⟨#[]⟩ : ByteArray), x7_1, (wrap64 (x7_1 + ((strOfNums (rd_L1 t148 x26_1)).size : Int)))⟩ : S29) [.string t155, .string (⟨#[]⟩ : ByteArray), .int .i64 x7_1, .int .i64 (wrap64 (x7_1 + ((strOfNums (rd_L1 t148 x26_1)).size : Int)))] (fun _ => True) (fun _ => False) rfl rfl ?aP (fun _ hk => hk.elim) ?aF ?aO ?aB ?aS ?aL ?_; (case aP => exact k29_mkM _ _ _ (⟨t155, (⟨#[]⟩ : ByteArray), x7_1, (wrap64 (x7_1 + ((strOfNums (rd_L1 t148 x26_1)).size : Int)))⟩ : S29)); (case aB => exact (by repeat (first | (with_reducible first | exact HB.out | apply below_alloc | apply pw_below_drewN | apply below_drew1) | exact HB.out))); (case aF => exact (fun _ _ => trivial)); (case aO => exact (by (with_reducible repeat (first | apply Kd.R_alloc | apply Kd.R_drewN | apply Kd.R_drew)); exact HO_5.out)); (case aS => exact (below_size (by repeat (first | (with_reducible first | exact HB.out | apply below_alloc | apply pw_below_drewN | apply below_drew1) | exact HB.out)))); (case aL => have := LMc31.out; omega); intro v158 w33 ho hb hg hat; rw [← Ny157.out] at ho; have n0_ := Aside0.mk (Kd.S_over' (by (with_reducible repeat (first | apply Kd.S_alloc | apply Kd.S_drewN | apply Kd.S_drew)); exact HO_24.out) (Kd.R_typed (by (with_reducible repeat (first | apply Kd.R_alloc | apply Kd.R_drewN | apply Kd.R_drew)); exact HO_5.out)) (by decide) hg); have n1_ := Aside0.mk (hb); have n2_ := Aside0.mk (ho); clear HO_24; clear HB; clear HO_5; have HO_24 := n0_; have HB := n1_; have HO159 := n2_; clear n0_ n1_ n2_; clear ho hb hg hat))
              go_roundg kj12
              case measure => have := HK1.out; have := HJ12.out; omega
              case rel => exact ⟨(y157), (decide ((x5_1.length : Int) < 500)), ((wrap64 (x7_1 + ((strOfNums (rd_L1 t148 x26_1)).size : Int)))), (wrap64 (x26_1 + 1)), (by first | rfl | (simp; done) | (simp [*]; done) | (simp [bne_nil8, beq_nil8]; done)), (by first | rfl | (simp; done) | (simp [*]; done) | (simp [bne_nil8, beq_nil8]; done)), (by first | rfl | (simp; done) | (simp [*]; done) | (simp [bne_nil8, beq_nil8]; done)), H', ⟨by have := HK1.out; have := HJ12.out; omega⟩, ⟨by (with_reducible repeat (first | apply Kd.R_alloc | apply Kd.R_drewN | apply Kd.R_drew)); exact HO159.out⟩, ⟨by (with_reducible repeat (first | apply Kd.S_alloc | apply Kd.S_drewN | apply Kd.S_drew)); exact HO_24.out⟩, ⟨by repeat (first | (with_reducible first | exact HB.out | apply below_alloc | apply pw_below_drewN | apply below_drew1) | exact HB.out)⟩⟩
             ·rw [if_neg c31] at H
              exact absurd H (by simp)
            ·rw [if_neg c30] at H
             have c30b0 : decide ((x5_1.length : Int) < 500) = false := decide_eq_false c30
             have c30b1 : decide (x5_1.length < 500) = false := decide_eq_false (by omega)
             clear c30
             have H' := Aside0.mk H
             clear H
             go_wp2_with (first | ((with_reducible refine gate_callee (f := 27) rfl ?_); refine goesL_ (some 53) rfl rfl Tryd.func27 (by kernel_rfl) rfl #[.string (strOfNums (rd_L1 t148 x26_1))] rfl (by (try simp only [List.map_toArray, List.map_cons, List.map_nil]); first | done | rfl | (simp only [List.length_drop, List.length_take]; rfl)) ?_; (with_reducible refine (head_name.calls kj12 (strOfNums (rd_L1 t148 x26_1)) t155 true _ A28.out).mono ?_); rintro e w' ⟨rfl, ⟨nd, rfl⟩⟩; refine ⟨_, rfl, ?_⟩; obtain ⟨Ao34, co34, eo34⟩ := Kd.R_slice HO_5.out; subst eo34))
             go_roundg kj12
             case measure => have := HK1.out; have := HJ12.out; omega
             case rel => exact ⟨(x5_1), (decide ((x5_1.length : Int) < 500)), ((wrap64 (x7_1 + ((strOfNums (rd_L1 t148 x26_1)).size : Int)))), (wrap64 (x26_1 + 1)), (by first | rfl | (simp; done) | (simp [*]; done) | (simp [bne_nil8, beq_nil8]; done)), (by first | rfl | (simp; done) | (simp [*]; done) | (simp [bne_nil8, beq_nil8]; done)), (by first | rfl | (simp; done) | (simp [*]; done) | (simp [bne_nil8, beq_nil8]; done)), H', ⟨by have := HK1.out; have := HJ12.out; omega⟩, ⟨by (with_reducible repeat (first | apply Kd.R_alloc | apply Kd.R_drewN | apply Kd.R_drew)); exact HO_5.out⟩, ⟨by (with_reducible repeat (first | apply Kd.S_alloc | apply Kd.S_drewN | apply Kd.S_drew)); exact HO_24.out⟩, ⟨by repeat (first | (with_reducible first | exact HB.out | apply below_alloc | apply pw_below_drewN | apply below_drew1) | exact HB.out)⟩⟩
           ·replace c29 := Bool.eq_false_iff.mpr c29
            subst c29
            have H1 : (head_Fields.l0 kj12 l0 x5_1 false (wrap64 (x7_1 + ((strOfNums (rd_L1 t148 x26_1)).size : Int))) t148 (t148.length : Int) (wrap64 (x26_1 + 1))) = some r := by (rw [if_neg (show ¬ (false = true) by decide)] at H) <;> exact H
            clear H
            have H := H1
            clear H1
            have H' := Aside0.mk H
            clear H
            go_wp2_with (first | ((with_reducible refine gate_callee (f := 27) rfl ?_); refine goesL_ (some 53) rfl rfl Tryd.func27 (by kernel_rfl) rfl #[.string (strOfNums (rd_L1 t148 x26_1))] rfl (by (try simp only [List.map_toArray, List.map_cons, List.map_nil]); first | done | rfl | (simp only [List.length_drop, List.length_take]; rfl)) ?_; (with_reducible refine (head_name.calls kj12 (strOfNums (rd_L1 t148 x26_1)) t155 false _ A28.out).mono ?_); rintro e w' ⟨rfl, ⟨nd, rfl⟩⟩; refine ⟨_, rfl, ?_⟩))
            go_roundg kj12
            case measure => have := HK1.out; have := HJ12.out; omega
            case rel => exact ⟨(x5_1), (false), ((wrap64 (x7_1 + ((strOfNums (rd_L1 t148 x26_1)).size : Int)))), (wrap64 (x26_1 + 1)), (by first | rfl | (simp; done) | (simp [*]; done) | (simp [bne_nil8, beq_nil8]; done)), (by first | rfl | (simp; done) | (simp [*]; done) | (simp [bne_nil8, beq_nil8]; done)), (by first | rfl | (simp; done) | (simp [*]; done) | (simp [bne_nil8, beq_nil8]; done)), H', ⟨by have := HK1.out; have := HJ12.out; omega⟩, ⟨by (with_reducible repeat (first | apply Kd.R_alloc | apply Kd.R_drewN | apply Kd.R_drew)); exact HO_5.out⟩, ⟨by (with_reducible repeat (first | apply Kd.S_alloc | apply Kd.S_drewN | apply Kd.S_drew)); exact HO_24.out⟩, ⟨by repeat (first | (with_reducible first | exact HB.out | apply below_alloc | apply pw_below_drewN | apply below_drew1) | exact HB.out)⟩⟩
       ·rw [if_neg c12] at H
        exact absurd H (by simp)
      ·rw [if_neg c11] at H
       exact absurd H (by simp)
     ·rw [if_neg c10] at H
      have c10b0 : decide (x26_1 < (t148.length : Int)) = false := decide_eq_false c10
      clear c10
      have H' := Aside0.mk H
      clear H
      obtain ⟨Ao35, co35, eo35⟩ := Kd.R_slice HO_5.out
      subst eo35
      go_wp2
      go_loopg [73] k1 (fun kq v73 w' => ∃ (x5_2 : List (S29)) (x73_2 : Int), v73 = .int .i64 x73_2 ∧ Aside0 (head_Fields.l1 kq l0 x5_2 (x5_1.length : Int) x73_2 = some r) ∧ Aside0 (kq ≤ k1) ∧ Aside0 (Kd.R k29 29 w' w.heap.size (fun _ => True) (.slice Ao35 x5_1.length co35) x5_2) ∧ Aside0 (Below w.heap.size w w'))
      case atStart => exact ⟨(x5_1), (0), (by first | rfl | (simp; done) | (simp [*]; done) | (simp [bne_nil8, beq_nil8]; done)), H', ⟨Nat.le_refl _⟩, ⟨by (with_reducible repeat (first | apply Kd.R_alloc | apply Kd.R_drewN | apply Kd.R_drew)); exact HO_5.out⟩, ⟨by repeat (first | (with_reducible first | exact HB.out | apply below_alloc | apply pw_below_drewN | apply below_drew1) | exact HB.out)⟩⟩
      case round =>
       clear H'
       try clear c1
       try clear p1
       try clear q1
       try clear hx1
       try clear hcv1
       try clear c2
       try clear p2
       try clear q2
       try clear hx2
       try clear hf2
       try clear c3
       try clear c3b0
       try clear c3b1
       try clear c4
       try clear c4b0
       try clear c4b1
       try clear p6
       try clear c10
       try clear c10b0
       try clear c11
       try clear c11b0
       try clear c12
       try clear c12b0
       try clear c14
       try clear hcv14
       try clear c15
       try clear p15
       try clear q15
       try clear hx15
       try clear c17
       try clear c19
       try clear c20
       try clear c22
       try clear c22b0
       try clear c23
       try clear c23b0
       try clear c24
       try clear p24
       try clear q24
       try clear hx24
       try clear hf24
       try clear c25
       try clear c26
       try clear hx26
       try clear hf26
       try clear c27
       try clear c29
       try clear c30
       try clear c30b0
       try clear c30b1
       try clear c31
       try clear hx151_0
       try clear hx24_0
       try clear hx24_1
       try clear hx24_2
       try clear hx24_3
       try clear hx26_3
       try clear p1
       try clear p15
       try clear p151
       try clear p2
       try clear p24
       try clear p6
       try clear q1
       try clear q15
       try clear q151
       try clear q24
       obtain ⟨x5_2, x73_2, rfl, HA, HK2, HO_5, HB⟩ := hrel
       have hl5_2 := (Kd.R_reads' HO_5.out).1
       rw [hl5_2] at HO_5
       (try simp only [hl5_2])
       cases gk with
       | zero => exact absurd HA.out (by simp [head_Fields.l1])
       | succ k2 =>
        have H := HA.out
        clear HA
        simp only [head_Fields.l1] at H
        by_cases c36 : x73_2 < (x5_1.length : Int)
        ·rw [if_pos c36] at H
         have c36b0 : decide (x73_2 < (x5_1.length : Int)) = true := decide_eq_true c36
         have c36b0l := c36b0
         (try simp only [hl5_2] at c36b0l)
         clear c36
         by_cases c37 : 0 ≤ x73_2
         ·rw [if_pos c37] at H
          have c37b0 : decide (0 ≤ x73_2) = true := decide_eq_true c37
          clear c37
          by_cases c38 : x73_2 < (x5_2.length : Int)
          ·rw [if_pos c38] at H
           have c38b0 : decide (x73_2 < (x5_2.length : Int)) = true := decide_eq_true c38
           have c38b0l := c38b0
           (try simp only [hl5_2] at c38b0l)
           clear c38
           obtain ⟨ji39, hji39⟩ : ∃ j_ : Int, (wrap64 ((wrap64 (((rd_T29 x5_2 x73_2).f2) + (((rd_T29 x5_2 x73_2).f0).size : Int))) + 1)) = j_ := ⟨_, rfl⟩
           replace H : (if 0 ≤ (ji39) then (if (ji39) ≤ ((rd_T29 x5_2 x73_2).f3) then (if ((rd_T29 x5_2 x73_2).f3) ≤ (l0.length : Int) then ((head_Value.f (strOfNums ((l0.take (((rd_T29 x5_2 x73_2).f3) : Int).toNat).drop ((ji39) : Int).toNat))).bind fun t163 => (head_Fields.l1 k2 l0 (x5_2.set (x73_2 : Int).toNat (⟨(rd_T29 x5_2 x73_2).f0, t163, (rd_T29 x5_2 x73_2).f2, (rd_T29 x5_2 x73_2).f3⟩ : S29)) (x5_1.length : Int) (wrap64 (x73_2 + 1)))) else (none)) else (none)) else (none)) = some r := by first | (rw [hji39] at H; exact H) | (simp only [hji39] at H ⊢; exact H)
           have hji39w : (IntKind.i64.wrap ((wrap64 (((rd_T29 x5_2 x73_2).f2) + (((rd_T29 x5_2 x73_2).f0).size : Int))) + 1)) = ji39 := (i64_w _).trans hji39
           by_cases c40 : 0 ≤ (ji39)
           ·rw [if_pos c40] at H
            have c40b0 := eq_true c40
            have c40b1 : decide (0 ≤ (ji39)) = true := decide_eq_true c40
            clear c40
            by_cases c41 : (ji39) ≤ ((rd_T29 x5_2 x73_2).f3)
            ·rw [if_pos c41] at H
             have c41b0 := eq_true c41
             have c41b1 : decide ((ji39) ≤ ((rd_T29 x5_2 x73_2).f3)) = true := decide_eq_true c41
             clear c41
             by_cases c42 : ((rd_T29 x5_2 x73_2).f3) ≤ (l0.length : Int)
             ·rw [if_pos c42] at H
              have c42b0 := eq_true c42
              have c42b1 : decide (((rd_T29 x5_2 x73_2).f3) ≤ (l0.length : Int)) = true := decide_eq_true c42
              have c42b1l := c42b1
              (try simp only [hl5_2] at c42b1l)
              clear c42
              replace H := Option.bind_eq_some_iff.mp H
              obtain ⟨t163, A430, H⟩ := H
              replace H : (head_Fields.l1 k2 l0 (x5_2.set (x73_2 : Int).toNat (⟨(rd_T29 x5_2 x73_2).f0, t163, (rd_T29 x5_2 x73_2).f2, (rd_T29 x5_2 x73_2).f3⟩ : S29)) (x5_1.length : Int) (wrap64 (x73_2 + 1))) = some r := H
              have A43 := Aside0.mk A430
              clear A430
              obtain ⟨y164, hy164⟩ : ∃ y_ : List (S29), y_ = (x5_2.set (x73_2 : Int).toNat (⟨(rd_T29 x5_2 x73_2).f0, t163, (rd_T29 x5_2 x73_2).f2, (rd_T29 x5_2 x73_2).f3⟩ : S29)) := ⟨_, rfl⟩
              replace H : (head_Fields.l1 k2 l0 y164 (x5_1.length : Int) (wrap64 (x73_2 + 1))) = some r := by first | (rw [hy164]; with_reducible exact H) | (have H2_ := (Option.bind_some _ _).symm.trans H; rw [hy164]; with_reducible exact H2_) | (have H2_ := (Option.bind_some _ _).symm.trans H; with_reducible exact H2_) | with_reducible exact H | (rw [hy164]; exact H) | exact H
              have Ny164 := Aside0.mk hy164
              clear hy164
              have H' := Aside0.mk H
              clear H
              have p160 : 0 ≤ (x73_2 : Int) := of_decide_eq_true (by first | (with_reducible assumption) | assumption)
              have q160 : x73_2 < (x5_2.length : Int) := of_decide_eq_true (by first | (with_reducible assumption) | assumption)
              obtain ⟨ad160, e160, hx160_0, hx160_1, hx160_2, hx160_3⟩ := at_T29 (Kd.R_reads' HO_5.out).2.2 x73_2 p160 q160
              cases e160
              replace p160 := eq_true p160
              replace q160 := eq_true q160
              go_wp2_with (first | ((with_reducible refine gate_dst (N := 15) rfl ?_); (try (refine gate_guard (by rfl) ?_; dsimp only)); refine box_event ?hg (N := 15) ?hd (cs := #[.string (⟨#[]⟩ : ByteArray), .string (⟨#[]⟩ : ByteArray), .int .i64 0, .int .i64 0]) (t := 29) ?hr ?_; (case hd => rfl); (case hg => rfl); (case hr => first | (go_simp; done) | (go_simp; rfl)); intro gb161 hg w45 hbox hb; have n0_ := Aside0.mk (Kd.R_below (Kd.R_elderB (by (with_reducible repeat (first | apply Kd.R_alloc | apply Kd.R_drewN | apply Kd.R_drew)); exact HO_5.out) gb161 (Nat.le_of_eq hg.symm)) hb); have n1_ := Aside0.mk (below_step (by repeat (first | (with_reducible first | exact HB.out | apply below_alloc | apply pw_below_drewN | apply below_drew1) | exact HB.out)) hb); have n2_ := Aside0.mk (hbox); have n3_ := Aside0.mk ((by rw [hg]; exact (below_size (by repeat (first | (with_reducible first | exact HB.out | apply below_alloc | apply pw_below_drewN | apply below_drew1) | exact HB.out))) : w.heap.size ≤ gb161)); have n4_ := Aside0.mk ((by rw [hg]; exact (below_size (by repeat (first | (with_reducible first | exact HB.out | apply below_alloc | apply pw_below_drewN | apply below_drew1) | exact HB.out))) : w.heap.size ≤ gb161)); clear HO_5; clear HB; have HO_5 := n0_; have HB := n1_; have BK161 := n2_; have GW161 := n3_; have GE161 := n4_; clear n0_ n1_ n2_ n3_ n4_; clear hb hbox hg; have hcz46_0 : w45.cell? ⟨gb161, 0, none⟩ = some (.string (⟨#[]⟩ : ByteArray)) := (blk_cell BK161.out 0).trans rfl; have hcz46_1 : w45.cell? ⟨gb161, 1, none⟩ = some (.string (⟨#[]⟩ : ByteArray)) := (blk_cell BK161.out 1).trans rfl; have hcz46_2 : w45.cell? ⟨gb161, 2, none⟩ = some (.int .i64 0) := (blk_cell BK161.out 2).trans rfl; have hcz46_3 : w45.cell? ⟨gb161, 3, none⟩ = some (.int .i64 0) := (blk_cell BK161.out 3).trans rfl; have hfz46_0 := blk_frozen BK161.out 0; have hfz46_1 := blk_frozen BK161.out 1; have hfz46_2 := blk_frozen BK161.out 2; have hfz46_3 := blk_frozen BK161.out 3; obtain ⟨i047, hi047, _, hsz47, _⟩ := info_parts info5; obtain ⟨A47, hcut47, hA47, hC47⟩ := print_mid_of (P := Tryd.prog) (Value.int .u8) 0 27 5 .i64 .i64 Tryd.underlying27 hi047 hsz47 A0 c0 l0 (ji39) ((rd_T29 x5_2 x73_2).f3) (of_decide_eq_true (by first | (with_reducible assumption) | assumption)) (by first | omega | exact of_decide_eq_true (by first | (with_reducible assumption) | assumption)) (of_decide_eq_true (by first | (with_reducible assumption) | assumption)) HC0.out; have HR162 := Aside0.mk (Kd.C_of_reads (h1 := fun _ => rfl) (hA47 _ (Kd.reads_of_C HR0.out))); have HC162 := Aside0.mk hC47; clear hA47 hC47 hi047 hsz47; have hcv48 := Kd.C_string (P := Tryd.prog) (A := A47) (c := (c0 - (ji39).toNat)) Tryd.underlying27 Tryd.underlying5 Tryd.underlying9 (Kd.C_below HR162.out HB.out); have hcw49 := fun n_ : Nat => Kd.C_string (P := Tryd.prog) (A := A47) (c := (c0 - (ji39).toNat)) Tryd.underlying27 Tryd.underlying5 Tryd.underlying9 (Kd.C_drewN (Kd.C_below HR162.out HB.out) n_); have hcx49 := fun (v0_ v1_ v2_ v3_ : Value) => Kd.C_string (P := Tryd.prog) (A := A47) (c := (c0 - (ji39).toNat)) Tryd.underlying27 Tryd.underlying5 Tryd.underlying9 (Kd.C_below HR162.out (below_set (g := gb161) (j := 3) (v := v3_) (below_set (g := gb161) (j := 2) (v := v2_) (below_set (g := gb161) (j := 1) (v := v1_) (below_set (g := gb161) (j := 0) (v := v0_) HB.out GE161.out) GE161.out) GE161.out) GE161.out)); have hcx49s := hcx49; (try simp only [List.length_drop, List.length_take] at hcx49s); (try rw [Nat.min_eq_left (show (((rd_T29 x5_2 x73_2).f3) : Int).toNat ≤ l0.length by have hz_ := of_eq_true (show (((rd_T29 x5_2 x73_2).f3) ≤ (l0.length : Int)) = True by assumption); omega)] at hcx49s)) | ((with_reducible refine gate_callee (f := 11) rfl ?_); refine goesL_ (some 92) rfl rfl Tryd.func11 (by kernel_rfl) rfl #[.string (strOfNums ((l0.take (((rd_T29 x5_2 x73_2).f3) : Int).toNat).drop ((ji39) : Int).toNat))] rfl (by (try simp only [List.map_toArray, List.map_cons, List.map_nil]); first | done | (simp only [hji39]; rfl) | rfl | (simp only [List.length_drop, List.length_take]; rfl)) ?_; (with_reducible refine (head_Value.calls (strOfNums ((l0.take (((rd_T29 x5_2 x73_2).f3) : Int).toNat).drop ((ji39) : Int).toNat)) t163 _ ?side1 A43.out).mono ?_); (case side1 => exact Gl.below HG.out (by repeat (first | (with_reducible first | exact HB.out | apply below_alloc | apply pw_below_drewN | apply below_drew1 | refine below_set ?_ GE161.out) | exact HB.out))); rintro e w50 ⟨rfl, hb⟩; refine ⟨_, rfl, ?_⟩; have n0_ := Aside0.mk (Kd.R_below (by (with_reducible repeat (first | apply Kd.R_alloc | apply Kd.R_drewN | apply Kd.R_drew)); exact (Kd.R_mono (Kd.R_far (p := ⟨gb161, 3, none⟩) (Kd.R_far (p := ⟨gb161, 2, none⟩) (Kd.R_far (p := ⟨gb161, 1, none⟩) (Kd.R_far (p := ⟨gb161, 0, none⟩) (Kd.R_mono HO_5.out (fun k_ hk => (⟨hk, hk.2⟩ : _ ∧ k_ ≠ gb161))) (fun _ hk => hk.2) (.string ((rd_T29 x5_2 x73_2).f0))) (fun _ hk => hk.2) (.string ((rd_T29 x5_2 x73_2).f1))) (fun _ hk => hk.2) (.int .i64 ((rd_T29 x5_2 x73_2).f2))) (fun _ hk => hk.2) (.int .i64 ((rd_T29 x5_2 x73_2).f3))) (fun _ h_ => h_.1))) hb); have n1_ := Aside0.mk (blk_below (g := gb161) (o := .cells #[.string ((rd_T29 x5_2 x73_2).f0), .string ((rd_T29 x5_2 x73_2).f1), .int .i64 ((rd_T29 x5_2 x73_2).f2), .int .i64 ((rd_T29 x5_2 x73_2).f3)] 29 (0, 0)) (by (with_reducible repeat (first | refine blk_drewN ?_ _ | refine blk_drew ?_ | refine blk_alloc ?_ _)); (first | refine blk_put (cs := #[.string ((rd_T29 x5_2 x73_2).f0), .string ((rd_T29 x5_2 x73_2).f1), .int .i64 ((rd_T29 x5_2 x73_2).f2), .int .i64 0]) ?_ 3 _ rfl | refine blk_put (cs := #[.string ((rd_T29 x5_2 x73_2).f0), .string ((rd_T29 x5_2 x73_2).f1), .int .i64 ((rd_T29 x5_2 x73_2).f2), .int .i64 0]) ?_ 3 _ (by first | rfl | (simp; done))); (with_reducible repeat (first | refine blk_drewN ?_ _ | refine blk_drew ?_ | refine blk_alloc ?_ _)); (first | refine blk_put (cs := #[.string ((rd_T29 x5_2 x73_2).f0), .string ((rd_T29 x5_2 x73_2).f1), .int .i64 0, .int .i64 0]) ?_ 2 _ rfl | refine blk_put (cs := #[.string ((rd_T29 x5_2 x73_2).f0), .string ((rd_T29 x5_2 x73_2).f1), .int .i64 0, .int .i64 0]) ?_ 2 _ (by first | rfl | (simp; done))); (with_reducible repeat (first | refine blk_drewN ?_ _ | refine blk_drew ?_ | refine blk_alloc ?_ _)); (first | refine blk_put (cs := #[.string ((rd_T29 x5_2 x73_2).f0), .string (⟨#[]⟩ : ByteArray), .int .i64 0, .int .i64 0]) ?_ 1 _ rfl | refine blk_put (cs := #[.string ((rd_T29 x5_2 x73_2).f0), .string (⟨#[]⟩ : ByteArray), .int .i64 0, .int .i64 0]) ?_ 1 _ (by first | rfl | (simp; done))); (with_reducible repeat (first | refine blk_drewN ?_ _ | refine blk_drew ?_ | refine blk_alloc ?_ _)); (first | refine blk_put (cs := #[.string (⟨#[]⟩ : ByteArray), .string (⟨#[]⟩ : ByteArray), .int .i64 0, .int .i64 0]) ?_ 0 _ rfl | refine blk_put (cs := #[.string (⟨#[]⟩ : ByteArray), .string (⟨#[]⟩ : ByteArray), .int .i64 0, .int .i64 0]) ?_ 0 _ (by first | rfl | (simp; done))); (with_reducible repeat (first | refine blk_drewN ?_ _ | refine blk_drew ?_ | refine blk_alloc ?_ _)); exact BK161.out) hb); have n2_ := Aside0.mk (below_step (by repeat (first | (with_reducible first | exact HB.out | apply below_alloc | apply pw_below_drewN | apply below_drew1 | refine below_set ?_ GE161.out) | exact HB.out)) hb); clear HO_5; clear BK161; clear HB; have HO_5 := n0_; have BK161 := n1_; have HB := n2_; clear n0_ n1_ n2_; (try clear hb); (try clear hb2); (try clear hk); (try clear hi); have p44 : 0 ≤ (x73_2 : Int) := of_decide_eq_true (by first | (with_reducible assumption) | assumption); have q44 : (x73_2 : Int) < ((x5_2.length : Int) : Int) := of_decide_eq_true (by first | (with_reducible assumption) | assumption); obtain ⟨go44, co44, eo44, gb44, gl44, cl44, HG44⟩ := Kd.R_form HO_5.out (by omega); (first | cases eo44 | (injection eo44 with ea_ en_ ec_; (first | subst ea_ | (injection ea_ with ea_; subst ea_)); subst ec_; clear en_)); have GB44 := Aside0.mk gb44; have GG44 := Aside0.mk HG44; clear gb44 gl44 HG44; (first | simp only [add_plain] at hx160_0 | skip); (first | simp only [add_plain] at hx160_1 | skip); (first | simp only [add_plain] at hx160_2 | skip); (first | simp only [add_plain] at hx160_3 | skip); obtain ⟨ce44, hcl44, hM44, hcc44, hfr44⟩ := Kd.R_elem HO_5.out z29 (x73_2 : Int) p44 q44; obtain rfl := k29_openM hM44; have hx44_0 : w50.cell? ⟨go44, (x73_2 : Int).toNat * 4, none⟩ = some (.string ((rd_T29 x5_2 x73_2).f0)) := hcc44 0 _ rfl; have hx44_1 : w50.cell? ⟨go44, (x73_2 : Int).toNat * 4 + 1, none⟩ = some (.string ((rd_T29 x5_2 x73_2).f1)) := hcc44 1 _ rfl; have hx44_2 : w50.cell? ⟨go44, (x73_2 : Int).toNat * 4 + 2, none⟩ = some (.int .i64 ((rd_T29 x5_2 x73_2).f2)) := hcc44 2 _ rfl; have hx44_3 : w50.cell? ⟨go44, (x73_2 : Int).toNat * 4 + 3, none⟩ = some (.int .i64 ((rd_T29 x5_2 x73_2).f3)) := hcc44 3 _ rfl; have hf44_0 : w50.frozen? ⟨go44, (x73_2 : Int).toNat * 4, none⟩ = false := hfr44 0; have hf44_1 : w50.frozen? ⟨go44, (x73_2 : Int).toNat * 4 + 1, none⟩ = false := hfr44 1; have hf44_2 : w50.frozen? ⟨go44, (x73_2 : Int).toNat * 4 + 2, none⟩ = false := hfr44 2; have hf44_3 : w50.frozen? ⟨go44, (x73_2 : Int).toNat * 4 + 3, none⟩ = false := hfr44 3; clear hcl44 hcc44 hfr44 hM44; replace p44 := eq_true p44; replace q44 := eq_true q44; have n_ := Aside0.mk (Kd.R_mono (ok' := (fun k_ => k_ ≠ gb161)) HO_5.out (fun k_ hk => hk.2)); clear HO_5; have HO_5 := n_; clear n_; have HX51 := Aside0.mk (show Kd.R k29 29 w50 w.heap.size (fun k_ => k_ ≠ gb161) (.slice (some ⟨go44, 0, none⟩) x5_2.length co35) x5_2 from (by (with_reducible repeat (first | apply Kd.R_alloc | apply Kd.R_drewN | apply Kd.R_drew)); exact HO_5.out)); obtain ⟨ce51, hcl51, hM51, hcc51, hfr51⟩ := Kd.R_elem HX51.out z29 (x73_2 : Int) (of_decide_eq_true (by first | (with_reducible assumption) | assumption)) (by have h_ : (x73_2 : Int) < ((x5_2.length : Int) : Int) := of_decide_eq_true (by first | (with_reducible assumption) | assumption); first | exact h_ | (have e_ := (Kd.R_reads' HO_5.out).1; omega) | simpa using h_); obtain rfl := k29_openM hM51; have HP51 := Kd.R_seg HX51.out (x73_2 : Int) (of_decide_eq_true (by first | (with_reducible assumption) | assumption)) (by have h_ : (x73_2 : Int) < ((x5_2.length : Int) : Int) := of_decide_eq_true (by first | (with_reducible assumption) | assumption); first | exact h_ | (have e_ := (Kd.R_reads' HO_5.out).1; omega) | simpa using h_) (seg := [.string t163]) (j := 1) hcl51 hcc51 (show 2 ≤ 4 from by decide) (x' := (⟨(rd_T29 x5_2 x73_2).f0, t163, (rd_T29 x5_2 x73_2).f2, (rd_T29 x5_2 x73_2).f3⟩ : S29)) (k29_mkM _ _ _ (⟨(rd_T29 x5_2 x73_2).f0, t163, (rd_T29 x5_2 x73_2).f2, (rd_T29 x5_2 x73_2).f3⟩ : S29) ) (fun _ hk => hk); have hx51_1 := hcc51 1 _ rfl; (try simp only [show (k29).sz = 4 from rfl, Nat.mul_one, Nat.add_zero] at hx51_1); have hf51_1 := hfr51 1; (try simp only [show (k29).sz = 4 from rfl, Nat.mul_one, Nat.add_zero] at hf51_1); clear hcl51 hcc51 hfr51 hM51) | ((with_reducible refine gate_store (t := 9) (p := 94) rfl ?_); refine store_event (t := 9) (p := 94) (v := ?vo_w52) (w1 := (w50.setCell ⟨go44, (x73_2 : Int).toNat * 4 + 1, none⟩ (.string t163))) ?hg ?ho ?hn ?hr ?_; (case ho => rfl); (case hg => rfl); (case hn => rfl); (case hr => first | (go_simp; done) | (go_simp; rfl)); intro w52 hw; have hg : w50.grownBy w52 (some go44) := (by rw [hw]; exact HP51.2); have hp_ : Kd.R k29 29 w52 w.heap.size (fun k_ => k_ ≠ gb161) (.slice (some ⟨go44, 0, none⟩) x5_2.length co35) y164 := (by rw [hw, Ny164.out]; exact HP51.1); clear HP51; have n0_ := Aside0.mk (hp_); have n1_ := Aside0.mk (blk_grown (g := gb161) (o := .cells #[.string ((rd_T29 x5_2 x73_2).f0), .string ((rd_T29 x5_2 x73_2).f1), .int .i64 ((rd_T29 x5_2 x73_2).f2), .int .i64 ((rd_T29 x5_2 x73_2).f3)] 29 (0, 0)) (by (with_reducible repeat (first | refine blk_drewN ?_ _ | refine blk_drew ?_ | refine blk_alloc ?_ _)); exact BK161.out) hg (Kd.R_away HO_5.out (fun _ hk => hk))); have n2_ := Aside0.mk ((by rw [hw]; exact below_set (HB.out) GB44.out : Below w.heap.size w w52)); clear HO_5; clear BK161; clear HB; have HO_5 := n0_; have BK161 := n1_; have HB := n2_; clear n0_ n1_ n2_; clear hg hw hp_))
              (try simp only [← hl5_2])
              go_roundg k2
              case measure => have := HK1.out; have := HK2.out; omega
              case rel => exact ⟨(y164), (wrap64 (x73_2 + 1)), (by first | rfl | (simp; done) | (simp [*]; done) | (simp [bne_nil8, beq_nil8]; done)), H', ⟨by have := HK1.out; have := HK2.out; omega⟩, ⟨by (try simp only [hl5_2]); (with_reducible repeat (first | apply Kd.R_alloc | apply Kd.R_drewN | apply Kd.R_drew)); exact Kd.R_mono HO_5.out (fun _ hk => trivial)⟩, ⟨by repeat (first | (with_reducible first | exact HB.out | apply below_alloc | apply pw_below_drewN | apply below_drew1 | refine below_set ?_ GE161.out) | exact HB.out)⟩⟩
             ·rw [if_neg c42] at H
              exact absurd H (by simp)
            ·rw [if_neg c41] at H
             exact absurd H (by simp)
           ·rw [if_neg c40] at H
            exact absurd H (by simp)
          ·rw [if_neg c38] at H
           exact absurd H (by simp)
         ·rw [if_neg c37] at H
          exact absurd H (by simp)
        ·rw [if_neg c36] at H
         have c36b0 : decide (x73_2 < (x5_1.length : Int)) = false := decide_eq_false c36
         have c36b0l := c36b0
         (try simp only [hl5_2] at c36b0l)
         clear c36
         obtain rfl := Option.some.inj H
         go_wp2
         go_ret
         exact ⟨_, by first | rfl | (simp [errW_none, errW_some] <;> rfl) | (simp [*, errW_none, errW_some] <;> rfl), by (with_reducible repeat (first | apply Kd.R_alloc | apply Kd.R_drewN | apply Kd.R_drew)); exact HO_5.out, by repeat (first | (with_reducible first | exact HB.out | apply below_alloc | apply pw_below_drewN | apply below_drew1) | exact HB.out)⟩
  ·rw [if_neg c4] at H
   exact absurd H (by simp)
 ·rw [if_neg c3] at H
  exact absurd H (by simp)

/-! ### octet_Fold: function 51 -/
def octet_Fold.f (a0 : ByteArray) : Option (ByteArray) := if a0.size ≤ 9223372036854775807 then some (foldBA a0) else none
set_option maxHeartbeats 4000000 in
set_option maxRecDepth 100000 in
theorem octet_Fold.calls (a0 : ByteArray) (r : ByteArray) (w : World) (h : octet_Fold.f a0 = some r) :
  Calls Tryd.prog 51 #[.string a0] w fun e w' => e = .returned (.string r) ∧ Below w.heap.size w w' := by
 unfold octet_Fold.f at h
 by_cases hs : a0.size ≤ 9223372036854775807
 case neg => rw [if_neg hs] at h; cases h
 rw [if_pos hs] at h
 obtain rfl := Option.some.inj h
 clear h
 have kb := fun W => print_bytes (P := Tryd.prog) 9 27 5 Tryd.underlying9 Tryd.underlying27 Tryd.underlying5 a0 W
 have H0 := Aside0.mk (MarkRow.new w 5 a0)
 have HB := Aside0.mk (bytes_below (Below.refl w.heap.size w) (Nat.le_refl _) 5 a0)
 go_enter Tryd.func51, Tryd.ntmps51
 go_wp2
 clear kb
 go_loopw [10] (fun i wr => ∃ k : Nat, k ≤ a0.size ∧ i = .int .i64 k ∧ Aside0 (MarkRow wr w.heap.size 5 (foldTo a0 k)) ∧ Aside0 (Below w.heap.size w wr)) (fun i _ => a0.size - (intOf i).toNat)
 case atStart => exact ⟨0, Nat.zero_le _, rfl, ⟨by rw [foldTo_zero]; exact H0.out⟩, HB⟩
 case round =>
  clear H0 HB
  obtain ⟨k, hk, rfl, HM, HB⟩ := hrel
  by_cases hlt : k < a0.size
  ·have hl := foldTo_length a0 k hk
   have hc := HM.out.cell (i := k) (by omega)
   have hfz := HM.out.free (i := k) (by omega)
   rw [foldTo_at a0 k hlt] at hc
   clear hl
   have hset := Aside0.mk (HM.out.set (i := k) (by have := foldTo_length a0 k hk; omega) (((a0[k]'hlt).toNat : Int) + 97 - 65))
   have hB2 := Aside0.mk (below_set HB.out (j := k) (v := .int .u8 (((a0[k]'hlt).toNat : Int) + 97 - 65)) (Nat.le_refl w.heap.size))
   go_wp2
   ·have h1 : 65 ≤ ((a0[k]'hlt).toNat : Int) := by assumption
    have h2 : ((a0[k]'hlt).toNat : Int) ≤ 90 := by assumption
    go_roundw
    case rel => exact ⟨k + 1, by omega, by go_num, ⟨by rw [← foldTo_step a0 k hlt _ (show ((a0[k]'hlt).toNat : Int) + 97 - 65 = _ by rw [low_up _ h1 h2]; omega)]; exact hset.out⟩, hB2⟩
    case measure => simp [intOf]; omega
   ·have h2 : 90 < ((a0[k]'hlt).toNat : Int) := by assumption
    go_roundw
    case rel => exact ⟨k + 1, by omega, by go_num, ⟨by rw [← foldTo_stay a0 k hlt (low_id _ (by omega))]; exact HM.out⟩, HB⟩
    case measure => simp [intOf]; omega
   ·have h2 : ¬ 65 ≤ ((a0[k]'hlt).toNat : Int) := by assumption
    go_roundw
    case rel => exact ⟨k + 1, by omega, by go_num, ⟨by rw [← foldTo_stay a0 k hlt (low_id _ (by omega))]; exact HM.out⟩, HB⟩
    case measure => simp [intOf]; omega
  ·obtain rfl : a0.size = k := by omega
   have kc := fun c => HM.out.str (P := Tryd.prog) 27 9 Tryd.underlying27 Tryd.underlying5 Tryd.underlying9 a0.size c (by rw [foldTo_length a0 _ (Nat.le_refl _)])
   rw [foldTo_all, strOfNums_bytesOf] at kc
   go_wp2
   go_ret
   exact ⟨rfl, HB.out⟩

/-! ### octet_Same: function 30 -/
def octet_Same.f (a0 : ByteArray) (a1 : ByteArray) : Option (Bool) := (octet_Fold.f a0).bind fun t165 => ((octet_Fold.f a1).bind fun t166 => (some (t165.toList == t166.toList)))
set_option maxHeartbeats 8000000 in
set_option maxRecDepth 100000 in
theorem octet_Same.calls (a0 : ByteArray) (a1 : ByteArray) (r : Bool) (w : World) (h : octet_Same.f a0 a1 = some r) :
  Calls Tryd.prog 30 #[.string a0, .string a1] w fun e w' => e = .returned (.bool r) ∧ Below w.heap.size w w' := by
 have HB := Aside0.mk (Below.refl w.heap.size w)
 have H : ((octet_Fold.f a0).bind fun t165 => ((octet_Fold.f a1).bind fun t166 => (some (t165.toList == t166.toList)))) = some r := h
 clear h
 replace H := Option.bind_eq_some_iff.mp H
 obtain ⟨t165, A30, H⟩ := H
 replace H : ((octet_Fold.f a1).bind fun t166 => (some (t165.toList == t166.toList))) = some r := H
 have A3 := Aside0.mk A30
 clear A30
 replace H := Option.bind_eq_some_iff.mp H
 obtain ⟨t166, A40, H⟩ := H
 replace H : (some (t165.toList == t166.toList)) = some r := H
 have A4 := Aside0.mk A40
 clear A40
 obtain rfl := Option.some.inj H
 go_enter Tryd.func30, Tryd.ntmps30
 go_wp2_with (first | ((with_reducible refine gate_callee (f := 51) rfl ?_); refine goesL_ (some 6) rfl rfl Tryd.func51 (by kernel_rfl) rfl #[.string a0] rfl (by (try simp only [List.map_toArray, List.map_cons, List.map_nil]); first | done | rfl | (simp only [List.length_drop, List.length_take]; rfl)) ?_; (with_reducible refine (octet_Fold.calls a0 t165 _ A3.out).mono ?_); rintro e w5 ⟨rfl, hb⟩; refine ⟨_, rfl, ?_⟩; have n0_ := Aside0.mk (below_step (by repeat (first | (with_reducible first | exact HB.out | apply below_alloc | apply pw_below_drewN | apply below_drew1) | exact HB.out)) hb); clear HB; have HB := n0_; clear n0_; (try clear hb); (try clear hb2); (try clear hk); (try clear hi)) | ((with_reducible refine gate_callee (f := 51) rfl ?_); refine goesL_ (some 8) rfl rfl Tryd.func51 (by kernel_rfl) rfl #[.string a1] rfl (by (try simp only [List.map_toArray, List.map_cons, List.map_nil]); first | done | rfl | (simp only [List.length_drop, List.length_take]; rfl)) ?_; (with_reducible refine (octet_Fold.calls a1 t166 _ A4.out).mono ?_); rintro e w6 ⟨rfl, hb⟩; refine ⟨_, rfl, ?_⟩; have n0_ := Aside0.mk (below_step (by repeat (first | (with_reducible first | exact HB.out | apply below_alloc | apply pw_below_drewN | apply below_drew1) | exact HB.out)) hb); clear HB; have HB := n0_; clear n0_; (try clear hb); (try clear hb2); (try clear hk); (try clear hi)))
 go_ret
 exact ⟨by first | rfl | (simp [errW_none, errW_some] <;> rfl) | (simp [*, errW_none, errW_some] <;> rfl), by repeat (first | (with_reducible first | exact HB.out | apply below_alloc | apply pw_below_drewN | apply below_drew1) | exact HB.out)⟩

/-! ### head_Get: function 12 -/
def head_Get.l0 : Nat → ByteArray → List (S29) → Int → Int → Option (ByteArray × Bool)
 | 0, _, _, _, _ => none
 | k + 1, x1, x9, x10, x11 => if x11 < x10 then (if 0 ≤ x11 then (if x11 < (x9.length : Int) then ((octet_Same.f ((rd_T29 x9 x11).f0) x1).bind fun t172 => (if t172 = true then (some ((rd_T29 x9 x11).f1, true)) else (head_Get.l0 k x1 x9 x10 (wrap64 (x11 + 1))))) else (none)) else (none)) else (some ((⟨#[]⟩ : ByteArray), false))
def head_Get.f (k : Nat) (l0 : List Int) (a1 : ByteArray) : Option (ByteArray × Bool) := (head_Fields.f k l0).bind fun t167 => (head_Get.l0 k a1 t167 (t167.length : Int) 0)
theorem head_Get.mono_l : ∀ k, (∀ y0 y1 y2 y3, LeO (head_Get.l0 k y0 y1 y2 y3) (head_Get.l0 (k + 1) y0 y1 y2 y3))
 | 0 => fun _ _ _ _ r h => by simp [head_Get.l0] at h
 | k + 1 => by
  have ih0 := head_Get.mono_l k
  ·intro y0 y1 y2 y3
   unfold head_Get.l0
   repeat' first
   | (with_reducible exact ih0 _ _ _ _)
   | (with_reducible exact head_Fields.mono _ _)
   | (with_reducible exact LeO.refl _)
   | (with_reducible exact LeO.none _)
   | (with_reducible refine LeO.ite ?_ ?_)
   | (with_reducible refine LeO.bind ?_ (fun _ => ?_))
   | exact ih0 _ _ _ _
   | exact head_Fields.mono _ _
   | exact LeO.none _
   | refine LeO.ite ?_ ?_
   | refine LeO.bind ?_ (fun _ => ?_)
theorem head_Get.mono : ∀ a0 a1 k, LeO (head_Get.f k a0 a1) (head_Get.f (k + 1) a0 a1) := by
 intro a0 a1 k
 have ih0 := head_Get.mono_l k
 unfold head_Get.f
 repeat' first
   | (with_reducible exact ih0 _ _ _ _)
   | (with_reducible exact head_Fields.mono _ _)
   | (with_reducible exact LeO.refl _)
   | (with_reducible exact LeO.none _)
   | (with_reducible refine LeO.ite ?_ ?_)
   | (with_reducible refine LeO.bind ?_ (fun _ => ?_))
   | exact ih0 _ _ _ _
   | exact head_Fields.mono _ _
   | exact LeO.none _
   | refine LeO.ite ?_ ?_
   | refine LeO.bind ?_ (fun _ => ?_)
set_option maxHeartbeats 8000000 in
set_option maxRecDepth 100000 in
theorem head_Get.calls (k : Nat) (A0 : Option Addr) (c0 : Nat) (l0 : List Int) (a1 : ByteArray) (r1 : ByteArray) (r2 : Bool) (w : World) (hr0 : Kd.C (Kd.int .u8) w A0 l0.length l0) (hc0 : l0.length ≤ c0) (hG : Gl w) (h : head_Get.f k l0 a1 = some (r1, r2)) :
  Calls Tryd.prog 12 #[.slice A0 l0.length c0, .string a1] w fun e w' => e = .returned (.tuple #[.string r1, .bool r2]) ∧ Below w.heap.size w w' := by
 have hu29 := Tryd.underlying29
 have HR0 := Aside0.mk hr0
 have HC0 := Aside0.mk hc0
 clear hr0 hc0
 have HB := Aside0.mk (Below.refl w.heap.size w)
 have HG := Aside0.mk hG
 clear hG
 have H : ((head_Fields.f k l0).bind fun t167 => (head_Get.l0 k a1 t167 (t167.length : Int) 0)) = some (r1, r2) := h
 clear h
 replace H := Option.bind_eq_some_iff.mp H
 obtain ⟨t167, A30, H⟩ := H
 replace H : (head_Get.l0 k a1 t167 (t167.length : Int) 0) = some (r1, r2) := H
 have A3 := Aside0.mk A30
 clear A30
 have H' := Aside0.mk H
 clear H
 go_enter Tryd.func12, Tryd.ntmps12
 go_wp2_with (first | ((with_reducible refine gate_callee (f := 10) rfl ?_); refine goesL_ (some 9) rfl rfl Tryd.func10 (by kernel_rfl) rfl #[.slice A0 l0.length c0] rfl (by (try simp only [List.map_toArray, List.map_cons, List.map_nil]); first | done | rfl | (simp only [List.length_drop, List.length_take]; rfl)) ?_; (with_reducible refine (head_Fields.calls k _ _ l0 t167 _ ?side1 ?side2 ?side3 A3.out).mono ?_); (case side1 => repeat (first | exact HR0.out | (with_reducible refine Kd.C_alloc ?_ _) | (with_reducible refine Kd.C_drewN ?_ _) | (with_reducible refine Kd.C_drew ?_))); (case side2 => exact HC0.out); (case side3 => exact Gl.below HG.out (by repeat (first | (with_reducible first | exact HB.out | apply below_alloc | apply pw_below_drewN | apply below_drew1) | exact HB.out))); rintro e w4 ⟨v168, rfl, ho0, hb⟩; refine ⟨_, rfl, ?_⟩; have n0_ := Aside0.mk (Kd.R_lower ho0 (below_size (by repeat (first | (with_reducible first | exact HB.out | apply below_alloc | apply pw_below_drewN | apply below_drew1) | exact HB.out)))); have n1_ := Aside0.mk (below_step (by repeat (first | (with_reducible first | exact HB.out | apply below_alloc | apply pw_below_drewN | apply below_drew1) | exact HB.out)) hb); clear HB; have HO169 := n0_; have HB := n1_; clear n0_ n1_; (try clear hb); (try clear hb2); (try clear hk); (try clear hi); (try clear ho0); obtain ⟨Ao5, co5, eo5⟩ := Kd.R_slice HO169.out; subst eo5))
 go_loopg [11] k (fun kq v11 w' => ∃ (x11_1 : Int), v11 = .int .i64 x11_1 ∧ Aside0 (head_Get.l0 kq a1 t167 (t167.length : Int) x11_1 = some (r1, r2)) ∧ Aside0 (kq ≤ k) ∧ Aside0 (Kd.R k29 29 w' w.heap.size (fun _ => True) (.slice Ao5 t167.length co5) t167) ∧ Aside0 (Below w.heap.size w w'))
 case atStart => exact ⟨(0), (by first | rfl | (simp; done) | (simp [*]; done) | (simp [bne_nil8, beq_nil8]; done)), H', ⟨Nat.le_refl _⟩, ⟨by (with_reducible repeat (first | apply Kd.R_alloc | apply Kd.R_drewN | apply Kd.R_drew)); exact HO169.out⟩, ⟨by repeat (first | (with_reducible first | exact HB.out | apply below_alloc | apply pw_below_drewN | apply below_drew1) | exact HB.out)⟩⟩
 case round =>
  clear H'
  try clear c1
  try clear p2
  obtain ⟨x11_1, rfl, HA, HK1, HO_9, HB⟩ := hrel
  cases gk with
  | zero => exact absurd HA.out (by simp [head_Get.l0])
  | succ k1 =>
   have H := HA.out
   clear HA
   simp only [head_Get.l0] at H
   by_cases c6 : x11_1 < (t167.length : Int)
   ·rw [if_pos c6] at H
    have c6b0 : decide (x11_1 < (t167.length : Int)) = true := decide_eq_true c6
    clear c6
    by_cases c7 : 0 ≤ x11_1
    ·rw [if_pos c7] at H
     have c7b0 : decide (0 ≤ x11_1) = true := decide_eq_true c7
     clear c7
     by_cases c8 : x11_1 < (t167.length : Int)
     ·rw [if_pos c8] at H
      have c8b0 : decide (x11_1 < (t167.length : Int)) = true := decide_eq_true c8
      clear c8
      replace H := Option.bind_eq_some_iff.mp H
      obtain ⟨t172, A90, H⟩ := H
      replace H : (if t172 = true then (some ((rd_T29 t167 x11_1).f1, true)) else (head_Get.l0 k1 a1 t167 (t167.length : Int) (wrap64 (x11_1 + 1)))) = some (r1, r2) := H
      have A9 := Aside0.mk A90
      clear A90
      by_cases c10 : t172 = true
      ·subst c10
       have H1 : (some ((rd_T29 t167 x11_1).f1, true)) = some (r1, r2) := by (rw [if_pos rfl] at H) <;> exact H
       clear H
       have H := H1
       clear H1
       simp only [Option.some.injEq, Prod.mk.injEq] at H
       obtain ⟨rfl, rfl⟩ := H
       have p170 : 0 ≤ (x11_1 : Int) := of_decide_eq_true (by first | (with_reducible assumption) | assumption)
       have q170 : x11_1 < (t167.length : Int) := of_decide_eq_true (by first | (with_reducible assumption) | assumption)
       obtain ⟨ad170, e170, hx170_0, hx170_1, hx170_2, hx170_3⟩ := at_T29 (Kd.R_reads' HO_9.out).2.2 x11_1 p170 q170
       cases e170
       replace p170 := eq_true p170
       replace q170 := eq_true q170
       go_wp2_with (first | ((with_reducible refine gate_dst (N := 7) rfl ?_); refine box_event ?hg (N := 7) ?hd (cs := #[.string (⟨#[]⟩ : ByteArray), .string (⟨#[]⟩ : ByteArray), .int .i64 0, .int .i64 0]) (t := 29) ?hr ?_; (case hd => rfl); (case hg => rfl); (case hr => first | (go_simp; done) | (go_simp; rfl)); intro gb171 hg w11 hbox hb; have n0_ := Aside0.mk (Kd.R_below (Kd.R_elderB (by (with_reducible repeat (first | apply Kd.R_alloc | apply Kd.R_drewN | apply Kd.R_drew)); exact HO_9.out) gb171 (Nat.le_of_eq hg.symm)) hb); have n1_ := Aside0.mk (below_step (by repeat (first | (with_reducible first | exact HB.out | apply below_alloc | apply pw_below_drewN | apply below_drew1) | exact HB.out)) hb); have n2_ := Aside0.mk (hbox); have n3_ := Aside0.mk ((by rw [hg]; exact (below_size (by repeat (first | (with_reducible first | exact HB.out | apply below_alloc | apply pw_below_drewN | apply below_drew1) | exact HB.out))) : w.heap.size ≤ gb171)); have n4_ := Aside0.mk ((by rw [hg]; exact (below_size (by repeat (first | (with_reducible first | exact HB.out | apply below_alloc | apply pw_below_drewN | apply below_drew1) | exact HB.out))) : w.heap.size ≤ gb171)); clear HO_9; clear HB; have HO_9 := n0_; have HB := n1_; have BK171 := n2_; have GW171 := n3_; have GE171 := n4_; clear n0_ n1_ n2_ n3_ n4_; clear hb hbox hg; have hcz12_0 : w11.cell? ⟨gb171, 0, none⟩ = some (.string (⟨#[]⟩ : ByteArray)) := (blk_cell BK171.out 0).trans rfl; have hcz12_1 : w11.cell? ⟨gb171, 1, none⟩ = some (.string (⟨#[]⟩ : ByteArray)) := (blk_cell BK171.out 1).trans rfl; have hcz12_2 : w11.cell? ⟨gb171, 2, none⟩ = some (.int .i64 0) := (blk_cell BK171.out 2).trans rfl; have hcz12_3 : w11.cell? ⟨gb171, 3, none⟩ = some (.int .i64 0) := (blk_cell BK171.out 3).trans rfl; have hfz12_0 := blk_frozen BK171.out 0; have hfz12_1 := blk_frozen BK171.out 1; have hfz12_2 := blk_frozen BK171.out 2; have hfz12_3 := blk_frozen BK171.out 3) | ((with_reducible refine gate_callee (f := 30) rfl ?_); refine goesL_ (some 18) rfl rfl Tryd.func30 (by kernel_rfl) rfl #[.string ((rd_T29 t167 x11_1).f0), .string a1] rfl (by (try simp only [List.map_toArray, List.map_cons, List.map_nil]); first | done | rfl | (simp only [List.length_drop, List.length_take]; rfl)) ?_; (with_reducible refine (octet_Same.calls ((rd_T29 t167 x11_1).f0) a1 true _ A9.out).mono ?_); rintro e w13 ⟨rfl, hb⟩; refine ⟨_, rfl, ?_⟩; have n0_ := Aside0.mk (Kd.R_below (by (with_reducible repeat (first | apply Kd.R_alloc | apply Kd.R_drewN | apply Kd.R_drew)); exact (Kd.R_mono (Kd.R_far (p := ⟨gb171, 3, none⟩) (Kd.R_far (p := ⟨gb171, 2, none⟩) (Kd.R_far (p := ⟨gb171, 1, none⟩) (Kd.R_far (p := ⟨gb171, 0, none⟩) (Kd.R_mono HO_9.out (fun k_ hk => (⟨hk, hk.2⟩ : _ ∧ k_ ≠ gb171))) (fun _ hk => hk.2) (.string ((rd_T29 t167 x11_1).f0))) (fun _ hk => hk.2) (.string ((rd_T29 t167 x11_1).f1))) (fun _ hk => hk.2) (.int .i64 ((rd_T29 t167 x11_1).f2))) (fun _ hk => hk.2) (.int .i64 ((rd_T29 t167 x11_1).f3))) (fun _ h_ => h_.1))) hb); have n1_ := Aside0.mk (blk_below (g := gb171) (o := .cells #[.string ((rd_T29 t167 x11_1).f0), .string ((rd_T29 t167 x11_1).f1), .int .i64 ((rd_T29 t167 x11_1).f2), .int .i64 ((rd_T29 t167 x11_1).f3)] 29 (0, 0)) (by (with_reducible repeat (first | refine blk_drewN ?_ _ | refine blk_drew ?_ | refine blk_alloc ?_ _)); (first | refine blk_put (cs := #[.string ((rd_T29 t167 x11_1).f0), .string ((rd_T29 t167 x11_1).f1), .int .i64 ((rd_T29 t167 x11_1).f2), .int .i64 0]) ?_ 3 _ rfl | refine blk_put (cs := #[.string ((rd_T29 t167 x11_1).f0), .string ((rd_T29 t167 x11_1).f1), .int .i64 ((rd_T29 t167 x11_1).f2), .int .i64 0]) ?_ 3 _ (by first | rfl | (simp; done))); (with_reducible repeat (first | refine blk_drewN ?_ _ | refine blk_drew ?_ | refine blk_alloc ?_ _)); (first | refine blk_put (cs := #[.string ((rd_T29 t167 x11_1).f0), .string ((rd_T29 t167 x11_1).f1), .int .i64 0, .int .i64 0]) ?_ 2 _ rfl | refine blk_put (cs := #[.string ((rd_T29 t167 x11_1).f0), .string ((rd_T29 t167 x11_1).f1), .int .i64 0, .int .i64 0]) ?_ 2 _ (by first | rfl | (simp; done))); (with_reducible repeat (first | refine blk_drewN ?_ _ | refine blk_drew ?_ | refine blk_alloc ?_ _)); (first | refine blk_put (cs := #[.string ((rd_T29 t167 x11_1).f0), .string (⟨#[]⟩ : ByteArray), .int .i64 0, .int .i64 0]) ?_ 1 _ rfl | refine blk_put (cs := #[.string ((rd_T29 t167 x11_1).f0), .string (⟨#[]⟩ : ByteArray), .int .i64 0, .int .i64 0]) ?_ 1 _ (by first | rfl | (simp; done))); (with_reducible repeat (first | refine blk_drewN ?_ _ | refine blk_drew ?_ | refine blk_alloc ?_ _)); (first | refine blk_put (cs := #[.string (⟨#[]⟩ : ByteArray), .string (⟨#[]⟩ : ByteArray), .int .i64 0, .int .i64 0]) ?_ 0 _ rfl | refine blk_put (cs := #[.string (⟨#[]⟩ : ByteArray), .string (⟨#[]⟩ : ByteArray), .int .i64 0, .int .i64 0]) ?_ 0 _ (by first | rfl | (simp; done))); (with_reducible repeat (first | refine blk_drewN ?_ _ | refine blk_drew ?_ | refine blk_alloc ?_ _)); exact BK171.out) hb); have n2_ := Aside0.mk (below_step (by repeat (first | (with_reducible first | exact HB.out | apply below_alloc | apply pw_below_drewN | apply below_drew1 | refine below_set ?_ GE171.out) | exact HB.out)) hb); clear HO_9; clear BK171; clear HB; have HO_9 := n0_; have BK171 := n1_; have HB := n2_; clear n0_ n1_ n2_; (try clear hb); (try clear hb2); (try clear hk); (try clear hi); have hcz14_0 : w13.cell? ⟨gb171, 0, none⟩ = some (.string ((rd_T29 t167 x11_1).f0)) := (blk_cell BK171.out 0).trans rfl; have hcz14_1 : w13.cell? ⟨gb171, 1, none⟩ = some (.string ((rd_T29 t167 x11_1).f1)) := (blk_cell BK171.out 1).trans rfl; have hcz14_2 : w13.cell? ⟨gb171, 2, none⟩ = some (.int .i64 ((rd_T29 t167 x11_1).f2)) := (blk_cell BK171.out 2).trans rfl; have hcz14_3 : w13.cell? ⟨gb171, 3, none⟩ = some (.int .i64 ((rd_T29 t167 x11_1).f3)) := (blk_cell BK171.out 3).trans rfl; have hfz14_0 := blk_frozen BK171.out 0; have hfz14_1 := blk_frozen BK171.out 1; have hfz14_2 := blk_frozen BK171.out 2; have hfz14_3 := blk_frozen BK171.out 3))
       go_ret2
       exact ⟨by first | rfl | (simp [errW_none, errW_some] <;> rfl) | (simp [*, errW_none, errW_some] <;> rfl), by repeat (first | (with_reducible first | exact HB.out | apply below_alloc | apply pw_below_drewN | apply below_drew1 | refine below_set ?_ GE171.out) | exact HB.out)⟩
      ·replace c10 := Bool.eq_false_iff.mpr c10
       subst c10
       have H1 : (head_Get.l0 k1 a1 t167 (t167.length : Int) (wrap64 (x11_1 + 1))) = some (r1, r2) := by (rw [if_neg (show ¬ (false = true) by decide)] at H) <;> exact H
       clear H
       have H := H1
       clear H1
       have H' := Aside0.mk H
       clear H
       have p170 : 0 ≤ (x11_1 : Int) := of_decide_eq_true (by first | (with_reducible assumption) | assumption)
       have q170 : x11_1 < (t167.length : Int) := of_decide_eq_true (by first | (with_reducible assumption) | assumption)
       obtain ⟨ad170, e170, hx170_0, hx170_1, hx170_2, hx170_3⟩ := at_T29 (Kd.R_reads' HO_9.out).2.2 x11_1 p170 q170
       cases e170
       replace p170 := eq_true p170
       replace q170 := eq_true q170
       go_wp2_with (first | ((with_reducible refine gate_dst (N := 7) rfl ?_); refine box_event ?hg (N := 7) ?hd (cs := #[.string (⟨#[]⟩ : ByteArray), .string (⟨#[]⟩ : ByteArray), .int .i64 0, .int .i64 0]) (t := 29) ?hr ?_; (case hd => rfl); (case hg => rfl); (case hr => first | (go_simp; done) | (go_simp; rfl)); intro gb171 hg w15 hbox hb; have n0_ := Aside0.mk (Kd.R_below (Kd.R_elderB (by (with_reducible repeat (first | apply Kd.R_alloc | apply Kd.R_drewN | apply Kd.R_drew)); exact HO_9.out) gb171 (Nat.le_of_eq hg.symm)) hb); have n1_ := Aside0.mk (below_step (by repeat (first | (with_reducible first | exact HB.out | apply below_alloc | apply pw_below_drewN | apply below_drew1) | exact HB.out)) hb); have n2_ := Aside0.mk (hbox); have n3_ := Aside0.mk ((by rw [hg]; exact (below_size (by repeat (first | (with_reducible first | exact HB.out | apply below_alloc | apply pw_below_drewN | apply below_drew1) | exact HB.out))) : w.heap.size ≤ gb171)); have n4_ := Aside0.mk ((by rw [hg]; exact (below_size (by repeat (first | (with_reducible first | exact HB.out | apply below_alloc | apply pw_below_drewN | apply below_drew1) | exact HB.out))) : w.heap.size ≤ gb171)); clear HO_9; clear HB; have HO_9 := n0_; have HB := n1_; have BK171 := n2_; have GW171 := n3_; have GE171 := n4_; clear n0_ n1_ n2_ n3_ n4_; clear hb hbox hg; have hcz16_0 : w15.cell? ⟨gb171, 0, none⟩ = some (.string (⟨#[]⟩ : ByteArray)) := (blk_cell BK171.out 0).trans rfl; have hcz16_1 : w15.cell? ⟨gb171, 1, none⟩ = some (.string (⟨#[]⟩ : ByteArray)) := (blk_cell BK171.out 1).trans rfl; have hcz16_2 : w15.cell? ⟨gb171, 2, none⟩ = some (.int .i64 0) := (blk_cell BK171.out 2).trans rfl; have hcz16_3 : w15.cell? ⟨gb171, 3, none⟩ = some (.int .i64 0) := (blk_cell BK171.out 3).trans rfl; have hfz16_0 := blk_frozen BK171.out 0; have hfz16_1 := blk_frozen BK171.out 1; have hfz16_2 := blk_frozen BK171.out 2; have hfz16_3 := blk_frozen BK171.out 3) | ((with_reducible refine gate_callee (f := 30) rfl ?_); refine goesL_ (some 18) rfl rfl Tryd.func30 (by kernel_rfl) rfl #[.string ((rd_T29 t167 x11_1).f0), .string a1] rfl (by (try simp only [List.map_toArray, List.map_cons, List.map_nil]); first | done | rfl | (simp only [List.length_drop, List.length_take]; rfl)) ?_; (with_reducible refine (octet_Same.calls ((rd_T29 t167 x11_1).f0) a1 false _ A9.out).mono ?_); rintro e w17 ⟨rfl, hb⟩; refine ⟨_, rfl, ?_⟩; have n0_ := Aside0.mk (Kd.R_below (by (with_reducible repeat (first | apply Kd.R_alloc | apply Kd.R_drewN | apply Kd.R_drew)); exact (Kd.R_mono (Kd.R_far (p := ⟨gb171, 3, none⟩) (Kd.R_far (p := ⟨gb171, 2, none⟩) (Kd.R_far (p := ⟨gb171, 1, none⟩) (Kd.R_far (p := ⟨gb171, 0, none⟩) (Kd.R_mono HO_9.out (fun k_ hk => (⟨hk, hk.2⟩ : _ ∧ k_ ≠ gb171))) (fun _ hk => hk.2) (.string ((rd_T29 t167 x11_1).f0))) (fun _ hk => hk.2) (.string ((rd_T29 t167 x11_1).f1))) (fun _ hk => hk.2) (.int .i64 ((rd_T29 t167 x11_1).f2))) (fun _ hk => hk.2) (.int .i64 ((rd_T29 t167 x11_1).f3))) (fun _ h_ => h_.1))) hb); have n1_ := Aside0.mk (blk_below (g := gb171) (o := .cells #[.string ((rd_T29 t167 x11_1).f0), .string ((rd_T29 t167 x11_1).f1), .int .i64 ((rd_T29 t167 x11_1).f2), .int .i64 ((rd_T29 t167 x11_1).f3)] 29 (0, 0)) (by (with_reducible repeat (first | refine blk_drewN ?_ _ | refine blk_drew ?_ | refine blk_alloc ?_ _)); (first | refine blk_put (cs := #[.string ((rd_T29 t167 x11_1).f0), .string ((rd_T29 t167 x11_1).f1), .int .i64 ((rd_T29 t167 x11_1).f2), .int .i64 0]) ?_ 3 _ rfl | refine blk_put (cs := #[.string ((rd_T29 t167 x11_1).f0), .string ((rd_T29 t167 x11_1).f1), .int .i64 ((rd_T29 t167 x11_1).f2), .int .i64 0]) ?_ 3 _ (by first | rfl | (simp; done))); (with_reducible repeat (first | refine blk_drewN ?_ _ | refine blk_drew ?_ | refine blk_alloc ?_ _)); (first | refine blk_put (cs := #[.string ((rd_T29 t167 x11_1).f0), .string ((rd_T29 t167 x11_1).f1), .int .i64 0, .int .i64 0]) ?_ 2 _ rfl | refine blk_put (cs := #[.string ((rd_T29 t167 x11_1).f0), .string ((rd_T29 t167 x11_1).f1), .int .i64 0, .int .i64 0]) ?_ 2 _ (by first | rfl | (simp; done))); (with_reducible repeat (first | refine blk_drewN ?_ _ | refine blk_drew ?_ | refine blk_alloc ?_ _)); (first | refine blk_put (cs := #[.string ((rd_T29 t167 x11_1).f0), .string (⟨#[]⟩ : ByteArray), .int .i64 0, .int .i64 0]) ?_ 1 _ rfl | refine blk_put (cs := #[.string ((rd_T29 t167 x11_1).f0), .string (⟨#[]⟩ : ByteArray), .int .i64 0, .int .i64 0]) ?_ 1 _ (by first | rfl | (simp; done))); (with_reducible repeat (first | refine blk_drewN ?_ _ | refine blk_drew ?_ | refine blk_alloc ?_ _)); (first | refine blk_put (cs := #[.string (⟨#[]⟩ : ByteArray), .string (⟨#[]⟩ : ByteArray), .int .i64 0, .int .i64 0]) ?_ 0 _ rfl | refine blk_put (cs := #[.string (⟨#[]⟩ : ByteArray), .string (⟨#[]⟩ : ByteArray), .int .i64 0, .int .i64 0]) ?_ 0 _ (by first | rfl | (simp; done))); (with_reducible repeat (first | refine blk_drewN ?_ _ | refine blk_drew ?_ | refine blk_alloc ?_ _)); exact BK171.out) hb); have n2_ := Aside0.mk (below_step (by repeat (first | (with_reducible first | exact HB.out | apply below_alloc | apply pw_below_drewN | apply below_drew1 | refine below_set ?_ GE171.out) | exact HB.out)) hb); clear HO_9; clear BK171; clear HB; have HO_9 := n0_; have BK171 := n1_; have HB := n2_; clear n0_ n1_ n2_; (try clear hb); (try clear hb2); (try clear hk); (try clear hi)))
       go_roundg k1
       case measure => have := HK1.out; omega
       case rel => exact ⟨(wrap64 (x11_1 + 1)), (by first | rfl | (simp; done) | (simp [*]; done) | (simp [bne_nil8, beq_nil8]; done)), H', ⟨by have := HK1.out; omega⟩, ⟨by (with_reducible repeat (first | apply Kd.R_alloc | apply Kd.R_drewN | apply Kd.R_drew)); exact Kd.R_mono HO_9.out (fun _ hk => trivial)⟩, ⟨by repeat (first | (with_reducible first | exact HB.out | apply below_alloc | apply pw_below_drewN | apply below_drew1 | refine below_set ?_ GE171.out) | exact HB.out)⟩⟩
     ·rw [if_neg c8] at H
      exact absurd H (by simp)
    ·rw [if_neg c7] at H
     exact absurd H (by simp)
   ·rw [if_neg c6] at H
    have c6b0 : decide (x11_1 < (t167.length : Int)) = false := decide_eq_false c6
    clear c6
    simp only [Option.some.injEq, Prod.mk.injEq] at H
    obtain ⟨rfl, rfl⟩ := H
    go_wp2
    go_ret2
    exact ⟨by first | rfl | (simp [errW_none, errW_some] <;> rfl) | (simp [*, errW_none, errW_some] <;> rfl), by repeat (first | (with_reducible first | exact HB.out | apply below_alloc | apply pw_below_drewN | apply below_drew1) | exact HB.out)⟩

end Go.Proofs.YtonlncajnniebaaDoor.X
