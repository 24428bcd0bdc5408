/- By a program of this session, over the print of the kit: for each function of the program what it computes, and that its call comes to just that. -/
import Derived.Test.YtcgjkppoakngnaaDoorX0
import Derived.Test.YtcgjkppoakngnaaDoorX1
import Derived.Test.YtcgjkppoakngnaaDoorX2
import Derived.Test.YtcgjkppoakngnaaDoorX3
import Derived.Test.YtcgjkppoakngnaaDoorX4
import Derived.Test.YtcgjkppoakngnaaDoorX5
namespace Go.Proofs.YtcgjkppoakngnaaDoor.X
open Go.RowKit Go.Proofs.Mine Go.Proofs.YtcgjkppoakngnaaDoorW.PrintWords Go.Proofs.YtcgjkppoakngnaaDoorW.PrintLast Go.Proofs.YtcgjkppoakngnaaDoorW.PrintMore
attribute [local go_sem] max2_int min2_int max_two min_two max_three min_three max_four min_four   -- for this text's walks alone
set_option linter.unusedVariables false
set_option linter.unusedSimpArgs false

/-! ### frankinglaw1_OctetSays: function 6 -/
mutual
def frankinglaw1_OctetSays.j0 : Nat → ByteArray → ByteArray → Bool → Option (Bool)
  | 0, _, _, _ => none
  | k + 1, x0, x1, x31 => if x31 = true then (some true) else ((octet_Quote.f k x0).bind fun bt290 => ((frankingref1_Quote.f k x0).bind fun bt292 => ((octet_Unquote.f k x0).bind fun bt294 => ((frankingref1_Unquote.f k x0).bind fun bt297 => ((octet_Num.f k x0).bind fun bt300 => ((frankingref1_Num.f k x0).bind fun bt302 => (if x0.size ≤ 9223372036854775807 then ((octet_Lines.f k (bytesOf x0)).bind fun t307 => ((frankingref1_Lines.f k (bytesOf x0)).bind fun t313 => (if bt290.1.toList = bt292.1.toList then (if (bt290.2 != bt292.2) = true then (frankinglaw1_OctetSays.j1 k x0 x1 t307 t313 true) else (if bt294.1.toList = bt297.1.toList then (if bt294.2.1 = bt297.2.1 then (if bt294.2.2 = bt297.2.2 then (if bt300.1 = bt302.1 then (if (bt300.2 != bt302.2) = true then (frankinglaw1_OctetSays.j1 k x0 x1 t307 t313 true) else (frankinglaw1_OctetSays.j1 k x0 x1 t307 t313 ((t307.length : Int) != (t313.length : Int)))) else (frankinglaw1_OctetSays.j1 k x0 x1 t307 t313 true)) else (frankinglaw1_OctetSays.j1 k x0 x1 t307 t313 true)) else (frankinglaw1_OctetSays.j1 k x0 x1 t307 t313 true)) else (frankinglaw1_OctetSays.j1 k x0 x1 t307 t313 true))) else (frankinglaw1_OctetSays.j1 k x0 x1 t307 t313 true)))) else (none))))))))
def frankinglaw1_OctetSays.j1 : Nat → ByteArray → ByteArray → List (List Int) → List (List Int) → Bool → Option (Bool)
  | 0, _, _, _, _, _ => none
  | k + 1, x0, x1, x19, x20, x109 => if x109 = true then (some false) else (frankinglaw1_OctetSays.l0 k x0 x1 x19 x20 0)
def frankinglaw1_OctetSays.l0 : Nat → ByteArray → ByteArray → List (List Int) → List (List Int) → Int → Option (Bool)
  | 0, _, _, _, _, _ => none
  | k + 1, x0, x1, x19, x20, x21 => if x21 < (x19.length : Int) then (if 0 ≤ x21 then (if x21 < (x20.length : Int) then (if (strOfNums (rd_L1 x19 x21)).toList = (strOfNums (rd_L1 x20 x21)).toList then (frankinglaw1_OctetSays.l0 k x0 x1 x19 x20 (wrap64 (x21 + 1))) else (some false)) else (none)) else (none)) else ((octet_Fold.f x0).bind fun t318 => ((frankingref1_Fold.f x0).bind fun t319 => (if t318.toList = t319.toList then ((octet_Same.f x0 x1).bind fun t320 => ((frankingref1_Same.f x0 x1).bind fun t321 => (if (t320 == t321) = true then ((octet_Atom.f k x0).bind fun t322 => ((frankingref1_Atom.f k x0).bind fun t323 => (if (t322 == t323) = true then ((octet_NString.f k x0).bind fun t324 => ((frankingref1_NString.f k x0).bind fun t325 => (some (t324.toList == t325.toList)))) else (some false)))) else (some false)))) else (some false))))
end
def frankinglaw1_OctetSays.f (k : Nat) (a0 : ByteArray) (a1 : ByteArray) : Option (Bool) := (frankinglaw1_awake.f k).bind fun t289 => (if t289 = true then (if (a0.size : Int) > 9000 then (frankinglaw1_OctetSays.j0 k a0 a1 true) else (frankinglaw1_OctetSays.j0 k a0 a1 (decide ((a1.size : Int) > 300)))) else (some false))
theorem frankinglaw1_OctetSays.mono_l : ∀ k, (∀ y0 y1 y2, LeO (frankinglaw1_OctetSays.j0 k y0 y1 y2) (frankinglaw1_OctetSays.j0 (k + 1) y0 y1 y2)) ∧ (∀ y0 y1 y2 y3 y4, LeO (frankinglaw1_OctetSays.j1 k y0 y1 y2 y3 y4) (frankinglaw1_OctetSays.j1 (k + 1) y0 y1 y2 y3 y4)) ∧ (∀ y0 y1 y2 y3 y4, LeO (frankinglaw1_OctetSays.l0 k y0 y1 y2 y3 y4) (frankinglaw1_OctetSays.l0 (k + 1) y0 y1 y2 y3 y4))
  | 0 => ⟨fun _ _ _ r h => by simp [frankinglaw1_OctetSays.j0] at h, fun _ _ _ _ _ r h => by simp [frankinglaw1_OctetSays.j1] at h, fun _ _ _ _ _ r h => by simp [frankinglaw1_OctetSays.l0] at h⟩
  | k + 1 => by
    obtain ⟨ih0, ih1, ih2⟩ := frankinglaw1_OctetSays.mono_l k
    refine ⟨?_, ?_, ?_⟩
    · intro y0 y1 y2
      unfold frankinglaw1_OctetSays.j0
      repeat' first
      | (with_reducible exact ih0 _ _ _)
      | (with_reducible exact ih1 _ _ _ _ _)
      | (with_reducible exact ih2 _ _ _ _ _)
      | (with_reducible exact frankinglaw1_awake.mono _)
      | (with_reducible exact frankingref1_Atom.mono _ _)
      | (with_reducible exact frankingref1_Lines.mono _ _)
      | (with_reducible exact frankingref1_NString.mono _ _)
      | (with_reducible exact frankingref1_Num.mono _ _)
      | (with_reducible exact frankingref1_Quote.mono _ _)
      | (with_reducible exact frankingref1_Unquote.mono _ _)
      | (with_reducible exact octet_Atom.mono _ _)
      | (with_reducible exact octet_Lines.mono _ _)
      | (with_reducible exact octet_NString.mono _ _)
      | (with_reducible exact octet_Num.mono _ _)
      | (with_reducible exact octet_Quote.mono _ _)
      | (with_reducible exact octet_Unquote.mono _ _)
      | (with_reducible exact LeO.refl _)
      | (with_reducible exact LeO.none _)
      | (with_reducible refine LeO.ite ?_ ?_)
      | (with_reducible refine LeO.bind ?_ (fun _ => ?_))
      | exact ih0 _ _ _
      | exact ih1 _ _ _ _ _
      | exact ih2 _ _ _ _ _
      | exact frankinglaw1_awake.mono _
      | exact frankingref1_Atom.mono _ _
      | exact frankingref1_Lines.mono _ _
      | exact frankingref1_NString.mono _ _
      | exact frankingref1_Num.mono _ _
      | exact frankingref1_Quote.mono _ _
      | exact frankingref1_Unquote.mono _ _
      | exact octet_Atom.mono _ _
      | exact octet_Lines.mono _ _
      | exact octet_NString.mono _ _
      | exact octet_Num.mono _ _
      | exact octet_Quote.mono _ _
      | exact octet_Unquote.mono _ _
      | exact LeO.none _
      | refine LeO.ite ?_ ?_
      | refine LeO.bind ?_ (fun _ => ?_)
    · intro y0 y1 y2 y3 y4
      unfold frankinglaw1_OctetSays.j1
      repeat' first
      | (with_reducible exact ih0 _ _ _)
      | (with_reducible exact ih1 _ _ _ _ _)
      | (with_reducible exact ih2 _ _ _ _ _)
      | (with_reducible exact frankinglaw1_awake.mono _)
      | (with_reducible exact frankingref1_Atom.mono _ _)
      | (with_reducible exact frankingref1_Lines.mono _ _)
      | (with_reducible exact frankingref1_NString.mono _ _)
      | (with_reducible exact frankingref1_Num.mono _ _)
      | (with_reducible exact frankingref1_Quote.mono _ _)
      | (with_reducible exact frankingref1_Unquote.mono _ _)
      | (with_reducible exact octet_Atom.mono _ _)
      | (with_reducible exact octet_Lines.mono _ _)
      | (with_reducible exact octet_NString.mono _ _)
      | (with_reducible exact octet_Num.mono _ _)
      | (with_reducible exact octet_Quote.mono _ _)
      | (with_reducible exact octet_Unquote.mono _ _)
      | (with_reducible exact LeO.refl _)
      | (with_reducible exact LeO.none _)
      | (with_reducible refine LeO.ite ?_ ?_)
      | (with_reducible refine LeO.bind ?_ (fun _ => ?_))
      | exact ih0 _ _ _
      | exact ih1 _ _ _ _ _
      | exact ih2 _ _ _ _ _
      | exact frankinglaw1_awake.mono _
      | exact frankingref1_Atom.mono _ _
      | exact frankingref1_Lines.mono _ _
      | exact frankingref1_NString.mono _ _
      | exact frankingref1_Num.mono _ _
      | exact frankingref1_Quote.mono _ _
      | exact frankingref1_Unquote.mono _ _
      | exact octet_Atom.mono _ _
      | exact octet_Lines.mono _ _
      | exact octet_NString.mono _ _
      | exact octet_Num.mono _ _
      | exact octet_Quote.mono _ _
      | exact octet_Unquote.mono _ _
      | exact LeO.none _
      | refine LeO.ite ?_ ?_
      | refine LeO.bind ?_ (fun _ => ?_)
    · intro y0 y1 y2 y3 y4
      unfold frankinglaw1_OctetSays.l0
      repeat' first
      | (with_reducible exact ih0 _ _ _)
      | (with_reducible exact ih1 _ _ _ _ _)
      | (with_reducible exact ih2 _ _ _ _ _)
      | (with_reducible exact frankinglaw1_awake.mono _)
      | (with_reducible exact frankingref1_Atom.mono _ _)
      | (with_reducible exact frankingref1_Lines.mono _ _)
      | (with_reducible exact frankingref1_NString.mono _ _)
      | (with_reducible exact frankingref1_Num.mono _ _)
      | (with_reducible exact frankingref1_Quote.mono _ _)
      | (with_reducible exact frankingref1_Unquote.mono _ _)
      | (with_reducible exact octet_Atom.mono _ _)
      | (with_reducible exact octet_Lines.mono _ _)
      | (with_reducible exact octet_NString.mono _ _)
      | (with_reducible exact octet_Num.mono _ _)
      | (with_reducible exact octet_Quote.mono _ _)
      | (with_reducible exact octet_Unquote.mono _ _)
      | (with_reducible exact LeO.refl _)
      | (with_reducible exact LeO.none _)
      | (with_reducible refine LeO.ite ?_ ?_)
      | (with_reducible refine LeO.bind ?_ (fun _ => ?_))
      | exact ih0 _ _ _
      | exact ih1 _ _ _ _ _
      | exact ih2 _ _ _ _ _
      | exact frankinglaw1_awake.mono _
      | exact frankingref1_Atom.mono _ _
      | exact frankingref1_Lines.mono _ _
      | exact frankingref1_NString.mono _ _
      | exact frankingref1_Num.mono _ _
      | exact frankingref1_Quote.mono _ _
      | exact frankingref1_Unquote.mono _ _
      | exact octet_Atom.mono _ _
      | exact octet_Lines.mono _ _
      | exact octet_NString.mono _ _
      | exact octet_Num.mono _ _
      | exact octet_Quote.mono _ _
      | exact octet_Unquote.mono _ _
      | exact LeO.none _
      | refine LeO.ite ?_ ?_
      | refine LeO.bind ?_ (fun _ => ?_)
theorem frankinglaw1_OctetSays.mono : ∀ a0 a1 k, LeO (frankinglaw1_OctetSays.f k a0 a1) (frankinglaw1_OctetSays.f (k + 1) a0 a1) := by
  intro a0 a1 k
  obtain ⟨ih0, ih1, ih2⟩ := frankinglaw1_OctetSays.mono_l k
  unfold frankinglaw1_OctetSays.f
  repeat' first
      | (with_reducible exact ih0 _ _ _)
      | (with_reducible exact ih1 _ _ _ _ _)
      | (with_reducible exact ih2 _ _ _ _ _)
      | (with_reducible exact frankinglaw1_awake.mono _)
      | (with_reducible exact frankingref1_Atom.mono _ _)
      | (with_reducible exact frankingref1_Lines.mono _ _)
      | (with_reducible exact frankingref1_NString.mono _ _)
      | (with_reducible exact frankingref1_Num.mono _ _)
      | (with_reducible exact frankingref1_Quote.mono _ _)
      | (with_reducible exact frankingref1_Unquote.mono _ _)
      | (with_reducible exact octet_Atom.mono _ _)
      | (with_reducible exact octet_Lines.mono _ _)
      | (with_reducible exact octet_NString.mono _ _)
      | (with_reducible exact octet_Num.mono _ _)
      | (with_reducible exact octet_Quote.mono _ _)
      | (with_reducible exact octet_Unquote.mono _ _)
      | (with_reducible exact LeO.refl _)
      | (with_reducible exact LeO.none _)
      | (with_reducible refine LeO.ite ?_ ?_)
      | (with_reducible refine LeO.bind ?_ (fun _ => ?_))
      | exact ih0 _ _ _
      | exact ih1 _ _ _ _ _
      | exact ih2 _ _ _ _ _
      | exact frankinglaw1_awake.mono _
      | exact frankingref1_Atom.mono _ _
      | exact frankingref1_Lines.mono _ _
      | exact frankingref1_NString.mono _ _
      | exact frankingref1_Num.mono _ _
      | exact frankingref1_Quote.mono _ _
      | exact frankingref1_Unquote.mono _ _
      | exact octet_Atom.mono _ _
      | exact octet_Lines.mono _ _
      | exact octet_NString.mono _ _
      | exact octet_Num.mono _ _
      | exact octet_Quote.mono _ _
      | exact octet_Unquote.mono _ _
      | exact LeO.none _
      | refine LeO.ite ?_ ?_
      | refine LeO.bind ?_ (fun _ => ?_)
set_option maxHeartbeats 8000000 in
set_option maxRecDepth 100000 in
theorem frankinglaw1_OctetSays.calls (k : Nat) (a0 : ByteArray) (a1 : ByteArray) (w : World) (hG : Gl w) (h : frankinglaw1_OctetSays.f k a0 a1 = some true) :
    Calls Tryd.prog 6 #[.string a0, .string a1] w fun e w' => e = .returned (.bool true) ∧ Below w.heap.size w w' := by
  have HB := Aside0.mk (Below.refl w.heap.size w)
  have HG := Aside0.mk hG
  clear hG
  have H : ((frankinglaw1_awake.f k).bind fun t289 => (if t289 = true then (if (a0.size : Int) > 9000 then (frankinglaw1_OctetSays.j0 k a0 a1 true) else (frankinglaw1_OctetSays.j0 k a0 a1 (decide ((a1.size : Int) > 300)))) else (some false))) = some true := h
  clear h
  replace H := Option.bind_eq_some_iff.mp H
  obtain ⟨t289, A30, H⟩ := H
  replace H : (if t289 = true then (if (a0.size : Int) > 9000 then (frankinglaw1_OctetSays.j0 k a0 a1 true) else (frankinglaw1_OctetSays.j0 k a0 a1 (decide ((a1.size : Int) > 300)))) else (some false)) = some true := H
  have A3 := Aside0.mk A30
  clear A30
  by_cases c4 : t289 = true
  · subst c4
    have H1 : (if (a0.size : Int) > 9000 then (frankinglaw1_OctetSays.j0 k a0 a1 true) else (frankinglaw1_OctetSays.j0 k a0 a1 (decide ((a1.size : Int) > 300)))) = some true := by (rw [if_pos rfl] at H) <;> exact H
    clear H
    have H := H1
    clear H1
    have HC5 := Aside0.mk H
    clear H
    go_enter Tryd.func6, Tryd.ntmps6
    go_upto_region 3 with (first | (go_at_call 20; (with_reducible refine (frankinglaw1_awake.calls k  true _ A3.out).mono ?_); rintro e w6 ⟨rfl, hb⟩; have n0_ := Aside0.mk (below_step (by repeat (first | (with_reducible first | exact HB.out | apply below_alloc | apply pw_below_drewN | apply below_drew1) | exact HB.out)) hb); clear HB; have HB := n0_; clear n0_; (try clear hb); (try clear hb2); (try clear hk); (try clear hi)))
    repeat (go_quiet (first | (go_at_call 20; (with_reducible refine (frankinglaw1_awake.calls k  true _ A3.out).mono ?_); rintro e w6 ⟨rfl, hb⟩; have n0_ := Aside0.mk (below_step (by repeat (first | (with_reducible first | exact HB.out | apply below_alloc | apply pw_below_drewN | apply below_drew1) | exact HB.out)) hb); clear HB; have HB := n0_; clear n0_; (try clear hb); (try clear hb2); (try clear hk); (try clear hi))); go_upto_region 3 with (first | (go_at_call 20; (with_reducible refine (frankinglaw1_awake.calls k  true _ A3.out).mono ?_); rintro e w6 ⟨rfl, hb⟩; have n0_ := Aside0.mk (below_step (by repeat (first | (with_reducible first | exact HB.out | apply below_alloc | apply pw_below_drewN | apply below_drew1) | exact HB.out)) hb); clear HB; have HB := n0_; clear n0_; (try clear hb); (try clear hb2); (try clear hk); (try clear hi))))
    (try simp only [Act.put, List.setIfInBounds_toArray, List.set_cons_zero, List.set_cons_succ])
    go_cut [31] (fun v31 wc => ∃ (kq : Nat) (x31_4 : Bool), v31 = .bool x31_4 ∧ Aside0 (frankinglaw1_OctetSays.j0 kq a0 a1 x31_4 = some true) ∧ Aside0 (kq ≤ k) ∧ Aside0 (Below w.heap.size w wc))
    case first =>
      have H := HC5.out
      clear HC5
      by_cases c7 : (a0.size : Int) > 9000
      · rw [if_pos c7] at H
        have c7b0 : decide (9000 < (a0.size : Int)) = true := decide_eq_true c7
        have c7b1 : decide (9000 < a0.size) = true := decide_eq_true (by omega)
        clear c7
        (first | rw [c7b0] | (simp only [i64_w, i32_w]; rw [c7b0]) | skip)
        have H' := Aside0.mk H
        clear H
        go_wp2
        repeat (go_quiet (fail); try go_wp2)
        go_meet
        case rel => exact ⟨_, (true), (by first | rfl | (simp; done) | (simp [*]; done) | (simp [bne_nil8, beq_nil8]; done)), H', ⟨by first | omega | exact Nat.le_refl _⟩, ⟨by repeat (first | (with_reducible first | exact HB.out | apply below_alloc | apply pw_below_drewN | apply below_drew1) | exact HB.out)⟩⟩
      · rw [if_neg c7] at H
        have c7b0 : decide (9000 < (a0.size : Int)) = false := decide_eq_false c7
        have c7b1 : decide (9000 < a0.size) = false := decide_eq_false (by omega)
        clear c7
        (first | rw [c7b0] | (simp only [i64_w, i32_w]; rw [c7b0]) | skip)
        have H' := Aside0.mk H
        clear H
        go_wp2
        repeat (go_quiet (fail); try go_wp2)
        go_meet
        case rel => exact ⟨_, (decide ((a1.size : Int) > 300)), (by first | rfl | (simp; done) | (simp [*]; done) | (simp [bne_nil8, beq_nil8]; done)), H', ⟨by first | omega | exact Nat.le_refl _⟩, ⟨by repeat (first | (with_reducible first | exact HB.out | apply below_alloc | apply pw_below_drewN | apply below_drew1) | exact HB.out)⟩⟩
    case rest =>
      clear HC5
      try clear p2
      try clear c4
      try clear c6
      try clear c7
      try clear c7b0
      try clear c7b1
      obtain ⟨kq, x31_4, rfl, HA, HJ4, HB⟩ := hcut
      cases kq with
      | zero => exact absurd HA.out (by simp [frankinglaw1_OctetSays.j0])
      | succ kj4 =>
        have H := HA.out
        clear HA
        simp only [frankinglaw1_OctetSays.j0] at H
        by_cases c8 : x31_4 = true
        · subst c8
          have H1 : (some true) = some true := by (rw [if_pos rfl] at H) <;> exact H
          clear H
          have H := H1
          clear H1
          clear H
          go_wp2
          repeat (go_quiet (fail); try go_wp2)
          go_ret
          exact ⟨by first | rfl | (simp [errW_none, errW_some] <;> rfl) | (simp [*, errW_none, errW_some] <;> rfl), by repeat (first | (with_reducible first | exact HB.out | apply below_alloc | apply pw_below_drewN | apply below_drew1) | exact HB.out)⟩
        · replace c8 := Bool.eq_false_iff.mpr c8
          subst c8
          have H1 : ((octet_Quote.f kj4 a0).bind fun bt290 => ((frankingref1_Quote.f kj4 a0).bind fun bt292 => ((octet_Unquote.f kj4 a0).bind fun bt294 => ((frankingref1_Unquote.f kj4 a0).bind fun bt297 => ((octet_Num.f kj4 a0).bind fun bt300 => ((frankingref1_Num.f kj4 a0).bind fun bt302 => (if a0.size ≤ 9223372036854775807 then ((octet_Lines.f kj4 (bytesOf a0)).bind fun t307 => ((frankingref1_Lines.f kj4 (bytesOf a0)).bind fun t313 => (if bt290.1.toList = bt292.1.toList then (if (bt290.2 != bt292.2) = true then (frankinglaw1_OctetSays.j1 kj4 a0 a1 t307 t313 true) else (if bt294.1.toList = bt297.1.toList then (if bt294.2.1 = bt297.2.1 then (if bt294.2.2 = bt297.2.2 then (if bt300.1 = bt302.1 then (if (bt300.2 != bt302.2) = true then (frankinglaw1_OctetSays.j1 kj4 a0 a1 t307 t313 true) else (frankinglaw1_OctetSays.j1 kj4 a0 a1 t307 t313 ((t307.length : Int) != (t313.length : Int)))) else (frankinglaw1_OctetSays.j1 kj4 a0 a1 t307 t313 true)) else (frankinglaw1_OctetSays.j1 kj4 a0 a1 t307 t313 true)) else (frankinglaw1_OctetSays.j1 kj4 a0 a1 t307 t313 true)) else (frankinglaw1_OctetSays.j1 kj4 a0 a1 t307 t313 true))) else (frankinglaw1_OctetSays.j1 kj4 a0 a1 t307 t313 true)))) else (none)))))))) = some true := by (rw [if_neg (show ¬ (false = true) by decide)] at H) <;> exact H
          clear H
          have H := H1
          clear H1
          replace H := Option.bind_eq_some_iff.mp H
          obtain ⟨⟨t290, t291⟩, A90, H⟩ := H
          replace H : ((frankingref1_Quote.f kj4 a0).bind fun bt292 => ((octet_Unquote.f kj4 a0).bind fun bt294 => ((frankingref1_Unquote.f kj4 a0).bind fun bt297 => ((octet_Num.f kj4 a0).bind fun bt300 => ((frankingref1_Num.f kj4 a0).bind fun bt302 => (if a0.size ≤ 9223372036854775807 then ((octet_Lines.f kj4 (bytesOf a0)).bind fun t307 => ((frankingref1_Lines.f kj4 (bytesOf a0)).bind fun t313 => (if t290.toList = bt292.1.toList then (if (t291 != bt292.2) = true then (frankinglaw1_OctetSays.j1 kj4 a0 a1 t307 t313 true) else (if bt294.1.toList = bt297.1.toList then (if bt294.2.1 = bt297.2.1 then (if bt294.2.2 = bt297.2.2 then (if bt300.1 = bt302.1 then (if (bt300.2 != bt302.2) = true then (frankinglaw1_OctetSays.j1 kj4 a0 a1 t307 t313 true) else (frankinglaw1_OctetSays.j1 kj4 a0 a1 t307 t313 ((t307.length : Int) != (t313.length : Int)))) else (frankinglaw1_OctetSays.j1 kj4 a0 a1 t307 t313 true)) else (frankinglaw1_OctetSays.j1 kj4 a0 a1 t307 t313 true)) else (frankinglaw1_OctetSays.j1 kj4 a0 a1 t307 t313 true)) else (frankinglaw1_OctetSays.j1 kj4 a0 a1 t307 t313 true))) else (frankinglaw1_OctetSays.j1 kj4 a0 a1 t307 t313 true)))) else (none))))))) = some true := H
          have A9 := Aside0.mk A90
          clear A90
          replace H := Option.bind_eq_some_iff.mp H
          obtain ⟨⟨t292, t293⟩, A100, H⟩ := H
          replace H : ((octet_Unquote.f kj4 a0).bind fun bt294 => ((frankingref1_Unquote.f kj4 a0).bind fun bt297 => ((octet_Num.f kj4 a0).bind fun bt300 => ((frankingref1_Num.f kj4 a0).bind fun bt302 => (if a0.size ≤ 9223372036854775807 then ((octet_Lines.f kj4 (bytesOf a0)).bind fun t307 => ((frankingref1_Lines.f kj4 (bytesOf a0)).bind fun t313 => (if t290.toList = t292.toList then (if (t291 != t293) = true then (frankinglaw1_OctetSays.j1 kj4 a0 a1 t307 t313 true) else (if bt294.1.toList = bt297.1.toList then (if bt294.2.1 = bt297.2.1 then (if bt294.2.2 = bt297.2.2 then (if bt300.1 = bt302.1 then (if (bt300.2 != bt302.2) = true then (frankinglaw1_OctetSays.j1 kj4 a0 a1 t307 t313 true) else (frankinglaw1_OctetSays.j1 kj4 a0 a1 t307 t313 ((t307.length : Int) != (t313.length : Int)))) else (frankinglaw1_OctetSays.j1 kj4 a0 a1 t307 t313 true)) else (frankinglaw1_OctetSays.j1 kj4 a0 a1 t307 t313 true)) else (frankinglaw1_OctetSays.j1 kj4 a0 a1 t307 t313 true)) else (frankinglaw1_OctetSays.j1 kj4 a0 a1 t307 t313 true))) else (frankinglaw1_OctetSays.j1 kj4 a0 a1 t307 t313 true)))) else (none)))))) = some true := H
          have A10 := Aside0.mk A100
          clear A100
          replace H := Option.bind_eq_some_iff.mp H
          obtain ⟨⟨t294, t295, t296⟩, A110, H⟩ := H
          replace H : ((frankingref1_Unquote.f kj4 a0).bind fun bt297 => ((octet_Num.f kj4 a0).bind fun bt300 => ((frankingref1_Num.f kj4 a0).bind fun bt302 => (if a0.size ≤ 9223372036854775807 then ((octet_Lines.f kj4 (bytesOf a0)).bind fun t307 => ((frankingref1_Lines.f kj4 (bytesOf a0)).bind fun t313 => (if t290.toList = t292.toList then (if (t291 != t293) = true then (frankinglaw1_OctetSays.j1 kj4 a0 a1 t307 t313 true) else (if t294.toList = bt297.1.toList then (if t295 = bt297.2.1 then (if t296 = bt297.2.2 then (if bt300.1 = bt302.1 then (if (bt300.2 != bt302.2) = true then (frankinglaw1_OctetSays.j1 kj4 a0 a1 t307 t313 true) else (frankinglaw1_OctetSays.j1 kj4 a0 a1 t307 t313 ((t307.length : Int) != (t313.length : Int)))) else (frankinglaw1_OctetSays.j1 kj4 a0 a1 t307 t313 true)) else (frankinglaw1_OctetSays.j1 kj4 a0 a1 t307 t313 true)) else (frankinglaw1_OctetSays.j1 kj4 a0 a1 t307 t313 true)) else (frankinglaw1_OctetSays.j1 kj4 a0 a1 t307 t313 true))) else (frankinglaw1_OctetSays.j1 kj4 a0 a1 t307 t313 true)))) else (none))))) = some true := H
          have A11 := Aside0.mk A110
          clear A110
          replace H := Option.bind_eq_some_iff.mp H
          obtain ⟨⟨t297, t298, t299⟩, A120, H⟩ := H
          replace H : ((octet_Num.f kj4 a0).bind fun bt300 => ((frankingref1_Num.f kj4 a0).bind fun bt302 => (if a0.size ≤ 9223372036854775807 then ((octet_Lines.f kj4 (bytesOf a0)).bind fun t307 => ((frankingref1_Lines.f kj4 (bytesOf a0)).bind fun t313 => (if t290.toList = t292.toList then (if (t291 != t293) = true then (frankinglaw1_OctetSays.j1 kj4 a0 a1 t307 t313 true) else (if t294.toList = t297.toList then (if t295 = t298 then (if t296 = t299 then (if bt300.1 = bt302.1 then (if (bt300.2 != bt302.2) = true then (frankinglaw1_OctetSays.j1 kj4 a0 a1 t307 t313 true) else (frankinglaw1_OctetSays.j1 kj4 a0 a1 t307 t313 ((t307.length : Int) != (t313.length : Int)))) else (frankinglaw1_OctetSays.j1 kj4 a0 a1 t307 t313 true)) else (frankinglaw1_OctetSays.j1 kj4 a0 a1 t307 t313 true)) else (frankinglaw1_OctetSays.j1 kj4 a0 a1 t307 t313 true)) else (frankinglaw1_OctetSays.j1 kj4 a0 a1 t307 t313 true))) else (frankinglaw1_OctetSays.j1 kj4 a0 a1 t307 t313 true)))) else (none)))) = some true := H
          have A12 := Aside0.mk A120
          clear A120
          replace H := Option.bind_eq_some_iff.mp H
          obtain ⟨⟨t300, t301⟩, A130, H⟩ := H
          replace H : ((frankingref1_Num.f kj4 a0).bind fun bt302 => (if a0.size ≤ 9223372036854775807 then ((octet_Lines.f kj4 (bytesOf a0)).bind fun t307 => ((frankingref1_Lines.f kj4 (bytesOf a0)).bind fun t313 => (if t290.toList = t292.toList then (if (t291 != t293) = true then (frankinglaw1_OctetSays.j1 kj4 a0 a1 t307 t313 true) else (if t294.toList = t297.toList then (if t295 = t298 then (if t296 = t299 then (if t300 = bt302.1 then (if (t301 != bt302.2) = true then (frankinglaw1_OctetSays.j1 kj4 a0 a1 t307 t313 true) else (frankinglaw1_OctetSays.j1 kj4 a0 a1 t307 t313 ((t307.length : Int) != (t313.length : Int)))) else (frankinglaw1_OctetSays.j1 kj4 a0 a1 t307 t313 true)) else (frankinglaw1_OctetSays.j1 kj4 a0 a1 t307 t313 true)) else (frankinglaw1_OctetSays.j1 kj4 a0 a1 t307 t313 true)) else (frankinglaw1_OctetSays.j1 kj4 a0 a1 t307 t313 true))) else (frankinglaw1_OctetSays.j1 kj4 a0 a1 t307 t313 true)))) else (none))) = some true := H
          have A13 := Aside0.mk A130
          clear A130
          replace H := Option.bind_eq_some_iff.mp H
          obtain ⟨⟨t302, t303⟩, A140, H⟩ := H
          replace H : (if a0.size ≤ 9223372036854775807 then ((octet_Lines.f kj4 (bytesOf a0)).bind fun t307 => ((frankingref1_Lines.f kj4 (bytesOf a0)).bind fun t313 => (if t290.toList = t292.toList then (if (t291 != t293) = true then (frankinglaw1_OctetSays.j1 kj4 a0 a1 t307 t313 true) else (if t294.toList = t297.toList then (if t295 = t298 then (if t296 = t299 then (if t300 = t302 then (if (t301 != t303) = true then (frankinglaw1_OctetSays.j1 kj4 a0 a1 t307 t313 true) else (frankinglaw1_OctetSays.j1 kj4 a0 a1 t307 t313 ((t307.length : Int) != (t313.length : Int)))) else (frankinglaw1_OctetSays.j1 kj4 a0 a1 t307 t313 true)) else (frankinglaw1_OctetSays.j1 kj4 a0 a1 t307 t313 true)) else (frankinglaw1_OctetSays.j1 kj4 a0 a1 t307 t313 true)) else (frankinglaw1_OctetSays.j1 kj4 a0 a1 t307 t313 true))) else (frankinglaw1_OctetSays.j1 kj4 a0 a1 t307 t313 true)))) else (none)) = some true := H
          have A14 := Aside0.mk A140
          clear A140
          by_cases c15 : a0.size ≤ 9223372036854775807
          · rw [if_pos c15] at H
            have c15b0 := eq_true c15
            have c15b1 : decide (a0.size ≤ 9223372036854775807) = true := decide_eq_true c15
            try have c15b2 : (9223372036854775807 < a0.size) = False := eq_false (Nat.not_lt.2 c15)
            clear c15
            obtain ⟨y304, hy304⟩ : ∃ y_ : List Int, y_ = (bytesOf a0) := ⟨_, rfl⟩
            replace H : ((octet_Lines.f kj4 y304).bind fun t307 => ((frankingref1_Lines.f kj4 (bytesOf a0)).bind fun t313 => (if t290.toList = t292.toList then (if (t291 != t293) = true then (frankinglaw1_OctetSays.j1 kj4 a0 a1 t307 t313 true) else (if t294.toList = t297.toList then (if t295 = t298 then (if t296 = t299 then (if t300 = t302 then (if (t301 != t303) = true then (frankinglaw1_OctetSays.j1 kj4 a0 a1 t307 t313 true) else (frankinglaw1_OctetSays.j1 kj4 a0 a1 t307 t313 ((t307.length : Int) != (t313.length : Int)))) else (frankinglaw1_OctetSays.j1 kj4 a0 a1 t307 t313 true)) else (frankinglaw1_OctetSays.j1 kj4 a0 a1 t307 t313 true)) else (frankinglaw1_OctetSays.j1 kj4 a0 a1 t307 t313 true)) else (frankinglaw1_OctetSays.j1 kj4 a0 a1 t307 t313 true))) else (frankinglaw1_OctetSays.j1 kj4 a0 a1 t307 t313 true)))) = some true := by first | (rw [hy304]; with_reducible exact H) | (have H2_ := (Option.bind_some _ _).symm.trans H; rw [hy304]; with_reducible exact H2_) | (have H2_ := (Option.bind_some _ _).symm.trans H; with_reducible exact H2_) | with_reducible exact H | (rw [hy304]; exact H) | exact H
            have Ny304 := Aside0.mk hy304
            clear hy304
            replace H := Option.bind_eq_some_iff.mp H
            obtain ⟨t307, A160, H⟩ := H
            replace H : ((frankingref1_Lines.f kj4 (bytesOf a0)).bind fun t313 => (if t290.toList = t292.toList then (if (t291 != t293) = true then (frankinglaw1_OctetSays.j1 kj4 a0 a1 t307 t313 true) else (if t294.toList = t297.toList then (if t295 = t298 then (if t296 = t299 then (if t300 = t302 then (if (t301 != t303) = true then (frankinglaw1_OctetSays.j1 kj4 a0 a1 t307 t313 true) else (frankinglaw1_OctetSays.j1 kj4 a0 a1 t307 t313 ((t307.length : Int) != (t313.length : Int)))) else (frankinglaw1_OctetSays.j1 kj4 a0 a1 t307 t313 true)) else (frankinglaw1_OctetSays.j1 kj4 a0 a1 t307 t313 true)) else (frankinglaw1_OctetSays.j1 kj4 a0 a1 t307 t313 true)) else (frankinglaw1_OctetSays.j1 kj4 a0 a1 t307 t313 true))) else (frankinglaw1_OctetSays.j1 kj4 a0 a1 t307 t313 true))) = some true := H
            have A16 := Aside0.mk A160
            clear A160
            obtain ⟨y310, hy310⟩ : ∃ y_ : List Int, y_ = (bytesOf a0) := ⟨_, rfl⟩
            replace H : ((frankingref1_Lines.f kj4 y310).bind fun t313 => (if t290.toList = t292.toList then (if (t291 != t293) = true then (frankinglaw1_OctetSays.j1 kj4 a0 a1 t307 t313 true) else (if t294.toList = t297.toList then (if t295 = t298 then (if t296 = t299 then (if t300 = t302 then (if (t301 != t303) = true then (frankinglaw1_OctetSays.j1 kj4 a0 a1 t307 t313 true) else (frankinglaw1_OctetSays.j1 kj4 a0 a1 t307 t313 ((t307.length : Int) != (t313.length : Int)))) else (frankinglaw1_OctetSays.j1 kj4 a0 a1 t307 t313 true)) else (frankinglaw1_OctetSays.j1 kj4 a0 a1 t307 t313 true)) else (frankinglaw1_OctetSays.j1 kj4 a0 a1 t307 t313 true)) else (frankinglaw1_OctetSays.j1 kj4 a0 a1 t307 t313 true))) else (frankinglaw1_OctetSays.j1 kj4 a0 a1 t307 t313 true))) = some true := by first | (rw [hy310]; with_reducible exact H) | (have H2_ := (Option.bind_some _ _).symm.trans H; rw [hy310]; with_reducible exact H2_) | (have H2_ := (Option.bind_some _ _).symm.trans H; with_reducible exact H2_) | with_reducible exact H | (rw [hy310]; exact H) | exact H
            have Ny310 := Aside0.mk hy310
            clear hy310
            replace H := Option.bind_eq_some_iff.mp H
            obtain ⟨t313, A170, H⟩ := H
            replace H : (if t290.toList = t292.toList then (if (t291 != t293) = true then (frankinglaw1_OctetSays.j1 kj4 a0 a1 t307 t313 true) else (if t294.toList = t297.toList then (if t295 = t298 then (if t296 = t299 then (if t300 = t302 then (if (t301 != t303) = true then (frankinglaw1_OctetSays.j1 kj4 a0 a1 t307 t313 true) else (frankinglaw1_OctetSays.j1 kj4 a0 a1 t307 t313 ((t307.length : Int) != (t313.length : Int)))) else (frankinglaw1_OctetSays.j1 kj4 a0 a1 t307 t313 true)) else (frankinglaw1_OctetSays.j1 kj4 a0 a1 t307 t313 true)) else (frankinglaw1_OctetSays.j1 kj4 a0 a1 t307 t313 true)) else (frankinglaw1_OctetSays.j1 kj4 a0 a1 t307 t313 true))) else (frankinglaw1_OctetSays.j1 kj4 a0 a1 t307 t313 true)) = some true := H
            have A17 := Aside0.mk A170
            clear A170
            have HC18 := Aside0.mk H
            clear H
            go_upto_region 12 with (first | (go_at_call 21; (with_reducible refine (octet_Quote.calls kj4 a0 t290 t291 _ A9.out).mono ?_); rintro e w19 ⟨rfl, hb⟩; have n0_ := Aside0.mk (below_step (by repeat (first | (with_reducible first | exact HB.out | apply below_alloc | apply pw_below_drewN | apply below_drew1) | exact HB.out)) hb); clear HB; have HB := n0_; clear n0_; (try clear hb); (try clear hb2); (try clear hk); (try clear hi)) | (go_at_call 28; (with_reducible refine (frankingref1_Quote.calls kj4 a0 t292 t293 _ A10.out).mono ?_); rintro e w20 ⟨rfl, hb⟩; have n0_ := Aside0.mk (below_step (by repeat (first | (with_reducible first | exact HB.out | apply below_alloc | apply pw_below_drewN | apply below_drew1) | exact HB.out)) hb); clear HB; have HB := n0_; clear n0_; (try clear hb); (try clear hb2); (try clear hk); (try clear hi)) | (go_at_call 22; (with_reducible refine (octet_Unquote.calls kj4 a0 t294 t295 t296 _ A11.out).mono ?_); rintro e w21 ⟨rfl, hb⟩; have n0_ := Aside0.mk (below_step (by repeat (first | (with_reducible first | exact HB.out | apply below_alloc | apply pw_below_drewN | apply below_drew1) | exact HB.out)) hb); clear HB; have HB := n0_; clear n0_; (try clear hb); (try clear hb2); (try clear hk); (try clear hi)) | (go_at_call 29; (with_reducible refine (frankingref1_Unquote.calls kj4 a0 t297 t298 t299 _ A12.out).mono ?_); rintro e w22 ⟨rfl, hb⟩; have n0_ := Aside0.mk (below_step (by repeat (first | (with_reducible first | exact HB.out | apply below_alloc | apply pw_below_drewN | apply below_drew1) | exact HB.out)) hb); clear HB; have HB := n0_; clear n0_; (try clear hb); (try clear hb2); (try clear hk); (try clear hi)) | (go_at_call 24; (with_reducible refine (octet_Num.calls kj4 a0 t300 t301 _ A13.out).mono ?_); rintro e w' ⟨rfl, ⟨nd, rfl⟩⟩; (try first | exact ⟨rfl, _, World.drewN_drewN _ _ _⟩ | exact ⟨rfl, _, Eq.trans (World.drewN_drewN _ _ _) (congrArg (World.drewN _) (Nat.add_assoc _ _ _))⟩)) | (go_at_call 30; (with_reducible refine (frankingref1_Num.calls kj4 a0 t302 t303 _ A14.out).mono ?_); rintro e w' ⟨rfl, ⟨nd, rfl⟩⟩; (try first | exact ⟨rfl, _, World.drewN_drewN _ _ _⟩ | exact ⟨rfl, _, Eq.trans (World.drewN_drewN _ _ _) (congrArg (World.drewN _) (Nat.add_assoc _ _ _))⟩)) | ((with_reducible refine gate_dst (N := 65) rfl ?_); (try (refine gate_guard (by rfl) ?_; dsimp only)); refine conv_str 5 rfl (N := 65) rfl 9 48 _ rfl Tryd.underlying9 Tryd.underlying48 Tryd.underlying5 a0 rfl (of_decide_eq_true (by first | (with_reducible assumption) | assumption)) y304 Ny304.out ?_; intro v305 w24 ho25 hb; have n0_ := Aside0.mk (Kd.V_lower (Kd.V_mono (ok' := fun k_ => True) ho25 (fun k_ hk_ => trivial)) (below_size (by repeat (first | (with_reducible first | exact HB.out | apply below_alloc | apply pw_below_drewN | apply below_drew1) | exact HB.out)))); have n1_ := Aside0.mk (below_step (by repeat (first | (with_reducible first | exact HB.out | apply below_alloc | apply pw_below_drewN | apply below_drew1) | exact HB.out)) hb); clear HB; have HO306 := n0_; have HB := n1_; clear n0_ n1_; clear hb ho25; obtain ⟨Ao26, co26, eo26⟩ := Kd.V_slice HO306.out; subst eo26) | (go_at_call 23; (with_reducible refine (octet_Lines.calls kj4 (fun k_ => True) _ _ y304 t307 _ ?side1 ?side2 A16.out).mono ?_); (case side1 => exact HO306.out); (case side2 => exact Gl.below HG.out (by repeat (first | (with_reducible first | exact HB.out | apply below_alloc | apply pw_below_drewN | apply below_drew1) | exact HB.out))); rintro e w27 ⟨v308, rfl, ho0, hb⟩; (try (have hsn_ := Kd.S_N ho0; clear ho0; have ho0 := hsn_; clear hsn_)); have n0_ := Aside0.mk (Kd.V_elder' (by (with_reducible repeat (first | apply Kd.V_alloc | apply Kd.V_drewN | apply Kd.V_drew)); exact HO306.out) (Kd.N_base ho0) hb); have n1_ := Aside0.mk (Kd.N_lower (Kd.N_mono (ok' := fun k_ => True) ho0 (fun k_ hk_ => trivial)) (below_size (by repeat (first | (with_reducible first | exact HB.out | apply below_alloc | apply pw_below_drewN | apply below_drew1) | exact HB.out)))); have n2_ := Aside0.mk (below_step (by repeat (first | (with_reducible first | exact HB.out | apply below_alloc | apply pw_below_drewN | apply below_drew1) | exact HB.out)) hb); clear HO306; clear HB; have HO306 := n0_; have HO309 := n1_; have HB := n2_; clear n0_ n1_ n2_; (try clear hb); (try clear hb2); (try clear hk); (try clear hi); (try clear ho0)) | ((with_reducible refine gate_dst (N := 68) rfl ?_); (try (refine gate_guard (by rfl) ?_; dsimp only)); refine conv_str 5 rfl (N := 68) rfl 9 48 _ rfl Tryd.underlying9 Tryd.underlying48 Tryd.underlying5 a0 rfl (of_decide_eq_true (by first | (with_reducible assumption) | assumption)) y310 Ny310.out ?_; intro v311 w29 ho30 hb; have n0_ := Aside0.mk (Kd.V_below (by (with_reducible repeat (first | apply Kd.V_alloc | apply Kd.V_drewN | apply Kd.V_drew)); exact HO306.out) hb); have n1_ := Aside0.mk (Kd.N_below (by (with_reducible repeat (first | apply Kd.N_alloc | apply Kd.N_drewN | apply Kd.N_drew)); exact HO309.out) hb); have n2_ := Aside0.mk (Kd.V_lower (Kd.V_mono (ok' := fun k_ => some k_ ≠ (v308 : Value).ownBlock) ho30 (fun k_ hk_ => (Kd.fresh' (Kd.N_lt (by (with_reducible repeat (first | apply Kd.N_alloc | apply Kd.N_drewN | apply Kd.N_drew)); exact HO309.out)) k_ hk_))) (below_size (by repeat (first | (with_reducible first | exact HB.out | apply below_alloc | apply pw_below_drewN | apply below_drew1) | exact HB.out)))); have n3_ := Aside0.mk (below_step (by repeat (first | (with_reducible first | exact HB.out | apply below_alloc | apply pw_below_drewN | apply below_drew1) | exact HB.out)) hb); clear HO306; clear HO309; clear HB; have HO306 := n0_; have HO309 := n1_; have HO312 := n2_; have HB := n3_; clear n0_ n1_ n2_ n3_; clear hb ho30; obtain ⟨Ao31, co31, eo31⟩ := Kd.V_slice HO312.out; subst eo31) | (go_at_call 31; (with_reducible refine (frankingref1_Lines.calls kj4 (fun k_ => some k_ ≠ (v308 : Value).ownBlock) _ _ y310 t313 _ ?side1 A17.out).mono ?_); (case side1 => exact HO312.out); rintro e w32 ⟨v314, rfl, ho0, hb⟩; (try (have hsn_ := Kd.S_N ho0; clear ho0; have ho0 := hsn_; clear hsn_)); have n0_ := Aside0.mk (Kd.V_elder' (by (with_reducible repeat (first | apply Kd.V_alloc | apply Kd.V_drewN | apply Kd.V_drew)); exact HO306.out) (Kd.N_base ho0) hb); have n1_ := Aside0.mk (Kd.N_elder' (by (with_reducible repeat (first | apply Kd.N_alloc | apply Kd.N_drewN | apply Kd.N_drew)); exact HO309.out) (Kd.N_base ho0) hb); have n2_ := Aside0.mk (Kd.V_elder' (by (with_reducible repeat (first | apply Kd.V_alloc | apply Kd.V_drewN | apply Kd.V_drew)); exact HO312.out) (Kd.N_base ho0) hb); have n3_ := Aside0.mk (Kd.N_lower (Kd.N_mono (ok' := fun k_ => some k_ ≠ (v308 : Value).ownBlock) ho0 (fun k_ hk_ => Or.elim hk_ (fun hs_ => hs_) (fun hn_ => (Kd.fresh' (Kd.N_lt (by (with_reducible repeat (first | apply Kd.N_alloc | apply Kd.N_drewN | apply Kd.N_drew)); exact HO309.out)) k_ hn_)))) (below_size (by repeat (first | (with_reducible first | exact HB.out | apply below_alloc | apply pw_below_drewN | apply below_drew1) | exact HB.out)))); have n4_ := Aside0.mk (below_step (by repeat (first | (with_reducible first | exact HB.out | apply below_alloc | apply pw_below_drewN | apply below_drew1) | exact HB.out)) hb); clear HO306; clear HO309; clear HO312; clear HB; have HO306 := n0_; have HO309 := n1_; have HO312 := n2_; have HO315 := n3_; have HB := n4_; clear n0_ n1_ n2_ n3_ n4_; (try clear hb); (try clear hb2); (try clear hk); (try clear hi); (try clear ho0)))
            repeat (go_quiet (first | (go_at_call 21; (with_reducible refine (octet_Quote.calls kj4 a0 t290 t291 _ A9.out).mono ?_); rintro e w19 ⟨rfl, hb⟩; have n0_ := Aside0.mk (below_step (by repeat (first | (with_reducible first | exact HB.out | apply below_alloc | apply pw_below_drewN | apply below_drew1) | exact HB.out)) hb); clear HB; have HB := n0_; clear n0_; (try clear hb); (try clear hb2); (try clear hk); (try clear hi)) | (go_at_call 28; (with_reducible refine (frankingref1_Quote.calls kj4 a0 t292 t293 _ A10.out).mono ?_); rintro e w20 ⟨rfl, hb⟩; have n0_ := Aside0.mk (below_step (by repeat (first | (with_reducible first | exact HB.out | apply below_alloc | apply pw_below_drewN | apply below_drew1) | exact HB.out)) hb); clear HB; have HB := n0_; clear n0_; (try clear hb); (try clear hb2); (try clear hk); (try clear hi)) | (go_at_call 22; (with_reducible refine (octet_Unquote.calls kj4 a0 t294 t295 t296 _ A11.out).mono ?_); rintro e w21 ⟨rfl, hb⟩; have n0_ := Aside0.mk (below_step (by repeat (first | (with_reducible first | exact HB.out | apply below_alloc | apply pw_below_drewN | apply below_drew1) | exact HB.out)) hb); clear HB; have HB := n0_; clear n0_; (try clear hb); (try clear hb2); (try clear hk); (try clear hi)) | (go_at_call 29; (with_reducible refine (frankingref1_Unquote.calls kj4 a0 t297 t298 t299 _ A12.out).mono ?_); rintro e w22 ⟨rfl, hb⟩; have n0_ := Aside0.mk (below_step (by repeat (first | (with_reducible first | exact HB.out | apply below_alloc | apply pw_below_drewN | apply below_drew1) | exact HB.out)) hb); clear HB; have HB := n0_; clear n0_; (try clear hb); (try clear hb2); (try clear hk); (try clear hi)) | (go_at_call 24; (with_reducible refine (octet_Num.calls kj4 a0 t300 t301 _ A13.out).mono ?_); rintro e w' ⟨rfl, ⟨nd, rfl⟩⟩; (try first | exact ⟨rfl, _, World.drewN_drewN _ _ _⟩ | exact ⟨rfl, _, Eq.trans (World.drewN_drewN _ _ _) (congrArg (World.drewN _) (Nat.add_assoc _ _ _))⟩)) | (go_at_call 30; (with_reducible refine (frankingref1_Num.calls kj4 a0 t302 t303 _ A14.out).mono ?_); rintro e w' ⟨rfl, ⟨nd, rfl⟩⟩; (try first | exact ⟨rfl, _, World.drewN_drewN _ _ _⟩ | exact ⟨rfl, _, Eq.trans (World.drewN_drewN _ _ _) (congrArg (World.drewN _) (Nat.add_assoc _ _ _))⟩)) | ((with_reducible refine gate_dst (N := 65) rfl ?_); (try (refine gate_guard (by rfl) ?_; dsimp only)); refine conv_str 5 rfl (N := 65) rfl 9 48 _ rfl Tryd.underlying9 Tryd.underlying48 Tryd.underlying5 a0 rfl (of_decide_eq_true (by first | (with_reducible assumption) | assumption)) y304 Ny304.out ?_; intro v305 w24 ho25 hb; have n0_ := Aside0.mk (Kd.V_lower (Kd.V_mono (ok' := fun k_ => True) ho25 (fun k_ hk_ => trivial)) (below_size (by repeat (first | (with_reducible first | exact HB.out | apply below_alloc | apply pw_below_drewN | apply below_drew1) | exact HB.out)))); have n1_ := Aside0.mk (below_step (by repeat (first | (with_reducible first | exact HB.out | apply below_alloc | apply pw_below_drewN | apply below_drew1) | exact HB.out)) hb); clear HB; have HO306 := n0_; have HB := n1_; clear n0_ n1_; clear hb ho25; obtain ⟨Ao26, co26, eo26⟩ := Kd.V_slice HO306.out; subst eo26) | (go_at_call 23; (with_reducible refine (octet_Lines.calls kj4 (fun k_ => True) _ _ y304 t307 _ ?side1 ?side2 A16.out).mono ?_); (case side1 => exact HO306.out); (case side2 => exact Gl.below HG.out (by repeat (first | (with_reducible first | exact HB.out | apply below_alloc | apply pw_below_drewN | apply below_drew1) | exact HB.out))); rintro e w27 ⟨v308, rfl, ho0, hb⟩; (try (have hsn_ := Kd.S_N ho0; clear ho0; have ho0 := hsn_; clear hsn_)); have n0_ := Aside0.mk (Kd.V_elder' (by (with_reducible repeat (first | apply Kd.V_alloc | apply Kd.V_drewN | apply Kd.V_drew)); exact HO306.out) (Kd.N_base ho0) hb); have n1_ := Aside0.mk (Kd.N_lower (Kd.N_mono (ok' := fun k_ => True) ho0 (fun k_ hk_ => trivial)) (below_size (by repeat (first | (with_reducible first | exact HB.out | apply below_alloc | apply pw_below_drewN | apply below_drew1) | exact HB.out)))); have n2_ := Aside0.mk (below_step (by repeat (first | (with_reducible first | exact HB.out | apply below_alloc | apply pw_below_drewN | apply below_drew1) | exact HB.out)) hb); clear HO306; clear HB; have HO306 := n0_; have HO309 := n1_; have HB := n2_; clear n0_ n1_ n2_; (try clear hb); (try clear hb2); (try clear hk); (try clear hi); (try clear ho0)) | ((with_reducible refine gate_dst (N := 68) rfl ?_); (try (refine gate_guard (by rfl) ?_; dsimp only)); refine conv_str 5 rfl (N := 68) rfl 9 48 _ rfl Tryd.underlying9 Tryd.underlying48 Tryd.underlying5 a0 rfl (of_decide_eq_true (by first | (with_reducible assumption) | assumption)) y310 Ny310.out ?_; intro v311 w29 ho30 hb; have n0_ := Aside0.mk (Kd.V_below (by (with_reducible repeat (first | apply Kd.V_alloc | apply Kd.V_drewN | apply Kd.V_drew)); exact HO306.out) hb); have n1_ := Aside0.mk (Kd.N_below (by (with_reducible repeat (first | apply Kd.N_alloc | apply Kd.N_drewN | apply Kd.N_drew)); exact HO309.out) hb); have n2_ := Aside0.mk (Kd.V_lower (Kd.V_mono (ok' := fun k_ => some k_ ≠ (v308 : Value).ownBlock) ho30 (fun k_ hk_ => (Kd.fresh' (Kd.N_lt (by (with_reducible repeat (first | apply Kd.N_alloc | apply Kd.N_drewN | apply Kd.N_drew)); exact HO309.out)) k_ hk_))) (below_size (by repeat (first | (with_reducible first | exact HB.out | apply below_alloc | apply pw_below_drewN | apply below_drew1) | exact HB.out)))); have n3_ := Aside0.mk (below_step (by repeat (first | (with_reducible first | exact HB.out | apply below_alloc | apply pw_below_drewN | apply below_drew1) | exact HB.out)) hb); clear HO306; clear HO309; clear HB; have HO306 := n0_; have HO309 := n1_; have HO312 := n2_; have HB := n3_; clear n0_ n1_ n2_ n3_; clear hb ho30; obtain ⟨Ao31, co31, eo31⟩ := Kd.V_slice HO312.out; subst eo31) | (go_at_call 31; (with_reducible refine (frankingref1_Lines.calls kj4 (fun k_ => some k_ ≠ (v308 : Value).ownBlock) _ _ y310 t313 _ ?side1 A17.out).mono ?_); (case side1 => exact HO312.out); rintro e w32 ⟨v314, rfl, ho0, hb⟩; (try (have hsn_ := Kd.S_N ho0; clear ho0; have ho0 := hsn_; clear hsn_)); have n0_ := Aside0.mk (Kd.V_elder' (by (with_reducible repeat (first | apply Kd.V_alloc | apply Kd.V_drewN | apply Kd.V_drew)); exact HO306.out) (Kd.N_base ho0) hb); have n1_ := Aside0.mk (Kd.N_elder' (by (with_reducible repeat (first | apply Kd.N_alloc | apply Kd.N_drewN | apply Kd.N_drew)); exact HO309.out) (Kd.N_base ho0) hb); have n2_ := Aside0.mk (Kd.V_elder' (by (with_reducible repeat (first | apply Kd.V_alloc | apply Kd.V_drewN | apply Kd.V_drew)); exact HO312.out) (Kd.N_base ho0) hb); have n3_ := Aside0.mk (Kd.N_lower (Kd.N_mono (ok' := fun k_ => some k_ ≠ (v308 : Value).ownBlock) ho0 (fun k_ hk_ => Or.elim hk_ (fun hs_ => hs_) (fun hn_ => (Kd.fresh' (Kd.N_lt (by (with_reducible repeat (first | apply Kd.N_alloc | apply Kd.N_drewN | apply Kd.N_drew)); exact HO309.out)) k_ hn_)))) (below_size (by repeat (first | (with_reducible first | exact HB.out | apply below_alloc | apply pw_below_drewN | apply below_drew1) | exact HB.out)))); have n4_ := Aside0.mk (below_step (by repeat (first | (with_reducible first | exact HB.out | apply below_alloc | apply pw_below_drewN | apply below_drew1) | exact HB.out)) hb); clear HO306; clear HO309; clear HO312; clear HB; have HO306 := n0_; have HO309 := n1_; have HO312 := n2_; have HO315 := n3_; have HB := n4_; clear n0_ n1_ n2_ n3_ n4_; (try clear hb); (try clear hb2); (try clear hk); (try clear hi); (try clear ho0))); go_upto_region 12 with (first | (go_at_call 21; (with_reducible refine (octet_Quote.calls kj4 a0 t290 t291 _ A9.out).mono ?_); rintro e w19 ⟨rfl, hb⟩; have n0_ := Aside0.mk (below_step (by repeat (first | (with_reducible first | exact HB.out | apply below_alloc | apply pw_below_drewN | apply below_drew1) | exact HB.out)) hb); clear HB; have HB := n0_; clear n0_; (try clear hb); (try clear hb2); (try clear hk); (try clear hi)) | (go_at_call 28; (with_reducible refine (frankingref1_Quote.calls kj4 a0 t292 t293 _ A10.out).mono ?_); rintro e w20 ⟨rfl, hb⟩; have n0_ := Aside0.mk (below_step (by repeat (first | (with_reducible first | exact HB.out | apply below_alloc | apply pw_below_drewN | apply below_drew1) | exact HB.out)) hb); clear HB; have HB := n0_; clear n0_; (try clear hb); (try clear hb2); (try clear hk); (try clear hi)) | (go_at_call 22; (with_reducible refine (octet_Unquote.calls kj4 a0 t294 t295 t296 _ A11.out).mono ?_); rintro e w21 ⟨rfl, hb⟩; have n0_ := Aside0.mk (below_step (by repeat (first | (with_reducible first | exact HB.out | apply below_alloc | apply pw_below_drewN | apply below_drew1) | exact HB.out)) hb); clear HB; have HB := n0_; clear n0_; (try clear hb); (try clear hb2); (try clear hk); (try clear hi)) | (go_at_call 29; (with_reducible refine (frankingref1_Unquote.calls kj4 a0 t297 t298 t299 _ A12.out).mono ?_); rintro e w22 ⟨rfl, hb⟩; have n0_ := Aside0.mk (below_step (by repeat (first | (with_reducible first | exact HB.out | apply below_alloc | apply pw_below_drewN | apply below_drew1) | exact HB.out)) hb); clear HB; have HB := n0_; clear n0_; (try clear hb); (try clear hb2); (try clear hk); (try clear hi)) | (go_at_call 24; (with_reducible refine (octet_Num.calls kj4 a0 t300 t301 _ A13.out).mono ?_); rintro e w' ⟨rfl, ⟨nd, rfl⟩⟩; (try first | exact ⟨rfl, _, World.drewN_drewN _ _ _⟩ | exact ⟨rfl, _, Eq.trans (World.drewN_drewN _ _ _) (congrArg (World.drewN _) (Nat.add_assoc _ _ _))⟩)) | (go_at_call 30; (with_reducible refine (frankingref1_Num.calls kj4 a0 t302 t303 _ A14.out).mono ?_); rintro e w' ⟨rfl, ⟨nd, rfl⟩⟩; (try first | exact ⟨rfl, _, World.drewN_drewN _ _ _⟩ | exact ⟨rfl, _, Eq.trans (World.drewN_drewN _ _ _) (congrArg (World.drewN _) (Nat.add_assoc _ _ _))⟩)) | ((with_reducible refine gate_dst (N := 65) rfl ?_); (try (refine gate_guard (by rfl) ?_; dsimp only)); refine conv_str 5 rfl (N := 65) rfl 9 48 _ rfl Tryd.underlying9 Tryd.underlying48 Tryd.underlying5 a0 rfl (of_decide_eq_true (by first | (with_reducible assumption) | assumption)) y304 Ny304.out ?_; intro v305 w24 ho25 hb; have n0_ := Aside0.mk (Kd.V_lower (Kd.V_mono (ok' := fun k_ => True) ho25 (fun k_ hk_ => trivial)) (below_size (by repeat (first | (with_reducible first | exact HB.out | apply below_alloc | apply pw_below_drewN | apply below_drew1) | exact HB.out)))); have n1_ := Aside0.mk (below_step (by repeat (first | (with_reducible first | exact HB.out | apply below_alloc | apply pw_below_drewN | apply below_drew1) | exact HB.out)) hb); clear HB; have HO306 := n0_; have HB := n1_; clear n0_ n1_; clear hb ho25; obtain ⟨Ao26, co26, eo26⟩ := Kd.V_slice HO306.out; subst eo26) | (go_at_call 23; (with_reducible refine (octet_Lines.calls kj4 (fun k_ => True) _ _ y304 t307 _ ?side1 ?side2 A16.out).mono ?_); (case side1 => exact HO306.out); (case side2 => exact Gl.below HG.out (by repeat (first | (with_reducible first | exact HB.out | apply below_alloc | apply pw_below_drewN | apply below_drew1) | exact HB.out))); rintro e w27 ⟨v308, rfl, ho0, hb⟩; (try (have hsn_ := Kd.S_N ho0; clear ho0; have ho0 := hsn_; clear hsn_)); have n0_ := Aside0.mk (Kd.V_elder' (by (with_reducible repeat (first | apply Kd.V_alloc | apply Kd.V_drewN | apply Kd.V_drew)); exact HO306.out) (Kd.N_base ho0) hb); have n1_ := Aside0.mk (Kd.N_lower (Kd.N_mono (ok' := fun k_ => True) ho0 (fun k_ hk_ => trivial)) (below_size (by repeat (first | (with_reducible first | exact HB.out | apply below_alloc | apply pw_below_drewN | apply below_drew1) | exact HB.out)))); have n2_ := Aside0.mk (below_step (by repeat (first | (with_reducible first | exact HB.out | apply below_alloc | apply pw_below_drewN | apply below_drew1) | exact HB.out)) hb); clear HO306; clear HB; have HO306 := n0_; have HO309 := n1_; have HB := n2_; clear n0_ n1_ n2_; (try clear hb); (try clear hb2); (try clear hk); (try clear hi); (try clear ho0)) | ((with_reducible refine gate_dst (N := 68) rfl ?_); (try (refine gate_guard (by rfl) ?_; dsimp only)); refine conv_str 5 rfl (N := 68) rfl 9 48 _ rfl Tryd.underlying9 Tryd.underlying48 Tryd.underlying5 a0 rfl (of_decide_eq_true (by first | (with_reducible assumption) | assumption)) y310 Ny310.out ?_; intro v311 w29 ho30 hb; have n0_ := Aside0.mk (Kd.V_below (by (with_reducible repeat (first | apply Kd.V_alloc | apply Kd.V_drewN | apply Kd.V_drew)); exact HO306.out) hb); have n1_ := Aside0.mk (Kd.N_below (by (with_reducible repeat (first | apply Kd.N_alloc | apply Kd.N_drewN | apply Kd.N_drew)); exact HO309.out) hb); have n2_ := Aside0.mk (Kd.V_lower (Kd.V_mono (ok' := fun k_ => some k_ ≠ (v308 : Value).ownBlock) ho30 (fun k_ hk_ => (Kd.fresh' (Kd.N_lt (by (with_reducible repeat (first | apply Kd.N_alloc | apply Kd.N_drewN | apply Kd.N_drew)); exact HO309.out)) k_ hk_))) (below_size (by repeat (first | (with_reducible first | exact HB.out | apply below_alloc | apply pw_below_drewN | apply below_drew1) | exact HB.out)))); have n3_ := Aside0.mk (below_step (by repeat (first | (with_reducible first | exact HB.out | apply below_alloc | apply pw_below_drewN | apply below_drew1) | exact HB.out)) hb); clear HO306; clear HO309; clear HB; have HO306 := n0_; have HO309 := n1_; have HO312 := n2_; have HB := n3_; clear n0_ n1_ n2_ n3_; clear hb ho30; obtain ⟨Ao31, co31, eo31⟩ := Kd.V_slice HO312.out; subst eo31) | (go_at_call 31; (with_reducible refine (frankingref1_Lines.calls kj4 (fun k_ => some k_ ≠ (v308 : Value).ownBlock) _ _ y310 t313 _ ?side1 A17.out).mono ?_); (case side1 => exact HO312.out); rintro e w32 ⟨v314, rfl, ho0, hb⟩; (try (have hsn_ := Kd.S_N ho0; clear ho0; have ho0 := hsn_; clear hsn_)); have n0_ := Aside0.mk (Kd.V_elder' (by (with_reducible repeat (first | apply Kd.V_alloc | apply Kd.V_drewN | apply Kd.V_drew)); exact HO306.out) (Kd.N_base ho0) hb); have n1_ := Aside0.mk (Kd.N_elder' (by (with_reducible repeat (first | apply Kd.N_alloc | apply Kd.N_drewN | apply Kd.N_drew)); exact HO309.out) (Kd.N_base ho0) hb); have n2_ := Aside0.mk (Kd.V_elder' (by (with_reducible repeat (first | apply Kd.V_alloc | apply Kd.V_drewN | apply Kd.V_drew)); exact HO312.out) (Kd.N_base ho0) hb); have n3_ := Aside0.mk (Kd.N_lower (Kd.N_mono (ok' := fun k_ => some k_ ≠ (v308 : Value).ownBlock) ho0 (fun k_ hk_ => Or.elim hk_ (fun hs_ => hs_) (fun hn_ => (Kd.fresh' (Kd.N_lt (by (with_reducible repeat (first | apply Kd.N_alloc | apply Kd.N_drewN | apply Kd.N_drew)); exact HO309.out)) k_ hn_)))) (below_size (by repeat (first | (with_reducible first | exact HB.out | apply below_alloc | apply pw_below_drewN | apply below_drew1) | exact HB.out)))); have n4_ := Aside0.mk (below_step (by repeat (first | (with_reducible first | exact HB.out | apply below_alloc | apply pw_below_drewN | apply below_drew1) | exact HB.out)) hb); clear HO306; clear HO309; clear HO312; clear HB; have HO306 := n0_; have HO309 := n1_; have HO312 := n2_; have HO315 := n3_; have HB := n4_; clear n0_ n1_ n2_ n3_ n4_; (try clear hb); (try clear hb2); (try clear hk); (try clear hi); (try clear ho0))))
            (try simp only [Act.put, List.setIfInBounds_toArray, List.set_cons_zero, List.set_cons_succ])
            go_cut [109] (fun v109 wc => ∃ (kq : Nat) (x109_17 : Bool), v109 = .bool x109_17 ∧ Aside0 (frankinglaw1_OctetSays.j1 kq a0 a1 t307 t313 x109_17 = some true) ∧ Aside0 (kq ≤ kj4) ∧ Aside0 (Kd.N (Kd.slice 5 (Kd.int .u8)) 48 wc w.heap.size (fun k_ => some k_ ≠ (v314 : Value).ownBlock) v308 t307) ∧ Aside0 (Kd.N (Kd.slice 5 (Kd.int .u8)) 48 wc w.heap.size (fun k_ => some k_ ≠ (v308 : Value).ownBlock) v314 t313) ∧ Aside0 (Below w.heap.size w wc))
            case first =>
              have H := HC18.out
              clear HC18
              by_cases c33 : t290.toList = t292.toList
              · rw [if_pos c33] at H
                have c33b0 : (t290.toList == t292.toList) = true := beq_iff_eq.mpr c33
                have c33b1 : (t290.toList != t292.toList) = false := bne_eq_false_iff_eq.mpr c33
                clear c33
                (first | rw [c33b0] | (simp only [i64_w, i32_w]; rw [c33b0]) | skip)
                by_cases c34 : (t291 != t293) = true
                · rw [if_pos c34] at H
                  have c34b0 : (t291 != t293) = true := c34
                  (try (have c34b1 : decide (t291 = t293) = false := by simpa using c34))
                  (try (have c34b2 : (t291 == t293) = false := by simpa using c34))
                  (try (have c34b3 : ¬ (t291 = t293) := by simpa using c34))
                  clear c34
                  have H' := Aside0.mk H
                  clear H
                  go_wp2
                  repeat (go_quiet (fail); try go_wp2)
                  go_meet
                  case rel => exact ⟨_, (true), (by first | rfl | (simp; done) | (simp [*]; done) | (simp [bne_nil8, beq_nil8]; done)), H', ⟨by have := HJ4.out; first | omega | exact Nat.le_refl _⟩, ⟨by (with_reducible repeat (first | apply Kd.N_alloc | apply Kd.N_drewN | apply Kd.N_drew)); exact Kd.N_mono HO309.out (fun _ hk => hk.2)⟩, ⟨by (with_reducible repeat (first | apply Kd.N_alloc | apply Kd.N_drewN | apply Kd.N_drew)); exact HO315.out⟩, ⟨by repeat (first | (with_reducible first | exact HB.out | apply below_alloc | apply pw_below_drewN | apply below_drew1) | exact HB.out)⟩⟩
                · rw [if_neg c34] at H
                  have c34b0 : (t291 != t293) = false := by simpa using c34
                  (try (have c34b1 : decide (t291 = t293) = true := by simpa using c34))
                  (try (have c34b2 : (t291 == t293) = true := by simpa using c34))
                  clear c34
                  by_cases c35 : t294.toList = t297.toList
                  · rw [if_pos c35] at H
                    have c35b0 : (t294.toList == t297.toList) = true := beq_iff_eq.mpr c35
                    have c35b1 : (t294.toList != t297.toList) = false := bne_eq_false_iff_eq.mpr c35
                    clear c35
                    by_cases c36 : t295 = t298
                    · rw [if_pos c36] at H
                      have c36b0 : (t295 == t298) = true := beq_iff_eq.mpr c36
                      have c36b1 : (t295 != t298) = false := bne_eq_false_iff_eq.mpr c36
                      clear c36
                      by_cases c37 : t296 = t299
                      · rw [if_pos c37] at H
                        have c37b0 : (t296 == t299) = true := beq_iff_eq.mpr c37
                        have c37b1 : (t296 != t299) = false := bne_eq_false_iff_eq.mpr c37
                        clear c37
                        by_cases c38 : t300 = t302
                        · rw [if_pos c38] at H
                          have c38b0 : (t300 == t302) = true := beq_iff_eq.mpr c38
                          have c38b1 : (t300 != t302) = false := bne_eq_false_iff_eq.mpr c38
                          clear c38
                          by_cases c39 : (t301 != t303) = true
                          · rw [if_pos c39] at H
                            have c39b0 : (t301 != t303) = true := c39
                            (try (have c39b1 : decide (t301 = t303) = false := by simpa using c39))
                            (try (have c39b2 : (t301 == t303) = false := by simpa using c39))
                            (try (have c39b3 : ¬ (t301 = t303) := by simpa using c39))
                            clear c39
                            have H' := Aside0.mk H
                            clear H
                            go_wp2
                            repeat (go_quiet (fail); try go_wp2)
                            go_meet
                            case rel => exact ⟨_, (true), (by first | rfl | (simp; done) | (simp [*]; done) | (simp [bne_nil8, beq_nil8]; done)), H', ⟨by have := HJ4.out; first | omega | exact Nat.le_refl _⟩, ⟨by (with_reducible repeat (first | apply Kd.N_alloc | apply Kd.N_drewN | apply Kd.N_drew)); exact Kd.N_mono HO309.out (fun _ hk => hk.2)⟩, ⟨by (with_reducible repeat (first | apply Kd.N_alloc | apply Kd.N_drewN | apply Kd.N_drew)); exact HO315.out⟩, ⟨by repeat (first | (with_reducible first | exact HB.out | apply below_alloc | apply pw_below_drewN | apply below_drew1) | exact HB.out)⟩⟩
                          · rw [if_neg c39] at H
                            have c39b0 : (t301 != t303) = false := by simpa using c39
                            (try (have c39b1 : decide (t301 = t303) = true := by simpa using c39))
                            (try (have c39b2 : (t301 == t303) = true := by simpa using c39))
                            clear c39
                            have H' := Aside0.mk H
                            clear H
                            obtain ⟨Ao40, co40, eo40⟩ := Kd.N_slice HO309.out
                            subst eo40
                            obtain ⟨Ao41, co41, eo41⟩ := Kd.N_slice HO315.out
                            subst eo41
                            go_wp2
                            repeat (go_quiet (fail); try go_wp2)
                            go_meet
                            case rel => exact ⟨_, (((t307.length : Int) != (t313.length : Int))), (by first | rfl | (simp; done) | (simp [*]; done) | (simp [bne_nil8, beq_nil8]; done)), H', ⟨by have := HJ4.out; first | omega | exact Nat.le_refl _⟩, ⟨by (with_reducible repeat (first | apply Kd.N_alloc | apply Kd.N_drewN | apply Kd.N_drew)); exact Kd.N_mono HO309.out (fun _ hk => hk.2)⟩, ⟨by (with_reducible repeat (first | apply Kd.N_alloc | apply Kd.N_drewN | apply Kd.N_drew)); exact HO315.out⟩, ⟨by repeat (first | (with_reducible first | exact HB.out | apply below_alloc | apply pw_below_drewN | apply below_drew1) | exact HB.out)⟩⟩
                        · rw [if_neg c38] at H
                          have c38b0 : (t300 == t302) = false := beq_eq_false_iff_ne.mpr c38
                          have c38b1 : (t300 != t302) = true := bne_iff_ne.mpr c38
                          have H' := Aside0.mk H
                          clear H
                          go_wp2
                          repeat (go_quiet (fail); try go_wp2)
                          go_meet
                          case rel => exact ⟨_, (true), (by first | rfl | (simp; done) | (simp [*]; done) | (simp [bne_nil8, beq_nil8]; done)), H', ⟨by have := HJ4.out; first | omega | exact Nat.le_refl _⟩, ⟨by (with_reducible repeat (first | apply Kd.N_alloc | apply Kd.N_drewN | apply Kd.N_drew)); exact Kd.N_mono HO309.out (fun _ hk => hk.2)⟩, ⟨by (with_reducible repeat (first | apply Kd.N_alloc | apply Kd.N_drewN | apply Kd.N_drew)); exact HO315.out⟩, ⟨by repeat (first | (with_reducible first | exact HB.out | apply below_alloc | apply pw_below_drewN | apply below_drew1) | exact HB.out)⟩⟩
                      · rw [if_neg c37] at H
                        have c37b0 : (t296 == t299) = false := beq_eq_false_iff_ne.mpr c37
                        have c37b1 : (t296 != t299) = true := bne_iff_ne.mpr c37
                        have H' := Aside0.mk H
                        clear H
                        go_wp2
                        repeat (go_quiet (fail); try go_wp2)
                        go_meet
                        case rel => exact ⟨_, (true), (by first | rfl | (simp; done) | (simp [*]; done) | (simp [bne_nil8, beq_nil8]; done)), H', ⟨by have := HJ4.out; first | omega | exact Nat.le_refl _⟩, ⟨by (with_reducible repeat (first | apply Kd.N_alloc | apply Kd.N_drewN | apply Kd.N_drew)); exact Kd.N_mono HO309.out (fun _ hk => hk.2)⟩, ⟨by (with_reducible repeat (first | apply Kd.N_alloc | apply Kd.N_drewN | apply Kd.N_drew)); exact HO315.out⟩, ⟨by repeat (first | (with_reducible first | exact HB.out | apply below_alloc | apply pw_below_drewN | apply below_drew1) | exact HB.out)⟩⟩
                    · rw [if_neg c36] at H
                      have c36b0 : (t295 == t298) = false := beq_eq_false_iff_ne.mpr c36
                      have c36b1 : (t295 != t298) = true := bne_iff_ne.mpr c36
                      have H' := Aside0.mk H
                      clear H
                      go_wp2
                      repeat (go_quiet (fail); try go_wp2)
                      go_meet
                      case rel => exact ⟨_, (true), (by first | rfl | (simp; done) | (simp [*]; done) | (simp [bne_nil8, beq_nil8]; done)), H', ⟨by have := HJ4.out; first | omega | exact Nat.le_refl _⟩, ⟨by (with_reducible repeat (first | apply Kd.N_alloc | apply Kd.N_drewN | apply Kd.N_drew)); exact Kd.N_mono HO309.out (fun _ hk => hk.2)⟩, ⟨by (with_reducible repeat (first | apply Kd.N_alloc | apply Kd.N_drewN | apply Kd.N_drew)); exact HO315.out⟩, ⟨by repeat (first | (with_reducible first | exact HB.out | apply below_alloc | apply pw_below_drewN | apply below_drew1) | exact HB.out)⟩⟩
                  · rw [if_neg c35] at H
                    have c35b0 : (t294.toList == t297.toList) = false := beq_eq_false_iff_ne.mpr c35
                    have c35b1 : (t294.toList != t297.toList) = true := bne_iff_ne.mpr c35
                    have H' := Aside0.mk H
                    clear H
                    go_wp2
                    repeat (go_quiet (fail); try go_wp2)
                    go_meet
                    case rel => exact ⟨_, (true), (by first | rfl | (simp; done) | (simp [*]; done) | (simp [bne_nil8, beq_nil8]; done)), H', ⟨by have := HJ4.out; first | omega | exact Nat.le_refl _⟩, ⟨by (with_reducible repeat (first | apply Kd.N_alloc | apply Kd.N_drewN | apply Kd.N_drew)); exact Kd.N_mono HO309.out (fun _ hk => hk.2)⟩, ⟨by (with_reducible repeat (first | apply Kd.N_alloc | apply Kd.N_drewN | apply Kd.N_drew)); exact HO315.out⟩, ⟨by repeat (first | (with_reducible first | exact HB.out | apply below_alloc | apply pw_below_drewN | apply below_drew1) | exact HB.out)⟩⟩
              · rw [if_neg c33] at H
                have c33b0 : (t290.toList == t292.toList) = false := beq_eq_false_iff_ne.mpr c33
                have c33b1 : (t290.toList != t292.toList) = true := bne_iff_ne.mpr c33
                (first | rw [c33b0] | (simp only [i64_w, i32_w]; rw [c33b0]) | skip)
                have H' := Aside0.mk H
                clear H
                go_wp2
                repeat (go_quiet (fail); try go_wp2)
                go_meet
                case rel => exact ⟨_, (true), (by first | rfl | (simp; done) | (simp [*]; done) | (simp [bne_nil8, beq_nil8]; done)), H', ⟨by have := HJ4.out; first | omega | exact Nat.le_refl _⟩, ⟨by (with_reducible repeat (first | apply Kd.N_alloc | apply Kd.N_drewN | apply Kd.N_drew)); exact Kd.N_mono HO309.out (fun _ hk => hk.2)⟩, ⟨by (with_reducible repeat (first | apply Kd.N_alloc | apply Kd.N_drewN | apply Kd.N_drew)); exact HO315.out⟩, ⟨by repeat (first | (with_reducible first | exact HB.out | apply below_alloc | apply pw_below_drewN | apply below_drew1) | exact HB.out)⟩⟩
            case rest =>
              clear HC18
              try clear c1
              try clear p2
              try clear c3
              try clear c4
              try clear c6
              try clear c7
              try clear c7b0
              try clear c7b1
              try clear c8
              try clear c15
              try clear c15b0
              try clear c15b1
              try clear c15b2
              try clear c33
              try clear c33b0
              try clear c33b1
              try clear c34
              try clear c34b0
              try clear c34b1
              try clear c34b2
              try clear c35
              try clear c35b0
              try clear c35b1
              try clear c36
              try clear c36b0
              try clear c36b1
              try clear c37
              try clear c37b0
              try clear c37b1
              try clear c38
              try clear c38b0
              try clear c38b1
              try clear c39
              try clear c39b0
              try clear c39b1
              try clear c39b2
              try clear p2
              obtain ⟨kq, x109_17, rfl, HA, HJ17, HO_19, HO_20, HB⟩ := hcut
              cases kq with
              | zero => exact absurd HA.out (by simp [frankinglaw1_OctetSays.j1])
              | succ kj17 =>
                have H := HA.out
                clear HA
                simp only [frankinglaw1_OctetSays.j1] at H
                by_cases c42 : x109_17 = true
                · subst c42
                  have H1 : (some false) = some true := by (rw [if_pos rfl] at H) <;> exact H
                  clear H
                  have H := H1
                  clear H1
                  exact absurd (Option.some.inj H) (by decide)
                · replace c42 := Bool.eq_false_iff.mpr c42
                  subst c42
                  have H1 : (frankinglaw1_OctetSays.l0 kj17 a0 a1 t307 t313 0) = some true := by (rw [if_neg (show ¬ (false = true) by decide)] at H) <;> exact H
                  clear H
                  have H := H1
                  clear H1
                  have H' := Aside0.mk H
                  clear H
                  go_wp2
                  repeat (go_quiet (fail); try go_wp2)
                  go_loopg [21] kj17 (fun kq v21 w' => ∃ (x21_3 : Int), v21 = .int .i64 x21_3 ∧ Aside0 (frankinglaw1_OctetSays.l0 kq a0 a1 t307 t313 x21_3 = some true) ∧ Aside0 (kq ≤ kj17) ∧ Aside0 (Kd.N (Kd.slice 5 (Kd.int .u8)) 48 w' w.heap.size (fun k_ => some k_ ≠ (v314 : Value).ownBlock) v308 t307) ∧ Aside0 (Kd.N (Kd.slice 5 (Kd.int .u8)) 48 w' w.heap.size (fun k_ => some k_ ≠ (v308 : Value).ownBlock) v314 t313) ∧ Aside0 (Below w.heap.size w w'))
                  case atStart => exact ⟨(0), (by first | rfl | (simp; done) | (simp [*]; done) | (simp [bne_nil8, beq_nil8]; done)), H', ⟨Nat.le_refl _⟩, ⟨by (with_reducible repeat (first | apply Kd.N_alloc | apply Kd.N_drewN | apply Kd.N_drew)); exact HO_19.out⟩, ⟨by (with_reducible repeat (first | apply Kd.N_alloc | apply Kd.N_drewN | apply Kd.N_drew)); exact HO_20.out⟩, ⟨by repeat (first | (with_reducible first | exact HB.out | apply below_alloc | apply pw_below_drewN | apply below_drew1) | exact HB.out)⟩⟩
                  case round =>
                    clear H'
                    try clear c1
                    try clear p2
                    try clear c3
                    try clear c4
                    try clear c6
                    try clear c7
                    try clear c7b0
                    try clear c7b1
                    try clear c8
                    try clear c15
                    try clear c15b0
                    try clear c15b1
                    try clear c15b2
                    try clear c33
                    try clear c33b0
                    try clear c33b1
                    try clear c34
                    try clear c34b0
                    try clear c34b1
                    try clear c34b2
                    try clear c35
                    try clear c35b0
                    try clear c35b1
                    try clear c36
                    try clear c36b0
                    try clear c36b1
                    try clear c37
                    try clear c37b0
                    try clear c37b1
                    try clear c38
                    try clear c38b0
                    try clear c38b1
                    try clear c39
                    try clear c39b0
                    try clear c39b1
                    try clear c39b2
                    try clear c42
                    try clear p2
                    obtain ⟨x21_3, rfl, HA, HK3, HO_19, HO_20, HB⟩ := hrel
                    cases gk with
                    | zero => exact absurd HA.out (by simp [frankinglaw1_OctetSays.l0])
                    | succ k3 =>
                      have H := HA.out
                      clear HA
                      simp only [frankinglaw1_OctetSays.l0] at H
                      by_cases c43 : x21_3 < (t307.length : Int)
                      · rw [if_pos c43] at H
                        have c43b0 : decide (x21_3 < (t307.length : Int)) = true := decide_eq_true c43
                        clear c43
                        by_cases c44 : 0 ≤ x21_3
                        · rw [if_pos c44] at H
                          have c44b0 : decide (0 ≤ x21_3) = true := decide_eq_true c44
                          clear c44
                          by_cases c45 : x21_3 < (t313.length : Int)
                          · rw [if_pos c45] at H
                            have c45b0 : decide (x21_3 < (t313.length : Int)) = true := decide_eq_true c45
                            clear c45
                            by_cases c46 : (strOfNums (rd_L1 t307 x21_3)).toList = (strOfNums (rd_L1 t313 x21_3)).toList
                            · rw [if_pos c46] at H
                              have c46b0 : ((strOfNums (rd_L1 t307 x21_3)).toList == (strOfNums (rd_L1 t313 x21_3)).toList) = true := beq_iff_eq.mpr c46
                              have c46b1 : ((strOfNums (rd_L1 t307 x21_3)).toList != (strOfNums (rd_L1 t313 x21_3)).toList) = false := bne_eq_false_iff_eq.mpr c46
                              clear c46
                              have H' := Aside0.mk H
                              clear H
                              obtain ⟨Ao47, co47, eo47⟩ := Kd.N_slice HO_19.out
                              subst eo47
                              have p316 : 0 ≤ (x21_3 : Int) := of_decide_eq_true (by first | (with_reducible assumption) | assumption)
                              have q316 : x21_3 < (t307.length : Int) := of_decide_eq_true (by first | (with_reducible assumption) | assumption)
                              obtain ⟨ad316, A316_0, c316_0, e316, hx316_0, hl316_0, hi316_0⟩ := at_L1 (Kd.N_reads' HO_19.out).2.2 x21_3 p316 q316
                              cases e316
                              obtain ⟨ce316, hce316, hMe316, hcc316⟩ := Kd.N_get HO_19.out [] x21_3 p316 (by first | exact q316 | exact of_decide_eq_true (by first | (with_reducible assumption) | assumption) | (have e_ := (Kd.N_reads' HO_19.out).1; omega))
                              obtain ⟨ua316_0, uc316_0, rfl, ul316_0, ge316_0⟩ := Kd.FK_slice_open hMe316
                              have hv316_0 := hcc316 0 _ rfl
                              rw [Nat.add_zero, show ((Kd.slice 5 (Kd.int .u8))).sz = 1 from rfl, Nat.mul_one] at hv316_0
                              replace hv316_0 := Option.some.inj (hv316_0.symm.trans hx316_0)
                              injection hv316_0 with hva_ hvn_ hvc_
                              rw [hva_] at ge316_0
                              rw [hvc_] at ul316_0
                              have HL316_0 := Aside0.mk (show Kd.V (Kd.int .u8) 5 _ w.heap.size _ _ (rd_L1 t307 x21_3) from Kd.V_mk ul316_0 ge316_0)
                              clear hva_ hvn_ hvc_ ge316_0 ul316_0
                              clear hcc316 hce316
                              have HR316_0 := Aside0.mk hi316_0
                              have HC316_0 := Aside0.mk hl316_0
                              clear hi316_0 hl316_0
                              replace p316 := eq_true p316
                              replace q316 := eq_true q316
                              have hcv48 := Kd.C_string (P := Tryd.prog) (A := A316_0) (c := c316_0) Tryd.underlying48 Tryd.underlying5 Tryd.underlying9 (by repeat (first | (with_reducible exact HR316_0.out) | (with_reducible refine Kd.C_alloc ?_ _) | (with_reducible refine Kd.C_drewN ?_ _) | (with_reducible refine Kd.C_drew ?_) | exact HR316_0.out))
                              have hcw49 := fun n_ : Nat => Kd.C_string (P := Tryd.prog) (A := A316_0) (c := c316_0) Tryd.underlying48 Tryd.underlying5 Tryd.underlying9 (Kd.C_drewN (by repeat (first | (with_reducible exact HR316_0.out) | (with_reducible refine Kd.C_alloc ?_ _) | (with_reducible refine Kd.C_drewN ?_ _) | (with_reducible refine Kd.C_drew ?_) | exact HR316_0.out)) n_)
                              obtain ⟨Ao50, co50, eo50⟩ := Kd.N_slice HO_20.out
                              subst eo50
                              have p317 : 0 ≤ (x21_3 : Int) := of_decide_eq_true (by first | (with_reducible assumption) | assumption)
                              have q317 : x21_3 < (t313.length : Int) := of_decide_eq_true (by first | (with_reducible assumption) | assumption)
                              obtain ⟨ad317, A317_0, c317_0, e317, hx317_0, hl317_0, hi317_0⟩ := at_L1 (Kd.N_reads' HO_20.out).2.2 x21_3 p317 q317
                              cases e317
                              obtain ⟨ce317, hce317, hMe317, hcc317⟩ := Kd.N_get HO_20.out [] x21_3 p317 (by first | exact q317 | exact of_decide_eq_true (by first | (with_reducible assumption) | assumption) | (have e_ := (Kd.N_reads' HO_20.out).1; omega))
                              obtain ⟨ua317_0, uc317_0, rfl, ul317_0, ge317_0⟩ := Kd.FK_slice_open hMe317
                              have hv317_0 := hcc317 0 _ rfl
                              rw [Nat.add_zero, show ((Kd.slice 5 (Kd.int .u8))).sz = 1 from rfl, Nat.mul_one] at hv317_0
                              replace hv317_0 := Option.some.inj (hv317_0.symm.trans hx317_0)
                              injection hv317_0 with hva_ hvn_ hvc_
                              rw [hva_] at ge317_0
                              rw [hvc_] at ul317_0
                              have HL317_0 := Aside0.mk (show Kd.V (Kd.int .u8) 5 _ w.heap.size _ _ (rd_L1 t313 x21_3) from Kd.V_mk ul317_0 ge317_0)
                              clear hva_ hvn_ hvc_ ge317_0 ul317_0
                              clear hcc317 hce317
                              have HR317_0 := Aside0.mk hi317_0
                              have HC317_0 := Aside0.mk hl317_0
                              clear hi317_0 hl317_0
                              replace p317 := eq_true p317
                              replace q317 := eq_true q317
                              have hcv51 := Kd.C_string (P := Tryd.prog) (A := A317_0) (c := c317_0) Tryd.underlying48 Tryd.underlying5 Tryd.underlying9 (by repeat (first | (with_reducible exact HR317_0.out) | (with_reducible refine Kd.C_alloc ?_ _) | (with_reducible refine Kd.C_drewN ?_ _) | (with_reducible refine Kd.C_drew ?_) | exact HR317_0.out))
                              have hcw52 := fun n_ : Nat => Kd.C_string (P := Tryd.prog) (A := A317_0) (c := c317_0) Tryd.underlying48 Tryd.underlying5 Tryd.underlying9 (Kd.C_drewN (by repeat (first | (with_reducible exact HR317_0.out) | (with_reducible refine Kd.C_alloc ?_ _) | (with_reducible refine Kd.C_drewN ?_ _) | (with_reducible refine Kd.C_drew ?_) | exact HR317_0.out)) n_)
                              go_wp2
                              repeat (go_quiet (fail); try go_wp2)
                              go_roundg k3
                              case measure => have := HJ4.out; have := HJ17.out; have := HK3.out; omega
                              case rel => exact ⟨(wrap64 (x21_3 + 1)), (by first | rfl | (simp; done) | (simp [*]; done) | (simp [bne_nil8, beq_nil8]; done)), H', ⟨by have := HJ4.out; have := HJ17.out; have := HK3.out; omega⟩, ⟨by (with_reducible repeat (first | apply Kd.N_alloc | apply Kd.N_drewN | apply Kd.N_drew)); exact HO_19.out⟩, ⟨by (with_reducible repeat (first | apply Kd.N_alloc | apply Kd.N_drewN | apply Kd.N_drew)); exact HO_20.out⟩, ⟨by repeat (first | (with_reducible first | exact HB.out | apply below_alloc | apply pw_below_drewN | apply below_drew1) | exact HB.out)⟩⟩
                            · rw [if_neg c46] at H
                              have c46b0 : ((strOfNums (rd_L1 t307 x21_3)).toList == (strOfNums (rd_L1 t313 x21_3)).toList) = false := beq_eq_false_iff_ne.mpr c46
                              have c46b1 : ((strOfNums (rd_L1 t307 x21_3)).toList != (strOfNums (rd_L1 t313 x21_3)).toList) = true := bne_iff_ne.mpr c46
                              exact absurd (Option.some.inj H) (by decide)
                          · rw [if_neg c45] at H
                            exact absurd H (by simp)
                        · rw [if_neg c44] at H
                          exact absurd H (by simp)
                      · rw [if_neg c43] at H
                        have c43b0 : decide (x21_3 < (t307.length : Int)) = false := decide_eq_false c43
                        clear c43
                        replace H := Option.bind_eq_some_iff.mp H
                        obtain ⟨t318, A530, H⟩ := H
                        replace H : ((frankingref1_Fold.f a0).bind fun t319 => (if t318.toList = t319.toList then ((octet_Same.f a0 a1).bind fun t320 => ((frankingref1_Same.f a0 a1).bind fun t321 => (if (t320 == t321) = true then ((octet_Atom.f k3 a0).bind fun t322 => ((frankingref1_Atom.f k3 a0).bind fun t323 => (if (t322 == t323) = true then ((octet_NString.f k3 a0).bind fun t324 => ((frankingref1_NString.f k3 a0).bind fun t325 => (some (t324.toList == t325.toList)))) else (some false)))) else (some false)))) else (some false))) = some true := H
                        have A53 := Aside0.mk A530
                        clear A530
                        replace H := Option.bind_eq_some_iff.mp H
                        obtain ⟨t319, A540, H⟩ := H
                        replace H : (if t318.toList = t319.toList then ((octet_Same.f a0 a1).bind fun t320 => ((frankingref1_Same.f a0 a1).bind fun t321 => (if (t320 == t321) = true then ((octet_Atom.f k3 a0).bind fun t322 => ((frankingref1_Atom.f k3 a0).bind fun t323 => (if (t322 == t323) = true then ((octet_NString.f k3 a0).bind fun t324 => ((frankingref1_NString.f k3 a0).bind fun t325 => (some (t324.toList == t325.toList)))) else (some false)))) else (some false)))) else (some false)) = some true := H
                        have A54 := Aside0.mk A540
                        clear A540
                        by_cases c55 : t318.toList = t319.toList
                        · rw [if_pos c55] at H
                          have c55b0 : (t318.toList == t319.toList) = true := beq_iff_eq.mpr c55
                          have c55b1 : (t318.toList != t319.toList) = false := bne_eq_false_iff_eq.mpr c55
                          clear c55
                          replace H := Option.bind_eq_some_iff.mp H
                          obtain ⟨t320, A560, H⟩ := H
                          replace H : ((frankingref1_Same.f a0 a1).bind fun t321 => (if (t320 == t321) = true then ((octet_Atom.f k3 a0).bind fun t322 => ((frankingref1_Atom.f k3 a0).bind fun t323 => (if (t322 == t323) = true then ((octet_NString.f k3 a0).bind fun t324 => ((frankingref1_NString.f k3 a0).bind fun t325 => (some (t324.toList == t325.toList)))) else (some false)))) else (some false))) = some true := H
                          have A56 := Aside0.mk A560
                          clear A560
                          replace H := Option.bind_eq_some_iff.mp H
                          obtain ⟨t321, A570, H⟩ := H
                          replace H : (if (t320 == t321) = true then ((octet_Atom.f k3 a0).bind fun t322 => ((frankingref1_Atom.f k3 a0).bind fun t323 => (if (t322 == t323) = true then ((octet_NString.f k3 a0).bind fun t324 => ((frankingref1_NString.f k3 a0).bind fun t325 => (some (t324.toList == t325.toList)))) else (some false)))) else (some false)) = some true := H
                          have A57 := Aside0.mk A570
                          clear A570
                          by_cases c58 : (t320 == t321) = true
                          · rw [if_pos c58] at H
                            have c58b0 : (t320 == t321) = true := c58
                            (try (have c58b1 : decide (t320 = t321) = true := by simpa using c58))
                            (try (have c58b2 : (t320 == t321) = true := by simpa using c58))
                            clear c58
                            replace H := Option.bind_eq_some_iff.mp H
                            obtain ⟨t322, A590, H⟩ := H
                            replace H : ((frankingref1_Atom.f k3 a0).bind fun t323 => (if (t322 == t323) = true then ((octet_NString.f k3 a0).bind fun t324 => ((frankingref1_NString.f k3 a0).bind fun t325 => (some (t324.toList == t325.toList)))) else (some false))) = some true := H
                            have A59 := Aside0.mk A590
                            clear A590
                            replace H := Option.bind_eq_some_iff.mp H
                            obtain ⟨t323, A600, H⟩ := H
                            replace H : (if (t322 == t323) = true then ((octet_NString.f k3 a0).bind fun t324 => ((frankingref1_NString.f k3 a0).bind fun t325 => (some (t324.toList == t325.toList)))) else (some false)) = some true := H
                            have A60 := Aside0.mk A600
                            clear A600
                            by_cases c61 : (t322 == t323) = true
                            · rw [if_pos c61] at H
                              have c61b0 : (t322 == t323) = true := c61
                              (try (have c61b1 : decide (t322 = t323) = true := by simpa using c61))
                              (try (have c61b2 : (t322 == t323) = true := by simpa using c61))
                              clear c61
                              replace H := Option.bind_eq_some_iff.mp H
                              obtain ⟨t324, A620, H⟩ := H
                              replace H : ((frankingref1_NString.f k3 a0).bind fun t325 => (some (t324.toList == t325.toList))) = some true := H
                              have A62 := Aside0.mk A620
                              clear A620
                              replace H := Option.bind_eq_some_iff.mp H
                              obtain ⟨t325, A630, H⟩ := H
                              replace H : (some (t324.toList == t325.toList)) = some true := H
                              have A63 := Aside0.mk A630
                              clear A630
                              have hR_ : ((t324.toList == t325.toList)) = true := Option.some.inj H
                              obtain ⟨Ao64, co64, eo64⟩ := Kd.N_slice HO_19.out
                              subst eo64
                              go_wp2_with (first | (go_at_call 32; (with_reducible refine (octet_Fold.calls a0 t318 _ A53.out).mono ?_); rintro e w65 ⟨rfl, hb⟩; have n0_ := Aside0.mk (Kd.N_below (by (with_reducible repeat (first | apply Kd.N_alloc | apply Kd.N_drewN | apply Kd.N_drew)); exact HO_19.out) hb); have n1_ := Aside0.mk (Kd.N_below (by (with_reducible repeat (first | apply Kd.N_alloc | apply Kd.N_drewN | apply Kd.N_drew)); exact HO_20.out) hb); have n2_ := Aside0.mk (below_step (by repeat (first | (with_reducible first | exact HB.out | apply below_alloc | apply pw_below_drewN | apply below_drew1) | exact HB.out)) hb); clear HO_19; clear HO_20; clear HB; have HO_19 := n0_; have HO_20 := n1_; have HB := n2_; clear n0_ n1_ n2_; (try clear hb); (try clear hb2); (try clear hk); (try clear hi)) | (go_at_call 33; (with_reducible refine (frankingref1_Fold.calls a0 t319 _ A54.out).mono ?_); rintro e w66 ⟨rfl, hb⟩; have n0_ := Aside0.mk (Kd.N_below (by (with_reducible repeat (first | apply Kd.N_alloc | apply Kd.N_drewN | apply Kd.N_drew)); exact HO_19.out) hb); have n1_ := Aside0.mk (Kd.N_below (by (with_reducible repeat (first | apply Kd.N_alloc | apply Kd.N_drewN | apply Kd.N_drew)); exact HO_20.out) hb); have n2_ := Aside0.mk (below_step (by repeat (first | (with_reducible first | exact HB.out | apply below_alloc | apply pw_below_drewN | apply below_drew1) | exact HB.out)) hb); clear HO_19; clear HO_20; clear HB; have HO_19 := n0_; have HO_20 := n1_; have HB := n2_; clear n0_ n1_ n2_; (try clear hb); (try clear hb2); (try clear hk); (try clear hi)) | (go_at_call 27; (with_reducible refine (octet_Same.calls a0 a1 t320 _ A56.out).mono ?_); rintro e w67 ⟨rfl, hb⟩; have n0_ := Aside0.mk (Kd.N_below (by (with_reducible repeat (first | apply Kd.N_alloc | apply Kd.N_drewN | apply Kd.N_drew)); exact HO_19.out) hb); have n1_ := Aside0.mk (Kd.N_below (by (with_reducible repeat (first | apply Kd.N_alloc | apply Kd.N_drewN | apply Kd.N_drew)); exact HO_20.out) hb); have n2_ := Aside0.mk (below_step (by repeat (first | (with_reducible first | exact HB.out | apply below_alloc | apply pw_below_drewN | apply below_drew1) | exact HB.out)) hb); clear HO_19; clear HO_20; clear HB; have HO_19 := n0_; have HO_20 := n1_; have HB := n2_; clear n0_ n1_ n2_; (try clear hb); (try clear hb2); (try clear hk); (try clear hi)) | (go_at_call 34; (with_reducible refine (frankingref1_Same.calls a0 a1 t321 _ A57.out).mono ?_); rintro e w68 ⟨rfl, hb⟩; have n0_ := Aside0.mk (Kd.N_below (by (with_reducible repeat (first | apply Kd.N_alloc | apply Kd.N_drewN | apply Kd.N_drew)); exact HO_19.out) hb); have n1_ := Aside0.mk (Kd.N_below (by (with_reducible repeat (first | apply Kd.N_alloc | apply Kd.N_drewN | apply Kd.N_drew)); exact HO_20.out) hb); have n2_ := Aside0.mk (below_step (by repeat (first | (with_reducible first | exact HB.out | apply below_alloc | apply pw_below_drewN | apply below_drew1) | exact HB.out)) hb); clear HO_19; clear HO_20; clear HB; have HO_19 := n0_; have HO_20 := n1_; have HB := n2_; clear n0_ n1_ n2_; (try clear hb); (try clear hb2); (try clear hk); (try clear hi)) | (go_at_call 26; (with_reducible refine (octet_Atom.calls k3 a0 t322 _ A59.out).mono ?_); rintro e w' ⟨rfl, ⟨nd, rfl⟩⟩; (try first | exact ⟨rfl, _, World.drewN_drewN _ _ _⟩ | exact ⟨rfl, _, Eq.trans (World.drewN_drewN _ _ _) (congrArg (World.drewN _) (Nat.add_assoc _ _ _))⟩)) | (go_at_call 35; (with_reducible refine (frankingref1_Atom.calls k3 a0 t323 _ A60.out).mono ?_); rintro e w' ⟨rfl, ⟨nd, rfl⟩⟩; (try first | exact ⟨rfl, _, World.drewN_drewN _ _ _⟩ | exact ⟨rfl, _, Eq.trans (World.drewN_drewN _ _ _) (congrArg (World.drewN _) (Nat.add_assoc _ _ _))⟩)) | (go_at_call 25; (with_reducible refine (octet_NString.calls k3 a0 t324 _ ?side1 A62.out).mono ?_); (case side1 => exact Gl.below HG.out (by repeat (first | (with_reducible first | exact HB.out | apply below_alloc | apply pw_below_drewN | apply below_drew1) | exact HB.out))); rintro e w69 ⟨rfl, hb⟩; have n0_ := Aside0.mk (Kd.N_below (by (with_reducible repeat (first | apply Kd.N_alloc | apply Kd.N_drewN | apply Kd.N_drew)); exact HO_19.out) hb); have n1_ := Aside0.mk (Kd.N_below (by (with_reducible repeat (first | apply Kd.N_alloc | apply Kd.N_drewN | apply Kd.N_drew)); exact HO_20.out) hb); have n2_ := Aside0.mk (below_step (by repeat (first | (with_reducible first | exact HB.out | apply below_alloc | apply pw_below_drewN | apply below_drew1) | exact HB.out)) hb); clear HO_19; clear HO_20; clear HB; have HO_19 := n0_; have HO_20 := n1_; have HB := n2_; clear n0_ n1_ n2_; (try clear hb); (try clear hb2); (try clear hk); (try clear hi)) | (go_at_call 36; (with_reducible refine (frankingref1_NString.calls k3 a0 t325 _ A63.out).mono ?_); rintro e w70 ⟨rfl, hb⟩; have n0_ := Aside0.mk (Kd.N_below (by (with_reducible repeat (first | apply Kd.N_alloc | apply Kd.N_drewN | apply Kd.N_drew)); exact HO_19.out) hb); have n1_ := Aside0.mk (Kd.N_below (by (with_reducible repeat (first | apply Kd.N_alloc | apply Kd.N_drewN | apply Kd.N_drew)); exact HO_20.out) hb); have n2_ := Aside0.mk (below_step (by repeat (first | (with_reducible first | exact HB.out | apply below_alloc | apply pw_below_drewN | apply below_drew1) | exact HB.out)) hb); clear HO_19; clear HO_20; clear HB; have HO_19 := n0_; have HO_20 := n1_; have HB := n2_; clear n0_ n1_ n2_; (try clear hb); (try clear hb2); (try clear hk); (try clear hi)))
                              repeat (go_quiet (first | (go_at_call 32; (with_reducible refine (octet_Fold.calls a0 t318 _ A53.out).mono ?_); rintro e w65 ⟨rfl, hb⟩; have n0_ := Aside0.mk (Kd.N_below (by (with_reducible repeat (first | apply Kd.N_alloc | apply Kd.N_drewN | apply Kd.N_drew)); exact HO_19.out) hb); have n1_ := Aside0.mk (Kd.N_below (by (with_reducible repeat (first | apply Kd.N_alloc | apply Kd.N_drewN | apply Kd.N_drew)); exact HO_20.out) hb); have n2_ := Aside0.mk (below_step (by repeat (first | (with_reducible first | exact HB.out | apply below_alloc | apply pw_below_drewN | apply below_drew1) | exact HB.out)) hb); clear HO_19; clear HO_20; clear HB; have HO_19 := n0_; have HO_20 := n1_; have HB := n2_; clear n0_ n1_ n2_; (try clear hb); (try clear hb2); (try clear hk); (try clear hi)) | (go_at_call 33; (with_reducible refine (frankingref1_Fold.calls a0 t319 _ A54.out).mono ?_); rintro e w66 ⟨rfl, hb⟩; have n0_ := Aside0.mk (Kd.N_below (by (with_reducible repeat (first | apply Kd.N_alloc | apply Kd.N_drewN | apply Kd.N_drew)); exact HO_19.out) hb); have n1_ := Aside0.mk (Kd.N_below (by (with_reducible repeat (first | apply Kd.N_alloc | apply Kd.N_drewN | apply Kd.N_drew)); exact HO_20.out) hb); have n2_ := Aside0.mk (below_step (by repeat (first | (with_reducible first | exact HB.out | apply below_alloc | apply pw_below_drewN | apply below_drew1) | exact HB.out)) hb); clear HO_19; clear HO_20; clear HB; have HO_19 := n0_; have HO_20 := n1_; have HB := n2_; clear n0_ n1_ n2_; (try clear hb); (try clear hb2); (try clear hk); (try clear hi)) | (go_at_call 27; (with_reducible refine (octet_Same.calls a0 a1 t320 _ A56.out).mono ?_); rintro e w67 ⟨rfl, hb⟩; have n0_ := Aside0.mk (Kd.N_below (by (with_reducible repeat (first | apply Kd.N_alloc | apply Kd.N_drewN | apply Kd.N_drew)); exact HO_19.out) hb); have n1_ := Aside0.mk (Kd.N_below (by (with_reducible repeat (first | apply Kd.N_alloc | apply Kd.N_drewN | apply Kd.N_drew)); exact HO_20.out) hb); have n2_ := Aside0.mk (below_step (by repeat (first | (with_reducible first | exact HB.out | apply below_alloc | apply pw_below_drewN | apply below_drew1) | exact HB.out)) hb); clear HO_19; clear HO_20; clear HB; have HO_19 := n0_; have HO_20 := n1_; have HB := n2_; clear n0_ n1_ n2_; (try clear hb); (try clear hb2); (try clear hk); (try clear hi)) | (go_at_call 34; (with_reducible refine (frankingref1_Same.calls a0 a1 t321 _ A57.out).mono ?_); rintro e w68 ⟨rfl, hb⟩; have n0_ := Aside0.mk (Kd.N_below (by (with_reducible repeat (first | apply Kd.N_alloc | apply Kd.N_drewN | apply Kd.N_drew)); exact HO_19.out) hb); have n1_ := Aside0.mk (Kd.N_below (by (with_reducible repeat (first | apply Kd.N_alloc | apply Kd.N_drewN | apply Kd.N_drew)); exact HO_20.out) hb); have n2_ := Aside0.mk (below_step (by repeat (first | (with_reducible first | exact HB.out | apply below_alloc | apply pw_below_drewN | apply below_drew1) | exact HB.out)) hb); clear HO_19; clear HO_20; clear HB; have HO_19 := n0_; have HO_20 := n1_; have HB := n2_; clear n0_ n1_ n2_; (try clear hb); (try clear hb2); (try clear hk); (try clear hi)) | (go_at_call 26; (with_reducible refine (octet_Atom.calls k3 a0 t322 _ A59.out).mono ?_); rintro e w' ⟨rfl, ⟨nd, rfl⟩⟩; (try first | exact ⟨rfl, _, World.drewN_drewN _ _ _⟩ | exact ⟨rfl, _, Eq.trans (World.drewN_drewN _ _ _) (congrArg (World.drewN _) (Nat.add_assoc _ _ _))⟩)) | (go_at_call 35; (with_reducible refine (frankingref1_Atom.calls k3 a0 t323 _ A60.out).mono ?_); rintro e w' ⟨rfl, ⟨nd, rfl⟩⟩; (try first | exact ⟨rfl, _, World.drewN_drewN _ _ _⟩ | exact ⟨rfl, _, Eq.trans (World.drewN_drewN _ _ _) (congrArg (World.drewN _) (Nat.add_assoc _ _ _))⟩)) | (go_at_call 25; (with_reducible refine (octet_NString.calls k3 a0 t324 _ ?side1 A62.out).mono ?_); (case side1 => exact Gl.below HG.out (by repeat (first | (with_reducible first | exact HB.out | apply below_alloc | apply pw_below_drewN | apply below_drew1) | exact HB.out))); rintro e w69 ⟨rfl, hb⟩; have n0_ := Aside0.mk (Kd.N_below (by (with_reducible repeat (first | apply Kd.N_alloc | apply Kd.N_drewN | apply Kd.N_drew)); exact HO_19.out) hb); have n1_ := Aside0.mk (Kd.N_below (by (with_reducible repeat (first | apply Kd.N_alloc | apply Kd.N_drewN | apply Kd.N_drew)); exact HO_20.out) hb); have n2_ := Aside0.mk (below_step (by repeat (first | (with_reducible first | exact HB.out | apply below_alloc | apply pw_below_drewN | apply below_drew1) | exact HB.out)) hb); clear HO_19; clear HO_20; clear HB; have HO_19 := n0_; have HO_20 := n1_; have HB := n2_; clear n0_ n1_ n2_; (try clear hb); (try clear hb2); (try clear hk); (try clear hi)) | (go_at_call 36; (with_reducible refine (frankingref1_NString.calls k3 a0 t325 _ A63.out).mono ?_); rintro e w70 ⟨rfl, hb⟩; have n0_ := Aside0.mk (Kd.N_below (by (with_reducible repeat (first | apply Kd.N_alloc | apply Kd.N_drewN | apply Kd.N_drew)); exact HO_19.out) hb); have n1_ := Aside0.mk (Kd.N_below (by (with_reducible repeat (first | apply Kd.N_alloc | apply Kd.N_drewN | apply Kd.N_drew)); exact HO_20.out) hb); have n2_ := Aside0.mk (below_step (by repeat (first | (with_reducible first | exact HB.out | apply below_alloc | apply pw_below_drewN | apply below_drew1) | exact HB.out)) hb); clear HO_19; clear HO_20; clear HB; have HO_19 := n0_; have HO_20 := n1_; have HB := n2_; clear n0_ n1_ n2_; (try clear hb); (try clear hb2); (try clear hk); (try clear hi))); try go_wp2_with (first | (go_at_call 32; (with_reducible refine (octet_Fold.calls a0 t318 _ A53.out).mono ?_); rintro e w65 ⟨rfl, hb⟩; have n0_ := Aside0.mk (Kd.N_below (by (with_reducible repeat (first | apply Kd.N_alloc | apply Kd.N_drewN | apply Kd.N_drew)); exact HO_19.out) hb); have n1_ := Aside0.mk (Kd.N_below (by (with_reducible repeat (first | apply Kd.N_alloc | apply Kd.N_drewN | apply Kd.N_drew)); exact HO_20.out) hb); have n2_ := Aside0.mk (below_step (by repeat (first | (with_reducible first | exact HB.out | apply below_alloc | apply pw_below_drewN | apply below_drew1) | exact HB.out)) hb); clear HO_19; clear HO_20; clear HB; have HO_19 := n0_; have HO_20 := n1_; have HB := n2_; clear n0_ n1_ n2_; (try clear hb); (try clear hb2); (try clear hk); (try clear hi)) | (go_at_call 33; (with_reducible refine (frankingref1_Fold.calls a0 t319 _ A54.out).mono ?_); rintro e w66 ⟨rfl, hb⟩; have n0_ := Aside0.mk (Kd.N_below (by (with_reducible repeat (first | apply Kd.N_alloc | apply Kd.N_drewN | apply Kd.N_drew)); exact HO_19.out) hb); have n1_ := Aside0.mk (Kd.N_below (by (with_reducible repeat (first | apply Kd.N_alloc | apply Kd.N_drewN | apply Kd.N_drew)); exact HO_20.out) hb); have n2_ := Aside0.mk (below_step (by repeat (first | (with_reducible first | exact HB.out | apply below_alloc | apply pw_below_drewN | apply below_drew1) | exact HB.out)) hb); clear HO_19; clear HO_20; clear HB; have HO_19 := n0_; have HO_20 := n1_; have HB := n2_; clear n0_ n1_ n2_; (try clear hb); (try clear hb2); (try clear hk); (try clear hi)) | (go_at_call 27; (with_reducible refine (octet_Same.calls a0 a1 t320 _ A56.out).mono ?_); rintro e w67 ⟨rfl, hb⟩; have n0_ := Aside0.mk (Kd.N_below (by (with_reducible repeat (first | apply Kd.N_alloc | apply Kd.N_drewN | apply Kd.N_drew)); exact HO_19.out) hb); have n1_ := Aside0.mk (Kd.N_below (by (with_reducible repeat (first | apply Kd.N_alloc | apply Kd.N_drewN | apply Kd.N_drew)); exact HO_20.out) hb); have n2_ := Aside0.mk (below_step (by repeat (first | (with_reducible first | exact HB.out | apply below_alloc | apply pw_below_drewN | apply below_drew1) | exact HB.out)) hb); clear HO_19; clear HO_20; clear HB; have HO_19 := n0_; have HO_20 := n1_; have HB := n2_; clear n0_ n1_ n2_; (try clear hb); (try clear hb2); (try clear hk); (try clear hi)) | (go_at_call 34; (with_reducible refine (frankingref1_Same.calls a0 a1 t321 _ A57.out).mono ?_); rintro e w68 ⟨rfl, hb⟩; have n0_ := Aside0.mk (Kd.N_below (by (with_reducible repeat (first | apply Kd.N_alloc | apply Kd.N_drewN | apply Kd.N_drew)); exact HO_19.out) hb); have n1_ := Aside0.mk (Kd.N_below (by (with_reducible repeat (first | apply Kd.N_alloc | apply Kd.N_drewN | apply Kd.N_drew)); exact HO_20.out) hb); have n2_ := Aside0.mk (below_step (by repeat (first | (with_reducible first | exact HB.out | apply below_alloc | apply pw_below_drewN | apply below_drew1) | exact HB.out)) hb); clear HO_19; clear HO_20; clear HB; have HO_19 := n0_; have HO_20 := n1_; have HB := n2_; clear n0_ n1_ n2_; (try clear hb); (try clear hb2); (try clear hk); (try clear hi)) | (go_at_call 26; (with_reducible refine (octet_Atom.calls k3 a0 t322 _ A59.out).mono ?_); rintro e w' ⟨rfl, ⟨nd, rfl⟩⟩; (try first | exact ⟨rfl, _, World.drewN_drewN _ _ _⟩ | exact ⟨rfl, _, Eq.trans (World.drewN_drewN _ _ _) (congrArg (World.drewN _) (Nat.add_assoc _ _ _))⟩)) | (go_at_call 35; (with_reducible refine (frankingref1_Atom.calls k3 a0 t323 _ A60.out).mono ?_); rintro e w' ⟨rfl, ⟨nd, rfl⟩⟩; (try first | exact ⟨rfl, _, World.drewN_drewN _ _ _⟩ | exact ⟨rfl, _, Eq.trans (World.drewN_drewN _ _ _) (congrArg (World.drewN _) (Nat.add_assoc _ _ _))⟩)) | (go_at_call 25; (with_reducible refine (octet_NString.calls k3 a0 t324 _ ?side1 A62.out).mono ?_); (case side1 => exact Gl.below HG.out (by repeat (first | (with_reducible first | exact HB.out | apply below_alloc | apply pw_below_drewN | apply below_drew1) | exact HB.out))); rintro e w69 ⟨rfl, hb⟩; have n0_ := Aside0.mk (Kd.N_below (by (with_reducible repeat (first | apply Kd.N_alloc | apply Kd.N_drewN | apply Kd.N_drew)); exact HO_19.out) hb); have n1_ := Aside0.mk (Kd.N_below (by (with_reducible repeat (first | apply Kd.N_alloc | apply Kd.N_drewN | apply Kd.N_drew)); exact HO_20.out) hb); have n2_ := Aside0.mk (below_step (by repeat (first | (with_reducible first | exact HB.out | apply below_alloc | apply pw_below_drewN | apply below_drew1) | exact HB.out)) hb); clear HO_19; clear HO_20; clear HB; have HO_19 := n0_; have HO_20 := n1_; have HB := n2_; clear n0_ n1_ n2_; (try clear hb); (try clear hb2); (try clear hk); (try clear hi)) | (go_at_call 36; (with_reducible refine (frankingref1_NString.calls k3 a0 t325 _ A63.out).mono ?_); rintro e w70 ⟨rfl, hb⟩; have n0_ := Aside0.mk (Kd.N_below (by (with_reducible repeat (first | apply Kd.N_alloc | apply Kd.N_drewN | apply Kd.N_drew)); exact HO_19.out) hb); have n1_ := Aside0.mk (Kd.N_below (by (with_reducible repeat (first | apply Kd.N_alloc | apply Kd.N_drewN | apply Kd.N_drew)); exact HO_20.out) hb); have n2_ := Aside0.mk (below_step (by repeat (first | (with_reducible first | exact HB.out | apply below_alloc | apply pw_below_drewN | apply below_drew1) | exact HB.out)) hb); clear HO_19; clear HO_20; clear HB; have HO_19 := n0_; have HO_20 := n1_; have HB := n2_; clear n0_ n1_ n2_; (try clear hb); (try clear hb2); (try clear hk); (try clear hi))))
                              go_ret
                              refine ⟨by first | rfl | exact Eq.trans (b := Ending.returned (.bool ((t324.toList == t325.toList)))) (by first | rfl | (simp [errW_none, errW_some] <;> rfl) | (clear hR_; simp [*, errW_none, errW_some] <;> rfl)) (by rw [hR_]), ?_⟩
                              exact by repeat (first | (with_reducible first | exact HB.out | apply below_alloc | apply pw_below_drewN | apply below_drew1) | exact HB.out)
                            · rw [if_neg c61] at H
                              have c61b0 : (t322 == t323) = false := by simpa using c61
                              (try (have c61b1 : decide (t322 = t323) = false := by simpa using c61))
                              (try (have c61b2 : (t322 == t323) = false := by simpa using c61))
                              (try (have c61b3 : ¬ (t322 = t323) := by simpa using c61))
                              clear c61
                              exact absurd (Option.some.inj H) (by decide)
                          · rw [if_neg c58] at H
                            have c58b0 : (t320 == t321) = false := by simpa using c58
                            (try (have c58b1 : decide (t320 = t321) = false := by simpa using c58))
                            (try (have c58b2 : (t320 == t321) = false := by simpa using c58))
                            (try (have c58b3 : ¬ (t320 = t321) := by simpa using c58))
                            clear c58
                            exact absurd (Option.some.inj H) (by decide)
                        · rw [if_neg c55] at H
                          have c55b0 : (t318.toList == t319.toList) = false := beq_eq_false_iff_ne.mpr c55
                          have c55b1 : (t318.toList != t319.toList) = true := bne_iff_ne.mpr c55
                          exact absurd (Option.some.inj H) (by decide)
          · rw [if_neg c15] at H
            exact absurd H (by simp)
  · replace c4 := Bool.eq_false_iff.mpr c4
    subst c4
    have H1 : (some false) = some true := by (rw [if_neg (show ¬ (false = true) by decide)] at H) <;> exact H
    clear H
    have H := H1
    clear H1
    exact absurd (Option.some.inj H) (by decide)

/-- THE ONE PURE STATEMENT of frankinglaw1_OctetSays: yours. -/
def frankinglaw1_OctetSays.Pure : Prop := ∀ (a0 : ByteArray) (a1 : ByteArray), a0.size ≤ 140737488351232 → a1.size ≤ 140737488351232 → ∃ k, frankinglaw1_OctetSays.f k a0 a1 = some true
theorem frankinglaw1_OctetSays.walk (P : frankinglaw1_OctetSays.Pure) (a0 : ByteArray) (a1 : ByteArray) (w : World) (w0 : a0.size ≤ 140737488351232) (w1 : a1.size ≤ 140737488351232) (hG : Gl w) :
    Calls Tryd.prog 6 #[.string a0, .string a1] w fun e w' => e = .returned (.bool true) ∧ Below w.heap.size w w' := by
  obtain ⟨k, h⟩ := P a0 a1 w0 w1
  refine (frankinglaw1_OctetSays.calls k a0 a1 w hG h).mono ?_
  rintro e w' ⟨rfl, hd⟩
  exact ⟨rfl, hd⟩

end Go.Proofs.YtcgjkppoakngnaaDoor.X
