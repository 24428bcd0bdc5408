/- By a program of this session, over the print of the kit: for each function of the program what it computes, and that its call comes to just that. -/
import Derived.Test.YtefmlibcghjncaaGreatDoorX0
namespace Go.Proofs.YtefmlibcghjncaaGreatDoor.X
open Go.RowKit Go.Proofs.Mine Go.Proofs.YtefmlibcghjncaaGreatDoorW.PrintWords Go.Proofs.YtefmlibcghjncaaGreatDoorW.PrintLast Go.Proofs.YtefmlibcghjncaaGreatDoorW.PrintMore
attribute [local go_sem] max2_int min2_int max_two min_two max_three min_three max_four min_four   -- for this text's walks alone
set_option linter.unusedVariables false
set_option linter.unusedSimpArgs false

/-! ### frankinglaw17_awake: function 7 -/
def frankinglaw17_awake.f : Option (Bool) := some true
theorem frankinglaw17_awake.calls (r : Bool) (w : World) (hG : Gl w) (h : frankinglaw17_awake.f = some r) :
  Calls Tryz.prog 7 #[] w fun e w' => e = .returned (.bool r) ∧ Below w.heap.size w w' := by
 obtain rfl := Option.some.inj h
 exact Mine.awake_walk w hG.maxlen

/-! ### strings_IndexByte: function 82 -/
def strings_IndexByte.f (a0 : ByteArray) (a1 : Int) : Option (Int) := some (Lib.indexByte a0.data.toList a1.toNat.toUInt8)
theorem strings_IndexByte.calls (a0 : ByteArray) (a1 : Int) (r : Int) (w : World) (h : strings_IndexByte.f a0 a1 = some r) :
  Calls Tryz.prog 82 #[.string a0, .int .u8 a1] w fun e w' => e = .returned (.int .i64 r) ∧ Drawn0 w w' := by
 obtain rfl := Option.some.inj h
 exact (Tryz.strings_IndexByte a0 a1 w).mono fun e w' h => ⟨h.1, by rw [h.2]; exact Drawn0.refl _⟩

/-! ### octet_Atom: function 58 -/
def octet_Atom.l0 : Nat → ByteArray → Int → Int → Option (Bool)
 | 0, _, _, _ => none
 | k + 1, x0, x5, x6 => if x6 < x5 then (if 0 ≤ x6 then (if x6 < (x0.size : Int) then (if (bt x0 x6) ≤ 32 then (some false) else (if (bt x0 x6) ≥ 127 then (some false) else ((strings_IndexByte.f (⟨#[40, 41, 123, 37, 42, 34, 92, 93]⟩ : ByteArray) (bt x0 x6)).bind fun t101 => (if t101 ≥ 0 then (some false) else (octet_Atom.l0 k x0 x5 (wrap64 (x6 + 1))))))) else (none)) else (none)) else (some (x0.toList != ([] : List UInt8)))
def octet_Atom.f (k : Nat) (a0 : ByteArray) : Option (Bool) := octet_Atom.l0 k a0 (a0.size : Int) 0
theorem octet_Atom.mono_l : ∀ k, (∀ y0 y1 y2, LeO (octet_Atom.l0 k y0 y1 y2) (octet_Atom.l0 (k + 1) y0 y1 y2))
 | 0 => fun _ _ _ r h => by simp [octet_Atom.l0] at h
 | k + 1 => by
  have ih0 := octet_Atom.mono_l k
  ·intro y0 y1 y2
   unfold octet_Atom.l0
   repeat' first
   | (with_reducible exact ih0 _ _ _)
   | (with_reducible exact LeO.refl _)
   | (with_reducible exact LeO.none _)
   | (with_reducible refine LeO.ite ?_ ?_)
   | (with_reducible refine LeO.bind ?_ (fun _ => ?_))
   | exact ih0 _ _ _
   | exact LeO.none _
   | refine LeO.ite ?_ ?_
   | refine LeO.bind ?_ (fun _ => ?_)
theorem octet_Atom.mono : ∀ a0 k, LeO (octet_Atom.f k a0) (octet_Atom.f (k + 1) a0) := by
 intro a0 k
 have ih0 := octet_Atom.mono_l k
 unfold octet_Atom.f
 repeat' first
   | (with_reducible exact ih0 _ _ _)
   | (with_reducible exact LeO.refl _)
   | (with_reducible exact LeO.none _)
   | (with_reducible refine LeO.ite ?_ ?_)
   | (with_reducible refine LeO.bind ?_ (fun _ => ?_))
   | exact ih0 _ _ _
   | exact LeO.none _
   | refine LeO.ite ?_ ?_
   | refine LeO.bind ?_ (fun _ => ?_)
set_option maxHeartbeats 8000000 in
set_option maxRecDepth 100000 in
theorem octet_Atom.calls (k : Nat) (a0 : ByteArray) (r : Bool) (w : World) (h : octet_Atom.f k a0 = some r) :
  Calls Tryz.prog 58 #[.string a0] w fun e w' => e = .returned (.bool r) ∧ Drawn0 w w' := by
 have H : (octet_Atom.l0 k a0 (a0.size : Int) 0) = some r := h
 clear h
 have H' := Aside0.mk H
 clear H
 go_enter Tryz.func58, Tryz.ntmps58
 go_wp2
 go_loopg [6] k (fun kq v6 w' => ∃ (x6_1 : Int), v6 = .int .i64 x6_1 ∧ Aside0 (octet_Atom.l0 kq a0 (a0.size : Int) x6_1 = some r) ∧ Aside0 (kq ≤ k) ∧ Drawn0 w w')
 case atStart => exact ⟨(0), (by first | rfl | (simp; done) | (simp [*]; done) | (simp [bne_nil8, beq_nil8]; done)), H', ⟨Nat.le_refl _⟩, by repeat (first | exact Drawn0.refl _ | apply Drawn0.step)⟩
 case round =>
  clear H'
  obtain ⟨x6_1, rfl, HA, HK1, ⟨m1, rfl⟩⟩ := hrel
  cases gk with
  | zero => exact absurd HA.out (by simp [octet_Atom.l0])
  | succ k1 =>
   have H := HA.out
   clear HA
   simp only [octet_Atom.l0] at H
   by_cases c2 : x6_1 < (a0.size : Int)
   ·rw [if_pos c2] at H
    have c2b0 : decide (x6_1 < (a0.size : Int)) = true := decide_eq_true c2
    clear c2
    by_cases c3 : 0 ≤ x6_1
    ·rw [if_pos c3] at H
     have c3b0 : decide (0 ≤ x6_1) = true := decide_eq_true c3
     clear c3
     by_cases c4 : x6_1 < (a0.size : Int)
     ·rw [if_pos c4] at H
      have c4b0 : decide (x6_1 < (a0.size : Int)) = true := decide_eq_true c4
      clear c4
      by_cases c6 : (bt a0 x6_1) ≤ 32
      ·rw [if_pos c6] at H
       have c6b0 : decide ((bt a0 x6_1) ≤ 32) = true := decide_eq_true c6
       clear c6
       obtain rfl := Option.some.inj H
       have p5 : 0 ≤ (x6_1 : Int) := of_decide_eq_true (by first | (with_reducible assumption) | assumption)
       have q5 : x6_1 < (a0.size : Int) := of_decide_eq_true (by first | (with_reducible assumption) | assumption)
       have hx5 := bt_at a0 x6_1
       replace p5 := eq_true p5
       replace q5 := eq_true q5
       go_wp2
       go_ret
       exact ⟨by first | rfl | (simp; done) | (simp [*]; done) | (simp [bne_nil8, beq_nil8]; done), by repeat (first | exact Drawn0.refl _ | apply Drawn0.step)⟩
      ·rw [if_neg c6] at H
       have c6b0 : decide ((bt a0 x6_1) ≤ 32) = false := decide_eq_false c6
       clear c6
       by_cases c8 : (bt a0 x6_1) ≥ 127
       ·rw [if_pos c8] at H
        have c8b0 : decide (127 ≤ (bt a0 x6_1)) = true := decide_eq_true c8
        clear c8
        obtain rfl := Option.some.inj H
        have p5 : 0 ≤ (x6_1 : Int) := of_decide_eq_true (by first | (with_reducible assumption) | assumption)
        have q5 : x6_1 < (a0.size : Int) := of_decide_eq_true (by first | (with_reducible assumption) | assumption)
        have hx5 := bt_at a0 x6_1
        replace p5 := eq_true p5
        replace q5 := eq_true q5
        have p7 : 0 ≤ (x6_1 : Int) := of_decide_eq_true (by first | (with_reducible assumption) | assumption)
        have q7 : x6_1 < (a0.size : Int) := of_decide_eq_true (by first | (with_reducible assumption) | assumption)
        have hx7 := bt_at a0 x6_1
        replace p7 := eq_true p7
        replace q7 := eq_true q7
        go_wp2
        go_ret
        exact ⟨by first | rfl | (simp; done) | (simp [*]; done) | (simp [bne_nil8, beq_nil8]; done), by repeat (first | exact Drawn0.refl _ | apply Drawn0.step)⟩
       ·rw [if_neg c8] at H
        have c8b0 : decide (127 ≤ (bt a0 x6_1)) = false := decide_eq_false c8
        clear c8
        replace H := Option.bind_eq_some_iff.mp H
        obtain ⟨t101, A100, H⟩ := H
        replace H : (if t101 ≥ 0 then (some false) else (octet_Atom.l0 k1 a0 (a0.size : Int) (wrap64 (x6_1 + 1)))) = some r := H
        have A10 := Aside0.mk A100
        clear A100
        by_cases c11 : t101 ≥ 0
        ·rw [if_pos c11] at H
         have c11b0 : decide (0 ≤ t101) = true := decide_eq_true c11
         clear c11
         obtain rfl := Option.some.inj H
         have p5 : 0 ≤ (x6_1 : Int) := of_decide_eq_true (by first | (with_reducible assumption) | assumption)
         have q5 : x6_1 < (a0.size : Int) := of_decide_eq_true (by first | (with_reducible assumption) | assumption)
         have hx5 := bt_at a0 x6_1
         replace p5 := eq_true p5
         replace q5 := eq_true q5
         have p7 : 0 ≤ (x6_1 : Int) := of_decide_eq_true (by first | (with_reducible assumption) | assumption)
         have q7 : x6_1 < (a0.size : Int) := of_decide_eq_true (by first | (with_reducible assumption) | assumption)
         have hx7 := bt_at a0 x6_1
         replace p7 := eq_true p7
         replace q7 := eq_true q7
         have p9 : 0 ≤ (x6_1 : Int) := of_decide_eq_true (by first | (with_reducible assumption) | assumption)
         have q9 : x6_1 < (a0.size : Int) := of_decide_eq_true (by first | (with_reducible assumption) | assumption)
         have hx9 := bt_at a0 x6_1
         replace p9 := eq_true p9
         replace q9 := eq_true q9
         go_wp2_with (first | (go_at_call 82; (with_reducible refine (strings_IndexByte.calls (⟨#[40, 41, 123, 37, 42, 34, 92, 93]⟩ : ByteArray) (bt a0 x6_1) t101 _ A10.out).mono ?_); rintro e w' ⟨rfl, ⟨nd, rfl⟩⟩))
         go_ret
         exact ⟨by first | rfl | (simp; done) | (simp [*]; done) | (simp [bne_nil8, beq_nil8]; done), by repeat (first | exact Drawn0.refl _ | apply Drawn0.step)⟩
        ·rw [if_neg c11] at H
         have c11b0 : decide (0 ≤ t101) = false := decide_eq_false c11
         clear c11
         have H' := Aside0.mk H
         clear H
         have p5 : 0 ≤ (x6_1 : Int) := of_decide_eq_true (by first | (with_reducible assumption) | assumption)
         have q5 : x6_1 < (a0.size : Int) := of_decide_eq_true (by first | (with_reducible assumption) | assumption)
         have hx5 := bt_at a0 x6_1
         replace p5 := eq_true p5
         replace q5 := eq_true q5
         have p7 : 0 ≤ (x6_1 : Int) := of_decide_eq_true (by first | (with_reducible assumption) | assumption)
         have q7 : x6_1 < (a0.size : Int) := of_decide_eq_true (by first | (with_reducible assumption) | assumption)
         have hx7 := bt_at a0 x6_1
         replace p7 := eq_true p7
         replace q7 := eq_true q7
         have p9 : 0 ≤ (x6_1 : Int) := of_decide_eq_true (by first | (with_reducible assumption) | assumption)
         have q9 : x6_1 < (a0.size : Int) := of_decide_eq_true (by first | (with_reducible assumption) | assumption)
         have hx9 := bt_at a0 x6_1
         replace p9 := eq_true p9
         replace q9 := eq_true q9
         go_wp2_with (first | (go_at_call 82; (with_reducible refine (strings_IndexByte.calls (⟨#[40, 41, 123, 37, 42, 34, 92, 93]⟩ : ByteArray) (bt a0 x6_1) t101 _ A10.out).mono ?_); rintro e w' ⟨rfl, ⟨nd, rfl⟩⟩))
         go_roundg k1
         case measure => have := HK1.out; omega
         case rel => exact ⟨(wrap64 (x6_1 + 1)), (by first | rfl | (simp; done) | (simp [*]; done) | (simp [bne_nil8, beq_nil8]; done)), H', ⟨by have := HK1.out; omega⟩, by repeat (first | exact Drawn0.refl _ | apply Drawn0.step)⟩
     ·rw [if_neg c4] at H
      exact absurd H (by simp)
    ·rw [if_neg c3] at H
     exact absurd H (by simp)
   ·rw [if_neg c2] at H
    have c2b0 : decide (x6_1 < (a0.size : Int)) = false := decide_eq_false c2
    clear c2
    obtain rfl := Option.some.inj H
    go_wp2
    go_ret
    exact ⟨by first | rfl | (simp; done) | (simp [*]; done) | (simp [bne_nil8, beq_nil8]; done), by repeat (first | exact Drawn0.refl _ | apply Drawn0.step)⟩

/-! ### sect_good: function 26 -/
/-- Is one of a list of texts no atom? -/
def sect_good.g (k : Nat) : List ByteArray → Option Bool
 | [] => some false
 | s :: l => (octet_Atom.f k s).bind fun b => if b = true then sect_good.g k l else some true
theorem sect_good.g_mono : ∀ (l : List ByteArray) (k : Nat), LeO (sect_good.g k l) (sect_good.g (k + 1) l)
 | [], _ => fun _ h => h
 | s :: l, k => fun r h => by
  rw [sect_good.g] at h ⊢
  obtain ⟨b, h1, h2⟩ := Option.bind_eq_some_iff.mp h
  rw [octet_Atom.mono s k b h1, Option.bind_some]
  by_cases hb : b = true
  ·rw [if_pos hb] at h2 ⊢
   exact sect_good.g_mono l k r h2
  ·rw [if_neg hb] at h2 ⊢
   exact h2
set_option maxHeartbeats 8000000 in
set_option maxRecDepth 100000 in
theorem sect_good.pred (k : Nat) (s : ByteArray) (r : Bool) (w : World) (h : octet_Atom.f k s = some r) :
  Calls Tryz.prog 57 #[.string s] w fun e w' => e = .returned (.bool (!r)) ∧ Below w.heap.size w w' := by
 have A1 := Aside0.mk h
 clear h
 go_enter Tryz.func57, Tryz.ntmps57
 go_wp2_with (go_at_call 58; refine (octet_Atom.calls k s r _ A1.out).mono ?_; rintro e w' ⟨rfl, hb'⟩)
 go_ret
 exact ⟨rfl, hb'.below⟩
set_option maxHeartbeats 8000000 in
set_option maxRecDepth 100000 in
theorem sect_good.index (k : Nat) (A : Option Addr) (c : Nat) (l : List ByteArray) (r : Bool) (w : World) (hr : Kd.C Kd.string w A l.length l) (h : sect_good.g k l = some r) :
  Calls Tryz.prog 48 #[.slice A l.length c, .func (.func 57) #[] #[]] w fun e w' => ∃ i : Int, e = .returned (.int .i64 i) ∧ Aside0 (decide (0 ≤ i) = r) ∧ Below w.heap.size w w' := by
 have hbig : l.length ≤ 9223372036854775807 := hr.2.1
 have HR := Aside0.mk hr
 clear hr
 go_enter Tryz.func48, Tryz.ntmps48
 go_wp2
 go_loopg [5, 8] l.length (fun gg _ s8 wr => ∃ x : Int, 0 ≤ x ∧ x ≤ (l.length : Int) ∧ l.length - x.toNat ≤ gg ∧ s8 = .int .i64 x ∧ Aside0 (Below w.heap.size w wr) ∧ Aside0 (sect_good.g k (l.drop x.toNat) = some r))
 case atStart => exact ⟨0, by omega, by omega, by simp, rfl, ⟨Below.refl _ w⟩, ⟨h⟩⟩
 case round =>
  obtain ⟨x, h0, hkk, hg, rfl, BW, HA⟩ := hrel
  by_cases hltz : x < (l.length : Int)
  ·have hlt : x.toNat < l.length := by omega
   obtain ⟨ad, e0, hx⟩ := (Kd.reads_of_C (d := ByteArray.empty) (Kd.C_below HR.out BW.out)).at_ x h0 hltz
   cases e0
   have hrd : rdOf ByteArray.empty l x = l[x.toNat] := by simp [rdOf, hlt]
   have HA' := HA.out
   rw [List.drop_eq_getElem_cons hlt, sect_good.g, ← hrd] at HA'
   obtain ⟨q, hq, HA2⟩ := Option.bind_eq_some_iff.mp HA'
   have HQ := Aside0.mk hq
   clear HA' hq hrd HA
   have hcall := fun w1 => sect_good.pred k (rdOf ByteArray.empty l x) q w1 HQ.out
   generalize rdOf ByteArray.empty l x = s at hx hcall HQ
   cases q with
   | false =>
    rw [if_neg (by decide)] at HA2
    obtain rfl := Option.some.inj HA2
    go_wp2_with (go_at_call 57; refine (hcall _).mono ?_; rintro e w' ⟨rfl, hb'⟩)
    go_ret
    exact ⟨_, rfl, ⟨decide_eq_true h0⟩, below_step BW.out hb'⟩
   | true =>
    rw [if_pos rfl] at HA2
    have HA3 := Aside0.mk HA2
    clear HA2
    go_wp2_with (go_at_call 57; refine (hcall _).mono ?_; rintro e w' ⟨rfl, hb'⟩)
    go_roundg (l.length - (x.toNat + 1))
    case measure => omega
    case rel =>
     refine ⟨x + 1, by omega, by omega, by omega, by go_num, ⟨below_step BW.out hb'⟩, ⟨?_⟩⟩
     rw [show (x + 1).toNat = x.toNat + 1 by omega]
     exact HA3.out
  ·have HA' := HA.out
   rw [List.drop_of_length_le (by omega), sect_good.g] at HA'
   obtain rfl := Option.some.inj HA'
   clear HA' HA
   go_wp2
   go_ret
   exact ⟨_, rfl, ⟨by decide⟩, BW.out⟩
set_option maxHeartbeats 8000000 in
set_option maxRecDepth 100000 in
theorem sect_good.cont (k : Nat) (A0 : Option Addr) (c0 : Nat) (l0 : List ByteArray) (r : Bool) (w : World) (hr0 : Kd.C Kd.string w A0 l0.length l0) (h : sect_good.g k l0 = some r) :
  Calls Tryz.prog 56 #[.slice A0 l0.length c0, .func (.func 57) #[] #[]] w fun e w' => e = .returned (.bool r) ∧ Below w.heap.size w w' := by
 have hidx := fun w1 (hb1 : Below w.heap.size w w1) => sect_good.index k A0 c0 l0 r w1 (Kd.C_below hr0 hb1) h
 clear hr0 h
 go_enter Tryz.func56, Tryz.ntmps56
 go_wp2_with (go_at_call 48; refine (hidx _ (by repeat (first | exact Below.refl _ _ | apply below_alloc | apply pw_below_drewN | apply below_drew1))).mono ?_; rintro e w' ⟨i, rfl, hi, hb⟩)
 go_ret
 refine ⟨by rw [← hi.out]; rfl, below_step ?_ hb⟩
 repeat (first | exact Below.refl _ _ | apply below_alloc | apply pw_below_drewN | apply below_drew1)
set_option maxHeartbeats 8000000 in
set_option maxRecDepth 100000 in
theorem sect_good.none_ (A : Option Addr) (c : Nat) (w : World) :
  Calls Tryz.prog 81 #[.slice A 0 c, .func (.func 55) #[] #[]] w fun e w' => e = .returned (.int .i64 (-1)) ∧ Below w.heap.size w w' := by
 go_enter Tryz.func81, Tryz.ntmps81
 go_wp2
 refine wp_loop_rounds 1 ?_
 rw [rounds_succ]
 go_wp2
 go_ret
 exact ⟨rfl, Below.refl _ _⟩
set_option maxHeartbeats 8000000 in
set_option maxRecDepth 100000 in
theorem sect_good.icont (A : Option Addr) (c : Nat) (w : World) :
  Calls Tryz.prog 54 #[.slice A 0 c, .func (.func 55) #[] #[]] w fun e w' => e = .returned (.bool false) ∧ Below w.heap.size w w' := by
 go_enter Tryz.func54, Tryz.ntmps54
 go_wp2_with (go_at_call 81; refine (sect_good.none_ _ _ _).mono ?_; rintro e w' ⟨rfl, hb⟩)
 go_ret
 refine ⟨rfl, below_step ?_ hb⟩
 repeat (first | exact Below.refl _ _ | apply below_alloc | apply pw_below_drewN | apply below_drew1)
/-- sect.good, at no path. -/
def sect_good.f (k : Nat) (l0_0 : List Int) (a0_1 : Int) (l0_2 : List ByteArray) : Option Bool :=
 if l0_0 = [] then (if a0_1 = 3 ∨ a0_1 = 4 then (if 1 ≤ l0_2.length ∧ l0_2.length ≤ 40 then (sect_good.g k l0_2).bind fun b => some (!b) else some false) else if a0_1 = 1 ∧ l0_2 = [] then some true else none) else none
theorem sect_good.mono : ∀ a0 a1 a2 k, LeO (sect_good.f k a0 a1 a2) (sect_good.f (k + 1) a0 a1 a2) := by
 intro a0 a1 a2 k r h
 unfold sect_good.f at h ⊢
 by_cases h0 : a0 = []
 ·rw [if_pos h0] at h ⊢
  by_cases h1 : a1 = 3 ∨ a1 = 4
  ·rw [if_pos h1] at h ⊢
   by_cases h2 : 1 ≤ a2.length ∧ a2.length ≤ 40
   ·rw [if_pos h2] at h ⊢
    obtain ⟨b, h3, h4⟩ := Option.bind_eq_some_iff.mp h
    rw [sect_good.g_mono a2 k b h3, Option.bind_some]
    exact h4
   ·rw [if_neg h2] at h ⊢; exact h
  ·rw [if_neg h1] at h ⊢; exact h
 ·rw [if_neg h0] at h; cases h
set_option maxHeartbeats 8000000 in
set_option maxRecDepth 100000 in
theorem sect_good.calls (k : Nat) (A0_0 : Option Addr) (c0_0 : Nat) (l0_0 : List Int) (a0_1 : Int) (A0_2 : Option Addr) (c0_2 : Nat) (l0_2 : List ByteArray) (r : Bool) (w : World) (hr0_0 : Kd.C (Kd.int .i64) w A0_0 l0_0.length l0_0) (hc0_0 : l0_0.length ≤ c0_0) (hr0_2 : Kd.C Kd.string w A0_2 l0_2.length l0_2) (hc0_2 : l0_2.length ≤ c0_2) (h : sect_good.f k l0_0 a0_1 l0_2 = some r) :
  Calls Tryz.prog 26 #[.agg #[.slice A0_0 l0_0.length c0_0, .int .i64 a0_1, .slice A0_2 l0_2.length c0_2]] w fun e w' => e = .returned (.bool r) ∧ Below w.heap.size w w' := by
 have hu_ := Tryz.underlying26
 unfold sect_good.f at h
 split at h
 case isFalse => cases h
 rename_i h0
 subst h0
 have hi := fun w1 => sect_good.icont A0_0 c0_0 w1
 by_cases h1 : a0_1 = 3 ∨ a0_1 = 4
 ·rw [if_pos h1] at h
  by_cases h2 : 1 ≤ l0_2.length ∧ l0_2.length ≤ 40
  ·rw [if_pos h2] at h
   obtain ⟨b, h3, h4⟩ := Option.bind_eq_some_iff.mp h
   obtain rfl := Option.some.inj h4
   have hs := fun w1 (hb1 : Below w.heap.size w w1) => sect_good.cont k A0_2 c0_2 l0_2 b w1 (Kd.C_below hr0_2 hb1) h3
   have z1 : (1 : Int) ≤ (l0_2.length : Int) := by omega
   have z2 : (l0_2.length : Int) ≤ 40 := by omega
   have z3 : ¬ l0_2.length = 0 := by omega
   clear hr0_0 hr0_2 h h3 h4
   have hbs := Aside0.mk hs
   clear hs
   rcases h1 with rfl | rfl
   all_goals (
    go_enter Tryz.func26, Tryz.ntmps26
    go_wp2_with (go_at_call 54; refine (hi _).mono ?_)
    rintro e w1 ⟨rfl, hb⟩
    have hk := (hb.block w.heap.size (show w.heap.size < (w.heap.push _).size by rw [Array.size_push]; omega)).trans (heap_alloc_new w _)
    have q0 : w1.cell? ⟨w.heap.size, 0, none⟩ = some (.slice A0_0 0 c0_0) := (blk_cell hk 0).trans rfl
    have q1 : w1.cell? ⟨w.heap.size, 1, none⟩ = some (.int .i64 _) := (blk_cell hk 1).trans rfl
    have q2 : w1.cell? ⟨w.heap.size, 2, none⟩ = some (.slice A0_2 l0_2.length c0_2) := (blk_cell hk 2).trans rfl
    have hb0 : Below w.heap.size w w1 := ((Below.refl _ w).alloc (Nat.le_refl _) _).trans ⟨hb.os, hb.tape, hb.output, hb.size, fun b' hb' => hb.block b' (by show b' < (w.heap.push _).size; rw [Array.size_push]; omega)⟩
    have HB0 := Aside0.mk hb0
    have HK := Aside0.mk hk
    have Hsz := Aside0.mk (show w.heap.size + 1 ≤ w1.heap.size from by have := hb.size; rw [show (w.alloc _).heap.size = w.heap.size + 1 from Array.size_push _] at this; exact this)
    clear hb hb0 hk
    go_wp2_with (go_at_call 56; refine (hbs.out _ ?_).mono ?_)
    ·exact HB0.out
    rintro e w2 ⟨rfl, hb⟩
    have hk2 := (hb.block w.heap.size (Nat.lt_of_lt_of_le (show w.heap.size < (w.heap.push (Obj.cells #[] 0 (0, 0))).size by rw [Array.size_push]; omega) (by rw [Array.size_push]; exact Hsz.out))).trans HK.out
    have p0 : w2.cell? ⟨w.heap.size, 0, none⟩ = some (.slice A0_0 0 c0_0) := (blk_cell hk2 0).trans rfl
    have p1 : w2.cell? ⟨w.heap.size, 1, none⟩ = some (.int .i64 _) := (blk_cell hk2 1).trans rfl
    have p2 : w2.cell? ⟨w.heap.size, 2, none⟩ = some (.slice A0_2 l0_2.length c0_2) := (blk_cell hk2 2).trans rfl
    have HB2 := Aside0.mk (below_step HB0.out hb)
    clear hb hk2
    go_wp2
    all_goals go_ret
    all_goals refine ⟨?_, HB2.out⟩
    all_goals clear HB2 HB0 hbs Hsz HK p0 p1 p2 q0 q1 q2 hi
    all_goals cases b
    all_goals first | rfl | (exfalso; simp at *; done) | trace_state)
  ·rw [if_neg h2] at h
   obtain rfl := Option.some.inj h
   have hbs := Aside0.mk True.intro
   clear hr0_0 hr0_2 h
   rcases h1 with rfl | rfl
   all_goals (
    go_enter Tryz.func26, Tryz.ntmps26
    go_wp2_with (go_at_call 54; refine (hi _).mono ?_)
    rintro e w1 ⟨rfl, hb⟩
    have hk := (hb.block w.heap.size (show w.heap.size < (w.heap.push _).size by rw [Array.size_push]; omega)).trans (heap_alloc_new w _)
    have q0 : w1.cell? ⟨w.heap.size, 0, none⟩ = some (.slice A0_0 0 c0_0) := (blk_cell hk 0).trans rfl
    have q1 : w1.cell? ⟨w.heap.size, 1, none⟩ = some (.int .i64 _) := (blk_cell hk 1).trans rfl
    have q2 : w1.cell? ⟨w.heap.size, 2, none⟩ = some (.slice A0_2 l0_2.length c0_2) := (blk_cell hk 2).trans rfl
    have hb0 : Below w.heap.size w w1 := ((Below.refl _ w).alloc (Nat.le_refl _) _).trans ⟨hb.os, hb.tape, hb.output, hb.size, fun b' hb' => hb.block b' (by show b' < (w.heap.push _).size; rw [Array.size_push]; omega)⟩
    have HB0 := Aside0.mk hb0
    clear hb hb0 hk
    rcases (by omega : l0_2.length = 0 ∨ 40 < l0_2.length) with z | z
    ·have z1 : ¬ (1 : Int) ≤ (l0_2.length : Int) := by omega
     go_wp2
     all_goals go_ret
     all_goals exact ⟨rfl, HB0.out⟩
    ·have z1 : (1 : Int) ≤ (l0_2.length : Int) := by omega
     have z2 : ¬ (l0_2.length : Int) ≤ 40 := by omega
     have z3 : ((l0_2.length : Int) == 0) = false := beq_eq_false_iff_ne.2 (by omega)
     go_wp2
     all_goals go_ret
     all_goals exact ⟨rfl, HB0.out⟩)
 ·rw [if_neg h1] at h
  split at h
  case isFalse => cases h
  rename_i hk
  obtain ⟨rfl, rfl⟩ := hk
  obtain rfl := Option.some.inj h
  clear hr0_0 hr0_2 h
  go_enter Tryz.func26, Tryz.ntmps26
  go_wp2_with (go_at_call 54; refine (hi _).mono ?_)
  rintro e w1 ⟨rfl, hb⟩
  have hk := (hb.block w.heap.size (show w.heap.size < (w.heap.push _).size by rw [Array.size_push]; omega)).trans (heap_alloc_new w _)
  have q0 : w1.cell? ⟨w.heap.size, 0, none⟩ = some (.slice A0_0 0 c0_0) := (blk_cell hk 0).trans rfl
  have q1 : w1.cell? ⟨w.heap.size, 1, none⟩ = some (.int .i64 1) := (blk_cell hk 1).trans rfl
  have q2 : w1.cell? ⟨w.heap.size, 2, none⟩ = some (.slice A0_2 0 c0_2) := (blk_cell hk 2).trans rfl
  have hb0 : Below w.heap.size w w1 := ((Below.refl _ w).alloc (Nat.le_refl _) _).trans ⟨hb.os, hb.tape, hb.output, hb.size, fun b' hb' => hb.block b' (by show b' < (w.heap.push _).size; rw [Array.size_push]; omega)⟩
  have HB0 := Aside0.mk hb0
  clear hb hb0 hk
  go_wp2
  all_goals go_ret
  all_goals exact ⟨rfl, HB0.out⟩

/-! ### bytes_Clone: function 29 -/
def bytes_Clone.f (l0 : List Int) : Option (List Int) := if l0.length ≤ 140737488355328 then some l0 else none
theorem bytes_Clone.calls (A0 : Option Addr) (c0 : Nat) (l0 : List Int) (r : List Int) (w : World) (hr0 : Kd.C (Kd.int .u8) w A0 l0.length l0) (hc0 : l0.length ≤ c0) (h : bytes_Clone.f l0 = some r) :
  Calls Tryz.prog 29 #[.slice A0 l0.length c0] w fun e w' => ∃ v0_ : Value, e = .returned (v0_) ∧ Kd.R (Kd.int .u8) 5 w' w.heap.size (fun _ => True) v0_ r ∧ Below w.heap.size w w' := by
 unfold bytes_Clone.f at h
 split at h
 case isFalse => cases h
 rename_i hs
 obtain rfl := Option.some.inj h
 have q0 := Kd.reads_of_C (d := (0 : Int)) hr0
 cases A0 with
 | none =>
  have hz : l0 = [] := by
   cases l0 with
   | nil => rfl
   | cons a l => obtain ⟨_, h, _⟩ := q0.2.2 (by simp); cases h
  subst hz
  exact (Tryz.bytes_Clone_nil 0 c0 w).mono fun e w' h => ⟨_, h.1, Kd.R_nil _ _ _ _ _, by rw [h.2]; exact Below.refl _ _⟩
 | some a =>
  have hc : ∀ i, i < l0.length → w.cell? (a.add i) = some (.int .u8 (l0.getD i 0)) := by
   intro i hi
   obtain ⟨ad, e, h⟩ := q0.2.2 (by omega)
   cases e
   exact h i hi
  exact (Tryz.bytes_Clone_at a l0.length c0 l0 w rfl hs hc).mono fun e w' ⟨v, h1, h2, _, h4⟩ => ⟨v, h1, Kd.R_of_own h2 (fun _ _ => trivial), h4⟩

/-! ### bytes_Index: function 87 -/
def bytes_Index.f (l0 : List Int) (l1 : List Int) : Option (Int) := if l0.all byteB && l1.all byteB && decide (l0.length < 4294967281) && decide (2 ≤ l1.length) && decide (l1.length ≤ 4294967281) then some (Lib.index (Lib.bytesOf l0) (Lib.bytesOf l1)) else none
theorem bytes_Index.calls (A0 : Option Addr) (c0 : Nat) (l0 : List Int) (A1 : Option Addr) (c1 : Nat) (l1 : List Int) (r : Int) (w : World) (hr0 : Kd.C (Kd.int .u8) w A0 l0.length l0) (hc0 : l0.length ≤ c0) (hr1 : Kd.C (Kd.int .u8) w A1 l1.length l1) (hc1 : l1.length ≤ c1) (hG : Gl w) (h : bytes_Index.f l0 l1 = some r) :
  Calls Tryz.prog 87 #[.slice A0 l0.length c0, .slice A1 l1.length c1] w fun e w' => e = .returned (.int .i64 r) ∧ Drawn0 w w' := by
 unfold bytes_Index.f at h
 split at h
 case isFalse => cases h
 rename_i hif
 simp only [Bool.and_eq_true, decide_eq_true_eq] at hif
 obtain ⟨⟨⟨⟨hb0, hb1⟩, hs⟩, h2⟩, hk⟩ := hif
 obtain rfl := Option.some.inj h
 have q0 := Kd.reads_of_C (d := (0 : Int)) hr0
 have q1 := Kd.reads_of_C (d := (0 : Int)) hr1
 by_cases hlt : l0.length < l1.length
 ·rw [libIndex_short _ _ (by simpa [Lib.bytesOf] using hlt)]
  exact (Tryz.bytes_Index_longer A0 A1 l0.length c0 l1.length c1 w h2 hlt (by omega)).mono fun e w' h => ⟨h.1, by rw [h.2]; exact Drawn0.refl _⟩
 ·obtain ⟨a0, rfl, hc0'⟩ := q0.2.2 (by omega)
  obtain ⟨a1, rfl, hc1'⟩ := q1.2.2 (by omega)
  obtain ⟨m, hm⟩ := hG.maxlen
  exact (Tryz.bytes_Index_at a0 a1 l0.length c0 l1.length c1 l0 l1 m w rfl rfl (byteB_all hb0) (byteB_all hb1) hc0' hc1' hc0 hs (by omega) hm).mono fun e w' h => ⟨h.1, ⟨h.2⟩⟩

/-! ### octet_Lines: function 60 -/
def octet_Lines.l0 : Nat → List Int → List (List Int) → Option ((List (List Int)))
 | 0, _, _ => none
 | k + 1, x0, x3 => if (x0.length : Int) > 0 then ((bytes_Index.f x0 (([13, 10] : List Int))).bind fun t105 => (if t105 ≥ 0 then (if 0 ≤ (wrap64 (t105 + 2)) then (if (wrap64 (t105 + 2)) ≤ (x0.length : Int) then ((bytes_Clone.f (x0.take ((wrap64 (t105 + 2)) : Int).toNat)).bind fun t111 => (if x3.length < 5864062014805 then (octet_Lines.l0 k (x0.drop ((wrap64 (t105 + 2)) : Int).toNat) (x3 ++ [t111])) else (none))) else (none)) else (none)) else (if 0 ≤ (x0.length : Int) then (if (x0.length : Int) ≤ (x0.length : Int) then ((bytes_Clone.f (x0.take ((x0.length : Int) : Int).toNat)).bind fun t127 => (if x3.length < 5864062014805 then (octet_Lines.l0 k (x0.drop ((x0.length : Int) : Int).toNat) (x3 ++ [t127])) else (none))) else (none)) else (none)))) else (some x3)
def octet_Lines.f (k : Nat) (l0 : List Int) : Option ((List (List Int))) := octet_Lines.l0 k l0 ([] : List (List Int))
theorem octet_Lines.mono_l : ∀ k, (∀ y0 y1, LeO (octet_Lines.l0 k y0 y1) (octet_Lines.l0 (k + 1) y0 y1))
 | 0 => fun _ _ r h => by simp [octet_Lines.l0] at h
 | k + 1 => by
  have ih0 := octet_Lines.mono_l k
  ·intro y0 y1
   unfold octet_Lines.l0
   repeat' first
   | (with_reducible exact ih0 _ _)
   | (with_reducible exact LeO.refl _)
   | (with_reducible exact LeO.none _)
   | (with_reducible refine LeO.ite ?_ ?_)
   | (with_reducible refine LeO.bind ?_ (fun _ => ?_))
   | exact ih0 _ _
   | exact LeO.none _
   | refine LeO.ite ?_ ?_
   | refine LeO.bind ?_ (fun _ => ?_)
theorem octet_Lines.mono : ∀ a0 k, LeO (octet_Lines.f k a0) (octet_Lines.f (k + 1) a0) := by
 intro a0 k
 have ih0 := octet_Lines.mono_l k
 unfold octet_Lines.f
 repeat' first
   | (with_reducible exact ih0 _ _)
   | (with_reducible exact LeO.refl _)
   | (with_reducible exact LeO.none _)
   | (with_reducible refine LeO.ite ?_ ?_)
   | (with_reducible refine LeO.bind ?_ (fun _ => ?_))
   | exact ih0 _ _
   | exact LeO.none _
   | refine LeO.ite ?_ ?_
   | refine LeO.bind ?_ (fun _ => ?_)
set_option maxHeartbeats 8000000 in
set_option maxRecDepth 100000 in
theorem octet_Lines.calls (k : Nat) (P0_ : Nat → Prop) (A0 : Option Addr) (c0 : Nat) (l0 : List Int) (r : List (List Int)) (w : World) (hs0 : Kd.V (Kd.int .u8) 5 w w.heap.size (fun k_ => P0_ k_) (.slice A0 l0.length c0) l0) (hG : Gl w) (h : octet_Lines.f k l0 = some r) :
  Calls Tryz.prog 60 #[.slice A0 l0.length c0] w fun e w' => ∃ v0_ : Value, e = .returned (v0_) ∧ Kd.S (Kd.slice 5 (Kd.int .u8)) 30 w' w.heap.size (fun k_ => (w.heap.size ≤ k_)) v0_ r ∧ Below w.heap.size w w' := by
 have HO0 := Aside0.mk (show Kd.V (Kd.int .u8) 5 w w.heap.size (fun k_ => (P0_ k_ ∨ w.heap.size ≤ k_)) (.slice A0 l0.length c0) l0 from Kd.V_mono hs0 (fun k_ hk => .inl hk))
 have HB := Aside0.mk (Below.refl w.heap.size w)
 have HG := Aside0.mk hG
 clear hG
 have H : (octet_Lines.l0 k l0 ([] : List (List Int))) = some r := h
 clear h
 have H' := Aside0.mk H
 clear H
 go_enter Tryz.func60, Tryz.ntmps60
 go_wp2
 go_loopg [0, 3] k (fun kq v0 v3 w' => ∃ (x0_1 : List Int) (x3_1 : List (List Int)), Aside0 (octet_Lines.l0 kq x0_1 x3_1 = some r) ∧ Aside0 (kq ≤ k) ∧ Aside0 (Kd.V (Kd.int .u8) 5 w' w.heap.size (fun k_ => (P0_ k_ ∨ w.heap.size ≤ k_) ∧ some k_ ≠ (v3 : Value).ownBlock) v0 x0_1) ∧ Aside0 (Kd.S (Kd.slice 5 (Kd.int .u8)) 30 w' w.heap.size (fun k_ => (w.heap.size ≤ k_)) v3 x3_1) ∧ Aside0 (Below w.heap.size w w'))
 case atStart => exact ⟨(l0), (([] : List (List Int))), H', ⟨Nat.le_refl _⟩, ⟨by (with_reducible repeat (first | apply Kd.V_alloc | apply Kd.V_drewN | apply Kd.V_drew)); exact Kd.V_mono HO0.out (fun _ hk => ⟨hk, (by simp [Value.ownBlock])⟩)⟩, ⟨by first | exact Kd.S_nil _ _ _ _ _ | exact Kd.N_nil _ _ _ _ _ | exact Kd.V_nil _ _ _ _ _ | exact Kd.Q_nil _ _ _ _ _ | exact Kd.R_nil _ _ _ _ _⟩, ⟨by repeat (first | (with_reducible first | exact HB.out | apply below_alloc | apply pw_below_drewN | apply below_drew1) | exact HB.out)⟩⟩
 case round =>
  clear H'
  obtain ⟨x0_1, x3_1, HA, HK1, HO_0, HO_3, HB⟩ := hrel
  cases gk with
  | zero => exact absurd HA.out (by simp [octet_Lines.l0])
  | succ k1 =>
   have H := HA.out
   clear HA
   simp only [octet_Lines.l0] at H
   by_cases c2 : (x0_1.length : Int) > 0
   ·rw [if_pos c2] at H
    have c2b0 : decide (0 < (x0_1.length : Int)) = true := decide_eq_true c2
    have c2b1 : decide (0 < x0_1.length) = true := decide_eq_true (by omega)
    clear c2
    obtain ⟨y102, hy102⟩ : ∃ y_ : List Int, y_ = (([13, 10] : List Int)) := ⟨_, rfl⟩
    replace H : ((bytes_Index.f x0_1 y102).bind fun t105 => (if t105 ≥ 0 then (if 0 ≤ (wrap64 (t105 + 2)) then (if (wrap64 (t105 + 2)) ≤ (x0_1.length : Int) then ((bytes_Clone.f (x0_1.take ((wrap64 (t105 + 2)) : Int).toNat)).bind fun t111 => (if x3_1.length < 5864062014805 then (octet_Lines.l0 k1 (x0_1.drop ((wrap64 (t105 + 2)) : Int).toNat) (x3_1 ++ [t111])) else (none))) else (none)) else (none)) else (if 0 ≤ (x0_1.length : Int) then (if (x0_1.length : Int) ≤ (x0_1.length : Int) then ((bytes_Clone.f (x0_1.take ((x0_1.length : Int) : Int).toNat)).bind fun t127 => (if x3_1.length < 5864062014805 then (octet_Lines.l0 k1 (x0_1.drop ((x0_1.length : Int) : Int).toNat) (x3_1 ++ [t127])) else (none))) else (none)) else (none)))) = some r := by first | (rw [hy102]; with_reducible exact H) | (have H2_ := (Option.bind_some _ _).symm.trans H; rw [hy102]; with_reducible exact H2_) | (have H2_ := (Option.bind_some _ _).symm.trans H; with_reducible exact H2_) | with_reducible exact H | (rw [hy102]; exact H) | exact H
    have Ny102 := Aside0.mk hy102
    clear hy102
    replace H := Option.bind_eq_some_iff.mp H
    obtain ⟨t105, A30, H⟩ := H
    replace H : (if t105 ≥ 0 then (if 0 ≤ (wrap64 (t105 + 2)) then (if (wrap64 (t105 + 2)) ≤ (x0_1.length : Int) then ((bytes_Clone.f (x0_1.take ((wrap64 (t105 + 2)) : Int).toNat)).bind fun t111 => (if x3_1.length < 5864062014805 then (octet_Lines.l0 k1 (x0_1.drop ((wrap64 (t105 + 2)) : Int).toNat) (x3_1 ++ [t111])) else (none))) else (none)) else (none)) else (if 0 ≤ (x0_1.length : Int) then (if (x0_1.length : Int) ≤ (x0_1.length : Int) then ((bytes_Clone.f (x0_1.take ((x0_1.length : Int) : Int).toNat)).bind fun t127 => (if x3_1.length < 5864062014805 then (octet_Lines.l0 k1 (x0_1.drop ((x0_1.length : Int) : Int).toNat) (x3_1 ++ [t127])) else (none))) else (none)) else (none))) = some r := H
    have A3 := Aside0.mk A30
    clear A30
    by_cases c4 : t105 ≥ 0
    ·rw [if_pos c4] at H
     have c4b0 : decide (0 ≤ t105) = true := decide_eq_true c4
     clear c4
     obtain ⟨ji5, hji5⟩ : ∃ j_ : Int, (wrap64 (t105 + 2)) = j_ := ⟨_, rfl⟩
     replace H : (if 0 ≤ (ji5) then (if (ji5) ≤ (x0_1.length : Int) then ((bytes_Clone.f (x0_1.take ((ji5) : Int).toNat)).bind fun t111 => (if x3_1.length < 5864062014805 then (octet_Lines.l0 k1 (x0_1.drop ((ji5) : Int).toNat) (x3_1 ++ [t111])) else (none))) else (none)) else (none)) = some r := by first | (rw [hji5] at H; exact H) | (simp only [hji5] at H ⊢; exact H)
     (try rw [hji5] at A3)
     have hji5w : (IntKind.i64.wrap (t105 + 2)) = ji5 := (i64_w _).trans hji5
     by_cases c6 : 0 ≤ (ji5)
     ·rw [if_pos c6] at H
      have c6b0 := eq_true c6
      have c6b1 : decide (0 ≤ (ji5)) = true := decide_eq_true c6
      clear c6
      by_cases c7 : (ji5) ≤ (x0_1.length : Int)
      ·rw [if_pos c7] at H
       have c7b0 := eq_true c7
       have c7b1 : decide ((ji5) ≤ (x0_1.length : Int)) = true := decide_eq_true c7
       clear c7
       obtain ⟨y106, hy106⟩ : ∃ y_ : List Int, y_ = (x0_1.take ((ji5) : Int).toNat) := ⟨_, rfl⟩
       replace H : ((bytes_Clone.f y106).bind fun t111 => (if x3_1.length < 5864062014805 then (octet_Lines.l0 k1 (x0_1.drop ((ji5) : Int).toNat) (x3_1 ++ [t111])) else (none))) = some r := by first | (rw [hy106]; with_reducible exact H) | (have H2_ := (Option.bind_some _ _).symm.trans H; rw [hy106]; with_reducible exact H2_) | (have H2_ := (Option.bind_some _ _).symm.trans H; with_reducible exact H2_) | with_reducible exact H | (rw [hy106]; exact H) | exact H
       have Ny106 := Aside0.mk hy106
       clear hy106
       replace H := Option.bind_eq_some_iff.mp H
       obtain ⟨t111, A80, H⟩ := H
       replace H : (if x3_1.length < 5864062014805 then (octet_Lines.l0 k1 (x0_1.drop ((ji5) : Int).toNat) (x3_1 ++ [t111])) else (none)) = some r := H
       have A8 := Aside0.mk A80
       clear A80
       by_cases c9 : x3_1.length < 5864062014805
       ·rw [if_pos c9] at H
        have LMc9 := Aside0.mk c9
        clear c9
        obtain ⟨y114, hy114⟩ : ∃ y_ : List (List Int), y_ = (x3_1 ++ [t111]) := ⟨_, rfl⟩
        replace H : (octet_Lines.l0 k1 (x0_1.drop ((ji5) : Int).toNat) y114) = some r := by first | (rw [hy114]; with_reducible exact H) | (have H2_ := (Option.bind_some _ _).symm.trans H; rw [hy114]; with_reducible exact H2_) | (have H2_ := (Option.bind_some _ _).symm.trans H; with_reducible exact H2_) | with_reducible exact H | (rw [hy114]; exact H) | exact H
        have Ny114 := Aside0.mk hy114
        clear hy114
        have c10b0 := eq_true (of_decide_eq_true (by first | (with_reducible assumption) | assumption) : 0 ≤ (ji5))
        have c11b0 := eq_true (of_decide_eq_true (by first | (with_reducible assumption) | assumption) : (ji5) ≤ (x0_1.length : Int))
        obtain ⟨y117, hy117⟩ : ∃ y_ : List Int, y_ = (x0_1.drop ((ji5) : Int).toNat) := ⟨_, rfl⟩
        replace H : (octet_Lines.l0 k1 y117 y114) = some r := by first | (rw [hy117]; with_reducible exact H) | (have H2_ := (Option.bind_some _ _).symm.trans H; rw [hy117]; with_reducible exact H2_) | (have H2_ := (Option.bind_some _ _).symm.trans H; with_reducible exact H2_) | with_reducible exact H | (rw [hy117]; exact H) | exact H
        have Ny117 := Aside0.mk hy117
        clear hy117
        have H' := Aside0.mk H
        clear H
        obtain ⟨Ao12, co12, eo12⟩ := Kd.V_slice HO_0.out
        subst eo12
        go_wp2_with (first | ((with_reducible refine gate_dst (N := 13) rfl ?_); refine conv_lit 5 rfl (N := 13) rfl 30 _ rfl Tryz.underlying30 Tryz.underlying5 [13, 10] _ rfl _ rfl rfl (by decide) y102 Ny102.out ?_; intro v103 w14 ho15 hb; have n0_ := Aside0.mk (Kd.V_below (by (with_reducible repeat (first | apply Kd.V_alloc | apply Kd.V_drewN | apply Kd.V_drew)); exact HO_0.out) hb); have n1_ := Aside0.mk (Kd.S_below (by (with_reducible repeat (first | apply Kd.S_alloc | apply Kd.S_drewN | apply Kd.S_drew)); exact HO_3.out) hb); have n2_ := Aside0.mk (Kd.V_lower (Kd.V_mono (ok' := fun k_ => (P0_ k_ ∨ w.heap.size ≤ k_) ∧ some k_ ≠ (u3 : Value).ownBlock) ho15 (fun k_ hk_ => ⟨(.inr (Nat.le_trans (below_size (by repeat (first | (with_reducible first | exact HB.out | apply below_alloc | apply pw_below_drewN | apply below_drew1) | exact HB.out))) hk_)), (Kd.fresh' (Kd.S_lt (by (with_reducible repeat (first | apply Kd.S_alloc | apply Kd.S_drewN | apply Kd.S_drew)); exact HO_3.out)) k_ hk_)⟩)) (below_size (by repeat (first | (with_reducible first | exact HB.out | apply below_alloc | apply pw_below_drewN | apply below_drew1) | exact HB.out)))); have n3_ := Aside0.mk (below_step (by repeat (first | (with_reducible first | exact HB.out | apply below_alloc | apply pw_below_drewN | apply below_drew1) | exact HB.out)) hb); clear HO_0; clear HO_3; clear HB; have HO_0 := n0_; have HO_3 := n1_; have HO104 := n2_; have HB := n3_; clear n0_ n1_ n2_ n3_; clear hb ho15; obtain ⟨Ao16, co16, eo16⟩ := Kd.V_slice HO104.out; subst eo16) | ((with_reducible refine gate_callee (f := 87) rfl ?_); refine goesL_ (some 14) rfl rfl Tryz.func87 (by kernel_rfl) rfl #[.slice Ao12 x0_1.length co12, .slice Ao16 y102.length co16] rfl (by (try simp only [List.map_toArray, List.map_cons, List.map_nil]); first | done | rfl | (simp only [List.length_drop, List.length_take]; rfl)) ?_; (with_reducible refine (bytes_Index.calls _ _ x0_1 _ _ y102 t105 _ ?side1 ?side2 ?side3 ?side4 ?side5 A3.out).mono ?_); (case side1 => repeat (first | exact (Kd.V_reads' HO_0.out).2.2 | (with_reducible refine Kd.C_alloc ?_ _) | (with_reducible refine Kd.C_drewN ?_ _) | (with_reducible refine Kd.C_drew ?_))); (case side2 => exact (Kd.V_reads' HO_0.out).2.1); (case side3 => repeat (first | exact (Kd.V_reads' HO104.out).2.2 | (with_reducible refine Kd.C_alloc ?_ _) | (with_reducible refine Kd.C_drewN ?_ _) | (with_reducible refine Kd.C_drew ?_))); (case side4 => exact (Kd.V_reads' HO104.out).2.1); (case side5 => exact Gl.below HG.out (by repeat (first | (with_reducible first | exact HB.out | apply below_alloc | apply pw_below_drewN | apply below_drew1) | exact HB.out))); rintro e w' ⟨rfl, ⟨nd, rfl⟩⟩; refine ⟨_, rfl, ?_⟩; have q17 : ((ji5) : Int) ≤ ((x0_1.length : Int) : Int) := of_decide_eq_true (by first | (with_reducible assumption) | assumption); obtain ⟨i017, hi017, _, hsz17, _⟩ := info_parts info5; have hroom17 : x0_1.length ≤ co12 := (Kd.V_reads' HO_0.out).2.1; have hC17 : Kd.F (Kd.int .u8) _ _ Ao12 x0_1.length x0_1 := (Kd.V_at (base := w.heap.size) HO_0.out).2.2; have hcut17 := cut_to (P := Tryz.prog) 30 5 .i64 Tryz.underlying30 hi017 Ao12 x0_1.length co12 (ji5) (of_decide_eq_true (by first | (with_reducible assumption) | assumption)) q17 hroom17; have hr17 := Kd.F_take (m := ((ji5) : Int).toNat) hC17 (by omega); have hy17 : y106.length = ((ji5) : Int).toNat := (by rw [Ny106.out, List.length_take]; omega); rw [← Ny106.out] at hr17; rw [← hy17] at hcut17; have HO110 := Aside0.mk (show Kd.V (Kd.int .u8) 5 _ w.heap.size _ (.slice Ao12 y106.length co12) y106 from Kd.V_mk (by omega) hr17); have HC110 := Aside0.mk (show y106.length ≤ co12 from by omega); clear hr17 hC17 hroom17 hi017 hsz17; have KY17 := Aside0.mk hy17; clear hy17; replace q17 := eq_true q17) | ((with_reducible refine gate_callee (f := 29) rfl ?_); refine goesL_ (some 23) rfl rfl Tryz.func29 (by kernel_rfl) rfl #[.slice Ao12 y106.length co12] rfl (by (try simp only [List.map_toArray, List.map_cons, List.map_nil]); first | done | rfl | (simp only [List.length_drop, List.length_take]; rfl)) ?_; (with_reducible refine (bytes_Clone.calls _ _ y106 t111 _ ?side1 ?side2 A8.out).mono ?_); (case side1 => repeat (first | exact (Kd.V_reads' HO110.out).2.2 | (with_reducible refine Kd.C_alloc ?_ _) | (with_reducible refine Kd.C_drewN ?_ _) | (with_reducible refine Kd.C_drew ?_))); (case side2 => exact (Kd.V_reads' HO110.out).2.1); rintro e w18 ⟨v112, rfl, ho0, hb⟩; refine ⟨_, rfl, ?_⟩; have n0_ := Aside0.mk (Kd.V_elder' (by (with_reducible repeat (first | apply Kd.V_alloc | apply Kd.V_drewN | apply Kd.V_drew)); exact HO_0.out) (Kd.R_base ho0) hb); have n1_ := Aside0.mk (Kd.S_elder' (by (with_reducible repeat (first | apply Kd.S_alloc | apply Kd.S_drewN | apply Kd.S_drew)); exact HO_3.out) (Kd.R_base ho0) hb); have n2_ := Aside0.mk (Kd.V_elder' (by (with_reducible repeat (first | apply Kd.V_alloc | apply Kd.V_drewN | apply Kd.V_drew)); exact HO104.out) (Kd.R_base ho0) hb); have n3_ := Aside0.mk (Kd.V_elder' (by (with_reducible repeat (first | apply Kd.V_alloc | apply Kd.V_drewN | apply Kd.V_drew)); exact HO110.out) (Kd.R_base ho0) hb); have n4_ := Aside0.mk (Kd.R_lower (Kd.R_newM (M := fun k_ => (w.heap.size ≤ k_)) ho0 (below_size (by repeat (first | (with_reducible first | exact HB.out | apply below_alloc | apply pw_below_drewN | apply below_drew1) | exact HB.out))) (fun k_ h_ => h_)) (below_size (by repeat (first | (with_reducible first | exact HB.out | apply below_alloc | apply pw_below_drewN | apply below_drew1) | exact HB.out)))); have n5_ := Aside0.mk (below_step (by repeat (first | (with_reducible first | exact HB.out | apply below_alloc | apply pw_below_drewN | apply below_drew1) | exact HB.out)) hb); clear HO_0; clear HO_3; clear HO104; clear HO110; clear HB; have HO_0 := n0_; have HO_3 := n1_; have HO104 := n2_; have HO110 := n3_; have HO113 := n4_; have HB := n5_; clear n0_ n1_ n2_ n3_ n4_ n5_; (try clear hb); (try clear hb2); (try clear hk); (try clear hi); (try clear ho0); obtain ⟨Ao20, co20, eo20⟩ := Kd.R_slice HO113.out; subst eo20) | ((with_reducible refine gate_builtin (b := .append) (xs := #[.tmp 19, .tmp 24]) rfl ?_); at_builtin; refine Kd.S_append (Kd.slice 5 (Kd.int .u8)) (w0 := w) w.heap.size rfl (.tmp 19) (.tmp 24) 95 30 (.slice none 0 0) 24 rfl Tryz.underlying95 info30 rfl (by decide) (by omega) u3 x3_1 t111 [.slice Ao20 t111.length co20] (fun k_ => (w.heap.size ≤ k_)) (fun k_ => some k_ = (.slice Ao20 t111.length co20 : Value).ownBlock) rfl rfl ?aP (fun k_ hk_ => ((Kd.R_mono (ok' := fun k_ => ((fun k_ => (w.heap.size ≤ k_))) k_ ∧ some k_ ≠ (u3 : Value).ownBlock) (Kd.R_apart' (HO113.out) (Kd.S_typed HO_3.out) (by decide)) (fun k_ hk => ⟨hk.1.1, hk.2⟩))).1 k_ hk_.symm) ?aF ?aO ?aB ?aS ?aL ?_; (case aP => exact Kd.M_row (Kd.R_mono (Kd.R_tight rfl (Kd.R_mono (ok' := fun k_ => ((fun k_ => (w.heap.size ≤ k_))) k_ ∧ some k_ ≠ (u3 : Value).ownBlock) (Kd.R_apart' (HO113.out) (Kd.S_typed HO_3.out) (by decide)) (fun k_ hk => ⟨hk.1.1, hk.2⟩))) (fun _ h_ => h_))); (case aB => exact (by repeat (first | (with_reducible first | exact HB.out | apply below_alloc | apply pw_below_drewN | apply below_drew1) | exact HB.out))); (case aF => exact (fun k_ hk => (Nat.le_trans (below_size (by repeat (first | (with_reducible first | exact HB.out | apply below_alloc | apply pw_below_drewN | apply below_drew1) | exact HB.out))) hk))); (case aO => exact (by (with_reducible repeat (first | apply Kd.S_alloc | apply Kd.S_drewN | apply Kd.S_drew)); exact Kd.S_mono HO_3.out (fun k_ hk => ⟨hk.1, fun e_ => hk.2 e_⟩))); (case aS => exact (below_size (by repeat (first | (with_reducible first | exact HB.out | apply below_alloc | apply pw_below_drewN | apply below_drew1) | exact HB.out)))); (case aL => have := LMc9.out; omega); intro v115 w19 ho hb hg hat; rw [← Ny114.out] at ho; have n0_ := Aside0.mk (Kd.V_afterv (ok := (fun k_ => (P0_ k_ ∨ w.heap.size ≤ k_) ∧ some k_ ≠ (.slice Ao20 t111.length co20 : Value).ownBlock)) (by (with_reducible repeat (first | apply Kd.V_alloc | apply Kd.V_drewN | apply Kd.V_drew)); exact Kd.V_mono HO_0.out (fun _ hk => ⟨⟨hk.1.1, hk.2⟩, hk.1.2⟩)) hg hat); have n1_ := Aside0.mk (Kd.V_afterv (ok := (fun k_ => (P0_ k_ ∨ w.heap.size ≤ k_) ∧ some k_ ≠ (.slice Ao20 t111.length co20 : Value).ownBlock)) (by (with_reducible repeat (first | apply Kd.V_alloc | apply Kd.V_drewN | apply Kd.V_drew)); exact Kd.V_mono HO104.out (fun _ hk => ⟨⟨hk.1.1, hk.2⟩, hk.1.2⟩)) hg hat); have n2_ := Aside0.mk (Kd.V_afterv (ok := (fun k_ => (P0_ k_ ∨ w.heap.size ≤ k_) ∧ some k_ ≠ (.slice Ao20 t111.length co20 : Value).ownBlock)) (by (with_reducible repeat (first | apply Kd.V_alloc | apply Kd.V_drewN | apply Kd.V_drew)); exact Kd.V_mono HO110.out (fun _ hk => ⟨⟨hk.1.1, hk.2⟩, hk.1.2⟩)) hg hat); have n3_ := Aside0.mk (hb); have n4_ := Aside0.mk (ho); clear HO_0; clear HO104; clear HO110; clear HB; clear HO_3; clear HO113; have HO_0 := n0_; have HO104 := n1_; have HO110 := n2_; have HB := n3_; have HO116 := n4_; clear n0_ n1_ n2_ n3_ n4_; clear ho hb hg hat; have q21 : ((ji5) : Int) ≤ ((x0_1.length : Int) : Int) := of_decide_eq_true (by first | (with_reducible assumption) | assumption); obtain ⟨i021, hi021, _, hsz21, _⟩ := info_parts info5; have hroom21 : x0_1.length ≤ co12 := (Kd.V_reads' HO_0.out).2.1; have hC21 : Kd.F (Kd.int .u8) _ _ Ao12 x0_1.length x0_1 := (Kd.V_at (base := w.heap.size) HO_0.out).2.2; have q021 : (0 : Int) ≤ ((ji5) : Int) := of_decide_eq_true (by first | (with_reducible assumption) | assumption); have hcut21 := cut_from (P := Tryz.prog) 30 5 .i64 Tryz.underlying30 hi021 1 hsz21 Ao12 x0_1.length co12 (ji5) q021 q21; have hr21 := Kd.F_cut (m := ((ji5) : Int).toNat) (c := co12) hC21 (by omega) hroom21; obtain ⟨A21, hA21⟩ : ∃ A1, A1 = (if co12 = ((ji5) : Int).toNat then Ao12 else (Ao12 : Option Addr).map (·.add (((ji5) : Int).toNat * 1))) := ⟨_, rfl⟩; obtain ⟨c21, hc21⟩ : ∃ c1, c1 = co12 - ((ji5) : Int).toNat := ⟨_, rfl⟩; have hy21 : y117.length = x0_1.length - ((ji5) : Int).toNat := (by rw [Ny117.out, List.length_drop] <;> omega); rw [show (x0_1).drop ((ji5) : Int).toNat = y117 from Ny117.out.symm] at hr21; replace hr21 : Kd.F (Kd.int .u8) _ _ A21 y117.length y117 := (by rw [hA21]; exact hr21); rw [← hy21, ← hA21, ← hc21] at hcut21; have HO121 := Aside0.mk (show Kd.V (Kd.int .u8) 5 _ w.heap.size _ (.slice A21 y117.length c21) y117 from Kd.V_mk (by rw [hy21, hc21]; exact Nat.sub_le_sub_right hroom21 _) hr21); have HC121 := Aside0.mk (show y117.length ≤ c21 from by rw [hy21, hc21]; exact Nat.sub_le_sub_right hroom21 _); clear hr21 hC21 hroom21 hi021 hsz21 hc21; have KY21 := Aside0.mk hy21; have KA21 := Aside0.mk hA21; clear hy21 hA21; replace q21 := eq_true q21))
        go_roundg k1
        case measure => have := HK1.out; omega
        case rel => exact ⟨(y117), (y114), H', ⟨by have := HK1.out; omega⟩, ⟨by (with_reducible repeat (first | apply Kd.V_alloc | apply Kd.V_drewN | apply Kd.V_drew)); exact Kd.V_mono HO121.out (fun _ hk => ⟨hk.1.1, hk.2⟩)⟩, ⟨by (with_reducible repeat (first | apply Kd.S_alloc | apply Kd.S_drewN | apply Kd.S_drew)); exact HO116.out⟩, ⟨by repeat (first | (with_reducible first | exact HB.out | apply below_alloc | apply pw_below_drewN | apply below_drew1) | exact HB.out)⟩⟩
       ·rw [if_neg c9] at H
        exact absurd H (by simp)
      ·rw [if_neg c7] at H
       exact absurd H (by simp)
     ·rw [if_neg c6] at H
      exact absurd H (by simp)
    ·rw [if_neg c4] at H
     have c4b0 : decide (0 ≤ t105) = false := decide_eq_false c4
     clear c4
     by_cases c22 : 0 ≤ (x0_1.length : Int)
     ·rw [if_pos c22] at H
      have c22b0 := eq_true c22
      have c22b1 : decide (0 ≤ (x0_1.length : Int)) = true := decide_eq_true c22
      clear c22
      by_cases c23 : (x0_1.length : Int) ≤ (x0_1.length : Int)
      ·rw [if_pos c23] at H
       have c23b0 := eq_true c23
       have c23b1 : decide ((x0_1.length : Int) ≤ (x0_1.length : Int)) = true := decide_eq_true c23
       clear c23
       obtain ⟨y122, hy122⟩ : ∃ y_ : List Int, y_ = (x0_1.take ((x0_1.length : Int) : Int).toNat) := ⟨_, rfl⟩
       replace H : ((bytes_Clone.f y122).bind fun t127 => (if x3_1.length < 5864062014805 then (octet_Lines.l0 k1 (x0_1.drop ((x0_1.length : Int) : Int).toNat) (x3_1 ++ [t127])) else (none))) = some r := by first | (rw [hy122]; with_reducible exact H) | (have H2_ := (Option.bind_some _ _).symm.trans H; rw [hy122]; with_reducible exact H2_) | (have H2_ := (Option.bind_some _ _).symm.trans H; with_reducible exact H2_) | with_reducible exact H | (rw [hy122]; exact H) | exact H
       have Ny122 := Aside0.mk hy122
       clear hy122
       replace H := Option.bind_eq_some_iff.mp H
       obtain ⟨t127, A240, H⟩ := H
       replace H : (if x3_1.length < 5864062014805 then (octet_Lines.l0 k1 (x0_1.drop ((x0_1.length : Int) : Int).toNat) (x3_1 ++ [t127])) else (none)) = some r := H
       have A24 := Aside0.mk A240
       clear A240
       by_cases c25 : x3_1.length < 5864062014805
       ·rw [if_pos c25] at H
        have LMc25 := Aside0.mk c25
        clear c25
        obtain ⟨y130, hy130⟩ : ∃ y_ : List (List Int), y_ = (x3_1 ++ [t127]) := ⟨_, rfl⟩
        replace H : (octet_Lines.l0 k1 (x0_1.drop ((x0_1.length : Int) : Int).toNat) y130) = some r := by first | (rw [hy130]; with_reducible exact H) | (have H2_ := (Option.bind_some _ _).symm.trans H; rw [hy130]; with_reducible exact H2_) | (have H2_ := (Option.bind_some _ _).symm.trans H; with_reducible exact H2_) | with_reducible exact H | (rw [hy130]; exact H) | exact H
        have Ny130 := Aside0.mk hy130
        clear hy130
        have c26b0 := eq_true (of_decide_eq_true (by first | (with_reducible assumption) | assumption) : 0 ≤ (x0_1.length : Int))
        have c27b0 := eq_true (of_decide_eq_true (by first | (with_reducible assumption) | assumption) : (x0_1.length : Int) ≤ (x0_1.length : Int))
        obtain ⟨y133, hy133⟩ : ∃ y_ : List Int, y_ = (x0_1.drop ((x0_1.length : Int) : Int).toNat) := ⟨_, rfl⟩
        replace H : (octet_Lines.l0 k1 y133 y130) = some r := by first | (rw [hy133]; with_reducible exact H) | (have H2_ := (Option.bind_some _ _).symm.trans H; rw [hy133]; with_reducible exact H2_) | (have H2_ := (Option.bind_some _ _).symm.trans H; with_reducible exact H2_) | with_reducible exact H | (rw [hy133]; exact H) | exact H
        have Ny133 := Aside0.mk hy133
        clear hy133
        have H' := Aside0.mk H
        clear H
        obtain ⟨Ao28, co28, eo28⟩ := Kd.V_slice HO_0.out
        subst eo28
        go_wp2_with (first | ((with_reducible refine gate_dst (N := 13) rfl ?_); refine conv_lit 5 rfl (N := 13) rfl 30 _ rfl Tryz.underlying30 Tryz.underlying5 [13, 10] _ rfl _ rfl rfl (by decide) y102 Ny102.out ?_; intro v103 w30 ho31 hb; have n0_ := Aside0.mk (Kd.V_below (by (with_reducible repeat (first | apply Kd.V_alloc | apply Kd.V_drewN | apply Kd.V_drew)); exact HO_0.out) hb); have n1_ := Aside0.mk (Kd.S_below (by (with_reducible repeat (first | apply Kd.S_alloc | apply Kd.S_drewN | apply Kd.S_drew)); exact HO_3.out) hb); have n2_ := Aside0.mk (Kd.V_lower (Kd.V_mono (ok' := fun k_ => (P0_ k_ ∨ w.heap.size ≤ k_) ∧ some k_ ≠ (u3 : Value).ownBlock) ho31 (fun k_ hk_ => ⟨(.inr (Nat.le_trans (below_size (by repeat (first | (with_reducible first | exact HB.out | apply below_alloc | apply pw_below_drewN | apply below_drew1) | exact HB.out))) hk_)), (Kd.fresh' (Kd.S_lt (by (with_reducible repeat (first | apply Kd.S_alloc | apply Kd.S_drewN | apply Kd.S_drew)); exact HO_3.out)) k_ hk_)⟩)) (below_size (by repeat (first | (with_reducible first | exact HB.out | apply below_alloc | apply pw_below_drewN | apply below_drew1) | exact HB.out)))); have n3_ := Aside0.mk (below_step (by repeat (first | (with_reducible first | exact HB.out | apply below_alloc | apply pw_below_drewN | apply below_drew1) | exact HB.out)) hb); clear HO_0; clear HO_3; clear HB; have HO_0 := n0_; have HO_3 := n1_; have HO104 := n2_; have HB := n3_; clear n0_ n1_ n2_ n3_; clear hb ho31; obtain ⟨Ao32, co32, eo32⟩ := Kd.V_slice HO104.out; subst eo32) | ((with_reducible refine gate_callee (f := 87) rfl ?_); refine goesL_ (some 14) rfl rfl Tryz.func87 (by kernel_rfl) rfl #[.slice Ao28 x0_1.length co28, .slice Ao32 y102.length co32] rfl (by (try simp only [List.map_toArray, List.map_cons, List.map_nil]); first | done | rfl | (simp only [List.length_drop, List.length_take]; rfl)) ?_; (with_reducible refine (bytes_Index.calls _ _ x0_1 _ _ y102 t105 _ ?side1 ?side2 ?side3 ?side4 ?side5 A3.out).mono ?_); (case side1 => repeat (first | exact (Kd.V_reads' HO_0.out).2.2 | (with_reducible refine Kd.C_alloc ?_ _) | (with_reducible refine Kd.C_drewN ?_ _) | (with_reducible refine Kd.C_drew ?_))); (case side2 => exact (Kd.V_reads' HO_0.out).2.1); (case side3 => repeat (first | exact (Kd.V_reads' HO104.out).2.2 | (with_reducible refine Kd.C_alloc ?_ _) | (with_reducible refine Kd.C_drewN ?_ _) | (with_reducible refine Kd.C_drew ?_))); (case side4 => exact (Kd.V_reads' HO104.out).2.1); (case side5 => exact Gl.below HG.out (by repeat (first | (with_reducible first | exact HB.out | apply below_alloc | apply pw_below_drewN | apply below_drew1) | exact HB.out))); rintro e w' ⟨rfl, ⟨nd, rfl⟩⟩; refine ⟨_, rfl, ?_⟩; have q33 : ((x0_1.length : Int) : Int) ≤ ((x0_1.length : Int) : Int) := of_decide_eq_true (by first | (with_reducible assumption) | assumption); obtain ⟨i033, hi033, _, hsz33, _⟩ := info_parts info5; have hroom33 : x0_1.length ≤ co28 := (Kd.V_reads' HO_0.out).2.1; have hC33 : Kd.F (Kd.int .u8) _ _ Ao28 x0_1.length x0_1 := (Kd.V_at (base := w.heap.size) HO_0.out).2.2; have hcut33 := cut_to (P := Tryz.prog) 30 5 .i64 Tryz.underlying30 hi033 Ao28 x0_1.length co28 (x0_1.length : Int) (of_decide_eq_true (by first | (with_reducible assumption) | assumption)) q33 hroom33; have hr33 := Kd.F_take (m := ((x0_1.length : Int) : Int).toNat) hC33 (by omega); have hy33 : y122.length = ((x0_1.length : Int) : Int).toNat := (by rw [Ny122.out, List.length_take]; omega); rw [← Ny122.out] at hr33; rw [← hy33] at hcut33; have HO126 := Aside0.mk (show Kd.V (Kd.int .u8) 5 _ w.heap.size _ (.slice Ao28 y122.length co28) y122 from Kd.V_mk (by omega) hr33); have HC126 := Aside0.mk (show y122.length ≤ co28 from by omega); clear hr33 hC33 hroom33 hi033 hsz33; have KY33 := Aside0.mk hy33; clear hy33; replace q33 := eq_true q33) | ((with_reducible refine gate_callee (f := 29) rfl ?_); refine goesL_ (some 23) rfl rfl Tryz.func29 (by kernel_rfl) rfl #[.slice Ao28 y122.length co28] rfl (by (try simp only [List.map_toArray, List.map_cons, List.map_nil]); first | done | rfl | (simp only [List.length_drop, List.length_take]; rfl)) ?_; (with_reducible refine (bytes_Clone.calls _ _ y122 t127 _ ?side1 ?side2 A24.out).mono ?_); (case side1 => repeat (first | exact (Kd.V_reads' HO126.out).2.2 | (with_reducible refine Kd.C_alloc ?_ _) | (with_reducible refine Kd.C_drewN ?_ _) | (with_reducible refine Kd.C_drew ?_))); (case side2 => exact (Kd.V_reads' HO126.out).2.1); rintro e w34 ⟨v128, rfl, ho0, hb⟩; refine ⟨_, rfl, ?_⟩; have n0_ := Aside0.mk (Kd.V_elder' (by (with_reducible repeat (first | apply Kd.V_alloc | apply Kd.V_drewN | apply Kd.V_drew)); exact HO_0.out) (Kd.R_base ho0) hb); have n1_ := Aside0.mk (Kd.S_elder' (by (with_reducible repeat (first | apply Kd.S_alloc | apply Kd.S_drewN | apply Kd.S_drew)); exact HO_3.out) (Kd.R_base ho0) hb); have n2_ := Aside0.mk (Kd.V_elder' (by (with_reducible repeat (first | apply Kd.V_alloc | apply Kd.V_drewN | apply Kd.V_drew)); exact HO104.out) (Kd.R_base ho0) hb); have n3_ := Aside0.mk (Kd.V_elder' (by (with_reducible repeat (first | apply Kd.V_alloc | apply Kd.V_drewN | apply Kd.V_drew)); exact HO126.out) (Kd.R_base ho0) hb); have n4_ := Aside0.mk (Kd.R_lower (Kd.R_newM (M := fun k_ => (w.heap.size ≤ k_)) ho0 (below_size (by repeat (first | (with_reducible first | exact HB.out | apply below_alloc | apply pw_below_drewN | apply below_drew1) | exact HB.out))) (fun k_ h_ => h_)) (below_size (by repeat (first | (with_reducible first | exact HB.out | apply below_alloc | apply pw_below_drewN | apply below_drew1) | exact HB.out)))); have n5_ := Aside0.mk (below_step (by repeat (first | (with_reducible first | exact HB.out | apply below_alloc | apply pw_below_drewN | apply below_drew1) | exact HB.out)) hb); clear HO_0; clear HO_3; clear HO104; clear HO126; clear HB; have HO_0 := n0_; have HO_3 := n1_; have HO104 := n2_; have HO126 := n3_; have HO129 := n4_; have HB := n5_; clear n0_ n1_ n2_ n3_ n4_ n5_; (try clear hb); (try clear hb2); (try clear hk); (try clear hi); (try clear ho0); obtain ⟨Ao36, co36, eo36⟩ := Kd.R_slice HO129.out; subst eo36) | ((with_reducible refine gate_builtin (b := .append) (xs := #[.tmp 19, .tmp 24]) rfl ?_); at_builtin; refine Kd.S_append (Kd.slice 5 (Kd.int .u8)) (w0 := w) w.heap.size rfl (.tmp 19) (.tmp 24) 95 30 (.slice none 0 0) 24 rfl Tryz.underlying95 info30 rfl (by decide) (by omega) u3 x3_1 t127 [.slice Ao36 t127.length co36] (fun k_ => (w.heap.size ≤ k_)) (fun k_ => some k_ = (.slice Ao36 t127.length co36 : Value).ownBlock) rfl rfl ?aP (fun k_ hk_ => ((Kd.R_mono (ok' := fun k_ => ((fun k_ => (w.heap.size ≤ k_))) k_ ∧ some k_ ≠ (u3 : Value).ownBlock) (Kd.R_apart' (HO129.out) (Kd.S_typed HO_3.out) (by decide)) (fun k_ hk => ⟨hk.1.1, hk.2⟩))).1 k_ hk_.symm) ?aF ?aO ?aB ?aS ?aL ?_; (case aP => exact Kd.M_row (Kd.R_mono (Kd.R_tight rfl (Kd.R_mono (ok' := fun k_ => ((fun k_ => (w.heap.size ≤ k_))) k_ ∧ some k_ ≠ (u3 : Value).ownBlock) (Kd.R_apart' (HO129.out) (Kd.S_typed HO_3.out) (by decide)) (fun k_ hk => ⟨hk.1.1, hk.2⟩))) (fun _ h_ => h_))); (case aB => exact (by repeat (first | (with_reducible first | exact HB.out | apply below_alloc | apply pw_below_drewN | apply below_drew1) | exact HB.out))); (case aF => exact (fun k_ hk => (Nat.le_trans (below_size (by repeat (first | (with_reducible first | exact HB.out | apply below_alloc | apply pw_below_drewN | apply below_drew1) | exact HB.out))) hk))); (case aO => exact (by (with_reducible repeat (first | apply Kd.S_alloc | apply Kd.S_drewN | apply Kd.S_drew)); exact Kd.S_mono HO_3.out (fun k_ hk => ⟨hk.1, fun e_ => hk.2 e_⟩))); (case aS => exact (below_size (by repeat (first | (with_reducible first | exact HB.out | apply below_alloc | apply pw_below_drewN | apply below_drew1) | exact HB.out)))); (case aL => have := LMc25.out; omega); intro v131 w35 ho hb hg hat; rw [← Ny130.out] at ho; have n0_ := Aside0.mk (Kd.V_afterv (ok := (fun k_ => (P0_ k_ ∨ w.heap.size ≤ k_) ∧ some k_ ≠ (.slice Ao36 t127.length co36 : Value).ownBlock)) (by (with_reducible repeat (first | apply Kd.V_alloc | apply Kd.V_drewN | apply Kd.V_drew)); exact Kd.V_mono HO_0.out (fun _ hk => ⟨⟨hk.1.1, hk.2⟩, hk.1.2⟩)) hg hat); have n1_ := Aside0.mk (Kd.V_afterv (ok := (fun k_ => (P0_ k_ ∨ w.heap.size ≤ k_) ∧ some k_ ≠ (.slice Ao36 t127.length co36 : Value).ownBlock)) (by (with_reducible repeat (first | apply Kd.V_alloc | apply Kd.V_drewN | apply Kd.V_drew)); exact Kd.V_mono HO104.out (fun _ hk => ⟨⟨hk.1.1, hk.2⟩, hk.1.2⟩)) hg hat); have n2_ := Aside0.mk (Kd.V_afterv (ok := (fun k_ => (P0_ k_ ∨ w.heap.size ≤ k_) ∧ some k_ ≠ (.slice Ao36 t127.length co36 : Value).ownBlock)) (by (with_reducible repeat (first | apply Kd.V_alloc | apply Kd.V_drewN | apply Kd.V_drew)); exact Kd.V_mono HO126.out (fun _ hk => ⟨⟨hk.1.1, hk.2⟩, hk.1.2⟩)) hg hat); have n3_ := Aside0.mk (hb); have n4_ := Aside0.mk (ho); clear HO_0; clear HO104; clear HO126; clear HB; clear HO_3; clear HO129; have HO_0 := n0_; have HO104 := n1_; have HO126 := n2_; have HB := n3_; have HO132 := n4_; clear n0_ n1_ n2_ n3_ n4_; clear ho hb hg hat; have q37 : ((x0_1.length : Int) : Int) ≤ ((x0_1.length : Int) : Int) := of_decide_eq_true (by first | (with_reducible assumption) | assumption); obtain ⟨i037, hi037, _, hsz37, _⟩ := info_parts info5; have hroom37 : x0_1.length ≤ co28 := (Kd.V_reads' HO_0.out).2.1; have hC37 : Kd.F (Kd.int .u8) _ _ Ao28 x0_1.length x0_1 := (Kd.V_at (base := w.heap.size) HO_0.out).2.2; have q037 : (0 : Int) ≤ ((x0_1.length : Int) : Int) := of_decide_eq_true (by first | (with_reducible assumption) | assumption); have hcut37 := cut_from (P := Tryz.prog) 30 5 .i64 Tryz.underlying30 hi037 1 hsz37 Ao28 x0_1.length co28 (x0_1.length : Int) q037 q37; have hr37 := Kd.F_cut (m := ((x0_1.length : Int) : Int).toNat) (c := co28) hC37 (by omega) hroom37; obtain ⟨A37, hA37⟩ : ∃ A1, A1 = (if co28 = ((x0_1.length : Int) : Int).toNat then Ao28 else (Ao28 : Option Addr).map (·.add (((x0_1.length : Int) : Int).toNat * 1))) := ⟨_, rfl⟩; obtain ⟨c37, hc37⟩ : ∃ c1, c1 = co28 - ((x0_1.length : Int) : Int).toNat := ⟨_, rfl⟩; have hy37 : y133.length = x0_1.length - ((x0_1.length : Int) : Int).toNat := (by rw [Ny133.out, List.length_drop] <;> omega); rw [show (x0_1).drop ((x0_1.length : Int) : Int).toNat = y133 from Ny133.out.symm] at hr37; replace hr37 : Kd.F (Kd.int .u8) _ _ A37 y133.length y133 := (by rw [hA37]; exact hr37); rw [← hy37, ← hA37, ← hc37] at hcut37; have HO137 := Aside0.mk (show Kd.V (Kd.int .u8) 5 _ w.heap.size _ (.slice A37 y133.length c37) y133 from Kd.V_mk (by rw [hy37, hc37]; exact Nat.sub_le_sub_right hroom37 _) hr37); have HC137 := Aside0.mk (show y133.length ≤ c37 from by rw [hy37, hc37]; exact Nat.sub_le_sub_right hroom37 _); clear hr37 hC37 hroom37 hi037 hsz37 hc37; have KY37 := Aside0.mk hy37; have KA37 := Aside0.mk hA37; clear hy37 hA37; replace q37 := eq_true q37))
        go_roundg k1
        case measure => have := HK1.out; omega
        case rel => exact ⟨(y133), (y130), H', ⟨by have := HK1.out; omega⟩, ⟨by (with_reducible repeat (first | apply Kd.V_alloc | apply Kd.V_drewN | apply Kd.V_drew)); exact Kd.V_mono HO137.out (fun _ hk => ⟨hk.1.1, hk.2⟩)⟩, ⟨by (with_reducible repeat (first | apply Kd.S_alloc | apply Kd.S_drewN | apply Kd.S_drew)); exact HO132.out⟩, ⟨by repeat (first | (with_reducible first | exact HB.out | apply below_alloc | apply pw_below_drewN | apply below_drew1) | exact HB.out)⟩⟩
       ·rw [if_neg c25] at H
        exact absurd H (by simp)
      ·rw [if_neg c23] at H
       exact absurd H (by simp)
     ·rw [if_neg c22] at H
      exact absurd H (by simp)
   ·rw [if_neg c2] at H
    have c2b0 : decide (0 < (x0_1.length : Int)) = false := decide_eq_false c2
    have c2b1 : decide (0 < x0_1.length) = false := decide_eq_false (by omega)
    clear c2
    obtain rfl := Option.some.inj H
    obtain ⟨Ao38, co38, eo38⟩ := Kd.V_slice HO_0.out
    subst eo38
    go_wp2
    go_ret
    exact ⟨_, by first | rfl | (simp [errW_none, errW_some] <;> rfl) | (simp [*, errW_none, errW_some] <;> rfl), by (with_reducible repeat (first | apply Kd.S_alloc | apply Kd.S_drewN | apply Kd.S_drew)); exact HO_3.out, by repeat (first | (with_reducible first | exact HB.out | apply below_alloc | apply pw_below_drewN | apply below_drew1) | exact HB.out)⟩

/-! ### head_Split: function 30 -/
def head_Split.l0 : Nat → Int → List (List Int) → Int → Int → Option (Int × Int)
 | 0, _, _, _, _ => none
 | k + 1, x4, x8, x9, x10 => if x10 < x9 then (if 0 ≤ x10 then (if x10 < (x8.length : Int) then (if (strOfNums (rd_L1 x8 x10)).toList = ([13, 10] : List UInt8) then (some (wrap64 (x4 + ((rd_L1 x8 x10).length : Int)), wrap64 (x4 + ((rd_L1 x8 x10).length : Int)))) else (head_Split.l0 k (wrap64 (x4 + ((rd_L1 x8 x10).length : Int))) x8 x9 (wrap64 (x10 + 1)))) else (none)) else (none)) else (some (x4, x4))
def head_Split.f (k : Nat) (l0 : List Int) : Option (Int × Int) := (octet_Lines.f k l0).bind fun t138 => (head_Split.l0 k 0 t138 (t138.length : Int) 0)
theorem head_Split.mono_l : ∀ k, (∀ y0 y1 y2 y3, LeO (head_Split.l0 k y0 y1 y2 y3) (head_Split.l0 (k + 1) y0 y1 y2 y3))
 | 0 => fun _ _ _ _ r h => by simp [head_Split.l0] at h
 | k + 1 => by
  have ih0 := head_Split.mono_l k
  ·intro y0 y1 y2 y3
   unfold head_Split.l0
   repeat' first
   | (with_reducible exact ih0 _ _ _ _)
   | (with_reducible exact octet_Lines.mono _ _)
   | (with_reducible exact LeO.refl _)
   | (with_reducible exact LeO.none _)
   | (with_reducible refine LeO.ite ?_ ?_)
   | (with_reducible refine LeO.bind ?_ (fun _ => ?_))
   | exact ih0 _ _ _ _
   | exact octet_Lines.mono _ _
   | exact LeO.none _
   | refine LeO.ite ?_ ?_
   | refine LeO.bind ?_ (fun _ => ?_)
theorem head_Split.mono : ∀ a0 k, LeO (head_Split.f k a0) (head_Split.f (k + 1) a0) := by
 intro a0 k
 have ih0 := head_Split.mono_l k
 unfold head_Split.f
 repeat' first
   | (with_reducible exact ih0 _ _ _ _)
   | (with_reducible exact octet_Lines.mono _ _)
   | (with_reducible exact LeO.refl _)
   | (with_reducible exact LeO.none _)
   | (with_reducible refine LeO.ite ?_ ?_)
   | (with_reducible refine LeO.bind ?_ (fun _ => ?_))
   | exact ih0 _ _ _ _
   | exact octet_Lines.mono _ _
   | exact LeO.none _
   | refine LeO.ite ?_ ?_
   | refine LeO.bind ?_ (fun _ => ?_)
set_option maxHeartbeats 8000000 in
set_option maxRecDepth 100000 in
theorem head_Split.calls (k : Nat) (A0 : Option Addr) (c0 : Nat) (l0 : List Int) (r1 : Int) (r2 : Int) (w : World) (hr0 : Kd.C (Kd.int .u8) w A0 l0.length l0) (hc0 : l0.length ≤ c0) (hG : Gl w) (h : head_Split.f k l0 = some (r1, r2)) :
  Calls Tryz.prog 30 #[.slice A0 l0.length c0] w fun e w' => e = .returned (.tuple #[.int .i64 r1, .int .i64 r2]) ∧ Below w.heap.size w w' := by
 have HR0 := Aside0.mk hr0
 have HC0 := Aside0.mk hc0
 clear hr0 hc0
 have HB := Aside0.mk (Below.refl w.heap.size w)
 have HG := Aside0.mk hG
 clear hG
 have H : ((octet_Lines.f k l0).bind fun t138 => (head_Split.l0 k 0 t138 (t138.length : Int) 0)) = some (r1, r2) := h
 clear h
 replace H := Option.bind_eq_some_iff.mp H
 obtain ⟨t138, A20, H⟩ := H
 replace H : (head_Split.l0 k 0 t138 (t138.length : Int) 0) = some (r1, r2) := H
 have A2 := Aside0.mk A20
 clear A20
 have H' := Aside0.mk H
 clear H
 go_enter Tryz.func30, Tryz.ntmps30
 go_wp2_with (first | ((with_reducible refine gate_callee (f := 60) rfl ?_); refine goesL_ (some 8) rfl rfl Tryz.func60 (by kernel_rfl) rfl #[.slice A0 l0.length c0] rfl (by (try simp only [List.map_toArray, List.map_cons, List.map_nil]); first | done | rfl | (simp only [List.length_drop, List.length_take]; rfl)) ?_; (with_reducible refine (octet_Lines.calls k (fun k_ => k_ < w.heap.size) _ _ l0 t138 _ ?side1 ?side2 A2.out).mono ?_); (case side1 => exact Kd.V_mk HC0.out (Kd.F_below (Kd.C_F (Kd.heap_int .u8) HR0.out) (by repeat (first | (with_reducible first | exact HB.out | apply below_alloc | apply pw_below_drewN | apply below_drew1) | exact HB.out)))); (case side2 => exact Gl.below HG.out (by repeat (first | (with_reducible first | exact HB.out | apply below_alloc | apply pw_below_drewN | apply below_drew1) | exact HB.out))); rintro e w3 ⟨v139, rfl, ho0, hb⟩; refine ⟨_, rfl, ?_⟩; have n0_ := Aside0.mk (Kd.S_lower (Kd.S_mono (ok' := fun k_ => True) ho0 (fun _ hk_ => trivial)) (below_size (by repeat (first | (with_reducible first | exact HB.out | apply below_alloc | apply pw_below_drewN | apply below_drew1) | exact HB.out)))); have n1_ := Aside0.mk (below_step (by repeat (first | (with_reducible first | exact HB.out | apply below_alloc | apply pw_below_drewN | apply below_drew1) | exact HB.out)) hb); clear HB; have HO140 := n0_; have HB := n1_; clear n0_ n1_; (try clear hb); (try clear hb2); (try clear hk); (try clear hi); (try clear ho0); obtain ⟨Ao4, co4, eo4⟩ := Kd.S_slice HO140.out; subst eo4))
 go_loopg [4, 10] k (fun kq v4 v10 w' => ∃ (x4_1 : Int) (x10_1 : Int), v4 = .int .i64 x4_1 ∧ v10 = .int .i64 x10_1 ∧ Aside0 (head_Split.l0 kq x4_1 t138 (t138.length : Int) x10_1 = some (r1, r2)) ∧ Aside0 (kq ≤ k) ∧ Aside0 (Kd.S (Kd.slice 5 (Kd.int .u8)) 30 w' w.heap.size (fun _ => True) (.slice Ao4 t138.length co4) t138) ∧ Aside0 (Below w.heap.size w w'))
 case atStart => exact ⟨(0), (0), (by first | rfl | (simp; done) | (simp [*]; done) | (simp [bne_nil8, beq_nil8]; done)), (by first | rfl | (simp; done) | (simp [*]; done) | (simp [bne_nil8, beq_nil8]; done)), H', ⟨Nat.le_refl _⟩, ⟨by (with_reducible repeat (first | apply Kd.S_alloc | apply Kd.S_drewN | apply Kd.S_drew)); exact HO140.out⟩, ⟨by repeat (first | (with_reducible first | exact HB.out | apply below_alloc | apply pw_below_drewN | apply below_drew1) | exact HB.out)⟩⟩
 case round =>
  clear H'
  try clear p2
  try clear c3
  obtain ⟨x4_1, x10_1, rfl, rfl, HA, HK1, HO_8, HB⟩ := hrel
  cases gk with
  | zero => exact absurd HA.out (by simp [head_Split.l0])
  | succ k1 =>
   have H := HA.out
   clear HA
   simp only [head_Split.l0] at H
   by_cases c5 : x10_1 < (t138.length : Int)
   ·rw [if_pos c5] at H
    have c5b0 : decide (x10_1 < (t138.length : Int)) = true := decide_eq_true c5
    clear c5
    by_cases c6 : 0 ≤ x10_1
    ·rw [if_pos c6] at H
     have c6b0 : decide (0 ≤ x10_1) = true := decide_eq_true c6
     clear c6
     by_cases c7 : x10_1 < (t138.length : Int)
     ·rw [if_pos c7] at H
      have c7b0 : decide (x10_1 < (t138.length : Int)) = true := decide_eq_true c7
      clear c7
      by_cases c8 : (strOfNums (rd_L1 t138 x10_1)).toList = ([13, 10] : List UInt8)
      ·rw [if_pos c8] at H
       have c8b0 : ((strOfNums (rd_L1 t138 x10_1)).toList == ([13, 10] : List UInt8)) = true := beq_iff_eq.mpr c8
       have c8b1 : ((strOfNums (rd_L1 t138 x10_1)).toList != ([13, 10] : List UInt8)) = false := bne_eq_false_iff_eq.mpr c8
       clear c8
       simp only [Option.some.injEq, Prod.mk.injEq] at H
       obtain ⟨rfl, rfl⟩ := H
       have p141 : 0 ≤ (x10_1 : Int) := of_decide_eq_true (by first | (with_reducible assumption) | assumption)
       have q141 : x10_1 < (t138.length : Int) := of_decide_eq_true (by first | (with_reducible assumption) | assumption)
       obtain ⟨ad141, A141_0, c141_0, e141, hx141_0, hl141_0, hi141_0⟩ := at_L1 (Kd.S_reads' HO_8.out).2.2 x10_1 p141 q141
       cases e141
       obtain ⟨ce141, hce141, hMe141, hcc141⟩ := Kd.S_get HO_8.out [] x10_1 p141 (by first | exact q141 | exact of_decide_eq_true (by first | (with_reducible assumption) | assumption) | (have e_ := (Kd.S_reads' HO_8.out).1; omega))
       obtain ⟨ve141_0, rfl, ge141_0⟩ := hMe141
       have hv141_0 := hcc141 0 _ rfl
       rw [Nat.add_zero, show ((Kd.slice 5 (Kd.int .u8))).sz = 1 from rfl, Nat.mul_one] at hv141_0
       replace hv141_0 := Option.some.inj (hv141_0.symm.trans hx141_0)
       rw [hv141_0] at ge141_0
       have HL141_0 := Aside0.mk (show Kd.R (Kd.int .u8) 5 _ _ _ _ (rd_L1 t138 x10_1) from ge141_0)
       clear hv141_0 ge141_0
       clear hcc141 hce141
       have HR141_0 := Aside0.mk hi141_0
       have HC141_0 := Aside0.mk hl141_0
       clear hi141_0 hl141_0
       replace p141 := eq_true p141
       replace q141 := eq_true q141
       have hcv9 := Kd.C_string (P := Tryz.prog) (A := A141_0) (c := c141_0) Tryz.underlying30 Tryz.underlying5 Tryz.underlying9 (by repeat (first | (with_reducible exact HR141_0.out) | (with_reducible refine Kd.C_alloc ?_ _) | (with_reducible refine Kd.C_drewN ?_ _) | (with_reducible refine Kd.C_drew ?_) | exact HR141_0.out))
       have hcw10 := fun n_ : Nat => Kd.C_string (P := Tryz.prog) (A := A141_0) (c := c141_0) Tryz.underlying30 Tryz.underlying5 Tryz.underlying9 (Kd.C_drewN (by repeat (first | (with_reducible exact HR141_0.out) | (with_reducible refine Kd.C_alloc ?_ _) | (with_reducible refine Kd.C_drewN ?_ _) | (with_reducible refine Kd.C_drew ?_) | exact HR141_0.out)) n_)
       go_wp2
       go_ret2
       exact ⟨by first | rfl | (simp [errW_none, errW_some] <;> rfl) | (simp [*, errW_none, errW_some] <;> rfl), by repeat (first | (with_reducible first | exact HB.out | apply below_alloc | apply pw_below_drewN | apply below_drew1) | exact HB.out)⟩
      ·rw [if_neg c8] at H
       have c8b0 : ((strOfNums (rd_L1 t138 x10_1)).toList == ([13, 10] : List UInt8)) = false := beq_eq_false_iff_ne.mpr c8
       have c8b1 : ((strOfNums (rd_L1 t138 x10_1)).toList != ([13, 10] : List UInt8)) = true := bne_iff_ne.mpr c8
       have H' := Aside0.mk H
       clear H
       have p141 : 0 ≤ (x10_1 : Int) := of_decide_eq_true (by first | (with_reducible assumption) | assumption)
       have q141 : x10_1 < (t138.length : Int) := of_decide_eq_true (by first | (with_reducible assumption) | assumption)
       obtain ⟨ad141, A141_0, c141_0, e141, hx141_0, hl141_0, hi141_0⟩ := at_L1 (Kd.S_reads' HO_8.out).2.2 x10_1 p141 q141
       cases e141
       obtain ⟨ce141, hce141, hMe141, hcc141⟩ := Kd.S_get HO_8.out [] x10_1 p141 (by first | exact q141 | exact of_decide_eq_true (by first | (with_reducible assumption) | assumption) | (have e_ := (Kd.S_reads' HO_8.out).1; omega))
       obtain ⟨ve141_0, rfl, ge141_0⟩ := hMe141
       have hv141_0 := hcc141 0 _ rfl
       rw [Nat.add_zero, show ((Kd.slice 5 (Kd.int .u8))).sz = 1 from rfl, Nat.mul_one] at hv141_0
       replace hv141_0 := Option.some.inj (hv141_0.symm.trans hx141_0)
       rw [hv141_0] at ge141_0
       have HL141_0 := Aside0.mk (show Kd.R (Kd.int .u8) 5 _ _ _ _ (rd_L1 t138 x10_1) from ge141_0)
       clear hv141_0 ge141_0
       clear hcc141 hce141
       have HR141_0 := Aside0.mk hi141_0
       have HC141_0 := Aside0.mk hl141_0
       clear hi141_0 hl141_0
       replace p141 := eq_true p141
       replace q141 := eq_true q141
       have hcv11 := Kd.C_string (P := Tryz.prog) (A := A141_0) (c := c141_0) Tryz.underlying30 Tryz.underlying5 Tryz.underlying9 (by repeat (first | (with_reducible exact HR141_0.out) | (with_reducible refine Kd.C_alloc ?_ _) | (with_reducible refine Kd.C_drewN ?_ _) | (with_reducible refine Kd.C_drew ?_) | exact HR141_0.out))
       have hcw12 := fun n_ : Nat => Kd.C_string (P := Tryz.prog) (A := A141_0) (c := c141_0) Tryz.underlying30 Tryz.underlying5 Tryz.underlying9 (Kd.C_drewN (by repeat (first | (with_reducible exact HR141_0.out) | (with_reducible refine Kd.C_alloc ?_ _) | (with_reducible refine Kd.C_drewN ?_ _) | (with_reducible refine Kd.C_drew ?_) | exact HR141_0.out)) n_)
       go_wp2
       go_roundg k1
       case measure => have := HK1.out; omega
       case rel => exact ⟨(wrap64 (x4_1 + ((rd_L1 t138 x10_1).length : Int))), (wrap64 (x10_1 + 1)), (by first | rfl | (simp; done) | (simp [*]; done) | (simp [bne_nil8, beq_nil8]; done)), (by first | rfl | (simp; done) | (simp [*]; done) | (simp [bne_nil8, beq_nil8]; done)), H', ⟨by have := HK1.out; omega⟩, ⟨by (with_reducible repeat (first | apply Kd.S_alloc | apply Kd.S_drewN | apply Kd.S_drew)); exact HO_8.out⟩, ⟨by repeat (first | (with_reducible first | exact HB.out | apply below_alloc | apply pw_below_drewN | apply below_drew1) | exact HB.out)⟩⟩
     ·rw [if_neg c7] at H
      exact absurd H (by simp)
    ·rw [if_neg c6] at H
     exact absurd H (by simp)
   ·rw [if_neg c5] at H
    have c5b0 : decide (x10_1 < (t138.length : Int)) = false := decide_eq_false c5
    clear c5
    simp only [Option.some.injEq, Prod.mk.injEq] at H
    obtain ⟨rfl, rfl⟩ := H
    go_wp2
    go_ret2
    exact ⟨by first | rfl | (simp [errW_none, errW_some] <;> rfl) | (simp [*, errW_none, errW_some] <;> rfl), by repeat (first | (with_reducible first | exact HB.out | apply below_alloc | apply pw_below_drewN | apply below_drew1) | exact HB.out)⟩

/-! ### octet_Fold: function 75 -/
def octet_Fold.f (a0 : ByteArray) : Option (ByteArray) := if a0.size ≤ 9223372036854775807 then some (foldBA a0) else none
set_option maxHeartbeats 4000000 in
set_option maxRecDepth 100000 in
theorem octet_Fold.calls (a0 : ByteArray) (r : ByteArray) (w : World) (h : octet_Fold.f a0 = some r) :
  Calls Tryz.prog 75 #[.string a0] w fun e w' => e = .returned (.string r) ∧ Below w.heap.size w w' := by
 unfold octet_Fold.f at h
 by_cases hs : a0.size ≤ 9223372036854775807
 case neg => rw [if_neg hs] at h; cases h
 rw [if_pos hs] at h
 obtain rfl := Option.some.inj h
 clear h
 have kb := fun W => print_bytes (P := Tryz.prog) 9 30 5 Tryz.underlying9 Tryz.underlying30 Tryz.underlying5 a0 W
 have H0 := Aside0.mk (MarkRow.new w 5 a0)
 have HB := Aside0.mk (bytes_below (Below.refl w.heap.size w) (Nat.le_refl _) 5 a0)
 go_enter Tryz.func75, Tryz.ntmps75
 go_wp2
 clear kb
 go_loopw [10] (fun i wr => ∃ k : Nat, k ≤ a0.size ∧ i = .int .i64 k ∧ Aside0 (MarkRow wr w.heap.size 5 (foldTo a0 k)) ∧ Aside0 (Below w.heap.size w wr)) (fun i _ => a0.size - (intOf i).toNat)
 case atStart => exact ⟨0, Nat.zero_le _, rfl, ⟨by rw [foldTo_zero]; exact H0.out⟩, HB⟩
 case round =>
  clear H0 HB
  obtain ⟨k, hk, rfl, HM, HB⟩ := hrel
  by_cases hlt : k < a0.size
  ·have hl := foldTo_length a0 k hk
   have hc := HM.out.cell (i := k) (by omega)
   have hfz := HM.out.free (i := k) (by omega)
   rw [foldTo_at a0 k hlt] at hc
   clear hl
   have hset := Aside0.mk (HM.out.set (i := k) (by have := foldTo_length a0 k hk; omega) (((a0[k]'hlt).toNat : Int) + 97 - 65))
   have hB2 := Aside0.mk (below_set HB.out (j := k) (v := .int .u8 (((a0[k]'hlt).toNat : Int) + 97 - 65)) (Nat.le_refl w.heap.size))
   go_wp2
   ·have h1 : 65 ≤ ((a0[k]'hlt).toNat : Int) := by assumption
    have h2 : ((a0[k]'hlt).toNat : Int) ≤ 90 := by assumption
    go_roundw
    case rel => exact ⟨k + 1, by omega, by go_num, ⟨by rw [← foldTo_step a0 k hlt _ (show ((a0[k]'hlt).toNat : Int) + 97 - 65 = _ by rw [low_up _ h1 h2]; omega)]; exact hset.out⟩, hB2⟩
    case measure => simp [intOf]; omega
   ·have h2 : 90 < ((a0[k]'hlt).toNat : Int) := by assumption
    go_roundw
    case rel => exact ⟨k + 1, by omega, by go_num, ⟨by rw [← foldTo_stay a0 k hlt (low_id _ (by omega))]; exact HM.out⟩, HB⟩
    case measure => simp [intOf]; omega
   ·have h2 : ¬ 65 ≤ ((a0[k]'hlt).toNat : Int) := by assumption
    go_roundw
    case rel => exact ⟨k + 1, by omega, by go_num, ⟨by rw [← foldTo_stay a0 k hlt (low_id _ (by omega))]; exact HM.out⟩, HB⟩
    case measure => simp [intOf]; omega
  ·obtain rfl : a0.size = k := by omega
   have kc := fun c => HM.out.str (P := Tryz.prog) 30 9 Tryz.underlying30 Tryz.underlying5 Tryz.underlying9 a0.size c (by rw [foldTo_length a0 _ (Nat.le_refl _)])
   rw [foldTo_all, strOfNums_bytesOf] at kc
   go_wp2
   go_ret
   exact ⟨rfl, HB.out⟩

/-! ### octet_Same: function 50 -/
def octet_Same.f (a0 : ByteArray) (a1 : ByteArray) : Option (Bool) := (octet_Fold.f a0).bind fun t142 => ((octet_Fold.f a1).bind fun t143 => (some (t142.toList == t143.toList)))
set_option maxHeartbeats 8000000 in
set_option maxRecDepth 100000 in
theorem octet_Same.calls (a0 : ByteArray) (a1 : ByteArray) (r : Bool) (w : World) (h : octet_Same.f a0 a1 = some r) :
  Calls Tryz.prog 50 #[.string a0, .string a1] w fun e w' => e = .returned (.bool r) ∧ Below w.heap.size w w' := by
 have HB := Aside0.mk (Below.refl w.heap.size w)
 have H : ((octet_Fold.f a0).bind fun t142 => ((octet_Fold.f a1).bind fun t143 => (some (t142.toList == t143.toList)))) = some r := h
 clear h
 replace H := Option.bind_eq_some_iff.mp H
 obtain ⟨t142, A30, H⟩ := H
 replace H : ((octet_Fold.f a1).bind fun t143 => (some (t142.toList == t143.toList))) = some r := H
 have A3 := Aside0.mk A30
 clear A30
 replace H := Option.bind_eq_some_iff.mp H
 obtain ⟨t143, A40, H⟩ := H
 replace H : (some (t142.toList == t143.toList)) = some r := H
 have A4 := Aside0.mk A40
 clear A40
 obtain rfl := Option.some.inj H
 go_enter Tryz.func50, Tryz.ntmps50
 go_wp2_with (first | ((with_reducible refine gate_callee (f := 75) rfl ?_); refine goesL_ (some 6) rfl rfl Tryz.func75 (by kernel_rfl) rfl #[.string a0] rfl (by (try simp only [List.map_toArray, List.map_cons, List.map_nil]); first | done | rfl | (simp only [List.length_drop, List.length_take]; rfl)) ?_; (with_reducible refine (octet_Fold.calls a0 t142 _ A3.out).mono ?_); rintro e w5 ⟨rfl, hb⟩; refine ⟨_, rfl, ?_⟩; have n0_ := Aside0.mk (below_step (by repeat (first | (with_reducible first | exact HB.out | apply below_alloc | apply pw_below_drewN | apply below_drew1) | exact HB.out)) hb); clear HB; have HB := n0_; clear n0_; (try clear hb); (try clear hb2); (try clear hk); (try clear hi)) | ((with_reducible refine gate_callee (f := 75) rfl ?_); refine goesL_ (some 8) rfl rfl Tryz.func75 (by kernel_rfl) rfl #[.string a1] rfl (by (try simp only [List.map_toArray, List.map_cons, List.map_nil]); first | done | rfl | (simp only [List.length_drop, List.length_take]; rfl)) ?_; (with_reducible refine (octet_Fold.calls a1 t143 _ A4.out).mono ?_); rintro e w6 ⟨rfl, hb⟩; refine ⟨_, rfl, ?_⟩; have n0_ := Aside0.mk (below_step (by repeat (first | (with_reducible first | exact HB.out | apply below_alloc | apply pw_below_drewN | apply below_drew1) | exact HB.out)) hb); clear HB; have HB := n0_; clear n0_; (try clear hb); (try clear hb2); (try clear hk); (try clear hi)))
 go_ret
 exact ⟨by first | rfl | (simp [errW_none, errW_some] <;> rfl) | (simp [*, errW_none, errW_some] <;> rfl), by repeat (first | (with_reducible first | exact HB.out | apply below_alloc | apply pw_below_drewN | apply below_drew1) | exact HB.out)⟩

end Go.Proofs.YtefmlibcghjncaaGreatDoor.X
