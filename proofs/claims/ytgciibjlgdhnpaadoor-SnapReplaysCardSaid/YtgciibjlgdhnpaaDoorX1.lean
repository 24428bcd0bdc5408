/- By a program of this session, over the print of the kit: for each function of the program what it computes, and that its call comes to just that. -/
import Derived.Test.YtgciibjlgdhnpaaDoorX0
namespace Go.Proofs.YtgciibjlgdhnpaaDoor.X
open Go.RowKit Go.Proofs.Mine Go.Proofs.YtgciibjlgdhnpaaDoorW.PrintWords Go.Proofs.YtgciibjlgdhnpaaDoorW.PrintLast Go.Proofs.YtgciibjlgdhnpaaDoorW.PrintMore
attribute [local go_sem] max2_int min2_int max_two min_two max_three min_three max_four min_four   -- for this text's walks alone
set_option linter.unusedVariables false
set_option linter.unusedSimpArgs false

/-! ### frankinglaw25_awake: function 7 -/
def frankinglaw25_awake.f : Option (Bool) := some true
theorem frankinglaw25_awake.calls (r : Bool) (w : World) (h : frankinglaw25_awake.f = some r) :
    Calls Tryd.prog 7 #[] w fun e w' => e = .returned (.bool r) ∧ Below w.heap.size w w' := by
  obtain rfl := Option.some.inj h
  exact Mine.awake_walk w

/-! ### snap_number: function 29 -/
/-- snap.number: the number ahead of a word. -/
def snap_number.f (a0 a1 : ByteArray) : Option (Int × Bool) :=
  if decide (a0.size ≤ 9223372036854775807) then
    (if Lib.hasSuffix a0.data.toList a1.data.toList = true then
      (if 0 < (Lib.trimSuffix a0.data.toList a1.data.toList).length ∧ (Lib.trimSuffix a0.data.toList a1.data.toList).length ≤ 10 then
        (match Mine.digitsN 0 (Lib.trimSuffix a0.data.toList a1.data.toList) with
          | some n => some ((n : Int), true)
          | none => some (0, false))
      else some (0, false))
    else some (0, false))
  else none
theorem snap_number.small : ∀ (l : List UInt8) (acc n : Nat), Mine.digitsN acc l = some n → n < (acc + 1) * 10 ^ l.length
  | [], acc, n, h => by
    have : acc = n := Option.some.inj h
    simp
    omega
  | c :: l, acc, n, h => by
    rw [Mine.digitsN] at h
    split at h
    · rename_i hc
      have h1 := snap_number.small l _ n h
      have h2 : (acc * 10 + (c.toNat - 48) + 1) * 10 ^ l.length ≤ (acc + 1) * 10 * 10 ^ l.length := Nat.mul_le_mul_right _ (by omega)
      rw [List.length_cons, Nat.pow_succ, Nat.mul_comm (10 ^ l.length) 10, ← Nat.mul_assoc]
      omega
    · cases h
set_option maxHeartbeats 8000000 in
set_option maxRecDepth 100000 in
theorem snap_number.no (a0 a1 : ByteArray) (w : World) (hs : a0.size ≤ 9223372036854775807) (h : Lib.hasSuffix a0.data.toList a1.data.toList = false) :
    Calls Tryd.prog 29 #[.string a0, .string a1] w fun e w' => e = .returned (.tuple #[.int .i64 0, .bool false]) ∧ Below w.heap.size w w' := by
  have hcut := Tryd.strings_CutSuffix a0 a1 w hs
  rw [h] at hcut
  generalize Lib.trimSuffix a0.data.toList a1.data.toList = t at hcut
  clear h
  go_enter Tryd.func29, Tryd.ntmps29
  go_wp2_with (go_at_call 34; refine hcut.mono ?_; rintro e w' ⟨rfl, rfl⟩)
  go_ret2
  exact ⟨rfl, Below.refl _ _⟩
set_option maxHeartbeats 8000000 in
set_option maxRecDepth 100000 in
theorem snap_number.odd (a0 a1 : ByteArray) (w : World) (t : ByteArray) (hs : a0.size ≤ 9223372036854775807) (h : Lib.hasSuffix a0.data.toList a1.data.toList = true) (ht : t = ⟨(Lib.trimSuffix a0.data.toList a1.data.toList).toArray⟩) (h0 : t.size = 0 ∨ 10 < t.size) :
    Calls Tryd.prog 29 #[.string a0, .string a1] w fun e w' => e = .returned (.tuple #[.int .i64 0, .bool false]) ∧ Below w.heap.size w w' := by
  have hcut := Tryd.strings_CutSuffix a0 a1 w hs
  rw [h, ← ht] at hcut
  clear h ht
  rcases h0 with h0 | h0
  · have hemp : t.toList.isEmpty = true := by
      rw [← decide_eq_emptyBytes]
      exact decide_eq_true (by obtain ⟨⟨l⟩⟩ := t; have : l = [] := List.eq_nil_of_length_eq_zero h0; subst this; rfl)
    go_enter Tryd.func29, Tryd.ntmps29
    go_wp2_with (go_at_call 34; refine hcut.mono ?_; rintro e w' ⟨rfl, rfl⟩)
    go_ret2
    exact ⟨rfl, Below.refl _ _⟩
  · have hemp : t.toList.isEmpty = false := by
      rw [← decide_eq_emptyBytes]
      exact decide_eq_false (fun h => by rw [h] at h0; exact absurd h0 (by decide))
    have h1 : (t.size : Int) > 10 := by omega
    go_enter Tryd.func29, Tryd.ntmps29
    go_wp2_with (go_at_call 34; refine hcut.mono ?_; rintro e w' ⟨rfl, rfl⟩)
    go_ret2
    exact ⟨rfl, Below.refl _ _⟩
set_option maxHeartbeats 8000000 in
set_option maxRecDepth 100000 in
theorem snap_number.yes (a0 a1 : ByteArray) (w : World) (t : ByteArray) (hs : a0.size ≤ 9223372036854775807) (h : Lib.hasSuffix a0.data.toList a1.data.toList = true) (ht : t = ⟨(Lib.trimSuffix a0.data.toList a1.data.toList).toArray⟩) (h0 : t.size ≠ 0) (h10 : t.size ≤ 10) (hG : Gl w) :
    Calls Tryd.prog 29 #[.string a0, .string a1] w fun e w' => e = .returned (match Mine.digitsN 0 t.data.toList with | some n => .tuple #[.int .i64 n, .bool true] | none => .tuple #[.int .i64 0, .bool false]) ∧ Below w.heap.size w w' := by
  have mixed : Tryd.prog.follows .mixedOrders = true := by kernel_rfl
  have hcut := Tryd.strings_CutSuffix a0 a1 w hs
  rw [h, ← ht] at hcut
  obtain ⟨ev, hv, hev⟩ := hG.esyn
  have hP : Calls Tryd.prog 35 #[.string t, .int .i64 10, .int .i64 63] w fun e w' => ∃ v, e = .returned v ∧ Mine.Ends63 (Tryd.laysPu14_ren.t 39) v (Mine.digitsN 0 t.data.toList) ∧ Below w.heap.size w w' := Mine.parse63 Tryd.laysPu14 t h0 h10 ev w hv hev
  have hsm := snap_number.small t.data.toList 0
  have htl : t.data.toList.length ≤ 10 := by rw [← Lib.size_eq]; exact h10
  clear h ht hv hev
  have hemp : t.toList.isEmpty = false := by
    rw [← decide_eq_emptyBytes]
    exact decide_eq_false (fun h => h0 (by rw [h]; rfl))
  have h1 : ¬ (t.size : Int) > 10 := by omega
  cases hd : Mine.digitsN 0 t.data.toList with
  | some n =>
    have hn := hsm n hd
    have hp : (10 : Nat) ^ t.data.toList.length ≤ 10 ^ 10 := Nat.pow_le_pow_right (by omega) htl
    have hn2 : (n : Int) < 10000000000 := by have : (10 : Nat) ^ 10 = 10000000000 := by decide
                                             omega
    rw [hd] at hP
    have hP : Calls Tryd.prog 35 #[.string t, .int .i64 10, .int .i64 63] w fun e w' => e = .returned (.tuple #[.int .u64 n, .nilIface]) ∧ Below w.heap.size w w' := hP.mono fun e w' ⟨v, h1, h2, h3⟩ => ⟨by rw [h1]; exact congrArg Ending.returned h2, h3⟩
    have hn0 : (0 : Int) ≤ (n : Int) := by omega
    show Calls Tryd.prog 29 #[.string a0, .string a1] w fun e w' => e = .returned (.tuple #[.int .i64 (n : Int), .bool true]) ∧ Below w.heap.size w w'
    generalize (n : Int) = z at hP hn2 hn0 ⊢
    clear hsm hn hp hd htl
    go_enter Tryd.func29, Tryd.ntmps29
    go_wp2_with (go_at_call 34; refine hcut.mono ?_; rintro e w' ⟨rfl, rfl⟩)
    go_wp2_with (go_at_call 35; refine hP.mono ?_)
    rintro e W2 ⟨rfl, hb⟩
    go_wp2
    go_region_o
    all_goals go_wp2
    all_goals go_ret2
    all_goals refine ⟨?_, hb.drew⟩
    all_goals first | rfl | trace_state
  | none =>
    rw [hd] at hP
    have hP : Calls Tryd.prog 35 #[.string t, .int .i64 10, .int .i64 63] w fun e w' => ∃ T p, e = .returned (.tuple #[.int .u64 0, .iface T p]) ∧ Below w.heap.size w w' := hP.mono fun e w' ⟨v, h1, ⟨NN, h2⟩, h3⟩ => ⟨_, _, h1.trans (congrArg Ending.returned h2), h3⟩
    show Calls Tryd.prog 29 #[.string a0, .string a1] w fun e w' => e = .returned (.tuple #[.int .i64 0, .bool false]) ∧ Below w.heap.size w w'
    clear hsm hd htl
    go_enter Tryd.func29, Tryd.ntmps29
    go_wp2_with (go_at_call 34; refine hcut.mono ?_; rintro e w' ⟨rfl, rfl⟩)
    go_wp2_with (go_at_call 35; refine hP.mono ?_)
    rintro e W2 ⟨TT, pp, rfl, hb⟩
    go_wp2
    go_region_o
    all_goals go_wp2
    all_goals go_ret2
    all_goals refine ⟨?_, hb.drew⟩
    all_goals first | rfl | trace_state
theorem snap_number.calls (a0 a1 : ByteArray) (r1 : Int) (r2 : Bool) (w : World) (hG : Gl w) (h : snap_number.f a0 a1 = some (r1, r2)) :
    Calls Tryd.prog 29 #[.string a0, .string a1] w fun e w' => e = .returned (.tuple #[.int .i64 r1, .bool r2]) ∧ Below w.heap.size w w' := by
  unfold snap_number.f at h
  split at h
  case isFalse => cases h
  rename_i hs
  have hs' := of_decide_eq_true hs
  have hsz : (⟨(Lib.trimSuffix a0.data.toList a1.data.toList).toArray⟩ : ByteArray).size = (Lib.trimSuffix a0.data.toList a1.data.toList).length := by rw [Lib.size_eq]
  split at h
  case isFalse hf =>
    have e := Option.some.inj h
    simp only [Prod.mk.injEq] at e
    obtain ⟨rfl, rfl⟩ := e
    exact snap_number.no a0 a1 w hs' (by simpa using hf)
  rename_i hf
  split at h
  case isFalse hl =>
    have e := Option.some.inj h
    simp only [Prod.mk.injEq] at e
    obtain ⟨rfl, rfl⟩ := e
    exact snap_number.odd a0 a1 w _ hs' hf rfl (by rw [hsz]; omega)
  rename_i hl
  refine (snap_number.yes a0 a1 w _ hs' hf rfl (by rw [hsz]; omega) (by rw [hsz]; omega) hG).mono fun e w' ⟨he, hb⟩ => ⟨?_, hb⟩
  rw [he]
  have e2 : (⟨(Lib.trimSuffix a0.data.toList a1.data.toList).toArray⟩ : ByteArray).data.toList = Lib.trimSuffix a0.data.toList a1.data.toList := by simp
  rw [e2]
  cases hd : Mine.digitsN 0 (Lib.trimSuffix a0.data.toList a1.data.toList) with
  | some n =>
    rw [hd] at h
    have e := Option.some.inj h
    simp only [Prod.mk.injEq] at e
    obtain ⟨rfl, rfl⟩ := e
    rfl
  | none =>
    rw [hd] at h
    have e := Option.some.inj h
    simp only [Prod.mk.injEq] at e
    obtain ⟨rfl, rfl⟩ := e
    rfl

/-! ### snap_Replay: function 15 -/
mutual
def snap_Replay.l0 : Nat → Int → List ByteArray → Int → Int → Option (Int × Bool)
  | 0, _, _, _, _ => none
  | k + 1, x6, x16, x17, x18 => if x18 < x17 then (if 0 ≤ x18 then (if x18 < (x16.length : Int) then ((snap_number.f (rdOf ByteArray.empty x16 x18) (⟨#[32, 69, 88, 80, 85, 78, 71, 69]⟩ : ByteArray)).bind fun bt102 => (if bt102.2 = true then (if bt102.1 < 1 then (some (0, false)) else (if bt102.1 > x6 then (some (0, false)) else (snap_Replay.j1 k (wrap64 (x6 - 1)) (rdOf ByteArray.empty x16 x18) x16 x17 x18))) else (snap_Replay.j1 k x6 (rdOf ByteArray.empty x16 x18) x16 x17 x18))) else (none)) else (none)) else (some (x6, true))
def snap_Replay.j1 : Nat → Int → ByteArray → List ByteArray → Int → Int → Option (Int × Bool)
  | 0, _, _, _, _, _ => none
  | k + 1, x6, x8, x16, x17, x18 => (snap_number.f x8 (⟨#[32, 69, 88, 73, 83, 84, 83]⟩ : ByteArray)).bind fun bt104 => (if bt104.2 = true then (if bt104.1 < x6 then (some (0, false)) else (snap_Replay.l0 k bt104.1 x16 x17 (wrap64 (x18 + 1)))) else (snap_Replay.l0 k x6 x16 x17 (wrap64 (x18 + 1))))
end
def snap_Replay.f (k : Nat) (a0 : Int) (l1 : List ByteArray) : Option (Int × Bool) := if a0 < 0 then (some (0, false)) else (snap_Replay.l0 k a0 l1 (l1.length : Int) 0)
theorem snap_Replay.mono_l : ∀ k, (∀ y0 y1 y2 y3, LeO (snap_Replay.l0 k y0 y1 y2 y3) (snap_Replay.l0 (k + 1) y0 y1 y2 y3)) ∧ (∀ y0 y1 y2 y3 y4, LeO (snap_Replay.j1 k y0 y1 y2 y3 y4) (snap_Replay.j1 (k + 1) y0 y1 y2 y3 y4))
  | 0 => ⟨fun _ _ _ _ r h => by simp [snap_Replay.l0] at h, fun _ _ _ _ _ r h => by simp [snap_Replay.j1] at h⟩
  | k + 1 => by
    obtain ⟨ih0, ih1⟩ := snap_Replay.mono_l k
    refine ⟨?_, ?_⟩
    · intro y0 y1 y2 y3
      unfold snap_Replay.l0
      repeat' first
      | (with_reducible exact ih0 _ _ _ _)
      | (with_reducible exact ih1 _ _ _ _ _)
      | (with_reducible exact LeO.refl _)
      | (with_reducible exact LeO.none _)
      | (with_reducible refine LeO.ite ?_ ?_)
      | (with_reducible refine LeO.bind ?_ (fun _ => ?_))
      | exact ih0 _ _ _ _
      | exact ih1 _ _ _ _ _
      | exact LeO.none _
      | refine LeO.ite ?_ ?_
      | refine LeO.bind ?_ (fun _ => ?_)
    · intro y0 y1 y2 y3 y4
      unfold snap_Replay.j1
      repeat' first
      | (with_reducible exact ih0 _ _ _ _)
      | (with_reducible exact ih1 _ _ _ _ _)
      | (with_reducible exact LeO.refl _)
      | (with_reducible exact LeO.none _)
      | (with_reducible refine LeO.ite ?_ ?_)
      | (with_reducible refine LeO.bind ?_ (fun _ => ?_))
      | exact ih0 _ _ _ _
      | exact ih1 _ _ _ _ _
      | exact LeO.none _
      | refine LeO.ite ?_ ?_
      | refine LeO.bind ?_ (fun _ => ?_)
theorem snap_Replay.mono : ∀ a0 a1 k, LeO (snap_Replay.f k a0 a1) (snap_Replay.f (k + 1) a0 a1) := by
  intro a0 a1 k
  obtain ⟨ih0, ih1⟩ := snap_Replay.mono_l k
  unfold snap_Replay.f
  repeat' first
      | (with_reducible exact ih0 _ _ _ _)
      | (with_reducible exact ih1 _ _ _ _ _)
      | (with_reducible exact LeO.refl _)
      | (with_reducible exact LeO.none _)
      | (with_reducible refine LeO.ite ?_ ?_)
      | (with_reducible refine LeO.bind ?_ (fun _ => ?_))
      | exact ih0 _ _ _ _
      | exact ih1 _ _ _ _ _
      | exact LeO.none _
      | refine LeO.ite ?_ ?_
      | refine LeO.bind ?_ (fun _ => ?_)
set_option maxHeartbeats 8000000 in
set_option maxRecDepth 100000 in
theorem snap_Replay.calls (k : Nat) (a0 : Int) (A1 : Option Addr) (c1 : Nat) (l1 : List ByteArray) (r1 : Int) (r2 : Bool) (w : World) (hr1 : Kd.C Kd.string w A1 l1.length l1) (hc1 : l1.length ≤ c1) (hG : Gl w) (h : snap_Replay.f k a0 l1 = some (r1, r2)) :
    Calls Tryd.prog 15 #[.int .i64 a0, .slice A1 l1.length c1] w fun e w' => e = .returned (.tuple #[.int .i64 r1, .bool r2]) ∧ Below w.heap.size w w' := by
  have HR1 := Aside0.mk hr1
  have HC1 := Aside0.mk hc1
  clear hr1 hc1
  have HB := Aside0.mk (Below.refl w.heap.size w)
  have HG := Aside0.mk hG
  clear hG
  have H : (if a0 < 0 then (some (0, false)) else (snap_Replay.l0 k a0 l1 (l1.length : Int) 0)) = some (r1, r2) := h
  clear h
  by_cases c3 : a0 < 0
  · rw [if_pos c3] at H
    have c3b0 : decide (a0 < 0) = true := decide_eq_true c3
    clear c3
    simp only [Option.some.injEq, Prod.mk.injEq] at H
    obtain ⟨rfl, rfl⟩ := H
    go_enter Tryd.func15, Tryd.ntmps15
    go_wp2
    go_ret2
    exact ⟨by first | rfl | (simp [errW_none, errW_some] <;> rfl) | (simp [*, errW_none, errW_some] <;> rfl), by repeat (first | (with_reducible first | exact HB.out | apply below_alloc | apply pw_below_drewN | apply below_drew1) | exact HB.out)⟩
  · rw [if_neg c3] at H
    have c3b0 : decide (a0 < 0) = false := decide_eq_false c3
    clear c3
    have H' := Aside0.mk H
    clear H
    go_enter Tryd.func15, Tryd.ntmps15
    go_wp2
    go_loopg [6, 18] k (fun kq v6 v18 w' => ∃ (x6_1 : Int) (x18_1 : Int), v6 = .int .i64 x6_1 ∧ v18 = .int .i64 x18_1 ∧ Aside0 (snap_Replay.l0 kq x6_1 l1 (l1.length : Int) x18_1 = some (r1, r2)) ∧ Aside0 (kq ≤ k) ∧ Aside0 (Below w.heap.size w w'))
    case atStart => exact ⟨(a0), (0), (by first | rfl | (simp; done) | (simp [*]; done) | (simp [bne_nil8, beq_nil8]; done)), (by first | rfl | (simp; done) | (simp [*]; done) | (simp [bne_nil8, beq_nil8]; done)), H', ⟨Nat.le_refl _⟩, ⟨by repeat (first | (with_reducible first | exact HB.out | apply below_alloc | apply pw_below_drewN | apply below_drew1) | exact HB.out)⟩⟩
    case round =>
      clear H'
      try clear c1
      try clear p2
      try clear c3
      try clear c3b0
      obtain ⟨x6_1, x18_1, rfl, rfl, HA, HK1, HB⟩ := hrel
      cases gk with
      | zero => exact absurd HA.out (by simp [snap_Replay.l0])
      | succ k1 =>
        have H := HA.out
        clear HA
        simp only [snap_Replay.l0] at H
        by_cases c4 : x18_1 < (l1.length : Int)
        · rw [if_pos c4] at H
          have c4b0 : decide (x18_1 < (l1.length : Int)) = true := decide_eq_true c4
          clear c4
          by_cases c5 : 0 ≤ x18_1
          · rw [if_pos c5] at H
            have c5b0 : decide (0 ≤ x18_1) = true := decide_eq_true c5
            clear c5
            by_cases c6 : x18_1 < (l1.length : Int)
            · rw [if_pos c6] at H
              have c6b0 : decide (x18_1 < (l1.length : Int)) = true := decide_eq_true c6
              clear c6
              replace H := Option.bind_eq_some_iff.mp H
              obtain ⟨⟨t102, t103⟩, A70, H⟩ := H
              replace H : (if t103 = true then (if t102 < 1 then (some (0, false)) else (if t102 > x6_1 then (some (0, false)) else (snap_Replay.j1 k1 (wrap64 (x6_1 - 1)) (rdOf ByteArray.empty l1 x18_1) l1 (l1.length : Int) x18_1))) else (snap_Replay.j1 k1 x6_1 (rdOf ByteArray.empty l1 x18_1) l1 (l1.length : Int) x18_1)) = some (r1, r2) := H
              have A7 := Aside0.mk A70
              clear A70
              have HC8 := Aside0.mk H
              clear H
              have p101 : 0 ≤ (x18_1 : Int) := of_decide_eq_true (by first | (with_reducible assumption) | assumption)
              have q101 : x18_1 < (l1.length : Int) := of_decide_eq_true (by first | (with_reducible assumption) | assumption)
              obtain ⟨ad101, e101, hx101_0⟩ := Kd.at_string HR1.out x18_1 p101 q101
              cases e101
              replace hx101_0 := (HB.out.cell (World.block_lt_of_cell? w _ hx101_0)).trans hx101_0
              replace p101 := eq_true p101
              replace q101 := eq_true q101
              go_upto_if 27 with (first | ((with_reducible refine gate_callee (f := 29) rfl ?_); refine goesL_ (some 24) rfl rfl Tryd.func29 (by kernel_rfl) rfl #[.string (rdOf ByteArray.empty l1 x18_1), .string (⟨#[32, 69, 88, 80, 85, 78, 71, 69]⟩ : ByteArray)] rfl (by (try simp only [List.map_toArray, List.map_cons, List.map_nil]); first | done | rfl | (simp only [List.length_drop, List.length_take]; rfl)) ?_; (with_reducible refine (snap_number.calls (rdOf ByteArray.empty l1 x18_1) (⟨#[32, 69, 88, 80, 85, 78, 71, 69]⟩ : ByteArray) t102 t103 _ ?side1 A7.out).mono ?_); (case side1 => exact Gl.below HG.out (by repeat (first | (with_reducible first | exact HB.out | apply below_alloc | apply pw_below_drewN | apply below_drew1) | exact HB.out))); rintro e w9 ⟨rfl, hb⟩; refine ⟨_, rfl, ?_⟩; have n0_ := Aside0.mk (below_step (by repeat (first | (with_reducible first | exact HB.out | apply below_alloc | apply pw_below_drewN | apply below_drew1) | exact HB.out)) hb); clear HB; have HB := n0_; clear n0_; (try clear hb); (try clear hb2); (try clear hk); (try clear hi)))
              (try simp only [Act.put, List.setIfInBounds_toArray, List.set_cons_zero, List.set_cons_succ])
              go_cut [6] (fun v6 wc => ∃ (kq : Nat) (x6_7 : Int), v6 = .int .i64 x6_7 ∧ Aside0 (snap_Replay.j1 kq x6_7 (rdOf ByteArray.empty l1 x18_1) l1 (l1.length : Int) x18_1 = some (r1, r2)) ∧ Aside0 (kq ≤ k1) ∧ Aside0 (Below w.heap.size w wc))
              case first =>
                have H := HC8.out
                clear HC8
                by_cases c10 : t103 = true
                · subst c10
                  have H1 : (if t102 < 1 then (some (0, false)) else (if t102 > x6_1 then (some (0, false)) else (snap_Replay.j1 k1 (wrap64 (x6_1 - 1)) (rdOf ByteArray.empty l1 x18_1) l1 (l1.length : Int) x18_1))) = some (r1, r2) := by (rw [if_pos rfl] at H) <;> exact H
                  clear H
                  have H := H1
                  clear H1
                  by_cases c11 : t102 < 1
                  · rw [if_pos c11] at H
                    have c11b0 : decide (t102 < 1) = true := decide_eq_true c11
                    clear c11
                    (first | rw [c11b0] | (simp only [i64_w, i32_w]; rw [c11b0]) | skip)
                    simp only [Option.some.injEq, Prod.mk.injEq] at H
                    obtain ⟨rfl, rfl⟩ := H
                    go_wp2
                    go_ret2
                    exact ⟨by first | rfl | (simp [errW_none, errW_some] <;> rfl) | (simp [*, errW_none, errW_some] <;> rfl), by repeat (first | (with_reducible first | exact HB.out | apply below_alloc | apply pw_below_drewN | apply below_drew1) | exact HB.out)⟩
                  · rw [if_neg c11] at H
                    have c11b0 : decide (t102 < 1) = false := decide_eq_false c11
                    clear c11
                    (first | rw [c11b0] | (simp only [i64_w, i32_w]; rw [c11b0]) | skip)
                    by_cases c12 : t102 > x6_1
                    · rw [if_pos c12] at H
                      have c12b0 : decide (x6_1 < t102) = true := decide_eq_true c12
                      clear c12
                      simp only [Option.some.injEq, Prod.mk.injEq] at H
                      obtain ⟨rfl, rfl⟩ := H
                      go_wp2
                      go_ret2
                      exact ⟨by first | rfl | (simp [errW_none, errW_some] <;> rfl) | (simp [*, errW_none, errW_some] <;> rfl), by repeat (first | (with_reducible first | exact HB.out | apply below_alloc | apply pw_below_drewN | apply below_drew1) | exact HB.out)⟩
                    · rw [if_neg c12] at H
                      have c12b0 : decide (x6_1 < t102) = false := decide_eq_false c12
                      clear c12
                      have H' := Aside0.mk H
                      clear H
                      go_wp2
                      go_meet
                      case rel => exact ⟨_, (wrap64 (x6_1 - 1)), (by first | rfl | (simp; done) | (simp [*]; done) | (simp [bne_nil8, beq_nil8]; done)), H', ⟨by have := HK1.out; first | omega | exact Nat.le_refl _⟩, ⟨by repeat (first | (with_reducible first | exact HB.out | apply below_alloc | apply pw_below_drewN | apply below_drew1) | exact HB.out)⟩⟩
                · replace c10 := Bool.eq_false_iff.mpr c10
                  subst c10
                  have H1 : (snap_Replay.j1 k1 x6_1 (rdOf ByteArray.empty l1 x18_1) l1 (l1.length : Int) x18_1) = some (r1, r2) := by (rw [if_neg (show ¬ (false = true) by decide)] at H) <;> exact H
                  clear H
                  have H := H1
                  clear H1
                  have H' := Aside0.mk H
                  clear H
                  go_wp2
                  go_meet
                  case rel => exact ⟨_, (x6_1), (by first | rfl | (simp; done) | (simp [*]; done) | (simp [bne_nil8, beq_nil8]; done)), H', ⟨by have := HK1.out; first | omega | exact Nat.le_refl _⟩, ⟨by repeat (first | (with_reducible first | exact HB.out | apply below_alloc | apply pw_below_drewN | apply below_drew1) | exact HB.out)⟩⟩
              case rest =>
                clear HC8
                try clear c1
                try clear p1
                try clear q1
                try clear hx1
                try clear c2
                try clear p2
                try clear c3
                try clear c3b0
                try clear c4
                try clear c4b0
                try clear c5
                try clear c5b0
                try clear c6
                try clear c6b0
                try clear p6
                try clear c10
                try clear p10
                try clear q10
                try clear hx10
                try clear c11
                try clear c11b0
                try clear c12
                try clear c12b0
                try clear hx101_0
                try clear p101
                try clear p2
                try clear q101
                obtain ⟨kq, x6_7, rfl, HA, HJ7, HB⟩ := hcut
                cases kq with
                | zero => exact absurd HA.out (by simp [snap_Replay.j1])
                | succ kj7 =>
                  have H := HA.out
                  clear HA
                  simp only [snap_Replay.j1] at H
                  replace H := Option.bind_eq_some_iff.mp H
                  obtain ⟨⟨t104, t105⟩, A130, H⟩ := H
                  replace H : (if t105 = true then (if t104 < x6_7 then (some (0, false)) else (snap_Replay.l0 kj7 t104 l1 (l1.length : Int) (wrap64 (x18_1 + 1)))) else (snap_Replay.l0 kj7 x6_7 l1 (l1.length : Int) (wrap64 (x18_1 + 1)))) = some (r1, r2) := H
                  have A13 := Aside0.mk A130
                  clear A130
                  by_cases c14 : t105 = true
                  · subst c14
                    have H1 : (if t104 < x6_7 then (some (0, false)) else (snap_Replay.l0 kj7 t104 l1 (l1.length : Int) (wrap64 (x18_1 + 1)))) = some (r1, r2) := by (rw [if_pos rfl] at H) <;> exact H
                    clear H
                    have H := H1
                    clear H1
                    by_cases c15 : t104 < x6_7
                    · rw [if_pos c15] at H
                      have c15b0 : decide (t104 < x6_7) = true := decide_eq_true c15
                      clear c15
                      simp only [Option.some.injEq, Prod.mk.injEq] at H
                      obtain ⟨rfl, rfl⟩ := H
                      go_wp2_with (first | ((with_reducible refine gate_callee (f := 29) rfl ?_); refine goesL_ (some 39) rfl rfl Tryd.func29 (by kernel_rfl) rfl #[.string (rdOf ByteArray.empty l1 x18_1), .string (⟨#[32, 69, 88, 73, 83, 84, 83]⟩ : ByteArray)] rfl (by (try simp only [List.map_toArray, List.map_cons, List.map_nil]); first | done | rfl | (simp only [List.length_drop, List.length_take]; rfl)) ?_; (with_reducible refine (snap_number.calls (rdOf ByteArray.empty l1 x18_1) (⟨#[32, 69, 88, 73, 83, 84, 83]⟩ : ByteArray) t104 true _ ?side1 A13.out).mono ?_); (case side1 => exact Gl.below HG.out (by repeat (first | (with_reducible first | exact HB.out | apply below_alloc | apply pw_below_drewN | apply below_drew1) | exact HB.out))); rintro e w16 ⟨rfl, hb⟩; refine ⟨_, rfl, ?_⟩; have n0_ := Aside0.mk (below_step (by repeat (first | (with_reducible first | exact HB.out | apply below_alloc | apply pw_below_drewN | apply below_drew1) | exact HB.out)) hb); clear HB; have HB := n0_; clear n0_; (try clear hb); (try clear hb2); (try clear hk); (try clear hi)))
                      go_ret2
                      exact ⟨by first | rfl | (simp [errW_none, errW_some] <;> rfl) | (simp [*, errW_none, errW_some] <;> rfl), by repeat (first | (with_reducible first | exact HB.out | apply below_alloc | apply pw_below_drewN | apply below_drew1) | exact HB.out)⟩
                    · rw [if_neg c15] at H
                      have c15b0 : decide (t104 < x6_7) = false := decide_eq_false c15
                      clear c15
                      have H' := Aside0.mk H
                      clear H
                      go_wp2_with (first | ((with_reducible refine gate_callee (f := 29) rfl ?_); refine goesL_ (some 39) rfl rfl Tryd.func29 (by kernel_rfl) rfl #[.string (rdOf ByteArray.empty l1 x18_1), .string (⟨#[32, 69, 88, 73, 83, 84, 83]⟩ : ByteArray)] rfl (by (try simp only [List.map_toArray, List.map_cons, List.map_nil]); first | done | rfl | (simp only [List.length_drop, List.length_take]; rfl)) ?_; (with_reducible refine (snap_number.calls (rdOf ByteArray.empty l1 x18_1) (⟨#[32, 69, 88, 73, 83, 84, 83]⟩ : ByteArray) t104 true _ ?side1 A13.out).mono ?_); (case side1 => exact Gl.below HG.out (by repeat (first | (with_reducible first | exact HB.out | apply below_alloc | apply pw_below_drewN | apply below_drew1) | exact HB.out))); rintro e w17 ⟨rfl, hb⟩; refine ⟨_, rfl, ?_⟩; have n0_ := Aside0.mk (below_step (by repeat (first | (with_reducible first | exact HB.out | apply below_alloc | apply pw_below_drewN | apply below_drew1) | exact HB.out)) hb); clear HB; have HB := n0_; clear n0_; (try clear hb); (try clear hb2); (try clear hk); (try clear hi)))
                      go_roundg kj7
                      case measure => have := HK1.out; have := HJ7.out; omega
                      case rel => exact ⟨(t104), (wrap64 (x18_1 + 1)), (by first | rfl | (simp; done) | (simp [*]; done) | (simp [bne_nil8, beq_nil8]; done)), (by first | rfl | (simp; done) | (simp [*]; done) | (simp [bne_nil8, beq_nil8]; done)), H', ⟨by have := HK1.out; have := HJ7.out; omega⟩, ⟨by repeat (first | (with_reducible first | exact HB.out | apply below_alloc | apply pw_below_drewN | apply below_drew1) | exact HB.out)⟩⟩
                  · replace c14 := Bool.eq_false_iff.mpr c14
                    subst c14
                    have H1 : (snap_Replay.l0 kj7 x6_7 l1 (l1.length : Int) (wrap64 (x18_1 + 1))) = some (r1, r2) := by (rw [if_neg (show ¬ (false = true) by decide)] at H) <;> exact H
                    clear H
                    have H := H1
                    clear H1
                    have H' := Aside0.mk H
                    clear H
                    go_wp2_with (first | ((with_reducible refine gate_callee (f := 29) rfl ?_); refine goesL_ (some 39) rfl rfl Tryd.func29 (by kernel_rfl) rfl #[.string (rdOf ByteArray.empty l1 x18_1), .string (⟨#[32, 69, 88, 73, 83, 84, 83]⟩ : ByteArray)] rfl (by (try simp only [List.map_toArray, List.map_cons, List.map_nil]); first | done | rfl | (simp only [List.length_drop, List.length_take]; rfl)) ?_; (with_reducible refine (snap_number.calls (rdOf ByteArray.empty l1 x18_1) (⟨#[32, 69, 88, 73, 83, 84, 83]⟩ : ByteArray) t104 false _ ?side1 A13.out).mono ?_); (case side1 => exact Gl.below HG.out (by repeat (first | (with_reducible first | exact HB.out | apply below_alloc | apply pw_below_drewN | apply below_drew1) | exact HB.out))); rintro e w18 ⟨rfl, hb⟩; refine ⟨_, rfl, ?_⟩; have n0_ := Aside0.mk (below_step (by repeat (first | (with_reducible first | exact HB.out | apply below_alloc | apply pw_below_drewN | apply below_drew1) | exact HB.out)) hb); clear HB; have HB := n0_; clear n0_; (try clear hb); (try clear hb2); (try clear hk); (try clear hi)))
                    go_roundg kj7
                    case measure => have := HK1.out; have := HJ7.out; omega
                    case rel => exact ⟨(x6_7), (wrap64 (x18_1 + 1)), (by first | rfl | (simp; done) | (simp [*]; done) | (simp [bne_nil8, beq_nil8]; done)), (by first | rfl | (simp; done) | (simp [*]; done) | (simp [bne_nil8, beq_nil8]; done)), H', ⟨by have := HK1.out; have := HJ7.out; omega⟩, ⟨by repeat (first | (with_reducible first | exact HB.out | apply below_alloc | apply pw_below_drewN | apply below_drew1) | exact HB.out)⟩⟩
            · rw [if_neg c6] at H
              exact absurd H (by simp)
          · rw [if_neg c5] at H
            exact absurd H (by simp)
        · rw [if_neg c4] at H
          have c4b0 : decide (x18_1 < (l1.length : Int)) = false := decide_eq_false c4
          clear c4
          simp only [Option.some.injEq, Prod.mk.injEq] at H
          obtain ⟨rfl, rfl⟩ := H
          go_wp2
          go_ret2
          exact ⟨by first | rfl | (simp [errW_none, errW_some] <;> rfl) | (simp [*, errW_none, errW_some] <;> rfl), by repeat (first | (with_reducible first | exact HB.out | apply below_alloc | apply pw_below_drewN | apply below_drew1) | exact HB.out)⟩

/-! ### frankinglaw25_SnapReplays: function 4 -/
def frankinglaw25_SnapReplays.j0 : Nat → Int → List ByteArray → List ByteArray → Bool → Option (Bool)
  | 0, _, _, _, _ => none
  | k + 1, x0, x1, x2, x22 => if x22 = true then (some true) else ((snap_Replay.f k x0 x1).bind fun bt107 => ((some (([] : List ByteArray) : List ByteArray)).bind fun y109 => (if y109.length + x1.length < 8796093022208 then ((some (y109 ++ x1 : List ByteArray)).bind fun y112 => (if y112.length + x2.length < 8796093022208 then ((snap_Replay.f k x0 (y112 ++ x2)).bind fun bt118 => (if bt107.2 = true then ((snap_Replay.f k bt107.1 x2).bind fun bt120 => (if (bt120.2 == bt118.2) = true then (some (bt120.1 == bt118.1)) else (some false))) else (if bt118.2 = true then (some false) else (if bt107.1 = 0 then (some (bt118.1 == 0)) else (some false))))) else (none))) else (none))))
def frankinglaw25_SnapReplays.f (k : Nat) (a0 : Int) (l1 : List ByteArray) (l2 : List ByteArray) : Option (Bool) := (frankinglaw25_awake.f).bind fun t106 => (if t106 = true then (if (l1.length : Int) > 30 then (frankinglaw25_SnapReplays.j0 k a0 l1 l2 true) else (frankinglaw25_SnapReplays.j0 k a0 l1 l2 (decide ((l2.length : Int) > 30)))) else (some false))
theorem frankinglaw25_SnapReplays.mono_l : ∀ k, (∀ y0 y1 y2 y3, LeO (frankinglaw25_SnapReplays.j0 k y0 y1 y2 y3) (frankinglaw25_SnapReplays.j0 (k + 1) y0 y1 y2 y3))
  | 0 => fun _ _ _ _ r h => by simp [frankinglaw25_SnapReplays.j0] at h
  | k + 1 => by
    have ih0 := frankinglaw25_SnapReplays.mono_l k
    · intro y0 y1 y2 y3
      unfold frankinglaw25_SnapReplays.j0
      repeat' first
      | (with_reducible exact ih0 _ _ _ _)
      | (with_reducible exact snap_Replay.mono _ _ _)
      | (with_reducible exact LeO.refl _)
      | (with_reducible exact LeO.none _)
      | (with_reducible refine LeO.ite ?_ ?_)
      | (with_reducible refine LeO.bind ?_ (fun _ => ?_))
      | exact ih0 _ _ _ _
      | exact snap_Replay.mono _ _ _
      | exact LeO.none _
      | refine LeO.ite ?_ ?_
      | refine LeO.bind ?_ (fun _ => ?_)
theorem frankinglaw25_SnapReplays.mono : ∀ a0 a1 a2 k, LeO (frankinglaw25_SnapReplays.f k a0 a1 a2) (frankinglaw25_SnapReplays.f (k + 1) a0 a1 a2) := by
  intro a0 a1 a2 k
  have ih0 := frankinglaw25_SnapReplays.mono_l k
  unfold frankinglaw25_SnapReplays.f
  repeat' first
      | (with_reducible exact ih0 _ _ _ _)
      | (with_reducible exact snap_Replay.mono _ _ _)
      | (with_reducible exact LeO.refl _)
      | (with_reducible exact LeO.none _)
      | (with_reducible refine LeO.ite ?_ ?_)
      | (with_reducible refine LeO.bind ?_ (fun _ => ?_))
      | exact ih0 _ _ _ _
      | exact snap_Replay.mono _ _ _
      | exact LeO.none _
      | refine LeO.ite ?_ ?_
      | refine LeO.bind ?_ (fun _ => ?_)
set_option maxHeartbeats 8000000 in
set_option maxRecDepth 100000 in
theorem frankinglaw25_SnapReplays.calls (k : Nat) (a0 : Int) (A1 : Option Addr) (c1 : Nat) (l1 : List ByteArray) (A2 : Option Addr) (c2 : Nat) (l2 : List ByteArray) (w : World) (hr1 : Kd.C Kd.string w A1 l1.length l1) (hc1 : l1.length ≤ c1) (hr2 : Kd.C Kd.string w A2 l2.length l2) (hc2 : l2.length ≤ c2) (hG : Gl w) (h : frankinglaw25_SnapReplays.f k a0 l1 l2 = some true) :
    Calls Tryd.prog 4 #[.int .i64 a0, .slice A1 l1.length c1, .slice A2 l2.length c2] w fun e w' => e = .returned (.bool true) ∧ Below w.heap.size w w' := by
  have HR1 := Aside0.mk hr1
  have HC1 := Aside0.mk hc1
  clear hr1 hc1
  have HR2 := Aside0.mk hr2
  have HC2 := Aside0.mk hc2
  clear hr2 hc2
  have HB := Aside0.mk (Below.refl w.heap.size w)
  have HG := Aside0.mk hG
  clear hG
  have H : ((frankinglaw25_awake.f).bind fun t106 => (if t106 = true then (if (l1.length : Int) > 30 then (frankinglaw25_SnapReplays.j0 k a0 l1 l2 true) else (frankinglaw25_SnapReplays.j0 k a0 l1 l2 (decide ((l2.length : Int) > 30)))) else (some false))) = some true := h
  clear h
  replace H := Option.bind_eq_some_iff.mp H
  obtain ⟨t106, A40, H⟩ := H
  replace H : (if t106 = true then (if (l1.length : Int) > 30 then (frankinglaw25_SnapReplays.j0 k a0 l1 l2 true) else (frankinglaw25_SnapReplays.j0 k a0 l1 l2 (decide ((l2.length : Int) > 30)))) else (some false)) = some true := H
  have A4 := Aside0.mk A40
  clear A40
  by_cases c5 : t106 = true
  · subst c5
    have H1 : (if (l1.length : Int) > 30 then (frankinglaw25_SnapReplays.j0 k a0 l1 l2 true) else (frankinglaw25_SnapReplays.j0 k a0 l1 l2 (decide ((l2.length : Int) > 30)))) = some true := by (rw [if_pos rfl] at H) <;> exact H
    clear H
    have H := H1
    clear H1
    have HC6 := Aside0.mk H
    clear H
    go_enter Tryd.func4, Tryd.ntmps4
    go_upto_region 3 with (first | ((with_reducible refine gate_callee (f := 7) rfl ?_); refine goesL_ (some 13) rfl rfl Tryd.func7 (by kernel_rfl) rfl #[] rfl (by (try simp only [List.map_toArray, List.map_cons, List.map_nil]); first | done | rfl | (simp only [List.length_drop, List.length_take]; rfl)) ?_; (with_reducible refine (frankinglaw25_awake.calls  true _ A4.out).mono ?_); rintro e w7 ⟨rfl, hb⟩; refine ⟨_, rfl, ?_⟩; have n0_ := Aside0.mk (below_step (by repeat (first | (with_reducible first | exact HB.out | apply below_alloc | apply pw_below_drewN | apply below_drew1) | exact HB.out)) hb); clear HB; have HB := n0_; clear n0_; (try clear hb); (try clear hb2); (try clear hk); (try clear hi)))
    (try simp only [Act.put, List.setIfInBounds_toArray, List.set_cons_zero, List.set_cons_succ])
    go_cut [22] (fun v22 wc => ∃ (kq : Nat) (x22_5 : Bool), v22 = .bool x22_5 ∧ Aside0 (frankinglaw25_SnapReplays.j0 kq a0 l1 l2 x22_5 = some true) ∧ Aside0 (kq ≤ k) ∧ Aside0 (Below w.heap.size w wc))
    case first =>
      have H := HC6.out
      clear HC6
      by_cases c8 : (l1.length : Int) > 30
      · rw [if_pos c8] at H
        have c8b0 : decide (30 < (l1.length : Int)) = true := decide_eq_true c8
        have c8b1 : decide (30 < l1.length) = true := decide_eq_true (by omega)
        clear c8
        (first | rw [c8b0] | (simp only [i64_w, i32_w]; rw [c8b0]) | skip)
        have H' := Aside0.mk H
        clear H
        go_wp2
        go_meet
        case rel => exact ⟨_, (true), (by first | rfl | (simp; done) | (simp [*]; done) | (simp [bne_nil8, beq_nil8]; done)), H', ⟨by first | omega | exact Nat.le_refl _⟩, ⟨by repeat (first | (with_reducible first | exact HB.out | apply below_alloc | apply pw_below_drewN | apply below_drew1) | exact HB.out)⟩⟩
      · rw [if_neg c8] at H
        have c8b0 : decide (30 < (l1.length : Int)) = false := decide_eq_false c8
        have c8b1 : decide (30 < l1.length) = false := decide_eq_false (by omega)
        clear c8
        (first | rw [c8b0] | (simp only [i64_w, i32_w]; rw [c8b0]) | skip)
        have H' := Aside0.mk H
        clear H
        go_wp2
        go_meet
        case rel => exact ⟨_, (decide ((l2.length : Int) > 30)), (by first | rfl | (simp; done) | (simp [*]; done) | (simp [bne_nil8, beq_nil8]; done)), H', ⟨by first | omega | exact Nat.le_refl _⟩, ⟨by repeat (first | (with_reducible first | exact HB.out | apply below_alloc | apply pw_below_drewN | apply below_drew1) | exact HB.out)⟩⟩
    case rest =>
      clear HC6
      try clear c1
      try clear c2
      try clear p2
      try clear c4
      try clear c5
      try clear c7
      try clear c8
      try clear c8b0
      try clear c8b1
      obtain ⟨kq, x22_5, rfl, HA, HJ5, HB⟩ := hcut
      cases kq with
      | zero => exact absurd HA.out (by simp [frankinglaw25_SnapReplays.j0])
      | succ kj5 =>
        have H := HA.out
        clear HA
        simp only [frankinglaw25_SnapReplays.j0] at H
        by_cases c9 : x22_5 = true
        · subst c9
          have H1 : (some true) = some true := by (rw [if_pos rfl] at H) <;> exact H
          clear H
          have H := H1
          clear H1
          clear H
          go_wp2
          go_ret
          exact ⟨by first | rfl | (simp [errW_none, errW_some] <;> rfl) | (simp [*, errW_none, errW_some] <;> rfl), by repeat (first | (with_reducible first | exact HB.out | apply below_alloc | apply pw_below_drewN | apply below_drew1) | exact HB.out)⟩
        · replace c9 := Bool.eq_false_iff.mpr c9
          subst c9
          have H1 : ((snap_Replay.f kj5 a0 l1).bind fun bt107 => ((some (([] : List ByteArray) : List ByteArray)).bind fun y109 => (if y109.length + l1.length < 8796093022208 then ((some (y109 ++ l1 : List ByteArray)).bind fun y112 => (if y112.length + l2.length < 8796093022208 then ((snap_Replay.f kj5 a0 (y112 ++ l2)).bind fun bt118 => (if bt107.2 = true then ((snap_Replay.f kj5 bt107.1 l2).bind fun bt120 => (if (bt120.2 == bt118.2) = true then (some (bt120.1 == bt118.1)) else (some false))) else (if bt118.2 = true then (some false) else (if bt107.1 = 0 then (some (bt118.1 == 0)) else (some false))))) else (none))) else (none)))) = some true := by (rw [if_neg (show ¬ (false = true) by decide)] at H) <;> exact H
          clear H
          have H := H1
          clear H1
          replace H := Option.bind_eq_some_iff.mp H
          obtain ⟨⟨t107, t108⟩, A100, H⟩ := H
          replace H : ((some (([] : List ByteArray) : List ByteArray)).bind fun y109 => (if y109.length + l1.length < 8796093022208 then ((some (y109 ++ l1 : List ByteArray)).bind fun y112 => (if y112.length + l2.length < 8796093022208 then ((snap_Replay.f kj5 a0 (y112 ++ l2)).bind fun bt118 => (if t108 = true then ((snap_Replay.f kj5 t107 l2).bind fun bt120 => (if (bt120.2 == bt118.2) = true then (some (bt120.1 == bt118.1)) else (some false))) else (if bt118.2 = true then (some false) else (if t107 = 0 then (some (bt118.1 == 0)) else (some false))))) else (none))) else (none))) = some true := H
          have A10 := Aside0.mk A100
          clear A100
          obtain ⟨y109, hy109⟩ : ∃ y_ : List ByteArray, y_ = (([] : List ByteArray)) := ⟨_, rfl⟩
          replace H : (if y109.length + l1.length < 8796093022208 then ((some (y109 ++ l1 : List ByteArray)).bind fun y112 => (if y112.length + l2.length < 8796093022208 then ((snap_Replay.f kj5 a0 (y112 ++ l2)).bind fun bt118 => (if t108 = true then ((snap_Replay.f kj5 t107 l2).bind fun bt120 => (if (bt120.2 == bt118.2) = true then (some (bt120.1 == bt118.1)) else (some false))) else (if bt118.2 = true then (some false) else (if t107 = 0 then (some (bt118.1 == 0)) else (some false))))) else (none))) else (none)) = some true := by first | (rw [hy109]; with_reducible exact H) | (have H2_ := (Option.bind_some _ _).symm.trans H; rw [hy109]; with_reducible exact H2_) | (have H2_ := (Option.bind_some _ _).symm.trans H; with_reducible exact H2_) | with_reducible exact H | (rw [hy109]; exact H) | exact H
          have Ny109 := Aside0.mk hy109
          clear hy109
          by_cases c11 : y109.length + l1.length < 8796093022208
          · rw [if_pos c11] at H
            have LMc11 := Aside0.mk c11
            clear c11
            obtain ⟨y112, hy112⟩ : ∃ y_ : List ByteArray, y_ = (y109 ++ l1) := ⟨_, rfl⟩
            replace H : (if y112.length + l2.length < 8796093022208 then ((snap_Replay.f kj5 a0 (y112 ++ l2)).bind fun bt118 => (if t108 = true then ((snap_Replay.f kj5 t107 l2).bind fun bt120 => (if (bt120.2 == bt118.2) = true then (some (bt120.1 == bt118.1)) else (some false))) else (if bt118.2 = true then (some false) else (if t107 = 0 then (some (bt118.1 == 0)) else (some false))))) else (none)) = some true := by first | (rw [hy112]; with_reducible exact H) | (have H2_ := (Option.bind_some _ _).symm.trans H; rw [hy112]; with_reducible exact H2_) | (have H2_ := (Option.bind_some _ _).symm.trans H; with_reducible exact H2_) | with_reducible exact H | (rw [hy112]; exact H) | exact H
            have Ny112 := Aside0.mk hy112
            clear hy112
            by_cases c12 : y112.length + l2.length < 8796093022208
            · rw [if_pos c12] at H
              have LMc12 := Aside0.mk c12
              clear c12
              obtain ⟨y115, hy115⟩ : ∃ y_ : List ByteArray, y_ = (y112 ++ l2) := ⟨_, rfl⟩
              replace H : ((snap_Replay.f kj5 a0 y115).bind fun bt118 => (if t108 = true then ((snap_Replay.f kj5 t107 l2).bind fun bt120 => (if (bt120.2 == bt118.2) = true then (some (bt120.1 == bt118.1)) else (some false))) else (if bt118.2 = true then (some false) else (if t107 = 0 then (some (bt118.1 == 0)) else (some false))))) = some true := by first | (rw [hy115]; with_reducible exact H) | (have H2_ := (Option.bind_some _ _).symm.trans H; rw [hy115]; with_reducible exact H2_) | (have H2_ := (Option.bind_some _ _).symm.trans H; with_reducible exact H2_) | with_reducible exact H | (rw [hy115]; exact H) | exact H
              have Ny115 := Aside0.mk hy115
              clear hy115
              replace H := Option.bind_eq_some_iff.mp H
              obtain ⟨⟨t118, t119⟩, A130, H⟩ := H
              replace H : (if t108 = true then ((snap_Replay.f kj5 t107 l2).bind fun bt120 => (if (bt120.2 == t119) = true then (some (bt120.1 == t118)) else (some false))) else (if t119 = true then (some false) else (if t107 = 0 then (some (t118 == 0)) else (some false)))) = some true := H
              have A13 := Aside0.mk A130
              clear A130
              by_cases c14 : t108 = true
              · subst c14
                have H1 : ((snap_Replay.f kj5 t107 l2).bind fun bt120 => (if (bt120.2 == t119) = true then (some (bt120.1 == t118)) else (some false))) = some true := by (rw [if_pos rfl] at H) <;> exact H
                clear H
                have H := H1
                clear H1
                replace H := Option.bind_eq_some_iff.mp H
                obtain ⟨⟨t120, t121⟩, A150, H⟩ := H
                replace H : (if (t121 == t119) = true then (some (t120 == t118)) else (some false)) = some true := H
                have A15 := Aside0.mk A150
                clear A150
                by_cases c16 : (t121 == t119) = true
                · rw [if_pos c16] at H
                  have c16b0 : (t121 == t119) = true := c16
                  (try (have c16b1 : decide (t121 = t119) = true := by simpa using c16))
                  (try (have c16b2 : (t121 == t119) = true := by simpa using c16))
                  clear c16
                  have hR_ : ((t120 == t118)) = true := Option.some.inj H
                  go_wp2_with (first | ((with_reducible refine gate_callee (f := 15) rfl ?_); refine goesL_ (some 26) rfl rfl Tryd.func15 (by kernel_rfl) rfl #[.int .i64 a0, .slice A1 l1.length c1] rfl (by (try simp only [List.map_toArray, List.map_cons, List.map_nil]); first | done | rfl | (simp only [List.length_drop, List.length_take]; rfl)) ?_; (with_reducible refine (snap_Replay.calls kj5 a0 _ _ l1 t107 true _ ?side1 ?side2 ?side3 A10.out).mono ?_); (case side1 => repeat (first | exact (Kd.C_below HR1.out HB.out) | (with_reducible refine Kd.C_alloc ?_ _) | (with_reducible refine Kd.C_drewN ?_ _) | (with_reducible refine Kd.C_drew ?_))); (case side2 => exact HC1.out); (case side3 => exact Gl.below HG.out (by repeat (first | (with_reducible first | exact HB.out | apply below_alloc | apply pw_below_drewN | apply below_drew1) | exact HB.out))); rintro e w17 ⟨rfl, hb⟩; refine ⟨_, rfl, ?_⟩; have n0_ := Aside0.mk (below_step (by repeat (first | (with_reducible first | exact HB.out | apply below_alloc | apply pw_below_drewN | apply below_drew1) | exact HB.out)) hb); clear HB; have HB := n0_; clear n0_; (try clear hb); (try clear hb2); (try clear hk); (try clear hi)) | ((with_reducible refine gate_dst (N := 31) rfl ?_); (try (refine gate_guard (by rfl) ?_; dsimp only)); refine Kd.R_lit Kd.string _ 9 ?hg (N := 31) ?hd (xs := ([] : List ByteArray)) (inner := []) (ok := fun _ => True) (okp := fun _ => True) ?hr ?hp (fun _ hk => hk) trivial (Below.refl _ _) (Nat.le_refl _) (by simp) ?_; (case hd => rfl); (case hg => rfl); (case hr => first | (go_simp; done) | (go_simp; rfl)); (case hp => exact (Reps.none _ _)); intro v110 w18 ho19 hb hg_ hnew_; clear hg_ hnew_; (first | rw [← Ny109.out] at ho19 | (simp only [Int.reduceToNat] at ho19; rw [← Ny109.out] at ho19)); have n0_ := Aside0.mk (Kd.R_lower ho19 (below_size (by repeat (first | (with_reducible first | exact HB.out | apply below_alloc | apply pw_below_drewN | apply below_drew1) | exact HB.out)))); have n1_ := Aside0.mk (below_step (by repeat (first | (with_reducible first | exact HB.out | apply below_alloc | apply pw_below_drewN | apply below_drew1) | exact HB.out)) hb); clear HB; have HO111 := n0_; have HB := n1_; clear n0_ n1_; clear hb ho19) | ((with_reducible refine gate_builtin (b := .append) (xs := #[.tmp 31, .tmp 32]) rfl ?_); (try (refine gate_guard (by rfl) ?_; dsimp only)); at_builtin; refine Kd.R_append_rows Kd.string (w0 := w) w.heap.size rfl (.tmp 31) (.tmp 32) 31 9 (.string ⟨#[]⟩) 16 rfl Tryd.underlying31 info9 rfl (by decide) (by omega) v110 y109 l1 _ _ _ (fun _ => True) (fun _ => False) rfl rfl ?aO ?aR (fun _ _ h => h) (fun _ h => h.elim) ?aF ?aB ?aS ?aL ?_; (case aR => repeat (first | exact (Kd.C_below HR1.out HB.out) | (with_reducible refine Kd.C_alloc ?_ _) | (with_reducible refine Kd.C_drewN ?_ _) | (with_reducible refine Kd.C_drew ?_))); (case aB => exact (by repeat (first | (with_reducible first | exact HB.out | apply below_alloc | apply pw_below_drewN | apply below_drew1) | exact HB.out))); (case aF => exact (fun _ _ => trivial)); (case aO => exact (by (with_reducible repeat (first | apply Kd.R_alloc | apply Kd.R_drewN | apply Kd.R_drew)); exact HO111.out)); (case aS => exact (below_size (by repeat (first | (with_reducible first | exact HB.out | apply below_alloc | apply pw_below_drewN | apply below_drew1) | exact HB.out)))); (case aL => have := LMc11.out; omega); intro v113 w20 ho hb hg hat; rw [← Ny112.out] at ho; have n0_ := Aside0.mk (hb); have n1_ := Aside0.mk (ho); clear HB; clear HO111; have HB := n0_; have HO114 := n1_; clear n0_ n1_; clear ho hb hg hat) | ((with_reducible refine gate_builtin (b := .append) (xs := #[.tmp 33, .tmp 34]) rfl ?_); (try (refine gate_guard (by rfl) ?_; dsimp only)); at_builtin; refine Kd.R_append_rows Kd.string (w0 := w) w.heap.size rfl (.tmp 33) (.tmp 34) 31 9 (.string ⟨#[]⟩) 16 rfl Tryd.underlying31 info9 rfl (by decide) (by omega) v113 y112 l2 _ _ _ (fun _ => True) (fun _ => False) rfl rfl ?aO ?aR (fun _ _ h => h) (fun _ h => h.elim) ?aF ?aB ?aS ?aL ?_; (case aR => repeat (first | exact (Kd.C_below HR2.out HB.out) | (with_reducible refine Kd.C_alloc ?_ _) | (with_reducible refine Kd.C_drewN ?_ _) | (with_reducible refine Kd.C_drew ?_))); (case aB => exact (by repeat (first | (with_reducible first | exact HB.out | apply below_alloc | apply pw_below_drewN | apply below_drew1) | exact HB.out))); (case aF => exact (fun _ _ => trivial)); (case aO => exact (by (with_reducible repeat (first | apply Kd.R_alloc | apply Kd.R_drewN | apply Kd.R_drew)); exact HO114.out)); (case aS => exact (below_size (by repeat (first | (with_reducible first | exact HB.out | apply below_alloc | apply pw_below_drewN | apply below_drew1) | exact HB.out)))); (case aL => have := LMc12.out; omega); intro v116 w21 ho hb hg hat; rw [← Ny115.out] at ho; have n0_ := Aside0.mk (hb); have n1_ := Aside0.mk (ho); clear HB; clear HO114; have HB := n0_; have HO117 := n1_; clear n0_ n1_; clear ho hb hg hat; obtain ⟨Ao22, co22, eo22⟩ := Kd.R_slice HO117.out; subst eo22) | ((with_reducible refine gate_callee (f := 15) rfl ?_); refine goesL_ (some 36) rfl rfl Tryd.func15 (by kernel_rfl) rfl #[.int .i64 a0, .slice Ao22 y115.length co22] rfl (by (try simp only [List.map_toArray, List.map_cons, List.map_nil]); first | done | rfl | (simp only [List.length_drop, List.length_take]; rfl)) ?_; (with_reducible refine (snap_Replay.calls kj5 a0 _ _ y115 t118 t119 _ ?side1 ?side2 ?side3 A13.out).mono ?_); (case side1 => repeat (first | exact (Kd.R_reads' HO117.out).2.2 | (with_reducible refine Kd.C_alloc ?_ _) | (with_reducible refine Kd.C_drewN ?_ _) | (with_reducible refine Kd.C_drew ?_))); (case side2 => exact (Kd.R_reads' HO117.out).2.1); (case side3 => exact Gl.below HG.out (by repeat (first | (with_reducible first | exact HB.out | apply below_alloc | apply pw_below_drewN | apply below_drew1) | exact HB.out))); rintro e w23 ⟨rfl, hb⟩; refine ⟨_, rfl, ?_⟩; have n0_ := Aside0.mk (Kd.R_below (by (with_reducible repeat (first | apply Kd.R_alloc | apply Kd.R_drewN | apply Kd.R_drew)); exact HO117.out) hb); have n1_ := Aside0.mk (below_step (by repeat (first | (with_reducible first | exact HB.out | apply below_alloc | apply pw_below_drewN | apply below_drew1) | exact HB.out)) hb); clear HO117; clear HB; have HO117 := n0_; have HB := n1_; clear n0_ n1_; (try clear hb); (try clear hb2); (try clear hk); (try clear hi)) | ((with_reducible refine gate_callee (f := 15) rfl ?_); refine goesL_ (some 54) rfl rfl Tryd.func15 (by kernel_rfl) rfl #[.int .i64 t107, .slice A2 l2.length c2] rfl (by (try simp only [List.map_toArray, List.map_cons, List.map_nil]); first | done | rfl | (simp only [List.length_drop, List.length_take]; rfl)) ?_; (with_reducible refine (snap_Replay.calls kj5 t107 _ _ l2 t120 t121 _ ?side1 ?side2 ?side3 A15.out).mono ?_); (case side1 => repeat (first | exact (Kd.C_below HR2.out HB.out) | (with_reducible refine Kd.C_alloc ?_ _) | (with_reducible refine Kd.C_drewN ?_ _) | (with_reducible refine Kd.C_drew ?_))); (case side2 => exact HC2.out); (case side3 => exact Gl.below HG.out (by repeat (first | (with_reducible first | exact HB.out | apply below_alloc | apply pw_below_drewN | apply below_drew1) | exact HB.out))); rintro e w24 ⟨rfl, hb⟩; refine ⟨_, rfl, ?_⟩; have n0_ := Aside0.mk (Kd.R_below (by (with_reducible repeat (first | apply Kd.R_alloc | apply Kd.R_drewN | apply Kd.R_drew)); exact HO117.out) hb); have n1_ := Aside0.mk (below_step (by repeat (first | (with_reducible first | exact HB.out | apply below_alloc | apply pw_below_drewN | apply below_drew1) | exact HB.out)) hb); clear HO117; clear HB; have HO117 := n0_; have HB := n1_; clear n0_ n1_; (try clear hb); (try clear hb2); (try clear hk); (try clear hi)))
                  go_ret
                  refine ⟨by first | rfl | exact Eq.trans (b := Ending.returned (.bool ((t120 == t118)))) (by first | rfl | (simp [errW_none, errW_some] <;> rfl) | (clear hR_; simp [*, errW_none, errW_some] <;> rfl)) (by rw [hR_]), ?_⟩
                  exact by repeat (first | (with_reducible first | exact HB.out | apply below_alloc | apply pw_below_drewN | apply below_drew1) | exact HB.out)
                · rw [if_neg c16] at H
                  have c16b0 : (t121 == t119) = false := by simpa using c16
                  (try (have c16b1 : decide (t121 = t119) = false := by simpa using c16))
                  (try (have c16b2 : (t121 == t119) = false := by simpa using c16))
                  (try (have c16b3 : ¬ (t121 = t119) := by simpa using c16))
                  clear c16
                  exact absurd (Option.some.inj H) (by decide)
              · replace c14 := Bool.eq_false_iff.mpr c14
                subst c14
                have H1 : (if t119 = true then (some false) else (if t107 = 0 then (some (t118 == 0)) else (some false))) = some true := by (rw [if_neg (show ¬ (false = true) by decide)] at H) <;> exact H
                clear H
                have H := H1
                clear H1
                by_cases c25 : t119 = true
                · subst c25
                  have H1 : (some false) = some true := by (rw [if_pos rfl] at H) <;> exact H
                  clear H
                  have H := H1
                  clear H1
                  exact absurd (Option.some.inj H) (by decide)
                · replace c25 := Bool.eq_false_iff.mpr c25
                  subst c25
                  have H1 : (if t107 = 0 then (some (t118 == 0)) else (some false)) = some true := by (rw [if_neg (show ¬ (false = true) by decide)] at H) <;> exact H
                  clear H
                  have H := H1
                  clear H1
                  by_cases c26 : t107 = 0
                  · rw [if_pos c26] at H
                    have c26b0 : (t107 == 0) = true := beq_iff_eq.mpr c26
                    have c26b1 : (t107 != 0) = false := bne_eq_false_iff_eq.mpr c26
                    clear c26
                    have hR_ : ((t118 == 0)) = true := Option.some.inj H
                    go_wp2_with (first | ((with_reducible refine gate_callee (f := 15) rfl ?_); refine goesL_ (some 26) rfl rfl Tryd.func15 (by kernel_rfl) rfl #[.int .i64 a0, .slice A1 l1.length c1] rfl (by (try simp only [List.map_toArray, List.map_cons, List.map_nil]); first | done | rfl | (simp only [List.length_drop, List.length_take]; rfl)) ?_; (with_reducible refine (snap_Replay.calls kj5 a0 _ _ l1 t107 false _ ?side1 ?side2 ?side3 A10.out).mono ?_); (case side1 => repeat (first | exact (Kd.C_below HR1.out HB.out) | (with_reducible refine Kd.C_alloc ?_ _) | (with_reducible refine Kd.C_drewN ?_ _) | (with_reducible refine Kd.C_drew ?_))); (case side2 => exact HC1.out); (case side3 => exact Gl.below HG.out (by repeat (first | (with_reducible first | exact HB.out | apply below_alloc | apply pw_below_drewN | apply below_drew1) | exact HB.out))); rintro e w27 ⟨rfl, hb⟩; refine ⟨_, rfl, ?_⟩; have n0_ := Aside0.mk (below_step (by repeat (first | (with_reducible first | exact HB.out | apply below_alloc | apply pw_below_drewN | apply below_drew1) | exact HB.out)) hb); clear HB; have HB := n0_; clear n0_; (try clear hb); (try clear hb2); (try clear hk); (try clear hi)) | ((with_reducible refine gate_dst (N := 31) rfl ?_); (try (refine gate_guard (by rfl) ?_; dsimp only)); refine Kd.R_lit Kd.string _ 9 ?hg (N := 31) ?hd (xs := ([] : List ByteArray)) (inner := []) (ok := fun _ => True) (okp := fun _ => True) ?hr ?hp (fun _ hk => hk) trivial (Below.refl _ _) (Nat.le_refl _) (by simp) ?_; (case hd => rfl); (case hg => rfl); (case hr => first | (go_simp; done) | (go_simp; rfl)); (case hp => exact (Reps.none _ _)); intro v110 w28 ho29 hb hg_ hnew_; clear hg_ hnew_; (first | rw [← Ny109.out] at ho29 | (simp only [Int.reduceToNat] at ho29; rw [← Ny109.out] at ho29)); have n0_ := Aside0.mk (Kd.R_lower ho29 (below_size (by repeat (first | (with_reducible first | exact HB.out | apply below_alloc | apply pw_below_drewN | apply below_drew1) | exact HB.out)))); have n1_ := Aside0.mk (below_step (by repeat (first | (with_reducible first | exact HB.out | apply below_alloc | apply pw_below_drewN | apply below_drew1) | exact HB.out)) hb); clear HB; have HO111 := n0_; have HB := n1_; clear n0_ n1_; clear hb ho29) | ((with_reducible refine gate_builtin (b := .append) (xs := #[.tmp 31, .tmp 32]) rfl ?_); (try (refine gate_guard (by rfl) ?_; dsimp only)); at_builtin; refine Kd.R_append_rows Kd.string (w0 := w) w.heap.size rfl (.tmp 31) (.tmp 32) 31 9 (.string ⟨#[]⟩) 16 rfl Tryd.underlying31 info9 rfl (by decide) (by omega) v110 y109 l1 _ _ _ (fun _ => True) (fun _ => False) rfl rfl ?aO ?aR (fun _ _ h => h) (fun _ h => h.elim) ?aF ?aB ?aS ?aL ?_; (case aR => repeat (first | exact (Kd.C_below HR1.out HB.out) | (with_reducible refine Kd.C_alloc ?_ _) | (with_reducible refine Kd.C_drewN ?_ _) | (with_reducible refine Kd.C_drew ?_))); (case aB => exact (by repeat (first | (with_reducible first | exact HB.out | apply below_alloc | apply pw_below_drewN | apply below_drew1) | exact HB.out))); (case aF => exact (fun _ _ => trivial)); (case aO => exact (by (with_reducible repeat (first | apply Kd.R_alloc | apply Kd.R_drewN | apply Kd.R_drew)); exact HO111.out)); (case aS => exact (below_size (by repeat (first | (with_reducible first | exact HB.out | apply below_alloc | apply pw_below_drewN | apply below_drew1) | exact HB.out)))); (case aL => have := LMc11.out; omega); intro v113 w30 ho hb hg hat; rw [← Ny112.out] at ho; have n0_ := Aside0.mk (hb); have n1_ := Aside0.mk (ho); clear HB; clear HO111; have HB := n0_; have HO114 := n1_; clear n0_ n1_; clear ho hb hg hat) | ((with_reducible refine gate_builtin (b := .append) (xs := #[.tmp 33, .tmp 34]) rfl ?_); (try (refine gate_guard (by rfl) ?_; dsimp only)); at_builtin; refine Kd.R_append_rows Kd.string (w0 := w) w.heap.size rfl (.tmp 33) (.tmp 34) 31 9 (.string ⟨#[]⟩) 16 rfl Tryd.underlying31 info9 rfl (by decide) (by omega) v113 y112 l2 _ _ _ (fun _ => True) (fun _ => False) rfl rfl ?aO ?aR (fun _ _ h => h) (fun _ h => h.elim) ?aF ?aB ?aS ?aL ?_; (case aR => repeat (first | exact (Kd.C_below HR2.out HB.out) | (with_reducible refine Kd.C_alloc ?_ _) | (with_reducible refine Kd.C_drewN ?_ _) | (with_reducible refine Kd.C_drew ?_))); (case aB => exact (by repeat (first | (with_reducible first | exact HB.out | apply below_alloc | apply pw_below_drewN | apply below_drew1) | exact HB.out))); (case aF => exact (fun _ _ => trivial)); (case aO => exact (by (with_reducible repeat (first | apply Kd.R_alloc | apply Kd.R_drewN | apply Kd.R_drew)); exact HO114.out)); (case aS => exact (below_size (by repeat (first | (with_reducible first | exact HB.out | apply below_alloc | apply pw_below_drewN | apply below_drew1) | exact HB.out)))); (case aL => have := LMc12.out; omega); intro v116 w31 ho hb hg hat; rw [← Ny115.out] at ho; have n0_ := Aside0.mk (hb); have n1_ := Aside0.mk (ho); clear HB; clear HO114; have HB := n0_; have HO117 := n1_; clear n0_ n1_; clear ho hb hg hat; obtain ⟨Ao32, co32, eo32⟩ := Kd.R_slice HO117.out; subst eo32) | ((with_reducible refine gate_callee (f := 15) rfl ?_); refine goesL_ (some 36) rfl rfl Tryd.func15 (by kernel_rfl) rfl #[.int .i64 a0, .slice Ao32 y115.length co32] rfl (by (try simp only [List.map_toArray, List.map_cons, List.map_nil]); first | done | rfl | (simp only [List.length_drop, List.length_take]; rfl)) ?_; (with_reducible refine (snap_Replay.calls kj5 a0 _ _ y115 t118 false _ ?side1 ?side2 ?side3 A13.out).mono ?_); (case side1 => repeat (first | exact (Kd.R_reads' HO117.out).2.2 | (with_reducible refine Kd.C_alloc ?_ _) | (with_reducible refine Kd.C_drewN ?_ _) | (with_reducible refine Kd.C_drew ?_))); (case side2 => exact (Kd.R_reads' HO117.out).2.1); (case side3 => exact Gl.below HG.out (by repeat (first | (with_reducible first | exact HB.out | apply below_alloc | apply pw_below_drewN | apply below_drew1) | exact HB.out))); rintro e w33 ⟨rfl, hb⟩; refine ⟨_, rfl, ?_⟩; have n0_ := Aside0.mk (Kd.R_below (by (with_reducible repeat (first | apply Kd.R_alloc | apply Kd.R_drewN | apply Kd.R_drew)); exact HO117.out) hb); have n1_ := Aside0.mk (below_step (by repeat (first | (with_reducible first | exact HB.out | apply below_alloc | apply pw_below_drewN | apply below_drew1) | exact HB.out)) hb); clear HO117; clear HB; have HO117 := n0_; have HB := n1_; clear n0_ n1_; (try clear hb); (try clear hb2); (try clear hk); (try clear hi)))
                    go_ret
                    refine ⟨by first | rfl | exact Eq.trans (b := Ending.returned (.bool ((t118 == 0)))) (by first | rfl | (simp [errW_none, errW_some] <;> rfl) | (clear hR_; simp [*, errW_none, errW_some] <;> rfl)) (by rw [hR_]), ?_⟩
                    exact by repeat (first | (with_reducible first | exact HB.out | apply below_alloc | apply pw_below_drewN | apply below_drew1) | exact HB.out)
                  · rw [if_neg c26] at H
                    have c26b0 : (t107 == 0) = false := beq_eq_false_iff_ne.mpr c26
                    have c26b1 : (t107 != 0) = true := bne_iff_ne.mpr c26
                    exact absurd (Option.some.inj H) (by decide)
            · rw [if_neg c12] at H
              exact absurd H (by simp)
          · rw [if_neg c11] at H
            exact absurd H (by simp)
  · replace c5 := Bool.eq_false_iff.mpr c5
    subst c5
    have H1 : (some false) = some true := by (rw [if_neg (show ¬ (false = true) by decide)] at H) <;> exact H
    clear H
    have H := H1
    clear H1
    exact absurd (Option.some.inj H) (by decide)

/-- THE ONE PURE STATEMENT of frankinglaw25_SnapReplays: yours. -/
def frankinglaw25_SnapReplays.Pure : Prop := ∀ (a0 : Int) (l1 : List ByteArray) (l2 : List ByteArray), (Lit.int .i64 a0).wf = true → (l1.length ≤ maxLen ∧ ∀ y_ ∈ l1, y_.size ≤ 140737488351232) → (l2.length ≤ maxLen ∧ ∀ y_ ∈ l2, y_.size ≤ 140737488351232) → ∃ k, frankinglaw25_SnapReplays.f k a0 l1 l2 = some true

end Go.Proofs.YtgciibjlgdhnpaaDoor.X
