/- Searching a text of any bytes for one of some ASCII bytes: strings.IndexAny, strings.IndexRune. -/
import Derived.Shelf.Small.Strs
import Derived.Shelf.Small.Utf8
import Derived.Laws.RangeString
import Derived.Lib.IndexAny
import Derived.Lib.IndexBytes
import Derived.Laws.Runes
import Derived.WalkMore
import Derived.Shelf.RegionOpenPlain
import Derived.BigCall
import Derived.BigGuard
import Derived.Deep.Draws
import Derived.Laws.Strings3
import Derived.Deep.LoopGhost
import Derived.Shelf.Strings.IndexAnyAll
namespace Go.Proofs.Mine
open Go.Proofs Go.Shelf Go.RowKit Go.Lib
variable {P : Program} {ρ : Ren}

theorem decode_wide (s : ByteArray) (pos : Nat) (h : pos < s.size) (ha : 128 ≤ (s[pos]'h).toNat) :
    ∃ c k, Utf8.decode s pos = (c, k) ∧ 128 ≤ c ∧ Utf8.valid (c : Int) = true ∧ 1 ≤ k ∧ pos + k ≤ s.size ∧ ∀ j (hj : j < s.size), pos ≤ j → j < pos + k → 128 ≤ (s[j]'hj).toNat := by
  have get : ∀ k (hk : pos + k < s.size), s.get! (pos + k) = s[pos + k]'hk := fun k hk => by
    simp [ByteArray.get!, getElem!_pos, hk]
    rfl
  have get0 : s.get! (pos + 0) = s[pos]'h := get 0 h
  have cont : ∀ k, (decide (pos + k < s.size) && (s.get! (pos + k)).toNat / 64 == 2) = true → ∃ hk : pos + k < s.size, 128 ≤ (s[pos + k]'hk).toNat ∧ (s[pos + k]'hk).toNat < 192 := by
    intro k hk
    rw [Bool.and_eq_true, decide_eq_true_iff, beq_iff_eq] at hk
    refine ⟨hk.1, ?_⟩
    rw [get k hk.1] at hk
    omega
  have one : ∀ j (hj : j < s.size), pos ≤ j → j < pos + 1 → 128 ≤ (s[j]'hj).toNat := by
    intro j hj h1 h2
    obtain rfl : j = pos := by omega
    exact ha
  have err : ∃ c k, (Utf8.runeError, 1) = (c, k) ∧ 128 ≤ c ∧ Utf8.valid (c : Int) = true ∧ 1 ≤ k ∧ pos + k ≤ s.size ∧ ∀ j (hj : j < s.size), pos ≤ j → j < pos + k → 128 ≤ (s[j]'hj).toNat :=
    ⟨_, _, rfl, by decide, by decide, by omega, by omega, one⟩
  unfold Utf8.decode
  simp only [get0]
  rw [if_neg (by omega)]
  split
  · rename_i h2
    rw [Bool.and_eq_true] at h2
    obtain ⟨k1, l1, u1⟩ := cont 1 h2.2
    rw [get 1 k1]
    have b2 := h2.1
    rw [beq_iff_eq] at b2
    split
    · refine ⟨_, _, rfl, by omega, ?_, by omega, by omega, ?_⟩
      · unfold Utf8.valid
        simp only [Bool.or_eq_true, Bool.and_eq_true, decide_eq_true_eq]
        left
        omega
      · intro j hj h1 h2
        rcases (by omega : j = pos ∨ j = pos + 1) with rfl | rfl
        · exact ha
        · exact l1
    · exact err
  · split
    · rename_i _ h3
      rw [Bool.and_eq_true, Bool.and_eq_true] at h3
      obtain ⟨k1, l1, u1⟩ := cont 1 h3.1.2
      obtain ⟨k2, l2, u2⟩ := cont 2 h3.2
      rw [get 1 k1, get 2 k2]
      split
      · rename_i hv
        rw [Bool.and_eq_true, decide_eq_true_iff] at hv
        refine ⟨_, _, rfl, by omega, hv.2, by omega, by omega, ?_⟩
        intro j hj h1 h2
        rcases (by omega : j = pos ∨ j = pos + 1 ∨ j = pos + 2) with rfl | rfl | rfl
        · exact ha
        · exact l1
        · exact l2
      · exact err
    · split
      · rename_i _ _ h4
        rw [Bool.and_eq_true, Bool.and_eq_true, Bool.and_eq_true] at h4
        obtain ⟨k1, l1, u1⟩ := cont 1 h4.1.1.2
        obtain ⟨k2, l2, u2⟩ := cont 2 h4.1.2
        obtain ⟨k3, l3, u3⟩ := cont 3 h4.2
        rw [get 1 k1, get 2 k2, get 3 k3]
        split
        · rename_i hv
          rw [Bool.and_eq_true, decide_eq_true_iff] at hv
          refine ⟨_, _, rfl, by omega, hv.2, by omega, by omega, ?_⟩
          intro j hj h1 h2
          rcases (by omega : j = pos ∨ j = pos + 1 ∨ j = pos + 2 ∨ j = pos + 3) with rfl | rfl | rfl | rfl
          · exact ha
          · exact l1
          · exact l2
          · exact l3
        · exact err
      · exact err

theorem indexByte_wide {l : List UInt8} {c : UInt8} (h : ∀ b ∈ l, b ≠ c) : Lib.indexByte l c = -1 := by
  have hge := Lib.indexByte_ge l c
  rcases Int.lt_or_le (Lib.indexByte l c) 0 with h0 | h0
  · omega
  · obtain ⟨h1, _⟩ := Lib.indexByte_some (o := (Lib.indexByte l c).toNat) (l := l) (c := c) (by omega)
    exact absurd rfl (h c (List.mem_of_getElem? h1))
theorem last_wide (x : Nat) (h : x < 64) : 128 ≤ (128 + UInt8.ofNat x).toNat := by
  rw [UInt8.toNat_add, UInt8.toNat_ofNat']
  show 128 ≤ (128 + x % 2 ^ 8) % 2 ^ 8
  omega
theorem encode_wide (r : Int) (h : 128 ≤ r) (hv : Utf8.valid r = true) : ∃ l : List UInt8, (Utf8.encode r).data.toList = l ∧ 2 ≤ l.length ∧ l.length ≤ 4 ∧ ∀ b, l.getLast? = some b → 128 ≤ b.toNat := by
  unfold Utf8.encode
  rw [if_pos hv]
  rw [if_neg (by omega)]
  split
  · refine ⟨_, rfl, by simp, by simp, fun b hb => ?_⟩
    simp at hb
    subst hb
    exact last_wide _ (by omega)
  · split
    · refine ⟨_, rfl, by simp, by simp, fun b hb => ?_⟩
      simp at hb
      subst hb
      exact last_wide _ (by omega)
    · refine ⟨_, rfl, by simp, by simp, fun b hb => ?_⟩
      simp at hb
      subst hb
      exact last_wide _ (by omega)

set_option maxHeartbeats 4000000 in
set_option maxRecDepth 1000000 in
theorem indexRune_wide (L : Lays.n152 P ρ) (s : ByteArray) (r : Int) (w : World) (h0 : 128 ≤ r) (hv : Utf8.valid r = true) (hr : r ≠ 65533) (hs : s.size ≤ 9223372036854775807)
    (has : ∀ (j : Nat) b, s.data.toList[j]? = some b → b.toNat < 128) :
    Calls P (ρ.f 152) #[.string s, .int .i32 r] w fun e w' => e = .returned (.int .i64 (-1)) ∧ Below w.heap.size w w' := by
  have t3 := L.t3; have a3 := L.a3; have z3 := L.z3; have v3 := L.v3
  have t4 := L.t4; have a4 := L.a4; have z4 := L.z4; have v4 := L.v4
  have t5 := L.t5; have a5 := L.a5; have z5 := L.z5; have v5 := L.v5
  have t9 := L.t9; have a9 := L.a9; have z9 := L.z9; have v9 := L.v9
  have t21 := L.t21; have a21 := L.a21; have z21 := L.z21; have v21 := L.v21
  have mixed := L.mixed
  have e137 : ∀ args w, (callFunc (ρ.f 137) args).run P w = .ok (.enter (ρ.f 137) args) w := enters_of L.f137 (by kernel_rfl) rfl
  have e119 : ∀ args w, (callFunc (ρ.f 119) args).run P w = .ok (.enter (ρ.f 119) args) w := enters_of L.f119 (by kernel_rfl) rfl
  have c119 := fun w => Any.utf8_ValidRune (P := P) (ρ := ρ) { L with } r w
  have hvr : Lib.validRune r = true := by
    unfold Utf8.valid at hv
    unfold Lib.validRune
    rw [Bool.or_eq_true, Bool.and_eq_true, Bool.and_eq_true] at hv
    simp only [decide_eq_true_eq] at hv ⊢
    omega
  rw [hvr] at c119
  go_enter L.f152, Body.n152_ntmps ρ
  have hr2 : (r == 65533) = false := beq_eq_false_iff_ne.2 hr
  obtain ⟨l, hl, l2, l4, llast⟩ := encode_wide r h0 hv
  obtain ⟨rs, hrs⟩ : ∃ rs, Utf8.encode r = rs := ⟨_, rfl⟩
  rw [hrs] at hl
  obtain ⟨m, hm⟩ : ∃ m, l.length = m + 1 := ⟨l.length - 1, by omega⟩
  have hsz : rs.size = m + 1 := by rw [Lib.size_eq, hl, hm]
  have hmr : m < rs.size := by omega
  obtain ⟨c, hc⟩ : ∃ c : UInt8, rs[m]'hmr = c := ⟨_, rfl⟩
  have hc128 : 128 ≤ c.toNat := by
    refine llast c ?_
    rw [List.getLast?_eq_getElem?, hm, ← hl, ← hc]
    exact Lib.data_getElem? rs m hmr
  have hback : ((c.toNat : Int)).toNat.toUInt8 = c := by simp
  clear hl llast
  have hmz : ((m : Int) + 1 - 1) = m := by omega
  go_wp2_with (go_at_fn (ρ.f 119); refine (c119 _).mono ?_; rintro e w' ⟨rfl, hw⟩; rw [hw])
  apply wp_scope_straight
  go_wp2
  (try simp only [hmz])
  go_loopg [9, 10] 1 (fun g s9 s10 wx => g = 1 ∧ s9 = .int .i64 (m : Int) ∧ s10 = .int .i64 0 ∧ wx = w)
  case atStart => exact ⟨rfl, rfl, rfl, rfl⟩
  case round =>
    obtain ⟨rfl, rfl, rfl, rfl⟩ := hrel
    have hall : ∀ b ∈ s.data.toList, b ≠ c := fun b hb he => by
      obtain ⟨j, hj⟩ := List.getElem?_of_mem hb
      have := has j b hj
      rw [he] at this
      omega
    by_cases hlt : m < s.size
    · obtain ⟨x, hx⟩ : ∃ x : UInt8, s[m]'hlt = x := ⟨_, rfl⟩
      have hx128 : x.toNat < 128 := has m x (by rw [← hx]; exact Lib.data_getElem? s m hlt)
      have hlz : (m : Int) < (s.size : Int) := by omega
      have hne : ((x.toNat : Int) == (c.toNat : Int)) = false := beq_eq_false_iff_ne.2 (by omega)
      have hne' : ((x.toNat : Int) != (c.toNat : Int)) = true := by rw [bne, hne]; rfl
      have hlr : (m : Int) < (rs.size : Int) := by omega
      have hs1 : (m : Int) + 1 ≤ (s.size : Int) := by omega
      have hs2 : (0 : Int) ≤ (m : Int) + 1 := by omega
      have hwr : IntKind.i64.wrap ((m : Int) + 1) = (m : Int) + 1 := wrap_small _ (by omega) (by omega)
      clear hsz
      go_wp2
      apply wp_scope_straight
      go_wp2
      go_region_o
      all_goals go_wp2
      go_region_with_o (
        go_at_fn (ρ.f 137)
        refine (Any.strings_IndexByte { L with } _ _ _).mono ?_
        rintro e w' ⟨rfl, hw⟩
        rw [hw, hback, indexByte_wide (fun b hb => hall b (mem_extract hb))])
      all_goals go_wp2
      all_goals (simp only [Exit.noGoto, Exit.inBlock, Exit.then])
      all_goals (go_ret; exact ⟨rfl, ((Below.refl _ _).drew).drew⟩)
    · have hlz : ¬ ((m : Int) < (s.size : Int)) := by omega
      go_wp2
      go_ret
      exact ⟨rfl, Below.refl _ _⟩

set_option maxHeartbeats 4000000 in
set_option maxRecDepth 1000000 in
theorem indexRune_error (L : Lays.n152 P ρ) (s : ByteArray) (w : World) (has : ∀ (j : Nat) b, s.data.toList[j]? = some b → b.toNat < 128) :
    Calls P (ρ.f 152) #[.string s, .int .i32 65533] w fun e w' => e = .returned (.int .i64 (-1)) ∧ Below w.heap.size w w' := by
  have HA : Aside (∀ (j : Nat) b, s.data.toList[j]? = some b → b.toNat < 128) := has
  clear has
  have t3 := L.t3; have a3 := L.a3; have z3 := L.z3; have v3 := L.v3
  have t4 := L.t4; have a4 := L.a4; have z4 := L.z4; have v4 := L.v4
  have t5 := L.t5; have a5 := L.a5; have z5 := L.z5; have v5 := L.v5
  have t9 := L.t9; have a9 := L.a9; have z9 := L.z9; have v9 := L.v9
  have t21 := L.t21; have a21 := L.a21; have z21 := L.z21; have v21 := L.v21
  go_enter L.f152, Body.n152_ntmps ρ
  go_wp2
  go_loopg [5, 6] s.size (fun g _ _ wx => ∃ i : Nat, i + g = s.size ∧ wx = w.iter s i)
  case atStart => exact ⟨0, by omega, rfl⟩
  case round =>
    obtain ⟨i, hig, rfl⟩ := hrel
    cases gk with
    | zero =>
      obtain rfl : i = s.size := by omega
      have hnx := run_next_end (P := P) w s s.size
      go_wp2
      go_ret
      exact ⟨rfl, (Below.refl _ _).alloc (Nat.le_refl _) _⟩
    | succ g =>
      have hi : i < s.size := by omega
      obtain ⟨x, hx⟩ : ∃ x : UInt8, s[i]'hi = x := ⟨_, rfl⟩
      have hxl : s.data.toList[i]? = some x := by rw [← hx]; exact Lib.data_getElem? s i hi
      have hx128 : x.toNat < 128 := HA.out i x hxl
      have hnx := fun ty => run_next_ascii (P := P) w s i ty hi (by rw [hx]; exact hx128)
      rw [hx] at hnx
      have hne : ((x.toNat : Int) == 65533) = false := beq_eq_false_iff_ne.2 (by omega)
      clear hxl hx
      go_wp2
      go_roundg g
      case measure => omega
      case rel => exact ⟨i + 1, by omega, rfl⟩
theorem indexRune_any (L : Lays.n152 P ρ) (s : ByteArray) (r : Int) (w : World) (h0 : 128 ≤ r) (hv : Utf8.valid r = true) (hs : s.size ≤ 9223372036854775807)
    (has : ∀ (j : Nat) b, s.data.toList[j]? = some b → b.toNat < 128) :
    Calls P (ρ.f 152) #[.string s, .int .i32 r] w fun e w' => e = .returned (.int .i64 (-1)) ∧ Below w.heap.size w w' := by
  by_cases hr : r = 65533
  · subst hr
    exact indexRune_error L s w has
  · exact indexRune_wide L s r w h0 hv hr hs has
/-- An iterator over a text, moved on. -/
def moved (w : World) (B : Nat) (s : ByteArray) (p : Nat) : World := { w with heap := w.heap.setIfInBounds B (.stringIter s p) }
theorem next_any (w : World) (B : Nat) (s : ByteArray) (pos c k : Nat) (ty : TypeId) (hB : w.heap[B]? = some (.stringIter s pos)) (h : pos < s.size) (hd : Utf8.decode s pos = (c, k)) :
    (Instr.next (.pointer (some ⟨B, 0, none⟩)) true ty).run P w = .ok (.tuple #[.bool true, .int .i64 pos, .int .i32 c]) (moved w B s (pos + k)) := by
  simp only [Instr.next, getObj, setObj, Sem.run_bind, Sem.run, hB, Result.andThen, h, if_true, hd]
  simp [goInt, moved]
theorem next_over (w : World) (B : Nat) (s : ByteArray) (pos : Nat) (ty : TypeId) (hB : w.heap[B]? = some (.stringIter s pos)) (h : ¬ pos < s.size) :
    (Instr.next (.pointer (some ⟨B, 0, none⟩)) true ty).run P w = .ok (.tuple #[.bool false]) w := by
  simp [Instr.next, getObj, Sem.run, hB, h]
theorem moved_at {w : World} {B : Nat} {s : ByteArray} {p : Nat} (h : B < w.heap.size) : (moved w B s p).heap[B]? = some (.stringIter s p) := by
  show (w.heap.setIfInBounds B _)[B]? = _
  rw [Array.getElem?_setIfInBounds]
  simp [h]
theorem moved_below {w0 w : World} {B n : Nat} {s : ByteArray} {p : Nat} (h : Below n w0 w) (hB : n ≤ B) : Below n w0 (moved w B s p) :=
  ⟨h.os, h.tape, h.output, by show w0.heap.size ≤ (w.heap.setIfInBounds B _).size; rw [Array.size_setIfInBounds]; exact h.size, fun b hb => by
    show (w.heap.setIfInBounds B _)[b]? = _
    rw [Array.getElem?_setIfInBounds, if_neg (by omega)]
    exact h.block b hb⟩
set_option maxHeartbeats 8000000 in
set_option maxRecDepth 1000000 in
theorem indexAny_short (L : Lays.n153 P ρ) (s chars : ByteArray) (w : World) (h2 : 2 ≤ chars.size) (h8 : s.size ≤ 8) (hcs : chars.size < 4294967281) (hascii : ∀ (j : Nat) b, chars.data.toList[j]? = some b → b.toNat < 128) :
    Calls P (ρ.f 153) #[.string s, .string chars] w fun e w' => e = .returned (.int .i64 (Lib.indexAny s.data.toList chars.data.toList)) ∧ Below w.heap.size w w' := by
  have HA : Aside (∀ (j : Nat) b, chars.data.toList[j]? = some b → b.toNat < 128) := hascii
  clear hascii
  have hemp : chars.toList.isEmpty = false := by
    rw [Lib.toList_data]
    cases h : chars.data.toList with
    | nil => have := Lib.size_eq chars; rw [h, List.length_nil] at this; omega
    | cons _ _ => rfl
  have hn1 : ((chars.size : Int) == 1) = false := beq_eq_false_iff_ne.2 (by omega)
  have h8z : decide ((8 : Int) < (s.size : Int)) = false := decide_eq_false (by omega)
  have t3 := L.t3; have a3 := L.a3; have z3 := L.z3; have v3 := L.v3
  have t4 := L.t4; have a4 := L.a4; have z4 := L.z4; have v4 := L.v4
  have t5 := L.t5; have a5 := L.a5; have z5 := L.z5; have v5 := L.v5
  have t9 := L.t9; have a9 := L.a9; have z9 := L.z9; have v9 := L.v9
  have t21 := L.t21; have a21 := L.a21; have z21 := L.z21; have v21 := L.v21
  have e152 : ∀ args w, (callFunc (ρ.f 152) args).run P w = .ok (.enter (ρ.f 152) args) w := enters_of L.f152 (by kernel_rfl) rfl
  have e226 : ∀ args w, (callFunc (ρ.f 226) args).run P w = .ok (.enter (ρ.f 226) args) w := enters_of L.f226 (by kernel_rfl) rfl
  go_enter L.f153, Body.n153_ntmps ρ
  go_wp2_with (go_at_fn (ρ.f 226); refine (Any.strings_shouldUseASCIISet { L with } _ _).mono ?_; rintro e w' ⟨rfl, hw⟩; rw [hw, h8z])
  go_loopg [9, 10] s.size (fun g _ _ wx => ∃ i : Nat, i ≤ s.size ∧ s.size ≤ i + g ∧ wx.heap[w.heap.size]? = some (.stringIter s i) ∧ Below w.heap.size w wx ∧ Lib.NoAny s.data.toList chars.data.toList i)
  case atStart => exact ⟨0, by omega, by omega, World.iter_heap w s 0, (Below.refl _ _).alloc (Nat.le_refl _) _, Lib.NoAny.zero _ _⟩
  case round =>
    obtain ⟨i, his, hig, hit, hbel, hno⟩ := hrel
    have HN : Aside (Lib.NoAny s.data.toList chars.data.toList i) := hno
    clear hno
    by_cases hi : i < s.size
    · have hBlt : w.heap.size < wr.heap.size := by
        rcases Nat.lt_or_ge w.heap.size wr.heap.size with h | h
        · exact h
        · rw [Array.getElem?_eq_none h] at hit; cases hit
      obtain ⟨g, rfl⟩ : ∃ g, gk = g + 1 := ⟨gk - 1, by omega⟩
      obtain ⟨x, hx⟩ : ∃ x : UInt8, s[i]'hi = x := ⟨_, rfl⟩
      have hxl : s.data.toList[i]? = some x := by rw [← hx]; exact Lib.data_getElem? s i hi
      by_cases hx128 : x.toNat < 128
      · have hnx := fun ty => next_any (P := P) wr w.heap.size s i x.toNat 1 ty hit hi (by rw [decode_ascii s i hi (by rw [hx]; exact hx128), hx])
        have hback : ((x.toNat : Int)).toNat.toUInt8 = x := by simp
        have hat := moved_at (s := s) (p := i + 1) hBlt
        have hb2 := moved_below (s := s) (p := i + 1) hbel (Nat.le_refl _)
        obtain ⟨w2, hw2⟩ : ∃ w2, moved wr w.heap.size s (i + 1) = w2 := ⟨_, rfl⟩
        rw [hw2] at hnx hat hb2
        have Hx : Aside (s.data.toList[i]? = some x) := hxl
        clear hxl hx hw2
        have hcon := Lib.contains_iff_indexByte chars.data.toList x
        cases hin : chars.data.toList.contains x
        · rw [hin] at hcon
          have hlt : ¬ ((0 : Int) ≤ Lib.indexByte chars.data.toList x) := of_decide_eq_false hcon.symm
          clear hcon
          go_wp2_with (go_at_fn (ρ.f 152); refine (Any.strings_IndexRune_ascii { L with } _ _ _ (by omega) (by omega)).mono ?_; rintro e w' ⟨rfl, hw⟩; rw [hw, hback])
          go_roundg g
          case measure => omega
          case rel => exact ⟨i + 1, by omega, by omega, hat, hb2, HN.out.succ Hx.out hin⟩
        · rw [hin] at hcon
          have hge : (0 : Int) ≤ Lib.indexByte chars.data.toList x := of_decide_eq_true hcon.symm
          clear hcon
          go_wp2_with (go_at_fn (ρ.f 152); refine (Any.strings_IndexRune_ascii { L with } _ _ _ (by omega) (by omega)).mono ?_; rintro e w' ⟨rfl, hw⟩; rw [hw, hback])
          go_ret
          exact ⟨by rw [Lib.indexAny_hit HN.out Hx.out hin]; rfl, hb2⟩
      · obtain ⟨c, k, hdec, hc, hval, hk1, hk2, hall⟩ := decode_wide s i hi (by rw [hx]; omega)
        have hnx := fun ty => next_any (P := P) wr w.heap.size s i c k ty hit hi hdec
        have hat := moved_at (s := s) (p := i + k) hBlt
        have hb2 := moved_below (s := s) (p := i + k) hbel (Nat.le_refl _)
        have hsz2 : w.heap.size < (moved wr w.heap.size s (i + k)).heap.size := by
          show _ < (wr.heap.setIfInBounds _ _).size
          rw [Array.size_setIfInBounds]; exact hBlt
        obtain ⟨w2, hw2⟩ : ∃ w2, moved wr w.heap.size s (i + k) = w2 := ⟨_, rfl⟩
        rw [hw2] at hnx hat hb2 hsz2
        have hno2 : Lib.NoAny s.data.toList chars.data.toList (i + k) := by
          intro j b hj hb
          by_cases hji : j < i
          · exact HN.out j b hji hb
          · have hjs : j < s.size := by
              have := (List.getElem?_eq_some_iff.1 hb).1
              rw [← Lib.size_eq] at this
              exact this
            have hbv := hall j hjs (by omega) hj
            rw [Lib.data_getElem? s j hjs] at hb
            cases hb
            cases hcc : chars.data.toList.contains (s[j]'hjs) with
            | false => rfl
            | true =>
              obtain ⟨q, hq⟩ := List.getElem?_of_mem (List.contains_iff_mem.1 hcc)
              have := HA.out q _ hq
              omega
        have HN2 : Aside (Lib.NoAny s.data.toList chars.data.toList (i + k)) := hno2
        have hcz : (128 : Int) ≤ (c : Int) := by omega
        clear hno2 hall hdec hxl hx hw2
        go_wp2_with (go_at_fn (ρ.f 152); refine (indexRune_any { L with } _ _ _ hcz hval (by omega) HA.out).mono ?_; rintro e w' ⟨rfl, hw⟩)
        go_roundg g
        case measure => omega
        case rel => exact ⟨i + k, by omega, by omega, by rw [hw.block _ hsz2]; exact hat, hb2.trans ⟨hw.os, hw.tape, hw.output, hw.size, fun b hb => hw.block b (by omega)⟩, HN2.out⟩
    · obtain rfl : i = s.size := by omega
      have hnx := fun ty => next_over (P := P) wr w.heap.size s s.size ty hit (by omega)
      go_wp2
      go_ret
      exact ⟨by rw [Lib.indexAny_none (by rw [← Lib.size_eq]; exact HN.out)]; rfl, hbel⟩
/-- strings.IndexAny, at any text, for ASCII bytes. -/
theorem indexAny_any (L : Lays.n153 P ρ) (h116 : (P.info? (ρ.t 116)).map (fun i => (i.zero, i.size)) = some (some (.agg (Array.replicate 256 (.bool false))), 256)) (s chars : ByteArray) (w : World) (hs : s.size < 4294967281) (hcs : chars.size < 4294967281)
    (hac : ∀ (j : Nat) b, chars.data.toList[j]? = some b → b.toNat < 128) :
    Calls P (ρ.f 153) #[.string s, .string chars] w fun e w' => e = .returned (.int .i64 (Lib.indexAny s.data.toList chars.data.toList)) ∧ Below w.heap.size w w' := by
  by_cases h0 : chars.size = 0
  · exact (Any.strings_IndexAny_none L s chars w h0).mono fun e w' ⟨h1, h2⟩ => ⟨h1, h2 ▸ Below.refl _ _⟩
  by_cases h1 : chars.size = 1
  · exact (Any.strings_IndexAny_one L s chars w h1 hac).mono fun e w' ⟨h1, h2⟩ => ⟨h1, h2 ▸ Below.refl _ _⟩
  by_cases h8 : s.size ≤ 8
  · exact indexAny_short L s chars w (by omega) h8 hcs hac
  · refine (Any.strings_IndexAny_long L (zero_of_info h116).1 (zero_of_info h116).2 s chars w (by omega) (by omega) hs hcs hac).mono fun e w' ⟨h1, h2⟩ => ⟨h1, ?_⟩
    rw [h2]
    exact ((Below.refl _ _).alloc (Nat.le_refl _) _).alloc (by simp) _
end Go.Proofs.Mine
