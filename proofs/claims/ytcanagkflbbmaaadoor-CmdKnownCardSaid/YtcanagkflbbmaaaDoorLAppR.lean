/- Appends to a slice that was made as one. -/
import Derived.Test.YtcanagkflbbmaaaDoorLLib
set_option linter.unusedVariables false
set_option linter.unusedSimpArgs false
set_option maxRecDepth 100000
set_option maxHeartbeats 8000000
namespace Go.Proofs.YtcanagkflbbmaaaDoor.L
open Go Go.Proofs Go.Dev Go.RowKit
section
variable {H : Heap}
variable {E : Env} {n n0 : Nat} {ρ : Tr} {dst : Option Tmp} {ty : TypeId} {pos : String} {aft : Array Edge} {gd : Option (Nat × Bool)} {tt tu e : TypeId} {a b : Operand} {α : Type} {g : α → DV} {i : TypeInfo} {l xs : List α} {r z G : Nat} {K : DV → Heap → Option Cls → Prop}
/-- An append to a slice that was made as one: its row may be empty. -/
theorem OX.appR (hg : Cel g z) (hx : opd ρ a = .ref r 0 l.length z G l.length) (hr : H[r]? = some (.row ⟨l.map g, z, G, false, some e⟩)) (ha : addOf E.P H e tu (opd ρ b) = some (z, xs.map g)) (hu : E.P.underlying tt = some (.slice e)) (hn : isIntT E.P tu = false) (hi : E.P.info? e = some i)
    (hz : decide (i.size = z ∧ z ≠ 0 ∧ i.bytes ≠ 0 ∧ i.bytes ≤ 256 ∧ i.zero.map (·.cells.size) = some z) = true) (hb : l.length + xs.length < 4000000000)
    (h : ∀ G', lsetK (.row ⟨(l ++ xs).map g, z, G', false, some e⟩) H r fun H' => K (.ref r 0 (l ++ xs).length z G' (l ++ xs).length) H' (some (bif n0.ble r then .A else .W))) : OX E n n0 H ρ ⟨dst, .call { callee := .builtin .append, args := #[a, b], argTypes := #[tt, tu] }, ty, pos, aft, gd⟩ K := by
  obtain ⟨z1, z2, z3, z4, z5⟩ := of_decide_eq_true hz
  simp only [lsetK_eq] at h
  have hbig : (l.length + (xs.map g).length) * i.bytes ≤ bigN := Nat.le_trans (Nat.mul_le_mul (by simp; omega) z4) (show 4000000000 * 256 ≤ bigN by decide)
  have hbad : (z ≠ i.size ∨ z = 0 ∨ i.bytes = 0 ∨ i.zero.map (·.cells.size) ≠ some i.size ∨ (!((xs.map g).all fun d => d.cells.length = z && d.cells.all DV.one)) = true) ↔ False := by
    rw [celAll hg]
    simp [z1, z2, z3, z5]
  have hrl := (List.getElem?_eq_some_iff.1 hr).1
  have hself : ∀ o, H[r]? = some o → H.set r o = H := fun o ho => by
    apply List.ext_getElem?
    intro j
    by_cases e : r = j
    · subst e; rw [List.getElem?_set_self hrl, ho]
    · simp [e]
  by_cases hxs : xs = []
  · subst hxs
    have hk := h G
    rw [List.append_nil, hself _ hr] at hk
    have he : evE E.P H (opd ρ) (.call { callee := .builtin .append, args := #[a, b], argTypes := #[tt, tu] }) = some (.ref r 0 l.length z G l.length, .none) := by
      simp only [evE, List.size_toArray, List.length_cons, List.length_nil, Nat.zero_add, Nat.reduceAdd, and_self, if_true, List.getElem?_toArray, List.getElem?_cons_zero, List.getElem?_cons_succ, hu, hn, Bool.false_eq_true, if_false, hi, ha, hx, hr]
      rw [if_neg (by simpa only [hbad] using id), if_pos ⟨trivial, trivial, trivial, by simp, .inl trivial, by simpa using hbig⟩]
      simp
    cases hbl : n0.ble r with
    | true =>
      rw [hbl] at hk
      exact .rc (Rc.nil he) hk
    | false =>
      rw [hbl] at hk
      exact .rc (Rc.e (eff := .none) he (.inl rfl)) hk
  · have hpos : 0 < xs.length := List.length_pos_iff.2 hxs
    have hemp : (xs.map g).isEmpty = false := by cases xs with | nil => exact absurd rfl hxs | cons => rfl
    have hk := h (G + 1)
    refine .set ?_ hk
    simp only [evE, List.size_toArray, List.length_cons, List.length_nil, Nat.zero_add, Nat.reduceAdd, and_self, if_true, List.getElem?_toArray, List.getElem?_cons_zero, List.getElem?_cons_succ, hu, hn, Bool.false_eq_true, if_false, hi, ha, hx, hr]
    rw [if_neg (by simpa only [hbad] using id), if_pos ⟨trivial, trivial, trivial, by simp, .inl trivial, hbig⟩, if_neg (by simp [hemp]), if_neg (by simp; omega)]
    simp [List.take_of_length_le]
end
theorem Frz.rowT {H : Heap} {α : Type} {g : α → DV} {r z G cl len : Nat} {l q : List α} {fz : Bool} {ty : Option TypeId} (hg : Cel g z) (hr : H[r]? = some (.row ⟨l.map g, z, G, fz, ty⟩)) (hl : len ≤ l.length) (hq : q = l.take len) : Frz H (.ref r 0 len z G cl) (.imm z (q.map g)) [r] := by
  subst hq
  have := Frz.rowG (off := 0) (len := len) (cl := cl) hg hr (by simpa using hl)
  rwa [List.drop_zero] at this
theorem Frz.rowB {H : Heap} {α : Type} {g : α → DV} {r z G cl len : Nat} {q : List α} {fz : Bool} {ty : Option TypeId} (hg : Cel g z) (hr : H[r]? = some (.row ⟨q.map g, z, G, fz, ty⟩)) (hl : len = q.length) : Frz H (.ref r 0 len z G cl) (.imm z (q.map g)) [r] :=
  Frz.rowT hg hr (Nat.le_of_eq hl) (by rw [hl, List.take_length])
theorem Frz.row0 {H : Heap} {r z G cl : Nat} {fz : Bool} {ty : Option TypeId} (hr : H[r]? = some (.row ⟨[], z, G, fz, ty⟩)) : Frz H (.ref r 0 0 z G cl) (.imm z []) [r] :=
  Frz.ref hr rfl rfl (by simp) (by simp; exact FrzC.cel Cel.byte [])
end Go.Proofs.YtcanagkflbbmaaaDoor.L
