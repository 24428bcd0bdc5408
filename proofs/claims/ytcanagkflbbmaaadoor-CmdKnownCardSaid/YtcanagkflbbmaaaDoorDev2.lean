/- What happens to the heap, told once: a new object, and another one at a place. -/
import Derived.Test.YtcanagkflbbmaaaDoorDev1
import Derived.Lib.ConvBytes
import Derived.Laws.MakeOwn
import Derived.Laws.Runes
import Derived.Lib.MakeNoZero
import Derived.Lib.UnsafeStr
import Derived.Laws.Externs
set_option linter.unusedVariables false
set_option linter.unusedSimpArgs false
/- What happens to the heap, told once: a new object, and another one at a place. -/
namespace Go.Dev
variable {P : Program} {S : Nat → Nat → Prop} {μ : Mu} {w w' : World} {H : Heap} {NG : Nat}

def Mu.put (μ : Mu) (r : Nat) (p : Pl) : Mu := fun q => if q = r then some p else μ q

theorem HR.lt (h : HR NG S μ H w) {r : Nat} {p : Pl} (hl : live H r) (hp : μ r = some p) : p.B < w.heap.size := by
  rcases hl with ⟨R, hr⟩ | ⟨es, hr⟩
  · obtain ⟨p', hp', _, _, cs, t, fz, hb, _⟩ := h.row r R hr
    rw [hp] at hp'; cases hp'
    exact (Array.getElem?_eq_some_iff.1 hb).1
  · obtain ⟨p', hp', _, ents, clock, hb, _⟩ := h.map r es hr
    rw [hp] at hp'; cases hp'
    exact (Array.getElem?_eq_some_iff.1 hb).1

theorem HR.globals {S' : Nat → Nat → Prop} {μ' : Mu} {H' : Heap} {base : Nat} (h : HR NG S μ H w) (s : Step base S μ H w S' μ' H' w') : ∀ b, b < NG → w'.heap[b]? = w.heap[b]? := by
  intro b hb
  refine s.frame b (Nat.lt_of_lt_of_le hb h.ng) fun r p hl hp e => ?_
  have := h.lo r p hl hp
  omega

theorem cellAt_frame (h : ∀ b, b < w.heap.size → w'.heap[b]? = w.heap[b]?) {B c : Nat} (hB : B < w.heap.size) : cellAt w' B c = cellAt w B c := by
  simp only [cellAt, h B hB]

theorem RowOK.mono {S' : Nat → Nat → Prop} {μ' : Mu} {R : Row} {p : Pl} (h : RowOK S μ w R p) (hb : w'.heap[p.B]? = w.heap[p.B]?) (hV : ∀ d v, V S μ w d v → V S' μ' w' d v) (hS : ∀ c, S' p.B c → S p.B c) : RowOK S' μ' w' R p := by
  obtain ⟨h1, h2, cs, t, fz, h3, h4, h5, h6, h7, h8⟩ := h
  refine ⟨h1, h2, cs, t, fz, by rw [hb]; exact h3, h4, h5, h6, fun i e he => ⟨(h7 i e he).1, fun j c hj => ?_⟩, fun c hc => h8 c (hS c hc)⟩
  obtain ⟨cv, q1, q2⟩ := (h7 i e he).2 j c hj
  exact ⟨cv, q1, hV _ _ q2⟩

theorem MapOK.mono {S' : Nat → Nat → Prop} {μ' : Mu} {es : List (DV × DV)} {ents : Array MapEntry} (h : MapOK S μ w es ents) (hV : ∀ d v, V S μ w d v → V S' μ' w' d v) : MapOK S' μ' w' es ents :=
  ⟨h.1, fun i e m he hm => by obtain ⟨q1, q2, q3⟩ := h.2 i e m he hm; exact ⟨hV _ _ q1, hV _ _ q2, q3⟩⟩

theorem live_append {o : Ob} {r : Nat} (h : live (H ++ [o]) r) : live H r ∨ r = H.length := by
  by_cases hr : r < H.length
  · left
    rcases h with ⟨R, h⟩ | ⟨es, h⟩ <;> rw [List.getElem?_append_left hr] at h
    · exact .inl ⟨R, h⟩
    · exact .inr ⟨es, h⟩
  · right
    have := live_lt h
    simp at this
    omega

/-- A new object; more is read as data. -/
theorem push_okS {S' : Nat → Nat → Prop} (h : HR NG S μ H w) {o : Ob} {p : Pl} (hS : ∀ B c, S B c → S' B c) (hS' : ∀ B c, S' B c → S B c ∨ w.heap.size ≤ B) (hst : ∀ B c, S' B c → B < w'.heap.size) (hf : ∀ b, b < w.heap.size → w'.heap[b]? = w.heap[b]?) (hsz : w.heap.size ≤ w'.heap.size) (hio : Io w w') (hpB : w.heap.size ≤ p.B)
    (ho : match o with
      | .row R => (∀ d v, V S μ w d v → V S' (μ.put H.length p) w' d v) → RowOK S' (μ.put H.length p) w' R p
      | .map es => p.g = 0 ∧ ∃ ents clock, w'.heap[p.B]? = some (.map ents clock) ∧ ((∀ d v, V S μ w d v → V S' (μ.put H.length p) w' d v) → MapOK S' (μ.put H.length p) w' es ents)
      | .dead => True
      | .slot g sz => p.g = g ∧ p.C = 0 ∧ p.sz = sz) :
    HR NG S' (μ.put H.length p) (H ++ [o]) w' ∧ Step H.length S μ H w S' (μ.put H.length p) (H ++ [o]) w' ∧ (∀ d v, V S μ w d v → V S' (μ.put H.length p) w' d v) := by
  have hput : ∀ r, r ≠ H.length → μ.put H.length p r = μ r := fun r hr => by simp [Mu.put, hr]
  have hself : μ.put H.length p H.length = some p := by simp [Mu.put]
  have hle : MuLe μ (μ.put H.length p) := by
    intro r q hq
    by_cases hr : r = H.length
    · subst hr; rw [h.no _ (Nat.le_refl _)] at hq; cases hq
    · exact ⟨q, by rw [hput r hr]; exact hq, Nat.le_refl _, fun _ => rfl⟩
  have hag : ∀ B c, S B c → cellAt w' B c = cellAt w B c := fun B c hc => cellAt_frame hf (h.st B c hc)
  have hV : ∀ d v, V S μ w d v → V S' (μ.put H.length p) w' d v := fun d v hv => hv.mono hS hle hag
  have hold : ∀ r q, live H r → μ.put H.length p r = some q → μ r = some q ∧ q.B < w.heap.size := fun r q hl hq => by
    have hr : r ≠ H.length := Nat.ne_of_lt (live_lt hl)
    rw [hput r hr] at hq
    exact ⟨hq, h.lt hl hq⟩
  refine ⟨⟨⟨fun r R hr => ?_, fun r es hr => ?_⟩, fun r hr => ?_, fun r r' q q' hl hl' hq hq' e => ?_, fun r q hl hq => ?_, Nat.le_trans h.ng hsz, hst, fun r g sz hr => ?_⟩, ⟨hS, hag, fun r hr q hq => ?_, fun _ => by simp, hsz, fun b hb _ => hf b hb, fun r q hl hq => ?_, fun B c hc => (hS' B c hc).elim .inl fun h => .inr (.inl h), hio⟩, hV⟩
  · by_cases hlt : r < H.length
    · rw [List.getElem?_append_left hlt] at hr
      obtain ⟨q, hq, hrow⟩ := h.row r R hr
      refine ⟨q, by rw [hput r (by omega)]; exact hq, hrow.mono (hf _ (h.lt (.inl ⟨R, hr⟩) hq)) hV (fun c hc => (hS' _ c hc).elim id fun hb => absurd (h.lt (.inl ⟨R, hr⟩) hq) (Nat.not_lt.2 hb))⟩
    · have e : r = H.length := by have := (List.getElem?_eq_some_iff.1 hr).1; simp at this; omega
      subst e
      simp at hr
      subst hr
      exact ⟨p, hself, ho hV⟩
  · by_cases hlt : r < H.length
    · rw [List.getElem?_append_left hlt] at hr
      obtain ⟨q, hq, hg, ents, clock, hb, hm⟩ := h.map r es hr
      refine ⟨q, by rw [hput r (by omega)]; exact hq, hg, ents, clock, by rw [hf _ (h.lt (.inr ⟨es, hr⟩) hq)]; exact hb, hm.mono hV⟩
    · have e : r = H.length := by have := (List.getElem?_eq_some_iff.1 hr).1; simp at this; omega
      subst e
      simp at hr
      subst hr
      obtain ⟨h1, ents, clock, h2, h3⟩ := ho
      exact ⟨p, hself, h1, ents, clock, h2, h3 hV⟩
  · simp at hr
    rw [hput r (by omega)]
    exact h.no r (by omega)
  · rcases live_append hl with h1 | rfl <;> rcases live_append hl' with h2 | rfl
    · obtain ⟨q1, _⟩ := hold r q h1 hq
      obtain ⟨q2, _⟩ := hold r' q' h2 hq'
      exact h.dist r r' q q' h1 h2 q1 q2 e
    · obtain ⟨_, q1⟩ := hold r q h1 hq
      rw [hself] at hq'; cases hq'
      omega
    · obtain ⟨_, q2⟩ := hold r' q' h2 hq'
      rw [hself] at hq; cases hq
      omega
    · rfl
  · rcases live_append hl with h1 | rfl
    · obtain ⟨q1, _⟩ := hold r q h1 hq
      exact h.lo r q h1 q1
    · rw [hself] at hq; cases hq
      exact Nat.le_trans h.ng hpB
  · by_cases hlt : r < H.length
    · rw [List.getElem?_append_left hlt] at hr
      obtain ⟨q, hq, h1⟩ := h.sl r g sz hr
      exact ⟨q, by rw [hput r (by omega)]; exact hq, h1⟩
    · have e : r = H.length := by have := (List.getElem?_eq_some_iff.1 hr).1; simp at this; omega
      subst e
      simp at hr
      subst hr
      exact ⟨p, hself, ho⟩
  · exact ⟨q, by rw [hput r (by omega)]; exact hq, Nat.le_refl _, fun _ => rfl⟩
  · rcases live_append hl with h1 | rfl
    · obtain ⟨q1, _⟩ := hold r q h1 hq
      exact .inr ⟨r, q, h1, q1, rfl⟩
    · rw [hself] at hq; cases hq
      exact .inl hpB

/-- A new object. -/
theorem push_ok (h : HR NG S μ H w) {o : Ob} {p : Pl} (hf : ∀ b, b < w.heap.size → w'.heap[b]? = w.heap[b]?) (hsz : w.heap.size ≤ w'.heap.size) (hio : Io w w') (hpB : w.heap.size ≤ p.B)
    (ho : match o with
      | .row R => (∀ d v, V S μ w d v → V S (μ.put H.length p) w' d v) → RowOK S (μ.put H.length p) w' R p
      | .map es => p.g = 0 ∧ ∃ ents clock, w'.heap[p.B]? = some (.map ents clock) ∧ ((∀ d v, V S μ w d v → V S (μ.put H.length p) w' d v) → MapOK S (μ.put H.length p) w' es ents)
      | .dead => True
      | .slot g sz => p.g = g ∧ p.C = 0 ∧ p.sz = sz) :
    HR NG S (μ.put H.length p) (H ++ [o]) w' ∧ Step H.length S μ H w S (μ.put H.length p) (H ++ [o]) w' ∧ (∀ d v, V S μ w d v → V S (μ.put H.length p) w' d v) :=
  push_okS h (fun _ _ h => h) (fun _ _ h => .inl h) (fun B c hc => Nat.lt_of_lt_of_le (h.st B c hc) hsz) hf hsz hio hpB ho

/-- Nothing new but what is read as data. -/
theorem ext_ok {S' : Nat → Nat → Prop} (h : HR NG S μ H w) (hS : ∀ B c, S B c → S' B c) (hS' : ∀ B c, S' B c → S B c ∨ w.heap.size ≤ B) (hst : ∀ B c, S' B c → B < w'.heap.size)
    (hf : ∀ b, b < w.heap.size → w'.heap[b]? = w.heap[b]?) (hsz : w.heap.size ≤ w'.heap.size) (hio : Io w w') :
    HR NG S' μ H w' ∧ Step H.length S μ H w S' μ H w' ∧ (∀ d v, V S μ w d v → V S' μ w' d v) := by
  have hag : ∀ B c, S B c → cellAt w' B c = cellAt w B c := fun B c hc => cellAt_frame hf (h.st B c hc)
  have hV : ∀ d v, V S μ w d v → V S' μ w' d v := fun d v hv => hv.mono hS (MuLe.refl _) hag
  refine ⟨⟨⟨fun r R hr => ?_, fun r es hr => ?_⟩, h.no, h.dist, h.lo, Nat.le_trans h.ng hsz, hst, h.sl⟩, ⟨hS, hag, fun r _ p hp => ⟨p, hp, Nat.le_refl _, fun _ => rfl⟩, id, hsz, fun b hb _ => hf b hb, fun r p hl hp => .inr ⟨r, p, hl, hp, rfl⟩, fun B c hc => (hS' B c hc).elim .inl fun h => .inr (.inl h), hio⟩, hV⟩
  · obtain ⟨q, hq, hrow⟩ := h.row r R hr
    exact ⟨q, hq, hrow.mono (hf _ (h.lt (.inl ⟨R, hr⟩) hq)) hV (fun c hc => (hS' _ c hc).elim id fun hb => absurd (h.lt (.inl ⟨R, hr⟩) hq) (Nat.not_lt.2 hb))⟩
  · obtain ⟨q, hq, hg, ents, clock, hb, hm⟩ := h.map r es hr
    exact ⟨q, hq, hg, ents, clock, by rw [hf _ (h.lt (.inr ⟨es, hr⟩) hq)]; exact hb, hm.mono hV⟩

theorem live_set {o : Ob} {r q : Nat} (h : live (H.set r o) q) (hr : live H r) : live H q := by
  by_cases e : q = r
  · subst e; exact hr
  · rcases h with ⟨R, h⟩ | ⟨es, h⟩ <;> rw [List.getElem?_set_ne (Ne.symm e)] at h
    · exact .inl ⟨R, h⟩
    · exact .inr ⟨es, h⟩

/-- What was still to come is there. -/
theorem slot_ok (h : HR NG S μ H w) {r g sz : Nat} {R : Row} {p p' : Pl} (hs : H[r]? = some (.slot g sz)) (hp : μ r = some p) (hg : p.g < p'.g) (hB : w.heap.size ≤ p'.B)
    (hf : ∀ b, b < w.heap.size → w'.heap[b]? = w.heap[b]?) (hsz : w.heap.size ≤ w'.heap.size) (hio : Io w w') (ho : (∀ d v, V S μ w d v → V S (μ.put r p') w' d v) → RowOK S (μ.put r p') w' R p') :
    HR NG S (μ.put r p') (H.set r (.row R)) w' ∧ Step H.length S μ H w S (μ.put r p') (H.set r (.row R)) w' ∧ (∀ d v, V S μ w d v → V S (μ.put r p') w' d v) := by
  have hrl : r < H.length := (List.getElem?_eq_some_iff.1 hs).1
  have hput : ∀ q, q ≠ r → μ.put r p' q = μ q := fun q hr => by simp [Mu.put, hr]
  have hself : μ.put r p' r = some p' := by simp [Mu.put]
  have hmu : MuLe μ (μ.put r p') := by
    intro q a ha
    by_cases hq : q = r
    · subst hq
      rw [hp] at ha; cases ha
      exact ⟨p', hself, by omega, fun e => by omega⟩
    · exact ⟨a, by rw [hput q hq]; exact ha, Nat.le_refl _, fun _ => rfl⟩
  have hag : ∀ B c, S B c → cellAt w' B c = cellAt w B c := fun B c hc => cellAt_frame hf (h.st B c hc)
  have hV : ∀ d v, V S μ w d v → V S (μ.put r p') w' d v := fun d v hv => hv.mono (fun _ _ h => h) hmu hag
  have hset : ∀ q, q ≠ r → (H.set r (.row R))[q]? = H[q]? := fun q hq => List.getElem?_set_ne (Ne.symm hq)
  have hsets : (H.set r (.row R))[r]? = some (.row R) := by simp [hrl]
  have hlive : ∀ q, q ≠ r → live (H.set r (.row R)) q → live H q := fun q hq hl => by
    rcases hl with ⟨R', h1⟩ | ⟨es, h1⟩ <;> rw [hset q hq] at h1
    · exact .inl ⟨R', h1⟩
    · exact .inr ⟨es, h1⟩
  refine ⟨⟨⟨fun q R' hq => ?_, fun q es hq => ?_⟩, fun q hq => ?_, fun q q' a a' hla hla' ha ha' e => ?_, fun q a hla ha => ?_, Nat.le_trans h.ng hsz, fun B c hc => Nat.lt_of_lt_of_le (h.st B c hc) hsz, fun q g sz hq => ?_⟩,
    ⟨fun _ _ h => h, hag, fun q _ a ha => hmu q a ha, fun _ => by simp, hsz, fun b hb _ => hf b hb, fun q a hla ha => ?_, fun B c hc => .inl hc, hio⟩, hV⟩
  · by_cases e : q = r
    · subst e
      rw [hsets] at hq
      cases hq
      exact ⟨p', hself, ho hV⟩
    · rw [hset q e] at hq
      obtain ⟨a, ha, hrow⟩ := h.row q R' hq
      exact ⟨a, by rw [hput q e]; exact ha, hrow.mono (hf _ (h.lt (.inl ⟨R', hq⟩) ha)) hV (fun _ h => h)⟩
  · by_cases e : q = r
    · subst e
      rw [hsets] at hq
      cases hq
    · rw [hset q e] at hq
      obtain ⟨a, ha, hga, ents, clock, hb, hm⟩ := h.map q es hq
      exact ⟨a, by rw [hput q e]; exact ha, hga, ents, clock, by rw [hf _ (h.lt (.inr ⟨es, hq⟩) ha)]; exact hb, hm.mono hV⟩
  · simp at hq
    rw [hput q (by omega)]
    exact h.no q hq
  · by_cases e1 : q = r <;> by_cases e2 : q' = r
    · rw [e1, e2]
    · subst e1
      rw [hself] at ha; cases ha
      rw [hput q' e2] at ha'
      have := h.lt (hlive q' e2 hla') ha'
      omega
    · subst e2
      rw [hself] at ha'; cases ha'
      rw [hput q e1] at ha
      have := h.lt (hlive q e1 hla) ha
      omega
    · rw [hput q e1] at ha
      rw [hput q' e2] at ha'
      exact h.dist q q' a a' (hlive q e1 hla) (hlive q' e2 hla') ha ha' e
  · by_cases e1 : q = r
    · subst e1
      rw [hself] at ha; cases ha
      exact Nat.le_trans h.ng hB
    · rw [hput q e1] at ha
      exact h.lo q a (hlive q e1 hla) ha
  · by_cases e : q = r
    · subst e
      rw [hsets] at hq
      cases hq
    · rw [hset q e] at hq
      obtain ⟨a, ha, h1⟩ := h.sl q g sz hq
      exact ⟨a, by rw [hput q e]; exact ha, h1⟩
  · by_cases e1 : q = r
    · subst e1
      rw [hself] at ha; cases ha
      exact .inl hB
    · rw [hput q e1] at ha
      exact .inr ⟨q, a, hlive q e1 hla, ha, rfl⟩
/-- Another object at a place. -/
theorem set_ok (h : HR NG S μ H w) {r : Nat} {o : Ob} {p p' : Pl} (hl : live H r) (hp : μ r = some p) (hg : p.g ≤ p'.g) (hgp : p'.g = p.g → p' = p)
    (hB : p'.B = p.B ∨ w.heap.size ≤ p'.B) (hf : ∀ b, b < w.heap.size → b ≠ p.B → w'.heap[b]? = w.heap[b]?) (hsz : w.heap.size ≤ w'.heap.size) (hio : Io w w') (hag : ∀ B c, S B c → cellAt w' B c = cellAt w B c)
    (ho : match o with
      | .row R => (∀ d v, V S μ w d v → V S (μ.put r p') w' d v) → RowOK S (μ.put r p') w' R p'
      | .map es => p'.g = 0 ∧ ∃ ents clock, w'.heap[p'.B]? = some (.map ents clock) ∧ ((∀ d v, V S μ w d v → V S (μ.put r p') w' d v) → MapOK S (μ.put r p') w' es ents)
      | .dead => True
      | .slot g sz => p'.g = g ∧ p'.C = 0 ∧ p'.sz = sz) :
    HR NG S (μ.put r p') (H.set r o) w' ∧ Step H.length S μ H w S (μ.put r p') (H.set r o) w' ∧ (∀ d v, V S μ w d v → V S (μ.put r p') w' d v) := by
  have hrl := live_lt hl
  have hput : ∀ q, q ≠ r → μ.put r p' q = μ q := fun q hr => by simp [Mu.put, hr]
  have hself : μ.put r p' r = some p' := by simp [Mu.put]
  have hmu : ∀ q a, μ q = some a → ∃ b, μ.put r p' q = some b ∧ a.g ≤ b.g ∧ (b.g = a.g → b = a) := by
    intro q a ha
    by_cases hq : q = r
    · subst hq
      rw [hp] at ha; cases ha
      exact ⟨p', hself, hg, hgp⟩
    · exact ⟨a, by rw [hput q hq]; exact ha, Nat.le_refl _, fun _ => rfl⟩
  have hV : ∀ d v, V S μ w d v → V S (μ.put r p') w' d v := fun d v hv => hv.mono (fun _ _ h => h) hmu hag
  have hne : ∀ q a, q ≠ r → live H q → μ q = some a → a.B ≠ p.B := fun q a hq hla ha e => hq (h.dist q r a p hla hl ha hp e)
  have hset : ∀ q, q ≠ r → (H.set r o)[q]? = H[q]? := fun q hq => List.getElem?_set_ne (Ne.symm hq)
  have hsets : (H.set r o)[r]? = some o := by simp [hrl]
  have hpl : p.B < w.heap.size := h.lt hl hp
  refine ⟨⟨⟨fun q R hq => ?_, fun q es hq => ?_⟩, fun q hq => ?_, fun q q' a a' hla hla' ha ha' e => ?_, fun q a hla ha => ?_, Nat.le_trans h.ng hsz, fun B c hc => Nat.lt_of_lt_of_le (h.st B c hc) hsz, fun q g sz hq => ?_⟩, ⟨fun _ _ h => h, hag, fun q _ a ha => hmu q a ha, fun _ => by simp, hsz, fun b hb hn => hf b hb (Ne.symm (hn r p hl hp)), fun q a hla ha => ?_, fun _ _ h => .inl h, hio⟩, hV⟩
  · by_cases e : q = r
    · subst e
      rw [hsets] at hq
      cases hq
      exact ⟨p', hself, ho hV⟩
    · rw [hset q e] at hq
      obtain ⟨a, ha, hrow⟩ := h.row q R hq
      exact ⟨a, by rw [hput q e]; exact ha, hrow.mono (hf _ (h.lt (.inl ⟨R, hq⟩) ha) (hne q a e (.inl ⟨R, hq⟩) ha)) hV (fun _ h => h)⟩
  · by_cases e : q = r
    · subst e
      rw [hsets] at hq
      cases hq
      obtain ⟨h1, ents, clock, h2, h3⟩ := ho
      exact ⟨p', hself, h1, ents, clock, h2, h3 hV⟩
    · rw [hset q e] at hq
      obtain ⟨a, ha, hga, ents, clock, hb, hm⟩ := h.map q es hq
      exact ⟨a, by rw [hput q e]; exact ha, hga, ents, clock, by rw [hf _ (h.lt (.inr ⟨es, hq⟩) ha) (hne q a e (.inr ⟨es, hq⟩) ha)]; exact hb, hm.mono hV⟩
  · simp at hq
    rw [hput q (by omega)]
    exact h.no q hq
  · have l1 := live_set hla hl
    have l2 := live_set hla' hl
    by_cases e1 : q = r <;> by_cases e2 : q' = r
    · rw [e1, e2]
    · subst e1
      rw [hself] at ha; cases ha
      rw [hput q' e2] at ha'
      have q1 := h.lt l2 ha'
      have q2 := hne q' a' e2 l2 ha'
      rcases hB with hB | hB
      · exact absurd (e.symm.trans hB) q2
      · omega
    · subst e2
      rw [hself] at ha'; cases ha'
      rw [hput q e1] at ha
      have q1 := h.lt l1 ha
      have q2 := hne q a e1 l1 ha
      rcases hB with hB | hB
      · exact absurd (e.trans hB) q2
      · omega
    · rw [hput q e1] at ha
      rw [hput q' e2] at ha'
      exact h.dist q q' a a' l1 l2 ha ha' e
  · have l1 := live_set hla hl
    by_cases e1 : q = r
    · subst e1
      rw [hself] at ha; cases ha
      rcases hB with hB | hB
      · rw [hB]; exact h.lo q p hl hp
      · exact Nat.le_trans h.ng hB
    · rw [hput q e1] at ha
      exact h.lo q a l1 ha
  · by_cases e : q = r
    · subst e
      rw [hsets] at hq
      cases hq
      exact ⟨p', hself, ho⟩
    · rw [hset q e] at hq
      obtain ⟨a, ha, h1⟩ := h.sl q g sz hq
      exact ⟨a, by rw [hput q e]; exact ha, h1⟩
  · have l1 := live_set hla hl
    by_cases e1 : q = r
    · subst e1
      rw [hself] at ha; cases ha
      rcases hB with hB | hB
      · exact .inr ⟨q, p, hl, hp, hB.symm⟩
      · exact .inl hB
    · rw [hput q e1] at ha
      exact .inr ⟨q, a, l1, ha, rfl⟩
end Go.Dev

/- Operations that write to the heap, or make something there: boxes, rows, stores. -/
namespace Go.Dev
variable {P : Program} {S : Nat → Nat → Prop} {μ : Mu} {w w' : World} {H : Heap} {NG : Nat}
variable {g : Operand → DV} {ρ : Operand → Value}

def okE (P : Program) (NG : Nat) (S : Nat → Nat → Prop) (μ : Mu) (H : Heap) (w : World) (ρ : Operand → Value) (o : Oper) (d : DV) (H' : Heap) : Prop :=
  ∃ v w' μ', ((execOp ρ o).run P w = .ok (.value v) w' ∨ (execOp ρ o).run P w = .ok .skip w' ∧ v = undef) ∧ HR NG S μ' H' w' ∧ Step H.length S μ H w S μ' H' w' ∧ (∀ d v, V S μ w d v → V S μ' w' d v) ∧ V S μ' w' d v

theorem okE_of {o : Oper} {d : DV} {H' : Heap} {s : Sem Value} (he : execOp ρ o = do pure (.value (← s)))
    (h : ∃ v w' μ', s.run P w = .ok v w' ∧ HR NG S μ' H' w' ∧ Step H.length S μ H w S μ' H' w' ∧ (∀ d v, V S μ w d v → V S μ' w' d v) ∧ V S μ' w' d v) : okE P NG S μ H w ρ o d H' := by
  obtain ⟨v, w', μ', h1, h2⟩ := h
  exact ⟨v, w', μ', .inl (by rw [he]; simp [h1]), h2⟩

theorem okE_skip {o : Oper} {H' : Heap} {s : Sem Unit} (he : execOp ρ o = do s; pure .skip)
    (h : ∃ w' μ', s.run P w = .ok () w' ∧ HR NG S μ' H' w' ∧ Step H.length S μ H w S μ' H' w' ∧ (∀ d v, V S μ w d v → V S μ' w' d v)) : okE P NG S μ H w ρ o (.tup []) H' := by
  obtain ⟨w', μ', h1, h2, h3, h4⟩ := h
  exact ⟨undef, w', μ', .inr ⟨by rw [he]; simp [h1], rfl⟩, h2, h3, h4, .tup _ _ rfl (fun i c v hc => by simp at hc)⟩

theorem getElem?_push_lt (h : Array Obj) (o : Obj) {b : Nat} (hb : b < h.size) : (h.push o)[b]? = h[b]? := by
  rw [Array.getElem?_push]; simp [Nat.ne_of_lt hb]

theorem alloc_at (w : World) (o : Obj) : (w.alloc o).heap[w.heap.size]? = some o := by
  show (w.heap.push o)[w.heap.size]? = some o
  simp

/-- A new row. -/
theorem newRow_ok (h : HR NG S μ H w) {es : List DV} {sz C : Nat} {cs : Array Value} {t : TypeId} {fz : Nat × Nat} (hf : ∀ b, b < w.heap.size → w'.heap[b]? = w.heap[b]?) (hsz : w.heap.size ≤ w'.heap.size) (hio : Io w w')
    (hb : w'.heap[w.heap.size]? = some (.cells cs t fz)) (hfz : fz.1 = fz.2 ∨ cs.size ≤ fz.1) (hC : es.length ≤ C) (hcs : C * sz ≤ cs.size) (hl : ∀ e ∈ es, e.cells.length = sz)
    (hv : ∀ (i : Nat) (e : DV) (j : Nat) (c : DV), es[i]? = some e → e.cells[j]? = some c → ∃ cv, cs[i * sz + j]? = some cv ∧ V S μ w c cv) :
    HR NG S (μ.put H.length ⟨w.heap.size, 0, C, 0, sz⟩) (H ++ [.row ⟨es, sz, 0, false, some t⟩]) w' ∧ Step H.length S μ H w S (μ.put H.length ⟨w.heap.size, 0, C, 0, sz⟩) (H ++ [.row ⟨es, sz, 0, false, some t⟩]) w' ∧
      (∀ d v, V S μ w d v → V S (μ.put H.length ⟨w.heap.size, 0, C, 0, sz⟩) w' d v) :=
  push_ok h (o := .row ⟨es, sz, 0, false, some t⟩) (p := ⟨w.heap.size, 0, C, 0, sz⟩) hf hsz hio (Nat.le_refl _) fun hV => by
    refine ⟨rfl, rfl, cs, t, fz, hb, hC, by simpa using hcs, ⟨hfz, fun u hu => by cases hu; exact ⟨rfl, Nat.zero_mod _⟩⟩, fun i e he => ⟨hl e (List.mem_of_getElem? he), fun j c hj => ?_⟩, fun c hc => ?_⟩
    · obtain ⟨cv, q1, q2⟩ := hv i e j c he hj
      exact ⟨cv, by simpa using q1, hV _ _ q2⟩
    · exact absurd (h.st _ _ hc) (Nat.lt_irrefl _)

theorem put_self (μ : Mu) (r : Nat) (p : Pl) : μ.put r p r = some p := by simp [Mu.put]

theorem one_elem {x : DV} {v : Value} {n : Nat} (hx : V S μ w x v) (hn : x.cells.length = n) (hn0 : n ≠ 0) (ho : x.cells.all DV.one = true) :
    v.cells.size = n ∧ ∀ (i : Nat) (e : DV) (j : Nat) (c : DV), [x][i]? = some e → e.cells[j]? = some c → ∃ cv, v.cells[i * n + j]? = some cv ∧ V S μ w c cv := by
  have hne : x ≠ .und := by
    intro e
    subst e
    simp [DV.cells, DV.one] at ho
  obtain ⟨q1, q2⟩ := hx.cells hne
  refine ⟨by omega, fun i e j c hi hj => ?_⟩
  cases i with
  | succ i => simp at hi
  | zero =>
    simp at hi
    subst hi
    have hlt := (List.getElem?_eq_some_iff.1 hj).1
    have hvj : v.cells[j]? = some v.cells[j] := Array.getElem?_eq_getElem (by omega)
    exact ⟨_, by simp [hvj], q2 j c _ hj hvj⟩

theorem evE_alloc (h : HR NG S μ H w) {o : Oper} {t : TypeId} {d : DV} {eff : Eff} (ho : o.op = .alloc t) (he : evE P H g o.op = some (d, eff)) : okE P NG S μ H w ρ o d (eff.on H) := by
  rw [ho] at he
  refine okE_of (s := Instr.alloc t true (.tuple #[])) (by simp [execOp, ho]) ?_
  simp only [evE] at he
  split at he
  · rename_i z n hz hn
    split at he
    · rename_i hc
      obtain ⟨c1, c2, c3⟩ := hc
      cases he
      obtain ⟨zv, hzv, rfl, _⟩ := run_zeroT hz w
      have hV := cst_V S μ w 3 zv
      obtain ⟨q1, q2⟩ := one_elem hV c1 c2 c3
      obtain ⟨h1, h2, h3⟩ := newRow_ok (w' := w.alloc (.cells zv.cells t)) h (es := [cst 3 zv]) (sz := n) (C := 1) (fz := (0, 0)) (fun b hb => getElem?_push_lt _ _ hb) (by simp) (by first | exact Io.refl _ | exact ⟨rfl, rfl, rfl, .of (Nat.le_succ _)⟩ | exact ⟨rfl, rfl, rfl, .of (Nat.le_add_right _ 2)⟩) (alloc_at _ _) (.inl rfl) (by simp) (by omega) (by simpa using c1) q2
      refine ⟨.pointer (some ⟨w.heap.size, 0, none⟩), _, _, ?_, h1, h2, h3, ?_⟩
      · simp [Instr.alloc, hzv, newVar, newRow]
      · exact .ptr _ _ _ _ _ _ _ (put_self _ _ _) (Nat.le_refl _) fun _ => ⟨rfl, by simp⟩
    · cases he
  · cases he

theorem evE_box (h : HR NG S μ H w) (hg : ∀ x, V S μ w (g x) (ρ x)) {o : Oper} {t : TypeId} {x : Operand} {d : DV} {eff : Eff} (ho : o.op = .box t x) (he : evE P H g o.op = some (d, eff)) : okE P NG S μ H w ρ o d (eff.on H) := by
  rw [ho] at he
  refine okE_of (s := Instr.box t (ρ x)) (by simp [execOp, ho]) ?_
  simp only [evE] at he
  split at he
  · rename_i n hn
    split at he
    · rename_i hc
      obtain ⟨c1, c2, c3⟩ := hc
      cases he
      obtain ⟨q1, q2⟩ := one_elem (hg x) c1 c2 c3
      obtain ⟨h1, h2, h3⟩ := newRow_ok (w' := w.alloc (.cells (ρ x).cells t)) h (es := [g x]) (sz := n) (C := 1) (fz := (0, 0)) (fun b hb => getElem?_push_lt _ _ hb) (by simp) (by first | exact Io.refl _ | exact ⟨rfl, rfl, rfl, .of (Nat.le_succ _)⟩ | exact ⟨rfl, rfl, rfl, .of (Nat.le_add_right _ 2)⟩) (alloc_at _ _) (.inl rfl) (by simp) (by omega) (by simpa using c1) q2
      refine ⟨.pointer (some ⟨w.heap.size, 0, none⟩), _, _, ?_, h1, h2, h3, ?_⟩
      · simp [Instr.box, newVar, newRow]
      · exact .ptr _ _ _ _ _ _ _ (put_self _ _ _) (Nat.le_refl _) fun _ => ⟨rfl, by simp⟩
    · cases he
  · cases he

/-- Cells written one behind the other. -/
theorem storeRun (b o : Nat) (t : TypeId) (fz : Nat × Nat) : ∀ (vs : List Value) (i : Nat) (cs : Array Value) (w : World), w.heap[b]? = some (.cells cs t fz) → (∀ c, o + i ≤ c → c < o + i + vs.length → ¬ (fz.1 ≤ c ∧ c < fz.2)) → o + i + vs.length ≤ cs.size → (∀ v ∈ vs, v.oneCell' = true) →
    ∃ w' cs', (storeCells ⟨b, o, none⟩ vs i).run P w = .ok () w' ∧ w'.heap[b]? = some (.cells cs' t fz) ∧ cs'.size = cs.size ∧
      (∀ k, cs'[k]? = if o + i ≤ k ∧ k < o + i + vs.length then vs[k - (o + i)]? else cs[k]?) ∧ (∀ b', b' ≠ b → w'.heap[b']? = w.heap[b']?) ∧ w'.heap.size = w.heap.size ∧ Io w w'
  | [], i, cs, w, hb, _, _, _ => ⟨w, cs, rfl, hb, rfl, fun k => by rw [if_neg (by simp)], fun _ _ => rfl, rfl, Io.refl _⟩
  | v :: vs, i, cs, w, hb, hfz, hl, h1 => by
    simp only [List.length_cons] at hfz hl
    have hi : o + i < cs.size := by omega
    have hlt : b < w.heap.size := (Array.getElem?_eq_some_iff.1 hb).1
    have hcell : w.cell? ⟨b, o + i, none⟩ = some cs[o + i] := by simp [World.cell?, hb, hi]
    have hfro : w.frozen? ⟨b, o + i, none⟩ = false := by
      have := hfz (o + i) (by omega) (by omega)
      simp only [World.frozen?, hb]
      simp only [not_and] at this
      by_cases hx : fz.1 ≤ o + i
      · have := this hx
        simp [hx]; omega
      · simp [hx]
    have hst : (store ((⟨b, o, none⟩ : Addr).add i) v).run P w = .ok () (w.setCell ⟨b, o + i, none⟩ v) := by
      rw [Addr.add_lit, run_store P w _ v _ (h1 v (by simp)), hcell]
      simp [hfro]
    have hb1 : (w.setCell ⟨b, o + i, none⟩ v).heap[b]? = some (.cells (cs.setIfInBounds (o + i) v) t fz) := by
      simp [World.setCell, Array.getElem?_modify, hb]
    obtain ⟨w', cs', r1, r2, r3, r4, r5, r6, r7⟩ := storeRun b o t fz vs (i + 1) (cs.setIfInBounds (o + i) v) (w.setCell ⟨b, o + i, none⟩ v) hb1 (fun c hc hc' => hfz c (by omega) (by omega)) (by simp; omega) (fun x hx => h1 x (by simp [hx]))
    refine ⟨w', cs', ?_, r2, by simpa using r3, fun k => ?_, fun b' hb' => ?_, by simpa using r6, r7⟩
    · simp only [storeCells, Sem.run_bind, hst, Result.andThen_ok, r1]
    · rw [r4 k]
      simp only [List.length_cons]
      by_cases hk : k = o + i
      · subst hk
        rw [if_neg (by omega), if_pos (by omega), Array.getElem?_setIfInBounds_self_of_lt hi]
        simp
      · rw [Array.getElem?_setIfInBounds_ne (by omega)]
        by_cases hc : o + (i + 1) ≤ k ∧ k < o + (i + 1) + vs.length
        · rw [if_pos hc, if_pos (by omega), show k - (o + i) = (k - (o + (i + 1))) + 1 by omega]
          simp
        · rw [if_neg hc, if_neg (by omega)]
    · rw [r5 b' hb']
      simp [World.setCell, Array.getElem?_modify, Ne.symm hb']

theorem cells_one {x : DV} {v : Value} (hx : V S μ w x v) (ho : x.cells.all DV.one = true) (hne : x ≠ .und) : ∀ u ∈ v.cells.toList, u.oneCell' = true := by
  intro u hu
  obtain ⟨q1, q2⟩ := hx.cells hne
  obtain ⟨i, hi⟩ := List.getElem?_of_mem hu
  rw [Array.getElem?_toList] at hi
  have hlt : i < x.cells.length := by have := (Array.getElem?_eq_some_iff.1 hi).1; omega
  exact (q2 i _ u (List.getElem?_eq_getElem hlt) hi).one (List.all_eq_true.1 ho _ (List.getElem_mem hlt))

theorem ne_und_of_one {x : DV} (ho : x.cells.all DV.one = true) : x ≠ .und := by
  intro e
  subst e
  simp [DV.cells, DV.one] at ho

theorem evE_store (h : HR NG S μ H w) (hg : ∀ x, V S μ w (g x) (ρ x)) {o : Oper} {t : TypeId} {a x : Operand} {d : DV} {eff : Eff} (ho : o.op = .store t a x) (he : evE P H g o.op = some (d, eff)) : okE P NG S μ H w ρ o d (eff.on H) := by
  rw [ho] at he
  simp only [evE] at he
  have ha := hg a
  have hx := hg x
  split at he
  · rename_i r i off sz gg n hga hn
    split at he
    · rename_i R hr
      split at he
      · rename_i hc
        obtain ⟨c1, c2, c3, c4, c5, c6⟩ := hc
        obtain ⟨e, hei, he⟩ := Option.bind_eq_some_iff.1 he
        split at he
        · rename_i hle
          cases he
          refine okE_skip (s := Instr.storeAt t (ρ a) (ρ x)) (by simp [execOp, ho]) ?_
          rw [hga] at ha
          obtain ⟨p, hp, hrow, hav, hesz, hcells⟩ := h.toHRd.at_ptr hr c1 c2 hei ha
          obtain ⟨h1, h2, cs, ty, fz, h3, h4, h5, h6, h7, h8⟩ := hrow
          have hne := ne_und_of_one c5
          obtain ⟨q1, q2⟩ := hx.cells hne
          have hil := (List.getElem?_eq_some_iff.1 hei).1
          have hroom : p.o + i * sz + sz ≤ cs.size := by
            have : (i + 1) * p.sz ≤ p.C * p.sz := Nat.mul_le_mul_right _ (by omega)
            rw [Nat.add_mul, Nat.one_mul, h2, c2] at this
            rw [h2, c2] at h5
            omega
          obtain ⟨w', cs', r1, r2, r3, r4, r5, r6, r7⟩ := storeRun (P := P) p.B (p.o + i * sz + off) ty fz (ρ x).cells.toList 0 cs w h3 (fun c _ hc => unfr h6 c (by simp at hc; omega)) (by simp; omega) (cells_one hx c5 hne)
          have hnS : ∀ c, ¬ S p.B c := fun c hc => by have := (h8 c hc).1; rw [c3] at this; cases this
          have hold : ∀ k, ¬ (p.o + i * sz + off ≤ k ∧ k < p.o + i * sz + off + n) → cs'[k]? = cs[k]? := fun k hk => by rw [r4 k, if_neg (by simp; omega)]
          obtain ⟨g1, g2, g3⟩ := set_ok (w' := w') h (r := r) (o := .row { R with elems := R.elems.set i (putCells e off (g x)) }) (p := p) (p' := p) (.inl ⟨R, hr⟩) hp (Nat.le_refl _) (fun _ => rfl) (.inl rfl)
            (fun b _ hb => r5 b hb) (by omega) r7 (fun B c hc => by
              by_cases hB : B = p.B
              · subst hB; exact absurd hc (hnS c)
              · simp only [cellAt, r5 B hB])
            (fun hV => by
              refine ⟨h1, h2, cs', ty, fz, r2, by simpa using h4, by rw [r3]; exact h5, by rw [r3]; exact h6, fun k e' hk => ?_, fun c hc => absurd hc (hnS c)⟩
              by_cases hki : k = i
              · subst hki
                rw [List.getElem?_set_self hil] at hk
                have hcell : e'.cells.length = sz ∧ ∀ (j : Nat) (c : DV), e'.cells[j]? = some c → (off ≤ j ∧ j < off + n ∧ (g x).cells[j - off]? = some c) ∨ (¬ (off ≤ j ∧ j < off + n) ∧ e.cells[j]? = some c) := by
                  cases hk
                  cases e with
                  | agg ecs =>
                    simp only [DV.cells] at hle hesz
                    have hlen : (ecs.take off).length = off := by simp; omega
                    refine ⟨by show (setCells ecs off (g x).cells).length = sz; simp [setCells]; omega, fun j c hj => ?_⟩
                    replace hj : (setCells ecs off (g x).cells)[j]? = some c := hj
                    rw [setCells, List.append_assoc] at hj
                    by_cases hj1 : j < off
                    · right
                      rw [List.getElem?_append_left (by omega), List.getElem?_take_of_lt hj1] at hj
                      exact ⟨by omega, hj⟩
                    · rw [List.getElem?_append_right (by omega), hlen] at hj
                      by_cases hj2 : j < off + n
                      · left
                        rw [List.getElem?_append_left (by omega)] at hj
                        exact ⟨by omega, hj2, hj⟩
                      · right
                        rw [List.getElem?_append_right (by omega), List.getElem?_drop] at hj
                        refine ⟨by omega, ?_⟩
                        simp only [DV.cells]
                        rw [← hj]
                        congr 1
                        omega
                  | _ =>
                    have hle' : off + n ≤ 1 := hle
                    have hesz' : 1 = sz := hesz
                    refine ⟨by show (g x).cells.length = sz; omega, fun j c hj => .inl ?_⟩
                    have hlt := (List.getElem?_eq_some_iff.1 hj).1
                    have hlt' : j < (g x).cells.length := hlt
                    have hoff : off = 0 := by omega
                    subst hoff
                    exact ⟨by omega, by omega, hj⟩
                refine ⟨by rw [hcell.1, c2], fun j c hj => ?_⟩
                rcases hcell.2 j c hj with ⟨k1, k2, k3⟩ | ⟨k1, k3⟩
                · have hlt := (List.getElem?_eq_some_iff.1 k3).1
                  have hvj : (ρ x).cells[j - off]? = some (ρ x).cells[j - off] := Array.getElem?_eq_getElem (by omega)
                  refine ⟨(ρ x).cells[j - off], ?_, hV _ _ (q2 _ _ _ k3 hvj)⟩
                  rw [r4, c2, if_pos (by simp; omega), ← hvj, Array.getElem?_toList]
                  congr 1
                  omega
                · obtain ⟨cv, z1, z2⟩ := (h7 _ _ hei).2 j c k3
                  exact ⟨cv, by rw [hold _ (by rw [c2]; omega)]; exact z1, hV _ _ z2⟩
              · rw [List.getElem?_set_ne (Ne.symm hki)] at hk
                refine ⟨(h7 k e' hk).1, fun j c hj => ?_⟩
                obtain ⟨cv, z1, z2⟩ := (h7 k e' hk).2 j c hj
                have hj' := (List.getElem?_eq_some_iff.1 hj).1
                rw [(h7 k e' hk).1] at hj'
                refine ⟨cv, ?_, hV _ _ z2⟩
                rw [hold _ ?_]
                · exact z1
                · rw [c2] at hj' ⊢
                  rcases Nat.lt_or_gt_of_ne hki with hlt | hgt
                  · have : (k + 1) * sz ≤ i * sz := Nat.mul_le_mul_right _ hlt
                    rw [Nat.add_mul, Nat.one_mul] at this
                    omega
                  · have : (i + 1) * sz ≤ k * sz := Nat.mul_le_mul_right _ hgt
                    rw [Nat.add_mul, Nat.one_mul] at this
                    omega)
          refine ⟨w', _, ?_, g1, g2, g3⟩
          have hsz : ((ρ x).cells.size ≠ n) = False := by simp; omega
          simp only [Instr.storeAt, hav, Instr.sureAddr, storeVar, Sem.run_bind, run_sz hn, Result.andThen_ok, Sem.run_pure]
          rw [if_neg (by omega)]
          exact r1
        · cases he
      · cases he
    · cases he
  · cases he
end Go.Dev

/- Operations that write to the heap, or make something there: append, copy. -/
namespace Go.Dev
variable {P : Program} {S : Nat → Nat → Prop} {μ : Mu} {w w' : World} {H : Heap} {NG : Nat}
variable {g : Operand → DV} {ρ : Operand → Value}

theorem isSliceT_spec {t : TypeId} (h : isSliceT P t = true) : ∃ e, P.underlying t = some (.slice e) := by
  unfold isSliceT at h
  split at h
  · rename_i e hu; exact ⟨e, hu⟩
  · cases h
theorem isStrT_spec {t : TypeId} (h : isStrT P t = true) : P.underlying t = some .string := by
  unfold isStrT at h
  split at h
  · assumption
  · cases h
theorem isU8T_spec {t : TypeId} (h : isU8T P t = true) : P.underlying t = some (.int .u8) := by
  unfold isU8T at h
  split at h
  · assumption
  · cases h

theorem isIntT_spec {t : TypeId} (h : isIntT P t = true) : ∃ k, P.underlying t = some (.int k) := by
  unfold isIntT at h
  split at h
  · rename_i k hu; exact ⟨k, hu⟩
  · cases h

/-- Elements' cells in a line. -/
def Flat (S : Nat → Nat → Prop) (μ : Mu) (w : World) (n : Nat) (es : List DV) (news : List Value) : Prop :=
  news.length = es.length * n ∧ (∀ (i : Nat) (e : DV) (j : Nat) (c : DV), es[i]? = some e → e.cells[j]? = some c → j < n → ∃ cv, news[i * n + j]? = some cv ∧ V S μ w c cv)

theorem add_ok (hH : HR NG S μ H w) {e xt : TypeId} {x : DV} {v : Value} {n : Nat} {new : List DV} (h : addOf P H e xt x = some (n, new)) (hv : V S μ w x v) (hn0 : n ≠ 0) (hall : (new.all fun d => d.cells.length = n && d.cells.all DV.one) = true) :
    ∃ news d, P.underlying xt = some d ∧ (∀ k, d ≠ .int k) ∧ Flat S μ w n new news ∧ (∀ u ∈ news, u.oneCell' = true) ∧
      ∀ w0 : World, w0.heap = w.heap → (Builtin.lenOf v).run P w0 = .ok new.length w0 ∧ ∀ m, m ≤ new.length → (Builtin.firstCells n m v).run P w0 = .ok (news.take (m * n)).toArray w0 := by
  have hall' : ∀ d ∈ new, d.cells.length = n ∧ d.cells.all DV.one = true := fun d hd => by
    have := List.all_eq_true.1 hall d hd
    simp only [Bool.and_eq_true, decide_eq_true_eq] at this
    exact this
  unfold addOf at h
  split at h
  · split at h
    · rename_i hu
      split at h
      · cases h
        cases hv
        obtain ⟨d, hxu⟩ := isSliceT_spec hu
        refine ⟨[], _, hxu, fun k e => (by cases e), ⟨by simp, fun i e j c hi => by simp at hi⟩, fun u hu => by simp at hu, fun w0 _ => ⟨by simp [Builtin.lenOf], fun m hm => by simp [Builtin.firstCells]⟩⟩
      · cases h
    · cases h
  · rename_i s
    split at h
    · rename_i hu
      simp only [Bool.and_eq_true] at hu
      cases h
      cases hv
      · have hxu := isStrT_spec hu.1
        refine ⟨s.data.toList.map (fun b => .int .u8 b.toNat), _, hxu, fun k e => (by cases e), ⟨by simp, fun i e j c hi hj hlt => ?_⟩, fun u hu => ?_, fun w0 _ => ⟨?_, fun m hm => ?_⟩⟩
        · have hj0 : j = 0 := by omega
          subst hj0
          simp only [List.getElem?_map, Option.map_eq_some_iff] at hi
          obtain ⟨b, hb, rfl⟩ := hi
          simp [byteDV, DV.cells] at hj
          subst hj
          exact ⟨.int .u8 b.toNat, by simp [hb], .int _ _⟩
        · simp only [List.mem_map] at hu
          obtain ⟨b, _, rfl⟩ := hu
          rfl
        · simp [Builtin.lenOf]
        · simp only [Builtin.firstCells, Sem.run_pure]
          congr 1
          apply Array.ext'
          simp [ByteArray.extract, ByteArray.copySlice, List.map_take]
    · cases h
  · rename_i hne1 hne2
    split at h
    · rename_i hu
      obtain ⟨e0, hxu⟩ := isSliceT_spec hu
      · obtain ⟨a, cap, rfl, hcap, hsz, hcells⟩ := hH.toHRd.elems h hv
        by_cases hnil : new = []
        · subst hnil
          refine ⟨[], _, hxu, fun k e => (by cases e), ⟨by simp, fun i e j c hi => by simp at hi⟩, fun u hu => by simp at hu, fun w0 _ => ⟨by simp [Builtin.lenOf], fun m hm => ?_⟩⟩
          have : m = 0 := by simpa using hm
          subst this
          cases a <;> simp [Builtin.firstCells, loadCells, loadCellsFrom]
        · obtain ⟨B, o, rfl, hc⟩ := hcells hnil
          have hf : ∀ k, k < new.length * n → ∃ cv, cellAt w B (o + k) = some cv ∧ ∀ (e c : DV), new[k / n]? = some e → e.cells[k % n]? = some c → V S μ w c cv ∧ cv.oneCell' = true := by
            intro k hk
            have hn : 0 < n := Nat.pos_of_ne_zero hn0
            have hi : k / n < new.length := (Nat.div_lt_iff_lt_mul hn).2 hk
            have hj : k % n < n := Nat.mod_lt _ hn
            obtain ⟨q1, q2⟩ := hall' new[k / n] (List.getElem_mem hi)
            have hcj : new[k / n].cells[k % n]? = some (new[k / n].cells[k % n]'(by omega)) := List.getElem?_eq_getElem (by omega)
            obtain ⟨cv, r1, r2⟩ := hc (k / n) _ (k % n) _ (List.getElem?_eq_getElem hi) hcj
            refine ⟨cv, ?_, fun e c he hc' => ?_⟩
            · rw [← r1]
              congr 1
              have := Nat.div_add_mod k n
              rw [Nat.mul_comm n] at this
              omega
            · rw [List.getElem?_eq_getElem hi] at he
              cases he
              rw [hcj] at hc'
              cases hc'
              exact ⟨r2, r2.one (List.all_eq_true.1 q2 _ (List.getElem_mem _))⟩
          have hfn : ∀ k, ∃ cv, k < new.length * n → (cellAt w B (o + k) = some cv ∧ ∀ (e c : DV), new[k / n]? = some e → e.cells[k % n]? = some c → V S μ w c cv ∧ cv.oneCell' = true) := by
            intro k
            by_cases hk : k < new.length * n
            · obtain ⟨cv, h⟩ := hf k hk
              exact ⟨cv, fun _ => h⟩
            · exact ⟨undef, fun h => absurd h hk⟩
          obtain ⟨f, hfn⟩ := Classical.axiomOfChoice hfn
          have hn : 0 < n := Nat.pos_of_ne_zero hn0
          refine ⟨(List.range (new.length * n)).map f, _, hxu, fun k e => (by cases e), ⟨by simp, fun i e j c hi hj hlt => ?_⟩, fun u hu => ?_, fun w0 hw0 => ⟨by simp [Builtin.lenOf], fun m hm => ?_⟩⟩
          · have hil := (List.getElem?_eq_some_iff.1 hi).1
            have hk : i * n + j < new.length * n := by
              have : (i + 1) * n ≤ new.length * n := Nat.mul_le_mul_right _ hil
              rw [Nat.add_mul, Nat.one_mul] at this
              omega
            have e1 : (i * n + j) / n = i := by rw [Nat.mul_comm, Nat.mul_add_div hn, Nat.div_eq_of_lt hlt, Nat.add_zero]
            have e2 : (i * n + j) % n = j := by rw [Nat.mul_comm, Nat.mul_add_mod, Nat.mod_eq_of_lt hlt]
            exact ⟨f (i * n + j), by simp [hk], ((hfn _ hk).2 e c (by rw [e1]; exact hi) (by rw [e2]; exact hj)).1⟩
          · simp only [List.mem_map, List.mem_range] at hu
            obtain ⟨k, hk, rfl⟩ := hu
            have hi : k / n < new.length := (Nat.div_lt_iff_lt_mul hn).2 hk
            have hj : k % n < n := Nat.mod_lt _ hn
            obtain ⟨q1, q2⟩ := hall' new[k / n] (List.getElem_mem hi)
            exact ((hfn k hk).2 _ _ (List.getElem?_eq_getElem hi) (List.getElem?_eq_getElem (by omega))).2
          · simp only [Builtin.firstCells]
            have hmn : m * n ≤ new.length * n := Nat.mul_le_mul_right _ hm
            have := run_loadCells (P := P) w0 ⟨B, o, none⟩ (m * n) f (fun j hj => by
              rw [Addr.add_lit, cell_eq]
              simp only [cellAt, hw0]
              exact (hfn j (by omega)).1)
            rw [this]
            congr 2
            rw [← List.map_take, List.take_range, Nat.min_eq_left hmn]
    · cases h

/-- An append that makes a new row. -/
theorem append_grow {t xt ty e : TypeId} {i : TypeInfo} {z : Value} {d : TypeDesc} {base : Option Addr} {sLen sCap : Nat} {x : Value} {n : Nat} {olds news : List Value} (ht : P.underlying t = some (.slice e)) (hx : P.underlying xt = some d) (hd : ∀ k, d ≠ .int k)
    (hi : P.info? e = some i) (hz : i.zero = some z) (hl : ∀ w0 : World, w0.heap = w.heap → (Builtin.lenOf x).run P w0 = .ok n w0) (hf : ∀ w0 : World, w0.heap = w.heap → (Builtin.firstCells i.size n x).run P w0 = .ok news.toArray w0)
    (ho : ∀ w0 : World, w0.heap = w.heap → (Builtin.firstCells i.size sLen (.slice base sLen sCap)).run P w0 = .ok olds.toArray w0) (hg : sCap < sLen + n) (hb : (sLen + n) * i.bytes ≤ bigN) (hb0 : i.bytes ≠ 0) :
    ∃ c rest, sLen + n ≤ c ∧ (Builtin.append_ #[t, xt] ty #[.slice base sLen sCap, x]).run P w = .ok (.slice (some ⟨w.heap.size, 0, none⟩) (sLen + n) c) (w.drew.alloc (.cells (olds.toArray ++ news.toArray ++ rest) e)) ∧ rest.size = (c - (sLen + n)) * z.cells.size := by
  have hle : sLen + n ≤ bigN := Nat.le_trans (Nat.le_mul_of_pos_right _ (Nat.pos_of_ne_zero hb0)) hb
  unfold bigN at hle hb
  refine ⟨grownCap w (sLen + n) sCap e, Builtin.zeroCells z.cells (grownCap w (sLen + n) sCap e - (sLen + n)), ?_, ?_, by simp [Builtin.zeroCells]⟩
  · simp only [grownCap, Question.cut]
    exact Nat.le_add_right _ _
  · have hn : ¬ (sLen + n ≤ sCap) := by omega
    have h63 : ¬ (9223372036854775807 < ((sLen : Int) + (n : Int))) := by omega
    have h48 : ¬ (281474976710656 < Builtin.nextslicecap (sLen + n) sCap * i.bytes) := by
      have := growslice_fits (bytes := i.bytes) hg (by omega)
      omega
    have hzeros : (match d with | .int _ => true | _ => false) = false := by cases d <;> first | rfl | exact absurd rfl (hd _)
    simp only [Builtin.append_]
    simp [run_underlying ht, run_underlying hx, hzeros, sizeOf, typeInfo, zeroValue, hi, hz, hl w rfl, hn, h63, h48, Question.forced, hf w.drew rfl, ho w.drew rfl, newRow, grownCap]
    congr 2
    apply Array.ext'
    simp

/-- An append in place. -/
theorem append_room {t xt ty e : TypeId} {i : TypeInfo} {d : TypeDesc} {a : Addr} {sLen sCap : Nat} {x : Value} {n : Nat} {news : List Value} (ht : P.underlying t = some (.slice e)) (hx : P.underlying xt = some d) (hd : ∀ k, d ≠ .int k)
    (hi : P.info? e = some i) (hl : (Builtin.lenOf x).run P w = .ok n w) (hf : (Builtin.firstCells i.size n x).run P w = .ok news.toArray w) (hg : sLen + n ≤ sCap) :
    (Builtin.append_ #[t, xt] ty #[.slice (some a) sLen sCap, x]).run P w = ((storeCells (a.add (sLen * i.size)) news).run P w).andThen fun _ w' => .ok (.slice (some a) (sLen + n) sCap) w' := by
  have hzeros : (match d with | .int _ => true | _ => false) = false := by cases d <;> first | rfl | exact absurd rfl (hd _)
  simp only [Builtin.append_]
  simp [run_underlying ht, run_underlying hx, hzeros, sizeOf, typeInfo, hi, hl, hf, hg]

/-- An append of so many zeros to nothing. -/
theorem append_zeros {t xt ty e : TypeId} {i : TypeInfo} {z : Value} {k k' : IntKind} {n : Int} (ht : P.underlying t = some (.slice e)) (hx : P.underlying xt = some (.int k))
    (hi : P.info? e = some i) (hz : i.zero = some z) (h0 : 0 < n) (hn : n ≤ bigN) (hb : n * i.bytes ≤ bigN) (hs0 : i.size ≠ 0) (hb0 : i.bytes ≠ 0) :
    ∃ c rest, n.toNat ≤ c ∧ (Builtin.append_ #[t, xt] ty #[.slice none 0 0, .int k' n]).run P w = .ok (.slice (some ⟨w.heap.size, 0, none⟩) n.toNat c) (w.drew.alloc (.cells (Builtin.zeroCells z.cells n.toNat ++ rest) e)) ∧ rest.size = (c - n.toNat) * z.cells.size := by
  unfold bigN at hn hb
  refine ⟨grownCap w n.toNat 0 e, Builtin.zeroCells z.cells (grownCap w n.toNat 0 e - n.toNat), ?_, ?_, by simp [Builtin.zeroCells]⟩
  · simp only [grownCap, Question.cut]
    exact Nat.le_add_right _ _
  · have hw : IntKind.i64.wrap n = n := by
      exact wrap_small n (by omega) (by omega)
    have h63 : ¬ (9223372036854775807 < (n.toNat : Int)) := by omega
    have hnn : ¬ (n < 0) := by omega
    have hb48 : ¬ (281474976710656 < n * (i.bytes : Int)) := by omega
    have hne : ¬ (n.toNat = 0) := by omega
    have hle0 : ¬ (n ≤ 0) := by omega
    have hmx : ¬ (9223372036854775807 < max n 0) := by omega
    have hms : ¬ (n.toNat * i.size = 0) := by
      intro hq
      rcases Nat.mul_eq_zero.1 hq with hq | hq
      · exact hne hq
      · exact hs0 hq
    have hnb : n.toNat * i.bytes ≤ 1099511627776 := by
      have : ((n.toNat * i.bytes : Nat) : Int) = n * i.bytes := by rw [Int.natCast_mul, Int.toNat_of_nonneg (by omega)]
      omega
    have h48 : ¬ (281474976710656 < Builtin.nextslicecap n.toNat 0 * i.bytes) := by
      have := growslice_fits (bytes := i.bytes) (need := n.toNat) (old := 0) (by omega) (by omega)
      omega
    simp only [Builtin.append_]
    simp [run_underlying ht, run_underlying hx, sizeOf, typeInfo, zeroValue, hi, hz, hw, hnn, hb48, hne, hs0, hle0, hmx, hms, h63, h48, asInt, asIntOf, Question.forced, newRow, grownCap, Builtin.firstCells]

theorem append_nothing {t xt ty e : TypeId} {i : TypeInfo} {d : TypeDesc} {base : Option Addr} {sLen sCap : Nat} {x : Value} (ht : P.underlying t = some (.slice e)) (hx : P.underlying xt = some d) (hd : ∀ k, d ≠ .int k)
    (hi : P.info? e = some i) (hl : (Builtin.lenOf x).run P w = .ok 0 w) (hf : (Builtin.firstCells i.size 0 x).run P w = .ok #[] w) (hg : sLen ≤ sCap) :
    (Builtin.append_ #[t, xt] ty #[.slice base sLen sCap, x]).run P w = .ok (.slice base sLen sCap) w := by
  have hzeros : (match d with | .int _ => true | _ => false) = false := by cases d <;> first | rfl | exact absurd rfl (hd _)
  simp only [Builtin.append_]
  cases base <;> simp [run_underlying ht, run_underlying hx, hzeros, sizeOf, typeInfo, hi, hl, hf, hg, storeCells]
end Go.Dev

/- Operations that write to the heap, or make something there: each one. -/
namespace Go.Dev
variable {P : Program} {S : Nat → Nat → Prop} {μ : Mu} {w w' : World} {H : Heap} {NG : Nat}
variable {g : Operand → DV} {ρ : Operand → Value}

theorem getElem?_sub {α : Type} (l : List α) (off len i : Nat) {e : α} (h : ((l.drop off).take len)[i]? = some e) : i < len ∧ l[off + i]? = some e := by
  rw [List.getElem?_take] at h
  split at h
  · rw [List.getElem?_drop] at h
    exact ⟨by assumption, h⟩
  · cases h

/-- Elements written over others, and behind them, in a row's room. -/
theorem over_ok (h : HR NG S μ H w) {r : Nat} {R : Row} {p : Pl} (hr : H[r]? = some (.row R)) (hp : μ r = some p) {new : List DV} {news : List Value} {q0 : Nat} (hfl : news.length = new.length * R.sz)
    (hfc : ∀ (i : Nat) (e : DV) (j : Nat) (c : DV), new[i]? = some e → e.cells[j]? = some c → j < R.sz → ∃ cv, news[i * R.sz + j]? = some cv ∧ V S μ w c cv) (hone : ∀ u ∈ news, u.oneCell' = true) (hallc : ∀ d ∈ new, d.cells.length = R.sz)
    (hq0 : q0 ≤ R.elems.length) (hfit : q0 + new.length ≤ p.C) (hfz : R.fz = false ∨ q0 = R.elems.length) :
    ∃ w' μ', (storeCells ⟨p.B, p.o + q0 * R.sz, none⟩ news 0).run P w = .ok () w' ∧ μ' r = some p ∧ HR NG S μ' (H.set r (.row { R with elems := R.elems.take q0 ++ new ++ R.elems.drop (q0 + new.length) })) w' ∧
      Step H.length S μ H w S μ' (H.set r (.row { R with elems := R.elems.take q0 ++ new ++ R.elems.drop (q0 + new.length) })) w' ∧ (∀ d v, V S μ w d v → V S μ' w' d v) := by
  obtain ⟨p', hp', hrow⟩ := h.row r R hr
  rw [hp] at hp'
  cases hp'
  obtain ⟨k1, k2, cs, ty, fz, k3, k4, k5, k6, k7, k8⟩ := hrow
  have hmul : (q0 + new.length) * R.sz ≤ p.C * R.sz := Nat.mul_le_mul_right _ hfit
  rw [Nat.add_mul] at hmul
  rw [k2] at k5
  obtain ⟨w', cs', r1, r2, r3, r4, r5, r6, r7⟩ := storeRun (P := P) p.B (p.o + q0 * R.sz) ty fz news 0 cs w k3 (fun c _ hc => unfr k6 c (by rw [hfl] at hc; omega)) (by rw [hfl]; omega) hone
  have hlenT : (R.elems.take q0).length = q0 := by simp; omega
  have hold : ∀ k, ¬ (p.o + q0 * R.sz ≤ k ∧ k < p.o + q0 * R.sz + new.length * R.sz) → cs'[k]? = cs[k]? := fun k hk => by rw [r4 k, if_neg (by rw [hfl]; omega)]
  obtain ⟨g1, g2, g3⟩ := set_ok (w' := w') h (r := r) (o := .row { R with elems := R.elems.take q0 ++ new ++ R.elems.drop (q0 + new.length) }) (p := p) (p' := p) (.inl ⟨R, hr⟩) hp (Nat.le_refl _) (fun _ => rfl) (.inl rfl)
    (fun b _ hb => r5 b hb) (by omega) r7 (fun B c hc => by
      by_cases hB : B = p.B
      · subst hB
        obtain ⟨s1, s2⟩ := k8 c hc
        rcases hfz with d5 | d5
        · rw [d5] at s1; cases s1
        · simp only [cellAt, r2, k3]
          rw [← d5] at s2
          exact hold c (by omega)
      · simp only [cellAt, r5 B hB])
    (fun hV => by
      refine ⟨k1, k2, cs', ty, fz, r2, by simp; omega, by rw [r3, k2]; exact k5, by rw [r3]; exact k6, fun q e' hq => ?_, fun c hc => ?_⟩
      · simp only at hq ⊢
        rw [List.append_assoc] at hq
        have olds : R.elems[q]? = some e' → ¬ (q0 ≤ q ∧ q < q0 + new.length) → e'.cells.length = R.sz ∧ ∀ (j : Nat) (c : DV), e'.cells[j]? = some c → ∃ cv, cs'[p.o + q * R.sz + j]? = some cv ∧ V S (μ.put r p) w' c cv := by
          intro he hnq
          refine ⟨(k7 q e' he).1, fun j c hj => ?_⟩
          obtain ⟨cv, z1, z2⟩ := (k7 q e' he).2 j c hj
          have hjl := (List.getElem?_eq_some_iff.1 hj).1
          rw [(k7 q e' he).1] at hjl
          refine ⟨cv, ?_, hV _ _ z2⟩
          rw [hold _ ?_]
          · exact z1
          · by_cases hqo : q < q0
            · have : (q + 1) * R.sz ≤ q0 * R.sz := Nat.mul_le_mul_right _ hqo
              rw [Nat.add_mul, Nat.one_mul] at this
              omega
            · have : (q0 + new.length) * R.sz ≤ q * R.sz := Nat.mul_le_mul_right _ (by omega)
              rw [Nat.add_mul] at this
              omega
        by_cases hq1 : q < q0
        · rw [List.getElem?_append_left (by omega), List.getElem?_take_of_lt hq1] at hq
          exact olds hq (by omega)
        · rw [List.getElem?_append_right (by omega), hlenT] at hq
          by_cases hq2 : q < q0 + new.length
          · rw [List.getElem?_append_left (by omega)] at hq
            have hne := hallc e' (List.mem_of_getElem? hq)
            refine ⟨hne, fun j c hj => ?_⟩
            have hjl := (List.getElem?_eq_some_iff.1 hj).1
            rw [hne] at hjl
            obtain ⟨cv, q1, q2⟩ := hfc _ _ j c hq hj hjl
            refine ⟨cv, ?_, hV _ _ q2⟩
            have hks : q * R.sz = q0 * R.sz + (q - q0) * R.sz := by rw [← Nat.add_mul]; congr 1; omega
            have hlt2 : (q - q0 + 1) * R.sz ≤ new.length * R.sz := Nat.mul_le_mul_right _ (by omega)
            rw [Nat.add_mul, Nat.one_mul] at hlt2
            rw [r4, if_pos (by rw [hfl]; omega), ← q1]
            congr 1
            omega
          · rw [List.getElem?_append_right (by omega), List.getElem?_drop] at hq
            exact olds (by rw [← hq]; congr 1; omega) (by omega)
      · obtain ⟨s1, s2⟩ := k8 c hc
        refine ⟨s1, ?_⟩
        have hle : R.elems.length ≤ (R.elems.take q0 ++ new ++ R.elems.drop (q0 + new.length)).length := by simp; omega
        have := Nat.mul_le_mul_right R.sz hle
        simp only
        omega)
  exact ⟨w', _, r1, put_self _ _ _, g1, g2, g3⟩

theorem evE_append (h : HR NG S μ H w) (hg : ∀ x, V S μ w (g x) (ρ x)) {o : Oper} {args : Array Operand} {argTypes : Array TypeId} {d : DV} {eff : Eff} (ho : o.op = .call { callee := .builtin .append, args, argTypes }) (he : evE P H g o.op = some (d, eff)) : okE P NG S μ H w ρ o d (eff.on H) := by
  rw [ho] at he
  refine okE_of (s := Builtin.append_ argTypes o.type (args.map ρ)) (by simp [execOp, ho, resolve, invoke, builtin]) ?_
  simp only [evE] at he
  split at he
  rotate_left
  · cases he
  rename_i h2
  split at he
  rotate_left
  · cases he
  rename_i st s xt x hst hs hxt hx
  split at he
  rotate_left
  · cases he
  rename_i e hue
  split at he
  · -- so many zeros
    rename_i hint
    obtain ⟨xk, hxk⟩ := isIntT_spec hint
    split at he
    rotate_left
    · cases he
    rename_i i zd k' n hi hzd hgs hgx
    split at he
    rotate_left
    · cases he
    rename_i hc
    obtain ⟨c1, c2, c3, c4, c5, c6, c7⟩ := hc
    cases he
    have hvs := hg s
    have hvx := hg x
    rw [hgs] at hvs
    rw [hgx] at hvx
    have ev : args.map ρ = #[ρ s, ρ x] := by
      apply Array.ext'
      apply List.ext_getElem?
      intro k
      match k with
      | 0 => simp [hs]
      | 1 => simp [hx]
      | k + 2 => simp [show args[k + 2]? = none from Array.getElem?_eq_none (by omega)]
    have et : argTypes = #[st, xt] := by
      apply Array.ext'
      apply List.ext_getElem?
      intro k
      match k with
      | 0 => simpa using hst
      | 1 => simpa using hxt
      | k + 2 => simp [show argTypes[k + 2]? = none from Array.getElem?_eq_none (by omega)]
    rw [ev, et]
    generalize ρ s = vs at hvs
    generalize ρ x = vx at hvx
    cases hvs
    cases hvx
    obtain ⟨z, _, rfl, i', hi', hz⟩ := run_zeroT hzd w
    rw [hi] at hi'
    cases hi'
    obtain ⟨c, rest, hc, hr, hrest⟩ := append_zeros (P := P) (w := w) (ty := o.type) (k' := k') hue hxk hi hz c1 c2 c3 c5 c4
    obtain ⟨q1, q2⟩ := one_elem (cst_V S μ w 3 z) c6 c5 c7
    have hzs : (Builtin.zeroCells z.cells n.toNat).size = n.toNat * i.size := by simp [Builtin.zeroCells, q1]
    have hcs : (Builtin.zeroCells z.cells n.toNat ++ rest).size = c * i.size := by
      rw [Array.size_append, hzs, hrest, q1, ← Nat.add_mul]
      congr 1
      omega
    obtain ⟨h1, h2', h3⟩ := newRow_ok (w' := w.drew.alloc (.cells (Builtin.zeroCells z.cells n.toNat ++ rest) e)) h (es := List.replicate n.toNat (cst 3 z)) (sz := i.size) (C := c) (fz := (0, 0)) (fun b hb => getElem?_push_lt _ _ hb) (by simp) (by first | exact Io.refl _ | exact ⟨rfl, rfl, rfl, .of (Nat.le_succ _)⟩ | exact ⟨rfl, rfl, rfl, .of (Nat.le_add_right _ 2)⟩) (alloc_at w.drew _) (.inl rfl) (by simpa using hc) (by omega)
      (fun e he => by rw [(List.mem_replicate.1 he).2]; exact c6) (fun k e' j cc hk hj => by
        rw [List.getElem?_replicate] at hk
        split at hk
        · rename_i hkl
          cases hk
          have hjl := (List.getElem?_eq_some_iff.1 hj).1
          rw [c6] at hjl
          obtain ⟨u, r1, r2⟩ := q2 0 _ j cc rfl hj
          simp only [Nat.zero_mul, Nat.zero_add] at r1
          have hm : (k + 1) * i.size ≤ n.toNat * i.size := Nat.mul_le_mul_right _ hkl
          rw [Nat.add_mul, Nat.one_mul] at hm
          have e1 : (k * i.size + j) % i.size = j := by rw [Nat.mul_comm, Nat.mul_add_mod, Nat.mod_eq_of_lt hjl]
          refine ⟨u, ?_, r2⟩
          rw [Array.getElem?_append_left (by rw [hzs]; omega)]
          have hlt : k * i.size + j < n.toNat * i.size := by omega
          simp only [Builtin.zeroCells, Array.getElem?_map, Array.getElem?_range, q1, hlt, if_true, Option.map_some, e1]
          rw [getElem!_pos _ _ (by rw [q1]; exact hjl), ← r1, Array.getElem?_eq_getElem (by rw [q1]; exact hjl)]
        · cases hk)
    exact ⟨_, _, _, hr, h1, h2', h3, .refS _ _ _ _ _ _ _ _ _ (put_self _ _ _) (Nat.le_refl _) hc hc fun _ => ⟨rfl, by simp, .inr (by simp)⟩⟩
  split at he
  rotate_left
  · cases he
  rename_i i n new hi hadd
  split at he
  · cases he
  rename_i hc
  simp only [not_or, Decidable.not_not, Bool.not_eq_true, Bool.not_eq_false'] at hc
  obtain ⟨c1, c2, c3, c4, c5⟩ := hc
  obtain ⟨z, hz, hzs⟩ := Option.map_eq_some_iff.1 c4
  subst c1
  have ev : args.map ρ = #[ρ s, ρ x] := by
    apply Array.ext'
    apply List.ext_getElem?
    intro k
    match k with
    | 0 => simp [hs]
    | 1 => simp [hx]
    | k + 2 => simp [show args[k + 2]? = none from Array.getElem?_eq_none (by omega)]
  have et : argTypes = #[st, xt] := by
    apply Array.ext'
    apply List.ext_getElem?
    intro k
    match k with
    | 0 => simpa using hst
    | 1 => simpa using hxt
    | k + 2 => simp [show argTypes[k + 2]? = none from Array.getElem?_eq_none (by omega)]
  rw [ev, et]
  have hvs := hg s
  have hvx := hg x
  generalize ρ s = vs at hvs
  generalize g s = ds at hvs he
  generalize ρ x = vx at hvx
  obtain ⟨news, dx, hxu, hnk, ⟨hfl, hfc⟩, hone, hrun⟩ := add_ok h hadd hvx c2 c5
  have hallc : ∀ d ∈ new, d.cells.length = i.size ∧ d.cells.all DV.one = true := fun d hd => by
    have := List.all_eq_true.1 c5 d hd
    simp only [Bool.and_eq_true, decide_eq_true_eq] at this
    exact this
  have hfirst : ∀ w0 : World, w0.heap = w.heap → (Builtin.firstCells i.size new.length vx).run P w0 = .ok news.toArray w0 := fun w0 hw0 => by
    rw [(hrun w0 hw0).2 new.length (Nat.le_refl _), ← hfl, List.take_length]
  have hlen : ∀ w0 : World, w0.heap = w.heap → (Builtin.lenOf vx).run P w0 = .ok new.length w0 := fun w0 hw0 => (hrun w0 hw0).1
  have nothing : ∀ (base : Option Addr) (sLen sCap : Nat) (v : DV), new = [] → sLen ≤ sCap → V S μ w v (.slice base sLen sCap) → ∃ v' w' μ', (Builtin.append_ #[st, xt] o.type #[.slice base sLen sCap, vx]).run P w = .ok v' w' ∧ HR NG S μ' H w' ∧ Step H.length S μ H w S μ' H w' ∧ (∀ d v, V S μ w d v → V S μ' w' d v) ∧ V S μ' w' v v' := by
    intro base sLen sCap v hn hle hv
    have hn0 : news = [] := List.eq_nil_of_length_eq_zero (by rw [hfl, hn]; simp)
    refine ⟨_, w, μ, append_nothing hue hxu hnk hi (by have := hlen w rfl; rw [hn] at this; exact this) (by have := hfirst w rfl; rw [hn, hn0] at this; exact this) hle, h, Step.refl _ _ _ _ _, fun _ _ h => h, hv⟩
  split at he
  · -- nil
    cases hvs
    split at he
    · rename_i hemp
      cases he
      exact nothing none 0 0 .nils (List.isEmpty_iff.1 hemp) (Nat.le_refl _) .nils
    · rename_i hemp
      split at he
      · rename_i hbig
        cases he
        have hpos : 0 < new.length := List.length_pos_iff.2 (fun e => hemp (List.isEmpty_iff.2 e))
        obtain ⟨c, rest, hc, hr, hrest⟩ := append_grow (base := none) (sLen := 0) (sCap := 0) (olds := []) (ty := o.type) hue hxu hnk hi hz hlen hfirst (fun w0 _ => by simp [Builtin.firstCells]) (by omega) (by simpa using hbig) c3
        rw [hzs] at hrest
        simp only [Nat.zero_add] at hc hr hrest
        have hcs : (([] : List Value).toArray ++ news.toArray ++ rest).size = c * i.size := by
          simp only [Array.size_append, List.size_toArray, List.length_nil, hfl, hrest, Nat.zero_add, ← Nat.add_mul]
          congr 1
          omega
        obtain ⟨h1, h2', h3⟩ := newRow_ok (w' := w.drew.alloc (.cells (([] : List Value).toArray ++ news.toArray ++ rest) e)) h (es := new) (sz := i.size) (C := c) (fz := (0, 0)) (fun b hb => getElem?_push_lt _ _ hb) (by simp) (by first | exact Io.refl _ | exact ⟨rfl, rfl, rfl, .of (Nat.le_succ _)⟩ | exact ⟨rfl, rfl, rfl, .of (Nat.le_add_right _ 2)⟩) (alloc_at w.drew _) (.inl rfl) (by omega) (by omega)
          (fun e he => (hallc e he).1) (fun k e j c hk hj => by
            have hjl := (List.getElem?_eq_some_iff.1 hj).1
            rw [(hallc e (List.mem_of_getElem? hk)).1] at hjl
            obtain ⟨cv, q1, q2⟩ := hfc k e j c hk hj hjl
            have hlt := (List.getElem?_eq_some_iff.1 q1).1
            exact ⟨cv, by rw [Array.getElem?_append_left (by simpa using hlt)]; simpa using q1, q2⟩)
        exact ⟨_, _, _, hr, h1, h2', h3, .refS _ _ _ _ _ _ _ _ _ (put_self _ _ _) (Nat.le_refl _) hc hc fun _ => ⟨rfl, by simp, .inr (by simp)⟩⟩
      · cases he
  · rename_i sz l
    split at he
    · rename_i hemp
      cases he
      cases hvs with
      | imm0 sz a cap => exact nothing a 0 cap _ (List.isEmpty_iff.1 hemp) (Nat.zero_le _) (.imm0 _ _ _)
      | imm _ _ B o' cap cv q1 q2 q3 q4 => exact nothing _ _ cap _ (List.isEmpty_iff.1 hemp) q1 (.imm sz l B o' cap cv q1 q2 q3 q4)
    · cases he
  · rename_i r off len sz gg cl
    split at he
    · rename_i R hr
      split at he
      · rename_i hcc
        obtain ⟨d1, d2, d3, d4, d5, d6⟩ := hcc
        subst d3
        cases hvs with
        | ref _ _ _ _ _ _ a cap p hp hgg hcap hcl ha hn =>
          split at he
          · rename_i hemp
            cases he
            exact nothing _ _ cap _ (List.isEmpty_iff.1 hemp) hcap (.ref _ _ _ _ _ _ a cap p hp hgg hcap hcl ha hn)
          · rename_i hemp
            have hpos : 0 < new.length := List.length_pos_iff.2 (fun e => hemp (List.isEmpty_iff.2 e))
            split at he
            · -- it fits surely
              rename_i hfit
              cases he
              obtain ⟨p', hp', hrow⟩ := h.row r R hr
              rw [hp] at hp'
              cases hp'
              obtain ⟨a, rfl⟩ : ∃ a', a = some a' := by
                cases a with
                | none => have := hn rfl; omega
                | some a => exact ⟨a, rfl⟩
              obtain ⟨a1, a2, a3⟩ := ha (by have := hrow.1; omega)
              have ea := Option.some.inj (a3.resolve_left (by omega))
              obtain ⟨w', μ', s1, s2, s3, s4, s5⟩ := over_ok (P := P) h hr hp (q0 := off + len) (by rw [d2]; exact hfl) (fun k e j c hk hj hlt => by rw [d2] at hlt ⊢; exact hfc k e j c hk hj hlt) hone (fun d hd => by rw [d2]; exact (hallc d hd).1) d4 (by omega) d5
              refine ⟨.slice (some a) (len + new.length) cap, w', μ', ?_, s3, s4, s5, ?_⟩
              · rw [append_room hue hxu hnk hi (hlen w rfl) (hfirst w rfl) (by omega), ea, Addr.add_lit]
                rw [show p.o + off * p.sz + len * i.size = p.o + (off + len) * R.sz by rw [Nat.add_mul, ← a1, d2]; omega, s1]
                rfl
              · exact .ref _ _ _ _ _ _ _ _ _ s2 (by have := hrow.1; omega) (by omega) hcl (fun _ => ⟨a1, a2, a3⟩) (fun h => by cases h)
            cases he
            obtain ⟨p', hp', hrow⟩ := h.row r R hr
            rw [hp] at hp'
            cases hp'
            obtain ⟨k1, k2, cs, ty, fz, k3, k4, k5, k6, k7, k8⟩ := hrow
            obtain ⟨a1, a2, a3⟩ := ha (by omega)
            have hmul : (off + cap) * i.size ≤ p.C * i.size := Nat.mul_le_mul_right _ a2
            rw [← a1] at a3 k5
            have hlenE : ((R.elems.drop off).take len).length = len := by simp; omega
            by_cases hroom : len + new.length ≤ cap
            · -- in place
              obtain ⟨a, rfl⟩ : ∃ a', a = some a' := by
                cases a with
                | none => have := hn rfl; omega
                | some a => exact ⟨a, rfl⟩
              have ea := Option.some.inj (a3.resolve_left (by omega))
              have hm2 : (off + len + new.length) * i.size ≤ (off + cap) * i.size := Nat.mul_le_mul_right _ (by omega)
              have hm3 : (off + len + new.length) * i.size = off * i.size + len * i.size + new.length * i.size := by rw [Nat.add_mul, Nat.add_mul]
              obtain ⟨w', cs', r1, r2, r3, r4, r5, r6, r7⟩ := storeRun (P := P) p.B (p.o + off * i.size + len * i.size) ty fz news 0 cs w k3 (fun c _ hc => unfr k6 c (by rw [hfl] at hc; omega)) (by rw [hfl]; omega) hone
              have hkeep : ∀ k, k < p.o + off * i.size + len * i.size → cs'[k]? = cs[k]? := fun k hk => by rw [r4 k, if_neg (by omega)]
              obtain ⟨g1, g2, g3⟩ := set_ok (w' := w') h (r := r) (o := .row ⟨(R.elems.drop off).take len ++ new, i.size, gg + 1, R.fz, if R.ty = some e then some e else none⟩) (p := p) (p' := ⟨p.B, p.o + off * i.size, p.C - off, gg + 1, i.size⟩) (.inl ⟨R, hr⟩) hp (by simp; omega) (fun e => by simp at e; omega) (.inl rfl)
                (fun b _ hb => r5 b hb) (by omega) r7 (fun B c hc => by
                  by_cases hB : B = p.B
                  · subst hB
                    obtain ⟨s1, s2⟩ := k8 c hc
                    rcases d5 with d5 | d5
                    · rw [d5] at s1; cases s1
                    · simp only [cellAt, r2, k3]
                      rw [d2, ← d5, Nat.add_mul] at s2
                      exact hkeep c (by omega)
                  · simp only [cellAt, r5 B hB])
                (fun hV => by
                  refine ⟨rfl, rfl, cs', ty, fz, r2, by simp; omega, ?_, ⟨by rw [r3]; exact k6.1, fun u hu => by
                    simp only at hu ⊢
                    split at hu
                    · rename_i hte
                      cases hu
                      obtain ⟨q1, q2⟩ := k6.2 _ hte
                      exact ⟨q1, by rw [Nat.add_mul_mod_self_right, a1]; exact q2⟩
                    · cases hu⟩, fun k e' hk => ?_, fun c hc => ?_⟩
                  · rw [r3]
                    have : off * i.size + (p.C - off) * i.size = p.C * i.size := by rw [← Nat.add_mul]; congr 1; omega
                    simp only
                    omega
                  · simp only at hk ⊢
                    by_cases hkl : k < len
                    · rw [List.getElem?_append_left (by omega)] at hk
                      obtain ⟨_, hk'⟩ := getElem?_sub _ _ _ _ hk
                      refine ⟨by rw [(k7 _ _ hk').1, d2], fun j c hj => ?_⟩
                      obtain ⟨cv, q1, q2⟩ := (k7 _ _ hk').2 j c hj
                      have hjl := (List.getElem?_eq_some_iff.1 hj).1
                      rw [(k7 _ _ hk').1, d2] at hjl
                      have hk1 : (k + 1) * i.size ≤ len * i.size := Nat.mul_le_mul_right _ hkl
                      rw [Nat.add_mul, Nat.one_mul] at hk1
                      refine ⟨cv, ?_, hV _ _ q2⟩
                      rw [hkeep _ (by omega), ← q1, d2, Nat.add_mul]
                      congr 1
                      omega
                    · rw [List.getElem?_append_right (by omega), hlenE] at hk
                      have hne := hallc e' (List.mem_of_getElem? hk)
                      refine ⟨hne.1, fun j c hj => ?_⟩
                      have hjl := (List.getElem?_eq_some_iff.1 hj).1
                      rw [hne.1] at hjl
                      obtain ⟨cv, q1, q2⟩ := hfc _ _ j c hk hj hjl
                      have hlt := (List.getElem?_eq_some_iff.1 q1).1
                      have hks : k * i.size = len * i.size + (k - len) * i.size := by rw [← Nat.add_mul]; congr 1; omega
                      refine ⟨cv, ?_, hV _ _ q2⟩
                      rw [r4, if_pos (by omega), ← q1]
                      congr 1
                      omega
                  · obtain ⟨s1, s2⟩ := k8 c hc
                    refine ⟨s1, ?_⟩
                    rcases d5 with d5 | d5
                    · rw [d5] at s1; cases s1
                    · rw [d2, ← d5, Nat.add_mul] at s2
                      simp only [List.length_append, hlenE, Nat.add_mul]
                      omega)
              refine ⟨.slice (some a) (len + new.length) cap, w', _, ?_, g1, g2, g3, ?_⟩
              · rw [append_room hue hxu hnk hi (hlen w rfl) (hfirst w rfl) hroom, ea, Addr.add_lit, r1]
                rfl
              · refine .refS _ _ _ _ _ _ _ _ _ (put_self _ _ _) (Nat.le_refl _) hroom hroom fun _ => ⟨rfl, by simp; omega, .inr ?_⟩
                rw [ea]
                simp
            · -- a new block
              have hmlen : (off + len) * i.size ≤ (off + cap) * i.size := Nat.mul_le_mul_right _ (by omega)
              rw [Nat.add_mul, Nat.add_mul] at hmlen
              rw [Nat.add_mul] at hmul
              have hold : ∀ w0 : World, w0.heap = w.heap → (Builtin.firstCells i.size len (.slice a len cap)).run P w0 = .ok ((cs.toList.drop (p.o + off * i.size)).take (len * i.size)).toArray w0 := by
                intro w0 hw0
                by_cases hl0 : len = 0
                · subst hl0
                  cases a <;> simp [Builtin.firstCells, loadCells, loadCellsFrom]
                · have ea := a3.resolve_left (by omega)
                  subst ea
                  have hll : ((cs.toList.drop (p.o + off * i.size)).take (len * i.size)).length = len * i.size := by simp; omega
                  simp only [Builtin.firstCells]
                  have hq := run_loadCells_list (P := P) w0 ⟨p.B, p.o + off * i.size, none⟩ ((cs.toList.drop (p.o + off * i.size)).take (len * i.size)) (fun j v hj => by
                    obtain ⟨hj1, hj2⟩ := getElem?_sub _ _ _ _ hj
                    rw [Addr.add_lit, cell_eq]
                    simp only [cellAt, hw0, k3]
                    rw [← Array.getElem?_toList]
                    exact hj2)
                  rw [hll] at hq
                  exact hq
              obtain ⟨c, rest, hc, hrr, hrest⟩ := append_grow (base := a) (sLen := len) (sCap := cap) (ty := o.type) hue hxu hnk hi hz hlen hfirst hold (by omega) d6 c3
              rw [hzs] at hrest
              have hll : ((cs.toList.drop (p.o + off * i.size)).take (len * i.size)).length = len * i.size := by simp; omega
              have hcs : (((cs.toList.drop (p.o + off * i.size)).take (len * i.size)).toArray ++ news.toArray ++ rest).size = c * i.size := by
                simp only [Array.size_append, List.size_toArray, hll, hfl, hrest, ← Nat.add_mul]
                congr 1
                omega
              obtain ⟨g1, g2, g3⟩ := set_ok (w' := w.drew.alloc (.cells (((cs.toList.drop (p.o + off * i.size)).take (len * i.size)).toArray ++ news.toArray ++ rest) e)) h (r := r) (o := .row ⟨(R.elems.drop off).take len ++ new, i.size, gg + 1, R.fz, if R.ty = some e then some e else none⟩) (p := p) (p' := ⟨w.heap.size, 0, c, gg + 1, i.size⟩) (.inl ⟨R, hr⟩) hp (by simp; omega) (fun e => by simp at e; omega) (.inr (Nat.le_refl _))
                (fun b hb _ => getElem?_push_lt _ _ hb) (by simp) (by first | exact Io.refl _ | exact ⟨rfl, rfl, rfl, .of (Nat.le_succ _)⟩ | exact ⟨rfl, rfl, rfl, .of (Nat.le_add_right _ 2)⟩) (fun B c hc => cellAt_frame (fun b hb => getElem?_push_lt _ _ hb) (h.st B c hc))
                (fun hV => by
                  refine ⟨rfl, rfl, _, e, (0, 0), alloc_at w.drew _, by simp; omega, by rw [hcs]; simp, ⟨Or.inl rfl, fun u hu => by
                    simp only at hu ⊢
                    split at hu
                    · cases hu; exact ⟨rfl, Nat.zero_mod _⟩
                    · cases hu⟩, fun k e' hk => ?_, fun c hc => absurd (h.st _ _ hc) (Nat.lt_irrefl _)⟩
                  simp only at hk ⊢
                  by_cases hkl : k < len
                  · rw [List.getElem?_append_left (by omega)] at hk
                    obtain ⟨_, hk'⟩ := getElem?_sub _ _ _ _ hk
                    refine ⟨by rw [(k7 _ _ hk').1, d2], fun j c hj => ?_⟩
                    obtain ⟨cv, q1, q2⟩ := (k7 _ _ hk').2 j c hj
                    have hjl := (List.getElem?_eq_some_iff.1 hj).1
                    rw [(k7 _ _ hk').1, d2] at hjl
                    have hk1 : (k + 1) * i.size ≤ len * i.size := Nat.mul_le_mul_right _ hkl
                    rw [Nat.add_mul, Nat.one_mul] at hk1
                    refine ⟨cv, ?_, hV _ _ q2⟩
                    rw [Array.getElem?_append_left (by simp only [Array.size_append, List.size_toArray, hll]; omega), Array.getElem?_append_left (by simp only [List.size_toArray, hll]; omega)]
                    rw [List.getElem?_toArray, List.getElem?_take_of_lt (by omega), List.getElem?_drop, Array.getElem?_toList, ← q1, d2, Nat.add_mul]
                    congr 1
                    omega
                  · rw [List.getElem?_append_right (by omega), hlenE] at hk
                    have hne := hallc e' (List.mem_of_getElem? hk)
                    refine ⟨hne.1, fun j c hj => ?_⟩
                    have hjl := (List.getElem?_eq_some_iff.1 hj).1
                    rw [hne.1] at hjl
                    obtain ⟨cv, q1, q2⟩ := hfc _ _ j c hk hj hjl
                    have hlt := (List.getElem?_eq_some_iff.1 q1).1
                    have hks : k * i.size = len * i.size + (k - len) * i.size := by rw [← Nat.add_mul]; congr 1; omega
                    refine ⟨cv, ?_, hV _ _ q2⟩
                    rw [Array.getElem?_append_left (by simp only [Array.size_append, List.size_toArray, hll]; omega), Array.getElem?_append_right (by simp only [List.size_toArray, hll]; omega)]
                    rw [List.getElem?_toArray, ← q1, List.size_toArray, hll]
                    congr 1
                    omega)
              exact ⟨_, _, _, hrr, g1, g2, g3, .refS _ _ _ _ _ _ _ _ _ (put_self _ _ _) (Nat.le_refl _) hc hc fun _ => ⟨rfl, by simp, .inr (by simp)⟩⟩
      · cases he
    · rename_i g0 z0 hr
      split at he
      · rename_i hcc
        obtain ⟨rfl, rfl, d3, rfl, d6⟩ := hcc
        subst d3
        obtain ⟨p, hp, p1, p2, p3⟩ := h.sl r _ _ hr
        cases hvs with
        | ref _ _ _ _ _ _ a cap p' hp' hgg hcap hcl ha hn =>
          rw [hp] at hp'
          cases hp'
          have hcap0 : cap = 0 := by have := (ha p1.symm).2.1; omega
          subst hcap0
          split at he
          · rename_i hemp
            cases he
            exact nothing _ _ 0 _ (List.isEmpty_iff.1 hemp) hcap (.ref _ _ _ _ _ _ a 0 p hp hgg hcap hcl ha hn)
          · rename_i hemp
            have hpos : 0 < new.length := List.length_pos_iff.2 (fun e => hemp (List.isEmpty_iff.2 e))
            cases he
            obtain ⟨c, rest, hc, hrr, hrest⟩ := append_grow (base := a) (sLen := 0) (sCap := 0) (olds := []) (ty := o.type) hue hxu hnk hi hz hlen hfirst (fun w0 _ => by cases a <;> simp [Builtin.firstCells, loadCells, loadCellsFrom]) (by omega) (by simpa using d6) c3
            rw [hzs] at hrest
            simp only [Nat.zero_add] at hc hrr hrest
            have hcs : (([] : List Value).toArray ++ news.toArray ++ rest).size = c * i.size := by
              simp only [Array.size_append, List.size_toArray, List.length_nil, hfl, hrest, Nat.zero_add, ← Nat.add_mul]
              congr 1
              omega
            obtain ⟨g1, g2, g3⟩ := slot_ok (w' := w.drew.alloc (.cells (([] : List Value).toArray ++ news.toArray ++ rest) e)) h (R := ⟨new, i.size, g0 + 1, false, some e⟩) (p' := ⟨w.heap.size, 0, c, g0 + 1, i.size⟩) hr hp (by simp only; omega) (Nat.le_refl _)
              (fun b hb => getElem?_push_lt _ _ hb) (by simp) (by first | exact Io.refl _ | exact ⟨rfl, rfl, rfl, .of (Nat.le_succ _)⟩ | exact ⟨rfl, rfl, rfl, .of (Nat.le_add_right _ 2)⟩)
              (fun hV => by
                refine ⟨rfl, rfl, _, e, (0, 0), alloc_at w.drew _, by simp; omega, by rw [hcs]; simp, ⟨Or.inl rfl, fun u hu => by cases hu; exact ⟨rfl, Nat.zero_mod _⟩⟩, fun k e' hk => ?_, fun c hc => absurd (h.st _ _ hc) (Nat.lt_irrefl _)⟩
                simp only at hk ⊢
                have hne := hallc e' (List.mem_of_getElem? hk)
                refine ⟨hne.1, fun j c hj => ?_⟩
                have hjl := (List.getElem?_eq_some_iff.1 hj).1
                rw [hne.1] at hjl
                obtain ⟨cv, q1, q2⟩ := hfc _ _ j c hk hj hjl
                have hlt := (List.getElem?_eq_some_iff.1 q1).1
                refine ⟨cv, ?_, hV _ _ q2⟩
                rw [Array.getElem?_append_left (by simpa using hlt)]
                simpa using q1)
            exact ⟨_, _, _, hrr, g1, g2, g3, .refS _ _ _ _ _ _ _ _ _ (put_self _ _ _) (Nat.le_refl _) hc hc fun _ => ⟨rfl, by simp, .inr (by simp)⟩⟩
      · cases he
    · cases he
  · cases he
end Go.Dev

/- Operations that write to the heap, or make something there: rows made at once, maps, texts' bytes. -/
namespace Go.Dev
variable {P : Program} {S : Nat → Nat → Prop} {μ : Mu} {w w' : World} {H : Heap} {NG : Nat}
variable {g : Operand → DV} {ρ : Operand → Value}

theorem evE_makeSlice (h : HR NG S μ H w) (hg : ∀ x, V S μ w (g x) (ρ x)) {o : Oper} {t : TypeId} {l c : Operand} {d : DV} {eff : Eff} (ho : o.op = .makeSlice t l c) (he : evE P H g o.op = some (d, eff)) : okE P NG S μ H w ρ o d (eff.on H) := by
  rw [ho] at he
  refine okE_of (s := Instr.makeSlice t (ρ l) (ρ c)) (by simp [execOp, ho]) ?_
  simp only [evE] at he
  split at he
  · rename_i e lv cv hu hl hc
    split at he
    · rename_i i hi
      split at he
      · rename_i z hz
        split at he
        · rename_i hcc
          obtain ⟨c1, c2, c3, c4, c5, c6, c7⟩ := hcc
          cases he
          obtain ⟨kl, hlv⟩ := intOf_V hl (hg l)
          obtain ⟨kc, hcv⟩ := intOf_V hc (hg c)
          rw [hlv, hcv]
          simp only [Option.map_eq_some_iff] at hz
          obtain ⟨zv, hz, rfl⟩ := hz
          unfold bigN at c3 c4
          have hrun := run_make (P := P) w t e i zv hu hi hz kl kc lv cv c1 c2 (by rw [Int.mul_comm]; omega) (by omega)
          obtain ⟨q1, q2⟩ := one_elem (cst_V S μ w 3 zv) c6 c5 c7
          obtain ⟨h1, h2, h3⟩ := newRow_ok (w' := w.alloc (.cells (madeCells zv.cells (cv.toNat * i.size)) e)) h (es := List.replicate lv.toNat (cst 3 zv)) (sz := i.size) (C := cv.toNat) (fz := (0, 0)) (fun b hb => getElem?_push_lt _ _ hb) (by simp) (by first | exact Io.refl _ | exact ⟨rfl, rfl, rfl, .of (Nat.le_succ _)⟩ | exact ⟨rfl, rfl, rfl, .of (Nat.le_add_right _ 2)⟩) (alloc_at _ _) (.inl rfl) (by simp; omega) (by rw [size_madeCells]; exact Nat.le_refl _)
            (fun e he => by rw [(List.mem_replicate.1 he).2]; exact c6) (fun k e j c hk hj => by
              have hkl := (List.getElem?_eq_some_iff.1 hk).1
              simp at hkl
              have he : e = cst 3 zv := by
                rw [List.getElem?_replicate] at hk
                split at hk
                · cases hk; rfl
                · cases hk
              subst he
              have hjl := (List.getElem?_eq_some_iff.1 hj).1
              obtain ⟨u, r1, r2⟩ := q2 0 _ j c rfl hj
              simp only [Nat.zero_mul, Nat.zero_add] at r1
              have hkc : (k + 1) * i.size ≤ cv.toNat * i.size := Nat.mul_le_mul_right _ (by omega)
              rw [Nat.add_mul, Nat.one_mul] at hkc
              refine ⟨u, ?_, r2⟩
              have hlt : k * i.size + j < cv.toNat * i.size := by omega
              simp only [madeCells, Array.getElem?_map, Array.getElem?_range, hlt, if_true, Option.map_some, q1]
              rw [show (k * i.size + j) % i.size = j by rw [Nat.mul_comm, Nat.mul_add_mod, Nat.mod_eq_of_lt (by omega)]]
              rw [← r1, getElem!_pos _ _ (by omega), Array.getElem?_eq_getElem (by omega)])
          exact ⟨_, _, _, hrun, h1, h2, h3, .refS _ _ _ _ _ _ _ _ _ (put_self _ _ _) (Nat.le_refl _) (by omega) (Nat.le_refl _) fun _ => ⟨rfl, by simp, .inr (by simp)⟩⟩
        · cases he
      · cases he
    · cases he
  · cases he

theorem evE_makeMap (h : HR NG S μ H w) (hg : ∀ x, V S μ w (g x) (ρ x)) {o : Oper} {t : TypeId} {r : Option Operand} {d : DV} {eff : Eff} (ho : o.op = .makeMap t r) (he : evE P H g o.op = some (d, eff)) : okE P NG S μ H w ρ o d (eff.on H) := by
  rw [ho] at he
  refine okE_of (s := Instr.makeMap t (r.map ρ)) (by simp [execOp, ho]) ?_
  simp only [evE] at he
  split at he
  · rename_i kt et hu
    simp only [Option.map_eq_some_iff] at he
    obtain ⟨u, hu2, he⟩ := he
    cases he
    obtain ⟨h1, h2, h3⟩ := push_ok (w' := w.alloc (.map #[] 0)) h (o := .map []) (p := ⟨w.heap.size, 0, 0, 0, 0⟩) (fun b hb => getElem?_push_lt _ _ hb) (by simp) (by first | exact Io.refl _ | exact ⟨rfl, rfl, rfl, .of (Nat.le_succ _)⟩ | exact ⟨rfl, rfl, rfl, .of (Nat.le_add_right _ 2)⟩) (Nat.le_refl _)
      ⟨rfl, #[], 0, alloc_at _ _, fun _ => ⟨rfl, fun i e m he => by simp at he⟩⟩
    refine ⟨.map (some w.heap.size), _, _, ?_, h1, h2, h3, .mp _ _ _ (put_self _ _ _) fun _ => rfl⟩
    cases r with
    | none => simp [Instr.makeMap]
    | some x =>
      simp only [Option.map_eq_some_iff] at hu2
      obtain ⟨n, hn, _⟩ := hu2
      obtain ⟨k, hk⟩ := intOf_V hn (hg x)
      simp [Instr.makeMap, run_underlying hu, hk, asInt, asIntOf]
  · cases he

theorem bytesWorld_io (w : World) (e : TypeId) (b : ByteArray) : Io w (Lib.bytesWorld w e b) := by
  unfold Lib.bytesWorld World.freeze
  exact ⟨rfl, rfl, rfl, .of (by first | exact Nat.le_refl _ | (simp; done) | omega)⟩

theorem freeze_keeps (w : World) (a : Addr) (n : Nat) : (w.freeze a n).heap.size = w.heap.size ∧ (∀ b, b ≠ a.block → (w.freeze a n).heap[b]? = w.heap[b]?) ∧ (∀ B c, cellAt (w.freeze a n) B c = cellAt w B c) ∧ Io w (w.freeze a n) := by
  unfold World.freeze
  split
  · exact ⟨rfl, fun _ _ => rfl, fun _ _ => rfl, Io.refl _⟩
  · refine ⟨by simp, fun b hb => by simp only; rw [Array.getElem?_modify, if_neg (Ne.symm hb)], fun B c => ?_, ⟨rfl, rfl, rfl, .of (by first | exact Nat.le_refl _ | exact Nat.le_succ _ | (simp; done))⟩⟩
    by_cases hB : a.block = B
    · subst hB
      simp only [cellAt]
      rw [Array.getElem?_modify, if_pos rfl]
      cases w.heap[a.block]? with
      | none => rfl
      | some o => cases o <;> rfl
    · simp only [cellAt]
      rw [Array.getElem?_modify, if_neg hB]

theorem run_loadBytesU {P : Program} {w : World} : ∀ (xs : List Int) (a : Addr) (acc : ByteArray), (∀ j x, xs[j]? = some x → w.cell? (a.add j) = some (.int .u8 x)) →
    (loadBytes a acc xs.length).run P w = .ok ⟨acc.data ++ (xs.map fun x => UInt8.ofNat x.toNat).toArray⟩ w
  | [], a, acc, _ => by simp [loadBytes]
  | x :: l, a, acc, h => by
    have h0 : w.cell? a = some (.int .u8 x) := by
      have := h 0 x rfl
      simpa [Addr.add] using this
    have ih := run_loadBytesU (P := P) l (a.add 1) (acc.push (UInt8.ofNat x.toNat)) (fun j y hy => by
      have := h (j + 1) y (by simpa using hy)
      have e : (a.add 1).add j = a.add (j + 1) := by
        unfold Addr.add
        by_cases hj : j = 0
        · subst hj; simp
        · simp [hj]; omega
      rw [e]; exact this)
    simp only [List.length_cons, loadBytes, Sem.run_bind, run_load, h0, Result.andThen]
    rw [show x.toNat.toUInt8 = UInt8.ofNat x.toNat from rfl, ih]
    congr 1
    apply ByteArray.ext
    simp [ByteArray.push]

theorem noZeroT_spec {f : FuncId} {e : TypeId} (h : noZeroT P f = some e) : ∃ fn t, P.funcs[f]? = some fn ∧ fn.body.isNone = true ∧ fn.origin = "" ∧ fn.name = "internal/bytealg.MakeNoZero" ∧ fn.resultTypes = #[t] ∧ P.underlying t = some (.slice e) ∧ size P e = some 1 := by
  unfold noZeroT at h
  simp only [Option.bind_eq_some_iff] at h
  obtain ⟨fn, hfn, h⟩ := h
  split at h
  · rename_i hc
    simp only [Bool.and_eq_true, beq_iff_eq] at hc
    obtain ⟨⟨⟨c1, c2⟩, c3⟩, c4⟩ := hc
    simp only [Option.bind_eq_some_iff] at h
    obtain ⟨t, ht, e', he, h⟩ := h
    split at h
    · rename_i hs
      cases h
      refine ⟨fn, t, hfn, c1, c2, c3, ?_, elemS_spec he, hs⟩
      apply Array.ext'
      apply List.ext_getElem?
      intro k
      match k with
      | 0 => simpa using ht
      | k + 1 => simp [show fn.resultTypes[k + 1]? = none from Array.getElem?_eq_none (by omega)]
    · cases h
  · cases h

theorem evE_noZero (h : HR NG S μ H w) (hg : ∀ x, V S μ w (g x) (ρ x)) {o : Oper} {f : Operand} {args : Array Operand} {argTypes : Array TypeId} {d : DV} {eff : Eff} (ho : o.op = .call { callee := .value f, args, argTypes })
    (he : evE P H g o.op = some (d, eff)) : okE P NG S μ H w ρ o d (eff.on H) := by
  rw [ho] at he
  simp only [evE] at he
  split at he
  rotate_left
  · cases he
  rename_i hsz
  simp only [Option.bind_eq_some_iff] at he
  obtain ⟨fid, hfid, e, hnz, x, hx, n, hn, he⟩ := he
  split at he
  rotate_left
  · cases he
  rename_i hc
  obtain ⟨c1, c2⟩ := hc
  cases he
  obtain ⟨fn, t, k1, k2, k3, k4, k5, k6, k7⟩ := noZeroT_spec hnz
  have hvf := hg f
  have hvx := hg x
  rw [fidOf_spec hfid] at hvf
  rw [i64Of_spec hn] at hvx
  have hvs : args.map ρ = #[ρ x] := by
    apply Array.ext'
    apply List.ext_getElem?
    intro k
    match k with
    | 0 => simp [hx]
    | k + 1 => simp [show args[k + 1]? = none from Array.getElem?_eq_none (by omega)]
  generalize hgf : ρ f = fv at hvf
  generalize ρ x = vx at hvx hvs
  cases hvx
  cases hvf with
  | fn _ _ vs hl hq =>
    have hvs0 : vs = #[] := Array.size_eq_zero_iff.1 (by simpa using hl.symm)
    subst hvs0
    obtain ⟨m, rfl⟩ := Int.eq_ofNat_of_zero_le c1
    have hname : (fn.name == "runtime.NumGoroutine") = false := by rw [k4]; rfl
    have h0 : Extern.allNextRows.lookup "" = none := by kernel_rfl
    have hnx : Extern.findNext fn = none := by
      simp only [Extern.findNext, k3, k4, h0, show Extern.allNextRows.lookup "internal/bytealg.MakeNoZero" = none from by kernel_rfl]; rfl
    have hfd : Extern.find fn = some (Extern.BytealgMakeNoZero.makeNoZero fn.params fn.resultTypes) := by
      simp only [Extern.find, k4, show Extern.allGenericRows.lookup "internal/bytealg.MakeNoZero" = none from by kernel_rfl, show Extern.allTypedRows.lookup "internal/bytealg.MakeNoZero" = some Extern.BytealgMakeNoZero.makeNoZero from by kernel_rfl]; rfl
    obtain ⟨cs, hr, hle, _⟩ := Lib.run_makeNoZero (P := P) w fn.params t e k6 m (by unfold bigN at c2; omega)
    obtain ⟨h1, h2, h3⟩ := newRow_ok (w' := w.drew.drew.alloc (.cells cs e)) h (es := []) (sz := 1) (C := cs.size) (fz := (0, 0)) (fun b hb => getElem?_push_lt _ _ hb) (by simp) (by first | exact Io.refl _ | exact ⟨rfl, rfl, rfl, .of (Nat.le_succ _)⟩ | exact ⟨rfl, rfl, rfl, .of (Nat.le_add_right _ 2)⟩) (alloc_at w.drew.drew _) (.inl rfl) (by simp) (by omega)
      (fun e he => by cases he) (fun k e' j cc hk hj => by simp at hk)
    refine ⟨.slice (some ⟨w.heap.size, 0, none⟩) m cs.size, _, _, .inl ?_, h1, h2, h3, .refS _ _ _ _ _ _ _ _ _ (put_self _ _ _) (Nat.le_refl _) hle hle fun _ => ⟨rfl, by simp, .inr (by simp)⟩⟩
    simp only [execOp, ho, resolve, hgf, Deferred.ofValue]
    simp only [Sem.run_bind, Sem.run_pure, Result.andThen, invoke, Array.append_empty, Array.empty_append]
    rw [run_callFunc_extern k1 hname k2 hnx hfd, hvs, k5, hr]
    rfl

theorem evE_unsafeString (h : HR NG S μ H w) (hg : ∀ x, V S μ w (g x) (ρ x)) {o : Oper} {args : Array Operand} {argTypes : Array TypeId} {d : DV} {eff : Eff} (ho : o.op = .call { callee := .builtin .unsafeString, args, argTypes })
    (he : evE P H g o.op = some (d, eff)) : okE P NG S μ H w ρ o d (eff.on H) := by
  rw [ho] at he
  refine okE_of (s := Builtin.unsafeString_ argTypes o.type (args.map ρ)) (by simp [execOp, ho, resolve, invoke, builtin]) ?_
  simp only [evE] at he
  split at he
  rotate_left
  · cases he
  rename_i h2
  simp only [Option.bind_eq_some_iff] at he
  obtain ⟨pt, hpt, e, hel, a, ha, b, hb, n, hn, he⟩ := he
  have hpu := elemP_spec hel
  have hva := hg a
  have hvb := hg b
  rw [i64Of_spec hn] at hvb
  have ev : args.map ρ = #[ρ a, ρ b] := by
    apply Array.ext'
    apply List.ext_getElem?
    intro k
    match k with
    | 0 => simp [ha]
    | 1 => simp [hb]
    | k + 2 => simp [show args[k + 2]? = none from Array.getElem?_eq_none (by omega)]
  obtain ⟨it, et⟩ : ∃ it, argTypes = #[pt, it] := by
    refine ⟨argTypes[1]'(by omega), ?_⟩
    apply Array.ext'
    apply List.ext_getElem?
    intro k
    match k with
    | 0 => simpa using hpt
    | 1 => simp [Array.getElem?_eq_getElem (show 1 < argTypes.size by omega)]
    | k + 2 => simp [show argTypes[k + 2]? = none from Array.getElem?_eq_none (by omega)]
  rw [ev, et]
  generalize ρ a = va at hva
  generalize ρ b = vb at hvb
  cases hvb
  rcases usStr_spec he with ⟨e1, rfl, rfl, rfl⟩ | ⟨r, i, o', gg, R, bs, e1, hR, c1, c2, c3, c4, c5, hbs, rfl, rfl⟩
  · rw [e1] at hva
    cases hva
    exact ⟨_, w, μ, Lib.run_unsafeString_none w pt it _ none, h, Step.refl _ _ _ _ _, fun _ _ h => h, .str _⟩
  · rw [e1] at hva
    obtain ⟨hr, s1, s2, s3, s4⟩ := ptrAt_spec hR
    have ho0 : o' = 0 := by omega
    subst ho0
    obtain ⟨p, hp, hrow, ev1, _, _⟩ := h.toHRd.at_ptr hr s1 s2 (List.getElem?_eq_getElem s3) hva
    subst ev1
    obtain ⟨k1, k2, cs, ty, fz, k3, k4, k5, k6, k7, k8⟩ := hrow
    obtain ⟨q1, q2⟩ := k6.2 e c4
    subst q1
    have hps : p.sz = 1 := by omega
    obtain ⟨m, hm⟩ : ∃ m : Nat, n = m := ⟨n.toNat, by omega⟩
    subst hm
    simp only [Int.toNat_natCast] at c5 hbs
    obtain ⟨hl, hby⟩ := allSome_map byteOf _ bs hbs
    have hll : ((R.elems.drop i).take m).length = m := by simp; omega
    rw [hll] at hl
    have hf : ∀ j, ∃ x : Int, j < m → cellAt w p.B (p.o + i + j) = some (.int .u8 x) ∧ bs[j]? = some (UInt8.ofNat x.toNat) := by
      intro j
      by_cases hj : j < m
      · have hel : ((R.elems.drop i).take m)[j]? = some (R.elems[i + j]'(by omega)) := by
          rw [List.getElem?_take_of_lt hj, List.getElem?_drop, List.getElem?_eq_getElem (by omega)]
        obtain ⟨bb, hb1, hb2⟩ := hby j _ hel
        have hd : ∃ x, R.elems[i + j]'(by omega) = .int .u8 x ∧ bb = UInt8.ofNat x.toNat := by
          revert hb1
          cases R.elems[i + j]'(by omega) <;> simp [byteOf]
          rename_i k x
          cases k <;> simp
          exact fun h => h.symm
        obtain ⟨x, hd, rfl⟩ := hd
        obtain ⟨cv, r1, r2⟩ := (k7 (i + j) _ (List.getElem?_eq_getElem (by omega))).2 0 (R.elems[i + j]'(by omega)) (by rw [hd]; rfl)
        rw [hd] at r2
        cases r2
        refine ⟨x, fun _ => ⟨?_, hb2⟩⟩
        simp only [cellAt, k3]
        rw [← r1, s2, Nat.mul_one, Nat.add_zero, Nat.add_assoc]
      · exact ⟨0, fun h => absurd h hj⟩
    obtain ⟨fx, hfx⟩ := Classical.axiomOfChoice hf
    have hload := run_loadBytesU (P := P) (w := w) ((List.range m).map fx) ⟨p.B, p.o + i, none⟩ .empty (fun j x hj => by
      simp only [List.getElem?_map, Option.map_eq_some_iff] at hj
      obtain ⟨k, hk, rfl⟩ := hj
      obtain ⟨hkl, rfl⟩ := List.getElem?_eq_some_iff.1 hk
      simp at hkl
      rw [Addr.add_lit, cell_eq, List.getElem_range]
      exact (hfx j hkl).1)
    simp only [List.length_map, List.length_range] at hload
    have hbs2 : ((List.range m).map fx).map (fun x => UInt8.ofNat x.toNat) = bs := by
      apply List.ext_getElem?
      intro j
      by_cases hj : j < m
      · rw [(hfx j hj).2]
        simp [hj]
      · have : ¬ j < bs.length := by omega
        simp [hj, this]
    rw [hbs2] at hload
    obtain ⟨f1, f2, f3, f4⟩ := freeze_keeps w ⟨p.B, p.o + i, none⟩ m
    obtain ⟨g1, g2, g3⟩ := set_ok (w' := w.freeze ⟨p.B, p.o + i, none⟩ m) h (r := r) (o := .dead) (p := p) (p' := p) (.inl ⟨R, hr⟩) hp (Nat.le_refl _) (fun _ => rfl) (.inl rfl) (fun b _ hb => f2 b hb) (by omega) f4 (fun B c _ => f3 B c) trivial
    refine ⟨.string ⟨bs.toArray⟩, _, _, ?_, g1, g2, g3, .str _⟩
    have hsh : w.shape? p.B = some (ty, cs.size) := by simp [World.shape?, k3]
    have hlies := lies_at (P := P) (u := ty) (n := m) (size_cellsOf c3) (by omega) (off := p.o + i) (cells := cs.size) (by omega) (by rw [hps] at k5; omega)
    have hmax : IntKind.i64.max = 9223372036854775807 := rfl
    have hneg : ¬ ((m : Int) < 0) := by omega
    have hm0 : ¬ (m = 0) := by omega
    have h63 : ¬ (9223372036854775807 : Int) < (m : Int) := by unfold bigN at c2; omega
    have hdef : Builtin.unsafeString_ #[pt, it] o.type #[.pointer (some ⟨p.B, p.o + i * 1 + 0, none⟩), .int .i64 m] =
        (do
          let n ← asInt (.int .i64 m)
          if n < 0 then runtimePanic (.error "unsafe.String: len out of range")
          if n > IntKind.i64.max then unsupported (.unsafePointer "String: a length above the largest int")
          if n = 0 then pure (.string .empty)
          else if ← variablesAt ⟨p.B, p.o + i, none⟩ (← elemOf pt) n.toNat then do
            let s ← loadBytes ⟨p.B, p.o + i, none⟩ .empty n.toNat
            freeze ⟨p.B, p.o + i, none⟩ n.toNat
            pure (.string s)
          else unsupported (.unsafePointer "String: not so many bytes at ptr")) := by rw [Nat.mul_one, Nat.add_zero]; rfl
    rw [hdef]
    simp [asInt, asIntOf, hmax, h63, hneg, hm0, variablesAt, hsh, elemOf, run_underlying hpu, hlies, hload]

theorem evE_convert (h : HR NG S μ H w) (hg : ∀ x, V S μ w (g x) (ρ x)) {o : Oper} {s t : TypeId} {x : Operand} {d : DV} {eff : Eff} (ho : o.op = .convert s t x) (he : evE P H g o.op = some (d, eff)) : okE P NG S μ H w ρ o d (eff.on H) := by
  rw [ho] at he
  refine okE_of (s := convert s t (ρ x)) (by simp [execOp, ho]) ?_
  simp only [evE] at he
  have hx := hg x
  generalize ρ x = v at hx
  generalize g x = y at hx he
  split at he
  · rename_i e b hs hd
    split at he
    · rename_i hc
      cases he
      cases hx
      have hu8 := isU8T_spec hc.1
      have hrun := Lib.run_convert_string_bytes (P := P) w s t e b hs hd hu8
      have hcap : b.size ≤ grownCap w b.size 0 e := by simp only [grownCap, Question.cut]; exact Nat.le_add_right _ _
      have hsz : (Lib.bytesCells w e b).size = grownCap w b.size 0 e := by
        have : b.data.size = b.size := rfl
        simp only [Lib.bytesCells, Array.size_append, Array.size_map, Array.size_replicate]
        omega
      have hl : b.data.toList.length = b.size := by simp
      obtain ⟨h1, h2, h3⟩ := newRow_ok (w' := Lib.bytesWorld w e b) h (es := b.data.toList.map byteDV) (sz := 1) (C := grownCap w b.size 0 e) (fun k hk => Lib.bytesWorld_at_old w e b k hk) (by rw [Lib.bytesWorld_size]; omega) (bytesWorld_io w e b) (Lib.bytesWorld_at_new w e b) (.inr (by simp)) (by simpa using hcap) (by omega)
        (fun e he => by simp only [List.mem_map] at he; obtain ⟨u, _, rfl⟩ := he; rfl) (fun k e' j c hk hj => by
          simp only [List.getElem?_map, Option.map_eq_some_iff] at hk
          obtain ⟨u, hu, rfl⟩ := hk
          cases j with
          | succ j => simp [byteDV, DV.cells] at hj
          | zero =>
            simp [byteDV, DV.cells] at hj
            subst hj
            have hlt := (List.getElem?_eq_some_iff.1 hu).1
            refine ⟨.int .u8 u.toNat, ?_, .int _ _⟩
            rw [Nat.mul_one, Nat.add_zero, Lib.bytesCells, Array.getElem?_append_left (by simpa using hlt), Array.getElem?_map, ← Array.getElem?_toList, hu]
            rfl)
      refine ⟨_, _, _, hrun, h1, h2, h3, ?_⟩
      rw [hl]
      exact .refS _ _ _ _ _ _ _ _ _ (put_self _ _ _) (Nat.le_refl _) hcap hcap fun _ => ⟨rfl, by simp, .inr (by simp)⟩
    · cases he
  · rename_i e0 e r off len sz gg cl hs hd
    split at he
    rotate_left
    · cases he
    rename_i hc
    obtain ⟨rfl, hu, hcl⟩ := hc
    split at he
    rotate_left
    · cases he
    rename_i R hr
    split at he
    rotate_left
    · cases he
    rename_i hc
    obtain ⟨hg1, hz1, hoff⟩ := hc
    cases he
    have hu8 := isU8T_spec hu
    have hx' := hx
    cases hx with
    | ref _ _ _ _ _ _ a cap p hp hgp hlc hclc ha hn =>
      obtain ⟨a, rfl⟩ : ∃ a', a = some a' := by
        cases a with
        | none => have := hn rfl; omega
        | some a => exact ⟨a, rfl⟩
      obtain ⟨p', hp', hrow⟩ := h.row r R hr
      rw [hp] at hp'
      cases hp'
      have hrow' := hrow
      obtain ⟨k1, k2, cs, ty, fz, k3, k4, k5, k6, k7, k8⟩ := hrow
      obtain ⟨e1, e2, e3⟩ := ha (by omega)
      have ea : a = ⟨p.B, p.o + off * p.sz, none⟩ := Option.some.inj (e3.resolve_left (by omega))
      have hst : e0 = e := by rw [hs] at hd; cases hd; rfl
      subst hst
      have hw : (w.freeze ⟨p.B, cs.size, none⟩ 1).heap = w.heap.modify p.B fun
          | .cells c elem (lo, hi) => .cells c elem (if lo == hi then (cs.size, cs.size + 1) else (min lo cs.size, max hi (cs.size + 1)))
          | o => o := by
        rw [World.freeze, if_neg (by decide)]
        congr 1
      have hBlt := (Array.getElem?_eq_some_iff.1 k3).1
      have hnew : ∃ fz', (w.freeze ⟨p.B, cs.size, none⟩ 1).heap[p.B]? = some (.cells cs ty fz') ∧ (fz'.1 = fz'.2 ∨ cs.size ≤ fz'.1) := by
        obtain ⟨lo, hi⟩ := fz
        rw [hw, Array.getElem?_modify, if_pos rfl, k3]
        refine ⟨(if lo == hi then (cs.size, cs.size + 1) else (min lo cs.size, max hi (cs.size + 1))), rfl, ?_⟩
        by_cases hq : lo = hi
        · simp [hq]
        · have := k6.1.resolve_left hq
          simp [hq]
          right
          simp at this
          omega
      obtain ⟨fz', n1, n2⟩ := hnew
      have hold : ∀ b, b ≠ p.B → (w.freeze ⟨p.B, cs.size, none⟩ 1).heap[b]? = w.heap[b]? := fun b hb => by
        rw [hw, Array.getElem?_modify, if_neg (Ne.symm hb)]
      have hcell : ∀ B c, cellAt (w.freeze ⟨p.B, cs.size, none⟩ 1) B c = cellAt w B c := by
        intro B c
        by_cases hB : B = p.B
        · subst hB
          simp only [cellAt, n1, k3]
        · simp only [cellAt, hold B hB]
      have hput : μ.put r p = μ := by
        funext q
        by_cases hq : q = r
        · subst hq; simp [Mu.put, hp]
        · simp [Mu.put, hq]
      obtain ⟨h1, h2, h3⟩ := set_ok (w' := w.freeze ⟨p.B, cs.size, none⟩ 1) h (r := r) (o := .row R) (p := p) (p' := p) (.inl ⟨R, hr⟩) hp (Nat.le_refl _) (fun _ => rfl) (.inl rfl) (fun b _ hb => hold b hb)
        (by rw [hw]; simp) (by unfold World.freeze; exact ⟨rfl, rfl, rfl, .of (by first | exact Nat.le_refl _ | exact Nat.le_succ _ | (simp; done))⟩) (fun B c _ => hcell B c) (fun hV => ⟨k1, k2, cs, ty, fz', n1, k4, k5, ⟨n2, k6.2⟩, fun i e he => ⟨(k7 i e he).1, fun j c hj => by
          obtain ⟨cv, q1, q2⟩ := (k7 i e he).2 j c hj
          exact ⟨cv, q1, hV _ _ q2⟩⟩, fun c hc => k8 c hc⟩)
      refine ⟨_, _, _, ?_, h1, h2, h3, h3 _ _ hx'⟩
      have hsh : w.shape? p.B = some (ty, cs.size) := by simp [World.shape?, k3]
      simp [convert, run_underlying hs, run_underlying hu8, markStringish, ea, Sem.run_bind, run_shape, hsh]
  · cases he

theorem fillRange (n : Nat) : ∀ (vs : List Value) (k : Nat) (cells : Array Value), (∀ v ∈ vs, v.cells.size = n) → (k + vs.length) * n ≤ cells.size →
    ∃ cells', Instr.fill (fun i => some (i * n, n)) cells ((vs.zipIdx k).map fun p => (p.2, p.1)) = some cells' ∧ cells'.size = cells.size ∧ (∀ (q : Nat), q < k * n → cells'[q]? = cells[q]?) ∧
      ∀ (i : Nat) (v : Value) (j : Nat) (c : Value), vs[i]? = some v → v.cells[j]? = some c → cells'[(k + i) * n + j]? = some c
  | [], k, cells, _, _ => ⟨cells, rfl, rfl, fun _ _ => rfl, fun i v j c h => by simp at h⟩
  | v :: vs, k, cells, hv, hle => by
    have hn := hv v (by simp)
    simp only [List.length_cons] at hle
    have e1 : (k + (vs.length + 1)) * n = k * n + n + vs.length * n := by rw [Nat.add_mul, Nat.add_mul]; omega
    have e2 : (k + 1 + vs.length) * n = k * n + n + vs.length * n := by rw [Nat.add_mul, Nat.add_mul]; omega
    have hfs := fun i => foldSet (k * n) i v.cells.toList 0 cells
    have he : v.cells.zipIdx.foldl (fun cs (p : Value × Nat) => cs.setIfInBounds (k * n + p.2) p.1) cells = (v.cells.toList.zipIdx 0).foldl (fun cs p => cs.setIfInBounds (k * n + p.2) p.1) cells := by
      rw [← Array.foldl_toList, Array.toList_zipIdx]
    obtain ⟨cells', r1, r2, r3, r4⟩ := fillRange n vs (k + 1) ((v.cells.toList.zipIdx 0).foldl (fun cs p => cs.setIfInBounds (k * n + p.2) p.1) cells) (fun u hu => hv u (by simp [hu])) (by rw [(hfs 0).1]; omega)
    refine ⟨cells', ?_, by rw [r2, (hfs 0).1], fun q hq => ?_, fun i u j c hi hj => ?_⟩
    · simp only [List.zipIdx_cons, List.map_cons, Instr.fill]
      rw [if_neg (by simp [hn]; omega)]
      rw [show (v.cells.zipIdx.foldl (fun cs x => match x with | (c, j) => cs.setIfInBounds (k * n + j) c) cells) = v.cells.zipIdx.foldl (fun cs (p : Value × Nat) => cs.setIfInBounds (k * n + p.2) p.1) cells from rfl, he]
      exact r1
    · rw [r3 q (by rw [Nat.add_mul]; omega), (hfs q).2, if_neg (by omega)]
    · cases i with
      | zero =>
        simp at hi
        subst hi
        have hjl := (Array.getElem?_eq_some_iff.1 hj).1
        rw [Nat.add_zero, r3 _ (by rw [Nat.add_mul]; omega), (hfs _).2, if_pos (by simp; omega), ← hj]
        simp
      | succ i =>
        have := r4 i u j c (by simpa using hi) hj
        rw [← this]
        congr 2
        congr 1
        omega

theorem evE_buildSlice (h : HR NG S μ H w) (hg : ∀ x, V S μ w (g x) (ρ x)) {o : Oper} {t : TypeId} {len : Nat} {parts : Array (Nat × Operand)} {d : DV} {eff : Eff} (ho : o.op = .buildSlice t len parts) (he : evE P H g o.op = some (d, eff)) : okE P NG S μ H w ρ o d (eff.on H) := by
  rw [ho] at he
  refine okE_of (s := Instr.buildSlice t len (parts.map fun (i, x) => (i, ρ x))) (by simp [execOp, ho]) ?_
  simp only [evE] at he
  split at he
  · rename_i e hu
    split at he
    · rename_i n z hn hz
      split at he
      · rename_i hc
        obtain ⟨c1, c2, c3, c4⟩ := hc
        split at he
        · rename_i hall
          cases he
          obtain ⟨zv, hzv, rfl, _⟩ := run_zeroT hz w
          have hlen : parts.toList.length = len := by have := congrArg List.length c4; simpa using this
          have hVs : ∀ (i : Nat) p, parts.toList[i]? = some p → p.1 = i ∧ (g p.2).cells.length = n ∧ (g p.2).cells.all DV.one = true := by
            intro i p hp
            have h1 : (parts.toList.map (·.1))[i]? = some p.1 := by simp [hp]
            rw [c4] at h1
            have h2 := List.all_eq_true.1 hall (g p.2) (List.mem_map.2 ⟨p, List.mem_of_getElem? hp, rfl⟩)
            simp only [Bool.and_eq_true, decide_eq_true_eq] at h2
            refine ⟨?_, h2⟩
            rw [List.getElem?_range (by have := (List.getElem?_eq_some_iff.1 hp).1; omega)] at h1
            exact (Option.some.inj h1).symm
          have hparts : (parts.map fun (i, x) => (i, ρ x)).toList = ((parts.toList.map fun p => ρ p.2).zipIdx 0).map fun p => (p.2, p.1) := by
            apply List.ext_getElem?
            intro i
            simp only [Array.toList_map, List.getElem?_map, List.getElem?_zipIdx]
            cases hp : parts.toList[i]? with
            | none => rfl
            | some p => simp [(hVs i p hp).1]
          have hsizes : ∀ v ∈ parts.toList.map (fun p => ρ p.2), v.cells.size = n := by
            intro v hv
            obtain ⟨p, hp, rfl⟩ := List.mem_map.1 hv
            obtain ⟨i, hi⟩ := List.getElem?_of_mem hp
            obtain ⟨_, q1, q2⟩ := hVs i p hi
            rw [← ((hg p.2).cells (ne_und_of_one q2)).1, q1]
          obtain ⟨cells', r1, r2, _, r4⟩ := fillRange n (parts.toList.map fun p => ρ p.2) 0 ((Array.range (len * n)).map (fun i => (if len * n = 0 then #[] else zv.cells)[i % (if len * n = 0 then #[] else zv.cells).size]!)) hsizes (by simp only [List.length_map, hlen, Nat.zero_add, Array.size_map, Array.size_range]; exact Nat.le_refl _)
          obtain ⟨h1, h2, h3⟩ := newRow_ok (w' := w.alloc (.cells cells' e)) h (es := parts.toList.map fun p => g p.2) (sz := n) (C := len) (fz := (0, 0)) (fun b hb => getElem?_push_lt _ _ hb) (by simp) (by first | exact Io.refl _ | exact ⟨rfl, rfl, rfl, .of (Nat.le_succ _)⟩ | exact ⟨rfl, rfl, rfl, .of (Nat.le_add_right _ 2)⟩) (alloc_at _ _) (.inl rfl) (by rw [List.length_map, hlen]; exact Nat.le_refl _) (by rw [r2]; simp)
            (fun e he => by
              obtain ⟨p, hp, rfl⟩ := List.mem_map.1 he
              obtain ⟨i, hi⟩ := List.getElem?_of_mem hp
              exact (hVs i p hi).2.1) (fun k e j c hk hj => by
              simp only [List.getElem?_map, Option.map_eq_some_iff] at hk
              obtain ⟨p, hp, rfl⟩ := hk
              obtain ⟨_, q1, q2⟩ := hVs k p hp
              obtain ⟨s1, s2⟩ := (hg p.2).cells (ne_und_of_one q2)
              have hjl := (List.getElem?_eq_some_iff.1 hj).1
              have hvj : (ρ p.2).cells[j]? = some (ρ p.2).cells[j] := Array.getElem?_eq_getElem (by omega)
              have := r4 k (ρ p.2) j _ (by simp [hp]) hvj
              exact ⟨_, by simpa using this, s2 j c _ hj hvj⟩)
          refine ⟨.slice (some ⟨w.heap.size, 0, none⟩) len len, _, _, ?_, h1, h2, h3, .refS _ _ _ _ _ _ _ _ _ (put_self _ _ _) (Nat.le_refl _) (Nat.le_refl _) (Nat.le_refl _) fun _ => ⟨rfl, by simp, .inr (by simp)⟩⟩
          have hsz : ¬ (len * n > 16777216) := by omega
          simp only [Instr.buildSlice, Sem.run_bind, run_underlying hu, Result.andThen_ok, run_sz hn]
          rw [if_neg (by show ¬ (len * n > 2 ^ 24); omega)]
          by_cases h0 : len * n = 0
          · simp only [h0, if_true, Sem.run_pure, Result.andThen_ok, Sem.run_bind] at r1 ⊢
            rw [hparts, r1]
            simp [newRow]
          · simp only [h0, if_false, Sem.run_bind, hzv, Result.andThen_ok, Sem.run_pure] at r1 ⊢
            rw [hparts, r1]
            simp [newRow]
        · cases he
      · cases he
    · cases he
  · cases he

theorem sameNow_bits {kt : TypeDesc} {a b : Value} (h : Instr.sameNow kt a b = some true) (n : Nat) : Instr.sameBits n b a = true := by
  unfold Instr.sameNow at h
  split at h
  · split at h
    · rename_i e
      subst e
      simp at h
      subst h
      cases n <;> simp [Instr.sameBits]
    · cases h
  · rename_i x y
    have e : x = y := by
      have h1 := Option.some.inj h
      rw [beq_toListBytes, ByteArray.toList_eq, ByteArray.toList_eq] at h1
      have h2 := eq_of_beq h1
      exact ByteArray.ext (Array.toList_inj.1 h2)
    subst e
    have := Option.some.inj h
    cases n <;> simp [Instr.sameBits, this]
  · have h1 := Option.some.inj h
    have h2 := eq_of_beq h1
    subst h2
    cases n <;> simp [Instr.sameBits]
  · cases h

theorem findNow_shift (kt : TypeDesc) (k : Value) : ∀ (ents : List MapEntry) (n m : Nat), Instr.findNow kt k ents (n + m) = (Instr.findNow kt k ents n).map fun r => r.map fun p => (p.1 + m, p.2)
  | [], n, m => rfl
  | e :: ents, n, m => by
    simp only [Instr.findNow]
    split
    · rfl
    · rw [← findNow_shift kt k ents (n + 1) m]
      congr 1
      omega
    · rfl

theorem put_ok {kt : TypeDesc} {k v : DV} {kv vv : Value} (hk : V S μ w k kv) (hv : V S μ w v vv) (hkt : kt = .string ∧ (∃ s, k = .str s) ∨ (∃ i, kt = .int i) ∧ (∃ i n, k = .int i n) ∨ kt = .bool ∧ ∃ b, k = .bool b) (hkk : (keyEq k k).isSome = true) (clock : Nat) :
    ∀ (es es' : List (DV × DV)) (ents : List MapEntry), es.length = ents.length → (∀ (i : Nat) (e : DV × DV) (m : MapEntry), es[i]? = some e → ents[i]? = some m → V S μ w e.1 m.key ∧ V S μ w e.2 m.val ∧ (keyEq e.1 e.1).isSome = true) → putK k v es = some es' →
    ∃ ents', ((Instr.findNow kt kv ents 0 = some none ∧ ents' = ents ++ [{ key := kv, val := vv, born := clock }]) ∨
      (∃ i x m, Instr.findNow kt kv ents 0 = some (some (i, x)) ∧ ents[i]? = some m ∧ Instr.sameNow kt kv m.key = some true ∧ ents' = ents.modify i fun e => { e with key := kv, val := vv })) ∧
      es'.length = ents'.length ∧ ∀ (i : Nat) (e : DV × DV) (m : MapEntry), es'[i]? = some e → ents'[i]? = some m → V S μ w e.1 m.key ∧ V S μ w e.2 m.val ∧ (keyEq e.1 e.1).isSome = true
  | [], es', [], _, _, hp => by
    cases hp
    refine ⟨_, .inl ⟨rfl, rfl⟩, rfl, fun i e m he hm => ?_⟩
    cases i with
    | zero => simp at he hm; subst he hm; exact ⟨hk, hv, hkk⟩
    | succ i => simp at he
  | [], _, _ :: _, hl, _, _ => by simp at hl
  | _ :: _, _, [], hl, _, _ => by simp at hl
  | e :: es, es', m :: ents, hl, hvs, hp => by
    obtain ⟨v1, v2, v3⟩ := hvs 0 e m rfl rfl
    simp only [putK] at hp
    have hs : ∀ b, keyEq k e.1 = some b → Instr.sameNow kt kv m.key = some b := by
      intro b hb
      have hf := find_ok (S := S) (μ := μ) (w := w) (kt := kt) hk [e] [m] 0 (if b then some e.2 else none) rfl (fun i e' m' he hm => by
        cases i with
        | zero => simp at he hm; subst he hm; exact ⟨v1, v2⟩
        | succ i => simp at he) (by cases b <;> simp [findK, hb]) hkt
      cases b with
      | true =>
        simp only [if_true] at hf
        obtain ⟨i, x, m', q1, _, _⟩ := hf
        simp only [Instr.findNow] at q1
        split at q1
        · assumption
        · cases q1
        · cases q1
      | false =>
        simp only [Bool.false_eq_true, if_false] at hf
        simp only [Instr.findNow] at hf
        split at hf
        · cases hf
        · assumption
        · cases hf
    split at hp
    · rename_i hq
      cases hp
      refine ⟨{ m with key := kv, val := vv } :: ents, .inr ⟨0, m.val, m, by simp [Instr.findNow, hs _ hq], rfl, hs _ hq, by simp⟩, by simpa using hl, fun i e' m' he hm => ?_⟩
      cases i with
      | zero => simp at he hm; subst he hm; exact ⟨hk, hv, hkk⟩
      | succ i => exact hvs (i + 1) e' m' (by simpa using he) (by simpa using hm)
    · rename_i hq
      simp only [Option.map_eq_some_iff] at hp
      obtain ⟨es2, hp2, rfl⟩ := hp
      obtain ⟨ents2, q1, q2, q3⟩ := put_ok hk hv hkt hkk clock es es2 ents (by simpa using hl) (fun i e' m' he hm => hvs (i + 1) e' m' (by simpa using he) (by simpa using hm)) hp2
      refine ⟨m :: ents2, ?_, by simpa using q2, fun i e' m' he hm => ?_⟩
      · have hfn : Instr.findNow kt kv (m :: ents) 0 = (Instr.findNow kt kv ents 0).map fun r => r.map fun p => (p.1 + 1, p.2) := by
          simp only [Instr.findNow, hs _ hq]
          exact findNow_shift kt kv ents 0 1
        rcases q1 with ⟨r1, r2⟩ | ⟨i, x, m', r1, r2, r3, r4⟩
        · exact .inl ⟨by rw [hfn, r1]; rfl, by rw [r2]; rfl⟩
        · exact .inr ⟨i + 1, x, m', by rw [hfn, r1]; rfl, by simpa using r2, r3, by rw [r4]; simp⟩
      · cases i with
        | zero => simp at he hm; subst he hm; exact ⟨v1, v2, v3⟩
        | succ i => exact q3 i e' m' (by simpa using he) (by simpa using hm)
    · cases hp

theorem plainKey_spec {kt : TypeId} {kd : DV} {kv : Value} (hk : plainKey P kt kd = true) (hx : V S μ w kd kv) : ∃ ktd, P.underlying kt = some ktd ∧ (∀ (b : Bool) (n : Nat) (w0 : World), (Instr.checkKey b (n + 1) kt kv).run P w0 = .ok () w0) ∧
    (ktd = .string ∧ (∃ s, kd = .str s) ∨ (∃ i, ktd = .int i) ∧ (∃ i n, kd = .int i n) ∨ ktd = .bool ∧ ∃ b, kd = .bool b) ∧ (keyEq kd kd).isSome = true := by
  unfold plainKey at hk
  split at hk
  · cases hx
    cases hu' : P.underlying kt with
    | none => simp [hu'] at hk
    | some d => cases d <;> simp [hu'] at hk; exact ⟨_, rfl, fun b n w0 => by simp [Instr.checkKey, run_underlying hu'], .inr (.inl ⟨⟨_, rfl⟩, _, _, rfl⟩), by simp [keyEq]⟩
  · cases hx
    cases hu' : P.underlying kt with
    | none => simp [hu'] at hk
    | some d => cases d <;> simp [hu'] at hk; exact ⟨_, rfl, fun b n w0 => by simp [Instr.checkKey, run_underlying hu'], .inl ⟨rfl, _, rfl⟩, by simp [keyEq]⟩
  · cases hx
    cases hu' : P.underlying kt with
    | none => simp [hu'] at hk
    | some d => cases d <;> simp [hu'] at hk; exact ⟨_, rfl, fun b n w0 => by simp [Instr.checkKey, run_underlying hu'], .inr (.inr ⟨rfl, _, rfl⟩), by simp [keyEq]⟩
  · cases hk

theorem evE_mapUpdate (h : HR NG S μ H w) (hg : ∀ x, V S μ w (g x) (ρ x)) {o : Oper} {t : TypeId} {m k x : Operand} {d : DV} {eff : Eff} (ho : o.op = .mapUpdate t m k x) (he : evE P H g o.op = some (d, eff)) : okE P NG S μ H w ρ o d (eff.on H) := by
  rw [ho] at he
  simp only [evE] at he
  have hm := hg m
  split at he
  · rename_i kt et r hu hgm
    split at he
    · rename_i es hr
      split at he
      · rename_i hpk
        simp only [Option.map_eq_some_iff] at he
        obtain ⟨es', hput, he⟩ := he
        cases he
        refine okE_skip (s := Instr.mapUpdate t (ρ m) (ρ k) (ρ x)) (by simp [execOp, ho]) ?_
        obtain ⟨p, hp, hp0, ents, clock, hb, hmo⟩ := h.map r es hr
        rw [hgm] at hm
        generalize ρ m = mv at hm
        cases hm with
        | mp _ b p' hp' hb' =>
          rw [hp] at hp'
          cases hp'
          obtain rfl := hb' hp0
          obtain ⟨ktd, hku, hck, hkt, hkk⟩ := plainKey_spec hpk (hg k)
          obtain ⟨ents', q1, q2, q3⟩ := put_ok (hg k) (hg x) hkt hkk clock es es' ents.toList (by simpa using hmo.1) (fun i e m he hm => hmo.2 i e m he (by simpa using hm)) hput
          have hlt : p.B < w.heap.size := (Array.getElem?_eq_some_iff.1 hb).1
          have key : ∀ (clock' : Nat), let w' : World := { w with heap := w.heap.setIfInBounds p.B (.map ents'.toArray clock') }
              HR NG S (μ.put r p) (H.set r (.map es')) w' ∧ Step H.length S μ H w S (μ.put r p) (H.set r (.map es')) w' ∧ (∀ d v, V S μ w d v → V S (μ.put r p) w' d v) := by
            intro clock'
            refine set_ok h (r := r) (o := .map es') (p := p) (p' := p) (.inr ⟨es, hr⟩) hp (Nat.le_refl _) (fun _ => rfl) (.inl rfl) (fun b _ hb => by simp [Array.getElem?_setIfInBounds_ne (Ne.symm hb)]) (by simp) (by first | exact Io.refl _ | exact ⟨rfl, rfl, rfl, .of (Nat.le_succ _)⟩ | exact ⟨rfl, rfl, rfl, .of (Nat.le_add_right _ 2)⟩) (fun B c hc => ?_) ?_
            · by_cases hB : B = p.B
              · subst hB
                have e1 : (w.heap.setIfInBounds p.B (.map ents'.toArray clock'))[p.B]? = some (.map ents'.toArray clock') := by simp [hlt]
                simp only [cellAt, hb, e1]
              · simp [cellAt, Array.getElem?_setIfInBounds_ne (Ne.symm hB)]
            · refine ⟨hp0, ents'.toArray, clock', by simp [hlt], fun hV => ⟨by simpa using q2, fun i e m he hm => ?_⟩⟩
              obtain ⟨z1, z2, z3⟩ := q3 i e m he (by simpa using hm)
              exact ⟨hV _ _ z1, hV _ _ z2, z3⟩
          rcases q1 with ⟨r1, r2⟩ | ⟨i, y, m', r1, r2, r3, r4⟩
          · obtain ⟨g1, g2, g3⟩ := key (clock + 1)
            refine ⟨_, _, ?_, g1, g2, g3⟩
            have hfk : (Instr.findKey kt (ρ k) ents.toList).run P w = .ok none w := by simp [Instr.findKey, run_underlying hku, r1]
            have e1 : ents'.toArray = ents.push { key := ρ k, val := ρ x, born := clock } := by apply Array.ext'; simp [r2]
            simp [Instr.mapUpdate, run_underlying hu, getObj, setObj, Sem.run, hb, hck false 9999, hfk, e1]
          · obtain ⟨g1, g2, g3⟩ := key clock
            refine ⟨_, _, ?_, g1, g2, g3⟩
            have hfk : (Instr.findKey kt (ρ k) ents.toList).run P w = .ok (some (i, y)) w := by simp [Instr.findKey, run_underlying hku, r1]
            have e1 : ents'.toArray = ents.modify i fun e => { e with key := ρ k, val := ρ x } := by apply Array.ext'; rw [r4]; simp
            have hst : ((ents[i]?).map (·.key)).getD (ρ k) = m'.key := by rw [← Array.getElem?_toList, r2]; rfl
            simp [Instr.mapUpdate, run_underlying hu, getObj, setObj, Sem.run, hb, hck false 9999, hfk, Instr.keyThatStays, hst, sameNow_bits r3, e1]
      · cases he
    · cases he
  · cases he
end Go.Dev

/- Operations that write to the heap, or make something there: copy; all of them. -/
namespace Go.Dev
variable {P : Program} {S : Nat → Nat → Prop} {μ : Mu} {w w' : World} {H : Heap} {NG : Nat}
variable {g : Operand → DV} {ρ : Operand → Value}

theorem evE_copy (h : HR NG S μ H w) (hg : ∀ x, V S μ w (g x) (ρ x)) {o : Oper} {args : Array Operand} {argTypes : Array TypeId} {d : DV} {eff : Eff} (ho : o.op = .call { callee := .builtin .copy, args, argTypes })
    (he : evE P H g o.op = some (d, eff)) : okE P NG S μ H w ρ o d (eff.on H) := by
  rw [ho] at he
  refine okE_of (s := Builtin.copy_ argTypes o.type (args.map ρ)) (by simp [execOp, ho, resolve, invoke, builtin]) ?_
  simp only [evE] at he
  split at he
  rotate_left
  · cases he
  rename_i h2
  split at he
  rotate_left
  · cases he
  rename_i st s xt x hst hs hxt hx
  split at he
  rotate_left
  · cases he
  rename_i e hue
  split at he
  rotate_left
  · cases he
  rename_i n n' new r off len sz gg cl hn hadd hgs
  split at he
  rotate_left
  · cases he
  rename_i R hr
  split at he
  rotate_left
  · cases he
  rename_i hc
  obtain ⟨d1, d2, d3, d4, d5, d6, d7, d8, d9⟩ := hc
  subst d3 d4
  cases he
  have ev : args.map ρ = #[ρ s, ρ x] := by
    apply Array.ext'
    apply List.ext_getElem?
    intro k
    match k with
    | 0 => simp [hs]
    | 1 => simp [hx]
    | k + 2 => simp [show args[k + 2]? = none from Array.getElem?_eq_none (by omega)]
  have et : argTypes = #[st, xt] := by
    apply Array.ext'
    apply List.ext_getElem?
    intro k
    match k with
    | 0 => simpa using hst
    | 1 => simpa using hxt
    | k + 2 => simp [show argTypes[k + 2]? = none from Array.getElem?_eq_none (by omega)]
  rw [ev, et]
  have hvs := hg s
  have hvx := hg x
  rw [hgs] at hvs
  generalize ρ s = vs at hvs
  generalize ρ x = vx at hvx
  obtain ⟨news, dx, hxu, hnk, ⟨hfl, hfc⟩, hone, hrun⟩ := add_ok h hadd hvx d5 d8
  have hallc : ∀ d ∈ new, d.cells.length = n' ∧ d.cells.all DV.one = true := fun d hd => by
    have := List.all_eq_true.1 d8 d hd
    simp only [Bool.and_eq_true, decide_eq_true_eq] at this
    exact this
  cases hvs with
  | ref _ _ _ _ _ _ a cap p hp hgg hcap hcl ha hn =>
    obtain ⟨a, rfl⟩ : ∃ a', a = some a' := by
      cases a with
      | none => have := hn rfl; omega
      | some a => exact ⟨a, rfl⟩
    obtain ⟨p', hp', hrow⟩ := h.row r R hr
    rw [hp] at hp'
    cases hp'
    obtain ⟨a1, a2, a3⟩ := ha (by have := hrow.1; omega)
    subst d2
    have hkn : min new.length len ≤ new.length := Nat.min_le_left _ _
    have hkl : min new.length len ≤ len := Nat.min_le_right _ _
    have hKm2 : min new.length len * R.sz ≤ new.length * R.sz := Nat.mul_le_mul_right _ hkn
    have hvl : (news.take (min new.length len * R.sz)).length = (new.take (min new.length len)).length * R.sz := by rw [List.length_take, List.length_take, hfl]; rw [Nat.min_eq_left hkn, Nat.min_eq_left hKm2]
    have hnl : (new.take (min new.length len)).length = min new.length len := by rw [List.length_take, Nat.min_eq_left hkn]
    obtain ⟨w', μ', s1, s2, s3, s4, s5⟩ := over_ok (P := P) h hr hp (q0 := off) (new := new.take (min new.length len)) (news := news.take (min new.length len * R.sz)) hvl
      (fun i e j c hi hj hlt => by
        have hil : i < min new.length len := by have := (List.getElem?_eq_some_iff.1 hi).1; omega
        rw [List.getElem?_take_of_lt hil] at hi
        obtain ⟨cv, q1, q2⟩ := hfc i e j c hi hj hlt
        have hm : (i + 1) * R.sz ≤ min new.length len * R.sz := Nat.mul_le_mul_right _ hil
        rw [Nat.add_mul, Nat.one_mul] at hm
        exact ⟨cv, by rw [List.getElem?_take_of_lt (by omega)]; exact q1, q2⟩)
      (fun u hu => hone u (List.mem_of_mem_take hu)) (fun d hd => (hallc d (List.mem_of_mem_take hd)).1) (by omega) (by omega) (.inl d6)
    rw [hnl] at s3 s4
    refine ⟨.int .i64 (min new.length len : Nat), w', μ', ?_, s3, s4, s5, .int _ _⟩
    have hf := (hrun w rfl).2 (min new.length len) hkn
    have hmin : Nat.min new.length len = min new.length len := rfl
    have hst : (storeCells a (news.take (min new.length len * R.sz)) 0).run P w = .ok () w' := by
      by_cases hz : min new.length len = 0
      · rw [hz] at s1 ⊢
        simpa [storeCells] using s1
      · rw [Option.some.inj (a3.resolve_left (by omega)), ← a1]
        exact s1
    simp [Builtin.copy_, run_underlying hue, (hrun w rfl).1, run_sz hn, hmin, hf, hst, goInt]

theorem evE_clear (h : HR NG S μ H w) (hg : ∀ x, V S μ w (g x) (ρ x)) {o : Oper} {args : Array Operand} {argTypes : Array TypeId} {d : DV} {eff : Eff} (ho : o.op = .call { callee := .builtin .clear, args, argTypes })
    (he : evE P H g o.op = some (d, eff)) : okE P NG S μ H w ρ o d (eff.on H) := by
  rw [ho] at he
  refine okE_of (s := Builtin.clear_ argTypes o.type (args.map ρ)) (by simp [execOp, ho, resolve, invoke, builtin]) ?_
  simp only [evE] at he
  split at he
  rotate_left
  · cases he
  rename_i h2
  split at he
  rotate_left
  · cases he
  rename_i st s hst hs
  have ha0 : (args.map ρ)[0]? = some (ρ s) := by simp [hs]
  have hvs := hg s
  have tupV : V S μ w (.tup []) (.tuple #[]) := .tup _ _ rfl fun i c v hc => by simp at hc
  generalize ρ s = v at hvs ha0
  generalize g s = y at hvs he
  split at he
  · rename_i e hu
    cases he
    cases hvs
    exact ⟨.tuple #[], w, μ, by simp [Builtin.clear_, hst, ha0, run_underlying hu], h, Step.refl _ _ _ _ _, fun _ _ h => h, tupV⟩
  · rename_i e r off len sz gg cl hu
    split at he
    rotate_left
    · cases he
    rename_i i z R hi hz hr
    split at he
    · rename_i h0
      cases he
      subst h0
      cases hvs with
      | ref _ _ _ _ _ _ a cap p hp hgg hcap hcl ha hn => exact ⟨.tuple #[], w, μ, by cases a <;> simp [Builtin.clear_, hst, ha0, run_underlying hu], h, Step.refl _ _ _ _ _, fun _ _ h => h, tupV⟩
    · rename_i h0
      split at he
      rotate_left
      · cases he
      rename_i hc
      obtain ⟨d1, d2, d3, d4, d5, d6, d7, d8⟩ := hc
      cases he
      obtain ⟨zv, hzv, rfl, _⟩ := run_zeroT hz w
      obtain ⟨q1, q2⟩ := one_elem (cst_V S μ w 3 zv) d7 d4 d8
      cases hvs with
      | ref _ _ _ _ _ _ a cap p hp hgg hcap hcl ha hn =>
        obtain ⟨a, rfl⟩ : ∃ a', a = some a' := by
          cases a with
          | none => have := hn rfl; omega
          | some a => exact ⟨a, rfl⟩
        obtain ⟨p', hp', hrow⟩ := h.row r R hr
        rw [hp] at hp'
        cases hp'
        obtain ⟨a1, a2, a3⟩ := ha (by have := hrow.1; omega)
        subst d2
        have hzl : ∀ k : Nat, k < len * i.size → (Builtin.zeroCells zv.cells len).toList[k]? = some (zv.cells[k % i.size]'(by rw [q1]; exact Nat.mod_lt _ (Nat.pos_of_ne_zero d4))) := by
          intro k hk
          rw [Array.getElem?_toList]
          simp only [Builtin.zeroCells, Array.getElem?_map, Array.getElem?_range, q1, hk, if_true, Option.map_some]
          rw [getElem!_pos _ _ (by rw [q1]; exact Nat.mod_lt _ (Nat.pos_of_ne_zero d4))]
        have hzlen : (Builtin.zeroCells zv.cells len).toList.length = len * i.size := by simp [Builtin.zeroCells, q1]
        obtain ⟨w', μ', s1, s2, s3, s4, s5⟩ := over_ok (P := P) h hr hp (q0 := off) (new := List.replicate len (cst 3 zv)) (news := (Builtin.zeroCells zv.cells len).toList) (by rw [hzlen, List.length_replicate, d3])
          (fun k e' j c hk hj hlt => by
            rw [d3] at hlt ⊢
            rw [List.getElem?_replicate] at hk
            split at hk
            · rename_i hkl
              cases hk
              obtain ⟨u, r1, r2⟩ := q2 0 _ j c rfl hj
              simp only [Nat.zero_mul, Nat.zero_add] at r1
              have hm : (k + 1) * i.size ≤ len * i.size := Nat.mul_le_mul_right _ hkl
              rw [Nat.add_mul, Nat.one_mul] at hm
              refine ⟨u, ?_, r2⟩
              rw [hzl _ (by omega)]
              have e1 : (k * i.size + j) % i.size = j := by rw [Nat.mul_comm, Nat.mul_add_mod, Nat.mod_eq_of_lt hlt]
              simp only [e1]
              rw [← r1, Array.getElem?_eq_getElem (by omega)]
            · cases hk)
          (fun u hu => by
            obtain ⟨k, hk⟩ := List.getElem?_of_mem hu
            have hkl := (List.getElem?_eq_some_iff.1 hk).1
            rw [hzl k (by omega)] at hk
            cases hk
            exact cells_one (cst_V S μ w 3 zv) d8 (ne_und_of_one d8) _ (by simp))
          (fun d hd => by rw [(List.mem_replicate.1 hd).2, d3]; exact d7) (by omega) (by rw [List.length_replicate]; omega) (.inl d5)
        rw [List.length_replicate] at s3 s4
        refine ⟨.tuple #[], w', μ', ?_, s3, s4, s5, .tup _ _ rfl fun i c v hc => by simp at hc⟩
        have ea := Option.some.inj (a3.resolve_left (by omega))
        have hl0 : len ≠ 0 := h0
        obtain ⟨len', rfl⟩ : ∃ k, len = k + 1 := ⟨len - 1, by omega⟩
        have hst' : (storeCells a (Builtin.zeroCells zv.cells (len' + 1)).toList 0).run P w = .ok () w' := by
          rw [ea, ← a1]; exact s1
        simp [Builtin.clear_, hst, ha0, run_underlying hu, hzv, hst']
  · cases he

theorem evE_ok (h : HR NG S μ H w) (hg : ∀ x, V S μ w (g x) (ρ x)) {o : Oper} {d : DV} {eff : Eff} (he : evE P H g o.op = some (d, eff)) : okE P NG S μ H w ρ o d (eff.on H) := by
  cases ho : o.op with
  | alloc t => exact evE_alloc h ho he
  | box t x => exact evE_box h hg ho he
  | store t a x => exact evE_store h hg ho he
  | buildSlice t n ps => exact evE_buildSlice h hg ho he
  | makeSlice t l c => exact evE_makeSlice h hg ho he
  | makeMap t r => exact evE_makeMap h hg ho he
  | mapUpdate t m k x => exact evE_mapUpdate h hg ho he
  | convert s t x => exact evE_convert h hg ho he
  | call c =>
    obtain ⟨callee, args, argTypes⟩ := c
    cases callee with
    | builtin b =>
      cases b <;> first
        | (exact evE_append h hg ho he)
        | (exact evE_copy h hg ho he)
        | (exact evE_clear h hg ho he)
        | (exact evE_unsafeString h hg ho he)
        | (rw [ho] at he; simp [evE] at he; done)
    | value f => exact evE_noZero h hg ho he
    | _ => rw [ho] at he; simp [evE] at he
  | _ => rw [ho] at he; simp [evE] at he
end Go.Dev
