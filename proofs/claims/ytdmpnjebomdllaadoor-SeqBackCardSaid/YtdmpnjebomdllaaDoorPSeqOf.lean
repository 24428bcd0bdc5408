/- The set of a list, plainly: its spans, highest first, and which numbers they have. -/
import Derived.Test.YtdmpnjebomdllaaDoorPSeqLib
import Derived.Test.YtdmpnjebomdllaaDoorX2
namespace Go.Proofs.Mine
open Go.RowKit Go.Proofs.YtdmpnjebomdllaaDoorW.PrintWords Go.Proofs.YtdmpnjebomdllaaDoorW.PrintLast Go.Proofs.YtdmpnjebomdllaaDoor.X
set_option linter.unusedSimpArgs false

def okS (s : S38) : Prop := 1 ≤ s.f0 ∧ s.f0 ≤ s.f1 ∧ s.f1 ≤ 4294967295
/-- Spans, the highest first: each in order, gaps between. -/
def Chain : List S38 → Prop
  | [] => True
  | s :: r => okS s ∧ (∀ t ∈ r, t.f1 + 1 < s.f0) ∧ Chain r
def stepR (R : List S38) (y : Int) : List S38 :=
  if y < 1 ∨ y > 4294967295 then R else match R with
  | [] => [⟨y, y⟩]
  | s :: r => if y ≤ s.f1 + 1 then ⟨s.f0, y⟩ :: r else ⟨y, y⟩ :: s :: r
def TopLe (R : List S38) (l : List Int) : Prop := ∀ s r, R = s :: r → ∀ z ∈ l, s.f1 ≤ z
theorem stepR_chain {R : List S38} {y : Int} (h : Chain R) (ht : ∀ s r, R = s :: r → s.f1 ≤ y) : Chain (stepR R y) := by
  unfold stepR
  split
  · exact h
  · rename_i hy
    cases R with
    | nil => exact ⟨⟨by show (1 : Int) ≤ y; omega, Int.le_refl _, by show y ≤ 4294967295; omega⟩, (fun t ht => by cases ht), trivial⟩
    | cons s r =>
      have hs := ht s r rfl
      obtain ⟨⟨a, b, c⟩, d, e⟩ := h
      dsimp only
      split
      · exact ⟨⟨a, by show s.f0 ≤ y; omega, by show y ≤ 4294967295; omega⟩, d, e⟩
      · refine ⟨⟨by show (1 : Int) ≤ y; omega, Int.le_refl _, by show y ≤ 4294967295; omega⟩, fun t htm => ?_, ⟨a, b, c⟩, d, e⟩
        show t.f1 + 1 < y
        rcases List.mem_cons.1 htm with rfl | htm
        · omega
        · have := d t htm
          omega
theorem stepR_len (R : List S38) (y : Int) : (stepR R y).length ≤ R.length + 1 := by
  unfold stepR
  split
  · omega
  · cases R with
    | nil => simp
    | cons s r =>
      dsimp only
      split <;> simp
theorem stepR_top {R : List S38} {y : Int} {l : List Int} (h : TopLe R (y :: l)) (hs : ∀ z ∈ l, y ≤ z) : TopLe (stepR R y) l := by
  intro s r e z hz
  unfold stepR at e
  split at e
  · exact h s r e z (List.mem_cons_of_mem _ hz)
  · cases R with
    | nil =>
      cases e
      exact hs z hz
    | cons t q =>
      dsimp only at e
      split at e <;> (cases e; exact hs z hz)
def has (R : List S38) (n : Int) : Prop := ∃ s ∈ R, s.f0 ≤ n ∧ n ≤ s.f1
theorem stepR_has {R : List S38} {y n : Int} (h : Chain R) (ht : ∀ s r, R = s :: r → s.f1 ≤ y) (hn : 1 ≤ n ∧ n ≤ 4294967295) : has (stepR R y) n ↔ has R n ∨ n = y := by
  unfold stepR
  split
  · rename_i hy
    constructor
    · exact .inl
    · rintro (h | rfl)
      · exact h
      · omega
  · rename_i hy
    cases R with
    | nil =>
      constructor
      · rintro ⟨s, hs, h1, h2⟩
        rw [List.mem_singleton] at hs
        subst hs
        exact .inr (Int.le_antisymm h2 h1)
      · rintro (⟨s, hs, _⟩ | rfl)
        · cases hs
        · exact ⟨⟨n, n⟩, by simp, Int.le_refl _, Int.le_refl _⟩
    | cons s r =>
      have hs := ht s r rfl
      obtain ⟨⟨a, b, c⟩, d, e⟩ := h
      dsimp only
      split
      · rename_i hle
        constructor
        · rintro ⟨t, htm, h1, h2⟩
          rcases List.mem_cons.1 htm with rfl | htm
          · have h1' : s.f0 ≤ n := h1
            have h2' : n ≤ y := h2
            by_cases hny : n = y
            · exact .inr hny
            · exact .inl ⟨s, by simp, h1', by omega⟩
          · exact .inl ⟨t, List.mem_cons_of_mem _ htm, h1, h2⟩
        · rintro (⟨t, htm, h1, h2⟩ | rfl)
          · rcases List.mem_cons.1 htm with rfl | htm
            · exact ⟨⟨t.f0, y⟩, by simp, h1, by show n ≤ y; omega⟩
            · exact ⟨t, List.mem_cons_of_mem _ htm, h1, h2⟩
          · exact ⟨⟨s.f0, n⟩, by simp, by show s.f0 ≤ n; omega, Int.le_refl _⟩
      · rename_i hle
        constructor
        · rintro ⟨t, htm, h1, h2⟩
          rcases List.mem_cons.1 htm with rfl | htm
          · exact .inr (Int.le_antisymm h2 h1)
          · exact .inl ⟨t, htm, h1, h2⟩
        · rintro (⟨t, htm, h1, h2⟩ | rfl)
          · exact ⟨t, List.mem_cons_of_mem _ htm, h1, h2⟩
          · exact ⟨⟨n, n⟩, by simp, Int.le_refl _, Int.le_refl _⟩
theorem fold_of : ∀ (l : List Int) (R : List S38), l.Pairwise (· ≤ ·) → Chain R → TopLe R l →
    Chain (l.foldl stepR R) ∧ (l.foldl stepR R).length ≤ R.length + l.length ∧ ∀ n, 1 ≤ n ∧ n ≤ 4294967295 → (has (l.foldl stepR R) n ↔ has R n ∨ n ∈ l)
  | [], R, _, h, _ => ⟨h, by simp, fun n _ => by simp⟩
  | y :: l, R, hp, h, ht => by
    have hp' := List.pairwise_cons.1 hp
    have ht' : ∀ s r, R = s :: r → s.f1 ≤ y := fun s r e => ht s r e y (by simp)
    obtain ⟨a, b, c⟩ := fold_of l (stepR R y) hp'.2 (stepR_chain h ht') (stepR_top ht hp'.1)
    refine ⟨a, ?_, fun n hn => ?_⟩
    · have := stepR_len R y
      rw [List.foldl_cons, List.length_cons]
      omega
    · rw [List.foldl_cons, c n hn, stepR_has h ht' hn, List.mem_cons, or_assoc]
theorem of_loop (L : List Int) (hL : L.length ≤ 60) : ∀ (l pre : List Int) (R : List S38), L = pre ++ l → l.Pairwise (· ≤ ·) → Chain R → TopLe R l → R.length ≤ pre.length →
    Ev (fun k => seq_Of.l0 k L (L.length : Int) (pre.length : Int) R.reverse) (l.foldl stepR R).reverse := by
  intro l
  induction l with
  | nil =>
    intro pre R h _ _ _ _
    have hl : L.length = pre.length := by rw [h]; simp
    exact Ev.after fun k => by rw [seq_Of.l0, if_neg (by omega)]; rfl
  | cons y l ih =>
    intro pre R h hp hc ht hR
    have hl : L.length = pre.length + (l.length + 1) := by rw [h]; simp
    have hr : rd L (pre.length : Int) = y := by rw [h]; exact rd_of
    have hp' := List.pairwise_cons.1 hp
    have ht' : ∀ s r, R = s :: r → s.f1 ≤ y := fun s r e => ht s r e y (by simp)
    have ih' := ih (pre ++ [y]) (stepR R y) (by rw [h]; simp) hp'.2 (stepR_chain hc ht') (stepR_top ht hp'.1) (by have := stepR_len R y; simp; omega)
    rw [List.length_append, List.length_singleton] at ih'
    rw [List.foldl_cons]
    by_cases hy : y < 1 ∨ y > 4294967295
    · have hs : stepR R y = R := by unfold stepR; rw [if_pos hy]
      rw [hs] at ih' ⊢
      have e : ∀ k, seq_Of.l0 (k + 1) L (L.length : Int) (pre.length : Int) R.reverse = seq_Of.j1 k y L (L.length : Int) (pre.length : Int) true R.reverse := by
        intro k
        rw [seq_Of.l0, if_pos (by omega), if_pos (by omega), if_pos (by omega), hr]
        by_cases h1 : y < 1
        · rw [if_pos h1]
        · rw [if_neg h1, decide_eq_true (by omega)]
      refine Ev.step e (Ev.step (fun k => ?_) ih')
      rw [seq_Of.j1, if_pos rfl, wrap_nat (by omega)]
    · have e : ∀ k, seq_Of.l0 (k + 1) L (L.length : Int) (pre.length : Int) R.reverse = seq_Of.j1 k y L (L.length : Int) (pre.length : Int) false R.reverse := by
        intro k
        rw [seq_Of.l0, if_pos (by omega), if_pos (by omega), if_pos (by omega), hr, if_neg (by omega), decide_eq_false (by omega)]
      refine Ev.step e ?_
      have hlen : R.reverse.length = R.length := List.length_reverse
      cases R with
      | nil =>
        have hs : stepR [] y = [⟨y, y⟩] := by unfold stepR; rw [if_neg hy]
        rw [hs] at ih' ⊢
        refine Ev.step (f := fun k => seq_Of.j2 k y (wrap64 ((([] : List S38).reverse.length : Int) - 1)) L (L.length : Int) (pre.length : Int) false ([] : List S38).reverse) (fun k => ?_) (Ev.step (fun k => ?_) ih')
        · rw [seq_Of.j1, if_neg (by decide), if_neg (by decide +kernel)]
        · rw [seq_Of.j2, if_neg (by decide), if_neg (by decide), if_pos (by decide), wrap_nat (by omega)]
          rfl
      | cons s r =>
        have hsr : (s :: r).reverse = r.reverse ++ [s] := List.reverse_cons
        have hll : (s :: r).reverse.length = r.length + 1 := by simp
        have hw : wrap64 (((s :: r).reverse.length : Int) - 1) = (r.length : Int) := by rw [hll, wrap_id (by omega) (by omega)]; omega
        have hrl : r.length + 1 ≤ 60 := by have := hR; simp at this; omega
        have hrd : rd_T38 (s :: r).reverse (r.length : Int) = s := by
          rw [hsr]
          have := rdS_of (pre := r.reverse) (l := []) (c := s)
          rwa [List.length_reverse] at this
        have hsf := ht' s r rfl
        obtain ⟨⟨a, b, c⟩, d, e'⟩ := hc
        have e1 : ∀ k, seq_Of.j1 (k + 1) y L (L.length : Int) (pre.length : Int) false (s :: r).reverse = seq_Of.j2 k y (r.length : Int) L (L.length : Int) (pre.length : Int) (decide (y ≤ s.f1 + 1)) (s :: r).reverse := by
          intro k
          rw [seq_Of.j1, if_neg (by decide), hw, if_pos (by omega), if_pos (by omega), if_pos (by rw [hll]; omega), hrd, wrap_id (n := s.f1 + 1) (by omega) (by omega)]
        refine Ev.step e1 ?_
        by_cases hle : y ≤ s.f1 + 1
        · have hs : stepR (s :: r) y = ⟨s.f0, y⟩ :: r := by unfold stepR; rw [if_neg hy]; dsimp only; rw [if_pos hle]
          rw [hs] at ih' ⊢
          refine Ev.step (fun k => ?_) ih'
          rw [decide_eq_true hle, seq_Of.j2, if_pos rfl, if_pos (by omega), if_pos (by rw [hll]; omega), hrd, wrap_nat (by omega), hsr, List.reverse_cons]
          congr 1
          rw [Int.toNat_natCast, List.set_append_right _ _ (by simp), List.length_reverse, Nat.sub_self]
          rfl
        · have hs : stepR (s :: r) y = ⟨y, y⟩ :: s :: r := by unfold stepR; rw [if_neg hy]; dsimp only; rw [if_neg hle]
          rw [hs] at ih' ⊢
          refine Ev.step (fun k => ?_) ih'
          rw [decide_eq_false hle, seq_Of.j2, if_neg (by decide), if_neg (by rw [hll]; omega), if_pos (by rw [hll]; omega), wrap_nat (by omega), List.reverse_cons (a := (⟨y, y⟩ : S38))]
/-- The set of a list. -/
def ofL (l : List Int) : List S38 := ((sortI l).foldl stepR []).reverse
theorem sortI_len (l : List Int) : (sortI l).length = l.length := (sortI_perm l).length_eq
theorem Of_ev (l : List Int) (hl : l.length ≤ 60) : Ev (fun k => seq_Of.f k l) (ofL l) := by
  have hc : slices_Clone_int64_int64.f l = some l := by unfold slices_Clone_int64_int64.f; rw [if_pos (by omega)]
  have hs : slices_SortFunc_int64_int64.f l = some (sortI l) := by unfold slices_SortFunc_int64_int64.f; rw [if_pos (by omega)]
  refine Ev.congr (fun k => by unfold seq_Of.f; rw [hc, Option.bind_some, hs, Option.bind_some]) ?_
  have := of_loop (sortI l) (by rw [sortI_len]; exact hl) (sortI l) [] [] rfl (sortI_sorted l) trivial (fun s r e => by cases e) (Nat.le_refl _)
  rw [sortI_len] at this
  exact this
theorem of_facts (l : List Int) : Chain ((sortI l).foldl stepR []) ∧ (ofL l).length ≤ l.length ∧ ∀ n, 1 ≤ n ∧ n ≤ 4294967295 → (has (ofL l) n ↔ n ∈ l) := by
  obtain ⟨a, b, c⟩ := fold_of (sortI l) [] (sortI_sorted l) trivial (fun s r e => by cases e)
  refine ⟨a, by unfold ofL; rw [List.length_reverse]; rw [sortI_len] at b; simpa using b, fun n hn => ?_⟩
  have e : has (ofL l) n ↔ has ((sortI l).foldl stepR []) n := by unfold has ofL; simp
  rw [e, c n hn, (sortI_perm l).mem_iff]
  constructor
  · rintro (⟨s, hs, _⟩ | h)
    · cases hs
    · exact h
  · exact .inr
end Go.Proofs.Mine
