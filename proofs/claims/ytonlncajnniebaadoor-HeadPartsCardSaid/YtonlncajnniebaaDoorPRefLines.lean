/- The reference's lines. -/
import Derived.Test.YtonlncajnniebaaDoorPLines
import Derived.Test.YtonlncajnniebaaDoorX4
namespace Go.Proofs.Mine
open Go.RowKit Go.Proofs.YtonlncajnniebaaDoorW.PrintWords Go.Proofs.YtonlncajnniebaaDoorW.PrintLast Go.Proofs.YtonlncajnniebaaDoor.X
set_option linter.unusedSimpArgs false
theorem rlines_end (L acc' : List Int) (acc : List (List Int)) (start : Nat) (cur : List Int) (i : Int) (hL : L = acc' ++ cur) (hs : acc'.length = start) (hz : L.length ≤ 1000000000) (ha : acc.length ≤ L.length) (hi : ¬ wrap64 (i + 1) < (L.length : Int)) (k : Nat) :
    frankingref1_Lines.l0 (k + 1) L acc (start : Int) i = some (acc ++ linesA cur []) := by
  have hl : L.length = start + cur.length := by rw [hL, List.length_append, hs]
  rw [frankingref1_Lines.l0, if_neg hi, linesA_nil]
  by_cases hc : cur = []
  · rw [if_neg (by rw [hl, hc]; simp), if_pos hc, List.append_nil]
  · have : 0 < cur.length := List.length_pos_iff.2 hc
    rw [if_pos (by omega), if_pos (by omega), if_pos (by omega), if_pos (by omega), if_neg hc, Int.toNat_natCast, ← hs]
    rw [hL, List.drop_left]
theorem rlines_loop (L : List Int) (hz : L.length ≤ 1000000000) : ∀ (n : Nat) (l pre cur : List Int) (acc : List (List Int)), l.length ≤ n → L = pre ++ cur ++ l → acc.length ≤ pre.length →
    Ev (fun k => frankingref1_Lines.l0 k L acc (pre.length : Int) ((pre.length + cur.length : Nat) : Int)) (acc ++ linesA cur l) := by
  intro n
  induction n with
  | zero =>
    intro l pre cur acc hn h ha
    obtain rfl : l = [] := List.length_eq_zero_iff.1 (by omega)
    have hl : L.length = pre.length + cur.length := by rw [h]; simp
    refine Ev.after fun k => ?_
    exact rlines_end L pre acc pre.length cur _ (by rw [h]; simp) rfl hz (by omega) (by rw [wrap_nat (by omega)]; omega) k
  | succ n ih =>
    intro l pre cur acc hn h ha
    cases l with
    | nil =>
      have hl : L.length = pre.length + cur.length := by rw [h]; simp
      refine Ev.after fun k => ?_
      exact rlines_end L pre acc pre.length cur _ (by rw [h]; simp) rfl hz (by omega) (by rw [wrap_nat (by omega)]; omega) k
    | cons c l =>
      have hl : L.length = pre.length + cur.length + (l.length + 1) := by rw [h]; simp; omega
      have b1 : pre.length + cur.length < 4611686018427387904 := by omega
      cases l with
      | nil =>
        simp at hl
        have e : linesA cur [c] = linesA (cur ++ [c]) [] := linesA_go cur c [] (by rintro ⟨_, m, hm⟩; cases hm)
        rw [e]
        refine Ev.after fun k => ?_
        exact rlines_end L pre acc pre.length (cur ++ [c]) _ (by rw [h]; simp) rfl hz (by omega) (by rw [wrap_nat b1]; omega) k
      | cons d m =>
        simp at hl
        have hr : rd L ((pre.length + cur.length : Nat) : Int) = c := by
          rw [h, show pre.length + cur.length = (pre ++ cur).length from List.length_append.symm]; exact rd_of
        have hr2 : rd L ((pre.length + cur.length + 1 : Nat) : Int) = d := by
          rw [h, show pre ++ cur ++ c :: d :: m = (pre ++ cur ++ [c]) ++ d :: m by simp, show pre.length + cur.length + 1 = (pre ++ cur ++ [c]).length by rw [List.length_append, List.length_append, List.length_singleton]]; exact rd_of
        have i1 : ((pre.length + cur.length + 1 : Nat) : Int) < (L.length : Int) := by omega
        have i2 : 0 ≤ ((pre.length + cur.length : Nat) : Int) := by omega
        have i3 : ((pre.length + cur.length : Nat) : Int) < (L.length : Int) := by omega
        have i4 : 0 ≤ ((pre.length + cur.length + 1 : Nat) : Int) := by omega
        have b2 : pre.length + cur.length + 1 < 4611686018427387904 := by omega
        have go : ¬ (c = 13 ∧ ∃ m', d :: m = 10 :: m') → Ev (fun k => frankingref1_Lines.l0 k L acc (pre.length : Int) ((pre.length + cur.length + 1 : Nat) : Int)) (acc ++ linesA cur (c :: d :: m)) := by
          intro hn'
          have := ih (d :: m) pre (cur ++ [c]) acc (by simp at hn ⊢; omega) (by rw [h]; simp) ha
          rw [linesA_go cur c _ hn']
          rw [show pre.length + (cur ++ [c]).length = pre.length + cur.length + 1 by rw [List.length_append, List.length_singleton, Nat.add_assoc]] at this
          exact this
        by_cases h13 : c = 13
        · by_cases h10 : d = 10
          · subst h13
            subst h10
            rw [linesA_end]
            have hw : wrap64 (((pre.length + cur.length : Nat) : Int) + 2) = ((pre.length + cur.length + 2 : Nat) : Int) := by unfold wrap64; omega
            have i5 : 0 ≤ (pre.length : Int) := by omega
            have i6 : (pre.length : Int) ≤ ((pre.length + cur.length + 2 : Nat) : Int) := by omega
            have i7 : ((pre.length + cur.length + 2 : Nat) : Int) ≤ (L.length : Int) := by omega
            have i8 : acc.length < 5864062014805 := by omega
            have hd : (L.take (pre.length + cur.length + 2)).drop pre.length = cur ++ [13, 10] := by
              rw [h, show pre ++ cur ++ 13 :: 10 :: m = pre ++ ((cur ++ [13, 10]) ++ m) by simp]
              have e2 : pre.length + cur.length + 2 = pre.length + (cur ++ ([13, 10] : List Int)).length := by rw [List.length_append]; simp; omega
              rw [e2]
              rw [List.take_length_add_append, List.drop_left, List.take_left]
            have := ih m (pre ++ cur ++ [13, 10]) [] (acc ++ [cur ++ [13, 10]]) (by simp at hn; omega) (by rw [h]; simp) (by simp; omega)
            have e3 : (pre ++ cur ++ ([13, 10] : List Int)).length = pre.length + cur.length + 2 := by rw [List.length_append, List.length_append]; rfl
            rw [e3, List.length_nil, Nat.add_zero] at this
            refine Ev.step (fun k => ?_) (Ev.eq this (by simp))
            rw [frankingref1_Lines.l0, wrap_nat b1, if_pos i1, if_pos i2, if_pos i3, hr, if_pos rfl, if_pos i4, hr2, if_pos rfl, if_pos i5, hw, if_pos i6, if_pos i7, if_pos i8, Int.toNat_natCast, Int.toNat_natCast, hd, wrap_nat b2]
          · refine Ev.step (fun k => ?_) (go (by rintro ⟨_, m', e⟩; cases e; exact h10 rfl))
            rw [frankingref1_Lines.l0, wrap_nat b1, if_pos i1, if_pos i2, if_pos i3, hr, if_pos h13, if_pos i4, hr2, if_neg h10]
        · refine Ev.step (fun k => ?_) (go (by rintro ⟨e, _⟩; exact h13 e))
          rw [frankingref1_Lines.l0, wrap_nat b1, if_pos i1, if_pos i2, if_pos i3, hr, if_neg h13]
theorem rlines_ev (l : List Int) (hz : l.length ≤ 1000000000) : Ev (fun k => frankingref1_Lines.f k l) (linesL l) := by
  have h := rlines_loop l hz l.length l [] [] [] (Nat.le_refl _) (by simp) (by simp)
  exact Ev.congr (fun k => by unfold frankingref1_Lines.f; rfl) h
end Go.Proofs.Mine
