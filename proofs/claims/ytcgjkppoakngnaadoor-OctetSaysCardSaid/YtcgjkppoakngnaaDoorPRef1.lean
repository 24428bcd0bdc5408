/- The reference of the layer octet comes to what the layer comes to. -/
import Derived.Test.YtcgjkppoakngnaaDoorPLines
import Derived.Test.YtcgjkppoakngnaaDoorPFold
import Derived.Test.YtcgjkppoakngnaaDoorPUnquote
import Derived.Test.YtcgjkppoakngnaaDoorX3
import Derived.Test.YtcgjkppoakngnaaDoorX2
import Derived.Test.YtcgjkppoakngnaaDoorX4
import Derived.Test.YtcgjkppoakngnaaDoorX5
namespace Go.Proofs.Mine
open Go.RowKit Go.Proofs.YtcgjkppoakngnaaDoorW.PrintWords Go.Proofs.YtcgjkppoakngnaaDoorW.PrintLast Go.Proofs.YtcgjkppoakngnaaDoor.X
set_option linter.unusedSimpArgs false

theorem plain_eq (c : Int) : frankingref1_plain.f c = some (quotC c) := by
  unfold frankingref1_plain.f quotC
  by_cases h0 : c = 0
  · simp [h0]
  by_cases h1 : c = 10
  · simp [h1]
  by_cases h2 : c = 13
  · simp [h2]
  rw [if_neg h0, if_neg h1, if_neg h2]
  simp [h0, h1, h2]
  omega
/-! Quote -/
theorem rquote_l (s : ByteArray) : ∀ (k : Nat) (acc : List Int) (i : Int), frankingref1_Quote.l0 k s acc i = octet_Quote.l0 k s acc (s.size : Int) i := by
  intro k
  induction k with
  | zero => intro acc i; rw [frankingref1_Quote.l0, octet_Quote.l0]
  | succ k ih =>
    intro acc i
    rw [frankingref1_Quote.l0, octet_Quote.l0]
    by_cases h1 : i < (s.size : Int)
    · rw [if_pos h1, if_pos h1]
      by_cases h2 : 0 ≤ i
      · rw [if_pos h2, if_pos h2, if_pos h1, plain_eq, quotable_eq]
        simp only [ih]
      · rw [if_neg h2, if_neg h2]
    · rw [if_neg h1, if_neg h1]
theorem rquote_eq (s : ByteArray) (k : Nat) : frankingref1_Quote.f k s = octet_Quote.f k s := by
  unfold frankingref1_Quote.f octet_Quote.f
  rw [rquote_l]
theorem rquote_ev (s : ByteArray) : Ev (fun k => frankingref1_Quote.f k s) (quoteR s) := Ev.congr (rquote_eq s) (quote_ev s)
/-! Num -/
theorem rnum_l (s : ByteArray) : ∀ (k : Nat) (v i : Int), frankingref1_Num.l0 k s v i = octet_Num.l0 k s v (s.size : Int) i := by
  intro k
  induction k with
  | zero => intro v i; rw [frankingref1_Num.l0, octet_Num.l0]
  | succ k ih =>
    intro v i
    rw [frankingref1_Num.l0, octet_Num.l0]
    by_cases h1 : i < (s.size : Int)
    · rw [if_pos h1, if_pos h1]
      by_cases h2 : 0 ≤ i
      · rw [if_pos h2, if_pos h2, if_pos h1, Int.mul_comm 10 v]
        simp only [ih]
      · rw [if_neg h2, if_neg h2]
    · rw [if_neg h1, if_neg h1]
theorem rnum_eq (s : ByteArray) (k : Nat) : frankingref1_Num.f k s = octet_Num.f k s := by
  unfold frankingref1_Num.f octet_Num.f
  have e : ∀ b, frankingref1_Num.j0 k s b = octet_Num.j0 k s b := by
    intro b
    cases k with
    | zero => rw [frankingref1_Num.j0, octet_Num.j0]
    | succ k => rw [frankingref1_Num.j0, octet_Num.j0, rnum_l]
  rw [e, e]
theorem num_loop (s : ByteArray) (hs : s.size ≤ 1000000000) : ∀ (l pre : List Int) (v : Int), bytesOf s = pre ++ l → ∃ r, Ev (fun k => octet_Num.l0 k s v (s.size : Int) (pre.length : Int)) r := by
  intro l
  induction l with
  | nil =>
    intro pre v h
    have hz := size_of h
    simp at hz
    refine ⟨(v, true), Ev.after fun k => ?_⟩
    rw [octet_Num.l0, if_neg (by omega)]
  | cons c l ih =>
    intro pre v h
    have hz := size_of h
    simp at hz
    have hb := bt_of h
    have i1 : (pre.length : Int) < (s.size : Int) := by omega
    have i2 : 0 ≤ (pre.length : Int) := by omega
    have b1 : pre.length < 4611686018427387904 := by omega
    by_cases h1 : c < 48
    · refine ⟨(0, false), Ev.after fun k => ?_⟩
      rw [octet_Num.l0, if_pos i1, if_pos i2, if_pos i1, hb, if_pos h1]
    by_cases h2 : c > 57
    · refine ⟨(0, false), Ev.after fun k => ?_⟩
      rw [octet_Num.l0, if_pos i1, if_pos i2, if_pos i1, hb, if_neg h1, if_pos h2]
    · obtain ⟨r, hr⟩ := ih (pre ++ [c]) (wrap64 (wrap64 (v * 10) + (c - 48) % 256)) (by rw [h]; simp)
      rw [show (pre ++ [c]).length = pre.length + 1 by simp] at hr
      refine ⟨r, Ev.step (fun k => ?_) hr⟩
      rw [octet_Num.l0, if_pos i1, if_pos i2, if_pos i1, hb, if_neg h1, if_neg h2, wrap_nat b1]
theorem num_ev (s : ByteArray) : ∃ r, Ev (fun k => octet_Num.f k s) r := by
  have hj : ∀ b, (b = false → s.size ≤ 10) → ∃ r, Ev (fun k => octet_Num.j0 k s b) r := by
    intro b hb
    cases b with
    | true => exact ⟨(0, false), Ev.after fun k => by rw [octet_Num.j0, if_pos rfl]⟩
    | false =>
      obtain ⟨r, hr⟩ := num_loop s (by have := hb rfl; omega) (bytesOf s) [] 0 rfl
      exact ⟨r, Ev.step (fun k => by rw [octet_Num.j0, if_neg (by decide)]; rfl) hr⟩
  by_cases h : (s.size : Int) < 1
  · obtain ⟨r, hr⟩ := hj true (by simp)
    exact ⟨r, Ev.congr (fun k => by unfold octet_Num.f; rw [if_pos h]) hr⟩
  · obtain ⟨r, hr⟩ := hj (decide ((s.size : Int) > 10)) (by intro e; have := of_decide_eq_false e; omega)
    exact ⟨r, Ev.congr (fun k => by unfold octet_Num.f; rw [if_neg h]) hr⟩
/-! Atom -/
theorem rin_loop (s : ByteArray) (hs : s.size ≤ 1000000000) (c : Int) : ∀ (l pre : List Int), bytesOf s = pre ++ l → Ev (fun k => frankingref1_In.l0 k s c (pre.length : Int)) (l.contains c) := by
  intro l
  induction l with
  | nil =>
    intro pre h
    have hz := size_of h
    simp at hz
    refine Ev.after fun k => ?_
    rw [frankingref1_In.l0, if_neg (by omega)]
    rfl
  | cons d l ih =>
    intro pre h
    have hz := size_of h
    simp at hz
    have hb := bt_of h
    have i1 : (pre.length : Int) < (s.size : Int) := by omega
    have i2 : 0 ≤ (pre.length : Int) := by omega
    have b1 : pre.length < 4611686018427387904 := by omega
    by_cases h1 : d = c
    · refine Ev.after fun k => ?_
      rw [frankingref1_In.l0, if_pos i1, if_pos i2, hb, if_pos h1, h1]
      simp
    · have hr := ih (pre ++ [d]) (by rw [h]; simp)
      rw [show (pre ++ [d]).length = pre.length + 1 by simp] at hr
      refine Ev.step (fun k => by rw [frankingref1_In.l0, if_pos i1, if_pos i2, hb, if_neg h1, wrap_nat b1]) (Ev.eq hr ?_)
      rw [List.contains_cons, beq_eq_false_iff_ne.2 (fun e => h1 e.symm), Bool.false_or]
theorem rspecial (c : Int) : Ev (fun k => frankingref1_In.f k (⟨#[40, 41, 123, 37, 42, 34, 92, 93]⟩ : ByteArray) c) (([40, 41, 123, 37, 42, 34, 92, 93] : List Int).contains c) := by
  have h := rin_loop ⟨#[40, 41, 123, 37, 42, 34, 92, 93]⟩ (by decide) c [40, 41, 123, 37, 42, 34, 92, 93] [] (by decide +kernel)
  exact Ev.congr (fun k => by unfold frankingref1_In.f; rfl) h
theorem ratom_loop (s : ByteArray) (hs : s.size ≤ 1000000000) : ∀ (l pre : List Int), bytesOf s = pre ++ l →
    Ev (fun k => frankingref1_Atom.l0 k s (pre.length : Int)) (l.all atomC && !(bytesOf s).isEmpty) := by
  intro l
  induction l with
  | nil =>
    intro pre h
    have hz := size_of h
    simp at hz
    refine Ev.after fun k => ?_
    rw [frankingref1_Atom.l0, if_neg (by omega), List.all_nil, Bool.true_and, h, List.append_nil]
    cases pre with
    | nil => rw [decide_eq_false (by simp only [List.length_nil] at hz; omega)]; rfl
    | cons a b => rw [decide_eq_true (by simp only [List.length_cons] at hz; omega)]; rfl
  | cons c l ih =>
    intro pre h
    have hz := size_of h
    simp at hz
    have hb := bt_of h
    have i1 : (pre.length : Int) < (s.size : Int) := by omega
    have i2 : 0 ≤ (pre.length : Int) := by omega
    have b1 : pre.length < 4611686018427387904 := by omega
    have hr := ih (pre ++ [c]) (by rw [h]; simp)
    rw [show (pre ++ [c]).length = pre.length + 1 by simp] at hr
    rw [List.all_cons]
    by_cases h1 : c < 33
    · refine Ev.after fun k => ?_
      rw [frankingref1_Atom.l0, if_pos i1, if_pos i2, hb, if_pos h1]
      simp [atomC, show ¬ 32 < c by omega]
    by_cases h2 : c > 126
    · refine Ev.after fun k => ?_
      rw [frankingref1_Atom.l0, if_pos i1, if_pos i2, hb, if_neg h1, if_pos h2]
      simp [atomC, show ¬ c < 127 by omega]
    have hsp := rspecial c
    refine Ev.step (f := fun k => (frankingref1_In.f k (⟨#[40, 41, 123, 37, 42, 34, 92, 93]⟩ : ByteArray) c).bind fun t => if t = true then some false else frankingref1_Atom.l0 k s ((pre.length + 1 : Nat) : Int)) (fun k => by
      rw [frankingref1_Atom.l0, if_pos i1, if_pos i2, hb, if_neg h1, if_neg h2, wrap_nat b1]) (Ev.bind hsp ?_)
    cases hc : ([40, 41, 123, 37, 42, 34, 92, 93] : List Int).contains c with
    | true =>
      refine Ev.pure fun k => ?_
      rw [if_pos rfl, show atomC c = false by unfold atomC; rw [hc]; simp]
      rfl
    | false =>
      refine Ev.congr (fun k => by rw [if_neg (by decide)]) (Ev.eq hr ?_)
      rw [show atomC c = true by unfold atomC; rw [hc, decide_eq_true (by omega), decide_eq_true (by omega)]; rfl]
      rfl
theorem ratom_ev (s : ByteArray) (hs : s.size ≤ 1000000000) : Ev (fun k => frankingref1_Atom.f k s) ((bytesOf s).all atomC && !(bytesOf s).isEmpty) :=
  ratom_loop s hs (bytesOf s) [] rfl
/-! Lines -/
theorem rlines_end (L acc' : List Int) (acc : List (List Int)) (start : Nat) (cur : List Int) (i : Int) (hL : L = acc' ++ cur) (hs : acc'.length = start) (hz : L.length ≤ 1000000000) (ha : acc.length ≤ L.length) (hi : ¬ wrap64 (i + 1) < (L.length : Int)) (k : Nat) :
    frankingref1_Lines.l0 (k + 1) L acc (start : Int) i = some (acc ++ linesA cur []) := by
  have hl : L.length = start + cur.length := by rw [hL, List.length_append, hs]
  rw [frankingref1_Lines.l0, if_neg hi, linesA_nil]
  by_cases hc : cur = []
  · rw [if_neg (by rw [hl, hc]; simp), if_pos hc, List.append_nil]
  · have : 0 < cur.length := List.length_pos_iff.2 hc
    rw [if_pos (by omega), if_pos (by omega), if_pos (by omega), if_pos (by omega), if_neg hc, Int.toNat_natCast, ← hs]
    rw [hL, List.drop_left]
theorem rlines_loop (L : List Int) (hz : L.length ≤ 1000000000) : ∀ (n : Nat) (l pre cur : List Int) (acc : List (List Int)), l.length ≤ n → L = pre ++ cur ++ l → acc.length ≤ pre.length →
    Ev (fun k => frankingref1_Lines.l0 k L acc (pre.length : Int) ((pre.length + cur.length : Nat) : Int)) (acc ++ linesA cur l) := by
  intro n
  induction n with
  | zero =>
    intro l pre cur acc hn h ha
    obtain rfl : l = [] := List.length_eq_zero_iff.1 (by omega)
    have hl : L.length = pre.length + cur.length := by rw [h]; simp
    refine Ev.after fun k => ?_
    exact rlines_end L pre acc pre.length cur _ (by rw [h]; simp) rfl hz (by omega) (by rw [wrap_nat (by omega)]; omega) k
  | succ n ih =>
    intro l pre cur acc hn h ha
    cases l with
    | nil =>
      have hl : L.length = pre.length + cur.length := by rw [h]; simp
      refine Ev.after fun k => ?_
      exact rlines_end L pre acc pre.length cur _ (by rw [h]; simp) rfl hz (by omega) (by rw [wrap_nat (by omega)]; omega) k
    | cons c l =>
      have hl : L.length = pre.length + cur.length + (l.length + 1) := by rw [h]; simp; omega
      have b1 : pre.length + cur.length < 4611686018427387904 := by omega
      cases l with
      | nil =>
        simp at hl
        have e : linesA cur [c] = linesA (cur ++ [c]) [] := linesA_go cur c [] (by rintro ⟨_, m, hm⟩; cases hm)
        rw [e]
        refine Ev.after fun k => ?_
        exact rlines_end L pre acc pre.length (cur ++ [c]) _ (by rw [h]; simp) rfl hz (by omega) (by rw [wrap_nat b1]; omega) k
      | cons d m =>
        simp at hl
        have hr : rd L ((pre.length + cur.length : Nat) : Int) = c := by
          rw [h, show pre.length + cur.length = (pre ++ cur).length from List.length_append.symm]; exact rd_of
        have hr2 : rd L ((pre.length + cur.length + 1 : Nat) : Int) = d := by
          rw [h, show pre ++ cur ++ c :: d :: m = (pre ++ cur ++ [c]) ++ d :: m by simp, show pre.length + cur.length + 1 = (pre ++ cur ++ [c]).length by rw [List.length_append, List.length_append, List.length_singleton]]; exact rd_of
        have i1 : ((pre.length + cur.length + 1 : Nat) : Int) < (L.length : Int) := by omega
        have i2 : 0 ≤ ((pre.length + cur.length : Nat) : Int) := by omega
        have i3 : ((pre.length + cur.length : Nat) : Int) < (L.length : Int) := by omega
        have i4 : 0 ≤ ((pre.length + cur.length + 1 : Nat) : Int) := by omega
        have b2 : pre.length + cur.length + 1 < 4611686018427387904 := by omega
        have go : ¬ (c = 13 ∧ ∃ m', d :: m = 10 :: m') → Ev (fun k => frankingref1_Lines.l0 k L acc (pre.length : Int) ((pre.length + cur.length + 1 : Nat) : Int)) (acc ++ linesA cur (c :: d :: m)) := by
          intro hn'
          have := ih (d :: m) pre (cur ++ [c]) acc (by simp at hn ⊢; omega) (by rw [h]; simp) ha
          rw [linesA_go cur c _ hn']
          rw [show pre.length + (cur ++ [c]).length = pre.length + cur.length + 1 by rw [List.length_append, List.length_singleton, Nat.add_assoc]] at this
          exact this
        by_cases h13 : c = 13
        · by_cases h10 : d = 10
          · subst h13
            subst h10
            rw [linesA_end]
            have hw : wrap64 (((pre.length + cur.length : Nat) : Int) + 2) = ((pre.length + cur.length + 2 : Nat) : Int) := by unfold wrap64; omega
            have i5 : 0 ≤ (pre.length : Int) := by omega
            have i6 : (pre.length : Int) ≤ ((pre.length + cur.length + 2 : Nat) : Int) := by omega
            have i7 : ((pre.length + cur.length + 2 : Nat) : Int) ≤ (L.length : Int) := by omega
            have i8 : acc.length < 5864062014805 := by omega
            have hd : (L.take (pre.length + cur.length + 2)).drop pre.length = cur ++ [13, 10] := by
              rw [h, show pre ++ cur ++ 13 :: 10 :: m = pre ++ ((cur ++ [13, 10]) ++ m) by simp]
              have e2 : pre.length + cur.length + 2 = pre.length + (cur ++ ([13, 10] : List Int)).length := by rw [List.length_append]; simp; omega
              rw [e2]
              rw [List.take_length_add_append, List.drop_left, List.take_left]
            have := ih m (pre ++ cur ++ [13, 10]) [] (acc ++ [cur ++ [13, 10]]) (by simp at hn; omega) (by rw [h]; simp) (by simp; omega)
            have e3 : (pre ++ cur ++ ([13, 10] : List Int)).length = pre.length + cur.length + 2 := by rw [List.length_append, List.length_append]; rfl
            rw [e3, List.length_nil, Nat.add_zero] at this
            refine Ev.step (fun k => ?_) (Ev.eq this (by simp))
            rw [frankingref1_Lines.l0, wrap_nat b1, if_pos i1, if_pos i2, if_pos i3, hr, if_pos rfl, if_pos i4, hr2, if_pos rfl, if_pos i5, hw, if_pos i6, if_pos i7, if_pos i8, Int.toNat_natCast, Int.toNat_natCast, hd, wrap_nat b2]
          · refine Ev.step (fun k => ?_) (go (by rintro ⟨_, m', e⟩; cases e; exact h10 rfl))
            rw [frankingref1_Lines.l0, wrap_nat b1, if_pos i1, if_pos i2, if_pos i3, hr, if_pos h13, if_pos i4, hr2, if_neg h10]
        · refine Ev.step (fun k => ?_) (go (by rintro ⟨e, _⟩; exact h13 e))
          rw [frankingref1_Lines.l0, wrap_nat b1, if_pos i1, if_pos i2, if_pos i3, hr, if_neg h13]
theorem rlines_ev (l : List Int) (hz : l.length ≤ 1000000000) : Ev (fun k => frankingref1_Lines.f k l) (linesL l) := by
  have h := rlines_loop l hz l.length l [] [] [] (Nat.le_refl _) (by simp) (by simp)
  exact Ev.congr (fun k => by unfold frankingref1_Lines.f; rfl) h
end Go.Proofs.Mine
