/- Whole heads, plainly; plain texts. -/
import Derived.Test.YtonlncajnniebaaDoorPHeadLib
import Derived.Test.YtonlncajnniebaaDoorX3
namespace Go.Proofs.Mine
open Go.RowKit Go.Proofs.YtonlncajnniebaaDoorW.PrintWords Go.Proofs.YtonlncajnniebaaDoorW.PrintLast Go.Proofs.YtonlncajnniebaaDoor.X
set_option linter.unusedSimpArgs false
set_option linter.unusedVariables false

theorem fields_start {M : List UInt8} {L L' : List (List Int)} {n : Nat} {r : List S29} (hm : M.length ≤ 1000000) (hn : n ≤ M.length) (hL : linesL (Nm M) = L)
    (hs : Ev (fun k => head_Split.l0 k 0 L (L.length : Int) 0) ((n : Int), (n : Int))) (hL' : linesL (Nm (M.take n)) = L')
    (h : Ev (fun k => head_Fields.l0 k (Nm M) [] false 0 L' (L'.length : Int) 0) r) : Ev (fun k => head_Fields.f k (Nm M)) r := by
  have h1 : Ev (fun k => octet_Lines.f k (Nm M)) L := Ev.eq (lines_ev (Nm M) (Nm_byte M) (by rw [Nm_len]; omega)) hL
  have h2 : Ev (fun k => octet_Lines.f k (Nm (M.take n))) L' := Ev.eq (lines_ev _ (Nm_byte _) (by rw [Nm_len, List.length_take]; omega)) hL'
  have h3 : Ev (fun k => head_Split.f k (Nm M)) ((n : Int), (n : Int)) := Ev.congr (fun k => by unfold head_Split.f; rfl) (Ev.bind h1 hs)
  have ht : (Nm M).take n = Nm (M.take n) := by simp [Nm, List.map_take]
  refine Ev.congr (fun k => by unfold head_Fields.f; rfl) (Ev.bind h3 ?_)
  refine Ev.congr (f := fun k => (octet_Lines.f k (Nm (M.take n))).bind fun t => head_Fields.l0 k (Nm M) [] false 0 t (t.length : Int) 0) (fun k => ?_) (Ev.bind h2 h)
  rw [if_pos (show (0 : Int) ≤ (n : Int) by omega), if_pos (show (n : Int) ≤ ((Nm M).length : Int) by rw [Nm_len]; omega), Int.toNat_natCast, ht]
theorem lines_crlf : linesL (Nm [13, 10]) = [Nm [13, 10]] := by
  have := lines_plain [] [] (by simp)
  rw [lines_nil] at this
  exact this
theorem name_no {nm : List UInt8} (hg : GoodName nm) : ∀ b ∈ nm, b ≠ 13 := by
  rintro b hb rfl
  exact absurd (hg.2 13 hb).1 (by decide)
theorem rdL0 (a : List Int) (L : List (List Int)) : rd_L1 (a :: L) ((0 : Nat) : Int) = a := rfl
theorem rdL1 (a b : List Int) (L : List (List Int)) : rd_L1 (a :: b :: L) ((1 : Nat) : Int) = b := rfl
theorem rdL2 (a b c : List Int) (L : List (List Int)) : rd_L1 (a :: b :: c :: L) ((2 : Nat) : Int) = c := rfl
theorem fields_one (nm w : List UInt8) (hg : GoodName nm) (hw : ∀ b ∈ w, b ≠ 13) (hl : nm.length + w.length ≤ 1000) :
    Ev (fun k => head_Fields.f k (Nm (nm ++ 58 :: (w ++ [13, 10, 13, 10])))) [⟨⟨nm.toArray⟩, ⟨(valL (w ++ [13, 10])).toArray⟩, 0, ((nm.length + w.length + 3 : Nat) : Int)⟩] := by
  have hM : nm ++ 58 :: (w ++ [13, 10, 13, 10]) = (nm ++ 58 :: w) ++ 13 :: 10 :: [13, 10] := by simp
  have hlM : (nm ++ 58 :: (w ++ [13, 10, 13, 10])).length = nm.length + w.length + 5 := by simp <;> omega
  have hX : ∀ b ∈ nm ++ 58 :: w, b ≠ 13 := by
    intro b hb
    rcases List.mem_append.1 hb with h | h
    · exact name_no hg b h
    · rcases List.mem_cons.1 h with rfl | h
      · decide
      · exact hw b h
  have hA : (nm ++ 58 :: w) ++ [13, 10] = nm ++ 58 :: (w ++ [13, 10]) := by simp
  have hlA : (nm ++ 58 :: (w ++ [13, 10])).length = nm.length + w.length + 3 := by simp <;> omega
  have hL : linesL (Nm (nm ++ 58 :: (w ++ [13, 10, 13, 10]))) = [Nm (nm ++ 58 :: (w ++ [13, 10])), Nm [13, 10]] := by rw [hM, lines_plain _ _ hX, lines_crlf, hA]
  have hne : nm ++ 58 :: (w ++ [13, 10]) ≠ [13, 10] := by
    intro e
    have h58 : (58 : UInt8) ∈ ([13, 10] : List UInt8) := by rw [← e]; simp
    revert h58
    decide
  refine fields_start (L' := [Nm (nm ++ 58 :: (w ++ [13, 10])), Nm [13, 10]]) (n := nm.length + w.length + 5) (by omega) (by omega) hL ?_ (by rw [List.take_of_length_le (by omega)]; exact hL) ?_
  · have h1 := split_end (L := [Nm (nm ++ 58 :: (w ++ [13, 10])), Nm [13, 10]]) (i := 1) (acc := 0 + (nm ++ 58 :: (w ++ [13, 10])).length) (by simp) (by simp) (rdL1 _ _ _) (by omega)
    have h2 := split_go (L := [Nm (nm ++ 58 :: (w ++ [13, 10])), Nm [13, 10]]) (i := 0) (acc := 0) (by simp) (by simp) (rdL0 _ _) hne (by omega) h1
    have e5 : 0 + (nm ++ 58 :: (w ++ [13, 10])).length + 2 = nm.length + w.length + 5 := by omega
    rw [e5] at h2
    exact h2
  · refine field_go (L := [Nm (nm ++ 58 :: (w ++ [13, 10])), Nm [13, 10]]) (i := 0) (p := 0) (x5 := []) (by simp) (by simp) (rdL0 _ _) hg (by simp) (by omega) ?_
    refine crlf_go (i := 0 + 1) (by simp) (by simp) (rdL1 _ _ _) (by omega) (fields_end (i := 0 + 1 + 1) rfl ?_)
    have h3 := vals_go (m := nm ++ 58 :: (w ++ [13, 10, 13, 10])) (ys := []) (zs := []) (nm := nm) (v := ⟨#[]⟩) (p := 0) (q := 0 + (nm ++ 58 :: (w ++ [13, 10])).length) (by omega) (by omega) (by omega) (by simp) (vals_end rfl)
    have hd : ((nm ++ 58 :: (w ++ [13, 10, 13, 10])).take (0 + (nm ++ 58 :: (w ++ [13, 10])).length)).drop (0 + nm.length + 1) = w ++ [13, 10] := by
      have e : nm ++ 58 :: (w ++ [13, 10, 13, 10]) = (nm ++ 58 :: (w ++ [13, 10])) ++ [13, 10] := by simp
      rw [Nat.zero_add, Nat.zero_add, e, List.take_left]
      have e2 : nm ++ 58 :: (w ++ [13, 10]) = (nm ++ [58]) ++ (w ++ [13, 10]) := by simp
      have e3 : nm.length + 1 = (nm ++ [58]).length := by simp
      rw [e2, e3, List.drop_left]
    rw [hd] at h3
    have e6 : nm.length + w.length + 3 = 0 + (nm ++ 58 :: (w ++ [13, 10])).length := by omega
    rw [e6]
    exact h3
theorem fields_two (nm w c : List UInt8) (hg : GoodName nm) (hw : ∀ b ∈ w, b ≠ 13) (hc : ∀ b ∈ c, b ≠ 13) (hl : nm.length + w.length + c.length ≤ 1000) :
    Ev (fun k => head_Fields.f k (Nm (nm ++ 58 :: (w ++ 13 :: 10 :: 32 :: (c ++ [13, 10, 13, 10]))))) [⟨⟨nm.toArray⟩, ⟨(valL (w ++ 13 :: 10 :: 32 :: (c ++ [13, 10]))).toArray⟩, 0, ((nm.length + w.length + c.length + 6 : Nat) : Int)⟩] := by
  have hM : nm ++ 58 :: (w ++ 13 :: 10 :: 32 :: (c ++ [13, 10, 13, 10])) = (nm ++ 58 :: w) ++ 13 :: 10 :: ((32 :: c) ++ 13 :: 10 :: [13, 10]) := by simp
  have hlM : (nm ++ 58 :: (w ++ 13 :: 10 :: 32 :: (c ++ [13, 10, 13, 10]))).length = nm.length + w.length + c.length + 8 := by simp <;> omega
  have hX : ∀ b ∈ nm ++ 58 :: w, b ≠ 13 := by
    intro b hb
    rcases List.mem_append.1 hb with h | h
    · exact name_no hg b h
    · rcases List.mem_cons.1 h with rfl | h
      · decide
      · exact hw b h
  have hC : ∀ b ∈ 32 :: c, b ≠ 13 := by
    intro b hb
    rcases List.mem_cons.1 hb with rfl | h
    · decide
    · exact hc b h
  have hA : (nm ++ 58 :: w) ++ [13, 10] = nm ++ 58 :: (w ++ [13, 10]) := by simp
  have hlA : (nm ++ 58 :: (w ++ [13, 10])).length = nm.length + w.length + 3 := by simp <;> omega
  have hlC : (32 :: (c ++ [13, 10])).length = c.length + 3 := by simp
  have hL : linesL (Nm (nm ++ 58 :: (w ++ 13 :: 10 :: 32 :: (c ++ [13, 10, 13, 10])))) = [Nm (nm ++ 58 :: (w ++ [13, 10])), Nm (32 :: (c ++ [13, 10])), Nm [13, 10]] := by rw [hM, lines_plain _ _ hX, lines_plain _ _ hC, lines_crlf, hA]; rfl
  have hne : nm ++ 58 :: (w ++ [13, 10]) ≠ [13, 10] := by
    intro e
    have h58 : (58 : UInt8) ∈ ([13, 10] : List UInt8) := by rw [← e]; simp
    revert h58
    decide
  have hne2 : 32 :: (c ++ [13, 10]) ≠ [13, 10] := by
    intro e
    injection e with e1 _
    revert e1
    decide
  refine fields_start (L' := [Nm (nm ++ 58 :: (w ++ [13, 10])), Nm (32 :: (c ++ [13, 10])), Nm [13, 10]]) (n := nm.length + w.length + c.length + 8) (by omega) (by omega) hL ?_ (by rw [List.take_of_length_le (by omega)]; exact hL) ?_
  · have h1 := split_end (L := [Nm (nm ++ 58 :: (w ++ [13, 10])), Nm (32 :: (c ++ [13, 10])), Nm [13, 10]]) (i := 2) (acc := 0 + (nm ++ 58 :: (w ++ [13, 10])).length + (32 :: (c ++ [13, 10])).length) (by simp) (by simp) (rdL2 _ _ _ _) (by omega)
    have h2 := split_go (L := [Nm (nm ++ 58 :: (w ++ [13, 10])), Nm (32 :: (c ++ [13, 10])), Nm [13, 10]]) (i := 1) (acc := 0 + (nm ++ 58 :: (w ++ [13, 10])).length) (by simp) (by simp) (rdL1 _ _ _) hne2 (by omega) h1
    have h3 := split_go (L := [Nm (nm ++ 58 :: (w ++ [13, 10])), Nm (32 :: (c ++ [13, 10])), Nm [13, 10]]) (i := 0) (acc := 0) (by simp) (by simp) (rdL0 _ _) hne (by omega) h2
    have e5 : 0 + (nm ++ 58 :: (w ++ [13, 10])).length + (32 :: (c ++ [13, 10])).length + 2 = nm.length + w.length + c.length + 8 := by omega
    rw [e5] at h3
    exact h3
  · refine field_go (L := [Nm (nm ++ 58 :: (w ++ [13, 10])), Nm (32 :: (c ++ [13, 10])), Nm [13, 10]]) (i := 0) (p := 0) (x5 := []) (by simp) (by simp) (rdL0 _ _) hg (by simp) (by omega) ?_
    refine cont_go (ys := []) (i := 0 + 1) (c := c ++ [13, 10]) (by simp) (by simp) (rdL1 _ _ _) (by simp) (by omega) ?_
    refine crlf_go (i := 0 + 1 + 1) (by simp) (by simp) (rdL2 _ _ _ _) (by omega) (fields_end (i := 0 + 1 + 1 + 1) rfl ?_)
    have h3 := vals_go (m := nm ++ 58 :: (w ++ 13 :: 10 :: 32 :: (c ++ [13, 10, 13, 10]))) (ys := []) (zs := []) (nm := nm) (v := ⟨#[]⟩) (p := 0) (q := 0 + (nm ++ 58 :: (w ++ [13, 10])).length + (32 :: (c ++ [13, 10])).length) (by omega) (by omega) (by omega) (by simp) (vals_end rfl)
    have hd : ((nm ++ 58 :: (w ++ 13 :: 10 :: 32 :: (c ++ [13, 10, 13, 10]))).take (0 + (nm ++ 58 :: (w ++ [13, 10])).length + (32 :: (c ++ [13, 10])).length)).drop (0 + nm.length + 1) = w ++ 13 :: 10 :: 32 :: (c ++ [13, 10]) := by
      have e : nm ++ 58 :: (w ++ 13 :: 10 :: 32 :: (c ++ [13, 10, 13, 10])) = (nm ++ 58 :: (w ++ 13 :: 10 :: 32 :: (c ++ [13, 10]))) ++ [13, 10] := by simp
      have hl2 : 0 + (nm ++ 58 :: (w ++ [13, 10])).length + (32 :: (c ++ [13, 10])).length = (nm ++ 58 :: (w ++ 13 :: 10 :: 32 :: (c ++ [13, 10]))).length := by simp <;> omega
      rw [hl2, e, List.take_left, Nat.zero_add]
      have e2 : nm ++ 58 :: (w ++ 13 :: 10 :: 32 :: (c ++ [13, 10])) = (nm ++ [58]) ++ (w ++ 13 :: 10 :: 32 :: (c ++ [13, 10])) := by simp
      have e3 : nm.length + 1 = (nm ++ [58]).length := by simp
      rw [e2, e3, List.drop_left]
    rw [hd] at h3
    have e6 : nm.length + w.length + c.length + 6 = 0 + (nm ++ 58 :: (w ++ [13, 10])).length + (32 :: (c ++ [13, 10])).length := by omega
    rw [e6]
    exact h3
theorem same_refl (a : ByteArray) (h : a.size ≤ 1000000) : octet_Same.f a a = some true := by
  have hf : octet_Fold.f a = some (foldBA a) := by unfold octet_Fold.f; rw [if_pos (by omega)]
  unfold octet_Same.f
  rw [hf, Option.bind_some, Option.bind_some, beq_self_eq_true]
theorem get_first {b : List Int} {nm : List UInt8} {v : ByteArray} {p q : Int} (hn : nm.length ≤ 1000000) (h : Ev (fun k => head_Fields.f k b) [⟨⟨nm.toArray⟩, v, p, q⟩]) : Ev (fun k => head_Get.f k b ⟨nm.toArray⟩) (v, true) := by
  refine Ev.congr (fun k => by unfold head_Get.f; rfl) (Ev.bind h (Ev.after fun k => ?_))
  have hs := same_refl ⟨nm.toArray⟩ (by rw [sizeN]; exact hn)
  have hr : rd_T29 [⟨⟨nm.toArray⟩, v, p, q⟩] 0 = ⟨⟨nm.toArray⟩, v, p, q⟩ := rfl
  rw [head_Get.l0, if_pos (by simp), if_pos (by decide), if_pos (by simp), hr, hs, Option.bind_some, if_pos rfl]
/-! ### plain texts -/
theorem wrap_big {n : Nat} (h : n + 1 ≤ 9223372036854775807) : wrap64 ((n : Int) + 1) = ((n + 1 : Nat) : Int) := by
  unfold wrap64
  rw [Int.natCast_add]
  omega
def okB (name : Bool) (b : UInt8) : Bool := decide (32 ≤ b.toNat) && (decide (b.toNat ≤ 126) && (!name || (decide (b ≠ 32) && decide (b ≠ 58))))
def plainB (s : List UInt8) (name : Bool) : Bool := s.all (okB name) && (decide (s.length < 100) && (!name || decide (0 < s.length)))
theorem plain_loop (s : List UInt8) (name : Bool) (hs : s.length ≤ 9223372036854775807) : ∀ (l pre : List UInt8), s = pre ++ l →
    Ev (fun k => frankinglaw11_plain.l0 k ⟨s.toArray⟩ name (pre.length : Int)) (l.all (okB name) && (decide (s.length < 100) && (!name || decide (0 < s.length)))) := by
  intro l
  induction l with
  | nil =>
    intro pre h
    have hl : s.length = pre.length := by rw [h]; simp
    refine Ev.after fun k => ?_
    rw [frankinglaw11_plain.l0, sizeN, if_neg (by omega), List.all_nil, Bool.true_and]
    by_cases h100 : s.length < 100
    · rw [if_pos (by omega), decide_eq_true h100, Bool.true_and]
      cases name with
      | true =>
        rw [if_pos rfl]
        simp
      | false => rfl
    · rw [if_neg (by omega), decide_eq_false h100, Bool.false_and]
  | cons c l ih =>
    intro pre h
    have hl : s.length = pre.length + (l.length + 1) := by rw [h]; simp
    have hb : bt (⟨s.toArray⟩ : ByteArray) (pre.length : Int) = (c.toNat : Int) := by
      have := bt_of (s := ⟨s.toArray⟩) (pre := Nm pre) (l := Nm l) (c := (c.toNat : Int)) (by rw [bytesOf_Nm, h, Nm_app]; simp [Nm])
      rwa [Nm_len] at this
    have ih' := ih (pre ++ [c]) (by rw [h]; simp)
    rw [List.length_append, List.length_singleton] at ih'
    have h32 : c = 32 ↔ (c.toNat : Int) = 32 := by
      constructor
      · rintro rfl; rfl
      · intro e; exact UInt8.toNat_inj.1 (by have : (32 : UInt8).toNat = 32 := rfl; omega)
    have h58 : c = 58 ↔ (c.toNat : Int) = 58 := by
      constructor
      · rintro rfl; rfl
      · intro e; exact UInt8.toNat_inj.1 (by have : (58 : UInt8).toNat = 58 := rfl; omega)
    rw [List.all_cons]
    by_cases h1 : (c.toNat : Int) < 32
    · have hk : okB name c = false := by unfold okB; rw [decide_eq_false (by omega)]; rfl
      rw [hk, Bool.false_and, Bool.false_and]
      exact Ev.after fun k => by rw [frankinglaw11_plain.l0, sizeN, if_pos (by omega), if_pos (by omega), hb, if_pos h1]
    by_cases h2 : (c.toNat : Int) > 126
    · have hk : okB name c = false := by unfold okB; rw [decide_eq_false (p := c.toNat ≤ 126) (by omega), Bool.false_and, Bool.and_false]
      rw [hk, Bool.false_and, Bool.false_and]
      exact Ev.after fun k => by rw [frankinglaw11_plain.l0, sizeN, if_pos (by omega), if_pos (by omega), hb, if_neg h1, if_pos h2]
    have hk0 : okB name c = (!name || (decide (c ≠ 32) && decide (c ≠ 58))) := by unfold okB; rw [decide_eq_true (by omega), decide_eq_true (p := c.toNat ≤ 126) (by omega), Bool.true_and, Bool.true_and]
    cases name with
    | false =>
      rw [hk0, Bool.not_false, Bool.true_or, Bool.true_and]
      exact Ev.step (fun k => by rw [frankinglaw11_plain.l0, sizeN, if_pos (by omega), if_pos (by omega), hb, if_neg h1, if_neg h2, if_neg (by decide), wrap_big (by omega)]) ih'
    | true =>
      by_cases h3 : (c.toNat : Int) = 32
      · have hk : okB true c = false := by rw [hk0, decide_eq_false (p := c ≠ 32) (fun hh => hh (h32.2 h3))]; rfl
        rw [hk, Bool.false_and, Bool.false_and]
        exact Ev.after fun k => by rw [frankinglaw11_plain.l0, sizeN, if_pos (by omega), if_pos (by omega), hb, if_neg h1, if_neg h2, if_pos rfl, if_pos h3]
      by_cases h4 : (c.toNat : Int) = 58
      · have hk : okB true c = false := by rw [hk0, decide_eq_false (p := c ≠ 58) (fun hh => hh (h58.2 h4)), Bool.and_false]; rfl
        rw [hk, Bool.false_and, Bool.false_and]
        exact Ev.after fun k => by rw [frankinglaw11_plain.l0, sizeN, if_pos (by omega), if_pos (by omega), hb, if_neg h1, if_neg h2, if_pos rfl, if_neg h3, if_pos h4]
      have hk : okB true c = true := by rw [hk0, decide_eq_true (p := c ≠ 32) (fun e => h3 (h32.1 e)), decide_eq_true (p := c ≠ 58) (fun e => h4 (h58.1 e))]; rfl
      rw [hk, Bool.true_and]
      exact Ev.step (fun k => by rw [frankinglaw11_plain.l0, sizeN, if_pos (by omega), if_pos (by omega), hb, if_neg h1, if_neg h2, if_pos rfl, if_neg h3, if_neg h4, wrap_big (by omega)]) ih'
theorem plain_ev (s : List UInt8) (name : Bool) (hs : s.length ≤ 9223372036854775807) : Ev (fun k => frankinglaw11_plain.f k ⟨s.toArray⟩ name) (plainB s name) :=
  Ev.congr (fun k => by unfold frankinglaw11_plain.f; rfl) (plain_loop s name hs s [] rfl)
theorem plain_name {s : List UInt8} (h : plainB s true = true) : GoodName s ∧ s.length < 100 := by
  unfold plainB at h
  simp only [Bool.and_eq_true, decide_eq_true_eq, Bool.not_true, Bool.false_or, List.all_eq_true] at h
  obtain ⟨h1, h2, h3⟩ := h
  refine ⟨⟨by rintro rfl; simp at h3, fun b hb => ?_⟩, h2⟩
  have := h1 b hb
  unfold okB at this
  simp only [Bool.and_eq_true, decide_eq_true_eq, Bool.not_true, Bool.false_or] at this
  obtain ⟨a, b', c, d⟩ := this
  have h32 : b.toNat ≠ 32 := fun e => c (UInt8.toNat_inj.1 (by have : (32 : UInt8).toNat = 32 := rfl; omega))
  exact ⟨by omega, b', d⟩
theorem plain_text {s : List UInt8} {n : Bool} (h : plainB s n = true) : (∀ b ∈ s, b ≠ 13) ∧ s.length < 100 := by
  unfold plainB at h
  simp only [Bool.and_eq_true, decide_eq_true_eq, List.all_eq_true] at h
  obtain ⟨h1, h2, _⟩ := h
  refine ⟨?_, h2⟩
  rintro b hb rfl
  have := h1 13 hb
  unfold okB at this
  simp at this
end Go.Proofs.Mine
