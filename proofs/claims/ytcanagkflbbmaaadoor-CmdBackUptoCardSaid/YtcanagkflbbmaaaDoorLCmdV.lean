/- Commands: what was read can be written, and is read again. -/
import Derived.Test.YtcanagkflbbmaaaDoorLCmdU
set_option linter.unusedVariables false
set_option linter.unusedSimpArgs false
set_option maxRecDepth 100000
set_option maxHeartbeats 8000000
namespace Go.Proofs.YtcanagkflbbmaaaDoor.L
open Go Go.Proofs Go.Dev Go.RowKit
theorem want_ok {b : Txt} {s : RS} {c : UInt8} (h : (want b s c).err = 0) : want b s c = next s ∧ s.err = 0 := by
  have h0 := want_err h
  unfold want at h ⊢
  by_cases hm : (may b s c).1 = true
  · rw [if_pos hm]
    unfold may at hm ⊢
    by_cases hi : (isB b s c).1 = true
    · rw [if_pos hi]
      obtain ⟨e, _⟩ := isB_t hi
      exact ⟨by rw [e], h0⟩
    · rw [if_neg hi] at hm
      cases hm
  · rw [if_neg hm] at h
    exact absurd h (fail_err (by decide))
theorem may_ok {b : Txt} {s : RS} {c : UInt8} (h : (may b s c).2.err = 0) : (may b s c) = (true, next s) ∨ ((may b s c) = (false, s)) := by
  have h0 := may_err h
  unfold may at h ⊢
  by_cases hi : (isB b s c).1 = true
  · rw [if_pos hi]
    obtain ⟨e, _⟩ := isB_t hi
    exact .inl (by rw [e])
  · rw [if_neg hi] at h ⊢
    right
    unfold isB at h ⊢
    cases hp : (peek b s).1 with
    | none => exact absurd h (peek_none hp)
    | some d => rw [(peek_some hp).1]
theorem quotedL_ex {b : Txt} : ∀ (n : Nat) (acc : Txt) (s : RS), b.length < n + s.at_ → s.at_ ≤ b.length → s.err = 0 → (quotedL b n acc s).2.err = 0 → (quotedL b n acc s).1.length + s.at_ + 1 ≤ acc.length + (quotedL b n acc s).2.at_
  | 0, _, s, hn, hl, _, _ => by omega
  | n + 1, acc, s, hn, hl, h0, h => by
    unfold quotedL at h ⊢
    cases hp : (peek b s).1 with
    | none =>
      rw [hp] at h
      exact absurd h (peek_none hp)
    | some c =>
      obtain ⟨_, _, hlt, _⟩ := peek_some hp
      rw [hp] at h
      simp only at h ⊢
      split at h
      · exact absurd h (fail_err (by decide))
      · rename_i q1
        rw [if_neg q1]
        split at h
        · exact absurd h (fail_err (by decide))
        · rename_i q2
          rw [if_neg q2]
          split at h
          · exact absurd h (fail_err (by decide))
          · rename_i q3
            rw [if_neg q3]
            split at h
            · exact absurd h (fail_err (by decide))
            · rename_i q4
              rw [if_neg q4]
              split at h
              · rename_i q5
                rw [if_pos q5]
                simp only [next]
                omega
              · rename_i q5
                rw [if_neg q5]
                split at h
                · rename_i q6
                  rw [if_pos q6]
                  cases hq : (peek b (next s)).1 with
                  | none =>
                    rw [hq] at h
                    exact absurd h (peek_none hq)
                  | some d =>
                    obtain ⟨_, _, hlt2, _⟩ := peek_some hq
                    simp only [next] at hlt2
                    rw [hq] at h
                    simp only at h ⊢
                    split at h
                    · rename_i q7
                      rw [if_pos q7]
                      have := quotedL_ex n (acc ++ [d]) (next (next s)) (by simp only [next]; omega) (by simp only [next]; omega) h0 h
                      simp only [List.length_append, List.length_singleton, next] at this ⊢
                      omega
                    · rename_i q7
                      rw [if_neg q7]
                      split at h
                      · rename_i q8
                        rw [if_pos q8]
                        have := quotedL_ex n (acc ++ [d]) (next (next s)) (by simp only [next]; omega) (by simp only [next]; omega) h0 h
                        simp only [List.length_append, List.length_singleton, next] at this ⊢
                        omega
                      · exact absurd h (fail_err (by decide))
                · rename_i q6
                  rw [if_neg q6]
                  have := quotedL_ex n (acc ++ [c]) (next s) (by simp only [next]; omega) (by simp only [next]; omega) h0 h
                  simp only [List.length_append, List.length_singleton, next] at this ⊢
                  omega
theorem quoted_ex {b : Txt} {s : RS} (hw : WF b s) (h : (quoted b s).2.err = 0) : (quoted b s).1.length + s.at_ + 2 ≤ (quoted b s).2.at_ := by
  have g : Ge (want b s 34) (quoted b s).2 := quotedL_ge _ _ _
  have h0 : (want b s 34).err = 0 := Classical.byContradiction fun e => by
    rw [g.keep e] at h
    exact e h
  have e := (want_ok h0).1
  have wl := (want_wf hw 34).at_
  have := quotedL_ex (b.length + 1) [] (want b s 34) (by omega) wl h0 h
  unfold quoted
  rw [e] at this ⊢
  simp only [next, List.length_nil] at this ⊢
  omega
theorem literal_ex {b : Txt} {s : RS} (hw : WF b s) (h : (literal b s).2.err = 0) : (literal b s).1.length ≤ 65536 ∧ (literal b s).1.length + s.at_ + 5 ≤ (literal b s).2.at_ := by
  have h6 : (lt6 b s).err = 0 := Classical.byContradiction fun e => by
    rw [literal_ge'.keep e] at h
    exact e h
  have e6 := lt6_al h6
  have h5 : (lt5 b s).err = 0 := by rw [← e6]; exact h6
  obtain ⟨a5, h45⟩ := endL_ok h5
  obtain ⟨e45, h4⟩ := want_ok h45
  have h3 : (lt3 b s).err = 0 := may_err h4
  have a4 : (lt3 b s).at_ ≤ (lt4 b s).2.at_ := may_at
  have hn : (lnum b s).2 = true := by
    refine Classical.byContradiction fun e => ?_
    rw [lt3_f (by simpa using e)] at h3
    exact fail_err (by decide) h3
  have e3 := lt3_t hn
  rw [e3] at h3 a4
  have h1 : (want b s 123).err = 0 := Classical.byContradiction fun e => by
    rw [lt2_ge.keep e] at h3
    exact e h3
  obtain ⟨e1, h0⟩ := want_ok h1
  have w2 := lt2_wf hw
  have hd : 1 + (want b s 123).at_ ≤ (lt2 b s).at_ := by
    unfold lnum num at hn
    split at hn
    · rename_i hh
      have := hh.1
      simp at this
      omega
    · cases hn
  have hb : ¬65536 < (lnum b s).1 := fun hb => by
    rw [lt6_f hb] at h6
    exact fail_err (by decide) h6
  have w6 := (lt6_wf hw).1.at_
  have x5 : (lt5 b s).at_ = (want b (lt4 b s).2 125).at_ + 2 := a5
  have x45 : (want b (lt4 b s).2 125).at_ = (lt4 b s).2.at_ + 1 := by rw [e45]; rfl
  have x1 : (want b s 123).at_ = s.at_ + 1 := by rw [e1]; rfl
  unfold literal at h ⊢
  rw [if_neg (by simp [h6])] at h ⊢
  split at h
  · exact absurd h (fail_err (by decide))
  · rename_i hq
    rw [if_neg hq]
    simp only [List.length_take, List.length_drop]
    rw [e6] at w6 hq ⊢
    constructor <;> omega
theorem digs_le : ∀ n, 1 ≤ n → (digs n).length ≤ n := by
  intro n
  induction n using Nat.strongRecOn with
  | ind n ih =>
    intro h
    rw [digs]
    split
    · simpa using h
    · have := ih (n / 10) (by omega) (by omega)
      simp
      omega
theorem nstr_len (t : Txt) : (nstr t).length ≤ 2 * t.length + 5 ∧ (t = [] → (nstr t).length ≤ 2) := by
  unfold nstr
  have he := escs_len t
  by_cases hq : qok t = true
  · rw [if_pos hq]
    refine ⟨by simp [quoteT]; omega, fun h => ?_⟩
    subst h
    simp [quoteT, escs]
  · rw [if_neg hq]
    have hne : t ≠ [] := fun e => hq (by rw [e]; decide)
    have hp : 0 < t.length := List.length_pos_iff.2 hne
    have := digs_le t.length hp
    exact ⟨by simp [litHead]; omega, fun h => absurd h hne⟩
theorem plain_ex {b : Txt} {s : RS} (hw : WF b s) (h0 : s.err = 0) (h : (plain b s).2.err = 0) : Run noPlain (plain b s).1 ∧ (plain b s).1 ≠ [] ∧ (plain b s).2 = adv s (plain b s).1.length := by
  obtain ⟨w, q1, q2, q3, q4, q5⟩ := run_ex (b := b) (no := noPlain) (from_ := s.at_) (b.length + 1) s h0 h (by omega) hw.at_
  have e : plain b s = (w, adv s w.length) := by
    show run b noPlain (brk b) s.at_ (b.length + 1) s = _
    rw [q4, q2, Nat.add_sub_cancel_left, List.take_left]
  rw [e]
  exact ⟨q1, fun e' => q5 (by have e2 : w = [] := e'; rw [e2]; rfl), rfl⟩
/-- What a word's reader brought. -/
def ExW (b : Txt) (d : Nat) : Prop := ∀ s, WF b s → s.err = 0 → (wordW b d s).2.err = 0 → OkW d (wordW b d s).1 ∧ (wordW b d s).2.words = s.words + (wordW b d s).1.size ∧ (shW (wordW b d s).1).length + 4 * s.at_ ≤ 4 * (wordW b d s).2.at_
theorem listL_ex {b : Txt} {d : Nat} (hx : ExW b d) : ∀ (n : Nat) (acc : List Word) (s : RS), WF b s → s.err = 0 → 1001 < n + s.words → (listL b (wordW b d) n acc s).2.err = 0 → ∃ w l, (listL b (wordW b d) n acc s).1 = acc ++ w :: l ∧ (∀ x ∈ w :: l, OkW d x) ∧ (listL b (wordW b d) n acc s).2.words = s.words + Word.size.sizes (w :: l) ∧ (shL (w :: l)).length + 4 * s.at_ + 4 ≤ 4 * (listL b (wordW b d) n acc s).2.at_
  | 0, acc, s, hw, h0, hn, h => absurd (hw.w0 h0) (by omega)
  | n + 1, acc, s, hw, h0, hn, h => by
    have wu := (wordW_ok (b := b) d).wf s hw
    rw [listL, if_pos h0] at h ⊢
    by_cases hm : (may b (wordW b d s).2 41).1 = true
    · rw [if_pos hm] at h ⊢
      have hu := may_err h
      obtain ⟨x1, x2, x3⟩ := hx s hw h0 hu
      rcases may_ok h with e | e
      · rw [e]
        refine ⟨(wordW b d s).1, [], rfl, fun x hx => by rw [List.mem_singleton.1 hx]; exact x1, ?_, ?_⟩
        · simp only [next, sizes_cons, Word.size.sizes]
          omega
        · rw [shL_cons, shR_nil]
          simp only [next, List.append_nil]
          omega
      · rw [e] at hm
        cases hm
    · rw [if_neg hm] at h ⊢
      have g : Ge (want b (may b (wordW b d s).2 41).2 32) (listL b (wordW b d) n (acc ++ [(wordW b d s).1]) (want b (may b (wordW b d s).2 41).2 32)).2 := listL_ge (b := b) (wordW_ge d) n (acc ++ [(wordW b d s).1]) (want b (may b (wordW b d s).2 41).2 32)
      have hw2 : (want b (may b (wordW b d s).2 41).2 32).err = 0 := Classical.byContradiction fun e => by
        rw [g.keep e] at h
        exact e h
      obtain ⟨e2, hm0⟩ := want_ok hw2
      have hu := may_err hm0
      obtain ⟨x1, x2, x3⟩ := hx s hw h0 hu
      have e3 : may b (wordW b d s).2 41 = (false, (wordW b d s).2) := by
        rcases may_ok hm0 with e | e
        · rw [e] at hm; exact absurd rfl hm
        · exact e
      have wn := want_wf (may_wf wu 41) 32
      rw [e3] at e2
      simp only at e2
      rw [e3] at h wn hw2 ⊢
      simp only at h wn hw2 ⊢
      have hp := size_pos (wordW b d s).1
      obtain ⟨w, l, f1, f2, f3, f4⟩ := listL_ex hx n (acc ++ [(wordW b d s).1]) (want b (wordW b d s).2 32) wn hw2 (by rw [want_words, x2]; omega) h
      refine ⟨(wordW b d s).1, w :: l, by rw [f1]; simp, fun x hx => ?_, ?_, ?_⟩
      · rcases List.mem_cons.1 hx with rfl | hx
        · exact x1
        · exact f2 x hx
      · rw [f3, want_words, x2, sizes_cons (wordW b d s).1]
        omega
      · have a2 : (want b (wordW b d s).2 32).at_ = (wordW b d s).2.at_ + 1 := by rw [e2]; rfl
        rw [a2] at f4
        rw [shL_cons, shR_cons]
        rw [shL_cons] at f4
        simp only [List.length_append, List.length_cons] at f4 ⊢
        omega
theorem flat_ex {b : Txt} (hb8 : b.length ≤ 8192) {d : Nat} {lst : Option (RS → Word × RS)} (hl : ∀ f, lst = some f → ∀ s, WF b s → s.err = 0 → (f s).2.err = 0 → OkW d (f s).1 ∧ (f s).2.words + 1 = s.words + (f s).1.size ∧ (shW (f s).1).length + 4 * s.at_ ≤ 4 * (f s).2.at_) : ∀ s, WF b s → s.err = 0 → (wordF b lst s).2.err = 0 → OkW d (wordF b lst s).1 ∧ (wordF b lst s).2.words = s.words + (wordF b lst s).1.size ∧ (shW (wordF b lst s).1).length + 4 * s.at_ ≤ 4 * (wordF b lst s).2.at_ := fun s hw h0 h => by
  unfold wordF at h ⊢
  cases hp : (peek b s).1 with
  | none =>
    rw [hp] at h
    exact absurd h (peek_none hp)
  | some c =>
    rw [hp] at h
    simp only at h ⊢
    split at h
    · exact absurd h (fail_err (by decide))
    · rename_i q1
      rw [if_neg q1]
      have wi := inc_wf hw h0 q1
      split at h
      · rename_i q2
        rw [if_pos q2]
        have hx := quoted_ex wi h
        have hn := nstr_len (quoted b (inc s)).1
        have ha := (quoted_wf wi).1.at_
        have hbig := hw.big
        have hq8 : (quoted b (inc s)).1.length ≤ 65536 := by omega
        refine ⟨.qu _ _ hq8, by simp only; rw [quoted_words]; simp [Word.size, Word.size.sizes, inc], ?_⟩
        rw [shW_qu]
        simp only [inc] at hx ⊢
        by_cases ht : (quoted b (inc s)).1 = []
        · have := hn.2 ht
          simp only [inc] at this ht
          rw [ht] at hx
          simp at hx
          omega
        · have hp := List.length_pos_iff.2 ht
          have := hn.1
          simp only [inc] at this hp
          omega
      · rename_i q2
        rw [if_neg q2]
        split at h
        · rename_i q3
          rw [if_pos q3]
          have hx := literal_ex wi h
          have hn := nstr_len (literal b (inc s)).1
          refine ⟨.qu _ _ hx.1, by simp only; rw [literal_words]; simp [Word.size, Word.size.sizes, inc], ?_⟩
          rw [shW_qu]
          have := hn.1
          have := hx.2
          simp only [inc] at *
          omega
        · rename_i q3
          rw [if_neg q3]
          split at h
          · rename_i q4
            rw [if_pos q4]
            split at h
            · exact absurd h (fail_err (by decide))
            · rename_i f
              obtain ⟨x1, x2, x3⟩ := hl f rfl (inc s) wi h0 h
              exact ⟨x1, by simp only [inc] at x2 ⊢; omega, x3⟩
          · rename_i q4
            rw [if_neg q4]
            obtain ⟨x1, x2, x3⟩ := plain_ex wi h0 h
            refine ⟨.pl _ _ x1 x2, by simp only; rw [plain_words]; simp [Word.size, Word.size.sizes, inc], ?_⟩
            rw [shW_pl]
            simp only
            have e : (plain b (inc s)).2.at_ = s.at_ + (plain b (inc s)).1.length := by rw [x3]; rfl
            rw [e]
            omega
theorem word_ex {b : Txt} (hb8 : b.length ≤ 8192) : ∀ d, ExW b d
  | 0 => flat_ex hb8 (fun f h => by cases h)
  | d + 1 => flat_ex hb8 (fun f hf s hw h0 h => by
    cases hf
    have ih := word_ex hb8 d
    have w1 := want_wf hw 40
    have w2 := may_wf w1 41
    unfold listF at h ⊢
    by_cases hm : (may b (want b s 40) 41).1 = true
    · rw [if_pos hm] at h ⊢
      have h1 := may_err h
      obtain ⟨e1, _⟩ := want_ok h1
      rcases may_ok h with e | e
      · rw [e, e1]
        refine ⟨.li _ _ (fun w h => by cases h), by simp [next, Word.size, Word.size.sizes], ?_⟩
        rw [shW_li]
        simp [shL, next]
        omega
      · rw [e] at hm
        cases hm
    · rw [if_neg hm] at h ⊢
      have g : Ge (may b (want b s 40) 41).2 (listL b (wordW b d) 1002 [] (may b (want b s 40) 41).2).2 := listL_ge (wordW_ge d) _ _ _
      have hm0 : (may b (want b s 40) 41).2.err = 0 := Classical.byContradiction fun e => by
        simp only at h
        rw [g.keep e] at h
        exact e h
      have h1 := may_err hm0
      obtain ⟨e1, _⟩ := want_ok h1
      rcases may_ok hm0 with e | e
      · rw [e] at hm
        exact absurd rfl hm
      · rw [e] at h w2 hm0 ⊢
        simp only at h w2 hm0 ⊢
        have hwd : (want b s 40).words = s.words := want_words
        have hat : (want b s 40).at_ = s.at_ + 1 := by rw [e1]; rfl
        obtain ⟨w, l, f1, f2, f3, f4⟩ := listL_ex ih 1002 [] (want b s 40) w2 hm0 (by omega) h
        rw [f1]
        refine ⟨.li _ _ f2, ?_, ?_⟩
        · rw [f3, hwd]
          simp [Word.size]
          omega
        · rw [List.nil_append, shW_li]
          simp only [List.length_cons, List.length_append, List.length_nil]
          omega)
theorem argsL_ex {b : Txt} (hb8 : b.length ≤ 8192) : ∀ (n : Nat) (acc : List Word) (s : RS), WF b s → s.err = 0 → 1001 < n + s.words → (argsL b n acc s).2.err = 0 → ∃ l, (argsL b n acc s).1 = acc ++ l ∧ (∀ x ∈ l, OkW 32 x) ∧ s.words + Word.size.sizes l ≤ 1000 ∧ (shR l).length + 4 * s.at_ + 2 ≤ 4 * (argsL b n acc s).2.at_
  | 0, acc, s, hw, h0, hn, h => absurd (hw.w0 h0) (by omega)
  | n + 1, acc, s, hw, h0, hn, h => by
    rw [argsL, if_pos h0] at h ⊢
    by_cases hi : (isB b s 13).1 = true
    · rw [if_pos hi] at h ⊢
      obtain ⟨a, _⟩ := endL_ok h
      have e : (isB b s 13).2.at_ = s.at_ := peek_at
      refine ⟨[], by simp, fun x h => (by cases h), by simpa [Word.size.sizes] using hw.w0 h0, ?_⟩
      rw [shR_nil]
      simp only [List.length_nil]
      omega
    · rw [if_neg hi] at h ⊢
      have g : Ge (wordW b 32 (want b (isB b s 13).2 32)).2 (argsL b n (acc ++ [(wordW b 32 (want b (isB b s 13).2 32)).1]) (wordW b 32 (want b (isB b s 13).2 32)).2).2 := argsL_ge _ _ _
      have hu : (wordW b 32 (want b (isB b s 13).2 32)).2.err = 0 := Classical.byContradiction fun e => by
        rw [g.keep e] at h
        exact e h
      have hw0 : (want b (isB b s 13).2 32).err = 0 := Classical.byContradiction fun e => by
        have g2 : Ge (want b (isB b s 13).2 32) (wordW b 32 (want b (isB b s 13).2 32)).2 := wordW_ge _ _
        rw [g2.keep e] at hu
        exact e hu
      obtain ⟨e1, hi0⟩ := want_ok hw0
      have wi := want_wf (isB_wf hw 13) 32
      have hat : (want b (isB b s 13).2 32).at_ = s.at_ + 1 := by
        rw [e1]
        show (isB b s 13).2.at_ + 1 = _
        rw [show (isB b s 13).2.at_ = s.at_ from peek_at]
      have hwd : (want b (isB b s 13).2 32).words = s.words := want_words.trans peek_words
      obtain ⟨x1, x2, x3⟩ := word_ex hb8 32 _ wi hw0 hu
      have wu := (wordW_ok (b := b) 32).wf _ wi
      have hp := size_pos (wordW b 32 (want b (isB b s 13).2 32)).1
      obtain ⟨l, f1, f2, f3, f4⟩ := argsL_ex hb8 n (acc ++ [(wordW b 32 (want b (isB b s 13).2 32)).1]) _ wu hu (by omega) h
      refine ⟨(wordW b 32 (want b (isB b s 13).2 32)).1 :: l, by rw [f1]; simp, fun x hx => ?_, ?_, ?_⟩
      · rcases List.mem_cons.1 hx with rfl | hx
        · exact x1
        · exact f2 x hx
      · rw [sizes_cons]
        omega
      · rw [shR_cons]
        simp only [List.length_cons, List.length_append]
        omega
/-! A whole command -/
theorem idx_no : ∀ (l : Txt) (c : UInt8), c ∉ l → Lib.indexByte l c < 0
  | [], c, _ => by show (-1 : Int) < 0; decide
  | b :: l, c, h => by
    have ih := idx_no l c (fun hm => h (List.mem_cons_of_mem _ hm))
    have g := Lib.indexByte_ge l c
    unfold Lib.indexByte
    rw [if_neg (by simp; intro e; exact h (by rw [e]; exact List.mem_cons_self ..)), if_pos (by simp; omega)]
    decide
theorem Run.up {t : Txt} (h : Run noPlain t) : Run noPlain (t.map upper) := by
  have vu : ∀ c, vis noPlain c = true → c ≠ 91 → vis noPlain (upper c) = true ∧ upper c ≠ 91 := fun c hv h => by
    unfold upper
    split
    · rename_i hc
      have h3 : (c - 32).toNat = c.toNat - 32 := by
        rw [UInt8.toNat_sub_of_le _ _ (UInt8.le_iff_toNat_le.2 (by show 32 ≤ c.toNat; omega))]
        rfl
      refine ⟨?_, fun e => by rw [e] at h3; have : (91 : UInt8).toNat = 91 := rfl; omega⟩
      have hm : c - 32 ∉ noPlain := by
        intro hm
        simp only [noPlain, List.mem_cons, List.not_mem_nil, or_false] at hm
        rcases hm with e | e | e | e <;> (rw [e] at h3; simp at h3; omega)
      have hi : Lib.indexByte noPlain (c - 32) < 0 := idx_no _ _ hm
      unfold vis
      simp only [Bool.and_eq_true, decide_eq_true_eq]
      exact ⟨⟨by omega, by omega⟩, hi⟩
    · exact ⟨hv, h⟩
  have uk : ∀ (c d : UInt8), c ≠ d → (d.toNat < 65 ∨ 90 < d.toNat) → upper c ≠ d := fun c d h hd => by
    unfold upper
    split
    · rename_i hc
      have h3 : (c - 32).toNat = c.toNat - 32 := by
        rw [UInt8.toNat_sub_of_le _ _ (UInt8.le_iff_toNat_le.2 (by show 32 ≤ c.toNat; omega))]
        rfl
      intro e
      rw [e] at h3
      omega
    · exact h
  induction h with
  | nil => exact .nil
  | chr c w hv h91 hw ih => exact .chr _ _ (vu c hv h91).1 (vu c hv h91).2 ih
  | brk x w hv hx hw ih =>
    obtain ⟨y, hy, hall⟩ := hx
    have : (91 :: (x ++ w)).map upper = 91 :: (x.map upper ++ w.map upper) := by
      rw [List.map_cons, List.map_append]
      rfl
    rw [this]
    refine .brk _ _ hv ⟨y.map upper, by rw [hy, List.map_append]; rfl, fun c hc => ?_⟩ ih
    obtain ⟨d, hd, rfl⟩ := List.mem_map.1 hc
    obtain ⟨q1, q2, q3⟩ := hall d hd
    exact ⟨uk d 10 q1 (by decide), uk d 13 q2 (by decide), uk d 93 q3 (by decide)⟩
theorem up_up (t : Txt) : (t.map upper).map upper = t.map upper := by
  rw [List.map_map]
  apply List.map_congr_left
  intro c _
  show upper (upper c) = upper c
  by_cases hc : 97 ≤ c.toNat ∧ c.toNat ≤ 122
  · have e : upper c = c - 32 := if_pos hc
    have h3 : (c - 32).toNat = c.toNat - 32 := by
      rw [UInt8.toNat_sub_of_le _ _ (UInt8.le_iff_toNat_le.2 (by show 32 ≤ c.toNat; omega))]
      rfl
    rw [e]
    exact if_neg (by omega)
  · have e : upper c = c := if_neg hc
    rw [e, e]
/-- A tag's bytes. -/
theorem tag_ex {b no : Txt} {from_ : Nat} : ∀ (n : Nat) (s : RS), s.err = 0 → (run b no noop from_ n s).2.err = 0 → b.length < n + s.at_ → s.at_ ≤ b.length → ∃ w, (∀ c ∈ w, vis no c = true) ∧ b.drop s.at_ = w ++ b.drop (s.at_ + w.length) ∧ run b no noop from_ n s = ((b.drop from_).take (s.at_ + w.length - from_), adv s w.length) ∧ s.at_ + w.length ≠ from_
  | 0, s, h0, h, hn, hl => by omega
  | n + 1, s, h0, h, hn, hl => by
    unfold run at h ⊢
    cases hp : (peek b s).1 with
    | none =>
      rw [hp] at h
      exact absurd h (peek_none hp)
    | some c =>
      obtain ⟨_, _, hlt, hc⟩ := peek_some hp
      have hd := drop_next hlt
      rw [hc] at hd
      rw [hp] at h
      simp only [noop, ite_self] at h ⊢
      split at h
      · rename_i hv
        rw [if_pos hv]
        obtain ⟨w, hw, f1, f3, f4⟩ := tag_ex n (next s) h0 h (by simp only [next]; omega) (by simp only [next]; omega)
        simp only [next] at f1 f4
        refine ⟨c :: w, fun d hd => ?_, ?_, ?_, by simp; omega⟩
        · rcases List.mem_cons.1 hd with rfl | hd
          · exact hv
          · exact hw d hd
        · rw [hd, f1]
          simp
          congr 1
          omega
        · show run b no noop from_ n (next s) = _
          rw [f3]
          simp only [adv, next, List.length_cons]
          have a1 : s.at_ + 1 + w.length = s.at_ + (w.length + 1) := by omega
          rw [a1]
      · rename_i hv
        rw [if_neg hv]
        split at h
        · exact absurd h (fail_err (by decide))
        · rename_i hf
          rw [if_neg hf]
          exact ⟨[], fun c h => (by cases h), rfl, rfl, by simpa using hf⟩
theorem tag_rd {b no r : Txt} {from_ : Nat} {d : UInt8} (hd : vis no d = false) : ∀ (w : Txt) (n : Nat) (s : RS), (∀ c ∈ w, vis no c = true) → At b s (w ++ d :: r) → w.length < n → s.at_ + w.length ≠ from_ → run b no noop from_ n s = ((b.drop from_).take (s.at_ + w.length - from_), adv s w.length)
  | [], n + 1, s, _, h, _, hf => by
    have h' : At b s (d :: r) := h
    rw [run, h'.peek]
    simp only [hd, Bool.false_eq_true, if_false, List.length_nil, Nat.add_zero]
    rw [if_neg (by simpa using hf)]
    rfl
  | c :: w, n + 1, s, hw, h, hn, hf => by
    have h' : At b s (c :: (w ++ d :: r)) := h
    rw [run, h'.peek]
    simp only [hw c (List.mem_cons_self ..), if_true, noop, ite_self]
    have e : run b no noop from_ n (next s) = _ := tag_rd hd w n (next s) (fun x hx => hw x (List.mem_cons_of_mem _ hx)) h'.next (by simp at hn; omega) (by simp only [next] at *; simp at hf; omega)
    show run b no noop from_ n (next s) = _
    rw [e]
    simp only [next_adv, adv_adv, List.length_cons, adv]
    rw [Nat.add_assoc, Nat.add_comm 1]
  | [], 0, _, _, _, h, _ => by simp at h
  | _ :: _, 0, _, _, _, h, _ => by simp at h
def showT2 (c : Cmd) : Txt := c.tag ++ 32 :: (c.name ++ (shR c.args ++ [13, 10]))
/-- A command that can be written and is read again. -/
structure OkC (c : Cmd) : Prop where
  tag : ∀ x ∈ c.tag, vis noTag x = true
  tag0 : c.tag ≠ []
  name : Run noPlain c.name
  name0 : c.name ≠ []
  up : c.name.map upper = c.name
  args : ∀ w ∈ c.args, OkW 32 w
  words : 1 + Word.size.sizes c.args ≤ 1000
theorem cmd_rd {c : Cmd} (h : OkC c) (hl : (showT2 c).length ≤ 8192) : parseC (showT2 c) = (c, ((showT2 c).length : Int), (0 : Int)) := by
  generalize hb : showT2 c = b at hl ⊢
  have h0 : At b r0 (c.tag ++ 32 :: (c.name ++ (shR c.args ++ 13 :: 10 :: []))) := ⟨rfl, by rw [← hb]; rfl, hl⟩
  have hlen := h0.len (by simp)
  have t0 := List.length_pos_iff.2 h.tag0
  have n0 := List.length_pos_iff.2 h.name0
  have e1 : rd1 b = (c.tag, adv r0 c.tag.length) := by
    have e : run b noTag noop r0.at_ (b.length + 1) r0 = _ := tag_rd (from_ := r0.at_) (d := 32) (by decide) c.tag (b.length + 1) r0 h.tag h0 (by simp only [List.length_append, List.length_cons] at hlen; omega) (by simp only [r0]; omega)
    rw [h0.d, Nat.add_sub_cancel_left, List.take_left] at e
    exact e
  have a1 : At b (adv r0 c.tag.length) (32 :: (c.name ++ (shR c.args ++ 13 :: 10 :: []))) := h0.adv
  have e2 : rd2 b = inc (next (adv r0 c.tag.length)) := by
    unfold rd2
    rw [e1]
    simp only
    rw [a1.want]
  obtain ⟨x, r', hx, hr'⟩ : ∃ x r', term x ∧ shR c.args ++ 13 :: 10 :: [] = x :: r' := by
    cases c.args with
    | nil => exact ⟨13, [10], .inr (.inr rfl), by rw [shR_nil]; rfl⟩
    | cons w2 l => exact ⟨32, _, .inl rfl, by rw [shR_cons]; rfl⟩
  have a2 : At b (rd2 b) (c.name ++ x :: r') := by
    rw [e2, ← hr']
    exact a1.next.inc
  have e3 : rd3 b = (c.name, adv (rd2 b) c.name.length) := by
    have e : run b noPlain (brk b) (rd2 b).at_ (b.length + 1) (rd2 b) = _ := run_rd (from_ := (rd2 b).at_) (term_vis hx) h.name (b.length + 1) (rd2 b) a2 (by have := a2.len (by simp); simp only [List.length_append, List.length_cons] at this; omega) (by omega)
    rw [a2.d, Nat.add_sub_cancel_left, List.take_left] at e
    exact e
  have a3 : At b (rd3 b).2 (shR c.args ++ 13 :: 10 :: []) := by
    rw [e3, hr']
    exact a2.adv
  have hs := sizes_len c.args
  have hw := h.words
  obtain ⟨u, f1, f2⟩ := args_rd c.args [] 1002 (rd3 b).2 [] h.args a3 (by rw [rd3_words]; exact hw) (by omega)
  have eA : rdA b = (c.args, u) := f1
  have hu : u.at_ = b.length := by
    have h1 := congrArg List.length f2.d
    simp at h1
    have wA := (rdA_wf (b := b) (by omega)).at_
    rw [eA] at wA
    simp only at wA
    omega
  unfold parseC
  rw [eA]
  simp only
  rw [if_pos f2.e]
  unfold readC
  rw [e1, e3, eA, hu]
  simp only [h.up]
theorem cmd_ex {b : Txt} (hb : b.length ≤ 1500) (h : (parseC b).2.2 = 0) : OkC (parseC b).1 ∧ (showT2 (parseC b).1).length ≤ 8000 := by
  have hA : (rdA b).2.err = 0 := by
    unfold parseC at h
    split at h
    · assumption
    · split at h
      · cases h
      · split at h
        · cases h
        · exact h
  have hc : (parseC b).1 = readC b := by
    unfold parseC
    rw [if_pos hA]
  rw [hc]
  have hb9 : b.length < 1000000000 := by omega
  have h3 : (rd3 b).2.err = 0 := Classical.byContradiction fun e => by
    have g : Ge (rd3 b).2 (rdA b).2 := argsL_ge _ _ _
    rw [g.keep e] at hA
    exact e hA
  have h2 : (rd2 b).err = 0 := Classical.byContradiction fun e => by
    have g : Ge (rd2 b) (rd3 b).2 := plain_ge
    rw [g.keep e] at h3
    exact e h3
  obtain ⟨e2, h1⟩ := want_ok (show (want b (rd1 b).2 32).err = 0 from h2)
  obtain ⟨w, q1, q2, q3, q4⟩ := tag_ex (b := b) (no := noTag) (from_ := 0) (b.length + 1) r0 rfl h1 (by simp [r0]) (by simp [r0])
  obtain ⟨p1, p2, p3⟩ := plain_ex (rd2_wf hb9) h2 h3
  obtain ⟨l, f1, f2, f3, f4⟩ := argsL_ex (by omega) 1002 [] (rd3 b).2 (rd3_wf hb9) h3 (by rw [rd3_words]; decide) hA
  have e1 : rd1 b = (w, adv r0 w.length) := by
    show run b noTag noop 0 (b.length + 1) r0 = _
    rw [q3]
    have q2' : b = w ++ b.drop (0 + w.length) := q2
    have : (b.drop 0).take (r0.at_ + w.length - 0) = w := by
      show List.take (0 + w.length) b = w
      rw [Nat.zero_add]
      rw [Nat.zero_add] at q2'
      conv => lhs; rw [q2']
      exact List.take_left
    rw [this]
  have a2 : (rd2 b).at_ = w.length + 1 := by
    show (want b (rd1 b).2 32).at_ = _
    rw [e2, e1]
    simp [next, adv, r0]
  have a3 : (rd3 b).2.at_ = w.length + 1 + (rd3 b).1.length := by
    have : (rd3 b).2 = adv (rd2 b) (rd3 b).1.length := p3
    rw [this]
    simp only [adv, a2]
  have wA := (rdA_wf hb9).at_
  have f1' : (rdA b).1 = l := f1
  refine ⟨⟨?_, ?_, ?_, ?_, ?_, ?_, ?_⟩, ?_⟩
  · show ∀ x ∈ (rd1 b).1, _
    rw [e1]
    exact q1
  · show (rd1 b).1 ≠ []
    rw [e1]
    intro e
    exact q4 (by have : w = [] := e; rw [this]; rfl)
  · exact p1.up
  · intro e
    exact p2 (List.map_eq_nil_iff.1 e)
  · exact up_up _
  · show ∀ x ∈ (rdA b).1, _
    rw [f1']
    exact f2
  · show 1 + Word.size.sizes (rdA b).1 ≤ 1000
    rw [f1']
    rw [rd3_words] at f3
    exact f3
  · show ((rd1 b).1 ++ 32 :: ((rd3 b).1.map upper ++ (shR (rdA b).1 ++ [13, 10]))).length ≤ 8000
    rw [e1, f1']
    have f4' : (shR l).length + 4 * (rd3 b).2.at_ + 2 ≤ 4 * (rdA b).2.at_ := f4
    simp only [List.length_append, List.length_cons, List.length_map, List.length_nil]
    omega
end Go.Proofs.YtcanagkflbbmaaaDoor.L
