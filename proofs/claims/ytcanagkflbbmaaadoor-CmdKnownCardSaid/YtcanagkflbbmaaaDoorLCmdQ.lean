/- Commands: what stands behind does not change what was read: every reader. -/
import Derived.Test.YtcanagkflbbmaaaDoorLCmdP
set_option linter.unusedVariables false
set_option linter.unusedSimpArgs false
set_option maxRecDepth 100000
set_option maxHeartbeats 8000000
namespace Go.Proofs.YtcanagkflbbmaaaDoor.L
open Go Go.Proofs Go.Dev Go.RowKit
theorem isB2 {p x : Txt} {s t : RS} {c : UInt8} (al : Al s t) (hs : s.at_ ≤ p.length) : Sm p ((isB p s c).1 = (isB (p ++ x) t c).1) (isB p s c).2 (isB (p ++ x) t c).2 := by
  unfold isB
  rcases peek2 (x := x) al hs with ⟨c, e1, e2, _⟩ | ⟨s', t', e1, e2, a, _⟩ | ⟨s', e1, h8, h0, hl⟩
  · rw [e1, e2]; exact .al rfl al
  · rw [e1, e2]; exact .al rfl a
  · rw [e1]; exact .inr (off_go h8 h0 hl peek_ge)
theorem may2 {p x : Txt} {s t : RS} {c : UInt8} (al : Al s t) (hs : s.at_ ≤ p.length) : Sm p ((may p s c).1 = (may (p ++ x) t c).1) (may p s c).2 (may (p ++ x) t c).2 := by
  refine (isB2 (c := c) al hs).bind (fun e a => ?_) may_ge' may_ge'
  unfold may
  rw [← e]
  split
  · exact .al rfl (next_al a)
  · exact .al rfl a
theorem want2 {p x : Txt} {s t : RS} {c : UInt8} (al : Al s t) (hs : s.at_ ≤ p.length) : Sm p True (want p s c) (want (p ++ x) t c) := by
  refine (may2 (c := c) al hs).bind (fun e a => ?_) want_ge' want_ge'
  unfold want
  rw [← e]
  split
  · exact .al trivial a
  · exact .al trivial (fl_al a)
/-- The end of a line: what was looked at in vain lies two bytes further. -/
def Off5 (p : Txt) (s t : RS) : Prop := s.err = 8 ∧ (t.err = 8 ∨ ((p.length : Int) < lim t + 2 ∧ (t.err = 0 → p.length < t.at_)))
theorem Off5.off {p : Txt} {s t : RS} (h : Off5 p s t) : Off p s t := ⟨h.1, h.2.imp id fun h => h.1⟩
theorem endL_off {p b : Txt} {s t : RS} (h : Off p s (isB b t 13).2) : Off5 p s (endL b t) := by
  obtain ⟨h1, h2⟩ := h
  refine ⟨h1, ?_⟩
  have g : Ge (isB b t 13).2 (endL b t) := endL_ge'
  have ha : (isB b t 13).2.at_ = t.at_ := peek_at
  rcases h2 with h2 | h2
  · exact .inl (by rw [g.keep (by rw [h2]; decide)]; exact h2)
  · right
    by_cases e0 : (isB b t 13).2.err = 0
    · rw [lim_ok e0] at h2
      have := g.le e0
      refine ⟨by omega, fun e => ?_⟩
      have := (endL_ok e).1
      omega
    · rw [g.keep e0]
      exact ⟨h2, fun e => absurd e e0⟩
theorem endL_eq {b : Txt} {s : RS} (h0 : (isB b s 13).1 = true) (h2 : (isB b s 13).2 = s) : endL b s = if s.at_ + 1 = b.length then fail s 8 s.at_ else if b[s.at_ + 1]? ≠ some 10 then fail s 3 s.at_ else { s with at_ := s.at_ + 2 } := by
  unfold endL
  simp only
  rw [h2, if_neg (by simp [h0])]
theorem lim_far {n : Nat} {r : RS} (e : r.err = 0) (h : (n : Int) < r.at_ + 2) : (n : Int) < lim r + 2 := by rw [lim_ok e]; exact h
theorem endL5 {p x : Txt} {s t : RS} (al : Al s t) (hw : WF p s) : Al (endL p s) (endL (p ++ x) t) ∨ Off5 p (endL p s) (endL (p ++ x) t) := by
  rcases isB2 (x := x) (c := 13) al hw.at_ with ⟨e, a⟩ | h
  · have wi := isB_wf hw 13
    by_cases h0 : (isB p s 13).1 = true
    · obtain ⟨h2, h3, h4, _⟩ := isB_t h0
      obtain ⟨w2, h3', h4', _⟩ := isB_t (b := p ++ x) (s := t) (c := 13) (by rw [← e]; exact h0)
      have h8 : (fail s 8 s.at_).err = 8 := by unfold fail; rw [if_pos h3]
      rw [endL_eq h0 h2, endL_eq (by rw [← e]; exact h0) w2]
      by_cases h1 : s.at_ + 1 = p.length
      · rw [if_pos h1]
        refine .inr ⟨h8, ?_⟩
        have ha := al.at_
        split
        · left; unfold fail; rw [if_pos h3']
        · split
          · right
            refine ⟨?_, fun e => absurd e (fail_err (by decide))⟩
            rw [lim_bad (fail_err (by decide))]
            unfold fail
            rw [if_pos h3']
            simp only
            omega
          · right
            refine ⟨?_, fun _ => by simp only; omega⟩
            exact lim_far h3' (by simp only; omega)
      · have hx : (p ++ x)[s.at_ + 1]? = p[s.at_ + 1]? := List.getElem?_append_left (by omega)
        have hl : ¬s.at_ + 1 = (p ++ x).length := by simp; omega
        rw [if_neg h1, al.at_, if_neg hl, hx]
        left
        split
        · have := fail_al (e := 3) (a := s.at_) al
          exact this
        · exact ⟨rfl, al.line, al.words, al.err, al.bad⟩
    · left
      unfold endL
      simp only
      rw [← e, if_pos (by simpa using h0), if_pos (by simpa using h0)]
      exact fl_al a
  · right
    have k : endL p s = (isB p s 13).2 := endL_ge'.keep (by rw [h.1]; decide)
    rw [k]
    exact endL_off h
theorem endL2 {p x : Txt} {s t : RS} (al : Al s t) (hw : WF p s) : Sm p True (endL p s) (endL (p ++ x) t) := (endL5 al hw).imp (fun h => ⟨trivial, h⟩) Off5.off
theorem bracket2 {p x : Txt} : ∀ (n m : Nat) (s t : RS), Al s t → WF p s → p.length < n + s.at_ → p.length + x.length < m + s.at_ → Sm p True (bracket p n s) (bracket (p ++ x) m t)
  | 0, _, s, _, _, hw, h, _ => absurd hw.at_ (by omega)
  | _ + 1, 0, s, _, _, hw, _, h => absurd hw.at_ (by omega)
  | n + 1, m + 1, s, t, al, hw, hn, hm => by
    rcases peek2 (x := x) al hw.at_ with ⟨c, e1, e2, h0, hlt⟩ | ⟨s', t', e1, e2, a, _⟩ | ⟨s', e1, h8, h0, hl⟩
    · simp only [bracket, e1, e2]
      split
      · exact .al trivial (fl_al al)
      · split
        · exact .al trivial (fl_al al)
        · split
          · exact .al trivial (next_al al)
          · exact bracket2 n m _ _ (next_al al) (next_wf hw hlt) (by simp only [next]; omega) (by simp only [next]; omega)
    · simp only [bracket, e1, e2]
      exact .al trivial a
    · have : bracket p (n + 1) s = s' := by simp only [bracket, e1]
      rw [this]
      exact .inr (off_go h8 h0 hl (bracket_ge _ _))
theorem brk2 {p x : Txt} {s t : RS} (al : Al s t) (hw : WF p s) : Sm p True (brk p s) (brk (p ++ x) t) := bracket2 _ _ _ _ al hw (by omega) (by simp; omega)
theorem take_drop2 {p x : Txt} {i j : Nat} (hj : j ≤ p.length) (hi : i ≤ j) : ((p ++ x).drop i).take (j - i) = (p.drop i).take (j - i) := by
  rw [List.drop_append_of_le_length (by omega), List.take_append_of_le_length (by simp; omega)]
theorem run2 {p x no : Txt} {op oq : RS → RS} {from_ : Nat} (hop : ∀ s t, Al s t → WF p s → Sm p True (op s) (oq t)) (wop : ∀ s, WF p s → WF p (op s) ∧ s.at_ ≤ (op s).at_) (gp : ∀ s, Ge s (op s)) (gq : ∀ s, Ge s (oq s)) : ∀ (n m : Nat) (s t : RS), Al s t → WF p s → from_ ≤ s.at_ → p.length < n + s.at_ → p.length + x.length < m + s.at_ → Sm p ((run p no op from_ n s).1 = (run (p ++ x) no oq from_ m t).1) (run p no op from_ n s).2 (run (p ++ x) no oq from_ m t).2
  | 0, _, s, _, _, hw, _, h, _ => absurd hw.at_ (by omega)
  | _ + 1, 0, s, _, _, hw, _, _, h => absurd hw.at_ (by omega)
  | n + 1, m + 1, s, t, al, hw, hf, hn, hm => by
    rcases peek2 (x := x) al hw.at_ with ⟨c, e1, e2, h0, hlt⟩ | ⟨s', t', e1, e2, a, _⟩ | ⟨s', e1, h8, h0, hl⟩
    · simp only [run, e1, e2]
      have wn := next_wf hw hlt
      split
      · have hs : Sm p True (if c = 91 then op (next s) else next s) (if c = 91 then oq (next t) else next t) := by
          split
          · exact hop _ _ (next_al al) wn
          · exact .al trivial (next_al al)
        have ws : WF p (if c = 91 then op (next s) else next s) ∧ s.at_ + 1 ≤ (if c = 91 then op (next s) else next s).at_ := by
          split
          · exact wop _ wn
          · exact ⟨wn, Nat.le_refl _⟩
        exact hs.bind (fun _ a => run2 hop wop gp gq n m _ _ a ws.1 (by omega) (by omega) (by omega)) (run_ge gp _ _) (run_ge gq _ _)
      · rw [al.at_]
        refine .al (take_drop2 hw.at_ hf).symm ?_
        simp only
        split
        · have := fail_al (e := 3) (a := s.at_) al
          exact this
        · exact al
    · simp only [run, e1, e2]
      first | exact .al trivial a | exact .al rfl a
    · have : (run p no op from_ (n + 1) s).2 = s' := by simp only [run, e1]
      rw [this]
      exact .inr (off_go h8 h0 hl (run_ge gq _ _))
theorem quotedL2 {p x : Txt} : ∀ (n m : Nat) (acc : Txt) (s t : RS), Al s t → WF p s → p.length < n + s.at_ → p.length + x.length < m + s.at_ → Sm p ((quotedL p n acc s).1 = (quotedL (p ++ x) m acc t).1) (quotedL p n acc s).2 (quotedL (p ++ x) m acc t).2
  | 0, _, _, s, _, _, hw, h, _ => absurd hw.at_ (by omega)
  | _ + 1, 0, _, s, _, _, hw, _, h => absurd hw.at_ (by omega)
  | n + 1, m + 1, acc, s, t, al, hw, hn, hm => by
    rcases peek2 (x := x) al hw.at_ with ⟨c, e1, e2, h0, hlt⟩ | ⟨s', t', e1, e2, a, _⟩ | ⟨s', e1, h8, h0, hl⟩
    · have wn := next_wf hw hlt
      have an := next_al al
      simp only [quotedL, e1, e2]
      split
      · exact .al rfl (fl_al al)
      · split
        · exact .al rfl (fl_al al)
        · split
          · exact .al rfl (fl_al al)
          · split
            · exact .al rfl (fl_al al)
            · split
              · exact .al rfl an
              · split
                · rcases peek2 (x := x) an wn.at_ with ⟨d, f1, f2, _, hlt'⟩ | ⟨s', t', f1, f2, a, _⟩ | ⟨s', f1, h8, h0, hl⟩
                  · have wnn := next_wf wn hlt'
                    simp only [f1, f2]
                    split
                    · exact quotedL2 n m _ _ _ (next_al an) wnn (by simp only [next]; omega) (by simp only [next]; omega)
                    · split
                      · exact quotedL2 n m _ _ _ (next_al an) wnn (by simp only [next]; omega) (by simp only [next]; omega)
                      · exact .al rfl (fl_al an)
                  · simp only [f1, f2]
                    first | exact .al trivial a | exact .al rfl a
                  · simp only [f1]
                    refine .inr (off_go h8 h0 hl ?_)
                    cases hq : (peek (p ++ x) (next t)).1 with
                    | none => exact peek_ge
                    | some d =>
                      simp only
                      have hn2 : Ge (next t) (next (next t)) := ge_next h0
                      split
                      · exact hn2.trans (quotedL_ge _ _ _)
                      · split
                        · exact hn2.trans (quotedL_ge _ _ _)
                        · exact ge_fl (by decide)
                · exact quotedL2 n m _ _ _ an wn (by simp only [next]; omega) (by simp only [next]; omega)
    · simp only [quotedL, e1, e2]
      first | exact .al trivial a | exact .al rfl a
    · have : (quotedL p (n + 1) acc s).2 = s' := by simp only [quotedL, e1]
      rw [this]
      exact .inr (off_go h8 h0 hl (quotedL_ge _ _ _))
theorem quoted2 {p x : Txt} {s t : RS} (al : Al s t) (hw : WF p s) : Sm p ((quoted p s).1 = (quoted (p ++ x) t).1) (quoted p s).2 (quoted (p ++ x) t).2 :=
  (want2 (c := 34) al hw.at_).bind (fun _ a => quotedL2 _ _ [] _ _ a (want_wf hw 34) (by omega) (by simp; omega)) (quotedL_ge _ _ _) (quotedL_ge _ _ _)
theorem digitsL2 {p x : Txt} {k : Nat} : ∀ (n : Nat) (s t : RS), Al s t → WF p s → Sm p True (digitsL p k n s) (digitsL (p ++ x) k n t)
  | 0, s, t, al, _ => .al trivial al
  | n + 1, s, t, al, hw => by
    rcases peek2 (x := x) al hw.at_ with ⟨c, e1, e2, h0, hlt⟩ | ⟨s', t', e1, e2, a, _⟩ | ⟨s', e1, h8, h0, hl⟩
    · simp only [digitsL, e1, e2, al.at_]
      split
      · split
        · exact .al trivial al
        · split
          · exact .al trivial al
          · exact digitsL2 n _ _ (next_al al) (next_wf hw hlt)
      · exact .al trivial al
    · simp only [digitsL, e1, e2, al.at_]
      split
      · exact .al trivial a
      · exact .al trivial al
    · by_cases h10 : (s.at_ : Int) - k < 10
      · have : digitsL p k (n + 1) s = s' := by simp only [digitsL, e1, if_pos h10]
        rw [this]
        exact .inr (off_go h8 h0 hl (digitsL_ge _ _))
      · simp only [digitsL, al.at_, if_neg h10]
        exact .al trivial al
theorem lt2_2 {p x : Txt} {s t : RS} (al : Al s t) (hw : WF p s) : Sm p (lnum p s = lnum (p ++ x) t) (lt2 p s) (lt2 (p ++ x) t) := by
  refine (want2 (c := 123) al hw.at_).bind (fun _ a => ?_) lt2_ge lt2_ge
  have w2 := lt2_wf hw
  have h : Sm p True (lt2 p s) (lt2 (p ++ x) t) := by
    unfold lt2
    rw [a.at_]
    exact digitsL2 11 _ _ a (want_wf hw 123)
  rcases h with ⟨_, h⟩ | h
  · refine .al ?_ h
    unfold lnum
    rw [a.at_, h.at_, take_drop2 w2.1.at_ w2.2]
  · exact .inr h
theorem lt6_2 {p x : Txt} {s t : RS} (al : Al s t) (hw : WF p s) : Sm p (lnum p s = lnum (p ++ x) t ∧ (lt4 p s).1 = (lt4 (p ++ x) t).1) (lt6 p s) (lt6 (p ++ x) t) := by
  refine (lt2_2 al hw).bind (fun hn a2 => ?_) ((lt3_ge.trans lt4_ge).trans (want_ge.trans lt6_ge)) ((lt3_ge.trans lt4_ge).trans (want_ge.trans lt6_ge))
  have a3 : Al (lt3 p s) (lt3 (p ++ x) t) := by
    unfold lt3
    rw [hn]
    split
    · exact a2
    · exact fl_al a2
  refine (may2 (c := 43) a3 (lt3_wf hw).1.at_).bind (fun h4 a4 => ?_) (want_ge.trans lt6_ge) (want_ge.trans lt6_ge)
  refine (want2 (c := 125) a4 (lt4_wf hw).at_).bind (fun _ a5 => ?_) lt6_ge lt6_ge
  have h : Al (lt5 p s) (lt5 (p ++ x) t) ∨ Off5 p (lt5 p s) (lt5 (p ++ x) t) := endL5 a5 (want_wf (lt4_wf hw) 125)
  rcases h with h | h
  · refine .al ⟨hn, h4⟩ ?_
    unfold lt6
    rw [hn]
    split
    · rw [h.at_]; exact fail_al h
    · exact h
  · right
    unfold lt6
    rw [hn]
    split
    · rename_i hb
      have e1 : fail (lt5 p s) 2 ((lt5 p s).at_ - 2) = lt5 p s := fail_keep (by rw [h.1]; decide)
      rw [e1]
      refine ⟨h.1, ?_⟩
      rcases h.2 with h2 | h2
      · rw [fail_keep (by rw [h2]; decide)]; exact .inl h2
      · right
        by_cases e : (lt5 (p ++ x) t).err = 0
        · have := h2.2 e
          rw [lim_bad (fail_err (by decide))]
          unfold fail
          rw [if_pos e]
          show (p.length : Int) < ((lt5 (p ++ x) t).at_ : Int) - 2 + 2
          omega
        · rw [fail_keep e]; exact h2.1
    · exact h.off
theorem literal2 {p x : Txt} {s t : RS} (al : Al s t) (hw : WF p s) : Sm p ((literal p s).1 = (literal (p ++ x) t).1) (literal p s).2 (literal (p ++ x) t).2 := by
  refine (lt6_2 (x := x) al hw).bind (fun ⟨hn, h4⟩ a => ?_) literal_ge' literal_ge'
  have w6 := (lt6_wf hw).1.at_
  unfold literal
  rw [a.err, a.at_, hn]
  split
  · exact .al rfl a
  · rename_i h0
    have h0' : (lt6 p s).err = 0 := by simpa using h0
    have a7 : Al (lt7 p s) (lt7 (p ++ x) t) := ⟨a.at_, a.line, a.words, a.err, a.bad⟩
    by_cases h1 : (p.length : Int) - (lt6 p s).at_ < (lnum (p ++ x) t).1
    · rw [if_pos h1]
      have h8 : (fail (lt7 p s) 8 (lt7 p s).at_).err = 8 := by unfold fail; rw [if_pos (show (lt7 p s).err = 0 from h0')]
      split
      · exact .al rfl (fl_al a7)
      · refine .inr ⟨h8, .inr ?_⟩
        exact lim_far (a.err.trans h0') (by simp only; omega)
    · rw [if_neg h1, if_neg (by simp; omega)]
      refine .al ?_ ⟨rfl, rfl, a.words, a.err, a.bad⟩
      have := take_drop2 (p := p) (x := x) (i := (lt6 p s).at_) (j := (lt6 p s).at_ + (lnum (p ++ x) t).1) (by omega) (by omega)
      rw [Nat.add_sub_cancel_left] at this
      exact this.symm
theorem plain2 {p x : Txt} {s t : RS} (al : Al s t) (hw : WF p s) : Sm p ((plain p s).1 = (plain (p ++ x) t).1) (plain p s).2 (plain (p ++ x) t).2 := by
  unfold plain
  rw [al.at_]
  exact run2 (fun _ _ a w => brk2 a w) (fun _ h => brk_wf h) (fun _ => brk_ge) (fun _ => brk_ge) _ _ _ _ al hw (Nat.le_refl _) (by omega) (by simp; omega)
/-- A word's reader at a text's beginning and at the text. -/
structure Wk2 (p x : Txt) (f g : RS → Word × RS) : Prop where
  sm : ∀ s t, Al s t → WF p s → Sm p ((f s).1 = (g t).1) (f s).2 (g t).2
  gf : ∀ s, Ge s (f s).2
  gg : ∀ s, Ge s (g s).2
theorem wordF2 {p x : Txt} {lp lb : Option (RS → Word × RS)} (hl : (lp = none ∧ lb = none) ∨ ∃ f g, lp = some f ∧ lb = some g ∧ Wk2 p x f g) : Wk2 p x (wordF p lp) (wordF (p ++ x) lb) := by
  have gp : ∀ s, Ge s (wordF p lp s).2 := wordF_ge (fun f h s => by
    rcases hl with ⟨rfl, rfl⟩ | ⟨f', g, rfl, rfl, h2⟩
    · cases h
    · cases h; exact h2.gf s)
  have gb : ∀ s, Ge s (wordF (p ++ x) lb s).2 := wordF_ge (fun f h s => by
    rcases hl with ⟨rfl, rfl⟩ | ⟨f', g, rfl, rfl, h2⟩
    · cases h
    · cases h; exact h2.gg s)
  refine ⟨fun s t al hw => ?_, gp, gb⟩
  rcases peek2 (x := x) al hw.at_ with ⟨c, e1, e2, h0, hlt⟩ | ⟨s', t', e1, e2, a, _⟩ | ⟨s', e1, h8, h0, hl'⟩
  · simp only [wordF, e1, e2, al.words]
    split
    · refine .al rfl ?_
      rw [al.at_]
      exact fail_al (inc_al al)
    · rename_i hk
      have wi := inc_wf hw h0 hk
      have ai := inc_al al
      split
      · exact (quoted2 ai wi).imp fun h => by rw [h]
      · split
        · exact (literal2 ai wi).imp fun h => by rw [h]
        · split
          · rcases hl with ⟨rfl, rfl⟩ | ⟨f, g, rfl, rfl, h2⟩
            · refine .al rfl ?_
              rw [al.at_]
              exact fail_al ai
            · exact h2.sm _ _ ai wi
          · exact (plain2 ai wi).imp fun h => by rw [h]
  · simp only [wordF, e1, e2]
    first | exact .al trivial a | exact .al rfl a
  · have : (wordF p lp s).2 = s' := by simp only [wordF, e1]
    rw [this]
    exact .inr (off_go h8 h0 hl' (gb t))
theorem listL2 {p x : Txt} {f g : RS → Word × RS} (h : Wk2 p x f g) (wf : ∀ s, WF p s → WF p (f s).2) : ∀ (n : Nat) (acc : List Word) (s t : RS), Al s t → WF p s → Sm p ((listL p f n acc s).1 = (listL (p ++ x) g n acc t).1) (listL p f n acc s).2 (listL (p ++ x) g n acc t).2
  | 0, _, _, _, al, _ => .al rfl al
  | n + 1, acc, s, t, al, hw => by
    by_cases h0 : s.err = 0
    · have e1 : listL p f (n + 1) acc s = if (may p (f s).2 41).1 = true then (acc ++ [(f s).1], (may p (f s).2 41).2) else listL p f n (acc ++ [(f s).1]) (want p (may p (f s).2 41).2 32) := by rw [listL, if_pos h0]
      have e2 : listL (p ++ x) g (n + 1) acc t = if (may (p ++ x) (g t).2 41).1 = true then (acc ++ [(g t).1], (may (p ++ x) (g t).2 41).2) else listL (p ++ x) g n (acc ++ [(g t).1]) (want (p ++ x) (may (p ++ x) (g t).2 41).2 32) := by rw [listL, if_pos (al.err.trans h0)]
      have q1 : Ge (may p (f s).2 41).2 (listL p f (n + 1) acc s).2 := by
        rw [e1]
        split
        · exact .refl _
        · exact want_ge.trans (listL_ge h.gf _ _ _)
      have q2 : Ge (may (p ++ x) (g t).2 41).2 (listL (p ++ x) g (n + 1) acc t).2 := by
        rw [e2]
        split
        · exact .refl _
        · exact want_ge.trans (listL_ge h.gg _ _ _)
      refine (h.sm s t al hw).bind (fun hv a => ?_) (may_ge.trans q1) (may_ge.trans q2)
      have w1 := wf s hw
      refine (may2 (c := 41) a w1.at_).bind (fun hm a2 => ?_) q1 q2
      rw [e1, e2, hm, hv]
      split
      · exact .al rfl a2
      · have w2 := may_wf w1 41
        exact (want2 (c := 32) a2 w2.at_).bind (fun _ a3 => listL2 h wf n _ _ _ a3 (want_wf w2 32)) (listL_ge h.gf _ _ _) (listL_ge h.gg _ _ _)
    · rw [listL, listL, if_neg h0, if_neg (by rw [al.err]; exact h0)]
      exact .al rfl al
theorem listF2 {p x : Txt} {f g : RS → Word × RS} (h : Wk2 p x f g) (wf : ∀ s, WF p s → WF p (f s).2) : Wk2 p x (listF p f) (listF (p ++ x) g) := by
  refine ⟨fun s t al hw => ?_, listF_ge h.gf, listF_ge h.gg⟩
  have q1 : Ge (may p (want p s 40) 41).2 (listF p f s).2 := by
    unfold listF
    split
    · exact .refl _
    · exact listL_ge h.gf _ _ _
  have q2 : Ge (may (p ++ x) (want (p ++ x) t 40) 41).2 (listF (p ++ x) g t).2 := by
    unfold listF
    split
    · exact .refl _
    · exact listL_ge h.gg _ _ _
  refine (want2 (c := 40) al hw.at_).bind (fun _ a => ?_) (may_ge.trans q1) (may_ge.trans q2)
  have w1 := want_wf hw 40
  refine (may2 (c := 41) a w1.at_).bind (fun hm a2 => ?_) q1 q2
  unfold listF
  rw [hm]
  split
  · exact .al rfl a2
  · exact (listL2 h wf 1002 [] _ _ a2 (may_wf w1 41)).imp fun h => by rw [h]
theorem wordW2 {p x : Txt} : ∀ d, Wk2 p x (wordW p d) (wordW (p ++ x) d)
  | 0 => wordF2 (.inl ⟨rfl, rfl⟩)
  | d + 1 => wordF2 (.inr ⟨_, _, rfl, rfl, listF2 (wordW2 d) (wordW_ok d).wf⟩)
end Go.Proofs.YtcanagkflbbmaaaDoor.L
