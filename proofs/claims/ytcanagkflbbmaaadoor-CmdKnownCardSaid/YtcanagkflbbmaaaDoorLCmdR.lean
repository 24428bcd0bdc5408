/- Commands: what stands behind a text does not change what it is told to be. -/
import Derived.Test.YtcanagkflbbmaaaDoorLCmdQ
import Derived.Test.YtcanagkflbbmaaaDoorLCmd10
set_option linter.unusedVariables false
set_option linter.unusedSimpArgs false
set_option maxRecDepth 100000
set_option maxHeartbeats 8000000
namespace Go.Proofs.YtcanagkflbbmaaaDoor.L
open Go Go.Proofs Go.Dev Go.RowKit
theorem argsL_ge {b : Txt} : ∀ (n : Nat) (acc : List Word) (s : RS), Ge s (argsL b n acc s).2
  | 0, _, s => .refl s
  | n + 1, acc, s => by
    unfold argsL
    split
    · split
      · exact isB_ge.trans endL_ge
      · exact ((isB_ge.trans want_ge).trans (wordW_ge _ _)).trans (argsL_ge n _ _)
    · exact .refl s
theorem argsL_far {b : Txt} : ∀ (n : Nat) (acc : List Word) (s : RS), WF b s → s.err = 0 → 1001 < n + s.words → (argsL b n acc s).2.err = 0 → s.at_ + 2 ≤ (argsL b n acc s).2.at_
  | 0, _, s, hw, h0, hn, _ => absurd (hw.w0 h0) (by omega)
  | n + 1, acc, s, hw, h0, hn, h => by
    have ha : (isB b s 13).2.at_ = s.at_ := peek_at
    have hiw : (isB b s 13).2.words = s.words := peek_words
    rw [argsL, if_pos h0] at h ⊢
    split at h
    · rename_i h1
      rw [if_pos h1]
      have := (endL_ok h).1
      simp only
      omega
    · rename_i h1
      rw [if_neg h1]
      have wi := want_wf (isB_wf hw 13) 32
      have wu := (wordW_ok 32).wf _ wi
      have g : Ge (wordW b 32 (want b (isB b s 13).2 32)).2 (argsL b n (acc ++ [(wordW b 32 (want b (isB b s 13).2 32)).1]) (wordW b 32 (want b (isB b s 13).2 32)).2).2 := argsL_ge n (acc ++ [(wordW b 32 (want b (isB b s 13).2 32)).1]) _
      have hu : (wordW b 32 (want b (isB b s 13).2 32)).2.err = 0 := by
        refine Classical.byContradiction fun e => ?_
        rw [g.keep e] at h
        exact e h
      have hi : (isB b s 13).2.err = 0 := by
        refine Classical.byContradiction fun e => ?_
        have g2 : Ge (isB b s 13).2 (wordW b 32 (want b (isB b s 13).2 32)).2 := want_ge.trans (wordW_ge _ _)
        rw [g2.keep e] at hu
        exact e hu
      have l : ((isB b s 13).2.at_ : Int) ≤ lim (wordW b 32 (want b (isB b s 13).2 32)).2 := (want_ge.trans (wordW_ge _ _)).le hi
      rw [lim_ok hu] at l
      have hw2 := ((wordW_ok (b := b) 32).more _ wi).2 hu
      rw [want_words] at hw2
      have := argsL_far n _ _ wu hu (by omega) h
      omega
theorem argsL_offs {p b : Txt} {n : Nat} {acc : List Word} {s u : RS} (h : Off p s u) (hw : WF b u) (hn : u.err = 0 → 1001 < n + u.words) : Off5 p s (argsL b n acc u).2 := by
  have o : Off p s (argsL b n acc u).2 := h.go (.refl s) (argsL_ge _ _ _)
  refine ⟨h.1, o.2.imp id fun h2 => ⟨h2, fun e => ?_⟩⟩
  have hu : u.err = 0 := by
    refine Classical.byContradiction fun e' => ?_
    rw [(argsL_ge n acc u).keep e'] at e
    exact e' e
  have := argsL_far n acc u hw hu (hn hu) e
  rcases h.2 with h3 | h3
  · rw [hu] at h3; cases h3
  · rw [lim_ok hu] at h3
    omega
theorem argsL5 {p x : Txt} : ∀ (n : Nat) (acc : List Word) (s t : RS), Al s t → WF p s → WF (p ++ x) t → (s.err = 0 → 1001 < n + s.words) → ((argsL p n acc s).1 = (argsL (p ++ x) n acc t).1 ∧ Al (argsL p n acc s).2 (argsL (p ++ x) n acc t).2) ∨ Off5 p (argsL p n acc s).2 (argsL (p ++ x) n acc t).2
  | 0, _, _, _, al, _, _, _ => .inl ⟨rfl, al⟩
  | n + 1, acc, s, t, al, hw, hv, hn => by
    by_cases h0 : s.err = 0
    · have e1 : argsL p (n + 1) acc s = if (isB p s 13).1 = true then (acc, endL p (isB p s 13).2) else argsL p n (acc ++ [(wordW p 32 (want p (isB p s 13).2 32)).1]) (wordW p 32 (want p (isB p s 13).2 32)).2 := by rw [argsL, if_pos h0]
      have e2 : argsL (p ++ x) (n + 1) acc t = if (isB (p ++ x) t 13).1 = true then (acc, endL (p ++ x) (isB (p ++ x) t 13).2) else argsL (p ++ x) n (acc ++ [(wordW (p ++ x) 32 (want (p ++ x) (isB (p ++ x) t 13).2 32)).1]) (wordW (p ++ x) 32 (want (p ++ x) (isB (p ++ x) t 13).2 32)).2 := by rw [argsL, if_pos (al.err.trans h0)]
      have wi := isB_wf hw 13
      have vi := isB_wf hv 13
      have wa := want_wf wi 32
      have va := want_wf vi 32
      have wu := (wordW_ok 32).wf _ wa
      have vu := (wordW_ok 32).wf _ va
      have nu : ∀ {b : Txt} {s : RS}, WF b s → 1001 < n + 1 + s.words → (wordW b 32 (want b (isB b s 13).2 32)).2.err = 0 → 1001 < n + (wordW b 32 (want b (isB b s 13).2 32)).2.words := fun {b s} hw hn e => by
        have := ((wordW_ok (b := b) 32).more _ (want_wf (isB_wf hw 13) 32)).2 e
        rw [want_words, show (isB b s 13).2.words = s.words from peek_words] at this
        omega
      have ns := hn h0
      have nt : 1001 < n + 1 + t.words := by rw [al.words]; exact ns
      rcases isB2 (x := x) (c := 13) al hw.at_ with ⟨e, a⟩ | h
      · by_cases h1 : (isB p s 13).1 = true
        · rw [e1, e2, if_pos h1, if_pos (by rw [← e]; exact h1)]
          exact (endL5 a wi).imp (fun h => ⟨rfl, h⟩) id
        · rw [e1, e2, if_neg h1, if_neg (by rw [← e]; exact h1)]
          rcases want2 (x := x) (c := 32) a wi.at_ with ⟨_, a2⟩ | h
          · rcases (wordW2 (x := x) 32).sm _ _ a2 wa with ⟨e3, a3⟩ | h
            · rw [e3]
              exact argsL5 n _ _ _ a3 wu vu (nu hw ns)
            · rw [(argsL_ge n (acc ++ [(wordW p 32 (want p (isB p s 13).2 32)).1]) _).keep (by rw [h.1]; decide)]
              exact .inr (argsL_offs h vu (nu hv nt))
          · have o : Off p (wordW p 32 (want p (isB p s 13).2 32)).2 (wordW (p ++ x) 32 (want (p ++ x) (isB (p ++ x) t 13).2 32)).2 := h.go (wordW_ge 32 _) (wordW_ge 32 _)
            rw [(argsL_ge n (acc ++ [(wordW p 32 (want p (isB p s 13).2 32)).1]) _).keep (by rw [o.1]; decide)]
            exact .inr (argsL_offs o vu (nu hv nt))
      · have k : (argsL p (n + 1) acc s).2 = (isB p s 13).2 := by
          have g : Ge (isB p s 13).2 (argsL p (n + 1) acc s).2 := by
            rw [e1]
            split
            · exact endL_ge
            · exact (want_ge.trans (wordW_ge _ _)).trans (argsL_ge _ _ _)
          exact g.keep (by rw [h.1]; decide)
        rw [k, e2]
        right
        split
        · have hi : (isB (p ++ x) (isB (p ++ x) t 13).2 13).2.at_ = (isB (p ++ x) t 13).2.at_ := peek_at
          exact endL_off (h.go (.refl _) isB_ge)
        · exact argsL_offs (h.go (.refl _) (want_ge.trans (wordW_ge _ _))) vu (nu hv nt)
    · rw [argsL, argsL, if_neg h0, if_neg (by rw [al.err]; exact h0)]
      exact .inl ⟨rfl, al⟩
theorem Off.inc {p : Txt} {s t : RS} (h : Off p s t) : Off p (inc s) (inc t) := h
theorem rd1_2 {p x : Txt} (hb : (p ++ x).length < 1000000000) : Sm p ((rd1 p).1 = (rd1 (p ++ x)).1) (rd1 p).2 (rd1 (p ++ x)).2 :=
  run2 (fun s t a _ => .al trivial a) (fun s h => ⟨h, Nat.le_refl _⟩) (fun s => .refl s) (fun s => .refl s) _ _ _ _ (.refl r0) (r0_wf (by simp at hb; omega)) (Nat.zero_le _) (by simp [r0]) (by simp [r0])
theorem rd2_2 {p x : Txt} (hb : (p ++ x).length < 1000000000) : Sm p ((rd1 p).1 = (rd1 (p ++ x)).1) (rd2 p) (rd2 (p ++ x)) := by
  have hp : p.length < 1000000000 := by simp at hb; omega
  rcases rd1_2 hb with ⟨e, a⟩ | h
  · rcases want2 (x := x) (c := 32) a (rd1_wf hp).at_ with ⟨_, a⟩ | h
    · exact .al e (inc_al a)
    · exact .inr h.inc
  · exact .inr (h.go want_ge want_ge).inc
theorem rd3_2 {p x : Txt} (hb : (p ++ x).length < 1000000000) : Sm p ((rd1 p).1 = (rd1 (p ++ x)).1 ∧ (rd3 p).1 = (rd3 (p ++ x)).1) (rd3 p).2 (rd3 (p ++ x)).2 :=
  (rd2_2 hb).bind (fun e a => (plain2 a (rd2_wf (by simp at hb; omega))).imp fun h => ⟨e, h⟩) plain_ge plain_ge
theorem rdA_2 {p x : Txt} (hb : (p ++ x).length < 1000000000) : (readC p = readC (p ++ x) ∧ Al (rdA p).2 (rdA (p ++ x)).2) ∨ Off5 p (rdA p).2 (rdA (p ++ x)).2 := by
  have hp : p.length < 1000000000 := by simp at hb; omega
  rcases rd3_2 hb with ⟨⟨e1, e2⟩, a⟩ | h
  · rcases argsL5 1002 [] _ _ a (rd3_wf hp) (rd3_wf hb) (fun _ => by rw [rd3_words]; decide) with ⟨h1, h2⟩ | h
    · exact .inl ⟨by
        unfold readC
        rw [e1, e2]
        exact congrArg _ h1, h2⟩
    · exact .inr h
  · right
    have k : (rdA p).2 = (rd3 p).2 := (argsL_ge 1002 [] (rd3 p).2).keep (by rw [h.1]; decide)
    rw [k]
    exact argsL_offs h (rd3_wf hb) (fun _ => by rw [rd3_words]; decide)
/-! Where the end of a line stands -/
theorem index_app2 : ∀ (l x : Txt), (0 ≤ Lib.index l [13, 10] → Lib.index (l ++ x) [13, 10] = Lib.index l [13, 10]) ∧ (0 ≤ Lib.index (l ++ x) [13, 10] → Lib.index (l ++ x) [13, 10] + 2 ≤ (l.length : Int) → 0 ≤ Lib.index l [13, 10])
  | [], x => by
    refine ⟨fun h => absurd h (by decide), fun h1 h2 => ?_⟩
    simp only [List.nil_append, List.length_nil] at h1 h2
    omega
  | c :: l, x => by
    obtain ⟨h1, h2⟩ := index_app2 l x
    have g1 := index_le2 l [13, 10]
    have g2 := index_le2 (l ++ x) [13, 10]
    simp only [List.cons_append, Lib.index, List.length_cons]
    have hp : l ≠ [] → ([13, 10] : Txt).isPrefixOf (c :: (l ++ x)) = ([13, 10] : Txt).isPrefixOf (c :: l) := fun hne => by
      cases l with
      | nil => exact absurd rfl hne
      | cons d l => simp [List.isPrefixOf]
    by_cases hl : l = []
    · subst hl
      have e : ([13, 10] : Txt).isPrefixOf [c] = false := by simp [List.isPrefixOf]
      refine ⟨?_, ?_⟩
      · rw [e]
        intro h
        exact absurd h (by simp [Lib.index])
      · intro q1 q2
        simp only [List.nil_append, List.length_nil] at q2 g2
        split at q2
        · omega
        · rename_i hh
          split at q2
          · simp only [List.nil_append] at q1 hh
            rw [if_neg hh] at q1
            rename_i hq
            rw [if_pos hq] at q1
            omega
          · rename_i hq
            simp only [beq_iff_eq] at hq
            omega
    · rw [hp hl]
      refine ⟨?_, ?_⟩
      · split
        · intro _; rfl
        · split
          · intro h; omega
          · rename_i hq
            simp only [beq_iff_eq] at hq
            intro _
            rw [h1 (by omega)]
            rw [if_neg (by simpa using hq)]
      · split
        · intro _ _; omega
        · split
          · intro h; omega
          · rename_i hq
            simp only [beq_iff_eq] at hq
            intro q1 q2
            have := h2 (by omega) (by omega)
            rw [if_neg (by simp; omega)]
            omega
theorem index_two : ∀ (l : Txt), 0 ≤ Lib.index l [13, 10] → Lib.index l [13, 10] + 2 ≤ (l.length : Int)
  | [], h => absurd h (by decide)
  | c :: l, h => by
    simp only [Lib.index, List.length_cons] at h ⊢
    split at h
    · rename_i h1
      rw [if_pos h1]
      cases l with
      | nil => simp [List.isPrefixOf] at h1
      | cons d l => simp only [List.length_cons]; omega
    · rename_i h1
      rw [if_neg h1]
      split at h
      · omega
      · rename_i h2
        rw [if_neg h2]
        simp only [beq_iff_eq] at h2
        have := index_two l (by omega)
        omega
/-- What is told of a text's beginning is told of the text. -/
theorem parse_fwd {p x : Txt} (hb : (p ++ x).length < 1000000000) (h : (parseC p).2.2 ≠ 8) : parseC (p ++ x) = parseC p := by
  have wp := rdA_wf (b := p) (by simp at hb; omega)
  rcases rdA_2 hb with ⟨e, a⟩ | h5
  · unfold parseC at h ⊢
    rw [a.err, a.at_, a.bad, ← e]
    by_cases h0 : (rdA p).2.err = 0
    · rw [if_pos h0, if_pos h0]
    · rw [if_neg h0] at h ⊢
      rw [if_neg h0]
      by_cases h8 : (rdA p).2.err = 8
      · rw [if_pos h8] at h
        exact absurd rfl h
      · rw [if_neg h8] at h ⊢
        rw [if_neg h8]
        have hd : (p ++ x).drop (rdA p).2.bad.toNat = p.drop (rdA p).2.bad.toNat ++ x := List.drop_append_of_le_length (by have := wp.bad; omega)
        by_cases hi : Lib.index (p.drop (rdA p).2.bad.toNat) [13, 10] < 0
        · rw [if_pos hi] at h
          exact absurd rfl h
        · rw [hd, (index_app2 _ x).1 (by omega)]
  · unfold parseC at h
    rw [if_neg (by rw [h5.1]; decide), if_pos h5.1] at h
    exact absurd rfl h
/-- What is told of a text is told as soon as it has come. -/
theorem parse_bwd {p x : Txt} (hb : (p ++ x).length < 1000000000) (h : (parseC (p ++ x)).2.2 ≠ 8) (hn : (parseC (p ++ x)).2.1 ≤ p.length) : (parseC p).2.2 ≠ 8 := by
  have wp := rdA_wf (b := p) (by simp at hb; omega)
  have wb := (rdA_wf hb).bad
  rcases rdA_2 hb with ⟨e, a⟩ | h5
  · unfold parseC at h hn ⊢
    rw [a.err, a.bad] at h hn
    by_cases h0 : (rdA p).2.err = 0
    · rw [if_pos h0]; show (0 : Int) ≠ 8; decide
    · rw [if_neg h0] at h hn ⊢
      by_cases h8 : (rdA p).2.err = 8
      · rw [if_pos h8] at h
        exact absurd rfl h
      · rw [if_neg h8] at h hn ⊢
        have hd : (p ++ x).drop (rdA p).2.bad.toNat = p.drop (rdA p).2.bad.toNat ++ x := List.drop_append_of_le_length (by have := wp.bad; omega)
        rw [hd] at h hn
        by_cases hi : Lib.index (p.drop (rdA p).2.bad.toNat ++ x) [13, 10] < 0
        · rw [if_pos hi] at h
          exact absurd rfl h
        · rw [if_neg hi] at hn
          have := (index_app2 (p.drop (rdA p).2.bad.toNat) x).2 (by omega) (by have := wp.bad; simp only at hn; simp; omega)
          rw [if_neg (by omega)]
          exact h8
  · exfalso
    rcases h5.2 with h8 | ⟨hl, hf⟩
    · unfold parseC at h
      rw [if_neg (by rw [h8]; decide), if_pos h8] at h
      exact absurd rfl h
    · by_cases h0 : (rdA (p ++ x)).2.err = 0
      · unfold parseC at hn
        rw [if_pos h0] at hn
        have := hf h0
        simp only at hn
        omega
      · rw [lim_bad h0] at hl
        unfold parseC at h hn
        rw [if_neg h0] at h hn
        split at h
        · exact absurd rfl h
        · rename_i h8
          rw [if_neg h8] at hn
          split at h
          · exact absurd rfl h
          · rename_i hi
            rw [if_neg hi] at hn
            simp only at hn
            omega
theorem parse_n {b : Txt} (hb : b.length < 1000000000) : 0 ≤ (parseC b).2.1 ∧ (parseC b).2.1 ≤ b.length ∧ ((parseC b).2.2 = 8 → (parseC b).2.1 = 0 ∧ (parseC b).1 = noC) := by
  have w := rdA_wf hb
  have wb := w.bad
  have wa := w.at_
  have ix := index_le2 (b.drop (rdA b).2.bad.toNat) [13, 10]
  unfold parseC
  split
  · refine ⟨by simp only; omega, by simp only; omega, fun h => by cases h⟩
  · split
    · exact ⟨Int.le_refl _, by simp only; omega, fun _ => ⟨rfl, rfl⟩⟩
    · split
      · exact ⟨Int.le_refl _, by simp only; omega, fun _ => ⟨rfl, rfl⟩⟩
      · rename_i h8 hi
        refine ⟨by simp only; omega, ?_, fun h => absurd h h8⟩
        have := index_two (b.drop (rdA b).2.bad.toNat) (by omega)
        simp only
        simp at this
        omega
end Go.Proofs.YtcanagkflbbmaaaDoor.L
