/- Commands: words and lists, plainly. -/
import Derived.Test.YtcanagkflbbmaaaDoorLCmdS
set_option linter.unusedVariables false
set_option linter.unusedSimpArgs false
set_option maxRecDepth 100000
set_option maxHeartbeats 8000000
namespace Go.Proofs.YtcanagkflbbmaaaDoor.L
open Go Go.Proofs Go.Dev Go.RowKit
theorem peek_words {b : Txt} {s : RS} : (peek b s).2.words = s.words := by
  unfold peek
  split
  · rfl
  · split
    · exact fail_words _ _ _
    · split
      · simp only
        split <;> exact fail_words _ _ _
      · rfl
theorem may_words {b : Txt} {s : RS} {c : UInt8} : (may b s c).2.words = s.words := by
  unfold may
  split
  · exact peek_words
  · exact peek_words
theorem want_words {b : Txt} {s : RS} {c : UInt8} : (want b s c).words = s.words := by
  unfold want
  split
  · exact may_words
  · rw [fail_words]; exact may_words
theorem endL_words {b : Txt} {s : RS} : (endL b s).words = s.words := by
  have : (isB b s 13).2.words = s.words := peek_words
  unfold endL
  simp only
  split
  · rw [fail_words]; exact this
  · split
    · rw [fail_words]; exact this
    · split
      · rw [fail_words]; exact this
      · exact this
theorem bracket_words {b : Txt} : ∀ (n : Nat) (s : RS), (bracket b n s).words = s.words
  | 0, _ => rfl
  | n + 1, s => by
    unfold bracket
    split
    · exact peek_words
    · split
      · exact fail_words _ _ _
      · split
        · exact fail_words _ _ _
        · split
          · rfl
          · exact bracket_words n (next s)
theorem run_words {b no : Txt} {op : RS → RS} {from_ : Nat} (hop : ∀ s, (op s).words = s.words) : ∀ (n : Nat) (s : RS), (run b no op from_ n s).2.words = s.words
  | 0, _ => rfl
  | n + 1, s => by
    unfold run
    split
    · exact peek_words
    · split
      · rw [run_words hop n]
        split
        · exact hop _
        · rfl
      · simp only
        split
        · exact fail_words _ _ _
        · rfl
theorem quotedL_words {b : Txt} : ∀ (n : Nat) (acc : Txt) (s : RS), (quotedL b n acc s).2.words = s.words
  | 0, _, _ => rfl
  | n + 1, acc, s => by
    unfold quotedL
    have f : ∀ (s : RS), (fail s 3 s.at_).words = s.words := fun s => fail_words _ _ _
    split
    · exact peek_words
    · split
      · exact f s
      · split
        · exact f s
        · split
          · exact f s
          · split
            · exact f s
            · split
              · rfl
              · split
                · split
                  · exact peek_words (s := next s)
                  · split
                    · exact quotedL_words n _ (next (next s))
                    · split
                      · exact quotedL_words n _ (next (next s))
                      · exact f (next s)
                · exact quotedL_words n _ (next s)
theorem quoted_words {b : Txt} {s : RS} : (quoted b s).2.words = s.words := by
  unfold quoted
  rw [quotedL_words, want_words]
theorem digitsL_words {b : Txt} {k : Nat} : ∀ (n : Nat) (s : RS), (digitsL b k n s).words = s.words
  | 0, _ => rfl
  | n + 1, s => by
    unfold digitsL
    split
    · split
      · exact peek_words
      · split
        · rfl
        · split
          · rfl
          · exact digitsL_words n (next s)
    · rfl
theorem literal_words {b : Txt} {s : RS} : (literal b s).2.words = s.words := by
  have a2 : (lt2 b s).words = s.words := (digitsL_words 11 _).trans want_words
  have a3 : (lt3 b s).words = s.words := by
    unfold lt3
    split
    · exact a2
    · rw [fail_words]; exact a2
  have a4 : (lt4 b s).2.words = s.words := may_words.trans a3
  have a5 : (lt5 b s).words = s.words := (endL_words.trans want_words).trans a4
  have a6 : (lt6 b s).words = s.words := by
    unfold lt6
    split
    · rw [fail_words]; exact a5
    · exact a5
  unfold literal
  split
  · exact a6
  · split
    · simp only
      rw [fail_words]; exact a6
    · exact a6
theorem fail_keep {s : RS} {e a : Int} (h : s.err ≠ 0) : fail s e a = s := if_neg h
theorem peek_keep {b : Txt} {s : RS} (h : s.err ≠ 0) : peek b s = (none, s) := if_pos h
theorem may_keep {b : Txt} {s : RS} {c : UInt8} (h : s.err ≠ 0) : may b s c = (false, s) := by
  unfold may isB
  rw [peek_keep h]
  rfl
theorem want_keep {b : Txt} {s : RS} {c : UInt8} (h : s.err ≠ 0) : want b s c = s := by
  unfold want
  rw [may_keep h]
  exact fail_keep h
theorem may_err {b : Txt} {s : RS} {c : UInt8} (h : (may b s c).2.err = 0) : s.err = 0 := by
  by_cases e : s.err = 0
  · exact e
  · rw [may_keep e] at h; exact h
theorem want_err {b : Txt} {s : RS} {c : UInt8} (h : (want b s c).err = 0) : s.err = 0 := by
  by_cases e : s.err = 0
  · exact e
  · rw [want_keep e] at h; exact h
/-! Words -/
inductive Word where
  | mk (text : Txt) (quoted : Bool) (list : List Word) (isList : Bool)
def Word.text : Word → Txt | .mk t _ _ _ => t
def Word.quoted : Word → Bool | .mk _ q _ _ => q
def Word.list : Word → List Word | .mk _ _ l _ => l
def Word.isList : Word → Bool | .mk _ _ _ i => i
theorem Word.eta (w : Word) : Word.mk w.text w.quoted w.list w.isList = w := by cases w; rfl
def noW : Word := .mk [] false [] false
def inc (s : RS) : RS := { s with words := s.words + 1 }
def noPlain : Txt := [40, 41, 123, 34]
def noTag : Txt := [40, 41, 123, 37, 42, 34, 92, 43]
def plain (b : Txt) (s : RS) : Txt × RS := run b noPlain (brk b) s.at_ (b.length + 1) s
def wordF (b : Txt) (lst : Option (RS → Word × RS)) (s : RS) : Word × RS := match (peek b s).1 with
  | none => (noW, (peek b s).2)
  | some c =>
    if 1000 < s.words + 1 then (noW, fail (inc s) 2 s.at_)
    else if c = 34 then (.mk (quoted b (inc s)).1 true [] false, (quoted b (inc s)).2)
    else if c = 123 then (.mk (literal b (inc s)).1 true [] false, (literal b (inc s)).2)
    else if c = 40 then (match lst with
      | none => (noW, fail (inc s) 2 s.at_)
      | some f => f (inc s))
    else (.mk (plain b (inc s)).1 false [] false, (plain b (inc s)).2)
def listL (b : Txt) (rec : RS → Word × RS) : Nat → List Word → RS → List Word × RS
  | 0, acc, s => (acc, s)
  | n + 1, acc, s => if s.err = 0 then
      (if (may b (rec s).2 41).1 = true then (acc ++ [(rec s).1], (may b (rec s).2 41).2)
       else listL b rec n (acc ++ [(rec s).1]) (want b (may b (rec s).2 41).2 32)) else (acc, s)
def listF (b : Txt) (rec : RS → Word × RS) (s : RS) : Word × RS :=
  if (may b (want b s 40) 41).1 = true then (.mk [] false [] true, (may b (want b s 40) 41).2)
  else (.mk [] false (listL b rec 1002 [] (may b (want b s 40) 41).2).1 true, (listL b rec 1002 [] (may b (want b s 40) 41).2).2)
def wordW (b : Txt) : Nat → RS → Word × RS
  | 0 => wordF b none
  | d + 1 => wordF b (some (listF b (wordW b d)))
/-- What a word's reader keeps. -/
structure WkOK (b : Txt) (f : RS → Word × RS) : Prop where
  wf : ∀ s, WF b s → WF b (f s).2
  more : ∀ s, WF b s → s.words ≤ (f s).2.words ∧ ((f s).2.err = 0 → s.words < (f s).2.words)
structure LsOK (b : Txt) (f : RS → Word × RS) : Prop where
  wf : ∀ s, WF b s → WF b (f s).2
  more : ∀ s, WF b s → s.words ≤ (f s).2.words
theorem inc_wf {b : Txt} {s : RS} (h : WF b s) (h0 : s.err = 0) (hw : ¬1000 < s.words + 1) : WF b (inc s) := ⟨h.big, h.at_, h.line, by show s.words + 1 ≤ _; omega, fun _ => by show s.words + 1 ≤ _; omega, h.bad⟩
theorem brk_wf {b : Txt} {s : RS} (h : WF b s) : WF b (brk b s) ∧ s.at_ ≤ (brk b s).at_ := bracket_wf _ _ h
theorem plain_wf {b : Txt} {s : RS} (h : WF b s) : WF b (plain b s).2 := (run_wf (fun s h => brk_wf h) _ _ h).1
theorem plain_words {b : Txt} {s : RS} : (plain b s).2.words = s.words := run_words (fun s => bracket_words _ s) _ _
theorem incf_wf {b : Txt} {s : RS} (h : WF b s) (h0 : s.err = 0) : WF b (fail (inc s) 2 s.at_) := by
  have := h.w0 h0
  refine ⟨h.big, by rw [fail_at]; exact h.at_, by rw [fail_at, fail_line]; exact h.line, by rw [fail_words]; show s.words + 1 ≤ _; omega, fun h1 => absurd h1 (fail_err (by decide)), fail_bad h.bad (fun _ => by have := h.at_; omega)⟩
theorem wordF_ok {b : Txt} {lst : Option (RS → Word × RS)} (hl : ∀ f, lst = some f → LsOK b f) : WkOK b (wordF b lst) := by
  have key : ∀ s, WF b s → WF b (wordF b lst s).2 ∧ (s.words ≤ (wordF b lst s).2.words ∧ ((wordF b lst s).2.err = 0 → s.words < (wordF b lst s).2.words)) := fun s h => by
    unfold wordF
    cases hp : (peek b s).1 with
    | none => exact ⟨peek_wf h, by simp only; rw [peek_words]; exact ⟨Nat.le_refl _, fun e => absurd e (peek_none hp)⟩⟩
    | some c =>
      obtain ⟨h1, h2, h3, _⟩ := peek_some hp
      have hf : s.words ≤ (fail (inc s) 2 s.at_).words ∧ ((fail (inc s) 2 s.at_).err = 0 → s.words < (fail (inc s) 2 s.at_).words) := by
        rw [fail_words]
        exact ⟨Nat.le_succ _, fun _ => Nat.lt_succ_self _⟩
      simp only
      split
      · exact ⟨incf_wf h h2, hf⟩
      · rename_i hw
        have hi := inc_wf h h2 hw
        split
        · exact ⟨(quoted_wf hi).1, by simp only; rw [quoted_words]; exact ⟨Nat.le_succ _, fun _ => Nat.lt_succ_self _⟩⟩
        · split
          · exact ⟨(literal_wf hi).1, by simp only; rw [literal_words]; exact ⟨Nat.le_succ _, fun _ => Nat.lt_succ_self _⟩⟩
          · split
            · split
              · exact ⟨incf_wf h h2, hf⟩
              · rename_i f
                have := (hl f rfl).more _ hi
                exact ⟨(hl f rfl).wf _ hi, Nat.le_trans (Nat.le_succ _) this, fun _ => this⟩
            · exact ⟨plain_wf hi, by simp only; rw [plain_words]; exact ⟨Nat.le_succ _, fun _ => Nat.lt_succ_self _⟩⟩
  exact ⟨fun s h => (key s h).1, fun s h => (key s h).2⟩
theorem listL_ok {b : Txt} {rec : RS → Word × RS} (hr : WkOK b rec) : ∀ (n : Nat) (acc : List Word) (s : RS), WF b s → WF b (listL b rec n acc s).2 ∧ s.words ≤ (listL b rec n acc s).2.words
  | 0, _, s, h => ⟨h, Nat.le_refl _⟩
  | n + 1, acc, s, h => by
    unfold listL
    have h1 := hr.wf s h
    have h2 := (hr.more s h).1
    have h3 := may_wf h1 41
    split
    · split
      · exact ⟨h3, by simp only; rw [may_words]; exact h2⟩
      · obtain ⟨q1, q2⟩ := listL_ok hr n (acc ++ [(rec s).1]) _ (want_wf h3 32)
        exact ⟨q1, Nat.le_trans (by rw [want_words, may_words]; exact h2) q2⟩
    · exact ⟨h, Nat.le_refl _⟩
theorem listF_ok {b : Txt} {rec : RS → Word × RS} (hr : WkOK b rec) : LsOK b (listF b rec) := by
  have key : ∀ s, WF b s → WF b (listF b rec s).2 ∧ s.words ≤ (listF b rec s).2.words := fun s h => by
    have h1 := may_wf (want_wf h 40) 41
    unfold listF
    split
    · exact ⟨h1, by simp only; rw [may_words, want_words]; exact Nat.le_refl _⟩
    · obtain ⟨q1, q2⟩ := listL_ok hr 1002 [] _ h1
      exact ⟨q1, Nat.le_trans (by rw [may_words, want_words]; exact Nat.le_refl _) q2⟩
  exact ⟨fun s h => (key s h).1, fun s h => (key s h).2⟩
theorem wordW_ok {b : Txt} : ∀ d, WkOK b (wordW b d)
  | 0 => wordF_ok (fun f h => by cases h)
  | d + 1 => wordF_ok (fun f h => by cases h; exact listF_ok (wordW_ok d))
end Go.Proofs.YtcanagkflbbmaaaDoor.L
