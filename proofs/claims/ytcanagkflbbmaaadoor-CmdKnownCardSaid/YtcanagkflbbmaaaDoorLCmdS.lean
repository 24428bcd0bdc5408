/- Commands: the reader, plainly. -/
import Derived.Test.YtcanagkflbbmaaaDoorLLib
set_option linter.unusedVariables false
set_option linter.unusedSimpArgs false
set_option maxRecDepth 100000
set_option maxHeartbeats 8000000
namespace Go.Proofs.YtcanagkflbbmaaaDoor.L
open Go Go.Proofs Go.Dev Go.RowKit
/-- The reader's state: where it is, where its line began, how many words, the error, where, whether a literal is waited for. -/
structure RS where
  at_ : Nat
  line : Nat
  words : Nat
  err : Int
  bad : Int
  wants : Bool
abbrev Txt := List UInt8
def fail (s : RS) (e at_ : Int) : RS := if s.err = 0 then { s with err := e, bad := at_ } else s
structure WF (b : Txt) (s : RS) : Prop where
  big : b.length < 1000000000
  at_ : s.at_ ≤ b.length
  line : s.line ≤ s.at_
  words : s.words ≤ 1001
  w0 : s.err = 0 → s.words ≤ 1000
  bad : 0 ≤ s.bad ∧ s.bad ≤ (b.length : Int)
def crlfAt (b : Txt) (i : Nat) : Bool := decide (2 ≤ (b.drop i).length) && decide ((b.drop i).take 2 = [13, 10])
def peek (b : Txt) (s : RS) : Option UInt8 × RS :=
  if s.err ≠ 0 then (none, s) else if h : b.length ≤ s.at_ then (none, fail s 8 s.at_)
  else if 8192 ≤ (s.at_ : Int) - s.line ∧ crlfAt b s.at_ = false then (none, if b.drop s.at_ = [13] then fail s 8 s.at_ else fail s 2 s.at_)
  else (some (b[s.at_]'(by omega)), s)
def isB (b : Txt) (s : RS) (c : UInt8) : Bool × RS := (decide ((peek b s).1 = some c), (peek b s).2)
def next (s : RS) : RS := { s with at_ := s.at_ + 1 }
def may (b : Txt) (s : RS) (c : UInt8) : Bool × RS := if (isB b s c).1 then (true, next (isB b s c).2) else (false, (isB b s c).2)
def want (b : Txt) (s : RS) (c : UInt8) : RS := if (may b s c).1 then (may b s c).2 else fail (may b s c).2 3 (may b s c).2.at_
def endL (b : Txt) (s : RS) : RS :=
  let t := (isB b s 13).2
  if (isB b s 13).1 = false then fail t 3 t.at_ else if t.at_ + 1 = b.length then fail t 8 t.at_ else if b[t.at_ + 1]? ≠ some 10 then fail t 3 t.at_ else { t with at_ := t.at_ + 2 }
/-! What stays so -/
theorem fail_at (s : RS) (e a : Int) : (fail s e a).at_ = s.at_ := by unfold fail; split <;> rfl
theorem fail_line (s : RS) (e a : Int) : (fail s e a).line = s.line := by unfold fail; split <;> rfl
theorem fail_words (s : RS) (e a : Int) : (fail s e a).words = s.words := by unfold fail; split <;> rfl
theorem fail_wants (s : RS) (e a : Int) : (fail s e a).wants = s.wants := by unfold fail; split <;> rfl
theorem fail_err {s : RS} {e a : Int} (he : e ≠ 0) : (fail s e a).err ≠ 0 := by
  unfold fail
  split
  · exact he
  · assumption
theorem fail_bad {s : RS} {e a : Int} {n : Nat} (h : 0 ≤ s.bad ∧ s.bad ≤ (n : Int)) (ha : s.err = 0 → 0 ≤ a ∧ a ≤ (n : Int)) : 0 ≤ (fail s e a).bad ∧ (fail s e a).bad ≤ (n : Int) := by
  unfold fail
  split
  · exact ha (by assumption)
  · exact h
theorem fail_wfA {b : Txt} {s : RS} {e a : Int} (he : e ≠ 0) (h : WF b s) (ha : s.err = 0 → 0 ≤ a ∧ a ≤ (b.length : Int)) : WF b (fail s e a) := ⟨h.big, by rw [fail_at]; exact h.at_, by rw [fail_at, fail_line]; exact h.line, by rw [fail_words]; exact h.words, fun h0 => absurd h0 (fail_err he), fail_bad h.bad ha⟩
theorem fail_wf {b : Txt} {s : RS} {e : Int} (he : e ≠ 0) (h : WF b s) : WF b (fail s e s.at_) := fail_wfA he h fun _ => by have := h.at_; omega
/-- What peek tells: a byte, and nothing has changed; or none, and there is an error. -/
theorem peek_some {b : Txt} {s : RS} {c : UInt8} (h : (peek b s).1 = some c) : (peek b s).2 = s ∧ s.err = 0 ∧ ∃ hlt : s.at_ < b.length, b[s.at_] = c := by
  unfold peek at h ⊢
  split at h
  · cases h
  · rename_i h1
    rw [if_neg h1]
    split at h
    · cases h
    · rename_i h2
      rw [dif_neg h2]
      split at h
      · cases h
      · rename_i h3
        rw [if_neg h3]
        exact ⟨rfl, by simpa using h1, by omega, by simpa using h⟩
theorem peek_none {b : Txt} {s : RS} (h : (peek b s).1 = none) : (peek b s).2.err ≠ 0 := by
  unfold peek at h ⊢
  split
  · assumption
  · rename_i h1
    rw [if_neg h1] at h
    split
    · exact fail_err (by decide)
    · rename_i h2
      rw [dif_neg h2] at h
      split
      · simp only
        split <;> exact fail_err (by decide)
      · rename_i h3
        rw [if_neg h3] at h
        cases h
theorem peek_wf {b : Txt} {s : RS} (h : WF b s) : WF b (peek b s).2 := by
  unfold peek
  split
  · exact h
  · split
    · exact fail_wf (by decide) h
    · split
      · simp only
        split <;> exact fail_wf (by decide) h
      · exact h
theorem peek_at {b : Txt} {s : RS} : (peek b s).2.at_ = s.at_ := by
  unfold peek
  split
  · rfl
  · split
    · exact fail_at _ _ _
    · split
      · simp only
        split <;> exact fail_at _ _ _
      · rfl
theorem isB_t {b : Txt} {s : RS} {c : UInt8} (h : (isB b s c).1 = true) : (isB b s c).2 = s ∧ s.err = 0 ∧ ∃ hlt : s.at_ < b.length, b[s.at_] = c := peek_some (of_decide_eq_true h)
theorem isB_wf {b : Txt} {s : RS} (h : WF b s) (c : UInt8) : WF b (isB b s c).2 := peek_wf h
theorem next_wf {b : Txt} {s : RS} (h : WF b s) (hl : s.at_ < b.length) : WF b (next s) := ⟨h.big, by show s.at_ + 1 ≤ _; omega, by have := h.line; show s.line ≤ s.at_ + 1; omega, h.words, h.w0, h.bad⟩
theorem may_wf {b : Txt} {s : RS} (h : WF b s) (c : UInt8) : WF b (may b s c).2 := by
  unfold may
  split
  · rename_i h1
    obtain ⟨h2, h3, h4, _⟩ := isB_t h1
    exact next_wf (isB_wf h c) (by rw [h2]; exact h4)
  · exact isB_wf h c
theorem may_at {b : Txt} {s : RS} {c : UInt8} : s.at_ ≤ (may b s c).2.at_ := by
  unfold may
  split
  · show s.at_ ≤ (isB b s c).2.at_ + 1
    rw [isB, peek_at]; omega
  · show s.at_ ≤ (isB b s c).2.at_
    rw [isB, peek_at]; omega
theorem want_wf {b : Txt} {s : RS} (h : WF b s) (c : UInt8) : WF b (want b s c) := by
  unfold want
  split
  · exact may_wf h c
  · exact fail_wf (by decide) (may_wf h c)
theorem want_at {b : Txt} {s : RS} {c : UInt8} : s.at_ ≤ (want b s c).at_ := by
  unfold want
  split
  · exact may_at
  · rw [fail_at]; exact may_at
theorem endL_wf {b : Txt} {s : RS} (h : WF b s) : WF b (endL b s) := by
  have h1 := isB_wf h 13
  unfold endL
  simp only
  split
  · exact fail_wf (by decide) h1
  · rename_i h0
    have h0' : (isB b s 13).1 = true := by simpa using h0
    obtain ⟨h2, h3, h4, _⟩ := isB_t h0'
    split
    · exact fail_wf (by decide) h1
    · split
      · exact fail_wf (by decide) h1
      · rw [h2] at *
        exact ⟨h.big, by show s.at_ + 2 ≤ _; omega, by have := h.line; show s.line ≤ s.at_ + 2; omega, h.words, h.w0, h.bad⟩
theorem endL_at {b : Txt} {s : RS} : s.at_ ≤ (endL b s).at_ := by
  have : (isB b s 13).2.at_ = s.at_ := peek_at
  unfold endL
  simp only
  split
  · rw [fail_at]; omega
  · split
    · rw [fail_at]; omega
    · split
      · rw [fail_at]; omega
      · show s.at_ ≤ (isB b s 13).2.at_ + 2
        omega
theorem endL_two {b : Txt} {s : RS} (h : (endL b s).err = 0) : 2 ≤ (endL b s).at_ := by
  unfold endL at h ⊢
  simp only at h ⊢
  split at h
  · exact absurd h (fail_err (by decide))
  · rename_i h0
    rw [if_neg h0]
    split at h
    · exact absurd h (fail_err (by decide))
    · rename_i h1
      rw [if_neg h1]
      split at h
      · exact absurd h (fail_err (by decide))
      · rename_i h2
        rw [if_neg h2]
        simp only
        omega
theorem isB_lt {b : Txt} {s : RS} {c : UInt8} (h : (isB b s c).1 = true) : (isB b s c).2.at_ < b.length := by
  obtain ⟨h1, _, h2, _⟩ := isB_t h
  rw [h1]; exact h2
theorem peek_lt {b : Txt} {s : RS} (h : (peek b s).1.isSome = true) : (peek b s).2.at_ < b.length := by
  obtain ⟨c, hc⟩ := Option.isSome_iff_exists.1 h
  obtain ⟨h1, _, h2, _⟩ := peek_some hc
  rw [h1]; exact h2
theorem at_iff {b : Txt} {i : Nat} (h : i < b.length) (n : UInt8) : b[i]? = some n ↔ (b[i].toNat : Int) = (n.toNat : Int) := by
  rw [List.getElem?_eq_getElem h]
  constructor
  · intro e; simp at e; rw [e]
  · intro e; rw [show b[i] = n from UInt8.toNat_inj.1 (by omega)]
/-- Behind peek, both ways. -/
theorem bx_peek {b : Txt} {s : RS} {X Y : Prop} (h1 : ∀ c, (peek b s).1 = some c → (peek b s).2 = s → s.err = 0 → s.at_ < b.length → b[s.at_]? = some c → X) (h0 : (peek b s).1 = none → (peek b s).2.err ≠ 0 → Y) : bxN (peek b s).1.isSome.toNat X Y :=
  .split (fun h => by
    obtain ⟨c, hc⟩ := Option.isSome_iff_exists.1 h
    obtain ⟨q1, q2, q3, q4⟩ := peek_some hc
    exact h1 c hc q1 q2 q3 (by rw [List.getElem?_eq_getElem q3, q4])) (fun h => by
    have : (peek b s).1 = none := by simpa using h
    exact h0 this (peek_none this))
theorem bx_npeek {b : Txt} {s : RS} {X Y : Prop} (h1 : ∀ c, (peek b s).1 = some c → (peek b s).2 = s → s.err = 0 → s.at_ < b.length → b[s.at_]? = some c → X) (h0 : (peek b s).1 = none → (peek b s).2.err ≠ 0 → Y) : bxN (!(peek b s).1.isSome).toNat Y X :=
  .not (fun h => by
    have : (peek b s).1 = none := by simpa using h
    exact h0 this (peek_none this)) (fun h => by
    obtain ⟨c, hc⟩ := Option.isSome_iff_exists.1 h
    obtain ⟨q1, q2, q3, q4⟩ := peek_some hc
    exact h1 c hc q1 q2 q3 (by rw [List.getElem?_eq_getElem q3, q4]))
/-- What is behind a bracket, up to its closing one. -/
def bracket (b : Txt) : Nat → RS → RS
  | 0, s => s
  | n + 1, s => match (peek b s).1 with
    | none => (peek b s).2
    | some c => if c = 13 then fail s 3 s.at_ else if c = 10 then fail s 3 s.at_ else if c = 93 then next s else bracket b n (next s)
theorem bracket_wf {b : Txt} : ∀ (n : Nat) (s : RS), WF b s → WF b (bracket b n s) ∧ s.at_ ≤ (bracket b n s).at_
  | 0, s, h => ⟨h, Nat.le_refl _⟩
  | n + 1, s, h => by
    unfold bracket
    cases hp : (peek b s).1 with
    | none => exact ⟨peek_wf h, by rw [peek_at]; exact Nat.le_refl _⟩
    | some c =>
      obtain ⟨h1, h2, h3, _⟩ := peek_some hp
      simp only
      split
      · exact ⟨fail_wf (by decide) h, by rw [fail_at]; exact Nat.le_refl _⟩
      · split
        · exact ⟨fail_wf (by decide) h, by rw [fail_at]; exact Nat.le_refl _⟩
        · have hn := next_wf h h3
          split
          · exact ⟨hn, Nat.le_succ _⟩
          · obtain ⟨q1, q2⟩ := bracket_wf n (next s) hn
            exact ⟨q1, Nat.le_trans (Nat.le_succ _) q2⟩
def brk (b : Txt) (s : RS) : RS := bracket b (b.length + 1) s
/-- May a byte stand in a word? -/
def vis (no : Txt) (c : UInt8) : Bool := decide (33 ≤ c.toNat) && decide (c.toNat < 127) && decide (Lib.indexByte no c < 0)
/-- Bytes of a word. -/
def run (b no : Txt) (op : RS → RS) (from_ : Nat) : Nat → RS → Txt × RS
  | 0, s => ([], s)
  | n + 1, s => match (peek b s).1 with
    | none => ([], (peek b s).2)
    | some c => if vis no c then run b no op from_ n (if c = 91 then op (next s) else next s)
      else ((b.drop from_).take (s.at_ - from_), if s.at_ = from_ then fail s 3 s.at_ else s)
theorem run_wf {b no : Txt} {op : RS → RS} {from_ : Nat} (hop : ∀ s, WF b s → WF b (op s) ∧ s.at_ ≤ (op s).at_) : ∀ (n : Nat) (s : RS), WF b s → WF b (run b no op from_ n s).2 ∧ s.at_ ≤ (run b no op from_ n s).2.at_
  | 0, s, h => ⟨h, Nat.le_refl _⟩
  | n + 1, s, h => by
    unfold run
    cases hp : (peek b s).1 with
    | none => exact ⟨peek_wf h, by simp only; rw [peek_at]; exact Nat.le_refl _⟩
    | some c =>
      obtain ⟨h1, h2, h3, _⟩ := peek_some hp
      simp only
      have hn := next_wf h h3
      split
      · have hs : WF b (if c = 91 then op (next s) else next s) ∧ s.at_ ≤ (if c = 91 then op (next s) else next s).at_ := by
          split
          · exact ⟨(hop _ hn).1, Nat.le_trans (Nat.le_succ _) (hop _ hn).2⟩
          · exact ⟨hn, Nat.le_succ _⟩
        obtain ⟨q1, q2⟩ := run_wf (no := no) (from_ := from_) hop n _ hs.1
        exact ⟨q1, Nat.le_trans hs.2 q2⟩
      · split
        · exact ⟨fail_wf (by decide) h, by simp only; rw [fail_at]; exact Nat.le_refl _⟩
        · exact ⟨h, Nat.le_refl _⟩
/-- What a quoted word bears. -/
def quotedL (b : Txt) : Nat → Txt → RS → Txt × RS
  | 0, _, s => ([], s)
  | n + 1, acc, s => match (peek b s).1 with
    | none => ([], (peek b s).2)
    | some c => if c = 0 then ([], fail s 3 s.at_) else if c = 13 then ([], fail s 3 s.at_) else if c = 10 then ([], fail s 3 s.at_) else if 127 < c.toNat then ([], fail s 3 s.at_)
      else if c = 34 then (acc, next s)
      else if c = 92 then (match (peek b (next s)).1 with
        | none => ([], (peek b (next s)).2)
        | some d => if d = 34 then quotedL b n (acc ++ [d]) (next (next s)) else if d = 92 then quotedL b n (acc ++ [d]) (next (next s)) else ([], fail (next s) 3 (next s).at_))
      else quotedL b n (acc ++ [c]) (next s)
def quoted (b : Txt) (s : RS) : Txt × RS := quotedL b (b.length + 1) [] (want b s 34)
theorem quotedL_wf {b : Txt} : ∀ (n : Nat) (acc : Txt) (s : RS), WF b s → WF b (quotedL b n acc s).2 ∧ s.at_ ≤ (quotedL b n acc s).2.at_
  | 0, _, s, h => ⟨h, Nat.le_refl _⟩
  | n + 1, acc, s, h => by
    unfold quotedL
    cases hp : (peek b s).1 with
    | none => exact ⟨peek_wf h, by simp only; rw [peek_at]; exact Nat.le_refl _⟩
    | some c =>
      obtain ⟨h1, h2, h3, _⟩ := peek_some hp
      have hn := next_wf h h3
      have bad : WF b (([] : Txt), fail s 3 s.at_).2 ∧ s.at_ ≤ (([] : Txt), fail s 3 s.at_).2.at_ := ⟨fail_wf (by decide) h, by simp only; rw [fail_at]; exact Nat.le_refl _⟩
      have two : ∀ d, (peek b (next s)).1 = some d → WF b (quotedL b n (acc ++ [d]) (next (next s))).2 ∧ s.at_ ≤ (quotedL b n (acc ++ [d]) (next (next s))).2.at_ := fun d hd => by
        obtain ⟨q1, q2, q3, _⟩ := peek_some hd
        obtain ⟨r1, r2⟩ := quotedL_wf n (acc ++ [d]) _ (next_wf hn q3)
        exact ⟨r1, Nat.le_trans (show s.at_ ≤ (next (next s)).at_ by simp only [next]; omega) r2⟩
      simp only
      split
      · exact bad
      · split
        · exact bad
        · split
          · exact bad
          · split
            · exact bad
            · split
              · exact ⟨hn, Nat.le_succ _⟩
              · split
                · cases hq : (peek b (next s)).1 with
                  | none => exact ⟨peek_wf hn, by simp only; rw [peek_at]; exact Nat.le_succ _⟩
                  | some d =>
                    simp only
                    split
                    · exact two d hq
                    · split
                      · exact two d hq
                      · exact ⟨fail_wf (by decide) hn, by simp only; rw [fail_at]; exact Nat.le_succ _⟩
                · obtain ⟨r1, r2⟩ := quotedL_wf n (acc ++ [c]) _ hn
                  exact ⟨r1, Nat.le_trans (Nat.le_succ _) r2⟩
theorem quoted_wf {b : Txt} {s : RS} (h : WF b s) : WF b (quoted b s).2 ∧ s.at_ ≤ (quoted b s).2.at_ := by
  obtain ⟨h1, h2⟩ := quotedL_wf (b.length + 1) [] _ (want_wf h 34)
  exact ⟨h1, Nat.le_trans want_at h2⟩
/-- A number's digits. -/
def isDig (c : UInt8) : Bool := decide (48 ≤ c.toNat) && decide (c.toNat ≤ 57)
def decV (l : Txt) : Nat := l.foldl (fun n c => n * 10 + (c.toNat - 48)) 0
def num (l : Txt) : Nat × Bool := if 1 ≤ l.length ∧ l.length ≤ 10 ∧ l.all isDig = true then (decV l, true) else (0, false)
theorem decV_snoc (l : Txt) (c : UInt8) : decV (l ++ [c]) = decV l * 10 + (c.toNat - 48) := by simp [decV]
theorem decV_lt : ∀ (l : Txt), l.all isDig = true → decV l < 10 ^ l.length := by
  intro l
  induction hl : l.length generalizing l with
  | zero => intro _; rw [List.eq_nil_of_length_eq_zero hl]; decide
  | succ n ih =>
    intro h
    have hne : l ≠ [] := by intro e; simp [e] at hl
    obtain ⟨m, c, rfl⟩ : ∃ m c, l = m ++ [c] := ⟨l.dropLast, l.getLast hne, (List.dropLast_concat_getLast hne).symm⟩
    rw [List.all_append] at h
    simp [isDig] at h
    have hm : m.length = n := by simpa using hl
    have := ih m hm (by simpa [isDig] using h.1)
    rw [decV_snoc, Nat.pow_succ]
    omega
/-- Digits, ten at most. -/
def digitsL (b : Txt) (from_ : Nat) : Nat → RS → RS
  | 0, s => s
  | n + 1, s => if (s.at_ : Int) - from_ < 10 then (match (peek b s).1 with
      | none => (peek b s).2
      | some c => if c.toNat < 48 then s else if 57 < c.toNat then s else digitsL b from_ n (next s)) else s
theorem digitsL_wf {b : Txt} {from_ : Nat} : ∀ (n : Nat) (s : RS), WF b s → WF b (digitsL b from_ n s) ∧ s.at_ ≤ (digitsL b from_ n s).at_
  | 0, s, h => ⟨h, Nat.le_refl _⟩
  | n + 1, s, h => by
    unfold digitsL
    split
    · cases hp : (peek b s).1 with
      | none => exact ⟨peek_wf h, by simp only; rw [peek_at]; exact Nat.le_refl _⟩
      | some c =>
        obtain ⟨h1, h2, h3, _⟩ := peek_some hp
        simp only
        split
        · exact ⟨h, Nat.le_refl _⟩
        · split
          · exact ⟨h, Nat.le_refl _⟩
          · obtain ⟨r1, r2⟩ := digitsL_wf (from_ := from_) n _ (next_wf h h3)
            exact ⟨r1, Nat.le_trans (Nat.le_succ _) r2⟩
    · exact ⟨h, Nat.le_refl _⟩
/-- A literal's head: what its digits are, whether it goes on at once, where it ends. -/
def lt2 (b : Txt) (s : RS) : RS := digitsL b (want b s 123).at_ 11 (want b s 123)
def lnum (b : Txt) (s : RS) : Nat × Bool := num ((b.drop (want b s 123).at_).take ((lt2 b s).at_ - (want b s 123).at_))
def lt3 (b : Txt) (s : RS) : RS := if (lnum b s).2 = true then lt2 b s else fail (lt2 b s) 3 (lt2 b s).at_
def lt4 (b : Txt) (s : RS) : Bool × RS := may b (lt3 b s) 43
def lt5 (b : Txt) (s : RS) : RS := endL b (want b (lt4 b s).2 125)
def lt6 (b : Txt) (s : RS) : RS := if 65536 < (lnum b s).1 then fail (lt5 b s) 2 ((lt5 b s).at_ - 2) else lt5 b s
def lt7 (b : Txt) (s : RS) : RS := { lt6 b s with wants := decide ((lt6 b s).at_ = b.length) && !(lt4 b s).1 }
def literal (b : Txt) (s : RS) : Txt × RS :=
  if (lt6 b s).err ≠ 0 then ([], lt6 b s) else
  if (b.length : Int) - (lt6 b s).at_ < (lnum b s).1 then ([], fail (lt7 b s) 8 (lt7 b s).at_) else ((b.drop (lt6 b s).at_).take (lnum b s).1, { lt7 b s with at_ := (lt6 b s).at_ + (lnum b s).1, line := (lt6 b s).at_ + (lnum b s).1 })
theorem lt2_wf {b : Txt} {s : RS} (h : WF b s) : WF b (lt2 b s) ∧ (want b s 123).at_ ≤ (lt2 b s).at_ := digitsL_wf 11 _ (want_wf h 123)
theorem lt3_wf {b : Txt} {s : RS} (h : WF b s) : WF b (lt3 b s) ∧ (lt2 b s).at_ ≤ (lt3 b s).at_ := by
  unfold lt3
  split
  · exact ⟨(lt2_wf h).1, Nat.le_refl _⟩
  · exact ⟨fail_wf (by decide) (lt2_wf h).1, by rw [fail_at]; exact Nat.le_refl _⟩
theorem lt4_wf {b : Txt} {s : RS} (h : WF b s) : WF b (lt4 b s).2 := may_wf (lt3_wf h).1 43
theorem lt5_wf {b : Txt} {s : RS} (h : WF b s) : WF b (lt5 b s) ∧ s.at_ ≤ (lt5 b s).at_ := by
  refine ⟨endL_wf (want_wf (lt4_wf h) 125), ?_⟩
  have a1 : s.at_ ≤ (want b s 123).at_ := want_at
  have a2 := (lt2_wf h).2
  have a3 := (lt3_wf h).2
  have a4 : (lt3 b s).at_ ≤ (lt4 b s).2.at_ := may_at
  have a5 : (lt4 b s).2.at_ ≤ (want b (lt4 b s).2 125).at_ := want_at
  have a6 : (want b (lt4 b s).2 125).at_ ≤ (lt5 b s).at_ := endL_at
  omega
theorem lt6_wf {b : Txt} {s : RS} (h : WF b s) : WF b (lt6 b s) ∧ s.at_ ≤ (lt6 b s).at_ := by
  obtain ⟨h1, a1⟩ := lt5_wf h
  unfold lt6
  split
  · exact ⟨fail_wfA (by decide) h1 (fun h0 => by have := endL_two h0; have := h1.at_; unfold lt5 at *; omega), by rw [fail_at]; exact a1⟩
  · exact ⟨h1, a1⟩
theorem lt7_wf {b : Txt} {s : RS} (h : WF b s) : WF b (lt7 b s) := by
  obtain ⟨h1, a1⟩ := lt6_wf h
  exact ⟨h1.big, h1.at_, h1.line, h1.words, h1.w0, h1.bad⟩
theorem literal_wf {b : Txt} {s : RS} (h : WF b s) : WF b (literal b s).2 ∧ s.at_ ≤ (literal b s).2.at_ := by
  obtain ⟨h1, a1⟩ := lt6_wf h
  unfold literal
  split
  · exact ⟨h1, a1⟩
  · split
    · exact ⟨fail_wf (by decide) (lt7_wf h), by simp only; rw [fail_at]; exact a1⟩
    · have := h1.at_
      exact ⟨⟨h1.big, by simp only; omega, Nat.le_refl _, h1.words, h1.w0, h1.bad⟩, by simp only; omega⟩
theorem num_lt (l : Txt) : (num l).1 < 10000000000 := by
  unfold num
  split
  · rename_i h
    exact Nat.lt_of_lt_of_le (decV_lt l h.2.2) (Nat.le_trans (Nat.pow_le_pow_right (by decide) h.2.1) (by decide))
  · decide
/-- Small letters made great. -/
def upper (c : UInt8) : UInt8 := if 97 ≤ c.toNat ∧ c.toNat ≤ 122 then c - 32 else c
theorem bx_fail {s : RS} {e a : Int} {X Y : Prop} (he : e ≠ 0) (h : X) : bxN (decide ((fail s e a).err ≠ 0)).toNat X Y := .dec (fun _ => h) (fun h => absurd (fail_err he) h)
end Go.Proofs.YtcanagkflbbmaaaDoor.L
