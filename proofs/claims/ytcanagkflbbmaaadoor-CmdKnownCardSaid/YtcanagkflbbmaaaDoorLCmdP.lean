/- Commands: what stands behind does not change what was read. -/
import Derived.Test.YtcanagkflbbmaaaDoorLCmdW
set_option linter.unusedVariables false
set_option linter.unusedSimpArgs false
set_option maxRecDepth 100000
set_option maxHeartbeats 8000000
namespace Go.Proofs.YtcanagkflbbmaaaDoor.L
open Go Go.Proofs Go.Dev Go.RowKit
/-- Alike, but for whether a literal is waited for. -/
structure Al (s t : RS) : Prop where
  at_ : t.at_ = s.at_
  line : t.line = s.line
  words : t.words = s.words
  err : t.err = s.err
  bad : t.bad = s.bad
theorem Al.refl (s : RS) : Al s s := ⟨rfl, rfl, rfl, rfl, rfl⟩
def lim (s : RS) : Int := if s.err = 0 then s.at_ else s.bad
theorem lim_ok {s : RS} (h : s.err = 0) : lim s = s.at_ := if_pos h
theorem lim_bad {s : RS} (h : s.err ≠ 0) : lim s = s.bad := if_neg h
theorem Al.lim {s t : RS} (h : Al s t) : lim t = lim s := by unfold L.lim; rw [h.err, h.at_, h.bad]
/-- From a state on: an error stays; else what is looked at lies behind. -/
structure Ge (s t : RS) : Prop where
  keep : s.err ≠ 0 → t = s
  le : s.err = 0 → (s.at_ : Int) ≤ lim t
theorem Ge.refl (s : RS) : Ge s s := ⟨fun _ => rfl, fun h => by rw [lim_ok h]; exact Int.le_refl _⟩
theorem Ge.trans {s t u : RS} (h : Ge s t) (k : Ge t u) : Ge s u := ⟨fun e => by
  have := h.keep e
  subst this
  exact k.keep e, fun e => by
  have h1 := h.le e
  by_cases et : t.err = 0
  · have := k.le et
    rw [lim_ok et] at h1
    omega
  · rw [k.keep et]; exact h1⟩
theorem ge_fail {s : RS} {e a : Int} (he : e ≠ 0) (ha : s.err = 0 → (s.at_ : Int) ≤ a) : Ge s (fail s e a) := ⟨fun h => fail_keep h, fun h => by
  rw [lim_bad (fail_err he)]
  unfold fail
  rw [if_pos h]
  exact ha h⟩
theorem ge_fl {s : RS} {e : Int} (he : e ≠ 0) : Ge s (fail s e s.at_) := ge_fail he fun _ => Int.le_refl _
theorem ge_at {s t : RS} (h0 : s.err = 0) (h : t.err = s.err) (ha : s.at_ ≤ t.at_) : Ge s t := ⟨fun e => absurd h0 e, fun _ => by rw [lim_ok (by rw [h, h0])]; omega⟩
theorem ge_next {s : RS} (h0 : s.err = 0) : Ge s (next s) := ge_at h0 rfl (Nat.le_succ _)
theorem peek_nil {b : Txt} {s : RS} (h0 : s.err = 0) (h : b.drop s.at_ = []) : peek b s = (none, fail s 8 s.at_) := by
  have : b.length ≤ s.at_ := by simpa using h
  unfold peek
  rw [if_neg (by simp [h0]), dif_pos this]
theorem peek_cons {b : Txt} {s : RS} {c : UInt8} {r : Txt} (h0 : s.err = 0) (h : b.drop s.at_ = c :: r) : peek b s = if 8192 ≤ (s.at_ : Int) - s.line ∧ ¬(c = 13 ∧ r.head? = some 10) then (none, if c = 13 ∧ r = [] then fail s 8 s.at_ else fail s 2 s.at_) else (some c, s) := by
  have hl : s.at_ < b.length := by
    refine Nat.lt_of_not_le fun e => ?_
    rw [List.drop_eq_nil_of_le e] at h
    cases h
  have hc : b[s.at_] = c := by
    have := List.drop_eq_getElem_cons hl
    rw [h] at this
    exact (List.cons.inj this).1.symm
  have hcr : (crlfAt b s.at_ = false) ↔ ¬(c = 13 ∧ r.head? = some 10) := by
    unfold crlfAt
    rw [h]
    cases r with
    | nil => simp
    | cons d r => simp
  unfold peek
  rw [if_neg (by simp [h0]), dif_neg (by omega)]
  simp only [hcr, h, hc, List.cons.injEq]
theorem fail_al {s t : RS} {e a : Int} (h : Al s t) : Al (fail s e a) (fail t e a) := by
  unfold fail
  rw [h.err]
  split
  · exact ⟨h.at_, h.line, h.words, rfl, rfl⟩
  · exact h
theorem fl_al {s t : RS} {e : Int} (h : Al s t) : Al (fail s e s.at_) (fail t e t.at_) := by rw [h.at_]; exact fail_al h
theorem next_al {s t : RS} (h : Al s t) : Al (next s) (next t) := ⟨by show t.at_ + 1 = s.at_ + 1; rw [h.at_], h.line, h.words, h.err, h.bad⟩
theorem inc_al {s t : RS} (h : Al s t) : Al (inc s) (inc t) := ⟨h.at_, h.line, by show t.words + 1 = s.words + 1; rw [h.words], h.err, h.bad⟩
/-- A peek at a text's beginning and at the text. -/
theorem peek2 {p x : Txt} {s t : RS} (al : Al s t) (hs : s.at_ ≤ p.length) :
    (∃ c, peek p s = (some c, s) ∧ peek (p ++ x) t = (some c, t) ∧ s.err = 0 ∧ s.at_ < p.length) ∨ (∃ s' t', peek p s = (none, s') ∧ peek (p ++ x) t = (none, t') ∧ Al s' t' ∧ s'.err ≠ 0) ∨ (∃ s', peek p s = (none, s') ∧ s'.err = 8 ∧ t.err = 0 ∧ (p.length : Int) < t.at_ + 2) := by
  by_cases h0 : s.err = 0
  · have ht0 : t.err = 0 := al.err.trans h0
    have hd : (p ++ x).drop t.at_ = p.drop s.at_ ++ x := by rw [al.at_, List.drop_append_of_le_length hs]
    have h8 : (fail s 8 s.at_).err = 8 := by unfold fail; rw [if_pos h0]
    cases hp : p.drop s.at_ with
    | nil =>
      have : p.length ≤ s.at_ := by simpa using hp
      exact .inr (.inr ⟨_, peek_nil h0 hp, h8, ht0, by have := al.at_; omega⟩)
    | cons c r =>
      have hlt : s.at_ < p.length := by
        refine Nat.lt_of_not_le fun e => ?_
        rw [List.drop_eq_nil_of_le e] at hp
        cases hp
      rw [hp] at hd
      have e1 := peek_cons h0 hp
      have e2 := peek_cons ht0 hd
      rw [al.at_, al.line] at e2
      cases r with
      | nil =>
        have hl : p.length = s.at_ + 1 := by
          have := congrArg List.length hp
          simp at this
          omega
        by_cases h13 : c = 13
        · by_cases hl8 : 8192 ≤ (s.at_ : Int) - s.line
          · rw [if_pos ⟨hl8, by simp⟩, if_pos ⟨h13, rfl⟩] at e1
            exact .inr (.inr ⟨_, e1, h8, ht0, by have := al.at_; omega⟩)
          · rw [if_neg (fun h => hl8 h.1)] at e1
            rw [if_neg (fun h => hl8 h.1)] at e2
            exact .inl ⟨c, e1, e2, h0, hlt⟩
        · by_cases hl8 : 8192 ≤ (s.at_ : Int) - s.line
          · rw [if_pos ⟨hl8, fun h => h13 h.1⟩, if_neg (fun h => h13 h.1)] at e1
            rw [if_pos ⟨hl8, fun h => h13 h.1⟩, if_neg (fun h => h13 h.1)] at e2
            exact .inr (.inl ⟨_, _, e1, e2, fail_al al, fail_err (by decide)⟩)
          · rw [if_neg (fun h => hl8 h.1)] at e1
            rw [if_neg (fun h => hl8 h.1)] at e2
            exact .inl ⟨c, e1, e2, h0, hlt⟩
      | cons d r =>
        by_cases hc : 8192 ≤ (s.at_ : Int) - s.line ∧ ¬(c = 13 ∧ d = 10)
        · rw [if_pos (by simpa using hc), if_neg (fun h => by cases h.2)] at e1
          rw [if_pos (by simpa using hc), if_neg (fun h => by cases h.2)] at e2
          exact .inr (.inl ⟨_, _, e1, e2, fail_al al, fail_err (by decide)⟩)
        · rw [if_neg (by simpa using hc)] at e1
          rw [if_neg (by simpa using hc)] at e2
          exact .inl ⟨c, e1, e2, h0, hlt⟩
  · exact .inr (.inl ⟨s, t, peek_keep h0, peek_keep (by rw [al.err]; exact h0), al, h0⟩)
/-- The beginning's reader waits for more; the text's has an error for want of more, or has looked too far. -/
def Off (p : Txt) (s t : RS) : Prop := s.err = 8 ∧ (t.err = 8 ∨ (p.length : Int) < lim t + 2)
def Sm (p : Txt) (P : Prop) (s t : RS) : Prop := (P ∧ Al s t) ∨ Off p s t
theorem Off.go {p : Txt} {s t s' t' : RS} (h : Off p s t) (g : Ge s s') (k : Ge t t') : Off p s' t' := by
  obtain ⟨h1, h2⟩ := h
  rw [g.keep (by rw [h1]; decide)]
  refine ⟨h1, ?_⟩
  rcases h2 with h2 | h2
  · exact .inl (by rw [k.keep (by rw [h2]; decide)]; exact h2)
  · refine .inr ?_
    by_cases e : t.err = 0
    · have := k.le e
      rw [lim_ok e] at h2
      omega
    · rw [k.keep e]; exact h2
theorem off_go {p : Txt} {s' t t' : RS} (h : s'.err = 8) (h0 : t.err = 0) (hl : (p.length : Int) < t.at_ + 2) (k : Ge t t') : Off p s' t' := ⟨h, .inr (by have := k.le h0; omega)⟩
theorem Sm.bind {p : Txt} {P Q : Prop} {s t s' t' : RS} (h : Sm p P s t) (f : P → Al s t → Sm p Q s' t') (g : Ge s s') (k : Ge t t') : Sm p Q s' t' := by
  rcases h with ⟨h1, h2⟩ | h
  · exact f h1 h2
  · exact .inr (h.go g k)
theorem Sm.al {p : Txt} {P : Prop} {s t : RS} (h : P) (a : Al s t) : Sm p P s t := .inl ⟨h, a⟩
theorem Sm.imp {p : Txt} {P Q : Prop} {s t : RS} (h : Sm p P s t) (f : P → Q) : Sm p Q s t := Or.imp (fun h => ⟨f h.1, h.2⟩) id h
/-! From a state on -/
theorem peek_ge {b : Txt} {s : RS} : Ge s (peek b s).2 := by
  unfold peek
  split
  · exact .refl _
  · split
    · exact ge_fl (by decide)
    · split
      · simp only
        split <;> exact ge_fl (by decide)
      · exact .refl _
theorem isB_ge {b : Txt} {s : RS} {c : UInt8} : Ge s (isB b s c).2 := peek_ge
theorem may_ge' {b : Txt} {s : RS} {c : UInt8} : Ge (isB b s c).2 (may b s c).2 := by
  unfold may
  split
  · rename_i h
    obtain ⟨h1, h2, _⟩ := isB_t h
    exact ge_next (by rw [h1]; exact h2)
  · exact .refl _
theorem may_ge {b : Txt} {s : RS} {c : UInt8} : Ge s (may b s c).2 := isB_ge.trans may_ge'
theorem want_ge' {b : Txt} {s : RS} {c : UInt8} : Ge (may b s c).2 (want b s c) := by
  unfold want
  split
  · exact .refl _
  · exact ge_fl (by decide)
theorem want_ge {b : Txt} {s : RS} {c : UInt8} : Ge s (want b s c) := may_ge.trans want_ge'
theorem endL_ge' {b : Txt} {s : RS} : Ge (isB b s 13).2 (endL b s) := by
  unfold endL
  simp only
  split
  · exact ge_fl (by decide)
  · rename_i h0
    obtain ⟨h2, h3, h4, _⟩ := isB_t (by simpa using h0)
    split
    · exact ge_fl (by decide)
    · split
      · exact ge_fl (by decide)
      · exact ge_at (by rw [h2]; exact h3) rfl (by simp only; omega)
theorem endL_ge {b : Txt} {s : RS} : Ge s (endL b s) := isB_ge.trans endL_ge'
theorem bracket_ge {b : Txt} : ∀ (n : Nat) (s : RS), Ge s (bracket b n s)
  | 0, s => .refl s
  | n + 1, s => by
    unfold bracket
    cases hp : (peek b s).1 with
    | none => exact peek_ge
    | some c =>
      obtain ⟨_, h0, _⟩ := peek_some hp
      simp only
      split
      · exact ge_fl (by decide)
      · split
        · exact ge_fl (by decide)
        · split
          · exact ge_next h0
          · exact (ge_next h0).trans (bracket_ge n _)
theorem run_ge {b no : Txt} {op : RS → RS} {from_ : Nat} (hop : ∀ s, Ge s (op s)) : ∀ (n : Nat) (s : RS), Ge s (run b no op from_ n s).2
  | 0, s => .refl s
  | n + 1, s => by
    unfold run
    cases hp : (peek b s).1 with
    | none => exact peek_ge
    | some c =>
      obtain ⟨_, h0, _⟩ := peek_some hp
      simp only
      split
      · refine Ge.trans ?_ (run_ge hop n _)
        split
        · exact (ge_next h0).trans (hop _)
        · exact ge_next h0
      · simp only
        split
        · exact ge_fl (by decide)
        · exact .refl _
theorem quotedL_ge {b : Txt} : ∀ (n : Nat) (acc : Txt) (s : RS), Ge s (quotedL b n acc s).2
  | 0, _, s => .refl s
  | n + 1, acc, s => by
    unfold quotedL
    cases hp : (peek b s).1 with
    | none => exact peek_ge
    | some c =>
      obtain ⟨_, h0, _⟩ := peek_some hp
      have hn := ge_next h0
      simp only
      split
      · exact ge_fl (by decide)
      · split
        · exact ge_fl (by decide)
        · split
          · exact ge_fl (by decide)
          · split
            · exact ge_fl (by decide)
            · split
              · exact hn
              · split
                · cases hq : (peek b (next s)).1 with
                  | none => exact hn.trans peek_ge
                  | some d =>
                    have hn2 : Ge (next s) (next (next s)) := ge_next h0
                    simp only
                    split
                    · exact (hn.trans hn2).trans (quotedL_ge n _ _)
                    · split
                      · exact (hn.trans hn2).trans (quotedL_ge n _ _)
                      · exact hn.trans (ge_fl (by decide))
                · exact hn.trans (quotedL_ge n _ _)
theorem quoted_ge {b : Txt} {s : RS} : Ge s (quoted b s).2 := want_ge.trans (quotedL_ge _ _ _)
theorem digitsL_ge {b : Txt} {k : Nat} : ∀ (n : Nat) (s : RS), Ge s (digitsL b k n s)
  | 0, s => .refl s
  | n + 1, s => by
    unfold digitsL
    split
    · cases hp : (peek b s).1 with
      | none => exact peek_ge
      | some c =>
        obtain ⟨_, h0, _⟩ := peek_some hp
        simp only
        split
        · exact .refl _
        · split
          · exact .refl _
          · exact (ge_next h0).trans (digitsL_ge n _)
    · exact .refl _
theorem lt2_ge {b : Txt} {s : RS} : Ge (want b s 123) (lt2 b s) := digitsL_ge _ _
theorem lt3_ge {b : Txt} {s : RS} : Ge (lt2 b s) (lt3 b s) := by
  unfold lt3
  split
  · exact .refl _
  · exact ge_fl (by decide)
theorem lt4_ge {b : Txt} {s : RS} : Ge (lt3 b s) (lt4 b s).2 := may_ge
theorem lt5_ge' {b : Txt} {s : RS} : Ge (want b (lt4 b s).2 125) (lt5 b s) := endL_ge
theorem lt5_ge {b : Txt} {s : RS} : Ge (lt4 b s).2 (lt5 b s) := want_ge.trans lt5_ge'
theorem endL_ok {b : Txt} {s : RS} (h : (endL b s).err = 0) : (endL b s).at_ = s.at_ + 2 ∧ s.err = 0 := by
  have e : (isB b s 13).2.at_ = s.at_ := peek_at
  unfold endL at h ⊢
  simp only at h ⊢
  split at h
  · exact absurd h (fail_err (by decide))
  · rename_i h0
    rw [if_neg h0]
    split at h
    · exact absurd h (fail_err (by decide))
    · rename_i h1
      rw [if_neg h1]
      split at h
      · exact absurd h (fail_err (by decide))
      · rename_i h2
        rw [if_neg h2]
        obtain ⟨_, h3, _⟩ := isB_t (by simpa using h0)
        exact ⟨by simp only; omega, h3⟩
theorem lt6_al {b : Txt} {s : RS} (h : (lt6 b s).err = 0) : lt6 b s = lt5 b s := by
  unfold lt6 at h ⊢
  split
  · rename_i h1
    rw [if_pos h1] at h
    exact absurd h (fail_err (by decide))
  · rfl
theorem lt6_ge {b : Txt} {s : RS} : Ge (want b (lt4 b s).2 125) (lt6 b s) := by
  unfold lt6
  split
  · refine ⟨fun h => ?_, fun h => ?_⟩
    · have := lt5_ge'.keep h
      rw [this]
      exact fail_keep h
    · by_cases e : (lt5 b s).err = 0
      · have q : (lt5 b s).at_ = _ + 2 := (endL_ok e).1
        rw [lim_bad (fail_err (by decide))]
        unfold fail
        rw [if_pos e]
        show _ ≤ ((lt5 b s).at_ : Int) - 2
        omega
      · rw [fail_keep e]
        exact lt5_ge'.le h
  · exact lt5_ge'
theorem literal_ge' {b : Txt} {s : RS} : Ge (lt6 b s) (literal b s).2 := by
  unfold literal
  split
  · exact .refl _
  · rename_i h
    have h0 : (lt6 b s).err = 0 := by simpa using h
    split
    · refine ⟨fun e => absurd h0 e, fun _ => ?_⟩
      have : Ge (lt7 b s) (fail (lt7 b s) 8 (lt7 b s).at_) := ge_fl (by decide)
      exact this.le h0
    · exact ge_at h0 rfl (by simp only; omega)
theorem lt6_ge0 {b : Txt} {s : RS} : Ge s (lt6 b s) := (((want_ge.trans lt2_ge).trans lt3_ge).trans lt4_ge).trans (want_ge.trans lt6_ge)
theorem literal_ge {b : Txt} {s : RS} : Ge s (literal b s).2 := lt6_ge0.trans literal_ge'
theorem ge_inc {s t : RS} (h0 : s.err = 0) (h : Ge (inc s) t) : Ge s t := ⟨fun e => absurd h0 e, fun _ => h.le h0⟩
theorem brk_ge {b : Txt} {s : RS} : Ge s (brk b s) := bracket_ge _ _
theorem plain_ge {b : Txt} {s : RS} : Ge s (plain b s).2 := run_ge (fun _ => brk_ge) _ _
theorem wordF_ge {b : Txt} {lst : Option (RS → Word × RS)} (hl : ∀ f, lst = some f → ∀ s, Ge s (f s).2) (s : RS) : Ge s (wordF b lst s).2 := by
  unfold wordF
  cases hp : (peek b s).1 with
  | none => exact peek_ge
  | some c =>
    obtain ⟨_, h0, _⟩ := peek_some hp
    simp only
    split
    · exact ge_inc h0 (ge_fl (s := inc s) (by decide))
    · split
      · exact ge_inc h0 quoted_ge
      · split
        · exact ge_inc h0 literal_ge
        · split
          · split
            · exact ge_inc h0 (ge_fl (s := inc s) (by decide))
            · exact ge_inc h0 (hl _ rfl _)
          · exact ge_inc h0 plain_ge
theorem listL_ge {b : Txt} {rec : RS → Word × RS} (hr : ∀ s, Ge s (rec s).2) : ∀ (n : Nat) (acc : List Word) (s : RS), Ge s (listL b rec n acc s).2
  | 0, _, s => .refl s
  | n + 1, acc, s => by
    unfold listL
    split
    · split
      · exact (hr s).trans may_ge
      · exact (((hr s).trans may_ge).trans want_ge).trans (listL_ge hr n _ _)
    · exact .refl s
theorem listF_ge {b : Txt} {rec : RS → Word × RS} (hr : ∀ s, Ge s (rec s).2) (s : RS) : Ge s (listF b rec s).2 := by
  unfold listF
  split
  · exact want_ge.trans may_ge
  · exact (want_ge.trans may_ge).trans (listL_ge hr _ _ _)
theorem wordW_ge {b : Txt} : ∀ (d : Nat) (s : RS), Ge s (wordW b d s).2
  | 0, s => wordF_ge (fun f h => by cases h) s
  | d + 1, s => wordF_ge (fun f h s => by cases h; exact listF_ge (wordW_ge d) s) s
end Go.Proofs.YtcanagkflbbmaaaDoor.L
