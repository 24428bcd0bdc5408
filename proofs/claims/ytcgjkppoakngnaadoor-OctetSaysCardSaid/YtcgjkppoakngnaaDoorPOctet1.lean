/- What atoms and quoted texts are, on lists of numbers. -/
import Derived.Test.YtcgjkppoakngnaaDoorPLib
import Derived.Test.YtcgjkppoakngnaaDoorX1
namespace Go.Proofs.Mine
open Go.RowKit Go.Proofs.YtcgjkppoakngnaaDoorW.PrintWords Go.Proofs.YtcgjkppoakngnaaDoorW.PrintLast Go.Proofs.YtcgjkppoakngnaaDoor.X
set_option linter.unusedSimpArgs false

/-- May a byte stand in an atom? -/
def atomC (c : Int) : Bool := decide (32 < c) && decide (c < 127) && !([40, 41, 123, 37, 42, 34, 92, 93] : List Int).contains c
theorem special_index (c : Int) (h0 : 32 < c) (h1 : c < 127) : (Lib.indexByte [40, 41, 123, 37, 42, 34, 92, 93] c.toNat.toUInt8 ≥ 0) = (([40, 41, 123, 37, 42, 34, 92, 93] : List Int).contains c = true) := by
  obtain ⟨n, rfl⟩ : ∃ n : Nat, c = n := ⟨c.toNat, by omega⟩
  have hn : n < 127 := by omega
  have key : ∀ m : Fin 127, (Lib.indexByte [40, 41, 123, 37, 42, 34, 92, 93] ((m.val : Int)).toNat.toUInt8 ≥ 0) = (([40, 41, 123, 37, 42, 34, 92, 93] : List Int).contains (m.val : Int) = true) := by
    have h2 : ∀ m : Fin 127, decide (Lib.indexByte [40, 41, 123, 37, 42, 34, 92, 93] ((m.val : Int)).toNat.toUInt8 ≥ 0) = ([40, 41, 123, 37, 42, 34, 92, 93] : List Int).contains (m.val : Int) := by decide +kernel
    intro m
    apply propext
    rw [← h2 m, decide_eq_true_iff]
  exact key ⟨n, hn⟩
theorem atom_loop (s : ByteArray) (hs : s.size ≤ 140737488351232) : ∀ (l pre : List Int), bytesOf s = pre ++ l →
    Ev (fun k => octet_Atom.l0 k s (s.size : Int) (pre.length : Int)) (l.all atomC && !(bytesOf s).isEmpty) := by
  intro l
  induction l with
  | nil =>
    intro pre h
    have hz := size_of h
    simp at hz
    refine Ev.after fun k => ?_
    simp only [octet_Atom.l0]
    rw [if_neg (by omega)]
    simp [bne, toList_map s]
  | cons c l ih =>
    intro pre h
    have hz := size_of h
    simp at hz
    have hb := bt_of h
    have hc : Byte c := bytesOf_byte s c (by rw [h]; simp)
    have ih' := ih (pre ++ [c]) (by rw [h]; simp)
    rw [List.all_cons]
    by_cases h1 : c ≤ 32
    · refine Ev.after fun k => ?_
      simp only [octet_Atom.l0]
      rw [if_pos (by omega), if_pos (by omega), if_pos (by omega), hb, if_pos h1]
      simp [atomC, show ¬ 32 < c by omega]
    by_cases h2 : c ≥ 127
    · refine Ev.after fun k => ?_
      simp only [octet_Atom.l0]
      rw [if_pos (by omega), if_pos (by omega), if_pos (by omega), hb, if_neg h1, if_pos h2]
      simp [atomC, show ¬ c < 127 by omega]
    have hsp := special_index c (by omega) (by omega)
    by_cases h3 : Lib.indexByte [40, 41, 123, 37, 42, 34, 92, 93] c.toNat.toUInt8 ≥ 0
    · refine Ev.after fun k => ?_
      simp only [octet_Atom.l0, strings_IndexByte.f]
      rw [if_pos (by omega), if_pos (by omega), if_pos (by omega), hb, if_neg h1, if_neg h2]
      simp only [Option.bind_some]
      rw [if_pos h3]
      rw [hsp] at h3
      rw [show atomC c = false by unfold atomC; rw [h3]; simp]
      rfl
    · refine Ev.step (fun k => by
        simp only [octet_Atom.l0, strings_IndexByte.f]
        rw [if_pos (by omega), if_pos (by omega), if_pos (by omega), hb, if_neg h1, if_neg h2]
        simp only [Option.bind_some]
        rw [if_neg h3, wrap_nat (by omega), show pre.length + 1 = (pre ++ [c]).length by simp]) (Ev.eq ih' ?_)
      rw [hsp] at h3
      rw [show atomC c = true by unfold atomC; rw [decide_eq_true (by omega), decide_eq_true (by omega)]; simpa using h3]
      rfl
theorem atom_ev (s : ByteArray) (hs : s.size ≤ 140737488351232) : Ev (fun k => octet_Atom.f k s) ((bytesOf s).all atomC && !(bytesOf s).isEmpty) :=
  atom_loop s hs (bytesOf s) [] rfl

/-- May a byte be quoted? -/
def quotC (c : Int) : Bool := !decide (c = 0) && !decide (c = 13) && !decide (c = 10) && decide (c ≤ 127)
theorem quotable_eq (c : Int) : octet_quotable.f c = some (quotC c) := by
  unfold octet_quotable.f quotC
  by_cases h0 : c = 0
  · simp [h0]
  by_cases h1 : c = 13
  · simp [h0, h1]
  by_cases h2 : c = 10
  · simp [h0, h1, h2]
  simp [h0, h1, h2]
/-- How a byte is written within quotes. -/
def esc (c : Int) : List Int := if c = 34 ∨ c = 92 then [92, c] else [c]
theorem esc_len (c : Int) : (esc c).length ≤ 2 := by unfold esc; split <;> simp
theorem quote_loop (s : ByteArray) (hs : s.size ≤ 8192) : ∀ (l pre acc : List Int), bytesOf s = pre ++ l → acc.length ≤ 2 * pre.length + 1 →
    Ev (fun k => octet_Quote.l0 k s acc (s.size : Int) (pre.length : Int)) (if l.all quotC then (strOfNums (acc ++ l.flatMap esc ++ [34]), true) else (⟨#[]⟩, false)) := by
  intro l
  induction l with
  | nil =>
    intro pre acc h ha
    have hz := size_of h
    simp at hz
    refine Ev.after fun k => ?_
    simp only [octet_Quote.l0]
    rw [if_neg (by omega), if_pos (by omega)]
    simp
  | cons c l ih =>
    intro pre acc h ha
    have hz := size_of h
    simp at hz
    have hb := bt_of h
    rw [List.all_cons]
    cases hq : quotC c with
    | false =>
      refine Ev.after fun k => ?_
      simp only [octet_Quote.l0]
      rw [if_pos (by omega), if_pos (by omega), if_pos (by omega), hb, quotable_eq, hq]
      rfl
    | true =>
      have hl := esc_len c
      have ih' := ih (pre ++ [c]) (acc ++ esc c) (by rw [h]; simp) (by simp; omega)
      by_cases h1 : c = 34
      · subst h1
        rw [show esc 34 = [92] ++ [34] from rfl, ← List.append_assoc] at ih'
        refine Ev.step (fun k => by
          simp only [octet_Quote.l0]
          rw [if_pos (by omega), if_pos (by omega), if_pos (by omega), hb, quotable_eq, hq]
          simp only [Option.bind_some]
          rw [if_pos trivial, if_pos trivial, if_pos (by omega), if_pos (by simp; omega), wrap_nat (by omega), show pre.length + 1 = (pre ++ [34]).length by simp]) (Ev.eq ih' ?_)
        simp [esc]
      · by_cases h2 : c = 92
        · subst h2
          rw [show esc 92 = [92] ++ [92] from rfl, ← List.append_assoc] at ih'
          refine Ev.step (fun k => by
            simp only [octet_Quote.l0]
            rw [if_pos (by omega), if_pos (by omega), if_pos (by omega), hb, quotable_eq, hq]
            simp only [Option.bind_some]
            rw [if_pos trivial, if_neg (by decide), if_pos trivial, if_pos (by omega), if_pos (by simp; omega), wrap_nat (by omega), show pre.length + 1 = (pre ++ [92]).length by simp]) (Ev.eq ih' ?_)
          simp [esc]
        · have he : esc c = [c] := by unfold esc; rw [if_neg (by omega)]
          rw [he] at ih'
          refine Ev.step (fun k => by
            simp only [octet_Quote.l0]
            rw [if_pos (by omega), if_pos (by omega), if_pos (by omega), hb, quotable_eq, hq]
            simp only [Option.bind_some]
            rw [if_pos trivial, if_neg h1, if_neg h2, if_pos (by omega), wrap_nat (by omega), show pre.length + 1 = (pre ++ [c]).length by simp]) (Ev.eq ih' ?_)
          simp [he]
/-- A text in quotes, if it may be. -/
def quoteR (s : ByteArray) : ByteArray × Bool := if s.size > 8192 then (⟨#[]⟩, false) else if (bytesOf s).all quotC then (strOfNums (34 :: (bytesOf s).flatMap esc ++ [34]), true) else (⟨#[]⟩, false)
theorem quote_ev (s : ByteArray) : Ev (fun k => octet_Quote.f k s) (quoteR s) := by
  unfold quoteR
  by_cases h : s.size > 8192
  · rw [if_pos h]
    refine Ev.pure fun k => ?_
    unfold octet_Quote.f
    rw [if_pos (by omega)]
  · rw [if_neg h]
    refine Ev.congr (fun k => ?_) (quote_loop s (by omega) (bytesOf s) [] [34] rfl (by simp))
    unfold octet_Quote.f
    rw [if_neg (by omega)]
    rfl
end Go.Proofs.Mine
