/- What quoted texts are, on lists of numbers. -/
import Derived.Test.YtgajilieekhpjaaDoorPQuotable
import Derived.Test.YtgajilieekhpjaaDoorX7
namespace Go.Proofs.Mine
open Go.RowKit Go.Proofs.YtgajilieekhpjaaDoorW.PrintWords Go.Proofs.YtgajilieekhpjaaDoorW.PrintLast Go.Proofs.YtgajilieekhpjaaDoor.X
set_option linter.unusedSimpArgs false

theorem quote_loop (s : ByteArray) (hs : s.size ≤ 8192) : ∀ (l pre acc : List Int), bytesOf s = pre ++ l → acc.length ≤ 2 * pre.length + 1 →
    Ev (fun k => octet_Quote.l0 k s acc (s.size : Int) (pre.length : Int)) (if l.all quotC then (strOfNums (acc ++ l.flatMap esc ++ [34]), true) else (⟨#[]⟩, false)) := by
  intro l
  induction l with
  | nil =>
    intro pre acc h ha
    have hz := size_of h
    simp at hz
    refine Ev.after fun k => ?_
    simp only [octet_Quote.l0]
    rw [if_neg (by omega), if_pos (by omega)]
    simp
  | cons c l ih =>
    intro pre acc h ha
    have hz := size_of h
    simp at hz
    have hb := bt_of h
    rw [List.all_cons]
    cases hq : quotC c with
    | false =>
      refine Ev.after fun k => ?_
      simp only [octet_Quote.l0]
      rw [if_pos (by omega), if_pos (by omega), if_pos (by omega), hb, quotable_eq, hq]
      rfl
    | true =>
      have hl := esc_len c
      have ih' := ih (pre ++ [c]) (acc ++ esc c) (by rw [h]; simp) (by simp; omega)
      by_cases h1 : c = 34
      · subst h1
        rw [show esc 34 = [92] ++ [34] from rfl, ← List.append_assoc] at ih'
        refine Ev.step (fun k => by
          simp only [octet_Quote.l0]
          rw [if_pos (by omega), if_pos (by omega), if_pos (by omega), hb, quotable_eq, hq]
          simp only [Option.bind_some]
          rw [if_pos trivial, if_pos trivial, if_pos (by omega), if_pos (by simp; omega), wrap_nat (by omega), show pre.length + 1 = (pre ++ [34]).length by simp]) (Ev.eq ih' ?_)
        simp [esc]
      · by_cases h2 : c = 92
        · subst h2
          rw [show esc 92 = [92] ++ [92] from rfl, ← List.append_assoc] at ih'
          refine Ev.step (fun k => by
            simp only [octet_Quote.l0]
            rw [if_pos (by omega), if_pos (by omega), if_pos (by omega), hb, quotable_eq, hq]
            simp only [Option.bind_some]
            rw [if_pos trivial, if_neg (by decide), if_pos trivial, if_pos (by omega), if_pos (by simp; omega), wrap_nat (by omega), show pre.length + 1 = (pre ++ [92]).length by simp]) (Ev.eq ih' ?_)
          simp [esc]
        · have he : esc c = [c] := by unfold esc; rw [if_neg (by omega)]
          rw [he] at ih'
          refine Ev.step (fun k => by
            simp only [octet_Quote.l0]
            rw [if_pos (by omega), if_pos (by omega), if_pos (by omega), hb, quotable_eq, hq]
            simp only [Option.bind_some]
            rw [if_pos trivial, if_neg h1, if_neg h2, if_pos (by omega), wrap_nat (by omega), show pre.length + 1 = (pre ++ [c]).length by simp]) (Ev.eq ih' ?_)
          simp [he]
/-- A text in quotes, if it may be. -/
def quoteR (s : ByteArray) : ByteArray × Bool := if s.size > 8192 then (⟨#[]⟩, false) else if (bytesOf s).all quotC then (strOfNums (34 :: (bytesOf s).flatMap esc ++ [34]), true) else (⟨#[]⟩, false)
theorem quote_ev (s : ByteArray) : Ev (fun k => octet_Quote.f k s) (quoteR s) := by
  unfold quoteR
  by_cases h : s.size > 8192
  · rw [if_pos h]
    refine Ev.pure fun k => ?_
    unfold octet_Quote.f
    rw [if_pos (by omega)]
  · rw [if_neg h]
    refine Ev.congr (fun k => ?_) (quote_loop s (by omega) (bytesOf s) [] [34] rfl (by simp))
    unfold octet_Quote.f
    rw [if_neg (by omega)]
    rfl
end Go.Proofs.Mine
