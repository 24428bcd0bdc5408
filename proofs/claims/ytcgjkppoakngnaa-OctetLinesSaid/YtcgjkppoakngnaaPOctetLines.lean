/- OctetLines, as a plain law: lines of a text that ends one and of what is behind it are all lines. -/
import Derived.Test.YtcgjkppoakngnaaPLines
import Derived.Test.YtcgjkppoakngnaaPAwake1
import Derived.Test.YtcgjkppoakngnaaX3
namespace Go.Proofs.Ytcgjkppoakngnaa.Pure
open Go.RowKit Go.Proofs.YtcgjkppoakngnaaW.PrintWords Go.Proofs.YtcgjkppoakngnaaW.PrintLast Go.Proofs.Ytcgjkppoakngnaa.X Go.Proofs.Mine

theorem byte_of_wf {l : List Int} (h : ∀ x ∈ l, (Lit.int .u8 x).wf = true) : ∀ c ∈ l, Byte c := by
  intro c hc
  have := h c hc
  simp [Lit.wf, IntKind.min, IntKind.max, IntKind.signed, IntKind.bits] at this
  exact ⟨by omega, by omega⟩
theorem OctetLines : frankinglaw1_OctetLines.Pure := by
  intro a b _ _ ha _ _ hb
  refine Ev.rounds (r := true) (g := fun k => frankinglaw1_OctetLines.f k a b) ?_
  refine Ev.congr (fun k => by unfold frankinglaw1_OctetLines.f; rfl) (Ev.bind awake_ev (Ev.congr (fun k => by rw [if_pos rfl]) ?_))
  by_cases h : a.length > 200
  · refine Ev.congr (fun k => by rw [if_pos (by omega)]) (Ev.after fun k => ?_)
    simp only [frankinglaw1_OctetLines.j0]
    rfl
  · refine Ev.congr (fun k => by rw [if_neg (by omega)]) ?_
    by_cases h1 : b.length > 200
    · refine Ev.after fun k => ?_
      rw [decide_eq_true (by omega)]
      simp only [frankinglaw1_OctetLines.j0]
      rfl
    · have ba := byte_of_wf ha
      have bb := byte_of_wf hb
      have bc : ∀ c ∈ a ++ [13, 10], Byte c := by
        intro c hc
        simp at hc
        rcases hc with hc | rfl | rfl
        · exact ba c hc
        · exact ⟨by omega, by omega⟩
        · exact ⟨by omega, by omega⟩
      have e1 := lines_ev (a ++ [13, 10] ++ b) (by
        intro c hc
        rcases List.mem_append.1 hc with hc | hc
        · exact bc c hc
        · exact bb c hc) (by simp; omega)
      have e2 := lines_ev (a ++ [13, 10]) bc (by simp; omega)
      have e3 := lines_ev b bb (by omega)
      refine Ev.step (fun k => by
        rw [decide_eq_false (by omega)]
        simp only [frankinglaw1_OctetLines.j0, Option.bind_some, List.nil_append]
        rw [if_neg (by decide), if_pos (by simp; omega), if_pos (by simp; omega), if_pos (by simp; omega), if_pos (by simp; omega)]) (Ev.bind e1 (Ev.bind e2 (Ev.bind e3 (Ev.pure fun k => ?_))))
      have hs : linesL (a ++ [13, 10] ++ b) = linesL (a ++ [13, 10]) ++ linesL b := by
        unfold linesL
        rw [← linesA_split a [] b, List.append_assoc]
        rfl
      rw [hs]
      have hsmall : (linesL (a ++ [13, 10])).length + (linesL b).length < 4611686018427387904 := by
        have h2 := linesL_length (a ++ [13, 10])
        have h3 := linesL_length b
        simp at h2
        omega
      rw [wrap_id (by omega) (by omega)]
      simp
end Go.Proofs.Ytcgjkppoakngnaa.Pure
