/- OctetAtoms, as a plain law: an atom is one just if each of its letters is, and quoted it is itself in quotes. -/
import Derived.Test.YtcgjkppoakngnaaPOctet1
import Derived.Test.YtcgjkppoakngnaaX2
namespace Go.Proofs.Ytcgjkppoakngnaa.Pure
open Go.RowKit Go.Proofs.YtcgjkppoakngnaaW.PrintWords Go.Proofs.YtcgjkppoakngnaaW.PrintLast Go.Proofs.Ytcgjkppoakngnaa.X Go.Proofs.Mine

theorem awake_ev : Ev (fun k => frankinglaw1_awake.f k) true := Ev.of (k := 20) frankinglaw1_awake.mono (by kernel_rfl)
theorem esc_atoms : ∀ l : List Int, l.all atomC = true → l.all quotC = true ∧ l.flatMap esc = l := by
  intro l
  induction l with
  | nil => intro _; exact ⟨rfl, rfl⟩
  | cons c l ih =>
    intro h
    rw [List.all_cons, Bool.and_eq_true] at h
    obtain ⟨hc, hl⟩ := h
    obtain ⟨h1, h2⟩ := ih hl
    have hx := hc
    simp [atomC] at hx
    refine ⟨?_, ?_⟩
    · rw [List.all_cons, h1]
      simp [quotC]
      omega
    · rw [List.flatMap_cons, h2]
      simp [esc, hx]
theorem last_ev (s : ByteArray) (hs : s.size ≤ 200) (h1 : 1 ≤ s.size) : Ev (fun k => frankinglaw1_OctetAtoms.l0 k s ((bytesOf s).all atomC) (s.size : Int)) true := by
  have ha := atom_ev s (by omega)
  have hq := quote_ev s
  have hne0 : bytesOf s = [] → False := fun h => by have := size_of h; rw [List.length_nil] at this; omega
  have hne : (bytesOf s).isEmpty = false := by
    cases h : bytesOf s with
    | nil => exact (hne0 h).elim
    | cons _ _ => rfl
  rw [hne] at ha
  simp only [Bool.not_false, Bool.and_true] at ha
  have hz := bytesOf_length s
  refine Ev.step (fun k => by
    simp only [frankinglaw1_OctetAtoms.l0]
    rw [if_neg (by omega)]) (Ev.bind ha (Ev.congr (fun k => by rw [if_neg (by simp)]) (Ev.bind hq (Ev.pure fun k => ?_))))
  cases hx : (bytesOf s).all atomC with
  | false => rw [if_neg (by decide)]
  | true =>
    obtain ⟨h2, h3⟩ := esc_atoms _ hx
    have e : quoteR s = (strOfNums (34 :: bytesOf s ++ [34]), true) := by
      unfold quoteR
      rw [if_neg (by omega), h2, h3]
      rfl
    rw [e]
    simp only [if_true]
    rw [if_pos (by omega), if_pos (by omega), toList_beq]
    rw [bytesOf_append, bytesOf_append, bytesOf_strOfNums]
    · simp [bytesOf]
    · intro c hc
      simp at hc
      rcases hc with rfl | hc | rfl
      · exact ⟨by omega, by omega⟩
      · exact bytesOf_byte s c hc
      · exact ⟨by omega, by omega⟩
theorem loop_ev (s : ByteArray) (hs : s.size ≤ 200) (h1 : 1 ≤ s.size) : ∀ (l pre : List Int), bytesOf s = pre ++ l →
    Ev (fun k => frankinglaw1_OctetAtoms.l0 k s (pre.all atomC) (pre.length : Int)) true := by
  intro l
  induction l with
  | nil =>
    intro pre h
    have hz := size_of h
    simp at hz h
    rw [← h, bytesOf_length]
    exact last_ev s hs h1
  | cons c l ih =>
    intro pre h
    have hz := size_of h
    simp at hz
    have ih' := ih (pre ++ [c]) (by rw [h]; simp)
    cases hp : pre.all atomC with
    | false =>
      rw [List.all_append, hp, Bool.false_and] at ih'
      exact Ev.step (fun k => by
        simp only [frankinglaw1_OctetAtoms.l0]
        rw [if_pos (by omega), if_neg (by decide), wrap_nat (by omega), show pre.length + 1 = (pre ++ [c]).length by simp]) ih'
    | true =>
      have hx : bytesOf (s.extract pre.length (pre.length + 1)) = [c] := by
        rw [bytesOf_extract, h, show (pre ++ c :: l) = (pre ++ [c]) ++ l by simp, List.take_left' (by simp), List.drop_left' rfl]
      have ha := atom_ev (s.extract pre.length (pre.length + 1)) (by rw [size_of hx]; simp)
      rw [hx] at ha
      have e : ([c].all atomC && !([c] : List Int).isEmpty) = (pre ++ [c]).all atomC := by simp [hp]
      rw [e] at ha
      exact Ev.step (fun k => by
        simp only [frankinglaw1_OctetAtoms.l0]
        rw [if_pos (by omega), if_pos trivial, if_pos (by omega), wrap_nat (by omega), if_pos (by omega), if_pos (by omega), Int.toNat_natCast, Int.toNat_natCast]) (Ev.bind ha (Ev.congr (fun k => by rw [show pre.length + 1 = (pre ++ [c]).length by simp]) ih'))
theorem OctetAtoms : frankinglaw1_OctetAtoms.Pure := by
  intro s hs
  refine Ev.rounds (r := true) (g := fun k => frankinglaw1_OctetAtoms.f k s) ?_
  refine Ev.congr (fun k => by unfold frankinglaw1_OctetAtoms.f; rfl) (Ev.bind awake_ev (Ev.congr (fun k => by rw [if_pos rfl]) ?_))
  by_cases h : s.size > 200
  · refine Ev.congr (fun k => by rw [if_pos (by omega)]) (Ev.after fun k => ?_)
    simp only [frankinglaw1_OctetAtoms.j0]
    rfl
  · refine Ev.congr (fun k => by rw [if_neg (by omega)]) ?_
    by_cases h1 : s.size < 1
    · refine Ev.after fun k => ?_
      rw [decide_eq_true (by omega)]
      simp only [frankinglaw1_OctetAtoms.j0]
      rfl
    · refine Ev.step (fun k => by
        rw [decide_eq_false (by omega)]
        simp only [frankinglaw1_OctetAtoms.j0]
        rw [if_neg (by decide)]
        rfl) (loop_ev s (by omega) (by omega) (bytesOf s) [] rfl)
end Go.Proofs.Ytcgjkppoakngnaa.Pure
