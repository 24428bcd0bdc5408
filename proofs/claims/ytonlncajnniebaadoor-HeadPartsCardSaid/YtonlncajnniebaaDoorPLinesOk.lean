/- A text's lines, put together, are the text. -/
import Derived.Test.YtonlncajnniebaaDoorPLines
namespace Go.Proofs.Mine
open Go.RowKit Go.Proofs.YtonlncajnniebaaDoorW.PrintWords Go.Proofs.YtonlncajnniebaaDoorW.PrintLast Go.Proofs.YtonlncajnniebaaDoor.X
def endsOk : List (List Int) → Prop
  | [] => True
  | [_] => True
  | x :: y :: r => (∃ m, x = m ++ [13, 10]) ∧ endsOk (y :: r)
theorem linesA_ok : ∀ (n : Nat) (l cur : List Int), l.length ≤ n → endsOk (linesA cur l) ∧ (linesA cur l).flatten = cur ++ l := by
  intro n
  induction n with
  | zero =>
    intro l cur h
    obtain rfl : l = [] := List.length_eq_zero_iff.1 (by omega)
    rw [linesA_nil]
    split
    · rename_i e; subst e; exact ⟨trivial, rfl⟩
    · exact ⟨trivial, by simp⟩
  | succ n ih =>
    intro l cur h
    cases l with
    | nil =>
      rw [linesA_nil]
      split
      · rename_i e; subst e; exact ⟨trivial, rfl⟩
      · exact ⟨trivial, by simp⟩
    | cons c l =>
      rcases starts_dec c l with ⟨rfl, m, rfl⟩ | hn
      · rw [linesA_end]
        obtain ⟨h1, h2⟩ := ih m [] (by simp at h; omega)
        refine ⟨?_, by rw [List.flatten_cons, h2]; simp⟩
        cases hx : linesA [] m with
        | nil => exact trivial
        | cons y r => rw [hx] at h1; exact ⟨⟨cur, rfl⟩, h1⟩
      · rw [linesA_go _ _ _ hn]
        obtain ⟨h1, h2⟩ := ih l (cur ++ [c]) (by simp at h; omega)
        exact ⟨h1, by rw [h2]; simp⟩
theorem rd_L1_of {pre r : List (List Int)} {c : List Int} : rd_L1 (pre ++ c :: r) (pre.length : Int) = c := by simp [rd_L1, List.getD_eq_getElem?_getD]
end Go.Proofs.Mine
