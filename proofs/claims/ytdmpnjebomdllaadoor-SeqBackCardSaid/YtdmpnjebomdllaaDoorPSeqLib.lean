/- Sets of numbers, plainly: which a set has. -/
import Derived.Test.YtdmpnjebomdllaaDoorPLib
import Derived.Test.YtdmpnjebomdllaaDoorX3
import Derived.Test.YtdmpnjebomdllaaDoorX1
namespace Go.Proofs.Mine
open Go.RowKit Go.Proofs.YtdmpnjebomdllaaDoorW.PrintWords Go.Proofs.YtdmpnjebomdllaaDoorW.PrintLast Go.Proofs.YtdmpnjebomdllaaDoor.X
set_option linter.unusedSimpArgs false

def meantI (n last : Int) : Int := if n = 0 then last else n
theorem meant_eq (n last : Int) : seq_meant.f n last = some (meantI n last) := by
  unfold seq_meant.f meantI
  split <;> rfl
/-- Is a number in a span? -/
def inSpan (x : S38) (n last : Int) : Bool := decide (mn (meantI x.f0 last) (meantI x.f1 last) ≤ n) && decide (n ≤ mx (meantI x.f0 last) (meantI x.f1 last))
theorem inSpan_iff (x : S38) (n last : Int) : inSpan x n last = true ↔ (meantI x.f0 last ≤ n ∧ n ≤ meantI x.f1 last) ∨ (meantI x.f1 last ≤ n ∧ n ≤ meantI x.f0 last) := by
  unfold inSpan mn mx
  rw [Bool.and_eq_true, decide_eq_true_iff, decide_eq_true_iff]
  split <;> split <;> omega
theorem wrap_succ {i : Nat} (h : i < 4611686018427387904) : wrap64 ((i : Int) + 1) = ((i + 1 : Nat) : Int) := wrap_nat h
theorem rdS_of {pre l : List S38} {c : S38} : rd_T38 (pre ++ c :: l) (pre.length : Int) = c := by simp [rd_T38, List.getD_eq_getElem?_getD]
theorem has_loop (n last : Int) (L : List S38) (hL : L.length ≤ 1000000) : ∀ (l pre : List S38), L = pre ++ l →
    Ev (fun k => seq_has.l0 k n last L (L.length : Int) (pre.length : Int)) (l.any fun x => inSpan x n last) := by
  intro l
  induction l with
  | nil =>
    intro pre h
    have hl : L.length = pre.length := by rw [h]; simp
    refine Ev.after fun k => ?_
    rw [seq_has.l0, if_neg (by omega)]
    rfl
  | cons x l ih =>
    intro pre h
    have hl : L.length = pre.length + (l.length + 1) := by rw [h]; simp
    have hr : rd_T38 L (pre.length : Int) = x := by rw [h]; exact rdS_of
    have ih' := ih (pre ++ [x]) (by rw [h]; simp)
    rw [List.length_append, List.length_singleton] at ih'
    have e : ∀ k, seq_has.l0 (k + 1) n last L (L.length : Int) (pre.length : Int) = if n ≥ mn (meantI x.f0 last) (meantI x.f1 last) then (if n ≤ mx (meantI x.f0 last) (meantI x.f1 last) then some true else seq_has.l0 k n last L (L.length : Int) ((pre.length + 1 : Nat) : Int)) else seq_has.l0 k n last L (L.length : Int) ((pre.length + 1 : Nat) : Int) := by
      intro k
      rw [seq_has.l0, if_pos (by omega), if_pos (by omega), if_pos (by omega), hr, meant_eq, Option.bind_some, meant_eq, Option.bind_some, wrap_succ (by omega)]
    rw [List.any_cons]
    by_cases h1 : n ≥ mn (meantI x.f0 last) (meantI x.f1 last)
    · by_cases h2 : n ≤ mx (meantI x.f0 last) (meantI x.f1 last)
      · have hx : inSpan x n last = true := by unfold inSpan; rw [decide_eq_true h1, decide_eq_true h2]; rfl
        rw [hx, Bool.true_or]
        exact Ev.after fun k => by rw [e, if_pos h1, if_pos h2]
      · have hx : inSpan x n last = false := by unfold inSpan; rw [decide_eq_false h2, Bool.and_false]
        rw [hx, Bool.false_or]
        exact Ev.step (fun k => by rw [e, if_pos h1, if_neg h2]) ih'
    · have hx : inSpan x n last = false := by unfold inSpan; rw [decide_eq_false h1, Bool.false_and]
      rw [hx, Bool.false_or]
      exact Ev.step (fun k => by rw [e, if_neg h1]) ih'
theorem has_ev (n last : Int) (L : List S38) (hL : L.length ≤ 1000000) : Ev (fun k => seq_has.f k L n last) (L.any fun x => inSpan x n last) :=
  Ev.congr (fun k => by unfold seq_has.f; rfl) (has_loop n last L hL L [] rfl)
def goodS (L : List S38) : Bool := decide (1 ≤ L.length) && (decide (L.length ≤ 100) && !(L.any seq_good.bad))
theorem good_eq (L : List S38) : seq_good.f L = some (goodS L) := by
  unfold seq_good.f goodS
  by_cases h1 : 1 ≤ L.length
  · rw [if_pos h1, decide_eq_true h1]
    by_cases h2 : L.length ≤ 100
    · rw [if_pos h2, decide_eq_true h2]; rfl
    · rw [if_neg h2, decide_eq_false h2]; rfl
  · rw [if_neg h1, decide_eq_false h1]; rfl
theorem Has_ev (n last : Int) (L : List S38) (hL : L.length ≤ 1000000) : Ev (fun k => seq_Has.f k L n last) (decide (1 ≤ n) && (goodS L && L.any fun x => inSpan x n last)) := by
  by_cases h : n ≥ 1
  · rw [decide_eq_true h, Bool.true_and]
    cases hg : goodS L with
    | true => exact Ev.congr (fun k => by unfold seq_Has.f; rw [if_pos h, good_eq, Option.bind_some, hg, if_pos rfl]) (Ev.bind (has_ev n last L hL) (Ev.pure fun k => rfl))
    | false => exact Ev.pure fun k => by unfold seq_Has.f; rw [if_pos h, good_eq, Option.bind_some, hg, if_neg (by decide)]; rfl
  · rw [decide_eq_false h, Bool.false_and]
    exact Ev.pure fun k => by unfold seq_Has.f; rw [if_neg h]
end Go.Proofs.Mine
