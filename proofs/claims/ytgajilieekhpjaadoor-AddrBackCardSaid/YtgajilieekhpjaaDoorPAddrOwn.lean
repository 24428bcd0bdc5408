/- Addresses as the document's own, and that two rows are alike. -/
import Derived.Test.YtgajilieekhpjaaDoorPAddrLib
import Derived.Test.YtgajilieekhpjaaDoorX5
namespace Go.Proofs.Mine
open Go.RowKit Go.Proofs.YtgajilieekhpjaaDoorW.PrintWords Go.Proofs.YtgajilieekhpjaaDoorW.PrintLast Go.Proofs.YtgajilieekhpjaaDoor.X
set_option linter.unusedSimpArgs false

def convA (x : S33) : S31 := ⟨x.f0, x.f1, x.f2⟩
theorem rdA_of {pre l : List S33} {c : S33} : rd_T33 (pre ++ c :: l) (pre.length : Int) = c := by simp [rd_T33, List.getD_eq_getElem?_getD]
theorem rdB_of {pre l : List S31} {c : S31} : rd_T31 (pre ++ c :: l) (pre.length : Int) = c := by simp [rd_T31, List.getD_eq_getElem?_getD]
theorem own_loop (L : List S33) (hL : L.length ≤ 2000000) : ∀ (l pre : List S33), L = pre ++ l →
    Ev (fun k => frankinglaw12_own.l0 k L (pre.map convA) (pre.length : Int)) (L.map convA) := by
  intro l
  induction l with
  | nil =>
    intro pre h
    have hl : L.length = pre.length := by rw [h]; simp
    refine Ev.after fun k => ?_
    rw [frankinglaw12_own.l0, if_neg (by omega), h, List.append_nil]
  | cons c l ih =>
    intro pre h
    have hl : L.length = pre.length + (l.length + 1) := by rw [h]; simp
    have hr : rd_T33 L (pre.length : Int) = c := by rw [h]; exact rdA_of
    have ih' := ih (pre ++ [c]) (by rw [h]; simp)
    rw [List.length_append, List.length_singleton, List.map_append] at ih'
    refine Ev.step (fun k => ?_) ih'
    rw [frankinglaw12_own.l0, if_pos (by omega), if_pos (by omega), if_pos (by rw [List.length_map]; omega), hr, wrap_nat (by omega)]
    rfl
theorem own_ev (L : List S33) (hL : L.length ≤ 2000000) : Ev (fun k => frankinglaw12_own.f k L) (L.map convA) :=
  Ev.congr (fun k => by unfold frankinglaw12_own.f; rfl) (own_loop L hL L [] rfl)
theorem alike_loop (L : List S31) (hL : L.length ≤ 4000000) : ∀ (l pre : List S31), L = pre ++ l →
    Ev (fun k => frankinglaw12_alike.l0 k L L (pre.length : Int)) true := by
  intro l
  induction l with
  | nil =>
    intro pre h
    have hl : L.length = pre.length := by rw [h]; simp
    refine Ev.after fun k => ?_
    rw [frankinglaw12_alike.l0, if_neg (by omega)]
  | cons c l ih =>
    intro pre h
    have hl : L.length = pre.length + (l.length + 1) := by rw [h]; simp
    have ih' := ih (pre ++ [c]) (by rw [h]; simp)
    rw [List.length_append, List.length_singleton] at ih'
    refine Ev.step (fun k => ?_) ih'
    rw [frankinglaw12_alike.l0, if_pos (by omega), if_pos (by omega), if_pos (by omega), if_neg (by simp), wrap_nat (by omega)]
theorem alike_ev (L : List S31) (hL : L.length ≤ 4000000) : Ev (fun k => frankinglaw12_alike.f k L L) true :=
  Ev.congr (fun k => by unfold frankinglaw12_alike.f; rw [if_pos rfl]; rfl) (alike_loop L hL L [] rfl)
end Go.Proofs.Mine
