/- SeqOrder, as a plain law: a set turned round has the same numbers. -/
import Derived.Test.YtdmpnjebomdllaaDoorPSeqLib
import Derived.Test.YtdmpnjebomdllaaDoorPAwake9
import Derived.Test.YtdmpnjebomdllaaDoorX10
namespace Go.Proofs.YtdmpnjebomdllaaDoor.Pure
open Go.RowKit Go.Proofs.YtdmpnjebomdllaaDoorW.PrintWords Go.Proofs.YtdmpnjebomdllaaDoorW.PrintLast Go.Proofs.YtdmpnjebomdllaaDoor.X Go.Proofs.Mine

def turn (x : S38) : S38 := ⟨x.f1, x.f0⟩
theorem turn_in (x : S38) (n last : Int) : inSpan (turn x) n last = inSpan x n last := by
  rw [Bool.eq_iff_iff, inSpan_iff, inSpan_iff]
  exact Or.comm
theorem turn_bad (x : S38) : seq_good.bad (turn x) = seq_good.bad x := Bool.or_comm _ _
theorem turned (L : List S38) (n last : Int) : (goodS (L.reverse.map turn) && (L.reverse.map turn).any fun x => inSpan x n last) = (goodS L && L.any fun x => inSpan x n last) := by
  have e1 : ((L.reverse.map turn).any fun x => inSpan x n last) = L.any fun x => inSpan x n last := by
    rw [List.any_map, List.any_reverse]
    congr 1
    funext x
    exact turn_in x n last
  have e2 : (L.reverse.map turn).any seq_good.bad = L.any seq_good.bad := by
    rw [List.any_map, List.any_reverse]
    congr 1
    funext x
    exact turn_bad x
  rw [e1]
  unfold goodS
  rw [e2, List.length_map, List.length_reverse]
theorem order_loop (n last : Int) (L : List S38) (hL : L.length ≤ 60) : ∀ (m : Nat) (suf : List S38), m + suf.length = L.length → L.drop m = suf →
    Ev (fun k => frankinglaw9_SeqOrder.l0 k n last ((m : Int) - 1) L (suf.reverse.map turn)) true := by
  intro m
  induction m with
  | zero =>
    intro suf hm hd
    obtain rfl : L = suf := by simpa using hd
    refine Ev.step (fun k => by rw [frankinglaw9_SeqOrder.l0, if_neg (by omega)]) (Ev.bind (Has_ev n last L (by omega)) (Ev.bind (Has_ev n last (L.reverse.map turn) (by simp; omega)) (Ev.pure fun k => ?_)))
    rw [turned, beq_self_eq_true]
  | succ m ih =>
    intro suf hm hd
    have hlt : m < L.length := by omega
    have hr : rd_T38 L (((m + 1 : Nat) : Int) - 1) = L[m] := by
      rw [show ((m + 1 : Nat) : Int) - 1 = (m : Int) by omega]
      simp [rd_T38, List.getD_eq_getElem?_getD, hlt]
    have ih' := ih (L[m] :: suf) (by simp; omega) (by rw [← hd]; exact List.drop_eq_getElem_cons hlt)
    refine Ev.step (fun k => ?_) ih'
    have hlen : (suf.reverse.map turn).length < 8796093022208 := by rw [List.length_map, List.length_reverse]; omega
    rw [frankinglaw9_SeqOrder.l0, if_pos (by omega), if_pos (by omega), if_pos (by omega), if_pos hlen, hr, show wrap64 (((m + 1 : Nat) : Int) - 1 - 1) = (m : Int) - 1 by rw [wrap_id (by omega) (by omega)]; omega]
    congr 1
    rw [List.reverse_cons, List.map_append]
    rfl
theorem SeqOrder : frankinglaw9_SeqOrder.Pure := by
  intro L n last _ _ _
  refine Ev.rounds (g := fun k => frankinglaw9_SeqOrder.f k L n last) ?_
  refine Ev.congr (fun k => by unfold frankinglaw9_SeqOrder.f; rfl) (Ev.bind awake_ev ?_)
  by_cases h : (L.length : Int) > 60
  · exact Ev.pure fun k => by rw [if_pos rfl, if_pos h]
  · have := order_loop n last L (by omega) L.length [] (by simp) (by simp)
    refine Ev.congr (fun k => ?_) this
    rw [if_pos rfl, if_neg h, wrap_id (by omega) (by omega)]
    rfl
end Go.Proofs.YtdmpnjebomdllaaDoor.Pure
