/- OctetSays, as a plain law: the layer and its reference come to the same. -/
import Derived.Test.YtcgjkppoakngnaaDoorPAwake1
import Derived.Test.YtcgjkppoakngnaaDoorPRef1
import Derived.Test.YtcgjkppoakngnaaDoorPRef1b
import Derived.Test.YtcgjkppoakngnaaDoorPLines
import Derived.Test.YtcgjkppoakngnaaDoorPFold
import Derived.Test.YtcgjkppoakngnaaDoorPUnquote
import Derived.Test.YtcgjkppoakngnaaDoorX7
namespace Go.Proofs.YtcgjkppoakngnaaDoor.Pure
open Go.RowKit Go.Proofs.YtcgjkppoakngnaaDoorW.PrintWords Go.Proofs.YtcgjkppoakngnaaDoorW.PrintLast Go.Proofs.YtcgjkppoakngnaaDoor.X Go.Proofs.Mine

theorem says_loop (s t : ByteArray) (hs : s.size ≤ 9000) (ht : t.size ≤ 300) (ls : List (List Int)) (hl : ls.length ≤ 10000) : ∀ (n i : Nat), i + n = ls.length →
    Ev (fun k => frankinglaw1_OctetSays.l0 k s t ls ls (i : Int)) true := by
  intro n
  induction n with
  | zero =>
    intro i hi
    have hf := fold_eq s (by omega)
    have hf' : frankingref1_Fold.f s = some (foldBA s) := hf
    have hsm : frankingref1_Same.f s t = octet_Same.f s t := rfl
    obtain ⟨b, hb⟩ : ∃ b, octet_Same.f s t = some b := by
      unfold octet_Same.f
      rw [fold_eq s (by omega), fold_eq t (by omega), Option.bind_some, Option.bind_some]
      exact ⟨_, rfl⟩
    refine Ev.step (f := fun k => (octet_Atom.f k s).bind fun x => (frankingref1_Atom.f k s).bind fun y => if (x == y) = true then ((octet_NString.f k s).bind fun u => (frankingref1_NString.f k s).bind fun v => some (u.toList == v.toList)) else some false) (fun k => ?_) ?_
    · rw [frankinglaw1_OctetSays.l0, if_neg (by omega), hf, hf', Option.bind_some, Option.bind_some, if_pos rfl, hsm, hb, Option.bind_some, Option.bind_some, if_pos (beq_self_eq_true b)]
    · refine Ev.bind (atom_ev s (by omega)) (Ev.bind (ratom_ev s (by omega)) ?_)
      refine Ev.congr (fun k => by rw [if_pos (beq_self_eq_true _)]) ?_
      refine Ev.bind (nstring_ev s (by omega)) (Ev.bind (rnstring_ev s (by omega)) (Ev.pure fun k => ?_))
      rw [beq_self_eq_true]
  | succ n ih =>
    intro i hi
    have i1 : (i : Int) < (ls.length : Int) := by omega
    have i2 : 0 ≤ (i : Int) := by omega
    have hr := ih (i + 1) (by omega)
    refine Ev.step (fun k => ?_) hr
    rw [frankinglaw1_OctetSays.l0, if_pos i1, if_pos i2, if_pos i1, if_pos rfl, wrap_nat (by omega)]
theorem OctetSays : frankinglaw1_OctetSays.Pure := by
  intro s t _ _
  refine Ev.rounds (g := fun k => frankinglaw1_OctetSays.f k s t) ?_
  refine Ev.congr (fun k => by unfold frankinglaw1_OctetSays.f; rfl) (Ev.bind awake_ev ?_)
  refine Ev.congr (fun k => by rw [if_pos rfl]) ?_
  have yes : Ev (fun k => frankinglaw1_OctetSays.j0 k s t true) true := Ev.after fun k => by rw [frankinglaw1_OctetSays.j0, if_pos rfl]
  by_cases h1 : (s.size : Int) > 9000
  · exact Ev.congr (fun k => by rw [if_pos h1]) yes
  refine Ev.congr (fun k => by rw [if_neg h1]) ?_
  by_cases h2 : (t.size : Int) > 300
  · rw [decide_eq_true h2]; exact yes
  rw [decide_eq_false h2]
  have hs : s.size ≤ 9000 := by omega
  have ht : t.size ≤ 300 := by omega
  have hlen : (bytesOf s).length = s.size := bytesOf_length s
  obtain ⟨v, hv⟩ := num_ev s
  have hv' : Ev (fun k => frankingref1_Num.f k s) v := Ev.congr (rnum_eq s) hv
  have hll := linesL_length (bytesOf s)
  refine Ev.step (fun k => by rw [frankinglaw1_OctetSays.j0, if_neg (by decide)]) ?_
  refine Ev.bind (quote_ev s) (Ev.bind (rquote_ev s) (Ev.bind (unq_ev s (by omega)) (Ev.bind (runq_ev s (by omega)) (Ev.bind hv (Ev.bind hv' ?_)))))
  refine Ev.congr (fun k => by rw [if_pos (show s.size ≤ 9223372036854775807 by omega)]) ?_
  refine Ev.bind (lines_ev (bytesOf s) (bytesOf_byte s) (by omega)) (Ev.bind (rlines_ev (bytesOf s) (by omega)) ?_)
  have nb : ∀ b : Bool, ¬ (b != b) = true := by decide
  have ni : ((((linesL (bytesOf s)).length : Int)) != ((linesL (bytesOf s)).length : Int)) = false := by simp
  refine Ev.congr (f := fun k => frankinglaw1_OctetSays.j1 k s t (linesL (bytesOf s)) (linesL (bytesOf s)) false) (fun k => ?_) ?_
  · rw [if_pos rfl, if_neg (nb _), if_pos rfl, if_pos rfl, if_pos rfl, if_pos rfl, if_neg (nb _), ni]
  · refine Ev.step (fun k => by rw [frankinglaw1_OctetSays.j1, if_neg (by decide)]) ?_
    exact says_loop s t hs ht (linesL (bytesOf s)) (by omega) (linesL (bytesOf s)).length 0 (by omega)
end Go.Proofs.YtcgjkppoakngnaaDoor.Pure
