/- AddrBack, as a plain law: what can be written is read again. -/
import Derived.Test.YtgajilieekhpjaaDoorPAddrItem
import Derived.Test.YtgajilieekhpjaaDoorPAddrOwn
import Derived.Test.YtgajilieekhpjaaDoorX8
import Derived.Test.YtgajilieekhpjaaDoorX2
namespace Go.Proofs.YtgajilieekhpjaaDoor.Pure
open Go.RowKit Go.Proofs.Mine Go.Proofs.YtgajilieekhpjaaDoorW.PrintWords Go.Proofs.YtgajilieekhpjaaDoorW.PrintLast Go.Proofs.YtgajilieekhpjaaDoor.X
set_option linter.unusedSimpArgs false
theorem main (L : List S33) (hL : L.length ≤ 10) (hz : ∀ x ∈ L, Light x) : Ev (fun k => frankinglaw12_AddrBack.l0 k L (L.length : Int)) true := by
  have e : ∀ k, frankinglaw12_AddrBack.l0 (k + 1) L (L.length : Int) = _ := fun k => by rw [frankinglaw12_AddrBack.l0, if_neg (by omega)]
  refine Ev.step e ?_
  refine Ev.bind (Show_ev L (by omega) hz) ?_
  by_cases h0 : showL L = []
  · exact Ev.congr (f := fun _ => some true) (fun k => if_pos (by rw [toListN]; exact h0)) (Ev.now _)
  refine Ev.congr (fun k => if_neg (by rw [toListN]; exact h0)) ?_
  have hlen : (showL L).length ≤ 1000000 := by
    unfold showL
    split
    · have := join_len [44, 32] (by simp) (L.map fun x => (partA x).1) (fun y hy => by
        rw [List.mem_map] at hy
        obtain ⟨x, hx, rfl⟩ := hy
        refine showA_len _ _ _ ?_
        rw [data_len, data_len, data_len]
        exact hz x hx)
      rw [List.length_map] at this
      omega
    · simp
  refine Ev.bind (parse_ev _ hlen) ?_
  rw [parse_show L h0]
  refine Ev.congr (fun k => if_pos rfl) ?_
  refine Ev.bind (own_ev L (by omega)) ?_
  refine Ev.bind (own_ev L (by omega)) ?_
  refine Ev.bind (alike_ev _ (by rw [List.length_map]; omega)) ?_
  refine Ev.congr (fun k => if_pos rfl) ?_
  refine Ev.bind (Show_ev L (by omega) hz) ?_
  refine Ev.congr (f := fun _ => some true) (fun k => ?_) (Ev.now _)
  simp
theorem loop (L : List S33) (hL : L.length ≤ 10) (hb : ∀ x ∈ L, x.f0.size ≤ 140737488351232 ∧ x.f1.size ≤ 140737488351232 ∧ x.f2.size ≤ 140737488351232) : ∀ (l pre : List S33), L = pre ++ l → (∀ x ∈ pre, Light x) →
    Ev (fun k => frankinglaw12_AddrBack.l0 k L (pre.length : Int)) true := by
  intro l
  induction l with
  | nil =>
    intro pre h hp
    rw [List.append_nil] at h
    subst h
    exact main L hL hp
  | cons c l ih =>
    intro pre h hp
    have hl : L.length = pre.length + (l.length + 1) := by rw [h]; simp
    have hr : rd_T33 L (pre.length : Int) = c := by rw [h]; exact rdA_of
    obtain ⟨b0, b1, b2⟩ := hb c (by rw [h]; simp)
    have hw : wrap64 (wrap64 ((c.f0.size : Int) + (c.f1.size : Int)) + (c.f2.size : Int)) = (c.f0.size : Int) + c.f1.size + c.f2.size := by
      rw [wrap_id (n := (c.f0.size : Int) + (c.f1.size : Int)) (by omega) (by omega), wrap_id (by omega) (by omega)]
    have e : ∀ k, frankinglaw12_AddrBack.l0 (k + 1) L (pre.length : Int) = if (c.f0.size : Int) + c.f1.size + c.f2.size > 300 then some true else frankinglaw12_AddrBack.l0 k L ((pre.length + 1 : Nat) : Int) := by
      intro k
      rw [frankinglaw12_AddrBack.l0, if_pos (by omega), if_pos (by omega), hr, hw, wrap_nat (by omega)]
    by_cases h3 : (c.f0.size : Int) + c.f1.size + c.f2.size > 300
    · exact Ev.after fun k => by rw [e, if_pos h3]
    · have ih' := ih (pre ++ [c]) (by rw [h]; simp) (fun x hx => by
        rw [List.mem_append, List.mem_singleton] at hx
        rcases hx with hx | rfl
        · exact hp x hx
        · unfold Light; omega)
      rw [List.length_append, List.length_singleton] at ih'
      exact Ev.step (fun k => by rw [e, if_neg h3]) ih'
theorem AddrBack : frankinglaw12_AddrBack.Pure := by
  intro L hL
  refine Ev.rounds (g := fun k => frankinglaw12_AddrBack.f k L) ?_
  refine Ev.congr (fun k => by unfold frankinglaw12_AddrBack.f frankinglaw12_awake.f; rw [Option.bind_some, if_pos rfl]) ?_
  by_cases h : (L.length : Int) > 10
  · exact Ev.congr (f := fun _ => some true) (fun k => if_pos h) (Ev.now _)
  · exact Ev.congr (fun k => if_neg h) (loop L (by omega) (fun x hx => hL.2 x hx) L [] rfl (fun x hx => by simp at hx))
end Go.Proofs.YtgajilieekhpjaaDoor.Pure
