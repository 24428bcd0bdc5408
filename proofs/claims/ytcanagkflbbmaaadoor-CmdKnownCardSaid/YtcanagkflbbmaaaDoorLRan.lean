/- The rest of a function's code, run by the evaluator over data that is known. -/
import Derived.Test.YtcanagkflbbmaaaDoorLLib
set_option linter.unusedVariables false
set_option linter.unusedSimpArgs false
set_option maxRecDepth 100000
set_option maxHeartbeats 8000000
namespace Go.Proofs.YtcanagkflbbmaaaDoor.L
open Go Go.Proofs Go.Dev Go.RowKit
/-- Contracts as a table. -/
structure PEnt where
  f : FuncId
  ds : List DV
  d : DV
def lookE : List PEnt → FuncId → List DV → Option PR
  | [], _, _ => none
  | e :: l, f, ds => if decide (e.f = f) && sameL (same 40) e.ds ds then some (.val e.d) else lookE l f ds
def ranC (P : Program) (L : Nat) (tab : List PEnt) : Ctx := { P := P, prim := lookE tab, imp := fun _ => false, L := L }
theorem lookE_ok {f : FuncId} {ds : List DV} {pr : PR} : ∀ {tab : List PEnt}, lookE tab f ds = some pr → ∃ e ∈ tab, e.f = f ∧ e.ds = ds ∧ pr = .val e.d
  | [], h => by cases h
  | e :: l, h => by
    unfold lookE at h
    split at h
    · rename_i hc
      simp only [Bool.and_eq_true, decide_eq_true_eq] at hc
      cases h
      exact ⟨e, List.mem_cons_self .., hc.1, sameL_eq (same_eq 40) _ _ hc.2, rfl⟩
    · obtain ⟨e', h1, h2⟩ := lookE_ok h
      exact ⟨e', List.mem_cons_of_mem _ h1, h2⟩
theorem ran_world {E : Env} (hE : E.Ok) {L : Nat} {tab : List PEnt} (h : ∀ e ∈ tab, Prim E e.f e.ds (.val e.d)) : World0 (ranC E.P L tab) E.G E.NG := ⟨hE.name, hE.glob, fun f ds pr hp => by
  obtain ⟨e, he, rfl, rfl, rfl⟩ := lookE_ok hp
  obtain ⟨h1, h2⟩ := (h e he).run hE
  exact ⟨h1, fun S w vs a b c d => (h2 S w vs a b c d).mono fun _ _ h => h⟩⟩
/-- A piece of code, run; what comes of it is told by a test. -/
theorem T.ran {E : Env} {L k n : Nat} {tab : List PEnt} {c : Code} {s : St} {N : St → Prop} {A : Ex → St → Prop} (ht : ∀ e ∈ tab, Prim E e.f e.ds (.val e.d)) (B : Ex → St → Bool)
    (h : (match evCode (ranC E.P L tab) (Go.Dev.runT (ranC E.P L tab) [] k) (evDraw (ranC E.P L tab) (Go.Dev.runT (ranC E.P L tab) [] k) n) n c s with | some (x, s') => B x s' | none => false) = true)
    (hN : ∀ s', B .normal s' = true → N s') (hA : ∀ x s', x ≠ .normal → B x s' = true → A x s') : T E n c s N A := .of fun hE S0 μ0 H0 w0 hb a w Q hi q1 q2 => by
  have W : World0 (ranC E.P L tab) E.G E.NG := ran_world hE ht
  split at h
  · rename_i x s' hx
    refine evCode_ok W (runT_ok W .nil k) (evDraw_ok W (runT_ok W .nil k) n) c s x s' hx Q a w hi fun a w hi' => ?_
    cases x with
    | normal => exact q1 s' a w (hN s' h) hi'
    | _ => exact q2 _ s' a w (hA _ s' (by intro e; cases e) h) (by intro e; cases e) hi'
  · cases h
/-- The executor as far as a piece of code goes; what comes behind is told apart. -/
theorem T.seqX {E : Env} {n : Nat} {c1 c2 : Code} {ρ : Tr} {H : Heap} {N : St → Prop} {A : Ex → St → Prop} (h : tx E n c1 ρ H (fun ρ H => T E n c2 (ρ, H) N A) (fun e ρ H => A e (ρ, H))) : T E n (.seq c1 c2) (ρ, H) N A := .seq (tx_ok c1 ρ H _ _ h)
end Go.Proofs.YtcanagkflbbmaaaDoor.L
