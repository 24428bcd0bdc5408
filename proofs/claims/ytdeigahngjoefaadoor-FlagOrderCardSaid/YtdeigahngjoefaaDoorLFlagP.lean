/- Flags: the order of what is given does not count (in plain words). -/
import Derived.Test.YtdeigahngjoefaaDoorLFlag3
import Derived.Test.YtdeigahngjoefaaDoorLFlag4
set_option linter.unusedVariables false
set_option linter.unusedSimpArgs false
set_option maxRecDepth 100000
set_option maxHeartbeats 8000000
namespace Go.Proofs.YtdeigahngjoefaaDoor.L
open Go Go.Proofs Go.Dev Go.RowKit
theorem usual_twice {s : Txt} (h : (usual s).2 = true) : usual (usual s).1 = ((usual s).1, true) := by
  cases hf : sys.find? (fun f => same f s) with
  | some f =>
    have e : usual s = (f, true) := by simp [usual, hf]
    rw [e]
    have : ∀ f ∈ sys, usual f = (f, true) := by decide
    exact this f (List.mem_of_find?_eq_some hf)
  | none =>
    have e : usual s = (s, (usual s).2) := by simp [usual, hf]
    rw [h] at e
    rw [e]
    exact e
theorem dd_usual : ∀ (l out : List Txt), (∀ x ∈ out, usual x = (x, true)) → ∀ x ∈ l.foldl step out, usual x = (x, true)
  | [], out, h => h
  | s :: l, out, h => dd_usual l _ (by
    intro x hx
    unfold step at hx
    split at hx
    · rename_i hc
      simp only [Bool.and_eq_true] at hc
      rcases List.mem_append.1 hx with hx | hx
      · exact h x hx
      · simp at hx
        subst hx
        exact usual_twice hc.1
    · exact h x hx)
theorem dd_keys (k : Txt) : ∀ (l out : List Txt), k ∈ (l.foldl step out).map fold ↔ k ∈ out.map fold ∨ ∃ s ∈ l, (usual s).2 = true ∧ fold (usual s).1 = k
  | [], out => by simp
  | s :: l, out => by
    rw [List.foldl_cons, dd_keys k l (step out s)]
    have hs : k ∈ (step out s).map fold ↔ k ∈ out.map fold ∨ ((usual s).2 = true ∧ fold (usual s).1 = k) := by
      by_cases h1 : (usual s).2 = true
      · by_cases h2 : fold (usual s).1 ∈ out.map fold
        · rw [step_had h2]
          constructor
          · exact .inl
          · rintro (h | ⟨_, rfl⟩)
            · exact h
            · exact h2
        · rw [step_new h1 h2]
          simp only [List.map_append, List.mem_append, List.map_cons, List.map_nil, List.mem_singleton]
          constructor
          · rintro (h | rfl)
            · exact .inl h
            · exact .inr ⟨h1, rfl⟩
          · rintro (h | ⟨_, rfl⟩)
            · exact .inl h
            · exact .inr rfl
      · rw [step_no (by simpa using h1)]
        constructor
        · exact .inl
        · rintro (h | ⟨h, _⟩)
          · exact h
          · exact absurd h h1
    rw [hs]
    constructor
    · rintro ((h | h) | ⟨s', h1, h2⟩)
      · exact .inl h
      · exact .inr ⟨s, by simp, h⟩
      · exact .inr ⟨s', by simp [h1], h2⟩
    · rintro (h | ⟨s', h1, h2⟩)
      · exact .inl (.inl h)
      · rcases List.mem_cons.1 h1 with rfl | h1
        · exact .inl (.inr h2)
        · exact .inr ⟨s', h1, h2⟩
theorem ofF_len (l : List Txt) : (ofF l).length ≤ 30 := by unfold ofF; rw [List.length_take]; omega
theorem ofF_mem {l : List Txt} {x : Txt} (h : x ∈ ofF l) : x ∈ dd l := (sortF_perm _).mem_iff.1 (List.mem_of_mem_take h)
theorem ofF_big {l : List Txt} (hb : ∀ x ∈ l, x.length < big) : ∀ x ∈ ofF l, x.length < big := fun x hx => dd_big hb x (ofF_mem hx)
theorem ofF_usual {l : List Txt} {x : Txt} (h : x ∈ ofF l) : usual x = (x, true) := dd_usual l [] (by simp) x (ofF_mem h)
theorem ofF_one {x : Txt} (h : usual x = (x, true)) : ofF [x] = [x] := by
  have : dd [x] = [x] := by simp [dd, step, h]
  simp [ofF, this, sortF, insF]
theorem ofF_sor (l : List Txt) : Sor (ofF l) := (sortF_sor _ (dd_ok l)).sublist (List.take_sublist _ _)
theorem hasF_iff {l : List Txt} {s : Txt} : hasF l s = true ↔ fold s ∈ l.map fold := by
  unfold hasF
  rw [same_any]
  exact decide_eq_true_iff
theorem sub_iff {a b : List Txt} : sub a b = true ↔ ∀ k ∈ a.map fold, k ∈ b.map fold := by
  unfold sub
  simp only [Bool.not_eq_true', List.any_eq_false, Bool.not_eq_true, Bool.not_eq_false, hasF_iff]
  simp only [List.mem_map, forall_exists_index, and_imp, forall_apply_eq_imp_iff₂]
theorem neigh {l : List Txt} {i j : Nat} (hij : i < j) (hj : j < (ofF l).length) : sameF (ofF [(ofF l)[i]]) (ofF [(ofF l)[j]]) = false := by
  rw [ofF_one (ofF_usual (List.getElem_mem _)), ofF_one (ofF_usual (List.getElem_mem _))]
  have h := List.pairwise_iff_getElem.1 (ofF_sor l) i j (by omega) hj hij
  have hne : fold (ofF l)[i] ≠ fold (ofF l)[j] := fun e => by rw [e, bl_irrefl] at h; cases h
  have : sub [(ofF l)[i]] [(ofF l)[j]] = false := by
    rw [← Bool.not_eq_true, sub_iff]
    simpa using hne
  simp [sameF, this]
theorem ofF_small {l : List Txt} (h : l.length ≤ 30) : ofF l = sortF (dd l) := by
  have := dd_len l []
  refine List.take_of_length_le ?_
  rw [sortF_len]
  simp [dd] at this ⊢
  omega
theorem ofF_keys {l : List Txt} (h : l.length ≤ 30) (k : Txt) : k ∈ (ofF l).map fold ↔ ∃ s ∈ l, (usual s).2 = true ∧ fold (usual s).1 = k := by
  rw [ofF_small h]
  have : k ∈ (sortF (dd l)).map fold ↔ k ∈ (dd l).map fold := ((sortF_perm _).map fold).mem_iff
  rw [this, dd, dd_keys]
  simp
theorem same_keys {a b : List Txt} (ha : Dist a) (hb : Dist b) (h : ∀ k, k ∈ a.map fold ↔ k ∈ b.map fold) : sameF a b = true := by
  have hp : (a.map fold).Perm (b.map fold) := (List.perm_ext_iff_of_nodup ha hb).2 h
  have hl : a.length = b.length := by simpa using hp.length_eq
  simp [sameF, hl, sub_iff.2 fun k hk => (h k).1 hk, sub_iff.2 fun k hk => (h k).2 hk]
theorem sor_dist {l : List Txt} (h : Sor l) : Dist l := List.pairwise_map.2 (h.imp fun {a b} h e => by rw [e, bl_irrefl] at h; cases h)
theorem turned {l : List Txt} (h : l.length ≤ 20) : sameF (ofF l) (ofF l.reverse) = true :=
  same_keys (sor_dist (ofF_sor _)) (sor_dist (ofF_sor _)) fun k => by
    rw [ofF_keys (by omega), ofF_keys (by simp; omega)]
    simp
end Go.Proofs.YtdeigahngjoefaaDoor.L
