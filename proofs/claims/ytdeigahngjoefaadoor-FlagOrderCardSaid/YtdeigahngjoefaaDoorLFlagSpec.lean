/- Flags: sets as sorted lists, in plain words. -/
import Derived.Test.YtdeigahngjoefaaDoorLFlag2
set_option linter.unusedVariables false
set_option linter.unusedSimpArgs false
set_option maxRecDepth 100000
set_option maxHeartbeats 8000000
namespace Go.Proofs.YtdeigahngjoefaaDoor.L
open Go Go.Proofs Go.Dev Go.RowKit
abbrev Txt := List UInt8
def bl (a b : Txt) : Bool := Op.bytesLess a b
theorem bl_irrefl : ∀ a : Txt, bl a a = false
  | [] => rfl
  | x :: a => by
    have := bl_irrefl a
    simp only [bl, Op.bytesLess] at this ⊢
    simp [this]
theorem bl_trans : ∀ a b c : Txt, bl a b = true → bl b c = true → bl a c = true
  | _, [], _, h, _ => by simp [bl, Op.bytesLess] at h
  | _, _ :: _, [], _, h => by simp [bl, Op.bytesLess] at h
  | [], _ :: _, _ :: _, _, _ => by simp [bl, Op.bytesLess]
  | x :: a, y :: b, z :: c, h1, h2 => by
    simp only [bl, Op.bytesLess, Bool.or_eq_true, decide_eq_true_eq, Bool.and_eq_true, beq_iff_eq] at h1 h2 ⊢
    rcases h1 with h1 | ⟨rfl, h1⟩ <;> rcases h2 with h2 | ⟨rfl, h2⟩
    · exact .inl (UInt8.lt_trans h1 h2)
    · exact .inl h1
    · exact .inl h2
    · exact .inr ⟨rfl, bl_trans a b c h1 h2⟩
theorem bl_tri : ∀ a b : Txt, bl a b = true ∨ a = b ∨ bl b a = true
  | [], [] => .inr (.inl rfl)
  | [], _ :: _ => .inl rfl
  | _ :: _, [] => .inr (.inr rfl)
  | x :: a, y :: b => by
    simp only [bl, Op.bytesLess, Bool.or_eq_true, decide_eq_true_eq, Bool.and_eq_true, beq_iff_eq]
    rcases Nat.lt_trichotomy x.toNat y.toNat with h | h | h
    · exact .inl (.inl (UInt8.lt_iff_toNat_lt.2 h))
    · obtain rfl := UInt8.toNat_inj.1 h
      rcases bl_tri a b with h | rfl | h
      · exact .inl (.inr ⟨rfl, h⟩)
      · exact .inr (.inl rfl)
      · exact .inr (.inr (.inr ⟨rfl, h⟩))
    · exact .inr (.inr (.inl (UInt8.lt_iff_toNat_lt.2 h)))
theorem bl_asymm {a b : Txt} (h : bl a b = true) : bl b a = false := by
  cases h2 : bl b a with
  | false => rfl
  | true => have := bl_trans _ _ _ h h2; rw [bl_irrefl] at this; cases this
/-- cmp.Compare -/
def cmpS (a b : Txt) : Int := if bl a b then -1 else if bl b a then 1 else 0
/-- In the order of keys. -/
def Sor (l : List Txt) : Prop := l.Pairwise fun a b => bl (fold a) (fold b) = true
def insF (w : Txt) : List Txt → List Txt
  | [] => [w]
  | x :: r => if bl (fold x) (fold w) then x :: insF w r else w :: x :: r
def sortF : List Txt → List Txt
  | [] => []
  | x :: l => insF x (sortF l)
theorem insF_perm (w : Txt) : ∀ r, (insF w r).Perm (w :: r)
  | [] => .refl _
  | x :: r => by
    unfold insF
    split
    · exact ((insF_perm w r).cons x).trans (.swap w x r)
    · exact .refl _
theorem sortF_perm : ∀ l, (sortF l).Perm l
  | [] => .refl _
  | x :: l => (insF_perm x _).trans ((sortF_perm l).cons x)
theorem insF_sor (w : Txt) : ∀ r, Sor r → (∀ x ∈ r, fold x ≠ fold w) → Sor (insF w r)
  | [], _, _ => by simp [Sor, insF]
  | x :: r, h, hn => by
    obtain ⟨h1, h2⟩ := List.pairwise_cons.1 h
    unfold insF
    split
    · rename_i hx
      refine List.pairwise_cons.2 ⟨fun y hy => ?_, insF_sor w r h2 fun y hy => hn y (by simp [hy])⟩
      rcases List.mem_cons.1 ((insF_perm w r).mem_iff.1 hy) with rfl | hy
      · exact hx
      · exact h1 y hy
    · rename_i hx
      have hw : bl (fold w) (fold x) = true := by
        rcases bl_tri (fold x) (fold w) with h | h | h
        · exact absurd h hx
        · exact absurd h (hn x (by simp))
        · exact h
      refine List.pairwise_cons.2 ⟨fun y hy => ?_, h⟩
      rcases List.mem_cons.1 hy with rfl | hy
      · exact hw
      · exact bl_trans _ _ _ hw (h1 y hy)
/-- No two have the same key. -/
def Dist (l : List Txt) : Prop := (l.map fold).Nodup
theorem sortF_sor : ∀ l, Dist l → Sor (sortF l)
  | [], _ => .nil
  | x :: l, h => by
    have h' := List.nodup_cons.1 h
    refine insF_sor x _ (sortF_sor l h'.2) fun y hy e => h'.1 ?_
    rw [← e]
    exact List.mem_map.2 ⟨y, (sortF_perm l).mem_iff.1 hy, rfl⟩
theorem sor_unique : ∀ {l m : List Txt}, Sor l → Sor m → l.Perm m → l = m
  | [], m, _, _, h => (List.perm_nil.1 h.symm).symm
  | x :: l, [], _, _, h => by simpa using h.length_eq
  | x :: l, y :: m, hl, hm, h => by
    obtain ⟨a1, a2⟩ := List.pairwise_cons.1 hl
    obtain ⟨b1, b2⟩ := List.pairwise_cons.1 hm
    have hxy : x = y := by
      rcases List.mem_cons.1 (h.mem_iff.1 (List.mem_cons_self (a := x) (l := l))) with e | hx
      · exact e
      · rcases List.mem_cons.1 (h.mem_iff.2 (List.mem_cons_self (a := y) (l := m))) with e | hy
        · exact e.symm
        · have h1 := b1 x hx
          have h2 := a1 y hy
          rw [bl_asymm h1] at h2
          cases h2
    subst hxy
    rw [sor_unique a2 b2 h.cons_inv]
/-- The flags of a list, each once, as they are written. -/
def step (out : List Txt) (s : Txt) : List Txt := if (usual s).2 && !(out.any fun x => same x (usual s).1) then out ++ [(usual s).1] else out
def dd (l : List Txt) : List Txt := l.foldl step []
theorem dd_take {l : List Txt} {i : Nat} (h : i < l.length) : dd (l.take (i + 1)) = step (dd (l.take i)) l[i] := by
  rw [List.take_succ_eq_append_getElem h, dd, List.foldl_append]
  rfl
theorem same_any {out : List Txt} {w : Txt} : (out.any fun x => same x w) = decide (fold w ∈ out.map fold) := by
  rw [Bool.eq_iff_iff]
  simp only [List.any_eq_true, same, decide_eq_true_eq, List.mem_map]
theorem dist_snoc {out : List Txt} {w : Txt} (h : Dist out) (hw : fold w ∉ out.map fold) : Dist (out ++ [w]) := by
  unfold Dist
  rw [List.map_append, List.nodup_append]
  refine ⟨h, by simp, fun a ha b hb e => ?_⟩
  simp at hb
  subst hb e
  exact hw ha
theorem step_dist {out : List Txt} {s : Txt} (h : Dist out) : Dist (step out s) := by
  unfold step
  split
  · rename_i hc
    simp only [Bool.and_eq_true, Bool.not_eq_true', same_any, decide_eq_false_iff_not] at hc
    exact dist_snoc h hc.2
  · exact h
theorem dd_dist : ∀ (l out : List Txt), Dist out → Dist (l.foldl step out)
  | [], out, h => h
  | s :: l, out, h => dd_dist l _ (step_dist h)
theorem dd_ok (l : List Txt) : Dist (dd l) := dd_dist l [] (by simp [Dist])
/-- A set. -/
def ofF (l : List Txt) : List Txt := (sortF (dd l)).take 30
theorem insF_sortF {d : List Txt} {w : Txt} (h : Dist (d ++ [w])) : insF w (sortF d) = sortF (d ++ [w]) := by
  have hd : Dist d ∧ fold w ∉ d.map fold := by
    unfold Dist at h
    rw [List.map_append, List.nodup_append] at h
    exact ⟨h.1, fun hm => h.2.2 _ hm (fold w) (by simp) rfl⟩
  refine sor_unique (insF_sor w _ (sortF_sor d hd.1) fun x hx e => hd.2 (by rw [← e]; exact List.mem_map.2 ⟨x, (sortF_perm d).mem_iff.1 hx, rfl⟩)) (sortF_sor _ h) ?_
  exact (insF_perm w _).trans (((sortF_perm d).cons w).trans ((List.perm_append_comm (l₁ := [w]) (l₂ := d)).trans (sortF_perm _).symm))
end Go.Proofs.YtdeigahngjoefaaDoor.L
