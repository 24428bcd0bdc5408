/- HeadFolds, as a plain law: a value folded at a blank is the same value. -/
import Derived.Test.YtonlncajnniebaaDoorPHeadMore
import Derived.Test.YtonlncajnniebaaDoorPAwake11
import Derived.Test.YtonlncajnniebaaDoorX10
namespace Go.Proofs.YtonlncajnniebaaDoor.Pure
open Go.RowKit Go.Proofs.YtonlncajnniebaaDoorW.PrintWords Go.Proofs.YtonlncajnniebaaDoorW.PrintLast Go.Proofs.YtonlncajnniebaaDoor.X Go.Proofs.Mine
set_option linter.unusedSimpArgs false

theorem as_list (a : ByteArray) : ∃ s : List UInt8, a = ⟨s.toArray⟩ := ⟨a.data.toList, by cases a; simp⟩
theorem early (x0 x1 x2 : ByteArray) : Ev (fun k => frankinglaw11_HeadFolds.j0 k x0 x1 x2 true) true := Ev.after fun k => by rw [frankinglaw11_HeadFolds.j0, if_pos rfl]
theorem folds_ev (nm u v : List UInt8) (hn : plainB nm true = true) (hu : plainB u false = true) (hv : plainB v false = true) : Ev (fun k => frankinglaw11_HeadFolds.j0 k ⟨nm.toArray⟩ ⟨u.toArray⟩ ⟨v.toArray⟩ false) true := by
  obtain ⟨hg, ln⟩ := plain_name hn
  obtain ⟨hu1, lu⟩ := plain_text hu
  obtain ⟨hv1, lv⟩ := plain_text hv
  have e1 : bytesOf (((((⟨nm.toArray⟩ ++ (⟨#[58, 32]⟩ : ByteArray)) ++ ⟨u.toArray⟩) ++ (⟨#[32]⟩ : ByteArray)) ++ ⟨v.toArray⟩) ++ (⟨#[13, 10, 13, 10]⟩ : ByteArray)) = Nm (nm ++ 58 :: ((32 :: (u ++ 32 :: v)) ++ [13, 10, 13, 10])) := by
    simp only [bytesOf_append, bytesOf_Nm]
    simp [Nm]
  have e2 : bytesOf (((((⟨nm.toArray⟩ ++ (⟨#[58, 32]⟩ : ByteArray)) ++ ⟨u.toArray⟩) ++ (⟨#[13, 10, 32]⟩ : ByteArray)) ++ ⟨v.toArray⟩) ++ (⟨#[13, 10, 13, 10]⟩ : ByteArray)) = Nm (nm ++ 58 :: ((32 :: u) ++ 13 :: 10 :: 32 :: (v ++ [13, 10, 13, 10]))) := by
    simp only [bytesOf_append, bytesOf_Nm]
    simp [Nm]
  have w1 : ∀ b ∈ 32 :: (u ++ 32 :: v), b ≠ 13 := by
    intro b hb
    rcases List.mem_cons.1 hb with rfl | hb
    · decide
    rcases List.mem_append.1 hb with hb | hb
    · exact hu1 b hb
    rcases List.mem_cons.1 hb with rfl | hb
    · decide
    · exact hv1 b hb
  have w2 : ∀ b ∈ 32 :: u, b ≠ 13 := by
    intro b hb
    rcases List.mem_cons.1 hb with rfl | hb
    · decide
    · exact hu1 b hb
  have w3 : ∀ b ∈ 32 :: v, b ≠ 13 := by
    intro b hb
    rcases List.mem_cons.1 hb with rfl | hb
    · decide
    · exact hv1 b hb
  have g1 := get_first (by omega) (fields_one nm (32 :: (u ++ 32 :: v)) hg w1 (by simp; omega))
  have g2 := get_first (by omega) (fields_two nm (32 :: u) v hg w2 hv1 (by simp; omega))
  have q1 : noCR ((32 :: (u ++ 32 :: v)) ++ [13, 10]) = 32 :: (u ++ 32 :: v) := by
    rw [noCR_hit _ [] w1, noCR_none [] (by simp), List.append_nil]
  have q2 : noCR ((32 :: u) ++ 13 :: 10 :: 32 :: (v ++ [13, 10])) = 32 :: (u ++ 32 :: v) := by
    have := noCR_hit (32 :: v) [] w3
    rw [noCR_none [] (by simp), List.append_nil] at this
    rw [noCR_hit _ _ w2]
    exact congrArg (fun t => (32 :: u) ++ t) this
  have q : valL ((32 :: u) ++ 13 :: 10 :: 32 :: (v ++ [13, 10])) = valL ((32 :: (u ++ 32 :: v)) ++ [13, 10]) := by unfold valL; rw [q1, q2]
  rw [q] at g2
  refine Ev.step (fun k => by rw [frankinglaw11_HeadFolds.j0, if_neg (by decide), sizeN, sizeN, sizeN, if_pos (by omega), if_pos (by omega), if_pos (by omega), if_pos (by omega), if_pos (by omega), e1, e2]) (Ev.bind g1 ?_)
  refine Ev.congr (fun k => by rw [if_pos (by omega), if_pos (by omega), if_pos (by omega)]) (Ev.bind g2 (Ev.pure fun k => ?_))
  rw [if_pos rfl, if_pos rfl, beq_self_eq_true]
theorem HeadFolds : frankinglaw11_HeadFolds.Pure := by
  intro a0 a1 a2 h0 h1 h2
  obtain ⟨nm, rfl⟩ := as_list a0
  obtain ⟨u, rfl⟩ := as_list a1
  obtain ⟨v, rfl⟩ := as_list a2
  rw [sizeN] at h0 h1 h2
  refine Ev.rounds (g := fun k => frankinglaw11_HeadFolds.f k ⟨nm.toArray⟩ ⟨u.toArray⟩ ⟨v.toArray⟩) ?_
  refine Ev.congr (fun k => by unfold frankinglaw11_HeadFolds.f; rfl) (Ev.bind awake_ev ?_)
  refine Ev.congr (fun k => by rw [if_pos rfl]) (Ev.bind (plain_ev nm true (by omega)) ?_)
  cases hn : plainB nm true with
  | false => exact Ev.congr (fun k => by rw [if_neg (by decide)]) (early _ _ _)
  | true =>
    refine Ev.congr (fun k => by rw [if_pos rfl]) (Ev.bind (plain_ev u false (by omega)) ?_)
    cases hu : plainB u false with
    | false => exact Ev.congr (fun k => by rw [if_neg (by decide)]) (early _ _ _)
    | true =>
      refine Ev.congr (fun k => by rw [if_pos rfl]) (Ev.bind (plain_ev v false (by omega)) ?_)
      cases hv : plainB v false with
      | false => exact early _ _ _
      | true => exact folds_ev nm u v hn hu hv
end Go.Proofs.YtonlncajnniebaaDoor.Pure
