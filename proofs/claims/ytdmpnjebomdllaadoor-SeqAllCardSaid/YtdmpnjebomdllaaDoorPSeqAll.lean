/- SeqAll, as a plain law: one to the last has all. -/
import Derived.Test.YtdmpnjebomdllaaDoorPSeqLib
import Derived.Test.YtdmpnjebomdllaaDoorPAwake9
import Derived.Test.YtdmpnjebomdllaaDoorX4
import Derived.Test.YtdmpnjebomdllaaDoorX2
import Derived.Test.YtdmpnjebomdllaaDoorX13
namespace Go.Proofs.YtdmpnjebomdllaaDoor.Pure
open Go.RowKit Go.Proofs.YtdmpnjebomdllaaDoorW.PrintWords Go.Proofs.YtdmpnjebomdllaaDoorW.PrintLast Go.Proofs.YtdmpnjebomdllaaDoor.X Go.Proofs.Mine

theorem mx_le (a b : Int) : a ≤ mx a b ∧ b ≤ mx a b := by unfold mx; split <;> omega
theorem fold_ge (l : List Int) : ∀ a : Int, a ≤ l.foldl mx a ∧ ∀ x ∈ l, x ≤ l.foldl mx a := by
  induction l with
  | nil => intro a; exact ⟨Int.le_refl _, fun x h => by cases h⟩
  | cons b l ih =>
    intro a
    have := ih (mx a b)
    have h2 := mx_le a b
    refine ⟨Int.le_trans h2.1 this.1, fun x hx => ?_⟩
    rcases List.mem_cons.1 hx with rfl | hx
    · exact Int.le_trans h2.2 this.1
    · exact this.2 x hx
theorem max_ge (l : List Int) : ∀ x ∈ l, x ≤ slices_Max_int64_int64.m l := by
  cases l with
  | nil => intro x h; cases h
  | cons a l =>
    intro x hx
    rcases List.mem_cons.1 hx with rfl | hx
    · exact (fold_ge l x).1
    · exact (fold_ge l a).2 x hx
def all1 : List S38 := [⟨1, 0⟩]
theorem parse_all : Ev (fun k => seq_Parse.f k (⟨#[49, 58, 42]⟩ : ByteArray)) (all1, 0) := Ev.of (k := 20) (seq_Parse.mono _) (by kernel_rfl)
theorem in_all (n last : Int) (h1 : 1 ≤ n) (h2 : n ≤ last) : (all1.any fun x => inSpan x n last) = true := by
  show (inSpan ⟨1, 0⟩ n last || false) = true
  rw [Bool.or_false, inSpan_iff]
  exact .inl ⟨h1, h2⟩
theorem pick_loop (last : Int) (L : List Int) (hL : L.length ≤ 60) (hlast : ∀ x ∈ L, 1 ≤ x ∧ x ≤ last) : ∀ (l pre : List Int), L = pre ++ l →
    Ev (fun k => seq_Pick.l0 k last pre L (L.length : Int) (pre.length : Int) all1) L := by
  intro l
  induction l with
  | nil =>
    intro pre h
    have hl : L.length = pre.length := by rw [h]; simp
    refine Ev.after fun k => ?_
    rw [seq_Pick.l0, if_neg (by omega), h, List.append_nil]
  | cons x l ih =>
    intro pre h
    have hl : L.length = pre.length + (l.length + 1) := by rw [h]; simp
    have hr : rd L (pre.length : Int) = x := by rw [h]; exact rd_of
    obtain ⟨x1, x2⟩ := hlast x (by rw [h]; simp)
    have ih' := ih (pre ++ [x]) (by rw [h]; simp)
    rw [List.length_append, List.length_singleton] at ih'
    refine Ev.step (fun k => by rw [seq_Pick.l0, if_pos (by omega), if_pos (by omega), if_pos (by omega), hr, if_pos x1]) (Ev.bind (Ev.eq (has_ev x last all1 (by decide)) (in_all x last x1 x2)) ?_)
    exact Ev.congr (fun k => by rw [if_pos rfl, if_pos (by omega), wrap_nat (by omega)]) ih'
theorem pick_ev (L : List Int) (hL : L.length ≤ 60) (h1 : ∀ x ∈ L, 1 ≤ x) : Ev (fun k => seq_Pick.f k all1 L) L := by
  by_cases h0 : L.length = 0
  · obtain rfl := List.eq_nil_of_length_eq_zero h0
    exact Ev.congr (fun k => by unfold seq_Pick.f; rw [if_pos (by decide)]) (Ev.after fun k => by rw [seq_Pick.j0, if_pos rfl])
  · have hm : slices_Max_int64_int64.f L = some (slices_Max_int64_int64.m L) := by unfold slices_Max_int64_int64.f; rw [if_pos (by omega)]
    have hg : seq_good.f all1 = some true := by decide +kernel
    refine Ev.congr (fun k => by unfold seq_Pick.f; rw [if_neg (by omega), hg, Option.bind_some]) (Ev.step (fun k => by rw [seq_Pick.j0, if_neg (by decide), hm, Option.bind_some]) ?_)
    exact pick_loop _ L hL (fun x hx => ⟨h1 x hx, max_ge L x hx⟩) L [] rfl
theorem longs_loop (L : List Int) (hL : L.length ≤ 60) : ∀ (l pre : List Int), L = pre ++ l → Ev (fun k => frankinglaw9_longs.l0 k L L (pre.length : Int)) true := by
  intro l
  induction l with
  | nil =>
    intro pre h
    have hl : L.length = pre.length := by rw [h]; simp
    exact Ev.after fun k => by rw [frankinglaw9_longs.l0, if_neg (by omega)]
  | cons x l ih =>
    intro pre h
    have hl : L.length = pre.length + (l.length + 1) := by rw [h]; simp
    have ih' := ih (pre ++ [x]) (by rw [h]; simp)
    rw [List.length_append, List.length_singleton] at ih'
    exact Ev.step (fun k => by rw [frankinglaw9_longs.l0, if_pos (by omega), if_pos (by omega), if_pos (by omega), if_pos rfl, wrap_nat (by omega)]) ih'
theorem longs_ev (L : List Int) (hL : L.length ≤ 60) : Ev (fun k => frankinglaw9_longs.f k L L) true :=
  Ev.congr (fun k => by unfold frankinglaw9_longs.f; rw [if_pos rfl]; rfl) (longs_loop L hL L [] rfl)
theorem all_loop (L : List Int) (hL : L.length ≤ 60) : ∀ (l pre : List Int), L = pre ++ l → (∀ x ∈ pre, 1 ≤ x) → Ev (fun k => frankinglaw9_SeqAll.l0 k L (pre.length : Int)) true := by
  intro l
  induction l with
  | nil =>
    intro pre h h1
    have hl : L.length = pre.length := by rw [h]; simp
    have hp : L = pre := by rw [h, List.append_nil]
    refine Ev.step (fun k => by rw [frankinglaw9_SeqAll.l0, if_neg (by omega)]) (Ev.bind parse_all ?_)
    refine Ev.congr (fun k => by rw [if_pos rfl]) (Ev.bind (pick_ev L hL (by rw [hp]; exact h1)) (Ev.bind (longs_ev L hL) (Ev.pure fun k => rfl)))
  | cons x l ih =>
    intro pre h h1
    have hl : L.length = pre.length + (l.length + 1) := by rw [h]; simp
    have hr : rd L (pre.length : Int) = x := by rw [h]; exact rd_of
    by_cases hx : x < 1
    · exact Ev.after fun k => by rw [frankinglaw9_SeqAll.l0, if_pos (by omega), if_pos (by omega), hr, if_pos hx]
    by_cases hx2 : x > 4294967295
    · exact Ev.after fun k => by rw [frankinglaw9_SeqAll.l0, if_pos (by omega), if_pos (by omega), hr, if_neg hx, if_pos hx2]
    have ih' := ih (pre ++ [x]) (by rw [h]; simp) (fun y hy => by
      rcases List.mem_append.1 hy with hy | hy
      · exact h1 y hy
      · rw [List.mem_singleton.1 hy]; omega)
    rw [List.length_append, List.length_singleton] at ih'
    exact Ev.step (fun k => by rw [frankinglaw9_SeqAll.l0, if_pos (by omega), if_pos (by omega), hr, if_neg hx, if_neg hx2, wrap_nat (by omega)]) ih'
theorem SeqAll : frankinglaw9_SeqAll.Pure := by
  intro L _ _ _
  refine Ev.rounds (g := fun k => frankinglaw9_SeqAll.f k L) ?_
  refine Ev.congr (fun k => by unfold frankinglaw9_SeqAll.f; rfl) (Ev.bind awake_ev ?_)
  by_cases h : (L.length : Int) > 60
  · exact Ev.pure fun k => by rw [if_pos rfl, if_pos h]
  · exact Ev.congr (fun k => by rw [if_pos rfl, if_neg h]; rfl) (all_loop L (by omega) L [] rfl (fun x hx => by cases hx))
end Go.Proofs.YtdmpnjebomdllaaDoor.Pure
