/- Commands: words as they are written, and read again. -/
import Derived.Test.YtcanagkflbbmaaaDoorLCmdN
set_option linter.unusedVariables false
set_option linter.unusedSimpArgs false
set_option maxRecDepth 100000
set_option maxHeartbeats 8000000
namespace Go.Proofs.YtcanagkflbbmaaaDoor.L
open Go Go.Proofs Go.Dev Go.RowKit
/-- What stands in brackets, the closing one with it. -/
def Brk (x : Txt) : Prop := ∃ y, x = y ++ [93] ∧ ∀ c ∈ y, c ≠ 10 ∧ c ≠ 13 ∧ c ≠ 93
/-- A plain word's bytes. -/
inductive Run (no : Txt) : Txt → Prop
  | nil : Run no []
  | chr (c : UInt8) (w : Txt) (hv : vis no c = true) (h : c ≠ 91) (hw : Run no w) : Run no (c :: w)
  | brk (x w : Txt) (hv : vis no 91 = true) (hx : Brk x) (hw : Run no w) : Run no (91 :: (x ++ w))
theorem drop_next {b : Txt} {i : Nat} (h : i < b.length) : b.drop i = b[i] :: b.drop (i + 1) := List.drop_eq_getElem_cons h
theorem brk_ex {b : Txt} : ∀ (n : Nat) (s : RS), s.err = 0 → (bracket b n s).err = 0 → b.length < n + s.at_ → s.at_ ≤ b.length → ∃ x, Brk x ∧ b.drop s.at_ = x ++ b.drop (bracket b n s).at_ ∧ bracket b n s = adv s x.length
  | 0, s, h0, h, hn, hl => by omega
  | n + 1, s, h0, h, hn, hl => by
    unfold bracket at h ⊢
    cases hp : (peek b s).1 with
    | none =>
      rw [hp] at h
      exact absurd h (peek_none hp)
    | some c =>
      obtain ⟨_, _, hlt, hc⟩ := peek_some hp
      have hd := drop_next hlt
      rw [hc] at hd
      rw [hp] at h
      simp only at h ⊢
      split at h
      · exact absurd h (fail_err (by decide))
      · rename_i q1
        rw [if_neg q1]
        split at h
        · exact absurd h (fail_err (by decide))
        · rename_i q2
          rw [if_neg q2]
          split at h
          · rename_i q3
            rw [if_pos q3]
            exact ⟨[93], ⟨[], rfl, fun c h => by cases h⟩, by rw [hd, q3]; rfl, rfl⟩
          · rename_i q3
            rw [if_neg q3]
            obtain ⟨x, ⟨y, hy, hall⟩, e1, e2⟩ := brk_ex n (next s) h0 h (by simp only [next]; omega) (by simp only [next]; omega)
            refine ⟨c :: x, ⟨c :: y, by rw [hy]; rfl, fun d hd => ?_⟩, ?_, ?_⟩
            · rcases List.mem_cons.1 hd with rfl | hd
              · exact ⟨q2, q1, q3⟩
              · exact hall d hd
            · rw [hd]
              show c :: b.drop (next s).at_ = _
              rw [e1]
              rfl
            · rw [e2, next_adv, adv_adv, List.length_cons, Nat.add_comm 1]
theorem brk_rd {b : Txt} : ∀ (y : Txt) (n : Nat) (s : RS) (r : Txt), (∀ c ∈ y, c ≠ 10 ∧ c ≠ 13 ∧ c ≠ 93) → At b s (y ++ 93 :: r) → y.length < n → bracket b n s = adv s (y.length + 1)
  | [], n + 1, s, r, _, h, _ => by
    have h' : At b s (93 :: r) := h
    rw [bracket, h'.peek]
    rfl
  | c :: y, n + 1, s, r, hy, h, hn => by
    have h' : At b s (c :: (y ++ 93 :: r)) := h
    obtain ⟨q1, q2, q3⟩ := hy c (List.mem_cons_self ..)
    rw [bracket, h'.peek]
    simp only
    rw [if_neg q2, if_neg q1, if_neg q3, brk_rd y n (next s) r (fun d hd => hy d (List.mem_cons_of_mem _ hd)) h'.next (by simp at hn; omega)]
    rw [next_adv, adv_adv, List.length_cons]
    congr 1
    omega
  | [], 0, _, _, _, _, h => by simp at h
  | _ :: _, 0, _, _, _, _, h => by simp at h
theorem run_ex {b no : Txt} {from_ : Nat} : ∀ (n : Nat) (s : RS), s.err = 0 → (run b no (brk b) from_ n s).2.err = 0 → b.length < n + s.at_ → s.at_ ≤ b.length → ∃ w, Run no w ∧ b.drop s.at_ = w ++ b.drop (s.at_ + w.length) ∧ s.at_ + w.length ≤ b.length ∧ run b no (brk b) from_ n s = ((b.drop from_).take (s.at_ + w.length - from_), adv s w.length) ∧ s.at_ + w.length ≠ from_
  | 0, s, h0, h, hn, hl => by omega
  | n + 1, s, h0, h, hn, hl => by
    unfold run at h ⊢
    cases hp : (peek b s).1 with
    | none =>
      rw [hp] at h
      exact absurd h (peek_none hp)
    | some c =>
      obtain ⟨_, _, hlt, hc⟩ := peek_some hp
      have hd := drop_next hlt
      rw [hc] at hd
      rw [hp] at h
      simp only at h ⊢
      split at h
      · rename_i hv
        rw [if_pos hv]
        by_cases h91 : c = 91
        · rw [if_pos h91] at h ⊢
          have hb0 : (brk b (next s)).err = 0 := by
            refine Classical.byContradiction fun e => ?_
            rw [(run_ge (fun _ => brk_ge) n (brk b (next s))).keep e] at h
            exact e h
          obtain ⟨x, hx, e1, e2⟩ := brk_ex (b.length + 1) (next s) h0 hb0 (by simp only [next]; omega) (by simp only [next]; omega)
          have e2' : brk b (next s) = adv (next s) x.length := e2
          have e1' : b.drop (s.at_ + 1) = x ++ b.drop (s.at_ + 1 + x.length) := by
            have : (bracket b (b.length + 1) (next s)).at_ = s.at_ + 1 + x.length := by rw [e2]; rfl
            rw [this] at e1
            exact e1
          have hxl : 0 < x.length := by
            obtain ⟨y, hy, _⟩ := hx
            rw [hy]; simp
          have hxb : s.at_ + 1 + x.length ≤ b.length := by
            have := congrArg List.length e1'
            simp at this
            omega
          rw [e2'] at h ⊢
          obtain ⟨w, hw, f1, f2, f3, f4⟩ := run_ex n (adv (next s) x.length) h0 h (by simp only [adv, next]; omega) (by simp only [adv, next]; omega)
          simp only [adv, next] at f1 f2 f4
          refine ⟨91 :: (x ++ w), .brk x w (by rw [← h91]; exact hv) hx hw, ?_, by simp; omega, ?_, by simp; omega⟩
          · rw [hd, h91, e1', f1]
            simp
            congr 1
            omega
          · rw [f3]
            simp only [adv, next, List.length_cons, List.length_append]
            have a1 : s.at_ + 1 + x.length + w.length = s.at_ + (x.length + w.length + 1) := by omega
            rw [a1]
        · rw [if_neg h91] at h ⊢
          obtain ⟨w, hw, f1, f2, f3, f4⟩ := run_ex n (next s) h0 h (by simp only [next]; omega) (by simp only [next]; omega)
          simp only [next] at f1 f2 f4
          refine ⟨c :: w, .chr c w hv h91 hw, ?_, by simp; omega, ?_, by simp; omega⟩
          · rw [hd, f1]
            simp
            congr 1
            omega
          · rw [f3]
            simp only [adv, next, List.length_cons]
            have a1 : s.at_ + 1 + w.length = s.at_ + (w.length + 1) := by omega
            rw [a1]
      · rename_i hv
        rw [if_neg hv]
        simp only at h ⊢
        split at h
        · exact absurd h (fail_err (by decide))
        · rename_i hf
          rw [if_neg hf]
          exact ⟨[], .nil, rfl, by simpa using hl, rfl, by simpa using hf⟩
theorem run_rd {b no r : Txt} {from_ : Nat} {d : UInt8} (hd : vis no d = false) {w : Txt} (hw : Run no w) : ∀ (n : Nat) (s : RS), At b s (w ++ d :: r) → w.length < n → s.at_ + w.length ≠ from_ → run b no (brk b) from_ n s = ((b.drop from_).take (s.at_ + w.length - from_), adv s w.length) := by
  induction hw with
  | nil =>
    intro n s h hn hf
    obtain ⟨n, rfl⟩ : ∃ k, n = k + 1 := ⟨n - 1, by simp at hn; omega⟩
    have h' : At b s (d :: r) := h
    rw [run, h'.peek]
    simp only [hd, Bool.false_eq_true, if_false, List.length_nil, Nat.add_zero]
    rw [if_neg (by simpa using hf)]
    rfl
  | chr c w hv h91 hw ih =>
    intro n s h hn hf
    obtain ⟨n, rfl⟩ : ∃ k, n = k + 1 := ⟨n - 1, by simp at hn; omega⟩
    have h' : At b s (c :: (w ++ d :: r)) := h
    rw [run, h'.peek]
    simp only [hv, if_true, if_neg h91]
    rw [ih n (next s) h'.next (by simp at hn; omega) (by simp only [next] at *; simp at hf; omega)]
    simp only [next_adv, adv_adv, List.length_cons, adv]
    rw [Nat.add_assoc, Nat.add_comm 1]
  | brk x w hv hx hw ih =>
    intro n s h hn hf
    obtain ⟨n, rfl⟩ : ∃ k, n = k + 1 := ⟨n - 1, by simp at hn; omega⟩
    have h' : At b s (91 :: (x ++ (w ++ d :: r))) := by simpa using h
    obtain ⟨y, hy, hall⟩ := hx
    have e2 : brk b (next s) = adv (next s) x.length := by
      have ha := h'.next
      have hl := ha.len (by rw [hy]; simp)
      rw [hy] at ha ⊢
      have := brk_rd y (b.length + 1) (next s) (w ++ d :: r) hall (by simpa using ha) (by rw [hy] at hl; simp at hl; omega)
      rw [List.length_append, List.length_singleton]
      exact this
    rw [run, h'.peek]
    simp only [hv, if_true]
    rw [e2, ih n (adv (next s) x.length) h'.next.adv (by simp at hn; omega) (by simp only [next, adv] at *; simp at hf; omega)]
    simp only [next_adv, adv_adv, List.length_cons, List.length_append, adv]
    have a1 : s.at_ + (1 + x.length) + w.length = s.at_ + (x.length + w.length + 1) := by omega
    have a2 : s.at_ + (1 + x.length + w.length) = s.at_ + (x.length + w.length + 1) := by omega
    first | rfl | (simp only [a1]; done) | (simp only [a2]; done) | (simp only [a1, a2]; done) | (congr 2 <;> omega)
end Go.Proofs.YtcanagkflbbmaaaDoor.L
