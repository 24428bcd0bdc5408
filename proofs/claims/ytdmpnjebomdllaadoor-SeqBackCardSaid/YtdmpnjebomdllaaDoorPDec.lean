/- The digits of a number, plainly. -/
import Derived.Test.YtdmpnjebomdllaaDoorPLib
namespace Go.Proofs.Mine
open Go.RowKit Go.Proofs.YtdmpnjebomdllaaDoorW.PrintWords Go.Proofs.YtdmpnjebomdllaaDoorW.PrintLast

/-- A number's digits, the highest first. -/
def digs (n : Nat) : List Nat := if h : n < 10 then [n] else digs (n / 10) ++ [n % 10]
termination_by n
decreasing_by omega
theorem digs_small {n : Nat} (h : n < 10) : digs n = [n] := by rw [digs, dif_pos h]
theorem digs_big {n : Nat} (h : ¬ n < 10) : digs n = digs (n / 10) ++ [n % 10] := by rw [digs, dif_neg h]
theorem digs_le : ∀ n, ∀ d ∈ digs n, d ≤ 9 := by
  intro n
  induction n using Nat.strongRecOn with
  | _ n ih =>
    intro d hd
    by_cases h : n < 10
    · rw [digs_small h] at hd
      rw [List.mem_singleton.1 hd]; omega
    · rw [digs_big h] at hd
      rcases List.mem_append.1 hd with hd | hd
      · exact ih (n / 10) (by omega) d hd
      · rw [List.mem_singleton.1 hd]; omega
theorem digs_pos : ∀ n, 1 ≤ (digs n).length := by
  intro n
  by_cases h : n < 10
  · rw [digs_small h]; simp
  · rw [digs_big h]; simp
theorem digs_len : ∀ (k n : Nat), n < 10 ^ (k + 1) → (digs n).length ≤ k + 1 := by
  intro k
  induction k with
  | zero => intro n h; rw [digs_small (by omega)]; simp
  | succ k ih =>
    intro n h
    by_cases h9 : n < 10
    · rw [digs_small h9]; simp
    · rw [digs_big h9, List.length_append, List.length_singleton]
      have := ih (n / 10) (by rw [Nat.pow_succ] at h; omega)
      omega
/-- What digits tell. -/
def valD (ds : List Nat) : Nat := ds.foldl (fun a d => a * 10 + d) 0
theorem valD_digs : ∀ n, valD (digs n) = n := by
  intro n
  induction n using Nat.strongRecOn with
  | _ n ih =>
    by_cases h : n < 10
    · rw [digs_small h]; simp [valD]
    · have := ih (n / 10) (by omega)
      unfold valD at this ⊢
      rw [digs_big h, List.foldl_append, this]
      simp
      omega
theorem digs_head : ∀ n, 1 ≤ n → ∃ d l, digs n = d :: l ∧ 1 ≤ d := by
  intro n
  induction n using Nat.strongRecOn with
  | _ n ih =>
    intro h1
    by_cases h : n < 10
    · exact ⟨n, [], digs_small h, h1⟩
    · obtain ⟨d, l, e, hd⟩ := ih (n / 10) (by omega) (by omega)
      exact ⟨d, l ++ [n % 10], by rw [digs_big h, e]; rfl, hd⟩
/-- As bytes. -/
def decB (n : Nat) : List UInt8 := (digs n).map fun d => UInt8.ofNat (48 + d)
theorem decDigits_eq : ∀ n, Lib.decDigits n = decB n := by
  intro n
  induction n using Nat.strongRecOn with
  | _ n ih =>
    unfold decB
    rw [Lib.decDigits]
    by_cases h : n < 10
    · rw [dif_pos h, digs_small h]; rfl
    · rw [dif_neg h, digs_big h, ih (n / 10) (by omega)]
      simp [decB]
theorem decB_len (n : Nat) : (decB n).length = (digs n).length := by simp [decB]
theorem decB_byte {n : Nat} : ∀ b ∈ decB n, 48 ≤ b.toNat ∧ b.toNat ≤ 57 := by
  intro b hb
  simp only [decB, List.mem_map] at hb
  obtain ⟨d, hd, rfl⟩ := hb
  have := digs_le n d hd
  rw [UInt8.toNat_ofNat']
  omega
theorem bytesOf_decB (n : Nat) : bytesOf ⟨(decB n).toArray⟩ = (digs n).map fun (d : Nat) => 48 + (d : Int) := by
  rw [bytesOf_lit, decB, List.map_map]
  apply List.map_congr_left
  intro d hd
  have := digs_le n d hd
  show ((UInt8.ofNat (48 + d)).toNat : Int) = _
  rw [UInt8.toNat_ofNat']
  omega
end Go.Proofs.Mine
