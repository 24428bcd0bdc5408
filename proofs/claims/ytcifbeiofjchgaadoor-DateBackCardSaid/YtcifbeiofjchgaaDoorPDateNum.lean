/- A number's digits, read. -/
import Derived.Test.YtcifbeiofjchgaaDoorPDateText
import Derived.Test.YtcifbeiofjchgaaDoorX5
namespace Go.Proofs.Mine
open Go.RowKit Go.Proofs.YtcifbeiofjchgaaDoorW.PrintWords Go.Proofs.YtcifbeiofjchgaaDoorW.PrintLast Go.Proofs.YtcifbeiofjchgaaDoor.X
set_option linter.unusedSimpArgs false

/-- What digits tell. -/
def numOf (ds : List Nat) (acc : Nat) : Nat := ds.foldl (fun a d => a * 10 + d) acc
theorem number_loop (s : ByteArray) (hs : s.size ≤ 1000) (hne : s.toList ≠ []) : ∀ (ds : List Nat) (pre : List Int) (acc : Nat), bytesOf s = pre ++ ds.map (fun (d : Nat) => 48 + (d : Int)) → (∀ d ∈ ds, d ≤ 9) → (acc + 1) * 10 ^ ds.length ≤ 1000000000000 →
    Ev (fun k => date_number.l0 k s (acc : Int) (s.size : Int) (pre.length : Int)) ((numOf ds acc : Nat) : Int) := by
  intro ds
  induction ds with
  | nil =>
    intro pre acc h _ _
    have hl : s.size = pre.length := by rw [size_of h]; simp
    refine Ev.after fun k => ?_
    rw [date_number.l0, if_neg (by omega), if_neg hne]
    rfl
  | cons d ds ih =>
    intro pre acc h hd hb
    have hl : s.size = pre.length + (ds.length + 1) := by rw [size_of h]; simp
    have hd0 := hd d (by simp)
    have hbt : bt s (pre.length : Int) = 48 + (d : Int) := bt_of h
    have hpow : 1 ≤ 10 ^ ds.length := Nat.pow_pos (by omega)
    have hacc : (acc + 1) * 10 ≤ 1000000000000 := by
      refine Nat.le_trans ?_ hb
      rw [List.length_cons, Nat.pow_succ]
      exact Nat.mul_le_mul_left _ (by omega)
    have ih' := ih (pre ++ [48 + (d : Int)]) (acc * 10 + d) (by rw [h]; simp) (fun x hx => hd x (by simp [hx])) (by
      refine Nat.le_trans ?_ hb
      rw [List.length_cons, Nat.pow_succ, Nat.mul_comm (10 ^ ds.length) 10, ← Nat.mul_assoc]
      exact Nat.mul_le_mul_right _ (by omega))
    rw [List.length_append, List.length_singleton] at ih'
    refine Ev.step (fun k => ?_) ih'
    rw [date_number.l0, if_pos (by omega), if_pos (by omega), if_pos (by omega), hbt, if_neg (by omega), if_neg (by omega), wid (n := (acc : Int) * 10) (by omega) (by omega), show ((48 : Int) + d - 48) % 256 = d by omega, wid (n := (acc : Int) * 10 + d) (by omega) (by omega), wrap_nat (by omega)]
    congr 1
theorem number_ev (s : ByteArray) (ds : List Nat) (h : bytesOf s = ds.map (fun (d : Nat) => 48 + (d : Int))) (hd : ∀ d ∈ ds, d ≤ 9) (h1 : 1 ≤ ds.length) (h2 : ds.length ≤ 10) : Ev (fun k => date_number.f k s) ((numOf ds 0 : Nat) : Int) := by
  have hl : s.size = ds.length := by rw [size_of h]; simp
  refine Ev.congr (fun k => by unfold date_number.f; rfl) (number_loop s (by omega) ?_ ds [] 0 (by rw [h]; rfl) hd ?_)
  · intro hn
    rw [toList_nil, h] at hn
    simp at hn
    rw [hn] at h1
    simp at h1
  · have : 10 ^ ds.length ≤ 10 ^ 10 := Nat.pow_le_pow_right (by omega) h2
    omega
theorem ofNat_digit {n : Nat} (h : n ≤ 9) : ((UInt8.ofNat (48 + n)).toNat : Int) = 48 + (n : Int) := by
  rw [UInt8.toNat_ofNat']
  omega
theorem number_two (n : Nat) (h : n ≤ 99) : Ev (fun k => date_number.f k (twoB n)) (n : Int) := by
  refine Ev.eq (number_ev (twoB n) [n / 10, n % 10] ?_ ?_ (by simp) (by simp)) ?_
  · show [((UInt8.ofNat (48 + n / 10)).toNat : Int), ((UInt8.ofNat (48 + n % 10)).toNat : Int)] = _
    rw [ofNat_digit (by omega), ofNat_digit (by omega)]
    rfl
  · intro d hd
    simp at hd
    omega
  · simp [numOf]
    omega
theorem number_one (n : Nat) (h : n ≤ 9) : Ev (fun k => date_number.f k (⟨#[UInt8.ofNat (48 + n)]⟩ : ByteArray)) (n : Int) := by
  refine Ev.eq (number_ev _ [n] ?_ ?_ (by simp) (by simp)) ?_
  · show [((UInt8.ofNat (48 + n)).toNat : Int)] = _
    rw [ofNat_digit (by omega)]
    rfl
  · intro d hd
    simp at hd
    omega
  · simp [numOf]
theorem number_four (n : Nat) (h : n ≤ 9999) : Ev (fun k => date_number.f k (fourB n)) (n : Int) := by
  refine Ev.eq (number_ev (fourB n) [n / 1000, n / 100 % 10, n / 10 % 10, n % 10] ?_ ?_ (by simp) (by simp)) ?_
  · show [((UInt8.ofNat (48 + n / 1000)).toNat : Int), ((UInt8.ofNat (48 + n / 100 % 10)).toNat : Int), ((UInt8.ofNat (48 + n / 10 % 10)).toNat : Int), ((UInt8.ofNat (48 + n % 10)).toNat : Int)] = _
    rw [ofNat_digit (by omega), ofNat_digit (by omega), ofNat_digit (by omega), ofNat_digit (by omega)]
    rfl
  · intro d hd
    simp at hd
    omega
  · simp [numOf]
    omega
end Go.Proofs.Mine
