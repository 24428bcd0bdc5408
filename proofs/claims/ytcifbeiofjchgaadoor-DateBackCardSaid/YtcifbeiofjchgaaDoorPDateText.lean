/- A date's text. -/
import Derived.Test.YtcifbeiofjchgaaDoorPDateUnix
import Derived.Test.YtcifbeiofjchgaaDoorX4
import Derived.Test.YtcifbeiofjchgaaDoorX3
namespace Go.Proofs.Mine
open Go.RowKit Go.Proofs.YtcifbeiofjchgaaDoorW.PrintWords Go.Proofs.YtcifbeiofjchgaaDoorW.PrintLast Go.Proofs.YtcifbeiofjchgaaDoor.X
set_option linter.unusedSimpArgs false

def twoB (n : Nat) : ByteArray := ⟨#[UInt8.ofNat (48 + n / 10), UInt8.ofNat (48 + n % 10)]⟩
def fourB (n : Nat) : ByteArray := ⟨#[UInt8.ofNat (48 + n / 1000), UInt8.ofNat (48 + n / 100 % 10), UInt8.ofNat (48 + n / 10 % 10), UInt8.ofNat (48 + n % 10)]⟩
def dayB (n : Nat) : ByteArray := if n < 10 then ⟨#[32, UInt8.ofNat (48 + n)]⟩ else twoB n
def monB (i : Nat) : ByteArray := (⟨#[74, 97, 110, 70, 101, 98, 77, 97, 114, 65, 112, 114, 77, 97, 121, 74, 117, 110, 74, 117, 108, 65, 117, 103, 83, 101, 112, 79, 99, 116, 78, 111, 118, 68, 101, 99]⟩ : ByteArray).extract (3 * i) (3 * i + 3)
theorem twoB_size (n : Nat) : (twoB n).size = 2 := rfl
theorem fourB_size (n : Nat) : (fourB n).size = 4 := rfl
theorem dayB_size (n : Nat) : (dayB n).size = 2 := by unfold dayB; split <;> rfl
theorem monB_size : ∀ i : Fin 12, (monB i.val).size = 3 := by decide +kernel
theorem digits_two : ∀ n : Fin 100, date_digits.f (n.val : Int) 2 = some (twoB n.val) := by decide +kernel
theorem digits_two' (n : Int) (h0 : 0 ≤ n) (h1 : n ≤ 99) : date_digits.f n 2 = some (twoB n.toNat) := by
  have := digits_two ⟨n.toNat, by omega⟩
  rw [show ((n.toNat : Nat) : Int) = n by omega] at this
  exact this
theorem digits_day : ∀ n : Fin 32, date_digits.f (n.val : Int) 1 = some (if n.val < 10 then ⟨#[UInt8.ofNat (48 + n.val)]⟩ else twoB n.val) := by decide +kernel
theorem itoa_four (n : Nat) (h0 : 1000 ≤ n) (h1 : n ≤ 9999) : itoaF (n : Int) = [UInt8.ofNat (48 + n / 1000), UInt8.ofNat (48 + n / 100 % 10), UInt8.ofNat (48 + n / 10 % 10), UInt8.ofNat (48 + n % 10)] := by
  unfold itoaF
  rw [if_neg (by omega), Int.toNat_natCast, decF, if_neg (by omega), decF, if_neg (by omega), decF, if_neg (by omega), decF, if_pos (by omega)]
  simp only [List.cons_append, List.nil_append]
  rw [show n / 10 / 10 / 10 = n / 1000 by omega, show n / 10 / 10 % 10 = n / 100 % 10 by omega]
theorem repeat_none : strings_Repeat.f (⟨#[48]⟩ : ByteArray) 0 = some ⟨#[]⟩ := by decide +kernel
theorem digits_four (n : Int) (h0 : 1000 ≤ n) (h1 : n ≤ 9999) : date_digits.f n 4 = some (fourB n.toNat) := by
  obtain ⟨m, rfl⟩ : ∃ m : Nat, n = m := ⟨n.toNat, by omega⟩
  have hi : strconv_Itoa_44.f (m : Int) = some (fourB m) := by
    unfold strconv_Itoa_44.f strconv_Itoa_56.f
    rw [decide_eq_true (by omega), decide_eq_true (by omega), Bool.and_true, if_pos rfl, Option.bind_some, itoa_four m (by omega) (by omega)]
    rfl
  unfold date_digits.f
  rw [hi, Option.bind_some, fourB_size, show mx (wrap64 (4 - ((4 : Nat) : Int))) 0 = 0 by decide +kernel, repeat_none, Option.bind_some, Int.toNat_natCast, if_pos (by decide)]
  congr 1
/-- What Show writes. -/
def zoneB (z : Int) : ByteArray := ((if z < 0 then (⟨#[32, 45]⟩ : ByteArray) else ⟨#[32, 43]⟩) ++ twoB (z.natAbs / 60)) ++ twoB (z.natAbs % 60)
def showB (y : Int) (i : Nat) (d h mi s z : Int) : ByteArray :=
  (((((dayB d.toNat) ++ ((((⟨#[45]⟩ : ByteArray) ++ monB i) ++ (⟨#[45]⟩ : ByteArray)) ++ fourB y.toNat)) ++ ((((((⟨#[32]⟩ : ByteArray) ++ twoB h.toNat) ++ (⟨#[58]⟩ : ByteArray)) ++ twoB mi.toNat) ++ (⟨#[58]⟩ : ByteArray)) ++ twoB s.toNat)) ++ (if z < 0 then (⟨#[32, 45]⟩ : ByteArray) else ⟨#[32, 43]⟩)) ++ twoB (z.natAbs / 60)) ++ twoB (z.natAbs % 60)
theorem show_j0 {N y d h mi s : Int} (i : Fin 12) (H : IsDate N y ((i.val : Int) + 1) d h mi s) (z : Int) (hz : -1439 ≤ z) (hz1 : z ≤ 1439) (k : Nat) : date_Show.j0 (k + 1) (dayB d.toNat) y ((i.val : Int) + 1) d h mi s z = some (showB y i.val d h mi s z) := by
  obtain ⟨y0, y1, _, rfl, rfl, rfl⟩ := H
  obtain ⟨r, hr⟩ : ∃ r, N % 86400 = r := ⟨_, rfl⟩
  have r0 : 0 ≤ r := by omega
  have r1 : r < 86400 := by omega
  rw [hr]
  clear hr
  have hi := i.isLt
  have e1 : wrap64 ((i.val : Int) + 1 - 1) = i.val := by rw [show (i.val : Int) + 1 - 1 = i.val by omega]; exact wid (by omega) (by omega)
  have e2 : wrap64 ((i.val : Int) * 3) = ((3 * i.val : Nat) : Int) := by rw [wid (by omega) (by omega)]; omega
  have e3 : wrap64 (((i.val : Int) + 1) * 3) = ((3 * i.val + 3 : Nat) : Int) := by rw [wid (by omega) (by omega)]; omega
  have hp : ((⟨#[74, 97, 110, 70, 101, 98, 77, 97, 114, 65, 112, 114, 77, 97, 121, 74, 117, 110, 74, 117, 108, 65, 117, 103, 83, 101, 112, 79, 99, 116, 78, 111, 118, 68, 101, 99]⟩ : ByteArray).extract (((3 * i.val : Nat) : Int)).toNat (((3 * i.val + 3 : Nat) : Int)).toNat) = monB i.val := by rw [Int.toNat_natCast, Int.toNat_natCast]; rfl
  have hm := monB_size i
  have h2 := digits_two' (r / 3600) (by omega) (by omega)
  have h3 := digits_two' (r % 3600 / 60) (by omega) (by omega)
  have h4 := digits_two' (r % 60) (by omega) (by omega)
  have h1 := digits_four y (by omega) (by omega)
  have a1 : 0 ≤ ((3 * i.val : Nat) : Int) := by omega
  have a2 : ((3 * i.val : Nat) : Int) ≤ ((3 * i.val + 3 : Nat) : Int) := by omega
  have a3 : ((3 * i.val + 3 : Nat) : Int) ≤ 36 := by omega
  rw [date_Show.j0, e1, e2, e3, if_pos a1, if_pos a2, if_pos a3, hp, hm, if_pos (by decide), if_pos (by decide), h1, Option.bind_some, fourB_size, dayB_size, if_pos (by decide), if_pos (by decide), h2, Option.bind_some, twoB_size, if_pos (by decide), if_pos (by decide), h3, Option.bind_some, twoB_size, if_pos (by decide), if_pos (by decide), h4, Option.bind_some, twoB_size, if_pos (by decide), if_pos (by decide)]
  unfold showB
  by_cases hz0 : z < 0
  · have z1 := digits_two' ((z.natAbs / 60 : Nat) : Int) (by omega) (by omega)
    have z2 := digits_two' ((z.natAbs % 60 : Nat) : Int) (by omega) (by omega)
    have w1 : wrap64 (-z) = ((z.natAbs : Nat) : Int) := by rw [wid (by omega) (by omega)]; omega
    have w2 : wrap64 (Int.tdiv ((z.natAbs : Nat) : Int) 60) = ((z.natAbs / 60 : Nat) : Int) := by rw [tdiv_pos (by omega), wid (by omega) (by omega)]; omega
    have w3 : Int.tmod ((z.natAbs : Nat) : Int) 60 = ((z.natAbs % 60 : Nat) : Int) := by rw [tmod_pos (by omega)]; omega
    rw [if_pos hz0, if_pos (by decide), w1, w2, w3, z1, Option.bind_some, twoB_size, if_pos (by decide), z2, Option.bind_some, twoB_size, if_pos (by decide), if_pos hz0]
    rfl
  · have z1 := digits_two' ((z.natAbs / 60 : Nat) : Int) (by omega) (by omega)
    have z2 := digits_two' ((z.natAbs % 60 : Nat) : Int) (by omega) (by omega)
    have w2 : wrap64 (Int.tdiv z 60) = ((z.natAbs / 60 : Nat) : Int) := by rw [tdiv_pos (by omega), wid (by omega) (by omega)]; omega
    have w3 : Int.tmod z 60 = ((z.natAbs % 60 : Nat) : Int) := by rw [tmod_pos (by omega)]; omega
    rw [if_neg hz0, if_pos (by decide), w2, w3, z1, Option.bind_some, twoB_size, if_pos (by decide), z2, Option.bind_some, twoB_size, if_pos (by decide), if_neg hz0]
    rfl
theorem show_ev {N y d h mi s : Int} (i : Fin 12) (H : IsDate N y ((i.val : Int) + 1) d h mi s) (z : Int) (hz : -1439 ≤ z) (hz1 : z ≤ 1439) : Ev (fun k => date_Show.f k y ((i.val : Int) + 1) d h mi s z) (showB y i.val d h mi s z) := by
  have hg := good_ev H z hz hz1
  have hj := show_j0 i H z hz hz1
  have hd : 1 ≤ d ∧ d ≤ 31 := by
    obtain ⟨j, _, _, d0, d1⟩ := H.mon
    have := len_pos (leapB y) j
    omega
  obtain ⟨n, hn⟩ : ∃ n : Nat, d = n := ⟨d.toNat, by omega⟩
  have hdig := digits_day ⟨n, by omega⟩
  refine Ev.congr (fun k => by unfold date_Show.f; rfl) (Ev.bind hg ?_)
  rw [hn] at hj ⊢
  rw [Int.toNat_natCast] at hj
  unfold dayB at hj
  simp only at hdig
  by_cases h10 : n < 10
  · rw [if_pos h10] at hj hdig
    refine Ev.congr (f := fun k => date_Show.j0 k ⟨#[32, UInt8.ofNat (48 + n)]⟩ y ((i.val : Int) + 1) (n : Int) h mi s z) (fun k => ?_) (Ev.after hj)
    rw [if_pos rfl, hdig, Option.bind_some, if_pos (by show ((1 : Nat) : Int) < 2; decide), if_pos (by show 1 + 1 ≤ _; decide)]
    rfl
  · rw [if_neg h10] at hj hdig
    refine Ev.congr (f := fun k => date_Show.j0 k (twoB n) y ((i.val : Int) + 1) (n : Int) h mi s z) (fun k => ?_) (Ev.after hj)
    rw [if_pos rfl, hdig, Option.bind_some, twoB_size, if_neg (by decide)]
end Go.Proofs.Mine
