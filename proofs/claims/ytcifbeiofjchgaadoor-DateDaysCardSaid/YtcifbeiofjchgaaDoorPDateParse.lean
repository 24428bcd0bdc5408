/- Parse of a date's text is that date. -/
import Derived.Test.YtcifbeiofjchgaaDoorPDateNum
import Derived.Test.YtcifbeiofjchgaaDoorX7
import Derived.Test.YtcifbeiofjchgaaDoorX5
import Derived.Test.YtcifbeiofjchgaaDoorX6
namespace Go.Proofs.Mine
open Go.RowKit Go.Proofs.YtcifbeiofjchgaaDoorW.PrintWords Go.Proofs.YtcifbeiofjchgaaDoorW.PrintLast Go.Proofs.YtcifbeiofjchgaaDoor.X
set_option linter.unusedSimpArgs false

def twoL (n : Nat) : List UInt8 := [UInt8.ofNat (48 + n / 10), UInt8.ofNat (48 + n % 10)]
def fourL (n : Nat) : List UInt8 := [UInt8.ofNat (48 + n / 1000), UInt8.ofNat (48 + n / 100 % 10), UInt8.ofNat (48 + n / 10 % 10), UInt8.ofNat (48 + n % 10)]
def dayL0 (n : Nat) : UInt8 := if n < 10 then 32 else UInt8.ofNat (48 + n / 10)
def dayL1 (n : Nat) : UInt8 := if n < 10 then UInt8.ofNat (48 + n) else UInt8.ofNat (48 + n % 10)
theorem dayB_eq (n : Nat) : dayB n = ⟨#[dayL0 n, dayL1 n]⟩ := by
  unfold dayB dayL0 dayL1
  by_cases h : n < 10
  · rw [if_pos h, if_pos h, if_pos h]
  · rw [if_neg h, if_neg h, if_neg h]
    rfl
def monC (i j : Nat) : UInt8 := ([74, 97, 110, 70, 101, 98, 77, 97, 114, 65, 112, 114, 77, 97, 121, 74, 117, 110, 74, 117, 108, 65, 117, 103, 83, 101, 112, 79, 99, 116, 78, 111, 118, 68, 101, 99] : List UInt8).getD (3 * i + j) 0
theorem monB_eq : ∀ i : Fin 12, monB i.val = ⟨#[monC i.val 0, monC i.val 1, monC i.val 2]⟩ := by decide +kernel
def signC (z : Int) : UInt8 := if z < 0 then 45 else 43
theorem cat_lit (a b : Array UInt8) : (⟨a⟩ : ByteArray) ++ (⟨b⟩ : ByteArray) = ⟨a ++ b⟩ := by
  apply ByteArray.ext
  simp
/-- A date's text, byte by byte. -/
def showL (y : Nat) (i : Nat) (d h mi s : Nat) (z : Int) : List UInt8 :=
  [dayL0 d, dayL1 d, 45, monC i 0, monC i 1, monC i 2, 45, UInt8.ofNat (48 + y / 1000), UInt8.ofNat (48 + y / 100 % 10), UInt8.ofNat (48 + y / 10 % 10), UInt8.ofNat (48 + y % 10), 32,
   UInt8.ofNat (48 + h / 10), UInt8.ofNat (48 + h % 10), 58, UInt8.ofNat (48 + mi / 10), UInt8.ofNat (48 + mi % 10), 58, UInt8.ofNat (48 + s / 10), UInt8.ofNat (48 + s % 10), 32, signC z,
   UInt8.ofNat (48 + z.natAbs / 60 / 10), UInt8.ofNat (48 + z.natAbs / 60 % 10), UInt8.ofNat (48 + z.natAbs % 60 / 10), UInt8.ofNat (48 + z.natAbs % 60 % 10)]
theorem sign_eq (z : Int) : (if z < 0 then (⟨#[32, 45]⟩ : ByteArray) else ⟨#[32, 43]⟩) = ⟨#[32, signC z]⟩ := by
  unfold signC
  by_cases h : z < 0
  · rw [if_pos h, if_pos h]
  · rw [if_neg h, if_neg h]
theorem showB_eq (y : Int) (i : Fin 12) (d h mi s z : Int) : showB y i.val d h mi s z = ⟨(showL y.toNat i.val d.toNat h.toNat mi.toNat s.toNat z).toArray⟩ := by
  unfold showB
  rw [dayB_eq, monB_eq, sign_eq]
  unfold twoB fourB
  simp only [cat_lit]
  apply ByteArray.ext
  show _ = (showL y.toNat i.val d.toNat h.toNat mi.toNat s.toNat z).toArray
  apply Array.toList_inj.1
  simp only [Array.toList_append]
  rfl
theorem ext_lit (l : List UInt8) (i j : Nat) : (⟨l.toArray⟩ : ByteArray).extract i j = ⟨((l.drop i).take (j - i)).toArray⟩ := by
  apply ByteArray.ext
  simp [ByteArray.data_extract]
theorem month_name : ∀ i : Fin 12, date_month.f 13 ⟨#[monC i.val 0, monC i.val 1, monC i.val 2]⟩ false = some ((i.val : Int) + 1) := by decide +kernel
theorem trim_day : ∀ n : Fin 32, 1 ≤ n.val → strings_TrimPrefix.f ⟨#[dayL0 n.val, dayL1 n.val]⟩ (⟨#[32]⟩ : ByteArray) = some (if n.val < 10 then ⟨#[UInt8.ofNat (48 + n.val)]⟩ else twoB n.val) := by decide +kernel
theorem bt_lit (l : List UInt8) (i : Nat) : bt (⟨l.toArray⟩ : ByteArray) (i : Int) = ((l.getD i 0).toNat : Int) := by
  rw [← rd_bytesOf, bytesOf_lit]
  unfold rd
  rw [Int.toNat_natCast, List.getD_eq_getElem?_getD, List.getD_eq_getElem?_getD, List.getElem?_map]
  cases l[i]? <;> rfl
theorem size_lit (l : List UInt8) : (⟨l.toArray⟩ : ByteArray).size = l.length := by simp [ByteArray.size]
theorem parse_ev {N y d h mi s : Int} (i : Fin 12) (H : IsDate N y ((i.val : Int) + 1) d h mi s) (z : Int) (hz : -1439 ≤ z) (hz1 : z ≤ 1439) : Ev (fun k => date_Parse.f k (showB y i.val d h mi s z)) (y, (i.val : Int) + 1, d, h, mi, s, z, 0) := by
  have hsh := show_ev i H z hz hz1
  obtain ⟨y0, y1, ⟨j, hj, _, d0, d1⟩, rfl, rfl, rfl⟩ := H
  have hd31 := (len_pos (leapB y) j).2
  obtain ⟨r, hr⟩ : ∃ r, N % 86400 = r := ⟨_, rfl⟩
  have r0 : 0 ≤ r := by omega
  have r1 : r < 86400 := by omega
  rw [hr] at hsh ⊢
  clear hr hj
  obtain ⟨hh, ehh⟩ : ∃ n : Nat, r / 3600 = n := ⟨(r / 3600).toNat, by omega⟩
  obtain ⟨mm, emm⟩ : ∃ n : Nat, r % 3600 / 60 = n := ⟨(r % 3600 / 60).toNat, by omega⟩
  obtain ⟨ss, ess⟩ : ∃ n : Nat, r % 60 = n := ⟨(r % 60).toNat, by omega⟩
  obtain ⟨yy, rfl⟩ : ∃ n : Nat, y = n := ⟨y.toNat, by omega⟩
  obtain ⟨dd, rfl⟩ : ∃ n : Nat, d = n := ⟨d.toNat, by omega⟩
  rw [ehh, emm, ess] at hsh ⊢
  have b1 : hh ≤ 99 := by omega
  have b2 : mm ≤ 99 := by omega
  have b3 : ss ≤ 99 := by omega
  have b4 : dd ≤ 31 := by omega
  have b5 : 1 ≤ dd := by omega
  clear ehh emm ess r0 r1 r d1 hd31
  have e := showB_eq (yy : Int) i (dd : Int) (hh : Int) (mm : Int) (ss : Int) z
  simp only [Int.toNat_natCast] at e
  have hbt : bt (showB (yy : Int) i.val (dd : Int) (hh : Int) (mm : Int) (ss : Int) z) 21 = ((signC z).toNat : Int) := by
    rw [e]
    exact bt_lit _ 21
  have hsz : (showB (yy : Int) i.val (dd : Int) (hh : Int) (mm : Int) (ss : Int) z).size = 26 := by
    rw [e, size_lit]
    rfl
  have x0 : (showB (yy : Int) i.val (dd : Int) (hh : Int) (mm : Int) (ss : Int) z).extract 7 11 = fourB yy := by rw [e, ext_lit]; rfl
  have x1 : (showB (yy : Int) i.val (dd : Int) (hh : Int) (mm : Int) (ss : Int) z).extract 3 6 = ⟨#[monC i.val 0, monC i.val 1, monC i.val 2]⟩ := by rw [e, ext_lit]; rfl
  have x2 : (showB (yy : Int) i.val (dd : Int) (hh : Int) (mm : Int) (ss : Int) z).extract 0 2 = ⟨#[dayL0 dd, dayL1 dd]⟩ := by rw [e, ext_lit]; rfl
  have x3 : (showB (yy : Int) i.val (dd : Int) (hh : Int) (mm : Int) (ss : Int) z).extract 12 14 = twoB hh := by rw [e, ext_lit]; rfl
  have x4 : (showB (yy : Int) i.val (dd : Int) (hh : Int) (mm : Int) (ss : Int) z).extract 15 17 = twoB mm := by rw [e, ext_lit]; rfl
  have x5 : (showB (yy : Int) i.val (dd : Int) (hh : Int) (mm : Int) (ss : Int) z).extract 18 20 = twoB ss := by rw [e, ext_lit]; rfl
  have x6 : (showB (yy : Int) i.val (dd : Int) (hh : Int) (mm : Int) (ss : Int) z).extract 22 24 = twoB (z.natAbs / 60) := by rw [e, ext_lit]; rfl
  have x7 : (showB (yy : Int) i.val (dd : Int) (hh : Int) (mm : Int) (ss : Int) z).extract 24 26 = twoB (z.natAbs % 60) := by rw [e, ext_lit]; rfl
  clear e
  generalize hS : showB (yy : Int) i.val (dd : Int) (hh : Int) (mm : Int) (ss : Int) z = S at *
  have n0 := number_four yy (by omega)
  have n1 : Ev (fun k => date_month.f k ⟨#[monC i.val 0, monC i.val 1, monC i.val 2]⟩ false) ((i.val : Int) + 1) := Ev.of (date_month.mono _ _) (month_name i)
  have n2 := trim_day ⟨dd, by omega⟩ b5
  have n3 : Ev (fun k => date_number.f k (if dd < 10 then ⟨#[UInt8.ofNat (48 + dd)]⟩ else twoB dd)) (dd : Int) := by
    by_cases h10 : dd < 10
    · rw [if_pos h10]; exact number_one dd (by omega)
    · rw [if_neg h10]; exact number_two dd (by omega)
  have n4 := number_two hh b1
  have n5 := number_two mm b2
  have n6 := number_two ss b3
  have n7 := number_two (z.natAbs / 60) (by omega)
  have n8 := number_two (z.natAbs % 60) (by omega)
  refine Ev.congr (fun k => by unfold date_Parse.f; rw [hsz, if_pos (by decide), if_pos (by decide), if_pos (by decide), x0]) (Ev.bind n0 ?_)
  refine Ev.congr (fun k => by rw [if_pos (by decide), if_pos (by decide), x1]) (Ev.bind n1 ?_)
  refine Ev.congr (fun k => by rw [if_pos (by decide), if_pos (by decide), x2, n2, Option.bind_some]) (Ev.bind n3 ?_)
  refine Ev.congr (fun k => by rw [if_pos (by decide), if_pos (by decide), x3]) (Ev.bind n4 ?_)
  refine Ev.congr (fun k => by rw [if_pos (by decide), if_pos (by decide), x4]) (Ev.bind n5 ?_)
  refine Ev.congr (fun k => by rw [if_pos (by decide), if_pos (by decide), x5]) (Ev.bind n6 ?_)
  refine Ev.congr (fun k => by rw [if_pos (by decide), if_pos (by decide), x6]) (Ev.bind n7 ?_)
  refine Ev.congr (fun k => by rw [if_pos (by decide), if_pos (by decide), x7]) (Ev.bind n8 ?_)
  refine Ev.congr (f := fun k => date_Parse.j0 k S ((z.natAbs / 60 : Nat) : Int) ((z.natAbs % 60 : Nat) : Int) false (yy : Int) ((i.val : Int) + 1) (dd : Int) (hh : Int) (mm : Int) (ss : Int) 0) (fun k => by rw [if_neg (by omega), decide_eq_false (by omega)]) ?_
  have w1 : wrap64 (wrap64 (((z.natAbs / 60 : Nat) : Int) * 60) + ((z.natAbs % 60 : Nat) : Int)) = (z.natAbs : Int) := by
    rw [wid (n := ((z.natAbs / 60 : Nat) : Int) * 60) (by omega) (by omega), wid (by omega) (by omega)]
    omega
  by_cases hz0 : z < 0
  · have hs : signC z = 45 := by unfold signC; rw [if_pos hz0]
    have w2 : wrap64 (-(z.natAbs : Int)) = z := by rw [wid (by omega) (by omega)]; omega
    refine Ev.step (fun k => by rw [date_Parse.j0, if_neg (by decide), hsz, if_pos (by decide), hbt, hs, if_pos (by decide), w1, w2]) (Ev.bind hsh (Ev.pure fun k => ?_))
    rw [if_pos rfl]
  · have hs : signC z = 43 := by unfold signC; rw [if_neg hz0]
    have w2 : (z.natAbs : Int) = z := by omega
    refine Ev.step (fun k => by rw [date_Parse.j0, if_neg (by decide), hsz, if_pos (by decide), hbt, hs, if_neg (by decide), w1, w2]) (Ev.bind hsh (Ev.pure fun k => ?_))
    rw [if_pos rfl]
end Go.Proofs.Mine
