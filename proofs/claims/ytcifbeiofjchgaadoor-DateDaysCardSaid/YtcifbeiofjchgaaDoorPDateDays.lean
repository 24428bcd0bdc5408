/- DateDays, as a plain law. -/
import Derived.Test.YtcifbeiofjchgaaDoorPDateParse
import Derived.Test.YtcifbeiofjchgaaDoorPDateOf
import Derived.Test.YtcifbeiofjchgaaDoorPAwake10
import Derived.Test.YtcifbeiofjchgaaDoorX5
import Derived.Test.YtcifbeiofjchgaaDoorX6
import Derived.Test.YtcifbeiofjchgaaDoorX8
namespace Go.Proofs.YtcifbeiofjchgaaDoor.Pure
open Go.RowKit Go.Proofs.YtcifbeiofjchgaaDoorW.PrintWords Go.Proofs.YtcifbeiofjchgaaDoorW.PrintLast Go.Proofs.YtcifbeiofjchgaaDoor.X Go.Proofs.Mine

theorem index_one (c : UInt8) : ∀ (pre rest : List UInt8), c ∉ pre → Lib.index (pre ++ c :: rest) [c] = (pre.length : Int)
  | [], rest, _ => by
    show Lib.index (c :: rest) [c] = _
    unfold Lib.index
    rw [if_pos (by simp [List.isPrefixOf])]
    rfl
  | b :: pre, rest, h => by
    have hb : b ≠ c := fun e => h (by simp [e])
    have ih := index_one c pre rest (fun hm => h (by simp [hm]))
    show Lib.index (b :: (pre ++ c :: rest)) [c] = _
    unfold Lib.index
    rw [if_neg (by first | (simp [List.isPrefixOf, Ne.symm hb]; done) | (simp [List.isPrefixOf]; exact fun e => hb e.symm)), ih, if_neg (by first | (simp; done) | (simp; omega)), List.length_cons]
    omega
theorem cut_one (c : UInt8) (pre rest : List UInt8) (h : c ∉ pre) : Lib.cut (pre ++ c :: rest) [c] = (pre, rest, true) := by
  unfold Lib.cut
  rw [index_one c pre rest h]
  simp
theorem cut_ev (c : UInt8) (pre rest : List UInt8) (h : c ∉ pre) (hl : pre.length + rest.length < 100) : strings_Cut.f ⟨(pre ++ c :: rest).toArray⟩ (⟨#[c]⟩ : ByteArray) = some (⟨pre.toArray⟩, ⟨rest.toArray⟩, true) := by
  unfold strings_Cut.f
  rw [if_pos]
  · have e1 : (⟨(pre ++ c :: rest).toArray⟩ : ByteArray).data.toList = pre ++ c :: rest := rfl
    have e2 : (⟨#[c]⟩ : ByteArray).data.toList = [c] := rfl
    rw [e1, e2, cut_one c pre rest h]
  · rw [size_lit]
    simp
    omega
theorem digit_not_minus {n : Nat} (h : n ≤ 9) : UInt8.ofNat (48 + n) ≠ 45 := by
  intro e
  have := congrArg UInt8.toNat e
  rw [UInt8.toNat_ofNat'] at this
  simp at this
  omega
def dayW (n : Nat) : List UInt8 := if n < 10 then [UInt8.ofNat (48 + n)] else twoL n
theorem dayW_plain (n : Nat) (h : n ≤ 31) : (45 : UInt8) ∉ dayW n := by
  unfold dayW
  split
  · have a := digit_not_minus (n := n) (by omega)
    intro h
    rcases List.mem_cons.1 h with e | e
    · exact a e.symm
    · cases e
  · have a := digit_not_minus (n := n / 10) (by omega)
    have b := digit_not_minus (n := n % 10) (by omega)
    unfold twoL
    intro h
    rcases List.mem_cons.1 h with e | h
    · exact a e.symm
    rcases List.mem_cons.1 h with e | e
    · exact b e.symm
    · cases e
theorem dayW_len (n : Nat) : (dayW n).length ≤ 2 := by unfold dayW twoL; split <;> simp
def monL (i : Nat) : List UInt8 := [monC i 0, monC i 1, monC i 2]
theorem monL_plain : ∀ i : Fin 12, (45 : UInt8) ∉ monL i.val := by decide +kernel
/-- A date's day, as IMAP writes it. -/
def wordL (y i d : Nat) : List UInt8 := dayW d ++ 45 :: (monL i ++ 45 :: fourL y)
theorem word_ev {N y d h mi s : Int} (i : Fin 12) (H : IsDate N y ((i.val : Int) + 1) d h mi s) : Ev (fun k => frankinglaw10_word.f k y ((i.val : Int) + 1) d h mi s 0) ⟨(wordL y.toNat i.val d.toNat).toArray⟩ := by
  have hsh := show_ev i H 0 (by omega) (by omega)
  obtain ⟨j, hj, _, d0, d1⟩ := H.mon
  have hd31 := (len_pos (leapB y) j).2
  have e := showB_eq y i d h mi s 0
  obtain ⟨n, hn⟩ : ∃ n : Nat, d.toNat = n := ⟨_, rfl⟩
  have hn1 : 1 ≤ n ∧ n ≤ 31 := by omega
  rw [hn] at e ⊢
  rw [e] at hsh
  clear e hn
  refine Ev.congr (fun k => by unfold frankinglaw10_word.f; rfl) (Ev.bind hsh (Ev.pure fun k => ?_))
  rw [size_lit, if_neg (by show ¬ ((26 : Nat) : Int) < 11; decide), if_pos (by show (0 : Int) < ((26 : Nat) : Int); decide)]
  have hb : bt (⟨(showL y.toNat i.val n h.toNat mi.toNat s.toNat 0).toArray⟩ : ByteArray) 0 = ((dayL0 n).toNat : Int) := bt_lit _ 0
  rw [hb]
  unfold wordL dayW
  by_cases h10 : n < 10
  · have : dayL0 n = 32 := by unfold dayL0; rw [if_pos h10]
    have h1 : dayL1 n = UInt8.ofNat (48 + n) := by unfold dayL1; rw [if_pos h10]
    rw [this, if_pos (by decide), if_pos (by decide), if_pos (by show (11 : Int) ≤ ((26 : Nat) : Int); decide), ext_lit, if_pos h10, ← h1]
    rfl
  · have h0 : dayL0 n = UInt8.ofNat (48 + n / 10) := by unfold dayL0; rw [if_neg h10]
    have h1 : dayL1 n = UInt8.ofNat (48 + n % 10) := by unfold dayL1; rw [if_neg h10]
    have hne : ¬ ((dayL0 n).toNat : Int) = 32 := by rw [h0, ofNat_digit (by omega)]; omega
    rw [if_neg hne, if_pos (by decide), if_pos (by show (11 : Int) ≤ ((26 : Nat) : Int); decide), ext_lit, if_neg h10]
    unfold twoL
    rw [← h0, ← h1]
    rfl
theorem month_name_any : ∀ i : Fin 12, date_month.f 13 ⟨(monL i.val).toArray⟩ true = some ((i.val : Int) + 1) := by decide +kernel
theorem number_dayW (n : Nat) (h1 : n ≤ 31) : Ev (fun k => date_number.f k ⟨(dayW n).toArray⟩) (n : Int) := by
  unfold dayW
  by_cases h10 : n < 10
  · rw [if_pos h10]; exact number_one n (by omega)
  · rw [if_neg h10]; exact number_two n (by omega)
/-- A day alone is a date, too. -/
theorem day_ev {N y d h mi s : Int} (i : Fin 12) (H : IsDate N y ((i.val : Int) + 1) d h mi s) : Ev (fun k => date_Day.f k ⟨(wordL y.toNat i.val d.toNat).toArray⟩) (N / 86400, 0) := by
  have H0 : IsDate (N / 86400 * 86400) y ((i.val : Int) + 1) d 0 0 0 := by
    obtain ⟨y0, y1, ⟨j, hj, e, d0, d1⟩, _, _, _⟩ := H
    exact ⟨y0, y1, ⟨j, hj, by rw [e]; omega, d0, d1⟩, by omega, by omega, by omega⟩
  have hg := good_ev H0 0 (by omega) (by omega)
  obtain ⟨y0, y1, ⟨j, hj, e, d0, d1⟩, _, _, _⟩ := H
  obtain rfl : j = i := Fin.ext (by omega)
  have hd31 := (len_pos (leapB y) j).2
  have hd31 : d ≤ 31 := by omega
  have hdays := Ev.eq (days_ev y y0 y1 j d d0 (by omega)) e
  clear e d1 H0
  obtain ⟨yy, rfl⟩ : ∃ n : Nat, y = n := ⟨y.toNat, by omega⟩
  obtain ⟨dd, rfl⟩ : ∃ n : Nat, d = n := ⟨d.toNat, by omega⟩
  rw [Int.toNat_natCast, Int.toNat_natCast]
  have b4 : dd ≤ 31 := by omega
  have c1 := cut_ev 45 (dayW dd) (monL j.val ++ 45 :: fourL yy) (dayW_plain dd b4) (by have := dayW_len dd; simp [monL, fourL]; omega)
  have c2 := cut_ev 45 (monL j.val) (fourL yy) (monL_plain j) (by simp [monL, fourL])
  have hl : ¬ ((⟨(dayW dd).toArray⟩ : ByteArray).size : Int) > 2 := by rw [size_lit]; have := dayW_len dd; omega
  have hl4 : (((⟨(fourL yy).toArray⟩ : ByteArray).size : Int) != 4) = false := by rw [size_lit]; rfl
  refine Ev.congr (f := fun k => date_Day.j0 k ⟨(dayW dd).toArray⟩ ⟨(monL j.val).toArray⟩ ⟨(fourL yy).toArray⟩ false) (fun k => ?_) ?_
  · unfold date_Day.f wordL
    rw [c1, Option.bind_some, c2, Option.bind_some, if_pos rfl, if_pos rfl, if_neg hl, hl4]
  · have n0 : Ev (fun k => date_number.f k ⟨(fourL yy).toArray⟩) (yy : Int) := number_four yy (by omega)
    have n1 : Ev (fun k => date_month.f k ⟨(monL j.val).toArray⟩ true) ((j.val : Int) + 1) := Ev.of (date_month.mono _ _) (month_name_any j)
    refine Ev.step (fun k => by rw [date_Day.j0, if_neg (by decide)]) (Ev.bind n0 (Ev.bind n1 (Ev.bind (number_dayW dd b4) (Ev.bind hg ?_))))
    exact Ev.congr (fun k => by rw [if_pos rfl]) (Ev.bind hdays (Ev.pure fun k => rfl))
theorem DateDays : frankinglaw10_DateDays.Pure := by
  intro a _
  refine Ev.rounds (g := fun k => frankinglaw10_DateDays.f k a) ?_
  refine Ev.congr (fun k => by unfold frankinglaw10_DateDays.f; rfl) (Ev.bind awake_ev ?_)
  have yes : Ev (fun k => frankinglaw10_DateDays.j0 k a true) true := Ev.after fun k => by rw [frankinglaw10_DateDays.j0, if_pos rfl]
  by_cases h0 : a < 0
  · exact Ev.congr (fun k => by rw [if_pos rfl, if_pos h0]) yes
  by_cases h1 : a > 2000000
  · exact Ev.congr (fun k => by rw [if_pos rfl, if_neg h0, decide_eq_true h1]) yes
  refine Ev.congr (f := fun k => frankinglaw10_DateDays.j0 k a false) (fun k => by rw [if_pos rfl, if_neg h0, decide_eq_false h1]) ?_
  obtain ⟨y, m, d, h, mi, s, e1, H⟩ := of_ok (a * 86400) 0 (by omega) (by omega) (by omega) (by omega) (by omega) (by omega)
  obtain ⟨y', m', d', h', mi', s', e2, K⟩ := of_ok ((a + 1) * 86400) 0 (by omega) (by omega) (by omega) (by omega) (by omega) (by omega)
  obtain ⟨i, rfl, _⟩ := H.mon
  obtain ⟨i', rfl, _⟩ := K.mon
  have w1 : wrap64 (a * 86400) = a * 86400 := wid (by omega) (by omega)
  have w2 : wrap64 (a + 1) = a + 1 := wid (by omega) (by omega)
  have w3 : wrap64 ((a + 1) * 86400) = (a + 1) * 86400 := wid (by omega) (by omega)
  have g1 := Ev.eq (day_ev i H) (show ((a * 86400 + 0 * 60) / 86400, (0 : Int)) = (a, 0) by congr 1; omega)
  have g2 := Ev.eq (day_ev i' K) (show (((a + 1) * 86400 + 0 * 60) / 86400, (0 : Int)) = (a + 1, 0) by congr 1; omega)
  refine Ev.step (fun k => by rw [frankinglaw10_DateDays.j0, if_neg (by decide), w1, w2, w3]) (Ev.bind e1 (Ev.bind e2 ?_))
  refine Ev.congr (f := fun k => frankinglaw10_DateDays.j1 k a false y ((i.val : Int) + 1) d h mi s 0 y' ((i'.val : Int) + 1) d' h' mi' s' 0) (fun k => by rw [if_pos rfl]; rfl) ?_
  refine Ev.step (fun k => by rw [frankinglaw10_DateDays.j1, if_neg (by decide)]) (Ev.bind (word_ev i H) (Ev.bind g1 (Ev.bind (word_ev i' K) (Ev.bind g2 (Ev.pure fun k => ?_)))))
  rw [if_pos rfl, if_pos rfl, if_pos rfl, w2]
  simp
end Go.Proofs.YtcifbeiofjchgaaDoor.Pure
