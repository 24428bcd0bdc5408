/- The calendar, plainly: years, months, and what Of comes to. -/
import Derived.Test.YtcifbeiofjchgaaDoorPLib
import Derived.Test.YtcifbeiofjchgaaDoorX2
namespace Go.Proofs.Mine
open Go.RowKit Go.Proofs.YtcifbeiofjchgaaDoorW.PrintWords Go.Proofs.YtcifbeiofjchgaaDoorW.PrintLast Go.Proofs.YtcifbeiofjchgaaDoor.X
set_option linter.unusedSimpArgs false

/-- Days from the first day of 1970 to the first of year y. -/
def Yr (y : Int) : Int := (y - 1970) * 365 + ((y - 1) / 4 - 492) - ((y - 1) / 100 - 19) + ((y - 1) / 400 - 4)
def leapB (y : Int) : Bool := decide (y % 4 = 0) && (!decide (y % 100 = 0) || decide (y % 400 = 0))
theorem wid {n : Int} (h : -4611686018427387904 ≤ n) (h' : n ≤ 4611686018427387904) : wrap64 n = n := wrap_id h h'
theorem tdiv_pos {a : Int} (h : 0 ≤ a) (b : Int) : Int.tdiv a b = a / b := Int.tdiv_eq_ediv_of_nonneg h
theorem tmod_pos {a : Int} (h : 0 ≤ a) (b : Int) : Int.tmod a b = a % b := Int.tmod_eq_emod_of_nonneg h
theorem years_eq (y : Int) (h1 : 1 ≤ y) (h2 : y ≤ 20000) : date_years.f y = some (Yr y) := by
  unfold date_years.f Yr
  have e1 : wrap64 (y - 1) = y - 1 := wid (by omega) (by omega)
  have e2 : wrap64 (y - 1970) = y - 1970 := wid (by omega) (by omega)
  have q1 : (1969 : Int) / 4 = 492 := by decide
  have q2 : (1969 : Int) / 100 = 19 := by decide
  have q3 : (1969 : Int) / 400 = 4 := by decide
  rw [e1, e2, q1, q2, q3, tdiv_pos (by omega), tdiv_pos (by omega), tdiv_pos (by omega)]
  clear e1 e2 q1 q2 q3
  rw [wid (n := (y - 1970) * 365) (by omega) (by omega), wid (n := (y - 1) / 4) (by omega) (by omega), wid (n := (y - 1) / 100) (by omega) (by omega), wid (n := (y - 1) / 400) (by omega) (by omega)]
  rw [wid (n := (y - 1) / 4 - 492) (by omega) (by omega), wid (n := (y - 1) / 100 - 19) (by omega) (by omega), wid (n := (y - 1) / 400 - 4) (by omega) (by omega)]
  rw [wid (n := (y - 1970) * 365 + ((y - 1) / 4 - 492)) (by omega) (by omega), wid (n := (y - 1970) * 365 + ((y - 1) / 4 - 492) - ((y - 1) / 100 - 19)) (by omega) (by omega), wid (by omega) (by omega)]
theorem leap_eq (y : Int) (h : 0 ≤ y) : date_leap.f y = some (leapB y) := by
  unfold date_leap.f leapB
  rw [tmod_pos h, tmod_pos h, tmod_pos h]
  by_cases h4 : y % 4 = 0
  · rw [if_pos h4, decide_eq_true h4]
    by_cases h100 : y % 100 = 0
    · rw [if_pos h100, decide_eq_true h100]
      congr 1
    · rw [if_neg h100, decide_eq_false h100]
      rfl
  · rw [if_neg h4, decide_eq_false h4]
    rfl
/-- Months' lengths. -/
def mons (b : Bool) : List Int := [31, if b then 29 else 28, 31, 30, 31, 30, 31, 31, 30, 31, 30, 31]
def LenT (b : Bool) (i : Nat) : Int := (mons b).getD i 0
def CumT (b : Bool) (i : Nat) : Int := ((mons b).take i).sum
theorem cum_step : ∀ (b : Bool) (i : Fin 12), CumT b (i.val + 1) = CumT b i.val + LenT b i.val := by decide
theorem cum_mono : ∀ (b : Bool) (i j : Fin 12), i.val < j.val → CumT b i.val + LenT b i.val ≤ CumT b j.val := by decide
theorem cum_end : ∀ (b : Bool) (i : Fin 12), CumT b i.val + LenT b i.val ≤ 365 + (if b then 1 else 0) := by decide
theorem cum_12 : ∀ b : Bool, CumT b 12 = 365 + (if b then 1 else 0) := by decide
theorem cum_nonneg : ∀ (b : Bool) (i : Fin 12), 0 ≤ CumT b i.val ∧ CumT b i.val ≤ 400 := by decide
theorem len_pos : ∀ (b : Bool) (i : Fin 12), 28 ≤ LenT b i.val ∧ LenT b i.val ≤ 31 := by decide
theorem yr_step (y : Int) (_h : 0 ≤ y) : Yr (y + 1) = Yr y + 365 + (if leapB y then 1 else 0) := by
  unfold Yr leapB
  by_cases h4 : y % 4 = 0
  · by_cases h100 : y % 100 = 0
    · by_cases h400 : y % 400 = 0
      · rw [decide_eq_true h4, decide_eq_true h100, decide_eq_true h400]
        simp
        omega
      · rw [decide_eq_true h4, decide_eq_true h100, decide_eq_false h400]
        simp
        omega
    · rw [decide_eq_true h4, decide_eq_false h100]
      simp
      omega
  · rw [decide_eq_false h4]
    simp
    omega
theorem yr_mono (y : Int) (h : 0 ≤ y) : ∀ n : Nat, Yr y ≤ Yr (y + n) := by
  intro n
  induction n with
  | zero => simp
  | succ n ih =>
    have := yr_step (y + n) (by omega)
    rw [show y + ((n + 1 : Nat) : Int) = y + n + 1 by omega]
    split at this <;> omega
theorem yr_le {y z : Int} (h : 0 ≤ y) (hz : y ≤ z) : Yr y ≤ Yr z := by
  have := yr_mono y h (z - y).toNat
  rw [show y + ((z - y).toNat : Int) = z by omega] at this
  exact this
theorem length_eq (y : Int) (hy : 0 ≤ y) (i : Fin 12) : date_length.f y ((i.val : Int) + 1) = some (LenT (leapB y) i.val) := by
  unfold date_length.f
  rw [Option.bind_some, leap_eq y hy]
  have hw : wrap64 ((i.val : Int) + 1 - 1) = i.val := by rw [show ((i.val : Int) + 1 - 1) = i.val by omega]; exact wid (by omega) (by omega)
  rw [hw]
  clear hw
  revert i
  cases leapB y <;> decide +kernel
/-- What Of comes to, where it comes to a date: N seconds since 1970, in the zone's own time. -/
structure IsDate (N y m d h mi s : Int) : Prop where
  y0 : 1970 ≤ y
  y1 : y ≤ 9999
  mon : ∃ i : Fin 12, m = i.val + 1 ∧ Yr y + CumT (leapB y) i.val + (d - 1) = N / 86400 ∧ 1 ≤ d ∧ d ≤ LenT (leapB y) i.val
  hh : h = N % 86400 / 3600
  mm : mi = N % 86400 % 3600 / 60
  ss : s = N % 86400 % 60
theorem mon_loop (z rest y : Int) (hy : 1970 ≤ y) (hy1 : y ≤ 9999) (hr : 0 ≤ rest) (hr1 : rest < 86400) (all : Int) (h0 : Yr y ≤ all) (h1 : all < Yr (y + 1)) : ∀ (n : Nat) (i : Fin 12) (left : Int), i.val + n = 11 → 0 ≤ left → Yr y + CumT (leapB y) i.val + left = all →
    ∃ (j : Fin 12) (d : Int), Ev (fun k => date_Of.l1 k z rest y ((i.val : Int) + 1) left) (y, (j.val : Int) + 1, d, rest / 3600, rest % 3600 / 60, rest % 60, z, 0) ∧ Yr y + CumT (leapB y) j.val + (d - 1) = all ∧ 1 ≤ d ∧ d ≤ LenT (leapB y) j.val := by
  intro n
  induction n with
  | zero =>
    intro i left hi hl he
    have hs := yr_step y (by omega)
    have hlen := cum_step (leapB y) i
    rw [show i.val + 1 = 12 by omega, cum_12] at hlen
    have hlt : ¬ left ≥ LenT (leapB y) i.val := by omega
    have hp := len_pos (leapB y) i
    refine ⟨i, left + 1, Ev.after fun k => ?_, by omega, by omega, by omega⟩
    rw [date_Of.l1, length_eq y (by omega) i, Option.bind_some, if_neg hlt, tdiv_pos hr, tmod_pos hr, tmod_pos hr, tdiv_pos (by omega), wid (n := left + 1) (by omega) (by omega), wid (n := rest / 3600) (by omega) (by omega), wid (n := rest % 3600 / 60) (by omega) (by omega)]
  | succ n ih =>
    intro i left hi hl he
    have hs := yr_step y (by omega)
    have hlen := cum_step (leapB y) i
    have hp := len_pos (leapB y) i
    have hc := cum_nonneg (leapB y) i
    have hb : left ≤ 1000 := by split at hs <;> omega
    by_cases hlt : left ≥ LenT (leapB y) i.val
    · obtain ⟨j, d, hev, r1, r2, r3⟩ := ih ⟨i.val + 1, by omega⟩ (left - LenT (leapB y) i.val) (by simp; omega) (by omega) (by simp only; omega)
      refine ⟨j, d, Ev.step (fun k => ?_) hev, r1, r2, r3⟩
      rw [date_Of.l1, length_eq y (by omega) i, Option.bind_some, if_pos hlt, Option.bind_some, wid (n := (i.val : Int) + 1 + 1) (by omega) (by omega), wid (n := left - LenT (leapB y) i.val) (by omega) (by omega)]
      rfl
    · refine ⟨i, left + 1, Ev.after fun k => ?_, by omega, by omega, by omega⟩
      rw [date_Of.l1, length_eq y (by omega) i, Option.bind_some, if_neg hlt, tdiv_pos hr, tmod_pos hr, tmod_pos hr, tdiv_pos (by omega), wid (n := left + 1) (by omega) (by omega), wid (n := rest / 3600) (by omega) (by omega), wid (n := rest % 3600 / 60) (by omega) (by omega)]
theorem yr_10000 : Yr 10000 = 2932897 := by decide
theorem year_loop (z rest all : Int) (hr : 0 ≤ rest) (hr1 : rest < 86400) (ha : 0 ≤ all) (ha1 : all < 2932897) : ∀ (n : Nat) (y : Int), 1970 ≤ y → y + n = 9999 → Yr y ≤ all →
    ∃ (y' m d : Int), Ev (fun k => date_Of.l0 k z all rest y) (y', m, d, rest / 3600, rest % 3600 / 60, rest % 60, z, 0) ∧ 1970 ≤ y' ∧ y' ≤ 9999 ∧ ∃ i : Fin 12, m = i.val + 1 ∧ Yr y' + CumT (leapB y') i.val + (d - 1) = all ∧ 1 ≤ d ∧ d ≤ LenT (leapB y') i.val := by
  have stop : ∀ y : Int, 1970 ≤ y → y ≤ 9999 → Yr y ≤ all → ¬ Yr (y + 1) ≤ all → ∃ (y' m d : Int), Ev (fun k => date_Of.l0 k z all rest y) (y', m, d, rest / 3600, rest % 3600 / 60, rest % 60, z, 0) ∧ 1970 ≤ y' ∧ y' ≤ 9999 ∧ ∃ i : Fin 12, m = i.val + 1 ∧ Yr y' + CumT (leapB y') i.val + (d - 1) = all ∧ 1 ≤ d ∧ d ≤ LenT (leapB y') i.val := by
    intro y hy hy1 h0 h1
    have hYn : 0 ≤ Yr y := by have := yr_le (y := 1970) (z := y) (by omega) hy; rw [show Yr 1970 = 0 by decide] at this; exact this
    obtain ⟨j, d, hev, r1, r2, r3⟩ := mon_loop z rest y hy hy1 hr hr1 all h0 (by omega) 11 ⟨0, by omega⟩ (all - Yr y) rfl (by omega) (by rw [show CumT (leapB y) 0 = 0 by rfl]; omega)
    refine ⟨y, (j.val : Int) + 1, d, Ev.step (fun k => ?_) hev, hy, hy1, j, rfl, r1, r2, r3⟩
    rw [date_Of.l0, wid (n := y + 1) (by omega) (by omega), years_eq (y + 1) (by omega) (by omega), Option.bind_some, if_neg h1, years_eq y (by omega) (by omega), Option.bind_some, wid (n := all - Yr y) (by omega) (by omega)]
    rfl
  intro n
  induction n with
  | zero =>
    intro y hy hn h0
    refine stop y hy (by omega) h0 ?_
    rw [show y + 1 = 10000 by omega, yr_10000]
    omega
  | succ n ih =>
    intro y hy hn h0
    by_cases h1 : Yr (y + 1) ≤ all
    · obtain ⟨y', m, d, hev, r⟩ := ih (y + 1) (by omega) (by omega) h1
      refine ⟨y', m, d, Ev.step (fun k => ?_) hev, r⟩
      rw [date_Of.l0, wid (n := y + 1) (by omega) (by omega), years_eq (y + 1) (by omega) (by omega), Option.bind_some, if_pos h1]
    · exact stop y hy (by omega) h0 h1
theorem yr_first (q : Int) (h : 0 ≤ q) : Yr (1970 + q) ≤ 366 * q := by unfold Yr; omega
theorem in_eq (a l m : Int) : date_in.f a l m = some (decide (l ≤ a) && decide (a ≤ m)) := by
  unfold date_in.f
  by_cases h : a ≥ l
  · rw [if_pos h, decide_eq_true (show l ≤ a from h)]
    rfl
  · rw [if_neg h, decide_eq_false (show ¬ l ≤ a from h)]
    rfl
/-- Of: an error, or a date. -/
theorem of_ev (a z : Int) : ∃ r, Ev (fun k => date_Of.f k a z) r ∧ (r = (0, 0, 0, 0, 0, 0, 0, 1) ∨ ∃ y m d h mi s, r = (y, m, d, h, mi, s, z, 0) ∧ IsDate (a + z * 60) y m d h mi s) := by
  have bad : ∀ L, Ev (fun k => date_Of.j0 k a z L true) (0, 0, 0, 0, 0, 0, 0, 1) := fun L => Ev.after fun k => by rw [date_Of.j0, if_pos rfl]
  have hy : date_years.f 10000 = some 2932897 := by rw [years_eq 10000 (by omega) (by omega), yr_10000]
  have hlast : wrap64 (2932897 * 86400) = 253402300800 := by decide +kernel
  have hlast2 : wrap64 (253402300800 + 86400) = 253402387200 := by decide +kernel
  by_cases hz : -1439 ≤ z ∧ z ≤ 1439
  case neg =>
    have : (decide (-1439 ≤ z) && decide (z ≤ 1439)) = false := by
      rw [Bool.and_eq_false_iff]
      by_cases h : -1439 ≤ z
      · exact .inr (decide_eq_false (fun h2 => hz ⟨h, h2⟩))
      · exact .inl (decide_eq_false h)
    exact ⟨_, Ev.congr (fun k => by unfold date_Of.f; rw [hy, Option.bind_some, in_eq, Option.bind_some, this, if_neg (by decide)]) (bad _), .inl rfl⟩
  have hin : date_in.f z (-1439) 1439 = some true := by rw [in_eq, decide_eq_true hz.1, decide_eq_true hz.2]; rfl
  by_cases hlo : a < -86400
  · exact ⟨_, Ev.congr (fun k => by unfold date_Of.f; rw [hy, Option.bind_some, hin, Option.bind_some, if_pos rfl, if_pos hlo]) (bad _), .inl rfl⟩
  by_cases hhi : a > 253402387200
  · exact ⟨_, Ev.congr (fun k => by unfold date_Of.f; rw [hy, Option.bind_some, hin, Option.bind_some, if_pos rfl, if_neg hlo, hlast, hlast2, decide_eq_true hhi]) (bad _), .inl rfl⟩
  have go : ∀ k, date_Of.f k a z = date_Of.j0 k a z 253402300800 false := fun k => by
    unfold date_Of.f
    rw [hy, Option.bind_some, hin, Option.bind_some, if_pos rfl, if_neg hlo, hlast, hlast2, decide_eq_false hhi]
  have hw1 : wrap64 (z * 60) = z * 60 := wid (by omega) (by omega)
  have hw2 : wrap64 (a + z * 60) = a + z * 60 := wid (by omega) (by omega)
  have bad1 : Ev (fun k => date_Of.j1 k z (a + z * 60) true) (0, 0, 0, 0, 0, 0, 0, 1) := Ev.after fun k => by rw [date_Of.j1, if_pos rfl]
  obtain ⟨N, hN⟩ : ∃ N, a + z * 60 = N := ⟨_, rfl⟩
  rw [hN] at hw2 bad1 ⊢
  by_cases h0 : N < 0
  · exact ⟨_, Ev.congr go (Ev.step (fun k => by rw [date_Of.j0, if_neg (by decide), hw1, hN, hw2, if_pos h0]) bad1), .inl rfl⟩
  by_cases h1 : N ≥ 253402300800
  · exact ⟨_, Ev.congr go (Ev.step (fun k => by rw [date_Of.j0, if_neg (by decide), hw1, hN, hw2, if_neg h0, decide_eq_true h1]) bad1), .inl rfl⟩
  have hq := yr_first (N / 86400 / 366) (by omega)
  have hle : Yr (1970 + N / 86400 / 366) ≤ N / 86400 := by omega
  obtain ⟨y, m, d, hev, r1, r2, r3⟩ := year_loop z (N % 86400) (N / 86400) (by omega) (by omega) (by omega) (by omega) (9999 - (1970 + N / 86400 / 366)).toNat (1970 + N / 86400 / 366) (by omega) (by omega) hle
  refine ⟨_, Ev.congr go (Ev.step (f := fun k => date_Of.j1 k z N false) (fun k => by rw [date_Of.j0, if_neg (by decide), hw1, hN, hw2, if_neg h0, decide_eq_false h1]) (Ev.step (fun k => ?_) hev)), .inr ⟨y, m, d, _, _, _, rfl, ⟨r1, r2, r3, rfl, rfl, rfl⟩⟩⟩
  rw [date_Of.j1, if_neg (by decide), tdiv_pos (by omega), tmod_pos (by omega), wid (n := N / 86400) (by omega) (by omega), tdiv_pos (by omega), wid (n := N / 86400 / 366) (by omega) (by omega), wid (n := 1970 + N / 86400 / 366) (by omega) (by omega)]
end Go.Proofs.Mine
