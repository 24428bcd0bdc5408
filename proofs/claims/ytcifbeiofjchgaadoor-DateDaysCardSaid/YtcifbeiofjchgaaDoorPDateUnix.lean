/- Days, Good and Unix of what is a date. -/
import Derived.Test.YtcifbeiofjchgaaDoorPDateLib
import Derived.Test.YtcifbeiofjchgaaDoorX5
import Derived.Test.YtcifbeiofjchgaaDoorX3
namespace Go.Proofs.Mine
open Go.RowKit Go.Proofs.YtcifbeiofjchgaaDoorW.PrintWords Go.Proofs.YtcifbeiofjchgaaDoorW.PrintLast Go.Proofs.YtcifbeiofjchgaaDoor.X
set_option linter.unusedSimpArgs false

theorem days_loop (y : Int) (hy : 0 ≤ y) (j : Fin 12) : ∀ (n : Nat) (i : Fin 12) (acc : Int), i.val + n = j.val → -1000000000 ≤ acc → acc ≤ 1000000000 - 40 * (12 - i.val) →
    Ev (fun k => date_days.l0 k y ((j.val : Int) + 1) acc ((i.val : Int) + 1)) (acc + CumT (leapB y) j.val - CumT (leapB y) i.val) := by
  intro n
  induction n with
  | zero =>
    intro i acc hi h0 h1
    obtain rfl : i = j := Fin.ext (by omega)
    refine Ev.after fun k => ?_
    rw [date_days.l0, if_neg (by omega)]
    congr 1
    omega
  | succ n ih =>
    intro i acc hi h0 h1
    have hp := len_pos (leapB y) i
    have hc := cum_step (leapB y) i
    have := ih ⟨i.val + 1, by omega⟩ (acc + LenT (leapB y) i.val) (by simp only; omega) (by omega) (by simp only; omega)
    refine Ev.step (fun k => ?_) (Ev.eq this (by simp only; omega))
    rw [date_days.l0, if_pos (by omega), length_eq y hy i, Option.bind_some, wid (n := acc + LenT (leapB y) i.val) (by omega) (by omega), wid (n := (i.val : Int) + 1 + 1) (by omega) (by omega)]
    rfl
theorem yr_range {y : Int} (h0 : 1970 ≤ y) (h1 : y ≤ 9999) : 0 ≤ Yr y ∧ Yr y ≤ 2932897 := by
  have a := yr_le (y := 1970) (z := y) (by omega) h0
  have b := yr_le (y := y) (z := 10000) (by omega) (by omega)
  rw [show Yr 1970 = 0 by decide] at a
  rw [yr_10000] at b
  exact ⟨a, b⟩
theorem days_ev (y : Int) (h0 : 1970 ≤ y) (h1 : y ≤ 9999) (j : Fin 12) (d : Int) (hd : 1 ≤ d) (hd1 : d ≤ 31) : Ev (fun k => date_days.f k y ((j.val : Int) + 1) d) (Yr y + CumT (leapB y) j.val + (d - 1)) := by
  have hr := yr_range h0 h1
  refine Ev.congr (fun k => ?_) (Ev.eq (days_loop y (by omega) j j.val ⟨0, by omega⟩ (Yr y + d - 1) (by simp) (by omega) (by simp only; omega)) ?_)
  · unfold date_days.f
    rw [years_eq y (by omega) (by omega), Option.bind_some, wid (n := Yr y + d) (by omega) (by omega), wid (n := Yr y + d - 1) (by omega) (by omega)]
    rfl
  · rw [show CumT (leapB y) (⟨0, by omega⟩ : Fin 12).val = 0 from rfl]
    omega
theorem good_ev {N y m d h mi s : Int} (H : IsDate N y m d h mi s) (z : Int) (hz : -1439 ≤ z) (hz1 : z ≤ 1439) : Ev (fun k => date_Good.f k y m d h mi s z) true := by
  obtain ⟨y0, y1, ⟨i, rfl, e, d0, d1⟩, rfl, rfl, rfl⟩ := H
  refine Ev.congr (fun k => ?_) (Ev.after (g := fun k => date_Good.j0 k false y ((i.val : Int) + 1) d (N % 86400 / 3600) (N % 86400 % 3600 / 60) (N % 86400 % 60) z) fun k => ?_)
  · unfold date_Good.f
    rw [in_eq, decide_eq_true y0, decide_eq_true y1, Option.bind_some, Bool.and_true, if_pos rfl, in_eq, decide_eq_true (by omega), decide_eq_true (by have := i.isLt; omega), Option.bind_some, Bool.and_true, if_pos rfl, length_eq y (by omega) i, Option.bind_some, in_eq, decide_eq_true d0, decide_eq_true d1, Option.bind_some]
    rfl
  · rw [date_Good.j0, if_neg (by decide), in_eq, decide_eq_true (by omega), decide_eq_true (by omega), Option.bind_some, Bool.and_true, if_pos rfl, in_eq, decide_eq_true (by omega), decide_eq_true (by omega), Option.bind_some, Bool.and_true, if_pos rfl, in_eq, decide_eq_true (by omega), decide_eq_true (by omega), Option.bind_some, Bool.and_true, if_pos rfl, in_eq, decide_eq_true hz, decide_eq_true hz1, Option.bind_some]
    rfl
theorem isDate_range {N y m d h mi s : Int} (H : IsDate N y m d h mi s) : 0 ≤ N / 86400 ∧ N / 86400 ≤ 2940000 := by
  obtain ⟨y0, y1, ⟨i, rfl, e, d0, d1⟩, _, _, _⟩ := H
  have := yr_range y0 y1
  have := cum_nonneg (leapB y) i
  have := len_pos (leapB y) i
  omega
theorem unix_ev {N y m d h mi s : Int} (H : IsDate N y m d h mi s) (z : Int) (hz : -1439 ≤ z) (hz1 : z ≤ 1439) : Ev (fun k => date_Unix.f k y m d h mi s z) (N - z * 60) := by
  have hg := good_ev H z hz hz1
  have hN := isDate_range H
  obtain ⟨y0, y1, ⟨i, rfl, e, d0, d1⟩, rfl, rfl, rfl⟩ := H
  have hl := len_pos (leapB y) i
  have hdy := days_ev y y0 y1 i d d0 (by omega)
  rw [e] at hdy
  clear e
  refine Ev.congr (fun k => by unfold date_Unix.f; rfl) (Ev.bind hg ?_)
  refine Ev.congr (fun k => by rw [if_pos rfl]) (Ev.bind hdy (Ev.pure fun k => ?_))
  obtain ⟨q, hq⟩ : ∃ q, N / 86400 = q := ⟨_, rfl⟩
  obtain ⟨r, hr⟩ : ∃ r, N % 86400 = r := ⟨_, rfl⟩
  have hN2 : N = q * 86400 + r := by omega
  have r0 : 0 ≤ r := by omega
  have r1 : r < 86400 := by omega
  rw [hq, hr]
  rw [hq] at hN
  rw [wid (n := q * 86400) (by omega) (by omega), wid (n := r / 3600 * 3600) (by omega) (by omega), wid (n := q * 86400 + r / 3600 * 3600) (by omega) (by omega), wid (n := r % 3600 / 60 * 60) (by omega) (by omega), wid (n := q * 86400 + r / 3600 * 3600 + r % 3600 / 60 * 60) (by omega) (by omega), wid (n := q * 86400 + r / 3600 * 3600 + r % 3600 / 60 * 60 + r % 60) (by omega) (by omega), wid (n := z * 60) (by omega) (by omega), wid (by omega) (by omega)]
  congr 1
  omega
end Go.Proofs.Mine
