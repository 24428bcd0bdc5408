/- Of: where it tells a date, and where it must. -/
import Derived.Test.YtcifbeiofjchgaaDoorPDateUnix
import Derived.Test.YtcifbeiofjchgaaDoorX2
namespace Go.Proofs.Mine
open Go.RowKit Go.Proofs.YtcifbeiofjchgaaDoorW.PrintWords Go.Proofs.YtcifbeiofjchgaaDoorW.PrintLast Go.Proofs.YtcifbeiofjchgaaDoor.X
set_option linter.unusedSimpArgs false

theorem Ev.unique {α : Type} {g : Nat → Option α} {r r' : α} (h : Ev g r) (h' : Ev g r') : r = r' := by
  obtain ⟨K, hK⟩ := h
  obtain ⟨L, hL⟩ := h'
  have a := hK (K + L) (by omega)
  have b := hL (K + L) (by omega)
  exact Option.some.inj (a.symm.trans b)
theorem of_zone (a z : Int) (hz : ¬ (-1439 ≤ z ∧ z ≤ 1439)) : Ev (fun k => date_Of.f k a z) (0, 0, 0, 0, 0, 0, 0, 1) := by
  have bad : ∀ L, Ev (fun k => date_Of.j0 k a z L true) (0, 0, 0, 0, 0, 0, 0, 1) := fun L => Ev.after fun k => by rw [date_Of.j0, if_pos rfl]
  have hy : date_years.f 10000 = some 2932897 := by rw [years_eq 10000 (by omega) (by omega), yr_10000]
  have : (decide (-1439 ≤ z) && decide (z ≤ 1439)) = false := by
    rw [Bool.and_eq_false_iff]
    by_cases h : -1439 ≤ z
    · exact .inr (decide_eq_false (fun h2 => hz ⟨h, h2⟩))
    · exact .inl (decide_eq_false h)
  exact Ev.congr (fun k => by unfold date_Of.f; rw [hy, Option.bind_some, in_eq, Option.bind_some, this, if_neg (by decide)]) (bad _)
theorem of_ok (a z : Int) (hz : -1439 ≤ z) (hz1 : z ≤ 1439) (hlo : -86400 ≤ a) (hhi : a ≤ 253402387200) (h0 : 0 ≤ a + z * 60) (h1 : a + z * 60 < 253402300800) : ∃ y m d h mi s, Ev (fun k => date_Of.f k a z) (y, m, d, h, mi, s, z, 0) ∧ IsDate (a + z * 60) y m d h mi s := by
  have hy : date_years.f 10000 = some 2932897 := by rw [years_eq 10000 (by omega) (by omega), yr_10000]
  have hlast : wrap64 (2932897 * 86400) = 253402300800 := by decide +kernel
  have hlast2 : wrap64 (253402300800 + 86400) = 253402387200 := by decide +kernel
  have hin : date_in.f z (-1439) 1439 = some true := by rw [in_eq, decide_eq_true hz, decide_eq_true hz1]; rfl
  have go : ∀ k, date_Of.f k a z = date_Of.j0 k a z 253402300800 false := fun k => by
    unfold date_Of.f
    rw [hy, Option.bind_some, hin, Option.bind_some, if_pos rfl, if_neg (by omega), hlast, hlast2, decide_eq_false (by omega)]
  have hw1 : wrap64 (z * 60) = z * 60 := wid (by omega) (by omega)
  have hw2 : wrap64 (a + z * 60) = a + z * 60 := wid (by omega) (by omega)
  obtain ⟨N, hN⟩ : ∃ N, a + z * 60 = N := ⟨_, rfl⟩
  rw [hN] at hw2 h0 h1 ⊢
  have hq := yr_first (N / 86400 / 366) (by omega)
  have hle : Yr (1970 + N / 86400 / 366) ≤ N / 86400 := by omega
  obtain ⟨y, m, d, hev, r1, r2, r3⟩ := year_loop z (N % 86400) (N / 86400) (by omega) (by omega) (by omega) (by omega) (9999 - (1970 + N / 86400 / 366)).toNat (1970 + N / 86400 / 366) (by omega) (by omega) hle
  refine ⟨y, m, d, _, _, _, Ev.congr go (Ev.step (f := fun k => date_Of.j1 k z N false) (fun k => by rw [date_Of.j0, if_neg (by decide), hw1, hN, hw2, if_neg (by omega), decide_eq_false (by omega)]) (Ev.step (fun k => ?_) hev)), ⟨r1, r2, r3, rfl, rfl, rfl⟩⟩
  rw [date_Of.j1, if_neg (by decide), tdiv_pos (by omega), tmod_pos (by omega), wid (n := N / 86400) (by omega) (by omega), tdiv_pos (by omega), wid (n := N / 86400 / 366) (by omega) (by omega), wid (n := 1970 + N / 86400 / 366) (by omega) (by omega)]
/-- Of: an error, or a date, and then its zone is one. -/
theorem of_ev2 (a z : Int) : ∃ r, Ev (fun k => date_Of.f k a z) r ∧ (r = (0, 0, 0, 0, 0, 0, 0, 1) ∨ ∃ y m d h mi s, r = (y, m, d, h, mi, s, z, 0) ∧ IsDate (a + z * 60) y m d h mi s ∧ -1439 ≤ z ∧ z ≤ 1439) := by
  by_cases hz : -1439 ≤ z ∧ z ≤ 1439
  · obtain ⟨r, hr, h⟩ := of_ev a z
    refine ⟨r, hr, h.imp id ?_⟩
    rintro ⟨y, m, d, h, mi, s, e, H⟩
    exact ⟨y, m, d, h, mi, s, e, H, hz⟩
  · exact ⟨_, of_zone a z hz, .inl rfl⟩
end Go.Proofs.Mine
