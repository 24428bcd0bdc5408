/- DateOrder, as a plain law: of two times the later one has the later date. -/
import Derived.Test.YtcgjkppoakngnaaDoorPDDateLib
import Derived.Test.YtcgjkppoakngnaaDoorPDAwake10
import Derived.Test.YtcgjkppoakngnaaDoorXD5
namespace Go.Proofs.YtcgjkppoakngnaaDoor.Pure
open Go.RowKit Go.Proofs.YtcgjkppoakngnaaDoorW.PrintWords Go.Proofs.YtcgjkppoakngnaaDoorW.PrintLast Go.Proofs.YtcgjkppoakngnaaDoor.X Go.Proofs.Mine

/-- The first that is not nought is less than nought; where all are nought, p. -/
def Lex (p : Prop) : List Int → Prop
  | [] => p
  | d :: l => d < 0 ∨ (d = 0 ∧ Lex p l)
theorem order_loop (a b : Int) (L : List Int) (hL : L.length ≤ 1000) : ∀ (l pre : List Int), L = pre ++ l → Lex (a = b) l →
    Ev (fun k => frankinglaw10_DateOrder.l0 k a b L (pre.length : Int)) true := by
  intro l
  induction l with
  | nil =>
    intro pre h hx
    have hl : L.length = pre.length := by rw [h]; simp
    refine Ev.after fun k => ?_
    rw [frankinglaw10_DateOrder.l0, if_neg (by omega), show a = b from hx, beq_self_eq_true]
  | cons d l ih =>
    intro pre h hx
    have hl : L.length = pre.length + (l.length + 1) := by rw [h]; simp
    have hr : rd L (pre.length : Int) = d := by rw [h]; exact rd_of
    have i1 : (pre.length : Int) < (L.length : Int) := by omega
    have i2 : 0 ≤ (pre.length : Int) := by omega
    rcases hx with hx | ⟨hx, hx'⟩
    · refine Ev.after fun k => ?_
      rw [frankinglaw10_DateOrder.l0, if_pos i1, if_pos i2, hr, if_neg (by omega), decide_eq_true hx]
    · have hr' := ih (pre ++ [d]) (by rw [h]; simp) hx'
      rw [List.length_append, List.length_singleton] at hr'
      refine Ev.step (fun k => ?_) hr'
      rw [frankinglaw10_DateOrder.l0, if_pos i1, if_pos i2, hr, if_pos hx, wrap_nat (by omega)]
theorem dates_lex {M N y m d h mi s y' m' d' h' mi' s' : Int} (H : IsDate M y m d h mi s) (K : IsDate N y' m' d' h' mi' s') (hle : M ≤ N) :
    Lex (M = N) [y - y', m - m', d - d', h - h', mi - mi', s - s'] := by
  obtain ⟨y0, y1, ⟨i, rfl, e, d0, d1⟩, rfl, rfl, rfl⟩ := H
  obtain ⟨y0', y1', ⟨j, rfl, e', d0', d1'⟩, rfl, rfl, rfl⟩ := K
  have hD : M / 86400 ≤ N / 86400 := by omega
  by_cases hy : y < y'
  · exact .inl (by omega)
  have hyy : y = y' := by
    by_cases hgt : y' < y
    · have a1 := yr_le (y := y' + 1) (z := y) (by omega) (by omega)
      have a2 := yr_step y' (by omega)
      have a3 := cum_end (leapB y') j
      have a4 := cum_nonneg (leapB y) i
      split at a2 <;> simp_all <;> omega
    · omega
  subst hyy
  refine .inr ⟨by omega, ?_⟩
  by_cases hm : i.val < j.val
  · exact .inl (by omega)
  have hmm : i = j := by
    by_cases hgt : j.val < i.val
    · have a1 := cum_mono (leapB y) j i hgt
      omega
    · exact Fin.ext (by omega)
  subst hmm
  refine .inr ⟨by omega, ?_⟩
  by_cases hd : d < d'
  · exact .inl (by omega)
  have hdd : d = d' := by omega
  subst hdd
  refine .inr ⟨by omega, ?_⟩
  have hq : M / 86400 = N / 86400 := by omega
  clear e e' d0 d1 d0' d1' hD
  by_cases h1 : M % 86400 / 3600 < N % 86400 / 3600
  · exact .inl (by omega)
  refine .inr ⟨by omega, ?_⟩
  by_cases h2 : M % 86400 % 3600 / 60 < N % 86400 % 3600 / 60
  · exact .inl (by omega)
  refine .inr ⟨by omega, ?_⟩
  by_cases h3 : M % 86400 % 60 < N % 86400 % 60
  · exact .inl (by omega)
  exact .inr ⟨by omega, (show M = N by omega)⟩
theorem isDate_small {N y m d h mi s : Int} (H : IsDate N y m d h mi s) : 0 ≤ y ∧ y ≤ 10000 ∧ 0 ≤ m ∧ m ≤ 12 ∧ 0 ≤ d ∧ d ≤ 31 ∧ 0 ≤ h ∧ h ≤ 24 ∧ 0 ≤ mi ∧ mi ≤ 60 ∧ 0 ≤ s ∧ s ≤ 60 := by
  obtain ⟨y0, y1, ⟨i, rfl, e, d0, d1⟩, rfl, rfl, rfl⟩ := H
  have := len_pos (leapB y) i
  have := i.isLt
  clear e
  refine ⟨by omega, by omega, by omega, by omega, by omega, by omega, by omega, by omega, by omega, by omega, by omega, by omega⟩
theorem order_ev (a b z : Int) (hab : a ≤ b) : Ev (fun k => frankinglaw10_DateOrder.j0 k a b z) true := by
  obtain ⟨r, hr, cr⟩ := of_ev a z
  obtain ⟨q, hq, cq⟩ := of_ev b z
  refine Ev.step (fun k => by rw [frankinglaw10_DateOrder.j0]) (Ev.bind hr (Ev.bind hq ?_))
  have yes : ∀ y m d h mi s zz y' m' d' h' mi' s' zz', Ev (fun k => frankinglaw10_DateOrder.j1 k a b true y m d h mi s zz y' m' d' h' mi' s' zz') true := fun _ _ _ _ _ _ _ _ _ _ _ _ _ _ => Ev.after fun k => by rw [frankinglaw10_DateOrder.j1, if_pos rfl]
  rcases cr with rfl | ⟨y, m, d, h, mi, s, rfl, H⟩
  · exact Ev.congr (fun k => by rw [if_neg (by decide)]) (yes _ _ _ _ _ _ _ _ _ _ _ _ _ _)
  rcases cq with rfl | ⟨y', m', d', h', mi', s', rfl, K⟩
  · exact Ev.congr (fun k => by rw [if_pos rfl]; rfl) (yes _ _ _ _ _ _ _ _ _ _ _ _ _ _)
  have hx := dates_lex H K (by omega)
  have b1 := isDate_small H
  have b2 := isDate_small K
  refine Ev.congr (f := fun k => frankinglaw10_DateOrder.j1 k a b false y m d h mi s z y' m' d' h' mi' s' z) (fun k => by rw [if_pos rfl]; rfl) (Ev.step (f := fun k => frankinglaw10_DateOrder.l0 k a b [y - y', m - m', d - d', h - h', mi - mi', s - s'] 0) (fun k => ?_) ?_)
  · rw [frankinglaw10_DateOrder.j1, if_neg (by decide), wid (n := y - y') (by omega) (by omega), wid (n := m - m') (by omega) (by omega), wid (n := d - d') (by omega) (by omega), wid (n := h - h') (by omega) (by omega), wid (n := mi - mi') (by omega) (by omega), wid (n := s - s') (by omega) (by omega)]
  · refine order_loop a b _ (by simp) _ [] rfl ?_
    have e : (a + z * 60 = b + z * 60) = (a = b) := by
      apply propext
      constructor
      · intro h; omega
      · intro h; rw [h]
    rw [e] at hx
    exact hx
theorem DateOrder : frankinglaw10_DateOrder.Pure := by
  intro a b z _ _ _
  refine Ev.rounds (g := fun k => frankinglaw10_DateOrder.f k a b z) ?_
  refine Ev.congr (fun k => by unfold frankinglaw10_DateOrder.f; rfl) (Ev.bind awake_ev ?_)
  refine Ev.congr (fun k => by rw [if_pos rfl]) ?_
  by_cases h : a > b
  · exact Ev.congr (fun k => by rw [if_pos h]) (order_ev b a z (by omega))
  · exact Ev.congr (fun k => by rw [if_neg h]) (order_ev a b z (by omega))
end Go.Proofs.YtcgjkppoakngnaaDoor.Pure
