/- DateBack, as a plain law. -/
import Derived.Test.YtcifbeiofjchgaaDoorPDateParse
import Derived.Test.YtcifbeiofjchgaaDoorPDateOf
import Derived.Test.YtcifbeiofjchgaaDoorPAwake10
import Derived.Test.YtcifbeiofjchgaaDoorX10
namespace Go.Proofs.YtcifbeiofjchgaaDoor.Pure
open Go.RowKit Go.Proofs.YtcifbeiofjchgaaDoorW.PrintWords Go.Proofs.YtcifbeiofjchgaaDoorW.PrintLast Go.Proofs.YtcifbeiofjchgaaDoor.X Go.Proofs.Mine

theorem sec_next (N : Int) : (N + 1) % 86400 % 60 = (N % 86400 % 60 + 1) % 60 := by omega
theorem DateBack : frankinglaw10_DateBack.Pure := by
  intro a z _ _
  refine Ev.rounds (g := fun k => frankinglaw10_DateBack.f k a z) ?_
  refine Ev.congr (fun k => by unfold frankinglaw10_DateBack.f; rfl) (Ev.bind awake_ev ?_)
  refine Ev.congr (fun k => by rw [if_pos rfl]) ?_
  obtain ⟨r, hr, cr⟩ := of_ev2 a z
  refine Ev.bind hr ?_
  rcases cr with rfl | ⟨y, m, d, h, mi, s, rfl, H, hz, hz1⟩
  · exact Ev.pure fun k => by rw [if_neg (by decide)]; rfl
  obtain ⟨i, rfl, _⟩ := H.mon
  have hN := isDate_range H
  have hsh := show_ev i H z hz hz1
  have hp := parse_ev i H z hz hz1
  have hg := good_ev H z hz hz1
  have hu := Ev.eq (unix_ev H z hz hz1) (show a + z * 60 - z * 60 = a by omega)
  have hw : wrap64 (a + 1) = a + 1 := wid (by omega) (by omega)
  obtain ⟨q, hq, cq⟩ := of_ev2 (a + 1) z
  refine Ev.congr (fun k => by rw [if_pos rfl]) (Ev.bind hsh (Ev.bind hp ?_))
  refine Ev.congr (fun k => by rw [hw]) (Ev.bind hq (Ev.bind hg ?_))
  refine Ev.congr (fun k => by rw [if_pos rfl]) (Ev.bind hu ?_)
  refine Ev.congr (fun k => by rw [if_pos rfl, if_pos rfl, if_pos rfl, if_pos (by simp)]) ?_
  rcases cq with rfl | ⟨y', m', d', h', mi', s', rfl, K, _, _⟩
  · exact Ev.pure fun k => by rw [if_neg (by decide)]
  have hu' := Ev.eq (unix_ev K z hz hz1) (show a + 1 + z * 60 - z * 60 = a + 1 by omega)
  refine Ev.congr (fun k => by rw [if_pos rfl]) (Ev.bind hu' (Ev.pure fun k => ?_))
  rw [if_pos rfl]
  have e1 := H.ss
  have e2 := K.ss
  obtain ⟨N, hNe⟩ : ∃ N, a + z * 60 = N := ⟨_, rfl⟩
  rw [show a + 1 + z * 60 = N + 1 by omega] at e2
  rw [hNe] at e1
  simp only
  rw [e1, e2, sec_next, wid (n := N % 86400 % 60 + 1) (by omega) (by omega), tmod_pos (by omega)]
  simp
end Go.Proofs.YtcifbeiofjchgaaDoor.Pure
