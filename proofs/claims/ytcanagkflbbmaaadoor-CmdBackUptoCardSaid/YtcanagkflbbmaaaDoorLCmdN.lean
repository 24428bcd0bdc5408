/- Commands: a name, and one plain word behind it. -/
import Derived.Test.YtcanagkflbbmaaaDoorLCmdM
set_option linter.unusedVariables false
set_option linter.unusedSimpArgs false
set_option maxRecDepth 100000
set_option maxHeartbeats 8000000
namespace Go.Proofs.YtcanagkflbbmaaaDoor.L
open Go Go.Proofs Go.Dev Go.RowKit
theorem wordW_plain {b : Txt} {d : Nat} {s : RS} {c : UInt8} {r : Txt} (h : At b s (c :: r)) (hw : s.words < 1000) (h1 : c ≠ 34) (h2 : c ≠ 123) (h3 : c ≠ 40) : wordW b d s = (.mk (plain b (inc s)).1 false [] false, (plain b (inc s)).2) := by
  have k : ∀ l, wordF b l s = (.mk (plain b (inc s)).1 false [] false, (plain b (inc s)).2) := fun l => by
    rw [wordF_some (by rw [h.peek]) (by omega), if_neg h1, if_neg h2, if_neg h3]
  cases d <;> exact k _
theorem name_parse (s : Txt) (h1 : s ≠ []) (hl : s.length ≤ 100) (hv : ∀ c ∈ s, vis noPlain c = true ∧ c ≠ 91) :
    parseC ([116, 32] ++ s ++ [32, 120, 13, 10]) = ((⟨[116], s.map upper, [.mk [120] false [] false]⟩ : Cmd), ((s.length : Int) + 6), (0 : Int)) := by
  generalize hb : [116, 32] ++ s ++ [32, 120, 13, 10] = b
  have hlen : b.length = s.length + 6 := by rw [← hb]; simp
  have h : At b r0 ([116] ++ 32 :: (s ++ 32 :: [120, 13, 10])) := ⟨rfl, by rw [← hb]; simp [r0], by omega⟩
  have e1' : run b noTag noop r0.at_ (b.length + 1) r0 = ([116], adv r0 1) := run_from (w := [116]) (d := 32) (r := s ++ 32 :: [120, 13, 10]) (by decide) (by decide) h (by simp; omega) (by decide)
  have e1 : rd1 b = ([116], adv r0 1) := e1'
  have a1 : At b (adv r0 1) (32 :: (s ++ 32 :: [120, 13, 10])) := At.adv (w := [116]) h
  have e2 : rd2 b = adv (inc r0) 2 := by
    unfold rd2
    rw [e1]
    simp only
    rw [a1.want]
    rfl
  have a2 : At b (rd2 b) (s ++ 32 :: [120, 13, 10]) := by
    rw [e2]
    exact ⟨a1.next.e, a1.next.d, h.b⟩
  have e3' : run b noPlain (brk b) (rd2 b).at_ (b.length + 1) (rd2 b) = (s, adv (rd2 b) s.length) := run_from (d := 32) (r := [120, 13, 10]) (by decide) hv a2 (by omega) h1
  have e3 : rd3 b = (s, adv (rd2 b) s.length) := e3'
  have a3 : At b (rd3 b).2 (32 :: [120, 13, 10]) := by
    rw [e3]
    exact a2.adv
  have w3 : (rd3 b).2.words = 1 := rd3_words
  have a4 := a3.next
  have eP' : run b noPlain (brk b) (inc (next (rd3 b).2)).at_ (b.length + 1) (inc (next (rd3 b).2)) = ([120], adv (inc (next (rd3 b).2)) 1) := run_from (w := [120]) (d := 13) (r := [10]) (by decide) (by decide) a4.inc (by simp; omega) (by decide)
  have eP : plain b (inc (next (rd3 b).2)) = ([120], adv (inc (next (rd3 b).2)) 1) := eP'
  have a5 : At b (adv (inc (next (rd3 b).2)) 1) (13 :: 10 :: []) := At.adv (w := [120]) a4.inc
  have eA : rdA b = ([.mk [120] false [] false], adv (adv (inc (next (rd3 b).2)) 1) 2) := by
    unfold rdA
    rw [argsL, if_pos a3.e, a3.isB, if_neg (by simp), a3.want, wordW_plain a4 (by simp only [next]; omega) (by decide) (by decide) (by decide), eP]
    simp only
    rw [argsL, if_pos a5.e, a5.isB, if_pos (by simp)]
    simp only
    rw [a5.endL]
    rfl
  have hat : (adv (adv (inc (next (rd3 b).2)) 1) 2).at_ = s.length + 6 := by
    rw [e3, e2]
    simp only [adv, inc, next, r0]
    omega
  unfold parseC
  rw [eA]
  simp only
  rw [if_pos (show (adv (adv (inc (next (rd3 b).2)) 1) 2).err = 0 from a5.e)]
  unfold readC
  rw [e1, e3, eA]
  congr 2
  rw [e2]
  simp only [adv, inc, next, r0]
  omega
end Go.Proofs.YtcanagkflbbmaaaDoor.L
