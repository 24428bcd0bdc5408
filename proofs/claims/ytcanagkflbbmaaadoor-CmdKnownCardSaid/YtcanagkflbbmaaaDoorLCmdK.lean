/- Commands: closed ones. -/
import Derived.Test.YtcanagkflbbmaaaDoorLCmdM
set_option linter.unusedVariables false
set_option linter.unusedSimpArgs false
set_option maxRecDepth 100000
set_option maxHeartbeats 8000000
namespace Go.Proofs.YtcanagkflbbmaaaDoor.L
open Go Go.Proofs Go.Dev Go.RowKit
theorem run_rep {b no : Txt} {op : RS → RS} {from_ n : Nat} (hv : vis no 97 = true) : ∀ (k : Nat) (s : RS) (r : Txt), s.err = 0 → b.drop s.at_ = List.replicate k 97 ++ r → s.at_ + k ≤ s.line + 8192 → run b no op from_ (n + k) s = run b no op from_ n (adv s k)
  | 0, s, r, _, _, _ => rfl
  | k + 1, s, r, h0, hd, hl => by
    have hd' : b.drop s.at_ = 97 :: (List.replicate k 97 ++ r) := hd
    have hp : peek b s = (some 97, s) := by
      rw [peek_cons h0 hd', if_neg]
      intro h
      omega
    have e : n + (k + 1) = (n + k) + 1 := by omega
    rw [e, run, hp]
    simp only [hv, if_true]
    rw [if_neg (by decide)]
    rw [run_rep hv k (next s) r h0 (by
      show b.drop (s.at_ + 1) = _
      rw [← List.drop_drop, hd']
      rfl) (by simp only [next]; omega)]
    rw [next_adv, adv_adv, Nat.add_comm 1]
def long : Txt := List.replicate 8191 97
theorem long_len : long.length = 8191 := List.length_replicate
theorem parse_stop {b : Txt} {e : Int} {k m : Nat} (h3 : (rd3 b).2.err = e) (h0 : e ≠ 0) (h8 : e ≠ 8) (hk : (rd3 b).2.bad = k) (hi : Lib.index (b.drop k) [13, 10] = m) : parseC b = (noC, (k : Int) + m + 2, e) := by
  have hA : rdA b = ([], (rd3 b).2) := argsL_stop (by rw [h3]; exact h0)
  unfold parseC
  rw [hA]
  simp only
  rw [h3, if_neg h0, if_neg h8, hk, Int.toNat_natCast, hi, if_neg (by omega)]
theorem long1 : parseC (long ++ [13, 10, 120]) = (noC, 8193, 3) := by
  generalize hb : long ++ [13, 10, 120] = b
  have hlen : b.length = 8194 := by rw [← hb, List.length_append, long_len]; rfl
  have d0 : b.drop r0.at_ = List.replicate 8191 97 ++ [13, 10, 120] := by rw [← hb]; rfl
  have d1 : b.drop (adv r0 8191).at_ = 13 :: [10, 120] := by
    show b.drop 8191 = _
    rw [← hb, ← long_len, List.drop_left]
  have hp : peek b (adv r0 8191) = (some 13, adv r0 8191) := by
    rw [peek_cons rfl d1, if_neg]
    intro h
    exact absurd h.1 (by decide)
  have e1 : rd1 b = ((b.drop 0).take 8191, adv r0 8191) := by
    unfold rd1
    rw [hlen, show 8194 + 1 = 4 + 8191 from rfl, run_rep (by decide) 8191 r0 _ rfl d0 (by decide), run, hp]
    rfl
  have e2 : rd2 b = inc (fail (adv r0 8191) 3 8191) := by
    unfold rd2
    rw [e1]
    unfold want may isB
    rw [hp]
    rfl
  have k2 : (rd2 b).err ≠ 0 := by rw [e2]; decide
  have e3 : (rd3 b).2 = rd2 b := by
    have : Ge (rd2 b) (rd3 b).2 := plain_ge
    exact this.keep k2
  have hr : (rd3 b).2.err = 3 ∧ (rd3 b).2.bad = (8191 : Nat) := by rw [e3, e2]; decide
  exact parse_stop (k := 8191) (m := 0) hr.1 (by decide) (by decide) hr.2 (by rw [show b.drop 8191 = _ from d1]; rfl)
theorem long2 : parseC ([97, 32] ++ long ++ [13, 10, 120]) = (noC, 8195, 2) := by
  generalize hb : [97, 32] ++ long ++ [13, 10, 120] = b
  have hlen : b.length = 8196 := by rw [← hb, List.length_append, List.length_append, long_len]; rfl
  have d0 : b.drop r0.at_ = List.replicate 1 97 ++ 32 :: (long ++ [13, 10, 120]) := by rw [← hb]; rfl
  have d1 : b.drop (adv r0 1).at_ = 32 :: (long ++ [13, 10, 120]) := by rw [← hb]; rfl
  have d2 : b.drop 2 = List.replicate 8190 97 ++ 97 :: [13, 10, 120] := by
    rw [← hb]
    show long ++ [13, 10, 120] = _
    unfold long
    rw [show (8191 : Nat) = 8190 + 1 from rfl, List.replicate_succ', List.append_assoc]
    rfl
  have d3 : b.drop 8192 = 97 :: [13, 10, 120] := by
    rw [show (8192 : Nat) = 2 + 8190 from rfl, ← List.drop_drop, d2]
    have h := List.drop_left (l₁ := List.replicate 8190 (97 : UInt8)) (l₂ := 97 :: [13, 10, 120])
    rw [List.length_replicate] at h
    exact h
  have hp : peek b (adv r0 1) = (some 32, adv r0 1) := by
    rw [peek_cons rfl d1, if_neg]
    intro h
    exact absurd h.1 (by decide)
  have e1 : rd1 b = ((b.drop 0).take 1, adv r0 1) := by
    unfold rd1
    rw [hlen, show 8196 + 1 = (8195 + 1) + 1 from rfl, run_rep (by decide) 1 r0 _ rfl d0 (by decide), run, hp]
    rfl
  have e2 : rd2 b = inc (adv r0 2) := by
    unfold rd2
    rw [e1]
    unfold want may isB
    rw [hp]
    rfl
  have hp2 : peek b (adv (inc (adv r0 2)) 8190) = (none, fail (adv (inc (adv r0 2)) 8190) 2 8192) := by
    rw [peek_cons rfl d3, if_pos (by decide), if_neg (by decide)]
    rfl
  have e3 : rd3 b = ([], fail (adv (inc (adv r0 2)) 8190) 2 8192) := by
    unfold rd3 plain
    rw [e2, hlen, show 8196 + 1 = (6 + 1) + 8190 from rfl, run_rep (by decide) 8190 (inc (adv r0 2)) _ rfl d2 (by decide), run, hp2]
  have hr : (rd3 b).2.err = 2 ∧ (rd3 b).2.bad = (8192 : Nat) := by rw [e3]; decide
  exact parse_stop (k := 8192) (m := 1) hr.1 (by decide) (by decide) hr.2 (by rw [d3]; rfl)
end Go.Proofs.YtcanagkflbbmaaaDoor.L
