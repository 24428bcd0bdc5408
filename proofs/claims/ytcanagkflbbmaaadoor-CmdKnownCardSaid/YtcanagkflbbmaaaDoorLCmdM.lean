/- Commands: a literal is read as it was written. -/
import Derived.Test.YtcanagkflbbmaaaDoorLCmdL
set_option linter.unusedVariables false
set_option linter.unusedSimpArgs false
set_option maxRecDepth 100000
set_option maxHeartbeats 8000000
namespace Go.Proofs.YtcanagkflbbmaaaDoor.L
open Go Go.Proofs Go.Dev Go.RowKit
def dig (n : Nat) : UInt8 := UInt8.ofNat (48 + n % 10)
def digs (n : Nat) : Txt := if n < 10 then [dig n] else digs (n / 10) ++ [dig n]
theorem dig_nat (n : Nat) : (dig n).toNat = 48 + n % 10 := by
  unfold dig
  simp
  omega
theorem dig_is (n : Nat) : isDig (dig n) = true := by
  unfold isDig
  rw [dig_nat]
  simp
  omega
theorem digs_all : ∀ n, (digs n).all isDig = true := by
  intro n
  induction n using Nat.strongRecOn with
  | ind n ih =>
    rw [digs]
    split
    · simp [dig_is]
    · rw [List.all_append, ih (n / 10) (by omega)]
      simp [dig_is]
theorem digs_val : ∀ n, decV (digs n) = n := by
  intro n
  induction n using Nat.strongRecOn with
  | ind n ih =>
    rw [digs]
    split
    · simp only [decV, List.foldl_cons, List.foldl_nil, dig_nat]
      omega
    · rw [decV_snoc, ih (n / 10) (by omega), dig_nat]
      omega
theorem digs_pos (n : Nat) : 1 ≤ (digs n).length := by
  rw [digs]
  split <;> simp
theorem digs_len : ∀ (k n : Nat), n < 10 ^ (k + 1) → (digs n).length ≤ k + 1
  | 0, n, h => by
    rw [digs, if_pos (by simpa using h)]
    simp
  | k + 1, n, h => by
    rw [digs]
    split
    · simp
    · have := digs_len k (n / 10) (by rw [Nat.pow_succ] at h; omega)
      simp
      omega
theorem argsL_stop {b : Txt} {n : Nat} {acc : List Word} {s : RS} (h : s.err ≠ 0) : argsL b n acc s = (acc, s) := by
  cases n with
  | zero => rfl
  | succ n => rw [argsL, if_neg h]
theorem wordF_stop {b : Txt} {l : Option (RS → Word × RS)} {s : RS} (h : s.err ≠ 0) : wordF b l s = (noW, s) := by
  unfold wordF
  rw [peek_keep h]
theorem wordW_stop {b : Txt} {d : Nat} {s : RS} (h : s.err ≠ 0) : wordW b d s = (noW, s) := by
  cases d <;> exact wordF_stop h
theorem At.inc {b : Txt} {s : RS} {l : Txt} (h : At b s l) : At b (L.inc s) l := ⟨h.e, h.d, h.b⟩
theorem wordW_lit {b : Txt} {d : Nat} {s : RS} {r : Txt} (h : At b s (123 :: r)) (hw : s.words < 1000) : wordW b d s = (.mk (literal b (inc s)).1 true [] false, (literal b (inc s)).2) := by
  have k : ∀ l, wordF b l s = (.mk (literal b (inc s)).1 true [] false, (literal b (inc s)).2) := fun l => by
    rw [wordF_some (by rw [h.peek]) (by omega), if_neg (by decide), if_pos rfl]
  cases d <;> exact k _
/-- "t append ". -/
def tApp : Txt := [116, 32, 97, 112, 112, 101, 110, 100, 32]
theorem head_parse {b y : Txt} (h : At b r0 (tApp ++ y)) (hy : y ≠ []) : (rd1 b).1 = [116] ∧ (rd3 b).1.map upper = [65, 80, 80, 69, 78, 68] ∧ (rd3 b).2 = adv (inc r0) 8 := by
  have hl := h.len (by simp [tApp])
  have h0 : b = tApp ++ y := by have := h.d; simpa [r0] using this
  simp only [List.length_append] at hl
  have hl9 : 9 ≤ b.length := by rw [h0]; simp [tApp]
  have e1' : run b noTag noop r0.at_ (b.length + 1) r0 = ([116], adv r0 1) := run_from (w := [116]) (d := 32) (r := [97, 112, 112, 101, 110, 100, 32] ++ y) (by decide) (by decide) (by simpa [tApp] using h) (by simp; omega) (by decide)
  have e1 : rd1 b = ([116], adv r0 1) := e1'
  have a1 : At b (adv r0 1) (32 :: ([97, 112, 112, 101, 110, 100] ++ 32 :: y)) := At.adv (w := [116]) h
  have e2 : rd2 b = adv (inc r0) 2 := by
    unfold rd2
    rw [e1]
    simp only
    rw [a1.want]
    rfl
  have a2 : At b (rd2 b) ([97, 112, 112, 101, 110, 100] ++ 32 :: y) := by
    rw [e2]
    exact ⟨a1.next.e, a1.next.d, h.b⟩
  have e3' : run b noPlain (brk b) (rd2 b).at_ (b.length + 1) (rd2 b) = ([97, 112, 112, 101, 110, 100], adv (rd2 b) 6) := run_from (w := [97, 112, 112, 101, 110, 100]) (d := 32) (r := y) (by decide) (by decide) a2 (by simp; omega) (by decide)
  have e3 : rd3 b = ([97, 112, 112, 101, 110, 100], adv (rd2 b) 6) := e3'
  refine ⟨by rw [e1], by rw [e3]; rfl, ?_⟩
  rw [e3, e2]
  exact adv_adv _ _ _
def litT (t : Txt) (plus : Bool) : Txt := tApp ++ litHead (digs t.length) plus
theorem litT_len (t : Txt) (plus : Bool) (ht : t.length ≤ 500) : (litT t plus).length ≤ 20 := by
  have := digs_len 2 t.length (by omega)
  unfold litT litHead tApp
  cases plus <;> simp <;> omega
theorem litHead_ne {D : Txt} {plus : Bool} : litHead D plus ≠ [] := by simp [litHead]
theorem lit_parse (t : Txt) (plus : Bool) (ht : t.length ≤ 500) :
    parseC (litT t plus ++ (t ++ [13, 10, 114, 101, 115, 116])) = ((⟨[116], [65, 80, 80, 69, 78, 68], [.mk t true [] false]⟩ : Cmd), ((litT t plus).length + t.length + 2 : Int), (0 : Int)) := by
  generalize hb : litT t plus ++ (t ++ [13, 10, 114, 101, 115, 116]) = b
  have hlen : b.length = (litT t plus).length + t.length + 6 := by rw [← hb]; simp; omega
  have h20 := litT_len t plus ht
  have h : At b r0 (tApp ++ (litHead (digs t.length) plus ++ (t ++ [13, 10, 114, 101, 115, 116]))) := ⟨rfl, by rw [← hb]; simp [r0, litT], by omega⟩
  obtain ⟨q1, q2, q3⟩ := head_parse h (by simp [litHead])
  have d1 := digs_pos t.length
  have d3 := digs_len 2 t.length (by omega)
  have a8 : At b (adv (inc r0) 8) (32 :: (litHead (digs t.length) plus ++ (t ++ [13, 10, 114, 101, 115, 116]))) := (At.adv (w := [116, 32, 97, 112, 112, 101, 110, 100]) h).inc
  have a9 := a8.next
  have eA : rdA b = ([.mk t true [] false], ⟨b.length - 4, b.length - 6, 2, 0, 0, false⟩) := by
    unfold rdA
    rw [q3, argsL, if_pos a8.e, a8.isB, if_neg (by decide), a8.want]
    rw [wordW_lit (r := (digs t.length ++ ((if plus then [43] else []) ++ [125, 13, 10])) ++ (t ++ [13, 10, 114, 101, 115, 116])) (by simpa [litHead] using a9) (by decide)]
    have el := literal_at (digs_all t.length) d1 (by omega) (digs_val t.length) (by omega) (by simp) a9.inc
    rw [el]
    simp only
    have aE : At b ⟨(inc (next (adv (inc r0) 8))).at_ + (litHead (digs t.length) plus).length + t.length, (inc (next (adv (inc r0) 8))).at_ + (litHead (digs t.length) plus).length + t.length, (inc (next (adv (inc r0) 8))).words, (inc (next (adv (inc r0) 8))).err, (inc (next (adv (inc r0) 8))).bad, false⟩ (13 :: 10 :: [114, 101, 115, 116]) := by
      have := (a9.inc.adv).adv
      exact ⟨rfl, this.d, h.b⟩
    rw [argsL, if_pos aE.e, aE.isB, if_pos (by simp)]
    simp only
    rw [aE.endL]
    have hl : (litT t plus).length = 9 + (litHead (digs t.length) plus).length := by simp [litT, tApp]; omega
    simp only [adv, inc, next, r0, List.nil_append]
    congr 2 <;> omega
  unfold parseC
  rw [eA]
  simp only [if_true]
  unfold readC
  rw [q1, q2, eA]
  simp only
  congr 2
  omega
theorem argsL_end {b : Txt} {n : Nat} {acc : List Word} {u : RS} (h : At b u []) : (argsL b (n + 1) acc u).2.err = 8 ∧ (argsL b (n + 1) acc u).2.wants = u.wants := by
  have ei : isB b u 13 = (false, fail u 8 u.at_) := by unfold isB; rw [h.peek0]; rfl
  have f8 : (fail u 8 u.at_).err = 8 := by unfold fail; rw [if_pos h.e]
  rw [argsL, if_pos h.e, ei, if_neg (by simp)]
  simp only
  rw [want_keep (by rw [f8]; decide), wordW_stop (by rw [f8]; decide), argsL_stop (by rw [f8]; decide)]
  exact ⟨f8, fail_wants _ _ _⟩
theorem literal_end {b D : Txt} {plus : Bool} {s : RS} (hD : D.all isDig = true) (h1 : 1 ≤ D.length) (h9 : D.length ≤ 9) (hv : decV D ≤ 65536) (h : At b s (litHead D plus)) : (literal b s).2.wants = !plus ∧ ((literal b s).2.err = 8 ∨ At b (literal b s).2 []) := by
  obtain ⟨e6, en, e4⟩ := lit_head (x := []) hD h1 h9 hv (by rw [List.append_nil]; exact h)
  have al : At b (adv s (litHead D plus).length) [] := At.adv (by rw [List.append_nil]; exact h)
  have hl : (lt6 b s).at_ = b.length := by
    have := h.len litHead_ne
    rw [e6]
    simp only [adv] at *
    omega
  have h0 : (lt6 b s).err = 0 := by rw [e6]; exact al.e
  have hw : (lt7 b s).wants = !plus := by
    unfold lt7
    simp only
    rw [hl, e4]
    simp
  have h7 : (lt7 b s).err = 0 := h0
  unfold literal
  rw [if_neg (by simp [h0]), en]
  split
  · exact ⟨by simp only; rw [fail_wants]; exact hw, .inl (by simp only; unfold fail; rw [if_pos h7])⟩
  · rename_i hn
    refine ⟨hw, .inr ⟨h0, ?_, h.b⟩⟩
    simp only
    exact List.drop_eq_nil_of_le (by omega)
theorem lit_wants (t : Txt) (plus : Bool) (ht : t.length ≤ 500) : (decide ((rdA (litT t plus)).2.err = 8) && (rdA (litT t plus)).2.wants) = !plus := by
  generalize hb : litT t plus = b
  have h20 : b.length ≤ 20 := by rw [← hb]; exact litT_len t plus ht
  have h : At b r0 (tApp ++ litHead (digs t.length) plus) := ⟨rfl, by rw [← hb]; simp [r0, litT], by omega⟩
  obtain ⟨q1, q2, q3⟩ := head_parse h litHead_ne
  have d1 := digs_pos t.length
  have d3 := digs_len 2 t.length (by omega)
  have a8 : At b (adv (inc r0) 8) (32 :: litHead (digs t.length) plus) := (At.adv (w := [116, 32, 97, 112, 112, 101, 110, 100]) h).inc
  have a9 := a8.next
  obtain ⟨w1, w2⟩ := literal_end (digs_all t.length) d1 (by omega) (by rw [digs_val]; omega) a9.inc
  have key : (rdA b).2.err = 8 ∧ (rdA b).2.wants = !plus := by
    unfold rdA
    rw [q3, argsL, if_pos a8.e, a8.isB, if_neg (by decide), a8.want]
    rw [wordW_lit (r := digs t.length ++ ((if plus then [43] else []) ++ [125, 13, 10])) (by simpa [litHead] using a9) (by decide)]
    simp only
    rw [← w1]
    rcases w2 with w2 | w2
    · rw [argsL_stop (by rw [w2]; decide)]
      exact ⟨w2, rfl⟩
    · exact argsL_end w2
  rw [key.1, key.2]
  simp
end Go.Proofs.YtcanagkflbbmaaaDoor.L
