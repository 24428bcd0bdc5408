/- Commands: reading of short texts, step by step. -/
import Derived.Test.YtcanagkflbbmaaaDoorLCmdR
set_option linter.unusedVariables false
set_option linter.unusedSimpArgs false
set_option maxRecDepth 100000
set_option maxHeartbeats 8000000
namespace Go.Proofs.YtcanagkflbbmaaaDoor.L
open Go Go.Proofs Go.Dev Go.RowKit
/-- No error, and what comes next. -/
structure At (b : Txt) (s : RS) (l : Txt) : Prop where
  e : s.err = 0
  d : b.drop s.at_ = l
  b : b.length ≤ 8192
def adv (s : RS) (k : Nat) : RS := { s with at_ := s.at_ + k }
theorem adv_adv (s : RS) (i j : Nat) : adv (adv s i) j = adv s (i + j) := by unfold adv; simp [Nat.add_assoc]
theorem adv_zero (s : RS) : adv s 0 = s := rfl
theorem next_adv (s : RS) : next s = adv s 1 := rfl
theorem At.adv {b : Txt} {s : RS} {w r : Txt} (h : At b s (w ++ r)) : At b (adv s w.length) r := ⟨h.e, by
  show b.drop (s.at_ + w.length) = r
  rw [← List.drop_drop, h.d, List.drop_left], h.b⟩
theorem At.next {b : Txt} {s : RS} {c : UInt8} {r : Txt} (h : At b s (c :: r)) : At b (next s) r := At.adv (w := [c]) h
theorem At.len {b : Txt} {s : RS} {l : Txt} (h : At b s l) (hl : l ≠ []) : b.length = s.at_ + l.length := by
  have := congrArg List.length h.d
  have hp : 0 < l.length := List.length_pos_iff.2 hl
  simp at this
  omega
theorem At.peek {b : Txt} {s : RS} {c : UInt8} {r : Txt} (h : At b s (c :: r)) : peek b s = (some c, s) := by
  rw [peek_cons h.e h.d, if_neg]
  intro h1
  have := h.len (by simp)
  have := h.b
  simp at *
  omega
theorem At.peek0 {b : Txt} {s : RS} (h : At b s []) : L.peek b s = (none, fail s 8 s.at_) := peek_nil h.e h.d
theorem At.isB {b : Txt} {s : RS} {c : UInt8} {r : Txt} (h : At b s (c :: r)) (d : UInt8) : isB b s d = (decide (c = d), s) := by
  unfold L.isB
  rw [h.peek]
  simp
theorem At.may {b : Txt} {s : RS} {c : UInt8} {r : Txt} (h : At b s (c :: r)) : may b s c = (true, L.next s) := by
  unfold L.may
  rw [h.isB]
  simp
theorem At.may_no {b : Txt} {s : RS} {c d : UInt8} {r : Txt} (h : At b s (c :: r)) (hd : c ≠ d) : L.may b s d = (false, s) := by
  unfold L.may
  rw [h.isB]
  simp [hd]
theorem At.want {b : Txt} {s : RS} {c : UInt8} {r : Txt} (h : At b s (c :: r)) : want b s c = L.next s := by
  unfold L.want
  rw [h.may]
  simp
theorem At.endL {b : Txt} {s : RS} {r : Txt} (h : At b s (13 :: 10 :: r)) : endL b s = L.adv s 2 := by
  have hl := h.len (by simp)
  simp only [List.length_cons] at hl
  rw [endL_eq (by rw [h.isB]; simp) (by rw [h.isB]), if_neg (by omega), if_neg, L.adv]
  have := h.next.d
  have h2 : b[s.at_ + 1]? = some 10 := by
    have e := List.getElem?_drop (xs := b) (i := s.at_ + 1) (j := 0)
    rw [show b.drop (s.at_ + 1) = 10 :: r from this] at e
    simpa using e.symm
  simp [h2]
theorem run_at {b no r : Txt} {op : RS → RS} {from_ : Nat} {d : UInt8} (hd : vis no d = false) : ∀ (w : Txt) (n : Nat) (s : RS), (∀ c ∈ w, vis no c = true ∧ c ≠ 91) → At b s (w ++ d :: r) → w.length < n → s.at_ + w.length ≠ from_ → run b no op from_ n s = ((b.drop from_).take (s.at_ + w.length - from_), adv s w.length)
  | [], n + 1, s, _, h, _, hf => by
    rw [run, At.peek h]
    simp only [hd, Bool.false_eq_true, if_false, List.length_nil, Nat.add_zero]
    rw [if_neg (by simpa using hf)]
    rfl
  | c :: w, n + 1, s, hw, h, hn, hf => by
    obtain ⟨h1, h2⟩ := hw c (List.mem_cons_self ..)
    have h' : At b s (c :: (w ++ d :: r)) := h
    rw [run, h'.peek]
    simp only [h1, if_true, if_neg h2]
    rw [run_at hd w n (next s) (fun x hx => hw x (List.mem_cons_of_mem _ hx)) h'.next (by simp at hn; omega) (by simp only [next] at *; simp at hf; omega)]
    simp only [next_adv, adv_adv, List.length_cons, adv]
    rw [Nat.add_assoc, Nat.add_comm 1]
  | [], 0, _, _, _, h, _ => by simp at h
  | _ :: _, 0, _, _, _, h, _ => by simp at h
theorem run_from {b no r : Txt} {op : RS → RS} {d : UInt8} {w : Txt} {n : Nat} {s : RS} (hd : vis no d = false) (hw : ∀ c ∈ w, vis no c = true ∧ c ≠ 91) (h : At b s (w ++ d :: r)) (hn : w.length < n) (h0 : w ≠ []) : run b no op s.at_ n s = (w, adv s w.length) := by
  have hp : 0 < w.length := List.length_pos_iff.2 h0
  rw [run_at hd w n s hw h hn (by omega), h.d, Nat.add_sub_cancel_left, List.take_left]
theorem digitsL_at {b r : Txt} {from_ : Nat} {d : UInt8} (hd : isDig d = false) : ∀ (w : Txt) (n : Nat) (s : RS), w.all isDig = true → At b s (w ++ d :: r) → w.length < n → s.at_ + w.length < from_ + 10 → digitsL b from_ n s = adv s w.length
  | [], n + 1, s, _, h, _, hf => by
    rw [digitsL, At.peek h, if_pos (by simp at hf; omega)]
    simp only [isDig, Bool.and_eq_false_iff, decide_eq_false_iff_not] at hd
    simp only [List.length_nil, adv_zero]
    split
    · rfl
    · rw [if_pos (by omega)]
  | c :: w, n + 1, s, hw, h, hn, hf => by
    have h' : At b s (c :: (w ++ d :: r)) := h
    simp only [List.all_cons, Bool.and_eq_true] at hw
    have hc := hw.1
    simp only [isDig, Bool.and_eq_true, decide_eq_true_eq] at hc
    simp only [List.length_cons] at hf hn
    rw [digitsL, h'.peek, if_pos (by omega)]
    simp only
    rw [if_neg (by omega), if_neg (by omega), digitsL_at hd w n (next s) hw.2 h'.next (by omega) (by simp only [next]; omega)]
    simp only [next_adv, adv_adv, List.length_cons]
    rw [Nat.add_comm 1]
  | [], 0, _, _, _, h, _ => by simp at h
  | _ :: _, 0, _, _, _, h, _ => by simp at h
/-- A literal's head. -/
def litHead (D : Txt) (plus : Bool) : Txt := 123 :: (D ++ ((if plus then [43] else []) ++ [125, 13, 10]))
theorem lit_head {b x D : Txt} {plus : Bool} {s : RS} (hD : D.all isDig = true) (h1 : 1 ≤ D.length) (h9 : D.length ≤ 9) (hv : decV D ≤ 65536) (h : At b s (litHead D plus ++ x)) :
    lt6 b s = adv s (litHead D plus).length ∧ lnum b s = (decV D, true) ∧ (lt4 b s).1 = plus := by
  have hw : want b s 123 = next s := At.want (r := D ++ ((if plus then [43] else []) ++ [125, 13, 10]) ++ x) (by simpa [litHead] using h)
  have a1 : At b (next s) (D ++ ((if plus then [43] else []) ++ [125, 13, 10] ++ x)) := by
    have : At b (next s) (D ++ ((if plus then [43] else []) ++ [125, 13, 10]) ++ x) := At.next (c := 123) (by simpa [litHead] using h)
    simpa using this
  have e2 : lt2 b s = adv (next s) D.length := by
    unfold lt2
    rw [hw]
    cases plus with
    | true => exact digitsL_at (d := 43) (r := [125, 13, 10] ++ x) (by decide) D 11 (next s) hD (by simpa using a1) (by omega) (by omega)
    | false => exact digitsL_at (d := 125) (r := [13, 10] ++ x) (by decide) D 11 (next s) hD (by simpa using a1) (by omega) (by omega)
  have en : lnum b s = (decV D, true) := by
    unfold lnum
    rw [e2, hw, show (adv (next s) D.length).at_ - (next s).at_ = D.length from by simp [adv], a1.d, List.take_left]
    unfold num
    rw [if_pos ⟨h1, by omega, hD⟩]
  have a2 : At b (adv (next s) D.length) ((if plus then [43] else []) ++ [125, 13, 10] ++ x) := a1.adv
  have e3 : lt3 b s = adv (next s) D.length := by
    unfold lt3
    rw [en, e2]
    rfl
  have e4 : lt4 b s = (plus, if plus then next (adv (next s) D.length) else adv (next s) D.length) := by
    unfold lt4
    rw [e3]
    cases plus with
    | true => exact At.may (r := [125, 13, 10] ++ x) (by simpa using a2)
    | false => exact At.may_no (c := 125) (r := [13, 10] ++ x) (by simpa using a2) (by decide)
  have a4 : At b (lt4 b s).2 ([125, 13, 10] ++ x) := by
    rw [e4]
    cases plus with
    | true => exact At.next (c := 43) (by simpa using a2)
    | false => simpa using a2
  have e5 : lt5 b s = adv (lt4 b s).2 3 := by
    unfold lt5
    rw [At.want (r := [13, 10] ++ x) (by simpa using a4)]
    have : At b (next (lt4 b s).2) (13 :: 10 :: x) := At.next (c := 125) (by simpa using a4)
    rw [this.endL]
    simp [next_adv, adv_adv]
  refine ⟨?_, en, by rw [e4]⟩
  have e6 : lt6 b s = lt5 b s := by
    unfold lt6
    rw [en, if_neg (by simp only; omega)]
  rw [e6, e5, e4]
  cases plus <;> simp [next_adv, adv_adv, litHead] <;> congr 1 <;> omega
theorem literal_at {b x D t : Txt} {plus : Bool} {s : RS} (hD : D.all isDig = true) (h1 : 1 ≤ D.length) (h9 : D.length ≤ 9) (hv : decV D = t.length) (ht : t.length ≤ 65536) (hx : x ≠ []) (h : At b s (litHead D plus ++ (t ++ x))) :
    literal b s = (t, ⟨s.at_ + (litHead D plus).length + t.length, s.at_ + (litHead D plus).length + t.length, s.words, s.err, s.bad, false⟩) := by
  obtain ⟨e6, en, e4⟩ := lit_head hD h1 h9 (by omega) h
  have a := h.adv
  have hl := a.len (by simp [hx])
  have hxl : 0 < x.length := List.length_pos_iff.2 hx
  simp only [List.length_append] at hl
  rw [literal_g (by rw [e6]; exact h.e) (by rw [e6]; simp only [adv] at *; omega) (by rw [e6, en]; simp only [adv] at *; omega), e6, en, hv, a.d, List.take_left]
  simp [adv, h.e]
end Go.Proofs.YtcanagkflbbmaaaDoor.L
