/- Commands: words that are written are read again. -/
import Derived.Test.YtcanagkflbbmaaaDoorLCmdT
import Derived.Test.YtcanagkflbbmaaaDoorLCmd11
set_option linter.unusedVariables false
set_option linter.unusedSimpArgs false
set_option maxRecDepth 100000
set_option maxHeartbeats 8000000
namespace Go.Proofs.YtcanagkflbbmaaaDoor.L
open Go Go.Proofs Go.Dev Go.RowKit
def quotable (c : UInt8) : Bool := decide (c ≠ 0) && decide (c ≠ 13) && decide (c ≠ 10) && decide (c.toNat ≤ 127)
def esc (c : UInt8) : Txt := if c = 34 ∨ c = 92 then [92, c] else [c]
def escs (t : Txt) : Txt := (t.map esc).flatten
def quoteT (t : Txt) : Txt := 34 :: (escs t ++ [34])
def qok (t : Txt) : Bool := decide (t.length ≤ 8192) && t.all quotable
def nstr (t : Txt) : Txt := if qok t = true then quoteT t else litHead (digs t.length) true ++ t
mutual
def shW : Word → Txt
  | .mk t q l i => if i = true then 40 :: (shL l ++ [41]) else if q = true then nstr t else t
def shL : List Word → Txt
  | [] => []
  | w :: l => shW w ++ shR l
def shR : List Word → Txt
  | [] => []
  | w :: l => 32 :: (shW w ++ shR l)
end
theorem shW_li (l : List Word) : shW (.mk [] false l true) = 40 :: (shL l ++ [41]) := by simp [shW]
theorem shW_qu (t : Txt) : shW (.mk t true [] false) = nstr t := by simp [shW]
theorem shW_pl (t : Txt) : shW (.mk t false [] false) = t := by simp [shW]
theorem shL_cons (w : Word) (l : List Word) : shL (w :: l) = shW w ++ shR l := by simp [shL]
theorem shR_cons (w : Word) (l : List Word) : shR (w :: l) = 32 :: (shW w ++ shR l) := by simp [shR]
theorem shR_nil : shR [] = [] := by simp [shR]
/-- What is read as a word within so many lists. -/
inductive OkW : Nat → Word → Prop
  | pl (d : Nat) (t : Txt) (h : Run noPlain t) (ne : t ≠ []) : OkW d (.mk t false [] false)
  | qu (d : Nat) (t : Txt) (hl : t.length ≤ 65536) : OkW d (.mk t true [] false)
  | li (d : Nat) (l : List Word) (h : ∀ w ∈ l, OkW d w) : OkW (d + 1) (.mk [] false l true)
def term (c : UInt8) : Prop := c = 32 ∨ c = 41 ∨ c = 13
theorem term_vis {c : UInt8} (h : term c) : vis noPlain c = false := by
  rcases h with rfl | rfl | rfl <;> decide
theorem quotedL_rd {b : Txt} : ∀ (t : Txt) (n : Nat) (acc : Txt) (s : RS) (r : Txt), t.all quotable = true → At b s (escs t ++ 34 :: r) → t.length < n → quotedL b n acc s = (acc ++ t, adv s ((escs t).length + 1))
  | [], n + 1, acc, s, r, _, h, _ => by
    have h' : At b s (34 :: r) := h
    rw [quotedL, h'.peek]
    simp [escs, next_adv]
  | c :: t, n + 1, acc, s, r, hq, h, hn => by
    simp only [List.all_cons, Bool.and_eq_true] at hq
    obtain ⟨hc, ht⟩ := hq
    simp only [quotable, Bool.and_eq_true, decide_eq_true_eq] at hc
    obtain ⟨⟨⟨q0, q13⟩, q10⟩, q127⟩ := hc
    have e : escs (c :: t) = esc c ++ escs t := by simp [escs]
    rw [e] at h ⊢
    by_cases hs : c = 34 ∨ c = 92
    · have ee : esc c = [92, c] := if_pos hs
      rw [ee] at h ⊢
      have h1 : At b s (92 :: c :: (escs t ++ 34 :: r)) := by simpa using h
      have h2 := h1.next
      rw [quotedL, h1.peek]
      simp only
      rw [if_neg (by decide), if_neg (by decide), if_neg (by decide), if_neg (by decide), if_neg (by decide), if_pos trivial, h2.peek]
      simp only
      have ih := quotedL_rd t n (acc ++ [c]) (next (next s)) r ht h2.next (by simp at hn; omega)
      rcases hs with rfl | rfl
      · rw [if_pos rfl, ih, next_adv, next_adv, adv_adv, adv_adv]
        simp
        congr 1
        omega
      · rw [if_neg (by decide), if_pos rfl, ih, next_adv, next_adv, adv_adv, adv_adv]
        simp
        congr 1
        omega
    · have ee : esc c = [c] := if_neg hs
      rw [ee] at h ⊢
      have h1 : At b s (c :: (escs t ++ 34 :: r)) := by simpa using h
      have n34 : ¬c = 34 := fun e => hs (.inl e)
      have n92 : ¬c = 92 := fun e => hs (.inr e)
      rw [quotedL, h1.peek]
      simp only
      rw [if_neg q0, if_neg q13, if_neg q10, if_neg (by omega), if_neg n34, if_neg n92, quotedL_rd t n (acc ++ [c]) (next s) r ht h1.next (by simp at hn; omega), next_adv, adv_adv]
      simp
      congr 1
      omega
  | [], 0, _, _, _, _, _, h => by simp at h
  | _ :: _, 0, _, _, _, _, _, h => by simp at h
theorem escs_len (t : Txt) : t.length ≤ (escs t).length ∧ (escs t).length ≤ 2 * t.length := by
  induction t with
  | nil => simp [escs]
  | cons c t ih =>
    have e : escs (c :: t) = esc c ++ escs t := by simp [escs]
    have : 1 ≤ (esc c).length ∧ (esc c).length ≤ 2 := by unfold esc; split <;> simp
    rw [e, List.length_append, List.length_cons]
    omega
theorem quoted_rd {b t r : Txt} {s : RS} (hq : qok t = true) (h : At b s (quoteT t ++ r)) : quoted b s = (t, adv s (quoteT t).length) := by
  simp only [qok, Bool.and_eq_true, decide_eq_true_eq] at hq
  have h1 : At b s (34 :: (escs t ++ 34 :: r)) := by simpa [quoteT] using h
  have hl := h1.len (by simp)
  have he := escs_len t
  unfold quoted
  rw [h1.want, quotedL_rd t (b.length + 1) [] (next s) r hq.2 h1.next (by simp at hl; omega), next_adv, adv_adv]
  simp [quoteT]
  congr 1
  omega
theorem wordW_quo {b : Txt} {d : Nat} {s : RS} {r : Txt} (h : At b s (34 :: r)) (hw : s.words < 1000) : wordW b d s = (.mk (quoted b (inc s)).1 true [] false, (quoted b (inc s)).2) := by
  have k : ∀ l, wordF b l s = (.mk (quoted b (inc s)).1 true [] false, (quoted b (inc s)).2) := fun l => by
    rw [wordF_some (by rw [h.peek]) (by omega), if_pos rfl]
  cases d <;> exact k _
theorem wordW_lst {b : Txt} {d : Nat} {s : RS} {r : Txt} (h : At b s (40 :: r)) (hw : s.words < 1000) : wordW b (d + 1) s = listF b (wordW b d) (inc s) := by
  show wordF b (some (listF b (wordW b d))) s = _
  rw [wordF_some (by rw [h.peek]) (by omega), if_neg (by decide), if_neg (by decide), if_pos rfl]
theorem run_head {t : Txt} (h : Run noPlain t) (ne : t ≠ []) : ∃ c r, t = c :: r ∧ c ≠ 34 ∧ c ≠ 123 ∧ c ≠ 40 ∧ c ≠ 41 := by
  cases h with
  | nil => exact absurd rfl ne
  | chr c w hv h91 hw =>
    refine ⟨c, w, rfl, ?_, ?_, ?_, ?_⟩ <;> (intro e; subst e; revert hv; decide)
  | brk x w hv hx hw => exact ⟨91, x ++ w, rfl, by decide, by decide, by decide, by decide⟩
/-- Words that are no lists. -/
theorem flat_rd {b : Txt} {d : Nat} {t : Txt} {s : RS} {r : Txt} {c : UInt8} (hc : term c) (hw : s.words < 1000) :
    ((Run noPlain t ∧ t ≠ []) → At b s (t ++ c :: r) → ∃ u, wordW b d s = (.mk t false [] false, u) ∧ At b u (c :: r) ∧ u.words = s.words + 1) ∧
    (t.length ≤ 65536 → At b s (nstr t ++ c :: r) → ∃ u, wordW b d s = (.mk t true [] false, u) ∧ At b u (c :: r) ∧ u.words = s.words + 1) := by
  refine ⟨fun ⟨hr, ne⟩ h => ?_, fun ht h => ?_⟩
  · obtain ⟨x, y, rfl, q1, q2, q3, _⟩ := run_head hr ne
    have hp : plain b (inc s) = (x :: y, adv (inc s) (x :: y).length) := by
      have hl := h.len (by simp)
      have e : run b noPlain (brk b) (inc s).at_ (b.length + 1) (inc s) = _ := run_rd (from_ := (inc s).at_) (term_vis hc) hr (b.length + 1) (inc s) h.inc (by simp at hl ⊢; omega) (by simp)
      rw [h.inc.d, Nat.add_sub_cancel_left, List.take_left] at e
      exact e
    have hw' := wordW_plain (d := d) (r := y ++ c :: r) h hw q1 q2 q3
    rw [hp] at hw'
    exact ⟨_, hw', h.inc.adv, rfl⟩
  · by_cases hq : qok t = true
    · have e : nstr t = quoteT t := if_pos hq
      rw [e] at h
      have hw' := wordW_quo (d := d) (r := escs t ++ [34] ++ c :: r) (by simpa [quoteT] using h) hw
      rw [quoted_rd hq h.inc] at hw'
      exact ⟨_, hw', h.inc.adv, rfl⟩
    · have e : nstr t = litHead (digs t.length) true ++ t := if_neg hq
      rw [e, List.append_assoc] at h
      have hw' := wordW_lit (d := d) (r := (digs t.length ++ ((if true then [43] else []) ++ [125, 13, 10])) ++ (t ++ c :: r)) (by simpa [litHead] using h) hw
      have el := literal_at (digs_all t.length) (digs_pos t.length) (by have := digs_len 4 t.length (by omega); omega) (digs_val t.length) ht (by simp) h.inc
      rw [el] at hw'
      refine ⟨_, hw', ⟨h.e, ?_, h.b⟩, rfl⟩
      exact (h.inc.adv.adv).d
theorem sizes_cons (w : Word) (l : List Word) : Word.size.sizes (w :: l) = w.size + Word.size.sizes l := by simp [Word.size.sizes]
theorem size_pos (w : Word) : 1 ≤ w.size := by cases w; simp [Word.size]
theorem sizes_len : ∀ l : List Word, l.length ≤ Word.size.sizes l
  | [] => Nat.zero_le _
  | w :: l => by
    have := sizes_len l
    have := size_pos w
    rw [sizes_cons, List.length_cons]
    omega
def RdW (b : Txt) (d : Nat) (w : Word) : Prop := ∀ (s : RS) (r : Txt) (c : UInt8), term c → At b s (shW w ++ c :: r) → s.words + w.size ≤ 1000 → ∃ u, wordW b d s = (w, u) ∧ At b u (c :: r) ∧ u.words = s.words + w.size
theorem list_rd {b : Txt} {d : Nat} : ∀ (l : List Word) (w : Word) (acc : List Word) (n : Nat) (s : RS) (r : Txt), RdW b d w → (∀ x ∈ l, RdW b d x) → At b s (shW w ++ (shR l ++ 41 :: r)) → s.words + Word.size.sizes (w :: l) ≤ 1000 → l.length < n → ∃ u, listL b (wordW b d) (n + 1) acc s = (acc ++ w :: l, u) ∧ At b u r ∧ u.words = s.words + Word.size.sizes (w :: l)
  | [], w, acc, n, s, r, hw, _, h, hs, hn => by
    rw [shR_nil] at h
    rw [sizes_cons] at hs ⊢
    obtain ⟨u, e1, e2, e3⟩ := hw s r 41 (.inr (.inl rfl)) h (by omega)
    rw [listL, if_pos h.e, e1]
    simp only
    rw [e2.may, if_pos rfl]
    exact ⟨next u, rfl, e2.next, by simp only [next, Word.size.sizes]; omega⟩
  | w2 :: l, w, acc, n, s, r, hw, hl, h, hs, hn => by
    rw [shR_cons] at h
    rw [sizes_cons] at hs ⊢
    obtain ⟨u, e1, e2, e3⟩ := hw s (shW w2 ++ shR l ++ 41 :: r) 32 (.inl rfl) (by simpa using h) (by omega)
    obtain ⟨n, rfl⟩ : ∃ k, n = k + 1 := ⟨n - 1, by simp at hn; omega⟩
    obtain ⟨v, f1, f2, f3⟩ := list_rd l w2 (acc ++ [w]) n (next u) r (hl w2 (List.mem_cons_self ..)) (fun x hx => hl x (List.mem_cons_of_mem _ hx)) (by simpa using e2.next) (by simp only [next]; omega) (by simp at hn; omega)
    rw [listL, if_pos h.e, e1]
    simp only
    rw [e2.may_no (by decide), if_neg (by simp), e2.want, f1]
    exact ⟨v, by simp, f2, by rw [f3]; simp only [next]; omega⟩
theorem word_rd {b : Txt} : ∀ (d : Nat) (w : Word), OkW d w → RdW b d w := by
  intro d
  induction d with
  | zero =>
    intro w hw s r c hc h hs
    cases hw with
    | pl _ t hr ne =>
      rw [shW_pl] at h
      exact (flat_rd hc (by simp [Word.size] at hs; omega)).1 ⟨hr, ne⟩ h
    | qu _ t ht =>
      rw [shW_qu] at h
      exact (flat_rd hc (by simp [Word.size] at hs; omega)).2 ht h
  | succ d ih =>
    intro w hw s r c hc h hs
    cases hw with
    | pl _ t hr ne =>
      rw [shW_pl] at h
      exact (flat_rd hc (by simp [Word.size] at hs; omega)).1 ⟨hr, ne⟩ h
    | qu _ t ht =>
      rw [shW_qu] at h
      exact (flat_rd hc (by simp [Word.size] at hs; omega)).2 ht h
    | li _ l hl =>
      rw [shW_li] at h
      have hsz : (Word.mk [] false l true).size = 1 + Word.size.sizes l := by simp [Word.size]
      rw [hsz] at hs ⊢
      have h1 : At b s (40 :: (shL l ++ (41 :: c :: r))) := by simpa using h
      have h2 := h1.inc.next
      rw [wordW_lst h1 (by omega)]
      unfold listF
      rw [h1.inc.want]
      cases l with
      | nil =>
        have h3 : At b (next (inc s)) (41 :: c :: r) := by simpa [shL] using h2
        rw [h3.may, if_pos rfl]
        exact ⟨_, rfl, h3.next, by simp [next, inc, Word.size.sizes]⟩
      | cons w l =>
        rw [shL_cons, List.append_assoc] at h2
        have hne : ∃ x y, shW w = x :: y ∧ x ≠ 41 := by
          have hw := hl w (List.mem_cons_self ..)
          cases hw with
          | pl _ t hr ne =>
            obtain ⟨x, y, rfl, _, _, _, q⟩ := run_head hr ne
            exact ⟨x, y, shW_pl _, q⟩
          | qu _ t ht =>
            rw [shW_qu]
            unfold nstr
            split
            · exact ⟨34, _, rfl, by decide⟩
            · exact ⟨123, _, rfl, by decide⟩
          | li _ l hl => exact ⟨40, _, shW_li l, by decide⟩
        obtain ⟨x, y, hx, hx41⟩ := hne
        have h3 : At b (next (inc s)) (x :: (y ++ (shR l ++ (41 :: c :: r)))) := by rw [hx] at h2; simpa using h2
        rw [h3.may_no hx41, if_neg (by simp)]
        have hsl := sizes_len (w :: l)
        obtain ⟨u, e1, e2, e3⟩ := list_rd l w [] 1001 (next (inc s)) (c :: r) (ih w (hl w (List.mem_cons_self ..))) (fun x hx => ih x (hl x (List.mem_cons_of_mem _ hx))) h2 (by simp only [next, inc]; omega) (by simp at hsl; omega)
        rw [e1]
        exact ⟨u, rfl, e2, by rw [e3]; simp only [next, inc]; omega⟩
theorem args_rd {b : Txt} : ∀ (l : List Word) (acc : List Word) (n : Nat) (s : RS) (r : Txt), (∀ w ∈ l, OkW 32 w) → At b s (shR l ++ 13 :: 10 :: r) → s.words + Word.size.sizes l ≤ 1000 → l.length < n → ∃ u, argsL b n acc s = (acc ++ l, u) ∧ At b u r
  | [], acc, n, s, r, _, h, hs, hn => by
    obtain ⟨n, rfl⟩ : ∃ k, n = k + 1 := ⟨n - 1, by simp at hn; omega⟩
    rw [shR_nil] at h
    have h' : At b s (13 :: 10 :: r) := h
    rw [argsL, if_pos h.e, h'.isB, if_pos (by simp)]
    simp only
    rw [h'.endL]
    exact ⟨_, by simp, At.adv (w := [13, 10]) h'⟩
  | w :: l, acc, n, s, r, hl, h, hs, hn => by
    obtain ⟨n, rfl⟩ : ∃ k, n = k + 1 := ⟨n - 1, by simp at hn; omega⟩
    rw [shR_cons] at h
    rw [sizes_cons] at hs
    have h' : At b s (32 :: (shW w ++ (shR l ++ 13 :: 10 :: r))) := by simpa using h
    obtain ⟨c, r', hc, hr'⟩ : ∃ c r', term c ∧ shR l ++ 13 :: 10 :: r = c :: r' := by
      cases l with
      | nil => exact ⟨13, 10 :: r, .inr (.inr rfl), by rw [shR_nil]; rfl⟩
      | cons w2 l => exact ⟨32, _, .inl rfl, by rw [shR_cons]; rfl⟩
    have h2 := h'.next
    rw [hr'] at h2
    obtain ⟨u, e1, e2, e3⟩ := word_rd 32 w (hl w (List.mem_cons_self ..)) (next s) r' c hc h2 (by simp only [next]; omega)
    rw [← hr'] at e2
    obtain ⟨v, f1, f2⟩ := args_rd l (acc ++ [w]) n u r (fun x hx => hl x (List.mem_cons_of_mem _ hx)) e2 (by rw [e3]; simp only [next]; omega) (by simp at hn; omega)
    rw [argsL, if_pos h.e, h'.isB, if_neg (by simp), h'.want, e1]
    simp only
    rw [f1]
    exact ⟨v, by simp, f2⟩
end Go.Proofs.YtcanagkflbbmaaaDoor.L
