/- A set that is written is read again. -/
import Derived.Test.YtdmpnjebomdllaaDoorPSeqLib
import Derived.Test.YtdmpnjebomdllaaDoorPDec
import Derived.Test.YtdmpnjebomdllaaDoorPCut
import Derived.Test.YtdmpnjebomdllaaDoorX1
import Derived.Test.YtdmpnjebomdllaaDoorX2
namespace Go.Proofs.Mine
open Go.RowKit Go.Proofs.YtdmpnjebomdllaaDoorW.PrintWords Go.Proofs.YtdmpnjebomdllaaDoorW.PrintLast Go.Proofs.YtdmpnjebomdllaaDoor.X
set_option linter.unusedSimpArgs false

def showL (n : Int) : List UInt8 := if n = 0 then [42] else decB n.toNat
def May (n : Int) : Prop := 0 ≤ n ∧ n ≤ 4294967295
theorem show_eq {n : Int} (h : May n) : seq_show.f n = some ⟨(showL n).toArray⟩ := by
  unfold seq_show.f showL
  obtain ⟨h0, h1⟩ := h
  by_cases hz : n = 0
  · rw [if_pos hz, if_pos hz]
  · have e : itoaF n = decB n.toNat := by
      unfold itoaF
      rw [if_neg (by omega), ← decF_eq 19 n.toNat (by have : (10 : Nat) ^ (19 + 1) = 100000000000000000000 := (by decide); omega), decDigits_eq]
    rw [if_neg hz, if_neg hz]
    unfold strconv_FormatInt.f
    rw [decide_eq_true (by omega), decide_eq_true (by omega), decide_eq_true rfl, Bool.and_true, Bool.and_true, if_pos rfl, Option.bind_some, e]
theorem showL_len {n : Int} (h : May n) : 1 ≤ (showL n).length ∧ (showL n).length ≤ 10 := by
  unfold showL
  split
  · simp
  · rw [decB_len]
    exact ⟨digs_pos _, digs_len 9 _ (by obtain ⟨h0, h1⟩ := h; have : (10 : Nat) ^ (9 + 1) = 10000000000 := (by decide); omega)⟩
theorem showL_byte {n : Int} : ∀ b ∈ showL n, b ≠ 44 ∧ b ≠ 58 := by
  intro b hb
  unfold showL at hb
  split at hb
  · rw [List.mem_singleton.1 hb]; decide
  · have := decB_byte b hb
    constructor
    · rintro rfl
      exact absurd this.1 (by decide)
    · rintro rfl
      exact absurd this.2 (by decide)
theorem num_loop (s : ByteArray) (hs : s.size ≤ 1000) : ∀ (ds : List Nat) (pre : List Int) (acc : Nat), bytesOf s = pre ++ ds.map (fun (d : Nat) => 48 + (d : Int)) → (∀ d ∈ ds, d ≤ 9) → (acc + 1) * 10 ^ ds.length ≤ 1000000000000 →
    Ev (fun k => seq_number.l0 k s (acc : Int) (s.size : Int) (pre.length : Int)) (((ds.foldl (fun a d => a * 10 + d) acc : Nat) : Int), decide (((ds.foldl (fun a d => a * 10 + d) acc : Nat) : Int) ≤ 4294967295)) := by
  intro ds
  induction ds with
  | nil =>
    intro pre acc h _ _
    have hl : s.size = pre.length := by rw [size_of h]; simp
    refine Ev.after fun k => ?_
    rw [seq_number.l0, if_neg (by omega)]
    rfl
  | cons d ds ih =>
    intro pre acc h hd hb
    have hl : s.size = pre.length + (ds.length + 1) := by rw [size_of h]; simp
    have hd0 := hd d (by simp)
    have hbt : bt s (pre.length : Int) = 48 + (d : Int) := bt_of h
    have hpow : 1 ≤ 10 ^ ds.length := Nat.pow_pos (by omega)
    have hacc : (acc + 1) * 10 ≤ 1000000000000 := by
      refine Nat.le_trans ?_ hb
      rw [List.length_cons, Nat.pow_succ]
      exact Nat.mul_le_mul_left _ (by omega)
    have ih' := ih (pre ++ [48 + (d : Int)]) (acc * 10 + d) (by rw [h]; simp) (fun x hx => hd x (by simp [hx])) (by
      refine Nat.le_trans ?_ hb
      rw [List.length_cons, Nat.pow_succ, Nat.mul_comm (10 ^ ds.length) 10, ← Nat.mul_assoc]
      exact Nat.mul_le_mul_right _ (by omega))
    rw [List.length_append, List.length_singleton] at ih'
    refine Ev.step (fun k => ?_) ih'
    rw [seq_number.l0, if_pos (by omega), if_pos (by omega), if_pos (by omega), hbt, if_neg (by omega), if_neg (by omega), wrap_id (n := (acc : Int) * 10) (by omega) (by omega), show ((48 : Int) + d - 48) % 256 = d by omega, wrap_id (n := (acc : Int) * 10 + d) (by omega) (by omega), wrap_nat (by omega)]
    congr 1
theorem number_ev {n : Int} (h : May n) : Ev (fun k => seq_number.f k ⟨(showL n).toArray⟩) (n, true) := by
  have hlen := showL_len h
  obtain ⟨h0, h1⟩ := h
  by_cases hz : n = 0
  · subst hz
    exact Ev.pure fun k => by unfold seq_number.f; rw [if_pos (by decide +kernel)]
  have hs : showL n = decB n.toNat := by unfold showL; rw [if_neg hz]
  rw [hs] at hlen ⊢
  obtain ⟨d, l, e, hd⟩ := digs_head n.toNat (by omega)
  have hd9 := digs_le n.toNat
  have hbo := bytesOf_decB n.toNat
  have hsz : (⟨(decB n.toNat).toArray⟩ : ByteArray).size = (decB n.toNat).length := size_lit' _
  have hne : ¬ (⟨(decB n.toNat).toArray⟩ : ByteArray).toList = ([42] : List UInt8) := by
    rw [toList_lit, hbo, e]
    simp
    omega
  have hb0 : bt (⟨(decB n.toNat).toArray⟩ : ByteArray) 0 = 48 + (d : Int) := bt_of (pre := []) (by rw [hbo, e]; rfl)
  refine Ev.congr (f := fun k => seq_number.j0 k ⟨(decB n.toNat).toArray⟩ false) (fun k => by unfold seq_number.f; rw [if_neg hne, hsz, if_neg (by omega), if_neg (by omega), if_pos (by omega), hb0, show (48 + (d : Int) == 48) = false by rw [beq_eq_false_iff_ne]; omega]) (Ev.step (fun k => by rw [seq_number.j0, if_neg (by decide)]) ?_)
  have hdl := digs_len 9 n.toNat (by have : (10 : Nat) ^ (9 + 1) = 10000000000 := (by decide); omega)
  have hpow : 10 ^ (digs n.toNat).length ≤ 10 ^ 10 := Nat.pow_le_pow_right (by omega) hdl
  have := num_loop ⟨(decB n.toNat).toArray⟩ (by rw [hsz]; omega) (digs n.toNat) [] 0 (by rw [hbo]; rfl) hd9 (by omega)
  have hv : (digs n.toNat).foldl (fun a d => a * 10 + d) 0 = n.toNat := valD_digs n.toNat
  rw [hv] at this
  refine Ev.eq this ?_
  rw [show ((n.toNat : Nat) : Int) = n by omega, decide_eq_true h1]
/-- A span's text. -/
def partL (x : S38) : List UInt8 := if x.f0 = x.f1 then showL x.f0 else showL x.f0 ++ 58 :: showL x.f1
theorem partL_len {x : S38} (h0 : May x.f0) (h1 : May x.f1) : 1 ≤ (partL x).length ∧ (partL x).length ≤ 21 := by
  have a := showL_len h0
  have b := showL_len h1
  unfold partL
  split
  · omega
  · rw [List.length_append, List.length_cons]; omega
theorem partL_byte {x : S38} : (44 : UInt8) ∉ partL x := by
  intro h
  unfold partL at h
  split at h
  · exact (showL_byte _ h).1 rfl
  · rcases List.mem_append.1 h with h | h
    · exact (showL_byte _ h).1 rfl
    · rcases List.mem_cons.1 h with h | h
      · exact absurd h (by decide)
      · exact (showL_byte _ h).1 rfl
theorem span_ev {x : S38} (h0 : May x.f0) (h1 : May x.f1) : Ev (fun k => seq_span.f k ⟨(partL x).toArray⟩) (x.f0, x.f1, true) := by
  have a := showL_len h0
  have b := showL_len h1
  unfold partL
  by_cases e : x.f0 = x.f1
  · rw [if_pos e]
    have hc := cutf_no 58 (showL x.f0) (fun h => (showL_byte _ h).2 rfl) (by omega)
    refine Ev.congr (fun k => by unfold seq_span.f; rw [hc, Option.bind_some]) (Ev.bind (number_ev h0) (Ev.pure fun k => ?_))
    rw [if_neg (by simp), ← e]
  · rw [if_neg e]
    have hc := cutf_one 58 (showL x.f0) (showL x.f1) (fun h => (showL_byte _ h).2 rfl) (by omega)
    refine Ev.congr (fun k => by unfold seq_span.f; rw [hc, Option.bind_some]) (Ev.bind (number_ev h0) ?_)
    exact Ev.congr (fun k => by rw [if_pos rfl, if_pos rfl]) (Ev.bind (number_ev h1) (Ev.pure fun k => rfl))
/-- A set's text. -/
def textL : List S38 → List UInt8
  | [] => []
  | x :: L => partL x ++ Lib.joinTail [44] (L.map partL)
theorem tail_cons (x : S38) (L : List S38) : Lib.joinTail [44] ((x :: L).map partL) = 44 :: textL (x :: L) := by
  simp [Lib.joinTail, textL]
theorem textL_len : ∀ (L : List S38), (∀ x ∈ L, May x.f0 ∧ May x.f1) → (textL L).length ≤ 22 * L.length
  | [], _ => by simp [textL]
  | [x], h => by
    have := partL_len (h x (by simp)).1 (h x (by simp)).2
    simp [textL, Lib.joinTail]
    omega
  | x :: y :: L, h => by
    have := partL_len (h x (by simp)).1 (h x (by simp)).2
    have ih := textL_len (y :: L) (fun z hz => h z (by simp [hz]))
    have e : textL (x :: y :: L) = partL x ++ 44 :: textL (y :: L) := by rw [← tail_cons]; rfl
    rw [e, List.length_append, List.length_cons, List.length_cons]
    omega
theorem parse_loop : ∀ (L : List S38) (x : S38) (pre : List S38), (∀ y ∈ x :: L, May y.f0 ∧ May y.f1) → pre.length + (L.length + 1) ≤ 100 →
    Ev (fun k => seq_Parse.l0 k ⟨(textL (x :: L)).toArray⟩ (pre.length : Int) true pre) (pre ++ x :: L, 0)
  | [], x, pre, h, hl => by
    have hx := h x (by simp)
    have hp := partL_len hx.1 hx.2
    have et : textL [x] = partL x := by simp [textL, Lib.joinTail]
    have hc := cutf_no 44 (partL x) partL_byte (by omega)
    have hl' : pre.length + 1 ≤ 100 := by simpa using hl
    rw [et]
    refine Ev.step (fun k => by rw [seq_Parse.l0, if_pos rfl, hc, Option.bind_some]) (Ev.bind (span_ev hx.1 hx.2) ?_)
    refine Ev.congr (fun k => by rw [if_pos rfl, if_pos (by omega), if_pos (by omega), wrap_nat (by omega)]) (Ev.after fun k => ?_)
    rw [seq_Parse.l0, if_neg (by simp), if_neg (by omega)]
  | y :: L, x, pre, h, hl => by
    have hx := h x (by simp)
    have hp := partL_len hx.1 hx.2
    have ht := textL_len (y :: L) (fun z hz => h z (by simp [hz]))
    have hl' : pre.length + (L.length + 1 + 1) ≤ 100 := by simpa using hl
    have et : textL (x :: y :: L) = partL x ++ 44 :: textL (y :: L) := by rw [← tail_cons]; rfl
    have hc := cutf_one 44 (partL x) (textL (y :: L)) partL_byte (by rw [List.length_cons] at ht; omega)
    have ih := parse_loop L y (pre ++ [x]) (fun z hz => h z (by simp [hz])) (by simp; omega)
    rw [List.length_append, List.length_singleton] at ih
    rw [et]
    refine Ev.step (fun k => by rw [seq_Parse.l0, if_pos rfl, hc, Option.bind_some]) (Ev.bind (span_ev hx.1 hx.2) ?_)
    refine Ev.congr (fun k => by rw [if_pos rfl, if_pos (by omega), if_pos (by omega), wrap_nat (by omega)]) (Ev.eq ih ?_)
    simp
theorem show_loop (L : List S38) (hM : ∀ x ∈ L, May x.f0 ∧ May x.f1) (hL : L.length ≤ 100) (hne : L ≠ []) : ∀ (l pre : List S38), L = pre ++ l →
    Ev (fun k => seq_Show.l0 k (pre.map fun x => (⟨(partL x).toArray⟩ : ByteArray)) L (L.length : Int) (pre.length : Int)) ⟨(textL L).toArray⟩ := by
  intro l
  induction l with
  | nil =>
    intro pre h
    have hp : L = pre := by rw [h, List.append_nil]
    subst hp
    have hj : Lib.join ((L.map fun x => (⟨(partL x).toArray⟩ : ByteArray)).map (·.data.toList)) ((⟨#[44]⟩ : ByteArray).data.toList) = textL L := by
      cases L with
      | nil => exact absurd rfl hne
      | cons x L =>
        rw [List.map_map, List.map_cons, Lib.join_cons]
        rfl
    have hlen := textL_len L hM
    refine Ev.after fun k => ?_
    rw [seq_Show.l0, if_neg (by omega)]
    unfold strings_Join.f
    rw [hj, decide_eq_true (by rw [List.length_map]; omega), decide_eq_true (by omega), Bool.and_true, if_pos rfl, Option.bind_some]
  | cons x l ih =>
    intro pre h
    have hl : L.length = pre.length + (l.length + 1) := by rw [h]; simp
    have hr : rd_T38 L (pre.length : Int) = x := by rw [h]; exact rdS_of
    have hx := hM x (by rw [h]; simp)
    have a := showL_len hx.1
    have b := showL_len hx.2
    have ih' := ih (pre ++ [x]) (by rw [h]; simp)
    rw [List.length_append, List.length_singleton, List.map_append] at ih'
    refine Ev.step (fun k => ?_) ih'
    have hsz : ∀ m : List UInt8, (⟨m.toArray⟩ : ByteArray).size = m.length := size_lit'
    rw [seq_Show.l0, if_pos (by omega), if_pos (by omega), if_pos (by omega), hr, show_eq hx.1, Option.bind_some]
    by_cases e : x.f0 = x.f1
    · rw [if_pos e, if_pos (by rw [List.length_map]; omega), wrap_nat (by omega)]
      have : partL x = showL x.f0 := by unfold partL; rw [if_pos e]
      rw [← this]
      rfl
    · have hp : partL x = showL x.f0 ++ ([58] ++ showL x.f1) := by unfold partL; rw [if_neg e]; rfl
      have hcat : (⟨(showL x.f0).toArray⟩ : ByteArray) ++ ((⟨#[58]⟩ : ByteArray) ++ ⟨(showL x.f1).toArray⟩) = ⟨(partL x).toArray⟩ := by
        rw [hp, ← catL, ← catL]
      rw [if_neg e, show_eq hx.2, Option.bind_some, hsz, hsz, if_pos (by omega), if_pos (by omega), if_pos (by rw [List.length_map]; omega), wrap_nat (by omega), hcat]
      rfl
theorem goodS_may {L : List S38} (h : goodS L = true) : L ≠ [] ∧ L.length ≤ 100 ∧ ∀ x ∈ L, May x.f0 ∧ May x.f1 := by
  unfold goodS at h
  simp only [Bool.and_eq_true, decide_eq_true_eq, Bool.not_eq_true', List.any_eq_false] at h
  obtain ⟨h1, h2, h3⟩ := h
  refine ⟨by rintro rfl; simp at h1, h2, fun x hx => ?_⟩
  have := h3 x hx
  unfold seq_good.bad seq_good.may at this
  simp at this
  exact ⟨⟨this.1.1, this.1.2⟩, ⟨this.2.1, this.2.2⟩⟩
theorem Show_ev (L : List S38) : Ev (fun k => seq_Show.f k L) (if goodS L = true then ⟨(textL L).toArray⟩ else ⟨#[]⟩) := by
  cases hg : goodS L with
  | false => exact Ev.pure fun k => by unfold seq_Show.f; rw [good_eq, Option.bind_some, hg, if_neg (by decide), if_neg (by decide)]
  | true =>
    obtain ⟨hne, hl, hM⟩ := goodS_may hg
    rw [if_pos rfl]
    exact Ev.congr (fun k => by unfold seq_Show.f; rw [good_eq, Option.bind_some, hg, if_pos rfl]; rfl) (show_loop L hM hl hne L [] rfl)
theorem Parse_ev {L : List S38} (hg : goodS L = true) : Ev (fun k => seq_Parse.f k ⟨(textL L).toArray⟩) (L, 0) := by
  obtain ⟨hne, hl, hM⟩ := goodS_may hg
  cases L with
  | nil => exact absurd rfl hne
  | cons x L => exact Ev.congr (fun k => by unfold seq_Parse.f; rfl) (parse_loop L x [] hM (by simpa using hl))
end Go.Proofs.Mine
