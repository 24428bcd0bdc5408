/- The reference of the layer octet: quoted texts read, numbers written. -/
import Derived.Test.YtcgjkppoakngnaaDoorPLines
import Derived.Test.YtcgjkppoakngnaaDoorPUnquote
import Derived.Test.YtcgjkppoakngnaaDoorPRef1
import Derived.Test.YtcgjkppoakngnaaDoorX3
import Derived.Test.YtcgjkppoakngnaaDoorX5
import Derived.Test.YtcgjkppoakngnaaDoorX2
namespace Go.Proofs.Mine
open Go.RowKit Go.Proofs.YtcgjkppoakngnaaDoorW.PrintWords Go.Proofs.YtcgjkppoakngnaaDoorW.PrintLast Go.Proofs.YtcgjkppoakngnaaDoor.X
set_option linter.unusedSimpArgs false

theorem runq_loop (s : ByteArray) (hs : s.size ≤ 1000000000) : ∀ (n : Nat) (l pre acc : List Int), l.length ≤ n → bytesOf s = pre ++ l → acc.length ≤ pre.length →
    Ev (fun k => frankingref1_Unquote.l0 k s acc (pre.length : Int)) (conv3 (unqA acc pre.length l)) := by
  intro n
  induction n with
  | zero =>
    intro l pre acc hn h ha
    obtain rfl : l = [] := List.length_eq_zero_iff.1 (by omega)
    have hz := size_of h
    simp at hz
    refine Ev.after fun k => ?_
    rw [frankingref1_Unquote.l0]
    rw [if_neg (by omega)]
    rfl
  | succ n ih =>
    intro l pre acc hn h ha
    cases l with
    | nil =>
      have hz := size_of h
      simp at hz
      refine Ev.after fun k => ?_
      rw [frankingref1_Unquote.l0]
      rw [if_neg (by omega)]
      rfl
    | cons c l =>
      have hz := size_of h
      simp at hz
      have hb := bt_of h
      have i1 : (pre.length : Int) < (s.size : Int) := by omega
      have i2 : 0 ≤ (pre.length : Int) := by omega
      have i3 : acc.length < 140737488355328 := by omega
      have b1 : pre.length < 4611686018427387904 := by omega
      by_cases h34 : c = 34
      · refine Ev.after fun k => ?_
        rw [frankingref1_Unquote.l0]
        rw [if_pos i1, if_pos i2, hb, if_pos h34, wrap_nat b1]
        cases l with
        | nil => rw [unqA, if_pos h34]; rfl
        | cons d l => rw [unqA, if_pos h34]; rfl
      · cases hq : quotC c with
        | false =>
          refine Ev.after fun k => ?_
          rw [frankingref1_Unquote.l0]
          rw [if_pos i1, if_pos i2, hb, if_neg h34, plain_eq, hq, Option.bind_some, if_neg (by decide)]
          cases l with
          | nil => rw [unqA, if_neg h34, if_pos hq]; rfl
          | cons d l => rw [unqA, if_neg h34, if_pos hq]; rfl
        | true =>
          have hq' : ¬ quotC c = false := by rw [hq]; decide
          by_cases h92 : c = 92
          · cases l with
            | nil =>
              simp at hz
              refine Ev.after fun k => ?_
              rw [frankingref1_Unquote.l0]
              rw [if_pos i1, if_pos i2, hb, if_neg h34, plain_eq, hq, Option.bind_some, if_pos rfl, if_pos h92, wrap_nat b1]
              rw [if_pos (show ((pre.length + 1 : Nat) : Int) = (s.size : Int) by omega), unqA, if_neg h34, if_neg hq']
              rfl
            | cons d l =>
              simp at hz
              have h' : bytesOf s = (pre ++ [c]) ++ d :: l := by rw [h]; simp
              have hb' := bt_of h'
              rw [List.length_append, List.length_singleton] at hb'
              have i4 : 0 ≤ ((pre.length + 1 : Nat) : Int) := by omega
              have i5 : ((pre.length + 1 : Nat) : Int) < (s.size : Int) := by omega
              have i6 : ¬ ((pre.length + 1 : Nat) : Int) = (s.size : Int) := by omega
              have b2 : pre.length + 1 < 4611686018427387904 := by omega
              have ih' := ih l (pre ++ [c, d]) (acc ++ [d]) (by simp at hn; omega) (by rw [h]; simp) (by simp; omega)
              rw [show (pre ++ [c, d]).length = pre.length + 2 by simp] at ih'
              rw [unqA, if_neg h34, if_neg hq', if_pos h92]
              by_cases hd : d = 34
              · rw [if_pos (.inl hd)]
                refine Ev.step (fun k => ?_) ih'
                rw [frankingref1_Unquote.l0]
                rw [if_pos i1, if_pos i2, hb, if_neg h34, plain_eq, hq, Option.bind_some, if_pos rfl, if_pos h92, wrap_nat b1, if_neg i6, if_pos i4, if_pos i5, hb', if_pos hd, if_pos i3, wrap_nat b2]
              · by_cases hd2 : d = 92
                · rw [if_pos (.inr hd2)]
                  refine Ev.step (fun k => ?_) ih'
                  rw [frankingref1_Unquote.l0]
                  rw [if_pos i1, if_pos i2, hb, if_neg h34, plain_eq, hq, Option.bind_some, if_pos rfl, if_pos h92, wrap_nat b1, if_neg i6, if_pos i4, if_pos i5, hb', if_neg hd, if_pos hd2, if_pos i3, wrap_nat b2]
                · rw [if_neg (fun h => h.elim hd hd2)]
                  refine Ev.after fun k => ?_
                  rw [frankingref1_Unquote.l0]
                  rw [if_pos i1, if_pos i2, hb, if_neg h34, plain_eq, hq, Option.bind_some, if_pos rfl, if_pos h92, wrap_nat b1, if_neg i6, if_pos i4, if_pos i5, hb', if_neg hd, if_neg hd2]
                  rfl
          · have ih' := ih l (pre ++ [c]) (acc ++ [c]) (by simp at hn; omega) (by rw [h]; simp) (by simp; omega)
            rw [show (pre ++ [c]).length = pre.length + 1 by simp] at ih'
            have e : unqA acc pre.length (c :: l) = unqA (acc ++ [c]) (pre.length + 1) l := by
              cases l with
              | nil => simp [unqA, h34, hq]
              | cons d l => simp [unqA, h34, hq, h92]
            rw [e]
            refine Ev.step (fun k => ?_) ih'
            rw [frankingref1_Unquote.l0]
            rw [if_pos i1, if_pos i2, hb, if_neg h34, plain_eq, hq, Option.bind_some, if_pos rfl, if_neg h92, if_pos i3, wrap_nat b1]
theorem runq_ev (s : ByteArray) (hs : s.size ≤ 1000000000) : Ev (fun k => frankingref1_Unquote.f k s) (conv3 (unqL (bytesOf s))) := by
  cases hl : bytesOf s with
  | nil =>
    have hz := size_of hl
    rw [List.length_nil] at hz
    refine Ev.congr (f := fun k => frankingref1_Unquote.j0 k s true) (fun k => by unfold frankingref1_Unquote.f; rw [if_pos (by omega)]) (Ev.after fun k => ?_)
    rw [frankingref1_Unquote.j0, if_pos rfl]
    rfl
  | cons c m =>
    have hz := size_of hl
    rw [List.length_cons] at hz
    have hb : bt s 0 = c := bt_of (pre := []) (by rw [hl]; rfl)
    refine Ev.congr (f := fun k => frankingref1_Unquote.j0 k s (c != 34)) (fun k => by unfold frankingref1_Unquote.f; rw [if_neg (by omega), if_pos (by omega), hb]) ?_
    by_cases hc : c = 34
    · subst hc
      have := runq_loop s hs m.length m [34] [] (Nat.le_refl _) (by rw [hl]; rfl) (by simp)
      refine Ev.step (fun k => ?_) this
      rw [frankingref1_Unquote.j0, if_neg (by decide)]
      rfl
    · refine Ev.after fun k => ?_
      rw [frankingref1_Unquote.j0, if_pos (bne_iff_ne.2 hc)]
      have : unqL (c :: m) = ([], 0, 3) := by
        unfold unqL
        split
        · rename_i e; cases e; exact absurd rfl hc
        · rfl
      rw [this]
      rfl
/-! The numeral -/
theorem decDigits_len : ∀ n : Nat, (Lib.decDigits n).length ≤ n + 1 := by
  intro n
  induction n using Nat.strongRecOn with
  | _ n ih =>
    rw [Lib.decDigits]
    by_cases h : n < 10
    · rw [dif_pos h]; simp
    · rw [dif_neg h, List.length_append]
      have := ih (n / 10) (by omega)
      simp
      omega
theorem strOfNums_one (n : Nat) (h : n < 10) : strOfNums [(wrap64 (48 + (n : Int))) % 256] = ⟨#[UInt8.ofNat (48 + n)]⟩ := by
  have e : (wrap64 (48 + (n : Int))) % 256 = ((48 + n : Nat) : Int) := by unfold wrap64; omega
  rw [e]
  rfl
theorem ba_append (a b : List UInt8) : (⟨a.toArray⟩ : ByteArray) ++ ⟨b.toArray⟩ = ⟨(a ++ b).toArray⟩ := by
  apply bytesOf_inj
  rw [bytesOf_append, bytesOf_lit, bytesOf_lit, bytesOf_lit, List.map_append]
theorem digits_ev : ∀ n : Nat, n ≤ 1000000000 → Ev (fun k => frankingref1_Digits.f k (n : Int)) (⟨(Lib.decDigits n).toArray⟩ : ByteArray) := by
  intro n
  induction n using Nat.strongRecOn with
  | _ n ih =>
    intro hn
    rw [Lib.decDigits]
    by_cases h : n < 10
    · rw [dif_pos h]
      refine Ev.after fun k => ?_
      rw [frankingref1_Digits.f, if_pos (by omega), strOfNums_one n h]
    · rw [dif_neg h]
      have hq : wrap64 (Int.tdiv (n : Int) 10) = ((n / 10 : Nat) : Int) := by
        rw [show Int.tdiv (n : Int) 10 = ((n / 10 : Nat) : Int) from rfl]
        unfold wrap64
        omega
      have hm : Int.tmod (n : Int) 10 = ((n % 10 : Nat) : Int) := rfl
      refine Ev.step (f := fun k => (frankingref1_Digits.f k ((n / 10 : Nat) : Int)).bind fun t => if t.size + 1 ≤ 9223372036854775807 then some (t ++ (⟨#[UInt8.ofNat (48 + n % 10)]⟩ : ByteArray)) else none) (fun k => ?_) (Ev.bind (ih (n / 10) (by omega) (by omega)) (Ev.pure fun k => ?_))
      · rw [frankingref1_Digits.f, if_neg (by omega), hq, hm]
        congr 1
        funext t
        rw [Option.bind_some, strOfNums_one _ (by omega)]
        rfl
      · have := decDigits_len (n / 10)
        rw [if_pos (by show (Lib.decDigits (n / 10)).toArray.size + 1 ≤ _; rw [List.size_toArray]; omega)]
        rw [show (#[UInt8.ofNat (48 + n % 10)] : Array UInt8) = [UInt8.ofNat (48 + n % 10)].toArray from rfl, ba_append]
/-! NString -/
def nstrR (s : ByteArray) : ByteArray := if (quoteR s).2 = true then (quoteR s).1 else (((⟨#[123]⟩ : ByteArray) ++ ⟨(Lib.decDigits s.size).toArray⟩) ++ (⟨#[125, 13, 10]⟩ : ByteArray)) ++ s
theorem itoaNat (n : Nat) (h : n ≤ 1000000000) : itoaF (n : Int) = Lib.decDigits n := by
  rw [← itoaF_eq _ (by omega) (by omega)]
  unfold Lib.itoa
  rw [if_neg (by omega), Int.toNat_natCast]
theorem nstring_ev (s : ByteArray) (hs : s.size ≤ 1000000000) : Ev (fun k => octet_NString.f k s) (nstrR s) := by
  unfold nstrR
  refine Ev.congr (fun k => by unfold octet_NString.f; rfl) (Ev.bind (quote_ev s) ?_)
  by_cases hq : (quoteR s).2 = true
  · rw [if_pos hq]
    exact Ev.pure fun k => by rw [if_pos hq]
  · rw [if_neg hq]
    refine Ev.pure fun k => ?_
    have hl := decDigits_len s.size
    have hi : strconv_Itoa_47.f (s.size : Int) = some ⟨(Lib.decDigits s.size).toArray⟩ := by
      unfold strconv_Itoa_47.f strconv_Itoa_68.f
      rw [decide_eq_true (by omega), decide_eq_true (by omega), Bool.and_true, if_pos rfl, Option.bind_some, itoaNat _ hs]
    have hz : (⟨(Lib.decDigits s.size).toArray⟩ : ByteArray).size = (Lib.decDigits s.size).length := List.size_toArray
    rw [if_neg hq, hi, Option.bind_some, hz, if_pos (by omega), if_pos (by omega), if_pos (by omega), if_pos (by omega)]
    congr 1
    apply bytesOf_inj
    simp only [bytesOf_append]
    rw [show bytesOf ⟨#[125, 13, 10]⟩ = bytesOf ⟨#[125]⟩ ++ bytesOf ⟨#[13, 10]⟩ by decide +kernel]
    simp
theorem rnstring_ev (s : ByteArray) (hs : s.size ≤ 1000000000) : Ev (fun k => frankingref1_NString.f k s) (nstrR s) := by
  unfold nstrR
  refine Ev.congr (fun k => by unfold frankingref1_NString.f; rfl) (Ev.bind (rquote_ev s) ?_)
  by_cases hq : (quoteR s).2 = true
  · rw [if_pos hq]
    exact Ev.pure fun k => by rw [if_pos hq]
  · rw [if_neg hq]
    have hl := decDigits_len s.size
    have hz : (⟨(Lib.decDigits s.size).toArray⟩ : ByteArray).size = (Lib.decDigits s.size).length := List.size_toArray
    refine Ev.congr (fun k => by rw [if_neg hq]) (Ev.bind (digits_ev s.size hs) (Ev.pure fun k => ?_))
    rw [hz, if_pos (by omega), if_pos (by omega), if_pos (by omega)]
end Go.Proofs.Mine
