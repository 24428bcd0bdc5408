/- How a quoted text is read again. -/
import Derived.Test.YtgajilieekhpjaaDoorPQuotable
import Derived.Test.YtgajilieekhpjaaDoorX2
namespace Go.Proofs.Mine
open Go.RowKit Go.Proofs.YtgajilieekhpjaaDoorW.PrintWords Go.Proofs.YtgajilieekhpjaaDoorW.PrintLast Go.Proofs.YtgajilieekhpjaaDoor.X

theorem hasPrefix_eq (s p : ByteArray) : strings_HasPrefix.f s p = some (decide ((bytesOf s).take p.size = bytesOf p)) := by
  unfold strings_HasPrefix.f stringslite_HasPrefix.f
  by_cases h : p.size ≤ s.size
  · rw [if_pos (by omega), if_pos (by omega), if_pos (by omega), Option.bind_some, toList_beq, bytesOf_extract, Int.toNat_natCast, List.drop_zero]
  · rw [if_neg (by omega), Option.bind_some]
    rw [decide_eq_false]
    intro e
    have := congrArg List.length e
    rw [List.length_take, bytesOf_length, bytesOf_length] at this
    omega
/-- What a quoted text is, behind its first quote: the text, how many bytes, the error. -/
def unqA : List Int → Nat → List Int → List Int × Int × Int
  | _, _, [] => ([], 0, 8)
  | acc, n, [c] => if c = 34 then (acc, (n : Int) + 1, 0) else if quotC c = false then ([], 0, 3) else ([], 0, 8)
  | acc, n, c :: d :: l => if c = 34 then (acc, (n : Int) + 1, 0) else if quotC c = false then ([], 0, 3) else if c = 92 then (if d = 34 ∨ d = 92 then unqA (acc ++ [d]) (n + 2) l else ([], 0, 3)) else unqA (acc ++ [c]) (n + 1) (d :: l)
def conv3 (r : List Int × Int × Int) : ByteArray × Int × Int := (strOfNums r.1, r.2.1, r.2.2)
theorem strOfNums_nil : strOfNums [] = ⟨#[]⟩ := rfl
theorem unq_loop (s : ByteArray) (hs : s.size ≤ 1000000000) : ∀ (n : Nat) (l pre acc : List Int), l.length ≤ n → bytesOf s = pre ++ l → acc.length ≤ pre.length →
    Ev (fun k => octet_Unquote.l0 k s acc (pre.length : Int)) (conv3 (unqA acc pre.length l)) := by
  intro n
  induction n with
  | zero =>
    intro l pre acc hn h ha
    obtain rfl : l = [] := List.length_eq_zero_iff.1 (by omega)
    have hz := size_of h
    simp at hz
    refine Ev.after fun k => ?_
    rw [octet_Unquote.l0]
    rw [if_neg (by omega)]
    rfl
  | succ n ih =>
    intro l pre acc hn h ha
    cases l with
    | nil =>
      have hz := size_of h
      simp at hz
      refine Ev.after fun k => ?_
      rw [octet_Unquote.l0]
      rw [if_neg (by omega)]
      rfl
    | cons c l =>
      have hz := size_of h
      simp at hz
      have hb := bt_of h
      have i1 : (pre.length : Int) < (s.size : Int) := by omega
      have i2 : 0 ≤ (pre.length : Int) := by omega
      have i3 : acc.length < 140737488355328 := by omega
      have b1 : pre.length < 4611686018427387904 := by omega
      by_cases h34 : c = 34
      · refine Ev.after fun k => ?_
        rw [octet_Unquote.l0]
        rw [if_pos i1, if_pos i2, hb, if_pos h34, wrap_nat b1]
        cases l with
        | nil => rw [unqA, if_pos h34]; rfl
        | cons d l => rw [unqA, if_pos h34]; rfl
      · cases hq : quotC c with
        | false =>
          refine Ev.after fun k => ?_
          rw [octet_Unquote.l0]
          rw [if_pos i1, if_pos i2, hb, if_neg h34, quotable_eq, hq, Option.bind_some, if_neg (by decide)]
          cases l with
          | nil => rw [unqA, if_neg h34, if_pos hq]; rfl
          | cons d l => rw [unqA, if_neg h34, if_pos hq]; rfl
        | true =>
          have hq' : ¬ quotC c = false := by rw [hq]; decide
          by_cases h92 : c = 92
          · cases l with
            | nil =>
              simp at hz
              refine Ev.step (f := fun k => octet_Unquote.j1 k s acc (pre.length : Int) c true) (fun k => by
                rw [octet_Unquote.l0]
                rw [if_pos i1, if_pos i2, hb, if_neg h34, quotable_eq, hq, Option.bind_some, if_pos rfl, if_pos h92, wrap_nat b1]
                rw [show (((pre.length + 1 : Nat) : Int) == (s.size : Int)) = true by rw [beq_iff_eq]; omega]) (Ev.after fun k => ?_)
              rw [octet_Unquote.j1]
              rw [if_pos rfl, unqA, if_neg h34, if_neg hq']
              rfl
            | cons d l =>
              simp at hz
              have h' : bytesOf s = (pre ++ [c]) ++ d :: l := by rw [h]; simp
              have hb' := bt_of h'
              rw [List.length_append, List.length_singleton] at hb'
              have i4 : 0 ≤ ((pre.length + 1 : Nat) : Int) := by omega
              have i5 : ((pre.length + 1 : Nat) : Int) < (s.size : Int) := by omega
              have b2 : pre.length + 1 < 4611686018427387904 := by omega
              have first : ∀ k, octet_Unquote.l0 (k + 1) s acc (pre.length : Int) = octet_Unquote.j1 k s acc (pre.length : Int) c false := fun k => by
                rw [octet_Unquote.l0]
                rw [if_pos i1, if_pos i2, hb, if_neg h34, quotable_eq, hq, Option.bind_some, if_pos rfl, if_pos h92, wrap_nat b1]
                rw [show (((pre.length + 1 : Nat) : Int) == (s.size : Int)) = false by rw [beq_eq_false_iff_ne]; omega]
              have ih' := ih l (pre ++ [c, d]) (acc ++ [d]) (by simp at hn; omega) (by rw [h]; simp) (by simp; omega)
              rw [show (pre ++ [c, d]).length = pre.length + 2 by simp] at ih'
              rw [unqA, if_neg h34, if_neg hq', if_pos h92]
              by_cases hd : d = 34
              · rw [if_pos (.inl hd)]
                refine Ev.step first (Ev.step (fun k => ?_) ih')
                rw [octet_Unquote.j1]
                rw [if_neg (by decide), if_pos h92, wrap_nat b1, if_pos i4, if_pos i5, hb', if_pos hd, if_pos i3, wrap_nat b2]
              · by_cases hd2 : d = 92
                · rw [if_pos (.inr hd2)]
                  refine Ev.step first (Ev.step (fun k => ?_) ih')
                  rw [octet_Unquote.j1]
                  rw [if_neg (by decide), if_pos h92, wrap_nat b1, if_pos i4, if_pos i5, hb', if_neg hd, if_pos hd2, if_pos i3, wrap_nat b2]
                · rw [if_neg (fun h => h.elim hd hd2)]
                  refine Ev.step first (Ev.after fun k => ?_)
                  rw [octet_Unquote.j1]
                  rw [if_neg (by decide), if_pos h92, wrap_nat b1, if_pos i4, if_pos i5, hb', if_neg hd, if_neg hd2]
                  rfl
          · have ih' := ih l (pre ++ [c]) (acc ++ [c]) (by simp at hn; omega) (by rw [h]; simp) (by simp; omega)
            rw [show (pre ++ [c]).length = pre.length + 1 by simp] at ih'
            have e : unqA acc pre.length (c :: l) = unqA (acc ++ [c]) (pre.length + 1) l := by
              cases l with
              | nil => simp [unqA, h34, hq]
              | cons d l => simp [unqA, h34, hq, h92]
            rw [e]
            refine Ev.step (f := fun k => octet_Unquote.j1 k s acc (pre.length : Int) c false) (fun k => by
              rw [octet_Unquote.l0]
              rw [if_pos i1, if_pos i2, hb, if_neg h34, quotable_eq, hq, Option.bind_some, if_pos rfl, if_neg h92]) (Ev.step (fun k => ?_) ih')
            rw [octet_Unquote.j1]
            rw [if_neg (by decide), if_neg h92, if_pos i3, wrap_nat b1]
/-- Unquote, plainly. -/
def unqL (l : List Int) : List Int × Int × Int := match l with
  | 34 :: m => unqA [] 1 m
  | _ => ([], 0, 3)
theorem unq_ev (s : ByteArray) (hs : s.size ≤ 1000000000) : Ev (fun k => octet_Unquote.f k s) (conv3 (unqL (bytesOf s))) := by
  have hp := hasPrefix_eq s ⟨#[34]⟩
  have hl : bytesOf ⟨#[34]⟩ = [34] := by decide +kernel
  rw [hl, show (⟨#[34]⟩ : ByteArray).size = 1 from rfl] at hp
  by_cases h : ∃ m, bytesOf s = 34 :: m
  · obtain ⟨m, hm⟩ := h
    rw [hm, decide_eq_true (by rfl)] at hp
    have := unq_loop s hs m.length m [34] [] (Nat.le_refl _) (by rw [hm]; rfl) (by simp)
    refine Ev.congr (fun k => ?_) (Ev.eq this (by rw [hm]; rfl))
    unfold octet_Unquote.f
    rw [hp, Option.bind_some, if_pos rfl]
    rfl
  · have e : ¬ (bytesOf s).take 1 = [34] := by
      intro e
      cases hx : bytesOf s with
      | nil => rw [hx] at e; simp at e
      | cons c m => rw [hx] at e; simp at e; exact h ⟨m, by rw [hx, e]⟩
    rw [decide_eq_false e] at hp
    refine Ev.pure fun k => ?_
    unfold octet_Unquote.f
    rw [hp, Option.bind_some, if_neg (by decide)]
    have : unqL (bytesOf s) = ([], 0, 3) := by
      unfold unqL
      split
      · rename_i m hm; exact absurd ⟨m, hm⟩ h
      · rfl
    rw [this]
    rfl
/-- What was quoted is read again. -/
theorem unqA_esc : ∀ (l acc rest : List Int) (n : Nat), l.all quotC = true → unqA acc n (l.flatMap esc ++ 34 :: rest) = (acc ++ l, ((n + (l.flatMap esc).length : Nat) : Int) + 1, 0) := by
  intro l
  induction l with
  | nil =>
    intro acc rest n _
    simp only [List.flatMap_nil, List.nil_append, List.append_nil, List.length_nil, Nat.add_zero]
    cases rest with
    | nil => rw [unqA, if_pos rfl]
    | cons d r => rw [unqA, if_pos rfl]
  | cons c l ih =>
    intro acc rest n h
    rw [List.all_cons, Bool.and_eq_true] at h
    rw [List.flatMap_cons]
    have hq' : ¬ quotC c = false := by rw [h.1]; decide
    by_cases hc : c = 34 ∨ c = 92
    · have e : esc c = [92, c] := by unfold esc; rw [if_pos hc]
      rw [e]
      show unqA acc n (92 :: c :: (l.flatMap esc ++ 34 :: rest)) = _
      rw [unqA, if_neg (by decide), if_neg (by decide), if_pos rfl, if_pos hc, ih _ _ _ h.2]
      simp
      omega
    · have e : esc c = [c] := by unfold esc; rw [if_neg hc]
      rw [e]
      show unqA acc n (c :: (l.flatMap esc ++ 34 :: rest)) = _
      have h1 : ¬ c = 34 := fun h => hc (.inl h)
      have h2 : ¬ c = 92 := fun h => hc (.inr h)
      have e2 : unqA acc n (c :: (l.flatMap esc ++ 34 :: rest)) = unqA (acc ++ [c]) (n + 1) (l.flatMap esc ++ 34 :: rest) := by
        cases hx : l.flatMap esc ++ 34 :: rest with
        | nil => simp at hx
        | cons d r => rw [unqA, if_neg h1, if_neg hq', if_neg h2]
      rw [e2, ih _ _ _ h.2]
      simp
      omega
end Go.Proofs.Mine
