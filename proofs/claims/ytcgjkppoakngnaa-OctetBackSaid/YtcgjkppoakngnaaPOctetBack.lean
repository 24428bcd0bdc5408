/- OctetBack, as a plain law: what is quoted is read again, whatever is behind it; lines put together are the whole. -/
import Derived.Test.YtcgjkppoakngnaaPLines
import Derived.Test.YtcgjkppoakngnaaPFold
import Derived.Test.YtcgjkppoakngnaaPUnquote
import Derived.Test.YtcgjkppoakngnaaPAwake1
import Derived.Test.YtcgjkppoakngnaaX4
import Derived.Test.YtcgjkppoakngnaaX3
namespace Go.Proofs.Ytcgjkppoakngnaa.Pure
open Go.RowKit Go.Proofs.YtcgjkppoakngnaaW.PrintWords Go.Proofs.YtcgjkppoakngnaaW.PrintLast Go.Proofs.Ytcgjkppoakngnaa.X Go.Proofs.Mine

/-- All but the last end with CRLF. -/
def endsOk : List (List Int) → Prop
  | [] => True
  | [_] => True
  | x :: y :: r => (∃ m, x = m ++ [13, 10]) ∧ endsOk (y :: r)
theorem linesA_ok : ∀ (n : Nat) (l cur : List Int), l.length ≤ n → endsOk (linesA cur l) ∧ (linesA cur l).flatten = cur ++ l := by
  intro n
  induction n with
  | zero =>
    intro l cur h
    obtain rfl : l = [] := List.length_eq_zero_iff.1 (by omega)
    rw [linesA_nil]
    split
    · rename_i e; subst e; exact ⟨trivial, rfl⟩
    · exact ⟨trivial, by simp⟩
  | succ n ih =>
    intro l cur h
    cases l with
    | nil =>
      rw [linesA_nil]
      split
      · rename_i e; subst e; exact ⟨trivial, rfl⟩
      · exact ⟨trivial, by simp⟩
    | cons c l =>
      rcases starts_dec c l with ⟨rfl, m, rfl⟩ | hn
      · rw [linesA_end]
        obtain ⟨h1, h2⟩ := ih m [] (by simp at h; omega)
        refine ⟨?_, by rw [List.flatten_cons, h2]; simp⟩
        cases hx : linesA [] m with
        | nil => exact trivial
        | cons y r => rw [hx] at h1; exact ⟨⟨cur, rfl⟩, h1⟩
      · rw [linesA_go _ _ _ hn]
        obtain ⟨h1, h2⟩ := ih l (cur ++ [c]) (by simp at h; omega)
        exact ⟨h1, by rw [h2]; simp⟩
theorem rd_L1_of {pre r : List (List Int)} {c : List Int} : rd_L1 (pre ++ c :: r) (pre.length : Int) = c := by simp [rd_L1, List.getD_eq_getElem?_getD]
theorem end_ev (s : ByteArray) (hs : s.size ≤ 500) (ls : List (List Int)) : Ev (fun k => frankinglaw1_OctetBack.l0 k s s ls (ls.length : Int)) true := by
  refine Ev.after fun k => ?_
  rw [frankinglaw1_OctetBack.l0, if_neg (by omega), if_pos rfl, fold_eq s (by omega), Option.bind_some, fold_eq (foldBA s) (by rw [foldBA_size]; omega), Option.bind_some, Option.bind_some, foldBA_fold, if_pos rfl, Option.bind_some]
  unfold octet_Same.f
  rw [fold_eq s (by omega), Option.bind_some, fold_eq (foldBA s) (by rw [foldBA_size]; omega), Option.bind_some, foldBA_fold, Option.bind_some]
  simp
theorem loop_ev (s : ByteArray) (hs : s.size ≤ 500) (ls : List (List Int)) (hl : ls.length ≤ 1000) (hf : ls.flatten = bytesOf s) : ∀ (r pre : List (List Int)), ls = pre ++ r → endsOk r →
    Ev (fun k => frankinglaw1_OctetBack.l0 k s (strOfNums pre.flatten) ls (pre.length : Int)) true := by
  intro r
  induction r with
  | nil =>
    intro pre h _
    rw [List.append_nil] at h
    subst h
    rw [hf, strOfNums_bytesOf]
    exact end_ev s hs ls
  | cons c r ih =>
    intro pre h ho
    have hrd : rd_L1 ls (pre.length : Int) = c := by rw [h]; exact rd_L1_of
    have hlen : ls.length = pre.length + (r.length + 1) := by rw [h]; simp
    have hfl : pre.flatten.length + c.length ≤ 500 := by
      have := congrArg List.length hf
      rw [bytesOf_length, h, List.flatten_append, List.length_append, List.flatten_cons, List.length_append] at this
      omega
    have ho' : endsOk r := by
      cases r with
      | nil => exact trivial
      | cons y r => exact ho.2
    have ih' := ih (pre ++ [c]) (by rw [h]; simp) ho'
    have e1 : strOfNums (pre ++ [c]).flatten = strOfNums pre.flatten ++ strOfNums c := by
      apply bytesOf_inj
      have hb : ∀ x ∈ (pre ++ [c]).flatten, Byte x := by
        intro x hx
        refine bytesOf_byte s x ?_
        rw [← hf, h]
        rw [List.mem_flatten] at hx ⊢
        obtain ⟨y, hy, hx⟩ := hx
        refine ⟨y, ?_, hx⟩
        simp at hy ⊢
        rcases hy with hy | hy
        · exact .inl hy
        · exact .inr (.inl hy)
      rw [bytesOf_append, bytesOf_strOfNums hb, bytesOf_strOfNums (fun x hx => hb x (by simp at hx ⊢; exact .inl hx)), bytesOf_strOfNums (fun x hx => hb x (by simp; exact .inr hx))]
      simp
    rw [e1, show (pre ++ [c]).length = pre.length + 1 by simp] at ih'
    have b1 : pre.length < 4611686018427387904 := by omega
    have i1 : (pre.length : Int) < (ls.length : Int) := by omega
    have i2 : 0 ≤ (pre.length : Int) := by omega
    have i3 : (strOfNums pre.flatten).size + (strOfNums c).size ≤ 9223372036854775807 := by rw [size_strOfNums, size_strOfNums]; omega
    cases r with
    | nil =>
      have i4 : ¬ ((pre.length + 1 : Nat) : Int) < (ls.length : Int) := by simp at hlen; omega
      refine Ev.step (fun k => ?_) ih'
      rw [frankinglaw1_OctetBack.l0, if_pos i1, wrap_nat b1, if_neg i4, if_pos i2, hrd, if_pos i3]
    | cons y r =>
      obtain ⟨⟨m, hm⟩, _⟩ := ho
      have hml : c.length = m.length + 2 := by rw [hm]; simp
      have i4 : ((pre.length + 1 : Nat) : Int) < (ls.length : Int) := by simp at hlen; omega
      have i5 : ¬ (c.length : Int) < 2 := by omega
      have hw : wrap64 ((c.length : Int) - 2) = (m.length : Int) := by rw [wrap_id (by omega) (by omega)]; omega
      have hd : (strOfNums (c.drop m.length)).toList = [13, 10] := by
        rw [hm, List.drop_left' rfl, toList_lit]
        decide +kernel
      refine Ev.step (fun k => ?_) ih'
      rw [frankinglaw1_OctetBack.l0, if_pos i1, wrap_nat b1, if_pos i4, if_pos i2, hrd, if_neg i5, hw, if_pos (by clear hw; omega), if_pos (by clear hw; omega), Int.toNat_natCast, if_pos hd, if_pos i3]
theorem lines_part (s : ByteArray) (hs : s.size ≤ 500) : Ev (fun k => frankinglaw1_OctetBack.j1 k s) true := by
  have h1 := lines_ev (bytesOf s) (bytesOf_byte s) (by rw [bytesOf_length]; omega)
  obtain ⟨h2, h3⟩ := linesA_ok (bytesOf s).length (bytesOf s) [] (Nat.le_refl _)
  have h4 := linesL_length (bytesOf s)
  rw [bytesOf_length] at h4
  have h5 := loop_ev s hs (linesL (bytesOf s)) (by omega) h3 (linesL (bytesOf s)) [] rfl h2
  refine Ev.step (fun k => by rw [frankinglaw1_OctetBack.j1, if_pos (by omega)]) (Ev.bind h1 h5)
theorem OctetBack : frankinglaw1_OctetBack.Pure := by
  intro s rest _ _
  refine Ev.rounds (r := true) (g := fun k => frankinglaw1_OctetBack.f k s rest) ?_
  refine Ev.congr (fun k => by unfold frankinglaw1_OctetBack.f; rfl) (Ev.bind awake_ev (Ev.congr (fun k => by rw [if_pos rfl]) ?_))
  by_cases h : s.size > 500
  · refine Ev.congr (fun k => by rw [if_pos (by omega)]) (Ev.after fun k => ?_)
    rw [frankinglaw1_OctetBack.j0, if_pos rfl]
  · refine Ev.congr (fun k => by rw [if_neg (by omega)]) ?_
    by_cases h1 : rest.size > 100
    · refine Ev.after fun k => ?_
      rw [decide_eq_true (by omega), frankinglaw1_OctetBack.j0, if_pos rfl]
    · have hl := lines_part s (by omega)
      have hq := quote_ev s
      refine Ev.step (fun k => by rw [decide_eq_false (by omega), frankinglaw1_OctetBack.j0, if_neg (by decide)]) (Ev.bind hq ?_)
      unfold quoteR
      rw [if_neg (by omega)]
      cases hx : (bytesOf s).all quotC with
      | false => exact Ev.congr (fun k => by rw [if_neg (show ¬ (false = true) by decide), if_neg (show ¬ (false = true) by decide)]) hl
      | true =>
        have hby : ∀ c ∈ 34 :: (bytesOf s).flatMap esc ++ [34], Byte c := by
          intro c hc
          simp at hc
          rcases hc with rfl | ⟨d, hd, hc⟩ | rfl
          · exact ⟨by omega, by omega⟩
          · have := bytesOf_byte s d hd
            unfold esc at hc
            split at hc
            · simp at hc
              rcases hc with rfl | rfl
              · exact ⟨by omega, by omega⟩
              · exact this
            · simp at hc
              subst hc
              exact this
          · exact ⟨by omega, by omega⟩
        have hesc : ((bytesOf s).flatMap esc).length ≤ 2 * s.size := by
          rw [← bytesOf_length s]
          generalize bytesOf s = l
          induction l with
          | nil => simp
          | cons c l ih =>
            have := esc_len c
            rw [List.flatMap_cons, List.length_append, List.length_cons]
            omega
        have hqs : (strOfNums (34 :: (bytesOf s).flatMap esc ++ [34])).size = ((bytesOf s).flatMap esc).length + 2 := by rw [size_strOfNums]; simp
        have hu := unq_ev (strOfNums (34 :: (bytesOf s).flatMap esc ++ [34]) ++ rest) (by rw [ByteArray.size_append, hqs]; omega)
        have hul : unqL (bytesOf (strOfNums (34 :: (bytesOf s).flatMap esc ++ [34]) ++ rest)) = (bytesOf s, ((1 + ((bytesOf s).flatMap esc).length : Nat) : Int) + 1, 0) := by
          rw [bytesOf_append, bytesOf_strOfNums hby]
          show unqA [] 1 ((bytesOf s).flatMap esc ++ [34] ++ bytesOf rest) = _
          rw [List.append_assoc]
          exact unqA_esc (bytesOf s) [] (bytesOf rest) 1 hx
        rw [hul] at hu
        refine Ev.congr (fun k => by rw [if_pos rfl, if_pos rfl, if_pos (by rw [hqs]; omega)]) (Ev.bind hu (Ev.congr (fun k => ?_) hl))
        show (if (0 : Int) = 0 then _ else _) = _
        rw [if_pos rfl]
        show (if (strOfNums (bytesOf s)).toList = s.toList then _ else _) = _
        rw [strOfNums_bytesOf, if_pos rfl]
        show (if ((1 + ((bytesOf s).flatMap esc).length : Nat) : Int) + 1 = _ then _ else _) = _
        rw [hqs, if_pos (by omega)]
end Go.Proofs.Ytcgjkppoakngnaa.Pure
