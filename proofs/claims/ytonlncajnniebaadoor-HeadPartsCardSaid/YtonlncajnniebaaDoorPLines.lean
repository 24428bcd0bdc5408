/- A text's lines: each ends with CRLF but the last. -/
import Derived.Test.YtonlncajnniebaaDoorPLib
import Derived.Test.YtonlncajnniebaaDoorX1
namespace Go.Proofs.Mine
open Go.RowKit Go.Proofs.YtonlncajnniebaaDoorW.PrintWords Go.Proofs.YtonlncajnniebaaDoorW.PrintLast Go.Proofs.YtonlncajnniebaaDoor.X

/-- The lines of l, cur being what stands ahead of it in the first one. -/
def linesA : List Int → List Int → List (List Int)
  | cur, [] => if cur = [] then [] else [cur]
  | cur, 13 :: 10 :: l => (cur ++ [13, 10]) :: linesA [] l
  | cur, c :: l => linesA (cur ++ [c]) l
theorem linesA_nil (cur : List Int) : linesA cur [] = if cur = [] then [] else [cur] := by simp [linesA]
theorem linesA_end (cur l : List Int) : linesA cur (13 :: 10 :: l) = (cur ++ [13, 10]) :: linesA [] l := by simp [linesA]
theorem linesA_go (cur : List Int) (c : Int) (l : List Int) (h : ¬ (c = 13 ∧ ∃ m, l = 10 :: m)) : linesA cur (c :: l) = linesA (cur ++ [c]) l := by
  rw [linesA.eq_def]
  split
  · rename_i e; cases e
  · rename_i e
    injection e with e1 e2
    subst e1
    exact absurd ⟨rfl, _, e2⟩ h
  · rename_i e
    injection e with e1 e2
    subst e1 e2
    rfl
/-- The lines of a text. -/
def linesL (l : List Int) : List (List Int) := linesA [] l
theorem starts_dec (c : Int) (l : List Int) : (c = 13 ∧ ∃ m, l = 10 :: m) ∨ ¬ (c = 13 ∧ ∃ m, l = 10 :: m) := Classical.em _
theorem libBytes_cons (c : Int) (l : List Int) : Lib.bytesOf (c :: l) = UInt8.ofNat c.toNat :: Lib.bytesOf l := rfl
theorem u8_eq {c d : Int} (hc : Byte c) (hd : Byte d) : UInt8.ofNat c.toNat = UInt8.ofNat d.toNat ↔ c = d := by
  obtain ⟨h0, h1⟩ := hc
  obtain ⟨h2, h3⟩ := hd
  constructor
  · intro h
    have := congrArg UInt8.toNat h
    simp at this
    omega
  · intro h; rw [h]
/-- Where the first CRLF stands. -/
theorem linesA_index : ∀ (l cur : List Int), (∀ c ∈ l, Byte c) →
    (Lib.index (Lib.bytesOf l) [13, 10] = -1 ∧ linesA cur l = (if cur ++ l = [] then [] else [cur ++ l])) ∨
    (∃ n : Nat, Lib.index (Lib.bytesOf l) [13, 10] = n ∧ n + 2 ≤ l.length ∧ linesA cur l = (cur ++ l.take (n + 2)) :: linesA [] (l.drop (n + 2))) := by
  intro l
  induction l with
  | nil =>
    intro cur _
    refine .inl ⟨by rfl, ?_⟩
    rw [linesA_nil, List.append_nil]
  | cons c l ih =>
    intro cur hb
    have hc := hb c (by simp)
    have hl : ∀ d ∈ l, Byte d := fun d hd => hb d (by simp [hd])
    rcases starts_dec c l with ⟨rfl, m, rfl⟩ | hn
    · refine .inr ⟨0, ?_, by simp, ?_⟩
      · rw [libBytes_cons, libBytes_cons, Lib.index, if_pos]
        · rfl
        · simp [List.isPrefixOf]
      · rw [linesA_end]
        simp
    · have hp : ([13, 10] : List UInt8).isPrefixOf (Lib.bytesOf (c :: l)) = false := by
        rw [libBytes_cons]
        cases l with
        | nil => simp [Lib.bytesOf, List.isPrefixOf]
        | cons d m =>
          rw [libBytes_cons]
          have hd := hb d (by simp)
          simp only [List.isPrefixOf, Bool.and_true]
          rw [Bool.eq_false_iff]
          intro h
          rw [Bool.and_eq_true, beq_iff_eq, beq_iff_eq] at h
          have h1 := (u8_eq (c := 13) (d := c) ⟨by omega, by omega⟩ hc).1 h.1
          have h2 := (u8_eq (c := 10) (d := d) ⟨by omega, by omega⟩ hd).1 h.2
          exact hn ⟨h1.symm, m, by rw [h2]⟩
      have hx : Lib.index (Lib.bytesOf (c :: l)) [13, 10] = if Lib.index (Lib.bytesOf l) [13, 10] == -1 then -1 else Lib.index (Lib.bytesOf l) [13, 10] + 1 := by
        rw [libBytes_cons, Lib.index, ← libBytes_cons, hp]
        rfl
      rcases ih (cur ++ [c]) hl with ⟨h1, h2⟩ | ⟨n, h1, h2, h3⟩
      · refine .inl ⟨by rw [hx, h1]; rfl, ?_⟩
        rw [linesA_go cur c l hn, h2]
        simp
      · refine .inr ⟨n + 1, ?_, by simp only [List.length_cons]; omega, ?_⟩
        · rw [hx, h1, if_neg (by simp)]
          rfl
        · rw [linesA_go cur c l hn, h3]
          simp
theorem byteB_of {l : List Int} (h : ∀ c ∈ l, Byte c) : l.all byteB = true := by
  rw [List.all_eq_true]
  intro c hc
  obtain ⟨h0, h1⟩ := h c hc
  simp [byteB]
  omega
theorem lines_loop (l0 : Nat) (h0 : l0 ≤ 1000000000) : ∀ (n : Nat) (l : List Int) (acc : List (List Int)), l.length ≤ n → (∀ c ∈ l, Byte c) → acc.length + l.length ≤ l0 →
    Ev (fun k => octet_Lines.l0 k l acc) (acc ++ linesL l) := by
  intro n
  induction n with
  | zero =>
    intro l acc hn hb ha
    obtain rfl : l = [] := List.length_eq_zero_iff.1 (by omega)
    refine Ev.after fun k => ?_
    simp only [octet_Lines.l0]
    rw [if_neg (by simp)]
    simp [linesL, linesA]
  | succ n ih =>
    intro l acc hn hb ha
    cases hl : l with
    | nil =>
      refine Ev.after fun k => ?_
      simp only [octet_Lines.l0]
      rw [if_neg (by simp)]
      simp [linesL, linesA]
    | cons c m =>
      have hpos : 0 < l.length := by rw [hl]; simp
      rw [← hl]
      have hix : bytes_Index.f l [13, 10] = some (Lib.index (Lib.bytesOf l) [13, 10]) := by
        have h2 : (([13, 10] : List Int).all byteB) = true := by decide
        have h3 : l.length < 4294967281 := by omega
        unfold bytes_Index.f
        rw [if_pos]
        · rfl
        · rw [byteB_of hb, h2, decide_eq_true h3]
          simp
      rcases linesA_index l [] hb with ⟨h1, h2⟩ | ⟨i, h1, h2, h3⟩
      · have hcl : bytes_Clone.f (l.take ((l.length : Int)).toNat) = some l := by
          rw [Int.toNat_natCast, List.take_length]
          unfold bytes_Clone.f
          rw [if_pos (by omega)]
        have ih' := ih [] (acc ++ [l]) (by simp) (by simp) (by simp; omega)
        refine Ev.step (fun k => by
          simp only [octet_Lines.l0]
          rw [if_pos (by omega), hix, h1, Option.bind_some, if_neg (by omega), if_pos (by omega), if_pos (by omega), hcl, Option.bind_some, if_pos (by omega), Int.toNat_natCast, List.drop_length]) (Ev.eq ih' ?_)
        unfold linesL
        rw [h2, List.nil_append, if_neg (by rw [hl]; simp), linesA_nil]
        simp
      · have q1 : (l.length : Int) > 0 := by omega
        have q2 : (i : Int) ≥ 0 := by omega
        have q3 : 0 ≤ ((i + 2 : Nat) : Int) := by omega
        have q4 : ((i + 2 : Nat) : Int) ≤ (l.length : Int) := by omega
        have q5 : acc.length < 5864062014805 := by omega
        have hi : i < 1000000000 := by omega
        have hw : wrap64 ((i : Int) + 2) = ((i + 2 : Nat) : Int) := by clear h1 h3 ih hix hb; unfold wrap64; omega
        have hcl : bytes_Clone.f (l.take (i + 2)) = some (l.take (i + 2)) := by
          unfold bytes_Clone.f
          rw [if_pos (by rw [List.length_take]; omega)]
        have ih' := ih (l.drop (i + 2)) (acc ++ [l.take (i + 2)]) (by rw [List.length_drop]; omega) (fun c hc => hb c (List.mem_of_mem_drop hc)) (by simp; omega)
        refine Ev.step (fun k => by
          simp only [octet_Lines.l0]
          rw [if_pos q1, hix, h1, Option.bind_some, if_pos q2, hw, if_pos q3, if_pos q4, Int.toNat_natCast, hcl, Option.bind_some, if_pos q5]) (Ev.eq ih' ?_)
        unfold linesL
        rw [h3]
        simp
theorem linesA_length : ∀ (n : Nat) (l cur : List Int), l.length ≤ n → (linesA cur l).length ≤ l.length + 1 := by
  intro n
  induction n with
  | zero =>
    intro l cur h
    obtain rfl : l = [] := List.length_eq_zero_iff.1 (by omega)
    rw [linesA_nil]
    split <;> simp
  | succ n ih =>
    intro l cur h
    cases l with
    | nil => rw [linesA_nil]; split <;> simp
    | cons c l =>
      rcases starts_dec c l with ⟨rfl, m, rfl⟩ | hn
      · rw [linesA_end]
        have := ih m [] (by simp at h; omega)
        simp
        omega
      · rw [linesA_go _ _ _ hn]
        have := ih l (cur ++ [c]) (by simp at h; omega)
        simp
        omega
theorem linesL_length (l : List Int) : (linesL l).length ≤ l.length + 1 := linesA_length l.length l [] (Nat.le_refl _)
theorem lines_ev (l : List Int) (hb : ∀ c ∈ l, Byte c) (hz : l.length ≤ 1000000000) : Ev (fun k => octet_Lines.f k l) (linesL l) := by
  have h := lines_loop 1000000000 (Nat.le_refl _) l.length l [] (Nat.le_refl _) hb (by simpa using hz)
  rw [List.nil_append] at h
  exact h
/-- Lines of what ends a line, and of what is behind it. -/
theorem linesA_split : ∀ (x cur b : List Int), linesA cur (x ++ 13 :: 10 :: b) = linesA cur (x ++ [13, 10]) ++ linesA [] b := by
  intro x
  induction h : x.length using Nat.strongRecOn generalizing x with
  | _ n ih =>
  intro cur b
  match x, h with
  | [], _ =>
    simp only [List.nil_append]
    rw [linesA_end, linesA_end, linesA_nil, if_pos rfl]
    rfl
  | [c], _ =>
    by_cases hc : c = 13
    · subst hc
      have h1 : ¬ ((13 : Int) = 13 ∧ ∃ m : List Int, (13 : Int) :: 10 :: b = 10 :: m) := by rintro ⟨_, m, e⟩; simp at e
      have h2 : ¬ ((13 : Int) = 13 ∧ ∃ m : List Int, ([13, 10] : List Int) = 10 :: m) := by rintro ⟨_, m, e⟩; simp at e
      show linesA cur (13 :: 13 :: 10 :: b) = linesA cur (13 :: [13, 10]) ++ linesA [] b
      rw [linesA_go _ _ _ h1, linesA_go _ _ _ h2, linesA_end, linesA_end, linesA_nil, if_pos rfl]
      rfl
    · show linesA cur (c :: 13 :: 10 :: b) = linesA cur (c :: [13, 10]) ++ linesA [] b
      rw [linesA_go _ _ _ (fun h => hc h.1), linesA_go _ _ _ (fun h => hc h.1), linesA_end, linesA_end, linesA_nil, if_pos rfl]
      rfl
  | c :: d :: y, h =>
    by_cases hcd : c = 13 ∧ d = 10
    · obtain ⟨rfl, rfl⟩ := hcd
      show linesA cur (13 :: 10 :: (y ++ 13 :: 10 :: b)) = linesA cur (13 :: 10 :: (y ++ [13, 10])) ++ linesA [] b
      rw [linesA_end, linesA_end, ih y.length (by rw [← h]; simp; omega) y rfl]
      rfl
    · have h1 : ∀ z : List Int, ¬ (c = 13 ∧ ∃ m : List Int, d :: z = 10 :: m) := by
        rintro z ⟨e1, m, e2⟩
        injection e2 with e3 _
        exact hcd ⟨e1, e3⟩
      show linesA cur (c :: (d :: (y ++ 13 :: 10 :: b))) = linesA cur (c :: (d :: (y ++ [13, 10]))) ++ linesA [] b
      rw [linesA_go _ _ _ (h1 _), linesA_go _ _ _ (h1 _)]
      exact ih (d :: y).length (by rw [← h]; simp) (d :: y) rfl (cur ++ [c]) b
end Go.Proofs.Mine
