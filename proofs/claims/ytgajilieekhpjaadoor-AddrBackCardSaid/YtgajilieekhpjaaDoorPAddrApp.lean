/- Lists of addresses that are put one behind the other. -/
import Derived.Test.YtgajilieekhpjaaDoorPCut
import Derived.Test.YtgajilieekhpjaaDoorPAddrParse
namespace Go.Proofs.Mine
open Go.RowKit Go.Proofs.YtgajilieekhpjaaDoorW.PrintWords Go.Proofs.YtgajilieekhpjaaDoorW.PrintLast Go.Proofs.YtgajilieekhpjaaDoor.X
set_option linter.unusedSimpArgs false

theorem skipL_app (l x : List UInt8) : skipL (l ++ x) = if skipL l = [] then skipL x else skipL l ++ x := by
  unfold skipL Lib.trimLeftS
  rw [List.dropWhile_append]
  simp only [List.isEmpty_iff]
theorem skipL_comma (t : List UInt8) : skipL (32 :: 44 :: t) = 44 :: t := by
  unfold skipL Lib.trimLeftS
  rw [List.dropWhile_cons_of_pos (by decide), List.dropWhile_cons_of_neg (by decide)]
theorem trimL_blank (s : List UInt8) : trimL (s ++ [32]) = trimL s := by
  unfold trimL Lib.trimS Lib.trimRightS
  rw [List.reverse_append, show [32].reverse ++ s.reverse = 32 :: s.reverse from rfl, List.dropWhile_cons_of_pos (by decide)]
theorem cut_app (c : UInt8) (l y : List UInt8) (h : (Lib.cut l [c]).2.2 = true) : Lib.cut (l ++ y) [c] = ((Lib.cut l [c]).1, (Lib.cut l [c]).2.1 ++ y, true) := by
  by_cases hm : c ∈ l
  · obtain ⟨p, r, rfl, hp⟩ := List.eq_append_cons_of_mem hm
    rw [List.append_assoc, List.cons_append, cut_one c p (r ++ y) hp, cut_one c p r hp]
  · rw [cut_no c l hm] at h
    cases h
theorem idx_hit (cs y : List UInt8) : ∀ l : List UInt8, ¬ Lib.indexAny l cs < 0 → Lib.indexAny (l ++ y) cs = Lib.indexAny l cs
  | [], h => absurd (show Lib.indexAny [] cs < 0 from by rw [Lib.indexAny]; decide) h
  | b :: l, h => by
    have hg := Lib.indexAny_ge cs l
    rw [List.cons_append]
    rw [Lib.indexAny] at h ⊢
    rw [Lib.indexAny]
    by_cases hb : cs.contains b = true
    · rw [if_pos hb, if_pos hb]
    · rw [if_neg hb] at h ⊢
      rw [if_neg hb]
      by_cases h1 : Lib.indexAny l cs = -1
      · rw [h1] at h; exact absurd (by decide) h
      · rw [idx_hit cs y l (by omega)]
theorem idx_miss (cs y : List UInt8) : ∀ l : List UInt8, Lib.indexAny l cs < 0 → Lib.indexAny (l ++ y) cs = if Lib.indexAny y cs = -1 then -1 else (l.length : Int) + Lib.indexAny y cs
  | [], _ => by
    rw [List.nil_append]
    split
    · assumption
    · simp
  | b :: l, h => by
    have hg := Lib.indexAny_ge cs l
    have hgy := Lib.indexAny_ge cs y
    rw [List.cons_append]
    rw [Lib.indexAny] at h ⊢
    by_cases hb : cs.contains b = true
    · rw [if_pos hb] at h; exact absurd h (by decide)
    · rw [if_neg hb] at h ⊢
      by_cases h1 : Lib.indexAny l cs = -1
      · have ih := idx_miss cs y l (by omega)
        rw [ih]
        by_cases h2 : Lib.indexAny y cs = -1
        · rw [if_pos h2, if_pos h2]; rfl
        · rw [if_neg h2, if_neg h2, if_neg (by rw [beq_iff_eq]; omega), List.length_cons]
          omega
      · rw [if_neg (by rw [beq_iff_eq]; exact h1)] at h
        omega
theorem unqA_app (y : List Int) : ∀ (n : Nat) (l acc : List Int) (p : Nat), l.length ≤ n → (unqA acc p l).2.2 = 0 → unqA acc p (l ++ y) = unqA acc p l := by
  intro n
  induction n with
  | zero =>
    intro l acc p hl h
    obtain rfl : l = [] := List.length_eq_zero_iff.1 (by omega)
    rw [unqA] at h
    simp at h
  | succ n ih =>
    intro l acc p hl h
    match l, hl, h with
    | [], _, h => rw [unqA] at h; simp at h
    | [c], _, h =>
      rw [unqA] at h ⊢
      by_cases h1 : c = 34
      · rw [if_pos h1]
        cases y with
        | nil => show unqA acc p [c] = _; rw [unqA, if_pos h1]
        | cons d y => show unqA acc p (c :: d :: y) = _; rw [unqA, if_pos h1]
      · rw [if_neg h1] at h
        split at h <;> simp at h
    | c :: d :: l, hl, h =>
      rw [List.length_cons, List.length_cons] at hl
      rw [List.cons_append, List.cons_append]
      rw [unqA] at h ⊢
      rw [unqA]
      by_cases h1 : c = 34
      · rw [if_pos h1, if_pos h1]
      · rw [if_neg h1] at h ⊢
        rw [if_neg h1]
        by_cases h2 : quotC c = false
        · rw [if_pos h2] at h; simp at h
        · rw [if_neg h2] at h ⊢
          rw [if_neg h2]
          by_cases h3 : c = 92
          · rw [if_pos h3] at h ⊢
            rw [if_pos h3]
            by_cases h4 : d = 34 ∨ d = 92
            · rw [if_pos h4] at h ⊢
              rw [if_pos h4]
              exact ih l (acc ++ [d]) (p + 2) (by omega) h
            · rw [if_neg h4] at h; simp at h
          · rw [if_neg h3] at h ⊢
            rw [if_neg h3]
            exact ih (d :: l) (acc ++ [c]) (p + 1) (by rw [List.length_cons]; omega) h
theorem hd_app (c : UInt8) {s : List UInt8} (x : List UInt8) (h : s ≠ []) : hd c (s ++ x) = hd c s := by
  cases s with
  | nil => exact absurd rfl h
  | cons b s => rfl
/-- What is read stays, more follows. -/
def extR (t : List UInt8) (r : R5) : R5 := (r.1, r.2.1, r.2.2.1, BA (if r.2.2.2.1.data.toList = [] then 44 :: t else r.2.2.2.1.data.toList ++ 32 :: 44 :: t), r.2.2.2.2)
theorem j0_app (s t : List UInt8) (name : ByteArray) (hs : s ≠ []) (h : (j0L s name).2.2.2.2 = true) : j0L (s ++ 32 :: 44 :: t) name = extR t (j0L s name) := by
  unfold j0L at h ⊢
  rw [hd_app 60 _ hs]
  by_cases h6 : hd 60 s = true
  · rw [if_pos h6] at h ⊢
    rw [if_pos h6]
    obtain ⟨y, rfl⟩ := hd_cons h6
    rw [List.cons_append, List.tail_cons]
    rw [List.tail_cons] at h ⊢
    by_cases hc : (Lib.cut y [62]).2.2 = true
    · rw [if_pos hc] at h ⊢
      rw [cut_app 62 y _ hc, if_pos rfl]
      unfold extR
      simp only
      rw [skipL_app, skipL_comma]
    · rw [if_neg hc] at h; cases h
  · rw [if_neg h6] at h ⊢
    rw [if_neg h6]
    unfold extR
    simp only
    rw [if_neg (by simpa using hs)]
theorem one_app (l t : List UInt8) (h : (oneL l).2.2.2.2 = true) : oneL (l ++ 32 :: 44 :: t) = extR t (oneL l) := by
  unfold oneL at h ⊢
  rw [skipL_app]
  by_cases h0 : skipL l = []
  · rw [h0] at h
    exact absurd h (by decide +kernel)
  · rw [if_neg h0]
    generalize skipL l = s at *
    rw [hd_app 34 _ h0]
    by_cases hq : hd 34 s = true
    · rw [if_pos hq] at h ⊢
      rw [if_pos hq]
      obtain ⟨m, rfl⟩ := hd_cons hq
      by_cases hu : (unqL (Nm (34 :: m))).2.2 = 0
      · have hap : unqL (Nm (34 :: m ++ 32 :: 44 :: t)) = unqL (Nm (34 :: m)) := by
          rw [Nm_app]
          exact unqA_app _ (Nm m).length (Nm m) [] 1 (Nat.le_refl _) hu
        obtain ⟨p0, p1, p2⟩ := unqL_pos _ hu
        rw [Nm_len] at p1
        rw [if_pos hu] at h ⊢
        rw [hap, if_pos hu]
        generalize unqL (Nm (34 :: m)) = u at *
        rw [List.drop_append_of_le_length (by omega), skipL_app]
        by_cases hr : skipL ((34 :: m).drop u.2.1.toNat) = []
        · rw [hr] at h
          rw [if_neg (by decide)] at h
          cases h
        · rw [if_neg hr]
          generalize skipL ((34 :: m).drop u.2.1.toNat) = r at *
          rw [hd_app 60 _ hr]
          by_cases h6 : hd 60 r = true
          · rw [if_pos h6] at h ⊢
            rw [if_pos h6]
            exact j0_app r t _ hr h
          · rw [if_neg h6] at h; cases h
      · rw [if_neg hu] at h; cases h
    · rw [if_neg hq] at h ⊢
      rw [if_neg hq]
      have hg := Lib.indexAny_ge marks s
      have hb := idx_lt marks s
      unfold upTo at h ⊢
      by_cases hi : Lib.indexAny s marks < 0
      · have e : Lib.indexAny (s ++ 32 :: 44 :: t) marks = (s.length : Int) + 1 := by
          have e1 : Lib.indexAny (32 :: 44 :: t) marks = 1 := by
            have h44 : Lib.indexAny (44 :: t) marks = 0 := by rw [Lib.indexAny, if_pos (by decide)]
            rw [Lib.indexAny, if_neg (by decide), h44]
            rfl
          rw [idx_miss _ _ s hi, e1, if_neg (by decide)]
        rw [if_pos hi] at h ⊢
        rw [e, if_neg (by omega)]
        rw [show ((s.length : Int) + 1).toNat = s.length + 1 by omega]
        have e2 : (s ++ 32 :: 44 :: t).drop (s.length + 1) = 44 :: t := by
          rw [show s ++ 32 :: 44 :: t = (s ++ [32]) ++ 44 :: t by simp, List.drop_left' (by simp)]
        have e3 : (s ++ 32 :: 44 :: t).take (s.length + 1) = s ++ [32] := by
          rw [show s ++ 32 :: 44 :: t = (s ++ [32]) ++ 44 :: t by simp, List.take_left' (by simp)]
        rw [e2, e3, trimL_blank]
        rw [List.drop_eq_nil_of_le (Nat.le_refl _), List.take_of_length_le (Nat.le_refl _)]
        rfl
      · have hn : (Lib.indexAny s marks).toNat < s.length := by omega
        rw [if_neg hi] at h ⊢
        rw [idx_hit _ _ s hi, if_neg hi]
        rw [List.drop_append_of_le_length (by omega), List.take_append_of_le_length (by omega)]
        refine j0_app _ t _ ?_ h
        intro h0
        have := congrArg List.length h0
        rw [List.length_drop, List.length_nil] at this
        omega
theorem parseN_fuel : ∀ (n m : Nat) (l : List UInt8), l.length < n → l.length < m → parseN n l = parseN m l := by
  intro n
  induction n with
  | zero => intro m l h; omega
  | succ n ih =>
    intro m l h1 h2
    obtain ⟨m, rfl⟩ : ∃ m', m = m' + 1 := ⟨m - 1, by omega⟩
    rw [parseN, parseN]
    have hr := oneL_rest l
    have hrs : (oneL l).2.2.2.1.data.toList.length = (oneL l).2.2.2.1.size := (sizeN _).symm.trans (congrArg ByteArray.size (BA_data _).symm)
    split
    · split
      · rfl
      · rename_i c r hc
        rw [hc, List.length_cons] at hrs
        rw [ih m r (by omega) (by omega)]
    · rfl
theorem parse_app (t : List UInt8) : ∀ (n m : Nat) (l : List UInt8) (A : List S33), parseN n l = some A → l.length + 2 + t.length < m → parseN m (l ++ 32 :: 44 :: t) = (parseN m t).map (A ++ ·) := by
  intro n
  induction n with
  | zero => intro m l A h; cases h
  | succ n ih =>
    intro m l A h hm
    obtain ⟨m, rfl⟩ : ∃ m', m = m' + 1 := ⟨m - 1, by omega⟩
    rw [parseN] at h
    by_cases hok : (oneL l).2.2.2.2 = true
    · rw [if_pos hok] at h
      have e1 := one_app l t hok
      have hr := oneL_rest l
      have hrs : (oneL l).2.2.2.1.data.toList.length = (oneL l).2.2.2.1.size := (sizeN _).symm.trans (congrArg ByteArray.size (BA_data _).symm)
      have e2 : parseN (m + 1) (l ++ 32 :: 44 :: t) = match (if (oneL l).2.2.2.1.data.toList = [] then 44 :: t else (oneL l).2.2.2.1.data.toList ++ 32 :: 44 :: t) with
          | [] => some [addrOf (oneL l)]
          | c :: r => if c = 44 then (parseN m r).map (addrOf (oneL l) :: ·) else none := by
        rw [parseN, e1, if_pos (show (extR t (oneL l)).2.2.2.2 = true from hok)]
        rfl
      rw [e2]
      generalize oneL l = o at *
      cases hl : o.2.2.2.1.data.toList with
      | nil =>
        rw [hl] at h
        simp only [Option.some.injEq] at h
        subst h
        rw [if_pos rfl]
        simp only [if_true]
        rw [parseN_fuel m (m + 1) t (by omega) (by omega)]
        rfl
      | cons c r =>
        rw [hl] at h hrs
        rw [if_neg (by simp)]
        simp only [List.cons_append] at h ⊢
        by_cases hc : c = 44
        · rw [if_pos hc] at h ⊢
          rw [Option.map_eq_some_iff] at h
          obtain ⟨A', h1, rfl⟩ := h
          rw [List.length_cons] at hrs
          rw [ih m r A' h1 (by omega), parseN_fuel m (m + 1) t (by omega) (by omega)]
          cases parseN (m + 1) t with
          | none => rfl
          | some B => rfl
        · rw [if_neg hc] at h; cases h
    · rw [if_neg hok] at h; cases h
theorem parseN_len : ∀ (n : Nat) (l : List UInt8) (A : List S33), parseN n l = some A → A.length ≤ n := by
  intro n
  induction n with
  | zero => intro l A h; cases h
  | succ n ih =>
    intro l A h
    rw [parseN] at h
    split at h
    · split at h
      · cases h; simp
      · split at h
        · rw [Option.map_eq_some_iff] at h
          obtain ⟨A', h1, rfl⟩ := h
          have := ih _ _ h1
          simp; omega
        · cases h
    · cases h
theorem parseL_app (s t : List UInt8) (A B : List S33) (ha : parseL s = (A, 0)) (hA : A ≠ []) (hb : parseL t = (B, 0)) (hB : B ≠ []) : parseL (s ++ 32 :: 44 :: t) = (A ++ B, 0) := by
  unfold parseL at ha hb ⊢
  have fin : ∀ (l : List UInt8) (A : List S33), A ≠ [] → (if skipL l = [] then ([], 0) else outP [] (parseN (l.length + 1) l)) = (A, (0 : Int)) → parseN (l.length + 1) l = some A := by
    intro l A hA h
    by_cases h0 : skipL l = []
    · rw [if_pos h0] at h
      exact absurd (congrArg Prod.fst h).symm hA
    · rw [if_neg h0] at h
      cases hp : parseN (l.length + 1) l with
      | none => rw [hp] at h; cases h
      | some v =>
        rw [hp] at h
        have e : v = A := by simpa [outP] using congrArg Prod.fst h
        rw [e]
  have ha' := fin s A hA ha
  have hb' := fin t B hB hb
  have h0 : skipL (s ++ 32 :: 44 :: t) ≠ [] := by
    rw [skipL_app, skipL_comma]
    split
    · simp
    · simp
  rw [if_neg h0]
  have hlen : (s ++ 32 :: 44 :: t).length = s.length + 2 + t.length := by simp; omega
  rw [parse_app t (s.length + 1) _ s A ha' (by omega), hlen]
  rw [parseN_fuel _ (t.length + 1) t (by omega) (by omega), hb']
  rfl
theorem parseL_len (l : List UInt8) : (parseL l).1.length ≤ l.length + 1 := by
  unfold parseL
  split
  · simp
  · cases hp : parseN (l.length + 1) l with
    | none => simp [outP]
    | some v =>
      have := parseN_len _ _ _ hp
      simpa [outP] using this
end Go.Proofs.Mine
