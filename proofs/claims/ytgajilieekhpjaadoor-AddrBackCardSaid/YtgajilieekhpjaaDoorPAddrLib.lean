/- Addresses, plainly: how one is read, how a list is. -/
import Derived.Test.YtgajilieekhpjaaDoorPUnquote
import Derived.Test.YtgajilieekhpjaaDoorPNm
import Derived.Test.YtgajilieekhpjaaDoorX4
import Derived.Test.YtgajilieekhpjaaDoorX5
import Derived.Test.YtgajilieekhpjaaDoorX2
import Derived.Test.YtgajilieekhpjaaDoorX3
namespace Go.Proofs.Mine
open Go.RowKit Go.Proofs.YtgajilieekhpjaaDoorW.PrintWords Go.Proofs.YtgajilieekhpjaaDoorW.PrintLast Go.Proofs.YtgajilieekhpjaaDoor.X
set_option linter.unusedSimpArgs false

/-- A text of these bytes. -/
abbrev BA (l : List UInt8) : ByteArray := ⟨l.toArray⟩
theorem BA_data (s : ByteArray) : s = BA s.data.toList := by
  obtain ⟨⟨l⟩⟩ := s
  rfl
theorem toListN (l : List UInt8) : (BA l).toList = l := by rw [ByteArray.toList_eq]
theorem ext_BA (l : List UInt8) (i j : Nat) : (BA l).extract i j = BA ((l.take j).drop i) := bytesOf_inj (by
  rw [bytesOf_extract, bytesOf_Nm, bytesOf_Nm]
  simp [Nm, List.map_take, List.map_drop])
theorem ext_from (l : List UInt8) (i : Nat) : (BA l).extract i (BA l).size = BA (l.drop i) := by
  rw [ext_BA, sizeN, List.take_of_length_le (Nat.le_refl _)]
theorem ext_to (l : List UInt8) (j : Nat) : (BA l).extract 0 j = BA (l.take j) := by
  rw [ext_BA, List.drop_zero]
def hd (c : UInt8) : List UInt8 → Bool
  | [] => false
  | b :: _ => b == c
theorem hd_cons {c : UInt8} {l : List UInt8} (h : hd c l = true) : ∃ y, l = c :: y := by
  cases l with
  | nil => cases h
  | cons b y =>
    have : b = c := by simpa [hd] using h
    exact ⟨y, by rw [this]⟩
theorem prefix_one (c : UInt8) (l : List UInt8) : strings_HasPrefix.f (BA l) (BA [c]) = some (hd c l) := by
  rw [hasPrefix_eq, bytesOf_Nm, bytesOf_Nm, sizeN]
  cases l with
  | nil => rfl
  | cons b l =>
    congr 1
    show decide ([(b.toNat : Int)] = [(c.toNat : Int)]) = (b == c)
    by_cases e : b = c
    · subst e; simp
    · have e2 : ¬ (b.toNat : Int) = (c.toNat : Int) := fun h => e (UInt8.toNat_inj.1 (by omega))
      rw [decide_eq_false (by simpa using e2)]
      exact (beq_eq_false_iff_ne.2 e).symm
def skipL (l : List UInt8) : List UInt8 := Lib.trimLeftS l [32, 9]
def trimL (l : List UInt8) : List UInt8 := Lib.trimS l [32, 9]
theorem skip_eq (l : List UInt8) : addr_skip.f (BA l) = some (BA (skipL l)) := by
  unfold addr_skip.f strings_TrimLeft.f
  rw [if_pos (by decide)]
  rfl
theorem trim_eq (l : List UInt8) (h : l.length ≤ 1000000) : strings_Trim.f (BA l) (BA [32, 9]) = some (BA (trimL l)) := by
  unfold strings_Trim.f
  rw [decide_eq_true (show (BA l).size ≤ 9223372036854775807 by rw [sizeN]; omega), if_pos (by decide)]
  rfl
theorem cut_eq (l : List UInt8) (c : UInt8) (h : l.length ≤ 1000000) : strings_Cut.f (BA l) (BA [c]) = some (BA (Lib.cut l [c]).1, BA (Lib.cut l [c]).2.1, (Lib.cut l [c]).2.2) := by
  unfold strings_Cut.f
  rw [if_pos (decide_eq_true (by rw [sizeN]; omega))]
def marks : List UInt8 := [60, 62, 44, 34]
theorem idx_eq (l : List UInt8) (h : l.length ≤ 1000000) : strings_IndexAny.f (BA l) (BA [60, 62, 44, 34]) = some (Lib.indexAny l marks) := by
  unfold strings_IndexAny.f
  rw [decide_eq_true (show (BA l).size < 4294967281 by rw [sizeN]; omega), if_pos (by decide)]
  rfl
theorem cut_len1 (l s : List UInt8) : (Lib.cut l s).1.length ≤ l.length := by
  unfold Lib.cut
  split
  · simp only [List.length_take]; omega
  · exact Nat.le_refl _
theorem cut_len2 (l s : List UInt8) : (Lib.cut l s).2.1.length ≤ l.length := by
  unfold Lib.cut
  split
  · simp only [List.length_drop]; omega
  · exact Nat.zero_le _
theorem skipL_len (l : List UInt8) : (skipL l).length ≤ l.length := (List.dropWhile_sublist _).length_le
theorem trimL_len (l : List UInt8) : (trimL l).length ≤ l.length := by
  unfold trimL Lib.trimS
  refine Nat.le_trans (skipL_len _) ?_
  unfold Lib.trimRightS
  rw [List.length_reverse]
  refine Nat.le_trans (List.dropWhile_sublist _).length_le ?_
  rw [List.length_reverse]
  exact Nat.le_refl _
/-! A word. -/
def wordC (b : UInt8) : Bool := decide (32 < b.toNat) && decide (b.toNat ≤ 126) && !([60, 62, 44, 34, 64, 40, 41] : List UInt8).contains b
def wordL (l : List UInt8) : Bool := l.all wordC && !l.isEmpty
theorem word_loop (s : List UInt8) (hs : s.length ≤ 1000000) : ∀ (l pre : List UInt8), s = pre ++ l →
    Ev (fun k => addr_word.l0 k (BA s) (s.length : Int) (pre.length : Int)) (l.all wordC && !s.isEmpty) := by
  intro l
  induction l with
  | nil =>
    intro pre h
    have hl : s.length = pre.length := by rw [h]; simp
    refine Ev.after fun k => ?_
    rw [addr_word.l0, if_neg (by omega), toListN]
    cases s <;> rfl
  | cons b l ih =>
    intro pre h
    have hl : s.length = pre.length + (l.length + 1) := by rw [h]; simp
    have hb : bt (BA s) (pre.length : Int) = (b.toNat : Int) := by
      have := bt_of (s := BA s) (pre := Nm pre) (l := Nm l) (c := (b.toNat : Int)) (by rw [bytesOf_Nm, h, Nm_app]; rfl)
      rwa [Nm_len] at this
    have ih' := ih (pre ++ [b]) (by rw [h]; simp)
    rw [List.length_append, List.length_singleton] at ih'
    have e : ∀ k, addr_word.l0 (k + 1) (BA s) (s.length : Int) (pre.length : Int) = if wordC b = true then addr_word.l0 k (BA s) (s.length : Int) ((pre.length + 1 : Nat) : Int) else some false := by
      intro k
      rw [addr_word.l0, if_pos (by omega), if_pos (by omega), if_pos (by rw [sizeN]; omega), hb, wrap_nat (by omega)]
      unfold wordC strings_IndexByte.f
      by_cases h1 : (b.toNat : Int) ≤ 32
      · rw [if_pos h1, decide_eq_false (by omega), Bool.false_and, Bool.false_and, if_neg (by decide)]
      · rw [if_neg h1, decide_eq_true (by omega), Bool.true_and]
        by_cases h2 : (b.toNat : Int) > 126
        · rw [if_pos h2, decide_eq_false (by omega), Bool.false_and, if_neg (by decide)]
        · rw [if_neg h2, decide_eq_true (by omega), Bool.true_and, Option.bind_some]
          have hback : ((b.toNat : Int)).toNat.toUInt8 = b := by simp
          rw [hback, show (⟨#[60, 62, 44, 34, 64, 40, 41]⟩ : ByteArray).data.toList = [60, 62, 44, 34, 64, 40, 41] from rfl, Lib.contains_iff_indexByte]
          by_cases h3 : 0 ≤ Lib.indexByte [60, 62, 44, 34, 64, 40, 41] b
          · rw [if_pos h3, decide_eq_true h3]; rfl
          · rw [if_neg h3, decide_eq_false h3]; rfl
    rw [List.all_cons]
    cases hw : wordC b with
    | true => exact Ev.step (fun k => by rw [e, if_pos hw]) (by rw [Bool.true_and]; exact ih')
    | false => exact Ev.after fun k => by rw [e, hw, if_neg (by decide)]; rfl
theorem word_ev (s : List UInt8) (hs : s.length ≤ 1000000) : Ev (fun k => addr_word.f k (BA s)) (wordL s) :=
  Ev.congr (fun k => by unfold addr_word.f; rw [sizeN]; rfl) (word_loop s hs s [] rfl)
/-! local@host -/
def pairL (l : List UInt8) : List UInt8 × List UInt8 × Bool := (trimL (Lib.cut l [64]).1, trimL (Lib.cut l [64]).2.1, (Lib.cut l [64]).2.2 && (wordL (trimL (Lib.cut l [64]).1) && wordL (trimL (Lib.cut l [64]).2.1)))
theorem pair_ev (l : List UInt8) (h : l.length ≤ 1000000) : Ev (fun k => addr_pair.f k (BA l)) (BA [], BA (pairL l).1, BA (pairL l).2.1, (pairL l).2.2) := by
  have l1 := cut_len1 l [64]
  have l2 := cut_len2 l [64]
  have m1 := trimL_len (Lib.cut l [64]).1
  have m2 := trimL_len (Lib.cut l [64]).2.1
  unfold pairL
  generalize hc : Lib.cut l [64] = c at *
  have e : ∀ k, addr_pair.f k (BA l) = if c.2.2 = true then (addr_word.f k (BA (trimL c.1))).bind fun t => (if t = true then (addr_word.f k (BA (trimL c.2.1))).bind fun u => some (BA [], BA (trimL c.1), BA (trimL c.2.1), u) else some (BA [], BA (trimL c.1), BA (trimL c.2.1), false)) else some (BA [], BA (trimL c.1), BA (trimL c.2.1), false) := by
    intro k
    unfold addr_pair.f
    rw [cut_eq l 64 h, Option.bind_some]
    simp only [hc]
    rw [trim_eq _ (by omega), Option.bind_some, trim_eq _ (by omega), Option.bind_some]
  refine Ev.congr e ?_
  cases h2 : c.2.2 with
  | false => exact Ev.now _
  | true =>
    refine Ev.congr (fun k => if_pos rfl) ?_
    refine Ev.bind (word_ev _ (by omega)) ?_
    cases w1 : wordL (trimL c.1) with
    | false => exact Ev.now _
    | true =>
      refine Ev.congr (fun k => if_pos rfl) ?_
      refine Ev.bind (word_ev _ (by omega)) ?_
      exact Ev.now _
/-! One address. -/
abbrev R5 := ByteArray × ByteArray × ByteArray × ByteArray × Bool
def fail5 : R5 := (BA [], BA [], BA [], BA [], false)
def j0L (s : List UInt8) (name : ByteArray) : R5 :=
  if hd 60 s = true then
    (if (Lib.cut s.tail [62]).2.2 = true then (name, BA (pairL (Lib.cut s.tail [62]).1).1, BA (pairL (Lib.cut s.tail [62]).1).2.1, BA (skipL (Lib.cut s.tail [62]).2.1), (pairL (Lib.cut s.tail [62]).1).2.2)
     else fail5)
  else (BA [], BA (pairL name.data.toList).1, BA (pairL name.data.toList).2.1, BA s, (pairL name.data.toList).2.2)
theorem j0_ev (s : List UInt8) (name : ByteArray) (hs : s.length ≤ 1000000) (hn : name.size ≤ 1000000) : Ev (fun k => addr_one.j0 k (BA s) name) (j0L s name) := by
  unfold j0L
  cases hh : hd 60 s with
  | true =>
    obtain ⟨y, rfl⟩ := hd_cons hh
    rw [List.length_cons] at hs
    have l1 := cut_len1 y [62]
    rw [if_pos rfl, List.tail_cons]
    have e : ∀ k, addr_one.j0 (k + 1) (BA (60 :: y)) name = if (Lib.cut y [62]).2.2 = true then ((addr_pair.f k (BA (Lib.cut y [62]).1)).bind fun p => some (name, p.2.1, p.2.2.1, BA (skipL (Lib.cut y [62]).2.1), p.2.2.2)) else some fail5 := by
      intro k
      rw [addr_one.j0, prefix_one, Option.bind_some, if_pos hh, if_pos (by rw [sizeN]; simp; omega), ext_from]
      rw [show (60 :: y).drop 1 = y from rfl, cut_eq y 62 (by omega), Option.bind_some]
      simp only [skip_eq, Option.bind_some]
      rfl
    cases h2 : (Lib.cut y [62]).2.2 with
    | false => exact Ev.after fun k => by rw [e, h2, if_neg (by decide)]; rfl
    | true =>
      rw [if_pos rfl]
      refine Ev.step (fun k => by rw [e, if_pos h2]) ?_
      refine Ev.bind (pair_ev _ (by omega)) ?_
      exact Ev.now _
  | false =>
    rw [if_neg (by decide)]
    have e : ∀ k, addr_one.j0 (k + 1) (BA s) name = (addr_pair.f k (BA name.data.toList)).bind fun p => some (p.1, p.2.1, p.2.2.1, BA s, p.2.2.2) := by
      intro k
      rw [addr_one.j0, prefix_one, Option.bind_some, hh, if_neg (by decide), ← BA_data]
    refine Ev.step e ?_
    refine Ev.bind (pair_ev _ ?_) ?_
    · have : name.data.toList.length = name.size := (sizeN _).symm.trans (congrArg ByteArray.size (BA_data name).symm)
      omega
    · exact Ev.now _
theorem unqA_pos : ∀ (n : Nat) (l acc : List Int) (p : Nat), l.length ≤ n → (unqA acc p l).2.2 = 0 → (p : Int) < (unqA acc p l).2.1 ∧ (unqA acc p l).2.1 ≤ (p : Int) + l.length ∧ (unqA acc p l).1.length ≤ acc.length + l.length := by
  intro n
  induction n with
  | zero =>
    intro l acc p hl h
    obtain rfl : l = [] := List.length_eq_zero_iff.1 (by omega)
    rw [unqA] at h
    simp at h
  | succ n ih =>
    intro l acc p hl h
    match l, hl, h with
    | [], _, h => rw [unqA] at h; simp at h
    | [c], _, h =>
      rw [unqA] at h ⊢
      by_cases h1 : c = 34
      · rw [if_pos h1] at h ⊢; simp; omega
      · rw [if_neg h1] at h
        split at h <;> simp at h
    | c :: d :: l, hl, h =>
      rw [List.length_cons, List.length_cons] at hl
      rw [unqA] at h ⊢
      by_cases h1 : c = 34
      · rw [if_pos h1] at h ⊢; simp; omega
      · rw [if_neg h1] at h ⊢
        by_cases h2 : quotC c = false
        · rw [if_pos h2] at h; simp at h
        · rw [if_neg h2] at h ⊢
          by_cases h3 : c = 92
          · rw [if_pos h3] at h ⊢
            by_cases h4 : d = 34 ∨ d = 92
            · rw [if_pos h4] at h ⊢
              have := ih l (acc ++ [d]) (p + 2) (by omega) h
              simp only [List.length_append, List.length_cons, List.length_nil] at this ⊢
              omega
            · rw [if_neg h4] at h; simp at h
          · rw [if_neg h3] at h ⊢
            have := ih (d :: l) (acc ++ [c]) (p + 1) (by rw [List.length_cons]; omega) h
            simp only [List.length_append, List.length_cons, List.length_nil] at this ⊢
            omega
theorem unqL_pos (l : List Int) (h : (unqL l).2.2 = 0) : 0 ≤ (unqL l).2.1 ∧ (unqL l).2.1 ≤ l.length ∧ (unqL l).1.length ≤ l.length := by
  unfold unqL at h ⊢
  split at h
  · rename_i m
    have := unqA_pos m.length m [] 1 (Nat.le_refl _) h
    simp only [List.length_cons, List.length_nil] at this ⊢
    omega
  · simp at h
theorem idx_lt (cs : List UInt8) : ∀ l : List UInt8, Lib.indexAny l cs < (l.length : Int) ∨ Lib.indexAny l cs = -1
  | [] => .inr rfl
  | b :: l => by
    unfold Lib.indexAny
    split
    · exact .inl (by rw [List.length_cons]; omega)
    · split
      · exact .inr rfl
      · rename_i h
        have := idx_lt cs l
        rw [beq_iff_eq] at h
        left
        rw [List.length_cons]
        omega
/-- Where a name ends: ahead of the first mark. -/
def upTo (s : List UInt8) : Nat := if Lib.indexAny s marks < 0 then s.length else (Lib.indexAny s marks).toNat
def oneL (l : List UInt8) : R5 :=
  if hd 34 (skipL l) = true then
    (if (unqL (Nm (skipL l))).2.2 = 0 then
      (if hd 60 (skipL ((skipL l).drop (unqL (Nm (skipL l))).2.1.toNat)) = true then j0L (skipL ((skipL l).drop (unqL (Nm (skipL l))).2.1.toNat)) (strOfNums (unqL (Nm (skipL l))).1) else fail5)
    else fail5)
  else j0L ((skipL l).drop (upTo (skipL l))) (BA (trimL ((skipL l).take (upTo (skipL l)))))
theorem one_ev (l : List UInt8) (h : l.length ≤ 1000000) : Ev (fun k => addr_one.f k (BA l)) (oneL l) := by
  unfold oneL
  have hs := skipL_len l
  have e0 : ∀ k, addr_one.f k (BA l) = _ := fun k => by
    unfold addr_one.f
    rw [skip_eq, Option.bind_some, prefix_one 34, Option.bind_some]
  generalize skipL l = s at *
  refine Ev.congr e0 ?_
  cases hh : hd 34 s with
  | true =>
    rw [if_pos rfl]
    refine Ev.congr (fun k => if_pos rfl) ?_
    refine Ev.bind (unq_ev (BA s) (by rw [sizeN]; omega)) ?_
    rw [bytesOf_Nm]
    by_cases h0 : (unqL (Nm s)).2.2 = 0
    · rw [if_pos h0]
      obtain ⟨p0, p1, p2⟩ := unqL_pos _ h0
      rw [Nm_len] at p1 p2
      have e1 : ∀ k, (if (conv3 (unqL (Nm s))).2.2 = 0 then (if 0 ≤ (conv3 (unqL (Nm s))).2.1 then (if (conv3 (unqL (Nm s))).2.1 ≤ ((BA s).size : Int) then ((addr_skip.f ((BA s).extract ((conv3 (unqL (Nm s))).2.1 : Int).toNat (BA s).size)).bind fun t130 => ((strings_HasPrefix.f t130 (⟨#[60]⟩ : ByteArray)).bind fun t131 => (if t131 = true then (addr_one.j0 k t130 (conv3 (unqL (Nm s))).1) else (some ((⟨#[]⟩ : ByteArray), (⟨#[]⟩ : ByteArray), (⟨#[]⟩ : ByteArray), (⟨#[]⟩ : ByteArray), false))))) else (none)) else (none)) else (some ((⟨#[]⟩ : ByteArray), (⟨#[]⟩ : ByteArray), (⟨#[]⟩ : ByteArray), (⟨#[]⟩ : ByteArray), false)))
          = if hd 60 (skipL (s.drop (unqL (Nm s)).2.1.toNat)) = true then addr_one.j0 k (BA (skipL (s.drop (unqL (Nm s)).2.1.toNat))) (strOfNums (unqL (Nm s)).1) else some fail5 := by
        intro k
        rw [show conv3 (unqL (Nm s)) = (strOfNums (unqL (Nm s)).1, (unqL (Nm s)).2.1, (unqL (Nm s)).2.2) from rfl]
        simp only []
        rw [if_pos h0, if_pos p0, if_pos (by rw [sizeN]; omega), ext_from, skip_eq, Option.bind_some, prefix_one 60, Option.bind_some]
        rfl
      refine Ev.congr e1 ?_
      cases h6 : hd 60 (skipL (s.drop (unqL (Nm s)).2.1.toNat)) with
      | false => exact Ev.now _
      | true =>
        refine Ev.congr (fun k => if_pos rfl) ?_
        rw [if_pos rfl]
        refine j0_ev _ _ ?_ ?_
        · have := skipL_len (s.drop (unqL (Nm s)).2.1.toNat)
          rw [List.length_drop] at this
          omega
        · rw [size_strOfNums]; omega
    · rw [if_neg h0]
      refine Ev.congr (f := fun _ => some fail5) (fun k => ?_) (Ev.now _)
      exact if_neg h0
  | false =>
    rw [if_neg (by decide)]
    refine Ev.congr (fun k => if_neg Bool.false_ne_true) ?_
    rw [idx_eq s (by omega)]
    simp only [Option.bind_some]
    unfold upTo
    have hb := idx_lt marks s
    have hg := Lib.indexAny_ge marks s
    by_cases hi : Lib.indexAny s marks < 0
    · simp only [if_pos hi]
      refine Ev.congr (f := fun k => addr_one.j0 k (BA []) (BA (trimL s))) (fun k => by
        rw [if_pos (by omega), if_pos (by omega), trim_eq s (by omega)]
        rfl) ?_
      rw [List.take_of_length_le (Nat.le_refl _), List.drop_eq_nil_of_le (Nat.le_refl _)]
      exact j0_ev [] _ (by simp) (by rw [sizeN]; have := trimL_len s; omega)
    · simp only [if_neg hi]
      refine Ev.congr (f := fun k => addr_one.j0 k (BA (s.drop (Lib.indexAny s marks).toNat)) (BA (trimL (s.take (Lib.indexAny s marks).toNat)))) (fun k => by
        rw [if_pos (by omega), if_pos (by rw [sizeN]; omega), ext_from, ext_to, trim_eq _ (by rw [List.length_take]; omega)]
        rfl) ?_
      refine j0_ev _ _ (by rw [List.length_drop]; omega) ?_
      rw [sizeN]
      have := trimL_len (s.take (Lib.indexAny s marks).toNat)
      rw [List.length_take] at this
      omega
end Go.Proofs.Mine
