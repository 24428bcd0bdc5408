/- An address that is written is read again; so is a list. -/
import Derived.Test.YtgajilieekhpjaaDoorPAddrShow
import Derived.Test.YtgajilieekhpjaaDoorPAddrApp
namespace Go.Proofs.Mine
open Go.RowKit Go.Proofs.YtgajilieekhpjaaDoorW.PrintWords Go.Proofs.YtgajilieekhpjaaDoorW.PrintLast Go.Proofs.YtgajilieekhpjaaDoor.X
set_option linter.unusedSimpArgs false

def blank (b : UInt8) : Bool := ([32, 9] : List UInt8).contains b
theorem dw_id (p : UInt8 → Bool) (l : List UInt8) (h : ∀ a, l.head? = some a → p a = false) : l.dropWhile p = l := by
  cases l with
  | nil => rfl
  | cons a l => rw [List.dropWhile_cons_of_neg (by rw [h a rfl]; decide)]
theorem skipL_id (l : List UInt8) (h : ∀ a, l.head? = some a → blank a = false) : skipL l = l := dw_id _ l h
theorem trimL_id (l : List UInt8) (h : ∀ a, l.head? = some a → blank a = false) (h2 : ∀ a, l.getLast? = some a → blank a = false) : trimL l = l := by
  unfold trimL Lib.trimS Lib.trimRightS
  have e := dw_id (fun x => ([32, 9] : List UInt8).contains x) l.reverse (fun a ha => h2 a (by rwa [List.head?_reverse] at ha))
  rw [e, List.reverse_reverse]
  exact dw_id _ l h
theorem trimL_none (l : List UInt8) (h : ∀ b ∈ l, blank b = false) : trimL l = l :=
  trimL_id l (fun a ha => h a (List.mem_of_head? ha)) (fun a ha => h a (List.mem_of_getLast? ha))
theorem wordC_spec {b : UInt8} (h : wordC b = true) : 32 < b.toNat ∧ b.toNat ≤ 126 ∧ b ≠ 60 ∧ b ≠ 62 ∧ b ≠ 44 ∧ b ≠ 34 ∧ b ≠ 64 := by
  unfold wordC at h
  simp only [Bool.and_eq_true, decide_eq_true_eq, Bool.not_eq_true'] at h
  obtain ⟨⟨h1, h2⟩, h3⟩ := h
  refine ⟨h1, h2, ?_, ?_, ?_, ?_, ?_⟩ <;> (rintro rfl; exact absurd h3 (by decide))
theorem blank_of {b : UInt8} (h : 32 < b.toNat) : blank b = false := by
  unfold blank
  rw [List.contains_eq_mem, decide_eq_false]
  intro hm
  simp only [List.mem_cons, List.not_mem_nil, or_false] at hm
  rcases hm with rfl | rfl <;> exact absurd h (by decide)
theorem wordL_spec {l : List UInt8} (h : wordL l = true) : l ≠ [] ∧ ∀ b ∈ l, wordC b = true := by
  unfold wordL at h
  rw [Bool.and_eq_true, List.all_eq_true] at h
  refine ⟨?_, h.1⟩
  rintro rfl
  exact absurd h.2 (by decide)
theorem mark_no {b : UInt8} (h : b ≠ 60 ∧ b ≠ 62 ∧ b ≠ 44 ∧ b ≠ 34) : marks.contains b = false := by
  unfold marks
  rw [List.contains_eq_mem, decide_eq_false]
  simp only [List.mem_cons, List.not_mem_nil, or_false, not_or]
  exact h
theorem idx_no (cs : List UInt8) : ∀ l : List UInt8, (∀ b ∈ l, cs.contains b = false) → Lib.indexAny l cs = -1
  | [], _ => rfl
  | b :: l, h => by
    rw [Lib.indexAny, if_neg (by rw [h b (by simp)]; decide), idx_no cs l (fun c hc => h c (by simp [hc]))]
    rfl
theorem upTo_free (m tail : List UInt8) (h : ∀ b ∈ m, marks.contains b = false) (ht : tail = [] ∨ ∃ c r, tail = c :: r ∧ marks.contains c = true) : upTo (m ++ tail) = m.length := by
  have hm := idx_no marks m h
  unfold upTo
  rw [idx_miss marks tail m (by omega)]
  rcases ht with rfl | ⟨c, r, rfl, hc⟩
  · have e : Lib.indexAny [] marks = -1 := rfl
    rw [e, if_pos rfl, if_pos (by decide)]; simp
  · have e : Lib.indexAny (c :: r) marks = 0 := by rw [Lib.indexAny, if_pos hc]
    have e2 : (if (0 : Int) = -1 then (-1 : Int) else (m.length : Int) + 0) = (m.length : Int) := by rw [if_neg (by decide)]; omega
    rw [e, e2, if_neg (by omega)]
    omega
/-- What may follow an address. -/
def Tail (t : List UInt8) : Prop := t = [] ∨ ∃ r, t = 44 :: r
theorem Tail.skip {t : List UInt8} (h : Tail t) : skipL t = t := by
  rcases h with rfl | ⟨r, rfl⟩
  · rfl
  · exact skipL_id _ (fun a ha => by cases ha; decide)
theorem Tail.hd {t : List UInt8} (h : Tail t) : hd 60 t = false := by
  rcases h with rfl | ⟨r, rfl⟩ <;> rfl
theorem Tail.mark {t : List UInt8} (h : Tail t) : t = [] ∨ ∃ c r, t = c :: r ∧ marks.contains c = true := by
  rcases h with rfl | ⟨r, rfl⟩
  · exact .inl rfl
  · exact .inr ⟨_, _, rfl, by decide⟩
theorem mail_mem {l h : List UInt8} (hl : wordL l = true) (hh : wordL h = true) : ∀ b ∈ mailL l h, 32 < b.toNat ∧ b ≠ 60 ∧ b ≠ 62 ∧ b ≠ 44 ∧ b ≠ 34 := by
  intro b hb
  unfold mailL at hb
  rw [List.mem_append, List.mem_cons] at hb
  rcases hb with hb | rfl | hb
  · obtain ⟨a, _, c, d, e, f, _⟩ := wordC_spec ((wordL_spec hl).2 b hb); exact ⟨a, c, d, e, f⟩
  · decide
  · obtain ⟨a, _, c, d, e, f, _⟩ := wordC_spec ((wordL_spec hh).2 b hb); exact ⟨a, c, d, e, f⟩
theorem pair_mail {l h : List UInt8} (hl : wordL l = true) (hh : wordL h = true) : pairL (mailL l h) = (l, h, true) := by
  unfold pairL mailL
  rw [cut_one 64 l h (fun hm => (wordC_spec ((wordL_spec hl).2 64 hm)).2.2.2.2.2.2 rfl)]
  simp only
  rw [trimL_none l (fun b hb => blank_of (wordC_spec ((wordL_spec hl).2 b hb)).1), trimL_none h (fun b hb => blank_of (wordC_spec ((wordL_spec hh).2 b hb)).1), hl, hh]
  rfl
theorem j0_named {l h t : List UInt8} (hl : wordL l = true) (hh : wordL h = true) (ht : Tail t) (name : ByteArray) : j0L (60 :: (mailL l h ++ 62 :: t)) name = (name, BA l, BA h, BA t, true) := by
  unfold j0L
  rw [if_pos (by rfl), List.tail_cons, cut_one 62 (mailL l h) t (fun hm => (mail_mem hl hh 62 hm).2.2.1 rfl), if_pos rfl]
  simp only
  rw [pair_mail hl hh, ht.skip]
theorem simple_all : ∀ (l : List UInt8) (p : Option UInt8), simpleA p l = true → (∀ b ∈ l, letC b = true ∨ b = 32) ∧ ∀ z, l.getLast? = some z → letC z = true
  | [], _, _ => ⟨fun b hb => by simp at hb, fun z hz => by simp at hz⟩
  | b :: l, p, h => by
    rw [simpleA, Bool.and_eq_true, Bool.or_eq_true] at h
    obtain ⟨i1, i2⟩ := simple_all l (some b) h.2
    refine ⟨fun c hc => ?_, fun z hz => ?_⟩
    · rcases List.mem_cons.1 hc with rfl | hc
      · rcases h.1 with h1 | h1
        · exact .inl h1
        · rw [Bool.and_eq_true, decide_eq_true_eq] at h1; exact .inr h1.1
      · exact i1 c hc
    · cases l with
      | nil =>
        rw [List.getLast?_singleton] at hz
        cases hz
        rcases h.1 with h1 | h1
        · exact h1
        · simp at h1
      | cons c l => exact i2 z (by rwa [List.getLast?_cons_cons] at hz)
theorem let_spec {b : UInt8} (h : letC b = true) : 32 < b.toNat ∧ b ≠ 60 ∧ b ≠ 62 ∧ b ≠ 44 ∧ b ≠ 34 := by
  rw [letC_iff] at h
  refine ⟨by omega, ?_, ?_, ?_, ?_⟩ <;> (rintro rfl; exact absurd h (by decide))
theorem hd_no {c : UInt8} {l : List UInt8} (h : ∀ a, l.head? = some a → a ≠ c) : hd c l = false := by
  cases l with
  | nil => rfl
  | cons a l => exact beq_eq_false_iff_ne.2 (h a rfl)
theorem esc_byte {L : List Int} (h : ∀ c ∈ L, Byte c) : ∀ c ∈ 34 :: L.flatMap esc ++ [34], Byte c := by
  intro c hc
  rw [List.cons_append, List.mem_cons, List.mem_append, List.mem_flatMap] at hc
  have b34 : Byte 34 := by unfold Byte; omega
  rcases hc with rfl | ⟨d, hd, hc⟩ | hc
  · exact b34
  · unfold esc at hc
    split at hc
    · simp only [List.mem_cons, List.not_mem_nil, or_false] at hc
      rcases hc with rfl | rfl
      · unfold Byte; omega
      · exact h _ hd
    · simp only [List.mem_cons, List.not_mem_nil, or_false] at hc
      subst hc
      exact h _ hd
  · simp only [List.mem_cons, List.not_mem_nil, or_false] at hc
    subst hc
    exact b34
theorem one_item (n l h t : List UInt8) (hok : (showA n l h).2 = true) (ht : Tail t) : oneL ((showA n l h).1 ++ t) = (BA n, BA l, BA h, BA t, true) := by
  unfold showA at hok ⊢
  by_cases hw : wordL l = true ∧ wordL h = true
  rotate_left
  · rw [if_neg hw] at hok; cases hok
  rw [if_pos hw] at hok ⊢
  obtain ⟨hl, hh⟩ := hw
  have hmm := mail_mem hl hh
  by_cases hn : n = []
  · subst hn
    rw [if_pos rfl]
    show oneL (mailL l h ++ t) = _
    have hne : mailL l h ≠ [] := by unfold mailL; simp
    have hh1 : ∀ a, (mailL l h ++ t).head? = some a → a ∈ mailL l h := by
      intro a ha
      cases hml : mailL l h with
      | nil => exact absurd hml hne
      | cons b r =>
        rw [hml] at ha
        cases ha
        exact List.mem_cons_self
    unfold oneL
    rw [skipL_id _ (fun a ha => blank_of (hmm a (hh1 a ha)).1), hd_no (fun a ha => (hmm a (hh1 a ha)).2.2.2.2), if_neg Bool.false_ne_true]
    rw [upTo_free _ _ (fun b hb => mark_no (hmm b hb).2) ht.mark, List.drop_left, List.take_left]
    rw [trimL_none _ (fun b hb => blank_of (hmm b hb).1)]
    unfold j0L
    rw [ht.hd, if_neg Bool.false_ne_true]
    show (BA [], BA (pairL (mailL l h)).1, BA (pairL (mailL l h)).2.1, BA t, (pairL (mailL l h)).2.2) = _
    rw [pair_mail hl hh]
  · rw [if_neg hn] at hok ⊢
    have hcat : ∀ q : List UInt8, namedL q (mailL l h) ++ t = (q ++ [32]) ++ (60 :: (mailL l h ++ 62 :: t)) := by
      intro q; unfold namedL; simp
    by_cases hs : simpleA none n = true
    · rw [if_pos hs]
      show oneL (namedL n (mailL l h) ++ t) = _
      rw [hcat]
      obtain ⟨s1, s2⟩ := simple_all n none hs
      obtain ⟨b, n', rfl⟩ : ∃ b n', n = b :: n' := by
        cases n with
        | nil => exact absurd rfl hn
        | cons b n' => exact ⟨b, n', rfl⟩
      have hb : letC b = true := by
        rw [simpleA, Bool.and_eq_true] at hs
        have := hs.1
        simpa using this
      have hb' := let_spec hb
      unfold oneL
      have hhd : ∀ a, ((b :: n' ++ [32]) ++ (60 :: (mailL l h ++ 62 :: t))).head? = some a → a = b := by
        intro a ha
        simp at ha
        exact ha.symm
      rw [skipL_id _ (fun a ha => by rw [hhd a ha]; exact blank_of hb'.1), hd_no (fun a ha => by rw [hhd a ha]; exact hb'.2.2.2.2), if_neg Bool.false_ne_true]
      rw [upTo_free _ _ (fun c hc => by
        rw [List.mem_append] at hc
        rcases hc with hc | hc
        · rcases s1 c hc with h1 | rfl
          · exact mark_no (let_spec h1).2
          · decide
        · simp only [List.mem_cons, List.not_mem_nil, or_false] at hc
          subst hc
          decide) (.inr ⟨_, _, rfl, by decide⟩), List.drop_left, List.take_left, trimL_blank]
      rw [trimL_id _ (fun a ha => by cases ha; exact blank_of hb'.1) (fun a ha => blank_of (let_spec (s2 a ha)).1)]
      exact j0_named hl hh ht _
    · rw [if_neg hs] at hok ⊢
      show oneL (namedL (quoteR (BA n)).1.data.toList (mailL l h) ++ t) = _
      rw [hcat]
      unfold quoteR at hok ⊢
      by_cases h8 : (BA n).size > 8192
      · rw [if_pos h8] at hok; cases hok
      rw [if_neg h8] at hok ⊢
      by_cases hq : (bytesOf (BA n)).all quotC = true
      rotate_left
      · rw [if_neg hq] at hok; cases hok
      rw [if_pos hq]
      simp only
      rw [bytesOf_Nm] at hq ⊢
      have hNq : Nm (strOfNums (34 :: (Nm n).flatMap esc ++ [34])).data.toList = 34 :: (Nm n).flatMap esc ++ [34] := by
        rw [← bytesOf_Nm]
        exact (congrArg bytesOf (BA_data _).symm).trans (bytesOf_strOfNums (esc_byte (Nm_byte n)))
      generalize (strOfNums (34 :: (Nm n).flatMap esc ++ [34])).data.toList = q at *
      obtain ⟨q', rfl⟩ : ∃ q', q = 34 :: q' := by
        cases q with
        | nil => cases hNq
        | cons b q' =>
          have : (b.toNat : Int) = 34 := (List.cons.inj hNq).1
          exact ⟨q', by rw [show b = 34 from UInt8.toNat_inj.1 (by show b.toNat = 34; omega)]⟩
      have hNq' : Nm q' = (Nm n).flatMap esc ++ [34] := (List.cons.inj hNq).2
      have hlen : q'.length = ((Nm n).flatMap esc).length + 1 := by
        rw [← Nm_len q', hNq', List.length_append]; rfl
      unfold oneL
      rw [show (34 :: q' ++ [32]) ++ (60 :: (mailL l h ++ 62 :: t)) = 34 :: (q' ++ 32 :: (60 :: (mailL l h ++ 62 :: t))) by simp]
      rw [skipL_id _ (fun a ha => by cases ha; decide), if_pos (by rfl)]
      have hu : unqL (Nm (34 :: (q' ++ 32 :: (60 :: (mailL l h ++ 62 :: t))))) = (Nm n, (q'.length : Int) + 1, 0) := by
        have e : Nm (34 :: (q' ++ 32 :: (60 :: (mailL l h ++ 62 :: t)))) = 34 :: ((Nm n).flatMap esc ++ 34 :: Nm (32 :: (60 :: (mailL l h ++ 62 :: t)))) := by
          show 34 :: Nm (q' ++ _) = _
          rw [Nm_app, hNq', List.append_assoc]
          rfl
        rw [e]
        show unqA [] 1 _ = _
        rw [unqA_esc _ _ _ _ hq, List.nil_append, hlen]
        congr 2
        omega
      rw [hu, if_pos rfl]
      simp only
      have ed : (34 :: (q' ++ 32 :: (60 :: (mailL l h ++ 62 :: t)))).drop ((q'.length : Int) + 1).toNat = 32 :: (60 :: (mailL l h ++ 62 :: t)) := by
        rw [show ((q'.length : Int) + 1).toNat = q'.length + 1 by omega, List.drop_succ_cons, List.drop_left]
      rw [ed]
      have es : skipL (32 :: (60 :: (mailL l h ++ 62 :: t))) = 60 :: (mailL l h ++ 62 :: t) := by
        unfold skipL Lib.trimLeftS
        rw [List.dropWhile_cons_of_pos (by decide), List.dropWhile_cons_of_neg (by decide)]
      rw [es, if_pos (by rfl), strN]
      exact j0_named hl hh ht _
theorem one_blank (l : List UInt8) : oneL (32 :: l) = oneL l := by
  have e : skipL (32 :: l) = skipL l := by
    unfold skipL Lib.trimLeftS
    rw [List.dropWhile_cons_of_pos (by decide)]
  unfold oneL
  rw [e]
theorem parse_blank (n : Nat) (l : List UInt8) : parseN n (32 :: l) = parseN n l := by
  cases n with
  | zero => rfl
  | succ n => rw [parseN, parseN, one_blank]
theorem one_part (x : S33) (t : List UInt8) (hok : (partA x).2 = true) (ht : Tail t) : oneL ((partA x).1 ++ t) = (x.f0, x.f1, x.f2, BA t, true) := by
  have := one_item x.f0.data.toList x.f1.data.toList x.f2.data.toList t hok ht
  rw [← BA_data, ← BA_data, ← BA_data] at this
  exact this
theorem join_parse : ∀ (n : Nat) (L : List S33), L ≠ [] → L.all (fun x => (partA x).2) = true → (Lib.join (L.map fun x => (partA x).1) [44, 32]).length < n →
    parseN n (Lib.join (L.map fun x => (partA x).1) [44, 32]) = some L := by
  intro n
  induction n with
  | zero => intro L _ _ h; omega
  | succ n ih =>
    intro L hne hall hlen
    match L, hne, hall, hlen with
    | [x], _, hall, hlen =>
      rw [List.all_cons, Bool.and_eq_true] at hall
      rw [List.map_cons, List.map_nil, Lib.join_one]
      have h1 := one_part x [] hall.1 (.inl rfl)
      rw [List.append_nil] at h1
      rw [parseN, h1, if_pos rfl]
      rfl
    | x :: y :: L, _, hall, hlen =>
      rw [List.all_cons, Bool.and_eq_true] at hall
      have ej : Lib.join ((x :: y :: L).map fun x => (partA x).1) [44, 32] = (partA x).1 ++ 44 :: 32 :: Lib.join ((y :: L).map fun x => (partA x).1) [44, 32] := by
        rw [List.map_cons, List.map_cons, Lib.join_cons, Lib.join_cons]
        unfold Lib.joinTail
        rw [List.map_cons, List.flatten_cons]
        simp
      rw [ej] at hlen ⊢
      rw [List.length_append, List.length_cons, List.length_cons] at hlen
      rw [parseN, one_part x _ hall.1 (.inr ⟨_, rfl⟩), if_pos rfl]
      show (if (44 : UInt8) = 44 then (parseN n (32 :: Lib.join ((y :: L).map fun x => (partA x).1) [44, 32])).map (_ :: ·) else none) = _
      rw [if_pos rfl, parse_blank, ih (y :: L) (by simp) hall.2 (by omega)]
      rfl
theorem one_nil (l : List UInt8) (h : skipL l = []) : (oneL l).2.2.2.2 = false := by
  unfold oneL
  rw [h]
  decide +kernel
theorem part_head (x : S33) (t : List UInt8) (hok : (partA x).2 = true) : skipL ((partA x).1 ++ t) ≠ [] := by
  intro h0
  have h1 : oneL ((partA x).1 ++ []) = (x.f0, x.f1, x.f2, BA [], true) := one_part x [] hok (.inl rfl)
  rw [List.append_nil] at h1
  rw [skipL_app] at h0
  by_cases h : skipL (partA x).1 = []
  · have := one_nil _ h
    rw [h1] at this
    cases this
  · rw [if_neg h] at h0
    exact h (List.append_eq_nil_iff.1 h0).1
theorem parse_show (L : List S33) (h : showL L ≠ []) : parseL (showL L) = (L, 0) := by
  unfold showL at h ⊢
  by_cases hall : L.all (fun x => (partA x).2) = true
  · rw [if_pos hall] at h ⊢
    have hne : L ≠ [] := by
      rintro rfl
      exact h rfl
    unfold parseL
    have hs : skipL (Lib.join (L.map fun x => (partA x).1) [44, 32]) ≠ [] := by
      cases L with
      | nil => exact absurd rfl hne
      | cons x L =>
        rw [List.all_cons, Bool.and_eq_true] at hall
        rw [List.map_cons, Lib.join_cons]
        exact part_head x _ hall.1
    rw [if_neg hs, join_parse _ L hne hall (by omega)]
    rfl
  · rw [if_neg hall] at h
    exact absurd rfl h
end Go.Proofs.Mine
