/- Addresses, plainly: how they are written. -/
import Derived.Test.YtgajilieekhpjaaDoorPAddrLib
import Derived.Test.YtgajilieekhpjaaDoorPCut
import Derived.Test.YtgajilieekhpjaaDoorX6
import Derived.Test.YtgajilieekhpjaaDoorX7
import Derived.Test.YtgajilieekhpjaaDoorPQuote
namespace Go.Proofs.Mine
open Go.RowKit Go.Proofs.YtgajilieekhpjaaDoorW.PrintWords Go.Proofs.YtgajilieekhpjaaDoorW.PrintLast Go.Proofs.YtgajilieekhpjaaDoor.X
set_option linter.unusedSimpArgs false

/-- A letter or a digit. -/
def letC (b : UInt8) : Bool := (decide (97 ≤ b.toNat) && decide (b.toNat ≤ 122)) || ((decide (65 ≤ b.toNat) && decide (b.toNat ≤ 90)) || (decide (48 ≤ b.toNat) && decide (b.toNat ≤ 57)))
theorem letC_iff (b : UInt8) : letC b = true ↔ (97 ≤ b.toNat ∧ b.toNat ≤ 122) ∨ ((65 ≤ b.toNat ∧ b.toNat ≤ 90) ∨ (48 ≤ b.toNat ∧ b.toNat ≤ 57)) := by
  unfold letC
  simp only [Bool.or_eq_true, Bool.and_eq_true, decide_eq_true_eq]
/-- Is what follows a byte (p: the byte ahead; none: the beginning) simple to the end? -/
def simpleA : Option UInt8 → List UInt8 → Bool
  | _, [] => true
  | p, b :: l => (letC b || (decide (b = 32) && (p.isSome && (!l.isEmpty && !decide (p = some 32))))) && simpleA (some b) l
theorem simple_loop (s : List UInt8) (hs : s.length ≤ 1000000) : ∀ (l pre : List UInt8), s = pre ++ l →
    Ev (fun k => addr_simple.l0 k (BA s) (s.length : Int) (pre.length : Int)) (simpleA pre.getLast? l) := by
  intro l
  induction l with
  | nil =>
    intro pre h
    have hl : s.length = pre.length := by rw [h]; simp
    refine Ev.after fun k => ?_
    rw [addr_simple.l0, if_neg (by omega)]
    rfl
  | cons b l ih =>
    intro pre h
    have hl : s.length = pre.length + (l.length + 1) := by rw [h]; simp
    have hb : bt (BA s) (pre.length : Int) = (b.toNat : Int) := by
      have := bt_of (s := BA s) (pre := Nm pre) (l := Nm l) (c := (b.toNat : Int)) (by rw [bytesOf_Nm, h, Nm_app]; rfl)
      rwa [Nm_len] at this
    have ih' := ih (pre ++ [b]) (by rw [h]; simp)
    rw [List.length_append, List.length_singleton, List.getLast?_concat] at ih'
    have g1 : (pre.length : Int) < (s.length : Int) := by omega
    have g2 : (0 : Int) ≤ (pre.length : Int) := by omega
    have g3 : (pre.length : Int) < ((BA s).size : Int) := by rw [sizeN]; omega
    have hw : wrap64 ((pre.length : Int) + 1) = ((pre.length + 1 : Nat) : Int) := wrap_nat (by omega)
    have hw2 : wrap64 (((BA s).size : Int) - 1) = (s.length : Int) - 1 := by rw [sizeN]; exact wrap_id (by omega) (by omega)
    have hw3 : wrap64 ((pre.length : Int) - 1) = (pre.length : Int) - 1 := wrap_id (by omega) (by omega)
    have e : ∀ k, addr_simple.l0 (k + 1) (BA s) (s.length : Int) (pre.length : Int) = if letC b = true then addr_simple.l0 k (BA s) (s.length : Int) ((pre.length + 1 : Nat) : Int) else if (b.toNat : Int) = 32 then (if (pre.length : Int) = 0 then some false else (if (pre.length : Int) = (s.length : Int) - 1 then some false else (if 0 ≤ (pre.length : Int) - 1 then (if (pre.length : Int) - 1 < ((BA s).size : Int) then (if bt (BA s) ((pre.length : Int) - 1) = 32 then some false else addr_simple.l0 k (BA s) (s.length : Int) ((pre.length + 1 : Nat) : Int)) else none) else none))) else some false := by
      intro k
      rw [addr_simple.l0, if_pos g1, if_pos g2, if_pos g3, hb, hw, hw2, hw3]
      generalize (if (pre.length : Int) = 0 then some false else (if (pre.length : Int) = (s.length : Int) - 1 then some false else (if 0 ≤ (pre.length : Int) - 1 then (if (pre.length : Int) - 1 < ((BA s).size : Int) then (if bt (BA s) ((pre.length : Int) - 1) = 32 then some false else addr_simple.l0 k (BA s) (s.length : Int) ((pre.length + 1 : Nat) : Int)) else none) else none))) = U
      generalize addr_simple.l0 k (BA s) (s.length : Int) ((pre.length + 1 : Nat) : Int) = T
      have hx : 0 ≤ (b.toNat : Int) := by omega
      by_cases hl1 : letC b = true
      · rw [if_pos hl1]
        rw [letC_iff] at hl1
        rcases hl1 with h | h | h
        · rw [if_pos (by omega), if_pos (by omega)]
        · rw [if_neg (by omega), if_pos (by omega), if_pos (by omega)]
        · rw [if_neg (by omega), if_neg (by omega), if_pos (by omega), if_pos (by omega)]
      · rw [if_neg hl1]
        rw [letC_iff] at hl1
        by_cases c1 : 97 ≤ b.toNat
        · rw [if_pos (by omega), if_neg (by omega), if_pos (by omega), if_neg (by omega), if_pos (by omega), if_neg (by omega)]
        · by_cases c2 : 65 ≤ b.toNat
          · rw [if_neg (by omega), if_pos (by omega), if_neg (by omega), if_pos (by omega), if_neg (by omega)]
          · by_cases c3 : 48 ≤ b.toNat
            · rw [if_neg (by omega), if_neg (by omega), if_pos (by omega), if_neg (by omega)]
            · rw [if_neg (by omega), if_neg (by omega), if_neg (by omega)]
    rw [simpleA]
    by_cases hl1 : letC b = true
    · rw [hl1, Bool.true_or, Bool.true_and]
      exact Ev.step (fun k => by rw [e, if_pos hl1]) ih'
    · rw [Bool.eq_false_iff.2 hl1, Bool.false_or]
      have e2 := fun k => (e k).trans (if_neg hl1)
      by_cases h32 : b = 32
      · subst h32
        have e3 := fun k => (e2 k).trans (if_pos (show ((32 : UInt8).toNat : Int) = 32 from rfl))
        rw [decide_eq_true rfl, Bool.true_and]
        rcases List.eq_nil_or_concat pre with rfl | ⟨q, c, rfl⟩
        · exact Ev.after fun k => by rw [e3, if_pos (show (([] : List UInt8).length : Int) = 0 from rfl)]; rfl
        · rw [List.concat_eq_append] at *
          rw [List.getLast?_concat, Option.isSome_some, Bool.true_and]
          have hq : ((q ++ [c]).length : Int) = (q.length : Int) + 1 := by simp
          have e4 := fun k => (e3 k).trans (if_neg (by omega))
          cases l with
          | nil =>
            rw [List.length_nil] at hl
            exact Ev.after fun k => by rw [e4, if_pos (by omega)]; rfl
          | cons d l =>
            rw [List.length_cons] at hl
            have hc : bt (BA s) (((q ++ [c]).length : Int) - 1) = (c.toNat : Int) := by
              have := bt_of (s := BA s) (pre := Nm q) (l := Nm (32 :: d :: l)) (c := (c.toNat : Int)) (by rw [bytesOf_Nm, h]; simp [Nm])
              rw [Nm_len] at this
              rw [← this, hq]
              congr 1
              omega
            have e5 : ∀ k, addr_simple.l0 (k + 1) (BA s) (s.length : Int) ((q ++ [c]).length : Int) = if (c.toNat : Int) = 32 then some false else addr_simple.l0 k (BA s) (s.length : Int) (((q ++ [c]).length + 1 : Nat) : Int) := by
              intro k
              rw [e4, if_neg (by omega), if_pos (by omega), if_pos (by omega), hc]
            rw [List.isEmpty_cons, Bool.not_false, Bool.true_and]
            by_cases hc32 : c = 32
            · subst hc32
              exact Ev.after fun k => by rw [e5, if_pos (show ((32 : UInt8).toNat : Int) = 32 from rfl), decide_eq_true rfl]; rfl
            · rw [decide_eq_false (by simpa using hc32), Bool.not_false, Bool.true_and]
              exact Ev.step (fun k => by rw [e5, if_neg (fun h => hc32 (UInt8.toNat_inj.1 (by show c.toNat = 32; omega)))]) ih'
      · rw [decide_eq_false h32, Bool.false_and, Bool.false_and]
        have hbn : ¬ (b.toNat : Int) = 32 := fun h => h32 (UInt8.toNat_inj.1 (by show b.toNat = 32; omega))
        exact Ev.after fun k => by rw [e2, if_neg hbn]
theorem simple_ev (s : List UInt8) (hs : s.length ≤ 1000000) : Ev (fun k => addr_simple.f k (BA s)) (simpleA none s) :=
  Ev.congr (fun k => by unfold addr_simple.f; rw [sizeN]; rfl) (simple_loop s hs s [] rfl)
/-! One address, written. -/
def mailL (l h : List UInt8) : List UInt8 := l ++ 64 :: h
def namedL (n : List UInt8) (m : List UInt8) : List UInt8 := n ++ 32 :: 60 :: (m ++ [62])
def showA (n l h : List UInt8) : List UInt8 × Bool :=
  if wordL l = true ∧ wordL h = true then
    (if n = [] then (mailL l h, true)
     else if simpleA none n = true then (namedL n (mailL l h), true)
     else (namedL (quoteR (BA n)).1.data.toList (mailL l h), (quoteR (BA n)).2))
  else ([], false)
theorem quoteR_len (s : ByteArray) : (quoteR s).1.size ≤ 2 * s.size + 2 := by
  unfold quoteR
  split
  · exact Nat.zero_le _
  · split
    · show (strOfNums _).size ≤ _
      rw [size_strOfNums]
      have : ∀ l : List Int, (l.flatMap esc).length ≤ 2 * l.length := by
        intro l
        induction l with
        | nil => simp
        | cons c l ih =>
          have := esc_len c
          rw [List.flatMap_cons, List.length_append, List.length_cons]
          omega
      have := this (bytesOf s)
      rw [bytesOf_length] at this
      simp only [List.length_append, List.length_cons, List.length_nil]
      omega
    · exact Nat.zero_le _
theorem named_cat (n m : List UInt8) : ((BA n ++ (⟨#[32, 60]⟩ : ByteArray)) ++ BA m) ++ (⟨#[62]⟩ : ByteArray) = BA (namedL n m) := by
  rw [show (⟨#[32, 60]⟩ : ByteArray) = BA [32, 60] from rfl, show (⟨#[62]⟩ : ByteArray) = BA [62] from rfl]
  rw [catL, catL, catL]
  unfold namedL
  congr 2
  simp
theorem mail_cat (l h : List UInt8) : (BA l ++ (⟨#[64]⟩ : ByteArray)) ++ BA h = BA (mailL l h) := by
  rw [show (⟨#[64]⟩ : ByteArray) = BA [64] from rfl, catL, catL]
  unfold mailL
  congr 2
  simp
theorem show_ev (n l h : List UInt8) (hz : n.length + l.length + h.length ≤ 1000) : Ev (fun k => addr_show.f k (BA n) (BA l) (BA h)) (BA (showA n l h).1, (showA n l h).2) := by
  have zl : (BA l).size = l.length := sizeN l
  have zh : (BA h).size = h.length := sizeN h
  have zn : (BA n).size = n.length := sizeN n
  have zm : (BA (mailL l h)).size = l.length + 1 + h.length := by rw [sizeN]; unfold mailL; simp; omega
  have bad : ∀ x, Ev (fun k => addr_show.j0 k x true (BA n) (BA l) (BA h)) (BA [], false) := fun x => Ev.after fun k => by rw [addr_show.j0, if_pos rfl]
  have good : wordL l = true → wordL h = true → Ev (fun k => addr_show.j0 k (BA (mailL l h)) false (BA n) (BA l) (BA h)) (BA (showA n l h).1, (showA n l h).2) := by
    intro w1 w2
    unfold showA
    rw [if_pos ⟨w1, w2⟩]
    have e : ∀ k, addr_show.j0 (k + 1) (BA (mailL l h)) false (BA n) (BA l) (BA h) = _ := fun k => by
      rw [addr_show.j0, if_neg (by decide), toListN]
    by_cases hn : n = []
    · rw [if_pos hn]
      exact Ev.after fun k => by rw [e, if_pos hn]
    · rw [if_neg hn]
      refine Ev.step (fun k => by rw [e, if_neg hn]) ?_
      refine Ev.bind (simple_ev n (by omega)) ?_
      cases hsi : simpleA none n with
      | true =>
        rw [if_pos rfl]
        refine Ev.congr (f := fun _ => some (BA (namedL n (mailL l h)), true)) (fun k => ?_) (Ev.now _)
        rw [if_pos rfl, if_pos (by omega), if_pos (by omega), if_pos (by omega), named_cat]
      | false =>
        rw [if_neg Bool.false_ne_true]
        refine Ev.congr (fun k => if_neg Bool.false_ne_true) ?_
        refine Ev.bind (quote_ev (BA n)) ?_
        have hq := quoteR_len (BA n)
        rw [zn] at hq
        have eq1 := BA_data (quoteR (BA n)).1
        have eqs : (quoteR (BA n)).1.data.toList.length = (quoteR (BA n)).1.size := (sizeN _).symm.trans (congrArg ByteArray.size eq1.symm)
        refine Ev.congr (f := fun _ => some (BA (namedL (quoteR (BA n)).1.data.toList (mailL l h)), (quoteR (BA n)).2)) (fun k => ?_) (Ev.now _)
        rw [if_pos (by omega), if_pos (by omega), if_pos (by omega), ← named_cat, ← eq1]
  refine Ev.congr (fun k => by unfold addr_show.f; rw [if_pos (by omega), if_pos (by omega)]) ?_
  refine Ev.bind (word_ev l (by omega)) ?_
  rw [mail_cat]
  cases w1 : wordL l with
  | false =>
    have e : showA n l h = ([], false) := by unfold showA; rw [if_neg (by rw [w1]; simp)]
    rw [e]
    refine Ev.congr (fun k => if_neg (by decide)) ?_
    exact bad _
  | true =>
    refine Ev.congr (fun k => if_pos rfl) ?_
    refine Ev.bind (word_ev h (by omega)) ?_
    cases w2 : wordL h with
    | false =>
      have e : showA n l h = ([], false) := by unfold showA; rw [if_neg (by rw [w2]; simp)]
      rw [e]
      exact bad _
    | true => exact good w1 w2
theorem showA_len (n l h : List UInt8) (hz : n.length + l.length + h.length ≤ 1000) : (showA n l h).1.length ≤ 4000 := by
  unfold showA
  split
  · split
    · unfold mailL; simp; omega
    · split
      · unfold namedL mailL; simp; omega
      · have hq := quoteR_len (BA n)
        have eqs : (quoteR (BA n)).1.data.toList.length = (quoteR (BA n)).1.size := (sizeN _).symm.trans (congrArg ByteArray.size (BA_data _).symm)
        have zn : (BA n).size = n.length := sizeN n
        unfold namedL mailL
        simp only [List.length_append, List.length_cons, List.length_nil]
        omega
  · simp
/-! A list, written. -/
def partA (x : S33) : List UInt8 × Bool := showA x.f0.data.toList x.f1.data.toList x.f2.data.toList
def showL (L : List S33) : List UInt8 := if L.all (fun x => (partA x).2) = true then Lib.join (L.map fun x => (partA x).1) [44, 32] else []
def Light (x : S33) : Prop := x.f0.size + x.f1.size + x.f2.size ≤ 1000
theorem data_len (s : ByteArray) : s.data.toList.length = s.size := (sizeN _).symm.trans (congrArg ByteArray.size (BA_data s).symm)
theorem part_ev (x : S33) (hx : Light x) : Ev (fun k => addr_show.f k x.f0 x.f1 x.f2) (BA (partA x).1, (partA x).2) := by
  have := show_ev x.f0.data.toList x.f1.data.toList x.f2.data.toList (by rw [data_len, data_len, data_len]; exact hx)
  rw [← BA_data, ← BA_data, ← BA_data] at this
  exact this
theorem join_len (sep : List UInt8) (hs : sep.length ≤ 2) : ∀ xs : List (List UInt8), (∀ x ∈ xs, x.length ≤ 4000) → (Lib.join xs sep).length ≤ xs.length * 4002
  | [], _ => by rw [Lib.join_nil]; simp
  | [x], h => by
    rw [Lib.join_one]
    have := h x (by simp)
    simp; omega
  | x :: y :: xs, h => by
    have ih := join_len sep hs (y :: xs) (fun z hz => h z (by simp [hz]))
    have hx := h x (by simp)
    rw [Lib.join_cons] at ih ⊢
    unfold Lib.joinTail at ih ⊢
    simp only [List.map_cons, List.flatten_cons, List.length_append, List.length_cons] at ih ⊢
    omega
theorem rdAS_of {pre l : List S33} {c : S33} : rd_T33 (pre ++ c :: l) (pre.length : Int) = c := by simp [rd_T33, List.getD_eq_getElem?_getD]
theorem Show_loop (L : List S33) (hL : L.length ≤ 100) (hz : ∀ x ∈ L, Light x) : ∀ (l pre : List S33), L = pre ++ l → pre.all (fun x => (partA x).2) = true →
    Ev (fun k => addr_Show.l0 k (pre.map fun x => BA (partA x).1) L (L.length : Int) (pre.length : Int)) (BA (showL L)) := by
  intro l
  induction l with
  | nil =>
    intro pre h hp
    have hl : L.length = pre.length := by rw [h]; simp
    rw [List.append_nil] at h
    subst h
    have hj : (Lib.join (L.map fun x => (partA x).1) [44, 32]).length ≤ 1000000 := by
      have := join_len [44, 32] (by simp) (L.map fun x => (partA x).1) (fun y hy => by
        rw [List.mem_map] at hy
        obtain ⟨x, hx, rfl⟩ := hy
        refine showA_len _ _ _ ?_
        rw [data_len, data_len, data_len]
        exact hz x hx)
      rw [List.length_map] at this
      omega
    refine Ev.after fun k => ?_
    rw [addr_Show.l0, if_neg (by omega)]
    unfold strings_Join.f
    have e : ((L.map fun x => BA (partA x).1).map (·.data.toList)) = L.map fun x => (partA x).1 := by
      rw [List.map_map]
      rfl
    rw [e, show (⟨#[44, 32]⟩ : ByteArray).data.toList = [44, 32] from rfl]
    rw [decide_eq_true (by rw [List.length_map]; omega), decide_eq_true (by omega), if_pos (by decide), Option.bind_some]
    unfold showL
    rw [if_pos hp]
  | cons c l ih =>
    intro pre h hp
    have hl : L.length = pre.length + (l.length + 1) := by rw [h]; simp
    have hr : rd_T33 L (pre.length : Int) = c := by rw [h]; exact rdAS_of
    have hc := hz c (by rw [h]; simp)
    refine Ev.step (fun k => by rw [addr_Show.l0, if_pos (by omega), if_pos (by omega), if_pos (by omega), hr]) ?_
    refine Ev.bind (part_ev c hc) ?_
    cases hok : (partA c).2 with
    | false =>
      refine Ev.congr (f := fun _ => some (BA [])) (fun k => if_neg (by decide)) ?_
      have e : showL L = [] := by
        unfold showL
        rw [if_neg]
        intro hall
        have := List.all_eq_true.1 hall c (by rw [h]; simp)
        rw [hok] at this
        cases this
      rw [e]
      exact Ev.now _
    | true =>
      have ih' := ih (pre ++ [c]) (by rw [h]; simp) (by rw [List.all_append, hp]; simp [hok])
      rw [List.length_append, List.length_singleton, List.map_append] at ih'
      refine Ev.congr (fun k => ?_) ih'
      rw [if_pos rfl, if_pos (by rw [List.length_map]; omega), wrap_nat (by omega)]
      rfl
theorem Show_ev (L : List S33) (hL : L.length ≤ 100) (hz : ∀ x ∈ L, Light x) : Ev (fun k => addr_Show.f k L) (BA (showL L)) :=
  Ev.congr (fun k => by unfold addr_Show.f; rfl) (Show_loop L hL hz L [] rfl rfl)
end Go.Proofs.Mine
