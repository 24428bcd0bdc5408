/- The lines ahead of a message, plainly: one line at a time. -/
import Derived.Test.YtonlncajnniebaaDoorPNm
import Derived.Test.YtonlncajnniebaaDoorPLines
import Derived.Test.YtonlncajnniebaaDoorX1
import Derived.Test.YtonlncajnniebaaDoorX2
namespace Go.Proofs.Mine
open Go.RowKit Go.Proofs.YtonlncajnniebaaDoorW.PrintWords Go.Proofs.YtonlncajnniebaaDoorW.PrintLast Go.Proofs.YtonlncajnniebaaDoor.X
set_option linter.unusedSimpArgs false

theorem idx_none : ∀ s : List UInt8, (∀ b ∈ s, b ≠ 13) → Lib.index s [13, 10] = -1
  | [], _ => by rfl
  | b :: l, h => by
    have hb : ([13, 10] : List UInt8).isPrefixOf (b :: l) = false := by
      have := h b (by simp)
      simp [List.isPrefixOf]
      intro e
      exact absurd e.symm this
    rw [Lib.index, hb, idx_none l (fun c hc => h c (by simp [hc]))]
    rfl
theorem idx_at : ∀ x y : List UInt8, (∀ b ∈ x, b ≠ 13) → Lib.index (x ++ 13 :: 10 :: y) [13, 10] = (x.length : Int)
  | [], y, _ => by simp [Lib.index]
  | b :: x, y, h => by
    have hb : ([13, 10] : List UInt8).isPrefixOf (b :: (x ++ 13 :: 10 :: y)) = false := by
      have := h b (by simp)
      simp [List.isPrefixOf]
      intro e
      exact absurd e.symm this
    rw [List.cons_append, Lib.index, hb, idx_at x y (fun c hc => h c (by simp [hc]))]
    have hne : (((x.length : Int)) == -1) = false := by rw [beq_eq_false_iff_ne]; omega
    rw [hne, List.length_cons]
    simp
def noCR (s : List UInt8) : List UInt8 := Lib.replaceAll s [13, 10] []
theorem noCR_eq (s : List UInt8) : noCR s = Lib.replaceK [13, 10] [] (Lib.count s [13, 10]) s := by
  unfold noCR Lib.replaceAll Lib.replace Lib.replaceNum
  rw [if_neg (by decide), if_pos (.inl (by decide))]
theorem noCR_none (s : List UInt8) (h : ∀ b ∈ s, b ≠ 13) : noCR s = s := by
  rw [noCR_eq, Lib.count_miss (idx_none s h)]
  rfl
theorem noCR_hit (x y : List UInt8) (h : ∀ b ∈ x, b ≠ 13) : noCR (x ++ 13 :: 10 :: y) = x ++ noCR y := by
  have e := idx_at x y h
  have hd : (x ++ 13 :: 10 :: y).drop (x.length + ([13, 10] : List UInt8).length) = y := by simp
  rw [noCR_eq, Lib.count_hit (by decide) e, hd, Nat.add_comm, Lib.replaceK_hit _ _ _ _ _ e, hd, noCR_eq]
  simp
theorem repK_len : ∀ (k : Nat) (s : List UInt8), (Lib.replaceK [13, 10] [] k s).length ≤ s.length
  | 0, s => Nat.le_refl _
  | k + 1, s => by
    rw [Lib.replaceK]
    split
    · exact Nat.le_refl _
    · have := repK_len k (s.drop ((Lib.index s [13, 10]).toNat + ([13, 10] : List UInt8).length))
      rw [List.length_append, List.length_append, List.length_take]
      rw [List.length_drop] at this
      simp only [List.length_nil]
      have h2 : ([13, 10] : List UInt8).length = 2 := rfl
      omega
theorem noCR_len (s : List UInt8) : (noCR s).length ≤ s.length := by rw [noCR_eq]; exact repK_len _ _
def valL (s : List UInt8) : List UInt8 := Lib.trimS (noCR s) [32, 9]
theorem value_eq (s : List UInt8) (h : s.length ≤ 1000000) : head_Value.f ⟨s.toArray⟩ = some ⟨(valL s).toArray⟩ := by
  have h1 : strings_ReplaceAll.f ⟨s.toArray⟩ (⟨#[13, 10]⟩ : ByteArray) (⟨#[]⟩ : ByteArray) = some ⟨(noCR s).toArray⟩ := by
    unfold strings_ReplaceAll.f
    rw [sizeN, show (⟨#[13, 10]⟩ : ByteArray).size = 2 from rfl, show (⟨#[]⟩ : ByteArray).size = 0 from rfl, Nat.mul_zero, decide_eq_true (by omega), decide_eq_true (by omega), decide_eq_true (by omega), if_pos (by decide)]
    rfl
  have h2 := noCR_len s
  have h3 : strings_Trim.f ⟨(noCR s).toArray⟩ (⟨#[32, 9]⟩ : ByteArray) = some ⟨(valL s).toArray⟩ := by
    unfold strings_Trim.f
    rw [sizeN, show (⟨#[32, 9]⟩ : ByteArray).size = 2 from rfl, decide_eq_true (by omega), decide_eq_true (by omega), if_pos (by decide)]
    rfl
  unfold head_Value.f
  rw [h1, Option.bind_some, h3, Option.bind_some]
/-! ### a line's beginning -/
theorem prefix_eq (b c : UInt8) (l : List UInt8) : strings_HasPrefix.f ⟨(b :: l).toArray⟩ ⟨#[c]⟩ = some (decide (b = c)) := by
  have h1 : (⟨#[c]⟩ : ByteArray).size = 1 := rfl
  have e : bytesOf ((⟨(b :: l).toArray⟩ : ByteArray).extract 0 1) = [(b.toNat : Int)] := by
    rw [bytesOf_extract, bytesOf_Nm]
    simp [Nm]
  have e2 : bytesOf (⟨#[c]⟩ : ByteArray) = [(c.toNat : Int)] := bytesOf_Nm [c]
  have hd : (((⟨(b :: l).toArray⟩ : ByteArray).extract 0 1).toList == (⟨#[c]⟩ : ByteArray).toList) = decide (b = c) := by
    rw [toList_beq, e, e2]
    congr 1
    simp only [List.cons.injEq, and_true, eq_iff_iff]
    constructor
    · intro h
      exact UInt8.toNat_inj.1 (by omega)
    · rintro rfl
      rfl
  unfold strings_HasPrefix.f stringslite_HasPrefix.f
  rw [sizeN, h1, List.length_cons, if_pos (by omega), if_pos (by omega), if_pos (by omega)]
  rw [show ((1 : Nat) : Int).toNat = 1 from rfl, hd]
  rfl
/-- A field's name. -/
def GoodName (s : List UInt8) : Prop := s ≠ [] ∧ ∀ b ∈ s, 33 ≤ b.toNat ∧ b.toNat ≤ 126 ∧ b ≠ 58
theorem indexByte_at : ∀ (x y : List UInt8) (c : UInt8), (∀ b ∈ x, b ≠ c) → Lib.indexByte (x ++ c :: y) c = (x.length : Int)
  | [], y, c, _ => by simp [Lib.indexByte]
  | b :: x, y, c, h => by
    have hb : (b == c) = false := beq_eq_false_iff_ne.2 (h b (by simp))
    have hne : (((x.length : Int)) == -1) = false := by rw [beq_eq_false_iff_ne]; omega
    rw [List.cons_append, Lib.indexByte, hb, indexByte_at x y c (fun d hd => h d (by simp [hd])), hne, List.length_cons]
    simp
theorem name_loop (nm rest : List UInt8) (hg : GoodName nm) (hl : (nm ++ 58 :: rest).length ≤ 1000000) : ∀ (l pre : List UInt8), nm = pre ++ l →
    Ev (fun k => head_name.l0 k ⟨(nm ++ 58 :: rest).toArray⟩ (nm.length : Int) (nm.length : Int) (pre.length : Int)) (⟨nm.toArray⟩, true) := by
  have hs : (nm ++ 58 :: rest).length = nm.length + (rest.length + 1) := by simp
  intro l
  induction l with
  | nil =>
    intro pre h
    have hp : pre = nm := by rw [h, List.append_nil]
    have e : (⟨(nm ++ 58 :: rest).toArray⟩ : ByteArray).extract 0 nm.length = ⟨nm.toArray⟩ := bytesOf_inj (by rw [bytesOf_extract, bytesOf_Nm, bytesOf_Nm, Nm_app, List.drop_zero, ← Nm_len nm, List.take_left])
    exact Ev.after fun k => by rw [head_name.l0, if_neg (by rw [hp]; omega), if_pos (by omega), if_pos (by rw [sizeN]; omega), Int.toNat_natCast, e]
  | cons c l ih =>
    intro pre h
    have hl2 : nm.length = pre.length + (l.length + 1) := by rw [h]; simp
    have hc := hg.2 c (by rw [h]; simp)
    have hb : bt (⟨(nm ++ 58 :: rest).toArray⟩ : ByteArray) (pre.length : Int) = (c.toNat : Int) := by
      have := bt_of (s := ⟨(nm ++ 58 :: rest).toArray⟩) (pre := Nm pre) (l := Nm l ++ Nm (58 :: rest)) (c := (c.toNat : Int)) (by rw [bytesOf_Nm, h, Nm_app, Nm_app]; simp [Nm])
      rwa [Nm_len] at this
    have ih' := ih (pre ++ [c]) (by rw [h]; simp)
    rw [List.length_append, List.length_singleton] at ih'
    exact Ev.step (fun k => by rw [head_name.l0, if_pos (by omega), if_pos (by omega), if_pos (by rw [sizeN]; omega), hb, if_neg (by omega), if_neg (by omega), wrap_nat (by omega)]) ih'
theorem name_ev (nm rest : List UInt8) (hg : GoodName nm) (hl : (nm ++ 58 :: rest).length ≤ 1000000) : Ev (fun k => head_name.f k ⟨(nm ++ 58 :: rest).toArray⟩) (⟨nm.toArray⟩, true) := by
  have h1 : strings_IndexByte.f ⟨(nm ++ 58 :: rest).toArray⟩ 58 = some (nm.length : Int) := by
    unfold strings_IndexByte.f
    rw [dataN]
    exact congrArg some (indexByte_at nm rest 58 (fun b hb => (hg.2 b hb).2.2))
  have hpos : 1 ≤ nm.length := by
    cases nm with
    | nil => exact absurd rfl hg.1
    | cons a b => simp
  exact Ev.congr (fun k => by unfold head_name.f; rw [h1, Option.bind_some, if_neg (by omega)]; rfl) (name_loop nm rest hg hl nm [] rfl)
theorem name_crlf : Ev (fun k => head_name.f k ⟨([13, 10] : List UInt8).toArray⟩) (⟨#[]⟩, false) := Ev.pure fun k => by
  unfold head_name.f
  rfl
/-! ### the walk over the lines -/
theorem split_go {L : List (List Int)} {i acc : Nat} {s : List UInt8} {r : Int × Int} (hi : i < L.length) (hL : L.length ≤ 1000000) (hr : rd_L1 L (i : Int) = Nm s) (hs : s ≠ [13, 10]) (ha : acc + s.length ≤ 1000000)
    (h : Ev (fun k => head_Split.l0 k ((acc + s.length : Nat) : Int) L (L.length : Int) ((i + 1 : Nat) : Int)) r) : Ev (fun k => head_Split.l0 k (acc : Int) L (L.length : Int) (i : Int)) r := by
  have hne : ¬ (⟨s.toArray⟩ : ByteArray).toList = ([13, 10] : List UInt8) := by
    rw [toList_lit, bytesOf_Nm]
    intro e
    exact hs ((List.map_inj_right (fun (a b : UInt8) (hab : (a.toNat : Int) = (b.toNat : Int)) => UInt8.toNat_inj.1 (by omega))).1 e)
  refine Ev.step (fun k => ?_) h
  rw [head_Split.l0, if_pos (by omega), if_pos (by omega), if_pos (by omega), hr, strN, if_neg hne, Nm_len, wrap_id (n := (acc : Int) + (s.length : Int)) (by omega) (by omega), wrap_nat (by omega), ← Int.natCast_add]
theorem split_end {L : List (List Int)} {i acc : Nat} (hi : i < L.length) (hL : L.length ≤ 1000000) (hr : rd_L1 L (i : Int) = Nm [13, 10]) (ha : acc ≤ 1000000) :
    Ev (fun k => head_Split.l0 k (acc : Int) L (L.length : Int) (i : Int)) (((acc + 2 : Nat) : Int), ((acc + 2 : Nat) : Int)) := by
  have he : (⟨([13, 10] : List UInt8).toArray⟩ : ByteArray).toList = ([13, 10] : List UInt8) := by rw [toList_lit, bytesOf_Nm]; rfl
  refine Ev.after fun k => ?_
  rw [head_Split.l0, if_pos (by omega), if_pos (by omega), if_pos (by omega), hr, strN, if_pos he, Nm_len, show (([13, 10] : List UInt8).length : Int) = 2 from rfl, wrap_id (n := (acc : Int) + 2) (by omega) (by omega)]
  rfl
theorem field_go {b : List Int} {L : List (List Int)} {i p : Nat} {x5 : List S29} {x6 : Bool} {nm rest : List UInt8} {r : List S29} (hi : i < L.length) (hL : L.length ≤ 1000000) (hr : rd_L1 L (i : Int) = Nm (nm ++ 58 :: rest)) (hg : GoodName nm) (h5 : x5.length < 500) (ha : p + (nm ++ 58 :: rest).length ≤ 1000000)
    (h : Ev (fun k => head_Fields.l0 k b (x5 ++ [⟨⟨nm.toArray⟩, ⟨#[]⟩, (p : Int), ((p + (nm ++ 58 :: rest).length : Nat) : Int)⟩]) true ((p + (nm ++ 58 :: rest).length : Nat) : Int) L (L.length : Int) ((i + 1 : Nat) : Int)) r) :
    Ev (fun k => head_Fields.l0 k b x5 x6 (p : Int) L (L.length : Int) (i : Int)) r := by
  have hp : ∀ d : UInt8, d.toNat < 33 → strings_HasPrefix.f ⟨(nm ++ 58 :: rest).toArray⟩ ⟨#[d]⟩ = some false := by
    intro d hd
    cases hnm : nm with
    | nil => exact absurd hnm hg.1
    | cons c nm' =>
      have hc := (hg.2 c (by rw [hnm]; simp)).1
      rw [List.cons_append, prefix_eq, decide_eq_false (by rintro rfl; omega)]
  have hname := name_ev nm rest hg (by omega)
  refine Ev.step (fun k => by rw [head_Fields.l0, if_pos (by omega), if_pos (by omega), if_pos (by omega), hr, strN, hp 32 (by decide), Option.bind_some, if_neg (by decide), hp 9 (by decide), Option.bind_some, sizeN]) (Ev.step (fun k => by rw [head_Fields.j1, if_neg (by decide)]) (Ev.bind hname ?_))
  refine Ev.congr (fun k => ?_) h
  rw [if_pos rfl, if_pos (by omega), if_pos (by omega), decide_eq_true (by omega), wrap_id (n := (p : Int) + ((nm ++ 58 :: rest).length : Int)) (by omega) (by omega), wrap_nat (by omega), ← Int.natCast_add]
theorem cont_go {b : List Int} {L : List (List Int)} {i p : Nat} {ys : List S29} {f : S29} {c : List UInt8} {r : List S29} (hi : i < L.length) (hL : L.length ≤ 1000000) (hr : rd_L1 L (i : Int) = Nm (32 :: c)) (h5 : ys.length < 500) (ha : p + (32 :: c).length ≤ 1000000)
    (h : Ev (fun k => head_Fields.l0 k b (ys ++ [⟨f.f0, f.f1, f.f2, ((p + (32 :: c).length : Nat) : Int)⟩]) true ((p + (32 :: c).length : Nat) : Int) L (L.length : Int) ((i + 1 : Nat) : Int)) r) :
    Ev (fun k => head_Fields.l0 k b (ys ++ [f]) true (p : Int) L (L.length : Int) (i : Int)) r := by
  have hp : strings_HasPrefix.f ⟨(32 :: c).toArray⟩ ⟨#[32]⟩ = some true := by rw [prefix_eq]; rfl
  have hll : (ys ++ [f]).length = ys.length + 1 := by simp
  have hw : wrap64 (((ys ++ [f]).length : Int) - 1) = (ys.length : Int) := by rw [hll, wrap_id (by omega) (by omega)]; omega
  have hrd : rd_T29 (ys ++ [f]) (ys.length : Int) = f := by simp [rd_T29, List.getD_eq_getElem?_getD]
  have hset : ∀ g : S29, (ys ++ [f]).set ys.length g = ys ++ [g] := fun g => by
    rw [List.set_append_right _ _ (by omega), Nat.sub_self]
    rfl
  refine Ev.step (fun k => by rw [head_Fields.l0, if_pos (by omega), if_pos (by omega), if_pos (by omega), hr, strN, hp, Option.bind_some, if_pos rfl, sizeN]) (Ev.step (fun k => ?_) h)
  rw [head_Fields.j1, if_pos rfl, if_pos rfl, hw, if_pos (by omega), if_pos (by omega), hrd, Int.toNat_natCast, hset, wrap_id (n := (p : Int) + ((32 :: c).length : Int)) (by omega) (by omega), wrap_nat (by omega), ← Int.natCast_add]
theorem crlf_go {b : List Int} {L : List (List Int)} {i p : Nat} {x5 : List S29} {x6 : Bool} {r : List S29} (hi : i < L.length) (hL : L.length ≤ 1000000) (hr : rd_L1 L (i : Int) = Nm [13, 10]) (ha : p ≤ 1000000)
    (h : Ev (fun k => head_Fields.l0 k b x5 false ((p + 2 : Nat) : Int) L (L.length : Int) ((i + 1 : Nat) : Int)) r) :
    Ev (fun k => head_Fields.l0 k b x5 x6 (p : Int) L (L.length : Int) (i : Int)) r := by
  have hp1 : strings_HasPrefix.f ⟨([13, 10] : List UInt8).toArray⟩ ⟨#[32]⟩ = some false := by rw [prefix_eq]; rfl
  have hp2 : strings_HasPrefix.f ⟨([13, 10] : List UInt8).toArray⟩ ⟨#[9]⟩ = some false := by rw [prefix_eq]; rfl
  refine Ev.step (fun k => by rw [head_Fields.l0, if_pos (by omega), if_pos (by omega), if_pos (by omega), hr, strN, hp1, Option.bind_some, if_neg (by decide), hp2, Option.bind_some, sizeN]) (Ev.step (fun k => by rw [head_Fields.j1, if_neg (by decide)]) (Ev.bind name_crlf ?_))
  refine Ev.congr (fun k => ?_) h
  rw [if_neg (by decide), show (([13, 10] : List UInt8).length : Int) = 2 from rfl, wrap_id (n := (p : Int) + 2) (by omega) (by omega), wrap_nat (by omega)]
  rfl
theorem fields_end {b : List Int} {L : List (List Int)} {x5 : List S29} {x6 : Bool} {p : Int} {r : List S29} {i : Nat} (hi : i = L.length)
    (h : Ev (fun k => head_Fields.l1 k b x5 (x5.length : Int) 0) r) : Ev (fun k => head_Fields.l0 k b x5 x6 p L (L.length : Int) (i : Int)) r :=
  Ev.step (fun k => by rw [head_Fields.l0, if_neg (by omega)]) h
/-- The values are set, one field at a time. -/
theorem vals_go {m : List UInt8} {ys zs : List S29} {nm : List UInt8} {v : ByteArray} {p q : Nat} {r : List S29} (hm : m.length ≤ 1000000) (hq : p + nm.length + 1 ≤ q) (hq2 : q ≤ m.length) (hz : (ys ++ (⟨⟨nm.toArray⟩, v, (p : Int), (q : Int)⟩ : S29) :: zs).length ≤ 1000)
    (h : Ev (fun k => head_Fields.l1 k (Nm m) ((ys ++ [⟨⟨nm.toArray⟩, ⟨(valL ((m.take q).drop (p + nm.length + 1))).toArray⟩, (p : Int), (q : Int)⟩]) ++ zs) (((ys ++ [(⟨⟨nm.toArray⟩, ⟨(valL ((m.take q).drop (p + nm.length + 1))).toArray⟩, (p : Int), (q : Int)⟩ : S29)]) ++ zs).length : Int) ((ys.length + 1 : Nat) : Int)) r) :
    Ev (fun k => head_Fields.l1 k (Nm m) (ys ++ (⟨⟨nm.toArray⟩, v, (p : Int), (q : Int)⟩ : S29) :: zs) ((ys ++ (⟨⟨nm.toArray⟩, v, (p : Int), (q : Int)⟩ : S29) :: zs).length : Int) (ys.length : Int)) r := by
  have hl : (ys ++ (⟨⟨nm.toArray⟩, v, (p : Int), (q : Int)⟩ : S29) :: zs).length = ys.length + (zs.length + 1) := by simp
  have hl2 : ((ys ++ [(⟨⟨nm.toArray⟩, ⟨(valL ((m.take q).drop (p + nm.length + 1))).toArray⟩, (p : Int), (q : Int)⟩ : S29)]) ++ zs).length = ys.length + (zs.length + 1) := by simp
  have hrd : rd_T29 (ys ++ (⟨⟨nm.toArray⟩, v, (p : Int), (q : Int)⟩ : S29) :: zs) (ys.length : Int) = ⟨⟨nm.toArray⟩, v, (p : Int), (q : Int)⟩ := by simp [rd_T29, List.getD_eq_getElem?_getD]
  have hset : ∀ g : S29, (ys ++ (⟨⟨nm.toArray⟩, v, (p : Int), (q : Int)⟩ : S29) :: zs).set ys.length g = (ys ++ [g]) ++ zs := fun g => by
    rw [List.set_append_right _ _ (Nat.le_refl _), Nat.sub_self, List.append_assoc]
    rfl
  have hw : wrap64 (wrap64 ((p : Int) + (nm.length : Int)) + 1) = ((p + nm.length + 1 : Nat) : Int) := by
    rw [wrap_id (n := (p : Int) + (nm.length : Int)) (by omega) (by omega), wrap_id (by omega) (by omega)]
    omega
  have hsl : ((Nm m).take q).drop (p + nm.length + 1) = Nm ((m.take q).drop (p + nm.length + 1)) := by simp [Nm, List.map_drop, List.map_take]
  have hv := value_eq ((m.take q).drop (p + nm.length + 1)) (by rw [List.length_drop, List.length_take]; omega)
  rw [hl2] at h
  rw [hl]
  refine Ev.step (fun k => ?_) h
  rw [head_Fields.l1, if_pos (by omega), if_pos (by omega), if_pos (by rw [hl]; omega), hrd]
  dsimp only
  rw [sizeN, hw, if_pos (by omega), if_pos (by omega), if_pos (by rw [Nm_len]; omega), Int.toNat_natCast, Int.toNat_natCast, hsl, strN, hv, Option.bind_some, Int.toNat_natCast, hset, wrap_nat (by omega)]
theorem vals_end {b : List Int} {x5 : List S29} {i : Nat} (hi : i = x5.length) : Ev (fun k => head_Fields.l1 k b x5 (x5.length : Int) (i : Int)) x5 :=
  Ev.after fun k => by rw [head_Fields.l1, if_neg (by omega)]
/-! ### lines -/
theorem linesA_plain (x : List UInt8) (b : List Int) : ∀ cur : List Int, (∀ c ∈ x, c ≠ 13) → linesA cur (Nm x ++ 13 :: 10 :: b) = (cur ++ Nm x ++ [13, 10]) :: linesA [] b := by
  induction x with
  | nil => intro cur _; simp [Nm, linesA_end]
  | cons c x ih =>
    intro cur h
    have hc := h c (by simp)
    have e : Nm (c :: x) ++ 13 :: 10 :: b = (c.toNat : Int) :: (Nm x ++ 13 :: 10 :: b) := by simp [Nm]
    rw [e, linesA_go _ _ _ (by
      rintro ⟨h13, _⟩
      exact hc (UInt8.toNat_inj.1 (by have : (13 : UInt8).toNat = 13 := rfl
                                      omega))), ih _ (fun d hd => h d (by simp [hd]))]
    simp [Nm]
theorem lines_plain (x : List UInt8) (b : List UInt8) (h : ∀ c ∈ x, c ≠ 13) : linesL (Nm (x ++ 13 :: 10 :: b)) = Nm (x ++ [13, 10]) :: linesL (Nm b) := by
  have e : Nm (x ++ 13 :: 10 :: b) = Nm x ++ 13 :: 10 :: Nm b := by simp [Nm]
  unfold linesL
  rw [e, linesA_plain x (Nm b) [] h]
  simp [Nm]
theorem lines_nil : linesL (Nm []) = [] := by
  unfold linesL
  rw [show Nm [] = [] from rfl, linesA_nil, if_pos rfl]
end Go.Proofs.Mine
