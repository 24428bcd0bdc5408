/- The fields of any bytes: that they are told, and where they stand. -/
import Derived.Test.YtonlncajnniebaaDoorPHeadLib
import Derived.Test.YtonlncajnniebaaDoorPLinesOk
import Derived.Test.YtonlncajnniebaaDoorPPrefix
import Derived.Test.YtonlncajnniebaaDoorX2
import Derived.Test.YtonlncajnniebaaDoorX1
namespace Go.Proofs.Mine
open Go.RowKit Go.Proofs.YtonlncajnniebaaDoorW.PrintWords Go.Proofs.YtonlncajnniebaaDoorW.PrintLast Go.Proofs.YtonlncajnniebaaDoor.X
set_option linter.unusedSimpArgs false

theorem byte_Nm {c : List Int} (h : ∀ x ∈ c, Byte x) : ∃ s : List UInt8, Nm s = c :=
  ⟨(strOfNums c).data.toList, by rw [← bytesOf_Nm]; exact bytesOf_strOfNums h⟩
theorem nameL_any (s : List UInt8) (hs : s.length ≤ 1000000) (t : Nat) (ht : t < s.length) : ∀ (d i : Nat), i + d = t →
    ∃ r, Ev (fun k => head_name.l0 k ⟨s.toArray⟩ (t : Int) (t : Int) (i : Int)) r ∧ (r = (⟨#[]⟩, false) ∨ r = (⟨(s.take t).toArray⟩, true)) := by
  intro d
  induction d with
  | zero =>
    intro i h
    have e : (⟨s.toArray⟩ : ByteArray).extract 0 t = ⟨(s.take t).toArray⟩ := bytesOf_inj (by rw [bytesOf_extract, bytesOf_Nm, bytesOf_Nm, List.drop_zero]; simp [Nm, List.map_take])
    refine ⟨_, Ev.after fun k => ?_, .inr rfl⟩
    rw [head_name.l0, if_neg (by omega), if_pos (by omega), if_pos (by rw [sizeN]; omega), Int.toNat_natCast, e]
  | succ d ih =>
    intro i h
    obtain ⟨r, hr, hr2⟩ := ih (i + 1) (by omega)
    by_cases h1 : bt (⟨s.toArray⟩ : ByteArray) (i : Int) ≤ 32
    · exact ⟨_, Ev.after fun k => by rw [head_name.l0, if_pos (by omega), if_pos (by omega), if_pos (by rw [sizeN]; omega), if_pos h1], .inl rfl⟩
    · by_cases h2 : bt (⟨s.toArray⟩ : ByteArray) (i : Int) > 126
      · exact ⟨_, Ev.after fun k => by rw [head_name.l0, if_pos (by omega), if_pos (by omega), if_pos (by rw [sizeN]; omega), if_neg h1, if_pos h2], .inl rfl⟩
      · exact ⟨r, Ev.step (fun k => by rw [head_name.l0, if_pos (by omega), if_pos (by omega), if_pos (by rw [sizeN]; omega), if_neg h1, if_neg h2, wrap_nat (by omega)]) hr, hr2⟩
theorem name_any (s : List UInt8) (hs : s.length ≤ 1000000) : ∃ (nm : List UInt8) (ok : Bool), Ev (fun k => head_name.f k ⟨s.toArray⟩) (⟨nm.toArray⟩, ok) ∧ (ok = true → nm.length + 1 ≤ s.length) := by
  have e : ∀ k, head_name.f k ⟨s.toArray⟩ = if Lib.indexByte s 58 < 1 then some (⟨#[]⟩, false) else head_name.l0 k ⟨s.toArray⟩ (Lib.indexByte s 58) (Lib.indexByte s 58) 0 := by
    intro k
    unfold head_name.f strings_IndexByte.f
    rw [dataN]
    rfl
  by_cases h1 : Lib.indexByte s 58 < 1
  · exact ⟨[], false, Ev.congr (f := fun _ => some (⟨#[]⟩, false)) (fun k => by rw [e, if_pos h1]) (Ev.now _), fun h => by cases h⟩
  · obtain ⟨t, ht⟩ : ∃ t : Nat, Lib.indexByte s 58 = (t : Int) := ⟨(Lib.indexByte s 58).toNat, by omega⟩
    have hts : t < s.length := (List.getElem?_eq_some_iff.1 (Lib.indexByte_some ht).1).1
    obtain ⟨r, hr, hr2⟩ := nameL_any s hs t hts t 0 (by omega)
    have hr' : Ev (fun k => head_name.f k ⟨s.toArray⟩) r := Ev.congr (fun k => by rw [e, if_neg h1, ht]; rfl) hr
    rcases hr2 with rfl | rfl
    · exact ⟨[], false, hr', fun h => by cases h⟩
    · exact ⟨s.take t, true, hr', fun _ => by rw [List.length_take]; omega⟩
theorem split_any (LL : List (List Int)) (hL : LL.length ≤ 1000000) : ∀ (r pre : List (List Int)), LL = pre ++ r → ∀ acc : Nat, acc + r.flatten.length ≤ 1000000 →
    ∃ n : Nat, acc ≤ n ∧ n ≤ acc + r.flatten.length ∧ Ev (fun k => head_Split.l0 k (acc : Int) LL (LL.length : Int) (pre.length : Int)) ((n : Int), (n : Int)) := by
  intro r
  induction r with
  | nil =>
    intro pre h acc ha
    have hl : LL.length = pre.length := by rw [h]; simp
    exact ⟨acc, by omega, by simp, Ev.after fun k => by rw [head_Split.l0, if_neg (by omega)]⟩
  | cons c r ih =>
    intro pre h acc ha
    have hl : LL.length = pre.length + (r.length + 1) := by rw [h]; simp
    rw [List.flatten_cons, List.length_append] at ha ⊢
    have hr : rd_L1 LL (pre.length : Int) = c := by rw [h]; exact rd_L1_of
    have hw : wrap64 ((acc : Int) + (c.length : Int)) = ((acc + c.length : Nat) : Int) := by rw [wrap_id (by omega) (by omega)]; omega
    by_cases he : (strOfNums c).toList = ([13, 10] : List UInt8)
    · exact ⟨acc + c.length, by omega, by omega, Ev.after fun k => by rw [head_Split.l0, if_pos (by omega), if_pos (by omega), if_pos (by omega), hr, if_pos he, hw]⟩
    · obtain ⟨n, n1, n2, n3⟩ := ih (pre ++ [c]) (by rw [h]; simp) (acc + c.length) (by omega)
      rw [List.length_append, List.length_singleton] at n3
      exact ⟨n, by omega, by omega, Ev.step (fun k => by rw [head_Split.l0, if_pos (by omega), if_pos (by omega), if_pos (by omega), hr, if_neg he, hw, wrap_nat (by omega)]) n3⟩
/-- Fields one behind the other, from a place to a place. -/
def Chain : Nat → List S29 → Nat → Prop
  | lo, [], hi => lo ≤ hi
  | lo, f :: r, hi => ∃ a q : Nat, f.f2 = (a : Int) ∧ f.f3 = (q : Int) ∧ lo ≤ a ∧ a + f.f0.size + 1 ≤ q ∧ Chain q r hi
theorem Chain.le : ∀ {fs : List S29} {lo hi : Nat}, Chain lo fs hi → lo ≤ hi
  | [], _, _, h => h
  | _ :: _, _, _, ⟨_, _, _, _, h1, h2, h3⟩ => by have := h3.le; omega
theorem Chain.up : ∀ {fs : List S29} {lo hi hi' : Nat}, Chain lo fs hi → hi ≤ hi' → Chain lo fs hi'
  | [], _, _, _, h, h' => Nat.le_trans h h'
  | _ :: _, _, _, _, ⟨a, q, e1, e2, h1, h2, h3⟩, h' => ⟨a, q, e1, e2, h1, h2, h3.up h'⟩
theorem Chain.add : ∀ {fs : List S29} {lo p : Nat} {f : S29} {q : Nat}, Chain lo fs p → f.f2 = (p : Int) → f.f3 = (q : Int) → p + f.f0.size + 1 ≤ q → Chain lo (fs ++ [f]) q
  | [], _, _, _, _, h, e1, e2, h2 => ⟨_, _, e1, e2, h, h2, Nat.le_refl _⟩
  | _ :: _, _, _, _, _, ⟨a, q, e1, e2, h1, h2, h3⟩, e3, e4, h4 => ⟨a, q, e1, e2, h1, h2, h3.add e3 e4 h4⟩
theorem Chain.mid : ∀ {ys zs : List S29} {f : S29} {lo hi : Nat}, Chain lo (ys ++ f :: zs) hi → ∃ a q : Nat, f.f2 = (a : Int) ∧ f.f3 = (q : Int) ∧ lo ≤ a ∧ a + f.f0.size + 1 ≤ q ∧ q ≤ hi
  | [], _, _, _, _, ⟨a, q, e1, e2, h1, h2, h3⟩ => ⟨a, q, e1, e2, h1, h2, h3.le⟩
  | _ :: _, _, _, _, _, ⟨a, q, e1, e2, h1, h2, h3⟩ => by
    obtain ⟨a', q', i1, i2, i3, i4, i5⟩ := Chain.mid h3
    exact ⟨a', q', i1, i2, by omega, i4, i5⟩
theorem Chain.last : ∀ {ys : List S29} {f g : S29} {lo p p' : Nat}, Chain lo (ys ++ [f]) p → p ≤ p' → g.f0 = f.f0 → g.f2 = f.f2 → g.f3 = (p' : Int) → Chain lo (ys ++ [g]) p'
  | [], _, _, _, _, _, ⟨a, q, e1, e2, h1, h2, h3⟩, hp, g0, g2, g3 => ⟨a, _, g2.trans e1, g3, h1, by have : q ≤ _ := h3; rw [g0]; omega, Nat.le_refl _⟩
  | _ :: _, _, _, _, _, _, ⟨a, q, e1, e2, h1, h2, h3⟩, hp, g0, g2, g3 => ⟨a, q, e1, e2, h1, h2, h3.last hp g0 g2 g3⟩
theorem Chain.same : ∀ {ys zs : List S29} {f g : S29} {lo hi : Nat}, Chain lo (ys ++ f :: zs) hi → g.f0 = f.f0 → g.f2 = f.f2 → g.f3 = f.f3 → Chain lo (ys ++ g :: zs) hi
  | [], _, _, _, _, _, ⟨a, q, e1, e2, h1, h2, h3⟩, g0, g2, g3 => ⟨a, q, g2.trans e1, g3.trans e2, h1, by rw [g0]; exact h2, h3⟩
  | _ :: _, _, _, _, _, _, ⟨a, q, e1, e2, h1, h2, h3⟩, g0, g2, g3 => ⟨a, q, e1, e2, h1, h2, Chain.same h3 g0 g2 g3⟩
theorem vals_any (m : List UInt8) (hm : m.length ≤ 1000000) (n : Nat) (hn : n ≤ m.length) : ∀ (zs ys : List S29), Chain 0 (ys ++ zs) n → (ys ++ zs).length ≤ 500 →
    ∃ r, Ev (fun k => head_Fields.l1 k (Nm m) (ys ++ zs) ((ys ++ zs).length : Int) (ys.length : Int)) r ∧ Chain 0 r n ∧ r.length ≤ 500 := by
  intro zs
  induction zs with
  | nil =>
    intro ys h hl
    rw [List.append_nil] at h hl ⊢
    exact ⟨ys, vals_end rfl, h, hl⟩
  | cons f zs ih =>
    intro ys h hl
    obtain ⟨a, q, e1, e2, _, h2, h3⟩ := h.mid
    obtain ⟨nm, v, f2, f3⟩ := f
    obtain ⟨⟨nm⟩⟩ := nm
    simp only at e1 e2 h2
    subst e1 e2
    have hz : (⟨⟨nm⟩⟩ : ByteArray).size = nm.length := sizeN nm
    rw [hz] at h2
    have h' := Chain.same (g := (⟨⟨nm.toArray⟩, ⟨(valL ((m.take q).drop (a + nm.length + 1))).toArray⟩, (a : Int), (q : Int)⟩ : S29)) h rfl rfl rfl
    obtain ⟨r, hr, hr2, hr3⟩ := ih (ys ++ [(⟨⟨nm.toArray⟩, ⟨(valL ((m.take q).drop (a + nm.length + 1))).toArray⟩, (a : Int), (q : Int)⟩ : S29)]) (by rw [List.append_assoc]; exact h') (by simp at hl ⊢; omega)
    have hyl : (ys ++ [(⟨⟨nm.toArray⟩, ⟨(valL ((m.take q).drop (a + nm.length + 1))).toArray⟩, (a : Int), (q : Int)⟩ : S29)]).length = ys.length + 1 := by simp
    rw [hyl] at hr
    exact ⟨r, vals_go hm h2 (by omega) (by have h9 := hl; simp only [List.length_append, List.length_cons] at h9 ⊢; omega) hr, hr2, hr3⟩
theorem fields_any (m : List UInt8) (hm : m.length ≤ 1000000) (n : Nat) (hn : n ≤ m.length) (LL : List (List Int)) (hL : LL.length ≤ 1000000) : ∀ (r pre : List (List Int)), LL = pre ++ r → (∀ c ∈ r, ∀ x ∈ c, Byte x) →
    ∀ (fs : List S29) (op : Bool) (p : Nat), Chain 0 fs p → fs.length ≤ 500 → (op = true → fs ≠ []) → p + r.flatten.length ≤ n →
    ∃ fs', Ev (fun k => head_Fields.l0 k (Nm m) fs op (p : Int) LL (LL.length : Int) (pre.length : Int)) fs' ∧ Chain 0 fs' n ∧ fs'.length ≤ 500 := by
  intro r
  induction r with
  | nil =>
    intro pre h _ fs op p hc hl _ hp
    have hll : LL.length = pre.length := by rw [h]; simp
    obtain ⟨r, h1, h2, h3⟩ := vals_any m hm n hn fs [] (hc.up (by simpa using hp)) hl
    exact ⟨r, fields_end hll.symm h1, h2, h3⟩
  | cons c r ih =>
    intro pre h hby fs op p hc hl ho hp
    have hll : LL.length = pre.length + (r.length + 1) := by rw [h]; simp
    have hrd : rd_L1 LL (pre.length : Int) = c := by rw [h]; exact rd_L1_of
    rw [List.flatten_cons, List.length_append] at hp
    obtain ⟨s, hs⟩ := byte_Nm (hby c (by simp))
    have hsl : s.length = c.length := by rw [← hs, Nm_len]
    have hs1 : s.length ≤ 1000000 := by rw [hsl]; exact Nat.le_trans (Nat.le_trans (Nat.le_add_right _ _) (Nat.le_add_left _ p)) (Nat.le_trans hp (Nat.le_trans hn hm))
    have hstr : strOfNums c = ⟨s.toArray⟩ := by rw [← hs, strN]
    have hrest := fun fs op hc hl ho => ih (pre ++ [c]) (by rw [h]; simp) (fun d hd => hby d (by simp [hd])) fs op (p + c.length) hc hl ho (by omega)
    rw [List.length_append, List.length_singleton] at hrest
    have hw : wrap64 ((p : Int) + ((⟨s.toArray⟩ : ByteArray).size : Int)) = ((p + c.length : Nat) : Int) := by rw [sizeN, wrap_id (by omega) (by omega)]; omega
    have hup : Chain 0 fs (p + c.length) := hc.up (by omega)
    -- a line that belongs to the field ahead
    have cont : ∃ fs', Ev (fun k => head_Fields.j1 k (Nm m) fs op ((p + c.length : Nat) : Int) ⟨s.toArray⟩ (p : Int) LL (LL.length : Int) (pre.length : Int) true) fs' ∧ Chain 0 fs' n ∧ fs'.length ≤ 500 := by
      cases op with
      | false =>
        obtain ⟨r', h1, h2, h3⟩ := hrest fs false hup hl (fun h => by cases h)
        exact ⟨r', Ev.step (fun k => by rw [head_Fields.j1, if_pos rfl, if_neg (by decide), wrap_nat (by omega)]) h1, h2, h3⟩
      | true =>
        rcases List.eq_nil_or_concat fs with rfl | ⟨ys, f, rfl⟩
        · exact absurd rfl (ho rfl)
        · rw [List.concat_eq_append] at *
          have hyl : (ys ++ [f]).length = ys.length + 1 := by simp
          have hw2 : wrap64 (((ys ++ [f]).length : Int) - 1) = (ys.length : Int) := by rw [hyl, wrap_id (by omega) (by omega)]; omega
          have hrdf : rd_T29 (ys ++ [f]) (ys.length : Int) = f := by simp [rd_T29, List.getD_eq_getElem?_getD]
          have hset : ∀ g : S29, (ys ++ [f]).set ys.length g = ys ++ [g] := fun g => by
            rw [List.set_append_right _ _ (by omega), Nat.sub_self]
            rfl
          obtain ⟨r', h1, h2, h3⟩ := hrest (ys ++ [⟨f.f0, f.f1, f.f2, ((p + c.length : Nat) : Int)⟩]) true (hc.last (by omega) rfl rfl rfl) (by simp at hl ⊢; omega) (fun _ => by simp)
          refine ⟨r', Ev.step (fun k => ?_) h1, h2, h3⟩
          rw [head_Fields.j1, if_pos rfl, if_pos rfl, hw2, if_pos (by omega), if_pos (by omega), hrdf, Int.toNat_natCast, hset, wrap_nat (by omega)]
    -- a line that may begin a field
    have first : ∃ fs', Ev (fun k => head_Fields.j1 k (Nm m) fs op ((p + c.length : Nat) : Int) ⟨s.toArray⟩ (p : Int) LL (LL.length : Int) (pre.length : Int) false) fs' ∧ Chain 0 fs' n ∧ fs'.length ≤ 500 := by
      obtain ⟨nm, ok, hnm, hok⟩ := name_any s hs1
      cases ok with
      | false =>
        obtain ⟨r', h1, h2, h3⟩ := hrest fs false hup hl (fun h => by cases h)
        refine ⟨r', Ev.step (fun k => by rw [head_Fields.j1, if_neg (by decide)]) (Ev.bind hnm ?_), h2, h3⟩
        exact Ev.congr (fun k => by rw [if_neg Bool.false_ne_true, wrap_nat (by omega)]) h1
      | true =>
        have hnl := hok rfl
        by_cases h5 : (fs.length : Int) < 500
        · obtain ⟨r', h1, h2, h3⟩ := hrest (fs ++ [⟨⟨nm.toArray⟩, ⟨#[]⟩, (p : Int), ((p + c.length : Nat) : Int)⟩]) true (hc.add rfl rfl (by show p + (⟨nm.toArray⟩ : ByteArray).size + 1 ≤ _; rw [sizeN]; omega)) (by simp; omega) (fun _ => by simp)
          refine ⟨r', Ev.step (fun k => by rw [head_Fields.j1, if_neg (by decide)]) (Ev.bind hnm ?_), h2, h3⟩
          exact Ev.congr (fun k => by rw [if_pos rfl, if_pos h5, if_pos (by omega), decide_eq_true h5, wrap_nat (by omega)]) h1
        · obtain ⟨r', h1, h2, h3⟩ := hrest fs false hup hl (fun h => by cases h)
          refine ⟨r', Ev.step (fun k => by rw [head_Fields.j1, if_neg (by decide)]) (Ev.bind hnm ?_), h2, h3⟩
          exact Ev.congr (fun k => by rw [if_pos rfl, if_neg h5, decide_eq_false h5, wrap_nat (by omega)]) h1
    have e1 : ∀ k, head_Fields.l0 (k + 1) (Nm m) fs op (p : Int) LL (LL.length : Int) (pre.length : Int) = (strings_HasPrefix.f ⟨s.toArray⟩ (⟨#[32]⟩ : ByteArray)).bind fun t => (if t = true then (head_Fields.j1 k (Nm m) fs op ((p + c.length : Nat) : Int) ⟨s.toArray⟩ (p : Int) LL (LL.length : Int) (pre.length : Int) true) else ((strings_HasPrefix.f ⟨s.toArray⟩ (⟨#[9]⟩ : ByteArray)).bind fun t => (head_Fields.j1 k (Nm m) fs op ((p + c.length : Nat) : Int) ⟨s.toArray⟩ (p : Int) LL (LL.length : Int) (pre.length : Int) t))) := by
      intro k
      rw [head_Fields.l0, if_pos (by omega), if_pos (by omega), if_pos (by omega), hrd, hstr, hw]
    have hp1 := hasPrefix_eq ⟨s.toArray⟩ ⟨#[32]⟩
    have hp2 := hasPrefix_eq ⟨s.toArray⟩ ⟨#[9]⟩
    generalize decide ((bytesOf (⟨s.toArray⟩ : ByteArray)).take (⟨#[32]⟩ : ByteArray).size = bytesOf ⟨#[32]⟩) = b1 at hp1
    generalize decide ((bytesOf (⟨s.toArray⟩ : ByteArray)).take (⟨#[9]⟩ : ByteArray).size = bytesOf ⟨#[9]⟩) = b2 at hp2
    cases b1 with
    | true =>
      obtain ⟨r', h1, h2, h3⟩ := cont
      exact ⟨r', Ev.step (fun k => by rw [e1, hp1, Option.bind_some, if_pos rfl]) h1, h2, h3⟩
    | false =>
      cases b2 with
      | true =>
        obtain ⟨r', h1, h2, h3⟩ := cont
        exact ⟨r', Ev.step (fun k => by rw [e1, hp1, Option.bind_some, if_neg (by decide), hp2, Option.bind_some]) h1, h2, h3⟩
      | false =>
        obtain ⟨r', h1, h2, h3⟩ := first
        exact ⟨r', Ev.step (fun k => by rw [e1, hp1, Option.bind_some, if_neg (by decide), hp2, Option.bind_some]) h1, h2, h3⟩
theorem lines_bytes {l : List Int} (h : ∀ x ∈ l, Byte x) : (∀ c ∈ linesL l, ∀ x ∈ c, Byte x) ∧ (linesL l).flatten.length = l.length := by
  have hf := (linesA_ok l.length l [] (Nat.le_refl _)).2
  rw [List.nil_append] at hf
  refine ⟨fun c hc x hx => h x ?_, congrArg List.length hf⟩
  rw [← hf]
  exact List.mem_flatten.2 ⟨c, hc, hx⟩
/-- Where the head ends. -/
theorem Split_any (m : List UInt8) (hm : m.length ≤ 100000) : ∃ n : Nat, n ≤ m.length ∧ Ev (fun k => head_Split.f k (Nm m)) ((n : Int), (n : Int)) := by
  obtain ⟨h1, h2⟩ := lines_bytes (Nm_byte m)
  have h3 := linesL_length (Nm m)
  rw [Nm_len] at h2 h3
  obtain ⟨n, n1, n2, n3⟩ := split_any (linesL (Nm m)) (by omega) (linesL (Nm m)) [] rfl 0 (by omega)
  refine ⟨n, by omega, ?_⟩
  refine Ev.congr (fun k => by unfold head_Split.f; rfl) (Ev.bind (lines_ev (Nm m) (Nm_byte m) (by rw [Nm_len]; omega)) ?_)
  exact n3
/-- The fields, and where they stand: within the head. -/
theorem Fields_any (m : List UInt8) (hm : m.length ≤ 100000) : ∃ (n : Nat) (fs : List S29), n ≤ m.length ∧ Ev (fun k => head_Split.f k (Nm m)) ((n : Int), (n : Int)) ∧ Ev (fun k => head_Fields.f k (Nm m)) fs ∧ Chain 0 fs n ∧ fs.length ≤ 500 := by
  obtain ⟨n, n1, n2⟩ := Split_any m hm
  have ht : (Nm m).take n = Nm (m.take n) := by simp [Nm, List.map_take]
  obtain ⟨h1, h2⟩ := lines_bytes (Nm_byte (m.take n))
  have h3 := linesL_length (Nm (m.take n))
  rw [Nm_len, List.length_take] at h2 h3
  obtain ⟨fs, f1, f2, f3⟩ := fields_any m (by omega) n n1 (linesL (Nm (m.take n))) (by omega) (linesL (Nm (m.take n))) [] rfl h1 [] false 0 (Nat.le_refl 0) (by simp) (fun h => by cases h) (by omega)
  refine ⟨n, fs, n1, n2, ?_, f2, f3⟩
  refine Ev.congr (fun k => by unfold head_Fields.f; rfl) (Ev.bind n2 ?_)
  refine Ev.congr (fun k => by rw [if_pos (by omega), if_pos (by rw [Nm_len]; omega), Int.toNat_natCast, ht]) (Ev.bind (lines_ev _ (Nm_byte _) (by rw [Nm_len, List.length_take]; omega)) ?_)
  exact f1
end Go.Proofs.Mine
