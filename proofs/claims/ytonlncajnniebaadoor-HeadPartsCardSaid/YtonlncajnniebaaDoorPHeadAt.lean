/- The fields of any bytes: what stands at each. -/
import Derived.Test.YtonlncajnniebaaDoorPHeadAny
namespace Go.Proofs.Mine
open Go.RowKit Go.Proofs.YtonlncajnniebaaDoorW.PrintWords Go.Proofs.YtonlncajnniebaaDoorW.PrintLast Go.Proofs.YtonlncajnniebaaDoor.X
set_option linter.unusedSimpArgs false

theorem Nm_inj {a b : List UInt8} (h : Nm a = Nm b) : a = b := by
  have := congrArg strOfNums h
  rw [strN, strN] at this
  have h2 : a.toArray = b.toArray := congrArg ByteArray.data this
  simpa using h2
theorem name_at (s : List UInt8) (hs : s.length ≤ 1000000) : ∃ (nm : List UInt8) (ok : Bool), Ev (fun k => head_name.f k ⟨s.toArray⟩) (⟨nm.toArray⟩, ok) ∧ (ok = true → nm ≠ [] ∧ nm.length + 1 ≤ s.length ∧ s.take (nm.length + 1) = nm ++ [58]) := by
  have e : ∀ k, head_name.f k ⟨s.toArray⟩ = if Lib.indexByte s 58 < 1 then some (⟨#[]⟩, false) else head_name.l0 k ⟨s.toArray⟩ (Lib.indexByte s 58) (Lib.indexByte s 58) 0 := by
    intro k
    unfold head_name.f strings_IndexByte.f
    rw [dataN]
    rfl
  by_cases h1 : Lib.indexByte s 58 < 1
  · exact ⟨[], false, Ev.congr (f := fun _ => some (⟨#[]⟩, false)) (fun k => by rw [e, if_pos h1]) (Ev.now _), fun h => by cases h⟩
  · obtain ⟨t, ht⟩ : ∃ t : Nat, Lib.indexByte s 58 = (t : Int) := ⟨(Lib.indexByte s 58).toNat, by omega⟩
    have h58 := (Lib.indexByte_some ht).1
    have hts : t < s.length := (List.getElem?_eq_some_iff.1 h58).1
    obtain ⟨r, hr, hr2⟩ := nameL_any s hs t hts t 0 (by omega)
    have hr' : Ev (fun k => head_name.f k ⟨s.toArray⟩) r := Ev.congr (fun k => by rw [e, if_neg h1, ht]; rfl) hr
    rcases hr2 with rfl | rfl
    · exact ⟨[], false, hr', fun h => by cases h⟩
    · have hl : (s.take t).length = t := by rw [List.length_take]; omega
      refine ⟨s.take t, true, hr', fun _ => ⟨fun h0 => ?_, by omega, ?_⟩⟩
      · rw [h0] at hl
        simp at hl
        omega
      · rw [hl, List.take_add_one, h58]
        rfl
/-- Fields one behind the other, from a place to a place, each where it says. -/
def Stand (m : List UInt8) : Nat → List S29 → Nat → Prop
  | lo, [], hi => lo ≤ hi
  | lo, f :: r, hi => ∃ (nm : List UInt8) (a q : Nat), f.f0 = ⟨nm.toArray⟩ ∧ f.f2 = (a : Int) ∧ f.f3 = (q : Int) ∧ lo ≤ a ∧ a + nm.length + 1 ≤ q ∧ nm ≠ [] ∧ (m.drop a).take (nm.length + 1) = nm ++ [58] ∧ Stand m q r hi
/-- Its value is what is behind its name. -/
def Told (m : List UInt8) (f : S29) : Prop := ∃ (a q n : Nat), f.f2 = (a : Int) ∧ f.f3 = (q : Int) ∧ f.f0.size = n ∧ f.f1 = ⟨(valL ((m.take q).drop (a + n + 1))).toArray⟩
section
variable {m : List UInt8}
theorem Stand.chain : ∀ {fs : List S29} {lo hi : Nat}, Stand m lo fs hi → Chain lo fs hi
  | [], _, _, h => h
  | _ :: _, _, _, ⟨nm, a, q, e0, e1, e2, h1, h2, _, _, h3⟩ => ⟨a, q, e1, e2, h1, by rw [e0, sizeN]; exact h2, h3.chain⟩
theorem Stand.le {fs : List S29} {lo hi : Nat} (h : Stand m lo fs hi) : lo ≤ hi := h.chain.le
theorem Stand.up : ∀ {fs : List S29} {lo hi hi' : Nat}, Stand m lo fs hi → hi ≤ hi' → Stand m lo fs hi'
  | [], _, _, _, h, h' => Nat.le_trans h h'
  | _ :: _, _, _, _, ⟨nm, a, q, e0, e1, e2, h1, h2, n0, n1, h3⟩, h' => ⟨nm, a, q, e0, e1, e2, h1, h2, n0, n1, h3.up h'⟩
theorem Stand.add : ∀ {fs : List S29} {lo p : Nat} {f : S29} {q : Nat} {nm : List UInt8}, Stand m lo fs p → f.f0 = ⟨nm.toArray⟩ → f.f2 = (p : Int) → f.f3 = (q : Int) → p + nm.length + 1 ≤ q → nm ≠ [] → (m.drop p).take (nm.length + 1) = nm ++ [58] → Stand m lo (fs ++ [f]) q
  | [], _, _, _, _, _, h, e0, e1, e2, h2, n0, n1 => ⟨_, _, _, e0, e1, e2, h, h2, n0, n1, Nat.le_refl _⟩
  | _ :: _, _, _, _, _, _, ⟨nm, a, q, e0, e1, e2, h1, h2, n0, n1, h3⟩, f0, e3, e4, h4, n2, n3 => ⟨nm, a, q, e0, e1, e2, h1, h2, n0, n1, h3.add f0 e3 e4 h4 n2 n3⟩
theorem Stand.mid : ∀ {ys zs : List S29} {f : S29} {lo hi : Nat}, Stand m lo (ys ++ f :: zs) hi → ∃ (nm : List UInt8) (a q : Nat), f.f0 = ⟨nm.toArray⟩ ∧ f.f2 = (a : Int) ∧ f.f3 = (q : Int) ∧ lo ≤ a ∧ a + nm.length + 1 ≤ q ∧ q ≤ hi ∧ nm ≠ [] ∧ (m.drop a).take (nm.length + 1) = nm ++ [58] ∧ Stand m q zs hi
  | [], _, _, _, _, ⟨nm, a, q, e0, e1, e2, h1, h2, n0, n1, h3⟩ => ⟨nm, a, q, e0, e1, e2, h1, h2, h3.le, n0, n1, h3⟩
  | _ :: _, _, _, _, _, ⟨nm, a, q, e0, e1, e2, h1, h2, n0, n1, h3⟩ => by
    obtain ⟨nm', a', q', i0, i1, i2, i3, i4, i5, i6, i7, i8⟩ := Stand.mid h3
    exact ⟨nm', a', q', i0, i1, i2, by omega, i4, i5, i6, i7, i8⟩
theorem Stand.last : ∀ {ys : List S29} {f g : S29} {lo p p' : Nat}, Stand m lo (ys ++ [f]) p → p ≤ p' → g.f0 = f.f0 → g.f2 = f.f2 → g.f3 = (p' : Int) → Stand m lo (ys ++ [g]) p'
  | [], _, _, _, _, _, ⟨nm, a, q, e0, e1, e2, h1, h2, n0, n1, h3⟩, hp, g0, g2, g3 => ⟨nm, a, _, g0.trans e0, g2.trans e1, g3, h1, by have : q ≤ _ := h3; omega, n0, n1, Nat.le_refl _⟩
  | _ :: _, _, _, _, _, _, ⟨nm, a, q, e0, e1, e2, h1, h2, n0, n1, h3⟩, hp, g0, g2, g3 => ⟨nm, a, q, e0, e1, e2, h1, h2, n0, n1, h3.last hp g0 g2 g3⟩
theorem Stand.same : ∀ {ys zs : List S29} {f g : S29} {lo hi : Nat}, Stand m lo (ys ++ f :: zs) hi → g.f0 = f.f0 → g.f2 = f.f2 → g.f3 = f.f3 → Stand m lo (ys ++ g :: zs) hi
  | [], _, _, _, _, _, ⟨nm, a, q, e0, e1, e2, h1, h2, n0, n1, h3⟩, g0, g2, g3 => ⟨nm, a, q, g0.trans e0, g2.trans e1, g3.trans e2, h1, h2, n0, n1, h3⟩
  | _ :: _, _, _, _, _, _, ⟨nm, a, q, e0, e1, e2, h1, h2, n0, n1, h3⟩, g0, g2, g3 => ⟨nm, a, q, e0, e1, e2, h1, h2, n0, n1, Stand.same h3 g0 g2 g3⟩
end
theorem vals_at (m : List UInt8) (hm : m.length ≤ 1000000) (n : Nat) (hn : n ≤ m.length) : ∀ (zs ys : List S29), Stand m 0 (ys ++ zs) n → (ys ++ zs).length ≤ 500 → (∀ f ∈ ys, Told m f) →
    ∃ r, Ev (fun k => head_Fields.l1 k (Nm m) (ys ++ zs) ((ys ++ zs).length : Int) (ys.length : Int)) r ∧ Stand m 0 r n ∧ r.length ≤ 500 ∧ ∀ f ∈ r, Told m f := by
  intro zs
  induction zs with
  | nil =>
    intro ys h hl ht
    rw [List.append_nil] at h hl ⊢
    exact ⟨ys, vals_end rfl, h, hl, ht⟩
  | cons f zs ih =>
    intro ys h hl ht
    obtain ⟨nm, a, q, e0, e1, e2, _, h2, h3, _⟩ := h.mid
    obtain ⟨nm0, v, f2, f3⟩ := f
    simp only at e0 e1 e2
    subst e0 e1 e2
    have h' := Stand.same (g := (⟨⟨nm.toArray⟩, ⟨(valL ((m.take q).drop (a + nm.length + 1))).toArray⟩, (a : Int), (q : Int)⟩ : S29)) h rfl rfl rfl
    obtain ⟨r, hr, hr2, hr3, hr4⟩ := ih (ys ++ [(⟨⟨nm.toArray⟩, ⟨(valL ((m.take q).drop (a + nm.length + 1))).toArray⟩, (a : Int), (q : Int)⟩ : S29)]) (by rw [List.append_assoc]; exact h') (by simp at hl ⊢; omega) (fun f hf => by
      rcases List.mem_append.1 hf with hf | hf
      · exact ht f hf
      · rw [List.mem_singleton.1 hf]
        exact ⟨a, q, nm.length, rfl, rfl, sizeN nm, rfl⟩)
    have hyl : (ys ++ [(⟨⟨nm.toArray⟩, ⟨(valL ((m.take q).drop (a + nm.length + 1))).toArray⟩, (a : Int), (q : Int)⟩ : S29)]).length = ys.length + 1 := by simp
    rw [hyl] at hr
    exact ⟨r, vals_go hm h2 (by omega) (by have h9 := hl; simp only [List.length_append, List.length_cons] at h9 ⊢; omega) hr, hr2, hr3, hr4⟩
theorem fields_at (m : List UInt8) (hm : m.length ≤ 1000000) (n : Nat) (hn : n ≤ m.length) (LL : List (List Int)) (hL : LL.length ≤ 1000000) : ∀ (r pre : List (List Int)), LL = pre ++ r → ∀ (tl : List Int), Nm m = pre.flatten ++ r.flatten ++ tl → (∀ c ∈ r, ∀ x ∈ c, Byte x) →
    ∀ (fs : List S29) (op : Bool) (p : Nat), p = pre.flatten.length → Stand m 0 fs p → fs.length ≤ 500 → (op = true → fs ≠ []) → p + r.flatten.length ≤ n →
    ∃ fs', Ev (fun k => head_Fields.l0 k (Nm m) fs op (p : Int) LL (LL.length : Int) (pre.length : Int)) fs' ∧ Stand m 0 fs' n ∧ fs'.length ≤ 500 ∧ ∀ f ∈ fs', Told m f := by
  intro r
  induction r with
  | nil =>
    intro pre h tl htl _ fs op p hpp hc hl _ hp
    have hll : LL.length = pre.length := by rw [h]; simp
    obtain ⟨r, h1, h2, h3, h4⟩ := vals_at m hm n hn fs [] (hc.up (by simpa using hp)) hl (by simp)
    exact ⟨r, fields_end hll.symm h1, h2, h3, h4⟩
  | cons c r ih =>
    intro pre h tl htl hby fs op p hpp hc hl ho hp
    have hll : LL.length = pre.length + (r.length + 1) := by rw [h]; simp
    have hrd : rd_L1 LL (pre.length : Int) = c := by rw [h]; exact rd_L1_of
    rw [List.flatten_cons, List.length_append] at hp
    obtain ⟨s, hs⟩ := byte_Nm (hby c (by simp))
    have hsl : s.length = c.length := by rw [← hs, Nm_len]
    have hs1 : s.length ≤ 1000000 := by rw [hsl]; exact Nat.le_trans (Nat.le_trans (Nat.le_add_right _ _) (Nat.le_add_left _ p)) (Nat.le_trans hp (Nat.le_trans hn hm))
    have hstr : strOfNums c = ⟨s.toArray⟩ := by rw [← hs, strN]
    have hrest := fun fs op hc hl ho => ih (pre ++ [c]) (by rw [h]; simp) tl (by rw [htl]; simp) (fun d hd => hby d (by simp [hd])) fs op (p + c.length) (by rw [hpp]; simp) hc hl ho (by omega)
    rw [List.length_append, List.length_singleton] at hrest
    have hw : wrap64 ((p : Int) + ((⟨s.toArray⟩ : ByteArray).size : Int)) = ((p + c.length : Nat) : Int) := by rw [sizeN, wrap_id (by omega) (by omega)]; omega
    have hup : Stand m 0 fs (p + c.length) := hc.up (by omega)
    -- a line that belongs to the field ahead
    have cont : ∃ fs', Ev (fun k => head_Fields.j1 k (Nm m) fs op ((p + c.length : Nat) : Int) ⟨s.toArray⟩ (p : Int) LL (LL.length : Int) (pre.length : Int) true) fs' ∧ Stand m 0 fs' n ∧ fs'.length ≤ 500 ∧ ∀ f ∈ fs', Told m f := by
      cases op with
      | false =>
        obtain ⟨r', h1, h2, h3, h4⟩ := hrest fs false hup hl (fun h => by cases h)
        exact ⟨r', Ev.step (fun k => by rw [head_Fields.j1, if_pos rfl, if_neg (by decide), wrap_nat (by omega)]) h1, h2, h3, h4⟩
      | true =>
        rcases List.eq_nil_or_concat fs with rfl | ⟨ys, f, rfl⟩
        · exact absurd rfl (ho rfl)
        · rw [List.concat_eq_append] at *
          have hyl : (ys ++ [f]).length = ys.length + 1 := by simp
          have hw2 : wrap64 (((ys ++ [f]).length : Int) - 1) = (ys.length : Int) := by rw [hyl, wrap_id (by omega) (by omega)]; omega
          have hrdf : rd_T29 (ys ++ [f]) (ys.length : Int) = f := by simp [rd_T29, List.getD_eq_getElem?_getD]
          have hset : ∀ g : S29, (ys ++ [f]).set ys.length g = ys ++ [g] := fun g => by
            rw [List.set_append_right _ _ (by omega), Nat.sub_self]
            rfl
          obtain ⟨r', h1, h2, h3, h4⟩ := hrest (ys ++ [⟨f.f0, f.f1, f.f2, ((p + c.length : Nat) : Int)⟩]) true (hc.last (by omega) rfl rfl rfl) (by simp at hl ⊢; omega) (fun _ => by simp)
          refine ⟨r', Ev.step (fun k => ?_) h1, h2, h3, h4⟩
          rw [head_Fields.j1, if_pos rfl, if_pos rfl, hw2, if_pos (by omega), if_pos (by omega), hrdf, Int.toNat_natCast, hset, wrap_nat (by omega)]
    -- a line that may begin a field
    have first : ∃ fs', Ev (fun k => head_Fields.j1 k (Nm m) fs op ((p + c.length : Nat) : Int) ⟨s.toArray⟩ (p : Int) LL (LL.length : Int) (pre.length : Int) false) fs' ∧ Stand m 0 fs' n ∧ fs'.length ≤ 500 ∧ ∀ f ∈ fs', Told m f := by
      obtain ⟨nm, ok, hnm, hok⟩ := name_at s hs1
      cases ok with
      | false =>
        obtain ⟨r', h1, h2, h3, h4⟩ := hrest fs false hup hl (fun h => by cases h)
        refine ⟨r', Ev.step (fun k => by rw [head_Fields.j1, if_neg (by decide)]) (Ev.bind hnm ?_), h2, h3, h4⟩
        exact Ev.congr (fun k => by rw [if_neg Bool.false_ne_true, wrap_nat (by omega)]) h1
      | true =>
        obtain ⟨hn0, hnl, hn1⟩ := hok rfl
        have hat : (m.drop p).take (nm.length + 1) = nm ++ [58] := by
          have hpre : p = (pre.flatten).length := hpp
          have hm2 : (Nm m).drop p = Nm s ++ (r.flatten ++ tl) := by
            rw [htl, List.append_assoc, hpp, List.drop_left, List.flatten_cons, List.append_assoc, hs]
          have hm3 : m.drop p = s ++ (m.drop p).drop s.length := by
            have h7 : Nm ((m.drop p).take s.length) = Nm s := by
              have : Nm ((m.drop p).take s.length) = ((Nm m).drop p).take (Nm s).length := by simp [Nm, List.map_take, List.map_drop]
              rw [this, hm2, List.take_left]
            have h9 := (List.take_append_drop s.length (m.drop p)).symm
            rwa [Nm_inj h7] at h9
          rw [hm3, List.take_append_of_le_length hnl, hn1]
        by_cases h5 : (fs.length : Int) < 500
        · obtain ⟨r', h1, h2, h3, h4⟩ := hrest (fs ++ [⟨⟨nm.toArray⟩, ⟨#[]⟩, (p : Int), ((p + c.length : Nat) : Int)⟩]) true (hc.add (nm := nm) rfl rfl rfl (by omega) hn0 hat) (by simp; omega) (fun _ => by simp)
          refine ⟨r', Ev.step (fun k => by rw [head_Fields.j1, if_neg (by decide)]) (Ev.bind hnm ?_), h2, h3, h4⟩
          exact Ev.congr (fun k => by rw [if_pos rfl, if_pos h5, if_pos (by omega), decide_eq_true h5, wrap_nat (by omega)]) h1
        · obtain ⟨r', h1, h2, h3, h4⟩ := hrest fs false hup hl (fun h => by cases h)
          refine ⟨r', Ev.step (fun k => by rw [head_Fields.j1, if_neg (by decide)]) (Ev.bind hnm ?_), h2, h3, h4⟩
          exact Ev.congr (fun k => by rw [if_pos rfl, if_neg h5, decide_eq_false h5, wrap_nat (by omega)]) h1
    have e1 : ∀ k, head_Fields.l0 (k + 1) (Nm m) fs op (p : Int) LL (LL.length : Int) (pre.length : Int) = (strings_HasPrefix.f ⟨s.toArray⟩ (⟨#[32]⟩ : ByteArray)).bind fun t => (if t = true then (head_Fields.j1 k (Nm m) fs op ((p + c.length : Nat) : Int) ⟨s.toArray⟩ (p : Int) LL (LL.length : Int) (pre.length : Int) true) else ((strings_HasPrefix.f ⟨s.toArray⟩ (⟨#[9]⟩ : ByteArray)).bind fun t => (head_Fields.j1 k (Nm m) fs op ((p + c.length : Nat) : Int) ⟨s.toArray⟩ (p : Int) LL (LL.length : Int) (pre.length : Int) t))) := by
      intro k
      rw [head_Fields.l0, if_pos (by omega), if_pos (by omega), if_pos (by omega), hrd, hstr, hw]
    have hp1 := hasPrefix_eq ⟨s.toArray⟩ ⟨#[32]⟩
    have hp2 := hasPrefix_eq ⟨s.toArray⟩ ⟨#[9]⟩
    generalize decide ((bytesOf (⟨s.toArray⟩ : ByteArray)).take (⟨#[32]⟩ : ByteArray).size = bytesOf ⟨#[32]⟩) = b1 at hp1
    generalize decide ((bytesOf (⟨s.toArray⟩ : ByteArray)).take (⟨#[9]⟩ : ByteArray).size = bytesOf ⟨#[9]⟩) = b2 at hp2
    cases b1 with
    | true =>
      obtain ⟨r', h1, h2, h3, h4⟩ := cont
      exact ⟨r', Ev.step (fun k => by rw [e1, hp1, Option.bind_some, if_pos rfl]) h1, h2, h3, h4⟩
    | false =>
      cases b2 with
      | true =>
        obtain ⟨r', h1, h2, h3, h4⟩ := cont
        exact ⟨r', Ev.step (fun k => by rw [e1, hp1, Option.bind_some, if_neg (by decide), hp2, Option.bind_some]) h1, h2, h3, h4⟩
      | false =>
        obtain ⟨r', h1, h2, h3, h4⟩ := first
        exact ⟨r', Ev.step (fun k => by rw [e1, hp1, Option.bind_some, if_neg (by decide), hp2, Option.bind_some]) h1, h2, h3, h4⟩
/-- The fields, and what stands there. -/
theorem Fields_at (m : List UInt8) (hm : m.length ≤ 100000) : ∃ (n : Nat) (fs : List S29), n ≤ m.length ∧ Ev (fun k => head_Fields.f k (Nm m)) fs ∧ Stand m 0 fs n ∧ fs.length ≤ 500 ∧ ∀ f ∈ fs, Told m f := by
  obtain ⟨n, n1, n2⟩ := Split_any m hm
  have ht : (Nm m).take n = Nm (m.take n) := by simp [Nm, List.map_take]
  obtain ⟨h1, h2⟩ := lines_bytes (Nm_byte (m.take n))
  have h3 := linesL_length (Nm (m.take n))
  have hf := (linesA_ok (Nm (m.take n)).length (Nm (m.take n)) [] (Nat.le_refl _)).2
  rw [List.nil_append] at hf
  rw [Nm_len, List.length_take] at h2 h3
  obtain ⟨fs, f1, f2, f3, f4⟩ := fields_at m (by omega) n n1 (linesL (Nm (m.take n))) (by omega) (linesL (Nm (m.take n))) [] rfl ((Nm m).drop n) (by
    rw [List.flatten_nil, List.nil_append, show (linesL (Nm (m.take n))).flatten = Nm (m.take n) from hf, ← ht, List.take_append_drop]) h1 [] false 0 rfl (Nat.le_refl 0) (by simp) (fun h => by cases h) (by omega)
  refine ⟨n, fs, n1, ?_, f2, f3, f4⟩
  refine Ev.congr (fun k => by unfold head_Fields.f; rfl) (Ev.bind n2 ?_)
  refine Ev.congr (fun k => by rw [if_pos (by omega), if_pos (by rw [Nm_len]; omega), Int.toNat_natCast, ht]) (Ev.bind (lines_ev _ (Nm_byte _) (by rw [Nm_len, List.length_take]; omega)) ?_)
  exact f1
end Go.Proofs.Mine
