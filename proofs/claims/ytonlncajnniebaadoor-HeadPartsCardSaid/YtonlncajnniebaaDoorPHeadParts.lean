/- HeadParts, as a plain law: picked fields and the others are all; each stands where it says. -/
import Derived.Test.YtonlncajnniebaaDoorPHeadAt
import Derived.Test.YtonlncajnniebaaDoorPRefLines
import Derived.Test.YtonlncajnniebaaDoorPAwake11
import Derived.Test.YtonlncajnniebaaDoorX3
import Derived.Test.YtonlncajnniebaaDoorX2
import Derived.Test.YtonlncajnniebaaDoorX5
namespace Go.Proofs.Mine
open Go.RowKit Go.Proofs.YtonlncajnniebaaDoorW.PrintWords Go.Proofs.YtonlncajnniebaaDoorW.PrintLast Go.Proofs.YtonlncajnniebaaDoor.X
set_option linter.unusedSimpArgs false

theorem same_any (a b : ByteArray) (ha : a.size ≤ 140737488351232) (hb : b.size ≤ 140737488351232) : ∃ r, octet_Same.f a b = some r := by
  unfold octet_Same.f octet_Fold.f
  rw [if_pos (by omega), if_pos (by omega)]
  exact ⟨_, rfl⟩
theorem has_any (nm : ByteArray) (hn : nm.size ≤ 140737488351232) : ∀ (l : List ByteArray), (∀ s ∈ l, s.size ≤ 140737488351232) → ∃ r, slices_ContainsFunc_string_string.f l nm = some r
  | [], _ => ⟨false, rfl⟩
  | s :: l, h => by
    obtain ⟨q, hq⟩ := same_any s nm (h s (by simp)) hn
    obtain ⟨r, hr⟩ := has_any nm hn l (fun x hx => h x (by simp [hx]))
    show ∃ r, slices_ContainsFunc_string_string.g nm (s :: l) = some r
    rw [slices_ContainsFunc_string_string.g, hq, Option.bind_some]
    cases q with
    | true => exact ⟨true, if_pos rfl⟩
    | false => exact ⟨r, by rw [if_neg (by decide)]; exact hr⟩
/-- What is picked. -/
def pickL (b : List Int) (cf : S29 → Bool) (no : Bool) (fs : List S29) : List Int := fs.flatMap fun f => if (cf f != no) = true then (b.take f.f3.toNat).drop f.f2.toNat else []
/-- How many bytes the fields take. -/
def span : List S29 → Nat
  | [] => 0
  | f :: r => f.f3.toNat - f.f2.toNat + span r
theorem pick_len (m : List UInt8) (cf : S29 → Bool) : ∀ (fs : List S29) (lo hi : Nat), Stand m lo fs hi → hi ≤ m.length → (pickL (Nm m) cf false fs).length + (pickL (Nm m) cf true fs).length = span fs ∧ lo + span fs ≤ hi
  | [], lo, hi, h, _ => by
    have h' : lo ≤ hi := h
    simpa [pickL, span] using h'
  | f :: r, lo, hi, ⟨nm, a, q, e0, e1, e2, h1, h2, _, _, h3⟩, hh => by
    obtain ⟨ih, ih2⟩ := pick_len m cf r q hi h3 hh
    have hq := h3.le
    unfold pickL at ih ⊢
    rw [List.flatMap_cons, List.flatMap_cons, List.length_append, List.length_append, span]
    have a1 : f.f3.toNat = q := by rw [e2, Int.toNat_natCast]
    have a2 : f.f2.toNat = a := by rw [e1, Int.toNat_natCast]
    rw [a1, a2]
    have hl : (((Nm m).take q).drop a).length = q - a := by
      rw [List.length_drop, List.length_take, Nm_len]
      omega
    cases cf f with
    | true =>
      rw [if_pos (by decide), if_neg (by decide), hl, List.length_nil]
      omega
    | false =>
      rw [if_neg (by decide), if_pos (by decide), hl, List.length_nil]
      omega
theorem pick_loop (b : List Int) (hb : b.length ≤ 100000) (names : List ByteArray) (no : Bool) (cf : S29 → Bool) (fs : List S29) (hf : fs.length ≤ 500) :
    ∀ (r pre : List S29) (lo : Nat), fs = pre ++ r → Chain lo r b.length → (∀ f ∈ r, slices_ContainsFunc_string_string.f names f.f0 = some (cf f)) → (pickL b cf no pre).length ≤ lo →
    Ev (fun k => head_Pick.l0 k b names no (pickL b cf no pre) fs (fs.length : Int) (pre.length : Int)) (pickL b cf no fs ++ [13, 10]) := by
  intro r
  induction r with
  | nil =>
    intro pre lo h hc _ hp
    have hl : fs.length = pre.length := by rw [h]; simp
    have hle : lo ≤ b.length := hc
    rw [List.append_nil] at h
    refine Ev.after fun k => ?_
    rw [head_Pick.l0, if_neg (by omega), ← h]
    unfold bytes_Clone.f
    rw [if_pos (by rw [h]; omega), Option.bind_some, if_pos (by rw [h]; omega)]
    rw [show bytesOf (⟨#[13, 10]⟩ : ByteArray) = [13, 10] from by decide +kernel]
  | cons f r ih =>
    intro pre lo h hc hq hp
    have hl : fs.length = pre.length + (r.length + 1) := by rw [h]; simp
    have hle := hc.le
    obtain ⟨a, q, e1, e2, h1, h2, h3⟩ := hc
    have hle2 := h3.le
    have hrd : rd_T29 fs (pre.length : Int) = f := by rw [h]; simp [rd_T29, List.getD_eq_getElem?_getD]
    have hpa : pickL b cf no (pre ++ [f]) = pickL b cf no pre ++ (if (cf f != no) = true then (b.take f.f3.toNat).drop f.f2.toNat else []) := by
      unfold pickL
      rw [List.flatMap_append, List.flatMap_cons, List.flatMap_nil, List.append_nil]
    have hsl : ((b.take f.f3.toNat).drop f.f2.toNat).length ≤ q - a := by
      rw [e1, e2, List.length_drop, List.length_take, Int.toNat_natCast, Int.toNat_natCast]
      omega
    have ih' := ih (pre ++ [f]) q (by rw [h]; simp) h3 (fun g hg => hq g (by simp [hg])) (by
      rw [hpa, List.length_append]
      split
      · omega
      · simp; omega)
    rw [List.length_append, List.length_singleton, hpa] at ih'
    refine Ev.step (fun k => ?_) ih'
    rw [head_Pick.l0, if_pos (by omega), if_pos (by omega), if_pos (by omega), hrd, hq f (by simp), Option.bind_some, wrap_nat (by omega)]
    by_cases hcf : (cf f != no) = true
    · rw [if_pos hcf, if_pos hcf, if_pos (by omega), if_pos (by omega), if_pos (by omega), if_pos (by omega)]
    · rw [if_neg hcf, if_neg hcf, List.append_nil]
theorem wadd (a b : Nat) (h : a + b ≤ 1000000000) : wrap64 ((a : Int) + (b : Int)) = ((a + b : Nat) : Int) := by
  rw [wrap_id (by omega) (by omega)]
  omega
theorem wsub (a b : Nat) (h : b ≤ a) (h2 : a ≤ 1000000000) : wrap64 ((a : Int) - (b : Int)) = ((a - b : Nat) : Int) := by
  rw [wrap_id (by omega) (by omega)]
  omega
/-- Each field stands where it says. -/
theorem parts_loop (m : List UInt8) (hm : m.length ≤ 1500) (n : Nat) (hn : n ≤ m.length) (fs : List S29) (hf : fs.length ≤ 500) (a c : List Int) (ha : a.length + c.length ≤ 100000) :
    ∀ (r pre : List S29) (lo acc : Nat), fs = pre ++ r → Stand m lo r n → (∀ f ∈ r, Told m f) → a.length + c.length = acc + span r →
    Ev (fun k => frankinglaw11_HeadParts.l0 k (Nm m) fs a c (acc : Int) (lo : Int) (pre.length : Int)) true := by
  intro r
  induction r with
  | nil =>
    intro pre lo acc h hs _ hac
    have hl : fs.length = pre.length := by rw [h]; simp
    have hac' : a.length + c.length = acc := hac
    refine Ev.step (fun k => by rw [frankinglaw11_HeadParts.l0, if_neg (by omega), wrap_id (by omega) (by omega), if_pos (by omega)]) ?_
    refine Ev.bind (rlines_ev (Nm m) (by rw [Nm_len]; omega)) ?_
    exact Ev.after fun k => by rw [decide_eq_true (by omega)]
  | cons f r ih =>
    intro pre lo acc h hs ht hac
    have hl : fs.length = pre.length + (r.length + 1) := by rw [h]; simp
    obtain ⟨nm, p, q, e0, e1, e2, h1, h2, n0, n1, h3⟩ := hs
    obtain ⟨p', q', n', t1, t2, t3, t4⟩ := ht f (by simp)
    have hq := h3.le
    obtain ⟨f0, f1, f2, f3⟩ := f
    simp only at e0 e1 e2 t1 t2 t3 t4
    subst e0 e1 e2 t4
    rw [sizeN] at t3
    have hp' : p' = p := by omega
    have hq' : q' = q := by omega
    subst hp' hq' t3
    have hrd : rd_T29 fs (pre.length : Int) = (⟨⟨nm.toArray⟩, ⟨(valL ((m.take q').drop (p' + nm.length + 1))).toArray⟩, (p' : Int), (q' : Int)⟩ : S29) := by rw [h]; simp [rd_T29, List.getD_eq_getElem?_getD]
    have hnl : 1 ≤ nm.length := by cases nm with | nil => exact absurd rfl n0 | cons _ _ => simp
    rw [span, Int.toNat_natCast, Int.toNat_natCast] at hac
    have ih' := ih (pre ++ [(⟨⟨nm.toArray⟩, ⟨(valL ((m.take q').drop (p' + nm.length + 1))).toArray⟩, (p' : Int), (q' : Int)⟩ : S29)]) q' (acc + (q' - p')) (by rw [h]; simp) h3 (fun g hg => ht g (by simp [hg])) (by omega)
    rw [List.length_append, List.length_singleton] at ih'
    have hacc : acc ≤ 100000 := by omega
    have hpq : p' + nm.length + 1 ≤ 1500 := by omega
    have hqq : q' ≤ 1500 := by omega
    have e34 : acc + q' - p' = acc + (q' - p') := by omega
    have s1 : ((Nm m).take (p' + nm.length + 1)).drop p' = Nm (nm ++ [58]) := by
      rw [← n1, show ((m.drop p').take (nm.length + 1)) = (m.take (p' + nm.length + 1)).drop p' by rw [List.drop_take]; congr 1; omega]
      simp [Nm, List.map_drop, List.map_take]
    have s2 : ((Nm m).take q').drop (p' + nm.length + 1) = Nm ((m.take q').drop (p' + nm.length + 1)) := by simp [Nm, List.map_drop, List.map_take]
    have hv := value_eq ((m.take q').drop (p' + nm.length + 1)) (by rw [List.length_drop, List.length_take]; omega)
    have e58 : ((⟨nm.toArray⟩ : ByteArray) ++ (⟨#[58]⟩ : ByteArray)) = ⟨(nm ++ [58]).toArray⟩ := bytesOf_inj (by rw [bytesOf_append, bytesOf_Nm, bytesOf_Nm, bytesOf_Nm, Nm_app])
    have hj2 : Ev (fun k => frankinglaw11_HeadParts.j2 k (Nm m) fs a c (acc : Int) (pre.length : Int) false ⟨nm.toArray⟩ ⟨(valL ((m.take q').drop (p' + nm.length + 1))).toArray⟩ (p' : Int) (q' : Int)) true := by
      refine Ev.step (fun k => ?_) ih'
      rw [frankinglaw11_HeadParts.j2, if_neg (by decide), if_pos (by omega), sizeN, wadd p' nm.length (by omega), wrap_nat (by omega), if_pos (by omega), if_pos (by rw [Nm_len]; omega), if_pos (by omega), Int.toNat_natCast, Int.toNat_natCast, s1, strN, e58, if_pos rfl, if_pos (by omega), if_pos (by omega), if_pos (by rw [Nm_len]; omega), Int.toNat_natCast, s2, strN, hv, Option.bind_some, if_pos rfl, wadd acc q' (by omega), wsub (acc + q') p' (by omega) (by omega), e34, wrap_nat (by omega)]
    refine Ev.step (fun k => ?_) hj2
    rw [frankinglaw11_HeadParts.l0, if_pos (by omega), if_pos (by omega), hrd]
    dsimp only
    rw [if_neg (by omega), if_neg (by omega), if_neg (by rw [Nm_len]; omega), sizeN, if_neg (by omega), wadd p' nm.length (by omega), Nm_len, decide_eq_false (by omega)]
end Go.Proofs.Mine
namespace Go.Proofs.YtonlncajnniebaaDoor.Pure
open Go.RowKit Go.Proofs.Mine Go.Proofs.YtonlncajnniebaaDoorW.PrintWords Go.Proofs.YtonlncajnniebaaDoorW.PrintLast Go.Proofs.YtonlncajnniebaaDoor.X
theorem HeadParts (l0 : List Int) (l1 : List ByteArray) (W0 : l0.length ≤ maxLen ∧ ∀ y_ ∈ l0, (Lit.int .u8 y_).wf = true) (W1 : l1.length ≤ maxLen ∧ ∀ y_ ∈ l1, y_.size ≤ 140737488351232) : ∃ k, frankinglaw11_HeadParts.f k l0 l1 = some true := by
  have hb : ∀ c ∈ l0, Byte c := fun c hc => by
    have := W0.2 c hc
    simp [Lit.wf, IntKind.min, IntKind.max, IntKind.signed, IntKind.bits] at this
    exact this
  obtain ⟨m, rfl⟩ := byte_Nm hb
  refine Ev.rounds (g := fun k => frankinglaw11_HeadParts.f k (Nm m) l1) ?_
  have skip : Ev (fun k => frankinglaw11_HeadParts.j0 k (Nm m) l1 true) true := Ev.after fun k => by rw [frankinglaw11_HeadParts.j0, if_pos rfl]
  refine Ev.congr (fun k => by unfold frankinglaw11_HeadParts.f; rfl) (Ev.bind awake_ev ?_)
  refine Ev.congr (fun k => if_pos rfl) ?_
  by_cases h0 : ((Nm m).length : Int) > 1500
  · exact Ev.congr (fun k => if_pos h0) skip
  refine Ev.congr (fun k => if_neg h0) ?_
  by_cases h1 : (l1.length : Int) > 10
  · exact Ev.congr (fun k => by rw [decide_eq_true h1]) skip
  rw [Nm_len] at h0
  obtain ⟨n, fs, n1, f1, f2, f3, f4⟩ := Fields_at m (by omega)
  let cf : S29 → Bool := fun f => (slices_ContainsFunc_string_string.f l1 f.f0).getD false
  have hcf : ∀ f ∈ fs, slices_ContainsFunc_string_string.f l1 f.f0 = some (cf f) := by
    intro f hf
    obtain ⟨p, r, rfl⟩ := List.append_of_mem hf
    obtain ⟨nm, a, q, e0, _, _, h1, h2, h3, _⟩ := f2.mid
    obtain ⟨r, hr⟩ := has_any f.f0 (by rw [e0, sizeN]; omega) l1 W1.2
    show _ = some ((slices_ContainsFunc_string_string.f l1 f.f0).getD false)
    rw [hr]; rfl
  have hup : Chain 0 fs (Nm m).length := f2.chain.up (by rw [Nm_len]; exact n1)
  have hp := fun no => pick_loop (Nm m) (by rw [Nm_len]; omega) l1 no cf fs f3 fs [] 0 rfl hup hcf (by simp [pickL])
  have hpk := fun no => Ev.congr (f := fun k => head_Pick.f k (Nm m) l1 no) (fun k => by unfold head_Pick.f; rfl) (Ev.bind f1 (hp no))
  obtain ⟨hl, hl2⟩ := pick_len m cf fs 0 n f2 n1
  refine Ev.congr (fun k => by rw [decide_eq_false h1]) ?_
  refine Ev.step (fun k => by rw [frankinglaw11_HeadParts.j0, if_neg (by decide)]) ?_
  refine Ev.bind f1 (Ev.bind (hpk false) (Ev.bind (hpk true) ?_))
  refine parts_loop m (by omega) n n1 fs f3 _ _ ?_ fs [] 0 4 rfl f2 f4 ?_
  · simp only [List.length_append, List.length_cons, List.length_nil]; omega
  · simp only [List.length_append, List.length_cons, List.length_nil]; omega
end Go.Proofs.YtonlncajnniebaaDoor.Pure
