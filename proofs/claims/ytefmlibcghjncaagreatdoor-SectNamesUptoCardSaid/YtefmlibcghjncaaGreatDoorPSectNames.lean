/- SectNames, as a plain law: picked fields and the others are all fields, and two empty lines. -/
import Derived.Test.YtefmlibcghjncaaGreatDoorPHeadAny
import Derived.Test.YtefmlibcghjncaaGreatDoorPOctet1
import Derived.Test.YtefmlibcghjncaaGreatDoorX3
import Derived.Test.YtefmlibcghjncaaGreatDoorX4
import Derived.Test.YtefmlibcghjncaaGreatDoorX1
import Derived.Test.YtefmlibcghjncaaGreatDoorX5
namespace Go.Proofs.Mine
open Go.RowKit Go.Proofs.YtefmlibcghjncaaGreatDoorW.PrintWords Go.Proofs.YtefmlibcghjncaaGreatDoorW.PrintLast Go.Proofs.YtefmlibcghjncaaGreatDoor.X
set_option linter.unusedSimpArgs false

theorem same_any (a b : ByteArray) (ha : a.size ≤ 536870912) (hb : b.size ≤ 536870912) : ∃ r, octet_Same.f a b = some r := by
  unfold octet_Same.f octet_Fold.f
  rw [if_pos (by omega), if_pos (by omega)]
  exact ⟨_, rfl⟩
theorem has_any (nm : ByteArray) (hn : nm.size ≤ 536870912) : ∀ (l : List ByteArray), (∀ s ∈ l, s.size ≤ 536870912) → ∃ r, slices_ContainsFunc_string_string.f l nm = some r
  | [], _ => ⟨false, rfl⟩
  | s :: l, h => by
    obtain ⟨q, hq⟩ := same_any s nm (h s (by simp)) hn
    obtain ⟨r, hr⟩ := has_any nm hn l (fun x hx => h x (by simp [hx]))
    show ∃ r, slices_ContainsFunc_string_string.g nm (s :: l) = some r
    rw [slices_ContainsFunc_string_string.g, hq, Option.bind_some]
    cases q with
    | true => exact ⟨true, if_pos rfl⟩
    | false => exact ⟨r, by rw [if_neg (by decide)]; exact hr⟩
/-- What is picked. -/
def pickL (b : List Int) (cf : S100 → Bool) (no : Bool) (fs : List S100) : List Int := fs.flatMap fun f => if (cf f != no) = true then (b.take f.f3.toNat).drop f.f2.toNat else []
theorem pick_len (b : List Int) (cf : S100 → Bool) : ∀ (fs : List S100) (lo hi : Nat), Chain lo fs hi → (pickL b cf false fs).length + (pickL b cf true fs).length + lo ≤ hi
  | [], lo, hi, h => by
    have h' : lo ≤ hi := h
    simpa [pickL] using h'
  | f :: r, lo, hi, ⟨a, q, e1, e2, h1, h2, h3⟩ => by
    have ih := pick_len b cf r q hi h3
    unfold pickL at ih ⊢
    rw [List.flatMap_cons, List.flatMap_cons, List.length_append, List.length_append]
    have hl : ((b.take f.f3.toNat).drop f.f2.toNat).length ≤ q - a := by
      rw [e1, e2, List.length_drop, List.length_take, Int.toNat_natCast, Int.toNat_natCast]
      omega
    cases cf f <;> simp at ih ⊢ <;> simp at hl <;> omega
theorem pick_loop (b : List Int) (hb : b.length ≤ 100000) (names : List ByteArray) (no : Bool) (cf : S100 → Bool) (fs : List S100) (hf : fs.length ≤ 500) :
    ∀ (r pre : List S100) (lo : Nat), fs = pre ++ r → Chain lo r b.length → (∀ f ∈ r, slices_ContainsFunc_string_string.f names f.f0 = some (cf f)) → (pickL b cf no pre).length ≤ lo →
    Ev (fun k => head_Pick.l0 k b names no (pickL b cf no pre) fs (fs.length : Int) (pre.length : Int)) (pickL b cf no fs ++ [13, 10]) := by
  intro r
  induction r with
  | nil =>
    intro pre lo h hc _ hp
    have hl : fs.length = pre.length := by rw [h]; simp
    have hle : lo ≤ b.length := hc
    rw [List.append_nil] at h
    refine Ev.after fun k => ?_
    rw [head_Pick.l0, if_neg (by omega), ← h]
    unfold bytes_Clone.f
    rw [if_pos (by rw [h]; omega), Option.bind_some, if_pos (by rw [h]; omega)]
    rw [show bytesOf (⟨#[13, 10]⟩ : ByteArray) = [13, 10] from by decide +kernel]
  | cons f r ih =>
    intro pre lo h hc hq hp
    have hl : fs.length = pre.length + (r.length + 1) := by rw [h]; simp
    have hle := hc.le
    obtain ⟨a, q, e1, e2, h1, h2, h3⟩ := hc
    have hle2 := h3.le
    have hrd : rd_T100 fs (pre.length : Int) = f := by rw [h]; simp [rd_T100, List.getD_eq_getElem?_getD]
    have hpa : pickL b cf no (pre ++ [f]) = pickL b cf no pre ++ (if (cf f != no) = true then (b.take f.f3.toNat).drop f.f2.toNat else []) := by
      unfold pickL
      rw [List.flatMap_append, List.flatMap_cons, List.flatMap_nil, List.append_nil]
    have hsl : ((b.take f.f3.toNat).drop f.f2.toNat).length ≤ q - a := by
      rw [e1, e2, List.length_drop, List.length_take, Int.toNat_natCast, Int.toNat_natCast]
      omega
    have ih' := ih (pre ++ [f]) q (by rw [h]; simp) h3 (fun g hg => hq g (by simp [hg])) (by
      rw [hpa, List.length_append]
      split
      · omega
      · simp; omega)
    rw [List.length_append, List.length_singleton, hpa] at ih'
    refine Ev.step (fun k => ?_) ih'
    rw [head_Pick.l0, if_pos (by omega), if_pos (by omega), if_pos (by omega), hrd, hq f (by simp), Option.bind_some, wrap_nat (by omega)]
    by_cases hcf : (cf f != no) = true
    · rw [if_pos hcf, if_pos hcf, if_pos (by omega), if_pos (by omega), if_pos (by omega), if_pos (by omega)]
    · rw [if_neg hcf, if_neg hcf, List.append_nil]
/-- Both picks, and the head. -/
theorem picks_any (m : List UInt8) (hm : m.length ≤ 1500) (names : List ByteArray) (hz : ∀ s ∈ names, s.size ≤ 536870912) :
    ∃ (n : Nat) (x y : List Int), n ≤ m.length ∧ Ev (fun k => head_Split.f k (Nm m)) ((n : Int), (n : Int)) ∧ Ev (fun k => head_Pick.f k (Nm m) names false) (x ++ [13, 10]) ∧ Ev (fun k => head_Pick.f k (Nm m) names true) (y ++ [13, 10]) ∧ x.length + y.length ≤ n := by
  obtain ⟨n, fs, n1, n2, n3, n4, n5⟩ := Fields_any m (by omega)
  have hsz : ∀ f ∈ fs, f.f0.size ≤ 536870912 := by
    intro f hf
    obtain ⟨p, r, rfl⟩ := List.append_of_mem hf
    obtain ⟨a, q, _, _, h1, h2, h3⟩ := n4.mid
    omega
  let cf : S100 → Bool := fun f => (slices_ContainsFunc_string_string.f names f.f0).getD false
  have hcf : ∀ f ∈ fs, slices_ContainsFunc_string_string.f names f.f0 = some (cf f) := by
    intro f hf
    obtain ⟨r, hr⟩ := has_any f.f0 (hsz f hf) names hz
    show _ = some ((slices_ContainsFunc_string_string.f names f.f0).getD false)
    rw [hr]; rfl
  have hup : Chain 0 fs (Nm m).length := n4.up (by rw [Nm_len]; exact n1)
  have hp := fun no => pick_loop (Nm m) (by rw [Nm_len]; omega) names no cf fs n5 fs [] 0 rfl hup hcf (by simp [pickL])
  have hl := pick_len (Nm m) cf fs 0 n n4
  exact ⟨n, pickL (Nm m) cf false fs, pickL (Nm m) cf true fs, n1, n2,
    Ev.congr (fun k => by unfold head_Pick.f; rfl) (Ev.bind n3 (hp false)), Ev.congr (fun k => by unfold head_Pick.f; rfl) (Ev.bind n3 (hp true)), by omega⟩
theorem atoms_any : ∀ (l : List ByteArray), (∀ s ∈ l, s.size ≤ 536870912) → ∃ r, Ev (fun k => sect_good.g k l) r
  | [], _ => ⟨false, Ev.now _⟩
  | s :: l, h => by
    obtain ⟨r, hr⟩ := atoms_any l (fun x hx => h x (by simp [hx]))
    have hs := h s (by simp)
    have ha := atom_ev s (by omega)
    cases hb : ((bytesOf s).all atomC && !(bytesOf s).isEmpty) with
    | true => rw [hb] at ha; exact ⟨r, Ev.congr (fun k => by rw [sect_good.g]) (Ev.bind ha (Ev.congr (fun k => if_pos rfl) hr))⟩
    | false => rw [hb] at ha; exact ⟨true, Ev.congr (fun k => by rw [sect_good.g]) (Ev.bind ha (Ev.congr (f := fun _ => some true) (fun k => if_neg Bool.false_ne_true) (Ev.now _)))⟩
theorem good_any (l : List ByteArray) (h : ∀ s ∈ l, s.size ≤ 536870912) : ∃ g, Ev (fun k => sect_good.f k [] 3 l) g ∧ Ev (fun k => sect_good.f k [] 4 l) g := by
  obtain ⟨r, hr⟩ := atoms_any l h
  by_cases hl : 1 ≤ l.length ∧ l.length ≤ 40
  · exact ⟨!r, Ev.congr (fun k => by unfold sect_good.f; rw [if_pos rfl, if_pos (by decide), if_pos hl]) (Ev.bind hr (Ev.now _)), Ev.congr (fun k => by unfold sect_good.f; rw [if_pos rfl, if_pos (by decide), if_pos hl]) (Ev.bind hr (Ev.now _))⟩
  · exact ⟨false, Ev.congr (f := fun _ => some false) (fun k => by unfold sect_good.f; rw [if_pos rfl, if_pos (by decide), if_neg hl]) (Ev.now _), Ev.congr (f := fun _ => some false) (fun k => by unfold sect_good.f; rw [if_pos rfl, if_pos (by decide), if_neg hl]) (Ev.now _)⟩
theorem join_any (sep : ByteArray) (hs : sep.size ≤ 1) : ∀ xs : List ByteArray, (∀ x ∈ xs, x.size ≤ 536870912) → (Lib.join (xs.map (·.data.toList)) sep.data.toList).length ≤ xs.length * 1000000001
  | [], _ => by rw [List.map_nil, Lib.join_nil]; simp
  | [x], h => by
    rw [List.map_cons, List.map_nil, Lib.join_one]
    have := h x (by simp)
    rw [← Lib.size_eq]
    simp; omega
  | x :: y :: xs, h => by
    have ih := join_any sep hs (y :: xs) (fun z hz => h z (by simp [hz]))
    have hx := h x (by simp)
    rw [List.map_cons, Lib.join_cons] at ih ⊢
    unfold Lib.joinTail at ih ⊢
    rw [List.map_cons, List.map_cons, List.flatten_cons]
    simp only [List.length_append, List.length_cons] at ih ⊢
    have ex := Lib.size_eq x
    have ey := Lib.size_eq y
    have es := Lib.size_eq sep
    omega
theorem joinf_any (xs : List ByteArray) (sep : ByteArray) (hs : sep.size ≤ 1) (hl : xs.length ≤ 20) (h : ∀ x ∈ xs, x.size ≤ 536870912) : ∃ t, strings_Join.f xs sep = some t ∧ t.size ≤ 20000000020 := by
  have hj := join_any sep hs xs h
  unfold strings_Join.f
  rw [decide_eq_true (by omega), decide_eq_true (by omega), if_pos (by decide)]
  exact ⟨_, rfl, by rw [sizeN]; omega⟩
theorem Show_any (l : List ByteArray) (hl : l.length ≤ 10) (h : ∀ s ∈ l, s.size ≤ 536870912) : ∃ r, Ev (fun k => sect_Show.f k [] 3 l) r ∧ (r.toList = [] ∨ Ev (fun k => sect_good.f k [] 3 l) true) := by
  obtain ⟨g, hg, _⟩ := good_any l h
  cases g with
  | false => exact ⟨⟨#[]⟩, Ev.congr (fun k => by unfold sect_Show.f; rfl) (Ev.bind hg (Ev.congr (f := fun _ => some ⟨#[]⟩) (fun k => if_neg Bool.false_ne_true) (Ev.now _))), .inl (toList_nil ⟨#[]⟩ |>.2 bytesOf_nil)⟩
  | true =>
    obtain ⟨t1, e1, z1⟩ := joinf_any [(⟨#[72, 69, 65, 68, 69, 82, 46, 70, 73, 69, 76, 68, 83]⟩ : ByteArray)] ⟨#[46]⟩ (by decide) (by simp) (fun x hx => by simp at hx; subst hx; decide)
    obtain ⟨t2, e2, z2⟩ := joinf_any l ⟨#[32]⟩ (by decide) (by omega) h
    have hj : ∃ r, ∀ k, sect_Show.j1 (k + 1) [(⟨#[72, 69, 65, 68, 69, 82, 46, 70, 73, 69, 76, 68, 83]⟩ : ByteArray)] [] 3 l = some r := by
      by_cases h0 : (l.length : Int) > 0
      · refine ⟨t1 ++ (((⟨#[32, 40]⟩ : ByteArray) ++ t2) ++ (⟨#[41]⟩ : ByteArray)), fun k => ?_⟩
        rw [sect_Show.j1, e1, Option.bind_some, if_pos h0, e2, Option.bind_some, if_pos (by omega), if_pos (by omega), if_pos (by omega)]
      · exact ⟨t1, fun k => by rw [sect_Show.j1, e1, Option.bind_some, if_neg h0]⟩
    obtain ⟨r, hr⟩ := hj
    refine ⟨r, Ev.congr (fun k => by unfold sect_Show.f; rfl) (Ev.bind hg (Ev.congr (fun k => if_pos rfl) ?_)), .inr hg⟩
    refine Ev.step (f := fun k => sect_Show.j1 k [(⟨#[72, 69, 65, 68, 69, 82, 46, 70, 73, 69, 76, 68, 83]⟩ : ByteArray)] [] 3 l) (fun k => ?_) (Ev.after hr)
    rw [sect_Show.l0, if_neg (by decide), if_neg (by decide)]
    rfl
theorem ends_crlf (x : List Int) : (strOfNums ((x ++ [13, 10]).drop ((x ++ [13, 10]).length - 2))).toList = ([13, 10] : List UInt8) := by
  have e : (x ++ [13, 10]).length - 2 = x.length := by simp
  rw [e, List.drop_left]
  rw [toList_lit]
  decide +kernel
end Go.Proofs.Mine
namespace Go.Proofs.YtefmlibcghjncaaGreatDoor.Pure
open Go.RowKit Go.Proofs.Mine Go.Proofs.YtefmlibcghjncaaGreatDoorW.PrintWords Go.Proofs.YtefmlibcghjncaaGreatDoorW.PrintLast Go.Proofs.YtefmlibcghjncaaGreatDoor.X
set_option linter.unusedSimpArgs false
theorem last_any (x y t : List Int) (n : Nat) (ht : t.length = n) (hxy : x.length + y.length ≤ n) (hn : n ≤ 1500) :
    (if (true : Bool) = true then (if (true : Bool) = true then (if (true : Bool) = true then (if (wrap64 (((x ++ [13, 10]).length : Int) + ((y ++ [13, 10]).length : Int))) ≤ (wrap64 ((t.length : Int) + 4)) then (if ((x ++ [13, 10]).length : Int) ≥ 2 then (if ((y ++ [13, 10]).length : Int) ≥ 2 then (if 0 ≤ (wrap64 (((x ++ [13, 10]).length : Int) - 2)) then (if (wrap64 (((x ++ [13, 10]).length : Int) - 2)) ≤ ((x ++ [13, 10]).length : Int) then (if (strOfNums ((x ++ [13, 10]).drop ((wrap64 (((x ++ [13, 10]).length : Int) - 2)) : Int).toNat)).toList = ([13, 10] : List UInt8) then (if 0 ≤ (wrap64 (((y ++ [13, 10]).length : Int) - 2)) then (if (wrap64 (((y ++ [13, 10]).length : Int) - 2)) ≤ ((y ++ [13, 10]).length : Int) then (some ((strOfNums ((y ++ [13, 10]).drop ((wrap64 (((y ++ [13, 10]).length : Int) - 2)) : Int).toNat)).toList == ([13, 10] : List UInt8))) else (none)) else (none)) else (some false)) else (none)) else (none)) else (some false)) else (some false)) else (some false)) else (some false)) else (some false)) else (some false)) = some true := by
  have lx : ((x ++ [13, 10]).length : Int) = (x.length : Int) + 2 := by simp
  have ly : ((y ++ [13, 10]).length : Int) = (y.length : Int) + 2 := by simp
  have lm : (t.length : Int) = (n : Int) := by rw [ht]
  have c1 : (x.length : Int) + y.length + 4 ≤ (n : Int) + 4 := by omega
  have c2 : ((x ++ [13, 10]).length : Int) ≥ 2 := by rw [lx]; omega
  have c3 : ((y ++ [13, 10]).length : Int) ≥ 2 := by rw [ly]; omega
  have c4 : (0 : Int) ≤ (x.length : Int) := by omega
  have c5 : (x.length : Int) ≤ ((x ++ [13, 10]).length : Int) := by rw [lx]; omega
  have c6 : (0 : Int) ≤ (y.length : Int) := by omega
  have c7 : (y.length : Int) ≤ ((y ++ [13, 10]).length : Int) := by rw [ly]; omega
  have wx : wrap64 (((x ++ [13, 10]).length : Int) - 2) = (x.length : Int) := by rw [lx, wrap_id (by omega) (by omega)]; omega
  have wy : wrap64 (((y ++ [13, 10]).length : Int) - 2) = (y.length : Int) := by rw [ly, wrap_id (by omega) (by omega)]; omega
  have w1 : wrap64 (((x ++ [13, 10]).length : Int) + ((y ++ [13, 10]).length : Int)) = (x.length : Int) + y.length + 4 := by rw [lx, ly, wrap_id (by omega) (by omega)]; omega
  have w2 : wrap64 ((t.length : Int) + 4) = (n : Int) + 4 := by rw [lm, wrap_id (by omega) (by omega)]
  have dx : (strOfNums ((x ++ [13, 10]).drop ((x.length : Int)).toNat)).toList = ([13, 10] : List UInt8) := by
    have h := ends_crlf x
    have e : (x ++ [13, 10]).length - 2 = x.length := by simp
    rwa [e] at h
  have dy : (strOfNums ((y ++ [13, 10]).drop ((y.length : Int)).toNat)).toList = ([13, 10] : List UInt8) := by
    have h := ends_crlf y
    have e : (y ++ [13, 10]).length - 2 = y.length := by simp
    rwa [e] at h
  rw [if_pos rfl, if_pos rfl, if_pos rfl, w1, w2, if_pos c1, if_pos c2, if_pos c3, wx, if_pos c4, if_pos c5, if_pos dx, wy, if_pos c6, if_pos c7, dy]
  rfl
theorem main (m : List UInt8) (hm : m.length ≤ 1500) (l : List ByteArray) (hl : l.length ≤ 10) (hz : ∀ s ∈ l, s.size ≤ 536870912) (hg3 : Ev (fun k => sect_good.f k [] 3 l) true) : Ev (fun k => frankinglaw17_SectNames.j0 k (Nm m) l false 3 l) true := by
  obtain ⟨n, x, y, n1, n2, hx, hy, hxy⟩ := picks_any m hm l hz
  have hg4 : Ev (fun k => sect_good.f k [] 4 l) true := by
    obtain ⟨g, a, b⟩ := good_any l hz
    obtain ⟨K, a⟩ := a
    obtain ⟨K', c⟩ := hg3
    have e := (a (max K K') (Nat.le_max_left _ _)).symm.trans (c (max K K') (Nat.le_max_right _ _))
    have : g = true := Option.some.inj e
    rw [this] at b
    exact b
  have get3 : Ev (fun k => sect_Get.f k (Nm m) [] 3 l) (x ++ [13, 10], true) :=
    Ev.congr (fun k => by unfold sect_Get.f; rw [if_pos (by decide)]) (Ev.bind hg3 (Ev.congr (fun k => if_pos rfl) (Ev.bind n2 (Ev.congr (fun k => if_neg (show ¬ (3 : Int) = 1 by decide)) (Ev.bind hx (Ev.now _))))))
  have get4 : Ev (fun k => sect_Get.f k (Nm m) [] 4 l) (y ++ [13, 10], true) :=
    Ev.congr (fun k => by unfold sect_Get.f; rw [if_pos (by decide)]) (Ev.bind hg4 (Ev.congr (fun k => if_pos rfl) (Ev.bind n2 (Ev.congr (fun k => if_neg (show ¬ (4 : Int) = 1 by decide)) (Ev.bind hy (Ev.now _))))))
  have hg1 : ∀ k, sect_good.f k [] 1 [] = some true := fun k => rfl
  have hcl : bytes_Clone.f ((Nm m).take n) = some ((Nm m).take n) := by
    unfold bytes_Clone.f
    rw [if_pos (by rw [List.length_take, Nm_len]; omega)]
  have get1 : Ev (fun k => sect_Get.f k (Nm m) [] 1 []) ((Nm m).take n, true) :=
    Ev.congr (fun k => by unfold sect_Get.f; rw [if_pos (by decide), hg1, Option.bind_some, if_pos rfl]) (Ev.bind n2 (Ev.congr (f := fun _ => some ((Nm m).take n, true)) (fun k => by
      rw [if_pos rfl, if_pos ⟨by omega, by rw [Nm_len]; omega⟩, Int.toNat_natCast, hcl]
      rfl) (Ev.now _)))
  refine Ev.step (fun k => by rw [frankinglaw17_SectNames.j0, if_neg (by decide)]) ?_
  refine Ev.bind get3 (Ev.bind get4 (Ev.bind get1 ?_))
  exact Ev.congr (f := fun _ => some true) (fun k => last_any x y ((Nm m).take n) n (by rw [List.length_take, Nm_len]; exact Nat.min_eq_left n1) hxy (Nat.le_trans n1 hm)) (Ev.now _)
theorem SectNames (l0 : List Int) (l1 : List ByteArray) (W0 : l0.length ≤ maxLen ∧ ∀ y_ ∈ l0, (Lit.int .u8 y_).wf = true) (W1 : l1.length ≤ maxLen ∧ ∀ y_ ∈ l1, y_.size ≤ 536870912) : ∃ k, frankinglaw17_SectNames.f k l0 l1 = some true := by
  have hb : ∀ c ∈ l0, Byte c := fun c hc => by
    have := W0.2 c hc
    simp [Lit.wf, IntKind.min, IntKind.max, IntKind.signed, IntKind.bits] at this
    exact this
  obtain ⟨m, rfl⟩ := byte_Nm hb
  refine Ev.rounds (g := fun k => frankinglaw17_SectNames.f k (Nm m) l1) ?_
  have skip : Ev (fun k => frankinglaw17_SectNames.j0 k (Nm m) l1 true 3 l1) true := Ev.after fun k => by rw [frankinglaw17_SectNames.j0, if_pos rfl]
  refine Ev.congr (fun k => by unfold frankinglaw17_SectNames.f frankinglaw17_awake.f; rw [Option.bind_some, if_pos rfl]) ?_
  by_cases h0 : ((Nm m).length : Int) > 1500
  · exact Ev.congr (fun k => if_pos h0) skip
  refine Ev.congr (fun k => if_neg h0) ?_
  by_cases h1 : (l1.length : Int) > 10
  · exact Ev.congr (fun k => if_pos h1) skip
  refine Ev.congr (fun k => if_neg h1) ?_
  obtain ⟨r, hr, hor⟩ := Show_any l1 (by omega) W1.2
  refine Ev.bind hr ?_
  rw [Nm_len] at h0
  by_cases hr0 : r.toList = []
  · rw [hr0]
    exact skip
  · have hbe : (r.toList == ([] : List UInt8)) = false := beq_eq_false_iff_ne.2 hr0
    rw [hbe]
    rcases hor with h | h
    · exact absurd h hr0
    · exact main m (by omega) l1 (by omega) W1.2 h
end Go.Proofs.YtefmlibcghjncaaGreatDoor.Pure
