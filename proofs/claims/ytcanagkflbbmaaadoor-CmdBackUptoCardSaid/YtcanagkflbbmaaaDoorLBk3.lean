/- What came in, with a bound on its bulk: texts, slices, words within words, commands. -/
import Derived.Test.YtcanagkflbbmaaaDoorLBk2
import Derived.ChangeArms
import Derived.ChangeSame
import Derived.SizedLaws
import Derived.DataReads
import Derived.Test.YtcanagkflbbmaaaDoorRows
set_option linter.unusedVariables false
set_option linter.unusedSimpArgs false
set_option maxRecDepth 100000
set_option maxHeartbeats 8000000
namespace Go.Proofs.YtcanagkflbbmaaaDoor.L
open Go Go.Proofs Go.Dev Go.RowKit
/-- What reads as data at type t is g of some y whose measure is at most the reading's bulk. -/
def OpM {α : Type} (n : Nat) (t : TypeId) (g : α → DV) (μ : α → Nat) : Prop :=
  ∀ (H : Type) (enc : TypeId × Value → H) (w : World) (fuel : Nat) (cs : List Value) (x : DataW H × List MemPlace), fuel ≤ n →
    DataW.trod enc Tryd.prog w 0 (fun _ => true) true fuel t cs = some x → ∃ y, μ y ≤ Rows.uptoBulk x.1 ∧ CsV w (g y) cs
theorem bulk_pos {H : Type} (d : DataW H) : 1 ≤ Rows.uptoBulk d := by
  cases d with
  | lit l => cases l <;> simp [Rows.uptoBulk]
  | _ => simp [Rows.uptoBulk]
theorem OpM.str {t : TypeId} (ht : Tryd.prog.underlying t = some .string) (n : Nat) : OpM n t Str (fun s => s.length + 1) := by
  intro H enc w fuel cs x _ h
  obtain ⟨s, rfl, rfl, hs⟩ := DataW.trod_string ht h
  refine ⟨s.data.toList, by simp [Rows.uptoBulk], .one rfl ?_⟩
  have : Str s.data.toList = .str s := by simp [Str]
  rw [this]
  exact .str s
theorem OpM.bool {t : TypeId} (ht : Tryd.prog.underlying t = some .bool) (n : Nat) : OpM n t DV.bool (fun _ => 1) := by
  intro H enc w fuel cs x _ h
  obtain ⟨z, rfl, hx⟩ := DataW.trod_bool ht h
  exact ⟨z, bulk_pos _, .one rfl (.bool z)⟩
theorem OpM.u8 {t : TypeId} (ht : Tryd.prog.underlying t = some (.int .u8)) (n : Nat) : OpM n t byteDV (fun _ => 1) := by
  intro H enc w fuel cs x _ h
  obtain ⟨z, rfl, _, hw⟩ := DataW.trod_int ht h
  have hz : 0 ≤ z ∧ z < 256 := by
    simp [Lit.wf, IntKind.min, IntKind.max, IntKind.signed, IntKind.bits] at hw
    omega
  refine ⟨UInt8.ofNat z.toNat, bulk_pos _, .one rfl ?_⟩
  have : byteDV (UInt8.ofNat z.toNat) = .int .u8 z := by
    unfold byteDV
    have : (UInt8.ofNat z.toNat).toNat = z.toNat := by simp; omega
    rw [this, Int.toNat_of_nonneg hz.1]
  rw [this]
  exact .int .u8 z
theorem sum_bulk {α H : Type} {μ : α → Nat} : ∀ (ys : List α) (es : List (DataW H × List MemPlace)), ys.length = es.length → (∀ (i : Nat) (y : α), ys[i]? = some y → ∃ e : DataW H × List MemPlace, es[i]? = some e ∧ μ y ≤ Rows.uptoBulk e.1) → (ys.map μ).sum ≤ Rows.uptoBulkAll (es.map (·.1))
  | [], es, _, _ => by simp
  | y :: ys, [], h, _ => by simp at h
  | y :: ys, e :: es, h, hp => by
    obtain ⟨e0, h1, h2⟩ := hp 0 y rfl
    simp at h1
    subst h1
    have := sum_bulk ys es (by simpa using h) (fun i z hz => hp (i + 1) z (by simpa using hz))
    simp only [List.map_cons, List.sum_cons, Rows.uptoBulkAll]
    omega
theorem OpM.slice {t e : TypeId} {α : Type} {g : α → DV} {μ : α → Nat} {sz n : Nat} (ht : Tryd.prog.underlying t = some (.slice e)) (hsz : Tryd.prog.cellsOf e = sz) (h0 : sz ≠ 0) (he : OpM n e g μ) :
    OpM (n + 1) t (fun xs : List α => .imm sz (xs.map g)) (fun xs => (xs.map μ).sum + 1) := by
  intro H enc w fuel cs x hf h
  rcases DataW.trod_slice ht h with ⟨rfl, hx⟩ | ⟨a, len, cap, elems, rest, m, rfl, rfl, rfl, hb, hl, hm, hlen, hel, _, _⟩
  · refine ⟨[], bulk_pos _, .one rfl ?_⟩
    exact .imm0 _ _ _
  have each : ∀ i, i < len → ∃ y, (∃ e0, elems[i]? = some e0 ∧ μ y ≤ Rows.uptoBulk e0.1) ∧ ∃ c : List Value, c.length = sz ∧ CsV w (g y) c ∧ ∀ j v, c[j]? = some v → w.cell? (a.add (i * sz + j)) = some v := by
    intro i hi
    have h1 := hel i hi
    rw [List.getElem?_eq_getElem (show i < elems.length by omega), Option.bind_eq_some_iff] at h1
    obtain ⟨c, hc, ht'⟩ := h1
    obtain ⟨y, hw, hy⟩ := he H enc w m c _ (by omega) ht'
    obtain ⟨_, hcl, hcell⟩ := World.cells?_some hc
    refine ⟨y, ⟨_, List.getElem?_eq_getElem (show i < elems.length by omega), hw⟩, c, by rw [hcl, hsz], hy, fun j u hj => ?_⟩
    have hjl := (List.getElem?_eq_some_iff.1 hj).1
    have := hcell j (by omega)
    rw [hsz, hj, Addr.add_add] at this
    exact this
  obtain ⟨ys, hyl, hys⟩ := list_each len each
  refine ⟨ys, ?_, .one rfl ?_⟩
  · have := sum_bulk (μ := μ) ys elems (by omega) (fun i y hy => (hys i y hy).1)
    simp only [Rows.uptoBulk]
    omega
  cases hyz : ys with
  | nil =>
    obtain rfl : len = 0 := by rw [← hyl, hyz]; rfl
    exact .imm0 _ _ _
  | cons y0 yr =>
    rw [← hyz]
    have hsp : a.spot = none := by
      obtain ⟨_, c, h1, h2, h3⟩ := hys 0 y0 (by rw [hyz]; rfl)
      cases c with
      | nil => simp at h1; omega
      | cons c0 cr =>
        have := h3 0 c0 rfl
        unfold World.cell? at this
        split at this
        · split at this
          · cases this
          · rename_i hs
            cases hs' : a.spot with
            | none => rfl
            | some x => simp [Addr.add, hs'] at hs
        · cases this
    obtain ⟨B, o, sp⟩ := a
    dsimp only at hsp
    subst hsp
    have key : ∀ (i j : Nat) (v : Value), w.cell? ((⟨B, o, none⟩ : Addr).add (i * sz + j)) = some v → cellAt w B (o + i * sz + j) = some v := fun i j v h => by
      rw [← cell_eq, ← h]
      congr 1
      unfold Addr.add
      split
      · rename_i h'; simp at h'; simp [h']
      · simp [Nat.add_assoc]
    have hcv : ∀ (i j : Nat) (e : DV) (c : DV), (ys.map g)[i]? = some e → e.cells[j]? = some c → ∃ v, cellAt w B (o + i * sz + j) = some v ∧ V (Old w) mu0 w c v := by
      intro i j e c h1 h2
      rw [List.getElem?_map, Option.map_eq_some_iff] at h1
      obtain ⟨y, hy, rfl⟩ := h1
      obtain ⟨_, cs, q1, ⟨q2, q3⟩, q4⟩ := hys i y hy
      have hj : j < cs.length := by rw [← q2]; exact (List.getElem?_eq_some_iff.1 h2).1
      exact ⟨cs[j], key i j _ (q4 j _ (List.getElem?_eq_getElem hj)), q3 j c _ h2 (List.getElem?_eq_getElem hj)⟩
    have : len = (ys.map g).length := by simp [hyl]
    rw [this]
    refine .imm sz (ys.map g) B o cap (fun i j => (cellAt w B (o + i * sz + j)).getD undef) (by simp; omega) (fun i e h1 => ?_) (fun i e j c h1 h2 => ?_) (fun i e j c h1 h2 => ?_)
    · rw [List.getElem?_map, Option.map_eq_some_iff] at h1
      obtain ⟨y, hy, rfl⟩ := h1
      obtain ⟨_, cs, q1, ⟨q2, q3⟩, q4⟩ := hys i y hy
      rw [q2, q1]
    · obtain ⟨v, h3, h4⟩ := hcv i j e c h1 h2
      exact ⟨by rw [h3]; rfl, cell_old h3⟩
    · obtain ⟨v, h3, h4⟩ := hcv i j e c h1 h2
      rw [h3]
      exact h4
theorem csv_at0 {w : World} {d : DV} {c : Value} (hd : d.cells = [d]) (h : CsV w d [c]) : V (Old w) mu0 w d c := h.2 0 _ _ (by rw [hd]; rfl) rfl
theorem cells4 {w : World} {a b c d : DV} {cs : List Value} (hl : cs.length = 4) (ha : a.cells = [a]) (hb : b.cells = [b]) (hc : c.cells = [c]) (hd : d.cells = [d])
    (h0 : CsV w a ((cs.drop 0).take 1)) (h1 : CsV w b ((cs.drop 1).take 1)) (h2 : CsV w c ((cs.drop 2).take 1)) (h3 : CsV w d ((cs.drop 3).take 1)) : CsV w (.agg [a, b, c, d]) cs := by
  match cs, hl with
  | [v0, v1, v2, v3], _ =>
    refine ⟨rfl, fun j e v he hv => ?_⟩
    match j with
    | 0 => simp [DV.cells] at he hv; subst he hv; exact csv_at0 ha h0
    | 1 => simp [DV.cells] at he hv; subst he hv; exact csv_at0 hb h1
    | 2 => simp [DV.cells] at he hv; subst he hv; exact csv_at0 hc h2
    | 3 => simp [DV.cells] at he hv; subst he hv; exact csv_at0 hd h3
    | j + 4 => simp at hv
theorem cells3 {w : World} {a b c : DV} {cs : List Value} (hl : cs.length = 3) (ha : a.cells = [a]) (hb : b.cells = [b]) (hc : c.cells = [c])
    (h0 : CsV w a ((cs.drop 0).take 1)) (h1 : CsV w b ((cs.drop 1).take 1)) (h2 : CsV w c ((cs.drop 2).take 1)) : CsV w (.agg [a, b, c]) cs := by
  match cs, hl with
  | [v0, v1, v2], _ =>
    refine ⟨rfl, fun j e v he hv => ?_⟩
    match j with
    | 0 => simp [DV.cells] at he hv; subst he hv; exact csv_at0 ha h0
    | 1 => simp [DV.cells] at he hv; subst he hv; exact csv_at0 hb h1
    | 2 => simp [DV.cells] at he hv; subst he hv; exact csv_at0 hc h2
    | j + 3 => simp at hv
theorem wts_sum : ∀ l : List Word, (l.map wt).sum = wts l
  | [] => by simp [wts]
  | w :: l => by rw [List.map_cons, List.sum_cons, wts_sum l, wts_cons]
theorem wordM : ∀ n, OpM n 43 wdv wt
  | 0 => fun H enc w fuel cs x hf h => by
    obtain rfl : fuel = 0 := by omega
    simp [DataW.trod] at h
  | n + 1 => fun H enc w fuel cs x hf h => by
    obtain ⟨xs, m, rfl, rfl, hcl, hxl, hel⟩ := DataW.trod_struct Tryd.underlying43 h
    match xs, hxl with
    | [y0, y1, y2, y3], _ =>
      have c4 : cs.length = 4 := hcl.trans (by kernel_rfl)
      have k9 : Tryd.prog.cellsOf 9 = 1 := by kernel_rfl
      have k4 : Tryd.prog.cellsOf 4 = 1 := by kernel_rfl
      have k24 : Tryd.prog.cellsOf 24 = 1 := by kernel_rfl
      have e0 := hel 0 _ rfl
      have e1 := hel 1 _ rfl
      have e2 := hel 2 _ rfl
      have e3 := hel 3 _ rfl
      simp only [k9, k4, k24, List.getElem?_cons_zero, List.getElem?_cons_succ] at e0 e1 e2 e3
      obtain ⟨t, m0, q0⟩ := OpM.str Tryd.underlying9 n H enc w m _ _ (by omega) e0
      obtain ⟨q, m1, q1⟩ := OpM.bool Tryd.underlying4 n H enc w m _ _ (by omega) e1
      obtain ⟨i, m3, q3⟩ := OpM.bool Tryd.underlying4 n H enc w m _ _ (by omega) e3
      have m2' := (OpM.slice (sz := 4) Tryd.underlying24 (by kernel_rfl) (by decide) (wordM n)) H enc w m _ _ (by omega) e2
      obtain ⟨l, m2, q2⟩ := m2'
      refine ⟨.mk t q l i, ?_, ?_⟩
      · rw [wt_mk]
        have m2 : (l.map wt).sum + 1 ≤ _ := m2
        have m0 : t.length + 1 ≤ _ := m0
        rw [wts_sum] at m2
        simp only [List.map_cons, List.map_nil, Rows.uptoBulk, Rows.uptoBulkAll]
        omega
      · rw [wdv_mk]
        exact cells4 c4 rfl rfl rfl rfl q0 q1 q2 q3
def cmdWt (c : Cmd) : Nat := c.tag.length + c.name.length + wts c.args
theorem cmdM (n : Nat) : OpM n 26 cdv cmdWt := fun H enc w fuel cs x hf h => by
  obtain ⟨xs, m, rfl, rfl, hcl, hxl, hel⟩ := DataW.trod_struct Tryd.underlying26 h
  match xs, hxl with
  | [y0, y1, y2], _ =>
    have c3 : cs.length = 3 := hcl.trans (by kernel_rfl)
    have k9 : Tryd.prog.cellsOf 9 = 1 := by kernel_rfl
    have k24 : Tryd.prog.cellsOf 24 = 1 := by kernel_rfl
    have e0 := hel 0 _ rfl
    have e1 := hel 1 _ rfl
    have e2 := hel 2 _ rfl
    simp only [k9, k24, List.getElem?_cons_zero, List.getElem?_cons_succ] at e0 e1 e2
    obtain ⟨t, m0, q0⟩ := OpM.str Tryd.underlying9 m H enc w m _ _ (Nat.le_refl _) e0
    obtain ⟨u, m1, q1⟩ := OpM.str Tryd.underlying9 m H enc w m _ _ (Nat.le_refl _) e1
    have m2' := (OpM.slice (sz := 4) Tryd.underlying24 (by kernel_rfl) (by decide) (wordM m)) H enc w m _ _ (by omega) e2
    obtain ⟨l, m2, q2⟩ := m2'
    refine ⟨⟨t, u, l⟩, ?_, ?_⟩
    · unfold cmdWt
      have m2 : (l.map wt).sum + 1 ≤ _ := m2
      have m0 : t.length + 1 ≤ _ := m0
      have m1 : u.length + 1 ≤ _ := m1
      rw [wts_sum] at m2
      simp only [List.map_cons, List.map_nil, Rows.uptoBulk, Rows.uptoBulkAll]
      omega
    · exact cells3 c3 rfl rfl rfl q0 q1 q2
theorem argC {H : Type} {enc : TypeId × Value → H} {w : World} {vs : Array Value} {x : DataW H} {ps : List MemPlace} (ht : DataW.Trod enc Tryd.prog w 0 (fun _ => true) true 26 (.agg vs) x ps) : ∃ c, cmdWt c ≤ Rows.uptoBulk x ∧ V (Old w) mu0 w (cdv c) (.agg vs) := by
  obtain ⟨m, hm⟩ := ht
  obtain ⟨c, h1, h2, h3⟩ := cmdM m H enc w m _ _ (Nat.le_refl _) hm
  refine ⟨c, h1, ?_⟩
  have hl : (Value.agg vs).cells.toList = vs.toList := rfl
  rw [hl] at h2 h3
  exact .agg _ vs (by simpa [cdv, DV.cells] using h2) (fun i c v hc hv => h3 i c v hc (by simpa using hv))
theorem ones : ∀ l : Txt, (l.map fun _ => 1).sum = l.length
  | [] => rfl
  | c :: l => by rw [List.map_cons, List.sum_cons, ones l, List.length_cons]; omega
theorem argB {H : Type} {enc : TypeId × Value → H} {w : World} {v : Value} {x : DataW H} {ps : List MemPlace} {t : TypeId} (hu : Tryd.prog.underlying t = some (.slice 5)) (ht : DataW.Trod enc Tryd.prog w 0 (fun _ => true) true t v x ps) (hv : v.cells.toList = [v]) : ∃ l : Txt, l.length + 1 ≤ Rows.uptoBulk x ∧ V (Old w) mu0 w (Byt l) v := by
  obtain ⟨m, hm⟩ := ht
  obtain ⟨l, h1, h2⟩ := (OpM.slice (sz := 1) hu (by kernel_rfl) (by decide) (OpM.u8 Tryd.underlying5 m)) H enc w m _ _ (by omega) hm
  refine ⟨l, ?_, ?_⟩
  · have h1 : (l.map fun _ => 1).sum + 1 ≤ _ := h1
    rw [ones] at h1
    exact h1
  · rw [hv] at h2
    exact csv_at0 rfl h2
end Go.Proofs.YtcanagkflbbmaaaDoor.L
