/- Words of this session: rows that a conversion of a string made, folded texts, and other small things that the contracts use. -/
import Derived.Below
import Derived.Deep.Draws
import Derived.Deep.AppendLies
import Derived.Maps.AppendAt
import Derived.OwnWalk
import Derived.Laws.BytesArg
import Derived.Laws.MakeOwn
import Derived.Laws.OwnMore
import Derived.Deep.OwnRows
import Derived.Tactics
import Derived.Lib.ConvBytes
import Derived.Laws.Slices
import Derived.WalkKit
import Derived.KernelRfl
import Derived.RowKit3
import Derived.Deep.LoopGhost
import Derived.Deep.QuietTactic
import Derived.BigQuiet
import Derived.WideLaws
import Derived.Deep.DeepCutAuto
import Derived.Deep.CutBlock
import Derived.Deep.RegionHeld3
import Derived.Laws.Rows
import Derived.Lib.AppendStr
import Derived.ArgAppend
import Derived.Laws.IdiomCopy
import Derived.OrdersHeld
import Derived.Laws.BitsLemmas
import Derived.RowKit
import Derived.LoopTactic
import Derived.Lib.LaidTab
import Derived.Lib.Index
import Derived.Lib.Bytealg
import Derived.Sort.Grow
import Derived.Lib.SlBytesConst
import Derived.ChangeArms
import Derived.DataReads
import Derived.DataElems
import Derived.SizedLaws
import Derived.LaidSub
import Derived.Handed
import Derived.Stop.Joined
import Derived.Test.YtgciibjlgdhnpaaDoorWWords
import Derived.Test.YtgciibjlgdhnpaaDoorWLast
import Derived.Test.YtgciibjlgdhnpaaDoorWTab
import Derived.Test.YtgciibjlgdhnpaaDoorWFour
import Derived.Test.YtgciibjlgdhnpaaDoorWQPut
import Derived.Test.YtgciibjlgdhnpaaDoorWApart
import Derived.Test.YtgciibjlgdhnpaaDoorWArr
import Derived.Test.YtgciibjlgdhnpaaDoorWZeros
import Derived.Test.YtgciibjlgdhnpaaDoorWFoot
import Derived.Test.YtgciibjlgdhnpaaDoorWKept
import Derived.Test.YtgciibjlgdhnpaaDoorWShare
import Derived.Test.YtgciibjlgdhnpaaDoorWN
import Derived.Test.YtgciibjlgdhnpaaDoorWFootNe
import Derived.Test.YtgciibjlgdhnpaaDoorWAt
import Derived.Test.YtgciibjlgdhnpaaDoorWEqStruct
import Derived.Test.YtgciibjlgdhnpaaDoorWRepsOne
import Derived.Test.YtgciibjlgdhnpaaDoorWInv
import Derived.Test.YtgciibjlgdhnpaaDoorWInvWords
import Derived.Test.YtgciibjlgdhnpaaDoorWGuard
import Derived.Test.YtgciibjlgdhnpaaDoorWNEv
import Derived.Test.YtgciibjlgdhnpaaDoorWMore
import Derived.Test.YtgciibjlgdhnpaaDoorShelf
/-! Words of this session: rows that a conversion of a string has made (they bear the conversion's mark, so they are no rows of the call's own in the library's sense). -/
namespace Go.Proofs.Mine
open Go.RowKit Go.Proofs.YtgciibjlgdhnpaaDoorW.PrintWords Go.Proofs.YtgciibjlgdhnpaaDoorW.PrintLast

/-- A letter of a folded text. -/
def low (c : UInt8) : UInt8 := if 65 ≤ c ∧ c ≤ 90 then c + 32 else c
/-- The folded text. -/
def foldBA (s : ByteArray) : ByteArray := ⟨s.data.map low⟩

/-- Block g is a row of bytes that a conversion has made; it begins with xs. -/
def MarkRow (w : World) (g e : Nat) (xs : List Int) : Prop :=
  ∃ cs : Array Value, w.heap[g]? = some (.cells cs e (cs.size, cs.size + 1)) ∧ xs.length ≤ cs.size ∧ ∀ i, i < xs.length → cs[i]? = some (.int .u8 (xs.getD i 0))

theorem MarkRow.cell {w : World} {g e : Nat} {xs : List Int} (h : MarkRow w g e xs) {i : Nat} (hi : i < xs.length) : w.cell? ⟨g, i, none⟩ = some (.int .u8 (xs.getD i 0)) := by
  obtain ⟨cs, h1, h2, h3⟩ := h
  simp [World.cell?, h1, h3 i hi]
theorem MarkRow.free {w : World} {g e : Nat} {xs : List Int} (h : MarkRow w g e xs) {i : Nat} (hi : i < xs.length) : w.frozen? ⟨g, i, none⟩ = false := by
  obtain ⟨cs, h1, h2, h3⟩ := h
  simp only [World.frozen?, h1]
  simp
  omega
theorem MarkRow.set {w : World} {g e : Nat} {xs : List Int} (h : MarkRow w g e xs) {i : Nat} (hi : i < xs.length) (x : Int) : MarkRow (w.setCell ⟨g, i, none⟩ (.int .u8 x)) g e (xs.set i x) := by
  obtain ⟨cs, h1, h2, h3⟩ := h
  refine ⟨cs.setIfInBounds i (.int .u8 x), ?_, by simpa using h2, ?_⟩
  · simp [World.setCell, Array.getElem?_modify, h1]
  · intro j hj
    simp at hj
    by_cases e : i = j
    · subst e
      simp [hj, List.getD_eq_getElem?_getD, show i < cs.size by omega]
    · rw [Array.getElem?_setIfInBounds_ne e, h3 j hj]
      simp [List.getD_eq_getElem?_getD, List.getElem?_set_ne e]
theorem MarkRow.below {w w1 : World} {g e : Nat} {xs : List Int} (h : MarkRow w g e xs) (hb : Below w.heap.size w w1) : MarkRow w1 g e xs := by
  obtain ⟨cs, h1, h2, h3⟩ := h
  exact ⟨cs, blk_below h1 hb, h2, h3⟩
theorem MarkRow.new (w : World) (e : Nat) (s : ByteArray) : MarkRow (Lib.bytesWorld w e s) w.heap.size e (bytesOf s) := by
  refine ⟨_, Lib.bytesWorld_at_new w e s, ?_, ?_⟩
  · rw [bytesOf_length]
    simp only [Lib.bytesCells, Array.size_append, Array.size_map]
    exact Nat.le_add_right _ _
  · intro i hi
    rw [bytesOf_length] at hi
    have h2 := Lib.bytesWorld_cell w e s i hi
    simp only [World.cell?, Lib.bytesWorld_at_new] at h2
    have h' : i < s.data.toList.length := by rw [data_length]; exact hi
    simp at h2
    rw [h2]
    have h3 : i < s.data.size := hi
    rw [Array.getElem?_eq_getElem h3]
    simp [bytesOf, List.getD_eq_getElem?_getD, List.getElem?_eq_getElem h']
end Go.Proofs.Mine
namespace Go.Proofs.Mine
open Go.RowKit Go.Proofs.YtgciibjlgdhnpaaDoorW.PrintWords Go.Proofs.YtgciibjlgdhnpaaDoorW.PrintLast
/-- The letters of a text, those ahead of place k folded. -/
def foldTo (s : ByteArray) (k : Nat) : List Int := (bytesOf (foldBA s)).take k ++ (bytesOf s).drop k
theorem foldBA_size (s : ByteArray) : (foldBA s).size = s.size := by simp only [foldBA, ByteArray.size, Array.size_map]
theorem foldTo_length (s : ByteArray) (k : Nat) (h : k ≤ s.size) : (foldTo s k).length = s.size := by
  unfold foldTo
  rw [List.length_append, List.length_take, List.length_drop, bytesOf_length, bytesOf_length, foldBA_size]
  omega
theorem foldTo_zero (s : ByteArray) : foldTo s 0 = bytesOf s := by simp [foldTo]
theorem foldTo_all (s : ByteArray) : foldTo s s.size = bytesOf (foldBA s) := by
  unfold foldTo
  rw [List.take_of_length_le (by rw [bytesOf_length, foldBA_size]; exact Nat.le_refl _), List.drop_of_length_le (by rw [bytesOf_length]; exact Nat.le_refl _), List.append_nil]
theorem bytesOf_get (s : ByteArray) (i : Nat) (h : i < s.size) : (bytesOf s)[i]? = some ((s[i]'h).toNat : Int) := by
  have h' : i < s.data.toList.length := by rw [data_length]; exact h
  simp [bytesOf, List.getElem?_eq_getElem h']
  rfl
theorem foldTo_at (s : ByteArray) (k : Nat) (h : k < s.size) : (foldTo s k).getD k 0 = ((s[k]'h).toNat : Int) := by
  unfold foldTo
  rw [List.getD_eq_getElem?_getD, List.getElem?_append_right (by rw [List.length_take, bytesOf_length, foldBA_size]; omega), List.length_take, bytesOf_length, foldBA_size, List.getElem?_drop]
  rw [show k + (k - min k s.size) = k by omega, bytesOf_get s k h]
  rfl
theorem foldTo_step (s : ByteArray) (k : Nat) (h : k < s.size) (v : Int) (hv : v = ((low (s[k]'h)).toNat : Int)) : (foldTo s k).set k v = foldTo s (k + 1) := by
  have hf : k < (foldBA s).size := by rw [foldBA_size]; exact h
  have hk : (foldBA s)[k]'hf = low (s[k]'h) := by
    have : (foldBA s).data[k]'hf = low (s.data[k]'h) := by simp [foldBA]
    exact this
  unfold foldTo
  apply List.ext_getElem?
  intro j
  rw [List.getElem?_set]
  by_cases e : k = j
  · subst e
    rw [if_pos rfl, if_pos (by rw [List.length_append, List.length_take, List.length_drop, bytesOf_length, bytesOf_length, foldBA_size]; omega)]
    rw [List.getElem?_append_left (by rw [List.length_take, bytesOf_length, foldBA_size]; omega), List.getElem?_take, if_pos (by omega), bytesOf_get _ _ hf, hk, hv]
  · rw [if_neg e]
    by_cases hlt : j < k
    · rw [List.getElem?_append_left (by rw [List.length_take, bytesOf_length, foldBA_size]; omega), List.getElem?_append_left (by rw [List.length_take, bytesOf_length, foldBA_size]; omega), List.getElem?_take, List.getElem?_take, if_pos hlt, if_pos (by omega)]
    · rw [List.getElem?_append_right (by rw [List.length_take, bytesOf_length, foldBA_size]; omega), List.getElem?_append_right (by rw [List.length_take, bytesOf_length, foldBA_size]; omega), List.length_take, List.length_take, bytesOf_length, foldBA_size, List.getElem?_drop, List.getElem?_drop]
      congr 1
      omega
theorem foldTo_stay (s : ByteArray) (k : Nat) (h : k < s.size) (hv : low (s[k]'h) = s[k]'h) : foldTo s k = foldTo s (k + 1) := by
  rw [← foldTo_step s k h ((s[k]'h).toNat : Int) (by rw [hv])]
  apply List.ext_getElem?
  intro j
  rw [List.getElem?_set]
  by_cases e : k = j
  · subst e
    rw [if_pos rfl, if_pos (by rw [foldTo_length s k (by omega)]; exact h)]
    have := foldTo_at s k h
    rw [List.getD_eq_getElem?_getD] at this
    have hl : k < (foldTo s k).length := by rw [foldTo_length s k (by omega)]; exact h
    rw [List.getElem?_eq_getElem hl] at this ⊢
    simp at this
    rw [this]
  · rw [if_neg e]
theorem low_up (c : UInt8) (h1 : 65 ≤ (c.toNat : Int)) (h2 : (c.toNat : Int) ≤ 90) : ((low c).toNat : Int) = (c.toNat : Int) + 32 := by
  unfold low
  rw [if_pos ⟨by rw [UInt8.le_iff_toNat_le]; simp; omega, by rw [UInt8.le_iff_toNat_le]; simp; omega⟩, UInt8.toNat_add]
  simp
  omega
theorem low_id (c : UInt8) (h : ¬ (65 ≤ (c.toNat : Int) ∧ (c.toNat : Int) ≤ 90)) : low c = c := by
  unfold low
  rw [if_neg]
  rintro ⟨h1, h2⟩
  rw [UInt8.le_iff_toNat_le] at h1 h2
  simp at h1 h2
  exact h ⟨by omega, by omega⟩
theorem strOfNums_bytesOf (s : ByteArray) : strOfNums (bytesOf s) = s := by
  have h : ((bytesOf s).map fun n => UInt8.ofNat n.toNat) = s.data.toList := by
    unfold bytesOf
    rw [List.map_map]
    have : ((fun n : Int => UInt8.ofNat n.toNat) ∘ fun b : UInt8 => (b.toNat : Int)) = id := by
      funext b
      simp
    rw [this, List.map_id]
  unfold strOfNums
  rw [h]
/-- 'string(b)' of such a row. -/
theorem MarkRow.str {P : Program} {w : World} {g e : Nat} {xs : List Int} (h : MarkRow w g e xs) (src dst : TypeId) (hs : P.underlying src = some (.slice e)) (he : P.underlying e = some (.int .u8)) (hd : P.underlying dst = some .string) (n c : Nat) (hn : n = xs.length) :
    (convert src dst (.slice (some ⟨g, 0, none⟩) n c)).run P w = .ok (.string (strOfNums xs)) w := by
  refine run_convert_bytes_arg w src e hs he g 0 n c xs hn.symm (fun i hi => ?_) dst hd
  rw [Nat.zero_add]
  exact h.cell (by omega)
end Go.Proofs.Mine
namespace Go.Proofs.Mine
theorem bne_nil8 (l : List UInt8) : (l != []) = !l.isEmpty := by cases l <;> rfl
theorem beq_nil8 (l : List UInt8) : (l == []) = l.isEmpty := by cases l <;> rfl
end Go.Proofs.Mine
namespace Go.Proofs.Mine
open Go.RowKit Go.Proofs.YtgciibjlgdhnpaaDoorW.PrintWords Go.Proofs.YtgciibjlgdhnpaaDoorW.PrintLast
/-- A package variable's cells stay where only new blocks are written. -/
theorem var_below {P : Program} {w w1 : World} {n : String} {cs : Array Value} (h : w.var? P n = some cs) (hb : Below w.heap.size w w1) : w1.var? P n = some cs := by
  unfold World.var? at h ⊢
  cases hg : P.globalNamed n with
  | none => simp [hg] at h
  | some g =>
    simp only [hg, Option.bind_some] at h ⊢
    have hlt : g < w.heap.size := by
      rcases Nat.lt_or_ge g w.heap.size with h' | h'
      · exact h'
      · simp [Array.getElem?_eq_none h'] at h
    rw [hb.block g hlt]
    exact h
theorem some_below {w w1 : World} {a : Addr} {k : IntKind} (h : ∃ m, w.cell? a = some (.int k m)) (hb : Below w.heap.size w w1) : ∃ m, w1.cell? a = some (.int k m) := by
  obtain ⟨m, hm⟩ := h
  exact ⟨m, pw_cell_below hb hm⟩
theorem below_grow (w : World) (k : Nat) (os : Array Obj) : Below w.heap.size w (Go.Sort.grow (w.drewN k) os) :=
  ⟨rfl, rfl, rfl, by simp [Go.Sort.grow], fun i hi => by
    have h1 : (w.drewN k).heap = w.heap := rfl
    simp only [Go.Sort.grow, h1]
    rw [Array.getElem?_append_left hi]⟩
/-- Is a number a byte's, as a test? -/
def byteB (c : Int) : Bool := decide (0 ≤ c) && decide (c < 256)
theorem byteB_all {l : List Int} (h : l.all byteB = true) : ∀ x ∈ l, 0 ≤ x ∧ x < 256 := by
  intro x hx
  have := List.all_eq_true.1 h x hx
  simpa [byteB] using this
theorem libIndex_short : ∀ (l sub : List UInt8), l.length < sub.length → Lib.index l sub = -1 := by
  intro l
  induction l with
  | nil =>
    intro sub h
    unfold Lib.index
    cases sub with
    | nil => simp at h
    | cons _ _ => rfl
  | cons b l ih =>
    intro sub h
    unfold Lib.index
    rw [ih sub (by simp at h; omega)]
    rw [if_neg]
    · rfl
    · intro hp
      have := (List.isPrefixOf_iff_prefix.1 hp).length_le
      omega
end Go.Proofs.Mine
namespace Go.Proofs.Mine
open Go.RowKit Go.Proofs.YtgciibjlgdhnpaaDoorW.PrintWords Go.Proofs.YtgciibjlgdhnpaaDoorW.PrintLast
section
variable {P : Program} {ops : Array Oper} {o : Oper} {a : Act} {rest : List Oper} {Q : Exit → Act → World → Prop} {W : World}
/-- A block whose first cells are these, as a row that is only read. -/
theorem V_of_block {w : World} {g e base c : Nat} {y : List Int} {cs : Array Value} {fr : Nat × Nat} {t : TypeId} {ok : Nat → Prop} (h1 : w.heap[g]? = some (.cells cs t fr)) (h3 : ∀ i, i < y.length → cs[i]? = some (.int .u8 (y.getD i 0))) (hok : ok g) (hc : y.length ≤ c) (hz : y.length ≤ 9223372036854775807) :
    Kd.V (Kd.int .u8) e w base ok (.slice (some ⟨g, 0, none⟩) y.length c) y := by
  refine Kd.V_mk hc fun W' hW => ?_
  have hlt : g < w.heap.size := (Array.getElem?_eq_some_iff.1 h1).1
  have h1' := (hW g hok hlt).trans h1
  refine Kd.C_of_reads (d := (0 : Int)) (h1 := fun _ => rfl) ⟨rfl, hz, fun _ => ⟨_, rfl, fun j hj => ?_⟩⟩
  rw [add_plain]
  simp [World.cell?, h1', h3 j hj]
/-- '[]byte(s)' as one step: a row that is read from then on. -/
theorem conv_str (e : Nat) (hgd : o.guard = none) {N : Tmp} (_hd : o.dst = some N) (src dst : TypeId) (x : Operand) (ho : o.op = .convert src dst x) {u : TypeDesc} (hs : P.underlying src = some u) (hd : P.underlying dst = some (.slice e)) (he : P.underlying e = some (.int .u8))
    (s : ByteArray) (hx : a.eval x = .string s) (hz : s.size ≤ 9223372036854775807) (y : List Int) (hy : y = bytesOf s)
    (h : ∀ (v1 : Value) (w1 : World), Kd.V (Kd.int .u8) e w1 W.heap.size (fun k_ => W.heap.size ≤ k_) v1 y → Below W.heap.size W w1 → wpList P ops Q rest (a.put o.dst v1) w1) : wpList P ops Q (o :: rest) a W := by
  subst hy
  obtain ⟨cs, h1, h2, h3⟩ := MarkRow.new W e s
  have hv : Kd.V (Kd.int .u8) e (Lib.bytesWorld W e s) W.heap.size (fun k_ => W.heap.size ≤ k_) (.slice (some ⟨W.heap.size, 0, none⟩) (bytesOf s).length (grownCap W s.size 0 e)) (bytesOf s) :=
    V_of_block h1 h3 (Nat.le_refl _) (by rw [bytesOf_length]; exact grownCap_ge W s.size 0 e) (by rw [bytesOf_length]; exact hz)
  refine Kd.event_run hgd ?_ (h _ _ hv (bytes_below (Below.refl _ _) (Nat.le_refl _) e s))
  simp [execOp, ho, hx, print_bytes src dst e hs hd he s W, bytesOf_length]
/-- '[]byte("..")': the literal's row gets its mark: a row that is read from then on. -/
theorem conv_lit (e : Nat) (hgd : o.guard = none) {N : Tmp} (_hd : o.dst = some N) (t : TypeId) (x : Operand) (ho : o.op = .convert t t x) (ht : P.underlying t = some (.slice e)) (he : P.underlying e = some (.int .u8))
    (xs : List Int) (C : Array Value) (hC : C = (xs.map (Value.int .u8)).toArray) (n : Nat) (hn : n = xs.length) (hx : a.eval x = .slice (some ⟨W.heap.size, 0, none⟩) n n) (hz : xs.length ≤ 9223372036854775807) (y : List Int) (hy : y = xs)
    (h : ∀ (v1 : Value) (w1 : World), Kd.V (Kd.int .u8) e w1 W.heap.size (fun k_ => W.heap.size ≤ k_) v1 y → Below W.heap.size W w1 → wpList P ops Q rest (a.put o.dst v1) w1) : wpList P ops Q (o :: rest) a (W.alloc (.cells C e)) := by
  subst hy hn hC
  have h1 : (W.alloc (.cells (y.map (Value.int .u8)).toArray e ((y.map (Value.int .u8)).toArray.size, (y.map (Value.int .u8)).toArray.size + 1))).heap[W.heap.size]? = some (.cells (y.map (Value.int .u8)).toArray e ((y.map (Value.int .u8)).toArray.size, (y.map (Value.int .u8)).toArray.size + 1)) := blk_new W _
  have hv := V_of_block (e := e) (base := W.heap.size) (c := y.length) (y := y) (ok := fun k_ => W.heap.size ≤ k_) h1 (fun i hi => by simp [List.getD_eq_getElem?_getD, List.getElem?_eq_getElem hi]) (Nat.le_refl _) (Nat.le_refl _) hz
  refine Kd.event_run hgd ?_ (h _ _ hv ((Below.refl _ _).alloc (Nat.le_refl _) _))
  simp [execOp, ho, hx, Lib.run_convert_bytes_const W t e _ y.length y.length ht he]
end
end Go.Proofs.Mine
namespace Go.Proofs.Mine
open Go.RowKit Go.Proofs.YtgciibjlgdhnpaaDoorW.PrintWords Go.Proofs.YtgciibjlgdhnpaaDoorW.PrintLast
/-! What came in, read as data, told by its kind: rows whose parameters are structs, slices of strings or of structs, types nested in themselves. -/
/-- What reads as data at type t (with at most n steps of depth) is of kind d, and W holds of it. -/
def Opens {α : Type} (P : Program) (Z n : Nat) (t : TypeId) (d : Kd α) (W : α → Prop) : Prop :=
  ∀ (H : Type) (enc : TypeId × Value → H) (w : World) (fuel : Nat) (cs : List Value) (x : DataW H × List MemPlace), fuel ≤ n →
    DataW.trod enc P w 0 (fun _ => true) true fuel t cs = some x → (∀ m ∈ x.1.weights P t, m ≤ Z) → ∃ y, d.K w y cs ∧ W y
theorem weights_all {H : Type} {P : Program} {e : TypeId} : ∀ {ds : List (DataW H)} {d : DataW H}, d ∈ ds → ∀ n ∈ d.weights P e, n ∈ DataW.weightsAll P e ds
  | [], _, h, _, _ => by simp at h
  | x :: r, d, h, n, hn => by
    rw [DataW.weightsAll, List.mem_append]
    rcases List.mem_cons.1 h with rfl | h
    · exact .inl hn
    · exact .inr (weights_all h n hn)
section
variable {P : Program} {Z n : Nat} {t : TypeId}
theorem Opens.le {α : Type} {d : Kd α} {W : α → Prop} {m : Nat} (h : Opens P Z n t d W) (hm : m ≤ n) : Opens P Z m t d W :=
  fun H enc w fuel cs x hf hx hz => h H enc w fuel cs x (Nat.le_trans hf hm) hx hz
theorem opens_int {k : IntKind} (ht : P.underlying t = some (.int k)) (n : Nat) : Opens P Z n t (Kd.int k) (fun z => (Lit.int k z).wf = true) := by
  intro H enc w fuel cs x _ h _
  obtain ⟨z, rfl, _, hw⟩ := DataW.trod_int ht h
  exact ⟨z, rfl, hw⟩
theorem opens_bool (ht : P.underlying t = some .bool) (n : Nat) : Opens P Z n t Kd.bool (fun _ => True) := by
  intro H enc w fuel cs x _ h _
  obtain ⟨z, rfl, _⟩ := DataW.trod_bool ht h
  exact ⟨z, rfl, trivial⟩
theorem opens_string (ht : P.underlying t = some .string) (n : Nat) : Opens P Z n t Kd.string (fun s => s.size ≤ Z) := by
  intro H enc w fuel cs x _ h hz
  obtain ⟨s, rfl, rfl, hs⟩ := DataW.trod_string ht h
  refine ⟨s, rfl, ?_⟩
  have := hz s.data.toList.length (by simp only [DataW.weights, List.mem_singleton])
  rw [Array.length_toList] at this
  exact this
theorem list_of {α : Type} {p : Nat → α → Prop} : ∀ (n : Nat), (∀ i, i < n → ∃ y, p i y) → ∃ ys : List α, ys.length = n ∧ ∀ i y, ys[i]? = some y → p i y
  | 0, _ => ⟨[], rfl, fun i y h => by simp at h⟩
  | n + 1, h => by
    obtain ⟨ys, hl, hy⟩ := list_of n (fun i hi => h i (by omega))
    obtain ⟨y, hp⟩ := h n (by omega)
    refine ⟨ys ++ [y], by simp [hl], fun i z hz => ?_⟩
    by_cases hi : i < ys.length
    · rw [List.getElem?_append_left hi] at hz
      exact hy i z hz
    · have hlt := (List.getElem?_eq_some_iff.1 hz).1
      rw [List.length_append, List.length_singleton] at hlt
      have : i = n := by omega
      subst this
      rw [List.getElem?_append_right (by omega), hl, Nat.sub_self] at hz
      have : y = z := by simpa using hz
      exact this ▸ hp
theorem opens_slice_n {e : TypeId} {α : Type} {d : Kd α} {W : α → Prop} (ht : P.underlying t = some (.slice e)) (hsz : P.cellsOf e = d.sz) (he : Opens P Z n e d W) :
    Opens P Z (n + 1) t (Kd.slice e d) (fun xs => xs.length ≤ maxLen ∧ ∀ y ∈ xs, W y) := by
  intro H enc w fuel cs x hf h hz
  rcases DataW.trod_slice ht h with ⟨rfl, _⟩ | ⟨a, len, cap, elems, rest, m, rfl, rfl, rfl, hb, hl, hm, hlen, hel, _, _⟩
  · exact ⟨[], ⟨none, 0, rfl, Nat.le_refl _, rfl, by simp, fun h => absurd h (by simp)⟩, by simp, by simp⟩
  have each : ∀ i, i < len → ∃ y, W y ∧ ∃ c, c.length = d.sz ∧ d.K w y c ∧ ∀ j u, c[j]? = some u → w.cell? (a.add (i * d.sz + j)) = some u := by
    intro i hi
    have h1 := hel i hi
    rw [List.getElem?_eq_getElem (show i < elems.length by omega), Option.bind_eq_some_iff] at h1
    obtain ⟨c, hc, ht'⟩ := h1
    obtain ⟨y, hy, hw⟩ := he H enc w m c _ (by omega) ht' (fun k hk => hz k (by
      rw [show (DataW.slice (elems.map (·.1)) (rest.map (·.1))).weights P t = _ from by rw [DataW.weights, ht]]
      exact List.mem_cons_of_mem _ (List.mem_append_left _ (weights_all (List.mem_map.2 ⟨_, List.getElem_mem (by omega), rfl⟩) k hk))))
    obtain ⟨_, hcl, hcell⟩ := World.cells?_some hc
    refine ⟨y, hw, c, by rw [hcl, hsz], hy, fun j u hj => ?_⟩
    have hjl := (List.getElem?_eq_some_iff.1 hj).1
    have := hcell j (by omega)
    rw [hsz, hj, Addr.add_add] at this
    exact this
  obtain ⟨ys, hyl, hys⟩ := list_of len each
  have hm63 : maxLen ≤ 9223372036854775807 := by decide
  refine ⟨ys, ⟨some a, cap, by rw [hyl], by omega, rfl, by omega, fun _ => ⟨a, rfl, fun j y hj => ?_⟩⟩, by omega, fun y hy => ?_⟩
  · obtain ⟨_, c, h1, h2, h3⟩ := hys j y hj
    exact ⟨c, h1, h2, h3⟩
  · obtain ⟨i, hi⟩ := List.getElem?_of_mem hy
    exact (hys i y hi).1
theorem opens_slice {e : TypeId} {α : Type} {d : Kd α} {W : α → Prop} (ht : P.underlying t = some (.slice e)) (hsz : P.cellsOf e = d.sz) (he : ∀ n, Opens P Z n e d W) (n : Nat) :
    Opens P Z n t (Kd.slice e d) (fun xs => xs.length ≤ maxLen ∧ ∀ y ∈ xs, W y) := (opens_slice_n ht hsz (he n)).le (Nat.le_succ n)
/-- The same of a struct's fields, from the one at offset off on. -/
def OpensL {α : Type} (P : Program) (Z n : Nat) (fs : List Field) (off : Nat) (d : Kd α) (W : α → Prop) : Prop :=
  ∀ (H : Type) (enc : TypeId × Value → H) (w : World) (fuel : Nat) (cs : List Value) (xs : List (DataW H × List MemPlace)), fuel ≤ n → cs.length = off + d.sz → xs.length = fs.length →
    (∀ (i : Nat) (f : Field), fs[i]? = some f → DataW.trod enc P w 0 (fun _ => true) true fuel f.type ((cs.drop f.offset).take (P.cellsOf f.type)) = xs[i]?) → (∀ (i : Nat) (f : Field) (x : DataW H × List MemPlace), fs[i]? = some f → xs[i]? = some x → ∀ m ∈ x.1.weights P f.type, m ≤ Z) → ∃ y, d.K w y (cs.drop off) ∧ W y
theorem opensL_one {f : Field} {off : Nat} {α : Type} {d : Kd α} {W : α → Prop} (ho : f.offset = off) (hsz : P.cellsOf f.type = d.sz) (h : Opens P Z n f.type d W) : OpensL P Z n [f] off d W := by
  intro H enc w fuel cs xs hf hl hxl hx hz
  have h1 := hx 0 f rfl
  rw [List.getElem?_eq_getElem (show 0 < xs.length by rw [hxl]; exact Nat.zero_lt_one)] at h1
  rw [ho, hsz, List.take_of_length_le (by rw [List.length_drop]; omega)] at h1
  exact h H enc w fuel _ _ hf h1 (hz 0 f _ rfl (List.getElem?_eq_getElem _))
theorem opensL_cons {f : Field} {fs : List Field} {off : Nat} {α β : Type} {a : Kd α} {b : Kd β} {W : α → Prop} {V : β → Prop} (ho : f.offset = off) (hsz : P.cellsOf f.type = a.sz) (h : Opens P Z n f.type a W) (hs : OpensL P Z n fs (off + a.sz) b V) :
    OpensL P Z n (f :: fs) off (Kd.pair a b) (fun y => W y.1 ∧ V y.2) := by
  intro H enc w fuel cs xs hf hl hxl hx hz
  have hl' : cs.length = off + (a.sz + b.sz) := hl
  have h1 := hx 0 f rfl
  cases xs with
  | nil => simp at hxl
  | cons x0 xs =>
    rw [ho, hsz] at h1
    obtain ⟨y, hy, hw⟩ := h H enc w fuel _ x0 hf h1 (hz 0 f x0 rfl rfl)
    obtain ⟨z, hzz, hv⟩ := hs H enc w fuel cs xs hf (by omega) (by simpa using hxl) (fun i g hg => hx (i + 1) g (by simpa using hg)) (fun i g x hg hxi => hz (i + 1) g x (by simpa using hg) (by simpa using hxi))
    refine ⟨(y, z), ⟨(cs.drop off).take a.sz, cs.drop (off + a.sz), ?_, hy, hzz⟩, hw, hv⟩
    rw [← List.drop_drop]
    exact (List.take_append_drop _ _).symm
theorem opens_struct_n {fs : Array Field} {l : List Field} {α β : Type} {d : Kd α} {W : α → Prop} (ht : P.underlying t = some (.struct fs)) (hl : fs.toList = l) (hsz : P.cellsOf t = d.sz) (h : OpensL P Z n l 0 d W) (f : β → α) (g : α → β) (hfg : ∀ y, f (g y) = y) :
    Opens P Z (n + 1) t (Kd.iso d f) (fun y => W (f y)) := by
  subst hl
  intro H enc w fuel cs x hf hx hz
  obtain ⟨xs, m, rfl, rfl, hcl, hxl, hel⟩ := DataW.trod_struct ht hx
  obtain ⟨y, hy, hw⟩ := h H enc w m cs xs (by omega) (by rw [hcl, hsz, Nat.zero_add]) (by rw [hxl]; simp) (fun i f hf => hel i f (by simpa using hf)) (fun i f x hf hxi k hk => hz k (by
    simp only [DataW.weights, ht]
    exact DataW.weights_mem_each (j := i) (t := f.type) (d := x.1) (by rw [List.getElem?_map, hf]; rfl) (by rw [List.getElem?_map, hxi]; rfl) k hk))
  refine ⟨g y, ?_, ?_⟩
  · show d.K w (f (g y)) cs
    rw [hfg]
    simpa using hy
  · show W (f (g y))
    rw [hfg]
    exact hw
theorem opens_struct {fs : Array Field} {l : List Field} {α β : Type} {d : Kd α} {W : α → Prop} (ht : P.underlying t = some (.struct fs)) (hl : fs.toList = l) (hsz : P.cellsOf t = d.sz) (h : ∀ n, OpensL P Z n l 0 d W) (f : β → α) (g : α → β) (hfg : ∀ y, f (g y) = y) (n : Nat) :
    Opens P Z n t (Kd.iso d f) (fun y => W (f y)) := (opens_struct_n ht hl hsz (h n) f g hfg).le (Nat.le_succ n)
/-- An argument, opened. -/
theorem Opens.arg {α : Type} {d : Kd α} {W : α → Prop} (h : ∀ n, Opens P Z n t d W) {H : Type} {enc : TypeId × Value → H} {w : World} {v : Value} {x : DataW H} {ps : List MemPlace} (ht : DataW.Trod enc P w 0 (fun _ => true) true t v x ps) {ts : List TypeId} {ds : List (DataW H)} {j : Nat} (hsz : (DataW.weightsEach P ts ds).all (· ≤ reachBytes) = true) (hj : ts[j]? = some t) (hd : ds[j]? = some x) (hZ : reachBytes ≤ Z) : ∃ y, d.K w y v.cells.toList ∧ W y := by
  obtain ⟨m, hm⟩ := ht
  exact h m H enc w m _ _ (Nat.le_refl _) hm (fun k hk => Nat.le_trans (of_decide_eq_true (List.all_eq_true.1 hsz k (DataW.weights_mem_each hj hd k hk))) hZ)
/-- The same, where a smaller bound is known. -/
theorem Opens.argZ {α : Type} {d : Kd α} {W : α → Prop} (h : ∀ n, Opens P Z n t d W) {H : Type} {enc : TypeId × Value → H} {w : World} {v : Value} {x : DataW H} {ps : List MemPlace} (ht : DataW.Trod enc P w 0 (fun _ => true) true t v x ps) (hz : ∀ m ∈ x.weights P t, m ≤ Z) : ∃ y, d.K w y v.cells.toList ∧ W y := by
  obtain ⟨m, hm⟩ := ht
  exact h m H enc w m _ _ (Nat.le_refl _) hm hz
end
end Go.Proofs.Mine
namespace Go.Proofs.Mine
/-- The decimal digits, by fuel: what the kernel can compute. -/
def decF : Nat → Nat → List UInt8
  | 0, u => [UInt8.ofNat (48 + u)]
  | k + 1, u => if u < 10 then [UInt8.ofNat (48 + u)] else decF k (u / 10) ++ [UInt8.ofNat (48 + u % 10)]
theorem decF_eq : ∀ k u, u < 10 ^ (k + 1) → Lib.decDigits u = decF k u
  | 0, u, h => by rw [Lib.decDigits, dif_pos (by omega)]; rfl
  | k + 1, u, h => by
    rw [Lib.decDigits, decF]
    by_cases hu : u < 10
    · rw [dif_pos hu, if_pos hu]
    · rw [dif_neg hu, if_neg hu, decF_eq k (u / 10) (by rw [Nat.pow_succ] at h; omega)]
/-- The decimal numeral, by fuel. -/
def itoaF (n : Int) : List UInt8 := if n < 0 then 45 :: decF 19 n.natAbs else decF 19 n.toNat
theorem itoaF_eq (n : Int) (h1 : -9223372036854775808 ≤ n) (h2 : n ≤ 9223372036854775807) : Lib.itoa n = itoaF n := by
  unfold Lib.itoa itoaF
  have e : (10 : Nat) ^ (19 + 1) = 100000000000000000000 := by decide
  by_cases hn : n < 0
  · rw [if_pos hn, if_pos hn, decF_eq 19 _ (by rw [e]; omega)]
  · rw [if_neg hn, if_neg hn, decF_eq 19 _ (by rw [e]; omega)]
end Go.Proofs.Mine
namespace Go.Proofs.Mine
variable {H : Type} {enc : TypeId × Value → H}
/-- The plain wrap for a row that lists variables: the contract gets the reach, what is listed, and the world's shape. -/
theorem handed_laid {a : Assume} {C : Checked} {os : Os} {f : FuncId} {fn : Func} {s : ChangeSpec} {conds : List PathCond} {apart fresh handsOn again : Bool} {laid : List (String × DataW Unit)}
    (own : ownKnob C.prog.godebug = none) (started : os.Started) (noInit : C.prog.inits.idxOf? f = none) (hfn : C.prog.funcs[f]? = some fn)
    (witness : ∃ (w : World) (tape : Tape) (i : Input), w.os = os ∧ (w.forCall tape i).Shaped C.prog ∧ i.vars = [] ∧ Input.okWide C.prog (w.forCall tape i) .any w.heap.size f i ∧
      ((s.pre enc C.prog fn conds apart (w.forCall tape i).memory i.args ∧ laidMetH C.prog laid (w.forCall tape i).memory) ∧ sizedMet enc C.prog fn (OpenSpec.ofChange s) apart (w.forCall tape i).memory i.args) ∧ a.holds C.prog (lone (Frame.enter C.prog f i.args .normal) [] (w.forCall tape i)))
    (contract : ∀ (W : World) (base : Nat) (args : Array Value) (ds gs : List (DataW H)) (before : List MemPlace),
      (∀ (j : Nat) t v, fn.params[j]? = some t → args[j]? = some v → Value.okWide C.prog W .any base t v) →
      DataW.Whole enc C.prog fn.params.toList s.vars apart W args.toList ds gs before →
      conds.all (PathCond.test C.prog ⟨fn.params.toList, ds, s.plain.varTypes C.prog, gs⟩) = true →
      (DataW.weightsEach C.prog (fn.params.toList ++ s.plain.varTypes C.prog) (ds ++ gs)).all (· ≤ reachBytes) = true → laidMetH C.prog laid W → W.ShapedOpen C.prog →
      a.holds C.prog (lone (Frame.enter C.prog f args .normal) [] W) →
      Calls C.prog f args W fun e W' => ∃ v, e = .returned v ∧ s.post enc C.prog fn apart fresh handsOn again W args v W') :
    ReturnsInHanded a C os f .any (fun w args => (s.pre enc C.prog fn conds apart w args ∧ laidMetH C.prog laid w) ∧ sizedMet enc C.prog fn (OpenSpec.ofChange s) apart w args) (s.post enc C.prog fn apart fresh handsOn again) := by
  refine returnsInHanded_of_calls own started noInit witness ?_
  intro w tape i _ hsh _ hok hpre hholds
  obtain ⟨_, _, _, fn', hfn', _, _, _, _, hval⟩ := hok
  have e : fn' = fn := Option.some.inj (hfn'.symm.trans hfn)
  subst e
  obtain ⟨⟨⟨ds, gs, before, hw, hc⟩, hx⟩, hz⟩ := hpre
  have hw' := DataW.Whole.of_heap (w' := w.forCall tape i) (by rfl) hw
  refine (contract (w.forCall tape i) w.heap.size i.args ds gs before hval hw' hc (hz.weights hw) (hx.of_heap (by rfl)) hsh hholds).mono fun e W' ⟨v, he, hp⟩ => ?_
  subst he
  exact ChangeSpec.post_blind hp
/-- A table of the list, by its place. -/
theorem laid_tab {P : Program} {w : World} {l : List (String × DataW Unit)} (h : laidMetH P l w) (name : String) (k : IntKind) (zs : List Int)
    (hf : l.filter (fun x => x.1 == name) = [(name, Lib.tabData k zs)]) {g t e : Nat} {n : Nat}
    (hg : P.globalNamed name = some g) (hty : (P.globals[g]?).map (·.type) = some t) (ht : P.underlying t = some (.array n e)) (he : P.underlying e = some (.int k)) (hce : P.cellsOf e = 1) (hct : P.cellsOf t = n) : Lib.TabIs P w name k zs := by
  have h1 := laidMetH.filter (fun x => x.1 == name) h
  rw [hf] at h1
  have h2 := (laidMetH_iff.1 h1).1
  exact Lib.tabIs_of_head hg hty ht he hce hct h2
/-- A variable of the list that holds an interface value. -/
theorem laid_err {P : Program} {w : World} {l : List (String × DataW Unit)} (h : laidMetH P l w) (name nm : String) (d : DataW Unit) (hf : l.filter (fun x => x.1 == name) = [(name, .iface nm d)]) (hnh : (DataW.iface nm d).handleName? = none) {g ti : Nat} {ms : Array (String × TypeId)}
    (hg : P.globalNamed name = some g) (ht : (P.globals[g]?).map (·.type) = some ti) (hi : P.underlying ti = some (.interface ms)) : ∃ v, w.cell? ⟨g, 0, none⟩ = some v ∧ (v = .nilIface ∨ ∃ te pe, v = .iface te pe) := by
  have h1 := laidMetH.filter (fun x => x.1 == name) h
  rw [hf] at h1
  have h2 := (laidMetH_iff.1 h1).1
  simp only [List.filter_cons, hnh, Option.isNone_none, if_true, List.filter_nil] at h2
  obtain ⟨ps, ⟨g0, t0, cs0, f0, p0, q0, hg0, ht0, hv0, hd0, _, e0⟩, _, hrows⟩ := h2
  obtain rfl := Option.some.inj (hg.symm.trans hg0)
  obtain rfl := Option.some.inj (ht.symm.trans ht0)
  obtain ⟨f1, u, v, hcs, _⟩ := iface_of_trod hi hd0
  obtain ⟨l0⟩ := cs0
  have e : l0 = [.iface u v] := hcs
  subst e
  exact ⟨.iface u v, by simpa using World.var?_cell hg0 hv0 0, .inr ⟨u, v, rfl⟩⟩
end Go.Proofs.Mine
namespace Go.Proofs.Mine
open Go.RowKit Go.Proofs.YtgciibjlgdhnpaaDoorW.PrintWords Go.Proofs.YtgciibjlgdhnpaaDoorW.PrintLast
/-- What the package variables hold that the library reads. -/
structure Gl (w : World) : Prop where
  here : True
  pow10 : Lib.TabIs Tryd.prog w "internal/strconv.uint64pow10" .u64 Lib.pow10Tab
  esyn : ∃ v, w.cell? ⟨1, 0, none⟩ = some v ∧ (v = .nilIface ∨ ∃ te pe, v = .iface te pe)
theorem Gl.below {w w1 : World} (h : Gl w) (hb : Below w.heap.size w w1) : Gl w1 := ⟨trivial, var_below h.pow10 hb, (h.esyn.elim fun v hv => ⟨v, (hb.cell (Lib.lt_of_cell hv.1)).trans hv.1, hv.2⟩)⟩
theorem Gl.start {w : World} (h : w.ShapedOpen Tryd.prog) (t_pow10 : Lib.TabIs Tryd.prog w "internal/strconv.uint64pow10" .u64 Lib.pow10Tab) (t_esyn : ∃ v, w.cell? ⟨1, 0, none⟩ = some v ∧ (v = .nilIface ∨ ∃ te pe, v = .iface te pe)) : Gl w := ⟨trivial, t_pow10, t_esyn⟩
end Go.Proofs.Mine
