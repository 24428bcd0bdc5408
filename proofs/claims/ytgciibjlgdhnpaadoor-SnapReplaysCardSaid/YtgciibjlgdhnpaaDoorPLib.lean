/- Words of this session on bytes and rounds, for the plain laws. -/
import Derived.Test.YtgciibjlgdhnpaaDoorS0
namespace Go.Proofs.Mine
open Go.RowKit Go.Proofs.YtgciibjlgdhnpaaDoorW.PrintWords Go.Proofs.YtgciibjlgdhnpaaDoorW.PrintLast

theorem bytesOf_get? (s : ByteArray) (i : Nat) : (bytesOf s)[i]? = (s.data[i]?).map fun c => (c.toNat : Int) := by
  simp [bytesOf]
theorem bt_of {s : ByteArray} {pre l : List Int} {c : Int} (h : bytesOf s = pre ++ c :: l) : bt s (pre.length : Int) = c := by
  rw [← rd_bytesOf, h]
  simp [rd, List.getD_eq_getElem?_getD]
theorem size_of {s : ByteArray} {l : List Int} (h : bytesOf s = l) : s.size = l.length := by rw [← h, bytesOf_length]
theorem bytesOf_inj {a b : ByteArray} (h : bytesOf a = bytesOf b) : a = b := by
  rw [← strOfNums_bytesOf a, h, strOfNums_bytesOf]
/-- Is a number a byte's? -/
def Byte (c : Int) : Prop := 0 ≤ c ∧ c ≤ 255
theorem bytesOf_byte (s : ByteArray) : ∀ c ∈ bytesOf s, Byte c := by
  intro c hc
  simp only [bytesOf, List.mem_map] at hc
  obtain ⟨b, _, rfl⟩ := hc
  have := b.toNat_lt
  exact ⟨by omega, by omega⟩
theorem bytesOf_strOfNums {l : List Int} (h : ∀ c ∈ l, Byte c) : bytesOf (strOfNums l) = l := by
  unfold bytesOf
  rw [strOfNums_data, List.map_map]
  have : ∀ c ∈ l, ((fun b : UInt8 => (b.toNat : Int)) ∘ fun n : Int => UInt8.ofNat n.toNat) c = c := by
    intro c hc
    obtain ⟨h0, h1⟩ := h c hc
    simp
    omega
  rw [List.map_congr_left this, List.map_id']
theorem size_strOfNums (l : List Int) : (strOfNums l).size = l.length := strOfNums_size l
theorem toList_eq_iff (a b : ByteArray) : a.toList = b.toList ↔ bytesOf a = bytesOf b := by
  constructor
  · intro h
    rw [ByteArray.toList_eq, ByteArray.toList_eq] at h
    simp [bytesOf, h]
  · intro h
    rw [bytesOf_inj h]
theorem toList_beq (a b : ByteArray) : (a.toList == b.toList) = decide (bytesOf a = bytesOf b) := by
  rw [Bool.eq_iff_iff]
  simp [toList_eq_iff]
theorem toList_bne (a b : ByteArray) : (a.toList != b.toList) = !decide (bytesOf a = bytesOf b) := by
  rw [bne, toList_beq]
theorem toList_nil (a : ByteArray) : a.toList = [] ↔ bytesOf a = [] := by
  rw [ByteArray.toList_eq]
  simp [bytesOf]
theorem toList_map (a : ByteArray) : bytesOf a = a.toList.map fun b => (b.toNat : Int) := by rw [ByteArray.toList_eq, bytesOf]
/-- A text's list against a written one. -/
theorem toList_lit (a : ByteArray) (l : List UInt8) : a.toList = l ↔ bytesOf a = l.map fun b => (b.toNat : Int) := by
  rw [toList_map]
  constructor
  · intro h; rw [h]
  · intro h
    exact (List.map_inj_right (by
      intro x y e
      exact UInt8.toNat_inj.1 (by omega))).1 h
theorem bytesOf_append (a b : ByteArray) : bytesOf (a ++ b) = bytesOf a ++ bytesOf b := by
  simp [bytesOf]
theorem bytesOf_lit (l : List UInt8) : bytesOf ⟨l.toArray⟩ = l.map fun b => (b.toNat : Int) := by simp [bytesOf]
theorem bytesOf_nil : bytesOf ⟨#[]⟩ = [] := by simp [bytesOf]
theorem bytesOf_extract (a : ByteArray) (i j : Nat) : bytesOf (a.extract i j) = ((bytesOf a).take j).drop i := by
  simp [bytesOf, ByteArray.data_extract, Array.toList_extract, List.map_take, List.map_drop, List.extract]
  rw [List.drop_take]
theorem wrap_nat {n : Nat} (h : n < 4611686018427387904) : wrap64 ((n : Int) + 1) = ((n + 1 : Nat) : Int) := by
  unfold wrap64
  omega
theorem wrap_id {n : Int} (h : -4611686018427387904 ≤ n) (h' : n ≤ 4611686018427387904) : wrap64 n = n := by
  unfold wrap64
  omega
/-- A row's element. -/
theorem rd_of {pre l : List Int} {c : Int} : rd (pre ++ c :: l) (pre.length : Int) = c := by simp [rd, List.getD_eq_getElem?_getD]

theorem Ev.pure {α : Type} {g : Nat → Option α} {r : α} (h : ∀ k, g k = some r) : Ev g r := ⟨0, fun k _ => h k⟩
theorem Ev.after {α : Type} {g : Nat → Option α} {r : α} (h : ∀ k, g (k + 1) = some r) : Ev g r := ⟨1, fun k hk => by obtain ⟨m, rfl⟩ : ∃ m, k = m + 1 := ⟨k - 1, by omega⟩; exact h m⟩
theorem Ev.call {α β : Type} {g : Nat → Option α} {f : Nat → α → Option β} {G : Nat → Option β} {a : α} {r : β} (h : Ev g a) (e : ∀ k, G k = (g k).bind (f k)) (k : Ev (fun n => f n a) r) : Ev G r :=
  Ev.congr e (Ev.bind h k)
theorem Ev.eq {α : Type} {g : Nat → Option α} {r r' : α} (h : Ev g r) (e : r = r') : Ev g r' := e ▸ h
theorem Ev.at_ {α : Type} {g : Nat → Option α} {r : α} {k : Nat} (mono : ∀ k, LeO (g k) (g (k + 1))) (h : g k = some r) : Ev g r := Ev.of mono h
end Go.Proofs.Mine
