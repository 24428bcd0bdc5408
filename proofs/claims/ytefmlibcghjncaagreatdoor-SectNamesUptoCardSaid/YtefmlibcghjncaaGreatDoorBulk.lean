/- What a bound on the bulk of what a row reads says of the weights: each is at most B times the bulk, where no element of a slice of the types that are met is greater than B bytes. -/
import Derived.Test.YtefmlibcghjncaaGreatDoorRows
import Derived.WalkKit
namespace Go.Proofs.Mine
open Go.Proofs.YtefmlibcghjncaaGreatDoor
/-- The types that a type is made of. -/
def kids (P : Program) (t : TypeId) : List TypeId :=
  match P.underlying t with
  | some (.pointer e) => [e]
  | some (.slice e) => [e]
  | some (.array _ e) => [e]
  | some (.map _ e) => [e]
  | some (.struct fs) => fs.toList.map (·.type)
  | _ => []
def grow (P : Program) : Nat → List TypeId → List TypeId → List TypeId
  | 0, _, l => l
  | _ + 1, [], l => l
  | n + 1, t :: r, l => if l.contains t then grow P n r l else grow P n (kids P t ++ r) (t :: l)
/-- Every type of l is of elements of at most B bytes, and made of types of l. -/
def thin (P : Program) (B : Nat) (l : List TypeId) : Bool :=
  l.all fun t => (kids P t).all (fun e => l.contains e) && match P.underlying t with
    | some (.slice e) => decide (P.bytesOf e ≤ B)
    | some (.map k e) => decide (P.bytesOf k + P.bytesOf e ≤ B)
    | _ => true
section
variable {H : Type} {P : Program} {B : Nat} {l : List TypeId}
theorem thin_kid (h : thin P B l = true) {t e : TypeId} (ht : t ∈ l) (he : e ∈ kids P t) : e ∈ l := by
  have h1 := List.all_eq_true.1 h t ht
  rw [Bool.and_eq_true] at h1
  exact List.contains_iff_mem.1 (List.all_eq_true.1 h1.1 e he)
theorem thin_slice (h : thin P B l = true) {t e : TypeId} (ht : t ∈ l) (hu : P.underlying t = some (.slice e)) : P.bytesOf e ≤ B := by
  have h1 := List.all_eq_true.1 h t ht
  rw [Bool.and_eq_true, hu] at h1
  exact of_decide_eq_true h1.2
theorem thin_map (h : thin P B l = true) {t k e : TypeId} (ht : t ∈ l) (hu : P.underlying t = some (.map k e)) : P.bytesOf k + P.bytesOf e ≤ B := by
  have h1 := List.all_eq_true.1 h t ht
  rw [Bool.and_eq_true, hu] at h1
  exact of_decide_eq_true h1.2
theorem bulk_pos (d : DataW H) : 1 ≤ Rows.uptoBulk d := by
  cases d with
  | lit l => cases l <;> simp [Rows.uptoBulk]
  | _ => simp [Rows.uptoBulk]
theorem bulk_length (xs : List (DataW H)) : xs.length ≤ Rows.uptoBulkAll xs := by
  induction xs with
  | nil => simp [Rows.uptoBulkAll]
  | cons x r ih => have := bulk_pos x; simp only [Rows.uptoBulkAll, List.length_cons]; omega
theorem bulk_part {d : DataW H} {xs : List (DataW H)} (h : d ∈ xs) : Rows.uptoBulk d ≤ Rows.uptoBulkAll xs := by
  induction xs with
  | nil => cases h
  | cons x r ih =>
    simp only [Rows.uptoBulkAll]
    rcases List.mem_cons.1 h with rfl | h
    · omega
    · have := ih h; omega
theorem bulk_entries (xs : List (Lit × DataW H)) : xs.length ≤ Rows.uptoBulkEntries xs := by
  induction xs with
  | nil => simp [Rows.uptoBulkEntries]
  | cons x r ih =>
    obtain ⟨k, d⟩ := x
    have := bulk_pos d
    have h : 1 ≤ Rows.uptoBulkEntry (k, d) := by cases k <;> simp only [Rows.uptoBulkEntry] <;> omega
    simp only [Rows.uptoBulkEntries, List.length_cons]
    omega
theorem le_of_part {m a b c : Nat} (h : m ≤ c * a) (hab : a ≤ b) : m ≤ c * b := Nat.le_trans h (Nat.mul_le_mul_left c hab)
mutual
theorem weights_bulk (hB : 1 ≤ B) (h : thin P B l = true) : ∀ (d : DataW H) (t : TypeId), t ∈ l → ∀ m ∈ d.weights P t, m ≤ B * Rows.uptoBulk d
  | .lit (.string bytes), t, _, m, hm => by
    simp only [DataW.weights, List.mem_singleton] at hm
    subst hm
    simp only [Rows.uptoBulk]
    have := Nat.mul_le_mul_right (bytes.length + 1) hB
    omega
  | .lit (.bool _), t, _, m, hm => by simp [DataW.weights] at hm
  | .lit (.int _ _), t, _, m, hm => by simp [DataW.weights] at hm
  | .lit (.float _ _), t, _, m, hm => by simp [DataW.weights] at hm
  | .lit .nil, t, _, m, hm => by simp [DataW.weights] at hm
  | .nil, t, _, m, hm => by simp [DataW.weights] at hm
  | .ptr d, t, ht, m, hm => by
    simp only [DataW.weights] at hm
    split at hm
    · rename_i e hu
      exact le_of_part (weights_bulk hB h d e (thin_kid h ht (by simp [kids, hu])) m hm) (by simp only [Rows.uptoBulk]; omega)
    · simp at hm
  | .slice elems spare, t, ht, m, hm => by
    simp only [DataW.weights] at hm
    split at hm
    · rename_i e hu
      have he := thin_kid h ht (show e ∈ kids P t by simp [kids, hu])
      rcases List.mem_cons.1 hm with rfl | hm
      · have h1 := bulk_length elems
        have h2 := bulk_length spare
        rw [Nat.mul_comm]
        exact Nat.mul_le_mul (thin_slice h ht hu) (by simp only [Rows.uptoBulk]; omega)
      · rcases List.mem_append.1 hm with hm | hm
        · exact le_of_part (weightsAll_bulk hB h elems e he m hm) (by simp only [Rows.uptoBulk]; omega)
        · exact le_of_part (weightsAll_bulk hB h spare e he m hm) (by simp only [Rows.uptoBulk]; omega)
    · simp at hm
  | .agg parts, t, ht, m, hm => by
    simp only [DataW.weights] at hm
    split at hm
    · rename_i fs hu
      exact le_of_part (weightsEach_bulk hB h (fs.toList.map (·.type)) parts (fun e he => thin_kid h ht (by rw [kids, hu]; exact he)) m hm) (by simp only [Rows.uptoBulk]; omega)
    · rename_i n e hu
      exact le_of_part (weightsAll_bulk hB h parts e (thin_kid h ht (by simp [kids, hu])) m hm) (by simp only [Rows.uptoBulk]; omega)
    · simp at hm
  | .iface _ _, t, _, m, hm => by simp [DataW.weights] at hm
  | .map entries, t, ht, m, hm => by
    simp only [DataW.weights] at hm
    split at hm
    · rename_i k e hu
      have he := thin_kid h ht (show e ∈ kids P t by simp [kids, hu])
      rcases List.mem_cons.1 hm with rfl | hm
      · have h1 := bulk_entries entries
        rw [Nat.mul_comm]
        exact Nat.mul_le_mul (thin_map h ht hu) (by simp only [Rows.uptoBulk]; omega)
      · exact le_of_part (weightsEntries_bulk hB h entries e he m hm) (by simp only [Rows.uptoBulk]; omega)
    · simp at hm
  | .held _, t, _, m, hm => by simp [DataW.weights] at hm
theorem weightsAll_bulk (hB : 1 ≤ B) (h : thin P B l = true) : ∀ (xs : List (DataW H)) (e : TypeId), e ∈ l → ∀ m ∈ DataW.weightsAll P e xs, m ≤ B * Rows.uptoBulkAll xs
  | [], e, _, m, hm => by simp [DataW.weightsAll] at hm
  | d :: r, e, he, m, hm => by
    simp only [DataW.weightsAll, List.mem_append] at hm
    rcases hm with hm | hm
    · exact le_of_part (weights_bulk hB h d e he m hm) (by simp only [Rows.uptoBulkAll]; omega)
    · exact le_of_part (weightsAll_bulk hB h r e he m hm) (by simp only [Rows.uptoBulkAll]; omega)
theorem weightsEach_bulk (hB : 1 ≤ B) (h : thin P B l = true) : ∀ (ts : List TypeId) (xs : List (DataW H)), (∀ t ∈ ts, t ∈ l) → ∀ m ∈ DataW.weightsEach P ts xs, m ≤ B * Rows.uptoBulkAll xs
  | [], xs, _, m, hm => by cases xs <;> simp [DataW.weightsEach] at hm
  | _ :: _, [], _, m, hm => by simp [DataW.weightsEach] at hm
  | t :: ts, d :: r, ht, m, hm => by
    simp only [DataW.weightsEach, List.mem_append] at hm
    rcases hm with hm | hm
    · exact le_of_part (weights_bulk hB h d t (ht t (List.mem_cons_self ..)) m hm) (by simp only [Rows.uptoBulkAll]; omega)
    · exact le_of_part (weightsEach_bulk hB h ts r (fun t h' => ht t (List.mem_cons_of_mem _ h')) m hm) (by simp only [Rows.uptoBulkAll]; omega)
theorem weightsEntries_bulk (hB : 1 ≤ B) (h : thin P B l = true) : ∀ (xs : List (Lit × DataW H)) (e : TypeId), e ∈ l → ∀ m ∈ DataW.weightsEntries P e xs, m ≤ B * Rows.uptoBulkEntries xs
  | [], e, _, m, hm => by simp [DataW.weightsEntries] at hm
  | x :: r, e, he, m, hm => by
    simp only [DataW.weightsEntries, List.mem_append] at hm
    rcases hm with hm | hm
    · exact le_of_part (weightsEntry_bulk hB h x e he m hm) (by simp only [Rows.uptoBulkEntries]; omega)
    · exact le_of_part (weightsEntries_bulk hB h r e he m hm) (by simp only [Rows.uptoBulkEntries]; omega)
theorem weightsEntry_bulk (hB : 1 ≤ B) (h : thin P B l = true) : ∀ (x : Lit × DataW H) (e : TypeId), e ∈ l → ∀ m ∈ DataW.weightsEntry P e x, m ≤ B * Rows.uptoBulkEntry x
  | (.string bytes, d), e, he, m, hm => by
    simp only [DataW.weightsEntry, List.mem_cons] at hm
    simp only [Rows.uptoBulkEntry]
    rcases hm with rfl | hm
    · have := Nat.mul_le_mul_right (bytes.length + Rows.uptoBulk d + 1) hB
      omega
    · exact le_of_part (weights_bulk hB h d e he m hm) (by omega)
  | (.bool _, d), e, he, m, hm => by
    simp only [DataW.weightsEntry] at hm
    exact le_of_part (weights_bulk hB h d e he m hm) (by simp only [Rows.uptoBulkEntry]; omega)
  | (.int _ _, d), e, he, m, hm => by
    simp only [DataW.weightsEntry] at hm
    exact le_of_part (weights_bulk hB h d e he m hm) (by simp only [Rows.uptoBulkEntry]; omega)
  | (.nil, d), e, he, m, hm => by
    simp only [DataW.weightsEntry] at hm
    exact le_of_part (weights_bulk hB h d e he m hm) (by simp only [Rows.uptoBulkEntry]; omega)
  | (.float _ _, d), e, he, m, hm => by
    simp only [DataW.weightsEntry] at hm
    exact le_of_part (weights_bulk hB h d e he m hm) (by simp only [Rows.uptoBulkEntry]; omega)
end
/-- One argument's weights, out of the row's bound. -/
theorem weights_upto (hB : 1 ≤ B) {Z : Nat} (hZ : B * 1048576 ≤ Z) {ds gs : List (DataW H)} (hk : Rows.uptoSmall H (ds ++ gs) = true) {d : DataW H} (hd : d ∈ ds) {t : TypeId} (ht : t ∈ l) (h : thin P B l = true) : ∀ m ∈ d.weights P t, m ≤ Z := by
  intro m hm
  have h1 : Rows.uptoBulkAll (ds ++ gs) ≤ 1048576 := of_decide_eq_true hk
  have h2 := bulk_part (List.mem_append_left gs hd)
  have h3 := weights_bulk hB h d t ht m hm
  exact Nat.le_trans h3 (Nat.le_trans (Nat.mul_le_mul_left B (Nat.le_trans h2 h1)) hZ)
end
end Go.Proofs.Mine
