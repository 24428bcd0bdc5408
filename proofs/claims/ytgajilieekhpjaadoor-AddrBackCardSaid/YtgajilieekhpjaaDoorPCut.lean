/- strings.Cut at one byte. -/
import Derived.Test.YtgajilieekhpjaaDoorPLib
import Derived.Test.YtgajilieekhpjaaDoorX2
namespace Go.Proofs.Mine
open Go.RowKit Go.Proofs.YtgajilieekhpjaaDoorW.PrintWords Go.Proofs.YtgajilieekhpjaaDoorW.PrintLast Go.Proofs.YtgajilieekhpjaaDoor.X

theorem index_one (c : UInt8) : ∀ (pre rest : List UInt8), c ∉ pre → Lib.index (pre ++ c :: rest) [c] = (pre.length : Int)
  | [], rest, _ => by
    show Lib.index (c :: rest) [c] = _
    unfold Lib.index
    rw [if_pos (by simp [List.isPrefixOf])]
    rfl
  | b :: pre, rest, h => by
    have hb : b ≠ c := fun e => h (by simp [e])
    have ih := index_one c pre rest (fun hm => h (by simp [hm]))
    show Lib.index (b :: (pre ++ c :: rest)) [c] = _
    unfold Lib.index
    rw [if_neg (by first | (simp [List.isPrefixOf, Ne.symm hb]; done) | (simp [List.isPrefixOf]; exact fun e => hb e.symm)), ih, if_neg (by first | (simp; done) | (simp; omega)), List.length_cons]
    omega
theorem index_no (c : UInt8) : ∀ (l : List UInt8), c ∉ l → Lib.index l [c] = -1
  | [], _ => rfl
  | b :: l, h => by
    have hb : b ≠ c := fun e => h (by simp [e])
    have ih := index_no c l (fun hm => h (by simp [hm]))
    unfold Lib.index
    rw [if_neg (by first | (simp [List.isPrefixOf, Ne.symm hb]; done) | (simp [List.isPrefixOf]; exact fun e => hb e.symm)), ih]
    rfl
theorem cut_one (c : UInt8) (pre rest : List UInt8) (h : c ∉ pre) : Lib.cut (pre ++ c :: rest) [c] = (pre, rest, true) := by
  unfold Lib.cut
  rw [index_one c pre rest h]
  simp
theorem cut_no (c : UInt8) (l : List UInt8) (h : c ∉ l) : Lib.cut l [c] = (l, [], false) := by
  unfold Lib.cut
  rw [index_no c l h]
  rfl
theorem size_lit' (l : List UInt8) : (⟨l.toArray⟩ : ByteArray).size = l.length := by simp [ByteArray.size]
theorem cutf_one (c : UInt8) (pre rest : List UInt8) (h : c ∉ pre) (hl : pre.length + rest.length < 1000000) : strings_Cut.f ⟨(pre ++ c :: rest).toArray⟩ (⟨#[c]⟩ : ByteArray) = some (⟨pre.toArray⟩, ⟨rest.toArray⟩, true) := by
  unfold strings_Cut.f
  rw [if_pos]
  · have e1 : (⟨(pre ++ c :: rest).toArray⟩ : ByteArray).data.toList = pre ++ c :: rest := rfl
    have e2 : (⟨#[c]⟩ : ByteArray).data.toList = [c] := rfl
    rw [e1, e2, cut_one c pre rest h]
  · rw [size_lit']
    simp
    omega
theorem cutf_no (c : UInt8) (l : List UInt8) (h : c ∉ l) (hl : l.length < 1000000) : strings_Cut.f ⟨l.toArray⟩ (⟨#[c]⟩ : ByteArray) = some (⟨l.toArray⟩, ⟨#[]⟩, false) := by
  unfold strings_Cut.f
  rw [if_pos]
  · have e1 : (⟨l.toArray⟩ : ByteArray).data.toList = l := rfl
    have e2 : (⟨#[c]⟩ : ByteArray).data.toList = [c] := rfl
    rw [e1, e2, cut_no c l h]
  · rw [size_lit']
    simp
    omega
theorem catL (a b : List UInt8) : (⟨a.toArray⟩ : ByteArray) ++ (⟨b.toArray⟩ : ByteArray) = ⟨(a ++ b).toArray⟩ := by
  apply ByteArray.ext
  simp
end Go.Proofs.Mine
