/- What atoms are, on lists of numbers. -/
import Derived.Test.YtefmlibcghjncaaGreatDoorPLib
import Derived.Test.YtefmlibcghjncaaGreatDoorX1
namespace Go.Proofs.Mine
open Go.RowKit Go.Proofs.YtefmlibcghjncaaGreatDoorW.PrintWords Go.Proofs.YtefmlibcghjncaaGreatDoorW.PrintLast Go.Proofs.YtefmlibcghjncaaGreatDoor.X
set_option linter.unusedSimpArgs false

/-- May a byte stand in an atom? -/
def atomC (c : Int) : Bool := decide (32 < c) && decide (c < 127) && !([40, 41, 123, 37, 42, 34, 92, 93] : List Int).contains c
theorem special_index (c : Int) (h0 : 32 < c) (h1 : c < 127) : (Lib.indexByte [40, 41, 123, 37, 42, 34, 92, 93] c.toNat.toUInt8 ≥ 0) = (([40, 41, 123, 37, 42, 34, 92, 93] : List Int).contains c = true) := by
  obtain ⟨n, rfl⟩ : ∃ n : Nat, c = n := ⟨c.toNat, by omega⟩
  have hn : n < 127 := by omega
  have key : ∀ m : Fin 127, (Lib.indexByte [40, 41, 123, 37, 42, 34, 92, 93] ((m.val : Int)).toNat.toUInt8 ≥ 0) = (([40, 41, 123, 37, 42, 34, 92, 93] : List Int).contains (m.val : Int) = true) := by
    have h2 : ∀ m : Fin 127, decide (Lib.indexByte [40, 41, 123, 37, 42, 34, 92, 93] ((m.val : Int)).toNat.toUInt8 ≥ 0) = ([40, 41, 123, 37, 42, 34, 92, 93] : List Int).contains (m.val : Int) := by decide +kernel
    intro m
    apply propext
    rw [← h2 m, decide_eq_true_iff]
  exact key ⟨n, hn⟩
theorem atom_loop (s : ByteArray) (hs : s.size ≤ 140737488351232) : ∀ (l pre : List Int), bytesOf s = pre ++ l →
    Ev (fun k => octet_Atom.l0 k s (s.size : Int) (pre.length : Int)) (l.all atomC && !(bytesOf s).isEmpty) := by
  intro l
  induction l with
  | nil =>
    intro pre h
    have hz := size_of h
    simp at hz
    refine Ev.after fun k => ?_
    simp only [octet_Atom.l0]
    rw [if_neg (by omega)]
    simp [bne, toList_map s]
  | cons c l ih =>
    intro pre h
    have hz := size_of h
    simp at hz
    have hb := bt_of h
    have hc : Byte c := bytesOf_byte s c (by rw [h]; simp)
    have ih' := ih (pre ++ [c]) (by rw [h]; simp)
    rw [List.all_cons]
    by_cases h1 : c ≤ 32
    · refine Ev.after fun k => ?_
      simp only [octet_Atom.l0]
      rw [if_pos (by omega), if_pos (by omega), if_pos (by omega), hb, if_pos h1]
      simp [atomC, show ¬ 32 < c by omega]
    by_cases h2 : c ≥ 127
    · refine Ev.after fun k => ?_
      simp only [octet_Atom.l0]
      rw [if_pos (by omega), if_pos (by omega), if_pos (by omega), hb, if_neg h1, if_pos h2]
      simp [atomC, show ¬ c < 127 by omega]
    have hsp := special_index c (by omega) (by omega)
    by_cases h3 : Lib.indexByte [40, 41, 123, 37, 42, 34, 92, 93] c.toNat.toUInt8 ≥ 0
    · refine Ev.after fun k => ?_
      simp only [octet_Atom.l0, strings_IndexByte.f]
      rw [if_pos (by omega), if_pos (by omega), if_pos (by omega), hb, if_neg h1, if_neg h2]
      simp only [Option.bind_some]
      rw [if_pos h3]
      rw [hsp] at h3
      rw [show atomC c = false by unfold atomC; rw [h3]; simp]
      rfl
    · refine Ev.step (fun k => by
        simp only [octet_Atom.l0, strings_IndexByte.f]
        rw [if_pos (by omega), if_pos (by omega), if_pos (by omega), hb, if_neg h1, if_neg h2]
        simp only [Option.bind_some]
        rw [if_neg h3, wrap_nat (by omega), show pre.length + 1 = (pre ++ [c]).length by simp]) (Ev.eq ih' ?_)
      rw [hsp] at h3
      rw [show atomC c = true by unfold atomC; rw [decide_eq_true (by omega), decide_eq_true (by omega)]; simpa using h3]
      rfl
theorem atom_ev (s : ByteArray) (hs : s.size ≤ 140737488351232) : Ev (fun k => octet_Atom.f k s) ((bytesOf s).all atomC && !(bytesOf s).isEmpty) :=
  atom_loop s hs (bytesOf s) [] rfl
end Go.Proofs.Mine
