/- Numbers, joins, prefixes and replacements: the library, by the shelf's contracts; the world with the table of powers. -/
import Derived.Test.YtcanagkflbbmaaaDoorLCmdM
import Derived.Test.YtcanagkflbbmaaaDoorLCmdF
import Derived.Test.YtcanagkflbbmaaaDoorLAppR
import Derived.Test.YtcanagkflbbmaaaDoorLAwake23
import Derived.Test.YtcanagkflbbmaaaDoorShelf
set_option linter.unusedVariables false
set_option linter.unusedSimpArgs false
set_option maxRecDepth 100000
set_option maxHeartbeats 8000000
namespace Go.Proofs.YtcanagkflbbmaaaDoor.L
open Go Go.Proofs Go.Dev Go.RowKit
def TabG (w : World) : Prop := Lib.TabIs Tryd.prog w "internal/strconv.uint64pow10" .u64 Lib.pow10Tab
noncomputable def E2 : Env := { P := Tryd.prog, G := fun w => MaxG 0 w ∧ TabG w, NG := 4 }
theorem tabNamed : Tryd.prog.globalNamed "internal/strconv.uint64pow10" = some 3 := by kernel_rfl
theorem TabG.stay {w w' : World} (h : ∀ b, b < 4 → w'.heap[b]? = w.heap[b]?) (ht : TabG w) : TabG w' := by
  unfold TabG Lib.TabIs World.var? at *
  rw [tabNamed] at ht ⊢
  simp only [Option.bind_some] at ht ⊢
  rw [h 3 (by decide)]
  exact ht
theorem ok2 : E2.Ok := ⟨ok.name, fun w w' h hg => ⟨ok.glob w w' (fun b hb => h b (Nat.lt_of_lt_of_le hb (show (0 + 1 : Nat) ≤ 4 by decide))) hg.1, hg.2.stay h⟩, ok.mixed⟩
theorem up {f : FuncId} {ds : List DV} {pr : PR} (h : Prim E f ds pr) : Prim E2 f ds pr := .of0 fun _ =>
  ⟨(h.run ok).1, fun S w vs hG hn hst hcr => (h.run ok).2 S w vs hG.1 (Nat.le_trans (show (0 + 1 : Nat) ≤ 4 by decide) hn) hst hcr⟩
theorem decDigits_eq : ∀ n, Lib.decDigits n = digs n := by
  intro n
  induction n using Nat.strongRecOn with
  | ind n ih =>
    rw [Lib.decDigits, digs]
    split
    · rename_i h
      rw [dig, Nat.mod_eq_of_lt h]
    · rw [ih (n / 10) (by omega)]
      rfl
theorem grown (w : World) (q : Nat) (os : Array Obj) : Below w.heap.size w (Go.Sort.grow (w.drewN q) os) :=
  ⟨rfl, rfl, rfl, by simp [Go.Sort.grow], fun i hi => by
    show ((w.drewN q).heap ++ os)[i]? = _
    exact Array.getElem?_append_left hi⟩
theorem Itoa (n : Nat) (hn : n < 1000000000) : Prim E2 54 [.int .i64 n] (.val (Str (digs n))) :=
  Prim.flat ((hasBody Tryd.func54 rfl)) (l := [.int .i64 (n : Int)]) rfl rfl fun w hG => (Tryd.strconv_Itoa n (by omega) (by omega) w hG.2).mono fun e w' ⟨h1, k, os, h2⟩ => ⟨by
    rw [h1]
    have : Lib.itoa (n : Int) = digs n := by
      unfold Lib.itoa
      rw [if_neg (by omega), Int.toNat_natCast, decDigits_eq]
    rw [this], by rw [h2]; exact grown _ _ _, Mo.any _ _⟩
theorem HasPrefix (s p : Txt) : Prim E2 39 [Str s, Str p] (.val (.bool (Lib.hasPrefix s p))) :=
  Prim.same ((hasBody Tryd.func39 rfl)) (l := [.string ⟨s.toArray⟩, .string ⟨p.toArray⟩]) rfl rfl fun w _ => Tryd.strings_HasPrefix ⟨s.toArray⟩ ⟨p.toArray⟩ w
theorem Replace (s old new : Txt) (n : Int) (hs : s.length < 4294967281) (h1 : 1 ≤ old.length) (hl : s.length + Lib.countB ⟨s.toArray⟩ ⟨old.toArray⟩ * new.length ≤ 140737488355328) : Prim E2 40 [Str s, Str old, Str new, .int .i64 n] (.val (Str (Lib.replace s old new n))) :=
  Prim.flat ((hasBody Tryd.func40 rfl)) (l := [.string ⟨s.toArray⟩, .string ⟨old.toArray⟩, .string ⟨new.toArray⟩, .int .i64 n]) rfl rfl fun w hG => by
    obtain ⟨m, hm⟩ := hG.1
    exact (Tryd.strings_Replace ⟨s.toArray⟩ ⟨old.toArray⟩ ⟨new.toArray⟩ n m w (by simpa [Lib.size_eq] using hs) hm (by simpa [Lib.size_eq] using h1) (by simpa [Lib.size_eq] using hl)).mono fun e w' ⟨h1, h2⟩ => ⟨h1, h2, Mo.any _ _⟩
end Go.Proofs.YtcanagkflbbmaaaDoor.L
