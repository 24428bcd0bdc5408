/- Lists of addresses, plainly: how one is read. -/
import Derived.Test.YtgajilieekhpjaaDoorPAddrLib
import Derived.Test.YtgajilieekhpjaaDoorX5
namespace Go.Proofs.Mine
open Go.RowKit Go.Proofs.YtgajilieekhpjaaDoorW.PrintWords Go.Proofs.YtgajilieekhpjaaDoorW.PrintLast Go.Proofs.YtgajilieekhpjaaDoor.X
set_option linter.unusedSimpArgs false

theorem j0L_rest (s : List UInt8) (name : ByteArray) : (j0L s name).2.2.2.1.size ≤ s.length := by
  unfold j0L
  split
  · rename_i hh
    obtain ⟨y, rfl⟩ := hd_cons hh
    split
    · show (BA _).size ≤ _
      rw [sizeN]
      have := skipL_len (Lib.cut (60 :: y).tail [62]).2.1
      have := cut_len2 (60 :: y).tail [62]
      simp only [List.tail_cons, List.length_cons] at *
      omega
    · exact Nat.zero_le _
  · show (BA s).size ≤ _
    rw [sizeN]
    exact Nat.le_refl _
theorem oneL_rest (l : List UInt8) : (oneL l).2.2.2.1.size ≤ l.length := by
  unfold oneL
  have hs := skipL_len l
  generalize skipL l = s at *
  split
  · split
    · split
      · refine Nat.le_trans (j0L_rest _ _) ?_
        have := skipL_len (s.drop (unqL (Nm s)).2.1.toNat)
        rw [List.length_drop] at this
        omega
      · exact Nat.zero_le _
    · exact Nat.zero_le _
  · refine Nat.le_trans (j0L_rest _ _) ?_
    rw [List.length_drop]
    omega
/-- The address that was read. -/
def addrOf (r : R5) : S33 := ⟨r.1, r.2.1, r.2.2.1⟩
def parseN : Nat → List UInt8 → Option (List S33)
  | 0, _ => none
  | n + 1, l => if (oneL l).2.2.2.2 = true then (match (oneL l).2.2.2.1.data.toList with
      | [] => some [addrOf (oneL l)]
      | c :: r => if c = 44 then (parseN n r).map (addrOf (oneL l) :: ·) else none) else none
def outP (acc : List S33) : Option (List S33) → List S33 × Int
  | some r => (acc ++ r, 0)
  | none => ([], 3)
theorem parse_loop : ∀ (n : Nat) (l : List UInt8) (acc : List S33), l.length < n → l.length ≤ 1000000 → acc.length + l.length ≤ 2000000 →
    Ev (fun k => addr_Parse.l0 k (BA l) acc) (outP acc (parseN n l)) := by
  intro n
  induction n with
  | zero => intro l acc h; omega
  | succ n ih =>
    intro l acc hn hl ha
    have hr := oneL_rest l
    rw [parseN]
    refine Ev.step (fun k => addr_Parse.l0.eq_2 (BA l) acc k) ?_
    refine Ev.bind (one_ev l hl) ?_
    generalize oneL l = o at *
    obtain ⟨a, b, c, rest, ok⟩ := o
    simp only at hr ⊢
    have hrs : rest.data.toList.length = rest.size := (sizeN _).symm.trans (congrArg ByteArray.size (BA_data rest).symm)
    cases ok with
    | false =>
      rw [if_neg (by decide)]
      refine Ev.congr (fun k => if_neg (by decide)) ?_
      exact Ev.after fun k => by rw [addr_Parse.j1, if_pos rfl]; rfl
    | true =>
      rw [if_pos rfl]
      refine Ev.congr (fun k => if_pos rfl) ?_
      obtain ⟨⟨r0⟩⟩ := rest
      have hrd : (⟨⟨r0⟩⟩ : ByteArray).data.toList = r0 := rfl
      rw [hrd] at hrs ⊢
      have htl : (⟨⟨r0⟩⟩ : ByteArray).toList = r0 := toListN r0
      cases r0 with
      | nil =>
        refine Ev.congr (fun k => if_pos htl) ?_
        refine Ev.after fun k => ?_
        rw [addr_Parse.j1, if_neg (by decide), if_pos (by omega), Option.bind_some, if_pos htl]
        rfl
      | cons x r0 =>
        have hsz : (⟨⟨x :: r0⟩⟩ : ByteArray).size = r0.length + 1 := sizeN (x :: r0)
        have hbt : bt (⟨⟨x :: r0⟩⟩ : ByteArray) 0 = (x.toNat : Int) := bt_of (s := BA (x :: r0)) (pre := []) (l := Nm r0) (by rw [bytesOf_Nm]; rfl)
        refine Ev.congr (fun k => by rw [if_neg (by rw [htl]; simp), if_pos (by rw [hsz]; omega), hbt]) ?_
        simp only
        by_cases hx : x = 44
        · subst hx
          rw [if_pos rfl]
          have e : ∀ k, addr_Parse.j1 (k + 1) acc (⟨⟨44 :: r0⟩⟩ : ByteArray) (((44 : UInt8).toNat : Int) != 44) a b c = addr_Parse.l0 k (BA r0) (acc ++ [⟨a, b, c⟩]) := by
            intro k
            rw [addr_Parse.j1, if_neg (by decide), if_pos (by omega), Option.bind_some, if_neg (by rw [htl]; simp), if_pos (by rw [hsz]; omega)]
            rw [show (⟨⟨44 :: r0⟩⟩ : ByteArray) = BA (44 :: r0) from rfl, ext_from]
            rfl
          refine Ev.step e ?_
          refine Ev.eq (ih r0 (acc ++ [⟨a, b, c⟩]) (by simp at hrs; omega) (by simp at hrs; omega) (by simp at hrs; simp; omega)) ?_
          cases parseN n r0 with
          | none => rfl
          | some v => simp [outP, addrOf]
        · rw [if_neg hx]
          have hne : ((x.toNat : Int) != 44) = true := by
            rw [bne_iff_ne]
            intro h
            exact hx (UInt8.toNat_inj.1 (by show x.toNat = 44; omega))
          rw [hne]
          exact Ev.after fun k => by rw [addr_Parse.j1, if_pos rfl]; rfl
def parseL (l : List UInt8) : List S33 × Int := if skipL l = [] then ([], 0) else outP [] (parseN (l.length + 1) l)
theorem parse_ev (l : List UInt8) (h : l.length ≤ 1000000) : Ev (fun k => addr_Parse.f k (BA l)) (parseL l) := by
  unfold parseL
  refine Ev.congr (fun k => by unfold addr_Parse.f; rw [skip_eq, Option.bind_some, toListN]) ?_
  by_cases h0 : skipL l = []
  · rw [if_pos h0]
    exact Ev.congr (fun k => if_pos h0) (Ev.now _)
  · rw [if_neg h0]
    exact Ev.congr (fun k => if_neg h0) (parse_loop _ l [] (by omega) h (by simp; omega))
end Go.Proofs.Mine
