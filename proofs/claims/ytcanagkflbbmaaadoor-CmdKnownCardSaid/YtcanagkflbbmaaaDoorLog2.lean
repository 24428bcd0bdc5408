/- A logic over data. -/
import Derived.Test.YtcanagkflbbmaaaDoorLog1
import Derived.Sort.Grow
import Derived.ChangeArms
import Derived.ChangeSame
import Derived.SizedLaws
import Derived.DataReads
set_option linter.unusedVariables false
set_option linter.unusedSimpArgs false
/- The logic: registers as a list; loops; operations on data that is not known. -/
set_option linter.unusedVariables false
namespace Go.Dev
variable {H : Heap}

/-- Registers, told one by one. -/
def mk : List (Nat × DV) → Tr
  | [] => .e
  | (t, d) :: l => (mk l).set t d
def Has (ρ : Tr) : List (Nat × DV) → Prop
  | [] => True
  | (t, d) :: l => ρ.get t = d ∧ Has ρ l

theorem mk_get {ρ : Tr} : ∀ (rs : List (Nat × DV)) (t : Nat), Has ρ rs → (mk rs).get t = .und ∨ (mk rs).get t = ρ.get t
  | [], t, _ => .inl rfl
  | (u, d) :: l, t, h => by
    simp only [mk]
    rw [Tr.get_set]
    by_cases e : t = u
    · subst e; rw [if_pos rfl]; exact .inr h.1.symm
    · rw [if_neg e]; exact mk_get l t h.2

/-- The rows that are still used. -/
def HeapLe (H' H : Heap) : Prop := H'.length = H.length ∧ ∀ (i : Nat) (o : Ob), H'[i]? = some o → o = Ob.dead ∨ H[i]? = some o
theorem HeapLe.refl (H : Heap) : HeapLe H H := ⟨rfl, fun _ _ h => .inr h⟩
theorem Le.regs {ρ : Tr} {rs : List (Nat × DV)} {H' : Heap} (h : Has ρ rs) (hh : HeapLe H' H) : Le (Dev.mk rs, H') (ρ, H) := ⟨fun t => mk_get rs t h, hh.1, hh.2⟩

section
variable {E : Env} {n n0 : Nat} {ρ : Tr} {N : St → Prop} {A : Ex → St → Prop} {c : Code} {s : St}

/-- Only some registers count from here on. -/
theorem T.at_ (rs : List (Nat × DV)) (h : Has ρ rs) (ht : T E n c (mk rs, H) N A) : T E n c (ρ, H) N A := .weak (Le.regs h (.refl _)) ht

/-- All registers told name only the first rows. -/
def BdL (k : Nat) : List (Nat × DV) → Prop
  | [] => True
  | p :: l => Bd k p.2 ∧ BdL k l
theorem mk_bd {k : Nat} : ∀ (rs : List (Nat × DV)), BdL k rs → ∀ t, Bd k ((mk rs).get t)
  | [], _, t => .und
  | (u, d) :: l, h, t => by
    simp only [mk]
    rw [Tr.get_set]
    split
    · exact h.1
    · exact mk_bd l h.2 t
def BdH (k : Nat) : Heap → Prop
  | [] => True
  | o :: l => BdO k o ∧ BdH k l
theorem BdH.mem {k : Nat} : ∀ {H : Heap}, BdH k H → ∀ o ∈ H, BdO k o
  | [], _, o, h => by cases h
  | x :: l, h, o, ho => by
    rcases List.mem_cons.1 ho with rfl | ho
    · exact h.1
    · exact BdH.mem h.2 o ho
theorem LeT.regs {ρ : Tr} {rs : List (Nat × DV)} {H' : Heap} {b : Nat} (h : Has ρ rs) (hh : HeapLe H' (H.take H'.length)) (hl : H'.length ≤ H.length) (hb : b ≤ H'.length) (h1 : BdL H'.length rs) (h2 : BdH H'.length H') : LeT b (Dev.mk rs, H') (ρ, H) := by
  refine ⟨H' ++ H.drop H'.length, ⟨fun t => mk_get rs t h, by simp; omega, fun i o ho => ?_⟩, by simp, by simp, hb, mk_bd rs h1, h2.mem⟩
  by_cases hi : i < H'.length
  · rw [List.getElem?_append_left hi] at ho
    rcases hh.2 i o ho with e | e
    · exact .inl e
    · rw [List.getElem?_take, if_pos hi] at e
      exact .inr e
  · rw [List.getElem?_append_right (by omega), List.getElem?_drop] at ho
    exact .inr (by rw [← ho]; congr 1; omega)

/-- A loop: x: what its rounds know; R x, Hp x: registers and rows at its head; m x falls. -/
theorem T.for_ {α : Type} (ok : α → Prop) (R : α → List (Nat × DV)) (Hp : α → Heap) (m : α → Nat) (x0 : α) (h0 : ok x0) (hr : Has s.1 (R x0)) (hh : s.2 = Hp x0)
    (hbody : ∀ x, ok x → T E n c (mk (R x), Hp x) (fun s1 => ∃ y, ok y ∧ m y < m x ∧ Has s1.1 (R y) ∧ HeapLe (Hp y) s1.2) A) : T E n (.loop c) s N A := by
  obtain ⟨ρ, H⟩ := s
  refine T.loop (fun k s' => ∃ x, ok x ∧ m x = k ∧ s' = (mk (R x), Hp x)) (m x0) ⟨_, Le.regs hr (HeapLe.refl _), x0, h0, rfl, by rw [show H = Hp x0 from hh]⟩ fun k s' ⟨x, hx, hk, e⟩ => ?_
  subst e hk
  exact (hbody x hx).mono (fun s1 ⟨y, h1, h2, h3, h4⟩ => ⟨_, Le.regs h3 h4, m y, h2, y, h1, rfl, rfl⟩) (fun _ _ h => h)
/-- The same, where rounds leave rows behind that nobody uses. -/
theorem T.forT {α : Type} (ok : α → Prop) (R : α → List (Nat × DV)) (Hp : α → Heap) (m : α → Nat) (x0 : α) (h0 : ok x0) (hr : Has s.1 (R x0)) (hh : HeapLe (Hp x0) (s.2.take (Hp x0).length) ∧ (Hp x0).length ≤ s.2.length) (hb : ∀ x, ok x → E.b ≤ (Hp x).length ∧ BdL (Hp x).length (R x) ∧ BdH (Hp x).length (Hp x))
    (hbody : ∀ x, ok x → T E n c (mk (R x), Hp x) (fun s1 => ∃ y, ok y ∧ m y < m x ∧ Has s1.1 (R y) ∧ HeapLe (Hp y) (s1.2.take (Hp y).length) ∧ (Hp y).length ≤ s1.2.length) A) : T E n (.loop c) s N A := by
  obtain ⟨ρ, H⟩ := s
  have le : ∀ y, ok y → ∀ s1 : St, Has s1.1 (R y) → HeapLe (Hp y) (s1.2.take (Hp y).length) → (Hp y).length ≤ s1.2.length → LeT E.b (mk (R y), Hp y) s1 := fun y hy s1 h1 h2 h3 => LeT.regs h1 h2 h3 (hb y hy).1 (hb y hy).2.1 (hb y hy).2.2
  refine T.loopT (fun k s' => ∃ x, ok x ∧ m x = k ∧ s' = (mk (R x), Hp x)) (m x0) ⟨_, le x0 h0 (ρ, H) hr hh.1 hh.2, x0, h0, rfl, rfl⟩ fun k s' ⟨x, hx, hk, e⟩ => ?_
  subst e hk
  exact (hbody x hx).mono (fun s1 ⟨y, h1, h2, h3, h4, h5⟩ => ⟨_, le y h1 s1 h3 h4 h5, m y, h2, y, h1, rfl, rfl⟩) (fun _ _ h => h)

/-! Data -/
/-- A text. -/
def Str (l : List UInt8) : DV := .str ⟨l.toArray⟩
/-- A slice of bytes, as data. -/
def Byt (l : List UInt8) : DV := .imm 1 (l.map byteDV)
theorem Flt.Str (l : List UInt8) : Flt (Str l) := .str _
theorem Str_str (s : ByteArray) : Str s.data.toList = .str s := rfl

variable {dst : Option Tmp} {ty : TypeId} {pos : String} {aft : Array Edge} {gd : Option (Nat × Bool)} {t : TypeId} {x y i : Operand} {k : IntKind} {l : List UInt8}

/-- A byte of a text. -/
theorem Rc.idxS {j : Nat} (hx : opd ρ x = Str l) (hi : opd ρ i = .int k (j : Int)) (hu : E.P.underlying t = some .string) (hj : j < l.length) : Rc E n n0 H ρ ⟨dst, .index t x i, ty, pos, aft, gd⟩ ⟨.int .u8 (l[j].toNat : Int), H, .P⟩ := by
  refine Rc.val ?_
  simp only [evN, hu, hx, Str, hi, intOf]
  rw [if_pos (by omega)]
  simp [hj, byteDV]

theorem wrap_ok {z : Int} (h : -9223372036854775808 ≤ z) (h' : z ≤ 9223372036854775807) : IntKind.wrap .i64 z = z := by
  rw [IntKind.wrap_i64]; omega

theorem Rc.add {a b : Int} (hx : opd ρ x = .int .i64 a) (hy : opd ρ y = .int .i64 b) (h : -9223372036854775808 ≤ a + b ∧ a + b ≤ 9223372036854775807) : Rc E n n0 H ρ ⟨dst, .binOp .add t x y ty, ty, pos, aft, gd⟩ ⟨.int .i64 (a + b), H, .P⟩ := by
  refine Rc.val ?_
  simp only [evN, binV, hx, hy, if_true, intBin, wrap_ok h.1 h.2]
end
end Go.Dev
namespace Go.Dev
/-- Does an operation tell whether others of its region are wanted? -/
def isGd (ops : Array Oper) (t : Tmp) : Bool := ops.toList.any fun q => match q.guard with
    | some (j, _) => (match ops[j]? with | some p => (match p.dst with | some u => u == t | none => false) | none => false)
    | none => false

/-- A value in plain words. -/
def Nm (a b : DV) : Prop := a = b
theorem Nm.Str {l : List UInt8} : Nm (Str l) (Str l) := rfl
theorem Nm.Byt {l : List UInt8} : Nm (Byt l) (Byt l) := rfl
theorem Nm.bool {b : Bool} : Nm (.bool b) (.bool b) := rfl
theorem Nm.int {k : IntKind} {z : Int} : Nm (.int k z) (.int k z) := rfl
theorem Nm.str {s : ByteArray} : Nm (.str s) (.str s) := rfl
theorem Nm.ref {a b c d e f : Nat} : Nm (.ref a b c d e f) (.ref a b c d e f) := rfl
theorem Nm.imm {a : Nat} {l : List DV} : Nm (.imm a l) (.imm a l) := rfl
theorem Nm.ptr {a b c d e : Nat} : Nm (.ptr a b c d e) (.ptr a b c d e) := rfl
theorem Nm.ipt {d : DV} {o : Nat} : Nm (.ipt d o) (.ipt d o) := rfl
theorem Nm.nils : Nm .nils .nils := rfl
theorem Nm.nilp : Nm .nilp .nilp := rfl
theorem Nm.nilm : Nm .nilm .nilm := rfl
theorem Nm.nilf : Nm .nilf .nilf := rfl
theorem Nm.nili : Nm .nili .nili := rfl
theorem Nm.und : Nm .und .und := rfl
theorem Nm.mp {r : Nat} : Nm (.mp r) (.mp r) := rfl
theorem Nm.fn0 {f : FuncId} : Nm (.fn f []) (.fn f []) := rfl
theorem Nm.fn1 {f : FuncId} {a : DV} : Nm (.fn f [a]) (.fn f [a]) := rfl
theorem Nm.fn {f : FuncId} {l : List DV} : Nm (.fn f l) (.fn f l) := rfl
theorem Nm.bfn {f : FuncId} {d : DV} : Nm (.bfn f d) (.bfn f d) := rfl
theorem Nm.iface {t : TypeId} {d : DV} : Nm (.iface t d) (.iface t d) := rfl
theorem Nm.tup0 : Nm (.tup []) (.tup []) := rfl
theorem Nm.tup2 {a b : DV} : Nm (.tup [a, b]) (.tup [a, b]) := rfl
theorem Nm.tup3 {a b c : DV} : Nm (.tup [a, b, c]) (.tup [a, b, c]) := rfl
theorem Nm.tup4 {a b c d : DV} : Nm (.tup [a, b, c, d]) (.tup [a, b, c, d]) := rfl
theorem Nm.agg1 {a : DV} : Nm (.agg [a]) (.agg [a]) := rfl
theorem Nm.agg2 {a b : DV} : Nm (.agg [a, b]) (.agg [a, b]) := rfl
theorem Nm.agg3 {a b c : DV} : Nm (.agg [a, b, c]) (.agg [a, b, c]) := rfl
theorem Nm.agg4 {a b c d : DV} : Nm (.agg [a, b, c, d]) (.agg [a, b, c, d]) := rfl
theorem Nm.agg5 {a b c d e : DV} : Nm (.agg [a, b, c, d, e]) (.agg [a, b, c, d, e]) := rfl
theorem Nm.agg6 {a b c d e f : DV} : Nm (.agg [a, b, c, d, e, f]) (.agg [a, b, c, d, e, f]) := rfl
theorem Nm.agg7 {a b c d e f g : DV} : Nm (.agg [a, b, c, d, e, f, g]) (.agg [a, b, c, d, e, f, g]) := rfl
theorem Nm.agg {l : List DV} : Nm (.agg l) (.agg l) := rfl
theorem Nm.tup {l : List DV} : Nm (.tup l) (.tup l) := rfl

section
variable {E : Env} {n n0 : Nat} {ρ : Tr} {N : St → Prop} {ops : Array Oper} {l : List Oper} {H Hr : Heap} {cs : List Cls} {t : Tmp} {op : Op} {ty : TypeId} {pos : String} {aft : Array Edge} {gd : Option (Nat × Bool)} {d d0 : DV} {k : Cls} {b : Bool} {p : Prop}

theorem WS.st (hr : Rc E n 0 H ρ ⟨some t, op, ty, pos, aft, gd⟩ ⟨d0, Hr, k⟩) (hn : Nm d0 d) (hd : decide (t < n) = true) (hw : wantA ops ρ ⟨some t, op, ty, pos, aft, gd⟩ = some true) (h : WS E n ops l (ρ.set t d, Hr) N) : WS E n ops (⟨some t, op, ty, pos, aft, gd⟩ :: l) (ρ, H) N := by
  cases hn
  exact WS.step hd hw hr h
theorem WS.st0 (hr : Rc E n 0 H ρ ⟨none, op, ty, pos, aft, gd⟩ ⟨d0, Hr, k⟩) (hw : wantA ops ρ ⟨none, op, ty, pos, aft, gd⟩ = some true) (h : WS E n ops l (ρ, Hr) N) : WS E n ops (⟨none, op, ty, pos, aft, gd⟩ :: l) (ρ, H) N := WS.step rfl hw hr h
theorem WS.sk (hd : decide (t < n) = true) (hw : wantA ops ρ ⟨some t, op, ty, pos, aft, gd⟩ = some false) (h : WS E n ops l (ρ.set t (.tup []), H) N) : WS E n ops (⟨some t, op, ty, pos, aft, gd⟩ :: l) (ρ, H) N := WS.skip hd hw h
theorem WS.sk0 (hw : wantA ops ρ ⟨none, op, ty, pos, aft, gd⟩ = some false) (h : WS E n ops l (ρ, H) N) : WS E n ops (⟨none, op, ty, pos, aft, gd⟩ :: l) (ρ, H) N := WS.skip rfl hw h
theorem WS.guarding (_ : isGd ops t = true) (h : WS E n ops (⟨some t, op, ty, pos, aft, gd⟩ :: l) (ρ, H) N) : WS E n ops (⟨some t, op, ty, pos, aft, gd⟩ :: l) (ρ, H) N := h
theorem WR.guarding (_ : isGd ops t = true) (h : WR E n n0 ops (⟨some t, op, ty, pos, aft, gd⟩ :: l) (ρ, H) cs N) : WR E n n0 ops (⟨some t, op, ty, pos, aft, gd⟩ :: l) (ρ, H) cs N := h
theorem WS.spB (_ : isGd ops t = true) (hr : Rc E n 0 H ρ ⟨some t, op, ty, pos, aft, gd⟩ ⟨.bool b, Hr, k⟩) (hd : decide (t < n) = true) (hw : wantA ops ρ ⟨some t, op, ty, pos, aft, gd⟩ = some true) (h1 : b = true → WS E n ops l (ρ.set t (.bool true), Hr) N) (h0 : b = false → WS E n ops l (ρ.set t (.bool false), Hr) N) : WS E n ops (⟨some t, op, ty, pos, aft, gd⟩ :: l) (ρ, H) N := by
  cases b with
  | true => exact WS.st hr rfl hd hw (h1 rfl)
  | false => exact WS.st hr rfl hd hw (h0 rfl)
theorem WS.spD [Decidable p] (hg : isGd ops t = true) (hr : Rc E n 0 H ρ ⟨some t, op, ty, pos, aft, gd⟩ ⟨.bool (decide p), Hr, k⟩) (hd : decide (t < n) = true) (hw : wantA ops ρ ⟨some t, op, ty, pos, aft, gd⟩ = some true) (h1 : p → WS E n ops l (ρ.set t (.bool true), Hr) N) (h0 : ¬ p → WS E n ops l (ρ.set t (.bool false), Hr) N) : WS E n ops (⟨some t, op, ty, pos, aft, gd⟩ :: l) (ρ, H) N :=
  WS.spB hg hr hd hw (fun h => h1 (of_decide_eq_true h)) (fun h => h0 (of_decide_eq_false h))

theorem WR.st (hr : Rc E n n0 H (rstr ρ (looks ops ⟨some t, op, ty, pos, aft, gd⟩)) ⟨some t, op, ty, pos, aft, gd⟩ ⟨d0, Hr, k⟩) (hn : Nm d0 d) (hd : decide (t < n) = true) (hw : wantA ops (rstr ρ (looks ops ⟨some t, op, ty, pos, aft, gd⟩)) ⟨some t, op, ty, pos, aft, gd⟩ = some true) (h : WR E n n0 ops l (ρ.set t d, Hr) (cs ++ [k]) N) : WR E n n0 ops (⟨some t, op, ty, pos, aft, gd⟩ :: l) (ρ, H) cs N := by
  cases hn
  exact WR.step hd hw hr h
theorem WR.st0 (hr : Rc E n n0 H (rstr ρ (looks ops ⟨none, op, ty, pos, aft, gd⟩)) ⟨none, op, ty, pos, aft, gd⟩ ⟨d0, Hr, k⟩) (hw : wantA ops (rstr ρ (looks ops ⟨none, op, ty, pos, aft, gd⟩)) ⟨none, op, ty, pos, aft, gd⟩ = some true) (h : WR E n n0 ops l (ρ, Hr) (cs ++ [k]) N) : WR E n n0 ops (⟨none, op, ty, pos, aft, gd⟩ :: l) (ρ, H) cs N := WR.step rfl hw hr h
theorem WR.sk (hd : decide (t < n) = true) (hw : wantA ops (rstr ρ (looks ops ⟨some t, op, ty, pos, aft, gd⟩)) ⟨some t, op, ty, pos, aft, gd⟩ = some false) (h : WR E n n0 ops l (ρ.set t (.tup []), H) (cs ++ [.P]) N) : WR E n n0 ops (⟨some t, op, ty, pos, aft, gd⟩ :: l) (ρ, H) cs N := WR.skip hd hw h
theorem WR.sk0 (hw : wantA ops (rstr ρ (looks ops ⟨none, op, ty, pos, aft, gd⟩)) ⟨none, op, ty, pos, aft, gd⟩ = some false) (h : WR E n n0 ops l (ρ, H) (cs ++ [.P]) N) : WR E n n0 ops (⟨none, op, ty, pos, aft, gd⟩ :: l) (ρ, H) cs N := WR.skip rfl hw h
theorem WR.spB (_ : isGd ops t = true) (hr : Rc E n n0 H (rstr ρ (looks ops ⟨some t, op, ty, pos, aft, gd⟩)) ⟨some t, op, ty, pos, aft, gd⟩ ⟨.bool b, Hr, k⟩) (hd : decide (t < n) = true) (hw : wantA ops (rstr ρ (looks ops ⟨some t, op, ty, pos, aft, gd⟩)) ⟨some t, op, ty, pos, aft, gd⟩ = some true) (h1 : b = true → WR E n n0 ops l (ρ.set t (.bool true), Hr) (cs ++ [k]) N) (h0 : b = false → WR E n n0 ops l (ρ.set t (.bool false), Hr) (cs ++ [k]) N) : WR E n n0 ops (⟨some t, op, ty, pos, aft, gd⟩ :: l) (ρ, H) cs N := by
  cases b with
  | true => exact WR.st hr rfl hd hw (h1 rfl)
  | false => exact WR.st hr rfl hd hw (h0 rfl)
theorem WR.spD [Decidable p] (hg : isGd ops t = true) (hr : Rc E n n0 H (rstr ρ (looks ops ⟨some t, op, ty, pos, aft, gd⟩)) ⟨some t, op, ty, pos, aft, gd⟩ ⟨.bool (decide p), Hr, k⟩) (hd : decide (t < n) = true) (hw : wantA ops (rstr ρ (looks ops ⟨some t, op, ty, pos, aft, gd⟩)) ⟨some t, op, ty, pos, aft, gd⟩ = some true) (h1 : p → WR E n n0 ops l (ρ.set t (.bool true), Hr) (cs ++ [k]) N) (h0 : ¬ p → WR E n n0 ops l (ρ.set t (.bool false), Hr) (cs ++ [k]) N) : WR E n n0 ops (⟨some t, op, ty, pos, aft, gd⟩ :: l) (ρ, H) cs N :=
  WR.spB hg hr hd hw (fun h => h1 (of_decide_eq_true h)) (fun h => h0 (of_decide_eq_false h))

variable {x y i : Operand} {dst : Option Tmp} {tt tu : TypeId} {kk : IntKind}

/-- A text out of a row's piece. -/
theorem elemsOf_ref {r off len sz g cl : Nat} {R : Row} (hr : H[r]? = some (.row R)) (hg : R.g = g) (hz : R.sz = sz) (ho : off + len ≤ R.elems.length) : elemsOf H (.ref r off len sz g cl) = some (sz, (R.elems.drop off).take len) := by
  simp only [elemsOf, hr]
  rw [if_pos ⟨hg, hz, ho⟩]
theorem byteOf_DV (b : UInt8) : byteOf (byteDV b) = some b := by simp [byteDV, byteOf]
theorem bytes_back : ∀ (m : List UInt8), allSome ((m.map byteDV).map byteOf) = some m
  | [] => rfl
  | b :: m => by
    show allSome (byteOf (byteDV b) :: _) = _
    rw [byteOf_DV, allSome, bytes_back m]
    rfl
def isNils : DV → Bool | .nils => true | _ => false
theorem evN_cvt {e : TypeId} {m : List UInt8} {d : DV} (h1 : E.P.underlying tt = some (.slice e)) (h2 : E.P.underlying tu = some .string) (h3 : E.P.underlying e = some (.int .u8)) (hx : opd ρ x = d) (hd : isNils d = false) (he : elemsOf H d = some (1, m.map byteDV)) : evN E.P H (opd ρ) (.convert tt tu x) = some (Str m) := by
  simp only [evN, h1, h2, h3, hx]
  cases d <;> first
    | (simp only [he, bytes_back, Option.map_some]; rfl)
    | cases hd
/-- string(b), of a row's piece. -/
theorem Rc.cvR {e : TypeId} {m : List UInt8} {r off len g cl : Nat} {R : Row} (hx : opd ρ x = .ref r off len 1 g cl) (hr : H[r]? = some (.row R)) (hg : R.g = g) (hz : R.sz = 1) (h1 : E.P.underlying tt = some (.slice e)) (h2 : E.P.underlying tu = some .string) (h3 : E.P.underlying e = some (.int .u8)) (ho : off + len ≤ R.elems.length) (he : (R.elems.drop off).take len = m.map byteDV) :
    Rc E n n0 H ρ ⟨dst, .convert tt tu x, ty, pos, aft, gd⟩ ⟨Dev.Str m, H, .A⟩ := Rc.a (evN_cvt h1 h2 h3 hx rfl (by rw [elemsOf_ref hr hg hz ho, he]))
/-- string(b), of data. -/
theorem Rc.cvI {e : TypeId} {m : List UInt8} (hx : opd ρ x = Byt m) (h1 : E.P.underlying tt = some (.slice e)) (h2 : E.P.underlying tu = some .string) (h3 : E.P.underlying e = some (.int .u8)) :
    Rc E n n0 H ρ ⟨dst, .convert tt tu x, ty, pos, aft, gd⟩ ⟨Dev.Str m, H, .P⟩ := Rc.val (evN_cvt h1 h2 h3 hx rfl rfl)

/-- An element of a row, by its place. -/
theorem Rc.ixR {e : TypeId} {j r off len sz g cl : Nat} (hx : opd ρ x = .ref r off len sz g cl) (hi : opd ρ i = .int kk (j : Int)) (hu : E.P.underlying tt = some (.slice e)) (hz : size E.P e = some sz) (hj : j < len) : Rc E n n0 H ρ ⟨dst, .indexAddr tt x i, ty, pos, aft, gd⟩ ⟨.ptr r (off + j) 0 sz g, H, .P⟩ := by
  refine Rc.val ?_
  simp only [evN, hu, hx, hi, intOf, hz, Int.toNat_natCast]
  rw [if_pos (by omega), if_pos (by simpa using hj)]
/-- An element of a list that is data. -/
theorem Rc.ixI {e : TypeId} {j sz : Nat} {xs : List DV} (hx : opd ρ x = .imm sz xs) (hi : opd ρ i = .int kk (j : Int)) (hu : E.P.underlying tt = some (.slice e)) (hz : size E.P e = some sz) (hj : j < xs.length) : Rc E n n0 H ρ ⟨dst, .indexAddr tt x i, ty, pos, aft, gd⟩ ⟨.ipt xs[j] 0, H, .P⟩ := by
  refine Rc.val ?_
  simp only [evN, hu, hx, hi, intOf, hz, Int.toNat_natCast]
  rw [if_pos (by omega)]
  simp [hj]
/-- A byte of a slice that is data. -/
theorem Rc.ixB {e : TypeId} {j : Nat} {m : List UInt8} (hx : opd ρ x = Byt m) (hi : opd ρ i = .int kk (j : Int)) (hu : E.P.underlying tt = some (.slice e)) (hz : size E.P e = some 1) (hj : j < m.length) : Rc E n n0 H ρ ⟨dst, .indexAddr tt x i, ty, pos, aft, gd⟩ ⟨.ipt (.int .u8 (m[j].toNat : Int)) 0, H, .P⟩ := by
  refine Rc.val ?_
  simp only [evN, hu, hx, Byt, hi, intOf, hz, Int.toNat_natCast]
  rw [if_pos (by omega)]
  simp [hj, byteDV]
theorem Rc.ixR0 {e : TypeId} {j r len sz g cl : Nat} (hx : opd ρ x = .ref r 0 len sz g cl) (hi : opd ρ i = .int kk (j : Int)) (hu : E.P.underlying tt = some (.slice e)) (hz : size E.P e = some sz) (hj : j < len) : Rc E n n0 H ρ ⟨dst, .indexAddr tt x i, ty, pos, aft, gd⟩ ⟨.ptr r j 0 sz g, H, .P⟩ := by
  have := Rc.ixR (E := E) (n := n) (n0 := n0) (H := H) (dst := dst) (ty := ty) (pos := pos) (aft := aft) (gd := gd) hx hi hu hz hj
  rwa [Nat.zero_add] at this
/-- A byte read from a row. -/
theorem evN_ld {r j g : Nat} {R : Row} {e : DV} (ha : aggT E.P tt = some false) (hx : opd ρ x = .ptr r j 0 1 g) (hr : H[r]? = some (.row R)) (hg : R.g = g) (hz : R.sz = 1) (he : R.elems[j]? = some e) (hc : e.cells = [e]) : evN E.P H (opd ρ) (.load tt x) = some e := by
  simp only [evN, hx, hr]
  rw [if_pos ⟨hg, hz⟩, he]
  simp only [Option.bind_some, partOf, ha, hc]
  rfl
/-- Texts alike. -/
theorem Rc.eqS {a b : List UInt8} (hx : opd ρ x = Dev.Str a) (hy : opd ρ y = Dev.Str b) : Rc E n n0 H ρ ⟨dst, .binOp .eql tt x y tu, ty, pos, aft, gd⟩ ⟨.bool (decide (a = b)), H, .P⟩ := by
  refine Rc.val ?_
  simp only [evN, binV, hx, hy, Dev.Str, strBin]
  congr 2
  by_cases h : a = b <;> simp [h]
theorem Rc.neS {a b : List UInt8} (hx : opd ρ x = Dev.Str a) (hy : opd ρ y = Dev.Str b) : Rc E n n0 H ρ ⟨dst, .binOp .neq tt x y tu, ty, pos, aft, gd⟩ ⟨.bool (decide (a ≠ b)), H, .P⟩ := by
  refine Rc.val ?_
  simp only [evN, binV, hx, hy, Dev.Str, strBin]
  congr 2
  by_cases h : a = b <;> simp [h]
theorem Rc.ltS {a b : List UInt8} (hx : opd ρ x = Dev.Str a) (hy : opd ρ y = Dev.Str b) : Rc E n n0 H ρ ⟨dst, .binOp .lss tt x y tu, ty, pos, aft, gd⟩ ⟨.bool (Op.bytesLess a b), H, .P⟩ := by
  refine Rc.val ?_
  simp only [evN, binV, hx, hy, Dev.Str, strBin]
theorem Rc.gtS {a b : List UInt8} (hx : opd ρ x = Dev.Str a) (hy : opd ρ y = Dev.Str b) : Rc E n n0 H ρ ⟨dst, .binOp .gtr tt x y tu, ty, pos, aft, gd⟩ ⟨.bool (!(Op.bytesLess a b || a == b)), H, .P⟩ := by
  refine Rc.val ?_
  simp only [evN, binV, hx, hy, Dev.Str, strBin]
theorem Rc.eqI {a b : Int} {k : IntKind} (hx : opd ρ x = .int k a) (hy : opd ρ y = .int k b) : Rc E n n0 H ρ ⟨dst, .binOp .eql tt x y tu, ty, pos, aft, gd⟩ ⟨.bool (decide (a = b)), H, .P⟩ := by
  refine Rc.val ?_
  simp only [evN, binV, hx, hy, if_true, intBin]
  congr 2
theorem Rc.neI {a b : Int} {k : IntKind} (hx : opd ρ x = .int k a) (hy : opd ρ y = .int k b) : Rc E n n0 H ρ ⟨dst, .binOp .neq tt x y tu, ty, pos, aft, gd⟩ ⟨.bool (decide (a ≠ b)), H, .P⟩ := by
  refine Rc.val ?_
  simp only [evN, binV, hx, hy, if_true, intBin]
  congr 2
  by_cases h : a = b <;> simp [h]
theorem Rc.notD {p : Prop} [Decidable p] (hx : opd ρ x = .bool (decide p)) : Rc E n n0 H ρ ⟨dst, .unOp .not tt x, ty, pos, aft, gd⟩ ⟨.bool (decide ¬ p), H, .P⟩ := by
  refine Rc.val ?_
  simp only [evN, hx]
  congr 2
  by_cases h : p <;> simp [h]
theorem Rc.subI {a b : Int} (hx : opd ρ x = .int .i64 a) (hy : opd ρ y = .int .i64 b) (h : -9223372036854775808 ≤ a - b ∧ a - b ≤ 9223372036854775807) : Rc E n n0 H ρ ⟨dst, .binOp .sub tt x y tu, ty, pos, aft, gd⟩ ⟨.int .i64 (a - b), H, .P⟩ := by
  refine Rc.val ?_
  simp only [evN, binV, hx, hy, if_true, intBin, wrap_ok h.1 h.2]
theorem Rc.lenS {a : List UInt8} (hx : opd ρ x = Dev.Str a) (hu : E.P.underlying tt = some .string) : Rc E n n0 H ρ ⟨dst, .call { callee := .builtin .len, args := #[x], argTypes := #[tt] }, ty, pos, aft, gd⟩ ⟨.int .i64 (a.length : Int), H, .P⟩ := by
  refine Rc.val ?_
  simp only [evN, List.getElem?_toArray, List.getElem?_cons_zero, hu, hx, Dev.Str]
theorem Rc.lenB {a : List UInt8} {e : TypeId} (hx : opd ρ x = Byt a) (hu : E.P.underlying tt = some (.slice e)) : Rc E n n0 H ρ ⟨dst, .call { callee := .builtin .len, args := #[x], argTypes := #[tt] }, ty, pos, aft, gd⟩ ⟨.int .i64 (a.length : Int), H, .P⟩ := by
  refine Rc.val ?_
  simp only [evN, List.getElem?_toArray, List.getElem?_cons_zero, hu, hx, Byt, List.length_map]
/-- A slice whose elements are told one by one: l.map f. -/
theorem Rc.lenM {α : Type} {g : α → DV} {a : List α} {e : TypeId} {z : Nat} (hx : opd ρ x = .imm z (a.map g)) (hu : E.P.underlying tt = some (.slice e)) : Rc E n n0 H ρ ⟨dst, .call { callee := .builtin .len, args := #[x], argTypes := #[tt] }, ty, pos, aft, gd⟩ ⟨.int .i64 (a.length : Int), H, .P⟩ := by
  refine Rc.val ?_
  simp only [evN, List.getElem?_toArray, List.getElem?_cons_zero, hu, hx, List.length_map]
theorem Rc.ixM {α : Type} {g : α → DV} {a : List α} {e : TypeId} {j z : Nat} (hx : opd ρ x = .imm z (a.map g)) (hi : opd ρ i = .int kk (j : Int)) (hu : E.P.underlying tt = some (.slice e)) (hz : size E.P e = some z) (hj : j < a.length) : Rc E n n0 H ρ ⟨dst, .indexAddr tt x i, ty, pos, aft, gd⟩ ⟨.ipt (g a[j]) 0, H, .P⟩ := by
  refine Rc.val ?_
  simp only [evN, hu, hx, hi, intOf, hz, Int.toNat_natCast]
  rw [if_pos (by omega)]
  simp [hj]
/-- An element of one cell, read from a row. -/
theorem Rc.ld {r j sz g : Nat} {R : Row} {e : DV} (hx : opd ρ x = .ptr r j 0 sz g) (hr : H[r]? = some (.row R)) (ha : aggT E.P tt = some false) (hg : R.g = g) (hz : R.sz = sz) (he : R.elems[j]? = some e) (hc : e.cells = [e]) : Rc E n n0 H ρ ⟨dst, .load tt x, ty, pos, aft, gd⟩ ⟨e, H, .A⟩ := Rc.a (by
  simp only [evN, hx, hr]
  rw [if_pos ⟨hg, hz⟩, he]
  simp only [Option.bind_some, partOf, ha, hc]
  rfl)
/-- A byte, read from a row of bytes. -/
theorem Rc.ldBy {r j g : Nat} {m : List UInt8} {b : UInt8} {fz : Bool} {tw : Option TypeId} (hx : opd ρ x = .ptr r j 0 1 g) (hr : H[r]? = some (.row ⟨m.map byteDV, 1, g, fz, tw⟩)) (ha : aggT E.P tt = some false) (he : m[j]? = some b) : Rc E n n0 H ρ ⟨dst, .load tt x, ty, pos, aft, gd⟩ ⟨.int .u8 (b.toNat : Int), H, .A⟩ :=
  Rc.ld (e := byteDV b) hx hr ha rfl rfl (by simp [he]) rfl
/-- A byte, written to a row of bytes. -/
theorem Rc.stBy {r j g : Nat} {m : List UInt8} {b : UInt8} {z : Int} {tw : Option TypeId} (ha : opd ρ x = .ptr r j 0 1 g) (hr : H[r]? = some (.row ⟨m.map byteDV, 1, g, false, tw⟩)) (hx : opd ρ y = .int .u8 z) (hs : size E.P tt = some 1) (hz : z = (b.toNat : Int)) (hj : j < m.length) :
    Rc E n n0 H ρ ⟨dst, .store tt x y, ty, pos, aft, gd⟩ ⟨.tup [], H.set r (.row ⟨(m.set j b).map byteDV, 1, g, false, tw⟩), .W⟩ := by
  refine Rc.set ?_
  simp only [evE, ha, hs, hr, hx]
  rw [if_pos ⟨trivial, trivial, trivial, rfl, rfl, by omega⟩]
  have he : (m.map byteDV)[j]? = some (byteDV m[j]) := by simp [hj]
  rw [he]
  simp only [Option.bind_some]
  rw [if_pos (by simp [byteDV, DV.cells])]
  subst hz
  congr 4
  rw [List.map_set]
  rfl
theorem HeapLe.of {H H' : Heap} (h : H' = H) : HeapLe H' H := by subst h; exact .refl _
end
/-! A list whose first elements have been turned -/
def prg {α : Type} (f : α → α) (l : List α) (i : Nat) : List α := (l.take i).map f ++ l.drop i
theorem prg_zero {α : Type} (f : α → α) (l : List α) : prg f l 0 = l := by simp [prg]
theorem prg_all {α : Type} (f : α → α) (l : List α) : prg f l l.length = l.map f := by simp [prg]
theorem prg_len {α : Type} (f : α → α) (l : List α) (i : Nat) : (prg f l i).length = l.length := by simp [prg]; omega
theorem prg_get {α : Type} (f : α → α) (l : List α) {i : Nat} (h : i < l.length) : (prg f l i)[i]? = some l[i] := by
  unfold prg
  rw [List.getElem?_append_right (by simp; omega)]
  simp [show min i l.length = i by omega, h]
theorem prg_set {α : Type} (f : α → α) (l : List α) {i : Nat} (h : i < l.length) : prg f l (i + 1) = (prg f l i).set i (f l[i]) := by
  apply List.ext_getElem?
  intro j
  unfold prg
  rw [List.getElem?_set]
  by_cases h1 : j < i
  · rw [if_neg (by omega), List.getElem?_append_left (by simp; omega), List.getElem?_append_left (by simp; omega)]
    simp [List.getElem?_take, h1, show j < i + 1 by omega]
  · by_cases h2 : j = i
    · subst h2
      rw [if_pos rfl, if_pos (by simp; omega), List.getElem?_append_left (by simp; omega)]
      simp [List.getElem?_take, h]
    · rw [if_neg (by omega), List.getElem?_append_right (by simp; omega), List.getElem?_append_right (by simp; omega)]
      simp [List.getElem?_drop, show min (i + 1) l.length = i + 1 by omega, show min i l.length = i by omega, show i + 1 + (j - (i + 1)) = j by omega, show i + (j - i) = j by omega]
theorem prg_same {α : Type} (f : α → α) (l : List α) {i : Nat} (h : i < l.length) (hf : f l[i] = l[i]) : prg f l (i + 1) = prg f l i := by
  rw [prg_set f l h, hf]
  apply List.ext_getElem?
  intro j
  rw [List.getElem?_set]
  split
  · subst_vars
    rw [prg_get f l h]
    simp [prg_len, h]
  · rfl
theorem Hands.bool {H : Heap} {b c : Bool} (h : b = c) : Hands H (.bool b) (.val (.bool c)) := by subst h; exact .pure (Flt.bool _).pure
theorem Hands.str {H : Heap} {a b : List UInt8} (h : a = b) : Hands H (Str a) (.val (Str b)) := by subst h; exact .pure (Flt.Str _).pure
theorem Hands.int {H : Heap} {k : IntKind} {a b : Int} (h : a = b) : Hands H (.int k a) (.val (.int k b)) := by subst h; exact .pure (Flt.int _ _).pure
end Go.Dev

/- The logic: functions that are told by contracts of the library. -/
set_option linter.unusedVariables false
namespace Go.Dev
open Go.RowKit
variable {S S' : Nat → Nat → Prop} {μ : Mu} {w w' : World} {H : Heap} {NG : Nat}

/-- The value of a value without memory. -/
def fv : DV → Option Value
  | .bool b => some (.bool b)
  | .int k n => some (.int k n)
  | .str s => some (.string s)
  | .nils => some (.slice none 0 0)
  | .nili => some .nilIface
  | .fn f [] => some (.func (.func f) #[] #[])
  | _ => none
theorem fv_eq {d : DV} {v v0 : Value} (h : fv d = some v0) (hv : V S μ w d v) : v = v0 := by
  cases hv <;> first
    | (simp only [fv] at h; cases h; done)
    | (cases h; rfl)
    | skip
  rename_i f cs vs hl hx
  cases cs with
  | nil =>
    cases h
    have : vs = #[] := by
      apply Array.eq_empty_of_size_eq_zero
      simpa using hl.symm
    rw [this]
  | cons => cases h
theorem fv_V {d : DV} {v0 : Value} (h : fv d = some v0) : V S μ w d v0 := by
  unfold fv at h
  split at h <;> first
    | cases h; done
    | (cases h; first | exact .bool _ | exact .int _ _ | exact .str _ | exact .nils | exact .nili | exact .fn _ _ _ rfl fun i c v hc => by simp at hc)
theorem CR_fv {ds : List DV} {vs : Array Value} {l : List Value} (h : CR S μ w ds vs) (hv : ds.map fv = l.map some) : vs = l.toArray := by
  obtain ⟨h1, h2⟩ := h
  have hl : ds.length = l.length := by simpa using congrArg List.length hv
  apply Array.ext
  · simp; omega
  · intro i h3 h4
    have h5 : i < ds.length := by omega
    have e1 := h2 i ds[i] vs[i] (List.getElem?_eq_getElem h5) (Array.getElem?_eq_getElem h3)
    have e2 : (ds.map fv)[i]? = (l.map some)[i]? := by rw [hv]
    simp at h4
    rw [List.getElem?_map, List.getElem?_map, List.getElem?_eq_getElem h5, List.getElem?_eq_getElem h4] at e2
    simp only [Option.map_some, Option.some.injEq] at e2
    simpa using fv_eq e2 e1

/-- Of a value that is handed back. -/
def fvT : DV → Option Value
  | .tup ds => (allSome (ds.map fv)).map fun l => .tuple l.toArray
  | .agg ds => (allSome (ds.map fv)).map fun l => .agg l.toArray
  | d => fv d
theorem allSome_mem {α : Type} : ∀ (l : List (Option α)) (m : List α), allSome l = some m → l = m.map some
  | [], m, h => by cases h; rfl
  | none :: l, m, h => by cases h
  | some a :: l, m, h => by
    simp only [allSome, Option.map_eq_some_iff] at h
    obtain ⟨m', h1, rfl⟩ := h
    simp [allSome_mem l m' h1]
theorem fvT_V {d : DV} {v0 : Value} (h : fvT d = some v0) : V S μ w d v0 := by
  have key : ∀ (ds : List DV) (l : List Value), allSome (ds.map fv) = some l → ds.length = l.toArray.size ∧ ∀ (i : Nat) (c : DV) (v : Value), ds[i]? = some c → l.toArray[i]? = some v → V S μ w c v := by
    intro ds l hl
    have e := allSome_mem _ _ hl
    have hlen : ds.length = l.length := by simpa using congrArg List.length e
    refine ⟨by simpa using hlen, fun i c v hc hv => ?_⟩
    have e2 : (ds.map fv)[i]? = (l.map some)[i]? := by rw [e]
    simp at hv
    rw [List.getElem?_map, List.getElem?_map, hc, hv] at e2
    simp only [Option.map_some, Option.some.injEq] at e2
    exact fv_V e2
  cases d <;> first
    | exact fv_V h
    | skip
  · simp only [fvT, Option.map_eq_some_iff] at h
    obtain ⟨l, h1, rfl⟩ := h
    obtain ⟨k1, k2⟩ := key _ _ h1
    exact .agg _ _ k1 k2
  · simp only [fvT, Option.map_eq_some_iff] at h
    obtain ⟨l, h1, rfl⟩ := h
    obtain ⟨k1, k2⟩ := key _ _ h1
    exact .tup _ _ k1 k2

section
variable {E : Env} {f : FuncId} {ds : List DV}

theorem hasBody {P : Program} {fn : Func} (h : P.funcs[f]? = some fn) (hb : fn.body.isSome = true) : HasBody P f := ⟨fn, h, hb⟩

/-- A contract of the library, between values without memory. -/
theorem Prim.flat {d : DV} {l : List Value} {v0 : Value} (hb : HasBody E.P f) (hv : ds.map fv = l.map some) (hd : fvT d = some v0) (h : ∀ w, E.G w → Calls E.P f l.toArray w fun e w' => e = .returned v0 ∧ Below w.heap.size w w' ∧ Mo w w') : Prim E f ds (.val d) := .of0 fun hE => ⟨hb, fun S w vs hG hng hst hcr => by
  obtain rfl := CR_fv hcr hv
  refine (h w hG).mono fun e w' ⟨he, ⟨b1, b2, b3, b4, b5⟩, hmo⟩ => ?_
  exact ⟨v0, S, he, fun _ _ h => h, fun _ _ h => .inl h, fun B c hc => Nat.lt_of_lt_of_le (hst B c hc) b4, b4, b5, ⟨b1, b2, b3, hmo⟩, fvT_V hd⟩⟩
theorem Prim.same {d : DV} {l : List Value} {v0 : Value} (hb : HasBody E.P f) (hv : ds.map fv = l.map some) (hd : fvT d = some v0) (h : ∀ w, E.G w → Calls E.P f l.toArray w fun e w' => e = .returned v0 ∧ w' = w) : Prim E f ds (.val d) :=
  Prim.flat hb hv hd fun w hG => (h w hG).mono fun e w' ⟨h1, h2⟩ => ⟨h1, by subst h2; exact Below.refl _ _, by subst h2; exact .refl _⟩

/-- A contract of the library that makes a row of values without memory. -/
theorem Prim.rowed {l : List Value} {rs : List DV} {vs0 : List Value} {ty : TypeId} (hb : HasBody E.P f) (hv : ds.map fv = l.map some) (hr : rs.map fv = vs0.map some) (ho : ∀ d ∈ rs, d.cells = [d])
    (h : ∀ w, E.G w → Calls E.P f l.toArray w fun e w' => e = .returned (.slice (some ⟨w.heap.size, 0, none⟩) vs0.length vs0.length) ∧ w' = w.alloc (.cells vs0.toArray ty)) : Prim E f ds (.own 1 rs) := .of0 fun hE => ⟨hb, fun S w vs hG hng hst hcr => by
  obtain rfl := CR_fv hcr hv
  refine (h w hG).mono fun e w' ⟨he, hw⟩ => ?_
  subst hw
  have hlen : rs.length = vs0.length := by simpa using congrArg List.length hr
  have hsz : (w.alloc (.cells vs0.toArray ty)).heap = w.heap.push (.cells vs0.toArray ty) := rfl
  refine ⟨_, S, he, fun _ _ h => h, fun _ _ h => .inl h, fun B c hc => ?_, ?_, fun b hb => ?_, ⟨rfl, rfl, rfl, .of (Nat.le_refl _)⟩, ⟨w.heap.size, 0, vs0.length, 0, 1⟩, vs0.length, ⟨rfl, rfl, vs0.toArray, ty, (0, 0), ?_, ?_, ?_, ⟨.inl rfl, fun u hu => by cases hu⟩, fun i e he => ?_, fun c hc => ?_⟩, Nat.le_refl _, by omega, Nat.le_refl _, by rw [hlen]⟩
  · rw [hsz]; have := hst B c hc; simp; omega
  · rw [hsz]; simp
  · rw [hsz, Array.getElem?_push, if_neg (by omega)]
  · rw [hsz, Array.getElem?_push, if_pos rfl]
  · simp only; omega
  · simp
  · replace he : rs[i]? = some e := he
    have hlt := (List.getElem?_eq_some_iff.1 he).1
    have hc1 := ho e (List.mem_of_getElem? he)
    rw [hc1]
    refine ⟨rfl, fun j c hj => ?_⟩
    cases j with
    | succ j => simp at hj
    | zero =>
      simp at hj
      subst hj
      have e2 : (rs.map fv)[i]? = (vs0.map some)[i]? := by rw [hr]
      have hv0 : vs0[i]? = some (vs0[i]'(by omega)) := List.getElem?_eq_getElem _
      rw [List.getElem?_map, List.getElem?_map, he, hv0] at e2
      simp only [Option.map_some, Option.some.injEq] at e2
      exact ⟨_, by simp, fv_V e2⟩
  · exact absurd (hst _ _ hc) (Nat.lt_irrefl _)⟩

/-- A contract that was told before. -/
theorem Prim.told {C : Ctx} {pr : PR} (hP : C.P = E.P) (hW : World0 C E.G E.NG) (h : C.prim f ds = some pr) : Prim E f ds pr := .of0 fun hE => by
  obtain ⟨h1, h2⟩ := hW.prim f ds pr h
  rw [hP] at h1 h2
  exact ⟨h1, fun S w vs hG hng hst hcr => (h2 S w vs hG hng hst hcr).mono fun e w' ⟨v, S', a1, a2, a3, a4, a5, a6, a7, a8⟩ => ⟨v, S', a1, a2, a3, a4, a5, a6, a7, by cases pr <;> exact a8⟩⟩
/-- A call that the evaluator has run. -/
theorem Prim.ran {C : Ctx} {n : Nat} {r : DV} {Hc : Heap} {tab : List Ent} {d : DV} {us : List Nat} (hP : C.P = E.P) (hW : World0 C E.G E.NG) (ht : TabOK C E.G E.NG tab) (h : runT C tab n f ds [] = some (r, Hc)) (hr : fre Hc 8 r = some (d, us)) : Prim E f ds (.val d) := .of0 fun hE => by
  obtain ⟨h1, h2⟩ := runT_ok hW ht n f ds [] r Hc h
  rw [hP] at h1 h2
  refine ⟨h1, fun S w vs hG hng hst hcr => ?_⟩
  have hH : HR E.NG S mu0 [] w := ⟨⟨fun r R hr => by simp at hr, fun r es hr => by simp at hr⟩, fun _ _ => rfl, fun r r' p p' hl => by have := live_lt hl; simp at this, fun r p hl => by have := live_lt hl; simp at this, hng, hst, fun r g sz hr => by simp at hr⟩
  refine (h2 S mu0 w vs hH hG hcr).mono fun e w' ⟨v, S', μ', he, k1, k3, hv⟩ => ?_
  obtain ⟨q1, q2, q3, q4, _⟩ := dropS k1 k3 us
  exact ⟨v, _, he, q1, q2, q3, k3.size, q4, k3.io, fre_ok (S' := fun B c => S' B c ∨ ∃ r ∈ us, Shows Hc μ' r B c) k1.toHRd (fun _ _ h => Or.inl h) 8 _ _ _ _ hr hv (fun r hr B c h => Or.inr ⟨r, hr, h⟩)⟩
end
/-- A call that the evaluator has run, in one fact. -/
theorem ran1 {E : Env} {C : Ctx} {n : Nat} {tab : List Ent} {f : FuncId} {ds : List DV} {d : DV} (hP : C.P = E.P) (hW : World0 C E.G E.NG) (ht : TabOK C E.G E.NG tab) (h : ((runT C tab n f ds []).bind fun p => (fre p.2 8 p.1).map (·.1)) = some d) : Prim E f ds (.val d) := by
  simp only [Option.bind_eq_some_iff, Option.map_eq_some_iff] at h
  obtain ⟨⟨r, H⟩, h1, ⟨d', us⟩, h2, rfl⟩ := h
  exact Prim.ran hP hW ht h1 h2
end Go.Dev

/- The logic: lists whose elements are told one by one. -/
set_option linter.unusedVariables false
namespace Go.Dev
open Go.RowKit
variable {H : Heap}

/-- A slice of texts, as data. -/
def Strs (l : List (List UInt8)) : DV := .imm 1 (l.map Str)
theorem Nm.Strs {l : List (List UInt8)} : Nm (Strs l) (Strs l) := rfl
theorem FrzL.pure {cs : List DV} (h : ∀ c ∈ cs, Pure c) : FrzL H cs cs [] := ⟨rfl, fun i e e' h1 h2 => by
  rw [h1] at h2
  cases h2
  exact .pure (h e (List.mem_of_getElem? h1))⟩
/-- One cell, no memory. -/
structure Plain {α : Type} (g : α → DV) : Prop where
  one : ∀ x, (g x).cells = [g x]
  flt : ∀ x, Flt (g x)
theorem Plain.str : Plain Str := ⟨fun _ => rfl, Flt.Str⟩
theorem Plain.byte : Plain byteDV := ⟨fun _ => rfl, fun _ => .int _ _⟩
theorem FrzR.plain {α : Type} {g : α → DV} (hg : Plain g) (l : List α) : FrzR H (l.map g) (l.map g) [] := .pure fun e he c hc => by
  obtain ⟨x, _, rfl⟩ := List.mem_map.1 he
  rw [hg.one] at hc
  simp at hc
  subst hc
  exact (hg.flt x).pure
theorem Frz.refM {α : Type} {g : α → DV} {r len z gg cl : Nat} {l : List α} {fz : Bool} {tw : Option TypeId} (hg : Plain g) (hr : H[r]? = some (.row ⟨l.map g, z, gg, fz, tw⟩)) (hl : len = l.length) : Frz H (.ref r 0 len z gg cl) (.imm z (l.map g)) [r] := by
  subst hl
  exact Frz.ref hr rfl rfl (by simp) (by rw [List.drop_zero, List.take_of_length_le (by simp)]; exact FrzR.plain hg l)
theorem Hands.refM {α : Type} {g : α → DV} {r z len gg cl : Nat} {l : List α} {tw : Option TypeId} (hg : Plain g) (hr : H[r]? = some (.row ⟨l.map g, z, gg, false, tw⟩)) (hl : len = l.length) (h0 : 0 < l.length) : Hands H (.ref r 0 len z gg cl) (.own z (l.map g)) := by
  subst hl
  exact ⟨r, 0, _, cl, ⟨l.map g, z, gg, false, tw⟩, [], rfl, hr, rfl, rfl, h0, by simp, by simpa using FrzR.plain hg l, by simp⟩
/-- A slice of its own, or none. -/
def lst (z : Nat) (l : List DV) : PR := if l = [] then .val .nils else .own z l

section
variable {E : Env} {n n0 : Nat} {ρ : Tr} {N : St → Prop} {dst : Option Tmp} {ty : TypeId} {pos : String} {aft : Array Edge} {gd : Option (Nat × Bool)} {tt tu : TypeId} {x y i : Operand} {kk : IntKind} {α : Type} {g : α → DV}

/-- An element of a row whose elements are told one by one. -/
theorem Rc.ldM {r j gg : Nat} {l : List α} {fz : Bool} {tw : Option TypeId} (hg : Plain g) (hx : opd ρ x = .ptr r j 0 1 gg) (hr : H[r]? = some (.row ⟨l.map g, 1, gg, fz, tw⟩)) (ha : aggT E.P tt = some false) (hj : j < l.length) : Rc E n n0 H ρ ⟨dst, .load tt x, ty, pos, aft, gd⟩ ⟨g l[j], H, .A⟩ :=
  Rc.ld hx hr ha rfl rfl (by simp [hj]) (hg.one _)

/-- append(s, x) where s is nil. -/
theorem evE_app {t : TypeId} {e : TypeId} {a b : Operand} {i : TypeInfo} {new : List DV} {z : Nat} (hu : E.P.underlying t = some (.slice e)) (hn : isIntT E.P tu = false) (hi : E.P.info? e = some i) (ha : addOf E.P H e tu (opd ρ b) = some (z, new)) (hz : z = i.size) (hz0 : decide (i.size ≠ 0 ∧ i.bytes ≠ 0 ∧ i.zero.map (·.cells.size) = some i.size) = true) (hnew : (new.all fun d => d.cells.length = z && d.cells.all DV.one) = true) :
    (opd ρ a = .nils → new ≠ [] → new.length * i.bytes ≤ bigN → evE E.P H (opd ρ) (.call { callee := .builtin .append, args := #[a, b], argTypes := #[t, tu] }) = some (.ref H.length 0 new.length z 0 new.length, .push (.row ⟨new, z, 0, false, some e⟩))) ∧
    (∀ r off len gg cl R, opd ρ a = .ref r off len z gg cl → H[r]? = some (.row R) → R.g = gg → R.sz = z → off + len = R.elems.length → new ≠ [] → (len + new.length) * i.bytes ≤ bigN → cl < len + new.length →
      evE E.P H (opd ρ) (.call { callee := .builtin .append, args := #[a, b], argTypes := #[t, tu] }) = some (.ref r 0 (len + new.length) z (gg + 1) (len + new.length), .set r (.row ⟨R.elems.drop off ++ new, z, gg + 1, R.fz, if R.ty = some e then some e else none⟩))) := by
  obtain ⟨z1, z2, z3⟩ := of_decide_eq_true hz0
  have hbad : (z ≠ i.size ∨ z = 0 ∨ i.bytes = 0 ∨ i.zero.map (·.cells.size) ≠ some i.size ∨ (!(new.all fun d => d.cells.length = z && d.cells.all DV.one)) = true) ↔ False := by
    simp [hz, z1, z2, z3]
    subst hz
    simpa using hnew
  refine ⟨fun h1 h2 h3 => ?_, fun r off len gg cl R h1 h2 h3 h4 h5 h6 h7 h8 => ?_⟩
  · simp only [evE, List.size_toArray, List.length_cons, List.length_nil, Nat.zero_add, Nat.reduceAdd, and_self, if_true, List.getElem?_toArray, List.getElem?_cons_zero, List.getElem?_cons_succ, hu, hn, Bool.false_eq_true, if_false, hi, ha, h1]
    rw [if_neg (by simpa only [hbad] using id)]
    rw [if_neg (by simpa using h2), if_pos h3]
  · simp only [evE, List.size_toArray, List.length_cons, List.length_nil, Nat.zero_add, Nat.reduceAdd, and_self, if_true, List.getElem?_toArray, List.getElem?_cons_zero, List.getElem?_cons_succ, hu, hn, Bool.false_eq_true, if_false, hi, ha, h1, h2]
    rw [if_neg (by simpa only [hbad] using id)]
    rw [if_pos ⟨h3, h4, trivial, by omega, .inr h5, h7⟩, if_neg (by simpa using h6), if_neg (by omega)]
    rw [show (R.elems.drop off).take len = R.elems.drop off from List.take_of_length_le (by simp; omega)]
end
/-- Read as data alone, whichever rows it shows. -/
def FrzE (H : Heap) (d d' : DV) : Prop := ∃ us, Frz H d d' us
def FrzLE (H : Heap) (l l' : List DV) : Prop := ∃ us, FrzL H l l' us
theorem FrzLE.nil : FrzLE H [] [] := ⟨_, .nil⟩
theorem FrzLE.cons {d d' : DV} {l l' : List DV} : FrzE H d d' → FrzLE H l l' → FrzLE H (d :: l) (d' :: l') := fun ⟨_, h1⟩ ⟨_, h2⟩ => ⟨_, .cons h1 h2⟩
theorem FrzLE.pure {cs : List DV} (h : ∀ c ∈ cs, Pure c) : FrzLE H cs cs := ⟨_, .pure h⟩
theorem FrzE.pure {d : DV} (h : Pure d) : FrzE H d d := ⟨_, .pure h⟩
theorem FrzE.fn {f : FuncId} {cs cs' : List DV} : FrzLE H cs cs' → FrzE H (.fn f cs) (.fn f cs') := fun ⟨_, h⟩ => ⟨_, .fn h⟩
theorem FrzE.agg {cs cs' : List DV} : FrzLE H cs cs' → FrzE H (.agg cs) (.agg cs') := fun ⟨_, h⟩ => ⟨_, .agg h⟩
theorem FrzE.tup {cs cs' : List DV} : FrzLE H cs cs' → FrzE H (.tup cs) (.tup cs') := fun ⟨_, h⟩ => ⟨_, .tup h⟩
theorem FrzE.refM {α : Type} {g : α → DV} {r len z gg cl : Nat} {l : List α} {fz : Bool} {tw : Option TypeId} (hg : Plain g) (hr : H[r]? = some (.row ⟨l.map g, z, gg, fz, tw⟩)) (hl : len = l.length) : FrzE H (.ref r 0 len z gg cl) (.imm z (l.map g)) := ⟨_, .refM hg hr hl⟩
theorem FrzE.ptr1 {r i off sz g : Nat} {R : Row} {e e' : DV} (hr : H[r]? = some (.row R)) (hg : R.g = g) (hz : R.sz = sz) (he : R.elems[i]? = some e) (h1 : notAgg e = true) (h2 : notAgg e' = true) : FrzE H e e' → FrzE H (.ptr r i off sz g) (.ipt e' off) := fun ⟨_, h⟩ => ⟨_, .ptr hr hg hz he (.one h1 h2 h)⟩
theorem FrzE.ptrA {r i off sz g : Nat} {R : Row} {cs cs' : List DV} (hr : H[r]? = some (.row R)) (hg : R.g = g) (hz : R.sz = sz) (he : R.elems[i]? = some (.agg cs)) : FrzLE H cs cs' → FrzE H (.ptr r i off sz g) (.ipt (.agg cs') off) := fun ⟨_, h⟩ => ⟨_, .ptr hr hg hz he (.agg h)⟩
/-- A variable of its own. -/
theorem Rc.bx {E : Env} {n n0 k : Nat} {ρ : Tr} {dst : Option Tmp} {ty tt : TypeId} {pos : String} {aft : Array Edge} {gd : Option (Nat × Bool)} {x : Operand} {d0 d : DV} (hs : size E.P tt = some k) (hx : opd ρ x = d0) (ho : decide (d0.cells.length = k ∧ k ≠ 0 ∧ d0.cells.all DV.one = true) = true) (hn : Nm d0 d) (h0 : decide (n0 ≤ H.length) = true) : Rc E n n0 H ρ ⟨dst, .box tt x, ty, pos, aft, gd⟩ ⟨.ptr H.length 0 0 k 0, H ++ [.row ⟨[d], k, 0, false, some tt⟩], .A⟩ := by
  cases hn
  refine Rc.push ?_ h0
  simp only [evE, hs, hx]
  rw [if_pos (of_decide_eq_true ho)]
/-- A list that is made element by element: the slice, and its row. -/
def gref {α : Type} (r : Nat) (l : List α) : DV := .ref r 0 l.length 1 (l.length - 1) l.length
def growR {α : Type} (g : α → DV) (e : TypeId) (l : List α) : Ob := .row ⟨l.map g, 1, l.length - 1, false, some e⟩
theorem Nm.gref {α : Type} {r : Nat} {l : List α} : Nm (gref r l) (gref r l) := rfl
theorem Plain.cells {α : Type} {g : α → DV} (hg : Plain g) (x : α) (h1 : (g x).one = true) : ([g x].all fun d => d.cells.length = 1 && d.cells.all DV.one) = true := by
  simp [hg.one, h1]
section
variable {E : Env} {n n0 : Nat} {ρ : Tr} {dst : Option Tmp} {ty : TypeId} {pos : String} {aft : Array Edge} {gd : Option (Nat × Bool)} {tt tu e : TypeId} {a b : Operand} {α : Type} {g : α → DV} {i : TypeInfo} {x : α} {l : List α} {r : Nat}
theorem Rc.app0 (hg : Plain g) (hx : opd ρ a = .nils) (hu : E.P.underlying tt = some (.slice e)) (ha : addOf E.P H e tu (opd ρ b) = some (1, [g x])) (h1 : (g x).one = true) (hn : isIntT E.P tu = false) (hi : E.P.info? e = some i)
    (hz : decide (i.size = 1 ∧ i.bytes ≠ 0 ∧ i.bytes ≤ 64 ∧ i.zero.map (·.cells.size) = some 1) = true) (h0 : decide (n0 ≤ H.length) = true) : Rc E n n0 H ρ ⟨dst, .call { callee := .builtin .append, args := #[a, b], argTypes := #[tt, tu] }, ty, pos, aft, gd⟩ ⟨gref H.length [x], H ++ [growR g e [x]], .A⟩ := by
  obtain ⟨z1, z2, z3, z4⟩ := of_decide_eq_true hz
  have := (evE_app (E := E) (H := H) (ρ := ρ) (a := a) (b := b) hu hn hi ha z1.symm (decide_eq_true ⟨by omega, z2, by rw [z4, z1]⟩) (hg.cells x h1)).1 hx (by simp) (by simp [bigN]; omega)
  exact Rc.push this h0
theorem Rc.appG (hg : Plain g) (hx : opd ρ a = gref r l) (hr : H[r]? = some (growR g e l)) (hu : E.P.underlying tt = some (.slice e)) (ha : addOf E.P H e tu (opd ρ b) = some (1, [g x])) (h1 : (g x).one = true) (hn : isIntT E.P tu = false) (hi : E.P.info? e = some i)
    (hz : decide (i.size = 1 ∧ i.bytes ≠ 0 ∧ i.bytes ≤ 64 ∧ i.zero.map (·.cells.size) = some 1) = true) (hl : l ≠ []) (hb : l.length < 10000000000) : Rc E n n0 H ρ ⟨dst, .call { callee := .builtin .append, args := #[a, b], argTypes := #[tt, tu] }, ty, pos, aft, gd⟩ ⟨gref r (l ++ [x]), H.set r (growR g e (l ++ [x])), .W⟩ := by
  obtain ⟨z1, z2, z3, z4⟩ := of_decide_eq_true hz
  have hpos : 0 < l.length := List.length_pos_iff.2 hl
  have := (evE_app (E := E) (H := H) (ρ := ρ) (a := a) (b := b) hu hn hi ha z1.symm (decide_eq_true ⟨by omega, z2, by rw [z4, z1]⟩) (hg.cells x h1)).2 r 0 l.length (l.length - 1) l.length _ hx hr rfl rfl (by simp) (by simp)
    (by
      have h3 : (l.length + [g x].length) * i.bytes ≤ (l.length + 1) * 64 := Nat.mul_le_mul (by simp) z3
      have h4 : (l.length + 1) * 64 ≤ bigN := by unfold bigN; omega
      omega) (by simp)
  have e1 : (l.length - 1 + 1) = (l ++ [x]).length - 1 := by simp; omega
  simp only [List.length_cons, List.length_nil, Nat.zero_add, List.drop_zero, if_true] at this
  rw [e1] at this
  have h2 := Rc.set (E := E) (n := n) (n0 := n0) (o := ⟨dst, .call { callee := .builtin .append, args := #[a, b], argTypes := #[tt, tu] }, ty, pos, aft, gd⟩) this
  have e2 : DV.ref r 0 (l.length + 1) 1 ((l ++ [x]).length - 1) (l.length + 1) = gref r (l ++ [x]) := by simp [gref]
  have e3 : (Ob.row ⟨l.map g ++ [g x], 1, (l ++ [x]).length - 1, false, some e⟩) = growR g e (l ++ [x]) := by simp [growR]
  rw [e2, e3] at h2
  exact h2
theorem Rc.ldG {tt : TypeId} {y : Operand} {j gg : Nat} (hg : Plain g) (hx : opd ρ y = .ptr r j 0 1 gg) (hr : H[r]? = some (growR g e l)) (hgg : gg = l.length - 1) (ha : aggT E.P tt = some false) (hj : j < l.length) : Rc E n n0 H ρ ⟨dst, .load tt y, ty, pos, aft, gd⟩ ⟨g l[j], H, .A⟩ := by
  subst hgg
  exact Rc.ldM hg hx hr ha hj
end
theorem FrzE.gref {α : Type} {g : α → DV} {r : Nat} {l : List α} {e : TypeId} (hg : Plain g) (hr : H[r]? = some (growR g e l)) : FrzE H (gref r l) (.imm 1 (l.map g)) := ⟨_, Frz.refM hg hr rfl⟩
theorem Hands.gref {α : Type} {g : α → DV} {r : Nat} {l : List α} {e : TypeId} (hg : Plain g) (hr : H[r]? = some (growR g e l)) (h0 : l ≠ []) : Hands H (gref r l) (.own 1 (l.map g)) := Hands.refM hg hr rfl (List.length_pos_iff.2 h0)
theorem Frz.gref {α : Type} {g : α → DV} {r : Nat} {l : List α} {e : TypeId} (hg : Plain g) (hr : H[r]? = some (growR g e l)) : Frz H (gref r l) (.imm 1 (l.map g)) [r] := Frz.refM hg hr rfl
theorem BdO.plain {α : Type} {g : α → DV} (hg : Plain g) {k z gg : Nat} {l : List α} {fz : Bool} {tw : Option TypeId} : BdO k (.row ⟨l.map g, z, gg, fz, tw⟩) := fun e he c hc => by
  obtain ⟨x, _, rfl⟩ := List.mem_map.1 he
  rw [hg.one] at hc
  simp at hc
  subst hc
  exact (hg.flt x).bd k
theorem BdO.grow {α : Type} {g : α → DV} (hg : Plain g) {k : Nat} {l : List α} {e : TypeId} : BdO k (growR g e l) := BdO.plain hg
theorem BdO.dead {k : Nat} : BdO k .dead := trivial
end Go.Dev
namespace Go.Dev
theorem Hands.sb {H : Heap} {a b : List UInt8} {c d : Bool} (h1 : a = b) (h2 : c = d) : Hands H (.tup [Str a, .bool c]) (.val (.tup [Str b, .bool d])) := by
  subst h1 h2
  exact .pure (Flt.tup fun x hx => by
    simp at hx
    rcases hx with rfl | rfl
    · exact Flt.Str _
    · exact Flt.bool _).pure
/-! Lists that are gone through -/
section
variable {α : Type} (p : α → Bool) (l : List α) {i : Nat}
theorem all_take (h : i < l.length) (h1 : (l.take i).all p = true) (h2 : p l[i] = true) : (l.take (i + 1)).all p = true := by
  rw [List.take_succ_eq_append_getElem h, List.all_append, h1]
  simp [h2]
theorem all_not (h : i < l.length) (h2 : p l[i] = false) : l.all p = false := by
  rw [List.all_eq_false]
  exact ⟨l[i], List.getElem_mem h, by simp [h2]⟩
theorem all_full (h : l.length ≤ i) (h1 : (l.take i).all p = true) : l.all p = true := by
  rwa [List.take_of_length_le h] at h1
theorem find_at : ∀ (l : List α) (i : Nat) (h : i < l.length), (l.take i).all (fun x => !p x) = true → p l[i] = true → l.find? p = some l[i]
  | x :: l, 0, h, _, h2 => by simp at h2; simp [h2]
  | x :: l, i + 1, h, h1, h2 => by
    simp only [List.take_succ_cons, List.all_cons, Bool.and_eq_true] at h1
    simp only [List.getElem_cons_succ] at h2 ⊢
    have hx : p x = false := by simpa using h1.1
    rw [List.find?_cons, hx]
    exact find_at l i (by simpa using h) h1.2 h2
theorem find_no (h : l.length ≤ i) (h1 : (l.take i).all (fun x => !p x) = true) : l.find? p = none := by
  have := all_full _ l h h1
  rw [List.find?_eq_none]
  intro x hx
  have := List.all_eq_true.1 this x hx
  simpa using this
theorem any_no (h : l.length ≤ i) (h1 : (l.take i).all (fun x => !p x) = true) : l.any p = false := by
  have := all_full _ l h h1
  rw [List.any_eq_false]
  intro x hx
  have := List.all_eq_true.1 this x hx
  simpa using this
theorem any_at (h : i < l.length) (h1 : p l[i] = true) : l.any p = true := List.any_eq_true.2 ⟨l[i], List.getElem_mem h, h1⟩
end
end Go.Dev

/- The logic: a call that writes the row it is handed. -/
set_option linter.unusedVariables false
namespace Go.Dev
open Go.RowKit
variable {S S' : Nat → Nat → Prop} {μ : Mu} {w w' : World} {H : Heap}

/-- A function that turns the row that it is handed (values without memory) from l into l'. -/
structure Sorts (E : Env) (f : FuncId) (args : List DV) (l l' : List DV) : Prop where
  of ::
  run : E.Ok → HasBody E.P f ∧ ∀ (w : World) (vs : List Value) (B o cap : Nat) (cs : Array Value) (t : TypeId) (fz : Nat × Nat), E.G w → E.NG ≤ B → w.heap[B]? = some (.cells cs t fz) → (fz.1 = fz.2 ∨ cs.size ≤ fz.1) → o + cap ≤ cs.size → l.length ≤ cap →
    (∀ (i : Nat) (d : DV), l[i]? = some d → ∃ v, fv d = some v ∧ cs[o + i]? = some v) → args.map fv = vs.map some →
    Calls E.P f (#[.slice (some ⟨B, o, none⟩) l.length cap] ++ vs.toArray) w fun e w' => e = .returned (.tuple #[]) ∧ ∃ cs', w'.heap[B]? = some (.cells cs' t fz) ∧ cs'.size = cs.size ∧ (∀ (i : Nat) (d : DV), l'[i]? = some d → ∃ v, fv d = some v ∧ cs'[o + i]? = some v) ∧
      (∀ b, b < w.heap.size → b ≠ B → w'.heap[b]? = w.heap[b]?) ∧ w.heap.size ≤ w'.heap.size ∧ Io w w'

theorem fv_notAgg {d : DV} {v : Value} (h : fv d = some v) : d.cells = [d] := by
  cases d <;> first | rfl | (simp only [fv] at h; cases h)

theorem vals_of : ∀ (ds : List DV), (∀ d ∈ ds, ∃ v, fv d = some v) → ∃ ws : List Value, ds.map fv = ws.map some
  | [], _ => ⟨[], rfl⟩
  | d :: ds, h => by
    obtain ⟨v, hv⟩ := h d (by simp)
    obtain ⟨ws, hw⟩ := vals_of ds fun d hd => h d (by simp [hd])
    exact ⟨v :: ws, by simp [hv, hw]⟩

theorem Rc.inpl {E : Env} {n n0 : Nat} {ρ : Tr} {o : Oper} {fid : FuncId} {k len gg cl : Nat} {l l' xs : List DV} {ty : Option TypeId} (hp : Sorts E fid xs l l') (hc : callOf (opd ρ) o.op = some (fid, .ref k 0 len 1 gg cl :: xs)) (hlen : len = l.length) (hr : H[k]? = some (.row ⟨l, 1, gg, false, ty⟩)) (hl : l'.length = l.length) (h0 : l ≠ []) (hfl : ∀ d ∈ l, ∃ v, fv d = some v) (hfl' : ∀ d ∈ l', ∃ v, fv d = some v)
    (hfa : ∀ d ∈ xs, ∃ v, fv d = some v) : Rc E n n0 H ρ o ⟨.tup [], H.set k (.row ⟨l', 1, gg, false, ty⟩), .W⟩ := .of <| fun hE => by
  subst hlen
  obtain ⟨hb, hpr⟩ := hp.run hE
  refine ⟨⟨fun h => (by cases h), fun h => (by cases h)⟩, fun S μ w a HL K Q hH hG hreg hR hA hK => ?_⟩
  obtain ⟨vs, hcr, hrun⟩ : ∃ vs : Array Value, CR S μ w (.ref k 0 l.length 1 gg cl :: xs) vs ∧ (execOp a.eval o).run E.P w = .ok (.enter fid vs) w := callOf_run (C := E.C) hE.W hreg hc hb
  unfold Oper.wp
  rw [hrun]
  have hHL := hA rfl
  subst hHL
  obtain ⟨p, hmu, e1, e2, cs, t, fz, e3, e4, e5, e6, e7, e8⟩ := hH.row k _ hr
  simp only at e1 e2 e4 e5 e6 e7 e8
  obtain ⟨hsz, hvs⟩ := hcr
  obtain ⟨ws, hws⟩ := vals_of xs hfa
  have hwl : xs.length = ws.length := by simpa using congrArg List.length hws
  have h1 : 0 < vs.size := by rw [← hsz]; simp
  have hv0 := hvs 0 _ vs[0] rfl (Array.getElem?_eq_getElem h1)
  have hvs' : vs = #[vs[0]] ++ ws.toArray := by
    apply Array.ext
    · simp at hsz ⊢; omega
    · intro i hi1 hi2
      by_cases hi : i = 0
      · subst hi; simp
      · obtain ⟨j, rfl⟩ : ∃ j, i = j + 1 := ⟨i - 1, by omega⟩
        have hj : j < xs.length := by simp at hsz; omega
        have q1 := hvs (j + 1) xs[j] vs[j + 1] (by simp [hj]) (Array.getElem?_eq_getElem hi1)
        have q2 : (xs.map fv)[j]? = (ws.map some)[j]? := by rw [hws]
        have hj2 : j < ws.length := by omega
        rw [List.getElem?_map, List.getElem?_map, List.getElem?_eq_getElem hj, List.getElem?_eq_getElem hj2] at q2
        simp only [Option.map_some, Option.some.injEq] at q2
        rw [fv_eq q2 q1]
        rw [Array.getElem_append_right (by simp)]
        simp
  rw [hvs']
  generalize vs[0] = v0 at hv0
  cases hv0 with
  | ref _ _ _ _ _ _ ad cap p' hp' hg' hcap hcl ha' hn =>
    rw [hmu] at hp'
    cases hp'
    obtain ⟨a1, a2, a3⟩ := ha' e1.symm
    have hlpos := List.length_pos_iff.2 h0
    obtain rfl := a3.resolve_left (by omega)
    rw [e2] at e5
    rw [show p.o + 0 * p.sz = p.o by omega]
    have hnoS : ∀ c, ¬ S p.B c := fun c hc => by have := (e8 c hc).1; cases this
    refine (hpr w ws p.B p.o cap cs t fz hG (hH.lo k p (.inl ⟨_, hr⟩) hmu) e3 e6.1 (by omega) hcap (fun i d hd => ?_) hws).mono fun e w' ⟨he, cs', q1, q2, q3, q4, q5, q6⟩ => ?_
    · obtain ⟨v, hv⟩ := hfl d (List.mem_of_getElem? hd)
      obtain ⟨cv, z1, z2⟩ := (e7 i d hd).2 0 d (by rw [fv_notAgg hv]; rfl)
      exact ⟨v, hv, by rw [← fv_eq hv z2, ← z1]; congr 1; omega⟩
    · subst he
      have hrow : ∀ (μ2 : Mu) (i : Nat) (d : DV), l'[i]? = some d → d.cells.length = 1 ∧ ∀ (j : Nat) (c : DV), d.cells[j]? = some c → ∃ cv, cs'[p.o + i * 1 + j]? = some cv ∧ V S μ2 w' c cv := by
        intro μ2 i d hd
        obtain ⟨v, hv, hcv⟩ := q3 i d hd
        refine ⟨by rw [fv_notAgg hv]; rfl, fun j c hj => ?_⟩
        rw [fv_notAgg hv] at hj
        cases j with
        | succ j => simp at hj
        | zero =>
          simp at hj
          subst hj
          exact ⟨v, by simpa using hcv, fv_V hv⟩
      have hC : p.o + p.C * p.sz ≤ cs'.size := by rw [q2, e2]; omega
      have hL : l'.length ≤ p.C := by omega
      have hS1 : ∀ B c, S B c → cellAt w' B c = cellAt w B c := fun B c hc => by
        have hB : B ≠ p.B := fun e => hnoS c (e ▸ hc)
        simp only [cellAt, q4 B (hH.st B c hc) hB]
      obtain ⟨k1, k2, k3⟩ := set_ok (w' := w') hH (r := k) (o := .row ⟨l', 1, gg, false, ty⟩) (p := p) (p' := p) (.inl ⟨_, hr⟩) hmu (Nat.le_refl _) (fun _ => rfl) (.inl rfl) q4 q5 q6 hS1
        (fun hV => ⟨e1, e2, cs', t, fz, q1, hL, hC, ⟨by rw [q2]; exact e6.1, e6.2⟩, hrow _, fun c hc => absurd hc (hnoS c)⟩)
      exact hK _ S _ w' k1 k2 (.tup _ _ rfl fun i c v hc => by simp at hc)
end Go.Dev

/- The logic: sets of texts as maps; pieces; what is left of a heap. -/
set_option linter.unusedVariables false
namespace Go.Dev
open Go.RowKit
variable {H : Heap}

theorem HeapLe.nil : HeapLe [] [] := .refl _
theorem HeapLe.cons {o o' : Ob} {H H' : Heap} (ho : o' = Ob.dead ∨ o' = o) (h : HeapLe H' H) : HeapLe (o' :: H') (o :: H) := ⟨by simp [h.1], fun i x hx => by
  cases i with
  | zero =>
    simp at hx
    subst hx
    rcases ho with e | e
    · exact .inl e
    · exact .inr (by simp [e])
  | succ i => simpa using h.2 i x (by simpa using hx)⟩
theorem HeapLe.same {o : Ob} {H H' : Heap} (h : HeapLe H' H) : HeapLe (o :: H') (o :: H) := .cons (.inr rfl) h
theorem HeapLe.kill {o : Ob} {H H' : Heap} (h : HeapLe H' H) : HeapLe (Ob.dead :: H') (o :: H) := .cons (.inl rfl) h

/-- A map from texts to true. -/
def mset (ks : List (List UInt8)) : List (DV × DV) := ks.map fun k => (Str k, DV.bool true)
theorem keyEq_Str (a b : List UInt8) : keyEq (Str a) (Str b) = some (decide (a = b)) := by
  simp only [keyEq, Str]
  congr 1
  by_cases h : a = b <;> simp [h]
theorem findK_mset (k : List UInt8) : ∀ ks, findK (Str k) (mset ks) = some (if k ∈ ks then some (.bool true) else none)
  | [] => rfl
  | x :: ks => by
    show (match keyEq (Str k) (Str x) with | some true => some (some (DV.bool true)) | some false => findK (Str k) (mset ks) | none => none) = _
    rw [keyEq_Str]
    by_cases h : k = x
    · simp [h]
    · simp only [h, decide_false, findK_mset k ks, List.mem_cons, false_or]
theorem putK_mset (k : List UInt8) : ∀ ks, k ∉ ks → putK (Str k) (.bool true) (mset ks) = some (mset (ks ++ [k]))
  | [], _ => rfl
  | x :: ks, h => by
    have h1 : k ≠ x := fun e => h (by simp [e])
    have h2 : k ∉ ks := fun e => h (by simp [e])
    show (match keyEq (Str k) (Str x) with | some true => some ((Str k, DV.bool true) :: mset ks) | some false => (putK (Str k) (.bool true) (mset ks)).map ((Str x, DV.bool true) :: ·) | none => none) = _
    rw [keyEq_Str]
    simp only [h1, decide_false, putK_mset k ks h2, Option.map_some]
    rfl
theorem BdO.mset {k : Nat} {ks : List (List UInt8)} : BdO k (.map (mset ks)) := fun e he => by
  obtain ⟨x, _, rfl⟩ := List.mem_map.1 he
  exact ⟨(Flt.Str x).bd k, (Flt.bool true).bd k⟩

section
variable {E : Env} {n n0 : Nat} {ρ : Tr} {dst : Option Tmp} {ty : TypeId} {pos : String} {aft : Array Edge} {gd : Option (Nat × Bool)} {tt kt et : TypeId} {m i x : Operand} {r : Nat} {k : List UInt8} {ks : List (List UInt8)}
theorem Rc.look (hm : opd ρ m = .mp r) (hi : opd ρ i = Str k) (hr : H[r]? = some (.map (mset ks))) (hu : E.P.underlying tt = some (.map kt et)) (hz : zeroT E.P et = some (.bool false)) (hk : plainKey E.P kt (Str k) = true) : Rc E n n0 H ρ ⟨dst, .lookup tt m i false, ty, pos, aft, gd⟩ ⟨.bool (decide (k ∈ ks)), H, .A⟩ := by
  refine Rc.a ?_
  simp only [evN, hu, hz, hi, hk, hm, hr, findK_mset, if_true]
  by_cases h : k ∈ ks <;> simp [h]
theorem Rc.upd (hm : opd ρ m = .mp r) (hi : opd ρ i = Str k) (hx : opd ρ x = .bool true) (hr : H[r]? = some (.map (mset ks))) (hu : E.P.underlying tt = some (.map kt et)) (hk : plainKey E.P kt (Str k) = true) (hn : k ∉ ks) : Rc E n n0 H ρ ⟨dst, .mapUpdate tt m i x, ty, pos, aft, gd⟩ ⟨.tup [], H.set r (.map (mset (ks ++ [k]))), .W⟩ := by
  refine Rc.set ?_
  simp only [evE, hu, hm, hr, hi, hk, hx, putK_mset k ks hn, if_true, Option.map_some]

variable {lo hi mx : Option Operand} {e : TypeId} {z off len gg cl a b : Nat} {l : List UInt8}
theorem bound_none (d : Nat) : bound d none = some d := rfl
/-- s[a:b] of a row's piece. -/
theorem Rc.slR (hx : opd ρ x = .ref r off len z gg cl) (hlo : bound 0 (lo.map (opd ρ)) = some a) (hhi : bound len (hi.map (opd ρ)) = some b) (hu : E.P.underlying tt = some (.slice e)) (hz : size E.P e = some z) (h1 : a ≤ b) (h2 : b ≤ cl) : Rc E n n0 H ρ ⟨dst, .slice tt x lo hi none, ty, pos, aft, gd⟩ ⟨.ref r (off + a) (b - a) z gg (cl - a), H, .P⟩ := by
  refine Rc.val ?_
  simp only [evN, slices, hu, hx, hz, if_true, Option.map_none, bound_none, hlo, hhi, Option.bind_some]
  rw [if_pos ⟨h1, h2, Nat.le_refl _, .inl rfl⟩]
theorem Rc.slI {xs : List DV} (hx : opd ρ x = .imm z xs) (hlo : bound 0 (lo.map (opd ρ)) = some a) (hhi : bound xs.length (hi.map (opd ρ)) = some b) (hu : E.P.underlying tt = some (.slice e)) (hz : size E.P e = some z) (h1 : a ≤ b) (h2 : b ≤ xs.length) : Rc E n n0 H ρ ⟨dst, .slice tt x lo hi none, ty, pos, aft, gd⟩ ⟨.imm z ((xs.drop a).take (b - a)), H, .P⟩ := by
  refine Rc.val ?_
  simp only [evN, slices, hu, hx, hz, if_true, Option.map_none, bound_none, hlo, hhi, Option.bind_some]
  rw [if_pos ⟨h1, h2, Nat.le_refl _, .inl rfl⟩]
theorem Rc.slS (hx : opd ρ x = Str l) (hlo : bound 0 (lo.map (opd ρ)) = some a) (hhi : bound l.length (hi.map (opd ρ)) = some b) (hu : E.P.underlying tt = some .string) (h1 : a ≤ b) (h2 : b ≤ l.length) : Rc E n n0 H ρ ⟨dst, .slice tt x lo hi none, ty, pos, aft, gd⟩ ⟨Str ((l.drop a).take (b - a)), H, .P⟩ := by
  refine Rc.val ?_
  have hsz : (⟨l.toArray⟩ : ByteArray).size = l.length := rfl
  simp only [evN, slices, hu, hx, Str, Option.map_none, Option.isSome_none, Bool.false_eq_true, if_false, hsz, hlo, hhi, Option.bind_some]
  rw [if_pos ⟨h1, h2⟩]
end
theorem bound_nat {d j : Nat} {k : IntKind} {v : DV} (h : v = .int k (j : Int)) : bound d (some v) = some j := by
  subst h
  simp [bound]
theorem FrzE.refT {α : Type} {g : α → DV} {r len z gg cl : Nat} {l : List α} {fz : Bool} {tw : Option TypeId} (hg : Plain g) (hr : H[r]? = some (.row ⟨l.map g, z, gg, fz, tw⟩)) (hl : len ≤ l.length) : FrzE H (.ref r 0 len z gg cl) (.imm z ((l.take len).map g)) :=
  ⟨_, Frz.ref hr rfl rfl (by simpa using hl) (by rw [List.drop_zero, ← List.map_take]; exact FrzR.plain hg _)⟩
theorem Hands.frz {d r : DV} (h : FrzE H r d) : Hands H r (.val d) := h
theorem Flt.tup0 : Flt (.tup []) := .of rfl
theorem FrzE.nils {z : Nat} : FrzE H .nils (.imm z []) := ⟨[], fun S S' μ w v _ _ _ hv => by cases hv; exact .imm0 _ _ _⟩
section
variable {E : Env} {n n0 : Nat} {ρ : Tr} {dst : Option Tmp} {ty tt tu : TypeId} {pos : String} {aft : Array Edge} {gd : Option (Nat × Bool)} {x y : Operand} {k : IntKind} {a b : Nat}
theorem Rc.minN (hx : opd ρ x = .int k (a : Int)) (hy : opd ρ y = .int k (b : Int)) : Rc E n n0 H ρ ⟨dst, .call { callee := .builtin .min, args := #[x, y], argTypes := #[tt, tu] }, ty, pos, aft, gd⟩ ⟨.int k ((min a b : Nat) : Int), H, .P⟩ := by
  refine Rc.val ?_
  simp only [evN, List.map_cons, List.map_nil, hx, hy]
  congr 2
  split <;> omega
theorem Rc.maxN (hx : opd ρ x = .int k (a : Int)) (hy : opd ρ y = .int k (b : Int)) : Rc E n n0 H ρ ⟨dst, .call { callee := .builtin .max, args := #[x, y], argTypes := #[tt, tu] }, ty, pos, aft, gd⟩ ⟨.int k ((max a b : Nat) : Int), H, .P⟩ := by
  refine Rc.val ?_
  simp only [evN, List.map_cons, List.map_nil, hx, hy]
  congr 2
  split <;> omega
end
/-- A struct out of its fields. -/
theorem Rc.build {E : Env} {n n0 : Nat} {ρ : Tr} {dst : Option Tmp} {ty t : TypeId} {pos : String} {aft : Array Edge} {gd : Option (Nat × Bool)} {parts : Array (Nat × Operand)} {fs : Array Field} {z : DV} {cs : List DV} (hu : E.P.underlying t = some (.struct fs)) (hz : zeroT E.P t = some z) (hz0 : z.isUnd = false)
    (hf : fillP (fun i => (fs[i]?).bind fun fd => (size E.P fd.type).map fun n => (fd.offset, n)) z.cells (parts.toList.map fun p => (p.1, opd ρ p.2)) = some cs) (ha : (fs.toList.all fun fd => (E.P.info? fd.type).isSome) = true) : Rc E n n0 H ρ ⟨dst, .build t parts, ty, pos, aft, gd⟩ ⟨.agg cs, H, .P⟩ := by
  refine Rc.val ?_
  have ha' : (fs.all fun fd => (E.P.info? fd.type).isSome) = true := by rw [← Array.all_toList]; exact ha
  simp only [evN, hu, hz, hz0, hf, Option.bind_some, ha', if_true]
  rfl
theorem flats_Str (l : List (List UInt8)) : ∀ d ∈ l.map Str, ∃ v, fv d = some v := fun d hd => by
  obtain ⟨x, _, rfl⟩ := List.mem_map.1 hd
  exact ⟨_, rfl⟩
theorem Rc.subN {E : Env} {n n0 : Nat} {H : Heap} {ρ : Tr} {dst : Option Tmp} {ty tt tu : TypeId} {pos : String} {aft : Array Edge} {gd : Option (Nat × Bool)} {x y : Operand} {a : Nat} (hx : opd ρ x = .int .i64 (a : Int)) (hy : opd ρ y = .int .i64 1) (h : 1 ≤ a ∧ a ≤ 9223372036854775807) : Rc E n n0 H ρ ⟨dst, .binOp .sub tt x y tu, ty, pos, aft, gd⟩ ⟨.int .i64 ((a - 1 : Nat) : Int), H, .P⟩ := by
  have := Rc.subI (E := E) (n := n) (n0 := n0) (H := H) (ρ := ρ) (dst := dst) (ty := ty) (tt := tt) (tu := tu) (pos := pos) (aft := aft) (gd := gd) (x := x) (y := y) (a := a) (b := 1) hx hy (by omega)
  rwa [show (a : Int) - 1 = ((a - 1 : Nat) : Int) by omega] at this
/-- What is made out of data alone is data at once (its row is nobody's to write). -/
def pd (ρ : Tr) (x : Operand) : DV := if flat 9 (opd ρ x) then opd ρ x else .und
theorem Rc.mk0 {E : Env} {n n0 : Nat} {H : Heap} {ρ : Tr} {o : Oper} {d r : DV} {ob : Ob} {us : List Nat} (h : evE E.P [] (pd ρ) o.op = some (r, .push ob)) (hf : fre [ob] 8 r = some (d, us)) : Rc E n n0 H ρ o ⟨d, H, .P⟩ := .of <| fun hE => ⟨⟨fun _ => rfl, fun h => by cases h⟩, fun S μ w a HL K Q hH hG hr hR hA hK => by
  unfold Oper.wp
  have hH0 : HR E.NG S mu0 [] w := ⟨⟨fun r R hr => by simp at hr, fun r es hr => by simp at hr⟩, fun _ _ => rfl, fun r r' p p' hl => by have := live_lt hl; simp at this, fun r p hl => by have := live_lt hl; simp at this, hH.ng, hH.st, fun r g sz hr => by simp at hr⟩
  have hg : ∀ x, V S mu0 w (pd ρ x) (a.eval x) := fun x => by
    unfold pd
    split
    · rename_i h'
      exact Flt.of h' _ _ _ S mu0 w _ (hr.opd x)
    · exact .und _
  obtain ⟨v, w', μ', h1, h2, h3, h4, h5⟩ := evE_ok hH0 hg h
  obtain ⟨q1, q2, q3, q4, _⟩ := dropS h2 h3 us
  obtain ⟨k1, k2, _⟩ := ext_ok (w' := w') hH q1 q2 q3 q4 h3.size h3.io
  have hv := fre_ok (S' := fun B c => S B c ∨ ∃ r ∈ us, Shows (Eff.on [] (.push ob)) μ' r B c) h2.toHRd (fun _ _ h => Or.inl h) 8 _ _ _ _ hf h5 (fun r hr B c h => Or.inr ⟨r, hr, h⟩)
  rcases h1 with h1 | ⟨h1, rfl⟩
  · rw [h1]; exact hK v _ μ w' k1 k2 hv.lift
  · rw [h1]; exact hK undef _ μ w' k1 k2 hv.lift⟩
theorem Frz.nils0 {H : Heap} {z : Nat} : Frz H .nils (.imm z []) [] := fun S S' μ w v _ _ _ hv => by cases hv; exact .imm0 _ _ _
end Go.Dev

/- What came in: a parameter read as data (rows whose parameters are texts, numbers, slices, structs). -/
namespace Go.Dev
open Go.RowKit
/-- The cells that stand in the world. -/
def Old (w : World) : Nat → Nat → Prop := fun B _ => B < w.heap.size
/-- Cells that hold a datum. -/
def CsV (w : World) (d : DV) (cs : List Value) : Prop := d.cells.length = cs.length ∧ ∀ (j : Nat) (c : DV) (v : Value), d.cells[j]? = some c → cs[j]? = some v → V (Old w) mu0 w c v
/-- What reads as data at type t (with at most n steps of depth, every size at most Z) is g of some y that is such. -/
def OpD {α : Type} (P : Program) (Z n : Nat) (t : TypeId) (g : α → DV) (W : α → Prop) : Prop :=
  ∀ (H : Type) (enc : TypeId × Value → H) (w : World) (fuel : Nat) (cs : List Value) (x : DataW H × List MemPlace), fuel ≤ n →
    DataW.trod enc P w 0 (fun _ => true) true fuel t cs = some x → (∀ m ∈ x.1.weights P t, m ≤ Z) → ∃ y, W y ∧ CsV w (g y) cs
theorem weightsAll_mem {H : Type} {P : Program} {e : TypeId} : ∀ {ds : List (DataW H)} {d : DataW H}, d ∈ ds → ∀ n ∈ d.weights P e, n ∈ DataW.weightsAll P e ds
  | [], _, h, _, _ => by simp at h
  | x :: r, d, h, n, hn => by
    rw [DataW.weightsAll, List.mem_append]
    rcases List.mem_cons.1 h with rfl | h
    · exact .inl hn
    · exact .inr (weightsAll_mem h n hn)
section
variable {P : Program} {Z n : Nat} {t : TypeId}
theorem CsV.one {w : World} {d : DV} {v : Value} (hc : d.cells = [d]) (h : V (Old w) mu0 w d v) : CsV w d [v] := ⟨by simp [hc], fun j c v' h1 h2 => by
  rw [hc] at h1
  match j with
  | 0 => simp at h1 h2; subst h1 h2; exact h
  | j + 1 => simp at h1⟩
theorem OpD.str (ht : P.underlying t = some .string) (n : Nat) : OpD P Z n t Str (fun s => s.length ≤ Z) := by
  intro H enc w fuel cs x _ h hz
  obtain ⟨s, rfl, rfl, hs⟩ := DataW.trod_string ht h
  refine ⟨s.data.toList, hz _ (by simp only [DataW.weights, List.mem_singleton]), .one rfl ?_⟩
  have : Str s.data.toList = .str s := by simp [Str]
  rw [this]
  exact .str s
theorem OpD.int {k : IntKind} (ht : P.underlying t = some (.int k)) (n : Nat) : OpD P Z n t (DV.int k) (fun z => (Lit.int k z).wf = true) := by
  intro H enc w fuel cs x _ h _
  obtain ⟨z, rfl, _, hw⟩ := DataW.trod_int ht h
  exact ⟨z, hw, .one rfl (.int k z)⟩
theorem OpD.bool (ht : P.underlying t = some .bool) (n : Nat) : OpD P Z n t DV.bool (fun _ => True) := by
  intro H enc w fuel cs x _ h _
  obtain ⟨z, rfl, _⟩ := DataW.trod_bool ht h
  exact ⟨z, trivial, .one rfl (.bool z)⟩
theorem list_each {α : Type} {p : Nat → α → Prop} : ∀ (n : Nat), (∀ i, i < n → ∃ y, p i y) → ∃ ys : List α, ys.length = n ∧ ∀ i y, ys[i]? = some y → p i y
  | 0, _ => ⟨[], rfl, fun i y h => by simp at h⟩
  | n + 1, h => by
    obtain ⟨ys, hl, hy⟩ := list_each n (fun i hi => h i (by omega))
    obtain ⟨y, hp⟩ := h n (by omega)
    refine ⟨ys ++ [y], by simp [hl], fun i z hz => ?_⟩
    by_cases hi : i < ys.length
    · rw [List.getElem?_append_left hi] at hz
      exact hy i z hz
    · have hlt := (List.getElem?_eq_some_iff.1 hz).1
      rw [List.length_append, List.length_singleton] at hlt
      have : i = n := by omega
      subst this
      rw [List.getElem?_append_right (by omega), hl, Nat.sub_self] at hz
      have : y = z := by simpa using hz
      exact this ▸ hp
theorem cell_old {w : World} {B c : Nat} {v : Value} (h : cellAt w B c = some v) : Old w B c := by
  unfold cellAt at h
  split at h
  · rename_i h'
    exact (Array.getElem?_eq_some_iff.1 h').1
  · cases h
theorem OpD.slice_n {e : TypeId} {α : Type} {g : α → DV} {W : α → Prop} {sz : Nat} (ht : P.underlying t = some (.slice e)) (hsz : P.cellsOf e = sz) (h0 : sz ≠ 0) (hbz : P.bytesOf e ≠ 0) (he : OpD P Z n e g W) :
    OpD P Z (n + 1) t (fun xs : List α => .imm sz (xs.map g)) (fun xs => xs.length ≤ Z ∧ ∀ y ∈ xs, W y) := by
  intro H enc w fuel cs x hf h hz
  rcases DataW.trod_slice ht h with ⟨rfl, _⟩ | ⟨a, len, cap, elems, rest, m, rfl, rfl, rfl, hb, hl, hm, hlen, hel, _, _⟩
  · refine ⟨[], ⟨by simp, by simp⟩, .one rfl ?_⟩
    exact .imm0 _ _ _
  have each : ∀ i, i < len → ∃ y, W y ∧ ∃ c : List Value, c.length = sz ∧ CsV w (g y) c ∧ ∀ j v, c[j]? = some v → w.cell? (a.add (i * sz + j)) = some v := by
    intro i hi
    have h1 := hel i hi
    rw [List.getElem?_eq_getElem (show i < elems.length by omega), Option.bind_eq_some_iff] at h1
    obtain ⟨c, hc, ht'⟩ := h1
    obtain ⟨y, hw, hy⟩ := he H enc w m c _ (by omega) ht' (fun k hk => hz k (by
      rw [show (DataW.slice (elems.map (·.1)) (rest.map (·.1))).weights P t = _ from by rw [DataW.weights, ht]]
      exact List.mem_cons_of_mem _ (List.mem_append_left _ (weightsAll_mem (List.mem_map.2 ⟨_, List.getElem_mem (by omega), rfl⟩) k hk))))
    obtain ⟨_, hcl, hcell⟩ := World.cells?_some hc
    refine ⟨y, hw, c, by rw [hcl, hsz], hy, fun j u hj => ?_⟩
    have hjl := (List.getElem?_eq_some_iff.1 hj).1
    have := hcell j (by omega)
    rw [hsz, hj, Addr.add_add] at this
    exact this
  obtain ⟨ys, hyl, hys⟩ := list_each len each
  have hlz : len ≤ Z := by
    have h1 := hz ((elems.length + rest.length) * P.bytesOf e) (by
      rw [show (DataW.slice (elems.map (·.1)) (rest.map (·.1))).weights P t = _ from by rw [DataW.weights, ht]]
      simp)
    have h2 : elems.length + rest.length ≤ (elems.length + rest.length) * P.bytesOf e := Nat.le_mul_of_pos_right _ (by omega)
    omega
  refine ⟨ys, ⟨by omega, fun y hy => ?_⟩, .one rfl ?_⟩
  · obtain ⟨i, hi⟩ := List.getElem?_of_mem hy
    exact (hys i y hi).1
  cases hyz : ys with
  | nil =>
    obtain rfl : len = 0 := by rw [← hyl, hyz]; rfl
    exact .imm0 _ _ _
  | cons y0 yr =>
    rw [← hyz]
    -- the address is a plain one
    have hsp : a.spot = none := by
      obtain ⟨_, c, h1, h2, h3⟩ := hys 0 y0 (by rw [hyz]; rfl)
      cases c with
      | nil => simp at h1; omega
      | cons c0 cr =>
        have := h3 0 c0 rfl
        unfold World.cell? at this
        split at this
        · split at this
          · cases this
          · rename_i hs
            cases hs' : a.spot with
            | none => rfl
            | some x => simp [Addr.add, hs'] at hs
        · cases this
    obtain ⟨B, o, sp⟩ := a
    dsimp only at hsp
    subst hsp
    have key : ∀ (i j : Nat) (v : Value), w.cell? ((⟨B, o, none⟩ : Addr).add (i * sz + j)) = some v → cellAt w B (o + i * sz + j) = some v := fun i j v h => by
      rw [← cell_eq, ← h]
      congr 1
      unfold Addr.add
      split
      · rename_i h'; simp at h'; simp [h']
      · simp [Nat.add_assoc]
    have hcv : ∀ (i j : Nat) (e : DV) (c : DV), (ys.map g)[i]? = some e → e.cells[j]? = some c → ∃ v, cellAt w B (o + i * sz + j) = some v ∧ V (Old w) mu0 w c v := by
      intro i j e c h1 h2
      rw [List.getElem?_map, Option.map_eq_some_iff] at h1
      obtain ⟨y, hy, rfl⟩ := h1
      obtain ⟨_, cs, q1, ⟨q2, q3⟩, q4⟩ := hys i y hy
      have hj : j < cs.length := by rw [← q2]; exact (List.getElem?_eq_some_iff.1 h2).1
      exact ⟨cs[j], key i j _ (q4 j _ (List.getElem?_eq_getElem hj)), q3 j c _ h2 (List.getElem?_eq_getElem hj)⟩
    have : len = (ys.map g).length := by simp [hyl]
    rw [this]
    refine .imm sz (ys.map g) B o cap (fun i j => (cellAt w B (o + i * sz + j)).getD undef) (by simp; omega) (fun i e h1 => ?_) (fun i e j c h1 h2 => ?_) (fun i e j c h1 h2 => ?_)
    · rw [List.getElem?_map, Option.map_eq_some_iff] at h1
      obtain ⟨y, hy, rfl⟩ := h1
      obtain ⟨_, cs, q1, ⟨q2, q3⟩, q4⟩ := hys i y hy
      rw [q2, q1]
    · obtain ⟨v, h3, h4⟩ := hcv i j e c h1 h2
      exact ⟨by rw [h3]; rfl, cell_old h3⟩
    · obtain ⟨v, h3, h4⟩ := hcv i j e c h1 h2
      rw [h3]
      exact h4
theorem OpD.le {α : Type} {g : α → DV} {W : α → Prop} {m : Nat} (h : OpD P Z n t g W) (hm : m ≤ n) : OpD P Z m t g W :=
  fun H enc w fuel cs x hf hx hz => h H enc w fuel cs x (Nat.le_trans hf hm) hx hz
theorem OpD.slice {e : TypeId} {α : Type} {g : α → DV} {W : α → Prop} {sz : Nat} (ht : P.underlying t = some (.slice e)) (hsz : P.cellsOf e = sz) (h0 : sz ≠ 0) (hbz : P.bytesOf e ≠ 0) (he : ∀ n, OpD P Z n e g W) (n : Nat) :
    OpD P Z n t (fun xs : List α => .imm sz (xs.map g)) (fun xs => xs.length ≤ Z ∧ ∀ y ∈ xs, W y) := (OpD.slice_n ht hsz h0 hbz (he n)).le (Nat.le_succ n)
/-- An argument, as data. -/
theorem OpD.arg {α : Type} {g : α → DV} {W : α → Prop} (h : ∀ n, OpD P Z n t g W) {H : Type} {enc : TypeId × Value → H} {w : World} {v : Value} {x : DataW H} {ps : List MemPlace} (ht : DataW.Trod enc P w 0 (fun _ => true) true t v x ps) {ts : List TypeId} {ds : List (DataW H)} {j : Nat} (hsz : (DataW.weightsEach P ts ds).all (· ≤ reachBytes) = true) (hj : ts[j]? = some t) (hd : ds[j]? = some x) (hZ : reachBytes ≤ Z)
    (hv : v.cells.toList = [v]) (hg : ∀ y, (g y).cells = [g y]) : ∃ y, W y ∧ V (Old w) mu0 w (g y) v := by
  obtain ⟨m, hm⟩ := ht
  obtain ⟨y, hw, h1, h2⟩ := h m H enc w m _ _ (Nat.le_refl _) hm (fun k hk => Nat.le_trans (of_decide_eq_true (List.all_eq_true.1 hsz k (DataW.weights_mem_each hj hd k hk))) hZ)
  exact ⟨y, hw, h2 0 _ _ (by rw [hg]; rfl) (by rw [hv]; rfl)⟩
end
end Go.Dev
