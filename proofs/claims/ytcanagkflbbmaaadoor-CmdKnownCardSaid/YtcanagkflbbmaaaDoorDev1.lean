/- Values of a Go program as data, and a function that computes over them as the program's code says (no memory but rows that the call has made). -/
import Derived.Calls
import Derived.Orders
import Derived.Laws.Entries
import Derived.Laws.Cells
import Derived.Laws.Append
import Derived.Lib.Bytealg
import Derived.Laws.Strings
import Derived.Laws.BytesString
import Derived.Laws.Pointers
import Derived.Laws.Small
import Derived.Laws.StructEq
import Derived.Laws.Externs
import Derived.Lib.BytesEntry
import Derived.Lib.UnsafeStr
import Derived.ChangeKeysEq
set_option linter.unusedVariables false
set_option linter.unusedSimpArgs false
/- Values of a Go program as data, and a function that computes over them as the program's code says (no memory but rows that the call has made). -/
namespace Go.Dev
/-- A value as data: a slice that nobody writes any more bears its elements (imm); one of a row that is still made names the row (ref). -/
inductive DV where
  | und
  | bool (b : Bool)
  | int (k : IntKind) (n : Int)
  | str (s : ByteArray)
  | nilp
  | ptr (r i off sz g : Nat)
  | ipt (e : DV) (off : Nat)
  | opq
  | nils
  | imm (sz : Nat) (l : List DV)
  | ref (r off len sz g cl : Nat)
  | nilm
  | mp (r : Nat)
  | nilf
  | fn (f : FuncId) (cs : List DV)
  | bfn (f : FuncId) (d : DV)
  | nili
  | iface (t : TypeId) (v : DV)
  | agg (cs : List DV)
  | tup (cs : List DV)
  deriving Inhabited

def DV.cells : DV → List DV
  | .agg cs => cs
  | v => [v]

/-- May a value stand in one cell? -/
def DV.one : DV → Bool
  | .und | .agg _ | .tup _ => false
  | _ => true

def DV.isUnd : DV → Bool
  | .und => true
  | _ => false

/-- A row that is made: its elements, the cells of each, its type, its generation (each append makes a new one), and whether it is read as data elsewhere. -/
structure Row where
  elems : List DV
  sz : Nat
  g : Nat
  fz : Bool
  ty : Option TypeId
  deriving Inhabited

inductive Ob where
  | row (R : Row)
  | map (es : List (DV × DV))
  | dead
  | slot (g sz : Nat)
  deriving Inhabited

abbrev Heap := List Ob

/-- Registers: a tree, so that a place is found in few steps. -/
inductive Tr where
  | e
  | n (v : DV) (l r : Tr)
  deriving Inhabited

def Tr.get : Tr → Nat → DV
  | .e, _ => .und
  | .n v l r, k => if k = 0 then v else if k % 2 = 1 then l.get (k / 2) else r.get (k / 2 - 1)

def Tr.put (v : DV) : Nat → Tr → Nat → Tr
  | 0, t, _ => t
  | f + 1, .e, k => if k = 0 then .n v .e .e else if k % 2 = 1 then .n .und (Tr.put v f .e (k / 2)) .e else .n .und .e (Tr.put v f .e (k / 2 - 1))
  | f + 1, .n u l r, k => if k = 0 then .n v l r else if k % 2 = 1 then .n u (Tr.put v f l (k / 2)) r else .n u l (Tr.put v f r (k / 2 - 1))

def Tr.set (t : Tr) (k : Nat) (v : DV) : Tr := Tr.put v (k + 1) t k

theorem Tr.get_put_same (v : DV) : ∀ (f : Nat) (t : Tr) (k : Nat), k < f → (Tr.put v f t k).get k = v
  | 0, _, _, h => by omega
  | f + 1, .e, k, h => by
    simp only [Tr.put]
    split
    · simp [Tr.get, *]
    · split
      · simp only [Tr.get, *, if_false, if_true]; exact Tr.get_put_same v f .e _ (by omega)
      · simp only [Tr.get, *, if_false]; exact Tr.get_put_same v f .e _ (by omega)
  | f + 1, .n u l r, k, h => by
    simp only [Tr.put]
    split
    · simp [Tr.get, *]
    · split
      · simp only [Tr.get, *, if_false, if_true]; exact Tr.get_put_same v f l _ (by omega)
      · simp only [Tr.get, *, if_false]; exact Tr.get_put_same v f r _ (by omega)

theorem Tr.get_put_ne (v : DV) : ∀ (f : Nat) (t : Tr) (k j : Nat), j ≠ k → (Tr.put v f t k).get j = t.get j
  | 0, _, _, _, _ => by simp [Tr.put]
  | f + 1, .e, k, j, h => by
    simp only [Tr.put]
    split
    · by_cases hj : j = 0
      · omega
      · simp [Tr.get, hj]
    · split
      · by_cases hj : j = 0
        · simp [Tr.get, hj]
        · by_cases hm : j % 2 = 1
          · simp only [Tr.get, hj, hm, if_false, if_true]
            rw [Tr.get_put_ne v f .e _ _ (by omega)]; simp [Tr.get]
          · simp [Tr.get, hj, hm]
      · by_cases hj : j = 0
        · simp [Tr.get, hj]
        · by_cases hm : j % 2 = 1
          · simp [Tr.get, hj, hm]
          · simp only [Tr.get, hj, hm, if_false]
            rw [Tr.get_put_ne v f .e _ _ (by omega)]; simp [Tr.get]
  | f + 1, .n u l r, k, j, h => by
    simp only [Tr.put]
    split
    · by_cases hj : j = 0
      · omega
      · simp [Tr.get, hj]
    · split
      · by_cases hj : j = 0
        · simp [Tr.get, hj]
        · by_cases hm : j % 2 = 1
          · simp only [Tr.get, hj, hm, if_false, if_true]
            exact Tr.get_put_ne v f l _ _ (by omega)
          · simp [Tr.get, hj, hm]
      · by_cases hj : j = 0
        · simp [Tr.get, hj]
        · by_cases hm : j % 2 = 1
          · simp [Tr.get, hj, hm]
          · simp only [Tr.get, hj, hm, if_false]
            exact Tr.get_put_ne v f r _ _ (by omega)

theorem Tr.get_set (t : Tr) (k j : Nat) (v : DV) : (t.set k v).get j = if j = k then v else t.get j := by
  unfold Tr.set
  split
  · subst_vars; exact Tr.get_put_same v _ t _ (by omega)
  · exact Tr.get_put_ne v _ t _ _ (by assumption)

/-- A constant of the code. -/
def cst : Nat → Value → DV
  | 0, _ => .und
  | n + 1, v => match v with
    | .bool b => .bool b
    | .int k i => .int k i
    | .string s => .str s
    | .pointer none => .nilp
    | .slice none 0 0 => .nils
    | .map none => .nilm
    | .nilFunc => .nilf
    | .nilIface => .nili
    | .agg cs => .agg (cs.toList.map (cst n))
    | .tuple cs => .tup (cs.toList.map (cst n))
    | _ => .und

def opd (ρ : Tr) : Operand → DV
  | .tmp t => ρ.get t
  | .const v => cst 3 v
  | .global _ => .und
  | .func f => .fn f []

section types
variable (P : Program)
def size (t : TypeId) : Option Nat := (P.info? t).map (·.size)
def aggT (t : TypeId) : Option Bool := match P.underlying t with
  | some (.struct _) | some (.array _ _) => some true
  | some _ => some false
  | none => none
def zeroT (t : TypeId) : Option DV := (P.info? t).bind fun i => i.zero.map (cst 3)
/-- A part of cells. -/
def partOf (t : TypeId) (cs : List DV) (off : Nat) : Option DV :=
  match aggT P t, size P t with
  | some true, some n => if off + n ≤ cs.length then some (.agg ((cs.drop off).take n)) else none
  | some false, _ => cs[off]?
  | _, _ => none
end types

def isSliceT (P : Program) (t : TypeId) : Bool := match P.underlying t with | some (.slice _) => true | _ => false
def isStrT (P : Program) (t : TypeId) : Bool := match P.underlying t with | some .string => true | _ => false
def isU8T (P : Program) (t : TypeId) : Bool := match P.underlying t with | some (.int .u8) => true | _ => false
def isIntT (P : Program) (t : TypeId) : Bool := match P.underlying t with | some (.int _) => true | _ => false
def isPtrT (P : Program) (t : TypeId) : Bool := match P.underlying t with | some (.pointer e) => (P.info? e).isSome | _ => false

def intBin (op : BinOp) (k : IntKind) (a b : Int) : Option DV :=
  match op with
  | .add => some (.int k (k.wrap (a + b)))
  | .sub => some (.int k (k.wrap (a - b)))
  | .mul => some (.int k (k.wrap (a * b)))
  | .quo => if b = 0 then none else some (.int k (k.wrap (a.tdiv b)))
  | .rem => if b = 0 then none else some (.int k (a.tmod b))
  | .eql => some (.bool (a == b))
  | .neq => some (.bool (a != b))
  | .lss => some (.bool (decide (a < b)))
  | .leq => some (.bool (decide (a ≤ b)))
  | .gtr => some (.bool (decide (b < a)))
  | .geq => some (.bool (decide (b ≤ a)))
  | .and => some (.int k (k.wrap ((BitVec.ofInt k.bits a &&& BitVec.ofInt k.bits b).toNat)))
  | .or => some (.int k (k.wrap ((BitVec.ofInt k.bits a ||| BitVec.ofInt k.bits b).toNat)))
  | .xor => some (.int k (k.wrap ((BitVec.ofInt k.bits a ^^^ BitVec.ofInt k.bits b).toNat)))
  | .andNot => some (.int k (k.wrap ((BitVec.ofInt k.bits a &&& ~~~ BitVec.ofInt k.bits b).toNat)))
  | _ => none

def strBin (op : BinOp) (a b : ByteArray) : Option DV :=
  match op with
  | .add => if a.size + b.size ≤ 9223372036854775807 then some (.str ⟨(a.data.toList ++ b.data.toList).toArray⟩) else none
  | .eql => some (.bool (a.data.toList == b.data.toList))
  | .neq => some (.bool (!(a.data.toList == b.data.toList)))
  | .lss => some (.bool (Op.bytesLess a.data.toList b.data.toList))
  | .leq => some (.bool (Op.bytesLess a.data.toList b.data.toList || a.data.toList == b.data.toList))
  | .gtr => some (.bool (!(Op.bytesLess a.data.toList b.data.toList || a.data.toList == b.data.toList)))
  | .geq => some (.bool (!(Op.bytesLess a.data.toList b.data.toList)))
  | _ => none

/-- Is a value nil (of those that are compared with nil)? -/
def isNil : DV → Option Bool
  | .nilp | .nils | .nilm | .nilf | .nili => some true
  | .ptr .. | .ipt .. | .opq | .ref _ _ (_ + 1) _ _ _ | .mp _ | .fn .. | .bfn .. | .iface .. => some false
  | .imm _ (_ :: _) => some false
  | _ => none

def isConst : Operand → Bool | .const _ => true | _ => false

def isP : DV → Bool | .nilp | .ptr .. | .ipt .. | .opq => true | _ => false
def isS : DV → Bool | .nils | .ref .. | .imm _ (_ :: _) => true | _ => false
def isM : DV → Bool | .nilm | .mp _ => true | _ => false
def isF : DV → Bool | .nilf | .fn .. | .bfn .. => true | _ => false
def isI : DV → Bool | .nili | .iface .. => true | _ => false
/-- What a comparison with nil asks of a type: that it is what the values are. -/
def nilTy (P : Program) (t : TypeId) (a b : DV) : Bool :=
  match P.underlying t with
  | some (.pointer _) => isP a && isP b
  | some (.slice _) => isS a && isS b
  | some (.map _ _) => isM a && isM b
  | some (.func _ _ _) => isF a && isF b
  | some (.interface _) => isI a && isI b
  | _ => false

def binV (P : Program) (op : BinOp) (t : TypeId) (x y : Operand) (a b : DV) : Option DV :=
  match op, a, b with
  | .shl, .int k a, .int _ b => if b < 0 then none else some (.int k (k.wrap (a * 2 ^ (min b.toNat k.bits))))
  | .shr, .int k a, .int _ b => if b < 0 then none else some (.int k (a.fdiv (2 ^ (min b.toNat k.bits))))
  | op, .int k a, .int k' b => if k = k' then intBin op k a b else none
  | op, .str a, .str b => strBin op a b
  | .eql, .bool a, .bool b => if P.underlying t matches some .bool then some (.bool (a == b)) else none
  | .neq, .bool a, .bool b => if P.underlying t matches some .bool then some (.bool (!(a == b))) else none
  | .eql, a, b => if nilTy P t a b && (isConst x || isConst y) then (match isNil a, isNil b with | some p, some q => if p || q then some (.bool (p && q)) else none | _, _ => none) else none
  | .neq, a, b => if nilTy P t a b && (isConst x || isConst y) then (match isNil a, isNil b with | some p, some q => if p || q then some (.bool (!(p && q))) else none | _, _ => none) else none
  | _, _, _ => none

def byteOf : DV → Option UInt8
  | .int .u8 n => some (UInt8.ofNat n.toNat)
  | _ => none
def byteDV (b : UInt8) : DV := .int .u8 b.toNat

/-- The elements that a slice shows. -/
def elemsOf (H : Heap) : DV → Option (Nat × List DV)
  | .imm sz l => some (sz, l)
  | .ref r off len sz g _ => match H[r]? with
    | some (.row R) => if R.g = g ∧ R.sz = sz ∧ off + len ≤ R.elems.length then some (sz, (R.elems.drop off).take len) else none
    | _ => none
  | _ => none

def bound (d : Nat) : Option DV → Option Nat
  | none => some d
  | some (.int _ n) => if 0 ≤ n then some n.toNat else none
  | some _ => none

def slices (P : Program) (t : TypeId) (x : DV) (lo hi mx : Option DV) : Option DV :=
  match P.underlying t, x with
  | some .string, .str s =>
    if mx.isSome then none else
    (bound s.size hi).bind fun h => (bound 0 lo).bind fun l => if l ≤ h ∧ h ≤ s.size then some (.str ⟨((s.data.toList.drop l).take (h - l)).toArray⟩) else none
  | some (.slice e), .nils => (bound 0 mx).bind fun m => (bound 0 hi).bind fun h => (bound 0 lo).bind fun l => if l = 0 ∧ h = 0 ∧ m = 0 ∧ (mx.isNone ∨ hi.isSome) ∧ (size P e).isSome then some .nils else none
  | some (.slice e), .imm sz xs => if size P e = some sz then
      (bound xs.length mx).bind fun m => (bound xs.length hi).bind fun h => (bound 0 lo).bind fun l => if l ≤ h ∧ h ≤ m ∧ m ≤ xs.length ∧ (mx.isNone ∨ hi.isSome) then some (.imm sz ((xs.drop l).take (h - l))) else none
    else none
  | some (.slice e), .ref r off len sz g cl => if size P e = some sz then
      (bound cl mx).bind fun m => (bound len hi).bind fun h => (bound 0 lo).bind fun l => if l ≤ h ∧ h ≤ m ∧ m ≤ cl ∧ (mx.isNone ∨ hi.isSome) then some (.ref r (off + l) (h - l) sz g (m - l)) else none
    else none
  | _, _ => none

def keyEq : DV → DV → Option Bool
  | .int k a, .int k' b => if k = k' then some (a == b) else none
  | .str a, .str b => some (a.data.toList == b.data.toList)
  | .bool a, .bool b => some (a == b)
  | _, _ => none
def findK (k : DV) : List (DV × DV) → Option (Option DV)
  | [] => some none
  | e :: es => match keyEq k e.1 with
    | some true => some (some e.2)
    | some false => findK k es
    | none => none
def putK (k v : DV) : List (DV × DV) → Option (List (DV × DV))
  | [] => some [(k, v)]
  | e :: es => match keyEq k e.1 with
    | some true => some ((k, v) :: es)
    | some false => (putK k v es).map (e :: ·)
    | none => none
def plainKey (P : Program) (t : TypeId) : DV → Bool
  | .int .. => (P.underlying t matches some (.int _))
  | .str _ => (P.underlying t matches some .string)
  | .bool _ => (P.underlying t matches some .bool)
  | _ => false

def allSome {α : Type} : List (Option α) → Option (List α)
  | [] => some []
  | none :: _ => none
  | some a :: l => (allSome l).map (a :: ·)

def setCells (cs : List DV) (off : Nat) (new : List DV) : List DV := cs.take off ++ new ++ cs.drop (off + new.length)

/-- An element, some cells written. -/
def putCells (e : DV) (off : Nat) (y : DV) : DV :=
  match e with
  | .agg cs => .agg (setCells cs off y.cells)
  | _ => y

/-- build's parts: each at its place. -/
def fillP (place : Nat → Option (Nat × Nat)) (cs : List DV) : List (Nat × DV) → Option (List DV)
  | [] => some cs
  | (i, v) :: rest => match place i with
    | none => none
    | some (off, n) => if v.cells.length ≠ n ∨ off + n > cs.length ∨ v.isUnd = true then none else fillP place (setCells cs off v.cells) rest

def intOf : DV → Option Int
  | .int _ n => some n
  | _ => none

/-- The bytes of a string or of a slice of bytes. -/
def bytesD (H : Heap) : DV → Option (List UInt8)
  | .str s => some s.data.toList
  | .nils => some []
  | d => match elemsOf H d with
    | some (1, l) => allSome (l.map byteOf)
    | _ => none

/-- Functions that have no body in the text. -/
inductive EK where
  | cnt | idxB | cmp | same

def ekOf (fn : Func) : Option EK :=
  if fn.body.isSome || fn.origin != "" then none
  else if fn.name == "internal/bytealg.Count" || fn.name == "internal/bytealg.CountString" then some .cnt
  else if fn.name == "internal/bytealg.IndexByte" || fn.name == "internal/bytealg.IndexByteString" then some .idxB
  else if fn.name == "internal/bytealg.Compare" then some .cmp
  else if fn.name == "internal/abi.NoEscape" then some .same
  else none

def extD (H : Heap) : EK → List DV → Option DV
  | .cnt, [b, c] => match bytesD H b, byteOf c with
    | some l, some c => some (.int .i64 (Lib.countByte l c : Nat))
    | _, _ => none
  | .idxB, [b, c] => match bytesD H b, byteOf c with
    | some l, some c => some (.int .i64 (Lib.indexByte l c))
    | _, _ => none
  | .cmp, [a, b] => match bytesD H a, bytesD H b with
    | some l, some c => some (.int .i64 (Lib.compareBytes l c))
    | _, _ => none
  | .same, [a] => some a
  | _, _ => none

/-- Is a pointer into a row that is there? -/
def ptrAt (H : Heap) (r i o sz g : Nat) : Option Row := match H[r]? with
  | some (.row R) => if R.g = g ∧ R.sz = sz ∧ i < R.elems.length ∧ o < sz then some R else none
  | _ => none

def ptrEq (P : Program) (H : Heap) (t : TypeId) : DV → DV → Bool
  | .ptr r i o sz g, .ptr r' i' o' sz' g' => r == r' && i == i' && o == o' && sz == sz' && g == g' && (ptrAt H r i o sz g).isSome && isPtrT P t
  | _, _ => false

def eqRes : BinOp → Option DV
  | .eql => some (.bool true)
  | .neq => some (.bool false)
  | _ => none

theorem eqRes_spec {op : BinOp} {d : DV} (h : eqRes op = some d) : (op = .eql ∧ d = .bool true) ∨ (op = .neq ∧ d = .bool false) := by
  cases op <;> simp_all [eqRes]

/-- Where a slice's elements begin. -/
def dataOf (H : Heap) : DV → Option DV
  | .nils => some .nilp
  | .ref r off _ sz gg cl => if cl ≠ 0 ∧ (ptrAt H r off 0 sz gg).isSome then some (.ptr r off 0 sz gg) else none
  | _ => none

theorem dataOf_spec {H : Heap} {x d : DV} (h : dataOf H x = some d) : (x = .nils ∧ d = .nilp) ∨ ∃ r off len sz gg cl, x = .ref r off len sz gg cl ∧ cl ≠ 0 ∧ (ptrAt H r off 0 sz gg).isSome = true ∧ d = .ptr r off 0 sz gg := by
  unfold dataOf at h
  split at h
  · cases h; exact .inl ⟨rfl, rfl⟩
  · split at h
    · rename_i hc
      cases h
      exact .inr ⟨_, _, _, _, _, _, rfl, hc.1, hc.2, rfl⟩
    · cases h
  · cases h

def isBoolT (P : Program) (t : TypeId) : Bool := match P.underlying t with | some .bool => true | _ => false
def structF (P : Program) (t : TypeId) : Option (Array Field) := match P.underlying t with | some (.struct fs) => some fs | _ => none

theorem isIntT_of {P : Program} {t : TypeId} (h : isIntT P t = true) : ∃ k, P.underlying t = some (.int k) := by
  unfold isIntT at h
  split at h
  · rename_i k hu; exact ⟨k, hu⟩
  · cases h
theorem isStrT_of {P : Program} {t : TypeId} (h : isStrT P t = true) : P.underlying t = some .string := by
  unfold isStrT at h
  split at h
  · assumption
  · cases h
theorem isBoolT_of {P : Program} {t : TypeId} (h : isBoolT P t = true) : P.underlying t = some .bool := by
  unfold isBoolT at h
  split at h
  · assumption
  · cases h
theorem structF_of {P : Program} {t : TypeId} {fs : Array Field} (h : structF P t = some fs) : P.underlying t = some (.struct fs) := by
  unfold structF at h
  split at h
  · rename_i fs' hu; cases h; exact hu
  · cases h

/-- Are the fields alike? -/
def eqFs (P : Program) (f : TypeId → DV → DV → Option Bool) (xs ys : List DV) : List Field → Option Bool
  | [] => some true
  | fd :: l => if fd.name = "_" then eqFs P f xs ys l else (partOf P fd.type xs fd.offset).bind fun a => (partOf P fd.type ys fd.offset).bind fun b => (f fd.type a b).bind fun r => if r then eqFs P f xs ys l else some false

def arrOf (P : Program) (t : TypeId) : Option (Nat × TypeId × Nat) := match P.underlying t with
  | some (.array n e) => (size P e).map fun z => (n, e, z)
  | _ => none

theorem arrOf_spec {P : Program} {t e : TypeId} {n z : Nat} (h : arrOf P t = some (n, e, z)) : P.underlying t = some (.array n e) ∧ size P e = some z := by
  unfold arrOf at h
  split at h
  · rename_i n' e' hu
    simp only [Option.map_eq_some_iff] at h
    obtain ⟨z', hz, h⟩ := h
    cases h
    exact ⟨hu, hz⟩
  · cases h

/-- Are the elements alike? -/
def eqIs (P : Program) (f : TypeId → DV → DV → Option Bool) (e : TypeId) (z : Nat) (xs ys : List DV) : List Nat → Option Bool
  | [] => some true
  | i :: l => (partOf P e xs (i * z)).bind fun a => (partOf P e ys (i * z)).bind fun b => (f e a b).bind fun r => if r then eqIs P f e z xs ys l else some false

/-- Are two values alike? -/
def eqD (P : Program) : Nat → TypeId → DV → DV → Option Bool
  | 0, _, _, _ => none
  | n + 1, t, a, b => match a, b with
    | .int k x, .int l y => if k = l ∧ isIntT P t = true then some (x == y) else none
    | .str s, .str u => if isStrT P t = true then some (s.data.toList == u.data.toList) else none
    | .bool x, .bool y => if isBoolT P t = true then some (x == y) else none
    | .agg xs, .agg ys => match structF P t with
      | some fs => if P.stoodInHeld t = false then eqFs P (eqD P n) xs ys fs.toList else none
      | none => (arrOf P t).bind fun q => eqIs P (eqD P n) q.2.1 q.2.2 xs ys (List.range q.1)
    | _, _ => none

theorem eqD_spec {P : Program} {n : Nat} {t : TypeId} {a b : DV} {r : Bool} (h : eqD P (n + 1) t a b = some r) : (∃ k k' x y, a = .int k x ∧ b = .int k y ∧ P.underlying t = some (.int k') ∧ r = (x == y)) ∨
    (∃ s u, a = .str s ∧ b = .str u ∧ P.underlying t = some .string ∧ r = (s.data.toList == u.data.toList)) ∨ (∃ x y, a = .bool x ∧ b = .bool y ∧ P.underlying t = some .bool ∧ r = (x == y)) ∨
    (∃ xs ys fs, a = .agg xs ∧ b = .agg ys ∧ P.underlying t = some (.struct fs) ∧ P.stoodInHeld t = false ∧ eqFs P (eqD P n) xs ys fs.toList = some r) ∨
    ∃ xs ys m e z, a = .agg xs ∧ b = .agg ys ∧ P.underlying t = some (.array m e) ∧ size P e = some z ∧ eqIs P (eqD P n) e z xs ys (List.range m) = some r := by
  simp only [eqD] at h
  split at h
  · split at h
    · rename_i hc
      cases h
      obtain ⟨rfl, hc2⟩ := hc
      obtain ⟨k', hk⟩ := isIntT_of hc2
      exact .inl ⟨_, k', _, _, rfl, rfl, hk, rfl⟩
    · cases h
  · split at h
    · rename_i hc
      cases h
      exact .inr (.inl ⟨_, _, rfl, rfl, isStrT_of hc, rfl⟩)
    · cases h
  · split at h
    · rename_i hc
      cases h
      exact .inr (.inr (.inl ⟨_, _, rfl, rfl, isBoolT_of hc, rfl⟩))
    · cases h
  · split at h
    · rename_i fs hfs
      split at h
      · rename_i hc
        exact .inr (.inr (.inr (.inl ⟨_, _, fs, rfl, rfl, structF_of hfs, hc, h⟩)))
      · cases h
    · simp only [Option.bind_eq_some_iff] at h
      obtain ⟨⟨m, e, z⟩, hq, h⟩ := h
      obtain ⟨q1, q2⟩ := arrOf_spec hq
      exact .inr (.inr (.inr (.inr ⟨_, _, m, e, z, rfl, rfl, q1, q2, h⟩)))
  · cases h

def dvAgg : DV → Bool
  | .agg _ => true
  | _ => false

theorem dvAgg_spec {d : DV} (h : dvAgg d = true) : ∃ cs, d = .agg cs := by
  cases d <;> first | exact ⟨_, rfl⟩ | cases h

def eqResB : BinOp → Bool → Option DV
  | .eql, b => some (.bool b)
  | .neq, b => some (.bool !b)
  | _, _ => none

theorem eqResB_spec {op : BinOp} {b : Bool} {d : DV} (h : eqResB op b = some d) : (op = .eql ∧ d = .bool b) ∨ (op = .neq ∧ d = .bool !b) := by
  cases op <;> simp_all [eqResB]

/-- A comparison of structs. -/
def aggEq (P : Program) (op : BinOp) (t : TypeId) (a b : DV) : Option DV :=
  if dvAgg a = true ∧ dvAgg b = true ∧ P.eqGuardType P.depth t = false then (eqD P 20 t a b).bind fun r => eqResB op r else none

/-- Operations that only read. -/
def evN (P : Program) (H : Heap) (g : Operand → DV) (op : Op) : Option DV :=
  match op with
  | .move x | .assign x => some (g x)
  | .pick c a b => match g c with
    | .bool true => some (g a)
    | .bool false => some (g b)
    | _ => none
  | .binOp op t x y _ => match binV P op t x y (g x) (g y) with
    | some d => some d
    | none => if ptrEq P H t (g x) (g y) then eqRes op else aggEq P op t (g x) (g y)
  | .unOp op _ x => match op, g x with
    | .not, .bool b => some (.bool !b)
    | .neg, .int k n => some (.int k (k.wrap (0 - n)))
    | .xor, .int k n => some (.int k (k.wrap ((BitVec.ofInt k.bits (if k.signed then -1 else k.max) ^^^ BitVec.ofInt k.bits n).toNat)))
    | _, _ => none
  | .convert s d x => match P.underlying s, P.underlying d with
    | some (.slice e), some .string => (match P.underlying e with
      | some (.int .u8) => (match g x with
        | .nils => some (.str ⟨#[]⟩)
        | y => (match elemsOf H y with
          | some (1, l) => (allSome (l.map byteOf)).map fun bs => .str ⟨bs.toArray⟩
          | _ => none))
      | _ => none)
    | some _, some .string => (match g x with | .str s => some (.str s) | _ => none)
    | some _, some (.int k) => (match g x with | .int _ n => some (.int k (k.wrap n)) | _ => none)
    | some (.pointer t), some .unsafePointer => (match g x with
      | .nilp => some .nilp
      | .ptr r i o sz gg => if (size P t).getD 0 ≠ 0 ∧ (ptrAt H r i o sz gg).isSome then some (.ptr r i o sz gg) else none
      | _ => none)
    | some .unsafePointer, some (.pointer u) => (match g x with
      | .nilp => some .nilp
      | .ptr r i o sz gg => (match ptrAt H r i o sz gg with
        | some R => if o = 0 ∧ R.ty = some u ∧ size P u = some sz then some (.ptr r i o sz gg) else none
        | none => none)
      | _ => none)
    | _, _ => none
  | .nilCheck x => match g x with
    | .ptr r i o s gg => some (.ptr r i o s gg)
    | .ipt e o => some (.ipt e o)
    | _ => none
  | .fieldAddr t x f => match P.underlying t with
    | some (.struct fs) => match fs[f]? with
      | some fd => if (size P fd.type).getD 0 = 0 then none else match g x with
        | .ptr r i o s gg => some (.ptr r i (o + fd.offset) s gg)
        | .ipt e o => some (.ipt e (o + fd.offset))
        | _ => none
      | none => none
    | _ => none
  | .field t x f => match P.underlying t, g x with
    | some (.struct fs), .agg cs => match fs[f]? with
      | some fd => partOf P fd.type cs fd.offset
      | none => none
    | _, _ => none
  | .indexAddr t x ix => match P.underlying t, intOf (g ix) with
    | some (.array n e), some i => if 0 ≤ i ∧ i < n then (match g x, size P e with
        | .ptr r j o s gg, some z => some (.ptr r j (o + i.toNat * z) s gg)
        | .ipt d o, some z => some (.ipt d (o + i.toNat * z))
        | _, _ => none) else none
    | some (.slice e), some i => if 0 ≤ i then (match g x, size P e with
        | .imm sz l, some z => if z = sz then (l[i.toNat]?).map fun d => .ipt d 0 else none
        | .ref r off len sz gg _, some z => if z = sz ∧ i.toNat < len then some (.ptr r (off + i.toNat) 0 sz gg) else none
        | _, _ => none) else none
    | _, _ => none
  | .index t x ix => match P.underlying t, g x, intOf (g ix) with
    | some .string, .str s, some i => if 0 ≤ i then (s.data.toList[i.toNat]?).map byteDV else none
    | some (.array n e), .agg cs, some i => if 0 ≤ i ∧ i < n then (size P e).bind fun z => partOf P e cs (i.toNat * z) else none
    | _, _, _ => none
  | .slice t x lo hi mx => slices P t (g x) (lo.map g) (hi.map g) (mx.map g)
  | .load t a => match g a with
    | .ipt e o => partOf P t e.cells o
    | .ptr r i o sz gg => match H[r]? with
      | some (.row R) => if R.g = gg ∧ R.sz = sz then (R.elems[i]?).bind fun e => partOf P t e.cells o else none
      | _ => none
    | _ => none
  | .extract x i => match g x with
    | .tup cs => cs[i]?
    | _ => none
  | .makeInterface t x => match P.underlying t with
    | some (.interface _) | none => none
    | some _ => some (.iface t (g x))
  | .makeFunc (.func f) first captured => if first.size = 0 then some (.fn f (captured.toList.map g)) else if first.size = 1 ∧ captured.size = 0 then (first[0]?).map fun x => .bfn f (g x) else none
  | .build t parts => match P.underlying t, zeroT P t with
    | some (.struct fs), some z => if z.isUnd then none else (fillP (fun i => (fs[i]?).bind fun fd => (size P fd.type).map fun n => (fd.offset, n)) z.cells (parts.toList.map fun p => (p.1, g p.2))).bind fun cs =>
        if fs.all (fun fd => (P.info? fd.type).isSome) then some (.agg cs) else none
    | some (.array _ e), some z => if z.isUnd then none else (size P e).bind fun n => (fillP (fun i => some (i * n, n)) z.cells (parts.toList.map fun p => (p.1, g p.2))).map .agg
    | _, _ => none
  | .lookup t m ix ok => match P.underlying t with
    | some (.map kt et) => match zeroT P et with
      | none => none
      | some z => if plainKey P kt (g ix) then (match (match g m with
          | .nilm => some none
          | .mp r => (match H[r]? with | some (.map es) => findK (g ix) es | _ => none)
          | _ => none) with
        | some (some v) => some (if ok then .tup [v, .bool true] else v)
        | some none => some (if ok then .tup [z, .bool false] else z)
        | none => none) else none
    | _ => none
  | .call { callee := .builtin .len, args, argTypes } => match argTypes[0]?, args[0]? with
    | some t, some x => match P.underlying t, g x with
      | some .string, .str s => some (.int .i64 s.data.toList.length)
      | some (.array n _), _ => some (.int .i64 n)
      | some (.slice _), .nils => some (.int .i64 0)
      | some (.slice _), .imm _ l => some (.int .i64 l.length)
      | some (.slice _), .ref _ _ len _ _ _ => some (.int .i64 len)
      | some (.map _ _), .nilm => some (.int .i64 0)
      | some (.map _ _), .mp r => (match H[r]? with | some (.map es) => some (.int .i64 es.length) | _ => none)
      | _, _ => none
    | _, _ => none
  | .call { callee := .builtin .cap, args, argTypes } => match argTypes[0]?, args[0]? with
    | some t, some x => match P.underlying t, g x with
      | some (.slice _), .nils => some (.int .i64 0)
      | _, _ => none
    | _, _ => none
  | .call { callee := .builtin .unsafeSliceData, args, .. } => if args.size = 1 then (args[0]?).bind fun x => dataOf H (g x) else none
  | .call { callee := .builtin .min, args, .. } => match args.toList.map g with
    | [.int k a, .int _ b] => some (.int k (if b < a then b else a))
    | _ => none
  | .call { callee := .builtin .max, args, .. } => match args.toList.map g with
    | [.int k a, .int _ b] => some (.int k (if b > a then b else a))
    | _ => none
  | .call { callee := .value f, args, .. } => match g f with
    | .fn fid [] => match P.funcs[fid]? with
      | some fn => (match ekOf fn with
        | some k => extD H k (args.toList.map g)
        | none => none)
      | none => none
    | _ => none
  | _ => none

/-- What an operation does to the heap. -/
inductive Eff where
  | push (o : Ob)
  | set (r : Nat) (o : Ob)
  | none
  deriving Inhabited

def Eff.on (H : Heap) : Eff → Heap
  | .push o => H ++ [o]
  | .set r o => H.set r o
  | .none => H

def bigN : Nat := 1099511627776


/-- The elements that an append adds. -/
def addOf (P : Program) (H : Heap) (e : TypeId) (xt : TypeId) (x : DV) : Option (Nat × List DV) :=
  match x with
  | .nils => if isSliceT P xt then (match size P e with | some n => some (n, []) | none => none) else none
  | .str s => if isStrT P xt && isU8T P e then some (1, s.data.toList.map byteDV) else none
  | y => if isSliceT P xt then elemsOf H y else none

def fidOf : DV → Option FuncId
  | .fn f [] => some f
  | _ => none

theorem fidOf_spec {x : DV} {f : FuncId} (h : fidOf x = some f) : x = .fn f [] := by
  unfold fidOf at h
  split at h
  · cases h; rfl
  · cases h

def i64Of : DV → Option Int
  | .int .i64 n => some n
  | _ => none

theorem i64Of_spec {x : DV} {n : Int} (h : i64Of x = some n) : x = .int .i64 n := by
  unfold i64Of at h
  split at h
  · cases h; rfl
  · cases h

def elemP (P : Program) (t : TypeId) : Option TypeId := match P.underlying t with
  | some (.pointer e) => some e
  | _ => none

theorem elemP_spec {P : Program} {t e : TypeId} (h : elemP P t = some e) : P.underlying t = some (.pointer e) := by
  unfold elemP at h
  split at h
  · rename_i e' hu; cases h; exact hu
  · cases h

def elemS (P : Program) (t : TypeId) : Option TypeId := match P.underlying t with
  | some (.slice e) => some e
  | _ => none

theorem elemS_spec {P : Program} {t e : TypeId} (h : elemS P t = some e) : P.underlying t = some (.slice e) := by
  unfold elemS at h
  split at h
  · rename_i e' hu; cases h; exact hu
  · cases h

/-- internal/bytealg.MakeNoZero: what its row holds. -/
def noZeroT (P : Program) (f : FuncId) : Option TypeId := (P.funcs[f]?).bind fun fn =>
  if fn.body.isNone && fn.origin == "" && fn.name == "internal/bytealg.MakeNoZero" && fn.resultTypes.size == 1 then (fn.resultTypes[0]?).bind fun t => (elemS P t).bind fun e => if size P e = some 1 then some e else none else none

/-- A string of the bytes at a pointer. -/
def usStr (P : Program) (H : Heap) (e : TypeId) (n : Int) : DV → Option (DV × Eff)
  | .nilp => if n = 0 then some (.str ⟨#[]⟩, .none) else none
  | .ptr r i o sz gg => (ptrAt H r i o sz gg).bind fun R => if 0 < n ∧ n ≤ bigN ∧ size P e = some 1 ∧ R.ty = some e ∧ sz = 1 ∧ i + n.toNat ≤ R.elems.length then
      (allSome (((R.elems.drop i).take n.toNat).map byteOf)).map fun bs => (.str ⟨bs.toArray⟩, .set r .dead) else none
  | _ => none

theorem usStr_spec {P : Program} {H : Heap} {e : TypeId} {n : Int} {x d : DV} {eff : Eff} (h : usStr P H e n x = some (d, eff)) : (x = .nilp ∧ n = 0 ∧ d = .str ⟨#[]⟩ ∧ eff = .none) ∨
    ∃ r i o gg R bs, x = .ptr r i o 1 gg ∧ ptrAt H r i o 1 gg = some R ∧ 0 < n ∧ n ≤ bigN ∧ size P e = some 1 ∧ R.ty = some e ∧ i + n.toNat ≤ R.elems.length ∧ allSome (((R.elems.drop i).take n.toNat).map byteOf) = some bs ∧ d = .str ⟨bs.toArray⟩ ∧ eff = .set r .dead := by
  unfold usStr at h
  split at h
  · split at h
    · rename_i h0; cases h; exact .inl ⟨rfl, h0, rfl, rfl⟩
    · cases h
  · simp only [Option.bind_eq_some_iff] at h
    obtain ⟨R, hR, h⟩ := h
    split at h
    · rename_i hc
      obtain ⟨c1, c2, c3, c4, rfl, c5⟩ := hc
      simp only [Option.map_eq_some_iff] at h
      obtain ⟨bs, hb, h⟩ := h
      cases h
      exact .inr ⟨_, _, _, _, R, bs, rfl, hR, c1, c2, c3, c4, c5, hb, rfl, rfl⟩
    · cases h
  · cases h

/-- Operations that write to the heap, or make something there. -/
def evE (P : Program) (H : Heap) (g : Operand → DV) (op : Op) : Option (DV × Eff) :=
  match op with
  | .alloc t => match zeroT P t, size P t with
    | some z, some n => if z.cells.length = n ∧ n ≠ 0 ∧ z.cells.all DV.one then some (.ptr H.length 0 0 n 0, .push (.row ⟨[z], n, 0, false, some t⟩)) else none
    | _, _ => none
  | .box t x => match size P t with
    | some n => if (g x).cells.length = n ∧ n ≠ 0 ∧ (g x).cells.all DV.one then some (.ptr H.length 0 0 n 0, .push (.row ⟨[g x], n, 0, false, some t⟩)) else none
    | none => none
  | .store t a x => match g a, size P t with
    | .ptr r i o sz gg, some n => match H[r]? with
      | some (.row R) => if R.g = gg ∧ R.sz = sz ∧ R.fz = false ∧ (g x).cells.length = n ∧ (g x).cells.all DV.one ∧ n ≠ 0 then
          (R.elems[i]?).bind fun e => if o + n ≤ e.cells.length then
            some (.tup [], .set r (.row { R with elems := R.elems.set i (putCells e o (g x)) })) else none else none
      | _ => none
    | _, _ => none
  | .buildSlice t len parts => match P.underlying t with
    | some (.slice e) => match size P e, zeroT P e with
      | some n, some z => if len * n ≤ 16777216 ∧ n ≠ 0 ∧ z.cells.length = n ∧ (parts.toList.map (·.1)) = List.range len then
          let es := parts.toList.map fun p => g p.2
          if es.all (fun d => d.cells.length = n && d.cells.all DV.one) then some (.ref H.length 0 len n 0 len, .push (.row ⟨es, n, 0, false, some e⟩)) else none
        else none
      | _, _ => none
    | _ => none
  | .makeSlice t l c => match P.underlying t, intOf (g l), intOf (g c) with
    | some (.slice e), some l, some c => match P.info? e with
      | some i => match i.zero.map (cst 3) with
        | some z => if 0 ≤ l ∧ l ≤ c ∧ c ≤ bigN ∧ c * i.bytes ≤ bigN ∧ i.size ≠ 0 ∧ z.cells.length = i.size ∧ z.cells.all DV.one then
            some (.ref H.length 0 l.toNat i.size 0 c.toNat, .push (.row ⟨List.replicate l.toNat z, i.size, 0, false, some e⟩)) else none
        | none => none
      | none => none
    | _, _, _ => none
  | .makeMap t r => match P.underlying t with
    | some (.map _ _) => (match r with | none => some () | some x => (intOf (g x)).map fun _ => ()).map fun _ => (.mp H.length, .push (.map []))
    | _ => none
  | .mapUpdate t m k x => match P.underlying t, g m with
    | some (.map kt _), .mp r => match H[r]? with
      | some (.map es) => if plainKey P kt (g k) then (putK (g k) (g x) es).map fun es' => (.tup [], .set r (.map es')) else none
      | _ => none
    | _, _ => none
  | .convert s t x => match P.underlying s, P.underlying t, g x with
    | some .string, some (.slice e), .str b => if isU8T P e = true ∧ size P e = some 1 then
        some (.ref H.length 0 b.data.toList.length 1 0 b.data.toList.length, .push (.row ⟨b.data.toList.map byteDV, 1, 0, false, some e⟩)) else none
    | some (.slice _), some (.slice e), .ref r off len sz gg cl => if s = t ∧ isU8T P e = true ∧ cl ≠ 0 then (match H[r]? with
        | some (.row R) => if R.g = gg ∧ R.sz = sz ∧ off < R.elems.length then some (.ref r off len sz gg cl, .set r (.row R)) else none
        | _ => none) else none
    | _, _, _ => none
  | .call { callee := .builtin .append, args, argTypes } => if args.size = 2 ∧ argTypes.size = 2 then (match argTypes[0]?, args[0]?, argTypes[1]?, args[1]? with
    | some st, some s, some xt, some x => match P.underlying st with
      | some (.slice e) => if isIntT P xt then (match P.info? e, zeroT P e, g s, g x with
          | some i, some z, .nils, .int _ n => if 0 < n ∧ n ≤ bigN ∧ n * i.bytes ≤ bigN ∧ i.bytes ≠ 0 ∧ i.size ≠ 0 ∧ z.cells.length = i.size ∧ z.cells.all DV.one then
              some (.ref H.length 0 n.toNat i.size 0 n.toNat, .push (.row ⟨List.replicate n.toNat z, i.size, 0, false, some e⟩)) else none
          | _, _, _, _ => none)
        else match P.info? e, addOf P H e xt (g x) with
        | some i, some (n, new) => if n ≠ i.size ∨ n = 0 ∨ i.bytes = 0 ∨ i.zero.map (·.cells.size) ≠ some i.size ∨ !(new.all fun d => d.cells.length = n && d.cells.all DV.one) then none else
          (match g s with
          | .nils => if new.isEmpty then some (.nils, .none) else
              if new.length * i.bytes ≤ bigN then some (.ref H.length 0 new.length n 0 new.length, .push (.row ⟨new, n, 0, false, some e⟩)) else none
          | .imm sz l => if new.isEmpty then some (.imm sz l, .none) else none
          | .ref r off len sz gg cl => (match H[r]? with
            | some (.row R) => if R.g = gg ∧ R.sz = sz ∧ sz = n ∧ off + len ≤ R.elems.length ∧ (R.fz = false ∨ off + len = R.elems.length) ∧ (len + new.length) * i.bytes ≤ bigN then
                (if new.isEmpty then some (.ref r off len sz gg cl, .none) else
                 if len + new.length ≤ cl then some (.ref r off (len + new.length) sz gg cl, .set r (.row { R with elems := R.elems.take (off + len) ++ new ++ R.elems.drop (off + len + new.length) })) else
                 some (.ref r 0 (len + new.length) sz (gg + 1) (len + new.length), .set r (.row ⟨(R.elems.drop off).take len ++ new, sz, gg + 1, R.fz, if R.ty = some e then some e else none⟩))) else none
            | some (.slot g0 z0) => if g0 = gg ∧ z0 = sz ∧ sz = n ∧ len = 0 ∧ new.length * i.bytes ≤ bigN then
                (if new.isEmpty then some (.ref r off len sz gg cl, .none) else some (.ref r 0 new.length sz (gg + 1) new.length, .set r (.row ⟨new, sz, gg + 1, false, some e⟩))) else none
            | _ => none)
          | _ => none)
        | _, _ => none
      | _ => none
    | _, _, _, _ => none) else none
  | .call { callee := .value f, args, .. } => if args.size = 1 then (fidOf (g f)).bind fun fid => (noZeroT P fid).bind fun e => (args[0]?).bind fun x => (i64Of (g x)).bind fun n =>
      if 0 ≤ n ∧ n ≤ bigN then some (.ref H.length 0 n.toNat 1 0 n.toNat, .push (.row ⟨[], 1, 0, false, some e⟩)) else none
    else none
  | .call { callee := .builtin .unsafeString, args, argTypes } => if args.size = 2 ∧ argTypes.size = 2 then (argTypes[0]?).bind fun pt => (elemP P pt).bind fun e => (args[0]?).bind fun a => (args[1]?).bind fun b => (i64Of (g b)).bind fun n => usStr P H e n (g a)
    else none
  | .call { callee := .builtin .copy, args, argTypes } => if args.size = 2 ∧ argTypes.size = 2 then (match argTypes[0]?, args[0]?, argTypes[1]?, args[1]? with
    | some st, some s, some xt, some x => match P.underlying st with
      | some (.slice e) => match size P e, addOf P H e xt (g x), g s with
        | some n, some (n', new), .ref r off len sz gg _ => (match H[r]? with
          | some (.row R) => if R.g = gg ∧ R.sz = sz ∧ sz = n ∧ n' = n ∧ n ≠ 0 ∧ R.fz = false ∧ off ≤ R.elems.length ∧ new.all (fun d => d.cells.length = n && d.cells.all DV.one) ∧ len ≠ 0 then
              let k := min new.length len
              some (.int .i64 k, .set r (.row { R with elems := R.elems.take off ++ new.take k ++ R.elems.drop (off + k) })) else none
          | _ => none)
        | _, _, _ => none
      | _ => none
    | _, _, _, _ => none) else none
  | .call { callee := .builtin .clear, args, argTypes } => if args.size = 1 ∧ argTypes.size = 1 then (match argTypes[0]?, args[0]? with
    | some st, some s => match P.underlying st, g s with
      | some (.slice _), .nils => some (.tup [], .none)
      | some (.slice e), .ref r off len sz gg _ => (match P.info? e, zeroT P e, H[r]? with
        | some i, some z, some (.row R) => if len = 0 then some (.tup [], .none) else
            if R.g = gg ∧ R.sz = sz ∧ sz = i.size ∧ i.size ≠ 0 ∧ R.fz = false ∧ off + len ≤ R.elems.length ∧ z.cells.length = i.size ∧ z.cells.all DV.one then
              some (.tup [], .set r (.row { R with elems := R.elems.take off ++ List.replicate len z ++ R.elems.drop (off + len) })) else none
        | _, _, _ => none)
      | _, _ => none
    | _, _ => none) else none
  | _ => none
end Go.Dev

/- What it means that a value in memory is that data; what a heap of rows is in memory; what a step keeps. -/
namespace Go.Dev
/-- Where a row stands: its block, its first cell, its room (elements), its generation, the cells of an element. -/
structure Pl where
  B : Nat
  o : Nat
  C : Nat
  g : Nat
  sz : Nat

abbrev Mu := Nat → Option Pl

def cellAt (w : World) (B c : Nat) : Option Value :=
  match w.heap[B]? with
  | some (.cells cs _ _) => cs[c]?
  | _ => none

theorem cell_eq (w : World) (B c : Nat) : w.cell? ⟨B, c, none⟩ = cellAt w B c := by
  simp only [World.cell?, cellAt]
  cases w.heap[B]? with
  | none => rfl
  | some o => cases o <;> simp

/-- No rows. -/
def mu0 : Mu := fun _ => none

inductive V (S : Nat → Nat → Prop) : Mu → World → DV → Value → Prop
  | und {μ w} (v) : V S μ w .und v
  | bool {μ w} (b) : V S μ w (.bool b) (.bool b)
  | int {μ w} (k n) : V S μ w (.int k n) (.int k n)
  | str {μ w} (s) : V S μ w (.str s) (.string s)
  | nilp {μ w} : V S μ w .nilp (.pointer none)
  | opq {μ w} (a) : V S μ w .opq (.pointer (some a))
  | ptr {μ w} (r i off sz g a p) (h : μ r = some p) (hg : g ≤ p.g) (ha : g = p.g → sz = p.sz ∧ a = ⟨p.B, p.o + i * p.sz + off, none⟩) : V S μ w (.ptr r i off sz g) (.pointer (some a))
  | ipt {μ w} (e : DV) (off B o) (cv : Nat → Value) (h : ∀ (j : Nat) (c : DV), e.cells[j]? = some c → cellAt w B (o + j) = some (cv j) ∧ S B (o + j)) (hv : ∀ (j : Nat) (c : DV), e.cells[j]? = some c → V S mu0 w c (cv j)) : V S μ w (.ipt e off) (.pointer (some ⟨B, o + off, none⟩))
  | nils {μ w} : V S μ w .nils (.slice none 0 0)
  | imm0 {μ w} (sz a cap) : V S μ w (.imm sz []) (.slice a 0 cap)
  | imm {μ w} (sz) (l : List DV) (B o cap) (cv : Nat → Nat → Value) (hc : l.length ≤ cap) (hl : ∀ (i : Nat) (e : DV), l[i]? = some e → e.cells.length = sz)
      (h : ∀ (i : Nat) (e : DV) (j : Nat) (c : DV), l[i]? = some e → e.cells[j]? = some c → cellAt w B (o + i * sz + j) = some (cv i j) ∧ S B (o + i * sz + j))
      (hv : ∀ (i : Nat) (e : DV) (j : Nat) (c : DV), l[i]? = some e → e.cells[j]? = some c → V S mu0 w c (cv i j)) : V S μ w (.imm sz l) (.slice (some ⟨B, o, none⟩) l.length cap)
  | ref {μ w} (r off len sz g cl a cap p) (h : μ r = some p) (hg : g ≤ p.g) (hc : len ≤ cap) (hcl : cl ≤ cap) (ha : g = p.g → sz = p.sz ∧ off + cap ≤ p.C ∧ (cap = 0 ∨ a = some ⟨p.B, p.o + off * p.sz, none⟩)) (hn : a = none → cap = 0) : V S μ w (.ref r off len sz g cl) (.slice a len cap)
  | nilm {μ w} : V S μ w .nilm (.map none)
  | mp {μ w} (r b p) (h : μ r = some p) (hb : p.g = 0 → b = p.B) : V S μ w (.mp r) (.map (some b))
  | nilf {μ w} : V S μ w .nilf .nilFunc
  | fn {μ w} (f) (cs : List DV) (vs : Array Value) (hl : cs.length = vs.size) (hv : ∀ (i : Nat) (c : DV) (v : Value), cs[i]? = some c → vs[i]? = some v → V S μ w c v) : V S μ w (.fn f cs) (.func (.func f) #[] vs)
  | bfn {μ w} (f d v) (h : V S μ w d v) : V S μ w (.bfn f d) (.func (.func f) #[v] #[])
  | nili {μ w} : V S μ w .nili .nilIface
  | iface {μ w} (t d v) (h : V S μ w d v) : V S μ w (.iface t d) (.iface t v)
  | agg {μ w} (cs : List DV) (vs : Array Value) (hl : cs.length = vs.size) (hv : ∀ (i : Nat) (c : DV) (v : Value), cs[i]? = some c → vs[i]? = some v → V S μ w c v) : V S μ w (.agg cs) (.agg vs)
  | tup {μ w} (cs : List DV) (vs : Array Value) (hl : cs.length = vs.size) (hv : ∀ (i : Nat) (c : DV) (v : Value), cs[i]? = some c → vs[i]? = some v → V S μ w c v) : V S μ w (.tup cs) (.tuple vs)

/-- A slice that is not nil. -/
theorem V.refS {S : Nat → Nat → Prop} {μ : Mu} {w : World} (r off len sz g cl : Nat) (a : Addr) (cap : Nat) (p : Pl) (h : μ r = some p) (hg : g ≤ p.g) (hc : len ≤ cap) (hcl : cl ≤ cap) (ha : g = p.g → sz = p.sz ∧ off + cap ≤ p.C ∧ (cap = 0 ∨ a = ⟨p.B, p.o + off * p.sz, none⟩)) : V S μ w (.ref r off len sz g cl) (.slice (some a) len cap) :=
  .ref r off len sz g cl (some a) cap p h hg hc hcl (fun e => ⟨(ha e).1, (ha e).2.1, (ha e).2.2.imp id (fun h => by rw [h])⟩) (fun h => by cases h)
/-- Later placements: a row that is not of a new generation stands where it stood. -/
def MuLe (μ μ' : Mu) : Prop := ∀ r p, μ r = some p → ∃ p', μ' r = some p' ∧ p.g ≤ p'.g ∧ (p'.g = p.g → p' = p)

theorem MuLe.refl (μ : Mu) : MuLe μ μ := fun _ p h => ⟨p, h, Nat.le_refl _, fun _ => rfl⟩
theorem MuLe.trans {a b c : Mu} (h : MuLe a b) (h' : MuLe b c) : MuLe a c := by
  intro r p hp
  obtain ⟨p1, h1, g1, e1⟩ := h r p hp
  obtain ⟨p2, h2, g2, e2⟩ := h' r p1 h1
  refine ⟨p2, h2, Nat.le_trans g1 g2, fun he => ?_⟩
  have q1 := e1 (by omega)
  subst q1
  exact e2 he

theorem V.mono {S S' : Nat → Nat → Prop} {μ μ' : Mu} {w w' : World} (hS : ∀ B c, S B c → S' B c) (hμ : MuLe μ μ')
    (hw : ∀ B c, S B c → cellAt w' B c = cellAt w B c) {d : DV} {v : Value} (h : V S μ w d v) : V S' μ' w' d v := by
  induction h generalizing μ' with
  | und v => exact .und v
  | bool b => exact .bool b
  | int k n => exact .int k n
  | str s => exact .str s
  | nilp => exact .nilp
  | opq a => exact .opq a
  | ptr r i off sz g a p h hg ha =>
    obtain ⟨p', h', hg', he⟩ := hμ r p h
    refine .ptr r i off sz g a p' h' (by omega) fun e => ?_
    obtain rfl := he (by omega)
    exact ha e
  | ipt e off B o cv h hv ih => exact .ipt e off B o cv (fun j c hj => by obtain ⟨h1, h2⟩ := h j c hj; exact ⟨by rw [hw _ _ h2]; exact h1, hS _ _ h2⟩) (fun j c hj => ih j c hj (MuLe.refl _) hw)
  | nils => exact .nils
  | imm0 sz a cap => exact .imm0 sz a cap
  | imm sz l B o cap cv hc hl h hv ih => exact .imm sz l B o cap cv hc hl (fun i e j c hi hj => by obtain ⟨h1, h2⟩ := h i e j c hi hj; exact ⟨by rw [hw _ _ h2]; exact h1, hS _ _ h2⟩) (fun i e j c hi hj => ih i e j c hi hj (MuLe.refl _) hw)
  | ref r off len sz g cl a cap p h hg hc hcl ha hn =>
    obtain ⟨p', h', hg', he⟩ := hμ r p h
    refine .ref r off len sz g cl a cap p' h' (by omega) hc hcl (fun e => ?_) hn
    obtain rfl := he (by omega)
    exact ha e
  | nilm => exact .nilm
  | mp r b p h hb =>
    obtain ⟨p', h', hg', he⟩ := hμ r p h
    refine .mp r b p' h' fun e => ?_
    obtain rfl := he (by omega)
    exact hb e
  | nilf => exact .nilf
  | fn f cs vs hl hv ih => exact .fn f cs vs hl fun i c v hc hv => ih i c v hc hv hμ hw
  | nili => exact .nili
  | bfn f d v h ih => exact .bfn f d v (ih hμ hw)
  | iface t d v h ih => exact .iface t d v (ih hμ hw)
  | agg cs vs hl hv ih => exact .agg cs vs hl fun i c v hc hv => ih i c v hc hv hμ hw
  | tup cs vs hl hv ih => exact .tup cs vs hl fun i c v hc hv => ih i c v hc hv hμ hw

theorem V.lift {S : Nat → Nat → Prop} {μ : Mu} {w : World} {d : DV} {v : Value} (h : V S mu0 w d v) : V S μ w d v :=
  h.mono (fun _ _ h => h) (fun r p hp => by cases hp) (fun _ _ _ => rfl)

/-- Is an object there? -/
def live (H : Heap) (r : Nat) : Prop := (∃ R, H[r]? = some (.row R)) ∨ ∃ es, H[r]? = some (.map es)

theorem live_lt {H : Heap} {r : Nat} (h : live H r) : r < H.length := by
  rcases h with ⟨R, h⟩ | ⟨es, h⟩ <;> exact (List.getElem?_eq_some_iff.1 h).1

def RowOK (S : Nat → Nat → Prop) (μ : Mu) (w : World) (R : Row) (p : Pl) : Prop :=
  p.g = R.g ∧ p.sz = R.sz ∧ ∃ cs t fz, w.heap[p.B]? = some (.cells cs t fz) ∧ R.elems.length ≤ p.C ∧ p.o + p.C * p.sz ≤ cs.size ∧ ((fz.1 = fz.2 ∨ cs.size ≤ fz.1) ∧ ∀ u, R.ty = some u → t = u ∧ p.o % p.sz = 0) ∧
    (∀ (i : Nat) (e : DV), R.elems[i]? = some e → e.cells.length = R.sz ∧ ∀ (j : Nat) (c : DV), e.cells[j]? = some c → ∃ cv, cs[p.o + i * R.sz + j]? = some cv ∧ V S μ w c cv) ∧
    (∀ c, S p.B c → R.fz = true ∧ c < p.o + R.elems.length * R.sz)

theorem unfr {fz : Nat × Nat} {n : Nat} {A : Prop} (h : (fz.1 = fz.2 ∨ n ≤ fz.1) ∧ A) : ∀ c, c < n → ¬ (fz.1 ≤ c ∧ c < fz.2) := fun c hc => by have := h.1; omega

/-- The entries of a map, as data. -/
def MapOK (S : Nat → Nat → Prop) (μ : Mu) (w : World) (es : List (DV × DV)) (ents : Array MapEntry) : Prop :=
  es.length = ents.size ∧ ∀ (i : Nat) (e : DV × DV) (m : MapEntry), es[i]? = some e → ents[i]? = some m → V S μ w e.1 m.key ∧ V S μ w e.2 m.val ∧ (keyEq e.1 e.1).isSome = true

/-- What reading asks of a heap. -/
structure HRd (S : Nat → Nat → Prop) (μ : Mu) (H : Heap) (w : World) : Prop where
  row : ∀ r R, H[r]? = some (.row R) → ∃ p, μ r = some p ∧ RowOK S μ w R p
  map : ∀ r es, H[r]? = some (.map es) → ∃ p, μ r = some p ∧ p.g = 0 ∧ ∃ ents clock, w.heap[p.B]? = some (.map ents clock) ∧ MapOK S μ w es ents

structure HR (NG : Nat) (S : Nat → Nat → Prop) (μ : Mu) (H : Heap) (w : World) : Prop extends HRd S μ H w where
  no : ∀ r, H.length ≤ r → μ r = none
  dist : ∀ r r' p p', live H r → live H r' → μ r = some p → μ r' = some p' → p.B = p'.B → r = r'
  lo : ∀ r p, live H r → μ r = some p → NG ≤ p.B
  ng : NG ≤ w.heap.size
  st : ∀ B c, S B c → B < w.heap.size
  sl : ∀ r g sz, H[r]? = some (.slot g sz) → ∃ p, μ r = some p ∧ p.g = g ∧ p.C = 0 ∧ p.sz = sz

/-- Of the count of draws nothing is said. -/
def Mo (_ _ : World) : Prop := True
theorem Mo.of {w w' : World} (_ : w.drawn ≤ w'.drawn) : Mo w w' := trivial
theorem Mo.refl (w : World) : Mo w w := trivial
theorem Mo.trans {a b c : World} (_ : Mo a b) (_ : Mo b c) : Mo a c := trivial
theorem Mo.any (w w' : World) : Mo w w' := trivial
/-- The streams are as they were. -/
def Io (w w' : World) : Prop := w'.os = w.os ∧ w'.tape = w.tape ∧ w'.output = w.output ∧ Mo w w'
theorem Io.refl (w : World) : Io w w := ⟨rfl, rfl, rfl, .refl _⟩
theorem Io.trans {a b c : World} (h : Io a b) (k : Io b c) : Io a c := ⟨k.1.trans h.1, k.2.1.trans h.2.1, k.2.2.1.trans h.2.2.1, h.2.2.2.trans k.2.2.2⟩

/-- What a step keeps, as those see it who were there before. -/
structure Step (base : Nat) (S : Nat → Nat → Prop) (μ : Mu) (H : Heap) (w : World) (S' : Nat → Nat → Prop) (μ' : Mu) (H' : Heap) (w' : World) : Prop where
  sub : ∀ B c, S B c → S' B c
  agree : ∀ B c, S B c → cellAt w' B c = cellAt w B c
  mu : ∀ r, r < base → ∀ p, μ r = some p → ∃ p', μ' r = some p' ∧ p.g ≤ p'.g ∧ (p'.g = p.g → p' = p)
  len : base ≤ H.length → base ≤ H'.length
  size : w.heap.size ≤ w'.heap.size
  frame : ∀ b, b < w.heap.size → (∀ r p, live H r → μ r = some p → p.B ≠ b) → w'.heap[b]? = w.heap[b]?
  own : ∀ r' p', live H' r' → μ' r' = some p' → w.heap.size ≤ p'.B ∨ ∃ r p, live H r ∧ μ r = some p ∧ p.B = p'.B
  snew : ∀ B c, S' B c → S B c ∨ w.heap.size ≤ B ∨ ∃ r p, live H r ∧ μ r = some p ∧ p.B = B
  io : Io w w'

theorem Step.refl (base : Nat) (S : Nat → Nat → Prop) (μ : Mu) (H : Heap) (w : World) : Step base S μ H w S μ H w where
  sub := fun _ _ h => h
  agree := fun _ _ _ => rfl
  mu := fun r _ p h => ⟨p, h, Nat.le_refl _, fun _ => rfl⟩
  len := id
  size := Nat.le_refl _
  frame := fun _ _ _ => rfl
  own := fun r p h hp => .inr ⟨r, p, h, hp, rfl⟩
  snew := fun _ _ h => .inl h
  io := Io.refl _

theorem Step.trans {base : Nat} {S1 S2 S3 : Nat → Nat → Prop} {μ1 μ2 μ3 : Mu} {H1 H2 H3 : Heap} {w1 w2 w3 : World}
    (a : Step base S1 μ1 H1 w1 S2 μ2 H2 w2) (b : Step base S2 μ2 H2 w2 S3 μ3 H3 w3) : Step base S1 μ1 H1 w1 S3 μ3 H3 w3 where
  sub := fun B c h => b.sub _ _ (a.sub _ _ h)
  agree := fun B c h => (b.agree _ _ (a.sub _ _ h)).trans (a.agree _ _ h)
  mu := by
    intro r hr p hp
    obtain ⟨p1, h1, g1, e1⟩ := a.mu r hr p hp
    obtain ⟨p2, h2, g2, e2⟩ := b.mu r hr p1 h1
    refine ⟨p2, h2, Nat.le_trans g1 g2, fun he => ?_⟩
    obtain rfl := e1 (by omega)
    exact e2 he
  len := fun h => b.len (a.len h)
  size := Nat.le_trans a.size b.size
  frame := by
    intro x hx hn
    rw [b.frame x (Nat.lt_of_lt_of_le hx a.size), a.frame x hx hn]
    intro r p hl hp e
    rcases a.own r p hl hp with h | ⟨r0, p0, h0, q0, e0⟩
    · omega
    · exact hn r0 p0 h0 q0 (e0.trans e)
  own := by
    intro r p hl hp
    rcases b.own r p hl hp with h | ⟨r0, p0, h0, q0, e0⟩
    · exact .inl (Nat.le_trans a.size h)
    · rcases a.own r0 p0 h0 q0 with h | ⟨r1, p1, h1, q1, e1⟩
      · exact .inl (by omega)
      · exact .inr ⟨r1, p1, h1, q1, e1.trans e0⟩
  snew := by
    intro B c h
    rcases b.snew B c h with h | h | ⟨r0, p0, h0, q0, e0⟩
    · exact a.snew B c h
    · exact .inr (.inl (Nat.le_trans a.size h))
    · rcases a.own r0 p0 h0 q0 with h | ⟨r1, p1, h1, q1, e1⟩
      · exact .inr (.inl (by omega))
      · exact .inr (.inr ⟨r1, p1, h1, q1, e1.trans e0⟩)
  io := a.io.trans b.io

theorem Step.muLe {base : Nat} {S S' : Nat → Nat → Prop} {μ μ' : Mu} {H H' : Heap} {w w' : World} {NG : Nat} (h : HR NG S μ H w) (hb : H.length ≤ base) (s : Step base S μ H w S' μ' H' w') : MuLe μ μ' := by
  intro r p hp
  rcases Nat.lt_or_ge r H.length with hr | hr
  · exact s.mu r (by omega) p hp
  · rw [h.no r hr] at hp; cases hp

/-- Values told before a step that keeps all rows are told behind it. -/
theorem V.step {NG : Nat} {S S' : Nat → Nat → Prop} {μ μ' : Mu} {H H' : Heap} {w w' : World} (h : HR NG S μ H w) (s : Step H.length S μ H w S' μ' H' w') {d : DV} {v : Value} (hv : V S μ w d v) : V S' μ' w' d v :=
  hv.mono s.sub (s.muLe h (Nat.le_refl _)) s.agree

theorem Step.weaken {base base' : Nat} {S S' : Nat → Nat → Prop} {μ μ' : Mu} {H H' : Heap} {w w' : World} (hb : base' ≤ base) (hl : base ≤ H'.length) (s : Step base S μ H w S' μ' H' w') : Step base' S μ H w S' μ' H' w' :=
  { s with mu := fun r hr p hp => s.mu r (by omega) p hp, len := fun _ => by omega }

theorem cst_V (S : Nat → Nat → Prop) (μ : Mu) (w : World) : ∀ (n : Nat) (v : Value), V S μ w (cst n v) v
  | 0, v => .und v
  | n + 1, v => by
    unfold cst
    split
    · exact .bool _
    · exact .int _ _
    · exact .str _
    · exact .nilp
    · exact .nils
    · exact .nilm
    · exact .nilf
    · exact .nili
    · rename_i cs
      refine .agg _ _ (by simp) fun i c v hc hv => ?_
      simp only [List.getElem?_map, Option.map_eq_some_iff] at hc
      obtain ⟨u, hu, rfl⟩ := hc
      rw [Array.getElem?_toList, hv] at hu
      cases hu
      exact cst_V S μ w n v
    · rename_i cs
      refine .tup _ _ (by simp) fun i c v hc hv => ?_
      simp only [List.getElem?_map, Option.map_eq_some_iff] at hc
      obtain ⟨u, hu, rfl⟩ := hc
      rw [Array.getElem?_toList, hv] at hu
      cases hu
      exact cst_V S μ w n v
    · exact .und _

/-- The cells of a value, and of its data. -/
theorem V.cells {S : Nat → Nat → Prop} {μ : Mu} {w : World} {d : DV} {v : Value} (h : V S μ w d v) (hd : d ≠ .und) :
    d.cells.length = v.cells.size ∧ ∀ (i : Nat) (c : DV) (x : Value), d.cells[i]? = some c → v.cells[i]? = some x → V S μ w c x := by
  cases h with
  | und => exact absurd rfl hd
  | agg cs vs hl hv => exact ⟨hl, hv⟩
  | _ =>
    refine ⟨rfl, fun i c x hc hx => ?_⟩
    simp only [DV.cells, Value.cells] at hc hx
    cases i with
    | zero =>
      simp at hc hx
      subst hc hx
      constructor <;> assumption
    | succ i => simp at hc

theorem V.one {S : Nat → Nat → Prop} {μ : Mu} {w : World} {d : DV} {v : Value} (h : V S μ w d v) (hd : d.one = true) : v.oneCell' = true := by
  cases h <;> first | rfl | cases hd

theorem one_cells {d : DV} (h : d.one = true) : d.cells = [d] := by cases d <;> first | rfl | cases h

end Go.Dev

/- Each operation that only reads comes to what the data say. -/
namespace Go.Dev
variable {P : Program} {S : Nat → Nat → Prop} {μ : Mu} {w : World} {H : Heap}

theorem run_sz {t : TypeId} {n : Nat} (h : size P t = some n) (w : World) : (sizeOf t).run P w = .ok n w := by
  unfold size at h
  cases hi : P.info? t with
  | none => simp [hi] at h
  | some i => simp [hi] at h; simp [sizeOf, typeInfo, hi, h]

theorem run_aggT {t : TypeId} {b : Bool} (h : aggT P t = some b) (w : World) : (isAgg t).run P w = .ok b w := by
  unfold aggT at h
  cases hu : P.underlying t with
  | none => simp [hu] at h
  | some d =>
    simp only [hu] at h
    simp only [isAgg, Sem.run_bind, run_underlying hu, Result.andThen_ok]
    split at h <;> simp_all

theorem run_zeroT {t : TypeId} {z : DV} (h : zeroT P t = some z) (w : World) : ∃ v, (zeroValue t).run P w = .ok v w ∧ z = cst 3 v ∧ ∃ i, P.info? t = some i ∧ i.zero = some v := by
  unfold zeroT at h
  cases hi : P.info? t with
  | none => simp [hi] at h
  | some i =>
    simp only [hi, Option.bind_some] at h
    cases hz : i.zero with
    | none => simp [hz] at h
    | some v => simp [hz] at h; exact ⟨v, by simp [zeroValue, typeInfo, hi, hz], h.symm, i, rfl, hz⟩

theorem part_ok {t : TypeId} {cs : List DV} {off : Nat} {d : DV} (vs : Array Value) (h : partOf P t cs off = some d) (hl : cs.length = vs.size)
    (hv : ∀ (i : Nat) (c : DV) (v : Value), cs[i]? = some c → vs[i]? = some v → V S μ w c v) (w0 : World) :
    ∃ v, (part t vs off).run P w0 = .ok v w0 ∧ V S μ w d v := by
  unfold partOf at h
  split at h
  · rename_i n ha hs
    split at h
    · rename_i hle
      cases h
      refine ⟨.agg (vs.extract off (off + n)), by simp [part, run_aggT ha, run_sz hs], .agg _ _ (by simp; omega) fun i c v hc hx => ?_⟩
      rw [List.getElem?_take] at hc
      split at hc
      · rw [List.getElem?_drop] at hc
        rw [Array.getElem?_extract] at hx
        split at hx
        · exact hv _ _ _ hc hx
        · cases hx
      · cases hc
    · cases h
  · rename_i ha
    have hlt := (List.getElem?_eq_some_iff.1 h).1
    have hx : vs[off]? = some vs[off] := Array.getElem?_eq_getElem (by omega)
    exact ⟨vs[off], by simp [part, run_aggT ha, hx], hv _ _ _ h hx⟩
  · cases h

theorem load_at {t : TypeId} {cs : List DV} {off B o : Nat} {d : DV} (h : partOf P t cs off = some d)
    (hc : ∀ (j : Nat) (c : DV), cs[j]? = some c → ∃ cv, cellAt w B (o + j) = some cv ∧ V S μ w c cv) :
    ∃ v, (loadVar t ⟨B, o + off, none⟩).run P w = .ok v w ∧ V S μ w d v := by
  unfold partOf at h
  split at h
  · rename_i n ha hs
    split at h
    · rename_i hle
      cases h
      have hf : ∀ j, ∃ cv, j < n → cellAt w B (o + off + j) = some cv ∧ ∀ c, cs[off + j]? = some c → V S μ w c cv := by
        intro j
        by_cases hj : j < n
        · obtain ⟨cv, h1, h2⟩ := hc (off + j) (cs[off + j]'(by omega)) (List.getElem?_eq_getElem (by omega))
          refine ⟨cv, fun _ => ⟨by rw [Nat.add_assoc]; exact h1, fun c hcj => ?_⟩⟩
          rw [List.getElem?_eq_getElem (by omega)] at hcj
          cases hcj
          exact h2
        · exact ⟨undef, fun h => absurd h hj⟩
      obtain ⟨f, hf⟩ := Classical.axiomOfChoice hf
      refine ⟨.agg ((List.range n).map f).toArray, ?_, .agg _ _ (by simp; omega) fun i c v hci hx => ?_⟩
      · have := run_loadCells (P := P) w ⟨B, o + off, none⟩ n f (fun j hj => by
          rw [Addr.add_lit, cell_eq]; exact (hf j hj).1)
        simp [loadVar, run_aggT ha, run_sz hs, this]
      · rw [List.getElem?_take] at hci
        split at hci
        · rename_i hi
          rw [List.getElem?_drop] at hci
          simp [hi] at hx
          subst hx
          exact (hf i hi).2 c hci
        · cases hci
    · cases h
  · rename_i ha
    obtain ⟨cv, h1, h2⟩ := hc off d h
    refine ⟨cv, ?_, h2⟩
    simp [loadVar, run_aggT ha, cell_eq, h1]
  · cases h

/-- A row's cells, by their elements. -/
theorem HRd.at_ptr (hH : HRd S μ H w) {r i off sz g : Nat} {R : Row} {e : DV} {v : Value} (hr : H[r]? = some (.row R)) (hg : R.g = g) (hs : R.sz = sz) (he : R.elems[i]? = some e)
    (hv : V S μ w (.ptr r i off sz g) v) : ∃ p, μ r = some p ∧ RowOK S μ w R p ∧ v = .pointer (some ⟨p.B, p.o + i * sz + off, none⟩) ∧ e.cells.length = sz ∧
      ∀ (j : Nat) (c : DV), e.cells[j]? = some c → ∃ cv, cellAt w p.B (p.o + i * sz + j) = some cv ∧ V S μ w c cv := by
  obtain ⟨p, hp, hrow⟩ := hH.row r R hr
  have hrow' := hrow
  obtain ⟨h1, h2, cs, t, fz, h3, h4, h5, h6, h7, h8⟩ := hrow
  cases hv with
  | ptr _ _ _ _ _ a p' hp' hg' ha =>
    rw [hp] at hp'
    cases hp'
    obtain ⟨e1, e2⟩ := ha (by omega)
    refine ⟨p, hp, hrow', by rw [e2, ← e1], by rw [(h7 i e he).1, hs], fun j c hj => ?_⟩
    obtain ⟨cv, q1, q2⟩ := (h7 i e he).2 j c hj
    refine ⟨cv, ?_, q2⟩
    simp only [cellAt, h3]
    rw [← hs]
    exact q1

/-- The cells that a slice shows. -/
theorem HRd.elems (hH : HRd S μ H w) {x : DV} {v : Value} {sz : Nat} {l : List DV} (h : elemsOf H x = some (sz, l)) (hv : V S μ w x v) :
    ∃ a cap, v = .slice a l.length cap ∧ l.length ≤ cap ∧ (∀ e ∈ l, e.cells.length = sz) ∧ (l ≠ [] → ∃ B o, a = some ⟨B, o, none⟩ ∧ ∀ (i : Nat) (e : DV) (j : Nat) (c : DV), l[i]? = some e → e.cells[j]? = some c →
      ∃ cv, cellAt w B (o + i * sz + j) = some cv ∧ V S μ w c cv) := by
  unfold elemsOf at h
  split at h
  · cases h
    cases hv with
    | imm0 _ a cap => exact ⟨a, cap, rfl, Nat.zero_le _, fun e he => (by cases he), fun h => absurd rfl h⟩
    | imm _ _ B o cap cv hc hl h hv =>
      refine ⟨_, cap, rfl, hc, fun e he => ?_, fun _ => ⟨B, o, rfl, fun i e j c hi hj => ⟨cv i j, (h i e j c hi hj).1, (hv i e j c hi hj).lift⟩⟩⟩
      obtain ⟨i, hi⟩ := List.getElem?_of_mem he
      exact hl i e hi
  · rename_i r off len sz' g cl0
    split at h
    · rename_i R hr
      split at h
      · rename_i hc
        obtain ⟨c1, c2, c3⟩ := hc
        cases h
        have hlen : ((R.elems.drop off).take len).length = len := by simp; omega
        obtain ⟨p, hp, h1, h2, cs, t, fz, h3, h4, h5, h6, h7, h8⟩ := hH.row r R hr
        cases hv with
        | ref _ _ _ _ _ _ a cap p' hp' hg' hcap hcl ha hn =>
          rw [hp] at hp'
          cases hp'
          obtain ⟨e1, e2, e3⟩ := ha (by omega)
          refine ⟨a, cap, by rw [hlen], by omega, fun e he => ?_, fun hne => ?_⟩
          · obtain ⟨i, hi⟩ := List.getElem?_of_mem (List.mem_of_mem_drop (List.mem_of_mem_take he))
            rw [(h7 i e hi).1, c2]
          · have hlen0 : len ≠ 0 := fun h => hne (by simp [h])
            have ea : a = some ⟨p.B, p.o + off * p.sz, none⟩ := e3.resolve_left (by omega)
            refine ⟨p.B, p.o + off * p.sz, by rw [ea], fun i e j c hi hj => ?_⟩
            rw [List.getElem?_take] at hi
            split at hi
            · rw [List.getElem?_drop] at hi
              obtain ⟨cv, q1, q2⟩ := (h7 _ _ hi).2 j c hj
              refine ⟨cv, ?_, q2⟩
              simp only [cellAt, h3]
              rw [show p.o + off * p.sz + i * sz + j = p.o + (off + i) * R.sz + j by rw [Nat.add_mul, c2, ← e1]; omega]
              exact q1
            · cases hi
      · cases h
    · cases h
  · cases h

theorem bound_ok {d : Nat} {x : Option DV} {n : Nat} (h : bound d x = some n) : (x = none ∧ n = d) ∨ ∃ k i, x = some (.int k i) ∧ 0 ≤ i ∧ n = i.toNat := by
  unfold bound at h
  split at h
  · cases h; exact .inl ⟨rfl, rfl⟩
  · split at h
    · cases h; exact .inr ⟨_, _, rfl, by assumption, rfl⟩
    · cases h
  · cases h

end Go.Dev

/- Each operation that only reads comes to what the data say: one by one. -/
namespace Go.Dev
variable {P : Program} {S : Nat → Nat → Prop} {μ : Mu} {w : World} {H : Heap}

theorem intBin_ok {op : BinOp} {k : IntKind} {a b : Int} {d : DV} (t : TypeId) (h : intBin op k a b = some d) (w0 : World) :
    ∃ v, (binOp op t (.int k a) (.int k b)).run P w0 = .ok v w0 ∧ V S μ w d v := by
  cases op <;> simp only [intBin] at h
  case quo | rem =>
    split at h
    · cases h
    · rename_i hb
      cases h
      refine ⟨_, ?_, .int _ _⟩
      simp [binOp, Op.intDiv, hb]
  case shl | shr => cases h
  all_goals cases h
  all_goals first
    | (refine ⟨_, ?_, V.bool _⟩; simp [binOp, Op.intCmp]; done)
    | (refine ⟨_, ?_, V.int _ _⟩; simp [binOp, Op.intArith, Op.intBits]; done)

theorem strBin_ok {op : BinOp} {a b : ByteArray} {d : DV} (t : TypeId) (h : strBin op a b = some d) (w0 : World) :
    ∃ v, (binOp op t (.string a) (.string b)).run P w0 = .ok v w0 ∧ V S μ w d v := by
  cases op <;> simp only [strBin] at h
  case add =>
    split at h
    · rename_i hs
      cases h
      refine ⟨.string (a ++ b), ?_, ?_⟩
      · have : ¬ ((9223372036854775807 : Int) < ((a.size : Int) + (b.size : Int))) := by omega
        simp [binOp, Op.stringOp, this]
      · have : (⟨(a.data.toList ++ b.data.toList).toArray⟩ : ByteArray) = a ++ b := by
          apply ByteArray.ext
          simp
        rw [this]
        exact .str _
    · cases h
  all_goals first
    | (cases h; done)
    | (cases h; refine ⟨_, ?_, V.bool _⟩; simp only [binOp, Op.stringOp, ByteArray.toList_eq, Sem.run_pure]; done)
    | (cases h; refine ⟨_, ?_, V.bool _⟩; simp only [binOp, Op.stringOp, ByteArray.toList_eq, Sem.run_pure]; simp; done)

theorem eqGuard_some {op : BinOp} {t : TypeId} {x y : Operand} {u v : Value} (h : (isConst x || isConst y) = true ∨ (match u, v with | .nilIface, .nilIface => false | .agg _, .agg _ => false | _, _ => true) = true)
    (hagg : ∀ a, u ≠ .agg a) (w0 : World) : (eqGuard op t x y u v).run P w0 = .ok () w0 := by
  cases u <;> cases v <;> first
    | (exact absurd rfl (hagg _))
    | (cases op <;> rfl)
    | (cases op <;> cases x <;> cases y <;> first | rfl | (simp [isConst] at h))

theorem nil_P {a : DV} {u : Value} {p : Bool} (h : isP a = true) (hp : isNil a = some p) (ha : V S μ w a u) : ∃ A : Option Addr, u = .pointer A ∧ A.isNone = p := by
  cases ha <;> cases h <;> cases hp <;> exact ⟨_, rfl, rfl⟩
theorem nil_S {a : DV} {u : Value} {p : Bool} (h : isS a = true) (hp : isNil a = some p) (ha : V S μ w a u) : ∃ (A : Option Addr) (n c : Nat), u = .slice A n c ∧ A.isNone = p := by
  cases ha with
  | imm0 => cases h
  | imm sz l =>
    cases l with
    | nil => cases h
    | cons x l => cases hp; exact ⟨_, _, _, rfl, rfl⟩
  | nils => cases hp; exact ⟨_, _, _, rfl, rfl⟩
  | ref r off len sz g cl a cap p h hg hc hcl ha' hn =>
    cases len with
    | zero => cases hp
    | succ n =>
      cases hp
      cases a with
      | none => have := hn rfl; omega
      | some a => exact ⟨_, _, _, rfl, rfl⟩
  | _ => cases h
theorem nil_M {a : DV} {u : Value} {p : Bool} (h : isM a = true) (hp : isNil a = some p) (ha : V S μ w a u) : ∃ A : Option Nat, u = .map A ∧ A.isNone = p := by
  cases ha <;> cases h <;> cases hp <;> exact ⟨_, rfl, rfl⟩
theorem nil_F {a : DV} {u : Value} {p : Bool} (h : isF a = true) (hp : isNil a = some p) (ha : V S μ w a u) : (u = .nilFunc ∧ p = true) ∨ (∃ f x y, u = .func f x y) ∧ p = false := by
  cases ha <;> cases h <;> cases hp
  · exact .inl ⟨rfl, rfl⟩
  · exact .inr ⟨⟨_, _, _, rfl⟩, rfl⟩
  · exact .inr ⟨⟨_, _, _, rfl⟩, rfl⟩
theorem nil_I {a : DV} {u : Value} {p : Bool} (h : isI a = true) (hp : isNil a = some p) (ha : V S μ w a u) : (u = .nilIface ∧ p = true) ∨ (∃ t x, u = .iface t x) ∧ p = false := by
  cases ha <;> cases h <;> cases hp
  · exact .inl ⟨rfl, rfl⟩
  · exact .inr ⟨⟨_, _, rfl⟩, rfl⟩

/-- Two values of which one is nil. -/
theorem nil_equal {t : TypeId} {a b : DV} {u v : Value} {p q : Bool} (ha : V S μ w a u) (hb : V S μ w b v) (hty : nilTy P t a b = true) (hp : isNil a = some p) (hq : isNil b = some q) (hpq : (p || q) = true) (w0 : World) :
    (Op.equal t u v).run P w0 = .ok (p && q) w0 ∧ (binOp .eql t u v = do pure (.bool (← Op.equal t u v))) ∧ (binOp .neq t u v = do pure (.bool (!(← Op.equal t u v)))) ∧ (∀ a, u ≠ .agg a) := by
  have key : ∀ d, (Op.equalIn (d + 1) t u v).run P w0 = .ok (p && q) w0 ∧ (binOp .eql t u v = do pure (.bool (← Op.equal t u v))) ∧ (binOp .neq t u v = do pure (.bool (!(← Op.equal t u v)))) ∧ (∀ a, u ≠ .agg a) := by
    intro d
    unfold nilTy at hty
    split at hty
    · rename_i e hu
      simp only [Bool.and_eq_true] at hty
      obtain ⟨A, rfl, h1⟩ := nil_P hty.1 hp ha
      obtain ⟨B, rfl, h2⟩ := nil_P hty.2 hq hb
      subst h1 h2
      refine ⟨?_, rfl, rfl, fun _ h => by cases h⟩
      cases A <;> cases B <;> simp [Op.equalIn, run_underlying hu] at hpq ⊢
    · rename_i e hu
      simp only [Bool.and_eq_true] at hty
      obtain ⟨A, n, c, rfl, h1⟩ := nil_S hty.1 hp ha
      obtain ⟨B, n', c', rfl, h2⟩ := nil_S hty.2 hq hb
      subst h1 h2
      refine ⟨?_, rfl, rfl, fun _ h => by cases h⟩
      cases A <;> cases B <;> simp [Op.equalIn, run_underlying hu] at hpq ⊢
    · rename_i e hu
      simp only [Bool.and_eq_true] at hty
      obtain ⟨A, rfl, h1⟩ := nil_M hty.1 hp ha
      obtain ⟨B, rfl, h2⟩ := nil_M hty.2 hq hb
      subst h1 h2
      refine ⟨?_, rfl, rfl, fun _ h => by cases h⟩
      cases A <;> cases B <;> simp [Op.equalIn, run_underlying hu] at hpq ⊢
    · rename_i e hu
      simp only [Bool.and_eq_true] at hty
      rcases nil_F hty.1 hp ha with ⟨rfl, rfl⟩ | ⟨⟨_, _, _, rfl⟩, rfl⟩ <;> rcases nil_F hty.2 hq hb with ⟨rfl, rfl⟩ | ⟨⟨_, _, _, rfl⟩, rfl⟩ <;> first
        | (cases hpq; done)
        | (refine ⟨?_, rfl, rfl, fun _ h => by cases h⟩
           simp [Op.equalIn, run_underlying hu])
    · rename_i e hu
      simp only [Bool.and_eq_true] at hty
      rcases nil_I hty.1 hp ha with ⟨rfl, rfl⟩ | ⟨⟨_, _, rfl⟩, rfl⟩ <;> rcases nil_I hty.2 hq hb with ⟨rfl, rfl⟩ | ⟨⟨_, _, rfl⟩, rfl⟩ <;> first
        | (cases hpq; done)
        | (refine ⟨?_, rfl, rfl, fun _ h => by cases h⟩
           simp [Op.equalIn, run_underlying hu])
    · cases hty
  exact key 9999

theorem binV_ok {op : BinOp} {t : TypeId} {x y : Operand} {a b : DV} {u v : Value} {d : DV} (ha : V S μ w a u) (hb : V S μ w b v) (h : binV P op t x y a b = some d) :
    ∃ z, (do eqGuard op t x y u v; binOp op t u v : Sem Value).run P w = .ok z w ∧ V S μ w d z := by
  unfold binV at h
  split at h
  · -- shl
    cases ha; cases hb
    split at h
    · cases h
    · rename_i hn
      cases h
      exact ⟨_, by simp [eqGuard, binOp, Op.shift, hn], .int _ _⟩
  · cases ha; cases hb
    split at h
    · cases h
    · rename_i hn
      cases h
      exact ⟨_, by simp [eqGuard, binOp, Op.shift, hn], .int _ _⟩
  · rename_i k a k' b _ _
    cases ha; cases hb
    split at h
    · rename_i e
      subst e
      obtain ⟨z, h1, h2⟩ := intBin_ok (P := P) (S := S) (μ := μ) (w := w) t h w
      exact ⟨z, by simp [eqGuard_at_int, h1], h2⟩
    · cases h
  · cases ha; cases hb
    obtain ⟨z, h1, h2⟩ := strBin_ok (P := P) (S := S) (μ := μ) (w := w) t h w
    exact ⟨z, by simp [eqGuard_at_string, h1], h2⟩
  · cases ha; cases hb
    split at h
    · rename_i hu
      cases h
      have hu' : P.underlying t = some .bool := by
        revert hu; cases P.underlying t with
        | none => simp
        | some d => cases d <;> simp
      exact ⟨_, by simp only [eqGuard_at_bool, Sem.run_bind, Sem.run_pure, Result.andThen_ok]; exact run_eql_bool w t _ _ hu', .bool _⟩
    · cases h
  · rename_i x1 y1
    cases ha; cases hb
    split at h
    · rename_i hu
      cases h
      have hu' : P.underlying t = some .bool := by
        revert hu; cases P.underlying t with
        | none => simp
        | some d => cases d <;> simp
      refine ⟨.bool (!(x1 == y1)), ?_, .bool _⟩
      simp only [eqGuard_at_bool, Sem.run_bind, Sem.run_pure, Result.andThen_ok]
      simp [binOp, run_equal_bool w t _ _ hu']
    · cases h
  · split at h
    · rename_i hc
      simp only [Bool.and_eq_true] at hc
      split at h
      · rename_i p q hp hq
        split at h
        · rename_i hpq
          cases h
          obtain ⟨h1, h2, h3, h4⟩ := nil_equal (P := P) ha hb hc.1 hp hq hpq w
          refine ⟨_, ?_, .bool _⟩
          rw [Sem.run_bind, eqGuard_some (.inl hc.2) h4, h2]
          simp [h1]
        · cases h
      · cases h
    · cases h
  · split at h
    · rename_i hc
      simp only [Bool.and_eq_true] at hc
      split at h
      · rename_i p q hp hq
        split at h
        · rename_i hpq
          cases h
          obtain ⟨h1, h2, h3, h4⟩ := nil_equal (P := P) ha hb hc.1 hp hq hpq w
          refine ⟨_, ?_, .bool _⟩
          rw [Sem.run_bind, eqGuard_some (.inl hc.2) h4, h3]
          simp [h1]
        · cases h
      · cases h
    · cases h
  · cases h
end Go.Dev

/- Each operation that only reads comes to what the data say: conversions, slices, built values, maps. -/
namespace Go.Dev
variable {P : Program} {S : Nat → Nat → Prop} {μ : Mu} {w : World} {H : Heap}

theorem allSome_map {α β : Type} (f : α → Option β) : ∀ (l : List α) (bs : List β), allSome (l.map f) = some bs → l.length = bs.length ∧ ∀ (i : Nat) a, l[i]? = some a → ∃ b, f a = some b ∧ bs[i]? = some b
  | [], bs, h => by cases h; exact ⟨rfl, fun i a h => by simp at h⟩
  | x :: l, bs, h => by
    simp only [List.map_cons] at h
    cases hx : f x with
    | none => simp [hx, allSome] at h
    | some b =>
      simp only [hx, allSome, Option.map_eq_some_iff] at h
      obtain ⟨cs, hc, rfl⟩ := h
      obtain ⟨h1, h2⟩ := allSome_map f l cs hc
      refine ⟨by simp [h1], fun i a ha => ?_⟩
      cases i with
      | zero => simp at ha; subst ha; exact ⟨b, hx, rfl⟩
      | succ i => exact h2 i a (by simpa using ha)

theorem foldl_push : ∀ (ns : List Int) (s : ByteArray), ns.foldl (fun r n => r.push (UInt8.ofNat n.toNat)) s = ⟨(s.data.toList ++ ns.map (fun n => UInt8.ofNat n.toNat)).toArray⟩
  | [], s => by simp
  | n :: ns, s => by
    rw [List.foldl_cons, foldl_push ns]
    simp [ByteArray.push]

theorem bytes_ok (hH : HRd S μ H w) {x : DV} {v : Value} {l : List DV} {bs : List UInt8} (hx : elemsOf H x = some (1, l)) (hv : V S μ w x v) (hb : allSome (l.map byteOf) = some bs) :
    (Conv.bytesToString v).run P w = .ok (.string ⟨bs.toArray⟩) w := by
  obtain ⟨a, cap, rfl, hcap, hsz, hcells⟩ := hH.elems hx hv
  obtain ⟨hl, hby⟩ := allSome_map byteOf l bs hb
  by_cases hne : l = []
  · subst hne
    have : bs = [] := by cases bs with | nil => rfl | cons => simp at hl
    subst this
    cases a with
    | none => simp [Conv.bytesToString]; rfl
    | some a =>
      rw [show (⟨([] : List UInt8).toArray⟩ : ByteArray) = ByteArray.empty from rfl]
      exact run_bytesToString w a 0 cap [] (by simp [loadCells, loadCellsFrom])
  · obtain ⟨B, o, rfl, hc⟩ := hcells hne
    have hf : ∀ i, ∃ n : Int, i < l.length → cellAt w B (o + i) = some (.int .u8 n) ∧ bs[i]? = some (UInt8.ofNat n.toNat) := by
      intro i
      by_cases hi : i < l.length
      · obtain ⟨b, hb1, hb2⟩ := hby i l[i] (List.getElem?_eq_getElem hi)
        have hd : ∃ n, l[i] = .int .u8 n ∧ b = UInt8.ofNat n.toNat := by
          revert hb1
          cases l[i] <;> simp [byteOf]
          rename_i k n
          cases k <;> simp
          exact fun h => h.symm
        obtain ⟨n, hd, rfl⟩ := hd
        obtain ⟨cv, q1, q2⟩ := hc i l[i] 0 l[i] (List.getElem?_eq_getElem hi) (by rw [hd]; rfl)
        rw [hd] at q2
        cases q2
        exact ⟨n, fun _ => ⟨by simpa using q1, hb2⟩⟩
      · exact ⟨0, fun h => absurd h hi⟩
    obtain ⟨f, hf⟩ := Classical.axiomOfChoice hf
    have hload := run_loadCells (P := P) w ⟨B, o, none⟩ l.length (fun i => .int .u8 (f i)) (fun j hj => by rw [Addr.add_lit, cell_eq]; exact (hf j hj).1)
    have := run_bytesToString (P := P) w ⟨B, o, none⟩ l.length cap ((List.range l.length).map f) (by rw [hload]; simp)
    rw [this, foldl_push]
    congr 3
    congr 1
    simp only [List.map_map]
    apply List.ext_getElem?
    intro i
    by_cases hi : i < l.length
    · rw [(hf i hi).2]
      simp [hi]
    · simp [hi]
      omega

theorem bound_run {d : Nat} {x : Option DV} {n : Nat} {v : Option Value} (h : bound d x = some n) (hv : match x, v with | none, none => True | some x, some v => V S μ w x v | _, _ => False) :
    (x = none ∧ v = none ∧ n = d) ∨ ∃ k i, v = some (.int k i) ∧ x.isSome = true ∧ 0 ≤ i ∧ n = i.toNat := by
  rcases bound_ok h with ⟨rfl, rfl⟩ | ⟨k, i, rfl, h1, h2⟩
  · cases v with
    | none => exact .inl ⟨rfl, rfl, rfl⟩
    | some v => exact hv.elim
  · cases v with
    | none => exact hv.elim
    | some v => cases hv; exact .inr ⟨k, i, rfl, rfl, h1, h2⟩

def optV (S : Nat → Nat → Prop) (μ : Mu) (w : World) : Option DV → Option Value → Prop
  | none, none => True
  | some x, some v => V S μ w x v
  | _, _ => False

theorem bound_run' {d : Nat} {x : Option DV} {n : Nat} {v : Option Value} (h : bound d x = some n) (hv : optV S μ w x v) :
    (x = none ∧ v = none ∧ n = d) ∨ ∃ k i, v = some (.int k i) ∧ x.isSome = true ∧ 0 ≤ i ∧ n = i.toNat := by
  refine bound_run (S := S) (μ := μ) (w := w) h ?_
  cases x <;> cases v <;> exact hv

theorem run_sliceBound {k : IntKind} {i : Int} {y : Nat} {code : BoundsCode} (h0 : 0 ≤ i) (h : i.toNat ≤ y) (w : World) : (Instr.sliceBound (.int k i) y code).run P w = .ok i.toNat w := by
  have : i ≤ y := by omega
  simp [Instr.sliceBound, asIntOf, h0, this]

/-- The bounds of a slice expression. -/
theorem bounds_ok {isSlice : Bool} {len dm cap : Nat} {lo hi mx : Option DV} {vlo vhi vmx : Option Value} {l h m : Nat}
    (hm : bound dm mx = some m) (hh : bound len hi = some h) (hl : bound 0 lo = some l) (h1 : l ≤ h) (h2 : h ≤ m) (h3 : m ≤ cap) (hmx : mx.isNone ∨ hi.isSome)
    (vm : optV S μ w mx vmx) (vh : optV S μ w hi vhi) (vl : optV S μ w lo vlo) (w0 : World) :
    ∃ m', (Instr.sliceBounds isSlice len cap vlo vhi vmx).run P w0 = .ok (l, h, m') w0 ∧ m ≤ m' ∧ m' ≤ cap := by
  rcases bound_run' hm vm with ⟨rfl, rfl, rfl⟩ | ⟨km, im, rfl, hsm, hm0, rfl⟩ <;>
  rcases bound_run' hh vh with ⟨rfl, rfl, rfl⟩ | ⟨kh, ih, rfl, hsh, hh0, rfl⟩ <;>
  rcases bound_run' hl vl with ⟨rfl, rfl, rfl⟩ | ⟨kl, il, rfl, hsl, hl0, rfl⟩
  · exact ⟨cap, by simp [Instr.sliceBounds], by omega, by omega⟩
  · exact ⟨cap, by simp [Instr.sliceBounds, run_sliceBound hl0 h1], by omega, by omega⟩
  · exact ⟨cap, by simp [Instr.sliceBounds, run_sliceBound hh0 (show ih.toNat ≤ cap by omega)], by omega, by omega⟩
  · exact ⟨cap, by simp [Instr.sliceBounds, run_sliceBound hh0 (show ih.toNat ≤ cap by omega), run_sliceBound hl0 h1], by omega, by omega⟩
  · rcases hmx with h | h
    · simp at h; subst h; simp at hsm
    · cases h
  · rcases hmx with h | h
    · simp at h; subst h; simp at hsm
    · cases h
  · exact ⟨im.toNat, by simp [Instr.sliceBounds, run_sliceBound hm0 (show im.toNat ≤ cap by omega), run_sliceBound hh0 h2], by omega, by omega⟩
  · exact ⟨im.toNat, by simp [Instr.sliceBounds, run_sliceBound hm0 (show im.toNat ≤ cap by omega), run_sliceBound hh0 h2, run_sliceBound hl0 h1], by omega, by omega⟩

theorem slices_ok {t : TypeId} {x : DV} {lo hi mx : Option DV} {v : Value} {vlo vhi vmx : Option Value} {d : DV} (h : slices P t x lo hi mx = some d) (hv : V S μ w x v)
    (vl : optV S μ w lo vlo) (vh : optV S μ w hi vhi) (vm : optV S μ w mx vmx) : ∃ z, (Instr.sliceAt t v vlo vhi vmx).run P w = .ok z w ∧ V S μ w d z := by
  unfold slices at h
  split at h
  · rename_i s hu
    split at h
    · cases h
    · rename_i hmx
      rw [Bool.not_eq_true, Option.isSome_eq_false_iff, Option.isNone_iff_eq_none] at hmx
      obtain ⟨h', hh, h⟩ := Option.bind_eq_some_iff.1 h
      obtain ⟨l', hl, h⟩ := Option.bind_eq_some_iff.1 h
      split at h
      · rename_i hc
        cases h
        cases hv
        have hvm : vmx = none := by
          subst hmx
          cases vmx with
          | none => rfl
          | some _ => exact vm.elim
        subst hvm
        obtain ⟨m', hb, _⟩ := bounds_ok (P := P) (isSlice := false) (len := s.size) (cap := s.size) (mx := none) (m := s.size) rfl hh hl hc.1 hc.2 (Nat.le_refl _) (.inl rfl) (vmx := none) trivial vh vl w
        refine ⟨.string (s.extract l' h'), by simp [Instr.sliceAt, Instr.slice, run_underlying hu, hb], ?_⟩
        have : (⟨((s.data.toList.drop l').take (h' - l')).toArray⟩ : ByteArray) = s.extract l' h' := by
          apply ByteArray.ext
          apply Array.ext'
          simp [ByteArray.extract, ByteArray.copySlice, Array.toList_extract, List.extract]
        rw [this]
        exact .str _
      · cases h
  · rename_i e hu
    obtain ⟨m', hm, h⟩ := Option.bind_eq_some_iff.1 h
    obtain ⟨h', hh, h⟩ := Option.bind_eq_some_iff.1 h
    obtain ⟨l', hl, h⟩ := Option.bind_eq_some_iff.1 h
    split at h
    · rename_i hc
      obtain ⟨c1, c2, c3, c4, c5⟩ := hc
      cases h
      cases hv
      subst c1 c2 c3
      obtain ⟨m2, hb, hm2, hm3⟩ := bounds_ok (P := P) (isSlice := true) (len := 0) (cap := 0) hm hh hl (Nat.le_refl _) (Nat.le_refl _) (Nat.le_refl _) c4 vm vh vl w
      obtain rfl : m2 = 0 := by omega
      obtain ⟨n, hn⟩ := Option.isSome_iff_exists.1 c5
      exact ⟨.slice none 0 0, by simp [Instr.sliceAt, Instr.slice, run_underlying hu, hb, run_sz hn], .nils⟩
    · cases h
  · rename_i e sz xs hu
    split at h
    · rename_i hsz
      obtain ⟨m', hm, h⟩ := Option.bind_eq_some_iff.1 h
      obtain ⟨h', hh, h⟩ := Option.bind_eq_some_iff.1 h
      obtain ⟨l', hl, h⟩ := Option.bind_eq_some_iff.1 h
      split at h
      · rename_i hc
        cases h
        have hv0 := hv
        obtain ⟨a, cap, rfl, hcap, hel, hcells⟩ : ∃ a cap, v = .slice a xs.length cap ∧ xs.length ≤ cap ∧ (∀ e ∈ xs, e.cells.length = sz) ∧ (xs ≠ [] → ∃ B o, ∃ cv : Nat → Nat → Value, a = some ⟨B, o, none⟩ ∧
            (∀ (i : Nat) (e : DV) (j : Nat) (c : DV), xs[i]? = some e → e.cells[j]? = some c → cellAt w B (o + i * sz + j) = some (cv i j) ∧ S B (o + i * sz + j)) ∧ (∀ (i : Nat) (e : DV) (j : Nat) (c : DV), xs[i]? = some e → e.cells[j]? = some c → V S mu0 w c (cv i j))) := by
          cases hv with
          | imm0 _ a cap => exact ⟨a, cap, rfl, Nat.zero_le _, fun _ h => (by cases h), fun h => absurd rfl h⟩
          | imm _ _ B o cap cv hc hl h hv => exact ⟨_, cap, rfl, hc, fun e he => by obtain ⟨i, hi⟩ := List.getElem?_of_mem he; exact hl i e hi, fun _ => ⟨B, o, cv, rfl, h, hv⟩⟩
        obtain ⟨m2, hb, hm2, hm3⟩ := bounds_ok (P := P) (isSlice := true) (cap := cap) hm hh hl hc.1 hc.2.1 (Nat.le_trans hc.2.2.1 hcap) hc.2.2.2 vm vh vl w
        refine ⟨.slice (if m2 = l' then a else a.map (·.add (l' * sz))) (h' - l') (m2 - l'), by simp [Instr.sliceAt, Instr.slice, run_underlying hu, hb, run_sz hsz], ?_⟩
        have hlen : ((xs.drop l').take (h' - l')).length = h' - l' := by simp; omega
        by_cases hz : h' = l'
        · subst hz
          rw [Nat.sub_self, List.take_zero]
          exact .imm0 _ _ _
        · have hne : xs ≠ [] := by intro h0; subst h0; simp at hc; omega
          obtain ⟨B, o, cv, rfl, q1, q2⟩ := hcells hne
          rw [if_neg (by omega)]
          have hget : ∀ (i : Nat) (e : DV), ((xs.drop l').take (h' - l'))[i]? = some e → xs[l' + i]? = some e := by
            intro i e he
            rw [List.getElem?_take] at he
            split at he
            · rwa [List.getElem?_drop] at he
            · cases he
          have := V.imm (S := S) (μ := μ) (w := w) sz ((xs.drop l').take (h' - l')) B (o + l' * sz) (m2 - l') (fun i j => cv (l' + i) j) (by rw [hlen]; omega)
            (fun i e he => hel e (List.mem_of_getElem? (hget i e he)))
            (fun i e j c he hj => by
              have := q1 _ e j c (hget i e he) hj
              rw [show o + l' * sz + i * sz + j = o + (l' + i) * sz + j by rw [Nat.add_mul]; omega]
              exact this)
            (fun i e j c he hj => q2 _ e j c (hget i e he) hj)
          rw [hlen] at this
          simpa [Addr.add_lit] using this
      · cases h
    · cases h
  · rename_i e r off len sz g cl hu
    split at h
    · rename_i hsz
      obtain ⟨m', hm, h⟩ := Option.bind_eq_some_iff.1 h
      obtain ⟨h', hh, h⟩ := Option.bind_eq_some_iff.1 h
      obtain ⟨l', hl, h⟩ := Option.bind_eq_some_iff.1 h
      split at h
      · rename_i hc
        cases h
        cases hv with
        | ref _ _ _ _ _ _ a cap p hp hg hcap hcl ha hn =>
          obtain ⟨m2, hb, hm2, hm3⟩ := bounds_ok (P := P) (isSlice := true) (cap := cap) hm hh hl hc.1 hc.2.1 (Nat.le_trans hc.2.2.1 hcl) hc.2.2.2 vm vh vl w
          refine ⟨.slice (if m2 = l' then a else a.map (·.add (l' * sz))) (h' - l') (m2 - l'), by simp [Instr.sliceAt, Instr.slice, run_underlying hu, hb, run_sz hsz], ?_⟩
          by_cases hml : m2 = l'
          · rw [if_pos hml]
            exact .ref _ _ _ _ _ _ _ _ p hp hg (by omega) (by omega) (fun e => ⟨(ha e).1, by have := (ha e).2.1; omega, .inl (by omega)⟩) (fun _ => by omega)
          · rw [if_neg hml]
            cases a with
            | none => have := hn rfl; omega
            | some a =>
              refine .ref _ _ _ _ _ _ _ _ p hp hg (by omega) (by omega) (fun e => ⟨(ha e).1, by have := (ha e).2.1; omega, .inr ?_⟩) (fun h => by cases h)
              obtain ⟨e1, e2, e3⟩ := ha e
              have e4 := Option.some.inj (e3.resolve_left (by omega))
              show some (Addr.add a (l' * sz)) = _
              rw [e4, Addr.add_lit, e1, Nat.add_mul]
              congr 2
              omega
      · cases h
    · cases h
  · cases h

/-- Cells, as data. -/
def CR (S : Nat → Nat → Prop) (μ : Mu) (w : World) (cs : List DV) (vs : Array Value) : Prop :=
  cs.length = vs.size ∧ ∀ (i : Nat) (c : DV) (v : Value), cs[i]? = some c → vs[i]? = some v → V S μ w c v

theorem foldSet (off : Nat) (i : Nat) : ∀ (l : List Value) (k : Nat) (cells : Array Value),
    ((l.zipIdx k).foldl (fun cs p => cs.setIfInBounds (off + p.2) p.1) cells).size = cells.size ∧
    ((l.zipIdx k).foldl (fun cs p => cs.setIfInBounds (off + p.2) p.1) cells)[i]? = if off + k ≤ i ∧ i < off + k + l.length ∧ i < cells.size then l[i - off - k]? else cells[i]?
  | [], k, cells => by simp; omega
  | v :: l, k, cells => by
    obtain ⟨h1, h2⟩ := foldSet off i l (k + 1) (cells.setIfInBounds (off + k) v)
    rw [List.zipIdx_cons, List.foldl_cons]
    refine ⟨by rw [h1]; simp, ?_⟩
    rw [h2]
    simp only [Array.size_setIfInBounds, List.length_cons]
    by_cases hi : i = off + k
    · subst hi
      by_cases hs : off + k < cells.size
      · rw [if_neg (by omega), if_pos (by omega), Array.getElem?_setIfInBounds_self_of_lt hs]
        simp
      · rw [if_neg (by omega), if_neg (by omega)]
        simp [hs]
    · rw [Array.getElem?_setIfInBounds_ne (by omega)]
      by_cases hc : off + (k + 1) ≤ i ∧ i < off + (k + 1) + l.length ∧ i < cells.size
      · rw [if_pos hc, if_pos (by omega), show i - off - k = (i - off - (k + 1)) + 1 by omega]
        simp
      · rw [if_neg hc, if_neg (by omega)]

theorem CR.setCells {cs new : List DV} {vs : Array Value} {nv : Array Value} {off : Nat} (h : CR S μ w cs vs) (hn : CR S μ w new nv) (hle : off + new.length ≤ cs.length) :
    CR S μ w (setCells cs off new) (nv.zipIdx.foldl (fun cs (p : Value × Nat) => cs.setIfInBounds (off + p.2) p.1) vs) := by
  have he : nv.zipIdx.foldl (fun cs (p : Value × Nat) => cs.setIfInBounds (off + p.2) p.1) vs = (nv.toList.zipIdx 0).foldl (fun cs p => cs.setIfInBounds (off + p.2) p.1) vs := by
    rw [← Array.foldl_toList, Array.toList_zipIdx]
  rw [he]
  obtain ⟨h1, h2⟩ := h
  obtain ⟨h3, h4⟩ := hn
  refine ⟨by rw [(foldSet off 0 nv.toList 0 vs).1]; simp [Dev.setCells]; omega, fun i c v hc hv => ?_⟩
  rw [(foldSet off i nv.toList 0 vs).2] at hv
  have hlen : (cs.take off).length = off := by simp; omega
  by_cases hi : i < off
  · rw [if_neg (by omega)] at hv
    refine h2 i c v ?_ hv
    rw [← hc, Dev.setCells, List.append_assoc, List.getElem?_append_left (by omega), List.getElem?_take_of_lt hi]
  · by_cases hi2 : i < off + new.length
    · rw [if_pos (by simp; omega)] at hv
      refine h4 (i - off) c v ?_ (by rw [← hv]; simp)
      rw [← hc, Dev.setCells, List.append_assoc, List.getElem?_append_right (by omega), hlen, List.getElem?_append_left (by omega)]
    · rw [if_neg (by simp; omega)] at hv
      refine h2 i c v ?_ hv
      rw [← hc, Dev.setCells, List.append_assoc, List.getElem?_append_right (by omega), hlen, List.getElem?_append_right (by omega), List.getElem?_drop]
      congr 1
      omega

theorem fill_ok (place : Nat → Option (Nat × Nat)) : ∀ (parts : List (Nat × DV)) (vparts : List (Nat × Value)) (cs cs' : List DV) (vs : Array Value), CR S μ w cs vs →
    parts.length = vparts.length → (∀ (i : Nat) (p : Nat × DV) (q : Nat × Value), parts[i]? = some p → vparts[i]? = some q → p.1 = q.1 ∧ V S μ w p.2 q.2) → fillP place cs parts = some cs' →
    ∃ vs', Instr.fill place vs vparts = some vs' ∧ CR S μ w cs' vs'
  | [], [], cs, cs', vs, h, _, _, hf => by cases hf; exact ⟨vs, rfl, h⟩
  | [], _ :: _, _, _, _, _, hl, _, _ => by simp at hl
  | _ :: _, [], _, _, _, _, hl, _, _ => by simp at hl
  | (i, d) :: parts, (i', v) :: vparts, cs, cs', vs, h, hl, hp, hf => by
    obtain ⟨e1, hv⟩ := hp 0 (i, d) (i', v) rfl rfl
    replace hv : V S μ w d v := hv
    obtain rfl : i = i' := e1
    simp only [fillP] at hf
    simp only [Instr.fill]
    cases hpl : place i with
    | none => simp [hpl] at hf
    | some q =>
      obtain ⟨off, n⟩ := q
      simp only [hpl] at hf ⊢
      split at hf
      · cases hf
      · rename_i hc
        have hne : d ≠ .und := fun e => hc (.inr (.inr (by rw [e]; rfl)))
        obtain ⟨q1, q2⟩ := hv.cells hne
        have c1 : d.cells.length = n := Classical.byContradiction fun e => hc (.inl e)
        have c2 : ¬ off + n > cs.length := fun e => hc (.inr (.inl e))
        rw [if_neg (by simp [← q1, c1, ← h.1]; omega)]
        exact fill_ok place parts vparts _ cs' _ (h.setCells ⟨q1, q2⟩ (by omega)) (by simpa using hl) (fun j p q hj hq => hp (j + 1) p q (by simpa using hj) (by simpa using hq)) hf

theorem find_ok {kt : TypeDesc} {k : DV} {kv : Value} (hk : V S μ w k kv) : ∀ (es : List (DV × DV)) (ents : List MapEntry) (n : Nat) (r : Option DV), es.length = ents.length →
    (∀ (i : Nat) (e : DV × DV) (m : MapEntry), es[i]? = some e → ents[i]? = some m → V S μ w e.1 m.key ∧ V S μ w e.2 m.val) → findK k es = some r →
    (kt = .string ∧ (∃ s, k = .str s) ∨ (∃ i, kt = .int i) ∧ (∃ i n, k = .int i n) ∨ kt = .bool ∧ ∃ b, k = .bool b) →
    match r with
    | none => Instr.findNow kt kv ents n = some none
    | some v => ∃ i x m, Instr.findNow kt kv ents n = some (some (i + n, x)) ∧ V S μ w v x ∧ ents[i]? = some m
  | [], [], n, r, _, _, hf, _ => by cases hf; rfl
  | [], _ :: _, _, _, hl, _, _, _ => by simp at hl
  | _ :: _, [], _, _, hl, _, _, _ => by simp at hl
  | e :: es, m :: ents, n, r, hl, hv, hf, hkt => by
    obtain ⟨v1, v2⟩ := hv 0 e m rfl rfl
    simp only [findK] at hf
    have hs : ∀ b, keyEq k e.1 = some b → Instr.sameNow kt kv m.key = some b := by
      intro b hb
      generalize e.1 = z at v1 hb
      rcases hkt with ⟨rfl, s, rfl⟩ | ⟨⟨i, rfl⟩, j, x, rfl⟩ | ⟨rfl, b', rfl⟩
      · cases hk
        cases z <;> simp only [keyEq] at hb <;> first | (cases hb; done) | skip
        rename_i s'
        generalize m.key = mk at v1
        cases v1
        cases hb
        simp only [Instr.sameNow]
        congr 1
        rw [beq_toListBytes, ByteArray.toList_eq, ByteArray.toList_eq]
      · cases hk
        cases z <;> simp only [keyEq] at hb <;> first | (cases hb; done) | skip
        generalize m.key = mk at v1
        cases v1
        simp only [Instr.sameNow]
        exact hb
      · cases hk
        cases z <;> simp only [keyEq] at hb <;> first | (cases hb; done) | skip
        generalize m.key = mk at v1
        cases v1
        simp only [Instr.sameNow]
        exact hb
    split at hf
    · rename_i hq
      cases hf
      exact ⟨0, m.val, m, by simp [Instr.findNow, hs _ hq], v2, rfl⟩
    · rename_i hq
      have := find_ok (kt := kt) hk es ents (n + 1) r (by simpa using hl) (fun i e m he hm => hv (i + 1) e m (by simpa using he) (by simpa using hm)) hf hkt
      simp only [Instr.findNow, hs _ hq]
      cases r with
      | none => exact this
      | some v =>
        obtain ⟨i, x, m', h1, h2, h3⟩ := this
        exact ⟨i + 1, x, m', by rw [h1]; congr 3; omega, h2, by simpa using h3⟩
    · cases hf
end Go.Dev

/- Each operation that only reads comes to what the data say: all of them. -/
namespace Go.Dev
variable {P : Program} {S : Nat → Nat → Prop} {μ : Mu} {w : World} {H : Heap}

theorem toList_map_V {g : Operand → DV} {ρ : Operand → Value} (hg : ∀ x, V S μ w (g x) (ρ x)) (l : Array Operand) : CR S μ w (l.toList.map g) (l.map ρ) := by
  refine ⟨by simp, fun i c v hc hv => ?_⟩
  simp only [List.getElem?_map, Option.map_eq_some_iff] at hc
  obtain ⟨x, hx, rfl⟩ := hc
  rw [Array.getElem?_toList] at hx
  rw [Array.getElem?_map, hx] at hv
  cases hv
  exact hg x

theorem optV_map {g : Operand → DV} {ρ : Operand → Value} (hg : ∀ x, V S μ w (g x) (ρ x)) (x : Option Operand) : optV S μ w (x.map g) (x.map ρ) := by
  cases x with
  | none => trivial
  | some x => exact hg x

theorem intOf_V {d : DV} {v : Value} {n : Int} (h : intOf d = some n) (hv : V S μ w d v) : ∃ k, v = .int k n := by
  unfold intOf at h
  split at h
  · cases h; cases hv; exact ⟨_, rfl⟩
  · cases h

def okN (P : Program) (S : Nat → Nat → Prop) (μ : Mu) (w : World) (ρ : Operand → Value) (o : Oper) (d : DV) : Prop :=
  ∃ v, (execOp ρ o).run P w = .ok (.value v) w ∧ V S μ w d v

theorem okN_of {ρ : Operand → Value} {o : Oper} {d : DV} {s : Sem Value} (he : execOp ρ o = do pure (.value (← s))) (h : ∃ v, s.run P w = .ok v w ∧ V S μ w d v) : okN P S μ w ρ o d := by
  obtain ⟨v, h1, h2⟩ := h
  exact ⟨v, by rw [he]; simp [h1], h2⟩

variable {g : Operand → DV} {ρ : Operand → Value}

theorem ptrAt_spec {r i off sz gg : Nat} {R : Row} (h : ptrAt H r i off sz gg = some R) : H[r]? = some (.row R) ∧ R.g = gg ∧ R.sz = sz ∧ i < R.elems.length ∧ off < sz := by
  unfold ptrAt at h
  split at h
  · split at h
    · rename_i R' hr hc
      cases h
      exact ⟨hr, hc⟩
    · cases h
  · cases h

/-- A pointer into a row that is there. -/
theorem ptrAt_ok (hH : HRd S μ H w) {r i off sz gg : Nat} {R : Row} {v : Value} (h : ptrAt H r i off sz gg = some R) (hv : V S μ w (.ptr r i off sz gg) v) :
    ∃ (p : Pl) (t : TypeId) (fz : Nat × Nat) (cs : Array Value), v = .pointer (some ⟨p.B, p.o + i * sz + off, none⟩) ∧ w.heap[p.B]? = some (.cells cs t fz) ∧ p.o + R.elems.length * sz ≤ cs.size ∧ p.o + i * sz + off < cs.size ∧ (∀ u, R.ty = some u → t = u ∧ p.o % sz = 0) := by
  obtain ⟨hr, h1, h2, h3, h4⟩ := ptrAt_spec h
  obtain ⟨p, hp, hrow, e1, e2, e3⟩ := hH.at_ptr hr h1 h2 (List.getElem?_eq_getElem h3) hv
  obtain ⟨k1, k2, cs, t, fz, k3, k4, k5, k6, k7, k8⟩ := hrow
  have hm : (i + 1) * sz ≤ R.elems.length * sz := Nat.mul_le_mul_right _ h3
  have hm2 : R.elems.length * p.sz ≤ p.C * p.sz := Nat.mul_le_mul_right _ k4
  have e0 : p.sz = sz := by rw [k2, h2]
  rw [e0] at hm2 k5
  rw [Nat.add_mul, Nat.one_mul] at hm
  refine ⟨p, t, fz, cs, e1, k3, by omega, by omega, fun u hu => ?_⟩
  obtain ⟨q1, q2⟩ := k6.2 u hu
  rw [e0] at q2
  exact ⟨q1, q2⟩

theorem lies_at {u : TypeId} {sz cells off n : Nat} (hc : P.cellsOf u = sz) (hsz : 0 < sz) (hoff : off % sz = 0) (hn : off + n * sz ≤ cells) : liesAt P P.depth u (cells / P.cellsOf u) off u n = true := by
  have hd : P.depth = (2 * (P.types.size + Made.depth) + 1) + 1 := rfl
  have hq : off / sz + n ≤ cells / sz := by
    rw [Nat.le_div_iff_mul_le hsz, Nat.add_mul]
    have := Nat.div_add_mod off sz
    rw [Nat.mul_comm] at this
    omega
  rw [hd]
  simp only [liesAt, Bool.or_eq_true]
  left
  rw [hd]
  have h0 : sz ≠ 0 := by omega
  simp [rowAt, hc, h0, hoff, hq, sameLayout]

theorem size_cellsOf {t : TypeId} {n : Nat} (h : size P t = some n) : P.cellsOf t = n := by
  unfold size at h
  unfold Program.cellsOf
  rw [h]
  rfl

theorem run_sizeOf_getD {t : TypeId} (h : (size P t).getD 0 ≠ 0) (w : World) : ∃ n, (sizeOf t).run P w = .ok n w ∧ n ≠ 0 := by
  cases hs : size P t with
  | none => rw [hs] at h; exact absurd rfl h
  | some n => rw [hs] at h; exact ⟨n, run_sz hs w, h⟩

theorem evN_convert (hH : HRd S μ H w) (hg : ∀ x, V S μ w (g x) (ρ x)) {o : Oper} {s t : TypeId} {x : Operand} {d : DV} (ho : o.op = .convert s t x) (h : evN P H g o.op = some d) : okN P S μ w ρ o d := by
  rw [ho] at h
  refine okN_of (s := convert s t (ρ x)) (by simp [execOp, ho]) ?_
  simp only [evN] at h
  have hx := hg x
  generalize ρ x = v at hx
  generalize g x = y at hx h
  split at h
  · rename_i e hs hd
    split at h
    · rename_i he
      split at h
      · cases h; cases hx
        refine ⟨.string ByteArray.empty, by rw [run_convert_bytes_string w s t e none 0 0 hs he hd]; simp [Conv.bytesToString], ?_⟩
        exact .str _
      · split at h
        · rename_i l hel
          simp only [Option.map_eq_some_iff] at h
          obtain ⟨bs, hb, rfl⟩ := h
          obtain ⟨a, cap, rfl, _⟩ := hH.elems hel hx
          exact ⟨_, by rw [run_convert_bytes_string w s t e a _ cap hs he hd]; exact bytes_ok hH hel hx hb, .str _⟩
        · cases h
    · cases h
  · rename_i hs hd
    split at h
    · cases h; cases hx
      exact ⟨_, by simp [convert, run_underlying hs, run_underlying hd], .str _⟩
    · cases h
  · rename_i hs hd
    split at h
    · cases h; cases hx
      exact ⟨_, by simp [convert, run_underlying hs, run_underlying hd, Conv.intToInt], .int _ _⟩
    · cases h
  · rename_i t' hs hd
    split at h
    · cases h; cases hx
      exact ⟨_, by simp [convert, run_underlying hs, run_underlying hd, Conv.unsafePointer], .nilp⟩
    · split at h
      · rename_i r i o' sz gg hc
        cases h
        obtain ⟨hc1, hc2⟩ := hc
        obtain ⟨R, hR⟩ := Option.isSome_iff_exists.1 hc2
        obtain ⟨p, ty, fz, cs, rfl, k3, k4, k5, k6⟩ := ptrAt_ok hH hR hx
        obtain ⟨n, hn, hn0⟩ := run_sizeOf_getD (P := P) hc1 w
        have hsh : w.shape? p.B = some (ty, cs.size) := by simp [World.shape?, k3]
        have hlt : ¬ (cs.size ≤ p.o + i * sz + o') := by omega
        refine ⟨_, ?_, hx⟩
        simp [convert, run_underlying hs, run_underlying hd, Conv.unsafePointer, Conv.seenAt, viewAt, cellsIn, hsh, hn, hn0, hlt]
      · cases h
    · cases h
  · rename_i u hs hd
    split at h
    · cases h; cases hx
      exact ⟨_, by simp [convert, run_underlying hs, run_underlying hd, Conv.unsafePointer], .nilp⟩
    · split at h
      · rename_i r i o' sz gg _ R hR
        split at h
        · rename_i hc
          obtain ⟨hc1, hc2, hc3⟩ := hc
          cases h
          subst hc1
          obtain ⟨p, ty, fz, cs, rfl, k3, k4, k5, k6⟩ := ptrAt_ok hH hR hx
          obtain ⟨rfl, q2⟩ := k6 u hc2
          obtain ⟨_, _, _, s3, s4⟩ := ptrAt_spec hR
          have hsh : w.shape? p.B = some (ty, cs.size) := by simp [World.shape?, k3]
          have hm : (i + 1) * sz ≤ R.elems.length * sz := Nat.mul_le_mul_right _ s3
          rw [Nat.add_mul, Nat.one_mul] at hm
          have hl := lies_at (P := P) (n := 1) (size_cellsOf hc3) s4 (off := p.o + i * sz) (cells := cs.size) (by rw [Nat.add_mul_mod_self_right]; exact q2) (by omega)
          refine ⟨_, ?_, hx⟩
          simp [convert, run_underlying hs, run_underlying hd, Conv.unsafePointer, Conv.seenAt, viewAt, variablesAt, hsh, run_sz hc3, hl]
        · cases h
      · cases h
    · cases h
  · cases h

theorem evN_index (hg : ∀ x, V S μ w (g x) (ρ x)) {o : Oper} {t : TypeId} {x ix : Operand} {d : DV} (ho : o.op = .index t x ix) (h : evN P H g o.op = some d) : okN P S μ w ρ o d := by
  rw [ho] at h
  refine okN_of (s := Instr.index t (ρ x) (ρ ix)) (by simp [execOp, ho]) ?_
  simp only [evN] at h
  have hx := hg x
  have hi := hg ix
  generalize ρ x = v at hx
  generalize g x = y at hx h
  split at h
  · rename_i s i hu hint
    obtain ⟨k, hk⟩ := intOf_V hint hi
    cases hx
    split at h
    · rename_i h0
      simp only [Option.map_eq_some_iff] at h
      obtain ⟨b, hb, rfl⟩ := h
      have hb' : s[i.toNat]? = some b := by
        have hlt := (List.getElem?_eq_some_iff.1 hb).1
        have hlt' : i.toNat < s.size := by simpa using hlt
        rw [ByteArray.getElem?_lt' s _ hlt']
        congr 1
        rw [List.getElem?_eq_getElem hlt] at hb
        have := Option.some.inj hb
        rw [← this]
        rfl
      exact ⟨.int .u8 b.toNat, by simp [Instr.index, hk, asIntOf, run_underlying hu, h0, hb'], .int _ _⟩
    · cases h
  · rename_i n e cs i hu hint
    obtain ⟨k, hk⟩ := intOf_V hint hi
    cases hx with
    | agg _ vs hl hv =>
      split at h
      · rename_i hc
        obtain ⟨z, hz, hp⟩ := Option.bind_eq_some_iff.1 h
        obtain ⟨v, h1, h2⟩ := part_ok (P := P) vs hp hl hv w
        exact ⟨v, by simp [Instr.index, hk, asIntOf, run_underlying hu, hc, run_sz hz, h1], h2⟩
      · cases h
  · cases h

theorem evN_indexAddr (hH : HRd S μ H w) (hg : ∀ x, V S μ w (g x) (ρ x)) {o : Oper} {t : TypeId} {x ix : Operand} {d : DV} (ho : o.op = .indexAddr t x ix) (h : evN P H g o.op = some d) : okN P S μ w ρ o d := by
  rw [ho] at h
  refine okN_of (s := Instr.indexAt t (ρ x) (ρ ix)) (by simp [execOp, ho]) ?_
  simp only [evN] at h
  have hx := hg x
  have hi := hg ix
  generalize ρ x = v at hx
  generalize g x = y at hx h
  split at h
  · rename_i n e i hu hint
    obtain ⟨k, hk⟩ := intOf_V hint hi
    split at h
    · rename_i hc
      split at h
      · rename_i z hz
        cases h
        cases hx with
        | ptr _ _ _ _ _ a p hp hgg ha =>
          exact ⟨.pointer (some (a.add (i.toNat * z))), by simp [Instr.indexAt, Instr.sureAddr, hk, asIntOf, run_underlying hu, hc, run_sz hz], .ptr _ _ _ _ _ _ p hp hgg fun e => by
            obtain ⟨e1, e2⟩ := ha e
            refine ⟨e1, ?_⟩
            rw [e2, Addr.add_lit]
            congr 1
            omega⟩
      · rename_i d0 o0 z hz
        cases h
        cases hx with
        | ipt _ _ B o cv hh hv =>
          refine ⟨.pointer (some ((⟨B, o + o0, none⟩ : Addr).add (i.toNat * z))), by simp [Instr.indexAt, Instr.sureAddr, hk, asIntOf, run_underlying hu, hc, run_sz hz], ?_⟩
          rw [Addr.add_lit, Nat.add_assoc]
          exact .ipt _ _ B o cv hh hv
      · cases h
    · cases h
  · rename_i e i hu hint
    obtain ⟨k, hk⟩ := intOf_V hint hi
    split at h
    · rename_i hc
      split at h
      · rename_i sz l z hz
        split at h
        · rename_i e1
          subst e1
          simp only [Option.map_eq_some_iff] at h
          obtain ⟨d', hd, rfl⟩ := h
          have hlt := (List.getElem?_eq_some_iff.1 hd).1
          cases hx with
          | imm0 => simp at hlt
          | imm _ _ B o cap cv hcap hl hh hv =>
            have hlt' : i < l.length := by omega
            refine ⟨.pointer (some ((⟨B, o, none⟩ : Addr).add (i.toNat * z))), by simp [Instr.indexAt, hk, asIntOf, run_underlying hu, hc, hlt', run_sz hz], ?_⟩
            rw [Addr.add_lit]
            exact .ipt d' 0 B (o + i.toNat * z) (cv i.toNat) (fun j c hj => hh _ _ j c hd hj) (fun j c hj => hv _ _ j c hd hj)
        · cases h
      · rename_i r off len sz gg cl z hz
        split at h
        · rename_i hcc
          obtain ⟨e1, hlt⟩ := hcc
          subst e1
          cases h
          cases hx with
          | ref _ _ _ _ _ _ a cap p hp hgg hcap hcl ha hn =>
            obtain ⟨a, rfl⟩ : ∃ a', a = some a' := by
              cases a with
              | none => have := hn rfl; omega
              | some a => exact ⟨a, rfl⟩
            have hlt' : i < len := by omega
            refine ⟨.pointer (some (a.add (i.toNat * z))), by simp [Instr.indexAt, hk, asIntOf, run_underlying hu, hc, hlt', run_sz hz], ?_⟩
            refine .ptr _ _ _ _ _ _ p hp hgg fun e => ?_
            obtain ⟨e1, e2, e3⟩ := ha e
            refine ⟨e1, ?_⟩
            rw [Option.some.inj (e3.resolve_left (by omega)), Addr.add_lit, e1, Nat.add_mul]
            congr 1
            omega
        · cases h
      · cases h
    · cases h
  · cases h

theorem evN_load (hH : HRd S μ H w) (hg : ∀ x, V S μ w (g x) (ρ x)) {o : Oper} {t : TypeId} {a : Operand} {d : DV} (ho : o.op = .load t a) (h : evN P H g o.op = some d) : okN P S μ w ρ o d := by
  rw [ho] at h
  refine okN_of (s := Instr.loadAt t (ρ a)) (by simp [execOp, ho]) ?_
  simp only [evN] at h
  have hx := hg a
  generalize ρ a = v at hx
  generalize g a = y at hx h
  split at h
  · cases hx with
    | ipt e off B o cv hh hv =>
      obtain ⟨v, h1, h2⟩ := load_at (w := w) (S := S) (μ := μ) (B := B) (o := o) h (fun j c hj => ⟨cv j, (hh j c hj).1, (hv j c hj).lift⟩)
      exact ⟨v, by simp [Instr.loadAt, Instr.sureAddr, h1], h2⟩
  · split at h
    · rename_i R hr
      split at h
      · rename_i hc
        obtain ⟨e, he, hp⟩ := Option.bind_eq_some_iff.1 h
        obtain ⟨p, hp', hrow, rfl, hsz, hcells⟩ := hH.at_ptr hr hc.1 hc.2 he hx
        obtain ⟨v, h1, h2⟩ := load_at (w := w) (S := S) (μ := μ) hp hcells
        exact ⟨v, by simp [Instr.loadAt, Instr.sureAddr, h1], h2⟩
      · cases h
    · cases h
  · cases h

theorem evN_field (hg : ∀ x, V S μ w (g x) (ρ x)) {o : Oper} {t : TypeId} {x : Operand} {f : Nat} {d : DV} (ho : o.op = .field t x f) (h : evN P H g o.op = some d) : okN P S μ w ρ o d := by
  rw [ho] at h
  refine okN_of (s := Instr.field t (ρ x) f) (by simp [execOp, ho]) ?_
  simp only [evN] at h
  have hx := hg x
  generalize ρ x = v at hx
  generalize g x = y at hx h
  split at h
  · rename_i fs cs hu
    split at h
    · rename_i fd hf
      cases hx with
      | agg _ vs hl hv =>
        obtain ⟨v, h1, h2⟩ := part_ok (P := P) vs h hl hv w
        exact ⟨v, by simp [Instr.field, asAgg, run_underlying hu, hf, h1], h2⟩
    · cases h
  · cases h

theorem evN_fieldAddr (hg : ∀ x, V S μ w (g x) (ρ x)) {o : Oper} {t : TypeId} {x : Operand} {f : Nat} {d : DV} (ho : o.op = .fieldAddr t x f) (h : evN P H g o.op = some d) : okN P S μ w ρ o d := by
  rw [ho] at h
  refine okN_of (s := Instr.fieldAt t (ρ x) f) (by simp [execOp, ho]) ?_
  simp only [evN] at h
  have hx := hg x
  generalize ρ x = v at hx
  generalize g x = y at hx h
  split at h
  · rename_i fs hu
    split at h
    · rename_i fd hf
      split at h
      · cases h
      · rename_i hz
        have hsz : ∃ n, size P fd.type = some n ∧ n ≠ 0 := by
          cases hs : size P fd.type with
          | none => simp [hs] at hz
          | some n => simp [hs] at hz; exact ⟨n, rfl, hz⟩
        obtain ⟨n, hn, hn0⟩ := hsz
        split at h
        · cases h
          cases hx with
          | ptr _ _ _ _ _ a p hp hgg ha =>
            exact ⟨.pointer (some (a.add fd.offset)), by simp [Instr.fieldAt, Instr.sureAddr, fieldPlace, run_underlying hu, hf, run_sz hn, hn0], .ptr _ _ _ _ _ _ p hp hgg fun e => by
              obtain ⟨e1, e2⟩ := ha e
              refine ⟨e1, ?_⟩
              rw [e2, Addr.add_lit]
              congr 1
              omega⟩
        · rename_i d0 o0
          cases h
          cases hx with
          | ipt _ _ B o cv hh hv =>
            refine ⟨.pointer (some ((⟨B, o + o0, none⟩ : Addr).add fd.offset)), by simp [Instr.fieldAt, Instr.sureAddr, fieldPlace, run_underlying hu, hf, run_sz hn, hn0], ?_⟩
            rw [Addr.add_lit, Nat.add_assoc]
            exact .ipt _ _ B o cv hh hv
        · cases h
    · cases h
  · cases h

theorem run_listMapM {α β : Type} {f : α → Sem β} {g : α → β} (w : World) : ∀ (l : List α), (∀ a ∈ l, (f a).run P w = .ok (g a) w) → (l.mapM f).run P w = .ok (l.map g) w
  | [], _ => by simp
  | a :: l, h => by
    simp [List.mapM_cons, h a (by simp), run_listMapM w l (fun b hb => h b (by simp [hb]))]

theorem run_arrMapM {α β : Type} {f : α → Sem β} {g : α → β} (w : World) (l : Array α) (h : ∀ a ∈ l.toList, (f a).run P w = .ok (g a) w) : (l.mapM f).run P w = .ok (l.map g) w := by
  rw [Array.mapM_eq_mapM_toList]
  simp [run_listMapM w l.toList h]
  apply Array.ext'
  simp

theorem fill_congr (p q : Nat → Option (Nat × Nat)) : ∀ (l : List (Nat × Value)) (cs : Array Value), (∀ x ∈ l, p x.1 = q x.1) → Instr.fill p cs l = Instr.fill q cs l
  | [], cs, _ => rfl
  | (i, v) :: l, cs, h => by
    simp only [Instr.fill, h (i, v) (by simp)]
    split
    · rfl
    · split
      · rfl
      · exact fill_congr p q l _ (fun x hx => h x (by simp [hx]))

theorem evN_build (hg : ∀ x, V S μ w (g x) (ρ x)) {o : Oper} {t : TypeId} {parts : Array (Nat × Operand)} {d : DV} (ho : o.op = .build t parts) (h : evN P H g o.op = some d) : okN P S μ w ρ o d := by
  rw [ho] at h
  refine okN_of (s := Instr.build t (parts.map fun (i, x) => (i, ρ x))) (by simp [execOp, ho]) ?_
  simp only [evN] at h
  have hparts : ∀ (i : Nat) (p : Nat × DV) (q : Nat × Value), (parts.toList.map fun p => (p.1, g p.2))[i]? = some p → (parts.map fun (i, x) => (i, ρ x)).toList[i]? = some q → p.1 = q.1 ∧ V S μ w p.2 q.2 := by
    intro i p q hp hq
    simp only [List.getElem?_map, Option.map_eq_some_iff] at hp
    obtain ⟨x, hx, rfl⟩ := hp
    simp only [Array.toList_map, List.getElem?_map, hx, Option.map_some, Option.some.injEq] at hq
    subst hq
    exact ⟨rfl, hg _⟩
  have hlen : (parts.toList.map fun p => (p.1, g p.2)).length = (parts.map fun (i, x) => (i, ρ x)).toList.length := by simp
  have hzero : ∀ {z : DV}, zeroT P t = some z → ∃ v, (zeroValue t).run P w = .ok v w ∧ (z ≠ .und → CR S μ w z.cells v.cells) := by
    intro z hz
    obtain ⟨v, h1, rfl, _⟩ := run_zeroT hz w
    exact ⟨v, h1, fun hne => (cst_V S μ w 3 v).cells hne⟩
  split at h
  · rename_i fs z hu hz
    split at h
    · cases h
    rename_i hzn
    have hzu : z ≠ .und := fun e => hzn (by rw [e]; rfl)
    obtain ⟨cs, hf, h⟩ := Option.bind_eq_some_iff.1 h
    split at h
    · rename_i hc
      cases h
      obtain ⟨zv, h1, h2⟩ := hzero hz
      have hsz : ∀ fd ∈ fs.toList, (sizeOf fd.type).run P w = .ok ((size P fd.type).getD 0) w := by
        intro fd hfd
        have := Array.all_eq_true'.1 hc fd (Array.mem_toList_iff.1 hfd)
        obtain ⟨i, hi⟩ := Option.isSome_iff_exists.1 this
        have : size P fd.type = some i.size := by simp [size, hi]
        rw [run_sz this, this]
        rfl
      have hpl := run_arrMapM (P := P) (f := fun f : Field => do pure (f.offset, ← sizeOf f.type)) (g := fun f => (f.offset, (size P f.type).getD 0)) w fs (fun a ha => by simp [hsz a ha])
      · have hplace : (fun i : Nat => (fs[i]?).bind fun (fd : Field) => (size P fd.type).map fun n => (fd.offset, n)) = fun i : Nat => (fs.map fun f => (f.offset, (size P f.type).getD 0))[i]? := by
          funext i
          simp only [Array.getElem?_map]
          cases hfi : fs[i]? with
          | none => rfl
          | some fd =>
            have := Array.all_eq_true'.1 hc fd (Array.mem_of_getElem? hfi)
            obtain ⟨j, hj⟩ := Option.isSome_iff_exists.1 this
            simp [size, hj]
        rw [hplace] at hf
        obtain ⟨vs', q1, q2⟩ := fill_ok (S := S) (μ := μ) (w := w) _ _ _ _ _ _ (h2 hzu) hlen hparts hf
        refine ⟨.agg vs', ?_, .agg _ _ q2.1 q2.2⟩
        simp only [Instr.build, Sem.run_bind, h1, Result.andThen_ok, run_underlying hu]
        rw [hpl]
        simp only [Result.andThen_ok]
        rw [q1]
        rfl
    · cases h
  · rename_i n e z hu hz
    split at h
    · cases h
    rename_i hzn
    have hzu : z ≠ .und := fun e => hzn (by rw [e]; rfl)
    obtain ⟨k, hk, h⟩ := Option.bind_eq_some_iff.1 h
    simp only [Option.map_eq_some_iff] at h
    obtain ⟨cs, hf, rfl⟩ := h
    obtain ⟨zv, h1, h2⟩ := hzero hz
    · obtain ⟨vs', q1, q2⟩ := fill_ok (S := S) (μ := μ) (w := w) _ _ _ _ _ _ (h2 hzu) hlen hparts hf
      refine ⟨.agg vs', ?_, .agg _ _ q2.1 q2.2⟩
      simp only [Instr.build, Sem.run_bind, h1, Result.andThen_ok, run_underlying hu, run_sz hk]
      rw [q1]
      rfl
  · cases h

theorem evN_len (hH : HRd S μ H w) (hg : ∀ x, V S μ w (g x) (ρ x)) {o : Oper} {args : Array Operand} {argTypes : Array TypeId} {d : DV} (ho : o.op = .call { callee := .builtin .len, args, argTypes }) (h : evN P H g o.op = some d) : okN P S μ w ρ o d := by
  rw [ho] at h
  refine okN_of (s := Builtin.len_ argTypes o.type (args.map ρ)) (by simp [execOp, ho, resolve, invoke, builtin]) ?_
  simp only [evN] at h
  split at h
  · rename_i t x ht hx
    have hv := hg x
    have ha : (args.map ρ)[0]? = some (ρ x) := by simp [hx]
    generalize ρ x = v at hv ha
    generalize g x = y at hv h
    split at h
    · rename_i s hu
      cases h; cases hv
      refine ⟨_, ?_, .int _ _⟩
      simp [Builtin.len_, ht, ha, run_underlying hu, goInt]
    · rename_i n e hu
      cases h
      refine ⟨_, ?_, .int _ _⟩
      simp [Builtin.len_, ht, ha, run_underlying hu, goInt]
    · rename_i e hu
      cases h; cases hv
      refine ⟨_, ?_, .int _ _⟩
      simp [Builtin.len_, ht, ha, run_underlying hu, goInt]
    · rename_i e sz l hu
      cases h
      cases hv with
      | imm0 => exact ⟨_, by simp [Builtin.len_, ht, ha, run_underlying hu, goInt], .int _ _⟩
      | imm => exact ⟨_, by simp [Builtin.len_, ht, ha, run_underlying hu, goInt], .int _ _⟩
    · rename_i e r off len sz gg cl hu
      cases h; cases hv
      refine ⟨_, ?_, .int _ _⟩
      simp [Builtin.len_, ht, ha, run_underlying hu, goInt]
    · rename_i k e hu
      cases h; cases hv
      refine ⟨_, ?_, .int _ _⟩
      simp [Builtin.len_, ht, ha, run_underlying hu, goInt]
    · rename_i k e r hu
      split at h
      · rename_i es hr
        cases h
        obtain ⟨p, hp, hp0, ents, clock, hb, hm⟩ := hH.map r es hr
        cases hv with
        | mp _ b p' hp' hb' =>
          rw [hp] at hp'
          cases hp'
          obtain rfl := hb' hp0
          refine ⟨_, ?_, .int _ _⟩
          simp [Builtin.len_, ht, ha, run_underlying hu, goInt, getObj, Sem.run, hb, hm.1]
      · cases h
    · cases h
  · cases h

theorem evN_lookup (hH : HRd S μ H w) (hg : ∀ x, V S μ w (g x) (ρ x)) {o : Oper} {t : TypeId} {m ix : Operand} {ok : Bool} {d : DV} (ho : o.op = .lookup t m ix ok) (h : evN P H g o.op = some d) : okN P S μ w ρ o d := by
  rw [ho] at h
  refine okN_of (s := Instr.lookup t (ρ m) (ρ ix) ok) (by simp [execOp, ho]) ?_
  simp only [evN] at h
  split at h
  · rename_i kt et hu
    split at h
    · cases h
    · rename_i z hz
      obtain ⟨zv, hzv, rfl, _⟩ := run_zeroT hz w
      split at h
      · rename_i hk
        have hm := hg m
        have hx := hg ix
        generalize ρ m = mv at hm
        generalize g m = md at hm h
        generalize ρ ix = kv at hx
        generalize g ix = kd at hx h hk
        have hkt : ∃ ktd, P.underlying kt = some ktd ∧ (∀ b n, (Instr.checkKey b (n + 1) kt kv).run P w = .ok () w) ∧ (ktd = .string ∧ (∃ s, kd = .str s) ∨ (∃ i, ktd = .int i) ∧ (∃ i n, kd = .int i n) ∨ ktd = .bool ∧ ∃ b, kd = .bool b) := by
          unfold plainKey at hk
          split at hk
          · cases hx
            cases hu' : P.underlying kt with
            | none => simp [hu'] at hk
            | some d => cases d <;> simp [hu'] at hk; exact ⟨_, rfl, fun b n => by simp [Instr.checkKey, run_underlying hu'], .inr (.inl ⟨⟨_, rfl⟩, _, _, rfl⟩)⟩
          · cases hx
            cases hu' : P.underlying kt with
            | none => simp [hu'] at hk
            | some d => cases d <;> simp [hu'] at hk; exact ⟨_, rfl, fun b n => by simp [Instr.checkKey, run_underlying hu'], .inl ⟨rfl, _, rfl⟩⟩
          · cases hx
            cases hu' : P.underlying kt with
            | none => simp [hu'] at hk
            | some d => cases d <;> simp [hu'] at hk; exact ⟨_, rfl, fun b n => by simp [Instr.checkKey, run_underlying hu'], .inr (.inr ⟨rfl, _, rfl⟩)⟩
          · cases hk
        obtain ⟨ktd, hku, hck, hkd⟩ := hkt
        have hck' : ∀ b, (Instr.checkKey b 10000 kt kv).run P w = .ok () w := fun b => hck b 9999
        have hfin : ∀ (es : List (DV × DV)) (ents : Array MapEntry) (r : Option DV), MapOK S μ w es ents → findK kd es = some r →
            match r with
            | none => (Instr.findKey kt kv ents.toList).run P w = .ok none w
            | some v => ∃ i x, (Instr.findKey kt kv ents.toList).run P w = .ok (some (i, x)) w ∧ V S μ w v x := by
          intro es ents r hmo hfr
          have := find_ok (S := S) (μ := μ) (w := w) (kt := ktd) hx es ents.toList 0 r (by simpa using hmo.1) (fun i e m he hm => by
            obtain ⟨q1, q2, _⟩ := hmo.2 i e m he (by simpa using hm)
            exact ⟨q1, q2⟩) hfr hkd
          cases r with
          | none => simp only at this ⊢; simp [Instr.findKey, run_underlying hku, this]
          | some v =>
            obtain ⟨i, x, m, q1, q2, _⟩ := this
            exact ⟨_, x, by simp only [Instr.findKey, Sem.run_bind, run_underlying hku, Result.andThen_ok, q1]; rfl, q2⟩
        have hlast : ∀ (v : Option DV) (u : Value) (b : Bool), (match v with | some x => V S μ w x u ∧ b = true | none => V S μ w (cst 3 zv) u ∧ b = false) →
            (match v with | some v => some (if ok then DV.tup [v, .bool true] else v) | none => some (if ok then .tup [cst 3 zv, .bool false] else cst 3 zv)) = some d →
            V S μ w d (if ok then .tuple #[u, .bool b] else u) := by
          intro v u b hv he
          have tupV : ∀ (x : DV) (u : Value) (b : Bool), V S μ w x u → V S μ w (.tup [x, .bool b]) (.tuple #[u, .bool b]) := fun x u b hx => .tup _ _ rfl fun i c v hc hv => by
            match i with
            | 0 => simp at hc hv; subst hc hv; exact hx
            | 1 => simp at hc hv; subst hc hv; exact .bool _
            | n + 2 => simp at hc
          cases v with
          | none =>
            obtain ⟨h1, rfl⟩ := hv
            cases he
            cases ok
            · exact h1
            · exact tupV _ _ _ h1
          | some v =>
            obtain ⟨h1, rfl⟩ := hv
            cases he
            cases ok
            · exact h1
            · exact tupV _ _ _ h1
        split at h
        · rename_i v hv
          split at hv
          · cases hv
          · split at hv
            · rename_i es hes
              obtain ⟨p, hp, hp0, ents, clock, hb, hmo⟩ := hH.map _ es hes
              cases hm with
              | mp _ b p' hp' hb' =>
                rw [hp] at hp'
                cases hp'
                obtain rfl := hb' hp0
                obtain ⟨i, x, q1, q2⟩ := hfin es ents (some v) hmo hv
                refine ⟨if ok then .tuple #[x, .bool true] else x, ?_, hlast (some v) x true ⟨q2, rfl⟩ h⟩
                simp [Instr.lookup, run_underlying hu, getObj, Sem.run, hb, hck', q1]
            · cases hv
          · cases hv
        · rename_i hv
          split at hv
          · cases hm
            refine ⟨if ok then .tuple #[zv, .bool false] else zv, ?_, hlast none zv false ⟨cst_V S μ w 3 zv, rfl⟩ h⟩
            simp [Instr.lookup, run_underlying hu, hck', Instr.findKey, run_underlying hku, Instr.findNow, hzv]
          · split at hv
            · rename_i es hes
              obtain ⟨p, hp, hp0, ents, clock, hb, hmo⟩ := hH.map _ es hes
              cases hm with
              | mp _ b p' hp' hb' =>
                rw [hp] at hp'
                cases hp'
                obtain rfl := hb' hp0
                have q1 := hfin es ents none hmo hv
                refine ⟨if ok then .tuple #[zv, .bool false] else zv, ?_, hlast none zv false ⟨cst_V S μ w 3 zv, rfl⟩ h⟩
                simp only at q1
                simp [Instr.lookup, run_underlying hu, getObj, Sem.run, hb, hck', q1, hzv]
            · cases hv
          · cases hv
        · cases h
      · cases h
  · cases h

/-! Functions that have no body in the text -/
theorem bytesD_ok (hH : HRd S μ H w) {x : DV} {v : Value} {bs : List UInt8} (h : bytesD H x = some bs) (hv : V S μ w x v) : (Extern.Bytes.bytesOf v).run P w = .ok ⟨bs.toArray⟩ w := by
  have key : ∀ l, elemsOf H x = some (1, l) → allSome (l.map byteOf) = some bs → (Extern.Bytes.bytesOf v).run P w = .ok ⟨bs.toArray⟩ w := by
    intro l hx hb
    obtain ⟨a, cap, rfl, hcap, hsz, hcells⟩ := hH.elems hx hv
    obtain ⟨hl, hby⟩ := allSome_map byteOf l bs hb
    by_cases hne : l = []
    · subst hne
      have : bs = [] := by cases bs with | nil => rfl | cons => simp at hl
      subst this
      cases a with
      | none => simp [Extern.Bytes.bytesOf]; rfl
      | some a => simp [Extern.Bytes.bytesOf, Extern.Bytes.loadBytes]; rfl
    · obtain ⟨B, o, rfl, hc⟩ := hcells hne
      have hf : ∀ i, ∃ n : Int, i < l.length → cellAt w B (o + i) = some (.int .u8 n) ∧ bs[i]? = some (UInt8.ofNat n.toNat) := by
        intro i
        by_cases hi : i < l.length
        · obtain ⟨b, hb1, hb2⟩ := hby i l[i] (List.getElem?_eq_getElem hi)
          have hd : ∃ n, l[i] = .int .u8 n ∧ b = UInt8.ofNat n.toNat := by
            revert hb1
            cases l[i] <;> simp [byteOf]
            rename_i k n
            cases k <;> simp
            exact fun h => h.symm
          obtain ⟨n, hd, rfl⟩ := hd
          obtain ⟨cv, q1, q2⟩ := hc i l[i] 0 l[i] (List.getElem?_eq_getElem hi) (by rw [hd]; rfl)
          rw [hd] at q2
          cases q2
          exact ⟨n, fun _ => ⟨by simpa using q1, hb2⟩⟩
        · exact ⟨0, fun h => absurd h hi⟩
      obtain ⟨f, hf⟩ := Classical.axiomOfChoice hf
      have hrun := Lib.run_loadBytesX (P := P) (w := w) ((List.range l.length).map f) ⟨B, o, none⟩ .empty (fun j x hj => by
        simp only [List.getElem?_map, Option.map_eq_some_iff] at hj
        obtain ⟨k, hk, rfl⟩ := hj
        obtain ⟨hkl, rfl⟩ := List.getElem?_eq_some_iff.1 hk
        simp at hkl
        rw [Addr.add_lit, cell_eq, List.getElem_range]
        exact (hf j hkl).1)
      simp only [List.length_map, List.length_range] at hrun
      simp only [Extern.Bytes.bytesOf, hrun]
      have hbs : Lib.bytesOf ((List.range l.length).map f) = bs := by
        apply List.ext_getElem?
        intro i
        by_cases hi : i < l.length
        · rw [(hf i hi).2]
          simp [Lib.bytesOf, hi]
        · have : ¬ i < bs.length := by omega
          simp [Lib.bytesOf, hi, this]
      rw [hbs]
      simp
  unfold bytesD at h
  split at h
  · cases h
    cases hv
    simp [Extern.Bytes.bytesOf]
  · cases h
    cases hv
    simp [Extern.Bytes.bytesOf]
    rfl
  · split at h
    · rename_i l hx
      exact key l hx h
    · cases h

theorem eqFs_ok {n d : Nat} {xs ys : List DV} {vx vy : Array Value} (ih : ∀ (t : TypeId) (a b : DV) (u v : Value) (r : Bool), eqD P n t a b = some r → V S μ w a u → V S μ w b v → (Op.equalIn d t u v).run P w = .ok r w) (hx : CR S μ w xs vx) (hy : CR S μ w ys vy) :
    ∀ (fs : List Field) (r : Bool), eqFs P (eqD P n) xs ys fs = some r → (Op.eqFields d vx vy fs).run P w = .ok r w
  | [], r, h => by cases h; simp [Op.eqFields]
  | f :: fs, r, h => by
    simp only [eqFs] at h
    simp only [Op.eqFields]
    split at h
    · rename_i hn
      rw [if_neg (by simp [hn])]
      exact eqFs_ok ih hx hy fs r h
    · rename_i hn
      rw [if_pos (by simpa using hn)]
      simp only [Option.bind_eq_some_iff] at h
      obtain ⟨a, ha, b, hb, r1, hr, h⟩ := h
      obtain ⟨u, p1, p2⟩ := part_ok vx ha hx.1 hx.2 w
      obtain ⟨v, q1, q2⟩ := part_ok vy hb hy.1 hy.2 w
      have e := ih _ _ _ _ _ _ hr p2 q2
      simp only [Sem.run_bind, p1, q1, e, Result.andThen_ok]
      cases r1 with
      | true =>
        simp only [if_true] at h
        simp only [Bool.not_true, Bool.false_eq_true, if_false]
        exact eqFs_ok ih hx hy fs r h
      | false =>
        simp only [Bool.false_eq_true, if_false] at h
        cases h
        simp

theorem eqIs_ok {n d : Nat} {e : TypeId} {z : Nat} {xs ys : List DV} {vx vy : Array Value} (hz : P.cellsOf e = z) (ih : ∀ (t : TypeId) (a b : DV) (u v : Value) (r : Bool), eqD P n t a b = some r → V S μ w a u → V S μ w b v → (Op.equalIn d t u v).run P w = .ok r w) (hx : CR S μ w xs vx) (hy : CR S μ w ys vy) :
    ∀ (is : List Nat) (r : Bool), eqIs P (eqD P n) e z xs ys is = some r → (Op.eqItems d e (P.cellsOf e) vx vy is).run P w = .ok r w
  | [], r, h => by cases h; simp [Op.eqItems]
  | i :: is, r, h => by
    simp only [eqIs, Option.bind_eq_some_iff] at h
    simp only [Op.eqItems]
    obtain ⟨a, ha, b, hb, r1, hr, h⟩ := h
    obtain ⟨u, p1, p2⟩ := part_ok vx ha hx.1 hx.2 w
    obtain ⟨v, q1, q2⟩ := part_ok vy hb hy.1 hy.2 w
    have e := ih _ _ _ _ _ _ hr p2 q2
    rw [hz]
    simp only [Sem.run_bind, p1, q1, e, Result.andThen_ok]
    cases r1 with
    | true =>
      simp only [if_true] at h
      simp only [Bool.not_true, Bool.false_eq_true, if_false]
      have := eqIs_ok hz ih hx hy is r h
      rw [hz] at this
      exact this
    | false =>
      simp only [Bool.false_eq_true, if_false] at h
      cases h
      simp

theorem eqD_ok : ∀ (n d : Nat) (t : TypeId) (a b : DV) (u v : Value) (r : Bool), eqD P n t a b = some r → n ≤ d → V S μ w a u → V S μ w b v → (Op.equalIn d t u v).run P w = .ok r w
  | 0, _, _, _, _, _, _, _, h, _, _, _ => by cases h
  | n + 1, 0, _, _, _, _, _, _, _, hd, _, _ => by omega
  | n + 1, d + 1, t, a, b, u, v, r, h, hd, hu, hv => by
    rcases eqD_spec h with ⟨k, k', x, y, rfl, rfl, ht, rfl⟩ | ⟨s, s', rfl, rfl, ht, rfl⟩ | ⟨x, y, rfl, rfl, ht, rfl⟩ | ⟨xs, ys, fs, rfl, rfl, ht, hp, hf⟩ | ⟨xs, ys, m, e, z, rfl, rfl, ht, hz, hf⟩
    · cases hu; cases hv
      exact run_equalIn_int w d t k k' x y ht
    · cases hu; cases hv
      rw [run_equalIn_string w d t s s' ht, ByteArray.toList_eq, ByteArray.toList_eq]
    · cases hu; cases hv
      exact run_equalIn_bool w d t x y ht
    · cases hu with
      | agg _ vx hl1 hx =>
        cases hv with
        | agg _ vy hl2 hy =>
          have hfo : P.fieldsOf t = fs := by simp [Program.fieldsOf, ht]
          rw [run_equalIn_struct w d t vx vy (by rw [hfo]; exact ht) hp, hfo]
          exact eqFs_ok (fun t a b u v r h hu hv => eqD_ok n d t a b u v r h (by omega) hu hv) ⟨hl1, hx⟩ ⟨hl2, hy⟩ fs.toList r hf
    · cases hu with
      | agg _ vx hl1 hx =>
        cases hv with
        | agg _ vy hl2 hy =>
          obtain ⟨i, hi⟩ : ∃ i, P.info? e = some i := by
            unfold size at hz
            cases hq : P.info? e with
            | none => simp [hq] at hz
            | some i => exact ⟨i, rfl⟩
          rw [run_equalIn_array w d vx vy ht hi]
          exact eqIs_ok (size_cellsOf hz) (fun t a b u v r h hu hv => eqD_ok n d t a b u v r h (by omega) hu hv) ⟨hl1, hx⟩ ⟨hl2, hy⟩ _ r hf

theorem run_equalIn_same {t e : TypeId} {i : TypeInfo} (w : World) (d : Nat) (hu : P.underlying t = some (.pointer e)) (hi : P.info? e = some i) (A : Addr) : (Op.equalIn (d + 1) t (.pointer (some A)) (.pointer (some A))).run P w = .ok true w := by
  by_cases h0 : i.size = 0 <;> simp [Op.equalIn, run_underlying hu, sizeOf, typeInfo, hi, h0, sameAddr]

theorem ptrEq_ok (hH : HRd S μ H w) {t : TypeId} {a b : DV} {u v : Value} (h : ptrEq P H t a b = true) (ha : V S μ w a u) (hb : V S μ w b v) :
    ∃ A : Addr, u = .pointer (some A) ∧ v = .pointer (some A) ∧ (Op.equal t u v).run P w = .ok true w := by
  unfold ptrEq at h
  split at h
  · simp only [Bool.and_eq_true, beq_iff_eq] at h
    obtain ⟨⟨⟨⟨⟨⟨rfl, rfl⟩, rfl⟩, rfl⟩, rfl⟩, hs⟩, ht⟩ := h
    obtain ⟨R, hR⟩ := Option.isSome_iff_exists.1 hs
    obtain ⟨hr, h1, h2, h3, h4⟩ := ptrAt_spec hR
    obtain ⟨p, hp, _, e1, _⟩ := hH.at_ptr hr h1 h2 (List.getElem?_eq_getElem h3) ha
    obtain ⟨p', hp', _, e1', _⟩ := hH.at_ptr hr h1 h2 (List.getElem?_eq_getElem h3) hb
    rw [hp] at hp'
    cases hp'
    subst e1 e1'
    refine ⟨_, rfl, rfl, ?_⟩
    unfold isPtrT at ht
    split at ht
    · rename_i e hu
      obtain ⟨i, hi⟩ := Option.isSome_iff_exists.1 ht
      exact run_equalIn_same w 9999 hu hi _
    · cases ht
  · cases h

theorem evN_cap (hg : ∀ x, V S μ w (g x) (ρ x)) {o : Oper} {args : Array Operand} {argTypes : Array TypeId} {d : DV} (ho : o.op = .call { callee := .builtin .cap, args, argTypes }) (h : evN P H g o.op = some d) : okN P S μ w ρ o d := by
  rw [ho] at h
  simp only [evN] at h
  split at h
  · rename_i t x ht hx
    split at h
    · rename_i e hu hgx
      cases h
      have hv := hg x
      rw [hgx] at hv
      generalize hgen : ρ x = v at hv
      cases hv
      refine okN_of (s := Builtin.cap_ argTypes o.type (args.map ρ)) (by simp [execOp, ho, resolve, invoke, builtin]) ⟨.int .i64 0, ?_, .int _ _⟩
      have e1 : (args.map ρ)[0]? = some (.slice none 0 0) := by simp [hx, hgen]
      simp [Builtin.cap_, ht, e1, run_underlying hu, goInt]
    · cases h
  · cases h

theorem evN_data (hH : HRd S μ H w) (hg : ∀ x, V S μ w (g x) (ρ x)) {o : Oper} {args : Array Operand} {argTypes : Array TypeId} {d : DV} (ho : o.op = .call { callee := .builtin .unsafeSliceData, args, argTypes }) (h : evN P H g o.op = some d) : okN P S μ w ρ o d := by
  rw [ho] at h
  refine okN_of (s := Builtin.unsafeSliceData_ argTypes o.type (args.map ρ)) (by simp [execOp, ho, resolve, invoke, builtin]) ?_
  simp only [evN] at h
  split at h
  rotate_left
  · cases h
  rename_i hsz
  simp only [Option.bind_eq_some_iff] at h
  obtain ⟨x, hx, h⟩ := h
  have hvs : args.map ρ = #[ρ x] := by
    apply Array.ext'
    apply List.ext_getElem?
    intro k
    match k with
    | 0 => simp [hx]
    | k + 1 => simp [show args[k + 1]? = none from Array.getElem?_eq_none (by omega)]
  rw [hvs]
  have hv := hg x
  rcases dataOf_spec h with ⟨e1, rfl⟩ | ⟨r, off, len, sz, gg, cl, e1, hc1, hc2, rfl⟩
  · rw [e1] at hv
    generalize ρ x = v at hv
    cases hv
    exact ⟨_, rfl, .nilp⟩
  · rw [e1] at hv
    generalize ρ x = v at hv
    obtain ⟨R, hR⟩ := Option.isSome_iff_exists.1 hc2
    cases hv with
    | ref _ _ _ _ _ _ a cap p hp hgg hcap hcl ha hn =>
      obtain ⟨a, rfl⟩ : ∃ a', a = some a' := by
        cases a with
        | none => have := hn rfl; omega
        | some a => exact ⟨a, rfl⟩
      refine ⟨.pointer (some a), Lib.run_unsafeSliceData_row w _ _ a len cap (by omega), ?_⟩
      refine .ptr _ _ _ _ _ a p hp hgg fun e => ?_
      obtain ⟨a1, a2, a3⟩ := ha e
      exact ⟨a1, by rw [Option.some.inj (a3.resolve_left (by omega)), ← a1]; rfl⟩

theorem byteOf_ok {x : DV} {v : Value} {c : UInt8} (h : byteOf x = some c) (hv : V S μ w x v) : ∃ n : Int, v = .int .u8 n ∧ c = n.toNat.toUInt8 := by
  unfold byteOf at h
  split at h
  · cases h; cases hv; exact ⟨_, rfl, rfl⟩
  · cases h

def ekSem : EK → Array Value → Sem Value
  | .cnt => Extern.BytealgCount.count
  | .idxB => Extern.BytealgIndexByte.indexByte
  | .cmp => Extern.BytealgCompare.compare
  | .same => Extern.AbiNoEscape.same

theorem ek_find {fn : Func} {n : String} {e : Array Value → Sem Value} (ho : fn.origin = "") (hn : fn.name = n) (h1 : Extern.allNextRows.lookup n = none) (h2 : Extern.allNextRows.lookup "" = none)
    (h3 : Extern.allGenericRows.lookup n = none) (h4 : Extern.allTypedRows.lookup n = none) (h5 : Extern.allRows.lookup n = some e) : Extern.findNext fn = none ∧ Extern.find fn = some e := by
  subst hn
  refine ⟨?_, ?_⟩
  · simp only [Extern.findNext, ho, h1, h2]; rfl
  · simp only [Extern.find, h3, h4, h5]; rfl

theorem ekOf_ok {fn : Func} {k : EK} (h : ekOf fn = some k) : fn.body.isNone = true ∧ (fn.name == "runtime.NumGoroutine") = false ∧ Extern.findNext fn = none ∧ Extern.find fn = some (ekSem k) := by
  unfold ekOf at h
  split at h
  · cases h
  rename_i hb
  simp only [Bool.or_eq_true, not_or, bne_iff_ne, ne_eq, Classical.not_not] at hb
  obtain ⟨hb, ho⟩ := hb
  have hbn : fn.body.isNone = true := by cases h : fn.body <;> simp_all
  have h0 : Extern.allNextRows.lookup "" = none := by kernel_rfl
  split at h
  · rename_i hn
    cases h
    simp only [Bool.or_eq_true, beq_iff_eq] at hn
    rcases hn with hn | hn
    · exact ⟨hbn, by rw [hn]; rfl, ek_find ho hn (by kernel_rfl) h0 (by kernel_rfl) (by kernel_rfl) (by kernel_rfl)⟩
    · exact ⟨hbn, by rw [hn]; rfl, ek_find ho hn (by kernel_rfl) h0 (by kernel_rfl) (by kernel_rfl) (by kernel_rfl)⟩
  · split at h
    · rename_i hn
      cases h
      simp only [Bool.or_eq_true, beq_iff_eq] at hn
      rcases hn with hn | hn
      · exact ⟨hbn, by rw [hn]; rfl, ek_find ho hn (by kernel_rfl) h0 (by kernel_rfl) (by kernel_rfl) (by kernel_rfl)⟩
      · exact ⟨hbn, by rw [hn]; rfl, ek_find ho hn (by kernel_rfl) h0 (by kernel_rfl) (by kernel_rfl) (by kernel_rfl)⟩
    · split at h
      · rename_i hn
        cases h
        simp only [beq_iff_eq] at hn
        exact ⟨hbn, by rw [hn]; rfl, ek_find ho hn (by kernel_rfl) h0 (by kernel_rfl) (by kernel_rfl) (by kernel_rfl)⟩
      · split at h
        · rename_i hn
          cases h
          simp only [beq_iff_eq] at hn
          exact ⟨hbn, by rw [hn]; rfl, ek_find ho hn (by kernel_rfl) h0 (by kernel_rfl) (by kernel_rfl) (by kernel_rfl)⟩
        · cases h

theorem two_V {a b : DV} {vs : Array Value} (h : CR S μ w [a, b] vs) : ∃ x y, vs = #[x, y] ∧ V S μ w a x ∧ V S μ w b y := by
  obtain ⟨hl, hv⟩ := h
  obtain ⟨l⟩ := vs
  have hl2 : l.length = 2 := by simpa using hl.symm
  match l, hl2 with
  | [x, y], _ => exact ⟨x, y, rfl, hv 0 _ _ rfl rfl, hv 1 _ _ rfl rfl⟩

theorem extD_ok (hH : HRd S μ H w) {k : EK} {as : List DV} {vs : Array Value} {d : DV} (h : extD H k as = some d) (hv : CR S μ w as vs) : ∃ v, (ekSem k vs).run P w = .ok v w ∧ V S μ w d v := by
  unfold extD at h
  split at h
  · obtain ⟨x, y, rfl, hx, hy⟩ := two_V hv
    split at h
    · rename_i l c hl hc
      cases h
      obtain ⟨n, rfl, rfl⟩ := byteOf_ok hc hy
      refine ⟨_, ?_, .int _ _⟩
      change Sem.run P (do
        let b ← Extern.Bytes.bytesOf x
        let c' ← Extern.Bytes.asByte (.int .u8 n)
        pure (goInt (b.foldl (fun n x => if x == c' then n + 1 else n) (0 : Nat)))) w = _
      simp only [bytesD_ok hH hl hx, Extern.Bytes.asByte, Sem.run_bind, Sem.run_pure, Result.andThen]
      rw [Lib.foldl_data, Lib.count_foldl]
      simp [goInt]
    · cases h
  · obtain ⟨x, y, rfl, hx, hy⟩ := two_V hv
    split at h
    · rename_i l c hl hc
      cases h
      obtain ⟨n, rfl, rfl⟩ := byteOf_ok hc hy
      refine ⟨_, ?_, .int _ _⟩
      change Sem.run P (do
        let b ← Extern.Bytes.bytesOf x
        let c' ← Extern.Bytes.asByte (.int .u8 n)
        match (List.range b.size).find? fun i => b[i]! == c' with
        | some i => pure (goInt i)
        | none => pure (goInt (-1))) w = _
      have := Lib.firstIdx_eq ⟨l.toArray⟩ n.toNat.toUInt8
      simp only [bytesD_ok hH hl hx, Extern.Bytes.asByte, Sem.run_bind, Sem.run_pure, Result.andThen]
      have e : Lib.indexByte l n.toNat.toUInt8 = firstIdx ⟨l.toArray⟩ n.toNat.toUInt8 := this.symm
      rw [e]
      unfold firstIdx
      cases hq : List.find? (fun i => (ByteArray.mk l.toArray)[i]! == n.toNat.toUInt8) (List.range (ByteArray.mk l.toArray).size) <;> simp [goInt]
    · cases h
  · obtain ⟨x, y, rfl, hx, hy⟩ := two_V hv
    split at h
    · rename_i l c hl hc
      cases h
      refine ⟨_, ?_, .int _ _⟩
      change Sem.run P (do pure (goInt (Extern.BytealgCompare.cmp (← Extern.Bytes.bytesOf x) (← Extern.Bytes.bytesOf y)))) w = _
      simp only [bytesD_ok hH hl hx, bytesD_ok hH hc hy, Sem.run_bind, Sem.run_pure, Result.andThen]
      rw [Lib.cmp_eq]
      rfl
    · cases h
  · cases h
    obtain ⟨hl, hv⟩ := hv
    obtain ⟨l⟩ := vs
    have hl2 : l.length = 1 := by simpa using hl.symm
    match l, hl2 with
    | [v], _ => exact ⟨v, rfl, hv 0 _ _ rfl rfl⟩
  · cases h

theorem evN_ext (hH : HRd S μ H w) (hg : ∀ x, V S μ w (g x) (ρ x)) {o : Oper} {f : Operand} {args : Array Operand} {argTypes : Array TypeId} {d : DV} (ho : o.op = .call { callee := .value f, args, argTypes }) (h : evN P H g o.op = some d) : okN P S μ w ρ o d := by
  rw [ho] at h
  simp only [evN] at h
  have hf := hg f
  split at h
  · rename_i fid hfe
    rw [hfe] at hf
    generalize hgen : ρ f = fv at hf
    cases hf with
    | fn _ _ vs hl hx =>
      have hvs : vs = #[] := Array.size_eq_zero_iff.1 (by simpa using hl.symm)
      subst hvs
      split at h
      · rename_i fn hfn
        split at h
        · rename_i k hk
          obtain ⟨k1, k2, k3, k4⟩ := ekOf_ok hk
          obtain ⟨v, hr, hval⟩ := extD_ok (P := P) hH h (toList_map_V hg args)
          refine ⟨v, ?_, hval⟩
          simp only [execOp, ho, resolve, hgen, Deferred.ofValue]
          simp only [Sem.run_bind, Sem.run_pure, Result.andThen, invoke, Array.append_empty, Array.empty_append]
          rw [run_callFunc_extern hfn k2 k1 k3 k4, hr]
          rfl
        · cases h
      · cases h
  · cases h
end Go.Dev

/- Each operation that only reads comes to what the data say: put together. -/
namespace Go.Dev
variable {P : Program} {S : Nat → Nat → Prop} {μ : Mu} {w : World} {H : Heap}
variable {g : Operand → DV} {ρ : Operand → Value}

theorem evN_min (hg : ∀ x, V S μ w (g x) (ρ x)) {o : Oper} {args : Array Operand} {argTypes : Array TypeId} {d : DV} (ho : o.op = .call { callee := .builtin .min, args, argTypes }) (h : evN P H g o.op = some d) : okN P S μ w ρ o d := by
  rw [ho] at h
  refine okN_of (s := Builtin.min_ argTypes o.type (args.map ρ)) (by simp [execOp, ho, resolve, invoke, builtin]) ?_
  simp only [evN] at h
  split at h
  · rename_i k a k' b he
    cases h
    have hcr := toList_map_V hg args
    rw [he] at hcr
    obtain ⟨hl, hv⟩ := hcr
    have e0 : ∃ x y, (args.map ρ).toList = [x, y] := by
      have : (args.map ρ).toList.length = 2 := by simpa using hl.symm
      match h : (args.map ρ).toList, this with
      | [x, y], _ => exact ⟨x, y, rfl⟩
    obtain ⟨x, y, e0⟩ := e0
    have hx : (args.map ρ)[0]? = some x := by rw [← Array.getElem?_toList, e0]; rfl
    have hy : (args.map ρ)[1]? = some y := by rw [← Array.getElem?_toList, e0]; rfl
    have v0 := hv 0 _ _ rfl hx
    have v1 := hv 1 _ _ rfl hy
    cases v0; cases v1
    exact ⟨_, by simp only [Builtin.min_, e0]; simp [Builtin.min2, List.foldlM], .int _ _⟩
  · cases h

theorem evN_max (hg : ∀ x, V S μ w (g x) (ρ x)) {o : Oper} {args : Array Operand} {argTypes : Array TypeId} {d : DV} (ho : o.op = .call { callee := .builtin .max, args, argTypes }) (h : evN P H g o.op = some d) : okN P S μ w ρ o d := by
  rw [ho] at h
  refine okN_of (s := Builtin.max_ argTypes o.type (args.map ρ)) (by simp [execOp, ho, resolve, invoke, builtin]) ?_
  simp only [evN] at h
  split at h
  · rename_i k a k' b he
    cases h
    have hcr := toList_map_V hg args
    rw [he] at hcr
    obtain ⟨hl, hv⟩ := hcr
    have e0 : ∃ x y, (args.map ρ).toList = [x, y] := by
      have : (args.map ρ).toList.length = 2 := by simpa using hl.symm
      match h : (args.map ρ).toList, this with
      | [x, y], _ => exact ⟨x, y, rfl⟩
    obtain ⟨x, y, e0⟩ := e0
    have hx : (args.map ρ)[0]? = some x := by rw [← Array.getElem?_toList, e0]; rfl
    have hy : (args.map ρ)[1]? = some y := by rw [← Array.getElem?_toList, e0]; rfl
    have v0 := hv 0 _ _ rfl hx
    have v1 := hv 1 _ _ rfl hy
    cases v0; cases v1
    exact ⟨_, by simp only [Builtin.max_, e0]; simp [Builtin.max2, List.foldlM], .int _ _⟩
  · cases h

/-- An operation that only reads. -/
theorem evN_ok (hH : HRd S μ H w) (hg : ∀ x, V S μ w (g x) (ρ x)) {o : Oper} {d : DV} (h : evN P H g o.op = some d) : okN P S μ w ρ o d := by
  cases ho : o.op with
  | move x =>
    rw [ho] at h; cases h
    exact ⟨ρ x, by simp [execOp, ho], hg x⟩
  | assign x =>
    rw [ho] at h; cases h
    exact ⟨ρ x, by simp [execOp, ho], hg x⟩
  | pick c a b =>
    rw [ho] at h
    simp only [evN] at h
    have hc := hg c
    split at h
    · rename_i e
      cases h
      rw [e] at hc
      generalize hcv : ρ c = cv at hc
      cases hc
      exact ⟨ρ a, by simp [execOp, ho, hcv, asBool], hg a⟩
    · rename_i e
      cases h
      rw [e] at hc
      generalize hcv : ρ c = cv at hc
      cases hc
      exact ⟨ρ b, by simp [execOp, ho, hcv, asBool], hg b⟩
    · cases h
  | binOp op t x y yt =>
    rw [ho] at h
    simp only [evN] at h
    split at h
    · rename_i d' hb
      cases h
      exact okN_of (by simp [execOp, ho]) (binV_ok (hg x) (hg y) hb)
    · split at h
      · rename_i hpe
        obtain ⟨A, e1, e2, e3⟩ := ptrEq_ok (P := P) hH hpe (hg x) (hg y)
        rw [e1, e2] at e3
        rcases eqRes_spec h with ⟨rfl, rfl⟩ | ⟨rfl, rfl⟩
        · exact ⟨.bool true, by simp [execOp, ho, e1, e2, eqGuard_at_pointer, binOp, e3], .bool _⟩
        · exact ⟨.bool false, by simp [execOp, ho, e1, e2, eqGuard_at_pointer, binOp, e3], .bool _⟩
      · unfold aggEq at h
        split at h
        · rename_i hc
          obtain ⟨a1, a2, a3⟩ := hc
          obtain ⟨xs, e1⟩ := dvAgg_spec a1
          obtain ⟨ys, e2⟩ := dvAgg_spec a2
          simp only [Option.bind_eq_some_iff] at h
          obtain ⟨r, hr, h⟩ := h
          have hx := hg x
          have hy := hg y
          have heq := eqD_ok 20 10000 t _ _ _ _ r hr (by omega) hx hy
          rw [e1] at hx
          rw [e2] at hy
          generalize hvx : ρ x = vx at hx heq
          generalize hvy : ρ y = vy at hy heq
          cases hx with
          | agg _ us _ _ =>
            cases hy with
            | agg _ vs _ _ =>
              have hgd := run_eqGuard_agg w op t x y us vs a3
              rcases eqResB_spec h with ⟨rfl, rfl⟩ | ⟨rfl, rfl⟩
              · refine ⟨.bool r, ?_, .bool _⟩
                simp only [execOp, ho, hvx, hvy, Sem.run_bind, hgd, Result.andThen_ok]
                rw [run_eql_struct w t us vs, heq]
                rfl
              · refine ⟨.bool !r, ?_, .bool _⟩
                simp only [execOp, ho, hvx, hvy, Sem.run_bind, hgd, Result.andThen_ok]
                rw [run_neq_struct w t us vs, heq]
                rfl
        · cases h
  | unOp op t x =>
    rw [ho] at h
    refine okN_of (s := Op.unary op (ρ x)) (by simp [execOp, ho]) ?_
    simp only [evN] at h
    have hx := hg x
    split at h
    · rename_i b e
      cases h
      rw [e] at hx
      generalize ρ x = v at hx
      cases hx
      exact ⟨_, by simp [Op.unary], .bool _⟩
    · rename_i k n e
      cases h
      rw [e] at hx
      generalize ρ x = v at hx
      cases hx
      refine ⟨_, ?_, .int _ _⟩
      simp [Op.unary, Op.intArith]
    · rename_i k n e
      cases h
      rw [e] at hx
      generalize ρ x = v at hx
      cases hx
      refine ⟨_, ?_, .int _ _⟩
      simp [Op.unary, Op.intBits]
    · cases h
  | convert s t x => exact evN_convert hH hg ho h
  | nilCheck x =>
    rw [ho] at h
    simp only [evN] at h
    have hx := hg x
    split at h
    · rename_i r i off sz gg e
      cases h
      rw [e] at hx
      generalize hv : ρ x = v at hx
      have hx' := hx
      cases hx
      exact ⟨_, by simp [execOp, ho, hv], hx'⟩
    · rename_i e' off e
      cases h
      rw [e] at hx
      generalize hv : ρ x = v at hx
      have hx' := hx
      cases hx
      exact ⟨_, by simp [execOp, ho, hv], hx'⟩
    · cases h
  | fieldAddr t x f => exact evN_fieldAddr hg ho h
  | field t x f => exact evN_field hg ho h
  | indexAddr t x ix => exact evN_indexAddr hH hg ho h
  | index t x ix => exact evN_index hg ho h
  | slice t x lo hi mx =>
    rw [ho] at h
    exact okN_of (by simp [execOp, ho]) (slices_ok h (hg x) (optV_map hg lo) (optV_map hg hi) (optV_map hg mx))
  | load t a => exact evN_load hH hg ho h
  | extract x i =>
    rw [ho] at h
    refine okN_of (s := Instr.extract (ρ x) i) (by simp [execOp, ho]) ?_
    simp only [evN] at h
    have hx := hg x
    split at h
    · rename_i cs e
      rw [e] at hx
      generalize ρ x = v at hx
      cases hx with
      | tup _ vs hl hv =>
        have hlt := (List.getElem?_eq_some_iff.1 h).1
        have hvx : vs[i]? = some vs[i] := Array.getElem?_eq_getElem (by omega)
        exact ⟨vs[i], by simp [Instr.extract, hvx], hv i _ _ h hvx⟩
    · cases h
  | makeInterface t x =>
    rw [ho] at h
    refine okN_of (s := Instr.makeInterface t (ρ x)) (by simp [execOp, ho]) ?_
    simp only [evN] at h
    split at h
    · cases h
    · cases h
    · rename_i d hne hu
      cases h
      refine ⟨.iface t (ρ x), ?_, .iface _ _ _ (hg x)⟩
      cases d <;> first
        | (simp [Instr.makeInterface, run_underlying hu]; done)
        | (exact absurd rfl (hne _))
  | makeFunc fn first captured =>
    rw [ho] at h
    cases fn with
    | func f =>
      simp only [evN] at h
      split at h
      · rename_i h0
        cases h
        have hf : first = #[] := Array.size_eq_zero_iff.1 h0
        subst hf
        obtain ⟨q1, q2⟩ := toList_map_V hg captured
        exact ⟨.func (.func f) #[] (captured.map ρ), by simp [execOp, ho, Instr.makeFunc], .fn _ _ _ q1 q2⟩
      · split at h
        · rename_i hc
          obtain ⟨c1, c2⟩ := hc
          simp only [Option.map_eq_some_iff] at h
          obtain ⟨x, hx, rfl⟩ := h
          have hf : first.map ρ = #[ρ x] := by
            apply Array.ext'
            apply List.ext_getElem?
            intro k
            match k with
            | 0 => simp [hx]
            | k + 1 => simp [show first[k + 1]? = none from Array.getElem?_eq_none (by omega)]
          have hcap : captured = #[] := Array.size_eq_zero_iff.1 c2
          subst hcap
          exact ⟨.func (.func f) #[ρ x] #[], by simp [execOp, ho, Instr.makeFunc, hf], .bfn _ _ _ (hg x)⟩
        · cases h
    | _ => simp [evN] at h
  | build t parts => exact evN_build hg ho h
  | lookup t m ix ok => exact evN_lookup hH hg ho h
  | call c =>
    obtain ⟨callee, args, argTypes⟩ := c
    rw [ho] at h
    cases callee with
    | builtin b =>
      cases b <;> first
        | (exact evN_len hH hg ho (by rw [ho]; exact h))
        | (exact evN_cap hg ho (by rw [ho]; exact h))
        | (exact evN_data hH hg ho (by rw [ho]; exact h))
        | (exact evN_min hg ho (by rw [ho]; exact h))
        | (exact evN_max hg ho (by rw [ho]; exact h))
        | (simp [evN] at h; done)
    | value f => exact evN_ext hH hg ho (by rw [ho]; exact h)
    | _ => simp [evN] at h
  | _ => rw [ho] at h; simp [evN] at h
end Go.Dev
