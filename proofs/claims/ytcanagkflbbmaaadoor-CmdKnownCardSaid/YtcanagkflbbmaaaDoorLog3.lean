/- A logic over data. -/
import Derived.Test.YtcanagkflbbmaaaDoorLog2
set_option linter.unusedVariables false
set_option linter.unusedSimpArgs false
/- Code run as a proposition: registers and rows as explicit data, handed on from place to place; what cannot be told by computing stands still at a word for which there are lemmas. -/
set_option linter.unusedVariables false
namespace Go.Dev
open Go.RowKit

theorem beq_ff {a b : Nat} (h : a ≠ b) : a.beq b = false := by
  cases e : a.beq b
  · rfl
  · exact absurd (Nat.eq_of_beq_eq_true e) h
/-! Registers, handed on in normal form -/
def getK : Tr → Nat → (DV → Prop) → Prop
  | .e, _, K => K .und
  | .n v l r, k, K => bif k.beq 0 then K v else bif (k % 2).beq 1 then getK l (k / 2) K else getK r (k / 2 - 1) K
theorem getK_eq : ∀ (t : Tr) (k : Nat) (K : DV → Prop), getK t k K = K (t.get k)
  | .e, _, _ => rfl
  | .n v l r, k, K => by
    simp only [getK, Tr.get]
    by_cases h : k = 0
    · subst h; simp
    · have h1 : k.beq 0 = false := beq_ff h
      rw [h1, if_neg h]
      by_cases h2 : k % 2 = 1
      · have h3 : (k % 2).beq 1 = true := by simpa using h2
        rw [h3, if_pos h2]
        exact getK_eq l _ K
      · have h3 : (k % 2).beq 1 = false := beq_ff h2
        rw [h3, if_neg h2]
        exact getK_eq r _ K
def setK (v : DV) : Nat → Tr → Nat → (Tr → Prop) → Prop
  | 0, t, _, K => K t
  | f + 1, .e, k, K => bif k.beq 0 then K (.n v .e .e) else bif (k % 2).beq 1 then setK v f .e (k / 2) (fun l => K (.n .und l .e)) else setK v f .e (k / 2 - 1) (fun r => K (.n .und .e r))
  | f + 1, .n u l r, k, K => bif k.beq 0 then K (.n v l r) else bif (k % 2).beq 1 then setK v f l (k / 2) (fun l' => K (.n u l' r)) else setK v f r (k / 2 - 1) (fun r' => K (.n u l r'))
theorem setK_eq (v : DV) : ∀ (f : Nat) (t : Tr) (k : Nat) (K : Tr → Prop), setK v f t k K = K (Tr.put v f t k)
  | 0, _, _, _ => rfl
  | f + 1, .e, k, K => by
    simp only [setK, Tr.put]
    by_cases h : k = 0
    · subst h; simp
    · have h1 : k.beq 0 = false := beq_ff h
      rw [h1, if_neg h]
      by_cases h2 : k % 2 = 1
      · have h3 : (k % 2).beq 1 = true := by simpa using h2
        rw [h3, if_pos h2]
        exact setK_eq v f .e _ _
      · have h3 : (k % 2).beq 1 = false := beq_ff h2
        rw [h3, if_neg h2]
        exact setK_eq v f .e _ _
  | f + 1, .n u l r, k, K => by
    simp only [setK, Tr.put]
    by_cases h : k = 0
    · subst h; simp
    · have h1 : k.beq 0 = false := beq_ff h
      rw [h1, if_neg h]
      by_cases h2 : k % 2 = 1
      · have h3 : (k % 2).beq 1 = true := by simpa using h2
        rw [h3, if_pos h2]
        exact setK_eq v f l _ _
      · have h3 : (k % 2).beq 1 = false := beq_ff h2
        rw [h3, if_neg h2]
        exact setK_eq v f r _ _

/-- Numerals. -/
def numK (k : Nat) (K : Nat → Prop) : Prop := match k with
  | 0 => K 0 | 1 => K 1 | 2 => K 2 | 3 => K 3 | 4 => K 4 | 5 => K 5 | 6 => K 6 | 7 => K 7 | 8 => K 8 | 9 => K 9 | 10 => K 10 | 11 => K 11 | 12 => K 12 | 13 => K 13 | 14 => K 14 | 15 => K 15 | 16 => K 16 | 17 => K 17 | 18 => K 18 | 19 => K 19 | 20 => K 20 | 21 => K 21 | 22 => K 22 | 23 => K 23 | k => K k
theorem numK_eq (k : Nat) (K : Nat → Prop) : numK k K = K k := by unfold numK; split <;> rfl
/-! Data, each told before it is handed on -/
mutual
/-- A datum in normal form (its cells, too). -/
def fcK : Nat → DV → (DV → Prop) → Prop
  | 0, d, K => K d
  | n + 1, d, K => match d with
    | .und => K .und | .bool b => K (.bool b) | .int k i => K (.int k i) | .str ⟨⟨l⟩⟩ => K (Str l) | .nilp => K .nilp | .ptr r i off sz g => numK off fun off => K (.ptr r i off sz g) | .ipt e off => numK off fun off => K (.ipt e off) | .opq => K .opq
    | .nils => K .nils | .imm sz l => K (.imm sz l) | .ref r off len sz g cl => K (.ref r off len sz g cl) | .nilm => K .nilm | .mp r => K (.mp r) | .nilf => K .nilf
    | .fn f cs => fsK n cs fun m => K (.fn f m) | .bfn f d => fcK n d fun e => K (.bfn f e) | .nili => K .nili | .iface t v => fcK n v fun e => K (.iface t e)
    | .agg cs => fsK n cs fun m => K (.agg m) | .tup cs => fsK n cs fun m => K (.tup m)
def fsK : Nat → List DV → (List DV → Prop) → Prop
  | 0, l, K => K l
  | n + 1, l, K => match l with
    | [] => K []
    | d :: r => fcK n d fun e => fsK n r fun m => K (e :: m)
end
mutual
theorem fcK_eq : ∀ (n : Nat) (d : DV) (K : DV → Prop), fcK n d K = K d
  | 0, _, _ => rfl
  | n + 1, d, K => by
    cases d with
    | fn f cs => exact fsK_eq n cs fun m => K (.fn f m)
    | bfn f d => exact fcK_eq n d fun e => K (.bfn f e)
    | iface t v => exact fcK_eq n v fun e => K (.iface t e)
    | agg cs => exact fsK_eq n cs fun m => K (.agg m)
    | tup cs => exact fsK_eq n cs fun m => K (.tup m)
    | ptr r i off sz g => exact numK_eq off fun off => K (.ptr r i off sz g)
    | ipt e off => exact numK_eq off fun off => K (.ipt e off)
    | _ => rfl
theorem fsK_eq : ∀ (n : Nat) (l : List DV) (K : List DV → Prop), fsK n l K = K l
  | 0, _, _ => rfl
  | n + 1, l, K => by
    cases l with
    | nil => rfl
    | cons d r => exact (fcK_eq n d fun e => fsK n r fun m => K (e :: m)).trans (fsK_eq n r fun m => K (d :: m))
end
/-- What an operand holds. -/
def opdK (ρ : Tr) (x : Operand) (K : DV → Prop) : Prop := match x with
  | .tmp t => getK ρ t K
  | .const v => fcK 9 (cst 3 v) K
  | .global _ => K .und
  | .func f => K (.fn f [])
theorem opdK_eq (ρ : Tr) (x : Operand) (K : DV → Prop) : opdK ρ x K = K (opd ρ x) := by
  cases x with
  | tmp t => exact getK_eq ρ t K
  | const v => exact fcK_eq _ _ K
  | global _ => rfl
  | func _ => rfl
def opdsK (ρ : Tr) : List Operand → (List DV → Prop) → Prop
  | [], K => K []
  | x :: l, K => opdK ρ x fun d => opdsK ρ l fun m => K (d :: m)
theorem opdsK_eq (ρ : Tr) : ∀ (l : List Operand) (K : List DV → Prop), opdsK ρ l K = K (l.map (opd ρ))
  | [], _ => rfl
  | x :: l, K => by simp only [opdsK, opdK_eq, opdsK_eq ρ l, List.map_cons]
/-- The element at a place. -/
def nthK {α : Type} : List α → Nat → (α → Prop) → Prop
  | [], _, _ => False
  | a :: l, i, K => bif i.beq 0 then K a else nthK l (i - 1) K
theorem nthK_ok {α : Type} : ∀ (l : List α) (i : Nat) (K : α → Prop), nthK l i K → ∃ a, l[i]? = some a ∧ K a
  | [], _, _, h => h.elim
  | a :: l, i, K, h => by
    simp only [nthK] at h
    cases i with
    | zero => exact ⟨a, rfl, by simpa using h⟩
    | succ i =>
      have h' : nthK l i K := by simpa using h
      obtain ⟨b, h1, h2⟩ := nthK_ok l i K h'
      exact ⟨b, by simpa using h1, h2⟩
theorem nthK_of {α : Type} : ∀ (l : List α) (i : Nat) (K : α → Prop) (a : α), l[i]? = some a → K a → nthK l i K
  | [], i, K, a, h, _ => by simp at h
  | b :: l, i, K, a, h, hk => by
    simp only [nthK]
    cases i with
    | zero => simp at h; subst h; simpa using hk
    | succ i => simpa using nthK_of l i K a (by simpa using h) hk
theorem nthK.map {α β : Type} {g : α → β} {xs : List α} {i : Nat} {K : β → Prop} (h : i < xs.length) (hk : K (g xs[i])) : nthK (xs.map g) i K := nthK_of _ _ _ (g xs[i]) (by simp [h]) hk
theorem nthK.any {α : Type} {l : List α} {i : Nat} {K : α → Prop} (h : i < l.length) (hk : K l[i]) : nthK l i K := nthK_of _ _ _ l[i] (by simp [h]) hk
/-- A list, one element set. -/
def lsetK {α : Type} (a : α) : List α → Nat → (List α → Prop) → Prop
  | [], _, K => K []
  | b :: l, i, K => bif i.beq 0 then K (a :: l) else lsetK a l (i - 1) fun m => K (b :: m)
theorem lsetK_eq {α : Type} (a : α) : ∀ (l : List α) (i : Nat) (K : List α → Prop), lsetK a l i K = K (l.set i a)
  | [], _, _ => rfl
  | b :: l, i, K => by
    simp only [lsetK]
    cases i with
    | zero => simp
    | succ i => simpa using lsetK_eq a l i _
/-- A list, one element behind it. -/
def snocK {α : Type} (a : α) : List α → (List α → Prop) → Prop
  | [], K => K [a]
  | b :: l, K => snocK a l fun m => K (b :: m)
theorem snocK_eq {α : Type} (a : α) : ∀ (l : List α) (K : List α → Prop), snocK a l K = K (l ++ [a])
  | [], _ => rfl
  | b :: l, K => by simp only [snocK, snocK_eq a l, List.cons_append]
def lenK {α : Type} : List α → Nat → (Nat → Prop) → Prop
  | [], n, K => K n
  | _ :: l, n, K => lenK l (n + 1) K
theorem lenK_eq {α : Type} : ∀ (l : List α) (n : Nat) (K : Nat → Prop), lenK l n K = K (l.length + n)
  | [], n, K => by simp [lenK]
  | _ :: l, n, K => by
    simp only [lenK, lenK_eq l, List.length_cons]
    congr 1
    omega
/-- Both ways (recursive in name alone: so that it stands still as it is where the condition is not known). -/
def bxN : Nat → Prop → Prop → Prop
  | 0, _, Y => Y
  | 1, X, _ => X
  | n + 2, X, Y => bxN n X Y
def bx (b : Bool) (X Y : Prop) : Prop := bxN b.toNat X Y
theorem bxN.split {b : Bool} {X Y : Prop} (h1 : b = true → X) (h0 : b = false → Y) : bxN b.toNat X Y := by
  cases b
  · exact h0 rfl
  · exact h1 rfl
theorem bxN.dec {p : Prop} [Decidable p] {X Y : Prop} (h1 : p → X) (h0 : ¬ p → Y) : bxN (decide p).toNat X Y := .split (fun h => h1 (of_decide_eq_true h)) (fun h => h0 (of_decide_eq_false h))
theorem bxN.ndec {p : Prop} [Decidable p] {X Y : Prop} (h1 : ¬ p → X) (h0 : p → Y) : bxN (!decide p).toNat X Y := .split (fun h => h1 (by simpa using h)) (fun h => h0 (by simpa using h))
theorem bxN.not {b : Bool} {X Y : Prop} (h1 : b = false → X) (h0 : b = true → Y) : bxN (!b).toNat X Y := .split (fun h => h1 (by simpa using h)) (fun h => h0 (by simpa using h))
theorem bx.cases {b : Bool} {X Y : Prop} (h : bx b X Y) : (b = true ∧ X) ∨ (b = false ∧ Y) := by
  cases b
  · exact .inr ⟨rfl, h⟩
  · exact .inl ⟨rfl, h⟩
/-- Two numbers that must be the same. -/
def geK : Nat → Nat → Prop → Prop
  | 0, 0, X => X
  | a + 1, b + 1, X => geK a b X
  | _, _, _ => False
theorem geK.of {a b : Nat} {X : Prop} (h : a = b) (hx : X) : geK a b X := by
  subst h
  induction a with
  | zero => exact hx
  | succ a ih => exact ih
theorem geK.ok : ∀ {a b : Nat} {X : Prop}, geK a b X → a = b ∧ X
  | 0, 0, _, h => ⟨rfl, h⟩
  | a + 1, b + 1, _, h => by
    obtain ⟨h1, h2⟩ := geK.ok (a := a) (b := b) h
    exact ⟨by rw [h1], h2⟩
  | 0, _ + 1, _, h => h.elim
  | _ + 1, 0, _, h => h.elim
/-- The one element of a list. -/
def oneL {α : Type} : List α → (α → Prop) → Prop
  | [], _ => False
  | [a], K => K a
  | _ :: _ :: l, K => oneL l K
end Go.Dev

/- Operations as propositions. -/
set_option linter.unusedVariables false
namespace Go.Dev
open Go.RowKit
variable {H : Heap}

/-- One operation, told by a rule. -/
structure OX (E : Env) (n n0 : Nat) (H : Heap) (ρ : Tr) (o : Oper) (K : DV → Heap → Option Cls → Prop) : Prop where
  of ::
  h : (∃ r : Rec, Rc E n n0 H ρ o r ∧ K r.d r.H (some r.c)) ∨ (∃ d, evN E.P H (opd ρ) o.op = some d ∧ K d H none)
section
variable {E : Env} {n n0 : Nat} {ρ : Tr} {o : Oper} {K : DV → Heap → Option Cls → Prop} {d : DV} {H' : Heap} {c : Cls}
theorem OX.rc (hr : Rc E n n0 H ρ o ⟨d, H', c⟩) (h : K d H' (some c)) : OX E n n0 H ρ o K := .of (.inl ⟨_, hr, h⟩)
theorem OX.val (hv : evN E.P [] (opd ρ) o.op = some d) (h : K d H (some .P)) : OX E n n0 H ρ o K := .rc (Rc.val hv) h
theorem OX.rd (hv : evN E.P H (opd ρ) o.op = some d) (h : K d H none) : OX E n n0 H ρ o K := .of (.inr ⟨_, hv, h⟩)
end

/-- A byte that is computed. -/
structure ArU (z : Int) (K : DV → Prop) : Prop where
  of ::
  h : K (.int .u8 (IntKind.wrap .u8 z))
theorem ArU.ok {z : Int} {K : DV → Prop} (h : 0 ≤ z ∧ z ≤ 255) (hk : K (.int .u8 z)) : ArU z K := .of (by
  rw [show IntKind.wrap .u8 z = z from by simp [IntKind.wrap, IntKind.bits, IntKind.signed]; omega]
  exact hk)
/-- A number that is computed: one of 64 bits must not overflow. -/
def arK (k : IntKind) (z : Int) (K : DV → Prop) : Prop := match k with
  | .i64 => (-9223372036854775808 ≤ z ∧ z ≤ 9223372036854775807) ∧ K (.int .i64 z)
  | .u8 => ArU z K
  | k => K (.int k (k.wrap z))
theorem arK_ok {k : IntKind} {z : Int} {K : DV → Prop} (h : arK k z K) : K (.int k (k.wrap z)) := by
  unfold arK at h
  split at h
  · rw [wrap_ok h.1.1 h.1.2]; exact h.2
  · exact h.h
  · exact h
theorem u8rng (c : UInt8) : -9223372036854775808 ≤ (c.toNat : Int) ∧ (c.toNat : Int) ≤ 9223372036854775807 := by
  have := c.toNat_lt
  omega
def binI (op : BinOp) (k : IntKind) (a b : Int) (K : DV → Prop) : Prop := match op with
  | .add => arK k (a + b) K
  | .sub => arK k (a - b) K
  | .mul => arK k (a * b) K
  | .quo => b ≠ 0 ∧ arK k (a.tdiv b) K
  | .rem => b ≠ 0 ∧ K (.int k (a.tmod b))
  | .eql => K (.bool (decide (a = b)))
  | .neq => K (.bool (decide (a ≠ b)))
  | .lss => K (.bool (decide (a < b)))
  | .leq => K (.bool (decide (a ≤ b)))
  | .gtr => K (.bool (decide (b < a)))
  | .geq => K (.bool (decide (b ≤ a)))
  | op => match intBin op k a b with
    | some d => K d
    | none => False
theorem binI_ok {op : BinOp} {k : IntKind} {a b : Int} {K : DV → Prop} (h : binI op k a b K) : ∃ d, intBin op k a b = some d ∧ K d := by
  have any : ∀ op, (match intBin op k a b with | some d => K d | none => False) → ∃ d, intBin op k a b = some d ∧ K d := fun op h => by
    cases hi : intBin op k a b with
    | none => rw [hi] at h; exact h.elim
    | some d => rw [hi] at h; exact ⟨d, rfl, h⟩
  cases op <;> simp only [binI] at h <;> first
    | exact ⟨_, rfl, arK_ok h⟩
    | exact any _ h
    | skip
  case quo => exact ⟨_, by simp [intBin, h.1], arK_ok h.2⟩
  case rem => exact ⟨_, by simp [intBin, h.1], h.2⟩
  case neq =>
    refine ⟨_, rfl, ?_⟩
    have : (a != b) = decide (a ≠ b) := by by_cases e : a = b <;> simp [e]
    rw [this]; exact h
  all_goals exact ⟨_, rfl, h⟩
def binS (op : BinOp) (a b : List UInt8) (K : DV → Prop) : Prop := match op with
  | .add => a.length + b.length ≤ 9223372036854775807 ∧ K (Str (a ++ b))
  | .eql => K (.bool (decide (a = b)))
  | .neq => K (.bool (decide (a ≠ b)))
  | .lss => K (.bool (Op.bytesLess a b))
  | op => match strBin op ⟨⟨a⟩⟩ ⟨⟨b⟩⟩ with
    | some d => K d
    | none => False
theorem binS_ok {op : BinOp} {a b : List UInt8} {K : DV → Prop} (h : binS op a b K) : ∃ d, strBin op ⟨⟨a⟩⟩ ⟨⟨b⟩⟩ = some d ∧ K d := by
  have any : ∀ op, (match strBin op ⟨⟨a⟩⟩ ⟨⟨b⟩⟩ with | some d => K d | none => False) → ∃ d, strBin op ⟨⟨a⟩⟩ ⟨⟨b⟩⟩ = some d ∧ K d := fun op h => by
    cases hi : strBin op ⟨⟨a⟩⟩ ⟨⟨b⟩⟩ with
    | none => rw [hi] at h; exact h.elim
    | some d => rw [hi] at h; exact ⟨d, rfl, h⟩
  cases op <;> simp only [binS] at h <;> first
    | exact any _ h
    | skip
  case add =>
    refine ⟨Str (a ++ b), ?_, h.2⟩
    have : (⟨⟨a⟩⟩ : ByteArray).size = a.length := rfl
    have h2 : (⟨⟨b⟩⟩ : ByteArray).size = b.length := rfl
    simp only [strBin, this, h2, if_pos h.1]
    rfl
  case eql =>
    refine ⟨_, rfl, ?_⟩
    have : (a == b) = decide (a = b) := by by_cases e : a = b <;> simp [e]
    rw [this]; exact h
  case neq =>
    refine ⟨_, rfl, ?_⟩
    have : (!(a == b)) = decide (a ≠ b) := by by_cases e : a = b <;> simp [e]
    rw [this]; exact h
theorem binV_int {P : Program} {op : BinOp} {t : TypeId} {x y : Operand} {k : IntKind} {a b : Int} (h1 : op ≠ .shl) (h2 : op ≠ .shr) : binV P op t x y (.int k a) (.int k b) = intBin op k a b := by
  cases op <;> simp_all [binV]
theorem binV_str {P : Program} {op : BinOp} {t : TypeId} {x y : Operand} {a b : ByteArray} : binV P op t x y (.str a) (.str b) = strBin op a b := by
  cases op <;> simp [binV]
/-- A number that is a place. -/
structure natK (i : Int) (K : Nat → Prop) : Prop where
  of0 ::
  h : 0 ≤ i ∧ K i.toNat
theorem natK_ok {i : Int} {K : Nat → Prop} (h : natK i K) : 0 ≤ i ∧ K i.toNat := h.h
theorem natK.nn {i : Int} {K : Nat → Prop} (h : 0 ≤ i) (hk : K i.toNat) : natK i K := .of0 ⟨h, hk⟩
theorem natK.of {i : Int} {j : Nat} {K : Nat → Prop} (h : i = (j : Int)) (hk : K j) : natK i K := by subst h; exact .of0 ⟨Int.natCast_nonneg j, hk⟩
theorem natK.cast {j : Nat} {K : Nat → Prop} (hk : K j) : natK (j : Int) K := .of rfl hk
theorem natK.lit {n : Nat} {K : Nat → Prop} (hk : K (OfNat.ofNat n)) : natK (@OfNat.ofNat Int n instOfNat) K := .of rfl hk
theorem natK.add {a b : Nat} {K : Nat → Prop} (hk : K (a + b)) : natK ((a : Int) + (b : Int)) K := .of (by omega) hk
theorem natK.addl {a n : Nat} {K : Nat → Prop} (hk : K (a + OfNat.ofNat n)) : natK ((a : Int) + @OfNat.ofNat Int n instOfNat) K := .of (by simp) hk
theorem natK.sub {a b : Nat} {K : Nat → Prop} (h : b ≤ a) (hk : K (a - b)) : natK ((a : Int) - (b : Int)) K := natK.of (by omega) hk
theorem natK.pred {a : Nat} {K : Nat → Prop} (h : 1 ≤ a) (hk : K (a - 1)) : natK ((a : Int) - 1) K := natK.of (by omega) hk
def szK (a : Option Nat) (b : Nat) (X : Prop) : Prop := match a with
  | some z => geK z b X
  | none => False
theorem szK_ok {a : Option Nat} {b : Nat} {X : Prop} (h : szK a b X) : a = some b ∧ X := by
  unfold szK at h
  split at h
  · obtain ⟨h1, h2⟩ := h.ok; exact ⟨by rw [h1], h2⟩
  · exact h.elim
/-- Part of an element. -/
def partK (P : Program) (t : TypeId) (cs : List DV) (off : Nat) (K : DV → Prop) : Prop := match aggT P t, size P t with
  | some true, some n => bif (off + n).ble cs.length then fcK 9 (.agg ((cs.drop off).take n)) K else False
  | some false, _ => nthK cs off fun d => fcK 9 d K
  | _, _ => False
theorem partK_ok {P : Program} {t : TypeId} {cs : List DV} {off : Nat} {K : DV → Prop} (h : partK P t cs off K) : ∃ d, partOf P t cs off = some d ∧ K d := by
  unfold partK at h
  unfold partOf
  split at h
  · rename_i n h1 h2
    rw [h1, h2]
    cases hb : (off + n).ble cs.length with
    | false => rw [hb] at h; exact h.elim
    | true =>
      rw [hb] at h
      simp only [cond_true, fcK_eq] at h
      refine ⟨_, ?_, h⟩
      simp only
      rw [if_pos (Nat.le_of_ble_eq_true hb)]
  · rename_i h1
    rw [h1]
    obtain ⟨d, h2, h3⟩ := nthK_ok _ _ _ h
    rw [fcK_eq] at h3
    exact ⟨d, h2, h3⟩
  · exact h.elim
def codeO : Ob → List Row
  | .row R => [R]
  | _ => []
def rowK (ob : Ob) (K : List DV → Nat → Nat → Bool → Option TypeId → Prop) : Prop := oneL (codeO ob) fun R => match R with
  | ⟨es, sz, g, fz, ty⟩ => K es sz g fz ty
theorem rowK_ok {ob : Ob} {K : List DV → Nat → Nat → Bool → Option TypeId → Prop} (h : rowK ob K) : ∃ R : Row, ob = .row R ∧ K R.elems R.sz R.g R.fz R.ty := by
  cases ob with
  | row R => exact ⟨R, rfl, h⟩
  | _ => exact h.elim
/-- What the evaluator says. -/
def evX (P : Program) (ρ : Tr) (op : Op) (K : DV → Prop) : Prop := match evN P [] (opd ρ) op with
  | some d => fcK 9 d K
  | none => False
theorem evX_ok {P : Program} {ρ : Tr} {op : Op} {K : DV → Prop} (h : evX P ρ op K) : ∃ d, evN P [] (opd ρ) op = some d ∧ K d := by
  unfold evX at h
  split at h
  · rename_i d hd; rw [fcK_eq] at h; exact ⟨d, hd, h⟩
  · exact h.elim
/-- A length. -/
structure LnK {α : Type} (l : List α) (K : Nat → Prop) : Prop where
  of ::
  h : K l.length
theorem LnK.map {α β : Type} {g : α → β} {xs : List α} {K : Nat → Prop} (h : K xs.length) : LnK (xs.map g) K := .of (by rw [List.length_map]; exact h)
theorem LnK.lit {α : Type} {l : List α} {n : Nat} {K : Nat → Prop} (h : l.length = n) (hk : K n) : LnK l K := .of (by rw [h]; exact hk)
/-- A piece of a list. -/
structure PcK {α : Type} (l : List α) (a : Nat) (b : Option Nat) (K : List α → Prop) : Prop where
  of ::
  h : K (match b with | none => l.drop a | some b => (l.drop a).take (b - a))
theorem PcK.map0 {α β : Type} {g : α → β} {xs : List α} {a : Nat} {K : List β → Prop} (h : K ((xs.drop a).map g)) : PcK (xs.map g) a none K := .of (by simpa only [List.map_drop] using h)
theorem PcK.mapT {α β : Type} {g : α → β} {xs : List α} {b : Nat} {K : List β → Prop} (h : K ((xs.take b).map g)) : PcK (xs.map g) 0 (some b) K := .of (by simpa only [List.map_take, List.drop_zero, Nat.sub_zero] using h)
theorem PcK.map {α β : Type} {g : α → β} {xs : List α} {a b : Nat} {K : List β → Prop} (h : K (((xs.drop a).take (b - a)).map g)) : PcK (xs.map g) a (some b) K := .of (by simpa only [List.map_drop, List.map_take] using h)
/-- Bytes, as data. -/
structure CvK (l : List DV) (K : List UInt8 → Prop) : Prop where
  of ::
  h : ∃ m : List UInt8, l = m.map byteDV ∧ K m
theorem CvK.map {m : List UInt8} {K : List UInt8 → Prop} (h : K m) : CvK (m.map byteDV) K := .of ⟨m, rfl, h⟩
theorem CvK.lit {l : List DV} {m : List UInt8} {K : List UInt8 → Prop} (he : l = m.map byteDV) (h : K m) : CvK l K := .of ⟨m, he, h⟩
/-- A slice that is nil: nil, or a row that is still to come. -/
structure NilK (P : Program) (ty : TypeId) (n0 : Nat) (H : Heap) (K : DV → Heap → Option Cls → Prop) : Prop where
  of ::
  h : K .nils H (some .P) ∨ ∃ e z, P.underlying ty = some (.slice e) ∧ size P e = some z ∧ n0 ≤ H.length ∧ K (.ref H.length 0 0 z 0 0) (H ++ [.slot 0 z]) (some .A)
theorem NilK.nil {P : Program} {ty : TypeId} {n0 : Nat} {K : DV → Heap → Option Cls → Prop} (h : K .nils H (some .P)) : NilK P ty n0 H K := .of (.inl h)
theorem NilK.slot {P : Program} {ty : TypeId} {n0 : Nat} {K : DV → Heap → Option Cls → Prop} {e : TypeId} {z : Nat} (h1 : P.underlying ty = some (.slice e)) (h2 : size P e = some z) (h3 : Nat.ble n0 H.length = true) (h : numK z fun z => lenK H 0 fun k => numK k fun k => snocK (.slot 0 z) H fun H' => K (.ref k 0 0 z 0 0) H' (some .A)) : NilK P ty n0 H K :=
  .of (.inr ⟨e, z, h1, h2, Nat.le_of_ble_eq_true h3, by simpa only [lenK_eq, numK_eq, snocK_eq, Nat.add_zero] using h⟩)
def isNilC : Operand → Bool
  | .const (.slice none 0 0) => true
  | _ => false
/-- Made of data alone. -/
def pureB : Nat → DV → Bool
  | 0, _ => false
  | n + 1, d => match d with
    | .bool _ | .int _ _ | .str _ | .nilp | .nils | .nilm | .nilf | .nili | .imm _ _ | .ipt _ _ => true
    | .agg cs | .tup cs | .fn _ cs => cs.all (pureB n)
    | .iface _ v => pureB n v
    | _ => false
theorem pureB_ok : ∀ (n : Nat) (d : DV), pureB n d = true → Pure d
  | 0, _, h => by cases h
  | n + 1, d, h => by
    cases d with
    | imm sz l => exact .imm _ _
    | ipt e o => exact .ipt _ _
    | agg cs => exact .agg fun c hc => pureB_ok n c (List.all_eq_true.1 h c hc)
    | tup cs => exact .tup fun c hc => pureB_ok n c (List.all_eq_true.1 h c hc)
    | fn f cs => exact .fn fun c hc => pureB_ok n c (List.all_eq_true.1 h c hc)
    | iface t v =>
      intro S μ w x hx
      cases hx with
      | iface _ _ _ hv => exact .iface _ _ _ (pureB_ok n v h _ _ _ _ hv)
    | bool _ => exact (Flt.of rfl).pure
    | int _ _ => exact (Flt.of rfl).pure
    | str _ => exact (Flt.of rfl).pure
    | nilp => exact (Flt.of rfl).pure
    | nils => exact (Flt.of rfl).pure
    | nilm => exact (Flt.of rfl).pure
    | nilf => exact (Flt.of rfl).pure
    | nili => exact (Flt.of rfl).pure
    | _ => cases h
end Go.Dev

/- Operations as propositions: each kind, and why it is so. -/
set_option linter.unusedVariables false
namespace Go.Dev
open Go.RowKit
section
variable (E : Env) (n n0 : Nat) (H : Heap) (ρ : Tr) (o : Oper) (K : DV → Heap → Option Cls → Prop)
def opBin (op : BinOp) (x y : Operand) : Prop := opdK ρ x fun a => opdK ρ y fun b => match a, b with
  | .int k i, .int k' j => (match op with
    | .shl | .shr => evX E.P ρ o.op fun d => K d H (some .P)
    | op => bif decide (k = k') then binI op k i j fun d => K d H (some .P) else False)
  | .str ⟨⟨s⟩⟩, .str ⟨⟨u⟩⟩ => binS op s u fun d => K d H (some .P)
  | .bool _, .bool _ => evX E.P ρ o.op fun d => K d H (some .P)
  | _, _ => OX E n n0 H ρ o K
def opUn (op : UnOp) (x : Operand) : Prop := opdK ρ x fun v => match op, v with
  | .not, .bool b => K (.bool (!b)) H (some .P)
  | .neg, .int k i => arK k (0 - i) fun d => K d H (some .P)
  | _, _ => OX E n n0 H ρ o K
def opPick (c a b : Operand) : Prop := opdK ρ c fun v => match v with
  | .bool q => bx q (opdK ρ a fun d => K d H (some .P)) (opdK ρ b fun d => K d H (some .P))
  | _ => False
def opField (t : TypeId) (x : Operand) (f : Nat) : Prop := opdK ρ x fun v => match v with
  | .agg cs => (match E.P.underlying t with
    | some (.struct fs) => (match fs[f]? with
      | some fd => partK E.P fd.type cs fd.offset fun d => K d H (some .P)
      | none => False)
    | _ => False)
  | _ => False
def opIndex (t : TypeId) (x ix : Operand) : Prop := opdK ρ x fun v => opdK ρ ix fun i => match E.P.underlying t, v, i with
  | some .string, .str ⟨⟨s⟩⟩, .int _ i => natK i fun j => nthK s j fun b => K (.int .u8 (b.toNat : Int)) H (some .P)
  | _, _, _ => evX E.P ρ o.op fun d => K d H (some .P)
def opIxA (t : TypeId) (x ix : Operand) : Prop := opdK ρ x fun v => opdK ρ ix fun i => match E.P.underlying t, v, i with
  | some (.slice e), .imm sz l, .int _ i => natK i fun j => szK (size E.P e) sz (nthK l j fun d => K (.ipt d 0) H (some .P))
  | some (.slice e), .ref r off len sz gg cl, .int _ i => natK i fun j => szK (size E.P e) sz (j < len ∧ bif off.beq 0 then K (.ptr r j 0 sz gg) H (some .P) else K (.ptr r (off + j) 0 sz gg) H (some .P))
  | _, _, _ => evX E.P ρ o.op fun d => K d H (some .P)
def opLoad (t : TypeId) (a : Operand) : Prop := opdK ρ a fun v => match v with
  | .ipt e off => partK E.P t e.cells off fun d => K d H (some .P)
  | .ptr r i off sz gg => nthK H r fun ob => rowK ob fun es sz' g' fz ty => geK g' gg (geK sz' sz (nthK es i fun e => partK E.P t e.cells off fun d => K d H none))
  | _ => False
def opStore (t : TypeId) (a x : Operand) : Prop := opdK ρ a fun v => opdK ρ x fun y => match v with
  | .ptr r i off sz gg => nthK H r fun ob => rowK ob fun es sz' g' fz ty => geK g' gg (geK sz' sz (match fz with
    | true => False
    | false => nthK es i fun e => szK (size E.P t) y.cells.length (bif (y.cells.all DV.one && (off + y.cells.length).ble e.cells.length && !(y.cells.length.beq 0)) then fcK 9 (putCells e off y) fun e' => lsetK e' es i fun es' =>
        lsetK (.row ⟨es', sz', g', false, ty⟩) H r fun H' => K (.tup []) H' (some (bif n0.ble r then .A else .W)) else False)))
  | _ => False
/-- A new row. -/
def newK (ob : Ob) (f : Nat → DV) : Prop := bif n0.ble H.length then lenK H 0 fun k => numK k fun k => snocK ob H fun H' => K (f k) H' (some .A) else False
def opAlloc (t : TypeId) : Prop := match zeroT E.P t, size E.P t with
  | some z, some m => numK m fun m => bif (z.cells.length.beq m && !(m.beq 0) && z.cells.all DV.one) then fcK 9 z fun z => newK n0 H K (.row ⟨[z], m, 0, false, some t⟩) fun k => .ptr k 0 0 m 0 else False
  | _, _ => False
def opBox (t : TypeId) (x : Operand) : Prop := opdK ρ x fun z => match size E.P t with
  | some m => numK m fun m => bif (z.cells.length.beq m && !(m.beq 0) && z.cells.all DV.one) then newK n0 H K (.row ⟨[z], m, 0, false, some t⟩) fun k => .ptr k 0 0 m 0 else False
  | none => False
def opBuild (t : TypeId) (parts : Array (Nat × Operand)) : Prop := match E.P.underlying t, zeroT E.P t with
  | some (.struct fs), some z => bif (!z.isUnd && fs.toList.all (fun fd => (E.P.info? fd.type).isSome)) then
      (match fillP (fun i => (fs[i]?).bind fun fd => (size E.P fd.type).map fun m => (fd.offset, m)) z.cells (parts.toList.map fun p => (p.1, opd ρ p.2)) with
      | some cs => fcK 9 (.agg cs) fun d => K d H (some .P)
      | none => False) else False
  | _, _ => evX E.P ρ o.op fun d => K d H (some .P)
def opBs (bd : Bool) (t : TypeId) (len : Nat) (parts : Array (Nat × Operand)) : Prop := match E.P.underlying t with
  | some (.slice e) => (match size E.P e, zeroT E.P e with
    | some m, some z => numK m fun m => bif ((len * m).ble 16777216 && !(m.beq 0) && z.cells.length.beq m && decide (parts.toList.map (·.1) = List.range len)) then
        opdsK ρ (parts.toList.map (·.2)) fun es => bif es.all (fun d => d.cells.length.beq m && d.cells.all DV.one) then
          (bif bd then (bif es.all (pureB 9) then K (.imm m es) H (some .P) else False) else newK n0 H K (.row ⟨es, m, 0, false, some e⟩) fun k => .ref k 0 len m 0 len) else False
      else False
    | _, _ => False)
  | _ => False
def opConv (bd : Bool) (s t : TypeId) (x : Operand) : Prop := opdK ρ x fun v => match E.P.underlying s, E.P.underlying t, v with
  | some (.slice e), some .string, .imm 1 l => bif isU8T E.P e then CvK l fun m => K (Str m) H (some .P) else False
  | some (.slice _), some .string, .ref .. => OX E n n0 H ρ o K
  | some (.int _), some (.int k), .int _ i => arK k i fun d => K d H (some .P)
  | some .string, some (.slice e), .str ⟨⟨l⟩⟩ => bif isU8T E.P e then szK (size E.P e) 1 (bif bd then K (Byt l) H (some .P) else newK n0 H K (.row ⟨l.map byteDV, 1, 0, false, some e⟩) fun k => .ref k 0 l.length 1 0 l.length) else False
  | some (.slice _), some (.slice e), .ref r off len sz gg cl => bif decide (s = t) && isU8T E.P e && !(cl.beq 0) then nthK H r fun ob => rowK ob fun es sz' g' fz ty => geK g' gg (geK sz' sz (off < es.length ∧ K (.ref r off len sz gg cl) H (some (bif n0.ble r then .A else .W)))) else False
  | _, _, _ => evX E.P ρ o.op fun d => K d H (some .P)
def opLen (args : Array Operand) (ts : Array TypeId) : Prop := match ts[0]?, args[0]? with
  | some t, some x => opdK ρ x fun v => (match E.P.underlying t, v with
    | some .string, .str ⟨⟨s⟩⟩ => K (.int .i64 (s.length : Int)) H (some .P)
    | some (.slice _), .nils => K (.int .i64 0) H (some .P)
    | some (.slice _), .imm _ l => LnK l fun m => K (.int .i64 (m : Int)) H (some .P)
    | some (.slice _), .ref _ _ len _ _ _ => K (.int .i64 (len : Int)) H (some .P)
    | _, _ => OX E n n0 H ρ o K)
  | _, _ => False
def opMin (args : Array Operand) : Prop := match args.toList with
  | [x, y] => opdK ρ x fun a => opdK ρ y fun b => (match a, b with
    | .int k i, .int _ j => K (.int k (min i j)) H (some .P)
    | _, _ => False)
  | _ => False
def opMax (args : Array Operand) : Prop := match args.toList with
  | [x, y] => opdK ρ x fun a => opdK ρ y fun b => (match a, b with
    | .int k i, .int _ j => K (.int k (max i j)) H (some .P)
    | _, _ => False)
  | _ => False
def loK (lo : Option Operand) (K : Option Nat → Prop) : Prop := match lo with
  | none => K none
  | some x => opdK ρ x fun v => match v with
    | .int _ i => natK i fun j => K (some j)
    | _ => False
def opSl (t : TypeId) (x : Operand) (lo hi : Option Operand) : Prop := opdK ρ x fun v => loK ρ lo fun a => loK ρ hi fun b => match E.P.underlying t, v with
  | some .string, .str ⟨⟨s⟩⟩ => (match a, b with
    | none, none => K (Str s) H (some .P)
    | some a, none => a ≤ s.length ∧ K (Str (s.drop a)) H (some .P)
    | none, some b => b ≤ s.length ∧ K (Str (s.take b)) H (some .P)
    | some a, some b => (a ≤ b ∧ b ≤ s.length) ∧ K (Str ((s.drop a).take (b - a))) H (some .P))
  | some (.slice e), .imm sz l => szK (size E.P e) sz (match a, b with
    | none, none => K (.imm sz l) H (some .P)
    | some a, none => LnK l fun m => a ≤ m ∧ PcK l a none fun l' => K (.imm sz l') H (some .P)
    | none, some b => LnK l fun m => b ≤ m ∧ PcK l 0 (some b) fun l' => K (.imm sz l') H (some .P)
    | some a, some b => LnK l fun m => (a ≤ b ∧ b ≤ m) ∧ PcK l a (some b) fun l' => K (.imm sz l') H (some .P))
  | some (.slice e), .nils => (a.getD 0 = 0 ∧ b.getD 0 = 0) ∧ bif (size E.P e).isSome then K .nils H (some .P) else False
  | some (.slice e), .ref r off len sz g cl => szK (size E.P e) sz (match a, b with
    | none, none => len ≤ cl ∧ K (.ref r off len sz g cl) H (some .P)
    | some a, none => (a ≤ len ∧ len ≤ cl) ∧ bif off.beq 0 then K (.ref r a (len - a) sz g (cl - a)) H (some .P) else K (.ref r (off + a) (len - a) sz g (cl - a)) H (some .P)
    | none, some b => b ≤ cl ∧ K (.ref r off b sz g cl) H (some .P)
    | some a, some b => (a ≤ b ∧ b ≤ cl) ∧ bif off.beq 0 then K (.ref r a (b - a) sz g (cl - a)) H (some .P) else K (.ref r (off + a) (b - a) sz g (cl - a)) H (some .P))
  | _, _ => OX E n n0 H ρ o K
/-- One operation; bd: what is made (a list, bytes) is data at once. -/
def opK (bd : Bool) : Prop := match o.op with
  | .move x | .assign x => bif isNilC x then NilK E.P o.type n0 H K else opdK ρ x fun d => K d H (some .P)
  | .binOp op _ x y _ => opBin E n n0 H ρ o K op x y
  | .unOp op _ x => opUn E n n0 H ρ o K op x
  | .pick c a b => opPick H ρ K c a b
  | .nilCheck _ | .fieldAddr .. | .makeInterface .. | .makeFunc .. => evX E.P ρ o.op fun d => K d H (some .P)
  | .extract x i => opdK ρ x fun v => match v with
    | .tup cs => nthK cs i fun d => K d H (some .P)
    | _ => False
  | .field t x f => opField E H ρ K t x f
  | .index t x ix => opIndex E H ρ o K t x ix
  | .indexAddr t x ix => opIxA E H ρ o K t x ix
  | .load t a => opLoad E H ρ K t a
  | .store t a x => opStore E n0 H ρ K t a x
  | .alloc t => opAlloc E n0 H K t
  | .box t x => opBox E n0 H ρ K t x
  | .build t parts => opBuild E H ρ o K t parts
  | .buildSlice t len parts => opBs E n0 H ρ K bd t len parts
  | .convert s t x => opConv E n n0 H ρ o K bd s t x
  | .slice t x lo hi none => opSl E n n0 H ρ o K t x lo hi
  | .makeMap t none => (match E.P.underlying t with
    | some (.map _ _) => newK n0 H K (.map []) fun k => .mp k
    | _ => False)
  | .call { callee := .builtin .len, args, argTypes } => opLen E n n0 H ρ o K args argTypes
  | .call { callee := .builtin .min, args, .. } => opMin H ρ K args
  | .call { callee := .builtin .max, args, .. } => opMax H ρ K args
  | _ => OX E n n0 H ρ o K
end
end Go.Dev

/- Operations as propositions are so. -/
set_option linter.unusedVariables false
namespace Go.Dev
open Go.RowKit
section
variable {E : Env} {n n0 : Nat} {H : Heap} {ρ : Tr} {o : Oper} {K : DV → Heap → Option Cls → Prop}
theorem evX_ox (h : evX E.P ρ o.op fun d => K d H (some .P)) : OX E n n0 H ρ o K := by
  obtain ⟨d, h1, h2⟩ := evX_ok h
  exact .val h1 h2
theorem opBin_ok {op : BinOp} {t u : TypeId} {x y : Operand} (ho : o.op = .binOp op t x y u) (h : opBin E n n0 H ρ o K op x y) : OX E n n0 H ρ o K := by
  unfold opBin at h
  simp only [opdK_eq] at h
  split at h
  · rename_i k i k' j hx hy
    split at h
    · exact evX_ox h
    · exact evX_ox h
    · rename_i op' h1 h2
      cases hk : decide (k = k') with
      | false => rw [hk] at h; exact h.elim
      | true =>
        rw [hk] at h
        obtain rfl := of_decide_eq_true hk
        obtain ⟨d, h3, h4⟩ := binI_ok h
        refine .val (d := d) ?_ h4
        rw [ho]
        simp only [evN, hx, hy, binV_int h1 h2, h3]
  · rename_i s u hx hy
    obtain ⟨d, h3, h4⟩ := binS_ok h
    refine .val (d := d) ?_ h4
    rw [ho]
    simp only [evN, hx, hy, binV_str, h3]
  · exact evX_ox h
  · exact h
theorem opUn_ok {op : UnOp} {t : TypeId} {x : Operand} (ho : o.op = .unOp op t x) (h : opUn E n n0 H ρ o K op x) : OX E n n0 H ρ o K := by
  unfold opUn at h
  simp only [opdK_eq] at h
  split at h
  · rename_i b hx
    exact .val (by rw [ho]; simp only [evN, hx]) h
  · rename_i k i hx
    exact .val (by rw [ho]; simp only [evN, hx]) (arK_ok h)
  · exact h
theorem opPick_ok {c a b : Operand} (ho : o.op = .pick c a b) (h : opPick H ρ K c a b) : OX E n n0 H ρ o K := by
  unfold opPick at h
  simp only [opdK_eq] at h
  split at h
  · rename_i q hx
    rcases h.cases with ⟨rfl, h⟩ | ⟨rfl, h⟩
    · exact .val (by rw [ho]; simp only [evN, hx]) h
    · exact .val (by rw [ho]; simp only [evN, hx]) h
  · exact h.elim
theorem opField_ok {t : TypeId} {x : Operand} {f : Nat} (ho : o.op = .field t x f) (h : opField E H ρ K t x f) : OX E n n0 H ρ o K := by
  unfold opField at h
  simp only [opdK_eq] at h
  split at h
  · rename_i cs hx
    split at h
    · rename_i fs hu
      split at h
      · rename_i fd hf
        obtain ⟨d, h1, h2⟩ := partK_ok h
        exact .val (by rw [ho]; simp only [evN, hu, hx, hf, h1]) h2
      · exact h.elim
    · exact h.elim
  · exact h.elim
theorem opIndex_ok {t : TypeId} {x ix : Operand} (ho : o.op = .index t x ix) (h : opIndex E H ρ o K t x ix) : OX E n n0 H ρ o K := by
  unfold opIndex at h
  simp only [opdK_eq] at h
  split at h
  · rename_i s k i hu hx hi
    obtain ⟨h1, h2⟩ := natK_ok h
    obtain ⟨b, h3, h4⟩ := nthK_ok _ _ _ h2
    exact .val (by rw [ho]; simp only [evN, hu, hx, hi, intOf, if_pos h1, h3, Option.map_some]; rfl) h4
  · exact evX_ox h
theorem opIxA_ok {t : TypeId} {x ix : Operand} (ho : o.op = .indexAddr t x ix) (h : opIxA E H ρ o K t x ix) : OX E n n0 H ρ o K := by
  unfold opIxA at h
  simp only [opdK_eq] at h
  split at h
  · rename_i e sz l k i hu hx hi
    obtain ⟨h1, h2⟩ := natK_ok h
    obtain ⟨h3, h4⟩ := szK_ok h2
    obtain ⟨d, h5, h6⟩ := nthK_ok _ _ _ h4
    exact .val (by rw [ho]; simp only [evN, hu, hx, hi, intOf, h3, if_pos h1, if_true, h5, Option.map_some]) h6
  · rename_i e r off len sz gg cl k i hu hx hi
    obtain ⟨h1, h2⟩ := natK_ok h
    obtain ⟨h3, h4, h5⟩ := szK_ok h2
    refine .val (d := .ptr r (off + i.toNat) 0 sz gg) (by rw [ho]; simp only [evN, hu, hx, hi, intOf, h3, if_pos h1]; rw [if_pos ⟨trivial, h4⟩]) ?_
    cases hb : off.beq 0 with
    | false => rw [hb] at h5; exact h5
    | true =>
      rw [hb] at h5
      obtain rfl := Nat.eq_of_beq_eq_true hb
      rw [Nat.zero_add]
      exact h5
  · exact evX_ox h
theorem opLoad_ok {t : TypeId} {a : Operand} (ho : o.op = .load t a) (h : opLoad E H ρ K t a) : OX E n n0 H ρ o K := by
  unfold opLoad at h
  simp only [opdK_eq] at h
  split at h
  · rename_i e off hx
    obtain ⟨d, h1, h2⟩ := partK_ok h
    exact .val (by rw [ho]; simp only [evN, hx, h1]) h2
  · rename_i r i off sz gg hx
    obtain ⟨ob, h1, h2⟩ := nthK_ok _ _ _ h
    obtain ⟨R, rfl, h3⟩ := rowK_ok h2
    obtain ⟨h4, h5⟩ := h3.ok
    obtain ⟨h6, h7⟩ := h5.ok
    obtain ⟨e, h8, h9⟩ := nthK_ok _ _ _ h7
    obtain ⟨d, h10, h11⟩ := partK_ok h9
    exact .rd (by rw [ho]; simp only [evN, hx, h1, h4, h6, h8, and_self, if_true, Option.bind_some, h10]) h11
  · exact h.elim
theorem clsA (k : Nat) (H H' : Heap) (h : H' = H ∨ ∃ r ob, H' = H.set r ob ∧ k ≤ r) : H'.take k = H.take k := by
  rcases h with rfl | ⟨r, ob, rfl, hr⟩
  · rfl
  · apply List.ext_getElem?
    intro j
    rw [List.getElem?_take, List.getElem?_take]
    split
    · rw [List.getElem?_set_ne (by omega)]
    · rfl
theorem OX.set {d : DV} {r : Nat} {ob : Ob} (h : evE E.P H (opd ρ) o.op = some (d, .set r ob)) (hk : K d (H.set r ob) (some (bif n0.ble r then .A else .W))) : OX E n n0 H ρ o K := by
  cases hb : n0.ble r with
  | false => rw [hb] at hk; exact .rc (Rc.set h) hk
  | true => rw [hb] at hk; exact .rc (Rc.setA h (decide_eq_true (Nat.le_of_ble_eq_true hb))) hk
theorem newK_ok {ob : Ob} {f : Nat → DV} (h : evE E.P H (opd ρ) o.op = some (f H.length, .push ob)) (hk : newK n0 H K ob f) : OX E n n0 H ρ o K := by
  unfold newK at hk
  cases hb : n0.ble H.length with
  | false => rw [hb] at hk; exact hk.elim
  | true =>
    rw [hb] at hk
    simp only [cond_true, lenK_eq, numK_eq, snocK_eq, Nat.add_zero] at hk
    exact .rc (Rc.push h (decide_eq_true (Nat.le_of_ble_eq_true hb))) hk
theorem opStore_ok {t : TypeId} {a x : Operand} (ho : o.op = .store t a x) (h : opStore E n0 H ρ K t a x) : OX E n n0 H ρ o K := by
  unfold opStore at h
  simp only [opdK_eq] at h
  split at h
  · rename_i r i off sz gg hx
    obtain ⟨ob, h1, h2⟩ := nthK_ok _ _ _ h
    obtain ⟨R, rfl, h3⟩ := rowK_ok h2
    obtain ⟨h4, h5⟩ := h3.ok
    obtain ⟨h6, h7⟩ := h5.ok
    split at h7
    · exact h7.elim
    · rename_i hfz
      obtain ⟨e, h8, h9⟩ := nthK_ok _ _ _ h7
      obtain ⟨h10, h11⟩ := szK_ok h9
      cases hb : ((opd ρ x).cells.all DV.one && (off + (opd ρ x).cells.length).ble e.cells.length && !((opd ρ x).cells.length.beq 0)) with
      | false => rw [hb] at h11; exact h11.elim
      | true =>
        rw [hb] at h11
        simp only [cond_true, fcK_eq, lsetK_eq] at h11
        simp only [Bool.and_eq_true, Bool.not_eq_true'] at hb
        have e0 : (opd ρ x).cells.length ≠ 0 := fun e => by rw [e] at hb; simp at hb
        refine .set (d := .tup []) (r := r) (ob := .row { R with elems := R.elems.set i (putCells e off (opd ρ x)) }) ?_ ?_
        · rw [ho]
          simp only [evE, hx, h10, h1, h4, h6, hfz, hb.1.1, h8, Option.bind_some]
          rw [if_pos ⟨trivial, trivial, trivial, trivial, trivial, e0⟩, if_pos (Nat.le_of_ble_eq_true hb.1.2)]
        · have : ({ R with elems := R.elems.set i (putCells e off (opd ρ x)) } : Row) = ⟨R.elems.set i (putCells e off (opd ρ x)), R.sz, R.g, false, R.ty⟩ := by rw [← hfz]
          rw [this]
          exact h11
  · exact h.elim
theorem opAlloc_ok {t : TypeId} (ho : o.op = .alloc t) (h : opAlloc E n0 H K t) : OX E n n0 H ρ o K := by
  unfold opAlloc at h
  split at h
  · rename_i z m hz hs
    rw [numK_eq] at h
    cases hb : (z.cells.length.beq m && !(m.beq 0) && z.cells.all DV.one) with
    | false => rw [hb] at h; exact h.elim
    | true =>
      rw [hb] at h
      simp only [cond_true, fcK_eq] at h
      simp only [Bool.and_eq_true, Bool.not_eq_true'] at hb
      have e0 : m ≠ 0 := fun e => by rw [e] at hb; simp at hb
      refine newK_ok ?_ h
      rw [ho]
      simp only [evE, hz, hs]
      rw [if_pos ⟨Nat.eq_of_beq_eq_true hb.1.1, e0, hb.2⟩]
  · exact h.elim
theorem opBox_ok {t : TypeId} {x : Operand} (ho : o.op = .box t x) (h : opBox E n0 H ρ K t x) : OX E n n0 H ρ o K := by
  unfold opBox at h
  simp only [opdK_eq] at h
  split at h
  · rename_i m hs
    rw [numK_eq] at h
    cases hb : ((opd ρ x).cells.length.beq m && !(m.beq 0) && (opd ρ x).cells.all DV.one) with
    | false => rw [hb] at h; exact h.elim
    | true =>
      rw [hb] at h
      simp only [cond_true] at h
      simp only [Bool.and_eq_true, Bool.not_eq_true'] at hb
      have e0 : m ≠ 0 := fun e => by rw [e] at hb; simp at hb
      refine newK_ok ?_ h
      rw [ho]
      simp only [evE, hs]
      rw [if_pos ⟨Nat.eq_of_beq_eq_true hb.1.1, e0, hb.2⟩]
  · exact h.elim
theorem opBuild_ok {t : TypeId} {parts : Array (Nat × Operand)} (ho : o.op = .build t parts) (h : opBuild E H ρ o K t parts) : OX E n n0 H ρ o K := by
  unfold opBuild at h
  split at h
  · rename_i fs z hu hz
    cases hb : (!z.isUnd && fs.toList.all (fun fd => (E.P.info? fd.type).isSome)) with
    | false => rw [hb] at h; exact h.elim
    | true =>
      rw [hb] at h
      simp only [cond_true] at h
      simp only [Bool.and_eq_true, Bool.not_eq_true'] at hb
      split at h
      · rename_i cs hf
        rw [fcK_eq] at h
        have ha : fs.all (fun fd => (E.P.info? fd.type).isSome) = true := by rw [← Array.all_toList]; exact hb.2
        refine .val (d := .agg cs) ?_ h
        rw [ho]
        simp only [evN, hu, hz, hb.1, Bool.false_eq_true, if_false, hf, Option.bind_some, ha, if_true]
      · exact h.elim
  · exact evX_ox h
/-- Operands that are data alone. -/
def pq (ρ : Tr) (x : Operand) : DV := if pureB 9 (opd ρ x) then opd ρ x else .und
theorem pq_eq {x : Operand} (h : pureB 9 (opd ρ x) = true) : pq ρ x = opd ρ x := if_pos h
/-- What is made out of data alone is data at once. -/
theorem Rc.mkD {r d : DV} {ob : Ob} {us : List Nat} (h : evE E.P [] (pq ρ) o.op = some (r, .push ob)) (hf : Frz [ob] r d us) : Rc E n n0 H ρ o ⟨d, H, .P⟩ := .of <| fun hE => ⟨⟨fun _ => rfl, fun h => by cases h⟩, fun S μ w a HL K Q hH hG hr hR hA hK => by
  unfold Oper.wp
  have hH0 : HR E.NG S mu0 [] w := ⟨⟨fun r R hr => by simp at hr, fun r es hr => by simp at hr⟩, fun _ _ => rfl, fun r r' p p' hl => by have := live_lt hl; simp at this, fun r p hl => by have := live_lt hl; simp at this, hH.ng, hH.st, fun r g sz hr => by simp at hr⟩
  have hg : ∀ x, V S mu0 w (pq ρ x) (a.eval x) := fun x => by
    unfold pq
    split
    · rename_i h'
      exact pureB_ok 9 _ h' _ _ _ _ (hr.opd x)
    · exact .und _
  obtain ⟨v, w', μ', h1, h2, h3, h4, h5⟩ := evE_ok hH0 hg h
  obtain ⟨q1, q2, q3, q4, _⟩ := dropS h2 h3 us
  obtain ⟨k1, k2, _⟩ := ext_ok (w' := w') hH q1 q2 q3 q4 h3.size h3.io
  have hv := hf _ (fun B c => S B c ∨ ∃ r ∈ us, Shows (Eff.on [] (.push ob)) μ' r B c) μ' w' v (h2.toHRd.rows us) (fun _ _ h => Or.inl h) (fun r hr B c h => Or.inr ⟨r, hr, h⟩) h5
  rcases h1 with h1 | ⟨h1, rfl⟩
  · rw [h1]; exact hK v _ μ w' k1 k2 hv.lift
  · rw [h1]; exact hK undef _ μ w' k1 k2 hv.lift⟩
theorem all_mem {α : Type} {p : α → Bool} {l : List α} (h : l.all p = true) {a : α} (ha : a ∈ l) : p a = true := List.all_eq_true.1 h a ha
theorem pureB_cells : ∀ (n : Nat) (d : DV), pureB (n + 1) d = true → ∀ c ∈ d.cells, Pure c
  | n, d, h => by
    cases d with
    | agg cs => exact fun c hc => pureB_ok n c (List.all_eq_true.1 h c hc)
    | _ =>
      intro c hc
      simp only [DV.cells, List.mem_singleton] at hc
      subst hc
      exact pureB_ok _ _ h
theorem opBs_ok {bd : Bool} {t : TypeId} {len : Nat} {parts : Array (Nat × Operand)} (ho : o.op = .buildSlice t len parts) (h : opBs E n0 H ρ K bd t len parts) : OX E n n0 H ρ o K := by
  unfold opBs at h
  split at h
  · rename_i e hu
    split at h
    · rename_i m z hs hz
      rw [numK_eq] at h
      cases hb : ((len * m).ble 16777216 && !(m.beq 0) && z.cells.length.beq m && decide (parts.toList.map (·.1) = List.range len)) with
      | false => rw [hb] at h; exact h.elim
      | true =>
        rw [hb] at h
        simp only [cond_true, opdsK_eq, List.map_map] at h
        simp only [Bool.and_eq_true, Bool.not_eq_true', decide_eq_true_eq] at hb
        have e0 : m ≠ 0 := fun e => by rw [e] at hb; simp at hb
        have hcond : len * m ≤ 16777216 ∧ m ≠ 0 ∧ z.cells.length = m ∧ (parts.toList.map (·.1)) = List.range len := ⟨Nat.le_of_ble_eq_true hb.1.1.1, e0, Nat.eq_of_beq_eq_true hb.1.2, hb.2⟩
        have hlen : parts.toList.length = len := by simpa using congrArg List.length hb.2
        have hes : (parts.toList.map (opd ρ ∘ fun x => x.2)) = parts.toList.map fun p => opd ρ p.2 := rfl
        rw [hes] at h
        cases ha : ((parts.toList.map fun p => opd ρ p.2).all (fun d => d.cells.length.beq m && d.cells.all DV.one)) with
        | false => rw [ha] at h; exact h.elim
        | true =>
          rw [ha] at h
          simp only [cond_true] at h
          have ha' : ((parts.toList.map fun p => opd ρ p.2).all (fun d => d.cells.length = m && d.cells.all DV.one)) = true := by
            rw [List.all_eq_true] at ha ⊢
            intro d hd
            have := ha d hd
            simp only [Bool.and_eq_true, decide_eq_true_eq] at this ⊢
            exact ⟨Nat.eq_of_beq_eq_true this.1, this.2⟩
          cases bd with
          | false =>
            simp only [cond_false] at h
            refine newK_ok ?_ h
            rw [ho]
            simp only [evE, hu, hs, hz]
            rw [if_pos hcond]
            simp only [ha', if_true]
          | true =>
            simp only [cond_true] at h
            cases hp : ((parts.toList.map fun p => opd ρ p.2).all (pureB 9)) with
            | false => rw [hp] at h; exact h.elim
            | true =>
              rw [hp] at h
              have hpq : (parts.toList.map fun p => pq ρ p.2) = parts.toList.map fun p => opd ρ p.2 := List.map_congr_left fun p hp' => pq_eq (all_mem hp (List.mem_map.2 ⟨p, hp', rfl⟩))
              refine .rc (Rc.mkD (r := .ref 0 0 len m 0 len) (ob := .row ⟨parts.toList.map fun p => opd ρ p.2, m, 0, false, some e⟩) (us := [0]) ?_ (Frz.ref rfl rfl rfl (by simp only [List.length_map]; omega) ?_)) h
              · rw [ho]
                simp only [evE, hu, hs, hz]
                rw [if_pos hcond]
                simp only [hpq, ha', if_true, List.length_nil]
              · rw [List.drop_zero, List.take_of_length_le (by simp only [List.length_map]; omega)]
                exact FrzR.pure fun e he => pureB_cells 8 e (all_mem hp he)
    · exact h.elim
  · exact h.elim
theorem isU8T_u {e : TypeId} (h : isU8T E.P e = true) : E.P.underlying e = some (.int .u8) := by
  unfold isU8T at h
  split at h
  · assumption
  · cases h
theorem opConv_ok {bd : Bool} {s t : TypeId} {x : Operand} (ho : o.op = .convert s t x) (h : opConv E n n0 H ρ o K bd s t x) : OX E n n0 H ρ o K := by
  unfold opConv at h
  simp only [opdK_eq] at h
  split at h
  · rename_i e l hs ht hx
    cases hb : isU8T E.P e with
    | false => rw [hb] at h; exact h.elim
    | true =>
      rw [hb] at h
      obtain ⟨m, rfl, h2⟩ := CvK.h h
      refine .val (d := Str m) ?_ h2
      rw [ho]
      exact evN_cvt hs ht (isU8T_u hb) hx rfl rfl
  · exact h
  · rename_i k0 k k1 i hs ht hx
    exact .val (by rw [ho]; simp only [evN, hs, ht, hx]) (arK_ok h)
  · rename_i e l hs ht hx
    cases hb : isU8T E.P e with
    | false => rw [hb] at h; exact h.elim
    | true =>
      rw [hb] at h
      obtain ⟨h1, h2⟩ := szK_ok h
      cases bd with
      | false =>
        refine newK_ok ?_ h2
        rw [ho]
        simp only [evE, hs, ht, hx]
        rw [if_pos ⟨hb, h1⟩]
      | true =>
        have hq : pq ρ x = .str ⟨⟨l⟩⟩ := by rw [pq_eq (by rw [hx]; rfl), hx]
        refine .rc (Rc.mkD (r := .ref 0 0 l.length 1 0 l.length) (ob := .row ⟨l.map byteDV, 1, 0, false, some e⟩) (us := [0]) ?_ (Frz.refM Plain.byte rfl rfl)) h2
        rw [ho]
        simp only [evE, hs, ht, hq]
        rw [if_pos ⟨hb, h1⟩]
        rfl
  · rename_i e0 e r off len sz gg cl hs ht hx
    cases hb : (decide (s = t) && isU8T E.P e && !(cl.beq 0)) with
    | false => rw [hb] at h; exact h.elim
    | true =>
      rw [hb] at h
      simp only [Bool.and_eq_true, Bool.not_eq_true', decide_eq_true_eq] at hb
      have e0 : cl ≠ 0 := fun e => by rw [e] at hb; simp at hb
      obtain ⟨ob, h1, h2⟩ := nthK_ok _ _ _ h
      obtain ⟨R, rfl, h3⟩ := rowK_ok h2
      obtain ⟨h4, h5⟩ := h3.ok
      obtain ⟨h6, h7, h8⟩ := h5.ok
      refine .set (d := .ref r off len sz gg cl) (r := r) (ob := .row R) ?_ ?_
      · rw [ho]
        simp only [evE, hs, ht, hx]
        rw [if_pos ⟨hb.1.1, hb.1.2, e0⟩]
        simp only [h1]
        rw [if_pos ⟨h4, h6, h7⟩]
      · have : H.set r (.row R) = H := by
          apply List.ext_getElem?
          intro j
          rw [List.getElem?_set]
          split
          · rename_i e
            subst e
            rw [if_pos (List.getElem?_eq_some_iff.1 h1).1, h1]
          · rfl
        rw [this]
        exact h8
  · exact evX_ox h
theorem opLen_ok {args : Array Operand} {ts : Array TypeId} (ho : o.op = .call { callee := .builtin .len, args := args, argTypes := ts }) (h : opLen E n n0 H ρ o K args ts) : OX E n n0 H ρ o K := by
  unfold opLen at h
  split at h
  · rename_i t x ht hx
    simp only [opdK_eq] at h
    split at h
    · rename_i s hu hv
      exact .val (by rw [ho]; simp only [evN, ht, hx, hu, hv]) h
    · rename_i e hu hv
      exact .val (by rw [ho]; simp only [evN, ht, hx, hu, hv]) h
    · rename_i e z l hu hv
      exact .val (by rw [ho]; simp only [evN, ht, hx, hu, hv]) h.h
    · rename_i e r off len sz g cl hu hv
      exact .val (by rw [ho]; simp only [evN, ht, hx, hu, hv]) h
    · exact h
  · exact h.elim
theorem opMin_ok {args : Array Operand} {ts : Array TypeId} (ho : o.op = .call { callee := .builtin .min, args := args, argTypes := ts }) (h : opMin H ρ K args) : OX E n n0 H ρ o K := by
  unfold opMin at h
  split at h
  · rename_i x y hxy
    simp only [opdK_eq] at h
    split at h
    · rename_i k i k' j hx hy
      refine .val (d := .int k (min i j)) ?_ h
      rw [ho]
      simp only [evN, hxy, List.map_cons, List.map_nil, hx, hy]
      congr 2
      split <;> omega
    · exact h.elim
  · exact h.elim
theorem opMax_ok {args : Array Operand} {ts : Array TypeId} (ho : o.op = .call { callee := .builtin .max, args := args, argTypes := ts }) (h : opMax H ρ K args) : OX E n n0 H ρ o K := by
  unfold opMax at h
  split at h
  · rename_i x y hxy
    simp only [opdK_eq] at h
    split at h
    · rename_i k i k' j hx hy
      refine .val (d := .int k (max i j)) ?_ h
      rw [ho]
      simp only [evN, hxy, List.map_cons, List.map_nil, hx, hy]
      congr 2
      split <;> omega
    · exact h.elim
  · exact h.elim
theorem loK_ok {lo : Option Operand} {K : Option Nat → Prop} (h : loK ρ lo K) (d : Nat) : ∃ a, K a ∧ bound d (lo.map (opd ρ)) = some (a.getD d) ∧ a.isSome = lo.isSome := by
  unfold loK at h
  split at h
  · exact ⟨none, h, rfl, rfl⟩
  · simp only [opdK_eq] at h
    split at h
    · rename_i k i hx
      obtain ⟨h1, h2⟩ := natK_ok h
      exact ⟨some i.toNat, h2, by simp [bound, hx, h1], rfl⟩
    · exact h.elim
theorem opSl_ok {t : TypeId} {x : Operand} {lo hi : Option Operand} (ho : o.op = .slice t x lo hi none) (h : opSl E n n0 H ρ o K t x lo hi) : OX E n n0 H ρ o K := by
  unfold opSl at h
  simp only [opdK_eq] at h
  have two : ∃ a b, (∀ d, bound d (lo.map (opd ρ)) = some (a.getD d)) ∧ (∀ d, bound d (hi.map (opd ρ)) = some (b.getD d)) ∧ (match E.P.underlying t, opd ρ x with
      | some .string, .str ⟨⟨s⟩⟩ => (match a, b with
        | none, none => K (Str s) H (some .P)
        | some a, none => a ≤ s.length ∧ K (Str (s.drop a)) H (some .P)
        | none, some b => b ≤ s.length ∧ K (Str (s.take b)) H (some .P)
        | some a, some b => (a ≤ b ∧ b ≤ s.length) ∧ K (Str ((s.drop a).take (b - a))) H (some .P))
      | some (.slice e), .imm sz l => szK (size E.P e) sz (match a, b with
        | none, none => K (.imm sz l) H (some .P)
        | some a, none => LnK l fun m => a ≤ m ∧ PcK l a none fun l' => K (.imm sz l') H (some .P)
        | none, some b => LnK l fun m => b ≤ m ∧ PcK l 0 (some b) fun l' => K (.imm sz l') H (some .P)
        | some a, some b => LnK l fun m => (a ≤ b ∧ b ≤ m) ∧ PcK l a (some b) fun l' => K (.imm sz l') H (some .P))
      | some (.slice e), .nils => (a.getD 0 = 0 ∧ b.getD 0 = 0) ∧ bif (size E.P e).isSome then K .nils H (some .P) else False
      | some (.slice e), .ref r off len sz g cl => szK (size E.P e) sz (match a, b with
        | none, none => len ≤ cl ∧ K (.ref r off len sz g cl) H (some .P)
        | some a, none => (a ≤ len ∧ len ≤ cl) ∧ bif off.beq 0 then K (.ref r a (len - a) sz g (cl - a)) H (some .P) else K (.ref r (off + a) (len - a) sz g (cl - a)) H (some .P)
        | none, some b => b ≤ cl ∧ K (.ref r off b sz g cl) H (some .P)
        | some a, some b => (a ≤ b ∧ b ≤ cl) ∧ bif off.beq 0 then K (.ref r a (b - a) sz g (cl - a)) H (some .P) else K (.ref r (off + a) (b - a) sz g (cl - a)) H (some .P))
      | _, _ => OX E n n0 H ρ o K) := by
    have key : ∀ (lo : Option Operand) (F : Option Nat → Prop), loK ρ lo F → ∃ a, F a ∧ ∀ d, bound d (lo.map (opd ρ)) = some (a.getD d) := fun lo F h => by
      unfold loK at h
      split at h
      · exact ⟨none, h, fun _ => rfl⟩
      · simp only [opdK_eq] at h
        split at h
        · rename_i k i hx
          obtain ⟨h1, h2⟩ := natK_ok h
          exact ⟨some i.toNat, h2, fun d => by simp [bound, hx, h1]⟩
        · exact h.elim
    obtain ⟨a, h1, h2⟩ := key lo _ h
    obtain ⟨b, h3, h4⟩ := key hi _ h1
    exact ⟨a, b, h2, h4, h3⟩
  clear h
  obtain ⟨a, b, ha, hb, h⟩ := two
  have hn : (none : Option Operand).map (opd ρ) = none := rfl
  split at h
  · rename_i s hu hx
    have hsz : (⟨⟨s⟩⟩ : ByteArray).size = s.length := rfl
    have main : ∀ (p q : Nat), a.getD 0 = p → b.getD s.length = q → p ≤ q → q ≤ s.length → K (Str ((s.drop p).take (q - p))) H (some .P) → OX E n n0 H ρ o K := fun p q e1 e2 e3 e4 e5 => by
      refine .val ?_ e5
      rw [ho]
      simp only [evN, slices, hu, hx, hn, Option.isSome_none, Bool.false_eq_true, if_false, hsz, ha, hb, e1, e2, Option.bind_some]
      rw [if_pos ⟨e3, e4⟩]
      rfl
    split at h
    · exact main 0 s.length rfl rfl (Nat.zero_le _) (Nat.le_refl _) (by simpa using h)
    · rename_i p
      exact main p s.length rfl rfl h.1 (Nat.le_refl _) (by rw [List.take_of_length_le (by simp)]; exact h.2)
    · rename_i q
      exact main 0 q rfl rfl (Nat.zero_le _) h.1 (by simpa using h.2)
    · rename_i p q
      exact main p q rfl rfl h.1.1 h.1.2 h.2
  · rename_i e sz l hu hx
    have h' := szK_ok h
    clear h
    obtain ⟨hz, h⟩ := h'
    have main : ∀ (p q : Nat) (l' : List DV), a.getD 0 = p → b.getD l.length = q → p ≤ q → q ≤ l.length → (l.drop p).take (q - p) = l' → K (.imm sz l') H (some .P) → OX E n n0 H ρ o K := fun p q l' e1 e2 e3 e4 e6 e5 => by
      refine .val ?_ e5
      rw [ho]
      simp only [evN, slices, hu, hx, hz, hn, bound_none, if_true, ha, hb, e1, e2, Option.bind_some]
      rw [if_pos ⟨e3, e4, Nat.le_refl _, .inl rfl⟩, e6]
    split at h
    · exact main 0 l.length l rfl rfl (Nat.zero_le _) (Nat.le_refl _) (by simp) h
    · rename_i p
      exact main p l.length _ rfl rfl h.h.1 (Nat.le_refl _) (List.take_of_length_le (by simp)) h.h.2.h
    · rename_i q
      exact main 0 q _ rfl rfl (Nat.zero_le _) h.h.1 rfl h.h.2.h
    · rename_i p q
      exact main p q _ rfl rfl h.h.1.1 h.h.1.2 rfl h.h.2.h
  · rename_i e hu hx
    obtain ⟨⟨h1, h2⟩, h⟩ := h
    cases hs : (size E.P e).isSome with
    | false => rw [hs] at h; exact h.elim
    | true =>
      rw [hs] at h
      refine .val (d := .nils) ?_ h
      rw [ho]
      simp only [evN, slices, hu, hx, hn, bound_none, ha, hb, h1, h2, hs, Option.bind_some]
      rw [if_pos ⟨trivial, trivial, trivial, .inl rfl, trivial⟩]
  · rename_i e r off len sz g cl hu hx
    have h' := szK_ok h
    clear h
    obtain ⟨hz, h⟩ := h'
    have main : ∀ (p q : Nat), a.getD 0 = p → b.getD len = q → p ≤ q → q ≤ cl → K (.ref r (off + p) (q - p) sz g (cl - p)) H (some .P) → OX E n n0 H ρ o K := fun p q e1 e2 e3 e4 e5 => by
      refine .val ?_ e5
      rw [ho]
      simp only [evN, slices, hu, hx, hz, hn, bound_none, if_true, ha, hb, e1, e2, Option.bind_some]
      rw [if_pos ⟨e3, e4, Nat.le_refl _, .inl rfl⟩]
    have off0 : ∀ p q c, (bif off.beq 0 then K (.ref r p q sz g c) H (some .P) else K (.ref r (off + p) q sz g c) H (some .P)) → K (.ref r (off + p) q sz g c) H (some .P) := fun p q c h => by
      cases hb : off.beq 0 with
      | false => rw [hb] at h; exact h
      | true =>
        rw [hb] at h
        obtain rfl := Nat.eq_of_beq_eq_true hb
        rw [Nat.zero_add]
        exact h
    split at h
    · exact main 0 len rfl rfl (Nat.zero_le _) h.1 (by simpa using h.2)
    · rename_i p
      exact main p len rfl rfl h.1.1 h.1.2 (off0 _ _ _ h.2)
    · rename_i q
      exact main 0 q rfl rfl (Nat.zero_le _) h.1 (by simpa using h.2)
    · rename_i p q
      exact main p q rfl rfl h.1.1 h.1.2 (off0 _ _ _ h.2)
  · exact h
theorem Rc.slot {t e : TypeId} {z : Nat} {x : Operand} (hn : isNilC x = true) (ho : o.op = .move x ∨ o.op = .assign x) (h0 : n0 ≤ H.length) : Rc E n n0 H ρ o ⟨.ref H.length 0 0 z 0 0, H ++ [.slot 0 z], .A⟩ := .of <| fun hE => ⟨⟨fun h => (by cases h), fun _ => List.take_append_of_le_length h0⟩, fun S μ w a HL K Q hH hG hr hR hA hK => by
  have hl := hA rfl
  subst hl
  have hx : opd ρ x = .nils := by
    unfold isNilC at hn
    split at hn
    · rfl
    · cases hn
  have he : evN E.P [] (opd ρ) o.op = some .nils := by rcases ho with ho | ho <;> rw [ho] <;> simp only [evN, hx]
  unfold Oper.wp
  obtain ⟨v, h1, h2⟩ := evN_ok (HRd.nil (w := w)) hr.opd he
  rw [h1]
  cases h2
  obtain ⟨k1, k2, k3⟩ := push_ok (w' := w) hH (o := .slot 0 z) (p := ⟨w.heap.size, 0, 0, 0, z⟩) (fun _ _ => rfl) (Nat.le_refl _) (Io.refl _) (Nat.le_refl _) ⟨rfl, rfl, rfl⟩
  exact hK _ S _ w k1 k2 (.ref _ _ _ _ _ _ none 0 _ (put_self _ _ _) (Nat.le_refl _) (Nat.le_refl _) (Nat.le_refl _) (fun _ => ⟨rfl, Nat.le_refl _, .inl rfl⟩) (fun _ => rfl))⟩
theorem opK_ok {bd : Bool} (h : opK E n n0 H ρ o K bd) : OX E n n0 H ρ o K := by
  unfold opK at h
  have mv : ∀ x, (o.op = .move x ∨ o.op = .assign x) → (bif isNilC x then NilK E.P o.type n0 H K else opdK ρ x fun d => K d H (some .P)) → OX E n n0 H ρ o K := fun x ho h => by
    cases hb : isNilC x with
    | false =>
      rw [hb] at h
      simp only [cond_false, opdK_eq] at h
      exact .val (by rcases ho with ho | ho <;> rw [ho] <;> rfl) h
    | true =>
      rw [hb] at h
      have hx : opd ρ x = .nils := by
        unfold isNilC at hb
        split at hb
        · rfl
        · cases hb
      rcases NilK.h h with h | ⟨e, z, h1, h2, h3, h4⟩
      · exact .val (by rcases ho with ho | ho <;> rw [ho] <;> simp only [evN, hx]) h
      · exact .rc (Rc.slot (t := o.type) (e := e) hb ho h3) h4
  split at h
  · exact mv _ (.inl (by assumption)) h
  · exact mv _ (.inr (by assumption)) h
  · exact opBin_ok (by assumption) h
  · exact opUn_ok (by assumption) h
  · exact opPick_ok (by assumption) h
  · exact evX_ox h
  · exact evX_ox h
  · exact evX_ox h
  · exact evX_ox h
  · rename_i x i ho
    simp only [opdK_eq] at h
    split at h
    · rename_i cs hx
      obtain ⟨d, h1, h2⟩ := nthK_ok _ _ _ h
      exact .val (by rw [ho]; simp only [evN, hx, h1]) h2
    · exact h.elim
  · exact opField_ok (by assumption) h
  · exact opIndex_ok (by assumption) h
  · exact opIxA_ok (by assumption) h
  · exact opLoad_ok (by assumption) h
  · exact opStore_ok (by assumption) h
  · exact opAlloc_ok (by assumption) h
  · exact opBox_ok (by assumption) h
  · exact opBuild_ok (by assumption) h
  · exact opBs_ok (by assumption) h
  · exact opConv_ok (by assumption) h
  · exact opSl_ok (by assumption) h
  · rename_i t ho
    split at h
    · rename_i a b hu
      refine newK_ok ?_ h
      rw [ho]
      simp only [evE, hu, Option.map_some]
    · exact h.elim
  · exact opLen_ok (by assumption) h
  · exact opMin_ok (by assumption) h
  · exact opMax_ok (by assumption) h
  · exact h
end
end Go.Dev

/- Regions and code as propositions. -/
set_option linter.unusedVariables false
namespace Go.Dev
open Go.RowKit
variable {H : Heap}
def memN (t : Nat) : List Nat → Bool
  | [] => false
  | u :: l => bif u.beq t then true else memN t l
/-- The registers that tell whether others are wanted. -/
def gdsK (ops : Array Oper) : List Oper → (List Nat → Prop) → Prop
  | [], K => K []
  | o :: l, K => match o.guard with
    | none => gdsK ops l K
    | some g => match (ops[g.1]?).bind (·.dst) with
      | some t => gdsK ops l fun m => bif memN t m then K m else K (t :: m)
      | none => gdsK ops l K
theorem gdsK_ok (ops : Array Oper) : ∀ (l : List Oper) (K : List Nat → Prop), gdsK ops l K → ∃ m, K m
  | [], K, h => ⟨_, h⟩
  | o :: l, K, h => by
    unfold gdsK at h
    split at h
    · exact gdsK_ok ops l K h
    · split at h
      · rename_i t _
        obtain ⟨m, h⟩ := gdsK_ok ops l _ h
        cases hb : memN t m with
        | true => rw [hb] at h; exact ⟨_, h⟩
        | false => rw [hb] at h; exact ⟨_, h⟩
      · exact gdsK_ok ops l K h
/-- A result, put. -/
def putX (gds : List Nat) (ρ : Tr) (dst : Option Tmp) (d : DV) (k : Tr → Prop) : Prop := match dst with
  | none => k ρ
  | some t => bif memN t gds then (match d with
    | .bool b => bx b (setK (.bool true) (t + 1) ρ t k) (setK (.bool false) (t + 1) ρ t k)
    | d => setK d (t + 1) ρ t k) else setK d (t + 1) ρ t k
theorem putX_ok {gds : List Nat} {ρ : Tr} {dst : Option Tmp} {d : DV} {k : Tr → Prop} (h : putX gds ρ dst d k) : k (putD ρ dst d) := by
  unfold putX at h
  split at h
  · exact h
  · rename_i t
    have e : ∀ d, setK d (t + 1) ρ t k → k (putD ρ (some t) d) := fun d h => by rw [setK_eq] at h; exact h
    cases hb : memN t gds with
    | false => rw [hb] at h; exact e _ h
    | true =>
      rw [hb] at h
      simp only [cond_true] at h
      split at h
      · rcases h.cases with ⟨rfl, h⟩ | ⟨rfl, h⟩
        · exact e _ h
        · exact e _ h
      · exact e _ h
/-- Is what an operation makes used so that it may be data at once? -/
def usesT (t : Nat) (x : Operand) : Bool := match x with
  | .tmp u => u.beq t
  | _ => false
def badUse (t : Nat) (o : Oper) : Bool := match o.op with
  | .convert _ _ x => usesT t x
  | .call { callee := .builtin .append, args, .. } => match args.toList with
    | x :: _ => usesT t x
    | [] => false
  | .call { callee := .builtin .copy, args, .. } => match args.toList with
    | x :: _ => usesT t x
    | [] => false
  | .assign x => usesT t x
  | _ => false
def bdOf (o : Oper) (l : List Oper) : Bool := match o.op with
  | .buildSlice _ 0 _ => false
  | .buildSlice .. | .convert .. => match o.dst with
    | some t => !(l.any (badUse t))
    | none => false
  | _ => true
section
variable (E : Env) (n n0 : Nat) (ops : Array Oper) (gds : List Nat)
/-- The operations of a region in their order. -/
def sx : List Oper → Tr → Heap → (Tr → Heap → Prop) → Prop
  | [], ρ, H, N => N ρ H
  | o :: l, ρ, H, N => bif dstOk n o then (match wantA ops ρ o with
    | some true => opK E n 0 H ρ o (fun d H' _ => putX gds ρ o.dst d fun ρ' => sx l ρ' H' N) (bdOf o l)
    | some false => putX [] ρ o.dst (.tup []) fun ρ' => sx l ρ' H N
    | none => False) else False
theorem OX.elim {o : Oper} {ρ : Tr} {K : DV → Heap → Option Cls → Prop} (h : OX E n 0 H ρ o K) : ∃ r c, Rc E n 0 H ρ o r ∧ K r.d r.H c := by
  rcases h.h with ⟨r, h1, h2⟩ | ⟨d, h1, h2⟩
  · exact ⟨r, _, h1, h2⟩
  · exact ⟨⟨d, H, .A⟩, _, Rc.a h1, h2⟩
theorem sx_ok {N : Tr → Heap → Prop} : ∀ (l : List Oper) (ρ : Tr) (H : Heap), sx E n ops gds l ρ H N → WS E n ops l (ρ, H) fun s => N s.1 s.2
  | [], ρ, H, h => .nil h
  | o :: l, ρ, H, h => by
    unfold sx at h
    cases hd : dstOk n o with
    | false => rw [hd] at h; exact h.elim
    | true =>
      rw [hd] at h
      simp only [cond_true] at h
      split at h
      · rename_i hw
        obtain ⟨r, c, h1, h2⟩ := OX.elim E n (opK_ok h)
        exact .step hd hw h1 (sx_ok l _ _ (putX_ok h2))
      · rename_i hw
        exact .skip hd hw (sx_ok l _ _ (putX_ok h))
      · exact h.elim
/-- A read that must give the same whenever it is done. -/
structure Mark where
  i : Nat
  ρ : Tr
  op : Op
  d : DV
/-- A heap that a read may find: what it gives there; or it comes ahead in every order. -/
structure MkA (P : Program) (al : List Nat) (m : Mark) (H : Heap) (j : Nat) (X : Prop) : Prop where
  of ::
  h : evN P H (opd m.ρ) m.op = some m.d ∨ (al.getD j 0).testBit m.i = true
  x : X
theorem MkA.same {P : Program} {al : List Nat} {m : Mark} {j : Nat} {X : Prop} (h : evN P H (opd m.ρ) m.op = some m.d) (x : X) : MkA P al m H j X := ⟨.inl h, x⟩
theorem MkA.anc {P : Program} {al : List Nat} {m : Mark} {j : Nat} {X : Prop} (h : (al.getD j 0).testBit m.i = true) (x : X) : MkA P al m H j X := ⟨.inr h, x⟩
def markH (P : Program) (al : List Nat) (m : Mark) : List Rec → Nat → Prop
  | [], _ => True
  | r :: l, j => bif r.c.aw then MkA P al m r.H j (markH P al m l (j + 1)) else markH P al m l (j + 1)
def marks (P : Program) (al : List Nat) (s0 : St) (rs : List Rec) : List Mark → Prop
  | [] => True
  | m :: ms => (evN P s0.2 (opd m.ρ) m.op = some m.d ∧ markH P al m rs 0) ∧ marks P al s0 rs ms
theorem markH_ok {P : Program} {al : List Nat} {m : Mark} : ∀ (rs : List Rec) (j : Nat), markH P al m rs j → ∀ p ∈ rs.zipIdx j, (p.1.c.aw && !((al.getD p.2 0).testBit m.i)) = true → evN P p.1.H (opd m.ρ) m.op = some m.d
  | [], _, _, p, hp, _ => by simp at hp
  | r :: l, j, h, p, hp, hc => by
    simp only [List.zipIdx_cons, List.mem_cons] at hp
    unfold markH at h
    rcases hp with rfl | hp
    · simp only [Bool.and_eq_true, Bool.not_eq_true'] at hc
      rw [hc.1] at h
      rcases h.h with h1 | h1
      · exact h1
      · rw [hc.2] at h1; cases h1
    · refine markH_ok l (j + 1) ?_ p hp hc
      cases hb : r.c.aw with
      | true => rw [hb] at h; exact h.x
      | false => rw [hb] at h; exact h
theorem marks_mem {P : Program} {al : List Nat} {s0 : St} {rs : List Rec} : ∀ (ms : List Mark), marks P al s0 rs ms → ∀ m ∈ ms, ∀ h ∈ heapsOf al s0 rs m.i, evN P h (opd m.ρ) m.op = some m.d
  | [], _, m, hm, _, _ => by cases hm
  | x :: ms, h, m, hm, Hh, hh => by
    rcases List.mem_cons.1 hm with rfl | hm
    · rcases List.mem_cons.1 hh with rfl | hh
      · exact h.1.1
      · obtain ⟨p, hp, rfl⟩ := List.mem_map.1 hh
        obtain ⟨hp1, hp2⟩ := List.mem_filter.1 hp
        exact markH_ok rs 0 h.1.2 p hp1 hp2
    · exact marks_mem ms h.2 m hm Hh hh
/-- At the end of a region whose order is open. -/
structure EndW (P : Program) (s0 : St) (pre : List Rec) (ms : List Mark) (X : Prop) : Prop where
  of ::
  h1 : pairsK ops (pre.map (·.c)) = true
  h2 : marks P (ancsOf ops) s0 pre ms
  h3 : X
def rsK (ρ : Tr) : List Nat → Tr → (Tr → Prop) → Prop
  | [], t, K => K t
  | i :: l, t, K => getK ρ i fun d => setK d (i + 1) t i fun t' => rsK ρ l t' K
theorem rsK_eq (ρ : Tr) : ∀ (l : List Nat) (t : Tr) (K : Tr → Prop), rsK ρ l t K = K (l.foldl (fun t i => t.set i (ρ.get i)) t)
  | [], _, _ => rfl
  | i :: l, t, K => by simp only [rsK, getK_eq, setK_eq, rsK_eq ρ l, List.foldl_cons]; rfl
/-- The operations of a region whose order is open. -/
def wx (s0 : St) : List Oper → Tr → Heap → List Rec → List Mark → (Tr → Heap → Prop) → Prop
  | [], ρ, H, pre, ms, N => EndW ops E.P s0 pre ms (N ρ H)
  | o :: l, ρ, H, pre, ms, N => bif dstOk n o then rsK ρ (looks ops o) .e fun ρr => (match wantA ops ρr o with
    | some true => opK E n n0 H ρr o (fun d H' c => putX gds ρ o.dst d fun ρ' => match c with
        | some c => snocK ⟨d, H', c⟩ pre fun pre' => wx s0 l ρ' H' pre' ms N
        | none => lenK pre 0 fun i => snocK ⟨d, H, .P⟩ pre fun pre' => wx s0 l ρ' H' pre' (⟨i, ρr, o.op, d⟩ :: ms) N) (bdOf o l)
    | some false => putX [] ρ o.dst (.tup []) fun ρ' => snocK ⟨.tup [], H, .P⟩ pre fun pre' => wx s0 l ρ' H pre' ms N
    | none => False) else False
/-- What is so of a region whose order is open, told up to a place. -/
structure WQ (s0 : St) (l : List Oper) (s : St) (pre : List Rec) (ms : List Mark) (N : St → Prop) : Prop where
  of ::
  run : E.Ok → ∃ rs, RecsOK E.P E.G E.NG n n0 (fun i => heapsOf (ancsOf ops) s0 (pre ++ rs) (pre.length + i)) ops l s rs ∧ pairsK ops ((pre ++ rs).map (·.c)) = true ∧ marks E.P (ancsOf ops) s0 (pre ++ rs) ms ∧ N (lastSt l rs s)
theorem recs_cons' {E : Env} {n n0 : Nat} {ops : Array Oper} {o : Oper} {l : List Oper} {ρ : Tr} {H : Heap} {r : Rec} {rs : List Rec} {hs : Nat → List Heap} (hd : dstOk n o = true)
    (hc : (wantA ops (rstr ρ (looks ops o)) o = some false ∧ r = ⟨.tup [], H, .P⟩) ∨ (wantA ops (rstr ρ (looks ops o)) o = some true ∧ RecAt E.P E.G E.NG n n0 H (rstr ρ (looks ops o)) o r) ∨ (wantA ops (rstr ρ (looks ops o)) o = some true ∧ r.c = .P ∧ r.H = H ∧ ∀ H' ∈ hs 0, evN E.P H' (opd (rstr ρ (looks ops o))) o.op = some r.d))
    (h : RecsOK E.P E.G E.NG n n0 (fun i => hs (i + 1)) ops l (putD ρ o.dst r.d, r.H) rs) : RecsOK E.P E.G E.NG n n0 hs ops (o :: l) (ρ, H) (r :: rs) := by
  obtain ⟨a1, a2, a3⟩ := h
  refine ⟨by simp [a1], by simp only [lastSt, List.length_cons, stN]; exact a2, fun i o' r' ho hr => ?_⟩
  cases i with
  | zero =>
    simp at ho hr
    subst ho hr
    exact ⟨hd, hc⟩
  | succ i => exact a3 i o' r' (by simpa using ho) (by simpa using hr)
theorem wx_ok {s0 : St} {N : Tr → Heap → Prop} : ∀ (l : List Oper) (ρ : Tr) (H : Heap) (pre : List Rec) (ms : List Mark), wx E n n0 ops gds s0 l ρ H pre ms N → WQ E n n0 ops s0 l (ρ, H) pre ms fun s => N s.1 s.2
  | [], ρ, H, pre, ms, h => .of fun hE => ⟨[], ⟨rfl, rfl, fun i o r ho => by simp at ho⟩, by simpa using h.h1, by simpa using h.h2, h.h3⟩
  | o :: l, ρ, H, pre, ms, h => .of fun hE => by
    unfold wx at h
    cases hd : dstOk n o with
    | false => rw [hd] at h; exact h.elim
    | true =>
      rw [hd] at h
      simp only [cond_true, rsK_eq] at h
      have er : (looks ops o).foldl (fun t i => t.set i (ρ.get i)) .e = rstr ρ (looks ops o) := rfl
      rw [er] at h
      -- the rest, behind a record
      have rest : ∀ (r : Rec) (ms' : List Mark), wx E n n0 ops gds s0 l (putD ρ o.dst r.d) r.H (pre ++ [r]) ms' N →
          ∃ rs, RecsOK E.P E.G E.NG n n0 (fun i => heapsOf (ancsOf ops) s0 (pre ++ (r :: rs)) (pre.length + (i + 1))) ops l (putD ρ o.dst r.d, r.H) rs ∧ pairsK ops ((pre ++ (r :: rs)).map (·.c)) = true ∧ marks E.P (ancsOf ops) s0 (pre ++ (r :: rs)) ms' ∧ N (lastSt l rs (putD ρ o.dst r.d, r.H)).1 (lastSt l rs (putD ρ o.dst r.d, r.H)).2 := fun r ms' hx => by
        obtain ⟨rs, k1, k2, k3, k4⟩ := (wx_ok l _ _ _ _ hx).run hE
        have ea : pre ++ [r] ++ rs = pre ++ (r :: rs) := by simp
        rw [ea] at k1 k2 k3
        refine ⟨rs, ?_, k2, k3, k4⟩
        have ei : (fun i => heapsOf (ancsOf ops) s0 (pre ++ (r :: rs)) ((pre ++ [r]).length + i)) = fun i => heapsOf (ancsOf ops) s0 (pre ++ (r :: rs)) (pre.length + (i + 1)) := by
          funext i
          congr 1
          simp
          omega
        rw [ei] at k1
        exact k1
      split at h
      · rename_i hw
        rcases (opK_ok h).h with ⟨r, h1, h2⟩ | ⟨d, h1, h2⟩
        · have h3 := putX_ok h2
          simp only [snocK_eq] at h3
          obtain ⟨rs, k1, k2, k3, k4⟩ := rest r ms h3
          exact ⟨r :: rs, recs_cons' hd (.inr (.inl ⟨hw, h1.run hE⟩)) k1, k2, k3, k4⟩
        · have h3 := putX_ok h2
          simp only [snocK_eq, lenK_eq, Nat.add_zero] at h3
          obtain ⟨rs, k1, k2, k3, k4⟩ := rest ⟨d, H, .P⟩ _ h3
          exact ⟨⟨d, H, .P⟩ :: rs, recs_cons' hd (.inr (.inr ⟨hw, rfl, rfl, fun H' hH' => marks_mem _ k3 ⟨pre.length, rstr ρ (looks ops o), o.op, d⟩ (by simp) H' hH'⟩)) k1, k2, k3.2, k4⟩
      · rename_i hw
        have h3 := putX_ok h
        simp only [snocK_eq] at h3
        obtain ⟨rs, k1, k2, k3, k4⟩ := rest ⟨.tup [], H, .P⟩ ms h3
        exact ⟨⟨.tup [], H, .P⟩ :: rs, recs_cons' hd (.inl ⟨hw, rfl⟩) k1, k2, k3, k4⟩
      · exact h.elim
end
section
variable {E : Env} {n n0 : Nat} {ops : Array Oper} {A : Ex → St → Prop} {N : St → Prop} {s : St}
theorem T.openQ {id : Nat} (hb : backEdges ops = true) (h : WQ E n s.2.length ops s ops.toList s [] [] N) : T E n (.region id ops true) s N A := .of <| fun hE S0 μ0 H0 w0 hb0 a w Q hinv hn _ => by
  obtain ⟨rs, h1, h2, h3, h4⟩ := h.run hE
  simp only [List.nil_append, List.length_nil, Nat.zero_add] at h1 h2 h3
  have hp : allPairs ops (ancsOf ops) (ops.toList.zip rs) = true := pairsF_ok (by unfold pairsF; rw [forceL_eq]; exact h2)
  have hmem0 : ∀ (i j : Nat) r, rs[j]? = some r → r.c.aw = true → ((ancsOf ops).getD j 0).testBit i = false → r.H ∈ heapsOf (ancsOf ops) s rs i := fun i j r hr ha hb => by
    refine List.mem_cons_of_mem _ (List.mem_map.2 ⟨(r, j), List.mem_filter.2 ⟨?_, by simp only [ha, hb]; rfl⟩, rfl⟩)
    exact List.mem_of_getElem? (i := j) (by rw [List.getElem?_zipIdx, hr]; simp)
  exact draw_core (C := E.C) hE.W noCall_ok n id (hs := heapsOf (ancsOf ops) s rs) ⟨hE.mixed, hb⟩ ⟨fun i => List.mem_cons_self, hmem0⟩ h1 hp S0 μ0 H0 w0 a w Q hinv fun a w hi => hn _ a w h4 hi
end
/-- A region whose order is open. -/
structure OpenK (E : Env) (n : Nat) (ops : Array Oper) (ρ : Tr) (H : Heap) (N : Tr → Heap → Prop) : Prop where
  of ::
  hb : backEdges ops = true
  h : gdsK ops ops.toList fun gds => lenK H 0 fun k => wx E n k ops gds (ρ, H) ops.toList ρ H [] [] N
def outK (id : Nat) (N : Tr → Heap → Prop) (A : Ex → Tr → Heap → Prop) (e : Ex) (ρ : Tr) (H : Heap) : Prop := match e with
  | .exit i => bif i.beq id then N ρ H else A (.exit i) ρ H
  | e => A e ρ H
/-- A loop. -/
structure LoopK (E : Env) (n : Nat) (c : Code) (ρ : Tr) (H : Heap) (N : Tr → Heap → Prop) (A : Ex → Tr → Heap → Prop) : Prop where
  of ::
  h : T E n (.loop c) (ρ, H) (fun s => N s.1 s.2) (fun e s => A e s.1 s.2)
/-- Behind this, ways may meet. -/
def isJn : Code → Bool
  | .block .. => true
  | .seq _ (.cond ..) => true
  | _ => false
/-- Code, and what is behind it, where ways may meet. -/
structure JoinK (E : Env) (n : Nat) (a b : Code) (ρ : Tr) (H : Heap) (N : Tr → Heap → Prop) (A : Ex → Tr → Heap → Prop) : Prop where
  of ::
  h : T E n (.seq a b) (ρ, H) (fun s => N s.1 s.2) (fun e s => A e s.1 s.2)
/-- Code. -/
def tx (E : Env) (n : Nat) : Code → Tr → Heap → (Tr → Heap → Prop) → (Ex → Tr → Heap → Prop) → Prop
  | .skip, ρ, H, N, _ => N ρ H
  | .label _, ρ, H, N, _ => N ρ H
  | .region _ ops false, ρ, H, N, _ => gdsK ops ops.toList fun gds => sx E n ops gds ops.toList ρ H N
  | .region _ ops true, ρ, H, N, _ => OpenK E n ops ρ H N
  | .seq a b, ρ, H, N, A => bif isJn a then JoinK E n a b ρ H N A else tx E n a ρ H (fun ρ H => tx E n b ρ H N A) A
  | .cond c a b, ρ, H, N, A => opdK ρ c fun v => match v with
    | .bool q => bx q (tx E n a ρ H N A) (tx E n b ρ H N A)
    | _ => False
  | .block id c, ρ, H, N, A => tx E n c ρ H N (outK id N A)
  | .loop c, ρ, H, N, A => LoopK E n c ρ H N A
  | .exit id, ρ, H, _, A => A (.exit id) ρ H
  | .ret, ρ, H, _, A => A .ret ρ H
  | .scope c, ρ, H, N, A => tx E n c ρ H N A
  | _, _, _, _, _ => False
theorem tx_ok {E : Env} {n : Nat} : ∀ (c : Code) (ρ : Tr) (H : Heap) (N : Tr → Heap → Prop) (A : Ex → Tr → Heap → Prop), tx E n c ρ H N A → T E n c (ρ, H) (fun s => N s.1 s.2) (fun e s => A e s.1 s.2)
  | .skip, ρ, H, N, A, h => .skip h
  | .label _, ρ, H, N, A, h => .label h
  | .region _ ops false, ρ, H, N, A, h => by
    obtain ⟨gds, h⟩ := gdsK_ok _ _ _ h
    exact .region (sx_ok E n ops gds _ _ _ h)
  | .region _ ops true, ρ, H, N, A, h => by
    obtain ⟨gds, h1⟩ := gdsK_ok _ _ _ (OpenK.h h)
    rw [lenK_eq, Nat.add_zero] at h1
    exact .openQ (OpenK.hb h) (wx_ok E n H.length ops gds _ _ _ _ _ h1)
  | .seq a b, ρ, H, N, A, h => by
    unfold tx at h
    cases hj : isJn a with
    | true => rw [hj] at h; exact JoinK.h h
    | false => rw [hj] at h; exact .seq ((tx_ok a ρ H _ A h).mono (fun s hs => tx_ok b s.1 s.2 N A hs) (fun _ _ h => h))
  | .cond c a b, ρ, H, N, A, h => by
    unfold tx at h
    rw [opdK_eq] at h
    split at h
    · rename_i q hq
      rcases h.cases with ⟨rfl, h⟩ | ⟨rfl, h⟩
      · exact .condT hq (tx_ok a ρ H N A h)
      · exact .condF hq (tx_ok b ρ H N A h)
    · exact h.elim
  | .block id c, ρ, H, N, A, h => .block ((tx_ok c ρ H N _ h).mono (fun _ h => h) (fun e s h => by
      cases e with
      | exit i =>
        show (if i = id then N s.1 s.2 else A (.exit i) s.1 s.2)
        have h' : (bif i.beq id then N s.1 s.2 else A (.exit i) s.1 s.2) := h
        cases hb : i.beq id with
        | true => rw [hb] at h'; rw [if_pos (Nat.eq_of_beq_eq_true hb)]; exact h'
        | false => rw [hb] at h'; rw [if_neg (Nat.ne_of_beq_eq_false hb)]; exact h'
      | _ => exact h))
  | .loop c, ρ, H, N, A, h => LoopK.h h
  | .exit id, ρ, H, N, A, h => .exit h
  | .ret, ρ, H, N, A, h => .ret h
  | .scope c, ρ, H, N, A, h => .scope (tx_ok c ρ H N A h)
  | .rangeFunc .., _, _, _, _, h => h.elim
  | .goto _, _, _, _, _, h => h.elim
  | .refuse _, _, _, _, _, h => h.elim
theorem JoinK.go {E : Env} {n : Nat} {a b : Code} {ρ : Tr} {H : Heap} {N : Tr → Heap → Prop} {A : Ex → Tr → Heap → Prop} (h : tx E n a ρ H (fun ρ H => tx E n b ρ H N A) A) : JoinK E n a b ρ H N A := .of <| .seq ((tx_ok a ρ H _ A h).mono (fun s hs => tx_ok b s.1 s.2 N A hs) (fun _ _ h => h))
end Go.Dev

/- Loops, calls, lists that are made, functions. -/
set_option linter.unusedVariables false
namespace Go.Dev
open Go.RowKit
variable {H : Heap}
/-! Registers and rows at a loop's head -/
def mkK : List (Nat × DV) → Tr → (Tr → Prop) → Prop
  | [], t, K => K t
  | (k, d) :: l, t, K => setK d (k + 1) t k fun t' => mkK l t' K
def mkT : List (Nat × DV) → Tr → Tr
  | [], t => t
  | (k, d) :: l, t => mkT l (t.set k d)
theorem mkK_eq : ∀ (l : List (Nat × DV)) (t : Tr) (K : Tr → Prop), mkK l t K = K (mkT l t)
  | [], _, _ => rfl
  | (k, d) :: l, t, K => by simp only [mkK, setK_eq, mkK_eq l]; rfl
theorem mkT_get {ρ : Tr} : ∀ (l : List (Nat × DV)) (t : Tr), Has ρ l → (∀ k, t.get k = .und ∨ t.get k = ρ.get k) → ∀ k, (mkT l t).get k = .und ∨ (mkT l t).get k = ρ.get k
  | [], t, _, h, k => h k
  | (u, d) :: l, t, hh, h, k => by
    refine mkT_get l _ hh.2 (fun j => ?_) k
    rw [Tr.get_set]
    by_cases e : j = u
    · subst e; rw [if_pos rfl]; exact .inr hh.1.symm
    · rw [if_neg e]; exact h j
theorem e_get (k : Nat) : Tr.get .e k = .und := rfl
def keepK (ρ : Tr) : List Nat → (List (Nat × DV) → Prop) → Prop
  | [], K => K []
  | t :: l, K => getK ρ t fun d => keepK ρ l fun m => K ((t, d) :: m)
theorem keepK_ok (ρ : Tr) : ∀ (l : List Nat) (K : List (Nat × DV) → Prop), keepK ρ l K → ∃ m, Has ρ m ∧ K m
  | [], K, h => ⟨[], trivial, h⟩
  | t :: l, K, h => by
    simp only [keepK, getK_eq] at h
    obtain ⟨m, h1, h2⟩ := keepK_ok ρ l _ h
    exact ⟨(t, ρ.get t) :: m, ⟨rfl, h1⟩, h2⟩
def spK {α : Type} : List α → (List α → Prop) → Prop
  | [], K => K []
  | a :: l, K => spK l fun m => K (a :: m)
theorem spK_eq {α : Type} : ∀ (l : List α) (K : List α → Prop), spK l K = K l
  | [], _ => rfl
  | a :: l, K => by simp only [spK, spK_eq l]
theorem Has.app {ρ : Tr} : ∀ (a b : List (Nat × DV)), Has ρ a → Has ρ b → Has ρ (a ++ b)
  | [], _, _, h => h
  | (k, d) :: a, b, h1, h2 => ⟨h1.1, Has.app a b h1.2 h2⟩
theorem mkT_app : ∀ (a b : List (Nat × DV)) (t : Tr), mkT b (mkT a t) = mkT (a ++ b) t
  | [], _, _ => rfl
  | (k, d) :: a, b, t => mkT_app a b _
section
variable {E : Env} {n : Nat} {c : Code} {ρ : Tr} {N : Tr → Heap → Prop} {A : Ex → Tr → Heap → Prop} {α : Type}
/-- At the end of a round. -/
structure BackU (ok : α → Prop) (R : α → List (Nat × DV)) (hp : α → Heap) (m : α → Nat) (x : α) (Kp : List (Nat × DV)) (ρ : Tr) (H : Heap) : Prop where
  of0 ::
  h : ∃ y, ok y ∧ m y < m x ∧ Has ρ (R y) ∧ Has ρ Kp ∧ HeapLe (hp y) H
theorem BackU.of {ok : α → Prop} {R : α → List (Nat × DV)} {hp : α → Heap} {m : α → Nat} {x : α} {Kp : List (Nat × DV)} {ρ : Tr} (y : α) (h1 : ok y) (h2 : m y < m x) (h3 : Has ρ (R y)) (h4 : Has ρ Kp) (h5 : HeapLe (hp y) H) : BackU ok R hp m x Kp ρ H := .of0 ⟨y, h1, h2, h3, h4, h5⟩
/-- A loop: registers that change (R x), registers that are kept, rows (hp x). -/
structure ForU (E : Env) (n : Nat) (c : Code) (ρ : Tr) (H : Heap) (N : Tr → Heap → Prop) (A : Ex → Tr → Heap → Prop) (ok : α → Prop) (R : α → List (Nat × DV)) (hp : Heap → α → Heap) (m : α → Nat) (x0 : α) (Kp : List (Nat × DV)) : Prop where
  of ::
  h0 : ok x0
  hr : Has ρ (R x0)
  hh : HeapLe (hp H x0) H
  hbody : ∀ x, ok x → mkK Kp .e fun t => mkK (R x) t fun ρ' => spK (hp H x) fun H' => tx E n c ρ' H' (BackU ok R (hp H) m x Kp) A
theorem LoopK.forU (ks : List Nat) (ok : α → Prop) (R : α → List (Nat × DV)) (hp : Heap → α → Heap) (m : α → Nat) (x0 : α) (h : keepK ρ ks fun Kp => ForU E n c ρ H N A ok R hp m x0 Kp) : LoopK E n c ρ H N A := .of <| by
  obtain ⟨Kp, hK, h⟩ := keepK_ok ρ ks _ h
  have le : ∀ (y : α) (ρ1 : Tr) (H1 : Heap), Has ρ1 (R y) → Has ρ1 Kp → HeapLe (hp H y) H1 → Le (mkT (R y) (mkT Kp .e), hp H y) (ρ1, H1) := fun y ρ1 H1 h1 h2 h3 => ⟨fun t => by
    show (mkT (R y) (mkT Kp .e)).get t = .und ∨ (mkT (R y) (mkT Kp .e)).get t = ρ1.get t
    rw [mkT_app]
    exact mkT_get _ .e (Has.app _ _ h2 h1) (fun k => .inl (e_get k)) t, h3.1, h3.2⟩
  refine T.loop (fun k s' => ∃ x, ok x ∧ m x = k ∧ s' = (mkT (R x) (mkT Kp .e), hp H x)) (m x0) ⟨_, le x0 ρ H h.hr hK h.hh, x0, h.h0, rfl, rfl⟩ fun k s' ⟨x, hx, hk, e⟩ => ?_
  subst e hk
  have hb := h.hbody x hx
  simp only [mkK_eq, spK_eq] at hb
  exact (tx_ok c _ _ _ _ hb).mono (fun s1 hs => by
    obtain ⟨y, h1, h2, h3, h4, h5⟩ := hs.h
    exact ⟨_, le y s1.1 s1.2 h3 h4 h5, m y, h2, y, h1, rfl, rfl⟩) (fun _ _ h => h)
/-- The same, where rounds leave rows behind that nobody uses. -/
structure BackK (ok : α → Prop) (R : α → List (Nat × DV)) (hp : α → Heap) (m : α → Nat) (x : α) (Kp : List (Nat × DV)) (ρ : Tr) (H : Heap) : Prop where
  of0 ::
  h : ∃ y, ok y ∧ m y < m x ∧ Has ρ (R y) ∧ Has ρ Kp ∧ HeapLe (hp y) (H.take (hp y).length) ∧ (hp y).length ≤ H.length
theorem BackK.of {ok : α → Prop} {R : α → List (Nat × DV)} {hp : α → Heap} {m : α → Nat} {x : α} {Kp : List (Nat × DV)} {ρ : Tr} (y : α) (h1 : ok y) (h2 : m y < m x) (h3 : Has ρ (R y)) (h4 : Has ρ Kp) (h5 : HeapLe (hp y) (H.take (hp y).length)) (h6 : (hp y).length.ble H.length = true) : BackK ok R hp m x Kp ρ H := .of0 ⟨y, h1, h2, h3, h4, h5, Nat.le_of_ble_eq_true h6⟩
structure ForK (E : Env) (n : Nat) (c : Code) (ρ : Tr) (H : Heap) (N : Tr → Heap → Prop) (A : Ex → Tr → Heap → Prop) (ok : α → Prop) (R : α → List (Nat × DV)) (hp : Heap → α → Heap) (m : α → Nat) (x0 : α) (Kp : List (Nat × DV)) : Prop where
  of ::
  h0 : ok x0
  hr : Has ρ (R x0)
  hh : HeapLe (hp H x0) (H.take (hp H x0).length) ∧ (hp H x0).length.ble H.length = true
  hb : ∀ x, ok x → E.b.ble (hp H x).length = true ∧ BdL (hp H x).length Kp ∧ BdL (hp H x).length (R x) ∧ BdH (hp H x).length (hp H x)
  hbody : ∀ x, ok x → mkK Kp .e fun t => mkK (R x) t fun ρ' => spK (hp H x) fun H' => tx E n c ρ' H' (BackK ok R (hp H) m x Kp) A
theorem BdL.app {k : Nat} : ∀ (a b : List (Nat × DV)), BdL k a → BdL k b → BdL k (a ++ b)
  | [], _, _, h => h
  | p :: a, b, h1, h2 => ⟨h1.1, BdL.app a b h1.2 h2⟩
theorem mkT_bd {k : Nat} : ∀ (l : List (Nat × DV)) (t : Tr), BdL k l → (∀ j, Bd k (t.get j)) → ∀ j, Bd k ((mkT l t).get j)
  | [], _, _, h, j => h j
  | (u, d) :: l, t, hl, h, j => by
    refine mkT_bd l _ hl.2 (fun j => ?_) j
    rw [Tr.get_set]
    split
    · exact hl.1
    · exact h j
theorem LoopK.forK (ks : List Nat) (ok : α → Prop) (R : α → List (Nat × DV)) (hp : Heap → α → Heap) (m : α → Nat) (x0 : α) (h : keepK ρ ks fun Kp => ForK E n c ρ H N A ok R hp m x0 Kp) : LoopK E n c ρ H N A := .of <| by
  obtain ⟨Kp, hK, h⟩ := keepK_ok ρ ks _ h
  have le : ∀ (y : α), ok y → ∀ (ρ1 : Tr) (H1 : Heap), Has ρ1 (R y) → Has ρ1 Kp → HeapLe (hp H y) (H1.take (hp H y).length) → (hp H y).length ≤ H1.length → LeT E.b (mkT (R y) (mkT Kp .e), hp H y) (ρ1, H1) := fun y hy ρ1 H1 h1 h2 h3 h4 => by
    obtain ⟨b1, b2, b3, b4⟩ := h.hb y hy
    refine ⟨hp H y ++ H1.drop (hp H y).length, ⟨fun t => ?_, by simp; omega, fun i o ho => ?_⟩, by simp, by simp, Nat.le_of_ble_eq_true b1, ?_, b4.mem⟩
    · show (mkT (R y) (mkT Kp .e)).get t = .und ∨ (mkT (R y) (mkT Kp .e)).get t = ρ1.get t
      rw [mkT_app]
      exact mkT_get _ .e (Has.app _ _ h2 h1) (fun k => .inl (e_get k)) t
    · by_cases hi : i < (hp H y).length
      · rw [List.getElem?_append_left hi] at ho
        rcases h3.2 i o ho with e | e
        · exact .inl e
        · rw [List.getElem?_take, if_pos hi] at e
          exact .inr e
      · rw [List.getElem?_append_right (by omega), List.getElem?_drop] at ho
        exact .inr (by rw [← ho]; congr 1; omega)
    · show ∀ t, Bd (hp H y).length ((mkT (R y) (mkT Kp .e)).get t)
      rw [mkT_app]
      exact mkT_bd _ .e (BdL.app _ _ b2 b3) (fun _ => .und)
  refine T.loopT (fun k s' => ∃ x, ok x ∧ m x = k ∧ s' = (mkT (R x) (mkT Kp .e), hp H x)) (m x0) ⟨_, le x0 h.h0 ρ H h.hr hK h.hh.1 (Nat.le_of_ble_eq_true h.hh.2), x0, h.h0, rfl, rfl⟩ fun k s' ⟨x, hx, hk, e⟩ => ?_
  subst e hk
  have hb := h.hbody x hx
  simp only [mkK_eq, spK_eq] at hb
  exact (tx_ok c _ _ _ _ hb).mono (fun s1 hs => by
    obtain ⟨y, h1, h2, h3, h4, h5, h6⟩ := hs.h
    exact ⟨_, le y h1 s1.1 s1.2 h3 h4 h5 h6, m y, h2, y, h1, rfl, rfl⟩) (fun _ _ h => h)
/-! Where ways meet -/
/-- At the end of what is ahead. -/
structure JU (ok : α → Prop) (R : α → List (Nat × DV)) (hp : α → Heap) (Kp : List (Nat × DV)) (ρ : Tr) (H : Heap) : Prop where
  of0 ::
  h : ∃ y, ok y ∧ Has ρ (R y) ∧ Has ρ Kp ∧ HeapLe (hp y) H
theorem JU.of {ok : α → Prop} {R : α → List (Nat × DV)} {hp : α → Heap} {Kp : List (Nat × DV)} {ρ : Tr} (y : α) (h1 : ok y) (h3 : Has ρ (R y)) (h4 : Has ρ Kp) (h5 : HeapLe (hp y) H) : JU ok R hp Kp ρ H := .of0 ⟨y, h1, h3, h4, h5⟩
structure JoinU (E : Env) (n : Nat) (a b : Code) (ρ : Tr) (H : Heap) (N : Tr → Heap → Prop) (A : Ex → Tr → Heap → Prop) (ok : α → Prop) (R : α → List (Nat × DV)) (hp : Heap → α → Heap) (Kp : List (Nat × DV)) : Prop where
  of ::
  ha : tx E n a ρ H (JU ok R (hp H) Kp) A
  hb : ∀ x, ok x → mkK Kp .e fun t => mkK (R x) t fun ρ' => spK (hp H x) fun H' => tx E n b ρ' H' N A
theorem JoinK.joinU {b : Code} (ks : List Nat) (ok : α → Prop) (R : α → List (Nat × DV)) (hp : Heap → α → Heap) (h : keepK ρ ks fun Kp => JoinU E n c b ρ H N A ok R hp Kp) : JoinK E n c b ρ H N A := .of <| by
  obtain ⟨Kp, hK, h⟩ := keepK_ok ρ ks _ h
  refine .seq ((tx_ok c ρ H _ A h.ha).mono (fun s hs => ?_) (fun _ _ h => h))
  obtain ⟨y, h1, h3, h4, h5⟩ := hs.h
  have hb := h.hb y h1
  simp only [mkK_eq, spK_eq] at hb
  refine T.weak (s' := (mkT (R y) (mkT Kp .e), hp H y)) ⟨fun t => ?_, h5.1, h5.2⟩ (tx_ok b _ _ _ _ hb)
  show (mkT (R y) (mkT Kp .e)).get t = .und ∨ (mkT (R y) (mkT Kp .e)).get t = s.1.get t
  rw [mkT_app]
  exact mkT_get _ .e (Has.app _ _ h4 h3) (fun k => .inl (e_get k)) t
/-- The same, where rows are left behind that nobody uses. -/
structure JV (ok : α → Prop) (R : α → List (Nat × DV)) (hp : α → Heap) (Kp : List (Nat × DV)) (ρ : Tr) (H : Heap) : Prop where
  of0 ::
  h : ∃ y, ok y ∧ Has ρ (R y) ∧ Has ρ Kp ∧ HeapLe (hp y) (H.take (hp y).length) ∧ (hp y).length ≤ H.length
theorem JV.of {ok : α → Prop} {R : α → List (Nat × DV)} {hp : α → Heap} {Kp : List (Nat × DV)} {ρ : Tr} (y : α) (h1 : ok y) (h3 : Has ρ (R y)) (h4 : Has ρ Kp) (h5 : HeapLe (hp y) (H.take (hp y).length)) (h6 : (hp y).length.ble H.length = true) : JV ok R hp Kp ρ H := .of0 ⟨y, h1, h3, h4, h5, Nat.le_of_ble_eq_true h6⟩
structure JoinV (E : Env) (n : Nat) (a b : Code) (ρ : Tr) (H : Heap) (N : Tr → Heap → Prop) (A : Ex → Tr → Heap → Prop) (ok : α → Prop) (R : α → List (Nat × DV)) (hp : Heap → α → Heap) (Kp : List (Nat × DV)) : Prop where
  of ::
  hb0 : ∀ x, ok x → E.b.ble (hp H x).length = true ∧ BdL (hp H x).length Kp ∧ BdL (hp H x).length (R x) ∧ BdH (hp H x).length (hp H x)
  ha : tx E n a ρ H (JV ok R (hp H) Kp) A
  hb : ∀ x, ok x → mkK Kp .e fun t => mkK (R x) t fun ρ' => spK (hp H x) fun H' => tx E n b ρ' H' N A
theorem JoinK.joinV {b : Code} (ks : List Nat) (ok : α → Prop) (R : α → List (Nat × DV)) (hp : Heap → α → Heap) (h : keepK ρ ks fun Kp => JoinV E n c b ρ H N A ok R hp Kp) : JoinK E n c b ρ H N A := .of <| by
  obtain ⟨Kp, hK, h⟩ := keepK_ok ρ ks _ h
  refine .seq ((tx_ok c ρ H _ A h.ha).mono (fun s hs => ?_) (fun _ _ h => h))
  obtain ⟨y, h1, h3, h4, h5, h6⟩ := hs.h
  obtain ⟨b1, b2, b3, b4⟩ := h.hb0 y h1
  have hb := h.hb y h1
  simp only [mkK_eq, spK_eq] at hb
  refine T.weakT (s' := (mkT (R y) (mkT Kp .e), hp H y)) ⟨hp H y ++ s.2.drop (hp H y).length, ⟨fun t => ?_, by simp; omega, fun i o ho => ?_⟩, by simp, by simp, Nat.le_of_ble_eq_true b1, ?_, b4.mem⟩ (tx_ok b _ _ _ _ hb)
  · show (mkT (R y) (mkT Kp .e)).get t = .und ∨ (mkT (R y) (mkT Kp .e)).get t = s.1.get t
    rw [mkT_app]
    exact mkT_get _ .e (Has.app _ _ h4 h3) (fun k => .inl (e_get k)) t
  · by_cases hi : i < (hp H y).length
    · rw [List.getElem?_append_left hi] at ho
      rcases h5.2 i o ho with e | e
      · exact .inl e
      · rw [List.getElem?_take, if_pos hi] at e
        exact .inr e
    · rw [List.getElem?_append_right (by omega), List.getElem?_drop] at ho
      exact .inr (by rw [← ho]; congr 1; omega)
  · show ∀ t, Bd (hp H y).length ((mkT (R y) (mkT Kp .e)).get t)
    rw [mkT_app]
    exact mkT_bd _ .e (BdL.app _ _ b2 b3) (fun _ => .und)
end
/-! Lists that are made -/
structure Cel {α : Type} (g : α → DV) (z : Nat) : Prop where
  len : ∀ x, (g x).cells.length = z
  one : ∀ x, (g x).cells.all DV.one = true
  pure : ∀ x, ∀ c ∈ (g x).cells, Pure c
theorem Cel.of {α : Type} {g : α → DV} {z : Nat} (h1 : ∀ x, (g x).cells.length = z) (h2 : ∀ x, (g x).cells.all DV.one = true) (h3 : ∀ x, pureB 9 (g x) = true) : Cel g z := ⟨h1, h2, fun x => pureB_cells 8 _ (h3 x)⟩
theorem Cel.str : Cel Str 1 := .of (fun _ => rfl) (fun _ => rfl) (fun _ => rfl)
theorem Cel.byte : Cel byteDV 1 := .of (fun _ => rfl) (fun _ => rfl) (fun _ => rfl)
/-- The row of a list that begins as nil. -/
def slotR {α : Type} (g : α → DV) (e : TypeId) (z G : Nat) (l : List α) : Ob := match l with
  | [] => .slot G z
  | _ :: _ => .row ⟨l.map g, z, G, false, some e⟩
theorem slotR_row {α : Type} {g : α → DV} {e : TypeId} {z G : Nat} {l : List α} (h : l ≠ []) : slotR g e z G l = .row ⟨l.map g, z, G, false, some e⟩ := by
  cases l with
  | nil => exact absurd rfl h
  | cons => rfl
theorem rowK.slot {α : Type} {g : α → DV} {e : TypeId} {z G : Nat} {l : List α} {F : Row → Prop} (h : l ≠ []) (hk : F ⟨l.map g, z, G, false, some e⟩) : oneL (codeO (slotR g e z G l)) F := by
  rw [slotR_row h]
  exact hk
theorem FrzC.cel {α : Type} {g : α → DV} {z : Nat} (hg : Cel g z) (l : List α) : FrzR H (l.map g) (l.map g) [] := .pure fun e he c hc => by
  obtain ⟨x, _, rfl⟩ := List.mem_map.1 he
  exact hg.pure x c hc
theorem Frz.slot {α : Type} {g : α → DV} {e : TypeId} {r z G cl len : Nat} {l : List α} (hg : Cel g z) (hr : H[r]? = some (slotR g e z G l)) (hl : len = l.length) : Frz H (.ref r 0 len z G cl) (.imm z (l.map g)) [r] := by
  subst hl
  cases hl' : l with
  | nil =>
    intro S S' μ w v _ _ _ hv
    cases hv with
    | ref _ _ _ _ _ _ a cap p _ _ _ _ _ _ => exact .imm0 _ _ _
  | cons x xs =>
    rw [← hl']
    rw [slotR_row (by rw [hl']; simp)] at hr
    exact Frz.ref hr rfl rfl (by simp) (by rw [List.drop_zero, List.take_of_length_le (by simp)]; exact FrzC.cel hg l)
theorem Frz.rowG {α : Type} {g : α → DV} {r z G cl off len : Nat} {l : List α} {fz : Bool} {ty : Option TypeId} (hg : Cel g z) (hr : H[r]? = some (.row ⟨l.map g, z, G, fz, ty⟩)) (hl : off + len ≤ l.length) : Frz H (.ref r off len z G cl) (.imm z (((l.drop off).take len).map g)) [r] := by
  refine Frz.ref hr rfl rfl (by simpa using hl) ?_
  rw [← List.map_drop, ← List.map_take]
  exact FrzC.cel hg _
theorem FrzE.slot {α : Type} {g : α → DV} {e : TypeId} {r z G cl len : Nat} {l : List α} (hg : Cel g z) (hr : H[r]? = some (slotR g e z G l)) (hl : len = l.length) : FrzE H (.ref r 0 len z G cl) (.imm z (l.map g)) := ⟨_, .slot hg hr hl⟩
theorem FrzE.rowG {α : Type} {g : α → DV} {r z G cl off len : Nat} {l : List α} {fz : Bool} {ty : Option TypeId} (hg : Cel g z) (hr : H[r]? = some (.row ⟨l.map g, z, G, fz, ty⟩)) (hl : off + len ≤ l.length) : FrzE H (.ref r off len z G cl) (.imm z (((l.drop off).take len).map g)) := ⟨_, .rowG hg hr hl⟩
theorem FrzE.rowA {α : Type} {g : α → DV} {r z G cl len : Nat} {l : List α} {fz : Bool} {ty : Option TypeId} (hg : Cel g z) (hr : H[r]? = some (.row ⟨l.map g, z, G, fz, ty⟩)) (hl : len = l.length) : FrzE H (.ref r 0 len z G cl) (.imm z (l.map g)) := by
  subst hl
  have := FrzE.rowG (off := 0) (len := l.length) (cl := cl) hg hr (by simp)
  rwa [List.drop_zero, List.take_length] at this
theorem BdO.cel {α : Type} {g : α → DV} {k z zz G : Nat} {l : List α} {fz : Bool} {ty : Option TypeId} (hg : Cel g z) : BdO k (.row ⟨l.map g, zz, G, fz, ty⟩) := fun e he c hc => by
  obtain ⟨x, _, rfl⟩ := List.mem_map.1 he
  exact (hg.pure x c hc).bd k
theorem BdO.slot {α : Type} {g : α → DV} {k e z G : Nat} {l : List α} (hg : Cel g z) : BdO k (slotR g e z G l) := by
  cases l with
  | nil => trivial
  | cons => exact BdO.cel hg
def BdCs (k : Nat) : List DV → Prop
  | [] => True
  | c :: l => Bd k c ∧ BdCs k l
theorem BdCs.mem {k : Nat} : ∀ {l : List DV}, BdCs k l → ∀ c ∈ l, Bd k c
  | [], _, c, h => by cases h
  | x :: l, h, c, hc => by
    rcases List.mem_cons.1 hc with rfl | hc
    · exact h.1
    · exact BdCs.mem h.2 c hc
/-- A variable. -/
theorem BdO.one {k z G : Nat} {d : DV} {fz : Bool} {ty : Option TypeId} (h : BdCs k d.cells) : BdO k (.row ⟨[d], z, G, fz, ty⟩) := fun e he c hc => by
  simp at he
  subst he
  exact h.mem c hc
theorem BdO.map {k : Nat} {es : List (DV × DV)} (h : ∀ e ∈ es, Bd k e.1 ∧ Bd k e.2) : BdO k (.map es) := h
section
variable {E : Env} {n n0 : Nat} {ρ : Tr} {dst : Option Tmp} {ty : TypeId} {pos : String} {aft : Array Edge} {gd : Option (Nat × Bool)} {tt tu e : TypeId} {a b : Operand} {α : Type} {g : α → DV} {i : TypeInfo} {l xs : List α} {r z G : Nat} {K : DV → Heap → Option Cls → Prop}
theorem celAll (hg : Cel g z) : ((xs.map g).all fun d => d.cells.length = z && d.cells.all DV.one) = true := by
  rw [List.all_eq_true]
  intro d hd
  obtain ⟨x, _, rfl⟩ := List.mem_map.1 hd
  simp [hg.len, hg.one]
/-- Behind a list, more. -/
theorem OX.app (hg : Cel g z) (hx : opd ρ a = .ref r 0 l.length z G l.length) (hr : H[r]? = some (slotR g e z G l)) (ha : addOf E.P H e tu (opd ρ b) = some (z, xs.map g)) (hu : E.P.underlying tt = some (.slice e)) (hn : isIntT E.P tu = false) (hi : E.P.info? e = some i)
    (hz : decide (i.size = z ∧ z ≠ 0 ∧ i.bytes ≠ 0 ∧ i.bytes ≤ 256 ∧ i.zero.map (·.cells.size) = some z) = true) (hb : l.length + xs.length < 4000000000)
    (h : ∀ G', lsetK (slotR g e z G' (l ++ xs)) H r fun H' => K (.ref r 0 (l ++ xs).length z G' (l ++ xs).length) H' (some (bif n0.ble r then .A else .W))) : OX E n n0 H ρ ⟨dst, .call { callee := .builtin .append, args := #[a, b], argTypes := #[tt, tu] }, ty, pos, aft, gd⟩ K := by
  obtain ⟨z1, z2, z3, z4, z5⟩ := of_decide_eq_true hz
  simp only [lsetK_eq] at h
  have hbig : (l.length + (xs.map g).length) * i.bytes ≤ bigN := Nat.le_trans (Nat.mul_le_mul (by simp; omega) z4) (show 4000000000 * 256 ≤ bigN by decide)
  have hbad : (z ≠ i.size ∨ z = 0 ∨ i.bytes = 0 ∨ i.zero.map (·.cells.size) ≠ some i.size ∨ (!((xs.map g).all fun d => d.cells.length = z && d.cells.all DV.one)) = true) ↔ False := by
    rw [celAll hg]
    simp [z1, z2, z3, z5]
  have hrl := (List.getElem?_eq_some_iff.1 hr).1
  have hself : ∀ o, H[r]? = some o → H.set r o = H := fun o ho => by
    apply List.ext_getElem?
    intro j
    by_cases e : r = j
    · subst e; rw [List.getElem?_set_self hrl, ho]
    · simp [e]
  by_cases hxs : xs = []
  · -- nothing
    subst hxs
    have hk := h G
    rw [List.append_nil, hself _ hr] at hk
    have he : evE E.P H (opd ρ) (.call { callee := .builtin .append, args := #[a, b], argTypes := #[tt, tu] }) = some (.ref r 0 l.length z G l.length, .none) := by
      cases hl : l with
      | nil =>
        subst hl
        simp only [evE, List.size_toArray, List.length_cons, List.length_nil, Nat.zero_add, Nat.reduceAdd, and_self, if_true, List.getElem?_toArray, List.getElem?_cons_zero, List.getElem?_cons_succ, hu, hn, Bool.false_eq_true, if_false, hi, ha, hx, hr, slotR]
        rw [if_neg (by simpa only [hbad] using id)]
        simp
      | cons q qs =>
        rw [← hl]
        have hne : l ≠ [] := by rw [hl]; simp
        simp only [evE, List.size_toArray, List.length_cons, List.length_nil, Nat.zero_add, Nat.reduceAdd, and_self, if_true, List.getElem?_toArray, List.getElem?_cons_zero, List.getElem?_cons_succ, hu, hn, Bool.false_eq_true, if_false, hi, ha, hx, hr, slotR_row hne]
        rw [if_neg (by simpa only [hbad] using id), if_pos ⟨trivial, trivial, trivial, by simp, .inl trivial, by simpa using hbig⟩]
        simp
    cases hbl : n0.ble r with
    | true =>
      rw [hbl] at hk
      exact .rc (Rc.nil he) hk
    | false =>
      rw [hbl] at hk
      exact .rc (Rc.e (eff := .none) he (.inl rfl)) hk
  · have hpos : 0 < xs.length := List.length_pos_iff.2 hxs
    have hemp : (xs.map g).isEmpty = false := by cases xs with | nil => exact absurd rfl hxs | cons => rfl
    have hne2 : l ++ xs ≠ [] := by simp [hxs]
    have hk := h (G + 1)
    refine .set ?_ hk
    rw [slotR_row hne2]
    cases hl : l with
    | nil =>
      subst hl
      simp only [evE, List.size_toArray, List.length_cons, List.length_nil, Nat.zero_add, Nat.reduceAdd, and_self, if_true, List.getElem?_toArray, List.getElem?_cons_zero, List.getElem?_cons_succ, hu, hn, Bool.false_eq_true, if_false, hi, ha, hx, hr, slotR]
      rw [if_neg (by simpa only [hbad] using id), if_pos ⟨trivial, trivial, trivial, trivial, by simpa using hbig⟩]
      simp [hemp]
    | cons q qs =>
      rw [← hl]
      have hne : l ≠ [] := by rw [hl]; simp
      simp only [evE, List.size_toArray, List.length_cons, List.length_nil, Nat.zero_add, Nat.reduceAdd, and_self, if_true, List.getElem?_toArray, List.getElem?_cons_zero, List.getElem?_cons_succ, hu, hn, Bool.false_eq_true, if_false, hi, ha, hx, hr, slotR_row hne]
      rw [if_neg (by simpa only [hbad] using id), if_pos ⟨trivial, trivial, trivial, by simp, .inl trivial, hbig⟩, if_neg (by simp [hemp]), if_neg (by simp; omega)]
      simp [List.take_of_length_le]
end
end Go.Dev

/- Calls and functions, as the propositions have them; methods. -/
set_option linter.unusedVariables false
namespace Go.Dev
open Go.RowKit
variable {H : Heap}
/-- The same program, some rows of which are the caller's. -/
def Env.z (E : Env) : Env := { P := E.P, G := E.G, NG := E.NG, b := 0 }
def Env.one (E : Env) : Env := { P := E.P, G := E.G, NG := E.NG, b := 1 }
theorem Env.Ok.of {E E' : Env} (h : E.Ok) (h1 : E'.P = E.P) (h2 : E'.G = E.G) (h3 : E'.NG = E.NG) : E'.Ok := by
  cases E; cases E'
  subst h1 h2 h3
  exact ⟨h.name, h.glob, h.mixed⟩
theorem Env.Ok.z {E : Env} (h : E.Ok) : E.z.Ok := h.of rfl rfl rfl
theorem Env.Ok.one {E : Env} (h : E.Ok) : E.one.Ok := h.of rfl rfl rfl
theorem Env.Ok.un {E : Env} (h : E.one.Ok) : E.Ok := h.of rfl rfl rfl
theorem Rc.z {E : Env} {n n0 : Nat} {ρ : Tr} {o : Oper} {r : Rec} (h : Rc E.z n n0 H ρ o r) : Rc E n n0 H ρ o r := .of fun hE => h.run hE.z
section
variable {E : Env} {n n0 : Nat} {ρ : Tr} {o : Oper} {d : DV} {K : DV → Heap → Option Cls → Prop} {fid : FuncId} {as as' : List DV}
/-- A call of data alone. -/
theorem OX.cp (hp : Prim E.z fid as (.val d)) (hc : callOf (opd ρ) o.op = some (fid, as)) (hpu : as.all (pureB 9) = true) (h : K d H (some .P)) : OX E n n0 H ρ o K :=
  .rc (Rc.z (Rc.callP hp hc (FrzL.pure fun c hc => pureB_ok 9 c (List.all_eq_true.1 hpu c hc)))) h
/-- A call that reads rows; its result is flat. -/
theorem OX.ca (hp : Prim E.z fid as' (.val d)) (hfl : flat 9 d = true) (hc : callOf (opd ρ) o.op = some (fid, as)) (hf : FrzLE H as as') (h : K d H (some .A)) : OX E n n0 H ρ o K :=
  .rc (Rc.z (Rc.callA hp (Flt.of hfl) hc hf)) h
/-- A call whose rows are data from then on. -/
theorem OX.cw {us : List Nat} (hp : Prim E.z fid as' (.val d)) (hc : callOf (opd ρ) o.op = some (fid, as)) (hf : FrzL H as as' us) (h : spK (frz us H) fun H' => K d H' (some .W)) : OX E n n0 H ρ o K :=
  .rc (Rc.z (Rc.callW hp hc hf (.inl rfl))) (by rw [spK_eq] at h; exact h)
end
/-- A list that is handed back may be read as data. -/
theorem Prim.ov {E : Env} {f : FuncId} {ds : List DV} {sz : Nat} {l : List DV} (h : Prim E f ds (.own sz l)) : Prim E f ds (.val (.imm sz l)) := .of0 fun hE => by
  obtain ⟨h1, h2⟩ := h.run hE
  refine ⟨h1, fun S w vs hG hng hst hcr => (h2 S w vs hG hng hst hcr).mono fun e w' ⟨v, S', a1, a2, a3, a4, a5, a6, a7, p, cap, r1, r2, r3, r4, r5⟩ => ?_⟩
  obtain ⟨e1, e2, cs, t, fz, e3, e4, e5, e6, e7, e8⟩ := r1
  simp only at e1 e2 e4 e5 e7
  have hB := (Array.getElem?_eq_some_iff.1 e3).1
  refine ⟨v, fun B c => S' B c ∨ B = p.B, a1, fun B c h => .inl (a2 B c h), fun B c h => ?_, fun B c h => ?_, a5, a6, a7, ?_⟩
  · rcases h with h | rfl
    · exact a3 B c h
    · exact .inr r2
  · rcases h with h | rfl
    · exact a4 B c h
    · exact hB
  · rw [r5]
    have hcell : ∀ (i : Nat) (e : DV) (j : Nat) (c : DV), l[i]? = some e → e.cells[j]? = some c → ∃ cv, cellAt w' p.B (p.o + i * sz + j) = some cv ∧ V S' mu0 w' c cv := fun i e j c hi hj => by
      obtain ⟨cv, q1, q2⟩ := (e7 i e hi).2 j c hj
      exact ⟨cv, by simp only [cellAt, e3]; exact q1, q2⟩
    exact .imm sz l p.B p.o cap (fun i j => (cellAt w' p.B (p.o + i * sz + j)).getD undef) r3 (fun i e hi => (e7 i e hi).1)
      (fun i e j c hi hj => by
        obtain ⟨cv, q1, _⟩ := hcell i e j c hi hj
        exact ⟨by rw [q1]; rfl, .inr rfl⟩)
      (fun i e j c hi hj => by
        obtain ⟨cv, q1, q2⟩ := hcell i e j c hi hj
        rw [q1]
        exact q2.same fun _ _ h => .inl h)
/-! Functions -/
def initK : List DV → Nat → Tr → (Tr → Prop) → Prop
  | [], _, t, K => K t
  | d :: l, i, t, K => setK d (i + 1) t i fun t' => initK l (i + 1) t' K
theorem initK_eq : ∀ (l : List DV) (i : Nat) (t : Tr) (K : Tr → Prop), initK l i t K = K (initR i l t)
  | [], _, _, _ => rfl
  | d :: l, i, t, K => by simp only [initK, setK_eq, initK_eq l]; rfl
/-- What is read at an address. -/
def ldK (P : Program) (H : Heap) (t : TypeId) (v : DV) (K : DV → Prop) : Prop := match v with
  | .ipt e off => partK P t e.cells off K
  | .ptr r i off sz gg => nthK H r fun ob => rowK ob fun es sz' g' _ _ => geK g' gg (geK sz' sz (nthK es i fun e => partK P t e.cells off K))
  | _ => False
theorem ldK_ok {P : Program} {t : TypeId} {v : DV} {K : DV → Prop} (h : ldK P H t v K) (x : Operand) : ∃ d, evN P H (fun _ => v) (.load t x) = some d ∧ K d := by
  unfold ldK at h
  split at h
  · rename_i e off
    obtain ⟨d, h1, h2⟩ := partK_ok h
    exact ⟨d, by simp only [evN, h1], h2⟩
  · rename_i r i off sz gg
    obtain ⟨ob, h1, h2⟩ := nthK_ok _ _ _ h
    obtain ⟨R, rfl, h3⟩ := rowK_ok h2
    obtain ⟨h4, h5⟩ := h3.ok
    obtain ⟨h6, h7⟩ := h5.ok
    obtain ⟨e, h8, h9⟩ := nthK_ok _ _ _ h7
    obtain ⟨d, h10, h11⟩ := partK_ok h9
    exact ⟨d, by simp only [evN, h1, h4, h6, h8, and_self, if_true, Option.bind_some, h10], h11⟩
  · exact h.elim
def ressK (P : Program) (ρ : Tr) (H : Heap) : List ResultVar → (List DV → Prop) → Prop
  | [], K => K []
  | .tmp t :: l, K => getK ρ t fun d => ressK P ρ H l fun m => K (d :: m)
  | .cell a t :: l, K => getK ρ a fun v => ldK P H t v fun d => ressK P ρ H l fun m => K (d :: m)
theorem ressK_ok {P : Program} {ρ : Tr} : ∀ (l : List ResultVar) (K : List DV → Prop), ressK P ρ H l K → ∃ ds, allSome (l.map (resD P H ρ)) = some ds ∧ K ds
  | [], K, h => ⟨[], rfl, h⟩
  | .tmp t :: l, K, h => by
    simp only [ressK, getK_eq] at h
    obtain ⟨ds, h1, h2⟩ := ressK_ok l _ h
    exact ⟨ρ.get t :: ds, by simp only [List.map_cons, resD, allSome, h1, Option.map_some], h2⟩
  | .cell a t :: l, K, h => by
    simp only [ressK, getK_eq] at h
    obtain ⟨d, h1, h2⟩ := ldK_ok h (.tmp a)
    obtain ⟨ds, h3, h4⟩ := ressK_ok l _ h2
    exact ⟨d :: ds, by simp only [List.map_cons, resD, h1, allSome, h3, Option.map_some], h4⟩
def resK (P : Program) (ρ : Tr) (H : Heap) (l : List ResultVar) (K : DV → Prop) : Prop := ressK P ρ H l fun ds => match ds with
  | [d] => K d
  | ds => K (.tup ds)
theorem resK_ok {P : Program} {ρ : Tr} {l : List ResultVar} {K : DV → Prop} (h : resK P ρ H l K) : ∃ r, resultsD P H ρ l = some r ∧ K r := by
  obtain ⟨ds, h1, h2⟩ := ressK_ok _ _ h
  unfold resultsD
  rw [h1]
  match ds, h2 with
  | [], h2 => exact ⟨_, rfl, h2⟩
  | [d], h2 => exact ⟨_, rfl, h2⟩
  | _ :: _ :: _, h2 => exact ⟨_, rfl, h2⟩
/-- What is handed back. -/
structure RetK (H : Heap) (r : DV) (pr : PR) : Prop where
  of ::
  h : Hands H r pr
theorem RetK.eq {r d : DV} (hp : pureB 9 r = true) (h : r = d) : RetK H r (.val d) := by
  subst h
  exact .of (Hands.pure (pureB_ok 9 _ hp))
theorem RetK.fz {r r' d : DV} (hf : FrzE H r r') (h : r' = d) : RetK H r (.val d) := by
  subst h
  exact .of hf
def retA (P : Program) (l : List ResultVar) (X : DV → Heap → Prop) (e : Ex) (ρ : Tr) (H : Heap) : Prop := match e with
  | .ret => resK P ρ H l fun r => X r H
  | _ => False
theorem Prim.ofX {E : Env} {f : FuncId} {fn : Func} {c : Code} {ds : List DV} {pr : PR} {m : Nat} (hf : E.P.funcs[f]? = some fn) (hm : fn.ntmps = m) (hb : fn.body = some c) (hl : ds.length.ble m = true)
    (h : initK ds 0 .e fun ρ => tx E m c ρ [] (fun ρ H => resK E.P ρ H fn.results.toList fun r => RetK H r pr) (retA E.P fn.results.toList fun r H => RetK H r pr)) : Prim E f ds pr := by
  rw [initK_eq] at h
  refine Prim.of hf hm hb (decide_eq_true (Nat.le_of_ble_eq_true hl)) ((tx_ok c _ _ _ _ h).mono (fun s hs => ?_) (fun e s hs => ?_))
  · obtain ⟨r, h1, h2⟩ := resK_ok hs
    exact ⟨r, h1, h2.h⟩
  · cases e with
    | ret =>
      obtain ⟨r, h1, h2⟩ := resK_ok hs
      exact ⟨rfl, r, h1, h2.h⟩
    | _ => exact hs.elim
/-! Methods: a row of the caller's is handed in -/
/-- A function that is handed ds, its row R told apart: it hands back d, and the row is R' then. -/
structure PrimM (E : Env) (f : FuncId) (R : Row) (ds : List DV) (d : DV) (R' : Row) : Prop where
  of0 ::
  run : E.Ok → HasBody E.P f ∧ ∀ S μ w (vs : Array Value), E.G w → HR E.NG S μ [.row R] w → CR S μ w ds vs → Calls E.P f vs w fun e w' =>
    ∃ v S' μ', e = .returned v ∧ HR E.NG S' μ' [.row R'] w' ∧ Step 1 S μ [.row R] w S' μ' [.row R'] w' ∧ V S' mu0 w' d v
def PureR (R : Row) : Prop := ∀ e ∈ R.elems, ∀ c ∈ e.cells, Pure c
def oneMu (p : Pl) : Mu := fun r => if r = 0 then some p else none
/-- A caller's value as the callee has it: row k is its first one. -/
def Mv (k : Nat) (d d' : DV) : Prop := ∀ (S : Nat → Nat → Prop) (μ : Mu) (w : World) (p : Pl) (v : Value), μ k = some p → V S μ w d v → V S (oneMu p) w d' v
def MvL (k : Nat) (l l' : List DV) : Prop := l'.length = l.length ∧ ∀ (i : Nat) (d d' : DV), l[i]? = some d → l'[i]? = some d' → Mv k d d'
theorem MvL.nil {k : Nat} : MvL k [] [] := ⟨rfl, fun i d d' h => by simp at h⟩
theorem MvL.cons {k : Nat} {d d' : DV} {l l' : List DV} (h : Mv k d d') (hl : MvL k l l') : MvL k (d :: l) (d' :: l') := ⟨by simp [hl.1], fun i a a' h1 h2 => by
  cases i with
  | zero => simp at h1 h2; subst h1 h2; exact h
  | succ i => exact hl.2 i a a' (by simpa using h1) (by simpa using h2)⟩
theorem Mv.ptr {k i off sz g : Nat} : Mv k (.ptr k i off sz g) (.ptr 0 i off sz g) := fun S μ w p v hp hv => by
  cases hv with
  | ptr _ _ _ _ _ a p' h hg ha =>
    rw [hp] at h
    cases h
    exact .ptr _ _ _ _ _ a p rfl hg ha
theorem Mv.pure {k : Nat} {d : DV} (h : pureB 9 d = true) : Mv k d d := fun S μ w p v _ hv => (pureB_ok 9 d h _ _ _ _ hv).lift
theorem Mv.bfn {k : Nat} {f : FuncId} {d d' : DV} (h : Mv k d d') : Mv k (.bfn f d) (.bfn f d') := fun S μ w p v hp hv => by
  cases hv with
  | bfn _ _ v hv => exact .bfn _ _ _ (h _ _ _ _ _ hp hv)
theorem Mv.fn {k : Nat} {f : FuncId} {cs cs' : List DV} (h : MvL k cs cs') : Mv k (.fn f cs) (.fn f cs') := fun S μ w p v hp hv => by
  cases hv with
  | fn _ _ vs hl hx =>
    refine .fn _ _ vs (by rw [h.1]; exact hl) fun i c v hc hvi => ?_
    have hlt := (List.getElem?_eq_some_iff.1 hc).1
    rw [h.1] at hlt
    exact h.2 i _ c (List.getElem?_eq_getElem hlt) hc _ _ _ _ _ hp (hx i _ v (List.getElem?_eq_getElem hlt) hvi)
theorem MvL.CR {S : Nat → Nat → Prop} {μ : Mu} {w : World} {k : Nat} {p : Pl} {l l' : List DV} {vs : Array Value} (h : MvL k l l') (hp : μ k = some p) (hv : CR S μ w l vs) : CR S (oneMu p) w l' vs :=
  ⟨by rw [h.1]; exact hv.1, fun i c v hc hvi => by
    have hlt := (List.getElem?_eq_some_iff.1 hc).1
    rw [h.1] at hlt
    exact h.2 i _ c (List.getElem?_eq_getElem hlt) hc _ _ _ _ _ hp (hv.2 i _ v (List.getElem?_eq_getElem hlt) hvi)⟩
theorem PureR.rowOK {S : Nat → Nat → Prop} {μ μ' : Mu} {w : World} {R : Row} {p : Pl} (hR : PureR R) (h : RowOK S μ w R p) : RowOK S μ' w R p := by
  obtain ⟨h1, h2, cs, t, fz, h3, h4, h5, h6, h7, h8⟩ := h
  refine ⟨h1, h2, cs, t, fz, h3, h4, h5, h6, fun i e he => ⟨(h7 i e he).1, fun j c hc => ?_⟩, h8⟩
  obtain ⟨cv, q1, q2⟩ := (h7 i e he).2 j c hc
  exact ⟨cv, q1, (hR e (List.mem_of_getElem? he) c (List.mem_of_getElem? hc) _ _ _ _ q2).lift⟩
theorem live1 {o : Ob} {r : Nat} (h : live [o] r) : r = 0 := by
  have := live_lt h
  simp at this
  exact this
/-- The row alone. -/
theorem alone {NG : Nat} {S : Nat → Nat → Prop} {μ : Mu} {w : World} {k : Nat} {R : Row} (h : HR NG S μ H w) (hk : H[k]? = some (.row R)) (hR : PureR R) : ∃ p, μ k = some p ∧ HR NG S (oneMu p) [.row R] w := by
  obtain ⟨p, hp, hrow⟩ := h.row k R hk
  refine ⟨p, hp, ⟨⟨fun r R' hr => ?_, fun r es hr => ?_⟩, fun r hr => ?_, fun r r' q q' hl hl' _ _ _ => by rw [live1 hl, live1 hl'], fun r q hl hq => ?_, h.ng, h.st, fun r g sz hr => ?_⟩⟩
  · have e : r = 0 := by have := (List.getElem?_eq_some_iff.1 hr).1; simp at this; omega
    subst e
    simp at hr
    subst hr
    exact ⟨p, rfl, hR.rowOK hrow⟩
  · have e : r = 0 := by have := (List.getElem?_eq_some_iff.1 hr).1; simp at this; omega
    subst e
    simp at hr
  · have hr' : 1 ≤ r := by simpa using hr
    simp only [oneMu]
    rw [if_neg (by omega)]
  · have e := live1 hl
    subst e
    cases hq
    exact h.lo k p (.inl ⟨R, hk⟩) hp
  · have e : r = 0 := by have := (List.getElem?_eq_some_iff.1 hr).1; simp at this; omega
    subst e
    simp at hr
/-- The row, put back. -/
theorem back {NG : Nat} {S S' : Nat → Nat → Prop} {μ μ1 : Mu} {w w' : World} {k : Nat} {R R' : Row} {p : Pl} (h : HR NG S μ H w) (hk : H[k]? = some (.row R)) (hp : μ k = some p) (h1 : HR NG S' μ1 [.row R'] w') (st : Step 1 S (oneMu p) [.row R] w S' μ1 [.row R'] w') (hR : PureR R') :
    ∃ μ', HR NG S' μ' (H.set k (.row R')) w' ∧ Step H.length S μ H w S' μ' (H.set k (.row R')) w' := by
  obtain ⟨p', hp', hg, he⟩ := st.mu 0 (by omega) p rfl
  have hkl := (List.getElem?_eq_some_iff.1 hk).1
  have hlive0 : live [.row R'] 0 := .inl ⟨R', rfl⟩
  have hown : w.heap.size ≤ p'.B ∨ p'.B = p.B := by
    rcases st.own 0 p' hlive0 hp' with h | ⟨r0, p0, hl, hq, e⟩
    · exact .inl h
    · have := live1 hl
      subst this
      cases hq
      exact .inr e.symm
  have hput : ∀ q, q ≠ k → μ.put k p' q = μ q := fun q hq => by simp [Mu.put, hq]
  have hself : μ.put k p' k = some p' := by simp [Mu.put]
  have hmu : MuLe μ (μ.put k p') := by
    intro q a ha
    by_cases hq : q = k
    · subst hq
      rw [hp] at ha; cases ha
      exact ⟨p', hself, hg, he⟩
    · exact ⟨a, by rw [hput q hq]; exact ha, Nat.le_refl _, fun _ => rfl⟩
  have hpl : p.B < w.heap.size := h.lt (.inl ⟨R, hk⟩) hp
  have hframe : ∀ b, b < w.heap.size → b ≠ p.B → w'.heap[b]? = w.heap[b]? := fun b hb hne => st.frame b hb fun r q hl hq e => by
    have := live1 hl
    subst this
    cases hq
    exact hne e.symm
  have hV : ∀ d v, V S μ w d v → V S' (μ.put k p') w' d v := fun d v hv => hv.mono st.sub hmu st.agree
  have hset : ∀ q, q ≠ k → (H.set k (.row R'))[q]? = H[q]? := fun q hq => List.getElem?_set_ne (Ne.symm hq)
  have hsets : (H.set k (.row R'))[k]? = some (.row R') := by simp [hkl]
  have hlive : ∀ q, live (H.set k (.row R')) q → live H q := fun q hl => by
    by_cases e : q = k
    · subst e; exact .inl ⟨R, hk⟩
    · rcases hl with ⟨R'', h2⟩ | ⟨es, h2⟩ <;> rw [hset q e] at h2
      · exact .inl ⟨R'', h2⟩
      · exact .inr ⟨es, h2⟩
  have hne : ∀ q a, q ≠ k → live H q → μ q = some a → a.B ≠ p.B := fun q a hq hla ha e => hq (h.dist q k a p hla (.inl ⟨R, hk⟩) ha hp e)
  have hsn : ∀ q a, q ≠ k → live H q → μ q = some a → ∀ c, S' a.B c → S a.B c := fun q a hq hla ha c hc => by
    rcases st.snew _ c hc with h2 | h2 | ⟨r0, p0, hl, hq0, e⟩
    · exact h2
    · have := h.lt hla ha; omega
    · have := live1 hl
      subst this
      cases hq0
      exact absurd e.symm (hne q a hq hla ha)
  refine ⟨μ.put k p', ⟨⟨fun q R'' hq => ?_, fun q es hq => ?_⟩, fun q hq => ?_, fun q q' a a' hla hla' ha ha' e => ?_, fun q a hla ha => ?_, h1.ng, h1.st, fun q g sz hq => ?_⟩,
    ⟨st.sub, st.agree, fun q _ a ha => hmu q a ha, fun _ => by simp, st.size, fun b hb hn => hframe b hb fun e => hn k p (.inl ⟨R, hk⟩) hp e.symm, fun q a hla ha => ?_, fun B c hc => ?_, st.io⟩⟩
  · by_cases e : q = k
    · subst e
      rw [hsets] at hq
      cases hq
      obtain ⟨p2, hp2, hrow⟩ := h1.row 0 R' rfl
      rw [hp'] at hp2
      cases hp2
      exact ⟨p', hself, hR.rowOK hrow⟩
    · rw [hset q e] at hq
      obtain ⟨a, ha, hrow⟩ := h.row q R'' hq
      exact ⟨a, by rw [hput q e]; exact ha, hrow.mono (hframe _ (h.lt (.inl ⟨R'', hq⟩) ha) (hne q a e (.inl ⟨R'', hq⟩) ha)) hV (fun c hc => hsn q a e (.inl ⟨R'', hq⟩) ha c hc)⟩
  · by_cases e : q = k
    · subst e
      rw [hsets] at hq
      cases hq
    · rw [hset q e] at hq
      obtain ⟨a, ha, hga, ents, clock, hb, hm⟩ := h.map q es hq
      exact ⟨a, by rw [hput q e]; exact ha, hga, ents, clock, by rw [hframe _ (h.lt (.inr ⟨es, hq⟩) ha) (hne q a e (.inr ⟨es, hq⟩) ha)]; exact hb, hm.mono hV⟩
  · simp at hq
    rw [hput q (by omega)]
    exact h.no q hq
  · have l1 := hlive q hla
    have l2 := hlive q' hla'
    by_cases e1 : q = k <;> by_cases e2 : q' = k
    · rw [e1, e2]
    · subst e1
      rw [hself] at ha; cases ha
      rw [hput q' e2] at ha'
      have q1 := h.lt l2 ha'
      have q2 := hne q' a' e2 l2 ha'
      rcases hown with hB | hB
      · omega
      · exact absurd (e.symm.trans hB) q2
    · subst e2
      rw [hself] at ha'; cases ha'
      rw [hput q e1] at ha
      have q1 := h.lt l1 ha
      have q2 := hne q a e1 l1 ha
      rcases hown with hB | hB
      · omega
      · exact absurd (e.trans hB) q2
    · rw [hput q e1] at ha
      rw [hput q' e2] at ha'
      exact h.dist q q' a a' l1 l2 ha ha' e
  · by_cases e1 : q = k
    · subst e1
      rw [hself] at ha; cases ha
      exact h1.lo 0 p' hlive0 hp'
    · rw [hput q e1] at ha
      exact h.lo q a (hlive q hla) ha
  · by_cases e : q = k
    · subst e
      rw [hsets] at hq
      cases hq
    · rw [hset q e] at hq
      obtain ⟨a, ha, h2⟩ := h.sl q g sz hq
      exact ⟨a, by rw [hput q e]; exact ha, h2⟩
  · by_cases e1 : q = k
    · subst e1
      rw [hself] at ha; cases ha
      rcases hown with hB | hB
      · exact .inl hB
      · exact .inr ⟨q, p, .inl ⟨R, hk⟩, hp, hB.symm⟩
    · rw [hput q e1] at ha
      exact .inr ⟨q, a, hlive q hla, ha, rfl⟩
  · rcases st.snew B c hc with h2 | h2 | ⟨r0, p0, hl, hq0, e⟩
    · exact .inl h2
    · exact .inr (.inl h2)
    · have := live1 hl
      subst this
      cases hq0
      exact .inr (.inr ⟨k, p, .inl ⟨R, hk⟩, hp, e⟩)
def pureRB (R : Row) : Bool := R.elems.all fun e => e.cells.all (pureB 9)
theorem pureRB_ok {R : Row} (h : pureRB R = true) : PureR R := fun e he c hc => pureB_ok 9 c (List.all_eq_true.1 (List.all_eq_true.1 h e he) c hc)
section
variable {E : Env} {n n0 : Nat} {ρ : Tr} {o : Oper} {d : DV} {K : DV → Heap → Option Cls → Prop} {fid : FuncId} {as as' : List DV} {R R' : Row} {k : Nat}
theorem Rc.callM (hp : PrimM E fid R as' d R') (hc : callOf (opd ρ) o.op = some (fid, as)) (hm : MvL k as as') (hk : H[k]? = some (.row R)) (hR : PureR R) (hR' : PureR R') : Rc E n n0 H ρ o ⟨d, H.set k (.row R'), .W⟩ := .of <| fun hE => by
  obtain ⟨hb, hpr⟩ := hp.run hE
  refine ⟨⟨fun h => (by cases h), fun h => (by cases h)⟩, fun S μ w a HL K Q hH hG hr hR0 hA hK => ?_⟩
  obtain ⟨vs, hcr, hrun⟩ : ∃ vs : Array Value, CR S μ w as vs ∧ (execOp a.eval o).run E.P w = .ok (.enter fid vs) w := callOf_run (C := E.C) hE.W hr hc hb
  unfold Oper.wp
  rw [hrun]
  have hl := hA rfl
  subst hl
  obtain ⟨p, hmu, hal⟩ := alone hH hk hR
  refine (hpr S (oneMu p) w vs hG hal (hm.CR hmu hcr)).mono fun e w' ⟨v, S', μ', hev, h1, h2, hv⟩ => ?_
  obtain ⟨μ2, k1, k2⟩ := back hH hk hmu h1 h2 hR'
  subst hev
  exact hK v S' μ2 w' k1 k2 hv.lift
theorem OX.cm (k : Nat) (hp : PrimM E.z fid R as' d R') (hc : callOf (opd ρ) o.op = some (fid, as)) (hm : MvL k as as') (hk : H[k]? = some (.row R)) (hR : pureRB R = true) (hR' : pureRB R' = true) (h : lsetK (.row R') H k fun H' => K d H' (some .W)) : OX E n n0 H ρ o K :=
  .rc (Rc.z (Rc.callM hp hc hm hk (pureRB_ok hR) (pureRB_ok hR'))) (by rw [lsetK_eq] at h; exact h)
end
/-- What a method hands back: its value, and the row. -/
structure RetM (H : Heap) (r : DV) (d : DV) (R' : Row) : Prop where
  of ::
  h : ∃ us, Frz H r d us ∧ H[0]? = some (.row R') ∧ PureR R' ∧ 0 ∉ us
theorem RetM.eq {r d : DV} {R R' : Row} (hp : pureB 9 r = true) (h0 : H[0]? = some (.row R)) (hR : pureRB R = true) (h : r = d) (h2 : R = R') : RetM H r d R' := by
  subst h h2
  exact .of ⟨[], Frz.pure (pureB_ok 9 _ hp), h0, pureRB_ok hR, by simp⟩
theorem RetM.fz {r r' d : DV} {R R' : Row} {us : List Nat} (hf : Frz H r r' us) (hu : us.contains 0 = false) (h0 : H[0]? = some (.row R)) (hR : pureRB R = true) (h : r' = d) (h2 : R = R') : RetM H r d R' := by
  subst h h2
  exact .of ⟨us, hf, h0, pureRB_ok hR, by simpa using hu⟩
/-! A slice that is nil within a struct of our own: a row still to come -/
theorem Inv.nz {G : World → Prop} {NG : Nat} {S0 : Nat → Nat → Prop} {μ0 : Mu} {H0 H : Heap} {w0 w : World} {n : Nat} {ρ : Tr} {a : Act} {r j z sz g : Nat} {cs : List DV} {fz : Bool} {ty : Option TypeId} (hi : Inv G NG S0 μ0 H0 w0 n (ρ, H) a w) (hr : H[r]? = some (.row ⟨[.agg cs], sz, g, fz, ty⟩)) (hc : cs[j]? = some .nils) :
    Inv G NG S0 μ0 H0 w0 n (ρ, H.set r (.row ⟨[.agg (cs.set j (.ref H.length 0 0 z 0 0))], sz, g, fz, ty⟩) ++ [.slot 0 z]) a w := by
  obtain ⟨S, μ, hH, hG, hst, hrg⟩ := hi.ex
  obtain ⟨k1, k2, k3⟩ := push_ok (w' := w) hH (o := .slot 0 z) (p := ⟨w.heap.size, 0, 0, 0, z⟩) (fun _ _ => rfl) (Nat.le_refl _) (Io.refl _) (Nat.le_refl _) ⟨rfl, rfl, rfl⟩
  have hlt : r < H.length := (List.getElem?_eq_some_iff.1 hr).1
  have hlen : H0.length ≤ H.length := hst.len (Nat.le_refl _)
  have hst' := hst.trans { k2 with mu := fun r hr => k2.mu r (Nat.lt_of_lt_of_le hr hlen), len := fun h => by simp; omega }
  have es : H.set r (.row ⟨[.agg (cs.set j (.ref H.length 0 0 z 0 0))], sz, g, fz, ty⟩) ++ [Ob.slot 0 z] = (H ++ [Ob.slot 0 z]).set r (.row ⟨[.agg (cs.set j (.ref H.length 0 0 z 0 0))], sz, g, fz, ty⟩) := by
    rw [List.set_append_left _ _ hlt]
  show Inv G NG S0 μ0 H0 w0 n (ρ, _) a w
  rw [es]
  generalize hH2 : H ++ [Ob.slot 0 z] = H2 at k1 k2 hst' ⊢
  have hr2 : H2[r]? = some (.row ⟨[.agg cs], sz, g, fz, ty⟩) := by rw [← hH2, List.getElem?_append_left hlt]; exact hr
  have hlt2 : r < H2.length := (List.getElem?_eq_some_iff.1 hr2).1
  have get : ∀ i, (H2.set r (.row ⟨[.agg (cs.set j (.ref H.length 0 0 z 0 0))], sz, g, fz, ty⟩))[i]? = if i = r then some (.row ⟨[.agg (cs.set j (.ref H.length 0 0 z 0 0))], sz, g, fz, ty⟩) else H2[i]? := fun i => by
    rw [List.getElem?_set]
    by_cases e : r = i
    · subst e; rw [if_pos rfl, if_pos rfl, if_pos hlt2]
    · rw [if_neg e, if_neg (fun h => e h.symm)]
  have lv : ∀ i, live (H2.set r (.row ⟨[.agg (cs.set j (.ref H.length 0 0 z 0 0))], sz, g, fz, ty⟩)) i → live H2 i := fun i hl => by
    by_cases e : i = r
    · subst e; exact .inl ⟨_, hr2⟩
    · rcases hl with ⟨R, h⟩ | ⟨es, h⟩
      · rw [get, if_neg e] at h; exact .inl ⟨R, h⟩
      · rw [get, if_neg e] at h; exact .inr ⟨es, h⟩
  refine ⟨S, _, ⟨⟨fun i R hR => ?_, fun i es hR => ?_⟩, fun i hi => k1.no i (by simpa using hi), fun i i' p p' h1 h2 => k1.dist i i' p p' (lv i h1) (lv i' h2), fun i p h1 => k1.lo i p (lv i h1), k1.ng, k1.st, fun i g sz hR => ?_⟩, hG, ?_, hrg.mono k3⟩
  · rw [get] at hR
    by_cases e : i = r
    · rw [if_pos e] at hR
      cases hR
      subst e
      obtain ⟨p, hp, q1, q2, cc, t, f, q3, q4, q5, q6, q7, q8⟩ := k1.row i _ hr2
      refine ⟨p, hp, q1, q2, cc, t, f, q3, by simpa using q4, q5, q6, fun i' e' he' => ?_, fun c hc => by simpa using q8 c hc⟩
      cases i' with
      | zero =>
        simp at he'
        subst he'
        obtain ⟨r1, r2⟩ := q7 0 (.agg cs) rfl
        refine ⟨by simpa [DV.cells] using r1, fun j' c hj => ?_⟩
        simp only [DV.cells, List.getElem?_set] at hj
        by_cases ej : j = j'
        · subst ej
          rw [if_pos rfl] at hj
          split at hj
          · cases hj
            obtain ⟨cv, v1, v2⟩ := r2 j .nils hc
            refine ⟨cv, v1, ?_⟩
            cases v2
            exact .ref _ _ _ _ _ _ none 0 _ (put_self _ _ _) (Nat.le_refl _) (Nat.le_refl _) (Nat.le_refl _) (fun _ => ⟨rfl, Nat.le_refl _, .inl rfl⟩) (fun _ => rfl)
          · cases hj
        · rw [if_neg ej] at hj
          exact r2 j' c hj
      | succ i' => simp at he'
    · rw [if_neg e] at hR
      exact k1.row i R hR
  · rw [get] at hR
    by_cases e : i = r
    · rw [if_pos e] at hR; cases hR
    · rw [if_neg e] at hR; exact k1.map i es hR
  · rw [get] at hR
    by_cases e : i = r
    · rw [if_pos e] at hR; cases hR
    · rw [if_neg e] at hR; exact k1.sl i g sz hR
  · exact { hst' with len := fun h => by simpa using hst'.len h, own := fun i p h1 => hst'.own i p (lv i h1) }
theorem T.nz {E : Env} {n : Nat} {c : Code} {ρ : Tr} {H : Heap} {N : St → Prop} {A : Ex → St → Prop} {r j sz g : Nat} {cs : List DV} {fz : Bool} {ty : Option TypeId} (z : Nat) (hr : H[r]? = some (.row ⟨[.agg cs], sz, g, fz, ty⟩)) (hc : cs[j]? = some .nils)
    (h : T E n c (ρ, H.set r (.row ⟨[.agg (cs.set j (.ref H.length 0 0 z 0 0))], sz, g, fz, ty⟩) ++ [.slot 0 z]) N A) : T E n c (ρ, H) N A := .of <| fun hE S0 μ0 H0 w0 hb0 a w Q hi hn ha => h.run hE S0 μ0 H0 w0 hb0 a w Q (hi.nz hr hc) hn ha
theorem LoopK.nz {E : Env} {n : Nat} {c : Code} {ρ : Tr} {H : Heap} {N : Tr → Heap → Prop} {A : Ex → Tr → Heap → Prop} {sz g : Nat} {cs : List DV} {fz : Bool} {ty : Option TypeId} (r j z : Nat) (hr : H[r]? = some (.row ⟨[.agg cs], sz, g, fz, ty⟩)) (hc : cs[j]? = some .nils)
    (h : LoopK E n c ρ (H.set r (.row ⟨[.agg (cs.set j (.ref H.length 0 0 z 0 0))], sz, g, fz, ty⟩) ++ [.slot 0 z]) N A) : LoopK E n c ρ H N A := .of (T.nz z hr hc h.h)
theorem JoinK.nz {E : Env} {n : Nat} {c b : Code} {ρ : Tr} {H : Heap} {N : Tr → Heap → Prop} {A : Ex → Tr → Heap → Prop} {sz g : Nat} {cs : List DV} {fz : Bool} {ty : Option TypeId} (r j z : Nat) (hr : H[r]? = some (.row ⟨[.agg cs], sz, g, fz, ty⟩)) (hc : cs[j]? = some .nils)
    (h : JoinK E n c b ρ (H.set r (.row ⟨[.agg (cs.set j (.ref H.length 0 0 z 0 0))], sz, g, fz, ty⟩) ++ [.slot 0 z]) N A) : JoinK E n c b ρ H N A := .of (T.nz z hr hc h.h)
/-- Read as data alone, and not of the caller's row. -/
structure FrzX (H : Heap) (d d' : DV) : Prop where
  of ::
  h : ∃ us, Frz H d d' us ∧ 0 ∉ us
structure FrzLX (H : Heap) (l l' : List DV) : Prop where
  of ::
  h : ∃ us, FrzL H l l' us ∧ 0 ∉ us
theorem FrzX.pure {H : Heap} {d : DV} (h : pureB 9 d = true) : FrzX H d d := .of ⟨_, .pure (pureB_ok 9 _ h), by simp⟩
theorem FrzX.nils {H : Heap} {z : Nat} : FrzX H .nils (.imm z []) := .of ⟨[], Frz.nils0, by simp⟩
theorem FrzX.slot {H : Heap} {α : Type} {g : α → DV} {e : TypeId} {r z G cl len : Nat} {l : List α} (hg : Cel g z) (hr : H[r]? = some (slotR g e z G l)) (h0 : r.beq 0 = false) (hl : len = l.length) : FrzX H (.ref r 0 len z G cl) (.imm z (l.map g)) := .of ⟨_, .slot hg hr hl, by simp only [List.mem_singleton]; intro e; subst e; cases h0⟩
theorem FrzX.rowA {H : Heap} {α : Type} {g : α → DV} {r z G cl len : Nat} {l : List α} {fz : Bool} {ty : Option TypeId} (hg : Cel g z) (hr : H[r]? = some (.row ⟨l.map g, z, G, fz, ty⟩)) (h0 : r.beq 0 = false) (hl : len = l.length) : FrzX H (.ref r 0 len z G cl) (.imm z (l.map g)) := by
  subst hl
  have := Frz.rowG (g := g) (r := r) (z := z) (G := G) (cl := cl) (off := 0) (len := l.length) hg hr (by simp)
  simp only [List.drop_zero, List.take_length] at this
  exact .of ⟨_, this, by simp only [List.mem_singleton]; intro e; subst e; cases h0⟩
theorem FrzLX.nil {H : Heap} : FrzLX H [] [] := .of ⟨[], .nil, by simp⟩
theorem FrzLX.cons {H : Heap} {d d' : DV} {l l' : List DV} (h : FrzX H d d') (hl : FrzLX H l l') : FrzLX H (d :: l) (d' :: l') := by
  obtain ⟨u, h1, h2⟩ := h.h
  obtain ⟨u', h3, h4⟩ := hl.h
  exact .of ⟨_, .cons h1 h3, by simp [h2, h4]⟩
theorem FrzX.agg {H : Heap} {cs cs' : List DV} (h : FrzLX H cs cs') : FrzX H (.agg cs) (.agg cs') := by
  obtain ⟨u, h1, h2⟩ := h.h
  exact .of ⟨_, .agg h1, h2⟩
theorem FrzX.tup {H : Heap} {cs cs' : List DV} (h : FrzLX H cs cs') : FrzX H (.tup cs) (.tup cs') := by
  obtain ⟨u, h1, h2⟩ := h.h
  exact .of ⟨_, .tup h1, h2⟩
theorem RetM.fx {H : Heap} {r r' d : DV} {R R' : Row} (hf : FrzX H r r') (h0 : H[0]? = some (.row R)) (hR : pureRB R = true) (h : r' = d) (h2 : R = R') : RetM H r d R' := by
  obtain ⟨us, h1, h3⟩ := hf.h
  subst h h2
  exact .of ⟨us, h1, h0, pureRB_ok hR, h3⟩
theorem PrimM.ofX {E : Env} {f : FuncId} {fn : Func} {c : Code} {ds : List DV} {d : DV} {R R' : Row} {m : Nat} (hf : E.P.funcs[f]? = some fn) (hm : fn.ntmps = m) (hb : fn.body = some c) (hl : ds.length.ble m = true)
    (h : initK ds 0 .e fun ρ => tx E.one m c ρ [.row R] (fun ρ H => resK E.P ρ H fn.results.toList fun r => RetM H r d R') (retA E.P fn.results.toList fun r H => RetM H r d R')) : PrimM E f R ds d R' := .of0 <| fun hE => by
  subst hm
  rw [initK_eq] at h
  refine ⟨⟨fn, hf, by rw [hb]; rfl⟩, fun S μ w vs hG hH hv => calls_of_wp hf hb ?_⟩
  have hlen := Nat.le_of_ble_eq_true hl
  have hentry : Inv E.G E.NG S μ [.row R] w fn.ntmps (initR 0 ds .e, [.row R]) { tmps := vs ++ Array.replicate (fn.ntmps - vs.size) undef, defers := [] } w := by
    refine ⟨S, μ, hH, hG, Step.refl _ _ _ _ _, ?_, rfl, fun i => ?_⟩
    · simp
      have := hv.1
      omega
    · simp only
      rw [initR_get]
      by_cases hi : i < ds.length
      · rw [if_pos (by omega)]
        have h1 : ds[i]? = some ds[i] := List.getElem?_eq_getElem hi
        have h2 : vs[i]? = some (vs[i]'(by rw [← hv.1]; exact hi)) := Array.getElem?_eq_getElem _
        rw [Nat.sub_zero, List.getD_eq_getElem?_getD, h1, Array.getD_eq_getD_getElem?, Array.getElem?_append_left (by rw [← hv.1]; exact hi), h2]
        exact hv.2 i _ _ h1 h2
      · rw [if_neg (by omega)]
        exact .und _
  have fin : ∀ (s : St) (a : Act) (w1 : World), (∃ r, resultsD E.P s.2 s.1 fn.results.toList = some r ∧ RetM s.2 r d R') → Inv E.G E.NG S μ [.row R] w fn.ntmps s a w1 → a.defers = [] ∧ ∃ v, (results fn a.tmps).run E.P w1 = .ok v w1 ∧
      ∃ v' S' μ', Ending.returned v = .returned v' ∧ HR E.NG S' μ' [.row R'] w1 ∧ Step 1 S μ [.row R] w S' μ' [.row R'] w1 ∧ V S' mu0 w1 d v' := by
    intro s a w1 ⟨r, hres, hh⟩ hi
    obtain ⟨S', μ', k1, k2, k3, k4⟩ := hi.ex
    obtain ⟨v, z1, z2⟩ := results_ok (C := E.C) k1.toHRd k4 hres
    obtain ⟨us, hfz, h0, hR, hu⟩ := hh.h
    have k3' : Step 1 S μ [.row R] w S' μ' s.2 w1 := k3
    have hl0 : live s.2 0 := .inl ⟨R', h0⟩
    obtain ⟨p, hp, hrow⟩ := k1.row 0 R' h0
    refine ⟨k4.defers, v, z1, v, fun B c => S' B c ∨ ∃ r ∈ us, Shows s.2 μ' r B c, oneMu p, rfl, ?_, ?_, hfz _ _ _ _ _ (k1.toHRd.rows us) (fun _ _ h => Or.inl h) (fun r hr B c h => Or.inr ⟨r, hr, h⟩) z2⟩
    · have noSh : ∀ c, (∃ r ∈ us, Shows s.2 μ' r p.B c) → False := fun c ⟨r, hr, Rq, pq, q1, q2, q3, q4⟩ => by
        have e := k1.dist r 0 pq p (.inl ⟨Rq, q1⟩) hl0 q2 hp q3
        subst e
        exact hu hr
      refine ⟨⟨fun r R2 hr => ?_, fun r es hr => ?_⟩, fun r hr => ?_, fun r r' q q' hl hl' _ _ _ => by rw [live1 hl, live1 hl'], fun r q hl hq => ?_, k1.ng, fun B c hc => ?_, fun r g sz hr => ?_⟩
      · have e : r = 0 := by have := (List.getElem?_eq_some_iff.1 hr).1; simp at this; omega
        subst e
        simp at hr
        subst hr
        obtain ⟨h1, h2, cs, t, fz, h3, h4, h5, h6, h7, h8⟩ := hrow
        refine ⟨p, rfl, h1, h2, cs, t, fz, h3, h4, h5, h6, fun i e he => ⟨(h7 i e he).1, fun j c hc => ?_⟩, fun c hc => hc.elim (h8 c) fun hs => (noSh c hs).elim⟩
        obtain ⟨cv, q1, q2⟩ := (h7 i e he).2 j c hc
        exact ⟨cv, q1, ((hR e (List.mem_of_getElem? he) c (List.mem_of_getElem? hc) _ _ _ _ q2).same fun _ _ h => Or.inl h).lift⟩
      · have e : r = 0 := by have := (List.getElem?_eq_some_iff.1 hr).1; simp at this; omega
        subst e
        simp at hr
      · have hr' : 1 ≤ r := by simpa using hr
        simp only [oneMu]
        rw [if_neg (by omega)]
      · have e := live1 hl
        subst e
        cases hq
        exact k1.lo 0 p hl0 hp
      · rcases hc with hc | ⟨r, _, Rq, pq, q1, q2, q3, _⟩
        · exact k1.st B c hc
        · rw [← q3]; exact k1.lt (.inl ⟨Rq, q1⟩) q2
      · have e : r = 0 := by have := (List.getElem?_eq_some_iff.1 hr).1; simp at this; omega
        subst e
        simp at hr
    · refine ⟨fun B c h => .inl (k3'.sub B c h), k3'.agree, fun r hr q hq => ?_, fun _ => by simp, k3'.size, k3'.frame, fun r q hl hq => ?_, fun B c hc => ?_, k3'.io⟩
      · obtain ⟨p', q1, q2, q3⟩ := k3'.mu r hr q hq
        have e : r = 0 := by omega
        subst e
        rw [hp] at q1
        cases q1
        exact ⟨p, rfl, q2, q3⟩
      · have e := live1 hl
        subst e
        cases hq
        exact k3'.own 0 p hl0 hp
      · rcases hc with hc | ⟨r, _, Rq, pq, q1, q2, q3, _⟩
        · exact k3'.snew B c hc
        · rcases k3'.own r pq (.inl ⟨Rq, q1⟩) q2 with h | ⟨r0, p0, hl, hq0, e⟩
          · exact .inr (.inl (by omega))
          · exact .inr (.inr ⟨r0, p0, hl, hq0, e.trans q3⟩)
  refine (tx_ok c _ _ _ _ h).run hE.one S μ [.row R] w (Nat.le_refl _) _ w _ hentry (fun s a w1 hN hi => ?_) (fun e s a w1 hA hne hi => ?_)
  · exact fin s a w1 (resK_ok hN) hi
  · cases e with
    | ret => exact fin s a w1 (resK_ok hA) hi
    | _ => exact hA.elim
/-- A byte is that number. -/
theorem u8i (c : UInt8) (n : Nat) (h : n < 256) : ((c.toNat : Int) = (no_index (OfNat.ofNat n) : Int)) ↔ c = UInt8.ofNat n := by
  constructor
  · intro e
    apply UInt8.toNat_inj.1
    rw [UInt8.toNat_ofNat_of_lt' h]
    have : (OfNat.ofNat n : Int) = (n : Int) := rfl
    omega
  · intro e
    rw [e, UInt8.toNat_ofNat_of_lt' h]
    rfl
/-- string(b), of whatever rows b shows. -/
theorem Rc.cvF {E : Env} {n n0 : Nat} {ρ : Tr} {m : List UInt8} {e tt tu ty : TypeId} {x : Operand} {dst : Option Tmp} {pos : String} {aft : Array Edge} {gd : Option (Nat × Bool)} (hf : FrzE H (opd ρ x) (.imm 1 (m.map byteDV))) (h1 : E.P.underlying tt = some (.slice e)) (h2 : E.P.underlying tu = some .string) (h3 : E.P.underlying e = some (.int .u8)) :
    Rc E n n0 H ρ ⟨dst, .convert tt tu x, ty, pos, aft, gd⟩ ⟨Str m, H, .A⟩ := .of <| fun hE => ⟨⟨fun h => (by cases h), fun _ => rfl⟩, fun S μ w a HL K Q hH hG hr hR hA hK => by
  have hl := hA rfl
  subst hl
  obtain ⟨us, hf⟩ := hf
  obtain ⟨g1, g2, g3⟩ := frz_ok (vs := us) (S' := fun B c => S B c ∨ ∃ r ∈ us, Shows HL μ r B c) hH (fun _ _ h => .inl h) (fun _ _ h => h)
  have hv := hf S (fun B c => S B c ∨ ∃ r ∈ us, Shows HL μ r B c) μ w (a.eval x) (hH.toHRd.rows us) (fun _ _ h => .inl h) (fun r hr B c h => .inr ⟨r, hr, h⟩) (hr.opd x)
  classical
  let g : Operand → DV := fun y => if y = x then .imm 1 (m.map byteDV) else .und
  have hg : ∀ y, V (fun B c => S B c ∨ ∃ r ∈ us, Shows HL μ r B c) mu0 w (g y) (a.eval y) := fun y => by
    by_cases e : y = x
    · subst e
      simp only [g, if_pos]
      exact hv
    · simp only [g, if_neg e]
      exact .und _
  have he : evN E.P [] g (.convert tt tu x) = some (Str m) := by
    have hx : g x = Byt m := by simp only [g, if_pos]; rfl
    simp only [evN, h1, h2, h3, hx, Byt, elemsOf, bytes_back, Option.map_some]
    rfl
  unfold Oper.wp
  obtain ⟨v, h4, h5⟩ := evN_ok (o := ⟨dst, .convert tt tu x, ty, pos, aft, gd⟩) (HRd.nil (w := w)) hg he
  rw [h4]
  exact hK v S μ w hH (Step.refl _ _ _ _ _) (Flt.Str m _ _ _ _ _ _ _ h5)⟩
/-! Numbers held against numerals -/
theorem il1 (n a : Nat) : ((no_index (OfNat.ofNat n) : Int) < (a : Int)) ↔ OfNat.ofNat n < a := Int.ofNat_lt
theorem il2 (n a : Nat) : ((a : Int) < (no_index (OfNat.ofNat n) : Int)) ↔ a < OfNat.ofNat n := Int.ofNat_lt
theorem il3 (n a : Nat) : ((no_index (OfNat.ofNat n) : Int) ≤ (a : Int)) ↔ OfNat.ofNat n ≤ a := Int.ofNat_le
theorem il4 (n a : Nat) : ((a : Int) ≤ (no_index (OfNat.ofNat n) : Int)) ↔ a ≤ OfNat.ofNat n := Int.ofNat_le
theorem il5 (n a : Nat) : ((a : Int) = (no_index (OfNat.ofNat n) : Int)) ↔ a = OfNat.ofNat n := Int.ofNat_inj
end Go.Dev
