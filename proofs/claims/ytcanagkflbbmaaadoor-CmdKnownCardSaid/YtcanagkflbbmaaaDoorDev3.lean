/- The evaluator: regions, code, calls. -/
import Derived.Test.YtcanagkflbbmaaaDoorDev2
set_option linter.unusedVariables false
set_option linter.unusedSimpArgs false
/- The evaluator: regions, code, calls. -/
namespace Go.Dev
/-- What a function that is not walked into answers: a value that shares memory with what it was given, or a new slice of its own. -/
inductive PR where
  | val (d : DV)
  | own (sz : Nat) (l : List DV)

structure Ctx where
  P : Program
  prim : FuncId → List DV → Option PR
  imp : FuncId → Bool
  L : Nat
  m : Bool := false

def accL {α β : Type} (f : α → Option (β × List Nat)) : List α → Option (List β × List Nat)
  | [] => some ([], [])
  | a :: l => match f a with
    | some (b, vs) => match accL f l with
      | some (bs, us) => some (b :: bs, vs ++ us)
      | none => none
    | none => none

/-- A value as data alone; which rows it shows. -/
def fre (H : Heap) : Nat → DV → Option (DV × List Nat)
  | 0, _ => none
  | n + 1, d => match d with
    | .ref r off len sz g _ => match H[r]? with
      | some (.row R) => if R.g = g ∧ R.sz = sz ∧ off + len ≤ R.elems.length then
          (match accL (fre H n) ((R.elems.drop off).take len) with
          | some (l, vs) => some (.imm sz l, r :: vs)
          | none => none) else none
      | _ => none
    | .ptr r i off sz g => match H[r]? with
      | some (.row R) => if R.g = g ∧ R.sz = sz then
          (match R.elems[i]? with
          | some e => (match fre H n e with
            | some (e', vs) => some (.ipt e' off, r :: vs)
            | none => none)
          | none => none) else none
      | _ => none
    | .agg cs => match accL (fre H n) cs with
      | some (l, vs) => some (.agg l, vs)
      | none => none
    | .tup cs => match accL (fre H n) cs with
      | some (l, vs) => some (.tup l, vs)
      | none => none
    | .fn f cs => match accL (fre H n) cs with
      | some (l, vs) => some (.fn f l, vs)
      | none => none
    | .iface t v => match fre H n v with
      | some (v', vs) => some (.iface t v', vs)
      | none => none
    | .mp _ => none
    | .bfn .. => none
    | d => some (d, [])

/-- A value without any memory. -/
def flat : Nat → DV → Bool
  | 0, _ => false
  | n + 1, d => match d with
    | .bool _ | .int _ _ | .str _ | .nilp | .nils | .nilm | .nilf | .nili => true
    | .agg cs | .tup cs | .fn _ cs => cs.all (flat n)
    | .iface _ v => flat n v
    | _ => false

def frz1 (H : Heap) (r : Nat) : Heap :=
  match H[r]? with
  | some (.row R) => if R.fz then H else H.set r (.row { R with fz := true })
  | _ => H
def frz (vs : List Nat) (H : Heap) : Heap := vs.foldl frz1 H

/-- A row that is handed over whole: its place among the values. -/
def isTop (Hc : Heap) : DV → Option (Nat × Row × Nat)
  | .ref k off len sz g _ => match Hc[k]? with
    | some (.row R) => if R.g = g ∧ R.sz = sz ∧ off + len = R.elems.length then some (k, R, off) else none
    | _ => none
  | _ => none

def adoL (Hc : Heap) (base : Nat) : List DV → Option (List DV × List Nat × Option (Nat × Row))
  | [] => some ([], [], none)
  | d :: rest => match isTop Hc d with
    | some (k, R, off) => match accL (fre Hc 8) (R.elems.drop off), accL (fre Hc 8) rest with
      | some (l, vs), some (ds, us) => some (.ref base 0 l.length R.sz 0 l.length :: ds, vs ++ us, some (k, ⟨l, R.sz, 0, R.fz, none⟩))
      | _, _ => none
    | none => match fre Hc 8 d, adoL Hc base rest with
      | some (d', vs), some (ds, us, o) => some (d' :: ds, vs ++ us, o)
      | _, _ => none

def adoF (H1 : Heap) (wrap : List DV → DV) : Option (List DV × List Nat × Option (Nat × Row)) → Option (DV × Heap)
  | some (ds, _, none) => some (wrap ds, H1)
  | some (ds, us, some (k, R)) => some (wrap ds, H1 ++ [.row { R with fz := R.fz || us.contains k }])
  | none => none

def adopt (vs : List Nat) (H : Heap) (r : DV) (Hc : Heap) : Option (DV × Heap) :=
  match r with
  | .tup cs => adoF (frz vs H) .tup (adoL Hc H.length cs)
  | .agg cs => adoF (frz vs H) .agg (adoL Hc H.length cs)
  | d => adoF (frz vs H) (fun l => l.headD .und) (adoL Hc H.length [d])

abbrev CallF := FuncId → List DV → Heap → Option (DV × Heap)

/-- A call. -/
def evC (C : Ctx) (call : CallF) (H : Heap) (fid : FuncId) (as : List DV) : Option (DV × Heap) :=
  if C.imp fid then call fid as H
  else match accL (fre H 8) as with
    | none => none
    | some (as', vs) => match C.prim fid as' with
      | some (.val d) => if flat 8 d then some (d, H) else some (d, frz vs H)
      | some (.own sz l) => some (.ref H.length 0 l.length sz 0 l.length, frz vs H ++ [.row ⟨l, sz, 0, false, none⟩])
      | none => match call fid as' [] with
        | none => none
        | some (r, Hc) => if flat 8 r then some (r, H) else adopt vs H r Hc

def callOf (g : Operand → DV) : Op → Option (FuncId × List DV)
  | .call { callee := .value f, args, .. } => match g f with
    | .fn fid cs => some (fid, args.toList.map g ++ cs)
    | .bfn fid d => some (fid, d :: args.toList.map g)
    | _ => none
  | _ => none

theorem callOf_spec {g : Operand → DV} {op : Op} {fid : FuncId} {as : List DV} (h : callOf g op = some (fid, as)) : ∃ f args argTypes, op = .call { callee := .value f, args, argTypes } ∧
    ((∃ cs, g f = .fn fid cs ∧ as = args.toList.map g ++ cs) ∨ ∃ d, g f = .bfn fid d ∧ as = d :: args.toList.map g) := by
  unfold callOf at h
  split at h
  · rename_i f args argTypes
    split at h
    · rename_i fid' cs hg
      cases h
      exact ⟨f, args, argTypes, rfl, .inl ⟨cs, hg, rfl⟩⟩
    · rename_i fid' d hg
      cases h
      exact ⟨f, args, argTypes, rfl, .inr ⟨d, hg, rfl⟩⟩
    · cases h
  · cases h

/-- One operation. -/
def ev1 (C : Ctx) (call : CallF) (H : Heap) (g : Operand → DV) (op : Op) : Option (DV × Heap) :=
  match evN C.P H g op with
  | some d => some (d, H)
  | none => match evE C.P H g op with
    | some (d, eff) => some (d, eff.on H)
    | none => match callOf g op with
      | some (fid, as) => evC C call H fid as
      | none => none

def putD (ρ : Tr) (dst : Option Tmp) (d : DV) : Tr :=
  match dst with
  | some t => ρ.set t d
  | none => ρ

/-- Is an operation wanted? -/
def wantA (ops : Array Oper) (ρ : Tr) (o : Oper) : Option Bool :=
  match o.guard with
  | none => some true
  | some (j, want) => match (ops[j]?).bind (·.dst) with
    | none => some false
    | some t => match ρ.get t with
      | .bool b => some (b == want)
      | .und => none
      | _ => some false

abbrev St := Tr × Heap

def dstOk (n : Nat) (o : Oper) : Bool := match o.dst with | some t => decide (t < n) | none => true

def evSeq (C : Ctx) (call : CallF) (n : Nat) (ops : Array Oper) : List Oper → St → Option St
  | [], s => some s
  | o :: l, (ρ, H) =>
    if dstOk n o then
      match wantA ops ρ o with
      | none => none
      | some false => evSeq C call n ops l (putD ρ o.dst (.tup []), H)
      | some true => match ev1 C call H (opd ρ) o.op with
        | some (d, H') => evSeq C call n ops l (putD ρ o.dst d, H')
        | none => none
    else none

inductive Ex where
  | normal
  | exit (id : Nat)
  | ret
  deriving Inhabited

def evLoop (f : St → Option (Ex × St)) : Nat → St → Option (Ex × St)
  | 0, _ => none
  | n + 1, s => match f s with
    | some (.normal, s') => evLoop f n s'
    | r => r

/-- Code; reg: how a region whose order is open is told. -/
def evCode (C : Ctx) (call : CallF) (reg : Array Oper → St → Option St) (n : Nat) : Code → St → Option (Ex × St)
  | .skip, s => some (.normal, s)
  | .label _, s => some (.normal, s)
  | .region _ ops false, s => (evSeq C call n ops ops.toList s).map fun s => (.normal, s)
  | .region _ ops true, s => (reg ops s).map fun s => (.normal, s)
  | .seq a b, s => match evCode C call reg n a s with
    | some (.normal, s') => evCode C call reg n b s'
    | r => r
  | .cond c a b, s => match opd s.1 c with
    | .bool true => evCode C call reg n a s
    | .bool false => evCode C call reg n b s
    | _ => none
  | .block id c, s => match evCode C call reg n c s with
    | some (.exit id', s') => if id' = id then some (.normal, s') else some (.exit id', s')
    | r => r
  | .loop c, s => evLoop (evCode C call reg n c) C.L s
  | .exit id, s => some (.exit id, s)
  | .ret, s => some (.ret, s)
  | .scope c, s => evCode C call reg n c s
  | _, _ => none

/-- The registers at a call. -/
def initR : Nat → List DV → Tr → Tr
  | _, [], ρ => ρ
  | i, d :: ds, ρ => initR (i + 1) ds (ρ.set i d)

def resD (P : Program) (H : Heap) (ρ : Tr) : ResultVar → Option DV
  | .tmp t => some (ρ.get t)
  | .cell a t => evN P H (fun _ => ρ.get a) (.load t (.tmp a))

def resultsD (P : Program) (H : Heap) (ρ : Tr) (rs : List ResultVar) : Option DV :=
  match allSome (rs.map (resD P H ρ)) with
  | some [d] => some d
  | some ds => some (.tup ds)
  | none => none

def evFn (C : Ctx) (reg : CallF → Nat → Array Oper → St → Option St) (call : CallF) (f : FuncId) (args : List DV) (H : Heap) : Option (DV × Heap) :=
  match C.P.funcs[f]? with
  | none => none
  | some fn => match fn.body with
    | none => none
    | some c => if args.length ≤ fn.ntmps then
        match evCode C call (reg call fn.ntmps) fn.ntmps c (initR 0 args .e, H) with
        | some (.exit _, _) | none => none
        | some (_, ρ, H') => match resultsD C.P H' ρ fn.results.toList with
          | some d => some (d, H')
          | none => none
      else none

def ev (C : Ctx) (reg : CallF → Nat → Array Oper → St → Option St) : Nat → CallF
  | 0 => fun _ _ _ => none
  | n + 1 => evFn C reg (ev C reg n)
end Go.Dev

/- Values told as data alone; rows that are read as data from then on. -/
namespace Go.Dev
variable {P : Program} {S S' : Nat → Nat → Prop} {μ : Mu} {w w' : World} {H : Heap} {NG : Nat}

theorem accL_ok {α β : Type} (f : α → Option (β × List Nat)) : ∀ (l : List α) (bs : List β) (vs : List Nat), accL f l = some (bs, vs) → l.length = bs.length ∧ ∀ (i : Nat) a, l[i]? = some a → ∃ b us, f a = some (b, us) ∧ bs[i]? = some b ∧ ∀ r ∈ us, r ∈ vs
  | [], bs, vs, h => by cases h; exact ⟨rfl, fun i a h => by simp at h⟩
  | x :: l, bs, vs, h => by
    simp only [accL] at h
    split at h
    · rename_i b us hb
      split at h
      · rename_i bs' us' hr
        cases h
        obtain ⟨h1, h2⟩ := accL_ok f l bs' us' hr
        refine ⟨by simp [h1], fun i a ha => ?_⟩
        cases i with
        | zero => simp at ha; subst ha; exact ⟨b, us, hb, rfl, fun r hr => by simp [hr]⟩
        | succ i =>
          obtain ⟨c, qs, q1, q2, q3⟩ := h2 i a (by simpa using ha)
          exact ⟨c, qs, q1, by simpa using q2, fun r hr => by simp [q3 r hr]⟩
      · cases h
    · cases h

/-- The cells that a row shows. -/
def Shows (H : Heap) (μ : Mu) (r B c : Nat) : Prop := ∃ R p, H[r]? = some (.row R) ∧ μ r = some p ∧ p.B = B ∧ c < p.o + R.elems.length * R.sz

theorem fre_shape {n : Nat} {e e' : DV} {us : List Nat} (h : fre H n e = some (e', us)) (hne : ∀ cs, e ≠ .agg cs) : ∀ cs, e' ≠ .agg cs := by
  intro cs hc
  subst hc
  cases n with
  | zero => cases h
  | succ n =>
    simp only [fre] at h
    split at h
    · split at h
      · split at h
        · split at h <;> cases h
        · cases h
      · cases h
    · split at h
      · split at h
        · split at h
          · split at h <;> cases h
          · cases h
        · cases h
      · cases h
    · exact hne _ rfl
    · split at h <;> cases h
    · split at h <;> cases h
    · split at h <;> cases h
    · cases h
    · cases h
    · cases h
      exact hne _ rfl

/-- What is told as data is that data. -/
theorem fre_ok (hH : HRd S μ H w) (hS : ∀ B c, S B c → S' B c) : ∀ (n : Nat) (d d' : DV) (vs : List Nat) (v : Value), fre H n d = some (d', vs) → V S μ w d v →
    (∀ r ∈ vs, ∀ B c, Shows H μ r B c → S' B c) → V S' mu0 w d' v
  | 0, _, _, _, _, h, _, _ => by cases h
  | n + 1, d, d', vs, v, h, hv, hsh => by
    have ih := fre_ok hH hS n
    have many : ∀ (cs cs' : List DV) (us : List Nat) (xs : Array Value), accL (fre H n) cs = some (cs', us) → (∀ r ∈ us, ∀ B c, Shows H μ r B c → S' B c) → cs.length = xs.size →
        (∀ (i : Nat) (c : DV) (x : Value), cs[i]? = some c → xs[i]? = some x → V S μ w c x) → cs'.length = xs.size ∧ ∀ (i : Nat) (c : DV) (x : Value), cs'[i]? = some c → xs[i]? = some x → V S' mu0 w c x := by
      intro cs cs' us xs ha hu hl hx
      obtain ⟨a1, a2⟩ := accL_ok _ cs cs' us ha
      refine ⟨by omega, fun i c x hc hxi => ?_⟩
      have hlt := (List.getElem?_eq_some_iff.1 hc).1
      obtain ⟨b, qs, q1, q2, q3⟩ := a2 i cs[i] (List.getElem?_eq_getElem (by omega))
      rw [hc] at q2
      cases q2
      exact ih _ _ _ _ q1 (hx i _ _ (List.getElem?_eq_getElem (by omega)) hxi) (fun r hr => hu r (q3 r hr))
    have elem : ∀ (e e' : DV) (us : List Nat) (f : Nat → Value), fre H n e = some (e', us) → (∀ r ∈ us, ∀ B c, Shows H μ r B c → S' B c) →
        (∀ (j : Nat) (c : DV), e.cells[j]? = some c → V S μ w c (f j)) → e'.cells.length = e.cells.length ∧ ∀ (j : Nat) (c : DV), e'.cells[j]? = some c → V S' mu0 w c (f j) := by
      intro e e' us f hf hu hx
      by_cases hagg : ∃ cs, e = .agg cs
      · obtain ⟨cs, rfl⟩ := hagg
        have hvv : V S μ w (.agg cs) (.agg ((List.range cs.length).map f).toArray) := .agg _ _ (by simp) fun i c x hc hxi => by
          have hlt := (List.getElem?_eq_some_iff.1 hc).1
          simp [hlt] at hxi
          subst hxi
          exact hx i c hc
        have := ih _ _ _ _ hf hvv hu
        generalize hgen : Value.agg ((List.range cs.length).map f).toArray = q at this
        cases this with
        | agg cs' vs' hl hv =>
          cases hgen
          refine ⟨by simpa [DV.cells] using hl, fun j c hj => ?_⟩
          have hj' : cs'[j]? = some c := hj
          have hlt := (List.getElem?_eq_some_iff.1 hj').1
          simp at hl
          exact hv j c (f j) hj' (by simp [show j < cs.length by omega])
        | und =>
          exfalso
          cases n with
          | zero => cases hf
          | succ n => simp only [fre] at hf; split at hf <;> cases hf
        | _ => cases hgen
      · have hne : ∀ cs, e ≠ .agg cs := fun cs h => hagg ⟨cs, h⟩
        have hne' := fre_shape hf hne
        have ec : ∀ x : DV, (∀ cs, x ≠ .agg cs) → x.cells = [x] := fun x hx => by cases x <;> first | rfl | exact absurd rfl (hx _)
        rw [ec e hne, ec e' hne'] at *
        refine ⟨rfl, fun j c hj => ?_⟩
        cases j with
        | succ j => simp at hj
        | zero =>
          simp at hj
          subst hj
          exact ih _ _ _ _ hf (hx 0 e (by simp)) hu
    simp only [fre] at h
    split at h
    · -- a row's piece
      rename_i r off len sz g cl
      split at h
      · rename_i R hr
        split at h
        · rename_i hc
          obtain ⟨c1, c2, c3⟩ := hc
          split at h
          · rename_i l us ha
            cases h
            obtain ⟨a1, a2⟩ := accL_ok _ _ l us ha
            have hlen : ((R.elems.drop off).take len).length = len := by simp; omega
            obtain ⟨p, hp, h1, h2, cs, t, fz, h3, h4, h5, h6, h7, h8⟩ := hH.row r R hr
            cases hv with
            | ref _ _ _ _ _ _ a cap p' hp' hg' hcap hcl ha' hn =>
              rw [hp] at hp'
              cases hp'
              obtain ⟨e1, e2, e3⟩ := ha' (by omega)
              by_cases hl0 : len = 0
              · have : l = [] := List.eq_nil_of_length_eq_zero (by omega)
                subst this
                subst hl0
                exact .imm0 _ _ _
              · have ea : a = some ⟨p.B, p.o + off * p.sz, none⟩ := e3.resolve_left (by omega)
                subst ea
                have hcell : ∀ (i : Nat) (e : DV) (j : Nat) (c : DV), ((R.elems.drop off).take len)[i]? = some e → e.cells[j]? = some c → ∃ cv, cellAt w p.B (p.o + off * p.sz + i * sz + j) = some cv ∧ V S μ w c cv ∧ Shows H μ r p.B (p.o + off * p.sz + i * sz + j) := by
                  intro i e j c hi hj
                  obtain ⟨hi1, hi2⟩ := getElem?_sub _ _ _ _ hi
                  obtain ⟨cv, q1, q2⟩ := (h7 _ _ hi2).2 j c hj
                  have hjl := (List.getElem?_eq_some_iff.1 hj).1
                  rw [(h7 _ _ hi2).1] at hjl
                  have hil := (List.getElem?_eq_some_iff.1 hi2).1
                  have hm : (off + i + 1) * R.sz ≤ R.elems.length * R.sz := Nat.mul_le_mul_right _ hil
                  rw [Nat.add_mul, Nat.one_mul] at hm
                  have hadd : p.o + off * p.sz + i * sz + j = p.o + (off + i) * R.sz + j := by rw [Nat.add_mul, ← e1, c2]; omega
                  refine ⟨cv, ?_, q2, R, p, hr, hp, rfl, by rw [hadd]; omega⟩
                  rw [hadd]
                  simp only [cellAt, h3]
                  exact q1
                have helem : ∀ (i : Nat) (e' : DV), l[i]? = some e' → ∃ e us', ((R.elems.drop off).take len)[i]? = some e ∧ fre H n e = some (e', us') ∧ ∀ q ∈ us', q ∈ us := by
                  intro i e' hi
                  have hlt := (List.getElem?_eq_some_iff.1 hi).1
                  obtain ⟨b, qs, q1, q2, q3⟩ := a2 i _ (List.getElem?_eq_getElem (by omega))
                  rw [hi] at q2
                  cases q2
                  exact ⟨_, qs, List.getElem?_eq_getElem (by omega), q1, q3⟩
                have hl : l.length = len := by omega
                have main := V.imm (S := S') (μ := mu0) (w := w) sz l p.B (p.o + off * p.sz) cap (fun i j => (cellAt w p.B (p.o + off * p.sz + i * sz + j)).getD undef) (by omega)
                  (fun i e' hi => by
                    obtain ⟨e, us', q1, q2, q3⟩ := helem i e' hi
                    obtain ⟨hi1, hi2⟩ := getElem?_sub _ _ _ _ q1
                    have := (elem e e' us' (fun j => (cellAt w p.B (p.o + off * p.sz + i * sz + j)).getD undef) q2 (fun q hq => hsh q (by simp [q3 q hq])) (fun j c hj => by
                      obtain ⟨cv, r1, r2, _⟩ := hcell i e j c q1 hj
                      rw [r1]; exact r2)).1
                    rw [this, (h7 _ _ hi2).1, c2])
                  (fun i e' j c' hi hj => by
                    obtain ⟨e, us', q1, q2, q3⟩ := helem i e' hi
                    have el := (elem e e' us' (fun j => (cellAt w p.B (p.o + off * p.sz + i * sz + j)).getD undef) q2 (fun q hq => hsh q (by simp [q3 q hq])) (fun j c hj => by
                      obtain ⟨cv, r1, r2, _⟩ := hcell i e j c q1 hj
                      rw [r1]; exact r2)).1
                    have hjl := (List.getElem?_eq_some_iff.1 hj).1
                    obtain ⟨cv, r1, r2, r3⟩ := hcell i e j _ q1 (List.getElem?_eq_getElem (by omega))
                    exact ⟨by rw [r1]; rfl, hsh r (by simp) _ _ r3⟩)
                  (fun i e' j c' hi hj => by
                    obtain ⟨e, us', q1, q2, q3⟩ := helem i e' hi
                    exact (elem e e' us' (fun j => (cellAt w p.B (p.o + off * p.sz + i * sz + j)).getD undef) q2 (fun q hq => hsh q (by simp [q3 q hq])) (fun j c hj => by
                      obtain ⟨cv, r1, r2, _⟩ := hcell i e j c q1 hj
                      rw [r1]; exact r2)).2 j c' hj)
                rw [hl] at main
                exact main
          · cases h
        · cases h
      · cases h
    · -- an address
      rename_i r i off sz g
      split at h
      · rename_i R hr
        split at h
        · rename_i hc
          split at h
          · rename_i e he
            split at h
            · rename_i e' us hf
              cases h
              obtain ⟨p, hp, hrow, rfl, hsz, hcells⟩ := hH.at_ptr hr hc.1 hc.2 he hv
              have hv' := elem e e' us (fun j => (cellAt w p.B (p.o + i * sz + j)).getD undef) hf (fun q hq => hsh q (by simp [hq])) (fun j c hj => by
                obtain ⟨cv, r1, r2⟩ := hcells j c hj
                rw [r1]; exact r2)
              refine .ipt e' off p.B (p.o + i * sz) _ (fun j c hj => ?_) hv'.2
              have hjl := (List.getElem?_eq_some_iff.1 hj).1
              obtain ⟨cv, r1, r2⟩ := hcells j _ (List.getElem?_eq_getElem (by omega))
              refine ⟨by rw [r1]; rfl, hsh r (by simp) _ _ ⟨R, p, hr, hp, rfl, ?_⟩⟩
              have hil := (List.getElem?_eq_some_iff.1 he).1
              have hm : (i + 1) * R.sz ≤ R.elems.length * R.sz := Nat.mul_le_mul_right _ hil
              rw [Nat.add_mul, Nat.one_mul] at hm
              rw [hc.2] at hm ⊢
              omega
            · cases h
          · cases h
        · cases h
      · cases h
    · split at h
      · rename_i l us ha
        cases h
        cases hv with
        | agg _ xs hl hx =>
          obtain ⟨m1, m2⟩ := many _ _ _ xs ha hsh hl hx
          exact .agg _ _ m1 m2
      · cases h
    · split at h
      · rename_i l us ha
        cases h
        cases hv with
        | tup _ xs hl hx =>
          obtain ⟨m1, m2⟩ := many _ _ _ xs ha hsh hl hx
          exact .tup _ _ m1 m2
      · cases h
    · split at h
      · rename_i l us ha
        cases h
        cases hv with
        | fn _ _ xs hl hx =>
          obtain ⟨m1, m2⟩ := many _ _ _ xs ha hsh hl hx
          exact .fn _ _ _ m1 m2
      · cases h
    · split at h
      · rename_i v' us ha
        cases h
        cases hv with
        | iface _ _ x hx => exact .iface _ _ _ (ih _ _ _ _ ha hx hsh)
      · cases h
    · cases h
    · cases h
    · cases h
      cases hv with
      | und v => exact .und v
      | bool b => exact .bool b
      | int k n => exact .int k n
      | str s => exact .str s
      | nilp => exact .nilp
      | opq a => exact .opq a
      | ipt e off B o cv h hv => exact .ipt e off B o cv (fun j c hj => ⟨(h j c hj).1, hS _ _ (h j c hj).2⟩) (fun j c hj => (hv j c hj).mono hS (MuLe.refl _) (fun _ _ _ => rfl))
      | nils => exact .nils
      | imm0 sz a cap => exact .imm0 sz a cap
      | imm sz l B o cap cv hc hl h hv => exact .imm sz l B o cap cv hc hl (fun i e j c hi hj => ⟨(h i e j c hi hj).1, hS _ _ (h i e j c hi hj).2⟩) (fun i e j c hi hj => (hv i e j c hi hj).mono hS (MuLe.refl _) (fun _ _ _ => rfl))
      | nilm => exact .nilm
      | nilf => exact .nilf
      | nili => exact .nili
      | _ => exfalso; solve_by_elim [rfl]

/-- A value without any memory is what it is, wherever. -/
theorem flat_ok : ∀ (n : Nat) (d : DV) (v : Value) (μ' : Mu), flat n d = true → V S μ w d v → V S' μ' w' d v
  | 0, _, _, _, h, _ => by cases h
  | n + 1, d, v, μ', h, hv => by
    have many : ∀ cs : List DV, cs.all (flat n) = true → ∀ c ∈ cs, flat n c = true := fun cs h c hc => List.all_eq_true.1 h c hc
    cases hv with
    | bool b => exact .bool b
    | int k n => exact .int k n
    | str s => exact .str s
    | nilp => exact .nilp
    | nils => exact .nils
    | nilm => exact .nilm
    | nilf => exact .nilf
    | nili => exact .nili
    | agg cs vs hl hx => exact .agg _ _ hl fun i c x hc hxi => flat_ok n c x μ' (many cs h c (List.mem_of_getElem? hc)) (hx i c x hc hxi)
    | tup cs vs hl hx => exact .tup _ _ hl fun i c x hc hxi => flat_ok n c x μ' (many cs h c (List.mem_of_getElem? hc)) (hx i c x hc hxi)
    | fn f cs vs hl hx => exact .fn _ _ _ hl fun i c x hc hxi => flat_ok n c x μ' (many cs h c (List.mem_of_getElem? hc)) (hx i c x hc hxi)
    | iface t d v hx => exact .iface _ _ _ (flat_ok n d v μ' h hx)
    | _ => cases h
end Go.Dev

/- Calls: what comes back is what the data say. -/
namespace Go.Dev
variable {P : Program} {S S' : Nat → Nat → Prop} {μ : Mu} {w w' : World} {H : Heap} {NG : Nat}

theorem frz1_get (H : Heap) (q r : Nat) : (frz1 H q).length = H.length ∧ (∀ R', (frz1 H q)[r]? = some (.row R') → ∃ R, H[r]? = some (.row R) ∧ R' = { R with fz := R'.fz } ∧ (R'.fz = true ↔ R.fz = true ∨ r = q)) ∧
    (∀ es, (frz1 H q)[r]? = some (.map es) ↔ H[r]? = some (.map es)) ∧ (∀ R, H[r]? = some (.row R) → ∃ R', (frz1 H q)[r]? = some (.row R') ∧ R' = { R with fz := R'.fz }) := by
  unfold frz1
  split
  · rename_i R hq
    have hlt := (List.getElem?_eq_some_iff.1 hq).1
    by_cases hfz : R.fz = true
    · rw [if_pos hfz]
      refine ⟨rfl, fun R' h => ⟨R', h, rfl, ⟨.inl, ?_⟩⟩, fun _ => Iff.rfl, fun R' h => ⟨R', h, rfl⟩⟩
      rintro (h1 | h1)
      · exact h1
      · subst h1
        rw [hq] at h
        cases h
        exact hfz
    · rw [if_neg hfz]
      refine ⟨by simp, fun R' h => ?_, fun es => ?_, fun R' h => ?_⟩
      · by_cases e : q = r
        · subst e
          rw [List.getElem?_set_self hlt] at h
          cases h
          exact ⟨R, hq, rfl, by simp⟩
        · rw [List.getElem?_set_ne e] at h
          exact ⟨R', h, rfl, ⟨.inl, fun h1 => h1.resolve_right (Ne.symm e)⟩⟩
      · by_cases e : q = r
        · subst e
          rw [List.getElem?_set_self hlt, hq]
          simp
        · rw [List.getElem?_set_ne e]
      · by_cases e : q = r
        · subst e
          rw [hq] at h
          cases h
          exact ⟨_, List.getElem?_set_self hlt, rfl⟩
        · exact ⟨R', by rw [List.getElem?_set_ne e]; exact h, rfl⟩
  · rename_i hno
    refine ⟨rfl, fun R' h => ⟨R', h, rfl, ⟨.inl, fun h1 => h1.elim id fun e => ?_⟩⟩, fun _ => Iff.rfl, fun R' h => ⟨R', h, rfl⟩⟩
    subst e
    exact absurd h (hno R')

theorem frz_get (r : Nat) : ∀ (vs : List Nat) (H : Heap), (frz vs H).length = H.length ∧ (∀ R', (frz vs H)[r]? = some (.row R') → ∃ R, H[r]? = some (.row R) ∧ R' = { R with fz := R'.fz } ∧ (R'.fz = true ↔ R.fz = true ∨ r ∈ vs)) ∧
    (∀ es, (frz vs H)[r]? = some (.map es) ↔ H[r]? = some (.map es)) ∧ (∀ R, H[r]? = some (.row R) → ∃ R', (frz vs H)[r]? = some (.row R') ∧ R' = { R with fz := R'.fz })
  | [], H => ⟨rfl, fun R' h => ⟨R', h, rfl, by simp⟩, fun _ => Iff.rfl, fun R h => ⟨R, h, rfl⟩⟩
  | q :: vs, H => by
    obtain ⟨a1, a2, a3, a4⟩ := frz1_get H q r
    obtain ⟨b1, b2, b3, b4⟩ := frz_get r vs (frz1 H q)
    have e : frz (q :: vs) H = frz vs (frz1 H q) := rfl
    rw [e]
    refine ⟨by rw [b1, a1], fun R' h => ?_, fun es => (b3 es).trans (a3 es), fun R h => ?_⟩
    · obtain ⟨R1, h1, e1, i1⟩ := b2 R' h
      obtain ⟨R2, h2, e2, i2⟩ := a2 R1 h1
      refine ⟨R2, h2, by rw [e1, e2], ?_⟩
      rw [i1, i2, List.mem_cons]
      constructor
      · rintro ((h | h) | h)
        · exact .inl h
        · exact .inr (.inl h)
        · exact .inr (.inr h)
      · rintro (h | h | h)
        · exact .inl (.inl h)
        · exact .inl (.inr h)
        · exact .inr h
    · obtain ⟨R1, h1, e1⟩ := a4 R h
      obtain ⟨R2, h2, e2⟩ := b4 R1 h1
      exact ⟨R2, h2, by rw [e2, e1]⟩

theorem frz_live {vs : List Nat} {r : Nat} : live (frz vs H) r ↔ live H r := by
  obtain ⟨_, a2, a3, a4⟩ := frz_get r vs H
  constructor
  · rintro (⟨R, h⟩ | ⟨es, h⟩)
    · obtain ⟨R', h', _⟩ := a2 R h
      exact .inl ⟨R', h'⟩
    · exact .inr ⟨es, (a3 es).1 h⟩
  · rintro (⟨R, h⟩ | ⟨es, h⟩)
    · obtain ⟨R', h', _⟩ := a4 R h
      exact .inl ⟨R', h'⟩
    · exact .inr ⟨es, (a3 es).2 h⟩

theorem frz1_slot {H : Heap} {v r g sz : Nat} (h : (frz1 H v)[r]? = some (.slot g sz)) : H[r]? = some (.slot g sz) := by
  unfold frz1 at h
  split at h
  · rename_i R hR
    split at h
    · exact h
    · rw [List.getElem?_set] at h
      split at h
      · split at h <;> cases h
      · exact h
  · exact h
theorem frz_slot : ∀ (vs : List Nat) (H : Heap) {r g sz : Nat}, (frz vs H)[r]? = some (.slot g sz) → H[r]? = some (.slot g sz)
  | [], _, _, _, _, h => h
  | v :: vs, H, _, _, _, h => frz1_slot (frz_slot vs (frz1 H v) h)

/-- Rows that are read as data from now on. -/
theorem frz_ok {vs : List Nat} (h : HR NG S μ H w) (hS : ∀ B c, S B c → S' B c) (hS' : ∀ B c, S' B c → S B c ∨ ∃ r ∈ vs, Shows H μ r B c) :
    HR NG S' μ (frz vs H) w ∧ Step H.length S μ H w S' μ (frz vs H) w ∧ (∀ d v, V S μ w d v → V S' μ w d v) := by
  have hV : ∀ d v, V S μ w d v → V S' μ w d v := fun d v hv => hv.mono hS (MuLe.refl _) (fun _ _ _ => rfl)
  have hlen := (frz_get 0 vs H).1
  have hshow : ∀ r B c, Shows H μ r B c → live H r ∧ ∃ p, μ r = some p ∧ p.B = B := fun r B c ⟨R, p, q1, q2, q3, _⟩ => ⟨.inl ⟨R, q1⟩, p, q2, q3⟩
  refine ⟨⟨⟨fun r R hr => ?_, fun r es hr => ?_⟩, fun r hr => h.no r (by omega), fun r r' p p' hl hl' => h.dist r r' p p' (frz_live.1 hl) (frz_live.1 hl'), fun r p hl => h.lo r p (frz_live.1 hl), h.ng, fun B c hc => ?_, fun r g sz hr => h.sl r g sz (frz_slot vs H hr)⟩,
    ⟨hS, fun _ _ _ => rfl, fun r _ p hp => ⟨p, hp, Nat.le_refl _, fun _ => rfl⟩, fun hb => by omega, Nat.le_refl _, fun _ _ _ => rfl, fun r p hl hp => .inr ⟨r, p, frz_live.1 hl, hp, rfl⟩, fun B c hc => ?_, Io.refl _⟩, hV⟩
  · obtain ⟨R0, hr0, e1, i1⟩ := (frz_get r vs H).2.1 R hr
    obtain ⟨p, hp, h1, h2, cs, t, fz, h3, h4, h5, h6, h7, h8⟩ := h.row r R0 hr0
    rw [e1]
    refine ⟨p, hp, h1, h2, cs, t, fz, h3, h4, h5, h6, fun i e he => ⟨(h7 i e he).1, fun j c hj => ?_⟩, fun c hc => ?_⟩
    · obtain ⟨cv, q1, q2⟩ := (h7 i e he).2 j c hj
      exact ⟨cv, q1, hV _ _ q2⟩
    · rcases hS' _ _ hc with hc | ⟨q, hq, hs⟩
      · obtain ⟨s1, s2⟩ := h8 c hc
        exact ⟨i1.2 (.inl s1), s2⟩
      · obtain ⟨Rq, pq, z1, z2, z3, z4⟩ := hs
        have e := h.dist q r pq p (.inl ⟨Rq, z1⟩) (.inl ⟨R0, hr0⟩) z2 hp z3
        subst e
        rw [hr0] at z1
        cases z1
        rw [hp] at z2
        cases z2
        exact ⟨i1.2 (.inr hq), z4⟩
  · obtain ⟨p, hp, hg, ents, clock, hb, hm⟩ := h.map r es (((frz_get r vs H).2.2.1 es).1 hr)
    exact ⟨p, hp, hg, ents, clock, hb, hm.mono hV⟩
  · rcases hS' _ _ hc with hc | ⟨q, hq, hs⟩
    · exact h.st B c hc
    · obtain ⟨hl, p, hp, rfl⟩ := hshow q B c hs
      exact h.lt hl hp
  · rcases hS' _ _ hc with hc | ⟨q, hq, hs⟩
    · exact .inl hc
    · obtain ⟨hl, p, hp, e⟩ := hshow q B c hs
      exact .inr (.inr ⟨q, p, hl, hp, e⟩)

/-- A function with a body. -/
def HasBody (P : Program) (f : FuncId) : Prop := ∃ fn, P.funcs[f]? = some fn ∧ fn.body.isSome = true

/-- What a call comes to. -/
def After (NG : Nat) (S : Nat → Nat → Prop) (μ : Mu) (H : Heap) (w : World) (d : DV) (H' : Heap) (e : Ending) (w' : World) : Prop :=
  ∃ v S' μ', e = .returned v ∧ HR NG S' μ' H' w' ∧ Step H.length S μ H w S' μ' H' w' ∧ V S' μ' w' d v

def CallOK (C : Ctx) (G : World → Prop) (NG : Nat) (call : CallF) : Prop :=
  ∀ f ds H r H', call f ds H = some (r, H') → HasBody C.P f ∧ ∀ S μ w (vs : Array Value), HR NG S μ H w → G w → CR S μ w ds vs → Calls C.P f vs w (After NG S μ H w r H')

/-- What a function that is not walked into comes to. -/
def PrimOK (C : Ctx) (G : World → Prop) (NG : Nat) : Prop :=
  ∀ f ds pr, C.prim f ds = some pr → HasBody C.P f ∧ ∀ S w (vs : Array Value), G w → NG ≤ w.heap.size → (∀ B c, S B c → B < w.heap.size) → CR S mu0 w ds vs → Calls C.P f vs w fun e w' =>
    ∃ v S', e = .returned v ∧ (∀ B c, S B c → S' B c) ∧ (∀ B c, S' B c → S B c ∨ w.heap.size ≤ B) ∧ (∀ B c, S' B c → B < w'.heap.size) ∧ w.heap.size ≤ w'.heap.size ∧ (∀ b, b < w.heap.size → w'.heap[b]? = w.heap[b]?) ∧ Io w w' ∧
      match pr with
      | .val d => V S' mu0 w' d v
      | .own sz l => ∃ p cap, RowOK S' mu0 w' ⟨l, sz, 0, false, none⟩ p ∧ w.heap.size ≤ p.B ∧ l.length ≤ cap ∧ cap ≤ p.C ∧ v = .slice (some ⟨p.B, p.o, none⟩) l.length cap

theorem CR.mono {S' : Nat → Nat → Prop} {μ' : Mu} {cs : List DV} {vs : Array Value} (h : CR S μ w cs vs) (hV : ∀ d v, V S μ w d v → V S' μ' w' d v) : CR S' μ' w' cs vs :=
  ⟨h.1, fun i c v hc hv => hV _ _ (h.2 i c v hc hv)⟩

theorem fre_CR (hH : HRd S μ H w) (hS : ∀ B c, S B c → S' B c) {n : Nat} {ds ds' : List DV} {us : List Nat} {vs : Array Value} (ha : accL (fre H n) ds = some (ds', us)) (hsh : ∀ r ∈ us, ∀ B c, Shows H μ r B c → S' B c) (hv : CR S μ w ds vs) : CR S' mu0 w ds' vs := by
  obtain ⟨a1, a2⟩ := accL_ok _ _ _ _ ha
  refine ⟨by rw [← a1]; exact hv.1, fun i c x hc hx => ?_⟩
  have hlt := (List.getElem?_eq_some_iff.1 hc).1
  obtain ⟨b, qs, q1, q2, q3⟩ := a2 i ds[i] (List.getElem?_eq_getElem (by omega))
  rw [hc] at q2
  cases q2
  exact fre_ok hH hS n _ _ _ _ q1 (hv.2 i _ _ (List.getElem?_eq_getElem (by omega)) hx) (fun r hr => hsh r (q3 r hr))
end Go.Dev

/- Calls: a row that is handed over whole; the call of a function. -/
namespace Go.Dev
variable {P : Program} {S S' : Nat → Nat → Prop} {μ : Mu} {w w' : World} {H : Heap} {NG : Nat}

theorem fre_elem (hH : HRd S μ H w) (hS : ∀ B c, S B c → S' B c) {n : Nat} {e e' : DV} {us : List Nat} {f : Nat → Value} (hf : fre H n e = some (e', us)) (hu : ∀ r ∈ us, ∀ B c, Shows H μ r B c → S' B c)
    (hx : ∀ (j : Nat) (c : DV), e.cells[j]? = some c → V S μ w c (f j)) : e'.cells.length = e.cells.length ∧ ∀ (j : Nat) (c : DV), e'.cells[j]? = some c → V S' mu0 w c (f j) := by
  have ih := fre_ok hH hS n
  by_cases hagg : ∃ cs, e = .agg cs
  · obtain ⟨cs, rfl⟩ := hagg
    have hvv : V S μ w (.agg cs) (.agg ((List.range cs.length).map f).toArray) := .agg _ _ (by simp) fun i c x hc hxi => by
      have hlt := (List.getElem?_eq_some_iff.1 hc).1
      simp [hlt] at hxi
      subst hxi
      exact hx i c hc
    have := ih _ _ _ _ hf hvv hu
    generalize hgen : Value.agg ((List.range cs.length).map f).toArray = q at this
    cases this with
    | agg cs' vs' hl hv =>
      cases hgen
      refine ⟨by simpa [DV.cells] using hl, fun j c hj => ?_⟩
      have hj' : cs'[j]? = some c := hj
      have hlt := (List.getElem?_eq_some_iff.1 hj').1
      simp at hl
      exact hv j c (f j) hj' (by simp [show j < cs.length by omega])
    | und =>
      exfalso
      cases n with
      | zero => cases hf
      | succ n => simp only [fre] at hf; split at hf <;> cases hf
    | _ => cases hgen
  · have hne : ∀ cs, e ≠ .agg cs := fun cs h => hagg ⟨cs, h⟩
    have hne' := fre_shape hf hne
    have ec : ∀ x : DV, (∀ cs, x ≠ .agg cs) → x.cells = [x] := fun x hx => by cases x <;> first | rfl | exact absurd rfl (hx _)
    rw [ec e hne, ec e' hne'] at *
    refine ⟨rfl, fun j c hj => ?_⟩
    cases j with
    | succ j => simp at hj
    | zero =>
      simp at hj
      subst hj
      exact ih _ _ _ _ hf (hx 0 e (by simp)) hu

theorem isTop_spec {d : DV} {k off : Nat} {R : Row} (h : isTop H d = some (k, R, off)) : ∃ len cl, d = .ref k off len R.sz R.g cl ∧ H[k]? = some (.row R) ∧ off + len = R.elems.length := by
  unfold isTop at h
  split at h
  · split at h
    · split at h
      · rename_i hr hc
        cases h
        obtain ⟨c1, c2, c3⟩ := hc
        subst c1 c2
        exact ⟨_, _, rfl, hr, c3⟩
      · cases h
    · cases h
  · cases h

/-- What the row that is handed over is, where it then stands. -/
def Adopted (NG0 : Nat) (S' : Nat → Nat → Prop) (w : World) (base : Nat) (R : Row) (us : List Nat) (k : Nat) (p : Pl) : Prop :=
  RowOK S' mu0 w { R with fz := R.fz || us.contains k } p ∧ NG0 ≤ p.B ∧ p.B < w.heap.size

theorem adoL_ok (hH : HR NG S μ H w) (hS : ∀ B c, S B c → S' B c) {NG0 base : Nat} (hlo : ∀ r p, live H r → μ r = some p → NG0 ≤ p.B) : ∀ (ds ds' : List DV) (us : List Nat) (o : Option (Nat × Row)) (vs : List Value), adoL H base ds = some (ds', us, o) →
    ds.length = vs.length → (∀ (i : Nat) (d : DV) (v : Value), ds[i]? = some d → vs[i]? = some v → V S μ w d v) →
    ∀ (all : List Nat), (∀ r ∈ us, r ∈ all) → (∀ r ∈ all, ∀ B c, Shows H μ r B c → S' B c) → (∀ B c, S' B c → S B c ∨ ∃ r ∈ all, Shows H μ r B c) →
    ds'.length = vs.length ∧ match o with
    | none => ∀ (i : Nat) (d : DV) (v : Value), ds'[i]? = some d → vs[i]? = some v → V S' mu0 w d v
    | some (k, R) => ∃ p, Adopted NG0 S' w base R all k p ∧ ∀ μ', μ' base = some p → ∀ (i : Nat) (d : DV) (v : Value), ds'[i]? = some d → vs[i]? = some v → V S' μ' w d v
  | [], ds', us, o, vs, h, hl, hv, all, h1, h2, h3 => by
    cases h
    exact ⟨hl, fun i d v hd => by simp at hd⟩
  | d :: ds, ds', us, o, [], h, hl, hv, all, h1, h2, h3 => by simp at hl
  | d :: ds, ds', us, o, v :: vs, h, hl, hv, all, h1, h2, h3 => by
    have hv0 := hv 0 d v rfl rfl
    have hvr : ∀ (i : Nat) (d : DV) (x : Value), ds[i]? = some d → vs[i]? = some x → V S μ w d x := fun i d x hd hx => hv (i + 1) d x (by simpa using hd) (by simpa using hx)
    simp only [adoL] at h
    split at h
    · rename_i k R off htop
      obtain ⟨len, cl0, rfl, hr, hlen⟩ := isTop_spec htop
      split at h
      · rename_i l us1 rest us2 ha hb
        cases h
        obtain ⟨a1, a2⟩ := accL_ok _ _ _ _ ha
        obtain ⟨b1, b2⟩ := accL_ok _ _ _ _ hb
        have hl' : ds.length = vs.length := by simpa using hl
        refine ⟨by simp; omega, ?_⟩
        obtain ⟨p, hp, k1, k2, cs, t, fz, k3, k4, k5, k6, k7, k8⟩ := hH.row k R hr
        have hll : l.length = len := by rw [← a1]; simp; omega
        have hrest : ∀ (i : Nat) (d : DV) (x : Value), rest[i]? = some d → vs[i]? = some x → V S' mu0 w d x := by
          intro i d x hd hx
          have hlt := (List.getElem?_eq_some_iff.1 hd).1
          obtain ⟨b, qs, q1, q2, q3⟩ := b2 i ds[i] (List.getElem?_eq_getElem (by omega))
          rw [hd] at q2
          cases q2
          exact fre_ok hH.toHRd hS 8 _ _ _ _ q1 (hvr i _ _ (List.getElem?_eq_getElem (by omega)) hx) (fun r hr => h2 r (h1 r (by simp [q3 r hr])))
        cases hv0 with
        | ref _ _ _ _ _ _ a cap p' hp' hg' hcap hcl ha' hn =>
          rw [hp] at hp'
          cases hp'
          obtain ⟨e1, e2, e3⟩ := ha' (by omega)
          have hmul : off * R.sz + (p.C - off) * R.sz = p.C * R.sz := by rw [← Nat.add_mul]; congr 1; omega
          rw [k2] at k5
          have hbound : p.o + off * R.sz + l.length * R.sz = p.o + R.elems.length * R.sz := by rw [hll, ← hlen, Nat.add_mul]; omega
          refine ⟨⟨p.B, p.o + off * R.sz, p.C - off, 0, R.sz⟩, ⟨⟨rfl, rfl, cs, t, fz, k3, by simp only; omega, by simp only; omega, ⟨k6.1, fun u hu => by cases hu⟩, fun i e' he' => ?_, fun c hc => ?_⟩, hlo k p (.inl ⟨R, hr⟩) hp, (show p.B < w.heap.size from hH.lt (.inl ⟨R, hr⟩) hp)⟩, fun μ' hμ' i d x hd hx => ?_⟩
          · replace he' : l[i]? = some e' := he'
            have hlt := (List.getElem?_eq_some_iff.1 he').1
            obtain ⟨b, qs, q1, q2, q3⟩ := a2 i _ (List.getElem?_eq_getElem (by omega))
            rw [he'] at q2
            cases q2
            have hel : R.elems[off + i]? = some (R.elems.drop off)[i] := by rw [← List.getElem?_drop, List.getElem?_eq_getElem (by omega)]
            have hf := fre_elem (S' := S') hH.toHRd hS (f := fun j => (cs[p.o + (off + i) * R.sz + j]?).getD undef) q1 (fun r hr => h2 r (h1 r (by simp [q3 r hr]))) (fun j c hj => by
              obtain ⟨cv, z1, z2⟩ := (k7 _ _ hel).2 j c hj
              rw [z1]; exact z2)
            refine ⟨by rw [hf.1, (k7 _ _ hel).1], fun j c hj => ?_⟩
            have hjl := (List.getElem?_eq_some_iff.1 hj).1
            obtain ⟨cv, z1, z2⟩ := (k7 _ _ hel).2 j _ (List.getElem?_eq_getElem (by rw [← hf.1]; exact hjl))
            refine ⟨cv, ?_, ?_⟩
            · rw [← z1]
              simp only [Nat.add_mul]
              congr 1
              omega
            · have := hf.2 j c hj
              rw [z1] at this
              exact this
          · simp only
            rw [hbound]
            rcases h3 _ _ hc with hc | ⟨r, hra, hs⟩
            · obtain ⟨s1, s2⟩ := k8 c hc
              exact ⟨by simp [s1], s2⟩
            · obtain ⟨Rq, pq, z1, z2, z3, z4⟩ := hs
              have e := hH.dist r k pq p (.inl ⟨Rq, z1⟩) (.inl ⟨R, hr⟩) z2 hp z3
              subst e
              rw [hr] at z1
              cases z1
              rw [hp] at z2
              cases z2
              exact ⟨by simp [hra], z4⟩
          · cases i with
            | zero =>
              simp at hd hx
              subst hd hx
              rw [hll]
              refine .ref _ _ _ _ _ _ _ _ _ hμ' (Nat.le_refl _) hcap hcap (fun _ => ⟨rfl, by simp only; omega, ?_⟩) hn
              rcases e3 with e3 | e3
              · exact .inl e3
              · right
                rw [e3, e1]
                simp
            | succ i => exact (hrest i d x (by simpa using hd) (by simpa using hx)).lift
      · cases h
    · split at h
      · rename_i d' us1 ds1 us2 o1 ha hb
        cases h
        have hd0 := fre_ok hH.toHRd hS 8 _ _ _ _ ha hv0 (fun r hr => h2 r (h1 r (by simp [hr])))
        obtain ⟨c1, c2⟩ := adoL_ok hH hS hlo ds ds1 us2 _ vs hb (by simpa using hl) hvr all (fun r hr => h1 r (by simp [hr])) h2 h3
        refine ⟨by simp [c1], ?_⟩
        cases o with
        | none =>
          intro i d x hd hx
          cases i with
          | zero => simp at hd hx; subst hd hx; exact hd0
          | succ i => exact c2 i d x (by simpa using hd) (by simpa using hx)
        | some kR =>
          obtain ⟨p, q1, q2⟩ := c2
          refine ⟨p, q1, fun μ' hμ' i d x hd hx => ?_⟩
          cases i with
          | zero => simp at hd hx; subst hd hx; exact hd0.lift
          | succ i => exact q2 μ' hμ' i d x (by simpa using hd) (by simpa using hx)
      · cases h
end Go.Dev

/- Calls: the call of a function. -/
namespace Go.Dev
variable {P : Program} {S S' : Nat → Nat → Prop} {μ : Mu} {w w' : World} {H : Heap} {NG : Nat}

theorem adoF_ok {S1 : Nat → Nat → Prop} {μ' : Mu} {H1 Hc : Heap} (h1 : HR NG S1 μ H1 w) (hc : HR NG S' μ' Hc w') (st : Step 0 S1 mu0 [] w S' μ' Hc w') {wrap : List DV → DV} {ds : List DV} {vs : List Value} {d : DV} {H' : Heap}
    (he : adoF H1 wrap (adoL Hc H1.length ds) = some (d, H')) (hl : ds.length = vs.length) (hv : ∀ (i : Nat) (d : DV) (v : Value), ds[i]? = some d → vs[i]? = some v → V S' μ' w' d v) :
    ∃ S2 μ2 ds', d = wrap ds' ∧ HR NG S2 μ2 H' w' ∧ Step H1.length S1 μ H1 w S2 μ2 H' w' ∧ ds'.length = vs.length ∧ ∀ (i : Nat) (d : DV) (v : Value), ds'[i]? = some d → vs[i]? = some v → V S2 μ2 w' d v := by
  have hnl : ∀ r, ¬ live ([] : Heap) r := fun r hl => by have := live_lt hl; simp at this
  have hown : ∀ r p, live Hc r → μ' r = some p → w.heap.size ≤ p.B := fun r p hl hp => (st.own r p hl hp).elim id fun ⟨r0, p0, q, _⟩ => absurd q (hnl r0)
  have hfr : ∀ b, b < w.heap.size → w'.heap[b]? = w.heap[b]? := fun b hb => st.frame b hb fun r p hl => absurd hl (hnl r)
  unfold adoF at he
  cases hado : adoL Hc H1.length ds with
  | none => simp [hado] at he
  | some x =>
    obtain ⟨ds', us, o⟩ := x
    have key := adoL_ok (S' := fun B c => S' B c ∨ ∃ r ∈ us, Shows Hc μ' r B c) hc (fun _ _ h => .inl h) (NG0 := w.heap.size) hown ds ds' us o vs hado hl hv us (fun _ h => h) (fun r hr B c hs => .inr ⟨r, hr, hs⟩) (fun _ _ h => h)
    have hS : ∀ B c, S1 B c → S' B c ∨ ∃ r ∈ us, Shows Hc μ' r B c := fun B c h => .inl (st.sub B c h)
    have hS' : ∀ B c, (S' B c ∨ ∃ r ∈ us, Shows Hc μ' r B c) → S1 B c ∨ w.heap.size ≤ B := by
      rintro B c (hs | ⟨r, _, R, p, q1, q2, q3, _⟩)
      · rcases st.snew B c hs with h | h | ⟨r, p, hl, _⟩
        · exact .inl h
        · exact .inr h
        · exact absurd hl (hnl r)
      · exact .inr (by rw [← q3]; exact hown r p (.inl ⟨R, q1⟩) q2)
    have hst : ∀ B c, (S' B c ∨ ∃ r ∈ us, Shows Hc μ' r B c) → B < w'.heap.size := by
      rintro B c (hs | ⟨r, _, R, p, q1, q2, q3, _⟩)
      · exact hc.st B c hs
      · rw [← q3]; exact hc.lt (.inl ⟨R, q1⟩) q2
    obtain ⟨k1, k2⟩ := key
    rw [hado] at he
    cases o with
    | none =>
      cases he
      obtain ⟨g1, g2, g3⟩ := ext_ok h1 hS hS' hst hfr st.size st.io
      exact ⟨_, _, ds', rfl, g1, g2, k1, fun i d v hd hv => (k2 i d v hd hv).lift⟩
    | some kR =>
      obtain ⟨k, R⟩ := kR
      cases he
      obtain ⟨p, ⟨q1, q2, q3⟩, q4⟩ := k2
      obtain ⟨g1, g2, g3⟩ := push_okS h1 (o := .row { R with fz := R.fz || us.contains k }) (p := p) hS hS' hst hfr st.size st.io q2 (fun _ => q1.mono rfl (fun d v hv => hv.lift) (fun _ h => h))
      exact ⟨_, _, ds', rfl, g1, g2, k1, q4 _ (put_self _ _ _)⟩

theorem adopt_ok {S1 : Nat → Nat → Prop} {μ' : Mu} {Hc : Heap} {us : List Nat} (h1 : HR NG S1 μ (frz us H) w) (hc : HR NG S' μ' Hc w') (st : Step 0 S1 mu0 [] w S' μ' Hc w') {r : DV} {v : Value} {d : DV} {H' : Heap}
    (he : adopt us H r Hc = some (d, H')) (hv : V S' μ' w' r v) : ∃ S2 μ2, HR NG S2 μ2 H' w' ∧ Step H.length S1 μ (frz us H) w S2 μ2 H' w' ∧ V S2 μ2 w' d v := by
  have hlen : H.length = (frz us H).length := (frz_get 0 us H).1.symm
  unfold adopt at he
  rw [hlen] at he ⊢
  split at he
  · rename_i cs
    cases hv with
    | tup _ xs hl hx =>
      obtain ⟨S2, μ2, ds', rfl, g1, g2, g3, g4⟩ := adoF_ok h1 hc st he (vs := xs.toList) (by simpa using hl) (fun i d v hd hv => hx i d v hd (by simpa using hv))
      exact ⟨S2, μ2, g1, g2, .tup _ _ (by simpa using g3) fun i d v hd hv => g4 i d v hd (by simpa using hv)⟩
  · rename_i cs
    cases hv with
    | agg _ xs hl hx =>
      obtain ⟨S2, μ2, ds', rfl, g1, g2, g3, g4⟩ := adoF_ok h1 hc st he (vs := xs.toList) (by simpa using hl) (fun i d v hd hv => hx i d v hd (by simpa using hv))
      exact ⟨S2, μ2, g1, g2, .agg _ _ (by simpa using g3) fun i d v hd hv => g4 i d v hd (by simpa using hv)⟩
  · obtain ⟨S2, μ2, ds', rfl, g1, g2, g3, g4⟩ := adoF_ok h1 hc st he (vs := [v]) rfl (fun i d x hd hx => by
      cases i with
      | zero => simp at hd hx; subst hd hx; exact hv
      | succ i => simp at hd)
    refine ⟨S2, μ2, g1, g2, ?_⟩
    match ds', g3 with
    | [d'], _ => exact g4 0 d' v rfl rfl

theorem HR.empty {S1 : Nat → Nat → Prop} (h : HR NG S1 μ H w) : HR NG S1 mu0 [] w where
  row := fun r R hr => by simp at hr
  map := fun r es hr => by simp at hr
  no := fun _ _ => rfl
  dist := fun r r' p p' hl => by have := live_lt hl; simp at this
  lo := fun r p hl => by have := live_lt hl; simp at this
  ng := h.ng
  st := h.st
  sl := fun r g sz hr => by simp at hr

/-- The call of a function. -/
theorem evC_ok {C : Ctx} {G : World → Prop} {call : CallF} (hcall : CallOK C G NG call) (hprim : PrimOK C G NG) {fid : FuncId} {as : List DV} {d : DV} {H' : Heap} (he : evC C call H fid as = some (d, H')) :
    HasBody C.P fid ∧ ∀ S μ w (vs : Array Value), HR NG S μ H w → G w → CR S μ w as vs → Calls C.P fid vs w (After NG S μ H w d H') := by
  unfold evC at he
  split at he
  · exact hcall _ _ _ _ _ he
  · split at he
    · cases he
    · rename_i as' us ha
      have prep : ∀ S μ w (vs : Array Value), HR NG S μ H w → CR S μ w as vs → ∃ S1, HR NG S1 μ (frz us H) w ∧ Step H.length S μ H w S1 μ (frz us H) w ∧ CR S1 mu0 w as' vs ∧ (∀ B c, S B c → S1 B c) := by
        intro S μ w vs h hv
        obtain ⟨g1, g2, g3⟩ := frz_ok (vs := us) (S' := fun B c => S B c ∨ ∃ r ∈ us, Shows H μ r B c) h (fun _ _ h => .inl h) (fun _ _ h => h)
        exact ⟨_, g1, g2, fre_CR h.toHRd (fun _ _ h => .inl h) ha (fun r hr B c hs => .inr ⟨r, hr, hs⟩) hv, fun _ _ h => .inl h⟩
      split at he
      · -- a primitive: a value
        rename_i d0 hp
        obtain ⟨hb, hpr⟩ := hprim _ _ _ hp
        refine ⟨hb, fun S μ w vs h hG hv => ?_⟩
        obtain ⟨S1, g1, g2, g3, g4⟩ := prep S μ w vs h hv
        refine (hpr S1 w vs hG h.ng g1.st g3).mono fun e w' ⟨v, S', hev, s1, s2, s3, s4, s5, s6, hval⟩ => ?_
        split at he
        · rename_i hfl
          cases he
          obtain ⟨k1, k2, _⟩ := ext_ok (S' := S) (w' := w') h (fun _ _ h => h) (fun _ _ h => .inl h) (fun B c hc => Nat.lt_of_lt_of_le (h.st B c hc) s4) s5 s4 s6
          exact ⟨v, _, _, hev, k1, k2, flat_ok 8 _ _ _ hfl hval⟩
        · cases he
          obtain ⟨k1, k2, _⟩ := ext_ok (S' := S') (w' := w') g1 s1 s2 s3 s5 s4 s6
          have hlen : (frz us H).length = H.length := (frz_get 0 us H).1
          rw [hlen] at k2
          exact ⟨v, _, _, hev, k1, g2.trans k2, hval.lift⟩
      · -- a primitive: a row of its own
        rename_i sz l hp
        obtain ⟨hb, hpr⟩ := hprim _ _ _ hp
        cases he
        refine ⟨hb, fun S μ w vs h hG hv => ?_⟩
        obtain ⟨S1, g1, g2, g3, g4⟩ := prep S μ w vs h hv
        refine (hpr S1 w vs hG h.ng g1.st g3).mono fun e w' ⟨v, S', hev, s1, s2, s3, s4, s5, s6, p, cap, r1, r2, r3, r4, r5⟩ => ?_
        obtain ⟨k1, k2, _⟩ := push_okS (w' := w') g1 (o := .row ⟨l, sz, 0, false, none⟩) (p := p) s1 s2 s3 s5 s4 s6 r2 (fun _ => r1.mono rfl (fun d v hv => hv.lift) (fun _ h => h))
        have hlen : (frz us H).length = H.length := (frz_get 0 us H).1
        rw [hlen] at k1 k2
        obtain ⟨z1, z2, _⟩ := r1
        refine ⟨v, _, _, hev, k1, g2.trans k2, ?_⟩
        rw [r5]
        exact .refS _ _ _ _ _ _ _ _ _ (put_self _ _ _) (Nat.zero_le _) r3 r3 fun _ => ⟨z2.symm, by omega, .inr (by simp)⟩
      · -- a function that is walked into
        split at he
        · cases he
        · rename_i r Hc hr
          obtain ⟨hb, hc⟩ := hcall _ _ _ _ _ hr
          refine ⟨hb, fun S μ w vs h hG hv => ?_⟩
          obtain ⟨S1, g1, g2, g3, g4⟩ := prep S μ w vs h hv
          refine (hc S1 mu0 w vs g1.empty hG g3).mono fun e w' ⟨v, S', μ', hev, c1, c2, c3⟩ => ?_
          have hnl : ∀ r, ¬ live ([] : Heap) r := fun r hl => by have := live_lt hl; simp at this
          split at he
          · rename_i hfl
            cases he
            obtain ⟨k1, k2, _⟩ := ext_ok (S' := S) (w' := w') h (fun _ _ h => h) (fun _ _ h => .inl h) (fun B c hc => Nat.lt_of_lt_of_le (h.st B c hc) c2.size) (fun b hb => c2.frame b hb fun r p hl => absurd hl (hnl r)) c2.size c2.io
            exact ⟨v, _, _, hev, k1, k2, flat_ok 8 _ _ _ hfl c3⟩
          · obtain ⟨S2, μ2, k1, k2, k3⟩ := adopt_ok g1 c1 c2 he c3
            exact ⟨v, S2, μ2, hev, k1, g2.trans k2, k3⟩
end Go.Dev
