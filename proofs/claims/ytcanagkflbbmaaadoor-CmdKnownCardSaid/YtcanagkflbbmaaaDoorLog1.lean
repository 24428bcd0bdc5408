/- A logic over data. -/
import Derived.Test.YtcanagkflbbmaaaDoorDev4
set_option linter.unusedVariables false
set_option linter.unusedSimpArgs false
/- A logic over data: what holds at a place of a function's code is said of registers and rows as data alone; each rule is proved against the model. -/
set_option linter.unusedVariables false
namespace Go.Dev
variable {S S' : Nat → Nat → Prop} {μ : Mu} {w w' : World} {H : Heap} {NG : Nat}

/-- The program, what is known of the world, and of which first blocks it speaks. -/
structure Env where
  P : Program
  G : World → Prop
  NG : Nat
  b : Nat := 0

structure Env.Ok (E : Env) : Prop where
  name : ∀ (f : FuncId) fn, E.P.funcs[f]? = some fn → (fn.name == "runtime.NumGoroutine") = false
  glob : ∀ w w' : World, (∀ b, b < E.NG → w'.heap[b]? = w.heap[b]?) → E.G w → E.G w'
  mixed : E.P.follows .mixedOrders = true

def Env.C (E : Env) : Ctx := { P := E.P, prim := fun _ _ => none, imp := fun _ => false, L := 0 }
theorem Env.Ok.W {E : Env} (h : E.Ok) : World0 E.C E.G E.NG := ⟨h.name, h.glob, fun _ _ _ h => by cases h⟩
def noCall : CallF := fun _ _ _ => none
theorem noCall_ok {C : Ctx} {G : World → Prop} : CallOK C G NG noCall := fun _ _ _ _ _ h => by cases h

/-- At code c in the state s: it ends, at its end (N) or by leaving it (A). -/
structure T (E : Env) (n : Nat) (c : Code) (s : St) (N : St → Prop) (A : Ex → St → Prop) : Prop where
  of ::
  run : 
  E.Ok → ∀ S0 μ0 H0 w0, H0.length ≤ E.b → ∀ a w (Q : Exit → Act → World → Prop), Inv E.G E.NG S0 μ0 H0 w0 n s a w →
    (∀ s' a w, N s' → Inv E.G E.NG S0 μ0 H0 w0 n s' a w → Q .normal a w) → (∀ e s' a w, A e s' → e ≠ .normal → Inv E.G E.NG S0 μ0 H0 w0 n s' a w → Q (exitOf e) a w) → c.wp E.P Q a w

/-- The operations of a region in their order. -/
structure WS (E : Env) (n : Nat) (ops : Array Oper) (l : List Oper) (s : St) (N : St → Prop) : Prop where
  of ::
  run : 
  E.Ok → ∀ S0 μ0 H0 w0, H0.length ≤ E.b → ∀ a w (Q : Exit → Act → World → Prop) (is : List Nat), is.map (fun i => ops[i]?) = l.map some → Inv E.G E.NG S0 μ0 H0 w0 n s a w →
    (∀ s' a w, N s' → Inv E.G E.NG S0 μ0 H0 w0 n s' a w → Q .normal a w) → wpOps E.P ops Q is a w

/-- The operations of a region whose order is open; cs: the kinds of those that have been told. -/
structure WR (E : Env) (n n0 : Nat) (ops : Array Oper) (l : List Oper) (s : St) (cs : List Cls) (N : St → Prop) : Prop where
  of ::
  run : 
  E.Ok → ∃ rs, (∀ hs, RecsOK E.P E.G E.NG n n0 hs ops l s rs) ∧ pairsK ops (cs ++ rs.map (·.c)) = true ∧ N (lastSt l rs s)

/-- One operation. -/
structure Rc (E : Env) (n n0 : Nat) (H : Heap) (ρ : Tr) (o : Oper) (r : Rec) : Prop where
  of ::
  run : E.Ok → RecAt E.P E.G E.NG n n0 H ρ o r

section
variable {E : Env} {n n0 : Nat} {ops : Array Oper} {l : List Oper} {ρ : Tr} {N : St → Prop} {A : Ex → St → Prop} {o : Oper} {r : Rec} {cs : List Cls} {c c1 c2 : Code} {s : St}

theorem WS.nil (h : N s) : WS E n ops [] s N := .of <| fun _ _ _ _ _ _ a w Q is hi hinv hq => by
  cases is with
  | nil => exact hq s a w h hinv
  | cons => simp at hi

theorem WS.step (hd : dstOk n o = true) (hw : wantA ops ρ o = some true) (hr : Rc E n 0 H ρ o r) (h : WS E n ops l (putD ρ o.dst r.d, r.H) N) : WS E n ops (o :: l) (ρ, H) N := .of <| fun hE S0 μ0 H0 w0 hb0 a w Q is hi hinv hq => by
  cases is with
  | nil => simp at hi
  | cons i is =>
    simp only [List.map_cons, List.cons.injEq] at hi
    obtain ⟨hoi, hi⟩ := hi
    obtain ⟨S, μ, hH, hG, hst, hreg⟩ := hinv.ex
    simp only [wpOps, hoi]
    rw [wantA_ok hreg hw]
    simp only [if_true]
    obtain ⟨⟨k1, _⟩, k2⟩ := hr.run hE
    have eH : (if r.c.aw then r.H else H) = r.H := by
      by_cases hc : r.c.aw = true
      · rw [if_pos hc]
      · rw [if_neg hc, k1 (by simpa using hc)]
    refine .inl (k2 S μ w a H _ Q hH hG hreg (fun _ => rfl) (fun _ => rfl) fun v S' μ' w' g1 g2 g3 => ?_)
    rw [eH] at g1 g2
    have hb : H0.length ≤ H.length := hst.len (Nat.le_refl _)
    exact h.run hE S0 μ0 H0 w0 hb0 _ w' Q is hi ⟨S', μ', g1, hE.glob w w' (hH.globals g2) hG, hst.trans (g2.weaken hb (g2.len (Nat.le_refl _))), (hreg.mono fun d v hv => hv.step hH g2).put hd g3⟩ hq

theorem WS.skip (hd : dstOk n o = true) (hw : wantA ops ρ o = some false) (h : WS E n ops l (putD ρ o.dst (.tup []), H) N) : WS E n ops (o :: l) (ρ, H) N := .of <| fun hE S0 μ0 H0 w0 hb0 a w Q is hi hinv hq => by
  cases is with
  | nil => simp at hi
  | cons i is =>
    simp only [List.map_cons, List.cons.injEq] at hi
    obtain ⟨hoi, hi⟩ := hi
    obtain ⟨S, μ, hH, hG, hst, hreg⟩ := hinv.ex
    simp only [wpOps, hoi]
    rw [wantA_ok hreg hw]
    simp only [Bool.false_eq_true, if_false]
    exact h.run hE S0 μ0 H0 w0 hb0 _ w Q is hi ⟨S, μ, hH, hG, hst, hreg.put hd (.tup _ _ rfl fun i c v hc => by simp at hc)⟩ hq

/-- A condition: both ways. -/
theorem WS.stepB {b : Bool} {Hr : Heap} {k : Cls} (hd : dstOk n o = true) (hw : wantA ops ρ o = some true) (hr : Rc E n 0 H ρ o ⟨.bool b, Hr, k⟩) (h1 : b = true → WS E n ops l (putD ρ o.dst (.bool true), Hr) N) (h0 : b = false → WS E n ops l (putD ρ o.dst (.bool false), Hr) N) : WS E n ops (o :: l) (ρ, H) N := by
  cases b with
  | true => exact WS.step hd hw hr (h1 rfl)
  | false => exact WS.step hd hw hr (h0 rfl)
theorem WS.stepD {p : Prop} [Decidable p] {Hr : Heap} {k : Cls} (hd : dstOk n o = true) (hw : wantA ops ρ o = some true) (hr : Rc E n 0 H ρ o ⟨.bool (decide p), Hr, k⟩) (h1 : p → WS E n ops l (putD ρ o.dst (.bool true), Hr) N) (h0 : ¬ p → WS E n ops l (putD ρ o.dst (.bool false), Hr) N) : WS E n ops (o :: l) (ρ, H) N :=
  WS.stepB hd hw hr (fun h => h1 (of_decide_eq_true h)) (fun h => h0 (of_decide_eq_false h))

theorem WR.nil (hp : pairsK ops cs = true) (h : N s) : WR E n n0 ops [] s cs N := .of <| fun _ => ⟨[], fun _ => ⟨rfl, rfl, fun i o r ho => by simp at ho⟩, by simpa using hp, h⟩

theorem recs_cons {hs : Nat → List Heap} {P : Program} {G : World → Prop} {rs : List Rec} (hd : dstOk n o = true) (hc : (wantA ops (rstr ρ (looks ops o)) o = some false ∧ r = ⟨.tup [], H, .P⟩) ∨ (wantA ops (rstr ρ (looks ops o)) o = some true ∧ RecAt P G NG n n0 H (rstr ρ (looks ops o)) o r))
    (h : RecsOK P G NG n n0 (fun i => hs (i + 1)) ops l (putD ρ o.dst r.d, r.H) rs) : RecsOK P G NG n n0 hs ops (o :: l) (ρ, H) (r :: rs) := by
  obtain ⟨a1, a2, a3⟩ := h
  refine ⟨by simp [a1], by simp only [lastSt, List.length_cons, stN]; exact a2, fun i o' r' ho hr => ?_⟩
  cases i with
  | zero =>
    simp at ho hr
    subst ho hr
    refine ⟨hd, ?_⟩
    rcases hc with ⟨h1, h2⟩ | ⟨h1, h2⟩
    · exact .inl ⟨h1, h2⟩
    · exact .inr (.inl ⟨h1, h2⟩)
  | succ i => exact a3 i o' r' (by simpa using ho) (by simpa using hr)

theorem WR.step (hd : dstOk n o = true) (hw : wantA ops (rstr ρ (looks ops o)) o = some true) (hr : Rc E n n0 H (rstr ρ (looks ops o)) o r) (h : WR E n n0 ops l (putD ρ o.dst r.d, r.H) (cs ++ [r.c]) N) : WR E n n0 ops (o :: l) (ρ, H) cs N := .of <| fun hE => by
  obtain ⟨rs, h1, h2, h3⟩ := h.run hE
  exact ⟨r :: rs, fun hs => recs_cons hd (.inr ⟨hw, hr.run hE⟩) (h1 _), by simpa using h2, h3⟩
theorem WR.skip (hd : dstOk n o = true) (hw : wantA ops (rstr ρ (looks ops o)) o = some false) (h : WR E n n0 ops l (putD ρ o.dst (.tup []), H) (cs ++ [.P]) N) : WR E n n0 ops (o :: l) (ρ, H) cs N := .of <| fun hE => by
  obtain ⟨rs, h1, h2, h3⟩ := h.run hE
  exact ⟨⟨.tup [], H, .P⟩ :: rs, fun hs => recs_cons hd (.inl ⟨hw, rfl⟩) (h1 _), by simpa using h2, h3⟩
theorem WR.stepB {b : Bool} {Hr : Heap} {k : Cls} (hd : dstOk n o = true) (hw : wantA ops (rstr ρ (looks ops o)) o = some true) (hr : Rc E n n0 H (rstr ρ (looks ops o)) o ⟨.bool b, Hr, k⟩) (h1 : b = true → WR E n n0 ops l (putD ρ o.dst (.bool true), Hr) (cs ++ [k]) N) (h0 : b = false → WR E n n0 ops l (putD ρ o.dst (.bool false), Hr) (cs ++ [k]) N) : WR E n n0 ops (o :: l) (ρ, H) cs N := by
  cases b with
  | true => exact WR.step hd hw hr (h1 rfl)
  | false => exact WR.step hd hw hr (h0 rfl)
theorem WR.stepD {p : Prop} [Decidable p] {Hr : Heap} {k : Cls} (hd : dstOk n o = true) (hw : wantA ops (rstr ρ (looks ops o)) o = some true) (hr : Rc E n n0 H (rstr ρ (looks ops o)) o ⟨.bool (decide p), Hr, k⟩) (h1 : p → WR E n n0 ops l (putD ρ o.dst (.bool true), Hr) (cs ++ [k]) N) (h0 : ¬ p → WR E n n0 ops l (putD ρ o.dst (.bool false), Hr) (cs ++ [k]) N) : WR E n n0 ops (o :: l) (ρ, H) cs N :=
  WR.stepB hd hw hr (fun h => h1 (of_decide_eq_true h)) (fun h => h0 (of_decide_eq_false h))

theorem T.region {id : Nat} (h : WS E n ops ops.toList s N) : T E n (.region id ops false) s N A := .of <| fun hE S0 μ0 H0 w0 hb0 a w Q hinv hn _ => by
  refine wp_region (h.run hE S0 μ0 H0 w0 hb0 a w Q _ ?_ hinv hn)
  apply List.ext_getElem?
  intro i
  simp only [List.getElem?_map, Array.getElem?_toList]
  by_cases hlt : i < ops.size
  · simp [hlt]
  · simp [hlt]

theorem T.open_ {id : Nat} (hb : backEdges ops = true) (h : WR E n s.2.length ops ops.toList s [] N) : T E n (.region id ops true) s N A := .of <| fun hE S0 μ0 H0 w0 hb0 a w Q hinv hn _ => by
  obtain ⟨rs, h1, h2, h3⟩ := h.run hE
  have hp : allPairs ops (ancsOf ops) (ops.toList.zip rs) = true := pairsF_ok (by unfold pairsF; rw [forceL_eq]; simpa using h2)
  have hmem0 : ∀ (i j : Nat) r, rs[j]? = some r → r.c.aw = true → ((ancsOf ops).getD j 0).testBit i = false → r.H ∈ heapsOf (ancsOf ops) s rs i := fun i j r hr ha hb => by
    refine List.mem_cons_of_mem _ (List.mem_map.2 ⟨(r, j), List.mem_filter.2 ⟨?_, by simp only [ha, hb]; rfl⟩, rfl⟩)
    exact List.mem_of_getElem? (i := j) (by rw [List.getElem?_zipIdx, hr]; simp)
  exact draw_core (C := E.C) hE.W noCall_ok n id (hs := heapsOf (ancsOf ops) s rs) ⟨hE.mixed, hb⟩ ⟨fun i => List.mem_cons_self, hmem0⟩ (h1 _) hp S0 μ0 H0 w0 a w Q hinv fun a w hi => hn _ a w h3 hi

theorem T.skip (h : N s) : T E n .skip s N A := .of <| fun _ _ _ _ _ _ a w Q hi hn _ => wp_skip (hn s a w h hi)
theorem T.label {i : Nat} (h : N s) : T E n (.label i) s N A := .of <| fun _ _ _ _ _ _ a w Q hi hn _ => wp_label (hn s a w h hi)
theorem T.seq (h : T E n c1 s (fun s' => T E n c2 s' N A) A) : T E n (.seq c1 c2) s N A := .of <| fun hE S0 μ0 H0 w0 hb0 a w Q hi hn ha =>
  wp_seq (h.run hE S0 μ0 H0 w0 hb0 a w _ hi (fun s' a w h2 hi' => h2.run hE S0 μ0 H0 w0 hb0 a w Q hi' hn ha) (fun e s' a w h1 hne hi' => by
    have := ha e s' a w h1 hne hi'
    cases e with
    | normal => exact absurd rfl hne
    | _ => exact this))
theorem T.cond {x : Operand} {b : Bool} (hb : opd s.1 x = .bool b) (h1 : b = true → T E n c1 s N A) (h0 : b = false → T E n c2 s N A) : T E n (.cond x c1 c2) s N A := .of <| fun hE S0 μ0 H0 w0 hb0 a w Q hi hn ha => by
  obtain ⟨S, μ, hH, hG, hst, hr⟩ := hi.ex
  have hv := hr.opd x
  rw [hb] at hv
  generalize hgen : a.eval x = v at hv
  cases hv
  cases b with
  | true => exact wp_cond_true hgen ((h1 rfl).run hE S0 μ0 H0 w0 hb0 a w Q hi hn ha)
  | false => exact wp_cond_false hgen ((h0 rfl).run hE S0 μ0 H0 w0 hb0 a w Q hi hn ha)
theorem T.condD {x : Operand} {p : Prop} [Decidable p] (hb : opd s.1 x = .bool (decide p)) (h1 : p → T E n c1 s N A) (h0 : ¬ p → T E n c2 s N A) : T E n (.cond x c1 c2) s N A :=
  T.cond hb (fun h => h1 (of_decide_eq_true h)) (fun h => h0 (of_decide_eq_false h))
theorem T.condT {x : Operand} (hb : opd s.1 x = .bool true) (h1 : T E n c1 s N A) : T E n (.cond x c1 c2) s N A := T.cond hb (fun _ => h1) (fun h => by cases h)
theorem T.condF {x : Operand} (hb : opd s.1 x = .bool false) (h1 : T E n c2 s N A) : T E n (.cond x c1 c2) s N A := T.cond hb (fun h => by cases h) (fun _ => h1)

/-- What holds behind a block's end. -/
def Blk (id : Nat) (N : St → Prop) (A : Ex → St → Prop) (e : Ex) (s : St) : Prop := match e with
  | .exit i => if i = id then N s else A (.exit i) s
  | e => A e s
theorem Blk.eq {id : Nat} (h : N s) : Blk id N A (.exit id) s := by show (if id = id then N s else A (.exit id) s); rw [if_pos rfl]; exact h
theorem Blk.ne {id i : Nat} (hi : decide (i = id) = false) (h : A (.exit i) s) : Blk id N A (.exit i) s := by show (if i = id then N s else A (.exit i) s); rw [if_neg (of_decide_eq_false hi)]; exact h
theorem Blk.ret {id : Nat} (h : A .ret s) : Blk id N A .ret s := h

theorem T.block {id : Nat} (h : T E n c s N (Blk id N A)) : T E n (.block id c) s N A := .of <| fun hE S0 μ0 H0 w0 hb0 a w Q hi hn ha =>
  wp_block (h.run hE S0 μ0 H0 w0 hb0 a w _ hi (fun s' a w h2 hi' => hn s' a w h2 hi') (fun e s' a w h1 hne hi' => by
    cases e with
    | normal => exact absurd rfl hne
    | ret => exact ha .ret s' a w h1 (by simp) hi'
    | exit i =>
      simp only [exitOf, Exit.inBlock]
      simp only [Blk] at h1
      split at h1
      · rename_i e
        rw [if_pos e]
        exact hn s' a w h1 hi'
      · rename_i e
        rw [if_neg e]
        exact ha _ s' a w h1 (by simp) hi'))
theorem T.exit {id : Nat} (h : A (.exit id) s) : T E n (.exit id) s N A := .of <| fun _ _ _ _ _ _ a w Q hi _ ha => wp_exit (ha (.exit id) s a w h (by simp) hi)
theorem T.ret (h : A .ret s) : T E n .ret s N A := .of <| fun _ _ _ _ _ _ a w Q hi _ ha => wp_ret (ha .ret s a w h (by simp) hi)
theorem T.scope (h : T E n c s N A) : T E n (.scope c) s N A := .of <| fun hE S0 μ0 H0 w0 hb0 a w Q hi hn ha => by
  refine wp_scope_straight (h.run hE S0 μ0 H0 w0 hb0 a w _ hi (fun s' a w h1 hi' => hn s' a w h1 hi') (fun e s' a w h1 hne hi' => ?_))
  have := ha e s' a w h1 hne hi'
  cases e <;> exact this

/-- Less is said: registers of which nothing is known any more, rows that are not used any more. -/
structure Le (s' s : St) : Prop where
  r : ∀ t, s'.1.get t = .und ∨ s'.1.get t = s.1.get t
  l : s'.2.length = s.2.length
  h : ∀ (i : Nat) (o : Ob), s'.2[i]? = some o → o = Ob.dead ∨ s.2[i]? = some o

theorem Le.refl (s : St) : Le s s := ⟨fun _ => .inr rfl, rfl, fun _ _ h => .inr h⟩
theorem Le.trans {a b c : St} (h : Le a b) (k : Le b c) : Le a c := ⟨fun t => by
  rcases h.r t with h1 | h1
  · exact .inl h1
  · rcases k.r t with h2 | h2
    · exact .inl (h1.trans h2)
    · exact .inr (h1.trans h2), h.l.trans k.l, fun i o ho => (h.h i o ho).elim .inl (k.h i o)⟩

theorem Le.live {s' s : St} (h : Le s' s) {r : Nat} (hl : live s'.2 r) : live s.2 r := by
  rcases hl with ⟨R, hR⟩ | ⟨es, hR⟩
  · rcases h.h r _ hR with e | e
    · cases e
    · exact .inl ⟨R, e⟩
  · rcases h.h r _ hR with e | e
    · cases e
    · exact .inr ⟨es, e⟩

theorem Inv.le {G : World → Prop} {S0 : Nat → Nat → Prop} {μ0 : Mu} {H0 : Heap} {w0 : World} {s s' : St} {a : Act} (hl : Le s' s) (h : Inv G NG S0 μ0 H0 w0 n s a w) : Inv G NG S0 μ0 H0 w0 n s' a w := by
  obtain ⟨S, μ, hH, hG, hst, hr⟩ := h.ex
  refine ⟨S, μ, ⟨⟨fun r R hR => ?_, fun r es hR => ?_⟩, fun r hr => hH.no r (by rw [← hl.l]; exact hr), fun r r' p p' h1 h2 => hH.dist r r' p p' (hl.live h1) (hl.live h2), fun r p h1 => hH.lo r p (hl.live h1), hH.ng, hH.st, fun r g sz hR => (hl.h r _ hR).elim (fun e => by cases e) (hH.sl r g sz)⟩, hG, ?_, hr.size, hr.defers, fun i => ?_⟩
  · rcases hl.h r _ hR with e | e
    · cases e
    · exact hH.row r R e
  · rcases hl.h r _ hR with e | e
    · cases e
    · exact hH.map r es e
  · exact { hst with len := fun h => by rw [hl.l]; exact hst.len h, own := fun r p h1 => hst.own r p (hl.live h1) }
  · rcases hl.r i with e | e
    · rw [e]; exact .und _
    · rw [e]; exact hr.v i

theorem T.weak {s' : St} (hl : Le s' s) (h : T E n c s' N A) : T E n c s N A := .of <| fun hE S0 μ0 H0 w0 hb0 a w Q hi hn ha => h.run hE S0 μ0 H0 w0 hb0 a w Q (hi.le hl) hn ha
theorem T.mono {N' : St → Prop} {A' : Ex → St → Prop} (h : T E n c s N' A') (hN : ∀ s, N' s → N s) (hA : ∀ e s, A' e s → A e s) : T E n c s N A := .of <| fun hE S0 μ0 H0 w0 hb0 a w Q hi hn ha => h.run hE S0 μ0 H0 w0 hb0 a w Q hi (fun s' a w h1 => hn s' a w (hN _ h1)) (fun e s' a w h1 => ha e s' a w (hA _ _ h1))
/-- What comes behind may be said of less. -/
theorem T.lax (h : T E n c s (fun s' => ∃ s'', Le s'' s' ∧ N s'') A) : T E n c s N A := .of <| fun hE S0 μ0 H0 w0 hb0 a w Q hi hn ha => h.run hE S0 μ0 H0 w0 hb0 a w Q hi (fun s' a w ⟨s'', h1, h2⟩ hi' => hn s'' a w h2 (hi'.le h1)) ha

/-- A loop: I at its head, with a number that falls. -/
theorem T.loop (I : Nat → St → Prop) (k : Nat) (h : ∃ s', Le s' s ∧ I k s') (hbody : ∀ k s, I k s → T E n c s (fun s1 => ∃ s2, Le s2 s1 ∧ ∃ k', k' < k ∧ I k' s2) A) : T E n (.loop c) s N A := .of <| fun hE S0 μ0 H0 w0 hb0 a w Q hi hn ha => by
  have key : ∀ (k : Nat) (s : St), I k s → ∀ a w, Inv E.G E.NG S0 μ0 H0 w0 n s a w → ∀ (b : Frame) (kk : List Item) (cs : List Frame),
      ∃ e a' w', Q e a' w' ∧ Arrives E.P (lone (b.at a (.code c :: .inLoop c :: kk)) cs w) b kk cs e a' w' := by
    intro k
    induction k using Nat.strongRecOn with
    | _ k ih =>
      intro s hI a w hi b kk cs
      obtain ⟨e, a1, w1, hq1, harr⟩ := (hbody k s hI).run hE S0 μ0 H0 w0 hb0 a w (fun e a w => (e = .normal ∧ ∃ s2, ∃ k', k' < k ∧ I k' s2 ∧ Inv E.G E.NG S0 μ0 H0 w0 n s2 a w) ∨ (e ≠ .normal ∧ Q e a w)) hi
        (fun s' a w ⟨s2, h1, k', h2, h3⟩ hi' => .inl ⟨rfl, s2, k', h2, h3, hi'.le h1⟩) (fun e s' a w h1 hne hi' => .inr ⟨by cases e <;> simp_all [exitOf], ha e s' a w h1 hne hi'⟩) b (.inLoop c :: kk) cs
      rcases hq1 with ⟨rfl, s2, k', h1, h2, h3⟩ | ⟨hne, hq⟩
      · obtain ⟨e2, a2, w2, hq2, harr2⟩ := ih k' h1 s2 h2 a1 w1 h3 b kk cs
        exact ⟨e2, a2, w2, hq2, .of_steps (Steps.trans harr (.one step_inLoop)) harr2⟩
      · exact ⟨_, a1, w1, hq, .pass (x := .inLoop c) rfl (fun _ _ => .inl (by cases e <;> simp_all)) harr⟩
  obtain ⟨s', hl, hI⟩ := h
  intro b kk cs
  obtain ⟨e, a', w', h1, h2⟩ := key k s' hI a w (hi.le hl) b kk cs
  exact ⟨e, a', w', h1, .of_steps (.one step_loop) h2⟩

/-! Rows behind a place that nothing names any more are left out. -/
def cutMu (n : Nat) (μ : Mu) : Mu := fun r => if r < n then μ r else none
/-- A value that names no row from n on. -/
def Bd (n : Nat) (d : DV) : Prop := ∀ (S : Nat → Nat → Prop) (μ : Mu) (w : World) (v : Value), V S μ w d v → V S (cutMu n μ) w d v
def BdO (n : Nat) : Ob → Prop
  | .row R => ∀ e ∈ R.elems, ∀ c ∈ e.cells, Bd n c
  | .map es => ∀ e ∈ es, Bd n e.1 ∧ Bd n e.2
  | .dead | .slot _ _ => True
theorem Bd.und {k : Nat} : Bd k .und := fun S μ w v _ => .und _
theorem Bd.ref {k r off len sz g cl : Nat} (h : r < k) : Bd k (.ref r off len sz g cl) := fun S μ w v hv => by
  cases hv with
  | ref _ _ _ _ _ _ a cap p hp h1 h2 h3 h4 h5 => exact .ref _ _ _ _ _ _ a cap p (by simp [cutMu, h, hp]) h1 h2 h3 h4 h5
theorem Bd.ptr {k r i off sz g : Nat} (h : r < k) : Bd k (.ptr r i off sz g) := fun S μ w v hv => by
  cases hv with
  | ptr _ _ _ _ _ a p hp h1 h2 => exact .ptr _ _ _ _ _ a p (by simp [cutMu, h, hp]) h1 h2
theorem Bd.mp {k r : Nat} (h : r < k) : Bd k (.mp r) := fun S μ w v hv => by
  cases hv with
  | mp _ b p hp h1 => exact .mp _ b p (by simp [cutMu, h, hp]) h1
theorem Bd.agg {k : Nat} {cs : List DV} (h : ∀ c ∈ cs, Bd k c) : Bd k (.agg cs) := fun S μ w v hv => by
  cases hv with
  | agg _ vs hl hx => exact .agg _ _ hl fun i c x hc hxi => h c (List.mem_of_getElem? hc) _ _ _ _ (hx i c x hc hxi)
theorem Bd.tup {k : Nat} {cs : List DV} (h : ∀ c ∈ cs, Bd k c) : Bd k (.tup cs) := fun S μ w v hv => by
  cases hv with
  | tup _ vs hl hx => exact .tup _ _ hl fun i c x hc hxi => h c (List.mem_of_getElem? hc) _ _ _ _ (hx i c x hc hxi)
theorem Bd.fn {k : Nat} {f : FuncId} {cs : List DV} (h : ∀ c ∈ cs, Bd k c) : Bd k (.fn f cs) := fun S μ w v hv => by
  cases hv with
  | fn _ _ vs hl hx => exact .fn _ _ _ hl fun i c x hc hxi => h c (List.mem_of_getElem? hc) _ _ _ _ (hx i c x hc hxi)

theorem Inv.trim {G : World → Prop} {S0 : Nat → Nat → Prop} {μ0 : Mu} {H0 : Heap} {w0 : World} {ρ : Tr} {H : Heap} {a : Act} {k : Nat} (hk : H0.length ≤ k) (hkl : k ≤ H.length) (hr : ∀ t, Bd k (ρ.get t)) (ho : ∀ o ∈ H.take k, BdO k o)
    (h : Inv G NG S0 μ0 H0 w0 n (ρ, H) a w) : Inv G NG S0 μ0 H0 w0 n (ρ, H.take k) a w := by
  obtain ⟨S, μ, hH, hG, hst, hreg⟩ := h.ex
  have hget : ∀ (r : Nat) (o : Ob), (H.take k)[r]? = some o → r < k ∧ H[r]? = some o := fun r o hr => by
    rw [List.getElem?_take] at hr
    split at hr
    · exact ⟨by assumption, hr⟩
    · cases hr
  have hlive : ∀ r, live (H.take k) r → r < k ∧ live H r := fun r hl => by
    rcases hl with ⟨R, hR⟩ | ⟨es, hR⟩
    · obtain ⟨h1, h2⟩ := hget r _ hR
      exact ⟨h1, .inl ⟨R, h2⟩⟩
    · obtain ⟨h1, h2⟩ := hget r _ hR
      exact ⟨h1, .inr ⟨es, h2⟩⟩
  have hcut : ∀ r, r < k → cutMu k μ r = μ r := fun r hr => by simp [cutMu, hr]
  have hcut' : ∀ r p, cutMu k μ r = some p → r < k ∧ μ r = some p := fun r p h => by
    unfold cutMu at h
    split at h
    · exact ⟨by assumption, h⟩
    · cases h
  have hlen : (H.take k).length = k := by simp; omega
  refine ⟨S, cutMu k μ, ⟨⟨fun r R hR => ?_, fun r es hR => ?_⟩, fun r hr => by have hr' : (H.take k).length ≤ r := hr; simp only [cutMu]; rw [if_neg (by omega)], fun r r' p p' h1 h2 h3 h4 => hH.dist r r' p p' (hlive r h1).2 (hlive r' h2).2 (hcut' r p h3).2 (hcut' r' p' h4).2, fun r p h1 h2 => hH.lo r p (hlive r h1).2 (hcut' r p h2).2, hH.ng, hH.st, fun r g sz hR => by
    obtain ⟨h1, h2⟩ := hget r _ hR
    obtain ⟨p, hp, h3⟩ := hH.sl r g sz h2
    exact ⟨p, by rw [hcut r h1]; exact hp, h3⟩⟩, hG, ?_, hreg.size, hreg.defers, fun i => hr i _ _ _ _ (hreg.v i)⟩
  · obtain ⟨h1, h2⟩ := hget r _ hR
    obtain ⟨p, hp, k1, k2, cs, t, fz, k3, k4, k5, k6, k7, k8⟩ := hH.row r R h2
    have hbo : ∀ e ∈ R.elems, ∀ c ∈ e.cells, Bd k c := ho (.row R) (List.mem_of_getElem? hR)
    refine ⟨p, by rw [hcut r h1]; exact hp, k1, k2, cs, t, fz, k3, k4, k5, k6, fun i e he => ⟨(k7 i e he).1, fun j c hc => ?_⟩, k8⟩
    obtain ⟨cv, q1, q2⟩ := (k7 i e he).2 j c hc
    exact ⟨cv, q1, hbo e (List.mem_of_getElem? he) c (List.mem_of_getElem? hc) _ _ _ _ q2⟩
  · obtain ⟨h1, h2⟩ := hget r _ hR
    obtain ⟨p, hp, k1, ents, clock, k2, k3⟩ := hH.map r es h2
    have hbo : ∀ e ∈ es, Bd k e.1 ∧ Bd k e.2 := ho (.map es) (List.mem_of_getElem? hR)
    refine ⟨p, by rw [hcut r h1]; exact hp, k1, ents, clock, k2, ?_⟩
    exact ⟨k3.1, fun i e m he hm => by
      obtain ⟨q1, q2, q3⟩ := k3.2 i e m he hm
      obtain ⟨b1, b2⟩ := hbo e (List.mem_of_getElem? he)
      exact ⟨b1 _ _ _ _ q1, b2 _ _ _ _ q2, q3⟩⟩
  · refine ⟨hst.sub, hst.agree, fun r hr p hp => ?_, fun _ => by rw [hlen]; exact hk, hst.size, hst.frame, fun r p h1 h2 => hst.own r p (hlive r h1).2 (hcut' r p h2).2, hst.snew, hst.io⟩
    obtain ⟨p', q1, q2, q3⟩ := hst.mu r hr p hp
    exact ⟨p', by rw [hcut r (by omega)]; exact q1, q2, q3⟩

/-- What comes behind may be said of less, and of the first rows alone. -/
structure LeT (b : Nat) (s' s : St) : Prop where
  ex : ∃ H', Le (s'.1, H') s ∧ s'.2 = H'.take s'.2.length ∧ s'.2.length ≤ H'.length ∧ b ≤ s'.2.length ∧ (∀ t, Bd s'.2.length (s'.1.get t)) ∧ ∀ o ∈ s'.2, BdO s'.2.length o
theorem Inv.leT {G : World → Prop} {S0 : Nat → Nat → Prop} {μ0 : Mu} {H0 : Heap} {w0 : World} {s s' : St} {a : Act} {b : Nat} (hb : H0.length ≤ b) (hl : LeT b s' s) (h : Inv G NG S0 μ0 H0 w0 n s a w) : Inv G NG S0 μ0 H0 w0 n s' a w := by
  obtain ⟨H', h1, h2, h3, h4, h5, h6⟩ := hl.ex
  have := (h.le h1).trim (k := s'.2.length) (by omega) h3 h5 (by rw [← h2]; exact h6)
  rw [← h2] at this
  exact this

theorem T.loopT (I : Nat → St → Prop) (k : Nat) (h : ∃ s', LeT E.b s' s ∧ I k s') (hbody : ∀ k s, I k s → T E n c s (fun s1 => ∃ s2, LeT E.b s2 s1 ∧ ∃ k', k' < k ∧ I k' s2) A) : T E n (.loop c) s N A := .of <| fun hE S0 μ0 H0 w0 hb0 a w Q hi hn ha => by
  have key : ∀ (k : Nat) (s : St), I k s → ∀ a w, Inv E.G E.NG S0 μ0 H0 w0 n s a w → ∀ (b : Frame) (kk : List Item) (cs : List Frame),
      ∃ e a' w', Q e a' w' ∧ Arrives E.P (lone (b.at a (.code c :: .inLoop c :: kk)) cs w) b kk cs e a' w' := by
    intro k
    induction k using Nat.strongRecOn with
    | _ k ih =>
      intro s hI a w hi b kk cs
      obtain ⟨e, a1, w1, hq1, harr⟩ := (hbody k s hI).run hE S0 μ0 H0 w0 hb0 a w (fun e a w => (e = .normal ∧ ∃ s2, ∃ k', k' < k ∧ I k' s2 ∧ Inv E.G E.NG S0 μ0 H0 w0 n s2 a w) ∨ (e ≠ .normal ∧ Q e a w)) hi
        (fun s' a w ⟨s2, h1, k', h2, h3⟩ hi' => .inl ⟨rfl, s2, k', h2, h3, hi'.leT hb0 h1⟩) (fun e s' a w h1 hne hi' => .inr ⟨by cases e <;> simp_all [exitOf], ha e s' a w h1 hne hi'⟩) b (.inLoop c :: kk) cs
      rcases hq1 with ⟨rfl, s2, k', h1, h2, h3⟩ | ⟨hne, hq⟩
      · obtain ⟨e2, a2, w2, hq2, harr2⟩ := ih k' h1 s2 h2 a1 w1 h3 b kk cs
        exact ⟨e2, a2, w2, hq2, .of_steps (Steps.trans harr (.one step_inLoop)) harr2⟩
      · exact ⟨_, a1, w1, hq, .pass (x := .inLoop c) rfl (fun _ _ => .inl (by cases e <;> simp_all)) harr⟩
  obtain ⟨s', hl, hI⟩ := h
  intro b kk cs
  obtain ⟨e, a', w', h1, h2⟩ := key k s' hI a w (hi.leT hb0 hl) b kk cs
  exact ⟨e, a', w', h1, .of_steps (.one step_loop) h2⟩
theorem T.weakT {s' : St} (hl : LeT E.b s' s) (h : T E n c s' N A) : T E n c s N A := .of <| fun hE S0 μ0 H0 w0 hb0 a w Q hi hn ha => h.run hE S0 μ0 H0 w0 hb0 a w Q (hi.leT hb0 hl) hn ha
end
end Go.Dev

/- The logic: values read as data alone; operations; calls; functions. -/
set_option linter.unusedVariables false
namespace Go.Dev
variable {S S' : Nat → Nat → Prop} {μ : Mu} {w w' : World} {H : Heap} {NG : Nat}

/-- A value that names no row. -/
def Pure (d : DV) : Prop := ∀ (S : Nat → Nat → Prop) (μ : Mu) (w : World) (v : Value), V S μ w d v → V S mu0 w d v
/-- A value without any memory. -/
def Flt (d : DV) : Prop := ∀ (S : Nat → Nat → Prop) (μ : Mu) (w : World) (S' : Nat → Nat → Prop) (μ' : Mu) (w' : World) (v : Value), V S μ w d v → V S' μ' w' d v
theorem Flt.pure {d : DV} (h : Flt d) : Pure d := fun S μ w v hv => h S μ w S mu0 w v hv
theorem Flt.of {d : DV} (h : flat 9 d = true) : Flt d := fun _ _ _ _ μ' _ v hv => flat_ok 9 d v μ' h hv
theorem Flt.bool (b : Bool) : Flt (.bool b) := .of rfl
theorem Flt.int (k : IntKind) (n : Int) : Flt (.int k n) := .of rfl
theorem Flt.str (s : ByteArray) : Flt (.str s) := .of rfl
theorem Flt.nils : Flt .nils := .of rfl
theorem Flt.agg {cs : List DV} (h : ∀ c ∈ cs, Flt c) : Flt (.agg cs) := fun S μ w S' μ' w' v hv => by
  cases hv with
  | agg _ vs hl hx => exact .agg _ _ hl fun i c x hc hxi => h c (List.mem_of_getElem? hc) _ _ _ _ _ _ _ (hx i c x hc hxi)
theorem Flt.tup {cs : List DV} (h : ∀ c ∈ cs, Flt c) : Flt (.tup cs) := fun S μ w S' μ' w' v hv => by
  cases hv with
  | tup _ vs hl hx => exact .tup _ _ hl fun i c x hc hxi => h c (List.mem_of_getElem? hc) _ _ _ _ _ _ _ (hx i c x hc hxi)
theorem Pure.agg {cs : List DV} (h : ∀ c ∈ cs, Pure c) : Pure (.agg cs) := fun S μ w v hv => by
  cases hv with
  | agg _ vs hl hx => exact .agg _ _ hl fun i c x hc hxi => h c (List.mem_of_getElem? hc) _ _ _ _ (hx i c x hc hxi)
theorem Pure.tup {cs : List DV} (h : ∀ c ∈ cs, Pure c) : Pure (.tup cs) := fun S μ w v hv => by
  cases hv with
  | tup _ vs hl hx => exact .tup _ _ hl fun i c x hc hxi => h c (List.mem_of_getElem? hc) _ _ _ _ (hx i c x hc hxi)
theorem Pure.fn {f : FuncId} {cs : List DV} (h : ∀ c ∈ cs, Pure c) : Pure (.fn f cs) := fun S μ w v hv => by
  cases hv with
  | fn _ _ vs hl hx => exact .fn _ _ _ hl fun i c x hc hxi => h c (List.mem_of_getElem? hc) _ _ _ _ (hx i c x hc hxi)
theorem Pure.imm (sz : Nat) (l : List DV) : Pure (.imm sz l) := fun S μ w v hv => by
  cases hv with
  | imm0 _ a cap => exact .imm0 _ a cap
  | imm _ _ B o cap cv hc hl h hv => exact .imm _ _ B o cap cv hc hl h hv
theorem Pure.ipt (e : DV) (o : Nat) : Pure (.ipt e o) := fun S μ w v hv => by
  cases hv with
  | ipt _ _ B o cv h hv => exact .ipt _ _ B o cv h hv

/-- Some rows stand in memory. -/
def Rows (S : Nat → Nat → Prop) (μ : Mu) (H : Heap) (w : World) (us : List Nat) : Prop := ∀ r ∈ us, ∀ R, H[r]? = some (.row R) → ∃ p, μ r = some p ∧ RowOK S μ w R p
theorem HRd.rows (h : HRd S μ H w) (us : List Nat) : Rows S μ H w us := fun r _ R hR => h.row r R hR
theorem Rows.sub {us us' : List Nat} (h : Rows S μ H w us') (hu : ∀ r ∈ us, r ∈ us') : Rows S μ H w us := fun r hr => h r (hu r hr)
theorem Flt.bd {d : DV} (h : Flt d) (k : Nat) : Bd k d := fun S μ w v hv => h _ _ _ _ _ _ v hv
theorem V.mu0_lift {d : DV} {v : Value} (μ : Mu) (h : V S mu0 w d v) : V S μ w d v := h.lift
theorem Pure.bd {d : DV} (h : Pure d) (k : Nat) : Bd k d := fun S μ w v hv => (h S μ w v hv).lift
/-- Read as data alone: d as d'; us: the rows that it shows. -/
def Frz (H : Heap) (d d' : DV) (us : List Nat) : Prop := ∀ (S S' : Nat → Nat → Prop) (μ : Mu) (w : World) (v : Value), Rows S μ H w us → (∀ B c, S B c → S' B c) → (∀ r ∈ us, ∀ B c, Shows H μ r B c → S' B c) → V S μ w d v → V S' mu0 w d' v
/-- The same of an element of a row. -/
def FrzC (H : Heap) (e e' : DV) (us : List Nat) : Prop := e'.cells.length = e.cells.length ∧ ∀ (S S' : Nat → Nat → Prop) (μ : Mu) (w : World) (f : Nat → Value), Rows S μ H w us → (∀ B c, S B c → S' B c) → (∀ r ∈ us, ∀ B c, Shows H μ r B c → S' B c) →
  (∀ (j : Nat) (c : DV), e.cells[j]? = some c → V S μ w c (f j)) → ∀ (j : Nat) (c : DV), e'.cells[j]? = some c → V S' mu0 w c (f j)
def FrzR (H : Heap) (l l' : List DV) (us : List Nat) : Prop := l'.length = l.length ∧ ∀ (i : Nat) (e e' : DV), l[i]? = some e → l'[i]? = some e' → FrzC H e e' us
def FrzL (H : Heap) (l l' : List DV) (us : List Nat) : Prop := l'.length = l.length ∧ ∀ (i : Nat) (e e' : DV), l[i]? = some e → l'[i]? = some e' → Frz H e e' us

theorem V.same {S' : Nat → Nat → Prop} {μ : Mu} {d : DV} {v : Value} (hS : ∀ B c, S B c → S' B c) (h : V S μ w d v) : V S' μ w d v := h.mono hS (MuLe.refl _) (fun _ _ _ => rfl)

theorem Frz.pure {d : DV} (h : Pure d) : Frz H d d [] := fun S S' μ w v _ hS _ hv => (h S μ w v hv).same hS
theorem Frz.more {d d' : DV} {us us' : List Nat} (h : Frz H d d' us) (hu : ∀ r ∈ us, r ∈ us') : Frz H d d' us' := fun S S' μ w v h1 h2 h3 hv => h S S' μ w v (h1.sub hu) h2 (fun r hr => h3 r (hu r hr)) hv
theorem FrzC.more {d d' : DV} {us us' : List Nat} (h : FrzC H d d' us) (hu : ∀ r ∈ us, r ∈ us') : FrzC H d d' us' := ⟨h.1, fun S S' μ w f h1 h2 h3 hv => h.2 S S' μ w f (h1.sub hu) h2 (fun r hr => h3 r (hu r hr)) hv⟩
theorem FrzR.more {l l' : List DV} {us us' : List Nat} (h : FrzR H l l' us) (hu : ∀ r ∈ us, r ∈ us') : FrzR H l l' us' := ⟨h.1, fun i e e' h1 h2 => (h.2 i e e' h1 h2).more hu⟩
theorem FrzL.more {l l' : List DV} {us us' : List Nat} (h : FrzL H l l' us) (hu : ∀ r ∈ us, r ∈ us') : FrzL H l l' us' := ⟨h.1, fun i e e' h1 h2 => (h.2 i e e' h1 h2).more hu⟩
theorem FrzL.nil : FrzL H [] [] [] := ⟨rfl, fun i e e' h => by simp at h⟩
theorem FrzL.cons {d d' : DV} {l l' : List DV} {us us' : List Nat} (h : Frz H d d' us) (hl : FrzL H l l' us') : FrzL H (d :: l) (d' :: l') (us ++ us') := ⟨by simp [hl.1], fun i e e' h1 h2 => by
  cases i with
  | zero => simp at h1 h2; subst h1 h2; exact h.more (by simp +contextual)
  | succ i => exact (hl.2 i e e' (by simpa using h1) (by simpa using h2)).more (by simp +contextual)⟩
theorem FrzL.cons0 {d d' : DV} {l l' : List DV} (h : Frz H d d' []) (hl : FrzL H l l' []) : FrzL H (d :: l) (d' :: l') [] := FrzL.cons h hl

theorem FrzL.CR {l l' : List DV} {us : List Nat} {vs : Array Value} (h : FrzL H l l' us) (hH : Rows S μ H w us) (hS : ∀ B c, S B c → S' B c) (hs : ∀ r ∈ us, ∀ B c, Shows H μ r B c → S' B c) (hv : CR S μ w l vs) : CR S' mu0 w l' vs :=
  ⟨by rw [h.1]; exact hv.1, fun i c v hc hvi => by
    have hlt := (List.getElem?_eq_some_iff.1 hc).1
    rw [h.1] at hlt
    exact h.2 i _ c (List.getElem?_eq_getElem hlt) hc S S' μ w v hH hS hs (hv.2 i _ v (List.getElem?_eq_getElem hlt) hvi)⟩

theorem Frz.agg {cs cs' : List DV} {us : List Nat} (h : FrzL H cs cs' us) : Frz H (.agg cs) (.agg cs') us := fun S S' μ w v hH hS hs hv => by
  cases hv with
  | agg _ vs hl hx =>
    obtain ⟨a1, a2⟩ := h.CR hH hS hs ⟨hl, hx⟩
    exact .agg _ _ a1 a2
theorem Frz.tup {cs cs' : List DV} {us : List Nat} (h : FrzL H cs cs' us) : Frz H (.tup cs) (.tup cs') us := fun S S' μ w v hH hS hs hv => by
  cases hv with
  | tup _ vs hl hx =>
    obtain ⟨a1, a2⟩ := h.CR hH hS hs ⟨hl, hx⟩
    exact .tup _ _ a1 a2
theorem Frz.fn {f : FuncId} {cs cs' : List DV} {us : List Nat} (h : FrzL H cs cs' us) : Frz H (.fn f cs) (.fn f cs') us := fun S S' μ w v hH hS hs hv => by
  cases hv with
  | fn _ _ vs hl hx =>
    obtain ⟨a1, a2⟩ := h.CR hH hS hs ⟨hl, hx⟩
    exact .fn _ _ _ a1 a2

def notAgg : DV → Bool | .agg _ => false | _ => true
theorem cellsOne {d : DV} (h : notAgg d = true) : d.cells = [d] := by cases d <;> first | rfl | cases h
theorem FrzC.one {d d' : DV} {us : List Nat} (h1 : notAgg d = true) (h2 : notAgg d' = true) (h : Frz H d d' us) : FrzC H d d' us := by
  refine ⟨by rw [cellsOne h1, cellsOne h2]; rfl, fun S S' μ w f hH hS hs hv j c hc => ?_⟩
  rw [cellsOne h1] at hv
  rw [cellsOne h2] at hc
  cases j with
  | zero =>
    simp at hc
    subst hc
    exact h S S' μ w _ hH hS hs (hv 0 d rfl)
  | succ j => simp at hc
theorem FrzC.agg {cs cs' : List DV} {us : List Nat} (h : FrzL H cs cs' us) : FrzC H (.agg cs) (.agg cs') us :=
  ⟨h.1, fun S S' μ w f hH hS hs hv j c hc => by
    have hc' : cs'[j]? = some c := hc
    have hlt := (List.getElem?_eq_some_iff.1 hc').1
    rw [h.1] at hlt
    exact h.2 j _ c (List.getElem?_eq_getElem hlt) hc' S S' μ w _ hH hS hs (hv j _ (List.getElem?_eq_getElem hlt))⟩
theorem FrzC.pure {e : DV} (h : ∀ c ∈ e.cells, Pure c) : FrzC H e e [] := ⟨rfl, fun S S' μ w f hH hS hs hv j c hc => (h c (List.mem_of_getElem? hc) _ _ _ _ (hv j c hc)).same hS⟩
theorem FrzR.pure {l : List DV} (h : ∀ e ∈ l, ∀ c ∈ e.cells, Pure c) : FrzR H l l [] := ⟨rfl, fun i e e' h1 h2 => by
  rw [h1] at h2
  cases h2
  exact .pure (h e (List.mem_of_getElem? h1))⟩
theorem FrzR.nil : FrzR H [] [] [] := ⟨rfl, fun i e e' h => by simp at h⟩
theorem FrzR.snoc {l l' : List DV} {d d' : DV} {us us' : List Nat} (hl : FrzR H l l' us) (h : FrzC H d d' us') : FrzR H (l ++ [d]) (l' ++ [d']) (us ++ us') := ⟨by simp [hl.1], fun i e e' h1 h2 => by
  rcases Nat.lt_trichotomy i l.length with hi | hi | hi
  · rw [List.getElem?_append_left hi] at h1
    rw [List.getElem?_append_left (by rw [hl.1]; exact hi)] at h2
    exact (hl.2 i e e' h1 h2).more (by simp +contextual)
  · subst hi
    rw [List.getElem?_append_right (Nat.le_refl _)] at h1
    rw [List.getElem?_append_right (by rw [hl.1]; exact Nat.le_refl _)] at h2
    simp [hl.1] at h1 h2
    subst h1 h2
    exact h.more (by simp +contextual)
  · rw [List.getElem?_append_right (by omega)] at h1
    obtain ⟨j, hj⟩ : ∃ j, i - l.length = j + 1 := ⟨i - l.length - 1, by omega⟩
    rw [hj] at h1
    simp at h1⟩

theorem Rows.agree {H' : Heap} {us : List Nat} (ha : ∀ r ∈ us, H'[r]? = H[r]?) (h : Rows S μ H' w us) : Rows S μ H w us := fun r hr R hR => h r hr R (by rw [ha r hr]; exact hR)
theorem Shows.agree {H' : Heap} {r B c : Nat} (ha : H'[r]? = H[r]?) (h : Shows H μ r B c) : Shows H' μ r B c := by
  obtain ⟨R, p, h1, h2⟩ := h
  exact ⟨R, p, by rw [ha]; exact h1, h2⟩
/-- Rows that are not shown do not count. -/
theorem Frz.agree {H' : Heap} {d d' : DV} {us : List Nat} (ha : ∀ r ∈ us, H'[r]? = H[r]?) (h : Frz H d d' us) : Frz H' d d' us := fun S S' μ w v h1 h2 h3 hv => h S S' μ w v (h1.agree ha) h2 (fun r hr B c hs => h3 r hr B c (hs.agree (ha r hr))) hv
theorem FrzC.agree {H' : Heap} {d d' : DV} {us : List Nat} (ha : ∀ r ∈ us, H'[r]? = H[r]?) (h : FrzC H d d' us) : FrzC H' d d' us := ⟨h.1, fun S S' μ w f h1 h2 h3 hv => h.2 S S' μ w f (h1.agree ha) h2 (fun r hr B c hs => h3 r hr B c (hs.agree (ha r hr))) hv⟩
theorem FrzR.agree {H' : Heap} {l l' : List DV} {us : List Nat} (ha : ∀ r ∈ us, H'[r]? = H[r]?) (h : FrzR H l l' us) : FrzR H' l l' us := ⟨h.1, fun i e e' h1 h2 => (h.2 i e e' h1 h2).agree ha⟩

/-- A row's piece. -/
theorem Frz.ref {r off len sz g cl : Nat} {R : Row} {l : List DV} {us : List Nat} (hr : H[r]? = some (.row R)) (hg : R.g = g) (hz : R.sz = sz) (ho : off + len ≤ R.elems.length) (hl : FrzR H ((R.elems.drop off).take len) l us) :
    Frz H (.ref r off len sz g cl) (.imm sz l) (r :: us) := fun S S' μ w v hH hS hs hv => by
  obtain ⟨p, hp, h1, h2, cs, t, fz, h3, h4, h5, h6, h7, h8⟩ := hH r (by simp) R hr
  have hlen : ((R.elems.drop off).take len).length = len := by simp; omega
  have hll : l.length = len := by rw [hl.1, hlen]
  subst hg hz
  cases hv with
  | ref _ _ _ _ _ _ a cap p' hp' hg' hcap hcl ha' hn =>
    rw [hp] at hp'
    cases hp'
    obtain ⟨e1, e2, e3⟩ := ha' (by omega)
    by_cases hl0 : len = 0
    · have : l = [] := List.eq_nil_of_length_eq_zero (by omega)
      subst this
      subst hl0
      exact .imm0 _ _ _
    · have ea : a = some ⟨p.B, p.o + off * p.sz, none⟩ := e3.resolve_left (by omega)
      subst ea
      have hcell : ∀ (i : Nat) (e : DV) (j : Nat) (c : DV), ((R.elems.drop off).take len)[i]? = some e → e.cells[j]? = some c → ∃ cv, cellAt w p.B (p.o + off * p.sz + i * R.sz + j) = some cv ∧ V S μ w c cv ∧ Shows H μ r p.B (p.o + off * p.sz + i * R.sz + j) := by
        intro i e j c hi hj
        obtain ⟨hi1, hi2⟩ := getElem?_sub _ _ _ _ hi
        obtain ⟨cv, q1, q2⟩ := (h7 _ _ hi2).2 j c hj
        have hjl := (List.getElem?_eq_some_iff.1 hj).1
        rw [(h7 _ _ hi2).1] at hjl
        have hil := (List.getElem?_eq_some_iff.1 hi2).1
        have hm : (off + i + 1) * R.sz ≤ R.elems.length * R.sz := Nat.mul_le_mul_right _ hil
        rw [Nat.add_mul, Nat.one_mul] at hm
        have hadd : p.o + off * p.sz + i * R.sz + j = p.o + (off + i) * R.sz + j := by rw [Nat.add_mul, h2]; omega
        refine ⟨cv, ?_, q2, R, p, hr, hp, rfl, by rw [hadd]; omega⟩
        rw [hadd]
        simp only [cellAt, h3]
        exact q1
      have helem : ∀ (i : Nat) (e' : DV), l[i]? = some e' → ∃ e, ((R.elems.drop off).take len)[i]? = some e ∧ FrzC H e e' us := by
        intro i e' hi
        have hlt := (List.getElem?_eq_some_iff.1 hi).1
        exact ⟨_, List.getElem?_eq_getElem (by omega), hl.2 i _ e' (List.getElem?_eq_getElem (by omega)) hi⟩
      have hcv : ∀ (i : Nat) (e e' : DV), ((R.elems.drop off).take len)[i]? = some e → FrzC H e e' us → ∀ (j : Nat) (c : DV), e'.cells[j]? = some c → V S' mu0 w c ((cellAt w p.B (p.o + off * p.sz + i * R.sz + j)).getD undef) := by
        intro i e e' hi hf
        refine hf.2 S S' μ w (fun j => (cellAt w p.B (p.o + off * p.sz + i * R.sz + j)).getD undef) (hH.sub (by simp +contextual)) hS (fun q hq => hs q (by simp [hq])) fun j c hj => ?_
        obtain ⟨cv, r1, r2, _⟩ := hcell i e j c hi hj
        rw [r1]; exact r2
      have main := V.imm (S := S') (μ := mu0) (w := w) R.sz l p.B (p.o + off * p.sz) cap (fun i j => (cellAt w p.B (p.o + off * p.sz + i * R.sz + j)).getD undef) (by omega)
        (fun i e' hi => by
          obtain ⟨e, q1, q2⟩ := helem i e' hi
          obtain ⟨hi1, hi2⟩ := getElem?_sub _ _ _ _ q1
          rw [q2.1, (h7 _ _ hi2).1])
        (fun i e' j c' hi hj => by
          obtain ⟨e, q1, q2⟩ := helem i e' hi
          have hjl := (List.getElem?_eq_some_iff.1 hj).1
          rw [q2.1] at hjl
          obtain ⟨cv, r1, r2, r3⟩ := hcell i e j _ q1 (List.getElem?_eq_getElem hjl)
          exact ⟨by rw [r1]; rfl, hs r (by simp) _ _ r3⟩)
        (fun i e' j c' hi hj => by
          obtain ⟨e, q1, q2⟩ := helem i e' hi
          exact hcv i e e' q1 q2 j c' hj)
      rw [hll] at main
      exact main

/-- An address. -/
theorem Frz.ptr {r i off sz g : Nat} {R : Row} {e e' : DV} {us : List Nat} (hr : H[r]? = some (.row R)) (hg : R.g = g) (hz : R.sz = sz) (he : R.elems[i]? = some e) (hf : FrzC H e e' us) : Frz H (.ptr r i off sz g) (.ipt e' off) (r :: us) := fun S S' μ w v hH hS hs hv => by
  have hH1 : HRd S μ (List.replicate r .dead ++ [.row R]) w := ⟨fun k R' hk => by
      rcases Nat.lt_trichotomy k r with h | h | h
      · rw [List.getElem?_append_left (by simpa using h)] at hk; simp [h] at hk
      · subst h; rw [List.getElem?_append_right (by simp)] at hk; simp at hk; subst hk; exact hH k (by simp) R hr
      · rw [List.getElem?_append_right (by simp; omega)] at hk
        obtain ⟨j, hj⟩ : ∃ j, k - r = j + 1 := ⟨k - r - 1, by omega⟩
        simp [hj] at hk, fun k es hk => by
      rcases Nat.lt_trichotomy k r with h | h | h
      · rw [List.getElem?_append_left (by simpa using h)] at hk; simp [h] at hk
      · subst h; rw [List.getElem?_append_right (by simp)] at hk; simp at hk
      · rw [List.getElem?_append_right (by simp; omega)] at hk
        obtain ⟨j, hj⟩ : ∃ j, k - r = j + 1 := ⟨k - r - 1, by omega⟩
        simp [hj] at hk⟩
  obtain ⟨p, hp, hrow, rfl, hsz, hcells⟩ := hH1.at_ptr (by rw [List.getElem?_append_right (by simp)]; simp) hg hz he hv
  have hv' := hf.2 S S' μ w (fun j => (cellAt w p.B (p.o + i * sz + j)).getD undef) (hH.sub (by simp +contextual)) hS (fun q hq => hs q (by simp [hq])) fun j c hj => by
    obtain ⟨cv, r1, r2⟩ := hcells j c hj
    rw [r1]; exact r2
  refine .ipt e' off p.B (p.o + i * sz) _ (fun j c hj => ?_) hv'
  have hjl := (List.getElem?_eq_some_iff.1 hj).1
  rw [hf.1] at hjl
  obtain ⟨cv, r1, r2⟩ := hcells j _ (List.getElem?_eq_getElem hjl)
  refine ⟨by rw [r1]; rfl, hs r (by simp) _ _ ⟨R, p, hr, hp, rfl, ?_⟩⟩
  have hil := (List.getElem?_eq_some_iff.1 he).1
  have hm : (i + 1) * R.sz ≤ R.elems.length * R.sz := Nat.mul_le_mul_right _ hil
  rw [Nat.add_mul, Nat.one_mul] at hm
  rw [hz] at hm ⊢
  omega
end Go.Dev

/- The logic: operations, calls, functions. -/
set_option linter.unusedVariables false
namespace Go.Dev
variable {S S' : Nat → Nat → Prop} {μ : Mu} {w w' : World} {H : Heap} {NG : Nat}

/-- A value that is handed back. -/
def PA (S' : Nat → Nat → Prop) (w w' : World) (v : Value) : PR → Prop
  | .val d => V S' mu0 w' d v
  | .own sz l => ∃ p cap, RowOK S' mu0 w' ⟨l, sz, 0, false, none⟩ p ∧ w.heap.size ≤ p.B ∧ l.length ≤ cap ∧ cap ≤ p.C ∧ v = .slice (some ⟨p.B, p.o, none⟩) l.length cap

/-- What a call of a function that shares no memory comes to: handed ds, it hands back pr. -/
structure Prim (E : Env) (f : FuncId) (ds : List DV) (pr : PR) : Prop where
  of0 ::
  run : E.Ok → HasBody E.P f ∧ ∀ S w (vs : Array Value), E.G w → E.NG ≤ w.heap.size → (∀ B c, S B c → B < w.heap.size) → CR S mu0 w ds vs → Calls E.P f vs w fun e w' =>
    ∃ v S', e = .returned v ∧ (∀ B c, S B c → S' B c) ∧ (∀ B c, S' B c → S B c ∨ w.heap.size ≤ B) ∧ (∀ B c, S' B c → B < w'.heap.size) ∧ w.heap.size ≤ w'.heap.size ∧ (∀ b, b < w.heap.size → w'.heap[b]? = w.heap[b]?) ∧ Io w w' ∧
      PA S' w w' v pr

section
variable {E : Env} {n n0 : Nat} {ρ : Tr} {o : Oper} {d : DV}

theorem Rc.val (h : evN E.P [] (opd ρ) o.op = some d) : Rc E n n0 H ρ o ⟨d, H, .P⟩ := .of <| fun hE => ⟨⟨fun _ => rfl, fun h => by cases h⟩, fun S μ w a HL K Q hH hG hr hR hA hK => by
  unfold Oper.wp
  obtain ⟨v, h1, h2⟩ := evN_ok (HRd.nil (w := w)) hr.opd h
  rw [h1]
  exact hK v S μ w hH (Step.refl _ _ _ _ _) h2⟩
theorem Rc.r (h : evN E.P (H.take n0) (opd ρ) o.op = some d) : Rc E n n0 H ρ o ⟨d, H, .R⟩ := .of <| fun hE => ⟨⟨fun _ => rfl, fun h => by cases h⟩, fun S μ w a HL K Q hH hG hr hR hA hK => by
  unfold Oper.wp
  rw [← hR rfl] at h
  obtain ⟨v, h1, h2⟩ := evN_ok (hH.toHRd.take n0) hr.opd h
  rw [h1]
  exact hK v S μ w hH (Step.refl _ _ _ _ _) h2⟩
theorem Rc.a (h : evN E.P H (opd ρ) o.op = some d) : Rc E n n0 H ρ o ⟨d, H, .A⟩ := .of <| fun hE => ⟨⟨fun _ => rfl, fun _ => rfl⟩, fun S μ w a HL K Q hH hG hr hR hA hK => by
  unfold Oper.wp
  have hl := hA rfl
  subst hl
  obtain ⟨v, h1, h2⟩ := evN_ok hH.toHRd hr.opd h
  rw [h1]
  exact hK v S μ w hH (Step.refl _ _ _ _ _) h2⟩

theorem Rc.e {eff : Eff} {k : Cls} (h : evE E.P H (opd ρ) o.op = some (d, eff)) (hk : k = .W ∨ (k = .A ∧ (eff.on H).take n0 = H.take n0)) : Rc E n n0 H ρ o ⟨d, eff.on H, k⟩ := .of <| fun hE => by
  have haw : k.aw = true := by rcases hk with rfl | ⟨rfl, _⟩ <;> rfl
  refine ⟨⟨fun h => ?_, fun h => ?_⟩, fun S μ w a HL K Q hH hG hr hR hA hK => ?_⟩
  · simp only at h; rw [haw] at h; cases h
  · rcases hk with rfl | ⟨rfl, h2⟩
    · cases h
    · exact h2
  · unfold Oper.wp
    have hl := hA haw
    subst hl
    obtain ⟨v, w', μ', h1, h2, h3, h4, h5⟩ := evE_ok hH hr.opd h
    have h2' : HR E.NG S μ' (if k.aw then eff.on HL else HL) w' := by rw [if_pos haw]; exact h2
    have h3' : Step HL.length S μ HL w S μ' (if k.aw then eff.on HL else HL) w' := by rw [if_pos haw]; exact h3
    rcases h1 with h1 | ⟨h1, rfl⟩
    · rw [h1]; exact hK v S μ' w' h2' h3' h5
    · rw [h1]; exact hK undef S μ' w' h2' h3' h5
theorem Rc.push {ob : Ob} (h : evE E.P H (opd ρ) o.op = some (d, .push ob)) (hn : decide (n0 ≤ H.length) = true) : Rc E n n0 H ρ o ⟨d, H ++ [ob], .A⟩ :=
  Rc.e (eff := .push ob) h (.inr ⟨rfl, List.take_append_of_le_length (of_decide_eq_true hn)⟩)
theorem Rc.setA {r : Nat} {ob : Ob} (h : evE E.P H (opd ρ) o.op = some (d, .set r ob)) (hn : decide (n0 ≤ r) = true) : Rc E n n0 H ρ o ⟨d, H.set r ob, .A⟩ :=
  Rc.e (eff := .set r ob) h (.inr ⟨rfl, by
    have hn := of_decide_eq_true hn
    apply List.ext_getElem?
    intro k
    simp only [Eff.on]
    rw [List.getElem?_take, List.getElem?_take]
    split
    · rw [List.getElem?_set_ne (by omega)]
    · rfl⟩)
theorem Rc.set {r : Nat} {ob : Ob} (h : evE E.P H (opd ρ) o.op = some (d, .set r ob)) : Rc E n n0 H ρ o ⟨d, H.set r ob, .W⟩ := Rc.e (eff := .set r ob) h (.inl rfl)
theorem Rc.nil (h : evE E.P H (opd ρ) o.op = some (d, .none)) : Rc E n n0 H ρ o ⟨d, H, .A⟩ := Rc.e (eff := .none) h (.inr ⟨rfl, rfl⟩)

variable {fid : FuncId} {as as' : List DV} {us : List Nat}

/-- A call whose arguments show no rows, and that hands back a value. -/
theorem Rc.callP (hp : Prim E fid as' (.val d)) (hc : callOf (opd ρ) o.op = some (fid, as)) (hf : FrzL [] as as' []) : Rc E n n0 H ρ o ⟨d, H, .P⟩ := .of <| fun hE => by
  obtain ⟨hb, hpr⟩ := hp.run hE
  refine ⟨⟨fun _ => rfl, fun h => by cases h⟩, fun S μ w a HL K Q hH hG hr hR hA hK => ?_⟩
  obtain ⟨vs, hcr, hrun⟩ : ∃ vs : Array Value, CR S μ w as vs ∧ (execOp a.eval o).run E.P w = .ok (.enter fid vs) w := callOf_run (C := E.C) hE.W hr hc hb
  unfold Oper.wp
  rw [hrun]
  refine (hpr S w vs hG hH.ng hH.st (hf.CR ((HRd.nil (w := w) (S := S) (μ := μ)).rows []) (fun _ _ h => h) (fun r hr => by cases hr) hcr)).mono fun e w' ⟨v, S', hev, s1, s2, s3, s4, s5, s6, hval⟩ => ?_
  obtain ⟨k1, k2, _⟩ := ext_ok (S' := S') (w' := w') hH s1 s2 s3 s5 s4 s6
  subst hev
  exact hK v S' μ w' k1 k2 hval.lift

/-- A call that reads rows that were there, and hands back a value without memory. -/
theorem Rc.callR (hp : Prim E fid as' (.val d)) (hfl : Flt d) (hc : callOf (opd ρ) o.op = some (fid, as)) (hf : ∃ us, FrzL (H.take n0) as as' us) : Rc E n n0 H ρ o ⟨d, H, .R⟩ := .of <| fun hE => by
  obtain ⟨us, hf⟩ := hf
  obtain ⟨hb, hpr⟩ := hp.run hE
  refine ⟨⟨fun _ => rfl, fun h => by cases h⟩, fun S μ w a HL K Q hH hG hr hR hA hK => ?_⟩
  obtain ⟨vs, hcr, hrun⟩ : ∃ vs : Array Value, CR S μ w as vs ∧ (execOp a.eval o).run E.P w = .ok (.enter fid vs) w := callOf_run (C := E.C) hE.W hr hc hb
  unfold Oper.wp
  rw [hrun]
  rw [← hR rfl] at hf
  obtain ⟨g1, g2, g3⟩ := frz_ok (vs := us) (S' := fun B c => S B c ∨ ∃ r ∈ us, Shows HL μ r B c) hH (fun _ _ h => .inl h) (fun _ _ h => h)
  have hcr' := hf.CR (S' := fun B c => S B c ∨ ∃ r ∈ us, Shows HL μ r B c) ((hH.toHRd.take n0).rows us) (fun _ _ h => .inl h) (fun r hr B c ⟨R, p, q1, q2⟩ => .inr ⟨r, hr, R, p, (by rw [List.getElem?_take] at q1; split at q1; exact q1; cases q1), q2⟩) hcr
  refine (hpr _ w vs hG hH.ng g1.st hcr').mono fun e w' ⟨v, S', hev, s1, s2, s3, s4, s5, s6, hval⟩ => ?_
  obtain ⟨k1, k2, _⟩ := ext_ok (S' := S) (w' := w') hH (fun _ _ h => h) (fun _ _ h => .inl h) (fun B c hc => Nat.lt_of_lt_of_le (hH.st B c hc) s4) s5 s4 s6
  subst hev
  exact hK v S μ w' k1 k2 (hfl _ _ _ _ _ _ _ hval)

/-- A call that reads rows, and hands back a value without memory. -/
theorem Rc.callA (hp : Prim E fid as' (.val d)) (hfl : Flt d) (hc : callOf (opd ρ) o.op = some (fid, as)) (hf : ∃ us, FrzL H as as' us) : Rc E n n0 H ρ o ⟨d, H, .A⟩ := .of <| fun hE => by
  obtain ⟨us, hf⟩ := hf
  obtain ⟨hb, hpr⟩ := hp.run hE
  refine ⟨⟨fun _ => rfl, fun _ => rfl⟩, fun S μ w a HL K Q hH hG hr hR hA hK => ?_⟩
  obtain ⟨vs, hcr, hrun⟩ : ∃ vs : Array Value, CR S μ w as vs ∧ (execOp a.eval o).run E.P w = .ok (.enter fid vs) w := callOf_run (C := E.C) hE.W hr hc hb
  unfold Oper.wp
  rw [hrun]
  have hl := hA rfl
  subst hl
  obtain ⟨g1, g2, g3⟩ := frz_ok (vs := us) (S' := fun B c => S B c ∨ ∃ r ∈ us, Shows HL μ r B c) hH (fun _ _ h => .inl h) (fun _ _ h => h)
  have hcr' := hf.CR (S' := fun B c => S B c ∨ ∃ r ∈ us, Shows HL μ r B c) (hH.toHRd.rows us) (fun _ _ h => .inl h) (fun r hr B c h => .inr ⟨r, hr, h⟩) hcr
  refine (hpr _ w vs hG hH.ng g1.st hcr').mono fun e w' ⟨v, S', hev, s1, s2, s3, s4, s5, s6, hval⟩ => ?_
  obtain ⟨k1, k2, _⟩ := ext_ok (S' := S) (w' := w') hH (fun _ _ h => h) (fun _ _ h => .inl h) (fun B c hc => Nat.lt_of_lt_of_le (hH.st B c hc) s4) s5 s4 s6
  subst hev
  exact hK v S μ w' k1 k2 (hfl _ _ _ _ _ _ _ hval)

/-- A call whose arguments' rows are data from then on. -/
theorem Rc.callW {k : Cls} (hp : Prim E fid as' (.val d)) (hc : callOf (opd ρ) o.op = some (fid, as)) (hf : FrzL H as as' us) (hk : k = .W ∨ (k = .A ∧ (us.all fun r => decide (n0 ≤ r)) = true)) : Rc E n n0 H ρ o ⟨d, frz us H, k⟩ := .of <| fun hE => by
  obtain ⟨hb, hpr⟩ := hp.run hE
  have haw : k.aw = true := by rcases hk with rfl | ⟨rfl, _⟩ <;> rfl
  refine ⟨⟨fun h => ?_, fun h => ?_⟩, fun S μ w a HL K Q hH hG hr hR hA hK => ?_⟩
  · simp only at h; rw [haw] at h; cases h
  · rcases hk with rfl | ⟨rfl, h2⟩
    · cases h
    · exact frz_take us H h2
  obtain ⟨vs, hcr, hrun⟩ : ∃ vs : Array Value, CR S μ w as vs ∧ (execOp a.eval o).run E.P w = .ok (.enter fid vs) w := callOf_run (C := E.C) hE.W hr hc hb
  unfold Oper.wp
  rw [hrun]
  have hl := hA haw
  subst hl
  obtain ⟨g1, g2, g3⟩ := frz_ok (vs := us) (S' := fun B c => S B c ∨ ∃ r ∈ us, Shows HL μ r B c) hH (fun _ _ h => .inl h) (fun _ _ h => h)
  have hcr' := hf.CR (S' := fun B c => S B c ∨ ∃ r ∈ us, Shows HL μ r B c) (hH.toHRd.rows us) (fun _ _ h => .inl h) (fun r hr B c h => .inr ⟨r, hr, h⟩) hcr
  refine (hpr _ w vs hG hH.ng g1.st hcr').mono fun e w' ⟨v, S', hev, s1, s2, s3, s4, s5, s6, hval⟩ => ?_
  obtain ⟨k1, k2, _⟩ := ext_ok (S' := S') (w' := w') g1 s1 s2 s3 s5 s4 s6
  have hlen : (frz us HL).length = HL.length := (frz_get 0 us HL).1
  rw [hlen] at k2
  subst hev
  exact hK v S' μ w' (by simp only [haw, if_true]; exact k1) (by simp only [haw, if_true]; exact g2.trans k2) hval.lift

/-- A call that hands back a slice of its own. -/
theorem Rc.callO {k : Cls} {sz : Nat} {l : List DV} (hp : Prim E fid as' (.own sz l)) (hc : callOf (opd ρ) o.op = some (fid, as)) (hf : FrzL H as as' us) (hk : k = .W ∨ (k = .A ∧ (us.all fun r => decide (n0 ≤ r)) = true ∧ decide (n0 ≤ H.length) = true)) :
    Rc E n n0 H ρ o ⟨.ref H.length 0 l.length sz 0 l.length, frz us H ++ [.row ⟨l, sz, 0, false, none⟩], k⟩ := .of <| fun hE => by
  obtain ⟨hb, hpr⟩ := hp.run hE
  have haw : k.aw = true := by rcases hk with rfl | ⟨rfl, _⟩ <;> rfl
  have hlen : (frz us H).length = H.length := (frz_get 0 us H).1
  refine ⟨⟨fun h => ?_, fun h => ?_⟩, fun S μ w a HL K Q hH hG hr hR hA hK => ?_⟩
  · simp only at h; rw [haw] at h; cases h
  · rcases hk with rfl | ⟨rfl, h2, h3⟩
    · cases h
    · show (frz us H ++ [Ob.row ⟨l, sz, 0, false, none⟩]).take n0 = H.take n0
      rw [List.take_append_of_le_length (by rw [hlen]; exact of_decide_eq_true h3)]
      exact frz_take us H h2
  obtain ⟨vs, hcr, hrun⟩ : ∃ vs : Array Value, CR S μ w as vs ∧ (execOp a.eval o).run E.P w = .ok (.enter fid vs) w := callOf_run (C := E.C) hE.W hr hc hb
  unfold Oper.wp
  rw [hrun]
  have hl := hA haw
  subst hl
  obtain ⟨g1, g2, g3⟩ := frz_ok (vs := us) (S' := fun B c => S B c ∨ ∃ r ∈ us, Shows HL μ r B c) hH (fun _ _ h => .inl h) (fun _ _ h => h)
  have hcr' := hf.CR (S' := fun B c => S B c ∨ ∃ r ∈ us, Shows HL μ r B c) (hH.toHRd.rows us) (fun _ _ h => .inl h) (fun r hr B c h => .inr ⟨r, hr, h⟩) hcr
  refine (hpr _ w vs hG hH.ng g1.st hcr').mono fun e w' ⟨v, S', hev, s1, s2, s3, s4, s5, s6, p, cap, r1, r2, r3, r4, r5⟩ => ?_
  obtain ⟨k1, k2, _⟩ := push_okS (w' := w') g1 (o := .row ⟨l, sz, 0, false, none⟩) (p := p) s1 s2 s3 s5 s4 s6 r2 (fun _ => r1.mono rfl (fun d v hv => hv.lift) (fun _ h => h))
  rw [hlen] at k1 k2
  obtain ⟨z1, z2, _⟩ := r1
  subst hev
  refine hK v _ _ w' (by simp only [haw, if_true]; exact k1) (by simp only [haw, if_true]; exact g2.trans k2) ?_
  rw [r5]
  exact .refS _ _ _ _ _ _ _ _ _ (put_self _ _ _) (Nat.zero_le _) r3 r3 fun _ => ⟨z2.symm, by omega, .inr (by simp)⟩
theorem Rc.callO0 {sz : Nat} {l : List DV} (hp : Prim E fid as' (.own sz l)) (hc : callOf (opd ρ) o.op = some (fid, as)) (hf : FrzL H as as' []) (hn : decide (n0 ≤ H.length) = true) :
    Rc E n n0 H ρ o ⟨.ref H.length 0 l.length sz 0 l.length, H ++ [.row ⟨l, sz, 0, false, none⟩], .A⟩ := Rc.callO hp hc hf (.inr ⟨rfl, rfl, hn⟩)

/-- What a function hands back, told as data. -/
def Hands (H : Heap) (r : DV) : PR → Prop
  | .val d => ∃ us, Frz H r d us
  | .own sz l => ∃ k off len cl R us, r = .ref k off len sz R.g cl ∧ H[k]? = some (.row R) ∧ R.sz = sz ∧ R.fz = false ∧ 0 < len ∧ off + len = R.elems.length ∧ FrzR H (R.elems.drop off) l us ∧ k ∉ us

theorem Hands.pure {d : DV} (h : Pure d) : Hands H d (.val d) := ⟨[], .pure h⟩

/-- What was made apart, read as data alone. -/
theorem dropS {Hc : Heap} {μ' : Mu} (hc : HR NG S' μ' Hc w') (st : Step 0 S mu0 [] w S' μ' Hc w') (us : List Nat) :
    (∀ B c, S B c → (S' B c ∨ ∃ r ∈ us, Shows Hc μ' r B c)) ∧ (∀ B c, (S' B c ∨ ∃ r ∈ us, Shows Hc μ' r B c) → S B c ∨ w.heap.size ≤ B) ∧ (∀ B c, (S' B c ∨ ∃ r ∈ us, Shows Hc μ' r B c) → B < w'.heap.size) ∧ (∀ b, b < w.heap.size → w'.heap[b]? = w.heap[b]?) ∧ (∀ r p, live Hc r → μ' r = some p → w.heap.size ≤ p.B) := by
  have hnl : ∀ r, ¬ live ([] : Heap) r := fun r hl => by have := live_lt hl; simp at this
  have hown : ∀ r p, live Hc r → μ' r = some p → w.heap.size ≤ p.B := fun r p hl hp => (st.own r p hl hp).elim id fun ⟨r0, p0, q, _⟩ => absurd q (hnl r0)
  refine ⟨fun B c h => .inl (st.sub B c h), ?_, ?_, fun b hb => st.frame b hb fun r p hl => absurd hl (hnl r), hown⟩
  · rintro B c (hs | ⟨r, _, R, p, q1, q2, q3, _⟩)
    · rcases st.snew B c hs with h | h | ⟨r, p, hl, _⟩
      · exact .inl h
      · exact .inr h
      · exact absurd hl (hnl r)
    · exact .inr (by rw [← q3]; exact hown r p (.inl ⟨R, q1⟩) q2)
  · rintro B c (hs | ⟨r, _, R, p, q1, q2, q3, _⟩)
    · exact hc.st B c hs
    · rw [← q3]; exact hc.lt (.inl ⟨R, q1⟩) q2

/-- A function, by what holds at its end. -/
theorem Prim.of {f : FuncId} {fn : Func} {c : Code} {ds : List DV} {pr : PR} {m : Nat} (hf : E.P.funcs[f]? = some fn) (hm : fn.ntmps = m) (hb : fn.body = some c) (hl : decide (ds.length ≤ m) = true)
    (h : T E m c (initR 0 ds .e, []) (fun s => ∃ r, resultsD E.P s.2 s.1 fn.results.toList = some r ∧ Hands s.2 r pr) (fun e s => e = .ret ∧ ∃ r, resultsD E.P s.2 s.1 fn.results.toList = some r ∧ Hands s.2 r pr)) : Prim E f ds pr := .of0 <| fun hE => by
  subst hm
  refine ⟨⟨fn, hf, by rw [hb]; rfl⟩, fun S w vs hG hng hst hv => calls_of_wp hf hb ?_⟩
  have hlen := of_decide_eq_true hl
  have hH : HR E.NG S mu0 [] w := ⟨⟨fun r R hr => by simp at hr, fun r es hr => by simp at hr⟩, fun _ _ => rfl, fun r r' p p' hl => by have := live_lt hl; simp at this, fun r p hl => by have := live_lt hl; simp at this, hng, hst, fun r g sz hr => by simp at hr⟩
  have hentry : Inv E.G E.NG S mu0 [] w fn.ntmps (initR 0 ds .e, []) { tmps := vs ++ Array.replicate (fn.ntmps - vs.size) undef, defers := [] } w := by
    refine ⟨S, mu0, hH, hG, Step.refl _ _ _ _ _, ?_, rfl, fun i => ?_⟩
    · simp
      have := hv.1
      omega
    · simp only
      rw [initR_get]
      by_cases hi : i < ds.length
      · rw [if_pos (by omega)]
        have h1 : ds[i]? = some ds[i] := List.getElem?_eq_getElem hi
        have h2 : vs[i]? = some (vs[i]'(by rw [← hv.1]; exact hi)) := Array.getElem?_eq_getElem _
        rw [Nat.sub_zero, List.getD_eq_getElem?_getD, h1, Array.getD_eq_getD_getElem?, Array.getElem?_append_left (by rw [← hv.1]; exact hi), h2]
        exact hv.2 i _ _ h1 h2
      · rw [if_neg (by omega)]
        exact .und _
  have fin : ∀ (s : St) (a : Act) (w1 : World), (∃ r, resultsD E.P s.2 s.1 fn.results.toList = some r ∧ Hands s.2 r pr) → Inv E.G E.NG S mu0 [] w fn.ntmps s a w1 → a.defers = [] ∧ ∃ v, (results fn a.tmps).run E.P w1 = .ok v w1 ∧
      ∃ v' S', Ending.returned v = .returned v' ∧ (∀ B c, S B c → S' B c) ∧ (∀ B c, S' B c → S B c ∨ w.heap.size ≤ B) ∧ (∀ B c, S' B c → B < w1.heap.size) ∧ w.heap.size ≤ w1.heap.size ∧ (∀ b, b < w.heap.size → w1.heap[b]? = w.heap[b]?) ∧ Io w w1 ∧ PA S' w w1 v' pr := by
    intro s a w1 ⟨r, hres, hh⟩ hi
    obtain ⟨S', μ', k1, k2, k3, k4⟩ := hi.ex
    obtain ⟨v, z1, z2⟩ := results_ok (C := E.C) k1.toHRd k4 hres
    refine ⟨k4.defers, v, z1, ?_⟩
    cases pr with
    | val d =>
      obtain ⟨us, hfz⟩ := hh
      obtain ⟨q1, q2, q3, q4, _⟩ := dropS k1 k3 us
      exact ⟨v, fun B c => S' B c ∨ ∃ r ∈ us, Shows s.2 μ' r B c, rfl, q1, q2, q3, k3.size, q4, k3.io, hfz _ _ _ _ _ (k1.toHRd.rows us) (fun _ _ h => Or.inl h) (fun r hr B c h => Or.inr ⟨r, hr, h⟩) z2⟩
    | own sz l =>
      obtain ⟨k, off, len, cl, R, us, rfl, hr, rfl, hfz, hpos, hlen, hfr, hku⟩ := hh
      obtain ⟨q1, q2, q3, q4, q5⟩ := dropS k1 k3 us
      refine ⟨v, fun B c => S' B c ∨ ∃ r ∈ us, Shows s.2 μ' r B c, rfl, q1, q2, q3, k3.size, q4, k3.io, ?_⟩
      obtain ⟨p, hp, e1, e2, cs, t, fz, e3, e4, e5, e6, e7, e8⟩ := k1.row k R hr
      have hll : l.length = len := by rw [hfr.1]; simp; omega
      cases z2 with
      | ref _ _ _ _ _ _ a cap p' hp' hg' hcap hcl ha' hn =>
        obtain ⟨a, rfl⟩ : ∃ a', a = some a' := by
          cases a with
          | none => have := hn rfl; omega
          | some a => exact ⟨a, rfl⟩
        rw [hp] at hp'
        cases hp'
        obtain ⟨a1, a2, a3⟩ := ha' (by omega)
        have hmul : off * R.sz + (p.C - off) * R.sz = p.C * R.sz := by rw [← Nat.add_mul]; congr 1; omega
        rw [e2] at e5
        refine ⟨⟨p.B, p.o + off * R.sz, p.C - off, 0, R.sz⟩, cap, ⟨rfl, rfl, cs, t, fz, e3, by simp only; omega, by simp only; omega, ⟨e6.1, fun u hu => by cases hu⟩, fun i e' he' => ?_, fun c hc => ?_⟩, q5 k p (.inl ⟨R, hr⟩) hp, by omega, by simp only; omega, ?_⟩
        · replace he' : l[i]? = some e' := he'
          have hlt := (List.getElem?_eq_some_iff.1 he').1
          have hel : (R.elems.drop off)[i]? = some ((R.elems.drop off)[i]'(by rw [← hfr.1]; exact hlt)) := List.getElem?_eq_getElem _
          have hel' : R.elems[off + i]? = some ((R.elems.drop off)[i]'(by rw [← hfr.1]; exact hlt)) := by rw [← List.getElem?_drop]; exact hel
          have hc1 := hfr.2 i _ e' hel he'
          have hc2 := hc1.2 S' (fun B c => S' B c ∨ ∃ r ∈ us, Shows s.2 μ' r B c) μ' w1 (fun j => (cs[p.o + (off + i) * R.sz + j]?).getD undef) (k1.toHRd.rows us) (fun B c h => Or.inl h) (fun r hr B c h => Or.inr ⟨r, hr, h⟩) (fun j c hj => by
            obtain ⟨cv, z1, z2⟩ := (e7 _ _ hel').2 j c hj
            rw [z1]; exact z2)
          refine ⟨by rw [hc1.1, (e7 _ _ hel').1], fun j c hj => ?_⟩
          have hjl := (List.getElem?_eq_some_iff.1 hj).1
          rw [hc1.1] at hjl
          obtain ⟨cv, z1, z2⟩ := (e7 _ _ hel').2 j _ (List.getElem?_eq_getElem hjl)
          refine ⟨cv, ?_, ?_⟩
          · rw [← z1]
            simp only [Nat.add_mul]
            congr 1
            omega
          · have := hc2 j c hj
            rw [z1] at this
            exact this
        · exfalso
          rcases hc with hc | ⟨r, hra, Rq, pq, z1, z2, z3, z4⟩
          · obtain ⟨s1, s2⟩ := e8 c hc
            rw [hfz] at s1
            cases s1
          · have e := k1.dist r k pq p (.inl ⟨Rq, z1⟩) (.inl ⟨R, hr⟩) z2 hp z3
            subst e
            exact hku hra
        · rw [hll]
          rw [Option.some.inj (a3.resolve_left (by omega)), e2]
  refine h.run hE S mu0 [] w (Nat.zero_le _) _ w _ hentry (fun s a w1 hN hi => fin s a w1 hN hi) (fun e s a w1 hA hne hi => ?_)
  obtain ⟨rfl, hA⟩ := hA
  exact fin s a w1 hA hi
end
end Go.Dev
