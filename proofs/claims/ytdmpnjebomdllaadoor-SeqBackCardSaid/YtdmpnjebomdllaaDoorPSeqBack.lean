/- SeqBack, as a plain law: a set that is written is read again, and the set of a list has its numbers. -/
import Derived.Test.YtdmpnjebomdllaaDoorPSeqOf
import Derived.Test.YtdmpnjebomdllaaDoorPSeqText
import Derived.Test.YtdmpnjebomdllaaDoorPAwake9
import Derived.Test.YtdmpnjebomdllaaDoorX4
import Derived.Test.YtdmpnjebomdllaaDoorX3
import Derived.Test.YtdmpnjebomdllaaDoorX9
namespace Go.Proofs.YtdmpnjebomdllaaDoor.Pure
open Go.RowKit Go.Proofs.YtdmpnjebomdllaaDoorW.PrintWords Go.Proofs.YtdmpnjebomdllaaDoorW.PrintLast Go.Proofs.YtdmpnjebomdllaaDoor.X Go.Proofs.Mine
set_option linter.unusedSimpArgs false

def ownL (L : List S38) : List S59 := L.map fun x => ⟨x.f0, x.f1⟩
theorem ownL_len (L : List S38) : (ownL L).length = L.length := by simp [ownL]
theorem ownL_snoc (L : List S38) (x : S38) : ownL (L ++ [x]) = ownL L ++ [⟨x.f0, x.f1⟩] := by simp [ownL]
theorem ownL_mid (pre l : List S38) (x : S38) : ownL (pre ++ x :: l) = ownL pre ++ ⟨x.f0, x.f1⟩ :: ownL l := by simp [ownL]
theorem rdR_of {pre l : List S59} {c : S59} : rd_T59 (pre ++ c :: l) (pre.length : Int) = c := by simp [rd_T59, List.getD_eq_getElem?_getD]
theorem own_loop (L : List S38) (hL : L.length ≤ 110) : ∀ (l pre : List S38), L = pre ++ l →
    Ev (fun k => frankinglaw9_own.l0 k (pre.length : Int) L (ownL pre)) (ownL L) := by
  intro l
  induction l with
  | nil =>
    intro pre h
    have hl : L.length = pre.length := by rw [h]; simp
    have hp : pre = L := by rw [h, List.append_nil]
    exact Ev.after fun k => by rw [frankinglaw9_own.l0, if_neg (by omega), hp]
  | cons x l ih =>
    intro pre h
    have hl : L.length = pre.length + (l.length + 1) := by rw [h]; simp
    have hr : rd_T38 L (pre.length : Int) = x := by rw [h]; exact rdS_of
    have ih' := ih (pre ++ [x]) (by rw [h]; simp)
    rw [List.length_append, List.length_singleton, ownL_snoc] at ih'
    exact Ev.step (fun k => by rw [frankinglaw9_own.l0, if_pos (by omega), if_pos (by omega), if_pos (by rw [ownL_len]; omega), hr, wrap_nat (by omega)]) ih'
theorem own_ev (L : List S38) (hL : L.length ≤ 110) : Ev (fun k => frankinglaw9_own.f k L) (ownL L) :=
  Ev.congr (fun k => by unfold frankinglaw9_own.f; rfl) (own_loop L hL L [] rfl)
theorem sets_loop (L : List S38) (hL : L.length ≤ 110) : ∀ (l pre : List S38), L = pre ++ l →
    Ev (fun k => frankinglaw9_sets.l0 k (pre.length : Int) L (ownL L)) true := by
  intro l
  induction l with
  | nil =>
    intro pre h
    have hl : L.length = pre.length := by rw [h]; simp
    exact Ev.after fun k => by rw [frankinglaw9_sets.l0, if_neg (by rw [ownL_len]; omega)]
  | cons x l ih =>
    intro pre h
    have hl : L.length = pre.length + (l.length + 1) := by rw [h]; simp
    have hr : rd_T38 L (pre.length : Int) = x := by rw [h]; exact rdS_of
    have hq : rd_T59 (ownL L) (pre.length : Int) = ⟨x.f0, x.f1⟩ := by
      rw [h, ownL_mid, ← ownL_len pre]
      exact rdR_of
    have ih' := ih (pre ++ [x]) (by rw [h]; simp)
    rw [List.length_append, List.length_singleton] at ih'
    exact Ev.step (fun k => by rw [frankinglaw9_sets.l0, if_pos (by rw [ownL_len]; omega), if_pos (by omega), if_pos (by omega), hr, hq, if_pos rfl, if_pos rfl, wrap_nat (by omega)]) ih'
theorem sets_ev (L : List S38) (hL : L.length ≤ 110) : Ev (fun k => frankinglaw9_sets.f k L (ownL L)) true :=
  Ev.congr (fun k => by unfold frankinglaw9_sets.f; rw [ownL_len, if_pos rfl]; rfl) (sets_loop L hL L [] rfl)
theorem in_loop (n : Int) (L : List Int) (hL : L.length ≤ 60) (hend : Ev (fun k => (seq_Of.f k L).bind fun t => frankinglaw9_SeqBack.l1 k n (L.any fun x => x == n) 0 t) true) :
    ∀ (l pre : List Int), L = pre ++ l → Ev (fun k => frankinglaw9_SeqBack.l0 k L n (pre.any fun x => x == n) (pre.length : Int)) true := by
  intro l
  induction l with
  | nil =>
    intro pre h
    have hl : L.length = pre.length := by rw [h]; simp
    have hp : pre = L := by rw [h, List.append_nil]
    rw [← hp] at hend
    refine Ev.step (fun k => ?_) hend
    rw [hp, frankinglaw9_SeqBack.l0, if_neg (by omega)]
  | cons x l ih =>
    intro pre h
    have hl : L.length = pre.length + (l.length + 1) := by rw [h]; simp
    have hr : rd L (pre.length : Int) = x := by rw [h]; exact rd_of
    have ih' := ih (pre ++ [x]) (by rw [h]; simp)
    have e : ((pre ++ [x]).any fun y => y == n) = ((pre.any fun y => y == n) || (x == n)) := by simp
    rw [List.length_append, List.length_singleton, e] at ih'
    cases hb : (pre.any fun y => y == n) with
    | true =>
      rw [hb, Bool.true_or] at ih'
      exact Ev.step (fun k => by rw [frankinglaw9_SeqBack.l0, if_pos (by omega), if_pos rfl, wrap_nat (by omega)]) ih'
    | false =>
      rw [hb, Bool.false_or] at ih'
      exact Ev.step (fun k => by rw [frankinglaw9_SeqBack.l0, if_pos (by omega), if_neg (by decide), if_pos (by omega), hr, wrap_nat (by omega)]) ih'
def Gap (O : List S38) : Prop := ∀ pre x l, O = pre ++ x :: l → okS x ∧ ∀ p q, pre = p ++ [q] → q.f1 + 1 < x.f0
theorem chain_gap : ∀ R : List S38, Chain R → Gap R.reverse
  | [], _ => fun pre x l e => by simp at e
  | s :: r, ⟨a, d, c⟩ => by
    intro pre x l e
    rw [List.reverse_cons] at e
    rcases List.eq_nil_or_concat l with rfl | ⟨l', z, rfl⟩
    · obtain ⟨e1, e2⟩ := List.append_inj' e rfl
      have e3 : s = x := by injection e2
      subst e3
      refine ⟨a, fun p q hq => d q ?_⟩
      rw [← List.mem_reverse, e1, hq]
      simp
    · have e' : r.reverse ++ [s] = (pre ++ x :: l') ++ [z] := by rw [e]; simp
      obtain ⟨e1, _⟩ := List.append_inj' e' rfl
      exact chain_gap r c pre x l' e1
theorem chk_loop (O : List S38) (hO : O.length ≤ 60) (n : Int) (b : Bool) (hg : Gap O)
    (hfin : Ev (fun k => if n < 1 then some true else if n > 4294967295 then some true else ((seq_Has.f k O n n).bind fun t => some (t == b))) true) :
    ∀ (l pre : List S38), O = pre ++ l → Ev (fun k => frankinglaw9_SeqBack.l1 k n b (pre.length : Int) O) true := by
  intro l
  induction l with
  | nil =>
    intro pre h
    have hl : O.length = pre.length := by rw [h]; simp
    exact Ev.step (fun k => by rw [frankinglaw9_SeqBack.l1, if_neg (by omega)]) hfin
  | cons x l ih =>
    intro pre h
    have hl : O.length = pre.length + (l.length + 1) := by rw [h]; simp
    have hr : rd_T38 O (pre.length : Int) = x := by rw [h]; exact rdS_of
    have ih' := ih (pre ++ [x]) (by rw [h]; simp)
    rw [List.length_append, List.length_singleton] at ih'
    obtain ⟨⟨x1, x2, x3⟩, hx⟩ := hg pre x l h
    refine Ev.step (fun k => ?_) ih'
    rw [frankinglaw9_SeqBack.l1, if_pos (by omega), if_pos (by omega), hr, if_neg (by omega)]
    rcases List.eq_nil_or_concat pre with rfl | ⟨p, q, hpq⟩
    · rw [if_neg (by simp), wrap_nat (by simp)]
    · (try rw [List.concat_eq_append] at hpq)
      subst hpq
      have hp : (p ++ [q]).length = p.length + 1 := by simp
      have h' : O = p ++ q :: (x :: l) := by rw [h]; simp
      obtain ⟨⟨q1, q2, q3⟩, _⟩ := hg p q (x :: l) h'
      have hq := hx p q rfl
      have hw : wrap64 (((p ++ [q]).length : Int) - 1) = (p.length : Int) := by rw [hp, wrap_id (by omega) (by omega)]; omega
      have hrq : rd_T38 O (p.length : Int) = q := by rw [h']; exact rdS_of
      rw [if_pos (by omega), hw, if_pos (by omega), if_pos (by omega), hrq, wrap_id (n := q.f1 + 1) (by omega) (by omega), if_neg (by omega), wrap_nat (by omega)]
theorem any_has {O : List S38} (h : ∀ x ∈ O, okS x) (n : Int) : (O.any fun x => inSpan x n n) = true ↔ has O n := by
  rw [List.any_eq_true]
  constructor
  · rintro ⟨x, hx, hi⟩
    obtain ⟨a, b, c⟩ := h x hx
    rw [inSpan_iff, meantI, meantI, if_neg (by omega), if_neg (by omega)] at hi
    exact ⟨x, hx, by omega⟩
  · rintro ⟨x, hx, hi⟩
    obtain ⟨a, b, c⟩ := h x hx
    refine ⟨x, hx, ?_⟩
    rw [inSpan_iff, meantI, meantI, if_neg (by omega), if_neg (by omega)]
    exact .inl hi
theorem good_of {O : List S38} (hO : O.length ≤ 60) (h : ∀ x ∈ O, okS x) (hne : O ≠ []) : goodS O = true := by
  unfold goodS
  have h1 : 1 ≤ O.length := by cases O with
    | nil => exact absurd rfl hne
    | cons a b => simp
  have h2 : O.any seq_good.bad = false := by
    rw [List.any_eq_false]
    intro x hx
    obtain ⟨a, b, c⟩ := h x hx
    unfold seq_good.bad seq_good.may
    simp
    omega
  rw [decide_eq_true h1, decide_eq_true (by omega), h2]
  rfl
theorem has_of (l : List Int) (hl : l.length ≤ 60) (n : Int) (h1 : 1 ≤ n) (h2 : n ≤ 4294967295) : Ev (fun k => seq_Has.f k (ofL l) n n) (l.any fun x => x == n) := by
  obtain ⟨hc, hlen, hm⟩ := of_facts l
  have hg : Gap (ofL l) := chain_gap _ hc
  have hok : ∀ x ∈ ofL l, okS x := fun x hx => by
    obtain ⟨p, q, e⟩ := List.append_of_mem hx
    exact (hg p x q e).1
  refine Ev.eq (Has_ev n n (ofL l) (by omega)) ?_
  rw [decide_eq_true h1, Bool.true_and]
  have hiff : (l.any fun x => x == n) = true ↔ n ∈ l := by simp
  have hh := any_has hok n
  rw [hm n ⟨h1, h2⟩] at hh
  cases ha : ((ofL l).any fun x => inSpan x n n) with
  | true =>
    have hne : ofL l ≠ [] := by
      intro e
      rw [e] at ha
      cases ha
    rw [good_of (by omega) hok hne, Bool.true_and]
    exact (hiff.2 (hh.1 ha)).symm
  | false =>
    rw [Bool.and_false]
    symm
    rw [← Bool.not_eq_true]
    intro hb
    rw [hh.2 (hiff.1 hb)] at ha
    cases ha
theorem j1_ev (l : List Int) (hl : l.length ≤ 60) (n : Int) : Ev (fun k => frankinglaw9_SeqBack.j1 k l n) true := by
  obtain ⟨hc, hlen, _⟩ := of_facts l
  refine Ev.step (fun k => by rw [frankinglaw9_SeqBack.j1]; rfl) (in_loop n l hl (Ev.bind (Of_ev l hl) ?_) l [] rfl)
  refine chk_loop (ofL l) (by omega) n _ (chain_gap _ hc) ?_ (ofL l) [] rfl
  by_cases h1 : n < 1
  · exact Ev.pure fun k => by rw [if_pos h1]
  by_cases h2 : n > 4294967295
  · exact Ev.pure fun k => by rw [if_neg h1, if_pos h2]
  exact Ev.congr (fun k => by rw [if_neg h1, if_neg h2]) (Ev.bind (has_of l hl n (by omega) (by omega)) (Ev.pure fun k => by rw [beq_self_eq_true]))
theorem textL_ne {L : List S38} (hg : goodS L = true) : textL L ≠ [] := by
  obtain ⟨hne, _, hM⟩ := goodS_may hg
  cases L with
  | nil => exact absurd rfl hne
  | cons x r =>
    have := (partL_len (hM x (by simp)).1 (hM x (by simp)).2).1
    intro e
    have e2 := congrArg List.length e
    simp [textL] at e2
    rw [e2.1] at this
    simp at this
theorem SeqBack : frankinglaw9_SeqBack.Pure := by
  intro L l n _ _ _
  refine Ev.rounds (g := fun k => frankinglaw9_SeqBack.f k L l n) ?_
  refine Ev.congr (fun k => by unfold frankinglaw9_SeqBack.f; rfl) (Ev.bind awake_ev ?_)
  by_cases h : (L.length : Int) > 110
  · exact Ev.congr (fun k => by rw [if_pos rfl, if_pos h]) (Ev.after fun k => by rw [frankinglaw9_SeqBack.j0, if_pos rfl])
  by_cases h2 : (l.length : Int) > 60
  · exact Ev.congr (fun k => by rw [if_pos rfl, if_neg h, decide_eq_true h2]) (Ev.after fun k => by rw [frankinglaw9_SeqBack.j0, if_pos rfl])
  have hl : l.length ≤ 60 := by omega
  have hL : L.length ≤ 110 := by omega
  refine Ev.congr (fun k => by rw [if_pos rfl, if_neg h, decide_eq_false h2]) (Ev.step (fun k => by rw [frankinglaw9_SeqBack.j0, if_neg (by decide)]) (Ev.bind (Show_ev L) ?_))
  by_cases hg : goodS L = true
  · rw [if_pos hg]
    have hne : ¬ (⟨(textL L).toArray⟩ : ByteArray).toList = ([] : List UInt8) := by
      rw [toList_nil, bytesOf_lit, List.map_eq_nil_iff]
      exact textL_ne hg
    refine Ev.congr (fun k => by rw [if_neg hne]) (Ev.bind (Parse_ev hg) ?_)
    refine Ev.congr (fun k => by rw [if_pos rfl]) (Ev.bind (own_ev L hL) (Ev.bind (sets_ev L hL) ?_))
    exact Ev.congr (fun k => by rw [if_pos rfl]) (j1_ev l hl n)
  · rw [if_neg hg]
    have he : (⟨#[]⟩ : ByteArray).toList = ([] : List UInt8) := (toList_nil _).2 bytesOf_nil
    exact Ev.congr (fun k => by rw [if_pos he]) (j1_ev l hl n)
end Go.Proofs.YtdmpnjebomdllaaDoor.Pure
