/- HeadBuilt, as a plain law: fields that are written are found, in their order, with their values. -/
import Derived.Test.YtonlncajnniebaaDoorPHeadMore
import Derived.Test.YtonlncajnniebaaDoorPAwake11
import Derived.Test.YtonlncajnniebaaDoorX9
namespace Go.Proofs.YtonlncajnniebaaDoor.Pure
open Go.RowKit Go.Proofs.YtonlncajnniebaaDoorW.PrintWords Go.Proofs.YtonlncajnniebaaDoorW.PrintLast Go.Proofs.YtonlncajnniebaaDoor.X Go.Proofs.Mine
set_option linter.unusedSimpArgs false
set_option linter.unusedVariables false

abbrev Pr := List UInt8 × List UInt8
def lineP (p : Pr) : List UInt8 := p.1 ++ 58 :: (32 :: (p.2 ++ [13, 10]))
def txt : List Pr → List UInt8
  | [] => []
  | p :: l => lineP p ++ txt l
theorem txt_app (a b : List Pr) : txt (a ++ b) = txt a ++ txt b := by
  induction a with
  | nil => rfl
  | cons p a ih => simp [txt, ih]
theorem txt_snoc (a : List Pr) (p : Pr) : txt (a ++ [p]) = txt a ++ lineP p := by rw [txt_app]; simp [txt]
theorem lineP_len (p : Pr) : (lineP p).length = p.1.length + p.2.length + 4 := by simp [lineP]; omega
def OkP (p : Pr) : Prop := plainB p.1 true = true ∧ plainB p.2 false = true
theorem ok_len {p : Pr} (h : OkP p) : p.1.length < 100 ∧ p.2.length < 100 := ⟨(plain_name h.1).2, (plain_text h.2).2⟩
theorem txt_len : ∀ l : List Pr, (∀ p ∈ l, OkP p) → (txt l).length ≤ 204 * l.length
  | [], _ => by simp [txt]
  | p :: l, h => by
    have h1 := ok_len (h p (by simp))
    have h2 := txt_len l (fun q hq => h q (by simp [hq]))
    have h3 := lineP_len p
    rw [txt, List.length_append, List.length_cons]
    omega
theorem noP {p : Pr} (h : OkP p) : ∀ b ∈ p.1 ++ 58 :: (32 :: p.2), b ≠ 13 := by
  intro b hb
  rcases List.mem_append.1 hb with hb | hb
  · exact name_no (plain_name h.1).1 b hb
  rcases List.mem_cons.1 hb with rfl | hb
  · decide
  rcases List.mem_cons.1 hb with rfl | hb
  · decide
  · exact (plain_text h.2).1 b hb
theorem lines_txt : ∀ (l : List Pr) (rest : List UInt8), (∀ p ∈ l, OkP p) → linesL (Nm (txt l ++ 13 :: 10 :: rest)) = l.map (fun p => Nm (lineP p)) ++ Nm [13, 10] :: linesL (Nm rest)
  | [], rest, _ => lines_plain [] rest (by simp)
  | p :: l, rest, h => by
    have e : txt (p :: l) ++ 13 :: 10 :: rest = (p.1 ++ 58 :: (32 :: p.2)) ++ 13 :: 10 :: (txt l ++ 13 :: 10 :: rest) := by simp [txt, lineP]
    have e2 : (p.1 ++ 58 :: (32 :: p.2)) ++ [13, 10] = lineP p := by simp [lineP]
    rw [e, lines_plain _ _ (noP (h p (by simp))), lines_txt l rest (fun q hq => h q (by simp [hq])), e2]
    rfl
theorem lineP_ne (p : Pr) : lineP p ≠ [13, 10] := by
  intro e
  have h58 : (58 : UInt8) ∈ ([13, 10] : List UInt8) := by rw [← e]; simp [lineP]
  revert h58
  decide
theorem rdL_mid (pre : List (List Int)) (a : List Int) (l : List (List Int)) : rd_L1 (pre ++ a :: l) (pre.length : Int) = a := by simp [rd_L1, List.getD_eq_getElem?_getD]
theorem split_txt (ps : List Pr) (L post : List (List Int)) (hok : ∀ p ∈ ps, OkP p) (hn : ps.length ≤ 20) (hL : L = ps.map (fun p => Nm (lineP p)) ++ Nm [13, 10] :: post) (hll : L.length ≤ 1000000) : ∀ (l pre : List Pr), ps = pre ++ l →
    Ev (fun k => head_Split.l0 k ((txt pre).length : Int) L (L.length : Int) (pre.length : Int)) ((((txt ps).length + 2 : Nat) : Int), (((txt ps).length + 2 : Nat) : Int)) := by
  have htl := txt_len ps hok
  intro l
  induction l with
  | nil =>
    intro pre h
    have hp : pre = ps := by rw [h, List.append_nil]
    subst hp
    have hr := rdL_mid (pre.map (fun p => Nm (lineP p))) (Nm [13, 10]) post
    rw [← hL, List.length_map] at hr
    exact split_end (by rw [hL]; simp) hll hr (by omega)
  | cons p l ih =>
    intro pre h
    have hr := rdL_mid (pre.map (fun p => Nm (lineP p))) (Nm (lineP p)) (l.map (fun p => Nm (lineP p)) ++ Nm [13, 10] :: post)
    have hL2 : L = pre.map (fun p => Nm (lineP p)) ++ Nm (lineP p) :: (l.map (fun p => Nm (lineP p)) ++ Nm [13, 10] :: post) := by rw [hL, h]; simp
    rw [← hL2, List.length_map] at hr
    have ih' := ih (pre ++ [p]) (by rw [h]; simp)
    rw [txt_snoc, List.length_append, List.length_append, List.length_singleton] at ih'
    have hle : (txt pre).length + (lineP p).length ≤ (txt ps).length := by rw [h, txt_app, txt]; simp
    exact split_go (by rw [hL2]; simp) hll hr (lineP_ne p) (by omega) ih'
/-- The fields as they are found first, with no values; and with their values. -/
def raw : List Pr → Nat → List S29
  | [], _ => []
  | p :: l, n => ⟨⟨p.1.toArray⟩, ⟨#[]⟩, (n : Int), ((n + (lineP p).length : Nat) : Int)⟩ :: raw l (n + (lineP p).length)
def fin : List Pr → Nat → List S29
  | [], _ => []
  | p :: l, n => ⟨⟨p.1.toArray⟩, ⟨(valL (32 :: (p.2 ++ [13, 10]))).toArray⟩, (n : Int), ((n + (lineP p).length : Nat) : Int)⟩ :: fin l (n + (lineP p).length)
theorem raw_len : ∀ (l : List Pr) (n : Nat), (raw l n).length = l.length
  | [], _ => rfl
  | p :: l, n => by rw [raw, List.length_cons, List.length_cons, raw_len l]
theorem fin_len : ∀ (l : List Pr) (n : Nat), (fin l n).length = l.length
  | [], _ => rfl
  | p :: l, n => by rw [fin, List.length_cons, List.length_cons, fin_len l]
theorem raw_snoc : ∀ (l : List Pr) (p : Pr) (n : Nat), raw (l ++ [p]) n = raw l n ++ [⟨⟨p.1.toArray⟩, ⟨#[]⟩, ((n + (txt l).length : Nat) : Int), ((n + (txt l).length + (lineP p).length : Nat) : Int)⟩]
  | [], p, n => by simp [raw, txt]
  | q :: l, p, n => by
    rw [List.cons_append, raw, raw_snoc l p (n + (lineP q).length), raw, List.cons_append, txt, List.length_append, Nat.add_assoc n]
theorem fin_snoc : ∀ (l : List Pr) (p : Pr) (n : Nat), fin (l ++ [p]) n = fin l n ++ [⟨⟨p.1.toArray⟩, ⟨(valL (32 :: (p.2 ++ [13, 10]))).toArray⟩, ((n + (txt l).length : Nat) : Int), ((n + (txt l).length + (lineP p).length : Nat) : Int)⟩]
  | [], p, n => by simp [fin, txt]
  | q :: l, p, n => by
    rw [List.cons_append, fin, fin_snoc l p (n + (lineP q).length), fin, List.cons_append, txt, List.length_append, Nat.add_assoc n]
theorem fields_txt {b : List Int} (ps : List Pr) (L : List (List Int)) (hok : ∀ p ∈ ps, OkP p) (hn : ps.length ≤ 20) (hL : L = ps.map (fun p => Nm (lineP p)) ++ [Nm [13, 10]]) {r : List S29}
    (hend : Ev (fun k => head_Fields.l1 k b (raw ps 0) ((raw ps 0).length : Int) 0) r) : ∀ (l pre : List Pr) (x6 : Bool), ps = pre ++ l →
    Ev (fun k => head_Fields.l0 k b (raw pre 0) x6 ((txt pre).length : Int) L (L.length : Int) (pre.length : Int)) r := by
  have htl := txt_len ps hok
  have hll : L.length = ps.length + 1 := by rw [hL]; simp
  intro l
  induction l with
  | nil =>
    intro pre x6 h
    have hp : pre = ps := by rw [h, List.append_nil]
    subst hp
    have hr := rdL_mid (pre.map (fun p => Nm (lineP p))) (Nm [13, 10]) []
    rw [← hL, List.length_map] at hr
    exact crlf_go (by omega) (by omega) hr (by omega) (fields_end (by omega) hend)
  | cons p l ih =>
    intro pre x6 h
    have hpl : ps.length = pre.length + (l.length + 1) := by rw [h]; simp
    have hr := rdL_mid (pre.map (fun p => Nm (lineP p))) (Nm (lineP p)) (l.map (fun p => Nm (lineP p)) ++ [Nm [13, 10]])
    have hL2 : L = pre.map (fun p => Nm (lineP p)) ++ Nm (lineP p) :: (l.map (fun p => Nm (lineP p)) ++ [Nm [13, 10]]) := by rw [hL, h]; simp
    rw [← hL2, List.length_map] at hr
    have ih' := ih (pre ++ [p]) true (by rw [h]; simp)
    rw [raw_snoc, txt_snoc, List.length_append, List.length_append, List.length_singleton, Nat.zero_add] at ih'
    have hle : (txt pre).length + (lineP p).length ≤ (txt ps).length := by rw [h, txt_app, txt]; simp
    exact field_go (by omega) (by omega) hr (plain_name (hok p (by rw [h]; simp)).1).1 (by rw [raw_len]; omega) (by exact Nat.le_trans hle (by omega)) ih'
theorem vals_txt (ps : List Pr) (m rest : List UInt8) (hok : ∀ p ∈ ps, OkP p) (hn : ps.length ≤ 20) (hm : m = txt ps ++ rest) (hml : m.length ≤ 1000000) : ∀ (l pre : List Pr), ps = pre ++ l →
    Ev (fun k => head_Fields.l1 k (Nm m) (fin pre 0 ++ raw l (txt pre).length) ((fin pre 0 ++ raw l (txt pre).length).length : Int) (pre.length : Int)) (fin ps 0) := by
  intro l
  induction l with
  | nil =>
    intro pre h
    have hp : pre = ps := by rw [h, List.append_nil]
    subst hp
    rw [raw, List.append_nil]
    exact vals_end (fin_len pre 0).symm
  | cons p l ih =>
    intro pre h
    have hpl : ps.length = pre.length + (l.length + 1) := by rw [h]; simp
    have hlp := lineP_len p
    have ih' := ih (pre ++ [p]) (by rw [h]; simp)
    have l1 : (txt pre ++ lineP p).length = (txt pre).length + (lineP p).length := List.length_append
    have l2 : (pre ++ [p]).length = pre.length + 1 := by simp
    rw [fin_snoc, txt_snoc, l1, l2, Nat.zero_add] at ih'
    have hmm : m = txt pre ++ (lineP p ++ (txt l ++ rest)) := by rw [hm, h, txt_app, txt]; simp
    have hq : (txt pre).length + (lineP p).length ≤ m.length := by rw [hmm]; simp
    have hd : (m.take ((txt pre).length + (lineP p).length)).drop ((txt pre).length + p.1.length + 1) = 32 :: (p.2 ++ [13, 10]) := by
      have e1 : m = (txt pre ++ lineP p) ++ (txt l ++ rest) := by rw [hmm]; simp
      have e2 : (txt pre).length + (lineP p).length = (txt pre ++ lineP p).length := by simp
      rw [e2, e1, List.take_left]
      have e3 : txt pre ++ lineP p = (txt pre ++ (p.1 ++ [58])) ++ (32 :: (p.2 ++ [13, 10])) := by simp [lineP]
      have e4 : (txt pre).length + p.1.length + 1 = (txt pre ++ (p.1 ++ [58])).length := by simp; omega
      rw [e3, e4, List.drop_left]
    have hg := vals_go (m := m) (ys := fin pre 0) (zs := raw l ((txt pre).length + (lineP p).length)) (nm := p.1) (v := ⟨#[]⟩) (p := (txt pre).length) (q := (txt pre).length + (lineP p).length) (r := fin ps 0) hml (by omega) hq (by rw [List.length_append, List.length_cons, fin_len, raw_len]; omega)
    rw [hd, fin_len] at hg
    exact hg ih'
theorem fields_built (ps : List Pr) (body : List UInt8) (hok : ∀ p ∈ ps, OkP p) (hn : ps.length ≤ 20) (hb : body.length ≤ 200) : Ev (fun k => head_Fields.f k (Nm (txt ps ++ 13 :: 10 :: body))) (fin ps 0) := by
  have htl := txt_len ps hok
  have hlen : (txt ps ++ 13 :: 10 :: body).length = (txt ps).length + (body.length + 2) := by simp
  have hL := lines_txt ps body hok
  have hL' := lines_txt ps [] hok
  rw [lines_nil] at hL'
  have ht : (txt ps ++ 13 :: 10 :: body).take ((txt ps).length + 2) = txt ps ++ 13 :: 10 :: [] := by
    have e : txt ps ++ 13 :: 10 :: body = (txt ps ++ [13, 10]) ++ body := by simp
    have e2 : (txt ps).length + 2 = (txt ps ++ [13, 10]).length := by simp
    rw [e, e2, List.take_left]
  have hbl := linesL_length (Nm body)
  rw [Nm_len] at hbl
  refine fields_start (by omega) (by omega) hL (split_txt ps _ _ hok hn rfl (by simp; omega) ps [] rfl) (L' := ps.map (fun p => Nm (lineP p)) ++ [Nm [13, 10]]) (by rw [ht]; exact hL') ?_
  refine fields_txt ps _ hok hn rfl ?_ ps [] false rfl
  exact vals_txt ps (txt ps ++ 13 :: 10 :: body) (13 :: 10 :: body) hok hn rfl (by omega) ps [] rfl
/-! ### a value behind its blank -/
theorem trim_blank (v cs : List UInt8) (c : UInt8) (hc : cs.contains c = true) : Lib.trimS (c :: v) cs = Lib.trimS v cs := by
  unfold Lib.trimS Lib.trimLeftS Lib.trimRightS
  rw [List.reverse_cons, List.dropWhile_append]
  have h1 : ([c] : List UInt8).dropWhile (fun x => cs.contains x) = [] := by simp only [List.dropWhile_cons, hc, if_true, List.dropWhile_nil]
  cases hd : v.reverse.dropWhile (fun x => cs.contains x) with
  | nil => rw [h1]; simp
  | cons a l =>
    simp only [List.isEmpty_cons, Bool.false_eq_true, if_false, List.reverse_append, List.reverse_singleton, List.singleton_append]
    simp only [List.dropWhile_cons, hc, if_true]
theorem val_built (v : List UInt8) (h : ∀ b ∈ v, b ≠ 13) : valL (32 :: (v ++ [13, 10])) = valL v := by
  have e : noCR (32 :: (v ++ [13, 10])) = 32 :: v := by
    have := noCR_hit (32 :: v) [] (by
      intro b hb
      rcases List.mem_cons.1 hb with rfl | hb
      · decide
      · exact h b hb)
    rw [noCR_none [] (by simp), List.append_nil] at this
    exact this
  unfold valL
  rw [e, noCR_none v h]
  exact trim_blank v _ 32 (by decide)
/-! ### the law -/
theorem pairs : ∀ (x0 x1 : List ByteArray), x0.length ≤ x1.length → ∃ (ps : List Pr) (more : List ByteArray), x0 = ps.map (fun p => (⟨p.1.toArray⟩ : ByteArray)) ∧ x1 = ps.map (fun p => (⟨p.2.toArray⟩ : ByteArray)) ++ more
  | [], x1, _ => ⟨[], x1, rfl, rfl⟩
  | a :: x0, [], h => by simp at h
  | a :: x0, b :: x1, h => by
    obtain ⟨ps, more, e1, e2⟩ := pairs x0 x1 (by simpa using h)
    exact ⟨(a.data.toList, b.data.toList) :: ps, more, by rw [List.map_cons, ← e1], by rw [List.map_cons, List.cons_append, ← e2]⟩
theorem rdB_mid (pre : List ByteArray) (a : ByteArray) (l : List ByteArray) : rdOf ByteArray.empty (pre ++ a :: l) (pre.length : Int) = a := by simp [rdOf, List.getD_eq_getElem?_getD]
theorem rdF_mid (pre : List S29) (a : S29) (l : List S29) : rd_T29 (pre ++ a :: l) (pre.length : Int) = a := by simp [rd_T29, List.getD_eq_getElem?_getD]
theorem fin_mid (pre : List Pr) (p : Pr) (l : List Pr) : ∃ z, fin (pre ++ p :: l) 0 = fin pre 0 ++ (⟨⟨p.1.toArray⟩, ⟨(valL (32 :: (p.2 ++ [13, 10]))).toArray⟩, ((txt pre).length : Int), (((txt pre).length + (lineP p).length : Nat) : Int)⟩ :: z) := by
  suffices h : ∀ (pre : List Pr) (n : Nat), ∃ z, fin (pre ++ p :: l) n = fin pre n ++ (⟨⟨p.1.toArray⟩, ⟨(valL (32 :: (p.2 ++ [13, 10]))).toArray⟩, ((n + (txt pre).length : Nat) : Int), ((n + (txt pre).length + (lineP p).length : Nat) : Int)⟩ :: z) by
    obtain ⟨z, hz⟩ := h pre 0
    rw [Nat.zero_add] at hz
    exact ⟨z, hz⟩
  intro pre
  induction pre with
  | nil => intro n; exact ⟨fin l (n + (lineP p).length), by simp [fin, txt]⟩
  | cons q pre ih =>
    intro n
    obtain ⟨z, hz⟩ := ih (n + (lineP q).length)
    exact ⟨z, by rw [List.cons_append, fin, hz, fin, List.cons_append, txt, List.length_append, Nat.add_assoc n]⟩
theorem check_loop (ps : List Pr) (more : List ByteArray) (hok : ∀ p ∈ ps, OkP p) (hn : ps.length ≤ 20) : ∀ (l pre : List Pr), ps = pre ++ l →
    Ev (fun k => frankinglaw11_HeadBuilt.l1 k (ps.map (fun p => (⟨p.1.toArray⟩ : ByteArray))) (ps.map (fun p => (⟨p.2.toArray⟩ : ByteArray)) ++ more) (fin ps 0) (pre.length : Int)) true := by
  have hfl := fin_len ps 0
  intro l
  induction l with
  | nil =>
    intro pre h
    have hp : pre = ps := by rw [h, List.append_nil]
    exact Ev.after fun k => by rw [frankinglaw11_HeadBuilt.l1, if_neg (by rw [hfl, hp]; omega)]
  | cons p l ih =>
    intro pre h
    have hpl : ps.length = pre.length + (l.length + 1) := by rw [h]; simp
    have ih' := ih (pre ++ [p]) (by rw [h]; simp)
    rw [List.length_append, List.length_singleton] at ih'
    obtain ⟨z, hz⟩ := fin_mid pre p l
    rw [← h] at hz
    have h0 := rdF_mid (fin pre 0) ⟨⟨p.1.toArray⟩, ⟨(valL (32 :: (p.2 ++ [13, 10]))).toArray⟩, ((txt pre).length : Int), (((txt pre).length + (lineP p).length : Nat) : Int)⟩ z
    rw [← hz, fin_len] at h0
    have e1 : ps.map (fun p => (⟨p.1.toArray⟩ : ByteArray)) = pre.map (fun p => (⟨p.1.toArray⟩ : ByteArray)) ++ ⟨p.1.toArray⟩ :: l.map (fun p => (⟨p.1.toArray⟩ : ByteArray)) := by rw [h]; simp
    have e2 : ps.map (fun p => (⟨p.2.toArray⟩ : ByteArray)) ++ more = pre.map (fun p => (⟨p.2.toArray⟩ : ByteArray)) ++ ⟨p.2.toArray⟩ :: (l.map (fun p => (⟨p.2.toArray⟩ : ByteArray)) ++ more) := by rw [h]; simp
    have h1 := rdB_mid (pre.map (fun p => (⟨p.1.toArray⟩ : ByteArray))) ⟨p.1.toArray⟩ (l.map (fun p => (⟨p.1.toArray⟩ : ByteArray)))
    have h2 := rdB_mid (pre.map (fun p => (⟨p.2.toArray⟩ : ByteArray))) ⟨p.2.toArray⟩ (l.map (fun p => (⟨p.2.toArray⟩ : ByteArray)) ++ more)
    rw [← e1, List.length_map] at h1
    rw [← e2, List.length_map] at h2
    have hop := hok p (by rw [h]; simp)
    have hv := value_eq p.2 (by have := ok_len hop; omega)
    have hvv := val_built p.2 (plain_text hop.2).1
    refine Ev.step (fun k => ?_) ih'
    rw [frankinglaw11_HeadBuilt.l1, if_pos (by rw [hfl]; omega), if_pos (by omega), if_pos (by rw [List.length_map]; omega), h0, h1]
    dsimp only
    rw [if_pos rfl, if_pos (by rw [List.length_append, List.length_map]; omega), h2, hv, Option.bind_some, hvv, if_pos rfl, wrap_nat (by omega)]
theorem built_loop (ps : List Pr) (more : List ByteArray) (body : List UInt8) (hn : ps.length ≤ 20) (hb : body.length ≤ 200) (hs : ∀ p ∈ ps, p.1.length ≤ 9223372036854775807 ∧ p.2.length ≤ 9223372036854775807) : ∀ (l pre : List Pr), ps = pre ++ l → (∀ p ∈ pre, OkP p) →
    Ev (fun k => frankinglaw11_HeadBuilt.l0 k (ps.map (fun p => (⟨p.1.toArray⟩ : ByteArray))) (ps.map (fun p => (⟨p.2.toArray⟩ : ByteArray)) ++ more) ⟨body.toArray⟩ ⟨(txt pre).toArray⟩ (pre.length : Int)) true := by
  intro l
  induction l with
  | nil =>
    intro pre h hok
    have hp : pre = ps := by rw [h, List.append_nil]
    subst hp
    have htl := txt_len pre hok
    have e : bytesOf ((⟨(txt pre).toArray⟩ ++ (⟨#[13, 10]⟩ : ByteArray)) ++ ⟨body.toArray⟩) = Nm (txt pre ++ 13 :: 10 :: body) := by
      simp only [bytesOf_append, bytesOf_Nm]
      simp [Nm]
    refine Ev.step (fun k => by rw [frankinglaw11_HeadBuilt.l0, if_neg (by rw [List.length_map]; omega), sizeN, sizeN, if_pos (by omega), if_pos (by omega), e]) (Ev.bind (fields_built pre body hok hn hb) ?_)
    exact Ev.congr (fun k => by rw [fin_len, List.length_map, if_pos rfl]; rfl) (check_loop pre more hok hn pre [] rfl)
  | cons p l ih =>
    intro pre h hok
    have hpl : ps.length = pre.length + (l.length + 1) := by rw [h]; simp
    have hsz := hs p (by rw [h]; simp)
    have htl := txt_len pre hok
    have e1 : ps.map (fun p => (⟨p.1.toArray⟩ : ByteArray)) = pre.map (fun p => (⟨p.1.toArray⟩ : ByteArray)) ++ ⟨p.1.toArray⟩ :: l.map (fun p => (⟨p.1.toArray⟩ : ByteArray)) := by rw [h]; simp
    have e2 : ps.map (fun p => (⟨p.2.toArray⟩ : ByteArray)) ++ more = pre.map (fun p => (⟨p.2.toArray⟩ : ByteArray)) ++ ⟨p.2.toArray⟩ :: (l.map (fun p => (⟨p.2.toArray⟩ : ByteArray)) ++ more) := by rw [h]; simp
    have h1 := rdB_mid (pre.map (fun p => (⟨p.1.toArray⟩ : ByteArray))) ⟨p.1.toArray⟩ (l.map (fun p => (⟨p.1.toArray⟩ : ByteArray)))
    have h2 := rdB_mid (pre.map (fun p => (⟨p.2.toArray⟩ : ByteArray))) ⟨p.2.toArray⟩ (l.map (fun p => (⟨p.2.toArray⟩ : ByteArray)) ++ more)
    rw [← e1, List.length_map] at h1
    rw [← e2, List.length_map] at h2
    refine Ev.step (fun k => by rw [frankinglaw11_HeadBuilt.l0, if_pos (by rw [List.length_map]; omega), if_pos (by omega), h1, h2]) (Ev.bind (plain_ev p.1 true hsz.1) ?_)
    cases hp1 : plainB p.1 true with
    | false => exact Ev.pure fun k => by rw [if_neg (by decide)]
    | true =>
      refine Ev.congr (fun k => by rw [if_pos rfl, if_pos (by rw [List.length_append, List.length_map]; omega)]) (Ev.bind (plain_ev p.2 false hsz.2) ?_)
      cases hp2 : plainB p.2 false with
      | false => exact Ev.pure fun k => by rw [if_neg (by decide)]
      | true =>
        have hop : OkP p := ⟨hp1, hp2⟩
        have hlen := ok_len hop
        have ih' := ih (pre ++ [p]) (by rw [h]; simp) (fun q hq => by
          rcases List.mem_append.1 hq with hq | hq
          · exact hok q hq
          · rw [List.mem_singleton.1 hq]; exact hop)
        have et : ((((⟨(txt pre).toArray⟩ ++ ⟨p.1.toArray⟩) ++ (⟨#[58, 32]⟩ : ByteArray)) ++ ⟨p.2.toArray⟩) ++ (⟨#[13, 10]⟩ : ByteArray)) = (⟨(txt (pre ++ [p])).toArray⟩ : ByteArray) := bytesOf_inj (by
          rw [txt_snoc, bytesOf_Nm]
          simp only [bytesOf_append, bytesOf_Nm]
          simp [Nm, lineP])
        rw [List.length_append, List.length_singleton] at ih'
        refine Ev.congr (fun k => ?_) ih'
        rw [if_pos rfl, sizeN, sizeN, sizeN, if_pos (by omega), if_pos (by omega), if_pos (by omega), if_pos (by omega), et, wrap_nat (by omega)]
theorem early (x0 x1 : List ByteArray) (x2 : ByteArray) : Ev (fun k => frankinglaw11_HeadBuilt.j0 k x0 x1 x2 true) true := Ev.after fun k => by rw [frankinglaw11_HeadBuilt.j0, if_pos rfl]
theorem HeadBuilt : frankinglaw11_HeadBuilt.Pure := by
  intro x0 x1 x2 h0 h1 h2
  refine Ev.rounds (g := fun k => frankinglaw11_HeadBuilt.f k x0 x1 x2) ?_
  refine Ev.congr (fun k => by unfold frankinglaw11_HeadBuilt.f; rfl) (Ev.bind awake_ev ?_)
  by_cases c0 : (x0.length : Int) > 20
  · exact Ev.congr (fun k => by rw [if_pos rfl, if_pos c0]) (early _ _ _)
  by_cases c1 : (x1.length : Int) < (x0.length : Int)
  · exact Ev.congr (fun k => by rw [if_pos rfl, if_neg c0, if_pos c1]) (early _ _ _)
  by_cases c2 : (x2.size : Int) > 200
  · exact Ev.congr (fun k => by rw [if_pos rfl, if_neg c0, if_neg c1, decide_eq_true c2]) (early _ _ _)
  refine Ev.congr (fun k => by rw [if_pos rfl, if_neg c0, if_neg c1, decide_eq_false c2]) (Ev.step (fun k => by rw [frankinglaw11_HeadBuilt.j0, if_neg (by decide)]) ?_)
  obtain ⟨ps, more, rfl, rfl⟩ := pairs x0 x1 (by omega)
  obtain ⟨body, rfl⟩ : ∃ s : List UInt8, x2 = ⟨s.toArray⟩ := ⟨x2.data.toList, by cases x2; simp⟩
  rw [sizeN] at c2
  rw [List.length_map] at c0
  have hmax : maxLen ≤ 9223372036854775807 := by decide
  refine built_loop ps more body (by omega) (by omega) (fun p hp => ?_) ps [] rfl (fun p hp => by cases hp)
  have a := h0.2 ⟨p.1.toArray⟩ (List.mem_map.2 ⟨p, hp, rfl⟩)
  have b := h1.2 ⟨p.2.toArray⟩ (List.mem_append.2 (.inl (List.mem_map.2 ⟨p, hp, rfl⟩)))
  rw [sizeN] at a b
  omega
end Go.Proofs.YtonlncajnniebaaDoor.Pure
