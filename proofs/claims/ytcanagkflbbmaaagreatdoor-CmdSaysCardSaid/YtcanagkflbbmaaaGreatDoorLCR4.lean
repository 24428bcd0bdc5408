/- Commands: the reference's reader: literals. -/
import Derived.Test.YtcanagkflbbmaaaGreatDoorLCR3
import Derived.Test.YtcanagkflbbmaaaGreatDoorLCmdP
set_option linter.unusedVariables false
set_option linter.unusedSimpArgs false
set_option maxRecDepth 100000
set_option maxHeartbeats 8000000
namespace Go.Proofs.YtcanagkflbbmaaaGreatDoor.L
open Go Go.Proofs Go.Dev Go.RowKit
def digR (b : Txt) (from_ : Nat) : Nat → RS → Bool × RS
  | 0, s => (true, s)
  | n + 1, s => match (peek b s).1 with
    | none => (false, (peek b s).2)
    | some c => if c.toNat < 48 then (true, s) else if 57 < c.toNat then (true, s) else if 10 ≤ (s.at_ : Int) - from_ then (true, s) else digR b from_ n (next s)
def lrU (b : Txt) (s : RS) : Bool × RS := digR b (want b s 123).at_ 11 (want b s 123)
def lrN (b : Txt) (s : RS) : Nat × Bool := num ((b.drop (want b s 123).at_).take ((lrU b s).2.at_ - (want b s 123).at_))
def lrZ (b : Txt) (n : Nat) (p : Bool) (v : RS) : Txt × RS :=
  if v.err ≠ 0 then ([], v) else if 65536 < n then ([], fail v 2 (v.at_ - 2)) else
  if (b.length : Int) - v.at_ < n then ([], fail { v with wants := decide (v.at_ = b.length) && !p } 8 v.at_)
  else ((b.drop v.at_).take n, { v with at_ := v.at_ + n, line := v.at_ + n, wants := decide (v.at_ = b.length) && !p })
def lrT (b : Txt) (m : Bool × RS) : RS := endL b (want b m.2 125)
def litR (b : Txt) (s : RS) : Txt × RS :=
  if (lrU b s).1 = false then ([], (lrU b s).2) else if (lrN b s).2 = false then ([], fail (lrU b s).2 3 (lrU b s).2.at_)
  else lrZ b (lrN b s).1 (may b (lrU b s).2 43).1 (lrT b (may b (lrU b s).2 43))
theorem all_dig {b : Txt} {f a : Nat} (hf : f ≤ a) (ha : a < b.length) (h : ((b.drop f).take (a - f)).all isDig = true) (hc : isDig b[a] = true) : ((b.drop f).take (a + 1 - f)).all isDig = true := by
  have e : a + 1 - f = (a - f) + 1 := by omega
  rw [e, List.take_succ_eq_append_getElem (by simp; omega), List.all_append, h]
  simp only [List.getElem_drop, List.all_cons, List.all_nil, Bool.and_true, Bool.true_and]
  have e2 : f + (a - f) = a := by omega
  simp only [e2]
  exact hc
/-- The one way round and the other. -/
theorem digR_eq {b : Txt} {f : Nat} : ∀ (n : Nat) (s : RS), WF b s → f ≤ s.at_ → s.at_ ≤ f + 10 → 11 ≤ n + (s.at_ - f) → ((b.drop f).take (s.at_ - f)).all isDig = true →
    ((digR b f n s).1 = true ∧ (digR b f n s).2 = digitsL b f n s ∧ (peek b (digitsL b f n s)).1.isSome = true) ∨ ((digR b f n s).1 = false ∧ ((digitsL b f n s = (digR b f n s).2 ∧ (digR b f n s).2.err ≠ 0) ∨ ((digitsL b f n s).at_ = f + 10 ∧ ((b.drop f).take 10).all isDig = true ∧ peek b (digitsL b f n s) = (none, (digR b f n s).2))))
  | 0, s, _, h1, h2, h3, _ => absurd h3 (by omega)
  | n + 1, s, hw, h1, h2, h3, hd => by
    cases hp : (peek b s).1 with
    | none =>
      have e1 : digR b f (n + 1) s = (false, (peek b s).2) := by rw [digR, hp]
      rw [e1]
      right
      refine ⟨rfl, ?_⟩
      by_cases h10 : (s.at_ : Int) - f < 10
      · left
        rw [digitsL, if_pos h10, hp]
        exact ⟨rfl, peek_none hp⟩
      · right
        rw [digitsL, if_neg h10]
        have : s.at_ - f = 10 := by omega
        rw [this] at hd
        exact ⟨by omega, hd, Prod.ext hp rfl⟩
    | some c =>
      obtain ⟨_, h0, hlt, hc⟩ := peek_some hp
      by_cases q1 : c.toNat < 48
      · left
        have e1 : digR b f (n + 1) s = (true, s) := by rw [digR, hp]; exact if_pos q1
        have e2 : digitsL b f (n + 1) s = s := by
          rw [digitsL, hp]
          split
          · exact if_pos q1
          · rfl
        rw [e1, e2, hp]
        exact ⟨rfl, rfl, rfl⟩
      · by_cases q2 : 57 < c.toNat
        · left
          have e1 : digR b f (n + 1) s = (true, s) := by rw [digR, hp]; simp only; rw [if_neg q1, if_pos q2]
          have e2 : digitsL b f (n + 1) s = s := by
            rw [digitsL, hp]
            split
            · simp only; rw [if_neg q1, if_pos q2]
            · rfl
          rw [e1, e2, hp]
          exact ⟨rfl, rfl, rfl⟩
        · by_cases h10 : (s.at_ : Int) - f < 10
          · have e1 : digR b f (n + 1) s = digR b f n (next s) := by rw [digR, hp]; simp only; rw [if_neg q1, if_neg q2, if_neg (by omega)]
            have e2 : digitsL b f (n + 1) s = digitsL b f n (next s) := by
              rw [digitsL, if_pos h10, hp]
              simp only
              rw [if_neg q1, if_neg q2]
            rw [e1, e2]
            exact digR_eq n (next s) (next_wf hw hlt) (by simp only [next]; omega) (by simp only [next]; omega) (by simp only [next]; omega) (all_dig h1 hlt hd (by rw [hc]; simp [isDig]; omega))
          · left
            have e1 : digR b f (n + 1) s = (true, s) := by rw [digR, hp]; simp only; rw [if_neg q1, if_neg q2, if_pos (by omega)]
            have e2 : digitsL b f (n + 1) s = s := by rw [digitsL, if_neg h10]
            rw [e1, e2, hp]
            exact ⟨rfl, rfl, rfl⟩
theorem endL_keep {b : Txt} {s : RS} (h : s.err ≠ 0) : endL b s = s := endL_ge.keep h
theorem literal_keep {b : Txt} {s : RS} (h : (lt4 b s).2.err ≠ 0) : literal b s = ([], (lt4 b s).2) := by
  have e5 : lt5 b s = (lt4 b s).2 := by
    unfold lt5
    rw [want_keep h, endL_keep h]
  have e6 : lt6 b s = (lt4 b s).2 := by
    unfold lt6
    rw [e5]
    split
    · exact fail_keep h
    · rfl
  unfold literal
  rw [e6, if_pos h]
theorem litR_eq {b : Txt} {s : RS} (hw : WF b s) : litR b s = literal b s := by
  have w1 := want_wf hw 123
  have q : _ := digR_eq (b := b) (f := (want b s 123).at_) 11 (want b s 123) w1 (Nat.le_refl _) (by omega) (by omega) (by simp)
  change ((lrU b s).1 = true ∧ (lrU b s).2 = lt2 b s ∧ (peek b (lt2 b s)).1.isSome = true) ∨ ((lrU b s).1 = false ∧ ((lt2 b s = (lrU b s).2 ∧ (lrU b s).2.err ≠ 0) ∨ ((lt2 b s).at_ = (want b s 123).at_ + 10 ∧ ((b.drop (want b s 123).at_).take 10).all isDig = true ∧ peek b (lt2 b s) = (none, (lrU b s).2)))) at q
  rcases q with ⟨q1, q2, q3⟩ | ⟨q1, ⟨q2, q3⟩ | ⟨q2, q3, q4⟩⟩
  · have hN : lrN b s = lnum b s := by unfold lrN lnum; rw [q2]
    obtain ⟨c, hc⟩ := Option.isSome_iff_exists.1 q3
    have h0 := (peek_some hc).2.1
    unfold litR
    rw [if_neg (by rw [q1]; decide), hN, q2]
    by_cases hn : (lnum b s).2 = true
    · rw [if_neg (by rw [hn]; decide)]
      have e4 : lt4 b s = may b (lt2 b s) 43 := by unfold lt4; rw [lt3_t hn]
      have e5 : lrT b (may b (lt2 b s) 43) = lt5 b s := by rw [← e4]; rfl
      rw [e5, ← e4]
      unfold lrZ literal
      by_cases h5 : (lt5 b s).err = 0
      · rw [if_neg (by simp [h5])]
        by_cases hb : 65536 < (lnum b s).1
        · rw [if_pos hb, lt6_f hb, if_pos (fail_err (by decide))]
        · rw [if_neg hb]
          unfold lt7
          rw [lt6_p hb]
          conv => rhs; rw [if_neg (by simp [h5])]
      · have e6 : lt6 b s = lt5 b s := by
          unfold lt6
          split
          · exact fail_keep h5
          · rfl
        rw [if_pos h5, e6, if_pos h5]
    · have hn' : (lnum b s).2 = false := by simpa using hn
      rw [if_pos hn']
      have e3 := lt3_f hn'
      have k : (lt3 b s).err ≠ 0 := by rw [e3]; exact fail_err (by decide)
      have e4 : (lt4 b s).2 = lt3 b s := by unfold lt4; rw [may_keep k]
      rw [literal_keep (by rw [e4]; exact k), e4, e3]
  · unfold litR
    rw [if_pos q1]
    have e3 : lt3 b s = lt2 b s := by
      unfold lt3
      split
      · rfl
      · exact fail_keep (by rw [q2]; exact q3)
    have e4 : (lt4 b s).2 = (lrU b s).2 := by
      unfold lt4
      rw [e3, may_keep (by rw [q2]; exact q3), q2]
    rw [literal_keep (by rw [e4]; exact q3), e4]
  · unfold litR
    rw [if_pos q1]
    have hl := (lt2_wf hw).1.at_
    have hn : (lnum b s).2 = true := by
      unfold lnum num
      rw [show (lt2 b s).at_ - (want b s 123).at_ = 10 from by omega, if_pos ⟨by simp; omega, by simp; omega, q3⟩]
    have e4 : (lt4 b s).2 = (lrU b s).2 := by
      unfold lt4 may isB
      rw [lt3_t hn, q4]
      simp
    have hp : (lrU b s).2.err ≠ 0 := by
      have := peek_none (b := b) (s := lt2 b s) (by rw [q4])
      rw [q4] at this
      exact this
    rw [literal_keep (by rw [e4]; exact hp), e4]
theorem digR_wf {b : Txt} {f : Nat} : ∀ (n : Nat) (s : RS), WF b s → WF b (digR b f n s).2 ∧ s.at_ ≤ (digR b f n s).2.at_
  | 0, s, h => ⟨h, Nat.le_refl _⟩
  | n + 1, s, h => by
    unfold digR
    cases hp : (peek b s).1 with
    | none => exact ⟨peek_wf h, by simp only; rw [peek_at]; exact Nat.le_refl _⟩
    | some c =>
      obtain ⟨_, _, hlt, _⟩ := peek_some hp
      simp only
      split
      · exact ⟨h, Nat.le_refl _⟩
      · split
        · exact ⟨h, Nat.le_refl _⟩
        · split
          · exact ⟨h, Nat.le_refl _⟩
          · obtain ⟨r1, r2⟩ := digR_wf (f := f) n _ (next_wf h hlt)
            exact ⟨r1, Nat.le_trans (Nat.le_succ _) r2⟩
def rdr28 (b : Txt) (a l w : Nat) (e bd : Int) (wa : Bool) : Row := ⟨[.agg [Byt b, .int .i64 a, .int .i64 l, .int .i64 w, .int .i64 e, .int .i64 bd, .bool wa, .bool false]], 8, 0, false, some 46⟩
theorem More28 (b : Txt) (a l w : Nat) (e0 bd : Int) (wa : Bool) : PrimM E 56 (rdr28 b a l w e0 bd wa) [rp2] (.tup []) (rdr2 b (fail ⟨a, l, w, e0, bd, wa⟩ 8 a)) := More2 b ⟨a, l, w, e0, bd, wa⟩
theorem may_y {b : Txt} {u : RS} (h1 : (peek b u).1.isSome = true) (h2 : (peek b u).1.getD 0 = 43) : (true, next (peek b u).2) = may b u 43 := by
  obtain ⟨c, hc⟩ := Option.isSome_iff_exists.1 h1
  rw [hc] at h2
  simp only [Option.getD_some] at h2
  subst h2
  unfold may isB
  rw [hc]
  simp
theorem may_n {b : Txt} {u : RS} (h1 : (peek b u).1.isSome = true) (h2 : ¬(peek b u).1.getD 0 = 43) : (false, (peek b u).2) = may b u 43 := by
  obtain ⟨c, hc⟩ := Option.isSome_iff_exists.1 h1
  rw [hc] at h2
  simp only [Option.getD_some] at h2
  unfold may isB
  rw [hc]
  simp [h2]
theorem may_z {b : Txt} {u : RS} (h1 : (peek b u).1.isSome = false) : (false, (peek b u).2) = may b u 43 := by
  have hc : (peek b u).1 = none := by simpa using h1
  unfold may isB
  rw [hc]
  simp
theorem d43 {c : UInt8} : decide ((c.toNat : Int) = 43) = decide (c = 43) := by
  congr 1
  exact propext ⟨fun h => UInt8.toNat_inj.1 (by show c.toNat = 43; omega), fun h => by rw [h]; rfl⟩
def is43 (o : Option UInt8) : Bool := decide (((o.getD 0).toNat : Int) = 43)
theorem may_y' {b : Txt} {u : RS} (h1 : (peek b u).1.isSome = true) (h2 : (peek b u).1.getD 0 = 43) : (decide ((((peek b u).1.getD 0).toNat : Int) = 43), next (peek b u).2) = may b u 43 := by
  rw [d43, decide_eq_true h2]; exact may_y h1 h2
theorem may_n' {b : Txt} {u : RS} (h1 : (peek b u).1.isSome = true) (h2 : ¬(peek b u).1.getD 0 = 43) : (decide ((((peek b u).1.getD 0).toNat : Int) = 43), (peek b u).2) = may b u 43 := by
  rw [d43, decide_eq_false h2]; exact may_n h1 h2
theorem may_of {b : Txt} {u t : RS} {p : Bool} (w : WF b u) (h : (p, t) = may b u 43) : WF b t := by
  have := may_wf w 43
  rw [← h] at this
  exact this
theorem litR_0 {b : Txt} {s u : RS} (h : (false, u) = lrU b s) : litR b s = ([], u) := by
  unfold litR
  rw [← h]
  exact if_pos rfl
theorem litR_1 {b : Txt} {s u : RS} (h : (true, u) = lrU b s) (hn : (num ((b.drop (want b s 123).at_).take (u.at_ - (want b s 123).at_))).2 = false) : litR b s = ([], fail u 3 u.at_) := by
  unfold litR lrN
  rw [← h]
  rw [if_neg (by simp), if_pos hn]
theorem litR_2 {b : Txt} {s u t : RS} {p : Bool} (h : (true, u) = lrU b s) (hn : (num ((b.drop (want b s 123).at_).take (u.at_ - (want b s 123).at_))).2 = true) (hm : (p, t) = may b u 43) : litR b s = lrZ b (num ((b.drop (want b s 123).at_).take (u.at_ - (want b s 123).at_))).1 p (endL b (want b t 125)) := by
  unfold litR lrN
  rw [← h]
  rw [if_neg (by simp), if_neg (by simp only; rw [hn]; decide), ← hm]
  rfl
theorem lrZ_1 {b : Txt} {n : Nat} {p : Bool} {v : RS} (h : ¬v.err = 0) : lrZ b n p v = ([], v) := if_pos h
theorem lrZ_2 {b : Txt} {n : Nat} {p : Bool} {v : RS} (h : v.err = 0) (h2 : 65536 < n) : lrZ b n p v = ([], fail v 2 (v.at_ - 2)) := by
  unfold lrZ
  rw [if_neg (by simp [h]), if_pos h2]
theorem lrZ_3 {b : Txt} {n : Nat} {p : Bool} {v : RS} (h : v.err = 0) (h2 : ¬65536 < n) (h3 : (b.length : Int) - v.at_ < n) : lrZ b n p v = ([], fail { v with wants := decide (v.at_ = b.length) && !p } 8 v.at_) := by
  unfold lrZ
  rw [if_neg (by simp [h]), if_neg h2, if_pos h3]
theorem lrZ_4 {b : Txt} {n : Nat} {p : Bool} {v : RS} (h : v.err = 0) (h2 : ¬65536 < n) (h3 : ¬(b.length : Int) - v.at_ < n) : lrZ b n p v = ((b.drop v.at_).take n, { v with at_ := v.at_ + n, line := v.at_ + n, wants := decide (v.at_ = b.length) && !p }) := by
  unfold lrZ
  rw [if_neg (by simp [h]), if_neg h2, if_neg h3]
attribute [local irreducible] peek want may endL fail
theorem LitRw (b : Txt) (s : RS) (h : WF b s) : PrimM E 59 (rdr2 b s) [rp2] (Str (litR b s).1) (rdr2 b (litR b s).2) := by
  have w0 := h
  have hb := h.big
  have w1 := want_wf h 123
  have w2 := digR_wf (f := (want b s 123).at_) 11 _ w1
  have wu : ∀ u, (true, u) = lrU b s → WF b u ∧ (want b s 123).at_ ≤ u.at_ := fun u e => by
    have e2 : u = (lrU b s).2 := congrArg Prod.snd e
    rw [e2]
    exact w2
  refine PrimM.ofX Tryz.func59 Tryz.ntmps59 rfl rfl ?_
  repeat' ((conv => whnf); first | ((with_reducible refine bx_npeek (fun c h1 h2 h3 h4 h5 => ?_) (fun h1 h2 => ?_)) <;> (simp only [h1, h2, Option.getD_some] at hr ⊢)) | ((first | (show LoopK _ _ (.seq (.region 3 _ _) _) _ _ _ _) | (show LoopK _ _ (.seq (.seq (.region 3 _ _) _) _) _ _ _ _) | (show LoopK _ _ (.region 3 _ _) _ _ _ _) | (show LoopK _ _ (.block _ (.seq (.region 3 _ _) _)) _ _ _ _) | (show LoopK _ _ (.seq (.block _ (.seq (.region 3 _ _) _)) _) _ _ _ _) | (show LoopK _ _ (.block _ (.seq (.block _ (.seq (.region 3 _ _) _)) _)) _ _ _ _) | (show LoopK _ _ (.scope (.seq (.region 3 _ _) _)) _ _ _ _) | (show LoopK _ _ (.scope (.block _ (.seq (.region 3 _ _) _))) _ _ _ _)); (refine LoopK.forU [0, 3] (fun (⟨t, n⟩ : RS × Nat) => WF b t ∧ (want b s 123).at_ ≤ t.at_ ∧ t.at_ - (want b s 123).at_ ≤ 10 ∧ 11 ≤ n + (t.at_ - (want b s 123).at_) ∧ digR b (want b s 123).at_ n t = lrU b s) (fun (⟨t, n⟩ : RS × Nat) => []) (fun H => fun (⟨t, n⟩ : RS × Nat) => [.row (rdr2 b t)]) (fun (⟨t, n⟩ : RS × Nat) => n) ((want b s 123, 11)) ?_; (conv => whnf); refine ForU.of ?_ (by repeat' (first | exact trivial | refine And.intro rfl ?_)) (by first | exact .refl _ | (repeat' (first | exact .nil | refine .same ?_ | refine .kill ?_))) ?_; rotate_left; rintro ⟨t, n⟩ ⟨hw, ha, ha', hn, hr⟩; (obtain ⟨m, rfl⟩ : ∃ m, n = m + 1 := ⟨n - 1, by omega⟩); rw [digR] at hr; have hwa := hw.at_; simp only [next] at hr)) | ((first | (show JoinK _ _ (.block _ (.seq (.region 3 _ _) _)) _ _ _ _ _) | (show JoinK _ _ (.block _ (.loop (.seq (.region 3 _ _) _))) _ _ _ _ _) | (show JoinK _ _ (.block _ (.scope (.seq (.region 3 _ _) _))) _ _ _ _ _) | (show JoinK _ _ (.block _ (.seq (.seq (.region 3 _ _) _) _)) _ _ _ _ _) | (show JoinK _ _ (.block _ (.loop (.seq (.seq (.region 3 _ _) _) _))) _ _ _ _ _) | (show JoinK _ _ (.block _ (.scope (.seq (.seq (.region 3 _ _) _) _))) _ _ _ _ _) | (show JoinK _ _ (.block _ (.region 3 _ _)) _ _ _ _ _) | (show JoinK _ _ (.block _ (.loop (.region 3 _ _))) _ _ _ _ _) | (show JoinK _ _ (.block _ (.scope (.region 3 _ _))) _ _ _ _ _) | (show JoinK _ _ (.block _ (.block _ (.seq (.region 3 _ _) _))) _ _ _ _ _) | (show JoinK _ _ (.block _ (.loop (.block _ (.seq (.region 3 _ _) _)))) _ _ _ _ _) | (show JoinK _ _ (.block _ (.scope (.block _ (.seq (.region 3 _ _) _)))) _ _ _ _ _) | (show JoinK _ _ (.block _ (.seq (.block _ (.seq (.region 3 _ _) _)) _)) _ _ _ _ _) | (show JoinK _ _ (.block _ (.loop (.seq (.block _ (.seq (.region 3 _ _) _)) _))) _ _ _ _ _) | (show JoinK _ _ (.block _ (.scope (.seq (.block _ (.seq (.region 3 _ _) _)) _))) _ _ _ _ _) | (show JoinK _ _ (.block _ (.block _ (.seq (.block _ (.seq (.region 3 _ _) _)) _))) _ _ _ _ _) | (show JoinK _ _ (.block _ (.loop (.block _ (.seq (.block _ (.seq (.region 3 _ _) _)) _)))) _ _ _ _ _) | (show JoinK _ _ (.block _ (.scope (.block _ (.seq (.block _ (.seq (.region 3 _ _) _)) _)))) _ _ _ _ _) | (show JoinK _ _ (.block _ (.scope (.seq (.region 3 _ _) _))) _ _ _ _ _) | (show JoinK _ _ (.block _ (.loop (.scope (.seq (.region 3 _ _) _)))) _ _ _ _ _) | (show JoinK _ _ (.block _ (.scope (.scope (.seq (.region 3 _ _) _)))) _ _ _ _ _) | (show JoinK _ _ (.block _ (.scope (.block _ (.seq (.region 3 _ _) _)))) _ _ _ _ _) | (show JoinK _ _ (.block _ (.loop (.scope (.block _ (.seq (.region 3 _ _) _))))) _ _ _ _ _) | (show JoinK _ _ (.block _ (.scope (.scope (.block _ (.seq (.region 3 _ _) _))))) _ _ _ _ _)); (refine JoinK.joinU [0, 3] (fun (u : RS) => (true, u) = lrU b s) (fun (u : RS) => []) (fun H => fun (u : RS) => [.row (rdr2 b u)]) ?_); (conv => whnf); (refine JoinU.of ?_ ?_); rotate_left; rintro u hU; have hU : (true, u) = lrU b s := hU; have w3 := (wu u hU).1; have l3 := w3.at_; have l3' := (wu u hU).2; have l4 := (peek_wf w3).at_; have hn := num_lt ((b.drop (want b s 123).at_).take (u.at_ - (want b s 123).at_))) | (show JU _ _ _ _ _ _; first | (refine JU.of (t) ?_ (by repeat' (first | exact trivial | refine And.intro rfl ?_)) (by repeat' (first | exact trivial | refine And.intro rfl ?_)) (by first | exact .refl _ | (repeat' (first | exact .nil | refine .same ?_ | refine .kill ?_))); (focus (exact hr)))) | ((first | (show JoinK _ _ (.seq (.region 14 _ _) _) _ _ _ _ _) | (show JoinK _ _ (.seq (.seq (.region 14 _ _) _) _) _ _ _ _ _) | (show JoinK _ _ (.region 14 _ _) _ _ _ _ _) | (show JoinK _ _ (.block _ (.seq (.region 14 _ _) _)) _ _ _ _ _) | (show JoinK _ _ (.seq (.block _ (.seq (.region 14 _ _) _)) _) _ _ _ _ _) | (show JoinK _ _ (.block _ (.seq (.block _ (.seq (.region 14 _ _) _)) _)) _ _ _ _ _) | (show JoinK _ _ (.scope (.seq (.region 14 _ _) _)) _ _ _ _ _) | (show JoinK _ _ (.scope (.block _ (.seq (.region 14 _ _) _))) _ _ _ _ _)); (refine JoinK.joinU [0, 2, 6, 9] (fun (⟨p, t⟩ : Bool × RS) => (p, t) = may b u 43) (fun (⟨p, t⟩ : Bool × RS) => [(9, .bool p)]) (fun H => fun (⟨p, t⟩ : Bool × RS) => [.row (rdr2 b t)]) ?_); (conv => whnf); (refine JoinU.of ?_ ?_); rotate_left; rintro ⟨p, t⟩ hm; have hm : (p, t) = may b u 43 := hm; have wt : WF b t := may_of w3 hm; have wv := (endL_wf (want_wf wt 125)).at_) | (show JU _ _ _ _ _ _; first | (refine JU.of ((is43 (peek b u).1, next (peek b u).2)) ?_ (by repeat' (first | exact trivial | refine And.intro rfl ?_)) (by repeat' (first | exact trivial | refine And.intro rfl ?_)) (by first | exact .refl _ | (repeat' (first | exact .nil | refine .same ?_ | refine .kill ?_))); (focus (exact may_y' (by assumption) (by assumption)))) | (refine JU.of ((is43 (peek b u).1, (peek b u).2)) ?_ (by repeat' (first | exact trivial | refine And.intro rfl ?_)) (by repeat' (first | exact trivial | refine And.intro rfl ?_)) (by first | exact .refl _ | (repeat' (first | exact .nil | refine .same ?_ | refine .kill ?_))); (focus (exact may_n' (by assumption) (by assumption)))) | (refine JU.of ((false, (peek b u).2)) ?_ (by repeat' (first | exact trivial | refine And.intro rfl ?_)) (by repeat' (first | exact trivial | refine And.intro rfl ?_)) (by first | exact .refl _ | (repeat' (first | exact .nil | refine .same ?_ | refine .kill ?_))); (focus (exact may_z (by assumption))))) | with_reducible refine JoinK.go ?_ | (show OX _ _ _ _ _ _ _; first | refine OX.cm 0 (Need2 b s 123 h) rfl (by repeat' (first | exact MvL.nil | refine MvL.cons ?_ ?_ | exact Mv.ptr | exact Mv.pure rfl | refine Mv.bfn ?_ | refine Mv.fn ?_)) rfl rfl rfl ?_ | refine OX.cm 0 (Peek2 b _ (by assumption)) rfl (by repeat' (first | exact MvL.nil | refine MvL.cons ?_ ?_ | exact Mv.ptr | exact Mv.pure rfl | refine Mv.bfn ?_ | refine Mv.fn ?_)) rfl rfl rfl ?_ | refine OX.cp (Num2 _ (by simp; omega)) rfl rfl ?_ | refine OX.ca (Num2 _ (by simp; omega)) rfl rfl (by repeat' (first | exact FrzE.pure (pureB_ok 9 _ rfl) | exact FrzE.slot (by first | exact Cel.str | exact Cel.byte) rfl (by first | rfl | omega) | exact FrzE.rowA (by first | exact Cel.str | exact Cel.byte) rfl (by first | rfl | omega) | refine FrzE.fn ?_ | refine FrzE.agg ?_ | refine FrzE.tup ?_ | refine FrzE.ptr1 rfl rfl rfl rfl rfl rfl ?_ | refine FrzE.ptrA rfl rfl rfl rfl ?_ | exact FrzLE.nil | refine FrzLE.cons ?_ ?_)) ?_ | refine OX.cm 0 (Fail2 b _ _ _) rfl (by repeat' (first | exact MvL.nil | refine MvL.cons ?_ ?_ | exact Mv.ptr | exact Mv.pure rfl | refine Mv.bfn ?_ | refine Mv.fn ?_)) rfl rfl rfl ?_ | refine OX.cm 0 (Need2 b _ 125 (by assumption)) rfl (by repeat' (first | exact MvL.nil | refine MvL.cons ?_ ?_ | exact Mv.ptr | exact Mv.pure rfl | refine Mv.bfn ?_ | refine Mv.fn ?_)) rfl rfl rfl ?_ | refine OX.cm 0 (Crlf2 b _ (want_wf (by assumption) 125)) rfl (by repeat' (first | exact MvL.nil | refine MvL.cons ?_ ?_ | exact Mv.ptr | exact Mv.pure rfl | refine Mv.bfn ?_ | refine Mv.fn ?_)) rfl rfl rfl ?_ | refine OX.cm 0 (More28 b _ _ _ _ _ _) rfl (by repeat' (first | exact MvL.nil | refine MvL.cons ?_ ?_ | exact Mv.ptr | exact Mv.pure rfl | refine Mv.bfn ?_ | refine Mv.fn ?_)) rfl rfl rfl ?_ | refine OX.rc (Rc.cvF (by repeat' (first | exact FrzE.pure (pureB_ok 9 _ rfl) | exact FrzE.slot (by first | exact Cel.str | exact Cel.byte) rfl (by first | rfl | omega) | exact FrzE.rowA (by first | exact Cel.str | exact Cel.byte) rfl (by first | rfl | omega) | refine FrzE.fn ?_ | refine FrzE.agg ?_ | refine FrzE.tup ?_ | refine FrzE.ptr1 rfl rfl rfl rfl rfl rfl ?_ | refine FrzE.ptrA rfl rfl rfl rfl ?_ | exact FrzLE.nil | refine FrzLE.cons ?_ ?_)) rfl rfl rfl) ?_) | with_reducible refine NilK.nil ?_ | ((with_reducible refine And.intro ?_ ?_); · first | (first | omega | exact u8rng _ | (simp only [List.length_cons, List.length_nil, List.length_append]; omega)) | exact Nat.le_of_ble_eq_true rfl) | (with_reducible refine bxN.dec (fun h => ?_) (fun h => ?_)) <;> (try (exfalso; omega)) <;> (try simp only [Int.natCast_inj, Int.ofNat_le, Int.ofNat_lt, u8i, Nat.reduceLT, UInt8.reduceOfNat, ne_eq, Decidable.not_not] at h) <;> (try simp only [il1, il2, il3, il4, il5] at h) <;> (try rw [if_pos h] at hr) <;> (try rw [if_neg h] at hr) | (with_reducible refine bxN.ndec (fun h => ?_) (fun h => ?_)) <;> (try (exfalso; omega)) <;> (try simp only [Int.natCast_inj, Int.ofNat_le, Int.ofNat_lt, u8i, Nat.reduceLT, UInt8.reduceOfNat, ne_eq, Decidable.not_not] at h) <;> (try simp only [il1, il2, il3, il4, il5] at h) <;> (try rw [if_pos h] at hr) <;> (try rw [if_neg h] at hr) | (with_reducible refine bxN.not (fun h => ?_) (fun h => ?_)) <;> (try simp only [h, reduceIte, Bool.false_eq_true] at hr) | (with_reducible refine bxN.split (fun h => ?_) (fun h => ?_)) <;> (try simp only [h, reduceIte, Bool.false_eq_true] at hr) | with_reducible refine natK.cast ?_ | with_reducible refine natK.lit ?_ | with_reducible refine natK.add ?_ | with_reducible refine natK.addl ?_ | ((with_reducible refine natK.pred ?_ ?_); · (first | omega | exact u8rng _ | (simp only [List.length_cons, List.length_nil, List.length_append]; omega))) | ((with_reducible refine natK.sub ?_ ?_); · (first | omega | exact u8rng _ | (simp only [List.length_cons, List.length_nil, List.length_append]; omega))) | ((with_reducible refine natK.nn ?_ ?_); · (first | omega | exact u8rng _ | (simp only [List.length_cons, List.length_nil, List.length_append]; omega))) | ((with_reducible refine nthK.map ?_ ?_); · (first | omega | exact u8rng _ | (simp only [List.length_cons, List.length_nil, List.length_append]; omega))) | ((with_reducible refine nthK.any ?_ ?_); · (first | omega | exact u8rng _ | (simp only [List.length_cons, List.length_nil, List.length_append]; omega))) | refine geK.of rfl ?_ | ((with_reducible refine rowK.slot (List.ne_nil_of_length_pos ?_) ?_); · (first | omega | exact u8rng _ | (simp only [List.length_cons, List.length_nil, List.length_append]; omega))) | ((with_reducible refine ArU.ok ?_ ?_); · omega) | with_reducible refine ArU.of ?_ | with_reducible refine LnK.map ?_ | with_reducible refine LnK.lit rfl ?_ | with_reducible refine PcK.map0 ?_ | with_reducible refine PcK.mapT ?_ | with_reducible refine PcK.map ?_ | with_reducible refine CvK.map ?_ | with_reducible refine OpenK.of (by kernel_rfl) ?_ | refine EndW.of (by kernel_rfl) (by repeat' ((conv => whnf); first | exact trivial | with_reducible refine And.intro ?_ ?_ | exact rfl | refine MkA.same rfl ?_ | refine MkA.anc (by kernel_rfl) ?_)) ?_ | exact RetK.eq rfl (by with_reducible rfl) | refine RetM.eq rfl rfl rfl (by with_reducible rfl) ?_ | refine RetK.eq rfl ?_ | refine RetM.eq rfl rfl rfl ?_ ?_ | ((show RetM _ _ _ _); refine RetM.fx (by repeat' (first | exact FrzX.pure rfl | exact FrzX.nils | exact FrzX.slot (by first | exact Cel.str | exact Cel.byte) rfl rfl (by first | rfl | omega) | exact FrzX.rowA (by first | exact Cel.str | exact Cel.byte) rfl rfl (by first | rfl | omega) | apply FrzX.agg | apply FrzX.tup | exact FrzLX.nil | apply FrzLX.cons)) rfl rfl ?_ ?_) | ((show RetK _ _ _); refine RetK.fz (by repeat' (first | exact FrzE.pure (pureB_ok 9 _ rfl) | exact FrzE.slot (by first | exact Cel.str | exact Cel.byte) rfl (by first | rfl | omega) | exact FrzE.rowA (by first | exact Cel.str | exact Cel.byte) rfl (by first | rfl | omega) | refine FrzE.fn ?_ | refine FrzE.agg ?_ | refine FrzE.tup ?_ | refine FrzE.ptr1 rfl rfl rfl rfl rfl rfl ?_ | refine FrzE.ptrA rfl rfl rfl rfl ?_ | exact FrzLE.nil | refine FrzLE.cons ?_ ?_)) ?_))
  all_goals (try (conv => whnf))
  all_goals first
    | rfl
    | (refine BackU.of ((next t, m)) ?_ ?_ ?_ ?_ ?_; rotate_left; (focus (first | exact Nat.lt_succ_self _ | omega | (simp only [List.length_cons]; omega) | (simp_all; omega))); (focus (repeat' (first | exact trivial | refine And.intro rfl ?_))); (focus (repeat' (first | exact trivial | refine And.intro rfl ?_))); (focus (first | exact .refl _ | (repeat' (first | exact .nil | refine .same ?_ | refine .kill ?_)))); (focus (refine ⟨next_wf hw (by assumption), ?_, ?_, ?_, ?_⟩ <;> first | exact hr | (simp only [next]; omega))))
    | (rw [litR_0 hr]; done)
    | (rw [litR_1 hU (by assumption)]; done)
    | (rw [litR_2 hU (by assumption) hm, lrZ_1 (by assumption)]; done)
    | (rw [litR_2 hU (by assumption) hm, lrZ_2 (by assumption) (by omega)]; done)
    | (rw [litR_2 hU (by assumption) hm, lrZ_3 (by assumption) (by omega) (by omega)]; first | done | rfl | (simp [*]; done) | (simp_all; done))
    | (rw [litR_2 hU (by assumption) hm, lrZ_4 (by assumption) (by omega) (by omega)]; first | done | rfl | (simp [*, rdr2, Byt]; done))
    | skip
theorem Literal2 (b : Txt) (s : RS) (h : WF b s) : PrimM E 59 (rdr2 b s) [rp2] (Str (literal b s).1) (rdr2 b (literal b s).2) := by
  rw [← litR_eq h]
  exact LitRw b s h
end Go.Proofs.YtcanagkflbbmaaaGreatDoor.L
