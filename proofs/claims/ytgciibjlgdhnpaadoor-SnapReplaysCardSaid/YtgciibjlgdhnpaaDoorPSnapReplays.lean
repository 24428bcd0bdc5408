/- SnapReplays, as a plain law: lines of two times, one behind the other, make the length of both. -/
import Derived.Test.YtgciibjlgdhnpaaDoorPLib
import Derived.Test.YtgciibjlgdhnpaaDoorX1
namespace Go.Proofs.Mine
open Go.RowKit Go.Proofs.YtgciibjlgdhnpaaDoorW.PrintWords Go.Proofs.YtgciibjlgdhnpaaDoorW.PrintLast Go.Proofs.YtgciibjlgdhnpaaDoor.X
set_option linter.unusedSimpArgs false

theorem wrap_wide {n : Int} (h : -9223372036854775808 ≤ n) (h' : n ≤ 9223372036854775807) : wrap64 n = n := by
  unfold wrap64
  omega
theorem num_ok (s w : ByteArray) (hs : s.size ≤ 9223372036854775807) : ∃ r : Int × Bool, snap_number.f s w = some r ∧ 0 ≤ r.1 ∧ r.1 ≤ 10000000000 := by
  unfold snap_number.f
  rw [if_pos (decide_eq_true hs)]
  split
  · split
    · rename_i hl
      cases hd : digitsN 0 (Lib.trimSuffix s.data.toList w.data.toList) with
      | none => exact ⟨_, rfl, by decide, by decide⟩
      | some n =>
        refine ⟨_, rfl, Int.natCast_nonneg n, ?_⟩
        have h1 := snap_number.small _ _ _ hd
        have h2 : (10 : Nat) ^ (Lib.trimSuffix s.data.toList w.data.toList).length ≤ 10 ^ 10 := Nat.pow_le_pow_right (by omega) hl.2
        have h3 : (10 : Nat) ^ 10 = 10000000000 := by decide
        show (n : Int) ≤ 10000000000
        omega
    · exact ⟨_, rfl, by decide, by decide⟩
  · exact ⟨_, rfl, by decide, by decide⟩
/-- What the word EXPUNGE of a line does. -/
def step1 (n : Int) (s : ByteArray) : Option Int := if ((snap_number.f s ⟨#[32, 69, 88, 80, 85, 78, 71, 69]⟩).getD (0, false)).2 = true then (if ((snap_number.f s ⟨#[32, 69, 88, 80, 85, 78, 71, 69]⟩).getD (0, false)).1 < 1 then none else if ((snap_number.f s ⟨#[32, 69, 88, 80, 85, 78, 71, 69]⟩).getD (0, false)).1 > n then none else some (n - 1)) else some n
/-- What the word EXISTS of a line does. -/
def step2 (n : Int) (s : ByteArray) : Option Int := if ((snap_number.f s ⟨#[32, 69, 88, 73, 83, 84, 83]⟩).getD (0, false)).2 = true then (if ((snap_number.f s ⟨#[32, 69, 88, 73, 83, 84, 83]⟩).getD (0, false)).1 < n then none else some ((snap_number.f s ⟨#[32, 69, 88, 73, 83, 84, 83]⟩).getD (0, false)).1) else some n
def playO : Int → List ByteArray → Option Int
  | n, [] => some n
  | n, s :: r => (step1 n s).bind fun m => (step2 m s).bind fun m' => playO m' r
def toR : Option Int → Int × Bool
  | some m => (m, true)
  | none => (0, false)
theorem play_append : ∀ (a b : List ByteArray) (n : Int), playO n (a ++ b) = (playO n a).bind fun m => playO m b
  | [], _, _ => rfl
  | s :: a, b, n => by
    show ((step1 n s).bind fun m => (step2 m s).bind fun m' => playO m' (a ++ b)) = _
    rw [playO]
    cases step1 n s with
    | none => rfl
    | some m =>
      rw [Option.bind_some, Option.bind_some]
      cases step2 m s with
      | none => rfl
      | some m' => rw [Option.bind_some, Option.bind_some, play_append a b m']
theorem step1_le {n m : Int} {s : ByteArray} (h0 : 0 ≤ n) (h1 : n ≤ 9223372036854775807) (h : step1 n s = some m) : 0 ≤ m ∧ m ≤ 9223372036854775807 := by
  unfold step1 at h
  split at h
  · split at h
    · cases h
    · split at h
      · cases h
      · obtain rfl := Option.some.inj h
        omega
  · obtain rfl := Option.some.inj h
    exact ⟨h0, h1⟩
theorem step2_le {n m : Int} {s : ByteArray} (hs : s.size ≤ 9223372036854775807) (h0 : 0 ≤ n) (h1 : n ≤ 9223372036854775807) (h : step2 n s = some m) : 0 ≤ m ∧ m ≤ 9223372036854775807 := by
  obtain ⟨r, hr, r0, r1⟩ := num_ok s ⟨#[32, 69, 88, 73, 83, 84, 83]⟩ hs
  unfold step2 at h
  rw [hr, Option.getD_some] at h
  split at h
  · split at h
    · cases h
    · obtain rfl := Option.some.inj h
      omega
  · obtain rfl := Option.some.inj h
    exact ⟨h0, h1⟩
theorem play_le : ∀ (l : List ByteArray) (n m : Int), (∀ s ∈ l, s.size ≤ 9223372036854775807) → 0 ≤ n → n ≤ 9223372036854775807 → playO n l = some m → 0 ≤ m ∧ m ≤ 9223372036854775807
  | [], n, m, _, h0, h1, h => by
    obtain rfl := Option.some.inj h
    exact ⟨h0, h1⟩
  | s :: l, n, m, hz, h0, h1, h => by
    rw [playO] at h
    obtain ⟨a, ha, h⟩ := Option.bind_eq_some_iff.1 h
    obtain ⟨b, hb, h⟩ := Option.bind_eq_some_iff.1 h
    obtain ⟨a0, a1⟩ := step1_le h0 h1 ha
    obtain ⟨b0, b1⟩ := step2_le (hz s (by simp)) a0 a1 hb
    exact play_le l b m (fun x hx => hz x (by simp [hx])) b0 b1 h
theorem play_loop (L : List ByteArray) (hL : L.length ≤ 1000) (hz : ∀ s ∈ L, s.size ≤ 9223372036854775807) : ∀ (r pre : List ByteArray), L = pre ++ r → ∀ n : Int, 0 ≤ n → n ≤ 9223372036854775807 →
    Ev (fun k => snap_Replay.l0 k n L (L.length : Int) (pre.length : Int)) (toR (playO n r)) := by
  intro r
  induction r with
  | nil =>
    intro pre h n _ _
    have hl : L.length = pre.length := by rw [h]; simp
    exact Ev.after fun k => by rw [snap_Replay.l0, if_neg (by omega)]; rfl
  | cons s r ih =>
    intro pre h n h0 h1
    have hl : L.length = pre.length + (r.length + 1) := by rw [h]; simp
    have hsz : s.size ≤ 9223372036854775807 := hz s (by rw [h]; simp)
    have hrd : rdOf ByteArray.empty L (pre.length : Int) = s := by rw [h]; simp [rdOf]
    have hnext : ∀ m : Int, 0 ≤ m → m ≤ 9223372036854775807 → Ev (fun k => snap_Replay.l0 k m L (L.length : Int) (wrap64 ((pre.length : Int) + 1))) (toR (playO m r)) := by
      intro m m0 m1
      have := ih (pre ++ [s]) (by rw [h]; simp) m m0 m1
      rw [List.length_append, List.length_singleton] at this
      exact Ev.congr (fun k => by rw [wrap_nat (by omega)]) this
    have hj : ∀ m : Int, 0 ≤ m → m ≤ 9223372036854775807 → Ev (fun k => snap_Replay.j1 k m s L (L.length : Int) (pre.length : Int)) (toR ((step2 m s).bind fun m' => playO m' r)) := by
      intro m m0 m1
      obtain ⟨q, hq, q0, q1⟩ := num_ok s ⟨#[32, 69, 88, 73, 83, 84, 83]⟩ hsz
      unfold step2
      rw [hq, Option.getD_some]
      obtain ⟨q1', q2⟩ := q
      simp only at q0 q1
      by_cases c : q2 = true
      · subst c
        by_cases c2 : q1' < m
        · exact Ev.after fun k => by rw [snap_Replay.j1, hq, Option.bind_some, if_pos rfl, if_pos c2, if_pos rfl, if_pos c2]; rfl
        · rw [if_pos rfl, if_neg c2, Option.bind_some]
          exact Ev.step (fun k => by rw [snap_Replay.j1, hq, Option.bind_some, if_pos rfl, if_neg c2]) (hnext q1' q0 (by omega))
      · rw [if_neg c, Option.bind_some]
        exact Ev.step (fun k => by rw [snap_Replay.j1, hq, Option.bind_some, if_neg c]) (hnext m m0 m1)
    obtain ⟨q, hq, q0, q1⟩ := num_ok s ⟨#[32, 69, 88, 80, 85, 78, 71, 69]⟩ hsz
    rw [playO]
    unfold step1
    rw [hq, Option.getD_some]
    obtain ⟨q1', q2⟩ := q
    simp only at q0 q1
    have e1 : ∀ k, snap_Replay.l0 (k + 1) n L (L.length : Int) (pre.length : Int) = (if q2 = true then (if q1' < 1 then (some (0, false)) else (if q1' > n then (some (0, false)) else (snap_Replay.j1 k (wrap64 (n - 1)) s L (L.length : Int) (pre.length : Int)))) else (snap_Replay.j1 k n s L (L.length : Int) (pre.length : Int))) := by
      intro k
      rw [snap_Replay.l0, if_pos (by omega), if_pos (by omega), if_pos (by omega), hrd, hq, Option.bind_some]
    by_cases c : q2 = true
    · rw [if_pos c]
      by_cases c1 : q1' < 1
      · rw [if_pos c1]
        exact Ev.after fun k => by rw [e1, if_pos c, if_pos c1]; rfl
      · rw [if_neg c1]
        by_cases c2 : q1' > n
        · rw [if_pos c2]
          exact Ev.after fun k => by rw [e1, if_pos c, if_neg c1, if_pos c2]; rfl
        · rw [if_neg c2, Option.bind_some]
          exact Ev.step (fun k => by rw [e1, if_pos c, if_neg c1, if_neg c2, wrap_wide (by omega) (by omega)]) (hj (n - 1) (by omega) (by omega))
    · rw [if_neg c, Option.bind_some]
      exact Ev.step (fun k => by rw [e1, if_neg c]) (hj n h0 h1)
theorem replay_ev (L : List ByteArray) (hL : L.length ≤ 1000) (hz : ∀ s ∈ L, s.size ≤ 9223372036854775807) (n : Int) (h1 : n ≤ 9223372036854775807) :
    Ev (fun k => snap_Replay.f k n L) (if n < 0 then (0, false) else toR (playO n L)) := by
  by_cases h : n < 0
  · rw [if_pos h]
    exact Ev.congr (f := fun _ => some (0, false)) (fun k => by unfold snap_Replay.f; rw [if_pos h]) (Ev.now _)
  · rw [if_neg h]
    exact Ev.congr (fun k => by unfold snap_Replay.f; rw [if_neg h]; rfl) (play_loop L hL hz L [] rfl n (by omega) h1)
end Go.Proofs.Mine
namespace Go.Proofs.YtgciibjlgdhnpaaDoor.Pure
open Go.RowKit Go.Proofs.Mine Go.Proofs.YtgciibjlgdhnpaaDoorW.PrintWords Go.Proofs.YtgciibjlgdhnpaaDoorW.PrintLast Go.Proofs.YtgciibjlgdhnpaaDoor.X
theorem SnapReplays (a0 : Int) (l1 l2 : List ByteArray) (W0 : (Lit.int .i64 a0).wf = true) (W1 : l1.length ≤ maxLen ∧ ∀ y_ ∈ l1, y_.size ≤ 140737488351232) (W2 : l2.length ≤ maxLen ∧ ∀ y_ ∈ l2, y_.size ≤ 140737488351232) : ∃ k, frankinglaw25_SnapReplays.f k a0 l1 l2 = some true := by
  have ha : a0 ≤ 9223372036854775807 := by
    simp [Lit.wf, IntKind.min, IntKind.max, IntKind.signed, IntKind.bits] at W0
    omega
  refine Ev.rounds (g := fun k => frankinglaw25_SnapReplays.f k a0 l1 l2) ?_
  have skip : Ev (fun k => frankinglaw25_SnapReplays.j0 k a0 l1 l2 true) true := Ev.after fun k => by rw [frankinglaw25_SnapReplays.j0, if_pos rfl]
  refine Ev.congr (fun k => by unfold frankinglaw25_SnapReplays.f frankinglaw25_awake.f; rw [Option.bind_some, if_pos rfl]) ?_
  by_cases h0 : (l1.length : Int) > 30
  · exact Ev.congr (fun k => if_pos h0) skip
  refine Ev.congr (fun k => if_neg h0) ?_
  by_cases h1 : (l2.length : Int) > 30
  · exact Ev.congr (fun k => by rw [decide_eq_true h1]) skip
  refine Ev.congr (fun k => by rw [decide_eq_false h1]) ?_
  have z1 : ∀ s ∈ l1, s.size ≤ 9223372036854775807 := fun s hs => Nat.le_trans (W1.2 s hs) (by decide)
  have z2 : ∀ s ∈ l2, s.size ≤ 9223372036854775807 := fun s hs => Nat.le_trans (W2.2 s hs) (by decide)
  have r1 := replay_ev l1 (by omega) z1 a0 ha
  have r2 := replay_ev (([] ++ l1) ++ l2) (by simp; omega) (fun s hs => by
    rw [List.nil_append] at hs
    rcases List.mem_append.1 hs with h | h
    · exact z1 s h
    · exact z2 s h) a0 ha
  rw [List.nil_append] at r2
  refine Ev.step (fun k => by rw [frankinglaw25_SnapReplays.j0, if_neg (by decide)]) ?_
  refine Ev.bind r1 ?_
  refine Ev.congr (fun k => by rw [Option.bind_some, if_pos (by rw [List.length_nil]; omega), Option.bind_some, List.nil_append, if_pos (by omega)]) (Ev.bind r2 ?_)
  by_cases hn : a0 < 0
  · rw [if_pos hn]
    exact Ev.congr (f := fun _ => some true) (fun k => by rw [if_pos hn]; rfl) (Ev.now _)
  · rw [if_neg hn, if_neg hn, play_append]
    cases hp : playO a0 l1 with
    | none => exact Ev.congr (f := fun _ => some true) (fun k => rfl) (Ev.now _)
    | some m =>
      obtain ⟨m0, m1⟩ := play_le l1 a0 m z1 (by omega) ha hp
      have r3 := replay_ev l2 (by omega) z2 m m1
      rw [if_neg (by omega)] at r3
      rw [Option.bind_some]
      refine Ev.congr (fun k => if_pos rfl) (Ev.bind r3 ?_)
      exact Ev.congr (f := fun _ => some true) (fun k => by rw [if_pos (beq_self_eq_true _), beq_self_eq_true]) (Ev.now _)
end Go.Proofs.YtgciibjlgdhnpaaDoor.Pure
