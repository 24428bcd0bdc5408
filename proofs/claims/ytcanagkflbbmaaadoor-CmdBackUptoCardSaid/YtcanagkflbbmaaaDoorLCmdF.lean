/- Commands: what is read is not too much. -/
import Derived.Test.YtcanagkflbbmaaaDoorLCmd12
set_option linter.unusedVariables false
set_option linter.unusedSimpArgs false
set_option maxRecDepth 100000
set_option maxHeartbeats 8000000
namespace Go.Proofs.YtcanagkflbbmaaaDoor.L
open Go Go.Proofs Go.Dev Go.RowKit
theorem quotedL_len {b : Txt} : ∀ (n : Nat) (acc : Txt) (s : RS), (quotedL b n acc s).1.length ≤ acc.length + n
  | 0, _, _ => Nat.zero_le _
  | n + 1, acc, s => by
    unfold quotedL
    have k : ∀ (c : UInt8) (t : RS), (quotedL b n (acc ++ [c]) t).1.length ≤ acc.length + (n + 1) := fun c t => by
      have := quotedL_len (b := b) n (acc ++ [c]) t
      simp at this
      omega
    split
    · exact Nat.zero_le _
    · split
      · exact Nat.zero_le _
      · split
        · exact Nat.zero_le _
        · split
          · exact Nat.zero_le _
          · split
            · exact Nat.zero_le _
            · split
              · simp only; omega
              · split
                · split
                  · exact Nat.zero_le _
                  · split
                    · exact k _ _
                    · split
                      · exact k _ _
                      · exact Nat.zero_le _
                · exact k _ _
theorem literal_len {b : Txt} {s : RS} : (literal b s).1.length ≤ b.length := by
  unfold literal
  split
  · exact Nat.zero_le _
  · split
    · exact Nat.zero_le _
    · simp
      omega
theorem fits_none : Fits noW := .mk _ _ _ _ (by decide) (by decide) (fun w h => by cases h)
theorem fits_t {t : Txt} {q : Bool} (h : t.length < 1000000) : Fits (.mk t q [] false) := .mk _ _ _ _ (by decide) h (fun w h => by cases h)
theorem wordF_fits {b : Txt} (hb : b.length < 900000) {lst : Option (RS → Word × RS)} (hl : ∀ f, lst = some f → ∀ s, Fits (f s).1) (s : RS) : Fits (wordF b lst s).1 := by
  unfold wordF
  split
  · exact fits_none
  · split
    · exact fits_none
    · split
      · exact fits_t (by have := quotedL_len (b := b) (b.length + 1) [] (want b (inc s) 34); simp at this; unfold quoted; omega)
      · split
        · exact fits_t (by have := literal_len (b := b) (s := inc s); omega)
        · split
          · split
            · exact fits_none
            · exact hl _ rfl _
          · exact fits_t (by have := run_len (b := b) (no := noPlain) (op := brk b) (from_ := (inc s).at_) (b.length + 1) (inc s); unfold plain; omega)
theorem listL_fits {b : Txt} {rec : RS → Word × RS} (hr : ∀ s, Fits (rec s).1) : ∀ (n : Nat) (acc : List Word) (s : RS), (∀ w ∈ acc, Fits w) → (∀ w ∈ (listL b rec n acc s).1, Fits w) ∧ (listL b rec n acc s).1.length ≤ acc.length + n
  | 0, acc, s, h => ⟨h, Nat.le_refl _⟩
  | n + 1, acc, s, h => by
    have h2 : ∀ w ∈ acc ++ [(rec s).1], Fits w := fun w hw => by
      rcases List.mem_append.1 hw with hw | hw
      · exact h w hw
      · rw [List.mem_singleton.1 hw]; exact hr s
    unfold listL
    split
    · split
      · exact ⟨h2, by simp⟩
      · obtain ⟨q1, q2⟩ := listL_fits hr n _ (want b (may b (rec s).2 41).2 32) h2
        exact ⟨q1, by simp at q2 ⊢; omega⟩
    · exact ⟨h, by simp only; omega⟩
theorem listF_fits {b : Txt} {rec : RS → Word × RS} (hr : ∀ s, Fits (rec s).1) (s : RS) : Fits (listF b rec s).1 := by
  unfold listF
  split
  · exact .mk _ _ _ _ (by decide) (by decide) (fun w h => by cases h)
  · obtain ⟨q1, q2⟩ := listL_fits (b := b) hr 1002 [] (may b (want b s 40) 41).2 (fun w h => by cases h)
    exact .mk _ _ _ _ (by simp at q2; omega) (by decide) q1
theorem wordW_fits {b : Txt} (hb : b.length < 900000) : ∀ d s, Fits (wordW b d s).1
  | 0, s => wordF_fits hb (fun f h => by cases h) s
  | d + 1, s => wordF_fits hb (fun f h s => by cases h; exact listF_fits (wordW_fits hb d) s) s
theorem argsL_fits {b : Txt} (hb : b.length < 900000) : ∀ (n : Nat) (acc : List Word) (s : RS), (∀ w ∈ acc, Fits w) → (∀ w ∈ (argsL b n acc s).1, Fits w) ∧ (argsL b n acc s).1.length ≤ acc.length + n
  | 0, acc, s, h => ⟨h, Nat.le_refl _⟩
  | n + 1, acc, s, h => by
    unfold argsL
    split
    · split
      · exact ⟨h, by simp only; omega⟩
      · obtain ⟨q1, q2⟩ := argsL_fits hb n (acc ++ [(wordW b 32 (want b (isB b s 13).2 32)).1]) (wordW b 32 (want b (isB b s 13).2 32)).2 (fun w hw => by
          rcases List.mem_append.1 hw with hw | hw
          · exact h w hw
          · rw [List.mem_singleton.1 hw]; exact wordW_fits hb _ _)
        exact ⟨q1, by simp at q2 ⊢; omega⟩
    · exact ⟨h, by simp only; omega⟩
theorem parse_fits {b : Txt} (hb : b.length < 900000) : (∀ w ∈ (parseC b).1.args, Fits w) ∧ (parseC b).1.args.length < 1000000 := by
  have h := argsL_fits hb 1002 [] (rd3 b).2 (fun w h => by cases h)
  have hn : (∀ w ∈ noC.args, Fits w) ∧ noC.args.length < 1000000 := ⟨fun w h => (by cases h), by decide⟩
  unfold parseC
  split
  · exact ⟨h.1, Nat.lt_of_le_of_lt h.2 (by decide)⟩
  · split
    · exact hn
    · split <;> exact hn
theorem OwnP (b : Txt) (hb : b.length < 900000) : Prim E 12 [cdv (parseC b).1] (.val (cdv (parseC b).1)) := Own _ (parse_fits hb).2 (parse_fits hb).1
theorem SameP (b : Txt) (hb : b.length < 900000) : Prim E 11 [cdv (parseC b).1, cdv (parseC b).1] (.val (.bool true)) := SameCmd _ (parse_fits hb).2 (parse_fits hb).1
end Go.Proofs.YtcanagkflbbmaaaDoor.L
