/- Commands: words of every depth. -/
import Derived.Test.YtcanagkflbbmaaaDoorLCmd6
set_option linter.unusedVariables false
set_option linter.unusedSimpArgs false
set_option maxRecDepth 100000
set_option maxHeartbeats 8000000
namespace Go.Proofs.YtcanagkflbbmaaaDoor.L
open Go Go.Proofs Go.Dev Go.RowKit
theorem WordD (b : Txt) : ∀ (d deep : Nat), deep + d = 32 → ∀ (s : RS), WF b s → PrimM E 31 (rdr b s) [rp, .int .i64 (deep : Int)] (wdv (wordW b d s).1) (rdr b (wordW b d s).2)
  | 0, deep, hd, s, h => by
    have := WordG b (fun s => (noW, s)) deep (by omega) (fun h => absurd h (by omega)) s h
    rw [if_neg (by omega)] at this
    exact this
  | d + 1, deep, hd, s, h => by
    have := WordG b (listF b (wordW b d)) deep (by omega) (fun _ s h => ListG b (wordW b d) (deep + 1) (by omega) (wordW_ok d) (WordD b d (deep + 1) (by omega)) s h) s h
    rw [if_pos (by omega)] at this
    exact this
theorem Word0 (b : Txt) (s : RS) (h : WF b s) : PrimM E 31 (rdr b s) [rp, .int .i64 0] (wdv (wordW b 32 s).1) (rdr b (wordW b 32 s).2) := WordD b 32 0 rfl s h
end Go.Proofs.YtcanagkflbbmaaaDoor.L
