/- The verifier's eqLink at two equal links. -/
import Derived.Test.YtmibajhilbfecaaTrain3
namespace Go.Proofs.Ytmibajhilbfecaa
open Go.RowKit Go.Deep
theorem eqLink_t (a : LK) (w : World) : Calls Try.prog 52 #[.agg #[.int .i64 a.ln, .int .i64 a.rt, .int .i64 a.dr], .agg #[.int .i64 a.ln, .int .i64 a.rt, .int .i64 a.dr]] w fun e w' => e = .returned (.bool true) ∧ Below w.heap.size w w' := by
  have K := ((Below.refl w.heap.size w).alloc (Nat.le_refl _) (.cells #[.int .i64 a.ln, .int .i64 a.rt, .int .i64 a.dr] 29)).alloc (by simp) (.cells #[.int .i64 a.ln, .int .i64 a.rt, .int .i64 a.dr] 29)
  go_enter Try.func52, Try.ntmps52
  go_wp2
  go_ret
  exact ⟨rfl, K⟩
end Go.Proofs.Ytmibajhilbfecaa
