/- Where the reference's loops stand in the list of links. -/
import Derived.Test.YtmibajhilbfecaaTrain
namespace Go.Proofs.Ytmibajhilbfecaa
/-- Lanes in turn o: 4, 2, 1, and 0 at the end. -/
def lnT (o : Nat) : Nat := [4, 2, 1, 0].getD o 0
/-- The number of links tried before turn o of the size 16 - k. -/
def trP (k o : Nat) : Nat := ((List.range k).flatMap fun j => linksAt (16 - j)).length + ((List.range o).flatMap fun i : Nat => if (16 - k) % lnT i = 0 ∧ (16 - k) / lnT i ≤ 4 then [0, 1, 2, 3] else []).length
theorem trP_0 : trP 0 0 = 0 := by decide
theorem trP_end : trP 16 0 = 48 := by decide
theorem trP_next : ∀ k, k < 16 → trP (k + 1) 0 = trP k 3 := by decide
theorem trP_step : ∀ k, k < 16 → ∀ o, o < 3 → trP k (o + 1) = trP k o + if (16 - k) % lnT o = 0 ∧ (16 - k) / lnT o ≤ 4 then 4 else 0 := by decide
set_option maxRecDepth 100000 in
theorem trP_at : ∀ k, k < 16 → ∀ o, o < 3 → (16 - k) % lnT o = 0 ∧ (16 - k) / lnT o ≤ 4 → ∀ d, d < 4 → linksS[trP k o + d]? = some ⟨lnT o, (((16 - k) / lnT o : Nat) : Int), (d : Int)⟩ := by decide +kernel
end Go.Proofs.Ytmibajhilbfecaa
