/- The sorted links are those that the reference tries, in its order. -/
import Derived.Test.YtmibajhilbfecaaLinks
namespace Go.Proofs.Ytmibajhilbfecaa
/-- The links of a capacity s, in the reference's order. -/
def linksAt (s : Nat) : List LK := [4, 2, 1].flatMap fun ln : Nat => if s % ln = 0 ∧ s / ln ≤ 4 then (List.range 4).map fun d : Nat => ⟨ln, ((s / ln : Nat) : Int), d⟩ else []
def linksS : List LK := (List.range 16).flatMap fun k => linksAt (16 - k)
theorem linksS_len : linksS.length = 48 := by decide
set_option maxRecDepth 1000000 in
theorem st_links : stF links0 = linksS := by decide +kernel
end Go.Proofs.Ytmibajhilbfecaa
