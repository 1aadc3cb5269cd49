/- Contracts of the functions on numbers that call others: Capacity, Mix, NextScramble, PacketLength, SymbolsFor and the cipher's. -/
import Derived.Test.YtnagphedlmbagaaDoorNum
namespace Go.Proofs.YtnagphedlmbagaaDoor
open Go.RowKit

theorem cap_bd {l r d : Int} (h : linkB l r d = true) : 1 ≤ l * r ∧ l * r ≤ 16 := by
  obtain ⟨h1, ⟨h2, h3⟩, _⟩ := linkB_t.1 h
  rcases h1 with rfl | rfl | rfl <;> omega

/-! ### Mix and its callers -/

/-! ### NextScramble -/

/-! ### PacketLength, SymbolsFor -/
end Go.Proofs.YtnagphedlmbagaaDoor
