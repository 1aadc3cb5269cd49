/-
  DERIVED. GIVEN WITH THE SEED: THE CARDS: each row of YtnagphedlmbagaaDoorRows.lean that lists a variable, with what it lists TIED to the program's text (the seventh form; the later family's looks); each row that meets fmt, with fmt's text TOLD by the authors' own Lean function (tested against real Go, not proved from fmt's source: count such statements apart). THE CARD IS WHAT COUNTS. Prove the row's statement (the work); the ties are given (YtnagphedlmbagaaDoorTie.lean); close each card by the builder's one call (the guide's Derived/Test/ToyasCard.lean, 'card_holds'). Laid BY PROGRAM, IN A SANDBOX (cutbox-door.mjs). By AI agents, Wed Nov 11 2026. No macro, syntax, notation, axiom, sorry.
-/
import Derived.Test.YtnagphedlmbagaaDoorRows
import GoSem.ClaimSeven
namespace Go.Proofs.YtnagphedlmbagaaDoor
namespace Rows

/-- THE TIED CARD OF 'laws.FnExactSymbolsOf'. -/
def fnExactSymbolsOfCard : Claim7 := { stood := { row := fnExactSymbolsOfRow, standIns := [], harness := (true, "a8b7a3467cb04ff0fac6c384743972d39e83d4f0d0422d04eab6d83a55fb9bb7"), looks := false }, kinds := [], alts := [], laidByText := true, laidKinds := [.data], laidTests := true, laidLooks := .later }
def FnExactSymbolsOfCardSaid : Prop := Claim7.holds Tryd.pinned (.plain (OpenSpec.ofChange fnExactSymbolsOfSpec)) fnExactSymbolsOfCard

/-- THE TIED CARD OF 'laws.FnExactNibblesOf'. -/
def fnExactNibblesOfCard : Claim7 := { stood := { row := fnExactNibblesOfRow, standIns := [], harness := (true, "a8b7a3467cb04ff0fac6c384743972d39e83d4f0d0422d04eab6d83a55fb9bb7"), looks := false }, kinds := [], alts := [], laidByText := true, laidKinds := [.data], laidTests := true, laidLooks := .later }
def FnExactNibblesOfCardSaid : Prop := Claim7.holds Tryd.pinned (.plain (OpenSpec.ofChange fnExactNibblesOfSpec)) fnExactNibblesOfCard

/-- THE TIED CARD OF 'laws.FnSymbols'. -/
def fnSymbolsCard : Claim7 := { stood := { row := fnSymbolsRow, standIns := [], harness := (true, "a8b7a3467cb04ff0fac6c384743972d39e83d4f0d0422d04eab6d83a55fb9bb7"), looks := false }, kinds := [], alts := [], laidByText := true, laidKinds := [.data], laidTests := true, laidLooks := .later }
def FnSymbolsCardSaid : Prop := Claim7.holds Tryd.pinned (.plain (OpenSpec.ofChange fnSymbolsSpec)) fnSymbolsCard

/-- THE SECOND FORM's CARD OF 'laws.FnExactSymbolsOf'. -/
def fnExactSymbolsOfUptoCard : Claim7 := { stood := { row := fnExactSymbolsOfUptoRow, standIns := [], harness := (true, "a8b7a3467cb04ff0fac6c384743972d39e83d4f0d0422d04eab6d83a55fb9bb7"), looks := false }, kinds := [], alts := [], laidByText := true, laidKinds := [.data], laidTests := true, laidLooks := .later }
def FnExactSymbolsOfUptoCardSaid : Prop := Claim7.holds Tryd.pinned (.plain (OpenSpec.upto fnExactSymbolsOfSpec)) fnExactSymbolsOfUptoCard

/-- THE SECOND FORM's CARD OF 'laws.FnExactNibblesOf'. -/
def fnExactNibblesOfUptoCard : Claim7 := { stood := { row := fnExactNibblesOfUptoRow, standIns := [], harness := (true, "a8b7a3467cb04ff0fac6c384743972d39e83d4f0d0422d04eab6d83a55fb9bb7"), looks := false }, kinds := [], alts := [], laidByText := true, laidKinds := [.data], laidTests := true, laidLooks := .later }
def FnExactNibblesOfUptoCardSaid : Prop := Claim7.holds Tryd.pinned (.plain (OpenSpec.upto fnExactNibblesOfSpec)) fnExactNibblesOfUptoCard

/-- THE SECOND FORM's CARD OF 'laws.FnSymbols'. -/
def fnSymbolsUptoCard : Claim7 := { stood := { row := fnSymbolsUptoRow, standIns := [], harness := (true, "a8b7a3467cb04ff0fac6c384743972d39e83d4f0d0422d04eab6d83a55fb9bb7"), looks := false }, kinds := [], alts := [], laidByText := true, laidKinds := [.data], laidTests := true, laidLooks := .later }
def FnSymbolsUptoCardSaid : Prop := Claim7.holds Tryd.pinned (.plain (OpenSpec.upto fnSymbolsSpec)) fnSymbolsUptoCard
end Rows
end Go.Proofs.YtnagphedlmbagaaDoor
