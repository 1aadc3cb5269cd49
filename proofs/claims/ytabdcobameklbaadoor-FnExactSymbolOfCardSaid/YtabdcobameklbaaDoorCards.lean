/-
  DERIVED. GIVEN WITH THE SEED: THE CARDS: each row of YtabdcobameklbaaDoorRows.lean that lists a variable, with what it lists TIED to the program's text (the seventh form; the later family's looks); each row that meets fmt, with fmt's text TOLD by the authors' own Lean function (tested against real Go, not proved from fmt's source: count such statements apart). THE CARD IS WHAT COUNTS. Prove the row's statement (the work); the ties are given (YtabdcobameklbaaDoorTie.lean); close each card by the builder's one call (the guide's Derived/Test/ToyasCard.lean, 'card_holds'). Laid BY PROGRAM, IN A SANDBOX (cutbox-door.mjs). By AI agents, Wed Nov 11 2026. No macro, syntax, notation, axiom, sorry.
-/
import Derived.Test.YtabdcobameklbaaDoorRows
import GoSem.ClaimSeven
namespace Go.Proofs.YtabdcobameklbaaDoor
namespace Rows

/-- THE TIED CARD OF 'laws.FnExactSymbolOf'. -/
def fnExactSymbolOfCard : Claim7 := { stood := { row := fnExactSymbolOfRow, standIns := [], harness := (true, "5ee8ed83273c788ff091ae900d4d421331780e3b97ddee802665908d7f35fab2"), looks := false }, kinds := [], alts := [], laidByText := true, laidKinds := [.data], laidTests := true, laidLooks := .later }
def FnExactSymbolOfCardSaid : Prop := Claim7.holds Tryd.pinned (.plain (OpenSpec.ofChange fnExactSymbolOfSpec)) fnExactSymbolOfCard

/-- THE TIED CARD OF 'laws.FnExactNibbleOf'. -/
def fnExactNibbleOfCard : Claim7 := { stood := { row := fnExactNibbleOfRow, standIns := [], harness := (true, "5ee8ed83273c788ff091ae900d4d421331780e3b97ddee802665908d7f35fab2"), looks := false }, kinds := [], alts := [], laidByText := true, laidKinds := [.data], laidTests := true, laidLooks := .later }
def FnExactNibbleOfCardSaid : Prop := Claim7.holds Tryd.pinned (.plain (OpenSpec.ofChange fnExactNibbleOfSpec)) fnExactNibbleOfCard

/-- THE SECOND FORM's CARD OF 'laws.FnExactSymbolOf'. -/
def fnExactSymbolOfUptoCard : Claim7 := { stood := { row := fnExactSymbolOfUptoRow, standIns := [], harness := (true, "5ee8ed83273c788ff091ae900d4d421331780e3b97ddee802665908d7f35fab2"), looks := false }, kinds := [], alts := [], laidByText := true, laidKinds := [.data], laidTests := true, laidLooks := .later }
def FnExactSymbolOfUptoCardSaid : Prop := Claim7.holds Tryd.pinned (.plain (OpenSpec.upto fnExactSymbolOfSpec)) fnExactSymbolOfUptoCard

/-- THE SECOND FORM's CARD OF 'laws.FnExactNibbleOf'. -/
def fnExactNibbleOfUptoCard : Claim7 := { stood := { row := fnExactNibbleOfUptoRow, standIns := [], harness := (true, "5ee8ed83273c788ff091ae900d4d421331780e3b97ddee802665908d7f35fab2"), looks := false }, kinds := [], alts := [], laidByText := true, laidKinds := [.data], laidTests := true, laidLooks := .later }
def FnExactNibbleOfUptoCardSaid : Prop := Claim7.holds Tryd.pinned (.plain (OpenSpec.upto fnExactNibbleOfSpec)) fnExactNibbleOfUptoCard
end Rows
end Go.Proofs.YtabdcobameklbaaDoor
