/-
  NARROWER THAN 'FOR EVERY INPUT', by the rows' own cells (each row's printed sentence says how): FnExactSymbolsOf: laid · FnExactNibblesOf: laid · FnSymbols: laid.
  DERIVED. THE GIVEN ROWS OF THIS SEAT. 3 by the template 'for every input the law returns true; each argument reads behind the call as it read before'; 0 by the template 'total and deterministic' (their statements: YtnagphedlmbagaaDoorTotals.lean).
  GIVEN WITH THE SEED: the statements are not yours to turn. If you find one false, say at which input.
  Laid BY PROGRAM, IN A SANDBOX (cutbox-rows.mjs): the forced cells as the released guide's own fill.sh prints them over the translation ef70327155214b4f… (all of the seat's roots in one cut). By AI agents, Wed Nov 11 2026. No macro, syntax, notation, axiom, sorry.
-/
import Derived.Test.YtnagphedlmbagaaDoorChecked
import GoSem.Claim
import GoSem.ClaimJoined
import GoSem.ClaimMapViews
import Derived.JoinedTies
import Derived.KernelRfl
namespace Go.Proofs.YtnagphedlmbagaaDoor
/- THE CELL 'sum', in the pinned program and in every row, IS THE sha256 OF THE DUMP (.gsa) THAT YtnagphedlmbagaaDoorProg.lean LOADS. Nothing in Lean hashes anything: it is a label: what it is worth is what the hold of that sum in a sandbox is worth. -/
noncomputable def Tryd.pinned : Pinned := { name := "ytnagphedlmbagaadoor", sum := "ef70327155214b4f99fadab505e121d39189edb4ac5664e9a5bc92d928a85ea4", checked := Tryd.checked }
namespace Rows
def none {H : Type} : Left H := { results := [], args := [] }

/- WHAT THE LISTED PACKAGE-LEVEL VARIABLES READ AS WHEN THE CALL BEGINS. Each datum BY PROGRAM (the guide's laid-datum.mjs) off the statement by which the dump's own 'gosem.cut.vars' lays the variable. In a bare row this is a premise. The card (YtnagphedlmbagaaDoorCards.lean) ties it to the program's text. -/
def laid_loop_example_g03313_impl_nibbleSymbols {H : Type} : DataW H := .agg [.lit (.int .i64 30), .lit (.int .i64 9), .lit (.int .i64 20), .lit (.int .i64 21), .lit (.int .i64 10), .lit (.int .i64 11), .lit (.int .i64 14), .lit (.int .i64 15), .lit (.int .i64 18), .lit (.int .i64 19), .lit (.int .i64 22), .lit (.int .i64 23), .lit (.int .i64 26), .lit (.int .i64 27), .lit (.int .i64 28), .lit (.int .i64 29)]

/-- 'laws.FnExactSymbolsOf': WHATEVER THE INPUT: true; the input reads as it did. -/
def fnExactSymbolsOfSpec : ChangeSpec := { name := "fnExactSymbolsOf", vars := ["loop.example/g03313/impl.nibbleSymbols"], fn := fun _ => fun
  | [d, g1] => { results := [.lit (.bool true)], args := [d], vars := [g1] }
  | _ => none }
def fnExactSymbolsOfRow : OpenClaim := { program := "ytnagphedlmbagaadoor", sum := "ef70327155214b4f99fadab505e121d39189edb4ac5664e9a5bc92d928a85ea4", func := "loop.example/g03313/laws.FnExactSymbolsOf", spec := "fnExactSymbolsOf", named := ["loop.example/g03313/impl.nibbleSymbols"], apart := false, laid := [("loop.example/g03313/impl.nibbleSymbols", laid_loop_example_g03313_impl_nibbleSymbols)] }
def FnExactSymbolsOfSaid : Prop := fnExactSymbolsOfRow.holds Tryd.pinned (OpenSpec.ofChange fnExactSymbolsOfSpec)

/-- ITS FALSE NEIGHBOUR: 'it returns false'. Refute it at one input. -/
def fnExactSymbolsOfWrong : ChangeSpec := { name := "fnExactSymbolsOf", vars := ["loop.example/g03313/impl.nibbleSymbols"], fn := fun _ => fun
  | [d, g1] => { results := [.lit (.bool false)], args := [d], vars := [g1] }
  | _ => none }
def FnExactSymbolsOfWrongFalsely : Prop := fnExactSymbolsOfRow.holds Tryd.pinned (OpenSpec.ofChange fnExactSymbolsOfWrong)

/-- 'laws.FnExactNibblesOf': WHATEVER THE INPUT: true; the input reads as it did. -/
def fnExactNibblesOfSpec : ChangeSpec := { name := "fnExactNibblesOf", vars := ["loop.example/g03313/impl.nibbleSymbols"], fn := fun _ => fun
  | [d, g1] => { results := [.lit (.bool true)], args := [d], vars := [g1] }
  | _ => none }
def fnExactNibblesOfRow : OpenClaim := { program := "ytnagphedlmbagaadoor", sum := "ef70327155214b4f99fadab505e121d39189edb4ac5664e9a5bc92d928a85ea4", func := "loop.example/g03313/laws.FnExactNibblesOf", spec := "fnExactNibblesOf", named := ["loop.example/g03313/impl.nibbleSymbols"], apart := false, laid := [("loop.example/g03313/impl.nibbleSymbols", laid_loop_example_g03313_impl_nibbleSymbols)] }
def FnExactNibblesOfSaid : Prop := fnExactNibblesOfRow.holds Tryd.pinned (OpenSpec.ofChange fnExactNibblesOfSpec)

/-- ITS FALSE NEIGHBOUR: 'it returns false'. Refute it at one input. -/
def fnExactNibblesOfWrong : ChangeSpec := { name := "fnExactNibblesOf", vars := ["loop.example/g03313/impl.nibbleSymbols"], fn := fun _ => fun
  | [d, g1] => { results := [.lit (.bool false)], args := [d], vars := [g1] }
  | _ => none }
def FnExactNibblesOfWrongFalsely : Prop := fnExactNibblesOfRow.holds Tryd.pinned (OpenSpec.ofChange fnExactNibblesOfWrong)

/-- 'laws.FnSymbols': WHATEVER THE INPUT: true; the input reads as it did. -/
def fnSymbolsSpec : ChangeSpec := { name := "fnSymbols", vars := ["loop.example/g03313/impl.nibbleSymbols"], fn := fun _ => fun
  | [d, g1] => { results := [.lit (.bool true)], args := [d], vars := [g1] }
  | _ => none }
def fnSymbolsRow : OpenClaim := { program := "ytnagphedlmbagaadoor", sum := "ef70327155214b4f99fadab505e121d39189edb4ac5664e9a5bc92d928a85ea4", func := "loop.example/g03313/laws.FnSymbols", spec := "fnSymbols", unfollowed := true, recurses := true, named := ["loop.example/g03313/impl.nibbleSymbols"], apart := false, laid := [("loop.example/g03313/impl.nibbleSymbols", laid_loop_example_g03313_impl_nibbleSymbols)] }
def FnSymbolsSaid : Prop := fnSymbolsRow.holds Tryd.pinned (OpenSpec.ofChange fnSymbolsSpec)

/-- ITS FALSE NEIGHBOUR: 'it returns false'. Refute it at one input. -/
def fnSymbolsWrong : ChangeSpec := { name := "fnSymbols", vars := ["loop.example/g03313/impl.nibbleSymbols"], fn := fun _ => fun
  | [d, g1] => { results := [.lit (.bool false)], args := [d], vars := [g1] }
  | _ => none }
def FnSymbolsWrongFalsely : Prop := fnSymbolsRow.holds Tryd.pinned (OpenSpec.ofChange fnSymbolsWrong)

/- THE SECOND FORM. 'bulk': how many values and letters a reading holds, each counted each time it is reached (what is shared counts as often as it is met; a slice's spare places count too). A statement '..UptoSaid' is the law's where the arguments, and the package variables that the reading takes, are together of bulk at most 1048576: NARROWER than '..Said'. Prove '..Said' where nothing that the law and all that it calls make is longer than what came in: it says more and counts as full. Else prove '..UptoSaid'. A law counts once. -/
mutual
def uptoBulk {H : Type} : DataW H → Nat
  | .lit (.string bytes) => bytes.length + 1
  | .lit _ => 1
  | .nil => 1
  | .ptr d => uptoBulk d + 1
  | .slice elems spare => uptoBulkAll elems + uptoBulkAll spare + 1
  | .agg parts => uptoBulkAll parts + 1
  | .iface _ d => uptoBulk d + 1
  | .map entries => uptoBulkEntries entries + 1
  | .held _ => 1
def uptoBulkAll {H : Type} : List (DataW H) → Nat
  | [] => 0
  | d :: r => uptoBulk d + uptoBulkAll r
def uptoBulkEntries {H : Type} : List (Lit × DataW H) → Nat
  | [] => 0
  | x :: r => uptoBulkEntry x + uptoBulkEntries r
def uptoBulkEntry {H : Type} : Lit × DataW H → Nat
  | (.string bytes, d) => bytes.length + uptoBulk d + 1
  | (_, d) => uptoBulk d + 1
 end
def uptoSmall : (H : Type) → List (DataW H) → Bool := fun _ ds => decide (uptoBulkAll ds ≤ 1048576)
def OpenSpec.upto (s : _root_.Go.ChangeSpec) : _root_.Go.OpenSpec := { _root_.Go.OpenSpec.ofChange s with cond := some uptoSmall }

/-- 'laws.FnExactSymbolsOf', WHERE WHAT IT READS IS OF BULK AT MOST 1048576: true; the input reads as it did. -/
def fnExactSymbolsOfUptoRow : OpenClaim := { program := "ytnagphedlmbagaadoor", sum := "ef70327155214b4f99fadab505e121d39189edb4ac5664e9a5bc92d928a85ea4", func := "loop.example/g03313/laws.FnExactSymbolsOf", spec := "fnExactSymbolsOf", named := ["loop.example/g03313/impl.nibbleSymbols"], apart := false, laid := [("loop.example/g03313/impl.nibbleSymbols", laid_loop_example_g03313_impl_nibbleSymbols)], narrowed := true }
def FnExactSymbolsOfUptoSaid : Prop := fnExactSymbolsOfUptoRow.holds Tryd.pinned (OpenSpec.upto fnExactSymbolsOfSpec)

/-- 'laws.FnExactNibblesOf', WHERE WHAT IT READS IS OF BULK AT MOST 1048576: true; the input reads as it did. -/
def fnExactNibblesOfUptoRow : OpenClaim := { program := "ytnagphedlmbagaadoor", sum := "ef70327155214b4f99fadab505e121d39189edb4ac5664e9a5bc92d928a85ea4", func := "loop.example/g03313/laws.FnExactNibblesOf", spec := "fnExactNibblesOf", named := ["loop.example/g03313/impl.nibbleSymbols"], apart := false, laid := [("loop.example/g03313/impl.nibbleSymbols", laid_loop_example_g03313_impl_nibbleSymbols)], narrowed := true }
def FnExactNibblesOfUptoSaid : Prop := fnExactNibblesOfUptoRow.holds Tryd.pinned (OpenSpec.upto fnExactNibblesOfSpec)

/-- 'laws.FnSymbols', WHERE WHAT IT READS IS OF BULK AT MOST 1048576: true; the input reads as it did. -/
def fnSymbolsUptoRow : OpenClaim := { program := "ytnagphedlmbagaadoor", sum := "ef70327155214b4f99fadab505e121d39189edb4ac5664e9a5bc92d928a85ea4", func := "loop.example/g03313/laws.FnSymbols", spec := "fnSymbols", unfollowed := true, recurses := true, named := ["loop.example/g03313/impl.nibbleSymbols"], apart := false, laid := [("loop.example/g03313/impl.nibbleSymbols", laid_loop_example_g03313_impl_nibbleSymbols)], narrowed := true }
def FnSymbolsUptoSaid : Prop := fnSymbolsUptoRow.holds Tryd.pinned (OpenSpec.upto fnSymbolsSpec)

end Rows
end Go.Proofs.YtnagphedlmbagaaDoor
