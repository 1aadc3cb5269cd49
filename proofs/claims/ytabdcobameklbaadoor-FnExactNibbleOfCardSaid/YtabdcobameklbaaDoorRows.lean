/-
  NARROWER THAN 'FOR EVERY INPUT', by the rows' own cells (each row's printed sentence says how): FnExactSymbolOf: laid · FnExactNibbleOf: laid.
  DERIVED. THE GIVEN ROWS OF THIS SEAT. 2 by the template 'for every input the law returns true; each argument reads behind the call as it read before'; 0 by the template 'total and deterministic' (their statements: YtabdcobameklbaaDoorTotals.lean).
  GIVEN WITH THE SEED: the statements are not yours to turn. If you find one false, say at which input.
  Laid BY PROGRAM, IN A SANDBOX (cutbox-rows.mjs): the forced cells as the released guide's own fill.sh prints them over the translation 61cc4c8ce275fe27… (all of the seat's roots in one cut). By AI agents, Wed Nov 11 2026. No macro, syntax, notation, axiom, sorry.
-/
import Derived.Test.YtabdcobameklbaaDoorChecked
import GoSem.Claim
import GoSem.ClaimJoined
import GoSem.ClaimMapViews
import Derived.JoinedTies
import Derived.KernelRfl
namespace Go.Proofs.YtabdcobameklbaaDoor
/- THE CELL 'sum', in the pinned program and in every row, IS THE sha256 OF THE DUMP (.gsa) THAT YtabdcobameklbaaDoorProg.lean LOADS. Nothing in Lean hashes anything: it is a label: what it is worth is what the hold of that sum in a sandbox is worth. -/
noncomputable def Tryd.pinned : Pinned := { name := "ytabdcobameklbaadoor", sum := "61cc4c8ce275fe2791a001f187f6435ea2b699cfe2d908ee41645136feed86e5", checked := Tryd.checked }
namespace Rows
def none {H : Type} : Left H := { results := [], args := [] }

/- WHAT THE LISTED PACKAGE-LEVEL VARIABLES READ AS WHEN THE CALL BEGINS. Each datum BY PROGRAM (the guide's laid-datum.mjs) off the statement by which the dump's own 'gosem.cut.vars' lays the variable. In a bare row this is a premise. The card (YtabdcobameklbaaDoorCards.lean) ties it to the program's text. -/
def laid_loop_example_g03313_impl_nibbleSymbols {H : Type} : DataW H := .agg [.lit (.int .i64 30), .lit (.int .i64 9), .lit (.int .i64 20), .lit (.int .i64 21), .lit (.int .i64 10), .lit (.int .i64 11), .lit (.int .i64 14), .lit (.int .i64 15), .lit (.int .i64 18), .lit (.int .i64 19), .lit (.int .i64 22), .lit (.int .i64 23), .lit (.int .i64 26), .lit (.int .i64 27), .lit (.int .i64 28), .lit (.int .i64 29)]

/-- 'laws.FnExactSymbolOf': WHATEVER THE INPUT: true; the input reads as it did. -/
def fnExactSymbolOfSpec : ChangeSpec := { name := "fnExactSymbolOf", vars := ["loop.example/g03313/impl.nibbleSymbols"], fn := fun _ => fun
  | [d, g1] => { results := [.lit (.bool true)], args := [d], vars := [g1] }
  | _ => none }
def fnExactSymbolOfRow : OpenClaim := { program := "ytabdcobameklbaadoor", sum := "61cc4c8ce275fe2791a001f187f6435ea2b699cfe2d908ee41645136feed86e5", func := "loop.example/g03313/laws.FnExactSymbolOf", spec := "fnExactSymbolOf", named := ["loop.example/g03313/impl.nibbleSymbols"], apart := false, laid := [("loop.example/g03313/impl.nibbleSymbols", laid_loop_example_g03313_impl_nibbleSymbols)] }
def FnExactSymbolOfSaid : Prop := fnExactSymbolOfRow.holds Tryd.pinned (OpenSpec.ofChange fnExactSymbolOfSpec)

/-- ITS FALSE NEIGHBOUR: 'it returns false'. Refute it at one input. -/
def fnExactSymbolOfWrong : ChangeSpec := { name := "fnExactSymbolOf", vars := ["loop.example/g03313/impl.nibbleSymbols"], fn := fun _ => fun
  | [d, g1] => { results := [.lit (.bool false)], args := [d], vars := [g1] }
  | _ => none }
def FnExactSymbolOfWrongFalsely : Prop := fnExactSymbolOfRow.holds Tryd.pinned (OpenSpec.ofChange fnExactSymbolOfWrong)

/-- 'laws.FnExactNibbleOf': WHATEVER THE INPUT: true; the input reads as it did. -/
def fnExactNibbleOfSpec : ChangeSpec := { name := "fnExactNibbleOf", vars := ["loop.example/g03313/impl.nibbleSymbols"], fn := fun _ => fun
  | [d, g1] => { results := [.lit (.bool true)], args := [d], vars := [g1] }
  | _ => none }
def fnExactNibbleOfRow : OpenClaim := { program := "ytabdcobameklbaadoor", sum := "61cc4c8ce275fe2791a001f187f6435ea2b699cfe2d908ee41645136feed86e5", func := "loop.example/g03313/laws.FnExactNibbleOf", spec := "fnExactNibbleOf", named := ["loop.example/g03313/impl.nibbleSymbols"], apart := false, laid := [("loop.example/g03313/impl.nibbleSymbols", laid_loop_example_g03313_impl_nibbleSymbols)] }
def FnExactNibbleOfSaid : Prop := fnExactNibbleOfRow.holds Tryd.pinned (OpenSpec.ofChange fnExactNibbleOfSpec)

/-- ITS FALSE NEIGHBOUR: 'it returns false'. Refute it at one input. -/
def fnExactNibbleOfWrong : ChangeSpec := { name := "fnExactNibbleOf", vars := ["loop.example/g03313/impl.nibbleSymbols"], fn := fun _ => fun
  | [d, g1] => { results := [.lit (.bool false)], args := [d], vars := [g1] }
  | _ => none }
def FnExactNibbleOfWrongFalsely : Prop := fnExactNibbleOfRow.holds Tryd.pinned (OpenSpec.ofChange fnExactNibbleOfWrong)

/- THE SECOND FORM. 'bulk': how many values and letters a reading holds, each counted each time it is reached (what is shared counts as often as it is met; a slice's spare places count too). A statement '..UptoSaid' is the law's where the arguments, and the package variables that the reading takes, are together of bulk at most 1048576: NARROWER than '..Said'. Prove '..Said' where nothing that the law and all that it calls make is longer than what came in: it says more and counts as full. Else prove '..UptoSaid'. A law counts once. -/
mutual
def uptoBulk {H : Type} : DataW H → Nat
  | .lit (.string bytes) => bytes.length + 1
  | .lit _ => 1
  | .nil => 1
  | .ptr d => uptoBulk d + 1
  | .slice elems spare => uptoBulkAll elems + uptoBulkAll spare + 1
  | .agg parts => uptoBulkAll parts + 1
  | .iface _ d => uptoBulk d + 1
  | .map entries => uptoBulkEntries entries + 1
  | .held _ => 1
def uptoBulkAll {H : Type} : List (DataW H) → Nat
  | [] => 0
  | d :: r => uptoBulk d + uptoBulkAll r
def uptoBulkEntries {H : Type} : List (Lit × DataW H) → Nat
  | [] => 0
  | x :: r => uptoBulkEntry x + uptoBulkEntries r
def uptoBulkEntry {H : Type} : Lit × DataW H → Nat
  | (.string bytes, d) => bytes.length + uptoBulk d + 1
  | (_, d) => uptoBulk d + 1
 end
def uptoSmall : (H : Type) → List (DataW H) → Bool := fun _ ds => decide (uptoBulkAll ds ≤ 1048576)
def OpenSpec.upto (s : _root_.Go.ChangeSpec) : _root_.Go.OpenSpec := { _root_.Go.OpenSpec.ofChange s with cond := some uptoSmall }

/-- 'laws.FnExactSymbolOf', WHERE WHAT IT READS IS OF BULK AT MOST 1048576: true; the input reads as it did. -/
def fnExactSymbolOfUptoRow : OpenClaim := { program := "ytabdcobameklbaadoor", sum := "61cc4c8ce275fe2791a001f187f6435ea2b699cfe2d908ee41645136feed86e5", func := "loop.example/g03313/laws.FnExactSymbolOf", spec := "fnExactSymbolOf", named := ["loop.example/g03313/impl.nibbleSymbols"], apart := false, laid := [("loop.example/g03313/impl.nibbleSymbols", laid_loop_example_g03313_impl_nibbleSymbols)], narrowed := true }
def FnExactSymbolOfUptoSaid : Prop := fnExactSymbolOfUptoRow.holds Tryd.pinned (OpenSpec.upto fnExactSymbolOfSpec)

/-- 'laws.FnExactNibbleOf', WHERE WHAT IT READS IS OF BULK AT MOST 1048576: true; the input reads as it did. -/
def fnExactNibbleOfUptoRow : OpenClaim := { program := "ytabdcobameklbaadoor", sum := "61cc4c8ce275fe2791a001f187f6435ea2b699cfe2d908ee41645136feed86e5", func := "loop.example/g03313/laws.FnExactNibbleOf", spec := "fnExactNibbleOf", named := ["loop.example/g03313/impl.nibbleSymbols"], apart := false, laid := [("loop.example/g03313/impl.nibbleSymbols", laid_loop_example_g03313_impl_nibbleSymbols)], narrowed := true }
def FnExactNibbleOfUptoSaid : Prop := fnExactNibbleOfUptoRow.holds Tryd.pinned (OpenSpec.upto fnExactNibbleOfSpec)

end Rows
end Go.Proofs.YtabdcobameklbaaDoor
