/-
  No cell of these rows narrows 'for every input' (looked for: loops, veiled, ifaces, maps, wideKeys, modest, calm, conditions, laid).
  DERIVED. THE GIVEN ROWS OF THIS SEAT. 10 by the template 'for every input the law returns true; each argument reads behind the call as it read before'; 0 by the template 'total and deterministic' (their statements: YtabdcobameklbaaTotals.lean).
  GIVEN WITH THE SEED: the statements are not yours to turn. If you find one false, say at which input.
  Laid BY PROGRAM, IN A SANDBOX (cutbox-rows.mjs): the forced cells as the released guide's own fill.sh prints them over the translation 09a7a7b4e83e4708… (all of the seat's roots in one cut). By AI agents, Wed Nov 11 2026. No macro, syntax, notation, axiom, sorry.
-/
import Derived.Test.YtabdcobameklbaaChecked
import GoSem.Claim
import GoSem.ClaimJoined
import GoSem.ClaimMapViews
import Derived.JoinedTies
import Derived.KernelRfl
namespace Go.Proofs.Ytabdcobameklbaa
/- THE CELL 'sum', in the pinned program and in every row, IS THE sha256 OF THE DUMP (.gsa) THAT YtabdcobameklbaaProg.lean LOADS. Nothing in Lean hashes anything: it is a label: what it is worth is what the hold of that sum in a sandbox is worth. -/
noncomputable def Try.pinned : Pinned := { name := "ytabdcobameklbaa", sum := "09a7a7b4e83e4708fb4a8113e8b7ddf35663aa3b68d78938ca8f104126f2673f", checked := Try.checked }
namespace Rows
def none {H : Type} : Left H := { results := [], args := [] }

/-- 'laws.FnExactLaneCountOk': WHATEVER THE INPUT: true; the input reads as it did. -/
def fnExactLaneCountOkSpec : ChangeSpec := { name := "fnExactLaneCountOk", fn := fun _ => fun
  | [d] => { results := [.lit (.bool true)], args := [d] }
  | _ => none }
def fnExactLaneCountOkRow : OpenClaim := { program := "ytabdcobameklbaa", sum := "09a7a7b4e83e4708fb4a8113e8b7ddf35663aa3b68d78938ca8f104126f2673f", func := "loop.example/g03313/laws.FnExactLaneCountOk", spec := "fnExactLaneCountOk", apart := false }
def FnExactLaneCountOkSaid : Prop := fnExactLaneCountOkRow.holds Try.pinned (OpenSpec.ofChange fnExactLaneCountOkSpec)

/-- ITS FALSE NEIGHBOUR: 'it returns false'. Refute it at one input. -/
def fnExactLaneCountOkWrong : ChangeSpec := { name := "fnExactLaneCountOk", fn := fun _ => fun
  | [d] => { results := [.lit (.bool false)], args := [d] }
  | _ => none }
def FnExactLaneCountOkWrongFalsely : Prop := fnExactLaneCountOkRow.holds Try.pinned (OpenSpec.ofChange fnExactLaneCountOkWrong)

/-- 'laws.FnExactFieldSum': WHATEVER THE INPUT: true; the input reads as it did. -/
def fnExactFieldSumSpec : ChangeSpec := { name := "fnExactFieldSum", fn := fun _ => fun
  | [d1, d2] => { results := [.lit (.bool true)], args := [d1, d2] }
  | _ => none }
def fnExactFieldSumRow : OpenClaim := { program := "ytabdcobameklbaa", sum := "09a7a7b4e83e4708fb4a8113e8b7ddf35663aa3b68d78938ca8f104126f2673f", func := "loop.example/g03313/laws.FnExactFieldSum", spec := "fnExactFieldSum", apart := false }
def FnExactFieldSumSaid : Prop := fnExactFieldSumRow.holds Try.pinned (OpenSpec.ofChange fnExactFieldSumSpec)

/-- ITS FALSE NEIGHBOUR: 'it returns false'. Refute it at one input. -/
def fnExactFieldSumWrong : ChangeSpec := { name := "fnExactFieldSum", fn := fun _ => fun
  | [d1, d2] => { results := [.lit (.bool false)], args := [d1, d2] }
  | _ => none }
def FnExactFieldSumWrongFalsely : Prop := fnExactFieldSumRow.holds Try.pinned (OpenSpec.ofChange fnExactFieldSumWrong)

/-- 'laws.FnExactMix': WHATEVER THE INPUT: true; the input reads as it did. -/
def fnExactMixSpec : ChangeSpec := { name := "fnExactMix", fn := fun _ => fun
  | [d] => { results := [.lit (.bool true)], args := [d] }
  | _ => none }
def fnExactMixRow : OpenClaim := { program := "ytabdcobameklbaa", sum := "09a7a7b4e83e4708fb4a8113e8b7ddf35663aa3b68d78938ca8f104126f2673f", func := "loop.example/g03313/laws.FnExactMix", spec := "fnExactMix", apart := false }
def FnExactMixSaid : Prop := fnExactMixRow.holds Try.pinned (OpenSpec.ofChange fnExactMixSpec)

/-- ITS FALSE NEIGHBOUR: 'it returns false'. Refute it at one input. -/
def fnExactMixWrong : ChangeSpec := { name := "fnExactMix", fn := fun _ => fun
  | [d] => { results := [.lit (.bool false)], args := [d] }
  | _ => none }
def FnExactMixWrongFalsely : Prop := fnExactMixRow.holds Try.pinned (OpenSpec.ofChange fnExactMixWrong)

/-- 'laws.FnExactLinkOk': WHATEVER THE INPUT: true; the input reads as it did. -/
def fnExactLinkOkSpec : ChangeSpec := { name := "fnExactLinkOk", fn := fun _ => fun
  | [d] => { results := [.lit (.bool true)], args := [d] }
  | _ => none }
def fnExactLinkOkRow : OpenClaim := { program := "ytabdcobameklbaa", sum := "09a7a7b4e83e4708fb4a8113e8b7ddf35663aa3b68d78938ca8f104126f2673f", func := "loop.example/g03313/laws.FnExactLinkOk", spec := "fnExactLinkOk", apart := false }
def FnExactLinkOkSaid : Prop := fnExactLinkOkRow.holds Try.pinned (OpenSpec.ofChange fnExactLinkOkSpec)

/-- ITS FALSE NEIGHBOUR: 'it returns false'. Refute it at one input. -/
def fnExactLinkOkWrong : ChangeSpec := { name := "fnExactLinkOk", fn := fun _ => fun
  | [d] => { results := [.lit (.bool false)], args := [d] }
  | _ => none }
def FnExactLinkOkWrongFalsely : Prop := fnExactLinkOkRow.holds Try.pinned (OpenSpec.ofChange fnExactLinkOkWrong)

/-- 'laws.FnExactAnswerOf': WHATEVER THE INPUT: true; the input reads as it did. -/
def fnExactAnswerOfSpec : ChangeSpec := { name := "fnExactAnswerOf", fn := fun _ => fun
  | [d1, d2] => { results := [.lit (.bool true)], args := [d1, d2] }
  | _ => none }
def fnExactAnswerOfRow : OpenClaim := { program := "ytabdcobameklbaa", sum := "09a7a7b4e83e4708fb4a8113e8b7ddf35663aa3b68d78938ca8f104126f2673f", func := "loop.example/g03313/laws.FnExactAnswerOf", spec := "fnExactAnswerOf", apart := false }
def FnExactAnswerOfSaid : Prop := fnExactAnswerOfRow.holds Try.pinned (OpenSpec.ofChange fnExactAnswerOfSpec)

/-- ITS FALSE NEIGHBOUR: 'it returns false'. Refute it at one input. -/
def fnExactAnswerOfWrong : ChangeSpec := { name := "fnExactAnswerOf", fn := fun _ => fun
  | [d1, d2] => { results := [.lit (.bool false)], args := [d1, d2] }
  | _ => none }
def FnExactAnswerOfWrongFalsely : Prop := fnExactAnswerOfRow.holds Try.pinned (OpenSpec.ofChange fnExactAnswerOfWrong)

/-- 'laws.FnExactSessionKey': WHATEVER THE INPUT: true; the input reads as it did. -/
def fnExactSessionKeySpec : ChangeSpec := { name := "fnExactSessionKey", fn := fun _ => fun
  | [d1, d2] => { results := [.lit (.bool true)], args := [d1, d2] }
  | _ => none }
def fnExactSessionKeyRow : OpenClaim := { program := "ytabdcobameklbaa", sum := "09a7a7b4e83e4708fb4a8113e8b7ddf35663aa3b68d78938ca8f104126f2673f", func := "loop.example/g03313/laws.FnExactSessionKey", spec := "fnExactSessionKey", apart := false }
def FnExactSessionKeySaid : Prop := fnExactSessionKeyRow.holds Try.pinned (OpenSpec.ofChange fnExactSessionKeySpec)

/-- ITS FALSE NEIGHBOUR: 'it returns false'. Refute it at one input. -/
def fnExactSessionKeyWrong : ChangeSpec := { name := "fnExactSessionKey", fn := fun _ => fun
  | [d1, d2] => { results := [.lit (.bool false)], args := [d1, d2] }
  | _ => none }
def FnExactSessionKeyWrongFalsely : Prop := fnExactSessionKeyRow.holds Try.pinned (OpenSpec.ofChange fnExactSessionKeyWrong)

/-- 'laws.FnExactCipherNibble': WHATEVER THE INPUT: true; the input reads as it did. -/
def fnExactCipherNibbleSpec : ChangeSpec := { name := "fnExactCipherNibble", fn := fun _ => fun
  | [d1, d2, d3, d4] => { results := [.lit (.bool true)], args := [d1, d2, d3, d4] }
  | _ => none }
def fnExactCipherNibbleRow : OpenClaim := { program := "ytabdcobameklbaa", sum := "09a7a7b4e83e4708fb4a8113e8b7ddf35663aa3b68d78938ca8f104126f2673f", func := "loop.example/g03313/laws.FnExactCipherNibble", spec := "fnExactCipherNibble", apart := false }
def FnExactCipherNibbleSaid : Prop := fnExactCipherNibbleRow.holds Try.pinned (OpenSpec.ofChange fnExactCipherNibbleSpec)

/-- ITS FALSE NEIGHBOUR: 'it returns false'. Refute it at one input. -/
def fnExactCipherNibbleWrong : ChangeSpec := { name := "fnExactCipherNibble", fn := fun _ => fun
  | [d1, d2, d3, d4] => { results := [.lit (.bool false)], args := [d1, d2, d3, d4] }
  | _ => none }
def FnExactCipherNibbleWrongFalsely : Prop := fnExactCipherNibbleRow.holds Try.pinned (OpenSpec.ofChange fnExactCipherNibbleWrong)

/-- 'laws.FnExactNextScramble': WHATEVER THE INPUT: true; the input reads as it did. -/
def fnExactNextScrambleSpec : ChangeSpec := { name := "fnExactNextScramble", fn := fun _ => fun
  | [d] => { results := [.lit (.bool true)], args := [d] }
  | _ => none }
def fnExactNextScrambleRow : OpenClaim := { program := "ytabdcobameklbaa", sum := "09a7a7b4e83e4708fb4a8113e8b7ddf35663aa3b68d78938ca8f104126f2673f", func := "loop.example/g03313/laws.FnExactNextScramble", spec := "fnExactNextScramble", apart := false }
def FnExactNextScrambleSaid : Prop := fnExactNextScrambleRow.holds Try.pinned (OpenSpec.ofChange fnExactNextScrambleSpec)

/-- ITS FALSE NEIGHBOUR: 'it returns false'. Refute it at one input. -/
def fnExactNextScrambleWrong : ChangeSpec := { name := "fnExactNextScramble", fn := fun _ => fun
  | [d] => { results := [.lit (.bool false)], args := [d] }
  | _ => none }
def FnExactNextScrambleWrongFalsely : Prop := fnExactNextScrambleRow.holds Try.pinned (OpenSpec.ofChange fnExactNextScrambleWrong)

/-- 'laws.FnExactSymbolsFor': WHATEVER THE INPUT: true; the input reads as it did. -/
def fnExactSymbolsForSpec : ChangeSpec := { name := "fnExactSymbolsFor", fn := fun _ => fun
  | [d] => { results := [.lit (.bool true)], args := [d] }
  | _ => none }
def fnExactSymbolsForRow : OpenClaim := { program := "ytabdcobameklbaa", sum := "09a7a7b4e83e4708fb4a8113e8b7ddf35663aa3b68d78938ca8f104126f2673f", func := "loop.example/g03313/laws.FnExactSymbolsFor", spec := "fnExactSymbolsFor", apart := false }
def FnExactSymbolsForSaid : Prop := fnExactSymbolsForRow.holds Try.pinned (OpenSpec.ofChange fnExactSymbolsForSpec)

/-- ITS FALSE NEIGHBOUR: 'it returns false'. Refute it at one input. -/
def fnExactSymbolsForWrong : ChangeSpec := { name := "fnExactSymbolsFor", fn := fun _ => fun
  | [d] => { results := [.lit (.bool false)], args := [d] }
  | _ => none }
def FnExactSymbolsForWrongFalsely : Prop := fnExactSymbolsForRow.holds Try.pinned (OpenSpec.ofChange fnExactSymbolsForWrong)

/-- 'laws.FnExactCapacity': WHATEVER THE INPUT: true; the input reads as it did. -/
def fnExactCapacitySpec : ChangeSpec := { name := "fnExactCapacity", fn := fun _ => fun
  | [d] => { results := [.lit (.bool true)], args := [d] }
  | _ => none }
def fnExactCapacityRow : OpenClaim := { program := "ytabdcobameklbaa", sum := "09a7a7b4e83e4708fb4a8113e8b7ddf35663aa3b68d78938ca8f104126f2673f", func := "loop.example/g03313/laws.FnExactCapacity", spec := "fnExactCapacity", apart := false }
def FnExactCapacitySaid : Prop := fnExactCapacityRow.holds Try.pinned (OpenSpec.ofChange fnExactCapacitySpec)

/-- ITS FALSE NEIGHBOUR: 'it returns false'. Refute it at one input. -/
def fnExactCapacityWrong : ChangeSpec := { name := "fnExactCapacity", fn := fun _ => fun
  | [d] => { results := [.lit (.bool false)], args := [d] }
  | _ => none }
def FnExactCapacityWrongFalsely : Prop := fnExactCapacityRow.holds Try.pinned (OpenSpec.ofChange fnExactCapacityWrong)

/- THE SECOND FORM. 'bulk': how many values and letters a reading holds, each counted each time it is reached (what is shared counts as often as it is met; a slice's spare places count too). A statement '..UptoSaid' is the law's where the arguments, and the package variables that the reading takes, are together of bulk at most 1048576: NARROWER than '..Said'. Prove '..Said' where nothing that the law and all that it calls make is longer than what came in: it says more and counts as full. Else prove '..UptoSaid'. A law counts once. -/
mutual
def uptoBulk {H : Type} : DataW H → Nat
  | .lit (.string bytes) => bytes.length + 1
  | .lit _ => 1
  | .nil => 1
  | .ptr d => uptoBulk d + 1
  | .slice elems spare => uptoBulkAll elems + uptoBulkAll spare + 1
  | .agg parts => uptoBulkAll parts + 1
  | .iface _ d => uptoBulk d + 1
  | .map entries => uptoBulkEntries entries + 1
  | .held _ => 1
def uptoBulkAll {H : Type} : List (DataW H) → Nat
  | [] => 0
  | d :: r => uptoBulk d + uptoBulkAll r
def uptoBulkEntries {H : Type} : List (Lit × DataW H) → Nat
  | [] => 0
  | x :: r => uptoBulkEntry x + uptoBulkEntries r
def uptoBulkEntry {H : Type} : Lit × DataW H → Nat
  | (.string bytes, d) => bytes.length + uptoBulk d + 1
  | (_, d) => uptoBulk d + 1
 end
def uptoSmall : (H : Type) → List (DataW H) → Bool := fun _ ds => decide (uptoBulkAll ds ≤ 1048576)
def OpenSpec.upto (s : _root_.Go.ChangeSpec) : _root_.Go.OpenSpec := { _root_.Go.OpenSpec.ofChange s with cond := some uptoSmall }

/-- 'laws.FnExactLaneCountOk', WHERE WHAT IT READS IS OF BULK AT MOST 1048576: true; the input reads as it did. -/
def fnExactLaneCountOkUptoRow : OpenClaim := { program := "ytabdcobameklbaa", sum := "09a7a7b4e83e4708fb4a8113e8b7ddf35663aa3b68d78938ca8f104126f2673f", func := "loop.example/g03313/laws.FnExactLaneCountOk", spec := "fnExactLaneCountOk", apart := false, narrowed := true }
def FnExactLaneCountOkUptoSaid : Prop := fnExactLaneCountOkUptoRow.holds Try.pinned (OpenSpec.upto fnExactLaneCountOkSpec)

/-- 'laws.FnExactFieldSum', WHERE WHAT IT READS IS OF BULK AT MOST 1048576: true; the input reads as it did. -/
def fnExactFieldSumUptoRow : OpenClaim := { program := "ytabdcobameklbaa", sum := "09a7a7b4e83e4708fb4a8113e8b7ddf35663aa3b68d78938ca8f104126f2673f", func := "loop.example/g03313/laws.FnExactFieldSum", spec := "fnExactFieldSum", apart := false, narrowed := true }
def FnExactFieldSumUptoSaid : Prop := fnExactFieldSumUptoRow.holds Try.pinned (OpenSpec.upto fnExactFieldSumSpec)

/-- 'laws.FnExactMix', WHERE WHAT IT READS IS OF BULK AT MOST 1048576: true; the input reads as it did. -/
def fnExactMixUptoRow : OpenClaim := { program := "ytabdcobameklbaa", sum := "09a7a7b4e83e4708fb4a8113e8b7ddf35663aa3b68d78938ca8f104126f2673f", func := "loop.example/g03313/laws.FnExactMix", spec := "fnExactMix", apart := false, narrowed := true }
def FnExactMixUptoSaid : Prop := fnExactMixUptoRow.holds Try.pinned (OpenSpec.upto fnExactMixSpec)

/-- 'laws.FnExactLinkOk', WHERE WHAT IT READS IS OF BULK AT MOST 1048576: true; the input reads as it did. -/
def fnExactLinkOkUptoRow : OpenClaim := { program := "ytabdcobameklbaa", sum := "09a7a7b4e83e4708fb4a8113e8b7ddf35663aa3b68d78938ca8f104126f2673f", func := "loop.example/g03313/laws.FnExactLinkOk", spec := "fnExactLinkOk", apart := false, narrowed := true }
def FnExactLinkOkUptoSaid : Prop := fnExactLinkOkUptoRow.holds Try.pinned (OpenSpec.upto fnExactLinkOkSpec)

/-- 'laws.FnExactAnswerOf', WHERE WHAT IT READS IS OF BULK AT MOST 1048576: true; the input reads as it did. -/
def fnExactAnswerOfUptoRow : OpenClaim := { program := "ytabdcobameklbaa", sum := "09a7a7b4e83e4708fb4a8113e8b7ddf35663aa3b68d78938ca8f104126f2673f", func := "loop.example/g03313/laws.FnExactAnswerOf", spec := "fnExactAnswerOf", apart := false, narrowed := true }
def FnExactAnswerOfUptoSaid : Prop := fnExactAnswerOfUptoRow.holds Try.pinned (OpenSpec.upto fnExactAnswerOfSpec)

/-- 'laws.FnExactSessionKey', WHERE WHAT IT READS IS OF BULK AT MOST 1048576: true; the input reads as it did. -/
def fnExactSessionKeyUptoRow : OpenClaim := { program := "ytabdcobameklbaa", sum := "09a7a7b4e83e4708fb4a8113e8b7ddf35663aa3b68d78938ca8f104126f2673f", func := "loop.example/g03313/laws.FnExactSessionKey", spec := "fnExactSessionKey", apart := false, narrowed := true }
def FnExactSessionKeyUptoSaid : Prop := fnExactSessionKeyUptoRow.holds Try.pinned (OpenSpec.upto fnExactSessionKeySpec)

/-- 'laws.FnExactCipherNibble', WHERE WHAT IT READS IS OF BULK AT MOST 1048576: true; the input reads as it did. -/
def fnExactCipherNibbleUptoRow : OpenClaim := { program := "ytabdcobameklbaa", sum := "09a7a7b4e83e4708fb4a8113e8b7ddf35663aa3b68d78938ca8f104126f2673f", func := "loop.example/g03313/laws.FnExactCipherNibble", spec := "fnExactCipherNibble", apart := false, narrowed := true }
def FnExactCipherNibbleUptoSaid : Prop := fnExactCipherNibbleUptoRow.holds Try.pinned (OpenSpec.upto fnExactCipherNibbleSpec)

/-- 'laws.FnExactNextScramble', WHERE WHAT IT READS IS OF BULK AT MOST 1048576: true; the input reads as it did. -/
def fnExactNextScrambleUptoRow : OpenClaim := { program := "ytabdcobameklbaa", sum := "09a7a7b4e83e4708fb4a8113e8b7ddf35663aa3b68d78938ca8f104126f2673f", func := "loop.example/g03313/laws.FnExactNextScramble", spec := "fnExactNextScramble", apart := false, narrowed := true }
def FnExactNextScrambleUptoSaid : Prop := fnExactNextScrambleUptoRow.holds Try.pinned (OpenSpec.upto fnExactNextScrambleSpec)

/-- 'laws.FnExactSymbolsFor', WHERE WHAT IT READS IS OF BULK AT MOST 1048576: true; the input reads as it did. -/
def fnExactSymbolsForUptoRow : OpenClaim := { program := "ytabdcobameklbaa", sum := "09a7a7b4e83e4708fb4a8113e8b7ddf35663aa3b68d78938ca8f104126f2673f", func := "loop.example/g03313/laws.FnExactSymbolsFor", spec := "fnExactSymbolsFor", apart := false, narrowed := true }
def FnExactSymbolsForUptoSaid : Prop := fnExactSymbolsForUptoRow.holds Try.pinned (OpenSpec.upto fnExactSymbolsForSpec)

/-- 'laws.FnExactCapacity', WHERE WHAT IT READS IS OF BULK AT MOST 1048576: true; the input reads as it did. -/
def fnExactCapacityUptoRow : OpenClaim := { program := "ytabdcobameklbaa", sum := "09a7a7b4e83e4708fb4a8113e8b7ddf35663aa3b68d78938ca8f104126f2673f", func := "loop.example/g03313/laws.FnExactCapacity", spec := "fnExactCapacity", apart := false, narrowed := true }
def FnExactCapacityUptoSaid : Prop := fnExactCapacityUptoRow.holds Try.pinned (OpenSpec.upto fnExactCapacitySpec)

end Rows
end Go.Proofs.Ytabdcobameklbaa
