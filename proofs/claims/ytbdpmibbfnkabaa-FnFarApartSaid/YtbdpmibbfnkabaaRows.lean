/-
  No cell of these rows narrows 'for every input' (looked for: loops, veiled, ifaces, maps, wideKeys, modest, calm, conditions, laid).
  DERIVED. THE GIVEN ROWS OF THIS SEAT. 12 by the template 'for every input the law returns true; each argument reads behind the call as it read before'; 0 by the template 'total and deterministic' (their statements: YtbdpmibbfnkabaaTotals.lean).
  GIVEN WITH THE SEED: the statements are not yours to turn. If you find one false, say at which input.
  Laid BY PROGRAM, IN A SANDBOX (cutbox-rows.mjs): the forced cells as the released guide's own fill.sh prints them over the translation 4f86fea7d2fbea58… (all of the seat's roots in one cut). By AI agents, Wed Nov 11 2026. No macro, syntax, notation, axiom, sorry.
-/
import Derived.Test.YtbdpmibbfnkabaaChecked
import GoSem.Claim
import GoSem.ClaimJoined
import GoSem.ClaimMapViews
import Derived.JoinedTies
import Derived.KernelRfl
namespace Go.Proofs.Ytbdpmibbfnkabaa
/- THE CELL 'sum', in the pinned program and in every row, IS THE sha256 OF THE DUMP (.gsa) THAT YtbdpmibbfnkabaaProg.lean LOADS. Nothing in Lean hashes anything: it is a label: what it is worth is what the hold of that sum in a sandbox is worth. -/
noncomputable def Try.pinned : Pinned := { name := "ytbdpmibbfnkabaa", sum := "4f86fea7d2fbea5867ee90cb57820a559eea9f4f5fb8f9f6500da7760766dd1d", checked := Try.checked }
namespace Rows
def none {H : Type} : Left H := { results := [], args := [] }

/-- 'laws.FnExactFieldProduct': WHATEVER THE INPUT: true; the input reads as it did. -/
def fnExactFieldProductSpec : ChangeSpec := { name := "fnExactFieldProduct", fn := fun _ => fun
  | [d1, d2] => { results := [.lit (.bool true)], args := [d1, d2] }
  | _ => none }
def fnExactFieldProductRow : OpenClaim := { program := "ytbdpmibbfnkabaa", sum := "4f86fea7d2fbea5867ee90cb57820a559eea9f4f5fb8f9f6500da7760766dd1d", func := "loop.example/g03313/laws.FnExactFieldProduct", spec := "fnExactFieldProduct", apart := false }
def FnExactFieldProductSaid : Prop := fnExactFieldProductRow.holds Try.pinned (OpenSpec.ofChange fnExactFieldProductSpec)

/-- ITS FALSE NEIGHBOUR: 'it returns false'. Refute it at one input. -/
def fnExactFieldProductWrong : ChangeSpec := { name := "fnExactFieldProduct", fn := fun _ => fun
  | [d1, d2] => { results := [.lit (.bool false)], args := [d1, d2] }
  | _ => none }
def FnExactFieldProductWrongFalsely : Prop := fnExactFieldProductRow.holds Try.pinned (OpenSpec.ofChange fnExactFieldProductWrong)

/-- 'laws.FnExactFieldPower': WHATEVER THE INPUT: true; the input reads as it did. -/
def fnExactFieldPowerSpec : ChangeSpec := { name := "fnExactFieldPower", fn := fun _ => fun
  | [d] => { results := [.lit (.bool true)], args := [d] }
  | _ => none }
def fnExactFieldPowerRow : OpenClaim := { program := "ytbdpmibbfnkabaa", sum := "4f86fea7d2fbea5867ee90cb57820a559eea9f4f5fb8f9f6500da7760766dd1d", func := "loop.example/g03313/laws.FnExactFieldPower", spec := "fnExactFieldPower", apart := false }
def FnExactFieldPowerSaid : Prop := fnExactFieldPowerRow.holds Try.pinned (OpenSpec.ofChange fnExactFieldPowerSpec)

/-- ITS FALSE NEIGHBOUR: 'it returns false'. Refute it at one input. -/
def fnExactFieldPowerWrong : ChangeSpec := { name := "fnExactFieldPower", fn := fun _ => fun
  | [d] => { results := [.lit (.bool false)], args := [d] }
  | _ => none }
def FnExactFieldPowerWrongFalsely : Prop := fnExactFieldPowerRow.holds Try.pinned (OpenSpec.ofChange fnExactFieldPowerWrong)

/-- 'laws.FnField': WHATEVER THE INPUT: true; the input reads as it did. -/
def fnFieldSpec : ChangeSpec := { name := "fnField", fn := fun _ => fun
  | [d] => { results := [.lit (.bool true)], args := [d] }
  | _ => none }
def fnFieldRow : OpenClaim := { program := "ytbdpmibbfnkabaa", sum := "4f86fea7d2fbea5867ee90cb57820a559eea9f4f5fb8f9f6500da7760766dd1d", func := "loop.example/g03313/laws.FnField", spec := "fnField", apart := false }
def FnFieldSaid : Prop := fnFieldRow.holds Try.pinned (OpenSpec.ofChange fnFieldSpec)

/-- ITS FALSE NEIGHBOUR: 'it returns false'. Refute it at one input. -/
def fnFieldWrong : ChangeSpec := { name := "fnField", fn := fun _ => fun
  | [d] => { results := [.lit (.bool false)], args := [d] }
  | _ => none }
def FnFieldWrongFalsely : Prop := fnFieldRow.holds Try.pinned (OpenSpec.ofChange fnFieldWrong)

/-- 'laws.FnExactFieldLog': WHATEVER THE INPUT: true; the input reads as it did. -/
def fnExactFieldLogSpec : ChangeSpec := { name := "fnExactFieldLog", fn := fun _ => fun
  | [d] => { results := [.lit (.bool true)], args := [d] }
  | _ => none }
def fnExactFieldLogRow : OpenClaim := { program := "ytbdpmibbfnkabaa", sum := "4f86fea7d2fbea5867ee90cb57820a559eea9f4f5fb8f9f6500da7760766dd1d", func := "loop.example/g03313/laws.FnExactFieldLog", spec := "fnExactFieldLog", apart := false }
def FnExactFieldLogSaid : Prop := fnExactFieldLogRow.holds Try.pinned (OpenSpec.ofChange fnExactFieldLogSpec)

/-- ITS FALSE NEIGHBOUR: 'it returns false'. Refute it at one input. -/
def fnExactFieldLogWrong : ChangeSpec := { name := "fnExactFieldLog", fn := fun _ => fun
  | [d] => { results := [.lit (.bool false)], args := [d] }
  | _ => none }
def FnExactFieldLogWrongFalsely : Prop := fnExactFieldLogRow.holds Try.pinned (OpenSpec.ofChange fnExactFieldLogWrong)

/-- 'laws.FnExactFieldQuotient': WHATEVER THE INPUT: true; the input reads as it did. -/
def fnExactFieldQuotientSpec : ChangeSpec := { name := "fnExactFieldQuotient", fn := fun _ => fun
  | [d1, d2] => { results := [.lit (.bool true)], args := [d1, d2] }
  | _ => none }
def fnExactFieldQuotientRow : OpenClaim := { program := "ytbdpmibbfnkabaa", sum := "4f86fea7d2fbea5867ee90cb57820a559eea9f4f5fb8f9f6500da7760766dd1d", func := "loop.example/g03313/laws.FnExactFieldQuotient", spec := "fnExactFieldQuotient", apart := false }
def FnExactFieldQuotientSaid : Prop := fnExactFieldQuotientRow.holds Try.pinned (OpenSpec.ofChange fnExactFieldQuotientSpec)

/-- ITS FALSE NEIGHBOUR: 'it returns false'. Refute it at one input. -/
def fnExactFieldQuotientWrong : ChangeSpec := { name := "fnExactFieldQuotient", fn := fun _ => fun
  | [d1, d2] => { results := [.lit (.bool false)], args := [d1, d2] }
  | _ => none }
def FnExactFieldQuotientWrongFalsely : Prop := fnExactFieldQuotientRow.holds Try.pinned (OpenSpec.ofChange fnExactFieldQuotientWrong)

/-- 'laws.FnFarApart': WHATEVER THE INPUT: true; the input reads as it did. -/
def fnFarApartSpec : ChangeSpec := { name := "fnFarApart", fn := fun _ => fun
  | [d] => { results := [.lit (.bool true)], args := [d] }
  | _ => none }
def fnFarApartRow : OpenClaim := { program := "ytbdpmibbfnkabaa", sum := "4f86fea7d2fbea5867ee90cb57820a559eea9f4f5fb8f9f6500da7760766dd1d", func := "loop.example/g03313/laws.FnFarApart", spec := "fnFarApart", apart := false }
def FnFarApartSaid : Prop := fnFarApartRow.holds Try.pinned (OpenSpec.ofChange fnFarApartSpec)

/-- ITS FALSE NEIGHBOUR: 'it returns false'. Refute it at one input. -/
def fnFarApartWrong : ChangeSpec := { name := "fnFarApart", fn := fun _ => fun
  | [d] => { results := [.lit (.bool false)], args := [d] }
  | _ => none }
def FnFarApartWrongFalsely : Prop := fnFarApartRow.holds Try.pinned (OpenSpec.ofChange fnFarApartWrong)

/-- 'laws.FnExactSyndromes': WHATEVER THE INPUT: true; the input reads as it did. -/
def fnExactSyndromesSpec : ChangeSpec := { name := "fnExactSyndromes", fn := fun _ => fun
  | [d] => { results := [.lit (.bool true)], args := [d] }
  | _ => none }
def fnExactSyndromesRow : OpenClaim := { program := "ytbdpmibbfnkabaa", sum := "4f86fea7d2fbea5867ee90cb57820a559eea9f4f5fb8f9f6500da7760766dd1d", func := "loop.example/g03313/laws.FnExactSyndromes", spec := "fnExactSyndromes", apart := false }
def FnExactSyndromesSaid : Prop := fnExactSyndromesRow.holds Try.pinned (OpenSpec.ofChange fnExactSyndromesSpec)

/-- ITS FALSE NEIGHBOUR: 'it returns false'. Refute it at one input. -/
def fnExactSyndromesWrong : ChangeSpec := { name := "fnExactSyndromes", fn := fun _ => fun
  | [d] => { results := [.lit (.bool false)], args := [d] }
  | _ => none }
def FnExactSyndromesWrongFalsely : Prop := fnExactSyndromesRow.holds Try.pinned (OpenSpec.ofChange fnExactSyndromesWrong)

/-- 'laws.FnOneFixed': WHATEVER THE INPUT: true; the input reads as it did. -/
def fnOneFixedSpec : ChangeSpec := { name := "fnOneFixed", fn := fun _ => fun
  | [d] => { results := [.lit (.bool true)], args := [d] }
  | _ => none }
def fnOneFixedRow : OpenClaim := { program := "ytbdpmibbfnkabaa", sum := "4f86fea7d2fbea5867ee90cb57820a559eea9f4f5fb8f9f6500da7760766dd1d", func := "loop.example/g03313/laws.FnOneFixed", spec := "fnOneFixed", apart := false }
def FnOneFixedSaid : Prop := fnOneFixedRow.holds Try.pinned (OpenSpec.ofChange fnOneFixedSpec)

/-- ITS FALSE NEIGHBOUR: 'it returns false'. Refute it at one input. -/
def fnOneFixedWrong : ChangeSpec := { name := "fnOneFixed", fn := fun _ => fun
  | [d] => { results := [.lit (.bool false)], args := [d] }
  | _ => none }
def FnOneFixedWrongFalsely : Prop := fnOneFixedRow.holds Try.pinned (OpenSpec.ofChange fnOneFixedWrong)

/-- 'laws.FnExactEncodeBlock': WHATEVER THE INPUT: true; the input reads as it did. -/
def fnExactEncodeBlockSpec : ChangeSpec := { name := "fnExactEncodeBlock", fn := fun _ => fun
  | [d] => { results := [.lit (.bool true)], args := [d] }
  | _ => none }
def fnExactEncodeBlockRow : OpenClaim := { program := "ytbdpmibbfnkabaa", sum := "4f86fea7d2fbea5867ee90cb57820a559eea9f4f5fb8f9f6500da7760766dd1d", func := "loop.example/g03313/laws.FnExactEncodeBlock", spec := "fnExactEncodeBlock", apart := false }
def FnExactEncodeBlockSaid : Prop := fnExactEncodeBlockRow.holds Try.pinned (OpenSpec.ofChange fnExactEncodeBlockSpec)

/-- ITS FALSE NEIGHBOUR: 'it returns false'. Refute it at one input. -/
def fnExactEncodeBlockWrong : ChangeSpec := { name := "fnExactEncodeBlock", fn := fun _ => fun
  | [d] => { results := [.lit (.bool false)], args := [d] }
  | _ => none }
def FnExactEncodeBlockWrongFalsely : Prop := fnExactEncodeBlockRow.holds Try.pinned (OpenSpec.ofChange fnExactEncodeBlockWrong)

/-- 'laws.FnExactDecodeBlock': WHATEVER THE INPUT: true; the input reads as it did. -/
def fnExactDecodeBlockSpec : ChangeSpec := { name := "fnExactDecodeBlock", fn := fun _ => fun
  | [d] => { results := [.lit (.bool true)], args := [d] }
  | _ => none }
def fnExactDecodeBlockRow : OpenClaim := { program := "ytbdpmibbfnkabaa", sum := "4f86fea7d2fbea5867ee90cb57820a559eea9f4f5fb8f9f6500da7760766dd1d", func := "loop.example/g03313/laws.FnExactDecodeBlock", spec := "fnExactDecodeBlock", apart := false }
def FnExactDecodeBlockSaid : Prop := fnExactDecodeBlockRow.holds Try.pinned (OpenSpec.ofChange fnExactDecodeBlockSpec)

/-- ITS FALSE NEIGHBOUR: 'it returns false'. Refute it at one input. -/
def fnExactDecodeBlockWrong : ChangeSpec := { name := "fnExactDecodeBlock", fn := fun _ => fun
  | [d] => { results := [.lit (.bool false)], args := [d] }
  | _ => none }
def FnExactDecodeBlockWrongFalsely : Prop := fnExactDecodeBlockRow.holds Try.pinned (OpenSpec.ofChange fnExactDecodeBlockWrong)

/-- 'laws.FnExactEncodeBlocks': WHATEVER THE INPUT: true; the input reads as it did. -/
def fnExactEncodeBlocksSpec : ChangeSpec := { name := "fnExactEncodeBlocks", fn := fun _ => fun
  | [d] => { results := [.lit (.bool true)], args := [d] }
  | _ => none }
def fnExactEncodeBlocksRow : OpenClaim := { program := "ytbdpmibbfnkabaa", sum := "4f86fea7d2fbea5867ee90cb57820a559eea9f4f5fb8f9f6500da7760766dd1d", func := "loop.example/g03313/laws.FnExactEncodeBlocks", spec := "fnExactEncodeBlocks", apart := false }
def FnExactEncodeBlocksSaid : Prop := fnExactEncodeBlocksRow.holds Try.pinned (OpenSpec.ofChange fnExactEncodeBlocksSpec)

/-- ITS FALSE NEIGHBOUR: 'it returns false'. Refute it at one input. -/
def fnExactEncodeBlocksWrong : ChangeSpec := { name := "fnExactEncodeBlocks", fn := fun _ => fun
  | [d] => { results := [.lit (.bool false)], args := [d] }
  | _ => none }
def FnExactEncodeBlocksWrongFalsely : Prop := fnExactEncodeBlocksRow.holds Try.pinned (OpenSpec.ofChange fnExactEncodeBlocksWrong)

/-- 'laws.FnExactDecodeBlocks': WHATEVER THE INPUT: true; the input reads as it did. -/
def fnExactDecodeBlocksSpec : ChangeSpec := { name := "fnExactDecodeBlocks", fn := fun _ => fun
  | [d] => { results := [.lit (.bool true)], args := [d] }
  | _ => none }
def fnExactDecodeBlocksRow : OpenClaim := { program := "ytbdpmibbfnkabaa", sum := "4f86fea7d2fbea5867ee90cb57820a559eea9f4f5fb8f9f6500da7760766dd1d", func := "loop.example/g03313/laws.FnExactDecodeBlocks", spec := "fnExactDecodeBlocks", apart := false }
def FnExactDecodeBlocksSaid : Prop := fnExactDecodeBlocksRow.holds Try.pinned (OpenSpec.ofChange fnExactDecodeBlocksSpec)

/-- ITS FALSE NEIGHBOUR: 'it returns false'. Refute it at one input. -/
def fnExactDecodeBlocksWrong : ChangeSpec := { name := "fnExactDecodeBlocks", fn := fun _ => fun
  | [d] => { results := [.lit (.bool false)], args := [d] }
  | _ => none }
def FnExactDecodeBlocksWrongFalsely : Prop := fnExactDecodeBlocksRow.holds Try.pinned (OpenSpec.ofChange fnExactDecodeBlocksWrong)

/- THE SECOND FORM. 'bulk': how many values and letters a reading holds, each counted each time it is reached (what is shared counts as often as it is met; a slice's spare places count too). A statement '..UptoSaid' is the law's where the arguments, and the package variables that the reading takes, are together of bulk at most 1048576: NARROWER than '..Said'. Prove '..Said' where nothing that the law and all that it calls make is longer than what came in: it says more and counts as full. Else prove '..UptoSaid'. A law counts once. -/
mutual
def uptoBulk {H : Type} : DataW H → Nat
  | .lit (.string bytes) => bytes.length + 1
  | .lit _ => 1
  | .nil => 1
  | .ptr d => uptoBulk d + 1
  | .slice elems spare => uptoBulkAll elems + uptoBulkAll spare + 1
  | .agg parts => uptoBulkAll parts + 1
  | .iface _ d => uptoBulk d + 1
  | .map entries => uptoBulkEntries entries + 1
  | .held _ => 1
def uptoBulkAll {H : Type} : List (DataW H) → Nat
  | [] => 0
  | d :: r => uptoBulk d + uptoBulkAll r
def uptoBulkEntries {H : Type} : List (Lit × DataW H) → Nat
  | [] => 0
  | x :: r => uptoBulkEntry x + uptoBulkEntries r
def uptoBulkEntry {H : Type} : Lit × DataW H → Nat
  | (.string bytes, d) => bytes.length + uptoBulk d + 1
  | (_, d) => uptoBulk d + 1
 end
def uptoSmall : (H : Type) → List (DataW H) → Bool := fun _ ds => decide (uptoBulkAll ds ≤ 1048576)
def OpenSpec.upto (s : _root_.Go.ChangeSpec) : _root_.Go.OpenSpec := { _root_.Go.OpenSpec.ofChange s with cond := some uptoSmall }

/-- 'laws.FnExactFieldProduct', WHERE WHAT IT READS IS OF BULK AT MOST 1048576: true; the input reads as it did. -/
def fnExactFieldProductUptoRow : OpenClaim := { program := "ytbdpmibbfnkabaa", sum := "4f86fea7d2fbea5867ee90cb57820a559eea9f4f5fb8f9f6500da7760766dd1d", func := "loop.example/g03313/laws.FnExactFieldProduct", spec := "fnExactFieldProduct", apart := false, narrowed := true }
def FnExactFieldProductUptoSaid : Prop := fnExactFieldProductUptoRow.holds Try.pinned (OpenSpec.upto fnExactFieldProductSpec)

/-- 'laws.FnExactFieldPower', WHERE WHAT IT READS IS OF BULK AT MOST 1048576: true; the input reads as it did. -/
def fnExactFieldPowerUptoRow : OpenClaim := { program := "ytbdpmibbfnkabaa", sum := "4f86fea7d2fbea5867ee90cb57820a559eea9f4f5fb8f9f6500da7760766dd1d", func := "loop.example/g03313/laws.FnExactFieldPower", spec := "fnExactFieldPower", apart := false, narrowed := true }
def FnExactFieldPowerUptoSaid : Prop := fnExactFieldPowerUptoRow.holds Try.pinned (OpenSpec.upto fnExactFieldPowerSpec)

/-- 'laws.FnField', WHERE WHAT IT READS IS OF BULK AT MOST 1048576: true; the input reads as it did. -/
def fnFieldUptoRow : OpenClaim := { program := "ytbdpmibbfnkabaa", sum := "4f86fea7d2fbea5867ee90cb57820a559eea9f4f5fb8f9f6500da7760766dd1d", func := "loop.example/g03313/laws.FnField", spec := "fnField", apart := false, narrowed := true }
def FnFieldUptoSaid : Prop := fnFieldUptoRow.holds Try.pinned (OpenSpec.upto fnFieldSpec)

/-- 'laws.FnExactFieldLog', WHERE WHAT IT READS IS OF BULK AT MOST 1048576: true; the input reads as it did. -/
def fnExactFieldLogUptoRow : OpenClaim := { program := "ytbdpmibbfnkabaa", sum := "4f86fea7d2fbea5867ee90cb57820a559eea9f4f5fb8f9f6500da7760766dd1d", func := "loop.example/g03313/laws.FnExactFieldLog", spec := "fnExactFieldLog", apart := false, narrowed := true }
def FnExactFieldLogUptoSaid : Prop := fnExactFieldLogUptoRow.holds Try.pinned (OpenSpec.upto fnExactFieldLogSpec)

/-- 'laws.FnExactFieldQuotient', WHERE WHAT IT READS IS OF BULK AT MOST 1048576: true; the input reads as it did. -/
def fnExactFieldQuotientUptoRow : OpenClaim := { program := "ytbdpmibbfnkabaa", sum := "4f86fea7d2fbea5867ee90cb57820a559eea9f4f5fb8f9f6500da7760766dd1d", func := "loop.example/g03313/laws.FnExactFieldQuotient", spec := "fnExactFieldQuotient", apart := false, narrowed := true }
def FnExactFieldQuotientUptoSaid : Prop := fnExactFieldQuotientUptoRow.holds Try.pinned (OpenSpec.upto fnExactFieldQuotientSpec)

/-- 'laws.FnFarApart', WHERE WHAT IT READS IS OF BULK AT MOST 1048576: true; the input reads as it did. -/
def fnFarApartUptoRow : OpenClaim := { program := "ytbdpmibbfnkabaa", sum := "4f86fea7d2fbea5867ee90cb57820a559eea9f4f5fb8f9f6500da7760766dd1d", func := "loop.example/g03313/laws.FnFarApart", spec := "fnFarApart", apart := false, narrowed := true }
def FnFarApartUptoSaid : Prop := fnFarApartUptoRow.holds Try.pinned (OpenSpec.upto fnFarApartSpec)

/-- 'laws.FnExactSyndromes', WHERE WHAT IT READS IS OF BULK AT MOST 1048576: true; the input reads as it did. -/
def fnExactSyndromesUptoRow : OpenClaim := { program := "ytbdpmibbfnkabaa", sum := "4f86fea7d2fbea5867ee90cb57820a559eea9f4f5fb8f9f6500da7760766dd1d", func := "loop.example/g03313/laws.FnExactSyndromes", spec := "fnExactSyndromes", apart := false, narrowed := true }
def FnExactSyndromesUptoSaid : Prop := fnExactSyndromesUptoRow.holds Try.pinned (OpenSpec.upto fnExactSyndromesSpec)

/-- 'laws.FnOneFixed', WHERE WHAT IT READS IS OF BULK AT MOST 1048576: true; the input reads as it did. -/
def fnOneFixedUptoRow : OpenClaim := { program := "ytbdpmibbfnkabaa", sum := "4f86fea7d2fbea5867ee90cb57820a559eea9f4f5fb8f9f6500da7760766dd1d", func := "loop.example/g03313/laws.FnOneFixed", spec := "fnOneFixed", apart := false, narrowed := true }
def FnOneFixedUptoSaid : Prop := fnOneFixedUptoRow.holds Try.pinned (OpenSpec.upto fnOneFixedSpec)

/-- 'laws.FnExactEncodeBlock', WHERE WHAT IT READS IS OF BULK AT MOST 1048576: true; the input reads as it did. -/
def fnExactEncodeBlockUptoRow : OpenClaim := { program := "ytbdpmibbfnkabaa", sum := "4f86fea7d2fbea5867ee90cb57820a559eea9f4f5fb8f9f6500da7760766dd1d", func := "loop.example/g03313/laws.FnExactEncodeBlock", spec := "fnExactEncodeBlock", apart := false, narrowed := true }
def FnExactEncodeBlockUptoSaid : Prop := fnExactEncodeBlockUptoRow.holds Try.pinned (OpenSpec.upto fnExactEncodeBlockSpec)

/-- 'laws.FnExactDecodeBlock', WHERE WHAT IT READS IS OF BULK AT MOST 1048576: true; the input reads as it did. -/
def fnExactDecodeBlockUptoRow : OpenClaim := { program := "ytbdpmibbfnkabaa", sum := "4f86fea7d2fbea5867ee90cb57820a559eea9f4f5fb8f9f6500da7760766dd1d", func := "loop.example/g03313/laws.FnExactDecodeBlock", spec := "fnExactDecodeBlock", apart := false, narrowed := true }
def FnExactDecodeBlockUptoSaid : Prop := fnExactDecodeBlockUptoRow.holds Try.pinned (OpenSpec.upto fnExactDecodeBlockSpec)

/-- 'laws.FnExactEncodeBlocks', WHERE WHAT IT READS IS OF BULK AT MOST 1048576: true; the input reads as it did. -/
def fnExactEncodeBlocksUptoRow : OpenClaim := { program := "ytbdpmibbfnkabaa", sum := "4f86fea7d2fbea5867ee90cb57820a559eea9f4f5fb8f9f6500da7760766dd1d", func := "loop.example/g03313/laws.FnExactEncodeBlocks", spec := "fnExactEncodeBlocks", apart := false, narrowed := true }
def FnExactEncodeBlocksUptoSaid : Prop := fnExactEncodeBlocksUptoRow.holds Try.pinned (OpenSpec.upto fnExactEncodeBlocksSpec)

/-- 'laws.FnExactDecodeBlocks', WHERE WHAT IT READS IS OF BULK AT MOST 1048576: true; the input reads as it did. -/
def fnExactDecodeBlocksUptoRow : OpenClaim := { program := "ytbdpmibbfnkabaa", sum := "4f86fea7d2fbea5867ee90cb57820a559eea9f4f5fb8f9f6500da7760766dd1d", func := "loop.example/g03313/laws.FnExactDecodeBlocks", spec := "fnExactDecodeBlocks", apart := false, narrowed := true }
def FnExactDecodeBlocksUptoSaid : Prop := fnExactDecodeBlocksUptoRow.holds Try.pinned (OpenSpec.upto fnExactDecodeBlocksSpec)

end Rows
end Go.Proofs.Ytbdpmibbfnkabaa
