/-
  No cell of these rows narrows 'for every input' (looked for: loops, veiled, ifaces, maps, wideKeys, modest, calm, conditions, laid).
  DERIVED. THE GIVEN ROWS OF THIS SEAT. 12 by the template 'for every input the law returns true; each argument reads behind the call as it read before'; 0 by the template 'total and deterministic' (their statements: YtmibajhilbfecaaTotals.lean).
  GIVEN WITH THE SEED: the statements are not yours to turn. If you find one false, say at which input.
  Laid BY PROGRAM, IN A SANDBOX (cutbox-rows.mjs): the forced cells as the released guide's own fill.sh prints them over the translation 9c4528c183b81d6b… (all of the seat's roots in one cut). By AI agents, Wed Nov 11 2026. No macro, syntax, notation, axiom, sorry.
-/
import Derived.Test.YtmibajhilbfecaaChecked
import GoSem.Claim
import GoSem.ClaimJoined
import GoSem.ClaimMapViews
import Derived.JoinedTies
import Derived.KernelRfl
namespace Go.Proofs.Ytmibajhilbfecaa
/- THE CELL 'sum', in the pinned program and in every row, IS THE sha256 OF THE DUMP (.gsa) THAT YtmibajhilbfecaaProg.lean LOADS. Nothing in Lean hashes anything: it is a label: what it is worth is what the hold of that sum in a sandbox is worth. -/
noncomputable def Try.pinned : Pinned := { name := "ytmibajhilbfecaa", sum := "9c4528c183b81d6b351c246477e245a850fa4848d00e9b38ce61142a4dac4ea1", checked := Try.checked }
namespace Rows
def none {H : Type} : Left H := { results := [], args := [] }

/-- 'laws.FnTrained': WHATEVER THE INPUT: true; the input reads as it did. -/
def fnTrainedSpec : ChangeSpec := { name := "fnTrained", fn := fun _ => fun
  | [d] => { results := [.lit (.bool true)], args := [d] }
  | _ => none }
def fnTrainedRow : OpenClaim := { program := "ytmibajhilbfecaa", sum := "9c4528c183b81d6b351c246477e245a850fa4848d00e9b38ce61142a4dac4ea1", func := "loop.example/g03313/laws.FnTrained", spec := "fnTrained", unfollowed := true, recurses := true, apart := false }
def FnTrainedSaid : Prop := fnTrainedRow.holds Try.pinned (OpenSpec.ofChange fnTrainedSpec)

/-- ITS FALSE NEIGHBOUR: 'it returns false'. Refute it at one input. -/
def fnTrainedWrong : ChangeSpec := { name := "fnTrained", fn := fun _ => fun
  | [d] => { results := [.lit (.bool false)], args := [d] }
  | _ => none }
def FnTrainedWrongFalsely : Prop := fnTrainedRow.holds Try.pinned (OpenSpec.ofChange fnTrainedWrong)

/-- 'laws.FnExactLineRoom': WHATEVER THE INPUT: true; the input reads as it did. -/
def fnExactLineRoomSpec : ChangeSpec := { name := "fnExactLineRoom", fn := fun _ => fun
  | [d1, d2] => { results := [.lit (.bool true)], args := [d1, d2] }
  | _ => none }
def fnExactLineRoomRow : OpenClaim := { program := "ytmibajhilbfecaa", sum := "9c4528c183b81d6b351c246477e245a850fa4848d00e9b38ce61142a4dac4ea1", func := "loop.example/g03313/laws.FnExactLineRoom", spec := "fnExactLineRoom", apart := false }
def FnExactLineRoomSaid : Prop := fnExactLineRoomRow.holds Try.pinned (OpenSpec.ofChange fnExactLineRoomSpec)

/-- ITS FALSE NEIGHBOUR: 'it returns false'. Refute it at one input. -/
def fnExactLineRoomWrong : ChangeSpec := { name := "fnExactLineRoom", fn := fun _ => fun
  | [d1, d2] => { results := [.lit (.bool false)], args := [d1, d2] }
  | _ => none }
def FnExactLineRoomWrongFalsely : Prop := fnExactLineRoomRow.holds Try.pinned (OpenSpec.ofChange fnExactLineRoomWrong)

/-- 'laws.FnExactCableOk': WHATEVER THE INPUT: true; the input reads as it did. -/
def fnExactCableOkSpec : ChangeSpec := { name := "fnExactCableOk", fn := fun _ => fun
  | [d] => { results := [.lit (.bool true)], args := [d] }
  | _ => none }
def fnExactCableOkRow : OpenClaim := { program := "ytmibajhilbfecaa", sum := "9c4528c183b81d6b351c246477e245a850fa4848d00e9b38ce61142a4dac4ea1", func := "loop.example/g03313/laws.FnExactCableOk", spec := "fnExactCableOk", unfollowed := true, recurses := true, apart := false }
def FnExactCableOkSaid : Prop := fnExactCableOkRow.holds Try.pinned (OpenSpec.ofChange fnExactCableOkSpec)

/-- ITS FALSE NEIGHBOUR: 'it returns false'. Refute it at one input. -/
def fnExactCableOkWrong : ChangeSpec := { name := "fnExactCableOk", fn := fun _ => fun
  | [d] => { results := [.lit (.bool false)], args := [d] }
  | _ => none }
def FnExactCableOkWrongFalsely : Prop := fnExactCableOkRow.holds Try.pinned (OpenSpec.ofChange fnExactCableOkWrong)

/-- 'laws.FnExactLaneWorks': WHATEVER THE INPUT: true; the input reads as it did. -/
def fnExactLaneWorksSpec : ChangeSpec := { name := "fnExactLaneWorks", fn := fun _ => fun
  | [d1, d2, d3, d4] => { results := [.lit (.bool true)], args := [d1, d2, d3, d4] }
  | _ => none }
def fnExactLaneWorksRow : OpenClaim := { program := "ytmibajhilbfecaa", sum := "9c4528c183b81d6b351c246477e245a850fa4848d00e9b38ce61142a4dac4ea1", func := "loop.example/g03313/laws.FnExactLaneWorks", spec := "fnExactLaneWorks", unfollowed := true, recurses := true, apart := false }
def FnExactLaneWorksSaid : Prop := fnExactLaneWorksRow.holds Try.pinned (OpenSpec.ofChange fnExactLaneWorksSpec)

/-- ITS FALSE NEIGHBOUR: 'it returns false'. Refute it at one input. -/
def fnExactLaneWorksWrong : ChangeSpec := { name := "fnExactLaneWorks", fn := fun _ => fun
  | [d1, d2, d3, d4] => { results := [.lit (.bool false)], args := [d1, d2, d3, d4] }
  | _ => none }
def FnExactLaneWorksWrongFalsely : Prop := fnExactLaneWorksRow.holds Try.pinned (OpenSpec.ofChange fnExactLaneWorksWrong)

/-- 'laws.FnExactSlotsNeeded': WHATEVER THE INPUT: true; the input reads as it did. -/
def fnExactSlotsNeededSpec : ChangeSpec := { name := "fnExactSlotsNeeded", fn := fun _ => fun
  | [d1, d2] => { results := [.lit (.bool true)], args := [d1, d2] }
  | _ => none }
def fnExactSlotsNeededRow : OpenClaim := { program := "ytmibajhilbfecaa", sum := "9c4528c183b81d6b351c246477e245a850fa4848d00e9b38ce61142a4dac4ea1", func := "loop.example/g03313/laws.FnExactSlotsNeeded", spec := "fnExactSlotsNeeded", apart := false }
def FnExactSlotsNeededSaid : Prop := fnExactSlotsNeededRow.holds Try.pinned (OpenSpec.ofChange fnExactSlotsNeededSpec)

/-- ITS FALSE NEIGHBOUR: 'it returns false'. Refute it at one input. -/
def fnExactSlotsNeededWrong : ChangeSpec := { name := "fnExactSlotsNeeded", fn := fun _ => fun
  | [d1, d2] => { results := [.lit (.bool false)], args := [d1, d2] }
  | _ => none }
def FnExactSlotsNeededWrongFalsely : Prop := fnExactSlotsNeededRow.holds Try.pinned (OpenSpec.ofChange fnExactSlotsNeededWrong)

/-- 'laws.FnExactFitsLink': WHATEVER THE INPUT: true; the input reads as it did. -/
def fnExactFitsLinkSpec : ChangeSpec := { name := "fnExactFitsLink", fn := fun _ => fun
  | [d1, d2] => { results := [.lit (.bool true)], args := [d1, d2] }
  | _ => none }
def fnExactFitsLinkRow : OpenClaim := { program := "ytmibajhilbfecaa", sum := "9c4528c183b81d6b351c246477e245a850fa4848d00e9b38ce61142a4dac4ea1", func := "loop.example/g03313/laws.FnExactFitsLink", spec := "fnExactFitsLink", apart := false }
def FnExactFitsLinkSaid : Prop := fnExactFitsLinkRow.holds Try.pinned (OpenSpec.ofChange fnExactFitsLinkSpec)

/-- ITS FALSE NEIGHBOUR: 'it returns false'. Refute it at one input. -/
def fnExactFitsLinkWrong : ChangeSpec := { name := "fnExactFitsLink", fn := fun _ => fun
  | [d1, d2] => { results := [.lit (.bool false)], args := [d1, d2] }
  | _ => none }
def FnExactFitsLinkWrongFalsely : Prop := fnExactFitsLinkRow.holds Try.pinned (OpenSpec.ofChange fnExactFitsLinkWrong)

/-- 'laws.FnExactLinkWorks': WHATEVER THE INPUT: true; the input reads as it did. -/
def fnExactLinkWorksSpec : ChangeSpec := { name := "fnExactLinkWorks", fn := fun _ => fun
  | [d1, d2] => { results := [.lit (.bool true)], args := [d1, d2] }
  | _ => none }
def fnExactLinkWorksRow : OpenClaim := { program := "ytmibajhilbfecaa", sum := "9c4528c183b81d6b351c246477e245a850fa4848d00e9b38ce61142a4dac4ea1", func := "loop.example/g03313/laws.FnExactLinkWorks", spec := "fnExactLinkWorks", unfollowed := true, recurses := true, apart := false }
def FnExactLinkWorksSaid : Prop := fnExactLinkWorksRow.holds Try.pinned (OpenSpec.ofChange fnExactLinkWorksSpec)

/-- ITS FALSE NEIGHBOUR: 'it returns false'. Refute it at one input. -/
def fnExactLinkWorksWrong : ChangeSpec := { name := "fnExactLinkWorks", fn := fun _ => fun
  | [d1, d2] => { results := [.lit (.bool false)], args := [d1, d2] }
  | _ => none }
def FnExactLinkWorksWrongFalsely : Prop := fnExactLinkWorksRow.holds Try.pinned (OpenSpec.ofChange fnExactLinkWorksWrong)

/-- 'laws.FnExactLaneSkews': WHATEVER THE INPUT: true; the input reads as it did. -/
def fnExactLaneSkewsSpec : ChangeSpec := { name := "fnExactLaneSkews", fn := fun _ => fun
  | [d1, d2] => { results := [.lit (.bool true)], args := [d1, d2] }
  | _ => none }
def fnExactLaneSkewsRow : OpenClaim := { program := "ytmibajhilbfecaa", sum := "9c4528c183b81d6b351c246477e245a850fa4848d00e9b38ce61142a4dac4ea1", func := "loop.example/g03313/laws.FnExactLaneSkews", spec := "fnExactLaneSkews", unfollowed := true, recurses := true, apart := false }
def FnExactLaneSkewsSaid : Prop := fnExactLaneSkewsRow.holds Try.pinned (OpenSpec.ofChange fnExactLaneSkewsSpec)

/-- ITS FALSE NEIGHBOUR: 'it returns false'. Refute it at one input. -/
def fnExactLaneSkewsWrong : ChangeSpec := { name := "fnExactLaneSkews", fn := fun _ => fun
  | [d1, d2] => { results := [.lit (.bool false)], args := [d1, d2] }
  | _ => none }
def FnExactLaneSkewsWrongFalsely : Prop := fnExactLaneSkewsRow.holds Try.pinned (OpenSpec.ofChange fnExactLaneSkewsWrong)

/-- 'laws.FnBandwidth': WHATEVER THE INPUT: true; the input reads as it did. -/
def fnBandwidthSpec : ChangeSpec := { name := "fnBandwidth", fn := fun _ => fun
  | [d] => { results := [.lit (.bool true)], args := [d] }
  | _ => none }
def fnBandwidthRow : OpenClaim := { program := "ytmibajhilbfecaa", sum := "9c4528c183b81d6b351c246477e245a850fa4848d00e9b38ce61142a4dac4ea1", func := "loop.example/g03313/laws.FnBandwidth", spec := "fnBandwidth", apart := false }
def FnBandwidthSaid : Prop := fnBandwidthRow.holds Try.pinned (OpenSpec.ofChange fnBandwidthSpec)

/-- ITS FALSE NEIGHBOUR: 'it returns false'. Refute it at one input. -/
def fnBandwidthWrong : ChangeSpec := { name := "fnBandwidth", fn := fun _ => fun
  | [d] => { results := [.lit (.bool false)], args := [d] }
  | _ => none }
def FnBandwidthWrongFalsely : Prop := fnBandwidthRow.holds Try.pinned (OpenSpec.ofChange fnBandwidthWrong)

/-- 'laws.FnExactBestMode': WHATEVER THE INPUT: true; the input reads as it did. -/
def fnExactBestModeSpec : ChangeSpec := { name := "fnExactBestMode", fn := fun _ => fun
  | [d1, d2, d3, d4] => { results := [.lit (.bool true)], args := [d1, d2, d3, d4] }
  | _ => none }
def fnExactBestModeRow : OpenClaim := { program := "ytmibajhilbfecaa", sum := "9c4528c183b81d6b351c246477e245a850fa4848d00e9b38ce61142a4dac4ea1", func := "loop.example/g03313/laws.FnExactBestMode", spec := "fnExactBestMode", apart := false }
def FnExactBestModeSaid : Prop := fnExactBestModeRow.holds Try.pinned (OpenSpec.ofChange fnExactBestModeSpec)

/-- ITS FALSE NEIGHBOUR: 'it returns false'. Refute it at one input. -/
def fnExactBestModeWrong : ChangeSpec := { name := "fnExactBestMode", fn := fun _ => fun
  | [d1, d2, d3, d4] => { results := [.lit (.bool false)], args := [d1, d2, d3, d4] }
  | _ => none }
def FnExactBestModeWrongFalsely : Prop := fnExactBestModeRow.holds Try.pinned (OpenSpec.ofChange fnExactBestModeWrong)

/-- 'laws.FnBetterCable': WHATEVER THE INPUT: true; the input reads as it did. -/
def fnBetterCableSpec : ChangeSpec := { name := "fnBetterCable", fn := fun _ => fun
  | [d] => { results := [.lit (.bool true)], args := [d] }
  | _ => none }
def fnBetterCableRow : OpenClaim := { program := "ytmibajhilbfecaa", sum := "9c4528c183b81d6b351c246477e245a850fa4848d00e9b38ce61142a4dac4ea1", func := "loop.example/g03313/laws.FnBetterCable", spec := "fnBetterCable", unfollowed := true, recurses := true, apart := false }
def FnBetterCableSaid : Prop := fnBetterCableRow.holds Try.pinned (OpenSpec.ofChange fnBetterCableSpec)

/-- ITS FALSE NEIGHBOUR: 'it returns false'. Refute it at one input. -/
def fnBetterCableWrong : ChangeSpec := { name := "fnBetterCable", fn := fun _ => fun
  | [d] => { results := [.lit (.bool false)], args := [d] }
  | _ => none }
def FnBetterCableWrongFalsely : Prop := fnBetterCableRow.holds Try.pinned (OpenSpec.ofChange fnBetterCableWrong)

/-- 'laws.FnExactTrainLink': WHATEVER THE INPUT: true; the input reads as it did. -/
def fnExactTrainLinkSpec : ChangeSpec := { name := "fnExactTrainLink", fn := fun _ => fun
  | [d] => { results := [.lit (.bool true)], args := [d] }
  | _ => none }
def fnExactTrainLinkRow : OpenClaim := { program := "ytmibajhilbfecaa", sum := "9c4528c183b81d6b351c246477e245a850fa4848d00e9b38ce61142a4dac4ea1", func := "loop.example/g03313/laws.FnExactTrainLink", spec := "fnExactTrainLink", unfollowed := true, recurses := true, apart := false }
def FnExactTrainLinkSaid : Prop := fnExactTrainLinkRow.holds Try.pinned (OpenSpec.ofChange fnExactTrainLinkSpec)

/-- ITS FALSE NEIGHBOUR: 'it returns false'. Refute it at one input. -/
def fnExactTrainLinkWrong : ChangeSpec := { name := "fnExactTrainLink", fn := fun _ => fun
  | [d] => { results := [.lit (.bool false)], args := [d] }
  | _ => none }
def FnExactTrainLinkWrongFalsely : Prop := fnExactTrainLinkRow.holds Try.pinned (OpenSpec.ofChange fnExactTrainLinkWrong)

/- THE SECOND FORM. 'bulk': how many values and letters a reading holds, each counted each time it is reached (what is shared counts as often as it is met; a slice's spare places count too). A statement '..UptoSaid' is the law's where the arguments, and the package variables that the reading takes, are together of bulk at most 1048576: NARROWER than '..Said'. Prove '..Said' where nothing that the law and all that it calls make is longer than what came in: it says more and counts as full. Else prove '..UptoSaid'. A law counts once. -/
mutual
def uptoBulk {H : Type} : DataW H → Nat
  | .lit (.string bytes) => bytes.length + 1
  | .lit _ => 1
  | .nil => 1
  | .ptr d => uptoBulk d + 1
  | .slice elems spare => uptoBulkAll elems + uptoBulkAll spare + 1
  | .agg parts => uptoBulkAll parts + 1
  | .iface _ d => uptoBulk d + 1
  | .map entries => uptoBulkEntries entries + 1
  | .held _ => 1
def uptoBulkAll {H : Type} : List (DataW H) → Nat
  | [] => 0
  | d :: r => uptoBulk d + uptoBulkAll r
def uptoBulkEntries {H : Type} : List (Lit × DataW H) → Nat
  | [] => 0
  | x :: r => uptoBulkEntry x + uptoBulkEntries r
def uptoBulkEntry {H : Type} : Lit × DataW H → Nat
  | (.string bytes, d) => bytes.length + uptoBulk d + 1
  | (_, d) => uptoBulk d + 1
 end
def uptoSmall : (H : Type) → List (DataW H) → Bool := fun _ ds => decide (uptoBulkAll ds ≤ 1048576)
def OpenSpec.upto (s : _root_.Go.ChangeSpec) : _root_.Go.OpenSpec := { _root_.Go.OpenSpec.ofChange s with cond := some uptoSmall }

/-- 'laws.FnTrained', WHERE WHAT IT READS IS OF BULK AT MOST 1048576: true; the input reads as it did. -/
def fnTrainedUptoRow : OpenClaim := { program := "ytmibajhilbfecaa", sum := "9c4528c183b81d6b351c246477e245a850fa4848d00e9b38ce61142a4dac4ea1", func := "loop.example/g03313/laws.FnTrained", spec := "fnTrained", unfollowed := true, recurses := true, apart := false, narrowed := true }
def FnTrainedUptoSaid : Prop := fnTrainedUptoRow.holds Try.pinned (OpenSpec.upto fnTrainedSpec)

/-- 'laws.FnExactLineRoom', WHERE WHAT IT READS IS OF BULK AT MOST 1048576: true; the input reads as it did. -/
def fnExactLineRoomUptoRow : OpenClaim := { program := "ytmibajhilbfecaa", sum := "9c4528c183b81d6b351c246477e245a850fa4848d00e9b38ce61142a4dac4ea1", func := "loop.example/g03313/laws.FnExactLineRoom", spec := "fnExactLineRoom", apart := false, narrowed := true }
def FnExactLineRoomUptoSaid : Prop := fnExactLineRoomUptoRow.holds Try.pinned (OpenSpec.upto fnExactLineRoomSpec)

/-- 'laws.FnExactCableOk', WHERE WHAT IT READS IS OF BULK AT MOST 1048576: true; the input reads as it did. -/
def fnExactCableOkUptoRow : OpenClaim := { program := "ytmibajhilbfecaa", sum := "9c4528c183b81d6b351c246477e245a850fa4848d00e9b38ce61142a4dac4ea1", func := "loop.example/g03313/laws.FnExactCableOk", spec := "fnExactCableOk", unfollowed := true, recurses := true, apart := false, narrowed := true }
def FnExactCableOkUptoSaid : Prop := fnExactCableOkUptoRow.holds Try.pinned (OpenSpec.upto fnExactCableOkSpec)

/-- 'laws.FnExactLaneWorks', WHERE WHAT IT READS IS OF BULK AT MOST 1048576: true; the input reads as it did. -/
def fnExactLaneWorksUptoRow : OpenClaim := { program := "ytmibajhilbfecaa", sum := "9c4528c183b81d6b351c246477e245a850fa4848d00e9b38ce61142a4dac4ea1", func := "loop.example/g03313/laws.FnExactLaneWorks", spec := "fnExactLaneWorks", unfollowed := true, recurses := true, apart := false, narrowed := true }
def FnExactLaneWorksUptoSaid : Prop := fnExactLaneWorksUptoRow.holds Try.pinned (OpenSpec.upto fnExactLaneWorksSpec)

/-- 'laws.FnExactSlotsNeeded', WHERE WHAT IT READS IS OF BULK AT MOST 1048576: true; the input reads as it did. -/
def fnExactSlotsNeededUptoRow : OpenClaim := { program := "ytmibajhilbfecaa", sum := "9c4528c183b81d6b351c246477e245a850fa4848d00e9b38ce61142a4dac4ea1", func := "loop.example/g03313/laws.FnExactSlotsNeeded", spec := "fnExactSlotsNeeded", apart := false, narrowed := true }
def FnExactSlotsNeededUptoSaid : Prop := fnExactSlotsNeededUptoRow.holds Try.pinned (OpenSpec.upto fnExactSlotsNeededSpec)

/-- 'laws.FnExactFitsLink', WHERE WHAT IT READS IS OF BULK AT MOST 1048576: true; the input reads as it did. -/
def fnExactFitsLinkUptoRow : OpenClaim := { program := "ytmibajhilbfecaa", sum := "9c4528c183b81d6b351c246477e245a850fa4848d00e9b38ce61142a4dac4ea1", func := "loop.example/g03313/laws.FnExactFitsLink", spec := "fnExactFitsLink", apart := false, narrowed := true }
def FnExactFitsLinkUptoSaid : Prop := fnExactFitsLinkUptoRow.holds Try.pinned (OpenSpec.upto fnExactFitsLinkSpec)

/-- 'laws.FnExactLinkWorks', WHERE WHAT IT READS IS OF BULK AT MOST 1048576: true; the input reads as it did. -/
def fnExactLinkWorksUptoRow : OpenClaim := { program := "ytmibajhilbfecaa", sum := "9c4528c183b81d6b351c246477e245a850fa4848d00e9b38ce61142a4dac4ea1", func := "loop.example/g03313/laws.FnExactLinkWorks", spec := "fnExactLinkWorks", unfollowed := true, recurses := true, apart := false, narrowed := true }
def FnExactLinkWorksUptoSaid : Prop := fnExactLinkWorksUptoRow.holds Try.pinned (OpenSpec.upto fnExactLinkWorksSpec)

/-- 'laws.FnExactLaneSkews', WHERE WHAT IT READS IS OF BULK AT MOST 1048576: true; the input reads as it did. -/
def fnExactLaneSkewsUptoRow : OpenClaim := { program := "ytmibajhilbfecaa", sum := "9c4528c183b81d6b351c246477e245a850fa4848d00e9b38ce61142a4dac4ea1", func := "loop.example/g03313/laws.FnExactLaneSkews", spec := "fnExactLaneSkews", unfollowed := true, recurses := true, apart := false, narrowed := true }
def FnExactLaneSkewsUptoSaid : Prop := fnExactLaneSkewsUptoRow.holds Try.pinned (OpenSpec.upto fnExactLaneSkewsSpec)

/-- 'laws.FnBandwidth', WHERE WHAT IT READS IS OF BULK AT MOST 1048576: true; the input reads as it did. -/
def fnBandwidthUptoRow : OpenClaim := { program := "ytmibajhilbfecaa", sum := "9c4528c183b81d6b351c246477e245a850fa4848d00e9b38ce61142a4dac4ea1", func := "loop.example/g03313/laws.FnBandwidth", spec := "fnBandwidth", apart := false, narrowed := true }
def FnBandwidthUptoSaid : Prop := fnBandwidthUptoRow.holds Try.pinned (OpenSpec.upto fnBandwidthSpec)

/-- 'laws.FnExactBestMode', WHERE WHAT IT READS IS OF BULK AT MOST 1048576: true; the input reads as it did. -/
def fnExactBestModeUptoRow : OpenClaim := { program := "ytmibajhilbfecaa", sum := "9c4528c183b81d6b351c246477e245a850fa4848d00e9b38ce61142a4dac4ea1", func := "loop.example/g03313/laws.FnExactBestMode", spec := "fnExactBestMode", apart := false, narrowed := true }
def FnExactBestModeUptoSaid : Prop := fnExactBestModeUptoRow.holds Try.pinned (OpenSpec.upto fnExactBestModeSpec)

/-- 'laws.FnBetterCable', WHERE WHAT IT READS IS OF BULK AT MOST 1048576: true; the input reads as it did. -/
def fnBetterCableUptoRow : OpenClaim := { program := "ytmibajhilbfecaa", sum := "9c4528c183b81d6b351c246477e245a850fa4848d00e9b38ce61142a4dac4ea1", func := "loop.example/g03313/laws.FnBetterCable", spec := "fnBetterCable", unfollowed := true, recurses := true, apart := false, narrowed := true }
def FnBetterCableUptoSaid : Prop := fnBetterCableUptoRow.holds Try.pinned (OpenSpec.upto fnBetterCableSpec)

/-- 'laws.FnExactTrainLink', WHERE WHAT IT READS IS OF BULK AT MOST 1048576: true; the input reads as it did. -/
def fnExactTrainLinkUptoRow : OpenClaim := { program := "ytmibajhilbfecaa", sum := "9c4528c183b81d6b351c246477e245a850fa4848d00e9b38ce61142a4dac4ea1", func := "loop.example/g03313/laws.FnExactTrainLink", spec := "fnExactTrainLink", unfollowed := true, recurses := true, apart := false, narrowed := true }
def FnExactTrainLinkUptoSaid : Prop := fnExactTrainLinkUptoRow.holds Try.pinned (OpenSpec.upto fnExactTrainLinkSpec)

end Rows
end Go.Proofs.Ytmibajhilbfecaa
