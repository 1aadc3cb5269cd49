/-
  No cell of these rows narrows 'for every input' (looked for: loops, veiled, ifaces, maps, wideKeys, modest, calm, conditions, laid).
  DERIVED. THE GIVEN ROWS OF THIS SEAT. 9 by the template 'for every input the law returns true; each argument reads behind the call as it read before'; 0 by the template 'total and deterministic' (their statements: YtkmbblooofmnpaaTotals.lean).
  GIVEN WITH THE SEED: the statements are not yours to turn. If you find one false, say at which input.
  Laid BY PROGRAM, IN A SANDBOX (cutbox-rows.mjs): the forced cells as the released guide's own fill.sh prints them over the translation 2afbe52f9fc51d1d… (all of the seat's roots in one cut). By AI agents, Wed Nov 11 2026. No macro, syntax, notation, axiom, sorry.
-/
import Derived.Test.YtkmbblooofmnpaaChecked
import GoSem.Claim
import GoSem.ClaimJoined
import GoSem.ClaimMapViews
import Derived.JoinedTies
import Derived.KernelRfl
namespace Go.Proofs.Ytkmbblooofmnpaa
/- THE CELL 'sum', in the pinned program and in every row, IS THE sha256 OF THE DUMP (.gsa) THAT YtkmbblooofmnpaaProg.lean LOADS. Nothing in Lean hashes anything: it is a label: what it is worth is what the hold of that sum in a sandbox is worth. -/
noncomputable def Try.pinned : Pinned := { name := "ytkmbblooofmnpaa", sum := "2afbe52f9fc51d1d804cec6a5f8631112f6f7fcdcd11b3ea23d235d15e0b1777", checked := Try.checked }
namespace Rows
def none {H : Type} : Left H := { results := [], args := [] }

/-- 'laws.FnPackets': WHATEVER THE INPUT: true; the input reads as it did. -/
def fnPacketsSpec : ChangeSpec := { name := "fnPackets", fn := fun _ => fun
  | [d] => { results := [.lit (.bool true)], args := [d] }
  | _ => none }
def fnPacketsRow : OpenClaim := { program := "ytkmbblooofmnpaa", sum := "2afbe52f9fc51d1d804cec6a5f8631112f6f7fcdcd11b3ea23d235d15e0b1777", func := "loop.example/g03313/laws.FnPackets", spec := "fnPackets", apart := false }
def FnPacketsSaid : Prop := fnPacketsRow.holds Try.pinned (OpenSpec.ofChange fnPacketsSpec)

/-- ITS FALSE NEIGHBOUR: 'it returns false'. Refute it at one input. -/
def fnPacketsWrong : ChangeSpec := { name := "fnPackets", fn := fun _ => fun
  | [d] => { results := [.lit (.bool false)], args := [d] }
  | _ => none }
def FnPacketsWrongFalsely : Prop := fnPacketsRow.holds Try.pinned (OpenSpec.ofChange fnPacketsWrong)

/-- 'laws.FnExactReceiveLanes': WHATEVER THE INPUT: true; the input reads as it did. -/
def fnExactReceiveLanesSpec : ChangeSpec := { name := "fnExactReceiveLanes", fn := fun _ => fun
  | [d] => { results := [.lit (.bool true)], args := [d] }
  | _ => none }
def fnExactReceiveLanesRow : OpenClaim := { program := "ytkmbblooofmnpaa", sum := "2afbe52f9fc51d1d804cec6a5f8631112f6f7fcdcd11b3ea23d235d15e0b1777", func := "loop.example/g03313/laws.FnExactReceiveLanes", spec := "fnExactReceiveLanes", apart := false }
def FnExactReceiveLanesSaid : Prop := fnExactReceiveLanesRow.holds Try.pinned (OpenSpec.ofChange fnExactReceiveLanesSpec)

/-- ITS FALSE NEIGHBOUR: 'it returns false'. Refute it at one input. -/
def fnExactReceiveLanesWrong : ChangeSpec := { name := "fnExactReceiveLanes", fn := fun _ => fun
  | [d] => { results := [.lit (.bool false)], args := [d] }
  | _ => none }
def FnExactReceiveLanesWrongFalsely : Prop := fnExactReceiveLanesRow.holds Try.pinned (OpenSpec.ofChange fnExactReceiveLanesWrong)

/-- 'laws.FnExactDisturbLane': WHATEVER THE INPUT: true; the input reads as it did. -/
def fnExactDisturbLaneSpec : ChangeSpec := { name := "fnExactDisturbLane", fn := fun _ => fun
  | [d1, d2, d3, d4] => { results := [.lit (.bool true)], args := [d1, d2, d3, d4] }
  | _ => none }
def fnExactDisturbLaneRow : OpenClaim := { program := "ytkmbblooofmnpaa", sum := "2afbe52f9fc51d1d804cec6a5f8631112f6f7fcdcd11b3ea23d235d15e0b1777", func := "loop.example/g03313/laws.FnExactDisturbLane", spec := "fnExactDisturbLane", apart := false }
def FnExactDisturbLaneSaid : Prop := fnExactDisturbLaneRow.holds Try.pinned (OpenSpec.ofChange fnExactDisturbLaneSpec)

/-- ITS FALSE NEIGHBOUR: 'it returns false'. Refute it at one input. -/
def fnExactDisturbLaneWrong : ChangeSpec := { name := "fnExactDisturbLane", fn := fun _ => fun
  | [d1, d2, d3, d4] => { results := [.lit (.bool false)], args := [d1, d2, d3, d4] }
  | _ => none }
def FnExactDisturbLaneWrongFalsely : Prop := fnExactDisturbLaneRow.holds Try.pinned (OpenSpec.ofChange fnExactDisturbLaneWrong)

/-- 'laws.FnExactPacketNibbles': WHATEVER THE INPUT: true; the input reads as it did. -/
def fnExactPacketNibblesSpec : ChangeSpec := { name := "fnExactPacketNibbles", fn := fun _ => fun
  | [d] => { results := [.lit (.bool true)], args := [d] }
  | _ => none }
def fnExactPacketNibblesRow : OpenClaim := { program := "ytkmbblooofmnpaa", sum := "2afbe52f9fc51d1d804cec6a5f8631112f6f7fcdcd11b3ea23d235d15e0b1777", func := "loop.example/g03313/laws.FnExactPacketNibbles", spec := "fnExactPacketNibbles", apart := false }
def FnExactPacketNibblesSaid : Prop := fnExactPacketNibblesRow.holds Try.pinned (OpenSpec.ofChange fnExactPacketNibblesSpec)

/-- ITS FALSE NEIGHBOUR: 'it returns false'. Refute it at one input. -/
def fnExactPacketNibblesWrong : ChangeSpec := { name := "fnExactPacketNibbles", fn := fun _ => fun
  | [d] => { results := [.lit (.bool false)], args := [d] }
  | _ => none }
def FnExactPacketNibblesWrongFalsely : Prop := fnExactPacketNibblesRow.holds Try.pinned (OpenSpec.ofChange fnExactPacketNibblesWrong)

/-- 'laws.FnBlocks': WHATEVER THE INPUT: true; the input reads as it did. -/
def fnBlocksSpec : ChangeSpec := { name := "fnBlocks", fn := fun _ => fun
  | [d] => { results := [.lit (.bool true)], args := [d] }
  | _ => none }
def fnBlocksRow : OpenClaim := { program := "ytkmbblooofmnpaa", sum := "2afbe52f9fc51d1d804cec6a5f8631112f6f7fcdcd11b3ea23d235d15e0b1777", func := "loop.example/g03313/laws.FnBlocks", spec := "fnBlocks", apart := false }
def FnBlocksSaid : Prop := fnBlocksRow.holds Try.pinned (OpenSpec.ofChange fnBlocksSpec)

/-- ITS FALSE NEIGHBOUR: 'it returns false'. Refute it at one input. -/
def fnBlocksWrong : ChangeSpec := { name := "fnBlocks", fn := fun _ => fun
  | [d] => { results := [.lit (.bool false)], args := [d] }
  | _ => none }
def FnBlocksWrongFalsely : Prop := fnBlocksRow.holds Try.pinned (OpenSpec.ofChange fnBlocksWrong)

/-- 'laws.FnExactSendLanes': WHATEVER THE INPUT: true; the input reads as it did. -/
def fnExactSendLanesSpec : ChangeSpec := { name := "fnExactSendLanes", fn := fun _ => fun
  | [d1, d2] => { results := [.lit (.bool true)], args := [d1, d2] }
  | _ => none }
def fnExactSendLanesRow : OpenClaim := { program := "ytkmbblooofmnpaa", sum := "2afbe52f9fc51d1d804cec6a5f8631112f6f7fcdcd11b3ea23d235d15e0b1777", func := "loop.example/g03313/laws.FnExactSendLanes", spec := "fnExactSendLanes", unfollowed := true, recurses := true, apart := false }
def FnExactSendLanesSaid : Prop := fnExactSendLanesRow.holds Try.pinned (OpenSpec.ofChange fnExactSendLanesSpec)

/-- ITS FALSE NEIGHBOUR: 'it returns false'. Refute it at one input. -/
def fnExactSendLanesWrong : ChangeSpec := { name := "fnExactSendLanes", fn := fun _ => fun
  | [d1, d2] => { results := [.lit (.bool false)], args := [d1, d2] }
  | _ => none }
def FnExactSendLanesWrongFalsely : Prop := fnExactSendLanesRow.holds Try.pinned (OpenSpec.ofChange fnExactSendLanesWrong)

/-- 'laws.FnLanes': WHATEVER THE INPUT: true; the input reads as it did. -/
def fnLanesSpec : ChangeSpec := { name := "fnLanes", fn := fun _ => fun
  | [d] => { results := [.lit (.bool true)], args := [d] }
  | _ => none }
def fnLanesRow : OpenClaim := { program := "ytkmbblooofmnpaa", sum := "2afbe52f9fc51d1d804cec6a5f8631112f6f7fcdcd11b3ea23d235d15e0b1777", func := "loop.example/g03313/laws.FnLanes", spec := "fnLanes", unfollowed := true, recurses := true, apart := false }
def FnLanesSaid : Prop := fnLanesRow.holds Try.pinned (OpenSpec.ofChange fnLanesSpec)

/-- ITS FALSE NEIGHBOUR: 'it returns false'. Refute it at one input. -/
def fnLanesWrong : ChangeSpec := { name := "fnLanes", fn := fun _ => fun
  | [d] => { results := [.lit (.bool false)], args := [d] }
  | _ => none }
def FnLanesWrongFalsely : Prop := fnLanesRow.holds Try.pinned (OpenSpec.ofChange fnLanesWrong)

/-- 'laws.FnExactReadPacket': WHATEVER THE INPUT: true; the input reads as it did. -/
def fnExactReadPacketSpec : ChangeSpec := { name := "fnExactReadPacket", fn := fun _ => fun
  | [d] => { results := [.lit (.bool true)], args := [d] }
  | _ => none }
def fnExactReadPacketRow : OpenClaim := { program := "ytkmbblooofmnpaa", sum := "2afbe52f9fc51d1d804cec6a5f8631112f6f7fcdcd11b3ea23d235d15e0b1777", func := "loop.example/g03313/laws.FnExactReadPacket", spec := "fnExactReadPacket", apart := false }
def FnExactReadPacketSaid : Prop := fnExactReadPacketRow.holds Try.pinned (OpenSpec.ofChange fnExactReadPacketSpec)

/-- ITS FALSE NEIGHBOUR: 'it returns false'. Refute it at one input. -/
def fnExactReadPacketWrong : ChangeSpec := { name := "fnExactReadPacket", fn := fun _ => fun
  | [d] => { results := [.lit (.bool false)], args := [d] }
  | _ => none }
def FnExactReadPacketWrongFalsely : Prop := fnExactReadPacketRow.holds Try.pinned (OpenSpec.ofChange fnExactReadPacketWrong)

/-- 'laws.FnDisturbed': WHATEVER THE INPUT: true; the input reads as it did. -/
def fnDisturbedSpec : ChangeSpec := { name := "fnDisturbed", fn := fun _ => fun
  | [d] => { results := [.lit (.bool true)], args := [d] }
  | _ => none }
def fnDisturbedRow : OpenClaim := { program := "ytkmbblooofmnpaa", sum := "2afbe52f9fc51d1d804cec6a5f8631112f6f7fcdcd11b3ea23d235d15e0b1777", func := "loop.example/g03313/laws.FnDisturbed", spec := "fnDisturbed", unfollowed := true, recurses := true, apart := false }
def FnDisturbedSaid : Prop := fnDisturbedRow.holds Try.pinned (OpenSpec.ofChange fnDisturbedSpec)

/-- ITS FALSE NEIGHBOUR: 'it returns false'. Refute it at one input. -/
def fnDisturbedWrong : ChangeSpec := { name := "fnDisturbed", fn := fun _ => fun
  | [d] => { results := [.lit (.bool false)], args := [d] }
  | _ => none }
def FnDisturbedWrongFalsely : Prop := fnDisturbedRow.holds Try.pinned (OpenSpec.ofChange fnDisturbedWrong)

/- THE SECOND FORM. 'bulk': how many values and letters a reading holds, each counted each time it is reached (what is shared counts as often as it is met; a slice's spare places count too). A statement '..UptoSaid' is the law's where the arguments, and the package variables that the reading takes, are together of bulk at most 1048576: NARROWER than '..Said'. Prove '..Said' where nothing that the law and all that it calls make is longer than what came in: it says more and counts as full. Else prove '..UptoSaid'. A law counts once. -/
mutual
def uptoBulk {H : Type} : DataW H → Nat
  | .lit (.string bytes) => bytes.length + 1
  | .lit _ => 1
  | .nil => 1
  | .ptr d => uptoBulk d + 1
  | .slice elems spare => uptoBulkAll elems + uptoBulkAll spare + 1
  | .agg parts => uptoBulkAll parts + 1
  | .iface _ d => uptoBulk d + 1
  | .map entries => uptoBulkEntries entries + 1
  | .held _ => 1
def uptoBulkAll {H : Type} : List (DataW H) → Nat
  | [] => 0
  | d :: r => uptoBulk d + uptoBulkAll r
def uptoBulkEntries {H : Type} : List (Lit × DataW H) → Nat
  | [] => 0
  | x :: r => uptoBulkEntry x + uptoBulkEntries r
def uptoBulkEntry {H : Type} : Lit × DataW H → Nat
  | (.string bytes, d) => bytes.length + uptoBulk d + 1
  | (_, d) => uptoBulk d + 1
 end
def uptoSmall : (H : Type) → List (DataW H) → Bool := fun _ ds => decide (uptoBulkAll ds ≤ 1048576)
def OpenSpec.upto (s : _root_.Go.ChangeSpec) : _root_.Go.OpenSpec := { _root_.Go.OpenSpec.ofChange s with cond := some uptoSmall }

/-- 'laws.FnPackets', WHERE WHAT IT READS IS OF BULK AT MOST 1048576: true; the input reads as it did. -/
def fnPacketsUptoRow : OpenClaim := { program := "ytkmbblooofmnpaa", sum := "2afbe52f9fc51d1d804cec6a5f8631112f6f7fcdcd11b3ea23d235d15e0b1777", func := "loop.example/g03313/laws.FnPackets", spec := "fnPackets", apart := false, narrowed := true }
def FnPacketsUptoSaid : Prop := fnPacketsUptoRow.holds Try.pinned (OpenSpec.upto fnPacketsSpec)

/-- 'laws.FnExactReceiveLanes', WHERE WHAT IT READS IS OF BULK AT MOST 1048576: true; the input reads as it did. -/
def fnExactReceiveLanesUptoRow : OpenClaim := { program := "ytkmbblooofmnpaa", sum := "2afbe52f9fc51d1d804cec6a5f8631112f6f7fcdcd11b3ea23d235d15e0b1777", func := "loop.example/g03313/laws.FnExactReceiveLanes", spec := "fnExactReceiveLanes", apart := false, narrowed := true }
def FnExactReceiveLanesUptoSaid : Prop := fnExactReceiveLanesUptoRow.holds Try.pinned (OpenSpec.upto fnExactReceiveLanesSpec)

/-- 'laws.FnExactDisturbLane', WHERE WHAT IT READS IS OF BULK AT MOST 1048576: true; the input reads as it did. -/
def fnExactDisturbLaneUptoRow : OpenClaim := { program := "ytkmbblooofmnpaa", sum := "2afbe52f9fc51d1d804cec6a5f8631112f6f7fcdcd11b3ea23d235d15e0b1777", func := "loop.example/g03313/laws.FnExactDisturbLane", spec := "fnExactDisturbLane", apart := false, narrowed := true }
def FnExactDisturbLaneUptoSaid : Prop := fnExactDisturbLaneUptoRow.holds Try.pinned (OpenSpec.upto fnExactDisturbLaneSpec)

/-- 'laws.FnExactPacketNibbles', WHERE WHAT IT READS IS OF BULK AT MOST 1048576: true; the input reads as it did. -/
def fnExactPacketNibblesUptoRow : OpenClaim := { program := "ytkmbblooofmnpaa", sum := "2afbe52f9fc51d1d804cec6a5f8631112f6f7fcdcd11b3ea23d235d15e0b1777", func := "loop.example/g03313/laws.FnExactPacketNibbles", spec := "fnExactPacketNibbles", apart := false, narrowed := true }
def FnExactPacketNibblesUptoSaid : Prop := fnExactPacketNibblesUptoRow.holds Try.pinned (OpenSpec.upto fnExactPacketNibblesSpec)

/-- 'laws.FnBlocks', WHERE WHAT IT READS IS OF BULK AT MOST 1048576: true; the input reads as it did. -/
def fnBlocksUptoRow : OpenClaim := { program := "ytkmbblooofmnpaa", sum := "2afbe52f9fc51d1d804cec6a5f8631112f6f7fcdcd11b3ea23d235d15e0b1777", func := "loop.example/g03313/laws.FnBlocks", spec := "fnBlocks", apart := false, narrowed := true }
def FnBlocksUptoSaid : Prop := fnBlocksUptoRow.holds Try.pinned (OpenSpec.upto fnBlocksSpec)

/-- 'laws.FnExactSendLanes', WHERE WHAT IT READS IS OF BULK AT MOST 1048576: true; the input reads as it did. -/
def fnExactSendLanesUptoRow : OpenClaim := { program := "ytkmbblooofmnpaa", sum := "2afbe52f9fc51d1d804cec6a5f8631112f6f7fcdcd11b3ea23d235d15e0b1777", func := "loop.example/g03313/laws.FnExactSendLanes", spec := "fnExactSendLanes", unfollowed := true, recurses := true, apart := false, narrowed := true }
def FnExactSendLanesUptoSaid : Prop := fnExactSendLanesUptoRow.holds Try.pinned (OpenSpec.upto fnExactSendLanesSpec)

/-- 'laws.FnLanes', WHERE WHAT IT READS IS OF BULK AT MOST 1048576: true; the input reads as it did. -/
def fnLanesUptoRow : OpenClaim := { program := "ytkmbblooofmnpaa", sum := "2afbe52f9fc51d1d804cec6a5f8631112f6f7fcdcd11b3ea23d235d15e0b1777", func := "loop.example/g03313/laws.FnLanes", spec := "fnLanes", unfollowed := true, recurses := true, apart := false, narrowed := true }
def FnLanesUptoSaid : Prop := fnLanesUptoRow.holds Try.pinned (OpenSpec.upto fnLanesSpec)

/-- 'laws.FnExactReadPacket', WHERE WHAT IT READS IS OF BULK AT MOST 1048576: true; the input reads as it did. -/
def fnExactReadPacketUptoRow : OpenClaim := { program := "ytkmbblooofmnpaa", sum := "2afbe52f9fc51d1d804cec6a5f8631112f6f7fcdcd11b3ea23d235d15e0b1777", func := "loop.example/g03313/laws.FnExactReadPacket", spec := "fnExactReadPacket", apart := false, narrowed := true }
def FnExactReadPacketUptoSaid : Prop := fnExactReadPacketUptoRow.holds Try.pinned (OpenSpec.upto fnExactReadPacketSpec)

/-- 'laws.FnDisturbed', WHERE WHAT IT READS IS OF BULK AT MOST 1048576: true; the input reads as it did. -/
def fnDisturbedUptoRow : OpenClaim := { program := "ytkmbblooofmnpaa", sum := "2afbe52f9fc51d1d804cec6a5f8631112f6f7fcdcd11b3ea23d235d15e0b1777", func := "loop.example/g03313/laws.FnDisturbed", spec := "fnDisturbed", unfollowed := true, recurses := true, apart := false, narrowed := true }
def FnDisturbedUptoSaid : Prop := fnDisturbedUptoRow.holds Try.pinned (OpenSpec.upto fnDisturbedSpec)

end Rows
end Go.Proofs.Ytkmbblooofmnpaa
