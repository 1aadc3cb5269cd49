/-
  No cell of these rows narrows 'for every input' (looked for: loops, veiled, ifaces, maps, wideKeys, modest, calm, conditions, laid).
  DERIVED. THE GIVEN ROWS OF THIS SEAT. 9 by the template 'for every input the law returns true; each argument reads behind the call as it read before'; 0 by the template 'total and deterministic' (their statements: YtnagphedlmbagaaTotals.lean).
  GIVEN WITH THE SEED: the statements are not yours to turn. If you find one false, say at which input.
  Laid BY PROGRAM, IN A SANDBOX (cutbox-rows.mjs): the forced cells as the released guide's own fill.sh prints them over the translation 67e6f23b85f2096d… (all of the seat's roots in one cut). By AI agents, Wed Nov 11 2026. No macro, syntax, notation, axiom, sorry.
-/
import Derived.Test.YtnagphedlmbagaaChecked
import GoSem.Claim
import GoSem.ClaimJoined
import GoSem.ClaimMapViews
import Derived.JoinedTies
import Derived.KernelRfl
namespace Go.Proofs.Ytnagphedlmbagaa
/- THE CELL 'sum', in the pinned program and in every row, IS THE sha256 OF THE DUMP (.gsa) THAT YtnagphedlmbagaaProg.lean LOADS. Nothing in Lean hashes anything: it is a label: what it is worth is what the hold of that sum in a sandbox is worth. -/
noncomputable def Try.pinned : Pinned := { name := "ytnagphedlmbagaa", sum := "67e6f23b85f2096db23151003afc3a8cfdba48c0814dd24d56da06ec15b6fa73", checked := Try.checked }
namespace Rows
def none {H : Type} : Left H := { results := [], args := [] }

/-- 'laws.FnExactStartOf': WHATEVER THE INPUT: true; the input reads as it did. -/
def fnExactStartOfSpec : ChangeSpec := { name := "fnExactStartOf", fn := fun _ => fun
  | [d] => { results := [.lit (.bool true)], args := [d] }
  | _ => none }
def fnExactStartOfRow : OpenClaim := { program := "ytnagphedlmbagaa", sum := "67e6f23b85f2096db23151003afc3a8cfdba48c0814dd24d56da06ec15b6fa73", func := "loop.example/g03313/laws.FnExactStartOf", spec := "fnExactStartOf", apart := false }
def FnExactStartOfSaid : Prop := fnExactStartOfRow.holds Try.pinned (OpenSpec.ofChange fnExactStartOfSpec)

/-- ITS FALSE NEIGHBOUR: 'it returns false'. Refute it at one input. -/
def fnExactStartOfWrong : ChangeSpec := { name := "fnExactStartOf", fn := fun _ => fun
  | [d] => { results := [.lit (.bool false)], args := [d] }
  | _ => none }
def FnExactStartOfWrongFalsely : Prop := fnExactStartOfRow.holds Try.pinned (OpenSpec.ofChange fnExactStartOfWrong)

/-- 'laws.FnExactLongestZeros': WHATEVER THE INPUT: true; the input reads as it did. -/
def fnExactLongestZerosSpec : ChangeSpec := { name := "fnExactLongestZeros", fn := fun _ => fun
  | [d] => { results := [.lit (.bool true)], args := [d] }
  | _ => none }
def fnExactLongestZerosRow : OpenClaim := { program := "ytnagphedlmbagaa", sum := "67e6f23b85f2096db23151003afc3a8cfdba48c0814dd24d56da06ec15b6fa73", func := "loop.example/g03313/laws.FnExactLongestZeros", spec := "fnExactLongestZeros", apart := false }
def FnExactLongestZerosSaid : Prop := fnExactLongestZerosRow.holds Try.pinned (OpenSpec.ofChange fnExactLongestZerosSpec)

/-- ITS FALSE NEIGHBOUR: 'it returns false'. Refute it at one input. -/
def fnExactLongestZerosWrong : ChangeSpec := { name := "fnExactLongestZeros", fn := fun _ => fun
  | [d] => { results := [.lit (.bool false)], args := [d] }
  | _ => none }
def FnExactLongestZerosWrongFalsely : Prop := fnExactLongestZerosRow.holds Try.pinned (OpenSpec.ofChange fnExactLongestZerosWrong)

/-- 'laws.FnExactScrambleAfter': WHATEVER THE INPUT: true; the input reads as it did. -/
def fnExactScrambleAfterSpec : ChangeSpec := { name := "fnExactScrambleAfter", fn := fun _ => fun
  | [d1, d2] => { results := [.lit (.bool true)], args := [d1, d2] }
  | _ => none }
def fnExactScrambleAfterRow : OpenClaim := { program := "ytnagphedlmbagaa", sum := "67e6f23b85f2096db23151003afc3a8cfdba48c0814dd24d56da06ec15b6fa73", func := "loop.example/g03313/laws.FnExactScrambleAfter", spec := "fnExactScrambleAfter", apart := false }
def FnExactScrambleAfterSaid : Prop := fnExactScrambleAfterRow.holds Try.pinned (OpenSpec.ofChange fnExactScrambleAfterSpec)

/-- ITS FALSE NEIGHBOUR: 'it returns false'. Refute it at one input. -/
def fnExactScrambleAfterWrong : ChangeSpec := { name := "fnExactScrambleAfter", fn := fun _ => fun
  | [d1, d2] => { results := [.lit (.bool false)], args := [d1, d2] }
  | _ => none }
def FnExactScrambleAfterWrongFalsely : Prop := fnExactScrambleAfterRow.holds Try.pinned (OpenSpec.ofChange fnExactScrambleAfterWrong)

/-- 'laws.FnExactFreeSlots': WHATEVER THE INPUT: true; the input reads as it did. -/
def fnExactFreeSlotsSpec : ChangeSpec := { name := "fnExactFreeSlots", fn := fun _ => fun
  | [d1, d2] => { results := [.lit (.bool true)], args := [d1, d2] }
  | _ => none }
def fnExactFreeSlotsRow : OpenClaim := { program := "ytnagphedlmbagaa", sum := "67e6f23b85f2096db23151003afc3a8cfdba48c0814dd24d56da06ec15b6fa73", func := "loop.example/g03313/laws.FnExactFreeSlots", spec := "fnExactFreeSlots", apart := false }
def FnExactFreeSlotsSaid : Prop := fnExactFreeSlotsRow.holds Try.pinned (OpenSpec.ofChange fnExactFreeSlotsSpec)

/-- ITS FALSE NEIGHBOUR: 'it returns false'. Refute it at one input. -/
def fnExactFreeSlotsWrong : ChangeSpec := { name := "fnExactFreeSlots", fn := fun _ => fun
  | [d1, d2] => { results := [.lit (.bool false)], args := [d1, d2] }
  | _ => none }
def FnExactFreeSlotsWrongFalsely : Prop := fnExactFreeSlotsRow.holds Try.pinned (OpenSpec.ofChange fnExactFreeSlotsWrong)

/-- 'laws.FnSlots': WHATEVER THE INPUT: true; the input reads as it did. -/
def fnSlotsSpec : ChangeSpec := { name := "fnSlots", fn := fun _ => fun
  | [d] => { results := [.lit (.bool true)], args := [d] }
  | _ => none }
def fnSlotsRow : OpenClaim := { program := "ytnagphedlmbagaa", sum := "67e6f23b85f2096db23151003afc3a8cfdba48c0814dd24d56da06ec15b6fa73", func := "loop.example/g03313/laws.FnSlots", spec := "fnSlots", unfollowed := true, recurses := true, apart := false }
def FnSlotsSaid : Prop := fnSlotsRow.holds Try.pinned (OpenSpec.ofChange fnSlotsSpec)

/-- ITS FALSE NEIGHBOUR: 'it returns false'. Refute it at one input. -/
def fnSlotsWrong : ChangeSpec := { name := "fnSlots", fn := fun _ => fun
  | [d] => { results := [.lit (.bool false)], args := [d] }
  | _ => none }
def FnSlotsWrongFalsely : Prop := fnSlotsRow.holds Try.pinned (OpenSpec.ofChange fnSlotsWrong)

/-- 'laws.FnExactBitsOf': WHATEVER THE INPUT: true; the input reads as it did. -/
def fnExactBitsOfSpec : ChangeSpec := { name := "fnExactBitsOf", fn := fun _ => fun
  | [d] => { results := [.lit (.bool true)], args := [d] }
  | _ => none }
def fnExactBitsOfRow : OpenClaim := { program := "ytnagphedlmbagaa", sum := "67e6f23b85f2096db23151003afc3a8cfdba48c0814dd24d56da06ec15b6fa73", func := "loop.example/g03313/laws.FnExactBitsOf", spec := "fnExactBitsOf", unfollowed := true, recurses := true, apart := false }
def FnExactBitsOfSaid : Prop := fnExactBitsOfRow.holds Try.pinned (OpenSpec.ofChange fnExactBitsOfSpec)

/-- ITS FALSE NEIGHBOUR: 'it returns false'. Refute it at one input. -/
def fnExactBitsOfWrong : ChangeSpec := { name := "fnExactBitsOf", fn := fun _ => fun
  | [d] => { results := [.lit (.bool false)], args := [d] }
  | _ => none }
def FnExactBitsOfWrongFalsely : Prop := fnExactBitsOfRow.holds Try.pinned (OpenSpec.ofChange fnExactBitsOfWrong)

/-- 'laws.FnExactScramble': WHATEVER THE INPUT: true; the input reads as it did. -/
def fnExactScrambleSpec : ChangeSpec := { name := "fnExactScramble", fn := fun _ => fun
  | [d1, d2] => { results := [.lit (.bool true)], args := [d1, d2] }
  | _ => none }
def fnExactScrambleRow : OpenClaim := { program := "ytnagphedlmbagaa", sum := "67e6f23b85f2096db23151003afc3a8cfdba48c0814dd24d56da06ec15b6fa73", func := "loop.example/g03313/laws.FnExactScramble", spec := "fnExactScramble", apart := false }
def FnExactScrambleSaid : Prop := fnExactScrambleRow.holds Try.pinned (OpenSpec.ofChange fnExactScrambleSpec)

/-- ITS FALSE NEIGHBOUR: 'it returns false'. Refute it at one input. -/
def fnExactScrambleWrong : ChangeSpec := { name := "fnExactScramble", fn := fun _ => fun
  | [d1, d2] => { results := [.lit (.bool false)], args := [d1, d2] }
  | _ => none }
def FnExactScrambleWrongFalsely : Prop := fnExactScrambleRow.holds Try.pinned (OpenSpec.ofChange fnExactScrambleWrong)

/-- 'laws.FnScrambled': WHATEVER THE INPUT: true; the input reads as it did. -/
def fnScrambledSpec : ChangeSpec := { name := "fnScrambled", fn := fun _ => fun
  | [d] => { results := [.lit (.bool true)], args := [d] }
  | _ => none }
def fnScrambledRow : OpenClaim := { program := "ytnagphedlmbagaa", sum := "67e6f23b85f2096db23151003afc3a8cfdba48c0814dd24d56da06ec15b6fa73", func := "loop.example/g03313/laws.FnScrambled", spec := "fnScrambled", apart := false }
def FnScrambledSaid : Prop := fnScrambledRow.holds Try.pinned (OpenSpec.ofChange fnScrambledSpec)

/-- ITS FALSE NEIGHBOUR: 'it returns false'. Refute it at one input. -/
def fnScrambledWrong : ChangeSpec := { name := "fnScrambled", fn := fun _ => fun
  | [d] => { results := [.lit (.bool false)], args := [d] }
  | _ => none }
def FnScrambledWrongFalsely : Prop := fnScrambledRow.holds Try.pinned (OpenSpec.ofChange fnScrambledWrong)

/-- 'laws.FnExactTakeSlots': WHATEVER THE INPUT: true; the input reads as it did. -/
def fnExactTakeSlotsSpec : ChangeSpec := { name := "fnExactTakeSlots", fn := fun _ => fun
  | [d1, d2, d3] => { results := [.lit (.bool true)], args := [d1, d2, d3] }
  | _ => none }
def fnExactTakeSlotsRow : OpenClaim := { program := "ytnagphedlmbagaa", sum := "67e6f23b85f2096db23151003afc3a8cfdba48c0814dd24d56da06ec15b6fa73", func := "loop.example/g03313/laws.FnExactTakeSlots", spec := "fnExactTakeSlots", unfollowed := true, recurses := true, apart := false }
def FnExactTakeSlotsSaid : Prop := fnExactTakeSlotsRow.holds Try.pinned (OpenSpec.ofChange fnExactTakeSlotsSpec)

/-- ITS FALSE NEIGHBOUR: 'it returns false'. Refute it at one input. -/
def fnExactTakeSlotsWrong : ChangeSpec := { name := "fnExactTakeSlots", fn := fun _ => fun
  | [d1, d2, d3] => { results := [.lit (.bool false)], args := [d1, d2, d3] }
  | _ => none }
def FnExactTakeSlotsWrongFalsely : Prop := fnExactTakeSlotsRow.holds Try.pinned (OpenSpec.ofChange fnExactTakeSlotsWrong)

/- THE SECOND FORM. 'bulk': how many values and letters a reading holds, each counted each time it is reached (what is shared counts as often as it is met; a slice's spare places count too). A statement '..UptoSaid' is the law's where the arguments, and the package variables that the reading takes, are together of bulk at most 1048576: NARROWER than '..Said'. Prove '..Said' where nothing that the law and all that it calls make is longer than what came in: it says more and counts as full. Else prove '..UptoSaid'. A law counts once. -/
mutual
def uptoBulk {H : Type} : DataW H → Nat
  | .lit (.string bytes) => bytes.length + 1
  | .lit _ => 1
  | .nil => 1
  | .ptr d => uptoBulk d + 1
  | .slice elems spare => uptoBulkAll elems + uptoBulkAll spare + 1
  | .agg parts => uptoBulkAll parts + 1
  | .iface _ d => uptoBulk d + 1
  | .map entries => uptoBulkEntries entries + 1
  | .held _ => 1
def uptoBulkAll {H : Type} : List (DataW H) → Nat
  | [] => 0
  | d :: r => uptoBulk d + uptoBulkAll r
def uptoBulkEntries {H : Type} : List (Lit × DataW H) → Nat
  | [] => 0
  | x :: r => uptoBulkEntry x + uptoBulkEntries r
def uptoBulkEntry {H : Type} : Lit × DataW H → Nat
  | (.string bytes, d) => bytes.length + uptoBulk d + 1
  | (_, d) => uptoBulk d + 1
 end
def uptoSmall : (H : Type) → List (DataW H) → Bool := fun _ ds => decide (uptoBulkAll ds ≤ 1048576)
def OpenSpec.upto (s : _root_.Go.ChangeSpec) : _root_.Go.OpenSpec := { _root_.Go.OpenSpec.ofChange s with cond := some uptoSmall }

/-- 'laws.FnExactStartOf', WHERE WHAT IT READS IS OF BULK AT MOST 1048576: true; the input reads as it did. -/
def fnExactStartOfUptoRow : OpenClaim := { program := "ytnagphedlmbagaa", sum := "67e6f23b85f2096db23151003afc3a8cfdba48c0814dd24d56da06ec15b6fa73", func := "loop.example/g03313/laws.FnExactStartOf", spec := "fnExactStartOf", apart := false, narrowed := true }
def FnExactStartOfUptoSaid : Prop := fnExactStartOfUptoRow.holds Try.pinned (OpenSpec.upto fnExactStartOfSpec)

/-- 'laws.FnExactLongestZeros', WHERE WHAT IT READS IS OF BULK AT MOST 1048576: true; the input reads as it did. -/
def fnExactLongestZerosUptoRow : OpenClaim := { program := "ytnagphedlmbagaa", sum := "67e6f23b85f2096db23151003afc3a8cfdba48c0814dd24d56da06ec15b6fa73", func := "loop.example/g03313/laws.FnExactLongestZeros", spec := "fnExactLongestZeros", apart := false, narrowed := true }
def FnExactLongestZerosUptoSaid : Prop := fnExactLongestZerosUptoRow.holds Try.pinned (OpenSpec.upto fnExactLongestZerosSpec)

/-- 'laws.FnExactScrambleAfter', WHERE WHAT IT READS IS OF BULK AT MOST 1048576: true; the input reads as it did. -/
def fnExactScrambleAfterUptoRow : OpenClaim := { program := "ytnagphedlmbagaa", sum := "67e6f23b85f2096db23151003afc3a8cfdba48c0814dd24d56da06ec15b6fa73", func := "loop.example/g03313/laws.FnExactScrambleAfter", spec := "fnExactScrambleAfter", apart := false, narrowed := true }
def FnExactScrambleAfterUptoSaid : Prop := fnExactScrambleAfterUptoRow.holds Try.pinned (OpenSpec.upto fnExactScrambleAfterSpec)

/-- 'laws.FnExactFreeSlots', WHERE WHAT IT READS IS OF BULK AT MOST 1048576: true; the input reads as it did. -/
def fnExactFreeSlotsUptoRow : OpenClaim := { program := "ytnagphedlmbagaa", sum := "67e6f23b85f2096db23151003afc3a8cfdba48c0814dd24d56da06ec15b6fa73", func := "loop.example/g03313/laws.FnExactFreeSlots", spec := "fnExactFreeSlots", apart := false, narrowed := true }
def FnExactFreeSlotsUptoSaid : Prop := fnExactFreeSlotsUptoRow.holds Try.pinned (OpenSpec.upto fnExactFreeSlotsSpec)

/-- 'laws.FnSlots', WHERE WHAT IT READS IS OF BULK AT MOST 1048576: true; the input reads as it did. -/
def fnSlotsUptoRow : OpenClaim := { program := "ytnagphedlmbagaa", sum := "67e6f23b85f2096db23151003afc3a8cfdba48c0814dd24d56da06ec15b6fa73", func := "loop.example/g03313/laws.FnSlots", spec := "fnSlots", unfollowed := true, recurses := true, apart := false, narrowed := true }
def FnSlotsUptoSaid : Prop := fnSlotsUptoRow.holds Try.pinned (OpenSpec.upto fnSlotsSpec)

/-- 'laws.FnExactBitsOf', WHERE WHAT IT READS IS OF BULK AT MOST 1048576: true; the input reads as it did. -/
def fnExactBitsOfUptoRow : OpenClaim := { program := "ytnagphedlmbagaa", sum := "67e6f23b85f2096db23151003afc3a8cfdba48c0814dd24d56da06ec15b6fa73", func := "loop.example/g03313/laws.FnExactBitsOf", spec := "fnExactBitsOf", unfollowed := true, recurses := true, apart := false, narrowed := true }
def FnExactBitsOfUptoSaid : Prop := fnExactBitsOfUptoRow.holds Try.pinned (OpenSpec.upto fnExactBitsOfSpec)

/-- 'laws.FnExactScramble', WHERE WHAT IT READS IS OF BULK AT MOST 1048576: true; the input reads as it did. -/
def fnExactScrambleUptoRow : OpenClaim := { program := "ytnagphedlmbagaa", sum := "67e6f23b85f2096db23151003afc3a8cfdba48c0814dd24d56da06ec15b6fa73", func := "loop.example/g03313/laws.FnExactScramble", spec := "fnExactScramble", apart := false, narrowed := true }
def FnExactScrambleUptoSaid : Prop := fnExactScrambleUptoRow.holds Try.pinned (OpenSpec.upto fnExactScrambleSpec)

/-- 'laws.FnScrambled', WHERE WHAT IT READS IS OF BULK AT MOST 1048576: true; the input reads as it did. -/
def fnScrambledUptoRow : OpenClaim := { program := "ytnagphedlmbagaa", sum := "67e6f23b85f2096db23151003afc3a8cfdba48c0814dd24d56da06ec15b6fa73", func := "loop.example/g03313/laws.FnScrambled", spec := "fnScrambled", apart := false, narrowed := true }
def FnScrambledUptoSaid : Prop := fnScrambledUptoRow.holds Try.pinned (OpenSpec.upto fnScrambledSpec)

/-- 'laws.FnExactTakeSlots', WHERE WHAT IT READS IS OF BULK AT MOST 1048576: true; the input reads as it did. -/
def fnExactTakeSlotsUptoRow : OpenClaim := { program := "ytnagphedlmbagaa", sum := "67e6f23b85f2096db23151003afc3a8cfdba48c0814dd24d56da06ec15b6fa73", func := "loop.example/g03313/laws.FnExactTakeSlots", spec := "fnExactTakeSlots", unfollowed := true, recurses := true, apart := false, narrowed := true }
def FnExactTakeSlotsUptoSaid : Prop := fnExactTakeSlotsUptoRow.holds Try.pinned (OpenSpec.upto fnExactTakeSlotsSpec)

end Rows
end Go.Proofs.Ytnagphedlmbagaa
