/-
  No cell of these rows narrows 'for every input' (looked for: loops, veiled, ifaces, maps, wideKeys, modest, calm, conditions, laid).
  DERIVED. THE GIVEN ROWS OF THIS SEAT. 12 by the template 'for every input the law returns true; each argument reads behind the call as it read before'; 0 by the template 'total and deterministic' (their statements: YtfcniebfoboogaaTotals.lean).
  GIVEN WITH THE SEED: the statements are not yours to turn. If you find one false, say at which input.
  Laid BY PROGRAM, IN A SANDBOX (cutbox-rows.mjs): the forced cells as the released guide's own fill.sh prints them over the translation d9dd02372c3cee92… (all of the seat's roots in one cut). By AI agents, Wed Nov 11 2026. No macro, syntax, notation, axiom, sorry.
-/
import Derived.Test.YtfcniebfoboogaaChecked
import GoSem.Claim
import GoSem.ClaimJoined
import GoSem.ClaimMapViews
import Derived.JoinedTies
import Derived.KernelRfl
namespace Go.Proofs.Ytfcniebfoboogaa
/- THE CELL 'sum', in the pinned program and in every row, IS THE sha256 OF THE DUMP (.gsa) THAT YtfcniebfoboogaaProg.lean LOADS. Nothing in Lean hashes anything: it is a label: what it is worth is what the hold of that sum in a sandbox is worth. -/
noncomputable def Try.pinned : Pinned := { name := "ytfcniebfoboogaa", sum := "d9dd02372c3cee929569ac4344b1416f350cff65f410bd06190c8a8677a400d3", checked := Try.checked }
namespace Rows
def none {H : Type} : Left H := { results := [], args := [] }

/-- 'laws.FnExactValidWire': WHATEVER THE INPUT: true; the input reads as it did. -/
def fnExactValidWireSpec : ChangeSpec := { name := "fnExactValidWire", fn := fun _ => fun
  | [d] => { results := [.lit (.bool true)], args := [d] }
  | _ => none }
def fnExactValidWireRow : OpenClaim := { program := "ytfcniebfoboogaa", sum := "d9dd02372c3cee929569ac4344b1416f350cff65f410bd06190c8a8677a400d3", func := "loop.example/g01237/laws.FnExactValidWire", spec := "fnExactValidWire", unfollowed := true, recurses := true, apart := false }
def FnExactValidWireSaid : Prop := fnExactValidWireRow.holds Try.pinned (OpenSpec.ofChange fnExactValidWireSpec)

/-- ITS FALSE NEIGHBOUR: 'it returns false'. Refute it at one input. -/
def fnExactValidWireWrong : ChangeSpec := { name := "fnExactValidWire", fn := fun _ => fun
  | [d] => { results := [.lit (.bool false)], args := [d] }
  | _ => none }
def FnExactValidWireWrongFalsely : Prop := fnExactValidWireRow.holds Try.pinned (OpenSpec.ofChange fnExactValidWireWrong)

/-- 'laws.FnExactSameWire': WHATEVER THE INPUT: true; the input reads as it did. -/
def fnExactSameWireSpec : ChangeSpec := { name := "fnExactSameWire", fn := fun _ => fun
  | [d1, d2] => { results := [.lit (.bool true)], args := [d1, d2] }
  | _ => none }
def fnExactSameWireRow : OpenClaim := { program := "ytfcniebfoboogaa", sum := "d9dd02372c3cee929569ac4344b1416f350cff65f410bd06190c8a8677a400d3", func := "loop.example/g01237/laws.FnExactSameWire", spec := "fnExactSameWire", inPlace := ["math.Float32bits", "math.Float64bits"], unfollowed := true, recurses := true, apart := false }
def FnExactSameWireSaid : Prop := fnExactSameWireRow.holds Try.pinned (OpenSpec.ofChange fnExactSameWireSpec)

/-- ITS FALSE NEIGHBOUR: 'it returns false'. Refute it at one input. -/
def fnExactSameWireWrong : ChangeSpec := { name := "fnExactSameWire", fn := fun _ => fun
  | [d1, d2] => { results := [.lit (.bool false)], args := [d1, d2] }
  | _ => none }
def FnExactSameWireWrongFalsely : Prop := fnExactSameWireRow.holds Try.pinned (OpenSpec.ofChange fnExactSameWireWrong)

/-- 'laws.FnExactSegmentsOf': WHATEVER THE INPUT: true; the input reads as it did. -/
def fnExactSegmentsOfSpec : ChangeSpec := { name := "fnExactSegmentsOf", fn := fun _ => fun
  | [d] => { results := [.lit (.bool true)], args := [d] }
  | _ => none }
def fnExactSegmentsOfRow : OpenClaim := { program := "ytfcniebfoboogaa", sum := "d9dd02372c3cee929569ac4344b1416f350cff65f410bd06190c8a8677a400d3", func := "loop.example/g01237/laws.FnExactSegmentsOf", spec := "fnExactSegmentsOf", unfollowed := true, recurses := true, apart := false }
def FnExactSegmentsOfSaid : Prop := fnExactSegmentsOfRow.holds Try.pinned (OpenSpec.ofChange fnExactSegmentsOfSpec)

/-- ITS FALSE NEIGHBOUR: 'it returns false'. Refute it at one input. -/
def fnExactSegmentsOfWrong : ChangeSpec := { name := "fnExactSegmentsOf", fn := fun _ => fun
  | [d] => { results := [.lit (.bool false)], args := [d] }
  | _ => none }
def FnExactSegmentsOfWrongFalsely : Prop := fnExactSegmentsOfRow.holds Try.pinned (OpenSpec.ofChange fnExactSegmentsOfWrong)

/-- 'laws.FnExactSquareWire': WHATEVER THE INPUT: true; the input reads as it did. -/
def fnExactSquareWireSpec : ChangeSpec := { name := "fnExactSquareWire", fn := fun _ => fun
  | [d1, d2, d3] => { results := [.lit (.bool true)], args := [d1, d2, d3] }
  | _ => none }
def fnExactSquareWireRow : OpenClaim := { program := "ytfcniebfoboogaa", sum := "d9dd02372c3cee929569ac4344b1416f350cff65f410bd06190c8a8677a400d3", func := "loop.example/g01237/laws.FnExactSquareWire", spec := "fnExactSquareWire", unfollowed := true, recurses := true, apart := false }
def FnExactSquareWireSaid : Prop := fnExactSquareWireRow.holds Try.pinned (OpenSpec.ofChange fnExactSquareWireSpec)

/-- ITS FALSE NEIGHBOUR: 'it returns false'. Refute it at one input. -/
def fnExactSquareWireWrong : ChangeSpec := { name := "fnExactSquareWire", fn := fun _ => fun
  | [d1, d2, d3] => { results := [.lit (.bool false)], args := [d1, d2, d3] }
  | _ => none }
def FnExactSquareWireWrongFalsely : Prop := fnExactSquareWireRow.holds Try.pinned (OpenSpec.ofChange fnExactSquareWireWrong)

/-- 'laws.FnExactAreWires': WHATEVER THE INPUT: true; the input reads as it did. -/
def fnExactAreWiresSpec : ChangeSpec := { name := "fnExactAreWires", fn := fun _ => fun
  | [d] => { results := [.lit (.bool true)], args := [d] }
  | _ => none }
def fnExactAreWiresRow : OpenClaim := { program := "ytfcniebfoboogaa", sum := "d9dd02372c3cee929569ac4344b1416f350cff65f410bd06190c8a8677a400d3", func := "loop.example/g01237/laws.FnExactAreWires", spec := "fnExactAreWires", unfollowed := true, recurses := true, apart := false }
def FnExactAreWiresSaid : Prop := fnExactAreWiresRow.holds Try.pinned (OpenSpec.ofChange fnExactAreWiresSpec)

/-- ITS FALSE NEIGHBOUR: 'it returns false'. Refute it at one input. -/
def fnExactAreWiresWrong : ChangeSpec := { name := "fnExactAreWires", fn := fun _ => fun
  | [d] => { results := [.lit (.bool false)], args := [d] }
  | _ => none }
def FnExactAreWiresWrongFalsely : Prop := fnExactAreWiresRow.holds Try.pinned (OpenSpec.ofChange fnExactAreWiresWrong)

/-- 'laws.FnExactMiddleOf': WHATEVER THE INPUT: true; the input reads as it did. -/
def fnExactMiddleOfSpec : ChangeSpec := { name := "fnExactMiddleOf", fn := fun _ => fun
  | [d] => { results := [.lit (.bool true)], args := [d] }
  | _ => none }
def fnExactMiddleOfRow : OpenClaim := { program := "ytfcniebfoboogaa", sum := "d9dd02372c3cee929569ac4344b1416f350cff65f410bd06190c8a8677a400d3", func := "loop.example/g01237/laws.FnExactMiddleOf", spec := "fnExactMiddleOf", unfollowed := true, recurses := true, apart := false }
def FnExactMiddleOfSaid : Prop := fnExactMiddleOfRow.holds Try.pinned (OpenSpec.ofChange fnExactMiddleOfSpec)

/-- ITS FALSE NEIGHBOUR: 'it returns false'. Refute it at one input. -/
def fnExactMiddleOfWrong : ChangeSpec := { name := "fnExactMiddleOf", fn := fun _ => fun
  | [d] => { results := [.lit (.bool false)], args := [d] }
  | _ => none }
def FnExactMiddleOfWrongFalsely : Prop := fnExactMiddleOfRow.holds Try.pinned (OpenSpec.ofChange fnExactMiddleOfWrong)

/-- 'laws.FnExactFeedWire': WHATEVER THE INPUT: true; the input reads as it did. -/
def fnExactFeedWireSpec : ChangeSpec := { name := "fnExactFeedWire", fn := fun _ => fun
  | [d1, d2] => { results := [.lit (.bool true)], args := [d1, d2] }
  | _ => none }
def fnExactFeedWireRow : OpenClaim := { program := "ytfcniebfoboogaa", sum := "d9dd02372c3cee929569ac4344b1416f350cff65f410bd06190c8a8677a400d3", func := "loop.example/g01237/laws.FnExactFeedWire", spec := "fnExactFeedWire", unfollowed := true, recurses := true, apart := false }
def FnExactFeedWireSaid : Prop := fnExactFeedWireRow.holds Try.pinned (OpenSpec.ofChange fnExactFeedWireSpec)

/-- ITS FALSE NEIGHBOUR: 'it returns false'. Refute it at one input. -/
def fnExactFeedWireWrong : ChangeSpec := { name := "fnExactFeedWire", fn := fun _ => fun
  | [d1, d2] => { results := [.lit (.bool false)], args := [d1, d2] }
  | _ => none }
def FnExactFeedWireWrongFalsely : Prop := fnExactFeedWireRow.holds Try.pinned (OpenSpec.ofChange fnExactFeedWireWrong)

/-- 'laws.FnExactBackWire': WHATEVER THE INPUT: true; the input reads as it did. -/
def fnExactBackWireSpec : ChangeSpec := { name := "fnExactBackWire", fn := fun _ => fun
  | [d] => { results := [.lit (.bool true)], args := [d] }
  | _ => none }
def fnExactBackWireRow : OpenClaim := { program := "ytfcniebfoboogaa", sum := "d9dd02372c3cee929569ac4344b1416f350cff65f410bd06190c8a8677a400d3", func := "loop.example/g01237/laws.FnExactBackWire", spec := "fnExactBackWire", unfollowed := true, recurses := true, apart := false }
def FnExactBackWireSaid : Prop := fnExactBackWireRow.holds Try.pinned (OpenSpec.ofChange fnExactBackWireSpec)

/-- ITS FALSE NEIGHBOUR: 'it returns false'. Refute it at one input. -/
def fnExactBackWireWrong : ChangeSpec := { name := "fnExactBackWire", fn := fun _ => fun
  | [d] => { results := [.lit (.bool false)], args := [d] }
  | _ => none }
def FnExactBackWireWrongFalsely : Prop := fnExactBackWireRow.holds Try.pinned (OpenSpec.ofChange fnExactBackWireWrong)

/-- 'laws.FnExactAreaOf': WHATEVER THE INPUT: true; the input reads as it did. -/
def fnExactAreaOfSpec : ChangeSpec := { name := "fnExactAreaOf", fn := fun _ => fun
  | [d] => { results := [.lit (.bool true)], args := [d] }
  | _ => none }
def fnExactAreaOfRow : OpenClaim := { program := "ytfcniebfoboogaa", sum := "d9dd02372c3cee929569ac4344b1416f350cff65f410bd06190c8a8677a400d3", func := "loop.example/g01237/laws.FnExactAreaOf", spec := "fnExactAreaOf", unfollowed := true, recurses := true, apart := false }
def FnExactAreaOfSaid : Prop := fnExactAreaOfRow.holds Try.pinned (OpenSpec.ofChange fnExactAreaOfSpec)

/-- ITS FALSE NEIGHBOUR: 'it returns false'. Refute it at one input. -/
def fnExactAreaOfWrong : ChangeSpec := { name := "fnExactAreaOf", fn := fun _ => fun
  | [d] => { results := [.lit (.bool false)], args := [d] }
  | _ => none }
def FnExactAreaOfWrongFalsely : Prop := fnExactAreaOfRow.holds Try.pinned (OpenSpec.ofChange fnExactAreaOfWrong)

/-- 'laws.FnExactMomentOf': WHATEVER THE INPUT: true; the input reads as it did. -/
def fnExactMomentOfSpec : ChangeSpec := { name := "fnExactMomentOf", fn := fun _ => fun
  | [d] => { results := [.lit (.bool true)], args := [d] }
  | _ => none }
def fnExactMomentOfRow : OpenClaim := { program := "ytfcniebfoboogaa", sum := "d9dd02372c3cee929569ac4344b1416f350cff65f410bd06190c8a8677a400d3", func := "loop.example/g01237/laws.FnExactMomentOf", spec := "fnExactMomentOf", unfollowed := true, recurses := true, apart := false }
def FnExactMomentOfSaid : Prop := fnExactMomentOfRow.holds Try.pinned (OpenSpec.ofChange fnExactMomentOfSpec)

/-- ITS FALSE NEIGHBOUR: 'it returns false'. Refute it at one input. -/
def fnExactMomentOfWrong : ChangeSpec := { name := "fnExactMomentOf", fn := fun _ => fun
  | [d] => { results := [.lit (.bool false)], args := [d] }
  | _ => none }
def FnExactMomentOfWrongFalsely : Prop := fnExactMomentOfRow.holds Try.pinned (OpenSpec.ofChange fnExactMomentOfWrong)

/-- 'laws.FnExactMoveWire': WHATEVER THE INPUT: true; the input reads as it did. -/
def fnExactMoveWireSpec : ChangeSpec := { name := "fnExactMoveWire", fn := fun _ => fun
  | [d1, d2] => { results := [.lit (.bool true)], args := [d1, d2] }
  | _ => none }
def fnExactMoveWireRow : OpenClaim := { program := "ytfcniebfoboogaa", sum := "d9dd02372c3cee929569ac4344b1416f350cff65f410bd06190c8a8677a400d3", func := "loop.example/g01237/laws.FnExactMoveWire", spec := "fnExactMoveWire", unfollowed := true, recurses := true, apart := false }
def FnExactMoveWireSaid : Prop := fnExactMoveWireRow.holds Try.pinned (OpenSpec.ofChange fnExactMoveWireSpec)

/-- ITS FALSE NEIGHBOUR: 'it returns false'. Refute it at one input. -/
def fnExactMoveWireWrong : ChangeSpec := { name := "fnExactMoveWire", fn := fun _ => fun
  | [d1, d2] => { results := [.lit (.bool false)], args := [d1, d2] }
  | _ => none }
def FnExactMoveWireWrongFalsely : Prop := fnExactMoveWireRow.holds Try.pinned (OpenSpec.ofChange fnExactMoveWireWrong)

/-- 'laws.FnExactScaleWire': WHATEVER THE INPUT: true; the input reads as it did. -/
def fnExactScaleWireSpec : ChangeSpec := { name := "fnExactScaleWire", fn := fun _ => fun
  | [d1, d2] => { results := [.lit (.bool true)], args := [d1, d2] }
  | _ => none }
def fnExactScaleWireRow : OpenClaim := { program := "ytfcniebfoboogaa", sum := "d9dd02372c3cee929569ac4344b1416f350cff65f410bd06190c8a8677a400d3", func := "loop.example/g01237/laws.FnExactScaleWire", spec := "fnExactScaleWire", unfollowed := true, recurses := true, apart := false }
def FnExactScaleWireSaid : Prop := fnExactScaleWireRow.holds Try.pinned (OpenSpec.ofChange fnExactScaleWireSpec)

/-- ITS FALSE NEIGHBOUR: 'it returns false'. Refute it at one input. -/
def fnExactScaleWireWrong : ChangeSpec := { name := "fnExactScaleWire", fn := fun _ => fun
  | [d1, d2] => { results := [.lit (.bool false)], args := [d1, d2] }
  | _ => none }
def FnExactScaleWireWrongFalsely : Prop := fnExactScaleWireRow.holds Try.pinned (OpenSpec.ofChange fnExactScaleWireWrong)

/- THE SECOND FORM. 'bulk': how many values and letters a reading holds, each counted each time it is reached (what is shared counts as often as it is met; a slice's spare places count too). A statement '..UptoSaid' is the law's where the arguments, and the package variables that the reading takes, are together of bulk at most 1048576: NARROWER than '..Said'. Prove '..Said' where nothing that the law and all that it calls make is longer than what came in: it says more and counts as full. Else prove '..UptoSaid'. A law counts once. -/
mutual
def uptoBulk {H : Type} : DataW H → Nat
  | .lit (.string bytes) => bytes.length + 1
  | .lit _ => 1
  | .nil => 1
  | .ptr d => uptoBulk d + 1
  | .slice elems spare => uptoBulkAll elems + uptoBulkAll spare + 1
  | .agg parts => uptoBulkAll parts + 1
  | .iface _ d => uptoBulk d + 1
  | .map entries => uptoBulkEntries entries + 1
  | .held _ => 1
def uptoBulkAll {H : Type} : List (DataW H) → Nat
  | [] => 0
  | d :: r => uptoBulk d + uptoBulkAll r
def uptoBulkEntries {H : Type} : List (Lit × DataW H) → Nat
  | [] => 0
  | x :: r => uptoBulkEntry x + uptoBulkEntries r
def uptoBulkEntry {H : Type} : Lit × DataW H → Nat
  | (.string bytes, d) => bytes.length + uptoBulk d + 1
  | (_, d) => uptoBulk d + 1
 end
def uptoSmall : (H : Type) → List (DataW H) → Bool := fun _ ds => decide (uptoBulkAll ds ≤ 1048576)
def OpenSpec.upto (s : _root_.Go.ChangeSpec) : _root_.Go.OpenSpec := { _root_.Go.OpenSpec.ofChange s with cond := some uptoSmall }

/-- 'laws.FnExactValidWire', WHERE WHAT IT READS IS OF BULK AT MOST 1048576: true; the input reads as it did. -/
def fnExactValidWireUptoRow : OpenClaim := { program := "ytfcniebfoboogaa", sum := "d9dd02372c3cee929569ac4344b1416f350cff65f410bd06190c8a8677a400d3", func := "loop.example/g01237/laws.FnExactValidWire", spec := "fnExactValidWire", unfollowed := true, recurses := true, apart := false, narrowed := true }
def FnExactValidWireUptoSaid : Prop := fnExactValidWireUptoRow.holds Try.pinned (OpenSpec.upto fnExactValidWireSpec)

/-- 'laws.FnExactSameWire', WHERE WHAT IT READS IS OF BULK AT MOST 1048576: true; the input reads as it did. -/
def fnExactSameWireUptoRow : OpenClaim := { program := "ytfcniebfoboogaa", sum := "d9dd02372c3cee929569ac4344b1416f350cff65f410bd06190c8a8677a400d3", func := "loop.example/g01237/laws.FnExactSameWire", spec := "fnExactSameWire", inPlace := ["math.Float32bits", "math.Float64bits"], unfollowed := true, recurses := true, apart := false, narrowed := true }
def FnExactSameWireUptoSaid : Prop := fnExactSameWireUptoRow.holds Try.pinned (OpenSpec.upto fnExactSameWireSpec)

/-- 'laws.FnExactSegmentsOf', WHERE WHAT IT READS IS OF BULK AT MOST 1048576: true; the input reads as it did. -/
def fnExactSegmentsOfUptoRow : OpenClaim := { program := "ytfcniebfoboogaa", sum := "d9dd02372c3cee929569ac4344b1416f350cff65f410bd06190c8a8677a400d3", func := "loop.example/g01237/laws.FnExactSegmentsOf", spec := "fnExactSegmentsOf", unfollowed := true, recurses := true, apart := false, narrowed := true }
def FnExactSegmentsOfUptoSaid : Prop := fnExactSegmentsOfUptoRow.holds Try.pinned (OpenSpec.upto fnExactSegmentsOfSpec)

/-- 'laws.FnExactSquareWire', WHERE WHAT IT READS IS OF BULK AT MOST 1048576: true; the input reads as it did. -/
def fnExactSquareWireUptoRow : OpenClaim := { program := "ytfcniebfoboogaa", sum := "d9dd02372c3cee929569ac4344b1416f350cff65f410bd06190c8a8677a400d3", func := "loop.example/g01237/laws.FnExactSquareWire", spec := "fnExactSquareWire", unfollowed := true, recurses := true, apart := false, narrowed := true }
def FnExactSquareWireUptoSaid : Prop := fnExactSquareWireUptoRow.holds Try.pinned (OpenSpec.upto fnExactSquareWireSpec)

/-- 'laws.FnExactAreWires', WHERE WHAT IT READS IS OF BULK AT MOST 1048576: true; the input reads as it did. -/
def fnExactAreWiresUptoRow : OpenClaim := { program := "ytfcniebfoboogaa", sum := "d9dd02372c3cee929569ac4344b1416f350cff65f410bd06190c8a8677a400d3", func := "loop.example/g01237/laws.FnExactAreWires", spec := "fnExactAreWires", unfollowed := true, recurses := true, apart := false, narrowed := true }
def FnExactAreWiresUptoSaid : Prop := fnExactAreWiresUptoRow.holds Try.pinned (OpenSpec.upto fnExactAreWiresSpec)

/-- 'laws.FnExactMiddleOf', WHERE WHAT IT READS IS OF BULK AT MOST 1048576: true; the input reads as it did. -/
def fnExactMiddleOfUptoRow : OpenClaim := { program := "ytfcniebfoboogaa", sum := "d9dd02372c3cee929569ac4344b1416f350cff65f410bd06190c8a8677a400d3", func := "loop.example/g01237/laws.FnExactMiddleOf", spec := "fnExactMiddleOf", unfollowed := true, recurses := true, apart := false, narrowed := true }
def FnExactMiddleOfUptoSaid : Prop := fnExactMiddleOfUptoRow.holds Try.pinned (OpenSpec.upto fnExactMiddleOfSpec)

/-- 'laws.FnExactFeedWire', WHERE WHAT IT READS IS OF BULK AT MOST 1048576: true; the input reads as it did. -/
def fnExactFeedWireUptoRow : OpenClaim := { program := "ytfcniebfoboogaa", sum := "d9dd02372c3cee929569ac4344b1416f350cff65f410bd06190c8a8677a400d3", func := "loop.example/g01237/laws.FnExactFeedWire", spec := "fnExactFeedWire", unfollowed := true, recurses := true, apart := false, narrowed := true }
def FnExactFeedWireUptoSaid : Prop := fnExactFeedWireUptoRow.holds Try.pinned (OpenSpec.upto fnExactFeedWireSpec)

/-- 'laws.FnExactBackWire', WHERE WHAT IT READS IS OF BULK AT MOST 1048576: true; the input reads as it did. -/
def fnExactBackWireUptoRow : OpenClaim := { program := "ytfcniebfoboogaa", sum := "d9dd02372c3cee929569ac4344b1416f350cff65f410bd06190c8a8677a400d3", func := "loop.example/g01237/laws.FnExactBackWire", spec := "fnExactBackWire", unfollowed := true, recurses := true, apart := false, narrowed := true }
def FnExactBackWireUptoSaid : Prop := fnExactBackWireUptoRow.holds Try.pinned (OpenSpec.upto fnExactBackWireSpec)

/-- 'laws.FnExactAreaOf', WHERE WHAT IT READS IS OF BULK AT MOST 1048576: true; the input reads as it did. -/
def fnExactAreaOfUptoRow : OpenClaim := { program := "ytfcniebfoboogaa", sum := "d9dd02372c3cee929569ac4344b1416f350cff65f410bd06190c8a8677a400d3", func := "loop.example/g01237/laws.FnExactAreaOf", spec := "fnExactAreaOf", unfollowed := true, recurses := true, apart := false, narrowed := true }
def FnExactAreaOfUptoSaid : Prop := fnExactAreaOfUptoRow.holds Try.pinned (OpenSpec.upto fnExactAreaOfSpec)

/-- 'laws.FnExactMomentOf', WHERE WHAT IT READS IS OF BULK AT MOST 1048576: true; the input reads as it did. -/
def fnExactMomentOfUptoRow : OpenClaim := { program := "ytfcniebfoboogaa", sum := "d9dd02372c3cee929569ac4344b1416f350cff65f410bd06190c8a8677a400d3", func := "loop.example/g01237/laws.FnExactMomentOf", spec := "fnExactMomentOf", unfollowed := true, recurses := true, apart := false, narrowed := true }
def FnExactMomentOfUptoSaid : Prop := fnExactMomentOfUptoRow.holds Try.pinned (OpenSpec.upto fnExactMomentOfSpec)

/-- 'laws.FnExactMoveWire', WHERE WHAT IT READS IS OF BULK AT MOST 1048576: true; the input reads as it did. -/
def fnExactMoveWireUptoRow : OpenClaim := { program := "ytfcniebfoboogaa", sum := "d9dd02372c3cee929569ac4344b1416f350cff65f410bd06190c8a8677a400d3", func := "loop.example/g01237/laws.FnExactMoveWire", spec := "fnExactMoveWire", unfollowed := true, recurses := true, apart := false, narrowed := true }
def FnExactMoveWireUptoSaid : Prop := fnExactMoveWireUptoRow.holds Try.pinned (OpenSpec.upto fnExactMoveWireSpec)

/-- 'laws.FnExactScaleWire', WHERE WHAT IT READS IS OF BULK AT MOST 1048576: true; the input reads as it did. -/
def fnExactScaleWireUptoRow : OpenClaim := { program := "ytfcniebfoboogaa", sum := "d9dd02372c3cee929569ac4344b1416f350cff65f410bd06190c8a8677a400d3", func := "loop.example/g01237/laws.FnExactScaleWire", spec := "fnExactScaleWire", unfollowed := true, recurses := true, apart := false, narrowed := true }
def FnExactScaleWireUptoSaid : Prop := fnExactScaleWireUptoRow.holds Try.pinned (OpenSpec.upto fnExactScaleWireSpec)

end Rows
end Go.Proofs.Ytfcniebfoboogaa
