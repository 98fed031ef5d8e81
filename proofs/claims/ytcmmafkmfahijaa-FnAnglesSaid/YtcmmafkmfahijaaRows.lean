/-
  No cell of these rows narrows 'for every input' (looked for: loops, veiled, ifaces, maps, wideKeys, modest, calm, conditions, laid).
  DERIVED. THE GIVEN ROWS OF THIS SEAT. 11 by the template 'for every input the law returns true; each argument reads behind the call as it read before'; 0 by the template 'total and deterministic' (their statements: YtcmmafkmfahijaaTotals.lean).
  GIVEN WITH THE SEED: the statements are not yours to turn. If you find one false, say at which input.
  Laid BY PROGRAM, IN A SANDBOX (cutbox-rows.mjs): the forced cells as the released guide's own fill.sh prints them over the translation 03026e41bdd1479f… (all of the seat's roots in one cut). By AI agents, Wed Nov 11 2026. No macro, syntax, notation, axiom, sorry.
-/
import Derived.Test.YtcmmafkmfahijaaChecked
import GoSem.Claim
import GoSem.ClaimJoined
import GoSem.ClaimMapViews
import Derived.JoinedTies
import Derived.KernelRfl
namespace Go.Proofs.Ytcmmafkmfahijaa
/- THE CELL 'sum', in the pinned program and in every row, IS THE sha256 OF THE DUMP (.gsa) THAT YtcmmafkmfahijaaProg.lean LOADS. Nothing in Lean hashes anything: it is a label: what it is worth is what the hold of that sum in a sandbox is worth. -/
noncomputable def Try.pinned : Pinned := { name := "ytcmmafkmfahijaa", sum := "03026e41bdd1479f5d3e5270c809fecbf23e3065fe5316baf9df2d42e1935bf3", checked := Try.checked }
namespace Rows
def none {H : Type} : Left H := { results := [], args := [] }

/-- 'laws.FnExactDotNumbers': WHATEVER THE INPUT: true; the input reads as it did. -/
def fnExactDotNumbersSpec : ChangeSpec := { name := "fnExactDotNumbers", fn := fun _ => fun
  | [d1, d2] => { results := [.lit (.bool true)], args := [d1, d2] }
  | _ => none }
def fnExactDotNumbersRow : OpenClaim := { program := "ytcmmafkmfahijaa", sum := "03026e41bdd1479f5d3e5270c809fecbf23e3065fe5316baf9df2d42e1935bf3", func := "loop.example/g01237/laws.FnExactDotNumbers", spec := "fnExactDotNumbers", apart := false }
def FnExactDotNumbersSaid : Prop := fnExactDotNumbersRow.holds Try.pinned (OpenSpec.ofChange fnExactDotNumbersSpec)

/-- ITS FALSE NEIGHBOUR: 'it returns false'. Refute it at one input. -/
def fnExactDotNumbersWrong : ChangeSpec := { name := "fnExactDotNumbers", fn := fun _ => fun
  | [d1, d2] => { results := [.lit (.bool false)], args := [d1, d2] }
  | _ => none }
def FnExactDotNumbersWrongFalsely : Prop := fnExactDotNumbersRow.holds Try.pinned (OpenSpec.ofChange fnExactDotNumbersWrong)

/-- 'laws.FnExactSumNumbers': WHATEVER THE INPUT: true; the input reads as it did. -/
def fnExactSumNumbersSpec : ChangeSpec := { name := "fnExactSumNumbers", fn := fun _ => fun
  | [d] => { results := [.lit (.bool true)], args := [d] }
  | _ => none }
def fnExactSumNumbersRow : OpenClaim := { program := "ytcmmafkmfahijaa", sum := "03026e41bdd1479f5d3e5270c809fecbf23e3065fe5316baf9df2d42e1935bf3", func := "loop.example/g01237/laws.FnExactSumNumbers", spec := "fnExactSumNumbers", apart := false }
def FnExactSumNumbersSaid : Prop := fnExactSumNumbersRow.holds Try.pinned (OpenSpec.ofChange fnExactSumNumbersSpec)

/-- ITS FALSE NEIGHBOUR: 'it returns false'. Refute it at one input. -/
def fnExactSumNumbersWrong : ChangeSpec := { name := "fnExactSumNumbers", fn := fun _ => fun
  | [d] => { results := [.lit (.bool false)], args := [d] }
  | _ => none }
def FnExactSumNumbersWrongFalsely : Prop := fnExactSumNumbersRow.holds Try.pinned (OpenSpec.ofChange fnExactSumNumbersWrong)

/-- 'laws.FnExactSumPairs': WHATEVER THE INPUT: true; the input reads as it did. -/
def fnExactSumPairsSpec : ChangeSpec := { name := "fnExactSumPairs", fn := fun _ => fun
  | [d] => { results := [.lit (.bool true)], args := [d] }
  | _ => none }
def fnExactSumPairsRow : OpenClaim := { program := "ytcmmafkmfahijaa", sum := "03026e41bdd1479f5d3e5270c809fecbf23e3065fe5316baf9df2d42e1935bf3", func := "loop.example/g01237/laws.FnExactSumPairs", spec := "fnExactSumPairs", recurses := true, apart := false }
def FnExactSumPairsSaid : Prop := fnExactSumPairsRow.holds Try.pinned (OpenSpec.ofChange fnExactSumPairsSpec)

/-- ITS FALSE NEIGHBOUR: 'it returns false'. Refute it at one input. -/
def fnExactSumPairsWrong : ChangeSpec := { name := "fnExactSumPairs", fn := fun _ => fun
  | [d] => { results := [.lit (.bool false)], args := [d] }
  | _ => none }
def FnExactSumPairsWrongFalsely : Prop := fnExactSumPairsRow.holds Try.pinned (OpenSpec.ofChange fnExactSumPairsWrong)

/-- 'laws.FnExactAngleTurns': WHATEVER THE INPUT: true; the input reads as it did. -/
def fnExactAngleTurnsSpec : ChangeSpec := { name := "fnExactAngleTurns", fn := fun _ => fun
  | [d1, d2] => { results := [.lit (.bool true)], args := [d1, d2] }
  | _ => none }
def fnExactAngleTurnsRow : OpenClaim := { program := "ytcmmafkmfahijaa", sum := "03026e41bdd1479f5d3e5270c809fecbf23e3065fe5316baf9df2d42e1935bf3", func := "loop.example/g01237/laws.FnExactAngleTurns", spec := "fnExactAngleTurns", inPlace := ["math.Float64frombits", "math.Float64bits", "math.sqrt"], apart := false }
def FnExactAngleTurnsSaid : Prop := fnExactAngleTurnsRow.holds Try.pinned (OpenSpec.ofChange fnExactAngleTurnsSpec)

/-- ITS FALSE NEIGHBOUR: 'it returns false'. Refute it at one input. -/
def fnExactAngleTurnsWrong : ChangeSpec := { name := "fnExactAngleTurns", fn := fun _ => fun
  | [d1, d2] => { results := [.lit (.bool false)], args := [d1, d2] }
  | _ => none }
def FnExactAngleTurnsWrongFalsely : Prop := fnExactAngleTurnsRow.holds Try.pinned (OpenSpec.ofChange fnExactAngleTurnsWrong)

/-- 'laws.FnNarrowed': WHATEVER THE INPUT: true; the input reads as it did. -/
def fnNarrowedSpec : ChangeSpec := { name := "fnNarrowed", fn := fun _ => fun
  | [d1, d2] => { results := [.lit (.bool true)], args := [d1, d2] }
  | _ => none }
def fnNarrowedRow : OpenClaim := { program := "ytcmmafkmfahijaa", sum := "03026e41bdd1479f5d3e5270c809fecbf23e3065fe5316baf9df2d42e1935bf3", func := "loop.example/g01237/laws.FnNarrowed", spec := "fnNarrowed", inPlace := ["math.Float32frombits", "math.Float32bits"], apart := false }
def FnNarrowedSaid : Prop := fnNarrowedRow.holds Try.pinned (OpenSpec.ofChange fnNarrowedSpec)

/-- ITS FALSE NEIGHBOUR: 'it returns false'. Refute it at one input. -/
def fnNarrowedWrong : ChangeSpec := { name := "fnNarrowed", fn := fun _ => fun
  | [d1, d2] => { results := [.lit (.bool false)], args := [d1, d2] }
  | _ => none }
def FnNarrowedWrongFalsely : Prop := fnNarrowedRow.holds Try.pinned (OpenSpec.ofChange fnNarrowedWrong)

/-- 'laws.FnBits': WHATEVER THE INPUT: true; the input reads as it did. -/
def fnBitsSpec : ChangeSpec := { name := "fnBits", fn := fun _ => fun
  | [d1, d2] => { results := [.lit (.bool true)], args := [d1, d2] }
  | _ => none }
def fnBitsRow : OpenClaim := { program := "ytcmmafkmfahijaa", sum := "03026e41bdd1479f5d3e5270c809fecbf23e3065fe5316baf9df2d42e1935bf3", func := "loop.example/g01237/laws.FnBits", spec := "fnBits", inPlace := ["math.Float32frombits", "math.Float32bits", "math.Float64bits", "math.Float64frombits"], apart := false }
def FnBitsSaid : Prop := fnBitsRow.holds Try.pinned (OpenSpec.ofChange fnBitsSpec)

/-- ITS FALSE NEIGHBOUR: 'it returns false'. Refute it at one input. -/
def fnBitsWrong : ChangeSpec := { name := "fnBits", fn := fun _ => fun
  | [d1, d2] => { results := [.lit (.bool false)], args := [d1, d2] }
  | _ => none }
def FnBitsWrongFalsely : Prop := fnBitsRow.holds Try.pinned (OpenSpec.ofChange fnBitsWrong)

/-- 'laws.FnSums': WHATEVER THE INPUT: true; the input reads as it did. -/
def fnSumsSpec : ChangeSpec := { name := "fnSums", fn := fun _ => fun
  | [d1, d2] => { results := [.lit (.bool true)], args := [d1, d2] }
  | _ => none }
def fnSumsRow : OpenClaim := { program := "ytcmmafkmfahijaa", sum := "03026e41bdd1479f5d3e5270c809fecbf23e3065fe5316baf9df2d42e1935bf3", func := "loop.example/g01237/laws.FnSums", spec := "fnSums", inPlace := ["math.Float32frombits", "math.Float32bits"], recurses := true, apart := false }
def FnSumsSaid : Prop := fnSumsRow.holds Try.pinned (OpenSpec.ofChange fnSumsSpec)

/-- ITS FALSE NEIGHBOUR: 'it returns false'. Refute it at one input. -/
def fnSumsWrong : ChangeSpec := { name := "fnSums", fn := fun _ => fun
  | [d1, d2] => { results := [.lit (.bool false)], args := [d1, d2] }
  | _ => none }
def FnSumsWrongFalsely : Prop := fnSumsRow.holds Try.pinned (OpenSpec.ofChange fnSumsWrong)

/-- 'laws.FnAngles': WHATEVER THE INPUT: true; the input reads as it did. -/
def fnAnglesSpec : ChangeSpec := { name := "fnAngles", fn := fun _ => fun
  | [d1, d2] => { results := [.lit (.bool true)], args := [d1, d2] }
  | _ => none }
def fnAnglesRow : OpenClaim := { program := "ytcmmafkmfahijaa", sum := "03026e41bdd1479f5d3e5270c809fecbf23e3065fe5316baf9df2d42e1935bf3", func := "loop.example/g01237/laws.FnAngles", spec := "fnAngles", inPlace := ["math.Float64frombits", "math.Float64bits", "math.sqrt", "math.Float32frombits", "math.Float32bits"], apart := false }
def FnAnglesSaid : Prop := fnAnglesRow.holds Try.pinned (OpenSpec.ofChange fnAnglesSpec)

/-- ITS FALSE NEIGHBOUR: 'it returns false'. Refute it at one input. -/
def fnAnglesWrong : ChangeSpec := { name := "fnAngles", fn := fun _ => fun
  | [d1, d2] => { results := [.lit (.bool false)], args := [d1, d2] }
  | _ => none }
def FnAnglesWrongFalsely : Prop := fnAnglesRow.holds Try.pinned (OpenSpec.ofChange fnAnglesWrong)

/-- 'laws.FnExactAxisField': WHATEVER THE INPUT: true; the input reads as it did. -/
def fnExactAxisFieldSpec : ChangeSpec := { name := "fnExactAxisField", fn := fun _ => fun
  | [d1, d2, d3] => { results := [.lit (.bool true)], args := [d1, d2, d3] }
  | _ => none }
def fnExactAxisFieldRow : OpenClaim := { program := "ytcmmafkmfahijaa", sum := "03026e41bdd1479f5d3e5270c809fecbf23e3065fe5316baf9df2d42e1935bf3", func := "loop.example/g01237/laws.FnExactAxisField", spec := "fnExactAxisField", inPlace := ["math.sqrt"], apart := false }
def FnExactAxisFieldSaid : Prop := fnExactAxisFieldRow.holds Try.pinned (OpenSpec.ofChange fnExactAxisFieldSpec)

/-- ITS FALSE NEIGHBOUR: 'it returns false'. Refute it at one input. -/
def fnExactAxisFieldWrong : ChangeSpec := { name := "fnExactAxisField", fn := fun _ => fun
  | [d1, d2, d3] => { results := [.lit (.bool false)], args := [d1, d2, d3] }
  | _ => none }
def FnExactAxisFieldWrongFalsely : Prop := fnExactAxisFieldRow.holds Try.pinned (OpenSpec.ofChange fnExactAxisFieldWrong)

/-- 'laws.FnExactFarField': WHATEVER THE INPUT: true; the input reads as it did. -/
def fnExactFarFieldSpec : ChangeSpec := { name := "fnExactFarField", fn := fun _ => fun
  | [d1, d2] => { results := [.lit (.bool true)], args := [d1, d2] }
  | _ => none }
def fnExactFarFieldRow : OpenClaim := { program := "ytcmmafkmfahijaa", sum := "03026e41bdd1479f5d3e5270c809fecbf23e3065fe5316baf9df2d42e1935bf3", func := "loop.example/g01237/laws.FnExactFarField", spec := "fnExactFarField", inPlace := ["math.sqrt"], apart := false }
def FnExactFarFieldSaid : Prop := fnExactFarFieldRow.holds Try.pinned (OpenSpec.ofChange fnExactFarFieldSpec)

/-- ITS FALSE NEIGHBOUR: 'it returns false'. Refute it at one input. -/
def fnExactFarFieldWrong : ChangeSpec := { name := "fnExactFarField", fn := fun _ => fun
  | [d1, d2] => { results := [.lit (.bool false)], args := [d1, d2] }
  | _ => none }
def FnExactFarFieldWrongFalsely : Prop := fnExactFarFieldRow.holds Try.pinned (OpenSpec.ofChange fnExactFarFieldWrong)

/-- 'laws.FnExactSegmentField': WHATEVER THE INPUT: true; the input reads as it did. -/
def fnExactSegmentFieldSpec : ChangeSpec := { name := "fnExactSegmentField", fn := fun _ => fun
  | [d1, d2, d3] => { results := [.lit (.bool true)], args := [d1, d2, d3] }
  | _ => none }
def fnExactSegmentFieldRow : OpenClaim := { program := "ytcmmafkmfahijaa", sum := "03026e41bdd1479f5d3e5270c809fecbf23e3065fe5316baf9df2d42e1935bf3", func := "loop.example/g01237/laws.FnExactSegmentField", spec := "fnExactSegmentField", inPlace := ["math.sqrt"], apart := false }
def FnExactSegmentFieldSaid : Prop := fnExactSegmentFieldRow.holds Try.pinned (OpenSpec.ofChange fnExactSegmentFieldSpec)

/-- ITS FALSE NEIGHBOUR: 'it returns false'. Refute it at one input. -/
def fnExactSegmentFieldWrong : ChangeSpec := { name := "fnExactSegmentField", fn := fun _ => fun
  | [d1, d2, d3] => { results := [.lit (.bool false)], args := [d1, d2, d3] }
  | _ => none }
def FnExactSegmentFieldWrongFalsely : Prop := fnExactSegmentFieldRow.holds Try.pinned (OpenSpec.ofChange fnExactSegmentFieldWrong)

/- THE SECOND FORM. 'bulk': how many values and letters a reading holds, each counted each time it is reached (what is shared counts as often as it is met; a slice's spare places count too). A statement '..UptoSaid' is the law's where the arguments, and the package variables that the reading takes, are together of bulk at most 1048576: NARROWER than '..Said'. Prove '..Said' where nothing that the law and all that it calls make is longer than what came in: it says more and counts as full. Else prove '..UptoSaid'. A law counts once. -/
mutual
def uptoBulk {H : Type} : DataW H → Nat
  | .lit (.string bytes) => bytes.length + 1
  | .lit _ => 1
  | .nil => 1
  | .ptr d => uptoBulk d + 1
  | .slice elems spare => uptoBulkAll elems + uptoBulkAll spare + 1
  | .agg parts => uptoBulkAll parts + 1
  | .iface _ d => uptoBulk d + 1
  | .map entries => uptoBulkEntries entries + 1
  | .held _ => 1
def uptoBulkAll {H : Type} : List (DataW H) → Nat
  | [] => 0
  | d :: r => uptoBulk d + uptoBulkAll r
def uptoBulkEntries {H : Type} : List (Lit × DataW H) → Nat
  | [] => 0
  | x :: r => uptoBulkEntry x + uptoBulkEntries r
def uptoBulkEntry {H : Type} : Lit × DataW H → Nat
  | (.string bytes, d) => bytes.length + uptoBulk d + 1
  | (_, d) => uptoBulk d + 1
 end
def uptoSmall : (H : Type) → List (DataW H) → Bool := fun _ ds => decide (uptoBulkAll ds ≤ 1048576)
def OpenSpec.upto (s : _root_.Go.ChangeSpec) : _root_.Go.OpenSpec := { _root_.Go.OpenSpec.ofChange s with cond := some uptoSmall }

/-- 'laws.FnExactDotNumbers', WHERE WHAT IT READS IS OF BULK AT MOST 1048576: true; the input reads as it did. -/
def fnExactDotNumbersUptoRow : OpenClaim := { program := "ytcmmafkmfahijaa", sum := "03026e41bdd1479f5d3e5270c809fecbf23e3065fe5316baf9df2d42e1935bf3", func := "loop.example/g01237/laws.FnExactDotNumbers", spec := "fnExactDotNumbers", apart := false, narrowed := true }
def FnExactDotNumbersUptoSaid : Prop := fnExactDotNumbersUptoRow.holds Try.pinned (OpenSpec.upto fnExactDotNumbersSpec)

/-- 'laws.FnExactSumNumbers', WHERE WHAT IT READS IS OF BULK AT MOST 1048576: true; the input reads as it did. -/
def fnExactSumNumbersUptoRow : OpenClaim := { program := "ytcmmafkmfahijaa", sum := "03026e41bdd1479f5d3e5270c809fecbf23e3065fe5316baf9df2d42e1935bf3", func := "loop.example/g01237/laws.FnExactSumNumbers", spec := "fnExactSumNumbers", apart := false, narrowed := true }
def FnExactSumNumbersUptoSaid : Prop := fnExactSumNumbersUptoRow.holds Try.pinned (OpenSpec.upto fnExactSumNumbersSpec)

/-- 'laws.FnExactSumPairs', WHERE WHAT IT READS IS OF BULK AT MOST 1048576: true; the input reads as it did. -/
def fnExactSumPairsUptoRow : OpenClaim := { program := "ytcmmafkmfahijaa", sum := "03026e41bdd1479f5d3e5270c809fecbf23e3065fe5316baf9df2d42e1935bf3", func := "loop.example/g01237/laws.FnExactSumPairs", spec := "fnExactSumPairs", recurses := true, apart := false, narrowed := true }
def FnExactSumPairsUptoSaid : Prop := fnExactSumPairsUptoRow.holds Try.pinned (OpenSpec.upto fnExactSumPairsSpec)

/-- 'laws.FnExactAngleTurns', WHERE WHAT IT READS IS OF BULK AT MOST 1048576: true; the input reads as it did. -/
def fnExactAngleTurnsUptoRow : OpenClaim := { program := "ytcmmafkmfahijaa", sum := "03026e41bdd1479f5d3e5270c809fecbf23e3065fe5316baf9df2d42e1935bf3", func := "loop.example/g01237/laws.FnExactAngleTurns", spec := "fnExactAngleTurns", inPlace := ["math.Float64frombits", "math.Float64bits", "math.sqrt"], apart := false, narrowed := true }
def FnExactAngleTurnsUptoSaid : Prop := fnExactAngleTurnsUptoRow.holds Try.pinned (OpenSpec.upto fnExactAngleTurnsSpec)

/-- 'laws.FnNarrowed', WHERE WHAT IT READS IS OF BULK AT MOST 1048576: true; the input reads as it did. -/
def fnNarrowedUptoRow : OpenClaim := { program := "ytcmmafkmfahijaa", sum := "03026e41bdd1479f5d3e5270c809fecbf23e3065fe5316baf9df2d42e1935bf3", func := "loop.example/g01237/laws.FnNarrowed", spec := "fnNarrowed", inPlace := ["math.Float32frombits", "math.Float32bits"], apart := false, narrowed := true }
def FnNarrowedUptoSaid : Prop := fnNarrowedUptoRow.holds Try.pinned (OpenSpec.upto fnNarrowedSpec)

/-- 'laws.FnBits', WHERE WHAT IT READS IS OF BULK AT MOST 1048576: true; the input reads as it did. -/
def fnBitsUptoRow : OpenClaim := { program := "ytcmmafkmfahijaa", sum := "03026e41bdd1479f5d3e5270c809fecbf23e3065fe5316baf9df2d42e1935bf3", func := "loop.example/g01237/laws.FnBits", spec := "fnBits", inPlace := ["math.Float32frombits", "math.Float32bits", "math.Float64bits", "math.Float64frombits"], apart := false, narrowed := true }
def FnBitsUptoSaid : Prop := fnBitsUptoRow.holds Try.pinned (OpenSpec.upto fnBitsSpec)

/-- 'laws.FnSums', WHERE WHAT IT READS IS OF BULK AT MOST 1048576: true; the input reads as it did. -/
def fnSumsUptoRow : OpenClaim := { program := "ytcmmafkmfahijaa", sum := "03026e41bdd1479f5d3e5270c809fecbf23e3065fe5316baf9df2d42e1935bf3", func := "loop.example/g01237/laws.FnSums", spec := "fnSums", inPlace := ["math.Float32frombits", "math.Float32bits"], recurses := true, apart := false, narrowed := true }
def FnSumsUptoSaid : Prop := fnSumsUptoRow.holds Try.pinned (OpenSpec.upto fnSumsSpec)

/-- 'laws.FnAngles', WHERE WHAT IT READS IS OF BULK AT MOST 1048576: true; the input reads as it did. -/
def fnAnglesUptoRow : OpenClaim := { program := "ytcmmafkmfahijaa", sum := "03026e41bdd1479f5d3e5270c809fecbf23e3065fe5316baf9df2d42e1935bf3", func := "loop.example/g01237/laws.FnAngles", spec := "fnAngles", inPlace := ["math.Float64frombits", "math.Float64bits", "math.sqrt", "math.Float32frombits", "math.Float32bits"], apart := false, narrowed := true }
def FnAnglesUptoSaid : Prop := fnAnglesUptoRow.holds Try.pinned (OpenSpec.upto fnAnglesSpec)

/-- 'laws.FnExactAxisField', WHERE WHAT IT READS IS OF BULK AT MOST 1048576: true; the input reads as it did. -/
def fnExactAxisFieldUptoRow : OpenClaim := { program := "ytcmmafkmfahijaa", sum := "03026e41bdd1479f5d3e5270c809fecbf23e3065fe5316baf9df2d42e1935bf3", func := "loop.example/g01237/laws.FnExactAxisField", spec := "fnExactAxisField", inPlace := ["math.sqrt"], apart := false, narrowed := true }
def FnExactAxisFieldUptoSaid : Prop := fnExactAxisFieldUptoRow.holds Try.pinned (OpenSpec.upto fnExactAxisFieldSpec)

/-- 'laws.FnExactFarField', WHERE WHAT IT READS IS OF BULK AT MOST 1048576: true; the input reads as it did. -/
def fnExactFarFieldUptoRow : OpenClaim := { program := "ytcmmafkmfahijaa", sum := "03026e41bdd1479f5d3e5270c809fecbf23e3065fe5316baf9df2d42e1935bf3", func := "loop.example/g01237/laws.FnExactFarField", spec := "fnExactFarField", inPlace := ["math.sqrt"], apart := false, narrowed := true }
def FnExactFarFieldUptoSaid : Prop := fnExactFarFieldUptoRow.holds Try.pinned (OpenSpec.upto fnExactFarFieldSpec)

/-- 'laws.FnExactSegmentField', WHERE WHAT IT READS IS OF BULK AT MOST 1048576: true; the input reads as it did. -/
def fnExactSegmentFieldUptoRow : OpenClaim := { program := "ytcmmafkmfahijaa", sum := "03026e41bdd1479f5d3e5270c809fecbf23e3065fe5316baf9df2d42e1935bf3", func := "loop.example/g01237/laws.FnExactSegmentField", spec := "fnExactSegmentField", inPlace := ["math.sqrt"], apart := false, narrowed := true }
def FnExactSegmentFieldUptoSaid : Prop := fnExactSegmentFieldUptoRow.holds Try.pinned (OpenSpec.upto fnExactSegmentFieldSpec)

end Rows
end Go.Proofs.Ytcmmafkmfahijaa
