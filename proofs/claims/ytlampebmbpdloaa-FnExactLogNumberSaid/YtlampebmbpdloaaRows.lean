/-
  No cell of these rows narrows 'for every input' (looked for: loops, veiled, ifaces, maps, wideKeys, modest, calm, conditions, laid).
  DERIVED. THE GIVEN ROWS OF THIS SEAT. 12 by the template 'for every input the law returns true; each argument reads behind the call as it read before'; 0 by the template 'total and deterministic' (their statements: YtlampebmbpdloaaTotals.lean).
  GIVEN WITH THE SEED: the statements are not yours to turn. If you find one false, say at which input.
  Laid BY PROGRAM, IN A SANDBOX (cutbox-rows.mjs): the forced cells as the released guide's own fill.sh prints them over the translation 87279bb2406fdf3b… (all of the seat's roots in one cut). By AI agents, Wed Nov 11 2026. No macro, syntax, notation, axiom, sorry.
-/
import Derived.Test.YtlampebmbpdloaaChecked
import GoSem.Claim
import GoSem.ClaimJoined
import GoSem.ClaimMapViews
import Derived.JoinedTies
import Derived.KernelRfl
namespace Go.Proofs.Ytlampebmbpdloaa
/- THE CELL 'sum', in the pinned program and in every row, IS THE sha256 OF THE DUMP (.gsa) THAT YtlampebmbpdloaaProg.lean LOADS. Nothing in Lean hashes anything: it is a label: what it is worth is what the hold of that sum in a sandbox is worth. -/
noncomputable def Try.pinned : Pinned := { name := "ytlampebmbpdloaa", sum := "87279bb2406fdf3b17aebeac20035b683fa729c90ac69c84e24020aeea68fcab", checked := Try.checked }
namespace Rows
def none {H : Type} : Left H := { results := [], args := [] }

/-- 'laws.FnExactAddVectors': WHATEVER THE INPUT: true; the input reads as it did. -/
def fnExactAddVectorsSpec : ChangeSpec := { name := "fnExactAddVectors", fn := fun _ => fun
  | [d1, d2] => { results := [.lit (.bool true)], args := [d1, d2] }
  | _ => none }
def fnExactAddVectorsRow : OpenClaim := { program := "ytlampebmbpdloaa", sum := "87279bb2406fdf3b17aebeac20035b683fa729c90ac69c84e24020aeea68fcab", func := "loop.example/g01237/laws.FnExactAddVectors", spec := "fnExactAddVectors", apart := false }
def FnExactAddVectorsSaid : Prop := fnExactAddVectorsRow.holds Try.pinned (OpenSpec.ofChange fnExactAddVectorsSpec)

/-- ITS FALSE NEIGHBOUR: 'it returns false'. Refute it at one input. -/
def fnExactAddVectorsWrong : ChangeSpec := { name := "fnExactAddVectors", fn := fun _ => fun
  | [d1, d2] => { results := [.lit (.bool false)], args := [d1, d2] }
  | _ => none }
def FnExactAddVectorsWrongFalsely : Prop := fnExactAddVectorsRow.holds Try.pinned (OpenSpec.ofChange fnExactAddVectorsWrong)

/-- 'laws.FnExactLessVectors': WHATEVER THE INPUT: true; the input reads as it did. -/
def fnExactLessVectorsSpec : ChangeSpec := { name := "fnExactLessVectors", fn := fun _ => fun
  | [d1, d2] => { results := [.lit (.bool true)], args := [d1, d2] }
  | _ => none }
def fnExactLessVectorsRow : OpenClaim := { program := "ytlampebmbpdloaa", sum := "87279bb2406fdf3b17aebeac20035b683fa729c90ac69c84e24020aeea68fcab", func := "loop.example/g01237/laws.FnExactLessVectors", spec := "fnExactLessVectors", apart := false }
def FnExactLessVectorsSaid : Prop := fnExactLessVectorsRow.holds Try.pinned (OpenSpec.ofChange fnExactLessVectorsSpec)

/-- ITS FALSE NEIGHBOUR: 'it returns false'. Refute it at one input. -/
def fnExactLessVectorsWrong : ChangeSpec := { name := "fnExactLessVectors", fn := fun _ => fun
  | [d1, d2] => { results := [.lit (.bool false)], args := [d1, d2] }
  | _ => none }
def FnExactLessVectorsWrongFalsely : Prop := fnExactLessVectorsRow.holds Try.pinned (OpenSpec.ofChange fnExactLessVectorsWrong)

/-- 'laws.FnExactScaleVector': WHATEVER THE INPUT: true; the input reads as it did. -/
def fnExactScaleVectorSpec : ChangeSpec := { name := "fnExactScaleVector", fn := fun _ => fun
  | [d1, d2] => { results := [.lit (.bool true)], args := [d1, d2] }
  | _ => none }
def fnExactScaleVectorRow : OpenClaim := { program := "ytlampebmbpdloaa", sum := "87279bb2406fdf3b17aebeac20035b683fa729c90ac69c84e24020aeea68fcab", func := "loop.example/g01237/laws.FnExactScaleVector", spec := "fnExactScaleVector", apart := false }
def FnExactScaleVectorSaid : Prop := fnExactScaleVectorRow.holds Try.pinned (OpenSpec.ofChange fnExactScaleVectorSpec)

/-- ITS FALSE NEIGHBOUR: 'it returns false'. Refute it at one input. -/
def fnExactScaleVectorWrong : ChangeSpec := { name := "fnExactScaleVector", fn := fun _ => fun
  | [d1, d2] => { results := [.lit (.bool false)], args := [d1, d2] }
  | _ => none }
def FnExactScaleVectorWrongFalsely : Prop := fnExactScaleVectorRow.holds Try.pinned (OpenSpec.ofChange fnExactScaleVectorWrong)

/-- 'laws.FnExactCrossOf': WHATEVER THE INPUT: true; the input reads as it did. -/
def fnExactCrossOfSpec : ChangeSpec := { name := "fnExactCrossOf", fn := fun _ => fun
  | [d1, d2] => { results := [.lit (.bool true)], args := [d1, d2] }
  | _ => none }
def fnExactCrossOfRow : OpenClaim := { program := "ytlampebmbpdloaa", sum := "87279bb2406fdf3b17aebeac20035b683fa729c90ac69c84e24020aeea68fcab", func := "loop.example/g01237/laws.FnExactCrossOf", spec := "fnExactCrossOf", apart := false }
def FnExactCrossOfSaid : Prop := fnExactCrossOfRow.holds Try.pinned (OpenSpec.ofChange fnExactCrossOfSpec)

/-- ITS FALSE NEIGHBOUR: 'it returns false'. Refute it at one input. -/
def fnExactCrossOfWrong : ChangeSpec := { name := "fnExactCrossOf", fn := fun _ => fun
  | [d1, d2] => { results := [.lit (.bool false)], args := [d1, d2] }
  | _ => none }
def FnExactCrossOfWrongFalsely : Prop := fnExactCrossOfRow.holds Try.pinned (OpenSpec.ofChange fnExactCrossOfWrong)

/-- 'laws.FnExactFlushNumber': WHATEVER THE INPUT: true; the input reads as it did. -/
def fnExactFlushNumberSpec : ChangeSpec := { name := "fnExactFlushNumber", fn := fun _ => fun
  | [d] => { results := [.lit (.bool true)], args := [d] }
  | _ => none }
def fnExactFlushNumberRow : OpenClaim := { program := "ytlampebmbpdloaa", sum := "87279bb2406fdf3b17aebeac20035b683fa729c90ac69c84e24020aeea68fcab", func := "loop.example/g01237/laws.FnExactFlushNumber", spec := "fnExactFlushNumber", inPlace := ["math.Float32bits", "math.Float32frombits", "math.Float64bits", "math.Float64frombits"], apart := false }
def FnExactFlushNumberSaid : Prop := fnExactFlushNumberRow.holds Try.pinned (OpenSpec.ofChange fnExactFlushNumberSpec)

/-- ITS FALSE NEIGHBOUR: 'it returns false'. Refute it at one input. -/
def fnExactFlushNumberWrong : ChangeSpec := { name := "fnExactFlushNumber", fn := fun _ => fun
  | [d] => { results := [.lit (.bool false)], args := [d] }
  | _ => none }
def FnExactFlushNumberWrongFalsely : Prop := fnExactFlushNumberRow.holds Try.pinned (OpenSpec.ofChange fnExactFlushNumberWrong)

/-- 'laws.FnExactBetweenVectors': WHATEVER THE INPUT: true; the input reads as it did. -/
def fnExactBetweenVectorsSpec : ChangeSpec := { name := "fnExactBetweenVectors", fn := fun _ => fun
  | [d1, d2, d3] => { results := [.lit (.bool true)], args := [d1, d2, d3] }
  | _ => none }
def fnExactBetweenVectorsRow : OpenClaim := { program := "ytlampebmbpdloaa", sum := "87279bb2406fdf3b17aebeac20035b683fa729c90ac69c84e24020aeea68fcab", func := "loop.example/g01237/laws.FnExactBetweenVectors", spec := "fnExactBetweenVectors", apart := false }
def FnExactBetweenVectorsSaid : Prop := fnExactBetweenVectorsRow.holds Try.pinned (OpenSpec.ofChange fnExactBetweenVectorsSpec)

/-- ITS FALSE NEIGHBOUR: 'it returns false'. Refute it at one input. -/
def fnExactBetweenVectorsWrong : ChangeSpec := { name := "fnExactBetweenVectors", fn := fun _ => fun
  | [d1, d2, d3] => { results := [.lit (.bool false)], args := [d1, d2, d3] }
  | _ => none }
def FnExactBetweenVectorsWrongFalsely : Prop := fnExactBetweenVectorsRow.holds Try.pinned (OpenSpec.ofChange fnExactBetweenVectorsWrong)

/-- 'laws.FnExactNextUp': WHATEVER THE INPUT: true; the input reads as it did. -/
def fnExactNextUpSpec : ChangeSpec := { name := "fnExactNextUp", fn := fun _ => fun
  | [d] => { results := [.lit (.bool true)], args := [d] }
  | _ => none }
def fnExactNextUpRow : OpenClaim := { program := "ytlampebmbpdloaa", sum := "87279bb2406fdf3b17aebeac20035b683fa729c90ac69c84e24020aeea68fcab", func := "loop.example/g01237/laws.FnExactNextUp", spec := "fnExactNextUp", inPlace := ["math.Float32bits", "math.Float32frombits", "math.Float64frombits"], apart := false }
def FnExactNextUpSaid : Prop := fnExactNextUpRow.holds Try.pinned (OpenSpec.ofChange fnExactNextUpSpec)

/-- ITS FALSE NEIGHBOUR: 'it returns false'. Refute it at one input. -/
def fnExactNextUpWrong : ChangeSpec := { name := "fnExactNextUp", fn := fun _ => fun
  | [d] => { results := [.lit (.bool false)], args := [d] }
  | _ => none }
def FnExactNextUpWrongFalsely : Prop := fnExactNextUpRow.holds Try.pinned (OpenSpec.ofChange fnExactNextUpWrong)

/-- 'laws.FnExactNextDown': WHATEVER THE INPUT: true; the input reads as it did. -/
def fnExactNextDownSpec : ChangeSpec := { name := "fnExactNextDown", fn := fun _ => fun
  | [d] => { results := [.lit (.bool true)], args := [d] }
  | _ => none }
def fnExactNextDownRow : OpenClaim := { program := "ytlampebmbpdloaa", sum := "87279bb2406fdf3b17aebeac20035b683fa729c90ac69c84e24020aeea68fcab", func := "loop.example/g01237/laws.FnExactNextDown", spec := "fnExactNextDown", inPlace := ["math.Float32bits", "math.Float32frombits", "math.Float64frombits"], apart := false }
def FnExactNextDownSaid : Prop := fnExactNextDownRow.holds Try.pinned (OpenSpec.ofChange fnExactNextDownSpec)

/-- ITS FALSE NEIGHBOUR: 'it returns false'. Refute it at one input. -/
def fnExactNextDownWrong : ChangeSpec := { name := "fnExactNextDown", fn := fun _ => fun
  | [d] => { results := [.lit (.bool false)], args := [d] }
  | _ => none }
def FnExactNextDownWrongFalsely : Prop := fnExactNextDownRow.holds Try.pinned (OpenSpec.ofChange fnExactNextDownWrong)

/-- 'laws.FnExactRootNumber': WHATEVER THE INPUT: true; the input reads as it did. -/
def fnExactRootNumberSpec : ChangeSpec := { name := "fnExactRootNumber", fn := fun _ => fun
  | [d] => { results := [.lit (.bool true)], args := [d] }
  | _ => none }
def fnExactRootNumberRow : OpenClaim := { program := "ytlampebmbpdloaa", sum := "87279bb2406fdf3b17aebeac20035b683fa729c90ac69c84e24020aeea68fcab", func := "loop.example/g01237/laws.FnExactRootNumber", spec := "fnExactRootNumber", inPlace := ["math.sqrt"], apart := false }
def FnExactRootNumberSaid : Prop := fnExactRootNumberRow.holds Try.pinned (OpenSpec.ofChange fnExactRootNumberSpec)

/-- ITS FALSE NEIGHBOUR: 'it returns false'. Refute it at one input. -/
def fnExactRootNumberWrong : ChangeSpec := { name := "fnExactRootNumber", fn := fun _ => fun
  | [d] => { results := [.lit (.bool false)], args := [d] }
  | _ => none }
def FnExactRootNumberWrongFalsely : Prop := fnExactRootNumberRow.holds Try.pinned (OpenSpec.ofChange fnExactRootNumberWrong)

/-- 'laws.FnExactLongOf': WHATEVER THE INPUT: true; the input reads as it did. -/
def fnExactLongOfSpec : ChangeSpec := { name := "fnExactLongOf", fn := fun _ => fun
  | [d] => { results := [.lit (.bool true)], args := [d] }
  | _ => none }
def fnExactLongOfRow : OpenClaim := { program := "ytlampebmbpdloaa", sum := "87279bb2406fdf3b17aebeac20035b683fa729c90ac69c84e24020aeea68fcab", func := "loop.example/g01237/laws.FnExactLongOf", spec := "fnExactLongOf", inPlace := ["math.sqrt"], apart := false }
def FnExactLongOfSaid : Prop := fnExactLongOfRow.holds Try.pinned (OpenSpec.ofChange fnExactLongOfSpec)

/-- ITS FALSE NEIGHBOUR: 'it returns false'. Refute it at one input. -/
def fnExactLongOfWrong : ChangeSpec := { name := "fnExactLongOf", fn := fun _ => fun
  | [d] => { results := [.lit (.bool false)], args := [d] }
  | _ => none }
def FnExactLongOfWrongFalsely : Prop := fnExactLongOfRow.holds Try.pinned (OpenSpec.ofChange fnExactLongOfWrong)

/-- 'laws.FnExactSineTurns': WHATEVER THE INPUT: true; the input reads as it did. -/
def fnExactSineTurnsSpec : ChangeSpec := { name := "fnExactSineTurns", fn := fun _ => fun
  | [d] => { results := [.lit (.bool true)], args := [d] }
  | _ => none }
def fnExactSineTurnsRow : OpenClaim := { program := "ytlampebmbpdloaa", sum := "87279bb2406fdf3b17aebeac20035b683fa729c90ac69c84e24020aeea68fcab", func := "loop.example/g01237/laws.FnExactSineTurns", spec := "fnExactSineTurns", inPlace := ["math.Float64frombits", "math.Float64bits"], apart := false }
def FnExactSineTurnsSaid : Prop := fnExactSineTurnsRow.holds Try.pinned (OpenSpec.ofChange fnExactSineTurnsSpec)

/-- ITS FALSE NEIGHBOUR: 'it returns false'. Refute it at one input. -/
def fnExactSineTurnsWrong : ChangeSpec := { name := "fnExactSineTurns", fn := fun _ => fun
  | [d] => { results := [.lit (.bool false)], args := [d] }
  | _ => none }
def FnExactSineTurnsWrongFalsely : Prop := fnExactSineTurnsRow.holds Try.pinned (OpenSpec.ofChange fnExactSineTurnsWrong)

/-- 'laws.FnExactLogNumber': WHATEVER THE INPUT: true; the input reads as it did. -/
def fnExactLogNumberSpec : ChangeSpec := { name := "fnExactLogNumber", fn := fun _ => fun
  | [d] => { results := [.lit (.bool true)], args := [d] }
  | _ => none }
def fnExactLogNumberRow : OpenClaim := { program := "ytlampebmbpdloaa", sum := "87279bb2406fdf3b17aebeac20035b683fa729c90ac69c84e24020aeea68fcab", func := "loop.example/g01237/laws.FnExactLogNumber", spec := "fnExactLogNumber", inPlace := ["math.Float64frombits", "math.Float64bits"], apart := false }
def FnExactLogNumberSaid : Prop := fnExactLogNumberRow.holds Try.pinned (OpenSpec.ofChange fnExactLogNumberSpec)

/-- ITS FALSE NEIGHBOUR: 'it returns false'. Refute it at one input. -/
def fnExactLogNumberWrong : ChangeSpec := { name := "fnExactLogNumber", fn := fun _ => fun
  | [d] => { results := [.lit (.bool false)], args := [d] }
  | _ => none }
def FnExactLogNumberWrongFalsely : Prop := fnExactLogNumberRow.holds Try.pinned (OpenSpec.ofChange fnExactLogNumberWrong)

/- THE SECOND FORM. 'bulk': how many values and letters a reading holds, each counted each time it is reached (what is shared counts as often as it is met; a slice's spare places count too). A statement '..UptoSaid' is the law's where the arguments, and the package variables that the reading takes, are together of bulk at most 1048576: NARROWER than '..Said'. Prove '..Said' where nothing that the law and all that it calls make is longer than what came in: it says more and counts as full. Else prove '..UptoSaid'. A law counts once. -/
mutual
def uptoBulk {H : Type} : DataW H → Nat
  | .lit (.string bytes) => bytes.length + 1
  | .lit _ => 1
  | .nil => 1
  | .ptr d => uptoBulk d + 1
  | .slice elems spare => uptoBulkAll elems + uptoBulkAll spare + 1
  | .agg parts => uptoBulkAll parts + 1
  | .iface _ d => uptoBulk d + 1
  | .map entries => uptoBulkEntries entries + 1
  | .held _ => 1
def uptoBulkAll {H : Type} : List (DataW H) → Nat
  | [] => 0
  | d :: r => uptoBulk d + uptoBulkAll r
def uptoBulkEntries {H : Type} : List (Lit × DataW H) → Nat
  | [] => 0
  | x :: r => uptoBulkEntry x + uptoBulkEntries r
def uptoBulkEntry {H : Type} : Lit × DataW H → Nat
  | (.string bytes, d) => bytes.length + uptoBulk d + 1
  | (_, d) => uptoBulk d + 1
 end
def uptoSmall : (H : Type) → List (DataW H) → Bool := fun _ ds => decide (uptoBulkAll ds ≤ 1048576)
def OpenSpec.upto (s : _root_.Go.ChangeSpec) : _root_.Go.OpenSpec := { _root_.Go.OpenSpec.ofChange s with cond := some uptoSmall }

/-- 'laws.FnExactAddVectors', WHERE WHAT IT READS IS OF BULK AT MOST 1048576: true; the input reads as it did. -/
def fnExactAddVectorsUptoRow : OpenClaim := { program := "ytlampebmbpdloaa", sum := "87279bb2406fdf3b17aebeac20035b683fa729c90ac69c84e24020aeea68fcab", func := "loop.example/g01237/laws.FnExactAddVectors", spec := "fnExactAddVectors", apart := false, narrowed := true }
def FnExactAddVectorsUptoSaid : Prop := fnExactAddVectorsUptoRow.holds Try.pinned (OpenSpec.upto fnExactAddVectorsSpec)

/-- 'laws.FnExactLessVectors', WHERE WHAT IT READS IS OF BULK AT MOST 1048576: true; the input reads as it did. -/
def fnExactLessVectorsUptoRow : OpenClaim := { program := "ytlampebmbpdloaa", sum := "87279bb2406fdf3b17aebeac20035b683fa729c90ac69c84e24020aeea68fcab", func := "loop.example/g01237/laws.FnExactLessVectors", spec := "fnExactLessVectors", apart := false, narrowed := true }
def FnExactLessVectorsUptoSaid : Prop := fnExactLessVectorsUptoRow.holds Try.pinned (OpenSpec.upto fnExactLessVectorsSpec)

/-- 'laws.FnExactScaleVector', WHERE WHAT IT READS IS OF BULK AT MOST 1048576: true; the input reads as it did. -/
def fnExactScaleVectorUptoRow : OpenClaim := { program := "ytlampebmbpdloaa", sum := "87279bb2406fdf3b17aebeac20035b683fa729c90ac69c84e24020aeea68fcab", func := "loop.example/g01237/laws.FnExactScaleVector", spec := "fnExactScaleVector", apart := false, narrowed := true }
def FnExactScaleVectorUptoSaid : Prop := fnExactScaleVectorUptoRow.holds Try.pinned (OpenSpec.upto fnExactScaleVectorSpec)

/-- 'laws.FnExactCrossOf', WHERE WHAT IT READS IS OF BULK AT MOST 1048576: true; the input reads as it did. -/
def fnExactCrossOfUptoRow : OpenClaim := { program := "ytlampebmbpdloaa", sum := "87279bb2406fdf3b17aebeac20035b683fa729c90ac69c84e24020aeea68fcab", func := "loop.example/g01237/laws.FnExactCrossOf", spec := "fnExactCrossOf", apart := false, narrowed := true }
def FnExactCrossOfUptoSaid : Prop := fnExactCrossOfUptoRow.holds Try.pinned (OpenSpec.upto fnExactCrossOfSpec)

/-- 'laws.FnExactFlushNumber', WHERE WHAT IT READS IS OF BULK AT MOST 1048576: true; the input reads as it did. -/
def fnExactFlushNumberUptoRow : OpenClaim := { program := "ytlampebmbpdloaa", sum := "87279bb2406fdf3b17aebeac20035b683fa729c90ac69c84e24020aeea68fcab", func := "loop.example/g01237/laws.FnExactFlushNumber", spec := "fnExactFlushNumber", inPlace := ["math.Float32bits", "math.Float32frombits", "math.Float64bits", "math.Float64frombits"], apart := false, narrowed := true }
def FnExactFlushNumberUptoSaid : Prop := fnExactFlushNumberUptoRow.holds Try.pinned (OpenSpec.upto fnExactFlushNumberSpec)

/-- 'laws.FnExactBetweenVectors', WHERE WHAT IT READS IS OF BULK AT MOST 1048576: true; the input reads as it did. -/
def fnExactBetweenVectorsUptoRow : OpenClaim := { program := "ytlampebmbpdloaa", sum := "87279bb2406fdf3b17aebeac20035b683fa729c90ac69c84e24020aeea68fcab", func := "loop.example/g01237/laws.FnExactBetweenVectors", spec := "fnExactBetweenVectors", apart := false, narrowed := true }
def FnExactBetweenVectorsUptoSaid : Prop := fnExactBetweenVectorsUptoRow.holds Try.pinned (OpenSpec.upto fnExactBetweenVectorsSpec)

/-- 'laws.FnExactNextUp', WHERE WHAT IT READS IS OF BULK AT MOST 1048576: true; the input reads as it did. -/
def fnExactNextUpUptoRow : OpenClaim := { program := "ytlampebmbpdloaa", sum := "87279bb2406fdf3b17aebeac20035b683fa729c90ac69c84e24020aeea68fcab", func := "loop.example/g01237/laws.FnExactNextUp", spec := "fnExactNextUp", inPlace := ["math.Float32bits", "math.Float32frombits", "math.Float64frombits"], apart := false, narrowed := true }
def FnExactNextUpUptoSaid : Prop := fnExactNextUpUptoRow.holds Try.pinned (OpenSpec.upto fnExactNextUpSpec)

/-- 'laws.FnExactNextDown', WHERE WHAT IT READS IS OF BULK AT MOST 1048576: true; the input reads as it did. -/
def fnExactNextDownUptoRow : OpenClaim := { program := "ytlampebmbpdloaa", sum := "87279bb2406fdf3b17aebeac20035b683fa729c90ac69c84e24020aeea68fcab", func := "loop.example/g01237/laws.FnExactNextDown", spec := "fnExactNextDown", inPlace := ["math.Float32bits", "math.Float32frombits", "math.Float64frombits"], apart := false, narrowed := true }
def FnExactNextDownUptoSaid : Prop := fnExactNextDownUptoRow.holds Try.pinned (OpenSpec.upto fnExactNextDownSpec)

/-- 'laws.FnExactRootNumber', WHERE WHAT IT READS IS OF BULK AT MOST 1048576: true; the input reads as it did. -/
def fnExactRootNumberUptoRow : OpenClaim := { program := "ytlampebmbpdloaa", sum := "87279bb2406fdf3b17aebeac20035b683fa729c90ac69c84e24020aeea68fcab", func := "loop.example/g01237/laws.FnExactRootNumber", spec := "fnExactRootNumber", inPlace := ["math.sqrt"], apart := false, narrowed := true }
def FnExactRootNumberUptoSaid : Prop := fnExactRootNumberUptoRow.holds Try.pinned (OpenSpec.upto fnExactRootNumberSpec)

/-- 'laws.FnExactLongOf', WHERE WHAT IT READS IS OF BULK AT MOST 1048576: true; the input reads as it did. -/
def fnExactLongOfUptoRow : OpenClaim := { program := "ytlampebmbpdloaa", sum := "87279bb2406fdf3b17aebeac20035b683fa729c90ac69c84e24020aeea68fcab", func := "loop.example/g01237/laws.FnExactLongOf", spec := "fnExactLongOf", inPlace := ["math.sqrt"], apart := false, narrowed := true }
def FnExactLongOfUptoSaid : Prop := fnExactLongOfUptoRow.holds Try.pinned (OpenSpec.upto fnExactLongOfSpec)

/-- 'laws.FnExactSineTurns', WHERE WHAT IT READS IS OF BULK AT MOST 1048576: true; the input reads as it did. -/
def fnExactSineTurnsUptoRow : OpenClaim := { program := "ytlampebmbpdloaa", sum := "87279bb2406fdf3b17aebeac20035b683fa729c90ac69c84e24020aeea68fcab", func := "loop.example/g01237/laws.FnExactSineTurns", spec := "fnExactSineTurns", inPlace := ["math.Float64frombits", "math.Float64bits"], apart := false, narrowed := true }
def FnExactSineTurnsUptoSaid : Prop := fnExactSineTurnsUptoRow.holds Try.pinned (OpenSpec.upto fnExactSineTurnsSpec)

/-- 'laws.FnExactLogNumber', WHERE WHAT IT READS IS OF BULK AT MOST 1048576: true; the input reads as it did. -/
def fnExactLogNumberUptoRow : OpenClaim := { program := "ytlampebmbpdloaa", sum := "87279bb2406fdf3b17aebeac20035b683fa729c90ac69c84e24020aeea68fcab", func := "loop.example/g01237/laws.FnExactLogNumber", spec := "fnExactLogNumber", inPlace := ["math.Float64frombits", "math.Float64bits"], apart := false, narrowed := true }
def FnExactLogNumberUptoSaid : Prop := fnExactLogNumberUptoRow.holds Try.pinned (OpenSpec.upto fnExactLogNumberSpec)

end Rows
end Go.Proofs.Ytlampebmbpdloaa
