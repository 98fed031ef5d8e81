/-
  No cell of these rows narrows 'for every input' (looked for: loops, veiled, ifaces, maps, wideKeys, modest, calm, conditions, laid).
  DERIVED. THE GIVEN ROWS OF THIS SEAT. 11 by the template 'for every input the law returns true; each argument reads behind the call as it read before'; 0 by the template 'total and deterministic' (their statements: YtdbkhlkofegaaaaTotals.lean).
  GIVEN WITH THE SEED: the statements are not yours to turn. If you find one false, say at which input.
  Laid BY PROGRAM, IN A SANDBOX (cutbox-rows.mjs): the forced cells as the released guide's own fill.sh prints them over the translation e003977a09f6c5cd… (all of the seat's roots in one cut). By AI agents, Wed Nov 11 2026. No macro, syntax, notation, axiom, sorry.
-/
import Derived.Test.YtdbkhlkofegaaaaChecked
import GoSem.Claim
import GoSem.ClaimJoined
import GoSem.ClaimMapViews
import Derived.JoinedTies
import Derived.KernelRfl
namespace Go.Proofs.Ytdbkhlkofegaaaa
/- THE CELL 'sum', in the pinned program and in every row, IS THE sha256 OF THE DUMP (.gsa) THAT YtdbkhlkofegaaaaProg.lean LOADS. Nothing in Lean hashes anything: it is a label: what it is worth is what the hold of that sum in a sandbox is worth. -/
noncomputable def Try.pinned : Pinned := { name := "ytdbkhlkofegaaaa", sum := "e003977a09f6c5cda9976b082ede8bab0ea165071ff108c8ff0f8d9431b297ab", checked := Try.checked }
namespace Rows
def none {H : Type} : Left H := { results := [], args := [] }

/-- 'laws.FnExactConstants': WHATEVER THE INPUT: true; the input reads as it did. -/
def fnExactConstantsSpec : ChangeSpec := { name := "fnExactConstants", fn := fun _ => fun
  | [] => { results := [.lit (.bool true)], args := [] }
  | _ => none }
def fnExactConstantsRow : OpenClaim := { program := "ytdbkhlkofegaaaa", sum := "e003977a09f6c5cda9976b082ede8bab0ea165071ff108c8ff0f8d9431b297ab", func := "loop.example/g01237/laws.FnExactConstants", spec := "fnExactConstants", apart := false }
def FnExactConstantsSaid : Prop := fnExactConstantsRow.holds Try.pinned (OpenSpec.ofChange fnExactConstantsSpec)

/-- ITS FALSE NEIGHBOUR: 'it returns false'. Refute it at one input. -/
def fnExactConstantsWrong : ChangeSpec := { name := "fnExactConstants", fn := fun _ => fun
  | [] => { results := [.lit (.bool false)], args := [] }
  | _ => none }
def FnExactConstantsWrongFalsely : Prop := fnExactConstantsRow.holds Try.pinned (OpenSpec.ofChange fnExactConstantsWrong)

/-- 'laws.FnExactIsFinite': WHATEVER THE INPUT: true; the input reads as it did. -/
def fnExactIsFiniteSpec : ChangeSpec := { name := "fnExactIsFinite", fn := fun _ => fun
  | [d] => { results := [.lit (.bool true)], args := [d] }
  | _ => none }
def fnExactIsFiniteRow : OpenClaim := { program := "ytdbkhlkofegaaaa", sum := "e003977a09f6c5cda9976b082ede8bab0ea165071ff108c8ff0f8d9431b297ab", func := "loop.example/g01237/laws.FnExactIsFinite", spec := "fnExactIsFinite", apart := false }
def FnExactIsFiniteSaid : Prop := fnExactIsFiniteRow.holds Try.pinned (OpenSpec.ofChange fnExactIsFiniteSpec)

/-- ITS FALSE NEIGHBOUR: 'it returns false'. Refute it at one input. -/
def fnExactIsFiniteWrong : ChangeSpec := { name := "fnExactIsFinite", fn := fun _ => fun
  | [d] => { results := [.lit (.bool false)], args := [d] }
  | _ => none }
def FnExactIsFiniteWrongFalsely : Prop := fnExactIsFiniteRow.holds Try.pinned (OpenSpec.ofChange fnExactIsFiniteWrong)

/-- 'laws.FnExactNarrowNumber': WHATEVER THE INPUT: true; the input reads as it did. -/
def fnExactNarrowNumberSpec : ChangeSpec := { name := "fnExactNarrowNumber", fn := fun _ => fun
  | [d] => { results := [.lit (.bool true)], args := [d] }
  | _ => none }
def fnExactNarrowNumberRow : OpenClaim := { program := "ytdbkhlkofegaaaa", sum := "e003977a09f6c5cda9976b082ede8bab0ea165071ff108c8ff0f8d9431b297ab", func := "loop.example/g01237/laws.FnExactNarrowNumber", spec := "fnExactNarrowNumber", apart := false }
def FnExactNarrowNumberSaid : Prop := fnExactNarrowNumberRow.holds Try.pinned (OpenSpec.ofChange fnExactNarrowNumberSpec)

/-- ITS FALSE NEIGHBOUR: 'it returns false'. Refute it at one input. -/
def fnExactNarrowNumberWrong : ChangeSpec := { name := "fnExactNarrowNumber", fn := fun _ => fun
  | [d] => { results := [.lit (.bool false)], args := [d] }
  | _ => none }
def FnExactNarrowNumberWrongFalsely : Prop := fnExactNarrowNumberRow.holds Try.pinned (OpenSpec.ofChange fnExactNarrowNumberWrong)

/-- 'laws.FnExactBitsOf': WHATEVER THE INPUT: true; the input reads as it did. -/
def fnExactBitsOfSpec : ChangeSpec := { name := "fnExactBitsOf", fn := fun _ => fun
  | [d] => { results := [.lit (.bool true)], args := [d] }
  | _ => none }
def fnExactBitsOfRow : OpenClaim := { program := "ytdbkhlkofegaaaa", sum := "e003977a09f6c5cda9976b082ede8bab0ea165071ff108c8ff0f8d9431b297ab", func := "loop.example/g01237/laws.FnExactBitsOf", spec := "fnExactBitsOf", inPlace := ["math.Float32bits"], apart := false }
def FnExactBitsOfSaid : Prop := fnExactBitsOfRow.holds Try.pinned (OpenSpec.ofChange fnExactBitsOfSpec)

/-- ITS FALSE NEIGHBOUR: 'it returns false'. Refute it at one input. -/
def fnExactBitsOfWrong : ChangeSpec := { name := "fnExactBitsOf", fn := fun _ => fun
  | [d] => { results := [.lit (.bool false)], args := [d] }
  | _ => none }
def FnExactBitsOfWrongFalsely : Prop := fnExactBitsOfRow.holds Try.pinned (OpenSpec.ofChange fnExactBitsOfWrong)

/-- 'laws.FnExactIsSubnormal': WHATEVER THE INPUT: true; the input reads as it did. -/
def fnExactIsSubnormalSpec : ChangeSpec := { name := "fnExactIsSubnormal", fn := fun _ => fun
  | [d] => { results := [.lit (.bool true)], args := [d] }
  | _ => none }
def fnExactIsSubnormalRow : OpenClaim := { program := "ytdbkhlkofegaaaa", sum := "e003977a09f6c5cda9976b082ede8bab0ea165071ff108c8ff0f8d9431b297ab", func := "loop.example/g01237/laws.FnExactIsSubnormal", spec := "fnExactIsSubnormal", inPlace := ["math.Float32bits", "math.Float64bits", "math.Float64frombits"], apart := false }
def FnExactIsSubnormalSaid : Prop := fnExactIsSubnormalRow.holds Try.pinned (OpenSpec.ofChange fnExactIsSubnormalSpec)

/-- ITS FALSE NEIGHBOUR: 'it returns false'. Refute it at one input. -/
def fnExactIsSubnormalWrong : ChangeSpec := { name := "fnExactIsSubnormal", fn := fun _ => fun
  | [d] => { results := [.lit (.bool false)], args := [d] }
  | _ => none }
def FnExactIsSubnormalWrongFalsely : Prop := fnExactIsSubnormalRow.holds Try.pinned (OpenSpec.ofChange fnExactIsSubnormalWrong)

/-- 'laws.FnExactIsName': WHATEVER THE INPUT: true; the input reads as it did. -/
def fnExactIsNameSpec : ChangeSpec := { name := "fnExactIsName", fn := fun _ => fun
  | [d] => { results := [.lit (.bool true)], args := [d] }
  | _ => none }
def fnExactIsNameRow : OpenClaim := { program := "ytdbkhlkofegaaaa", sum := "e003977a09f6c5cda9976b082ede8bab0ea165071ff108c8ff0f8d9431b297ab", func := "loop.example/g01237/laws.FnExactIsName", spec := "fnExactIsName", apart := false }
def FnExactIsNameSaid : Prop := fnExactIsNameRow.holds Try.pinned (OpenSpec.ofChange fnExactIsNameSpec)

/-- ITS FALSE NEIGHBOUR: 'it returns false'. Refute it at one input. -/
def fnExactIsNameWrong : ChangeSpec := { name := "fnExactIsName", fn := fun _ => fun
  | [d] => { results := [.lit (.bool false)], args := [d] }
  | _ => none }
def FnExactIsNameWrongFalsely : Prop := fnExactIsNameRow.holds Try.pinned (OpenSpec.ofChange fnExactIsNameWrong)

/-- 'laws.FnExactSameNumber': WHATEVER THE INPUT: true; the input reads as it did. -/
def fnExactSameNumberSpec : ChangeSpec := { name := "fnExactSameNumber", fn := fun _ => fun
  | [d1, d2] => { results := [.lit (.bool true)], args := [d1, d2] }
  | _ => none }
def fnExactSameNumberRow : OpenClaim := { program := "ytdbkhlkofegaaaa", sum := "e003977a09f6c5cda9976b082ede8bab0ea165071ff108c8ff0f8d9431b297ab", func := "loop.example/g01237/laws.FnExactSameNumber", spec := "fnExactSameNumber", inPlace := ["math.Float32bits", "math.Float64bits"], apart := false }
def FnExactSameNumberSaid : Prop := fnExactSameNumberRow.holds Try.pinned (OpenSpec.ofChange fnExactSameNumberSpec)

/-- ITS FALSE NEIGHBOUR: 'it returns false'. Refute it at one input. -/
def fnExactSameNumberWrong : ChangeSpec := { name := "fnExactSameNumber", fn := fun _ => fun
  | [d1, d2] => { results := [.lit (.bool false)], args := [d1, d2] }
  | _ => none }
def FnExactSameNumberWrongFalsely : Prop := fnExactSameNumberRow.holds Try.pinned (OpenSpec.ofChange fnExactSameNumberWrong)

/-- 'laws.FnExactCheckOf': WHATEVER THE INPUT: true; the input reads as it did. -/
def fnExactCheckOfSpec : ChangeSpec := { name := "fnExactCheckOf", fn := fun _ => fun
  | [d1, d2] => { results := [.lit (.bool true)], args := [d1, d2] }
  | _ => none }
def fnExactCheckOfRow : OpenClaim := { program := "ytdbkhlkofegaaaa", sum := "e003977a09f6c5cda9976b082ede8bab0ea165071ff108c8ff0f8d9431b297ab", func := "loop.example/g01237/laws.FnExactCheckOf", spec := "fnExactCheckOf", apart := false }
def FnExactCheckOfSaid : Prop := fnExactCheckOfRow.holds Try.pinned (OpenSpec.ofChange fnExactCheckOfSpec)

/-- ITS FALSE NEIGHBOUR: 'it returns false'. Refute it at one input. -/
def fnExactCheckOfWrong : ChangeSpec := { name := "fnExactCheckOf", fn := fun _ => fun
  | [d1, d2] => { results := [.lit (.bool false)], args := [d1, d2] }
  | _ => none }
def FnExactCheckOfWrongFalsely : Prop := fnExactCheckOfRow.holds Try.pinned (OpenSpec.ofChange fnExactCheckOfWrong)

/-- 'laws.FnExactInnerOf': WHATEVER THE INPUT: true; the input reads as it did. -/
def fnExactInnerOfSpec : ChangeSpec := { name := "fnExactInnerOf", fn := fun _ => fun
  | [d1, d2] => { results := [.lit (.bool true)], args := [d1, d2] }
  | _ => none }
def fnExactInnerOfRow : OpenClaim := { program := "ytdbkhlkofegaaaa", sum := "e003977a09f6c5cda9976b082ede8bab0ea165071ff108c8ff0f8d9431b297ab", func := "loop.example/g01237/laws.FnExactInnerOf", spec := "fnExactInnerOf", apart := false }
def FnExactInnerOfSaid : Prop := fnExactInnerOfRow.holds Try.pinned (OpenSpec.ofChange fnExactInnerOfSpec)

/-- ITS FALSE NEIGHBOUR: 'it returns false'. Refute it at one input. -/
def fnExactInnerOfWrong : ChangeSpec := { name := "fnExactInnerOf", fn := fun _ => fun
  | [d1, d2] => { results := [.lit (.bool false)], args := [d1, d2] }
  | _ => none }
def FnExactInnerOfWrongFalsely : Prop := fnExactInnerOfRow.holds Try.pinned (OpenSpec.ofChange fnExactInnerOfWrong)

/-- 'laws.FnExactFromBits': WHATEVER THE INPUT: true; the input reads as it did. -/
def fnExactFromBitsSpec : ChangeSpec := { name := "fnExactFromBits", fn := fun _ => fun
  | [d] => { results := [.lit (.bool true)], args := [d] }
  | _ => none }
def fnExactFromBitsRow : OpenClaim := { program := "ytdbkhlkofegaaaa", sum := "e003977a09f6c5cda9976b082ede8bab0ea165071ff108c8ff0f8d9431b297ab", func := "loop.example/g01237/laws.FnExactFromBits", spec := "fnExactFromBits", inPlace := ["math.Float32frombits"], apart := false }
def FnExactFromBitsSaid : Prop := fnExactFromBitsRow.holds Try.pinned (OpenSpec.ofChange fnExactFromBitsSpec)

/-- ITS FALSE NEIGHBOUR: 'it returns false'. Refute it at one input. -/
def fnExactFromBitsWrong : ChangeSpec := { name := "fnExactFromBits", fn := fun _ => fun
  | [d] => { results := [.lit (.bool false)], args := [d] }
  | _ => none }
def FnExactFromBitsWrongFalsely : Prop := fnExactFromBitsRow.holds Try.pinned (OpenSpec.ofChange fnExactFromBitsWrong)

/-- 'laws.FnExactSameVector': WHATEVER THE INPUT: true; the input reads as it did. -/
def fnExactSameVectorSpec : ChangeSpec := { name := "fnExactSameVector", fn := fun _ => fun
  | [d1, d2] => { results := [.lit (.bool true)], args := [d1, d2] }
  | _ => none }
def fnExactSameVectorRow : OpenClaim := { program := "ytdbkhlkofegaaaa", sum := "e003977a09f6c5cda9976b082ede8bab0ea165071ff108c8ff0f8d9431b297ab", func := "loop.example/g01237/laws.FnExactSameVector", spec := "fnExactSameVector", inPlace := ["math.Float32bits", "math.Float64bits"], apart := false }
def FnExactSameVectorSaid : Prop := fnExactSameVectorRow.holds Try.pinned (OpenSpec.ofChange fnExactSameVectorSpec)

/-- ITS FALSE NEIGHBOUR: 'it returns false'. Refute it at one input. -/
def fnExactSameVectorWrong : ChangeSpec := { name := "fnExactSameVector", fn := fun _ => fun
  | [d1, d2] => { results := [.lit (.bool false)], args := [d1, d2] }
  | _ => none }
def FnExactSameVectorWrongFalsely : Prop := fnExactSameVectorRow.holds Try.pinned (OpenSpec.ofChange fnExactSameVectorWrong)

/- THE SECOND FORM. 'bulk': how many values and letters a reading holds, each counted each time it is reached (what is shared counts as often as it is met; a slice's spare places count too). A statement '..UptoSaid' is the law's where the arguments, and the package variables that the reading takes, are together of bulk at most 1048576: NARROWER than '..Said'. Prove '..Said' where nothing that the law and all that it calls make is longer than what came in: it says more and counts as full. Else prove '..UptoSaid'. A law counts once. -/
mutual
def uptoBulk {H : Type} : DataW H → Nat
  | .lit (.string bytes) => bytes.length + 1
  | .lit _ => 1
  | .nil => 1
  | .ptr d => uptoBulk d + 1
  | .slice elems spare => uptoBulkAll elems + uptoBulkAll spare + 1
  | .agg parts => uptoBulkAll parts + 1
  | .iface _ d => uptoBulk d + 1
  | .map entries => uptoBulkEntries entries + 1
  | .held _ => 1
def uptoBulkAll {H : Type} : List (DataW H) → Nat
  | [] => 0
  | d :: r => uptoBulk d + uptoBulkAll r
def uptoBulkEntries {H : Type} : List (Lit × DataW H) → Nat
  | [] => 0
  | x :: r => uptoBulkEntry x + uptoBulkEntries r
def uptoBulkEntry {H : Type} : Lit × DataW H → Nat
  | (.string bytes, d) => bytes.length + uptoBulk d + 1
  | (_, d) => uptoBulk d + 1
 end
def uptoSmall : (H : Type) → List (DataW H) → Bool := fun _ ds => decide (uptoBulkAll ds ≤ 1048576)
def OpenSpec.upto (s : _root_.Go.ChangeSpec) : _root_.Go.OpenSpec := { _root_.Go.OpenSpec.ofChange s with cond := some uptoSmall }

/-- 'laws.FnExactConstants', WHERE WHAT IT READS IS OF BULK AT MOST 1048576: true; the input reads as it did. -/
def fnExactConstantsUptoRow : OpenClaim := { program := "ytdbkhlkofegaaaa", sum := "e003977a09f6c5cda9976b082ede8bab0ea165071ff108c8ff0f8d9431b297ab", func := "loop.example/g01237/laws.FnExactConstants", spec := "fnExactConstants", apart := false, narrowed := true }
def FnExactConstantsUptoSaid : Prop := fnExactConstantsUptoRow.holds Try.pinned (OpenSpec.upto fnExactConstantsSpec)

/-- 'laws.FnExactIsFinite', WHERE WHAT IT READS IS OF BULK AT MOST 1048576: true; the input reads as it did. -/
def fnExactIsFiniteUptoRow : OpenClaim := { program := "ytdbkhlkofegaaaa", sum := "e003977a09f6c5cda9976b082ede8bab0ea165071ff108c8ff0f8d9431b297ab", func := "loop.example/g01237/laws.FnExactIsFinite", spec := "fnExactIsFinite", apart := false, narrowed := true }
def FnExactIsFiniteUptoSaid : Prop := fnExactIsFiniteUptoRow.holds Try.pinned (OpenSpec.upto fnExactIsFiniteSpec)

/-- 'laws.FnExactNarrowNumber', WHERE WHAT IT READS IS OF BULK AT MOST 1048576: true; the input reads as it did. -/
def fnExactNarrowNumberUptoRow : OpenClaim := { program := "ytdbkhlkofegaaaa", sum := "e003977a09f6c5cda9976b082ede8bab0ea165071ff108c8ff0f8d9431b297ab", func := "loop.example/g01237/laws.FnExactNarrowNumber", spec := "fnExactNarrowNumber", apart := false, narrowed := true }
def FnExactNarrowNumberUptoSaid : Prop := fnExactNarrowNumberUptoRow.holds Try.pinned (OpenSpec.upto fnExactNarrowNumberSpec)

/-- 'laws.FnExactBitsOf', WHERE WHAT IT READS IS OF BULK AT MOST 1048576: true; the input reads as it did. -/
def fnExactBitsOfUptoRow : OpenClaim := { program := "ytdbkhlkofegaaaa", sum := "e003977a09f6c5cda9976b082ede8bab0ea165071ff108c8ff0f8d9431b297ab", func := "loop.example/g01237/laws.FnExactBitsOf", spec := "fnExactBitsOf", inPlace := ["math.Float32bits"], apart := false, narrowed := true }
def FnExactBitsOfUptoSaid : Prop := fnExactBitsOfUptoRow.holds Try.pinned (OpenSpec.upto fnExactBitsOfSpec)

/-- 'laws.FnExactIsSubnormal', WHERE WHAT IT READS IS OF BULK AT MOST 1048576: true; the input reads as it did. -/
def fnExactIsSubnormalUptoRow : OpenClaim := { program := "ytdbkhlkofegaaaa", sum := "e003977a09f6c5cda9976b082ede8bab0ea165071ff108c8ff0f8d9431b297ab", func := "loop.example/g01237/laws.FnExactIsSubnormal", spec := "fnExactIsSubnormal", inPlace := ["math.Float32bits", "math.Float64bits", "math.Float64frombits"], apart := false, narrowed := true }
def FnExactIsSubnormalUptoSaid : Prop := fnExactIsSubnormalUptoRow.holds Try.pinned (OpenSpec.upto fnExactIsSubnormalSpec)

/-- 'laws.FnExactIsName', WHERE WHAT IT READS IS OF BULK AT MOST 1048576: true; the input reads as it did. -/
def fnExactIsNameUptoRow : OpenClaim := { program := "ytdbkhlkofegaaaa", sum := "e003977a09f6c5cda9976b082ede8bab0ea165071ff108c8ff0f8d9431b297ab", func := "loop.example/g01237/laws.FnExactIsName", spec := "fnExactIsName", apart := false, narrowed := true }
def FnExactIsNameUptoSaid : Prop := fnExactIsNameUptoRow.holds Try.pinned (OpenSpec.upto fnExactIsNameSpec)

/-- 'laws.FnExactSameNumber', WHERE WHAT IT READS IS OF BULK AT MOST 1048576: true; the input reads as it did. -/
def fnExactSameNumberUptoRow : OpenClaim := { program := "ytdbkhlkofegaaaa", sum := "e003977a09f6c5cda9976b082ede8bab0ea165071ff108c8ff0f8d9431b297ab", func := "loop.example/g01237/laws.FnExactSameNumber", spec := "fnExactSameNumber", inPlace := ["math.Float32bits", "math.Float64bits"], apart := false, narrowed := true }
def FnExactSameNumberUptoSaid : Prop := fnExactSameNumberUptoRow.holds Try.pinned (OpenSpec.upto fnExactSameNumberSpec)

/-- 'laws.FnExactCheckOf', WHERE WHAT IT READS IS OF BULK AT MOST 1048576: true; the input reads as it did. -/
def fnExactCheckOfUptoRow : OpenClaim := { program := "ytdbkhlkofegaaaa", sum := "e003977a09f6c5cda9976b082ede8bab0ea165071ff108c8ff0f8d9431b297ab", func := "loop.example/g01237/laws.FnExactCheckOf", spec := "fnExactCheckOf", apart := false, narrowed := true }
def FnExactCheckOfUptoSaid : Prop := fnExactCheckOfUptoRow.holds Try.pinned (OpenSpec.upto fnExactCheckOfSpec)

/-- 'laws.FnExactInnerOf', WHERE WHAT IT READS IS OF BULK AT MOST 1048576: true; the input reads as it did. -/
def fnExactInnerOfUptoRow : OpenClaim := { program := "ytdbkhlkofegaaaa", sum := "e003977a09f6c5cda9976b082ede8bab0ea165071ff108c8ff0f8d9431b297ab", func := "loop.example/g01237/laws.FnExactInnerOf", spec := "fnExactInnerOf", apart := false, narrowed := true }
def FnExactInnerOfUptoSaid : Prop := fnExactInnerOfUptoRow.holds Try.pinned (OpenSpec.upto fnExactInnerOfSpec)

/-- 'laws.FnExactFromBits', WHERE WHAT IT READS IS OF BULK AT MOST 1048576: true; the input reads as it did. -/
def fnExactFromBitsUptoRow : OpenClaim := { program := "ytdbkhlkofegaaaa", sum := "e003977a09f6c5cda9976b082ede8bab0ea165071ff108c8ff0f8d9431b297ab", func := "loop.example/g01237/laws.FnExactFromBits", spec := "fnExactFromBits", inPlace := ["math.Float32frombits"], apart := false, narrowed := true }
def FnExactFromBitsUptoSaid : Prop := fnExactFromBitsUptoRow.holds Try.pinned (OpenSpec.upto fnExactFromBitsSpec)

/-- 'laws.FnExactSameVector', WHERE WHAT IT READS IS OF BULK AT MOST 1048576: true; the input reads as it did. -/
def fnExactSameVectorUptoRow : OpenClaim := { program := "ytdbkhlkofegaaaa", sum := "e003977a09f6c5cda9976b082ede8bab0ea165071ff108c8ff0f8d9431b297ab", func := "loop.example/g01237/laws.FnExactSameVector", spec := "fnExactSameVector", inPlace := ["math.Float32bits", "math.Float64bits"], apart := false, narrowed := true }
def FnExactSameVectorUptoSaid : Prop := fnExactSameVectorUptoRow.holds Try.pinned (OpenSpec.upto fnExactSameVectorSpec)

end Rows
end Go.Proofs.Ytdbkhlkofegaaaa
