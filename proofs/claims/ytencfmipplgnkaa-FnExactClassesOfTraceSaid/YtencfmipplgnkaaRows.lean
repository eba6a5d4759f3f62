/-
  No cell of these rows narrows 'for every input' (looked for: loops, veiled, ifaces, maps, wideKeys, modest, calm, conditions, laid).
  DERIVED. THE GIVEN ROWS OF THIS SEAT. 9 by the template 'for every input the law returns true; each argument reads behind the call as it read before'; 0 by the template 'total and deterministic' (their statements: YtencfmipplgnkaaTotals.lean).
  GIVEN WITH THE SEED: the statements are not yours to turn. If you find one false, say at which input.
  Laid BY PROGRAM, IN A SANDBOX (cutbox-rows.mjs): the forced cells as the released guide's own fill.sh prints them over the translation 1455024a81af06a0… (all of the seat's roots in one cut). By AI agents, Wed Nov 11 2026. No macro, syntax, notation, axiom, sorry.
-/
import Derived.Test.YtencfmipplgnkaaChecked
import GoSem.Claim
import GoSem.ClaimJoined
import GoSem.ClaimMapViews
import Derived.JoinedTies
import Derived.KernelRfl
namespace Go.Proofs.Ytencfmipplgnkaa
/- THE CELL 'sum', in the pinned program and in every row, IS THE sha256 OF THE DUMP (.gsa) THAT YtencfmipplgnkaaProg.lean LOADS. Nothing in Lean hashes anything: it is a label: what it is worth is what the hold of that sum in a sandbox is worth. -/
noncomputable def Try.pinned : Pinned := { name := "ytencfmipplgnkaa", sum := "1455024a81af06a0a1618943573420beac4cd471d9e45e56c949382cc4155e03", checked := Try.checked }
namespace Rows
def none {H : Type} : Left H := { results := [], args := [] }

/-- 'laws.FnExactMixOfFraction': WHATEVER THE INPUT: true; the input reads as it did. -/
def fnExactMixOfFractionSpec : ChangeSpec := { name := "fnExactMixOfFraction", fn := fun _ => fun
  | [d1, d2] => { results := [.lit (.bool true)], args := [d1, d2] }
  | _ => none }
def fnExactMixOfFractionRow : OpenClaim := { program := "ytencfmipplgnkaa", sum := "1455024a81af06a0a1618943573420beac4cd471d9e45e56c949382cc4155e03", func := "loop.example/g01380/laws.FnExactMixOfFraction", spec := "fnExactMixOfFraction", unfollowed := true, recurses := true, plainKeys := false, apart := false }
def FnExactMixOfFractionSaid : Prop := fnExactMixOfFractionRow.holds Try.pinned (OpenSpec.ofChange fnExactMixOfFractionSpec)

/-- ITS FALSE NEIGHBOUR: 'it returns false'. Refute it at one input. -/
def fnExactMixOfFractionWrong : ChangeSpec := { name := "fnExactMixOfFraction", fn := fun _ => fun
  | [d1, d2] => { results := [.lit (.bool false)], args := [d1, d2] }
  | _ => none }
def FnExactMixOfFractionWrongFalsely : Prop := fnExactMixOfFractionRow.holds Try.pinned (OpenSpec.ofChange fnExactMixOfFractionWrong)

/-- 'laws.FnExactChainOfFraction': WHATEVER THE INPUT: true; the input reads as it did. -/
def fnExactChainOfFractionSpec : ChangeSpec := { name := "fnExactChainOfFraction", fn := fun _ => fun
  | [d] => { results := [.lit (.bool true)], args := [d] }
  | _ => none }
def fnExactChainOfFractionRow : OpenClaim := { program := "ytencfmipplgnkaa", sum := "1455024a81af06a0a1618943573420beac4cd471d9e45e56c949382cc4155e03", func := "loop.example/g01380/laws.FnExactChainOfFraction", spec := "fnExactChainOfFraction", plainKeys := false, apart := false }
def FnExactChainOfFractionSaid : Prop := fnExactChainOfFractionRow.holds Try.pinned (OpenSpec.ofChange fnExactChainOfFractionSpec)

/-- ITS FALSE NEIGHBOUR: 'it returns false'. Refute it at one input. -/
def fnExactChainOfFractionWrong : ChangeSpec := { name := "fnExactChainOfFraction", fn := fun _ => fun
  | [d] => { results := [.lit (.bool false)], args := [d] }
  | _ => none }
def FnExactChainOfFractionWrongFalsely : Prop := fnExactChainOfFractionRow.holds Try.pinned (OpenSpec.ofChange fnExactChainOfFractionWrong)

/-- 'laws.FnExactEllipticName': WHATEVER THE INPUT: true; the input reads as it did. -/
def fnExactEllipticNameSpec : ChangeSpec := { name := "fnExactEllipticName", fn := fun _ => fun
  | [d] => { results := [.lit (.bool true)], args := [d] }
  | _ => none }
def fnExactEllipticNameRow : OpenClaim := { program := "ytencfmipplgnkaa", sum := "1455024a81af06a0a1618943573420beac4cd471d9e45e56c949382cc4155e03", func := "loop.example/g01380/laws.FnExactEllipticName", spec := "fnExactEllipticName", plainKeys := false, apart := false }
def FnExactEllipticNameSaid : Prop := fnExactEllipticNameRow.holds Try.pinned (OpenSpec.ofChange fnExactEllipticNameSpec)

/-- ITS FALSE NEIGHBOUR: 'it returns false'. Refute it at one input. -/
def fnExactEllipticNameWrong : ChangeSpec := { name := "fnExactEllipticName", fn := fun _ => fun
  | [d] => { results := [.lit (.bool false)], args := [d] }
  | _ => none }
def FnExactEllipticNameWrongFalsely : Prop := fnExactEllipticNameRow.holds Try.pinned (OpenSpec.ofChange fnExactEllipticNameWrong)

/-- 'laws.FnExactParabolicShift': WHATEVER THE INPUT: true; the input reads as it did. -/
def fnExactParabolicShiftSpec : ChangeSpec := { name := "fnExactParabolicShift", fn := fun _ => fun
  | [d] => { results := [.lit (.bool true)], args := [d] }
  | _ => none }
def fnExactParabolicShiftRow : OpenClaim := { program := "ytencfmipplgnkaa", sum := "1455024a81af06a0a1618943573420beac4cd471d9e45e56c949382cc4155e03", func := "loop.example/g01380/laws.FnExactParabolicShift", spec := "fnExactParabolicShift", plainKeys := false, apart := false }
def FnExactParabolicShiftSaid : Prop := fnExactParabolicShiftRow.holds Try.pinned (OpenSpec.ofChange fnExactParabolicShiftSpec)

/-- ITS FALSE NEIGHBOUR: 'it returns false'. Refute it at one input. -/
def fnExactParabolicShiftWrong : ChangeSpec := { name := "fnExactParabolicShift", fn := fun _ => fun
  | [d] => { results := [.lit (.bool false)], args := [d] }
  | _ => none }
def FnExactParabolicShiftWrongFalsely : Prop := fnExactParabolicShiftRow.holds Try.pinned (OpenSpec.ofChange fnExactParabolicShiftWrong)

/-- 'laws.FnExactFirstConjugator': WHATEVER THE INPUT: true; the input reads as it did. -/
def fnExactFirstConjugatorSpec : ChangeSpec := { name := "fnExactFirstConjugator", fn := fun _ => fun
  | [d1, d2, d3] => { results := [.lit (.bool true)], args := [d1, d2, d3] }
  | _ => none }
def fnExactFirstConjugatorRow : OpenClaim := { program := "ytencfmipplgnkaa", sum := "1455024a81af06a0a1618943573420beac4cd471d9e45e56c949382cc4155e03", func := "loop.example/g01380/laws.FnExactFirstConjugator", spec := "fnExactFirstConjugator", plainKeys := false, apart := false }
def FnExactFirstConjugatorSaid : Prop := fnExactFirstConjugatorRow.holds Try.pinned (OpenSpec.ofChange fnExactFirstConjugatorSpec)

/-- ITS FALSE NEIGHBOUR: 'it returns false'. Refute it at one input. -/
def fnExactFirstConjugatorWrong : ChangeSpec := { name := "fnExactFirstConjugator", fn := fun _ => fun
  | [d1, d2, d3] => { results := [.lit (.bool false)], args := [d1, d2, d3] }
  | _ => none }
def FnExactFirstConjugatorWrongFalsely : Prop := fnExactFirstConjugatorRow.holds Try.pinned (OpenSpec.ofChange fnExactFirstConjugatorWrong)

/-- 'laws.FnExactRootOf': WHATEVER THE INPUT: true; the input reads as it did. -/
def fnExactRootOfSpec : ChangeSpec := { name := "fnExactRootOf", fn := fun _ => fun
  | [d] => { results := [.lit (.bool true)], args := [d] }
  | _ => none }
def fnExactRootOfRow : OpenClaim := { program := "ytencfmipplgnkaa", sum := "1455024a81af06a0a1618943573420beac4cd471d9e45e56c949382cc4155e03", func := "loop.example/g01380/laws.FnExactRootOf", spec := "fnExactRootOf", plainKeys := false, apart := false }
def FnExactRootOfSaid : Prop := fnExactRootOfRow.holds Try.pinned (OpenSpec.ofChange fnExactRootOfSpec)

/-- ITS FALSE NEIGHBOUR: 'it returns false'. Refute it at one input. -/
def fnExactRootOfWrong : ChangeSpec := { name := "fnExactRootOf", fn := fun _ => fun
  | [d] => { results := [.lit (.bool false)], args := [d] }
  | _ => none }
def FnExactRootOfWrongFalsely : Prop := fnExactRootOfRow.holds Try.pinned (OpenSpec.ofChange fnExactRootOfWrong)

/-- 'laws.FnExactClassesOfTrace': WHATEVER THE INPUT: true; the input reads as it did. -/
def fnExactClassesOfTraceSpec : ChangeSpec := { name := "fnExactClassesOfTrace", fn := fun _ => fun
  | [d] => { results := [.lit (.bool true)], args := [d] }
  | _ => none }
def fnExactClassesOfTraceRow : OpenClaim := { program := "ytencfmipplgnkaa", sum := "1455024a81af06a0a1618943573420beac4cd471d9e45e56c949382cc4155e03", func := "loop.example/g01380/laws.FnExactClassesOfTrace", spec := "fnExactClassesOfTrace", inPlace := ["internal/abi.NoEscape", "internal/bytealg.MakeNoZero"], unfollowed := true, recurses := true, plainKeys := false, apart := false }
def FnExactClassesOfTraceSaid : Prop := fnExactClassesOfTraceRow.holds Try.pinned (OpenSpec.ofChange fnExactClassesOfTraceSpec)

/-- ITS FALSE NEIGHBOUR: 'it returns false'. Refute it at one input. -/
def fnExactClassesOfTraceWrong : ChangeSpec := { name := "fnExactClassesOfTrace", fn := fun _ => fun
  | [d] => { results := [.lit (.bool false)], args := [d] }
  | _ => none }
def FnExactClassesOfTraceWrongFalsely : Prop := fnExactClassesOfTraceRow.holds Try.pinned (OpenSpec.ofChange fnExactClassesOfTraceWrong)

/-- 'laws.FnExactClassNumber': WHATEVER THE INPUT: true; the input reads as it did. -/
def fnExactClassNumberSpec : ChangeSpec := { name := "fnExactClassNumber", fn := fun _ => fun
  | [d] => { results := [.lit (.bool true)], args := [d] }
  | _ => none }
def fnExactClassNumberRow : OpenClaim := { program := "ytencfmipplgnkaa", sum := "1455024a81af06a0a1618943573420beac4cd471d9e45e56c949382cc4155e03", func := "loop.example/g01380/laws.FnExactClassNumber", spec := "fnExactClassNumber", inPlace := ["math.sqrt"], plainKeys := false, apart := false }
def FnExactClassNumberSaid : Prop := fnExactClassNumberRow.holds Try.pinned (OpenSpec.ofChange fnExactClassNumberSpec)

/-- ITS FALSE NEIGHBOUR: 'it returns false'. Refute it at one input. -/
def fnExactClassNumberWrong : ChangeSpec := { name := "fnExactClassNumber", fn := fun _ => fun
  | [d] => { results := [.lit (.bool false)], args := [d] }
  | _ => none }
def FnExactClassNumberWrongFalsely : Prop := fnExactClassNumberRow.holds Try.pinned (OpenSpec.ofChange fnExactClassNumberWrong)

/-- 'laws.FnExactValuesOf': WHATEVER THE INPUT: true; the input reads as it did. -/
def fnExactValuesOfSpec : ChangeSpec := { name := "fnExactValuesOf", fn := fun _ => fun
  | [d1, d2] => { results := [.lit (.bool true)], args := [d1, d2] }
  | _ => none }
def fnExactValuesOfRow : OpenClaim := { program := "ytencfmipplgnkaa", sum := "1455024a81af06a0a1618943573420beac4cd471d9e45e56c949382cc4155e03", func := "loop.example/g01380/laws.FnExactValuesOf", spec := "fnExactValuesOf", recurses := true, plainKeys := false, apart := false }
def FnExactValuesOfSaid : Prop := fnExactValuesOfRow.holds Try.pinned (OpenSpec.ofChange fnExactValuesOfSpec)

/-- ITS FALSE NEIGHBOUR: 'it returns false'. Refute it at one input. -/
def fnExactValuesOfWrong : ChangeSpec := { name := "fnExactValuesOf", fn := fun _ => fun
  | [d1, d2] => { results := [.lit (.bool false)], args := [d1, d2] }
  | _ => none }
def FnExactValuesOfWrongFalsely : Prop := fnExactValuesOfRow.holds Try.pinned (OpenSpec.ofChange fnExactValuesOfWrong)

/- THE SECOND FORM. 'bulk': how many values and letters a reading holds, each counted each time it is reached (what is shared counts as often as it is met; a slice's spare places count too). A statement '..UptoSaid' is the law's where the arguments, and the package variables that the reading takes, are together of bulk at most 1048576: NARROWER than '..Said'. Prove '..Said' where nothing that the law and all that it calls make is longer than what came in: it says more and counts as full. Else prove '..UptoSaid'. A law counts once. -/
mutual
def uptoBulk {H : Type} : DataW H → Nat
  | .lit (.string bytes) => bytes.length + 1
  | .lit _ => 1
  | .nil => 1
  | .ptr d => uptoBulk d + 1
  | .slice elems spare => uptoBulkAll elems + uptoBulkAll spare + 1
  | .agg parts => uptoBulkAll parts + 1
  | .iface _ d => uptoBulk d + 1
  | .map entries => uptoBulkEntries entries + 1
  | .held _ => 1
def uptoBulkAll {H : Type} : List (DataW H) → Nat
  | [] => 0
  | d :: r => uptoBulk d + uptoBulkAll r
def uptoBulkEntries {H : Type} : List (Lit × DataW H) → Nat
  | [] => 0
  | x :: r => uptoBulkEntry x + uptoBulkEntries r
def uptoBulkEntry {H : Type} : Lit × DataW H → Nat
  | (.string bytes, d) => bytes.length + uptoBulk d + 1
  | (_, d) => uptoBulk d + 1
 end
def uptoSmall : (H : Type) → List (DataW H) → Bool := fun _ ds => decide (uptoBulkAll ds ≤ 1048576)
def OpenSpec.upto (s : _root_.Go.ChangeSpec) : _root_.Go.OpenSpec := { _root_.Go.OpenSpec.ofChange s with cond := some uptoSmall }

/-- 'laws.FnExactMixOfFraction', WHERE WHAT IT READS IS OF BULK AT MOST 1048576: true; the input reads as it did. -/
def fnExactMixOfFractionUptoRow : OpenClaim := { program := "ytencfmipplgnkaa", sum := "1455024a81af06a0a1618943573420beac4cd471d9e45e56c949382cc4155e03", func := "loop.example/g01380/laws.FnExactMixOfFraction", spec := "fnExactMixOfFraction", unfollowed := true, recurses := true, plainKeys := false, apart := false, narrowed := true }
def FnExactMixOfFractionUptoSaid : Prop := fnExactMixOfFractionUptoRow.holds Try.pinned (OpenSpec.upto fnExactMixOfFractionSpec)

/-- 'laws.FnExactChainOfFraction', WHERE WHAT IT READS IS OF BULK AT MOST 1048576: true; the input reads as it did. -/
def fnExactChainOfFractionUptoRow : OpenClaim := { program := "ytencfmipplgnkaa", sum := "1455024a81af06a0a1618943573420beac4cd471d9e45e56c949382cc4155e03", func := "loop.example/g01380/laws.FnExactChainOfFraction", spec := "fnExactChainOfFraction", plainKeys := false, apart := false, narrowed := true }
def FnExactChainOfFractionUptoSaid : Prop := fnExactChainOfFractionUptoRow.holds Try.pinned (OpenSpec.upto fnExactChainOfFractionSpec)

/-- 'laws.FnExactEllipticName', WHERE WHAT IT READS IS OF BULK AT MOST 1048576: true; the input reads as it did. -/
def fnExactEllipticNameUptoRow : OpenClaim := { program := "ytencfmipplgnkaa", sum := "1455024a81af06a0a1618943573420beac4cd471d9e45e56c949382cc4155e03", func := "loop.example/g01380/laws.FnExactEllipticName", spec := "fnExactEllipticName", plainKeys := false, apart := false, narrowed := true }
def FnExactEllipticNameUptoSaid : Prop := fnExactEllipticNameUptoRow.holds Try.pinned (OpenSpec.upto fnExactEllipticNameSpec)

/-- 'laws.FnExactParabolicShift', WHERE WHAT IT READS IS OF BULK AT MOST 1048576: true; the input reads as it did. -/
def fnExactParabolicShiftUptoRow : OpenClaim := { program := "ytencfmipplgnkaa", sum := "1455024a81af06a0a1618943573420beac4cd471d9e45e56c949382cc4155e03", func := "loop.example/g01380/laws.FnExactParabolicShift", spec := "fnExactParabolicShift", plainKeys := false, apart := false, narrowed := true }
def FnExactParabolicShiftUptoSaid : Prop := fnExactParabolicShiftUptoRow.holds Try.pinned (OpenSpec.upto fnExactParabolicShiftSpec)

/-- 'laws.FnExactFirstConjugator', WHERE WHAT IT READS IS OF BULK AT MOST 1048576: true; the input reads as it did. -/
def fnExactFirstConjugatorUptoRow : OpenClaim := { program := "ytencfmipplgnkaa", sum := "1455024a81af06a0a1618943573420beac4cd471d9e45e56c949382cc4155e03", func := "loop.example/g01380/laws.FnExactFirstConjugator", spec := "fnExactFirstConjugator", plainKeys := false, apart := false, narrowed := true }
def FnExactFirstConjugatorUptoSaid : Prop := fnExactFirstConjugatorUptoRow.holds Try.pinned (OpenSpec.upto fnExactFirstConjugatorSpec)

/-- 'laws.FnExactRootOf', WHERE WHAT IT READS IS OF BULK AT MOST 1048576: true; the input reads as it did. -/
def fnExactRootOfUptoRow : OpenClaim := { program := "ytencfmipplgnkaa", sum := "1455024a81af06a0a1618943573420beac4cd471d9e45e56c949382cc4155e03", func := "loop.example/g01380/laws.FnExactRootOf", spec := "fnExactRootOf", plainKeys := false, apart := false, narrowed := true }
def FnExactRootOfUptoSaid : Prop := fnExactRootOfUptoRow.holds Try.pinned (OpenSpec.upto fnExactRootOfSpec)

/-- 'laws.FnExactClassesOfTrace', WHERE WHAT IT READS IS OF BULK AT MOST 1048576: true; the input reads as it did. -/
def fnExactClassesOfTraceUptoRow : OpenClaim := { program := "ytencfmipplgnkaa", sum := "1455024a81af06a0a1618943573420beac4cd471d9e45e56c949382cc4155e03", func := "loop.example/g01380/laws.FnExactClassesOfTrace", spec := "fnExactClassesOfTrace", inPlace := ["internal/abi.NoEscape", "internal/bytealg.MakeNoZero"], unfollowed := true, recurses := true, plainKeys := false, apart := false, narrowed := true }
def FnExactClassesOfTraceUptoSaid : Prop := fnExactClassesOfTraceUptoRow.holds Try.pinned (OpenSpec.upto fnExactClassesOfTraceSpec)

/-- 'laws.FnExactClassNumber', WHERE WHAT IT READS IS OF BULK AT MOST 1048576: true; the input reads as it did. -/
def fnExactClassNumberUptoRow : OpenClaim := { program := "ytencfmipplgnkaa", sum := "1455024a81af06a0a1618943573420beac4cd471d9e45e56c949382cc4155e03", func := "loop.example/g01380/laws.FnExactClassNumber", spec := "fnExactClassNumber", inPlace := ["math.sqrt"], plainKeys := false, apart := false, narrowed := true }
def FnExactClassNumberUptoSaid : Prop := fnExactClassNumberUptoRow.holds Try.pinned (OpenSpec.upto fnExactClassNumberSpec)

/-- 'laws.FnExactValuesOf', WHERE WHAT IT READS IS OF BULK AT MOST 1048576: true; the input reads as it did. -/
def fnExactValuesOfUptoRow : OpenClaim := { program := "ytencfmipplgnkaa", sum := "1455024a81af06a0a1618943573420beac4cd471d9e45e56c949382cc4155e03", func := "loop.example/g01380/laws.FnExactValuesOf", spec := "fnExactValuesOf", recurses := true, plainKeys := false, apart := false, narrowed := true }
def FnExactValuesOfUptoSaid : Prop := fnExactValuesOfUptoRow.holds Try.pinned (OpenSpec.upto fnExactValuesOfSpec)

end Rows
end Go.Proofs.Ytencfmipplgnkaa
