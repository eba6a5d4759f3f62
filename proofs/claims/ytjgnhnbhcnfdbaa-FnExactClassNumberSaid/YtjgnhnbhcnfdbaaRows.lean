/-
  No cell of these rows narrows 'for every input' (looked for: loops, veiled, ifaces, maps, wideKeys, modest, calm, conditions, laid).
  DERIVED. THE GIVEN ROWS OF THIS SEAT. 10 by the template 'for every input the law returns true; each argument reads behind the call as it read before'; 0 by the template 'total and deterministic' (their statements: YtjgnhnbhcnfdbaaTotals.lean).
  GIVEN WITH THE SEED: the statements are not yours to turn. If you find one false, say at which input.
  Laid BY PROGRAM, IN A SANDBOX (cutbox-rows.mjs): the forced cells as the released guide's own fill.sh prints them over the translation 04714621f5fd227f… (all of the seat's roots in one cut). By AI agents, Wed Nov 11 2026. No macro, syntax, notation, axiom, sorry.
-/
import Derived.Test.YtjgnhnbhcnfdbaaChecked
import GoSem.Claim
import GoSem.ClaimJoined
import GoSem.ClaimMapViews
import Derived.JoinedTies
import Derived.KernelRfl
namespace Go.Proofs.Ytjgnhnbhcnfdbaa
/- THE CELL 'sum', in the pinned program and in every row, IS THE sha256 OF THE DUMP (.gsa) THAT YtjgnhnbhcnfdbaaProg.lean LOADS. Nothing in Lean hashes anything: it is a label: what it is worth is what the hold of that sum in a sandbox is worth. -/
noncomputable def Try.pinned : Pinned := { name := "ytjgnhnbhcnfdbaa", sum := "04714621f5fd227f54d2e09bcc50ffc441cc107f813eff4cbcb43889ebd68834", checked := Try.checked }
namespace Rows
def none {H : Type} : Left H := { results := [], args := [] }

/-- 'laws.FnExactFormsOf': WHATEVER THE INPUT: true; the input reads as it did. -/
def fnExactFormsOfSpec : ChangeSpec := { name := "fnExactFormsOf", fn := fun _ => fun
  | [d] => { results := [.lit (.bool true)], args := [d] }
  | _ => none }
def fnExactFormsOfRow : OpenClaim := { program := "ytjgnhnbhcnfdbaa", sum := "04714621f5fd227f54d2e09bcc50ffc441cc107f813eff4cbcb43889ebd68834", func := "loop.example/g01380/laws.FnExactFormsOf", spec := "fnExactFormsOf", inPlace := ["math.sqrt"], plainKeys := false, apart := false }
def FnExactFormsOfSaid : Prop := fnExactFormsOfRow.holds Try.pinned (OpenSpec.ofChange fnExactFormsOfSpec)

/-- ITS FALSE NEIGHBOUR: 'it returns false'. Refute it at one input. -/
def fnExactFormsOfWrong : ChangeSpec := { name := "fnExactFormsOf", fn := fun _ => fun
  | [d] => { results := [.lit (.bool false)], args := [d] }
  | _ => none }
def FnExactFormsOfWrongFalsely : Prop := fnExactFormsOfRow.holds Try.pinned (OpenSpec.ofChange fnExactFormsOfWrong)

/-- 'laws.FnExactCycleOf': WHATEVER THE INPUT: true; the input reads as it did. -/
def fnExactCycleOfSpec : ChangeSpec := { name := "fnExactCycleOf", fn := fun _ => fun
  | [d] => { results := [.lit (.bool true)], args := [d] }
  | _ => none }
def fnExactCycleOfRow : OpenClaim := { program := "ytjgnhnbhcnfdbaa", sum := "04714621f5fd227f54d2e09bcc50ffc441cc107f813eff4cbcb43889ebd68834", func := "loop.example/g01380/laws.FnExactCycleOf", spec := "fnExactCycleOf", inPlace := ["math.sqrt"], plainKeys := false, apart := false }
def FnExactCycleOfSaid : Prop := fnExactCycleOfRow.holds Try.pinned (OpenSpec.ofChange fnExactCycleOfSpec)

/-- ITS FALSE NEIGHBOUR: 'it returns false'. Refute it at one input. -/
def fnExactCycleOfWrong : ChangeSpec := { name := "fnExactCycleOf", fn := fun _ => fun
  | [d] => { results := [.lit (.bool false)], args := [d] }
  | _ => none }
def FnExactCycleOfWrongFalsely : Prop := fnExactCycleOfRow.holds Try.pinned (OpenSpec.ofChange fnExactCycleOfWrong)

/-- 'laws.FnExactAreEquivalent': WHATEVER THE INPUT: true; the input reads as it did. -/
def fnExactAreEquivalentSpec : ChangeSpec := { name := "fnExactAreEquivalent", fn := fun _ => fun
  | [d1, d2] => { results := [.lit (.bool true)], args := [d1, d2] }
  | _ => none }
def fnExactAreEquivalentRow : OpenClaim := { program := "ytjgnhnbhcnfdbaa", sum := "04714621f5fd227f54d2e09bcc50ffc441cc107f813eff4cbcb43889ebd68834", func := "loop.example/g01380/laws.FnExactAreEquivalent", spec := "fnExactAreEquivalent", inPlace := ["math.sqrt"], plainKeys := false, apart := false }
def FnExactAreEquivalentSaid : Prop := fnExactAreEquivalentRow.holds Try.pinned (OpenSpec.ofChange fnExactAreEquivalentSpec)

/-- ITS FALSE NEIGHBOUR: 'it returns false'. Refute it at one input. -/
def fnExactAreEquivalentWrong : ChangeSpec := { name := "fnExactAreEquivalent", fn := fun _ => fun
  | [d1, d2] => { results := [.lit (.bool false)], args := [d1, d2] }
  | _ => none }
def FnExactAreEquivalentWrongFalsely : Prop := fnExactAreEquivalentRow.holds Try.pinned (OpenSpec.ofChange fnExactAreEquivalentWrong)

/-- 'laws.FnExactClassNumber': WHATEVER THE INPUT: true; the input reads as it did. -/
def fnExactClassNumberSpec : ChangeSpec := { name := "fnExactClassNumber", fn := fun _ => fun
  | [d] => { results := [.lit (.bool true)], args := [d] }
  | _ => none }
def fnExactClassNumberRow : OpenClaim := { program := "ytjgnhnbhcnfdbaa", sum := "04714621f5fd227f54d2e09bcc50ffc441cc107f813eff4cbcb43889ebd68834", func := "loop.example/g01380/laws.FnExactClassNumber", spec := "fnExactClassNumber", inPlace := ["math.sqrt"], plainKeys := false, apart := false }
def FnExactClassNumberSaid : Prop := fnExactClassNumberRow.holds Try.pinned (OpenSpec.ofChange fnExactClassNumberSpec)

/-- ITS FALSE NEIGHBOUR: 'it returns false'. Refute it at one input. -/
def fnExactClassNumberWrong : ChangeSpec := { name := "fnExactClassNumber", fn := fun _ => fun
  | [d] => { results := [.lit (.bool false)], args := [d] }
  | _ => none }
def FnExactClassNumberWrongFalsely : Prop := fnExactClassNumberRow.holds Try.pinned (OpenSpec.ofChange fnExactClassNumberWrong)

/-- 'laws.FnExactValuesOf': WHATEVER THE INPUT: true; the input reads as it did. -/
def fnExactValuesOfSpec : ChangeSpec := { name := "fnExactValuesOf", fn := fun _ => fun
  | [d1, d2] => { results := [.lit (.bool true)], args := [d1, d2] }
  | _ => none }
def fnExactValuesOfRow : OpenClaim := { program := "ytjgnhnbhcnfdbaa", sum := "04714621f5fd227f54d2e09bcc50ffc441cc107f813eff4cbcb43889ebd68834", func := "loop.example/g01380/laws.FnExactValuesOf", spec := "fnExactValuesOf", recurses := true, plainKeys := false, apart := false }
def FnExactValuesOfSaid : Prop := fnExactValuesOfRow.holds Try.pinned (OpenSpec.ofChange fnExactValuesOfSpec)

/-- ITS FALSE NEIGHBOUR: 'it returns false'. Refute it at one input. -/
def fnExactValuesOfWrong : ChangeSpec := { name := "fnExactValuesOf", fn := fun _ => fun
  | [d1, d2] => { results := [.lit (.bool false)], args := [d1, d2] }
  | _ => none }
def FnExactValuesOfWrongFalsely : Prop := fnExactValuesOfRow.holds Try.pinned (OpenSpec.ofChange fnExactValuesOfWrong)

/-- 'laws.FnExactMixOfFraction': WHATEVER THE INPUT: true; the input reads as it did. -/
def fnExactMixOfFractionSpec : ChangeSpec := { name := "fnExactMixOfFraction", fn := fun _ => fun
  | [d1, d2] => { results := [.lit (.bool true)], args := [d1, d2] }
  | _ => none }
def fnExactMixOfFractionRow : OpenClaim := { program := "ytjgnhnbhcnfdbaa", sum := "04714621f5fd227f54d2e09bcc50ffc441cc107f813eff4cbcb43889ebd68834", func := "loop.example/g01380/laws.FnExactMixOfFraction", spec := "fnExactMixOfFraction", unfollowed := true, recurses := true, plainKeys := false, apart := false }
def FnExactMixOfFractionSaid : Prop := fnExactMixOfFractionRow.holds Try.pinned (OpenSpec.ofChange fnExactMixOfFractionSpec)

/-- ITS FALSE NEIGHBOUR: 'it returns false'. Refute it at one input. -/
def fnExactMixOfFractionWrong : ChangeSpec := { name := "fnExactMixOfFraction", fn := fun _ => fun
  | [d1, d2] => { results := [.lit (.bool false)], args := [d1, d2] }
  | _ => none }
def FnExactMixOfFractionWrongFalsely : Prop := fnExactMixOfFractionRow.holds Try.pinned (OpenSpec.ofChange fnExactMixOfFractionWrong)

/-- 'laws.FnExactGenusOf': WHATEVER THE INPUT: true; the input reads as it did. -/
def fnExactGenusOfSpec : ChangeSpec := { name := "fnExactGenusOf", fn := fun _ => fun
  | [d] => { results := [.lit (.bool true)], args := [d] }
  | _ => none }
def fnExactGenusOfRow : OpenClaim := { program := "ytjgnhnbhcnfdbaa", sum := "04714621f5fd227f54d2e09bcc50ffc441cc107f813eff4cbcb43889ebd68834", func := "loop.example/g01380/laws.FnExactGenusOf", spec := "fnExactGenusOf", recurses := true, plainKeys := false, apart := false }
def FnExactGenusOfSaid : Prop := fnExactGenusOfRow.holds Try.pinned (OpenSpec.ofChange fnExactGenusOfSpec)

/-- ITS FALSE NEIGHBOUR: 'it returns false'. Refute it at one input. -/
def fnExactGenusOfWrong : ChangeSpec := { name := "fnExactGenusOf", fn := fun _ => fun
  | [d] => { results := [.lit (.bool false)], args := [d] }
  | _ => none }
def FnExactGenusOfWrongFalsely : Prop := fnExactGenusOfRow.holds Try.pinned (OpenSpec.ofChange fnExactGenusOfWrong)

/-- 'laws.FnExactCuspsOf': WHATEVER THE INPUT: true; the input reads as it did. -/
def fnExactCuspsOfSpec : ChangeSpec := { name := "fnExactCuspsOf", fn := fun _ => fun
  | [d] => { results := [.lit (.bool true)], args := [d] }
  | _ => none }
def fnExactCuspsOfRow : OpenClaim := { program := "ytjgnhnbhcnfdbaa", sum := "04714621f5fd227f54d2e09bcc50ffc441cc107f813eff4cbcb43889ebd68834", func := "loop.example/g01380/laws.FnExactCuspsOf", spec := "fnExactCuspsOf", recurses := true, plainKeys := false, apart := false }
def FnExactCuspsOfSaid : Prop := fnExactCuspsOfRow.holds Try.pinned (OpenSpec.ofChange fnExactCuspsOfSpec)

/-- ITS FALSE NEIGHBOUR: 'it returns false'. Refute it at one input. -/
def fnExactCuspsOfWrong : ChangeSpec := { name := "fnExactCuspsOf", fn := fun _ => fun
  | [d] => { results := [.lit (.bool false)], args := [d] }
  | _ => none }
def FnExactCuspsOfWrongFalsely : Prop := fnExactCuspsOfRow.holds Try.pinned (OpenSpec.ofChange fnExactCuspsOfWrong)

/-- 'laws.FnExactCuspOfFraction': WHATEVER THE INPUT: true; the input reads as it did. -/
def fnExactCuspOfFractionSpec : ChangeSpec := { name := "fnExactCuspOfFraction", fn := fun _ => fun
  | [d1, d2] => { results := [.lit (.bool true)], args := [d1, d2] }
  | _ => none }
def fnExactCuspOfFractionRow : OpenClaim := { program := "ytjgnhnbhcnfdbaa", sum := "04714621f5fd227f54d2e09bcc50ffc441cc107f813eff4cbcb43889ebd68834", func := "loop.example/g01380/laws.FnExactCuspOfFraction", spec := "fnExactCuspOfFraction", unfollowed := true, recurses := true, plainKeys := false, apart := false }
def FnExactCuspOfFractionSaid : Prop := fnExactCuspOfFractionRow.holds Try.pinned (OpenSpec.ofChange fnExactCuspOfFractionSpec)

/-- ITS FALSE NEIGHBOUR: 'it returns false'. Refute it at one input. -/
def fnExactCuspOfFractionWrong : ChangeSpec := { name := "fnExactCuspOfFraction", fn := fun _ => fun
  | [d1, d2] => { results := [.lit (.bool false)], args := [d1, d2] }
  | _ => none }
def FnExactCuspOfFractionWrongFalsely : Prop := fnExactCuspOfFractionRow.holds Try.pinned (OpenSpec.ofChange fnExactCuspOfFractionWrong)

/-- 'laws.FnExactRelationsOf': WHATEVER THE INPUT: true; the input reads as it did. -/
def fnExactRelationsOfSpec : ChangeSpec := { name := "fnExactRelationsOf", fn := fun _ => fun
  | [d] => { results := [.lit (.bool true)], args := [d] }
  | _ => none }
def fnExactRelationsOfRow : OpenClaim := { program := "ytjgnhnbhcnfdbaa", sum := "04714621f5fd227f54d2e09bcc50ffc441cc107f813eff4cbcb43889ebd68834", func := "loop.example/g01380/laws.FnExactRelationsOf", spec := "fnExactRelationsOf", unfollowed := true, recurses := true, plainKeys := false, apart := false }
def FnExactRelationsOfSaid : Prop := fnExactRelationsOfRow.holds Try.pinned (OpenSpec.ofChange fnExactRelationsOfSpec)

/-- ITS FALSE NEIGHBOUR: 'it returns false'. Refute it at one input. -/
def fnExactRelationsOfWrong : ChangeSpec := { name := "fnExactRelationsOf", fn := fun _ => fun
  | [d] => { results := [.lit (.bool false)], args := [d] }
  | _ => none }
def FnExactRelationsOfWrongFalsely : Prop := fnExactRelationsOfRow.holds Try.pinned (OpenSpec.ofChange fnExactRelationsOfWrong)

/- THE SECOND FORM. 'bulk': how many values and letters a reading holds, each counted each time it is reached (what is shared counts as often as it is met; a slice's spare places count too). A statement '..UptoSaid' is the law's where the arguments, and the package variables that the reading takes, are together of bulk at most 1048576: NARROWER than '..Said'. Prove '..Said' where nothing that the law and all that it calls make is longer than what came in: it says more and counts as full. Else prove '..UptoSaid'. A law counts once. -/
mutual
def uptoBulk {H : Type} : DataW H → Nat
  | .lit (.string bytes) => bytes.length + 1
  | .lit _ => 1
  | .nil => 1
  | .ptr d => uptoBulk d + 1
  | .slice elems spare => uptoBulkAll elems + uptoBulkAll spare + 1
  | .agg parts => uptoBulkAll parts + 1
  | .iface _ d => uptoBulk d + 1
  | .map entries => uptoBulkEntries entries + 1
  | .held _ => 1
def uptoBulkAll {H : Type} : List (DataW H) → Nat
  | [] => 0
  | d :: r => uptoBulk d + uptoBulkAll r
def uptoBulkEntries {H : Type} : List (Lit × DataW H) → Nat
  | [] => 0
  | x :: r => uptoBulkEntry x + uptoBulkEntries r
def uptoBulkEntry {H : Type} : Lit × DataW H → Nat
  | (.string bytes, d) => bytes.length + uptoBulk d + 1
  | (_, d) => uptoBulk d + 1
 end
def uptoSmall : (H : Type) → List (DataW H) → Bool := fun _ ds => decide (uptoBulkAll ds ≤ 1048576)
def OpenSpec.upto (s : _root_.Go.ChangeSpec) : _root_.Go.OpenSpec := { _root_.Go.OpenSpec.ofChange s with cond := some uptoSmall }

/-- 'laws.FnExactFormsOf', WHERE WHAT IT READS IS OF BULK AT MOST 1048576: true; the input reads as it did. -/
def fnExactFormsOfUptoRow : OpenClaim := { program := "ytjgnhnbhcnfdbaa", sum := "04714621f5fd227f54d2e09bcc50ffc441cc107f813eff4cbcb43889ebd68834", func := "loop.example/g01380/laws.FnExactFormsOf", spec := "fnExactFormsOf", inPlace := ["math.sqrt"], plainKeys := false, apart := false, narrowed := true }
def FnExactFormsOfUptoSaid : Prop := fnExactFormsOfUptoRow.holds Try.pinned (OpenSpec.upto fnExactFormsOfSpec)

/-- 'laws.FnExactCycleOf', WHERE WHAT IT READS IS OF BULK AT MOST 1048576: true; the input reads as it did. -/
def fnExactCycleOfUptoRow : OpenClaim := { program := "ytjgnhnbhcnfdbaa", sum := "04714621f5fd227f54d2e09bcc50ffc441cc107f813eff4cbcb43889ebd68834", func := "loop.example/g01380/laws.FnExactCycleOf", spec := "fnExactCycleOf", inPlace := ["math.sqrt"], plainKeys := false, apart := false, narrowed := true }
def FnExactCycleOfUptoSaid : Prop := fnExactCycleOfUptoRow.holds Try.pinned (OpenSpec.upto fnExactCycleOfSpec)

/-- 'laws.FnExactAreEquivalent', WHERE WHAT IT READS IS OF BULK AT MOST 1048576: true; the input reads as it did. -/
def fnExactAreEquivalentUptoRow : OpenClaim := { program := "ytjgnhnbhcnfdbaa", sum := "04714621f5fd227f54d2e09bcc50ffc441cc107f813eff4cbcb43889ebd68834", func := "loop.example/g01380/laws.FnExactAreEquivalent", spec := "fnExactAreEquivalent", inPlace := ["math.sqrt"], plainKeys := false, apart := false, narrowed := true }
def FnExactAreEquivalentUptoSaid : Prop := fnExactAreEquivalentUptoRow.holds Try.pinned (OpenSpec.upto fnExactAreEquivalentSpec)

/-- 'laws.FnExactClassNumber', WHERE WHAT IT READS IS OF BULK AT MOST 1048576: true; the input reads as it did. -/
def fnExactClassNumberUptoRow : OpenClaim := { program := "ytjgnhnbhcnfdbaa", sum := "04714621f5fd227f54d2e09bcc50ffc441cc107f813eff4cbcb43889ebd68834", func := "loop.example/g01380/laws.FnExactClassNumber", spec := "fnExactClassNumber", inPlace := ["math.sqrt"], plainKeys := false, apart := false, narrowed := true }
def FnExactClassNumberUptoSaid : Prop := fnExactClassNumberUptoRow.holds Try.pinned (OpenSpec.upto fnExactClassNumberSpec)

/-- 'laws.FnExactValuesOf', WHERE WHAT IT READS IS OF BULK AT MOST 1048576: true; the input reads as it did. -/
def fnExactValuesOfUptoRow : OpenClaim := { program := "ytjgnhnbhcnfdbaa", sum := "04714621f5fd227f54d2e09bcc50ffc441cc107f813eff4cbcb43889ebd68834", func := "loop.example/g01380/laws.FnExactValuesOf", spec := "fnExactValuesOf", recurses := true, plainKeys := false, apart := false, narrowed := true }
def FnExactValuesOfUptoSaid : Prop := fnExactValuesOfUptoRow.holds Try.pinned (OpenSpec.upto fnExactValuesOfSpec)

/-- 'laws.FnExactMixOfFraction', WHERE WHAT IT READS IS OF BULK AT MOST 1048576: true; the input reads as it did. -/
def fnExactMixOfFractionUptoRow : OpenClaim := { program := "ytjgnhnbhcnfdbaa", sum := "04714621f5fd227f54d2e09bcc50ffc441cc107f813eff4cbcb43889ebd68834", func := "loop.example/g01380/laws.FnExactMixOfFraction", spec := "fnExactMixOfFraction", unfollowed := true, recurses := true, plainKeys := false, apart := false, narrowed := true }
def FnExactMixOfFractionUptoSaid : Prop := fnExactMixOfFractionUptoRow.holds Try.pinned (OpenSpec.upto fnExactMixOfFractionSpec)

/-- 'laws.FnExactGenusOf', WHERE WHAT IT READS IS OF BULK AT MOST 1048576: true; the input reads as it did. -/
def fnExactGenusOfUptoRow : OpenClaim := { program := "ytjgnhnbhcnfdbaa", sum := "04714621f5fd227f54d2e09bcc50ffc441cc107f813eff4cbcb43889ebd68834", func := "loop.example/g01380/laws.FnExactGenusOf", spec := "fnExactGenusOf", recurses := true, plainKeys := false, apart := false, narrowed := true }
def FnExactGenusOfUptoSaid : Prop := fnExactGenusOfUptoRow.holds Try.pinned (OpenSpec.upto fnExactGenusOfSpec)

/-- 'laws.FnExactCuspsOf', WHERE WHAT IT READS IS OF BULK AT MOST 1048576: true; the input reads as it did. -/
def fnExactCuspsOfUptoRow : OpenClaim := { program := "ytjgnhnbhcnfdbaa", sum := "04714621f5fd227f54d2e09bcc50ffc441cc107f813eff4cbcb43889ebd68834", func := "loop.example/g01380/laws.FnExactCuspsOf", spec := "fnExactCuspsOf", recurses := true, plainKeys := false, apart := false, narrowed := true }
def FnExactCuspsOfUptoSaid : Prop := fnExactCuspsOfUptoRow.holds Try.pinned (OpenSpec.upto fnExactCuspsOfSpec)

/-- 'laws.FnExactCuspOfFraction', WHERE WHAT IT READS IS OF BULK AT MOST 1048576: true; the input reads as it did. -/
def fnExactCuspOfFractionUptoRow : OpenClaim := { program := "ytjgnhnbhcnfdbaa", sum := "04714621f5fd227f54d2e09bcc50ffc441cc107f813eff4cbcb43889ebd68834", func := "loop.example/g01380/laws.FnExactCuspOfFraction", spec := "fnExactCuspOfFraction", unfollowed := true, recurses := true, plainKeys := false, apart := false, narrowed := true }
def FnExactCuspOfFractionUptoSaid : Prop := fnExactCuspOfFractionUptoRow.holds Try.pinned (OpenSpec.upto fnExactCuspOfFractionSpec)

/-- 'laws.FnExactRelationsOf', WHERE WHAT IT READS IS OF BULK AT MOST 1048576: true; the input reads as it did. -/
def fnExactRelationsOfUptoRow : OpenClaim := { program := "ytjgnhnbhcnfdbaa", sum := "04714621f5fd227f54d2e09bcc50ffc441cc107f813eff4cbcb43889ebd68834", func := "loop.example/g01380/laws.FnExactRelationsOf", spec := "fnExactRelationsOf", unfollowed := true, recurses := true, plainKeys := false, apart := false, narrowed := true }
def FnExactRelationsOfUptoSaid : Prop := fnExactRelationsOfUptoRow.holds Try.pinned (OpenSpec.upto fnExactRelationsOfSpec)

end Rows
end Go.Proofs.Ytjgnhnbhcnfdbaa
