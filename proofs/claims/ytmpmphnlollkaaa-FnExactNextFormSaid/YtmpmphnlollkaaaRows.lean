/-
  No cell of these rows narrows 'for every input' (looked for: loops, veiled, ifaces, maps, wideKeys, modest, calm, conditions, laid).
  DERIVED. THE GIVEN ROWS OF THIS SEAT. 12 by the template 'for every input the law returns true; each argument reads behind the call as it read before'; 0 by the template 'total and deterministic' (their statements: YtmpmphnlollkaaaTotals.lean).
  GIVEN WITH THE SEED: the statements are not yours to turn. If you find one false, say at which input.
  Laid BY PROGRAM, IN A SANDBOX (cutbox-rows.mjs): the forced cells as the released guide's own fill.sh prints them over the translation eab928dd71a93dfa… (all of the seat's roots in one cut). By AI agents, Wed Nov 11 2026. No macro, syntax, notation, axiom, sorry.
-/
import Derived.Test.YtmpmphnlollkaaaChecked
import GoSem.Claim
import GoSem.ClaimJoined
import GoSem.ClaimMapViews
import Derived.JoinedTies
import Derived.KernelRfl
namespace Go.Proofs.Ytmpmphnlollkaaa
/- THE CELL 'sum', in the pinned program and in every row, IS THE sha256 OF THE DUMP (.gsa) THAT YtmpmphnlollkaaaProg.lean LOADS. Nothing in Lean hashes anything: it is a label: what it is worth is what the hold of that sum in a sandbox is worth. -/
noncomputable def Try.pinned : Pinned := { name := "ytmpmphnlollkaaa", sum := "eab928dd71a93dfa89e8b08db03f221d00aabd8b43573bc0c8f4360a7182758b", checked := Try.checked }
namespace Rows
def none {H : Type} : Left H := { results := [], args := [] }

/-- 'laws.FnExactIsForm': WHATEVER THE INPUT: true; the input reads as it did. -/
def fnExactIsFormSpec : ChangeSpec := { name := "fnExactIsForm", fn := fun _ => fun
  | [d] => { results := [.lit (.bool true)], args := [d] }
  | _ => none }
def fnExactIsFormRow : OpenClaim := { program := "ytmpmphnlollkaaa", sum := "eab928dd71a93dfa89e8b08db03f221d00aabd8b43573bc0c8f4360a7182758b", func := "loop.example/g01380/laws.FnExactIsForm", spec := "fnExactIsForm", apart := false }
def FnExactIsFormSaid : Prop := fnExactIsFormRow.holds Try.pinned (OpenSpec.ofChange fnExactIsFormSpec)

/-- ITS FALSE NEIGHBOUR: 'it returns false'. Refute it at one input. -/
def fnExactIsFormWrong : ChangeSpec := { name := "fnExactIsForm", fn := fun _ => fun
  | [d] => { results := [.lit (.bool false)], args := [d] }
  | _ => none }
def FnExactIsFormWrongFalsely : Prop := fnExactIsFormRow.holds Try.pinned (OpenSpec.ofChange fnExactIsFormWrong)

/-- 'laws.FnExactDiscriminantOf': WHATEVER THE INPUT: true; the input reads as it did. -/
def fnExactDiscriminantOfSpec : ChangeSpec := { name := "fnExactDiscriminantOf", fn := fun _ => fun
  | [d] => { results := [.lit (.bool true)], args := [d] }
  | _ => none }
def fnExactDiscriminantOfRow : OpenClaim := { program := "ytmpmphnlollkaaa", sum := "eab928dd71a93dfa89e8b08db03f221d00aabd8b43573bc0c8f4360a7182758b", func := "loop.example/g01380/laws.FnExactDiscriminantOf", spec := "fnExactDiscriminantOf", apart := false }
def FnExactDiscriminantOfSaid : Prop := fnExactDiscriminantOfRow.holds Try.pinned (OpenSpec.ofChange fnExactDiscriminantOfSpec)

/-- ITS FALSE NEIGHBOUR: 'it returns false'. Refute it at one input. -/
def fnExactDiscriminantOfWrong : ChangeSpec := { name := "fnExactDiscriminantOf", fn := fun _ => fun
  | [d] => { results := [.lit (.bool false)], args := [d] }
  | _ => none }
def FnExactDiscriminantOfWrongFalsely : Prop := fnExactDiscriminantOfRow.holds Try.pinned (OpenSpec.ofChange fnExactDiscriminantOfWrong)

/-- 'laws.FnExactValueAt': WHATEVER THE INPUT: true; the input reads as it did. -/
def fnExactValueAtSpec : ChangeSpec := { name := "fnExactValueAt", fn := fun _ => fun
  | [d1, d2, d3] => { results := [.lit (.bool true)], args := [d1, d2, d3] }
  | _ => none }
def fnExactValueAtRow : OpenClaim := { program := "ytmpmphnlollkaaa", sum := "eab928dd71a93dfa89e8b08db03f221d00aabd8b43573bc0c8f4360a7182758b", func := "loop.example/g01380/laws.FnExactValueAt", spec := "fnExactValueAt", apart := false }
def FnExactValueAtSaid : Prop := fnExactValueAtRow.holds Try.pinned (OpenSpec.ofChange fnExactValueAtSpec)

/-- ITS FALSE NEIGHBOUR: 'it returns false'. Refute it at one input. -/
def fnExactValueAtWrong : ChangeSpec := { name := "fnExactValueAt", fn := fun _ => fun
  | [d1, d2, d3] => { results := [.lit (.bool false)], args := [d1, d2, d3] }
  | _ => none }
def FnExactValueAtWrongFalsely : Prop := fnExactValueAtRow.holds Try.pinned (OpenSpec.ofChange fnExactValueAtWrong)

/-- 'laws.FnExactKeepsForm': WHATEVER THE INPUT: true; the input reads as it did. -/
def fnExactKeepsFormSpec : ChangeSpec := { name := "fnExactKeepsForm", fn := fun _ => fun
  | [d1, d2] => { results := [.lit (.bool true)], args := [d1, d2] }
  | _ => none }
def fnExactKeepsFormRow : OpenClaim := { program := "ytmpmphnlollkaaa", sum := "eab928dd71a93dfa89e8b08db03f221d00aabd8b43573bc0c8f4360a7182758b", func := "loop.example/g01380/laws.FnExactKeepsForm", spec := "fnExactKeepsForm", apart := false }
def FnExactKeepsFormSaid : Prop := fnExactKeepsFormRow.holds Try.pinned (OpenSpec.ofChange fnExactKeepsFormSpec)

/-- ITS FALSE NEIGHBOUR: 'it returns false'. Refute it at one input. -/
def fnExactKeepsFormWrong : ChangeSpec := { name := "fnExactKeepsForm", fn := fun _ => fun
  | [d1, d2] => { results := [.lit (.bool false)], args := [d1, d2] }
  | _ => none }
def FnExactKeepsFormWrongFalsely : Prop := fnExactKeepsFormRow.holds Try.pinned (OpenSpec.ofChange fnExactKeepsFormWrong)

/-- 'laws.FnExactApplyMatrix': WHATEVER THE INPUT: true; the input reads as it did. -/
def fnExactApplyMatrixSpec : ChangeSpec := { name := "fnExactApplyMatrix", fn := fun _ => fun
  | [d1, d2] => { results := [.lit (.bool true)], args := [d1, d2] }
  | _ => none }
def fnExactApplyMatrixRow : OpenClaim := { program := "ytmpmphnlollkaaa", sum := "eab928dd71a93dfa89e8b08db03f221d00aabd8b43573bc0c8f4360a7182758b", func := "loop.example/g01380/laws.FnExactApplyMatrix", spec := "fnExactApplyMatrix", apart := false }
def FnExactApplyMatrixSaid : Prop := fnExactApplyMatrixRow.holds Try.pinned (OpenSpec.ofChange fnExactApplyMatrixSpec)

/-- ITS FALSE NEIGHBOUR: 'it returns false'. Refute it at one input. -/
def fnExactApplyMatrixWrong : ChangeSpec := { name := "fnExactApplyMatrix", fn := fun _ => fun
  | [d1, d2] => { results := [.lit (.bool false)], args := [d1, d2] }
  | _ => none }
def FnExactApplyMatrixWrongFalsely : Prop := fnExactApplyMatrixRow.holds Try.pinned (OpenSpec.ofChange fnExactApplyMatrixWrong)

/-- 'laws.FnExactFormOfMatrix': WHATEVER THE INPUT: true; the input reads as it did. -/
def fnExactFormOfMatrixSpec : ChangeSpec := { name := "fnExactFormOfMatrix", fn := fun _ => fun
  | [d] => { results := [.lit (.bool true)], args := [d] }
  | _ => none }
def fnExactFormOfMatrixRow : OpenClaim := { program := "ytmpmphnlollkaaa", sum := "eab928dd71a93dfa89e8b08db03f221d00aabd8b43573bc0c8f4360a7182758b", func := "loop.example/g01380/laws.FnExactFormOfMatrix", spec := "fnExactFormOfMatrix", apart := false }
def FnExactFormOfMatrixSaid : Prop := fnExactFormOfMatrixRow.holds Try.pinned (OpenSpec.ofChange fnExactFormOfMatrixSpec)

/-- ITS FALSE NEIGHBOUR: 'it returns false'. Refute it at one input. -/
def fnExactFormOfMatrixWrong : ChangeSpec := { name := "fnExactFormOfMatrix", fn := fun _ => fun
  | [d] => { results := [.lit (.bool false)], args := [d] }
  | _ => none }
def FnExactFormOfMatrixWrongFalsely : Prop := fnExactFormOfMatrixRow.holds Try.pinned (OpenSpec.ofChange fnExactFormOfMatrixWrong)

/-- 'laws.FnExactReduceForm': WHATEVER THE INPUT: true; the input reads as it did. -/
def fnExactReduceFormSpec : ChangeSpec := { name := "fnExactReduceForm", fn := fun _ => fun
  | [d] => { results := [.lit (.bool true)], args := [d] }
  | _ => none }
def fnExactReduceFormRow : OpenClaim := { program := "ytmpmphnlollkaaa", sum := "eab928dd71a93dfa89e8b08db03f221d00aabd8b43573bc0c8f4360a7182758b", func := "loop.example/g01380/laws.FnExactReduceForm", spec := "fnExactReduceForm", apart := false }
def FnExactReduceFormSaid : Prop := fnExactReduceFormRow.holds Try.pinned (OpenSpec.ofChange fnExactReduceFormSpec)

/-- ITS FALSE NEIGHBOUR: 'it returns false'. Refute it at one input. -/
def fnExactReduceFormWrong : ChangeSpec := { name := "fnExactReduceForm", fn := fun _ => fun
  | [d] => { results := [.lit (.bool false)], args := [d] }
  | _ => none }
def FnExactReduceFormWrongFalsely : Prop := fnExactReduceFormRow.holds Try.pinned (OpenSpec.ofChange fnExactReduceFormWrong)

/-- 'laws.FnExactIsReducedForm': WHATEVER THE INPUT: true; the input reads as it did. -/
def fnExactIsReducedFormSpec : ChangeSpec := { name := "fnExactIsReducedForm", fn := fun _ => fun
  | [d] => { results := [.lit (.bool true)], args := [d] }
  | _ => none }
def fnExactIsReducedFormRow : OpenClaim := { program := "ytmpmphnlollkaaa", sum := "eab928dd71a93dfa89e8b08db03f221d00aabd8b43573bc0c8f4360a7182758b", func := "loop.example/g01380/laws.FnExactIsReducedForm", spec := "fnExactIsReducedForm", inPlace := ["math.sqrt"], apart := false }
def FnExactIsReducedFormSaid : Prop := fnExactIsReducedFormRow.holds Try.pinned (OpenSpec.ofChange fnExactIsReducedFormSpec)

/-- ITS FALSE NEIGHBOUR: 'it returns false'. Refute it at one input. -/
def fnExactIsReducedFormWrong : ChangeSpec := { name := "fnExactIsReducedForm", fn := fun _ => fun
  | [d] => { results := [.lit (.bool false)], args := [d] }
  | _ => none }
def FnExactIsReducedFormWrongFalsely : Prop := fnExactIsReducedFormRow.holds Try.pinned (OpenSpec.ofChange fnExactIsReducedFormWrong)

/-- 'laws.FnExactNextForm': WHATEVER THE INPUT: true; the input reads as it did. -/
def fnExactNextFormSpec : ChangeSpec := { name := "fnExactNextForm", fn := fun _ => fun
  | [d] => { results := [.lit (.bool true)], args := [d] }
  | _ => none }
def fnExactNextFormRow : OpenClaim := { program := "ytmpmphnlollkaaa", sum := "eab928dd71a93dfa89e8b08db03f221d00aabd8b43573bc0c8f4360a7182758b", func := "loop.example/g01380/laws.FnExactNextForm", spec := "fnExactNextForm", inPlace := ["math.sqrt"], apart := false }
def FnExactNextFormSaid : Prop := fnExactNextFormRow.holds Try.pinned (OpenSpec.ofChange fnExactNextFormSpec)

/-- ITS FALSE NEIGHBOUR: 'it returns false'. Refute it at one input. -/
def fnExactNextFormWrong : ChangeSpec := { name := "fnExactNextForm", fn := fun _ => fun
  | [d] => { results := [.lit (.bool false)], args := [d] }
  | _ => none }
def FnExactNextFormWrongFalsely : Prop := fnExactNextFormRow.holds Try.pinned (OpenSpec.ofChange fnExactNextFormWrong)

/-- 'laws.FnExactFormsOf': WHATEVER THE INPUT: true; the input reads as it did. -/
def fnExactFormsOfSpec : ChangeSpec := { name := "fnExactFormsOf", fn := fun _ => fun
  | [d] => { results := [.lit (.bool true)], args := [d] }
  | _ => none }
def fnExactFormsOfRow : OpenClaim := { program := "ytmpmphnlollkaaa", sum := "eab928dd71a93dfa89e8b08db03f221d00aabd8b43573bc0c8f4360a7182758b", func := "loop.example/g01380/laws.FnExactFormsOf", spec := "fnExactFormsOf", inPlace := ["math.sqrt"], apart := false }
def FnExactFormsOfSaid : Prop := fnExactFormsOfRow.holds Try.pinned (OpenSpec.ofChange fnExactFormsOfSpec)

/-- ITS FALSE NEIGHBOUR: 'it returns false'. Refute it at one input. -/
def fnExactFormsOfWrong : ChangeSpec := { name := "fnExactFormsOf", fn := fun _ => fun
  | [d] => { results := [.lit (.bool false)], args := [d] }
  | _ => none }
def FnExactFormsOfWrongFalsely : Prop := fnExactFormsOfRow.holds Try.pinned (OpenSpec.ofChange fnExactFormsOfWrong)

/-- 'laws.FnExactCycleOf': WHATEVER THE INPUT: true; the input reads as it did. -/
def fnExactCycleOfSpec : ChangeSpec := { name := "fnExactCycleOf", fn := fun _ => fun
  | [d] => { results := [.lit (.bool true)], args := [d] }
  | _ => none }
def fnExactCycleOfRow : OpenClaim := { program := "ytmpmphnlollkaaa", sum := "eab928dd71a93dfa89e8b08db03f221d00aabd8b43573bc0c8f4360a7182758b", func := "loop.example/g01380/laws.FnExactCycleOf", spec := "fnExactCycleOf", inPlace := ["math.sqrt"], apart := false }
def FnExactCycleOfSaid : Prop := fnExactCycleOfRow.holds Try.pinned (OpenSpec.ofChange fnExactCycleOfSpec)

/-- ITS FALSE NEIGHBOUR: 'it returns false'. Refute it at one input. -/
def fnExactCycleOfWrong : ChangeSpec := { name := "fnExactCycleOf", fn := fun _ => fun
  | [d] => { results := [.lit (.bool false)], args := [d] }
  | _ => none }
def FnExactCycleOfWrongFalsely : Prop := fnExactCycleOfRow.holds Try.pinned (OpenSpec.ofChange fnExactCycleOfWrong)

/-- 'laws.FnExactAreEquivalent': WHATEVER THE INPUT: true; the input reads as it did. -/
def fnExactAreEquivalentSpec : ChangeSpec := { name := "fnExactAreEquivalent", fn := fun _ => fun
  | [d1, d2] => { results := [.lit (.bool true)], args := [d1, d2] }
  | _ => none }
def fnExactAreEquivalentRow : OpenClaim := { program := "ytmpmphnlollkaaa", sum := "eab928dd71a93dfa89e8b08db03f221d00aabd8b43573bc0c8f4360a7182758b", func := "loop.example/g01380/laws.FnExactAreEquivalent", spec := "fnExactAreEquivalent", inPlace := ["math.sqrt"], apart := false }
def FnExactAreEquivalentSaid : Prop := fnExactAreEquivalentRow.holds Try.pinned (OpenSpec.ofChange fnExactAreEquivalentSpec)

/-- ITS FALSE NEIGHBOUR: 'it returns false'. Refute it at one input. -/
def fnExactAreEquivalentWrong : ChangeSpec := { name := "fnExactAreEquivalent", fn := fun _ => fun
  | [d1, d2] => { results := [.lit (.bool false)], args := [d1, d2] }
  | _ => none }
def FnExactAreEquivalentWrongFalsely : Prop := fnExactAreEquivalentRow.holds Try.pinned (OpenSpec.ofChange fnExactAreEquivalentWrong)

/- THE SECOND FORM. 'bulk': how many values and letters a reading holds, each counted each time it is reached (what is shared counts as often as it is met; a slice's spare places count too). A statement '..UptoSaid' is the law's where the arguments, and the package variables that the reading takes, are together of bulk at most 1048576: NARROWER than '..Said'. Prove '..Said' where nothing that the law and all that it calls make is longer than what came in: it says more and counts as full. Else prove '..UptoSaid'. A law counts once. -/
mutual
def uptoBulk {H : Type} : DataW H → Nat
  | .lit (.string bytes) => bytes.length + 1
  | .lit _ => 1
  | .nil => 1
  | .ptr d => uptoBulk d + 1
  | .slice elems spare => uptoBulkAll elems + uptoBulkAll spare + 1
  | .agg parts => uptoBulkAll parts + 1
  | .iface _ d => uptoBulk d + 1
  | .map entries => uptoBulkEntries entries + 1
  | .held _ => 1
def uptoBulkAll {H : Type} : List (DataW H) → Nat
  | [] => 0
  | d :: r => uptoBulk d + uptoBulkAll r
def uptoBulkEntries {H : Type} : List (Lit × DataW H) → Nat
  | [] => 0
  | x :: r => uptoBulkEntry x + uptoBulkEntries r
def uptoBulkEntry {H : Type} : Lit × DataW H → Nat
  | (.string bytes, d) => bytes.length + uptoBulk d + 1
  | (_, d) => uptoBulk d + 1
 end
def uptoSmall : (H : Type) → List (DataW H) → Bool := fun _ ds => decide (uptoBulkAll ds ≤ 1048576)
def OpenSpec.upto (s : _root_.Go.ChangeSpec) : _root_.Go.OpenSpec := { _root_.Go.OpenSpec.ofChange s with cond := some uptoSmall }

/-- 'laws.FnExactIsForm', WHERE WHAT IT READS IS OF BULK AT MOST 1048576: true; the input reads as it did. -/
def fnExactIsFormUptoRow : OpenClaim := { program := "ytmpmphnlollkaaa", sum := "eab928dd71a93dfa89e8b08db03f221d00aabd8b43573bc0c8f4360a7182758b", func := "loop.example/g01380/laws.FnExactIsForm", spec := "fnExactIsForm", apart := false, narrowed := true }
def FnExactIsFormUptoSaid : Prop := fnExactIsFormUptoRow.holds Try.pinned (OpenSpec.upto fnExactIsFormSpec)

/-- 'laws.FnExactDiscriminantOf', WHERE WHAT IT READS IS OF BULK AT MOST 1048576: true; the input reads as it did. -/
def fnExactDiscriminantOfUptoRow : OpenClaim := { program := "ytmpmphnlollkaaa", sum := "eab928dd71a93dfa89e8b08db03f221d00aabd8b43573bc0c8f4360a7182758b", func := "loop.example/g01380/laws.FnExactDiscriminantOf", spec := "fnExactDiscriminantOf", apart := false, narrowed := true }
def FnExactDiscriminantOfUptoSaid : Prop := fnExactDiscriminantOfUptoRow.holds Try.pinned (OpenSpec.upto fnExactDiscriminantOfSpec)

/-- 'laws.FnExactValueAt', WHERE WHAT IT READS IS OF BULK AT MOST 1048576: true; the input reads as it did. -/
def fnExactValueAtUptoRow : OpenClaim := { program := "ytmpmphnlollkaaa", sum := "eab928dd71a93dfa89e8b08db03f221d00aabd8b43573bc0c8f4360a7182758b", func := "loop.example/g01380/laws.FnExactValueAt", spec := "fnExactValueAt", apart := false, narrowed := true }
def FnExactValueAtUptoSaid : Prop := fnExactValueAtUptoRow.holds Try.pinned (OpenSpec.upto fnExactValueAtSpec)

/-- 'laws.FnExactKeepsForm', WHERE WHAT IT READS IS OF BULK AT MOST 1048576: true; the input reads as it did. -/
def fnExactKeepsFormUptoRow : OpenClaim := { program := "ytmpmphnlollkaaa", sum := "eab928dd71a93dfa89e8b08db03f221d00aabd8b43573bc0c8f4360a7182758b", func := "loop.example/g01380/laws.FnExactKeepsForm", spec := "fnExactKeepsForm", apart := false, narrowed := true }
def FnExactKeepsFormUptoSaid : Prop := fnExactKeepsFormUptoRow.holds Try.pinned (OpenSpec.upto fnExactKeepsFormSpec)

/-- 'laws.FnExactApplyMatrix', WHERE WHAT IT READS IS OF BULK AT MOST 1048576: true; the input reads as it did. -/
def fnExactApplyMatrixUptoRow : OpenClaim := { program := "ytmpmphnlollkaaa", sum := "eab928dd71a93dfa89e8b08db03f221d00aabd8b43573bc0c8f4360a7182758b", func := "loop.example/g01380/laws.FnExactApplyMatrix", spec := "fnExactApplyMatrix", apart := false, narrowed := true }
def FnExactApplyMatrixUptoSaid : Prop := fnExactApplyMatrixUptoRow.holds Try.pinned (OpenSpec.upto fnExactApplyMatrixSpec)

/-- 'laws.FnExactFormOfMatrix', WHERE WHAT IT READS IS OF BULK AT MOST 1048576: true; the input reads as it did. -/
def fnExactFormOfMatrixUptoRow : OpenClaim := { program := "ytmpmphnlollkaaa", sum := "eab928dd71a93dfa89e8b08db03f221d00aabd8b43573bc0c8f4360a7182758b", func := "loop.example/g01380/laws.FnExactFormOfMatrix", spec := "fnExactFormOfMatrix", apart := false, narrowed := true }
def FnExactFormOfMatrixUptoSaid : Prop := fnExactFormOfMatrixUptoRow.holds Try.pinned (OpenSpec.upto fnExactFormOfMatrixSpec)

/-- 'laws.FnExactReduceForm', WHERE WHAT IT READS IS OF BULK AT MOST 1048576: true; the input reads as it did. -/
def fnExactReduceFormUptoRow : OpenClaim := { program := "ytmpmphnlollkaaa", sum := "eab928dd71a93dfa89e8b08db03f221d00aabd8b43573bc0c8f4360a7182758b", func := "loop.example/g01380/laws.FnExactReduceForm", spec := "fnExactReduceForm", apart := false, narrowed := true }
def FnExactReduceFormUptoSaid : Prop := fnExactReduceFormUptoRow.holds Try.pinned (OpenSpec.upto fnExactReduceFormSpec)

/-- 'laws.FnExactIsReducedForm', WHERE WHAT IT READS IS OF BULK AT MOST 1048576: true; the input reads as it did. -/
def fnExactIsReducedFormUptoRow : OpenClaim := { program := "ytmpmphnlollkaaa", sum := "eab928dd71a93dfa89e8b08db03f221d00aabd8b43573bc0c8f4360a7182758b", func := "loop.example/g01380/laws.FnExactIsReducedForm", spec := "fnExactIsReducedForm", inPlace := ["math.sqrt"], apart := false, narrowed := true }
def FnExactIsReducedFormUptoSaid : Prop := fnExactIsReducedFormUptoRow.holds Try.pinned (OpenSpec.upto fnExactIsReducedFormSpec)

/-- 'laws.FnExactNextForm', WHERE WHAT IT READS IS OF BULK AT MOST 1048576: true; the input reads as it did. -/
def fnExactNextFormUptoRow : OpenClaim := { program := "ytmpmphnlollkaaa", sum := "eab928dd71a93dfa89e8b08db03f221d00aabd8b43573bc0c8f4360a7182758b", func := "loop.example/g01380/laws.FnExactNextForm", spec := "fnExactNextForm", inPlace := ["math.sqrt"], apart := false, narrowed := true }
def FnExactNextFormUptoSaid : Prop := fnExactNextFormUptoRow.holds Try.pinned (OpenSpec.upto fnExactNextFormSpec)

/-- 'laws.FnExactFormsOf', WHERE WHAT IT READS IS OF BULK AT MOST 1048576: true; the input reads as it did. -/
def fnExactFormsOfUptoRow : OpenClaim := { program := "ytmpmphnlollkaaa", sum := "eab928dd71a93dfa89e8b08db03f221d00aabd8b43573bc0c8f4360a7182758b", func := "loop.example/g01380/laws.FnExactFormsOf", spec := "fnExactFormsOf", inPlace := ["math.sqrt"], apart := false, narrowed := true }
def FnExactFormsOfUptoSaid : Prop := fnExactFormsOfUptoRow.holds Try.pinned (OpenSpec.upto fnExactFormsOfSpec)

/-- 'laws.FnExactCycleOf', WHERE WHAT IT READS IS OF BULK AT MOST 1048576: true; the input reads as it did. -/
def fnExactCycleOfUptoRow : OpenClaim := { program := "ytmpmphnlollkaaa", sum := "eab928dd71a93dfa89e8b08db03f221d00aabd8b43573bc0c8f4360a7182758b", func := "loop.example/g01380/laws.FnExactCycleOf", spec := "fnExactCycleOf", inPlace := ["math.sqrt"], apart := false, narrowed := true }
def FnExactCycleOfUptoSaid : Prop := fnExactCycleOfUptoRow.holds Try.pinned (OpenSpec.upto fnExactCycleOfSpec)

/-- 'laws.FnExactAreEquivalent', WHERE WHAT IT READS IS OF BULK AT MOST 1048576: true; the input reads as it did. -/
def fnExactAreEquivalentUptoRow : OpenClaim := { program := "ytmpmphnlollkaaa", sum := "eab928dd71a93dfa89e8b08db03f221d00aabd8b43573bc0c8f4360a7182758b", func := "loop.example/g01380/laws.FnExactAreEquivalent", spec := "fnExactAreEquivalent", inPlace := ["math.sqrt"], apart := false, narrowed := true }
def FnExactAreEquivalentUptoSaid : Prop := fnExactAreEquivalentUptoRow.holds Try.pinned (OpenSpec.upto fnExactAreEquivalentSpec)

end Rows
end Go.Proofs.Ytmpmphnlollkaaa
