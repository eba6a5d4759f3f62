/-
  No cell of these rows narrows 'for every input' (looked for: loops, veiled, ifaces, maps, wideKeys, modest, calm, conditions, laid).
  DERIVED. THE GIVEN ROWS OF THIS SEAT. 11 by the template 'for every input the law returns true; each argument reads behind the call as it read before'; 0 by the template 'total and deterministic' (their statements: YtkhlgphmimddhaaTotals.lean).
  GIVEN WITH THE SEED: the statements are not yours to turn. If you find one false, say at which input.
  Laid BY PROGRAM, IN A SANDBOX (cutbox-rows.mjs): the forced cells as the released guide's own fill.sh prints them over the translation dfd02a2056817f57… (all of the seat's roots in one cut). By AI agents, Wed Nov 11 2026. No macro, syntax, notation, axiom, sorry.
-/
import Derived.Test.YtkhlgphmimddhaaChecked
import GoSem.Claim
import GoSem.ClaimJoined
import GoSem.ClaimMapViews
import Derived.JoinedTies
import Derived.KernelRfl
namespace Go.Proofs.Ytkhlgphmimddhaa
/- THE CELL 'sum', in the pinned program and in every row, IS THE sha256 OF THE DUMP (.gsa) THAT YtkhlgphmimddhaaProg.lean LOADS. Nothing in Lean hashes anything: it is a label: what it is worth is what the hold of that sum in a sandbox is worth. -/
noncomputable def Try.pinned : Pinned := { name := "ytkhlgphmimddhaa", sum := "dfd02a2056817f57e6f195092be49049f5616ea606eaa51bc9d3b1fe81dddf52", checked := Try.checked }
namespace Rows
def none {H : Type} : Left H := { results := [], args := [] }

/-- 'laws.FnExactReciprocityOf': WHATEVER THE INPUT: true; the input reads as it did. -/
def fnExactReciprocityOfSpec : ChangeSpec := { name := "fnExactReciprocityOf", fn := fun _ => fun
  | [d1, d2] => { results := [.lit (.bool true)], args := [d1, d2] }
  | _ => none }
def fnExactReciprocityOfRow : OpenClaim := { program := "ytkhlgphmimddhaa", sum := "dfd02a2056817f57e6f195092be49049f5616ea606eaa51bc9d3b1fe81dddf52", func := "loop.example/g01380/laws.FnExactReciprocityOf", spec := "fnExactReciprocityOf", apart := false }
def FnExactReciprocityOfSaid : Prop := fnExactReciprocityOfRow.holds Try.pinned (OpenSpec.ofChange fnExactReciprocityOfSpec)

/-- ITS FALSE NEIGHBOUR: 'it returns false'. Refute it at one input. -/
def fnExactReciprocityOfWrong : ChangeSpec := { name := "fnExactReciprocityOf", fn := fun _ => fun
  | [d1, d2] => { results := [.lit (.bool false)], args := [d1, d2] }
  | _ => none }
def FnExactReciprocityOfWrongFalsely : Prop := fnExactReciprocityOfRow.holds Try.pinned (OpenSpec.ofChange fnExactReciprocityOfWrong)

/-- 'laws.FnExactTotalOf': WHATEVER THE INPUT: true; the input reads as it did. -/
def fnExactTotalOfSpec : ChangeSpec := { name := "fnExactTotalOf", fn := fun _ => fun
  | [d] => { results := [.lit (.bool true)], args := [d] }
  | _ => none }
def fnExactTotalOfRow : OpenClaim := { program := "ytkhlgphmimddhaa", sum := "dfd02a2056817f57e6f195092be49049f5616ea606eaa51bc9d3b1fe81dddf52", func := "loop.example/g01380/laws.FnExactTotalOf", spec := "fnExactTotalOf", recurses := true, apart := false }
def FnExactTotalOfSaid : Prop := fnExactTotalOfRow.holds Try.pinned (OpenSpec.ofChange fnExactTotalOfSpec)

/-- ITS FALSE NEIGHBOUR: 'it returns false'. Refute it at one input. -/
def fnExactTotalOfWrong : ChangeSpec := { name := "fnExactTotalOf", fn := fun _ => fun
  | [d] => { results := [.lit (.bool false)], args := [d] }
  | _ => none }
def FnExactTotalOfWrongFalsely : Prop := fnExactTotalOfRow.holds Try.pinned (OpenSpec.ofChange fnExactTotalOfWrong)

/-- 'laws.FnExactDedekindSum': WHATEVER THE INPUT: true; the input reads as it did. -/
def fnExactDedekindSumSpec : ChangeSpec := { name := "fnExactDedekindSum", fn := fun _ => fun
  | [d1, d2] => { results := [.lit (.bool true)], args := [d1, d2] }
  | _ => none }
def fnExactDedekindSumRow : OpenClaim := { program := "ytkhlgphmimddhaa", sum := "dfd02a2056817f57e6f195092be49049f5616ea606eaa51bc9d3b1fe81dddf52", func := "loop.example/g01380/laws.FnExactDedekindSum", spec := "fnExactDedekindSum", recurses := true, apart := false }
def FnExactDedekindSumSaid : Prop := fnExactDedekindSumRow.holds Try.pinned (OpenSpec.ofChange fnExactDedekindSumSpec)

/-- ITS FALSE NEIGHBOUR: 'it returns false'. Refute it at one input. -/
def fnExactDedekindSumWrong : ChangeSpec := { name := "fnExactDedekindSum", fn := fun _ => fun
  | [d1, d2] => { results := [.lit (.bool false)], args := [d1, d2] }
  | _ => none }
def FnExactDedekindSumWrongFalsely : Prop := fnExactDedekindSumRow.holds Try.pinned (OpenSpec.ofChange fnExactDedekindSumWrong)

/-- 'laws.FnExactSawTooth': WHATEVER THE INPUT: true; the input reads as it did. -/
def fnExactSawToothSpec : ChangeSpec := { name := "fnExactSawTooth", fn := fun _ => fun
  | [d] => { results := [.lit (.bool true)], args := [d] }
  | _ => none }
def fnExactSawToothRow : OpenClaim := { program := "ytkhlgphmimddhaa", sum := "dfd02a2056817f57e6f195092be49049f5616ea606eaa51bc9d3b1fe81dddf52", func := "loop.example/g01380/laws.FnExactSawTooth", spec := "fnExactSawTooth", apart := false }
def FnExactSawToothSaid : Prop := fnExactSawToothRow.holds Try.pinned (OpenSpec.ofChange fnExactSawToothSpec)

/-- ITS FALSE NEIGHBOUR: 'it returns false'. Refute it at one input. -/
def fnExactSawToothWrong : ChangeSpec := { name := "fnExactSawTooth", fn := fun _ => fun
  | [d] => { results := [.lit (.bool false)], args := [d] }
  | _ => none }
def FnExactSawToothWrongFalsely : Prop := fnExactSawToothRow.holds Try.pinned (OpenSpec.ofChange fnExactSawToothWrong)

/-- 'laws.FnExactFirstNumber': WHATEVER THE INPUT: true; the input reads as it did. -/
def fnExactFirstNumberSpec : ChangeSpec := { name := "fnExactFirstNumber", fn := fun _ => fun
  | [d] => { results := [.lit (.bool true)], args := [d] }
  | _ => none }
def fnExactFirstNumberRow : OpenClaim := { program := "ytkhlgphmimddhaa", sum := "dfd02a2056817f57e6f195092be49049f5616ea606eaa51bc9d3b1fe81dddf52", func := "loop.example/g01380/laws.FnExactFirstNumber", spec := "fnExactFirstNumber", recurses := true, apart := false }
def FnExactFirstNumberSaid : Prop := fnExactFirstNumberRow.holds Try.pinned (OpenSpec.ofChange fnExactFirstNumberSpec)

/-- ITS FALSE NEIGHBOUR: 'it returns false'. Refute it at one input. -/
def fnExactFirstNumberWrong : ChangeSpec := { name := "fnExactFirstNumber", fn := fun _ => fun
  | [d] => { results := [.lit (.bool false)], args := [d] }
  | _ => none }
def FnExactFirstNumberWrongFalsely : Prop := fnExactFirstNumberRow.holds Try.pinned (OpenSpec.ofChange fnExactFirstNumberWrong)

/-- 'laws.FnExactSecondNumber': WHATEVER THE INPUT: true; the input reads as it did. -/
def fnExactSecondNumberSpec : ChangeSpec := { name := "fnExactSecondNumber", fn := fun _ => fun
  | [d] => { results := [.lit (.bool true)], args := [d] }
  | _ => none }
def fnExactSecondNumberRow : OpenClaim := { program := "ytkhlgphmimddhaa", sum := "dfd02a2056817f57e6f195092be49049f5616ea606eaa51bc9d3b1fe81dddf52", func := "loop.example/g01380/laws.FnExactSecondNumber", spec := "fnExactSecondNumber", recurses := true, apart := false }
def FnExactSecondNumberSaid : Prop := fnExactSecondNumberRow.holds Try.pinned (OpenSpec.ofChange fnExactSecondNumberSpec)

/-- ITS FALSE NEIGHBOUR: 'it returns false'. Refute it at one input. -/
def fnExactSecondNumberWrong : ChangeSpec := { name := "fnExactSecondNumber", fn := fun _ => fun
  | [d] => { results := [.lit (.bool false)], args := [d] }
  | _ => none }
def FnExactSecondNumberWrongFalsely : Prop := fnExactSecondNumberRow.holds Try.pinned (OpenSpec.ofChange fnExactSecondNumberWrong)

/-- 'laws.FnExactSumsOf': WHATEVER THE INPUT: true; the input reads as it did. -/
def fnExactSumsOfSpec : ChangeSpec := { name := "fnExactSumsOf", fn := fun _ => fun
  | [d] => { results := [.lit (.bool true)], args := [d] }
  | _ => none }
def fnExactSumsOfRow : OpenClaim := { program := "ytkhlgphmimddhaa", sum := "dfd02a2056817f57e6f195092be49049f5616ea606eaa51bc9d3b1fe81dddf52", func := "loop.example/g01380/laws.FnExactSumsOf", spec := "fnExactSumsOf", recurses := true, apart := false }
def FnExactSumsOfSaid : Prop := fnExactSumsOfRow.holds Try.pinned (OpenSpec.ofChange fnExactSumsOfSpec)

/-- ITS FALSE NEIGHBOUR: 'it returns false'. Refute it at one input. -/
def fnExactSumsOfWrong : ChangeSpec := { name := "fnExactSumsOf", fn := fun _ => fun
  | [d] => { results := [.lit (.bool false)], args := [d] }
  | _ => none }
def FnExactSumsOfWrongFalsely : Prop := fnExactSumsOfRow.holds Try.pinned (OpenSpec.ofChange fnExactSumsOfWrong)

/-- 'laws.FnExactEqualTo': WHATEVER THE INPUT: true; the input reads as it did. -/
def fnExactEqualToSpec : ChangeSpec := { name := "fnExactEqualTo", fn := fun _ => fun
  | [d1, d2] => { results := [.lit (.bool true)], args := [d1, d2] }
  | _ => none }
def fnExactEqualToRow : OpenClaim := { program := "ytkhlgphmimddhaa", sum := "dfd02a2056817f57e6f195092be49049f5616ea606eaa51bc9d3b1fe81dddf52", func := "loop.example/g01380/laws.FnExactEqualTo", spec := "fnExactEqualTo", recurses := true, apart := false }
def FnExactEqualToSaid : Prop := fnExactEqualToRow.holds Try.pinned (OpenSpec.ofChange fnExactEqualToSpec)

/-- ITS FALSE NEIGHBOUR: 'it returns false'. Refute it at one input. -/
def fnExactEqualToWrong : ChangeSpec := { name := "fnExactEqualTo", fn := fun _ => fun
  | [d1, d2] => { results := [.lit (.bool false)], args := [d1, d2] }
  | _ => none }
def FnExactEqualToWrongFalsely : Prop := fnExactEqualToRow.holds Try.pinned (OpenSpec.ofChange fnExactEqualToWrong)

/-- 'laws.FnExactProductGap': WHATEVER THE INPUT: true; the input reads as it did. -/
def fnExactProductGapSpec : ChangeSpec := { name := "fnExactProductGap", fn := fun _ => fun
  | [d1, d2] => { results := [.lit (.bool true)], args := [d1, d2] }
  | _ => none }
def fnExactProductGapRow : OpenClaim := { program := "ytkhlgphmimddhaa", sum := "dfd02a2056817f57e6f195092be49049f5616ea606eaa51bc9d3b1fe81dddf52", func := "loop.example/g01380/laws.FnExactProductGap", spec := "fnExactProductGap", recurses := true, apart := false }
def FnExactProductGapSaid : Prop := fnExactProductGapRow.holds Try.pinned (OpenSpec.ofChange fnExactProductGapSpec)

/-- ITS FALSE NEIGHBOUR: 'it returns false'. Refute it at one input. -/
def fnExactProductGapWrong : ChangeSpec := { name := "fnExactProductGap", fn := fun _ => fun
  | [d1, d2] => { results := [.lit (.bool false)], args := [d1, d2] }
  | _ => none }
def FnExactProductGapWrongFalsely : Prop := fnExactProductGapRow.holds Try.pinned (OpenSpec.ofChange fnExactProductGapWrong)

/-- 'laws.FnDedekind': WHATEVER THE INPUT: true; the input reads as it did. -/
def fnDedekindSpec : ChangeSpec := { name := "fnDedekind", fn := fun _ => fun
  | [d] => { results := [.lit (.bool true)], args := [d] }
  | _ => none }
def fnDedekindRow : OpenClaim := { program := "ytkhlgphmimddhaa", sum := "dfd02a2056817f57e6f195092be49049f5616ea606eaa51bc9d3b1fe81dddf52", func := "loop.example/g01380/laws.FnDedekind", spec := "fnDedekind", recurses := true, apart := false }
def FnDedekindSaid : Prop := fnDedekindRow.holds Try.pinned (OpenSpec.ofChange fnDedekindSpec)

/-- ITS FALSE NEIGHBOUR: 'it returns false'. Refute it at one input. -/
def fnDedekindWrong : ChangeSpec := { name := "fnDedekind", fn := fun _ => fun
  | [d] => { results := [.lit (.bool false)], args := [d] }
  | _ => none }
def FnDedekindWrongFalsely : Prop := fnDedekindRow.holds Try.pinned (OpenSpec.ofChange fnDedekindWrong)

/-- 'laws.FnRademacher': WHATEVER THE INPUT: true; the input reads as it did. -/
def fnRademacherSpec : ChangeSpec := { name := "fnRademacher", fn := fun _ => fun
  | [d] => { results := [.lit (.bool true)], args := [d] }
  | _ => none }
def fnRademacherRow : OpenClaim := { program := "ytkhlgphmimddhaa", sum := "dfd02a2056817f57e6f195092be49049f5616ea606eaa51bc9d3b1fe81dddf52", func := "loop.example/g01380/laws.FnRademacher", spec := "fnRademacher", recurses := true, apart := false }
def FnRademacherSaid : Prop := fnRademacherRow.holds Try.pinned (OpenSpec.ofChange fnRademacherSpec)

/-- ITS FALSE NEIGHBOUR: 'it returns false'. Refute it at one input. -/
def fnRademacherWrong : ChangeSpec := { name := "fnRademacher", fn := fun _ => fun
  | [d] => { results := [.lit (.bool false)], args := [d] }
  | _ => none }
def FnRademacherWrongFalsely : Prop := fnRademacherRow.holds Try.pinned (OpenSpec.ofChange fnRademacherWrong)

/- THE SECOND FORM. 'bulk': how many values and letters a reading holds, each counted each time it is reached (what is shared counts as often as it is met; a slice's spare places count too). A statement '..UptoSaid' is the law's where the arguments, and the package variables that the reading takes, are together of bulk at most 1048576: NARROWER than '..Said'. Prove '..Said' where nothing that the law and all that it calls make is longer than what came in: it says more and counts as full. Else prove '..UptoSaid'. A law counts once. -/
mutual
def uptoBulk {H : Type} : DataW H → Nat
  | .lit (.string bytes) => bytes.length + 1
  | .lit _ => 1
  | .nil => 1
  | .ptr d => uptoBulk d + 1
  | .slice elems spare => uptoBulkAll elems + uptoBulkAll spare + 1
  | .agg parts => uptoBulkAll parts + 1
  | .iface _ d => uptoBulk d + 1
  | .map entries => uptoBulkEntries entries + 1
  | .held _ => 1
def uptoBulkAll {H : Type} : List (DataW H) → Nat
  | [] => 0
  | d :: r => uptoBulk d + uptoBulkAll r
def uptoBulkEntries {H : Type} : List (Lit × DataW H) → Nat
  | [] => 0
  | x :: r => uptoBulkEntry x + uptoBulkEntries r
def uptoBulkEntry {H : Type} : Lit × DataW H → Nat
  | (.string bytes, d) => bytes.length + uptoBulk d + 1
  | (_, d) => uptoBulk d + 1
 end
def uptoSmall : (H : Type) → List (DataW H) → Bool := fun _ ds => decide (uptoBulkAll ds ≤ 1048576)
def OpenSpec.upto (s : _root_.Go.ChangeSpec) : _root_.Go.OpenSpec := { _root_.Go.OpenSpec.ofChange s with cond := some uptoSmall }

/-- 'laws.FnExactReciprocityOf', WHERE WHAT IT READS IS OF BULK AT MOST 1048576: true; the input reads as it did. -/
def fnExactReciprocityOfUptoRow : OpenClaim := { program := "ytkhlgphmimddhaa", sum := "dfd02a2056817f57e6f195092be49049f5616ea606eaa51bc9d3b1fe81dddf52", func := "loop.example/g01380/laws.FnExactReciprocityOf", spec := "fnExactReciprocityOf", apart := false, narrowed := true }
def FnExactReciprocityOfUptoSaid : Prop := fnExactReciprocityOfUptoRow.holds Try.pinned (OpenSpec.upto fnExactReciprocityOfSpec)

/-- 'laws.FnExactTotalOf', WHERE WHAT IT READS IS OF BULK AT MOST 1048576: true; the input reads as it did. -/
def fnExactTotalOfUptoRow : OpenClaim := { program := "ytkhlgphmimddhaa", sum := "dfd02a2056817f57e6f195092be49049f5616ea606eaa51bc9d3b1fe81dddf52", func := "loop.example/g01380/laws.FnExactTotalOf", spec := "fnExactTotalOf", recurses := true, apart := false, narrowed := true }
def FnExactTotalOfUptoSaid : Prop := fnExactTotalOfUptoRow.holds Try.pinned (OpenSpec.upto fnExactTotalOfSpec)

/-- 'laws.FnExactDedekindSum', WHERE WHAT IT READS IS OF BULK AT MOST 1048576: true; the input reads as it did. -/
def fnExactDedekindSumUptoRow : OpenClaim := { program := "ytkhlgphmimddhaa", sum := "dfd02a2056817f57e6f195092be49049f5616ea606eaa51bc9d3b1fe81dddf52", func := "loop.example/g01380/laws.FnExactDedekindSum", spec := "fnExactDedekindSum", recurses := true, apart := false, narrowed := true }
def FnExactDedekindSumUptoSaid : Prop := fnExactDedekindSumUptoRow.holds Try.pinned (OpenSpec.upto fnExactDedekindSumSpec)

/-- 'laws.FnExactSawTooth', WHERE WHAT IT READS IS OF BULK AT MOST 1048576: true; the input reads as it did. -/
def fnExactSawToothUptoRow : OpenClaim := { program := "ytkhlgphmimddhaa", sum := "dfd02a2056817f57e6f195092be49049f5616ea606eaa51bc9d3b1fe81dddf52", func := "loop.example/g01380/laws.FnExactSawTooth", spec := "fnExactSawTooth", apart := false, narrowed := true }
def FnExactSawToothUptoSaid : Prop := fnExactSawToothUptoRow.holds Try.pinned (OpenSpec.upto fnExactSawToothSpec)

/-- 'laws.FnExactFirstNumber', WHERE WHAT IT READS IS OF BULK AT MOST 1048576: true; the input reads as it did. -/
def fnExactFirstNumberUptoRow : OpenClaim := { program := "ytkhlgphmimddhaa", sum := "dfd02a2056817f57e6f195092be49049f5616ea606eaa51bc9d3b1fe81dddf52", func := "loop.example/g01380/laws.FnExactFirstNumber", spec := "fnExactFirstNumber", recurses := true, apart := false, narrowed := true }
def FnExactFirstNumberUptoSaid : Prop := fnExactFirstNumberUptoRow.holds Try.pinned (OpenSpec.upto fnExactFirstNumberSpec)

/-- 'laws.FnExactSecondNumber', WHERE WHAT IT READS IS OF BULK AT MOST 1048576: true; the input reads as it did. -/
def fnExactSecondNumberUptoRow : OpenClaim := { program := "ytkhlgphmimddhaa", sum := "dfd02a2056817f57e6f195092be49049f5616ea606eaa51bc9d3b1fe81dddf52", func := "loop.example/g01380/laws.FnExactSecondNumber", spec := "fnExactSecondNumber", recurses := true, apart := false, narrowed := true }
def FnExactSecondNumberUptoSaid : Prop := fnExactSecondNumberUptoRow.holds Try.pinned (OpenSpec.upto fnExactSecondNumberSpec)

/-- 'laws.FnExactSumsOf', WHERE WHAT IT READS IS OF BULK AT MOST 1048576: true; the input reads as it did. -/
def fnExactSumsOfUptoRow : OpenClaim := { program := "ytkhlgphmimddhaa", sum := "dfd02a2056817f57e6f195092be49049f5616ea606eaa51bc9d3b1fe81dddf52", func := "loop.example/g01380/laws.FnExactSumsOf", spec := "fnExactSumsOf", recurses := true, apart := false, narrowed := true }
def FnExactSumsOfUptoSaid : Prop := fnExactSumsOfUptoRow.holds Try.pinned (OpenSpec.upto fnExactSumsOfSpec)

/-- 'laws.FnExactEqualTo', WHERE WHAT IT READS IS OF BULK AT MOST 1048576: true; the input reads as it did. -/
def fnExactEqualToUptoRow : OpenClaim := { program := "ytkhlgphmimddhaa", sum := "dfd02a2056817f57e6f195092be49049f5616ea606eaa51bc9d3b1fe81dddf52", func := "loop.example/g01380/laws.FnExactEqualTo", spec := "fnExactEqualTo", recurses := true, apart := false, narrowed := true }
def FnExactEqualToUptoSaid : Prop := fnExactEqualToUptoRow.holds Try.pinned (OpenSpec.upto fnExactEqualToSpec)

/-- 'laws.FnExactProductGap', WHERE WHAT IT READS IS OF BULK AT MOST 1048576: true; the input reads as it did. -/
def fnExactProductGapUptoRow : OpenClaim := { program := "ytkhlgphmimddhaa", sum := "dfd02a2056817f57e6f195092be49049f5616ea606eaa51bc9d3b1fe81dddf52", func := "loop.example/g01380/laws.FnExactProductGap", spec := "fnExactProductGap", recurses := true, apart := false, narrowed := true }
def FnExactProductGapUptoSaid : Prop := fnExactProductGapUptoRow.holds Try.pinned (OpenSpec.upto fnExactProductGapSpec)

/-- 'laws.FnDedekind', WHERE WHAT IT READS IS OF BULK AT MOST 1048576: true; the input reads as it did. -/
def fnDedekindUptoRow : OpenClaim := { program := "ytkhlgphmimddhaa", sum := "dfd02a2056817f57e6f195092be49049f5616ea606eaa51bc9d3b1fe81dddf52", func := "loop.example/g01380/laws.FnDedekind", spec := "fnDedekind", recurses := true, apart := false, narrowed := true }
def FnDedekindUptoSaid : Prop := fnDedekindUptoRow.holds Try.pinned (OpenSpec.upto fnDedekindSpec)

/-- 'laws.FnRademacher', WHERE WHAT IT READS IS OF BULK AT MOST 1048576: true; the input reads as it did. -/
def fnRademacherUptoRow : OpenClaim := { program := "ytkhlgphmimddhaa", sum := "dfd02a2056817f57e6f195092be49049f5616ea606eaa51bc9d3b1fe81dddf52", func := "loop.example/g01380/laws.FnRademacher", spec := "fnRademacher", recurses := true, apart := false, narrowed := true }
def FnRademacherUptoSaid : Prop := fnRademacherUptoRow.holds Try.pinned (OpenSpec.upto fnRademacherSpec)

end Rows
end Go.Proofs.Ytkhlgphmimddhaa
