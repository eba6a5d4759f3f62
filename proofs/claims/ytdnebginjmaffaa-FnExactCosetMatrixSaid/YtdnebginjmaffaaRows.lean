/-
  No cell of these rows narrows 'for every input' (looked for: loops, veiled, ifaces, maps, wideKeys, modest, calm, conditions, laid).
  DERIVED. THE GIVEN ROWS OF THIS SEAT. 12 by the template 'for every input the law returns true; each argument reads behind the call as it read before'; 0 by the template 'total and deterministic' (their statements: YtdnebginjmaffaaTotals.lean).
  GIVEN WITH THE SEED: the statements are not yours to turn. If you find one false, say at which input.
  Laid BY PROGRAM, IN A SANDBOX (cutbox-rows.mjs): the forced cells as the released guide's own fill.sh prints them over the translation f5b2c1b45e939c3a… (all of the seat's roots in one cut). By AI agents, Wed Nov 11 2026. No macro, syntax, notation, axiom, sorry.
-/
import Derived.Test.YtdnebginjmaffaaChecked
import GoSem.Claim
import GoSem.ClaimJoined
import GoSem.ClaimMapViews
import Derived.JoinedTies
import Derived.KernelRfl
namespace Go.Proofs.Ytdnebginjmaffaa
/- THE CELL 'sum', in the pinned program and in every row, IS THE sha256 OF THE DUMP (.gsa) THAT YtdnebginjmaffaaProg.lean LOADS. Nothing in Lean hashes anything: it is a label: what it is worth is what the hold of that sum in a sandbox is worth. -/
noncomputable def Try.pinned : Pinned := { name := "ytdnebginjmaffaa", sum := "f5b2c1b45e939c3aca88240549d8de13e75c8ad7868213f943fe3d8f8d02481d", checked := Try.checked }
namespace Rows
def none {H : Type} : Left H := { results := [], args := [] }

/-- 'laws.FnExactIsMember': WHATEVER THE INPUT: true; the input reads as it did. -/
def fnExactIsMemberSpec : ChangeSpec := { name := "fnExactIsMember", fn := fun _ => fun
  | [d1, d2, d3] => { results := [.lit (.bool true)], args := [d1, d2, d3] }
  | _ => none }
def fnExactIsMemberRow : OpenClaim := { program := "ytdnebginjmaffaa", sum := "f5b2c1b45e939c3aca88240549d8de13e75c8ad7868213f943fe3d8f8d02481d", func := "loop.example/g01380/laws.FnExactIsMember", spec := "fnExactIsMember", apart := false }
def FnExactIsMemberSaid : Prop := fnExactIsMemberRow.holds Try.pinned (OpenSpec.ofChange fnExactIsMemberSpec)

/-- ITS FALSE NEIGHBOUR: 'it returns false'. Refute it at one input. -/
def fnExactIsMemberWrong : ChangeSpec := { name := "fnExactIsMember", fn := fun _ => fun
  | [d1, d2, d3] => { results := [.lit (.bool false)], args := [d1, d2, d3] }
  | _ => none }
def FnExactIsMemberWrongFalsely : Prop := fnExactIsMemberRow.holds Try.pinned (OpenSpec.ofChange fnExactIsMemberWrong)

/-- 'laws.FnExactIndexOf': WHATEVER THE INPUT: true; the input reads as it did. -/
def fnExactIndexOfSpec : ChangeSpec := { name := "fnExactIndexOf", fn := fun _ => fun
  | [d1, d2] => { results := [.lit (.bool true)], args := [d1, d2] }
  | _ => none }
def fnExactIndexOfRow : OpenClaim := { program := "ytdnebginjmaffaa", sum := "f5b2c1b45e939c3aca88240549d8de13e75c8ad7868213f943fe3d8f8d02481d", func := "loop.example/g01380/laws.FnExactIndexOf", spec := "fnExactIndexOf", apart := false }
def FnExactIndexOfSaid : Prop := fnExactIndexOfRow.holds Try.pinned (OpenSpec.ofChange fnExactIndexOfSpec)

/-- ITS FALSE NEIGHBOUR: 'it returns false'. Refute it at one input. -/
def fnExactIndexOfWrong : ChangeSpec := { name := "fnExactIndexOf", fn := fun _ => fun
  | [d1, d2] => { results := [.lit (.bool false)], args := [d1, d2] }
  | _ => none }
def FnExactIndexOfWrongFalsely : Prop := fnExactIndexOfRow.holds Try.pinned (OpenSpec.ofChange fnExactIndexOfWrong)

/-- 'laws.FnExactCountCusps': WHATEVER THE INPUT: true; the input reads as it did. -/
def fnExactCountCuspsSpec : ChangeSpec := { name := "fnExactCountCusps", fn := fun _ => fun
  | [d] => { results := [.lit (.bool true)], args := [d] }
  | _ => none }
def fnExactCountCuspsRow : OpenClaim := { program := "ytdnebginjmaffaa", sum := "f5b2c1b45e939c3aca88240549d8de13e75c8ad7868213f943fe3d8f8d02481d", func := "loop.example/g01380/laws.FnExactCountCusps", spec := "fnExactCountCusps", apart := false }
def FnExactCountCuspsSaid : Prop := fnExactCountCuspsRow.holds Try.pinned (OpenSpec.ofChange fnExactCountCuspsSpec)

/-- ITS FALSE NEIGHBOUR: 'it returns false'. Refute it at one input. -/
def fnExactCountCuspsWrong : ChangeSpec := { name := "fnExactCountCusps", fn := fun _ => fun
  | [d] => { results := [.lit (.bool false)], args := [d] }
  | _ => none }
def FnExactCountCuspsWrongFalsely : Prop := fnExactCountCuspsRow.holds Try.pinned (OpenSpec.ofChange fnExactCountCuspsWrong)

/-- 'laws.FnExactNormalPair': WHATEVER THE INPUT: true; the input reads as it did. -/
def fnExactNormalPairSpec : ChangeSpec := { name := "fnExactNormalPair", fn := fun _ => fun
  | [d1, d2, d3] => { results := [.lit (.bool true)], args := [d1, d2, d3] }
  | _ => none }
def fnExactNormalPairRow : OpenClaim := { program := "ytdnebginjmaffaa", sum := "f5b2c1b45e939c3aca88240549d8de13e75c8ad7868213f943fe3d8f8d02481d", func := "loop.example/g01380/laws.FnExactNormalPair", spec := "fnExactNormalPair", apart := false }
def FnExactNormalPairSaid : Prop := fnExactNormalPairRow.holds Try.pinned (OpenSpec.ofChange fnExactNormalPairSpec)

/-- ITS FALSE NEIGHBOUR: 'it returns false'. Refute it at one input. -/
def fnExactNormalPairWrong : ChangeSpec := { name := "fnExactNormalPair", fn := fun _ => fun
  | [d1, d2, d3] => { results := [.lit (.bool false)], args := [d1, d2, d3] }
  | _ => none }
def FnExactNormalPairWrongFalsely : Prop := fnExactNormalPairRow.holds Try.pinned (OpenSpec.ofChange fnExactNormalPairWrong)

/-- 'laws.FnExactCosetMatrix': WHATEVER THE INPUT: true; the input reads as it did. -/
def fnExactCosetMatrixSpec : ChangeSpec := { name := "fnExactCosetMatrix", fn := fun _ => fun
  | [d1, d2] => { results := [.lit (.bool true)], args := [d1, d2] }
  | _ => none }
def fnExactCosetMatrixRow : OpenClaim := { program := "ytdnebginjmaffaa", sum := "f5b2c1b45e939c3aca88240549d8de13e75c8ad7868213f943fe3d8f8d02481d", func := "loop.example/g01380/laws.FnExactCosetMatrix", spec := "fnExactCosetMatrix", apart := false }
def FnExactCosetMatrixSaid : Prop := fnExactCosetMatrixRow.holds Try.pinned (OpenSpec.ofChange fnExactCosetMatrixSpec)

/-- ITS FALSE NEIGHBOUR: 'it returns false'. Refute it at one input. -/
def fnExactCosetMatrixWrong : ChangeSpec := { name := "fnExactCosetMatrix", fn := fun _ => fun
  | [d1, d2] => { results := [.lit (.bool false)], args := [d1, d2] }
  | _ => none }
def FnExactCosetMatrixWrongFalsely : Prop := fnExactCosetMatrixRow.holds Try.pinned (OpenSpec.ofChange fnExactCosetMatrixWrong)

/-- 'laws.FnExactCosetOf': WHATEVER THE INPUT: true; the input reads as it did. -/
def fnExactCosetOfSpec : ChangeSpec := { name := "fnExactCosetOf", fn := fun _ => fun
  | [d1, d2] => { results := [.lit (.bool true)], args := [d1, d2] }
  | _ => none }
def fnExactCosetOfRow : OpenClaim := { program := "ytdnebginjmaffaa", sum := "f5b2c1b45e939c3aca88240549d8de13e75c8ad7868213f943fe3d8f8d02481d", func := "loop.example/g01380/laws.FnExactCosetOf", spec := "fnExactCosetOf", apart := false }
def FnExactCosetOfSaid : Prop := fnExactCosetOfRow.holds Try.pinned (OpenSpec.ofChange fnExactCosetOfSpec)

/-- ITS FALSE NEIGHBOUR: 'it returns false'. Refute it at one input. -/
def fnExactCosetOfWrong : ChangeSpec := { name := "fnExactCosetOf", fn := fun _ => fun
  | [d1, d2] => { results := [.lit (.bool false)], args := [d1, d2] }
  | _ => none }
def FnExactCosetOfWrongFalsely : Prop := fnExactCosetOfRow.holds Try.pinned (OpenSpec.ofChange fnExactCosetOfWrong)

/-- 'laws.FnExactCountKept': WHATEVER THE INPUT: true; the input reads as it did. -/
def fnExactCountKeptSpec : ChangeSpec := { name := "fnExactCountKept", fn := fun _ => fun
  | [d] => { results := [.lit (.bool true)], args := [d] }
  | _ => none }
def fnExactCountKeptRow : OpenClaim := { program := "ytdnebginjmaffaa", sum := "f5b2c1b45e939c3aca88240549d8de13e75c8ad7868213f943fe3d8f8d02481d", func := "loop.example/g01380/laws.FnExactCountKept", spec := "fnExactCountKept", apart := false }
def FnExactCountKeptSaid : Prop := fnExactCountKeptRow.holds Try.pinned (OpenSpec.ofChange fnExactCountKeptSpec)

/-- ITS FALSE NEIGHBOUR: 'it returns false'. Refute it at one input. -/
def fnExactCountKeptWrong : ChangeSpec := { name := "fnExactCountKept", fn := fun _ => fun
  | [d] => { results := [.lit (.bool false)], args := [d] }
  | _ => none }
def FnExactCountKeptWrongFalsely : Prop := fnExactCountKeptRow.holds Try.pinned (OpenSpec.ofChange fnExactCountKeptWrong)

/-- 'laws.FnExactLineOf': WHATEVER THE INPUT: true; the input reads as it did. -/
def fnExactLineOfSpec : ChangeSpec := { name := "fnExactLineOf", fn := fun _ => fun
  | [d] => { results := [.lit (.bool true)], args := [d] }
  | _ => none }
def fnExactLineOfRow : OpenClaim := { program := "ytdnebginjmaffaa", sum := "f5b2c1b45e939c3aca88240549d8de13e75c8ad7868213f943fe3d8f8d02481d", func := "loop.example/g01380/laws.FnExactLineOf", spec := "fnExactLineOf", apart := false }
def FnExactLineOfSaid : Prop := fnExactLineOfRow.holds Try.pinned (OpenSpec.ofChange fnExactLineOfSpec)

/-- ITS FALSE NEIGHBOUR: 'it returns false'. Refute it at one input. -/
def fnExactLineOfWrong : ChangeSpec := { name := "fnExactLineOf", fn := fun _ => fun
  | [d] => { results := [.lit (.bool false)], args := [d] }
  | _ => none }
def FnExactLineOfWrongFalsely : Prop := fnExactLineOfRow.holds Try.pinned (OpenSpec.ofChange fnExactLineOfWrong)

/-- 'laws.FnExactGenusOf': WHATEVER THE INPUT: true; the input reads as it did. -/
def fnExactGenusOfSpec : ChangeSpec := { name := "fnExactGenusOf", fn := fun _ => fun
  | [d] => { results := [.lit (.bool true)], args := [d] }
  | _ => none }
def fnExactGenusOfRow : OpenClaim := { program := "ytdnebginjmaffaa", sum := "f5b2c1b45e939c3aca88240549d8de13e75c8ad7868213f943fe3d8f8d02481d", func := "loop.example/g01380/laws.FnExactGenusOf", spec := "fnExactGenusOf", recurses := true, apart := false }
def FnExactGenusOfSaid : Prop := fnExactGenusOfRow.holds Try.pinned (OpenSpec.ofChange fnExactGenusOfSpec)

/-- ITS FALSE NEIGHBOUR: 'it returns false'. Refute it at one input. -/
def fnExactGenusOfWrong : ChangeSpec := { name := "fnExactGenusOf", fn := fun _ => fun
  | [d] => { results := [.lit (.bool false)], args := [d] }
  | _ => none }
def FnExactGenusOfWrongFalsely : Prop := fnExactGenusOfRow.holds Try.pinned (OpenSpec.ofChange fnExactGenusOfWrong)

/-- 'laws.FnExactCuspsOf': WHATEVER THE INPUT: true; the input reads as it did. -/
def fnExactCuspsOfSpec : ChangeSpec := { name := "fnExactCuspsOf", fn := fun _ => fun
  | [d] => { results := [.lit (.bool true)], args := [d] }
  | _ => none }
def fnExactCuspsOfRow : OpenClaim := { program := "ytdnebginjmaffaa", sum := "f5b2c1b45e939c3aca88240549d8de13e75c8ad7868213f943fe3d8f8d02481d", func := "loop.example/g01380/laws.FnExactCuspsOf", spec := "fnExactCuspsOf", recurses := true, apart := false }
def FnExactCuspsOfSaid : Prop := fnExactCuspsOfRow.holds Try.pinned (OpenSpec.ofChange fnExactCuspsOfSpec)

/-- ITS FALSE NEIGHBOUR: 'it returns false'. Refute it at one input. -/
def fnExactCuspsOfWrong : ChangeSpec := { name := "fnExactCuspsOf", fn := fun _ => fun
  | [d] => { results := [.lit (.bool false)], args := [d] }
  | _ => none }
def FnExactCuspsOfWrongFalsely : Prop := fnExactCuspsOfRow.holds Try.pinned (OpenSpec.ofChange fnExactCuspsOfWrong)

/-- 'laws.FnExactCuspOfFraction': WHATEVER THE INPUT: true; the input reads as it did. -/
def fnExactCuspOfFractionSpec : ChangeSpec := { name := "fnExactCuspOfFraction", fn := fun _ => fun
  | [d1, d2] => { results := [.lit (.bool true)], args := [d1, d2] }
  | _ => none }
def fnExactCuspOfFractionRow : OpenClaim := { program := "ytdnebginjmaffaa", sum := "f5b2c1b45e939c3aca88240549d8de13e75c8ad7868213f943fe3d8f8d02481d", func := "loop.example/g01380/laws.FnExactCuspOfFraction", spec := "fnExactCuspOfFraction", unfollowed := true, recurses := true, apart := false }
def FnExactCuspOfFractionSaid : Prop := fnExactCuspOfFractionRow.holds Try.pinned (OpenSpec.ofChange fnExactCuspOfFractionSpec)

/-- ITS FALSE NEIGHBOUR: 'it returns false'. Refute it at one input. -/
def fnExactCuspOfFractionWrong : ChangeSpec := { name := "fnExactCuspOfFraction", fn := fun _ => fun
  | [d1, d2] => { results := [.lit (.bool false)], args := [d1, d2] }
  | _ => none }
def FnExactCuspOfFractionWrongFalsely : Prop := fnExactCuspOfFractionRow.holds Try.pinned (OpenSpec.ofChange fnExactCuspOfFractionWrong)

/-- 'laws.FnExactRelationsOf': WHATEVER THE INPUT: true; the input reads as it did. -/
def fnExactRelationsOfSpec : ChangeSpec := { name := "fnExactRelationsOf", fn := fun _ => fun
  | [d] => { results := [.lit (.bool true)], args := [d] }
  | _ => none }
def fnExactRelationsOfRow : OpenClaim := { program := "ytdnebginjmaffaa", sum := "f5b2c1b45e939c3aca88240549d8de13e75c8ad7868213f943fe3d8f8d02481d", func := "loop.example/g01380/laws.FnExactRelationsOf", spec := "fnExactRelationsOf", unfollowed := true, recurses := true, apart := false }
def FnExactRelationsOfSaid : Prop := fnExactRelationsOfRow.holds Try.pinned (OpenSpec.ofChange fnExactRelationsOfSpec)

/-- ITS FALSE NEIGHBOUR: 'it returns false'. Refute it at one input. -/
def fnExactRelationsOfWrong : ChangeSpec := { name := "fnExactRelationsOf", fn := fun _ => fun
  | [d] => { results := [.lit (.bool false)], args := [d] }
  | _ => none }
def FnExactRelationsOfWrongFalsely : Prop := fnExactRelationsOfRow.holds Try.pinned (OpenSpec.ofChange fnExactRelationsOfWrong)

/- THE SECOND FORM. 'bulk': how many values and letters a reading holds, each counted each time it is reached (what is shared counts as often as it is met; a slice's spare places count too). A statement '..UptoSaid' is the law's where the arguments, and the package variables that the reading takes, are together of bulk at most 1048576: NARROWER than '..Said'. Prove '..Said' where nothing that the law and all that it calls make is longer than what came in: it says more and counts as full. Else prove '..UptoSaid'. A law counts once. -/
mutual
def uptoBulk {H : Type} : DataW H → Nat
  | .lit (.string bytes) => bytes.length + 1
  | .lit _ => 1
  | .nil => 1
  | .ptr d => uptoBulk d + 1
  | .slice elems spare => uptoBulkAll elems + uptoBulkAll spare + 1
  | .agg parts => uptoBulkAll parts + 1
  | .iface _ d => uptoBulk d + 1
  | .map entries => uptoBulkEntries entries + 1
  | .held _ => 1
def uptoBulkAll {H : Type} : List (DataW H) → Nat
  | [] => 0
  | d :: r => uptoBulk d + uptoBulkAll r
def uptoBulkEntries {H : Type} : List (Lit × DataW H) → Nat
  | [] => 0
  | x :: r => uptoBulkEntry x + uptoBulkEntries r
def uptoBulkEntry {H : Type} : Lit × DataW H → Nat
  | (.string bytes, d) => bytes.length + uptoBulk d + 1
  | (_, d) => uptoBulk d + 1
 end
def uptoSmall : (H : Type) → List (DataW H) → Bool := fun _ ds => decide (uptoBulkAll ds ≤ 1048576)
def OpenSpec.upto (s : _root_.Go.ChangeSpec) : _root_.Go.OpenSpec := { _root_.Go.OpenSpec.ofChange s with cond := some uptoSmall }

/-- 'laws.FnExactIsMember', WHERE WHAT IT READS IS OF BULK AT MOST 1048576: true; the input reads as it did. -/
def fnExactIsMemberUptoRow : OpenClaim := { program := "ytdnebginjmaffaa", sum := "f5b2c1b45e939c3aca88240549d8de13e75c8ad7868213f943fe3d8f8d02481d", func := "loop.example/g01380/laws.FnExactIsMember", spec := "fnExactIsMember", apart := false, narrowed := true }
def FnExactIsMemberUptoSaid : Prop := fnExactIsMemberUptoRow.holds Try.pinned (OpenSpec.upto fnExactIsMemberSpec)

/-- 'laws.FnExactIndexOf', WHERE WHAT IT READS IS OF BULK AT MOST 1048576: true; the input reads as it did. -/
def fnExactIndexOfUptoRow : OpenClaim := { program := "ytdnebginjmaffaa", sum := "f5b2c1b45e939c3aca88240549d8de13e75c8ad7868213f943fe3d8f8d02481d", func := "loop.example/g01380/laws.FnExactIndexOf", spec := "fnExactIndexOf", apart := false, narrowed := true }
def FnExactIndexOfUptoSaid : Prop := fnExactIndexOfUptoRow.holds Try.pinned (OpenSpec.upto fnExactIndexOfSpec)

/-- 'laws.FnExactCountCusps', WHERE WHAT IT READS IS OF BULK AT MOST 1048576: true; the input reads as it did. -/
def fnExactCountCuspsUptoRow : OpenClaim := { program := "ytdnebginjmaffaa", sum := "f5b2c1b45e939c3aca88240549d8de13e75c8ad7868213f943fe3d8f8d02481d", func := "loop.example/g01380/laws.FnExactCountCusps", spec := "fnExactCountCusps", apart := false, narrowed := true }
def FnExactCountCuspsUptoSaid : Prop := fnExactCountCuspsUptoRow.holds Try.pinned (OpenSpec.upto fnExactCountCuspsSpec)

/-- 'laws.FnExactNormalPair', WHERE WHAT IT READS IS OF BULK AT MOST 1048576: true; the input reads as it did. -/
def fnExactNormalPairUptoRow : OpenClaim := { program := "ytdnebginjmaffaa", sum := "f5b2c1b45e939c3aca88240549d8de13e75c8ad7868213f943fe3d8f8d02481d", func := "loop.example/g01380/laws.FnExactNormalPair", spec := "fnExactNormalPair", apart := false, narrowed := true }
def FnExactNormalPairUptoSaid : Prop := fnExactNormalPairUptoRow.holds Try.pinned (OpenSpec.upto fnExactNormalPairSpec)

/-- 'laws.FnExactCosetMatrix', WHERE WHAT IT READS IS OF BULK AT MOST 1048576: true; the input reads as it did. -/
def fnExactCosetMatrixUptoRow : OpenClaim := { program := "ytdnebginjmaffaa", sum := "f5b2c1b45e939c3aca88240549d8de13e75c8ad7868213f943fe3d8f8d02481d", func := "loop.example/g01380/laws.FnExactCosetMatrix", spec := "fnExactCosetMatrix", apart := false, narrowed := true }
def FnExactCosetMatrixUptoSaid : Prop := fnExactCosetMatrixUptoRow.holds Try.pinned (OpenSpec.upto fnExactCosetMatrixSpec)

/-- 'laws.FnExactCosetOf', WHERE WHAT IT READS IS OF BULK AT MOST 1048576: true; the input reads as it did. -/
def fnExactCosetOfUptoRow : OpenClaim := { program := "ytdnebginjmaffaa", sum := "f5b2c1b45e939c3aca88240549d8de13e75c8ad7868213f943fe3d8f8d02481d", func := "loop.example/g01380/laws.FnExactCosetOf", spec := "fnExactCosetOf", apart := false, narrowed := true }
def FnExactCosetOfUptoSaid : Prop := fnExactCosetOfUptoRow.holds Try.pinned (OpenSpec.upto fnExactCosetOfSpec)

/-- 'laws.FnExactCountKept', WHERE WHAT IT READS IS OF BULK AT MOST 1048576: true; the input reads as it did. -/
def fnExactCountKeptUptoRow : OpenClaim := { program := "ytdnebginjmaffaa", sum := "f5b2c1b45e939c3aca88240549d8de13e75c8ad7868213f943fe3d8f8d02481d", func := "loop.example/g01380/laws.FnExactCountKept", spec := "fnExactCountKept", apart := false, narrowed := true }
def FnExactCountKeptUptoSaid : Prop := fnExactCountKeptUptoRow.holds Try.pinned (OpenSpec.upto fnExactCountKeptSpec)

/-- 'laws.FnExactLineOf', WHERE WHAT IT READS IS OF BULK AT MOST 1048576: true; the input reads as it did. -/
def fnExactLineOfUptoRow : OpenClaim := { program := "ytdnebginjmaffaa", sum := "f5b2c1b45e939c3aca88240549d8de13e75c8ad7868213f943fe3d8f8d02481d", func := "loop.example/g01380/laws.FnExactLineOf", spec := "fnExactLineOf", apart := false, narrowed := true }
def FnExactLineOfUptoSaid : Prop := fnExactLineOfUptoRow.holds Try.pinned (OpenSpec.upto fnExactLineOfSpec)

/-- 'laws.FnExactGenusOf', WHERE WHAT IT READS IS OF BULK AT MOST 1048576: true; the input reads as it did. -/
def fnExactGenusOfUptoRow : OpenClaim := { program := "ytdnebginjmaffaa", sum := "f5b2c1b45e939c3aca88240549d8de13e75c8ad7868213f943fe3d8f8d02481d", func := "loop.example/g01380/laws.FnExactGenusOf", spec := "fnExactGenusOf", recurses := true, apart := false, narrowed := true }
def FnExactGenusOfUptoSaid : Prop := fnExactGenusOfUptoRow.holds Try.pinned (OpenSpec.upto fnExactGenusOfSpec)

/-- 'laws.FnExactCuspsOf', WHERE WHAT IT READS IS OF BULK AT MOST 1048576: true; the input reads as it did. -/
def fnExactCuspsOfUptoRow : OpenClaim := { program := "ytdnebginjmaffaa", sum := "f5b2c1b45e939c3aca88240549d8de13e75c8ad7868213f943fe3d8f8d02481d", func := "loop.example/g01380/laws.FnExactCuspsOf", spec := "fnExactCuspsOf", recurses := true, apart := false, narrowed := true }
def FnExactCuspsOfUptoSaid : Prop := fnExactCuspsOfUptoRow.holds Try.pinned (OpenSpec.upto fnExactCuspsOfSpec)

/-- 'laws.FnExactCuspOfFraction', WHERE WHAT IT READS IS OF BULK AT MOST 1048576: true; the input reads as it did. -/
def fnExactCuspOfFractionUptoRow : OpenClaim := { program := "ytdnebginjmaffaa", sum := "f5b2c1b45e939c3aca88240549d8de13e75c8ad7868213f943fe3d8f8d02481d", func := "loop.example/g01380/laws.FnExactCuspOfFraction", spec := "fnExactCuspOfFraction", unfollowed := true, recurses := true, apart := false, narrowed := true }
def FnExactCuspOfFractionUptoSaid : Prop := fnExactCuspOfFractionUptoRow.holds Try.pinned (OpenSpec.upto fnExactCuspOfFractionSpec)

/-- 'laws.FnExactRelationsOf', WHERE WHAT IT READS IS OF BULK AT MOST 1048576: true; the input reads as it did. -/
def fnExactRelationsOfUptoRow : OpenClaim := { program := "ytdnebginjmaffaa", sum := "f5b2c1b45e939c3aca88240549d8de13e75c8ad7868213f943fe3d8f8d02481d", func := "loop.example/g01380/laws.FnExactRelationsOf", spec := "fnExactRelationsOf", unfollowed := true, recurses := true, apart := false, narrowed := true }
def FnExactRelationsOfUptoSaid : Prop := fnExactRelationsOfUptoRow.holds Try.pinned (OpenSpec.upto fnExactRelationsOfSpec)

end Rows
end Go.Proofs.Ytdnebginjmaffaa
