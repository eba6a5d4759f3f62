/-
  DERIVED. GIVEN WITH THE SEED: THE CARDS: each row of YtjnkogkpdbgohaaGreatDoorRows.lean that lists a variable, with what it lists TIED to the program's text (the seventh form; the later family's looks); each row that meets fmt, with fmt's text TOLD by the authors' own Lean function (tested against real Go, not proved from fmt's source: count such statements apart). THE CARD IS WHAT COUNTS. Prove the row's statement (the work); the ties are given (YtjnkogkpdbgohaaGreatDoorTie.lean); close each card by the builder's one call (the guide's Derived/Test/ToyasCard.lean, 'card_holds'). Laid BY PROGRAM, IN A SANDBOX (cutbox-door.mjs). By AI agents, Wed Nov 11 2026. No macro, syntax, notation, axiom, sorry.
-/
import Derived.Test.YtjnkogkpdbgohaaGreatDoorRows
import GoSem.ClaimSeven
namespace Go.Proofs.YtjnkogkpdbgohaaGreatDoor
namespace Rows

/-- THE TIED CARD OF 'laws.FnFareyTree'. -/
def fnFareyTreeCard : Claim7 := { stood := { row := fnFareyTreeRow, standIns := [], harness := (true, "e5587239e19d3e9835881066cf1248a1b1e6334e796a87d6aae79b47a388eebc"), looks := false }, kinds := [], alts := [], laidByText := true, laidKinds := [.data, .pinned], laidTests := true, laidLooks := .later }
def FnFareyTreeCardSaid : Prop := Claim7.holds Tryz.pinned (.plain (OpenSpec.ofChange fnFareyTreeSpec)) fnFareyTreeCard

/-- THE SECOND FORM's CARD OF 'laws.FnFareyTree'. -/
def fnFareyTreeUptoCard : Claim7 := { stood := { row := fnFareyTreeUptoRow, standIns := [], harness := (true, "e5587239e19d3e9835881066cf1248a1b1e6334e796a87d6aae79b47a388eebc"), looks := false }, kinds := [], alts := [], laidByText := true, laidKinds := [.data, .pinned], laidTests := true, laidLooks := .later }
def FnFareyTreeUptoCardSaid : Prop := Claim7.holds Tryz.pinned (.plain (OpenSpec.upto fnFareyTreeSpec)) fnFareyTreeUptoCard
end Rows
end Go.Proofs.YtjnkogkpdbgohaaGreatDoor
