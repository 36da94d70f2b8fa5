/-
  DERIVED. GIVEN WITH THE SEED: THE CARDS: each row of YthocjpfibegjcaaGreatDoorRows.lean that lists a variable, with what it lists TIED to the program's text (the seventh form; the later family's looks); each row that meets fmt, with fmt's text TOLD by the authors' own Lean function (tested against real Go, not proved from fmt's source: count such statements apart). THE CARD IS WHAT COUNTS. Prove the row's statement (the work); the ties are given (YthocjpfibegjcaaGreatDoorTie.lean); close each card by the builder's one call (the guide's Derived/Test/ToyasCard.lean, 'card_holds'). Laid BY PROGRAM, IN A SANDBOX (cutbox-door.mjs). By AI agents, Wed Nov 11 2026. No macro, syntax, notation, axiom, sorry.
-/
import Derived.Test.YthocjpfibegjcaaGreatDoorRows
import GoSem.ClaimSeven
namespace Go.Proofs.YthocjpfibegjcaaGreatDoor
namespace Rows

/-- THE TIED CARD OF 'laws.FnParts'. -/
def fnPartsCard : Claim7 := { stood := { row := fnPartsRow, standIns := [], harness := (true, "e5b41f262bab50f0b8b6aeed285cbf92c6564d751ce1752c9565195a848f8404"), looks := false }, kinds := [], alts := [], laidByText := true, laidKinds := [.data, .data, .data], laidTests := true, laidLooks := .later }
def FnPartsCardSaid : Prop := Claim7.holds Tryz.pinned (.plain (OpenSpec.ofChange fnPartsSpec)) fnPartsCard

/-- THE TIED CARD OF 'laws.FnExactCensusOf'. -/
def fnExactCensusOfCard : Claim7 := { stood := { row := fnExactCensusOfRow, standIns := [], harness := (true, "e5b41f262bab50f0b8b6aeed285cbf92c6564d751ce1752c9565195a848f8404"), looks := false }, kinds := [], alts := [], laidByText := true, laidKinds := [.data, .data, .data], laidTests := true, laidLooks := .later }
def FnExactCensusOfCardSaid : Prop := Claim7.holds Tryz.pinned (.plain (OpenSpec.ofChange fnExactCensusOfSpec)) fnExactCensusOfCard

/-- THE SECOND FORM's CARD OF 'laws.FnParts'. -/
def fnPartsUptoCard : Claim7 := { stood := { row := fnPartsUptoRow, standIns := [], harness := (true, "e5b41f262bab50f0b8b6aeed285cbf92c6564d751ce1752c9565195a848f8404"), looks := false }, kinds := [], alts := [], laidByText := true, laidKinds := [.data, .data, .data], laidTests := true, laidLooks := .later }
def FnPartsUptoCardSaid : Prop := Claim7.holds Tryz.pinned (.plain (OpenSpec.upto fnPartsSpec)) fnPartsUptoCard

/-- THE SECOND FORM's CARD OF 'laws.FnExactCensusOf'. -/
def fnExactCensusOfUptoCard : Claim7 := { stood := { row := fnExactCensusOfUptoRow, standIns := [], harness := (true, "e5b41f262bab50f0b8b6aeed285cbf92c6564d751ce1752c9565195a848f8404"), looks := false }, kinds := [], alts := [], laidByText := true, laidKinds := [.data, .data, .data], laidTests := true, laidLooks := .later }
def FnExactCensusOfUptoCardSaid : Prop := Claim7.holds Tryz.pinned (.plain (OpenSpec.upto fnExactCensusOfSpec)) fnExactCensusOfUptoCard
end Rows
end Go.Proofs.YthocjpfibegjcaaGreatDoor
