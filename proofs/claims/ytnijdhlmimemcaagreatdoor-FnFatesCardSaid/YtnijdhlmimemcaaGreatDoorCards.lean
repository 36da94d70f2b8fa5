/-
  DERIVED. GIVEN WITH THE SEED: THE CARDS: each row of YtnijdhlmimemcaaGreatDoorRows.lean that lists a variable, with what it lists TIED to the program's text (the seventh form; the later family's looks); each row that meets fmt, with fmt's text TOLD by the authors' own Lean function (tested against real Go, not proved from fmt's source: count such statements apart). THE CARD IS WHAT COUNTS. Prove the row's statement (the work); the ties are given (YtnijdhlmimemcaaGreatDoorTie.lean); close each card by the builder's one call (the guide's Derived/Test/ToyasCard.lean, 'card_holds'). Laid BY PROGRAM, IN A SANDBOX (cutbox-door.mjs). By AI agents, Wed Nov 11 2026. No macro, syntax, notation, axiom, sorry.
-/
import Derived.Test.YtnijdhlmimemcaaGreatDoorRows
import GoSem.ClaimSeven
namespace Go.Proofs.YtnijdhlmimemcaaGreatDoor
namespace Rows

/-- THE TIED CARD OF 'laws.FnSoups'. -/
def fnSoupsCard : Claim7 := { stood := { row := fnSoupsRow, standIns := [], harness := (true, "aab89ed53028860ceb29938f3c5d98c9b656163e06852edaefcbad78d29f659e"), looks := false }, kinds := [], alts := [], laidByText := true, laidKinds := [.data, .data, .data], laidTests := true, laidLooks := .later }
def FnSoupsCardSaid : Prop := Claim7.holds Tryz.pinned (.plain (OpenSpec.ofChange fnSoupsSpec)) fnSoupsCard

/-- THE TIED CARD OF 'laws.FnFates'. -/
def fnFatesCard : Claim7 := { stood := { row := fnFatesRow, standIns := [], harness := (true, "aab89ed53028860ceb29938f3c5d98c9b656163e06852edaefcbad78d29f659e"), looks := false }, kinds := [], alts := [], laidByText := true, laidKinds := [.data, .data, .data], laidTests := true, laidLooks := .later }
def FnFatesCardSaid : Prop := Claim7.holds Tryz.pinned (.plain (OpenSpec.ofChange fnFatesSpec)) fnFatesCard

/-- THE SECOND FORM's CARD OF 'laws.FnSoups'. -/
def fnSoupsUptoCard : Claim7 := { stood := { row := fnSoupsUptoRow, standIns := [], harness := (true, "aab89ed53028860ceb29938f3c5d98c9b656163e06852edaefcbad78d29f659e"), looks := false }, kinds := [], alts := [], laidByText := true, laidKinds := [.data, .data, .data], laidTests := true, laidLooks := .later }
def FnSoupsUptoCardSaid : Prop := Claim7.holds Tryz.pinned (.plain (OpenSpec.upto fnSoupsSpec)) fnSoupsUptoCard

/-- THE SECOND FORM's CARD OF 'laws.FnFates'. -/
def fnFatesUptoCard : Claim7 := { stood := { row := fnFatesUptoRow, standIns := [], harness := (true, "aab89ed53028860ceb29938f3c5d98c9b656163e06852edaefcbad78d29f659e"), looks := false }, kinds := [], alts := [], laidByText := true, laidKinds := [.data, .data, .data], laidTests := true, laidLooks := .later }
def FnFatesUptoCardSaid : Prop := Claim7.holds Tryz.pinned (.plain (OpenSpec.upto fnFatesSpec)) fnFatesUptoCard
end Rows
end Go.Proofs.YtnijdhlmimemcaaGreatDoor
