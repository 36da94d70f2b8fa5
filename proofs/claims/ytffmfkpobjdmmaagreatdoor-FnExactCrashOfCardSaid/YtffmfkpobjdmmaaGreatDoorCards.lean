/-
  DERIVED. GIVEN WITH THE SEED: THE CARDS: each row of YtffmfkpobjdmmaaGreatDoorRows.lean that lists a variable, with what it lists TIED to the program's text (the seventh form; the later family's looks); each row that meets fmt, with fmt's text TOLD by the authors' own Lean function (tested against real Go, not proved from fmt's source: count such statements apart). THE CARD IS WHAT COUNTS. Prove the row's statement (the work); the ties are given (YtffmfkpobjdmmaaGreatDoorTie.lean); close each card by the builder's one call (the guide's Derived/Test/ToyasCard.lean, 'card_holds'). Laid BY PROGRAM, IN A SANDBOX (cutbox-door.mjs). By AI agents, Wed Nov 11 2026. No macro, syntax, notation, axiom, sorry.
-/
import Derived.Test.YtffmfkpobjdmmaaGreatDoorRows
import GoSem.ClaimSeven
namespace Go.Proofs.YtffmfkpobjdmmaaGreatDoor
namespace Rows

/-- THE TIED CARD OF 'laws.FnExactSoupOf'. -/
def fnExactSoupOfCard : Claim7 := { stood := { row := fnExactSoupOfRow, standIns := [], harness := (true, "ecc25daef75b53bbee5388bbdae4b1d30f9b12463a2375314b23d58fa4a888d9"), looks := false }, kinds := [], alts := [], laidByText := true, laidKinds := [.data, .data, .data], laidTests := true, laidLooks := .later }
def FnExactSoupOfCardSaid : Prop := Claim7.holds Tryz.pinned (.plain (OpenSpec.ofChange fnExactSoupOfSpec)) fnExactSoupOfCard

/-- THE TIED CARD OF 'laws.FnExactCrashOf'. -/
def fnExactCrashOfCard : Claim7 := { stood := { row := fnExactCrashOfRow, standIns := [], harness := (true, "ecc25daef75b53bbee5388bbdae4b1d30f9b12463a2375314b23d58fa4a888d9"), looks := false }, kinds := [], alts := [], laidByText := true, laidKinds := [.data, .data, .data], laidTests := true, laidLooks := .later }
def FnExactCrashOfCardSaid : Prop := Claim7.holds Tryz.pinned (.plain (OpenSpec.ofChange fnExactCrashOfSpec)) fnExactCrashOfCard

/-- THE SECOND FORM's CARD OF 'laws.FnExactSoupOf'. -/
def fnExactSoupOfUptoCard : Claim7 := { stood := { row := fnExactSoupOfUptoRow, standIns := [], harness := (true, "ecc25daef75b53bbee5388bbdae4b1d30f9b12463a2375314b23d58fa4a888d9"), looks := false }, kinds := [], alts := [], laidByText := true, laidKinds := [.data, .data, .data], laidTests := true, laidLooks := .later }
def FnExactSoupOfUptoCardSaid : Prop := Claim7.holds Tryz.pinned (.plain (OpenSpec.upto fnExactSoupOfSpec)) fnExactSoupOfUptoCard

/-- THE SECOND FORM's CARD OF 'laws.FnExactCrashOf'. -/
def fnExactCrashOfUptoCard : Claim7 := { stood := { row := fnExactCrashOfUptoRow, standIns := [], harness := (true, "ecc25daef75b53bbee5388bbdae4b1d30f9b12463a2375314b23d58fa4a888d9"), looks := false }, kinds := [], alts := [], laidByText := true, laidKinds := [.data, .data, .data], laidTests := true, laidLooks := .later }
def FnExactCrashOfUptoCardSaid : Prop := Claim7.holds Tryz.pinned (.plain (OpenSpec.upto fnExactCrashOfSpec)) fnExactCrashOfUptoCard
end Rows
end Go.Proofs.YtffmfkpobjdmmaaGreatDoor
