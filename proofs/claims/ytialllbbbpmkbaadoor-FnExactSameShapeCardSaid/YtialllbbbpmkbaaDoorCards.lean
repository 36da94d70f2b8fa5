/-
  DERIVED. GIVEN WITH THE SEED: THE CARDS: each row of YtialllbbbpmkbaaDoorRows.lean that lists a variable, with what it lists TIED to the program's text (the seventh form; the later family's looks); each row that meets fmt, with fmt's text TOLD by the authors' own Lean function (tested against real Go, not proved from fmt's source: count such statements apart). THE CARD IS WHAT COUNTS. Prove the row's statement (the work); the ties are given (YtialllbbbpmkbaaDoorTie.lean); close each card by the builder's one call (the guide's Derived/Test/ToyasCard.lean, 'card_holds'). Laid BY PROGRAM, IN A SANDBOX (cutbox-door.mjs). By AI agents, Wed Nov 11 2026. No macro, syntax, notation, axiom, sorry.
-/
import Derived.Test.YtialllbbbpmkbaaDoorRows
import GoSem.ClaimSeven
namespace Go.Proofs.YtialllbbbpmkbaaDoor
namespace Rows

/-- THE TIED CARD OF 'laws.FnExactWriteRuns'. -/
def fnExactWriteRunsCard : Claim7 := { stood := { row := fnExactWriteRunsRow, standIns := [], harness := (true, "fac58c94a2fd92b4e116e4bf21d3beab92b9744e81afcc710d0d7eab5fdb71d9"), looks := false }, kinds := [], alts := [], laidByText := true, laidKinds := [.data, .data, .data], laidTests := true, laidLooks := .later }
def FnExactWriteRunsCardSaid : Prop := Claim7.holds Tryd.pinned (.plain (OpenSpec.ofChange fnExactWriteRunsSpec)) fnExactWriteRunsCard

/-- THE TIED CARD OF 'laws.FnExactNameOf'. -/
def fnExactNameOfCard : Claim7 := { stood := { row := fnExactNameOfRow, standIns := [], harness := (true, "fac58c94a2fd92b4e116e4bf21d3beab92b9744e81afcc710d0d7eab5fdb71d9"), looks := false }, kinds := [], alts := [], laidByText := true, laidKinds := [.data, .data, .data], laidTests := true, laidLooks := .later }
def FnExactNameOfCardSaid : Prop := Claim7.holds Tryd.pinned (.plain (OpenSpec.ofChange fnExactNameOfSpec)) fnExactNameOfCard

/-- THE TIED CARD OF 'laws.FnExactSameShape'. -/
def fnExactSameShapeCard : Claim7 := { stood := { row := fnExactSameShapeRow, standIns := [], harness := (true, "fac58c94a2fd92b4e116e4bf21d3beab92b9744e81afcc710d0d7eab5fdb71d9"), looks := false }, kinds := [], alts := [], laidByText := true, laidKinds := [.data, .data, .data], laidTests := true, laidLooks := .later }
def FnExactSameShapeCardSaid : Prop := Claim7.holds Tryd.pinned (.plain (OpenSpec.ofChange fnExactSameShapeSpec)) fnExactSameShapeCard

/-- THE SECOND FORM's CARD OF 'laws.FnExactWriteRuns'. -/
def fnExactWriteRunsUptoCard : Claim7 := { stood := { row := fnExactWriteRunsUptoRow, standIns := [], harness := (true, "fac58c94a2fd92b4e116e4bf21d3beab92b9744e81afcc710d0d7eab5fdb71d9"), looks := false }, kinds := [], alts := [], laidByText := true, laidKinds := [.data, .data, .data], laidTests := true, laidLooks := .later }
def FnExactWriteRunsUptoCardSaid : Prop := Claim7.holds Tryd.pinned (.plain (OpenSpec.upto fnExactWriteRunsSpec)) fnExactWriteRunsUptoCard

/-- THE SECOND FORM's CARD OF 'laws.FnExactNameOf'. -/
def fnExactNameOfUptoCard : Claim7 := { stood := { row := fnExactNameOfUptoRow, standIns := [], harness := (true, "fac58c94a2fd92b4e116e4bf21d3beab92b9744e81afcc710d0d7eab5fdb71d9"), looks := false }, kinds := [], alts := [], laidByText := true, laidKinds := [.data, .data, .data], laidTests := true, laidLooks := .later }
def FnExactNameOfUptoCardSaid : Prop := Claim7.holds Tryd.pinned (.plain (OpenSpec.upto fnExactNameOfSpec)) fnExactNameOfUptoCard

/-- THE SECOND FORM's CARD OF 'laws.FnExactSameShape'. -/
def fnExactSameShapeUptoCard : Claim7 := { stood := { row := fnExactSameShapeUptoRow, standIns := [], harness := (true, "fac58c94a2fd92b4e116e4bf21d3beab92b9744e81afcc710d0d7eab5fdb71d9"), looks := false }, kinds := [], alts := [], laidByText := true, laidKinds := [.data, .data, .data], laidTests := true, laidLooks := .later }
def FnExactSameShapeUptoCardSaid : Prop := Claim7.holds Tryd.pinned (.plain (OpenSpec.upto fnExactSameShapeSpec)) fnExactSameShapeUptoCard
end Rows
end Go.Proofs.YtialllbbbpmkbaaDoor
