/-
  No cell of these rows narrows 'for every input' (looked for: loops, veiled, ifaces, maps, wideKeys, modest, calm, conditions, laid).
  DERIVED. THE GIVEN ROWS OF THIS SEAT. 8 by the template 'for every input the law returns true; each argument reads behind the call as it read before'; 0 by the template 'total and deterministic' (their statements: YtnndhafldmkdeaaTotals.lean).
  GIVEN WITH THE SEED: the statements are not yours to turn. If you find one false, say at which input.
  Laid BY PROGRAM, IN A SANDBOX (cutbox-rows.mjs): the forced cells as the released guide's own fill.sh prints them over the translation a35dea406110ff7c… (all of the seat's roots in one cut). By AI agents, Wed Nov 11 2026. No macro, syntax, notation, axiom, sorry.
-/
import Derived.Test.YtnndhafldmkdeaaChecked
import GoSem.Claim
import GoSem.ClaimJoined
import GoSem.ClaimMapViews
import Derived.JoinedTies
import Derived.KernelRfl
namespace Go.Proofs.Ytnndhafldmkdeaa
/- THE CELL 'sum', in the pinned program and in every row, IS THE sha256 OF THE DUMP (.gsa) THAT YtnndhafldmkdeaaProg.lean LOADS. Nothing in Lean hashes anything: it is a label: what it is worth is what the hold of that sum in a sandbox is worth. -/
noncomputable def Try.pinned : Pinned := { name := "ytnndhafldmkdeaa", sum := "a35dea406110ff7c7cba93b12cdb50eba57dbe6c4ac88d133c1506e58f0a5791", checked := Try.checked }
namespace Rows
def none {H : Type} : Left H := { results := [], args := [] }

/-- 'laws.FnExactTurnRing': WHATEVER THE INPUT: true; the input reads as it did. -/
def fnExactTurnRingSpec : ChangeSpec := { name := "fnExactTurnRing", fn := fun _ => fun
  | [d1, d2] => { results := [.lit (.bool true)], args := [d1, d2] }
  | _ => none }
def fnExactTurnRingRow : OpenClaim := { program := "ytnndhafldmkdeaa", sum := "a35dea406110ff7c7cba93b12cdb50eba57dbe6c4ac88d133c1506e58f0a5791", func := "loop.example/g01381/laws.FnExactTurnRing", spec := "fnExactTurnRing", plainKeys := false, apart := false }
def FnExactTurnRingSaid : Prop := fnExactTurnRingRow.holds Try.pinned (OpenSpec.ofChange fnExactTurnRingSpec)

/-- ITS FALSE NEIGHBOUR: 'it returns false'. Refute it at one input. -/
def fnExactTurnRingWrong : ChangeSpec := { name := "fnExactTurnRing", fn := fun _ => fun
  | [d1, d2] => { results := [.lit (.bool false)], args := [d1, d2] }
  | _ => none }
def FnExactTurnRingWrongFalsely : Prop := fnExactTurnRingRow.holds Try.pinned (OpenSpec.ofChange fnExactTurnRingWrong)

/-- 'laws.FnExactLeastTurn': WHATEVER THE INPUT: true; the input reads as it did. -/
def fnExactLeastTurnSpec : ChangeSpec := { name := "fnExactLeastTurn", fn := fun _ => fun
  | [d] => { results := [.lit (.bool true)], args := [d] }
  | _ => none }
def fnExactLeastTurnRow : OpenClaim := { program := "ytnndhafldmkdeaa", sum := "a35dea406110ff7c7cba93b12cdb50eba57dbe6c4ac88d133c1506e58f0a5791", func := "loop.example/g01381/laws.FnExactLeastTurn", spec := "fnExactLeastTurn", plainKeys := false, apart := false }
def FnExactLeastTurnSaid : Prop := fnExactLeastTurnRow.holds Try.pinned (OpenSpec.ofChange fnExactLeastTurnSpec)

/-- ITS FALSE NEIGHBOUR: 'it returns false'. Refute it at one input. -/
def fnExactLeastTurnWrong : ChangeSpec := { name := "fnExactLeastTurn", fn := fun _ => fun
  | [d] => { results := [.lit (.bool false)], args := [d] }
  | _ => none }
def FnExactLeastTurnWrongFalsely : Prop := fnExactLeastTurnRow.holds Try.pinned (OpenSpec.ofChange fnExactLeastTurnWrong)

/-- 'laws.FnExactEnergyOf': WHATEVER THE INPUT: true; the input reads as it did. -/
def fnExactEnergyOfSpec : ChangeSpec := { name := "fnExactEnergyOf", fn := fun _ => fun
  | [d] => { results := [.lit (.bool true)], args := [d] }
  | _ => none }
def fnExactEnergyOfRow : OpenClaim := { program := "ytnndhafldmkdeaa", sum := "a35dea406110ff7c7cba93b12cdb50eba57dbe6c4ac88d133c1506e58f0a5791", func := "loop.example/g01381/laws.FnExactEnergyOf", spec := "fnExactEnergyOf", plainKeys := false, apart := false }
def FnExactEnergyOfSaid : Prop := fnExactEnergyOfRow.holds Try.pinned (OpenSpec.ofChange fnExactEnergyOfSpec)

/-- ITS FALSE NEIGHBOUR: 'it returns false'. Refute it at one input. -/
def fnExactEnergyOfWrong : ChangeSpec := { name := "fnExactEnergyOf", fn := fun _ => fun
  | [d] => { results := [.lit (.bool false)], args := [d] }
  | _ => none }
def FnExactEnergyOfWrongFalsely : Prop := fnExactEnergyOfRow.holds Try.pinned (OpenSpec.ofChange fnExactEnergyOfWrong)

/-- 'laws.FnExactGrowField': WHATEVER THE INPUT: true; the input reads as it did. -/
def fnExactGrowFieldSpec : ChangeSpec := { name := "fnExactGrowField", fn := fun _ => fun
  | [d1, d2] => { results := [.lit (.bool true)], args := [d1, d2] }
  | _ => none }
def fnExactGrowFieldRow : OpenClaim := { program := "ytnndhafldmkdeaa", sum := "a35dea406110ff7c7cba93b12cdb50eba57dbe6c4ac88d133c1506e58f0a5791", func := "loop.example/g01381/laws.FnExactGrowField", spec := "fnExactGrowField", unfollowed := true, recurses := true, plainKeys := false, apart := false }
def FnExactGrowFieldSaid : Prop := fnExactGrowFieldRow.holds Try.pinned (OpenSpec.ofChange fnExactGrowFieldSpec)

/-- ITS FALSE NEIGHBOUR: 'it returns false'. Refute it at one input. -/
def fnExactGrowFieldWrong : ChangeSpec := { name := "fnExactGrowField", fn := fun _ => fun
  | [d1, d2] => { results := [.lit (.bool false)], args := [d1, d2] }
  | _ => none }
def FnExactGrowFieldWrongFalsely : Prop := fnExactGrowFieldRow.holds Try.pinned (OpenSpec.ofChange fnExactGrowFieldWrong)

/-- 'laws.FnExactTrimField': WHATEVER THE INPUT: true; the input reads as it did. -/
def fnExactTrimFieldSpec : ChangeSpec := { name := "fnExactTrimField", fn := fun _ => fun
  | [d] => { results := [.lit (.bool true)], args := [d] }
  | _ => none }
def fnExactTrimFieldRow : OpenClaim := { program := "ytnndhafldmkdeaa", sum := "a35dea406110ff7c7cba93b12cdb50eba57dbe6c4ac88d133c1506e58f0a5791", func := "loop.example/g01381/laws.FnExactTrimField", spec := "fnExactTrimField", unfollowed := true, recurses := true, plainKeys := false, apart := false }
def FnExactTrimFieldSaid : Prop := fnExactTrimFieldRow.holds Try.pinned (OpenSpec.ofChange fnExactTrimFieldSpec)

/-- ITS FALSE NEIGHBOUR: 'it returns false'. Refute it at one input. -/
def fnExactTrimFieldWrong : ChangeSpec := { name := "fnExactTrimField", fn := fun _ => fun
  | [d] => { results := [.lit (.bool false)], args := [d] }
  | _ => none }
def FnExactTrimFieldWrongFalsely : Prop := fnExactTrimFieldRow.holds Try.pinned (OpenSpec.ofChange fnExactTrimFieldWrong)

/-- 'laws.FnExactMeetFields': WHATEVER THE INPUT: true; the input reads as it did. -/
def fnExactMeetFieldsSpec : ChangeSpec := { name := "fnExactMeetFields", fn := fun _ => fun
  | [d1, d2, d3, d4] => { results := [.lit (.bool true)], args := [d1, d2, d3, d4] }
  | _ => none }
def fnExactMeetFieldsRow : OpenClaim := { program := "ytnndhafldmkdeaa", sum := "a35dea406110ff7c7cba93b12cdb50eba57dbe6c4ac88d133c1506e58f0a5791", func := "loop.example/g01381/laws.FnExactMeetFields", spec := "fnExactMeetFields", unfollowed := true, recurses := true, plainKeys := false, apart := false }
def FnExactMeetFieldsSaid : Prop := fnExactMeetFieldsRow.holds Try.pinned (OpenSpec.ofChange fnExactMeetFieldsSpec)

/-- ITS FALSE NEIGHBOUR: 'it returns false'. Refute it at one input. -/
def fnExactMeetFieldsWrong : ChangeSpec := { name := "fnExactMeetFields", fn := fun _ => fun
  | [d1, d2, d3, d4] => { results := [.lit (.bool false)], args := [d1, d2, d3, d4] }
  | _ => none }
def FnExactMeetFieldsWrongFalsely : Prop := fnExactMeetFieldsRow.holds Try.pinned (OpenSpec.ofChange fnExactMeetFieldsWrong)

/-- 'laws.FnExactImagesOfField': WHATEVER THE INPUT: true; the input reads as it did. -/
def fnExactImagesOfFieldSpec : ChangeSpec := { name := "fnExactImagesOfField", fn := fun _ => fun
  | [d] => { results := [.lit (.bool true)], args := [d] }
  | _ => none }
def fnExactImagesOfFieldRow : OpenClaim := { program := "ytnndhafldmkdeaa", sum := "a35dea406110ff7c7cba93b12cdb50eba57dbe6c4ac88d133c1506e58f0a5791", func := "loop.example/g01381/laws.FnExactImagesOfField", spec := "fnExactImagesOfField", unfollowed := true, recurses := true, plainKeys := false, apart := false }
def FnExactImagesOfFieldSaid : Prop := fnExactImagesOfFieldRow.holds Try.pinned (OpenSpec.ofChange fnExactImagesOfFieldSpec)

/-- ITS FALSE NEIGHBOUR: 'it returns false'. Refute it at one input. -/
def fnExactImagesOfFieldWrong : ChangeSpec := { name := "fnExactImagesOfField", fn := fun _ => fun
  | [d] => { results := [.lit (.bool false)], args := [d] }
  | _ => none }
def FnExactImagesOfFieldWrongFalsely : Prop := fnExactImagesOfFieldRow.holds Try.pinned (OpenSpec.ofChange fnExactImagesOfFieldWrong)

/-- 'laws.FnExactQuarterTree': WHATEVER THE INPUT: true; the input reads as it did. -/
def fnExactQuarterTreeSpec : ChangeSpec := { name := "fnExactQuarterTree", fn := fun _ => fun
  | [d] => { results := [.lit (.bool true)], args := [d] }
  | _ => none }
def fnExactQuarterTreeRow : OpenClaim := { program := "ytnndhafldmkdeaa", sum := "a35dea406110ff7c7cba93b12cdb50eba57dbe6c4ac88d133c1506e58f0a5791", func := "loop.example/g01381/laws.FnExactQuarterTree", spec := "fnExactQuarterTree", unfollowed := true, recurses := true, plainKeys := false, apart := false }
def FnExactQuarterTreeSaid : Prop := fnExactQuarterTreeRow.holds Try.pinned (OpenSpec.ofChange fnExactQuarterTreeSpec)

/-- ITS FALSE NEIGHBOUR: 'it returns false'. Refute it at one input. -/
def fnExactQuarterTreeWrong : ChangeSpec := { name := "fnExactQuarterTree", fn := fun _ => fun
  | [d] => { results := [.lit (.bool false)], args := [d] }
  | _ => none }
def FnExactQuarterTreeWrongFalsely : Prop := fnExactQuarterTreeRow.holds Try.pinned (OpenSpec.ofChange fnExactQuarterTreeWrong)

/- THE SECOND FORM. 'bulk': how many values and letters a reading holds, each counted each time it is reached (what is shared counts as often as it is met; a slice's spare places count too). A statement '..UptoSaid' is the law's where the arguments, and the package variables that the reading takes, are together of bulk at most 1048576: NARROWER than '..Said'. Prove '..Said' where nothing that the law and all that it calls make is longer than what came in: it says more and counts as full. Else prove '..UptoSaid'. A law counts once. -/
mutual
def uptoBulk {H : Type} : DataW H → Nat
  | .lit (.string bytes) => bytes.length + 1
  | .lit _ => 1
  | .nil => 1
  | .ptr d => uptoBulk d + 1
  | .slice elems spare => uptoBulkAll elems + uptoBulkAll spare + 1
  | .agg parts => uptoBulkAll parts + 1
  | .iface _ d => uptoBulk d + 1
  | .map entries => uptoBulkEntries entries + 1
  | .held _ => 1
def uptoBulkAll {H : Type} : List (DataW H) → Nat
  | [] => 0
  | d :: r => uptoBulk d + uptoBulkAll r
def uptoBulkEntries {H : Type} : List (Lit × DataW H) → Nat
  | [] => 0
  | x :: r => uptoBulkEntry x + uptoBulkEntries r
def uptoBulkEntry {H : Type} : Lit × DataW H → Nat
  | (.string bytes, d) => bytes.length + uptoBulk d + 1
  | (_, d) => uptoBulk d + 1
 end
def uptoSmall : (H : Type) → List (DataW H) → Bool := fun _ ds => decide (uptoBulkAll ds ≤ 1048576)
def OpenSpec.upto (s : _root_.Go.ChangeSpec) : _root_.Go.OpenSpec := { _root_.Go.OpenSpec.ofChange s with cond := some uptoSmall }

/-- 'laws.FnExactTurnRing', WHERE WHAT IT READS IS OF BULK AT MOST 1048576: true; the input reads as it did. -/
def fnExactTurnRingUptoRow : OpenClaim := { program := "ytnndhafldmkdeaa", sum := "a35dea406110ff7c7cba93b12cdb50eba57dbe6c4ac88d133c1506e58f0a5791", func := "loop.example/g01381/laws.FnExactTurnRing", spec := "fnExactTurnRing", plainKeys := false, apart := false, narrowed := true }
def FnExactTurnRingUptoSaid : Prop := fnExactTurnRingUptoRow.holds Try.pinned (OpenSpec.upto fnExactTurnRingSpec)

/-- 'laws.FnExactLeastTurn', WHERE WHAT IT READS IS OF BULK AT MOST 1048576: true; the input reads as it did. -/
def fnExactLeastTurnUptoRow : OpenClaim := { program := "ytnndhafldmkdeaa", sum := "a35dea406110ff7c7cba93b12cdb50eba57dbe6c4ac88d133c1506e58f0a5791", func := "loop.example/g01381/laws.FnExactLeastTurn", spec := "fnExactLeastTurn", plainKeys := false, apart := false, narrowed := true }
def FnExactLeastTurnUptoSaid : Prop := fnExactLeastTurnUptoRow.holds Try.pinned (OpenSpec.upto fnExactLeastTurnSpec)

/-- 'laws.FnExactEnergyOf', WHERE WHAT IT READS IS OF BULK AT MOST 1048576: true; the input reads as it did. -/
def fnExactEnergyOfUptoRow : OpenClaim := { program := "ytnndhafldmkdeaa", sum := "a35dea406110ff7c7cba93b12cdb50eba57dbe6c4ac88d133c1506e58f0a5791", func := "loop.example/g01381/laws.FnExactEnergyOf", spec := "fnExactEnergyOf", plainKeys := false, apart := false, narrowed := true }
def FnExactEnergyOfUptoSaid : Prop := fnExactEnergyOfUptoRow.holds Try.pinned (OpenSpec.upto fnExactEnergyOfSpec)

/-- 'laws.FnExactGrowField', WHERE WHAT IT READS IS OF BULK AT MOST 1048576: true; the input reads as it did. -/
def fnExactGrowFieldUptoRow : OpenClaim := { program := "ytnndhafldmkdeaa", sum := "a35dea406110ff7c7cba93b12cdb50eba57dbe6c4ac88d133c1506e58f0a5791", func := "loop.example/g01381/laws.FnExactGrowField", spec := "fnExactGrowField", unfollowed := true, recurses := true, plainKeys := false, apart := false, narrowed := true }
def FnExactGrowFieldUptoSaid : Prop := fnExactGrowFieldUptoRow.holds Try.pinned (OpenSpec.upto fnExactGrowFieldSpec)

/-- 'laws.FnExactTrimField', WHERE WHAT IT READS IS OF BULK AT MOST 1048576: true; the input reads as it did. -/
def fnExactTrimFieldUptoRow : OpenClaim := { program := "ytnndhafldmkdeaa", sum := "a35dea406110ff7c7cba93b12cdb50eba57dbe6c4ac88d133c1506e58f0a5791", func := "loop.example/g01381/laws.FnExactTrimField", spec := "fnExactTrimField", unfollowed := true, recurses := true, plainKeys := false, apart := false, narrowed := true }
def FnExactTrimFieldUptoSaid : Prop := fnExactTrimFieldUptoRow.holds Try.pinned (OpenSpec.upto fnExactTrimFieldSpec)

/-- 'laws.FnExactMeetFields', WHERE WHAT IT READS IS OF BULK AT MOST 1048576: true; the input reads as it did. -/
def fnExactMeetFieldsUptoRow : OpenClaim := { program := "ytnndhafldmkdeaa", sum := "a35dea406110ff7c7cba93b12cdb50eba57dbe6c4ac88d133c1506e58f0a5791", func := "loop.example/g01381/laws.FnExactMeetFields", spec := "fnExactMeetFields", unfollowed := true, recurses := true, plainKeys := false, apart := false, narrowed := true }
def FnExactMeetFieldsUptoSaid : Prop := fnExactMeetFieldsUptoRow.holds Try.pinned (OpenSpec.upto fnExactMeetFieldsSpec)

/-- 'laws.FnExactImagesOfField', WHERE WHAT IT READS IS OF BULK AT MOST 1048576: true; the input reads as it did. -/
def fnExactImagesOfFieldUptoRow : OpenClaim := { program := "ytnndhafldmkdeaa", sum := "a35dea406110ff7c7cba93b12cdb50eba57dbe6c4ac88d133c1506e58f0a5791", func := "loop.example/g01381/laws.FnExactImagesOfField", spec := "fnExactImagesOfField", unfollowed := true, recurses := true, plainKeys := false, apart := false, narrowed := true }
def FnExactImagesOfFieldUptoSaid : Prop := fnExactImagesOfFieldUptoRow.holds Try.pinned (OpenSpec.upto fnExactImagesOfFieldSpec)

/-- 'laws.FnExactQuarterTree', WHERE WHAT IT READS IS OF BULK AT MOST 1048576: true; the input reads as it did. -/
def fnExactQuarterTreeUptoRow : OpenClaim := { program := "ytnndhafldmkdeaa", sum := "a35dea406110ff7c7cba93b12cdb50eba57dbe6c4ac88d133c1506e58f0a5791", func := "loop.example/g01381/laws.FnExactQuarterTree", spec := "fnExactQuarterTree", unfollowed := true, recurses := true, plainKeys := false, apart := false, narrowed := true }
def FnExactQuarterTreeUptoSaid : Prop := fnExactQuarterTreeUptoRow.holds Try.pinned (OpenSpec.upto fnExactQuarterTreeSpec)

end Rows
end Go.Proofs.Ytnndhafldmkdeaa
