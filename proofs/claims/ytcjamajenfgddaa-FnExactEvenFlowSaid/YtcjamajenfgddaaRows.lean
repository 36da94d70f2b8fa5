/-
  No cell of these rows narrows 'for every input' (looked for: loops, veiled, ifaces, maps, wideKeys, modest, calm, conditions, laid).
  DERIVED. THE GIVEN ROWS OF THIS SEAT. 6 by the template 'for every input the law returns true; each argument reads behind the call as it read before'; 0 by the template 'total and deterministic' (their statements: YtcjamajenfgddaaTotals.lean).
  GIVEN WITH THE SEED: the statements are not yours to turn. If you find one false, say at which input.
  Laid BY PROGRAM, IN A SANDBOX (cutbox-rows.mjs): the forced cells as the released guide's own fill.sh prints them over the translation 11da78a10b874695… (all of the seat's roots in one cut). By AI agents, Wed Nov 11 2026. No macro, syntax, notation, axiom, sorry.
-/
import Derived.Test.YtcjamajenfgddaaChecked
import GoSem.Claim
import GoSem.ClaimJoined
import GoSem.ClaimMapViews
import Derived.JoinedTies
import Derived.KernelRfl
namespace Go.Proofs.Ytcjamajenfgddaa
/- THE CELL 'sum', in the pinned program and in every row, IS THE sha256 OF THE DUMP (.gsa) THAT YtcjamajenfgddaaProg.lean LOADS. Nothing in Lean hashes anything: it is a label: what it is worth is what the hold of that sum in a sandbox is worth. -/
noncomputable def Try.pinned : Pinned := { name := "ytcjamajenfgddaa", sum := "11da78a10b874695a75f52c4476d1830a659112e90df3f72fdae4b3130a17970", checked := Try.checked }
namespace Rows
def none {H : Type} : Left H := { results := [], args := [] }

/-- 'laws.FnExactValidFlow': WHATEVER THE INPUT: true; the input reads as it did. -/
def fnExactValidFlowSpec : ChangeSpec := { name := "fnExactValidFlow", fn := fun _ => fun
  | [d] => { results := [.lit (.bool true)], args := [d] }
  | _ => none }
def fnExactValidFlowRow : OpenClaim := { program := "ytcjamajenfgddaa", sum := "11da78a10b874695a75f52c4476d1830a659112e90df3f72fdae4b3130a17970", func := "loop.example/g01381/laws.FnExactValidFlow", spec := "fnExactValidFlow", unfollowed := true, recurses := true, apart := false }
def FnExactValidFlowSaid : Prop := fnExactValidFlowRow.holds Try.pinned (OpenSpec.ofChange fnExactValidFlowSpec)

/-- ITS FALSE NEIGHBOUR: 'it returns false'. Refute it at one input. -/
def fnExactValidFlowWrong : ChangeSpec := { name := "fnExactValidFlow", fn := fun _ => fun
  | [d] => { results := [.lit (.bool false)], args := [d] }
  | _ => none }
def FnExactValidFlowWrongFalsely : Prop := fnExactValidFlowRow.holds Try.pinned (OpenSpec.ofChange fnExactValidFlowWrong)

/-- 'laws.FnExactSameFlow': WHATEVER THE INPUT: true; the input reads as it did. -/
def fnExactSameFlowSpec : ChangeSpec := { name := "fnExactSameFlow", fn := fun _ => fun
  | [d1, d2] => { results := [.lit (.bool true)], args := [d1, d2] }
  | _ => none }
def fnExactSameFlowRow : OpenClaim := { program := "ytcjamajenfgddaa", sum := "11da78a10b874695a75f52c4476d1830a659112e90df3f72fdae4b3130a17970", func := "loop.example/g01381/laws.FnExactSameFlow", spec := "fnExactSameFlow", inPlace := ["math.Float32bits", "math.Float64bits"], unfollowed := true, recurses := true, apart := false }
def FnExactSameFlowSaid : Prop := fnExactSameFlowRow.holds Try.pinned (OpenSpec.ofChange fnExactSameFlowSpec)

/-- ITS FALSE NEIGHBOUR: 'it returns false'. Refute it at one input. -/
def fnExactSameFlowWrong : ChangeSpec := { name := "fnExactSameFlow", fn := fun _ => fun
  | [d1, d2] => { results := [.lit (.bool false)], args := [d1, d2] }
  | _ => none }
def FnExactSameFlowWrongFalsely : Prop := fnExactSameFlowRow.holds Try.pinned (OpenSpec.ofChange fnExactSameFlowWrong)

/-- 'laws.FnExactMassOf': WHATEVER THE INPUT: true; the input reads as it did. -/
def fnExactMassOfSpec : ChangeSpec := { name := "fnExactMassOf", fn := fun _ => fun
  | [d] => { results := [.lit (.bool true)], args := [d] }
  | _ => none }
def fnExactMassOfRow : OpenClaim := { program := "ytcjamajenfgddaa", sum := "11da78a10b874695a75f52c4476d1830a659112e90df3f72fdae4b3130a17970", func := "loop.example/g01381/laws.FnExactMassOf", spec := "fnExactMassOf", unfollowed := true, recurses := true, apart := false }
def FnExactMassOfSaid : Prop := fnExactMassOfRow.holds Try.pinned (OpenSpec.ofChange fnExactMassOfSpec)

/-- ITS FALSE NEIGHBOUR: 'it returns false'. Refute it at one input. -/
def fnExactMassOfWrong : ChangeSpec := { name := "fnExactMassOf", fn := fun _ => fun
  | [d] => { results := [.lit (.bool false)], args := [d] }
  | _ => none }
def FnExactMassOfWrongFalsely : Prop := fnExactMassOfRow.holds Try.pinned (OpenSpec.ofChange fnExactMassOfWrong)

/-- 'laws.FnExactCellOfFlow': WHATEVER THE INPUT: true; the input reads as it did. -/
def fnExactCellOfFlowSpec : ChangeSpec := { name := "fnExactCellOfFlow", fn := fun _ => fun
  | [d1, d2, d3] => { results := [.lit (.bool true)], args := [d1, d2, d3] }
  | _ => none }
def fnExactCellOfFlowRow : OpenClaim := { program := "ytcjamajenfgddaa", sum := "11da78a10b874695a75f52c4476d1830a659112e90df3f72fdae4b3130a17970", func := "loop.example/g01381/laws.FnExactCellOfFlow", spec := "fnExactCellOfFlow", unfollowed := true, recurses := true, apart := false }
def FnExactCellOfFlowSaid : Prop := fnExactCellOfFlowRow.holds Try.pinned (OpenSpec.ofChange fnExactCellOfFlowSpec)

/-- ITS FALSE NEIGHBOUR: 'it returns false'. Refute it at one input. -/
def fnExactCellOfFlowWrong : ChangeSpec := { name := "fnExactCellOfFlow", fn := fun _ => fun
  | [d1, d2, d3] => { results := [.lit (.bool false)], args := [d1, d2, d3] }
  | _ => none }
def FnExactCellOfFlowWrongFalsely : Prop := fnExactCellOfFlowRow.holds Try.pinned (OpenSpec.ofChange fnExactCellOfFlowWrong)

/-- 'laws.FnExactEvenFlow': WHATEVER THE INPUT: true; the input reads as it did. -/
def fnExactEvenFlowSpec : ChangeSpec := { name := "fnExactEvenFlow", fn := fun _ => fun
  | [d1, d2, d3, d4, d5] => { results := [.lit (.bool true)], args := [d1, d2, d3, d4, d5] }
  | _ => none }
def fnExactEvenFlowRow : OpenClaim := { program := "ytcjamajenfgddaa", sum := "11da78a10b874695a75f52c4476d1830a659112e90df3f72fdae4b3130a17970", func := "loop.example/g01381/laws.FnExactEvenFlow", spec := "fnExactEvenFlow", unfollowed := true, recurses := true, apart := false }
def FnExactEvenFlowSaid : Prop := fnExactEvenFlowRow.holds Try.pinned (OpenSpec.ofChange fnExactEvenFlowSpec)

/-- ITS FALSE NEIGHBOUR: 'it returns false'. Refute it at one input. -/
def fnExactEvenFlowWrong : ChangeSpec := { name := "fnExactEvenFlow", fn := fun _ => fun
  | [d1, d2, d3, d4, d5] => { results := [.lit (.bool false)], args := [d1, d2, d3, d4, d5] }
  | _ => none }
def FnExactEvenFlowWrongFalsely : Prop := fnExactEvenFlowRow.holds Try.pinned (OpenSpec.ofChange fnExactEvenFlowWrong)

/-- 'laws.FnFlows': WHATEVER THE INPUT: true; the input reads as it did. -/
def fnFlowsSpec : ChangeSpec := { name := "fnFlows", fn := fun _ => fun
  | [d1, d2] => { results := [.lit (.bool true)], args := [d1, d2] }
  | _ => none }
def fnFlowsRow : OpenClaim := { program := "ytcjamajenfgddaa", sum := "11da78a10b874695a75f52c4476d1830a659112e90df3f72fdae4b3130a17970", func := "loop.example/g01381/laws.FnFlows", spec := "fnFlows", unfollowed := true, recurses := true, apart := false }
def FnFlowsSaid : Prop := fnFlowsRow.holds Try.pinned (OpenSpec.ofChange fnFlowsSpec)

/-- ITS FALSE NEIGHBOUR: 'it returns false'. Refute it at one input. -/
def fnFlowsWrong : ChangeSpec := { name := "fnFlows", fn := fun _ => fun
  | [d1, d2] => { results := [.lit (.bool false)], args := [d1, d2] }
  | _ => none }
def FnFlowsWrongFalsely : Prop := fnFlowsRow.holds Try.pinned (OpenSpec.ofChange fnFlowsWrong)

/- THE SECOND FORM. 'bulk': how many values and letters a reading holds, each counted each time it is reached (what is shared counts as often as it is met; a slice's spare places count too). A statement '..UptoSaid' is the law's where the arguments, and the package variables that the reading takes, are together of bulk at most 1048576: NARROWER than '..Said'. Prove '..Said' where nothing that the law and all that it calls make is longer than what came in: it says more and counts as full. Else prove '..UptoSaid'. A law counts once. -/
mutual
def uptoBulk {H : Type} : DataW H → Nat
  | .lit (.string bytes) => bytes.length + 1
  | .lit _ => 1
  | .nil => 1
  | .ptr d => uptoBulk d + 1
  | .slice elems spare => uptoBulkAll elems + uptoBulkAll spare + 1
  | .agg parts => uptoBulkAll parts + 1
  | .iface _ d => uptoBulk d + 1
  | .map entries => uptoBulkEntries entries + 1
  | .held _ => 1
def uptoBulkAll {H : Type} : List (DataW H) → Nat
  | [] => 0
  | d :: r => uptoBulk d + uptoBulkAll r
def uptoBulkEntries {H : Type} : List (Lit × DataW H) → Nat
  | [] => 0
  | x :: r => uptoBulkEntry x + uptoBulkEntries r
def uptoBulkEntry {H : Type} : Lit × DataW H → Nat
  | (.string bytes, d) => bytes.length + uptoBulk d + 1
  | (_, d) => uptoBulk d + 1
 end
def uptoSmall : (H : Type) → List (DataW H) → Bool := fun _ ds => decide (uptoBulkAll ds ≤ 1048576)
def OpenSpec.upto (s : _root_.Go.ChangeSpec) : _root_.Go.OpenSpec := { _root_.Go.OpenSpec.ofChange s with cond := some uptoSmall }

/-- 'laws.FnExactValidFlow', WHERE WHAT IT READS IS OF BULK AT MOST 1048576: true; the input reads as it did. -/
def fnExactValidFlowUptoRow : OpenClaim := { program := "ytcjamajenfgddaa", sum := "11da78a10b874695a75f52c4476d1830a659112e90df3f72fdae4b3130a17970", func := "loop.example/g01381/laws.FnExactValidFlow", spec := "fnExactValidFlow", unfollowed := true, recurses := true, apart := false, narrowed := true }
def FnExactValidFlowUptoSaid : Prop := fnExactValidFlowUptoRow.holds Try.pinned (OpenSpec.upto fnExactValidFlowSpec)

/-- 'laws.FnExactSameFlow', WHERE WHAT IT READS IS OF BULK AT MOST 1048576: true; the input reads as it did. -/
def fnExactSameFlowUptoRow : OpenClaim := { program := "ytcjamajenfgddaa", sum := "11da78a10b874695a75f52c4476d1830a659112e90df3f72fdae4b3130a17970", func := "loop.example/g01381/laws.FnExactSameFlow", spec := "fnExactSameFlow", inPlace := ["math.Float32bits", "math.Float64bits"], unfollowed := true, recurses := true, apart := false, narrowed := true }
def FnExactSameFlowUptoSaid : Prop := fnExactSameFlowUptoRow.holds Try.pinned (OpenSpec.upto fnExactSameFlowSpec)

/-- 'laws.FnExactMassOf', WHERE WHAT IT READS IS OF BULK AT MOST 1048576: true; the input reads as it did. -/
def fnExactMassOfUptoRow : OpenClaim := { program := "ytcjamajenfgddaa", sum := "11da78a10b874695a75f52c4476d1830a659112e90df3f72fdae4b3130a17970", func := "loop.example/g01381/laws.FnExactMassOf", spec := "fnExactMassOf", unfollowed := true, recurses := true, apart := false, narrowed := true }
def FnExactMassOfUptoSaid : Prop := fnExactMassOfUptoRow.holds Try.pinned (OpenSpec.upto fnExactMassOfSpec)

/-- 'laws.FnExactCellOfFlow', WHERE WHAT IT READS IS OF BULK AT MOST 1048576: true; the input reads as it did. -/
def fnExactCellOfFlowUptoRow : OpenClaim := { program := "ytcjamajenfgddaa", sum := "11da78a10b874695a75f52c4476d1830a659112e90df3f72fdae4b3130a17970", func := "loop.example/g01381/laws.FnExactCellOfFlow", spec := "fnExactCellOfFlow", unfollowed := true, recurses := true, apart := false, narrowed := true }
def FnExactCellOfFlowUptoSaid : Prop := fnExactCellOfFlowUptoRow.holds Try.pinned (OpenSpec.upto fnExactCellOfFlowSpec)

/-- 'laws.FnExactEvenFlow', WHERE WHAT IT READS IS OF BULK AT MOST 1048576: true; the input reads as it did. -/
def fnExactEvenFlowUptoRow : OpenClaim := { program := "ytcjamajenfgddaa", sum := "11da78a10b874695a75f52c4476d1830a659112e90df3f72fdae4b3130a17970", func := "loop.example/g01381/laws.FnExactEvenFlow", spec := "fnExactEvenFlow", unfollowed := true, recurses := true, apart := false, narrowed := true }
def FnExactEvenFlowUptoSaid : Prop := fnExactEvenFlowUptoRow.holds Try.pinned (OpenSpec.upto fnExactEvenFlowSpec)

/-- 'laws.FnFlows', WHERE WHAT IT READS IS OF BULK AT MOST 1048576: true; the input reads as it did. -/
def fnFlowsUptoRow : OpenClaim := { program := "ytcjamajenfgddaa", sum := "11da78a10b874695a75f52c4476d1830a659112e90df3f72fdae4b3130a17970", func := "loop.example/g01381/laws.FnFlows", spec := "fnFlows", unfollowed := true, recurses := true, apart := false, narrowed := true }
def FnFlowsUptoSaid : Prop := fnFlowsUptoRow.holds Try.pinned (OpenSpec.upto fnFlowsSpec)

end Rows
end Go.Proofs.Ytcjamajenfgddaa
