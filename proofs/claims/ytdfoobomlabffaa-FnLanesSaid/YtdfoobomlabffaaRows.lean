/-
  No cell of these rows narrows 'for every input' (looked for: loops, veiled, ifaces, maps, wideKeys, modest, calm, conditions, laid).
  DERIVED. THE GIVEN ROWS OF THIS SEAT. 11 by the template 'for every input the law returns true; each argument reads behind the call as it read before'; 0 by the template 'total and deterministic' (their statements: YtdfoobomlabffaaTotals.lean).
  GIVEN WITH THE SEED: the statements are not yours to turn. If you find one false, say at which input.
  Laid BY PROGRAM, IN A SANDBOX (cutbox-rows.mjs): the forced cells as the released guide's own fill.sh prints them over the translation 4145f8035b8aeca7… (all of the seat's roots in one cut). By AI agents, Wed Nov 11 2026. No macro, syntax, notation, axiom, sorry.
-/
import Derived.Test.YtdfoobomlabffaaChecked
import GoSem.Claim
import GoSem.ClaimJoined
import GoSem.ClaimMapViews
import Derived.JoinedTies
import Derived.KernelRfl
namespace Go.Proofs.Ytdfoobomlabffaa
/- THE CELL 'sum', in the pinned program and in every row, IS THE sha256 OF THE DUMP (.gsa) THAT YtdfoobomlabffaaProg.lean LOADS. Nothing in Lean hashes anything: it is a label: what it is worth is what the hold of that sum in a sandbox is worth. -/
noncomputable def Try.pinned : Pinned := { name := "ytdfoobomlabffaa", sum := "4145f8035b8aeca7b0515f6ce979acf273b5e9f24a4920f80f1f187fe725ad9a", checked := Try.checked }
namespace Rows
def none {H : Type} : Left H := { results := [], args := [] }

/-- 'laws.FnExactIsLane': WHATEVER THE INPUT: true; the input reads as it did. -/
def fnExactIsLaneSpec : ChangeSpec := { name := "fnExactIsLane", fn := fun _ => fun
  | [d] => { results := [.lit (.bool true)], args := [d] }
  | _ => none }
def fnExactIsLaneRow : OpenClaim := { program := "ytdfoobomlabffaa", sum := "4145f8035b8aeca7b0515f6ce979acf273b5e9f24a4920f80f1f187fe725ad9a", func := "loop.example/g01381/laws.FnExactIsLane", spec := "fnExactIsLane", apart := false }
def FnExactIsLaneSaid : Prop := fnExactIsLaneRow.holds Try.pinned (OpenSpec.ofChange fnExactIsLaneSpec)

/-- ITS FALSE NEIGHBOUR: 'it returns false'. Refute it at one input. -/
def fnExactIsLaneWrong : ChangeSpec := { name := "fnExactIsLane", fn := fun _ => fun
  | [d] => { results := [.lit (.bool false)], args := [d] }
  | _ => none }
def FnExactIsLaneWrongFalsely : Prop := fnExactIsLaneRow.holds Try.pinned (OpenSpec.ofChange fnExactIsLaneWrong)

/-- 'laws.FnExactLaneSpeed': WHATEVER THE INPUT: true; the input reads as it did. -/
def fnExactLaneSpeedSpec : ChangeSpec := { name := "fnExactLaneSpeed", fn := fun _ => fun
  | [d] => { results := [.lit (.bool true)], args := [d] }
  | _ => none }
def fnExactLaneSpeedRow : OpenClaim := { program := "ytdfoobomlabffaa", sum := "4145f8035b8aeca7b0515f6ce979acf273b5e9f24a4920f80f1f187fe725ad9a", func := "loop.example/g01381/laws.FnExactLaneSpeed", spec := "fnExactLaneSpeed", apart := false }
def FnExactLaneSpeedSaid : Prop := fnExactLaneSpeedRow.holds Try.pinned (OpenSpec.ofChange fnExactLaneSpeedSpec)

/-- ITS FALSE NEIGHBOUR: 'it returns false'. Refute it at one input. -/
def fnExactLaneSpeedWrong : ChangeSpec := { name := "fnExactLaneSpeed", fn := fun _ => fun
  | [d] => { results := [.lit (.bool false)], args := [d] }
  | _ => none }
def FnExactLaneSpeedWrongFalsely : Prop := fnExactLaneSpeedRow.holds Try.pinned (OpenSpec.ofChange fnExactLaneSpeedWrong)

/-- 'laws.FnExactSwitchLanes': WHATEVER THE INPUT: true; the input reads as it did. -/
def fnExactSwitchLanesSpec : ChangeSpec := { name := "fnExactSwitchLanes", fn := fun _ => fun
  | [d1, d2] => { results := [.lit (.bool true)], args := [d1, d2] }
  | _ => none }
def fnExactSwitchLanesRow : OpenClaim := { program := "ytdfoobomlabffaa", sum := "4145f8035b8aeca7b0515f6ce979acf273b5e9f24a4920f80f1f187fe725ad9a", func := "loop.example/g01381/laws.FnExactSwitchLanes", spec := "fnExactSwitchLanes", unfollowed := true, recurses := true, apart := false }
def FnExactSwitchLanesSaid : Prop := fnExactSwitchLanesRow.holds Try.pinned (OpenSpec.ofChange fnExactSwitchLanesSpec)

/-- ITS FALSE NEIGHBOUR: 'it returns false'. Refute it at one input. -/
def fnExactSwitchLanesWrong : ChangeSpec := { name := "fnExactSwitchLanes", fn := fun _ => fun
  | [d1, d2] => { results := [.lit (.bool false)], args := [d1, d2] }
  | _ => none }
def FnExactSwitchLanesWrongFalsely : Prop := fnExactSwitchLanesRow.holds Try.pinned (OpenSpec.ofChange fnExactSwitchLanesWrong)

/-- 'laws.FnExactLaneStep': WHATEVER THE INPUT: true; the input reads as it did. -/
def fnExactLaneStepSpec : ChangeSpec := { name := "fnExactLaneStep", fn := fun _ => fun
  | [d1, d2, d3, d4] => { results := [.lit (.bool true)], args := [d1, d2, d3, d4] }
  | _ => none }
def fnExactLaneStepRow : OpenClaim := { program := "ytdfoobomlabffaa", sum := "4145f8035b8aeca7b0515f6ce979acf273b5e9f24a4920f80f1f187fe725ad9a", func := "loop.example/g01381/laws.FnExactLaneStep", spec := "fnExactLaneStep", apart := false }
def FnExactLaneStepSaid : Prop := fnExactLaneStepRow.holds Try.pinned (OpenSpec.ofChange fnExactLaneStepSpec)

/-- ITS FALSE NEIGHBOUR: 'it returns false'. Refute it at one input. -/
def fnExactLaneStepWrong : ChangeSpec := { name := "fnExactLaneStep", fn := fun _ => fun
  | [d1, d2, d3, d4] => { results := [.lit (.bool false)], args := [d1, d2, d3, d4] }
  | _ => none }
def FnExactLaneStepWrongFalsely : Prop := fnExactLaneStepRow.holds Try.pinned (OpenSpec.ofChange fnExactLaneStepWrong)

/-- 'laws.FnLanes': WHATEVER THE INPUT: true; the input reads as it did. -/
def fnLanesSpec : ChangeSpec := { name := "fnLanes", fn := fun _ => fun
  | [d1, d2] => { results := [.lit (.bool true)], args := [d1, d2] }
  | _ => none }
def fnLanesRow : OpenClaim := { program := "ytdfoobomlabffaa", sum := "4145f8035b8aeca7b0515f6ce979acf273b5e9f24a4920f80f1f187fe725ad9a", func := "loop.example/g01381/laws.FnLanes", spec := "fnLanes", unfollowed := true, recurses := true, apart := false }
def FnLanesSaid : Prop := fnLanesRow.holds Try.pinned (OpenSpec.ofChange fnLanesSpec)

/-- ITS FALSE NEIGHBOUR: 'it returns false'. Refute it at one input. -/
def fnLanesWrong : ChangeSpec := { name := "fnLanes", fn := fun _ => fun
  | [d1, d2] => { results := [.lit (.bool false)], args := [d1, d2] }
  | _ => none }
def FnLanesWrongFalsely : Prop := fnLanesRow.holds Try.pinned (OpenSpec.ofChange fnLanesWrong)

/-- 'laws.FnExactValidGas': WHATEVER THE INPUT: true; the input reads as it did. -/
def fnExactValidGasSpec : ChangeSpec := { name := "fnExactValidGas", fn := fun _ => fun
  | [d] => { results := [.lit (.bool true)], args := [d] }
  | _ => none }
def fnExactValidGasRow : OpenClaim := { program := "ytdfoobomlabffaa", sum := "4145f8035b8aeca7b0515f6ce979acf273b5e9f24a4920f80f1f187fe725ad9a", func := "loop.example/g01381/laws.FnExactValidGas", spec := "fnExactValidGas", apart := false }
def FnExactValidGasSaid : Prop := fnExactValidGasRow.holds Try.pinned (OpenSpec.ofChange fnExactValidGasSpec)

/-- ITS FALSE NEIGHBOUR: 'it returns false'. Refute it at one input. -/
def fnExactValidGasWrong : ChangeSpec := { name := "fnExactValidGas", fn := fun _ => fun
  | [d] => { results := [.lit (.bool false)], args := [d] }
  | _ => none }
def FnExactValidGasWrongFalsely : Prop := fnExactValidGasRow.holds Try.pinned (OpenSpec.ofChange fnExactValidGasWrong)

/-- 'laws.FnExactSameGas': WHATEVER THE INPUT: true; the input reads as it did. -/
def fnExactSameGasSpec : ChangeSpec := { name := "fnExactSameGas", fn := fun _ => fun
  | [d1, d2] => { results := [.lit (.bool true)], args := [d1, d2] }
  | _ => none }
def fnExactSameGasRow : OpenClaim := { program := "ytdfoobomlabffaa", sum := "4145f8035b8aeca7b0515f6ce979acf273b5e9f24a4920f80f1f187fe725ad9a", func := "loop.example/g01381/laws.FnExactSameGas", spec := "fnExactSameGas", apart := false }
def FnExactSameGasSaid : Prop := fnExactSameGasRow.holds Try.pinned (OpenSpec.ofChange fnExactSameGasSpec)

/-- ITS FALSE NEIGHBOUR: 'it returns false'. Refute it at one input. -/
def fnExactSameGasWrong : ChangeSpec := { name := "fnExactSameGas", fn := fun _ => fun
  | [d1, d2] => { results := [.lit (.bool false)], args := [d1, d2] }
  | _ => none }
def FnExactSameGasWrongFalsely : Prop := fnExactSameGasRow.holds Try.pinned (OpenSpec.ofChange fnExactSameGasWrong)

/-- 'laws.FnExactWayOfGas': WHATEVER THE INPUT: true; the input reads as it did. -/
def fnExactWayOfGasSpec : ChangeSpec := { name := "fnExactWayOfGas", fn := fun _ => fun
  | [d] => { results := [.lit (.bool true)], args := [d] }
  | _ => none }
def fnExactWayOfGasRow : OpenClaim := { program := "ytdfoobomlabffaa", sum := "4145f8035b8aeca7b0515f6ce979acf273b5e9f24a4920f80f1f187fe725ad9a", func := "loop.example/g01381/laws.FnExactWayOfGas", spec := "fnExactWayOfGas", apart := false }
def FnExactWayOfGasSaid : Prop := fnExactWayOfGasRow.holds Try.pinned (OpenSpec.ofChange fnExactWayOfGasSpec)

/-- ITS FALSE NEIGHBOUR: 'it returns false'. Refute it at one input. -/
def fnExactWayOfGasWrong : ChangeSpec := { name := "fnExactWayOfGas", fn := fun _ => fun
  | [d] => { results := [.lit (.bool false)], args := [d] }
  | _ => none }
def FnExactWayOfGasWrongFalsely : Prop := fnExactWayOfGasRow.holds Try.pinned (OpenSpec.ofChange fnExactWayOfGasWrong)

/-- 'laws.FnExactCountGas': WHATEVER THE INPUT: true; the input reads as it did. -/
def fnExactCountGasSpec : ChangeSpec := { name := "fnExactCountGas", fn := fun _ => fun
  | [d] => { results := [.lit (.bool true)], args := [d] }
  | _ => none }
def fnExactCountGasRow : OpenClaim := { program := "ytdfoobomlabffaa", sum := "4145f8035b8aeca7b0515f6ce979acf273b5e9f24a4920f80f1f187fe725ad9a", func := "loop.example/g01381/laws.FnExactCountGas", spec := "fnExactCountGas", apart := false }
def FnExactCountGasSaid : Prop := fnExactCountGasRow.holds Try.pinned (OpenSpec.ofChange fnExactCountGasSpec)

/-- ITS FALSE NEIGHBOUR: 'it returns false'. Refute it at one input. -/
def fnExactCountGasWrong : ChangeSpec := { name := "fnExactCountGas", fn := fun _ => fun
  | [d] => { results := [.lit (.bool false)], args := [d] }
  | _ => none }
def FnExactCountGasWrongFalsely : Prop := fnExactCountGasRow.holds Try.pinned (OpenSpec.ofChange fnExactCountGasWrong)

/-- 'laws.FnExactDenseBlocks': WHATEVER THE INPUT: true; the input reads as it did. -/
def fnExactDenseBlocksSpec : ChangeSpec := { name := "fnExactDenseBlocks", fn := fun _ => fun
  | [d1, d2, d3] => { results := [.lit (.bool true)], args := [d1, d2, d3] }
  | _ => none }
def fnExactDenseBlocksRow : OpenClaim := { program := "ytdfoobomlabffaa", sum := "4145f8035b8aeca7b0515f6ce979acf273b5e9f24a4920f80f1f187fe725ad9a", func := "loop.example/g01381/laws.FnExactDenseBlocks", spec := "fnExactDenseBlocks", apart := false }
def FnExactDenseBlocksSaid : Prop := fnExactDenseBlocksRow.holds Try.pinned (OpenSpec.ofChange fnExactDenseBlocksSpec)

/-- ITS FALSE NEIGHBOUR: 'it returns false'. Refute it at one input. -/
def fnExactDenseBlocksWrong : ChangeSpec := { name := "fnExactDenseBlocks", fn := fun _ => fun
  | [d1, d2, d3] => { results := [.lit (.bool false)], args := [d1, d2, d3] }
  | _ => none }
def FnExactDenseBlocksWrongFalsely : Prop := fnExactDenseBlocksRow.holds Try.pinned (OpenSpec.ofChange fnExactDenseBlocksWrong)

/-- 'laws.FnExactReverseGas': WHATEVER THE INPUT: true; the input reads as it did. -/
def fnExactReverseGasSpec : ChangeSpec := { name := "fnExactReverseGas", fn := fun _ => fun
  | [d] => { results := [.lit (.bool true)], args := [d] }
  | _ => none }
def fnExactReverseGasRow : OpenClaim := { program := "ytdfoobomlabffaa", sum := "4145f8035b8aeca7b0515f6ce979acf273b5e9f24a4920f80f1f187fe725ad9a", func := "loop.example/g01381/laws.FnExactReverseGas", spec := "fnExactReverseGas", unfollowed := true, recurses := true, apart := false }
def FnExactReverseGasSaid : Prop := fnExactReverseGasRow.holds Try.pinned (OpenSpec.ofChange fnExactReverseGasSpec)

/-- ITS FALSE NEIGHBOUR: 'it returns false'. Refute it at one input. -/
def fnExactReverseGasWrong : ChangeSpec := { name := "fnExactReverseGas", fn := fun _ => fun
  | [d] => { results := [.lit (.bool false)], args := [d] }
  | _ => none }
def FnExactReverseGasWrongFalsely : Prop := fnExactReverseGasRow.holds Try.pinned (OpenSpec.ofChange fnExactReverseGasWrong)

/- THE SECOND FORM. 'bulk': how many values and letters a reading holds, each counted each time it is reached (what is shared counts as often as it is met; a slice's spare places count too). A statement '..UptoSaid' is the law's where the arguments, and the package variables that the reading takes, are together of bulk at most 1048576: NARROWER than '..Said'. Prove '..Said' where nothing that the law and all that it calls make is longer than what came in: it says more and counts as full. Else prove '..UptoSaid'. A law counts once. -/
mutual
def uptoBulk {H : Type} : DataW H → Nat
  | .lit (.string bytes) => bytes.length + 1
  | .lit _ => 1
  | .nil => 1
  | .ptr d => uptoBulk d + 1
  | .slice elems spare => uptoBulkAll elems + uptoBulkAll spare + 1
  | .agg parts => uptoBulkAll parts + 1
  | .iface _ d => uptoBulk d + 1
  | .map entries => uptoBulkEntries entries + 1
  | .held _ => 1
def uptoBulkAll {H : Type} : List (DataW H) → Nat
  | [] => 0
  | d :: r => uptoBulk d + uptoBulkAll r
def uptoBulkEntries {H : Type} : List (Lit × DataW H) → Nat
  | [] => 0
  | x :: r => uptoBulkEntry x + uptoBulkEntries r
def uptoBulkEntry {H : Type} : Lit × DataW H → Nat
  | (.string bytes, d) => bytes.length + uptoBulk d + 1
  | (_, d) => uptoBulk d + 1
 end
def uptoSmall : (H : Type) → List (DataW H) → Bool := fun _ ds => decide (uptoBulkAll ds ≤ 1048576)
def OpenSpec.upto (s : _root_.Go.ChangeSpec) : _root_.Go.OpenSpec := { _root_.Go.OpenSpec.ofChange s with cond := some uptoSmall }

/-- 'laws.FnExactIsLane', WHERE WHAT IT READS IS OF BULK AT MOST 1048576: true; the input reads as it did. -/
def fnExactIsLaneUptoRow : OpenClaim := { program := "ytdfoobomlabffaa", sum := "4145f8035b8aeca7b0515f6ce979acf273b5e9f24a4920f80f1f187fe725ad9a", func := "loop.example/g01381/laws.FnExactIsLane", spec := "fnExactIsLane", apart := false, narrowed := true }
def FnExactIsLaneUptoSaid : Prop := fnExactIsLaneUptoRow.holds Try.pinned (OpenSpec.upto fnExactIsLaneSpec)

/-- 'laws.FnExactLaneSpeed', WHERE WHAT IT READS IS OF BULK AT MOST 1048576: true; the input reads as it did. -/
def fnExactLaneSpeedUptoRow : OpenClaim := { program := "ytdfoobomlabffaa", sum := "4145f8035b8aeca7b0515f6ce979acf273b5e9f24a4920f80f1f187fe725ad9a", func := "loop.example/g01381/laws.FnExactLaneSpeed", spec := "fnExactLaneSpeed", apart := false, narrowed := true }
def FnExactLaneSpeedUptoSaid : Prop := fnExactLaneSpeedUptoRow.holds Try.pinned (OpenSpec.upto fnExactLaneSpeedSpec)

/-- 'laws.FnExactSwitchLanes', WHERE WHAT IT READS IS OF BULK AT MOST 1048576: true; the input reads as it did. -/
def fnExactSwitchLanesUptoRow : OpenClaim := { program := "ytdfoobomlabffaa", sum := "4145f8035b8aeca7b0515f6ce979acf273b5e9f24a4920f80f1f187fe725ad9a", func := "loop.example/g01381/laws.FnExactSwitchLanes", spec := "fnExactSwitchLanes", unfollowed := true, recurses := true, apart := false, narrowed := true }
def FnExactSwitchLanesUptoSaid : Prop := fnExactSwitchLanesUptoRow.holds Try.pinned (OpenSpec.upto fnExactSwitchLanesSpec)

/-- 'laws.FnExactLaneStep', WHERE WHAT IT READS IS OF BULK AT MOST 1048576: true; the input reads as it did. -/
def fnExactLaneStepUptoRow : OpenClaim := { program := "ytdfoobomlabffaa", sum := "4145f8035b8aeca7b0515f6ce979acf273b5e9f24a4920f80f1f187fe725ad9a", func := "loop.example/g01381/laws.FnExactLaneStep", spec := "fnExactLaneStep", apart := false, narrowed := true }
def FnExactLaneStepUptoSaid : Prop := fnExactLaneStepUptoRow.holds Try.pinned (OpenSpec.upto fnExactLaneStepSpec)

/-- 'laws.FnLanes', WHERE WHAT IT READS IS OF BULK AT MOST 1048576: true; the input reads as it did. -/
def fnLanesUptoRow : OpenClaim := { program := "ytdfoobomlabffaa", sum := "4145f8035b8aeca7b0515f6ce979acf273b5e9f24a4920f80f1f187fe725ad9a", func := "loop.example/g01381/laws.FnLanes", spec := "fnLanes", unfollowed := true, recurses := true, apart := false, narrowed := true }
def FnLanesUptoSaid : Prop := fnLanesUptoRow.holds Try.pinned (OpenSpec.upto fnLanesSpec)

/-- 'laws.FnExactValidGas', WHERE WHAT IT READS IS OF BULK AT MOST 1048576: true; the input reads as it did. -/
def fnExactValidGasUptoRow : OpenClaim := { program := "ytdfoobomlabffaa", sum := "4145f8035b8aeca7b0515f6ce979acf273b5e9f24a4920f80f1f187fe725ad9a", func := "loop.example/g01381/laws.FnExactValidGas", spec := "fnExactValidGas", apart := false, narrowed := true }
def FnExactValidGasUptoSaid : Prop := fnExactValidGasUptoRow.holds Try.pinned (OpenSpec.upto fnExactValidGasSpec)

/-- 'laws.FnExactSameGas', WHERE WHAT IT READS IS OF BULK AT MOST 1048576: true; the input reads as it did. -/
def fnExactSameGasUptoRow : OpenClaim := { program := "ytdfoobomlabffaa", sum := "4145f8035b8aeca7b0515f6ce979acf273b5e9f24a4920f80f1f187fe725ad9a", func := "loop.example/g01381/laws.FnExactSameGas", spec := "fnExactSameGas", apart := false, narrowed := true }
def FnExactSameGasUptoSaid : Prop := fnExactSameGasUptoRow.holds Try.pinned (OpenSpec.upto fnExactSameGasSpec)

/-- 'laws.FnExactWayOfGas', WHERE WHAT IT READS IS OF BULK AT MOST 1048576: true; the input reads as it did. -/
def fnExactWayOfGasUptoRow : OpenClaim := { program := "ytdfoobomlabffaa", sum := "4145f8035b8aeca7b0515f6ce979acf273b5e9f24a4920f80f1f187fe725ad9a", func := "loop.example/g01381/laws.FnExactWayOfGas", spec := "fnExactWayOfGas", apart := false, narrowed := true }
def FnExactWayOfGasUptoSaid : Prop := fnExactWayOfGasUptoRow.holds Try.pinned (OpenSpec.upto fnExactWayOfGasSpec)

/-- 'laws.FnExactCountGas', WHERE WHAT IT READS IS OF BULK AT MOST 1048576: true; the input reads as it did. -/
def fnExactCountGasUptoRow : OpenClaim := { program := "ytdfoobomlabffaa", sum := "4145f8035b8aeca7b0515f6ce979acf273b5e9f24a4920f80f1f187fe725ad9a", func := "loop.example/g01381/laws.FnExactCountGas", spec := "fnExactCountGas", apart := false, narrowed := true }
def FnExactCountGasUptoSaid : Prop := fnExactCountGasUptoRow.holds Try.pinned (OpenSpec.upto fnExactCountGasSpec)

/-- 'laws.FnExactDenseBlocks', WHERE WHAT IT READS IS OF BULK AT MOST 1048576: true; the input reads as it did. -/
def fnExactDenseBlocksUptoRow : OpenClaim := { program := "ytdfoobomlabffaa", sum := "4145f8035b8aeca7b0515f6ce979acf273b5e9f24a4920f80f1f187fe725ad9a", func := "loop.example/g01381/laws.FnExactDenseBlocks", spec := "fnExactDenseBlocks", apart := false, narrowed := true }
def FnExactDenseBlocksUptoSaid : Prop := fnExactDenseBlocksUptoRow.holds Try.pinned (OpenSpec.upto fnExactDenseBlocksSpec)

/-- 'laws.FnExactReverseGas', WHERE WHAT IT READS IS OF BULK AT MOST 1048576: true; the input reads as it did. -/
def fnExactReverseGasUptoRow : OpenClaim := { program := "ytdfoobomlabffaa", sum := "4145f8035b8aeca7b0515f6ce979acf273b5e9f24a4920f80f1f187fe725ad9a", func := "loop.example/g01381/laws.FnExactReverseGas", spec := "fnExactReverseGas", unfollowed := true, recurses := true, apart := false, narrowed := true }
def FnExactReverseGasUptoSaid : Prop := fnExactReverseGasUptoRow.holds Try.pinned (OpenSpec.upto fnExactReverseGasSpec)

end Rows
end Go.Proofs.Ytdfoobomlabffaa
