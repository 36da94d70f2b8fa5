/-
  No cell of these rows narrows 'for every input' (looked for: loops, veiled, ifaces, maps, wideKeys, modest, calm, conditions, laid).
  DERIVED. THE GIVEN ROWS OF THIS SEAT. 12 by the template 'for every input the law returns true; each argument reads behind the call as it read before'; 0 by the template 'total and deterministic' (their statements: YthbffbpdoankjaaTotals.lean).
  GIVEN WITH THE SEED: the statements are not yours to turn. If you find one false, say at which input.
  Laid BY PROGRAM, IN A SANDBOX (cutbox-rows.mjs): the forced cells as the released guide's own fill.sh prints them over the translation 3f338dc7649634bf… (all of the seat's roots in one cut). By AI agents, Wed Nov 11 2026. No macro, syntax, notation, axiom, sorry.
-/
import Derived.Test.YthbffbpdoankjaaChecked
import GoSem.Claim
import GoSem.ClaimJoined
import GoSem.ClaimMapViews
import Derived.JoinedTies
import Derived.KernelRfl
namespace Go.Proofs.Ythbffbpdoankjaa
/- THE CELL 'sum', in the pinned program and in every row, IS THE sha256 OF THE DUMP (.gsa) THAT YthbffbpdoankjaaProg.lean LOADS. Nothing in Lean hashes anything: it is a label: what it is worth is what the hold of that sum in a sandbox is worth. -/
noncomputable def Try.pinned : Pinned := { name := "ythbffbpdoankjaa", sum := "3f338dc7649634bf8dd5409ed2e83a5a584f481e78bbcd66fb70162cb2d717ae", checked := Try.checked }
namespace Rows
def none {H : Type} : Left H := { results := [], args := [] }

/-- 'laws.FnExactRunLife': WHATEVER THE INPUT: true; the input reads as it did. -/
def fnExactRunLifeSpec : ChangeSpec := { name := "fnExactRunLife", fn := fun _ => fun
  | [d1, d2, d3, d4] => { results := [.lit (.bool true)], args := [d1, d2, d3, d4] }
  | _ => none }
def fnExactRunLifeRow : OpenClaim := { program := "ythbffbpdoankjaa", sum := "3f338dc7649634bf8dd5409ed2e83a5a584f481e78bbcd66fb70162cb2d717ae", func := "loop.example/g01381/laws.FnExactRunLife", spec := "fnExactRunLife", unfollowed := true, recurses := true, apart := false }
def FnExactRunLifeSaid : Prop := fnExactRunLifeRow.holds Try.pinned (OpenSpec.ofChange fnExactRunLifeSpec)

/-- ITS FALSE NEIGHBOUR: 'it returns false'. Refute it at one input. -/
def fnExactRunLifeWrong : ChangeSpec := { name := "fnExactRunLife", fn := fun _ => fun
  | [d1, d2, d3, d4] => { results := [.lit (.bool false)], args := [d1, d2, d3, d4] }
  | _ => none }
def FnExactRunLifeWrongFalsely : Prop := fnExactRunLifeRow.holds Try.pinned (OpenSpec.ofChange fnExactRunLifeWrong)

/-- 'laws.FnExactCountsAhead': WHATEVER THE INPUT: true; the input reads as it did. -/
def fnExactCountsAheadSpec : ChangeSpec := { name := "fnExactCountsAhead", fn := fun _ => fun
  | [d1, d2, d3, d4] => { results := [.lit (.bool true)], args := [d1, d2, d3, d4] }
  | _ => none }
def fnExactCountsAheadRow : OpenClaim := { program := "ythbffbpdoankjaa", sum := "3f338dc7649634bf8dd5409ed2e83a5a584f481e78bbcd66fb70162cb2d717ae", func := "loop.example/g01381/laws.FnExactCountsAhead", spec := "fnExactCountsAhead", unfollowed := true, recurses := true, apart := false }
def FnExactCountsAheadSaid : Prop := fnExactCountsAheadRow.holds Try.pinned (OpenSpec.ofChange fnExactCountsAheadSpec)

/-- ITS FALSE NEIGHBOUR: 'it returns false'. Refute it at one input. -/
def fnExactCountsAheadWrong : ChangeSpec := { name := "fnExactCountsAhead", fn := fun _ => fun
  | [d1, d2, d3, d4] => { results := [.lit (.bool false)], args := [d1, d2, d3, d4] }
  | _ => none }
def FnExactCountsAheadWrongFalsely : Prop := fnExactCountsAheadRow.holds Try.pinned (OpenSpec.ofChange fnExactCountsAheadWrong)

/-- 'laws.FnExactCountStill': WHATEVER THE INPUT: true; the input reads as it did. -/
def fnExactCountStillSpec : ChangeSpec := { name := "fnExactCountStill", fn := fun _ => fun
  | [d1, d2, d3] => { results := [.lit (.bool true)], args := [d1, d2, d3] }
  | _ => none }
def fnExactCountStillRow : OpenClaim := { program := "ythbffbpdoankjaa", sum := "3f338dc7649634bf8dd5409ed2e83a5a584f481e78bbcd66fb70162cb2d717ae", func := "loop.example/g01381/laws.FnExactCountStill", spec := "fnExactCountStill", unfollowed := true, recurses := true, apart := false }
def FnExactCountStillSaid : Prop := fnExactCountStillRow.holds Try.pinned (OpenSpec.ofChange fnExactCountStillSpec)

/-- ITS FALSE NEIGHBOUR: 'it returns false'. Refute it at one input. -/
def fnExactCountStillWrong : ChangeSpec := { name := "fnExactCountStill", fn := fun _ => fun
  | [d1, d2, d3] => { results := [.lit (.bool false)], args := [d1, d2, d3] }
  | _ => none }
def FnExactCountStillWrongFalsely : Prop := fnExactCountStillRow.holds Try.pinned (OpenSpec.ofChange fnExactCountStillWrong)

/-- 'laws.FnExactInnerStep': WHATEVER THE INPUT: true; the input reads as it did. -/
def fnExactInnerStepSpec : ChangeSpec := { name := "fnExactInnerStep", fn := fun _ => fun
  | [d1, d2] => { results := [.lit (.bool true)], args := [d1, d2] }
  | _ => none }
def fnExactInnerStepRow : OpenClaim := { program := "ythbffbpdoankjaa", sum := "3f338dc7649634bf8dd5409ed2e83a5a584f481e78bbcd66fb70162cb2d717ae", func := "loop.example/g01381/laws.FnExactInnerStep", spec := "fnExactInnerStep", unfollowed := true, recurses := true, apart := false }
def FnExactInnerStepSaid : Prop := fnExactInnerStepRow.holds Try.pinned (OpenSpec.ofChange fnExactInnerStepSpec)

/-- ITS FALSE NEIGHBOUR: 'it returns false'. Refute it at one input. -/
def fnExactInnerStepWrong : ChangeSpec := { name := "fnExactInnerStep", fn := fun _ => fun
  | [d1, d2] => { results := [.lit (.bool false)], args := [d1, d2] }
  | _ => none }
def FnExactInnerStepWrongFalsely : Prop := fnExactInnerStepRow.holds Try.pinned (OpenSpec.ofChange fnExactInnerStepWrong)

/-- 'laws.FnExactInnerLife': WHATEVER THE INPUT: true; the input reads as it did. -/
def fnExactInnerLifeSpec : ChangeSpec := { name := "fnExactInnerLife", fn := fun _ => fun
  | [d1, d2] => { results := [.lit (.bool true)], args := [d1, d2] }
  | _ => none }
def fnExactInnerLifeRow : OpenClaim := { program := "ythbffbpdoankjaa", sum := "3f338dc7649634bf8dd5409ed2e83a5a584f481e78bbcd66fb70162cb2d717ae", func := "loop.example/g01381/laws.FnExactInnerLife", spec := "fnExactInnerLife", unfollowed := true, recurses := true, apart := false }
def FnExactInnerLifeSaid : Prop := fnExactInnerLifeRow.holds Try.pinned (OpenSpec.ofChange fnExactInnerLifeSpec)

/-- ITS FALSE NEIGHBOUR: 'it returns false'. Refute it at one input. -/
def fnExactInnerLifeWrong : ChangeSpec := { name := "fnExactInnerLife", fn := fun _ => fun
  | [d1, d2] => { results := [.lit (.bool false)], args := [d1, d2] }
  | _ => none }
def FnExactInnerLifeWrongFalsely : Prop := fnExactInnerLifeRow.holds Try.pinned (OpenSpec.ofChange fnExactInnerLifeWrong)

/-- 'laws.FnExactCountBefore': WHATEVER THE INPUT: true; the input reads as it did. -/
def fnExactCountBeforeSpec : ChangeSpec := { name := "fnExactCountBefore", fn := fun _ => fun
  | [d1, d2] => { results := [.lit (.bool true)], args := [d1, d2] }
  | _ => none }
def fnExactCountBeforeRow : OpenClaim := { program := "ythbffbpdoankjaa", sum := "3f338dc7649634bf8dd5409ed2e83a5a584f481e78bbcd66fb70162cb2d717ae", func := "loop.example/g01381/laws.FnExactCountBefore", spec := "fnExactCountBefore", unfollowed := true, recurses := true, apart := false }
def FnExactCountBeforeSaid : Prop := fnExactCountBeforeRow.holds Try.pinned (OpenSpec.ofChange fnExactCountBeforeSpec)

/-- ITS FALSE NEIGHBOUR: 'it returns false'. Refute it at one input. -/
def fnExactCountBeforeWrong : ChangeSpec := { name := "fnExactCountBefore", fn := fun _ => fun
  | [d1, d2] => { results := [.lit (.bool false)], args := [d1, d2] }
  | _ => none }
def FnExactCountBeforeWrongFalsely : Prop := fnExactCountBeforeRow.holds Try.pinned (OpenSpec.ofChange fnExactCountBeforeWrong)

/-- 'laws.FnExactFirstBefore': WHATEVER THE INPUT: true; the input reads as it did. -/
def fnExactFirstBeforeSpec : ChangeSpec := { name := "fnExactFirstBefore", fn := fun _ => fun
  | [d1, d2] => { results := [.lit (.bool true)], args := [d1, d2] }
  | _ => none }
def fnExactFirstBeforeRow : OpenClaim := { program := "ythbffbpdoankjaa", sum := "3f338dc7649634bf8dd5409ed2e83a5a584f481e78bbcd66fb70162cb2d717ae", func := "loop.example/g01381/laws.FnExactFirstBefore", spec := "fnExactFirstBefore", unfollowed := true, recurses := true, apart := false }
def FnExactFirstBeforeSaid : Prop := fnExactFirstBeforeRow.holds Try.pinned (OpenSpec.ofChange fnExactFirstBeforeSpec)

/-- ITS FALSE NEIGHBOUR: 'it returns false'. Refute it at one input. -/
def fnExactFirstBeforeWrong : ChangeSpec := { name := "fnExactFirstBefore", fn := fun _ => fun
  | [d1, d2] => { results := [.lit (.bool false)], args := [d1, d2] }
  | _ => none }
def FnExactFirstBeforeWrongFalsely : Prop := fnExactFirstBeforeRow.holds Try.pinned (OpenSpec.ofChange fnExactFirstBeforeWrong)

/-- 'laws.FnExactMoveOf': WHATEVER THE INPUT: true; the input reads as it did. -/
def fnExactMoveOfSpec : ChangeSpec := { name := "fnExactMoveOf", fn := fun _ => fun
  | [d1, d2, d3] => { results := [.lit (.bool true)], args := [d1, d2, d3] }
  | _ => none }
def fnExactMoveOfRow : OpenClaim := { program := "ythbffbpdoankjaa", sum := "3f338dc7649634bf8dd5409ed2e83a5a584f481e78bbcd66fb70162cb2d717ae", func := "loop.example/g01381/laws.FnExactMoveOf", spec := "fnExactMoveOf", unfollowed := true, recurses := true, apart := false }
def FnExactMoveOfSaid : Prop := fnExactMoveOfRow.holds Try.pinned (OpenSpec.ofChange fnExactMoveOfSpec)

/-- ITS FALSE NEIGHBOUR: 'it returns false'. Refute it at one input. -/
def fnExactMoveOfWrong : ChangeSpec := { name := "fnExactMoveOf", fn := fun _ => fun
  | [d1, d2, d3] => { results := [.lit (.bool false)], args := [d1, d2, d3] }
  | _ => none }
def FnExactMoveOfWrongFalsely : Prop := fnExactMoveOfRow.holds Try.pinned (OpenSpec.ofChange fnExactMoveOfWrong)

/-- 'laws.FnExactFieldsShared': WHATEVER THE INPUT: true; the input reads as it did. -/
def fnExactFieldsSharedSpec : ChangeSpec := { name := "fnExactFieldsShared", fn := fun _ => fun
  | [d1, d2, d3, d4, d5] => { results := [.lit (.bool true)], args := [d1, d2, d3, d4, d5] }
  | _ => none }
def fnExactFieldsSharedRow : OpenClaim := { program := "ythbffbpdoankjaa", sum := "3f338dc7649634bf8dd5409ed2e83a5a584f481e78bbcd66fb70162cb2d717ae", func := "loop.example/g01381/laws.FnExactFieldsShared", spec := "fnExactFieldsShared", unfollowed := true, recurses := true, apart := false }
def FnExactFieldsSharedSaid : Prop := fnExactFieldsSharedRow.holds Try.pinned (OpenSpec.ofChange fnExactFieldsSharedSpec)

/-- ITS FALSE NEIGHBOUR: 'it returns false'. Refute it at one input. -/
def fnExactFieldsSharedWrong : ChangeSpec := { name := "fnExactFieldsShared", fn := fun _ => fun
  | [d1, d2, d3, d4, d5] => { results := [.lit (.bool false)], args := [d1, d2, d3, d4, d5] }
  | _ => none }
def FnExactFieldsSharedWrongFalsely : Prop := fnExactFieldsSharedRow.holds Try.pinned (OpenSpec.ofChange fnExactFieldsSharedWrong)

/-- 'laws.FnExactShipOf': WHATEVER THE INPUT: true; the input reads as it did. -/
def fnExactShipOfSpec : ChangeSpec := { name := "fnExactShipOf", fn := fun _ => fun
  | [d1, d2, d3] => { results := [.lit (.bool true)], args := [d1, d2, d3] }
  | _ => none }
def fnExactShipOfRow : OpenClaim := { program := "ythbffbpdoankjaa", sum := "3f338dc7649634bf8dd5409ed2e83a5a584f481e78bbcd66fb70162cb2d717ae", func := "loop.example/g01381/laws.FnExactShipOf", spec := "fnExactShipOf", unfollowed := true, recurses := true, apart := false }
def FnExactShipOfSaid : Prop := fnExactShipOfRow.holds Try.pinned (OpenSpec.ofChange fnExactShipOfSpec)

/-- ITS FALSE NEIGHBOUR: 'it returns false'. Refute it at one input. -/
def fnExactShipOfWrong : ChangeSpec := { name := "fnExactShipOf", fn := fun _ => fun
  | [d1, d2, d3] => { results := [.lit (.bool false)], args := [d1, d2, d3] }
  | _ => none }
def FnExactShipOfWrongFalsely : Prop := fnExactShipOfRow.holds Try.pinned (OpenSpec.ofChange fnExactShipOfWrong)

/-- 'laws.FnExactSoupsShared': WHATEVER THE INPUT: true; the input reads as it did. -/
def fnExactSoupsSharedSpec : ChangeSpec := { name := "fnExactSoupsShared", fn := fun _ => fun
  | [d1, d2, d3, d4, d5, d6] => { results := [.lit (.bool true)], args := [d1, d2, d3, d4, d5, d6] }
  | _ => none }
def fnExactSoupsSharedRow : OpenClaim := { program := "ythbffbpdoankjaa", sum := "3f338dc7649634bf8dd5409ed2e83a5a584f481e78bbcd66fb70162cb2d717ae", func := "loop.example/g01381/laws.FnExactSoupsShared", spec := "fnExactSoupsShared", unfollowed := true, recurses := true, apart := false }
def FnExactSoupsSharedSaid : Prop := fnExactSoupsSharedRow.holds Try.pinned (OpenSpec.ofChange fnExactSoupsSharedSpec)

/-- ITS FALSE NEIGHBOUR: 'it returns false'. Refute it at one input. -/
def fnExactSoupsSharedWrong : ChangeSpec := { name := "fnExactSoupsShared", fn := fun _ => fun
  | [d1, d2, d3, d4, d5, d6] => { results := [.lit (.bool false)], args := [d1, d2, d3, d4, d5, d6] }
  | _ => none }
def FnExactSoupsSharedWrongFalsely : Prop := fnExactSoupsSharedRow.holds Try.pinned (OpenSpec.ofChange fnExactSoupsSharedWrong)

/-- 'laws.FnExactFateOf': WHATEVER THE INPUT: true; the input reads as it did. -/
def fnExactFateOfSpec : ChangeSpec := { name := "fnExactFateOf", fn := fun _ => fun
  | [d1, d2, d3] => { results := [.lit (.bool true)], args := [d1, d2, d3] }
  | _ => none }
def fnExactFateOfRow : OpenClaim := { program := "ythbffbpdoankjaa", sum := "3f338dc7649634bf8dd5409ed2e83a5a584f481e78bbcd66fb70162cb2d717ae", func := "loop.example/g01381/laws.FnExactFateOf", spec := "fnExactFateOf", unfollowed := true, recurses := true, apart := false }
def FnExactFateOfSaid : Prop := fnExactFateOfRow.holds Try.pinned (OpenSpec.ofChange fnExactFateOfSpec)

/-- ITS FALSE NEIGHBOUR: 'it returns false'. Refute it at one input. -/
def fnExactFateOfWrong : ChangeSpec := { name := "fnExactFateOf", fn := fun _ => fun
  | [d1, d2, d3] => { results := [.lit (.bool false)], args := [d1, d2, d3] }
  | _ => none }
def FnExactFateOfWrongFalsely : Prop := fnExactFateOfRow.holds Try.pinned (OpenSpec.ofChange fnExactFateOfWrong)

/- THE SECOND FORM. 'bulk': how many values and letters a reading holds, each counted each time it is reached (what is shared counts as often as it is met; a slice's spare places count too). A statement '..UptoSaid' is the law's where the arguments, and the package variables that the reading takes, are together of bulk at most 1048576: NARROWER than '..Said'. Prove '..Said' where nothing that the law and all that it calls make is longer than what came in: it says more and counts as full. Else prove '..UptoSaid'. A law counts once. -/
mutual
def uptoBulk {H : Type} : DataW H → Nat
  | .lit (.string bytes) => bytes.length + 1
  | .lit _ => 1
  | .nil => 1
  | .ptr d => uptoBulk d + 1
  | .slice elems spare => uptoBulkAll elems + uptoBulkAll spare + 1
  | .agg parts => uptoBulkAll parts + 1
  | .iface _ d => uptoBulk d + 1
  | .map entries => uptoBulkEntries entries + 1
  | .held _ => 1
def uptoBulkAll {H : Type} : List (DataW H) → Nat
  | [] => 0
  | d :: r => uptoBulk d + uptoBulkAll r
def uptoBulkEntries {H : Type} : List (Lit × DataW H) → Nat
  | [] => 0
  | x :: r => uptoBulkEntry x + uptoBulkEntries r
def uptoBulkEntry {H : Type} : Lit × DataW H → Nat
  | (.string bytes, d) => bytes.length + uptoBulk d + 1
  | (_, d) => uptoBulk d + 1
 end
def uptoSmall : (H : Type) → List (DataW H) → Bool := fun _ ds => decide (uptoBulkAll ds ≤ 1048576)
def OpenSpec.upto (s : _root_.Go.ChangeSpec) : _root_.Go.OpenSpec := { _root_.Go.OpenSpec.ofChange s with cond := some uptoSmall }

/-- 'laws.FnExactRunLife', WHERE WHAT IT READS IS OF BULK AT MOST 1048576: true; the input reads as it did. -/
def fnExactRunLifeUptoRow : OpenClaim := { program := "ythbffbpdoankjaa", sum := "3f338dc7649634bf8dd5409ed2e83a5a584f481e78bbcd66fb70162cb2d717ae", func := "loop.example/g01381/laws.FnExactRunLife", spec := "fnExactRunLife", unfollowed := true, recurses := true, apart := false, narrowed := true }
def FnExactRunLifeUptoSaid : Prop := fnExactRunLifeUptoRow.holds Try.pinned (OpenSpec.upto fnExactRunLifeSpec)

/-- 'laws.FnExactCountsAhead', WHERE WHAT IT READS IS OF BULK AT MOST 1048576: true; the input reads as it did. -/
def fnExactCountsAheadUptoRow : OpenClaim := { program := "ythbffbpdoankjaa", sum := "3f338dc7649634bf8dd5409ed2e83a5a584f481e78bbcd66fb70162cb2d717ae", func := "loop.example/g01381/laws.FnExactCountsAhead", spec := "fnExactCountsAhead", unfollowed := true, recurses := true, apart := false, narrowed := true }
def FnExactCountsAheadUptoSaid : Prop := fnExactCountsAheadUptoRow.holds Try.pinned (OpenSpec.upto fnExactCountsAheadSpec)

/-- 'laws.FnExactCountStill', WHERE WHAT IT READS IS OF BULK AT MOST 1048576: true; the input reads as it did. -/
def fnExactCountStillUptoRow : OpenClaim := { program := "ythbffbpdoankjaa", sum := "3f338dc7649634bf8dd5409ed2e83a5a584f481e78bbcd66fb70162cb2d717ae", func := "loop.example/g01381/laws.FnExactCountStill", spec := "fnExactCountStill", unfollowed := true, recurses := true, apart := false, narrowed := true }
def FnExactCountStillUptoSaid : Prop := fnExactCountStillUptoRow.holds Try.pinned (OpenSpec.upto fnExactCountStillSpec)

/-- 'laws.FnExactInnerStep', WHERE WHAT IT READS IS OF BULK AT MOST 1048576: true; the input reads as it did. -/
def fnExactInnerStepUptoRow : OpenClaim := { program := "ythbffbpdoankjaa", sum := "3f338dc7649634bf8dd5409ed2e83a5a584f481e78bbcd66fb70162cb2d717ae", func := "loop.example/g01381/laws.FnExactInnerStep", spec := "fnExactInnerStep", unfollowed := true, recurses := true, apart := false, narrowed := true }
def FnExactInnerStepUptoSaid : Prop := fnExactInnerStepUptoRow.holds Try.pinned (OpenSpec.upto fnExactInnerStepSpec)

/-- 'laws.FnExactInnerLife', WHERE WHAT IT READS IS OF BULK AT MOST 1048576: true; the input reads as it did. -/
def fnExactInnerLifeUptoRow : OpenClaim := { program := "ythbffbpdoankjaa", sum := "3f338dc7649634bf8dd5409ed2e83a5a584f481e78bbcd66fb70162cb2d717ae", func := "loop.example/g01381/laws.FnExactInnerLife", spec := "fnExactInnerLife", unfollowed := true, recurses := true, apart := false, narrowed := true }
def FnExactInnerLifeUptoSaid : Prop := fnExactInnerLifeUptoRow.holds Try.pinned (OpenSpec.upto fnExactInnerLifeSpec)

/-- 'laws.FnExactCountBefore', WHERE WHAT IT READS IS OF BULK AT MOST 1048576: true; the input reads as it did. -/
def fnExactCountBeforeUptoRow : OpenClaim := { program := "ythbffbpdoankjaa", sum := "3f338dc7649634bf8dd5409ed2e83a5a584f481e78bbcd66fb70162cb2d717ae", func := "loop.example/g01381/laws.FnExactCountBefore", spec := "fnExactCountBefore", unfollowed := true, recurses := true, apart := false, narrowed := true }
def FnExactCountBeforeUptoSaid : Prop := fnExactCountBeforeUptoRow.holds Try.pinned (OpenSpec.upto fnExactCountBeforeSpec)

/-- 'laws.FnExactFirstBefore', WHERE WHAT IT READS IS OF BULK AT MOST 1048576: true; the input reads as it did. -/
def fnExactFirstBeforeUptoRow : OpenClaim := { program := "ythbffbpdoankjaa", sum := "3f338dc7649634bf8dd5409ed2e83a5a584f481e78bbcd66fb70162cb2d717ae", func := "loop.example/g01381/laws.FnExactFirstBefore", spec := "fnExactFirstBefore", unfollowed := true, recurses := true, apart := false, narrowed := true }
def FnExactFirstBeforeUptoSaid : Prop := fnExactFirstBeforeUptoRow.holds Try.pinned (OpenSpec.upto fnExactFirstBeforeSpec)

/-- 'laws.FnExactMoveOf', WHERE WHAT IT READS IS OF BULK AT MOST 1048576: true; the input reads as it did. -/
def fnExactMoveOfUptoRow : OpenClaim := { program := "ythbffbpdoankjaa", sum := "3f338dc7649634bf8dd5409ed2e83a5a584f481e78bbcd66fb70162cb2d717ae", func := "loop.example/g01381/laws.FnExactMoveOf", spec := "fnExactMoveOf", unfollowed := true, recurses := true, apart := false, narrowed := true }
def FnExactMoveOfUptoSaid : Prop := fnExactMoveOfUptoRow.holds Try.pinned (OpenSpec.upto fnExactMoveOfSpec)

/-- 'laws.FnExactFieldsShared', WHERE WHAT IT READS IS OF BULK AT MOST 1048576: true; the input reads as it did. -/
def fnExactFieldsSharedUptoRow : OpenClaim := { program := "ythbffbpdoankjaa", sum := "3f338dc7649634bf8dd5409ed2e83a5a584f481e78bbcd66fb70162cb2d717ae", func := "loop.example/g01381/laws.FnExactFieldsShared", spec := "fnExactFieldsShared", unfollowed := true, recurses := true, apart := false, narrowed := true }
def FnExactFieldsSharedUptoSaid : Prop := fnExactFieldsSharedUptoRow.holds Try.pinned (OpenSpec.upto fnExactFieldsSharedSpec)

/-- 'laws.FnExactShipOf', WHERE WHAT IT READS IS OF BULK AT MOST 1048576: true; the input reads as it did. -/
def fnExactShipOfUptoRow : OpenClaim := { program := "ythbffbpdoankjaa", sum := "3f338dc7649634bf8dd5409ed2e83a5a584f481e78bbcd66fb70162cb2d717ae", func := "loop.example/g01381/laws.FnExactShipOf", spec := "fnExactShipOf", unfollowed := true, recurses := true, apart := false, narrowed := true }
def FnExactShipOfUptoSaid : Prop := fnExactShipOfUptoRow.holds Try.pinned (OpenSpec.upto fnExactShipOfSpec)

/-- 'laws.FnExactSoupsShared', WHERE WHAT IT READS IS OF BULK AT MOST 1048576: true; the input reads as it did. -/
def fnExactSoupsSharedUptoRow : OpenClaim := { program := "ythbffbpdoankjaa", sum := "3f338dc7649634bf8dd5409ed2e83a5a584f481e78bbcd66fb70162cb2d717ae", func := "loop.example/g01381/laws.FnExactSoupsShared", spec := "fnExactSoupsShared", unfollowed := true, recurses := true, apart := false, narrowed := true }
def FnExactSoupsSharedUptoSaid : Prop := fnExactSoupsSharedUptoRow.holds Try.pinned (OpenSpec.upto fnExactSoupsSharedSpec)

/-- 'laws.FnExactFateOf', WHERE WHAT IT READS IS OF BULK AT MOST 1048576: true; the input reads as it did. -/
def fnExactFateOfUptoRow : OpenClaim := { program := "ythbffbpdoankjaa", sum := "3f338dc7649634bf8dd5409ed2e83a5a584f481e78bbcd66fb70162cb2d717ae", func := "loop.example/g01381/laws.FnExactFateOf", spec := "fnExactFateOf", unfollowed := true, recurses := true, apart := false, narrowed := true }
def FnExactFateOfUptoSaid : Prop := fnExactFateOfUptoRow.holds Try.pinned (OpenSpec.upto fnExactFateOfSpec)

end Rows
end Go.Proofs.Ythbffbpdoankjaa
