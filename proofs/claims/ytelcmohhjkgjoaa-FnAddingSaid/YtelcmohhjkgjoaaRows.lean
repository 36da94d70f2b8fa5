/-
  No cell of these rows narrows 'for every input' (looked for: loops, veiled, ifaces, maps, wideKeys, modest, calm, conditions, laid).
  DERIVED. THE GIVEN ROWS OF THIS SEAT. 11 by the template 'for every input the law returns true; each argument reads behind the call as it read before'; 0 by the template 'total and deterministic' (their statements: YtelcmohhjkgjoaaTotals.lean).
  GIVEN WITH THE SEED: the statements are not yours to turn. If you find one false, say at which input.
  Laid BY PROGRAM, IN A SANDBOX (cutbox-rows.mjs): the forced cells as the released guide's own fill.sh prints them over the translation 133b96bdbeae1e50… (all of the seat's roots in one cut). By AI agents, Wed Nov 11 2026. No macro, syntax, notation, axiom, sorry.
-/
import Derived.Test.YtelcmohhjkgjoaaChecked
import GoSem.Claim
import GoSem.ClaimJoined
import GoSem.ClaimMapViews
import Derived.JoinedTies
import Derived.KernelRfl
namespace Go.Proofs.Ytelcmohhjkgjoaa
/- THE CELL 'sum', in the pinned program and in every row, IS THE sha256 OF THE DUMP (.gsa) THAT YtelcmohhjkgjoaaProg.lean LOADS. Nothing in Lean hashes anything: it is a label: what it is worth is what the hold of that sum in a sandbox is worth. -/
noncomputable def Try.pinned : Pinned := { name := "ytelcmohhjkgjoaa", sum := "133b96bdbeae1e50feae921e58a1e5b404c8b770a546731e3fb2c9e42c14b1b1", checked := Try.checked }
namespace Rows
def none {H : Type} : Left H := { results := [], args := [] }

/-- 'laws.FnExactTurnRing': WHATEVER THE INPUT: true; the input reads as it did. -/
def fnExactTurnRingSpec : ChangeSpec := { name := "fnExactTurnRing", fn := fun _ => fun
  | [d1, d2] => { results := [.lit (.bool true)], args := [d1, d2] }
  | _ => none }
def fnExactTurnRingRow : OpenClaim := { program := "ytelcmohhjkgjoaa", sum := "133b96bdbeae1e50feae921e58a1e5b404c8b770a546731e3fb2c9e42c14b1b1", func := "loop.example/g01381/laws.FnExactTurnRing", spec := "fnExactTurnRing", apart := false }
def FnExactTurnRingSaid : Prop := fnExactTurnRingRow.holds Try.pinned (OpenSpec.ofChange fnExactTurnRingSpec)

/-- ITS FALSE NEIGHBOUR: 'it returns false'. Refute it at one input. -/
def fnExactTurnRingWrong : ChangeSpec := { name := "fnExactTurnRing", fn := fun _ => fun
  | [d1, d2] => { results := [.lit (.bool false)], args := [d1, d2] }
  | _ => none }
def FnExactTurnRingWrongFalsely : Prop := fnExactTurnRingRow.holds Try.pinned (OpenSpec.ofChange fnExactTurnRingWrong)

/-- 'laws.FnExactLeastTurn': WHATEVER THE INPUT: true; the input reads as it did. -/
def fnExactLeastTurnSpec : ChangeSpec := { name := "fnExactLeastTurn", fn := fun _ => fun
  | [d] => { results := [.lit (.bool true)], args := [d] }
  | _ => none }
def fnExactLeastTurnRow : OpenClaim := { program := "ytelcmohhjkgjoaa", sum := "133b96bdbeae1e50feae921e58a1e5b404c8b770a546731e3fb2c9e42c14b1b1", func := "loop.example/g01381/laws.FnExactLeastTurn", spec := "fnExactLeastTurn", apart := false }
def FnExactLeastTurnSaid : Prop := fnExactLeastTurnRow.holds Try.pinned (OpenSpec.ofChange fnExactLeastTurnSpec)

/-- ITS FALSE NEIGHBOUR: 'it returns false'. Refute it at one input. -/
def fnExactLeastTurnWrong : ChangeSpec := { name := "fnExactLeastTurn", fn := fun _ => fun
  | [d] => { results := [.lit (.bool false)], args := [d] }
  | _ => none }
def FnExactLeastTurnWrongFalsely : Prop := fnExactLeastTurnRow.holds Try.pinned (OpenSpec.ofChange fnExactLeastTurnWrong)

/-- 'laws.FnWordsOf': WHATEVER THE INPUT: true; the input reads as it did. -/
def fnWordsOfSpec : ChangeSpec := { name := "fnWordsOf", fn := fun _ => fun
  | [d1, d2] => { results := [.lit (.bool true)], args := [d1, d2] }
  | _ => none }
def fnWordsOfRow : OpenClaim := { program := "ytelcmohhjkgjoaa", sum := "133b96bdbeae1e50feae921e58a1e5b404c8b770a546731e3fb2c9e42c14b1b1", func := "loop.example/g01381/laws.FnWordsOf", spec := "fnWordsOf", inPlace := ["math.Float64frombits"], apart := false }
def FnWordsOfSaid : Prop := fnWordsOfRow.holds Try.pinned (OpenSpec.ofChange fnWordsOfSpec)

/-- ITS FALSE NEIGHBOUR: 'it returns false'. Refute it at one input. -/
def fnWordsOfWrong : ChangeSpec := { name := "fnWordsOf", fn := fun _ => fun
  | [d1, d2] => { results := [.lit (.bool false)], args := [d1, d2] }
  | _ => none }
def FnWordsOfWrongFalsely : Prop := fnWordsOfRow.holds Try.pinned (OpenSpec.ofChange fnWordsOfWrong)

/-- 'laws.FnTables': WHATEVER THE INPUT: true; the input reads as it did. -/
def fnTablesSpec : ChangeSpec := { name := "fnTables", fn := fun _ => fun
  | [d1, d2] => { results := [.lit (.bool true)], args := [d1, d2] }
  | _ => none }
def fnTablesRow : OpenClaim := { program := "ytelcmohhjkgjoaa", sum := "133b96bdbeae1e50feae921e58a1e5b404c8b770a546731e3fb2c9e42c14b1b1", func := "loop.example/g01381/laws.FnTables", spec := "fnTables", unfollowed := true, recurses := true, apart := false }
def FnTablesSaid : Prop := fnTablesRow.holds Try.pinned (OpenSpec.ofChange fnTablesSpec)

/-- ITS FALSE NEIGHBOUR: 'it returns false'. Refute it at one input. -/
def fnTablesWrong : ChangeSpec := { name := "fnTables", fn := fun _ => fun
  | [d1, d2] => { results := [.lit (.bool false)], args := [d1, d2] }
  | _ => none }
def FnTablesWrongFalsely : Prop := fnTablesRow.holds Try.pinned (OpenSpec.ofChange fnTablesWrong)

/-- 'laws.FnAdding': WHATEVER THE INPUT: true; the input reads as it did. -/
def fnAddingSpec : ChangeSpec := { name := "fnAdding", fn := fun _ => fun
  | [d1, d2] => { results := [.lit (.bool true)], args := [d1, d2] }
  | _ => none }
def fnAddingRow : OpenClaim := { program := "ytelcmohhjkgjoaa", sum := "133b96bdbeae1e50feae921e58a1e5b404c8b770a546731e3fb2c9e42c14b1b1", func := "loop.example/g01381/laws.FnAdding", spec := "fnAdding", unfollowed := true, recurses := true, apart := false }
def FnAddingSaid : Prop := fnAddingRow.holds Try.pinned (OpenSpec.ofChange fnAddingSpec)

/-- ITS FALSE NEIGHBOUR: 'it returns false'. Refute it at one input. -/
def fnAddingWrong : ChangeSpec := { name := "fnAdding", fn := fun _ => fun
  | [d1, d2] => { results := [.lit (.bool false)], args := [d1, d2] }
  | _ => none }
def FnAddingWrongFalsely : Prop := fnAddingRow.holds Try.pinned (OpenSpec.ofChange fnAddingWrong)

/-- 'laws.FnExactFarAhead': WHATEVER THE INPUT: true; the input reads as it did. -/
def fnExactFarAheadSpec : ChangeSpec := { name := "fnExactFarAhead", fn := fun _ => fun
  | [d1, d2, d3] => { results := [.lit (.bool true)], args := [d1, d2, d3] }
  | _ => none }
def fnExactFarAheadRow : OpenClaim := { program := "ytelcmohhjkgjoaa", sum := "133b96bdbeae1e50feae921e58a1e5b404c8b770a546731e3fb2c9e42c14b1b1", func := "loop.example/g01381/laws.FnExactFarAhead", spec := "fnExactFarAhead", unfollowed := true, recurses := true, apart := false }
def FnExactFarAheadSaid : Prop := fnExactFarAheadRow.holds Try.pinned (OpenSpec.ofChange fnExactFarAheadSpec)

/-- ITS FALSE NEIGHBOUR: 'it returns false'. Refute it at one input. -/
def fnExactFarAheadWrong : ChangeSpec := { name := "fnExactFarAhead", fn := fun _ => fun
  | [d1, d2, d3] => { results := [.lit (.bool false)], args := [d1, d2, d3] }
  | _ => none }
def FnExactFarAheadWrongFalsely : Prop := fnExactFarAheadRow.holds Try.pinned (OpenSpec.ofChange fnExactFarAheadWrong)

/-- 'laws.FnOnto': WHATEVER THE INPUT: true; the input reads as it did. -/
def fnOntoSpec : ChangeSpec := { name := "fnOnto", fn := fun _ => fun
  | [d1, d2] => { results := [.lit (.bool true)], args := [d1, d2] }
  | _ => none }
def fnOntoRow : OpenClaim := { program := "ytelcmohhjkgjoaa", sum := "133b96bdbeae1e50feae921e58a1e5b404c8b770a546731e3fb2c9e42c14b1b1", func := "loop.example/g01381/laws.FnOnto", spec := "fnOnto", unfollowed := true, recurses := true, apart := false }
def FnOntoSaid : Prop := fnOntoRow.holds Try.pinned (OpenSpec.ofChange fnOntoSpec)

/-- ITS FALSE NEIGHBOUR: 'it returns false'. Refute it at one input. -/
def fnOntoWrong : ChangeSpec := { name := "fnOnto", fn := fun _ => fun
  | [d1, d2] => { results := [.lit (.bool false)], args := [d1, d2] }
  | _ => none }
def FnOntoWrongFalsely : Prop := fnOntoRow.holds Try.pinned (OpenSpec.ofChange fnOntoWrong)

/-- 'laws.FnKeptSums': WHATEVER THE INPUT: true; the input reads as it did. -/
def fnKeptSumsSpec : ChangeSpec := { name := "fnKeptSums", fn := fun _ => fun
  | [d1, d2] => { results := [.lit (.bool true)], args := [d1, d2] }
  | _ => none }
def fnKeptSumsRow : OpenClaim := { program := "ytelcmohhjkgjoaa", sum := "133b96bdbeae1e50feae921e58a1e5b404c8b770a546731e3fb2c9e42c14b1b1", func := "loop.example/g01381/laws.FnKeptSums", spec := "fnKeptSums", apart := false }
def FnKeptSumsSaid : Prop := fnKeptSumsRow.holds Try.pinned (OpenSpec.ofChange fnKeptSumsSpec)

/-- ITS FALSE NEIGHBOUR: 'it returns false'. Refute it at one input. -/
def fnKeptSumsWrong : ChangeSpec := { name := "fnKeptSums", fn := fun _ => fun
  | [d1, d2] => { results := [.lit (.bool false)], args := [d1, d2] }
  | _ => none }
def FnKeptSumsWrongFalsely : Prop := fnKeptSumsRow.holds Try.pinned (OpenSpec.ofChange fnKeptSumsWrong)

/-- 'laws.FnExactDepthOf': WHATEVER THE INPUT: true; the input reads as it did. -/
def fnExactDepthOfSpec : ChangeSpec := { name := "fnExactDepthOf", fn := fun _ => fun
  | [d1, d2] => { results := [.lit (.bool true)], args := [d1, d2] }
  | _ => none }
def fnExactDepthOfRow : OpenClaim := { program := "ytelcmohhjkgjoaa", sum := "133b96bdbeae1e50feae921e58a1e5b404c8b770a546731e3fb2c9e42c14b1b1", func := "loop.example/g01381/laws.FnExactDepthOf", spec := "fnExactDepthOf", unfollowed := true, recurses := true, apart := false }
def FnExactDepthOfSaid : Prop := fnExactDepthOfRow.holds Try.pinned (OpenSpec.ofChange fnExactDepthOfSpec)

/-- ITS FALSE NEIGHBOUR: 'it returns false'. Refute it at one input. -/
def fnExactDepthOfWrong : ChangeSpec := { name := "fnExactDepthOf", fn := fun _ => fun
  | [d1, d2] => { results := [.lit (.bool false)], args := [d1, d2] }
  | _ => none }
def FnExactDepthOfWrongFalsely : Prop := fnExactDepthOfRow.holds Try.pinned (OpenSpec.ofChange fnExactDepthOfWrong)

/-- 'laws.FnExactCyclesOf': WHATEVER THE INPUT: true; the input reads as it did. -/
def fnExactCyclesOfSpec : ChangeSpec := { name := "fnExactCyclesOf", fn := fun _ => fun
  | [d1, d2] => { results := [.lit (.bool true)], args := [d1, d2] }
  | _ => none }
def fnExactCyclesOfRow : OpenClaim := { program := "ytelcmohhjkgjoaa", sum := "133b96bdbeae1e50feae921e58a1e5b404c8b770a546731e3fb2c9e42c14b1b1", func := "loop.example/g01381/laws.FnExactCyclesOf", spec := "fnExactCyclesOf", recurses := true, apart := false }
def FnExactCyclesOfSaid : Prop := fnExactCyclesOfRow.holds Try.pinned (OpenSpec.ofChange fnExactCyclesOfSpec)

/-- ITS FALSE NEIGHBOUR: 'it returns false'. Refute it at one input. -/
def fnExactCyclesOfWrong : ChangeSpec := { name := "fnExactCyclesOf", fn := fun _ => fun
  | [d1, d2] => { results := [.lit (.bool false)], args := [d1, d2] }
  | _ => none }
def FnExactCyclesOfWrongFalsely : Prop := fnExactCyclesOfRow.holds Try.pinned (OpenSpec.ofChange fnExactCyclesOfWrong)

/-- 'laws.FnCycles': WHATEVER THE INPUT: true; the input reads as it did. -/
def fnCyclesSpec : ChangeSpec := { name := "fnCycles", fn := fun _ => fun
  | [d1, d2] => { results := [.lit (.bool true)], args := [d1, d2] }
  | _ => none }
def fnCyclesRow : OpenClaim := { program := "ytelcmohhjkgjoaa", sum := "133b96bdbeae1e50feae921e58a1e5b404c8b770a546731e3fb2c9e42c14b1b1", func := "loop.example/g01381/laws.FnCycles", spec := "fnCycles", unfollowed := true, recurses := true, apart := false }
def FnCyclesSaid : Prop := fnCyclesRow.holds Try.pinned (OpenSpec.ofChange fnCyclesSpec)

/-- ITS FALSE NEIGHBOUR: 'it returns false'. Refute it at one input. -/
def fnCyclesWrong : ChangeSpec := { name := "fnCycles", fn := fun _ => fun
  | [d1, d2] => { results := [.lit (.bool false)], args := [d1, d2] }
  | _ => none }
def FnCyclesWrongFalsely : Prop := fnCyclesRow.holds Try.pinned (OpenSpec.ofChange fnCyclesWrong)

/- THE SECOND FORM. 'bulk': how many values and letters a reading holds, each counted each time it is reached (what is shared counts as often as it is met; a slice's spare places count too). A statement '..UptoSaid' is the law's where the arguments, and the package variables that the reading takes, are together of bulk at most 1048576: NARROWER than '..Said'. Prove '..Said' where nothing that the law and all that it calls make is longer than what came in: it says more and counts as full. Else prove '..UptoSaid'. A law counts once. -/
mutual
def uptoBulk {H : Type} : DataW H → Nat
  | .lit (.string bytes) => bytes.length + 1
  | .lit _ => 1
  | .nil => 1
  | .ptr d => uptoBulk d + 1
  | .slice elems spare => uptoBulkAll elems + uptoBulkAll spare + 1
  | .agg parts => uptoBulkAll parts + 1
  | .iface _ d => uptoBulk d + 1
  | .map entries => uptoBulkEntries entries + 1
  | .held _ => 1
def uptoBulkAll {H : Type} : List (DataW H) → Nat
  | [] => 0
  | d :: r => uptoBulk d + uptoBulkAll r
def uptoBulkEntries {H : Type} : List (Lit × DataW H) → Nat
  | [] => 0
  | x :: r => uptoBulkEntry x + uptoBulkEntries r
def uptoBulkEntry {H : Type} : Lit × DataW H → Nat
  | (.string bytes, d) => bytes.length + uptoBulk d + 1
  | (_, d) => uptoBulk d + 1
 end
def uptoSmall : (H : Type) → List (DataW H) → Bool := fun _ ds => decide (uptoBulkAll ds ≤ 1048576)
def OpenSpec.upto (s : _root_.Go.ChangeSpec) : _root_.Go.OpenSpec := { _root_.Go.OpenSpec.ofChange s with cond := some uptoSmall }

/-- 'laws.FnExactTurnRing', WHERE WHAT IT READS IS OF BULK AT MOST 1048576: true; the input reads as it did. -/
def fnExactTurnRingUptoRow : OpenClaim := { program := "ytelcmohhjkgjoaa", sum := "133b96bdbeae1e50feae921e58a1e5b404c8b770a546731e3fb2c9e42c14b1b1", func := "loop.example/g01381/laws.FnExactTurnRing", spec := "fnExactTurnRing", apart := false, narrowed := true }
def FnExactTurnRingUptoSaid : Prop := fnExactTurnRingUptoRow.holds Try.pinned (OpenSpec.upto fnExactTurnRingSpec)

/-- 'laws.FnExactLeastTurn', WHERE WHAT IT READS IS OF BULK AT MOST 1048576: true; the input reads as it did. -/
def fnExactLeastTurnUptoRow : OpenClaim := { program := "ytelcmohhjkgjoaa", sum := "133b96bdbeae1e50feae921e58a1e5b404c8b770a546731e3fb2c9e42c14b1b1", func := "loop.example/g01381/laws.FnExactLeastTurn", spec := "fnExactLeastTurn", apart := false, narrowed := true }
def FnExactLeastTurnUptoSaid : Prop := fnExactLeastTurnUptoRow.holds Try.pinned (OpenSpec.upto fnExactLeastTurnSpec)

/-- 'laws.FnWordsOf', WHERE WHAT IT READS IS OF BULK AT MOST 1048576: true; the input reads as it did. -/
def fnWordsOfUptoRow : OpenClaim := { program := "ytelcmohhjkgjoaa", sum := "133b96bdbeae1e50feae921e58a1e5b404c8b770a546731e3fb2c9e42c14b1b1", func := "loop.example/g01381/laws.FnWordsOf", spec := "fnWordsOf", inPlace := ["math.Float64frombits"], apart := false, narrowed := true }
def FnWordsOfUptoSaid : Prop := fnWordsOfUptoRow.holds Try.pinned (OpenSpec.upto fnWordsOfSpec)

/-- 'laws.FnTables', WHERE WHAT IT READS IS OF BULK AT MOST 1048576: true; the input reads as it did. -/
def fnTablesUptoRow : OpenClaim := { program := "ytelcmohhjkgjoaa", sum := "133b96bdbeae1e50feae921e58a1e5b404c8b770a546731e3fb2c9e42c14b1b1", func := "loop.example/g01381/laws.FnTables", spec := "fnTables", unfollowed := true, recurses := true, apart := false, narrowed := true }
def FnTablesUptoSaid : Prop := fnTablesUptoRow.holds Try.pinned (OpenSpec.upto fnTablesSpec)

/-- 'laws.FnAdding', WHERE WHAT IT READS IS OF BULK AT MOST 1048576: true; the input reads as it did. -/
def fnAddingUptoRow : OpenClaim := { program := "ytelcmohhjkgjoaa", sum := "133b96bdbeae1e50feae921e58a1e5b404c8b770a546731e3fb2c9e42c14b1b1", func := "loop.example/g01381/laws.FnAdding", spec := "fnAdding", unfollowed := true, recurses := true, apart := false, narrowed := true }
def FnAddingUptoSaid : Prop := fnAddingUptoRow.holds Try.pinned (OpenSpec.upto fnAddingSpec)

/-- 'laws.FnExactFarAhead', WHERE WHAT IT READS IS OF BULK AT MOST 1048576: true; the input reads as it did. -/
def fnExactFarAheadUptoRow : OpenClaim := { program := "ytelcmohhjkgjoaa", sum := "133b96bdbeae1e50feae921e58a1e5b404c8b770a546731e3fb2c9e42c14b1b1", func := "loop.example/g01381/laws.FnExactFarAhead", spec := "fnExactFarAhead", unfollowed := true, recurses := true, apart := false, narrowed := true }
def FnExactFarAheadUptoSaid : Prop := fnExactFarAheadUptoRow.holds Try.pinned (OpenSpec.upto fnExactFarAheadSpec)

/-- 'laws.FnOnto', WHERE WHAT IT READS IS OF BULK AT MOST 1048576: true; the input reads as it did. -/
def fnOntoUptoRow : OpenClaim := { program := "ytelcmohhjkgjoaa", sum := "133b96bdbeae1e50feae921e58a1e5b404c8b770a546731e3fb2c9e42c14b1b1", func := "loop.example/g01381/laws.FnOnto", spec := "fnOnto", unfollowed := true, recurses := true, apart := false, narrowed := true }
def FnOntoUptoSaid : Prop := fnOntoUptoRow.holds Try.pinned (OpenSpec.upto fnOntoSpec)

/-- 'laws.FnKeptSums', WHERE WHAT IT READS IS OF BULK AT MOST 1048576: true; the input reads as it did. -/
def fnKeptSumsUptoRow : OpenClaim := { program := "ytelcmohhjkgjoaa", sum := "133b96bdbeae1e50feae921e58a1e5b404c8b770a546731e3fb2c9e42c14b1b1", func := "loop.example/g01381/laws.FnKeptSums", spec := "fnKeptSums", apart := false, narrowed := true }
def FnKeptSumsUptoSaid : Prop := fnKeptSumsUptoRow.holds Try.pinned (OpenSpec.upto fnKeptSumsSpec)

/-- 'laws.FnExactDepthOf', WHERE WHAT IT READS IS OF BULK AT MOST 1048576: true; the input reads as it did. -/
def fnExactDepthOfUptoRow : OpenClaim := { program := "ytelcmohhjkgjoaa", sum := "133b96bdbeae1e50feae921e58a1e5b404c8b770a546731e3fb2c9e42c14b1b1", func := "loop.example/g01381/laws.FnExactDepthOf", spec := "fnExactDepthOf", unfollowed := true, recurses := true, apart := false, narrowed := true }
def FnExactDepthOfUptoSaid : Prop := fnExactDepthOfUptoRow.holds Try.pinned (OpenSpec.upto fnExactDepthOfSpec)

/-- 'laws.FnExactCyclesOf', WHERE WHAT IT READS IS OF BULK AT MOST 1048576: true; the input reads as it did. -/
def fnExactCyclesOfUptoRow : OpenClaim := { program := "ytelcmohhjkgjoaa", sum := "133b96bdbeae1e50feae921e58a1e5b404c8b770a546731e3fb2c9e42c14b1b1", func := "loop.example/g01381/laws.FnExactCyclesOf", spec := "fnExactCyclesOf", recurses := true, apart := false, narrowed := true }
def FnExactCyclesOfUptoSaid : Prop := fnExactCyclesOfUptoRow.holds Try.pinned (OpenSpec.upto fnExactCyclesOfSpec)

/-- 'laws.FnCycles', WHERE WHAT IT READS IS OF BULK AT MOST 1048576: true; the input reads as it did. -/
def fnCyclesUptoRow : OpenClaim := { program := "ytelcmohhjkgjoaa", sum := "133b96bdbeae1e50feae921e58a1e5b404c8b770a546731e3fb2c9e42c14b1b1", func := "loop.example/g01381/laws.FnCycles", spec := "fnCycles", unfollowed := true, recurses := true, apart := false, narrowed := true }
def FnCyclesUptoSaid : Prop := fnCyclesUptoRow.holds Try.pinned (OpenSpec.upto fnCyclesSpec)

end Rows
end Go.Proofs.Ytelcmohhjkgjoaa
