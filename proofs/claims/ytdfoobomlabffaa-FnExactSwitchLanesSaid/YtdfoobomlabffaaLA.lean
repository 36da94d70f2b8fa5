/- From a contract over a whole heap to a call's end: what the statement asks. -/
import Derived.Test.YtdfoobomlabffaaSB
import Derived.Test.YtdfoobomlabffaaG0
import Derived.Below
import Derived.WalkKit
import Derived.ProofKit
namespace Go.Proofs.Ytdfoobomlabffaa.HL
open Go.RowKit

/-- All of a world's blocks. -/
def whole (W : World) : Hp := fun b => W.heap[b]?
theorem whole_sub (W : World) : Sub (whole W) W := fun _ _ h => h

theorem calls_true {P : Program} {f : FuncId} {args : Array Value} {W : World} (h : HT P f args (whole W) (fun v H' => v = .bool true ∧ Le (whole W) H')) :
    Calls P f args W (fun e W' => e = .returned (.bool true) ∧ Below W.heap.size W W') := by
  refine (h W (whole_sub W)).mono ?_
  rintro e W' ⟨v, H', rfl, hs, fr, rfl, hle⟩
  refine ⟨rfl, fr.os, fr.tape, fr.output, fr.size, fun k hk => ?_⟩
  have h1 : whole W k = some W.heap[k] := by unfold whole; exact Array.getElem?_eq_getElem hk
  have h2 := hs k _ (hle k _ h1)
  rw [h2, Array.getElem?_eq_getElem hk]

/-- A row of numbers of the world, as the kit's rows tell it. -/
def IsRow (k : IntKind) (w : World) (a : Option Addr) (len cap : Nat) (zs : List Int) : Prop :=
  (a = none ∧ len = 0 ∧ cap = 0 ∧ zs = []) ∨
  ∃ x, a = some x ∧ len ≤ cap ∧ cap ≤ maxLen ∧ zs.length = cap ∧ (∀ i, i < zs.length → w.cell? (x.add i) = some (.int k (zs.getD i 0))) ∧ ∀ n ∈ zs, (Lit.int k n).wf = true

theorem sl_of_row {W : World} {a : Option Addr} {len cap : Nat} {zs : List Int} (h : IsRow .i64 W a len cap zs) : Sl eI (whole W) (.slice a len cap) (zs.take len) := by
  rcases h with ⟨rfl, rfl, rfl, rfl⟩ | ⟨x, rfl, h1, _, h3, h4, _⟩
  · exact Sl.nil 0 none
  · have hlen : (zs.take len).length = len := by simp; omega
    refine ⟨some x, cap, by rw [hlen], by omega, fun i hi => ⟨x, rfl, ?_⟩⟩
    have hi' : i < zs.length := by simp at hi; omega
    have := h4 i hi'
    rw [List.getElem_take]
    rw [List.getD_eq_getElem?_getD, List.getElem?_eq_getElem hi'] at this
    exact this
theorem row_max {W : World} {a : Option Addr} {len cap : Nat} {zs : List Int} (h : IsRow .i64 W a len cap zs) : (zs.take len).length ≤ 9223372036854775807 := by
  rcases h with ⟨rfl, rfl, rfl, rfl⟩ | ⟨x, rfl, h1, h2, h3, _, _⟩
  · simp
  · have : maxLen = 9223372036854775807 := by decide
    simp; omega
theorem int_wf {n : Int} (h : (Lit.int .i64 n).wf = true) : -9223372036854775808 ≤ n ∧ n < 9223372036854775808 := by
  unfold Lit.wf at h
  simp [IntKind.min, IntKind.max, IntKind.signed, IntKind.bits] at h
  omega
end Go.Proofs.Ytdfoobomlabffaa.HL
