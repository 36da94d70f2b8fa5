/- The law FnExactDepthOf holds: its function returns true, whatever it is given. -/
import Derived.Test.YthmdmbbdjbhcoaaRows
import Derived.Test.YthmdmbbdjbhcoaaVDepthOf
import Derived.Test.YthmdmbbdjbhcoaaMDepthOf1
import Derived.WalkKit
import Derived.ProofKit
import Derived.OpenShut
import Derived.ShutString
import Derived.ChangeOld
import Derived.Below
import Derived.SizedLaws
import Derived.Laws.Cover2
namespace Go.Proofs.Ythmdmbbdjbhcoaa.fnExactDepthOf
open Go.ChangeShapes Go.WideShapes Go.ChangeAt Go.RowKit
open Go.ChangeMaps (open_string shut_string)
open HL
set_option linter.unusedVariables false
theorem own : ownKnob Try.prog.godebug = none := by kernel_rfl
theorem laidOut : laidOutB Try.prog = true := by kernel_rfl
set_option maxRecDepth 100000 in
theorem lifted (os : Os) (started : os.Started) (H : Type) (enc : TypeId × Value → H) :
    ReturnsInHanded {} Try.checked os 3 .any (Rows.fnExactDepthOfSpec.pre6 enc Try.prog Try.f3 Rows.fnExactDepthOfRow.domain false) (Rows.fnExactDepthOfSpec.post enc Try.prog Try.f3 false true false false) := by
  refine returnsInHanded_of_change_sized (C := Try.checked) own started (by kernel_rfl) Try.func3
    (ChangeSpec.witness6 (enc := enc) (C := Try.checked) false ⟨#[], #[(.agg #[(.int .i64 0), (.int .i64 0), (.slice none 0 0)]), (.int .i64 0)], []⟩ 8 (by kernel_rfl) (by kernel_rfl) (by kernel_rfl) (by kernel_rfl)) ?_
  intro W base args ds gs before hval0 hW hcnd hsz0 _
  have hval : ∀ (j : Nat) t v, Try.f3.params[j]? = some t → args[j]? = some v → Value.okWide Try.prog W .any base t v := hval0
  have hW' := hW
  obtain ⟨p, q, hA0, hV, rfl, hfz, hnd⟩ := hW
  have hA : DataW.TrodAll enc Try.prog W 0 (fun _ => true) true Try.f3.params.toList args.toList ds p := hA0
  rw [Try.params3] at hA hval
  obtain ⟨v0, vs0, d0, ds0, p0, q0, hargs, rfl, rfl, h0, r0⟩ := trodAll_cons hA
  obtain ⟨v1, vs1, d1, ds1, p1, q1, rfl, rfl, rfl, h1, r1⟩ := trodAll_cons r0
  obtain ⟨rfl, rfl, rfl⟩ := trodAll_nil r1
  obtain rfl : args = #[v0, v1] := by cases args; simp_all
  obtain ⟨rfl, rfl⟩ := trodVars_none hV
  have k0 := h0
  have lt0 : ∀ x ∈ p0, x.block < W.heap.size := by obtain ⟨m, hm⟩ := k0; exact DataW.trod_lt m _ _ _ hm
  obtain ⟨cs0, rfl, hn0⟩ := okWide_struct Try.underlying24 (hval 0 24 v0 rfl rfl)
  obtain ⟨e0xa, e0xb, e0xc, rfl⟩ := arr3 (hn0.trans (by kernel_rfl : Try.prog.cellsOf 24 = 3))
  obtain ⟨fu0, hfu0⟩ := h0
  obtain ⟨xs0, m0, _, _, _, hlen0, hf0⟩ := DataW.trod_struct Try.underlying24 hfu0
  obtain ⟨y0xa, y0xb, y0xc, rfl⟩ : ∃ y0xa y0xb y0xc, xs0 = [y0xa, y0xb, y0xc] := by
    match xs0, hlen0 with
    | [y0xa, y0xb, y0xc], _ => exact ⟨y0xa, y0xb, y0xc, rfl⟩
  have t0a : DataW.trod enc Try.prog W 0 (fun _ => true) true m0 2 [e0xa] = some y0xa := by
    have : DataW.trod enc Try.prog W 0 (fun _ => true) true m0 2 (([e0xa, e0xb, e0xc].drop 0).take (Try.prog.cellsOf 2)) = some y0xa := hf0 0 _ rfl
    rw [(by kernel_rfl : Try.prog.cellsOf 2 = 1)] at this
    exact this
  have t0b : DataW.trod enc Try.prog W 0 (fun _ => true) true m0 2 [e0xb] = some y0xb := by
    have : DataW.trod enc Try.prog W 0 (fun _ => true) true m0 2 (([e0xa, e0xb, e0xc].drop 1).take (Try.prog.cellsOf 2)) = some y0xb := hf0 1 _ rfl
    rw [(by kernel_rfl : Try.prog.cellsOf 2 = 1)] at this
    exact this
  have t0c : DataW.trod enc Try.prog W 0 (fun _ => true) true m0 22 [e0xc] = some y0xc := by
    have : DataW.trod enc Try.prog W 0 (fun _ => true) true m0 22 (([e0xa, e0xb, e0xc].drop 2).take (Try.prog.cellsOf 22)) = some y0xc := hf0 2 _ rfl
    rw [(by kernel_rfl : Try.prog.cellsOf 22 = 1)] at this
    exact this
  obtain ⟨n0a, en0a, _, wf0a⟩ := DataW.trod_int Try.underlying2 t0a
  obtain rfl : e0xa = .int .i64 n0a := by simpa using en0a
  obtain ⟨n0b, en0b, _, wf0b⟩ := DataW.trod_int Try.underlying2 t0b
  obtain rfl : e0xb = .int .i64 n0b := by simpa using en0b
  obtain ⟨b0c, l0c, en0c, sl0c, mx0c, rg0c⟩ := sl_of_ints Try.underlying22 Try.underlying2 (by kernel_rfl) t0c
  obtain rfl : e0xc = b0c := by simpa using en0c
  have k1 := h1
  have lt1 : ∀ x ∈ p1, x.block < W.heap.size := by obtain ⟨m, hm⟩ := k1; exact DataW.trod_lt m _ _ _ hm
  obtain ⟨n1, rfl, rfl, rfl, wf1⟩ := open_int Try.underlying2 (hval 1 2 v1 rfl rfl) h1
  clear hA0 hval0 hsz0
  refine (calls_true (P := prg) (L.FnExactDepthOf sl0c (int_wf wf1).1 (int_wf wf1).2 mx0c (fun H' hle => ⟨rfl, hle⟩))).mono fun e W' ⟨he, bel⟩ => ?_
  subst he
  exact ⟨_, rfl, _, _, _, [], _, [], hW', trodAll_mk1 (shut_bool Try.underlying4 _), (trodAll_cons_mk (Below.trod laidOut (by kernel_rfl) (of_decide_eq_true (by kernel_rfl)) k0 bel lt0) (trodAll_cons_mk (Below.trod laidOut (by kernel_rfl) (of_decide_eq_true (by kernel_rfl)) k1 bel lt1) trodAll_mk0)), rfl, bel.frame _, fun h => by cases h⟩
theorem over : Rows.fnExactDepthOfRow.holds Try.pinned (OpenSpec.ofChange Rows.fnExactDepthOfSpec) :=
  OpenClaim.holds_of_wide 3 Try.f3 rfl rfl rfl rfl rfl rfl rfl ⟨rfl, rfl, rfl, rfl, rfl⟩ rfl rfl rfl rfl rfl (by kernel_rfl) Try.func3 (by kernel_rfl)
    (of_decide_eq_true (by kernel_rfl)) (by unfold Func.isWrapper; first | (rw [if_pos (by decide +kernel)]; kernel_rfl) | (rw [if_neg (by decide +kernel)]; exact ⟨rfl, rfl⟩))
    (fun os started H enc _ => lifted os started H enc)
end Go.Proofs.Ythmdmbbdjbhcoaa.fnExactDepthOf
namespace Go.Proofs.Ythmdmbbdjbhcoaa
/-- The statement, as it is given. -/
theorem fnExactDepthOf_holds : Rows.FnExactDepthOfSaid := fnExactDepthOf.over
end Go.Proofs.Ythmdmbbdjbhcoaa
