/- The law FnExactFateOf holds: its function returns true, whatever it is given. -/
import Derived.Test.YthbffbpdoankjaaRows
import Derived.Test.YthbffbpdoankjaaVFateOf
import Derived.Test.YthbffbpdoankjaaLA
import Derived.WalkKit
import Derived.ProofKit
import Derived.OpenShut
import Derived.ShutString
import Derived.ChangeOld
import Derived.Below
import Derived.SizedLaws
import Derived.Laws.Cover2
namespace Go.Proofs.Ythbffbpdoankjaa.fnExactFateOf
open Go.ChangeShapes Go.WideShapes Go.ChangeAt Go.RowKit
open Go.ChangeMaps (open_string shut_string)
open HL
set_option linter.unusedVariables false
theorem own : ownKnob Try.prog.godebug = none := by kernel_rfl
theorem laidOut : laidOutB Try.prog = true := by kernel_rfl
set_option maxRecDepth 100000 in
theorem lifted (os : Os) (started : os.Started) (H : Type) (enc : TypeId × Value → H) :
    ReturnsInHanded {} Try.checked os 14 .any (Rows.fnExactFateOfSpec.pre6 enc Try.prog Try.f14 Rows.fnExactFateOfRow.domain false) (Rows.fnExactFateOfSpec.post enc Try.prog Try.f14 false true false false) := by
  refine returnsInHanded_of_change_sized (C := Try.checked) own started (by kernel_rfl) Try.func14
    (ChangeSpec.witness6 (enc := enc) (C := Try.checked) false ⟨#[], #[(.agg #[(.slice none 0 0), (.slice none 0 0)]), (.agg #[(.int .i64 0), (.int .i64 0), (.slice none 0 0)]), (.int .i64 0)], []⟩ 8 (by kernel_rfl) (by kernel_rfl) (by kernel_rfl) (by kernel_rfl)) ?_
  intro W base args ds gs before hval0 hW hcnd hsz0 _
  have hval : ∀ (j : Nat) t v, Try.f14.params[j]? = some t → args[j]? = some v → Value.okWide Try.prog W .any base t v := hval0
  have hW' := hW
  obtain ⟨p, q, hA0, hV, rfl, hfz, hnd⟩ := hW
  have hA : DataW.TrodAll enc Try.prog W 0 (fun _ => true) true Try.f14.params.toList args.toList ds p := hA0
  rw [Try.params14] at hA hval
  obtain ⟨v0, vs0, d0, ds0, p0, q0, hargs, rfl, rfl, h0, r0⟩ := trodAll_cons hA
  obtain ⟨v1, vs1, d1, ds1, p1, q1, rfl, rfl, rfl, h1, r1⟩ := trodAll_cons r0
  obtain ⟨v2, vs2, d2, ds2, p2, q2, rfl, rfl, rfl, h2, r2⟩ := trodAll_cons r1
  obtain ⟨rfl, rfl, rfl⟩ := trodAll_nil r2
  obtain rfl : args = #[v0, v1, v2] := by cases args; simp_all
  obtain ⟨rfl, rfl⟩ := trodVars_none hV
  have k0 := h0
  have lt0 : ∀ x ∈ p0, x.block < W.heap.size := by obtain ⟨m, hm⟩ := k0; exact DataW.trod_lt m _ _ _ hm
  obtain ⟨cs0, rfl, hn0⟩ := okWide_struct Try.underlying24 (hval 0 24 v0 rfl rfl)
  obtain ⟨e0xa, e0xb, rfl⟩ := arr2 (hn0.trans (by kernel_rfl : Try.prog.cellsOf 24 = 2))
  obtain ⟨fu0, hfu0⟩ := h0
  obtain ⟨xs0, m0, _, _, _, hlen0, hf0⟩ := DataW.trod_struct Try.underlying24 hfu0
  obtain ⟨y0xa, y0xb, rfl⟩ : ∃ y0xa y0xb, xs0 = [y0xa, y0xb] := by
    match xs0, hlen0 with
    | [y0xa, y0xb], _ => exact ⟨y0xa, y0xb, rfl⟩
  have t0a : DataW.trod enc Try.prog W 0 (fun _ => true) true m0 22 [e0xa] = some y0xa := by
    have : DataW.trod enc Try.prog W 0 (fun _ => true) true m0 22 (([e0xa, e0xb].drop 0).take (Try.prog.cellsOf 22)) = some y0xa := hf0 0 _ rfl
    rw [(by kernel_rfl : Try.prog.cellsOf 22 = 1)] at this
    exact this
  have t0b : DataW.trod enc Try.prog W 0 (fun _ => true) true m0 22 [e0xb] = some y0xb := by
    have : DataW.trod enc Try.prog W 0 (fun _ => true) true m0 22 (([e0xa, e0xb].drop 1).take (Try.prog.cellsOf 22)) = some y0xb := hf0 1 _ rfl
    rw [(by kernel_rfl : Try.prog.cellsOf 22 = 1)] at this
    exact this
  obtain ⟨b0a, l0a, en0a, sl0a, mx0a, rg0a⟩ := sl_of_ints Try.underlying22 Try.underlying2 (by kernel_rfl) t0a
  obtain rfl : e0xa = b0a := by simpa using en0a
  obtain ⟨b0b, l0b, en0b, sl0b, mx0b, rg0b⟩ := sl_of_ints Try.underlying22 Try.underlying2 (by kernel_rfl) t0b
  obtain rfl : e0xb = b0b := by simpa using en0b
  have k1 := h1
  have lt1 : ∀ x ∈ p1, x.block < W.heap.size := by obtain ⟨m, hm⟩ := k1; exact DataW.trod_lt m _ _ _ hm
  obtain ⟨cs1, rfl, hn1⟩ := okWide_struct Try.underlying26 (hval 1 26 v1 rfl rfl)
  obtain ⟨e1xa, e1xb, e1xc, rfl⟩ := arr3 (hn1.trans (by kernel_rfl : Try.prog.cellsOf 26 = 3))
  obtain ⟨fu1, hfu1⟩ := h1
  obtain ⟨xs1, m1, _, _, _, hlen1, hf1⟩ := DataW.trod_struct Try.underlying26 hfu1
  obtain ⟨y1xa, y1xb, y1xc, rfl⟩ : ∃ y1xa y1xb y1xc, xs1 = [y1xa, y1xb, y1xc] := by
    match xs1, hlen1 with
    | [y1xa, y1xb, y1xc], _ => exact ⟨y1xa, y1xb, y1xc, rfl⟩
  have t1a : DataW.trod enc Try.prog W 0 (fun _ => true) true m1 2 [e1xa] = some y1xa := by
    have : DataW.trod enc Try.prog W 0 (fun _ => true) true m1 2 (([e1xa, e1xb, e1xc].drop 0).take (Try.prog.cellsOf 2)) = some y1xa := hf1 0 _ rfl
    rw [(by kernel_rfl : Try.prog.cellsOf 2 = 1)] at this
    exact this
  have t1b : DataW.trod enc Try.prog W 0 (fun _ => true) true m1 2 [e1xb] = some y1xb := by
    have : DataW.trod enc Try.prog W 0 (fun _ => true) true m1 2 (([e1xa, e1xb, e1xc].drop 1).take (Try.prog.cellsOf 2)) = some y1xb := hf1 1 _ rfl
    rw [(by kernel_rfl : Try.prog.cellsOf 2 = 1)] at this
    exact this
  have t1c : DataW.trod enc Try.prog W 0 (fun _ => true) true m1 22 [e1xc] = some y1xc := by
    have : DataW.trod enc Try.prog W 0 (fun _ => true) true m1 22 (([e1xa, e1xb, e1xc].drop 2).take (Try.prog.cellsOf 22)) = some y1xc := hf1 2 _ rfl
    rw [(by kernel_rfl : Try.prog.cellsOf 22 = 1)] at this
    exact this
  obtain ⟨n1a, en1a, _, wf1a⟩ := DataW.trod_int Try.underlying2 t1a
  obtain rfl : e1xa = .int .i64 n1a := by simpa using en1a
  obtain ⟨n1b, en1b, _, wf1b⟩ := DataW.trod_int Try.underlying2 t1b
  obtain rfl : e1xb = .int .i64 n1b := by simpa using en1b
  obtain ⟨b1c, l1c, en1c, sl1c, mx1c, rg1c⟩ := sl_of_ints Try.underlying22 Try.underlying2 (by kernel_rfl) t1c
  obtain rfl : e1xc = b1c := by simpa using en1c
  have k2 := h2
  have lt2 : ∀ x ∈ p2, x.block < W.heap.size := by obtain ⟨m, hm⟩ := k2; exact DataW.trod_lt m _ _ _ hm
  obtain ⟨n2, rfl, rfl, rfl, wf2⟩ := open_int Try.underlying2 (hval 2 2 v2 rfl rfl) h2
  clear hA0 hval0 hsz0
  refine (calls_true (P := prg) (L.FnExactFateOf sl0a sl0b sl1c (int_wf wf2).1 (int_wf wf2).2 mx0a mx0b mx1c (fun H' hle => ⟨rfl, hle⟩))).mono fun e W' ⟨he, bel⟩ => ?_
  subst he
  exact ⟨_, rfl, _, _, _, [], _, [], hW', trodAll_mk1 (shut_bool Try.underlying4 _), (trodAll_cons_mk (Below.trod laidOut (by kernel_rfl) (of_decide_eq_true (by kernel_rfl)) k0 bel lt0) (trodAll_cons_mk (Below.trod laidOut (by kernel_rfl) (of_decide_eq_true (by kernel_rfl)) k1 bel lt1) (trodAll_cons_mk (Below.trod laidOut (by kernel_rfl) (of_decide_eq_true (by kernel_rfl)) k2 bel lt2) trodAll_mk0))), rfl, bel.frame _, fun h => by cases h⟩
theorem over : Rows.fnExactFateOfRow.holds Try.pinned (OpenSpec.ofChange Rows.fnExactFateOfSpec) :=
  OpenClaim.holds_of_wide 14 Try.f14 rfl rfl rfl rfl rfl rfl rfl ⟨rfl, rfl, rfl, rfl, rfl⟩ rfl rfl rfl rfl rfl (by kernel_rfl) Try.func14 (by kernel_rfl)
    (of_decide_eq_true (by kernel_rfl)) (by unfold Func.isWrapper; first | (rw [if_pos (by decide +kernel)]; kernel_rfl) | (rw [if_neg (by decide +kernel)]; exact ⟨rfl, rfl⟩))
    (fun os started H enc _ => lifted os started H enc)
end Go.Proofs.Ythbffbpdoankjaa.fnExactFateOf
namespace Go.Proofs.Ythbffbpdoankjaa
/-- The statement, as it is given. -/
theorem fnExactFateOf_holds : Rows.FnExactFateOfSaid := fnExactFateOf.over
end Go.Proofs.Ythbffbpdoankjaa
