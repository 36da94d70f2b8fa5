/- The law FnExactFieldsShared holds: its function returns true, whatever it is given. -/
import Derived.Test.YthbffbpdoankjaaRows
import Derived.Test.YthbffbpdoankjaaVFieldsShared
import Derived.Test.YthbffbpdoankjaaLF
import Derived.Test.YthbffbpdoankjaaLA
import Derived.WalkKit
import Derived.ProofKit
import Derived.OpenShut
import Derived.ShutString
import Derived.ChangeOld
import Derived.Below
import Derived.SizedLaws
import Derived.Laws.Cover2
namespace Go.Proofs.Ythbffbpdoankjaa.fnExactFieldsShared
open Go.ChangeShapes Go.WideShapes Go.ChangeAt Go.RowKit
open Go.ChangeMaps (open_string shut_string)
open HL
set_option linter.unusedVariables false
theorem own : ownKnob Try.prog.godebug = none := by kernel_rfl
theorem laidOut : laidOutB Try.prog = true := by kernel_rfl
set_option maxRecDepth 100000 in
theorem lifted (os : Os) (started : os.Started) (H : Type) (enc : TypeId × Value → H) :
    ReturnsInHanded {} Try.checked os 11 .any (Rows.fnExactFieldsSharedSpec.pre6 enc Try.prog Try.f11 Rows.fnExactFieldsSharedRow.domain false) (Rows.fnExactFieldsSharedSpec.post enc Try.prog Try.f11 false true false false) := by
  refine returnsInHanded_of_change_sized (C := Try.checked) own started (by kernel_rfl) Try.func11
    (ChangeSpec.witness6 (enc := enc) (C := Try.checked) false ⟨#[], #[(.agg #[(.slice none 0 0), (.slice none 0 0)]), (.slice none 0 0), (.bool false), (.int .i64 0), (.int .i64 0)], []⟩ 8 (by kernel_rfl) (by kernel_rfl) (by kernel_rfl) (by kernel_rfl)) ?_
  intro W base args ds gs before hval0 hW hcnd hsz0 _
  have hval : ∀ (j : Nat) t v, Try.f11.params[j]? = some t → args[j]? = some v → Value.okWide Try.prog W .any base t v := hval0
  have hW' := hW
  obtain ⟨p, q, hA0, hV, rfl, hfz, hnd⟩ := hW
  have hA : DataW.TrodAll enc Try.prog W 0 (fun _ => true) true Try.f11.params.toList args.toList ds p := hA0
  rw [Try.params11] at hA hval
  obtain ⟨v0, vs0, d0, ds0, p0, q0, hargs, rfl, rfl, h0, r0⟩ := trodAll_cons hA
  obtain ⟨v1, vs1, d1, ds1, p1, q1, rfl, rfl, rfl, h1, r1⟩ := trodAll_cons r0
  obtain ⟨v2, vs2, d2, ds2, p2, q2, rfl, rfl, rfl, h2, r2⟩ := trodAll_cons r1
  obtain ⟨v3, vs3, d3, ds3, p3, q3, rfl, rfl, rfl, h3, r3⟩ := trodAll_cons r2
  obtain ⟨v4, vs4, d4, ds4, p4, q4, rfl, rfl, rfl, h4, r4⟩ := trodAll_cons r3
  obtain ⟨rfl, rfl, rfl⟩ := trodAll_nil r4
  obtain rfl : args = #[v0, v1, v2, v3, v4] := by cases args; simp_all
  obtain ⟨rfl, rfl⟩ := trodVars_none hV
  have k0 := h0
  have lt0 : ∀ x ∈ p0, x.block < W.heap.size := by obtain ⟨m, hm⟩ := k0; exact DataW.trod_lt m _ _ _ hm
  obtain ⟨cs0, rfl, hn0⟩ := okWide_struct Try.underlying24 (hval 0 24 v0 rfl rfl)
  obtain ⟨e0xa, e0xb, rfl⟩ := arr2 (hn0.trans (by kernel_rfl : Try.prog.cellsOf 24 = 2))
  obtain ⟨fu0, hfu0⟩ := h0
  obtain ⟨xs0, m0, _, _, _, hlen0, hf0⟩ := DataW.trod_struct Try.underlying24 hfu0
  obtain ⟨y0xa, y0xb, rfl⟩ : ∃ y0xa y0xb, xs0 = [y0xa, y0xb] := by
    match xs0, hlen0 with
    | [y0xa, y0xb], _ => exact ⟨y0xa, y0xb, rfl⟩
  have t0a : DataW.trod enc Try.prog W 0 (fun _ => true) true m0 22 [e0xa] = some y0xa := by
    have : DataW.trod enc Try.prog W 0 (fun _ => true) true m0 22 (([e0xa, e0xb].drop 0).take (Try.prog.cellsOf 22)) = some y0xa := hf0 0 _ rfl
    rw [(by kernel_rfl : Try.prog.cellsOf 22 = 1)] at this
    exact this
  have t0b : DataW.trod enc Try.prog W 0 (fun _ => true) true m0 22 [e0xb] = some y0xb := by
    have : DataW.trod enc Try.prog W 0 (fun _ => true) true m0 22 (([e0xa, e0xb].drop 1).take (Try.prog.cellsOf 22)) = some y0xb := hf0 1 _ rfl
    rw [(by kernel_rfl : Try.prog.cellsOf 22 = 1)] at this
    exact this
  obtain ⟨b0a, l0a, en0a, sl0a, mx0a, rg0a⟩ := sl_of_ints Try.underlying22 Try.underlying2 (by kernel_rfl) t0a
  obtain rfl : e0xa = b0a := by simpa using en0a
  obtain ⟨b0b, l0b, en0b, sl0b, mx0b, rg0b⟩ := sl_of_ints Try.underlying22 Try.underlying2 (by kernel_rfl) t0b
  obtain rfl : e0xb = b0b := by simpa using en0b
  have k1 := h1
  have lt1 : ∀ x ∈ p1, x.block < W.heap.size := by obtain ⟨m, hm⟩ := k1; exact DataW.trod_lt m _ _ _ hm
  obtain ⟨a1, len1, cap1, rfl⟩ := okWide_slice Try.underlying53 (hval 1 53 v1 rfl rfl)
  obtain ⟨b1, fs1, en1, sl1, mx1, mf1⟩ : ∃ b fs, (Value.slice a1 len1 cap1).cells.toList = [b] ∧ FamS (whole W) b fs ∧ fs.length ≤ 9223372036854775807 ∧ ∀ f ∈ fs, f.l.length ≤ 9223372036854775807 := by
    obtain ⟨fuel, hf⟩ := h1
    exact fam_of_rows Try.underlying53 (by kernel_rfl) (fun n v0 v1 v2 y hy => trod_field Try.underlying26 rfl rfl rfl (by kernel_rfl) (by kernel_rfl) (by kernel_rfl) Try.underlying2 Try.underlying2 Try.underlying22 Try.underlying2 (by kernel_rfl) hy) hf
  obtain rfl : b1 = Value.slice a1 len1 cap1 := by simpa [Value.cells] using en1.symm
  have k2 := h2
  have lt2 : ∀ x ∈ p2, x.block < W.heap.size := by obtain ⟨m, hm⟩ := k2; exact DataW.trod_lt m _ _ _ hm
  obtain ⟨n2, rfl, rfl, rfl⟩ := open_bool Try.underlying4 (hval 2 4 v2 rfl rfl) h2
  have k3 := h3
  have lt3 : ∀ x ∈ p3, x.block < W.heap.size := by obtain ⟨m, hm⟩ := k3; exact DataW.trod_lt m _ _ _ hm
  obtain ⟨n3, rfl, rfl, rfl, wf3⟩ := open_int Try.underlying2 (hval 3 2 v3 rfl rfl) h3
  have k4 := h4
  have lt4 : ∀ x ∈ p4, x.block < W.heap.size := by obtain ⟨m, hm⟩ := k4; exact DataW.trod_lt m _ _ _ hm
  obtain ⟨n4, rfl, rfl, rfl, wf4⟩ := open_int Try.underlying2 (hval 4 2 v4 rfl rfl) h4
  clear hA0 hval0 hsz0
  refine (calls_true (P := prg) (L.FnExactFieldsShared sl0a sl0b sl1 (int_wf wf3).1 (int_wf wf3).2 (int_wf wf4).1 (int_wf wf4).2 mx0a mx0b mx1 mf1 (fun H' hle => ⟨rfl, hle⟩))).mono fun e W' ⟨he, bel⟩ => ?_
  subst he
  exact ⟨_, rfl, _, _, _, [], _, [], hW', trodAll_mk1 (shut_bool Try.underlying4 _), (trodAll_cons_mk (Below.trod laidOut (by kernel_rfl) (of_decide_eq_true (by kernel_rfl)) k0 bel lt0) (trodAll_cons_mk (Below.trod laidOut (by kernel_rfl) (of_decide_eq_true (by kernel_rfl)) k1 bel lt1) (trodAll_cons_mk (Below.trod laidOut (by kernel_rfl) (of_decide_eq_true (by kernel_rfl)) k2 bel lt2) (trodAll_cons_mk (Below.trod laidOut (by kernel_rfl) (of_decide_eq_true (by kernel_rfl)) k3 bel lt3) (trodAll_cons_mk (Below.trod laidOut (by kernel_rfl) (of_decide_eq_true (by kernel_rfl)) k4 bel lt4) trodAll_mk0))))), rfl, bel.frame _, fun h => by cases h⟩
theorem over : Rows.fnExactFieldsSharedRow.holds Try.pinned (OpenSpec.ofChange Rows.fnExactFieldsSharedSpec) :=
  OpenClaim.holds_of_wide 11 Try.f11 rfl rfl rfl rfl rfl rfl rfl ⟨rfl, rfl, rfl, rfl, rfl⟩ rfl rfl rfl rfl rfl (by kernel_rfl) Try.func11 (by kernel_rfl)
    (of_decide_eq_true (by kernel_rfl)) (by unfold Func.isWrapper; first | (rw [if_pos (by decide +kernel)]; kernel_rfl) | (rw [if_neg (by decide +kernel)]; exact ⟨rfl, rfl⟩))
    (fun os started H enc _ => lifted os started H enc)
end Go.Proofs.Ythbffbpdoankjaa.fnExactFieldsShared
namespace Go.Proofs.Ythbffbpdoankjaa
/-- The statement, as it is given. -/
theorem fnExactFieldsShared_holds : Rows.FnExactFieldsSharedSaid := fnExactFieldsShared.over
end Go.Proofs.Ythbffbpdoankjaa
