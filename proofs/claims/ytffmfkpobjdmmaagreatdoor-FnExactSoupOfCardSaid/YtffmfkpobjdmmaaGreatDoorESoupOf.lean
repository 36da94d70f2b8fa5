/- The law FnExactSoupOf holds: its function returns true, whatever it is given. -/
import Derived.Test.YtffmfkpobjdmmaaGreatDoorRows
import Derived.Test.YtffmfkpobjdmmaaGreatDoorVSoupOf
import Derived.Test.YtffmfkpobjdmmaaGreatDoorMSoupOf5
import Derived.Test.YtffmfkpobjdmmaaGreatDoorCards
import Derived.Test.YtffmfkpobjdmmaaGreatDoorTie
import Derived.WalkKit
import Derived.ProofKit
import Derived.OpenShut
import Derived.ShutString
import Derived.ChangeOld
import Derived.Below
import Derived.SizedLaws
import Derived.Laws.Cover2
import Derived.LaidMore
import Derived.Stop.Joined
import Derived.SevenTiedAt
namespace Go.Proofs.YtffmfkpobjdmmaaGreatDoor.fnExactSoupOf
open Go.ChangeShapes Go.WideShapes Go.ChangeAt Go.RowKit
open Go.ChangeMaps (open_string shut_string)
open HL
set_option linter.unusedVariables false
theorem own : ownKnob Tryz.prog.godebug = none := by kernel_rfl
theorem laidOut : laidOutB Tryz.prog = true := by kernel_rfl
theorem door_met (os : Os) (args : Array Value) : laidMetH Tryz.prog Rows.fnExactSoupOfRow.laid ((World.doorLaid Tryz.prog 24 os).forCall (fun _ _ => 0) ⟨#[], args, []⟩).memory :=
  laidMetH_of_parts3 (fuel := 8) (laidMet_of_run' 8 (by kernel_rfl) (by kernel_rfl)) (by kernel_rfl) (by kernel_rfl)
set_option maxRecDepth 100000 in
theorem lifted (os : Os) (started : os.Started) (H : Type) (enc : TypeId × Value → H) :
    ReturnsInHanded {} Tryz.checked os 3 .any (fun w args => (Rows.fnExactSoupOfSpec.pre enc Tryz.prog Tryz.f3 Rows.fnExactSoupOfRow.domain false w args ∧ laidMetH Tryz.prog Rows.fnExactSoupOfRow.laid w) ∧ sizedMet enc Tryz.prog Tryz.f3 (OpenSpec.ofChange Rows.fnExactSoupOfSpec) false w args) (Rows.fnExactSoupOfSpec.post enc Tryz.prog Tryz.f3 false true false false) := by
  refine returnsInHanded_of_change_and (C := Tryz.checked) (X := fun w _ => laidMetH Tryz.prog Rows.fnExactSoupOfRow.laid w) (fun _ _ _ hh h => h.of_heap hh) own started (by kernel_rfl) Tryz.func3
    (ChangeSpec.witness_shaped (enc := enc) (C := Tryz.checked) (os := os) (X := fun w _ => laidMetH Tryz.prog Rows.fnExactSoupOfRow.laid w) false (World.doorLaid Tryz.prog 24 os) #[(.agg #[(.slice none 0 0), (.slice none 0 0)]), (.int .i64 0), (.float .f32 0), (.int .i64 0), (.int .i64 0)] 8 rfl (World.shaped_of_RefB (by kernel_rfl) (by kernel_rfl)) (by kernel_rfl) (by kernel_rfl) (by kernel_rfl) (door_met os _)) ?_
  intro W base args ds gs before hval0 hW hcnd hsz0 hL _
  have hval : ∀ (j : Nat) t v, Tryz.f3.params[j]? = some t → args[j]? = some v → Value.okWide Tryz.prog W .any base t v := hval0
  have hW' := hW
  obtain ⟨p, q, hA0, hV, rfl, hfz, hnd⟩ := hW
  have hA : DataW.TrodAll enc Tryz.prog W 0 (fun _ => true) true Tryz.f3.params.toList args.toList ds p := hA0
  rw [Tryz.params3] at hA hval
  obtain ⟨v0, vs0, d0, ds0, p0, q0, hargs, rfl, rfl, h0, r0⟩ := trodAll_cons hA
  obtain ⟨v1, vs1, d1, ds1, p1, q1, rfl, rfl, rfl, h1, r1⟩ := trodAll_cons r0
  obtain ⟨v2, vs2, d2, ds2, p2, q2, rfl, rfl, rfl, h2, r2⟩ := trodAll_cons r1
  obtain ⟨v3, vs3, d3, ds3, p3, q3, rfl, rfl, rfl, h3, r3⟩ := trodAll_cons r2
  obtain ⟨v4, vs4, d4, ds4, p4, q4, rfl, rfl, rfl, h4, r4⟩ := trodAll_cons r3
  obtain ⟨rfl, rfl, rfl⟩ := trodAll_nil r4
  obtain rfl : args = #[v0, v1, v2, v3, v4] := by cases args; simp_all
  obtain ⟨rfl, rfl⟩ := trodVars_none hV
  have k0 := h0
  have lt0 : ∀ x ∈ p0, x.block < W.heap.size := by obtain ⟨m, hm⟩ := k0; exact DataW.trod_lt m _ _ _ hm
  obtain ⟨cs0, rfl, hn0⟩ := okWide_struct Tryz.underlying24 (hval 0 24 v0 rfl rfl)
  obtain ⟨e0xa, e0xb, rfl⟩ := arr2 (hn0.trans (by kernel_rfl : Tryz.prog.cellsOf 24 = 2))
  obtain ⟨fu0, hfu0⟩ := h0
  obtain ⟨xs0, m0, _, _, _, hlen0, hf0⟩ := DataW.trod_struct Tryz.underlying24 hfu0
  obtain ⟨y0xa, y0xb, rfl⟩ : ∃ y0xa y0xb, xs0 = [y0xa, y0xb] := by
    match xs0, hlen0 with
    | [y0xa, y0xb], _ => exact ⟨y0xa, y0xb, rfl⟩
  have t0a : DataW.trod enc Tryz.prog W 0 (fun _ => true) true m0 22 [e0xa] = some y0xa := by
    have : DataW.trod enc Tryz.prog W 0 (fun _ => true) true m0 22 (([e0xa, e0xb].drop 0).take (Tryz.prog.cellsOf 22)) = some y0xa := hf0 0 _ rfl
    rw [(by kernel_rfl : Tryz.prog.cellsOf 22 = 1)] at this
    exact this
  have t0b : DataW.trod enc Tryz.prog W 0 (fun _ => true) true m0 22 [e0xb] = some y0xb := by
    have : DataW.trod enc Tryz.prog W 0 (fun _ => true) true m0 22 (([e0xa, e0xb].drop 1).take (Tryz.prog.cellsOf 22)) = some y0xb := hf0 1 _ rfl
    rw [(by kernel_rfl : Tryz.prog.cellsOf 22 = 1)] at this
    exact this
  obtain ⟨b0a, l0a, en0a, sl0a, mx0a, rg0a⟩ := sl_of_ints Tryz.underlying22 Tryz.underlying2 (by kernel_rfl) t0a
  obtain rfl : e0xa = b0a := by simpa using en0a
  obtain ⟨b0b, l0b, en0b, sl0b, mx0b, rg0b⟩ := sl_of_ints Tryz.underlying22 Tryz.underlying2 (by kernel_rfl) t0b
  obtain rfl : e0xb = b0b := by simpa using en0b
  have k1 := h1
  have lt1 : ∀ x ∈ p1, x.block < W.heap.size := by obtain ⟨m, hm⟩ := k1; exact DataW.trod_lt m _ _ _ hm
  obtain ⟨n1, rfl, rfl, rfl, wf1⟩ := open_int Tryz.underlying2 (hval 1 2 v1 rfl rfl) h1
  have k2 := h2
  have lt2 : ∀ x ∈ p2, x.block < W.heap.size := by obtain ⟨m, hm⟩ := k2; exact DataW.trod_lt m _ _ _ hm
  obtain ⟨n2, rfl, rfl, rfl, wf2⟩ := open_float Tryz.underlying25 (hval 2 25 v2 rfl rfl) h2
  have k3 := h3
  have lt3 : ∀ x ∈ p3, x.block < W.heap.size := by obtain ⟨m, hm⟩ := k3; exact DataW.trod_lt m _ _ _ hm
  obtain ⟨n3, rfl, rfl, rfl, wf3⟩ := open_int Tryz.underlying2 (hval 3 2 v3 rfl rfl) h3
  have k4 := h4
  have lt4 : ∀ x ∈ p4, x.block < W.heap.size := by obtain ⟨m, hm⟩ := k4; exact DataW.trod_lt m _ _ _ hm
  obtain ⟨n4, rfl, rfl, rfl, wf4⟩ := open_int Tryz.underlying2 (hval 4 2 v4 rfl rfl) h4
  clear hA0 hval0 hsz0
  refine (calls_true (P := prg) (L.FnExactSoupOf sl0a sl0b (int_wf wf1).1 (int_wf wf1).2 (int_wf wf3).1 (int_wf wf3).2 (int_wf wf4).1 (int_wf wf4).2 mx0a mx0b (fun H' hle => ⟨rfl, hle⟩))).mono fun e W' ⟨he, bel⟩ => ?_
  subst he
  exact ⟨_, rfl, _, _, _, [], _, [], hW', trodAll_mk1 (shut_bool Tryz.underlying4 _), (trodAll_cons_mk (Below.trod laidOut (by kernel_rfl) (of_decide_eq_true (by kernel_rfl)) k0 bel lt0) (trodAll_cons_mk (Below.trod laidOut (by kernel_rfl) (of_decide_eq_true (by kernel_rfl)) k1 bel lt1) (trodAll_cons_mk (Below.trod laidOut (by kernel_rfl) (of_decide_eq_true (by kernel_rfl)) k2 bel lt2) (trodAll_cons_mk (Below.trod laidOut (by kernel_rfl) (of_decide_eq_true (by kernel_rfl)) k3 bel lt3) (trodAll_cons_mk (Below.trod laidOut (by kernel_rfl) (of_decide_eq_true (by kernel_rfl)) k4 bel lt4) trodAll_mk0))))), rfl, bel.frame _, fun h => by cases h⟩
theorem over : Rows.fnExactSoupOfRow.holds Tryz.pinned (OpenSpec.ofChange Rows.fnExactSoupOfSpec) :=
  OpenClaim.holds_of_wide 3 Tryz.f3 rfl rfl rfl rfl rfl rfl rfl ⟨rfl, rfl, rfl, rfl, rfl⟩ rfl rfl rfl rfl rfl (by kernel_rfl) Tryz.func3 (by kernel_rfl)
    (of_decide_eq_true (by kernel_rfl)) (by unfold Func.isWrapper; first | (rw [if_pos (by decide +kernel)]; kernel_rfl) | (rw [if_neg (by decide +kernel)]; exact ⟨rfl, rfl⟩))
    (fun os started H enc _ => lifted os started H enc)
end Go.Proofs.YtffmfkpobjdmmaaGreatDoor.fnExactSoupOf
namespace Go.Proofs.YtffmfkpobjdmmaaGreatDoor
/-- The statement, as it is given. -/
theorem fnExactSoupOf_holds : Rows.FnExactSoupOfCardSaid :=
  Claim7.holds_tied_plain_at .later [] [.data, .data, .data] true (true, "ecc25daef75b53bbee5388bbdae4b1d30f9b12463a2375314b23d58fa4a888d9") false
    fnExactSoupOf.over (fun _ h => by cases h) (by kernel_rfl) (fun _ h => by cases h) fnExactSoupOf_row_tie rfl ⟨rfl, rfl⟩ (by kernel_rfl) rfl
    (fun f fn hf hfn => by
      obtain rfl : f = 3 := Option.some.inj ((show Tryz.prog.funcNamed "loop.example/g01381/laws.FnExactSoupOf" = some 3 by kernel_rfl).symm.trans hf) |>.symm
      obtain rfl : fn = Tryz.f3 := (Option.some.inj (Tryz.func3.symm.trans hfn)).symm
      exact ⟨by kernel_rfl, fun j t ht => by
        rw [Tryz.params3] at ht
        have hm : t ∈ [24, 2, 25, 2, 2] := by simpa using Array.mem_of_getElem? ht
        have hall : ([24, 2, 25, 2, 2].all fun u => !Tryz.prog.wantsStandIn u) = true := by kernel_rfl
        exact (show Tryz.prog.wantsStandIn t = false by simpa using List.all_eq_true.1 hall t hm)⟩)
    (by kernel_rfl)
end Go.Proofs.YtffmfkpobjdmmaaGreatDoor
