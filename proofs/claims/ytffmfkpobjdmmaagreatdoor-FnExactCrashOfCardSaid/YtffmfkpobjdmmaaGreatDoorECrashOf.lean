/- The law FnExactCrashOf holds: its function returns true, whatever it is given. -/
import Derived.Test.YtffmfkpobjdmmaaGreatDoorRows
import Derived.Test.YtffmfkpobjdmmaaGreatDoorVCrashOf
import Derived.Test.YtffmfkpobjdmmaaGreatDoorMCrashOf5
import Derived.Test.YtffmfkpobjdmmaaGreatDoorCards
import Derived.Test.YtffmfkpobjdmmaaGreatDoorTie
import Derived.WalkKit
import Derived.ProofKit
import Derived.OpenShut
import Derived.ShutString
import Derived.ChangeOld
import Derived.Below
import Derived.SizedLaws
import Derived.Laws.Cover2
import Derived.LaidMore
import Derived.Stop.Joined
import Derived.SevenTiedAt
namespace Go.Proofs.YtffmfkpobjdmmaaGreatDoor.fnExactCrashOf
open Go.ChangeShapes Go.WideShapes Go.ChangeAt Go.RowKit
open Go.ChangeMaps (open_string shut_string)
open HL
set_option linter.unusedVariables false
theorem own : ownKnob Tryz.prog.godebug = none := by kernel_rfl
theorem laidOut : laidOutB Tryz.prog = true := by kernel_rfl
theorem door_met (os : Os) (args : Array Value) : laidMetH Tryz.prog Rows.fnExactCrashOfRow.laid ((World.doorLaid Tryz.prog 24 os).forCall (fun _ _ => 0) ⟨#[], args, []⟩).memory :=
  laidMetH_of_parts3 (fuel := 8) (laidMet_of_run' 8 (by kernel_rfl) (by kernel_rfl)) (by kernel_rfl) (by kernel_rfl)
set_option maxRecDepth 100000 in
theorem lifted (os : Os) (started : os.Started) (H : Type) (enc : TypeId × Value → H) :
    ReturnsInHanded {} Tryz.checked os 4 .any (fun w args => (Rows.fnExactCrashOfSpec.pre enc Tryz.prog Tryz.f4 Rows.fnExactCrashOfRow.domain false w args ∧ laidMetH Tryz.prog Rows.fnExactCrashOfRow.laid w) ∧ sizedMet enc Tryz.prog Tryz.f4 (OpenSpec.ofChange Rows.fnExactCrashOfSpec) false w args) (Rows.fnExactCrashOfSpec.post enc Tryz.prog Tryz.f4 false true false false) := by
  refine returnsInHanded_of_change_and (C := Tryz.checked) (X := fun w _ => laidMetH Tryz.prog Rows.fnExactCrashOfRow.laid w) (fun _ _ _ hh h => h.of_heap hh) own started (by kernel_rfl) Tryz.func4
    (ChangeSpec.witness_shaped (enc := enc) (C := Tryz.checked) (os := os) (X := fun w _ => laidMetH Tryz.prog Rows.fnExactCrashOfRow.laid w) false (World.doorLaid Tryz.prog 24 os) #[(.agg #[(.slice none 0 0), (.slice none 0 0)]), (.agg #[(.int .i64 0), (.int .i64 0), (.slice none 0 0)]), (.agg #[(.int .i64 0), (.int .i64 0), (.slice none 0 0)]), (.int .i64 0), (.int .i64 0), (.int .i64 0)] 8 rfl (World.shaped_of_RefB (by kernel_rfl) (by kernel_rfl)) (by kernel_rfl) (by kernel_rfl) (by kernel_rfl) (door_met os _)) ?_
  intro W base args ds gs before hval0 hW hcnd hsz0 hL _
  have hval : ∀ (j : Nat) t v, Tryz.f4.params[j]? = some t → args[j]? = some v → Value.okWide Tryz.prog W .any base t v := hval0
  have hW' := hW
  obtain ⟨p, q, hA0, hV, rfl, hfz, hnd⟩ := hW
  have hA : DataW.TrodAll enc Tryz.prog W 0 (fun _ => true) true Tryz.f4.params.toList args.toList ds p := hA0
  rw [Tryz.params4] at hA hval
  obtain ⟨v0, vs0, d0, ds0, p0, q0, hargs, rfl, rfl, h0, r0⟩ := trodAll_cons hA
  obtain ⟨v1, vs1, d1, ds1, p1, q1, rfl, rfl, rfl, h1, r1⟩ := trodAll_cons r0
  obtain ⟨v2, vs2, d2, ds2, p2, q2, rfl, rfl, rfl, h2, r2⟩ := trodAll_cons r1
  obtain ⟨v3, vs3, d3, ds3, p3, q3, rfl, rfl, rfl, h3, r3⟩ := trodAll_cons r2
  obtain ⟨v4, vs4, d4, ds4, p4, q4, rfl, rfl, rfl, h4, r4⟩ := trodAll_cons r3
  obtain ⟨v5, vs5, d5, ds5, p5, q5, rfl, rfl, rfl, h5, r5⟩ := trodAll_cons r4
  obtain ⟨rfl, rfl, rfl⟩ := trodAll_nil r5
  obtain rfl : args = #[v0, v1, v2, v3, v4, v5] := by cases args; simp_all
  obtain ⟨rfl, rfl⟩ := trodVars_none hV
  have k0 := h0
  have lt0 : ∀ x ∈ p0, x.block < W.heap.size := by obtain ⟨m, hm⟩ := k0; exact DataW.trod_lt m _ _ _ hm
  obtain ⟨cs0, rfl, hn0⟩ := okWide_struct Tryz.underlying24 (hval 0 24 v0 rfl rfl)
  obtain ⟨e0xa, e0xb, rfl⟩ := arr2 (hn0.trans (by kernel_rfl : Tryz.prog.cellsOf 24 = 2))
  obtain ⟨fu0, hfu0⟩ := h0
  obtain ⟨xs0, m0, _, _, _, hlen0, hf0⟩ := DataW.trod_struct Tryz.underlying24 hfu0
  obtain ⟨y0xa, y0xb, rfl⟩ : ∃ y0xa y0xb, xs0 = [y0xa, y0xb] := by
    match xs0, hlen0 with
    | [y0xa, y0xb], _ => exact ⟨y0xa, y0xb, rfl⟩
  have t0a : DataW.trod enc Tryz.prog W 0 (fun _ => true) true m0 22 [e0xa] = some y0xa := by
    have : DataW.trod enc Tryz.prog W 0 (fun _ => true) true m0 22 (([e0xa, e0xb].drop 0).take (Tryz.prog.cellsOf 22)) = some y0xa := hf0 0 _ rfl
    rw [(by kernel_rfl : Tryz.prog.cellsOf 22 = 1)] at this
    exact this
  have t0b : DataW.trod enc Tryz.prog W 0 (fun _ => true) true m0 22 [e0xb] = some y0xb := by
    have : DataW.trod enc Tryz.prog W 0 (fun _ => true) true m0 22 (([e0xa, e0xb].drop 1).take (Tryz.prog.cellsOf 22)) = some y0xb := hf0 1 _ rfl
    rw [(by kernel_rfl : Tryz.prog.cellsOf 22 = 1)] at this
    exact this
  obtain ⟨b0a, l0a, en0a, sl0a, mx0a, rg0a⟩ := sl_of_ints Tryz.underlying22 Tryz.underlying2 (by kernel_rfl) t0a
  obtain rfl : e0xa = b0a := by simpa using en0a
  obtain ⟨b0b, l0b, en0b, sl0b, mx0b, rg0b⟩ := sl_of_ints Tryz.underlying22 Tryz.underlying2 (by kernel_rfl) t0b
  obtain rfl : e0xb = b0b := by simpa using en0b
  have k1 := h1
  have lt1 : ∀ x ∈ p1, x.block < W.heap.size := by obtain ⟨m, hm⟩ := k1; exact DataW.trod_lt m _ _ _ hm
  obtain ⟨cs1, rfl, hn1⟩ := okWide_struct Tryz.underlying40 (hval 1 40 v1 rfl rfl)
  obtain ⟨e1xa, e1xb, e1xc, rfl⟩ := arr3 (hn1.trans (by kernel_rfl : Tryz.prog.cellsOf 40 = 3))
  obtain ⟨fu1, hfu1⟩ := h1
  obtain ⟨xs1, m1, _, _, _, hlen1, hf1⟩ := DataW.trod_struct Tryz.underlying40 hfu1
  obtain ⟨y1xa, y1xb, y1xc, rfl⟩ : ∃ y1xa y1xb y1xc, xs1 = [y1xa, y1xb, y1xc] := by
    match xs1, hlen1 with
    | [y1xa, y1xb, y1xc], _ => exact ⟨y1xa, y1xb, y1xc, rfl⟩
  have t1a : DataW.trod enc Tryz.prog W 0 (fun _ => true) true m1 2 [e1xa] = some y1xa := by
    have : DataW.trod enc Tryz.prog W 0 (fun _ => true) true m1 2 (([e1xa, e1xb, e1xc].drop 0).take (Tryz.prog.cellsOf 2)) = some y1xa := hf1 0 _ rfl
    rw [(by kernel_rfl : Tryz.prog.cellsOf 2 = 1)] at this
    exact this
  have t1b : DataW.trod enc Tryz.prog W 0 (fun _ => true) true m1 2 [e1xb] = some y1xb := by
    have : DataW.trod enc Tryz.prog W 0 (fun _ => true) true m1 2 (([e1xa, e1xb, e1xc].drop 1).take (Tryz.prog.cellsOf 2)) = some y1xb := hf1 1 _ rfl
    rw [(by kernel_rfl : Tryz.prog.cellsOf 2 = 1)] at this
    exact this
  have t1c : DataW.trod enc Tryz.prog W 0 (fun _ => true) true m1 22 [e1xc] = some y1xc := by
    have : DataW.trod enc Tryz.prog W 0 (fun _ => true) true m1 22 (([e1xa, e1xb, e1xc].drop 2).take (Tryz.prog.cellsOf 22)) = some y1xc := hf1 2 _ rfl
    rw [(by kernel_rfl : Tryz.prog.cellsOf 22 = 1)] at this
    exact this
  obtain ⟨n1a, en1a, _, wf1a⟩ := DataW.trod_int Tryz.underlying2 t1a
  obtain rfl : e1xa = .int .i64 n1a := by simpa using en1a
  obtain ⟨n1b, en1b, _, wf1b⟩ := DataW.trod_int Tryz.underlying2 t1b
  obtain rfl : e1xb = .int .i64 n1b := by simpa using en1b
  obtain ⟨b1c, l1c, en1c, sl1c, mx1c, rg1c⟩ := sl_of_ints Tryz.underlying22 Tryz.underlying2 (by kernel_rfl) t1c
  obtain rfl : e1xc = b1c := by simpa using en1c
  have k2 := h2
  have lt2 : ∀ x ∈ p2, x.block < W.heap.size := by obtain ⟨m, hm⟩ := k2; exact DataW.trod_lt m _ _ _ hm
  obtain ⟨cs2, rfl, hn2⟩ := okWide_struct Tryz.underlying40 (hval 2 40 v2 rfl rfl)
  obtain ⟨e2xa, e2xb, e2xc, rfl⟩ := arr3 (hn2.trans (by kernel_rfl : Tryz.prog.cellsOf 40 = 3))
  obtain ⟨fu2, hfu2⟩ := h2
  obtain ⟨xs2, m2, _, _, _, hlen2, hf2⟩ := DataW.trod_struct Tryz.underlying40 hfu2
  obtain ⟨y2xa, y2xb, y2xc, rfl⟩ : ∃ y2xa y2xb y2xc, xs2 = [y2xa, y2xb, y2xc] := by
    match xs2, hlen2 with
    | [y2xa, y2xb, y2xc], _ => exact ⟨y2xa, y2xb, y2xc, rfl⟩
  have t2a : DataW.trod enc Tryz.prog W 0 (fun _ => true) true m2 2 [e2xa] = some y2xa := by
    have : DataW.trod enc Tryz.prog W 0 (fun _ => true) true m2 2 (([e2xa, e2xb, e2xc].drop 0).take (Tryz.prog.cellsOf 2)) = some y2xa := hf2 0 _ rfl
    rw [(by kernel_rfl : Tryz.prog.cellsOf 2 = 1)] at this
    exact this
  have t2b : DataW.trod enc Tryz.prog W 0 (fun _ => true) true m2 2 [e2xb] = some y2xb := by
    have : DataW.trod enc Tryz.prog W 0 (fun _ => true) true m2 2 (([e2xa, e2xb, e2xc].drop 1).take (Tryz.prog.cellsOf 2)) = some y2xb := hf2 1 _ rfl
    rw [(by kernel_rfl : Tryz.prog.cellsOf 2 = 1)] at this
    exact this
  have t2c : DataW.trod enc Tryz.prog W 0 (fun _ => true) true m2 22 [e2xc] = some y2xc := by
    have : DataW.trod enc Tryz.prog W 0 (fun _ => true) true m2 22 (([e2xa, e2xb, e2xc].drop 2).take (Tryz.prog.cellsOf 22)) = some y2xc := hf2 2 _ rfl
    rw [(by kernel_rfl : Tryz.prog.cellsOf 22 = 1)] at this
    exact this
  obtain ⟨n2a, en2a, _, wf2a⟩ := DataW.trod_int Tryz.underlying2 t2a
  obtain rfl : e2xa = .int .i64 n2a := by simpa using en2a
  obtain ⟨n2b, en2b, _, wf2b⟩ := DataW.trod_int Tryz.underlying2 t2b
  obtain rfl : e2xb = .int .i64 n2b := by simpa using en2b
  obtain ⟨b2c, l2c, en2c, sl2c, mx2c, rg2c⟩ := sl_of_ints Tryz.underlying22 Tryz.underlying2 (by kernel_rfl) t2c
  obtain rfl : e2xc = b2c := by simpa using en2c
  have k3 := h3
  have lt3 : ∀ x ∈ p3, x.block < W.heap.size := by obtain ⟨m, hm⟩ := k3; exact DataW.trod_lt m _ _ _ hm
  obtain ⟨n3, rfl, rfl, rfl, wf3⟩ := open_int Tryz.underlying2 (hval 3 2 v3 rfl rfl) h3
  have k4 := h4
  have lt4 : ∀ x ∈ p4, x.block < W.heap.size := by obtain ⟨m, hm⟩ := k4; exact DataW.trod_lt m _ _ _ hm
  obtain ⟨n4, rfl, rfl, rfl, wf4⟩ := open_int Tryz.underlying2 (hval 4 2 v4 rfl rfl) h4
  have k5 := h5
  have lt5 : ∀ x ∈ p5, x.block < W.heap.size := by obtain ⟨m, hm⟩ := k5; exact DataW.trod_lt m _ _ _ hm
  obtain ⟨n5, rfl, rfl, rfl, wf5⟩ := open_int Tryz.underlying2 (hval 5 2 v5 rfl rfl) h5
  clear hA0 hval0 hsz0
  refine (calls_true (P := prg) (L.FnExactCrashOf sl0a sl0b sl1c sl2c (int_wf wf3).1 (int_wf wf3).2 (int_wf wf4).1 (int_wf wf4).2 (int_wf wf5).1 (int_wf wf5).2 mx0a mx0b mx1c mx2c (fun H' hle => ⟨rfl, hle⟩))).mono fun e W' ⟨he, bel⟩ => ?_
  subst he
  exact ⟨_, rfl, _, _, _, [], _, [], hW', trodAll_mk1 (shut_bool Tryz.underlying4 _), (trodAll_cons_mk (Below.trod laidOut (by kernel_rfl) (of_decide_eq_true (by kernel_rfl)) k0 bel lt0) (trodAll_cons_mk (Below.trod laidOut (by kernel_rfl) (of_decide_eq_true (by kernel_rfl)) k1 bel lt1) (trodAll_cons_mk (Below.trod laidOut (by kernel_rfl) (of_decide_eq_true (by kernel_rfl)) k2 bel lt2) (trodAll_cons_mk (Below.trod laidOut (by kernel_rfl) (of_decide_eq_true (by kernel_rfl)) k3 bel lt3) (trodAll_cons_mk (Below.trod laidOut (by kernel_rfl) (of_decide_eq_true (by kernel_rfl)) k4 bel lt4) (trodAll_cons_mk (Below.trod laidOut (by kernel_rfl) (of_decide_eq_true (by kernel_rfl)) k5 bel lt5) trodAll_mk0)))))), rfl, bel.frame _, fun h => by cases h⟩
theorem over : Rows.fnExactCrashOfRow.holds Tryz.pinned (OpenSpec.ofChange Rows.fnExactCrashOfSpec) :=
  OpenClaim.holds_of_wide 4 Tryz.f4 rfl rfl rfl rfl rfl rfl rfl ⟨rfl, rfl, rfl, rfl, rfl⟩ rfl rfl rfl rfl rfl (by kernel_rfl) Tryz.func4 (by kernel_rfl)
    (of_decide_eq_true (by kernel_rfl)) (by unfold Func.isWrapper; first | (rw [if_pos (by decide +kernel)]; kernel_rfl) | (rw [if_neg (by decide +kernel)]; exact ⟨rfl, rfl⟩))
    (fun os started H enc _ => lifted os started H enc)
end Go.Proofs.YtffmfkpobjdmmaaGreatDoor.fnExactCrashOf
namespace Go.Proofs.YtffmfkpobjdmmaaGreatDoor
/-- The statement, as it is given. -/
theorem fnExactCrashOf_holds : Rows.FnExactCrashOfCardSaid :=
  Claim7.holds_tied_plain_at .later [] [.data, .data, .data] true (true, "ecc25daef75b53bbee5388bbdae4b1d30f9b12463a2375314b23d58fa4a888d9") false
    fnExactCrashOf.over (fun _ h => by cases h) (by kernel_rfl) (fun _ h => by cases h) fnExactCrashOf_row_tie rfl ⟨rfl, rfl⟩ (by kernel_rfl) rfl
    (fun f fn hf hfn => by
      obtain rfl : f = 4 := Option.some.inj ((show Tryz.prog.funcNamed "loop.example/g01381/laws.FnExactCrashOf" = some 4 by kernel_rfl).symm.trans hf) |>.symm
      obtain rfl : fn = Tryz.f4 := (Option.some.inj (Tryz.func4.symm.trans hfn)).symm
      exact ⟨by kernel_rfl, fun j t ht => by
        rw [Tryz.params4] at ht
        have hm : t ∈ [24, 40, 40, 2, 2, 2] := by simpa using Array.mem_of_getElem? ht
        have hall : ([24, 40, 40, 2, 2, 2].all fun u => !Tryz.prog.wantsStandIn u) = true := by kernel_rfl
        exact (show Tryz.prog.wantsStandIn t = false by simpa using List.all_eq_true.1 hall t hm)⟩)
    (by kernel_rfl)
end Go.Proofs.YtffmfkpobjdmmaaGreatDoor
