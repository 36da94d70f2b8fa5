/- The law FnExactSameShape holds: its function returns true, whatever it is given. -/
import Derived.Test.YtialllbbbpmkbaaDoorRows
import Derived.Test.YtialllbbbpmkbaaDoorVSameShape
import Derived.Test.YtialllbbbpmkbaaDoorMSameShape2
import Derived.Test.YtialllbbbpmkbaaDoorCards
import Derived.Test.YtialllbbbpmkbaaDoorTie
import Derived.WalkKit
import Derived.ProofKit
import Derived.OpenShut
import Derived.ShutString
import Derived.ChangeOld
import Derived.Below
import Derived.SizedLaws
import Derived.Laws.Cover2
import Derived.LaidMore
import Derived.Stop.Joined
import Derived.SevenTiedAt
namespace Go.Proofs.YtialllbbbpmkbaaDoor.fnExactSameShape
open Go.ChangeShapes Go.WideShapes Go.ChangeAt Go.RowKit
open Go.ChangeMaps (open_string shut_string)
open HL
set_option linter.unusedVariables false
theorem own : ownKnob Tryd.prog.godebug = none := by kernel_rfl
theorem laidOut : laidOutB Tryd.prog = true := by kernel_rfl
theorem door_met (os : Os) (args : Array Value) : laidMetH Tryd.prog Rows.fnExactSameShapeRow.laid ((World.doorLaid Tryd.prog 24 os).forCall (fun _ _ => 0) ⟨#[], args, []⟩).memory :=
  laidMetH_of_parts3 (fuel := 8) (laidMet_of_run' 8 (by kernel_rfl) (by kernel_rfl)) (by kernel_rfl) (by kernel_rfl)
set_option maxRecDepth 100000 in
theorem lifted (os : Os) (started : os.Started) (H : Type) (enc : TypeId × Value → H) :
    ReturnsInHanded {} Tryd.checked os 5 .any (fun w args => (Rows.fnExactSameShapeSpec.pre enc Tryd.prog Tryd.f5 Rows.fnExactSameShapeRow.domain false w args ∧ laidMetH Tryd.prog Rows.fnExactSameShapeRow.laid w) ∧ sizedMet enc Tryd.prog Tryd.f5 (OpenSpec.ofChange Rows.fnExactSameShapeSpec) false w args) (Rows.fnExactSameShapeSpec.post enc Tryd.prog Tryd.f5 false true false false) := by
  refine returnsInHanded_of_change_and (C := Tryd.checked) (X := fun w _ => laidMetH Tryd.prog Rows.fnExactSameShapeRow.laid w) (fun _ _ _ hh h => h.of_heap hh) own started (by kernel_rfl) Tryd.func5
    (ChangeSpec.witness_shaped (enc := enc) (C := Tryd.checked) (os := os) (X := fun w _ => laidMetH Tryd.prog Rows.fnExactSameShapeRow.laid w) false (World.doorLaid Tryd.prog 24 os) #[(.agg #[(.int .i64 0), (.int .i64 0), (.slice none 0 0)]), (.agg #[(.int .i64 0), (.int .i64 0), (.slice none 0 0)])] 8 rfl (World.shaped_of_RefB (by kernel_rfl) (by kernel_rfl)) (by kernel_rfl) (by kernel_rfl) (by kernel_rfl) (door_met os _)) ?_
  intro W base args ds gs before hval0 hW hcnd hsz0 hL _
  have hval : ∀ (j : Nat) t v, Tryd.f5.params[j]? = some t → args[j]? = some v → Value.okWide Tryd.prog W .any base t v := hval0
  have hW' := hW
  obtain ⟨p, q, hA0, hV, rfl, hfz, hnd⟩ := hW
  have hA : DataW.TrodAll enc Tryd.prog W 0 (fun _ => true) true Tryd.f5.params.toList args.toList ds p := hA0
  rw [Tryd.params5] at hA hval
  obtain ⟨v0, vs0, d0, ds0, p0, q0, hargs, rfl, rfl, h0, r0⟩ := trodAll_cons hA
  obtain ⟨v1, vs1, d1, ds1, p1, q1, rfl, rfl, rfl, h1, r1⟩ := trodAll_cons r0
  obtain ⟨rfl, rfl, rfl⟩ := trodAll_nil r1
  obtain rfl : args = #[v0, v1] := by cases args; simp_all
  obtain ⟨rfl, rfl⟩ := trodVars_none hV
  have k0 := h0
  have lt0 : ∀ x ∈ p0, x.block < W.heap.size := by obtain ⟨m, hm⟩ := k0; exact DataW.trod_lt m _ _ _ hm
  obtain ⟨cs0, rfl, hn0⟩ := okWide_struct Tryd.underlying24 (hval 0 24 v0 rfl rfl)
  obtain ⟨e0xa, e0xb, e0xc, rfl⟩ := arr3 (hn0.trans (by kernel_rfl : Tryd.prog.cellsOf 24 = 3))
  obtain ⟨fu0, hfu0⟩ := h0
  obtain ⟨xs0, m0, _, _, _, hlen0, hf0⟩ := DataW.trod_struct Tryd.underlying24 hfu0
  obtain ⟨y0xa, y0xb, y0xc, rfl⟩ : ∃ y0xa y0xb y0xc, xs0 = [y0xa, y0xb, y0xc] := by
    match xs0, hlen0 with
    | [y0xa, y0xb, y0xc], _ => exact ⟨y0xa, y0xb, y0xc, rfl⟩
  have t0a : DataW.trod enc Tryd.prog W 0 (fun _ => true) true m0 2 [e0xa] = some y0xa := by
    have : DataW.trod enc Tryd.prog W 0 (fun _ => true) true m0 2 (([e0xa, e0xb, e0xc].drop 0).take (Tryd.prog.cellsOf 2)) = some y0xa := hf0 0 _ rfl
    rw [(by kernel_rfl : Tryd.prog.cellsOf 2 = 1)] at this
    exact this
  have t0b : DataW.trod enc Tryd.prog W 0 (fun _ => true) true m0 2 [e0xb] = some y0xb := by
    have : DataW.trod enc Tryd.prog W 0 (fun _ => true) true m0 2 (([e0xa, e0xb, e0xc].drop 1).take (Tryd.prog.cellsOf 2)) = some y0xb := hf0 1 _ rfl
    rw [(by kernel_rfl : Tryd.prog.cellsOf 2 = 1)] at this
    exact this
  have t0c : DataW.trod enc Tryd.prog W 0 (fun _ => true) true m0 22 [e0xc] = some y0xc := by
    have : DataW.trod enc Tryd.prog W 0 (fun _ => true) true m0 22 (([e0xa, e0xb, e0xc].drop 2).take (Tryd.prog.cellsOf 22)) = some y0xc := hf0 2 _ rfl
    rw [(by kernel_rfl : Tryd.prog.cellsOf 22 = 1)] at this
    exact this
  obtain ⟨n0a, en0a, _, wf0a⟩ := DataW.trod_int Tryd.underlying2 t0a
  obtain rfl : e0xa = .int .i64 n0a := by simpa using en0a
  obtain ⟨n0b, en0b, _, wf0b⟩ := DataW.trod_int Tryd.underlying2 t0b
  obtain rfl : e0xb = .int .i64 n0b := by simpa using en0b
  obtain ⟨b0c, l0c, en0c, sl0c, mx0c, rg0c⟩ := sl_of_ints Tryd.underlying22 Tryd.underlying2 (by kernel_rfl) t0c
  obtain rfl : e0xc = b0c := by simpa using en0c
  have k1 := h1
  have lt1 : ∀ x ∈ p1, x.block < W.heap.size := by obtain ⟨m, hm⟩ := k1; exact DataW.trod_lt m _ _ _ hm
  obtain ⟨cs1, rfl, hn1⟩ := okWide_struct Tryd.underlying24 (hval 1 24 v1 rfl rfl)
  obtain ⟨e1xa, e1xb, e1xc, rfl⟩ := arr3 (hn1.trans (by kernel_rfl : Tryd.prog.cellsOf 24 = 3))
  obtain ⟨fu1, hfu1⟩ := h1
  obtain ⟨xs1, m1, _, _, _, hlen1, hf1⟩ := DataW.trod_struct Tryd.underlying24 hfu1
  obtain ⟨y1xa, y1xb, y1xc, rfl⟩ : ∃ y1xa y1xb y1xc, xs1 = [y1xa, y1xb, y1xc] := by
    match xs1, hlen1 with
    | [y1xa, y1xb, y1xc], _ => exact ⟨y1xa, y1xb, y1xc, rfl⟩
  have t1a : DataW.trod enc Tryd.prog W 0 (fun _ => true) true m1 2 [e1xa] = some y1xa := by
    have : DataW.trod enc Tryd.prog W 0 (fun _ => true) true m1 2 (([e1xa, e1xb, e1xc].drop 0).take (Tryd.prog.cellsOf 2)) = some y1xa := hf1 0 _ rfl
    rw [(by kernel_rfl : Tryd.prog.cellsOf 2 = 1)] at this
    exact this
  have t1b : DataW.trod enc Tryd.prog W 0 (fun _ => true) true m1 2 [e1xb] = some y1xb := by
    have : DataW.trod enc Tryd.prog W 0 (fun _ => true) true m1 2 (([e1xa, e1xb, e1xc].drop 1).take (Tryd.prog.cellsOf 2)) = some y1xb := hf1 1 _ rfl
    rw [(by kernel_rfl : Tryd.prog.cellsOf 2 = 1)] at this
    exact this
  have t1c : DataW.trod enc Tryd.prog W 0 (fun _ => true) true m1 22 [e1xc] = some y1xc := by
    have : DataW.trod enc Tryd.prog W 0 (fun _ => true) true m1 22 (([e1xa, e1xb, e1xc].drop 2).take (Tryd.prog.cellsOf 22)) = some y1xc := hf1 2 _ rfl
    rw [(by kernel_rfl : Tryd.prog.cellsOf 22 = 1)] at this
    exact this
  obtain ⟨n1a, en1a, _, wf1a⟩ := DataW.trod_int Tryd.underlying2 t1a
  obtain rfl : e1xa = .int .i64 n1a := by simpa using en1a
  obtain ⟨n1b, en1b, _, wf1b⟩ := DataW.trod_int Tryd.underlying2 t1b
  obtain rfl : e1xb = .int .i64 n1b := by simpa using en1b
  obtain ⟨b1c, l1c, en1c, sl1c, mx1c, rg1c⟩ := sl_of_ints Tryd.underlying22 Tryd.underlying2 (by kernel_rfl) t1c
  obtain rfl : e1xc = b1c := by simpa using en1c
  clear hA0 hval0 hsz0
  refine (calls_true (P := prg) (L.FnExactSameShape sl0c sl1c mx0c mx1c (fun H' hle => ⟨rfl, hle⟩))).mono fun e W' ⟨he, bel⟩ => ?_
  subst he
  exact ⟨_, rfl, _, _, _, [], _, [], hW', trodAll_mk1 (shut_bool Tryd.underlying4 _), (trodAll_cons_mk (Below.trod laidOut (by kernel_rfl) (of_decide_eq_true (by kernel_rfl)) k0 bel lt0) (trodAll_cons_mk (Below.trod laidOut (by kernel_rfl) (of_decide_eq_true (by kernel_rfl)) k1 bel lt1) trodAll_mk0)), rfl, bel.frame _, fun h => by cases h⟩
theorem over : Rows.fnExactSameShapeRow.holds Tryd.pinned (OpenSpec.ofChange Rows.fnExactSameShapeSpec) :=
  OpenClaim.holds_of_wide 5 Tryd.f5 rfl rfl rfl rfl rfl rfl rfl ⟨rfl, rfl, rfl, rfl, rfl⟩ rfl rfl rfl rfl rfl (by kernel_rfl) Tryd.func5 (by kernel_rfl)
    (of_decide_eq_true (by kernel_rfl)) (by unfold Func.isWrapper; first | (rw [if_pos (by decide +kernel)]; kernel_rfl) | (rw [if_neg (by decide +kernel)]; exact ⟨rfl, rfl⟩))
    (fun os started H enc _ => lifted os started H enc)
end Go.Proofs.YtialllbbbpmkbaaDoor.fnExactSameShape
namespace Go.Proofs.YtialllbbbpmkbaaDoor
/-- The statement, as it is given. -/
theorem fnExactSameShape_holds : Rows.FnExactSameShapeCardSaid :=
  Claim7.holds_tied_plain_at .later [] [.data, .data, .data] true (true, "fac58c94a2fd92b4e116e4bf21d3beab92b9744e81afcc710d0d7eab5fdb71d9") false
    fnExactSameShape.over (fun _ h => by cases h) (by kernel_rfl) (fun _ h => by cases h) fnExactSameShape_row_tie rfl ⟨rfl, rfl⟩ (by kernel_rfl) rfl
    (fun f fn hf hfn => by
      obtain rfl : f = 5 := Option.some.inj ((show Tryd.prog.funcNamed "loop.example/g01381/laws.FnExactSameShape" = some 5 by kernel_rfl).symm.trans hf) |>.symm
      obtain rfl : fn = Tryd.f5 := (Option.some.inj (Tryd.func5.symm.trans hfn)).symm
      exact ⟨by kernel_rfl, fun j t ht => by
        rw [Tryd.params5] at ht
        have hm : t ∈ [24, 24] := by simpa using Array.mem_of_getElem? ht
        have hall : ([24, 24].all fun u => !Tryd.prog.wantsStandIn u) = true := by kernel_rfl
        exact (show Tryd.prog.wantsStandIn t = false by simpa using List.all_eq_true.1 hall t hm)⟩)
    (by kernel_rfl)
end Go.Proofs.YtialllbbbpmkbaaDoor
