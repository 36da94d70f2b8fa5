/- The law FnExactCensusOf holds: its function returns true, whatever it is given. -/
import Derived.Test.YthocjpfibegjcaaGreatDoorRows
import Derived.Test.YthocjpfibegjcaaGreatDoorVCensusOf
import Derived.Test.YthocjpfibegjcaaGreatDoorMCensusOf3
import Derived.Test.YthocjpfibegjcaaGreatDoorCards
import Derived.Test.YthocjpfibegjcaaGreatDoorTie
import Derived.WalkKit
import Derived.ProofKit
import Derived.OpenShut
import Derived.ShutString
import Derived.ChangeOld
import Derived.Below
import Derived.SizedLaws
import Derived.Laws.Cover2
import Derived.LaidMore
import Derived.Stop.Joined
import Derived.SevenTiedAt
namespace Go.Proofs.YthocjpfibegjcaaGreatDoor.fnExactCensusOf
open Go.ChangeShapes Go.WideShapes Go.ChangeAt Go.RowKit
open Go.ChangeMaps (open_string shut_string)
open HL
set_option linter.unusedVariables false
theorem own : ownKnob Tryz.prog.godebug = none := by kernel_rfl
theorem laidOut : laidOutB Tryz.prog = true := by kernel_rfl
theorem door_met (os : Os) (args : Array Value) : laidMetH Tryz.prog Rows.fnExactCensusOfRow.laid ((World.doorLaid Tryz.prog 24 os).forCall (fun _ _ => 0) ⟨#[], args, []⟩).memory :=
  laidMetH_of_parts3 (fuel := 8) (laidMet_of_run' 8 (by kernel_rfl) (by kernel_rfl)) (by kernel_rfl) (by kernel_rfl)
set_option maxRecDepth 100000 in
theorem lifted (os : Os) (started : os.Started) (H : Type) (enc : TypeId × Value → H) :
    ReturnsInHanded {} Tryz.checked os 4 .any (fun w args => (Rows.fnExactCensusOfSpec.pre enc Tryz.prog Tryz.f4 Rows.fnExactCensusOfRow.domain false w args ∧ laidMetH Tryz.prog Rows.fnExactCensusOfRow.laid w) ∧ sizedMet enc Tryz.prog Tryz.f4 (OpenSpec.ofChange Rows.fnExactCensusOfSpec) false w args) (Rows.fnExactCensusOfSpec.post enc Tryz.prog Tryz.f4 false true false false) := by
  refine returnsInHanded_of_change_and (C := Tryz.checked) (X := fun w _ => laidMetH Tryz.prog Rows.fnExactCensusOfRow.laid w) (fun _ _ _ hh h => h.of_heap hh) own started (by kernel_rfl) Tryz.func4
    (ChangeSpec.witness_shaped (enc := enc) (C := Tryz.checked) (os := os) (X := fun w _ => laidMetH Tryz.prog Rows.fnExactCensusOfRow.laid w) false (World.doorLaid Tryz.prog 24 os) #[(.agg #[(.int .i64 0), (.int .i64 0), (.slice none 0 0)])] 8 rfl (World.shaped_of_RefB (by kernel_rfl) (by kernel_rfl)) (by kernel_rfl) (by kernel_rfl) (by kernel_rfl) (door_met os _)) ?_
  intro W base args ds gs before hval0 hW hcnd hsz0 hL _
  have hval : ∀ (j : Nat) t v, Tryz.f4.params[j]? = some t → args[j]? = some v → Value.okWide Tryz.prog W .any base t v := hval0
  have hW' := hW
  obtain ⟨p, q, hA0, hV, rfl, hfz, hnd⟩ := hW
  have hA : DataW.TrodAll enc Tryz.prog W 0 (fun _ => true) true Tryz.f4.params.toList args.toList ds p := hA0
  rw [Tryz.params4] at hA hval
  obtain ⟨v0, vs0, d0, ds0, p0, q0, hargs, rfl, rfl, h0, r0⟩ := trodAll_cons hA
  obtain ⟨rfl, rfl, rfl⟩ := trodAll_nil r0
  obtain rfl : args = #[v0] := by cases args; simp_all
  obtain ⟨rfl, rfl⟩ := trodVars_none hV
  have k0 := h0
  have lt0 : ∀ x ∈ p0, x.block < W.heap.size := by obtain ⟨m, hm⟩ := k0; exact DataW.trod_lt m _ _ _ hm
  obtain ⟨cs0, rfl, hn0⟩ := okWide_struct Tryz.underlying36 (hval 0 36 v0 rfl rfl)
  obtain ⟨e0xa, e0xb, e0xc, rfl⟩ := arr3 (hn0.trans (by kernel_rfl : Tryz.prog.cellsOf 36 = 3))
  obtain ⟨fu0, hfu0⟩ := h0
  obtain ⟨xs0, m0, _, _, _, hlen0, hf0⟩ := DataW.trod_struct Tryz.underlying36 hfu0
  obtain ⟨y0xa, y0xb, y0xc, rfl⟩ : ∃ y0xa y0xb y0xc, xs0 = [y0xa, y0xb, y0xc] := by
    match xs0, hlen0 with
    | [y0xa, y0xb, y0xc], _ => exact ⟨y0xa, y0xb, y0xc, rfl⟩
  have t0a : DataW.trod enc Tryz.prog W 0 (fun _ => true) true m0 2 [e0xa] = some y0xa := by
    have : DataW.trod enc Tryz.prog W 0 (fun _ => true) true m0 2 (([e0xa, e0xb, e0xc].drop 0).take (Tryz.prog.cellsOf 2)) = some y0xa := hf0 0 _ rfl
    rw [(by kernel_rfl : Tryz.prog.cellsOf 2 = 1)] at this
    exact this
  have t0b : DataW.trod enc Tryz.prog W 0 (fun _ => true) true m0 2 [e0xb] = some y0xb := by
    have : DataW.trod enc Tryz.prog W 0 (fun _ => true) true m0 2 (([e0xa, e0xb, e0xc].drop 1).take (Tryz.prog.cellsOf 2)) = some y0xb := hf0 1 _ rfl
    rw [(by kernel_rfl : Tryz.prog.cellsOf 2 = 1)] at this
    exact this
  have t0c : DataW.trod enc Tryz.prog W 0 (fun _ => true) true m0 25 [e0xc] = some y0xc := by
    have : DataW.trod enc Tryz.prog W 0 (fun _ => true) true m0 25 (([e0xa, e0xb, e0xc].drop 2).take (Tryz.prog.cellsOf 25)) = some y0xc := hf0 2 _ rfl
    rw [(by kernel_rfl : Tryz.prog.cellsOf 25 = 1)] at this
    exact this
  obtain ⟨n0a, en0a, _, wf0a⟩ := DataW.trod_int Tryz.underlying2 t0a
  obtain rfl : e0xa = .int .i64 n0a := by simpa using en0a
  obtain ⟨n0b, en0b, _, wf0b⟩ := DataW.trod_int Tryz.underlying2 t0b
  obtain rfl : e0xb = .int .i64 n0b := by simpa using en0b
  obtain ⟨b0c, l0c, en0c, sl0c, mx0c, rg0c⟩ := sl_of_ints Tryz.underlying25 Tryz.underlying2 (by kernel_rfl) t0c
  obtain rfl : e0xc = b0c := by simpa using en0c
  clear hA0 hval0 hsz0
  refine (calls_true (P := prg) (L.FnExactCensusOf sl0c mx0c (fun H' hle => ⟨rfl, hle⟩))).mono fun e W' ⟨he, bel⟩ => ?_
  subst he
  exact ⟨_, rfl, _, _, _, [], _, [], hW', trodAll_mk1 (shut_bool Tryz.underlying4 _), (trodAll_cons_mk (Below.trod laidOut (by kernel_rfl) (of_decide_eq_true (by kernel_rfl)) k0 bel lt0) trodAll_mk0), rfl, bel.frame _, fun h => by cases h⟩
theorem over : Rows.fnExactCensusOfRow.holds Tryz.pinned (OpenSpec.ofChange Rows.fnExactCensusOfSpec) :=
  OpenClaim.holds_of_wide 4 Tryz.f4 rfl rfl rfl rfl rfl rfl rfl ⟨rfl, rfl, rfl, rfl, rfl⟩ rfl rfl rfl rfl rfl (by kernel_rfl) Tryz.func4 (by kernel_rfl)
    (of_decide_eq_true (by kernel_rfl)) (by unfold Func.isWrapper; first | (rw [if_pos (by decide +kernel)]; kernel_rfl) | (rw [if_neg (by decide +kernel)]; exact ⟨rfl, rfl⟩))
    (fun os started H enc _ => lifted os started H enc)
end Go.Proofs.YthocjpfibegjcaaGreatDoor.fnExactCensusOf
namespace Go.Proofs.YthocjpfibegjcaaGreatDoor
/-- The statement, as it is given. -/
theorem fnExactCensusOf_holds : Rows.FnExactCensusOfCardSaid :=
  Claim7.holds_tied_plain_at .later [] [.data, .data, .data] true (true, "e5b41f262bab50f0b8b6aeed285cbf92c6564d751ce1752c9565195a848f8404") false
    fnExactCensusOf.over (fun _ h => by cases h) (by kernel_rfl) (fun _ h => by cases h) fnExactCensusOf_row_tie rfl ⟨rfl, rfl⟩ (by kernel_rfl) rfl
    (fun f fn hf hfn => by
      obtain rfl : f = 4 := Option.some.inj ((show Tryz.prog.funcNamed "loop.example/g01381/laws.FnExactCensusOf" = some 4 by kernel_rfl).symm.trans hf) |>.symm
      obtain rfl : fn = Tryz.f4 := (Option.some.inj (Tryz.func4.symm.trans hfn)).symm
      exact ⟨by kernel_rfl, fun j t ht => by
        rw [Tryz.params4] at ht
        have hm : t ∈ [36] := by simpa using Array.mem_of_getElem? ht
        have hall : ([36].all fun u => !Tryz.prog.wantsStandIn u) = true := by kernel_rfl
        exact (show Tryz.prog.wantsStandIn t = false by simpa using List.all_eq_true.1 hall t hm)⟩)
    (by kernel_rfl)
end Go.Proofs.YthocjpfibegjcaaGreatDoor
