/- The numbers of this seat's functions. -/
import Derived.Test.YtdfoobomlabffaaProg
import Derived.Test.YtdfoobomlabffaaHI
namespace Go.Proofs.Ytdfoobomlabffaa
open HL
noncomputable abbrev prg : Program := Try.prog
theorem mixed : prg.follows .mixedOrders = true := by kernel_rfl
abbrev I.spec_l00In : FuncId := 53
abbrev I.spec_l06Lane : FuncId := 48
abbrev I.spec_IsLane : FuncId := 14
abbrev I.laws_toInt64S : FuncId := 15
abbrev I.impl_within : FuncId := 58
abbrev I.impl_areWithin : FuncId := 90
abbrev I.impl_areMany : FuncId := 49
abbrev I.impl_IsLane : FuncId := 16
abbrev I.laws_eqInt64S : FuncId := 17
abbrev I.laws_FnExactIsLane : FuncId := 3
abbrev I.laws_markInt64S : FuncId := 23
abbrev I.laws_heldInt64S : FuncId := 24
abbrev I.spec_l02Share : FuncId := 54
abbrev I.spec_l00Min : FuncId := 55
abbrev I.spec_l06Free : FuncId := 56
abbrev I.spec_l06Seed : FuncId := 57
abbrev I.spec_LaneStep : FuncId := 25
abbrev I.impl_isShare : FuncId := 59
abbrev I.impl_isSeed : FuncId := 60
abbrev I.math_bits_Mul32 : FuncId := 96
abbrev I.math_bits_Mul64 : FuncId := 97
abbrev I.math_bits_Mul : FuncId := 91
abbrev I.slices_Repeat_int64Zint64 : FuncId := 61
abbrev I.impl_gap : FuncId := 62
abbrev I.impl_nextSeed : FuncId := 63
abbrev I.impl_shareOf : FuncId := 64
abbrev I.impl_LaneStep : FuncId := 26
abbrev I.laws_FnExactLaneStep : FuncId := 6
abbrev I.impl_LaneSpeed : FuncId := 19
abbrev I.impl_SwitchLanes_1 : FuncId := 51
abbrev I.slices_Clone_int64Zint64 : FuncId := 52
abbrev I.impl_SwitchLanes : FuncId := 22
abbrev I.laws_r8Long : FuncId := 27
abbrev I.laws_r8At : FuncId := 28
abbrev I.spec_l00From : FuncId := 65
abbrev I.pspec_l00Src_next : FuncId := 92
abbrev I.pspec_l00Src_pick : FuncId := 67
abbrev I.pspec_l00Src_one : FuncId := 66
abbrev I.spec_R8Lane : FuncId := 29
abbrev I.laws_r8Cars : FuncId := 30
abbrev I.laws_FnLanes : FuncId := 7
abbrev I.spec_LaneSpeed : FuncId := 18
abbrev I.laws_sameFloat : FuncId := 20
abbrev I.laws_FnExactLaneSpeed : FuncId := 4
abbrev I.spec_l06Changes : FuncId := 50
abbrev I.spec_SwitchLanes : FuncId := 21
abbrev I.laws_FnExactSwitchLanes : FuncId := 5
theorem HT_of_eq {P : Program} (od : Nat → Nat × List Nat) {f : FuncId} {fn : Func} {args : List Value} {H : Hp} {K : Value → Hp → Prop} (hm : P.follows .mixedOrders = true) (hf : P.funcs[f]? = some fn) (hok : fnOk P od fn args.length = true) {G : Prop} (e : fev P od fn args H K = G) (h : G) : HT P f args.toArray H K := HT_of_fev od hm hf hok (e.mpr h)
end Go.Proofs.Ytdfoobomlabffaa
