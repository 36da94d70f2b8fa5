/- The numbers of this seat's functions. -/
import Derived.Test.YtcjamajenfgddaaProg
import Derived.Test.YtcjamajenfgddaaHI
namespace Go.Proofs.Ytcjamajenfgddaa
open HL
noncomputable abbrev prg : Program := Try.prog
theorem mixed : prg.follows .mixedOrders = true := by kernel_rfl
abbrev I.laws_szFloat32S : FuncId := 32
abbrev I.laws_szBoolS : FuncId := 33
abbrev I.laws_szFlow : FuncId := 9
abbrev I.laws_toFloat32S : FuncId := 35
abbrev I.laws_toBoolS : FuncId := 36
abbrev I.laws_toFlow : FuncId := 11
abbrev I.laws_sameFloat : FuncId := 18
abbrev I.laws_eqFloat32S : FuncId := 39
abbrev I.laws_eqBoolS : FuncId := 40
abbrev I.laws_eqFlow : FuncId := 13
abbrev I.spec_l00In : FuncId := 51
abbrev I.spec_l06Sides : FuncId := 58
abbrev I.spec_l01Finite : FuncId := 55
abbrev I.spec_l02Finite : FuncId := 72
abbrev I.spec_l06Flow : FuncId := 34
abbrev I.spec_l02Number : FuncId := 46
abbrev I.spec_l06Part : FuncId := 77
abbrev I.spec_l06Mass : FuncId := 52
abbrev I.spec_l06Cell : FuncId := 53
abbrev I.spec_l06All : FuncId := 47
abbrev I.spec_MassOf : FuncId := 16
abbrev I.impl_within : FuncId := 56
abbrev I.impl_areSides : FuncId := 37
abbrev I.slices_IndexFunc_float32Zfloat32 : FuncId := 81
abbrev I.slices_ContainsFunc_float32Zfloat32 : FuncId := 73
abbrev I.impl_IsFinite : FuncId := 50
abbrev I.impl_areFinite_1 : FuncId := 74
abbrev I.impl_areFinite : FuncId := 38
abbrev I.impl_ValidFlow : FuncId := 12
abbrev I.impl_massOf : FuncId := 48
abbrev I.impl_Flow_cell : FuncId := 49
abbrev I.impl_MassOf : FuncId := 17
abbrev I.laws_FnExactMassOf : FuncId := 5
abbrev I.spec_l02Above : FuncId := 54
abbrev I.spec_CellOfFlow : FuncId := 19
abbrev I.impl_partGoes : FuncId := 78
abbrev I.impl_speeds : FuncId := 57
abbrev I.impl_CellOfFlow : FuncId := 20
abbrev I.laws_FnExactCellOfFlow : FuncId := 6
abbrev I.spec_l06Calm : FuncId := 59
abbrev I.spec_l06GiveFlow : FuncId := 60
abbrev I.spec_EvenFlow : FuncId := 21
abbrev I.impl_weightOf : FuncId := 79
abbrev I.impl_calm : FuncId := 61
abbrev I.impl_EvenFlow : FuncId := 22
abbrev I.laws_markFloat32S : FuncId := 62
abbrev I.laws_markBoolS : FuncId := 63
abbrev I.laws_markFlow : FuncId := 23
abbrev I.laws_heldFloat32S : FuncId := 64
abbrev I.laws_heldBoolS : FuncId := 65
abbrev I.laws_heldFlow : FuncId := 24
abbrev I.laws_FnExactEvenFlow : FuncId := 7
abbrev I.laws_r8Long : FuncId := 25
abbrev I.laws_r8At : FuncId := 26
abbrev I.impl_isCalming : FuncId := 66
abbrev I.slices_Clone_float32Zfloat32 : FuncId := 67
abbrev I.slices_Clone_bool_bool : FuncId := 68
abbrev I.impl_Flow_relax : FuncId := 69
abbrev I.impl_floorMod : FuncId := 80
abbrev I.impl_Flow_stream : FuncId := 70
abbrev I.impl_RunFlow : FuncId := 27
abbrev I.laws_r8Gap : FuncId := 28
abbrev I.impl_RelaxFlow : FuncId := 29
abbrev I.impl_StreamFlow : FuncId := 30
abbrev I.impl_areWorkers : FuncId := 71
abbrev I.impl_FlowsShared : FuncId := 31
abbrev I.laws_FnFlows : FuncId := 8
abbrev I.spec_ValidFlow : FuncId := 10
abbrev I.laws_FnExactValidFlow : FuncId := 3
theorem HT_of_eq {P : Program} (od : Nat → Nat × List Nat) {f : FuncId} {fn : Func} {args : List Value} {H : Hp} {K : Value → Hp → Prop} (hm : P.follows .mixedOrders = true) (hf : P.funcs[f]? = some fn) (hok : fnOk P od fn args.length = true) {G : Prop} (e : fev P od fn args H K = G) (h : G) : HT P f args.toArray H K := HT_of_fev od hm hf hok (e.mpr h)
end Go.Proofs.Ytcjamajenfgddaa
