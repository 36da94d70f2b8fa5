/- The numbers of this seat's functions. -/
import Derived.Test.YtaflemogkogkkaaProg
import Derived.Test.YtaflemogkogkkaaHI
namespace Go.Proofs.Ytaflemogkogkkaa
open HL
noncomputable abbrev prg : Program := Try.prog
theorem mixed : prg.follows .mixedOrders = true := by kernel_rfl
abbrev I.laws_b10Long : FuncId := 4
abbrev I.spec_l00From : FuncId := 13
abbrev I.pspec_l00Src_next : FuncId := 46
abbrev I.pspec_l00Src_pick : FuncId := 28
abbrev I.pspec_l00Src_one : FuncId := 14
abbrev I.spec_l04DrawLifeOk : FuncId := 15
abbrev I.spec_B10Life : FuncId := 5
abbrev I.laws_b10At : FuncId := 6
abbrev I.spec_l04DrawStates : FuncId := 29
abbrev I.spec_l04DrawOk : FuncId := 16
abbrev I.spec_B10Plain : FuncId := 7
abbrev I.impl_within : FuncId := 51
abbrev I.impl_isSide : FuncId := 33
abbrev I.impl_areSmall : FuncId := 21
abbrev I.impl_digitsOf : FuncId := 34
abbrev I.impl_plainFields : FuncId := 22
abbrev I.impl_areWithin : FuncId := 50
abbrev I.impl_areCounts : FuncId := 32
abbrev I.impl_ValidLife : FuncId := 20
abbrev I.slices_IndexFunc_impl_Field_impl_Field : FuncId := 59
abbrev I.slices_ContainsFunc_impl_Field_impl_Field : FuncId := 47
abbrev I.impl_areMany : FuncId := 64
abbrev I.impl_ValidField : FuncId := 60
abbrev I.impl_isPlain : FuncId := 49
abbrev I.impl_lives_1 : FuncId := 48
abbrev I.impl_lives : FuncId := 30
abbrev I.slices_Equal_int64Zint64 : FuncId := 35
abbrev I.impl_SameField : FuncId := 24
abbrev I.impl_madeField : FuncId := 36
abbrev I.impl_bit : FuncId := 52
abbrev I.slices_Index_int64Zint64 : FuncId := 61
abbrev I.slices_Contains_int64Zint64 : FuncId := 53
abbrev I.impl_Life_becomes : FuncId := 38
abbrev I.impl_Field_at : FuncId := 39
abbrev I.impl_floorMod : FuncId := 62
abbrev I.impl_Field_has : FuncId := 63
abbrev I.impl_Field_look : FuncId := 54
abbrev I.impl_Field_around : FuncId := 40
abbrev I.impl_Life_step_1 : FuncId := 37
abbrev I.impl_Life_step : FuncId := 25
abbrev I.impl_before_1 : FuncId := 31
abbrev I.impl_before : FuncId := 17
abbrev I.impl_CountBefore_1 : FuncId := 18
abbrev I.impl_CountBefore : FuncId := 8
abbrev I.impl_FirstBefore_1 : FuncId := 19
abbrev I.impl_FirstBefore : FuncId := 9
abbrev I.impl_CountStill_1 : FuncId := 23
abbrev I.impl_CountStill : FuncId := 10
abbrev I.spec_l00In : FuncId := 57
abbrev I.spec_l04Counts : FuncId := 55
abbrev I.spec_l04Life : FuncId := 41
abbrev I.spec_l04Is : FuncId := 56
abbrev I.spec_l04Plain : FuncId := 42
abbrev I.spec_l04Can : FuncId := 26
abbrev I.spec_l04New : FuncId := 43
abbrev I.spec_l04Round : FuncId := 58
abbrev I.spec_l04Around : FuncId := 44
abbrev I.spec_l04Has : FuncId := 45
abbrev I.spec_l04Next : FuncId := 27
abbrev I.spec_StepLife : FuncId := 11
abbrev I.laws_b10Ints : FuncId := 12
abbrev I.laws_FnBefore : FuncId := 3
theorem HT_of_eq {P : Program} (od : Nat → Nat × List Nat) {f : FuncId} {fn : Func} {args : List Value} {H : Hp} {K : Value → Hp → Prop} (hm : P.follows .mixedOrders = true) (hf : P.funcs[f]? = some fn) (hok : fnOk P od fn args.length = true) {G : Prop} (e : fev P od fn args H K = G) (h : G) : HT P f args.toArray H K := HT_of_fev od hm hf hok (e.mpr h)
end Go.Proofs.Ytaflemogkogkkaa
