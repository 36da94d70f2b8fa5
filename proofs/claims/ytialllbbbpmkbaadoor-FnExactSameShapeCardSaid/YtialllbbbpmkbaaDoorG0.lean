/- The numbers of this seat's functions. -/
import Derived.Test.YtialllbbbpmkbaaDoorProg
import Derived.Test.YtialllbbbpmkbaaDoorHI
namespace Go.Proofs.YtialllbbbpmkbaaDoor
open HL
noncomputable abbrev prg : Program := Tryd.prog
theorem mixed : prg.follows .mixedOrders = true := by kernel_rfl
abbrev I.laws_szInt64S : FuncId := 15
abbrev I.laws_szField : FuncId := 6
abbrev I.spec_l00In : FuncId := 37
abbrev I.spec_l04Is : FuncId := 24
abbrev I.spec_l04Plain : FuncId := 16
abbrev I.spec_l05Number : FuncId := 25
abbrev I.spec_l05Write : FuncId := 17
abbrev I.spec_WriteRuns : FuncId := 7
abbrev I.laws_toInt64S : FuncId := 18
abbrev I.laws_toField : FuncId := 8
abbrev I.impl_within : FuncId := 40
abbrev I.impl_isSide : FuncId := 38
abbrev I.impl_areWithin : FuncId := 27
abbrev I.impl_areMany : FuncId := 39
abbrev I.impl_ValidField : FuncId := 26
abbrev I.impl_isPlain : FuncId := 19
abbrev I.slices_Chunk_int64Zint64Z1 : FuncId := 41
abbrev I.slices_Chunk_int64Zint64 : FuncId := 28
abbrev I.internal_strconv_small : FuncId := 65
abbrev I.internal_strconv_log10Pow2 : FuncId := 71
abbrev I.math_bits_Len64 : FuncId := 72
abbrev I.internal_strconv_bool2Zint : FuncId := 73
abbrev I.internal_strconv_numDigits : FuncId := 66
abbrev I.internal_strconv_formatBase10 : FuncId := 67
abbrev I.internal_strconv_isPowerOfTwo : FuncId := 74
abbrev I.math_bits_TrailingZeros32 : FuncId := 76
abbrev I.math_bits_TrailingZeros64 : FuncId := 77
abbrev I.math_bits_TrailingZeros : FuncId := 75
abbrev I.internal_strconv_formatBits : FuncId := 68
abbrev I.internal_strconv_FormatInt : FuncId := 55
abbrev I.strconv_FormatInt : FuncId := 42
abbrev I.impl_Decimal : FuncId := 30
abbrev I.impl_runsText : FuncId := 29
abbrev I.internal_abi_NoEscape : FuncId := 69
abbrev I.pstrings_Builder_copyCheck : FuncId := 56
abbrev I.internal_bytealg_MakeNoZero : FuncId := 70
abbrev I.pstrings_Builder_grow : FuncId := 57
abbrev I.pstrings_Builder_Grow : FuncId := 43
abbrev I.pstrings_Builder_WriteString : FuncId := 44
abbrev I.pstrings_Builder_String : FuncId := 45
abbrev I.strings_Join : FuncId := 31
abbrev I.impl_Field_text : FuncId := 20
abbrev I.impl_WriteRuns : FuncId := 9
abbrev I.laws_eqInt64S : FuncId := 21
abbrev I.laws_eqField : FuncId := 10
abbrev I.laws_FnExactWriteRuns : FuncId := 3
abbrev I.spec_l00Min : FuncId := 46
abbrev I.spec_l00Max : FuncId := 47
abbrev I.spec_l04New : FuncId := 58
abbrev I.spec_l05Cut : FuncId := 48
abbrev I.spec_l05Trim : FuncId := 32
abbrev I.spec_l05Turn : FuncId := 49
abbrev I.spec_l05Mirror : FuncId := 50
abbrev I.spec_l05Images : FuncId := 33
abbrev I.spec_l05Name : FuncId := 22
abbrev I.spec_NameOf : FuncId := 11
abbrev I.impl_madeField : FuncId := 59
abbrev I.impl_Field_at : FuncId := 61
abbrev I.impl_Field_cut_1 : FuncId := 60
abbrev I.impl_Field_cut : FuncId := 51
abbrev I.impl_Field_trimmed : FuncId := 34
abbrev I.slices_Clone_int64Zint64 : FuncId := 62
abbrev I.impl_copyField : FuncId := 52
abbrev I.impl_Field_mirrored_1 : FuncId := 63
abbrev I.impl_Field_mirrored : FuncId := 53
abbrev I.impl_Field_right_1 : FuncId := 64
abbrev I.impl_Field_right : FuncId := 54
abbrev I.impl_Field_images : FuncId := 35
abbrev I.slices_Min_string_string : FuncId := 36
abbrev I.impl_Field_name : FuncId := 23
abbrev I.impl_NameOf : FuncId := 12
abbrev I.laws_FnExactNameOf : FuncId := 4
abbrev I.spec_SameShape : FuncId := 13
abbrev I.impl_SameShape : FuncId := 14
abbrev I.laws_FnExactSameShape : FuncId := 5
theorem HT_of_eq {P : Program} (od : Nat → Nat × List Nat) {f : FuncId} {fn : Func} {args : List Value} {H : Hp} {K : Value → Hp → Prop} (hm : P.follows .mixedOrders = true) (hf : P.funcs[f]? = some fn) (hok : fnOk P od fn args.length = true) {G : Prop} (e : fev P od fn args H K = G) (h : G) : HT P f args.toArray H K := HT_of_fev od hm hf hok (e.mpr h)
end Go.Proofs.YtialllbbbpmkbaaDoor
