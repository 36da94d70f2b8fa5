/- The numbers of this seat's functions. -/
import Derived.Test.YtejbicikffhggaaProg
import Derived.Test.YtejbicikffhggaaHI
namespace Go.Proofs.Ytejbicikffhggaa
open HL
noncomputable abbrev prg : Program := Try.prog
theorem mixed : prg.follows .mixedOrders = true := by kernel_rfl
abbrev I.laws_szInt64S : FuncId := 16
abbrev I.laws_szField : FuncId := 4
abbrev I.spec_l00In : FuncId := 29
abbrev I.spec_l04Is : FuncId := 27
abbrev I.spec_l04Plain : FuncId := 17
abbrev I.spec_l04New : FuncId := 28
abbrev I.spec_l00Min : FuncId := 36
abbrev I.spec_l00Max : FuncId := 37
abbrev I.spec_l05Cut : FuncId := 38
abbrev I.spec_l05Trim : FuncId := 30
abbrev I.spec_l05Parts : FuncId := 18
abbrev I.spec_PartsOf : FuncId := 5
abbrev I.laws_toInt64S : FuncId := 19
abbrev I.laws_toField : FuncId := 6
abbrev I.impl_within : FuncId := 41
abbrev I.impl_isSide : FuncId := 39
abbrev I.impl_areWithin : FuncId := 32
abbrev I.impl_areMany : FuncId := 40
abbrev I.impl_ValidField : FuncId := 31
abbrev I.impl_isPlain : FuncId := 20
abbrev I.impl_Field_clusters_1 : FuncId := 33
abbrev I.impl_Field_clusters : FuncId := 21
abbrev I.impl_Field_has : FuncId := 34
abbrev I.impl_Field_corners : FuncId := 22
abbrev I.impl_madeField : FuncId := 23
abbrev I.impl_bit : FuncId := 25
abbrev I.impl_PartsOf_1 : FuncId := 24
abbrev I.impl_Field_at : FuncId := 43
abbrev I.impl_Field_cut_1 : FuncId := 42
abbrev I.impl_Field_cut : FuncId := 35
abbrev I.impl_Field_trimmed : FuncId := 26
abbrev I.impl_PartsOf : FuncId := 7
abbrev I.laws_eqInt64S : FuncId := 9
abbrev I.laws_eqField : FuncId := 10
abbrev I.laws_eqFieldS : FuncId := 8
abbrev I.laws_markInt64S : FuncId := 13
abbrev I.laws_markField : FuncId := 11
abbrev I.laws_markFieldS : FuncId := 12
abbrev I.laws_heldInt64S : FuncId := 15
abbrev I.laws_heldFieldS : FuncId := 14
abbrev I.laws_FnExactPartsOf : FuncId := 3
theorem HT_of_eq {P : Program} (od : Nat → Nat × List Nat) {f : FuncId} {fn : Func} {args : List Value} {H : Hp} {K : Value → Hp → Prop} (hm : P.follows .mixedOrders = true) (hf : P.funcs[f]? = some fn) (hok : fnOk P od fn args.length = true) {G : Prop} (e : fev P od fn args H K = G) (h : G) : HT P f args.toArray H K := HT_of_fev od hm hf hok (e.mpr h)
end Go.Proofs.Ytejbicikffhggaa
