/- Functions' texts over a partial heap. -/
import Derived.Test.YtdfoobomlabffaaG0
namespace Go.Proofs.Ytdfoobomlabffaa
open HL
set_option linter.unusedVariables false
set_option maxRecDepth 100000
set_option maxHeartbeats 4000000
/-! loop.example/g01381/laws.FnExactSwitchLanes: function 5 -/
def F.laws_FnExactSwitchLanes (a0 a1 : Value) (H : Hp) (K : Value → Hp → Prop) : Prop :=
  ob (vLenSl a0) fun v20x1 =>
  ob (vInt .gtr v20x1 (.int .i64 1048576)) fun v21x2 =>
  cnd v21x2
    (K (.bool true) H)
    (ob (vLenSl a1) fun v23x3 =>
  ob (vInt .gtr v23x3 (.int .i64 1048576)) fun v24x4 =>
  cnd v24x4
    (K (.bool true) H)
    (HT prg I.laws_toInt64S [a0].toArray H fun v27x5 H6 =>
  HT prg I.laws_toInt64S [a1].toArray H6 fun v29x7 H8 =>
  HT prg I.spec_SwitchLanes [v27x5, v29x7].toArray H8 fun v30x9 H10 =>
  ob (vExt v30x9 0) fun v31x11 =>
  ob (vExt v30x9 1) fun v32x12 =>
  ob (vExt v30x9 2) fun v33x13 =>
  HT prg I.laws_toInt64S [a0].toArray H10 fun v35x14 H15 =>
  HT prg I.laws_toInt64S [a1].toArray H15 fun v37x16 H17 =>
  HT prg I.impl_SwitchLanes [v35x14, v37x16].toArray H17 fun v41x18 H19 =>
  ob (vExt v41x18 0) fun v42x20 =>
  ob (vExt v41x18 1) fun v43x21 =>
  ob (vExt v41x18 2) fun v44x22 =>
  HT prg I.laws_eqInt64S [v42x20, v31x11].toArray H19 fun v47x23 H24 =>
  ob (vUn .not v47x23) fun v48x25 =>
  gop v48x25 false (fun K26 => K26 v43x21 H24) H24 fun v50x27 H28 =>
  gop v48x25 false (fun K29 => K29 v32x12 H28) H28 fun v51x30 H31 =>
  gop v48x25 false (fun K32 => HT prg I.laws_eqInt64S [v50x27, v51x30].toArray H31 K32) H31 fun v52x33 H34 =>
  gop v48x25 false (fun K35 => ob (vUn .not v52x33) fun u => K35 u H34) H34 fun v53x36 H37 =>
  ob (vPick v48x25 (.bool true) v53x36) fun v54x38 =>
  gop v54x38 false (fun K39 => K39 v44x22 H37) H37 fun v56x40 H41 =>
  gop v54x38 false (fun K42 => K42 v33x13 H41) H41 fun v57x43 H44 =>
  gop v54x38 false (fun K45 => ob (vBool .neq v56x40 v57x43) fun u => K45 u H44) H44 fun v58x46 H47 =>
  ob (vPick v54x38 (.bool true) v58x46) fun v59x48 =>
  cnd v59x48
    (K (.bool false) H47)
    (HT prg I.laws_toInt64S [a0].toArray H47 fun v62x49 H50 =>
  HT prg I.laws_eqInt64S [v35x14, v62x49].toArray H50 fun v63x51 H52 =>
  ob (vUn .not v63x51) fun v64x53 =>
  cnd v64x53
    (K (.bool false) H52)
    (HT prg I.laws_toInt64S [a1].toArray H52 fun v67x54 H55 =>
  HT prg I.laws_eqInt64S [v37x16, v67x54].toArray H55 fun v68x56 H57 =>
  ob (vUn .not v68x56) fun v69x58 =>
  cnd v69x58
    (K (.bool false) H57)
    (HT prg I.laws_markInt64S [v35x14, (.int .i64 1)].toArray H57 fun v72x59 H60 =>
  HT prg I.laws_markInt64S [v37x16, v72x59].toArray H60 fun v75x61 H62 =>
  ob (vInt .lss v75x61 (.int .i64 0)) fun v77x63 =>
  gop v77x63 false (fun K64 => K64 v42x20 H62) H62 fun v79x65 H66 =>
  gop v77x63 false (fun K67 => K67 v31x11 H66) H66 fun v80x68 H69 =>
  gop v77x63 false (fun K70 => HT prg I.laws_eqInt64S [v79x65, v80x68].toArray H69 K70) H69 fun v81x71 H72 =>
  gop v77x63 false (fun K73 => ob (vUn .not v81x71) fun u => K73 u H72) H72 fun v82x74 H75 =>
  ob (vPick v77x63 (.bool true) v82x74) fun v83x76 =>
  gop v83x76 false (fun K77 => K77 v43x21 H75) H75 fun v85x78 H79 =>
  gop v83x76 false (fun K80 => K80 v32x12 H79) H79 fun v86x81 H82 =>
  gop v83x76 false (fun K83 => HT prg I.laws_eqInt64S [v85x78, v86x81].toArray H82 K83) H82 fun v87x84 H85 =>
  gop v83x76 false (fun K86 => ob (vUn .not v87x84) fun u => K86 u H85) H85 fun v88x87 H88 =>
  ob (vPick v83x76 (.bool true) v88x87) fun v89x89 =>
  gop v89x89 false (fun K90 => K90 v44x22 H88) H88 fun v91x91 H92 =>
  gop v89x89 false (fun K93 => K93 v33x13 H92) H92 fun v92x94 H95 =>
  gop v89x89 false (fun K96 => ob (vBool .neq v91x91 v92x94) fun u => K96 u H95) H95 fun v93x97 H98 =>
  ob (vPick v89x89 (.bool true) v93x97) fun v94x99 =>
  cnd v94x99
    (K (.bool false) H98)
    (HT prg I.laws_markInt64S [v42x20, (.int .i64 1)].toArray H98 fun v97x100 H101 =>
  HT prg I.laws_markInt64S [v43x21, v97x100].toArray H101 fun v100x102 H103 =>
  HT prg I.laws_heldInt64S [v42x20, (.int .i64 1)].toArray H103 fun v103x104 H105 =>
  ob (vInt .lss v103x104 (.int .i64 0)) fun v105x106 =>
  cnd v105x106
    (K (.bool false) H105)
    (HT prg I.laws_heldInt64S [v43x21, v103x104].toArray H105 fun v108x107 H108 =>
  ob (vInt .lss v108x107 (.int .i64 0)) fun v110x109 =>
  cnd v110x109
    (K (.bool false) H108)
    (ob (vInt .neq v108x107 v100x102) fun v113x110 =>
  cnd v113x110
    (K (.bool false) H108)
    (HT prg I.laws_toInt64S [a0].toArray H108 fun v116x111 H112 =>
  HT prg I.laws_toInt64S [a1].toArray H112 fun v118x113 H114 =>
  HT prg I.impl_SwitchLanes [v116x111, v118x113].toArray H114 fun v119x115 H116 =>
  ob (vExt v119x115 0) fun v120x117 =>
  ob (vExt v119x115 1) fun v121x118 =>
  ob (vExt v119x115 2) fun v122x119 =>
  HT prg I.laws_eqInt64S [v120x117, v31x11].toArray H116 fun v125x120 H121 =>
  ob (vUn .not v125x120) fun v126x122 =>
  gop v126x122 false (fun K123 => K123 v121x118 H121) H121 fun v128x124 H125 =>
  gop v126x122 false (fun K126 => K126 v32x12 H125) H125 fun v129x127 H128 =>
  gop v126x122 false (fun K129 => HT prg I.laws_eqInt64S [v128x124, v129x127].toArray H128 K129) H128 fun v130x130 H131 =>
  gop v126x122 false (fun K132 => ob (vUn .not v130x130) fun u => K132 u H131) H131 fun v131x133 H134 =>
  ob (vPick v126x122 (.bool true) v131x133) fun v132x135 =>
  gop v132x135 false (fun K136 => K136 v122x119 H134) H134 fun v134x137 H138 =>
  gop v132x135 false (fun K139 => K139 v33x13 H138) H138 fun v135x140 H141 =>
  gop v132x135 false (fun K142 => ob (vBool .neq v134x137 v135x140) fun u => K142 u H141) H141 fun v136x143 H144 =>
  ob (vPick v132x135 (.bool true) v136x143) fun v137x145 =>
  cnd v137x145
    (K (.bool false) H144)
    (HT prg I.laws_heldInt64S [v42x20, (.int .i64 1)].toArray H144 fun v140x146 H147 =>
  ob (vInt .lss v140x146 (.int .i64 0)) fun v142x148 =>
  cnd v142x148
    (K (.bool false) H147)
    (HT prg I.laws_heldInt64S [v43x21, v140x146].toArray H147 fun v145x149 H150 =>
  ob (vInt .lss v145x149 (.int .i64 0)) fun v147x151 =>
  cnd v147x151
    (K (.bool false) H150)
    (ob (vInt .neq v145x149 v100x102) fun v150x152 =>
  cnd v150x152
    (K (.bool false) H150)
    (K (.bool true) H150)))))))))))))
def O.laws_FnExactSwitchLanes : Nat → Nat × List Nat := fun i => (0, [])
theorem R.laws_FnExactSwitchLanes {a0 a1 : Value} {H : Hp} {K : Value → Hp → Prop} (h : F.laws_FnExactSwitchLanes a0 a1 H K) : HT prg I.laws_FnExactSwitchLanes [a0, a1].toArray H K :=
  HT_of_fev O.laws_FnExactSwitchLanes mixed Try.func5 (by kernel_rfl) (Eq.mpr (by kernel_rfl : fev prg O.laws_FnExactSwitchLanes Try.f5 [a0, a1] H K = F.laws_FnExactSwitchLanes a0 a1 H K) h)

end Go.Proofs.Ytdfoobomlabffaa
