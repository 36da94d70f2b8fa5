/- Functions' texts over a partial heap. -/
import Derived.Test.YtnndhafldmkdeaaG0
namespace Go.Proofs.Ytnndhafldmkdeaa
open HL
set_option linter.unusedVariables false
set_option maxRecDepth 100000
set_option maxHeartbeats 4000000
/-! loop.example/g01381/laws.FnExactTrimField: function 7 -/
def F.laws_FnExactTrimField (a0 : Value) (H : Hp) (K : Value → Hp → Prop) : Prop :=
  nw (a0 : Value).cells 32 H fun v1x1 H2 =>
  ob (vLoadN 3 v1x1 H2) fun v20x3 =>
  HT prg I.laws_szField [v20x3, (.int .i64 1048576)].toArray H2 fun v22x4 H5 =>
  ob (vInt .lss v22x4 (.int .i64 0)) fun v24x6 =>
  cnd v24x6
    (K (.bool true) H5)
    (ob (vLoadN 3 v1x1 H5) fun v26x7 =>
  HT prg I.laws_toField [v26x7].toArray H5 fun v27x8 H9 =>
  HT prg I.spec_TrimField [v27x8].toArray H9 fun v28x10 H11 =>
  ob (vExt v28x10 0) fun v29x12 =>
  ob (vExt v28x10 1) fun v30x13 =>
  ob (vExt v28x10 2) fun v31x14 =>
  ob (vExt v28x10 3) fun v32x15 =>
  nw #[(.int .i64 0), (.int .i64 0), (.slice none 0 0)] 36 H11 fun v4x16 H17 =>
  st 3 v4x16 v29x12 H17 fun H18 =>
  ob (vLoadN 3 v1x1 H18) fun v33x19 =>
  HT prg I.laws_toField [v33x19].toArray H18 fun v34x20 H21 =>
  nw #[(.int .i64 0), (.int .i64 0), (.slice none 0 0)] 36 H21 fun v8x22 H23 =>
  st 3 v8x22 v34x20 H23 fun H24 =>
  ob (vLoadN 3 v8x22 H24) fun v36x25 =>
  HT prg I.impl_TrimField [v36x25].toArray H24 fun v37x26 H27 =>
  ob (vExt v37x26 0) fun v38x28 =>
  ob (vExt v37x26 1) fun v39x29 =>
  ob (vExt v37x26 2) fun v40x30 =>
  ob (vExt v37x26 3) fun v41x31 =>
  nw #[(.int .i64 0), (.int .i64 0), (.slice none 0 0)] 36 H27 fun v9x32 H33 =>
  st 3 v9x32 v38x28 H33 fun H34 =>
  ob (vLoadN 3 v9x32 H34) fun v42x35 =>
  ob (vLoadN 3 v4x16 H34) fun v43x36 =>
  HT prg I.laws_eqField [v42x35, v43x36].toArray H34 fun v44x37 H38 =>
  ob (vUn .not v44x37) fun v45x39 =>
  gop v45x39 false (fun K40 => K40 v39x29 H38) H38 fun v47x41 H42 =>
  gop v45x39 false (fun K43 => K43 v30x13 H42) H42 fun v48x44 H45 =>
  gop v45x39 false (fun K46 => ob (vInt .neq v47x41 v48x44) fun u => K46 u H45) H45 fun v49x47 H48 =>
  ob (vPick v45x39 (.bool true) v49x47) fun v50x49 =>
  gop v50x49 false (fun K50 => K50 v40x30 H48) H48 fun v52x51 H52 =>
  gop v50x49 false (fun K53 => K53 v31x14 H52) H52 fun v53x54 H55 =>
  gop v50x49 false (fun K56 => ob (vInt .neq v52x51 v53x54) fun u => K56 u H55) H55 fun v54x57 H58 =>
  ob (vPick v50x49 (.bool true) v54x57) fun v55x59 =>
  gop v55x59 false (fun K60 => K60 v41x31 H58) H58 fun v57x61 H62 =>
  gop v55x59 false (fun K63 => K63 v32x15 H62) H62 fun v58x64 H65 =>
  gop v55x59 false (fun K66 => ob (vBool .neq v57x61 v58x64) fun u => K66 u H65) H65 fun v59x67 H68 =>
  ob (vPick v55x59 (.bool true) v59x67) fun v60x69 =>
  cnd v60x69
    (K (.bool false) H68)
    (ob (vLoadN 3 v8x22 H68) fun v61x70 =>
  ob (vLoadN 3 v1x1 H68) fun v62x71 =>
  HT prg I.laws_toField [v62x71].toArray H68 fun v63x72 H73 =>
  Le H68 H73 ∧ (HT prg I.laws_eqField [v61x70, v63x72].toArray H73 fun v64x74 H75 =>
  Le H73 H75 ∧ (ob (vUn .not v64x74) fun v65x76 =>
  cnd v65x76
    (K (.bool false) H75)
    (ob (vLoadN 3 v8x22 H75) fun v66x77 =>
  HT prg I.laws_markField [v66x77, (.int .i64 1)].toArray H75 fun v68x78 H79 =>
  ob (vInt .lss v68x78 (.int .i64 0)) fun v70x80 =>
  gop v70x80 false (fun K81 => ob (vLoadN 3 v9x32 H79) fun u => K81 u H79) H79 fun v72x82 H83 =>
  gop v70x80 false (fun K84 => ob (vLoadN 3 v4x16 H83) fun u => K84 u H83) H83 fun v73x85 H86 =>
  gop v70x80 false (fun K87 => HT prg I.laws_eqField [v72x82, v73x85].toArray H86 K87) H86 fun v74x88 H89 =>
  gop v70x80 false (fun K90 => ob (vUn .not v74x88) fun u => K90 u H89) H89 fun v75x91 H92 =>
  ob (vPick v70x80 (.bool true) v75x91) fun v76x93 =>
  gop v76x93 false (fun K94 => K94 v39x29 H92) H92 fun v78x95 H96 =>
  gop v76x93 false (fun K97 => K97 v30x13 H96) H96 fun v79x98 H99 =>
  gop v76x93 false (fun K100 => ob (vInt .neq v78x95 v79x98) fun u => K100 u H99) H99 fun v80x101 H102 =>
  ob (vPick v76x93 (.bool true) v80x101) fun v81x103 =>
  gop v81x103 false (fun K104 => K104 v40x30 H102) H102 fun v83x105 H106 =>
  gop v81x103 false (fun K107 => K107 v31x14 H106) H106 fun v84x108 H109 =>
  gop v81x103 false (fun K110 => ob (vInt .neq v83x105 v84x108) fun u => K110 u H109) H109 fun v85x111 H112 =>
  ob (vPick v81x103 (.bool true) v85x111) fun v86x113 =>
  gop v86x113 false (fun K114 => K114 v41x31 H112) H112 fun v88x115 H116 =>
  gop v86x113 false (fun K117 => K117 v32x15 H116) H116 fun v89x118 H119 =>
  gop v86x113 false (fun K120 => ob (vBool .neq v88x115 v89x118) fun u => K120 u H119) H119 fun v90x121 H122 =>
  ob (vPick v86x113 (.bool true) v90x121) fun v91x123 =>
  cnd v91x123
    (K (.bool false) H122)
    (ob (vLoadN 3 v9x32 H122) fun v92x124 =>
  HT prg I.laws_markField [v92x124, (.int .i64 1)].toArray H122 fun v94x125 H126 =>
  ob (vLoadN 3 v9x32 H126) fun v95x127 =>
  HT prg I.laws_heldField [v95x127, (.int .i64 1)].toArray H126 fun v97x128 H129 =>
  ob (vInt .lss v97x128 (.int .i64 0)) fun v99x130 =>
  cnd v99x130
    (K (.bool false) H129)
    (ob (vInt .neq v97x128 v94x125) fun v102x131 =>
  cnd v102x131
    (K (.bool false) H129)
    (ob (vLoadN 3 v1x1 H129) fun v104x132 =>
  HT prg I.laws_toField [v104x132].toArray H129 fun v105x133 H134 =>
  HT prg I.impl_TrimField [v105x133].toArray H134 fun v106x135 H136 =>
  ob (vExt v106x135 0) fun v107x137 =>
  ob (vExt v106x135 1) fun v108x138 =>
  ob (vExt v106x135 2) fun v109x139 =>
  ob (vExt v106x135 3) fun v110x140 =>
  nw #[(.int .i64 0), (.int .i64 0), (.slice none 0 0)] 36 H136 fun v16x141 H142 =>
  st 3 v16x141 v107x137 H142 fun H143 =>
  ob (vLoadN 3 v16x141 H143) fun v111x144 =>
  ob (vLoadN 3 v4x16 H143) fun v112x145 =>
  HT prg I.laws_eqField [v111x144, v112x145].toArray H143 fun v113x146 H147 =>
  ob (vUn .not v113x146) fun v114x148 =>
  gop v114x148 false (fun K149 => K149 v108x138 H147) H147 fun v116x150 H151 =>
  gop v114x148 false (fun K152 => K152 v30x13 H151) H151 fun v117x153 H154 =>
  gop v114x148 false (fun K155 => ob (vInt .neq v116x150 v117x153) fun u => K155 u H154) H154 fun v118x156 H157 =>
  ob (vPick v114x148 (.bool true) v118x156) fun v119x158 =>
  gop v119x158 false (fun K159 => K159 v109x139 H157) H157 fun v121x160 H161 =>
  gop v119x158 false (fun K162 => K162 v31x14 H161) H161 fun v122x163 H164 =>
  gop v119x158 false (fun K165 => ob (vInt .neq v121x160 v122x163) fun u => K165 u H164) H164 fun v123x166 H167 =>
  ob (vPick v119x158 (.bool true) v123x166) fun v124x168 =>
  gop v124x168 false (fun K169 => K169 v110x140 H167) H167 fun v126x170 H171 =>
  gop v124x168 false (fun K172 => K172 v32x15 H171) H171 fun v127x173 H174 =>
  gop v124x168 false (fun K175 => ob (vBool .neq v126x170 v127x173) fun u => K175 u H174) H174 fun v128x176 H177 =>
  ob (vPick v124x168 (.bool true) v128x176) fun v129x178 =>
  cnd v129x178
    (K (.bool false) H177)
    (ob (vLoadN 3 v9x32 H177) fun v130x179 =>
  HT prg I.laws_heldField [v130x179, (.int .i64 1)].toArray H177 fun v132x180 H181 =>
  ob (vInt .lss v132x180 (.int .i64 0)) fun v134x182 =>
  cnd v134x182
    (K (.bool false) H181)
    (ob (vInt .neq v132x180 v94x125) fun v137x183 =>
  cnd v137x183
    (K (.bool false) H181)
    (K (.bool true) H181)))))))))))
def O.laws_FnExactTrimField : Nat → Nat × List Nat := fun i => bif Nat.beq i 10 then (0, [0, 1, 2, 3, 4]) else (0, [])
theorem R.laws_FnExactTrimField {a0 : Value} {H : Hp} {K : Value → Hp → Prop} (h : F.laws_FnExactTrimField a0 H K) : HT prg I.laws_FnExactTrimField [a0].toArray H K :=
  HT_of_fev O.laws_FnExactTrimField mixed Try.func7 (by kernel_rfl) (Eq.mpr (by kernel_rfl : fev prg O.laws_FnExactTrimField Try.f7 [a0] H K = F.laws_FnExactTrimField a0 H K) h)

/-! loop.example/g01381/spec.l05Meet: function 61 -/
def F.spec_l05Meet (a0 a1 a2 a3 : Value) (H : Hp) (K : Value → Hp → Prop) : Prop :=
  nw #[(.int .i64 0), (.int .i64 0), (.slice none 0 0)] 36 H fun v8x1 H2 =>
  HT prg I.spec_l00In [a2, (.int .i64 0), (.int .i64 24)].toArray H2 fun v18x3 H4 =>
  ob (vUn .not v18x3) fun v19x5 =>
  gop v19x5 false (fun K6 => K6 a3 H4) H4 fun v21x7 H8 =>
  gop v19x5 false (fun K9 => HT prg I.spec_l00In [v21x7, (.int .i64 0), (.int .i64 24)].toArray H8 K9) H8 fun v22x10 H11 =>
  gop v19x5 false (fun K12 => ob (vUn .not v22x10) fun u => K12 u H11) H11 fun v23x13 H14 =>
  ob (vPick v19x5 (.bool true) v23x13) fun v24x15 =>
  cnd v24x15
    (ob (vBuild [(0, 1), (1, 1), (2, 1)] (.agg #[(.int .i64 0), (.int .i64 0), (.slice none 0 0)]) []) fun v25x16 =>
    st 3 v8x1 v25x16 H14 fun H17 =>
    ob (vLoadN 3 v8x1 H17) fun u18 => K (.tuple #[u18, (.bool false)]) H17)
    (ob (vNilC a0) fun v27x19 =>
  ob (vFa 0 v27x19) fun v28x20 =>
  ob (vLoad v28x20 H14) fun v29x21 =>
  ob (vNilC a1) fun v32x22 =>
  ob (vFa 0 v32x22) fun v33x23 =>
  ob (vLoad v33x23 H14) fun v34x24 =>
  ob (vInt .add a2 v34x24) fun v35x25 =>
  HT prg I.spec_l00Max [v29x21, v35x25].toArray H14 fun v36x26 H27 =>
  Le H14 H27 ∧ (ob (vNilC a0) fun v38x28 =>
  ob (vFa 1 v38x28) fun v39x29 =>
  ob (vLoad v39x29 H27) fun v40x30 =>
  ob (vNilC a1) fun v43x31 =>
  ob (vFa 1 v43x31) fun v44x32 =>
  ob (vLoad v44x32 H27) fun v45x33 =>
  ob (vInt .add a3 v45x33) fun v46x34 =>
  HT prg I.spec_l00Max [v40x30, v46x34].toArray H27 fun v47x35 H36 =>
  Le H27 H36 ∧ (HT prg I.spec_l05Sides [v36x26, v47x35].toArray H36 fun v50x37 H38 =>
  ob (vUn .not v50x37) fun v51x39 =>
  cnd v51x39
    (ob (vBuild [(0, 1), (1, 1), (2, 1)] (.agg #[(.int .i64 0), (.int .i64 0), (.slice none 0 0)]) []) fun v52x40 =>
    st 3 v8x1 v52x40 H38 fun H41 =>
    ob (vLoadN 3 v8x1 H41) fun u42 => K (.tuple #[u42, (.bool false)]) H41)
    (HT prg I.spec_l04New [v36x26, v47x35].toArray H38 fun v55x43 H44 =>
  nw #[(.int .i64 0), (.int .i64 0), (.slice none 0 0)] 36 H44 fun v12x45 H46 =>
  st 3 v12x45 v55x43 H46 fun H47 =>
  jn (fun σ48 H48 =>
    jn (fun σ49 H49 =>
      ob (vLoadN 3 (σ49 12) H49) fun v137x50 =>
      st 3 (σ49 8) v137x50 H49 fun H51 =>
      ob (vLoadN 3 (σ49 8) H51) fun u52 => K (.tuple #[u52, (.bool true)]) H51) fun J49 =>
    lpE (fun Q53 σ53 H53 =>
      ob (vNilC (σ53 1)) fun v96x54 =>
      ob (vFa 0 v96x54) fun v97x55 =>
      ob (vLoad v97x55 H53) fun v98x56 =>
      ob (vInt .lss (σ53 15) v98x56) fun v99x57 =>
      cnd v99x57
        (jn (fun σ58 H58 =>
        ob (vInt .add (σ58 15) (.int .i64 1)) fun v101x59 =>
        Q53 .normal (up (up (up σ58 100 (σ58 15)) 101 v101x59) 15 v101x59) H58) fun J58 =>
      lpE (fun Q60 σ60 H60 =>
        ob (vNilC (σ60 1)) fun v104x61 =>
        ob (vFa 1 v104x61) fun v105x62 =>
        ob (vLoad v105x62 H60) fun v106x63 =>
        ob (vInt .lss (σ60 16) v106x63) fun v107x64 =>
        cnd v107x64
          (ob (vNilC (σ60 1)) fun v111x65 =>
        ob (vFa 2 v111x65) fun v112x66 =>
        ob (vLoad v112x66 H60) fun v113x67 =>
        ob (vNilC (σ60 1)) fun v116x68 =>
        ob (vFa 1 v116x68) fun v117x69 =>
        ob (vLoad v117x69 H60) fun v118x70 =>
        ob (vInt .mul (σ60 15) v118x70) fun v119x71 =>
        ob (vInt .add v119x71 (σ60 16)) fun v121x72 =>
        ob (vIx 1 v113x67 v121x72) fun v122x73 =>
        ob (vLoad v122x73 H60) fun v123x74 =>
        ob (vInt .eql v123x74 (.int .i64 1)) fun v124x75 =>
        cnd v124x75
          (ob (vFa 2 (σ60 12)) fun v125x76 =>
          ob (vLoad v125x76 H60) fun v126x77 =>
          ob (vInt .add (σ60 2) (σ60 15)) fun v129x78 =>
          ob (vInt .mul v129x78 (σ60 11)) fun v131x79 =>
          ob (vInt .add v131x79 (σ60 3)) fun v133x80 =>
          ob (vInt .add v133x80 (σ60 16)) fun v135x81 =>
          ob (vIx 1 v126x77 v135x81) fun v136x82 =>
          st 1 v136x82 (.int .i64 1) H60 fun H83 =>
          ob (vInt .add (σ60 16) (.int .i64 1)) fun v109x84 =>
        Q60 .normal (up (up (up (up (up (up (up (up (up (up (up (up (up (up (up (up (up (up (up (up (up (up (up (up (up (up (up (up (up (up (up (up (up (up (up (up σ60 102 (σ60 16)) 103 (σ60 1)) 104 v104x61) 105 v105x62) 106 v106x63) 107 v107x64) 110 (σ60 1)) 111 v111x65) 112 v112x66) 113 v113x67) 114 (σ60 15)) 115 (σ60 1)) 116 v116x68) 117 v117x69) 118 v118x70) 119 v119x71) 120 (σ60 16)) 121 v121x72) 122 v122x73) 123 v123x74) 124 v124x75) 125 v125x76) 126 v126x77) 127 (σ60 2)) 128 (σ60 15)) 129 v129x78) 130 (σ60 11)) 131 v131x79) 132 (σ60 3)) 133 v133x80) 134 (σ60 16)) 135 v135x81) 136 v136x82) 108 (σ60 16)) 109 v109x84) 16 v109x84) H83)
          (ob (vInt .add (σ60 16) (.int .i64 1)) fun v109x85 =>
        Q60 .normal (up (up (up (up (up (up (up (up (up (up (up (up (up (up (up (up (up (up (up (up (up (up (up (up σ60 102 (σ60 16)) 103 (σ60 1)) 104 v104x61) 105 v105x62) 106 v106x63) 107 v107x64) 110 (σ60 1)) 111 v111x65) 112 v112x66) 113 v113x67) 114 (σ60 15)) 115 (σ60 1)) 116 v116x68) 117 v117x69) 118 v118x70) 119 v119x71) 120 (σ60 16)) 121 v121x72) 122 v122x73) 123 v123x74) 124 v124x75) 108 (σ60 16)) 109 v109x85) 16 v109x85) H60))
          (Q60 (.exit 6) (up (up (up (up (up (up σ60 102 (σ60 16)) 103 (σ60 1)) 104 v104x61) 105 v105x62) 106 v106x63) 107 v107x64) H60)) (blkQ 6 (blkQ 5 (thenQ J58 Q53))) (up (up (up (up (up (up (up σ53 94 (σ53 15)) 95 (σ53 1)) 96 v96x54) 97 v97x55) 98 v98x56) 99 v99x57) 16 (.int .i64 0)) H53)
        (Q53 (.exit 4) (up (up (up (up (up (up σ53 94 (σ53 15)) 95 (σ53 1)) 96 v96x54) 97 v97x55) 98 v98x56) 99 v99x57) H53)) (blkQ 4 (thenQ J49 (retQ prg [(.cell 8 36), (.tmp 9)] K))) (up σ48 15 (.int .i64 0)) H48) fun J48 =>
  lpE (fun Q86 σ86 H86 =>
    ob (vNilC (σ86 0)) fun v58x87 =>
    ob (vFa 0 v58x87) fun v59x88 =>
    ob (vLoad v59x88 H86) fun v60x89 =>
    ob (vInt .lss (σ86 13) v60x89) fun v61x90 =>
    cnd v61x90
      (jn (fun σ91 H91 =>
      ob (vInt .add (σ91 13) (.int .i64 1)) fun v63x92 =>
      Q86 .normal (up (up (up σ91 62 (σ91 13)) 63 v63x92) 13 v63x92) H91) fun J91 =>
    lpE (fun Q93 σ93 H93 =>
      ob (vNilC (σ93 0)) fun v66x94 =>
      ob (vFa 1 v66x94) fun v67x95 =>
      ob (vLoad v67x95 H93) fun v68x96 =>
      ob (vInt .lss (σ93 14) v68x96) fun v69x97 =>
      cnd v69x97
        (ob (vFa 2 (σ93 12)) fun v72x98 =>
      ob (vLoad v72x98 H93) fun v73x99 =>
      ob (vInt .mul (σ93 13) (σ93 11)) fun v76x100 =>
      ob (vInt .add v76x100 (σ93 14)) fun v78x101 =>
      ob (vNilC (σ93 0)) fun v80x102 =>
      ob (vFa 2 v80x102) fun v81x103 =>
      ob (vLoad v81x103 H93) fun v82x104 =>
      ob (vNilC (σ93 0)) fun v85x105 =>
      ob (vFa 1 v85x105) fun v86x106 =>
      ob (vLoad v86x106 H93) fun v87x107 =>
      ob (vInt .mul (σ93 13) v87x107) fun v88x108 =>
      ob (vInt .add v88x108 (σ93 14)) fun v90x109 =>
      ob (vIx 1 v82x104 v90x109) fun v91x110 =>
      ob (vLoad v91x110 H93) fun v92x111 =>
      ob (vIx 1 v73x99 v78x101) fun v93x112 =>
      st 1 v93x112 v92x111 H93 fun H113 =>
      ob (vInt .add (σ93 14) (.int .i64 1)) fun v71x114 =>
      Q93 .normal (up (up (up (up (up (up (up (up (up (up (up (up (up (up (up (up (up (up (up (up (up (up (up (up (up (up (up (up (up (up (up σ93 64 (σ93 14)) 65 (σ93 0)) 66 v66x94) 67 v67x95) 68 v68x96) 69 v69x97) 72 v72x98) 73 v73x99) 74 (σ93 13)) 75 (σ93 11)) 76 v76x100) 77 (σ93 14)) 78 v78x101) 79 (σ93 0)) 80 v80x102) 81 v81x103) 82 v82x104) 83 (σ93 13)) 84 (σ93 0)) 85 v85x105) 86 v86x106) 87 v87x107) 88 v88x108) 89 (σ93 14)) 90 v90x109) 91 v91x110) 92 v92x111) 93 v93x112) 70 (σ93 14)) 71 v71x114) 14 v71x114) H113)
        (Q93 (.exit 2) (up (up (up (up (up (up σ93 64 (σ93 14)) 65 (σ93 0)) 66 v66x94) 67 v67x95) 68 v68x96) 69 v69x97) H93)) (blkQ 2 (blkQ 1 (thenQ J91 Q86))) (up (up (up (up (up (up (up σ86 56 (σ86 13)) 57 (σ86 0)) 58 v58x87) 59 v59x88) 60 v60x89) 61 v61x90) 14 (.int .i64 0)) H86)
      (Q86 (.exit 0) (up (up (up (up (up (up σ86 56 (σ86 13)) 57 (σ86 0)) 58 v58x87) 59 v59x88) 60 v60x89) 61 v61x90) H86)) (blkQ 0 (thenQ J48 (retQ prg [(.cell 8 36), (.tmp 9)] K))) (up (up (up (up (up (up (up (up (up (up (up (up (up (up (up (up (up (up (up (up (up (up (up (up (up (up (up (up (up (up (up (up (up (up (up (up (up (up (up (up (up (up (up (S0 [a0, a1, a2, a3]) 8 v8x1) 9 (.bool false)) 17 a2) 18 v18x3) 19 v19x5) 20 v19x5) 21 v21x7) 22 v22x10) 23 v23x13) 24 v24x15) 26 a0) 27 v27x19) 28 v28x20) 29 v29x21) 30 a2) 31 a1) 32 v32x22) 33 v33x23) 34 v34x24) 35 v35x25) 36 v36x26) 10 v36x26) 37 a0) 38 v38x28) 39 v39x29) 40 v40x30) 41 a3) 42 a1) 43 v43x31) 44 v44x32) 45 v45x33) 46 v46x34) 47 v47x35) 11 v47x35) 48 v36x26) 49 v47x35) 50 v50x37) 51 v51x39) 53 v36x26) 54 v47x35) 55 v55x43) 12 v12x45) 13 (.int .i64 0)) H47))))
def O.spec_l05Meet : Nat → Nat × List Nat := fun i => bif Nat.beq i 3 then (0, [0, 1, 2, 3, 4, 5, 6, 7, 8, 9, 10, 11]) else bif Nat.beq i 4 then (0, [0, 1, 2, 3, 4, 5, 6, 7, 8, 9, 10, 11]) else bif Nat.beq i 21 then (0, [0, 1, 2, 3, 4, 5, 6, 7, 8, 9, 10, 11, 12, 13, 14]) else bif Nat.beq i 14 then (0, [0, 1, 2, 3, 4, 5, 6, 7, 8, 9, 10, 11, 12, 13, 14, 15, 16, 17, 18, 19, 20, 21, 22]) else (0, [])
theorem R.spec_l05Meet {a0 a1 a2 a3 : Value} {H : Hp} {K : Value → Hp → Prop} (h : F.spec_l05Meet a0 a1 a2 a3 H K) : HT prg I.spec_l05Meet [a0, a1, a2, a3].toArray H K :=
  HT_of_fev O.spec_l05Meet mixed Try.func61 (by kernel_rfl) (Eq.mpr (by kernel_rfl : fev prg O.spec_l05Meet Try.f61 [a0, a1, a2, a3] H K = F.spec_l05Meet a0 a1 a2 a3 H K) h)

/-! loop.example/g01381/spec.MeetFields: function 30 -/
def F.spec_MeetFields (a0 a1 a2 a3 : Value) (H : Hp) (K : Value → Hp → Prop) : Prop :=
  nw (a0 : Value).cells 36 H fun v4x1 H2 =>
  nw (a1 : Value).cells 36 H2 fun v5x3 H4 =>
  nw #[(.int .i64 0), (.int .i64 0), (.slice none 0 0)] 36 H4 fun v8x5 H6 =>
  HT prg I.spec_l04Plain [v4x1].toArray H6 fun v10x7 H8 =>
  ob (vUn .not v10x7) fun v11x9 =>
  gop v11x9 false (fun K10 => HT prg I.spec_l04Plain [v5x3].toArray H8 K10) H8 fun v13x11 H12 =>
  gop v11x9 false (fun K13 => ob (vUn .not v13x11) fun u => K13 u H12) H12 fun v14x14 H15 =>
  ob (vPick v11x9 (.bool true) v14x14) fun v15x16 =>
  cnd v15x16
    (ob (vBuild [(0, 1), (1, 1), (2, 1)] (.agg #[(.int .i64 0), (.int .i64 0), (.slice none 0 0)]) []) fun v16x17 =>
    st 3 v8x5 v16x17 H15 fun H18 =>
    ob (vLoadN 3 v8x5 H18) fun u19 => K (.tuple #[u19, (.bool false)]) H18)
    (HT prg I.spec_l05Meet [v4x1, v5x3, a2, a3].toArray H15 fun v19x20 H21 =>
  ob (vExt v19x20 0) fun v20x22 =>
  ob (vExt v19x20 1) fun v21x23 =>
  st 3 v8x5 v20x22 H21 fun H24 =>
  ob (vLoadN 3 v8x5 H24) fun u25 => K (.tuple #[u25, v21x23]) H24)
def O.spec_MeetFields : Nat → Nat × List Nat := fun i => (0, [])
theorem R.spec_MeetFields {a0 a1 a2 a3 : Value} {H : Hp} {K : Value → Hp → Prop} (h : F.spec_MeetFields a0 a1 a2 a3 H K) : HT prg I.spec_MeetFields [a0, a1, a2, a3].toArray H K :=
  HT_of_fev O.spec_MeetFields mixed Try.func30 (by kernel_rfl) (Eq.mpr (by kernel_rfl : fev prg O.spec_MeetFields Try.f30 [a0, a1, a2, a3] H K = F.spec_MeetFields a0 a1 a2 a3 H K) h)

/-! loop.example/g01381/impl.meet$1: function 85 -/
def F.impl_meet_1 (a0 a1 a2 a3 a4 a5 : Value) (H : Hp) (K : Value → Hp → Prop) : Prop :=
  ob (vLoadN 3 a2 H) fun v9x1 =>
  ob (vLoadN 3 a3 H) fun v13x2 =>
  ob (vLoad a4 H) fun v15x3 =>
  ob (vInt .sub a0 v15x3) fun v16x4 =>
  ob (vLoad a5 H) fun v18x5 =>
  ob (vInt .sub a1 v18x5) fun v19x6 =>
  HT prg I.impl_Field_look [v9x1, a0, a1, (.bool false)].toArray H fun v12x7 H8 =>
  Le H H8 ∧ (HT prg I.impl_Field_look [v13x2, v16x4, v19x6, (.bool false)].toArray H8 fun v20x9 H10 =>
  Le H8 H10 ∧ (ob (vMx true v12x7 [v20x9]) fun v21x11 =>
  K v21x11 H10))
def O.impl_meet_1 : Nat → Nat × List Nat := fun i => bif Nat.beq i 1 then (0, [0, 1, 2, 4, 5, 6, 7, 8, 9, 10, 3, 11, 12, 13]) else (0, [])
theorem R.impl_meet_1 {a0 a1 a2 a3 a4 a5 : Value} {H : Hp} {K : Value → Hp → Prop} (h : F.impl_meet_1 a0 a1 a2 a3 a4 a5 H K) : HT prg I.impl_meet_1 [a0, a1, a2, a3, a4, a5].toArray H K :=
  HT_of_fev O.impl_meet_1 mixed Try.func85 (by kernel_rfl) (Eq.mpr (by kernel_rfl : fev prg O.impl_meet_1 Try.f85 [a0, a1, a2, a3, a4, a5] H K = F.impl_meet_1 a0 a1 a2 a3 a4 a5 H K) h)

/-! loop.example/g01381/impl.meet: function 62 -/
def F.impl_meet (a0 a1 a2 a3 : Value) (H : Hp) (K : Value → Hp → Prop) : Prop :=
  nw (a0 : Value).cells 36 H fun v4x1 H2 =>
  nw (a1 : Value).cells 36 H2 fun v5x3 H4 =>
  nw (a2 : Value).cells 2 H4 fun v6x5 H6 =>
  nw (a3 : Value).cells 2 H6 fun v7x7 H8 =>
  nw #[(.int .i64 0), (.int .i64 0), (.slice none 0 0)] 36 H8 fun v8x9 H10 =>
  ob (vLoadN 3 v4x1 H10) fun v12x11 =>
  HT prg I.impl_isPlain [v12x11].toArray H10 fun v13x12 H13 =>
  ob (vUn .not v13x12) fun v14x14 =>
  gop v14x14 false (fun K15 => ob (vLoadN 3 v5x3 H13) fun u => K15 u H13) H13 fun v16x16 H17 =>
  gop v14x14 false (fun K18 => HT prg I.impl_isPlain [v16x16].toArray H17 K18) H17 fun v17x19 H20 =>
  gop v14x14 false (fun K21 => ob (vUn .not v17x19) fun u => K21 u H20) H20 fun v18x22 H23 =>
  ob (vPick v14x14 (.bool true) v18x22) fun v19x24 =>
  gop v19x24 false (fun K25 => ob (vLoad v6x5 H23) fun u => K25 u H23) H23 fun v21x26 H27 =>
  gop v19x24 false (fun K28 => HT prg I.impl_within [v21x26, (.int .i64 0), (.int .i64 24)].toArray H27 K28) H27 fun v22x29 H30 =>
  gop v19x24 false (fun K31 => ob (vUn .not v22x29) fun u => K31 u H30) H30 fun v23x32 H33 =>
  ob (vPick v19x24 (.bool true) v23x32) fun v24x34 =>
  gop v24x34 false (fun K35 => ob (vLoad v7x7 H33) fun u => K35 u H33) H33 fun v26x36 H37 =>
  gop v24x34 false (fun K38 => HT prg I.impl_within [v26x36, (.int .i64 0), (.int .i64 24)].toArray H37 K38) H37 fun v27x39 H40 =>
  gop v24x34 false (fun K41 => ob (vUn .not v27x39) fun u => K41 u H40) H40 fun v28x42 H43 =>
  ob (vPick v24x34 (.bool true) v28x42) fun v29x44 =>
  cnd v29x44
    (ob (vBuild [(0, 1), (1, 1), (2, 1)] (.agg #[(.int .i64 0), (.int .i64 0), (.slice none 0 0)]) []) fun v30x45 =>
    st 3 v8x9 v30x45 H43 fun H46 =>
    ob (vLoadN 3 v8x9 H46) fun u47 => K (.tuple #[u47, (.bool false)]) H46)
    (ob (vFa 0 v4x1) fun v31x48 =>
  ob (vLoad v31x48 H43) fun v32x49 =>
  ob (vLoad v6x5 H43) fun v33x50 =>
  ob (vFa 0 v5x3) fun v34x51 =>
  ob (vLoad v34x51 H43) fun v35x52 =>
  ob (vInt .add v33x50 v35x52) fun v36x53 =>
  ob (vMx true v32x49 [v36x53]) fun v37x54 =>
  ob (vFa 1 v4x1) fun v38x55 =>
  ob (vLoad v38x55 H43) fun v39x56 =>
  ob (vLoad v7x7 H43) fun v40x57 =>
  ob (vFa 1 v5x3) fun v41x58 =>
  ob (vLoad v41x58 H43) fun v42x59 =>
  ob (vInt .add v40x57 v42x59) fun v43x60 =>
  ob (vMx true v39x56 [v43x60]) fun v44x61 =>
  HT prg I.impl_isSide [v37x54].toArray H43 fun v46x62 H63 =>
  ob (vUn .not v46x62) fun v47x64 =>
  gop v47x64 false (fun K65 => K65 v44x61 H63) H63 fun v49x66 H67 =>
  gop v47x64 false (fun K68 => HT prg I.impl_isSide [v49x66].toArray H67 K68) H67 fun v50x69 H70 =>
  gop v47x64 false (fun K71 => ob (vUn .not v50x69) fun u => K71 u H70) H70 fun v51x72 H73 =>
  ob (vPick v47x64 (.bool true) v51x72) fun v52x74 =>
  cnd v52x74
    (ob (vBuild [(0, 1), (1, 1), (2, 1)] (.agg #[(.int .i64 0), (.int .i64 0), (.slice none 0 0)]) []) fun v53x75 =>
    st 3 v8x9 v53x75 H73 fun H76 =>
    ob (vLoadN 3 v8x9 H76) fun u77 => K (.tuple #[u77, (.bool false)]) H76)
    (HT prg I.impl_madeField [v37x54, v44x61, (.func (.func I.impl_meet_1) #[] #[v4x1, v5x3, v6x5, v7x7])].toArray H73 fun v57x78 H79 =>
  st 3 v8x9 v57x78 H79 fun H80 =>
  ob (vLoadN 3 v8x9 H80) fun u81 => K (.tuple #[u81, (.bool true)]) H80))
def O.impl_meet : Nat → Nat × List Nat := fun i => bif Nat.beq i 3 then (0, [0, 1, 2, 3, 4, 5, 6, 7, 8, 9, 10, 11, 12, 13, 14, 15]) else (0, [])
theorem R.impl_meet {a0 a1 a2 a3 : Value} {H : Hp} {K : Value → Hp → Prop} (h : F.impl_meet a0 a1 a2 a3 H K) : HT prg I.impl_meet [a0, a1, a2, a3].toArray H K :=
  HT_of_fev O.impl_meet mixed Try.func62 (by kernel_rfl) (Eq.mpr (by kernel_rfl : fev prg O.impl_meet Try.f62 [a0, a1, a2, a3] H K = F.impl_meet a0 a1 a2 a3 H K) h)

/-! loop.example/g01381/impl.MeetFields: function 31 -/
def F.impl_MeetFields (a0 a1 a2 a3 : Value) (H : Hp) (K : Value → Hp → Prop) : Prop :=
  nw (a0 : Value).cells 36 H fun v4x1 H2 =>
  nw (a1 : Value).cells 36 H2 fun v5x3 H4 =>
  nw #[(.int .i64 0), (.int .i64 0), (.slice none 0 0)] 36 H4 fun v8x5 H6 =>
  ob (vLoadN 3 v4x1 H6) fun v10x7 =>
  ob (vLoadN 3 v5x3 H6) fun v11x8 =>
  HT prg I.impl_meet [v10x7, v11x8, a2, a3].toArray H6 fun v14x9 H10 =>
  ob (vExt v14x9 0) fun v15x11 =>
  ob (vExt v14x9 1) fun v16x12 =>
  st 3 v8x5 v15x11 H10 fun H13 =>
  ob (vLoadN 3 v8x5 H13) fun u14 => K (.tuple #[u14, v16x12]) H13
def O.impl_MeetFields : Nat → Nat × List Nat := fun i => (0, [])
theorem R.impl_MeetFields {a0 a1 a2 a3 : Value} {H : Hp} {K : Value → Hp → Prop} (h : F.impl_MeetFields a0 a1 a2 a3 H K) : HT prg I.impl_MeetFields [a0, a1, a2, a3].toArray H K :=
  HT_of_fev O.impl_MeetFields mixed Try.func31 (by kernel_rfl) (Eq.mpr (by kernel_rfl : fev prg O.impl_MeetFields Try.f31 [a0, a1, a2, a3] H K = F.impl_MeetFields a0 a1 a2 a3 H K) h)

/-! loop.example/g01381/laws.FnExactMeetFields: function 8 -/
def F.laws_FnExactMeetFields (a0 a1 a2 a3 : Value) (H : Hp) (K : Value → Hp → Prop) : Prop :=
  nw (a0 : Value).cells 32 H fun v4x1 H2 =>
  nw (a1 : Value).cells 32 H2 fun v5x3 H4 =>
  ob (vLoadN 3 v4x1 H4) fun v21x5 =>
  HT prg I.laws_szField [v21x5, (.int .i64 1048576)].toArray H4 fun v23x6 H7 =>
  ob (vInt .lss v23x6 (.int .i64 0)) fun v25x8 =>
  cnd v25x8
    (K (.bool true) H7)
    (ob (vLoadN 3 v5x3 H7) fun v26x9 =>
  HT prg I.laws_szField [v26x9, v23x6].toArray H7 fun v28x10 H11 =>
  ob (vInt .lss v28x10 (.int .i64 0)) fun v30x12 =>
  cnd v30x12
    (K (.bool true) H11)
    (ob (vLoadN 3 v4x1 H11) fun v32x13 =>
  ob (vLoadN 3 v5x3 H11) fun v34x14 =>
  HT prg I.laws_toField [v32x13].toArray H11 fun v33x15 H16 =>
  Le H11 H16 ∧ (HT prg I.laws_toField [v34x14].toArray H16 fun v35x17 H18 =>
  Le H16 H18 ∧ (HT prg I.spec_MeetFields [v33x15, v35x17, a2, a3].toArray H18 fun v38x19 H20 =>
  Le H18 H20 ∧ (ob (vExt v38x19 0) fun v39x21 =>
  ob (vExt v38x19 1) fun v40x22 =>
  nw #[(.int .i64 0), (.int .i64 0), (.slice none 0 0)] 36 H20 fun v10x23 H24 =>
  st 3 v10x23 v39x21 H24 fun H25 =>
  ob (vLoadN 3 v4x1 H25) fun v41x26 =>
  HT prg I.laws_toField [v41x26].toArray H25 fun v42x27 H28 =>
  nw #[(.int .i64 0), (.int .i64 0), (.slice none 0 0)] 36 H28 fun v12x29 H30 =>
  st 3 v12x29 v42x27 H30 fun H31 =>
  ob (vLoadN 3 v5x3 H31) fun v43x32 =>
  HT prg I.laws_toField [v43x32].toArray H31 fun v44x33 H34 =>
  nw #[(.int .i64 0), (.int .i64 0), (.slice none 0 0)] 36 H34 fun v13x35 H36 =>
  st 3 v13x35 v44x33 H36 fun H37 =>
  ob (vLoadN 3 v12x29 H37) fun v46x38 =>
  ob (vLoadN 3 v13x35 H37) fun v47x39 =>
  HT prg I.impl_MeetFields [v46x38, v47x39, a2, a3].toArray H37 fun v50x40 H41 =>
  ob (vExt v50x40 0) fun v51x42 =>
  ob (vExt v50x40 1) fun v52x43 =>
  nw #[(.int .i64 0), (.int .i64 0), (.slice none 0 0)] 36 H41 fun v14x44 H45 =>
  st 3 v14x44 v51x42 H45 fun H46 =>
  ob (vLoadN 3 v14x44 H46) fun v53x47 =>
  ob (vLoadN 3 v10x23 H46) fun v54x48 =>
  HT prg I.laws_eqField [v53x47, v54x48].toArray H46 fun v55x49 H50 =>
  ob (vUn .not v55x49) fun v56x51 =>
  gop v56x51 false (fun K52 => K52 v52x43 H50) H50 fun v58x53 H54 =>
  gop v56x51 false (fun K55 => K55 v40x22 H54) H54 fun v59x56 H57 =>
  gop v56x51 false (fun K58 => ob (vBool .neq v58x53 v59x56) fun u => K58 u H57) H57 fun v60x59 H60 =>
  ob (vPick v56x51 (.bool true) v60x59) fun v61x61 =>
  cnd v61x61
    (K (.bool false) H60)
    (ob (vLoadN 3 v12x29 H60) fun v62x62 =>
  ob (vLoadN 3 v4x1 H60) fun v63x63 =>
  HT prg I.laws_toField [v63x63].toArray H60 fun v64x64 H65 =>
  Le H60 H65 ∧ (HT prg I.laws_eqField [v62x62, v64x64].toArray H65 fun v65x66 H67 =>
  Le H65 H67 ∧ (ob (vUn .not v65x66) fun v66x68 =>
  cnd v66x68
    (K (.bool false) H67)
    (ob (vLoadN 3 v13x35 H67) fun v67x69 =>
  ob (vLoadN 3 v5x3 H67) fun v68x70 =>
  HT prg I.laws_toField [v68x70].toArray H67 fun v69x71 H72 =>
  Le H67 H72 ∧ (HT prg I.laws_eqField [v67x69, v69x71].toArray H72 fun v70x73 H74 =>
  Le H72 H74 ∧ (ob (vUn .not v70x73) fun v71x75 =>
  cnd v71x75
    (K (.bool false) H74)
    (ob (vLoadN 3 v12x29 H74) fun v72x76 =>
  HT prg I.laws_markField [v72x76, (.int .i64 1)].toArray H74 fun v74x77 H78 =>
  ob (vLoadN 3 v13x35 H78) fun v75x79 =>
  HT prg I.laws_markField [v75x79, v74x77].toArray H78 fun v77x80 H81 =>
  ob (vInt .lss v77x80 (.int .i64 0)) fun v79x82 =>
  gop v79x82 false (fun K83 => ob (vLoadN 3 v14x44 H81) fun u => K83 u H81) H81 fun v81x84 H85 =>
  gop v79x82 false (fun K86 => ob (vLoadN 3 v10x23 H85) fun u => K86 u H85) H85 fun v82x87 H88 =>
  gop v79x82 false (fun K89 => HT prg I.laws_eqField [v81x84, v82x87].toArray H88 K89) H88 fun v83x90 H91 =>
  gop v79x82 false (fun K92 => ob (vUn .not v83x90) fun u => K92 u H91) H91 fun v84x93 H94 =>
  ob (vPick v79x82 (.bool true) v84x93) fun v85x95 =>
  gop v85x95 false (fun K96 => K96 v52x43 H94) H94 fun v87x97 H98 =>
  gop v85x95 false (fun K99 => K99 v40x22 H98) H98 fun v88x100 H101 =>
  gop v85x95 false (fun K102 => ob (vBool .neq v87x97 v88x100) fun u => K102 u H101) H101 fun v89x103 H104 =>
  ob (vPick v85x95 (.bool true) v89x103) fun v90x105 =>
  cnd v90x105
    (K (.bool false) H104)
    (ob (vLoadN 3 v14x44 H104) fun v91x106 =>
  HT prg I.laws_markField [v91x106, (.int .i64 1)].toArray H104 fun v93x107 H108 =>
  ob (vLoadN 3 v14x44 H108) fun v94x109 =>
  HT prg I.laws_heldField [v94x109, (.int .i64 1)].toArray H108 fun v96x110 H111 =>
  ob (vInt .lss v96x110 (.int .i64 0)) fun v98x112 =>
  cnd v98x112
    (K (.bool false) H111)
    (ob (vInt .neq v96x110 v93x107) fun v101x113 =>
  cnd v101x113
    (K (.bool false) H111)
    (ob (vLoadN 3 v4x1 H111) fun v103x114 =>
  ob (vLoadN 3 v5x3 H111) fun v105x115 =>
  HT prg I.laws_toField [v103x114].toArray H111 fun v104x116 H117 =>
  Le H111 H117 ∧ (HT prg I.laws_toField [v105x115].toArray H117 fun v106x118 H119 =>
  Le H117 H119 ∧ (HT prg I.impl_MeetFields [v104x116, v106x118, a2, a3].toArray H119 fun v109x120 H121 =>
  Le H119 H121 ∧ (ob (vExt v109x120 0) fun v110x122 =>
  ob (vExt v109x120 1) fun v111x123 =>
  nw #[(.int .i64 0), (.int .i64 0), (.slice none 0 0)] 36 H121 fun v19x124 H125 =>
  st 3 v19x124 v110x122 H125 fun H126 =>
  ob (vLoadN 3 v19x124 H126) fun v112x127 =>
  ob (vLoadN 3 v10x23 H126) fun v113x128 =>
  HT prg I.laws_eqField [v112x127, v113x128].toArray H126 fun v114x129 H130 =>
  ob (vUn .not v114x129) fun v115x131 =>
  gop v115x131 false (fun K132 => K132 v111x123 H130) H130 fun v117x133 H134 =>
  gop v115x131 false (fun K135 => K135 v40x22 H134) H134 fun v118x136 H137 =>
  gop v115x131 false (fun K138 => ob (vBool .neq v117x133 v118x136) fun u => K138 u H137) H137 fun v119x139 H140 =>
  ob (vPick v115x131 (.bool true) v119x139) fun v120x141 =>
  cnd v120x141
    (K (.bool false) H140)
    (ob (vLoadN 3 v14x44 H140) fun v121x142 =>
  HT prg I.laws_heldField [v121x142, (.int .i64 1)].toArray H140 fun v123x143 H144 =>
  ob (vInt .lss v123x143 (.int .i64 0)) fun v125x145 =>
  cnd v125x145
    (K (.bool false) H144)
    (ob (vInt .neq v123x143 v93x107) fun v128x146 =>
  cnd v128x146
    (K (.bool false) H144)
    (K (.bool true) H144)))))))))))))))))))))
def O.laws_FnExactMeetFields : Nat → Nat × List Nat := fun i => bif Nat.beq i 8 then (0, [0, 2, 4, 5, 1, 3, 6, 7, 8, 9, 10, 11, 12]) else bif Nat.beq i 14 then (0, [0, 1, 2, 3, 4]) else bif Nat.beq i 16 then (0, [0, 1, 2, 3, 4]) else bif Nat.beq i 31 then (0, [0, 2, 4, 5, 1, 3, 6, 7, 8, 9, 10, 11, 12]) else (0, [])
theorem R.laws_FnExactMeetFields {a0 a1 a2 a3 : Value} {H : Hp} {K : Value → Hp → Prop} (h : F.laws_FnExactMeetFields a0 a1 a2 a3 H K) : HT prg I.laws_FnExactMeetFields [a0, a1, a2, a3].toArray H K :=
  HT_of_fev O.laws_FnExactMeetFields mixed Try.func8 (by kernel_rfl) (Eq.mpr (by kernel_rfl : fev prg O.laws_FnExactMeetFields Try.f8 [a0, a1, a2, a3] H K = F.laws_FnExactMeetFields a0 a1 a2 a3 H K) h)

/-! loop.example/g01381/spec.l05Turn: function 86 -/
def F.spec_l05Turn (a0 : Value) (H : Hp) (K : Value → Hp → Prop) : Prop :=
  nw #[(.int .i64 0), (.int .i64 0), (.slice none 0 0)] 36 H fun v2x1 H2 =>
  ob (vNilC a0) fun v7x3 =>
  ob (vFa 1 v7x3) fun v8x4 =>
  ob (vLoad v8x4 H2) fun v9x5 =>
  ob (vNilC a0) fun v11x6 =>
  ob (vFa 0 v11x6) fun v12x7 =>
  ob (vLoad v12x7 H2) fun v13x8 =>
  HT prg I.spec_l04New [v9x5, v13x8].toArray H2 fun v14x9 H10 =>
  Le H2 H10 ∧ (nw #[(.int .i64 0), (.int .i64 0), (.slice none 0 0)] 36 H10 fun v3x11 H12 =>
  st 3 v3x11 v14x9 H12 fun H13 =>
  jn (fun σ14 H14 =>
    ob (vLoadN 3 (σ14 3) H14) fun v56x15 =>
    st 3 (σ14 2) v56x15 H14 fun H16 =>
    ob (vLoadN 3 (σ14 2) H16) fun u17 => K u17 H16) fun J14 =>
  lpE (fun Q18 σ18 H18 =>
    ob (vFa 0 (σ18 3)) fun v16x19 =>
    ob (vLoad v16x19 H18) fun v17x20 =>
    ob (vInt .lss (σ18 4) v17x20) fun v18x21 =>
    cnd v18x21
      (jn (fun σ22 H22 =>
      ob (vInt .add (σ22 4) (.int .i64 1)) fun v20x23 =>
      Q18 .normal (up (up (up σ22 19 (σ22 4)) 20 v20x23) 4 v20x23) H22) fun J22 =>
    lpE (fun Q24 σ24 H24 =>
      ob (vFa 1 (σ24 3)) fun v22x25 =>
      ob (vLoad v22x25 H24) fun v23x26 =>
      ob (vInt .lss (σ24 5) v23x26) fun v24x27 =>
      cnd v24x27
        (ob (vFa 2 (σ24 3)) fun v27x28 =>
      ob (vLoad v27x28 H24) fun v28x29 =>
      ob (vFa 1 (σ24 3)) fun v30x30 =>
      ob (vLoad v30x30 H24) fun v31x31 =>
      ob (vInt .mul (σ24 4) v31x31) fun v32x32 =>
      ob (vInt .add v32x32 (σ24 5)) fun v34x33 =>
      ob (vNilC (σ24 0)) fun v36x34 =>
      ob (vFa 2 v36x34) fun v37x35 =>
      ob (vLoad v37x35 H24) fun v38x36 =>
      ob (vNilC (σ24 0)) fun v40x37 =>
      ob (vFa 0 v40x37) fun v41x38 =>
      ob (vLoad v41x38 H24) fun v42x39 =>
      ob (vInt .sub v42x39 (.int .i64 1)) fun v43x40 =>
      ob (vInt .sub v43x40 (σ24 5)) fun v45x41 =>
      ob (vNilC (σ24 0)) fun v47x42 =>
      ob (vFa 1 v47x42) fun v48x43 =>
      ob (vLoad v48x43 H24) fun v49x44 =>
      ob (vInt .mul v45x41 v49x44) fun v50x45 =>
      ob (vInt .add v50x45 (σ24 4)) fun v52x46 =>
      ob (vIx 1 v38x36 v52x46) fun v53x47 =>
      ob (vLoad v53x47 H24) fun v54x48 =>
      ob (vIx 1 v28x29 v34x33) fun v55x49 =>
      st 1 v55x49 v54x48 H24 fun H50 =>
      ob (vInt .add (σ24 5) (.int .i64 1)) fun v26x51 =>
      Q24 .normal (up (up (up (up (up (up (up (up (up (up (up (up (up (up (up (up (up (up (up (up (up (up (up (up (up (up (up (up (up (up (up (up (up (up (up (up σ24 21 (σ24 5)) 22 v22x25) 23 v23x26) 24 v24x27) 27 v27x28) 28 v28x29) 29 (σ24 4)) 30 v30x30) 31 v31x31) 32 v32x32) 33 (σ24 5)) 34 v34x33) 35 (σ24 0)) 36 v36x34) 37 v37x35) 38 v38x36) 39 (σ24 0)) 40 v40x37) 41 v41x38) 42 v42x39) 43 v43x40) 44 (σ24 5)) 45 v45x41) 46 (σ24 0)) 47 v47x42) 48 v48x43) 49 v49x44) 50 v50x45) 51 (σ24 4)) 52 v52x46) 53 v53x47) 54 v54x48) 55 v55x49) 25 (σ24 5)) 26 v26x51) 5 v26x51) H50)
        (Q24 (.exit 2) (up (up (up (up σ24 21 (σ24 5)) 22 v22x25) 23 v23x26) 24 v24x27) H24)) (blkQ 2 (blkQ 1 (thenQ J22 Q18))) (up (up (up (up (up σ18 15 (σ18 4)) 16 v16x19) 17 v17x20) 18 v18x21) 5 (.int .i64 0)) H18)
      (Q18 (.exit 0) (up (up (up (up σ18 15 (σ18 4)) 16 v16x19) 17 v17x20) 18 v18x21) H18)) (blkQ 0 (thenQ J14 (retQ prg [(.cell 2 36)] K))) (up (up (up (up (up (up (up (up (up (up (up (up (S0 [a0]) 2 v2x1) 6 a0) 7 v7x3) 8 v8x4) 9 v9x5) 10 a0) 11 v11x6) 12 v12x7) 13 v13x8) 14 v14x9) 3 v3x11) 4 (.int .i64 0)) H13)
def O.spec_l05Turn : Nat → Nat × List Nat := fun i => bif Nat.beq i 1 then (0, [0, 1, 2, 3, 4, 5, 6, 7, 8, 9, 10]) else bif Nat.beq i 8 then (0, [0, 1, 2, 3, 4, 5, 6, 7, 8, 9, 10, 11, 12, 13, 14, 15, 16, 17, 18, 19, 20, 21, 22, 23, 24, 25, 26, 27, 28, 29]) else (0, [])
theorem R.spec_l05Turn {a0 : Value} {H : Hp} {K : Value → Hp → Prop} (h : F.spec_l05Turn a0 H K) : HT prg I.spec_l05Turn [a0].toArray H K :=
  HT_of_fev O.spec_l05Turn mixed Try.func86 (by kernel_rfl) (Eq.mpr (by kernel_rfl : fev prg O.spec_l05Turn Try.f86 [a0] H K = F.spec_l05Turn a0 H K) h)

/-! loop.example/g01381/spec.l05Mirror: function 87 -/
def F.spec_l05Mirror (a0 : Value) (H : Hp) (K : Value → Hp → Prop) : Prop :=
  nw #[(.int .i64 0), (.int .i64 0), (.slice none 0 0)] 36 H fun v2x1 H2 =>
  ob (vNilC a0) fun v7x3 =>
  ob (vFa 0 v7x3) fun v8x4 =>
  ob (vLoad v8x4 H2) fun v9x5 =>
  ob (vNilC a0) fun v11x6 =>
  ob (vFa 1 v11x6) fun v12x7 =>
  ob (vLoad v12x7 H2) fun v13x8 =>
  HT prg I.spec_l04New [v9x5, v13x8].toArray H2 fun v14x9 H10 =>
  Le H2 H10 ∧ (nw #[(.int .i64 0), (.int .i64 0), (.slice none 0 0)] 36 H10 fun v3x11 H12 =>
  st 3 v3x11 v14x9 H12 fun H13 =>
  jn (fun σ14 H14 =>
    ob (vLoadN 3 (σ14 3) H14) fun v58x15 =>
    st 3 (σ14 2) v58x15 H14 fun H16 =>
    ob (vLoadN 3 (σ14 2) H16) fun u17 => K u17 H16) fun J14 =>
  lpE (fun Q18 σ18 H18 =>
    ob (vNilC (σ18 0)) fun v17x19 =>
    ob (vFa 0 v17x19) fun v18x20 =>
    ob (vLoad v18x20 H18) fun v19x21 =>
    ob (vInt .lss (σ18 4) v19x21) fun v20x22 =>
    cnd v20x22
      (jn (fun σ23 H23 =>
      ob (vInt .add (σ23 4) (.int .i64 1)) fun v22x24 =>
      Q18 .normal (up (up (up σ23 21 (σ23 4)) 22 v22x24) 4 v22x24) H23) fun J23 =>
    lpE (fun Q25 σ25 H25 =>
      ob (vNilC (σ25 0)) fun v25x26 =>
      ob (vFa 1 v25x26) fun v26x27 =>
      ob (vLoad v26x27 H25) fun v27x28 =>
      ob (vInt .lss (σ25 5) v27x28) fun v28x29 =>
      cnd v28x29
        (ob (vFa 2 (σ25 3)) fun v31x30 =>
      ob (vLoad v31x30 H25) fun v32x31 =>
      ob (vNilC (σ25 0)) fun v35x32 =>
      ob (vFa 1 v35x32) fun v36x33 =>
      ob (vLoad v36x33 H25) fun v37x34 =>
      ob (vInt .mul (σ25 4) v37x34) fun v38x35 =>
      ob (vInt .add v38x35 (σ25 5)) fun v40x36 =>
      ob (vNilC (σ25 0)) fun v42x37 =>
      ob (vFa 2 v42x37) fun v43x38 =>
      ob (vLoad v43x38 H25) fun v44x39 =>
      ob (vInt .add (σ25 4) (.int .i64 1)) fun v46x40 =>
      ob (vNilC (σ25 0)) fun v48x41 =>
      ob (vFa 1 v48x41) fun v49x42 =>
      ob (vLoad v49x42 H25) fun v50x43 =>
      ob (vInt .mul v46x40 v50x43) fun v51x44 =>
      ob (vInt .sub v51x44 (.int .i64 1)) fun v52x45 =>
      ob (vInt .sub v52x45 (σ25 5)) fun v54x46 =>
      ob (vIx 1 v44x39 v54x46) fun v55x47 =>
      ob (vLoad v55x47 H25) fun v56x48 =>
      ob (vIx 1 v32x31 v40x36) fun v57x49 =>
      st 1 v57x49 v56x48 H25 fun H50 =>
      ob (vInt .add (σ25 5) (.int .i64 1)) fun v30x51 =>
      Q25 .normal (up (up (up (up (up (up (up (up (up (up (up (up (up (up (up (up (up (up (up (up (up (up (up (up (up (up (up (up (up (up (up (up (up (up (up (up σ25 23 (σ25 5)) 24 (σ25 0)) 25 v25x26) 26 v26x27) 27 v27x28) 28 v28x29) 31 v31x30) 32 v32x31) 33 (σ25 4)) 34 (σ25 0)) 35 v35x32) 36 v36x33) 37 v37x34) 38 v38x35) 39 (σ25 5)) 40 v40x36) 41 (σ25 0)) 42 v42x37) 43 v43x38) 44 v44x39) 45 (σ25 4)) 46 v46x40) 47 (σ25 0)) 48 v48x41) 49 v49x42) 50 v50x43) 51 v51x44) 52 v52x45) 53 (σ25 5)) 54 v54x46) 55 v55x47) 56 v56x48) 57 v57x49) 29 (σ25 5)) 30 v30x51) 5 v30x51) H50)
        (Q25 (.exit 2) (up (up (up (up (up (up σ25 23 (σ25 5)) 24 (σ25 0)) 25 v25x26) 26 v26x27) 27 v27x28) 28 v28x29) H25)) (blkQ 2 (blkQ 1 (thenQ J23 Q18))) (up (up (up (up (up (up (up σ18 15 (σ18 4)) 16 (σ18 0)) 17 v17x19) 18 v18x20) 19 v19x21) 20 v20x22) 5 (.int .i64 0)) H18)
      (Q18 (.exit 0) (up (up (up (up (up (up σ18 15 (σ18 4)) 16 (σ18 0)) 17 v17x19) 18 v18x20) 19 v19x21) 20 v20x22) H18)) (blkQ 0 (thenQ J14 (retQ prg [(.cell 2 36)] K))) (up (up (up (up (up (up (up (up (up (up (up (up (S0 [a0]) 2 v2x1) 6 a0) 7 v7x3) 8 v8x4) 9 v9x5) 10 a0) 11 v11x6) 12 v12x7) 13 v13x8) 14 v14x9) 3 v3x11) 4 (.int .i64 0)) H13)
def O.spec_l05Mirror : Nat → Nat × List Nat := fun i => bif Nat.beq i 1 then (0, [0, 1, 2, 3, 4, 5, 6, 7, 8, 9, 10]) else bif Nat.beq i 8 then (0, [0, 1, 2, 3, 4, 5, 6, 7, 8, 9, 10, 11, 12, 13, 14, 15, 16, 17, 18, 19, 20, 21, 22, 23, 24, 25, 26, 27]) else (0, [])
theorem R.spec_l05Mirror {a0 : Value} {H : Hp} {K : Value → Hp → Prop} (h : F.spec_l05Mirror a0 H K) : HT prg I.spec_l05Mirror [a0].toArray H K :=
  HT_of_fev O.spec_l05Mirror mixed Try.func87 (by kernel_rfl) (Eq.mpr (by kernel_rfl : fev prg O.spec_l05Mirror Try.f87 [a0] H K = F.spec_l05Mirror a0 H K) h)

/-! loop.example/g01381/spec.l05Images: function 63 -/
def F.spec_l05Images (a0 : Value) (H : Hp) (K : Value → Hp → Prop) : Prop :=
  bS 3 0 #[(.int .i64 0), (.int .i64 0), (.slice none 0 0)] 36 [] H fun v7x1 H2 =>
  ob (vNilC a0) fun v10x3 =>
  ob (vFa 0 v10x3) fun v11x4 =>
  ob (vLoad v11x4 H2) fun v12x5 =>
  ob (vNilC a0) fun v14x6 =>
  ob (vFa 1 v14x6) fun v15x7 =>
  ob (vLoad v15x7 H2) fun v16x8 =>
  HT prg I.spec_l05Cut [a0, (.int .i64 0), (.int .i64 0), v12x5, v16x8].toArray H2 fun v17x9 H10 =>
  Le H2 H10 ∧ (nw #[(.int .i64 0), (.int .i64 0), (.slice none 0 0)] 36 H10 fun v4x11 H12 =>
  st 3 v4x11 v17x9 H12 fun H13 =>
  jn (fun σ14 H14 =>
    K (σ14 3) H14) fun J14 =>
  lpE (fun Q15 σ15 H15 =>
    ob (vInt .lss (σ15 5) (.int .i64 2)) fun v19x16 =>
    cnd v19x16
      (jn (fun σ17 H17 =>
      ob (vInt .add (σ17 5) (.int .i64 1)) fun v21x18 =>
      Q15 .normal (up (up (up σ17 20 (σ17 5)) 21 v21x18) 5 v21x18) H17) fun J17 =>
    jn (fun σ19 H19 =>
      HT prg I.spec_l05Mirror [(σ19 0)].toArray H19 fun v32x20 H21 =>
      st 3 (σ19 4) v32x20 H21 fun H22 =>
      J17 (up (up σ19 31 (σ19 0)) 32 v32x20) H22) fun J19 =>
    lpE (fun Q23 σ23 H23 =>
      ob (vInt .lss (σ23 6) (.int .i64 4)) fun v23x24 =>
      cnd v23x24
        (ob (vLoadN 3 (σ23 4) H23) fun v27x25 =>
      bS 3 1 #[(.int .i64 0), (.int .i64 0), (.slice none 0 0)] 36 [(0, v27x25)] H23 fun v28x26 H27 =>
      apd 3 40 #[(.int .i64 0), (.int .i64 0), (.slice none 0 0)] 36 (σ23 3) v28x26 H27 fun v29x28 H29 =>
      HT prg I.spec_l05Turn [(σ23 4)].toArray H29 fun v30x30 H31 =>
      st 3 (σ23 4) v30x30 H31 fun H32 =>
      ob (vInt .add (σ23 6) (.int .i64 1)) fun v25x33 =>
      Q23 .normal (up (up (up (up (up (up (up (up (up (up (up σ23 22 (σ23 6)) 23 v23x24) 26 (σ23 3)) 27 v27x25) 28 v28x26) 29 v29x28) 3 v29x28) 30 v30x30) 24 (σ23 6)) 25 v25x33) 6 v25x33) H32)
        (Q23 (.exit 2) (up (up σ23 22 (σ23 6)) 23 v23x24) H23)) (blkQ 2 (thenQ J19 (blkQ 1 (thenQ J17 Q15)))) (up (up (up σ15 18 (σ15 5)) 19 v19x16) 6 (.int .i64 0)) H15)
      (Q15 (.exit 0) (up (up σ15 18 (σ15 5)) 19 v19x16) H15)) (blkQ 0 (thenQ J14 (retQ prg [(.tmp 2)] K))) (up (up (up (up (up (up (up (up (up (up (up (up (up (up (up (S0 [a0]) 2 (.slice none 0 0)) 7 v7x1) 3 v7x1) 8 a0) 9 a0) 10 v10x3) 11 v11x4) 12 v12x5) 13 a0) 14 v14x6) 15 v15x7) 16 v16x8) 17 v17x9) 4 v4x11) 5 (.int .i64 0)) H13)
def O.spec_l05Images : Nat → Nat × List Nat := fun i => bif Nat.beq i 2 then (0, [0, 1, 2, 3, 4, 5, 6, 7, 8, 9, 10, 11]) else (0, [])
theorem R.spec_l05Images {a0 : Value} {H : Hp} {K : Value → Hp → Prop} (h : F.spec_l05Images a0 H K) : HT prg I.spec_l05Images [a0].toArray H K :=
  HT_of_fev O.spec_l05Images mixed Try.func63 (by kernel_rfl) (Eq.mpr (by kernel_rfl : fev prg O.spec_l05Images Try.f63 [a0] H K = F.spec_l05Images a0 H K) h)

/-! loop.example/g01381/spec.ImagesOfField: function 32 -/
def F.spec_ImagesOfField (a0 : Value) (H : Hp) (K : Value → Hp → Prop) : Prop :=
  nw (a0 : Value).cells 36 H fun v1x1 H2 =>
  HT prg I.spec_l04Plain [v1x1].toArray H2 fun v4x3 H4 =>
  ob (vUn .not v4x3) fun v5x5 =>
  cnd v5x5
    (K (.tuple #[(.slice none 0 0), (.bool false)]) H4)
    (HT prg I.spec_l05Images [v1x1].toArray H4 fun v6x6 H7 =>
  K (.tuple #[v6x6, (.bool true)]) H7)
def O.spec_ImagesOfField : Nat → Nat × List Nat := fun i => (0, [])
theorem R.spec_ImagesOfField {a0 : Value} {H : Hp} {K : Value → Hp → Prop} (h : F.spec_ImagesOfField a0 H K) : HT prg I.spec_ImagesOfField [a0].toArray H K :=
  HT_of_fev O.spec_ImagesOfField mixed Try.func32 (by kernel_rfl) (Eq.mpr (by kernel_rfl : fev prg O.spec_ImagesOfField Try.f32 [a0] H K = F.spec_ImagesOfField a0 H K) h)

/-! loop.example/g01381/impl.copyField: function 88 -/
def F.impl_copyField (a0 : Value) (H : Hp) (K : Value → Hp → Prop) : Prop :=
  nw (a0 : Value).cells 36 H fun v1x1 H2 =>
  nw #[(.int .i64 0), (.int .i64 0), (.slice none 0 0)] 36 H2 fun v2x3 H4 =>
  ob (vFa 2 v1x1) fun v3x5 =>
  ob (vLoad v3x5 H4) fun v4x6 =>
  HT prg I.slices_Clone_int64Zint64 [v4x6].toArray H4 fun v5x7 H8 =>
  ob (vFa 2 v1x1) fun v6x9 =>
  st 1 v6x9 v5x7 H8 fun H10 =>
  ob (vLoadN 3 v1x1 H10) fun v7x11 =>
  st 3 v2x3 v7x11 H10 fun H12 =>
  ob (vLoadN 3 v2x3 H12) fun u13 => K u13 H12
def O.impl_copyField : Nat → Nat × List Nat := fun i => (0, [])
theorem R.impl_copyField {a0 : Value} {H : Hp} {K : Value → Hp → Prop} (h : F.impl_copyField a0 H K) : HT prg I.impl_copyField [a0].toArray H K :=
  HT_of_fev O.impl_copyField mixed Try.func88 (by kernel_rfl) (Eq.mpr (by kernel_rfl : fev prg O.impl_copyField Try.f88 [a0] H K = F.impl_copyField a0 H K) h)

/-! (loop.example/g01381/impl.Field).mirrored$1: function 96 -/
def F.impl_Field_mirrored_1 (a0 a1 a2 : Value) (H : Hp) (K : Value → Hp → Prop) : Prop :=
  ob (vLoadN 3 a2 H) fun v6x1 =>
  ob (vFa 1 a2) fun v8x2 =>
  ob (vLoad v8x2 H) fun v9x3 =>
  ob (vInt .sub v9x3 (.int .i64 1)) fun v10x4 =>
  ob (vInt .sub v10x4 a1) fun v12x5 =>
  HT prg I.impl_Field_at [v6x1, a0, v12x5].toArray H fun v13x6 H7 =>
  K v13x6 H7
def O.impl_Field_mirrored_1 : Nat → Nat × List Nat := fun i => (0, [])
theorem R.impl_Field_mirrored_1 {a0 a1 a2 : Value} {H : Hp} {K : Value → Hp → Prop} (h : F.impl_Field_mirrored_1 a0 a1 a2 H K) : HT prg I.impl_Field_mirrored_1 [a0, a1, a2].toArray H K :=
  HT_of_fev O.impl_Field_mirrored_1 mixed Try.func96 (by kernel_rfl) (Eq.mpr (by kernel_rfl : fev prg O.impl_Field_mirrored_1 Try.f96 [a0, a1, a2] H K = F.impl_Field_mirrored_1 a0 a1 a2 H K) h)

/-! (loop.example/g01381/impl.Field).mirrored: function 89 -/
def F.impl_Field_mirrored (a0 : Value) (H : Hp) (K : Value → Hp → Prop) : Prop :=
  nw (a0 : Value).cells 36 H fun v1x1 H2 =>
  nw #[(.int .i64 0), (.int .i64 0), (.slice none 0 0)] 36 H2 fun v2x3 H4 =>
  ob (vFa 0 v1x1) fun v3x5 =>
  ob (vLoad v3x5 H4) fun v4x6 =>
  ob (vFa 1 v1x1) fun v5x7 =>
  ob (vLoad v5x7 H4) fun v6x8 =>
  HT prg I.impl_madeField [v4x6, v6x8, (.func (.func I.impl_Field_mirrored_1) #[] #[v1x1])].toArray H4 fun v8x9 H10 =>
  st 3 v2x3 v8x9 H10 fun H11 =>
  ob (vLoadN 3 v2x3 H11) fun u12 => K u12 H11
def O.impl_Field_mirrored : Nat → Nat × List Nat := fun i => (0, [])
theorem R.impl_Field_mirrored {a0 : Value} {H : Hp} {K : Value → Hp → Prop} (h : F.impl_Field_mirrored a0 H K) : HT prg I.impl_Field_mirrored [a0].toArray H K :=
  HT_of_fev O.impl_Field_mirrored mixed Try.func89 (by kernel_rfl) (Eq.mpr (by kernel_rfl : fev prg O.impl_Field_mirrored Try.f89 [a0] H K = F.impl_Field_mirrored a0 H K) h)

/-! (loop.example/g01381/impl.Field).right$1: function 97 -/
def F.impl_Field_right_1 (a0 a1 a2 : Value) (H : Hp) (K : Value → Hp → Prop) : Prop :=
  ob (vLoadN 3 a2 H) fun v6x1 =>
  ob (vFa 0 a2) fun v7x2 =>
  ob (vLoad v7x2 H) fun v8x3 =>
  ob (vInt .sub v8x3 (.int .i64 1)) fun v9x4 =>
  ob (vInt .sub v9x4 a1) fun v11x5 =>
  HT prg I.impl_Field_at [v6x1, v11x5, a0].toArray H fun v13x6 H7 =>
  K v13x6 H7
def O.impl_Field_right_1 : Nat → Nat × List Nat := fun i => (0, [])
theorem R.impl_Field_right_1 {a0 a1 a2 : Value} {H : Hp} {K : Value → Hp → Prop} (h : F.impl_Field_right_1 a0 a1 a2 H K) : HT prg I.impl_Field_right_1 [a0, a1, a2].toArray H K :=
  HT_of_fev O.impl_Field_right_1 mixed Try.func97 (by kernel_rfl) (Eq.mpr (by kernel_rfl : fev prg O.impl_Field_right_1 Try.f97 [a0, a1, a2] H K = F.impl_Field_right_1 a0 a1 a2 H K) h)

/-! (loop.example/g01381/impl.Field).right: function 90 -/
def F.impl_Field_right (a0 : Value) (H : Hp) (K : Value → Hp → Prop) : Prop :=
  nw (a0 : Value).cells 36 H fun v1x1 H2 =>
  nw #[(.int .i64 0), (.int .i64 0), (.slice none 0 0)] 36 H2 fun v2x3 H4 =>
  ob (vFa 1 v1x1) fun v3x5 =>
  ob (vLoad v3x5 H4) fun v4x6 =>
  ob (vFa 0 v1x1) fun v5x7 =>
  ob (vLoad v5x7 H4) fun v6x8 =>
  HT prg I.impl_madeField [v4x6, v6x8, (.func (.func I.impl_Field_right_1) #[] #[v1x1])].toArray H4 fun v8x9 H10 =>
  st 3 v2x3 v8x9 H10 fun H11 =>
  ob (vLoadN 3 v2x3 H11) fun u12 => K u12 H11
def O.impl_Field_right : Nat → Nat × List Nat := fun i => (0, [])
theorem R.impl_Field_right {a0 : Value} {H : Hp} {K : Value → Hp → Prop} (h : F.impl_Field_right a0 H K) : HT prg I.impl_Field_right [a0].toArray H K :=
  HT_of_fev O.impl_Field_right mixed Try.func90 (by kernel_rfl) (Eq.mpr (by kernel_rfl : fev prg O.impl_Field_right Try.f90 [a0] H K = F.impl_Field_right a0 H K) h)

/-! (loop.example/g01381/impl.Field).images: function 64 -/
def F.impl_Field_images (a0 : Value) (H : Hp) (K : Value → Hp → Prop) : Prop :=
  nw (a0 : Value).cells 36 H fun v1x1 H2 =>
  bS 3 0 #[(.int .i64 0), (.int .i64 0), (.slice none 0 0)] 36 [] H2 fun v6x3 H4 =>
  jn (fun σ5 H5 =>
    K (σ5 3) H5) fun J5 =>
  ob (vLoadN 3 v1x1 H4) fun v7x6 =>
  ob (vLoadN 3 v1x1 H4) fun v9x7 =>
  HT prg I.impl_copyField [v7x6].toArray H4 fun v8x8 H9 =>
  Le H4 H9 ∧ (HT prg I.impl_Field_mirrored [v9x7].toArray H9 fun v10x10 H11 =>
  Le H9 H11 ∧ (bS 3 2 #[(.int .i64 0), (.int .i64 0), (.slice none 0 0)] 36 [(0, v8x8), (1, v10x10)] H11 fun v11x12 H13 =>
  ob (vLenSl v11x12) fun v12x14 =>
  lpE (fun Q15 σ15 H15 =>
    ob (vInt .lss (σ15 13) (σ15 12)) fun v14x16 =>
    cnd v14x16
      (jn (fun σ17 H17 =>
      ob (vInt .add (σ17 13) (.int .i64 1)) fun v26x18 =>
      Q15 .normal (up (up σ17 26 v26x18) 13 v26x18) H17) fun J17 =>
    ob (vIx 3 (σ15 11) (σ15 13)) fun v15x19 =>
    ob (vLoadN 3 v15x19 H15) fun v16x20 =>
    nw #[(.int .i64 0), (.int .i64 0), (.slice none 0 0)] 36 H15 fun v5x21 H22 =>
    st 3 v5x21 v16x20 H22 fun H23 =>
    lpE (fun Q24 σ24 H24 =>
      ob (vInt .lss (σ24 17) (.int .i64 4)) fun v18x25 =>
      cnd v18x25
        (ob (vLoadN 3 (σ24 5) H24) fun v20x26 =>
      bS 3 1 #[(.int .i64 0), (.int .i64 0), (.slice none 0 0)] 36 [(0, v20x26)] H24 fun v21x27 H28 =>
      apd 3 40 #[(.int .i64 0), (.int .i64 0), (.slice none 0 0)] 36 (σ24 3) v21x27 H28 fun v22x29 H30 =>
      ob (vLoadN 3 (σ24 5) H30) fun v23x31 =>
      HT prg I.impl_Field_right [v23x31].toArray H30 fun v24x32 H33 =>
      st 3 (σ24 5) v24x32 H33 fun H34 =>
      ob (vInt .add (σ24 17) (.int .i64 1)) fun v25x35 =>
      Q24 .normal (up (up (up (up (up (up (up (up (up (up σ24 18 v18x25) 19 (σ24 3)) 20 v20x26) 21 v21x27) 22 v22x29) 3 v22x29) 23 v23x31) 24 v24x32) 25 v25x35) 17 v25x35) H34)
        (Q24 (.exit 2) (up σ24 18 v18x25) H24)) (blkQ 2 (blkQ 1 (thenQ J17 Q15))) (up (up (up (up (up σ15 14 v14x16) 15 v15x19) 16 v16x20) 5 v5x21) 17 (.int .i64 0)) H23)
      (Q15 (.exit 0) (up σ15 14 v14x16) H15)) (blkQ 0 (thenQ J5 (retQ prg [(.tmp 2)] K))) (up (up (up (up (up (up (up (up (up (up (up (S0 [a0]) 1 v1x1) 2 (.slice none 0 0)) 6 v6x3) 3 v6x3) 7 v7x6) 9 v9x7) 13 (.int .i64 0)) 8 v8x8) 10 v10x10) 11 v11x12) 12 v12x14) H13))
def O.impl_Field_images : Nat → Nat × List Nat := fun i => bif Nat.beq i 2 then (0, [0, 2, 6, 1, 3, 4, 5]) else (0, [])
theorem R.impl_Field_images {a0 : Value} {H : Hp} {K : Value → Hp → Prop} (h : F.impl_Field_images a0 H K) : HT prg I.impl_Field_images [a0].toArray H K :=
  HT_of_fev O.impl_Field_images mixed Try.func64 (by kernel_rfl) (Eq.mpr (by kernel_rfl : fev prg O.impl_Field_images Try.f64 [a0] H K = F.impl_Field_images a0 H K) h)

/-! loop.example/g01381/impl.ImagesOfField: function 33 -/
def F.impl_ImagesOfField (a0 : Value) (H : Hp) (K : Value → Hp → Prop) : Prop :=
  nw (a0 : Value).cells 36 H fun v1x1 H2 =>
  ob (vLoadN 3 v1x1 H2) fun v4x3 =>
  HT prg I.impl_isPlain [v4x3].toArray H2 fun v5x4 H5 =>
  ob (vUn .not v5x4) fun v6x6 =>
  cnd v6x6
    (K (.tuple #[(.slice none 0 0), (.bool false)]) H5)
    (ob (vLoadN 3 v1x1 H5) fun v7x7 =>
  HT prg I.impl_Field_images [v7x7].toArray H5 fun v8x8 H9 =>
  K (.tuple #[v8x8, (.bool true)]) H9)
def O.impl_ImagesOfField : Nat → Nat × List Nat := fun i => (0, [])
theorem R.impl_ImagesOfField {a0 : Value} {H : Hp} {K : Value → Hp → Prop} (h : F.impl_ImagesOfField a0 H K) : HT prg I.impl_ImagesOfField [a0].toArray H K :=
  HT_of_fev O.impl_ImagesOfField mixed Try.func33 (by kernel_rfl) (Eq.mpr (by kernel_rfl : fev prg O.impl_ImagesOfField Try.f33 [a0] H K = F.impl_ImagesOfField a0 H K) h)

/-! loop.example/g01381/laws.eqFieldS: function 34 -/
def F.laws_eqFieldS (a0 a1 : Value) (H : Hp) (K : Value → Hp → Prop) : Prop :=
  ob (vLenSl a0) fun v7x1 =>
  ob (vLenSl a1) fun v9x2 =>
  ob (vInt .neq v7x1 v9x2) fun v10x3 =>
  cnd v10x3
    (K (.bool false) H)
    (jn (fun σ4 H4 =>
    K (.bool true) H4) fun J4 =>
  lpE (fun Q5 σ5 H5 =>
    ob (vLenSl (σ5 0)) fun v13x6 =>
    ob (vInt .lss (σ5 5) v13x6) fun v14x7 =>
    cnd v14x7
      (ob (vIx 3 (σ5 0) (σ5 5)) fun v19x8 =>
    ob (vLoadN 3 v19x8 H5) fun v20x9 =>
    ob (vIx 3 (σ5 1) (σ5 5)) fun v23x10 =>
    ob (vLoadN 3 v23x10 H5) fun v24x11 =>
    HT prg I.laws_eqField [v20x9, v24x11].toArray H5 fun v25x12 H13 =>
    Le H5 H13 ∧ (ob (vUn .not v25x12) fun v26x14 =>
    cnd v26x14
      (Q5 .ret (up (up (up (up (up (up (up (up (up (up (up (up (up (up (up σ5 11 (σ5 5)) 12 (σ5 0)) 13 v13x6) 14 v14x7) 17 (σ5 0)) 18 (σ5 5)) 19 v19x8) 20 v20x9) 21 (σ5 1)) 22 (σ5 5)) 23 v23x10) 24 v24x11) 25 v25x12) 26 v26x14) 4 (.bool false)) H13)
      (ob (vInt .add (σ5 5) (.int .i64 1)) fun v16x15 =>
    Q5 .normal (up (up (up (up (up (up (up (up (up (up (up (up (up (up (up (up (up σ5 11 (σ5 5)) 12 (σ5 0)) 13 v13x6) 14 v14x7) 17 (σ5 0)) 18 (σ5 5)) 19 v19x8) 20 v20x9) 21 (σ5 1)) 22 (σ5 5)) 23 v23x10) 24 v24x11) 25 v25x12) 26 v26x14) 15 (σ5 5)) 16 v16x15) 5 v16x15) H13)))
      (Q5 (.exit 0) (up (up (up (up σ5 11 (σ5 5)) 12 (σ5 0)) 13 v13x6) 14 v14x7) H5)) (blkQ 0 (thenQ J4 (retQ prg [(.tmp 4)] K))) (up (up (up (up (up (up (up (S0 [a0, a1]) 4 (.bool false)) 6 a0) 7 v7x1) 8 a1) 9 v9x2) 10 v10x3) 5 (.int .i64 0)) H)
def O.laws_eqFieldS : Nat → Nat × List Nat := fun i => bif Nat.beq i 6 then (0, [0, 1, 2, 3, 4, 5, 6, 7, 8, 9]) else (0, [])
theorem R.laws_eqFieldS {a0 a1 : Value} {H : Hp} {K : Value → Hp → Prop} (h : F.laws_eqFieldS a0 a1 H K) : HT prg I.laws_eqFieldS [a0, a1].toArray H K :=
  HT_of_fev O.laws_eqFieldS mixed Try.func34 (by kernel_rfl) (Eq.mpr (by kernel_rfl : fev prg O.laws_eqFieldS Try.f34 [a0, a1] H K = F.laws_eqFieldS a0 a1 H K) h)

/-! loop.example/g01381/laws.markFieldS: function 35 -/
def F.laws_markFieldS (a0 a1 : Value) (H : Hp) (K : Value → Hp → Prop) : Prop :=
  jn (fun σ1 H1 =>
    K (σ1 1) H1) fun J1 =>
  lpE (fun Q2 σ2 H2 =>
    ob (vLenSl (σ2 0)) fun v8x3 =>
    ob (vInt .lss (σ2 5) v8x3) fun v9x4 =>
    cnd v9x4
      (ob (vIx 3 (σ2 0) (σ2 5)) fun v15x5 =>
    ob (vFa 0 v15x5) fun v16x6 =>
    st 1 v16x6 (σ2 1) H2 fun H7 =>
    ob (vInt .add (σ2 1) (.int .i64 1)) fun v18x8 =>
    ob (vIx 3 (σ2 0) (σ2 5)) fun v22x9 =>
    ob (vFa 1 v22x9) fun v23x10 =>
    st 1 v23x10 v18x8 H7 fun H11 =>
    ob (vInt .add v18x8 (.int .i64 1)) fun v25x12 =>
    ob (vIx 3 (σ2 0) (σ2 5)) fun v28x13 =>
    ob (vFa 2 v28x13) fun v29x14 =>
    ob (vLoad v29x14 H11) fun v30x15 =>
    HT prg I.laws_markInt64S [v30x15, v25x12].toArray H11 fun v32x16 H17 =>
    ob (vInt .add (σ2 5) (.int .i64 1)) fun v11x18 =>
    Q2 .normal (up (up (up (up (up (up (up (up (up (up (up (up (up (up (up (up (up (up (up (up (up (up (up (up (up (up (up (up (up (up (up σ2 6 (σ2 5)) 7 (σ2 0)) 8 v8x3) 9 v9x4) 12 (σ2 0)) 13 (σ2 5)) 14 (σ2 1)) 15 v15x5) 16 v16x6) 17 (σ2 1)) 18 v18x8) 1 v18x8) 19 (σ2 0)) 20 (σ2 5)) 21 v18x8) 22 v22x9) 23 v23x10) 24 v18x8) 25 v25x12) 1 v25x12) 26 (σ2 0)) 27 (σ2 5)) 28 v28x13) 29 v29x14) 30 v30x15) 31 v25x12) 32 v32x16) 1 v32x16) 10 (σ2 5)) 11 v11x18) 5 v11x18) H17)
      (Q2 (.exit 0) (up (up (up (up σ2 6 (σ2 5)) 7 (σ2 0)) 8 v8x3) 9 v9x4) H2)) (blkQ 0 (thenQ J1 (retQ prg [(.tmp 4)] K))) (up (up (S0 [a0, a1]) 4 (.int .i64 0)) 5 (.int .i64 0)) H
def O.laws_markFieldS : Nat → Nat × List Nat := fun i => (0, [])
theorem R.laws_markFieldS {a0 a1 : Value} {H : Hp} {K : Value → Hp → Prop} (h : F.laws_markFieldS a0 a1 H K) : HT prg I.laws_markFieldS [a0, a1].toArray H K :=
  HT_of_fev O.laws_markFieldS mixed Try.func35 (by kernel_rfl) (Eq.mpr (by kernel_rfl : fev prg O.laws_markFieldS Try.f35 [a0, a1] H K = F.laws_markFieldS a0 a1 H K) h)

/-! loop.example/g01381/laws.heldFieldS: function 36 -/
def F.laws_heldFieldS (a0 a1 : Value) (H : Hp) (K : Value → Hp → Prop) : Prop :=
  jn (fun σ1 H1 =>
    K (σ1 1) H1) fun J1 =>
  lpE (fun Q2 σ2 H2 =>
    ob (vLenSl (σ2 0)) fun v8x3 =>
    ob (vInt .lss (σ2 5) v8x3) fun v9x4 =>
    cnd v9x4
      (ob (vIx 3 (σ2 0) (σ2 5)) fun v14x5 =>
    ob (vFa 0 v14x5) fun v15x6 =>
    ob (vLoad v15x6 H2) fun v16x7 =>
    ob (vInt .neq v16x7 (σ2 1)) fun v18x8 =>
    cnd v18x8
      (Q2 .ret (up (up (up (up (up (up (up (up (up (up (up (up σ2 6 (σ2 5)) 7 (σ2 0)) 8 v8x3) 9 v9x4) 12 (σ2 0)) 13 (σ2 5)) 14 v14x5) 15 v15x6) 16 v16x7) 17 (σ2 1)) 18 v18x8) 4 (.int .i64 (-1))) H2)
      (ob (vInt .add (σ2 1) (.int .i64 1)) fun v20x9 =>
    ob (vIx 3 (σ2 0) (σ2 5)) fun v23x10 =>
    ob (vFa 1 v23x10) fun v24x11 =>
    ob (vLoad v24x11 H2) fun v25x12 =>
    ob (vInt .neq v25x12 v20x9) fun v27x13 =>
    cnd v27x13
      (Q2 .ret (up (up (up (up (up (up (up (up (up (up (up (up (up (up (up (up (up (up (up (up (up (up σ2 6 (σ2 5)) 7 (σ2 0)) 8 v8x3) 9 v9x4) 12 (σ2 0)) 13 (σ2 5)) 14 v14x5) 15 v15x6) 16 v16x7) 17 (σ2 1)) 18 v18x8) 19 (σ2 1)) 20 v20x9) 1 v20x9) 21 (σ2 0)) 22 (σ2 5)) 23 v23x10) 24 v24x11) 25 v25x12) 26 v20x9) 27 v27x13) 4 (.int .i64 (-1))) H2)
      (ob (vInt .add v20x9 (.int .i64 1)) fun v29x14 =>
    ob (vIx 3 (σ2 0) (σ2 5)) fun v32x15 =>
    ob (vFa 2 v32x15) fun v33x16 =>
    ob (vLoad v33x16 H2) fun v34x17 =>
    HT prg I.laws_heldInt64S [v34x17, v29x14].toArray H2 fun v36x18 H19 =>
    ob (vInt .lss v36x18 (.int .i64 0)) fun v38x20 =>
    cnd v38x20
      (Q2 .ret (up (up (up (up (up (up (up (up (up (up (up (up (up (up (up (up (up (up (up (up (up (up (up (up (up (up (up (up (up (up (up (up (up (up (up σ2 6 (σ2 5)) 7 (σ2 0)) 8 v8x3) 9 v9x4) 12 (σ2 0)) 13 (σ2 5)) 14 v14x5) 15 v15x6) 16 v16x7) 17 (σ2 1)) 18 v18x8) 19 (σ2 1)) 20 v20x9) 1 v20x9) 21 (σ2 0)) 22 (σ2 5)) 23 v23x10) 24 v24x11) 25 v25x12) 26 v20x9) 27 v27x13) 28 v20x9) 29 v29x14) 1 v29x14) 30 (σ2 0)) 31 (σ2 5)) 32 v32x15) 33 v33x16) 34 v34x17) 35 v29x14) 36 v36x18) 1 v36x18) 37 v36x18) 38 v38x20) 4 (.int .i64 (-1))) H19)
      (ob (vInt .add (σ2 5) (.int .i64 1)) fun v11x21 =>
    Q2 .normal (up (up (up (up (up (up (up (up (up (up (up (up (up (up (up (up (up (up (up (up (up (up (up (up (up (up (up (up (up (up (up (up (up (up (up (up (up σ2 6 (σ2 5)) 7 (σ2 0)) 8 v8x3) 9 v9x4) 12 (σ2 0)) 13 (σ2 5)) 14 v14x5) 15 v15x6) 16 v16x7) 17 (σ2 1)) 18 v18x8) 19 (σ2 1)) 20 v20x9) 1 v20x9) 21 (σ2 0)) 22 (σ2 5)) 23 v23x10) 24 v24x11) 25 v25x12) 26 v20x9) 27 v27x13) 28 v20x9) 29 v29x14) 1 v29x14) 30 (σ2 0)) 31 (σ2 5)) 32 v32x15) 33 v33x16) 34 v34x17) 35 v29x14) 36 v36x18) 1 v36x18) 37 v36x18) 38 v38x20) 10 (σ2 5)) 11 v11x21) 5 v11x21) H19))))
      (Q2 (.exit 0) (up (up (up (up σ2 6 (σ2 5)) 7 (σ2 0)) 8 v8x3) 9 v9x4) H2)) (blkQ 0 (thenQ J1 (retQ prg [(.tmp 4)] K))) (up (up (S0 [a0, a1]) 4 (.int .i64 0)) 5 (.int .i64 0)) H
def O.laws_heldFieldS : Nat → Nat × List Nat := fun i => (0, [])
theorem R.laws_heldFieldS {a0 a1 : Value} {H : Hp} {K : Value → Hp → Prop} (h : F.laws_heldFieldS a0 a1 H K) : HT prg I.laws_heldFieldS [a0, a1].toArray H K :=
  HT_of_fev O.laws_heldFieldS mixed Try.func36 (by kernel_rfl) (Eq.mpr (by kernel_rfl : fev prg O.laws_heldFieldS Try.f36 [a0, a1] H K = F.laws_heldFieldS a0 a1 H K) h)

/-! loop.example/g01381/laws.FnExactImagesOfField: function 9 -/
def F.laws_FnExactImagesOfField (a0 : Value) (H : Hp) (K : Value → Hp → Prop) : Prop :=
  nw (a0 : Value).cells 32 H fun v1x1 H2 =>
  ob (vLoadN 3 v1x1 H2) fun v14x3 =>
  HT prg I.laws_szField [v14x3, (.int .i64 1048576)].toArray H2 fun v16x4 H5 =>
  ob (vInt .lss v16x4 (.int .i64 0)) fun v18x6 =>
  cnd v18x6
    (K (.bool true) H5)
    (ob (vLoadN 3 v1x1 H5) fun v20x7 =>
  HT prg I.laws_toField [v20x7].toArray H5 fun v21x8 H9 =>
  HT prg I.spec_ImagesOfField [v21x8].toArray H9 fun v22x10 H11 =>
  ob (vExt v22x10 0) fun v23x12 =>
  ob (vExt v22x10 1) fun v24x13 =>
  ob (vLoadN 3 v1x1 H11) fun v25x14 =>
  HT prg I.laws_toField [v25x14].toArray H11 fun v26x15 H16 =>
  nw #[(.int .i64 0), (.int .i64 0), (.slice none 0 0)] 36 H16 fun v6x17 H18 =>
  st 3 v6x17 v26x15 H18 fun H19 =>
  ob (vLoadN 3 v6x17 H19) fun v28x20 =>
  HT prg I.impl_ImagesOfField [v28x20].toArray H19 fun v29x21 H22 =>
  ob (vExt v29x21 0) fun v30x23 =>
  ob (vExt v29x21 1) fun v31x24 =>
  HT prg I.laws_eqFieldS [v30x23, v23x12].toArray H22 fun v34x25 H26 =>
  ob (vUn .not v34x25) fun v35x27 =>
  gop v35x27 false (fun K28 => K28 v31x24 H26) H26 fun v37x29 H30 =>
  gop v35x27 false (fun K31 => K31 v24x13 H30) H30 fun v38x32 H33 =>
  gop v35x27 false (fun K34 => ob (vBool .neq v37x29 v38x32) fun u => K34 u H33) H33 fun v39x35 H36 =>
  ob (vPick v35x27 (.bool true) v39x35) fun v40x37 =>
  cnd v40x37
    (K (.bool false) H36)
    (ob (vLoadN 3 v6x17 H36) fun v41x38 =>
  ob (vLoadN 3 v1x1 H36) fun v42x39 =>
  HT prg I.laws_toField [v42x39].toArray H36 fun v43x40 H41 =>
  Le H36 H41 ∧ (HT prg I.laws_eqField [v41x38, v43x40].toArray H41 fun v44x42 H43 =>
  Le H41 H43 ∧ (ob (vUn .not v44x42) fun v45x44 =>
  cnd v45x44
    (K (.bool false) H43)
    (ob (vLoadN 3 v6x17 H43) fun v46x45 =>
  HT prg I.laws_markField [v46x45, (.int .i64 1)].toArray H43 fun v48x46 H47 =>
  ob (vInt .lss v48x46 (.int .i64 0)) fun v50x48 =>
  gop v50x48 false (fun K49 => K49 v30x23 H47) H47 fun v52x50 H51 =>
  gop v50x48 false (fun K52 => K52 v23x12 H51) H51 fun v53x53 H54 =>
  gop v50x48 false (fun K55 => HT prg I.laws_eqFieldS [v52x50, v53x53].toArray H54 K55) H54 fun v54x56 H57 =>
  gop v50x48 false (fun K58 => ob (vUn .not v54x56) fun u => K58 u H57) H57 fun v55x59 H60 =>
  ob (vPick v50x48 (.bool true) v55x59) fun v56x61 =>
  gop v56x61 false (fun K62 => K62 v31x24 H60) H60 fun v58x63 H64 =>
  gop v56x61 false (fun K65 => K65 v24x13 H64) H64 fun v59x66 H67 =>
  gop v56x61 false (fun K68 => ob (vBool .neq v58x63 v59x66) fun u => K68 u H67) H67 fun v60x69 H70 =>
  ob (vPick v56x61 (.bool true) v60x69) fun v61x71 =>
  cnd v61x71
    (K (.bool false) H70)
    (HT prg I.laws_markFieldS [v30x23, (.int .i64 1)].toArray H70 fun v64x72 H73 =>
  HT prg I.laws_heldFieldS [v30x23, (.int .i64 1)].toArray H73 fun v67x74 H75 =>
  ob (vInt .lss v67x74 (.int .i64 0)) fun v69x76 =>
  cnd v69x76
    (K (.bool false) H75)
    (ob (vInt .neq v67x74 v64x72) fun v72x77 =>
  cnd v72x77
    (K (.bool false) H75)
    (ob (vLoadN 3 v1x1 H75) fun v74x78 =>
  HT prg I.laws_toField [v74x78].toArray H75 fun v75x79 H80 =>
  HT prg I.impl_ImagesOfField [v75x79].toArray H80 fun v76x81 H82 =>
  ob (vExt v76x81 0) fun v77x83 =>
  ob (vExt v76x81 1) fun v78x84 =>
  HT prg I.laws_eqFieldS [v77x83, v23x12].toArray H82 fun v81x85 H86 =>
  ob (vUn .not v81x85) fun v82x87 =>
  gop v82x87 false (fun K88 => K88 v78x84 H86) H86 fun v84x89 H90 =>
  gop v82x87 false (fun K91 => K91 v24x13 H90) H90 fun v85x92 H93 =>
  gop v82x87 false (fun K94 => ob (vBool .neq v84x89 v85x92) fun u => K94 u H93) H93 fun v86x95 H96 =>
  ob (vPick v82x87 (.bool true) v86x95) fun v87x97 =>
  cnd v87x97
    (K (.bool false) H96)
    (HT prg I.laws_heldFieldS [v30x23, (.int .i64 1)].toArray H96 fun v90x98 H99 =>
  ob (vInt .lss v90x98 (.int .i64 0)) fun v92x100 =>
  cnd v92x100
    (K (.bool false) H99)
    (ob (vInt .neq v90x98 v64x72) fun v95x101 =>
  cnd v95x101
    (K (.bool false) H99)
    (K (.bool true) H99)))))))))))
def O.laws_FnExactImagesOfField : Nat → Nat × List Nat := fun i => bif Nat.beq i 10 then (0, [0, 1, 2, 3, 4]) else (0, [])
theorem R.laws_FnExactImagesOfField {a0 : Value} {H : Hp} {K : Value → Hp → Prop} (h : F.laws_FnExactImagesOfField a0 H K) : HT prg I.laws_FnExactImagesOfField [a0].toArray H K :=
  HT_of_fev O.laws_FnExactImagesOfField mixed Try.func9 (by kernel_rfl) (Eq.mpr (by kernel_rfl : fev prg O.laws_FnExactImagesOfField Try.f9 [a0] H K = F.laws_FnExactImagesOfField a0 H K) h)

/-! loop.example/g01381/spec.l05Square: function 65 -/
def F.spec_l05Square (a0 : Value) (H : Hp) (K : Value → Hp → Prop) : Prop :=
  HT prg I.spec_l04Plain [a0].toArray H fun v4x1 H2 =>
  Le H H2 ∧ (gop v4x1 true (fun K3 => K3 a0 H2) H2 fun v6x4 H5 =>
  gop v4x1 true (fun K6 => ob (vNilC v6x4) fun u => K6 u H5) H5 fun v7x7 H8 =>
  gop v4x1 true (fun K9 => ob (vFa 0 v7x7) fun u => K9 u H8) H8 fun v8x10 H11 =>
  gop v4x1 true (fun K12 => ob (vLoad v8x10 H11) fun u => K12 u H11) H11 fun v9x13 H14 =>
  gop v4x1 true (fun K15 => K15 a0 H14) H14 fun v10x16 H17 =>
  gop v4x1 true (fun K18 => ob (vNilC v10x16) fun u => K18 u H17) H17 fun v11x19 H20 =>
  gop v4x1 true (fun K21 => ob (vFa 1 v11x19) fun u => K21 u H20) H20 fun v12x22 H23 =>
  gop v4x1 true (fun K24 => ob (vLoad v12x22 H23) fun u => K24 u H23) H23 fun v13x25 H26 =>
  gop v4x1 true (fun K27 => ob (vInt .eql v9x13 v13x25) fun u => K27 u H26) H26 fun v14x28 H29 =>
  ob (vPick v4x1 v14x28 (.bool false)) fun v15x30 =>
  gop v15x30 true (fun K31 => K31 a0 H29) H29 fun v17x32 H33 =>
  gop v15x30 true (fun K34 => ob (vNilC v17x32) fun u => K34 u H33) H33 fun v18x35 H36 =>
  gop v15x30 true (fun K37 => ob (vFa 0 v18x35) fun u => K37 u H36) H36 fun v19x38 H39 =>
  gop v15x30 true (fun K40 => ob (vLoad v19x38 H39) fun u => K40 u H39) H39 fun v20x41 H42 =>
  gop v15x30 true (fun K43 => ob (vInt .eql v20x41 (.int .i64 4)) fun u => K43 u H42) H42 fun v21x44 H45 =>
  gop v15x30 true (fun K46 => K46 v21x44 H45) H45 fun v22x47 H48 =>
  gop v22x47 false (fun K49 => K49 a0 H48) H48 fun v23x50 H51 =>
  gop v22x47 false (fun K52 => ob (vNilC v23x50) fun u => K52 u H51) H51 fun v24x53 H54 =>
  gop v22x47 false (fun K55 => ob (vFa 0 v24x53) fun u => K55 u H54) H54 fun v25x56 H57 =>
  gop v22x47 false (fun K58 => ob (vLoad v25x56 H57) fun u => K58 u H57) H57 fun v26x59 H60 =>
  gop v22x47 false (fun K61 => ob (vInt .eql v26x59 (.int .i64 8)) fun u => K61 u H60) H60 fun v27x62 H63 =>
  gop v15x30 true (fun K64 => ob (vPick v22x47 (.bool true) v27x62) fun u => K64 u H63) H63 fun v28x65 H66 =>
  gop v15x30 true (fun K67 => K67 v28x65 H66) H66 fun v29x68 H69 =>
  gop v29x68 false (fun K70 => K70 a0 H69) H69 fun v30x71 H72 =>
  gop v29x68 false (fun K73 => ob (vNilC v30x71) fun u => K73 u H72) H72 fun v31x74 H75 =>
  gop v29x68 false (fun K76 => ob (vFa 0 v31x74) fun u => K76 u H75) H75 fun v32x77 H78 =>
  gop v29x68 false (fun K79 => ob (vLoad v32x77 H78) fun u => K79 u H78) H78 fun v33x80 H81 =>
  gop v29x68 false (fun K82 => ob (vInt .eql v33x80 (.int .i64 16)) fun u => K82 u H81) H81 fun v34x83 H84 =>
  gop v15x30 true (fun K85 => ob (vPick v29x68 (.bool true) v34x83) fun u => K85 u H84) H84 fun v35x86 H87 =>
  ob (vPick v15x30 v35x86 (.bool false)) fun v36x88 =>
  K v36x88 H87)
def O.spec_l05Square : Nat → Nat × List Nat := fun i => bif Nat.beq i 1 then (0, [0, 1, 2, 3, 4, 5, 6, 7, 8, 9, 10, 11, 12, 13, 14, 15, 16, 17, 18, 19, 20, 21, 22, 23, 24, 25, 26, 27, 28, 29, 30, 31, 32, 33, 34]) else (0, [])
theorem R.spec_l05Square {a0 : Value} {H : Hp} {K : Value → Hp → Prop} (h : F.spec_l05Square a0 H K) : HT prg I.spec_l05Square [a0].toArray H K :=
  HT_of_fev O.spec_l05Square mixed Try.func65 (by kernel_rfl) (Eq.mpr (by kernel_rfl : fev prg O.spec_l05Square Try.f65 [a0] H K = F.spec_l05Square a0 H K) h)

/-! loop.example/g01381/spec.l00Same: function 98 -/
def F.spec_l00Same (a0 a1 : Value) (H : Hp) (K : Value → Hp → Prop) : Prop :=
  ob (vLenSl a0) fun v7x1 =>
  ob (vLenSl a1) fun v9x2 =>
  ob (vInt .neq v7x1 v9x2) fun v10x3 =>
  cnd v10x3
    (K (.bool false) H)
    (jn (fun σ4 H4 =>
    K (.bool true) H4) fun J4 =>
  lpE (fun Q5 σ5 H5 =>
    ob (vLenSl (σ5 0)) fun v13x6 =>
    ob (vInt .lss (σ5 5) v13x6) fun v14x7 =>
    cnd v14x7
      (ob (vIx 1 (σ5 0) (σ5 5)) fun v19x8 =>
    ob (vLoad v19x8 H5) fun v20x9 =>
    ob (vIx 1 (σ5 1) (σ5 5)) fun v23x10 =>
    ob (vLoad v23x10 H5) fun v24x11 =>
    ob (vInt .neq v20x9 v24x11) fun v25x12 =>
    cnd v25x12
      (Q5 .ret (up (up (up (up (up (up (up (up (up (up (up (up (up (up σ5 11 (σ5 5)) 12 (σ5 0)) 13 v13x6) 14 v14x7) 17 (σ5 0)) 18 (σ5 5)) 19 v19x8) 20 v20x9) 21 (σ5 1)) 22 (σ5 5)) 23 v23x10) 24 v24x11) 25 v25x12) 4 (.bool false)) H5)
      (ob (vInt .add (σ5 5) (.int .i64 1)) fun v16x13 =>
    Q5 .normal (up (up (up (up (up (up (up (up (up (up (up (up (up (up (up (up σ5 11 (σ5 5)) 12 (σ5 0)) 13 v13x6) 14 v14x7) 17 (σ5 0)) 18 (σ5 5)) 19 v19x8) 20 v20x9) 21 (σ5 1)) 22 (σ5 5)) 23 v23x10) 24 v24x11) 25 v25x12) 15 (σ5 5)) 16 v16x13) 5 v16x13) H5))
      (Q5 (.exit 0) (up (up (up (up σ5 11 (σ5 5)) 12 (σ5 0)) 13 v13x6) 14 v14x7) H5)) (blkQ 0 (thenQ J4 (retQ prg [(.tmp 4)] K))) (up (up (up (up (up (up (up (S0 [a0, a1]) 4 (.bool false)) 6 a0) 7 v7x1) 8 a1) 9 v9x2) 10 v10x3) 5 (.int .i64 0)) H)
def O.spec_l00Same : Nat → Nat × List Nat := fun i => bif Nat.beq i 6 then (0, [0, 1, 2, 3, 4, 5, 6, 7, 8]) else (0, [])
theorem R.spec_l00Same {a0 a1 : Value} {H : Hp} {K : Value → Hp → Prop} (h : F.spec_l00Same a0 a1 H K) : HT prg I.spec_l00Same [a0, a1].toArray H K :=
  HT_of_fev O.spec_l00Same mixed Try.func98 (by kernel_rfl) (Eq.mpr (by kernel_rfl : fev prg O.spec_l00Same Try.f98 [a0, a1] H K = F.spec_l00Same a0 a1 H K) h)

/-! loop.example/g01381/spec.l05Tell: function 91 -/
def F.spec_l05Tell (a0 a1 a2 a3 a4 : Value) (H : Hp) (K : Value → Hp → Prop) : Prop :=
  ob (vInt .eql a3 (.int .i64 1)) fun v19x1 =>
  cnd v19x1
    (ob (vNilC a0) fun v21x2 =>
    ob (vFa 2 v21x2) fun v22x3 =>
    ob (vLoad v22x3 H) fun v23x4 =>
    ob (vNilC a0) fun v26x5 =>
    ob (vFa 1 v26x5) fun v27x6 =>
    ob (vLoad v27x6 H) fun v28x7 =>
    ob (vInt .mul a1 v28x7) fun v29x8 =>
    ob (vInt .add v29x8 a2) fun v31x9 =>
    ob (vIx 1 v23x4 v31x9) fun v32x10 =>
    ob (vLoad v32x10 H) fun v33x11 =>
    K (.tuple #[v33x11, a4]) H)
    (ob (vInt .quo a3 (.int .i64 2)) fun v36x12 =>
  bS 1 0 #[(.int .i64 0)] 2 [] H fun v37x13 H14 =>
  jn (fun σ15 H15 =>
    jn (fun σ16 H16 =>
      ob (vLenSl (σ16 4)) fun v84x17 =>
      ob (vInt .quo v84x17 (.int .i64 4)) fun v85x18 =>
      ob (vInt .add v85x18 (.int .i64 2)) fun v86x19 =>
      apd 1 8 #[(.int .i64 0)] 2 (σ16 4) (σ16 13) H16 fun v89x20 H21 =>
      K (.tuple #[v86x19, v89x20]) H21) fun J16 =>
    lpE (fun Q22 σ22 H22 =>
      ob (vLenSl (σ22 4)) fun v68x23 =>
      ob (vInt .lss (σ22 17) v68x23) fun v69x24 =>
      cnd v69x24
        (ob (vInt .add (σ22 17) (.int .i64 4)) fun v75x25 =>
      ob (vSl3 1 (σ22 4) (some (σ22 17)) (some v75x25) none) fun v76x26 =>
      HT prg I.spec_l00Same [v76x26, (σ22 13)].toArray H22 fun v78x27 H28 =>
      cnd v78x27
        (ob (vInt .quo (σ22 17) (.int .i64 4)) fun v80x29 =>
        ob (vInt .add v80x29 (.int .i64 2)) fun v81x30 =>
        Q22 .ret (up (up (up (up (up (up (up (up (up (up (up (up (up (up (up (up (up σ22 66 (σ22 17)) 67 (σ22 4)) 68 v68x23) 69 v69x24) 72 (σ22 4)) 73 (σ22 17)) 74 (σ22 17)) 75 v75x25) 76 v76x26) 77 (σ22 13)) 78 v78x27) 79 (σ22 17)) 80 v80x29) 81 v81x30) 82 (σ22 4)) 10 v81x30) 11 (σ22 4)) H28)
        (ob (vInt .add (σ22 17) (.int .i64 4)) fun v71x31 =>
      Q22 .normal (up (up (up (up (up (up (up (up (up (up (up (up (up (up σ22 66 (σ22 17)) 67 (σ22 4)) 68 v68x23) 69 v69x24) 72 (σ22 4)) 73 (σ22 17)) 74 (σ22 17)) 75 v75x25) 76 v76x26) 77 (σ22 13)) 78 v78x27) 70 (σ22 17)) 71 v71x31) 17 v71x31) H28))
        (Q22 (.exit 2) (up (up (up (up σ22 66 (σ22 17)) 67 (σ22 4)) 68 v68x23) 69 v69x24) H22)) (blkQ 2 (thenQ J16 (retQ prg [(.tmp 10), (.tmp 11)] K))) (up σ15 17 (.int .i64 0)) H15) fun J15 =>
  lpE (fun Q32 σ32 H32 =>
    ob (vInt .lss (σ32 14) (.int .i64 4)) fun v39x33 =>
    cnd v39x33
      (ob (vInt .quo (σ32 14) (.int .i64 2)) fun v46x34 =>
    ob (vInt .mul v46x34 (σ32 12)) fun v48x35 =>
    ob (vInt .add (σ32 1) v48x35) fun v49x36 =>
    ob (vInt .rem (σ32 14) (.int .i64 2)) fun v52x37 =>
    ob (vInt .mul v52x37 (σ32 12)) fun v54x38 =>
    ob (vInt .add (σ32 2) v54x38) fun v55x39 =>
    HT prg I.spec_l05Tell [(σ32 0), v49x36, v55x39, (σ32 12), (σ32 4)].toArray H32 fun v58x40 H41 =>
    ob (vExt v58x40 0) fun v59x42 =>
    ob (vExt v58x40 1) fun v60x43 =>
    bS 1 1 #[(.int .i64 0)] 2 [(0, v59x42)] H41 fun v64x44 H45 =>
    apd 1 8 #[(.int .i64 0)] 2 (σ32 13) v64x44 H45 fun v65x46 H47 =>
    ob (vInt .add (σ32 14) (.int .i64 1)) fun v41x48 =>
    Q32 .normal (up (up (up (up (up (up (up (up (up (up (up (up (up (up (up (up (up (up (up (up (up (up (up (up (up (up (up (up (up (up (up (up (up σ32 38 (σ32 14)) 39 v39x33) 43 (σ32 0)) 44 (σ32 1)) 45 (σ32 14)) 46 v46x34) 47 (σ32 12)) 48 v48x35) 49 v49x36) 50 (σ32 2)) 51 (σ32 14)) 52 v52x37) 53 (σ32 12)) 54 v54x38) 55 v55x39) 56 (σ32 12)) 57 (σ32 4)) 58 v58x40) 42 v58x40) 59 v59x42) 60 v60x43) 15 v59x42) 16 v60x43) 61 v60x43) 4 v60x43) 62 (σ32 13)) 63 v59x42) 64 v64x44) 65 v65x46) 13 v65x46) 40 (σ32 14)) 41 v41x48) 14 v41x48) H47)
      (Q32 (.exit 0) (up (up σ32 38 (σ32 14)) 39 v39x33) H32)) (blkQ 0 (thenQ J15 (retQ prg [(.tmp 10), (.tmp 11)] K))) (up (up (up (up (up (up (up (up (up (up (S0 [a0, a1, a2, a3, a4]) 10 (.int .i64 0)) 11 (.slice none 0 0)) 18 a3) 19 v19x1) 35 a3) 36 v36x12) 12 v36x12) 37 v37x13) 13 v37x13) 14 (.int .i64 0)) H14)
def O.spec_l05Tell : Nat → Nat × List Nat := fun i => bif Nat.beq i 2 then (0, [0, 1, 2, 3, 4, 5, 6, 7, 8, 9, 10, 11, 12, 13, 14, 15, 16]) else (0, [])
theorem R.spec_l05Tell {a0 a1 a2 a3 a4 : Value} {H : Hp} {K : Value → Hp → Prop} (h : F.spec_l05Tell a0 a1 a2 a3 a4 H K) : HT prg I.spec_l05Tell [a0, a1, a2, a3, a4].toArray H K :=
  HT_of_fev O.spec_l05Tell mixed Try.func91 (by kernel_rfl) (Eq.mpr (by kernel_rfl : fev prg O.spec_l05Tell Try.f91 [a0, a1, a2, a3, a4] H K = F.spec_l05Tell a0 a1 a2 a3 a4 H K) h)

/-! loop.example/g01381/spec.l05Tree: function 66 -/
def F.spec_l05Tree (a0 : Value) (H : Hp) (K : Value → Hp → Prop) : Prop :=
  ob (vNilC a0) fun v8x1 =>
  ob (vFa 0 v8x1) fun v9x2 =>
  ob (vLoad v9x2 H) fun v10x3 =>
  bS 1 0 #[(.int .i64 0)] 2 [] H fun v11x4 H5 =>
  HT prg I.spec_l05Tell [a0, (.int .i64 0), (.int .i64 0), v10x3, v11x4].toArray H5 fun v12x6 H7 =>
  ob (vExt v12x6 0) fun v13x8 =>
  ob (vExt v12x6 1) fun v14x9 =>
  K v14x9 H7
def O.spec_l05Tree : Nat → Nat × List Nat := fun i => (0, [])
theorem R.spec_l05Tree {a0 : Value} {H : Hp} {K : Value → Hp → Prop} (h : F.spec_l05Tree a0 H K) : HT prg I.spec_l05Tree [a0].toArray H K :=
  HT_of_fev O.spec_l05Tree mixed Try.func66 (by kernel_rfl) (Eq.mpr (by kernel_rfl : fev prg O.spec_l05Tree Try.f66 [a0] H K = F.spec_l05Tree a0 H K) h)

/-! loop.example/g01381/spec.QuarterTree: function 37 -/
def F.spec_QuarterTree (a0 : Value) (H : Hp) (K : Value → Hp → Prop) : Prop :=
  nw (a0 : Value).cells 36 H fun v1x1 H2 =>
  HT prg I.spec_l05Square [v1x1].toArray H2 fun v4x3 H4 =>
  ob (vUn .not v4x3) fun v5x5 =>
  cnd v5x5
    (K (.tuple #[(.slice none 0 0), (.bool false)]) H4)
    (HT prg I.spec_l05Tree [v1x1].toArray H4 fun v6x6 H7 =>
  K (.tuple #[v6x6, (.bool true)]) H7)
def O.spec_QuarterTree : Nat → Nat × List Nat := fun i => (0, [])
theorem R.spec_QuarterTree {a0 : Value} {H : Hp} {K : Value → Hp → Prop} (h : F.spec_QuarterTree a0 H K) : HT prg I.spec_QuarterTree [a0].toArray H K :=
  HT_of_fev O.spec_QuarterTree mixed Try.func37 (by kernel_rfl) (Eq.mpr (by kernel_rfl : fev prg O.spec_QuarterTree Try.f37 [a0] H K = F.spec_QuarterTree a0 H K) h)

/-! loop.example/g01381/impl.isSquare: function 67 -/
def F.impl_isSquare (a0 : Value) (H : Hp) (K : Value → Hp → Prop) : Prop :=
  nw (a0 : Value).cells 36 H fun v1x1 H2 =>
  ob (vLoadN 3 v1x1 H2) fun v3x3 =>
  HT prg I.impl_isPlain [v3x3].toArray H2 fun v4x4 H5 =>
  gop v4x4 true (fun K6 => ob (vFa 0 v1x1) fun u => K6 u H5) H5 fun v6x7 H8 =>
  gop v4x4 true (fun K9 => ob (vLoad v6x7 H8) fun u => K9 u H8) H8 fun v7x10 H11 =>
  gop v4x4 true (fun K12 => ob (vFa 1 v1x1) fun u => K12 u H11) H11 fun v8x13 H14 =>
  gop v4x4 true (fun K15 => ob (vLoad v8x13 H14) fun u => K15 u H14) H14 fun v9x16 H17 =>
  gop v4x4 true (fun K18 => ob (vInt .eql v7x10 v9x16) fun u => K18 u H17) H17 fun v10x19 H20 =>
  ob (vPick v4x4 v10x19 (.bool false)) fun v11x21 =>
  gop v11x21 true (fun K22 => ob (vFa 0 v1x1) fun u => K22 u H20) H20 fun v13x23 H24 =>
  gop v11x21 true (fun K25 => ob (vLoad v13x23 H24) fun u => K25 u H24) H24 fun v14x26 H27 =>
  gop v11x21 true (fun K28 => ob (vInt .eql v14x26 (.int .i64 4)) fun u => K28 u H27) H27 fun v15x29 H30 =>
  gop v11x21 true (fun K31 => K31 v15x29 H30) H30 fun v16x32 H33 =>
  gop v16x32 false (fun K34 => ob (vFa 0 v1x1) fun u => K34 u H33) H33 fun v17x35 H36 =>
  gop v16x32 false (fun K37 => ob (vLoad v17x35 H36) fun u => K37 u H36) H36 fun v18x38 H39 =>
  gop v16x32 false (fun K40 => ob (vInt .eql v18x38 (.int .i64 8)) fun u => K40 u H39) H39 fun v19x41 H42 =>
  gop v11x21 true (fun K43 => ob (vPick v16x32 (.bool true) v19x41) fun u => K43 u H42) H42 fun v20x44 H45 =>
  gop v11x21 true (fun K46 => K46 v20x44 H45) H45 fun v21x47 H48 =>
  gop v21x47 false (fun K49 => ob (vFa 0 v1x1) fun u => K49 u H48) H48 fun v22x50 H51 =>
  gop v21x47 false (fun K52 => ob (vLoad v22x50 H51) fun u => K52 u H51) H51 fun v23x53 H54 =>
  gop v21x47 false (fun K55 => ob (vInt .eql v23x53 (.int .i64 16)) fun u => K55 u H54) H54 fun v24x56 H57 =>
  gop v11x21 true (fun K58 => ob (vPick v21x47 (.bool true) v24x56) fun u => K58 u H57) H57 fun v25x59 H60 =>
  ob (vPick v11x21 v25x59 (.bool false)) fun v26x61 =>
  K v26x61 H60
def O.impl_isSquare : Nat → Nat × List Nat := fun i => (0, [])
theorem R.impl_isSquare {a0 : Value} {H : Hp} {K : Value → Hp → Prop} (h : F.impl_isSquare a0 H K) : HT prg I.impl_isSquare [a0].toArray H K :=
  HT_of_fev O.impl_isSquare mixed Try.func67 (by kernel_rfl) (Eq.mpr (by kernel_rfl : fev prg O.impl_isSquare Try.f67 [a0] H K = F.impl_isSquare a0 H K) h)

/-! (loop.example/g01381/impl.Field).tree$1: function 92 -/
def F.impl_Field_tree_1 (a0 a1 a2 a3 a4 a5 a6 : Value) (H : Hp) (K : Value → Hp → Prop) : Prop :=
  ob (vInt .eql a2 (.int .i64 1)) fun v17x1 =>
  cnd v17x1
    (ob (vLoadN 3 a3 H) fun v18x2 =>
    HT prg I.impl_Field_at [v18x2, a0, a1].toArray H fun v21x3 H4 =>
    K v21x3 H4)
    (ob (vInt .quo a2 (.int .i64 2)) fun v23x5 =>
  hp prg (Instr.build 88 [].toArray) H fun v24x6 H7 =>
  nw #[(.int .i64 0), (.int .i64 0), (.int .i64 0), (.int .i64 0)] 88 H7 fun v12x8 H9 =>
  st 4 v12x8 v24x6 H9 fun H10 =>
  jn (fun σ11 H11 =>
    ob (vLoad (σ11 5) H11) fun v47x12 =>
    ob (vLoadN 4 (σ11 12) H11) fun v48x13 =>
    hp prg (Instr.lookup 86 v47x12 v48x13 true) H11 fun v49x14 H15 =>
    ob (vExt v49x14 0) fun v50x16 =>
    ob (vExt v49x14 1) fun v51x17 =>
    ob (vUn .not v51x17) fun v53x18 =>
    cnd v53x18
      (ob (vLoad (σ11 5) H15) fun v54x19 =>
      ob (val prg (Builtin.len_ #[86] 3 [v54x19].toArray) H15) fun v55x20 =>
      ob (vLoad (σ11 5) H15) fun v56x21 =>
      ob (vLoadN 4 (σ11 12) H15) fun v57x22 =>
      hp prg (Instr.mapUpdate 86 v56x21 v57x22 v55x20) H15 fun _ H23 =>
      ob (vLoad (σ11 6) H23) fun v59x24 =>
      ob (vSlA 4 1 (σ11 12) none none) fun v60x25 =>
      apd 1 8 #[(.int .i64 0)] 2 v59x24 v60x25 H23 fun v61x26 H27 =>
      st 1 (σ11 6) v61x26 H27 fun H28 =>
      ob (vInt .add v55x20 (.int .i64 2)) fun v63x29 =>
    K v63x29 H28)
      (ob (vInt .add v50x16 (.int .i64 2)) fun v63x30 =>
    K v63x30 H15)) fun J11 =>
  lpE (fun Q31 σ31 H31 =>
    ob (vInt .lss (σ31 25) (.int .i64 4)) fun v26x32 =>
    cnd v26x32
      (ob (vLoad (σ31 4) H31) fun v29x33 =>
    ob (vInt .quo (σ31 25) (.int .i64 2)) fun v32x34 =>
    ob (vInt .mul v32x34 (σ31 11)) fun v34x35 =>
    ob (vInt .add (σ31 0) v34x35) fun v35x36 =>
    ob (vInt .rem (σ31 25) (.int .i64 2)) fun v38x37 =>
    ob (vInt .mul v38x37 (σ31 11)) fun v40x38 =>
    ob (vInt .add (σ31 1) v40x38) fun v41x39 =>
    callV prg v29x33 [v35x36, v41x39, (σ31 11)] H31 fun v43x40 H41 =>
    ob (vIxArr 4 1 (σ31 12) (σ31 25)) fun v44x42 =>
    st 1 v44x42 v43x40 H41 fun H43 =>
    ob (vInt .add (σ31 25) (.int .i64 1)) fun v45x44 =>
    Q31 .normal (up (up (up (up (up (up (up (up (up (up (up (up (up (up (up (up (up (up (up (up (up (up σ31 26 v26x32) 27 (σ31 25)) 13 (σ31 25)) 28 (σ31 25)) 29 v29x33) 30 (σ31 0)) 31 (σ31 25)) 32 v32x34) 33 (σ31 11)) 34 v34x35) 35 v35x36) 36 (σ31 1)) 37 (σ31 25)) 38 v38x37) 39 (σ31 11)) 40 v40x38) 41 v41x39) 42 (σ31 11)) 43 v43x40) 44 v44x42) 45 v45x44) 25 v45x44) H43)
      (Q31 (.exit 0) (up σ31 26 v26x32) H31)) (blkQ 0 (thenQ J11 (retQ prg [(.tmp 10)] K))) (up (up (up (up (up (up (up (up (up (S0 [a0, a1, a2, a3, a4, a5, a6]) 10 (.int .i64 0)) 16 a2) 17 v17x1) 22 a2) 23 v23x5) 11 v23x5) 24 v24x6) 12 v12x8) 25 (.int .i64 0)) H10)
def O.impl_Field_tree_1 : Nat → Nat × List Nat := fun i => bif Nat.beq i 14 then (0, [0, 1, 2, 3]) else (0, [])
theorem R.impl_Field_tree_1 {a0 a1 a2 a3 a4 a5 a6 : Value} {H : Hp} {K : Value → Hp → Prop} (h : F.impl_Field_tree_1 a0 a1 a2 a3 a4 a5 a6 H K) : HT prg I.impl_Field_tree_1 [a0, a1, a2, a3, a4, a5, a6].toArray H K :=
  HT_of_fev O.impl_Field_tree_1 mixed Try.func92 (by kernel_rfl) (Eq.mpr (by kernel_rfl : fev prg O.impl_Field_tree_1 Try.f92 [a0, a1, a2, a3, a4, a5, a6] H K = F.impl_Field_tree_1 a0 a1 a2 a3 a4 a5 a6 H K) h)

/-! (loop.example/g01381/impl.Field).tree: function 68 -/
def F.impl_Field_tree (a0 : Value) (H : Hp) (K : Value → Hp → Prop) : Prop :=
  nw (a0 : Value).cells 36 H fun v1x1 H2 =>
  bS 1 0 #[(.int .i64 0)] 2 [] H2 fun v6x3 H4 =>
  nw #[(.slice none 0 0)] 22 H4 fun v3x5 H6 =>
  st 1 v3x5 v6x3 H6 fun H7 =>
  opEv.nwM H7 fun v7x8 H9 =>
  nw #[(.map none)] 86 H9 fun v4x10 H11 =>
  st 1 v4x10 v7x8 H11 fun H12 =>
  nw #[.nilFunc] 87 H12 fun v5x13 H14 =>
  st 1 v5x13 (.func (.func I.impl_Field_tree_1) #[] #[v1x1, v5x13, v4x10, v3x5]) H14 fun H15 =>
  ob (vLoad v5x13 H15) fun v9x16 =>
  ob (vFa 0 v1x1) fun v10x17 =>
  ob (vLoad v10x17 H15) fun v11x18 =>
  callV prg v9x16 [(.int .i64 0), (.int .i64 0), v11x18] H15 fun v12x19 H20 =>
  ob (vLoad v3x5 H20) fun v13x21 =>
  K v13x21 H20
def O.impl_Field_tree : Nat → Nat × List Nat := fun i => (0, [])
theorem R.impl_Field_tree {a0 : Value} {H : Hp} {K : Value → Hp → Prop} (h : F.impl_Field_tree a0 H K) : HT prg I.impl_Field_tree [a0].toArray H K :=
  HT_of_fev O.impl_Field_tree mixed Try.func68 (by kernel_rfl) (Eq.mpr (by kernel_rfl : fev prg O.impl_Field_tree Try.f68 [a0] H K = F.impl_Field_tree a0 H K) h)

/-! loop.example/g01381/impl.QuarterTree: function 38 -/
def F.impl_QuarterTree (a0 : Value) (H : Hp) (K : Value → Hp → Prop) : Prop :=
  nw (a0 : Value).cells 36 H fun v1x1 H2 =>
  ob (vLoadN 3 v1x1 H2) fun v4x3 =>
  HT prg I.impl_isSquare [v4x3].toArray H2 fun v5x4 H5 =>
  ob (vUn .not v5x4) fun v6x6 =>
  cnd v6x6
    (K (.tuple #[(.slice none 0 0), (.bool false)]) H5)
    (ob (vLoadN 3 v1x1 H5) fun v7x7 =>
  HT prg I.impl_Field_tree [v7x7].toArray H5 fun v8x8 H9 =>
  K (.tuple #[v8x8, (.bool true)]) H9)
def O.impl_QuarterTree : Nat → Nat × List Nat := fun i => (0, [])
theorem R.impl_QuarterTree {a0 : Value} {H : Hp} {K : Value → Hp → Prop} (h : F.impl_QuarterTree a0 H K) : HT prg I.impl_QuarterTree [a0].toArray H K :=
  HT_of_fev O.impl_QuarterTree mixed Try.func38 (by kernel_rfl) (Eq.mpr (by kernel_rfl : fev prg O.impl_QuarterTree Try.f38 [a0] H K = F.impl_QuarterTree a0 H K) h)

/-! loop.example/g01381/laws.FnExactQuarterTree: function 10 -/
def F.laws_FnExactQuarterTree (a0 : Value) (H : Hp) (K : Value → Hp → Prop) : Prop :=
  nw (a0 : Value).cells 32 H fun v1x1 H2 =>
  ob (vLoadN 3 v1x1 H2) fun v14x3 =>
  HT prg I.laws_szField [v14x3, (.int .i64 1048576)].toArray H2 fun v16x4 H5 =>
  ob (vInt .lss v16x4 (.int .i64 0)) fun v18x6 =>
  cnd v18x6
    (K (.bool true) H5)
    (ob (vLoadN 3 v1x1 H5) fun v20x7 =>
  HT prg I.laws_toField [v20x7].toArray H5 fun v21x8 H9 =>
  HT prg I.spec_QuarterTree [v21x8].toArray H9 fun v22x10 H11 =>
  ob (vExt v22x10 0) fun v23x12 =>
  ob (vExt v22x10 1) fun v24x13 =>
  ob (vLoadN 3 v1x1 H11) fun v25x14 =>
  HT prg I.laws_toField [v25x14].toArray H11 fun v26x15 H16 =>
  nw #[(.int .i64 0), (.int .i64 0), (.slice none 0 0)] 36 H16 fun v6x17 H18 =>
  st 3 v6x17 v26x15 H18 fun H19 =>
  ob (vLoadN 3 v6x17 H19) fun v28x20 =>
  HT prg I.impl_QuarterTree [v28x20].toArray H19 fun v29x21 H22 =>
  ob (vExt v29x21 0) fun v30x23 =>
  ob (vExt v29x21 1) fun v31x24 =>
  HT prg I.laws_eqInt64S [v30x23, v23x12].toArray H22 fun v34x25 H26 =>
  ob (vUn .not v34x25) fun v35x27 =>
  gop v35x27 false (fun K28 => K28 v31x24 H26) H26 fun v37x29 H30 =>
  gop v35x27 false (fun K31 => K31 v24x13 H30) H30 fun v38x32 H33 =>
  gop v35x27 false (fun K34 => ob (vBool .neq v37x29 v38x32) fun u => K34 u H33) H33 fun v39x35 H36 =>
  ob (vPick v35x27 (.bool true) v39x35) fun v40x37 =>
  cnd v40x37
    (K (.bool false) H36)
    (ob (vLoadN 3 v6x17 H36) fun v41x38 =>
  ob (vLoadN 3 v1x1 H36) fun v42x39 =>
  HT prg I.laws_toField [v42x39].toArray H36 fun v43x40 H41 =>
  Le H36 H41 ∧ (HT prg I.laws_eqField [v41x38, v43x40].toArray H41 fun v44x42 H43 =>
  Le H41 H43 ∧ (ob (vUn .not v44x42) fun v45x44 =>
  cnd v45x44
    (K (.bool false) H43)
    (ob (vLoadN 3 v6x17 H43) fun v46x45 =>
  HT prg I.laws_markField [v46x45, (.int .i64 1)].toArray H43 fun v48x46 H47 =>
  ob (vInt .lss v48x46 (.int .i64 0)) fun v50x48 =>
  gop v50x48 false (fun K49 => K49 v30x23 H47) H47 fun v52x50 H51 =>
  gop v50x48 false (fun K52 => K52 v23x12 H51) H51 fun v53x53 H54 =>
  gop v50x48 false (fun K55 => HT prg I.laws_eqInt64S [v52x50, v53x53].toArray H54 K55) H54 fun v54x56 H57 =>
  gop v50x48 false (fun K58 => ob (vUn .not v54x56) fun u => K58 u H57) H57 fun v55x59 H60 =>
  ob (vPick v50x48 (.bool true) v55x59) fun v56x61 =>
  gop v56x61 false (fun K62 => K62 v31x24 H60) H60 fun v58x63 H64 =>
  gop v56x61 false (fun K65 => K65 v24x13 H64) H64 fun v59x66 H67 =>
  gop v56x61 false (fun K68 => ob (vBool .neq v58x63 v59x66) fun u => K68 u H67) H67 fun v60x69 H70 =>
  ob (vPick v56x61 (.bool true) v60x69) fun v61x71 =>
  cnd v61x71
    (K (.bool false) H70)
    (HT prg I.laws_markInt64S [v30x23, (.int .i64 1)].toArray H70 fun v64x72 H73 =>
  HT prg I.laws_heldInt64S [v30x23, (.int .i64 1)].toArray H73 fun v67x74 H75 =>
  ob (vInt .lss v67x74 (.int .i64 0)) fun v69x76 =>
  cnd v69x76
    (K (.bool false) H75)
    (ob (vInt .neq v67x74 v64x72) fun v72x77 =>
  cnd v72x77
    (K (.bool false) H75)
    (ob (vLoadN 3 v1x1 H75) fun v74x78 =>
  HT prg I.laws_toField [v74x78].toArray H75 fun v75x79 H80 =>
  HT prg I.impl_QuarterTree [v75x79].toArray H80 fun v76x81 H82 =>
  ob (vExt v76x81 0) fun v77x83 =>
  ob (vExt v76x81 1) fun v78x84 =>
  HT prg I.laws_eqInt64S [v77x83, v23x12].toArray H82 fun v81x85 H86 =>
  ob (vUn .not v81x85) fun v82x87 =>
  gop v82x87 false (fun K88 => K88 v78x84 H86) H86 fun v84x89 H90 =>
  gop v82x87 false (fun K91 => K91 v24x13 H90) H90 fun v85x92 H93 =>
  gop v82x87 false (fun K94 => ob (vBool .neq v84x89 v85x92) fun u => K94 u H93) H93 fun v86x95 H96 =>
  ob (vPick v82x87 (.bool true) v86x95) fun v87x97 =>
  cnd v87x97
    (K (.bool false) H96)
    (HT prg I.laws_heldInt64S [v30x23, (.int .i64 1)].toArray H96 fun v90x98 H99 =>
  ob (vInt .lss v90x98 (.int .i64 0)) fun v92x100 =>
  cnd v92x100
    (K (.bool false) H99)
    (ob (vInt .neq v90x98 v64x72) fun v95x101 =>
  cnd v95x101
    (K (.bool false) H99)
    (K (.bool true) H99)))))))))))
def O.laws_FnExactQuarterTree : Nat → Nat × List Nat := fun i => bif Nat.beq i 10 then (0, [0, 1, 2, 3, 4]) else (0, [])
theorem R.laws_FnExactQuarterTree {a0 : Value} {H : Hp} {K : Value → Hp → Prop} (h : F.laws_FnExactQuarterTree a0 H K) : HT prg I.laws_FnExactQuarterTree [a0].toArray H K :=
  HT_of_fev O.laws_FnExactQuarterTree mixed Try.func10 (by kernel_rfl) (Eq.mpr (by kernel_rfl : fev prg O.laws_FnExactQuarterTree Try.f10 [a0] H K = F.laws_FnExactQuarterTree a0 H K) h)

end Go.Proofs.Ytnndhafldmkdeaa
