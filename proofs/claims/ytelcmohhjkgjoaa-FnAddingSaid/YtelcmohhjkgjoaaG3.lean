/- Functions' texts over a partial heap. -/
import Derived.Test.YtelcmohhjkgjoaaG0
namespace Go.Proofs.Ytelcmohhjkgjoaa
open HL
set_option linter.unusedVariables false
set_option maxRecDepth 100000
set_option maxHeartbeats 4000000
/-! loop.example/g01381/laws.FnAdding: function 7 -/
def F.laws_FnAdding (a0 a1 : Value) (H : Hp) (K : Value → Hp → Prop) : Prop :=
  HT prg I.laws_b10Long [a0, a1].toArray H fun v33x1 H2 =>
  cnd v33x1
    (K (.bool true) H2)
    (HT prg I.laws_b10At [a1, (.int .i64 0), (.int .i64 2)].toArray H2 fun v35x3 H4 =>
  ob (vInt .add (.int .i64 2) v35x3) fun v36x5 =>
  HT prg I.spec_B10Adding [a0, v36x5].toArray H4 fun v40x6 H7 =>
  ob (vExt v40x6 0) fun v41x8 =>
  ob (vExt v40x6 1) fun v42x9 =>
  nw #[(.int .i64 0), (.int .i64 0), (.slice none 0 0)] 43 H7 fun v6x10 H11 =>
  st 3 v6x10 v41x8 H11 fun H12 =>
  ob (vLoadN 3 v6x10 H12) fun v44x13 =>
  HT prg I.impl_IsAdding [v44x13].toArray H12 fun v45x14 H15 =>
  ob (vExt v45x14 0) fun v46x16 =>
  ob (vExt v45x14 1) fun v47x17 =>
  ob (vLoadN 3 v6x10 H15) fun v49x18 =>
  HT prg I.impl_AddingTerms [v49x18].toArray H15 fun v50x19 H20 =>
  ob (vExt v50x19 0) fun v51x21 =>
  ob (vExt v50x19 1) fun v52x22 =>
  HT prg I.laws_b10At [a1, (.int .i64 1), (.int .i64 9)].toArray H20 fun v54x23 H24 =>
  ob (vInt .add (.int .i64 3) v54x23) fun v55x25 =>
  HT prg I.spec_B10Ring [a1, v36x5, v55x25].toArray H24 fun v59x26 H27 =>
  HT prg I.laws_b10At [a1, (.int .i64 2), (.int .i64 30)].toArray H27 fun v61x28 H29 =>
  ob (vLoadN 3 v6x10 H29) fun v63x30 =>
  HT prg I.impl_FarAhead [v63x30, v59x26, v61x28].toArray H29 fun v66x31 H32 =>
  ob (vExt v66x31 0) fun v67x33 =>
  ob (vExt v66x31 1) fun v68x34 =>
  ob (vLoadN 3 v6x10 H32) fun v70x35 =>
  HT prg I.spec_RunRing [v70x35, v59x26, v61x28].toArray H32 fun v73x36 H37 =>
  ob (vExt v73x36 0) fun v74x38 =>
  ob (vExt v73x36 1) fun v75x39 =>
  ob (vLoadN 3 v6x10 H37) fun v77x40 =>
  HT prg I.impl_AddingPeriod [v77x40, v55x25, (.int .i64 512)].toArray H37 fun v79x41 H42 =>
  ob (vExt v79x41 0) fun v80x43 =>
  ob (vExt v79x41 1) fun v81x44 =>
  ob (vExt v79x41 2) fun v82x45 =>
  ob (vLoadN 3 v6x10 H42) fun v84x46 =>
  HT prg I.spec_AddingPeriod [v84x46, v55x25, (.int .i64 512)].toArray H42 fun v86x47 H48 =>
  ob (vExt v86x47 0) fun v87x49 =>
  ob (vExt v86x47 1) fun v88x50 =>
  ob (vExt v86x47 2) fun v89x51 =>
  ob (vUn .not v47x17) fun v91x52 =>
  gop v91x52 false (fun K53 => K53 v46x16 H48) H48 fun v93x54 H55 =>
  gop v91x52 false (fun K56 => ob (vUn .not v93x54) fun u => K56 u H55) H55 fun v94x57 H58 =>
  ob (vPick v91x52 (.bool true) v94x57) fun v95x59 =>
  gop v95x59 false (fun K60 => K60 v52x22 H58) H58 fun v97x61 H62 =>
  gop v95x59 false (fun K63 => ob (vUn .not v97x61) fun u => K63 u H62) H62 fun v98x64 H65 =>
  ob (vPick v95x59 (.bool true) v98x64) fun v99x66 =>
  gop v99x66 false (fun K67 => K67 v51x21 H65) H65 fun v101x68 H69 =>
  gop v99x66 false (fun K70 => K70 v42x9 H69) H69 fun v102x71 H72 =>
  gop v99x66 false (fun K73 => HT prg I.laws_b10Ints [v101x68, v102x71].toArray H72 K73) H72 fun v103x74 H75 =>
  gop v99x66 false (fun K76 => ob (vUn .not v103x74) fun u => K76 u H75) H75 fun v104x77 H78 =>
  ob (vPick v99x66 (.bool true) v104x77) fun v105x79 =>
  gop v105x79 false (fun K80 => K80 v68x34 H78) H78 fun v107x81 H82 =>
  gop v105x79 false (fun K83 => ob (vUn .not v107x81) fun u => K83 u H82) H82 fun v108x84 H85 =>
  ob (vPick v105x79 (.bool true) v108x84) fun v109x86 =>
  gop v109x86 false (fun K87 => K87 v75x39 H85) H85 fun v111x88 H89 =>
  gop v109x86 false (fun K90 => ob (vUn .not v111x88) fun u => K90 u H89) H89 fun v112x91 H92 =>
  ob (vPick v109x86 (.bool true) v112x91) fun v113x93 =>
  gop v113x93 false (fun K94 => K94 v67x33 H92) H92 fun v115x95 H96 =>
  gop v113x93 false (fun K97 => K97 v74x38 H96) H96 fun v116x98 H99 =>
  gop v113x93 false (fun K100 => HT prg I.laws_b10Ints [v115x95, v116x98].toArray H99 K100) H99 fun v117x101 H102 =>
  gop v113x93 false (fun K103 => ob (vUn .not v117x101) fun u => K103 u H102) H102 fun v118x104 H105 =>
  ob (vPick v113x93 (.bool true) v118x104) fun v119x106 =>
  gop v119x106 false (fun K107 => K107 v82x45 H105) H105 fun v121x108 H109 =>
  gop v119x106 false (fun K110 => K110 v89x51 H109) H109 fun v122x111 H112 =>
  gop v119x106 false (fun K113 => ob (vBool .neq v121x108 v122x111) fun u => K113 u H112) H112 fun v123x114 H115 =>
  ob (vPick v119x106 (.bool true) v123x114) fun v124x116 =>
  gop v124x116 false (fun K117 => K117 v82x45 H115) H115 fun v126x118 H119 =>
  gop v124x116 false (fun K120 => K120 v126x118 H119) H119 fun v127x121 H122 =>
  gop v127x121 true (fun K123 => K123 v80x43 H122) H122 fun v128x124 H125 =>
  gop v127x121 true (fun K126 => K126 v87x49 H125) H125 fun v129x127 H128 =>
  gop v127x121 true (fun K129 => ob (vInt .neq v128x124 v129x127) fun u => K129 u H128) H128 fun v130x130 H131 =>
  gop v127x121 true (fun K132 => K132 v130x130 H131) H131 fun v131x133 H134 =>
  gop v131x133 false (fun K135 => K135 v81x44 H134) H134 fun v132x136 H137 =>
  gop v131x133 false (fun K138 => K138 v88x50 H137) H137 fun v133x139 H140 =>
  gop v131x133 false (fun K141 => ob (vInt .neq v132x136 v133x139) fun u => K141 u H140) H140 fun v134x142 H143 =>
  gop v127x121 true (fun K144 => ob (vPick v131x133 (.bool true) v134x142) fun u => K144 u H143) H143 fun v135x145 H146 =>
  gop v127x121 true (fun K147 => K147 v135x145 H146) H146 fun v136x148 H149 =>
  gop v136x148 false (fun K150 => K150 v81x44 H149) H149 fun v137x151 H152 =>
  gop v136x148 false (fun K153 => ob (vInt .lss v137x151 (.int .i64 1)) fun u => K153 u H152) H152 fun v138x154 H155 =>
  gop v127x121 true (fun K156 => ob (vPick v136x148 (.bool true) v138x154) fun u => K156 u H155) H155 fun v139x157 H158 =>
  gop v127x121 true (fun K159 => K159 v139x157 H158) H158 fun v140x160 H161 =>
  gop v140x160 false (fun K162 => K162 v80x43 H161) H161 fun v141x163 H164 =>
  gop v140x160 false (fun K165 => ob (vInt .lss v141x163 (.int .i64 0)) fun u => K165 u H164) H164 fun v142x166 H167 =>
  gop v127x121 true (fun K168 => ob (vPick v140x160 (.bool true) v142x166) fun u => K168 u H167) H167 fun v143x169 H170 =>
  gop v124x116 false (fun K171 => ob (vPick v127x121 v143x169 (.bool false)) fun u => K171 u H170) H170 fun v144x172 H173 =>
  ob (vPick v124x116 (.bool true) v144x172) fun v145x174 =>
  cnd v145x174
    (K (.bool false) H173)
    (jn (fun σ175 H175 =>
    ob (vFa 2 (σ175 6)) fun v176x176 =>
    ob (vLoad v176x176 H175) fun v177x177 =>
    ob (vIx 1 v177x177 (.int .i64 0)) fun v178x178 =>
    st 1 v178x178 (.int .i64 1) H175 fun H179 =>
    ob (vLoadN 3 (σ175 6) H179) fun v180x180 =>
    HT prg I.impl_IsAdding [v180x180].toArray H179 fun v181x181 H182 =>
    ob (vExt v181x181 0) fun v182x183 =>
    ob (vExt v181x181 1) fun v183x184 =>
    gop v183x184 true (fun K185 => K185 v182x183 H182) H182 fun v186x186 H187 =>
    gop v183x184 true (fun K188 => ob (vUn .not v186x186) fun u => K188 u H187) H187 fun v187x189 H190 =>
    ob (vPick v183x184 v187x189 (.bool false)) fun v188x191 =>
    K v188x191 H190) fun J175 =>
  cnd v82x45
    (ob (vLoadN 3 v6x10 H173) fun v148x192 =>
    ob (vInt .mul (.int .i64 1000000) v81x44) fun v152x193 =>
    ob (vInt .add v80x43 v152x193) fun v153x194 =>
    HT prg I.impl_FarAhead [v148x192, v59x26, v153x194].toArray H173 fun v154x195 H196 =>
    ob (vExt v154x195 0) fun v155x197 =>
    ob (vExt v154x195 1) fun v156x198 =>
    ob (vLoadN 3 v6x10 H196) fun v158x199 =>
    HT prg I.impl_FarAhead [v158x199, v59x26, v80x43].toArray H196 fun v161x200 H201 =>
    ob (vExt v161x200 0) fun v162x202 =>
    ob (vExt v161x200 1) fun v163x203 =>
    ob (vUn .not v156x198) fun v165x204 =>
    gop v165x204 false (fun K205 => K205 v163x203 H201) H201 fun v167x206 H207 =>
    gop v165x204 false (fun K208 => ob (vUn .not v167x206) fun u => K208 u H207) H207 fun v168x209 H210 =>
    ob (vPick v165x204 (.bool true) v168x209) fun v169x211 =>
    gop v169x211 false (fun K212 => K212 v155x197 H210) H210 fun v171x213 H214 =>
    gop v169x211 false (fun K215 => K215 v162x202 H214) H214 fun v172x216 H217 =>
    gop v169x211 false (fun K218 => HT prg I.laws_b10Ints [v171x213, v172x216].toArray H217 K218) H217 fun v173x219 H220 =>
    gop v169x211 false (fun K221 => ob (vUn .not v173x219) fun u => K221 u H220) H220 fun v174x222 H223 =>
    ob (vPick v169x211 (.bool true) v174x222) fun v175x224 =>
    cnd v175x224
      (K (.bool false) H223)
      (J175 (up (up (up (up (up (up (up (up (up (up (up (up (up (up (up (up (up (up (up (up (up (up (up (up (up (up (up (up (up (up (up (up (up (up (up (up (up (up (up (up (up (up (up (up (up (up (up (up (up (up (up (up (up (up (up (up (up (up (up (up (up (up (up (up (up (up (up (up (up (up (up (up (up (up (up (up (up (up (up (up (up (up (up (up (up (up (up (up (up (up (up (up (up (up (up (up (up (up (up (up (up (up (up (up (up (up (up (up (up (up (up (up (up (up (up (up (up (up (up (up (up (up (up (up (up (up (up (up (up (up (up (up (up (up (up (up (up (up (up (up (up (up (up (up (up (up (up (up (up (up (up (up (up (up (up (up (up (up (up (up (up (up (up (up (up (up (up (up (up (up (S0 [a0, a1]) 4 (.bool false)) 31 a0) 32 a1) 33 v33x1) 34 a1) 35 v35x3) 36 v36x5) 5 v36x5) 38 a0) 39 v36x5) 40 v40x6) 37 v40x6) 41 v41x8) 42 v42x9) 6 v6x10) 7 v42x9) 44 v44x13) 45 v45x14) 43 v45x14) 46 v46x16) 47 v47x17) 8 v46x16) 9 v47x17) 49 v49x18) 50 v50x19) 48 v50x19) 51 v51x21) 52 v52x22) 10 v51x21) 11 v52x22) 53 a1) 54 v54x23) 55 v55x25) 12 v55x25) 56 a1) 57 v36x5) 58 v55x25) 59 v59x26) 13 v59x26) 60 a1) 61 v61x28) 14 v61x28) 63 v63x30) 64 v59x26) 65 v61x28) 66 v66x31) 62 v66x31) 67 v67x33) 68 v68x34) 15 v67x33) 16 v68x34) 70 v70x35) 71 v59x26) 72 v61x28) 73 v73x36) 69 v73x36) 74 v74x38) 75 v75x39) 17 v74x38) 18 v75x39) 77 v77x40) 78 v55x25) 79 v79x41) 76 v79x41) 80 v80x43) 81 v81x44) 82 v82x45) 19 v80x43) 20 v81x44) 21 v82x45) 84 v84x46) 85 v55x25) 86 v86x47) 83 v86x47) 87 v87x49) 88 v88x50) 89 v89x51) 22 v87x49) 23 v88x50) 24 v89x51) 90 v47x17) 91 v91x52) 92 v91x52) 93 v93x54) 94 v94x57) 95 v95x59) 96 v95x59) 97 v97x61) 98 v98x64) 99 v99x66) 100 v99x66) 101 v101x68) 102 v102x71) 103 v103x74) 104 v104x77) 105 v105x79) 106 v105x79) 107 v107x81) 108 v108x84) 109 v109x86) 110 v109x86) 111 v111x88) 112 v112x91) 113 v113x93) 114 v113x93) 115 v115x95) 116 v116x98) 117 v117x101) 118 v118x104) 119 v119x106) 120 v119x106) 121 v121x108) 122 v122x111) 123 v123x114) 124 v124x116) 125 v124x116) 126 v126x118) 127 v127x121) 128 v128x124) 129 v129x127) 130 v130x130) 131 v131x133) 132 v132x136) 133 v133x139) 134 v134x142) 135 v135x145) 136 v136x148) 137 v137x151) 138 v138x154) 139 v139x157) 140 v140x160) 141 v141x163) 142 v142x166) 143 v143x169) 144 v144x172) 145 v145x174) 146 v82x45) 148 v148x192) 149 v59x26) 150 v80x43) 151 v81x44) 152 v152x193) 153 v153x194) 154 v154x195) 147 v154x195) 155 v155x197) 156 v156x198) 25 v155x197) 26 v156x198) 158 v158x199) 159 v59x26) 160 v80x43) 161 v161x200) 157 v161x200) 162 v162x202) 163 v163x203) 27 v162x202) 28 v163x203) 164 v156x198) 165 v165x204) 166 v165x204) 167 v167x206) 168 v168x209) 169 v169x211) 170 v169x211) 171 v171x213) 172 v172x216) 173 v173x219) 174 v174x222) 175 v175x224) H223))
    (J175 (up (up (up (up (up (up (up (up (up (up (up (up (up (up (up (up (up (up (up (up (up (up (up (up (up (up (up (up (up (up (up (up (up (up (up (up (up (up (up (up (up (up (up (up (up (up (up (up (up (up (up (up (up (up (up (up (up (up (up (up (up (up (up (up (up (up (up (up (up (up (up (up (up (up (up (up (up (up (up (up (up (up (up (up (up (up (up (up (up (up (up (up (up (up (up (up (up (up (up (up (up (up (up (up (up (up (up (up (up (up (up (up (up (up (up (up (up (up (up (up (up (up (up (up (up (up (up (up (up (up (up (up (up (up (up (up (up (S0 [a0, a1]) 4 (.bool false)) 31 a0) 32 a1) 33 v33x1) 34 a1) 35 v35x3) 36 v36x5) 5 v36x5) 38 a0) 39 v36x5) 40 v40x6) 37 v40x6) 41 v41x8) 42 v42x9) 6 v6x10) 7 v42x9) 44 v44x13) 45 v45x14) 43 v45x14) 46 v46x16) 47 v47x17) 8 v46x16) 9 v47x17) 49 v49x18) 50 v50x19) 48 v50x19) 51 v51x21) 52 v52x22) 10 v51x21) 11 v52x22) 53 a1) 54 v54x23) 55 v55x25) 12 v55x25) 56 a1) 57 v36x5) 58 v55x25) 59 v59x26) 13 v59x26) 60 a1) 61 v61x28) 14 v61x28) 63 v63x30) 64 v59x26) 65 v61x28) 66 v66x31) 62 v66x31) 67 v67x33) 68 v68x34) 15 v67x33) 16 v68x34) 70 v70x35) 71 v59x26) 72 v61x28) 73 v73x36) 69 v73x36) 74 v74x38) 75 v75x39) 17 v74x38) 18 v75x39) 77 v77x40) 78 v55x25) 79 v79x41) 76 v79x41) 80 v80x43) 81 v81x44) 82 v82x45) 19 v80x43) 20 v81x44) 21 v82x45) 84 v84x46) 85 v55x25) 86 v86x47) 83 v86x47) 87 v87x49) 88 v88x50) 89 v89x51) 22 v87x49) 23 v88x50) 24 v89x51) 90 v47x17) 91 v91x52) 92 v91x52) 93 v93x54) 94 v94x57) 95 v95x59) 96 v95x59) 97 v97x61) 98 v98x64) 99 v99x66) 100 v99x66) 101 v101x68) 102 v102x71) 103 v103x74) 104 v104x77) 105 v105x79) 106 v105x79) 107 v107x81) 108 v108x84) 109 v109x86) 110 v109x86) 111 v111x88) 112 v112x91) 113 v113x93) 114 v113x93) 115 v115x95) 116 v116x98) 117 v117x101) 118 v118x104) 119 v119x106) 120 v119x106) 121 v121x108) 122 v122x111) 123 v123x114) 124 v124x116) 125 v124x116) 126 v126x118) 127 v127x121) 128 v128x124) 129 v129x127) 130 v130x130) 131 v131x133) 132 v132x136) 133 v133x139) 134 v134x142) 135 v135x145) 136 v136x148) 137 v137x151) 138 v138x154) 139 v139x157) 140 v140x160) 141 v141x163) 142 v142x166) 143 v143x169) 144 v144x172) 145 v145x174) 146 v82x45) H173)))
def O.laws_FnAdding : Nat → Nat × List Nat := fun i => (0, [])
theorem R.laws_FnAdding {a0 a1 : Value} {H : Hp} {K : Value → Hp → Prop} (h : F.laws_FnAdding a0 a1 H K) : HT prg I.laws_FnAdding [a0, a1].toArray H K :=
  HT_of_fev O.laws_FnAdding mixed Try.func7 (by kernel_rfl) (Eq.mpr (by kernel_rfl : fev prg O.laws_FnAdding Try.f7 [a0, a1] H K = F.laws_FnAdding a0 a1 H K) h)

/-! loop.example/g01381/laws.szInt64S: function 131 -/
def F.laws_szInt64S (a0 a1 : Value) (H : Hp) (K : Value → Hp → Prop) : Prop :=
  ob (vLenSl a0) fun v7x1 =>
  ob (vInt .sub a1 v7x1) fun v8x2 =>
  ob (vInt .lss v8x2 (.int .i64 0)) fun v10x3 =>
  cnd v10x3
    (K (.int .i64 (-1)) H)
    (K v8x2 H)
def O.laws_szInt64S : Nat → Nat × List Nat := fun i => (0, [])
theorem R.laws_szInt64S {a0 a1 : Value} {H : Hp} {K : Value → Hp → Prop} (h : F.laws_szInt64S a0 a1 H K) : HT prg I.laws_szInt64S [a0, a1].toArray H K :=
  HT_of_fev O.laws_szInt64S mixed Try.func131 (by kernel_rfl) (Eq.mpr (by kernel_rfl : fev prg O.laws_szInt64S Try.f131 [a0, a1] H K = F.laws_szInt64S a0 a1 H K) h)

/-! loop.example/g01381/laws.szRule: function 54 -/
def F.laws_szRule (a0 a1 : Value) (H : Hp) (K : Value → Hp → Prop) : Prop :=
  nw (a0 : Value).cells 65 H fun v2x1 H2 =>
  ob (vFa 2 v2x1) fun v5x3 =>
  ob (vLoad v5x3 H2) fun v6x4 =>
  HT prg I.laws_szInt64S [v6x4, a1].toArray H2 fun v8x5 H6 =>
  ob (vInt .lss v8x5 (.int .i64 0)) fun v10x7 =>
  cnd v10x7
    (K (.int .i64 (-1)) H6)
    (K v8x5 H6)
def O.laws_szRule : Nat → Nat × List Nat := fun i => (0, [])
theorem R.laws_szRule {a0 a1 : Value} {H : Hp} {K : Value → Hp → Prop} (h : F.laws_szRule a0 a1 H K) : HT prg I.laws_szRule [a0, a1].toArray H K :=
  HT_of_fev O.laws_szRule mixed Try.func54 (by kernel_rfl) (Eq.mpr (by kernel_rfl : fev prg O.laws_szRule Try.f54 [a0, a1] H K = F.laws_szRule a0 a1 H K) h)

/-! loop.example/g01381/spec.FarAhead: function 55 -/
def F.spec_FarAhead (a0 a1 a2 : Value) (H : Hp) (K : Value → Hp → Prop) : Prop :=
  nw (a0 : Value).cells 43 H fun v3x1 H2 =>
  HT prg I.spec_l02Is [v3x1].toArray H2 fun v12x3 H4 =>
  ob (vUn .not v12x3) fun v13x5 =>
  gop v13x5 false (fun K6 => K6 a1 H4) H4 fun v15x7 H8 =>
  gop v13x5 false (fun K9 => ob (vFa 0 v3x1) fun u => K9 u H8) H8 fun v16x10 H11 =>
  gop v13x5 false (fun K12 => ob (vLoad v16x10 H11) fun u => K12 u H11) H11 fun v17x13 H14 =>
  gop v13x5 false (fun K15 => HT prg I.spec_l02Ring [v15x7, v17x13].toArray H14 K15) H14 fun v18x16 H17 =>
  gop v13x5 false (fun K18 => ob (vUn .not v18x16) fun u => K18 u H17) H17 fun v19x19 H20 =>
  ob (vPick v13x5 (.bool true) v19x19) fun v20x21 =>
  gop v20x21 false (fun K22 => K22 a1 H20) H20 fun v22x23 H24 =>
  gop v20x21 false (fun K25 => ob (vLenSl v22x23) fun u => K25 u H24) H24 fun v23x26 H27 =>
  gop v20x21 false (fun K28 => HT prg I.spec_l03Wide [v3x1].toArray H27 K28) H27 fun v24x29 H30 =>
  gop v20x21 false (fun K31 => ob (vInt .lss v23x26 v24x29) fun u => K31 u H30) H30 fun v25x32 H33 =>
  ob (vPick v20x21 (.bool true) v25x32) fun v26x34 =>
  gop v26x34 false (fun K35 => K35 a2 H33) H33 fun v28x36 H37 =>
  gop v26x34 false (fun K38 => HT prg I.spec_l00In [v28x36, (.int .i64 0), (.int .i64 1000000000000)].toArray H37 K38) H37 fun v29x39 H40 =>
  gop v26x34 false (fun K41 => ob (vUn .not v29x39) fun u => K41 u H40) H40 fun v30x42 H43 =>
  ob (vPick v26x34 (.bool true) v30x42) fun v31x44 =>
  cnd v31x44
    (K (.tuple #[(.slice none 0 0), (.bool false)]) H43)
    (HT prg I.spec_l03Terms [v3x1].toArray H43 fun v33x45 H46 =>
  ob (vExt v33x45 0) fun v34x47 =>
  ob (vExt v33x45 1) fun v35x48 =>
  ob (vUn .not v35x48) fun v37x49 =>
  cnd v37x49
    (K (.tuple #[(.slice none 0 0), (.bool false)]) H46)
    (bS 1 0 #[(.int .i64 0)] 2 [] H46 fun v38x50 H51 =>
  apd 1 8 #[(.int .i64 0)] 2 v38x50 a1 H51 fun v40x52 H53 =>
  ob (vLenSl a1) fun v43x54 =>
  HT prg I.spec_l03Once [v3x1, v34x47, v43x54].toArray H53 fun v44x55 H56 =>
  jn (fun σ57 H57 =>
    K (.tuple #[(σ57 10), (.bool true)]) H57) fun J57 =>
  lpE (fun Q58 σ58 H58 =>
    ob (vInt .gtr (σ58 2) (.int .i64 0)) fun v46x59 =>
    cnd v46x59
      (ob (vInt .rem (σ58 2) (.int .i64 2)) fun v50x60 =>
    ob (vInt .eql v50x60 (.int .i64 1)) fun v51x61 =>
    cnd v51x61
      (ob (vFa 0 (σ58 3)) fun v54x62 =>
      ob (vLoad v54x62 H58) fun v55x63 =>
      HT prg I.spec_l03Around [(σ58 10), (σ58 11), v55x63].toArray H58 fun v56x64 H65 =>
      ob (vFa 0 (σ58 3)) fun v59x66 =>
    ob (vLoad v59x66 H65) fun v60x67 =>
    HT prg I.spec_l03Around [(σ58 11), (σ58 11), v60x67].toArray H65 fun v61x68 H69 =>
    ob (vInt .quo (σ58 2) (.int .i64 2)) fun v48x70 =>
    Q58 .normal (up (up (up (up (up (up (up (up (up (up (up (up (up (up (up (up (up (up (up (up σ58 45 (σ58 2)) 46 v46x59) 49 (σ58 2)) 50 v50x60) 51 v51x61) 52 (σ58 10)) 53 (σ58 11)) 54 v54x62) 55 v55x63) 56 v56x64) 10 v56x64) 57 (σ58 11)) 58 (σ58 11)) 59 v59x66) 60 v60x67) 61 v61x68) 11 v61x68) 47 (σ58 2)) 48 v48x70) 2 v48x70) H69)
      (ob (vFa 0 (σ58 3)) fun v59x71 =>
    ob (vLoad v59x71 H58) fun v60x72 =>
    HT prg I.spec_l03Around [(σ58 11), (σ58 11), v60x72].toArray H58 fun v61x73 H74 =>
    ob (vInt .quo (σ58 2) (.int .i64 2)) fun v48x75 =>
    Q58 .normal (up (up (up (up (up (up (up (up (up (up (up (up (up (up σ58 45 (σ58 2)) 46 v46x59) 49 (σ58 2)) 50 v50x60) 51 v51x61) 57 (σ58 11)) 58 (σ58 11)) 59 v59x71) 60 v60x72) 61 v61x73) 11 v61x73) 47 (σ58 2)) 48 v48x75) 2 v48x75) H74))
      (Q58 (.exit 0) (up (up σ58 45 (σ58 2)) 46 v46x59) H58)) (blkQ 0 (thenQ J57 (retQ prg [(.tmp 6), (.tmp 7)] K))) (up (up (up (up (up (up (up (up (up (up (up (up (up (up (up (up (up (up (up (up (up (up (up (up (up (up (up (up (up (up (up (up (up (up (up (up (up (up (up (up (S0 [a0, a1, a2]) 3 v3x1) 6 (.slice none 0 0)) 7 (.bool false)) 12 v12x3) 13 v13x5) 14 v13x5) 15 v15x7) 16 v16x10) 17 v17x13) 18 v18x16) 19 v19x19) 20 v20x21) 21 v20x21) 22 v22x23) 23 v23x26) 24 v24x29) 25 v25x32) 26 v26x34) 27 v26x34) 28 v28x36) 29 v29x39) 30 v30x42) 31 v31x44) 33 v33x45) 32 v33x45) 34 v34x47) 35 v35x48) 8 v34x47) 9 v35x48) 36 v35x48) 37 v37x49) 38 v38x50) 39 a1) 40 v40x52) 10 v40x52) 41 v34x47) 42 a1) 43 v43x54) 44 v44x55) 11 v44x55) H56))
def O.spec_FarAhead : Nat → Nat × List Nat := fun i => (0, [])
theorem R.spec_FarAhead {a0 a1 a2 : Value} {H : Hp} {K : Value → Hp → Prop} (h : F.spec_FarAhead a0 a1 a2 H K) : HT prg I.spec_FarAhead [a0, a1, a2].toArray H K :=
  HT_of_fev O.spec_FarAhead mixed Try.func55 (by kernel_rfl) (Eq.mpr (by kernel_rfl : fev prg O.spec_FarAhead Try.f55 [a0, a1, a2] H K = F.spec_FarAhead a0 a1 a2 H K) h)

/-! loop.example/g01381/laws.toRule: function 56 -/
def F.laws_toRule (a0 : Value) (H : Hp) (K : Value → Hp → Prop) : Prop :=
  nw (a0 : Value).cells 65 H fun v1x1 H2 =>
  nw #[(.int .i64 0), (.int .i64 0), (.slice none 0 0)] 43 H2 fun v2x3 H4 =>
  nw #[(.int .i64 0), (.int .i64 0), (.slice none 0 0)] 43 H4 fun v3x5 H6 =>
  ob (vFa 0 v1x1) fun v4x7 =>
  ob (vLoad v4x7 H6) fun v5x8 =>
  ob (vFa 0 v3x5) fun v6x9 =>
  st 1 v6x9 v5x8 H6 fun H10 =>
  ob (vFa 1 v1x1) fun v7x11 =>
  ob (vLoad v7x11 H10) fun v8x12 =>
  ob (vFa 1 v3x5) fun v9x13 =>
  st 1 v9x13 v8x12 H10 fun H14 =>
  ob (vFa 2 v1x1) fun v10x15 =>
  ob (vLoad v10x15 H14) fun v11x16 =>
  HT prg I.laws_toInt64S [v11x16].toArray H14 fun v12x17 H18 =>
  ob (vFa 2 v3x5) fun v13x19 =>
  st 1 v13x19 v12x17 H18 fun H20 =>
  ob (vLoadN 3 v3x5 H20) fun v14x21 =>
  st 3 v2x3 v14x21 H20 fun H22 =>
  ob (vLoadN 3 v2x3 H22) fun u23 => K u23 H22
def O.laws_toRule : Nat → Nat × List Nat := fun i => (0, [])
theorem R.laws_toRule {a0 : Value} {H : Hp} {K : Value → Hp → Prop} (h : F.laws_toRule a0 H K) : HT prg I.laws_toRule [a0].toArray H K :=
  HT_of_fev O.laws_toRule mixed Try.func56 (by kernel_rfl) (Eq.mpr (by kernel_rfl : fev prg O.laws_toRule Try.f56 [a0] H K = F.laws_toRule a0 H K) h)

/-! loop.example/g01381/laws.eqRule: function 57 -/
def F.laws_eqRule (a0 a1 : Value) (H : Hp) (K : Value → Hp → Prop) : Prop :=
  nw (a0 : Value).cells 43 H fun v2x1 H2 =>
  nw (a1 : Value).cells 43 H2 fun v3x3 H4 =>
  ob (vFa 0 v2x1) fun v5x5 =>
  ob (vLoad v5x5 H4) fun v6x6 =>
  ob (vFa 0 v3x3) fun v7x7 =>
  ob (vLoad v7x7 H4) fun v8x8 =>
  ob (vInt .neq v6x6 v8x8) fun v9x9 =>
  cnd v9x9
    (K (.bool false) H4)
    (ob (vFa 1 v2x1) fun v10x10 =>
  ob (vLoad v10x10 H4) fun v11x11 =>
  ob (vFa 1 v3x3) fun v12x12 =>
  ob (vLoad v12x12 H4) fun v13x13 =>
  ob (vInt .neq v11x11 v13x13) fun v14x14 =>
  cnd v14x14
    (K (.bool false) H4)
    (ob (vFa 2 v2x1) fun v15x15 =>
  ob (vLoad v15x15 H4) fun v16x16 =>
  ob (vFa 2 v3x3) fun v17x17 =>
  ob (vLoad v17x17 H4) fun v18x18 =>
  HT prg I.laws_eqInt64S [v16x16, v18x18].toArray H4 fun v19x19 H20 =>
  ob (vUn .not v19x19) fun v20x21 =>
  cnd v20x21
    (K (.bool false) H20)
    (K (.bool true) H20)))
def O.laws_eqRule : Nat → Nat × List Nat := fun i => (0, [])
theorem R.laws_eqRule {a0 a1 : Value} {H : Hp} {K : Value → Hp → Prop} (h : F.laws_eqRule a0 a1 H K) : HT prg I.laws_eqRule [a0, a1].toArray H K :=
  HT_of_fev O.laws_eqRule mixed Try.func57 (by kernel_rfl) (Eq.mpr (by kernel_rfl : fev prg O.laws_eqRule Try.f57 [a0, a1] H K = F.laws_eqRule a0 a1 H K) h)

/-! loop.example/g01381/laws.markRule: function 58 -/
def F.laws_markRule (a0 a1 : Value) (H : Hp) (K : Value → Hp → Prop) : Prop :=
  nw (a0 : Value).cells 43 H fun v2x1 H2 =>
  ob (vFa 2 v2x1) fun v5x3 =>
  ob (vLoad v5x3 H2) fun v6x4 =>
  HT prg I.laws_markInt64S [v6x4, a1].toArray H2 fun v8x5 H6 =>
  K v8x5 H6
def O.laws_markRule : Nat → Nat × List Nat := fun i => (0, [])
theorem R.laws_markRule {a0 a1 : Value} {H : Hp} {K : Value → Hp → Prop} (h : F.laws_markRule a0 a1 H K) : HT prg I.laws_markRule [a0, a1].toArray H K :=
  HT_of_fev O.laws_markRule mixed Try.func58 (by kernel_rfl) (Eq.mpr (by kernel_rfl : fev prg O.laws_markRule Try.f58 [a0, a1] H K = F.laws_markRule a0 a1 H K) h)

/-! loop.example/g01381/laws.FnExactFarAhead: function 8 -/
def F.laws_FnExactFarAhead (a0 a1 a2 : Value) (H : Hp) (K : Value → Hp → Prop) : Prop :=
  nw (a0 : Value).cells 65 H fun v3x1 H2 =>
  ob (vLenSl a1) fun v20x3 =>
  ob (vInt .gtr v20x3 (.int .i64 1048576)) fun v21x4 =>
  cnd v21x4
    (K (.bool true) H2)
    (ob (vLoadN 3 v3x1 H2) fun v22x5 =>
  HT prg I.laws_szRule [v22x5, (.int .i64 1048576)].toArray H2 fun v24x6 H7 =>
  ob (vInt .lss v24x6 (.int .i64 0)) fun v26x8 =>
  cnd v26x8
    (K (.bool true) H7)
    (ob (vLoadN 3 v3x1 H7) fun v28x9 =>
  HT prg I.laws_toRule [v28x9].toArray H7 fun v29x10 H11 =>
  HT prg I.laws_toInt64S [a1].toArray H11 fun v31x12 H13 =>
  HT prg I.spec_FarAhead [v29x10, v31x12, a2].toArray H13 fun v33x14 H15 =>
  ob (vExt v33x14 0) fun v34x16 =>
  ob (vExt v33x14 1) fun v35x17 =>
  ob (vLoadN 3 v3x1 H15) fun v36x18 =>
  HT prg I.laws_toRule [v36x18].toArray H15 fun v37x19 H20 =>
  nw #[(.int .i64 0), (.int .i64 0), (.slice none 0 0)] 43 H20 fun v10x21 H22 =>
  st 3 v10x21 v37x19 H22 fun H23 =>
  HT prg I.laws_toInt64S [a1].toArray H23 fun v39x24 H25 =>
  ob (vLoadN 3 v10x21 H25) fun v41x26 =>
  HT prg I.impl_FarAhead [v41x26, v39x24, a2].toArray H25 fun v44x27 H28 =>
  ob (vExt v44x27 0) fun v45x29 =>
  ob (vExt v44x27 1) fun v46x30 =>
  HT prg I.laws_eqInt64S [v45x29, v34x16].toArray H28 fun v49x31 H32 =>
  ob (vUn .not v49x31) fun v50x33 =>
  gop v50x33 false (fun K34 => K34 v46x30 H32) H32 fun v52x35 H36 =>
  gop v50x33 false (fun K37 => K37 v35x17 H36) H36 fun v53x38 H39 =>
  gop v50x33 false (fun K40 => ob (vBool .neq v52x35 v53x38) fun u => K40 u H39) H39 fun v54x41 H42 =>
  ob (vPick v50x33 (.bool true) v54x41) fun v55x43 =>
  cnd v55x43
    (K (.bool false) H42)
    (ob (vLoadN 3 v10x21 H42) fun v56x44 =>
  ob (vLoadN 3 v3x1 H42) fun v57x45 =>
  HT prg I.laws_toRule [v57x45].toArray H42 fun v58x46 H47 =>
  Le H42 H47 ∧ (HT prg I.laws_eqRule [v56x44, v58x46].toArray H47 fun v59x48 H49 =>
  Le H47 H49 ∧ (ob (vUn .not v59x48) fun v60x50 =>
  cnd v60x50
    (K (.bool false) H49)
    (HT prg I.laws_toInt64S [a1].toArray H49 fun v63x51 H52 =>
  HT prg I.laws_eqInt64S [v39x24, v63x51].toArray H52 fun v64x53 H54 =>
  ob (vUn .not v64x53) fun v65x55 =>
  cnd v65x55
    (K (.bool false) H54)
    (ob (vLoadN 3 v10x21 H54) fun v66x56 =>
  HT prg I.laws_markRule [v66x56, (.int .i64 1)].toArray H54 fun v68x57 H58 =>
  HT prg I.laws_markInt64S [v39x24, v68x57].toArray H58 fun v71x59 H60 =>
  ob (vInt .lss v71x59 (.int .i64 0)) fun v73x61 =>
  gop v73x61 false (fun K62 => K62 v45x29 H60) H60 fun v75x63 H64 =>
  gop v73x61 false (fun K65 => K65 v34x16 H64) H64 fun v76x66 H67 =>
  gop v73x61 false (fun K68 => HT prg I.laws_eqInt64S [v75x63, v76x66].toArray H67 K68) H67 fun v77x69 H70 =>
  gop v73x61 false (fun K71 => ob (vUn .not v77x69) fun u => K71 u H70) H70 fun v78x72 H73 =>
  ob (vPick v73x61 (.bool true) v78x72) fun v79x74 =>
  gop v79x74 false (fun K75 => K75 v46x30 H73) H73 fun v81x76 H77 =>
  gop v79x74 false (fun K78 => K78 v35x17 H77) H77 fun v82x79 H80 =>
  gop v79x74 false (fun K81 => ob (vBool .neq v81x76 v82x79) fun u => K81 u H80) H80 fun v83x82 H83 =>
  ob (vPick v79x74 (.bool true) v83x82) fun v84x84 =>
  cnd v84x84
    (K (.bool false) H83)
    (HT prg I.laws_markInt64S [v45x29, (.int .i64 1)].toArray H83 fun v87x85 H86 =>
  HT prg I.laws_heldInt64S [v45x29, (.int .i64 1)].toArray H86 fun v90x87 H88 =>
  ob (vInt .lss v90x87 (.int .i64 0)) fun v92x89 =>
  cnd v92x89
    (K (.bool false) H88)
    (ob (vInt .neq v90x87 v87x85) fun v95x90 =>
  cnd v95x90
    (K (.bool false) H88)
    (ob (vLoadN 3 v3x1 H88) fun v97x91 =>
  HT prg I.laws_toRule [v97x91].toArray H88 fun v98x92 H93 =>
  HT prg I.laws_toInt64S [a1].toArray H93 fun v100x94 H95 =>
  HT prg I.impl_FarAhead [v98x92, v100x94, a2].toArray H95 fun v102x96 H97 =>
  ob (vExt v102x96 0) fun v103x98 =>
  ob (vExt v102x96 1) fun v104x99 =>
  HT prg I.laws_eqInt64S [v103x98, v34x16].toArray H97 fun v107x100 H101 =>
  ob (vUn .not v107x100) fun v108x102 =>
  gop v108x102 false (fun K103 => K103 v104x99 H101) H101 fun v110x104 H105 =>
  gop v108x102 false (fun K106 => K106 v35x17 H105) H105 fun v111x107 H108 =>
  gop v108x102 false (fun K109 => ob (vBool .neq v110x104 v111x107) fun u => K109 u H108) H108 fun v112x110 H111 =>
  ob (vPick v108x102 (.bool true) v112x110) fun v113x112 =>
  cnd v113x112
    (K (.bool false) H111)
    (HT prg I.laws_heldInt64S [v45x29, (.int .i64 1)].toArray H111 fun v116x113 H114 =>
  ob (vInt .lss v116x113 (.int .i64 0)) fun v118x115 =>
  cnd v118x115
    (K (.bool false) H114)
    (ob (vInt .neq v116x113 v87x85) fun v121x116 =>
  cnd v121x116
    (K (.bool false) H114)
    (K (.bool true) H114)))))))))))))
def O.laws_FnExactFarAhead : Nat → Nat × List Nat := fun i => bif Nat.beq i 13 then (0, [0, 1, 2, 3, 4]) else (0, [])
theorem R.laws_FnExactFarAhead {a0 a1 a2 : Value} {H : Hp} {K : Value → Hp → Prop} (h : F.laws_FnExactFarAhead a0 a1 a2 H K) : HT prg I.laws_FnExactFarAhead [a0, a1, a2].toArray H K :=
  HT_of_fev O.laws_FnExactFarAhead mixed Try.func8 (by kernel_rfl) (Eq.mpr (by kernel_rfl : fev prg O.laws_FnExactFarAhead Try.f8 [a0, a1, a2] H K = F.laws_FnExactFarAhead a0 a1 a2 H K) h)

/-! loop.example/g01381/spec.l07DrawTwo: function 133 -/
def F.spec_l07DrawTwo (a0 a1 : Value) (H : Hp) (K : Value → Hp → Prop) : Prop :=
  nw #[(.int .i64 0), (.int .i64 0), (.slice none 0 0)] 43 H fun v4x1 H2 =>
  ob (vBuild [(0, 1), (1, 1), (2, 1)] (.agg #[(.int .i64 0), (.int .i64 0), (.slice none 0 0)]) [(0, (.int .i64 2)), (1, a1)]) fun v8x3 =>
  nw #[(.int .i64 0), (.int .i64 0), (.slice none 0 0)] 43 H2 fun v5x4 H5 =>
  st 3 v5x4 v8x3 H5 fun H6 =>
  jn (fun σ7 H7 =>
    ob (vLoadN 3 (σ7 5) H7) fun v24x8 =>
    st 3 (σ7 4) v24x8 H7 fun H9 =>
    ob (vLoadN 3 (σ7 4) H9) fun u10 => K u10 H9) fun J7 =>
  ob (vInt .mul (.int .i64 2) a1) fun v10x11 =>
  ob (vInt .add v10x11 (.int .i64 1)) fun v11x12 =>
  HT prg I.spec_l03Power [(.int .i64 2), v11x12].toArray H6 fun v12x13 H14 =>
  lpE (fun Q15 σ15 H15 =>
    ob (vInt .gtr (σ15 6) (.int .i64 0)) fun v14x16 =>
    cnd v14x16
      (ob (vFa 2 (σ15 5)) fun v17x17 =>
    ob (vLoad v17x17 H15) fun v18x18 =>
    HT prg I.pspec_l00Src_pick [(σ15 0), (.int .i64 2)].toArray H15 fun v20x19 H20 =>
    Le H15 H20 ∧ (bS 1 1 #[(.int .i64 0)] 2 [(0, v20x19)] H20 fun v21x21 H22 =>
    apd 1 8 #[(.int .i64 0)] 2 v18x18 v21x21 H22 fun v22x23 H24 =>
    ob (vFa 2 (σ15 5)) fun v23x25 =>
    st 1 v23x25 v22x23 H24 fun H26 =>
    ob (vInt .sub (σ15 6) (.int .i64 1)) fun v16x27 =>
    Q15 .normal (up (up (up (up (up (up (up (up (up (up (up (up σ15 13 (σ15 6)) 14 v14x16) 17 v17x17) 18 v18x18) 19 (σ15 0)) 20 v20x19) 21 v21x21) 22 v22x23) 23 v23x25) 15 (σ15 6)) 16 v16x27) 6 v16x27) H26))
      (Q15 (.exit 0) (up (up σ15 13 (σ15 6)) 14 v14x16) H15)) (blkQ 0 (thenQ J7 (retQ prg [(.cell 4 43)] K))) (up (up (up (up (up (up (up (up (up (S0 [a0, a1]) 4 v4x1) 7 a1) 8 v8x3) 5 v5x4) 9 a1) 10 v10x11) 11 v11x12) 12 v12x13) 6 v12x13) H14
def O.spec_l07DrawTwo : Nat → Nat × List Nat := fun i => bif Nat.beq i 5 then (0, [0, 1, 2, 3, 4, 5, 6, 7]) else (0, [])
theorem R.spec_l07DrawTwo {a0 a1 : Value} {H : Hp} {K : Value → Hp → Prop} (h : F.spec_l07DrawTwo a0 a1 H K) : HT prg I.spec_l07DrawTwo [a0, a1].toArray H K :=
  HT_of_fev O.spec_l07DrawTwo mixed Try.func133 (by kernel_rfl) (Eq.mpr (by kernel_rfl : fev prg O.spec_l07DrawTwo Try.f133 [a0, a1] H K = F.spec_l07DrawTwo a0 a1 H K) h)

/-! loop.example/g01381/spec.l07DrawTwo: function 133 -/
def F.spec_l07DrawTwoX (a0 a1 : Value) (H : Hp) (K : Value → Hp → Prop) : Prop :=
  nw #[(.int .i64 0), (.int .i64 0), (.slice none 0 0)] 43 H fun v4x1 H2 =>
  ob (vBuild [(0, 1), (1, 1), (2, 1)] (.agg #[(.int .i64 0), (.int .i64 0), (.slice none 0 0)]) [(0, (.int .i64 2)), (1, a1)]) fun v8x3 =>
  nw #[(.int .i64 0), (.int .i64 0), (.slice none 0 0)] 43 H2 fun v5x4 H5 =>
  st 3 v5x4 v8x3 H5 fun H6 =>
  jn (fun σ7 H7 =>
    ob (vLoadN 3 (σ7 5) H7) fun v24x8 =>
    st 3 (σ7 4) v24x8 H7 fun H9 =>
    ob (vLoadN 3 (σ7 4) H9) fun u10 => K u10 H9) fun J7 =>
  ob (vInt .mul (.int .i64 2) a1) fun v10x11 =>
  ob (vInt .add v10x11 (.int .i64 1)) fun v11x12 =>
  HT prg I.spec_l03Power [(.int .i64 2), v11x12].toArray H6 fun v12x13 H14 =>
  lpE (fun Q15 σ15 H15 =>
    ob (vInt .gtr (σ15 6) (.int .i64 0)) fun v14x16 =>
    cnd v14x16
      ((ob (vFa 2 (σ15 5)) fun v17x17 =>
    ob (vLoad v17x17 H15) fun v18x18 =>
    HT prg I.pspec_l00Src_pick [(σ15 0), (.int .i64 2)].toArray H15 fun v20x19 H20 =>
    bS 1 1 #[(.int .i64 0)] 2 [(0, v20x19)] H20 fun v21x21 H22 =>
    apd 1 8 #[(.int .i64 0)] 2 v18x18 v21x21 H22 fun v22x23 H24 =>
    ob (vFa 2 (σ15 5)) fun v23x25 =>
    st 1 v23x25 v22x23 H24 fun H26 =>
    ob (vInt .sub (σ15 6) (.int .i64 1)) fun v16x27 =>
    Q15 .normal (up (up (up (up (up (up (up (up (up (up (up (up σ15 13 (σ15 6)) 14 v14x16) 17 v17x17) 18 v18x18) 19 (σ15 0)) 20 v20x19) 21 v21x21) 22 v22x23) 23 v23x25) 15 (σ15 6)) 16 v16x27) 6 v16x27) H26) ∧ (ob (vFa 2 (σ15 5)) fun v17x28 =>
    HT prg I.pspec_l00Src_pick [(σ15 0), (.int .i64 2)].toArray H15 fun v20x29 H30 =>
    ob (vLoad v17x28 H30) fun v18x31 =>
    bS 1 1 #[(.int .i64 0)] 2 [(0, v20x29)] H30 fun v21x32 H33 =>
    apd 1 8 #[(.int .i64 0)] 2 v18x31 v21x32 H33 fun v22x34 H35 =>
    ob (vFa 2 (σ15 5)) fun v23x36 =>
    st 1 v23x36 v22x34 H35 fun H37 =>
    ob (vInt .sub (σ15 6) (.int .i64 1)) fun v16x38 =>
    Q15 .normal (up (up (up (up (up (up (up (up (up (up (up (up σ15 13 (σ15 6)) 14 v14x16) 17 v17x28) 19 (σ15 0)) 20 v20x29) 18 v18x31) 21 v21x32) 22 v22x34) 23 v23x36) 15 (σ15 6)) 16 v16x38) 6 v16x38) H37))
      (Q15 (.exit 0) (up (up σ15 13 (σ15 6)) 14 v14x16) H15)) (blkQ 0 (thenQ J7 (retQ prg [(.cell 4 43)] K))) (up (up (up (up (up (up (up (up (up (S0 [a0, a1]) 4 v4x1) 7 a1) 8 v8x3) 5 v5x4) 9 a1) 10 v10x11) 11 v11x12) 12 v12x13) 6 v12x13) H14
def O.spec_l07DrawTwoX : Nat → Nat × List Nat := fun i => bif Nat.beq i 5 then (2, [1001, 1003, 0, 1, 2, 3, 4, 5, 6, 7, 0, 2, 3, 1, 4, 5, 6, 7]) else (0, [])
theorem R.spec_l07DrawTwoX {a0 a1 : Value} {H : Hp} {K : Value → Hp → Prop} (h : F.spec_l07DrawTwoX a0 a1 H K) : HT prg I.spec_l07DrawTwo [a0, a1].toArray H K :=
  HT_of_fev O.spec_l07DrawTwoX mixed Try.func133 (by kernel_rfl) (Eq.mpr (by kernel_rfl : fev prg O.spec_l07DrawTwoX Try.f133 [a0, a1] H K = F.spec_l07DrawTwoX a0 a1 H K) h)

/-! loop.example/g01381/spec.B10Rule: function 59 -/
def F.spec_B10Rule (a0 a1 : Value) (H : Hp) (K : Value → Hp → Prop) : Prop :=
  nw #[(.int .i64 0), (.int .i64 0), (.slice none 0 0)] 43 H fun v4x1 H2 =>
  HT prg I.spec_l00From [a0].toArray H2 fun v7x3 H4 =>
  HT prg I.spec_l07DrawTwo [v7x3, a1].toArray H4 fun v10x5 H6 =>
  st 3 v4x1 v10x5 H6 fun H7 =>
  ob (vLoadN 3 v4x1 H7) fun u8 => K u8 H7
def O.spec_B10Rule : Nat → Nat × List Nat := fun i => (0, [])
theorem R.spec_B10Rule {a0 a1 : Value} {H : Hp} {K : Value → Hp → Prop} (h : F.spec_B10Rule a0 a1 H K) : HT prg I.spec_B10Rule [a0, a1].toArray H K :=
  HT_of_fev O.spec_B10Rule mixed Try.func59 (by kernel_rfl) (Eq.mpr (by kernel_rfl : fev prg O.spec_B10Rule Try.f59 [a0, a1] H K = F.spec_B10Rule a0 a1 H K) h)

/-! slices.Index[[]int64,int64]: function 203 -/
def F.slices_Index_int64Zint64 (a0 a1 : Value) (H : Hp) (K : Value → Hp → Prop) : Prop :=
  jn (fun σ1 H1 =>
    K (.int .i64 (-1)) H1) fun J1 =>
  ob (vLenSl a0) fun v7x2 =>
  lpE (fun Q3 σ3 H3 =>
    ob (vInt .lss (σ3 8) (σ3 7)) fun v9x4 =>
    cnd v9x4
      (ob (vIx 1 (σ3 0) (σ3 8)) fun v14x5 =>
    ob (vLoad v14x5 H3) fun v15x6 =>
    ob (vInt .eql (σ3 1) v15x6) fun v16x7 =>
    cnd v16x7
      (Q3 .ret (up (up (up (up (up (up (up (up (up (up (up σ3 9 v9x4) 10 (σ3 8)) 5 (σ3 8)) 11 (σ3 1)) 12 (σ3 0)) 13 (σ3 8)) 14 v14x5) 15 v15x6) 16 v16x7) 17 (σ3 8)) 4 (σ3 8)) H3)
      (ob (vInt .add (σ3 8) (.int .i64 1)) fun v18x8 =>
    Q3 .normal (up (up (up (up (up (up (up (up (up (up (up σ3 9 v9x4) 10 (σ3 8)) 5 (σ3 8)) 11 (σ3 1)) 12 (σ3 0)) 13 (σ3 8)) 14 v14x5) 15 v15x6) 16 v16x7) 18 v18x8) 8 v18x8) H3))
      (Q3 (.exit 0) (up σ3 9 v9x4) H3)) (blkQ 0 (thenQ J1 (retQ prg [(.tmp 4)] K))) (up (up (up (up (S0 [a0, a1]) 4 (.int .i64 0)) 6 a0) 7 v7x2) 8 (.int .i64 0)) H
def O.slices_Index_int64Zint64 : Nat → Nat × List Nat := fun i => (0, [])
theorem R.slices_Index_int64Zint64 {a0 a1 : Value} {H : Hp} {K : Value → Hp → Prop} (h : F.slices_Index_int64Zint64 a0 a1 H K) : HT prg I.slices_Index_int64Zint64 [a0, a1].toArray H K :=
  HT_of_fev O.slices_Index_int64Zint64 mixed Try.func203 (by kernel_rfl) (Eq.mpr (by kernel_rfl : fev prg O.slices_Index_int64Zint64 Try.f203 [a0, a1] H K = F.slices_Index_int64Zint64 a0 a1 H K) h)

/-! slices.Contains[[]int64,int64]: function 183 -/
def F.slices_Contains_int64Zint64 (a0 a1 : Value) (H : Hp) (K : Value → Hp → Prop) : Prop :=
  HT prg I.slices_Index_int64Zint64 [a0, a1].toArray H fun v7x1 H2 =>
  ob (vInt .geq v7x1 (.int .i64 0)) fun v8x3 =>
  K v8x3 H2
def O.slices_Contains_int64Zint64 : Nat → Nat × List Nat := fun i => (0, [])
theorem R.slices_Contains_int64Zint64 {a0 a1 : Value} {H : Hp} {K : Value → Hp → Prop} (h : F.slices_Contains_int64Zint64 a0 a1 H K) : HT prg I.slices_Contains_int64Zint64 [a0, a1].toArray H K :=
  HT_of_fev O.slices_Contains_int64Zint64 mixed Try.func183 (by kernel_rfl) (Eq.mpr (by kernel_rfl : fev prg O.slices_Contains_int64Zint64 Try.f183 [a0, a1] H K = F.slices_Contains_int64Zint64 a0 a1 H K) h)

/-! (loop.example/g01381/impl.Rule).hasTwice: function 134 -/
def F.impl_Rule_hasTwice (a0 : Value) (H : Hp) (K : Value → Hp → Prop) : Prop :=
  nw (a0 : Value).cells 43 H fun v1x1 H2 =>
  jn (fun σ3 H3 =>
    K (.bool false) H3) fun J3 =>
  ob (vFa 2 v1x1) fun v5x4 =>
  ob (vLoad v5x4 H2) fun v6x5 =>
  ob (vLenSl v6x5) fun v7x6 =>
  lpE (fun Q7 σ7 H7 =>
    ob (vInt .lss (σ7 8) (σ7 7)) fun v9x8 =>
    cnd v9x8
      (ob (vIx 1 (σ7 6) (σ7 8)) fun v11x9 =>
    ob (vLoad v11x9 H7) fun v12x10 =>
    ob (vFa 2 (σ7 1)) fun v13x11 =>
    ob (vLoad v13x11 H7) fun v14x12 =>
    ob (vSl3 1 v14x12 none (some (σ7 8)) none) fun v16x13 =>
    HT prg I.slices_Contains_int64Zint64 [v16x13, v12x10].toArray H7 fun v18x14 H15 =>
    cnd v18x14
      (Q7 .ret (up (up (up (up (up (up (up (up (up (up (up (up (up σ7 9 v9x8) 10 (σ7 8)) 11 v11x9) 12 v12x10) 3 (σ7 8)) 4 v12x10) 13 v13x11) 14 v14x12) 15 (σ7 8)) 16 v16x13) 17 v12x10) 18 v18x14) 2 (.bool true)) H15)
      (ob (vInt .add (σ7 8) (.int .i64 1)) fun v19x16 =>
    Q7 .normal (up (up (up (up (up (up (up (up (up (up (up (up (up (up σ7 9 v9x8) 10 (σ7 8)) 11 v11x9) 12 v12x10) 3 (σ7 8)) 4 v12x10) 13 v13x11) 14 v14x12) 15 (σ7 8)) 16 v16x13) 17 v12x10) 18 v18x14) 19 v19x16) 8 v19x16) H15))
      (Q7 (.exit 0) (up σ7 9 v9x8) H7)) (blkQ 0 (thenQ J3 (retQ prg [(.tmp 2)] K))) (up (up (up (up (up (up (S0 [a0]) 1 v1x1) 2 (.bool false)) 5 v5x4) 6 v6x5) 7 v7x6) 8 (.int .i64 0)) H2
def O.impl_Rule_hasTwice : Nat → Nat × List Nat := fun i => (0, [])
theorem R.impl_Rule_hasTwice {a0 : Value} {H : Hp} {K : Value → Hp → Prop} (h : F.impl_Rule_hasTwice a0 H K) : HT prg I.impl_Rule_hasTwice [a0].toArray H K :=
  HT_of_fev O.impl_Rule_hasTwice mixed Try.func134 (by kernel_rfl) (Eq.mpr (by kernel_rfl : fev prg O.impl_Rule_hasTwice Try.f134 [a0] H K = F.impl_Rule_hasTwice a0 H K) h)

/-! (loop.example/g01381/impl.Rule).ends: function 135 -/
def F.impl_Rule_ends (a0 : Value) (H : Hp) (K : Value → Hp → Prop) : Prop :=
  nw (a0 : Value).cells 43 H fun v1x1 H2 =>
  ob (vFa 0 v1x1) fun v3x3 =>
  ob (vLoad v3x3 H2) fun v4x4 =>
  ob (vLoadN 3 v1x1 H2) fun v5x5 =>
  HT prg I.impl_Rule_cells [v5x5].toArray H2 fun v6x6 H7 =>
  Le H2 H7 ∧ (ob (vInt .sub v6x6 (.int .i64 1)) fun v7x8 =>
  HT prg I.impl_raised [v4x4, v7x8].toArray H7 fun v8x9 H10 =>
  Le H7 H10 ∧ (K v8x9 H10))
def O.impl_Rule_ends : Nat → Nat × List Nat := fun i => bif Nat.beq i 1 then (0, [0, 1, 2, 3, 4, 5, 6]) else (0, [])
theorem R.impl_Rule_ends {a0 : Value} {H : Hp} {K : Value → Hp → Prop} (h : F.impl_Rule_ends a0 H K) : HT prg I.impl_Rule_ends [a0].toArray H K :=
  HT_of_fev O.impl_Rule_ends mixed Try.func135 (by kernel_rfl) (Eq.mpr (by kernel_rfl : fev prg O.impl_Rule_ends Try.f135 [a0] H K = F.impl_Rule_ends a0 H K) h)

/-! (loop.example/g01381/impl.Rule).way: function 144 -/
def F.impl_Rule_way (a0 a1 a2 : Value) (H : Hp) (K : Value → Hp → Prop) : Prop :=
  nw (a0 : Value).cells 43 H fun v3x1 H2 =>
  ob (vFa 0 v3x1) fun v10x3 =>
  ob (vLoad v10x3 H2) fun v11x4 =>
  ob (vInt .mul a1 v11x4) fun v12x5 =>
  ob (vInt .add v12x5 a2) fun v14x6 =>
  ob (vLoadN 3 v3x1 H2) fun v16x7 =>
  ob (vFa 2 v3x1) fun v19x8 =>
  ob (vLoad v19x8 H2) fun v20x9 =>
  ob (vIx 1 v20x9 v14x6) fun v22x10 =>
  ob (vLoad v22x10 H2) fun v23x11 =>
  HT prg I.impl_Rule_ends [v16x7].toArray H2 fun v17x12 H13 =>
  Le H2 H13 ∧ (ob (vInt .rem v14x6 v17x12) fun v18x14 =>
  K (.tuple #[v18x14, v23x11]) H13)
def O.impl_Rule_way : Nat → Nat × List Nat := fun i => bif Nat.beq i 2 then (0, [0, 1, 4, 5, 6, 7, 8, 2, 3, 9, 10]) else (0, [])
theorem R.impl_Rule_way {a0 a1 a2 : Value} {H : Hp} {K : Value → Hp → Prop} (h : F.impl_Rule_way a0 a1 a2 H K) : HT prg I.impl_Rule_way [a0, a1, a2].toArray H K :=
  HT_of_fev O.impl_Rule_way mixed Try.func144 (by kernel_rfl) (Eq.mpr (by kernel_rfl : fev prg O.impl_Rule_way Try.f144 [a0, a1, a2] H K = F.impl_Rule_way a0 a1 a2 H K) h)

/-! (loop.example/g01381/impl.Rule).pairWays: function 184 -/
def F.impl_Rule_pairWays (a0 a1 a2 a3 : Value) (H : Hp) (K : Value → Hp → Prop) : Prop :=
  nw (a0 : Value).cells 43 H fun v4x1 H2 =>
  ob (vFa 0 v4x1) fun v14x3 =>
  ob (vLoad v14x3 H2) fun v15x4 =>
  lpE (fun Q5 σ5 H5 =>
    ob (vInt .lss (σ5 16) (σ5 15)) fun v17x6 =>
    cnd v17x6
      (jn (fun σ7 H7 =>
      ob (vInt .add (σ7 16) (.int .i64 1)) fun v46x8 =>
      Q5 .normal (up (up σ7 46 v46x8) 16 v46x8) H7) fun J7 =>
    ob (vLoadN 3 (σ5 4) H5) fun v20x9 =>
    HT prg I.impl_Rule_way [v20x9, (σ5 1), (σ5 16)].toArray H5 fun v23x10 H11 =>
    ob (vExt v23x10 0) fun v24x12 =>
    ob (vExt v23x10 1) fun v25x13 =>
    ob (vFa 0 (σ5 4)) fun v26x14 =>
    ob (vLoad v26x14 H11) fun v27x15 =>
    lpE (fun Q16 σ16 H16 =>
      ob (vInt .lss (σ16 28) (σ16 27)) fun v29x17 =>
      cnd v29x17
        (ob (vLoadN 3 (σ16 4) H16) fun v32x18 =>
      HT prg I.impl_Rule_way [v32x18, (σ16 2), (σ16 28)].toArray H16 fun v35x19 H20 =>
      ob (vExt v35x19 0) fun v36x21 =>
      ob (vExt v35x19 1) fun v37x22 =>
      ob (vInt .eql (σ16 10) v37x22) fun v40x23 =>
      cnd v40x23
        (callV prg (σ16 3) [(σ16 9), v36x21] H20 fun v44x24 H25 =>
        ob (vInt .add (σ16 28) (.int .i64 1)) fun v45x26 =>
      Q16 .normal (up (up (up (up (up (up (up (up (up (up (up (up (up (up (up (up (up (up (up (up (up σ16 29 v29x17) 30 (σ16 28)) 11 (σ16 28)) 32 v32x18) 33 (σ16 2)) 34 (σ16 28)) 35 v35x19) 31 v35x19) 36 v36x21) 37 v37x22) 12 v36x21) 13 v37x22) 38 (σ16 10)) 39 v37x22) 40 v40x23) 41 (σ16 3)) 42 (σ16 9)) 43 v36x21) 44 v44x24) 45 v45x26) 28 v45x26) H25)
        (ob (vInt .add (σ16 28) (.int .i64 1)) fun v45x27 =>
      Q16 .normal (up (up (up (up (up (up (up (up (up (up (up (up (up (up (up (up (up σ16 29 v29x17) 30 (σ16 28)) 11 (σ16 28)) 32 v32x18) 33 (σ16 2)) 34 (σ16 28)) 35 v35x19) 31 v35x19) 36 v36x21) 37 v37x22) 12 v36x21) 13 v37x22) 38 (σ16 10)) 39 v37x22) 40 v40x23) 45 v45x27) 28 v45x27) H20))
        (Q16 (.exit 2) (up σ16 29 v29x17) H16)) (blkQ 2 (blkQ 1 (thenQ J7 Q5))) (up (up (up (up (up (up (up (up (up (up (up (up (up (up (up σ5 17 v17x6) 18 (σ5 16)) 8 (σ5 16)) 20 v20x9) 21 (σ5 1)) 22 (σ5 16)) 23 v23x10) 19 v23x10) 24 v24x12) 25 v25x13) 9 v24x12) 10 v25x13) 26 v26x14) 27 v27x15) 28 (.int .i64 0)) H11)
      (Q5 (.exit 0) (up σ5 17 v17x6) H5)) (blkQ 0 (retQ prg [] K)) (up (up (up (up (S0 [a0, a1, a2, a3]) 4 v4x1) 14 v14x3) 15 v15x4) 16 (.int .i64 0)) H2
def O.impl_Rule_pairWays : Nat → Nat × List Nat := fun i => (0, [])
theorem R.impl_Rule_pairWays {a0 a1 a2 a3 : Value} {H : Hp} {K : Value → Hp → Prop} (h : F.impl_Rule_pairWays a0 a1 a2 a3 H K) : HT prg I.impl_Rule_pairWays [a0, a1, a2, a3].toArray H K :=
  HT_of_fev O.impl_Rule_pairWays mixed Try.func184 (by kernel_rfl) (Eq.mpr (by kernel_rfl : fev prg O.impl_Rule_pairWays Try.f184 [a0, a1, a2, a3] H K = F.impl_Rule_pairWays a0 a1 a2 a3 H K) h)

/-! (loop.example/g01381/impl.Rule).pairGraph$1: function 185 -/
def F.impl_Rule_pairGraph_1 (a0 a1 a2 a3 a4 a5 a6 : Value) (H : Hp) (K : Value → Hp → Prop) : Prop :=
  ob (vLoad a2 H) fun v9x1 =>
  ob (vLoad a3 H) fun v10x2 =>
  ob (vLoad a4 H) fun v11x3 =>
  ob (vInt .mul v10x2 v11x3) fun v12x4 =>
  ob (vLoad a5 H) fun v13x5 =>
  ob (vInt .add v12x4 v13x5) fun v14x6 =>
  ob (vLoad a2 H) fun v15x7 =>
  ob (vLoad a3 H) fun v16x8 =>
  ob (vLoad a4 H) fun v17x9 =>
  ob (vInt .mul v16x8 v17x9) fun v18x10 =>
  ob (vLoad a5 H) fun v19x11 =>
  ob (vInt .add v18x10 v19x11) fun v20x12 =>
  ob (vIx 1 v15x7 v20x12) fun v21x13 =>
  ob (vLoad v21x13 H) fun v22x14 =>
  ob (vLoad a4 H) fun v24x15 =>
  ob (vInt .mul a0 v24x15) fun v25x16 =>
  ob (vInt .add v25x16 a1) fun v27x17 =>
  bS 1 1 #[(.int .i64 0)] 2 [(0, v27x17)] H fun v28x18 H19 =>
  apd 1 8 #[(.int .i64 0)] 2 v22x14 v28x18 H19 fun v29x20 H21 =>
  Le H19 H21 ∧ (ob (vIx 1 v9x1 v14x6) fun v30x22 =>
  st 1 v30x22 v29x20 H21 fun H23 =>
  ob (vLoad a6 H23) fun v31x24 =>
  ob (vLoad a4 H23) fun v33x25 =>
  ob (vInt .mul a0 v33x25) fun v34x26 =>
  ob (vInt .add v34x26 a1) fun v36x27 =>
  ob (vLoad a6 H23) fun v37x28 =>
  ob (vLoad a4 H23) fun v39x29 =>
  ob (vInt .mul a0 v39x29) fun v40x30 =>
  ob (vInt .add v40x30 a1) fun v42x31 =>
  ob (vIx 1 v37x28 v42x31) fun v43x32 =>
  ob (vLoad v43x32 H23) fun v44x33 =>
  ob (vLoad a3 H23) fun v45x34 =>
  ob (vLoad a4 H23) fun v46x35 =>
  ob (vInt .mul v45x34 v46x35) fun v47x36 =>
  ob (vLoad a5 H23) fun v48x37 =>
  ob (vInt .add v47x36 v48x37) fun v49x38 =>
  bS 1 1 #[(.int .i64 0)] 2 [(0, v49x38)] H23 fun v50x39 H40 =>
  apd 1 8 #[(.int .i64 0)] 2 v44x33 v50x39 H40 fun v51x41 H42 =>
  Le H40 H42 ∧ (ob (vIx 1 v31x24 v36x27) fun v52x43 =>
  st 1 v52x43 v51x41 H42 fun H44 =>
  K (.tuple #[]) H44))
def O.impl_Rule_pairGraph_1 : Nat → Nat × List Nat := fun i => bif Nat.beq i 0 then (1, [0, 1, 2, 3, 4, 5, 6, 7, 8, 9, 10, 11, 12, 13, 14, 15, 16, 17, 18, 19, 20, 21, 22]) else bif Nat.beq i 1 then (1, [0, 1, 2, 3, 4, 5, 6, 7, 8, 9, 10, 11, 12, 13, 14, 15, 16, 17, 18, 19, 20, 21, 22]) else (0, [])
theorem R.impl_Rule_pairGraph_1 {a0 a1 a2 a3 a4 a5 a6 : Value} {H : Hp} {K : Value → Hp → Prop} (h : F.impl_Rule_pairGraph_1 a0 a1 a2 a3 a4 a5 a6 H K) : HT prg I.impl_Rule_pairGraph_1 [a0, a1, a2, a3, a4, a5, a6].toArray H K :=
  HT_of_fev O.impl_Rule_pairGraph_1 mixed Try.func185 (by kernel_rfl) (Eq.mpr (by kernel_rfl : fev prg O.impl_Rule_pairGraph_1 Try.f185 [a0, a1, a2, a3, a4, a5, a6] H K = F.impl_Rule_pairGraph_1 a0 a1 a2 a3 a4 a5 a6 H K) h)

/-! (loop.example/g01381/impl.Rule).reached: function 137 -/
def F.impl_Rule_reached (a0 a1 a2 : Value) (H : Hp) (K : Value → Hp → Prop) : Prop :=
  nw (a0 : Value).cells 43 H fun v3x1 H2 =>
  ob (vLenSl a2) fun v13x3 =>
  mkS 1 1 #[(.bool false)] 4 v13x3 v13x3 H2 fun v14x4 H5 =>
  HT prg I.slices_Clone_int64Zint64 [a1].toArray H5 fun v16x6 H7 =>
  jn (fun σ8 H8 =>
    K (σ8 7) H8) fun J8 =>
  lpE (fun Q9 σ9 H9 =>
    ob (vLenSl (σ9 8)) fun v18x10 =>
    ob (vInt .gtr v18x10 (.int .i64 0)) fun v19x11 =>
    cnd v19x11
      (ob (vLenSl (σ9 8)) fun v22x12 =>
    ob (vInt .sub v22x12 (.int .i64 1)) fun v23x13 =>
    ob (vIx 1 (σ9 8) v23x13) fun v24x14 =>
    ob (vLoad v24x14 H9) fun v25x15 =>
    ob (vLenSl (σ9 8)) fun v28x16 =>
    ob (vInt .sub v28x16 (.int .i64 1)) fun v29x17 =>
    ob (vSl3 1 (σ9 8) none (some v29x17) none) fun v30x18 =>
    ob (vIx 1 (σ9 2) v25x15) fun v33x19 =>
    ob (vLoad v33x19 H9) fun v34x20 =>
    ob (vLenSl v34x20) fun v35x21 =>
    lpE (fun Q22 σ22 H22 =>
      ob (vInt .lss (σ22 36) (σ22 35)) fun v37x23 =>
      cnd v37x23
        (ob (vIx 1 (σ22 34) (σ22 36)) fun v38x24 =>
      ob (vLoad v38x24 H22) fun v39x25 =>
      ob (vIx 1 (σ22 7) v39x25) fun v42x26 =>
      ob (vLoad v42x26 H22) fun v43x27 =>
      ob (vUn .not v43x27) fun v44x28 =>
      cnd v44x28
        (ob (vIx 1 (σ22 7) v39x25) fun v47x29 =>
        st 1 v47x29 (.bool true) H22 fun H30 =>
        bS 1 1 #[(.int .i64 0)] 2 [(0, v39x25)] H30 fun v50x31 H32 =>
        apd 1 8 #[(.int .i64 0)] 2 (σ22 8) v50x31 H32 fun v51x33 H34 =>
        ob (vInt .add (σ22 36) (.int .i64 1)) fun v52x35 =>
      Q22 .normal (up (up (up (up (up (up (up (up (up (up (up (up (up (up (up (up (up (up (up σ22 37 v37x23) 38 v38x24) 39 v39x25) 11 v39x25) 40 (σ22 7)) 41 v39x25) 42 v42x26) 43 v43x27) 44 v44x28) 45 (σ22 7)) 46 v39x25) 47 v47x29) 48 (σ22 8)) 49 v39x25) 50 v50x31) 51 v51x33) 8 v51x33) 52 v52x35) 36 v52x35) H34)
        (ob (vInt .add (σ22 36) (.int .i64 1)) fun v52x36 =>
      Q22 .normal (up (up (up (up (up (up (up (up (up (up (up σ22 37 v37x23) 38 v38x24) 39 v39x25) 11 v39x25) 40 (σ22 7)) 41 v39x25) 42 v42x26) 43 v43x27) 44 v44x28) 52 v52x36) 36 v52x36) H22))
        (Q22 (.exit 2) (up σ22 37 v37x23) H22)) (blkQ 2 (blkQ 1 Q9)) (up (up (up (up (up (up (up (up (up (up (up (up (up (up (up (up (up (up (up (up (up (up σ9 17 (σ9 8)) 18 v18x10) 19 v19x11) 20 (σ9 8)) 21 (σ9 8)) 22 v22x12) 23 v23x13) 24 v24x14) 25 v25x15) 9 v25x15) 26 (σ9 8)) 27 (σ9 8)) 28 v28x16) 29 v29x17) 30 v30x18) 8 v30x18) 31 (σ9 2)) 32 v25x15) 33 v33x19) 34 v34x20) 35 v35x21) 36 (.int .i64 0)) H9)
      (Q9 (.exit 0) (up (up (up σ9 17 (σ9 8)) 18 v18x10) 19 v19x11) H9)) (blkQ 0 (thenQ J8 (retQ prg [(.tmp 6)] K))) (up (up (up (up (up (up (up (up (up (S0 [a0, a1, a2]) 3 v3x1) 6 (.slice none 0 0)) 12 a2) 13 v13x3) 14 v14x4) 7 v14x4) 15 a1) 16 v16x6) 8 v16x6) H7
def O.impl_Rule_reached : Nat → Nat × List Nat := fun i => (0, [])
theorem R.impl_Rule_reached {a0 a1 a2 : Value} {H : Hp} {K : Value → Hp → Prop} (h : F.impl_Rule_reached a0 a1 a2 H K) : HT prg I.impl_Rule_reached [a0, a1, a2].toArray H K :=
  HT_of_fev O.impl_Rule_reached mixed Try.func137 (by kernel_rfl) (Eq.mpr (by kernel_rfl : fev prg O.impl_Rule_reached Try.f137 [a0, a1, a2] H K = F.impl_Rule_reached a0 a1 a2 H K) h)

/-! loop.example/g01381/impl.IsOnto: function 60 -/
def F.impl_IsOnto (a0 : Value) (H : Hp) (K : Value → Hp → Prop) : Prop :=
  nw (a0 : Value).cells 43 H fun v1x1 H2 =>
  ob (vLoadN 3 v1x1 H2) fun v12x3 =>
  HT prg I.impl_ValidRule [v12x3].toArray H2 fun v13x4 H5 =>
  ob (vUn .not v13x4) fun v14x6 =>
  cnd v14x6
    (K (.tuple #[(.bool false), (.bool false)]) H5)
    (ob (vFa 1 v1x1) fun v15x7 =>
  ob (vLoad v15x7 H5) fun v16x8 =>
  ob (vInt .eql v16x8 (.int .i64 0)) fun v17x9 =>
  cnd v17x9
    (ob (vLoadN 3 v1x1 H5) fun v18x10 =>
    HT prg I.impl_Rule_hasTwice [v18x10].toArray H5 fun v19x11 H12 =>
    ob (vUn .not v19x11) fun v20x13 =>
    K (.tuple #[v20x13, (.bool true)]) H12)
    (ob (vLoadN 3 v1x1 H5) fun v21x14 =>
  HT prg I.impl_Rule_ends [v21x14].toArray H5 fun v22x15 H16 =>
  ob (vLoadN 3 v1x1 H16) fun v24x17 =>
  HT prg I.impl_Rule_pairGraph [v24x17].toArray H16 fun v25x18 H19 =>
  ob (vExt v25x18 0) fun v26x20 =>
  ob (vExt v25x18 1) fun v27x21 =>
  bS 1 0 #[(.int .i64 0)] 2 [] H19 fun v28x22 H23 =>
  jn (fun σ24 H24 =>
    ob (vLoadN 3 (σ24 1) H24) fun v42x25 =>
    ob (vLoadN 3 (σ24 1) H24) fun v46x26 =>
    HT prg I.impl_Rule_reached [v42x25, (σ24 7), (σ24 5)].toArray H24 fun v45x27 H28 =>
    Le H24 H28 ∧ (HT prg I.impl_Rule_reached [v46x26, (σ24 7), (σ24 6)].toArray H28 fun v49x29 H30 =>
    Le H28 H30 ∧ (jn (fun σ31 H31 =>
      K (.tuple #[(.bool true), (.bool true)]) H31) fun J31 =>
    ob (vInt .mul (σ24 4) (σ24 4)) fun v52x32 =>
    lpE (fun Q33 σ33 H33 =>
      ob (vInt .lss (σ33 53) (σ33 52)) fun v54x34 =>
      cnd v54x34
        (ob (vInt .quo (σ33 53) (σ33 4)) fun v58x35 =>
      ob (vInt .rem (σ33 53) (σ33 4)) fun v61x36 =>
      ob (vInt .neq v58x35 v61x36) fun v62x37 =>
      gop v62x37 true (fun K38 => K38 (σ33 9) H33) H33 fun v64x39 H40 =>
      gop v62x37 true (fun K41 => K41 (σ33 53) H40) H40 fun v65x42 H43 =>
      gop v62x37 true (fun K44 => ob (vIx 1 v64x39 v65x42) fun u => K44 u H43) H43 fun v66x45 H46 =>
      gop v62x37 true (fun K47 => ob (vLoad v66x45 H46) fun u => K47 u H46) H46 fun v67x48 H49 =>
      ob (vPick v62x37 v67x48 (.bool false)) fun v68x50 =>
      gop v68x50 true (fun K51 => K51 (σ33 10) H49) H49 fun v70x52 H53 =>
      gop v68x50 true (fun K54 => K54 (σ33 53) H53) H53 fun v71x55 H56 =>
      gop v68x50 true (fun K57 => ob (vIx 1 v70x52 v71x55) fun u => K57 u H56) H56 fun v72x58 H59 =>
      gop v68x50 true (fun K60 => ob (vLoad v72x58 H59) fun u => K60 u H59) H59 fun v73x61 H62 =>
      ob (vPick v68x50 v73x61 (.bool false)) fun v74x63 =>
      cnd v74x63
        (Q33 .ret (up (up (up (up (up (up (up (up (up (up (up (up (up (up (up (up (up (up (up (up (up (up (up (up σ33 54 v54x34) 55 (σ33 53)) 11 (σ33 53)) 56 (σ33 53)) 57 (σ33 4)) 58 v58x35) 59 (σ33 53)) 60 (σ33 4)) 61 v61x36) 62 v62x37) 63 v62x37) 64 v64x39) 65 v65x42) 66 v66x45) 67 v67x48) 68 v68x50) 69 v68x50) 70 v70x52) 71 v71x55) 72 v72x58) 73 v73x61) 74 v74x63) 2 (.bool false)) 3 (.bool true)) H62)
        (ob (vInt .add (σ33 53) (.int .i64 1)) fun v75x64 =>
      Q33 .normal (up (up (up (up (up (up (up (up (up (up (up (up (up (up (up (up (up (up (up (up (up (up (up (up σ33 54 v54x34) 55 (σ33 53)) 11 (σ33 53)) 56 (σ33 53)) 57 (σ33 4)) 58 v58x35) 59 (σ33 53)) 60 (σ33 4)) 61 v61x36) 62 v62x37) 63 v62x37) 64 v64x39) 65 v65x42) 66 v66x45) 67 v67x48) 68 v68x50) 69 v68x50) 70 v70x52) 71 v71x55) 72 v72x58) 73 v73x61) 74 v74x63) 75 v75x64) 53 v75x64) H62))
        (Q33 (.exit 2) (up σ33 54 v54x34) H33)) (blkQ 2 (thenQ J31 (retQ prg [(.tmp 2), (.tmp 3)] K))) (up (up (up (up (up (up (up (up (up (up (up (up (up (up σ24 42 v42x25) 43 (σ24 7)) 44 (σ24 5)) 46 v46x26) 47 (σ24 7)) 48 (σ24 6)) 45 v45x27) 49 v49x29) 9 v45x27) 10 v49x29) 50 (σ24 4)) 51 (σ24 4)) 52 v52x32) 53 (.int .i64 0)) H30))) fun J24 =>
  lpE (fun Q65 σ65 H65 =>
    ob (vInt .lss (σ65 30) (σ65 29)) fun v31x66 =>
    cnd v31x66
      (ob (vInt .mul (σ65 30) (σ65 4)) fun v36x67 =>
    ob (vInt .add v36x67 (σ65 30)) fun v38x68 =>
    bS 1 1 #[(.int .i64 0)] 2 [(0, v38x68)] H65 fun v39x69 H70 =>
    apd 1 8 #[(.int .i64 0)] 2 (σ65 7) v39x69 H70 fun v40x71 H72 =>
    ob (vInt .add (σ65 30) (.int .i64 1)) fun v41x73 =>
    Q65 .normal (up (up (up (up (up (up (up (up (up (up (up (up (up (up σ65 31 v31x66) 32 (σ65 30)) 8 (σ65 30)) 33 (σ65 7)) 34 (σ65 30)) 35 (σ65 4)) 36 v36x67) 37 (σ65 30)) 38 v38x68) 39 v39x69) 40 v40x71) 7 v40x71) 41 v41x73) 30 v41x73) H72)
      (Q65 (.exit 0) (up σ65 31 v31x66) H65)) (blkQ 0 (thenQ J24 (retQ prg [(.tmp 2), (.tmp 3)] K))) (up (up (up (up (up (up (up (up (up (up (up (up (up (up (up (up (up (up (up (up (up (up (up (S0 [a0]) 1 v1x1) 2 (.bool false)) 3 (.bool false)) 12 v12x3) 13 v13x4) 14 v14x6) 15 v15x7) 16 v16x8) 17 v17x9) 21 v21x14) 22 v22x15) 4 v22x15) 24 v24x17) 25 v25x18) 23 v25x18) 26 v26x20) 27 v27x21) 5 v26x20) 6 v27x21) 28 v28x22) 7 v28x22) 29 v22x15) 30 (.int .i64 0)) H23))
def O.impl_IsOnto : Nat → Nat × List Nat := fun i => bif Nat.beq i 13 then (0, [0, 1, 2, 4, 5, 6, 3, 7, 8, 9]) else bif Nat.beq i 17 then (0, [0, 1, 2, 3, 4, 5, 6, 7, 8, 9, 10, 11, 12, 13, 14, 15, 16, 17, 18]) else (0, [])
theorem R.impl_IsOnto {a0 : Value} {H : Hp} {K : Value → Hp → Prop} (h : F.impl_IsOnto a0 H K) : HT prg I.impl_IsOnto [a0].toArray H K :=
  HT_of_fev O.impl_IsOnto mixed Try.func60 (by kernel_rfl) (Eq.mpr (by kernel_rfl : fev prg O.impl_IsOnto Try.f60 [a0] H K = F.impl_IsOnto a0 H K) h)

/-! loop.example/g01381/impl.IsOneToOne: function 61 -/
def F.impl_IsOneToOne (a0 : Value) (H : Hp) (K : Value → Hp → Prop) : Prop :=
  nw (a0 : Value).cells 43 H fun v1x1 H2 =>
  ob (vLoadN 3 v1x1 H2) fun v8x3 =>
  HT prg I.impl_ValidRule [v8x3].toArray H2 fun v9x4 H5 =>
  ob (vUn .not v9x4) fun v10x6 =>
  gop v10x6 false (fun K7 => ob (vFa 0 v1x1) fun u => K7 u H5) H5 fun v12x8 H9 =>
  gop v10x6 false (fun K10 => ob (vLoad v12x8 H9) fun u => K10 u H9) H9 fun v13x11 H12 =>
  gop v10x6 false (fun K13 => ob (vInt .eql v13x11 (.int .i64 3)) fun u => K13 u H12) H12 fun v14x14 H15 =>
  gop v10x6 false (fun K16 => K16 v14x14 H15) H15 fun v15x17 H18 =>
  gop v15x17 true (fun K19 => ob (vFa 1 v1x1) fun u => K19 u H18) H18 fun v16x20 H21 =>
  gop v15x17 true (fun K22 => ob (vLoad v16x20 H21) fun u => K22 u H21) H21 fun v17x23 H24 =>
  gop v15x17 true (fun K25 => ob (vInt .gtr v17x23 (.int .i64 1)) fun u => K25 u H24) H24 fun v18x26 H27 =>
  gop v10x6 false (fun K28 => ob (vPick v15x17 v18x26 (.bool false)) fun u => K28 u H27) H27 fun v19x29 H30 =>
  ob (vPick v10x6 (.bool true) v19x29) fun v20x31 =>
  cnd v20x31
    (K (.tuple #[(.bool false), (.bool false)]) H30)
    (ob (vFa 1 v1x1) fun v21x32 =>
  ob (vLoad v21x32 H30) fun v22x33 =>
  ob (vInt .eql v22x33 (.int .i64 0)) fun v23x34 =>
  cnd v23x34
    (ob (vLoadN 3 v1x1 H30) fun v24x35 =>
    HT prg I.impl_Rule_hasTwice [v24x35].toArray H30 fun v25x36 H37 =>
    ob (vUn .not v25x36) fun v26x38 =>
    K (.tuple #[v26x38, (.bool true)]) H37)
    (ob (vLoadN 3 v1x1 H30) fun v27x39 =>
  HT prg I.impl_Rule_ends [v27x39].toArray H30 fun v28x40 H41 =>
  ob (vLoadN 3 v1x1 H41) fun v30x42 =>
  HT prg I.impl_Rule_pairGraph [v30x42].toArray H41 fun v31x43 H44 =>
  ob (vExt v31x43 0) fun v32x45 =>
  ob (vExt v31x43 1) fun v33x46 =>
  jn (fun σ47 H47 =>
    K (.tuple #[(.bool true), (.bool true)]) H47) fun J47 =>
  ob (vInt .mul v28x40 v28x40) fun v36x48 =>
  lpE (fun Q49 σ49 H49 =>
    ob (vInt .lss (σ49 37) (σ49 36)) fun v38x50 =>
    cnd v38x50
      (ob (vInt .quo (σ49 37) (σ49 4)) fun v42x51 =>
    ob (vInt .rem (σ49 37) (σ49 4)) fun v45x52 =>
    ob (vInt .neq v42x51 v45x52) fun v46x53 =>
    gop v46x53 true (fun K54 => ob (vLoadN 3 (σ49 1) H49) fun u => K54 u H49) H49 fun v48x55 H56 =>
    gop v46x53 true (fun K57 => K57 (σ49 37) H56) H56 fun v49x58 H59 =>
    gop v46x53 true (fun K60 => K60 (σ49 5) H59) H59 fun v51x61 H62 =>
    gop v46x53 true (fun K63 => K63 (σ49 37) H62) H62 fun v53x64 H65 =>
    gop v46x53 true (fun K66 => bS 1 1 #[(.int .i64 0)] 2 [(0, v49x58)] H65 K66) H65 fun v50x67 H68 =>
    gop v46x53 true (fun K69 => HT prg I.impl_Rule_reached [v48x55, v50x67, v51x61].toArray H68 fun v52x70 H71 =>
    Le H68 H71 ∧ K69 v52x70 H71) H68 fun v52x72 H73 =>
    gop v46x53 true (fun K74 => ob (vIx 1 v52x72 v53x64) fun u => K74 u H73) H73 fun v54x75 H76 =>
    gop v46x53 true (fun K77 => ob (vLoad v54x75 H76) fun u => K77 u H76) H76 fun v55x78 H79 =>
    ob (vPick v46x53 v55x78 (.bool false)) fun v56x80 =>
    cnd v56x80
      (Q49 .ret (up (up (up (up (up (up (up (up (up (up (up (up (up (up (up (up (up (up (up (up (up (up σ49 38 v38x50) 39 (σ49 37)) 7 (σ49 37)) 40 (σ49 37)) 41 (σ49 4)) 42 v42x51) 43 (σ49 37)) 44 (σ49 4)) 45 v45x52) 46 v46x53) 47 v46x53) 48 v48x55) 49 v49x58) 51 v51x61) 53 v53x64) 50 v50x67) 52 v52x72) 54 v54x75) 55 v55x78) 56 v56x80) 2 (.bool false)) 3 (.bool true)) H79)
      (ob (vInt .add (σ49 37) (.int .i64 1)) fun v57x81 =>
    Q49 .normal (up (up (up (up (up (up (up (up (up (up (up (up (up (up (up (up (up (up (up (up (up (up σ49 38 v38x50) 39 (σ49 37)) 7 (σ49 37)) 40 (σ49 37)) 41 (σ49 4)) 42 v42x51) 43 (σ49 37)) 44 (σ49 4)) 45 v45x52) 46 v46x53) 47 v46x53) 48 v48x55) 49 v49x58) 51 v51x61) 53 v53x64) 50 v50x67) 52 v52x72) 54 v54x75) 55 v55x78) 56 v56x80) 57 v57x81) 37 v57x81) H79))
      (Q49 (.exit 0) (up σ49 38 v38x50) H49)) (blkQ 0 (thenQ J47 (retQ prg [(.tmp 2), (.tmp 3)] K))) (up (up (up (up (up (up (up (up (up (up (up (up (up (up (up (up (up (up (up (up (up (up (up (up (up (up (up (up (up (up (up (up (up (S0 [a0]) 1 v1x1) 2 (.bool false)) 3 (.bool false)) 8 v8x3) 9 v9x4) 10 v10x6) 11 v10x6) 12 v12x8) 13 v13x11) 14 v14x14) 15 v15x17) 16 v16x20) 17 v17x23) 18 v18x26) 19 v19x29) 20 v20x31) 21 v21x32) 22 v22x33) 23 v23x34) 27 v27x39) 28 v28x40) 4 v28x40) 30 v30x42) 31 v31x43) 29 v31x43) 32 v32x45) 33 v33x46) 5 v32x45) 6 v33x46) 34 v28x40) 35 v28x40) 36 v36x48) 37 (.int .i64 0)) H44))
def O.impl_IsOneToOne : Nat → Nat × List Nat := fun i => bif Nat.beq i 10 then (0, [0, 1, 2, 3, 4, 5, 6, 7, 8, 9, 11, 13, 10, 12, 14, 15, 16]) else (0, [])
theorem R.impl_IsOneToOne {a0 : Value} {H : Hp} {K : Value → Hp → Prop} (h : F.impl_IsOneToOne a0 H K) : HT prg I.impl_IsOneToOne [a0].toArray H K :=
  HT_of_fev O.impl_IsOneToOne mixed Try.func61 (by kernel_rfl) (Eq.mpr (by kernel_rfl : fev prg O.impl_IsOneToOne Try.f61 [a0] H K = F.impl_IsOneToOne a0 H K) h)

/-! slices.Min[[]int64,int64]: function 138 -/
def F.slices_Min_int64Zint64 (a0 : Value) (H : Hp) (K : Value → Hp → Prop) : Prop :=
  jn (fun σ1 H1 =>
    ob (vIx 1 (σ1 0) (.int .i64 0)) fun v10x2 =>
    ob (vLoad v10x2 H1) fun v11x3 =>
    jn (fun σ4 H4 =>
      K (σ4 3) H4) fun J4 =>
    lpE (fun Q5 σ5 H5 =>
      ob (vLenSl (σ5 0)) fun v14x6 =>
      ob (vInt .lss (σ5 4) v14x6) fun v15x7 =>
      cnd v15x7
        (ob (vIx 1 (σ5 0) (σ5 4)) fun v21x8 =>
      ob (vLoad v21x8 H5) fun v22x9 =>
      ob (vMx false (σ5 3) [v22x9]) fun v23x10 =>
      ob (vInt .add (σ5 4) (.int .i64 1)) fun v17x11 =>
      Q5 .normal (up (up (up (up (up (up (up (up (up (up (up (up (up (up σ5 12 (σ5 4)) 13 (σ5 0)) 14 v14x6) 15 v15x7) 18 (σ5 3)) 19 (σ5 0)) 20 (σ5 4)) 21 v21x8) 22 v22x9) 23 v23x10) 3 v23x10) 16 (σ5 4)) 17 v17x11) 4 v17x11) H5)
        (Q5 (.exit 0) (up (up (up (up σ5 12 (σ5 4)) 13 (σ5 0)) 14 v14x6) 15 v15x7) H5)) (blkQ 0 (thenQ J4 (retQ prg [(.tmp 2)] K))) (up (up (up (up (up σ1 9 (σ1 0)) 10 v10x2) 11 v11x3) 3 v11x3) 4 (.int .i64 1)) H1) fun J1 =>
  ob (vLenSl a0) fun v6x12 =>
  ob (vInt .lss v6x12 (.int .i64 1)) fun v7x13 =>
  cnd v7x13
    (ob (val prg (Instr.makeInterface 9 (.string ⟨#[115, 108, 105, 99, 101, 115, 46, 77, 105, 110, 58, 32, 101, 109, 112, 116, 121, 32, 108, 105, 115, 116]⟩)) H) fun v8x14 =>
    hp prg (do pure (Next.value (← Instr.panic v8x14))) H (nextH prg (fun _ H15 =>
    J1 (up (up (up (up (up (S0 [a0]) 2 (.int .i64 0)) 5 a0) 6 v6x12) 7 v7x13) 8 v8x14) H15)))
    (J1 (up (up (up (up (S0 [a0]) 2 (.int .i64 0)) 5 a0) 6 v6x12) 7 v7x13) H)
def O.slices_Min_int64Zint64 : Nat → Nat × List Nat := fun i => (0, [])
theorem R.slices_Min_int64Zint64 {a0 : Value} {H : Hp} {K : Value → Hp → Prop} (h : F.slices_Min_int64Zint64 a0 H K) : HT prg I.slices_Min_int64Zint64 [a0].toArray H K :=
  HT_of_fev O.slices_Min_int64Zint64 mixed Try.func138 (by kernel_rfl) (Eq.mpr (by kernel_rfl : fev prg O.slices_Min_int64Zint64 Try.f138 [a0] H K = F.slices_Min_int64Zint64 a0 H K) h)

/-! slices.Max[[]int64,int64]: function 139 -/
def F.slices_Max_int64Zint64 (a0 : Value) (H : Hp) (K : Value → Hp → Prop) : Prop :=
  jn (fun σ1 H1 =>
    ob (vIx 1 (σ1 0) (.int .i64 0)) fun v10x2 =>
    ob (vLoad v10x2 H1) fun v11x3 =>
    jn (fun σ4 H4 =>
      K (σ4 3) H4) fun J4 =>
    lpE (fun Q5 σ5 H5 =>
      ob (vLenSl (σ5 0)) fun v14x6 =>
      ob (vInt .lss (σ5 4) v14x6) fun v15x7 =>
      cnd v15x7
        (ob (vIx 1 (σ5 0) (σ5 4)) fun v21x8 =>
      ob (vLoad v21x8 H5) fun v22x9 =>
      ob (vMx true (σ5 3) [v22x9]) fun v23x10 =>
      ob (vInt .add (σ5 4) (.int .i64 1)) fun v17x11 =>
      Q5 .normal (up (up (up (up (up (up (up (up (up (up (up (up (up (up σ5 12 (σ5 4)) 13 (σ5 0)) 14 v14x6) 15 v15x7) 18 (σ5 3)) 19 (σ5 0)) 20 (σ5 4)) 21 v21x8) 22 v22x9) 23 v23x10) 3 v23x10) 16 (σ5 4)) 17 v17x11) 4 v17x11) H5)
        (Q5 (.exit 0) (up (up (up (up σ5 12 (σ5 4)) 13 (σ5 0)) 14 v14x6) 15 v15x7) H5)) (blkQ 0 (thenQ J4 (retQ prg [(.tmp 2)] K))) (up (up (up (up (up σ1 9 (σ1 0)) 10 v10x2) 11 v11x3) 3 v11x3) 4 (.int .i64 1)) H1) fun J1 =>
  ob (vLenSl a0) fun v6x12 =>
  ob (vInt .lss v6x12 (.int .i64 1)) fun v7x13 =>
  cnd v7x13
    (ob (val prg (Instr.makeInterface 9 (.string ⟨#[115, 108, 105, 99, 101, 115, 46, 77, 97, 120, 58, 32, 101, 109, 112, 116, 121, 32, 108, 105, 115, 116]⟩)) H) fun v8x14 =>
    hp prg (do pure (Next.value (← Instr.panic v8x14))) H (nextH prg (fun _ H15 =>
    J1 (up (up (up (up (up (S0 [a0]) 2 (.int .i64 0)) 5 a0) 6 v6x12) 7 v7x13) 8 v8x14) H15)))
    (J1 (up (up (up (up (S0 [a0]) 2 (.int .i64 0)) 5 a0) 6 v6x12) 7 v7x13) H)
def O.slices_Max_int64Zint64 : Nat → Nat × List Nat := fun i => (0, [])
theorem R.slices_Max_int64Zint64 {a0 : Value} {H : Hp} {K : Value → Hp → Prop} (h : F.slices_Max_int64Zint64 a0 H K) : HT prg I.slices_Max_int64Zint64 [a0].toArray H K :=
  HT_of_fev O.slices_Max_int64Zint64 mixed Try.func139 (by kernel_rfl) (Eq.mpr (by kernel_rfl : fev prg O.slices_Max_int64Zint64 Try.f139 [a0] H K = F.slices_Max_int64Zint64 a0 H K) h)

/-! loop.example/g01381/impl.IsEvenRule: function 62 -/
def F.impl_IsEvenRule (a0 : Value) (H : Hp) (K : Value → Hp → Prop) : Prop :=
  nw (a0 : Value).cells 43 H fun v1x1 H2 =>
  ob (vLoadN 3 v1x1 H2) fun v7x3 =>
  HT prg I.impl_ValidRule [v7x3].toArray H2 fun v8x4 H5 =>
  ob (vUn .not v8x4) fun v9x6 =>
  cnd v9x6
    (K (.tuple #[(.bool false), (.bool false)]) H5)
    (ob (vFa 0 v1x1) fun v10x7 =>
  ob (vLoad v10x7 H5) fun v11x8 =>
  mkS 1 8 #[(.int .i64 0)] 2 v11x8 v11x8 H5 fun v12x9 H10 =>
  jn (fun σ11 H11 =>
    HT prg I.slices_Min_int64Zint64 [(σ11 4)].toArray H11 fun v28x12 H13 =>
    HT prg I.slices_Max_int64Zint64 [(σ11 4)].toArray H13 fun v30x14 H15 =>
    ob (vInt .eql v28x12 v30x14) fun v31x16 =>
    K (.tuple #[v31x16, (.bool true)]) H15) fun J11 =>
  ob (vFa 2 v1x1) fun v13x17 =>
  ob (vLoad v13x17 H10) fun v14x18 =>
  ob (vLenSl v14x18) fun v15x19 =>
  lpE (fun Q20 σ20 H20 =>
    ob (vInt .lss (σ20 16) (σ20 15)) fun v17x21 =>
    cnd v17x21
      (ob (vIx 1 (σ20 14) (σ20 16)) fun v18x22 =>
    ob (vLoad v18x22 H20) fun v19x23 =>
    ob (vIx 1 (σ20 4) v19x23) fun v22x24 =>
    ob (vLoad v22x24 H20) fun v23x25 =>
    ob (vInt .add v23x25 (.int .i64 1)) fun v24x26 =>
    ob (vIx 1 (σ20 4) v19x23) fun v25x27 =>
    st 1 v25x27 v24x26 H20 fun H28 =>
    ob (vInt .add (σ20 16) (.int .i64 1)) fun v26x29 =>
    Q20 .normal (up (up (up (up (up (up (up (up (up (up (up (up σ20 17 v17x21) 18 v18x22) 19 v19x23) 6 v19x23) 20 (σ20 4)) 21 v19x23) 22 v22x24) 23 v23x25) 24 v24x26) 25 v25x27) 26 v26x29) 16 v26x29) H28)
      (Q20 (.exit 0) (up σ20 17 v17x21) H20)) (blkQ 0 (thenQ J11 (retQ prg [(.tmp 2), (.tmp 3)] K))) (up (up (up (up (up (up (up (up (up (up (up (up (up (up (S0 [a0]) 1 v1x1) 2 (.bool false)) 3 (.bool false)) 7 v7x3) 8 v8x4) 9 v9x6) 10 v10x7) 11 v11x8) 12 v12x9) 4 v12x9) 13 v13x17) 14 v14x18) 15 v15x19) 16 (.int .i64 0)) H10)
def O.impl_IsEvenRule : Nat → Nat × List Nat := fun i => (0, [])
theorem R.impl_IsEvenRule {a0 : Value} {H : Hp} {K : Value → Hp → Prop} (h : F.impl_IsEvenRule a0 H K) : HT prg I.impl_IsEvenRule [a0].toArray H K :=
  HT_of_fev O.impl_IsEvenRule mixed Try.func62 (by kernel_rfl) (Eq.mpr (by kernel_rfl : fev prg O.impl_IsEvenRule Try.f62 [a0] H K = F.impl_IsEvenRule a0 H K) h)

/-! loop.example/g01381/spec.l03Ends: function 146 -/
def F.spec_l03Ends (a0 : Value) (H : Hp) (K : Value → Hp → Prop) : Prop :=
  ob (vNilC a0) fun v4x1 =>
  ob (vFa 0 v4x1) fun v5x2 =>
  ob (vLoad v5x2 H) fun v6x3 =>
  HT prg I.spec_l03Wide [a0].toArray H fun v8x4 H5 =>
  Le H H5 ∧ (ob (vInt .sub v8x4 (.int .i64 1)) fun v9x6 =>
  HT prg I.spec_l03Power [v6x3, v9x6].toArray H5 fun v10x7 H8 =>
  Le H5 H8 ∧ (K v10x7 H8))
def O.spec_l03Ends : Nat → Nat × List Nat := fun i => bif Nat.beq i 1 then (0, [0, 1, 2, 3, 4, 5, 6, 7, 8]) else (0, [])
theorem R.spec_l03Ends {a0 : Value} {H : Hp} {K : Value → Hp → Prop} (h : F.spec_l03Ends a0 H K) : HT prg I.spec_l03Ends [a0].toArray H K :=
  HT_of_fev O.spec_l03Ends mixed Try.func146 (by kernel_rfl) (Eq.mpr (by kernel_rfl : fev prg O.spec_l03Ends Try.f146 [a0] H K = F.spec_l03Ends a0 H K) h)

/-! loop.example/g01381/spec.l03Pairs: function 147 -/
def F.spec_l03Pairs (a0 a1 a2 : Value) (H : Hp) (K : Value → Hp → Prop) : Prop :=
  ob (vNilC a0) fun v11x1 =>
  ob (vFa 0 v11x1) fun v12x2 =>
  ob (vLoad v12x2 H) fun v13x3 =>
  ob (vInt .mul a1 v13x3) fun v14x4 =>
  ob (vInt .add v14x4 a2) fun v16x5 =>
  ob (vNilC a0) fun v22x6 =>
  ob (vFa 2 v22x6) fun v23x7 =>
  ob (vLoad v23x7 H) fun v24x8 =>
  ob (vIx 1 v24x8 v16x5) fun v26x9 =>
  ob (vLoad v26x9 H) fun v27x10 =>
  HT prg I.spec_l03Ends [a0].toArray H fun v19x11 H12 =>
  Le H H12 ∧ (ob (vInt .rem v16x5 v19x11) fun v20x13 =>
  K (.tuple #[v20x13, v27x10]) H12)
def O.spec_l03Pairs : Nat → Nat × List Nat := fun i => bif Nat.beq i 2 then (0, [0, 1, 4, 5, 6, 7, 8, 9, 10, 2, 3, 11, 12]) else (0, [])
theorem R.spec_l03Pairs {a0 a1 a2 : Value} {H : Hp} {K : Value → Hp → Prop} (h : F.spec_l03Pairs a0 a1 a2 H K) : HT prg I.spec_l03Pairs [a0, a1, a2].toArray H K :=
  HT_of_fev O.spec_l03Pairs mixed Try.func147 (by kernel_rfl) (Eq.mpr (by kernel_rfl : fev prg O.spec_l03Pairs Try.f147 [a0, a1, a2] H K = F.spec_l03Pairs a0 a1 a2 H K) h)

/-! loop.example/g01381/spec.l03Onto: function 140 -/
def F.spec_l03Onto (a0 : Value) (H : Hp) (K : Value → Hp → Prop) : Prop :=
  HT prg I.spec_l03Ends [a0].toArray H fun v21x1 H2 =>
  jn (fun σ3 H3 =>
    K (.bool true) H3) fun J3 =>
  lpE (fun Q4 σ4 H4 =>
    ob (vInt .lss (σ4 4) (σ4 3)) fun v24x5 =>
    cnd v24x5
      (jn (fun σ6 H6 =>
      ob (vInt .add (σ6 4) (.int .i64 1)) fun v26x7 =>
      Q4 .normal (up (up (up σ6 25 (σ6 4)) 26 v26x7) 4 v26x7) H6) fun J6 =>
    ob (vInt .mul (σ4 3) (σ4 3)) fun v29x8 =>
    mkS 1 1 #[(.bool false)] 4 v29x8 v29x8 H4 fun v30x9 H10 =>
    bS 1 0 #[(.int .i64 0)] 2 [] H10 fun v31x11 H12 =>
    jn (fun σ13 H13 =>
      lpE (fun Q14 σ14 H14 =>
        ob (vLenSl (σ14 6)) fun v99x15 =>
        ob (vInt .lss (σ14 13) v99x15) fun v100x16 =>
        cnd v100x16
          (jn (fun σ17 H17 =>
          ob (vInt .add (σ17 13) (.int .i64 1)) fun v102x18 =>
          Q14 .normal (up (up (up σ17 101 (σ17 13)) 102 v102x18) 13 v102x18) H17) fun J17 =>
        lpE (fun Q19 σ19 H19 =>
          ob (vNilC (σ19 0)) fun v105x20 =>
          ob (vFa 0 v105x20) fun v106x21 =>
          ob (vLoad v106x21 H19) fun v107x22 =>
          ob (vInt .lss (σ19 14) v107x22) fun v108x23 =>
          cnd v108x23
            (jn (fun σ24 H24 =>
            ob (vInt .add (σ24 14) (.int .i64 1)) fun v110x25 =>
            Q19 .normal (up (up (up σ24 109 (σ24 14)) 110 v110x25) 14 v110x25) H24) fun J24 =>
          lpE (fun Q26 σ26 H26 =>
            ob (vNilC (σ26 0)) fun v113x27 =>
            ob (vFa 0 v113x27) fun v114x28 =>
            ob (vLoad v114x28 H26) fun v115x29 =>
            ob (vInt .lss (σ26 15) v115x29) fun v116x30 =>
            cnd v116x30
              (ob (vIx 1 (σ26 6) (σ26 13)) fun v123x31 =>
            ob (vLoad v123x31 H26) fun v124x32 =>
            ob (vInt .quo v124x32 (σ26 3)) fun v126x33 =>
            HT prg I.spec_l03Pairs [(σ26 0), v126x33, (σ26 14)].toArray H26 fun v128x34 H35 =>
            ob (vExt v128x34 0) fun v129x36 =>
            ob (vExt v128x34 1) fun v130x37 =>
            ob (vIx 1 (σ26 6) (σ26 13)) fun v135x38 =>
            ob (vLoad v135x38 H35) fun v136x39 =>
            ob (vInt .rem v136x39 (σ26 3)) fun v138x40 =>
            HT prg I.spec_l03Pairs [(σ26 0), v138x40, (σ26 15)].toArray H35 fun v140x41 H42 =>
            ob (vExt v140x41 0) fun v141x43 =>
            ob (vExt v140x41 1) fun v142x44 =>
            ob (vInt .neq v130x37 v142x44) fun v145x45 =>
            cnd v145x45
              (ob (vInt .add (σ26 15) (.int .i64 1)) fun v118x46 =>
            Q26 .normal (up (up (up (up (up (up (up (up (up (up (up (up (up (up (up (up (up (up (up (up (up (up (up (up (up (up (up (up (up (up (up (up (up (up (up (up (up (up (up (up σ26 111 (σ26 15)) 112 (σ26 0)) 113 v113x27) 114 v114x28) 115 v115x29) 116 v116x30) 120 (σ26 0)) 121 (σ26 6)) 122 (σ26 13)) 123 v123x31) 124 v124x32) 125 (σ26 3)) 126 v126x33) 127 (σ26 14)) 128 v128x34) 119 v128x34) 129 v129x36) 130 v130x37) 16 v129x36) 17 v130x37) 132 (σ26 0)) 133 (σ26 6)) 134 (σ26 13)) 135 v135x38) 136 v136x39) 137 (σ26 3)) 138 v138x40) 139 (σ26 15)) 140 v140x41) 131 v140x41) 141 v141x43) 142 v142x44) 18 v141x43) 19 v142x44) 143 v130x37) 144 v142x44) 145 v145x45) 117 (σ26 15)) 118 v118x46) 15 v118x46) H42)
              (ob (vInt .eql v129x36 v141x43) fun v148x47 =>
            cnd v148x47
              (Q26 .ret (up (up (up (up (up (up (up (up (up (up (up (up (up (up (up (up (up (up (up (up (up (up (up (up (up (up (up (up (up (up (up (up (up (up (up (up (up (up (up (up (up σ26 111 (σ26 15)) 112 (σ26 0)) 113 v113x27) 114 v114x28) 115 v115x29) 116 v116x30) 120 (σ26 0)) 121 (σ26 6)) 122 (σ26 13)) 123 v123x31) 124 v124x32) 125 (σ26 3)) 126 v126x33) 127 (σ26 14)) 128 v128x34) 119 v128x34) 129 v129x36) 130 v130x37) 16 v129x36) 17 v130x37) 132 (σ26 0)) 133 (σ26 6)) 134 (σ26 13)) 135 v135x38) 136 v136x39) 137 (σ26 3)) 138 v138x40) 139 (σ26 15)) 140 v140x41) 131 v140x41) 141 v141x43) 142 v142x44) 18 v141x43) 19 v142x44) 143 v130x37) 144 v142x44) 145 v145x45) 146 v129x36) 147 v141x43) 148 v148x47) 2 (.bool false)) H42)
              (ob (vInt .mul v129x36 (σ26 3)) fun v152x48 =>
            ob (vInt .add v152x48 v141x43) fun v154x49 =>
            ob (vIx 1 (σ26 5) v154x49) fun v155x50 =>
            ob (vLoad v155x50 H42) fun v156x51 =>
            ob (vUn .not v156x51) fun v157x52 =>
            cnd v157x52
              (ob (vInt .mul v129x36 (σ26 3)) fun v161x53 =>
              ob (vInt .add v161x53 v141x43) fun v163x54 =>
              ob (vIx 1 (σ26 5) v163x54) fun v164x55 =>
              st 1 v164x55 (.bool true) H42 fun H56 =>
              ob (vInt .mul v129x36 (σ26 3)) fun v168x57 =>
              ob (vInt .add v168x57 v141x43) fun v170x58 =>
              bS 1 1 #[(.int .i64 0)] 2 [(0, v170x58)] H56 fun v171x59 H60 =>
              apd 1 8 #[(.int .i64 0)] 2 (σ26 6) v171x59 H60 fun v172x61 H62 =>
              ob (vInt .add (σ26 15) (.int .i64 1)) fun v118x63 =>
            Q26 .normal (up (up (up (up (up (up (up (up (up (up (up (up (up (up (up (up (up (up (up (up (up (up (up (up (up (up (up (up (up (up (up (up (up (up (up (up (up (up (up (up (up (up (up (up (up (up (up (up (up (up (up (up (up (up (up (up (up (up (up (up (up (up (up (up (up (up (up (up σ26 111 (σ26 15)) 112 (σ26 0)) 113 v113x27) 114 v114x28) 115 v115x29) 116 v116x30) 120 (σ26 0)) 121 (σ26 6)) 122 (σ26 13)) 123 v123x31) 124 v124x32) 125 (σ26 3)) 126 v126x33) 127 (σ26 14)) 128 v128x34) 119 v128x34) 129 v129x36) 130 v130x37) 16 v129x36) 17 v130x37) 132 (σ26 0)) 133 (σ26 6)) 134 (σ26 13)) 135 v135x38) 136 v136x39) 137 (σ26 3)) 138 v138x40) 139 (σ26 15)) 140 v140x41) 131 v140x41) 141 v141x43) 142 v142x44) 18 v141x43) 19 v142x44) 143 v130x37) 144 v142x44) 145 v145x45) 146 v129x36) 147 v141x43) 148 v148x47) 149 (σ26 5)) 150 v129x36) 151 (σ26 3)) 152 v152x48) 153 v141x43) 154 v154x49) 155 v155x50) 156 v156x51) 157 v157x52) 158 (σ26 5)) 159 v129x36) 160 (σ26 3)) 161 v161x53) 162 v141x43) 163 v163x54) 164 v164x55) 165 (σ26 6)) 166 v129x36) 167 (σ26 3)) 168 v168x57) 169 v141x43) 170 v170x58) 171 v171x59) 172 v172x61) 6 v172x61) 117 (σ26 15)) 118 v118x63) 15 v118x63) H62)
              (ob (vInt .add (σ26 15) (.int .i64 1)) fun v118x64 =>
            Q26 .normal (up (up (up (up (up (up (up (up (up (up (up (up (up (up (up (up (up (up (up (up (up (up (up (up (up (up (up (up (up (up (up (up (up (up (up (up (up (up (up (up (up (up (up (up (up (up (up (up (up (up (up (up σ26 111 (σ26 15)) 112 (σ26 0)) 113 v113x27) 114 v114x28) 115 v115x29) 116 v116x30) 120 (σ26 0)) 121 (σ26 6)) 122 (σ26 13)) 123 v123x31) 124 v124x32) 125 (σ26 3)) 126 v126x33) 127 (σ26 14)) 128 v128x34) 119 v128x34) 129 v129x36) 130 v130x37) 16 v129x36) 17 v130x37) 132 (σ26 0)) 133 (σ26 6)) 134 (σ26 13)) 135 v135x38) 136 v136x39) 137 (σ26 3)) 138 v138x40) 139 (σ26 15)) 140 v140x41) 131 v140x41) 141 v141x43) 142 v142x44) 18 v141x43) 19 v142x44) 143 v130x37) 144 v142x44) 145 v145x45) 146 v129x36) 147 v141x43) 148 v148x47) 149 (σ26 5)) 150 v129x36) 151 (σ26 3)) 152 v152x48) 153 v141x43) 154 v154x49) 155 v155x50) 156 v156x51) 157 v157x52) 117 (σ26 15)) 118 v118x64) 15 v118x64) H42))))
              (Q26 (.exit 10) (up (up (up (up (up (up σ26 111 (σ26 15)) 112 (σ26 0)) 113 v113x27) 114 v114x28) 115 v115x29) 116 v116x30) H26)) (blkQ 10 (blkQ 9 (thenQ J24 Q19))) (up (up (up (up (up (up (up σ19 103 (σ19 14)) 104 (σ19 0)) 105 v105x20) 106 v106x21) 107 v107x22) 108 v108x23) 15 (.int .i64 0)) H19)
            (Q19 (.exit 8) (up (up (up (up (up (up σ19 103 (σ19 14)) 104 (σ19 0)) 105 v105x20) 106 v106x21) 107 v107x22) 108 v108x23) H19)) (blkQ 8 (blkQ 7 (thenQ J17 Q14))) (up (up (up (up (up σ14 97 (σ14 13)) 98 (σ14 6)) 99 v99x15) 100 v100x16) 14 (.int .i64 0)) H14)
          (Q14 (.exit 6) (up (up (up (up σ14 97 (σ14 13)) 98 (σ14 6)) 99 v99x15) 100 v100x16) H14)) (blkQ 6 (blkQ 1 (thenQ J6 Q4))) (up σ13 13 (.int .i64 0)) H13) fun J13 =>
    lpE (fun Q65 σ65 H65 =>
      ob (vNilC (σ65 0)) fun v34x66 =>
      ob (vFa 0 v34x66) fun v35x67 =>
      ob (vLoad v35x67 H65) fun v36x68 =>
      ob (vInt .lss (σ65 7) v36x68) fun v37x69 =>
      cnd v37x69
        (jn (fun σ70 H70 =>
        ob (vInt .add (σ70 7) (.int .i64 1)) fun v39x71 =>
        Q65 .normal (up (up (up σ70 38 (σ70 7)) 39 v39x71) 7 v39x71) H70) fun J70 =>
      lpE (fun Q72 σ72 H72 =>
        ob (vNilC (σ72 0)) fun v42x73 =>
        ob (vFa 0 v42x73) fun v43x74 =>
        ob (vLoad v43x74 H72) fun v44x75 =>
        ob (vInt .lss (σ72 8) v44x75) fun v45x76 =>
        cnd v45x76
          (HT prg I.spec_l03Pairs [(σ72 0), (σ72 4), (σ72 7)].toArray H72 fun v52x77 H78 =>
        ob (vExt v52x77 0) fun v53x79 =>
        ob (vExt v52x77 1) fun v54x80 =>
        HT prg I.spec_l03Pairs [(σ72 0), (σ72 4), (σ72 8)].toArray H78 fun v59x81 H82 =>
        ob (vExt v59x81 0) fun v60x83 =>
        ob (vExt v59x81 1) fun v61x84 =>
        ob (vInt .eql (σ72 7) (σ72 8)) fun v64x85 =>
        gop v64x85 false (fun K86 => K86 v54x80 H82) H82 fun v66x87 H88 =>
        gop v64x85 false (fun K89 => K89 v61x84 H88) H88 fun v67x90 H91 =>
        gop v64x85 false (fun K92 => ob (vInt .neq v66x87 v67x90) fun u => K92 u H91) H91 fun v68x93 H94 =>
        ob (vPick v64x85 (.bool true) v68x93) fun v69x95 =>
        cnd v69x95
          (ob (vInt .add (σ72 8) (.int .i64 1)) fun v47x96 =>
        Q72 .normal (up (up (up (up (up (up (up (up (up (up (up (up (up (up (up (up (up (up (up (up (up (up (up (up (up (up (up (up (up (up (up (up (up (up (up σ72 40 (σ72 8)) 41 (σ72 0)) 42 v42x73) 43 v43x74) 44 v44x75) 45 v45x76) 49 (σ72 0)) 50 (σ72 4)) 51 (σ72 7)) 52 v52x77) 48 v52x77) 53 v53x79) 54 v54x80) 9 v53x79) 10 v54x80) 56 (σ72 0)) 57 (σ72 4)) 58 (σ72 8)) 59 v59x81) 55 v59x81) 60 v60x83) 61 v61x84) 11 v60x83) 12 v61x84) 62 (σ72 7)) 63 (σ72 8)) 64 v64x85) 65 v64x85) 66 v66x87) 67 v67x90) 68 v68x93) 69 v69x95) 46 (σ72 8)) 47 v47x96) 8 v47x96) H94)
          (ob (vInt .eql v53x79 v60x83) fun v72x97 =>
        cnd v72x97
          (Q72 .ret (up (up (up (up (up (up (up (up (up (up (up (up (up (up (up (up (up (up (up (up (up (up (up (up (up (up (up (up (up (up (up (up (up (up (up (up σ72 40 (σ72 8)) 41 (σ72 0)) 42 v42x73) 43 v43x74) 44 v44x75) 45 v45x76) 49 (σ72 0)) 50 (σ72 4)) 51 (σ72 7)) 52 v52x77) 48 v52x77) 53 v53x79) 54 v54x80) 9 v53x79) 10 v54x80) 56 (σ72 0)) 57 (σ72 4)) 58 (σ72 8)) 59 v59x81) 55 v59x81) 60 v60x83) 61 v61x84) 11 v60x83) 12 v61x84) 62 (σ72 7)) 63 (σ72 8)) 64 v64x85) 65 v64x85) 66 v66x87) 67 v67x90) 68 v68x93) 69 v69x95) 70 v53x79) 71 v60x83) 72 v72x97) 2 (.bool false)) H94)
          (ob (vInt .mul v53x79 (σ72 3)) fun v76x98 =>
        ob (vInt .add v76x98 v60x83) fun v78x99 =>
        ob (vIx 1 (σ72 5) v78x99) fun v79x100 =>
        ob (vLoad v79x100 H94) fun v80x101 =>
        ob (vUn .not v80x101) fun v81x102 =>
        cnd v81x102
          (ob (vInt .mul v53x79 (σ72 3)) fun v85x103 =>
          ob (vInt .add v85x103 v60x83) fun v87x104 =>
          ob (vIx 1 (σ72 5) v87x104) fun v88x105 =>
          st 1 v88x105 (.bool true) H94 fun H106 =>
          ob (vInt .mul v53x79 (σ72 3)) fun v92x107 =>
          ob (vInt .add v92x107 v60x83) fun v94x108 =>
          bS 1 1 #[(.int .i64 0)] 2 [(0, v94x108)] H106 fun v95x109 H110 =>
          apd 1 8 #[(.int .i64 0)] 2 (σ72 6) v95x109 H110 fun v96x111 H112 =>
          ob (vInt .add (σ72 8) (.int .i64 1)) fun v47x113 =>
        Q72 .normal (up (up (up (up (up (up (up (up (up (up (up (up (up (up (up (up (up (up (up (up (up (up (up (up (up (up (up (up (up (up (up (up (up (up (up (up (up (up (up (up (up (up (up (up (up (up (up (up (up (up (up (up (up (up (up (up (up (up (up (up (up (up (up σ72 40 (σ72 8)) 41 (σ72 0)) 42 v42x73) 43 v43x74) 44 v44x75) 45 v45x76) 49 (σ72 0)) 50 (σ72 4)) 51 (σ72 7)) 52 v52x77) 48 v52x77) 53 v53x79) 54 v54x80) 9 v53x79) 10 v54x80) 56 (σ72 0)) 57 (σ72 4)) 58 (σ72 8)) 59 v59x81) 55 v59x81) 60 v60x83) 61 v61x84) 11 v60x83) 12 v61x84) 62 (σ72 7)) 63 (σ72 8)) 64 v64x85) 65 v64x85) 66 v66x87) 67 v67x90) 68 v68x93) 69 v69x95) 70 v53x79) 71 v60x83) 72 v72x97) 73 (σ72 5)) 74 v53x79) 75 (σ72 3)) 76 v76x98) 77 v60x83) 78 v78x99) 79 v79x100) 80 v80x101) 81 v81x102) 82 (σ72 5)) 83 v53x79) 84 (σ72 3)) 85 v85x103) 86 v60x83) 87 v87x104) 88 v88x105) 89 (σ72 6)) 90 v53x79) 91 (σ72 3)) 92 v92x107) 93 v60x83) 94 v94x108) 95 v95x109) 96 v96x111) 6 v96x111) 46 (σ72 8)) 47 v47x113) 8 v47x113) H112)
          (ob (vInt .add (σ72 8) (.int .i64 1)) fun v47x114 =>
        Q72 .normal (up (up (up (up (up (up (up (up (up (up (up (up (up (up (up (up (up (up (up (up (up (up (up (up (up (up (up (up (up (up (up (up (up (up (up (up (up (up (up (up (up (up (up (up (up (up (up σ72 40 (σ72 8)) 41 (σ72 0)) 42 v42x73) 43 v43x74) 44 v44x75) 45 v45x76) 49 (σ72 0)) 50 (σ72 4)) 51 (σ72 7)) 52 v52x77) 48 v52x77) 53 v53x79) 54 v54x80) 9 v53x79) 10 v54x80) 56 (σ72 0)) 57 (σ72 4)) 58 (σ72 8)) 59 v59x81) 55 v59x81) 60 v60x83) 61 v61x84) 11 v60x83) 12 v61x84) 62 (σ72 7)) 63 (σ72 8)) 64 v64x85) 65 v64x85) 66 v66x87) 67 v67x90) 68 v68x93) 69 v69x95) 70 v53x79) 71 v60x83) 72 v72x97) 73 (σ72 5)) 74 v53x79) 75 (σ72 3)) 76 v76x98) 77 v60x83) 78 v78x99) 79 v79x100) 80 v80x101) 81 v81x102) 46 (σ72 8)) 47 v47x114) 8 v47x114) H94))))
          (Q72 (.exit 4) (up (up (up (up (up (up σ72 40 (σ72 8)) 41 (σ72 0)) 42 v42x73) 43 v43x74) 44 v44x75) 45 v45x76) H72)) (blkQ 4 (blkQ 3 (thenQ J70 Q65))) (up (up (up (up (up (up (up σ65 32 (σ65 7)) 33 (σ65 0)) 34 v34x66) 35 v35x67) 36 v36x68) 37 v37x69) 8 (.int .i64 0)) H65)
        (Q65 (.exit 2) (up (up (up (up (up (up σ65 32 (σ65 7)) 33 (σ65 0)) 34 v34x66) 35 v35x67) 36 v36x68) 37 v37x69) H65)) (blkQ 2 (thenQ J13 (blkQ 1 (thenQ J6 Q4)))) (up (up (up (up (up (up (up (up (up (up (up σ4 22 (σ4 4)) 23 (σ4 3)) 24 v24x5) 27 (σ4 3)) 28 (σ4 3)) 29 v29x8) 30 v30x9) 5 v30x9) 31 v31x11) 6 v31x11) 7 (.int .i64 0)) H12)
      (Q4 (.exit 0) (up (up (up σ4 22 (σ4 4)) 23 (σ4 3)) 24 v24x5) H4)) (blkQ 0 (thenQ J3 (retQ prg [(.tmp 2)] K))) (up (up (up (up (up (S0 [a0]) 2 (.bool false)) 20 a0) 21 v21x1) 3 v21x1) 4 (.int .i64 0)) H2
def O.spec_l03Onto : Nat → Nat × List Nat := fun i => (0, [])
theorem R.spec_l03Onto {a0 : Value} {H : Hp} {K : Value → Hp → Prop} (h : F.spec_l03Onto a0 H K) : HT prg I.spec_l03Onto [a0].toArray H K :=
  HT_of_fev O.spec_l03Onto mixed Try.func140 (by kernel_rfl) (Eq.mpr (by kernel_rfl : fev prg O.spec_l03Onto Try.f140 [a0] H K = F.spec_l03Onto a0 H K) h)

/-! loop.example/g01381/spec.IsOnto: function 63 -/
def F.spec_IsOnto (a0 : Value) (H : Hp) (K : Value → Hp → Prop) : Prop :=
  nw (a0 : Value).cells 43 H fun v1x1 H2 =>
  HT prg I.spec_l02Is [v1x1].toArray H2 fun v4x3 H4 =>
  ob (vUn .not v4x3) fun v5x5 =>
  cnd v5x5
    (K (.tuple #[(.bool false), (.bool false)]) H4)
    (HT prg I.spec_l03Onto [v1x1].toArray H4 fun v6x6 H7 =>
  K (.tuple #[v6x6, (.bool true)]) H7)
def O.spec_IsOnto : Nat → Nat × List Nat := fun i => (0, [])
theorem R.spec_IsOnto {a0 : Value} {H : Hp} {K : Value → Hp → Prop} (h : F.spec_IsOnto a0 H K) : HT prg I.spec_IsOnto [a0].toArray H K :=
  HT_of_fev O.spec_IsOnto mixed Try.func63 (by kernel_rfl) (Eq.mpr (by kernel_rfl : fev prg O.spec_IsOnto Try.f63 [a0] H K = F.spec_IsOnto a0 H K) h)

/-! loop.example/g01381/spec.l03Apart: function 141 -/
def F.spec_l03Apart (a0 : Value) (H : Hp) (K : Value → Hp → Prop) : Prop :=
  HT prg I.spec_l03Ends [a0].toArray H fun v16x1 H2 =>
  jn (fun σ3 H3 =>
    K (.bool true) H3) fun J3 =>
  lpE (fun Q4 σ4 H4 =>
    ob (vInt .lss (σ4 4) (σ4 3)) fun v19x5 =>
    cnd v19x5
      (jn (fun σ6 H6 =>
      ob (vInt .add (σ6 4) (.int .i64 1)) fun v21x7 =>
      Q4 .normal (up (up (up σ6 20 (σ6 4)) 21 v21x7) 4 v21x7) H6) fun J6 =>
    lpE (fun Q8 σ8 H8 =>
      ob (vInt .lss (σ8 5) (σ8 3)) fun v24x9 =>
      cnd v24x9
        (jn (fun σ10 H10 =>
        ob (vInt .add (σ10 5) (.int .i64 1)) fun v26x11 =>
        Q8 .normal (up (up (up σ10 25 (σ10 5)) 26 v26x11) 5 v26x11) H10) fun J10 =>
      ob (vInt .eql (σ8 4) (σ8 5)) fun v29x12 =>
      cnd v29x12
        (J10 (up (up (up (up (up (up σ8 22 (σ8 5)) 23 (σ8 3)) 24 v24x9) 27 (σ8 4)) 28 (σ8 5)) 29 v29x12) H8)
        (ob (vInt .mul (σ8 3) (σ8 3)) fun v32x13 =>
      mkS 1 1 #[(.bool false)] 4 v32x13 v32x13 H8 fun v33x14 H15 =>
      ob (vInt .mul (σ8 4) (σ8 3)) fun v36x16 =>
      ob (vInt .add v36x16 (σ8 5)) fun v38x17 =>
      bS 1 1 #[(.int .i64 0)] 2 [(0, v38x17)] H15 fun v39x18 H19 =>
      jn (fun σ20 H20 =>
        ob (vInt .mul (σ20 4) (σ20 3)) fun v117x21 =>
        ob (vInt .add v117x21 (σ20 5)) fun v119x22 =>
        ob (vIx 1 (σ20 6) v119x22) fun v120x23 =>
        ob (vLoad v120x23 H20) fun v121x24 =>
        cnd v121x24
          (Q8 .ret (up (up (up (up (up (up (up (up (up σ20 114 (σ20 6)) 115 (σ20 4)) 116 (σ20 3)) 117 v117x21) 118 (σ20 5)) 119 v119x22) 120 v120x23) 121 v121x24) 2 (.bool false)) H20)
          (J10 (up (up (up (up (up (up (up (up σ20 114 (σ20 6)) 115 (σ20 4)) 116 (σ20 3)) 117 v117x21) 118 (σ20 5)) 119 v119x22) 120 v120x23) 121 v121x24) H20)) fun J20 =>
      lpE (fun Q25 σ25 H25 =>
        ob (vLenSl (σ25 7)) fun v42x26 =>
        ob (vInt .lss (σ25 8) v42x26) fun v43x27 =>
        cnd v43x27
          (jn (fun σ28 H28 =>
          ob (vInt .add (σ28 8) (.int .i64 1)) fun v45x29 =>
          Q25 .normal (up (up (up σ28 44 (σ28 8)) 45 v45x29) 8 v45x29) H28) fun J28 =>
        lpE (fun Q30 σ30 H30 =>
          ob (vNilC (σ30 0)) fun v48x31 =>
          ob (vFa 0 v48x31) fun v49x32 =>
          ob (vLoad v49x32 H30) fun v50x33 =>
          ob (vInt .lss (σ30 9) v50x33) fun v51x34 =>
          cnd v51x34
            (jn (fun σ35 H35 =>
            ob (vInt .add (σ35 9) (.int .i64 1)) fun v53x36 =>
            Q30 .normal (up (up (up σ35 52 (σ35 9)) 53 v53x36) 9 v53x36) H35) fun J35 =>
          lpE (fun Q37 σ37 H37 =>
            ob (vNilC (σ37 0)) fun v56x38 =>
            ob (vFa 0 v56x38) fun v57x39 =>
            ob (vLoad v57x39 H37) fun v58x40 =>
            ob (vInt .lss (σ37 10) v58x40) fun v59x41 =>
            cnd v59x41
              (ob (vIx 1 (σ37 7) (σ37 8)) fun v66x42 =>
            ob (vLoad v66x42 H37) fun v67x43 =>
            ob (vInt .quo v67x43 (σ37 3)) fun v69x44 =>
            HT prg I.spec_l03Pairs [(σ37 0), v69x44, (σ37 9)].toArray H37 fun v71x45 H46 =>
            ob (vExt v71x45 0) fun v72x47 =>
            ob (vExt v71x45 1) fun v73x48 =>
            ob (vIx 1 (σ37 7) (σ37 8)) fun v78x49 =>
            ob (vLoad v78x49 H46) fun v79x50 =>
            ob (vInt .rem v79x50 (σ37 3)) fun v81x51 =>
            HT prg I.spec_l03Pairs [(σ37 0), v81x51, (σ37 10)].toArray H46 fun v83x52 H53 =>
            ob (vExt v83x52 0) fun v84x54 =>
            ob (vExt v83x52 1) fun v85x55 =>
            ob (vInt .neq v73x48 v85x55) fun v88x56 =>
            gop v88x56 false (fun K57 => K57 (σ37 6) H53) H53 fun v90x58 H59 =>
            gop v88x56 false (fun K60 => K60 v72x47 H59) H59 fun v91x61 H62 =>
            gop v88x56 false (fun K63 => K63 (σ37 3) H62) H62 fun v92x64 H65 =>
            gop v88x56 false (fun K66 => ob (vInt .mul v91x61 v92x64) fun u => K66 u H65) H65 fun v93x67 H68 =>
            gop v88x56 false (fun K69 => K69 v84x54 H68) H68 fun v94x70 H71 =>
            gop v88x56 false (fun K72 => ob (vInt .add v93x67 v94x70) fun u => K72 u H71) H71 fun v95x73 H74 =>
            gop v88x56 false (fun K75 => ob (vIx 1 v90x58 v95x73) fun u => K75 u H74) H74 fun v96x76 H77 =>
            gop v88x56 false (fun K78 => ob (vLoad v96x76 H77) fun u => K78 u H77) H77 fun v97x79 H80 =>
            ob (vPick v88x56 (.bool true) v97x79) fun v98x81 =>
            cnd v98x81
              (ob (vInt .add (σ37 10) (.int .i64 1)) fun v61x82 =>
            Q37 .normal (up (up (up (up (up (up (up (up (up (up (up (up (up (up (up (up (up (up (up (up (up (up (up (up (up (up (up (up (up (up (up (up (up (up (up (up (up (up (up (up (up (up (up (up (up (up (up (up (up (up σ37 54 (σ37 10)) 55 (σ37 0)) 56 v56x38) 57 v57x39) 58 v58x40) 59 v59x41) 63 (σ37 0)) 64 (σ37 7)) 65 (σ37 8)) 66 v66x42) 67 v67x43) 68 (σ37 3)) 69 v69x44) 70 (σ37 9)) 71 v71x45) 62 v71x45) 72 v72x47) 73 v73x48) 11 v72x47) 12 v73x48) 75 (σ37 0)) 76 (σ37 7)) 77 (σ37 8)) 78 v78x49) 79 v79x50) 80 (σ37 3)) 81 v81x51) 82 (σ37 10)) 83 v83x52) 74 v83x52) 84 v84x54) 85 v85x55) 13 v84x54) 14 v85x55) 86 v73x48) 87 v85x55) 88 v88x56) 89 v88x56) 90 v90x58) 91 v91x61) 92 v92x64) 93 v93x67) 94 v94x70) 95 v95x73) 96 v96x76) 97 v97x79) 98 v98x81) 60 (σ37 10)) 61 v61x82) 10 v61x82) H80)
              (ob (vInt .mul v72x47 (σ37 3)) fun v102x83 =>
            ob (vInt .add v102x83 v84x54) fun v104x84 =>
            ob (vIx 1 (σ37 6) v104x84) fun v105x85 =>
            st 1 v105x85 (.bool true) H80 fun H86 =>
            ob (vInt .mul v72x47 (σ37 3)) fun v109x87 =>
            ob (vInt .add v109x87 v84x54) fun v111x88 =>
            bS 1 1 #[(.int .i64 0)] 2 [(0, v111x88)] H86 fun v112x89 H90 =>
            apd 1 8 #[(.int .i64 0)] 2 (σ37 7) v112x89 H90 fun v113x91 H92 =>
            ob (vInt .add (σ37 10) (.int .i64 1)) fun v61x93 =>
            Q37 .normal (up (up (up (up (up (up (up (up (up (up (up (up (up (up (up (up (up (up (up (up (up (up (up (up (up (up (up (up (up (up (up (up (up (up (up (up (up (up (up (up (up (up (up (up (up (up (up (up (up (up (up (up (up (up (up (up (up (up (up (up (up (up (up (up (up (up σ37 54 (σ37 10)) 55 (σ37 0)) 56 v56x38) 57 v57x39) 58 v58x40) 59 v59x41) 63 (σ37 0)) 64 (σ37 7)) 65 (σ37 8)) 66 v66x42) 67 v67x43) 68 (σ37 3)) 69 v69x44) 70 (σ37 9)) 71 v71x45) 62 v71x45) 72 v72x47) 73 v73x48) 11 v72x47) 12 v73x48) 75 (σ37 0)) 76 (σ37 7)) 77 (σ37 8)) 78 v78x49) 79 v79x50) 80 (σ37 3)) 81 v81x51) 82 (σ37 10)) 83 v83x52) 74 v83x52) 84 v84x54) 85 v85x55) 13 v84x54) 14 v85x55) 86 v73x48) 87 v85x55) 88 v88x56) 89 v88x56) 90 v90x58) 91 v91x61) 92 v92x64) 93 v93x67) 94 v94x70) 95 v95x73) 96 v96x76) 97 v97x79) 98 v98x81) 99 (σ37 6)) 100 v72x47) 101 (σ37 3)) 102 v102x83) 103 v84x54) 104 v104x84) 105 v105x85) 106 (σ37 7)) 107 v72x47) 108 (σ37 3)) 109 v109x87) 110 v84x54) 111 v111x88) 112 v112x89) 113 v113x91) 7 v113x91) 60 (σ37 10)) 61 v61x93) 10 v61x93) H92))
              (Q37 (.exit 8) (up (up (up (up (up (up σ37 54 (σ37 10)) 55 (σ37 0)) 56 v56x38) 57 v57x39) 58 v58x40) 59 v59x41) H37)) (blkQ 8 (blkQ 7 (thenQ J35 Q30))) (up (up (up (up (up (up (up σ30 46 (σ30 9)) 47 (σ30 0)) 48 v48x31) 49 v49x32) 50 v50x33) 51 v51x34) 10 (.int .i64 0)) H30)
            (Q30 (.exit 6) (up (up (up (up (up (up σ30 46 (σ30 9)) 47 (σ30 0)) 48 v48x31) 49 v49x32) 50 v50x33) 51 v51x34) H30)) (blkQ 6 (blkQ 5 (thenQ J28 Q25))) (up (up (up (up (up σ25 40 (σ25 8)) 41 (σ25 7)) 42 v42x26) 43 v43x27) 9 (.int .i64 0)) H25)
          (Q25 (.exit 4) (up (up (up (up σ25 40 (σ25 8)) 41 (σ25 7)) 42 v42x26) 43 v43x27) H25)) (blkQ 4 (thenQ J20 (blkQ 3 (thenQ J10 Q8)))) (up (up (up (up (up (up (up (up (up (up (up (up (up (up (up (up (up (up (up σ8 22 (σ8 5)) 23 (σ8 3)) 24 v24x9) 27 (σ8 4)) 28 (σ8 5)) 29 v29x12) 30 (σ8 3)) 31 (σ8 3)) 32 v32x13) 33 v33x14) 6 v33x14) 34 (σ8 4)) 35 (σ8 3)) 36 v36x16) 37 (σ8 5)) 38 v38x17) 39 v39x18) 7 v39x18) 8 (.int .i64 0)) H19))
        (Q8 (.exit 2) (up (up (up σ8 22 (σ8 5)) 23 (σ8 3)) 24 v24x9) H8)) (blkQ 2 (blkQ 1 (thenQ J6 Q4))) (up (up (up (up σ4 17 (σ4 4)) 18 (σ4 3)) 19 v19x5) 5 (.int .i64 0)) H4)
      (Q4 (.exit 0) (up (up (up σ4 17 (σ4 4)) 18 (σ4 3)) 19 v19x5) H4)) (blkQ 0 (thenQ J3 (retQ prg [(.tmp 2)] K))) (up (up (up (up (up (S0 [a0]) 2 (.bool false)) 15 a0) 16 v16x1) 3 v16x1) 4 (.int .i64 0)) H2
def O.spec_l03Apart : Nat → Nat × List Nat := fun i => (0, [])
theorem R.spec_l03Apart {a0 : Value} {H : Hp} {K : Value → Hp → Prop} (h : F.spec_l03Apart a0 H K) : HT prg I.spec_l03Apart [a0].toArray H K :=
  HT_of_fev O.spec_l03Apart mixed Try.func141 (by kernel_rfl) (Eq.mpr (by kernel_rfl : fev prg O.spec_l03Apart Try.f141 [a0] H K = F.spec_l03Apart a0 H K) h)

/-! loop.example/g01381/spec.IsOneToOne: function 64 -/
def F.spec_IsOneToOne (a0 : Value) (H : Hp) (K : Value → Hp → Prop) : Prop :=
  nw (a0 : Value).cells 43 H fun v1x1 H2 =>
  HT prg I.spec_l02Is [v1x1].toArray H2 fun v6x3 H4 =>
  ob (vUn .not v6x3) fun v7x5 =>
  gop v7x5 false (fun K6 => ob (vFa 0 v1x1) fun u => K6 u H4) H4 fun v9x7 H8 =>
  gop v7x5 false (fun K9 => ob (vLoad v9x7 H8) fun u => K9 u H8) H8 fun v10x10 H11 =>
  gop v7x5 false (fun K12 => ob (vInt .eql v10x10 (.int .i64 3)) fun u => K12 u H11) H11 fun v11x13 H14 =>
  gop v7x5 false (fun K15 => K15 v11x13 H14) H14 fun v12x16 H17 =>
  gop v12x16 true (fun K18 => ob (vFa 1 v1x1) fun u => K18 u H17) H17 fun v13x19 H20 =>
  gop v12x16 true (fun K21 => ob (vLoad v13x19 H20) fun u => K21 u H20) H20 fun v14x22 H23 =>
  gop v12x16 true (fun K24 => ob (vInt .eql v14x22 (.int .i64 2)) fun u => K24 u H23) H23 fun v15x25 H26 =>
  gop v7x5 false (fun K27 => ob (vPick v12x16 v15x25 (.bool false)) fun u => K27 u H26) H26 fun v16x28 H29 =>
  ob (vPick v7x5 (.bool true) v16x28) fun v17x30 =>
  cnd v17x30
    (K (.tuple #[(.bool false), (.bool false)]) H29)
    (ob (vFa 1 v1x1) fun v18x31 =>
  ob (vLoad v18x31 H29) fun v19x32 =>
  ob (vInt .gtr v19x32 (.int .i64 0)) fun v20x33 =>
  cnd v20x33
    (HT prg I.spec_l03Apart [v1x1].toArray H29 fun v21x34 H35 =>
    K (.tuple #[v21x34, (.bool true)]) H35)
    (jn (fun σ36 H36 =>
    K (.tuple #[(.bool true), (.bool true)]) H36) fun J36 =>
  ob (vFa 2 v1x1) fun v22x37 =>
  ob (vLoad v22x37 H29) fun v23x38 =>
  ob (vLenSl v23x38) fun v24x39 =>
  lpE (fun Q40 σ40 H40 =>
    ob (vInt .lss (σ40 25) (σ40 24)) fun v26x41 =>
    cnd v26x41
      (jn (fun σ42 H42 =>
      ob (vInt .add (σ42 25) (.int .i64 1)) fun v44x43 =>
      Q40 .normal (up (up σ42 44 v44x43) 25 v44x43) H42) fun J42 =>
    lpE (fun Q44 σ44 H44 =>
      ob (vInt .lss (σ44 5) (σ44 4)) fun v30x45 =>
      cnd v30x45
        (ob (vFa 2 (σ44 1)) fun v33x46 =>
      ob (vLoad v33x46 H44) fun v34x47 =>
      ob (vIx 1 v34x47 (σ44 4)) fun v36x48 =>
      ob (vLoad v36x48 H44) fun v37x49 =>
      ob (vFa 2 (σ44 1)) fun v38x50 =>
      ob (vLoad v38x50 H44) fun v39x51 =>
      ob (vIx 1 v39x51 (σ44 5)) fun v41x52 =>
      ob (vLoad v41x52 H44) fun v42x53 =>
      ob (vInt .eql v37x49 v42x53) fun v43x54 =>
      cnd v43x54
        (Q44 .ret (up (up (up (up (up (up (up (up (up (up (up (up (up (up (up (up σ44 28 (σ44 5)) 29 (σ44 4)) 30 v30x45) 33 v33x46) 34 v34x47) 35 (σ44 4)) 36 v36x48) 37 v37x49) 38 v38x50) 39 v39x51) 40 (σ44 5)) 41 v41x52) 42 v42x53) 43 v43x54) 2 (.bool false)) 3 (.bool true)) H44)
        (ob (vInt .add (σ44 5) (.int .i64 1)) fun v32x55 =>
      Q44 .normal (up (up (up (up (up (up (up (up (up (up (up (up (up (up (up (up (up σ44 28 (σ44 5)) 29 (σ44 4)) 30 v30x45) 33 v33x46) 34 v34x47) 35 (σ44 4)) 36 v36x48) 37 v37x49) 38 v38x50) 39 v39x51) 40 (σ44 5)) 41 v41x52) 42 v42x53) 43 v43x54) 31 (σ44 5)) 32 v32x55) 5 v32x55) H44))
        (Q44 (.exit 2) (up (up (up σ44 28 (σ44 5)) 29 (σ44 4)) 30 v30x45) H44)) (blkQ 2 (blkQ 1 (thenQ J42 Q40))) (up (up (up (up σ40 26 v26x41) 27 (σ40 25)) 4 (σ40 25)) 5 (.int .i64 0)) H40)
      (Q40 (.exit 0) (up σ40 26 v26x41) H40)) (blkQ 0 (thenQ J36 (retQ prg [(.tmp 2), (.tmp 3)] K))) (up (up (up (up (up (up (up (up (up (up (up (up (up (up (up (up (up (up (up (up (up (up (S0 [a0]) 1 v1x1) 2 (.bool false)) 3 (.bool false)) 6 v6x3) 7 v7x5) 8 v7x5) 9 v9x7) 10 v10x10) 11 v11x13) 12 v12x16) 13 v13x19) 14 v14x22) 15 v15x25) 16 v16x28) 17 v17x30) 18 v18x31) 19 v19x32) 20 v20x33) 22 v22x37) 23 v23x38) 24 v24x39) 25 (.int .i64 0)) H29))
def O.spec_IsOneToOne : Nat → Nat × List Nat := fun i => bif Nat.beq i 11 then (0, [0, 1, 2, 3, 4, 5, 6, 7, 8, 9, 10]) else (0, [])
theorem R.spec_IsOneToOne {a0 : Value} {H : Hp} {K : Value → Hp → Prop} (h : F.spec_IsOneToOne a0 H K) : HT prg I.spec_IsOneToOne [a0].toArray H K :=
  HT_of_fev O.spec_IsOneToOne mixed Try.func64 (by kernel_rfl) (Eq.mpr (by kernel_rfl : fev prg O.spec_IsOneToOne Try.f64 [a0] H K = F.spec_IsOneToOne a0 H K) h)

/-! loop.example/g01381/spec.IsEvenRule: function 65 -/
def F.spec_IsEvenRule (a0 : Value) (H : Hp) (K : Value → Hp → Prop) : Prop :=
  nw (a0 : Value).cells 43 H fun v1x1 H2 =>
  HT prg I.spec_l02Is [v1x1].toArray H2 fun v7x3 H4 =>
  ob (vUn .not v7x3) fun v8x5 =>
  cnd v8x5
    (K (.tuple #[(.bool false), (.bool false)]) H4)
    (ob (vFa 0 v1x1) fun v9x6 =>
  ob (vLoad v9x6 H4) fun v10x7 =>
  mkS 1 8 #[(.int .i64 0)] 2 v10x7 v10x7 H4 fun v11x8 H9 =>
  jn (fun σ10 H10 =>
    jn (fun σ11 H11 =>
      K (.tuple #[(.bool true), (.bool true)]) H11) fun J11 =>
    ob (vLenSl (σ10 4)) fun v30x12 =>
    lpE (fun Q13 σ13 H13 =>
      ob (vInt .lss (σ13 31) (σ13 30)) fun v32x14 =>
      cnd v32x14
        (ob (vIx 1 (σ13 4) (σ13 31)) fun v36x15 =>
      ob (vLoad v36x15 H13) fun v37x16 =>
      ob (vIx 1 (σ13 4) (.int .i64 0)) fun v39x17 =>
      ob (vLoad v39x17 H13) fun v40x18 =>
      ob (vInt .neq v37x16 v40x18) fun v41x19 =>
      cnd v41x19
        (Q13 .ret (up (up (up (up (up (up (up (up (up (up (up (up (up σ13 32 v32x14) 33 (σ13 31)) 6 (σ13 31)) 34 (σ13 4)) 35 (σ13 31)) 36 v36x15) 37 v37x16) 38 (σ13 4)) 39 v39x17) 40 v40x18) 41 v41x19) 2 (.bool false)) 3 (.bool true)) H13)
        (ob (vInt .add (σ13 31) (.int .i64 1)) fun v42x20 =>
      Q13 .normal (up (up (up (up (up (up (up (up (up (up (up (up (up σ13 32 v32x14) 33 (σ13 31)) 6 (σ13 31)) 34 (σ13 4)) 35 (σ13 31)) 36 v36x15) 37 v37x16) 38 (σ13 4)) 39 v39x17) 40 v40x18) 41 v41x19) 42 v42x20) 31 v42x20) H13))
        (Q13 (.exit 2) (up σ13 32 v32x14) H13)) (blkQ 2 (thenQ J11 (retQ prg [(.tmp 2), (.tmp 3)] K))) (up (up (up σ10 29 (σ10 4)) 30 v30x12) 31 (.int .i64 0)) H10) fun J10 =>
  ob (vFa 2 v1x1) fun v12x21 =>
  ob (vLoad v12x21 H9) fun v13x22 =>
  ob (vLenSl v13x22) fun v14x23 =>
  lpE (fun Q24 σ24 H24 =>
    ob (vInt .lss (σ24 15) (σ24 14)) fun v16x25 =>
    cnd v16x25
      (ob (vFa 2 (σ24 1)) fun v19x26 =>
    ob (vLoad v19x26 H24) fun v20x27 =>
    ob (vIx 1 v20x27 (σ24 15)) fun v22x28 =>
    ob (vLoad v22x28 H24) fun v23x29 =>
    ob (vIx 1 (σ24 4) v23x29) fun v24x30 =>
    ob (vLoad v24x30 H24) fun v25x31 =>
    ob (vInt .add v25x31 (.int .i64 1)) fun v26x32 =>
    ob (vIx 1 (σ24 4) v23x29) fun v27x33 =>
    st 1 v27x33 v26x32 H24 fun H34 =>
    ob (vInt .add (σ24 15) (.int .i64 1)) fun v28x35 =>
    Q24 .normal (up (up (up (up (up (up (up (up (up (up (up (up (up (up (up σ24 16 v16x25) 17 (σ24 15)) 5 (σ24 15)) 18 (σ24 4)) 19 v19x26) 20 v20x27) 21 (σ24 15)) 22 v22x28) 23 v23x29) 24 v24x30) 25 v25x31) 26 v26x32) 27 v27x33) 28 v28x35) 15 v28x35) H34)
      (Q24 (.exit 0) (up σ24 16 v16x25) H24)) (blkQ 0 (thenQ J10 (retQ prg [(.tmp 2), (.tmp 3)] K))) (up (up (up (up (up (up (up (up (up (up (up (up (up (S0 [a0]) 1 v1x1) 2 (.bool false)) 3 (.bool false)) 7 v7x3) 8 v8x5) 9 v9x6) 10 v10x7) 11 v11x8) 4 v11x8) 12 v12x21) 13 v13x22) 14 v14x23) 15 (.int .i64 0)) H9)
def O.spec_IsEvenRule : Nat → Nat × List Nat := fun i => bif Nat.beq i 12 then (0, [0, 1, 2, 3, 4, 5, 6, 7]) else (0, [])
theorem R.spec_IsEvenRule {a0 : Value} {H : Hp} {K : Value → Hp → Prop} (h : F.spec_IsEvenRule a0 H K) : HT prg I.spec_IsEvenRule [a0].toArray H K :=
  HT_of_fev O.spec_IsEvenRule mixed Try.func65 (by kernel_rfl) (Eq.mpr (by kernel_rfl : fev prg O.spec_IsEvenRule Try.f65 [a0] H K = F.spec_IsEvenRule a0 H K) h)

/-! loop.example/g01381/impl.worded: function 142 -/
def F.impl_worded (a0 a1 : Value) (H : Hp) (K : Value → Hp → Prop) : Prop :=
  nw (a0 : Value).cells 43 H fun v2x1 H2 =>
  ob (vLoadN 3 v2x1 H2) fun v5x3 =>
  HT prg I.impl_ValidRule [v5x3].toArray H2 fun v6x4 H5 =>
  gop v6x4 true (fun K6 => K6 a1 H5) H5 fun v8x7 H8 =>
  gop v6x4 true (fun K9 => ob (vFa 0 v2x1) fun u => K9 u H8) H8 fun v9x10 H11 =>
  gop v6x4 true (fun K12 => ob (vLoad v9x10 H11) fun u => K12 u H11) H11 fun v10x13 H14 =>
  gop v6x4 true (fun K15 => ob (vInt .sub v10x13 (.int .i64 1)) fun u => K15 u H14) H14 fun v11x16 H17 =>
  gop v6x4 true (fun K18 => HT prg I.impl_areMany [v8x7, (.int .i64 1), (.int .i64 12), (.int .i64 0), v11x16].toArray H17 K18) H17 fun v12x19 H20 =>
  ob (vPick v6x4 v12x19 (.bool false)) fun v13x21 =>
  K v13x21 H20
def O.impl_worded : Nat → Nat × List Nat := fun i => (0, [])
theorem R.impl_worded {a0 a1 : Value} {H : Hp} {K : Value → Hp → Prop} (h : F.impl_worded a0 a1 H K) : HT prg I.impl_worded [a0, a1].toArray H K :=
  HT_of_fev O.impl_worded mixed Try.func142 (by kernel_rfl) (Eq.mpr (by kernel_rfl : fev prg O.impl_worded Try.f142 [a0, a1] H K = F.impl_worded a0 a1 H K) h)

/-! math/bits.Mul32: function 204 -/
def F.math_bits_Mul32 (a0 a1 : Value) (H : Hp) (K : Value → Hp → Prop) : Prop :=
  ob (vCI .u64 a0) fun v8x1 =>
  ob (vCI .u64 a1) fun v10x2 =>
  ob (vInt .mul v8x1 v10x2) fun v11x3 =>
  ob (vInt .shr v11x3 (.int .u64 32)) fun v13x4 =>
  ob (vCI .u32 v13x4) fun v14x5 =>
  ob (vCI .u32 v11x3) fun v16x6 =>
  K (.tuple #[v14x5, v16x6]) H
def O.math_bits_Mul32 : Nat → Nat × List Nat := fun i => (0, [])
theorem R.math_bits_Mul32 {a0 a1 : Value} {H : Hp} {K : Value → Hp → Prop} (h : F.math_bits_Mul32 a0 a1 H K) : HT prg I.math_bits_Mul32 [a0, a1].toArray H K :=
  HT_of_fev O.math_bits_Mul32 mixed Try.func204 (by kernel_rfl) (Eq.mpr (by kernel_rfl : fev prg O.math_bits_Mul32 Try.f204 [a0, a1] H K = F.math_bits_Mul32 a0 a1 H K) h)

/-! math/bits.Mul64: function 205 -/
def F.math_bits_Mul64 (a0 a1 : Value) (H : Hp) (K : Value → Hp → Prop) : Prop :=
  ob (vInt .and a0 (.int .u64 4294967295)) fun v15x1 =>
  ob (vInt .shr a0 (.int .u64 32)) fun v17x2 =>
  ob (vInt .and a1 (.int .u64 4294967295)) fun v19x3 =>
  ob (vInt .shr a1 (.int .u64 32)) fun v21x4 =>
  ob (vInt .mul v15x1 v19x3) fun v24x5 =>
  ob (vInt .mul v17x2 v19x3) fun v27x6 =>
  ob (vInt .shr v24x5 (.int .u64 32)) fun v29x7 =>
  ob (vInt .add v27x6 v29x7) fun v30x8 =>
  ob (vInt .and v30x8 (.int .u64 4294967295)) fun v32x9 =>
  ob (vInt .shr v30x8 (.int .u64 32)) fun v34x10 =>
  ob (vInt .mul v15x1 v21x4) fun v38x11 =>
  ob (vInt .add v32x9 v38x11) fun v39x12 =>
  ob (vInt .mul v17x2 v21x4) fun v42x13 =>
  ob (vInt .add v42x13 v34x10) fun v44x14 =>
  ob (vInt .shr v39x12 (.int .u64 32)) fun v46x15 =>
  ob (vInt .add v44x14 v46x15) fun v47x16 =>
  ob (vInt .mul a0 a1) fun v50x17 =>
  K (.tuple #[v47x16, v50x17]) H
def O.math_bits_Mul64 : Nat → Nat × List Nat := fun i => (0, [])
theorem R.math_bits_Mul64 {a0 a1 : Value} {H : Hp} {K : Value → Hp → Prop} (h : F.math_bits_Mul64 a0 a1 H K) : HT prg I.math_bits_Mul64 [a0, a1].toArray H K :=
  HT_of_fev O.math_bits_Mul64 mixed Try.func205 (by kernel_rfl) (Eq.mpr (by kernel_rfl : fev prg O.math_bits_Mul64 Try.f205 [a0, a1] H K = F.math_bits_Mul64 a0 a1 H K) h)

/-! math/bits.Mul: function 186 -/
def F.math_bits_Mul (a0 a1 : Value) (H : Hp) (K : Value → Hp → Prop) : Prop :=
  cnd (.bool false)
    (ob (vCI .u32 a0) fun v12x1 =>
    ob (vCI .u32 a1) fun v14x2 =>
    HT prg I.math_bits_Mul32 [v12x1, v14x2].toArray H fun v15x3 H4 =>
    ob (vExt v15x3 0) fun v16x5 =>
    ob (vExt v15x3 1) fun v17x6 =>
    ob (vCI .u64 v16x5) fun v19x7 =>
    ob (vCI .u64 v17x6) fun v21x8 =>
    K (.tuple #[v19x7, v21x8]) H4)
    (HT prg I.math_bits_Mul64 [a0, a1].toArray H fun v25x9 H10 =>
  ob (vExt v25x9 0) fun v26x11 =>
  ob (vExt v25x9 1) fun v27x12 =>
  K (.tuple #[v26x11, v27x12]) H10)
def O.math_bits_Mul : Nat → Nat × List Nat := fun i => (0, [])
theorem R.math_bits_Mul {a0 a1 : Value} {H : Hp} {K : Value → Hp → Prop} (h : F.math_bits_Mul a0 a1 H K) : HT prg I.math_bits_Mul [a0, a1].toArray H K :=
  HT_of_fev O.math_bits_Mul mixed Try.func186 (by kernel_rfl) (Eq.mpr (by kernel_rfl : fev prg O.math_bits_Mul Try.f186 [a0, a1] H K = F.math_bits_Mul a0 a1 H K) h)

/-! slices.Repeat[[]int64,int64]: function 143 -/
def F.slices_Repeat_int64Zint64 (a0 a1 : Value) (H : Hp) (K : Value → Hp → Prop) : Prop :=
  jn (fun σ1 H1 =>
    ob (vLenSl (σ1 0)) fun v14x2 =>
    ob (vCI .u64 v14x2) fun v15x3 =>
    ob (vCI .u64 (σ1 1)) fun v17x4 =>
    HT prg I.math_bits_Mul [v15x3, v17x4].toArray H1 fun v18x5 H6 =>
    ob (vExt v18x5 0) fun v19x7 =>
    ob (vExt v18x5 1) fun v20x8 =>
    jn (fun σ9 H9 =>
      ob (vCI .i64 (σ9 6)) fun v29x10 =>
      mkS 1 8 #[(.int .i64 0)] 2 v29x10 v29x10 H9 fun v30x11 H12 =>
      hp prg (builtin .copy #[22, 22] 3 #[false, false] [v30x11, (σ9 0)].toArray) H12 (nextH prg (fun v33x13 H14 =>
      jn (fun σ15 H15 =>
        K (σ15 7) H15) fun J15 =>
      lpE (fun Q16 σ16 H16 =>
        ob (vLenSl (σ16 7)) fun v36x17 =>
        ob (vInt .lss (σ16 8) v36x17) fun v37x18 =>
        cnd v37x18
          (ob (vSl3 1 (σ16 7) (some (σ16 8)) none none) fun v41x19 =>
        ob (vSl3 1 (σ16 7) none (some (σ16 8)) none) fun v44x20 =>
        hp prg (builtin .copy #[22, 22] 3 #[false, false] [v41x19, v44x20].toArray) H16 (nextH prg (fun v45x21 H22 =>
        ob (vInt .add (σ16 8) v45x21) fun v46x23 =>
        Q16 .normal (up (up (up (up (up (up (up (up (up (up (up (up (up (up σ16 34 (σ16 8)) 35 (σ16 7)) 36 v36x17) 37 v37x18) 38 (σ16 8)) 39 (σ16 7)) 40 (σ16 8)) 41 v41x19) 42 (σ16 7)) 43 (σ16 8)) 44 v44x20) 45 v45x21) 46 v46x23) 8 v46x23) H22)))
          (Q16 (.exit 0) (up (up (up (up σ16 34 (σ16 8)) 35 (σ16 7)) 36 v36x17) 37 v37x18) H16)) (blkQ 0 (thenQ J15 (retQ prg [(.tmp 4)] K))) (up (up (up (up (up (up (up (up σ9 28 (σ9 6)) 29 v29x10) 30 v30x11) 7 v30x11) 31 v30x11) 32 (σ9 0)) 33 v33x13) 8 v33x13) H14))) fun J9 =>
    ob (vInt .gtr v19x7 (.int .u64 0)) fun v22x24 =>
    gop v22x24 false (fun K25 => K25 v20x8 H6) H6 fun v24x26 H27 =>
    gop v22x24 false (fun K28 => ob (vInt .gtr v24x26 (.int .u64 9223372036854775807)) fun u => K28 u H27) H27 fun v25x29 H30 =>
    ob (vPick v22x24 (.bool true) v25x29) fun v26x31 =>
    cnd v26x31
      (ob (val prg (Instr.makeInterface 9 (.string ⟨#[116, 104, 101, 32, 114, 101, 115, 117, 108, 116, 32, 111, 102, 32, 40, 108, 101, 110, 40, 120, 41, 32, 42, 32, 99, 111, 117, 110, 116, 41, 32, 111, 118, 101, 114, 102, 108, 111, 119, 115]⟩)) H30) fun v27x32 =>
      hp prg (do pure (Next.value (← Instr.panic v27x32))) H30 (nextH prg (fun _ H33 =>
      J9 (up (up (up (up (up (up (up (up (up (up (up (up (up (up (up (up (up (up σ1 13 (σ1 0)) 14 v14x2) 15 v15x3) 16 (σ1 1)) 17 v17x4) 18 v18x5) 12 v18x5) 19 v19x7) 20 v20x8) 5 v19x7) 6 v20x8) 21 v19x7) 22 v22x24) 23 v22x24) 24 v24x26) 25 v25x29) 26 v26x31) 27 v27x32) H33)))
      (J9 (up (up (up (up (up (up (up (up (up (up (up (up (up (up (up (up (up σ1 13 (σ1 0)) 14 v14x2) 15 v15x3) 16 (σ1 1)) 17 v17x4) 18 v18x5) 12 v18x5) 19 v19x7) 20 v20x8) 5 v19x7) 6 v20x8) 21 v19x7) 22 v22x24) 23 v22x24) 24 v24x26) 25 v25x29) 26 v26x31) H30)) fun J1 =>
  ob (vInt .lss a1 (.int .i64 0)) fun v10x34 =>
  cnd v10x34
    (ob (val prg (Instr.makeInterface 9 (.string ⟨#[99, 97, 110, 110, 111, 116, 32, 98, 101, 32, 110, 101, 103, 97, 116, 105, 118, 101]⟩)) H) fun v11x35 =>
    hp prg (do pure (Next.value (← Instr.panic v11x35))) H (nextH prg (fun _ H36 =>
    J1 (up (up (up (up (S0 [a0, a1]) 4 (.slice none 0 0)) 9 a1) 10 v10x34) 11 v11x35) H36)))
    (J1 (up (up (up (S0 [a0, a1]) 4 (.slice none 0 0)) 9 a1) 10 v10x34) H)
def O.slices_Repeat_int64Zint64 : Nat → Nat × List Nat := fun i => bif Nat.beq i 9 then (0, [0, 1, 2, 3, 4, 5, 6, 7, 8, 9]) else (0, [])
theorem R.slices_Repeat_int64Zint64 {a0 a1 : Value} {H : Hp} {K : Value → Hp → Prop} (h : F.slices_Repeat_int64Zint64 a0 a1 H K) : HT prg I.slices_Repeat_int64Zint64 [a0, a1].toArray H K :=
  HT_of_fev O.slices_Repeat_int64Zint64 mixed Try.func143 (by kernel_rfl) (Eq.mpr (by kernel_rfl : fev prg O.slices_Repeat_int64Zint64 Try.f143 [a0, a1] H K = F.slices_Repeat_int64Zint64 a0 a1 H K) h)

/-! loop.example/g01381/impl.WordsBack: function 66 -/
def F.impl_WordsBack (a0 a1 : Value) (H : Hp) (K : Value → Hp → Prop) : Prop :=
  nw (a0 : Value).cells 43 H fun v2x1 H2 =>
  ob (vLoadN 3 v2x1 H2) fun v15x3 =>
  HT prg I.impl_worded [v15x3, a1].toArray H2 fun v17x4 H5 =>
  ob (vUn .not v17x4) fun v18x6 =>
  cnd v18x6
    (K (.tuple #[(.int .i64 0), (.bool false)]) H5)
    (bS 1 1 #[(.int .i64 0)] 2 [(0, (.int .i64 1))] H5 fun v19x7 H8 =>
  ob (vLoadN 3 v2x1 H8) fun v20x9 =>
  HT prg I.impl_Rule_ends [v20x9].toArray H8 fun v21x10 H11 =>
  HT prg I.slices_Repeat_int64Zint64 [v19x7, v21x10].toArray H11 fun v22x12 H13 =>
  jn (fun σ14 H14 =>
    HT prg I.impl_sumOf [(σ14 6)].toArray H14 fun v66x15 H16 =>
    K (.tuple #[v66x15, (.bool true)]) H16) fun J14 =>
  ob (vLenSl a1) fun v24x17 =>
  lpE (fun Q18 σ18 H18 =>
    ob (vInt .lss (σ18 25) (σ18 24)) fun v26x19 =>
    cnd v26x19
      (jn (fun σ20 H20 =>
      ob (vInt .add (σ20 25) (.int .i64 1)) fun v64x21 =>
      Q18 .normal (up (up σ20 64 v64x21) 25 v64x21) H20) fun J20 =>
    ob (vIx 1 (σ18 23) (σ18 25)) fun v27x22 =>
    ob (vLoad v27x22 H18) fun v28x23 =>
    ob (vLenSl (σ18 6)) fun v30x24 =>
    mkS 1 8 #[(.int .i64 0)] 2 v30x24 v30x24 H18 fun v31x25 H26 =>
    jn (fun σ27 H27 =>
      J20 (up (up σ27 63 (σ27 9)) 6 (σ27 9)) H27) fun J27 =>
    ob (vLenSl (σ18 6)) fun v33x28 =>
    lpE (fun Q29 σ29 H29 =>
      ob (vInt .lss (σ29 34) (σ29 33)) fun v35x30 =>
      cnd v35x30
        (jn (fun σ31 H31 =>
        ob (vInt .add (σ31 34) (.int .i64 1)) fun v62x32 =>
        Q29 .normal (up (up σ31 62 v62x32) 34 v62x32) H31) fun J31 =>
      ob (vIx 1 (σ29 32) (σ29 34)) fun v37x33 =>
      ob (vLoad v37x33 H29) fun v38x34 =>
      ob (vFa 0 (σ29 2)) fun v39x35 =>
      ob (vLoad v39x35 H29) fun v40x36 =>
      lpE (fun Q37 σ37 H37 =>
        ob (vInt .lss (σ37 41) (σ37 40)) fun v42x38 =>
        cnd v42x38
          (ob (vLoadN 3 (σ37 2) H37) fun v45x39 =>
        HT prg I.impl_Rule_way [v45x39, (σ37 10), (σ37 41)].toArray H37 fun v48x40 H41 =>
        ob (vExt v48x40 0) fun v49x42 =>
        ob (vExt v48x40 1) fun v50x43 =>
        ob (vInt .eql v50x43 (σ37 8)) fun v53x44 =>
        cnd v53x44
          (ob (vIx 1 (σ37 9) v49x42) fun v56x45 =>
          ob (vLoad v56x45 H41) fun v57x46 =>
          ob (vInt .add v57x46 (σ37 11)) fun v59x47 =>
          ob (vIx 1 (σ37 9) v49x42) fun v60x48 =>
          st 1 v60x48 v59x47 H41 fun H49 =>
          ob (vInt .add (σ37 41) (.int .i64 1)) fun v61x50 =>
        Q37 .normal (up (up (up (up (up (up (up (up (up (up (up (up (up (up (up (up (up (up (up (up (up (up (up (up σ37 42 v42x38) 43 (σ37 41)) 12 (σ37 41)) 45 v45x39) 46 (σ37 10)) 47 (σ37 41)) 48 v48x40) 44 v48x40) 49 v49x42) 50 v50x43) 13 v49x42) 14 v50x43) 51 v50x43) 52 (σ37 8)) 53 v53x44) 54 (σ37 9)) 55 v49x42) 56 v56x45) 57 v57x46) 58 (σ37 11)) 59 v59x47) 60 v60x48) 61 v61x50) 41 v61x50) H49)
          (ob (vInt .add (σ37 41) (.int .i64 1)) fun v61x51 =>
        Q37 .normal (up (up (up (up (up (up (up (up (up (up (up (up (up (up (up (up (up σ37 42 v42x38) 43 (σ37 41)) 12 (σ37 41)) 45 v45x39) 46 (σ37 10)) 47 (σ37 41)) 48 v48x40) 44 v48x40) 49 v49x42) 50 v50x43) 13 v49x42) 14 v50x43) 51 v50x43) 52 (σ37 8)) 53 v53x44) 61 v61x51) 41 v61x51) H41))
          (Q37 (.exit 4) (up σ37 42 v42x38) H37)) (blkQ 4 (blkQ 3 (thenQ J31 Q29))) (up (up (up (up (up (up (up (up (up σ29 35 v35x30) 36 (σ29 34)) 37 v37x33) 38 v38x34) 10 (σ29 34)) 11 v38x34) 39 v39x35) 40 v40x36) 41 (.int .i64 0)) H29)
        (Q29 (.exit 2) (up σ29 35 v35x30) H29)) (blkQ 2 (thenQ J27 (blkQ 1 (thenQ J20 Q18)))) (up (up (up (up (up (up (up (up (up (up (up σ18 26 v26x19) 27 v27x22) 28 v28x23) 8 v28x23) 29 (σ18 6)) 30 v30x24) 31 v31x25) 9 v31x25) 32 (σ18 6)) 33 v33x28) 34 (.int .i64 0)) H26)
      (Q18 (.exit 0) (up σ18 26 v26x19) H18)) (blkQ 0 (thenQ J14 (retQ prg [(.tmp 4), (.tmp 5)] K))) (up (up (up (up (up (up (up (up (up (up (up (up (up (up (up (S0 [a0, a1]) 2 v2x1) 4 (.int .i64 0)) 5 (.bool false)) 15 v15x3) 16 a1) 17 v17x4) 18 v18x6) 19 v19x7) 20 v20x9) 21 v21x10) 22 v22x12) 6 v22x12) 23 a1) 24 v24x17) 25 (.int .i64 0)) H13)
def O.impl_WordsBack : Nat → Nat × List Nat := fun i => (0, [])
theorem R.impl_WordsBack {a0 a1 : Value} {H : Hp} {K : Value → Hp → Prop} (h : F.impl_WordsBack a0 a1 H K) : HT prg I.impl_WordsBack [a0, a1].toArray H K :=
  HT_of_fev O.impl_WordsBack mixed Try.func66 (by kernel_rfl) (Eq.mpr (by kernel_rfl : fev prg O.impl_WordsBack Try.f66 [a0, a1] H K = F.impl_WordsBack a0 a1 H K) h)

/-! loop.example/g01381/spec.l03Word: function 145 -/
def F.spec_l03Word (a0 a1 : Value) (H : Hp) (K : Value → Hp → Prop) : Prop :=
  HT prg I.spec_l02Is [a0].toArray H fun v7x1 H2 =>
  ob (vUn .not v7x1) fun v8x3 =>
  gop v8x3 false (fun K4 => K4 a1 H2) H2 fun v10x5 H6 =>
  gop v8x3 false (fun K7 => ob (vLenSl v10x5) fun u => K7 u H6) H6 fun v11x8 H9 =>
  gop v8x3 false (fun K10 => ob (vInt .lss v11x8 (.int .i64 1)) fun u => K10 u H9) H9 fun v12x11 H12 =>
  ob (vPick v8x3 (.bool true) v12x11) fun v13x13 =>
  gop v13x13 false (fun K14 => K14 a1 H12) H12 fun v15x15 H16 =>
  gop v13x13 false (fun K17 => ob (vLenSl v15x15) fun u => K17 u H16) H16 fun v16x18 H19 =>
  gop v13x13 false (fun K20 => ob (vInt .gtr v16x18 (.int .i64 12)) fun u => K20 u H19) H19 fun v17x21 H22 =>
  ob (vPick v13x13 (.bool true) v17x21) fun v18x23 =>
  cnd v18x23
    (K (.bool false) H22)
    (jn (fun σ24 H24 =>
    K (.bool true) H24) fun J24 =>
  ob (vLenSl a1) fun v20x25 =>
  lpE (fun Q26 σ26 H26 =>
    ob (vInt .lss (σ26 21) (σ26 20)) fun v22x27 =>
    cnd v22x27
      (ob (vIx 1 (σ26 1) (σ26 21)) fun v26x28 =>
    ob (vLoad v26x28 H26) fun v27x29 =>
    ob (vNilC (σ26 0)) fun v29x30 =>
    ob (vFa 0 v29x30) fun v30x31 =>
    ob (vLoad v30x31 H26) fun v31x32 =>
    ob (vInt .sub v31x32 (.int .i64 1)) fun v32x33 =>
    HT prg I.spec_l00In [v27x29, (.int .i64 0), v32x33].toArray H26 fun v33x34 H35 =>
    Le H26 H35 ∧ (ob (vUn .not v33x34) fun v34x36 =>
    cnd v34x36
      (Q26 .ret (up (up (up (up (up (up (up (up (up (up (up (up (up (up (up σ26 22 v22x27) 23 (σ26 21)) 5 (σ26 21)) 24 (σ26 1)) 25 (σ26 21)) 26 v26x28) 27 v27x29) 28 (σ26 0)) 29 v29x30) 30 v30x31) 31 v31x32) 32 v32x33) 33 v33x34) 34 v34x36) 4 (.bool false)) H35)
      (ob (vInt .add (σ26 21) (.int .i64 1)) fun v35x37 =>
    Q26 .normal (up (up (up (up (up (up (up (up (up (up (up (up (up (up (up (up σ26 22 v22x27) 23 (σ26 21)) 5 (σ26 21)) 24 (σ26 1)) 25 (σ26 21)) 26 v26x28) 27 v27x29) 28 (σ26 0)) 29 v29x30) 30 v30x31) 31 v31x32) 32 v32x33) 33 v33x34) 34 v34x36) 35 v35x37) 21 v35x37) H35)))
      (Q26 (.exit 0) (up σ26 22 v22x27) H26)) (blkQ 0 (thenQ J24 (retQ prg [(.tmp 4)] K))) (up (up (up (up (up (up (up (up (up (up (up (up (up (up (up (up (up (S0 [a0, a1]) 4 (.bool false)) 6 a0) 7 v7x1) 8 v8x3) 9 v8x3) 10 v10x5) 11 v11x8) 12 v12x11) 13 v13x13) 14 v13x13) 15 v15x15) 16 v16x18) 17 v17x21) 18 v18x23) 19 a1) 20 v20x25) 21 (.int .i64 0)) H22)
def O.spec_l03Word : Nat → Nat × List Nat := fun i => bif Nat.beq i 6 then (0, [0, 1, 2, 3, 4, 5, 6, 7, 8, 9, 10]) else (0, [])
theorem R.spec_l03Word {a0 a1 : Value} {H : Hp} {K : Value → Hp → Prop} (h : F.spec_l03Word a0 a1 H K) : HT prg I.spec_l03Word [a0, a1].toArray H K :=
  HT_of_fev O.spec_l03Word mixed Try.func145 (by kernel_rfl) (Eq.mpr (by kernel_rfl : fev prg O.spec_l03Word Try.f145 [a0, a1] H K = F.spec_l03Word a0 a1 H K) h)

/-! loop.example/g01381/spec.WordsBack: function 67 -/
def F.spec_WordsBack (a0 a1 : Value) (H : Hp) (K : Value → Hp → Prop) : Prop :=
  nw (a0 : Value).cells 43 H fun v2x1 H2 =>
  HT prg I.spec_l03Word [v2x1, a1].toArray H2 fun v18x3 H4 =>
  ob (vUn .not v18x3) fun v19x5 =>
  cnd v19x5
    (K (.tuple #[(.int .i64 0), (.bool false)]) H4)
    (HT prg I.spec_l03Ends [v2x1].toArray H4 fun v20x6 H7 =>
  mkS 1 8 #[(.int .i64 0)] 2 v20x6 v20x6 H7 fun v22x8 H9 =>
  jn (fun σ10 H10 =>
    jn (fun σ11 H11 =>
      jn (fun σ12 H12 =>
        K (.tuple #[(σ12 15), (.bool true)]) H12) fun J12 =>
      ob (vLenSl (σ11 7)) fun v75x13 =>
      lpE (fun Q14 σ14 H14 =>
        ob (vInt .lss (σ14 76) (σ14 75)) fun v77x15 =>
        cnd v77x15
          (ob (vIx 1 (σ14 7) (σ14 76)) fun v82x16 =>
        ob (vLoad v82x16 H14) fun v83x17 =>
        ob (vInt .add (σ14 15) v83x17) fun v84x18 =>
        ob (vInt .add (σ14 76) (.int .i64 1)) fun v85x19 =>
        Q14 .normal (up (up (up (up (up (up (up (up (up (up (up (up σ14 77 v77x15) 78 (σ14 76)) 16 (σ14 76)) 79 (σ14 15)) 80 (σ14 7)) 81 (σ14 76)) 82 v82x16) 83 v83x17) 84 v84x18) 15 v84x18) 85 v85x19) 76 v85x19) H14)
          (Q14 (.exit 8) (up σ14 77 v77x15) H14)) (blkQ 8 (thenQ J12 (retQ prg [(.tmp 4), (.tmp 5)] K))) (up (up (up (up σ11 15 (.int .i64 0)) 74 (σ11 7)) 75 v75x13) 76 (.int .i64 0)) H11) fun J11 =>
    ob (vLenSl (σ10 1)) fun v33x20 =>
    lpE (fun Q21 σ21 H21 =>
      ob (vInt .lss (σ21 34) (σ21 33)) fun v35x22 =>
      cnd v35x22
        (jn (fun σ23 H23 =>
        ob (vInt .add (σ23 34) (.int .i64 1)) fun v73x24 =>
        Q21 .normal (up (up σ23 73 v73x24) 34 v73x24) H23) fun J23 =>
      mkS 1 8 #[(.int .i64 0)] 2 (σ21 6) (σ21 6) H21 fun v38x25 H26 =>
      jn (fun σ27 H27 =>
        J23 (up (up σ27 72 (σ27 10)) 7 (σ27 10)) H27) fun J27 =>
      lpE (fun Q28 σ28 H28 =>
        ob (vInt .lss (σ28 11) (σ28 6)) fun v41x29 =>
        cnd v41x29
          (jn (fun σ30 H30 =>
          ob (vInt .add (σ30 11) (.int .i64 1)) fun v43x31 =>
          Q28 .normal (up (up (up σ30 42 (σ30 11)) 43 v43x31) 11 v43x31) H30) fun J30 =>
        lpE (fun Q32 σ32 H32 =>
          ob (vFa 0 (σ32 2)) fun v45x33 =>
          ob (vLoad v45x33 H32) fun v46x34 =>
          ob (vInt .lss (σ32 12) v46x34) fun v47x35 =>
          cnd v47x35
            (HT prg I.spec_l03Pairs [(σ32 2), (σ32 11), (σ32 12)].toArray H32 fun v53x36 H37 =>
          ob (vExt v53x36 0) fun v54x38 =>
          ob (vExt v53x36 1) fun v55x39 =>
          ob (vIx 1 (σ32 1) (σ32 9)) fun v59x40 =>
          ob (vLoad v59x40 H37) fun v60x41 =>
          ob (vInt .eql v55x39 v60x41) fun v61x42 =>
          cnd v61x42
            (ob (vIx 1 (σ32 10) v54x38) fun v64x43 =>
            ob (vLoad v64x43 H37) fun v65x44 =>
            ob (vIx 1 (σ32 7) (σ32 11)) fun v68x45 =>
            ob (vLoad v68x45 H37) fun v69x46 =>
            ob (vInt .add v65x44 v69x46) fun v70x47 =>
            ob (vIx 1 (σ32 10) v54x38) fun v71x48 =>
            st 1 v71x48 v70x47 H37 fun H49 =>
            ob (vInt .add (σ32 12) (.int .i64 1)) fun v49x50 =>
          Q32 .normal (up (up (up (up (up (up (up (up (up (up (up (up (up (up (up (up (up (up (up (up (up (up (up (up (up (up (up (up (up (up (up σ32 44 (σ32 12)) 45 v45x33) 46 v46x34) 47 v47x35) 51 (σ32 11)) 52 (σ32 12)) 53 v53x36) 50 v53x36) 54 v54x38) 55 v55x39) 13 v54x38) 14 v55x39) 56 v55x39) 57 (σ32 1)) 58 (σ32 9)) 59 v59x40) 60 v60x41) 61 v61x42) 62 (σ32 10)) 63 v54x38) 64 v64x43) 65 v65x44) 66 (σ32 7)) 67 (σ32 11)) 68 v68x45) 69 v69x46) 70 v70x47) 71 v71x48) 48 (σ32 12)) 49 v49x50) 12 v49x50) H49)
            (ob (vInt .add (σ32 12) (.int .i64 1)) fun v49x51 =>
          Q32 .normal (up (up (up (up (up (up (up (up (up (up (up (up (up (up (up (up (up (up (up (up (up σ32 44 (σ32 12)) 45 v45x33) 46 v46x34) 47 v47x35) 51 (σ32 11)) 52 (σ32 12)) 53 v53x36) 50 v53x36) 54 v54x38) 55 v55x39) 13 v54x38) 14 v55x39) 56 v55x39) 57 (σ32 1)) 58 (σ32 9)) 59 v59x40) 60 v60x41) 61 v61x42) 48 (σ32 12)) 49 v49x51) 12 v49x51) H37))
            (Q32 (.exit 6) (up (up (up (up σ32 44 (σ32 12)) 45 v45x33) 46 v46x34) 47 v47x35) H32)) (blkQ 6 (blkQ 5 (thenQ J30 Q28))) (up (up (up (up σ28 39 (σ28 11)) 40 (σ28 6)) 41 v41x29) 12 (.int .i64 0)) H28)
          (Q28 (.exit 4) (up (up (up σ28 39 (σ28 11)) 40 (σ28 6)) 41 v41x29) H28)) (blkQ 4 (thenQ J27 (blkQ 3 (thenQ J23 Q21)))) (up (up (up (up (up (up (up σ21 35 v35x22) 36 (σ21 34)) 9 (σ21 34)) 37 (σ21 6)) 38 v38x25) 10 v38x25) 11 (.int .i64 0)) H26)
        (Q21 (.exit 2) (up σ21 35 v35x22) H21)) (blkQ 2 (thenQ J11 (retQ prg [(.tmp 4), (.tmp 5)] K))) (up (up (up σ10 32 (σ10 1)) 33 v33x20) 34 (.int .i64 0)) H10) fun J10 =>
  ob (vLenSl v22x8) fun v24x52 =>
  lpE (fun Q53 σ53 H53 =>
    ob (vInt .lss (σ53 25) (σ53 24)) fun v26x54 =>
    cnd v26x54
      (ob (vIx 1 (σ53 7) (σ53 25)) fun v30x55 =>
    st 1 v30x55 (.int .i64 1) H53 fun H56 =>
    ob (vInt .add (σ53 25) (.int .i64 1)) fun v31x57 =>
    Q53 .normal (up (up (up (up (up (up (up (up σ53 26 v26x54) 27 (σ53 25)) 8 (σ53 25)) 28 (σ53 7)) 29 (σ53 25)) 30 v30x55) 31 v31x57) 25 v31x57) H56)
      (Q53 (.exit 0) (up σ53 26 v26x54) H53)) (blkQ 0 (thenQ J10 (retQ prg [(.tmp 4), (.tmp 5)] K))) (up (up (up (up (up (up (up (up (up (up (up (up (up (up (S0 [a0, a1]) 2 v2x1) 4 (.int .i64 0)) 5 (.bool false)) 17 a1) 18 v18x3) 19 v19x5) 20 v20x6) 6 v20x6) 21 v20x6) 22 v22x8) 7 v22x8) 23 v22x8) 24 v24x52) 25 (.int .i64 0)) H9)
def O.spec_WordsBack : Nat → Nat × List Nat := fun i => bif Nat.beq i 22 then (0, [0, 1, 2, 3, 4, 5, 6, 7, 8, 9, 10]) else (0, [])
theorem R.spec_WordsBack {a0 a1 : Value} {H : Hp} {K : Value → Hp → Prop} (h : F.spec_WordsBack a0 a1 H K) : HT prg I.spec_WordsBack [a0, a1].toArray H K :=
  HT_of_fev O.spec_WordsBack mixed Try.func67 (by kernel_rfl) (Eq.mpr (by kernel_rfl : fev prg O.spec_WordsBack Try.f67 [a0, a1] H K = F.spec_WordsBack a0 a1 H K) h)

end Go.Proofs.Ytelcmohhjkgjoaa
