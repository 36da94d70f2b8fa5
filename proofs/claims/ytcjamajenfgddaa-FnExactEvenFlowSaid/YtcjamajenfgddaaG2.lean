/- Functions' texts over a partial heap. -/
import Derived.Test.YtcjamajenfgddaaG0
namespace Go.Proofs.Ytcjamajenfgddaa
open HL
set_option linter.unusedVariables false
set_option maxRecDepth 100000
set_option maxHeartbeats 4000000
/-! loop.example/g01381/laws.FnFlows: function 8 -/
def F.laws_FnFlows (a0 a1 : Value) (H : Hp) (K : Value → Hp → Prop) : Prop :=
  HT prg I.laws_r8Long [a0, a1].toArray H fun v41x1 H2 =>
  cnd v41x1
    (K (.bool true) H2)
    (HT prg I.laws_r8At [a1, (.int .i64 40), (.int .i64 4)].toArray H2 fun v43x3 H4 =>
  ob (vInt .add (.int .i64 1) v43x3) fun v44x5 =>
  HT prg I.laws_r8At [a1, (.int .i64 41), (.int .i64 4)].toArray H4 fun v46x6 H7 =>
  ob (vInt .add (.int .i64 1) v46x6) fun v47x8 =>
  HT prg I.laws_r8At [a1, (.int .i64 42), (.int .i64 8)].toArray H7 fun v49x9 H10 =>
  ob (vInt .add (.int .i64 1) v49x9) fun v50x11 =>
  ob (vCF .f32 v50x11) fun v51x12 =>
  fA .quo v51x12 (.float .f32 1082130432) H10 fun v52x13 H14 =>
  HT prg I.laws_r8At [a1, (.int .i64 43), (.int .i64 9)].toArray H14 fun v54x15 H16 =>
  ob (vInt .sub v54x15 (.int .i64 4)) fun v55x17 =>
  ob (vCF .f32 v55x17) fun v56x18 =>
  fA .quo v56x18 (.float .f32 1115684864) H16 fun v57x19 H20 =>
  HT prg I.laws_r8At [a1, (.int .i64 44), (.int .i64 9)].toArray H20 fun v59x21 H22 =>
  ob (vInt .sub v59x21 (.int .i64 4)) fun v60x23 =>
  ob (vCF .f32 v60x23) fun v61x24 =>
  fA .quo v61x24 (.float .f32 1115684864) H22 fun v62x25 H26 =>
  HT prg I.impl_EvenFlow [v44x5, v47x8, v52x13, v57x19, v62x25].toArray H26 fun v69x27 H28 =>
  ob (vExt v69x27 0) fun v70x29 =>
  ob (vExt v69x27 1) fun v71x30 =>
  nw #[(.int .i64 0), (.int .i64 0), (.slice none 0 0), (.slice none 0 0)] 28 H28 fun v10x31 H32 =>
  st 4 v10x31 v70x29 H32 fun H33 =>
  HT prg I.laws_r8At [a1, (.int .i64 45), (.int .i64 17)].toArray H33 fun v73x34 H35 =>
  ob (vCF .f32 v73x34) fun v74x36 =>
  fA .quo v74x36 (.float .f32 1090519040) H35 fun v75x37 H38 =>
  ob (vLoadN 4 v10x31 H38) fun v77x39 =>
  HT prg I.laws_r8At [a1, (.int .i64 46), (.int .i64 6)].toArray H38 fun v80x40 H41 =>
  Le H38 H41 ∧ (HT prg I.impl_RunFlow [v77x39, v75x37, v80x40].toArray H41 fun v81x42 H43 =>
  Le H41 H43 ∧ (ob (vExt v81x42 0) fun v82x44 =>
  ob (vExt v81x42 1) fun v83x45 =>
  nw #[(.int .i64 0), (.int .i64 0), (.slice none 0 0), (.slice none 0 0)] 28 H43 fun v13x46 H47 =>
  st 4 v13x46 v82x44 H47 fun H48 =>
  ob (vLoadN 4 v13x46 H48) fun v85x49 =>
  HT prg I.laws_r8At [a1, (.int .i64 47), v44x5].toArray H48 fun v88x50 H51 =>
  Le H48 H51 ∧ (HT prg I.laws_r8At [a1, (.int .i64 40), v47x8].toArray H51 fun v91x52 H53 =>
  Le H51 H53 ∧ (HT prg I.impl_CellOfFlow [v85x49, v88x50, v91x52].toArray H53 fun v92x54 H55 =>
  Le H53 H55 ∧ (ob (vExt v92x54 0) fun v93x56 =>
  ob (vExt v92x54 1) fun v94x57 =>
  ob (vExt v92x54 2) fun v95x58 =>
  ob (vExt v92x54 3) fun v96x59 =>
  ob (vUn .not v71x30) fun v98x60 =>
  gop v98x60 false (fun K61 => K61 v83x45 H55) H55 fun v100x62 H63 =>
  gop v98x60 false (fun K64 => ob (vUn .not v100x62) fun u => K64 u H63) H63 fun v101x65 H66 =>
  ob (vPick v98x60 (.bool true) v101x65) fun v102x67 =>
  gop v102x67 false (fun K68 => K68 v96x59 H66) H66 fun v104x69 H70 =>
  gop v102x67 false (fun K71 => ob (vUn .not v104x69) fun u => K71 u H70) H70 fun v105x72 H73 =>
  ob (vPick v102x67 (.bool true) v105x72) fun v106x74 =>
  gop v106x74 false (fun K75 => ob (vLoadN 4 v13x46 H73) fun u => K75 u H73) H73 fun v108x76 H77 =>
  gop v106x74 false (fun K78 => HT prg I.impl_ValidFlow [v108x76].toArray H77 K78) H77 fun v109x79 H80 =>
  gop v106x74 false (fun K81 => ob (vUn .not v109x79) fun u => K81 u H80) H80 fun v110x82 H83 =>
  ob (vPick v106x74 (.bool true) v110x82) fun v111x84 =>
  gop v111x84 false (fun K85 => K85 v93x56 H83) H83 fun v113x86 H87 =>
  gop v111x84 false (fun K88 => fC .f64 v113x86 H87 K88) H87 fun v114x89 H90 =>
  gop v111x84 false (fun K91 => K91 v52x13 H90) H90 fun v115x92 H93 =>
  gop v111x84 false (fun K94 => fC .f64 v115x92 H93 K94) H93 fun v116x95 H96 =>
  gop v111x84 false (fun K97 => HT prg I.laws_r8Gap [v114x89, v116x95].toArray H96 K97) H96 fun v117x98 H99 =>
  gop v111x84 false (fun K100 => ob (vFcmp .gtr v117x98 (.float .f64 4562254508917369340)) fun u => K100 u H99) H99 fun v118x101 H102 =>
  ob (vPick v111x84 (.bool true) v118x101) fun v119x103 =>
  gop v119x103 false (fun K104 => K104 v94x57 H102) H102 fun v121x105 H106 =>
  gop v119x103 false (fun K107 => fC .f64 v121x105 H106 K107) H106 fun v122x108 H109 =>
  gop v119x103 false (fun K110 => K110 v57x19 H109) H109 fun v123x111 H112 =>
  gop v119x103 false (fun K113 => fC .f64 v123x111 H112 K113) H112 fun v124x114 H115 =>
  gop v119x103 false (fun K116 => HT prg I.laws_r8Gap [v122x108, v124x114].toArray H115 K116) H115 fun v125x117 H118 =>
  gop v119x103 false (fun K119 => ob (vFcmp .gtr v125x117 (.float .f64 4562254508917369340)) fun u => K119 u H118) H118 fun v126x120 H121 =>
  ob (vPick v119x103 (.bool true) v126x120) fun v127x122 =>
  gop v127x122 false (fun K123 => K123 v95x58 H121) H121 fun v129x124 H125 =>
  gop v127x122 false (fun K126 => fC .f64 v129x124 H125 K126) H125 fun v130x127 H128 =>
  gop v127x122 false (fun K129 => K129 v62x25 H128) H128 fun v131x130 H131 =>
  gop v127x122 false (fun K132 => fC .f64 v131x130 H131 K132) H131 fun v132x133 H134 =>
  gop v127x122 false (fun K135 => HT prg I.laws_r8Gap [v130x127, v132x133].toArray H134 K135) H134 fun v133x136 H137 =>
  gop v127x122 false (fun K138 => ob (vFcmp .gtr v133x136 (.float .f64 4562254508917369340)) fun u => K138 u H137) H137 fun v134x139 H140 =>
  ob (vPick v127x122 (.bool true) v134x139) fun v135x141 =>
  gop v135x141 false (fun K142 => ob (vFa 2 v13x46) fun u => K142 u H140) H140 fun v137x143 H144 =>
  gop v135x141 false (fun K145 => ob (vLoad v137x143 H144) fun u => K145 u H144) H144 fun v138x146 H147 =>
  gop v135x141 false (fun K148 => ob (vLenSl v138x146) fun u => K148 u H147) H147 fun v139x149 H150 =>
  gop v135x141 false (fun K151 => K151 v44x5 H150) H150 fun v140x152 H153 =>
  gop v135x141 false (fun K154 => ob (vInt .mul (.int .i64 9) v140x152) fun u => K154 u H153) H153 fun v141x155 H156 =>
  gop v135x141 false (fun K157 => K157 v47x8 H156) H156 fun v142x158 H159 =>
  gop v135x141 false (fun K160 => ob (vInt .mul v141x155 v142x158) fun u => K160 u H159) H159 fun v143x161 H162 =>
  gop v135x141 false (fun K163 => ob (vInt .neq v139x149 v143x161) fun u => K163 u H162) H162 fun v144x164 H165 =>
  ob (vPick v135x141 (.bool true) v144x164) fun v145x166 =>
  cnd v145x166
    (K (.bool false) H165)
    (jn (fun σ167 H167 =>
    ob (vFa 2 (σ167 10)) fun v170x168 =>
    ob (vLoad v170x168 H167) fun v171x169 =>
    ob (vInt .mul (σ167 5) (σ167 6)) fun v175x170 =>
    bS 1 0 #[(.float .f32 0)] 33 [] H167 fun v169x171 H172 =>
    apd 1 4 #[(.float .f32 0)] 33 v169x171 v171x169 H172 fun v172x173 H174 =>
    mkS 1 1 #[(.bool false)] 4 v175x170 v175x170 H174 fun v176x175 H176 =>
    ob (vBuild [(0, 1), (1, 1), (2, 1), (3, 1)] (.agg #[(.int .i64 0), (.int .i64 0), (.slice none 0 0), (.slice none 0 0)]) [(0, (σ167 5)), (1, (σ167 6)), (2, v172x173), (3, v176x175)]) fun v177x177 =>
    nw #[(.int .i64 0), (.int .i64 0), (.slice none 0 0), (.slice none 0 0)] 28 H176 fun v20x178 H179 =>
    st 4 v20x178 v177x177 H179 fun H180 =>
    jn (fun σ181 H181 =>
      ob (vLoadN 4 (σ181 20) H181) fun v213x182 =>
      HT prg I.impl_MassOf [v213x182].toArray H181 fun v214x183 H184 =>
      ob (vExt v214x183 0) fun v215x185 =>
      ob (vExt v214x183 1) fun v216x186 =>
      ob (vLoadN 4 (σ181 20) H184) fun v218x187 =>
      HT prg I.impl_RelaxFlow [v218x187, (.float .f32 0)].toArray H184 fun v219x188 H189 =>
      ob (vExt v219x188 0) fun v220x190 =>
      ob (vExt v219x188 1) fun v221x191 =>
      nw #[(.int .i64 0), (.int .i64 0), (.slice none 0 0), (.slice none 0 0)] 28 H189 fun v24x192 H193 =>
      st 4 v24x192 v220x190 H193 fun H194 =>
      ob (vLoadN 4 (σ181 20) H194) fun v223x195 =>
      HT prg I.impl_StreamFlow [v223x195].toArray H194 fun v224x196 H197 =>
      ob (vExt v224x196 0) fun v225x198 =>
      ob (vExt v224x196 1) fun v226x199 =>
      nw #[(.int .i64 0), (.int .i64 0), (.slice none 0 0), (.slice none 0 0)] 28 H197 fun v26x200 H201 =>
      st 4 v26x200 v225x198 H201 fun H202 =>
      ob (vLoadN 4 v26x200 H202) fun v228x203 =>
      HT prg I.impl_MassOf [v228x203].toArray H202 fun v229x204 H205 =>
      ob (vExt v229x204 0) fun v230x206 =>
      ob (vExt v229x204 1) fun v231x207 =>
      ob (vLoadN 4 (σ181 20) H205) fun v233x208 =>
      HT prg I.impl_RunFlow [v233x208, (.float .f32 1065353216), (.int .i64 3)].toArray H205 fun v234x209 H210 =>
      ob (vExt v234x209 0) fun v235x211 =>
      ob (vExt v234x209 1) fun v236x212 =>
      nw #[(.int .i64 0), (.int .i64 0), (.slice none 0 0), (.slice none 0 0)] 28 H210 fun v30x213 H214 =>
      st 4 v30x213 v235x211 H214 fun H215 =>
      ob (vLoadN 4 v30x213 H215) fun v238x216 =>
      HT prg I.impl_MassOf [v238x216].toArray H215 fun v239x217 H218 =>
      ob (vExt v239x217 0) fun v240x219 =>
      ob (vExt v239x217 1) fun v241x220 =>
      ob (vLoadN 4 (σ181 20) H218) fun v243x221 =>
      HT prg I.laws_r8At [(σ181 1), (.int .i64 41), (.int .i64 8)].toArray H218 fun v246x222 H223 =>
      Le H218 H223 ∧ (ob (vInt .add (.int .i64 1) v246x222) fun v247x224 =>
      bS 4 1 #[(.int .i64 0), (.int .i64 0), (.slice none 0 0), (.slice none 0 0)] 28 [(0, v243x221)] H223 fun v244x225 H226 =>
      HT prg I.impl_FlowsShared [v244x225, (.float .f32 1065353216), (.int .i64 3), v247x224].toArray H226 fun v248x227 H228 =>
      Le H226 H228 ∧ (ob (vExt v248x227 0) fun v249x229 =>
      ob (vExt v248x227 1) fun v250x230 =>
      ob (vUn .not v216x186) fun v252x231 =>
      gop v252x231 false (fun K232 => K232 v221x191 H228) H228 fun v254x233 H234 =>
      gop v252x231 false (fun K235 => ob (vUn .not v254x233) fun u => K235 u H234) H234 fun v255x236 H237 =>
      ob (vPick v252x231 (.bool true) v255x236) fun v256x238 =>
      gop v256x238 false (fun K239 => K239 v226x199 H237) H237 fun v258x240 H241 =>
      gop v256x238 false (fun K242 => ob (vUn .not v258x240) fun u => K242 u H241) H241 fun v259x243 H244 =>
      ob (vPick v256x238 (.bool true) v259x243) fun v260x245 =>
      gop v260x245 false (fun K246 => K246 v231x207 H244) H244 fun v262x247 H248 =>
      gop v260x245 false (fun K249 => ob (vUn .not v262x247) fun u => K249 u H248) H248 fun v263x250 H251 =>
      ob (vPick v260x245 (.bool true) v263x250) fun v264x252 =>
      gop v264x252 false (fun K253 => K253 v236x212 H251) H251 fun v266x254 H255 =>
      gop v264x252 false (fun K256 => ob (vUn .not v266x254) fun u => K256 u H255) H255 fun v267x257 H258 =>
      ob (vPick v264x252 (.bool true) v267x257) fun v268x259 =>
      gop v268x259 false (fun K260 => K260 v241x220 H258) H258 fun v270x261 H262 =>
      gop v268x259 false (fun K263 => ob (vUn .not v270x261) fun u => K263 u H262) H262 fun v271x264 H265 =>
      ob (vPick v268x259 (.bool true) v271x264) fun v272x266 =>
      gop v272x266 false (fun K267 => K267 v250x230 H265) H265 fun v274x268 H269 =>
      gop v272x266 false (fun K270 => ob (vUn .not v274x268) fun u => K270 u H269) H269 fun v275x271 H272 =>
      ob (vPick v272x266 (.bool true) v275x271) fun v276x273 =>
      gop v276x273 false (fun K274 => K274 v215x185 H272) H272 fun v278x275 H276 =>
      gop v276x273 false (fun K277 => fC .f64 v278x275 H276 K277) H276 fun v279x278 H279 =>
      gop v276x273 false (fun K280 => K280 v230x206 H279) H279 fun v280x281 H282 =>
      gop v276x273 false (fun K283 => fC .f64 v280x281 H282 K283) H282 fun v281x284 H285 =>
      gop v276x273 false (fun K286 => HT prg I.laws_r8Gap [v279x278, v281x284].toArray H285 K286) H285 fun v282x287 H288 =>
      gop v276x273 false (fun K289 => ob (vFcmp .gtr v282x287 (.float .f64 4576918229304087675)) fun u => K289 u H288) H288 fun v283x290 H291 =>
      ob (vPick v276x273 (.bool true) v283x290) fun v284x292 =>
      gop v284x292 false (fun K293 => K293 v215x185 H291) H291 fun v286x294 H295 =>
      gop v284x292 false (fun K296 => fC .f64 v286x294 H295 K296) H295 fun v287x297 H298 =>
      gop v284x292 false (fun K299 => K299 v240x219 H298) H298 fun v288x300 H301 =>
      gop v284x292 false (fun K302 => fC .f64 v288x300 H301 K302) H301 fun v289x303 H304 =>
      gop v284x292 false (fun K305 => HT prg I.laws_r8Gap [v287x297, v289x303].toArray H304 K305) H304 fun v290x306 H307 =>
      gop v284x292 false (fun K308 => ob (vFcmp .gtr v290x306 (.float .f64 4576918229304087675)) fun u => K308 u H307) H307 fun v291x309 H310 =>
      ob (vPick v284x292 (.bool true) v291x309) fun v292x311 =>
      gop v292x311 false (fun K312 => K312 v249x229 H310) H310 fun v294x313 H314 =>
      gop v292x311 false (fun K315 => ob (vLenSl v294x313) fun u => K315 u H314) H314 fun v295x316 H317 =>
      gop v292x311 false (fun K318 => ob (vInt .neq v295x316 (.int .i64 1)) fun u => K318 u H317) H317 fun v296x319 H320 =>
      ob (vPick v292x311 (.bool true) v296x319) fun v297x321 =>
      gop v297x321 false (fun K322 => K322 v249x229 H320) H320 fun v299x323 H324 =>
      gop v297x321 false (fun K325 => ob (vIx 1 v299x323 (.int .i64 0)) fun u => K325 u H324) H324 fun v300x326 H327 =>
      gop v297x321 false (fun K328 => ob (vLoad v300x326 H327) fun u => K328 u H327) H327 fun v301x329 H330 =>
      gop v297x321 false (fun K331 => K331 v240x219 H330) H330 fun v302x332 H333 =>
      gop v297x321 false (fun K334 => ob (vFcmp .neq v301x329 v302x332) fun u => K334 u H333) H333 fun v303x335 H336 =>
      ob (vPick v297x321 (.bool true) v303x335) fun v304x337 =>
      gop v304x337 false (fun K338 => K338 v215x185 H336) H336 fun v306x339 H340 =>
      gop v304x337 false (fun K341 => ob (vFcmp .leq v306x339 (.float .f32 0)) fun u => K341 u H340) H340 fun v307x342 H343 =>
      ob (vPick v304x337 (.bool true) v307x342) fun v308x344 =>
      cnd v308x344
        (K (.bool false) H343)
        (jn (fun σ345 H345 =>
        K (.bool true) H345) fun J345 =>
      lpE (fun Q346 σ346 H346 =>
        ob (vInt .mul (σ346 5) (σ346 6)) fun v312x347 =>
        ob (vInt .lss (σ346 36) v312x347) fun v313x348 =>
        cnd v313x348
          (jn (fun σ349 H349 =>
          ob (vInt .add (σ349 36) (.int .i64 1)) fun v315x350 =>
          Q346 .normal (up (up (up σ349 314 (σ349 36)) 315 v315x350) 36 v315x350) H349) fun J349 =>
        lpE (fun Q351 σ351 H351 =>
          ob (vInt .lss (σ351 37) (.int .i64 9)) fun v317x352 =>
          cnd v317x352
            (jn (fun σ353 H353 =>
            ob (vFa 2 (σ353 24)) fun v330x354 =>
            ob (vLoad v330x354 H353) fun v331x355 =>
            ob (vInt .mul (.int .i64 9) (σ353 36)) fun v333x356 =>
            ob (vInt .add v333x356 (σ353 37)) fun v335x357 =>
            ob (vIx 1 v331x355 v335x357) fun v336x358 =>
            ob (vLoad v336x358 H353) fun v337x359 =>
            ob (vFa 2 (σ353 20)) fun v339x360 =>
            ob (vLoad v339x360 H353) fun v340x361 =>
            ob (vInt .mul (.int .i64 9) (σ353 36)) fun v342x362 =>
            ob (vInt .add v342x362 (σ353 38)) fun v344x363 =>
            ob (vIx 1 v340x361 v344x363) fun v345x364 =>
            ob (vLoad v345x364 H353) fun v346x365 =>
            fC .f64 v337x359 H353 fun v338x366 H367 =>
            fC .f64 v346x365 H367 fun v347x368 H369 =>
            HT prg I.laws_r8Gap [v338x366, v347x368].toArray H369 fun v348x370 H371 =>
            Le H369 H371 ∧ (ob (vFcmp .gtr v348x370 (.float .f64 4532020583610935537)) fun v349x372 =>
            cnd v349x372
              (Q351 .ret (up (up (up (up (up (up (up (up (up (up (up (up (up (up (up (up (up (up (up (up (up σ353 330 v330x354) 331 v331x355) 332 (σ353 36)) 333 v333x356) 334 (σ353 37)) 335 v335x357) 336 v336x358) 337 v337x359) 339 v339x360) 340 v340x361) 341 (σ353 36)) 342 v342x362) 343 (σ353 38)) 344 v344x363) 345 v345x364) 346 v346x365) 338 v338x366) 347 v347x368) 348 v348x370) 349 v349x372) 4 (.bool false)) H371)
              (ob (vInt .add (σ353 37) (.int .i64 1)) fun v319x373 =>
          Q351 .normal (up (up (up (up (up (up (up (up (up (up (up (up (up (up (up (up (up (up (up (up (up (up (up σ353 330 v330x354) 331 v331x355) 332 (σ353 36)) 333 v333x356) 334 (σ353 37)) 335 v335x357) 336 v336x358) 337 v337x359) 339 v339x360) 340 v340x361) 341 (σ353 36)) 342 v342x362) 343 (σ353 38)) 344 v344x363) 345 v345x364) 346 v346x365) 338 v338x366) 347 v347x368) 348 v348x370) 349 v349x372) 318 (σ353 37)) 319 v319x373) 37 v319x373) H371))) fun J353 =>
          ob (vFa 3 (σ351 20)) fun v321x374 =>
          ob (vLoad v321x374 H351) fun v322x375 =>
          ob (vIx 1 v322x375 (σ351 36)) fun v324x376 =>
          ob (vLoad v324x376 H351) fun v325x377 =>
          cnd v325x377
            (bS 1 9 #[(.int .i64 0)] 2 [(0, (.int .i64 0)), (1, (.int .i64 3)), (2, (.int .i64 4)), (3, (.int .i64 1)), (4, (.int .i64 2)), (5, (.int .i64 7)), (6, (.int .i64 8)), (7, (.int .i64 5)), (8, (.int .i64 6))] H351 fun v326x378 H379 =>
            ob (vIx 1 v326x378 (σ351 37)) fun v328x380 =>
            ob (vLoad v328x380 H379) fun v329x381 =>
            J353 (up (up (up (up (up (up (up (up (up (up (up (up (up (up σ351 316 (σ351 37)) 317 v317x352) 320 (σ351 37)) 38 (σ351 37)) 321 v321x374) 322 v322x375) 323 (σ351 36)) 324 v324x376) 325 v325x377) 326 v326x378) 327 (σ351 37)) 328 v328x380) 329 v329x381) 38 v329x381) H379)
            (J353 (up (up (up (up (up (up (up (up (up σ351 316 (σ351 37)) 317 v317x352) 320 (σ351 37)) 38 (σ351 37)) 321 v321x374) 322 v322x375) 323 (σ351 36)) 324 v324x376) 325 v325x377) H351))
            (Q351 (.exit 6) (up (up σ351 316 (σ351 37)) 317 v317x352) H351)) (blkQ 6 (blkQ 5 (thenQ J349 Q346))) (up (up (up (up (up (up σ346 309 (σ346 36)) 310 (σ346 5)) 311 (σ346 6)) 312 v312x347) 313 v313x348) 37 (.int .i64 0)) H346)
          (Q346 (.exit 4) (up (up (up (up (up σ346 309 (σ346 36)) 310 (σ346 5)) 311 (σ346 6)) 312 v312x347) 313 v313x348) H346)) (blkQ 4 (thenQ J345 (retQ prg [(.tmp 4)] K))) (up (up (up (up (up (up (up (up (up (up (up (up (up (up (up (up (up (up (up (up (up (up (up (up (up (up (up (up (up (up (up (up (up (up (up (up (up (up (up (up (up (up (up (up (up (up (up (up (up (up (up (up (up (up (up (up (up (up (up (up (up (up (up (up (up (up (up (up (up (up (up (up (up (up (up (up (up (up (up (up (up (up (up (up (up (up (up (up (up (up (up (up (up (up (up (up (up (up (up (up (up (up (up (up (up (up (up (up (up (up (up (up σ181 213 v213x182) 214 v214x183) 212 v214x183) 215 v215x185) 216 v216x186) 22 v215x185) 23 v216x186) 218 v218x187) 219 v219x188) 217 v219x188) 220 v220x190) 221 v221x191) 24 v24x192) 25 v221x191) 223 v223x195) 224 v224x196) 222 v224x196) 225 v225x198) 226 v226x199) 26 v26x200) 27 v226x199) 228 v228x203) 229 v229x204) 227 v229x204) 230 v230x206) 231 v231x207) 28 v230x206) 29 v231x207) 233 v233x208) 234 v234x209) 232 v234x209) 235 v235x211) 236 v236x212) 30 v30x213) 31 v236x212) 238 v238x216) 239 v239x217) 237 v239x217) 240 v240x219) 241 v241x220) 32 v240x219) 33 v241x220) 243 v243x221) 245 (σ181 1)) 246 v246x222) 247 v247x224) 244 v244x225) 248 v248x227) 242 v248x227) 249 v249x229) 250 v250x230) 34 v249x229) 35 v250x230) 251 v216x186) 252 v252x231) 253 v252x231) 254 v254x233) 255 v255x236) 256 v256x238) 257 v256x238) 258 v258x240) 259 v259x243) 260 v260x245) 261 v260x245) 262 v262x247) 263 v263x250) 264 v264x252) 265 v264x252) 266 v266x254) 267 v267x257) 268 v268x259) 269 v268x259) 270 v270x261) 271 v271x264) 272 v272x266) 273 v272x266) 274 v274x268) 275 v275x271) 276 v276x273) 277 v276x273) 278 v278x275) 279 v279x278) 280 v280x281) 281 v281x284) 282 v282x287) 283 v283x290) 284 v284x292) 285 v284x292) 286 v286x294) 287 v287x297) 288 v288x300) 289 v289x303) 290 v290x306) 291 v291x309) 292 v292x311) 293 v292x311) 294 v294x313) 295 v295x316) 296 v296x319) 297 v297x321) 298 v297x321) 299 v299x323) 300 v300x326) 301 v301x329) 302 v302x332) 303 v303x335) 304 v304x337) 305 v304x337) 306 v306x339) 307 v307x342) 308 v308x344) 36 (.int .i64 0)) H343)))) fun J181 =>
    lpE (fun Q382 σ382 H382 =>
      ob (vLenSl (σ382 0)) fun v180x383 =>
      ob (vInt .lss (σ382 21) v180x383) fun v181x384 =>
      gop v181x384 true (fun K385 => K385 (σ382 21) H382) H382 fun v183x386 H387 =>
      gop v181x384 true (fun K388 => ob (vFa 2 (σ382 20)) fun u => K388 u H387) H387 fun v184x389 H390 =>
      gop v181x384 true (fun K391 => ob (vLoad v184x389 H390) fun u => K391 u H390) H390 fun v185x392 H393 =>
      gop v181x384 true (fun K394 => ob (vLenSl v185x392) fun u => K394 u H393) H393 fun v186x395 H396 =>
      gop v181x384 true (fun K397 => ob (vInt .lss v183x386 v186x395) fun u => K397 u H396) H396 fun v187x398 H399 =>
      ob (vPick v181x384 v187x398 (.bool false)) fun v188x400 =>
      cnd v188x400
        (ob (vFa 2 (σ382 20)) fun v191x401 =>
      ob (vLoad v191x401 H399) fun v192x402 =>
      ob (vIx 1 v192x402 (σ382 21)) fun v194x403 =>
      ob (vLoad v194x403 H399) fun v195x404 =>
      HT prg I.laws_r8At [(σ382 0), (σ382 21), (.int .i64 8)].toArray H399 fun v198x405 H406 =>
      Le H399 H406 ∧ (ob (vCF .f32 v198x405) fun v199x407 =>
      fA .quo v199x407 (.float .f32 1115684864) H406 fun v200x408 H409 =>
      fA .add v195x404 v200x408 H409 fun v201x410 H411 =>
      ob (vIx 1 v192x402 (σ382 21)) fun v202x412 =>
      st 1 v202x412 v201x410 H411 fun H413 =>
      ob (vFa 3 (σ382 20)) fun v203x414 =>
      ob (vLoad v203x414 H413) fun v204x415 =>
      ob (vInt .quo (σ382 21) (.int .i64 9)) fun v206x416 =>
      HT prg I.laws_r8At [(σ382 0), (σ382 21), (.int .i64 5)].toArray H413 fun v209x417 H418 =>
      Le H413 H418 ∧ (ob (vInt .eql v209x417 (.int .i64 4)) fun v210x419 =>
      ob (vIx 1 v204x415 v206x416) fun v211x420 =>
      st 1 v211x420 v210x419 H418 fun H421 =>
      ob (vInt .add (σ382 21) (.int .i64 1)) fun v190x422 =>
      Q382 .normal (up (up (up (up (up (up (up (up (up (up (up (up (up (up (up (up (up (up (up (up (up (up (up (up (up (up (up (up (up (up (up (up (up (up (up σ382 178 (σ382 21)) 179 (σ382 0)) 180 v180x383) 181 v181x384) 182 v181x384) 183 v183x386) 184 v184x389) 185 v185x392) 186 v186x395) 187 v187x398) 188 v188x400) 191 v191x401) 192 v192x402) 193 (σ382 21)) 194 v194x403) 195 v195x404) 196 (σ382 0)) 197 (σ382 21)) 198 v198x405) 199 v199x407) 200 v200x408) 201 v201x410) 202 v202x412) 203 v203x414) 204 v204x415) 205 (σ382 21)) 206 v206x416) 207 (σ382 0)) 208 (σ382 21)) 209 v209x417) 210 v210x419) 211 v211x420) 189 (σ382 21)) 190 v190x422) 21 v190x422) H421)))
        (Q382 (.exit 2) (up (up (up (up (up (up (up (up (up (up (up σ382 178 (σ382 21)) 179 (σ382 0)) 180 v180x383) 181 v181x384) 182 v181x384) 183 v183x386) 184 v184x389) 185 v185x392) 186 v186x395) 187 v187x398) 188 v188x400) H399)) (blkQ 2 (thenQ J181 (retQ prg [(.tmp 4)] K))) (up (up (up (up (up (up (up (up (up (up (up (up (up σ167 167 (σ167 5)) 168 (σ167 6)) 170 v170x168) 171 v171x169) 173 (σ167 5)) 174 (σ167 6)) 175 v175x170) 169 v169x171) 172 v172x173) 176 v176x175) 177 v177x177) 20 v20x178) 21 (.int .i64 0)) H180) fun J167 =>
  lpE (fun Q423 σ423 H423 =>
    ob (vFa 2 (σ423 10)) fun v147x424 =>
    ob (vLoad v147x424 H423) fun v148x425 =>
    ob (vLenSl v148x425) fun v149x426 =>
    ob (vInt .lss (σ423 19) v149x426) fun v150x427 =>
    cnd v150x427
      (ob (vFa 2 (σ423 10)) fun v153x428 =>
    ob (vLoad v153x428 H423) fun v154x429 =>
    ob (vIx 1 v154x429 (σ423 19)) fun v156x430 =>
    ob (vLoad v156x430 H423) fun v157x431 =>
    ob (vFa 2 (σ423 13)) fun v159x432 =>
    ob (vLoad v159x432 H423) fun v160x433 =>
    ob (vIx 1 v160x433 (σ423 19)) fun v162x434 =>
    ob (vLoad v162x434 H423) fun v163x435 =>
    fC .f64 v157x431 H423 fun v158x436 H437 =>
    fC .f64 v163x435 H437 fun v164x438 H439 =>
    HT prg I.laws_r8Gap [v158x436, v164x438].toArray H439 fun v165x440 H441 =>
    Le H439 H441 ∧ (ob (vFcmp .gtr v165x440 (.float .f64 4562254508917369340)) fun v166x442 =>
    cnd v166x442
      (Q423 .ret (up (up (up (up (up (up (up (up (up (up (up (up (up (up (up (up (up (up (up (up σ423 146 (σ423 19)) 147 v147x424) 148 v148x425) 149 v149x426) 150 v150x427) 153 v153x428) 154 v154x429) 155 (σ423 19)) 156 v156x430) 157 v157x431) 159 v159x432) 160 v160x433) 161 (σ423 19)) 162 v162x434) 163 v163x435) 158 v158x436) 164 v164x438) 165 v165x440) 166 v166x442) 4 (.bool false)) H441)
      (ob (vInt .add (σ423 19) (.int .i64 1)) fun v152x443 =>
    Q423 .normal (up (up (up (up (up (up (up (up (up (up (up (up (up (up (up (up (up (up (up (up (up (up σ423 146 (σ423 19)) 147 v147x424) 148 v148x425) 149 v149x426) 150 v150x427) 153 v153x428) 154 v154x429) 155 (σ423 19)) 156 v156x430) 157 v157x431) 159 v159x432) 160 v160x433) 161 (σ423 19)) 162 v162x434) 163 v163x435) 158 v158x436) 164 v164x438) 165 v165x440) 166 v166x442) 151 (σ423 19)) 152 v152x443) 19 v152x443) H441)))
      (Q423 (.exit 0) (up (up (up (up (up σ423 146 (σ423 19)) 147 v147x424) 148 v148x425) 149 v149x426) 150 v150x427) H423)) (blkQ 0 (thenQ J167 (retQ prg [(.tmp 4)] K))) (up (up (up (up (up (up (up (up (up (up (up (up (up (up (up (up (up (up (up (up (up (up (up (up (up (up (up (up (up (up (up (up (up (up (up (up (up (up (up (up (up (up (up (up (up (up (up (up (up (up (up (up (up (up (up (up (up (up (up (up (up (up (up (up (up (up (up (up (up (up (up (up (up (up (up (up (up (up (up (up (up (up (up (up (up (up (up (up (up (up (up (up (up (up (up (up (up (up (up (up (up (up (up (up (up (up (up (up (up (up (up (up (up (up (up (up (up (up (up (up (up (up (up (S0 [a0, a1]) 4 (.bool false)) 39 a0) 40 a1) 41 v41x1) 42 a1) 43 v43x3) 44 v44x5) 5 v44x5) 45 a1) 46 v46x6) 47 v47x8) 6 v47x8) 48 a1) 49 v49x9) 50 v50x11) 51 v51x12) 52 v52x13) 7 v52x13) 53 a1) 54 v54x15) 55 v55x17) 56 v56x18) 57 v57x19) 8 v57x19) 58 a1) 59 v59x21) 60 v60x23) 61 v61x24) 62 v62x25) 9 v62x25) 64 v44x5) 65 v47x8) 66 v52x13) 67 v57x19) 68 v62x25) 69 v69x27) 63 v69x27) 70 v70x29) 71 v71x30) 10 v10x31) 11 v71x30) 72 a1) 73 v73x34) 74 v74x36) 75 v75x37) 12 v75x37) 77 v77x39) 78 v75x37) 79 a1) 80 v80x40) 81 v81x42) 76 v81x42) 82 v82x44) 83 v83x45) 13 v13x46) 14 v83x45) 85 v85x49) 86 a1) 87 v44x5) 89 a1) 90 v47x8) 88 v88x50) 91 v91x52) 92 v92x54) 84 v92x54) 93 v93x56) 94 v94x57) 95 v95x58) 96 v96x59) 15 v93x56) 16 v94x57) 17 v95x58) 18 v96x59) 97 v71x30) 98 v98x60) 99 v98x60) 100 v100x62) 101 v101x65) 102 v102x67) 103 v102x67) 104 v104x69) 105 v105x72) 106 v106x74) 107 v106x74) 108 v108x76) 109 v109x79) 110 v110x82) 111 v111x84) 112 v111x84) 113 v113x86) 114 v114x89) 115 v115x92) 116 v116x95) 117 v117x98) 118 v118x101) 119 v119x103) 120 v119x103) 121 v121x105) 122 v122x108) 123 v123x111) 124 v124x114) 125 v125x117) 126 v126x120) 127 v127x122) 128 v127x122) 129 v129x124) 130 v130x127) 131 v131x130) 132 v132x133) 133 v133x136) 134 v134x139) 135 v135x141) 136 v135x141) 137 v137x143) 138 v138x146) 139 v139x149) 140 v140x152) 141 v141x155) 142 v142x158) 143 v143x161) 144 v144x164) 145 v145x166) 19 (.int .i64 0)) H165)))))))
def O.laws_FnFlows : Nat → Nat × List Nat := fun i => bif Nat.beq i 10 then (0, [0, 1, 2, 3, 4, 5, 6, 7, 8, 9, 10]) else bif Nat.beq i 11 then (0, [0, 1, 2, 4, 5, 3, 6, 7, 8, 9, 10, 11, 12, 13, 14, 15, 16]) else bif Nat.beq i 19 then (0, [0, 1, 3, 4, 6, 7, 8, 2, 5, 9, 10, 11, 12]) else bif Nat.beq i 31 then (0, [0, 2, 3, 4, 1, 5, 6, 7, 8, 9, 10]) else bif Nat.beq i 43 then (0, [0, 1, 2, 3, 4, 5, 6, 7, 9, 10, 11, 12, 13, 14, 15, 16, 8, 17, 18, 19]) else bif Nat.beq i 23 then (0, [0, 1, 2, 3, 4, 5, 6, 7, 8, 9, 10, 11, 12]) else bif Nat.beq i 24 then (0, [0, 1, 2, 3, 4, 5, 6, 7, 8, 9]) else bif Nat.beq i 17 then (0, [0, 1, 2, 3, 4, 6, 7, 8, 9, 10, 5, 11, 12, 13]) else (0, [])
theorem R.laws_FnFlows {a0 a1 : Value} {H : Hp} {K : Value → Hp → Prop} (h : F.laws_FnFlows a0 a1 H K) : HT prg I.laws_FnFlows [a0, a1].toArray H K :=
  HT_of_fev O.laws_FnFlows mixed Try.func8 (by kernel_rfl) (Eq.mpr (by kernel_rfl : fev prg O.laws_FnFlows Try.f8 [a0, a1] H K = F.laws_FnFlows a0 a1 H K) h)

/-! loop.example/g01381/spec.ValidFlow: function 10 -/
def F.spec_ValidFlow (a0 : Value) (H : Hp) (K : Value → Hp → Prop) : Prop :=
  nw (a0 : Value).cells 28 H fun v1x1 H2 =>
  HT prg I.spec_l06Flow [v1x1].toArray H2 fun v3x3 H4 =>
  K v3x3 H4
def O.spec_ValidFlow : Nat → Nat × List Nat := fun i => (0, [])
theorem R.spec_ValidFlow {a0 : Value} {H : Hp} {K : Value → Hp → Prop} (h : F.spec_ValidFlow a0 H K) : HT prg I.spec_ValidFlow [a0].toArray H K :=
  HT_of_fev O.spec_ValidFlow mixed Try.func10 (by kernel_rfl) (Eq.mpr (by kernel_rfl : fev prg O.spec_ValidFlow Try.f10 [a0] H K = F.spec_ValidFlow a0 H K) h)

/-! loop.example/g01381/laws.FnExactValidFlow: function 3 -/
def F.laws_FnExactValidFlow (a0 : Value) (H : Hp) (K : Value → Hp → Prop) : Prop :=
  nw (a0 : Value).cells 25 H fun v1x1 H2 =>
  ob (vLoadN 4 v1x1 H2) fun v7x3 =>
  HT prg I.laws_szFlow [v7x3, (.int .i64 1048576)].toArray H2 fun v9x4 H5 =>
  ob (vInt .lss v9x4 (.int .i64 0)) fun v11x6 =>
  cnd v11x6
    (K (.bool true) H5)
    (ob (vLoadN 4 v1x1 H5) fun v12x7 =>
  HT prg I.laws_toFlow [v12x7].toArray H5 fun v13x8 H9 =>
  HT prg I.spec_ValidFlow [v13x8].toArray H9 fun v14x10 H11 =>
  ob (vLoadN 4 v1x1 H11) fun v15x12 =>
  HT prg I.laws_toFlow [v15x12].toArray H11 fun v16x13 H14 =>
  nw #[(.int .i64 0), (.int .i64 0), (.slice none 0 0), (.slice none 0 0)] 28 H14 fun v5x15 H16 =>
  st 4 v5x15 v16x13 H16 fun H17 =>
  ob (vLoadN 4 v5x15 H17) fun v17x18 =>
  HT prg I.impl_ValidFlow [v17x18].toArray H17 fun v18x19 H20 =>
  ob (vBool .neq v18x19 v14x10) fun v21x21 =>
  cnd v21x21
    (K (.bool false) H20)
    (ob (vLoadN 4 v5x15 H20) fun v22x22 =>
  ob (vLoadN 4 v1x1 H20) fun v23x23 =>
  HT prg I.laws_toFlow [v23x23].toArray H20 fun v24x24 H25 =>
  Le H20 H25 ∧ (HT prg I.laws_eqFlow [v22x22, v24x24].toArray H25 fun v25x26 H27 =>
  Le H25 H27 ∧ (ob (vUn .not v25x26) fun v26x28 =>
  cnd v26x28
    (K (.bool false) H27)
    (K (.bool true) H27)))))
def O.laws_FnExactValidFlow : Nat → Nat × List Nat := fun i => bif Nat.beq i 10 then (0, [0, 1, 2, 3, 4]) else (0, [])
theorem R.laws_FnExactValidFlow {a0 : Value} {H : Hp} {K : Value → Hp → Prop} (h : F.laws_FnExactValidFlow a0 H K) : HT prg I.laws_FnExactValidFlow [a0].toArray H K :=
  HT_of_fev O.laws_FnExactValidFlow mixed Try.func3 (by kernel_rfl) (Eq.mpr (by kernel_rfl : fev prg O.laws_FnExactValidFlow Try.f3 [a0] H K = F.laws_FnExactValidFlow a0 H K) h)

end Go.Proofs.Ytcjamajenfgddaa
