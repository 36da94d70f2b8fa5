/- Functions' texts over a partial heap. -/
import Derived.Test.YtdfoobomlabffaaG0
namespace Go.Proofs.Ytdfoobomlabffaa
open HL
set_option linter.unusedVariables false
set_option maxRecDepth 100000
set_option maxHeartbeats 4000000
/-! loop.example/g01381/laws.FnLanes: function 7 -/
def F.laws_FnLanes (a0 a1 : Value) (H : Hp) (K : Value → Hp → Prop) : Prop :=
  HT prg I.laws_r8Long [a0, a1].toArray H fun v31x1 H2 =>
  cnd v31x1
    (K (.bool true) H2)
    (HT prg I.laws_r8At [a1, (.int .i64 40), (.int .i64 20)].toArray H2 fun v33x3 H4 =>
  ob (vInt .add (.int .i64 1) v33x3) fun v34x5 =>
  HT prg I.spec_R8Lane [a0, v34x5].toArray H4 fun v37x6 H7 =>
  HT prg I.spec_R8Lane [a1, v34x5].toArray H7 fun v40x8 H9 =>
  HT prg I.laws_r8At [a1, (.int .i64 41), (.int .i64 5)].toArray H9 fun v42x10 H11 =>
  ob (vInt .add (.int .i64 1) v42x10) fun v43x12 =>
  HT prg I.laws_r8At [a1, (.int .i64 42), (.int .i64 5)].toArray H11 fun v45x13 H14 =>
  ob (vCF .f32 v45x13) fun v46x15 =>
  fA .quo v46x15 (.float .f32 1082130432) H14 fun v47x16 H17 =>
  HT prg I.laws_r8At [a1, (.int .i64 43), (.int .i64 256)].toArray H17 fun v49x18 H19 =>
  ob (vInt .mul v49x18 (.int .i64 65537)) fun v50x20 =>
  HT prg I.impl_LaneStep [v37x6, v43x12, v47x16, v50x20].toArray H19 fun v56x21 H22 =>
  ob (vExt v56x21 0) fun v57x23 =>
  ob (vExt v56x21 1) fun v58x24 =>
  ob (vExt v56x21 2) fun v59x25 =>
  HT prg I.impl_LaneStep [v37x6, v43x12, (.float .f32 0), v50x20].toArray H22 fun v64x26 H27 =>
  ob (vExt v64x26 0) fun v65x28 =>
  ob (vExt v64x26 1) fun v66x29 =>
  ob (vExt v64x26 2) fun v67x30 =>
  ob (vUn .not v59x25) fun v69x31 =>
  gop v69x31 false (fun K32 => K32 v67x30 H27) H27 fun v71x33 H34 =>
  gop v69x31 false (fun K35 => ob (vUn .not v71x33) fun u => K35 u H34) H34 fun v72x36 H37 =>
  ob (vPick v69x31 (.bool true) v72x36) fun v73x38 =>
  gop v73x38 false (fun K39 => K39 v57x23 H37) H37 fun v75x40 H41 =>
  gop v73x38 false (fun K42 => HT prg I.impl_IsLane [v75x40].toArray H41 K42) H41 fun v76x43 H44 =>
  gop v73x38 false (fun K45 => ob (vUn .not v76x43) fun u => K45 u H44) H44 fun v77x46 H47 =>
  ob (vPick v73x38 (.bool true) v77x46) fun v78x48 =>
  gop v78x48 false (fun K49 => K49 v57x23 H47) H47 fun v80x50 H51 =>
  gop v78x48 false (fun K52 => ob (vLenSl v80x50) fun u => K52 u H51) H51 fun v81x53 H54 =>
  gop v78x48 false (fun K55 => K55 v34x5 H54) H54 fun v82x56 H57 =>
  gop v78x48 false (fun K58 => ob (vInt .neq v81x53 v82x56) fun u => K58 u H57) H57 fun v83x59 H60 =>
  ob (vPick v78x48 (.bool true) v83x59) fun v84x61 =>
  gop v84x61 false (fun K62 => K62 v65x28 H60) H60 fun v86x63 H64 =>
  gop v84x61 false (fun K65 => ob (vLenSl v86x63) fun u => K65 u H64) H64 fun v87x66 H67 =>
  gop v84x61 false (fun K68 => K68 v34x5 H67) H67 fun v88x69 H70 =>
  gop v84x61 false (fun K71 => ob (vInt .neq v87x66 v88x69) fun u => K71 u H70) H70 fun v89x72 H73 =>
  ob (vPick v84x61 (.bool true) v89x72) fun v90x74 =>
  gop v90x74 false (fun K75 => K75 v58x24 H73) H73 fun v92x76 H77 =>
  gop v90x74 false (fun K78 => K78 v66x29 H77) H77 fun v93x79 H80 =>
  gop v90x74 false (fun K81 => ob (vInt .neq v92x76 v93x79) fun u => K81 u H80) H80 fun v94x82 H83 =>
  ob (vPick v90x74 (.bool true) v94x82) fun v95x84 =>
  cnd v95x84
    (K (.bool false) H83)
    (HT prg I.laws_r8Cars [v37x6].toArray H83 fun v97x85 H86 =>
  jn (fun σ87 H87 =>
    HT prg I.laws_r8Cars [(σ87 11)].toArray H87 fun v109x88 H89 =>
    ob (vInt .neq v109x88 (σ87 17)) fun v111x90 =>
    gop v111x90 false (fun K91 => K91 (σ87 14) H89) H89 fun v113x92 H93 =>
    gop v111x90 false (fun K94 => HT prg I.laws_r8Cars [v113x92].toArray H93 K94) H93 fun v114x95 H96 =>
    gop v111x90 false (fun K97 => K97 (σ87 17) H96) H96 fun v115x98 H99 =>
    gop v111x90 false (fun K100 => ob (vInt .neq v114x95 v115x98) fun u => K100 u H99) H99 fun v116x101 H102 =>
    ob (vPick v111x90 (.bool true) v116x101) fun v117x103 =>
    gop v117x103 false (fun K104 => K104 (σ87 12) H102) H102 fun v119x105 H106 =>
    gop v117x103 false (fun K107 => K107 (σ87 18) H106) H106 fun v120x108 H109 =>
    gop v117x103 false (fun K110 => ob (vInt .neq v119x105 v120x108) fun u => K110 u H109) H109 fun v121x111 H112 =>
    ob (vPick v117x103 (.bool true) v121x111) fun v122x113 =>
    cnd v122x113
      (K (.bool false) H112)
      (jn (fun σ114 H114 =>
      HT prg I.impl_LaneSpeed [(σ114 11)].toArray H114 fun v205x115 H116 =>
      ob (vExt v205x115 0) fun v206x117 =>
      ob (vExt v205x115 1) fun v207x118 =>
      ob (vInt .gtr (σ114 17) (.int .i64 0)) fun v210x119 =>
      ob (vBool .neq v207x118 v210x119) fun v211x120 =>
      gop v211x120 false (fun K121 => K121 v207x118 H116) H116 fun v213x122 H123 =>
      gop v211x120 false (fun K124 => K124 v213x122 H123) H123 fun v214x125 H126 =>
      gop v214x125 true (fun K127 => K127 v206x117 H126) H126 fun v215x128 H129 =>
      gop v214x125 true (fun K130 => ob (vFcmp .lss v215x128 (.float .f32 0)) fun u => K130 u H129) H129 fun v216x131 H132 =>
      gop v214x125 true (fun K133 => K133 v216x131 H132) H132 fun v217x134 H135 =>
      gop v217x134 false (fun K136 => K136 v206x117 H135) H135 fun v218x137 H138 =>
      gop v217x134 false (fun K139 => K139 (σ114 8) H138) H138 fun v219x140 H141 =>
      gop v217x134 false (fun K142 => ob (vCF .f32 v219x140) fun u => K142 u H141) H141 fun v220x143 H144 =>
      gop v217x134 false (fun K145 => ob (vFcmp .gtr v218x137 v220x143) fun u => K145 u H144) H144 fun v221x146 H147 =>
      gop v214x125 true (fun K148 => ob (vPick v217x134 (.bool true) v221x146) fun u => K148 u H147) H147 fun v222x149 H150 =>
      gop v211x120 false (fun K151 => ob (vPick v214x125 v222x149 (.bool false)) fun u => K151 u H150) H150 fun v223x152 H153 =>
      ob (vPick v211x120 (.bool true) v223x152) fun v224x154 =>
      cnd v224x154
        (K (.bool false) H153)
        (HT prg I.impl_SwitchLanes [(σ114 6), (σ114 7)].toArray H153 fun v228x155 H156 =>
      ob (vExt v228x155 0) fun v229x157 =>
      ob (vExt v228x155 1) fun v230x158 =>
      ob (vExt v228x155 2) fun v231x159 =>
      ob (vUn .not v231x159) fun v233x160 =>
      gop v233x160 false (fun K161 => K161 v229x157 H156) H156 fun v235x162 H163 =>
      gop v233x160 false (fun K164 => ob (vLenSl v235x162) fun u => K164 u H163) H163 fun v236x165 H166 =>
      gop v233x160 false (fun K167 => K167 (σ114 5) H166) H166 fun v237x168 H169 =>
      gop v233x160 false (fun K170 => ob (vInt .neq v236x165 v237x168) fun u => K170 u H169) H169 fun v238x171 H172 =>
      ob (vPick v233x160 (.bool true) v238x171) fun v239x173 =>
      gop v239x173 false (fun K174 => K174 v230x158 H172) H172 fun v241x175 H176 =>
      gop v239x173 false (fun K177 => ob (vLenSl v241x175) fun u => K177 u H176) H176 fun v242x178 H179 =>
      gop v239x173 false (fun K180 => K180 (σ114 5) H179) H179 fun v243x181 H182 =>
      gop v239x173 false (fun K183 => ob (vInt .neq v242x178 v243x181) fun u => K183 u H182) H182 fun v244x184 H185 =>
      ob (vPick v239x173 (.bool true) v244x184) fun v245x186 =>
      gop v245x186 false (fun K187 => K187 v229x157 H185) H185 fun v247x188 H189 =>
      gop v245x186 false (fun K190 => HT prg I.laws_r8Cars [v247x188].toArray H189 K190) H189 fun v248x191 H192 =>
      gop v245x186 false (fun K193 => K193 v230x158 H192) H192 fun v249x194 H195 =>
      gop v245x186 false (fun K196 => HT prg I.laws_r8Cars [v249x194].toArray H195 K196) H195 fun v250x197 H198 =>
      gop v245x186 false (fun K199 => ob (vInt .add v248x191 v250x197) fun u => K199 u H198) H198 fun v251x200 H201 =>
      gop v245x186 false (fun K202 => K202 (σ114 17) H201) H201 fun v252x203 H204 =>
      gop v245x186 false (fun K205 => K205 (σ114 7) H204) H204 fun v253x206 H207 =>
      gop v245x186 false (fun K208 => HT prg I.laws_r8Cars [v253x206].toArray H207 K208) H207 fun v254x209 H210 =>
      gop v245x186 false (fun K211 => ob (vInt .add v252x203 v254x209) fun u => K211 u H210) H210 fun v255x212 H213 =>
      gop v245x186 false (fun K214 => ob (vInt .neq v251x200 v255x212) fun u => K214 u H213) H213 fun v256x215 H216 =>
      ob (vPick v245x186 (.bool true) v256x215) fun v257x217 =>
      cnd v257x217
        (K (.bool false) H216)
        (jn (fun σ218 H218 =>
        K (.bool true) H218) fun J218 =>
      lpE (fun Q219 σ219 H219 =>
        ob (vInt .lss (σ219 26) (σ219 5)) fun v260x220 =>
        cnd v260x220
          (ob (vIx 1 (σ219 23) (σ219 26)) fun v265x221 =>
        ob (vLoad v265x221 H219) fun v266x222 =>
        ob (vIx 1 (σ219 6) (σ219 26)) fun v269x223 =>
        ob (vLoad v269x223 H219) fun v270x224 =>
        ob (vInt .eql v266x222 v270x224) fun v271x225 =>
        gop v271x225 true (fun K226 => K226 (σ219 24) H219) H219 fun v273x227 H228 =>
        gop v271x225 true (fun K229 => K229 (σ219 26) H228) H228 fun v274x230 H231 =>
        gop v271x225 true (fun K232 => ob (vIx 1 v273x227 v274x230) fun u => K232 u H231) H231 fun v275x233 H234 =>
        gop v271x225 true (fun K235 => ob (vLoad v275x233 H234) fun u => K235 u H234) H234 fun v276x236 H237 =>
        gop v271x225 true (fun K238 => K238 (σ219 7) H237) H237 fun v277x239 H240 =>
        gop v271x225 true (fun K241 => K241 (σ219 26) H240) H240 fun v278x242 H243 =>
        gop v271x225 true (fun K244 => ob (vIx 1 v277x239 v278x242) fun u => K244 u H243) H243 fun v279x245 H246 =>
        gop v271x225 true (fun K247 => ob (vLoad v279x245 H246) fun u => K247 u H246) H246 fun v280x248 H249 =>
        gop v271x225 true (fun K250 => ob (vInt .eql v276x236 v280x248) fun u => K250 u H249) H249 fun v281x251 H252 =>
        ob (vPick v271x225 v281x251 (.bool false)) fun v282x253 =>
        ob (vIx 1 (σ219 23) (σ219 26)) fun v285x254 =>
        ob (vLoad v285x254 H252) fun v286x255 =>
        ob (vIx 1 (σ219 7) (σ219 26)) fun v289x256 =>
        ob (vLoad v289x256 H252) fun v290x257 =>
        ob (vInt .eql v286x255 v290x257) fun v291x258 =>
        gop v291x258 true (fun K259 => K259 (σ219 24) H252) H252 fun v293x260 H261 =>
        gop v291x258 true (fun K262 => K262 (σ219 26) H261) H261 fun v294x263 H264 =>
        gop v291x258 true (fun K265 => ob (vIx 1 v293x260 v294x263) fun u => K265 u H264) H264 fun v295x266 H267 =>
        gop v291x258 true (fun K268 => ob (vLoad v295x266 H267) fun u => K268 u H267) H267 fun v296x269 H270 =>
        gop v291x258 true (fun K271 => K271 (σ219 6) H270) H270 fun v297x272 H273 =>
        gop v291x258 true (fun K274 => K274 (σ219 26) H273) H273 fun v298x275 H276 =>
        gop v291x258 true (fun K277 => ob (vIx 1 v297x272 v298x275) fun u => K277 u H276) H276 fun v299x278 H279 =>
        gop v291x258 true (fun K280 => ob (vLoad v299x278 H279) fun u => K280 u H279) H279 fun v300x281 H282 =>
        gop v291x258 true (fun K283 => ob (vInt .eql v296x269 v300x281) fun u => K283 u H282) H282 fun v301x284 H285 =>
        ob (vPick v291x258 v301x284 (.bool false)) fun v302x286 =>
        ob (vUn .not v282x253) fun v304x287 =>
        gop v304x287 true (fun K288 => K288 v302x286 H285) H285 fun v306x289 H290 =>
        gop v304x287 true (fun K291 => ob (vUn .not v306x289) fun u => K291 u H290) H290 fun v307x292 H293 =>
        ob (vPick v304x287 v307x292 (.bool false)) fun v308x294 =>
        cnd v308x294
          (Q219 .ret (up (up (up (up (up (up (up (up (up (up (up (up (up (up (up (up (up (up (up (up (up (up (up (up (up (up (up (up (up (up (up (up (up (up (up (up (up (up (up (up (up (up (up (up (up (up (up (up (up (up (up (up σ219 258 (σ219 26)) 259 (σ219 5)) 260 v260x220) 263 (σ219 23)) 264 (σ219 26)) 265 v265x221) 266 v266x222) 267 (σ219 6)) 268 (σ219 26)) 269 v269x223) 270 v270x224) 271 v271x225) 272 v271x225) 273 v273x227) 274 v274x230) 275 v275x233) 276 v276x236) 277 v277x239) 278 v278x242) 279 v279x245) 280 v280x248) 281 v281x251) 282 v282x253) 27 v282x253) 283 (σ219 23)) 284 (σ219 26)) 285 v285x254) 286 v286x255) 287 (σ219 7)) 288 (σ219 26)) 289 v289x256) 290 v290x257) 291 v291x258) 292 v291x258) 293 v293x260) 294 v294x263) 295 v295x266) 296 v296x269) 297 v297x272) 298 v298x275) 299 v299x278) 300 v300x281) 301 v301x284) 302 v302x286) 28 v302x286) 303 v282x253) 304 v304x287) 305 v304x287) 306 v306x289) 307 v307x292) 308 v308x294) 4 (.bool false)) H293)
          (gop v302x286 true (fun K295 => K295 v282x253 H293) H293 fun v311x296 H297 =>
        gop v302x286 true (fun K298 => ob (vUn .not v311x296) fun u => K298 u H297) H297 fun v312x299 H300 =>
        ob (vPick v302x286 v312x299 (.bool false)) fun v313x301 =>
        gop v313x301 true (fun K302 => K302 (σ219 6) H300) H300 fun v315x303 H304 =>
        gop v313x301 true (fun K305 => K305 (σ219 26) H304) H304 fun v316x306 H307 =>
        gop v313x301 true (fun K308 => ob (vIx 1 v315x303 v316x306) fun u => K308 u H307) H307 fun v317x309 H310 =>
        gop v313x301 true (fun K311 => ob (vLoad v317x309 H310) fun u => K311 u H310) H310 fun v318x312 H313 =>
        gop v313x301 true (fun K314 => ob (vInt .geq v318x312 (.int .i64 0)) fun u => K314 u H313) H313 fun v319x315 H316 =>
        ob (vPick v313x301 v319x315 (.bool false)) fun v320x317 =>
        gop v320x317 true (fun K318 => K318 (σ219 7) H316) H316 fun v322x319 H320 =>
        gop v320x317 true (fun K321 => K321 (σ219 26) H320) H320 fun v323x322 H323 =>
        gop v320x317 true (fun K324 => ob (vIx 1 v322x319 v323x322) fun u => K324 u H323) H323 fun v324x325 H326 =>
        gop v320x317 true (fun K327 => ob (vLoad v324x325 H326) fun u => K327 u H326) H326 fun v325x328 H329 =>
        gop v320x317 true (fun K330 => ob (vInt .geq v325x328 (.int .i64 0)) fun u => K330 u H329) H329 fun v326x331 H332 =>
        gop v320x317 true (fun K333 => K333 v326x331 H332) H332 fun v327x334 H335 =>
        gop v327x334 false (fun K336 => K336 (σ219 6) H335) H335 fun v328x337 H338 =>
        gop v327x334 false (fun K339 => K339 (σ219 26) H338) H338 fun v329x340 H341 =>
        gop v327x334 false (fun K342 => ob (vInt .add v329x340 (.int .i64 1)) fun u => K342 u H341) H341 fun v330x343 H344 =>
        gop v327x334 false (fun K345 => K345 (σ219 5) H344) H344 fun v331x346 H347 =>
        gop v327x334 false (fun K348 => ob (vInt .rem v330x343 v331x346) fun u => K348 u H347) H347 fun v332x349 H350 =>
        gop v327x334 false (fun K351 => ob (vIx 1 v328x337 v332x349) fun u => K351 u H350) H350 fun v333x352 H353 =>
        gop v327x334 false (fun K354 => ob (vLoad v333x352 H353) fun u => K354 u H353) H353 fun v334x355 H356 =>
        gop v327x334 false (fun K357 => ob (vInt .lss v334x355 (.int .i64 0)) fun u => K357 u H356) H356 fun v335x358 H359 =>
        gop v320x317 true (fun K360 => ob (vPick v327x334 (.bool true) v335x358) fun u => K360 u H359) H359 fun v336x361 H362 =>
        gop v320x317 true (fun K363 => K363 v336x361 H362) H362 fun v337x364 H365 =>
        gop v337x364 false (fun K366 => K366 (σ219 7) H365) H365 fun v338x367 H368 =>
        gop v337x364 false (fun K369 => K369 (σ219 26) H368) H368 fun v339x370 H371 =>
        gop v337x364 false (fun K372 => ob (vInt .add v339x370 (.int .i64 1)) fun u => K372 u H371) H371 fun v340x373 H374 =>
        gop v337x364 false (fun K375 => K375 (σ219 5) H374) H374 fun v341x376 H377 =>
        gop v337x364 false (fun K378 => ob (vInt .rem v340x373 v341x376) fun u => K378 u H377) H377 fun v342x379 H380 =>
        gop v337x364 false (fun K381 => ob (vIx 1 v338x367 v342x379) fun u => K381 u H380) H380 fun v343x382 H383 =>
        gop v337x364 false (fun K384 => ob (vLoad v343x382 H383) fun u => K384 u H383) H383 fun v344x385 H386 =>
        gop v337x364 false (fun K387 => ob (vInt .geq v344x385 (.int .i64 0)) fun u => K387 u H386) H386 fun v345x388 H389 =>
        gop v320x317 true (fun K390 => ob (vPick v337x364 (.bool true) v345x388) fun u => K390 u H389) H389 fun v346x391 H392 =>
        gop v320x317 true (fun K393 => K393 v346x391 H392) H392 fun v347x394 H395 =>
        gop v347x394 false (fun K396 => K396 (σ219 7) H395) H395 fun v348x397 H398 =>
        gop v347x394 false (fun K399 => K399 (σ219 26) H398) H398 fun v349x400 H401 =>
        gop v347x394 false (fun K402 => K402 (σ219 5) H401) H401 fun v350x403 H404 =>
        gop v347x394 false (fun K405 => ob (vInt .add v349x400 v350x403) fun u => K405 u H404) H404 fun v351x406 H407 =>
        gop v347x394 false (fun K408 => ob (vInt .sub v351x406 (.int .i64 1)) fun u => K408 u H407) H407 fun v352x409 H410 =>
        gop v347x394 false (fun K411 => K411 (σ219 5) H410) H410 fun v353x412 H413 =>
        gop v347x394 false (fun K414 => ob (vInt .rem v352x409 v353x412) fun u => K414 u H413) H413 fun v354x415 H416 =>
        gop v347x394 false (fun K417 => ob (vIx 1 v348x397 v354x415) fun u => K417 u H416) H416 fun v355x418 H419 =>
        gop v347x394 false (fun K420 => ob (vLoad v355x418 H419) fun u => K420 u H419) H419 fun v356x421 H422 =>
        gop v347x394 false (fun K423 => ob (vInt .geq v356x421 (.int .i64 0)) fun u => K423 u H422) H422 fun v357x424 H425 =>
        gop v320x317 true (fun K426 => ob (vPick v347x394 (.bool true) v357x424) fun u => K426 u H425) H425 fun v358x427 H428 =>
        ob (vPick v320x317 v358x427 (.bool false)) fun v359x429 =>
        cnd v359x429
          (Q219 .ret (up (up (up (up (up (up (up (up (up (up (up (up (up (up (up (up (up (up (up (up (up (up (up (up (up (up (up (up (up (up (up (up (up (up (up (up (up (up (up (up (up (up (up (up (up (up (up (up (up (up (up (up (up (up (up (up (up (up (up (up (up (up (up (up (up (up (up (up (up (up (up (up (up (up (up (up (up (up (up (up (up (up (up (up (up (up (up (up (up (up (up (up (up (up (up (up (up (up (up (up (up (up (up σ219 258 (σ219 26)) 259 (σ219 5)) 260 v260x220) 263 (σ219 23)) 264 (σ219 26)) 265 v265x221) 266 v266x222) 267 (σ219 6)) 268 (σ219 26)) 269 v269x223) 270 v270x224) 271 v271x225) 272 v271x225) 273 v273x227) 274 v274x230) 275 v275x233) 276 v276x236) 277 v277x239) 278 v278x242) 279 v279x245) 280 v280x248) 281 v281x251) 282 v282x253) 27 v282x253) 283 (σ219 23)) 284 (σ219 26)) 285 v285x254) 286 v286x255) 287 (σ219 7)) 288 (σ219 26)) 289 v289x256) 290 v290x257) 291 v291x258) 292 v291x258) 293 v293x260) 294 v294x263) 295 v295x266) 296 v296x269) 297 v297x272) 298 v298x275) 299 v299x278) 300 v300x281) 301 v301x284) 302 v302x286) 28 v302x286) 303 v282x253) 304 v304x287) 305 v304x287) 306 v306x289) 307 v307x292) 308 v308x294) 309 v302x286) 310 v302x286) 311 v311x296) 312 v312x299) 313 v313x301) 314 v313x301) 315 v315x303) 316 v316x306) 317 v317x309) 318 v318x312) 319 v319x315) 320 v320x317) 321 v320x317) 322 v322x319) 323 v323x322) 324 v324x325) 325 v325x328) 326 v326x331) 327 v327x334) 328 v328x337) 329 v329x340) 330 v330x343) 331 v331x346) 332 v332x349) 333 v333x352) 334 v334x355) 335 v335x358) 336 v336x361) 337 v337x364) 338 v338x367) 339 v339x370) 340 v340x373) 341 v341x376) 342 v342x379) 343 v343x382) 344 v344x385) 345 v345x388) 346 v346x391) 347 v347x394) 348 v348x397) 349 v349x400) 350 v350x403) 351 v351x406) 352 v352x409) 353 v353x412) 354 v354x415) 355 v355x418) 356 v356x421) 357 v357x424) 358 v358x427) 359 v359x429) 4 (.bool false)) H428)
          (ob (vInt .add (σ219 26) (.int .i64 1)) fun v262x430 =>
        Q219 .normal (up (up (up (up (up (up (up (up (up (up (up (up (up (up (up (up (up (up (up (up (up (up (up (up (up (up (up (up (up (up (up (up (up (up (up (up (up (up (up (up (up (up (up (up (up (up (up (up (up (up (up (up (up (up (up (up (up (up (up (up (up (up (up (up (up (up (up (up (up (up (up (up (up (up (up (up (up (up (up (up (up (up (up (up (up (up (up (up (up (up (up (up (up (up (up (up (up (up (up (up (up (up (up (up (up σ219 258 (σ219 26)) 259 (σ219 5)) 260 v260x220) 263 (σ219 23)) 264 (σ219 26)) 265 v265x221) 266 v266x222) 267 (σ219 6)) 268 (σ219 26)) 269 v269x223) 270 v270x224) 271 v271x225) 272 v271x225) 273 v273x227) 274 v274x230) 275 v275x233) 276 v276x236) 277 v277x239) 278 v278x242) 279 v279x245) 280 v280x248) 281 v281x251) 282 v282x253) 27 v282x253) 283 (σ219 23)) 284 (σ219 26)) 285 v285x254) 286 v286x255) 287 (σ219 7)) 288 (σ219 26)) 289 v289x256) 290 v290x257) 291 v291x258) 292 v291x258) 293 v293x260) 294 v294x263) 295 v295x266) 296 v296x269) 297 v297x272) 298 v298x275) 299 v299x278) 300 v300x281) 301 v301x284) 302 v302x286) 28 v302x286) 303 v282x253) 304 v304x287) 305 v304x287) 306 v306x289) 307 v307x292) 308 v308x294) 309 v302x286) 310 v302x286) 311 v311x296) 312 v312x299) 313 v313x301) 314 v313x301) 315 v315x303) 316 v316x306) 317 v317x309) 318 v318x312) 319 v319x315) 320 v320x317) 321 v320x317) 322 v322x319) 323 v323x322) 324 v324x325) 325 v325x328) 326 v326x331) 327 v327x334) 328 v328x337) 329 v329x340) 330 v330x343) 331 v331x346) 332 v332x349) 333 v333x352) 334 v334x355) 335 v335x358) 336 v336x361) 337 v337x364) 338 v338x367) 339 v339x370) 340 v340x373) 341 v341x376) 342 v342x379) 343 v343x382) 344 v344x385) 345 v345x388) 346 v346x391) 347 v347x394) 348 v348x397) 349 v349x400) 350 v350x403) 351 v351x406) 352 v352x409) 353 v353x412) 354 v354x415) 355 v355x418) 356 v356x421) 357 v357x424) 358 v358x427) 359 v359x429) 261 (σ219 26)) 262 v262x430) 26 v262x430) H428)))
          (Q219 (.exit 4) (up (up (up σ219 258 (σ219 26)) 259 (σ219 5)) 260 v260x220) H219)) (blkQ 4 (thenQ J218 (retQ prg [(.tmp 4)] K))) (up (up (up (up (up (up (up (up (up (up (up (up (up (up (up (up (up (up (up (up (up (up (up (up (up (up (up (up (up (up (up (up (up (up (up (up (up (up (up (up (up (up (up (up (up (up (up (up (up (up (up (up (up (up (up (up (up (up (up (up (up σ114 204 (σ114 11)) 205 v205x115) 203 v205x115) 206 v206x117) 207 v207x118) 21 v206x117) 22 v207x118) 208 v207x118) 209 (σ114 17)) 210 v210x119) 211 v211x120) 212 v211x120) 213 v213x122) 214 v214x125) 215 v215x128) 216 v216x131) 217 v217x134) 218 v218x137) 219 v219x140) 220 v220x143) 221 v221x146) 222 v222x149) 223 v223x152) 224 v224x154) 226 (σ114 6)) 227 (σ114 7)) 228 v228x155) 225 v228x155) 229 v229x157) 230 v230x158) 231 v231x159) 23 v229x157) 24 v230x158) 25 v231x159) 232 v231x159) 233 v233x160) 234 v233x160) 235 v235x162) 236 v236x165) 237 v237x168) 238 v238x171) 239 v239x173) 240 v239x173) 241 v241x175) 242 v242x178) 243 v243x181) 244 v244x184) 245 v245x186) 246 v245x186) 247 v247x188) 248 v248x191) 249 v249x194) 250 v250x197) 251 v251x200) 252 v252x203) 253 v253x206) 254 v254x209) 255 v255x212) 256 v256x215) 257 v257x217) 26 (.int .i64 0)) H216))) fun J114 =>
    lpE (fun Q431 σ431 H431 =>
      ob (vInt .lss (σ431 20) (σ431 5)) fun v125x432 =>
      cnd v125x432
        (ob (vIx 1 (σ431 11) (σ431 20)) fun v130x433 =>
      ob (vLoad v130x433 H431) fun v131x434 =>
      ob (vInt .gtr v131x434 (σ431 8)) fun v133x435 =>
      gop v133x435 false (fun K436 => K436 (σ431 14) H431) H431 fun v135x437 H438 =>
      gop v133x435 false (fun K439 => K439 (σ431 20) H438) H438 fun v136x440 H441 =>
      gop v133x435 false (fun K442 => ob (vIx 1 v135x437 v136x440) fun u => K442 u H441) H441 fun v137x443 H444 =>
      gop v133x435 false (fun K445 => ob (vLoad v137x443 H444) fun u => K445 u H444) H444 fun v138x446 H447 =>
      gop v133x435 false (fun K448 => K448 (σ431 8) H447) H447 fun v139x449 H450 =>
      gop v133x435 false (fun K451 => ob (vInt .gtr v138x446 v139x449) fun u => K451 u H450) H450 fun v140x452 H453 =>
      ob (vPick v133x435 (.bool true) v140x452) fun v141x454 =>
      gop v141x454 false (fun K455 => K455 (σ431 14) H453) H453 fun v143x456 H457 =>
      gop v141x454 false (fun K458 => K458 (σ431 20) H457) H457 fun v144x459 H460 =>
      gop v141x454 false (fun K461 => ob (vIx 1 v143x456 v144x459) fun u => K461 u H460) H460 fun v145x462 H463 =>
      gop v141x454 false (fun K464 => ob (vLoad v145x462 H463) fun u => K464 u H463) H463 fun v146x465 H466 =>
      gop v141x454 false (fun K467 => ob (vInt .gtr v146x465 (.int .i64 0)) fun u => K467 u H466) H466 fun v147x468 H469 =>
      gop v141x454 false (fun K470 => K470 v147x468 H469) H469 fun v148x471 H472 =>
      gop v148x471 true (fun K473 => K473 (σ431 6) H472) H472 fun v149x474 H475 =>
      gop v148x471 true (fun K476 => K476 (σ431 20) H475) H475 fun v150x477 H478 =>
      gop v148x471 true (fun K479 => K479 (σ431 14) H478) H478 fun v151x480 H481 =>
      gop v148x471 true (fun K482 => K482 (σ431 20) H481) H481 fun v152x483 H484 =>
      gop v148x471 true (fun K485 => ob (vIx 1 v151x480 v152x483) fun u => K485 u H484) H484 fun v153x486 H487 =>
      gop v148x471 true (fun K488 => ob (vLoad v153x486 H487) fun u => K488 u H487) H487 fun v154x489 H490 =>
      gop v148x471 true (fun K491 => K491 (σ431 5) H490) H490 fun v155x492 H493 =>
      gop v148x471 true (fun K494 => ob (vInt .rem v154x489 v155x492) fun u => K494 u H493) H493 fun v156x495 H496 =>
      gop v148x471 true (fun K497 => ob (vInt .sub v150x477 v156x495) fun u => K497 u H496) H496 fun v157x498 H499 =>
      gop v148x471 true (fun K500 => K500 (σ431 5) H499) H499 fun v158x501 H502 =>
      gop v148x471 true (fun K503 => ob (vInt .add v157x498 v158x501) fun u => K503 u H502) H502 fun v159x504 H505 =>
      gop v148x471 true (fun K506 => K506 (σ431 5) H505) H505 fun v160x507 H508 =>
      gop v148x471 true (fun K509 => ob (vInt .rem v159x504 v160x507) fun u => K509 u H508) H508 fun v161x510 H511 =>
      gop v148x471 true (fun K512 => ob (vIx 1 v149x474 v161x510) fun u => K512 u H511) H511 fun v162x513 H514 =>
      gop v148x471 true (fun K515 => ob (vLoad v162x513 H514) fun u => K515 u H514) H514 fun v163x516 H517 =>
      gop v148x471 true (fun K518 => ob (vInt .lss v163x516 (.int .i64 0)) fun u => K518 u H517) H517 fun v164x519 H520 =>
      gop v141x454 false (fun K521 => ob (vPick v148x471 v164x519 (.bool false)) fun u => K521 u H520) H520 fun v165x522 H523 =>
      ob (vPick v141x454 (.bool true) v165x522) fun v166x524 =>
      gop v166x524 false (fun K525 => K525 (σ431 6) H523) H523 fun v168x526 H527 =>
      gop v166x524 false (fun K528 => K528 (σ431 20) H527) H527 fun v169x529 H530 =>
      gop v166x524 false (fun K531 => ob (vIx 1 v168x526 v169x529) fun u => K531 u H530) H530 fun v170x532 H533 =>
      gop v166x524 false (fun K534 => ob (vLoad v170x532 H533) fun u => K534 u H533) H533 fun v171x535 H536 =>
      gop v166x524 false (fun K537 => ob (vInt .geq v171x535 (.int .i64 0)) fun u => K537 u H536) H536 fun v172x538 H539 =>
      gop v166x524 false (fun K540 => K540 v172x538 H539) H539 fun v173x541 H542 =>
      gop v173x541 true (fun K543 => K543 (σ431 8) H542) H542 fun v174x544 H545 =>
      gop v173x541 true (fun K546 => ob (vInt .eql v174x544 (.int .i64 1)) fun u => K546 u H545) H545 fun v175x547 H548 =>
      gop v166x524 false (fun K549 => ob (vPick v173x541 v175x547 (.bool false)) fun u => K549 u H548) H548 fun v176x550 H551 =>
      gop v166x524 false (fun K552 => K552 v176x550 H551) H551 fun v177x553 H554 =>
      gop v177x553 true (fun K555 => K555 (σ431 9) H554) H554 fun v178x556 H557 =>
      gop v177x553 true (fun K558 => ob (vFcmp .eql v178x556 (.float .f32 0)) fun u => K558 u H557) H557 fun v179x559 H560 =>
      gop v166x524 false (fun K561 => ob (vPick v177x553 v179x559 (.bool false)) fun u => K561 u H560) H560 fun v180x562 H563 =>
      gop v166x524 false (fun K564 => K564 v180x562 H563) H563 fun v181x565 H566 =>
      gop v181x565 true (fun K567 => K567 (σ431 14) H566) H566 fun v182x568 H569 =>
      gop v181x565 true (fun K570 => K570 (σ431 20) H569) H569 fun v183x571 H572 =>
      gop v181x565 true (fun K573 => ob (vIx 1 v182x568 v183x571) fun u => K573 u H572) H572 fun v184x574 H575 =>
      gop v181x565 true (fun K576 => ob (vLoad v184x574 H575) fun u => K576 u H575) H575 fun v185x577 H578 =>
      gop v181x565 true (fun K579 => ob (vInt .lss v185x577 (.int .i64 0)) fun u => K579 u H578) H578 fun v186x580 H581 =>
      gop v166x524 false (fun K582 => ob (vPick v181x565 v186x580 (.bool false)) fun u => K582 u H581) H581 fun v187x583 H584 =>
      gop v166x524 false (fun K585 => K585 v187x583 H584) H584 fun v188x586 H587 =>
      gop v188x586 true (fun K588 => K588 (σ431 6) H587) H587 fun v189x589 H590 =>
      gop v188x586 true (fun K591 => K591 (σ431 20) H590) H590 fun v190x592 H593 =>
      gop v188x586 true (fun K594 => ob (vInt .add v190x592 (.int .i64 1)) fun u => K594 u H593) H593 fun v191x595 H596 =>
      gop v188x586 true (fun K597 => K597 (σ431 5) H596) H596 fun v192x598 H599 =>
      gop v188x586 true (fun K600 => ob (vInt .rem v191x595 v192x598) fun u => K600 u H599) H599 fun v193x601 H602 =>
      gop v188x586 true (fun K603 => ob (vIx 1 v189x589 v193x601) fun u => K603 u H602) H602 fun v194x604 H605 =>
      gop v188x586 true (fun K606 => ob (vLoad v194x604 H605) fun u => K606 u H605) H605 fun v195x607 H608 =>
      gop v188x586 true (fun K609 => ob (vInt .geq v195x607 (.int .i64 0)) fun u => K609 u H608) H608 fun v196x610 H611 =>
      gop v166x524 false (fun K612 => ob (vPick v188x586 v196x610 (.bool false)) fun u => K612 u H611) H611 fun v197x613 H614 =>
      gop v166x524 false (fun K615 => K615 v197x613 H614) H614 fun v198x616 H617 =>
      gop v198x616 true (fun K618 => K618 (σ431 5) H617) H617 fun v199x619 H620 =>
      gop v198x616 true (fun K621 => ob (vInt .gtr v199x619 (.int .i64 1)) fun u => K621 u H620) H620 fun v200x622 H623 =>
      gop v166x524 false (fun K624 => ob (vPick v198x616 v200x622 (.bool false)) fun u => K624 u H623) H623 fun v201x625 H626 =>
      ob (vPick v166x524 (.bool true) v201x625) fun v202x627 =>
      cnd v202x627
        (Q431 .ret (up (up (up (up (up (up (up (up (up (up (up (up (up (up (up (up (up (up (up (up (up (up (up (up (up (up (up (up (up (up (up (up (up (up (up (up (up (up (up (up (up (up (up (up (up (up (up (up (up (up (up (up (up (up (up (up (up (up (up (up (up (up (up (up (up (up (up (up (up (up (up (up (up (up (up (up (up (up (up σ431 123 (σ431 20)) 124 (σ431 5)) 125 v125x432) 128 (σ431 11)) 129 (σ431 20)) 130 v130x433) 131 v131x434) 132 (σ431 8)) 133 v133x435) 134 v133x435) 135 v135x437) 136 v136x440) 137 v137x443) 138 v138x446) 139 v139x449) 140 v140x452) 141 v141x454) 142 v141x454) 143 v143x456) 144 v144x459) 145 v145x462) 146 v146x465) 147 v147x468) 148 v148x471) 149 v149x474) 150 v150x477) 151 v151x480) 152 v152x483) 153 v153x486) 154 v154x489) 155 v155x492) 156 v156x495) 157 v157x498) 158 v158x501) 159 v159x504) 160 v160x507) 161 v161x510) 162 v162x513) 163 v163x516) 164 v164x519) 165 v165x522) 166 v166x524) 167 v166x524) 168 v168x526) 169 v169x529) 170 v170x532) 171 v171x535) 172 v172x538) 173 v173x541) 174 v174x544) 175 v175x547) 176 v176x550) 177 v177x553) 178 v178x556) 179 v179x559) 180 v180x562) 181 v181x565) 182 v182x568) 183 v183x571) 184 v184x574) 185 v185x577) 186 v186x580) 187 v187x583) 188 v188x586) 189 v189x589) 190 v190x592) 191 v191x595) 192 v192x598) 193 v193x601) 194 v194x604) 195 v195x607) 196 v196x610) 197 v197x613) 198 v198x616) 199 v199x619) 200 v200x622) 201 v201x625) 202 v202x627) 4 (.bool false)) H626)
        (ob (vInt .add (σ431 20) (.int .i64 1)) fun v127x628 =>
      Q431 .normal (up (up (up (up (up (up (up (up (up (up (up (up (up (up (up (up (up (up (up (up (up (up (up (up (up (up (up (up (up (up (up (up (up (up (up (up (up (up (up (up (up (up (up (up (up (up (up (up (up (up (up (up (up (up (up (up (up (up (up (up (up (up (up (up (up (up (up (up (up (up (up (up (up (up (up (up (up (up (up (up (up σ431 123 (σ431 20)) 124 (σ431 5)) 125 v125x432) 128 (σ431 11)) 129 (σ431 20)) 130 v130x433) 131 v131x434) 132 (σ431 8)) 133 v133x435) 134 v133x435) 135 v135x437) 136 v136x440) 137 v137x443) 138 v138x446) 139 v139x449) 140 v140x452) 141 v141x454) 142 v141x454) 143 v143x456) 144 v144x459) 145 v145x462) 146 v146x465) 147 v147x468) 148 v148x471) 149 v149x474) 150 v150x477) 151 v151x480) 152 v152x483) 153 v153x486) 154 v154x489) 155 v155x492) 156 v156x495) 157 v157x498) 158 v158x501) 159 v159x504) 160 v160x507) 161 v161x510) 162 v162x513) 163 v163x516) 164 v164x519) 165 v165x522) 166 v166x524) 167 v166x524) 168 v168x526) 169 v169x529) 170 v170x532) 171 v171x535) 172 v172x538) 173 v173x541) 174 v174x544) 175 v175x547) 176 v176x550) 177 v177x553) 178 v178x556) 179 v179x559) 180 v180x562) 181 v181x565) 182 v182x568) 183 v183x571) 184 v184x574) 185 v185x577) 186 v186x580) 187 v187x583) 188 v188x586) 189 v189x589) 190 v190x592) 191 v191x595) 192 v192x598) 193 v193x601) 194 v194x604) 195 v195x607) 196 v196x610) 197 v197x613) 198 v198x616) 199 v199x619) 200 v200x622) 201 v201x625) 202 v202x627) 126 (σ431 20)) 127 v127x628) 20 v127x628) H626))
        (Q431 (.exit 2) (up (up (up σ431 123 (σ431 20)) 124 (σ431 5)) 125 v125x432) H431)) (blkQ 2 (thenQ J114 (retQ prg [(.tmp 4)] K))) (up (up (up (up (up (up (up (up (up (up (up (up (up (up (up (up σ87 108 (σ87 11)) 109 v109x88) 110 (σ87 17)) 111 v111x90) 112 v111x90) 113 v113x92) 114 v114x95) 115 v115x98) 116 v116x101) 117 v117x103) 118 v117x103) 119 v119x105) 120 v120x108) 121 v121x111) 122 v122x113) 20 (.int .i64 0)) H112)) fun J87 =>
  lpE (fun Q629 σ629 H629 =>
    ob (vInt .lss (σ629 19) (σ629 17)) fun v101x630 =>
    cnd v101x630
      (ob (vInt .mul (.int .i64 1664525) (σ629 18)) fun v105x631 =>
    ob (vInt .add v105x631 (.int .i64 1013904223)) fun v106x632 =>
    ob (vInt .rem v106x632 (.int .i64 4294967296)) fun v107x633 =>
    ob (vInt .add (σ629 19) (.int .i64 1)) fun v103x634 =>
    Q629 .normal (up (up (up (up (up (up (up (up (up (up (up σ629 99 (σ629 19)) 100 (σ629 17)) 101 v101x630) 104 (σ629 18)) 105 v105x631) 106 v106x632) 107 v107x633) 18 v107x633) 102 (σ629 19)) 103 v103x634) 19 v103x634) H629)
      (Q629 (.exit 0) (up (up (up σ629 99 (σ629 19)) 100 (σ629 17)) 101 v101x630) H629)) (blkQ 0 (thenQ J87 (retQ prg [(.tmp 4)] K))) (up (up (up (up (up (up (up (up (up (up (up (up (up (up (up (up (up (up (up (up (up (up (up (up (up (up (up (up (up (up (up (up (up (up (up (up (up (up (up (up (up (up (up (up (up (up (up (up (up (up (up (up (up (up (up (up (up (up (up (up (up (up (up (up (up (up (up (up (up (up (up (up (up (up (up (up (up (up (up (up (up (up (up (up (up (up (S0 [a0, a1]) 4 (.bool false)) 29 a0) 30 a1) 31 v31x1) 32 a1) 33 v33x3) 34 v34x5) 5 v34x5) 35 a0) 36 v34x5) 37 v37x6) 6 v37x6) 38 a1) 39 v34x5) 40 v40x8) 7 v40x8) 41 a1) 42 v42x10) 43 v43x12) 8 v43x12) 44 a1) 45 v45x13) 46 v46x15) 47 v47x16) 9 v47x16) 48 a1) 49 v49x18) 50 v50x20) 10 v50x20) 52 v37x6) 53 v43x12) 54 v47x16) 55 v50x20) 56 v56x21) 51 v56x21) 57 v57x23) 58 v58x24) 59 v59x25) 11 v57x23) 12 v58x24) 13 v59x25) 61 v37x6) 62 v43x12) 63 v50x20) 64 v64x26) 60 v64x26) 65 v65x28) 66 v66x29) 67 v67x30) 14 v65x28) 15 v66x29) 16 v67x30) 68 v59x25) 69 v69x31) 70 v69x31) 71 v71x33) 72 v72x36) 73 v73x38) 74 v73x38) 75 v75x40) 76 v76x43) 77 v77x46) 78 v78x48) 79 v78x48) 80 v80x50) 81 v81x53) 82 v82x56) 83 v83x59) 84 v84x61) 85 v84x61) 86 v86x63) 87 v87x66) 88 v88x69) 89 v89x72) 90 v90x74) 91 v90x74) 92 v92x76) 93 v93x79) 94 v94x82) 95 v95x84) 96 v37x6) 97 v97x85) 17 v97x85) 98 v50x20) 18 v50x20) 19 (.int .i64 0)) H86))
def O.laws_FnLanes : Nat → Bool × List Nat := fun i => bif Nat.beq i 35 then (false, [0, 1, 2, 3, 4, 5, 6, 7, 8, 9, 10, 11, 12, 13, 14, 15, 16, 17, 18, 19, 20]) else bif Nat.beq i 36 then (false, [0, 1, 2, 3, 4, 5, 6, 7, 8, 9, 10, 11, 12, 13, 14, 15, 16, 17, 18, 19, 20]) else (false, [])
theorem R.laws_FnLanes {a0 a1 : Value} {H : Hp} {K : Value → Hp → Prop} (h : F.laws_FnLanes a0 a1 H K) : HT prg I.laws_FnLanes [a0, a1].toArray H K :=
  HT_of_fev O.laws_FnLanes mixed Try.func7 (by kernel_rfl) (Eq.mpr (by kernel_rfl : fev prg O.laws_FnLanes Try.f7 [a0, a1] H K = F.laws_FnLanes a0 a1 H K) h)

/-! loop.example/g01381/laws.szInt64S: function 68 -/
def F.laws_szInt64S (a0 a1 : Value) (H : Hp) (K : Value → Hp → Prop) : Prop :=
  ob (vLenSl a0) fun v7x1 =>
  ob (vInt .sub a1 v7x1) fun v8x2 =>
  ob (vInt .lss v8x2 (.int .i64 0)) fun v10x3 =>
  cnd v10x3
    (K (.int .i64 (-1)) H)
    (K v8x2 H)
def O.laws_szInt64S : Nat → Bool × List Nat := fun i => (false, [])
theorem R.laws_szInt64S {a0 a1 : Value} {H : Hp} {K : Value → Hp → Prop} (h : F.laws_szInt64S a0 a1 H K) : HT prg I.laws_szInt64S [a0, a1].toArray H K :=
  HT_of_fev O.laws_szInt64S mixed Try.func68 (by kernel_rfl) (Eq.mpr (by kernel_rfl : fev prg O.laws_szInt64S Try.f68 [a0, a1] H K = F.laws_szInt64S a0 a1 H K) h)

/-! loop.example/g01381/laws.szBoolS: function 69 -/
def F.laws_szBoolS (a0 a1 : Value) (H : Hp) (K : Value → Hp → Prop) : Prop :=
  ob (vLenSl a0) fun v7x1 =>
  ob (vInt .sub a1 v7x1) fun v8x2 =>
  ob (vInt .lss v8x2 (.int .i64 0)) fun v10x3 =>
  cnd v10x3
    (K (.int .i64 (-1)) H)
    (K v8x2 H)
def O.laws_szBoolS : Nat → Bool × List Nat := fun i => (false, [])
theorem R.laws_szBoolS {a0 a1 : Value} {H : Hp} {K : Value → Hp → Prop} (h : F.laws_szBoolS a0 a1 H K) : HT prg I.laws_szBoolS [a0, a1].toArray H K :=
  HT_of_fev O.laws_szBoolS mixed Try.func69 (by kernel_rfl) (Eq.mpr (by kernel_rfl : fev prg O.laws_szBoolS Try.f69 [a0, a1] H K = F.laws_szBoolS a0 a1 H K) h)

/-! loop.example/g01381/laws.szGas: function 31 -/
def F.laws_szGas (a0 a1 : Value) (H : Hp) (K : Value → Hp → Prop) : Prop :=
  nw (a0 : Value).cells 44 H fun v2x1 H2 =>
  ob (vFa 3 v2x1) fun v5x3 =>
  ob (vLoad v5x3 H2) fun v6x4 =>
  HT prg I.laws_szInt64S [v6x4, a1].toArray H2 fun v8x5 H6 =>
  ob (vInt .lss v8x5 (.int .i64 0)) fun v10x7 =>
  cnd v10x7
    (K (.int .i64 (-1)) H6)
    (ob (vFa 4 v2x1) fun v11x8 =>
  ob (vLoad v11x8 H6) fun v12x9 =>
  HT prg I.laws_szBoolS [v12x9, v8x5].toArray H6 fun v14x10 H11 =>
  ob (vInt .lss v14x10 (.int .i64 0)) fun v16x12 =>
  cnd v16x12
    (K (.int .i64 (-1)) H11)
    (K v14x10 H11))
def O.laws_szGas : Nat → Bool × List Nat := fun i => (false, [])
theorem R.laws_szGas {a0 a1 : Value} {H : Hp} {K : Value → Hp → Prop} (h : F.laws_szGas a0 a1 H K) : HT prg I.laws_szGas [a0, a1].toArray H K :=
  HT_of_fev O.laws_szGas mixed Try.func31 (by kernel_rfl) (Eq.mpr (by kernel_rfl : fev prg O.laws_szGas Try.f31 [a0, a1] H K = F.laws_szGas a0 a1 H K) h)

/-! loop.example/g01381/spec.l06Sides: function 82 -/
def F.spec_l06Sides (a0 a1 : Value) (H : Hp) (K : Value → Hp → Prop) : Prop :=
  HT prg I.spec_l00In [a0, (.int .i64 1), (.int .i64 16)].toArray H fun v6x1 H2 =>
  gop v6x1 true (fun K3 => K3 a1 H2) H2 fun v8x4 H5 =>
  gop v6x1 true (fun K6 => HT prg I.spec_l00In [v8x4, (.int .i64 1), (.int .i64 16)].toArray H5 K6) H5 fun v9x7 H8 =>
  ob (vPick v6x1 v9x7 (.bool false)) fun v10x9 =>
  K v10x9 H8
def O.spec_l06Sides : Nat → Bool × List Nat := fun i => (false, [])
theorem R.spec_l06Sides {a0 a1 : Value} {H : Hp} {K : Value → Hp → Prop} (h : F.spec_l06Sides a0 a1 H K) : HT prg I.spec_l06Sides [a0, a1].toArray H K :=
  HT_of_fev O.spec_l06Sides mixed Try.func82 (by kernel_rfl) (Eq.mpr (by kernel_rfl : fev prg O.spec_l06Sides Try.f82 [a0, a1] H K = F.spec_l06Sides a0 a1 H K) h)

/-! loop.example/g01381/spec.l06Is: function 70 -/
def F.spec_l06Is (a0 : Value) (H : Hp) (K : Value → Hp → Prop) : Prop :=
  ob (vNilC a0) fun v5x1 =>
  ob (vFa 0 v5x1) fun v6x2 =>
  ob (vLoad v6x2 H) fun v7x3 =>
  ob (vInt .neq v7x3 (.int .i64 4)) fun v8x4 =>
  gop v8x4 true (fun K5 => K5 a0 H) H fun v10x6 H7 =>
  gop v8x4 true (fun K8 => ob (vNilC v10x6) fun u => K8 u H7) H7 fun v11x9 H10 =>
  gop v8x4 true (fun K11 => ob (vFa 0 v11x9) fun u => K11 u H10) H10 fun v12x12 H13 =>
  gop v8x4 true (fun K14 => ob (vLoad v12x12 H13) fun u => K14 u H13) H13 fun v13x15 H16 =>
  gop v8x4 true (fun K17 => ob (vInt .neq v13x15 (.int .i64 6)) fun u => K17 u H16) H16 fun v14x18 H19 =>
  ob (vPick v8x4 v14x18 (.bool false)) fun v15x20 =>
  gop v15x20 false (fun K21 => K21 a0 H19) H19 fun v17x22 H23 =>
  gop v15x20 false (fun K24 => ob (vNilC v17x22) fun u => K24 u H23) H23 fun v18x25 H26 =>
  gop v15x20 false (fun K27 => ob (vFa 1 v18x25) fun u => K27 u H26) H26 fun v19x28 H29 =>
  gop v15x20 false (fun K30 => ob (vLoad v19x28 H29) fun u => K30 u H29) H29 fun v20x31 H32 =>
  gop v15x20 false (fun K33 => K33 a0 H32) H32 fun v21x34 H35 =>
  gop v15x20 false (fun K36 => ob (vNilC v21x34) fun u => K36 u H35) H35 fun v22x37 H38 =>
  gop v15x20 false (fun K39 => ob (vFa 2 v22x37) fun u => K39 u H38) H38 fun v23x40 H41 =>
  gop v15x20 false (fun K42 => ob (vLoad v23x40 H41) fun u => K42 u H41) H41 fun v24x43 H44 =>
  gop v15x20 false (fun K45 => HT prg I.spec_l06Sides [v20x31, v24x43].toArray H44 fun v25x46 H47 =>
  Le H44 H47 ∧ K45 v25x46 H47) H44 fun v25x48 H49 =>
  gop v15x20 false (fun K50 => ob (vUn .not v25x48) fun u => K50 u H49) H49 fun v26x51 H52 =>
  ob (vPick v15x20 (.bool true) v26x51) fun v27x53 =>
  gop v27x53 false (fun K54 => K54 a0 H52) H52 fun v29x55 H56 =>
  gop v27x53 false (fun K57 => ob (vNilC v29x55) fun u => K57 u H56) H56 fun v30x58 H59 =>
  gop v27x53 false (fun K60 => ob (vFa 3 v30x58) fun u => K60 u H59) H59 fun v31x61 H62 =>
  gop v27x53 false (fun K63 => ob (vLoad v31x61 H62) fun u => K63 u H62) H62 fun v32x64 H65 =>
  gop v27x53 false (fun K66 => ob (vLenSl v32x64) fun u => K66 u H65) H65 fun v33x67 H68 =>
  gop v27x53 false (fun K69 => K69 a0 H68) H68 fun v34x70 H71 =>
  gop v27x53 false (fun K72 => ob (vNilC v34x70) fun u => K72 u H71) H71 fun v35x73 H74 =>
  gop v27x53 false (fun K75 => ob (vFa 1 v35x73) fun u => K75 u H74) H74 fun v36x76 H77 =>
  gop v27x53 false (fun K78 => ob (vLoad v36x76 H77) fun u => K78 u H77) H77 fun v37x79 H80 =>
  gop v27x53 false (fun K81 => K81 a0 H80) H80 fun v38x82 H83 =>
  gop v27x53 false (fun K84 => ob (vNilC v38x82) fun u => K84 u H83) H83 fun v39x85 H86 =>
  gop v27x53 false (fun K87 => ob (vFa 2 v39x85) fun u => K87 u H86) H86 fun v40x88 H89 =>
  gop v27x53 false (fun K90 => ob (vLoad v40x88 H89) fun u => K90 u H89) H89 fun v41x91 H92 =>
  gop v27x53 false (fun K93 => ob (vInt .mul v37x79 v41x91) fun u => K93 u H92) H92 fun v42x94 H95 =>
  gop v27x53 false (fun K96 => ob (vInt .neq v33x67 v42x94) fun u => K96 u H95) H95 fun v43x97 H98 =>
  ob (vPick v27x53 (.bool true) v43x97) fun v44x99 =>
  gop v44x99 false (fun K100 => K100 a0 H98) H98 fun v46x101 H102 =>
  gop v44x99 false (fun K103 => ob (vNilC v46x101) fun u => K103 u H102) H102 fun v47x104 H105 =>
  gop v44x99 false (fun K106 => ob (vFa 4 v47x104) fun u => K106 u H105) H105 fun v48x107 H108 =>
  gop v44x99 false (fun K109 => ob (vLoad v48x107 H108) fun u => K109 u H108) H108 fun v49x110 H111 =>
  gop v44x99 false (fun K112 => ob (vLenSl v49x110) fun u => K112 u H111) H111 fun v50x113 H114 =>
  gop v44x99 false (fun K115 => K115 a0 H114) H114 fun v51x116 H117 =>
  gop v44x99 false (fun K118 => ob (vNilC v51x116) fun u => K118 u H117) H117 fun v52x119 H120 =>
  gop v44x99 false (fun K121 => ob (vFa 3 v52x119) fun u => K121 u H120) H120 fun v53x122 H123 =>
  gop v44x99 false (fun K124 => ob (vLoad v53x122 H123) fun u => K124 u H123) H123 fun v54x125 H126 =>
  gop v44x99 false (fun K127 => ob (vLenSl v54x125) fun u => K127 u H126) H126 fun v55x128 H129 =>
  gop v44x99 false (fun K130 => ob (vInt .neq v50x113 v55x128) fun u => K130 u H129) H129 fun v56x131 H132 =>
  ob (vPick v44x99 (.bool true) v56x131) fun v57x133 =>
  cnd v57x133
    (K (.bool false) H132)
    (jn (fun σ134 H134 =>
    K (.bool true) H134) fun J134 =>
  lpE (fun Q135 σ135 H135 =>
    ob (vNilC (σ135 0)) fun v60x136 =>
    ob (vFa 3 v60x136) fun v61x137 =>
    ob (vLoad v61x137 H135) fun v62x138 =>
    ob (vLenSl v62x138) fun v63x139 =>
    ob (vInt .lss (σ135 3) v63x139) fun v64x140 =>
    cnd v64x140
      (ob (vNilC (σ135 0)) fun v68x141 =>
    ob (vFa 3 v68x141) fun v69x142 =>
    ob (vLoad v69x142 H135) fun v70x143 =>
    ob (vIx 1 v70x143 (σ135 3)) fun v72x144 =>
    ob (vLoad v72x144 H135) fun v73x145 =>
    ob (vNilC (σ135 0)) fun v75x146 =>
    ob (vFa 0 v75x146) fun v76x147 =>
    ob (vLoad v76x147 H135) fun v77x148 =>
    ob (vCI .u64 v77x148) fun v78x149 =>
    ob (vInt .shl (.int .i64 1) v78x149) fun v79x150 =>
    ob (vInt .sub v79x150 (.int .i64 1)) fun v80x151 =>
    HT prg I.spec_l00In [v73x145, (.int .i64 0), v80x151].toArray H135 fun v81x152 H153 =>
    Le H135 H153 ∧ (ob (vUn .not v81x152) fun v82x154 =>
    cnd v82x154
      (Q135 .ret (up (up (up (up (up (up (up (up (up (up (up (up (up (up (up (up (up (up (up (up (up (up (up (up σ135 58 (σ135 3)) 59 (σ135 0)) 60 v60x136) 61 v61x137) 62 v62x138) 63 v63x139) 64 v64x140) 67 (σ135 0)) 68 v68x141) 69 v69x142) 70 v70x143) 71 (σ135 3)) 72 v72x144) 73 v73x145) 74 (σ135 0)) 75 v75x146) 76 v76x147) 77 v77x148) 78 v78x149) 79 v79x150) 80 v80x151) 81 v81x152) 82 v82x154) 2 (.bool false)) H153)
      (ob (vInt .add (σ135 3) (.int .i64 1)) fun v66x155 =>
    Q135 .normal (up (up (up (up (up (up (up (up (up (up (up (up (up (up (up (up (up (up (up (up (up (up (up (up (up (up σ135 58 (σ135 3)) 59 (σ135 0)) 60 v60x136) 61 v61x137) 62 v62x138) 63 v63x139) 64 v64x140) 67 (σ135 0)) 68 v68x141) 69 v69x142) 70 v70x143) 71 (σ135 3)) 72 v72x144) 73 v73x145) 74 (σ135 0)) 75 v75x146) 76 v76x147) 77 v77x148) 78 v78x149) 79 v79x150) 80 v80x151) 81 v81x152) 82 v82x154) 65 (σ135 3)) 66 v66x155) 3 v66x155) H153)))
      (Q135 (.exit 0) (up (up (up (up (up (up (up σ135 58 (σ135 3)) 59 (σ135 0)) 60 v60x136) 61 v61x137) 62 v62x138) 63 v63x139) 64 v64x140) H135)) (blkQ 0 (thenQ J134 (retQ prg [(.tmp 2)] K))) (up (up (up (up (up (up (up (up (up (up (up (up (up (up (up (up (up (up (up (up (up (up (up (up (up (up (up (up (up (up (up (up (up (up (up (up (up (up (up (up (up (up (up (up (up (up (up (up (up (up (up (up (up (up (up (up (S0 [a0]) 2 (.bool false)) 4 a0) 5 v5x1) 6 v6x2) 7 v7x3) 8 v8x4) 9 v8x4) 10 v10x6) 11 v11x9) 12 v12x12) 13 v13x15) 14 v14x18) 15 v15x20) 16 v15x20) 17 v17x22) 18 v18x25) 19 v19x28) 20 v20x31) 21 v21x34) 22 v22x37) 23 v23x40) 24 v24x43) 25 v25x48) 26 v26x51) 27 v27x53) 28 v27x53) 29 v29x55) 30 v30x58) 31 v31x61) 32 v32x64) 33 v33x67) 34 v34x70) 35 v35x73) 36 v36x76) 37 v37x79) 38 v38x82) 39 v39x85) 40 v40x88) 41 v41x91) 42 v42x94) 43 v43x97) 44 v44x99) 45 v44x99) 46 v46x101) 47 v47x104) 48 v48x107) 49 v49x110) 50 v50x113) 51 v51x116) 52 v52x119) 53 v53x122) 54 v54x125) 55 v55x128) 56 v56x131) 57 v57x133) 3 (.int .i64 0)) H132)
def O.spec_l06Is : Nat → Bool × List Nat := fun i => bif Nat.beq i 1 then (false, [0, 1, 2, 3, 4, 5, 6, 7, 8, 9, 10, 11, 12, 13, 14, 15, 16, 17, 18, 19, 20, 21, 22, 23, 24, 25, 26, 27, 28, 29, 30, 31, 32, 33, 34, 35, 36, 37, 38, 39, 40, 41, 42, 43, 44, 45, 46, 47, 48, 49, 50, 51, 52, 53]) else bif Nat.beq i 6 then (false, [0, 1, 2, 3, 4, 5, 6, 7, 8, 9, 10, 11, 12, 13, 14, 15]) else (false, [])
theorem R.spec_l06Is {a0 : Value} {H : Hp} {K : Value → Hp → Prop} (h : F.spec_l06Is a0 H K) : HT prg I.spec_l06Is [a0].toArray H K :=
  HT_of_fev O.spec_l06Is mixed Try.func70 (by kernel_rfl) (Eq.mpr (by kernel_rfl : fev prg O.spec_l06Is Try.f70 [a0] H K = F.spec_l06Is a0 H K) h)

/-! loop.example/g01381/spec.ValidGas: function 32 -/
def F.spec_ValidGas (a0 : Value) (H : Hp) (K : Value → Hp → Prop) : Prop :=
  nw (a0 : Value).cells 47 H fun v1x1 H2 =>
  HT prg I.spec_l06Is [v1x1].toArray H2 fun v3x3 H4 =>
  K v3x3 H4
def O.spec_ValidGas : Nat → Bool × List Nat := fun i => (false, [])
theorem R.spec_ValidGas {a0 : Value} {H : Hp} {K : Value → Hp → Prop} (h : F.spec_ValidGas a0 H K) : HT prg I.spec_ValidGas [a0].toArray H K :=
  HT_of_fev O.spec_ValidGas mixed Try.func32 (by kernel_rfl) (Eq.mpr (by kernel_rfl : fev prg O.spec_ValidGas Try.f32 [a0] H K = F.spec_ValidGas a0 H K) h)

/-! loop.example/g01381/laws.toBoolS: function 71 -/
def F.laws_toBoolS (a0 : Value) (H : Hp) (K : Value → Hp → Prop) : Prop :=
  ob (vLenSl a0) fun v6x1 =>
  mkS 1 1 #[(.bool false)] 4 v6x1 v6x1 H fun v7x2 H3 =>
  jn (fun σ4 H4 =>
    K (σ4 3) H4) fun J4 =>
  lpE (fun Q5 σ5 H5 =>
    ob (vLenSl (σ5 0)) fun v10x6 =>
    ob (vInt .lss (σ5 4) v10x6) fun v11x7 =>
    cnd v11x7
      (ob (vIx 1 (σ5 0) (σ5 4)) fun v18x8 =>
    ob (vLoad v18x8 H5) fun v19x9 =>
    ob (vIx 1 (σ5 3) (σ5 4)) fun v20x10 =>
    st 1 v20x10 v19x9 H5 fun H11 =>
    ob (vInt .add (σ5 4) (.int .i64 1)) fun v13x12 =>
    Q5 .normal (up (up (up (up (up (up (up (up (up (up (up (up (up (up σ5 8 (σ5 4)) 9 (σ5 0)) 10 v10x6) 11 v11x7) 14 (σ5 3)) 15 (σ5 4)) 16 (σ5 0)) 17 (σ5 4)) 18 v18x8) 19 v19x9) 20 v20x10) 12 (σ5 4)) 13 v13x12) 4 v13x12) H11)
      (Q5 (.exit 0) (up (up (up (up σ5 8 (σ5 4)) 9 (σ5 0)) 10 v10x6) 11 v11x7) H5)) (blkQ 0 (thenQ J4 (retQ prg [(.tmp 2)] K))) (up (up (up (up (up (up (S0 [a0]) 2 (.slice none 0 0)) 5 a0) 6 v6x1) 7 v7x2) 3 v7x2) 4 (.int .i64 0)) H3
def O.laws_toBoolS : Nat → Bool × List Nat := fun i => (false, [])
theorem R.laws_toBoolS {a0 : Value} {H : Hp} {K : Value → Hp → Prop} (h : F.laws_toBoolS a0 H K) : HT prg I.laws_toBoolS [a0].toArray H K :=
  HT_of_fev O.laws_toBoolS mixed Try.func71 (by kernel_rfl) (Eq.mpr (by kernel_rfl : fev prg O.laws_toBoolS Try.f71 [a0] H K = F.laws_toBoolS a0 H K) h)

/-! loop.example/g01381/laws.toGas: function 33 -/
def F.laws_toGas (a0 : Value) (H : Hp) (K : Value → Hp → Prop) : Prop :=
  nw (a0 : Value).cells 44 H fun v1x1 H2 =>
  nw #[(.int .i64 0), (.int .i64 0), (.int .i64 0), (.slice none 0 0), (.slice none 0 0)] 47 H2 fun v2x3 H4 =>
  nw #[(.int .i64 0), (.int .i64 0), (.int .i64 0), (.slice none 0 0), (.slice none 0 0)] 47 H4 fun v3x5 H6 =>
  ob (vFa 0 v1x1) fun v4x7 =>
  ob (vLoad v4x7 H6) fun v5x8 =>
  ob (vFa 0 v3x5) fun v6x9 =>
  st 1 v6x9 v5x8 H6 fun H10 =>
  ob (vFa 1 v1x1) fun v7x11 =>
  ob (vLoad v7x11 H10) fun v8x12 =>
  ob (vFa 1 v3x5) fun v9x13 =>
  st 1 v9x13 v8x12 H10 fun H14 =>
  ob (vFa 2 v1x1) fun v10x15 =>
  ob (vLoad v10x15 H14) fun v11x16 =>
  ob (vFa 2 v3x5) fun v12x17 =>
  st 1 v12x17 v11x16 H14 fun H18 =>
  ob (vFa 3 v1x1) fun v13x19 =>
  ob (vLoad v13x19 H18) fun v14x20 =>
  HT prg I.laws_toInt64S [v14x20].toArray H18 fun v15x21 H22 =>
  ob (vFa 3 v3x5) fun v16x23 =>
  st 1 v16x23 v15x21 H22 fun H24 =>
  ob (vFa 4 v1x1) fun v17x25 =>
  ob (vLoad v17x25 H24) fun v18x26 =>
  HT prg I.laws_toBoolS [v18x26].toArray H24 fun v19x27 H28 =>
  ob (vFa 4 v3x5) fun v20x29 =>
  st 1 v20x29 v19x27 H28 fun H30 =>
  ob (vLoadN 5 v3x5 H30) fun v21x31 =>
  st 5 v2x3 v21x31 H30 fun H32 =>
  ob (vLoadN 5 v2x3 H32) fun u33 => K u33 H32
def O.laws_toGas : Nat → Bool × List Nat := fun i => (false, [])
theorem R.laws_toGas {a0 : Value} {H : Hp} {K : Value → Hp → Prop} (h : F.laws_toGas a0 H K) : HT prg I.laws_toGas [a0].toArray H K :=
  HT_of_fev O.laws_toGas mixed Try.func33 (by kernel_rfl) (Eq.mpr (by kernel_rfl : fev prg O.laws_toGas Try.f33 [a0] H K = F.laws_toGas a0 H K) h)

/-! loop.example/g01381/impl.areSides: function 72 -/
def F.impl_areSides (a0 a1 : Value) (H : Hp) (K : Value → Hp → Prop) : Prop :=
  HT prg I.impl_within [a0, (.int .i64 1), (.int .i64 16)].toArray H fun v6x1 H2 =>
  gop v6x1 true (fun K3 => K3 a1 H2) H2 fun v8x4 H5 =>
  gop v6x1 true (fun K6 => HT prg I.impl_within [v8x4, (.int .i64 1), (.int .i64 16)].toArray H5 K6) H5 fun v9x7 H8 =>
  ob (vPick v6x1 v9x7 (.bool false)) fun v10x9 =>
  K v10x9 H8
def O.impl_areSides : Nat → Bool × List Nat := fun i => (false, [])
theorem R.impl_areSides {a0 a1 : Value} {H : Hp} {K : Value → Hp → Prop} (h : F.impl_areSides a0 a1 H K) : HT prg I.impl_areSides [a0, a1].toArray H K :=
  HT_of_fev O.impl_areSides mixed Try.func72 (by kernel_rfl) (Eq.mpr (by kernel_rfl : fev prg O.impl_areSides Try.f72 [a0, a1] H K = F.impl_areSides a0 a1 H K) h)

/-! loop.example/g01381/impl.ValidGas: function 34 -/
def F.impl_ValidGas (a0 : Value) (H : Hp) (K : Value → Hp → Prop) : Prop :=
  nw (a0 : Value).cells 47 H fun v1x1 H2 =>
  ob (vFa 1 v1x1) fun v4x3 =>
  ob (vLoad v4x3 H2) fun v5x4 =>
  ob (vFa 2 v1x1) fun v6x5 =>
  ob (vLoad v6x5 H2) fun v7x6 =>
  ob (vInt .mul v5x4 v7x6) fun v8x7 =>
  ob (vFa 0 v1x1) fun v9x8 =>
  ob (vLoad v9x8 H2) fun v10x9 =>
  ob (vInt .eql v10x9 (.int .i64 4)) fun v11x10 =>
  gop v11x10 false (fun K11 => ob (vFa 0 v1x1) fun u => K11 u H2) H2 fun v13x12 H13 =>
  gop v11x10 false (fun K14 => ob (vLoad v13x12 H13) fun u => K14 u H13) H13 fun v14x15 H16 =>
  gop v11x10 false (fun K17 => ob (vInt .eql v14x15 (.int .i64 6)) fun u => K17 u H16) H16 fun v15x18 H19 =>
  ob (vPick v11x10 (.bool true) v15x18) fun v16x20 =>
  gop v16x20 true (fun K21 => ob (vFa 1 v1x1) fun u => K21 u H19) H19 fun v18x22 H23 =>
  gop v16x20 true (fun K24 => ob (vLoad v18x22 H23) fun u => K24 u H23) H23 fun v19x25 H26 =>
  gop v16x20 true (fun K27 => ob (vFa 2 v1x1) fun u => K27 u H26) H26 fun v20x28 H29 =>
  gop v16x20 true (fun K30 => ob (vLoad v20x28 H29) fun u => K30 u H29) H29 fun v21x31 H32 =>
  gop v16x20 true (fun K33 => HT prg I.impl_areSides [v19x25, v21x31].toArray H32 fun v22x34 H35 =>
  Le H32 H35 ∧ K33 v22x34 H35) H32 fun v22x36 H37 =>
  ob (vPick v16x20 v22x36 (.bool false)) fun v23x38 =>
  gop v23x38 true (fun K39 => ob (vFa 3 v1x1) fun u => K39 u H37) H37 fun v25x40 H41 =>
  gop v23x38 true (fun K42 => ob (vLoad v25x40 H41) fun u => K42 u H41) H41 fun v26x43 H44 =>
  gop v23x38 true (fun K45 => K45 v8x7 H44) H44 fun v27x46 H47 =>
  gop v23x38 true (fun K48 => K48 v8x7 H47) H47 fun v28x49 H50 =>
  gop v23x38 true (fun K51 => ob (vFa 0 v1x1) fun u => K51 u H50) H50 fun v29x52 H53 =>
  gop v23x38 true (fun K54 => ob (vLoad v29x52 H53) fun u => K54 u H53) H53 fun v30x55 H56 =>
  gop v23x38 true (fun K57 => ob (vInt .shl (.int .i64 1) v30x55) fun u => K57 u H56) H56 fun v31x58 H59 =>
  gop v23x38 true (fun K60 => ob (vInt .sub v31x58 (.int .i64 1)) fun u => K60 u H59) H59 fun v32x61 H62 =>
  gop v23x38 true (fun K63 => HT prg I.impl_areMany [v26x43, v27x46, v28x49, (.int .i64 0), v32x61].toArray H62 fun v33x64 H65 =>
  Le H62 H65 ∧ K63 v33x64 H65) H62 fun v33x66 H67 =>
  ob (vPick v23x38 v33x66 (.bool false)) fun v34x68 =>
  gop v34x68 true (fun K69 => ob (vFa 4 v1x1) fun u => K69 u H67) H67 fun v36x70 H71 =>
  gop v34x68 true (fun K72 => ob (vLoad v36x70 H71) fun u => K72 u H71) H71 fun v37x73 H74 =>
  gop v34x68 true (fun K75 => ob (vLenSl v37x73) fun u => K75 u H74) H74 fun v38x76 H77 =>
  gop v34x68 true (fun K78 => K78 v8x7 H77) H77 fun v39x79 H80 =>
  gop v34x68 true (fun K81 => ob (vInt .eql v38x76 v39x79) fun u => K81 u H80) H80 fun v40x82 H83 =>
  ob (vPick v34x68 v40x82 (.bool false)) fun v41x84 =>
  K v41x84 H83
def O.impl_ValidGas : Nat → Bool × List Nat := fun i => bif Nat.beq i 2 then (false, [0, 1, 2, 3, 4, 5, 6, 7, 8, 9, 10, 11, 12, 13, 14, 15, 16, 17, 18, 19, 20, 21, 22, 23, 24, 25, 26, 27, 28, 29, 30, 31, 32, 33]) else (false, [])
theorem R.impl_ValidGas {a0 : Value} {H : Hp} {K : Value → Hp → Prop} (h : F.impl_ValidGas a0 H K) : HT prg I.impl_ValidGas [a0].toArray H K :=
  HT_of_fev O.impl_ValidGas mixed Try.func34 (by kernel_rfl) (Eq.mpr (by kernel_rfl : fev prg O.impl_ValidGas Try.f34 [a0] H K = F.impl_ValidGas a0 H K) h)

/-! loop.example/g01381/laws.eqBoolS: function 73 -/
def F.laws_eqBoolS (a0 a1 : Value) (H : Hp) (K : Value → Hp → Prop) : Prop :=
  ob (vLenSl a0) fun v7x1 =>
  ob (vLenSl a1) fun v9x2 =>
  ob (vInt .neq v7x1 v9x2) fun v10x3 =>
  cnd v10x3
    (K (.bool false) H)
    (jn (fun σ4 H4 =>
    K (.bool true) H4) fun J4 =>
  lpE (fun Q5 σ5 H5 =>
    ob (vLenSl (σ5 0)) fun v13x6 =>
    ob (vInt .lss (σ5 5) v13x6) fun v14x7 =>
    cnd v14x7
      (ob (vIx 1 (σ5 0) (σ5 5)) fun v19x8 =>
    ob (vLoad v19x8 H5) fun v20x9 =>
    ob (vIx 1 (σ5 1) (σ5 5)) fun v23x10 =>
    ob (vLoad v23x10 H5) fun v24x11 =>
    ob (vBool .neq v20x9 v24x11) fun v25x12 =>
    cnd v25x12
      (Q5 .ret (up (up (up (up (up (up (up (up (up (up (up (up (up (up σ5 11 (σ5 5)) 12 (σ5 0)) 13 v13x6) 14 v14x7) 17 (σ5 0)) 18 (σ5 5)) 19 v19x8) 20 v20x9) 21 (σ5 1)) 22 (σ5 5)) 23 v23x10) 24 v24x11) 25 v25x12) 4 (.bool false)) H5)
      (ob (vInt .add (σ5 5) (.int .i64 1)) fun v16x13 =>
    Q5 .normal (up (up (up (up (up (up (up (up (up (up (up (up (up (up (up (up σ5 11 (σ5 5)) 12 (σ5 0)) 13 v13x6) 14 v14x7) 17 (σ5 0)) 18 (σ5 5)) 19 v19x8) 20 v20x9) 21 (σ5 1)) 22 (σ5 5)) 23 v23x10) 24 v24x11) 25 v25x12) 15 (σ5 5)) 16 v16x13) 5 v16x13) H5))
      (Q5 (.exit 0) (up (up (up (up σ5 11 (σ5 5)) 12 (σ5 0)) 13 v13x6) 14 v14x7) H5)) (blkQ 0 (thenQ J4 (retQ prg [(.tmp 4)] K))) (up (up (up (up (up (up (up (S0 [a0, a1]) 4 (.bool false)) 6 a0) 7 v7x1) 8 a1) 9 v9x2) 10 v10x3) 5 (.int .i64 0)) H)
def O.laws_eqBoolS : Nat → Bool × List Nat := fun i => bif Nat.beq i 6 then (false, [0, 1, 2, 3, 4, 5, 6, 7, 8]) else (false, [])
theorem R.laws_eqBoolS {a0 a1 : Value} {H : Hp} {K : Value → Hp → Prop} (h : F.laws_eqBoolS a0 a1 H K) : HT prg I.laws_eqBoolS [a0, a1].toArray H K :=
  HT_of_fev O.laws_eqBoolS mixed Try.func73 (by kernel_rfl) (Eq.mpr (by kernel_rfl : fev prg O.laws_eqBoolS Try.f73 [a0, a1] H K = F.laws_eqBoolS a0 a1 H K) h)

/-! loop.example/g01381/laws.eqGas: function 35 -/
def F.laws_eqGas (a0 a1 : Value) (H : Hp) (K : Value → Hp → Prop) : Prop :=
  nw (a0 : Value).cells 47 H fun v2x1 H2 =>
  nw (a1 : Value).cells 47 H2 fun v3x3 H4 =>
  ob (vFa 0 v2x1) fun v5x5 =>
  ob (vLoad v5x5 H4) fun v6x6 =>
  ob (vFa 0 v3x3) fun v7x7 =>
  ob (vLoad v7x7 H4) fun v8x8 =>
  ob (vInt .neq v6x6 v8x8) fun v9x9 =>
  cnd v9x9
    (K (.bool false) H4)
    (ob (vFa 1 v2x1) fun v10x10 =>
  ob (vLoad v10x10 H4) fun v11x11 =>
  ob (vFa 1 v3x3) fun v12x12 =>
  ob (vLoad v12x12 H4) fun v13x13 =>
  ob (vInt .neq v11x11 v13x13) fun v14x14 =>
  cnd v14x14
    (K (.bool false) H4)
    (ob (vFa 2 v2x1) fun v15x15 =>
  ob (vLoad v15x15 H4) fun v16x16 =>
  ob (vFa 2 v3x3) fun v17x17 =>
  ob (vLoad v17x17 H4) fun v18x18 =>
  ob (vInt .neq v16x16 v18x18) fun v19x19 =>
  cnd v19x19
    (K (.bool false) H4)
    (ob (vFa 3 v2x1) fun v20x20 =>
  ob (vLoad v20x20 H4) fun v21x21 =>
  ob (vFa 3 v3x3) fun v22x22 =>
  ob (vLoad v22x22 H4) fun v23x23 =>
  HT prg I.laws_eqInt64S [v21x21, v23x23].toArray H4 fun v24x24 H25 =>
  ob (vUn .not v24x24) fun v25x26 =>
  cnd v25x26
    (K (.bool false) H25)
    (ob (vFa 4 v2x1) fun v26x27 =>
  ob (vLoad v26x27 H25) fun v27x28 =>
  ob (vFa 4 v3x3) fun v28x29 =>
  ob (vLoad v28x29 H25) fun v29x30 =>
  HT prg I.laws_eqBoolS [v27x28, v29x30].toArray H25 fun v30x31 H32 =>
  ob (vUn .not v30x31) fun v31x33 =>
  cnd v31x33
    (K (.bool false) H32)
    (K (.bool true) H32)))))
def O.laws_eqGas : Nat → Bool × List Nat := fun i => (false, [])
theorem R.laws_eqGas {a0 a1 : Value} {H : Hp} {K : Value → Hp → Prop} (h : F.laws_eqGas a0 a1 H K) : HT prg I.laws_eqGas [a0, a1].toArray H K :=
  HT_of_fev O.laws_eqGas mixed Try.func35 (by kernel_rfl) (Eq.mpr (by kernel_rfl : fev prg O.laws_eqGas Try.f35 [a0, a1] H K = F.laws_eqGas a0 a1 H K) h)

/-! loop.example/g01381/laws.FnExactValidGas: function 8 -/
def F.laws_FnExactValidGas (a0 : Value) (H : Hp) (K : Value → Hp → Prop) : Prop :=
  nw (a0 : Value).cells 44 H fun v1x1 H2 =>
  ob (vLoadN 5 v1x1 H2) fun v7x3 =>
  HT prg I.laws_szGas [v7x3, (.int .i64 1048576)].toArray H2 fun v9x4 H5 =>
  ob (vInt .lss v9x4 (.int .i64 0)) fun v11x6 =>
  cnd v11x6
    (K (.bool true) H5)
    (ob (vLoadN 5 v1x1 H5) fun v12x7 =>
  HT prg I.laws_toGas [v12x7].toArray H5 fun v13x8 H9 =>
  HT prg I.spec_ValidGas [v13x8].toArray H9 fun v14x10 H11 =>
  ob (vLoadN 5 v1x1 H11) fun v15x12 =>
  HT prg I.laws_toGas [v15x12].toArray H11 fun v16x13 H14 =>
  nw #[(.int .i64 0), (.int .i64 0), (.int .i64 0), (.slice none 0 0), (.slice none 0 0)] 47 H14 fun v5x15 H16 =>
  st 5 v5x15 v16x13 H16 fun H17 =>
  ob (vLoadN 5 v5x15 H17) fun v17x18 =>
  HT prg I.impl_ValidGas [v17x18].toArray H17 fun v18x19 H20 =>
  ob (vBool .neq v18x19 v14x10) fun v21x21 =>
  cnd v21x21
    (K (.bool false) H20)
    (ob (vLoadN 5 v5x15 H20) fun v22x22 =>
  ob (vLoadN 5 v1x1 H20) fun v23x23 =>
  HT prg I.laws_toGas [v23x23].toArray H20 fun v24x24 H25 =>
  Le H20 H25 ∧ (HT prg I.laws_eqGas [v22x22, v24x24].toArray H25 fun v25x26 H27 =>
  Le H25 H27 ∧ (ob (vUn .not v25x26) fun v26x28 =>
  cnd v26x28
    (K (.bool false) H27)
    (K (.bool true) H27)))))
def O.laws_FnExactValidGas : Nat → Bool × List Nat := fun i => bif Nat.beq i 10 then (false, [0, 1, 2, 3, 4]) else (false, [])
theorem R.laws_FnExactValidGas {a0 : Value} {H : Hp} {K : Value → Hp → Prop} (h : F.laws_FnExactValidGas a0 H K) : HT prg I.laws_FnExactValidGas [a0].toArray H K :=
  HT_of_fev O.laws_FnExactValidGas mixed Try.func8 (by kernel_rfl) (Eq.mpr (by kernel_rfl : fev prg O.laws_FnExactValidGas Try.f8 [a0] H K = F.laws_FnExactValidGas a0 H K) h)

/-! loop.example/g01381/spec.l02Equal: function 74 -/
def F.spec_l02Equal (a0 a1 : Value) (H : Hp) (K : Value → Hp → Prop) : Prop :=
  ob (vLenSl a0) fun v7x1 =>
  ob (vLenSl a1) fun v9x2 =>
  ob (vInt .neq v7x1 v9x2) fun v10x3 =>
  cnd v10x3
    (K (.bool false) H)
    (jn (fun σ4 H4 =>
    K (.bool true) H4) fun J4 =>
  lpE (fun Q5 σ5 H5 =>
    ob (vLenSl (σ5 0)) fun v13x6 =>
    ob (vInt .lss (σ5 5) v13x6) fun v14x7 =>
    cnd v14x7
      (ob (vIx 1 (σ5 0) (σ5 5)) fun v19x8 =>
    ob (vLoad v19x8 H5) fun v20x9 =>
    ob (vIx 1 (σ5 1) (σ5 5)) fun v23x10 =>
    ob (vLoad v23x10 H5) fun v24x11 =>
    ob (vInt .neq v20x9 v24x11) fun v25x12 =>
    cnd v25x12
      (Q5 .ret (up (up (up (up (up (up (up (up (up (up (up (up (up (up σ5 11 (σ5 5)) 12 (σ5 0)) 13 v13x6) 14 v14x7) 17 (σ5 0)) 18 (σ5 5)) 19 v19x8) 20 v20x9) 21 (σ5 1)) 22 (σ5 5)) 23 v23x10) 24 v24x11) 25 v25x12) 4 (.bool false)) H5)
      (ob (vInt .add (σ5 5) (.int .i64 1)) fun v16x13 =>
    Q5 .normal (up (up (up (up (up (up (up (up (up (up (up (up (up (up (up (up σ5 11 (σ5 5)) 12 (σ5 0)) 13 v13x6) 14 v14x7) 17 (σ5 0)) 18 (σ5 5)) 19 v19x8) 20 v20x9) 21 (σ5 1)) 22 (σ5 5)) 23 v23x10) 24 v24x11) 25 v25x12) 15 (σ5 5)) 16 v16x13) 5 v16x13) H5))
      (Q5 (.exit 0) (up (up (up (up σ5 11 (σ5 5)) 12 (σ5 0)) 13 v13x6) 14 v14x7) H5)) (blkQ 0 (thenQ J4 (retQ prg [(.tmp 4)] K))) (up (up (up (up (up (up (up (S0 [a0, a1]) 4 (.bool false)) 6 a0) 7 v7x1) 8 a1) 9 v9x2) 10 v10x3) 5 (.int .i64 0)) H)
def O.spec_l02Equal : Nat → Bool × List Nat := fun i => bif Nat.beq i 6 then (false, [0, 1, 2, 3, 4, 5, 6, 7, 8]) else (false, [])
theorem R.spec_l02Equal {a0 a1 : Value} {H : Hp} {K : Value → Hp → Prop} (h : F.spec_l02Equal a0 a1 H K) : HT prg I.spec_l02Equal [a0, a1].toArray H K :=
  HT_of_fev O.spec_l02Equal mixed Try.func74 (by kernel_rfl) (Eq.mpr (by kernel_rfl : fev prg O.spec_l02Equal Try.f74 [a0, a1] H K = F.spec_l02Equal a0 a1 H K) h)

/-! loop.example/g01381/spec.l06Walls: function 75 -/
def F.spec_l06Walls (a0 a1 : Value) (H : Hp) (K : Value → Hp → Prop) : Prop :=
  ob (vLenSl a0) fun v7x1 =>
  ob (vLenSl a1) fun v9x2 =>
  ob (vInt .neq v7x1 v9x2) fun v10x3 =>
  cnd v10x3
    (K (.bool false) H)
    (jn (fun σ4 H4 =>
    K (.bool true) H4) fun J4 =>
  lpE (fun Q5 σ5 H5 =>
    ob (vLenSl (σ5 0)) fun v13x6 =>
    ob (vInt .lss (σ5 5) v13x6) fun v14x7 =>
    cnd v14x7
      (ob (vIx 1 (σ5 0) (σ5 5)) fun v19x8 =>
    ob (vLoad v19x8 H5) fun v20x9 =>
    ob (vIx 1 (σ5 1) (σ5 5)) fun v23x10 =>
    ob (vLoad v23x10 H5) fun v24x11 =>
    ob (vBool .neq v20x9 v24x11) fun v25x12 =>
    cnd v25x12
      (Q5 .ret (up (up (up (up (up (up (up (up (up (up (up (up (up (up σ5 11 (σ5 5)) 12 (σ5 0)) 13 v13x6) 14 v14x7) 17 (σ5 0)) 18 (σ5 5)) 19 v19x8) 20 v20x9) 21 (σ5 1)) 22 (σ5 5)) 23 v23x10) 24 v24x11) 25 v25x12) 4 (.bool false)) H5)
      (ob (vInt .add (σ5 5) (.int .i64 1)) fun v16x13 =>
    Q5 .normal (up (up (up (up (up (up (up (up (up (up (up (up (up (up (up (up σ5 11 (σ5 5)) 12 (σ5 0)) 13 v13x6) 14 v14x7) 17 (σ5 0)) 18 (σ5 5)) 19 v19x8) 20 v20x9) 21 (σ5 1)) 22 (σ5 5)) 23 v23x10) 24 v24x11) 25 v25x12) 15 (σ5 5)) 16 v16x13) 5 v16x13) H5))
      (Q5 (.exit 0) (up (up (up (up σ5 11 (σ5 5)) 12 (σ5 0)) 13 v13x6) 14 v14x7) H5)) (blkQ 0 (thenQ J4 (retQ prg [(.tmp 4)] K))) (up (up (up (up (up (up (up (S0 [a0, a1]) 4 (.bool false)) 6 a0) 7 v7x1) 8 a1) 9 v9x2) 10 v10x3) 5 (.int .i64 0)) H)
def O.spec_l06Walls : Nat → Bool × List Nat := fun i => bif Nat.beq i 6 then (false, [0, 1, 2, 3, 4, 5, 6, 7, 8]) else (false, [])
theorem R.spec_l06Walls {a0 a1 : Value} {H : Hp} {K : Value → Hp → Prop} (h : F.spec_l06Walls a0 a1 H K) : HT prg I.spec_l06Walls [a0, a1].toArray H K :=
  HT_of_fev O.spec_l06Walls mixed Try.func75 (by kernel_rfl) (Eq.mpr (by kernel_rfl : fev prg O.spec_l06Walls Try.f75 [a0, a1] H K = F.spec_l06Walls a0 a1 H K) h)

/-! loop.example/g01381/spec.SameGas: function 36 -/
def F.spec_SameGas (a0 a1 : Value) (H : Hp) (K : Value → Hp → Prop) : Prop :=
  nw (a0 : Value).cells 47 H fun v2x1 H2 =>
  nw (a1 : Value).cells 47 H2 fun v3x3 H4 =>
  ob (vFa 0 v2x1) fun v5x5 =>
  ob (vLoad v5x5 H4) fun v6x6 =>
  ob (vFa 0 v3x3) fun v7x7 =>
  ob (vLoad v7x7 H4) fun v8x8 =>
  ob (vInt .eql v6x6 v8x8) fun v9x9 =>
  gop v9x9 true (fun K10 => ob (vFa 1 v2x1) fun u => K10 u H4) H4 fun v11x11 H12 =>
  gop v9x9 true (fun K13 => ob (vLoad v11x11 H12) fun u => K13 u H12) H12 fun v12x14 H15 =>
  gop v9x9 true (fun K16 => ob (vFa 1 v3x3) fun u => K16 u H15) H15 fun v13x17 H18 =>
  gop v9x9 true (fun K19 => ob (vLoad v13x17 H18) fun u => K19 u H18) H18 fun v14x20 H21 =>
  gop v9x9 true (fun K22 => ob (vInt .eql v12x14 v14x20) fun u => K22 u H21) H21 fun v15x23 H24 =>
  ob (vPick v9x9 v15x23 (.bool false)) fun v16x25 =>
  gop v16x25 true (fun K26 => ob (vFa 2 v2x1) fun u => K26 u H24) H24 fun v18x27 H28 =>
  gop v16x25 true (fun K29 => ob (vLoad v18x27 H28) fun u => K29 u H28) H28 fun v19x30 H31 =>
  gop v16x25 true (fun K32 => ob (vFa 2 v3x3) fun u => K32 u H31) H31 fun v20x33 H34 =>
  gop v16x25 true (fun K35 => ob (vLoad v20x33 H34) fun u => K35 u H34) H34 fun v21x36 H37 =>
  gop v16x25 true (fun K38 => ob (vInt .eql v19x30 v21x36) fun u => K38 u H37) H37 fun v22x39 H40 =>
  ob (vPick v16x25 v22x39 (.bool false)) fun v23x41 =>
  gop v23x41 true (fun K42 => ob (vFa 3 v2x1) fun u => K42 u H40) H40 fun v25x43 H44 =>
  gop v23x41 true (fun K45 => ob (vLoad v25x43 H44) fun u => K45 u H44) H44 fun v26x46 H47 =>
  gop v23x41 true (fun K48 => ob (vFa 3 v3x3) fun u => K48 u H47) H47 fun v27x49 H50 =>
  gop v23x41 true (fun K51 => ob (vLoad v27x49 H50) fun u => K51 u H50) H50 fun v28x52 H53 =>
  gop v23x41 true (fun K54 => HT prg I.spec_l02Equal [v26x46, v28x52].toArray H53 K54) H53 fun v29x55 H56 =>
  ob (vPick v23x41 v29x55 (.bool false)) fun v30x57 =>
  gop v30x57 true (fun K58 => ob (vFa 4 v2x1) fun u => K58 u H56) H56 fun v32x59 H60 =>
  gop v30x57 true (fun K61 => ob (vLoad v32x59 H60) fun u => K61 u H60) H60 fun v33x62 H63 =>
  gop v30x57 true (fun K64 => ob (vFa 4 v3x3) fun u => K64 u H63) H63 fun v34x65 H66 =>
  gop v30x57 true (fun K67 => ob (vLoad v34x65 H66) fun u => K67 u H66) H66 fun v35x68 H69 =>
  gop v30x57 true (fun K70 => HT prg I.spec_l06Walls [v33x62, v35x68].toArray H69 K70) H69 fun v36x71 H72 =>
  ob (vPick v30x57 v36x71 (.bool false)) fun v37x73 =>
  K v37x73 H72
def O.spec_SameGas : Nat → Bool × List Nat := fun i => (false, [])
theorem R.spec_SameGas {a0 a1 : Value} {H : Hp} {K : Value → Hp → Prop} (h : F.spec_SameGas a0 a1 H K) : HT prg I.spec_SameGas [a0, a1].toArray H K :=
  HT_of_fev O.spec_SameGas mixed Try.func36 (by kernel_rfl) (Eq.mpr (by kernel_rfl : fev prg O.spec_SameGas Try.f36 [a0, a1] H K = F.spec_SameGas a0 a1 H K) h)

/-! slices.Equal[[]int64,int64]: function 76 -/
def F.slices_Equal_int64Zint64 (a0 a1 : Value) (H : Hp) (K : Value → Hp → Prop) : Prop :=
  ob (vLenSl a0) fun v7x1 =>
  ob (vLenSl a1) fun v9x2 =>
  ob (vInt .neq v7x1 v9x2) fun v10x3 =>
  cnd v10x3
    (K (.bool false) H)
    (jn (fun σ4 H4 =>
    K (.bool true) H4) fun J4 =>
  ob (vLenSl a0) fun v12x5 =>
  lpE (fun Q6 σ6 H6 =>
    ob (vInt .lss (σ6 13) (σ6 12)) fun v14x7 =>
    cnd v14x7
      (ob (vIx 1 (σ6 0) (σ6 13)) fun v18x8 =>
    ob (vLoad v18x8 H6) fun v19x9 =>
    ob (vIx 1 (σ6 1) (σ6 13)) fun v22x10 =>
    ob (vLoad v22x10 H6) fun v23x11 =>
    ob (vInt .neq v19x9 v23x11) fun v24x12 =>
    cnd v24x12
      (Q6 .ret (up (up (up (up (up (up (up (up (up (up (up (up (up σ6 14 v14x7) 15 (σ6 13)) 5 (σ6 13)) 16 (σ6 0)) 17 (σ6 13)) 18 v18x8) 19 v19x9) 20 (σ6 1)) 21 (σ6 13)) 22 v22x10) 23 v23x11) 24 v24x12) 4 (.bool false)) H6)
      (ob (vInt .add (σ6 13) (.int .i64 1)) fun v25x13 =>
    Q6 .normal (up (up (up (up (up (up (up (up (up (up (up (up (up (up σ6 14 v14x7) 15 (σ6 13)) 5 (σ6 13)) 16 (σ6 0)) 17 (σ6 13)) 18 v18x8) 19 v19x9) 20 (σ6 1)) 21 (σ6 13)) 22 v22x10) 23 v23x11) 24 v24x12) 25 v25x13) 13 v25x13) H6))
      (Q6 (.exit 0) (up σ6 14 v14x7) H6)) (blkQ 0 (thenQ J4 (retQ prg [(.tmp 4)] K))) (up (up (up (up (up (up (up (up (up (S0 [a0, a1]) 4 (.bool false)) 6 a0) 7 v7x1) 8 a1) 9 v9x2) 10 v10x3) 11 a0) 12 v12x5) 13 (.int .i64 0)) H)
def O.slices_Equal_int64Zint64 : Nat → Bool × List Nat := fun i => bif Nat.beq i 6 then (false, [0, 1, 2, 3, 4, 5, 6, 7, 8]) else (false, [])
theorem R.slices_Equal_int64Zint64 {a0 a1 : Value} {H : Hp} {K : Value → Hp → Prop} (h : F.slices_Equal_int64Zint64 a0 a1 H K) : HT prg I.slices_Equal_int64Zint64 [a0, a1].toArray H K :=
  HT_of_fev O.slices_Equal_int64Zint64 mixed Try.func76 (by kernel_rfl) (Eq.mpr (by kernel_rfl : fev prg O.slices_Equal_int64Zint64 Try.f76 [a0, a1] H K = F.slices_Equal_int64Zint64 a0 a1 H K) h)

/-! slices.Equal[[]bool,bool]: function 77 -/
def F.slices_Equal_bool_bool (a0 a1 : Value) (H : Hp) (K : Value → Hp → Prop) : Prop :=
  ob (vLenSl a0) fun v7x1 =>
  ob (vLenSl a1) fun v9x2 =>
  ob (vInt .neq v7x1 v9x2) fun v10x3 =>
  cnd v10x3
    (K (.bool false) H)
    (jn (fun σ4 H4 =>
    K (.bool true) H4) fun J4 =>
  ob (vLenSl a0) fun v12x5 =>
  lpE (fun Q6 σ6 H6 =>
    ob (vInt .lss (σ6 13) (σ6 12)) fun v14x7 =>
    cnd v14x7
      (ob (vIx 1 (σ6 0) (σ6 13)) fun v18x8 =>
    ob (vLoad v18x8 H6) fun v19x9 =>
    ob (vIx 1 (σ6 1) (σ6 13)) fun v22x10 =>
    ob (vLoad v22x10 H6) fun v23x11 =>
    ob (vBool .neq v19x9 v23x11) fun v24x12 =>
    cnd v24x12
      (Q6 .ret (up (up (up (up (up (up (up (up (up (up (up (up (up σ6 14 v14x7) 15 (σ6 13)) 5 (σ6 13)) 16 (σ6 0)) 17 (σ6 13)) 18 v18x8) 19 v19x9) 20 (σ6 1)) 21 (σ6 13)) 22 v22x10) 23 v23x11) 24 v24x12) 4 (.bool false)) H6)
      (ob (vInt .add (σ6 13) (.int .i64 1)) fun v25x13 =>
    Q6 .normal (up (up (up (up (up (up (up (up (up (up (up (up (up (up σ6 14 v14x7) 15 (σ6 13)) 5 (σ6 13)) 16 (σ6 0)) 17 (σ6 13)) 18 v18x8) 19 v19x9) 20 (σ6 1)) 21 (σ6 13)) 22 v22x10) 23 v23x11) 24 v24x12) 25 v25x13) 13 v25x13) H6))
      (Q6 (.exit 0) (up σ6 14 v14x7) H6)) (blkQ 0 (thenQ J4 (retQ prg [(.tmp 4)] K))) (up (up (up (up (up (up (up (up (up (S0 [a0, a1]) 4 (.bool false)) 6 a0) 7 v7x1) 8 a1) 9 v9x2) 10 v10x3) 11 a0) 12 v12x5) 13 (.int .i64 0)) H)
def O.slices_Equal_bool_bool : Nat → Bool × List Nat := fun i => bif Nat.beq i 6 then (false, [0, 1, 2, 3, 4, 5, 6, 7, 8]) else (false, [])
theorem R.slices_Equal_bool_bool {a0 a1 : Value} {H : Hp} {K : Value → Hp → Prop} (h : F.slices_Equal_bool_bool a0 a1 H K) : HT prg I.slices_Equal_bool_bool [a0, a1].toArray H K :=
  HT_of_fev O.slices_Equal_bool_bool mixed Try.func77 (by kernel_rfl) (Eq.mpr (by kernel_rfl : fev prg O.slices_Equal_bool_bool Try.f77 [a0, a1] H K = F.slices_Equal_bool_bool a0 a1 H K) h)

/-! loop.example/g01381/impl.SameGas: function 37 -/
def F.impl_SameGas (a0 a1 : Value) (H : Hp) (K : Value → Hp → Prop) : Prop :=
  nw (a0 : Value).cells 47 H fun v2x1 H2 =>
  nw (a1 : Value).cells 47 H2 fun v3x3 H4 =>
  ob (vFa 0 v2x1) fun v5x5 =>
  ob (vLoad v5x5 H4) fun v6x6 =>
  ob (vFa 0 v3x3) fun v7x7 =>
  ob (vLoad v7x7 H4) fun v8x8 =>
  ob (vInt .eql v6x6 v8x8) fun v9x9 =>
  gop v9x9 true (fun K10 => ob (vFa 1 v2x1) fun u => K10 u H4) H4 fun v11x11 H12 =>
  gop v9x9 true (fun K13 => ob (vLoad v11x11 H12) fun u => K13 u H12) H12 fun v12x14 H15 =>
  gop v9x9 true (fun K16 => ob (vFa 1 v3x3) fun u => K16 u H15) H15 fun v13x17 H18 =>
  gop v9x9 true (fun K19 => ob (vLoad v13x17 H18) fun u => K19 u H18) H18 fun v14x20 H21 =>
  gop v9x9 true (fun K22 => ob (vInt .eql v12x14 v14x20) fun u => K22 u H21) H21 fun v15x23 H24 =>
  ob (vPick v9x9 v15x23 (.bool false)) fun v16x25 =>
  gop v16x25 true (fun K26 => ob (vFa 2 v2x1) fun u => K26 u H24) H24 fun v18x27 H28 =>
  gop v16x25 true (fun K29 => ob (vLoad v18x27 H28) fun u => K29 u H28) H28 fun v19x30 H31 =>
  gop v16x25 true (fun K32 => ob (vFa 2 v3x3) fun u => K32 u H31) H31 fun v20x33 H34 =>
  gop v16x25 true (fun K35 => ob (vLoad v20x33 H34) fun u => K35 u H34) H34 fun v21x36 H37 =>
  gop v16x25 true (fun K38 => ob (vInt .eql v19x30 v21x36) fun u => K38 u H37) H37 fun v22x39 H40 =>
  ob (vPick v16x25 v22x39 (.bool false)) fun v23x41 =>
  gop v23x41 true (fun K42 => ob (vFa 3 v2x1) fun u => K42 u H40) H40 fun v25x43 H44 =>
  gop v23x41 true (fun K45 => ob (vLoad v25x43 H44) fun u => K45 u H44) H44 fun v26x46 H47 =>
  gop v23x41 true (fun K48 => ob (vFa 3 v3x3) fun u => K48 u H47) H47 fun v27x49 H50 =>
  gop v23x41 true (fun K51 => ob (vLoad v27x49 H50) fun u => K51 u H50) H50 fun v28x52 H53 =>
  gop v23x41 true (fun K54 => HT prg I.slices_Equal_int64Zint64 [v26x46, v28x52].toArray H53 K54) H53 fun v29x55 H56 =>
  ob (vPick v23x41 v29x55 (.bool false)) fun v30x57 =>
  gop v30x57 true (fun K58 => ob (vFa 4 v2x1) fun u => K58 u H56) H56 fun v32x59 H60 =>
  gop v30x57 true (fun K61 => ob (vLoad v32x59 H60) fun u => K61 u H60) H60 fun v33x62 H63 =>
  gop v30x57 true (fun K64 => ob (vFa 4 v3x3) fun u => K64 u H63) H63 fun v34x65 H66 =>
  gop v30x57 true (fun K67 => ob (vLoad v34x65 H66) fun u => K67 u H66) H66 fun v35x68 H69 =>
  gop v30x57 true (fun K70 => HT prg I.slices_Equal_bool_bool [v33x62, v35x68].toArray H69 K70) H69 fun v36x71 H72 =>
  ob (vPick v30x57 v36x71 (.bool false)) fun v37x73 =>
  K v37x73 H72
def O.impl_SameGas : Nat → Bool × List Nat := fun i => (false, [])
theorem R.impl_SameGas {a0 a1 : Value} {H : Hp} {K : Value → Hp → Prop} (h : F.impl_SameGas a0 a1 H K) : HT prg I.impl_SameGas [a0, a1].toArray H K :=
  HT_of_fev O.impl_SameGas mixed Try.func37 (by kernel_rfl) (Eq.mpr (by kernel_rfl : fev prg O.impl_SameGas Try.f37 [a0, a1] H K = F.impl_SameGas a0 a1 H K) h)

/-! loop.example/g01381/laws.FnExactSameGas: function 9 -/
def F.laws_FnExactSameGas (a0 a1 : Value) (H : Hp) (K : Value → Hp → Prop) : Prop :=
  nw (a0 : Value).cells 44 H fun v2x1 H2 =>
  nw (a1 : Value).cells 44 H2 fun v3x3 H4 =>
  ob (vLoadN 5 v2x1 H4) fun v10x5 =>
  HT prg I.laws_szGas [v10x5, (.int .i64 1048576)].toArray H4 fun v12x6 H7 =>
  ob (vInt .lss v12x6 (.int .i64 0)) fun v14x8 =>
  cnd v14x8
    (K (.bool true) H7)
    (ob (vLoadN 5 v3x3 H7) fun v15x9 =>
  HT prg I.laws_szGas [v15x9, v12x6].toArray H7 fun v17x10 H11 =>
  ob (vInt .lss v17x10 (.int .i64 0)) fun v19x12 =>
  cnd v19x12
    (K (.bool true) H11)
    (ob (vLoadN 5 v2x1 H11) fun v20x13 =>
  ob (vLoadN 5 v3x3 H11) fun v22x14 =>
  HT prg I.laws_toGas [v20x13].toArray H11 fun v21x15 H16 =>
  Le H11 H16 ∧ (HT prg I.laws_toGas [v22x14].toArray H16 fun v23x17 H18 =>
  Le H16 H18 ∧ (HT prg I.spec_SameGas [v21x15, v23x17].toArray H18 fun v24x19 H20 =>
  Le H18 H20 ∧ (ob (vLoadN 5 v2x1 H20) fun v25x21 =>
  HT prg I.laws_toGas [v25x21].toArray H20 fun v26x22 H23 =>
  nw #[(.int .i64 0), (.int .i64 0), (.int .i64 0), (.slice none 0 0), (.slice none 0 0)] 47 H23 fun v7x24 H25 =>
  st 5 v7x24 v26x22 H25 fun H26 =>
  ob (vLoadN 5 v3x3 H26) fun v27x27 =>
  HT prg I.laws_toGas [v27x27].toArray H26 fun v28x28 H29 =>
  nw #[(.int .i64 0), (.int .i64 0), (.int .i64 0), (.slice none 0 0), (.slice none 0 0)] 47 H29 fun v8x30 H31 =>
  st 5 v8x30 v28x28 H31 fun H32 =>
  ob (vLoadN 5 v7x24 H32) fun v29x33 =>
  ob (vLoadN 5 v8x30 H32) fun v30x34 =>
  HT prg I.impl_SameGas [v29x33, v30x34].toArray H32 fun v31x35 H36 =>
  ob (vBool .neq v31x35 v24x19) fun v34x37 =>
  cnd v34x37
    (K (.bool false) H36)
    (ob (vLoadN 5 v7x24 H36) fun v35x38 =>
  ob (vLoadN 5 v2x1 H36) fun v36x39 =>
  HT prg I.laws_toGas [v36x39].toArray H36 fun v37x40 H41 =>
  Le H36 H41 ∧ (HT prg I.laws_eqGas [v35x38, v37x40].toArray H41 fun v38x42 H43 =>
  Le H41 H43 ∧ (ob (vUn .not v38x42) fun v39x44 =>
  cnd v39x44
    (K (.bool false) H43)
    (ob (vLoadN 5 v8x30 H43) fun v40x45 =>
  ob (vLoadN 5 v3x3 H43) fun v41x46 =>
  HT prg I.laws_toGas [v41x46].toArray H43 fun v42x47 H48 =>
  Le H43 H48 ∧ (HT prg I.laws_eqGas [v40x45, v42x47].toArray H48 fun v43x49 H50 =>
  Le H48 H50 ∧ (ob (vUn .not v43x49) fun v44x51 =>
  cnd v44x51
    (K (.bool false) H50)
    (K (.bool true) H50))))))))))))
def O.laws_FnExactSameGas : Nat → Bool × List Nat := fun i => bif Nat.beq i 8 then (false, [0, 2, 1, 3, 4, 5]) else bif Nat.beq i 14 then (false, [0, 1, 2, 3, 4]) else bif Nat.beq i 16 then (false, [0, 1, 2, 3, 4]) else (false, [])
theorem R.laws_FnExactSameGas {a0 a1 : Value} {H : Hp} {K : Value → Hp → Prop} (h : F.laws_FnExactSameGas a0 a1 H K) : HT prg I.laws_FnExactSameGas [a0, a1].toArray H K :=
  HT_of_fev O.laws_FnExactSameGas mixed Try.func9 (by kernel_rfl) (Eq.mpr (by kernel_rfl : fev prg O.laws_FnExactSameGas Try.f9 [a0, a1] H K = F.laws_FnExactSameGas a0 a1 H K) h)

/-! loop.example/g01381/spec.l06Way: function 78 -/
def F.spec_l06Way (a0 a1 : Value) (H : Hp) (K : Value → Hp → Prop) : Prop :=
  ob (vInt .eql a0 (.int .i64 4)) fun v7x1 =>
  cnd v7x1
    (bS 1 4 #[(.int .i64 0)] 2 [(0, (.int .i64 (-1))), (1, (.int .i64 0)), (2, (.int .i64 1)), (3, (.int .i64 0))] H fun v8x2 H3 =>
    ob (vIx 1 v8x2 a1) fun v10x4 =>
    ob (vLoad v10x4 H3) fun v11x5 =>
    bS 1 4 #[(.int .i64 0)] 2 [(0, (.int .i64 0)), (1, (.int .i64 1)), (2, (.int .i64 0)), (3, (.int .i64 (-1)))] H3 fun v12x6 H7 =>
    ob (vIx 1 v12x6 a1) fun v14x8 =>
    ob (vLoad v14x8 H7) fun v15x9 =>
    K (.tuple #[v11x5, v15x9]) H7)
    (bS 1 6 #[(.int .i64 0)] 2 [(0, (.int .i64 0)), (1, (.int .i64 (-1))), (2, (.int .i64 (-1))), (3, (.int .i64 0)), (4, (.int .i64 1)), (5, (.int .i64 1))] H fun v16x10 H11 =>
  ob (vIx 1 v16x10 a1) fun v18x12 =>
  ob (vLoad v18x12 H11) fun v19x13 =>
  bS 1 6 #[(.int .i64 0)] 2 [(0, (.int .i64 1)), (1, (.int .i64 1)), (2, (.int .i64 0)), (3, (.int .i64 (-1))), (4, (.int .i64 (-1))), (5, (.int .i64 0))] H11 fun v20x14 H15 =>
  ob (vIx 1 v20x14 a1) fun v22x16 =>
  ob (vLoad v22x16 H15) fun v23x17 =>
  K (.tuple #[v19x13, v23x17]) H15)
def O.spec_l06Way : Nat → Bool × List Nat := fun i => bif Nat.beq i 2 then (false, [1, 5, 0, 2, 3, 8, 4, 6, 7, 9]) else bif Nat.beq i 3 then (false, [1, 5, 0, 2, 3, 8, 4, 6, 7, 9]) else (false, [])
theorem R.spec_l06Way {a0 a1 : Value} {H : Hp} {K : Value → Hp → Prop} (h : F.spec_l06Way a0 a1 H K) : HT prg I.spec_l06Way [a0, a1].toArray H K :=
  HT_of_fev O.spec_l06Way mixed Try.func78 (by kernel_rfl) (Eq.mpr (by kernel_rfl : fev prg O.spec_l06Way Try.f78 [a0, a1] H K = F.spec_l06Way a0 a1 H K) h)

/-! loop.example/g01381/spec.WayOfGas: function 38 -/
def F.spec_WayOfGas (a0 : Value) (H : Hp) (K : Value → Hp → Prop) : Prop :=
  nw (a0 : Value).cells 47 H fun v1x1 H2 =>
  HT prg I.spec_l06Is [v1x1].toArray H2 fun v11x3 H4 =>
  ob (vUn .not v11x3) fun v12x5 =>
  cnd v12x5
    (K (.tuple #[(.int .i64 0), (.int .i64 0), (.bool false)]) H4)
    (jn (fun σ6 H6 =>
    K (.tuple #[(σ6 5), (σ6 6), (.bool true)]) H6) fun J6 =>
  lpE (fun Q7 σ7 H7 =>
    ob (vFa 3 (σ7 1)) fun v14x8 =>
    ob (vLoad v14x8 H7) fun v15x9 =>
    ob (vLenSl v15x9) fun v16x10 =>
    ob (vInt .lss (σ7 7) v16x10) fun v17x11 =>
    cnd v17x11
      (jn (fun σ12 H12 =>
      ob (vInt .add (σ12 7) (.int .i64 1)) fun v19x13 =>
      Q7 .normal (up (up (up σ12 18 (σ12 7)) 19 v19x13) 7 v19x13) H12) fun J12 =>
    lpE (fun Q14 σ14 H14 =>
      ob (vFa 0 (σ14 1)) fun v21x15 =>
      ob (vLoad v21x15 H14) fun v22x16 =>
      ob (vInt .lss (σ14 8) v22x16) fun v23x17 =>
      cnd v23x17
        (jn (fun σ18 H18 =>
        ob (vInt .add (σ18 8) (.int .i64 1)) fun v25x19 =>
        Q14 .normal (up (up (up σ18 24 (σ18 8)) 25 v25x19) 8 v25x19) H18) fun J18 =>
      ob (vFa 3 (σ14 1)) fun v26x20 =>
      ob (vLoad v26x20 H14) fun v27x21 =>
      ob (vIx 1 v27x21 (σ14 7)) fun v29x22 =>
      ob (vLoad v29x22 H14) fun v30x23 =>
      ob (vCI .u64 (σ14 8)) fun v32x24 =>
      ob (vInt .shr v30x23 v32x24) fun v33x25 =>
      ob (vInt .and v33x25 (.int .i64 1)) fun v34x26 =>
      ob (vInt .eql v34x26 (.int .i64 1)) fun v35x27 =>
      cnd v35x27
        (ob (vFa 0 (σ14 1)) fun v37x28 =>
        ob (vLoad v37x28 H14) fun v38x29 =>
        HT prg I.spec_l06Way [v38x29, (σ14 8)].toArray H14 fun v40x30 H31 =>
        ob (vExt v40x30 0) fun v41x32 =>
        ob (vExt v40x30 1) fun v42x33 =>
        ob (vInt .add (σ14 5) v41x32) fun v45x34 =>
        ob (vInt .add (σ14 6) v42x33) fun v48x35 =>
        J18 (up (up (up (up (up (up (up (up (up (up (up (up (up (up (up (up (up (up (up (up (up (up (up (up (up (up (up (up (up (up (up σ14 20 (σ14 8)) 21 v21x15) 22 v22x16) 23 v23x17) 26 v26x20) 27 v27x21) 28 (σ14 7)) 29 v29x22) 30 v30x23) 31 (σ14 8)) 32 v32x24) 33 v33x25) 34 v34x26) 35 v35x27) 37 v37x28) 38 v38x29) 39 (σ14 8)) 40 v40x30) 36 v40x30) 41 v41x32) 42 v42x33) 9 v41x32) 10 v42x33) 43 (σ14 5)) 44 v41x32) 45 v45x34) 5 v45x34) 46 (σ14 6)) 47 v42x33) 48 v48x35) 6 v48x35) H31)
        (J18 (up (up (up (up (up (up (up (up (up (up (up (up (up (up σ14 20 (σ14 8)) 21 v21x15) 22 v22x16) 23 v23x17) 26 v26x20) 27 v27x21) 28 (σ14 7)) 29 v29x22) 30 v30x23) 31 (σ14 8)) 32 v32x24) 33 v33x25) 34 v34x26) 35 v35x27) H14))
        (Q14 (.exit 2) (up (up (up (up σ14 20 (σ14 8)) 21 v21x15) 22 v22x16) 23 v23x17) H14)) (blkQ 2 (blkQ 1 (thenQ J12 Q7))) (up (up (up (up (up (up σ7 13 (σ7 7)) 14 v14x8) 15 v15x9) 16 v16x10) 17 v17x11) 8 (.int .i64 0)) H7)
      (Q7 (.exit 0) (up (up (up (up (up σ7 13 (σ7 7)) 14 v14x8) 15 v15x9) 16 v16x10) 17 v17x11) H7)) (blkQ 0 (thenQ J6 (retQ prg [(.tmp 2), (.tmp 3), (.tmp 4)] K))) (up (up (up (up (up (up (up (up (up (S0 [a0]) 1 v1x1) 2 (.int .i64 0)) 3 (.int .i64 0)) 4 (.bool false)) 11 v11x3) 12 v12x5) 5 (.int .i64 0)) 6 (.int .i64 0)) 7 (.int .i64 0)) H4)
def O.spec_WayOfGas : Nat → Bool × List Nat := fun i => (false, [])
theorem R.spec_WayOfGas {a0 : Value} {H : Hp} {K : Value → Hp → Prop} (h : F.spec_WayOfGas a0 H K) : HT prg I.spec_WayOfGas [a0].toArray H K :=
  HT_of_fev O.spec_WayOfGas mixed Try.func38 (by kernel_rfl) (Eq.mpr (by kernel_rfl : fev prg O.spec_WayOfGas Try.f38 [a0] H K = F.spec_WayOfGas a0 H K) h)

/-! loop.example/g01381/impl.wayOf: function 93 -/
def F.impl_wayOf (a0 : Value) (H : Hp) (K : Value → Hp → Prop) : Prop :=
  ob (vInt .eql a0 (.int .i64 0)) fun v6x1 =>
  cnd v6x1
    (K (.tuple #[(.int .i64 (-1)), (.int .i64 0)]) H)
    (ob (vInt .eql a0 (.int .i64 1)) fun v8x2 =>
    cnd v8x2
      (K (.tuple #[(.int .i64 0), (.int .i64 1)]) H)
      (ob (vInt .eql a0 (.int .i64 2)) fun v10x3 =>
      cnd v10x3
        (K (.tuple #[(.int .i64 1), (.int .i64 0)]) H)
        (K (.tuple #[(.int .i64 0), (.int .i64 (-1))]) H)))
def O.impl_wayOf : Nat → Bool × List Nat := fun i => (false, [])
theorem R.impl_wayOf {a0 : Value} {H : Hp} {K : Value → Hp → Prop} (h : F.impl_wayOf a0 H K) : HT prg I.impl_wayOf [a0].toArray H K :=
  HT_of_fev O.impl_wayOf mixed Try.func93 (by kernel_rfl) (Eq.mpr (by kernel_rfl : fev prg O.impl_wayOf Try.f93 [a0] H K = F.impl_wayOf a0 H K) h)

/-! (loop.example/g01381/impl.Gas).goes: function 79 -/
def F.impl_Gas_goes (a0 a1 : Value) (H : Hp) (K : Value → Hp → Prop) : Prop :=
  nw (a0 : Value).cells 47 H fun v2x1 H2 =>
  ob (vFa 0 v2x1) fun v7x3 =>
  ob (vLoad v7x3 H2) fun v8x4 =>
  ob (vInt .eql v8x4 (.int .i64 4)) fun v9x5 =>
  cnd v9x5
    (HT prg I.impl_wayOf [a1].toArray H2 fun v11x6 H7 =>
    ob (vExt v11x6 0) fun v12x8 =>
    ob (vExt v11x6 1) fun v13x9 =>
    K (.tuple #[v12x8, v13x9]) H7)
    (hp prg (Instr.build 97 [(0, (.int .i64 0)), (1, (.int .i64 1))].toArray) H2 fun v14x10 H11 =>
  hp prg (Instr.build 97 [(0, (.int .i64 (-1))), (1, (.int .i64 1))].toArray) H11 fun v15x12 H13 =>
  hp prg (Instr.build 97 [(0, (.int .i64 (-1))), (1, (.int .i64 0))].toArray) H13 fun v16x14 H15 =>
  hp prg (Instr.build 97 [(0, (.int .i64 0)), (1, (.int .i64 (-1)))].toArray) H15 fun v17x16 H17 =>
  hp prg (Instr.build 97 [(0, (.int .i64 1)), (1, (.int .i64 (-1)))].toArray) H17 fun v18x18 H19 =>
  hp prg (Instr.build 97 [(0, (.int .i64 1)), (1, (.int .i64 0))].toArray) H19 fun v19x20 H21 =>
  hp prg (Instr.build 98 [(0, v14x10), (1, v15x12), (2, v16x14), (3, v17x16), (4, v18x18), (5, v19x20)].toArray) H21 fun v20x22 H23 =>
  nw #[(.int .i64 0), (.int .i64 0), (.int .i64 0), (.int .i64 0), (.int .i64 0), (.int .i64 0), (.int .i64 0), (.int .i64 0), (.int .i64 0), (.int .i64 0), (.int .i64 0), (.int .i64 0)] 98 H23 fun v6x24 H25 =>
  st 12 v6x24 v20x22 H25 fun H26 =>
  ob (vIxArr 6 2 v6x24 a1) fun v22x27 =>
  ob (vIxArr 2 1 v22x27 (.int .i64 0)) fun v23x28 =>
  ob (vLoad v23x28 H26) fun v24x29 =>
  ob (vIxArr 6 2 v6x24 a1) fun v26x30 =>
  ob (vIxArr 2 1 v26x30 (.int .i64 1)) fun v27x31 =>
  ob (vLoad v27x31 H26) fun v28x32 =>
  K (.tuple #[v24x29, v28x32]) H26)
def O.impl_Gas_goes : Nat → Bool × List Nat := fun i => bif Nat.beq i 4 then (false, [0, 1, 2, 3, 4, 5, 6, 7, 8, 9]) else (false, [])
theorem R.impl_Gas_goes {a0 a1 : Value} {H : Hp} {K : Value → Hp → Prop} (h : F.impl_Gas_goes a0 a1 H K) : HT prg I.impl_Gas_goes [a0, a1].toArray H K :=
  HT_of_fev O.impl_Gas_goes mixed Try.func79 (by kernel_rfl) (Eq.mpr (by kernel_rfl : fev prg O.impl_Gas_goes Try.f79 [a0, a1] H K = F.impl_Gas_goes a0 a1 H K) h)

/-! loop.example/g01381/impl.WayOfGas: function 39 -/
def F.impl_WayOfGas (a0 : Value) (H : Hp) (K : Value → Hp → Prop) : Prop :=
  nw (a0 : Value).cells 47 H fun v1x1 H2 =>
  ob (vLoadN 5 v1x1 H2) fun v12x3 =>
  HT prg I.impl_ValidGas [v12x3].toArray H2 fun v13x4 H5 =>
  ob (vUn .not v13x4) fun v14x6 =>
  cnd v14x6
    (K (.tuple #[(.int .i64 0), (.int .i64 0), (.bool false)]) H5)
    (jn (fun σ7 H7 =>
    K (.tuple #[(σ7 5), (σ7 6), (.bool true)]) H7) fun J7 =>
  ob (vFa 3 v1x1) fun v15x8 =>
  ob (vLoad v15x8 H5) fun v16x9 =>
  ob (vLenSl v16x9) fun v17x10 =>
  lpE (fun Q11 σ11 H11 =>
    ob (vInt .lss (σ11 18) (σ11 17)) fun v19x12 =>
    cnd v19x12
      (jn (fun σ13 H13 =>
      ob (vInt .add (σ13 18) (.int .i64 1)) fun v50x14 =>
      Q11 .normal (up (up σ13 50 v50x14) 18 v50x14) H13) fun J13 =>
    ob (vIx 1 (σ11 16) (σ11 18)) fun v20x15 =>
    ob (vLoad v20x15 H11) fun v21x16 =>
    ob (vFa 0 (σ11 1)) fun v22x17 =>
    ob (vLoad v22x17 H11) fun v23x18 =>
    lpE (fun Q19 σ19 H19 =>
      ob (vInt .lss (σ19 24) (σ19 23)) fun v25x20 =>
      cnd v25x20
        (ob (vLoadN 5 (σ19 1) H19) fun v28x21 =>
      HT prg I.impl_Gas_goes [v28x21, (σ19 24)].toArray H19 fun v30x22 H23 =>
      ob (vExt v30x22 0) fun v31x24 =>
      ob (vExt v30x22 1) fun v32x25 =>
      ob (vInt .shr (σ19 8) (σ19 24)) fun v36x26 =>
      ob (vInt .and v36x26 (.int .i64 1)) fun v37x27 =>
      ob (vInt .mul v37x27 v31x24) fun v39x28 =>
      ob (vInt .add (σ19 5) v39x28) fun v40x29 =>
      ob (vInt .shr (σ19 8) (σ19 24)) fun v44x30 =>
      ob (vInt .and v44x30 (.int .i64 1)) fun v45x31 =>
      ob (vInt .mul v45x31 v32x25) fun v47x32 =>
      ob (vInt .add (σ19 6) v47x32) fun v48x33 =>
      ob (vInt .add (σ19 24) (.int .i64 1)) fun v49x34 =>
      Q19 .normal (up (up (up (up (up (up (up (up (up (up (up (up (up (up (up (up (up (up (up (up (up (up (up (up (up (up (up (up (up (up (up σ19 25 v25x20) 26 (σ19 24)) 9 (σ19 24)) 28 v28x21) 29 (σ19 24)) 30 v30x22) 27 v30x22) 31 v31x24) 32 v32x25) 10 v31x24) 11 v32x25) 33 (σ19 5)) 34 (σ19 8)) 35 (σ19 24)) 36 v36x26) 37 v37x27) 38 v31x24) 39 v39x28) 40 v40x29) 5 v40x29) 41 (σ19 6)) 42 (σ19 8)) 43 (σ19 24)) 44 v44x30) 45 v45x31) 46 v32x25) 47 v47x32) 48 v48x33) 6 v48x33) 49 v49x34) 24 v49x34) H23)
        (Q19 (.exit 2) (up σ19 25 v25x20) H19)) (blkQ 2 (blkQ 1 (thenQ J13 Q11))) (up (up (up (up (up (up (up σ11 19 v19x12) 20 v20x15) 21 v21x16) 8 v21x16) 22 v22x17) 23 v23x18) 24 (.int .i64 0)) H11)
      (Q11 (.exit 0) (up σ11 19 v19x12) H11)) (blkQ 0 (thenQ J7 (retQ prg [(.tmp 2), (.tmp 3), (.tmp 4)] K))) (up (up (up (up (up (up (up (up (up (up (up (up (up (S0 [a0]) 1 v1x1) 2 (.int .i64 0)) 3 (.int .i64 0)) 4 (.bool false)) 12 v12x3) 13 v13x4) 14 v14x6) 5 (.int .i64 0)) 6 (.int .i64 0)) 15 v15x8) 16 v16x9) 17 v17x10) 18 (.int .i64 0)) H5)
def O.impl_WayOfGas : Nat → Bool × List Nat := fun i => (false, [])
theorem R.impl_WayOfGas {a0 : Value} {H : Hp} {K : Value → Hp → Prop} (h : F.impl_WayOfGas a0 H K) : HT prg I.impl_WayOfGas [a0].toArray H K :=
  HT_of_fev O.impl_WayOfGas mixed Try.func39 (by kernel_rfl) (Eq.mpr (by kernel_rfl : fev prg O.impl_WayOfGas Try.f39 [a0] H K = F.impl_WayOfGas a0 H K) h)

/-! loop.example/g01381/laws.FnExactWayOfGas: function 10 -/
def F.laws_FnExactWayOfGas (a0 : Value) (H : Hp) (K : Value → Hp → Prop) : Prop :=
  nw (a0 : Value).cells 44 H fun v1x1 H2 =>
  ob (vLoadN 5 v1x1 H2) fun v11x3 =>
  HT prg I.laws_szGas [v11x3, (.int .i64 1048576)].toArray H2 fun v13x4 H5 =>
  ob (vInt .lss v13x4 (.int .i64 0)) fun v15x6 =>
  cnd v15x6
    (K (.bool true) H5)
    (ob (vLoadN 5 v1x1 H5) fun v17x7 =>
  HT prg I.laws_toGas [v17x7].toArray H5 fun v18x8 H9 =>
  HT prg I.spec_WayOfGas [v18x8].toArray H9 fun v19x10 H11 =>
  ob (vExt v19x10 0) fun v20x12 =>
  ob (vExt v19x10 1) fun v21x13 =>
  ob (vExt v19x10 2) fun v22x14 =>
  ob (vLoadN 5 v1x1 H11) fun v23x15 =>
  HT prg I.laws_toGas [v23x15].toArray H11 fun v24x16 H17 =>
  nw #[(.int .i64 0), (.int .i64 0), (.int .i64 0), (.slice none 0 0), (.slice none 0 0)] 47 H17 fun v7x18 H19 =>
  st 5 v7x18 v24x16 H19 fun H20 =>
  ob (vLoadN 5 v7x18 H20) fun v26x21 =>
  HT prg I.impl_WayOfGas [v26x21].toArray H20 fun v27x22 H23 =>
  ob (vExt v27x22 0) fun v28x24 =>
  ob (vExt v27x22 1) fun v29x25 =>
  ob (vExt v27x22 2) fun v30x26 =>
  ob (vInt .neq v28x24 v20x12) fun v33x27 =>
  gop v33x27 false (fun K28 => K28 v29x25 H23) H23 fun v35x29 H30 =>
  gop v33x27 false (fun K31 => K31 v21x13 H30) H30 fun v36x32 H33 =>
  gop v33x27 false (fun K34 => ob (vInt .neq v35x29 v36x32) fun u => K34 u H33) H33 fun v37x35 H36 =>
  ob (vPick v33x27 (.bool true) v37x35) fun v38x37 =>
  gop v38x37 false (fun K38 => K38 v30x26 H36) H36 fun v40x39 H40 =>
  gop v38x37 false (fun K41 => K41 v22x14 H40) H40 fun v41x42 H43 =>
  gop v38x37 false (fun K44 => ob (vBool .neq v40x39 v41x42) fun u => K44 u H43) H43 fun v42x45 H46 =>
  ob (vPick v38x37 (.bool true) v42x45) fun v43x47 =>
  cnd v43x47
    (K (.bool false) H46)
    (ob (vLoadN 5 v7x18 H46) fun v44x48 =>
  ob (vLoadN 5 v1x1 H46) fun v45x49 =>
  HT prg I.laws_toGas [v45x49].toArray H46 fun v46x50 H51 =>
  Le H46 H51 ∧ (HT prg I.laws_eqGas [v44x48, v46x50].toArray H51 fun v47x52 H53 =>
  Le H51 H53 ∧ (ob (vUn .not v47x52) fun v48x54 =>
  cnd v48x54
    (K (.bool false) H53)
    (K (.bool true) H53)))))
def O.laws_FnExactWayOfGas : Nat → Bool × List Nat := fun i => bif Nat.beq i 10 then (false, [0, 1, 2, 3, 4]) else (false, [])
theorem R.laws_FnExactWayOfGas {a0 : Value} {H : Hp} {K : Value → Hp → Prop} (h : F.laws_FnExactWayOfGas a0 H K) : HT prg I.laws_FnExactWayOfGas [a0].toArray H K :=
  HT_of_fev O.laws_FnExactWayOfGas mixed Try.func10 (by kernel_rfl) (Eq.mpr (by kernel_rfl : fev prg O.laws_FnExactWayOfGas Try.f10 [a0] H K = F.laws_FnExactWayOfGas a0 H K) h)

/-! loop.example/g01381/spec.l06Ones: function 80 -/
def F.spec_l06Ones (a0 : Value) (H : Hp) (K : Value → Hp → Prop) : Prop :=
  jn (fun σ1 H1 =>
    K (σ1 3) H1) fun J1 =>
  lpE (fun Q2 σ2 H2 =>
    ob (vInt .gtr (σ2 0) (.int .i64 0)) fun v5x3 =>
    cnd v5x3
      (ob (vInt .rem (σ2 0) (.int .i64 2)) fun v10x4 =>
    ob (vInt .add (σ2 3) v10x4) fun v11x5 =>
    ob (vInt .quo (σ2 0) (.int .i64 2)) fun v7x6 =>
    Q2 .normal (up (up (up (up (up (up (up (up (up (up σ2 4 (σ2 0)) 5 v5x3) 8 (σ2 3)) 9 (σ2 0)) 10 v10x4) 11 v11x5) 3 v11x5) 6 (σ2 0)) 7 v7x6) 0 v7x6) H2)
      (Q2 (.exit 0) (up (up σ2 4 (σ2 0)) 5 v5x3) H2)) (blkQ 0 (thenQ J1 (retQ prg [(.tmp 2)] K))) (up (up (S0 [a0]) 2 (.int .i64 0)) 3 (.int .i64 0)) H
def O.spec_l06Ones : Nat → Bool × List Nat := fun i => (false, [])
theorem R.spec_l06Ones {a0 : Value} {H : Hp} {K : Value → Hp → Prop} (h : F.spec_l06Ones a0 H K) : HT prg I.spec_l06Ones [a0].toArray H K :=
  HT_of_fev O.spec_l06Ones mixed Try.func80 (by kernel_rfl) (Eq.mpr (by kernel_rfl : fev prg O.spec_l06Ones Try.f80 [a0] H K = F.spec_l06Ones a0 H K) h)

/-! loop.example/g01381/spec.CountGas: function 40 -/
def F.spec_CountGas (a0 : Value) (H : Hp) (K : Value → Hp → Prop) : Prop :=
  nw (a0 : Value).cells 47 H fun v1x1 H2 =>
  HT prg I.spec_l06Is [v1x1].toArray H2 fun v6x3 H4 =>
  ob (vUn .not v6x3) fun v7x5 =>
  cnd v7x5
    (K (.tuple #[(.int .i64 0), (.bool false)]) H4)
    (jn (fun σ6 H6 =>
    K (.tuple #[(σ6 4), (.bool true)]) H6) fun J6 =>
  lpE (fun Q7 σ7 H7 =>
    ob (vFa 3 (σ7 1)) fun v9x8 =>
    ob (vLoad v9x8 H7) fun v10x9 =>
    ob (vLenSl v10x9) fun v11x10 =>
    ob (vInt .lss (σ7 5) v11x10) fun v12x11 =>
    cnd v12x11
      (ob (vFa 3 (σ7 1)) fun v16x12 =>
    ob (vLoad v16x12 H7) fun v17x13 =>
    ob (vIx 1 v17x13 (σ7 5)) fun v19x14 =>
    ob (vLoad v19x14 H7) fun v20x15 =>
    HT prg I.spec_l06Ones [v20x15].toArray H7 fun v21x16 H17 =>
    ob (vInt .add (σ7 4) v21x16) fun v22x18 =>
    ob (vInt .add (σ7 5) (.int .i64 1)) fun v14x19 =>
    Q7 .normal (up (up (up (up (up (up (up (up (up (up (up (up (up (up (up (up (up σ7 8 (σ7 5)) 9 v9x8) 10 v10x9) 11 v11x10) 12 v12x11) 15 (σ7 4)) 16 v16x12) 17 v17x13) 18 (σ7 5)) 19 v19x14) 20 v20x15) 21 v21x16) 22 v22x18) 4 v22x18) 13 (σ7 5)) 14 v14x19) 5 v14x19) H17)
      (Q7 (.exit 0) (up (up (up (up (up σ7 8 (σ7 5)) 9 v9x8) 10 v10x9) 11 v11x10) 12 v12x11) H7)) (blkQ 0 (thenQ J6 (retQ prg [(.tmp 2), (.tmp 3)] K))) (up (up (up (up (up (up (up (S0 [a0]) 1 v1x1) 2 (.int .i64 0)) 3 (.bool false)) 6 v6x3) 7 v7x5) 4 (.int .i64 0)) 5 (.int .i64 0)) H4)
def O.spec_CountGas : Nat → Bool × List Nat := fun i => (false, [])
theorem R.spec_CountGas {a0 : Value} {H : Hp} {K : Value → Hp → Prop} (h : F.spec_CountGas a0 H K) : HT prg I.spec_CountGas [a0].toArray H K :=
  HT_of_fev O.spec_CountGas mixed Try.func40 (by kernel_rfl) (Eq.mpr (by kernel_rfl : fev prg O.spec_CountGas Try.f40 [a0] H K = F.spec_CountGas a0 H K) h)

/-! math/bits.OnesCount64: function 81 -/
def F.math_bits_OnesCount64 (a0 : Value) (H : Hp) (K : Value → Hp → Prop) : Prop :=
  ob (vInt .shr a0 (.int .u64 1)) fun v4x1 =>
  ob (vInt .and v4x1 (.int .u64 6148914691236517205)) fun v5x2 =>
  ob (vInt .and a0 (.int .u64 6148914691236517205)) fun v7x3 =>
  ob (vInt .add v5x2 v7x3) fun v8x4 =>
  ob (vInt .shr v8x4 (.int .u64 2)) fun v10x5 =>
  ob (vInt .and v10x5 (.int .u64 3689348814741910323)) fun v11x6 =>
  ob (vInt .and v8x4 (.int .u64 3689348814741910323)) fun v13x7 =>
  ob (vInt .add v11x6 v13x7) fun v14x8 =>
  ob (vInt .shr v14x8 (.int .u64 4)) fun v16x9 =>
  ob (vInt .add v16x9 v14x8) fun v18x10 =>
  ob (vInt .and v18x10 (.int .u64 1085102592571150095)) fun v19x11 =>
  ob (vInt .shr v19x11 (.int .u64 8)) fun v22x12 =>
  ob (vInt .add v19x11 v22x12) fun v23x13 =>
  ob (vInt .shr v23x13 (.int .u64 16)) fun v26x14 =>
  ob (vInt .add v23x13 v26x14) fun v27x15 =>
  ob (vInt .shr v27x15 (.int .u64 32)) fun v30x16 =>
  ob (vInt .add v27x15 v30x16) fun v31x17 =>
  ob (vCI .i64 v31x17) fun v33x18 =>
  ob (vInt .and v33x18 (.int .i64 127)) fun v34x19 =>
  K v34x19 H
def O.math_bits_OnesCount64 : Nat → Bool × List Nat := fun i => (false, [])
theorem R.math_bits_OnesCount64 {a0 : Value} {H : Hp} {K : Value → Hp → Prop} (h : F.math_bits_OnesCount64 a0 H K) : HT prg I.math_bits_OnesCount64 [a0].toArray H K :=
  HT_of_fev O.math_bits_OnesCount64 mixed Try.func81 (by kernel_rfl) (Eq.mpr (by kernel_rfl : fev prg O.math_bits_OnesCount64 Try.f81 [a0] H K = F.math_bits_OnesCount64 a0 H K) h)

/-! loop.example/g01381/impl.CountGas: function 41 -/
def F.impl_CountGas (a0 : Value) (H : Hp) (K : Value → Hp → Prop) : Prop :=
  nw (a0 : Value).cells 47 H fun v1x1 H2 =>
  ob (vLoadN 5 v1x1 H2) fun v7x3 =>
  HT prg I.impl_ValidGas [v7x3].toArray H2 fun v8x4 H5 =>
  ob (vUn .not v8x4) fun v9x6 =>
  cnd v9x6
    (K (.tuple #[(.int .i64 0), (.bool false)]) H5)
    (jn (fun σ7 H7 =>
    K (.tuple #[(σ7 4), (.bool true)]) H7) fun J7 =>
  ob (vFa 3 v1x1) fun v10x8 =>
  ob (vLoad v10x8 H5) fun v11x9 =>
  ob (vLenSl v11x9) fun v12x10 =>
  lpE (fun Q11 σ11 H11 =>
    ob (vInt .lss (σ11 13) (σ11 12)) fun v14x12 =>
    cnd v14x12
      (ob (vIx 1 (σ11 11) (σ11 13)) fun v15x13 =>
    ob (vLoad v15x13 H11) fun v16x14 =>
    ob (vCI .u64 v16x14) fun v19x15 =>
    HT prg I.math_bits_OnesCount64 [v19x15].toArray H11 fun v20x16 H17 =>
    ob (vInt .add (σ11 4) v20x16) fun v21x18 =>
    ob (vInt .add (σ11 13) (.int .i64 1)) fun v22x19 =>
    Q11 .normal (up (up (up (up (up (up (up (up (up (up (up (up σ11 14 v14x12) 15 v15x13) 16 v16x14) 6 v16x14) 17 (σ11 4)) 18 v16x14) 19 v19x15) 20 v20x16) 21 v21x18) 4 v21x18) 22 v22x19) 13 v22x19) H17)
      (Q11 (.exit 0) (up σ11 14 v14x12) H11)) (blkQ 0 (thenQ J7 (retQ prg [(.tmp 2), (.tmp 3)] K))) (up (up (up (up (up (up (up (up (up (up (up (S0 [a0]) 1 v1x1) 2 (.int .i64 0)) 3 (.bool false)) 7 v7x3) 8 v8x4) 9 v9x6) 4 (.int .i64 0)) 10 v10x8) 11 v11x9) 12 v12x10) 13 (.int .i64 0)) H5)
def O.impl_CountGas : Nat → Bool × List Nat := fun i => (false, [])
theorem R.impl_CountGas {a0 : Value} {H : Hp} {K : Value → Hp → Prop} (h : F.impl_CountGas a0 H K) : HT prg I.impl_CountGas [a0].toArray H K :=
  HT_of_fev O.impl_CountGas mixed Try.func41 (by kernel_rfl) (Eq.mpr (by kernel_rfl : fev prg O.impl_CountGas Try.f41 [a0] H K = F.impl_CountGas a0 H K) h)

/-! loop.example/g01381/laws.FnExactCountGas: function 11 -/
def F.laws_FnExactCountGas (a0 : Value) (H : Hp) (K : Value → Hp → Prop) : Prop :=
  nw (a0 : Value).cells 44 H fun v1x1 H2 =>
  ob (vLoadN 5 v1x1 H2) fun v9x3 =>
  HT prg I.laws_szGas [v9x3, (.int .i64 1048576)].toArray H2 fun v11x4 H5 =>
  ob (vInt .lss v11x4 (.int .i64 0)) fun v13x6 =>
  cnd v13x6
    (K (.bool true) H5)
    (ob (vLoadN 5 v1x1 H5) fun v15x7 =>
  HT prg I.laws_toGas [v15x7].toArray H5 fun v16x8 H9 =>
  HT prg I.spec_CountGas [v16x8].toArray H9 fun v17x10 H11 =>
  ob (vExt v17x10 0) fun v18x12 =>
  ob (vExt v17x10 1) fun v19x13 =>
  ob (vLoadN 5 v1x1 H11) fun v20x14 =>
  HT prg I.laws_toGas [v20x14].toArray H11 fun v21x15 H16 =>
  nw #[(.int .i64 0), (.int .i64 0), (.int .i64 0), (.slice none 0 0), (.slice none 0 0)] 47 H16 fun v6x17 H18 =>
  st 5 v6x17 v21x15 H18 fun H19 =>
  ob (vLoadN 5 v6x17 H19) fun v23x20 =>
  HT prg I.impl_CountGas [v23x20].toArray H19 fun v24x21 H22 =>
  ob (vExt v24x21 0) fun v25x23 =>
  ob (vExt v24x21 1) fun v26x24 =>
  ob (vInt .neq v25x23 v18x12) fun v29x25 =>
  gop v29x25 false (fun K26 => K26 v26x24 H22) H22 fun v31x27 H28 =>
  gop v29x25 false (fun K29 => K29 v19x13 H28) H28 fun v32x30 H31 =>
  gop v29x25 false (fun K32 => ob (vBool .neq v31x27 v32x30) fun u => K32 u H31) H31 fun v33x33 H34 =>
  ob (vPick v29x25 (.bool true) v33x33) fun v34x35 =>
  cnd v34x35
    (K (.bool false) H34)
    (ob (vLoadN 5 v6x17 H34) fun v35x36 =>
  ob (vLoadN 5 v1x1 H34) fun v36x37 =>
  HT prg I.laws_toGas [v36x37].toArray H34 fun v37x38 H39 =>
  Le H34 H39 ∧ (HT prg I.laws_eqGas [v35x36, v37x38].toArray H39 fun v38x40 H41 =>
  Le H39 H41 ∧ (ob (vUn .not v38x40) fun v39x42 =>
  cnd v39x42
    (K (.bool false) H41)
    (K (.bool true) H41)))))
def O.laws_FnExactCountGas : Nat → Bool × List Nat := fun i => bif Nat.beq i 10 then (false, [0, 1, 2, 3, 4]) else (false, [])
theorem R.laws_FnExactCountGas {a0 : Value} {H : Hp} {K : Value → Hp → Prop} (h : F.laws_FnExactCountGas a0 H K) : HT prg I.laws_FnExactCountGas [a0].toArray H K :=
  HT_of_fev O.laws_FnExactCountGas mixed Try.func11 (by kernel_rfl) (Eq.mpr (by kernel_rfl : fev prg O.laws_FnExactCountGas Try.f11 [a0] H K = F.laws_FnExactCountGas a0 H K) h)

/-! loop.example/g01381/spec.DenseBlocks: function 42 -/
def F.spec_DenseBlocks (a0 a1 a2 : Value) (H : Hp) (K : Value → Hp → Prop) : Prop :=
  nw (a0 : Value).cells 47 H fun v3x1 H2 =>
  HT prg I.spec_l06Is [v3x1].toArray H2 fun v12x3 H4 =>
  ob (vUn .not v12x3) fun v13x5 =>
  gop v13x5 false (fun K6 => K6 a1 H4) H4 fun v15x7 H8 =>
  gop v13x5 false (fun K9 => K9 a2 H8) H8 fun v16x10 H11 =>
  gop v13x5 false (fun K12 => HT prg I.spec_l06Sides [v15x7, v16x10].toArray H11 K12) H11 fun v17x13 H14 =>
  gop v13x5 false (fun K15 => ob (vUn .not v17x13) fun u => K15 u H14) H14 fun v18x16 H17 =>
  ob (vPick v13x5 (.bool true) v18x16) fun v19x18 =>
  gop v19x18 false (fun K19 => ob (vFa 1 v3x1) fun u => K19 u H17) H17 fun v21x20 H21 =>
  gop v19x18 false (fun K22 => ob (vLoad v21x20 H21) fun u => K22 u H21) H21 fun v22x23 H24 =>
  gop v19x18 false (fun K25 => K25 a1 H24) H24 fun v23x26 H27 =>
  gop v19x18 false (fun K28 => ob (vInt .rem v22x23 v23x26) fun u => K28 u H27) H27 fun v24x29 H30 =>
  gop v19x18 false (fun K31 => ob (vInt .neq v24x29 (.int .i64 0)) fun u => K31 u H30) H30 fun v25x32 H33 =>
  ob (vPick v19x18 (.bool true) v25x32) fun v26x34 =>
  gop v26x34 false (fun K35 => ob (vFa 2 v3x1) fun u => K35 u H33) H33 fun v28x36 H37 =>
  gop v26x34 false (fun K38 => ob (vLoad v28x36 H37) fun u => K38 u H37) H37 fun v29x39 H40 =>
  gop v26x34 false (fun K41 => K41 a2 H40) H40 fun v30x42 H43 =>
  gop v26x34 false (fun K44 => ob (vInt .rem v29x39 v30x42) fun u => K44 u H43) H43 fun v31x45 H46 =>
  gop v26x34 false (fun K47 => ob (vInt .neq v31x45 (.int .i64 0)) fun u => K47 u H46) H46 fun v32x48 H49 =>
  ob (vPick v26x34 (.bool true) v32x48) fun v33x50 =>
  cnd v33x50
    (K (.tuple #[(.slice none 0 0), (.bool false)]) H49)
    (ob (vFa 2 v3x1) fun v34x51 =>
  ob (vLoad v34x51 H49) fun v35x52 =>
  ob (vInt .quo v35x52 a2) fun v37x53 =>
  ob (vFa 1 v3x1) fun v38x54 =>
  ob (vLoad v38x54 H49) fun v39x55 =>
  ob (vInt .quo v39x55 a1) fun v41x56 =>
  ob (vInt .mul v41x56 v37x53) fun v43x57 =>
  mkS 1 8 #[(.int .i64 0)] 2 v43x57 v43x57 H49 fun v44x58 H59 =>
  jn (fun σ60 H60 =>
    K (.tuple #[(σ60 9), (.bool true)]) H60) fun J60 =>
  lpE (fun Q61 σ61 H61 =>
    ob (vFa 1 (σ61 3)) fun v46x62 =>
    ob (vLoad v46x62 H61) fun v47x63 =>
    ob (vInt .lss (σ61 10) v47x63) fun v48x64 =>
    cnd v48x64
      (jn (fun σ65 H65 =>
      ob (vInt .add (σ65 10) (.int .i64 1)) fun v50x66 =>
      Q61 .normal (up (up (up σ65 49 (σ65 10)) 50 v50x66) 10 v50x66) H65) fun J65 =>
    lpE (fun Q67 σ67 H67 =>
      ob (vFa 2 (σ67 3)) fun v52x68 =>
      ob (vLoad v52x68 H67) fun v53x69 =>
      ob (vInt .lss (σ67 11) v53x69) fun v54x70 =>
      cnd v54x70
        (ob (vInt .quo (σ67 10) (σ67 1)) fun v60x71 =>
      ob (vInt .mul v60x71 (σ67 8)) fun v62x72 =>
      ob (vInt .quo (σ67 11) (σ67 2)) fun v65x73 =>
      ob (vInt .add v62x72 v65x73) fun v66x74 =>
      ob (vIx 1 (σ67 9) v66x74) fun v67x75 =>
      ob (vLoad v67x75 H67) fun v68x76 =>
      ob (vFa 3 (σ67 3)) fun v69x77 =>
      ob (vLoad v69x77 H67) fun v70x78 =>
      ob (vFa 2 (σ67 3)) fun v72x79 =>
      ob (vLoad v72x79 H67) fun v73x80 =>
      ob (vInt .mul (σ67 10) v73x80) fun v74x81 =>
      ob (vInt .add v74x81 (σ67 11)) fun v76x82 =>
      ob (vIx 1 v70x78 v76x82) fun v77x83 =>
      ob (vLoad v77x83 H67) fun v78x84 =>
      HT prg I.spec_l06Ones [v78x84].toArray H67 fun v79x85 H86 =>
      Le H67 H86 ∧ (ob (vInt .add v68x76 v79x85) fun v80x87 =>
      ob (vIx 1 (σ67 9) v66x74) fun v81x88 =>
      st 1 v81x88 v80x87 H86 fun H89 =>
      ob (vInt .add (σ67 11) (.int .i64 1)) fun v56x90 =>
      Q67 .normal (up (up (up (up (up (up (up (up (up (up (up (up (up (up (up (up (up (up (up (up (up (up (up (up (up (up (up (up (up (up (up (up σ67 51 (σ67 11)) 52 v52x68) 53 v53x69) 54 v54x70) 57 (σ67 9)) 58 (σ67 10)) 59 (σ67 1)) 60 v60x71) 61 (σ67 8)) 62 v62x72) 63 (σ67 11)) 64 (σ67 2)) 65 v65x73) 66 v66x74) 67 v67x75) 68 v68x76) 69 v69x77) 70 v70x78) 71 (σ67 10)) 72 v72x79) 73 v73x80) 74 v74x81) 75 (σ67 11)) 76 v76x82) 77 v77x83) 78 v78x84) 79 v79x85) 80 v80x87) 81 v81x88) 55 (σ67 11)) 56 v56x90) 11 v56x90) H89))
        (Q67 (.exit 2) (up (up (up (up σ67 51 (σ67 11)) 52 v52x68) 53 v53x69) 54 v54x70) H67)) (blkQ 2 (blkQ 1 (thenQ J65 Q61))) (up (up (up (up (up σ61 45 (σ61 10)) 46 v46x62) 47 v47x63) 48 v48x64) 11 (.int .i64 0)) H61)
      (Q61 (.exit 0) (up (up (up (up σ61 45 (σ61 10)) 46 v46x62) 47 v47x63) 48 v48x64) H61)) (blkQ 0 (thenQ J60 (retQ prg [(.tmp 6), (.tmp 7)] K))) (up (up (up (up (up (up (up (up (up (up (up (up (up (up (up (up (up (up (up (up (up (up (up (up (up (up (up (up (up (up (up (up (up (up (up (up (up (up (up (S0 [a0, a1, a2]) 3 v3x1) 6 (.slice none 0 0)) 7 (.bool false)) 12 v12x3) 13 v13x5) 14 v13x5) 15 v15x7) 16 v16x10) 17 v17x13) 18 v18x16) 19 v19x18) 20 v19x18) 21 v21x20) 22 v22x23) 23 v23x26) 24 v24x29) 25 v25x32) 26 v26x34) 27 v26x34) 28 v28x36) 29 v29x39) 30 v30x42) 31 v31x45) 32 v32x48) 33 v33x50) 34 v34x51) 35 v35x52) 36 a2) 37 v37x53) 8 v37x53) 38 v38x54) 39 v39x55) 40 a1) 41 v41x56) 42 v37x53) 43 v43x57) 44 v44x58) 9 v44x58) 10 (.int .i64 0)) H59)
def O.spec_DenseBlocks : Nat → Bool × List Nat := fun i => bif Nat.beq i 11 then (false, [0, 1, 2, 3, 4, 5, 6, 7, 8, 9, 10, 11, 12, 13, 14, 15, 16, 17, 18, 19, 20, 21, 22, 23, 24, 25]) else (false, [])
theorem R.spec_DenseBlocks {a0 a1 a2 : Value} {H : Hp} {K : Value → Hp → Prop} (h : F.spec_DenseBlocks a0 a1 a2 H K) : HT prg I.spec_DenseBlocks [a0, a1, a2].toArray H K :=
  HT_of_fev O.spec_DenseBlocks mixed Try.func42 (by kernel_rfl) (Eq.mpr (by kernel_rfl : fev prg O.spec_DenseBlocks Try.f42 [a0, a1, a2] H K = F.spec_DenseBlocks a0 a1 a2 H K) h)

/-! loop.example/g01381/impl.DenseBlocks: function 43 -/
def F.impl_DenseBlocks (a0 a1 a2 : Value) (H : Hp) (K : Value → Hp → Prop) : Prop :=
  nw (a0 : Value).cells 47 H fun v3x1 H2 =>
  ob (vLoadN 5 v3x1 H2) fun v14x3 =>
  HT prg I.impl_ValidGas [v14x3].toArray H2 fun v15x4 H5 =>
  ob (vUn .not v15x4) fun v16x6 =>
  gop v16x6 false (fun K7 => K7 a1 H5) H5 fun v18x8 H9 =>
  gop v16x6 false (fun K10 => ob (vFa 1 v3x1) fun u => K10 u H9) H9 fun v19x11 H12 =>
  gop v16x6 false (fun K13 => ob (vLoad v19x11 H12) fun u => K13 u H12) H12 fun v20x14 H15 =>
  gop v16x6 false (fun K16 => HT prg I.impl_within [v18x8, (.int .i64 1), v20x14].toArray H15 K16) H15 fun v21x17 H18 =>
  gop v16x6 false (fun K19 => ob (vUn .not v21x17) fun u => K19 u H18) H18 fun v22x20 H21 =>
  ob (vPick v16x6 (.bool true) v22x20) fun v23x22 =>
  gop v23x22 false (fun K23 => K23 a2 H21) H21 fun v25x24 H25 =>
  gop v23x22 false (fun K26 => ob (vFa 2 v3x1) fun u => K26 u H25) H25 fun v26x27 H28 =>
  gop v23x22 false (fun K29 => ob (vLoad v26x27 H28) fun u => K29 u H28) H28 fun v27x30 H31 =>
  gop v23x22 false (fun K32 => HT prg I.impl_within [v25x24, (.int .i64 1), v27x30].toArray H31 K32) H31 fun v28x33 H34 =>
  gop v23x22 false (fun K35 => ob (vUn .not v28x33) fun u => K35 u H34) H34 fun v29x36 H37 =>
  ob (vPick v23x22 (.bool true) v29x36) fun v30x38 =>
  gop v30x38 false (fun K39 => ob (vFa 1 v3x1) fun u => K39 u H37) H37 fun v32x40 H41 =>
  gop v30x38 false (fun K42 => ob (vLoad v32x40 H41) fun u => K42 u H41) H41 fun v33x43 H44 =>
  gop v30x38 false (fun K45 => K45 a1 H44) H44 fun v34x46 H47 =>
  gop v30x38 false (fun K48 => ob (vInt .rem v33x43 v34x46) fun u => K48 u H47) H47 fun v35x49 H50 =>
  gop v30x38 false (fun K51 => ob (vInt .neq v35x49 (.int .i64 0)) fun u => K51 u H50) H50 fun v36x52 H53 =>
  ob (vPick v30x38 (.bool true) v36x52) fun v37x54 =>
  gop v37x54 false (fun K55 => ob (vFa 2 v3x1) fun u => K55 u H53) H53 fun v39x56 H57 =>
  gop v37x54 false (fun K58 => ob (vLoad v39x56 H57) fun u => K58 u H57) H57 fun v40x59 H60 =>
  gop v37x54 false (fun K61 => K61 a2 H60) H60 fun v41x62 H63 =>
  gop v37x54 false (fun K64 => ob (vInt .rem v40x59 v41x62) fun u => K64 u H63) H63 fun v42x65 H66 =>
  gop v37x54 false (fun K67 => ob (vInt .neq v42x65 (.int .i64 0)) fun u => K67 u H66) H66 fun v43x68 H69 =>
  ob (vPick v37x54 (.bool true) v43x68) fun v44x70 =>
  cnd v44x70
    (K (.tuple #[(.slice none 0 0), (.bool false)]) H69)
    (ob (vFa 2 v3x1) fun v45x71 =>
  ob (vLoad v45x71 H69) fun v46x72 =>
  ob (vInt .quo v46x72 a2) fun v48x73 =>
  ob (vFa 1 v3x1) fun v49x74 =>
  ob (vLoad v49x74 H69) fun v50x75 =>
  ob (vInt .quo v50x75 a1) fun v52x76 =>
  ob (vInt .mul v52x76 v48x73) fun v54x77 =>
  mkS 1 8 #[(.int .i64 0)] 2 v54x77 v54x77 H69 fun v55x78 H79 =>
  jn (fun σ80 H80 =>
    K (.tuple #[(σ80 9), (.bool true)]) H80) fun J80 =>
  ob (vFa 3 v3x1) fun v56x81 =>
  ob (vLoad v56x81 H79) fun v57x82 =>
  ob (vLenSl v57x82) fun v58x83 =>
  lpE (fun Q84 σ84 H84 =>
    ob (vInt .lss (σ84 59) (σ84 58)) fun v60x85 =>
    cnd v60x85
      (ob (vIx 1 (σ84 57) (σ84 59)) fun v62x86 =>
    ob (vLoad v62x86 H84) fun v63x87 =>
    ob (vFa 2 (σ84 3)) fun v65x88 =>
    ob (vLoad v65x88 H84) fun v66x89 =>
    ob (vInt .quo (σ84 59) v66x89) fun v67x90 =>
    ob (vInt .quo v67x90 (σ84 1)) fun v69x91 =>
    ob (vFa 2 (σ84 3)) fun v71x92 =>
    ob (vLoad v71x92 H84) fun v72x93 =>
    ob (vInt .rem (σ84 59) v72x93) fun v73x94 =>
    ob (vInt .quo v73x94 (σ84 2)) fun v75x95 =>
    ob (vInt .mul v69x91 (σ84 8)) fun v79x96 =>
    ob (vInt .add v79x96 v75x95) fun v81x97 =>
    ob (vIx 1 (σ84 9) v81x97) fun v82x98 =>
    ob (vLoad v82x98 H84) fun v83x99 =>
    ob (vCI .u64 v63x87) fun v85x100 =>
    HT prg I.math_bits_OnesCount64 [v85x100].toArray H84 fun v86x101 H102 =>
    Le H84 H102 ∧ (ob (vInt .add v83x99 v86x101) fun v87x103 =>
    ob (vIx 1 (σ84 9) v81x97) fun v88x104 =>
    st 1 v88x104 v87x103 H102 fun H105 =>
    ob (vInt .add (σ84 59) (.int .i64 1)) fun v89x106 =>
    Q84 .normal (up (up (up (up (up (up (up (up (up (up (up (up (up (up (up (up (up (up (up (up (up (up (up (up (up (up (up (up (up (up (up (up (up (up (up σ84 60 v60x85) 61 (σ84 59)) 62 v62x86) 63 v63x87) 10 (σ84 59)) 11 v63x87) 64 (σ84 59)) 65 v65x88) 66 v66x89) 67 v67x90) 68 (σ84 1)) 69 v69x91) 70 (σ84 59)) 71 v71x92) 72 v72x93) 73 v73x94) 74 (σ84 2)) 75 v75x95) 12 v69x91) 13 v75x95) 76 (σ84 9)) 77 v69x91) 78 (σ84 8)) 79 v79x96) 80 v75x95) 81 v81x97) 82 v82x98) 83 v83x99) 84 v63x87) 85 v85x100) 86 v86x101) 87 v87x103) 88 v88x104) 89 v89x106) 59 v89x106) H105))
      (Q84 (.exit 0) (up σ84 60 v60x85) H84)) (blkQ 0 (thenQ J80 (retQ prg [(.tmp 6), (.tmp 7)] K))) (up (up (up (up (up (up (up (up (up (up (up (up (up (up (up (up (up (up (up (up (up (up (up (up (up (up (up (up (up (up (up (up (up (up (up (up (up (up (up (up (up (up (up (up (up (up (up (up (up (up (up (S0 [a0, a1, a2]) 3 v3x1) 6 (.slice none 0 0)) 7 (.bool false)) 14 v14x3) 15 v15x4) 16 v16x6) 17 v16x6) 18 v18x8) 19 v19x11) 20 v20x14) 21 v21x17) 22 v22x20) 23 v23x22) 24 v23x22) 25 v25x24) 26 v26x27) 27 v27x30) 28 v28x33) 29 v29x36) 30 v30x38) 31 v30x38) 32 v32x40) 33 v33x43) 34 v34x46) 35 v35x49) 36 v36x52) 37 v37x54) 38 v37x54) 39 v39x56) 40 v40x59) 41 v41x62) 42 v42x65) 43 v43x68) 44 v44x70) 45 v45x71) 46 v46x72) 47 a2) 48 v48x73) 8 v48x73) 49 v49x74) 50 v50x75) 51 a1) 52 v52x76) 53 v48x73) 54 v54x77) 55 v55x78) 9 v55x78) 56 v56x81) 57 v57x82) 58 v58x83) 59 (.int .i64 0)) H79)
def O.impl_DenseBlocks : Nat → Bool × List Nat := fun i => bif Nat.beq i 8 then (false, [0, 1, 2, 3, 4, 5, 6, 7, 8, 9, 10, 11, 12, 13]) else bif Nat.beq i 9 then (false, [0, 1, 2, 3, 4, 5, 6, 7, 8, 9, 10, 11, 12, 13]) else (false, [])
theorem R.impl_DenseBlocks {a0 a1 a2 : Value} {H : Hp} {K : Value → Hp → Prop} (h : F.impl_DenseBlocks a0 a1 a2 H K) : HT prg I.impl_DenseBlocks [a0, a1, a2].toArray H K :=
  HT_of_fev O.impl_DenseBlocks mixed Try.func43 (by kernel_rfl) (Eq.mpr (by kernel_rfl : fev prg O.impl_DenseBlocks Try.f43 [a0, a1, a2] H K = F.impl_DenseBlocks a0 a1 a2 H K) h)

/-! loop.example/g01381/laws.markBoolS: function 83 -/
def F.laws_markBoolS (a0 a1 : Value) (H : Hp) (K : Value → Hp → Prop) : Prop :=
  jn (fun σ1 H1 =>
    K (σ1 1) H1) fun J1 =>
  lpE (fun Q2 σ2 H2 =>
    ob (vLenSl (σ2 0)) fun v8x3 =>
    ob (vInt .lss (σ2 5) v8x3) fun v9x4 =>
    cnd v9x4
      (ob (vInt .rem (σ2 1) (.int .i64 3)) fun v15x5 =>
    ob (vInt .eql v15x5 (.int .i64 0)) fun v16x6 =>
    ob (vIx 1 (σ2 0) (σ2 5)) fun v17x7 =>
    st 1 v17x7 v16x6 H2 fun H8 =>
    ob (vInt .add (σ2 1) (.int .i64 1)) fun v19x9 =>
    ob (vInt .add (σ2 5) (.int .i64 1)) fun v11x10 =>
    Q2 .normal (up (up (up (up (up (up (up (up (up (up (up (up (up (up (up (up σ2 6 (σ2 5)) 7 (σ2 0)) 8 v8x3) 9 v9x4) 12 (σ2 0)) 13 (σ2 5)) 14 (σ2 1)) 15 v15x5) 16 v16x6) 17 v17x7) 18 (σ2 1)) 19 v19x9) 1 v19x9) 10 (σ2 5)) 11 v11x10) 5 v11x10) H8)
      (Q2 (.exit 0) (up (up (up (up σ2 6 (σ2 5)) 7 (σ2 0)) 8 v8x3) 9 v9x4) H2)) (blkQ 0 (thenQ J1 (retQ prg [(.tmp 4)] K))) (up (up (S0 [a0, a1]) 4 (.int .i64 0)) 5 (.int .i64 0)) H
def O.laws_markBoolS : Nat → Bool × List Nat := fun i => (false, [])
theorem R.laws_markBoolS {a0 a1 : Value} {H : Hp} {K : Value → Hp → Prop} (h : F.laws_markBoolS a0 a1 H K) : HT prg I.laws_markBoolS [a0, a1].toArray H K :=
  HT_of_fev O.laws_markBoolS mixed Try.func83 (by kernel_rfl) (Eq.mpr (by kernel_rfl : fev prg O.laws_markBoolS Try.f83 [a0, a1] H K = F.laws_markBoolS a0 a1 H K) h)

/-! loop.example/g01381/laws.markGas: function 44 -/
def F.laws_markGas (a0 a1 : Value) (H : Hp) (K : Value → Hp → Prop) : Prop :=
  nw (a0 : Value).cells 47 H fun v2x1 H2 =>
  ob (vFa 3 v2x1) fun v5x3 =>
  ob (vLoad v5x3 H2) fun v6x4 =>
  HT prg I.laws_markInt64S [v6x4, a1].toArray H2 fun v8x5 H6 =>
  ob (vFa 4 v2x1) fun v9x7 =>
  ob (vLoad v9x7 H6) fun v10x8 =>
  HT prg I.laws_markBoolS [v10x8, v8x5].toArray H6 fun v12x9 H10 =>
  K v12x9 H10
def O.laws_markGas : Nat → Bool × List Nat := fun i => (false, [])
theorem R.laws_markGas {a0 a1 : Value} {H : Hp} {K : Value → Hp → Prop} (h : F.laws_markGas a0 a1 H K) : HT prg I.laws_markGas [a0, a1].toArray H K :=
  HT_of_fev O.laws_markGas mixed Try.func44 (by kernel_rfl) (Eq.mpr (by kernel_rfl : fev prg O.laws_markGas Try.f44 [a0, a1] H K = F.laws_markGas a0 a1 H K) h)

/-! loop.example/g01381/laws.FnExactDenseBlocks: function 12 -/
def F.laws_FnExactDenseBlocks (a0 a1 a2 : Value) (H : Hp) (K : Value → Hp → Prop) : Prop :=
  nw (a0 : Value).cells 44 H fun v3x1 H2 =>
  ob (vLoadN 5 v3x1 H2) fun v18x3 =>
  HT prg I.laws_szGas [v18x3, (.int .i64 1048576)].toArray H2 fun v20x4 H5 =>
  ob (vInt .lss v20x4 (.int .i64 0)) fun v22x6 =>
  cnd v22x6
    (K (.bool true) H5)
    (ob (vLoadN 5 v3x1 H5) fun v24x7 =>
  HT prg I.laws_toGas [v24x7].toArray H5 fun v25x8 H9 =>
  HT prg I.spec_DenseBlocks [v25x8, a1, a2].toArray H9 fun v28x10 H11 =>
  ob (vExt v28x10 0) fun v29x12 =>
  ob (vExt v28x10 1) fun v30x13 =>
  ob (vLoadN 5 v3x1 H11) fun v31x14 =>
  HT prg I.laws_toGas [v31x14].toArray H11 fun v32x15 H16 =>
  nw #[(.int .i64 0), (.int .i64 0), (.int .i64 0), (.slice none 0 0), (.slice none 0 0)] 47 H16 fun v10x17 H18 =>
  st 5 v10x17 v32x15 H18 fun H19 =>
  ob (vLoadN 5 v10x17 H19) fun v34x20 =>
  HT prg I.impl_DenseBlocks [v34x20, a1, a2].toArray H19 fun v37x21 H22 =>
  ob (vExt v37x21 0) fun v38x23 =>
  ob (vExt v37x21 1) fun v39x24 =>
  HT prg I.laws_eqInt64S [v38x23, v29x12].toArray H22 fun v42x25 H26 =>
  ob (vUn .not v42x25) fun v43x27 =>
  gop v43x27 false (fun K28 => K28 v39x24 H26) H26 fun v45x29 H30 =>
  gop v43x27 false (fun K31 => K31 v30x13 H30) H30 fun v46x32 H33 =>
  gop v43x27 false (fun K34 => ob (vBool .neq v45x29 v46x32) fun u => K34 u H33) H33 fun v47x35 H36 =>
  ob (vPick v43x27 (.bool true) v47x35) fun v48x37 =>
  cnd v48x37
    (K (.bool false) H36)
    (ob (vLoadN 5 v10x17 H36) fun v49x38 =>
  ob (vLoadN 5 v3x1 H36) fun v50x39 =>
  HT prg I.laws_toGas [v50x39].toArray H36 fun v51x40 H41 =>
  Le H36 H41 ∧ (HT prg I.laws_eqGas [v49x38, v51x40].toArray H41 fun v52x42 H43 =>
  Le H41 H43 ∧ (ob (vUn .not v52x42) fun v53x44 =>
  cnd v53x44
    (K (.bool false) H43)
    (ob (vLoadN 5 v10x17 H43) fun v54x45 =>
  HT prg I.laws_markGas [v54x45, (.int .i64 1)].toArray H43 fun v56x46 H47 =>
  ob (vInt .lss v56x46 (.int .i64 0)) fun v58x48 =>
  gop v58x48 false (fun K49 => K49 v38x23 H47) H47 fun v60x50 H51 =>
  gop v58x48 false (fun K52 => K52 v29x12 H51) H51 fun v61x53 H54 =>
  gop v58x48 false (fun K55 => HT prg I.laws_eqInt64S [v60x50, v61x53].toArray H54 K55) H54 fun v62x56 H57 =>
  gop v58x48 false (fun K58 => ob (vUn .not v62x56) fun u => K58 u H57) H57 fun v63x59 H60 =>
  ob (vPick v58x48 (.bool true) v63x59) fun v64x61 =>
  gop v64x61 false (fun K62 => K62 v39x24 H60) H60 fun v66x63 H64 =>
  gop v64x61 false (fun K65 => K65 v30x13 H64) H64 fun v67x66 H67 =>
  gop v64x61 false (fun K68 => ob (vBool .neq v66x63 v67x66) fun u => K68 u H67) H67 fun v68x69 H70 =>
  ob (vPick v64x61 (.bool true) v68x69) fun v69x71 =>
  cnd v69x71
    (K (.bool false) H70)
    (HT prg I.laws_markInt64S [v38x23, (.int .i64 1)].toArray H70 fun v72x72 H73 =>
  HT prg I.laws_heldInt64S [v38x23, (.int .i64 1)].toArray H73 fun v75x74 H75 =>
  ob (vInt .lss v75x74 (.int .i64 0)) fun v77x76 =>
  cnd v77x76
    (K (.bool false) H75)
    (ob (vInt .neq v75x74 v72x72) fun v80x77 =>
  cnd v80x77
    (K (.bool false) H75)
    (ob (vLoadN 5 v3x1 H75) fun v82x78 =>
  HT prg I.laws_toGas [v82x78].toArray H75 fun v83x79 H80 =>
  HT prg I.impl_DenseBlocks [v83x79, a1, a2].toArray H80 fun v86x81 H82 =>
  ob (vExt v86x81 0) fun v87x83 =>
  ob (vExt v86x81 1) fun v88x84 =>
  HT prg I.laws_eqInt64S [v87x83, v29x12].toArray H82 fun v91x85 H86 =>
  ob (vUn .not v91x85) fun v92x87 =>
  gop v92x87 false (fun K88 => K88 v88x84 H86) H86 fun v94x89 H90 =>
  gop v92x87 false (fun K91 => K91 v30x13 H90) H90 fun v95x92 H93 =>
  gop v92x87 false (fun K94 => ob (vBool .neq v94x89 v95x92) fun u => K94 u H93) H93 fun v96x95 H96 =>
  ob (vPick v92x87 (.bool true) v96x95) fun v97x97 =>
  cnd v97x97
    (K (.bool false) H96)
    (HT prg I.laws_heldInt64S [v38x23, (.int .i64 1)].toArray H96 fun v100x98 H99 =>
  ob (vInt .lss v100x98 (.int .i64 0)) fun v102x100 =>
  cnd v102x100
    (K (.bool false) H99)
    (ob (vInt .neq v100x98 v72x72) fun v105x101 =>
  cnd v105x101
    (K (.bool false) H99)
    (K (.bool true) H99)))))))))))
def O.laws_FnExactDenseBlocks : Nat → Bool × List Nat := fun i => bif Nat.beq i 10 then (false, [0, 1, 2, 3, 4]) else (false, [])
theorem R.laws_FnExactDenseBlocks {a0 a1 a2 : Value} {H : Hp} {K : Value → Hp → Prop} (h : F.laws_FnExactDenseBlocks a0 a1 a2 H K) : HT prg I.laws_FnExactDenseBlocks [a0, a1, a2].toArray H K :=
  HT_of_fev O.laws_FnExactDenseBlocks mixed Try.func12 (by kernel_rfl) (Eq.mpr (by kernel_rfl : fev prg O.laws_FnExactDenseBlocks Try.f12 [a0, a1, a2] H K = F.laws_FnExactDenseBlocks a0 a1 a2 H K) h)

/-! loop.example/g01381/spec.l06Own: function 84 -/
def F.spec_l06Own (a0 : Value) (H : Hp) (K : Value → Hp → Prop) : Prop :=
  nw #[(.int .i64 0), (.int .i64 0), (.int .i64 0), (.slice none 0 0), (.slice none 0 0)] 47 H fun v2x1 H2 =>
  ob (vNilC a0) fun v5x3 =>
  ob (vFa 0 v5x3) fun v6x4 =>
  ob (vLoad v6x4 H2) fun v7x5 =>
  ob (vNilC a0) fun v9x6 =>
  ob (vFa 1 v9x6) fun v10x7 =>
  ob (vLoad v10x7 H2) fun v11x8 =>
  ob (vNilC a0) fun v13x9 =>
  ob (vFa 2 v13x9) fun v14x10 =>
  ob (vLoad v14x10 H2) fun v15x11 =>
  ob (vNilC a0) fun v18x12 =>
  ob (vFa 3 v18x12) fun v19x13 =>
  ob (vLoad v19x13 H2) fun v20x14 =>
  bS 1 0 #[(.int .i64 0)] 2 [] H2 fun v16x15 H16 =>
  apd 1 8 #[(.int .i64 0)] 2 v16x15 v20x14 H16 fun v21x17 H18 =>
  Le H16 H18 ∧ (ob (vBuild [(0, 1), (1, 1), (2, 1), (3, 1), (4, 1)] (.agg #[(.int .i64 0), (.int .i64 0), (.int .i64 0), (.slice none 0 0), (.slice none 0 0)]) [(0, v7x5), (1, v11x8), (2, v15x11), (3, v21x17)]) fun v22x19 =>
  nw #[(.int .i64 0), (.int .i64 0), (.int .i64 0), (.slice none 0 0), (.slice none 0 0)] 47 H18 fun v3x20 H21 =>
  st 5 v3x20 v22x19 H21 fun H22 =>
  bS 1 0 #[(.bool false)] 4 [] H22 fun v23x23 H24 =>
  ob (vNilC a0) fun v25x25 =>
  ob (vFa 4 v25x25) fun v26x26 =>
  ob (vLoad v26x26 H24) fun v27x27 =>
  apd 1 1 #[(.bool false)] 4 v23x23 v27x27 H24 fun v28x28 H29 =>
  ob (vFa 4 v3x20) fun v29x30 =>
  st 1 v29x30 v28x28 H29 fun H31 =>
  ob (vLoadN 5 v3x20 H31) fun v30x32 =>
  st 5 v2x1 v30x32 H31 fun H33 =>
  ob (vLoadN 5 v2x1 H33) fun u34 => K u34 H33)
def O.spec_l06Own : Nat → Bool × List Nat := fun i => bif Nat.beq i 1 then (true, [0, 1, 2, 3, 4, 5, 6, 7, 8, 9, 10, 11, 13, 14, 15, 16, 12, 17, 18, 19, 20]) else (false, [])
theorem R.spec_l06Own {a0 : Value} {H : Hp} {K : Value → Hp → Prop} (h : F.spec_l06Own a0 H K) : HT prg I.spec_l06Own [a0].toArray H K :=
  HT_of_fev O.spec_l06Own mixed Try.func84 (by kernel_rfl) (Eq.mpr (by kernel_rfl : fev prg O.spec_l06Own Try.f84 [a0] H K = F.spec_l06Own a0 H K) h)

end Go.Proofs.Ytdfoobomlabffaa
