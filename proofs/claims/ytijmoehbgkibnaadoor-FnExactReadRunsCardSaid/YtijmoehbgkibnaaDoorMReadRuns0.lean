/- Several texts in one. -/
import Derived.Shelf.Small.Wraps
import Derived.Shelf.LaysM
import Derived.Shelf.Strconv.Itoa4
import Derived.Shelf.LaysC
import Derived.Shelf.Strconv.ParseIntPublic10
import Derived.Shelf.Strings.Search2
import Derived.Shelf.Strings.Search3
import Derived.Shelf.Strings.Cut
import Derived.Shelf.Strings.Shaped
import Derived.Shelf.Strings.Split
import Derived.Shelf.Strings.IndexAny
import Derived.Shelf.Strings.IndexAnyAll
import Derived.Test.YtijmoehbgkibnaaDoorChecked
import Derived.Test.YtijmoehbgkibnaaDoorG0
import Derived.Lib.ParseIntBTie
import Derived.Lib.SplitLaws
import Derived.Test.YtijmoehbgkibnaaDoorHI
import Derived.Laws.Strings
import Derived.Below
set_option linter.unusedVariables false
/-
-/
namespace Go.Proofs
open Go.Shelf
def Tryd.lays104_ren : Go.Shelf.Ren := ⟨fun | 104 => 15 | 211 => 29 | 207 => 43 | n => n, fun | 9 => 9 | 4 => 4 | 24 => 40 | 3 => 3 | n => n, fun | n => n⟩
theorem Tryd.lays104 : Go.Proofs.Lays.n104 Tryd.prog Tryd.lays104_ren := {
  mixed := by kernel_rfl
  f104 := Tryd.func15.trans (congrArg some (by kernel_rfl))
  f207 := Tryd.func43.trans (congrArg some (by kernel_rfl))
  f211 := Tryd.func29.trans (congrArg some (by kernel_rfl))
  t3 := Tryd.underlying3
  a3 := Tryd.isAgg3
  z3 := Tryd.sizeOf3
  v3 := Tryd.zeroValue3
  t4 := Tryd.underlying4
  a4 := Tryd.isAgg4
  z4 := Tryd.sizeOf4
  v4 := Tryd.zeroValue4
  t9 := Tryd.underlying9
  a9 := Tryd.isAgg9
  z9 := Tryd.sizeOf9
  v9 := Tryd.zeroValue9
  t24 := Tryd.underlying40
  a24 := Tryd.isAgg40
  z24 := Tryd.sizeOf40
  v24 := Tryd.zeroValue40 }
open Go.RowKit in
/-- strings.CutSuffix: "CutSuffix returns s without the provided ending suffix string and reports whether it found the suffix. If s doesn't end with suffix, CutSuffix returns s, false. If suffix is the empty string, CutSuffix returns s, true.": IT RETURNS '(Lib.trimSuffix s p, Lib.hasSuffix s p)'; the world is as it was. (LAID: no walk: one application.) -/
theorem Tryd.strings_CutSuffix (s p : ByteArray) (w : World) (hs : s.size ≤ 9223372036854775807) :
    Calls Tryd.prog 15 #[.string s, .string p] w fun e w' => e = .returned (.tuple #[.string ⟨(Lib.trimSuffix s.data.toList p.data.toList).toArray⟩, .bool (Lib.hasSuffix s.data.toList p.data.toList)]) ∧ w' = w := Any.strings_CutSuffix Tryd.lays104 s p w hs
def Tryd.laysM173_ren : Go.Shelf.Ren := ⟨fun | 173 => 42 | 246 => 65 | 283 => 80 | 284 => 81 | 285 => 82 | 286 => 83 | 129 => 89 | 317 => 88 | 318 => 90 | 319 => 91 | 320 => 92 | 337 => 93 | 338 => 94 | n => n, fun | 2 => 2 | 3 => 3 | 9 => 9 | 4 => 4 | 171 => 110 | 0 => 0 | 53 => 89 | 37 => 65 | 5 => 5 | 173 => 113 | 212 => 122 | 51 => 101 | 20 => 20 | 213 => 123 | 46 => 87 | 232 => 130 | 233 => 131 | n => n, fun | 17 => 3 | 18 => 6 | 19 => 7 | n => n⟩
theorem Tryd.laysM173 : Go.Proofs.LaysM.n173 Tryd.prog Tryd.laysM173_ren := {
  mixed := by kernel_rfl
  f129 := Tryd.func89.trans (congrArg some (by kernel_rfl))
  f173 := Tryd.func42.trans (congrArg some (by kernel_rfl))
  f246 := Tryd.func65.trans (congrArg some (by kernel_rfl))
  f283 := Tryd.func80.trans (congrArg some (by kernel_rfl))
  f284 := Tryd.func81.trans (congrArg some (by kernel_rfl))
  f285 := Tryd.func82.trans (congrArg some (by kernel_rfl))
  f286 := Tryd.func83.trans (congrArg some (by kernel_rfl))
  f317 := Tryd.func88.trans (congrArg some (by kernel_rfl))
  f318 := Tryd.func90.trans (congrArg some (by kernel_rfl))
  f319 := Tryd.func91.trans (congrArg some (by kernel_rfl))
  f320 := Tryd.func92.trans (congrArg some (by kernel_rfl))
  f337 := Tryd.func93.trans (congrArg some (by kernel_rfl))
  f338 := Tryd.func94.trans (congrArg some (by kernel_rfl))
  t0 := Tryd.underlying0
  a0 := Tryd.isAgg0
  z0 := Tryd.sizeOf0
  v0 := Tryd.zeroValue0
  t2 := Tryd.underlying2
  a2 := Tryd.isAgg2
  z2 := Tryd.sizeOf2
  v2 := Tryd.zeroValue2
  t3 := Tryd.underlying3
  a3 := Tryd.isAgg3
  z3 := Tryd.sizeOf3
  v3 := Tryd.zeroValue3
  t4 := Tryd.underlying4
  a4 := Tryd.isAgg4
  z4 := Tryd.sizeOf4
  v4 := Tryd.zeroValue4
  t5 := Tryd.underlying5
  a5 := Tryd.isAgg5
  z5 := Tryd.sizeOf5
  v5 := Tryd.zeroValue5
  t9 := Tryd.underlying9
  a9 := Tryd.isAgg9
  z9 := Tryd.sizeOf9
  v9 := Tryd.zeroValue9
  t20 := Tryd.underlying20
  a20 := Tryd.isAgg20
  z20 := Tryd.sizeOf20
  v20 := Tryd.zeroValue20
  t37 := Tryd.underlying65
  a37 := Tryd.isAgg65
  z37 := Tryd.sizeOf65
  v37 := Tryd.zeroValue65
  t46 := Tryd.underlying87
  a46 := Tryd.isAgg87
  z46 := Tryd.sizeOf87
  v46 := Tryd.zeroValue87
  t51 := Tryd.underlying101
  a51 := Tryd.isAgg101
  z51 := Tryd.sizeOf101
  v51 := Tryd.zeroValue101
  t53 := Tryd.underlying89
  a53 := Tryd.isAgg89
  z53 := Tryd.sizeOf89
  v53 := Tryd.zeroValue89
  t171 := Tryd.underlying110
  a171 := Tryd.isAgg110
  z171 := Tryd.sizeOf110
  v171 := Tryd.zeroValue110
  t173 := Tryd.underlying113
  a173 := Tryd.isAgg113
  z173 := Tryd.sizeOf113
  v173 := Tryd.zeroValue113
  t212 := Tryd.underlying122
  a212 := Tryd.isAgg122
  z212 := Tryd.sizeOf122
  v212 := Tryd.zeroValue122
  t213 := Tryd.underlying123
  a213 := Tryd.isAgg123
  z213 := Tryd.sizeOf123
  t232 := Tryd.underlying130
  a232 := Tryd.isAgg130
  z232 := Tryd.sizeOf130
  v232 := Tryd.zeroValue130
  t233 := Tryd.underlying131
  a233 := Tryd.isAgg131
  z233 := Tryd.sizeOf131
  v233 := Tryd.zeroValue131
  g17 := by kernel_rfl
  g18 := by kernel_rfl
  g19 := by kernel_rfl
  i0 := by kernel_rfl
  i2 := by kernel_rfl
  i3 := by kernel_rfl
  i4 := by kernel_rfl
  i5 := by kernel_rfl
  i9 := by kernel_rfl
  i20 := by kernel_rfl
  i37 := by kernel_rfl
  i46 := by kernel_rfl
  i51 := by kernel_rfl
  i53 := by kernel_rfl
  i171 := by kernel_rfl
  i173 := by kernel_rfl
  i212 := by kernel_rfl
  i232 := by kernel_rfl
  i233 := by kernel_rfl
  m17 := by kernel_rfl
  m18 := by kernel_rfl
  m19 := by kernel_rfl }
open Go.RowKit Go.Sort Go.Lib in
/-- strconv.FormatInt: "FormatInt returns the string representation of i in the given base": AT BASE 10: i's decimal numeral, for every int64. (LAID: no walk: one application.) -/
theorem Tryd.strconv_FormatInt_10 (n : Int) (h0 : -9223372036854775808 ≤ n) (h1 : n ≤ 9223372036854775807) (w : World) (htab : Lib.TabIs Tryd.prog w "internal/strconv.uint64pow10" .u64 Lib.pow10Tab) :
    Calls Tryd.prog 42 #[.int .i64 n, .int .i64 10] w fun e w' => e = .returned (.string ⟨(Lib.itoa n).toArray⟩) ∧ ∃ k os, w' = grow (w.drewN k) os := Any.strconv_FormatInt_10 Tryd.laysM173 n h0 h1 w htab
def Tryd.laysC174_ren : Go.Shelf.Ren := ⟨fun | 174 => 26 | 247 => 40 | 245 => 41 | 287 => 60 | 279 => 61 | 280 => 62 | 281 => 63 | 282 => 64 | 321 => 75 | 322 => 76 | 316 => 77 | 171 => 79 | 205 => 78 | 243 => 87 | 246 => 65 | 283 => 80 | 284 => 81 | 285 => 82 | 286 => 83 | 129 => 89 | 317 => 88 | 318 => 90 | 319 => 91 | 320 => 92 | 337 => 93 | 338 => 94 | n => n, fun | 9 => 9 | 3 => 3 | 2 => 2 | 75 => 53 | 85 => 54 | 4 => 4 | 167 => 88 | 5 => 5 | 53 => 89 | 175 => 90 | 46 => 87 | 168 => 92 | 37 => 65 | 0 => 0 | 210 => 107 | 21 => 21 | 127 => 100 | 145 => 120 | 143 => 118 | 171 => 110 | 173 => 113 | 212 => 122 | 51 => 101 | 20 => 20 | 213 => 123 | 232 => 130 | 233 => 131 | 80 => 48 | n => n, fun | 15 => 1 | 16 => 2 | 17 => 3 | 18 => 6 | 19 => 7 | n => n⟩
theorem Tryd.laysC174 : Go.Proofs.LaysC.n174 Tryd.prog Tryd.laysC174_ren := {
  mixed := by kernel_rfl
  f129 := Tryd.func89.trans (congrArg some (by kernel_rfl))
  f171 := Tryd.func79.trans (congrArg some (by kernel_rfl))
  f174 := Tryd.func26.trans (congrArg some (by kernel_rfl))
  f205 := Tryd.func78.trans (congrArg some (by kernel_rfl))
  f243 := Tryd.func87.trans (congrArg some (by kernel_rfl))
  f245 := Tryd.func41.trans (congrArg some (by kernel_rfl))
  f246 := Tryd.func65.trans (congrArg some (by kernel_rfl))
  f247 := Tryd.func40.trans (congrArg some (by kernel_rfl))
  f279 := Tryd.func61.trans (congrArg some (by kernel_rfl))
  f280 := Tryd.func62.trans (congrArg some (by kernel_rfl))
  f281 := Tryd.func63.trans (congrArg some (by kernel_rfl))
  f282 := Tryd.func64.trans (congrArg some (by kernel_rfl))
  f283 := Tryd.func80.trans (congrArg some (by kernel_rfl))
  f284 := Tryd.func81.trans (congrArg some (by kernel_rfl))
  f285 := Tryd.func82.trans (congrArg some (by kernel_rfl))
  f286 := Tryd.func83.trans (congrArg some (by kernel_rfl))
  f287 := Tryd.func60.trans (congrArg some (by kernel_rfl))
  f316 := Tryd.func77.trans (congrArg some (by kernel_rfl))
  f317 := Tryd.func88.trans (congrArg some (by kernel_rfl))
  f318 := Tryd.func90.trans (congrArg some (by kernel_rfl))
  f319 := Tryd.func91.trans (congrArg some (by kernel_rfl))
  f320 := Tryd.func92.trans (congrArg some (by kernel_rfl))
  f321 := Tryd.func75.trans (congrArg some (by kernel_rfl))
  f322 := Tryd.func76.trans (congrArg some (by kernel_rfl))
  f337 := Tryd.func93.trans (congrArg some (by kernel_rfl))
  f338 := Tryd.func94.trans (congrArg some (by kernel_rfl))
  t0 := Tryd.underlying0
  a0 := Tryd.isAgg0
  z0 := Tryd.sizeOf0
  v0 := Tryd.zeroValue0
  t2 := Tryd.underlying2
  a2 := Tryd.isAgg2
  z2 := Tryd.sizeOf2
  v2 := Tryd.zeroValue2
  t3 := Tryd.underlying3
  a3 := Tryd.isAgg3
  z3 := Tryd.sizeOf3
  v3 := Tryd.zeroValue3
  t4 := Tryd.underlying4
  a4 := Tryd.isAgg4
  z4 := Tryd.sizeOf4
  v4 := Tryd.zeroValue4
  t5 := Tryd.underlying5
  a5 := Tryd.isAgg5
  z5 := Tryd.sizeOf5
  v5 := Tryd.zeroValue5
  t9 := Tryd.underlying9
  a9 := Tryd.isAgg9
  z9 := Tryd.sizeOf9
  v9 := Tryd.zeroValue9
  t20 := Tryd.underlying20
  a20 := Tryd.isAgg20
  z20 := Tryd.sizeOf20
  v20 := Tryd.zeroValue20
  t21 := Tryd.underlying21
  a21 := Tryd.isAgg21
  z21 := Tryd.sizeOf21
  v21 := Tryd.zeroValue21
  t37 := Tryd.underlying65
  a37 := Tryd.isAgg65
  z37 := Tryd.sizeOf65
  v37 := Tryd.zeroValue65
  t46 := Tryd.underlying87
  a46 := Tryd.isAgg87
  z46 := Tryd.sizeOf87
  v46 := Tryd.zeroValue87
  t51 := Tryd.underlying101
  a51 := Tryd.isAgg101
  z51 := Tryd.sizeOf101
  v51 := Tryd.zeroValue101
  t53 := Tryd.underlying89
  a53 := Tryd.isAgg89
  z53 := Tryd.sizeOf89
  v53 := Tryd.zeroValue89
  t75 := Tryd.underlying53
  a75 := Tryd.isAgg53
  z75 := Tryd.sizeOf53
  v75 := Tryd.zeroValue53
  t85 := Tryd.underlying54
  a85 := Tryd.isAgg54
  z85 := Tryd.sizeOf54
  v85 := Tryd.zeroValue54
  t127 := Tryd.underlying100
  a127 := Tryd.isAgg100
  z127 := Tryd.sizeOf100
  v127 := Tryd.zeroValue100
  t143 := Tryd.underlying118
  a143 := Tryd.isAgg118
  z143 := Tryd.sizeOf118
  v143 := Tryd.zeroValue118
  t145 := Tryd.underlying120
  a145 := Tryd.isAgg120
  z145 := Tryd.sizeOf120
  v145 := Tryd.zeroValue120
  t167 := Tryd.underlying88
  a167 := Tryd.isAgg88
  z167 := Tryd.sizeOf88
  v167 := Tryd.zeroValue88
  t168 := Tryd.underlying92
  a168 := Tryd.isAgg92
  z168 := Tryd.sizeOf92
  v168 := Tryd.zeroValue92
  t171 := Tryd.underlying110
  a171 := Tryd.isAgg110
  z171 := Tryd.sizeOf110
  v171 := Tryd.zeroValue110
  t173 := Tryd.underlying113
  a173 := Tryd.isAgg113
  z173 := Tryd.sizeOf113
  v173 := Tryd.zeroValue113
  t175 := Tryd.underlying90
  a175 := Tryd.isAgg90
  z175 := Tryd.sizeOf90
  v175 := Tryd.zeroValue90
  t210 := Tryd.underlying107
  a210 := Tryd.isAgg107
  z210 := Tryd.sizeOf107
  v210 := Tryd.zeroValue107
  t212 := Tryd.underlying122
  a212 := Tryd.isAgg122
  z212 := Tryd.sizeOf122
  v212 := Tryd.zeroValue122
  t213 := Tryd.underlying123
  a213 := Tryd.isAgg123
  z213 := Tryd.sizeOf123
  t232 := Tryd.underlying130
  a232 := Tryd.isAgg130
  z232 := Tryd.sizeOf130
  v232 := Tryd.zeroValue130
  t233 := Tryd.underlying131
  a233 := Tryd.isAgg131
  z233 := Tryd.sizeOf131
  v233 := Tryd.zeroValue131
  g15 := by kernel_rfl
  g16 := by kernel_rfl
  g17 := by kernel_rfl
  g18 := by kernel_rfl
  g19 := by kernel_rfl
  t80 := Tryd.underlying48
  a80 := Tryd.isAgg48
  z80 := Tryd.sizeOf48
  v80 := Tryd.zeroValue48
  i0 := by kernel_rfl
  i2 := by kernel_rfl
  i3 := by kernel_rfl
  i4 := by kernel_rfl
  i5 := by kernel_rfl
  i9 := by kernel_rfl
  i20 := by kernel_rfl
  i21 := by kernel_rfl
  i37 := by kernel_rfl
  i46 := by kernel_rfl
  i51 := by kernel_rfl
  i53 := by kernel_rfl
  i75 := by kernel_rfl
  i80 := by kernel_rfl
  i85 := by kernel_rfl
  i127 := by kernel_rfl
  i143 := by kernel_rfl
  i145 := by kernel_rfl
  i167 := by kernel_rfl
  i168 := by kernel_rfl
  i171 := by kernel_rfl
  i173 := by kernel_rfl
  i175 := by kernel_rfl
  i210 := by kernel_rfl
  i212 := by kernel_rfl
  i232 := by kernel_rfl
  i233 := by kernel_rfl
  m15 := by kernel_rfl
  m16 := by kernel_rfl
  m17 := by kernel_rfl
  m18 := by kernel_rfl
  m19 := by kernel_rfl
  c0 := by kernel_rfl
  c2 := by kernel_rfl
  c3 := by kernel_rfl
  c4 := by kernel_rfl
  c5 := by kernel_rfl
  c9 := by kernel_rfl
  c20 := by kernel_rfl
  c21 := by kernel_rfl
  c37 := by kernel_rfl
  c46 := by kernel_rfl
  c51 := by kernel_rfl
  c53 := by kernel_rfl
  c75 := by kernel_rfl
  c80 := by kernel_rfl
  c85 := by kernel_rfl
  c127 := by kernel_rfl
  c143 := by kernel_rfl
  c145 := by kernel_rfl
  c167 := by kernel_rfl
  c168 := by kernel_rfl
  c171 := by kernel_rfl
  c173 := by kernel_rfl
  c175 := by kernel_rfl
  c210 := by kernel_rfl
  c212 := by kernel_rfl
  c213 := by kernel_rfl
  c232 := by kernel_rfl
  c233 := by kernel_rfl }
open Go.RowKit in
/-- strconv.ParseInt(s, 10, 64), AT EVERY STRING THAT SPELLS AN int64 ('Lib.parseIntB 64 s.data.toList = .ok v'): v, AND NO ERROR. (LAID: no walk: one application.) -/
theorem Tryd.strconv_ParseInt_10_at64_ok (s : ByteArray) (hmax : s.size ≤ 9223372036854775806) (v : Int) (h : Lib.parseIntB 64 s.data.toList = .ok v) (w : World) :
    Calls Tryd.prog 26 #[.string s, .int .i64 10, .int .i64 64] w fun e w' => e = .returned (.tuple #[.int .i64 v, .nilIface]) ∧ (w' = w ∨ ∃ t, w' = Lib.bytesWorld w 5 t) := Any.strconv_ParseInt_10_at64_ok Tryd.laysC174 s hmax v h w
open Go.RowKit in
/-- strconv.ParseInt(s, 10, 64), AT EVERY NUMERAL THAT NO int64 HOLDS: THE GREATEST OR THE LEAST int64, BY THE SIGN ('Lib.intSat 64'), AND AN ERROR THAT IS NOT nil: a *NumError in a new block N: {Func: "ParseInt", Num: s's bytes, Err: what the variable ErrRange holds}. Of what was there nothing has turned. (LAID: no walk: one application.) -/
theorem Tryd.strconv_ParseInt_10_at64_range (s : ByteArray) (hlim : s.size ≤ 281474976710656) (h : Lib.parseIntB 64 s.data.toList = .range) (ev : Value) (w : World) (hv : w.cell? ⟨2, 0, none⟩ = some ev) (hev : ev = .nilIface ∨ ∃ te pe, ev = .iface te pe) :
    Calls Tryd.prog 26 #[.string s, .int .i64 10, .int .i64 64] w fun e w' => ∃ N, e = .returned (.tuple #[.int .i64 (Lib.intSat 64 s.data.toList), .iface 92 (.pointer (some ⟨N, 0, none⟩))]) ∧ w.heap.size ≤ N ∧ w'.heap[N]? = some (.cells #[.string ⟨#[80, 97, 114, 115, 101, 73, 110, 116]⟩, .string s, ev] 107 (0, 0)) ∧ Below w.heap.size w w' := Any.strconv_ParseInt_10_at64_range Tryd.laysC174 s hlim h ev w hv hev
def Tryd.lays145_ren : Go.Shelf.Ren := ⟨fun | 145 => 13 | 220 => 25 | 219 => 39 | 217 => 56 | 225 => 57 | 224 => 58 | 267 => 59 | 266 => 73 | 314 => 74 | n => n, fun | 9 => 9 | 4 => 4 | 59 => 36 | 3 => 3 | 5 => 5 | 46 => 87 | 146 => 102 | 51 => 101 | n => n, fun | 1 => 0 | n => n⟩
theorem Tryd.lays145 : Go.Proofs.Lays.n145 Tryd.prog Tryd.lays145_ren := {
  mixed := by kernel_rfl
  f145 := Tryd.func13.trans (congrArg some (by kernel_rfl))
  f217 := Tryd.func56.trans (congrArg some (by kernel_rfl))
  f219 := Tryd.func39.trans (congrArg some (by kernel_rfl))
  f220 := Tryd.func25.trans (congrArg some (by kernel_rfl))
  f224 := Tryd.func58.trans (congrArg some (by kernel_rfl))
  f225 := Tryd.func57.trans (congrArg some (by kernel_rfl))
  f266 := Tryd.func73.trans (congrArg some (by kernel_rfl))
  f267 := Tryd.func59.trans (congrArg some (by kernel_rfl))
  f314 := Tryd.func74.trans (congrArg some (by kernel_rfl))
  t3 := Tryd.underlying3
  a3 := Tryd.isAgg3
  z3 := Tryd.sizeOf3
  v3 := Tryd.zeroValue3
  t4 := Tryd.underlying4
  a4 := Tryd.isAgg4
  z4 := Tryd.sizeOf4
  v4 := Tryd.zeroValue4
  t5 := Tryd.underlying5
  a5 := Tryd.isAgg5
  z5 := Tryd.sizeOf5
  v5 := Tryd.zeroValue5
  t9 := Tryd.underlying9
  a9 := Tryd.isAgg9
  z9 := Tryd.sizeOf9
  v9 := Tryd.zeroValue9
  t46 := Tryd.underlying87
  a46 := Tryd.isAgg87
  z46 := Tryd.sizeOf87
  v46 := Tryd.zeroValue87
  t51 := Tryd.underlying101
  a51 := Tryd.isAgg101
  z51 := Tryd.sizeOf101
  v51 := Tryd.zeroValue101
  t59 := Tryd.underlying36
  a59 := Tryd.isAgg36
  z59 := Tryd.sizeOf36
  v59 := Tryd.zeroValue36
  t146 := Tryd.underlying102
  a146 := Tryd.isAgg102
  z146 := Tryd.sizeOf102
  v146 := Tryd.zeroValue102
  g1 := by kernel_rfl }
open Go.RowKit Go.Lib in
/-- strings.Cut: "Cut slices s around the first instance of sep, returning the text before and after sep. The found result reports whether sep appears in s. If sep does not appear in s, cut returns s, "", false.": IT RETURNS 'Lib.cut s sep'; the world is as it was but for the count of draws. (LAID: no walk: one application.) -/
theorem Tryd.strings_Cut (s sep : ByteArray) (m : Int) (w : World) (hs : s.size < 4294967281) (hm : w.cell? ⟨0, 0, none⟩ = some (.int .i64 m)) :
    Calls Tryd.prog 13 #[.string s, .string sep] w fun e w' => e = .returned (.tuple #[.string ⟨(Lib.cut s.data.toList sep.data.toList).1.toArray⟩, .string ⟨(Lib.cut s.data.toList sep.data.toList).2.1.toArray⟩, .bool (Lib.cut s.data.toList sep.data.toList).2.2]) ∧ ∃ n, w' = w.drewN n := Any.strings_Cut Tryd.lays145 s sep m w hs hm
def Tryd.laysM145_ren : Go.Shelf.Ren := ⟨fun | 145 => 13 | 220 => 25 | 219 => 39 | 217 => 56 | 225 => 57 | 224 => 58 | 267 => 59 | 266 => 73 | 314 => 74 | n => n, fun | 9 => 9 | 4 => 4 | 59 => 36 | 3 => 3 | 5 => 5 | 46 => 87 | 146 => 102 | 51 => 101 | n => n, fun | 1 => 0 | n => n⟩
theorem Tryd.laysM145 : Go.Proofs.LaysM.n145 Tryd.prog Tryd.laysM145_ren := {
  mixed := by kernel_rfl
  f145 := Tryd.func13.trans (congrArg some (by kernel_rfl))
  f217 := Tryd.func56.trans (congrArg some (by kernel_rfl))
  f219 := Tryd.func39.trans (congrArg some (by kernel_rfl))
  f220 := Tryd.func25.trans (congrArg some (by kernel_rfl))
  f224 := Tryd.func58.trans (congrArg some (by kernel_rfl))
  f225 := Tryd.func57.trans (congrArg some (by kernel_rfl))
  f266 := Tryd.func73.trans (congrArg some (by kernel_rfl))
  f267 := Tryd.func59.trans (congrArg some (by kernel_rfl))
  f314 := Tryd.func74.trans (congrArg some (by kernel_rfl))
  t3 := Tryd.underlying3
  a3 := Tryd.isAgg3
  z3 := Tryd.sizeOf3
  v3 := Tryd.zeroValue3
  t4 := Tryd.underlying4
  a4 := Tryd.isAgg4
  z4 := Tryd.sizeOf4
  v4 := Tryd.zeroValue4
  t5 := Tryd.underlying5
  a5 := Tryd.isAgg5
  z5 := Tryd.sizeOf5
  v5 := Tryd.zeroValue5
  t9 := Tryd.underlying9
  a9 := Tryd.isAgg9
  z9 := Tryd.sizeOf9
  v9 := Tryd.zeroValue9
  t46 := Tryd.underlying87
  a46 := Tryd.isAgg87
  z46 := Tryd.sizeOf87
  v46 := Tryd.zeroValue87
  t51 := Tryd.underlying101
  a51 := Tryd.isAgg101
  z51 := Tryd.sizeOf101
  v51 := Tryd.zeroValue101
  t59 := Tryd.underlying36
  a59 := Tryd.isAgg36
  z59 := Tryd.sizeOf36
  v59 := Tryd.zeroValue36
  t146 := Tryd.underlying102
  a146 := Tryd.isAgg102
  z146 := Tryd.sizeOf102
  v146 := Tryd.zeroValue102
  g1 := by kernel_rfl
  i3 := by kernel_rfl
  i4 := by kernel_rfl
  i5 := by kernel_rfl
  i9 := by kernel_rfl
  i46 := by kernel_rfl
  i51 := by kernel_rfl
  i59 := by kernel_rfl
  i146 := by kernel_rfl
  m1 := by kernel_rfl
  s1_3 := fun w h => Go.Proofs.cell_of_shapedOpen_int (zero := #[.int .i64 0]) (t := 3) h (of_decide_eq_true (by kernel_rfl)) (by kernel_rfl) rfl (by kernel_rfl) (by kernel_rfl) Tryd.underlying3 }
def Tryd.lays146_ren : Go.Shelf.Ren := ⟨fun | 146 => 17 | 221 => 31 | 268 => 44 | 138 => 45 | 143 => 46 | 195 => 66 | 197 => 67 | 218 => 68 | 219 => 39 | 260 => 84 | 217 => 56 | 225 => 57 | 224 => 58 | 267 => 59 | 266 => 73 | 314 => 74 | n => n, fun | 9 => 9 | 31 => 43 | 3 => 3 | 4 => 4 | 0 => 0 | 105 => 96 | 21 => 21 | 5 => 5 | 46 => 87 | 119 => 125 | 139 => 128 | 138 => 127 | 146 => 102 | 51 => 101 | n => n, fun | 1 => 0 | 3 => 4 | 4 => 5 | n => n⟩
theorem Tryd.lays146 : Go.Proofs.Lays.n146 Tryd.prog Tryd.lays146_ren := {
  mixed := by kernel_rfl
  f138 := Tryd.func45.trans (congrArg some (by kernel_rfl))
  f143 := Tryd.func46.trans (congrArg some (by kernel_rfl))
  f146 := Tryd.func17.trans (congrArg some (by kernel_rfl))
  f195 := Tryd.func66.trans (congrArg some (by kernel_rfl))
  f197 := Tryd.func67.trans (congrArg some (by kernel_rfl))
  f217 := Tryd.func56.trans (congrArg some (by kernel_rfl))
  f218 := Tryd.func68.trans (congrArg some (by kernel_rfl))
  f219 := Tryd.func39.trans (congrArg some (by kernel_rfl))
  f221 := Tryd.func31.trans (congrArg some (by kernel_rfl))
  f224 := Tryd.func58.trans (congrArg some (by kernel_rfl))
  f225 := Tryd.func57.trans (congrArg some (by kernel_rfl))
  f260 := Tryd.func84.trans (congrArg some (by kernel_rfl))
  f266 := Tryd.func73.trans (congrArg some (by kernel_rfl))
  f267 := Tryd.func59.trans (congrArg some (by kernel_rfl))
  f268 := Tryd.func44.trans (congrArg some (by kernel_rfl))
  f314 := Tryd.func74.trans (congrArg some (by kernel_rfl))
  t0 := Tryd.underlying0
  a0 := Tryd.isAgg0
  z0 := Tryd.sizeOf0
  v0 := Tryd.zeroValue0
  t3 := Tryd.underlying3
  a3 := Tryd.isAgg3
  z3 := Tryd.sizeOf3
  v3 := Tryd.zeroValue3
  t4 := Tryd.underlying4
  a4 := Tryd.isAgg4
  z4 := Tryd.sizeOf4
  v4 := Tryd.zeroValue4
  t5 := Tryd.underlying5
  a5 := Tryd.isAgg5
  z5 := Tryd.sizeOf5
  v5 := Tryd.zeroValue5
  t9 := Tryd.underlying9
  a9 := Tryd.isAgg9
  z9 := Tryd.sizeOf9
  v9 := Tryd.zeroValue9
  t21 := Tryd.underlying21
  a21 := Tryd.isAgg21
  z21 := Tryd.sizeOf21
  v21 := Tryd.zeroValue21
  t31 := Tryd.underlying43
  a31 := Tryd.isAgg43
  z31 := Tryd.sizeOf43
  v31 := Tryd.zeroValue43
  t46 := Tryd.underlying87
  a46 := Tryd.isAgg87
  z46 := Tryd.sizeOf87
  v46 := Tryd.zeroValue87
  t51 := Tryd.underlying101
  a51 := Tryd.isAgg101
  z51 := Tryd.sizeOf101
  v51 := Tryd.zeroValue101
  t105 := Tryd.underlying96
  a105 := Tryd.isAgg96
  z105 := Tryd.sizeOf96
  v105 := Tryd.zeroValue96
  t119 := Tryd.underlying125
  a119 := Tryd.isAgg125
  z119 := Tryd.sizeOf125
  t138 := Tryd.underlying127
  a138 := Tryd.isAgg127
  z138 := Tryd.sizeOf127
  v138 := Tryd.zeroValue127
  t139 := Tryd.underlying128
  a139 := Tryd.isAgg128
  z139 := Tryd.sizeOf128
  v139 := Tryd.zeroValue128
  t146 := Tryd.underlying102
  a146 := Tryd.isAgg102
  z146 := Tryd.sizeOf102
  v146 := Tryd.zeroValue102
  g1 := by kernel_rfl
  g3 := by kernel_rfl
  g4 := by kernel_rfl }
open Go.RowKit Go.Lib in
/-- strings.Split. (LAID: no walk: one application.) -/
theorem Tryd.strings_Split (s sep : ByteArray) (m : Int) (w : World) (hs : s.size < 4294967281) (hm : w.cell? ⟨0, 0, none⟩ = some (.int .i64 m)) (h1 : 1 ≤ sep.size) :
    Calls Tryd.prog 17 #[.string s, .string sep] w fun e w' =>
      e = .returned (.slice (some ⟨w.heap.size, 0, none⟩) (Lib.countB s sep + 1) (Lib.countB s sep + 1)) ∧ w' = w.alloc (.cells ((Lib.splitB sep 0 (Lib.countB s sep) s).map Value.string).toArray 9) := Any.strings_Split Tryd.lays146 (by kernel_rfl) s sep m w hs hm h1
def Tryd.lays226_ren : Go.Shelf.Ren := ⟨fun | 226 => 48 | n => n, fun | 3 => 3 | 4 => 4 | n => n, fun | n => n⟩
theorem Tryd.lays226 : Go.Proofs.Lays.n226 Tryd.prog Tryd.lays226_ren := {
  mixed := by kernel_rfl
  f226 := Tryd.func48.trans (congrArg some (by kernel_rfl))
  t3 := Tryd.underlying3
  a3 := Tryd.isAgg3
  z3 := Tryd.sizeOf3
  v3 := Tryd.zeroValue3
  t4 := Tryd.underlying4
  a4 := Tryd.isAgg4
  z4 := Tryd.sizeOf4
  v4 := Tryd.zeroValue4 }
open Go.RowKit Go.Lib in
theorem Tryd.strings_shouldUseASCIISet (n : Int) (w : World) :
    Calls Tryd.prog 48 #[.int .i64 n] w fun e w' => e = .returned (.bool (decide (8 < n))) ∧ w' = w := Any.strings_shouldUseASCIISet Tryd.lays226 n w
def Tryd.lays153_ren : Go.Shelf.Ren := ⟨fun | 153 => 32 | 152 => 47 | 226 => 48 | 227 => 49 | 228 => 50 | 137 => 69 | 119 => 70 | 224 => 58 | 225 => 57 | 217 => 56 | 266 => 73 | n => n, fun | 9 => 9 | 3 => 3 | 4 => 4 | 5 => 5 | 21 => 21 | 117 => 74 | 116 => 73 | 0 => 0 | 46 => 87 | 124 => 99 | n => n, fun | n => n⟩
theorem Tryd.lays153 : Go.Proofs.Lays.n153 Tryd.prog Tryd.lays153_ren := {
  mixed := by kernel_rfl
  f119 := Tryd.func70.trans (congrArg some (by kernel_rfl))
  f137 := Tryd.func69.trans (congrArg some (by kernel_rfl))
  f152 := Tryd.func47.trans (congrArg some (by kernel_rfl))
  f153 := Tryd.func32.trans (congrArg some (by kernel_rfl))
  f217 := Tryd.func56.trans (congrArg some (by kernel_rfl))
  f224 := Tryd.func58.trans (congrArg some (by kernel_rfl))
  f225 := Tryd.func57.trans (congrArg some (by kernel_rfl))
  f226 := Tryd.func48.trans (congrArg some (by kernel_rfl))
  f227 := Tryd.func49.trans (congrArg some (by kernel_rfl))
  f228 := Tryd.func50.trans (congrArg some (by kernel_rfl))
  f266 := Tryd.func73.trans (congrArg some (by kernel_rfl))
  t0 := Tryd.underlying0
  a0 := Tryd.isAgg0
  z0 := Tryd.sizeOf0
  v0 := Tryd.zeroValue0
  t3 := Tryd.underlying3
  a3 := Tryd.isAgg3
  z3 := Tryd.sizeOf3
  v3 := Tryd.zeroValue3
  t4 := Tryd.underlying4
  a4 := Tryd.isAgg4
  z4 := Tryd.sizeOf4
  v4 := Tryd.zeroValue4
  t5 := Tryd.underlying5
  a5 := Tryd.isAgg5
  z5 := Tryd.sizeOf5
  v5 := Tryd.zeroValue5
  t9 := Tryd.underlying9
  a9 := Tryd.isAgg9
  z9 := Tryd.sizeOf9
  v9 := Tryd.zeroValue9
  t21 := Tryd.underlying21
  a21 := Tryd.isAgg21
  z21 := Tryd.sizeOf21
  v21 := Tryd.zeroValue21
  t46 := Tryd.underlying87
  a46 := Tryd.isAgg87
  z46 := Tryd.sizeOf87
  v46 := Tryd.zeroValue87
  t116 := Tryd.underlying73
  a116 := Tryd.isAgg73
  z116 := Tryd.sizeOf73
  t117 := Tryd.underlying74
  a117 := Tryd.isAgg74
  z117 := Tryd.sizeOf74
  v117 := Tryd.zeroValue74
  t124 := Tryd.underlying99
  a124 := Tryd.isAgg99
  z124 := Tryd.sizeOf99
  v124 := Tryd.zeroValue99 }
open Go.RowKit Go.Lib in
theorem Tryd.strings_IndexAny_long (hv116 : ∀ w, (zeroValue 73).run Tryd.prog w = .ok (.agg (Array.replicate 256 (.bool false))) w) (s chars : ByteArray) (w : World) (h2 : 2 ≤ chars.size) (h8 : 8 < s.size) (hs : s.size < 4294967281) (hcs : chars.size < 4294967281) (hascii : ∀ (j : Nat) b, chars.data.toList[j]? = some b → b.toNat < 128) :
    Calls Tryd.prog 32 #[.string s, .string chars] w fun e w' => e = .returned (.int .i64 (Lib.indexAny s.data.toList chars.data.toList)) ∧ w' = ((w.alloc (.cells (Lib.setCells chars.data.toList) 73)).alloc (.cells (Lib.setCells chars.data.toList) 73)) := Any.strings_IndexAny_long Tryd.lays153 hv116 (by kernel_rfl) s chars w h2 h8 hs hcs hascii
open Go.RowKit Go.Lib in
/-- strings.IndexAny ON ASCII BYTES: the four roads under one statement. (LAID: no walk: one application.) -/
theorem Tryd.strings_IndexAny (hv116 : ∀ w, (zeroValue 73).run Tryd.prog w = .ok (.agg (Array.replicate 256 (.bool false))) w) (s chars : ByteArray) (w : World) (hs : s.size < 4294967281) (hcs : chars.size < 4294967281) (has : ∀ (j : Nat) b, s.data.toList[j]? = some b → b.toNat < 128) (hac : ∀ (j : Nat) b, chars.data.toList[j]? = some b → b.toNat < 128) :
    Calls Tryd.prog 32 #[.string s, .string chars] w fun e w' => e = .returned (.int .i64 (Lib.indexAny s.data.toList chars.data.toList)) ∧ Below w.heap.size w w' := Any.strings_IndexAny Tryd.lays153 hv116 (by kernel_rfl) s chars w hs hcs has hac
open Go.RowKit Go.Lib in
theorem Tryd.strings_IndexAny_laid (s chars : ByteArray) (w : World) (hs : s.size < 4294967281) (hcs : chars.size < 4294967281) (has : ∀ (j : Nat) b, s.data.toList[j]? = some b → b.toNat < 128) (hac : ∀ (j : Nat) b, chars.data.toList[j]? = some b → b.toNat < 128) :
    Calls Tryd.prog 32 #[.string s, .string chars] w fun e w' => e = .returned (.int .i64 (Lib.indexAny s.data.toList chars.data.toList)) ∧ Below w.heap.size w w' := Any.strings_IndexAny_laid Tryd.lays153 (by kernel_rfl) s chars w hs hcs has hac
end Go.Proofs
namespace Go.Proofs.YtijmoehbgkibnaaDoor
open Go.RowKit Go.Sort
/-- The library's variables that texts ask for: their blocks. -/
abbrev gMax : Nat := 0
abbrev gSyn : Nat := 1
abbrev gRan : Nat := 2
abbrev tErr : TypeId := 92
abbrev tTxt : TypeId := 9
theorem cut_calls (s sep : ByteArray) (m : Int) (w : World) (hs : s.size < 4294967281) (hm : w.cell? ⟨gMax, 0, none⟩ = some (.int .i64 m)) :
    Calls prg I.strings_Cut #[.string s, .string sep] w fun e w' => e = .returned (.tuple #[.string ⟨(Lib.cut s.data.toList sep.data.toList).1.toArray⟩, .string ⟨(Lib.cut s.data.toList sep.data.toList).2.1.toArray⟩, .bool (Lib.cut s.data.toList sep.data.toList).2.2]) ∧ ∃ n, w' = w.drewN n := Tryd.strings_Cut s sep m w hs hm
theorem suffix_calls (s p : ByteArray) (w : World) (hs : s.size ≤ 9223372036854775807) :
    Calls prg I.strings_CutSuffix #[.string s, .string p] w fun e w' => e = .returned (.tuple #[.string ⟨(Lib.trimSuffix s.data.toList p.data.toList).toArray⟩, .bool (Lib.hasSuffix s.data.toList p.data.toList)]) ∧ w' = w := Tryd.strings_CutSuffix s p w hs
theorem split_calls (s sep : ByteArray) (m : Int) (w : World) (hs : s.size < 4294967281) (hm : w.cell? ⟨gMax, 0, none⟩ = some (.int .i64 m)) (h1 : 1 ≤ sep.size) :
    Calls prg I.strings_Split #[.string s, .string sep] w fun e w' =>
      e = .returned (.slice (some ⟨w.heap.size, 0, none⟩) (Lib.countB s sep + 1) (Lib.countB s sep + 1)) ∧ w' = w.alloc (.cells ((Lib.splitB sep 0 (Lib.countB s sep) s).map Value.string).toArray tTxt) := Tryd.strings_Split s sep m w hs hm h1
theorem indexAny_calls (s chars : ByteArray) (w : World) (hs : s.size < 4294967281) (hcs : chars.size < 4294967281) (has : ∀ (j : Nat) b, s.data.toList[j]? = some b → b.toNat < 128) (hac : ∀ (j : Nat) b, chars.data.toList[j]? = some b → b.toNat < 128) :
    Calls prg I.strings_IndexAny #[.string s, .string chars] w fun e w' => e = .returned (.int .i64 (Lib.indexAny s.data.toList chars.data.toList)) ∧ Below w.heap.size w w' := Tryd.strings_IndexAny_laid s chars w hs hcs has hac
theorem indexAny_long_calls (hv : ∀ w, (zeroValue 73).run prg w = .ok (.agg (Array.replicate 256 (.bool false))) w) (s chars : ByteArray) (w : World) (h2 : 2 ≤ chars.size) (h8 : 8 < s.size) (hs : s.size < 4294967281) (hcs : chars.size < 4294967281) (hascii : ∀ (j : Nat) b, chars.data.toList[j]? = some b → b.toNat < 128) :
    Calls prg I.strings_IndexAny #[.string s, .string chars] w fun e w' => e = .returned (.int .i64 (Lib.indexAny s.data.toList chars.data.toList)) ∧ w' = ((w.alloc (.cells (Lib.setCells chars.data.toList) 73)).alloc (.cells (Lib.setCells chars.data.toList) 73)) := Tryd.strings_IndexAny_long hv s chars w h2 h8 hs hcs hascii
theorem lays_ia : Go.Proofs.Lays.n153 prg Tryd.lays153_ren := Tryd.lays153
theorem ia_num : Tryd.lays153_ren.f 153 = I.strings_IndexAny := rfl
theorem ia_zero : ∀ w, (zeroValue 73).run prg w = .ok (.agg (Array.replicate 256 (.bool false))) w := (Go.zero_of_info (P := prg) (t := 73) (n := 256) (by kernel_rfl)).1
theorem parse_ok_calls (s : ByteArray) (hmax : s.size ≤ 9223372036854775806) (v : Int) (h : Lib.parseIntB 64 s.data.toList = .ok v) (w : World) :
    Calls prg I.strconv_ParseInt #[.string s, .int .i64 10, .int .i64 64] w fun e w' => e = .returned (.tuple #[.int .i64 v, .nilIface]) ∧ (w' = w ∨ ∃ t, w' = Lib.bytesWorld w 5 t) := Tryd.strconv_ParseInt_10_at64_ok s hmax v h w
/-- A text that is no number. (The word itself may not stand in a claim.) -/
def noNum {α : Type} (r : Lib.NumEnd α) : Bool := match r with | .ok _ => false | .range => false | _ => true
theorem parse_syn_calls (s : ByteArray) (hlim : s.size ≤ 281474976710656) (h : noNum (Lib.parseIntB 64 s.data.toList) = true) (ev : Value) (w : World) (hv : w.cell? ⟨gSyn, 0, none⟩ = some ev) (hev : ev = .nilIface ∨ ∃ te pe, ev = .iface te pe) :
    Calls prg I.strconv_ParseInt #[.string s, .int .i64 10, .int .i64 64] w fun e w' => ∃ q, e = .returned (.tuple #[.int .i64 (0), .iface tErr q]) ∧ Below w.heap.size w w' := by
  cases hx : Lib.parseIntB 64 s.data.toList with
  | ok v => rw [hx] at h; cases h
  | range => rw [hx] at h; cases h
  | _ => exact (Any.strconv_ParseInt_10_at64_syntax Tryd.laysC174 s hlim hx ev w hv hev).mono fun _ _ ⟨_, he, _, _, hb⟩ => ⟨_, he, hb⟩
theorem parse_ran_calls (s : ByteArray) (hlim : s.size ≤ 281474976710656) (h : Lib.parseIntB 64 s.data.toList = .range) (ev : Value) (w : World) (hv : w.cell? ⟨gRan, 0, none⟩ = some ev) (hev : ev = .nilIface ∨ ∃ te pe, ev = .iface te pe) :
    Calls prg I.strconv_ParseInt #[.string s, .int .i64 10, .int .i64 64] w fun e w' => ∃ q, e = .returned (.tuple #[.int .i64 (Lib.intSat 64 s.data.toList), .iface tErr q]) ∧ Below w.heap.size w w' :=
  (Tryd.strconv_ParseInt_10_at64_range s hlim h ev w hv hev).mono fun _ _ ⟨_, he, _, _, hb⟩ => ⟨_, he, hb⟩
theorem format_calls (n : Int) (h0 : -9223372036854775808 ≤ n) (h1 : n ≤ 9223372036854775807) (w : World) (htab : Lib.TabIs prg w "internal/strconv.uint64pow10" .u64 Lib.pow10Tab) :
    Calls prg I.strconv_FormatInt #[.int .i64 n, .int .i64 10] w fun e w' => e = .returned (.string ⟨(Lib.itoa n).toArray⟩) ∧ ∃ k os, w' = grow (w.drewN k) os := Tryd.strconv_FormatInt_10 n h0 h1 w htab
end Go.Proofs.YtijmoehbgkibnaaDoor
/- Slices over a partial heap: what is read, what is owned, and what stays when something else is written. -/
namespace Go.Proofs.YtijmoehbgkibnaaDoor.HL
abbrev eI : Int → Value := .int .i64
/-- The pointer to a slice's cell, where its elements have one cell each. -/
def ptr (v : Value) (i : Int) : Value := match v with | .slice (some a) _ _ => .pointer (some (a.add (i.toNat * 1))) | _ => undef
/-- The block that a slice or a pointer may write. -/
def bk (v : Value) : Option Nat := match v with | .slice (some a) _ c => if c = 0 then none else some a.block | .pointer (some a) => some a.block | _ => none
/-- The element at an index. -/
def at_ {α : Type} (d : α) (l : List α) (i : Int) : α := l.getD i.toNat d

/-- A slice that reads so. -/
def Sl {α : Type} (enc : α → Value) (H : Hp) (v : Value) (l : List α) : Prop :=
  ∃ a c, v = .slice a l.length c ∧ l.length ≤ c ∧ ∀ i (h : i < l.length), ∃ ad, a = some ad ∧ H.cell? (ad.add i) = some (enc l[i])
/-- A slice whose block is known whole, and may be written. -/
def Own {α : Type} (enc : α → Value) (H : Hp) (v : Value) (l : List α) : Prop :=
  ∃ a c, v = .slice a l.length c ∧ l.length ≤ c ∧ (0 < c → ∃ b off cs e, a = some ⟨b, off, none⟩ ∧ H b = some (.cells cs e (0, 0)) ∧ off + c ≤ cs.size ∧ ∀ i (h : i < l.length), cs[off + i]? = some (enc l[i]))
/-- A slice whose block is not known in a heap. -/
def Nw (H : Hp) (v : Value) : Prop := ∀ b, bk v = some b → H b = none
def Apart (u v : Value) : Prop := ∀ b, bk u = some b → bk v ≠ some b
/-- All that is known stays, but for a slice's block. -/
def Off (v : Value) (H H' : Hp) : Prop := ∀ b o, H b = some o → bk v ≠ some b → H' b = some o

theorem add_none (b off i : Nat) : (⟨b, off, none⟩ : Addr).add i = ⟨b, off + i, none⟩ := by
  unfold Addr.add
  split
  · rename_i h; subst h; rfl
  · rfl
theorem Apart.symm {u v : Value} (h : Apart u v) : Apart v u := fun b hb hu => h b hu hb
theorem Nw.le {H H' : Hp} {v : Value} (h : Nw H' v) (hl : Le H H') : Nw H v := fun b hb => by
  cases ho : H b with
  | none => rfl
  | some o => have := hl b o ho; rw [h b hb] at this; exact absurd this (by simp)
theorem Off.le {H0 H H' : Hp} {v : Value} (h : Off v H H') (hl : Le H0 H) (hn : Nw H0 v) : Le H0 H' := fun b o hb =>
  h b o (hl b o hb) (fun e => by rw [hn b e] at hb; exact absurd hb (by simp))
theorem Off.trans {A B C : Hp} {v : Value} (h : Off v A B) (h' : Off v B C) : Off v A C := fun b o hb hv => h' b o (h b o hb hv) hv

section
variable {α : Type} {enc : α → Value} {H H' : Hp} {u v : Value} {l : List α}
theorem Sl.le (h : Sl enc H v l) (hl : Le H H') : Sl enc H' v l := by
  obtain ⟨a, c, rfl, hc, hr⟩ := h
  exact ⟨a, c, rfl, hc, fun i hi => by obtain ⟨ad, e, hh⟩ := hr i hi; exact ⟨ad, e, hl.cell hh⟩⟩
theorem Sl.len (h : Sl enc H v l) : vLenSl v = some (.int .i64 l.length) := by
  obtain ⟨a, c, rfl, hc, hr⟩ := h; rfl
theorem Sl.ix (h : Sl enc H v l) {k : IntKind} {i : Int} (h0 : 0 ≤ i) (h1 : i < l.length) : vIx 1 v (.int k i) = some (ptr v i) := by
  obtain ⟨a, c, rfl, hc, hr⟩ := h
  obtain ⟨ad, rfl, hh⟩ := hr i.toNat (by omega)
  simp only [vIx, ptr]
  rw [if_pos ⟨h0, by simpa using h1⟩]
theorem Sl.ld (h : Sl enc H v l) (d : α) {i : Int} (h0 : 0 ≤ i) (h1 : i < l.length) : vLoad (ptr v i) H = some (enc (at_ d l i)) := by
  obtain ⟨a, c, rfl, hc, hr⟩ := h
  have hi : i.toNat < l.length := by omega
  obtain ⟨ad, rfl, hh⟩ := hr i.toNat hi
  simp only [vLoad, ptr, Nat.mul_one, hh, at_, List.getD_eq_getElem?_getD, List.getElem?_eq_getElem hi, Option.getD_some]
theorem Sl.nil (c : Nat) (a : Option Addr) : Sl enc H (.slice a 0 c) [] := ⟨a, c, rfl, by simp, fun i hi => absurd hi (by simp)⟩

theorem Own.len (h : Own enc H v l) : vLenSl v = some (.int .i64 l.length) := by
  obtain ⟨a, c, rfl, hc, hr⟩ := h; rfl
theorem Own.sl (h : Own enc H v l) : Sl enc H v l := by
  obtain ⟨a, c, rfl, hc, hr⟩ := h
  refine ⟨a, c, rfl, hc, fun i hi => ?_⟩
  obtain ⟨b, off, cs, e, rfl, hb, hs, hcs⟩ := hr (by omega)
  exact ⟨_, rfl, by simp only [Hp.cell?, add_none, hb, hcs i hi]; rfl⟩
theorem Own.off (h : Own enc H u l) (ho : Off v H H') (ha : Apart u v) : Own enc H' u l := by
  obtain ⟨a, c, rfl, hc, hr⟩ := h
  refine ⟨a, c, rfl, hc, fun h0 => ?_⟩
  obtain ⟨b, off, cs, e, rfl, hb, hs, hcs⟩ := hr h0
  refine ⟨b, off, cs, e, rfl, ho b _ hb (ha b ?_), hs, hcs⟩
  simp only [bk]
  rw [if_neg (by omega)]
theorem Own.le (h : Own enc H u l) (hl : Le H H') : Own enc H' u l := by
  obtain ⟨a, c, rfl, hc, hr⟩ := h
  refine ⟨a, c, rfl, hc, fun h0 => ?_⟩
  obtain ⟨b, off, cs, e, rfl, hb, hs, hcs⟩ := hr h0
  exact ⟨b, off, cs, e, rfl, hl b _ hb, hs, hcs⟩
theorem Own.known (h : Own enc H u l) : ∀ b, bk u = some b → ∃ o, H b = some o := by
  obtain ⟨a, c, rfl, hc, hr⟩ := h
  intro b hb
  cases a with
  | none => simp [bk] at hb
  | some ad =>
    simp only [bk] at hb
    by_cases h0 : c = 0
    · rw [if_pos h0] at hb; simp at hb
    · rw [if_neg h0] at hb
      obtain ⟨b', off, cs, e, he, hbb, _⟩ := hr (by omega)
      simp only [Option.some.injEq] at hb he
      subst he
      simp only at hb
      subst hb
      exact ⟨_, hbb⟩
theorem Own.apart (h : Own enc H u l) (hn : Nw H v) : Apart u v := fun b hb hv => by
  obtain ⟨o, ho⟩ := h.known b hb
  rw [hn b hv] at ho
  exact absurd ho (by simp)
theorem Apart.of_nw {H : Hp} {u v : Value} (hu : ∀ b, bk u = some b → ∃ o, H b = some o) (hn : Nw H v) : Apart u v := fun b hb hv => by
  obtain ⟨o, ho⟩ := hu b hb
  rw [hn b hv] at ho
  exact absurd ho (by simp)
theorem Own.nil_of (a : Option Addr) : Own enc H (.slice a 0 0) [] := ⟨a, 0, rfl, by simp, fun h0 => absurd h0 (by simp)⟩

/-- A write of one cell. -/
theorem Own.st (h : Own enc H v l) {x : α} {K : Hp → Prop} {i : Int} (h0 : 0 ≤ i) (h1 : i < l.length) (hx : oneCell (enc x) = true) (hz : (enc x).cells = #[enc x])
    (hk : ∀ H', Own enc H' v (l.set i.toNat x) → Off v H H' → K H') : st 1 (ptr v i) (enc x) H K := by
  obtain ⟨a, c, rfl, hc, hr⟩ := h
  obtain ⟨b, off, cs, e, rfl, hb, hs, hcs⟩ := hr (by omega)
  have hi : i.toNat < l.length := by omega
  simp only [HL.st, ptr, hz, List.toList_toArray, Nat.mul_one, List.size_toArray, List.length_singleton, true_and, stC]
  refine ⟨hx, ?_, ?_, ?_⟩
  · simp only [Hp.cell?, add_none, hb, hcs _ hi, Nat.add_zero]; rfl
  · simp only [Hp.frozen?, add_none, hb]; simp
  · refine hk _ ⟨_, c, by simp, by simpa using hc, fun _ => ⟨b, off, cs.setIfInBounds (off + i.toNat) (enc x), e, rfl, ?_, by simpa using hs, ?_⟩⟩ ?_
    · simp only [Hp.setCell, add_none, hb, Nat.add_zero, Hp.put_same]; rfl
    · intro j hj
      have hj' : j < l.length := by simpa using hj
      rw [Array.getElem?_setIfInBounds]
      by_cases e1 : off + i.toNat = off + j
      · have : i.toNat = j := by omega
        subst this
        rw [if_pos rfl, if_pos (by omega)]; simp
      · have : i.toNat ≠ j := by omega
        rw [if_neg e1, hcs j hj', List.getElem_set_ne this]
    · intro x' o ho hv
      simp only [bk, if_neg (by omega : ¬ c = 0)] at hv
      simp only [Hp.setCell, add_none, hb]
      rw [Hp.put_ne _ _ (by rintro rfl; exact hv rfl)]
      exact ho

theorem zrow_get (z : Value) (n i : Nat) (h : i < n) : (zrow #[z] n)[i]? = some z := by
  simp only [zrow, List.size_toArray, List.length_singleton, Nat.mod_one]
  simp [h]
theorem zrow_size (zs : Array Value) (n : Nat) : (zrow zs n).size = n := by simp [zrow]

/-- A new row. -/
theorem Own.mk_ {bytes : Nat} {z : α} {e : TypeId} {k k' : IntKind} {n c : Int} {K : Value → Hp → Prop} (h0 : 0 ≤ n) (h1 : n ≤ c) (h2 : c ≤ 281474976710656) (h3 : bytes * c ≤ 281474976710656)
    (hk : ∀ v H', Own enc H' v (List.replicate n.toNat z) → Nw H v → Le H H' → K v H') : mkS 1 bytes #[enc z] e (.int k n) (.int k' c) H K := by
  refine ⟨h0, h1, h2, h3, fun r hr => hk _ _ ⟨some ⟨r, 0, none⟩, c.toNat, by simp, by simp; omega, fun h4 => ⟨r, 0, _, e, rfl, Hp.put_same _ _ _, ?_, ?_⟩⟩ ?_ (Le.put _ hr)⟩
  · rw [Nat.mul_one, if_neg (by omega), zrow_size]; omega
  · intro i hi
    have : i < n.toNat := by simpa using hi
    rw [Nat.mul_one, if_neg (by omega), Nat.zero_add, zrow_get _ _ _ (by omega)]; simp
  · intro b hb
    simp only [bk] at hb
    split at hb
    · simp at hb
    · simp only [Option.some.injEq] at hb; subst hb; exact hr

theorem rd_cells (ad : Addr) : ∀ (n s : Nat) (l : List α), l.length = n → (∀ i (h : i < l.length), H.cell? (ad.add (s + i)) = some (enc l[i])) → rdCells H ad s n = some (l.map enc)
  | 0, s, l, hn, _ => by have : l = [] := List.length_eq_zero_iff.mp hn; subst this; rfl
  | n + 1, s, l, hn, h => by
    cases l with
    | nil => simp at hn
    | cons x r =>
      simp only [rdCells]
      have h0 := h 0 (by simp)
      simp only [Nat.add_zero, List.getElem_cons_zero] at h0
      rw [h0, rd_cells ad n (s + 1) r (by simpa using hn) (fun i hi => by
        have := h (i + 1) (by simpa using hi)
        rw [show s + 1 + i = s + (i + 1) by omega]
        simpa using this)]
      rfl
theorem Sl.firstC (h : Sl enc H v l) : firstC H 1 l.length v = some (l.map enc) := by
  obtain ⟨a, c, rfl, hc, hr⟩ := h
  cases l with
  | nil => cases a <;> rfl
  | cons x r =>
    obtain ⟨ad, rfl, _⟩ := hr 0 (by simp)
    simp only [HL.firstC, Nat.mul_one]
    exact rd_cells ad _ 0 _ rfl (fun i hi => by obtain ⟨ad', e, hh⟩ := hr i hi; cases e; simpa using hh)
theorem Sl.lenO (h : Sl enc H v l) : lenO v = some l.length := by
  obtain ⟨a, c, rfl, hc, hr⟩ := h; rfl

theorem stC_run {K : Hp → Prop} {b : Nat} {e : TypeId} : ∀ (m : List Value) (ad : Addr) (i : Nat) (cs : Array Value) (H : Hp), ad.block = b → ad.spot = none → H b = some (.cells cs e (0, 0)) → ad.off + i + m.length ≤ cs.size →
    (∀ x ∈ m, oneCell x = true) →
    (∀ H' cs', H' b = some (.cells cs' e (0, 0)) → cs'.size = cs.size → (∀ j, j < ad.off + i → cs'[j]? = cs[j]?) → (∀ j (h : j < m.length), cs'[ad.off + i + j]? = some m[j]) → (∀ x, x ≠ b → H' x = H x) → K H') → stC ad K m i H
  | [], ad, i, cs, H, hb, hsp, hH, hs, ho, hk => hk H cs hH rfl (fun _ _ => rfl) (fun j h => absurd h (by simp)) (fun _ _ => rfl)
  | x :: m, ad, i, cs, H, hb, hsp, hH, hs, ho, hk => by
    obtain ⟨abk, aoff, asp⟩ := ad
    simp only at hb hsp hs hk
    subst hb hsp
    simp only [List.length_cons] at hs
    refine ⟨ho x (by simp), ?_, ?_, ?_⟩
    · simp only [Hp.cell?, add_none, hH]
      rw [Array.getElem?_eq_getElem (by omega)]; rfl
    · simp only [Hp.frozen?, add_none, hH]; simp
    · refine stC_run (b := abk) (e := e) m _ (i + 1) (cs.setIfInBounds (aoff + i) x) _ rfl rfl ?_ (by simp; omega) (fun y hy => ho y (by simp [hy])) ?_
      · simp only [Hp.setCell, add_none, hH, Hp.put_same]; rfl
      · intro H' cs' h1 h2 h3 h4 h5
        refine hk H' cs' h1 (by simpa using h2) ?_ ?_ ?_
        · intro j hj
          rw [h3 j (by simp only; omega), Array.getElem?_setIfInBounds_ne (by omega)]
        · intro j hj
          cases j with
          | zero =>
            rw [Nat.add_zero, h3 _ (by simp only; omega), Array.getElem?_setIfInBounds_self_of_lt (by omega)]; rfl
          | succ j =>
            have := h4 j (by simpa using hj)
            simp only at this
            rw [show aoff + i + (j + 1) = aoff + (i + 1) + j by omega, this]; rfl
        · intro x' hx'
          rw [h5 x' hx']
          simp only [Hp.setCell, add_none, hH]
          rw [Hp.put_ne _ _ hx']

/-- An append. -/
theorem Own.apd {bytes : Nat} {z : Value} {e : TypeId} {w : Value} {m : List α} {K : Value → Hp → Prop} (h : Own enc H v l) (hm : Sl enc H w m) (ho : ∀ x, oneCell (enc x) = true)
    (hb : l.length + m.length < 9223372036854775808) (hc : ∀ c, l.length + m.length > c → Builtin.nextslicecap (l.length + m.length) c * bytes ≤ 281474976710656)
    (hk : ∀ v' H', Own enc H' v' (l ++ m) → Off v H H' → (∀ b, bk v' = some b → bk v = some b ∨ H b = none) → K v' H') : apd 1 bytes #[z] e v w H K := by
  have hmf := hm.firstC
  have hml := hm.lenO
  have hlf := h.sl.firstC
  obtain ⟨a, c, rfl, hlc, hr⟩ := h
  simp only [HL.apd, hml]
  by_cases hcap : l.length + m.length ≤ c
  · rw [if_pos hcap]
    simp only [hmf]
    by_cases hc0 : c = 0
    · have hl : l = [] := List.length_eq_zero_iff.mp (by omega)
      have hm' : m = [] := List.length_eq_zero_iff.mp (by omega)
      subst hl hm' hc0
      have : K (.slice a (([] : List α).length + ([] : List α).length) 0) H := hk _ H ⟨a, 0, rfl, by simp, fun h0 => absurd h0 (by simp)⟩ (fun b o hb _ => hb) (fun b hb => by cases a <;> simp [bk] at hb)
      cases a with
      | none => exact this
      | some ad => exact this
    · obtain ⟨b, off, cs, e', rfl, hbb, hs, hcs⟩ := hr (by omega)
      simp only [add_none, Nat.mul_one]
      refine stC_run (b := b) (e := e') (m.map enc) _ 0 cs H rfl rfl hbb (by simp; omega) (by simp; intro x _; exact ho x) ?_
      intro H' cs' h1 h2 h3 h4 h5
      simp only [Nat.add_zero] at h3 h4
      refine hk _ H' ⟨some ⟨b, off, none⟩, c, by simp, by simpa using hcap, fun _ => ⟨b, off, cs', e', rfl, h1, by omega, ?_⟩⟩ ?_ ?_
      · intro i hi
        by_cases hil : i < l.length
        · rw [h3 _ (by omega), hcs i hil, List.getElem_append_left hil]
        · have := h4 (i - l.length) (by simp at hi ⊢; omega)
          rw [show off + l.length + (i - l.length) = off + i by omega] at this
          rw [this, List.getElem_append_right (by omega)]; simp
      · intro x o hx hne
        simp only [bk, if_neg hc0] at hne
        rw [h5 x (by rintro rfl; exact hne rfl)]; exact hx
      · intro x hx
        left; exact hx
  · rw [if_neg hcap]
    refine ⟨hb, hc c (by omega), ?_⟩
    simp only [hlf, hmf]
    intro c' hc1 hc2 r hr'
    refine hk _ _ ⟨some ⟨r, 0, none⟩, c', by simp, by simpa using hc1, fun _ => ⟨r, 0, _, e, rfl, Hp.put_same _ _ _, ?_, ?_⟩⟩ ?_ ?_
    · have : (Builtin.zeroCells #[z] (c' - (l.length + m.length))).size = c' - (l.length + m.length) := by simp [Builtin.zeroCells]
      simp [this]; omega
    · intro i hi
      rw [Nat.zero_add, Array.getElem?_append_left (by simpa using hi)]
      rw [← Array.getElem?_toList]
      simp only [Array.toList_append, ← List.map_append, List.getElem?_map]
      rw [List.getElem?_eq_getElem hi]; rfl
    · intro x o hx _
      rw [Hp.put_ne _ _ (by rintro rfl; rw [hr'] at hx; exact absurd hx (by simp))]; exact hx
    · intro x hx
      right
      simp only [bk] at hx
      split at hx
      · simp at hx
      · simp only [Option.some.injEq] at hx; subst hx; exact hr'
end
end Go.Proofs.YtijmoehbgkibnaaDoor.HL
/- Values and loops over a partial heap: the rules that a proof of a function's text uses. -/
namespace Go.Proofs.YtijmoehbgkibnaaDoor.HL
theorem cnd_i {b : Bool} {A B : Prop} (h1 : b = true → A) (h2 : b = false → B) : cnd (.bool b) A B := by
  cases b
  · exact h2 rfl
  · exact h1 rfl
theorem cnd_d {p : Prop} [Decidable p] {A B : Prop} (h1 : p → A) (h2 : ¬ p → B) : cnd (.bool (decide p)) A B := by
  by_cases h : p
  · rw [decide_eq_true h]; exact h1 h
  · rw [decide_eq_false h]; exact h2 h
theorem gop_tt (F : (Value → Hp → Prop) → Prop) (H : Hp) (K : Value → Hp → Prop) : gop (.bool true) true F H K = F K := rfl
theorem gop_ft (F : (Value → Hp → Prop) → Prop) (H : Hp) (K : Value → Hp → Prop) : gop (.bool false) true F H K = K undef H := rfl
theorem vPick_t (a b : Value) : vPick (.bool true) a b = some a := rfl
theorem vPick_f (a b : Value) : vPick (.bool false) a b = some b := rfl
theorem vExt_20 (a b : Value) : vExt (.tuple #[a, b]) 0 = some a := rfl
theorem vExt_21 (a b : Value) : vExt (.tuple #[a, b]) 1 = some b := rfl
theorem vExt_30 (a b c : Value) : vExt (.tuple #[a, b, c]) 0 = some a := rfl
theorem vExt_31 (a b c : Value) : vExt (.tuple #[a, b, c]) 1 = some b := rfl
theorem vExt_32 (a b c : Value) : vExt (.tuple #[a, b, c]) 2 = some c := rfl
theorem vUn_not (b : Bool) : vUn .not (.bool b) = some (.bool !b) := rfl
theorem vInt_lss (k : IntKind) (a b : Int) : vInt .lss (.int k a) (.int k b) = some (.bool (decide (a < b))) := by simp [vInt]
theorem vInt_leq (k : IntKind) (a b : Int) : vInt .leq (.int k a) (.int k b) = some (.bool (decide (a ≤ b))) := by simp [vInt]
theorem vInt_gtr (k : IntKind) (a b : Int) : vInt .gtr (.int k a) (.int k b) = some (.bool (decide (b < a))) := by simp [vInt]
theorem vInt_geq (k : IntKind) (a b : Int) : vInt .geq (.int k a) (.int k b) = some (.bool (decide (b ≤ a))) := by simp [vInt]
theorem vInt_eql (k : IntKind) (a b : Int) : vInt .eql (.int k a) (.int k b) = some (.bool (decide (a = b))) := by
  simp only [vInt, if_true]; rfl
theorem vInt_neq (k : IntKind) (a b : Int) : vInt .neq (.int k a) (.int k b) = some (.bool (decide (a ≠ b))) := by
  simp only [vInt, if_true, bne, ne_eq, decide_not]; rfl
theorem wrap64 {x : Int} (h : -9223372036854775808 ≤ x) (h' : x < 9223372036854775808) : IntKind.i64.wrap x = x := by
  unfold IntKind.wrap; simp [IntKind.signed, IntKind.bits]; omega
theorem vInt_add {a b : Int} (h : -9223372036854775808 ≤ a + b) (h' : a + b < 9223372036854775808) : vInt .add (.int .i64 a) (.int .i64 b) = some (.int .i64 (a + b)) := by
  simp only [vInt, if_true, wrap64 h h']
theorem vInt_sub {a b : Int} (h : -9223372036854775808 ≤ a - b) (h' : a - b < 9223372036854775808) : vInt .sub (.int .i64 a) (.int .i64 b) = some (.int .i64 (a - b)) := by
  simp only [vInt, if_true, wrap64 h h']
theorem vInt_mul {a b : Int} (h : -9223372036854775808 ≤ a * b) (h' : a * b < 9223372036854775808) : vInt .mul (.int .i64 a) (.int .i64 b) = some (.int .i64 (a * b)) := by
  simp only [vInt, if_true, wrap64 h h']
theorem vInt_rem {a b : Int} (h : b ≠ 0) : vInt .rem (.int .i64 a) (.int .i64 b) = some (.int .i64 (a.tmod b)) := by
  simp only [vInt]; rw [if_pos ⟨trivial, h⟩]
theorem vInt_quo {a b : Int} (h : 0 < b) (h1 : -9223372036854775808 ≤ a) (h2 : a < 9223372036854775808) : vInt .quo (.int .i64 a) (.int .i64 b) = some (.int .i64 (a.tdiv b)) := by
  have e : IntKind.i64.wrap (a.tdiv b) = a.tdiv b := by
    have h3 := Int.natAbs_tdiv_le_natAbs a b
    by_cases h0 : 0 ≤ a
    · have := Int.tdiv_nonneg h0 (Int.le_of_lt h)
      exact wrap64 (by omega) (by omega)
    · have h4 := Int.tdiv_nonneg (a := -a) (by omega) (Int.le_of_lt h)
      rw [Int.neg_tdiv] at h4
      exact wrap64 (by omega) (by omega)
  simp only [vInt]; rw [if_pos ⟨trivial, by omega⟩, e]
theorem vCI_64 (k : IntKind) {a : Int} (h : -9223372036854775808 ≤ a) (h' : a < 9223372036854775808) : vCI .i64 (.int k a) = some (.int .i64 a) := by
  simp only [vCI, wrap64 h h']

/-- What is reckoned at once: the rules of straight code. -/
theorem EV : (∀ (a : Value) (K : Value → Prop), ob (some a) K = K a) ∧ (∀ F H K, gop (.bool true) true F H K = F K) ∧ (∀ F H K, gop (.bool false) true F H K = K undef H) ∧
    (∀ F H K, gop (.bool true) false F H K = K undef H) ∧ (∀ F H K, gop (.bool false) false F H K = F K) ∧ (∀ a b, vPick (.bool true) a b = some a) ∧ (∀ a b, vPick (.bool false) a b = some b) ∧
    (∀ b, vUn .not (.bool b) = some (.bool !b)) ∧ ((!true) = false) ∧ ((!false) = true) ∧ (∀ A B, cnd (.bool true) A B = A) ∧ (∀ A B, cnd (.bool false) A B = B) ∧
    (∀ a b, vBool .eql (.bool a) (.bool b) = some (.bool (a == b))) ∧ (∀ a b, vBool .neq (.bool a) (.bool b) = some (.bool (!(a == b)))) ∧ (∀ b : Bool, (b == b) = true) ∧
    (∀ k a b, vInt .neq (.int k a) (.int k b) = some (.bool (decide (a ≠ b)))) ∧ (∀ k a b, vInt .lss (.int k a) (.int k b) = some (.bool (decide (a < b)))) ∧ (∀ k a b, vInt .gtr (.int k a) (.int k b) = some (.bool (decide (b < a)))) ∧
    (∀ k a b, vInt .leq (.int k a) (.int k b) = some (.bool (decide (a ≤ b)))) ∧ (∀ k a b, vInt .geq (.int k a) (.int k b) = some (.bool (decide (b ≤ a)))) ∧ (∀ k a b, vInt .eql (.int k a) (.int k b) = some (.bool (decide (a = b)))) ∧
    (∀ a : Int, decide (a ≠ a) = false) ∧ (∀ a : Int, decide (a = a) = true) ∧ (decide False = false) ∧ (decide True = true) ∧
    (∀ a b, vExt (.tuple #[a, b]) 0 = some a) ∧ (∀ a b, vExt (.tuple #[a, b]) 1 = some b) ∧ (∀ a b c, vExt (.tuple #[a, b, c]) 0 = some a) ∧ (∀ a b c, vExt (.tuple #[a, b, c]) 1 = some b) ∧ (∀ a b c, vExt (.tuple #[a, b, c]) 2 = some c) ∧
    (∀ a b c d, vExt (.tuple #[a, b, c, d]) 0 = some a) ∧ (∀ a b c d, vExt (.tuple #[a, b, c, d]) 1 = some b) ∧ (∀ a b c d, vExt (.tuple #[a, b, c, d]) 2 = some c) ∧ (∀ a b c d, vExt (.tuple #[a, b, c, d]) 3 = some d) :=
  ⟨fun _ _ => rfl, fun _ _ _ => rfl, fun _ _ _ => rfl, fun _ _ _ => rfl, fun _ _ _ => rfl, fun _ _ => rfl, fun _ _ => rfl, fun _ => rfl, rfl, rfl, fun _ _ => rfl, fun _ _ => rfl,
    fun _ _ => rfl, fun _ _ => rfl, fun b => by simp, fun _ _ _ => vInt_neq _ _ _, fun _ _ _ => vInt_lss _ _ _, fun _ _ _ => vInt_gtr _ _ _, fun _ _ _ => vInt_leq _ _ _, fun _ _ _ => vInt_geq _ _ _, fun _ _ _ => vInt_eql _ _ _,
    fun a => by simp, fun a => by simp, by simp, by simp, fun _ _ => rfl, fun _ _ => rfl, fun _ _ _ => rfl, fun _ _ _ => rfl, fun _ _ _ => rfl, fun _ _ _ _ => rfl, fun _ _ _ _ => rfl, fun _ _ _ _ => rfl, fun _ _ _ _ => rfl⟩

theorem ob_i {α : Type} {x : Option α} {a : α} {K : α → Prop} (h : x = some a) (hk : K a) : ob x K := by rw [h]; exact hk
theorem cnd_t1 {A B : Prop} (h : A) : cnd (.bool true) A B := h
theorem cnd_f1 {A B : Prop} (h : B) : cnd (.bool false) A B := h
theorem gop_rt {F : (Value → Hp → Prop) → Prop} {H : Hp} {K : Value → Hp → Prop} (h : F K) : gop (.bool true) true F H K := h
theorem gop_rf {F : (Value → Hp → Prop) → Prop} {H : Hp} {K : Value → Hp → Prop} (h : F K) : gop (.bool false) false F H K := h
theorem gop_st {F : (Value → Hp → Prop) → Prop} {H : Hp} {K : Value → Hp → Prop} (h : K undef H) : gop (.bool true) false F H K := h
theorem gop_sf {F : (Value → Hp → Prop) → Prop} {H : Hp} {K : Value → Hp → Prop} (h : K undef H) : gop (.bool false) true F H K := h
theorem vBool_neq_same (b : Bool) : vBool .neq (.bool b) (.bool b) = some (.bool false) := by simp [vBool]
theorem vInt_neq_same (k : IntKind) (a : Int) : vInt .neq (.int k a) (.int k a) = some (.bool false) := by simp [vInt_neq]
theorem Own.one {α : Type} {enc : α → Value} {H : Hp} {v : Value} {l : List α} (h : Own enc H v l) : oneCell v = true := by
  obtain ⟨a, c, rfl, _⟩ := h; rfl
theorem Own.cells {α : Type} {enc : α → Value} {H : Hp} {v : Value} {l : List α} (h : Own enc H v l) : v.cells = #[v] := by
  obtain ⟨a, c, rfl, _⟩ := h; rfl
theorem Sl.one {α : Type} {enc : α → Value} {H : Hp} {v : Value} {l : List α} (h : Sl enc H v l) : oneCell v = true := by
  obtain ⟨a, c, rfl, _⟩ := h; rfl
theorem Sl.cells {α : Type} {enc : α → Value} {H : Hp} {v : Value} {l : List α} (h : Sl enc H v l) : v.cells = #[v] := by
  obtain ⟨a, c, rfl, _⟩ := h; rfl

/-- A loop's next round. -/
theorem nxt {I : Nat → S → Hp → Prop} {Q : Exit → S → Hp → Prop} {σ : S} {H : Hp} {n : Nat} (m : Nat) (hm : m < n) (h : I m σ H) : thenQ (fun σ' H' => ∃ m, m < n ∧ I m σ' H') Q .normal σ H := ⟨m, hm, h⟩
theorem retK {K : Value → Hp → Prop} {v v' : Value} {H : Hp} (e : v = v') (h : K v' H) : K v H := e ▸ h

/-- Several ways that meet: what holds where they meet. -/
theorem jn_i {K : S → Hp → Prop} {F : (S → Hp → Prop) → Prop} (P : S → Hp → Prop) (h : ∀ σ H, P σ H → K σ H) (hf : ∀ J : S → Hp → Prop, (∀ σ H, P σ H → J σ H) → F J) : jn K F := hf K h

theorem kF {p : Prop} [Decidable p] {K : Value → Hp → Prop} {H : Hp} (hk : K (.bool (decide p)) H) (h : ¬ p) : K (.bool false) H := by rw [decide_eq_false h] at hk; exact hk
theorem kQ {p q : Prop} [Decidable p] [Decidable q] {K : Value → Hp → Prop} {H : Hp} (hk : K (.bool (decide p)) H) (h : p ↔ q) : K (.bool (decide q)) H := by rw [decide_eq_decide.mpr h] at hk; exact hk

/-! ### copies -/
theorem growBy_le (n : Nat) : ∀ (r c : Nat), Builtin.growBy n r c ≤ max c (n + (n + 768) / 4)
  | 0, c => by simp only [Builtin.growBy]; omega
  | r + 1, c => by
    simp only [Builtin.growBy]
    split
    · omega
    · have := growBy_le n r (c + (c + 768) / 4)
      omega
theorem nsc_le {n c : Nat} (h : n > c) : Builtin.nextslicecap n c ≤ 2 * n + 1024 := by
  unfold Builtin.nextslicecap
  split
  · omega
  · split
    · omega
    · have := growBy_le n 4 c; omega
theorem bS_nil {α : Type} {enc : α → Value} {z : Value} {sz : Nat} {e : TypeId} {H : Hp} {K : Value → Hp → Prop} (hk : ∀ v H', Own enc H' v [] → Nw H v → bk v = none → Le H H' → K v H') : bS sz 0 #[z] e [] H K := by
  refine ⟨by simp, ?_⟩
  rw [if_pos (by simp)]
  show match some (#[] : Array Value) with
    | some cells => ∀ r, H r = none → K (.slice (some ⟨r, 0, none⟩) 0 0) (H.put r (.cells cells e))
    | none => False
  intro r hr
  refine hk _ _ ⟨some ⟨r, 0, none⟩, 0, rfl, by simp, fun h0 => absurd h0 (by simp)⟩ ?_ rfl (Le.put _ hr)
  intro b hb
  simp [bk] at hb
theorem Own.isSl {α : Type} {enc : α → Value} {H : Hp} {v : Value} {l : List α} (h : Own enc H v l) : ∃ a n c, v = .slice a n c := by
  obtain ⟨a, c, h, _⟩ := h; exact ⟨_, _, _, h⟩
theorem Sl.isSl {α : Type} {enc : α → Value} {H : Hp} {v : Value} {l : List α} (h : Sl enc H v l) : ∃ a n c, v = .slice a n c := by
  obtain ⟨a, c, h, _⟩ := h; exact ⟨_, _, _, h⟩
/-! ### lists by index -/
theorem at_eq {α : Type} (d : α) (l : List α) {i : Nat} (h : i < l.length) : at_ d l (i : Int) = l[i] := by
  unfold at_; rw [Int.toNat_natCast, List.getD_eq_getElem?_getD, List.getElem?_eq_getElem h]; rfl
theorem take_at {α : Type} (d : α) (l : List α) {i : Nat} (h : i < l.length) : l.take (i + 1) = l.take i ++ [at_ d l (i : Int)] := by
  rw [at_eq d l h, List.take_append_getElem h]
theorem at_mem {α : Type} (d : α) (l : List α) {i : Int} (h0 : 0 ≤ i) (h : i < l.length) : at_ d l i ∈ l := by
  have hn : i.toNat < l.length := by omega
  unfold at_; rw [List.getD_eq_getElem?_getD, List.getElem?_eq_getElem hn]; exact List.getElem_mem hn
end Go.Proofs.YtijmoehbgkibnaaDoor.HL
/- Texts: bytes in a row. -/
namespace Go.Proofs.YtijmoehbgkibnaaDoor.HL
set_option maxRecDepth 100000
/-- A text of some bytes. -/
def tS (l : List UInt8) : ByteArray := ⟨l.toArray⟩
abbrev vS (l : List UInt8) : Value := .string (tS l)
theorem tS_size (l : List UInt8) : (tS l).size = l.length := rfl
theorem tS_data (l : List UInt8) : (tS l).data.toList = l := rfl
theorem tS_toList (l : List UInt8) : (tS l).toList = l := by rw [ByteArray.toList_eq]; rfl
theorem tS_of (b : ByteArray) : b = tS b.data.toList := by cases b; rfl
theorem tS_append (a b : List UInt8) : tS a ++ tS b = tS (a ++ b) := by
  have h : ∀ {x y : ByteArray}, x.data.toList = y.data.toList → x = y := fun {x y} h => by
    cases x; cases y; simp only [ByteArray.mk.injEq]; exact Array.toList_inj.mp h
  apply h
  rw [ByteArray.data_append, Array.toList_append]
  rfl
theorem vStr_add {a b : List UInt8} (h : a.length + b.length ≤ 9223372036854775807) : vStr .add (vS a) (vS b) = some (vS (a ++ b)) := by
  simp only [vStr, tS_size, tS_append]
  rw [if_pos]
  have e : IntKind.i64.max = 9223372036854775807 := by decide
  rw [e]; omega
theorem vStr_neq (a b : List UInt8) : vStr .neq (vS a) (vS b) = some (.bool (decide (a ≠ b))) := by
  simp only [vStr, tS_toList]
  congr 2
  by_cases h : a = b
  · simp [h]
  · simp [h]
theorem vStr_neq_same (a : List UInt8) : vStr .neq (vS a) (vS a) = some (.bool false) := by rw [vStr_neq]; simp
theorem vLenS_t (a : List UInt8) : vLenS (vS a) = some (.int .i64 a.length) := rfl
theorem vIndexS_t {a : List UInt8} {k : IntKind} {i : Int} (h0 : 0 ≤ i) (h1 : i < a.length) : vIndexS (vS a) (.int k i) = some (.int .u8 ((at_ 0 a i).toNat : Int)) := by
  have hi : i.toNat < a.length := by omega
  have e : (tS a)[i.toNat]? = some a[i.toNat] := by
    show (if h : i.toNat < (tS a).size then some ((tS a)[i.toNat]) else none) = _
    rw [dif_pos (show i.toNat < (tS a).size from hi)]
    rfl
  simp only [vIndexS]
  rw [if_pos h0, e]
  simp only [Option.map_some, at_, List.getD_eq_getElem?_getD, List.getElem?_eq_getElem hi, Option.getD_some]
theorem tS_extract (a : List UInt8) (l h : Nat) : (tS a).extract l h = tS ((a.drop l).take (h - l)) := by
  have hh : ∀ {x y : ByteArray}, x.data.toList = y.data.toList → x = y := fun {x y} h => by
    cases x; cases y; simp only [ByteArray.mk.injEq]; exact Array.toList_inj.mp h
  apply hh
  rw [ByteArray.data_extract, Array.toList_extract, List.extract_eq_take_drop]
  rfl
theorem vSlS_t {a : List UInt8} {k k' : IntKind} {l h : Int} (l0 : 0 ≤ l) (lh : l ≤ h) (h1 : h ≤ a.length) : vSlS (vS a) (some (.int k l)) (some (.int k' h)) = some (vS ((a.drop l.toNat).take (h.toNat - l.toNat))) := by
  have e := tS_size a
  simp only [vSlS, bnd, e]
  rw [if_pos ⟨by omega, by omega⟩]
  simp only
  rw [if_pos ⟨by omega, by omega⟩]
  simp only [tS_extract]
theorem vSlS_lo {a : List UInt8} {k : IntKind} {l : Int} (l0 : 0 ≤ l) (h1 : l ≤ a.length) : vSlS (vS a) (some (.int k l)) none = some (vS (a.drop l.toNat)) := by
  have e := tS_size a
  simp only [vSlS, bnd, e]
  rw [if_pos ⟨by omega, by omega⟩]
  simp only [tS_extract]
  rw [List.take_of_length_le (by simp)]
theorem vSlS_hi {a : List UInt8} {k : IntKind} {h : Int} (h0 : 0 ≤ h) (h1 : h ≤ a.length) : vSlS (vS a) none (some (.int k h)) = some (vS (a.take h.toNat)) := by
  have e := tS_size a
  simp only [vSlS, bnd, e]
  rw [if_pos ⟨by omega, by omega⟩]
  simp only [tS_extract, List.drop_zero, Nat.sub_zero]
end Go.Proofs.YtijmoehbgkibnaaDoor.HL
/- Go's library of texts: from the given contracts to what a partial heap knows. -/
namespace Go.Proofs.YtijmoehbgkibnaaDoor
open HL
open Go.RowKit (Below)
set_option maxRecDepth 100000
namespace HL
theorem HT_below {P : Program} {f : FuncId} {args : Array Value} {H : Hp} {K : Value → Hp → Prop} (h : ∀ w, Sub H w → Calls P f args w (fun e w' => ∃ v, e = .returned v ∧ Below w.heap.size w w' ∧ K v H)) : HT P f args H K := by
  intro w hw
  refine (h w hw).mono fun e w' ⟨v, he, hb, hk⟩ => ?_
  have hlt : ∀ b o, H b = some o → b < w.heap.size := fun b o ho => by
    have := hw b o ho
    rcases Nat.lt_or_ge b w.heap.size with h | h
    · exact h
    · rw [Array.getElem?_eq_none h] at this; exact absurd this (by simp)
  exact ⟨v, H, he, fun b o ho => (hb.block b (hlt b o ho)).trans (hw b o ho), ⟨hb.size, fun b h1 h2 => ⟨h2, hb.block b h1⟩, hb.os, hb.tape, hb.output⟩, hk⟩
theorem below_drewT (w : World) (n : Nat) : Below w.heap.size w (w.drewN n) := ⟨rfl, rfl, rfl, Nat.le_refl _, fun _ _ => rfl⟩
theorem below_bytes (w : World) (e : TypeId) (s : ByteArray) : Below w.heap.size w (Go.Lib.bytesWorld w e s) := by
  have h1 : Below w.heap.size w (w.drew.alloc (.cells (Go.Lib.bytesCells w e s) e)) := Below.alloc (B := w.heap.size) (a := w) (w := w.drew) ⟨rfl, rfl, rfl, Nat.le_refl _, fun _ _ => rfl⟩ (Nat.le_refl _) _
  unfold Go.Lib.bytesWorld
  by_cases hn : (Go.Lib.bytesCells w e s).size = 0
  all_goals
    refine ⟨h1.os, h1.tape, h1.output, ?_, fun k hk => ?_⟩
    · unfold World.freeze; split
      · exact h1.size
      · simp only [Array.size_modify]; exact h1.size
    · unfold World.freeze
      split
      · exact h1.block k hk
      · simp only [Array.getElem?_modify]
        rw [if_neg (by omega)]
        exact h1.block k hk
theorem below_grow (w : World) (k : Nat) (os : Array Obj) : Below w.heap.size w (Go.Sort.grow (w.drewN k) os) := by
  refine ⟨rfl, rfl, rfl, ?_, fun b hb => ?_⟩
  · simp [Go.Sort.grow]
  · simp only [Go.Sort.grow]
    rw [Array.getElem?_append_left (by exact hb)]; rfl
end HL
/-- The library's variables stand. -/
def VR (H : Hp) : Prop := ∀ w : World, Sub H w → (∃ m, w.cell? ⟨gMax, 0, none⟩ = some (.int .i64 m)) ∧ (∃ t p, w.cell? ⟨gSyn, 0, none⟩ = some (.iface t p)) ∧ (∃ t p, w.cell? ⟨gRan, 0, none⟩ = some (.iface t p)) ∧ Go.Lib.TabIs prg w "internal/strconv.uint64pow10" .u64 Go.Lib.pow10Tab
theorem VR.le {H H' : Hp} (h : VR H) (l : Le H H') : VR H' := fun w hw => h w (fun b o hb => hw b o (l b o hb))
section
variable {H : Hp} {K : Value → Hp → Prop} {s : List UInt8} {c : UInt8}
theorem C.strings_Cut (hs : s.length ≤ 1000000000) (hv : VR H) (hk : K (.tuple #[vS (Go.Lib.cut s [c]).1, vS (Go.Lib.cut s [c]).2.1, .bool (Go.Lib.cut s [c]).2.2]) H) : HT prg I.strings_Cut [vS s, vS [c]].toArray H K :=
  HT_below fun w hw => by
    obtain ⟨m, hm⟩ := (hv w hw).1
    refine (cut_calls (tS s) (tS [c]) m w (by rw [tS_size]; omega) hm).mono fun e w' ⟨he, n, hn⟩ => ?_
    exact ⟨_, he, hn ▸ below_drewT w n, hk⟩
theorem C.strings_CutSuffix (hs : s.length ≤ 1000000000) (hk : K (.tuple #[vS (Go.Lib.trimSuffix s [c]), .bool (Go.Lib.hasSuffix s [c])]) H) : HT prg I.strings_CutSuffix [vS s, vS [c]].toArray H K :=
  HT_below fun w hw => (suffix_calls (tS s) (tS [c]) w (by rw [tS_size]; omega)).mono fun e w' ⟨he, hn⟩ => ⟨_, he, hn ▸ Below.refl _ _, hk⟩
theorem C.strings_IndexAny {t : List UInt8} (hs : s.length ≤ 1000000000) (ht : t.length ≤ 1000) (ha : ∀ b ∈ s, b.toNat < 128) (hb : ∀ b ∈ t, b.toNat < 128) (hk : K (.int .i64 (Go.Lib.indexAny s t)) H) : HT prg I.strings_IndexAny [vS s, vS t].toArray H K :=
  HT_below fun w hw => (indexAny_calls (tS s) (tS t) w (by rw [tS_size]; omega) (by rw [tS_size]; omega) (fun j b h => ha b (List.mem_of_getElem? h)) (fun j b h => hb b (List.mem_of_getElem? h))).mono fun e w' ⟨he, hn⟩ => ⟨_, he, hn, hk⟩
/-- The pieces of a text. -/
def spT (s : List UInt8) (c : UInt8) : List (List UInt8) := Go.Lib.split s [c]
theorem C.strings_Split (hs : s.length ≤ 1000000000) (hv : VR H) (hk : ∀ u H', Own vS H' u (spT s c) → Nw H u → Le H H' → K u H') : HT prg I.strings_Split [vS s, vS [c]].toArray H K := by
  intro w hw
  obtain ⟨m, hm⟩ := (hv w hw).1
  refine (split_calls (tS s) (tS [c]) m w (by rw [tS_size]; omega) hm (Nat.le_refl _)).mono fun e w' ⟨he, hn⟩ => ?_
  have hd : (Go.Lib.splitB (tS [c]) 0 (Go.Lib.countB (tS s) (tS [c])) (tS s)).map (·.data.toList) = spT s c := by
    rw [Go.Lib.splitB_data]; rfl
  have hl : (Go.Lib.splitB (tS [c]) 0 (Go.Lib.countB (tS s) (tS [c])) (tS s)).length = Go.Lib.countB (tS s) (tS [c]) + 1 := Go.Lib.splitB_all _ (Nat.le_refl _) 0 _ _ rfl
  have hl2 : (spT s c).length = Go.Lib.countB (tS s) (tS [c]) + 1 := by rw [← hd, List.length_map, hl]
  have hcells : (Go.Lib.splitB (tS [c]) 0 (Go.Lib.countB (tS s) (tS [c])) (tS s)).map Value.string = (spT s c).map vS := by
    rw [← hd, List.map_map]
    refine List.map_congr_left (fun b _ => ?_)
    show Value.string b = Value.string (tS b.data.toList)
    rw [← tS_of]
  have hfree : H w.heap.size = none := by
    cases ho : H w.heap.size with
    | none => rfl
    | some o => have := hw _ _ ho; rw [Array.getElem?_eq_none (Nat.le_refl _)] at this; exact absurd this (by simp)
  have hlt : ∀ b o, H b = some o → b < w.heap.size := fun b o ho => by
    have := hw b o ho
    rcases Nat.lt_or_ge b w.heap.size with h | h
    · exact h
    · rw [Array.getElem?_eq_none h] at this; exact absurd this (by simp)
  have hbl : Below w.heap.size w w' := hn ▸ Below.alloc (Below.refl _ w) (Nat.le_refl _) _
  refine ⟨_, H.put w.heap.size (.cells (((spT s c).map vS).toArray) tTxt (0, 0)), he, fun b o ho => ?_, ⟨hbl.size, fun b h1 h2 => ⟨?_, hbl.block b h1⟩, hbl.os, hbl.tape, hbl.output⟩, hk _ _ ⟨_, _, by rw [hl2], by omega, fun _ => ⟨w.heap.size, 0, _, _, rfl, Hp.put_same _ _ _, by simp [hl2], fun i hi => by simp [hi]⟩⟩ ?_ (Le.put _ hfree)⟩
  · by_cases hb : b = w.heap.size
    · subst hb
      rw [Hp.put_same] at ho
      rw [hn, ← ho, hcells]
      unfold World.alloc
      simp
    · rw [Hp.put_ne _ _ hb] at ho
      exact (hbl.block b (hlt b o ho)).trans (hw b o ho)
  · rw [Hp.put_ne _ _ (by omega)]; exact h2
  · intro b hb
    simp only [bk] at hb
    split at hb
    · simp at hb
    · simp only [Option.some.injEq] at hb; subst hb; exact hfree
end
end Go.Proofs.YtijmoehbgkibnaaDoor
/- Functions' texts over a partial heap. -/
namespace Go.Proofs.YtijmoehbgkibnaaDoor
open HL
set_option linter.unusedVariables false
set_option maxRecDepth 100000
set_option maxHeartbeats 4000000
/-! loop.example/g01381/spec.l05Digits: function 9 -/
def F.spec_l05Digits (a0 a1 : Value) (H : Hp) (K : Value → Hp → Prop) : Prop :=
  jn (fun σ1 H1 =>
    ob (vInt .eql (σ1 7) (σ1 1)) fun v43x2 =>
    cnd v43x2
      (K (.tuple #[(.int .i64 (-1)), (σ1 1)]) H1)
      (K (.tuple #[(σ1 6), (σ1 7)]) H1)) fun J1 =>
  lpE (fun Q3 σ3 H3 =>
    ob (vLenS (σ3 0)) fun v11x4 =>
    ob (vInt .lss (σ3 7) v11x4) fun v12x5 =>
    gop v12x5 true (fun K6 => K6 (σ3 7) H3) H3 fun v14x7 H8 =>
    gop v12x5 true (fun K9 => K9 (σ3 1) H8) H8 fun v15x10 H11 =>
    gop v12x5 true (fun K12 => ob (vInt .add v15x10 (.int .i64 2)) fun u => K12 u H11) H11 fun v16x13 H14 =>
    gop v12x5 true (fun K15 => ob (vInt .lss v14x7 v16x13) fun u => K15 u H14) H14 fun v17x16 H17 =>
    ob (vPick v12x5 v17x16 (.bool false)) fun v18x18 =>
    gop v18x18 true (fun K19 => K19 (σ3 0) H17) H17 fun v20x20 H21 =>
    gop v18x18 true (fun K22 => K22 (σ3 7) H21) H21 fun v21x23 H24 =>
    gop v18x18 true (fun K25 => ob (vIndexS v20x20 v21x23) fun u => K25 u H24) H24 fun v22x26 H27 =>
    gop v18x18 true (fun K28 => ob (vInt .geq v22x26 (.int .u8 48)) fun u => K28 u H27) H27 fun v23x29 H30 =>
    ob (vPick v18x18 v23x29 (.bool false)) fun v24x31 =>
    gop v24x31 true (fun K32 => K32 (σ3 0) H30) H30 fun v26x33 H34 =>
    gop v24x31 true (fun K35 => K35 (σ3 7) H34) H34 fun v27x36 H37 =>
    gop v24x31 true (fun K38 => ob (vIndexS v26x33 v27x36) fun u => K38 u H37) H37 fun v28x39 H40 =>
    gop v24x31 true (fun K41 => ob (vInt .leq v28x39 (.int .u8 57)) fun u => K41 u H40) H40 fun v29x42 H43 =>
    ob (vPick v24x31 v29x42 (.bool false)) fun v30x44 =>
    cnd v30x44
      (ob (vInt .mul (.int .i64 10) (σ3 6)) fun v32x45 =>
    ob (vIndexS (σ3 0) (σ3 7)) fun v35x46 =>
    ob (vInt .sub v35x46 (.int .u8 48)) fun v36x47 =>
    ob (vCI .i64 v36x47) fun v37x48 =>
    ob (vInt .add v32x45 v37x48) fun v38x49 =>
    ob (vInt .add (σ3 7) (.int .i64 1)) fun v40x50 =>
    Q3 .normal (up (up (up (up (up (up (up (up (up (up (up (up (up (up (up (up (up (up (up (up (up (up (up (up (up (up (up (up (up (up (up (up (up (up σ3 9 (σ3 7)) 10 (σ3 0)) 11 v11x4) 12 v12x5) 13 v12x5) 14 v14x7) 15 v15x10) 16 v16x13) 17 v17x16) 18 v18x18) 19 v18x18) 20 v20x20) 21 v21x23) 22 v22x26) 23 v23x29) 24 v24x31) 25 v24x31) 26 v26x33) 27 v27x36) 28 v28x39) 29 v29x42) 30 v30x44) 31 (σ3 6)) 32 v32x45) 33 (σ3 0)) 34 (σ3 7)) 35 v35x46) 36 v36x47) 37 v37x48) 38 v38x49) 6 v38x49) 39 (σ3 7)) 40 v40x50) 7 v40x50) H43)
      (Q3 (.exit 0) (up (up (up (up (up (up (up (up (up (up (up (up (up (up (up (up (up (up (up (up (up (up σ3 9 (σ3 7)) 10 (σ3 0)) 11 v11x4) 12 v12x5) 13 v12x5) 14 v14x7) 15 v15x10) 16 v16x13) 17 v17x16) 18 v18x18) 19 v18x18) 20 v20x20) 21 v21x23) 22 v22x26) 23 v23x29) 24 v24x31) 25 v24x31) 26 v26x33) 27 v27x36) 28 v28x39) 29 v29x42) 30 v30x44) H43)) (blkQ 0 (thenQ J1 (retQ prg [(.tmp 4), (.tmp 5)] K))) (up (up (up (up (up (S0 [a0, a1]) 4 (.int .i64 0)) 5 (.int .i64 0)) 6 (.int .i64 0)) 8 a1) 7 a1) H
def O.spec_l05Digits : Nat → Nat × List Nat := fun i => (0, [])
theorem R.spec_l05Digits {a0 a1 : Value} {H : Hp} {K : Value → Hp → Prop} (h : F.spec_l05Digits a0 a1 H K) : HT prg I.spec_l05Digits [a0, a1].toArray H K :=
  HT_of_fev O.spec_l05Digits mixed Tryd.func9 (by kernel_rfl) (Eq.mpr (by kernel_rfl : fev prg O.spec_l05Digits Tryd.f9 [a0, a1] H K = F.spec_l05Digits a0 a1 H K) h)

/-! loop.example/g01381/spec.l00In: function 10 -/
def F.spec_l00In (a0 a1 a2 : Value) (H : Hp) (K : Value → Hp → Prop) : Prop :=
  ob (vInt .geq a0 a1) fun v9x1 =>
  gop v9x1 true (fun K2 => K2 a0 H) H fun v11x3 H4 =>
  gop v9x1 true (fun K5 => K5 a2 H4) H4 fun v12x6 H7 =>
  gop v9x1 true (fun K8 => ob (vInt .leq v11x3 v12x6) fun u => K8 u H7) H7 fun v13x9 H10 =>
  ob (vPick v9x1 v13x9 (.bool false)) fun v14x11 =>
  K v14x11 H10
def O.spec_l00In : Nat → Nat × List Nat := fun i => (0, [])
theorem R.spec_l00In {a0 a1 a2 : Value} {H : Hp} {K : Value → Hp → Prop} (h : F.spec_l00In a0 a1 a2 H K) : HT prg I.spec_l00In [a0, a1, a2].toArray H K :=
  HT_of_fev O.spec_l00In mixed Tryd.func10 (by kernel_rfl) (Eq.mpr (by kernel_rfl : fev prg O.spec_l00In Tryd.f10 [a0, a1, a2] H K = F.spec_l00In a0 a1 a2 H K) h)

/-! loop.example/g01381/spec.l04New: function 11 -/
def F.spec_l04New (a0 a1 : Value) (H : Hp) (K : Value → Hp → Prop) : Prop :=
  nw #[(.int .i64 0), (.int .i64 0), (.slice none 0 0)] 24 H fun v4x1 H2 =>
  ob (vInt .mul a0 a1) fun v9x3 =>
  mkS 1 8 #[(.int .i64 0)] 2 v9x3 v9x3 H2 fun v10x4 H5 =>
  ob (vBuild [(0, 1), (1, 1), (2, 1)] (.agg #[(.int .i64 0), (.int .i64 0), (.slice none 0 0)]) [(0, a0), (1, a1), (2, v10x4)]) fun v11x6 =>
  st 3 v4x1 v11x6 H5 fun H7 =>
  ob (vLoadN 3 v4x1 H7) fun u8 => K u8 H7
def O.spec_l04New : Nat → Nat × List Nat := fun i => (0, [])
theorem R.spec_l04New {a0 a1 : Value} {H : Hp} {K : Value → Hp → Prop} (h : F.spec_l04New a0 a1 H K) : HT prg I.spec_l04New [a0, a1].toArray H K :=
  HT_of_fev O.spec_l04New mixed Tryd.func11 (by kernel_rfl) (Eq.mpr (by kernel_rfl : fev prg O.spec_l04New Tryd.f11 [a0, a1] H K = F.spec_l04New a0 a1 H K) h)

/-! loop.example/g01381/spec.l05Number: function 24 -/
def F.spec_l05Number (a0 : Value) (H : Hp) (K : Value → Hp → Prop) : Prop :=
  ob (vInt .lss a0 (.int .i64 10)) fun v4x1 =>
  cnd v4x1
    (ob (vInt .add (.int .i64 48) a0) fun v6x2 =>
    ob (vCI .u8 v6x2) fun v7x3 =>
    bS 1 1 #[(.int .u8 0)] 5 [(0, v7x3)] H fun v8x4 H5 =>
    ob (val prg (convert 65 9 v8x4) H5) fun v9x6 =>
    K v9x6 H5)
    ((ob (vInt .quo a0 (.int .i64 10)) fun v11x7 =>
  ob (vInt .rem a0 (.int .i64 10)) fun v14x8 =>
  ob (vInt .add (.int .i64 48) v14x8) fun v15x9 =>
  ob (vCI .u8 v15x9) fun v16x10 =>
  HT prg I.spec_l05Number [v11x7].toArray H fun v12x11 H12 =>
  Le H H12 ∧ (bS 1 1 #[(.int .u8 0)] 5 [(0, v16x10)] H12 fun v17x13 H14 =>
  ob (val prg (convert 65 9 v17x13) H14) fun v18x15 =>
  ob (vStr .add v12x11 v18x15) fun v19x16 =>
  K v19x16 H14)) ∧ (ob (vInt .quo a0 (.int .i64 10)) fun v11x17 =>
  ob (vInt .rem a0 (.int .i64 10)) fun v14x18 =>
  ob (vInt .add (.int .i64 48) v14x18) fun v15x19 =>
  ob (vCI .u8 v15x19) fun v16x20 =>
  bS 1 1 #[(.int .u8 0)] 5 [(0, v16x20)] H fun v17x21 H22 =>
  ob (val prg (convert 65 9 v17x21) H22) fun v18x23 =>
  HT prg I.spec_l05Number [v11x17].toArray H22 fun v12x24 H25 =>
  Le H22 H25 ∧ (ob (vStr .add v12x24 v18x23) fun v19x26 =>
  K v19x26 H25)))
def O.spec_l05Number : Nat → Nat × List Nat := fun i => bif Nat.beq i 3 then (0, [1002, 1008, 0, 1, 3, 4, 5, 6, 2, 7, 8, 9, 10, 0, 1, 3, 4, 5, 6, 7, 8, 2, 9, 10]) else (0, [])
theorem R.spec_l05Number {a0 : Value} {H : Hp} {K : Value → Hp → Prop} (h : F.spec_l05Number a0 H K) : HT prg I.spec_l05Number [a0].toArray H K :=
  HT_of_fev O.spec_l05Number mixed Tryd.func24 (by kernel_rfl) (Eq.mpr (by kernel_rfl : fev prg O.spec_l05Number Tryd.f24 [a0] H K = F.spec_l05Number a0 H K) h)

/-! loop.example/g01381/spec.l05Write: function 12 -/
def F.spec_l05Write (a0 : Value) (H : Hp) (K : Value → Hp → Prop) : Prop :=
  ob (vNilC a0) fun v10x1 =>
  ob (vFa 1 v10x1) fun v11x2 =>
  ob (vLoad v11x2 H) fun v12x3 =>
  ob (vNilC a0) fun v16x4 =>
  ob (vFa 0 v16x4) fun v17x5 =>
  ob (vLoad v17x5 H) fun v18x6 =>
  HT prg I.spec_l05Number [v12x3].toArray H fun v13x7 H8 =>
  Le H H8 ∧ (ob (vStr .add v13x7 (.string ⟨#[44]⟩)) fun v14x9 =>
  HT prg I.spec_l05Number [v18x6].toArray H8 fun v19x10 H11 =>
  Le H8 H11 ∧ (ob (vStr .add v14x9 v19x10) fun v20x12 =>
  ob (vStr .add v20x12 (.string ⟨#[58]⟩)) fun v21x13 =>
  jn (fun σ14 H14 =>
    ob (vStr .add (σ14 3) (.string ⟨#[33]⟩)) fun v108x15 =>
    K v108x15 H14) fun J14 =>
  lpE (fun Q16 σ16 H16 =>
    ob (vNilC (σ16 0)) fun v24x17 =>
    ob (vFa 0 v24x17) fun v25x18 =>
    ob (vLoad v25x18 H16) fun v26x19 =>
    ob (vInt .lss (σ16 4) v26x19) fun v27x20 =>
    cnd v27x20
      (jn (fun σ21 H21 =>
      ob (vInt .add (σ21 4) (.int .i64 1)) fun v29x22 =>
      Q16 .normal (up (up (up σ21 28 (σ21 4)) 29 v29x22) 4 v29x22) H21) fun J21 =>
    jn (fun σ23 H23 =>
      ob (vNilC (σ23 0)) fun v35x24 =>
      ob (vFa 2 v35x24) fun v36x25 =>
      ob (vLoad v36x25 H23) fun v37x26 =>
      ob (vNilC (σ23 0)) fun v40x27 =>
      ob (vFa 1 v40x27) fun v41x28 =>
      ob (vLoad v41x28 H23) fun v42x29 =>
      ob (vInt .mul (σ23 4) v42x29) fun v43x30 =>
      ob (vInt .add (σ23 4) (.int .i64 1)) fun v45x31 =>
      ob (vNilC (σ23 0)) fun v47x32 =>
      ob (vFa 1 v47x32) fun v48x33 =>
      ob (vLoad v48x33 H23) fun v49x34 =>
      ob (vInt .mul v45x31 v49x34) fun v50x35 =>
      ob (vSl3 1 v37x26 (some v43x30) (some v50x35) none) fun v51x36 =>
      ob (vLenSl v51x36) fun v53x37 =>
      jn (fun σ38 H38 =>
        lpE (fun Q39 σ39 H39 =>
          ob (vInt .lss (σ39 7) (σ39 6)) fun v68x40 =>
          cnd v68x40
            (jn (fun σ41 H41 =>
            ob (vInt .gtr (σ41 8) (.int .i64 1)) fun v90x42 =>
            cnd v90x42
              (HT prg I.spec_l05Number [(σ41 8)].toArray H41 fun v93x43 H44 =>
              ob (vStr .add (σ41 3) v93x43) fun v94x45 =>
              ob (vIx 1 (σ41 5) (σ41 7)) fun v97x46 =>
            ob (vLoad v97x46 H44) fun v98x47 =>
            ob (vInt .eql v98x47 (.int .i64 1)) fun v99x48 =>
            cnd v99x48
              (ob (vStr .add v94x45 (.string ⟨#[111]⟩)) fun v101x49 =>
              ob (vInt .add (σ41 7) (σ41 8)) fun v106x50 =>
            Q39 .normal (up (up (up (up (up (up (up (up (up (up (up (up (up (up (up (up (up (up (up σ41 89 (σ41 8)) 90 v90x42) 91 (σ41 3)) 92 (σ41 8)) 93 v93x43) 94 v94x45) 3 v94x45) 95 (σ41 5)) 96 (σ41 7)) 97 v97x46) 98 v98x47) 99 v99x48) 100 v94x45) 101 v101x49) 3 v101x49) 104 (σ41 7)) 105 (σ41 8)) 106 v106x50) 7 v106x50) H44)
              (ob (vStr .add v94x45 (.string ⟨#[98]⟩)) fun v103x51 =>
              ob (vInt .add (σ41 7) (σ41 8)) fun v106x52 =>
            Q39 .normal (up (up (up (up (up (up (up (up (up (up (up (up (up (up (up (up (up (up (up σ41 89 (σ41 8)) 90 v90x42) 91 (σ41 3)) 92 (σ41 8)) 93 v93x43) 94 v94x45) 3 v94x45) 95 (σ41 5)) 96 (σ41 7)) 97 v97x46) 98 v98x47) 99 v99x48) 102 v94x45) 103 v103x51) 3 v103x51) 104 (σ41 7)) 105 (σ41 8)) 106 v106x52) 7 v106x52) H44))
              (ob (vIx 1 (σ41 5) (σ41 7)) fun v97x53 =>
            ob (vLoad v97x53 H41) fun v98x54 =>
            ob (vInt .eql v98x54 (.int .i64 1)) fun v99x55 =>
            cnd v99x55
              (ob (vStr .add (σ41 3) (.string ⟨#[111]⟩)) fun v101x56 =>
              ob (vInt .add (σ41 7) (σ41 8)) fun v106x57 =>
            Q39 .normal (up (up (up (up (up (up (up (up (up (up (up (up (up (up σ41 89 (σ41 8)) 90 v90x42) 95 (σ41 5)) 96 (σ41 7)) 97 v97x53) 98 v98x54) 99 v99x55) 100 (σ41 3)) 101 v101x56) 3 v101x56) 104 (σ41 7)) 105 (σ41 8)) 106 v106x57) 7 v106x57) H41)
              (ob (vStr .add (σ41 3) (.string ⟨#[98]⟩)) fun v103x58 =>
              ob (vInt .add (σ41 7) (σ41 8)) fun v106x59 =>
            Q39 .normal (up (up (up (up (up (up (up (up (up (up (up (up (up (up σ41 89 (σ41 8)) 90 v90x42) 95 (σ41 5)) 96 (σ41 7)) 97 v97x53) 98 v98x54) 99 v99x55) 102 (σ41 3)) 103 v103x58) 3 v103x58) 104 (σ41 7)) 105 (σ41 8)) 106 v106x59) 7 v106x59) H41))) fun J41 =>
          lpE (fun Q60 σ60 H60 =>
            ob (vInt .add (σ60 7) (σ60 8)) fun v71x61 =>
            ob (vInt .lss v71x61 (σ60 6)) fun v73x62 =>
            gop v73x62 true (fun K63 => K63 (σ60 5) H60) H60 fun v75x64 H65 =>
            gop v73x62 true (fun K66 => K66 (σ60 7) H65) H65 fun v76x67 H68 =>
            gop v73x62 true (fun K69 => K69 (σ60 8) H68) H68 fun v77x70 H71 =>
            gop v73x62 true (fun K72 => ob (vInt .add v76x67 v77x70) fun u => K72 u H71) H71 fun v78x73 H74 =>
            gop v73x62 true (fun K75 => ob (vIx 1 v75x64 v78x73) fun u => K75 u H74) H74 fun v79x76 H77 =>
            gop v73x62 true (fun K78 => ob (vLoad v79x76 H77) fun u => K78 u H77) H77 fun v80x79 H80 =>
            gop v73x62 true (fun K81 => K81 (σ60 5) H80) H80 fun v81x82 H83 =>
            gop v73x62 true (fun K84 => K84 (σ60 7) H83) H83 fun v82x85 H86 =>
            gop v73x62 true (fun K87 => ob (vIx 1 v81x82 v82x85) fun u => K87 u H86) H86 fun v83x88 H89 =>
            gop v73x62 true (fun K90 => ob (vLoad v83x88 H89) fun u => K90 u H89) H89 fun v84x91 H92 =>
            gop v73x62 true (fun K93 => ob (vInt .eql v80x79 v84x91) fun u => K93 u H92) H92 fun v85x94 H95 =>
            ob (vPick v73x62 v85x94 (.bool false)) fun v86x96 =>
            cnd v86x96
              (ob (vInt .add (σ60 8) (.int .i64 1)) fun v88x97 =>
            Q60 .normal (up (up (up (up (up (up (up (up (up (up (up (up (up (up (up (up (up (up (up (up (up σ60 69 (σ60 7)) 70 (σ60 8)) 71 v71x61) 72 (σ60 6)) 73 v73x62) 74 v73x62) 75 v75x64) 76 v76x67) 77 v77x70) 78 v78x73) 79 v79x76) 80 v80x79) 81 v81x82) 82 v82x85) 83 v83x88) 84 v84x91) 85 v85x94) 86 v86x96) 87 (σ60 8)) 88 v88x97) 8 v88x97) H95)
              (Q60 (.exit 6) (up (up (up (up (up (up (up (up (up (up (up (up (up (up (up (up (up (up σ60 69 (σ60 7)) 70 (σ60 8)) 71 v71x61) 72 (σ60 6)) 73 v73x62) 74 v73x62) 75 v75x64) 76 v76x67) 77 v77x70) 78 v78x73) 79 v79x76) 80 v80x79) 81 v81x82) 82 v82x85) 83 v83x88) 84 v84x91) 85 v85x94) 86 v86x96) H95)) (blkQ 6 (thenQ J41 (blkQ 5 Q39))) (up (up (up (up σ39 66 (σ39 7)) 67 (σ39 6)) 68 v68x40) 8 (.int .i64 1)) H39)
            (Q39 (.exit 4) (up (up (up σ39 66 (σ39 7)) 67 (σ39 6)) 68 v68x40) H39)) (blkQ 4 (blkQ 1 (thenQ J21 Q16))) (up σ38 7 (.int .i64 0)) H38) fun J38 =>
      lpE (fun Q98 σ98 H98 =>
        ob (vInt .gtr (σ98 6) (.int .i64 0)) fun v55x99 =>
        gop v55x99 true (fun K100 => K100 (σ98 5) H98) H98 fun v57x101 H102 =>
        gop v55x99 true (fun K103 => K103 (σ98 6) H102) H102 fun v58x104 H105 =>
        gop v55x99 true (fun K106 => ob (vInt .sub v58x104 (.int .i64 1)) fun u => K106 u H105) H105 fun v59x107 H108 =>
        gop v55x99 true (fun K109 => ob (vIx 1 v57x101 v59x107) fun u => K109 u H108) H108 fun v60x110 H111 =>
        gop v55x99 true (fun K112 => ob (vLoad v60x110 H111) fun u => K112 u H111) H111 fun v61x113 H114 =>
        gop v55x99 true (fun K115 => ob (vInt .eql v61x113 (.int .i64 0)) fun u => K115 u H114) H114 fun v62x116 H117 =>
        ob (vPick v55x99 v62x116 (.bool false)) fun v63x118 =>
        cnd v63x118
          (ob (vInt .sub (σ98 6) (.int .i64 1)) fun v65x119 =>
        Q98 .normal (up (up (up (up (up (up (up (up (up (up (up (up (up σ98 54 (σ98 6)) 55 v55x99) 56 v55x99) 57 v57x101) 58 v58x104) 59 v59x107) 60 v60x110) 61 v61x113) 62 v62x116) 63 v63x118) 64 (σ98 6)) 65 v65x119) 6 v65x119) H117)
          (Q98 (.exit 2) (up (up (up (up (up (up (up (up (up (up σ98 54 (σ98 6)) 55 v55x99) 56 v55x99) 57 v57x101) 58 v58x104) 59 v59x107) 60 v60x110) 61 v61x113) 62 v62x116) 63 v63x118) H117)) (blkQ 2 (thenQ J38 (blkQ 1 (thenQ J21 Q16)))) (up (up (up (up (up (up (up (up (up (up (up (up (up (up (up (up (up (up (up (up (up (up σ23 34 (σ23 0)) 35 v35x24) 36 v36x25) 37 v37x26) 38 (σ23 4)) 39 (σ23 0)) 40 v40x27) 41 v41x28) 42 v42x29) 43 v43x30) 44 (σ23 4)) 45 v45x31) 46 (σ23 0)) 47 v47x32) 48 v48x33) 49 v49x34) 50 v50x35) 51 v51x36) 5 v51x36) 52 v51x36) 53 v53x37) 6 v53x37) H23) fun J23 =>
    ob (vInt .gtr (σ16 4) (.int .i64 0)) fun v31x120 =>
    cnd v31x120
      (ob (vStr .add (σ16 3) (.string ⟨#[36]⟩)) fun v33x121 =>
      J23 (up (up (up (up (up (up (up (up (up (up (up σ16 22 (σ16 4)) 23 (σ16 0)) 24 v24x17) 25 v25x18) 26 v26x19) 27 v27x20) 30 (σ16 4)) 31 v31x120) 32 (σ16 3)) 33 v33x121) 3 v33x121) H16)
      (J23 (up (up (up (up (up (up (up (up σ16 22 (σ16 4)) 23 (σ16 0)) 24 v24x17) 25 v25x18) 26 v26x19) 27 v27x20) 30 (σ16 4)) 31 v31x120) H16))
      (Q16 (.exit 0) (up (up (up (up (up (up σ16 22 (σ16 4)) 23 (σ16 0)) 24 v24x17) 25 v25x18) 26 v26x19) 27 v27x20) H16)) (blkQ 0 (thenQ J14 (retQ prg [(.tmp 2)] K))) (up (up (up (up (up (up (up (up (up (up (up (up (up (up (up (up (S0 [a0]) 2 (.string ⟨#[]⟩)) 9 a0) 10 v10x1) 11 v11x2) 12 v12x3) 15 a0) 16 v16x4) 17 v17x5) 18 v18x6) 13 v13x7) 14 v14x9) 19 v19x10) 20 v20x12) 21 v21x13) 3 v21x13) 4 (.int .i64 0)) H11))
def O.spec_l05Write : Nat → Nat × List Nat := fun i => bif Nat.beq i 1 then (0, [0, 1, 2, 3, 6, 7, 8, 9, 4, 5, 10, 11, 12, 13]) else bif Nat.beq i 7 then (0, [0, 1, 2, 3, 4, 5, 6, 7, 8, 9, 10, 11, 12, 13, 14, 15, 16, 17, 18]) else bif Nat.beq i 14 then (0, [0, 1, 2, 3, 4, 5, 6, 7, 8, 9, 10, 11, 12, 13, 14, 15, 16, 17]) else (0, [])
theorem R.spec_l05Write {a0 : Value} {H : Hp} {K : Value → Hp → Prop} (h : F.spec_l05Write a0 H K) : HT prg I.spec_l05Write [a0].toArray H K :=
  HT_of_fev O.spec_l05Write mixed Tryd.func12 (by kernel_rfl) (Eq.mpr (by kernel_rfl : fev prg O.spec_l05Write Tryd.f12 [a0] H K = F.spec_l05Write a0 H K) h)

/-! loop.example/g01381/spec.ReadRuns: function 4 -/
def F.spec_ReadRuns (a0 : Value) (H : Hp) (K : Value → Hp → Prop) : Prop :=
  nw #[(.int .i64 0), (.int .i64 0), (.slice none 0 0)] 24 H fun v2x1 H2 =>
  ob (vLenS a0) fun v16x3 =>
  ob (vInt .gtr v16x3 (.int .i64 1200)) fun v17x4 =>
  cnd v17x4
    (ob (vBuild [(0, 1), (1, 1), (2, 1)] (.agg #[(.int .i64 0), (.int .i64 0), (.slice none 0 0)]) []) fun v18x5 =>
    st 3 v2x1 v18x5 H2 fun H6 =>
    ob (vLoadN 3 v2x1 H6) fun u7 => K (.tuple #[u7, (.bool false)]) H6)
    (HT prg I.spec_l05Digits [a0, (.int .i64 0)].toArray H2 fun v21x8 H9 =>
  ob (vExt v21x8 0) fun v22x10 =>
  ob (vExt v21x8 1) fun v23x11 =>
  ob (vLenS a0) fun v26x12 =>
  ob (vInt .geq v23x11 v26x12) fun v27x13 =>
  gop v27x13 false (fun K14 => K14 a0 H9) H9 fun v29x15 H16 =>
  gop v27x13 false (fun K17 => K17 v23x11 H16) H16 fun v30x18 H19 =>
  gop v27x13 false (fun K20 => ob (vIndexS v29x15 v30x18) fun u => K20 u H19) H19 fun v31x21 H22 =>
  gop v27x13 false (fun K23 => ob (vInt .neq v31x21 (.int .u8 44)) fun u => K23 u H22) H22 fun v32x24 H25 =>
  ob (vPick v27x13 (.bool true) v32x24) fun v33x26 =>
  cnd v33x26
    (ob (vBuild [(0, 1), (1, 1), (2, 1)] (.agg #[(.int .i64 0), (.int .i64 0), (.slice none 0 0)]) []) fun v34x27 =>
    st 3 v2x1 v34x27 H25 fun H28 =>
    ob (vLoadN 3 v2x1 H28) fun u29 => K (.tuple #[u29, (.bool false)]) H28)
    (ob (vInt .add v23x11 (.int .i64 1)) fun v38x30 =>
  HT prg I.spec_l05Digits [a0, v38x30].toArray H25 fun v39x31 H32 =>
  ob (vExt v39x31 0) fun v40x33 =>
  ob (vExt v39x31 1) fun v41x34 =>
  ob (vLenS a0) fun v44x35 =>
  ob (vInt .geq v41x34 v44x35) fun v45x36 =>
  gop v45x36 false (fun K37 => K37 a0 H32) H32 fun v47x38 H39 =>
  gop v45x36 false (fun K40 => K40 v41x34 H39) H39 fun v48x41 H42 =>
  gop v45x36 false (fun K43 => ob (vIndexS v47x38 v48x41) fun u => K43 u H42) H42 fun v49x44 H45 =>
  gop v45x36 false (fun K46 => ob (vInt .neq v49x44 (.int .u8 58)) fun u => K46 u H45) H45 fun v50x47 H48 =>
  ob (vPick v45x36 (.bool true) v50x47) fun v51x49 =>
  gop v51x49 false (fun K50 => K50 v22x10 H48) H48 fun v53x51 H52 =>
  gop v51x49 false (fun K53 => HT prg I.spec_l00In [v53x51, (.int .i64 1), (.int .i64 24)].toArray H52 K53) H52 fun v54x54 H55 =>
  gop v51x49 false (fun K56 => ob (vUn .not v54x54) fun u => K56 u H55) H55 fun v55x57 H58 =>
  ob (vPick v51x49 (.bool true) v55x57) fun v56x59 =>
  gop v56x59 false (fun K60 => K60 v40x33 H58) H58 fun v58x61 H62 =>
  gop v56x59 false (fun K63 => HT prg I.spec_l00In [v58x61, (.int .i64 1), (.int .i64 24)].toArray H62 K63) H62 fun v59x64 H65 =>
  gop v56x59 false (fun K66 => ob (vUn .not v59x64) fun u => K66 u H65) H65 fun v60x67 H68 =>
  ob (vPick v56x59 (.bool true) v60x67) fun v61x69 =>
  cnd v61x69
    (ob (vBuild [(0, 1), (1, 1), (2, 1)] (.agg #[(.int .i64 0), (.int .i64 0), (.slice none 0 0)]) []) fun v62x70 =>
    st 3 v2x1 v62x70 H68 fun H71 =>
    ob (vLoadN 3 v2x1 H71) fun u72 => K (.tuple #[u72, (.bool false)]) H71)
    (HT prg I.spec_l04New [v40x33, v22x10].toArray H68 fun v65x73 H74 =>
  nw #[(.int .i64 0), (.int .i64 0), (.slice none 0 0)] 24 H74 fun v8x75 H76 =>
  st 3 v8x75 v65x73 H76 fun H77 =>
  jn (fun σ78 H78 =>
    ob (vBuild [(0, 1), (1, 1), (2, 1)] (.agg #[(.int .i64 0), (.int .i64 0), (.slice none 0 0)]) []) fun v143x79 =>
    st 3 (σ78 2) v143x79 H78 fun H80 =>
    ob (vLoadN 3 (σ78 2) H80) fun u81 => K (.tuple #[u81, (.bool false)]) H80) fun J78 =>
  ob (vInt .add v41x34 (.int .i64 1)) fun v67x82 =>
  lpE (fun Q83 σ83 H83 =>
    ob (vLenS (σ83 0)) fun v70x84 =>
    ob (vInt .lss (σ83 5) v70x84) fun v71x85 =>
    cnd v71x85
      (jn (fun σ86 H86 =>
      ob (vInt .add (σ86 5) (.int .i64 1)) fun v73x87 =>
      Q83 .normal (up (up (up σ86 72 (σ86 5)) 73 v73x87) 5 v73x87) H86) fun J86 =>
    jn (fun σ88 H88 =>
      ob (vIndexS (σ88 0) (σ88 5)) fun v99x89 =>
      ob (vInt .eql v99x89 (.int .u8 36)) fun v102x90 =>
      cnd v102x90
        (ob (vInt .add (σ88 9) (.int .i64 1)) fun v104x91 =>
        J86 (up (up (up (up (up (up (up (up (up σ88 97 (σ88 0)) 98 (σ88 5)) 99 v99x89) 102 v102x90) 101 v102x90) 103 (σ88 9)) 104 v104x91) 9 v104x91) 10 (.int .i64 0)) H88)
        (ob (vInt .eql v99x89 (.int .u8 111)) fun v106x92 =>
        cnd v106x92
          (lpE (fun Q93 σ93 H93 =>
            ob (vInt .lss (σ93 14) (σ93 11)) fun v109x94 =>
            cnd v109x94
              (ob (vInt .geq (σ93 9) (σ93 6)) fun v114x95 =>
            gop v114x95 false (fun K96 => K96 (σ93 10) H93) H93 fun v116x97 H98 =>
            gop v114x95 false (fun K99 => K99 (σ93 4) H98) H98 fun v117x100 H101 =>
            gop v114x95 false (fun K102 => ob (vInt .geq v116x97 v117x100) fun u => K102 u H101) H101 fun v118x103 H104 =>
            ob (vPick v114x95 (.bool true) v118x103) fun v119x105 =>
            cnd v119x105
              (ob (vBuild [(0, 1), (1, 1), (2, 1)] (.agg #[(.int .i64 0), (.int .i64 0), (.slice none 0 0)]) []) fun v120x106 =>
              st 3 (σ93 2) v120x106 H104 fun H107 =>
              Q93 .ret (up (up (up (up (up (up (up (up (up (up (up (up (up σ93 107 (σ93 14)) 108 (σ93 11)) 109 v109x94) 112 (σ93 9)) 113 (σ93 6)) 114 v114x95) 115 v114x95) 116 v116x97) 117 v117x100) 118 v118x103) 119 v119x105) 120 v120x106) 3 (.bool false)) H107)
              (ob (vFa 2 (σ93 8)) fun v121x108 =>
            ob (vLoad v121x108 H104) fun v122x109 =>
            ob (vInt .mul (σ93 9) (σ93 4)) fun v125x110 =>
            ob (vInt .add v125x110 (σ93 10)) fun v127x111 =>
            ob (vIx 1 v122x109 v127x111) fun v128x112 =>
            st 1 v128x112 (.int .i64 1) H104 fun H113 =>
            ob (vInt .add (σ93 10) (.int .i64 1)) fun v130x114 =>
            ob (vInt .add (σ93 14) (.int .i64 1)) fun v111x115 =>
            Q93 .normal (up (up (up (up (up (up (up (up (up (up (up (up (up (up (up (up (up (up (up (up (up (up (up (up (up σ93 107 (σ93 14)) 108 (σ93 11)) 109 v109x94) 112 (σ93 9)) 113 (σ93 6)) 114 v114x95) 115 v114x95) 116 v116x97) 117 v117x100) 118 v118x103) 119 v119x105) 121 v121x108) 122 v122x109) 123 (σ93 9)) 124 (σ93 4)) 125 v125x110) 126 (σ93 10)) 127 v127x111) 128 v128x112) 129 (σ93 10)) 130 v130x114) 10 v130x114) 110 (σ93 14)) 111 v111x115) 14 v111x115) H113))
              (Q93 (.exit 3) (up (up (up σ93 107 (σ93 14)) 108 (σ93 11)) 109 v109x94) H93)) (blkQ 3 (blkQ 2 (blkQ 1 (thenQ J86 Q83)))) (up (up (up (up (up (up (up (up σ88 97 (σ88 0)) 98 (σ88 5)) 99 v99x89) 102 v102x90) 101 v102x90) 106 v106x92) 105 v106x92) 14 (.int .i64 0)) H88)
          (ob (vInt .eql v99x89 (.int .u8 98)) fun v132x116 =>
          cnd v132x116
            (ob (vInt .add (σ88 10) (σ88 11)) fun v135x117 =>
            J86 (up (up (up (up (up (up (up (up (up (up (up (up (up σ88 97 (σ88 0)) 98 (σ88 5)) 99 v99x89) 102 v102x90) 101 v102x90) 106 v106x92) 105 v106x92) 132 v132x116) 131 v132x116) 133 (σ88 10)) 134 (σ88 11)) 135 v135x117) 10 v135x117) H88)
            (ob (vInt .eql v99x89 (.int .u8 33)) fun v137x118 =>
            cnd v137x118
              (HT prg I.spec_l05Write [(σ88 8)].toArray H88 fun v138x119 H120 =>
              ob (vStr .neq v138x119 (σ88 0)) fun v140x121 =>
              cnd v140x121
                (ob (vBuild [(0, 1), (1, 1), (2, 1)] (.agg #[(.int .i64 0), (.int .i64 0), (.slice none 0 0)]) []) fun v141x122 =>
                st 3 (σ88 2) v141x122 H120 fun H123 =>
                Q83 .ret (up (up (up (up (up (up (up (up (up (up (up (up (up (up (up (up σ88 97 (σ88 0)) 98 (σ88 5)) 99 v99x89) 102 v102x90) 101 v102x90) 106 v106x92) 105 v106x92) 132 v132x116) 131 v132x116) 137 v137x118) 136 v137x118) 138 v138x119) 139 (σ88 0)) 140 v140x121) 141 v141x122) 3 (.bool false)) H123)
                (ob (vLoadN 3 (σ88 8) H120) fun v142x124 =>
              st 3 (σ88 2) v142x124 H120 fun H125 =>
              Q83 .ret (up (up (up (up (up (up (up (up (up (up (up (up (up (up (up (up σ88 97 (σ88 0)) 98 (σ88 5)) 99 v99x89) 102 v102x90) 101 v102x90) 106 v106x92) 105 v106x92) 132 v132x116) 131 v132x116) 137 v137x118) 136 v137x118) 138 v138x119) 139 (σ88 0)) 140 v140x121) 142 v142x124) 3 (.bool true)) H125))
              (ob (vBuild [(0, 1), (1, 1), (2, 1)] (.agg #[(.int .i64 0), (.int .i64 0), (.slice none 0 0)]) []) fun v100x126 =>
              st 3 (σ88 2) v100x126 H88 fun H127 =>
              Q83 .ret (up (up (up (up (up (up (up (up (up (up (up (up (up σ88 97 (σ88 0)) 98 (σ88 5)) 99 v99x89) 102 v102x90) 101 v102x90) 106 v106x92) 105 v106x92) 132 v132x116) 131 v132x116) 137 v137x118) 136 v137x118) 100 v100x126) 3 (.bool false)) H127))))) fun J88 =>
    ob (vIndexS (σ83 0) (σ83 5)) fun v76x128 =>
    ob (vInt .geq v76x128 (.int .u8 48)) fun v77x129 =>
    gop v77x129 true (fun K130 => K130 (σ83 0) H83) H83 fun v79x131 H132 =>
    gop v77x129 true (fun K133 => K133 (σ83 5) H132) H132 fun v80x134 H135 =>
    gop v77x129 true (fun K136 => ob (vIndexS v79x131 v80x134) fun u => K136 u H135) H135 fun v81x137 H138 =>
    gop v77x129 true (fun K139 => ob (vInt .leq v81x137 (.int .u8 57)) fun u => K139 u H138) H138 fun v82x140 H141 =>
    ob (vPick v77x129 v82x140 (.bool false)) fun v83x142 =>
    cnd v83x142
      (HT prg I.spec_l05Digits [(σ83 0), (σ83 5)].toArray H141 fun v87x143 H144 =>
      ob (vExt v87x143 0) fun v88x145 =>
      ob (vExt v87x143 1) fun v89x146 =>
      ob (vLenS (σ83 0)) fun v94x147 =>
      ob (vInt .geq v89x146 v94x147) fun v95x148 =>
      cnd v95x148
        (ob (vBuild [(0, 1), (1, 1), (2, 1)] (.agg #[(.int .i64 0), (.int .i64 0), (.slice none 0 0)]) []) fun v96x149 =>
        st 3 (σ83 2) v96x149 H144 fun H150 =>
        Q83 .ret (up (up (up (up (up (up (up (up (up (up (up (up (up (up (up (up (up (up (up (up (up (up (up (up (up (up (up (up (up (up (up (up (up σ83 68 (σ83 5)) 69 (σ83 0)) 70 v70x84) 71 v71x85) 11 (.int .i64 1)) 74 (σ83 0)) 75 (σ83 5)) 76 v76x128) 77 v77x129) 78 v77x129) 79 v79x131) 80 v80x134) 81 v81x137) 82 v82x140) 83 v83x142) 85 (σ83 0)) 86 (σ83 5)) 87 v87x143) 84 v87x143) 88 v88x145) 89 v89x146) 12 v88x145) 13 v89x146) 90 v88x145) 11 v88x145) 91 v89x146) 5 v89x146) 92 v89x146) 93 (σ83 0)) 94 v94x147) 95 v95x148) 96 v96x149) 3 (.bool false)) H150)
        (J88 (up (up (up (up (up (up (up (up (up (up (up (up (up (up (up (up (up (up (up (up (up (up (up (up (up (up (up (up (up (up (up σ83 68 (σ83 5)) 69 (σ83 0)) 70 v70x84) 71 v71x85) 11 (.int .i64 1)) 74 (σ83 0)) 75 (σ83 5)) 76 v76x128) 77 v77x129) 78 v77x129) 79 v79x131) 80 v80x134) 81 v81x137) 82 v82x140) 83 v83x142) 85 (σ83 0)) 86 (σ83 5)) 87 v87x143) 84 v87x143) 88 v88x145) 89 v89x146) 12 v88x145) 13 v89x146) 90 v88x145) 11 v88x145) 91 v89x146) 5 v89x146) 92 v89x146) 93 (σ83 0)) 94 v94x147) 95 v95x148) H144))
      (J88 (up (up (up (up (up (up (up (up (up (up (up (up (up (up (up σ83 68 (σ83 5)) 69 (σ83 0)) 70 v70x84) 71 v71x85) 11 (.int .i64 1)) 74 (σ83 0)) 75 (σ83 5)) 76 v76x128) 77 v77x129) 78 v77x129) 79 v79x131) 80 v80x134) 81 v81x137) 82 v82x140) 83 v83x142) H141))
      (Q83 (.exit 0) (up (up (up (up σ83 68 (σ83 5)) 69 (σ83 0)) 70 v70x84) 71 v71x85) H83)) (blkQ 0 (thenQ J78 (retQ prg [(.cell 2 24), (.tmp 3)] K))) (up (up (up (up (up (up (up (up (up (up (up (up (up (up (up (up (up (up (up (up (up (up (up (up (up (up (up (up (up (up (up (up (up (up (up (up (up (up (up (up (up (up (up (up (up (up (up (up (up (up (up (up (up (up (up (up (up (up (up (up (S0 [a0]) 2 v2x1) 3 (.bool false)) 15 a0) 16 v16x3) 17 v17x4) 20 a0) 21 v21x8) 19 v21x8) 22 v22x10) 23 v23x11) 4 v22x10) 5 v23x11) 24 v23x11) 25 a0) 26 v26x12) 27 v27x13) 28 v27x13) 29 v29x15) 30 v30x18) 31 v31x21) 32 v32x24) 33 v33x26) 36 a0) 37 v23x11) 38 v38x30) 39 v39x31) 35 v39x31) 40 v40x33) 41 v41x34) 6 v40x33) 7 v41x34) 42 v41x34) 43 a0) 44 v44x35) 45 v45x36) 46 v45x36) 47 v47x38) 48 v48x41) 49 v49x44) 50 v50x47) 51 v51x49) 52 v51x49) 53 v53x51) 54 v54x54) 55 v55x57) 56 v56x59) 57 v56x59) 58 v58x61) 59 v59x64) 60 v60x67) 61 v61x69) 63 v40x33) 64 v22x10) 65 v65x73) 8 v8x75) 9 (.int .i64 0)) 10 (.int .i64 0)) 66 v41x34) 67 v67x82) 5 v67x82) H77)))
def O.spec_ReadRuns : Nat → Nat × List Nat := fun i => (0, [])
theorem R.spec_ReadRuns {a0 : Value} {H : Hp} {K : Value → Hp → Prop} (h : F.spec_ReadRuns a0 H K) : HT prg I.spec_ReadRuns [a0].toArray H K :=
  HT_of_fev O.spec_ReadRuns mixed Tryd.func4 (by kernel_rfl) (Eq.mpr (by kernel_rfl : fev prg O.spec_ReadRuns Tryd.f4 [a0] H K = F.spec_ReadRuns a0 H K) h)

/-! internal/strconv.small: function 80 -/
def F.internal_strconv_small (a0 : Value) (H : Hp) (K : Value → Hp → Prop) : Prop :=
  ob (vInt .lss a0 (.int .i64 10)) fun v4x1 =>
  cnd v4x1
    (ob (vInt .add a0 (.int .i64 1)) fun v7x2 =>
    ob (vSlS (.string ⟨#[48, 49, 50, 51, 52, 53, 54, 55, 56, 57, 97, 98, 99, 100, 101, 102, 103, 104, 105, 106, 107, 108, 109, 110, 111, 112, 113, 114, 115, 116, 117, 118, 119, 120, 121, 122]⟩) (some a0) (some v7x2)) fun v8x3 =>
    K v8x3 H)
    (ob (vInt .mul a0 (.int .i64 2)) fun v10x4 =>
  ob (vInt .mul a0 (.int .i64 2)) fun v12x5 =>
  ob (vInt .add v12x5 (.int .i64 2)) fun v13x6 =>
  ob (vSlS (.string ⟨#[48, 48, 48, 49, 48, 50, 48, 51, 48, 52, 48, 53, 48, 54, 48, 55, 48, 56, 48, 57, 49, 48, 49, 49, 49, 50, 49, 51, 49, 52, 49, 53, 49, 54, 49, 55, 49, 56, 49, 57, 50, 48, 50, 49, 50, 50, 50, 51, 50, 52, 50, 53, 50, 54, 50, 55, 50, 56, 50, 57, 51, 48, 51, 49, 51, 50, 51, 51, 51, 52, 51, 53, 51, 54, 51, 55, 51, 56, 51, 57, 52, 48, 52, 49, 52, 50, 52, 51, 52, 52, 52, 53, 52, 54, 52, 55, 52, 56, 52, 57, 53, 48, 53, 49, 53, 50, 53, 51, 53, 52, 53, 53, 53, 54, 53, 55, 53, 56, 53, 57, 54, 48, 54, 49, 54, 50, 54, 51, 54, 52, 54, 53, 54, 54, 54, 55, 54, 56, 54, 57, 55, 48, 55, 49, 55, 50, 55, 51, 55, 52, 55, 53, 55, 54, 55, 55, 55, 56, 55, 57, 56, 48, 56, 49, 56, 50, 56, 51, 56, 52, 56, 53, 56, 54, 56, 55, 56, 56, 56, 57, 57, 48, 57, 49, 57, 50, 57, 51, 57, 52, 57, 53, 57, 54, 57, 55, 57, 56, 57, 57]⟩) (some v10x4) (some v13x6)) fun v14x7 =>
  K v14x7 H)
def O.internal_strconv_small : Nat → Nat × List Nat := fun i => (0, [])
theorem R.internal_strconv_small {a0 : Value} {H : Hp} {K : Value → Hp → Prop} (h : F.internal_strconv_small a0 H K) : HT prg I.internal_strconv_small [a0].toArray H K :=
  HT_of_fev O.internal_strconv_small mixed Tryd.func80 (by kernel_rfl) (Eq.mpr (by kernel_rfl : fev prg O.internal_strconv_small Tryd.f80 [a0] H K = F.internal_strconv_small a0 H K) h)

end Go.Proofs.YtijmoehbgkibnaaDoor
/- Functions' texts over a partial heap. -/
namespace Go.Proofs.YtijmoehbgkibnaaDoor
open HL
set_option linter.unusedVariables false
set_option maxRecDepth 100000
set_option maxHeartbeats 4000000
/-! internal/strconv.FormatInt: function 65 -/
def F.internal_strconv_FormatInt (a0 a1 : Value) (H : Hp) (K : Value → Hp → Prop) : Prop :=
  ob (vInt .eql a1 (.int .i64 10)) fun v11x1 =>
  cnd v11x1
    (ob (vInt .leq (.int .i64 0) a0) fun v13x2 =>
    gop v13x2 true (fun K3 => K3 a0 H) H fun v15x4 H5 =>
    gop v13x2 true (fun K6 => ob (vInt .lss v15x4 (.int .i64 100)) fun u => K6 u H5) H5 fun v16x7 H8 =>
    ob (vPick v13x2 v16x7 (.bool false)) fun v17x9 =>
    cnd v17x9
      (HT prg I.internal_strconv_small [a0].toArray H8 fun v19x10 H11 =>
      K v19x10 H11)
      (nw #[(.int .u8 0), (.int .u8 0), (.int .u8 0), (.int .u8 0), (.int .u8 0), (.int .u8 0), (.int .u8 0), (.int .u8 0), (.int .u8 0), (.int .u8 0), (.int .u8 0), (.int .u8 0), (.int .u8 0), (.int .u8 0), (.int .u8 0), (.int .u8 0), (.int .u8 0), (.int .u8 0), (.int .u8 0), (.int .u8 0), (.int .u8 0), (.int .u8 0), (.int .u8 0), (.int .u8 0)] 110 H8 fun v5x12 H13 =>
    ob (vCI .u64 a0) fun v21x14 =>
    jn (fun σ15 H15 =>
      HT prg I.internal_strconv_numDigits [(σ15 6)].toArray H15 fun v27x16 H17 =>
      ob (vInt .add (.int .i64 1) v27x16) fun v29x18 =>
      ob (vSlA 24 1 (σ15 5) (some (.int .i64 1)) (some v29x18)) fun v30x19 =>
      HT prg I.internal_strconv_formatBase10 [v30x19, (σ15 6)].toArray H17 fun v32x20 H21 =>
      ob (vInt .lss (σ15 0) (.int .i64 0)) fun v34x22 =>
      cnd v34x22
        (ob (vIxArr 24 1 (σ15 5) (.int .i64 0)) fun v35x23 =>
        st 1 v35x23 (.int .u8 45) H21 fun H24 =>
        ob (vInt .add (.int .i64 1) v27x16) fun v37x25 =>
        ob (vSlA 24 1 (σ15 5) none (some v37x25)) fun v38x26 =>
        ob (val prg (convert 65 9 v38x26) H24) fun v39x27 =>
        K v39x27 H24)
        (ob (vInt .add (.int .i64 1) v27x16) fun v41x28 =>
      ob (vSlA 24 1 (σ15 5) (some (.int .i64 1)) (some v41x28)) fun v42x29 =>
      ob (val prg (convert 65 9 v42x29) H21) fun v43x30 =>
      K v43x30 H21)) fun J15 =>
    ob (vInt .lss a0 (.int .i64 0)) fun v23x31 =>
    cnd v23x31
      (ob (vUn .neg v21x14) fun v25x32 =>
      J15 (up (up (up (up (up (up (up (up (up (up (up (up (up (up (up (up (up (up (S0 [a0, a1]) 4 (.string ⟨#[]⟩)) 10 a1) 11 v11x1) 12 a0) 13 v13x2) 14 v13x2) 15 v15x4) 16 v16x7) 17 v17x9) 5 v5x12) 20 a0) 21 v21x14) 6 v21x14) 22 a0) 23 v23x31) 24 v21x14) 25 v25x32) 6 v25x32) H13)
      (J15 (up (up (up (up (up (up (up (up (up (up (up (up (up (up (up (S0 [a0, a1]) 4 (.string ⟨#[]⟩)) 10 a1) 11 v11x1) 12 a0) 13 v13x2) 14 v13x2) 15 v15x4) 16 v16x7) 17 v17x9) 5 v5x12) 20 a0) 21 v21x14) 6 v21x14) 22 a0) 23 v23x31) H13)))
    (ob (vCI .u64 a0) fun v46x33 =>
  ob (vInt .lss a0 (.int .i64 0)) fun v49x34 =>
  HT prg I.internal_strconv_formatBits [(.slice none 0 0), v46x33, a1, v49x34, (.bool false)].toArray H fun v50x35 H36 =>
  ob (vExt v50x35 0) fun v51x37 =>
  ob (vExt v50x35 1) fun v52x38 =>
  K v52x38 H36)
def O.internal_strconv_FormatInt : Nat → Nat × List Nat := fun i => (0, [])
theorem R.internal_strconv_FormatInt {a0 a1 : Value} {H : Hp} {K : Value → Hp → Prop} (h : F.internal_strconv_FormatInt a0 a1 H K) : HT prg I.internal_strconv_FormatInt [a0, a1].toArray H K :=
  HT_of_fev O.internal_strconv_FormatInt mixed Tryd.func65 (by kernel_rfl) (Eq.mpr (by kernel_rfl : fev prg O.internal_strconv_FormatInt Tryd.f65 [a0, a1] H K = F.internal_strconv_FormatInt a0 a1 H K) h)

/-! loop.example/g01381/impl.within: function 30 -/
def F.impl_within (a0 a1 a2 : Value) (H : Hp) (K : Value → Hp → Prop) : Prop :=
  ob (vInt .geq a0 a1) fun v9x1 =>
  gop v9x1 true (fun K2 => K2 a0 H) H fun v11x3 H4 =>
  gop v9x1 true (fun K5 => K5 a2 H4) H4 fun v12x6 H7 =>
  gop v9x1 true (fun K8 => ob (vInt .leq v11x3 v12x6) fun u => K8 u H7) H7 fun v13x9 H10 =>
  ob (vPick v9x1 v13x9 (.bool false)) fun v14x11 =>
  K v14x11 H10
def O.impl_within : Nat → Nat × List Nat := fun i => (0, [])
theorem R.impl_within {a0 a1 a2 : Value} {H : Hp} {K : Value → Hp → Prop} (h : F.impl_within a0 a1 a2 H K) : HT prg I.impl_within [a0, a1, a2].toArray H K :=
  HT_of_fev O.impl_within mixed Tryd.func30 (by kernel_rfl) (Eq.mpr (by kernel_rfl : fev prg O.impl_within Tryd.f30 [a0, a1, a2] H K = F.impl_within a0 a1 a2 H K) h)

/-! loop.example/g01381/impl.isValue: function 27 -/
def F.impl_isValue (a0 : Value) (H : Hp) (K : Value → Hp → Prop) : Prop :=
  HT prg I.impl_within [a0, (.int .i64 (-1000000000000000)), (.int .i64 1000000000000000)].toArray H fun v4x1 H2 =>
  K v4x1 H2
def O.impl_isValue : Nat → Nat × List Nat := fun i => (0, [])
theorem R.impl_isValue {a0 : Value} {H : Hp} {K : Value → Hp → Prop} (h : F.impl_isValue a0 H K) : HT prg I.impl_isValue [a0].toArray H K :=
  HT_of_fev O.impl_isValue mixed Tryd.func27 (by kernel_rfl) (Eq.mpr (by kernel_rfl : fev prg O.impl_isValue Tryd.f27 [a0] H K = F.impl_isValue a0 H K) h)

/-! strconv.FormatInt: function 42 -/
def F.strconv_FormatInt (a0 a1 : Value) (H : Hp) (K : Value → Hp → Prop) : Prop :=
  HT prg I.internal_strconv_FormatInt [a0, a1].toArray H fun v7x1 H2 =>
  K v7x1 H2
def O.strconv_FormatInt : Nat → Nat × List Nat := fun i => (0, [])
theorem R.strconv_FormatInt {a0 a1 : Value} {H : Hp} {K : Value → Hp → Prop} (h : F.strconv_FormatInt a0 a1 H K) : HT prg I.strconv_FormatInt [a0, a1].toArray H K :=
  HT_of_fev O.strconv_FormatInt mixed Tryd.func42 (by kernel_rfl) (Eq.mpr (by kernel_rfl : fev prg O.strconv_FormatInt Tryd.f42 [a0, a1] H K = F.strconv_FormatInt a0 a1 H K) h)

/-! loop.example/g01381/impl.Decimal: function 28 -/
def F.impl_Decimal (a0 : Value) (H : Hp) (K : Value → Hp → Prop) : Prop :=
  HT prg I.strconv_FormatInt [a0, (.int .i64 10)].toArray H fun v4x1 H2 =>
  K v4x1 H2
def O.impl_Decimal : Nat → Nat × List Nat := fun i => (0, [])
theorem R.impl_Decimal {a0 : Value} {H : Hp} {K : Value → Hp → Prop} (h : F.impl_Decimal a0 H K) : HT prg I.impl_Decimal [a0].toArray H K :=
  HT_of_fev O.impl_Decimal mixed Tryd.func28 (by kernel_rfl) (Eq.mpr (by kernel_rfl : fev prg O.impl_Decimal Tryd.f28 [a0] H K = F.impl_Decimal a0 H K) h)

/-! loop.example/g01381/impl.ReadDecimal: function 14 -/
def F.impl_ReadDecimal (a0 : Value) (H : Hp) (K : Value → Hp → Prop) : Prop :=
  HT prg I.strconv_ParseInt [a0, (.int .i64 10), (.int .i64 64)].toArray H fun v8x1 H2 =>
  ob (vExt v8x1 0) fun v9x3 =>
  ob (vExt v8x1 1) fun v10x4 =>
  ob (val prg (do eqGuard .neq 53 (.tmp 11) (.const .nilIface) v10x4 .nilIface; binOp .neq 53 v10x4 .nilIface) H2) fun v12x5 =>
  gop v12x5 false (fun K6 => K6 v9x3 H2) H2 fun v14x7 H8 =>
  gop v12x5 false (fun K9 => HT prg I.impl_isValue [v14x7].toArray H8 K9) H8 fun v15x10 H11 =>
  gop v12x5 false (fun K12 => ob (vUn .not v15x10) fun u => K12 u H11) H11 fun v16x13 H14 =>
  ob (vPick v12x5 (.bool true) v16x13) fun v17x15 =>
  gop v17x15 false (fun K16 => K16 v9x3 H14) H14 fun v19x17 H18 =>
  gop v17x15 false (fun K19 => HT prg I.impl_Decimal [v19x17].toArray H18 K19) H18 fun v20x20 H21 =>
  gop v17x15 false (fun K22 => K22 a0 H21) H21 fun v21x23 H24 =>
  gop v17x15 false (fun K25 => ob (vStr .neq v20x20 v21x23) fun u => K25 u H24) H24 fun v22x26 H27 =>
  ob (vPick v17x15 (.bool true) v22x26) fun v23x28 =>
  cnd v23x28
    (K (.tuple #[(.int .i64 0), (.bool false)]) H27)
    (K (.tuple #[v9x3, (.bool true)]) H27)
def O.impl_ReadDecimal : Nat → Nat × List Nat := fun i => (0, [])
theorem R.impl_ReadDecimal {a0 : Value} {H : Hp} {K : Value → Hp → Prop} (h : F.impl_ReadDecimal a0 H K) : HT prg I.impl_ReadDecimal [a0].toArray H K :=
  HT_of_fev O.impl_ReadDecimal mixed Tryd.func14 (by kernel_rfl) (Eq.mpr (by kernel_rfl : fev prg O.impl_ReadDecimal Tryd.f14 [a0] H K = F.impl_ReadDecimal a0 H K) h)

/-! loop.example/g01381/impl.isSide: function 16 -/
def F.impl_isSide (a0 : Value) (H : Hp) (K : Value → Hp → Prop) : Prop :=
  HT prg I.impl_within [a0, (.int .i64 1), (.int .i64 24)].toArray H fun v4x1 H2 =>
  K v4x1 H2
def O.impl_isSide : Nat → Nat × List Nat := fun i => (0, [])
theorem R.impl_isSide {a0 : Value} {H : Hp} {K : Value → Hp → Prop} (h : F.impl_isSide a0 H K) : HT prg I.impl_isSide [a0].toArray H K :=
  HT_of_fev O.impl_isSide mixed Tryd.func16 (by kernel_rfl) (Eq.mpr (by kernel_rfl : fev prg O.impl_isSide Tryd.f16 [a0] H K = F.impl_isSide a0 H K) h)

/-! loop.example/g01381/impl.bit: function 33 -/
def F.impl_bit (a0 : Value) (H : Hp) (K : Value → Hp → Prop) : Prop :=
  cnd a0
    (K (.int .i64 1) H)
    (K (.int .i64 0) H)
def O.impl_bit : Nat → Nat × List Nat := fun i => (0, [])
theorem R.impl_bit {a0 : Value} {H : Hp} {K : Value → Hp → Prop} (h : F.impl_bit a0 H K) : HT prg I.impl_bit [a0].toArray H K :=
  HT_of_fev O.impl_bit mixed Tryd.func33 (by kernel_rfl) (Eq.mpr (by kernel_rfl : fev prg O.impl_bit Tryd.f33 [a0] H K = F.impl_bit a0 H K) h)

/-! loop.example/g01381/impl.readRow: function 18 -/
def F.impl_readRow (a0 a1 : Value) (H : Hp) (K : Value → Hp → Prop) : Prop :=
  bS 1 0 #[(.int .i64 0)] 2 [] H fun v11x1 H2 =>
  jn (fun σ3 H3 =>
    ob (vLenSl (σ3 6)) fun v53x4 =>
    ob (vInt .gtr v53x4 (σ3 1)) fun v55x5 =>
    cnd v55x5
      (K (.tuple #[(.slice none 0 0), (.bool false)]) H3)
      (ob (vLenSl (σ3 6)) fun v59x6 =>
    ob (vInt .sub (σ3 1) v59x6) fun v60x7 =>
    apm 1 8 #[(.int .i64 0)] 2 (σ3 6) v60x7 H3 fun v61x8 H9 =>
    K (.tuple #[v61x8, (.bool true)]) H9)) fun J3 =>
  lpE (fun Q10 σ10 H10 =>
    ob (vStr .neq (σ10 0) (.string ⟨#[]⟩)) fun v13x11 =>
    cnd v13x11
      (HT prg I.strings_IndexAny [(σ10 0), (.string ⟨#[98, 111]⟩)].toArray H10 fun v15x12 H13 =>
    ob (vInt .lss v15x12 (.int .i64 0)) fun v17x14 =>
    cnd v17x14
      (Q10 .ret (up (up (up (up (up (up (up (up (up σ10 12 (σ10 0)) 13 v13x11) 14 (σ10 0)) 15 v15x12) 7 v15x12) 16 v15x12) 17 v17x14) 4 (.slice none 0 0)) 5 (.bool false)) H13)
      (jn (fun σ15 H15 =>
      jn (fun σ16 H16 =>
        ob (vInt .add (σ16 7) (.int .i64 1)) fun v50x17 =>
        ob (vSlS (σ16 0) (some v50x17) none) fun v51x18 =>
        Q10 .normal (up (up (up (up (up σ16 48 (σ16 0)) 49 (σ16 7)) 50 v50x17) 51 v51x18) 0 v51x18) H16) fun J16 =>
      lpE (fun Q19 σ19 H19 =>
        ob (vInt .lss (σ19 37) (σ19 36)) fun v38x20 =>
        cnd v38x20
          (ob (vIndexS (σ19 0) (σ19 7)) fun v42x21 =>
        ob (vInt .eql v42x21 (.int .u8 111)) fun v43x22 =>
        HT prg I.impl_bit [v43x22].toArray H19 fun v44x23 H24 =>
        bS 1 1 #[(.int .i64 0)] 2 [(0, v44x23)] H24 fun v45x25 H26 =>
        apd 1 8 #[(.int .i64 0)] 2 (σ19 6) v45x25 H26 fun v46x27 H28 =>
        ob (vInt .add (σ19 37) (.int .i64 1)) fun v47x29 =>
        Q19 .normal (up (up (up (up (up (up (up (up (up (up (up (up σ19 38 v38x20) 39 (σ19 6)) 40 (σ19 0)) 41 (σ19 7)) 42 v42x21) 43 v43x22) 44 v44x23) 45 v45x25) 46 v46x27) 6 v46x27) 47 v47x29) 37 v47x29) H28)
          (Q19 (.exit 2) (up σ19 38 v38x20) H19)) (blkQ 2 (thenQ J16 (blkQ 1 Q10))) (up (up σ15 36 (σ15 8)) 37 (.int .i64 0)) H15) fun J15 =>
    ob (vInt .gtr v15x12 (.int .i64 0)) fun v19x30 =>
    cnd v19x30
      (ob (vSlS (σ10 0) none (some v15x12)) fun v23x31 =>
      HT prg I.impl_ReadDecimal [v23x31].toArray H13 fun v24x32 H33 =>
      ob (vExt v24x32 0) fun v25x34 =>
      ob (vExt v24x32 1) fun v26x35 =>
      ob (vUn .not v26x35) fun v28x36 =>
      gop v28x36 false (fun K37 => K37 v25x34 H33) H33 fun v30x38 H39 =>
      gop v28x36 false (fun K40 => K40 (σ10 1) H39) H39 fun v31x41 H42 =>
      gop v28x36 false (fun K43 => HT prg I.impl_within [v30x38, (.int .i64 2), v31x41].toArray H42 K43) H42 fun v32x44 H45 =>
      gop v28x36 false (fun K46 => ob (vUn .not v32x44) fun u => K46 u H45) H45 fun v33x47 H48 =>
      ob (vPick v28x36 (.bool true) v33x47) fun v34x49 =>
      cnd v34x49
        (Q10 .ret (up (up (up (up (up (up (up (up (up (up (up (up (up (up (up (up (up (up (up (up (up (up (up (up (up (up (up (up (up σ10 12 (σ10 0)) 13 v13x11) 14 (σ10 0)) 15 v15x12) 7 v15x12) 16 v15x12) 17 v17x14) 8 (.int .i64 1)) 18 v15x12) 19 v19x30) 21 (σ10 0)) 22 v15x12) 23 v23x31) 24 v24x32) 20 v24x32) 25 v25x34) 26 v26x35) 9 v25x34) 10 v26x35) 27 v26x35) 28 v28x36) 29 v28x36) 30 v30x38) 31 v31x41) 32 v32x44) 33 v33x47) 34 v34x49) 4 (.slice none 0 0)) 5 (.bool false)) H48)
        (J15 (up (up (up (up (up (up (up (up (up (up (up (up (up (up (up (up (up (up (up (up (up (up (up (up (up (up (up (up (up σ10 12 (σ10 0)) 13 v13x11) 14 (σ10 0)) 15 v15x12) 7 v15x12) 16 v15x12) 17 v17x14) 8 (.int .i64 1)) 18 v15x12) 19 v19x30) 21 (σ10 0)) 22 v15x12) 23 v23x31) 24 v24x32) 20 v24x32) 25 v25x34) 26 v26x35) 9 v25x34) 10 v26x35) 27 v26x35) 28 v28x36) 29 v28x36) 30 v30x38) 31 v31x41) 32 v32x44) 33 v33x47) 34 v34x49) 35 v25x34) 8 v25x34) H48))
      (J15 (up (up (up (up (up (up (up (up (up (up σ10 12 (σ10 0)) 13 v13x11) 14 (σ10 0)) 15 v15x12) 7 v15x12) 16 v15x12) 17 v17x14) 8 (.int .i64 1)) 18 v15x12) 19 v19x30) H13)))
      (Q10 (.exit 0) (up (up σ10 12 (σ10 0)) 13 v13x11) H10)) (blkQ 0 (thenQ J3 (retQ prg [(.tmp 4), (.tmp 5)] K))) (up (up (up (up (S0 [a0, a1]) 4 (.slice none 0 0)) 5 (.bool false)) 11 v11x1) 6 v11x1) H2
def O.impl_readRow : Nat → Nat × List Nat := fun i => (0, [])
theorem R.impl_readRow {a0 a1 : Value} {H : Hp} {K : Value → Hp → Prop} (h : F.impl_readRow a0 a1 H K) : HT prg I.impl_readRow [a0, a1].toArray H K :=
  HT_of_fev O.impl_readRow mixed Tryd.func18 (by kernel_rfl) (Eq.mpr (by kernel_rfl : fev prg O.impl_readRow Tryd.f18 [a0, a1] H K = F.impl_readRow a0 a1 H K) h)

/-! loop.example/g01381/impl.areWithin: function 35 -/
def F.impl_areWithin (a0 a1 a2 : Value) (H : Hp) (K : Value → Hp → Prop) : Prop :=
  jn (fun σ1 H1 =>
    K (.bool true) H1) fun J1 =>
  ob (vLenSl a0) fun v10x2 =>
  lpE (fun Q3 σ3 H3 =>
    ob (vInt .lss (σ3 11) (σ3 10)) fun v12x4 =>
    cnd v12x4
      (ob (vIx 1 (σ3 9) (σ3 11)) fun v13x5 =>
    ob (vLoad v13x5 H3) fun v14x6 =>
    HT prg I.impl_within [v14x6, (σ3 1), (σ3 2)].toArray H3 fun v18x7 H8 =>
    ob (vUn .not v18x7) fun v19x9 =>
    cnd v19x9
      (Q3 .ret (up (up (up (up (up (up (up (up (up (up σ3 12 v12x4) 13 v13x5) 14 v14x6) 8 v14x6) 15 v14x6) 16 (σ3 1)) 17 (σ3 2)) 18 v18x7) 19 v19x9) 6 (.bool false)) H8)
      (ob (vInt .add (σ3 11) (.int .i64 1)) fun v20x10 =>
    Q3 .normal (up (up (up (up (up (up (up (up (up (up (up σ3 12 v12x4) 13 v13x5) 14 v14x6) 8 v14x6) 15 v14x6) 16 (σ3 1)) 17 (σ3 2)) 18 v18x7) 19 v19x9) 20 v20x10) 11 v20x10) H8))
      (Q3 (.exit 0) (up σ3 12 v12x4) H3)) (blkQ 0 (thenQ J1 (retQ prg [(.tmp 6)] K))) (up (up (up (up (S0 [a0, a1, a2]) 6 (.bool false)) 9 a0) 10 v10x2) 11 (.int .i64 0)) H
def O.impl_areWithin : Nat → Nat × List Nat := fun i => (0, [])
theorem R.impl_areWithin {a0 a1 a2 : Value} {H : Hp} {K : Value → Hp → Prop} (h : F.impl_areWithin a0 a1 a2 H K) : HT prg I.impl_areWithin [a0, a1, a2].toArray H K :=
  HT_of_fev O.impl_areWithin mixed Tryd.func35 (by kernel_rfl) (Eq.mpr (by kernel_rfl : fev prg O.impl_areWithin Tryd.f35 [a0, a1, a2] H K = F.impl_areWithin a0 a1 a2 H K) h)

/-! loop.example/g01381/impl.areMany: function 51 -/
def F.impl_areMany (a0 a1 a2 a3 a4 : Value) (H : Hp) (K : Value → Hp → Prop) : Prop :=
  ob (vLenSl a0) fun v12x1 =>
  HT prg I.impl_within [v12x1, a1, a2].toArray H fun v15x2 H3 =>
  gop v15x2 true (fun K4 => K4 a0 H3) H3 fun v17x5 H6 =>
  gop v15x2 true (fun K7 => K7 a3 H6) H6 fun v18x8 H9 =>
  gop v15x2 true (fun K10 => K10 a4 H9) H9 fun v19x11 H12 =>
  gop v15x2 true (fun K13 => HT prg I.impl_areWithin [v17x5, v18x8, v19x11].toArray H12 K13) H12 fun v20x14 H15 =>
  ob (vPick v15x2 v20x14 (.bool false)) fun v21x16 =>
  K v21x16 H15
def O.impl_areMany : Nat → Nat × List Nat := fun i => (0, [])
theorem R.impl_areMany {a0 a1 a2 a3 a4 : Value} {H : Hp} {K : Value → Hp → Prop} (h : F.impl_areMany a0 a1 a2 a3 a4 H K) : HT prg I.impl_areMany [a0, a1, a2, a3, a4].toArray H K :=
  HT_of_fev O.impl_areMany mixed Tryd.func51 (by kernel_rfl) (Eq.mpr (by kernel_rfl : fev prg O.impl_areMany Tryd.f51 [a0, a1, a2, a3, a4] H K = F.impl_areMany a0 a1 a2 a3 a4 H K) h)

/-! loop.example/g01381/impl.ValidField: function 34 -/
def F.impl_ValidField (a0 : Value) (H : Hp) (K : Value → Hp → Prop) : Prop :=
  nw (a0 : Value).cells 24 H fun v1x1 H2 =>
  ob (vFa 0 v1x1) fun v4x3 =>
  ob (vLoad v4x3 H2) fun v5x4 =>
  ob (vFa 1 v1x1) fun v6x5 =>
  ob (vLoad v6x5 H2) fun v7x6 =>
  ob (vInt .mul v5x4 v7x6) fun v8x7 =>
  ob (vFa 0 v1x1) fun v9x8 =>
  ob (vLoad v9x8 H2) fun v10x9 =>
  HT prg I.impl_isSide [v10x9].toArray H2 fun v11x10 H11 =>
  gop v11x10 true (fun K12 => ob (vFa 1 v1x1) fun u => K12 u H11) H11 fun v13x13 H14 =>
  gop v11x10 true (fun K15 => ob (vLoad v13x13 H14) fun u => K15 u H14) H14 fun v14x16 H17 =>
  gop v11x10 true (fun K18 => HT prg I.impl_isSide [v14x16].toArray H17 K18) H17 fun v15x19 H20 =>
  ob (vPick v11x10 v15x19 (.bool false)) fun v16x21 =>
  gop v16x21 true (fun K22 => ob (vFa 2 v1x1) fun u => K22 u H20) H20 fun v18x23 H24 =>
  gop v16x21 true (fun K25 => ob (vLoad v18x23 H24) fun u => K25 u H24) H24 fun v19x26 H27 =>
  gop v16x21 true (fun K28 => K28 v8x7 H27) H27 fun v20x29 H30 =>
  gop v16x21 true (fun K31 => K31 v8x7 H30) H30 fun v21x32 H33 =>
  gop v16x21 true (fun K34 => HT prg I.impl_areMany [v19x26, v20x29, v21x32, (.int .i64 0), (.int .i64 9)].toArray H33 K34) H33 fun v22x35 H36 =>
  ob (vPick v16x21 v22x35 (.bool false)) fun v23x37 =>
  K v23x37 H36
def O.impl_ValidField : Nat → Nat × List Nat := fun i => (0, [])
theorem R.impl_ValidField {a0 : Value} {H : Hp} {K : Value → Hp → Prop} (h : F.impl_ValidField a0 H K) : HT prg I.impl_ValidField [a0].toArray H K :=
  HT_of_fev O.impl_ValidField mixed Tryd.func34 (by kernel_rfl) (Eq.mpr (by kernel_rfl : fev prg O.impl_ValidField Tryd.f34 [a0] H K = F.impl_ValidField a0 H K) h)

/-! loop.example/g01381/impl.isPlain: function 19 -/
def F.impl_isPlain (a0 : Value) (H : Hp) (K : Value → Hp → Prop) : Prop :=
  nw (a0 : Value).cells 24 H fun v1x1 H2 =>
  ob (vLoadN 3 v1x1 H2) fun v3x3 =>
  HT prg I.impl_ValidField [v3x3].toArray H2 fun v4x4 H5 =>
  gop v4x4 true (fun K6 => ob (vFa 2 v1x1) fun u => K6 u H5) H5 fun v6x7 H8 =>
  gop v4x4 true (fun K9 => ob (vLoad v6x7 H8) fun u => K9 u H8) H8 fun v7x10 H11 =>
  gop v4x4 true (fun K12 => HT prg I.impl_areWithin [v7x10, (.int .i64 0), (.int .i64 1)].toArray H11 K12) H11 fun v8x13 H14 =>
  ob (vPick v4x4 v8x13 (.bool false)) fun v9x15 =>
  K v9x15 H14
def O.impl_isPlain : Nat → Nat × List Nat := fun i => (0, [])
theorem R.impl_isPlain {a0 : Value} {H : Hp} {K : Value → Hp → Prop} (h : F.impl_isPlain a0 H K) : HT prg I.impl_isPlain [a0].toArray H K :=
  HT_of_fev O.impl_isPlain mixed Tryd.func19 (by kernel_rfl) (Eq.mpr (by kernel_rfl : fev prg O.impl_isPlain Tryd.f19 [a0] H K = F.impl_isPlain a0 H K) h)

/-! slices.Chunk[[]int64,int64]$1: function 52 -/
def F.slices_Chunk_int64Zint64Z1 (a0 a1 a2 : Value) (H : Hp) (K : Value → Hp → Prop) : Prop :=
  lpE (fun Q1 σ1 H1 =>
    ob (vLoad (σ1 1) H1) fun v7x2 =>
    ob (vLenSl v7x2) fun v8x3 =>
    ob (vInt .lss (σ1 4) v8x3) fun v9x4 =>
    cnd v9x4
      (ob (vLoad (σ1 2) H1) fun v13x5 =>
    ob (vLoad (σ1 1) H1) fun v14x6 =>
    ob (vSl3 1 v14x6 (some (σ1 4)) none none) fun v16x7 =>
    ob (vLenSl v16x7) fun v17x8 =>
    ob (vMx false v13x5 [v17x8]) fun v18x9 =>
    ob (vLoad (σ1 1) H1) fun v20x10 =>
    ob (vInt .add (σ1 4) v18x9) fun v24x11 =>
    ob (vInt .add (σ1 4) v18x9) fun v27x12 =>
    ob (vSl3 1 v20x10 (some (σ1 4)) (some v24x11) (some v27x12)) fun v28x13 =>
    callV prg (σ1 0) [v28x13] H1 fun v29x14 H15 =>
    ob (vUn .not v29x14) fun v30x16 =>
    cnd v30x16
      (Q1 .ret (up (up (up (up (up (up (up (up (up (up (up (up (up (up (up (up (up (up (up (up (up (up (up σ1 6 (σ1 4)) 7 v7x2) 8 v8x3) 9 v9x4) 13 v13x5) 14 v14x6) 15 (σ1 4)) 16 v16x7) 17 v17x8) 18 v18x9) 5 v18x9) 19 (σ1 0)) 20 v20x10) 21 (σ1 4)) 22 (σ1 4)) 23 v18x9) 24 v24x11) 25 (σ1 4)) 26 v18x9) 27 v27x12) 28 v28x13) 29 v29x14) 30 v30x16) H15)
      (ob (vLoad (σ1 2) H15) fun v11x17 =>
    ob (vInt .add (σ1 4) v11x17) fun v12x18 =>
    Q1 .normal (up (up (up (up (up (up (up (up (up (up (up (up (up (up (up (up (up (up (up (up (up (up (up (up (up (up (up σ1 6 (σ1 4)) 7 v7x2) 8 v8x3) 9 v9x4) 13 v13x5) 14 v14x6) 15 (σ1 4)) 16 v16x7) 17 v17x8) 18 v18x9) 5 v18x9) 19 (σ1 0)) 20 v20x10) 21 (σ1 4)) 22 (σ1 4)) 23 v18x9) 24 v24x11) 25 (σ1 4)) 26 v18x9) 27 v27x12) 28 v28x13) 29 v29x14) 30 v30x16) 10 (σ1 4)) 11 v11x17) 12 v12x18) 4 v12x18) H15))
      (Q1 (.exit 0) (up (up (up (up σ1 6 (σ1 4)) 7 v7x2) 8 v8x3) 9 v9x4) H1)) (blkQ 0 (retQ prg [] K)) (up (S0 [a0, a1, a2]) 4 (.int .i64 0)) H
def O.slices_Chunk_int64Zint64Z1 : Nat → Nat × List Nat := fun i => bif Nat.beq i 3 then (0, [0, 1, 2, 3, 4, 5, 6]) else (0, [])
theorem R.slices_Chunk_int64Zint64Z1 {a0 a1 a2 : Value} {H : Hp} {K : Value → Hp → Prop} (h : F.slices_Chunk_int64Zint64Z1 a0 a1 a2 H K) : HT prg I.slices_Chunk_int64Zint64Z1 [a0, a1, a2].toArray H K :=
  HT_of_fev O.slices_Chunk_int64Zint64Z1 mixed Tryd.func52 (by kernel_rfl) (Eq.mpr (by kernel_rfl : fev prg O.slices_Chunk_int64Zint64Z1 Tryd.f52 [a0, a1, a2] H K = F.slices_Chunk_int64Zint64Z1 a0 a1 a2 H K) h)

/-! slices.Chunk[[]int64,int64]: function 36 -/
def F.slices_Chunk_int64Zint64 (a0 a1 : Value) (H : Hp) (K : Value → Hp → Prop) : Prop :=
  nw (a0 : Value).cells 22 H fun v2x1 H2 =>
  nw (a1 : Value).cells 3 H2 fun v3x3 H4 =>
  ob (vLoad v3x3 H4) fun v5x5 =>
  ob (vInt .lss v5x5 (.int .i64 1)) fun v6x6 =>
  cnd v6x6
    (ob (val prg (Instr.makeInterface 9 (.string ⟨#[99, 97, 110, 110, 111, 116, 32, 98, 101, 32, 108, 101, 115, 115, 32, 116, 104, 97, 110, 32, 49]⟩)) H4) fun v7x7 =>
    hp prg (do pure (Next.value (← Instr.panic v7x7))) H4 (nextH prg (fun _ H8 =>
    K (.func (.func I.slices_Chunk_int64Zint64Z1) #[] #[v2x1, v3x3]) H8)))
    (K (.func (.func I.slices_Chunk_int64Zint64Z1) #[] #[v2x1, v3x3]) H4)
def O.slices_Chunk_int64Zint64 : Nat → Nat × List Nat := fun i => (0, [])
theorem R.slices_Chunk_int64Zint64 {a0 a1 : Value} {H : Hp} {K : Value → Hp → Prop} (h : F.slices_Chunk_int64Zint64 a0 a1 H K) : HT prg I.slices_Chunk_int64Zint64 [a0, a1].toArray H K :=
  HT_of_fev O.slices_Chunk_int64Zint64 mixed Tryd.func36 (by kernel_rfl) (Eq.mpr (by kernel_rfl : fev prg O.slices_Chunk_int64Zint64 Tryd.f36 [a0, a1] H K = F.slices_Chunk_int64Zint64 a0 a1 H K) h)

/-! loop.example/g01381/impl.runsText: function 37 -/
def F.impl_runsText (a0 : Value) (H : Hp) (K : Value → Hp → Prop) : Prop :=
  jn (fun σ1 H1 =>
    K (σ1 3) H1) fun J1 =>
  lpE (fun Q2 σ2 H2 =>
    ob (vLenSl (σ2 0)) fun v8x3 =>
    ob (vInt .lss (σ2 4) v8x3) fun v9x4 =>
    cnd v9x4
      (jn (fun σ5 H5 =>
      ob (vIx 1 (σ5 0) (σ5 4)) fun v30x6 =>
      ob (vLoad v30x6 H5) fun v31x7 =>
      ob (vInt .eql v31x7 (.int .i64 0)) fun v32x8 =>
      gop v32x8 true (fun K9 => K9 (σ5 5) H5) H5 fun v34x10 H11 =>
      gop v32x8 true (fun K12 => K12 (σ5 0) H11) H11 fun v35x13 H14 =>
      gop v32x8 true (fun K15 => ob (vLenSl v35x13) fun u => K15 u H14) H14 fun v36x16 H17 =>
      gop v32x8 true (fun K18 => ob (vInt .eql v34x10 v36x16) fun u => K18 u H17) H17 fun v37x19 H20 =>
      ob (vPick v32x8 v37x19 (.bool false)) fun v38x21 =>
      cnd v38x21
        (Q2 (.exit 0) (up (up (up (up (up (up (up (up (up (up (up σ5 28 (σ5 0)) 29 (σ5 4)) 30 v30x6) 31 v31x7) 32 v32x8) 33 v32x8) 34 v34x10) 35 v35x13) 36 v36x16) 37 v37x19) 38 v38x21) H20)
        (ob (vInt .sub (σ5 5) (σ5 4)) fun v41x22 =>
      ob (vInt .gtr v41x22 (.int .i64 1)) fun v42x23 =>
      cnd v42x23
        (ob (vInt .sub (σ5 5) (σ5 4)) fun v46x24 =>
        HT prg I.impl_Decimal [v46x24].toArray H20 fun v47x25 H26 =>
        ob (vStr .add (σ5 3) v47x25) fun v48x27 =>
        ob (vIx 1 (σ5 0) (σ5 4)) fun v52x28 =>
      ob (vLoad v52x28 H26) fun v53x29 =>
      ob (vIx 1 (σ5 0) (σ5 4)) fun v56x30 =>
      ob (vLoad v56x30 H26) fun v57x31 =>
      ob (vInt .add v57x31 (.int .i64 1)) fun v58x32 =>
      ob (vSlS (.string ⟨#[98, 111]⟩) (some v53x29) (some v58x32)) fun v59x33 =>
      ob (vStr .add v48x27 v59x33) fun v60x34 =>
      Q2 .normal (up (up (up (up (up (up (up (up (up (up (up (up (up (up (up (up (up (up (up (up (up (up (up (up (up (up (up (up (up (up (up (up (up (up (up (up (up σ5 28 (σ5 0)) 29 (σ5 4)) 30 v30x6) 31 v31x7) 32 v32x8) 33 v32x8) 34 v34x10) 35 v35x13) 36 v36x16) 37 v37x19) 38 v38x21) 39 (σ5 5)) 40 (σ5 4)) 41 v41x22) 42 v42x23) 43 (σ5 3)) 44 (σ5 5)) 45 (σ5 4)) 46 v46x24) 47 v47x25) 48 v48x27) 3 v48x27) 49 v48x27) 50 (σ5 0)) 51 (σ5 4)) 52 v52x28) 53 v53x29) 54 (σ5 0)) 55 (σ5 4)) 56 v56x30) 57 v57x31) 58 v58x32) 59 v59x33) 60 v60x34) 3 v60x34) 61 (σ5 5)) 4 (σ5 5)) H26)
        (ob (vIx 1 (σ5 0) (σ5 4)) fun v52x35 =>
      ob (vLoad v52x35 H20) fun v53x36 =>
      ob (vIx 1 (σ5 0) (σ5 4)) fun v56x37 =>
      ob (vLoad v56x37 H20) fun v57x38 =>
      ob (vInt .add v57x38 (.int .i64 1)) fun v58x39 =>
      ob (vSlS (.string ⟨#[98, 111]⟩) (some v53x36) (some v58x39)) fun v59x40 =>
      ob (vStr .add (σ5 3) v59x40) fun v60x41 =>
      Q2 .normal (up (up (up (up (up (up (up (up (up (up (up (up (up (up (up (up (up (up (up (up (up (up (up (up (up (up (up (up (up (up σ5 28 (σ5 0)) 29 (σ5 4)) 30 v30x6) 31 v31x7) 32 v32x8) 33 v32x8) 34 v34x10) 35 v35x13) 36 v36x16) 37 v37x19) 38 v38x21) 39 (σ5 5)) 40 (σ5 4)) 41 v41x22) 42 v42x23) 49 (σ5 3)) 50 (σ5 0)) 51 (σ5 4)) 52 v52x35) 53 v53x36) 54 (σ5 0)) 55 (σ5 4)) 56 v56x37) 57 v57x38) 58 v58x39) 59 v59x40) 60 v60x41) 3 v60x41) 61 (σ5 5)) 4 (σ5 5)) H20))) fun J5 =>
    lpE (fun Q42 σ42 H42 =>
      ob (vLenSl (σ42 0)) fun v13x43 =>
      ob (vInt .lss (σ42 5) v13x43) fun v14x44 =>
      gop v14x44 true (fun K45 => K45 (σ42 0) H42) H42 fun v16x46 H47 =>
      gop v14x44 true (fun K48 => K48 (σ42 5) H47) H47 fun v17x49 H50 =>
      gop v14x44 true (fun K51 => ob (vIx 1 v16x46 v17x49) fun u => K51 u H50) H50 fun v18x52 H53 =>
      gop v14x44 true (fun K54 => ob (vLoad v18x52 H53) fun u => K54 u H53) H53 fun v19x55 H56 =>
      gop v14x44 true (fun K57 => K57 (σ42 0) H56) H56 fun v20x58 H59 =>
      gop v14x44 true (fun K60 => K60 (σ42 4) H59) H59 fun v21x61 H62 =>
      gop v14x44 true (fun K63 => ob (vIx 1 v20x58 v21x61) fun u => K63 u H62) H62 fun v22x64 H65 =>
      gop v14x44 true (fun K66 => ob (vLoad v22x64 H65) fun u => K66 u H65) H65 fun v23x67 H68 =>
      gop v14x44 true (fun K69 => ob (vInt .eql v19x55 v23x67) fun u => K69 u H68) H68 fun v24x70 H71 =>
      ob (vPick v14x44 v24x70 (.bool false)) fun v25x72 =>
      cnd v25x72
        (ob (vInt .add (σ42 5) (.int .i64 1)) fun v27x73 =>
      Q42 .normal (up (up (up (up (up (up (up (up (up (up (up (up (up (up (up (up (up (up σ42 11 (σ42 5)) 12 (σ42 0)) 13 v13x43) 14 v14x44) 15 v14x44) 16 v16x46) 17 v17x49) 18 v18x52) 19 v19x55) 20 v20x58) 21 v21x61) 22 v22x64) 23 v23x67) 24 v24x70) 25 v25x72) 26 (σ42 5)) 27 v27x73) 5 v27x73) H71)
        (Q42 (.exit 2) (up (up (up (up (up (up (up (up (up (up (up (up (up (up (up σ42 11 (σ42 5)) 12 (σ42 0)) 13 v13x43) 14 v14x44) 15 v14x44) 16 v16x46) 17 v17x49) 18 v18x52) 19 v19x55) 20 v20x58) 21 v21x61) 22 v22x64) 23 v23x67) 24 v24x70) 25 v25x72) H71)) (blkQ 2 (thenQ J5 (blkQ 1 Q2))) (up (up (up (up (up (up σ2 6 (σ2 4)) 7 (σ2 0)) 8 v8x3) 9 v9x4) 10 (σ2 4)) 5 (σ2 4)) H2)
      (Q2 (.exit 0) (up (up (up (up σ2 6 (σ2 4)) 7 (σ2 0)) 8 v8x3) 9 v9x4) H2)) (blkQ 0 (thenQ J1 (retQ prg [(.tmp 2)] K))) (up (up (up (S0 [a0]) 2 (.string ⟨#[]⟩)) 3 (.string ⟨#[]⟩)) 4 (.int .i64 0)) H
def O.impl_runsText : Nat → Nat × List Nat := fun i => bif Nat.beq i 10 then (0, [0, 1, 2, 3, 4, 5, 6, 7, 8, 9, 10, 11, 12]) else bif Nat.beq i 5 then (0, [0, 1, 2, 3, 4, 5, 6, 7, 8, 9, 10, 11, 12, 13, 14]) else (0, [])
theorem R.impl_runsText {a0 : Value} {H : Hp} {K : Value → Hp → Prop} (h : F.impl_runsText a0 H K) : HT prg I.impl_runsText [a0].toArray H K :=
  HT_of_fev O.impl_runsText mixed Tryd.func37 (by kernel_rfl) (Eq.mpr (by kernel_rfl : fev prg O.impl_runsText Tryd.f37 [a0] H K = F.impl_runsText a0 H K) h)

/-! (*strings.Builder).copyCheck: function 71 -/
def F.pstrings_Builder_copyCheck (a0 : Value) (H : Hp) (K : Value → Hp → Prop) : Prop :=
  ob (vNilC a0) fun v3x1 =>
  ob (vFa 0 v3x1) fun v4x2 =>
  ob (vLoad v4x2 H) fun v5x3 =>
  ob (val prg (do eqGuard .eql 79 (.tmp 5) (.const (.pointer none)) v5x3 (.pointer none); binOp .eql 79 v5x3 (.pointer none)) H) fun v6x4 =>
  cnd v6x4
    (hp prg (convert 79 115 a0) H fun v9x5 H6 =>
    hp prg (callFunc I.internal_abi_NoEscape [v9x5].toArray) H6 (nextH prg (fun v10x7 H8 =>
    hp prg (convert 115 79 v10x7) H8 fun v11x9 H10 =>
    ob (vNilC a0) fun v12x11 =>
    ob (vFa 0 v12x11) fun v13x12 =>
    st 1 v13x12 v11x9 H10 fun H13 =>
    K (.tuple #[]) H13)))
    (ob (vNilC a0) fun v15x14 =>
    ob (vFa 0 v15x14) fun v16x15 =>
    ob (vLoad v16x15 H) fun v17x16 =>
    ob (val prg (do eqGuard .neq 79 (.tmp 17) (.tmp 18) v17x16 a0; binOp .neq 79 v17x16 a0) H) fun v19x17 =>
    cnd v19x17
      (False)
      (K (.tuple #[]) H))
def O.pstrings_Builder_copyCheck : Nat → Nat × List Nat := fun i => (0, [])
theorem R.pstrings_Builder_copyCheck {a0 : Value} {H : Hp} {K : Value → Hp → Prop} (h : F.pstrings_Builder_copyCheck a0 H K) : HT prg I.pstrings_Builder_copyCheck [a0].toArray H K :=
  HT_of_fev O.pstrings_Builder_copyCheck mixed Tryd.func71 (by kernel_rfl) (Eq.mpr (by kernel_rfl : fev prg O.pstrings_Builder_copyCheck Tryd.f71 [a0] H K = F.pstrings_Builder_copyCheck a0 H K) h)

/-! (*strings.Builder).grow: function 72 -/
def F.pstrings_Builder_grow (a0 a1 : Value) (H : Hp) (K : Value → Hp → Prop) : Prop :=
  ob (vNilC a0) fun v6x1 =>
  ob (vFa 1 v6x1) fun v7x2 =>
  ob (vLoad v7x2 H) fun v8x3 =>
  ob (vCapSl v8x3) fun v9x4 =>
  ob (vInt .mul (.int .i64 2) v9x4) fun v10x5 =>
  ob (vInt .add v10x5 a1) fun v12x6 =>
  ob (vNilC a0) fun v15x7 =>
  ob (vFa 1 v15x7) fun v16x8 =>
  ob (vLoad v16x8 H) fun v17x9 =>
  ob (vLenSl v17x9) fun v18x10 =>
  hp prg (callFunc I.internal_bytealg_MakeNoZero [v12x6].toArray) H (nextH prg (fun v13x11 H12 =>
  Le H H12 ∧ (ob (vSl3 1 v13x11 none (some v18x10) none) fun v19x13 =>
  ob (vNilC a0) fun v22x14 =>
  ob (vFa 1 v22x14) fun v23x15 =>
  ob (vLoad v23x15 H12) fun v24x16 =>
  hp prg (builtin .copy #[65, 65] 3 #[false, false] [v19x13, v24x16].toArray) H12 (nextH prg (fun v25x17 H18 =>
  ob (vNilC a0) fun v28x19 =>
  ob (vFa 1 v28x19) fun v29x20 =>
  st 1 v29x20 v19x13 H18 fun H21 =>
  K (.tuple #[]) H21)))))
def O.pstrings_Builder_grow : Nat → Nat × List Nat := fun i => bif Nat.beq i 0 then (0, [0, 1, 2, 3, 4, 5, 6, 7, 9, 10, 11, 12, 13, 8, 14, 15]) else (0, [])
theorem R.pstrings_Builder_grow {a0 a1 : Value} {H : Hp} {K : Value → Hp → Prop} (h : F.pstrings_Builder_grow a0 a1 H K) : HT prg I.pstrings_Builder_grow [a0, a1].toArray H K :=
  HT_of_fev O.pstrings_Builder_grow mixed Tryd.func72 (by kernel_rfl) (Eq.mpr (by kernel_rfl : fev prg O.pstrings_Builder_grow Tryd.f72 [a0, a1] H K = F.pstrings_Builder_grow a0 a1 H K) h)

/-! (*strings.Builder).Grow: function 53 -/
def F.pstrings_Builder_Grow (a0 a1 : Value) (H : Hp) (K : Value → Hp → Prop) : Prop :=
  HT prg I.pstrings_Builder_copyCheck [a0].toArray H fun v5x1 H2 =>
  jn (fun σ3 H3 =>
    ob (vNilC (σ3 0)) fun v10x4 =>
    ob (vFa 1 v10x4) fun v11x5 =>
    ob (vLoad v11x5 H3) fun v12x6 =>
    ob (vCapSl v12x6) fun v13x7 =>
    ob (vNilC (σ3 0)) fun v15x8 =>
    ob (vFa 1 v15x8) fun v16x9 =>
    ob (vLoad v16x9 H3) fun v17x10 =>
    ob (vLenSl v17x10) fun v18x11 =>
    ob (vInt .sub v13x7 v18x11) fun v19x12 =>
    ob (vInt .lss v19x12 (σ3 1)) fun v21x13 =>
    cnd v21x13
      (HT prg I.pstrings_Builder_grow [(σ3 0), (σ3 1)].toArray H3 fun v24x14 H15 =>
      K (.tuple #[]) H15)
      (K (.tuple #[]) H3)) fun J3 =>
  ob (vInt .lss a1 (.int .i64 0)) fun v7x16 =>
  cnd v7x16
    (ob (val prg (Instr.makeInterface 9 (.string ⟨#[115, 116, 114, 105, 110, 103, 115, 46, 66, 117, 105, 108, 100, 101, 114, 46, 71, 114, 111, 119, 58, 32, 110, 101, 103, 97, 116, 105, 118, 101, 32, 99, 111, 117, 110, 116]⟩)) H2) fun v8x17 =>
    hp prg (do pure (Next.value (← Instr.panic v8x17))) H2 (nextH prg (fun _ H18 =>
    J3 (up (up (up (up (up (S0 [a0, a1]) 4 a0) 5 v5x1) 6 a1) 7 v7x16) 8 v8x17) H18)))
    (J3 (up (up (up (up (S0 [a0, a1]) 4 a0) 5 v5x1) 6 a1) 7 v7x16) H2)
def O.pstrings_Builder_Grow : Nat → Nat × List Nat := fun i => bif Nat.beq i 3 then (0, [0, 1, 2, 3, 4, 5, 6, 7, 8, 9, 10, 11, 12]) else (0, [])
theorem R.pstrings_Builder_Grow {a0 a1 : Value} {H : Hp} {K : Value → Hp → Prop} (h : F.pstrings_Builder_Grow a0 a1 H K) : HT prg I.pstrings_Builder_Grow [a0, a1].toArray H K :=
  HT_of_fev O.pstrings_Builder_Grow mixed Tryd.func53 (by kernel_rfl) (Eq.mpr (by kernel_rfl : fev prg O.pstrings_Builder_Grow Tryd.f53 [a0, a1] H K = F.pstrings_Builder_Grow a0 a1 H K) h)

/-! (*strings.Builder).WriteString: function 54 -/
def F.pstrings_Builder_WriteString (a0 a1 : Value) (H : Hp) (K : Value → Hp → Prop) : Prop :=
  HT prg I.pstrings_Builder_copyCheck [a0].toArray H fun v7x1 H2 =>
  ob (vNilC a0) fun v10x3 =>
  ob (vFa 1 v10x3) fun v11x4 =>
  ob (vLoad v11x4 H2) fun v12x5 =>
  apd 1 1 #[(.int .u8 0)] 5 v12x5 a1 H2 fun v14x6 H7 =>
  ob (vNilC a0) fun v15x8 =>
  ob (vFa 1 v15x8) fun v16x9 =>
  st 1 v16x9 v14x6 H7 fun H10 =>
  ob (vLenS a1) fun v18x11 =>
  K (.tuple #[v18x11, .nilIface]) H10
def O.pstrings_Builder_WriteString : Nat → Nat × List Nat := fun i => (0, [])
theorem R.pstrings_Builder_WriteString {a0 a1 : Value} {H : Hp} {K : Value → Hp → Prop} (h : F.pstrings_Builder_WriteString a0 a1 H K) : HT prg I.pstrings_Builder_WriteString [a0, a1].toArray H K :=
  HT_of_fev O.pstrings_Builder_WriteString mixed Tryd.func54 (by kernel_rfl) (Eq.mpr (by kernel_rfl : fev prg O.pstrings_Builder_WriteString Tryd.f54 [a0, a1] H K = F.pstrings_Builder_WriteString a0 a1 H K) h)

/-! (*strings.Builder).String: function 55 -/
def F.pstrings_Builder_String (a0 : Value) (H : Hp) (K : Value → Hp → Prop) : Prop :=
  (ob (vNilC a0) fun v4x1 =>
  ob (vFa 1 v4x1) fun v5x2 =>
  ob (vLoad v5x2 H) fun v6x3 =>
  ob (vNilC a0) fun v9x4 =>
  ob (vFa 1 v9x4) fun v10x5 =>
  ob (vLoad v10x5 H) fun v11x6 =>
  ob (vLenSl v11x6) fun v12x7 =>
  hp prg (builtin .unsafeSliceData #[65] 100 #[false] [v6x3].toArray) H (nextH prg (fun v7x8 H9 =>
  hp prg (builtin .unsafeString #[100, 3] 9 #[false, false] [v7x8, v12x7].toArray) H9 (nextH prg (fun v13x10 H11 =>
  K v13x10 H11))))) ∧ (ob (vNilC a0) fun v4x12 =>
  ob (vFa 1 v4x12) fun v5x13 =>
  ob (vLoad v5x13 H) fun v6x14 =>
  ob (vNilC a0) fun v9x15 =>
  ob (vFa 1 v9x15) fun v10x16 =>
  hp prg (builtin .unsafeSliceData #[65] 100 #[false] [v6x14].toArray) H (nextH prg (fun v7x17 H18 =>
  ob (vLoad v10x16 H18) fun v11x19 =>
  ob (vLenSl v11x19) fun v12x20 =>
  hp prg (builtin .unsafeString #[100, 3] 9 #[false, false] [v7x17, v12x20].toArray) H18 (nextH prg (fun v13x21 H22 =>
  K v13x21 H22)))))
def O.pstrings_Builder_String : Nat → Nat × List Nat := fun i => bif Nat.beq i 1 then (0, [1008, 1004, 0, 1, 2, 3, 5, 6, 7, 8, 9, 4, 10, 11, 0, 1, 2, 3, 5, 6, 7, 4, 8, 9, 10, 11]) else (0, [])
theorem R.pstrings_Builder_String {a0 : Value} {H : Hp} {K : Value → Hp → Prop} (h : F.pstrings_Builder_String a0 H K) : HT prg I.pstrings_Builder_String [a0].toArray H K :=
  HT_of_fev O.pstrings_Builder_String mixed Tryd.func55 (by kernel_rfl) (Eq.mpr (by kernel_rfl : fev prg O.pstrings_Builder_String Tryd.f55 [a0] H K = F.pstrings_Builder_String a0 H K) h)

/-! strings.Join: function 38 -/
def F.strings_Join (a0 a1 : Value) (H : Hp) (K : Value → Hp → Prop) : Prop :=
  ob (vLenSl a0) fun v12x1 =>
  ob (vInt .eql v12x1 (.int .i64 0)) fun v14x2 =>
  cnd v14x2
    (K (.string ⟨#[]⟩) H)
    (ob (vInt .eql v12x1 (.int .i64 1)) fun v16x3 =>
    cnd v16x3
      (ob (vIx 1 a0 (.int .i64 0)) fun v18x4 =>
      ob (vLoad v18x4 H) fun v19x5 =>
      K v19x5 H)
      (jn (fun σ6 H6 =>
    jn (fun σ7 H7 =>
      nw #[(.pointer none), (.slice none 0 0)] 81 H7 fun v8x8 H9 =>
      HT prg I.pstrings_Builder_Grow [v8x8, (σ7 5)].toArray H9 fun v57x10 H11 =>
      ob (vIx 1 (σ7 0) (.int .i64 0)) fun v59x12 =>
      ob (vLoad v59x12 H11) fun v60x13 =>
      HT prg I.pstrings_Builder_WriteString [v8x8, v60x13].toArray H11 fun v61x14 H15 =>
      jn (fun σ16 H16 =>
        HT prg I.pstrings_Builder_String [(σ16 8)].toArray H16 fun v74x17 H18 =>
        K v74x17 H18) fun J16 =>
      ob (vSl3 1 (σ7 0) (some (.int .i64 1)) none none) fun v63x19 =>
      ob (vLenSl v63x19) fun v64x20 =>
      lpE (fun Q21 σ21 H21 =>
        ob (vInt .lss (σ21 65) (σ21 64)) fun v66x22 =>
        cnd v66x22
          (ob (vIx 1 (σ21 63) (σ21 65)) fun v67x23 =>
        ob (vLoad v67x23 H21) fun v68x24 =>
        HT prg I.pstrings_Builder_WriteString [(σ21 8), (σ21 1)].toArray H21 fun v70x25 H26 =>
        HT prg I.pstrings_Builder_WriteString [(σ21 8), v68x24].toArray H26 fun v72x27 H28 =>
        ob (vInt .add (σ21 65) (.int .i64 1)) fun v73x29 =>
        Q21 .normal (up (up (up (up (up (up (up (up (up (up σ21 66 v66x22) 67 v67x23) 68 v68x24) 10 v68x24) 69 (σ21 1)) 70 v70x25) 71 v68x24) 72 v72x27) 73 v73x29) 65 v73x29) H28)
          (Q21 (.exit 3) (up σ21 66 v66x22) H21)) (blkQ 3 (thenQ J16 (retQ prg [(.tmp 4)] K))) (up (up (up (up (up (up (up (up (up (up (up σ7 8 v8x8) 56 (σ7 5)) 57 v57x10) 58 (σ7 0)) 59 v59x12) 60 v60x13) 61 v61x14) 62 (σ7 0)) 63 v63x19) 64 v64x20) 65 (.int .i64 0)) H15) fun J7 =>
    ob (vLenSl (σ6 0)) fun v40x30 =>
    lpE (fun Q31 σ31 H31 =>
      ob (vInt .lss (σ31 41) (σ31 40)) fun v42x32 =>
      cnd v42x32
        (ob (vIx 1 (σ31 39) (σ31 41)) fun v43x33 =>
      ob (vLoad v43x33 H31) fun v44x34 =>
      ob (vLenS v44x34) fun v46x35 =>
      ob (vInt .sub (.int .i64 9223372036854775807) (σ31 5)) fun v48x36 =>
      ob (vInt .gtr v46x35 v48x36) fun v49x37 =>
      cnd v49x37
        (ob (val prg (Instr.makeInterface 9 (.string ⟨#[115, 116, 114, 105, 110, 103, 115, 58, 32, 74, 111, 105, 110, 32, 111, 117, 116, 112, 117, 116, 32, 108, 101, 110, 103, 116, 104, 32, 111, 118, 101, 114, 102, 108, 111, 119]⟩)) H31) fun v50x38 =>
        hp prg (do pure (Next.value (← Instr.panic v50x38))) H31 (nextH prg (fun _ H39 =>
        ob (vLenS v44x34) fun v53x40 =>
      ob (vInt .add (σ31 5) v53x40) fun v54x41 =>
      ob (vInt .add (σ31 41) (.int .i64 1)) fun v55x42 =>
      Q31 .normal (up (up (up (up (up (up (up (up (up (up (up (up (up (up (up (up (up σ31 42 v42x32) 43 v43x33) 44 v44x34) 7 v44x34) 45 v44x34) 46 v46x35) 47 (σ31 5)) 48 v48x36) 49 v49x37) 50 v50x38) 51 (σ31 5)) 52 v44x34) 53 v53x40) 54 v54x41) 5 v54x41) 55 v55x42) 41 v55x42) H39)))
        (ob (vLenS v44x34) fun v53x43 =>
      ob (vInt .add (σ31 5) v53x43) fun v54x44 =>
      ob (vInt .add (σ31 41) (.int .i64 1)) fun v55x45 =>
      Q31 .normal (up (up (up (up (up (up (up (up (up (up (up (up (up (up (up (up σ31 42 v42x32) 43 v43x33) 44 v44x34) 7 v44x34) 45 v44x34) 46 v46x35) 47 (σ31 5)) 48 v48x36) 49 v49x37) 51 (σ31 5)) 52 v44x34) 53 v53x43) 54 v54x44) 5 v54x44) 55 v55x45) 41 v55x45) H31))
        (Q31 (.exit 1) (up σ31 42 v42x32) H31)) (blkQ 1 (thenQ J7 (retQ prg [(.tmp 4)] K))) (up (up (up σ6 39 (σ6 0)) 40 v40x30) 41 (.int .i64 0)) H6) fun J6 =>
  ob (vLenS a1) fun v21x46 =>
  ob (vInt .gtr v21x46 (.int .i64 0)) fun v22x47 =>
  cnd v22x47
    (ob (vLenS a1) fun v24x48 =>
    ob (vLenSl a0) fun v26x49 =>
    ob (vInt .sub v26x49 (.int .i64 1)) fun v27x50 =>
    ob (vInt .quo (.int .i64 9223372036854775807) v27x50) fun v28x51 =>
    ob (vInt .geq v24x48 v28x51) fun v29x52 =>
    cnd v29x52
      (ob (val prg (Instr.makeInterface 9 (.string ⟨#[115, 116, 114, 105, 110, 103, 115, 58, 32, 74, 111, 105, 110, 32, 111, 117, 116, 112, 117, 116, 32, 108, 101, 110, 103, 116, 104, 32, 111, 118, 101, 114, 102, 108, 111, 119]⟩)) H) fun v30x53 =>
      hp prg (do pure (Next.value (← Instr.panic v30x53))) H (nextH prg (fun _ H54 =>
      ob (vLenS a1) fun v33x55 =>
    ob (vLenSl a0) fun v35x56 =>
    ob (vInt .sub v35x56 (.int .i64 1)) fun v36x57 =>
    ob (vInt .mul v33x55 v36x57) fun v37x58 =>
    ob (vInt .add (.int .i64 0) v37x58) fun v38x59 =>
    J6 (up (up (up (up (up (up (up (up (up (up (up (up (up (up (up (up (up (up (up (up (up (up (up (up (up (up (up (up (S0 [a0, a1]) 4 (.string ⟨#[]⟩)) 11 a0) 12 v12x1) 14 v14x2) 13 v14x2) 16 v16x3) 15 v16x3) 5 (.int .i64 0)) 20 a1) 21 v21x46) 22 v22x47) 23 a1) 24 v24x48) 25 a0) 26 v26x49) 27 v27x50) 28 v28x51) 29 v29x52) 30 v30x53) 31 (.int .i64 0)) 32 a1) 33 v33x55) 34 a0) 35 v35x56) 36 v36x57) 37 v37x58) 38 v38x59) 5 v38x59) H54)))
      (ob (vLenS a1) fun v33x60 =>
    ob (vLenSl a0) fun v35x61 =>
    ob (vInt .sub v35x61 (.int .i64 1)) fun v36x62 =>
    ob (vInt .mul v33x60 v36x62) fun v37x63 =>
    ob (vInt .add (.int .i64 0) v37x63) fun v38x64 =>
    J6 (up (up (up (up (up (up (up (up (up (up (up (up (up (up (up (up (up (up (up (up (up (up (up (up (up (up (up (S0 [a0, a1]) 4 (.string ⟨#[]⟩)) 11 a0) 12 v12x1) 14 v14x2) 13 v14x2) 16 v16x3) 15 v16x3) 5 (.int .i64 0)) 20 a1) 21 v21x46) 22 v22x47) 23 a1) 24 v24x48) 25 a0) 26 v26x49) 27 v27x50) 28 v28x51) 29 v29x52) 31 (.int .i64 0)) 32 a1) 33 v33x60) 34 a0) 35 v35x61) 36 v36x62) 37 v37x63) 38 v38x64) 5 v38x64) H))
    (J6 (up (up (up (up (up (up (up (up (up (up (up (S0 [a0, a1]) 4 (.string ⟨#[]⟩)) 11 a0) 12 v12x1) 14 v14x2) 13 v14x2) 16 v16x3) 15 v16x3) 5 (.int .i64 0)) 20 a1) 21 v21x46) 22 v22x47) H)))
def O.strings_Join : Nat → Nat × List Nat := fun i => (0, [])
theorem R.strings_Join {a0 a1 : Value} {H : Hp} {K : Value → Hp → Prop} (h : F.strings_Join a0 a1 H K) : HT prg I.strings_Join [a0, a1].toArray H K :=
  HT_of_fev O.strings_Join mixed Tryd.func38 (by kernel_rfl) (Eq.mpr (by kernel_rfl : fev prg O.strings_Join Tryd.f38 [a0, a1] H K = F.strings_Join a0 a1 H K) h)

/-! (loop.example/g01381/impl.Field).text: function 20 -/
def F.impl_Field_text (a0 : Value) (H : Hp) (K : Value → Hp → Prop) : Prop :=
  nw (a0 : Value).cells 24 H fun v1x1 H2 =>
  bS 1 0 #[(.string ⟨#[]⟩)] 9 [] H2 fun v5x3 H4 =>
  nw #[(.slice none 0 0)] 43 H4 fun v3x5 H6 =>
  st 1 v3x5 v5x3 H6 fun H7 =>
  jn (fun σ8 H8 =>
    ob (vFa 1 (σ8 1)) fun v17x9 =>
    ob (vLoad v17x9 H8) fun v18x10 =>
    ob (vFa 0 (σ8 1)) fun v21x11 =>
    ob (vLoad v21x11 H8) fun v22x12 =>
    ob (vLoad (σ8 3) H8) fun v26x13 =>
    HT prg I.impl_Decimal [v18x10].toArray H8 fun v19x14 H15 =>
    Le H8 H15 ∧ (ob (vStr .add v19x14 (.string ⟨#[44]⟩)) fun v20x16 =>
    HT prg I.impl_Decimal [v22x12].toArray H15 fun v23x17 H18 =>
    Le H15 H18 ∧ (ob (vStr .add v20x16 v23x17) fun v24x19 =>
    ob (vStr .add v24x19 (.string ⟨#[58]⟩)) fun v25x20 =>
    HT prg I.strings_Join [v26x13, (.string ⟨#[36]⟩)].toArray H18 fun v27x21 H22 =>
    Le H18 H22 ∧ (ob (vStr .add v25x20 v27x21) fun v28x23 =>
    ob (vStr .add v28x23 (.string ⟨#[33]⟩)) fun v29x24 =>
    K v29x24 H22)))) fun J8 =>
  ob (vFa 2 v1x1) fun v6x25 =>
  ob (vLoad v6x25 H7) fun v7x26 =>
  ob (vFa 1 v1x1) fun v8x27 =>
  ob (vLoad v8x27 H7) fun v9x28 =>
  HT prg I.slices_Chunk_int64Zint64 [v7x26, v9x28].toArray H7 fun v10x29 H30 =>
  rgE prg v10x29 [11] (fun Q31 σ31 H31 =>
    ob (vLoad (σ31 3) H31) fun v12x32 =>
    HT prg I.impl_runsText [(σ31 11)].toArray H31 fun v14x33 H34 =>
    Le H31 H34 ∧ (bS 1 1 #[(.string ⟨#[]⟩)] 9 [(0, v14x33)] H34 fun v15x35 H36 =>
    apd 1 16 #[(.string ⟨#[]⟩)] 9 v12x32 v15x35 H36 fun v16x37 H38 =>
    st 1 (σ31 3) v16x37 H38 fun H39 =>
    Q31 .normal (up (up (up (up (up (up σ31 4 (σ31 11)) 12 v12x32) 13 (σ31 11)) 14 v14x33) 15 v15x35) 16 v16x37) H39)) (blkQ 0 (thenQ J8 (retQ prg [(.tmp 2)] K))) (up (up (up (up (up (up (up (up (up (S0 [a0]) 1 v1x1) 2 (.string ⟨#[]⟩)) 5 v5x3) 3 v3x5) 6 v6x25) 7 v7x26) 8 v8x27) 9 v9x28) 10 v10x29) H30
def O.impl_Field_text : Nat → Nat × List Nat := fun i => bif Nat.beq i 5 then (0, [0, 1, 4, 5, 9, 2, 3, 6, 7, 8, 10, 11, 12, 13]) else bif Nat.beq i 4 then (0, [0, 1, 2, 3, 4, 5]) else (0, [])
theorem R.impl_Field_text {a0 : Value} {H : Hp} {K : Value → Hp → Prop} (h : F.impl_Field_text a0 H K) : HT prg I.impl_Field_text [a0].toArray H K :=
  HT_of_fev O.impl_Field_text mixed Tryd.func20 (by kernel_rfl) (Eq.mpr (by kernel_rfl : fev prg O.impl_Field_text Tryd.f20 [a0] H K = F.impl_Field_text a0 H K) h)

/-! loop.example/g01381/impl.ReadRuns: function 5 -/
def F.impl_ReadRuns (a0 : Value) (H : Hp) (K : Value → Hp → Prop) : Prop :=
  nw #[(.int .i64 0), (.int .i64 0), (.slice none 0 0)] 24 H fun v2x1 H2 =>
  ob (vLenS a0) fun v21x3 =>
  ob (vInt .gtr v21x3 (.int .i64 1200)) fun v22x4 =>
  cnd v22x4
    (ob (vBuild [(0, 1), (1, 1), (2, 1)] (.agg #[(.int .i64 0), (.int .i64 0), (.slice none 0 0)]) []) fun v23x5 =>
    st 3 v2x1 v23x5 H2 fun H6 =>
    ob (vLoadN 3 v2x1 H6) fun u7 => K (.tuple #[u7, (.bool false)]) H6)
    (HT prg I.strings_Cut [a0, (.string ⟨#[58]⟩)].toArray H2 fun v26x8 H9 =>
  ob (vExt v26x8 0) fun v27x10 =>
  ob (vExt v26x8 1) fun v28x11 =>
  ob (vExt v26x8 2) fun v29x12 =>
  HT prg I.strings_Cut [v27x10, (.string ⟨#[44]⟩)].toArray H9 fun v32x13 H14 =>
  ob (vExt v32x13 0) fun v33x15 =>
  ob (vExt v32x13 1) fun v34x16 =>
  ob (vExt v32x13 2) fun v35x17 =>
  HT prg I.impl_ReadDecimal [v33x15].toArray H14 fun v38x18 H19 =>
  ob (vExt v38x18 0) fun v39x20 =>
  ob (vExt v38x18 1) fun v40x21 =>
  HT prg I.impl_ReadDecimal [v34x16].toArray H19 fun v43x22 H23 =>
  ob (vExt v43x22 0) fun v44x24 =>
  ob (vExt v43x22 1) fun v45x25 =>
  HT prg I.strings_CutSuffix [v28x11, (.string ⟨#[33]⟩)].toArray H23 fun v48x26 H27 =>
  ob (vExt v48x26 0) fun v49x28 =>
  ob (vExt v48x26 1) fun v50x29 =>
  ob (vUn .not v40x21) fun v52x30 =>
  gop v52x30 false (fun K31 => K31 v45x25 H27) H27 fun v54x32 H33 =>
  gop v52x30 false (fun K34 => ob (vUn .not v54x32) fun u => K34 u H33) H33 fun v55x35 H36 =>
  ob (vPick v52x30 (.bool true) v55x35) fun v56x37 =>
  gop v56x37 false (fun K38 => K38 v50x29 H36) H36 fun v58x39 H40 =>
  gop v56x37 false (fun K41 => ob (vUn .not v58x39) fun u => K41 u H40) H40 fun v59x42 H43 =>
  ob (vPick v56x37 (.bool true) v59x42) fun v60x44 =>
  gop v60x44 false (fun K45 => K45 v44x24 H43) H43 fun v62x46 H47 =>
  gop v60x44 false (fun K48 => HT prg I.impl_isSide [v62x46].toArray H47 K48) H47 fun v63x49 H50 =>
  gop v60x44 false (fun K51 => ob (vUn .not v63x49) fun u => K51 u H50) H50 fun v64x52 H53 =>
  ob (vPick v60x44 (.bool true) v64x52) fun v65x54 =>
  gop v65x54 false (fun K55 => K55 v39x20 H53) H53 fun v67x56 H57 =>
  gop v65x54 false (fun K58 => HT prg I.impl_isSide [v67x56].toArray H57 K58) H57 fun v68x59 H60 =>
  gop v65x54 false (fun K61 => ob (vUn .not v68x59) fun u => K61 u H60) H60 fun v69x62 H63 =>
  ob (vPick v65x54 (.bool true) v69x62) fun v70x64 =>
  cnd v70x64
    (ob (vBuild [(0, 1), (1, 1), (2, 1)] (.agg #[(.int .i64 0), (.int .i64 0), (.slice none 0 0)]) []) fun v71x65 =>
    st 3 v2x1 v71x65 H63 fun H66 =>
    ob (vLoadN 3 v2x1 H66) fun u67 => K (.tuple #[u67, (.bool false)]) H66)
    (ob (vBuild [(0, 1), (1, 1), (2, 1)] (.agg #[(.int .i64 0), (.int .i64 0), (.slice none 0 0)]) [(0, v44x24), (1, v39x20)]) fun v74x68 =>
  nw #[(.int .i64 0), (.int .i64 0), (.slice none 0 0)] 24 H63 fun v15x69 H70 =>
  st 3 v15x69 v74x68 H70 fun H71 =>
  jn (fun σ72 H72 =>
    ob (vLoadN 3 (σ72 15) H72) fun v97x73 =>
    HT prg I.impl_isPlain [v97x73].toArray H72 fun v98x74 H75 =>
    ob (vUn .not v98x74) fun v99x76 =>
    gop v99x76 false (fun K77 => ob (vLoadN 3 (σ72 15) H75) fun u => K77 u H75) H75 fun v101x78 H79 =>
    gop v99x76 false (fun K80 => HT prg I.impl_Field_text [v101x78].toArray H79 K80) H79 fun v102x81 H82 =>
    gop v99x76 false (fun K83 => K83 (σ72 0) H82) H82 fun v103x84 H85 =>
    gop v99x76 false (fun K86 => ob (vStr .neq v102x81 v103x84) fun u => K86 u H85) H85 fun v104x87 H88 =>
    ob (vPick v99x76 (.bool true) v104x87) fun v105x89 =>
    cnd v105x89
      (ob (vBuild [(0, 1), (1, 1), (2, 1)] (.agg #[(.int .i64 0), (.int .i64 0), (.slice none 0 0)]) []) fun v106x90 =>
      st 3 (σ72 2) v106x90 H88 fun H91 =>
      ob (vLoadN 3 (σ72 2) H91) fun u92 => K (.tuple #[u92, (.bool false)]) H91)
      (ob (vLoadN 3 (σ72 15) H88) fun v107x93 =>
    st 3 (σ72 2) v107x93 H88 fun H94 =>
    ob (vLoadN 3 (σ72 2) H94) fun u95 => K (.tuple #[u95, (.bool true)]) H94)) fun J72 =>
  HT prg I.strings_Split [v49x28, (.string ⟨#[36]⟩)].toArray H71 fun v76x96 H97 =>
  ob (vLenSl v76x96) fun v77x98 =>
  lpE (fun Q99 σ99 H99 =>
    ob (vInt .lss (σ99 78) (σ99 77)) fun v79x100 =>
    cnd v79x100
      (ob (vIx 1 (σ99 76) (σ99 78)) fun v80x101 =>
    ob (vLoad v80x101 H99) fun v81x102 =>
    HT prg I.impl_readRow [v81x102, (σ99 10)].toArray H99 fun v85x103 H104 =>
    ob (vExt v85x103 0) fun v86x105 =>
    ob (vExt v85x103 1) fun v87x106 =>
    ob (vUn .not v87x106) fun v89x107 =>
    cnd v89x107
      (ob (vBuild [(0, 1), (1, 1), (2, 1)] (.agg #[(.int .i64 0), (.int .i64 0), (.slice none 0 0)]) []) fun v90x108 =>
      st 3 (σ99 2) v90x108 H104 fun H109 =>
      Q99 .ret (up (up (up (up (up (up (up (up (up (up (up (up (up (up (up (up σ99 79 v79x100) 80 v80x101) 81 v81x102) 17 v81x102) 83 v81x102) 84 (σ99 10)) 85 v85x103) 82 v85x103) 86 v86x105) 87 v87x106) 18 v86x105) 19 v87x106) 88 v87x106) 89 v89x107) 90 v90x108) 3 (.bool false)) H109)
      (ob (vFa 2 (σ99 15)) fun v91x110 =>
    ob (vLoad v91x110 H104) fun v92x111 =>
    apd 1 8 #[(.int .i64 0)] 2 v92x111 v86x105 H104 fun v94x112 H113 =>
    ob (vFa 2 (σ99 15)) fun v95x114 =>
    st 1 v95x114 v94x112 H113 fun H115 =>
    ob (vInt .add (σ99 78) (.int .i64 1)) fun v96x116 =>
    Q99 .normal (up (up (up (up (up (up (up (up (up (up (up (up (up (up (up (up (up (up (up (up (up σ99 79 v79x100) 80 v80x101) 81 v81x102) 17 v81x102) 83 v81x102) 84 (σ99 10)) 85 v85x103) 82 v85x103) 86 v86x105) 87 v87x106) 18 v86x105) 19 v87x106) 88 v87x106) 89 v89x107) 91 v91x110) 92 v92x111) 93 v86x105) 94 v94x112) 95 v95x114) 96 v96x116) 78 v96x116) H115))
      (Q99 (.exit 0) (up σ99 79 v79x100) H99)) (blkQ 0 (thenQ J72 (retQ prg [(.cell 2 24), (.tmp 3)] K))) (up (up (up (up (up (up (up (up (up (up (up (up (up (up (up (up (up (up (up (up (up (up (up (up (up (up (up (up (up (up (up (up (up (up (up (up (up (up (up (up (up (up (up (up (up (up (up (up (up (up (up (up (up (up (up (up (up (up (up (up (up (up (up (up (up (up (up (up (up (up (up (up (S0 [a0]) 2 v2x1) 3 (.bool false)) 20 a0) 21 v21x3) 22 v22x4) 25 a0) 26 v26x8) 24 v26x8) 27 v27x10) 28 v28x11) 29 v29x12) 4 v27x10) 5 v28x11) 6 v29x12) 31 v27x10) 32 v32x13) 30 v32x13) 33 v33x15) 34 v34x16) 35 v35x17) 7 v33x15) 8 v34x16) 9 v35x17) 37 v33x15) 38 v38x18) 36 v38x18) 39 v39x20) 40 v40x21) 10 v39x20) 11 v40x21) 42 v34x16) 43 v43x22) 41 v43x22) 44 v44x24) 45 v45x25) 12 v44x24) 13 v45x25) 47 v28x11) 48 v48x26) 46 v48x26) 49 v49x28) 50 v50x29) 5 v49x28) 14 v50x29) 51 v40x21) 52 v52x30) 53 v52x30) 54 v54x32) 55 v55x35) 56 v56x37) 57 v56x37) 58 v58x39) 59 v59x42) 60 v60x44) 61 v60x44) 62 v62x46) 63 v63x49) 64 v64x52) 65 v65x54) 66 v65x54) 67 v67x56) 68 v68x59) 69 v69x62) 70 v70x64) 72 v44x24) 73 v39x20) 74 v74x68) 15 v15x69) 75 v49x28) 76 v76x96) 77 v77x98) 78 (.int .i64 0)) H97))
def O.impl_ReadRuns : Nat → Nat × List Nat := fun i => (0, [])
theorem R.impl_ReadRuns {a0 : Value} {H : Hp} {K : Value → Hp → Prop} (h : F.impl_ReadRuns a0 H K) : HT prg I.impl_ReadRuns [a0].toArray H K :=
  HT_of_fev O.impl_ReadRuns mixed Tryd.func5 (by kernel_rfl) (Eq.mpr (by kernel_rfl : fev prg O.impl_ReadRuns Tryd.f5 [a0] H K = F.impl_ReadRuns a0 H K) h)

/-! loop.example/g01381/laws.eqInt64S: function 21 -/
def F.laws_eqInt64S (a0 a1 : Value) (H : Hp) (K : Value → Hp → Prop) : Prop :=
  ob (vLenSl a0) fun v7x1 =>
  ob (vLenSl a1) fun v9x2 =>
  ob (vInt .neq v7x1 v9x2) fun v10x3 =>
  cnd v10x3
    (K (.bool false) H)
    (jn (fun σ4 H4 =>
    K (.bool true) H4) fun J4 =>
  lpE (fun Q5 σ5 H5 =>
    ob (vLenSl (σ5 0)) fun v13x6 =>
    ob (vInt .lss (σ5 5) v13x6) fun v14x7 =>
    cnd v14x7
      (ob (vIx 1 (σ5 0) (σ5 5)) fun v19x8 =>
    ob (vLoad v19x8 H5) fun v20x9 =>
    ob (vIx 1 (σ5 1) (σ5 5)) fun v23x10 =>
    ob (vLoad v23x10 H5) fun v24x11 =>
    ob (vInt .neq v20x9 v24x11) fun v25x12 =>
    cnd v25x12
      (Q5 .ret (up (up (up (up (up (up (up (up (up (up (up (up (up (up σ5 11 (σ5 5)) 12 (σ5 0)) 13 v13x6) 14 v14x7) 17 (σ5 0)) 18 (σ5 5)) 19 v19x8) 20 v20x9) 21 (σ5 1)) 22 (σ5 5)) 23 v23x10) 24 v24x11) 25 v25x12) 4 (.bool false)) H5)
      (ob (vInt .add (σ5 5) (.int .i64 1)) fun v16x13 =>
    Q5 .normal (up (up (up (up (up (up (up (up (up (up (up (up (up (up (up (up σ5 11 (σ5 5)) 12 (σ5 0)) 13 v13x6) 14 v14x7) 17 (σ5 0)) 18 (σ5 5)) 19 v19x8) 20 v20x9) 21 (σ5 1)) 22 (σ5 5)) 23 v23x10) 24 v24x11) 25 v25x12) 15 (σ5 5)) 16 v16x13) 5 v16x13) H5))
      (Q5 (.exit 0) (up (up (up (up σ5 11 (σ5 5)) 12 (σ5 0)) 13 v13x6) 14 v14x7) H5)) (blkQ 0 (thenQ J4 (retQ prg [(.tmp 4)] K))) (up (up (up (up (up (up (up (S0 [a0, a1]) 4 (.bool false)) 6 a0) 7 v7x1) 8 a1) 9 v9x2) 10 v10x3) 5 (.int .i64 0)) H)
def O.laws_eqInt64S : Nat → Nat × List Nat := fun i => bif Nat.beq i 6 then (0, [0, 1, 2, 3, 4, 5, 6, 7, 8]) else (0, [])
theorem R.laws_eqInt64S {a0 a1 : Value} {H : Hp} {K : Value → Hp → Prop} (h : F.laws_eqInt64S a0 a1 H K) : HT prg I.laws_eqInt64S [a0, a1].toArray H K :=
  HT_of_fev O.laws_eqInt64S mixed Tryd.func21 (by kernel_rfl) (Eq.mpr (by kernel_rfl : fev prg O.laws_eqInt64S Tryd.f21 [a0, a1] H K = F.laws_eqInt64S a0 a1 H K) h)

/-! loop.example/g01381/laws.eqField: function 6 -/
def F.laws_eqField (a0 a1 : Value) (H : Hp) (K : Value → Hp → Prop) : Prop :=
  nw (a0 : Value).cells 24 H fun v2x1 H2 =>
  nw (a1 : Value).cells 24 H2 fun v3x3 H4 =>
  ob (vFa 0 v2x1) fun v5x5 =>
  ob (vLoad v5x5 H4) fun v6x6 =>
  ob (vFa 0 v3x3) fun v7x7 =>
  ob (vLoad v7x7 H4) fun v8x8 =>
  ob (vInt .neq v6x6 v8x8) fun v9x9 =>
  cnd v9x9
    (K (.bool false) H4)
    (ob (vFa 1 v2x1) fun v10x10 =>
  ob (vLoad v10x10 H4) fun v11x11 =>
  ob (vFa 1 v3x3) fun v12x12 =>
  ob (vLoad v12x12 H4) fun v13x13 =>
  ob (vInt .neq v11x11 v13x13) fun v14x14 =>
  cnd v14x14
    (K (.bool false) H4)
    (ob (vFa 2 v2x1) fun v15x15 =>
  ob (vLoad v15x15 H4) fun v16x16 =>
  ob (vFa 2 v3x3) fun v17x17 =>
  ob (vLoad v17x17 H4) fun v18x18 =>
  HT prg I.laws_eqInt64S [v16x16, v18x18].toArray H4 fun v19x19 H20 =>
  ob (vUn .not v19x19) fun v20x21 =>
  cnd v20x21
    (K (.bool false) H20)
    (K (.bool true) H20)))
def O.laws_eqField : Nat → Nat × List Nat := fun i => (0, [])
theorem R.laws_eqField {a0 a1 : Value} {H : Hp} {K : Value → Hp → Prop} (h : F.laws_eqField a0 a1 H K) : HT prg I.laws_eqField [a0, a1].toArray H K :=
  HT_of_fev O.laws_eqField mixed Tryd.func6 (by kernel_rfl) (Eq.mpr (by kernel_rfl : fev prg O.laws_eqField Tryd.f6 [a0, a1] H K = F.laws_eqField a0 a1 H K) h)

/-! loop.example/g01381/laws.markInt64S: function 22 -/
def F.laws_markInt64S (a0 a1 : Value) (H : Hp) (K : Value → Hp → Prop) : Prop :=
  jn (fun σ1 H1 =>
    K (σ1 1) H1) fun J1 =>
  lpE (fun Q2 σ2 H2 =>
    ob (vLenSl (σ2 0)) fun v8x3 =>
    ob (vInt .lss (σ2 5) v8x3) fun v9x4 =>
    cnd v9x4
      (ob (vIx 1 (σ2 0) (σ2 5)) fun v15x5 =>
    st 1 v15x5 (σ2 1) H2 fun H6 =>
    ob (vInt .add (σ2 1) (.int .i64 1)) fun v17x7 =>
    ob (vInt .add (σ2 5) (.int .i64 1)) fun v11x8 =>
    Q2 .normal (up (up (up (up (up (up (up (up (up (up (up (up (up (up σ2 6 (σ2 5)) 7 (σ2 0)) 8 v8x3) 9 v9x4) 12 (σ2 0)) 13 (σ2 5)) 14 (σ2 1)) 15 v15x5) 16 (σ2 1)) 17 v17x7) 1 v17x7) 10 (σ2 5)) 11 v11x8) 5 v11x8) H6)
      (Q2 (.exit 0) (up (up (up (up σ2 6 (σ2 5)) 7 (σ2 0)) 8 v8x3) 9 v9x4) H2)) (blkQ 0 (thenQ J1 (retQ prg [(.tmp 4)] K))) (up (up (S0 [a0, a1]) 4 (.int .i64 0)) 5 (.int .i64 0)) H
def O.laws_markInt64S : Nat → Nat × List Nat := fun i => (0, [])
theorem R.laws_markInt64S {a0 a1 : Value} {H : Hp} {K : Value → Hp → Prop} (h : F.laws_markInt64S a0 a1 H K) : HT prg I.laws_markInt64S [a0, a1].toArray H K :=
  HT_of_fev O.laws_markInt64S mixed Tryd.func22 (by kernel_rfl) (Eq.mpr (by kernel_rfl : fev prg O.laws_markInt64S Tryd.f22 [a0, a1] H K = F.laws_markInt64S a0 a1 H K) h)

/-! loop.example/g01381/laws.markField: function 7 -/
def F.laws_markField (a0 a1 : Value) (H : Hp) (K : Value → Hp → Prop) : Prop :=
  nw (a0 : Value).cells 24 H fun v2x1 H2 =>
  ob (vFa 2 v2x1) fun v5x3 =>
  ob (vLoad v5x3 H2) fun v6x4 =>
  HT prg I.laws_markInt64S [v6x4, a1].toArray H2 fun v8x5 H6 =>
  K v8x5 H6
def O.laws_markField : Nat → Nat × List Nat := fun i => (0, [])
theorem R.laws_markField {a0 a1 : Value} {H : Hp} {K : Value → Hp → Prop} (h : F.laws_markField a0 a1 H K) : HT prg I.laws_markField [a0, a1].toArray H K :=
  HT_of_fev O.laws_markField mixed Tryd.func7 (by kernel_rfl) (Eq.mpr (by kernel_rfl : fev prg O.laws_markField Tryd.f7 [a0, a1] H K = F.laws_markField a0 a1 H K) h)

/-! loop.example/g01381/laws.heldInt64S: function 23 -/
def F.laws_heldInt64S (a0 a1 : Value) (H : Hp) (K : Value → Hp → Prop) : Prop :=
  jn (fun σ1 H1 =>
    K (σ1 1) H1) fun J1 =>
  lpE (fun Q2 σ2 H2 =>
    ob (vLenSl (σ2 0)) fun v8x3 =>
    ob (vInt .lss (σ2 5) v8x3) fun v9x4 =>
    cnd v9x4
      (ob (vIx 1 (σ2 0) (σ2 5)) fun v14x5 =>
    ob (vLoad v14x5 H2) fun v15x6 =>
    ob (vInt .neq v15x6 (σ2 1)) fun v17x7 =>
    cnd v17x7
      (Q2 .ret (up (up (up (up (up (up (up (up (up (up (up σ2 6 (σ2 5)) 7 (σ2 0)) 8 v8x3) 9 v9x4) 12 (σ2 0)) 13 (σ2 5)) 14 v14x5) 15 v15x6) 16 (σ2 1)) 17 v17x7) 4 (.int .i64 (-1))) H2)
      (ob (vInt .add (σ2 1) (.int .i64 1)) fun v19x8 =>
    ob (vInt .add (σ2 5) (.int .i64 1)) fun v11x9 =>
    Q2 .normal (up (up (up (up (up (up (up (up (up (up (up (up (up (up (up (up σ2 6 (σ2 5)) 7 (σ2 0)) 8 v8x3) 9 v9x4) 12 (σ2 0)) 13 (σ2 5)) 14 v14x5) 15 v15x6) 16 (σ2 1)) 17 v17x7) 18 (σ2 1)) 19 v19x8) 1 v19x8) 10 (σ2 5)) 11 v11x9) 5 v11x9) H2))
      (Q2 (.exit 0) (up (up (up (up σ2 6 (σ2 5)) 7 (σ2 0)) 8 v8x3) 9 v9x4) H2)) (blkQ 0 (thenQ J1 (retQ prg [(.tmp 4)] K))) (up (up (S0 [a0, a1]) 4 (.int .i64 0)) 5 (.int .i64 0)) H
def O.laws_heldInt64S : Nat → Nat × List Nat := fun i => (0, [])
theorem R.laws_heldInt64S {a0 a1 : Value} {H : Hp} {K : Value → Hp → Prop} (h : F.laws_heldInt64S a0 a1 H K) : HT prg I.laws_heldInt64S [a0, a1].toArray H K :=
  HT_of_fev O.laws_heldInt64S mixed Tryd.func23 (by kernel_rfl) (Eq.mpr (by kernel_rfl : fev prg O.laws_heldInt64S Tryd.f23 [a0, a1] H K = F.laws_heldInt64S a0 a1 H K) h)

/-! loop.example/g01381/laws.heldField: function 8 -/
def F.laws_heldField (a0 a1 : Value) (H : Hp) (K : Value → Hp → Prop) : Prop :=
  nw (a0 : Value).cells 24 H fun v2x1 H2 =>
  ob (vFa 2 v2x1) fun v5x3 =>
  ob (vLoad v5x3 H2) fun v6x4 =>
  HT prg I.laws_heldInt64S [v6x4, a1].toArray H2 fun v8x5 H6 =>
  ob (vInt .lss v8x5 (.int .i64 0)) fun v10x7 =>
  cnd v10x7
    (K (.int .i64 (-1)) H6)
    (K v8x5 H6)
def O.laws_heldField : Nat → Nat × List Nat := fun i => (0, [])
theorem R.laws_heldField {a0 a1 : Value} {H : Hp} {K : Value → Hp → Prop} (h : F.laws_heldField a0 a1 H K) : HT prg I.laws_heldField [a0, a1].toArray H K :=
  HT_of_fev O.laws_heldField mixed Tryd.func8 (by kernel_rfl) (Eq.mpr (by kernel_rfl : fev prg O.laws_heldField Tryd.f8 [a0, a1] H K = F.laws_heldField a0 a1 H K) h)

/-! loop.example/g01381/laws.FnExactReadRuns: function 3 -/
def F.laws_FnExactReadRuns (a0 : Value) (H : Hp) (K : Value → Hp → Prop) : Prop :=
  ob (vLenS a0) fun v12x1 =>
  ob (vInt .gtr v12x1 (.int .i64 1048576)) fun v13x2 =>
  cnd v13x2
    (K (.bool true) H)
    (HT prg I.spec_ReadRuns [a0].toArray H fun v16x3 H4 =>
  ob (vExt v16x3 0) fun v17x5 =>
  ob (vExt v16x3 1) fun v18x6 =>
  nw #[(.int .i64 0), (.int .i64 0), (.slice none 0 0)] 24 H4 fun v3x7 H8 =>
  st 3 v3x7 v17x5 H8 fun H9 =>
  HT prg I.impl_ReadRuns [a0].toArray H9 fun v21x10 H11 =>
  ob (vExt v21x10 0) fun v22x12 =>
  ob (vExt v21x10 1) fun v23x13 =>
  nw #[(.int .i64 0), (.int .i64 0), (.slice none 0 0)] 24 H11 fun v5x14 H15 =>
  st 3 v5x14 v22x12 H15 fun H16 =>
  ob (vLoadN 3 v5x14 H16) fun v24x17 =>
  ob (vLoadN 3 v3x7 H16) fun v25x18 =>
  HT prg I.laws_eqField [v24x17, v25x18].toArray H16 fun v26x19 H20 =>
  ob (vUn .not v26x19) fun v27x21 =>
  gop v27x21 false (fun K22 => K22 v23x13 H20) H20 fun v29x23 H24 =>
  gop v27x21 false (fun K25 => K25 v18x6 H24) H24 fun v30x26 H27 =>
  gop v27x21 false (fun K28 => ob (vBool .neq v29x23 v30x26) fun u => K28 u H27) H27 fun v31x29 H30 =>
  ob (vPick v27x21 (.bool true) v31x29) fun v32x31 =>
  cnd v32x31
    (K (.bool false) H30)
    (ob (vLoadN 3 v5x14 H30) fun v33x32 =>
  HT prg I.laws_markField [v33x32, (.int .i64 1)].toArray H30 fun v35x33 H34 =>
  ob (vLoadN 3 v5x14 H34) fun v36x35 =>
  HT prg I.laws_heldField [v36x35, (.int .i64 1)].toArray H34 fun v38x36 H37 =>
  ob (vInt .lss v38x36 (.int .i64 0)) fun v40x38 =>
  cnd v40x38
    (K (.bool false) H37)
    (ob (vInt .neq v38x36 v35x33) fun v43x39 =>
  cnd v43x39
    (K (.bool false) H37)
    (HT prg I.impl_ReadRuns [a0].toArray H37 fun v46x40 H41 =>
  ob (vExt v46x40 0) fun v47x42 =>
  ob (vExt v46x40 1) fun v48x43 =>
  nw #[(.int .i64 0), (.int .i64 0), (.slice none 0 0)] 24 H41 fun v9x44 H45 =>
  st 3 v9x44 v47x42 H45 fun H46 =>
  ob (vLoadN 3 v9x44 H46) fun v49x47 =>
  ob (vLoadN 3 v3x7 H46) fun v50x48 =>
  HT prg I.laws_eqField [v49x47, v50x48].toArray H46 fun v51x49 H50 =>
  ob (vUn .not v51x49) fun v52x51 =>
  gop v52x51 false (fun K52 => K52 v48x43 H50) H50 fun v54x53 H54 =>
  gop v52x51 false (fun K55 => K55 v18x6 H54) H54 fun v55x56 H57 =>
  gop v52x51 false (fun K58 => ob (vBool .neq v54x53 v55x56) fun u => K58 u H57) H57 fun v56x59 H60 =>
  ob (vPick v52x51 (.bool true) v56x59) fun v57x61 =>
  cnd v57x61
    (K (.bool false) H60)
    (ob (vLoadN 3 v5x14 H60) fun v58x62 =>
  HT prg I.laws_heldField [v58x62, (.int .i64 1)].toArray H60 fun v60x63 H64 =>
  ob (vInt .lss v60x63 (.int .i64 0)) fun v62x65 =>
  cnd v62x65
    (K (.bool false) H64)
    (ob (vInt .neq v60x63 v35x33) fun v65x66 =>
  cnd v65x66
    (K (.bool false) H64)
    (K (.bool true) H64)))))))
def O.laws_FnExactReadRuns : Nat → Nat × List Nat := fun i => (0, [])
theorem R.laws_FnExactReadRuns {a0 : Value} {H : Hp} {K : Value → Hp → Prop} (h : F.laws_FnExactReadRuns a0 H K) : HT prg I.laws_FnExactReadRuns [a0].toArray H K :=
  HT_of_fev O.laws_FnExactReadRuns mixed Tryd.func3 (by kernel_rfl) (Eq.mpr (by kernel_rfl : fev prg O.laws_FnExactReadRuns Tryd.f3 [a0] H K = F.laws_FnExactReadRuns a0 H K) h)

end Go.Proofs.YtijmoehbgkibnaaDoor
/- All functions' texts. -/
/- What the small functions of lanes come to. -/
namespace Go.Proofs.YtijmoehbgkibnaaDoor
open HL
theorem C.spec_l00In {x lo hi : Int} {H : Hp} {K : Value → Hp → Prop} (hk : K (.bool (decide (lo ≤ x ∧ x ≤ hi))) H) : HT prg I.spec_l00In [.int .i64 x, .int .i64 lo, .int .i64 hi].toArray H K := by
 refine R.spec_l00In ?_
 unfold F.spec_l00In
 by_cases h : lo ≤ x
 ·simp only [vInt_geq, vInt_leq, ob_some, h, decide_true, gop_tt, vPick_t, true_and] at hk ⊢; exact hk
 ·simp only [vInt_geq, ob_some, h, decide_false, gop_ft, vPick_f, false_and] at hk ⊢; exact hk
theorem C.impl_within {x lo hi : Int} {H : Hp} {K : Value → Hp → Prop} (hk : K (.bool (decide (lo ≤ x ∧ x ≤ hi))) H) : HT prg I.impl_within [.int .i64 x, .int .i64 lo, .int .i64 hi].toArray H K := by
 refine R.impl_within ?_
 unfold F.impl_within
 by_cases h : lo ≤ x
 ·simp only [vInt_geq, vInt_leq, ob_some, h, decide_true, gop_tt, vPick_t, true_and] at hk ⊢; exact hk
 ·simp only [vInt_geq, ob_some, h, decide_false, gop_ft, vPick_f, false_and] at hk ⊢; exact hk
theorem C.impl_areWithin {a : Value} {l : List Int} {lo hi : Int} {H : Hp} {K : Value → Hp → Prop} (ha : Sl eI H a l) (hl : l.length ≤ 9223372036854775807) (hk : K (.bool (decide (∀ x ∈ l, lo ≤ x ∧ x ≤ hi))) H) :
    HT prg I.impl_areWithin [a, .int .i64 lo, .int .i64 hi].toArray H K := by
 refine R.impl_areWithin ?_
 unfold F.impl_areWithin jn; dsimp only
 rw [ha.len, ob_some]
 refine ⟨fun n σ H1 => ∃ i : Nat, n = l.length - i ∧ i ≤ l.length ∧ H1 = H ∧ σ 1 = .int .i64 lo ∧ σ 2 = .int .i64 hi ∧ σ 9 = a ∧ σ 10 = .int .i64 l.length ∧ σ 11 = .int .i64 i ∧ ∀ x ∈ l.take i, lo ≤ x ∧ x ≤ hi,
  ⟨_, 0, rfl, by omega, rfl, rfl, rfl, rfl, rfl, rfl, by simp⟩, ?_⟩
 rintro n σ H1 ⟨i, rfl, hi', rfl, h1, h2, h9, h10, h11, hall⟩
 simp only [h1, h2, h9, h10, h11, vInt_lss, ob_some]
 refine cnd_d (fun hlt => ?_) (fun hge => ?_)
 ·have hlt' : i < l.length := by omega
  rw [ha.ix (by omega) hlt, ob_some, ha.ld 0 (by omega) hlt, ob_some]
  refine C.impl_within ?_
  rw [vUn_not, ob_some]
  refine cnd_i (fun hb => ?_) (fun hb => ?_)
  ·refine retK (K := K) (v' := .bool false) rfl ?_
   rw [decide_eq_false] at hk
   ·exact hk
   ·intro hh
    have := hh _ (at_mem 0 l (i := i) (by omega) hlt)
    simp [this] at hb
  ·rw [vInt_add (by omega) (by omega), ob_some]
   refine nxt (l.length - (i + 1)) (by omega) ⟨i + 1, rfl, by omega, rfl, h1, h2, h9, h10, rfl, ?_⟩
   rw [take_at 0 l hlt']
   intro x hx
   rcases List.mem_append.mp hx with hx | hx
   ·exact hall x hx
   ·simp only [List.mem_singleton] at hx; subst hx; simpa using hb
 ·refine retK (K := K) (v' := .bool true) rfl ?_
  rw [decide_eq_true] at hk
  ·exact hk
  ·intro x hx
   rw [List.take_of_length_le (by omega)] at hall
   exact hall x hx
theorem C.impl_areMany {a : Value} {l : List Int} {n m lo hi : Int} {H : Hp} {K : Value → Hp → Prop} (ha : Sl eI H a l) (hl : l.length ≤ 9223372036854775807)
    (hk : K (.bool (decide ((n ≤ l.length ∧ l.length ≤ m) ∧ ∀ x ∈ l, lo ≤ x ∧ x ≤ hi))) H) :
    HT prg I.impl_areMany [a, .int .i64 n, .int .i64 m, .int .i64 lo, .int .i64 hi].toArray H K := by
 refine R.impl_areMany ?_
 unfold F.impl_areMany
 rw [ha.len, ob_some]
 refine C.impl_within ?_
 by_cases h : n ≤ l.length ∧ l.length ≤ m
 ·simp only [h, and_self, decide_true, gop_tt, true_and] at hk ⊢
  refine C.impl_areWithin ha hl ?_
  rw [vPick_t, ob_some]
  exact hk
 ·simp only [h, decide_false, gop_ft, vPick_f, ob_some, false_and] at hk ⊢
  exact hk
def isLane (l : List Int) : Prop := (1 ≤ (l.length : Int) ∧ (l.length : Int) ≤ 64) ∧ ∀ x ∈ l, -1 ≤ x ∧ x ≤ 5
instance (l : List Int) : Decidable (isLane l) := by unfold isLane; infer_instance
theorem C.laws_eqInt64S {a b : Value} {l m : List Int} {H : Hp} {K : Value → Hp → Prop} (ha : Sl eI H a l) (hb : Sl eI H b m) (hl : l.length ≤ 9223372036854775807) (hk : K (.bool (decide (l = m))) H) :
    HT prg I.laws_eqInt64S [a, b].toArray H K := by
 refine R.laws_eqInt64S ?_
 unfold F.laws_eqInt64S jn; dsimp only
 rw [ha.len, hb.len, ob_some, ob_some, vInt_neq, ob_some]
 refine cnd_d (fun hne => ?_) (fun heq => ?_)
 ·rw [decide_eq_false] at hk
  ·exact hk
  ·rintro rfl; exact hne rfl
 ·have hlen : l.length = m.length := by omega
  refine ⟨fun n σ H1 => ∃ i : Nat, n = l.length - i ∧ i ≤ l.length ∧ H1 = H ∧ σ 0 = a ∧ σ 1 = b ∧ σ 5 = .int .i64 i ∧ l.take i = m.take i,
   ⟨_, 0, rfl, by omega, rfl, rfl, rfl, rfl, by simp⟩, ?_⟩
  rintro n σ H1 ⟨i, rfl, hi', rfl, h0, h1, h5, hall⟩
  simp only [h0, h1, h5, ha.len, vInt_lss, ob_some]
  refine cnd_d (fun hlt => ?_) (fun hge => ?_)
  ·have hlt' : i < l.length := by omega
   rw [ha.ix (by omega) hlt, ob_some, ha.ld 0 (by omega) hlt, ob_some, hb.ix (by omega) (by omega), ob_some, hb.ld 0 (by omega) (by omega), ob_some, vInt_neq, ob_some]
   refine cnd_d (fun hne => ?_) (fun heq => ?_)
   ·refine retK (K := K) (v' := .bool false) rfl ?_
    rw [decide_eq_false] at hk
    ·exact hk
    ·rintro rfl; exact hne rfl
   ·rw [vInt_add (by omega) (by omega), ob_some]
    refine nxt (l.length - (i + 1)) (by omega) ⟨i + 1, rfl, by omega, rfl, h0, h1, rfl, ?_⟩
    rw [take_at 0 l hlt', take_at 0 m (by omega), hall, Decidable.not_not.mp heq]
  ·refine retK (K := K) (v' := .bool true) rfl ?_
   rw [List.take_of_length_le (by omega), List.take_of_length_le (by omega)] at hall
   rw [decide_eq_true hall] at hk
   exact hk
end Go.Proofs.YtijmoehbgkibnaaDoor
/- The runs of a row, as texts: plain law. -/
namespace Go.Proofs.YtijmoehbgkibnaaDoor
open HL
set_option maxRecDepth 100000
/-- A number below 100 in decimal. -/
def decT (n : Nat) : List UInt8 := if n < 10 then [UInt8.ofNat (48 + n)] else [UInt8.ofNat (48 + n / 10), UInt8.ofNat (48 + n % 10)]
theorem decT_len (n : Nat) : 1 ≤ (decT n).length ∧ (decT n).length ≤ 2 := by unfold decT; split <;> simp
/-- How often a number stands at the beginning. -/
def rN (x : Int) : List Int → Nat
  | [] => 0
  | y :: l => if y = x then rN x l + 1 else 0
theorem rN_le (x : Int) : ∀ l : List Int, rN x l ≤ l.length
  | [] => Nat.le_refl _
  | y :: l => by
    have := rN_le x l
    unfold rN
    split <;> simp <;> omega
theorem rN_step {x : Int} : ∀ {l : List Int} {t : Nat}, t ≤ rN x l → t < l.length → at_ 0 l (t : Int) = x → t + 1 ≤ rN x l
  | [], t, _, h, _ => by simp at h
  | y :: l, 0, _, _, h => by
    have : y = x := h
    unfold rN
    rw [if_pos this]; omega
  | y :: l, t + 1, h1, h2, h3 => by
    unfold rN at h1 ⊢
    split at h1
    · rename_i hy
      rw [if_pos hy]
      have := rN_step (x := x) (l := l) (t := t) (by omega) (by simpa using h2) (by
        unfold at_ at h3 ⊢
        simpa using h3)
      omega
    · omega
theorem rN_at {x : Int} : ∀ {l : List Int} {t : Nat}, t < rN x l → at_ 0 l (t : Int) = x
  | [], t, h => by simp [rN] at h
  | y :: l, 0, h => by
    unfold rN at h
    split at h
    · rename_i hy; exact hy
    · omega
  | y :: l, t + 1, h => by
    unfold rN at h
    split at h
    · have := rN_at (x := x) (l := l) (t := t) (by omega)
      unfold at_ at this ⊢
      simpa using this
    · omega
theorem rN_end {x : Int} {l : List Int} {t : Nat} (h1 : t ≤ rN x l) (h2 : t = l.length ∨ at_ 0 l (t : Int) ≠ x) : t = rN x l := by
  rcases Nat.lt_or_ge t (rN x l) with h | h
  · have h3 := rN_at h
    rcases h2 with h2 | h2
    · have := rN_le x l; omega
    · exact absurd h3 h2
  · omega
def chT (x : Int) : UInt8 := if x = 1 then 111 else 98
/-- The runs of a row, without zeros at its end. -/
def rtx : List Int → List UInt8
  | [] => []
  | x :: l => if x = 0 ∧ rN x (x :: l) = l.length + 1 then [] else (if rN x (x :: l) = 1 then [] else decT (rN x (x :: l))) ++ [chT x] ++ rtx ((x :: l).drop (rN x (x :: l)))
termination_by l => l.length
decreasing_by
  have : 1 ≤ rN x (x :: l) := by unfold rN; rw [if_pos rfl]; omega
  simp only [List.length_drop, List.length_cons]; omega
theorem rtx_nil : rtx [] = [] := by unfold rtx; rfl
theorem rtx_of {l : List Int} (h : 0 < l.length) : rtx l = if at_ 0 l 0 = 0 ∧ rN (at_ 0 l 0) l = l.length then [] else (if rN (at_ 0 l 0) l = 1 then [] else decT (rN (at_ 0 l 0) l)) ++ [chT (at_ 0 l 0)] ++ rtx (l.drop (rN (at_ 0 l 0) l)) := by
  cases l with
  | nil => simp at h
  | cons x l =>
    conv => lhs; unfold rtx
    rfl
theorem rtx_zero : ∀ {l : List Int}, (∀ t, t < l.length → at_ 0 l (t : Int) = 0) → rtx l = []
  | [], _ => rtx_nil
  | x :: l, h => by
    rw [rtx_of (by simp)]
    have e0 : at_ 0 (x :: l) 0 = 0 := h 0 (by simp)
    rw [e0]
    have hk : ∀ t, t ≤ (x :: l).length → t ≤ rN 0 (x :: l) := by
      intro t
      induction t with
      | zero => intro _; omega
      | succ t ih => intro ht; exact rN_step (ih (by omega)) (by omega) (h t (by omega))
    have := hk _ (Nat.le_refl _)
    have := rN_le 0 (x :: l)
    rw [if_pos ⟨rfl, by omega⟩]
theorem rtx_len : ∀ (n : Nat) (l : List Int), l.length ≤ n → (rtx l).length ≤ 3 * l.length
  | 0, l, h => by
    have : l = [] := List.length_eq_zero_iff.mp (by omega)
    subst this
    simp [rtx_nil]
  | n + 1, l, h => by
    cases l with
    | nil => simp [rtx_nil]
    | cons x l =>
      rw [rtx_of (by simp)]
      split
      · simp
      · have h1 : 1 ≤ rN (at_ 0 (x :: l) 0) (x :: l) := rN_step (t := 0) (by omega) (by simp) rfl
        have h2 := rN_le (at_ 0 (x :: l) 0) (x :: l)
        have h3 := rtx_len n ((x :: l).drop (rN (at_ 0 (x :: l) 0) (x :: l))) (by simp only [List.length_drop]; simp only [List.length_cons] at h ⊢; omega)
        simp only [List.length_drop] at h3
        have h4 := decT_len (rN (at_ 0 (x :: l) 0) (x :: l))
        simp only [List.length_append, List.length_singleton]
        split
        · simp only [List.length_nil]; omega
        · omega
section
variable {row : List Int}
theorem at_drop {a t : Nat} : at_ 0 (row.drop a) (t : Int) = at_ 0 row ((a + t : Nat) : Int) := by
  unfold at_
  rw [Int.toNat_natCast, Int.toNat_natCast]
  simp [List.getD_eq_getElem?_getD, List.getElem?_drop]
/-- A run that is told: what is written, and what is left. -/
theorem rtx_run {a k : Nat} (ha : a < row.length) (hk : k = rN (at_ 0 row (a : Int)) (row.drop a)) (hne : ¬ (at_ 0 row (a : Int) = 0 ∧ a + k = row.length)) :
    rtx (row.drop a) = (if k = 1 then [] else decT k) ++ [chT (at_ 0 row (a : Int))] ++ rtx (row.drop (a + k)) := by
  have e0 : at_ 0 (row.drop a) 0 = at_ 0 row (a : Int) := at_drop (t := 0)
  rw [rtx_of (by simp; omega), e0, ← hk]
  rw [if_neg (fun h => hne ⟨h.1, by have := h.2; simp only [List.length_drop] at this; omega⟩), List.drop_drop]
theorem rtx_stop {a k : Nat} (ha : a < row.length) (hk : k = rN (at_ 0 row (a : Int)) (row.drop a)) (h : at_ 0 row (a : Int) = 0 ∧ a + k = row.length) : rtx (row.drop a) = [] := by
  have e0 : at_ 0 (row.drop a) 0 = at_ 0 row (a : Int) := at_drop (t := 0)
  rw [rtx_of (by simp; omega), e0, ← hk]
  rw [if_pos ⟨h.1, by simp only [List.length_drop]; omega⟩]
theorem run_zero {a : Nat} (ha : a < row.length) : a + 1 - a ≤ rN (at_ 0 row (a : Int)) (row.drop a) := by
  have := rN_step (x := at_ 0 row (a : Int)) (l := row.drop a) (t := 0) (by omega) (by simp; omega) (at_drop (t := 0))
  omega
theorem run_next {a e : Nat} (hae : a ≤ e) (h : e - a ≤ rN (at_ 0 row (a : Int)) (row.drop a)) (he : e < row.length) (hx : at_ 0 row (e : Int) = at_ 0 row (a : Int)) : e + 1 - a ≤ rN (at_ 0 row (a : Int)) (row.drop a) := by
  have := rN_step (t := e - a) h (by simp; omega) (by rw [at_drop, show a + (e - a) = e by omega]; exact hx)
  omega
theorem run_end {a e : Nat} (hae : a ≤ e) (h : e - a ≤ rN (at_ 0 row (a : Int)) (row.drop a)) (he : e ≤ row.length) (hx : e = row.length ∨ at_ 0 row (e : Int) ≠ at_ 0 row (a : Int)) : e - a = rN (at_ 0 row (a : Int)) (row.drop a) := by
  refine rN_end h ?_
  rcases hx with hx | hx
  · exact .inl (by simp; omega)
  · exact .inr (by rw [at_drop, show a + (e - a) = e by omega]; exact hx)
theorem run_pos {a : Nat} (ha : a < row.length) : 1 ≤ rN (at_ 0 row (a : Int)) (row.drop a) ∧ a + rN (at_ 0 row (a : Int)) (row.drop a) ≤ row.length := by
  have := run_zero ha
  have := rN_le (at_ 0 row (a : Int)) (row.drop a)
  simp only [List.length_drop] at this
  omega
/-- The end of a row without the zeros behind it. -/
def endP (row : List Int) (e : Nat) : Prop := e ≤ row.length ∧ ∀ j, e ≤ j → j < row.length → at_ 0 row (j : Int) = 0
theorem endP_rtx {e : Nat} (h : endP row e) : rtx (row.drop e) = [] := rtx_zero (fun t ht => by
  rw [at_drop]
  exact h.2 _ (by omega) (by simp only [List.length_drop] at ht; omega))
/-- A run within a row that is cut so. -/
theorem run_cut {a e k : Nat} (h : endP row e) (hl : 0 < e → at_ 0 row ((e - 1 : Nat) : Int) ≠ 0) (ha : a < e) (k1 : 1 ≤ k) (hk : k ≤ rN (at_ 0 row (a : Int)) (row.drop a)) (hke : a + k ≤ e) (hx : a + k = e ∨ at_ 0 row ((a + k : Nat) : Int) ≠ at_ 0 row (a : Int)) :
    k = rN (at_ 0 row (a : Int)) (row.drop a) ∧ ¬ (at_ 0 row (a : Int) = 0 ∧ a + k = row.length) := by
  have hlast : a + k = e → at_ 0 row (a : Int) ≠ 0 := fun he h0 => by
    have h1 := rN_at (x := at_ 0 row (a : Int)) (l := row.drop a) (t := k - 1) (by omega)
    rw [at_drop, show a + (k - 1) = e - 1 by omega] at h1
    exact hl (by omega) (h1.trans h0)
  have e1 := run_end (a := a) (e := a + k) (by omega) (by rw [show a + k - a = k by omega]; exact hk) (by have := h.1; omega) (by
    rcases hx with hx | hx
    · rcases Nat.lt_or_ge (a + k) row.length with h2 | h2
      · right
        rw [h.2 (a + k) (by omega) h2]
        exact fun h3 => hlast hx h3.symm
      · left; have := h.1; omega
    · exact .inr hx)
  refine ⟨by omega, fun hh => ?_⟩
  rcases hx with hx | hx
  · exact hlast hx hh.1
  · have := h.1
    have : a + k = e := by omega
    exact hlast this hh.1
end
/-- Texts with another one between them. -/
def joinT (sep : List UInt8) : List (List UInt8) → List UInt8
  | [] => []
  | a :: r => a ++ r.flatMap (sep ++ ·)
theorem joinT_snoc (sep : List UInt8) (x : List UInt8) : ∀ ls : List (List UInt8), ls ≠ [] → joinT sep (ls ++ [x]) = joinT sep ls ++ sep ++ x
  | [], h => absurd rfl h
  | a :: r, _ => by simp [joinT]
end Go.Proofs.YtijmoehbgkibnaaDoor
/- Rules for contracts that are told once. -/
namespace Go.Proofs.YtijmoehbgkibnaaDoor.HL
theorem keq {K : Value → Hp → Prop} {v v' : Value} {H : Hp} (e : v = v') (h : K v' H) : K v H := e ▸ h
theorem Own.cast {α : Type} {enc : α → Value} {H : Hp} {v : Value} {l l' : List α} (e : l = l') (h : Own enc H v l) : Own enc H v l' := e ▸ h
theorem Sl.cast {α : Type} {enc : α → Value} {H : Hp} {v : Value} {l l' : List α} (e : l = l') (h : Sl enc H v l) : Sl enc H v l' := e ▸ h
/-- A slice that reads so, and whose block is known. -/
def Ro {α : Type} (enc : α → Value) (H : Hp) (v : Value) (l : List α) : Prop := Sl enc H v l ∧ ∀ b, bk v = some b → ∃ o, H b = some o
section
variable {α : Type} {enc : α → Value} {H H' : Hp} {u v : Value} {l l' : List α}
theorem Ro.sl (h : Ro enc H v l) : Sl enc H v l := h.1
theorem Ro.known (h : Ro enc H v l) : ∀ b, bk v = some b → ∃ o, H b = some o := h.2
theorem Ro.le (h : Ro enc H v l) (hl : Le H H') : Ro enc H' v l := ⟨h.1.le hl, fun b hb => by obtain ⟨o, ho⟩ := h.2 b hb; exact ⟨o, hl b o ho⟩⟩
theorem Sl.off (h : Sl enc H u l) (ho : Off v H H') (ha : Apart u v) : Sl enc H' u l := by
  obtain ⟨a, c, rfl, hc, hr⟩ := h
  refine ⟨a, c, rfl, hc, fun i hi => ?_⟩
  obtain ⟨ad, rfl, hh⟩ := hr i hi
  refine ⟨ad, rfl, ?_⟩
  have hb : (ad.add i).block = ad.block := by unfold Addr.add; split <;> rfl
  have hne : bk v ≠ some ad.block := ha ad.block (by simp only [bk]; rw [if_neg (by omega)])
  unfold Hp.cell? at hh ⊢
  rw [hb] at hh ⊢
  cases hc' : H ad.block with
  | none => simp [hc'] at hh
  | some o => rw [ho _ _ hc' hne]; rw [hc'] at hh; exact hh
theorem Ro.off (h : Ro enc H u l) (ho : Off v H H') (ha : Apart u v) : Ro enc H' u l := ⟨h.1.off ho ha, fun b hb => by obtain ⟨o, hh⟩ := h.2 b hb; exact ⟨o, ho b o hh (ha b hb)⟩⟩
theorem Ro.apart (h : Ro enc H u l) (hn : Nw H v) : Apart u v := Apart.of_nw h.2 hn
theorem Ro.cast (e : l = l') (h : Ro enc H v l) : Ro enc H v l' := e ▸ h
theorem Ro.len (h : Ro enc H v l) : vLenSl v = some (.int .i64 l.length) := h.1.len
theorem Ro.one (h : Ro enc H v l) : oneCell v = true := h.1.one
theorem Ro.cells (h : Ro enc H v l) : v.cells = #[v] := h.1.cells
theorem Ro.isSl (h : Ro enc H v l) : ∃ a n c, v = .slice a n c := h.1.isSl
end
theorem gop_e {b c g : Bool} {F : (Value → Hp → Prop) → Prop} {H : Hp} {K : Value → Hp → Prop} (e : b = c) (h : gop (.bool c) g F H K) : gop (.bool b) g F H K := by rw [e]; exact h
theorem vPick_et {b : Bool} (e : b = true) (x y : Value) : vPick (.bool b) x y = some x := by rw [e]; rfl
theorem vPick_ef {b : Bool} (e : b = false) (x y : Value) : vPick (.bool b) x y = some y := by rw [e]; rfl
end Go.Proofs.YtijmoehbgkibnaaDoor.HL
/- Structs that lie in cells of their own: what is read, what is written. -/
namespace Go.Proofs.YtijmoehbgkibnaaDoor.HL
/-- A pointer to a block of its own, whose cells are these. -/
def Cel (H : Hp) (p : Value) (cs : List Value) : Prop := ∃ r e, p = .pointer (some ⟨r, 0, none⟩) ∧ H r = some (.cells cs.toArray e (0, 0))
/-- The pointer to a field's first cell. -/
def fp (p : Value) (k : Nat) : Value := match p with | .pointer (some a) => .pointer (some (a.add k)) | _ => undef

theorem oc0 : ∀ x ∈ ([] : List Value), oneCell x = true := fun x hx => absurd hx (by simp)
theorem oc1 {a : Value} {l : List Value} (h : oneCell a = true) (t : ∀ x ∈ l, oneCell x = true) : ∀ x ∈ a :: l, oneCell x = true := fun x hx => by
  rcases List.mem_cons.mp hx with rfl | hx
  · exact h
  · exact t x hx
section
variable {H H' : Hp} {p u v : Value} {cs : List Value}
theorem Cel.le (h : Cel H p cs) (hl : Le H H') : Cel H' p cs := by
  obtain ⟨r, e, rfl, hr⟩ := h
  exact ⟨r, e, rfl, hl _ _ hr⟩
theorem Cel.off (h : Cel H p cs) (ho : Off v H H') (ha : Apart p v) : Cel H' p cs := by
  obtain ⟨r, e, rfl, hr⟩ := h
  exact ⟨r, e, rfl, ho _ _ hr (ha r rfl)⟩
theorem Cel.known (h : Cel H p cs) : ∀ b, bk p = some b → ∃ o, H b = some o := by
  obtain ⟨r, e, rfl, hr⟩ := h
  intro b hb
  simp only [bk, Option.some.injEq] at hb
  subst hb
  exact ⟨_, hr⟩
theorem Cel.apart (h : Cel H p cs) (hn : Nw H v) : Apart p v := Apart.of_nw h.known hn
theorem nw_i {cells : Array Value} {e : TypeId} {K : Value → Hp → Prop} (hk : ∀ p H', Cel H' p cells.toList → Nw H p → Le H H' → K p H') : nw cells e H K := by
  intro r hr
  refine hk _ _ ⟨r, e, rfl, by rw [Hp.put_same]⟩ ?_ (Le.put _ hr)
  intro b hb
  simp only [bk, Option.some.injEq] at hb
  subst hb
  exact hr
theorem Cel.fa (h : Cel H p cs) (k : Nat) : vFa k p = some (fp p k) := by
  obtain ⟨r, e, rfl, hr⟩ := h; rfl
theorem Cel.nilC (h : Cel H p cs) : vNilC p = some p := by
  obtain ⟨r, e, rfl, hr⟩ := h; rfl
theorem Cel.ld (h : Cel H p cs) (k : Nat) {x : Value} (hx : cs[k]? = some x) : vLoad (fp p k) H = some x := by
  obtain ⟨r, e, rfl, hr⟩ := h
  simp only [fp, vLoad, add_none, Hp.cell?, hr, Nat.zero_add]
  simpa using hx
theorem Cel.ld0 (h : Cel H p cs) {x : Value} (hx : cs[0]? = some x) : vLoad p H = some x := by
  obtain ⟨r, e, rfl, hr⟩ := h
  simp only [vLoad, Hp.cell?, hr]
  simpa using hx
theorem Cel.ldn (h : Cel H p cs) {n : Nat} (hn : cs.length = n) : vLoadN n p H = some (.agg cs.toArray) := by
  obtain ⟨r, e, rfl, hr⟩ := h
  simp only [vLoadN]
  rw [rd_cells (enc := id) ⟨r, 0, none⟩ n 0 cs hn (fun i hi => by
    simp only [add_none, Hp.cell?, hr, Nat.zero_add]
    simp [hi])]
  simp
theorem Cel.st (h : Cel H p cs) {k : Nat} {x : Value} {K : Hp → Prop} (hk : k < cs.length) (ho : oneCell x = true) (hz : x.cells = #[x]) (hK : ∀ H', Cel H' p (cs.set k x) → Off p H H' → K H') : st 1 (fp p k) x H K := by
  obtain ⟨r, e, rfl, hr⟩ := h
  simp only [HL.st, fp, add_none, Nat.zero_add, hz, List.toList_toArray, List.size_toArray, List.length_singleton, true_and, stC, Nat.add_zero]
  refine ⟨ho, ?_, ?_, ?_⟩
  · simp only [Hp.cell?, hr]; simp [hk]
  · simp only [Hp.frozen?, hr]; simp
  · refine hK _ ⟨r, e, rfl, ?_⟩ ?_
    · simp only [Hp.setCell, hr, Hp.put_same]; simp
    · intro b o hb hv
      simp only [bk, ne_eq, Option.some.injEq] at hv
      simp only [Hp.setCell, hr]
      rw [Hp.put_ne _ _ (Ne.symm hv)]
      exact hb
theorem Cel.st0 (h : Cel H p cs) {x : Value} {K : Hp → Prop} (hk : 0 < cs.length) (ho : oneCell x = true) (hz : x.cells = #[x]) (hK : ∀ H', Cel H' p (cs.set 0 x) → Off p H H' → K H') : HL.st 1 p x H K := by
  have : p = fp p 0 := by obtain ⟨r, e, rfl, hr⟩ := h; simp [fp, add_none]
  have h2 := h.st (K := K) hk ho hz hK
  rwa [← this] at h2
theorem Cel.stn (h : Cel H p cs) {ws : List Value} {n : Nat} {K : Hp → Prop} (hn : ws.length = n) (hl : cs.length = n) (ho : ∀ x ∈ ws, oneCell x = true) (hK : ∀ H', Cel H' p ws → Off p H H' → K H') : HL.st n p (.agg ws.toArray) H K := by
  obtain ⟨r, e, rfl, hr⟩ := h
  simp only [HL.st, Value.cells, List.size_toArray, hn, true_and]
  refine stC_run (b := r) (e := e) ws _ 0 cs.toArray H rfl rfl hr (by simp; omega) ho ?_
  intro H' cs' h1 h2 h3 h4 h5
  refine hK H' ⟨r, e, rfl, ?_⟩ ?_
  · rw [h1]
    have : cs' = ws.toArray := by
      apply Array.ext_getElem?
      intro i
      by_cases hi : i < ws.length
      · have := h4 i hi
        simp only [Nat.zero_add] at this
        rw [this]; simp [hi]
      · rw [Array.getElem?_eq_none (by rw [h2]; simp; omega), Array.getElem?_eq_none (by simp; omega)]
    rw [this]
  · intro b o hb hv
    simp only [bk, ne_eq, Option.some.injEq] at hv
    rw [h5 b (Ne.symm hv)]; exact hb
end
end Go.Proofs.YtijmoehbgkibnaaDoor.HL
/- Lists of truths: copies, and what is alike; lengths that are paid for. -/
namespace Go.Proofs.YtijmoehbgkibnaaDoor
open HL
set_option maxRecDepth 100000
end Go.Proofs.YtijmoehbgkibnaaDoor
/- Rules for the walks that a program writes. -/
namespace Go.Proofs.YtijmoehbgkibnaaDoor.HL
theorem ob_nd {p : Prop} [Decidable p] {K : Value → Prop} (h1 : p → K (.bool false)) (h2 : ¬ p → K (.bool true)) : ob (vUn .not (.bool (decide p))) K := by
  rw [vUn_not, ob_some]
  by_cases c : p
  · rw [decide_eq_true c]; exact h1 c
  · rw [decide_eq_false c]; exact h2 c
theorem vInt_quoN {a b : Int} (ha : 0 ≤ a) (ha' : a < 9223372036854775808) (hb : 0 < b) : vInt .quo (.int .i64 a) (.int .i64 b) = some (.int .i64 (a / b)) := by
  rw [vInt_quo hb (by omega) ha', Int.tdiv_eq_ediv_of_nonneg ha]
theorem vInt_remN {a b : Int} (ha : 0 ≤ a) (hb : 0 < b) : vInt .rem (.int .i64 a) (.int .i64 b) = some (.int .i64 (a % b)) := by
  rw [vInt_rem (by omega), Int.tmod_eq_emod_of_nonneg ha]
theorem Apart.ap2 {H : Hp} {x u u' : Value} (hx : ∀ b, bk x = some b → ∃ o, H b = some o) (ha : Apart x u) (hb : ∀ b, bk u' = some b → bk u = some b ∨ H b = none) : Apart x u' := fun b h1 h2 => by
  rcases hb b h2 with h | h
  · exact ha b h1 h
  · obtain ⟨o, ho⟩ := hx b h1; rw [h] at ho; simp at ho
theorem Nw.ap2 {H0 H : Hp} {u u' : Value} (hn : Nw H0 u) (hl : Le H0 H) (hb : ∀ b, bk u' = some b → bk u = some b ∨ H b = none) : Nw H0 u' := fun b h => by
  rcases hb b h with h1 | h1
  · exact hn b h1
  · cases ho : H0 b with
    | none => rfl
    | some o => rw [hl b o ho] at h1; simp at h1
theorem apd_any {α : Type} {enc : α → Value} {z : Value} {b : Nat} {e : TypeId} {u t : Value} {l m : List α} {H : Hp} {K : Value → Hp → Prop} (o : Own enc H u l) (ot : Sl enc H t m) (ho : ∀ x, oneCell (enc x) = true) (hb : b ≤ 64) (hl : l.length + m.length ≤ 68719476736)
    (hk : ∀ u' H', Own enc H' u' (l ++ m) → Off u H H' → (∀ b, bk u' = some b → bk u = some b ∨ H b = none) → K u' H') : apd 1 b #[z] e u t H K := by
  refine o.apd ot ho (by omega) (fun c hc => ?_) hk
  have := nsc_le hc
  exact Nat.le_trans (Nat.mul_le_mul this hb) (by omega)
end Go.Proofs.YtijmoehbgkibnaaDoor.HL
/- Parts of slices; slices that are put together. -/
namespace Go.Proofs.YtijmoehbgkibnaaDoor
open HL
set_option maxRecDepth 100000
namespace HL
theorem Sl.cut {α : Type} {enc : α → Value} {H : Hp} {v : Value} {l : List α} (h : Sl enc H v l) {lo hi : Int} (h0 : 0 ≤ lo) (h1 : lo ≤ hi) (h2 : hi ≤ l.length) :
    ∃ x, vSl3 1 v (some (.int .i64 lo)) (some (.int .i64 hi)) none = some x ∧ (hi = l.length → vSl3 1 v (some (.int .i64 lo)) none none = some x) ∧ (lo = 0 → vSl3 1 v none (some (.int .i64 hi)) none = some x) ∧ (lo = 0 → hi = l.length → vSl3 1 v none none none = some x) ∧
      Sl enc H x ((l.drop lo.toNat).take (hi.toNat - lo.toNat)) ∧ (∀ b, bk x = some b → bk v = some b) := by
  obtain ⟨a, c, rfl, hc, hr⟩ := h
  have e1 : bnd (some (.int .i64 hi)) c l.length = some hi.toNat := by simp only [bnd]; rw [if_pos ⟨by omega, by omega⟩]
  have e2 : bnd (some (.int .i64 lo)) hi.toNat 0 = some lo.toNat := by simp only [bnd]; rw [if_pos ⟨by omega, by omega⟩]
  have e3 : bnd none c l.length = some l.length := rfl
  refine ⟨.slice (if c = lo.toNat then a else a.map (·.add (lo.toNat * 1))) (hi.toNat - lo.toNat) (c - lo.toNat), ?_, ?_, ?_, ?_, ?_, ?_⟩
  · simp only [vSl3, vSl, e1, e2]
  · intro e
    subst e
    have e2' : bnd (some (.int .i64 lo)) l.length 0 = some lo.toNat := by simpa using e2
    simp only [vSl3, vSl, e3, e2', Int.toNat_natCast]
  · intro e
    subst e
    simp only [vSl3, vSl, e1]; rfl
  · intro e e'
    subst e e'
    simp only [vSl3, vSl, e3, Int.toNat_natCast]; rfl
  · have hl : ((l.drop lo.toNat).take (hi.toNat - lo.toNat)).length = hi.toNat - lo.toNat := by simp; omega
    refine ⟨_, _, by rw [hl], by rw [hl]; omega, fun i hi' => ?_⟩
    rw [hl] at hi'
    obtain ⟨ad, rfl, hh⟩ := hr (lo.toNat + i) (by omega)
    rw [if_neg (by omega)]
    refine ⟨ad.add (lo.toNat * 1), rfl, ?_⟩
    have e4 : (ad.add (lo.toNat * 1)).add i = ad.add (lo.toNat + i) := by
      rw [Nat.mul_one]
      unfold Addr.add
      by_cases hx : lo.toNat = 0
      · rw [if_pos hx, hx, Nat.zero_add]
      · by_cases hy : i = 0
        · subst hy; simp
        · rw [if_neg hx, if_neg hy, if_neg (by omega)]; simp [Nat.add_assoc]
    rw [e4, hh]
    simp
  · intro b hb
    by_cases hcl : c = lo.toNat
    · rw [if_pos hcl] at hb
      cases a with
      | none => simp [bk] at hb
      | some ad => simp only [bk] at hb; rw [if_pos (by omega)] at hb; simp at hb
    · rw [if_neg hcl] at hb
      cases a with
      | none => simp [bk] at hb
      | some ad =>
        have hbl : ∀ k, (ad.add k).block = ad.block := fun k => by unfold Addr.add; split <;> rfl
        simp only [Option.map_some, bk] at hb ⊢
        split at hb
        · simp at hb
        · rw [if_neg (by omega)]; rw [hbl] at hb; exact hb
end HL
end Go.Proofs.YtijmoehbgkibnaaDoor
/- Ranges over functions: a rule by an invariant; slices.Chunk. -/
namespace Go.Proofs.YtijmoehbgkibnaaDoor
open HL
set_option maxRecDepth 100000
namespace HL
/-- A range over an iterator that gives N times something: what holds ahead of each round. -/
theorem rgE_i {fv : Value} {ps : List Nat} {body : (Exit → S → Hp → Prop) → S → Hp → Prop} {Q : Exit → S → Hp → Prop} {σ : S} {H : Hp} (N : Nat) (arg : Nat → List Value) (I : Nat → Hp → Prop) (hfv : match fv with | .func (.func _) _ _ => True | _ => False) (hps : ∀ t, (arg t).length = ps.length) (h0 : I 0 H)
    (hb : ∀ t A σ' (Q' : Exit → S → Hp → Prop), t < N → σ' = ups σ ps (arg t) → (∀ σ'' B, I (t + 1) B → Q' .normal σ'' B) → (∀ σ'' B, Q .ret σ B → Q' .ret σ'' B) → (∀ id σ'' B, Q (.exit id) σ B → Q' (.exit id) σ'' B) → I t A → body Q' σ' A)
    (hend : ∀ A, I N A → Q .normal σ A)
    (hcall : ∀ (yv : Value) (J : Nat → Hp → Prop) (St : Hp → Prop) (H1 : Hp) (K : Value → Hp → Prop), (∀ t A, J t A → ∃ A' b o, A = A'.put b o ∧ A' b = none ∧ I t A') → J 0 H1 →
      (∀ t A (Z : Value → Hp → Prop), t < N → J t A → (∀ B, J (t + 1) B → Z (.bool true) B) → (∀ B, St B → Z (.bool false) B) → callV prg yv (arg t) A Z) → (∀ A, J N A → K (.tuple #[]) A) → (∀ A, St A → K (.tuple #[]) A) → callV prg fv [yv] H1 K) :
    rgE prg fv ps body Q σ H := by
  refine ⟨hfv, fun l X hl hy => ?_⟩
  refine hcall _ (fun t A => ∃ A', A = A'.put l (X none) ∧ A' l = none ∧ I t A') (fun A => ∃ A' j, A = A'.put l (X j) ∧ A' l = none ∧ jmpQ Q σ A' j) _ _ ?_ ⟨H, rfl, hl, h0⟩ ?_ ?_ ?_
  · rintro t A ⟨A', rfl, hn, hI⟩
    exact ⟨A', l, X none, rfl, hn, hI⟩
  · rintro t A Z ht ⟨A', rfl, hn, hI⟩ hT hF
    refine hy (arg t) A' Z (hps t) hn (hb t A' _ _ ht rfl (fun σ'' B hB hBl => ?_) (fun σ'' B hB hBl => ?_) (fun id σ'' B hB hBl => ?_) hI)
    · exact hT _ ⟨B, rfl, hBl, hB⟩
    · exact hF _ ⟨B, some .ret, rfl, hBl, hB⟩
    · exact hF _ ⟨B, some (.exit id), rfl, hBl, hB⟩
  · rintro A ⟨A', rfl, hn, hI⟩
    exact ⟨A', none, rfl, hn, hend A' hI⟩
  · rintro A ⟨A', j, rfl, hn, hj⟩
    exact ⟨A', j, rfl, hn, hj⟩
/-- A piece of a slice, with no room behind it. -/
def chV (v : Value) (lo c : Nat) : Value := (vSl3 1 v (some (.int .i64 (lo : Int))) (some (.int .i64 ((lo : Int) + (c : Int)))) (some (.int .i64 ((lo : Int) + (c : Int))))).getD undef
theorem chV_sl {α : Type} {enc : α → Value} {H : Hp} {v : Value} {l : List α} (h : Sl enc H v l) {lo c : Nat} (h1 : lo + c ≤ l.length) :
    vSl3 1 v (some (.int .i64 (lo : Int))) (some (.int .i64 ((lo : Int) + (c : Int)))) (some (.int .i64 ((lo : Int) + (c : Int)))) = some (chV v lo c) ∧ Sl enc H (chV v lo c) ((l.drop lo).take c) := by
  obtain ⟨a, k, rfl, hc, hr⟩ := h
  have e0 : bnd (some (.int .i64 ((lo : Int) + (c : Int)))) k k = some (lo + c) := by simp only [bnd]; rw [if_pos ⟨by omega, by omega⟩]; congr 1
  have e1 : bnd (some (.int .i64 ((lo : Int) + (c : Int)))) (lo + c) (lo + c) = some (lo + c) := by simp only [bnd]; rw [if_pos ⟨by omega, by omega⟩]; congr 1
  have e2 : bnd (some (.int .i64 (lo : Int))) (lo + c) 0 = some lo := by simp only [bnd]; rw [if_pos ⟨by omega, by omega⟩]; simp
  have e : vSl3 1 (.slice a l.length k) (some (.int .i64 (lo : Int))) (some (.int .i64 ((lo : Int) + (c : Int)))) (some (.int .i64 ((lo : Int) + (c : Int)))) = some (.slice (if lo + c = lo then a else a.map (·.add (lo * 1))) (lo + c - lo) (lo + c - lo)) := by
    simp only [vSl3, e0, e1, e2]
  refine ⟨by unfold chV; rw [e]; rfl, ?_⟩
  unfold chV
  rw [e]
  show Sl enc H (.slice _ _ _) _
  have hl : ((l.drop lo).take c).length = c := by simp; omega
  refine ⟨_, _, by rw [hl]; congr 1; omega, by rw [hl]; omega, fun i hi' => ?_⟩
  rw [hl] at hi'
  obtain ⟨ad, rfl, hh⟩ := hr (lo + i) (by omega)
  rw [if_neg (by omega)]
  refine ⟨ad.add (lo * 1), rfl, ?_⟩
  have e4 : (ad.add (lo * 1)).add i = ad.add (lo + i) := by
    rw [Nat.mul_one]
    unfold Addr.add
    by_cases hx : lo = 0
    · rw [if_pos hx, hx, Nat.zero_add]
    · by_cases hy : i = 0
      · subst hy; simp
      · rw [if_neg hx, if_neg hy, if_neg (by omega)]; simp [Nat.add_assoc]
  rw [e4, hh]
  simp
end HL
/-- A row of a list. -/
def rowL (c : Nat) (l : List Int) (i : Nat) : List Int := (l.drop (i * c)).take c
theorem rowL_len {c r : Nat} {l : List Int} (hl : l.length = r * c) {i : Nat} (hi : i < r) : (rowL c l i).length = c := by
  unfold rowL
  have := Nat.mul_le_mul_right c (show i + 1 ≤ r by omega)
  rw [Nat.add_mul, Nat.one_mul] at this
  simp; omega
theorem C.slices_Chunk {vc : Value} {l : List Int} {n : Int} {H : Hp} {K : Value → Hp → Prop} (hv : Sl eI H vc l) (hn : 1 ≤ n)
    (hk : ∀ ps pn H', Cel H' ps [vc] → Cel H' pn [.int .i64 n] → Nw H ps → Nw H pn → Apart ps pn → Le H H' → K (.func (.func I.slices_Chunk_int64Zint64Z1) #[] #[ps, pn]) H') :
    HT prg I.slices_Chunk_int64Zint64 [vc, .int .i64 n].toArray H K := by
 refine R.slices_Chunk_int64Zint64 ?_
 unfold F.slices_Chunk_int64Zint64
 rw [hv.cells]
 refine nw_i (fun ps H2 ops nps le2 => ?_)
 refine nw_i (fun pn H4 opn npn le4 => ?_)
 refine ob_i (opn.ld0 rfl) ?_
 refine ob_i (vInt_lss _ _ _) ?_
 rw [decide_eq_false (show ¬ n < 1 by omega)]
 refine cnd_f1 ?_
 exact hk ps pn H4 (ops.le le4) opn nps (npn.le le2) (ops.apart npn) (le2.trans le4)
theorem C.slices_ChunkZ1 {yv ps pn vc : Value} {l : List Int} {c r : Nat} {H0 H : Hp} {K : Value → Hp → Prop} {J : Nat → Hp → Prop} {St : Hp → Prop} (hv : Sl eI H0 vc l) (hl : l.length = r * c) (c1 : 1 ≤ c) (c2 : c ≤ 1000000) (l2 : l.length ≤ 1000000)
    (hb : ∀ t A, J t A → Cel A ps [vc] ∧ Cel A pn [.int .i64 (c : Int)]) (h0 : J 0 H)
    (hst : ∀ t A (Z : Value → Hp → Prop), t < r → J t A → (∀ B, J (t + 1) B → Z (.bool true) B) → (∀ B, St B → Z (.bool false) B) → callV prg yv [chV vc (t * c) c] A Z)
    (hk : ∀ A, J r A → K (.tuple #[]) A) (hs : ∀ A, St A → K (.tuple #[]) A) :
    HT prg I.slices_Chunk_int64Zint64Z1 [yv, ps, pn].toArray H K := by
 refine R.slices_Chunk_int64Zint64Z1 ?_
 unfold F.slices_Chunk_int64Zint64Z1
 refine ⟨fun n σ H' => ∃ t : Nat, n = r - t ∧ t ≤ r ∧ σ 0 = yv ∧ σ 1 = ps ∧ σ 2 = pn ∧ σ 4 = .int .i64 ((t * c : Nat) : Int) ∧ J t H', ⟨_, 0, rfl, by omega, rfl, rfl, rfl, congrArg (Value.int .i64) (by simp), h0⟩, ?_⟩
 rintro n σ H1 ⟨t, rfl, ht, g0, g1, g2, g4, hJ⟩
 simp only [g0, g1, g2, g4]
 obtain ⟨ops, opn⟩ := hb t H1 hJ
 refine ob_i (ops.ld0 rfl) ?_
 refine ob_i hv.len ?_
 refine ob_i (vInt_lss _ _ _) ?_
 refine cnd_d (fun hlt => ?_) (fun hge => ?_)
 ·have htr : t < r := Nat.lt_of_not_le fun hh => by
   have := Nat.mul_le_mul_right c hh
   omega
  have hm := Nat.mul_le_mul_right c (show t + 1 ≤ r by omega)
  rw [Nat.add_mul, Nat.one_mul] at hm
  refine ob_i (opn.ld0 rfl) ?_
  refine ob_i (ops.ld0 rfl) ?_
  obtain ⟨x, _, hx2, _, _, hx5, _⟩ := hv.cut (lo := ((t * c : Nat) : Int)) (hi := (l.length : Int)) (by omega) (by omega) (by omega)
  refine ob_i (hx2 rfl) ?_
  refine ob_i hx5.len ?_
  have hmin : vMx false (.int .i64 (c : Int)) [.int .i64 (((l.drop ((t * c : Nat) : Int).toNat).take ((l.length : Int).toNat - ((t * c : Nat) : Int).toNat)).length : Int)] = some (.int .i64 (c : Int)) := by
   simp only [vMx]
   rw [if_neg]
   rw [List.length_take, List.length_drop, Int.toNat_natCast, Int.toNat_natCast]
   omega
  refine ob_i hmin ?_
  refine ob_i (ops.ld0 rfl) ?_
  refine ob_i (vInt_add (by omega) (by omega)) ?_
  refine ob_i (vInt_add (by omega) (by omega)) ?_
  refine ob_i (chV_sl hv (lo := t * c) (c := c) (by omega)).1 ?_
  refine hst t H1 _ htr hJ (fun B hB => ?_) (fun B hB => ?_)
  ·refine ob_i (a := .bool false) rfl ?_
   refine cnd_f1 ?_
   obtain ⟨ops, opn⟩ := hb _ B hB
   refine ob_i (opn.ld0 rfl) ?_
   refine ob_i (vInt_add (by omega) (by omega)) ?_
   exact nxt (r - (t + 1)) (by omega) ⟨t + 1, rfl, by omega, g0, g1, g2, congrArg (Value.int .i64) (by rw [Nat.add_mul, Nat.one_mul]; omega), hB⟩
  ·refine ob_i (a := .bool true) rfl ?_
   refine cnd_t1 ?_
   exact hs B hB
 ·obtain rfl : t = r := by
   have := Nat.le_antisymm ht (Nat.le_of_not_lt fun hh => by
    have hm := Nat.mul_le_mul_right c (show t + 1 ≤ r by omega)
    rw [Nat.add_mul, Nat.one_mul] at hm
    omega)
   exact this
  exact hk _ hJ
end Go.Proofs.YtijmoehbgkibnaaDoor
/- Maps by texts. -/
namespace Go.Proofs.YtijmoehbgkibnaaDoor.HL
set_option maxRecDepth 100000
def keyIs (k : ByteArray) (v : Value) : Bool := match v with | .string s => k == s | _ => false
/-- What a map has at a text: where, and what. -/
def findS (k : ByteArray) : List MapEntry → Nat → Option (Nat × Value)
  | [], _ => none
  | e :: es, i => bif keyIs k e.key then some (i, e.val) else findS k es (i + 1)
def keysS (es : List MapEntry) : Prop := ∀ e ∈ es, ∃ s, e.key = .string s
theorem findNow_s (k : ByteArray) : ∀ (es : List MapEntry) (i : Nat), keysS es → Instr.findNow .string (.string k) es i = some (findS k es i)
  | [], i, _ => rfl
  | e :: es, i, h => by
    obtain ⟨s, hs⟩ := h e (by simp)
    have ih := findNow_s k es (i + 1) (fun x hx => h x (by simp [hx]))
    unfold Instr.findNow findS
    rw [hs]
    simp only [Instr.sameNow, keyIs]
    cases e1 : (k == s) with
    | true => rfl
    | false => exact ih
theorem val_checkKey (P : Program) (b : Bool) (n : Nat) (t : TypeId) (k : ByteArray) (H : Hp) (ht : P.underlying t = some .string) : val P (Instr.checkKey b (n + 1) t (.string k)) H = some () := by
  unfold Instr.checkKey
  rw [val_bind', val_underlying, ht]
  rfl
theorem val_findKey (P : Program) (t : TypeId) (k : ByteArray) (es : List MapEntry) (H : Hp) (ht : P.underlying t = some .string) (hk : keysS es) : val P (Instr.findKey t (.string k) es) H = some (findS k es 0) := by
  unfold Instr.findKey
  rw [val_bind', val_underlying, ht]
  simp only [Option.bind_some]
  rw [findNow_s k es 0 hk]
  rfl
/-- A new entry. -/
theorem hp_mapUpdate_new {P : Program} {t kt et : TypeId} {r c : Nat} {es : Array MapEntry} {k : ByteArray} {x : Value} {H : Hp} {K : Unit → Hp → Prop} (ht : P.underlying t = some (.map kt et)) (hk : P.underlying kt = some .string)
    (hr : H r = some (.map es c)) (hs : keysS es.toList) (hn : findS k es.toList 0 = none) (h : K () (H.put r (.map (es.push { key := .string k, val := x, born := c }) (c + 1)))) : hp P (Instr.mapUpdate t (.map (some r)) (.string k) x) H K := by
  unfold Instr.mapUpdate
  have e1 : val P (getObj r) H = some (.map es c) := by
    show val P (Sem.getObj r Sem.pure) H = _
    simp only [val, hr]
  refine hp_val_bind P _ _ H K _ (by rw [val_underlying, ht]) ?_
  refine hp_val_bind P _ _ H K _ e1 ?_
  refine hp_val_bind P _ _ H K _ (val_checkKey P _ 9999 kt k H hk) ?_
  refine hp_val_bind P _ _ H K _ (val_findKey P kt k es.toList H hk hs) ?_
  rw [hn]
  show hp P (Sem.setObj r _ (Sem.pure ())) H K
  simp only [hp, hr]
  exact h
end Go.Proofs.YtijmoehbgkibnaaDoor.HL
/- Slices whose elements have some cells each: what is read, what is owned. -/
namespace Go.Proofs.YtijmoehbgkibnaaDoor.HL
theorem add_add (a : Addr) (x y : Nat) : (a.add x).add y = a.add (x + y) := by
  unfold Addr.add
  by_cases hx : x = 0
  · subst hx; simp
  · by_cases hy : y = 0
    · subst hy; simp
    · rw [if_neg hx, if_neg hy, if_neg (by omega)]; simp [Nat.add_assoc]
theorem add_block (a : Addr) (x : Nat) : (a.add x).block = a.block := by unfold Addr.add; split <;> rfl
section
variable {α : Type} {enc : α → List Value} {n : Nat} {H H' : Hp} {u v : Value} {l m : List α}
theorem flat_len (hn : ∀ x, (enc x).length = n) : ∀ l : List α, (l.flatMap enc).length = l.length * n
  | [] => by simp
  | x :: r => by rw [List.flatMap_cons, List.length_append, hn, flat_len hn r, List.length_cons, Nat.add_mul, Nat.one_mul]; omega
theorem flat_get (hn : ∀ x, (enc x).length = n) : ∀ (l : List α) (i j : Nat) (h : i < l.length), j < n → (l.flatMap enc)[i * n + j]? = (enc l[i])[j]?
  | x :: r, 0, j, h, hj => by rw [List.flatMap_cons, Nat.zero_mul, Nat.zero_add, List.getElem?_append_left (by rw [hn]; exact hj)]; rfl
  | x :: r, i + 1, j, h, hj => by
    rw [List.flatMap_cons, List.getElem?_append_right (by rw [hn, Nat.add_mul]; omega), hn, show (i + 1) * n + j - n = i * n + j by rw [Nat.add_mul]; omega, flat_get hn r i j (by simpa using h) hj]
    rfl
theorem flat_ix {i j N : Nat} (h : i < N) (hj : j < n) : i * n + j < N * n := by
  have := Nat.mul_le_mul_right n (show i + 1 ≤ N by omega)
  rw [Nat.add_mul] at this; omega
/-- A slice of elements of n cells that reads so. -/
def SlE (n : Nat) (enc : α → List Value) (H : Hp) (v : Value) (l : List α) : Prop :=
  ∃ a c, v = .slice a l.length c ∧ l.length ≤ c ∧ ∀ t (h : t < (l.flatMap enc).length), ∃ ad, a = some ad ∧ H.cell? (ad.add t) = some (l.flatMap enc)[t]
/-- One whose block is known whole, and may be written. -/
def OwnE (n : Nat) (enc : α → List Value) (H : Hp) (v : Value) (l : List α) : Prop :=
  ∃ a c, v = .slice a l.length c ∧ l.length ≤ c ∧ (0 < c → ∃ b off cs e, a = some ⟨b, off, none⟩ ∧ H b = some (.cells cs e (0, 0)) ∧ off + c * n ≤ cs.size ∧ ∀ t (h : t < (l.flatMap enc).length), cs[off + t]? = some (l.flatMap enc)[t])
/-- The pointer to an element. -/
def ptrE (n : Nat) (v : Value) (i : Int) : Value := match v with | .slice (some a) _ _ => .pointer (some (a.add (i.toNat * n))) | _ => undef
theorem SlE.le (h : SlE n enc H v l) (hl : Le H H') : SlE n enc H' v l := by
  obtain ⟨a, c, rfl, hc, hr⟩ := h
  exact ⟨a, c, rfl, hc, fun i hi => by obtain ⟨ad, e, hh⟩ := hr i hi; exact ⟨ad, e, hl.cell hh⟩⟩
theorem SlE.len (h : SlE n enc H v l) : vLenSl v = some (.int .i64 l.length) := by
  obtain ⟨a, c, rfl, hc, hr⟩ := h; rfl
theorem SlE.base (h : SlE n enc H v l) (hn : ∀ x, (enc x).length = n) (n0 : 0 < n) {i : Nat} (hi : i < l.length) : ∃ a c, v = .slice (some a) l.length c ∧ ∀ j (hj : j < n), H.cell? (a.add (i * n + j)) = (enc l[i])[j]? := by
  obtain ⟨a, c, rfl, hc, hr⟩ := h
  have hb := flat_ix (n := n) hi n0
  obtain ⟨ad, rfl, _⟩ := hr (i * n + 0) (by rw [flat_len hn]; exact hb)
  refine ⟨ad, c, rfl, fun j hj => ?_⟩
  have hk := flat_ix (n := n) hi hj
  obtain ⟨ad', e, hh⟩ := hr (i * n + j) (by rw [flat_len hn]; exact hk)
  cases e
  rw [hh, ← flat_get hn l i j hi hj, List.getElem?_eq_getElem]
theorem SlE.ix (h : SlE n enc H v l) (hn : ∀ x, (enc x).length = n) (n0 : 0 < n) {k : IntKind} {i : Int} (h0 : 0 ≤ i) (h1 : i < l.length) : vIx n v (.int k i) = some (ptrE n v i) := by
  obtain ⟨a, c, rfl, _⟩ := h.base hn n0 (i := i.toNat) (by omega)
  simp only [vIx, ptrE]
  rw [if_pos ⟨h0, by simpa using h1⟩]
theorem SlE.ldn (h : SlE n enc H v l) (hn : ∀ x, (enc x).length = n) (n0 : 0 < n) (d : α) {i : Int} (h0 : 0 ≤ i) (h1 : i < l.length) : vLoadN n (ptrE n v i) H = some (.agg (enc (at_ d l i)).toArray) := by
  have hi : i.toNat < l.length := by omega
  obtain ⟨a, c, rfl, hr⟩ := h.base hn n0 hi
  have e : at_ d l i = l[i.toNat] := by unfold at_; rw [List.getD_eq_getElem?_getD, List.getElem?_eq_getElem hi]; rfl
  simp only [vLoadN, ptrE]
  rw [rd_cells (enc := id) _ n 0 (enc l[i.toNat]) (hn _) (fun j hj => by
    rw [add_add, Nat.zero_add, hr j (by rw [hn] at hj; exact hj), List.getElem?_eq_getElem hj]; rfl), e]
  simp
theorem SlE.fa (h : SlE n enc H v l) (hn : ∀ x, (enc x).length = n) (n0 : 0 < n) {i : Int} (h0 : 0 ≤ i) (h1 : i < l.length) (k : Nat) : vFa k (ptrE n v i) = some (fp (ptrE n v i) k) := by
  obtain ⟨a, c, rfl, _⟩ := h.base hn n0 (i := i.toNat) (by omega)
  rfl
theorem SlE.nilC (h : SlE n enc H v l) (hn : ∀ x, (enc x).length = n) (n0 : 0 < n) {i : Int} (h0 : 0 ≤ i) (h1 : i < l.length) : vNilC (ptrE n v i) = some (ptrE n v i) := by
  obtain ⟨a, c, rfl, _⟩ := h.base hn n0 (i := i.toNat) (by omega)
  rfl
theorem SlE.ld (h : SlE n enc H v l) (hn : ∀ x, (enc x).length = n) (n0 : 0 < n) (d : α) {i : Int} (h0 : 0 ≤ i) (h1 : i < l.length) {k : Nat} (hk : k < n) {x : Value} (hx : (enc (at_ d l i))[k]? = some x) : vLoad (fp (ptrE n v i) k) H = some x := by
  have hi : i.toNat < l.length := by omega
  obtain ⟨a, c, rfl, hr⟩ := h.base hn n0 hi
  have e : at_ d l i = l[i.toNat] := by unfold at_; rw [List.getD_eq_getElem?_getD, List.getElem?_eq_getElem hi]; rfl
  simp only [vLoad, fp, ptrE, add_add]
  rw [hr k hk, ← e, hx]
theorem SlE.firstC (h : SlE n enc H v l) (hn : ∀ x, (enc x).length = n) : firstC H n l.length v = some (l.flatMap enc) := by
  obtain ⟨a, c, rfl, hc, hr⟩ := h
  by_cases h0 : (l.flatMap enc).length = 0
  · have e : l.flatMap enc = [] := List.length_eq_zero_iff.mp h0
    have e2 : l.length * n = 0 := by rw [← flat_len hn]; exact h0
    cases a with
    | none => rw [e]; rfl
    | some ad => simp only [HL.firstC, e2, e]; rfl
  · obtain ⟨ad, rfl, _⟩ := hr 0 (by omega)
    simp only [HL.firstC]
    have := rd_cells (H := H) (enc := id) ad (l.length * n) 0 (l.flatMap enc) (flat_len hn l) (fun i hi => by obtain ⟨ad', e, hh⟩ := hr i hi; cases e; simpa using hh)
    rw [this]; simp
theorem SlE.lenO (h : SlE n enc H v l) : lenO v = some l.length := by
  obtain ⟨a, c, rfl, hc, hr⟩ := h; rfl
theorem OwnE.len (h : OwnE n enc H v l) : vLenSl v = some (.int .i64 l.length) := by
  obtain ⟨a, c, rfl, hc, hr⟩ := h; rfl
theorem OwnE.sl (h : OwnE n enc H v l) (hn : ∀ x, (enc x).length = n) : SlE n enc H v l := by
  obtain ⟨a, c, rfl, hc, hr⟩ := h
  refine ⟨a, c, rfl, hc, fun i hi => ?_⟩
  have h1 := flat_len hn l
  have hc0 : 0 < c := by
    rcases Nat.eq_zero_or_pos c with h | h
    · have : l.length = 0 := by omega
      rw [this, Nat.zero_mul] at h1; omega
    · exact h
  obtain ⟨b, off, cs, e, rfl, hb, hs, hcs⟩ := hr hc0
  exact ⟨_, rfl, by simp only [Hp.cell?, add_none, hb, hcs i hi]; rfl⟩
theorem OwnE.off (h : OwnE n enc H u l) (ho : Off v H H') (ha : Apart u v) : OwnE n enc H' u l := by
  obtain ⟨a, c, rfl, hc, hr⟩ := h
  refine ⟨a, c, rfl, hc, fun h0 => ?_⟩
  obtain ⟨b, off, cs, e, rfl, hb, hs, hcs⟩ := hr h0
  refine ⟨b, off, cs, e, rfl, ho b _ hb (ha b ?_), hs, hcs⟩
  simp only [bk]
  rw [if_neg (by omega)]
theorem OwnE.le (h : OwnE n enc H u l) (hl : Le H H') : OwnE n enc H' u l := by
  obtain ⟨a, c, rfl, hc, hr⟩ := h
  refine ⟨a, c, rfl, hc, fun h0 => ?_⟩
  obtain ⟨b, off, cs, e, rfl, hb, hs, hcs⟩ := hr h0
  exact ⟨b, off, cs, e, rfl, hl b _ hb, hs, hcs⟩
theorem OwnE.known (h : OwnE n enc H u l) : ∀ b, bk u = some b → ∃ o, H b = some o := by
  obtain ⟨a, c, rfl, hc, hr⟩ := h
  intro b hb
  cases a with
  | none => simp [bk] at hb
  | some ad =>
    simp only [bk] at hb
    by_cases h0 : c = 0
    · rw [if_pos h0] at hb; simp at hb
    · rw [if_neg h0] at hb
      obtain ⟨b', off, cs, e, he, hbb, _⟩ := hr (by omega)
      simp only [Option.some.injEq] at hb he
      subst he
      simp only at hb
      subst hb
      exact ⟨_, hbb⟩
theorem OwnE.apart (h : OwnE n enc H u l) (hn : Nw H v) : Apart u v := Apart.of_nw h.known hn
theorem OwnE.one (h : OwnE n enc H v l) : oneCell v = true := by
  obtain ⟨a, c, rfl, _⟩ := h; rfl
theorem OwnE.cells (h : OwnE n enc H v l) : v.cells = #[v] := by
  obtain ⟨a, c, rfl, _⟩ := h; rfl
theorem OwnE.isSl (h : OwnE n enc H v l) : ∃ a n c, v = .slice a n c := by
  obtain ⟨a, c, h, _⟩ := h; exact ⟨_, _, _, h⟩
theorem OwnE.cast {l' : List α} (e : l = l') (h : OwnE n enc H v l) : OwnE n enc H v l' := e ▸ h
theorem OwnE.nil_of (a : Option Addr) : OwnE n enc H (.slice a 0 0) ([] : List α) := ⟨a, 0, rfl, by simp, fun h0 => absurd h0 (by simp)⟩
theorem SlE.nil (c : Nat) (a : Option Addr) : SlE n enc H (.slice a 0 c) ([] : List α) := ⟨a, c, rfl, by simp, fun i hi => absurd hi (by simp)⟩
theorem SlE.one (h : SlE n enc H v l) : oneCell v = true := by
  obtain ⟨a, c, rfl, _⟩ := h; rfl
theorem SlE.cells (h : SlE n enc H v l) : v.cells = #[v] := by
  obtain ⟨a, c, rfl, _⟩ := h; rfl
theorem SlE.cast {l' : List α} (e : l = l') (h : SlE n enc H v l) : SlE n enc H v l' := e ▸ h
/-- An append. -/
theorem OwnE.apd {bytes : Nat} {z : Array Value} {e : TypeId} {w : Value} {K : Value → Hp → Prop} (h : OwnE n enc H v l) (hn : ∀ x, (enc x).length = n) (hz : z.size = n) (hm : SlE n enc H w m) (ho : ∀ x ∈ m, ∀ y ∈ enc x, oneCell y = true)
    (hb : bytes ≤ 64) (hlm : l.length + m.length ≤ 68719476736)
    (hk : ∀ v' H', OwnE n enc H' v' (l ++ m) → Off v H H' → (∀ b, bk v' = some b → bk v = some b ∨ H b = none) → K v' H') : apd n bytes z e v w H K := by
  have hmf := hm.firstC hn
  have hml := hm.lenO
  have hlf := (h.sl hn).firstC hn
  have fl := flat_len hn l
  have fm := flat_len hn m
  have hap : (l ++ m).flatMap enc = l.flatMap enc ++ m.flatMap enc := List.flatMap_append
  obtain ⟨a, c, rfl, hlc, hr⟩ := h
  simp only [HL.apd, hml]
  by_cases hcap : l.length + m.length ≤ c
  · rw [if_pos hcap]
    simp only [hmf]
    by_cases hc0 : c = 0
    · have hl : l = [] := List.length_eq_zero_iff.mp (by omega)
      have hm' : m = [] := List.length_eq_zero_iff.mp (by omega)
      subst hl hm' hc0
      have : K (.slice a (([] : List α).length + ([] : List α).length) 0) H := hk _ H ⟨a, 0, rfl, by simp, fun h0 => absurd h0 (by simp)⟩ (fun b o hb _ => hb) (fun b hb => by cases a <;> simp [bk] at hb)
      cases a with
      | none => exact this
      | some ad => exact this
    · obtain ⟨b, off, cs, e', rfl, hbb, hs, hcs⟩ := hr (by omega)
      have hmul : (l.length + m.length) * n ≤ c * n := Nat.mul_le_mul_right n hcap
      rw [Nat.add_mul] at hmul
      simp only [add_none]
      refine stC_run (b := b) (e := e') (m.flatMap enc) _ 0 cs H rfl rfl hbb (by simp only [Nat.add_zero]; omega) (fun x hx => by
        obtain ⟨y, hy, hxy⟩ := List.mem_flatMap.mp hx; exact ho y hy x hxy) ?_
      intro H' cs' h1 h2 h3 h4 h5
      simp only [Nat.add_zero] at h3 h4
      refine hk _ H' ⟨some ⟨b, off, none⟩, c, by simp, by simpa using hcap, fun _ => ⟨b, off, cs', e', rfl, h1, by omega, ?_⟩⟩ ?_ ?_
      · simp only [hap]
        intro t ht
        rw [List.length_append] at ht
        by_cases htl : t < (l.flatMap enc).length
        · rw [h3 _ (by omega), hcs t htl, List.getElem_append_left htl]
        · have := h4 (t - (l.flatMap enc).length) (by omega)
          rw [show off + l.length * n + (t - (l.flatMap enc).length) = off + t by omega] at this
          rw [this, List.getElem_append_right (by omega)]
      · intro x o hx hne
        simp only [bk, if_neg hc0] at hne
        rw [h5 x (by rintro rfl; exact hne rfl)]; exact hx
      · intro x hx
        left; exact hx
  · rw [if_neg hcap]
    refine ⟨by omega, ?_, ?_⟩
    · have := nsc_le (n := l.length + m.length) (c := c) (by omega)
      exact Nat.le_trans (Nat.mul_le_mul this hb) (by omega)
    simp only [hlf, hmf]
    intro c' hc1 hc2 r hr'
    have hmul : (l.length + m.length) * n ≤ c' * n := Nat.mul_le_mul_right n hc1
    have hsub : (c' - (l.length + m.length)) * n = c' * n - (l.length + m.length) * n := Nat.sub_mul _ _ _
    rw [Nat.add_mul] at hmul hsub
    refine hk _ _ ⟨some ⟨r, 0, none⟩, c', by simp, by simpa using hc1, fun _ => ⟨r, 0, _, e, rfl, Hp.put_same _ _ _, ?_, ?_⟩⟩ ?_ ?_
    · have : (Builtin.zeroCells z (c' - (l.length + m.length))).size = (c' - (l.length + m.length)) * n := by simp [Builtin.zeroCells, hz]
      simp only [Nat.zero_add, Array.size_append, List.size_toArray, this, fl, fm]; omega
    · simp only [hap]
      intro t ht
      rw [Nat.zero_add, Array.getElem?_append_left (by simpa using ht)]
      rw [← Array.getElem?_toList]
      simp only [Array.toList_append]
      rw [List.getElem?_eq_getElem ht]
    · intro x o hx _
      rw [Hp.put_ne _ _ (by rintro rfl; rw [hr'] at hx; exact absurd hx (by simp))]; exact hx
    · intro x hx
      right
      simp only [bk] at hx
      split at hx
      · simp at hx
      · simp only [Option.some.injEq] at hx; subst hx; exact hr'
end
end Go.Proofs.YtijmoehbgkibnaaDoor.HL
/- Fields: which are valid, which are plain, and what lies where, round and round. -/
namespace Go.Proofs.YtijmoehbgkibnaaDoor
open HL
set_option maxRecDepth 100000
def sidesF (r c : Int) : Prop := (1 ≤ r ∧ r ≤ 24) ∧ (1 ≤ c ∧ c ≤ 24)
instance (r c : Int) : Decidable (sidesF r c) := by unfold sidesF; infer_instance
theorem sidesF_mul {r c : Int} (h : sidesF r c) : 1 ≤ r * c ∧ r * c ≤ 576 := by
  obtain ⟨⟨h1, h2⟩, h3, h4⟩ := h
  have a := Int.mul_le_mul h2 h4 (by omega) (by omega)
  have b := Int.mul_le_mul h1 h3 (by omega) (by omega)
  omega
/-- A field whose cells are from 0 to n. -/
def fieldN (n r c : Int) (l : List Int) : Prop := sidesF r c ∧ (l.length : Int) = r * c ∧ ∀ x ∈ l, 0 ≤ x ∧ x ≤ n
instance (n r c : Int) (l : List Int) : Decidable (fieldN n r c l) := by unfold fieldN; infer_instance
theorem vInt_mulF (a b : Int) : vInt .mul (.int .i64 a) (.int .i64 b) = some (.int .i64 (IntKind.i64.wrap (a * b))) := by simp only [vInt, if_true]
theorem fieldN_len {n r c : Int} {l : List Int} (h : fieldN n r c l) : l.length ≤ 576 := by
  have := sidesF_mul h.1
  have := h.2.1
  omega
theorem C.impl_isSide {r : Int} {H : Hp} {K : Value → Hp → Prop} (hk : K (.bool (decide (1 ≤ r ∧ r ≤ 24))) H) : HT prg I.impl_isSide [.int .i64 r].toArray H K := R.impl_isSide (C.impl_within hk)
theorem C.impl_ValidField {vc : Value} {r c : Int} {l : List Int} {H : Hp} {K : Value → Hp → Prop} (hc : Sl eI H vc l)
    (k1 : l.length ≤ 9223372036854775807) (hk : ∀ H', Le H H' → K (.bool (decide (fieldN 9 r c l))) H') : HT prg I.impl_ValidField [.agg #[.int .i64 r, .int .i64 c, vc]].toArray H K := by
 refine R.impl_ValidField ?_
 unfold F.impl_ValidField
 refine nw_i (fun p H1 hp np le1 => ?_)
 replace hk := hk H1 le1
 replace hc := hc.le le1
 simp only [hp.fa, hp.ld 0 rfl, hp.ld 1 rfl, vInt_mulF, ob_some]
 refine C.impl_isSide ?_
 by_cases c1 : 1 ≤ r ∧ r ≤ 24
 ·simp only [decide_eq_true c1, hp.fa, hp.ld 1 rfl, EV]
  refine C.impl_isSide ?_
  by_cases c2 : 1 ≤ c ∧ c ≤ 24
  ·have hs : sidesF r c := ⟨c1, c2⟩
   have hm := sidesF_mul hs
   simp only [decide_eq_true c2, hp.fa, hp.ld 2 rfl, wrap64 (show -9223372036854775808 ≤ r * c by omega) (show r * c < 9223372036854775808 by omega), EV]
   refine C.impl_areMany hc k1 ?_
   exact kQ (K := K) hk ⟨fun h => ⟨⟨by have := h.2.1; omega, by have := h.2.1; omega⟩, h.2.2⟩, fun h => ⟨hs, by omega, h.2⟩⟩
  ·simp only [decide_eq_false c2, EV]; exact kF (K := K) hk (fun h => c2 h.1.2)
 ·simp only [decide_eq_false c1, EV]; exact kF (K := K) hk (fun h => c1 h.1.1)
theorem C.impl_isPlain {vc : Value} {r c : Int} {l : List Int} {H : Hp} {K : Value → Hp → Prop} (hc : Sl eI H vc l)
    (k1 : l.length ≤ 9223372036854775807) (hk : ∀ H', Le H H' → K (.bool (decide (fieldN 1 r c l))) H') : HT prg I.impl_isPlain [.agg #[.int .i64 r, .int .i64 c, vc]].toArray H K := by
 refine R.impl_isPlain ?_
 unfold F.impl_isPlain
 refine nw_i (fun p H1 hp np le1 => ?_)
 refine ob_i (hp.ldn rfl) ?_
 refine C.impl_ValidField (hc.le le1) k1 (fun H2 le2 => ?_)
 replace hk := hk H2 (le1.trans le2)
 replace hc := hc.le (le1.trans le2)
 replace hp := hp.le le2
 by_cases c1 : fieldN 9 r c l
 ·simp only [decide_eq_true c1, hp.fa, hp.ld 2 rfl, EV]
  refine C.impl_areWithin hc k1 ?_
  exact kQ (K := K) hk ⟨fun h => h.2.2, fun h => ⟨c1.1, c1.2.1, h⟩⟩
 ·simp only [decide_eq_false c1, EV]; exact kF (K := K) hk (fun h => c1 ⟨h.1, h.2.1, fun x hx => by have := h.2.2 x hx; omega⟩)
end Go.Proofs.YtijmoehbgkibnaaDoor
/- Fields in slices: one of them. -/
namespace Go.Proofs.YtijmoehbgkibnaaDoor
open HL
/-- A field as it lies in cells. -/
structure Fv where
  r : Int
  c : Int
  v : Value
def fv0 : Fv := ⟨0, 0, .slice none 0 0⟩
def encFv (x : Fv) : List Value := [.int .i64 x.r, .int .i64 x.c, x.v]
theorem encFv_n (x : Fv) : (encFv x).length = 3 := rfl
end Go.Proofs.YtijmoehbgkibnaaDoor
/- Slices of fields whose cells are owned. -/
namespace Go.Proofs.YtijmoehbgkibnaaDoor
open HL
set_option maxRecDepth 100000
namespace HL
/-- What has blocks: a slice or a pointer, or a set of blocks. -/
class Bks (α : Type) where inb : α → Nat → Prop
instance instBV : Bks Value := ⟨fun v b => bk v = some b⟩
def Rg : Type := Nat → Prop
instance instBR : Bks Rg := ⟨fun S b => S b⟩
def Apt {α β : Type} [Bks α] [Bks β] (u : α) (v : β) : Prop := ∀ b, Bks.inb u b → ¬ Bks.inb v b
def Kn {α : Type} [Bks α] (H : Hp) (u : α) : Prop := ∀ b, Bks.inb u b → ∃ o, H b = some o
def Nws (H : Hp) (S : Rg) : Prop := ∀ b, S b → H b = none
def OffS (S : Rg) (H H' : Hp) : Prop := ∀ b o, H b = some o → ¬ S b → H' b = some o
section
variable {α β : Type} [Bks α] [Bks β] {u : α} {v : β} {H H' : Hp} {S : Rg}
theorem Apt.symm (h : Apt u v) : Apt v u := fun b h1 h2 => h b h2 h1
theorem Apt.of_nw {w : Value} (hu : Kn H u) (hn : Nw H w) : Apt u w := fun b h1 h2 => by
  obtain ⟨o, ho⟩ := hu b h1
  rw [hn b h2] at ho; exact absurd ho (by simp)
theorem Nws.le (h : Nws H' S) (hl : Le H H') : Nws H S := fun b hb => by
  cases ho : H b with
  | none => rfl
  | some o => have := hl b o ho; rw [h b hb] at this; exact absurd this (by simp)
theorem OffS.le {H0 : Hp} (h : OffS S H H') (hl : Le H0 H) (hn : Nws H0 S) : Le H0 H' := fun b o hb =>
  h b o (hl b o hb) (fun e => by rw [hn b e] at hb; exact absurd hb (by simp))
theorem OffS.trans {A B C : Hp} (h : OffS S A B) (h' : OffS S B C) : OffS S A C := fun b o hb hv => h' b o (h b o hb hv) hv
/-- What has no block of a set stays. -/
theorem OffS.off {w x : Value} (h : OffS S H H') (ha : Apt w S) : ∀ b o, bk w = some b → H b = some o → H' b = some o := fun b o hb ho => h b o ho (ha b hb)
end
/-- A field. -/
structure FdL where
  r : Int
  c : Int
  l : List Int
  deriving DecidableEq
def fd0 : FdL := ⟨0, 0, []⟩
def RelF (P : Value → List Int → Prop) : List Fv → List FdL → Prop
  | [], [] => True
  | x :: L, f :: fs => (x.r = f.r ∧ x.c = f.c ∧ P x.v f.l) ∧ RelF P L fs
  | _, _ => False
section
variable {P Q : Value → List Int → Prop}
theorem RelF.len : ∀ {L : List Fv} {fs : List FdL}, RelF P L fs → L.length = fs.length
  | [], [], _ => rfl
  | x :: L, f :: fs, h => congrArg (· + 1) (RelF.len h.2)
  | [], _ :: _, h => h.elim
  | _ :: _, [], h => h.elim
theorem RelF.imp : ∀ {L : List Fv} {fs : List FdL}, RelF P L fs → (∀ x ∈ L, ∀ l, P x.v l → Q x.v l) → RelF Q L fs
  | [], [], _, _ => trivial
  | x :: L, f :: fs, h, g => ⟨⟨h.1.1, h.1.2.1, g x (by simp) _ h.1.2.2⟩, RelF.imp h.2 (fun y hy => g y (by simp [hy]))⟩
  | [], _ :: _, h, _ => h.elim
  | _ :: _, [], h, _ => h.elim
theorem RelF.app : ∀ {L M : List Fv} {fs gs : List FdL}, RelF P L fs → RelF P M gs → RelF P (L ++ M) (fs ++ gs)
  | [], M, [], gs, _, h => h
  | x :: L, M, f :: fs, gs, h1, h2 => ⟨h1.1, RelF.app h1.2 h2⟩
  | [], _, _ :: _, _, h, _ => h.elim
  | _ :: _, _, [], _, h, _ => h.elim
theorem RelF.get : ∀ {L : List Fv} {fs : List FdL} {i : Nat}, RelF P L fs → i < L.length → (at_ fv0 L (i : Int)).r = (at_ fd0 fs (i : Int)).r ∧ (at_ fv0 L (i : Int)).c = (at_ fd0 fs (i : Int)).c ∧ P (at_ fv0 L (i : Int)).v (at_ fd0 fs (i : Int)).l
  | [], [], i, _, hi => absurd hi (by simp)
  | x :: L, f :: fs, 0, h, _ => h.1
  | x :: L, f :: fs, i + 1, h, hi => RelF.get (L := L) (fs := fs) (i := i) h.2 (by simpa using hi)
  | [], _ :: _, _, h, _ => h.elim
  | _ :: _, [], _, h, _ => h.elim
end
/-- A slice of fields, whose blocks and those of its fields are owned. -/
def Fam (H : Hp) (v : Value) (S : Rg) (fs : List FdL) : Prop :=
  ∃ L, OwnE 3 encFv H v L ∧ RelF (Own eI H) L fs ∧ (∀ x ∈ L, Apart v x.v) ∧ L.Pairwise (fun x y => Apart x.v y.v) ∧ ∀ b, S b ↔ (bk v = some b ∨ ∃ x ∈ L, bk x.v = some b)
theorem RelF.mem {P : Value → List Int → Prop} : ∀ {L : List Fv} {fs : List FdL}, RelF P L fs → ∀ x ∈ L, ∃ l, P x.v l
  | [], [], _ => by simp
  | x :: L, f :: fs, h => fun y hy => by
    rcases List.mem_cons.mp hy with rfl | hy
    · exact ⟨_, h.1.2.2⟩
    · exact RelF.mem h.2 y hy
  | [], _ :: _, h => h.elim
  | _ :: _, [], h => h.elim
section
variable {H H' : Hp} {v : Value} {S : Rg} {fs : List FdL}
theorem Fam.known (h : Fam H v S fs) : Kn H S := by
  obtain ⟨L, h1, h2, h3, h4, h5⟩ := h
  intro b hb
  rcases (h5 b).mp hb with e | ⟨x, hx, e⟩
  · exact h1.known b e
  · obtain ⟨l, hl⟩ := h2.mem x hx
    exact hl.known b e
theorem Fam.le (h : Fam H v S fs) (hl : Le H H') : Fam H' v S fs := by
  obtain ⟨L, h1, h2, h3, h4, h5⟩ := h
  exact ⟨L, h1.le hl, h2.imp (fun _ _ _ h => h.le hl), h3, h4, h5⟩
theorem Fam.off {w : Value} (h : Fam H v S fs) (ho : Off w H H') (ha : Apt S w) : Fam H' v S fs := by
  obtain ⟨L, h1, h2, h3, h4, h5⟩ := h
  exact ⟨L, h1.off ho (fun b hb => ha b ((h5 b).mpr (.inl hb))), h2.imp (fun x hx _ h => h.off ho (fun b hb => ha b ((h5 b).mpr (.inr ⟨x, hx, hb⟩)))), h3, h4, h5⟩
theorem Fam.len (h : Fam H v S fs) : vLenSl v = some (.int .i64 fs.length) := by
  obtain ⟨L, h1, h2, _⟩ := h
  rw [h1.len, h2.len]
theorem Fam.one (h : Fam H v S fs) : oneCell v = true := by obtain ⟨L, h1, _⟩ := h; exact h1.one
theorem Fam.cells (h : Fam H v S fs) : v.cells = #[v] := by obtain ⟨L, h1, _⟩ := h; exact h1.cells
theorem Fam.isSl (h : Fam H v S fs) : ∃ a n c, v = .slice a n c := by obtain ⟨L, h1, _⟩ := h; exact h1.isSl
theorem Fam.cast {gs : List FdL} (e : fs = gs) (h : Fam H v S fs) : Fam H v S gs := e ▸ h
theorem Fam.nil_of (a : Option Addr) : Fam H (.slice a 0 0) (fun _ => False) [] :=
  ⟨[], OwnE.nil_of a, trivial, by simp, List.Pairwise.nil, fun b => ⟨fun h => h.elim, fun h => by
    rcases h with h | ⟨x, hx, _⟩
    · cases a <;> simp [bk] at h
    · simp at hx⟩⟩
/-- One more. -/
theorem Fam.push {bytes : Nat} {z : Array Value} {e : TypeId} {w x : Value} {r c : Int} {l : List Int} {K : Value → Hp → Prop} (h : Fam H v S fs) (hz : z.size = 3) (hw : SlE 3 encFv H w [⟨r, c, x⟩]) (hx : Own eI H x l) (ax : Apt x S)
    (hb : bytes ≤ 64) (hl : fs.length < 1000000)
    (hk : ∀ v' S' H', Fam H' v' S' (fs ++ [⟨r, c, l⟩]) → OffS S H H' → (∀ b, S' b → S b ∨ bk x = some b ∨ H b = none) → (∀ b, bk x = some b → S' b) → Own eI H' x l → K v' H') : apd 3 bytes z e v w H K := by
  obtain ⟨L, h1, h2, h3, h4, h5⟩ := h
  have hlen := h2.len
  have axv : Apart x v := fun b hb hv => ax b hb ((h5 b).mpr (.inl hv))
  refine OwnE.apd h1 encFv_n hz hw (fun y hy t ht => ?_) hb (by simp; omega) (fun v' H' ov off hb' => ?_)
  · simp only [List.mem_singleton] at hy
    subst hy
    simp only [encFv, List.mem_cons, List.not_mem_nil, or_false] at ht
    rcases ht with rfl | rfl | rfl
    · rfl
    · rfl
    · exact hx.one
  have ax' : ∀ y ∈ L, Apart v' y.v := fun y hy b e1 e2 => by
    rcases hb' b e1 with e3 | e3
    · exact h3 y hy b e3 e2
    · obtain ⟨m, hm⟩ := h2.mem y hy
      obtain ⟨o, ho⟩ := hm.known b e2
      rw [e3] at ho; simp at ho
  have axx : Apart v' x := fun b e1 e2 => by
    rcases hb' b e1 with e3 | e3
    · exact axv b e2 e3
    · obtain ⟨o, ho⟩ := hx.known b e2
      rw [e3] at ho; simp at ho
  have hx' := hx.off off axv
  refine hk v' (fun b => bk v' = some b ∨ ∃ y ∈ L ++ [⟨r, c, x⟩], bk y.v = some b) H' ⟨_, ov, ?_, ?_, ?_, fun b => Iff.rfl⟩ (fun b o hbo hn => off b o hbo (fun e => hn ((h5 b).mpr (.inl e)))) ?_ (fun b hb => .inr ⟨⟨r, c, x⟩, by simp, hb⟩) hx'
  · exact (h2.imp (fun y hy m h => h.off off (h3 y hy).symm)).app ⟨⟨rfl, rfl, hx'⟩, trivial⟩
  · intro y hy
    rcases List.mem_append.mp hy with hy | hy
    · exact ax' y hy
    · simp only [List.mem_singleton] at hy; subst hy; exact axx
  · rw [List.pairwise_append]
    refine ⟨h4, List.pairwise_singleton _ _, fun y hy t ht => ?_⟩
    simp only [List.mem_singleton] at ht
    subst ht
    exact fun b e1 e2 => ax b e2 ((h5 b).mpr (.inr ⟨y, hy, e1⟩))
  · intro b hb
    rcases hb with hb | ⟨y, hy, e⟩
    · rcases hb' b hb with e3 | e3
      · exact .inl ((h5 b).mpr (.inl e3))
      · exact .inr (.inr e3)
    · rcases List.mem_append.mp hy with hy | hy
      · exact .inl ((h5 b).mpr (.inr ⟨y, hy, e⟩))
      · simp only [List.mem_singleton] at hy; subst hy; exact .inr (.inl e)
/-- Apart from what was pushed to. -/
theorem Apt.push {α : Type} [Bks α] {u : α} {S' : Rg} {x : Value} (hu : Kn H u) (hS : Apt u S) (hx : Apt u x) (hb : ∀ b, S' b → S b ∨ bk x = some b ∨ H b = none) : Apt u S' := fun b h1 h2 => by
  rcases hb b h2 with h | h | h
  · exact hS b h1 h
  · exact hx b h1 h
  · obtain ⟨o, ho⟩ := hu b h1
    rw [h] at ho; simp at ho
theorem Nws.push {H0 : Hp} {S' : Rg} {x : Value} (hl : Le H0 H) (hS : Nws H0 S) (hx : Nw H0 x) (hb : ∀ b, S' b → S b ∨ bk x = some b ∨ H b = none) : Nws H0 S' := fun b h2 => by
  rcases hb b h2 with h | h | h
  · exact hS b h
  · exact hx b h
  · cases ho : H0 b with
    | none => rfl
    | some o => rw [hl b o ho] at h; simp at h
end
end HL
end Go.Proofs.YtijmoehbgkibnaaDoor
/- Maps from texts to numbers, as owned things. -/
namespace Go.Proofs.YtijmoehbgkibnaaDoor.HL
set_option maxRecDepth 100000
/-- The entries of a map, told as texts and numbers. -/
def entsS (es : List MapEntry) : List (ByteArray × Int) → Prop := fun ms => es.map (fun e => (e.key, e.val)) = ms.map (fun m => (Value.string m.1, Value.int .i64 m.2))
theorem entsS_keys {es : List MapEntry} {ms : List (ByteArray × Int)} (h : entsS es ms) : keysS es := fun e he => by
  have : (e.key, e.val) ∈ es.map (fun e => (e.key, e.val)) := List.mem_map.mpr ⟨e, he, rfl⟩
  rw [h] at this
  obtain ⟨m, _, hm⟩ := List.mem_map.mp this
  exact ⟨m.1, by injection hm with h1 _; exact h1.symm⟩
/-- A map that is owned. -/
def Mp (H : Hp) (p : Value) (S : Rg) (ms : List (ByteArray × Int)) : Prop := ∃ r es c, p = .map (some r) ∧ H r = some (.map es c) ∧ entsS es.toList ms ∧ ∀ b, S b ↔ b = r
section
variable {H H' : Hp} {p : Value} {S : Rg} {ms : List (ByteArray × Int)}
theorem Mp.known (h : Mp H p S ms) : Kn H S := by
  obtain ⟨r, es, c, _, hr, _, hS⟩ := h
  intro b hb
  rw [(hS b).mp hb]; exact ⟨_, hr⟩
theorem Mp.le (h : Mp H p S ms) (hl : Le H H') : Mp H' p S ms := by
  obtain ⟨r, es, c, e, hr, he, hS⟩ := h
  exact ⟨r, es, c, e, hl r _ hr, he, hS⟩
theorem Mp.off {w : Value} (h : Mp H p S ms) (ho : Off w H H') (ha : Apt S w) : Mp H' p S ms := by
  obtain ⟨r, es, c, e, hr, he, hS⟩ := h
  exact ⟨r, es, c, e, ho r _ hr (ha r ((hS r).mpr rfl)), he, hS⟩
/-- What the map has at a text. -/
def mget (k : ByteArray) : List (ByteArray × Int) → Option Int
  | [] => none
  | m :: ms => bif k == m.1 then some m.2 else mget k ms
theorem findS_mget (k : ByteArray) : ∀ (es : List MapEntry) (ms : List (ByteArray × Int)) (i : Nat), entsS es ms → (findS k es i).map Prod.snd = (mget k ms).map (Value.int .i64)
  | [], [], _, _ => rfl
  | e :: es, m :: ms, i, h => by
    simp only [entsS, List.map_cons, List.cons.injEq, Prod.mk.injEq] at h
    obtain ⟨⟨h1, h2⟩, h3⟩ := h
    have ih := findS_mget k es ms (i + 1) h3
    unfold findS mget
    rw [h1]
    simp only [keyIs]
    cases k == m.1
    · exact ih
    · simp [h2]
  | [], _ :: _, _, h => by simp [entsS] at h
  | _ :: _, [], _, h => by simp [entsS] at h
/-- One more entry. -/
theorem Mp.add {P : Program} {t kt et : TypeId} {k : ByteArray} {x : Int} {K : Unit → Hp → Prop} (h : Mp H p S ms) (ht : P.underlying t = some (.map kt et)) (hk : P.underlying kt = some .string) (hn : mget k ms = none)
    (hK : ∀ H', Mp H' p S (ms ++ [(k, x)]) → OffS S H H' → K () H') : hp P (Instr.mapUpdate t p (.string k) (.int .i64 x)) H K := by
  obtain ⟨r, es, c, rfl, hr, he, hS⟩ := h
  have e := findS_mget k es.toList ms 0 he
  have hf : findS k es.toList 0 = none := by
    rw [hn] at e
    cases h : findS k es.toList 0 with
    | none => rfl
    | some x => rw [h] at e; simp at e
  refine hp_mapUpdate_new ht hk hr (entsS_keys he) hf ?_
  refine hK _ ⟨r, _, c + 1, rfl, Hp.put_same _ _ _, ?_, hS⟩ (fun b o hb hn => ?_)
  · unfold entsS at he ⊢
    rw [Array.toList_push, List.map_append, he, List.map_append]; rfl
  · rw [Hp.put_ne _ _ (by rintro rfl; exact hn ((hS _).mpr rfl))]; exact hb
end
end Go.Proofs.YtijmoehbgkibnaaDoor.HL
/- Bytes in slices. -/
namespace Go.Proofs.YtijmoehbgkibnaaDoor.HL
abbrev eU : Int → Value := .int .u8
end Go.Proofs.YtijmoehbgkibnaaDoor.HL
/- Bytes told as texts. -/
namespace Go.Proofs.YtijmoehbgkibnaaDoor.HL
set_option maxRecDepth 100000
def bytesS (s : ByteArray) (l : List Int) : ByteArray := l.foldl (fun s n => s.push (UInt8.ofNat n.toNat)) s
theorem val_bytesFrom (P : Program) (H : Hp) : ∀ (l : List Int) (s : ByteArray),
    val P (forIn (l.map eU) s fun c r => (match c with
      | Value.int IntKind.u8 n => pure (ForInStep.yield (r.push (UInt8.ofNat n.toNat)))
      | _ => do
        stuck "bytesToString: byte expected"
        pure (ForInStep.yield r) : Sem (ForInStep ByteArray))) H = some (bytesS s l)
  | [], s => rfl
  | n :: l, s => by
    simp only [List.map_cons, List.forIn_cons, val_bind', val_pure, Option.bind_some]
    exact val_bytesFrom P H l _
theorem val_bytesToString {P : Program} {H : Hp} {v : Value} {l : List Int} (h : Sl eU H v l) : val P (Conv.bytesToString v) H = some (.string (bytesS .empty l)) := by
  have hf := h.firstC
  obtain ⟨a, c, rfl, hc, hr⟩ := h
  cases a with
  | none =>
    have : l = [] := by
      cases l with
      | nil => rfl
      | cons x r => obtain ⟨ad, e, _⟩ := hr 0 (by simp); simp at e
    subst this
    rfl
  | some ad =>
    simp only [HL.firstC, Nat.mul_one] at hf
    unfold Conv.bytesToString
    simp only [val_bind', val_loadCells P H ad l.length _ hf, Option.bind_some]
    have := val_bytesFrom P H l .empty
    simp only [List.forIn_toArray]
    exact Eq.trans (congrArg (fun o => Option.bind o (fun v => val P (pure (Value.string v)) H)) this) rfl
theorem bytesS_data : ∀ (l : List Int) (s : ByteArray), (bytesS s l).data.toList = s.data.toList ++ l.map fun n => UInt8.ofNat n.toNat
  | [], s => by simp [bytesS]
  | n :: l, s => by
    have := bytesS_data l (s.push (UInt8.ofNat n.toNat))
    simp only [bytesS, List.foldl_cons, List.map_cons] at this ⊢
    rw [this, ByteArray.data_push, Array.toList_push, List.append_assoc]; rfl
end Go.Proofs.YtijmoehbgkibnaaDoor.HL
/- Lanes that are switched: what the program's and the reference's functions come to. -/
namespace Go.Proofs.YtijmoehbgkibnaaDoor
open HL
set_option maxRecDepth 100000
/-- May the car at i leave lane a for lane b? -/
def chg (a b : List Int) (i : Int) : Prop :=
  0 ≤ at_ 0 a i ∧ 0 ≤ at_ 0 a ((i + 1).tmod a.length) ∧ at_ 0 b i < 0 ∧ at_ 0 b ((i + 1).tmod a.length) < 0 ∧ at_ 0 b ((i + a.length - 1).tmod a.length) < 0
instance (a b : List Int) (i : Int) : Decidable (chg a b i) := by unfold chg; infer_instance
/-- Numbers from k on. -/
def ramp (k : Int) (n : Nat) : List Int := (List.range n).map fun (i : Nat) => k + i
theorem ramp_length (k : Int) (n : Nat) : (ramp k n).length = n := by simp [ramp]
theorem ramp_succ (k : Int) (n : Nat) : ramp k (n + 1) = ramp k n ++ [k + n] := by simp [ramp, List.range_succ]
theorem C.laws_markInt64S {a : Value} {l : List Int} {k : Int} {H : Hp} {K : Value → Hp → Prop} (ha : Own eI H a l) (hl : l.length ≤ 4611686018427387904) (hk0 : 0 ≤ k) (hk1 : k ≤ 4611686018427387903)
    (hk : ∀ H', Own eI H' a (ramp k l.length) → Off a H H' → K (.int .i64 (k + l.length)) H') : HT prg I.laws_markInt64S [a, .int .i64 k].toArray H K := by
 refine R.laws_markInt64S ?_
 unfold F.laws_markInt64S jn; dsimp only
 refine ⟨fun n σ H1 => ∃ i : Nat, n = l.length - i ∧ i ≤ l.length ∧ σ 0 = a ∧ σ 1 = .int .i64 (k + i) ∧ σ 5 = .int .i64 i ∧ Own eI H1 a (ramp k i ++ l.drop i) ∧ Off a H H1,
  ⟨_, 0, rfl, by omega, rfl, by show Value.int .i64 k = _; simp, rfl, by simpa [ramp] using ha, fun b o hb _ => hb⟩, ?_⟩
 rintro n σ H1 ⟨i, rfl, hi', h0, h1, h5, ho, hoff⟩
 have hlen : (ramp k i ++ l.drop i).length = l.length := by simp [ramp_length]; omega
 have hlen2 := ho.len
 rw [hlen] at hlen2
 simp only [h0, h1, h5, hlen2, vInt_lss, ob_some]
 refine cnd_d (fun hlt => ?_) (fun hge => ?_)
 ·have hlt' : i < l.length := by omega
  rw [ho.sl.ix (by omega) (by rw [hlen]; omega), ob_some]
  refine ho.st (x := k + i) (by omega) (by rw [hlen]; omega) rfl rfl (fun H2 ho2 hoff2 => ?_)
  rw [vInt_add (by omega) (by omega), ob_some, vInt_add (by omega) (by omega), ob_some]
  refine nxt (l.length - (i + 1)) (by omega) ⟨i + 1, rfl, by omega, h0, ?_, rfl, ?_, hoff.trans hoff2⟩
  ·show Value.int .i64 (k + i + 1) = _
   congr 1; omega
  ·have e : (ramp k i ++ l.drop i).set (i : Int).toNat (k + i) = ramp k (i + 1) ++ l.drop (i + 1) := by
    rw [ramp_succ, Int.toNat_natCast, List.set_append_right _ _ (by rw [ramp_length]; exact Nat.le_refl _), ramp_length, Nat.sub_self, List.drop_eq_getElem_cons hlt']
    simp only [List.set_cons_zero, List.append_assoc, List.singleton_append]
   rw [← e]; exact ho2
 ·have : i = l.length := by omega
  subst this
  refine retK (K := K) h1 (hk H1 ?_ hoff)
  simpa using ho
theorem at_ramp (k : Int) (n i : Nat) (h : i < n) : at_ 0 (ramp k n) (i : Int) = k + i := by
  rw [at_eq 0 _ (by rw [ramp_length]; exact h)]; simp [ramp]
theorem C.laws_heldInt64S {a : Value} {k : Int} {m : Nat} {H : Hp} {K : Value → Hp → Prop} (ha : Sl eI H a (ramp k m)) (hl : m ≤ 4611686018427387904) (hk0 : 0 ≤ k) (hk1 : k ≤ 4611686018427387903)
    (hk : K (.int .i64 (k + m)) H) : HT prg I.laws_heldInt64S [a, .int .i64 k].toArray H K := by
 refine R.laws_heldInt64S ?_
 unfold F.laws_heldInt64S jn; dsimp only
 have hlen := ha.len
 rw [ramp_length] at hlen
 refine ⟨fun n σ H1 => ∃ i : Nat, n = m - i ∧ i ≤ m ∧ H1 = H ∧ σ 0 = a ∧ σ 1 = .int .i64 (k + i) ∧ σ 5 = .int .i64 i,
  ⟨_, 0, rfl, by omega, rfl, rfl, by show Value.int .i64 k = _; simp, rfl⟩, ?_⟩
 rintro n σ H1 ⟨i, rfl, hi', rfl, h0, h1, h5⟩
 simp only [h0, h1, h5, hlen, vInt_lss, ob_some]
 refine cnd_d (fun hlt => ?_) (fun hge => ?_)
 ·have hlt' : i < m := by omega
  rw [ha.ix (by omega) (by rw [ramp_length]; omega), ob_some, ha.ld 0 (by omega) (by rw [ramp_length]; omega), ob_some, at_ramp k m i hlt', vInt_neq, ob_some]
  refine cnd_d (fun hne => absurd rfl hne) (fun _ => ?_)
  rw [vInt_add (by omega) (by omega), ob_some, vInt_add (by omega) (by omega), ob_some]
  refine nxt (m - (i + 1)) (by omega) ⟨i + 1, rfl, by omega, rfl, h0, ?_, rfl⟩
  show Value.int .i64 (k + i + 1) = _
  congr 1; omega
 ·have : i = m := by omega
  subst this
  exact retK (K := K) h1 hk
def okSw (l m : List Int) : Prop := isLane l ∧ isLane m ∧ l.length = m.length
instance (l m : List Int) : Decidable (okSw l m) := by unfold okSw; infer_instance
end Go.Proofs.YtijmoehbgkibnaaDoor
