/- The library's sort of whole numbers, here: by the given contract. -/
import Derived.Shelf.SortG.Plain
import Derived.Test.YthmdmbbdjbhcoaaChecked
import Derived.Test.YthmdmbbdjbhcoaaG0
namespace Go.Proofs
open Go.Shelf
def Try.laysN53_ren : Go.Shelf.Ren := ⟨fun | 53 => 53 | 59 => 133 | 63 => 101 | 64 => 102 | 68 => 151 | 70 => 127 | 71 => 128 | 72 => 129 | 73 => 130 | 74 => 131 | 75 => 132 | 76 => 134 | 77 => 135 | 78 => 136 | 79 => 137 | 88 => 146 | 89 => 147 | 90 => 148 | 91 => 149 | 92 => 150 | 96 => 156 | 0 => 0 | 1 => 1 | 2 => 2 | 29 => 157 | 31 => 154 | 33 => 84 | 98 => 159 | 99 => 160 | 100 => 161 | 101 => 162 | 102 => 163 | 103 => 164 | 104 => 165 | 105 => 166 | 106 => 167 | 107 => 168 | 108 => 169 | 109 => 170 | 110 => 171 | 111 => 172 | 112 => 173 | 113 => 176 | n => n, fun | 0 => 0 | 3 => 3 | 4 => 4 | 5 => 5 | 9 => 9 | 22 => 22 | 23 => 2 | 44 => 148 | 51 => 114 | 60 => 143 | 61 => 144 | 67 => 137 | 69 => 120 | 75 => 155 | 79 => 159 | 83 => 162 | 84 => 163 | 1 => 1 | 2 => 2 | 6 => 6 | 7 => 7 | 8 => 8 | 10 => 10 | 11 => 11 | 12 => 12 | 13 => 13 | 14 => 14 | 15 => 15 | 16 => 16 | 17 => 17 | 18 => 18 | 19 => 19 | 20 => 20 | 21 => 21 | 24 => 165 | 28 => 123 | 30 => 34 | 32 => 73 | 36 => 58 | 47 => 61 | 52 => 129 | 53 => 83 | 56 => 118 | 57 => 119 | 59 => 142 | 62 => 145 | 63 => 146 | 64 => 147 | 65 => 149 | 66 => 150 | 68 => 151 | 76 => 156 | 77 => 157 | 78 => 158 | 80 => 160 | 85 => 164 | 87 => 166 | 88 => 167 | 89 => 168 | 90 => 169 | 91 => 170 | 92 => 171 | 93 => 172 | 94 => 173 | 95 => 174 | 96 => 175 | 97 => 176 | 98 => 177 | 99 => 178 | 100 => 179 | 101 => 180 | 102 => 182 | n => n, fun | n => n⟩
theorem Try.laysN53 : Go.Proofs.SlLaysN.n53 Try.prog Try.laysN53_ren := {
  mixed := by kernel_rfl
  f53 := ⟨Try.f53.name, by kernel_rfl, Try.func53.trans (congrArg some (by kernel_rfl))⟩
  f59 := ⟨Try.f133.name, by kernel_rfl, Try.func133.trans (congrArg some (by kernel_rfl))⟩
  f63 := ⟨Try.f101.name, by kernel_rfl, Try.func101.trans (congrArg some (by kernel_rfl))⟩
  f64 := Try.func102.trans (congrArg some (by kernel_rfl))
  f68 := ⟨Try.f151.name, by kernel_rfl, Try.func151.trans (congrArg some (by kernel_rfl))⟩
  f70 := ⟨Try.f127.name, by kernel_rfl, Try.func127.trans (congrArg some (by kernel_rfl))⟩
  f71 := ⟨Try.f128.name, by kernel_rfl, Try.func128.trans (congrArg some (by kernel_rfl))⟩
  f72 := ⟨Try.f129.name, by kernel_rfl, Try.func129.trans (congrArg some (by kernel_rfl))⟩
  f73 := ⟨Try.f130.name, by kernel_rfl, Try.func130.trans (congrArg some (by kernel_rfl))⟩
  f74 := ⟨Try.f131.name, by kernel_rfl, Try.func131.trans (congrArg some (by kernel_rfl))⟩
  f75 := ⟨Try.f132.name, by kernel_rfl, Try.func132.trans (congrArg some (by kernel_rfl))⟩
  f76 := ⟨Try.f134.name, by kernel_rfl, Try.func134.trans (congrArg some (by kernel_rfl))⟩
  f77 := ⟨Try.f135.name, by kernel_rfl, Try.func135.trans (congrArg some (by kernel_rfl))⟩
  f78 := Try.func136.trans (congrArg some (by kernel_rfl))
  f79 := Try.func137.trans (congrArg some (by kernel_rfl))
  f88 := ⟨Try.f146.name, by kernel_rfl, Try.func146.trans (congrArg some (by kernel_rfl))⟩
  f89 := Try.func147.trans (congrArg some (by kernel_rfl))
  f90 := Try.func148.trans (congrArg some (by kernel_rfl))
  f91 := ⟨Try.f149.name, by kernel_rfl, Try.func149.trans (congrArg some (by kernel_rfl))⟩
  f92 := ⟨Try.f150.name, by kernel_rfl, Try.func150.trans (congrArg some (by kernel_rfl))⟩
  f96 := ⟨Try.f156.name, by kernel_rfl, Try.func156.trans (congrArg some (by kernel_rfl))⟩
  t0 := Try.underlying0
  a0 := Try.isAgg0
  z0 := Try.sizeOf0
  v0 := Try.zeroValue0
  t3 := Try.underlying3
  a3 := Try.isAgg3
  z3 := Try.sizeOf3
  v3 := Try.zeroValue3
  t4 := Try.underlying4
  a4 := Try.isAgg4
  z4 := Try.sizeOf4
  v4 := Try.zeroValue4
  t5 := Try.underlying5
  a5 := Try.isAgg5
  z5 := Try.sizeOf5
  v5 := Try.zeroValue5
  t9 := Try.underlying9
  a9 := Try.isAgg9
  z9 := Try.sizeOf9
  v9 := Try.zeroValue9
  t22 := Try.underlying22
  a22 := Try.isAgg22
  z22 := Try.sizeOf22
  v22 := Try.zeroValue22
  t23 := Try.underlying2
  a23 := Try.isAgg2
  z23 := Try.sizeOf2
  v23 := Try.zeroValue2
  t44 := Try.underlying148
  a44 := Try.isAgg148
  z44 := Try.sizeOf148
  v44 := Try.zeroValue148
  t51 := Try.underlying114
  a51 := Try.isAgg114
  z51 := Try.sizeOf114
  v51 := Try.zeroValue114
  t60 := Try.underlying143
  a60 := Try.isAgg143
  z60 := Try.sizeOf143
  v60 := Try.zeroValue143
  t61 := Try.underlying144
  a61 := Try.isAgg144
  z61 := Try.sizeOf144
  v61 := Try.zeroValue144
  t67 := Try.underlying137
  a67 := Try.isAgg137
  z67 := Try.sizeOf137
  v67 := Try.zeroValue137
  t69 := Try.underlying120
  a69 := Try.isAgg120
  z69 := Try.sizeOf120
  v69 := Try.zeroValue120
  t75 := Try.underlying155
  a75 := Try.isAgg155
  z75 := Try.sizeOf155
  v75 := Try.zeroValue155
  t79 := Try.underlying159
  a79 := Try.isAgg159
  z79 := Try.sizeOf159
  v79 := Try.zeroValue159
  t83 := Try.underlying162
  a83 := Try.isAgg162
  z83 := Try.sizeOf162
  v83 := Try.zeroValue162
  t84 := Try.underlying163
  a84 := Try.isAgg163
  z84 := Try.sizeOf163
  v84 := Try.zeroValue163 }
end Go.Proofs
namespace Go.Proofs.Ythmdmbbdjbhcoaa
open Go.Sort Go.RowKit in
theorem sortI_calls (blk off cap : Nat) (zs : List Int) (w : World) (hH : Holds (Value.int .i64) w blk off zs.toArray) (hblk : blk < w.heap.size) (hsz : zs.length < 4611686018427387904) :
    Calls prg I.slices_Sort_int64Zint64 #[.slice (some ⟨blk, off, none⟩) zs.length cap] w fun e w' =>
      e = .returned (.tuple #[]) ∧ ∃ n os, w' = grow (putRow (Value.int .i64) (Sort.ahead w n) blk off (zs.mergeSort fun x y => decide (x ≤ y)).toArray) os := AnyG.slices_Sort_int Try.laysN53 blk off cap zs w hH hblk hsz
end Go.Proofs.Ythmdmbbdjbhcoaa
