/- Functions' texts over a partial heap. -/
import Derived.Test.YthgjegbckkpaiaaG0
namespace Go.Proofs.Ythgjegbckkpaiaa
open HL
set_option linter.unusedVariables false
set_option maxRecDepth 100000
set_option maxHeartbeats 4000000
/-! loop.example/g01381/impl.areCounts: function 72 -/
def F.impl_areCounts (a0 : Value) (H : Hp) (K : Value → Hp → Prop) : Prop :=
  jn (fun σ1 H1 =>
    HT prg I.impl_areWithin [(σ1 0), (.int .i64 0), (.int .i64 8)].toArray H1 fun v21x2 H3 =>
    K v21x2 H3) fun J1 =>
  lpE (fun Q4 σ4 H4 =>
    ob (vLenSl (σ4 0)) fun v6x5 =>
    ob (vInt .lss (σ4 3) v6x5) fun v7x6 =>
    cnd v7x6
      (ob (vIx 1 (σ4 0) (σ4 3)) fun v12x7 =>
    ob (vLoad v12x7 H4) fun v13x8 =>
    ob (vInt .sub (σ4 3) (.int .i64 1)) fun v16x9 =>
    ob (vIx 1 (σ4 0) v16x9) fun v17x10 =>
    ob (vLoad v17x10 H4) fun v18x11 =>
    ob (vInt .leq v13x8 v18x11) fun v19x12 =>
    cnd v19x12
      (Q4 .ret (up (up (up (up (up (up (up (up (up (up (up (up (up (up (up σ4 4 (σ4 3)) 5 (σ4 0)) 6 v6x5) 7 v7x6) 10 (σ4 0)) 11 (σ4 3)) 12 v12x7) 13 v13x8) 14 (σ4 0)) 15 (σ4 3)) 16 v16x9) 17 v17x10) 18 v18x11) 19 v19x12) 2 (.bool false)) H4)
      (ob (vInt .add (σ4 3) (.int .i64 1)) fun v9x13 =>
    Q4 .normal (up (up (up (up (up (up (up (up (up (up (up (up (up (up (up (up (up σ4 4 (σ4 3)) 5 (σ4 0)) 6 v6x5) 7 v7x6) 10 (σ4 0)) 11 (σ4 3)) 12 v12x7) 13 v13x8) 14 (σ4 0)) 15 (σ4 3)) 16 v16x9) 17 v17x10) 18 v18x11) 19 v19x12) 8 (σ4 3)) 9 v9x13) 3 v9x13) H4))
      (Q4 (.exit 0) (up (up (up (up σ4 4 (σ4 3)) 5 (σ4 0)) 6 v6x5) 7 v7x6) H4)) (blkQ 0 (thenQ J1 (retQ prg [(.tmp 2)] K))) (up (up (S0 [a0]) 2 (.bool false)) 3 (.int .i64 1)) H
def O.impl_areCounts : Nat → Nat × List Nat := fun i => bif Nat.beq i 4 then (0, [0, 1, 2, 3, 4, 5, 6, 7, 8, 9]) else (0, [])
theorem R.impl_areCounts {a0 : Value} {H : Hp} {K : Value → Hp → Prop} (h : F.impl_areCounts a0 H K) : HT prg I.impl_areCounts [a0].toArray H K :=
  HT_of_fev O.impl_areCounts mixed Try.func72 (by kernel_rfl) (Eq.mpr (by kernel_rfl : fev prg O.impl_areCounts Try.f72 [a0] H K = F.impl_areCounts a0 H K) h)

/-! loop.example/g01381/impl.ValidLife: function 56 -/
def F.impl_ValidLife (a0 : Value) (H : Hp) (K : Value → Hp → Prop) : Prop :=
  nw (a0 : Value).cells 42 H fun v1x1 H2 =>
  ob (vFa 0 v1x1) fun v3x3 =>
  ob (vLoad v3x3 H2) fun v4x4 =>
  HT prg I.impl_areCounts [v4x4].toArray H2 fun v5x5 H6 =>
  gop v5x5 true (fun K7 => ob (vFa 1 v1x1) fun u => K7 u H6) H6 fun v7x8 H9 =>
  gop v5x5 true (fun K10 => ob (vLoad v7x8 H9) fun u => K10 u H9) H9 fun v8x11 H12 =>
  gop v5x5 true (fun K13 => HT prg I.impl_areCounts [v8x11].toArray H12 K13) H12 fun v9x14 H15 =>
  ob (vPick v5x5 v9x14 (.bool false)) fun v10x16 =>
  K v10x16 H15
def O.impl_ValidLife : Nat → Nat × List Nat := fun i => (0, [])
theorem R.impl_ValidLife {a0 : Value} {H : Hp} {K : Value → Hp → Prop} (h : F.impl_ValidLife a0 H K) : HT prg I.impl_ValidLife [a0].toArray H K :=
  HT_of_fev O.impl_ValidLife mixed Try.func56 (by kernel_rfl) (Eq.mpr (by kernel_rfl : fev prg O.impl_ValidLife Try.f56 [a0] H K = F.impl_ValidLife a0 H K) h)

/-! loop.example/g01381/impl.bit: function 89 -/
def F.impl_bit (a0 : Value) (H : Hp) (K : Value → Hp → Prop) : Prop :=
  cnd a0
    (K (.int .i64 1) H)
    (K (.int .i64 0) H)
def O.impl_bit : Nat → Nat × List Nat := fun i => (0, [])
theorem R.impl_bit {a0 : Value} {H : Hp} {K : Value → Hp → Prop} (h : F.impl_bit a0 H K) : HT prg I.impl_bit [a0].toArray H K :=
  HT_of_fev O.impl_bit mixed Try.func89 (by kernel_rfl) (Eq.mpr (by kernel_rfl : fev prg O.impl_bit Try.f89 [a0] H K = F.impl_bit a0 H K) h)

/-! slices.Index[[]int64,int64]: function 92 -/
def F.slices_Index_int64Zint64 (a0 a1 : Value) (H : Hp) (K : Value → Hp → Prop) : Prop :=
  jn (fun σ1 H1 =>
    K (.int .i64 (-1)) H1) fun J1 =>
  ob (vLenSl a0) fun v7x2 =>
  lpE (fun Q3 σ3 H3 =>
    ob (vInt .lss (σ3 8) (σ3 7)) fun v9x4 =>
    cnd v9x4
      (ob (vIx 1 (σ3 0) (σ3 8)) fun v14x5 =>
    ob (vLoad v14x5 H3) fun v15x6 =>
    ob (vInt .eql (σ3 1) v15x6) fun v16x7 =>
    cnd v16x7
      (Q3 .ret (up (up (up (up (up (up (up (up (up (up (up σ3 9 v9x4) 10 (σ3 8)) 5 (σ3 8)) 11 (σ3 1)) 12 (σ3 0)) 13 (σ3 8)) 14 v14x5) 15 v15x6) 16 v16x7) 17 (σ3 8)) 4 (σ3 8)) H3)
      (ob (vInt .add (σ3 8) (.int .i64 1)) fun v18x8 =>
    Q3 .normal (up (up (up (up (up (up (up (up (up (up (up σ3 9 v9x4) 10 (σ3 8)) 5 (σ3 8)) 11 (σ3 1)) 12 (σ3 0)) 13 (σ3 8)) 14 v14x5) 15 v15x6) 16 v16x7) 18 v18x8) 8 v18x8) H3))
      (Q3 (.exit 0) (up σ3 9 v9x4) H3)) (blkQ 0 (thenQ J1 (retQ prg [(.tmp 4)] K))) (up (up (up (up (S0 [a0, a1]) 4 (.int .i64 0)) 6 a0) 7 v7x2) 8 (.int .i64 0)) H
def O.slices_Index_int64Zint64 : Nat → Nat × List Nat := fun i => (0, [])
theorem R.slices_Index_int64Zint64 {a0 a1 : Value} {H : Hp} {K : Value → Hp → Prop} (h : F.slices_Index_int64Zint64 a0 a1 H K) : HT prg I.slices_Index_int64Zint64 [a0, a1].toArray H K :=
  HT_of_fev O.slices_Index_int64Zint64 mixed Try.func92 (by kernel_rfl) (Eq.mpr (by kernel_rfl : fev prg O.slices_Index_int64Zint64 Try.f92 [a0, a1] H K = F.slices_Index_int64Zint64 a0 a1 H K) h)

/-! slices.Contains[[]int64,int64]: function 90 -/
def F.slices_Contains_int64Zint64 (a0 a1 : Value) (H : Hp) (K : Value → Hp → Prop) : Prop :=
  HT prg I.slices_Index_int64Zint64 [a0, a1].toArray H fun v7x1 H2 =>
  ob (vInt .geq v7x1 (.int .i64 0)) fun v8x3 =>
  K v8x3 H2
def O.slices_Contains_int64Zint64 : Nat → Nat × List Nat := fun i => (0, [])
theorem R.slices_Contains_int64Zint64 {a0 a1 : Value} {H : Hp} {K : Value → Hp → Prop} (h : F.slices_Contains_int64Zint64 a0 a1 H K) : HT prg I.slices_Contains_int64Zint64 [a0, a1].toArray H K :=
  HT_of_fev O.slices_Contains_int64Zint64 mixed Try.func90 (by kernel_rfl) (Eq.mpr (by kernel_rfl : fev prg O.slices_Contains_int64Zint64 Try.f90 [a0, a1] H K = F.slices_Contains_int64Zint64 a0 a1 H K) h)

/-! (loop.example/g01381/impl.Life).becomes: function 83 -/
def F.impl_Life_becomes (a0 a1 a2 : Value) (H : Hp) (K : Value → Hp → Prop) : Prop :=
  nw (a0 : Value).cells 42 H fun v3x1 H2 =>
  ob (vInt .eql a1 (.int .i64 0)) fun v8x3 =>
  cnd v8x3
    (ob (vFa 0 v3x1) fun v9x4 =>
    ob (vLoad v9x4 H2) fun v10x5 =>
    HT prg I.slices_Contains_int64Zint64 [v10x5, a2].toArray H2 fun v12x6 H7 =>
    HT prg I.impl_bit [v12x6].toArray H7 fun v13x8 H9 =>
    K v13x8 H9)
    (ob (vFa 1 v3x1) fun v14x10 =>
  ob (vLoad v14x10 H2) fun v15x11 =>
  HT prg I.slices_Contains_int64Zint64 [v15x11, a2].toArray H2 fun v17x12 H13 =>
  HT prg I.impl_bit [v17x12].toArray H13 fun v18x14 H15 =>
  K v18x14 H15)
def O.impl_Life_becomes : Nat → Nat × List Nat := fun i => (0, [])
theorem R.impl_Life_becomes {a0 a1 a2 : Value} {H : Hp} {K : Value → Hp → Prop} (h : F.impl_Life_becomes a0 a1 a2 H K) : HT prg I.impl_Life_becomes [a0, a1, a2].toArray H K :=
  HT_of_fev O.impl_Life_becomes mixed Try.func83 (by kernel_rfl) (Eq.mpr (by kernel_rfl : fev prg O.impl_Life_becomes Try.f83 [a0, a1, a2] H K = F.impl_Life_becomes a0 a1 a2 H K) h)

/-! loop.example/g01381/impl.floorMod: function 93 -/
def F.impl_floorMod (a0 a1 : Value) (H : Hp) (K : Value → Hp → Prop) : Prop :=
  ob (vInt .rem a0 a1) fun v7x1 =>
  ob (vInt .add v7x1 a1) fun v9x2 =>
  ob (vInt .rem v9x2 a1) fun v11x3 =>
  K v11x3 H
def O.impl_floorMod : Nat → Nat × List Nat := fun i => (0, [])
theorem R.impl_floorMod {a0 a1 : Value} {H : Hp} {K : Value → Hp → Prop} (h : F.impl_floorMod a0 a1 H K) : HT prg I.impl_floorMod [a0, a1].toArray H K :=
  HT_of_fev O.impl_floorMod mixed Try.func93 (by kernel_rfl) (Eq.mpr (by kernel_rfl : fev prg O.impl_floorMod Try.f93 [a0, a1] H K = F.impl_floorMod a0 a1 H K) h)

/-! (loop.example/g01381/impl.Field).has: function 94 -/
def F.impl_Field_has (a0 a1 a2 : Value) (H : Hp) (K : Value → Hp → Prop) : Prop :=
  nw (a0 : Value).cells 28 H fun v3x1 H2 =>
  ob (vFa 0 v3x1) fun v8x3 =>
  ob (vLoad v8x3 H2) fun v9x4 =>
  ob (vInt .sub v9x4 (.int .i64 1)) fun v10x5 =>
  HT prg I.impl_within [a1, (.int .i64 0), v10x5].toArray H2 fun v11x6 H7 =>
  gop v11x6 true (fun K8 => K8 a2 H7) H7 fun v13x9 H10 =>
  gop v11x6 true (fun K11 => ob (vFa 1 v3x1) fun u => K11 u H10) H10 fun v14x12 H13 =>
  gop v11x6 true (fun K14 => ob (vLoad v14x12 H13) fun u => K14 u H13) H13 fun v15x15 H16 =>
  gop v11x6 true (fun K17 => ob (vInt .sub v15x15 (.int .i64 1)) fun u => K17 u H16) H16 fun v16x18 H19 =>
  gop v11x6 true (fun K20 => HT prg I.impl_within [v13x9, (.int .i64 0), v16x18].toArray H19 K20) H19 fun v17x21 H22 =>
  ob (vPick v11x6 v17x21 (.bool false)) fun v18x23 =>
  K v18x23 H22
def O.impl_Field_has : Nat → Nat × List Nat := fun i => (0, [])
theorem R.impl_Field_has {a0 a1 a2 : Value} {H : Hp} {K : Value → Hp → Prop} (h : F.impl_Field_has a0 a1 a2 H K) : HT prg I.impl_Field_has [a0, a1, a2].toArray H K :=
  HT_of_fev O.impl_Field_has mixed Try.func94 (by kernel_rfl) (Eq.mpr (by kernel_rfl : fev prg O.impl_Field_has Try.f94 [a0, a1, a2] H K = F.impl_Field_has a0 a1 a2 H K) h)

/-! (loop.example/g01381/impl.Field).look: function 91 -/
def F.impl_Field_look (a0 a1 a2 a3 : Value) (H : Hp) (K : Value → Hp → Prop) : Prop :=
  nw (a0 : Value).cells 28 H fun v4x1 H2 =>
  cnd a3
    (ob (vLoadN 3 v4x1 H2) fun v10x3 =>
    ob (vFa 0 v4x1) fun v12x4 =>
    ob (vLoad v12x4 H2) fun v13x5 =>
    ob (vFa 1 v4x1) fun v16x6 =>
    ob (vLoad v16x6 H2) fun v17x7 =>
    HT prg I.impl_floorMod [a1, v13x5].toArray H2 fun v14x8 H9 =>
    Le H2 H9 ∧ (HT prg I.impl_floorMod [a2, v17x7].toArray H9 fun v18x10 H11 =>
    Le H9 H11 ∧ (HT prg I.impl_Field_at [v10x3, v14x8, v18x10].toArray H11 fun v19x12 H13 =>
    Le H11 H13 ∧ (K v19x12 H13))))
    (ob (vLoadN 3 v4x1 H2) fun v20x14 =>
  HT prg I.impl_Field_has [v20x14, a1, a2].toArray H2 fun v23x15 H16 =>
  ob (vUn .not v23x15) fun v24x17 =>
  cnd v24x17
    (K (.int .i64 0) H16)
    (ob (vLoadN 3 v4x1 H16) fun v25x18 =>
  HT prg I.impl_Field_at [v25x18, a1, a2].toArray H16 fun v28x19 H20 =>
  K v28x19 H20))
def O.impl_Field_look : Nat → Nat × List Nat := fun i => bif Nat.beq i 2 then (0, [0, 1, 2, 3, 5, 6, 7, 4, 8, 9, 10]) else (0, [])
theorem R.impl_Field_look {a0 a1 a2 a3 : Value} {H : Hp} {K : Value → Hp → Prop} (h : F.impl_Field_look a0 a1 a2 a3 H K) : HT prg I.impl_Field_look [a0, a1, a2, a3].toArray H K :=
  HT_of_fev O.impl_Field_look mixed Try.func91 (by kernel_rfl) (Eq.mpr (by kernel_rfl : fev prg O.impl_Field_look Try.f91 [a0, a1, a2, a3] H K = F.impl_Field_look a0 a1 a2 a3 H K) h)

/-! (loop.example/g01381/impl.Field).around: function 84 -/
def F.impl_Field_around (a0 a1 a2 a3 : Value) (H : Hp) (K : Value → Hp → Prop) : Prop :=
  nw (a0 : Value).cells 28 H fun v4x1 H2 =>
  ob (vLoadN 3 v4x1 H2) fun v12x3 =>
  HT prg I.impl_Field_at [v12x3, a1, a2].toArray H2 fun v15x4 H5 =>
  ob (vUn .neg v15x4) fun v16x6 =>
  jn (fun σ7 H7 =>
    K (σ7 9) H7) fun J7 =>
  ob (vInt .sub a1 (.int .i64 1)) fun v18x8 =>
  lpE (fun Q9 σ9 H9 =>
    ob (vInt .add (σ9 1) (.int .i64 1)) fun v21x10 =>
    ob (vInt .leq (σ9 10) v21x10) fun v22x11 =>
    cnd v22x11
      (jn (fun σ12 H12 =>
      ob (vInt .add (σ12 10) (.int .i64 1)) fun v24x13 =>
      Q9 .normal (up (up (up σ12 23 (σ12 10)) 24 v24x13) 10 v24x13) H12) fun J12 =>
    ob (vInt .sub (σ9 2) (.int .i64 1)) fun v26x14 =>
    lpE (fun Q15 σ15 H15 =>
      ob (vInt .add (σ15 2) (.int .i64 1)) fun v29x16 =>
      ob (vInt .leq (σ15 11) v29x16) fun v30x17 =>
      cnd v30x17
        (ob (vLoadN 3 (σ15 4) H15) fun v34x18 =>
      HT prg I.impl_Field_look [v34x18, (σ15 10), (σ15 11), (σ15 3)].toArray H15 fun v38x19 H20 =>
      ob (vInt .add (σ15 9) v38x19) fun v39x21 =>
      ob (vInt .add (σ15 11) (.int .i64 1)) fun v32x22 =>
      Q15 .normal (up (up (up (up (up (up (up (up (up (up (up (up (up (up (up σ15 27 (σ15 11)) 28 (σ15 2)) 29 v29x16) 30 v30x17) 33 (σ15 9)) 34 v34x18) 35 (σ15 10)) 36 (σ15 11)) 37 (σ15 3)) 38 v38x19) 39 v39x21) 9 v39x21) 31 (σ15 11)) 32 v32x22) 11 v32x22) H20)
        (Q15 (.exit 2) (up (up (up (up σ15 27 (σ15 11)) 28 (σ15 2)) 29 v29x16) 30 v30x17) H15)) (blkQ 2 (blkQ 1 (thenQ J12 Q9))) (up (up (up (up (up (up (up σ9 19 (σ9 10)) 20 (σ9 1)) 21 v21x10) 22 v22x11) 25 (σ9 2)) 26 v26x14) 11 v26x14) H9)
      (Q9 (.exit 0) (up (up (up (up σ9 19 (σ9 10)) 20 (σ9 1)) 21 v21x10) 22 v22x11) H9)) (blkQ 0 (thenQ J7 (retQ prg [(.tmp 8)] K))) (up (up (up (up (up (up (up (up (up (up (up (S0 [a0, a1, a2, a3]) 4 v4x1) 8 (.int .i64 0)) 12 v12x3) 13 a1) 14 a2) 15 v15x4) 16 v16x6) 9 v16x6) 17 a1) 18 v18x8) 10 v18x8) H5
def O.impl_Field_around : Nat → Nat × List Nat := fun i => (0, [])
theorem R.impl_Field_around {a0 a1 a2 a3 : Value} {H : Hp} {K : Value → Hp → Prop} (h : F.impl_Field_around a0 a1 a2 a3 H K) : HT prg I.impl_Field_around [a0, a1, a2, a3].toArray H K :=
  HT_of_fev O.impl_Field_around mixed Try.func84 (by kernel_rfl) (Eq.mpr (by kernel_rfl : fev prg O.impl_Field_around Try.f84 [a0, a1, a2, a3] H K = F.impl_Field_around a0 a1 a2 a3 H K) h)

/-! (loop.example/g01381/impl.Life).step$1: function 82 -/
def F.impl_Life_step_1 (a0 a1 a2 a3 a4 : Value) (H : Hp) (K : Value → Hp → Prop) : Prop :=
  ob (vLoadN 2 a2 H) fun v8x1 =>
  ob (vLoadN 3 a3 H) fun v9x2 =>
  ob (vLoadN 3 a3 H) fun v13x3 =>
  ob (vLoad a4 H) fun v16x4 =>
  HT prg I.impl_Field_at [v9x2, a0, a1].toArray H fun v12x5 H6 =>
  Le H H6 ∧ (HT prg I.impl_Field_around [v13x3, a0, a1, v16x4].toArray H6 fun v17x7 H8 =>
  Le H6 H8 ∧ (HT prg I.impl_Life_becomes [v8x1, v12x5, v17x7].toArray H8 fun v18x9 H10 =>
  Le H8 H10 ∧ (K v18x9 H10)))
def O.impl_Life_step_1 : Nat → Nat × List Nat := fun i => bif Nat.beq i 1 then (0, [0, 1, 2, 3, 5, 6, 7, 8, 4, 9, 10, 11]) else (0, [])
theorem R.impl_Life_step_1 {a0 a1 a2 a3 a4 : Value} {H : Hp} {K : Value → Hp → Prop} (h : F.impl_Life_step_1 a0 a1 a2 a3 a4 H K) : HT prg I.impl_Life_step_1 [a0, a1, a2, a3, a4].toArray H K :=
  HT_of_fev O.impl_Life_step_1 mixed Try.func82 (by kernel_rfl) (Eq.mpr (by kernel_rfl : fev prg O.impl_Life_step_1 Try.f82 [a0, a1, a2, a3, a4] H K = F.impl_Life_step_1 a0 a1 a2 a3 a4 H K) h)

/-! (loop.example/g01381/impl.Life).step: function 73 -/
def F.impl_Life_step (a0 a1 a2 : Value) (H : Hp) (K : Value → Hp → Prop) : Prop :=
  nw (a0 : Value).cells 42 H fun v3x1 H2 =>
  nw (a1 : Value).cells 28 H2 fun v4x3 H4 =>
  nw (a2 : Value).cells 4 H4 fun v5x5 H6 =>
  nw #[(.int .i64 0), (.int .i64 0), (.slice none 0 0)] 28 H6 fun v6x7 H8 =>
  ob (vFa 0 v4x3) fun v7x9 =>
  ob (vLoad v7x9 H8) fun v8x10 =>
  ob (vFa 1 v4x3) fun v9x11 =>
  ob (vLoad v9x11 H8) fun v10x12 =>
  HT prg I.impl_madeField [v8x10, v10x12, (.func (.func I.impl_Life_step_1) #[] #[v3x1, v4x3, v5x5])].toArray H8 fun v12x13 H14 =>
  st 3 v6x7 v12x13 H14 fun H15 =>
  ob (vLoadN 3 v6x7 H15) fun u16 => K u16 H15
def O.impl_Life_step : Nat → Nat × List Nat := fun i => (0, [])
theorem R.impl_Life_step {a0 a1 a2 : Value} {H : Hp} {K : Value → Hp → Prop} (h : F.impl_Life_step a0 a1 a2 H K) : HT prg I.impl_Life_step [a0, a1, a2].toArray H K :=
  HT_of_fev O.impl_Life_step mixed Try.func73 (by kernel_rfl) (Eq.mpr (by kernel_rfl : fev prg O.impl_Life_step Try.f73 [a0, a1, a2] H K = F.impl_Life_step a0 a1 a2 H K) h)

/-! (loop.example/g01381/impl.Life).inner: function 57 -/
def F.impl_Life_inner (a0 a1 : Value) (H : Hp) (K : Value → Hp → Prop) : Prop :=
  nw (a0 : Value).cells 42 H fun v2x1 H2 =>
  nw (a1 : Value).cells 28 H2 fun v3x3 H4 =>
  nw #[(.int .i64 0), (.int .i64 0), (.slice none 0 0)] 28 H4 fun v4x5 H6 =>
  ob (vLoadN 2 v2x1 H6) fun v5x7 =>
  ob (vLoadN 3 v3x3 H6) fun v6x8 =>
  ob (vFa 0 v3x3) fun v8x9 =>
  ob (vLoad v8x9 H6) fun v9x10 =>
  ob (vInt .sub v9x10 (.int .i64 2)) fun v10x11 =>
  ob (vFa 1 v3x3) fun v11x12 =>
  ob (vLoad v11x12 H6) fun v12x13 =>
  ob (vInt .sub v12x13 (.int .i64 2)) fun v13x14 =>
  HT prg I.impl_Life_step [v5x7, v6x8, (.bool false)].toArray H6 fun v7x15 H16 =>
  Le H6 H16 ∧ (HT prg I.impl_Field_cut [v7x15, (.int .i64 1), (.int .i64 1), v10x11, v13x14].toArray H16 fun v14x17 H18 =>
  Le H16 H18 ∧ (st 3 v4x5 v14x17 H18 fun H19 =>
  ob (vLoadN 3 v4x5 H19) fun u20 => K u20 H19))
def O.impl_Life_inner : Nat → Nat × List Nat := fun i => bif Nat.beq i 1 then (0, [0, 1, 3, 4, 5, 6, 7, 8, 2, 9, 10]) else (0, [])
theorem R.impl_Life_inner {a0 a1 : Value} {H : Hp} {K : Value → Hp → Prop} (h : F.impl_Life_inner a0 a1 H K) : HT prg I.impl_Life_inner [a0, a1].toArray H K :=
  HT_of_fev O.impl_Life_inner mixed Try.func57 (by kernel_rfl) (Eq.mpr (by kernel_rfl : fev prg O.impl_Life_inner Try.f57 [a0, a1] H K = F.impl_Life_inner a0 a1 H K) h)

/-! loop.example/g01381/impl.InnerLife: function 26 -/
def F.impl_InnerLife (a0 a1 : Value) (H : Hp) (K : Value → Hp → Prop) : Prop :=
  nw (a0 : Value).cells 42 H fun v2x1 H2 =>
  nw (a1 : Value).cells 28 H2 fun v3x3 H4 =>
  nw #[(.int .i64 0), (.int .i64 0), (.slice none 0 0)] 28 H4 fun v4x5 H6 =>
  ob (vLoadN 2 v2x1 H6) fun v7x7 =>
  HT prg I.impl_ValidLife [v7x7].toArray H6 fun v8x8 H9 =>
  ob (vUn .not v8x8) fun v9x10 =>
  gop v9x10 false (fun K11 => ob (vLoadN 3 v3x3 H9) fun u => K11 u H9) H9 fun v11x12 H13 =>
  gop v9x10 false (fun K14 => HT prg I.impl_isSquare [v11x12].toArray H13 K14) H13 fun v12x15 H16 =>
  gop v9x10 false (fun K17 => ob (vUn .not v12x15) fun u => K17 u H16) H16 fun v13x18 H19 =>
  ob (vPick v9x10 (.bool true) v13x18) fun v14x20 =>
  cnd v14x20
    (ob (vBuild [(0, 1), (1, 1), (2, 1)] (.agg #[(.int .i64 0), (.int .i64 0), (.slice none 0 0)]) []) fun v15x21 =>
    st 3 v4x5 v15x21 H19 fun H22 =>
    ob (vLoadN 3 v4x5 H22) fun u23 => K (.tuple #[u23, (.bool false)]) H22)
    (ob (vLoadN 3 v3x3 H19) fun v16x24 =>
  nw #[(.int .i64 0), (.int .i64 0), (.slice none 0 0)] 28 H19 fun v6x25 H26 =>
  st 3 v6x25 v16x24 H26 fun H27 =>
  jn (fun σ28 H28 =>
    ob (vLoadN 3 (σ28 6) H28) fun v26x29 =>
    st 3 (σ28 4) v26x29 H28 fun H30 =>
    ob (vLoadN 3 (σ28 4) H30) fun u31 => K (.tuple #[u31, (.bool true)]) H30) fun J28 =>
  ob (vFa 0 v3x3) fun v17x32 =>
  ob (vLoad v17x32 H27) fun v18x33 =>
  ob (vInt .quo v18x33 (.int .i64 4)) fun v19x34 =>
  lpE (fun Q35 σ35 H35 =>
    ob (vInt .lss (σ35 20) (σ35 19)) fun v21x36 =>
    cnd v21x36
      (ob (vLoadN 2 (σ35 2) H35) fun v22x37 =>
    ob (vLoadN 3 (σ35 6) H35) fun v23x38 =>
    HT prg I.impl_Life_inner [v22x37, v23x38].toArray H35 fun v24x39 H40 =>
    st 3 (σ35 6) v24x39 H40 fun H41 =>
    ob (vInt .add (σ35 20) (.int .i64 1)) fun v25x42 =>
    Q35 .normal (up (up (up (up (up (up σ35 21 v21x36) 22 v22x37) 23 v23x38) 24 v24x39) 25 v25x42) 20 v25x42) H41)
      (Q35 (.exit 0) (up σ35 21 v21x36) H35)) (blkQ 0 (thenQ J28 (retQ prg [(.cell 4 28), (.tmp 5)] K))) (up (up (up (up (up (up (up (up (up (up (up (up (up (up (up (up (up (up (S0 [a0, a1]) 2 v2x1) 3 v3x3) 4 v4x5) 5 (.bool false)) 7 v7x7) 8 v8x8) 9 v9x10) 10 v9x10) 11 v11x12) 12 v12x15) 13 v13x18) 14 v14x20) 16 v16x24) 6 v6x25) 17 v17x32) 18 v18x33) 19 v19x34) 20 (.int .i64 0)) H27)
def O.impl_InnerLife : Nat → Nat × List Nat := fun i => (0, [])
theorem R.impl_InnerLife {a0 a1 : Value} {H : Hp} {K : Value → Hp → Prop} (h : F.impl_InnerLife a0 a1 H K) : HT prg I.impl_InnerLife [a0, a1].toArray H K :=
  HT_of_fev O.impl_InnerLife mixed Try.func26 (by kernel_rfl) (Eq.mpr (by kernel_rfl : fev prg O.impl_InnerLife Try.f26 [a0, a1] H K = F.impl_InnerLife a0 a1 H K) h)

/-! loop.example/g01381/spec.l04Counts: function 85 -/
def F.spec_l04Counts (a0 : Value) (H : Hp) (K : Value → Hp → Prop) : Prop :=
  jn (fun σ1 H1 =>
    K (.bool true) H1) fun J1 =>
  lpE (fun Q2 σ2 H2 =>
    ob (vLenSl (σ2 0)) fun v6x3 =>
    ob (vInt .lss (σ2 3) v6x3) fun v7x4 =>
    cnd v7x4
      (ob (vIx 1 (σ2 0) (σ2 3)) fun v12x5 =>
    ob (vLoad v12x5 H2) fun v13x6 =>
    HT prg I.spec_l00In [v13x6, (.int .i64 0), (.int .i64 8)].toArray H2 fun v14x7 H8 =>
    Le H2 H8 ∧ (ob (vUn .not v14x7) fun v15x9 =>
    gop v15x9 false (fun K10 => K10 (σ2 3) H8) H8 fun v17x11 H12 =>
    gop v15x9 false (fun K13 => ob (vInt .gtr v17x11 (.int .i64 0)) fun u => K13 u H12) H12 fun v18x14 H15 =>
    gop v15x9 false (fun K16 => K16 v18x14 H15) H15 fun v19x17 H18 =>
    gop v19x17 true (fun K19 => K19 (σ2 0) H18) H18 fun v20x20 H21 =>
    gop v19x17 true (fun K22 => K22 (σ2 3) H21) H21 fun v21x23 H24 =>
    gop v19x17 true (fun K25 => ob (vIx 1 v20x20 v21x23) fun u => K25 u H24) H24 fun v22x26 H27 =>
    gop v19x17 true (fun K28 => ob (vLoad v22x26 H27) fun u => K28 u H27) H27 fun v23x29 H30 =>
    gop v19x17 true (fun K31 => K31 (σ2 0) H30) H30 fun v24x32 H33 =>
    gop v19x17 true (fun K34 => K34 (σ2 3) H33) H33 fun v25x35 H36 =>
    gop v19x17 true (fun K37 => ob (vInt .sub v25x35 (.int .i64 1)) fun u => K37 u H36) H36 fun v26x38 H39 =>
    gop v19x17 true (fun K40 => ob (vIx 1 v24x32 v26x38) fun u => K40 u H39) H39 fun v27x41 H42 =>
    gop v19x17 true (fun K43 => ob (vLoad v27x41 H42) fun u => K43 u H42) H42 fun v28x44 H45 =>
    gop v19x17 true (fun K46 => ob (vInt .leq v23x29 v28x44) fun u => K46 u H45) H45 fun v29x47 H48 =>
    gop v15x9 false (fun K49 => ob (vPick v19x17 v29x47 (.bool false)) fun u => K49 u H48) H48 fun v30x50 H51 =>
    ob (vPick v15x9 (.bool true) v30x50) fun v31x52 =>
    cnd v31x52
      (Q2 .ret (up (up (up (up (up (up (up (up (up (up (up (up (up (up (up (up (up (up (up (up (up (up (up (up (up (up (up σ2 4 (σ2 3)) 5 (σ2 0)) 6 v6x3) 7 v7x4) 10 (σ2 0)) 11 (σ2 3)) 12 v12x5) 13 v13x6) 14 v14x7) 15 v15x9) 16 v15x9) 17 v17x11) 18 v18x14) 19 v19x17) 20 v20x20) 21 v21x23) 22 v22x26) 23 v23x29) 24 v24x32) 25 v25x35) 26 v26x38) 27 v27x41) 28 v28x44) 29 v29x47) 30 v30x50) 31 v31x52) 2 (.bool false)) H51)
      (ob (vInt .add (σ2 3) (.int .i64 1)) fun v9x53 =>
    Q2 .normal (up (up (up (up (up (up (up (up (up (up (up (up (up (up (up (up (up (up (up (up (up (up (up (up (up (up (up (up (up σ2 4 (σ2 3)) 5 (σ2 0)) 6 v6x3) 7 v7x4) 10 (σ2 0)) 11 (σ2 3)) 12 v12x5) 13 v13x6) 14 v14x7) 15 v15x9) 16 v15x9) 17 v17x11) 18 v18x14) 19 v19x17) 20 v20x20) 21 v21x23) 22 v22x26) 23 v23x29) 24 v24x32) 25 v25x35) 26 v26x38) 27 v27x41) 28 v28x44) 29 v29x47) 30 v30x50) 31 v31x52) 8 (σ2 3)) 9 v9x53) 3 v9x53) H51)))
      (Q2 (.exit 0) (up (up (up (up σ2 4 (σ2 3)) 5 (σ2 0)) 6 v6x3) 7 v7x4) H2)) (blkQ 0 (thenQ J1 (retQ prg [(.tmp 2)] K))) (up (up (S0 [a0]) 2 (.bool false)) 3 (.int .i64 0)) H
def O.spec_l04Counts : Nat → Nat × List Nat := fun i => bif Nat.beq i 4 then (0, [0, 1, 2, 3, 4, 5, 6, 7, 8, 9, 10, 11, 12, 13, 14, 15, 16, 17, 18, 19, 20, 21]) else (0, [])
theorem R.spec_l04Counts {a0 : Value} {H : Hp} {K : Value → Hp → Prop} (h : F.spec_l04Counts a0 H K) : HT prg I.spec_l04Counts [a0].toArray H K :=
  HT_of_fev O.spec_l04Counts mixed Try.func85 (by kernel_rfl) (Eq.mpr (by kernel_rfl : fev prg O.spec_l04Counts Try.f85 [a0] H K = F.spec_l04Counts a0 H K) h)

/-! loop.example/g01381/spec.l04Life: function 74 -/
def F.spec_l04Life (a0 : Value) (H : Hp) (K : Value → Hp → Prop) : Prop :=
  ob (vNilC a0) fun v4x1 =>
  ob (vFa 0 v4x1) fun v5x2 =>
  ob (vLoad v5x2 H) fun v6x3 =>
  HT prg I.spec_l04Counts [v6x3].toArray H fun v7x4 H5 =>
  gop v7x4 true (fun K6 => K6 a0 H5) H5 fun v9x7 H8 =>
  gop v7x4 true (fun K9 => ob (vNilC v9x7) fun u => K9 u H8) H8 fun v10x10 H11 =>
  gop v7x4 true (fun K12 => ob (vFa 1 v10x10) fun u => K12 u H11) H11 fun v11x13 H14 =>
  gop v7x4 true (fun K15 => ob (vLoad v11x13 H14) fun u => K15 u H14) H14 fun v12x16 H17 =>
  gop v7x4 true (fun K18 => HT prg I.spec_l04Counts [v12x16].toArray H17 K18) H17 fun v13x19 H20 =>
  ob (vPick v7x4 v13x19 (.bool false)) fun v14x21 =>
  K v14x21 H20
def O.spec_l04Life : Nat → Nat × List Nat := fun i => (0, [])
theorem R.spec_l04Life {a0 : Value} {H : Hp} {K : Value → Hp → Prop} (h : F.spec_l04Life a0 H K) : HT prg I.spec_l04Life [a0].toArray H K :=
  HT_of_fev O.spec_l04Life mixed Try.func74 (by kernel_rfl) (Eq.mpr (by kernel_rfl : fev prg O.spec_l04Life Try.f74 [a0] H K = F.spec_l04Life a0 H K) h)

/-! loop.example/g01381/spec.l04Can: function 58 -/
def F.spec_l04Can (a0 a1 : Value) (H : Hp) (K : Value → Hp → Prop) : Prop :=
  HT prg I.spec_l04Life [a0].toArray H fun v6x1 H2 =>
  gop v6x1 true (fun K3 => K3 a1 H2) H2 fun v8x4 H5 =>
  gop v6x1 true (fun K6 => HT prg I.spec_l04Plain [v8x4].toArray H5 K6) H5 fun v9x7 H8 =>
  ob (vPick v6x1 v9x7 (.bool false)) fun v10x9 =>
  K v10x9 H8
def O.spec_l04Can : Nat → Nat × List Nat := fun i => (0, [])
theorem R.spec_l04Can {a0 a1 : Value} {H : Hp} {K : Value → Hp → Prop} (h : F.spec_l04Can a0 a1 H K) : HT prg I.spec_l04Can [a0, a1].toArray H K :=
  HT_of_fev O.spec_l04Can mixed Try.func58 (by kernel_rfl) (Eq.mpr (by kernel_rfl : fev prg O.spec_l04Can Try.f58 [a0, a1] H K = F.spec_l04Can a0 a1 H K) h)

/-! loop.example/g01381/spec.l04Round: function 86 -/
def F.spec_l04Round (a0 a1 a2 : Value) (H : Hp) (K : Value → Hp → Prop) : Prop :=
  ob (vNilC a0) fun v11x1 =>
  ob (vFa 0 v11x1) fun v12x2 =>
  ob (vLoad v12x2 H) fun v13x3 =>
  ob (vInt .rem a1 v13x3) fun v14x4 =>
  ob (vNilC a0) fun v16x5 =>
  ob (vFa 0 v16x5) fun v17x6 =>
  ob (vLoad v17x6 H) fun v18x7 =>
  ob (vInt .add v14x4 v18x7) fun v19x8 =>
  ob (vNilC a0) fun v21x9 =>
  ob (vFa 0 v21x9) fun v22x10 =>
  ob (vLoad v22x10 H) fun v23x11 =>
  ob (vInt .rem v19x8 v23x11) fun v24x12 =>
  ob (vNilC a0) fun v27x13 =>
  ob (vFa 1 v27x13) fun v28x14 =>
  ob (vLoad v28x14 H) fun v29x15 =>
  ob (vInt .rem a2 v29x15) fun v30x16 =>
  ob (vNilC a0) fun v32x17 =>
  ob (vFa 1 v32x17) fun v33x18 =>
  ob (vLoad v33x18 H) fun v34x19 =>
  ob (vInt .add v30x16 v34x19) fun v35x20 =>
  ob (vNilC a0) fun v37x21 =>
  ob (vFa 1 v37x21) fun v38x22 =>
  ob (vLoad v38x22 H) fun v39x23 =>
  ob (vInt .rem v35x20 v39x23) fun v40x24 =>
  ob (vNilC a0) fun v43x25 =>
  ob (vFa 1 v43x25) fun v44x26 =>
  ob (vLoad v44x26 H) fun v45x27 =>
  ob (vInt .mul v24x12 v45x27) fun v46x28 =>
  ob (vInt .add v46x28 v40x24) fun v48x29 =>
  K v48x29 H
def O.spec_l04Round : Nat → Nat × List Nat := fun i => bif Nat.beq i 1 then (0, [0, 1, 2, 3, 4, 5, 6, 7, 8, 9, 10, 11, 12, 13, 14, 15, 16]) else bif Nat.beq i 2 then (0, [0, 1, 2, 3, 4, 5, 6, 7, 8, 9, 10, 11, 12, 13, 14, 15, 16]) else (0, [])
theorem R.spec_l04Round {a0 a1 a2 : Value} {H : Hp} {K : Value → Hp → Prop} (h : F.spec_l04Round a0 a1 a2 H K) : HT prg I.spec_l04Round [a0, a1, a2].toArray H K :=
  HT_of_fev O.spec_l04Round mixed Try.func86 (by kernel_rfl) (Eq.mpr (by kernel_rfl : fev prg O.spec_l04Round Try.f86 [a0, a1, a2] H K = F.spec_l04Round a0 a1 a2 H K) h)

/-! loop.example/g01381/spec.l04Around: function 77 -/
def F.spec_l04Around (a0 a1 a2 a3 : Value) (H : Hp) (K : Value → Hp → Prop) : Prop :=
  jn (fun σ1 H1 =>
    K (σ1 9) H1) fun J1 =>
  ob (vInt .sub a1 (.int .i64 1)) fun v13x2 =>
  lpE (fun Q3 σ3 H3 =>
    ob (vInt .add (σ3 1) (.int .i64 1)) fun v16x4 =>
    ob (vInt .leq (σ3 10) v16x4) fun v17x5 =>
    cnd v17x5
      (jn (fun σ6 H6 =>
      ob (vInt .add (σ6 10) (.int .i64 1)) fun v19x7 =>
      Q3 .normal (up (up (up σ6 18 (σ6 10)) 19 v19x7) 10 v19x7) H6) fun J6 =>
    ob (vInt .sub (σ3 2) (.int .i64 1)) fun v21x8 =>
    lpE (fun Q9 σ9 H9 =>
      ob (vInt .add (σ9 2) (.int .i64 1)) fun v24x10 =>
      ob (vInt .leq (σ9 11) v24x10) fun v25x11 =>
      cnd v25x11
        (ob (vInt .eql (σ9 10) (σ9 1)) fun v30x12 =>
      gop v30x12 true (fun K13 => K13 (σ9 11) H9) H9 fun v32x14 H15 =>
      gop v30x12 true (fun K16 => K16 (σ9 2) H15) H15 fun v33x17 H18 =>
      gop v30x12 true (fun K19 => ob (vInt .eql v32x14 v33x17) fun u => K19 u H18) H18 fun v34x20 H21 =>
      ob (vPick v30x12 v34x20 (.bool false)) fun v35x22 =>
      cnd v35x22
        (ob (vInt .add (σ9 11) (.int .i64 1)) fun v27x23 =>
      Q9 .normal (up (up (up (up (up (up (up (up (up (up (up (up (up (up (up σ9 22 (σ9 11)) 23 (σ9 2)) 24 v24x10) 25 v25x11) 28 (σ9 10)) 29 (σ9 1)) 30 v30x12) 31 v30x12) 32 v32x14) 33 v33x17) 34 v34x20) 35 v35x22) 26 (σ9 11)) 27 v27x23) 11 v27x23) H21)
        (gop (σ9 3) false (fun K24 => K24 (σ9 10) H21) H21 fun v38x25 H26 =>
      gop (σ9 3) false (fun K27 => K27 (σ9 0) H26) H26 fun v39x28 H29 =>
      gop (σ9 3) false (fun K30 => ob (vNilC v39x28) fun u => K30 u H29) H29 fun v40x31 H32 =>
      gop (σ9 3) false (fun K33 => ob (vFa 0 v40x31) fun u => K33 u H32) H32 fun v41x34 H35 =>
      gop (σ9 3) false (fun K36 => ob (vLoad v41x34 H35) fun u => K36 u H35) H35 fun v42x37 H38 =>
      gop (σ9 3) false (fun K39 => ob (vInt .sub v42x37 (.int .i64 1)) fun u => K39 u H38) H38 fun v43x40 H41 =>
      gop (σ9 3) false (fun K42 => HT prg I.spec_l00In [v38x25, (.int .i64 0), v43x40].toArray H41 K42) H41 fun v44x43 H44 =>
      gop (σ9 3) false (fun K45 => K45 v44x43 H44) H44 fun v45x46 H47 =>
      gop v45x46 true (fun K48 => K48 (σ9 11) H47) H47 fun v46x49 H50 =>
      gop v45x46 true (fun K51 => K51 (σ9 0) H50) H50 fun v47x52 H53 =>
      gop v45x46 true (fun K54 => ob (vNilC v47x52) fun u => K54 u H53) H53 fun v48x55 H56 =>
      gop v45x46 true (fun K57 => ob (vFa 1 v48x55) fun u => K57 u H56) H56 fun v49x58 H59 =>
      gop v45x46 true (fun K60 => ob (vLoad v49x58 H59) fun u => K60 u H59) H59 fun v50x61 H62 =>
      gop v45x46 true (fun K63 => ob (vInt .sub v50x61 (.int .i64 1)) fun u => K63 u H62) H62 fun v51x64 H65 =>
      gop v45x46 true (fun K66 => HT prg I.spec_l00In [v46x49, (.int .i64 0), v51x64].toArray H65 K66) H65 fun v52x67 H68 =>
      gop (σ9 3) false (fun K69 => ob (vPick v45x46 v52x67 (.bool false)) fun u => K69 u H68) H68 fun v53x70 H71 =>
      ob (vPick (σ9 3) (.bool true) v53x70) fun v54x72 =>
      cnd v54x72
        (ob (vNilC (σ9 0)) fun v57x73 =>
        ob (vFa 2 v57x73) fun v58x74 =>
        ob (vLoad v58x74 H71) fun v59x75 =>
        HT prg I.spec_l04Round [(σ9 0), (σ9 10), (σ9 11)].toArray H71 fun v63x76 H77 =>
        Le H71 H77 ∧ (ob (vIx 1 v59x75 v63x76) fun v64x78 =>
        ob (vLoad v64x78 H77) fun v65x79 =>
        ob (vInt .add (σ9 9) v65x79) fun v66x80 =>
        ob (vInt .add (σ9 11) (.int .i64 1)) fun v27x81 =>
      Q9 .normal (up (up (up (up (up (up (up (up (up (up (up (up (up (up (up (up (up (up (up (up (up (up (up (up (up (up (up (up (up (up (up (up (up (up (up (up (up (up (up (up (up (up (up (up (up (up (up σ9 22 (σ9 11)) 23 (σ9 2)) 24 v24x10) 25 v25x11) 28 (σ9 10)) 29 (σ9 1)) 30 v30x12) 31 v30x12) 32 v32x14) 33 v33x17) 34 v34x20) 35 v35x22) 36 (σ9 3)) 37 (σ9 3)) 38 v38x25) 39 v39x28) 40 v40x31) 41 v41x34) 42 v42x37) 43 v43x40) 44 v44x43) 45 v45x46) 46 v46x49) 47 v47x52) 48 v48x55) 49 v49x58) 50 v50x61) 51 v51x64) 52 v52x67) 53 v53x70) 54 v54x72) 55 (σ9 9)) 56 (σ9 0)) 57 v57x73) 58 v58x74) 59 v59x75) 60 (σ9 0)) 61 (σ9 10)) 62 (σ9 11)) 63 v63x76) 64 v64x78) 65 v65x79) 66 v66x80) 9 v66x80) 26 (σ9 11)) 27 v27x81) 11 v27x81) H77))
        (ob (vInt .add (σ9 11) (.int .i64 1)) fun v27x82 =>
      Q9 .normal (up (up (up (up (up (up (up (up (up (up (up (up (up (up (up (up (up (up (up (up (up (up (up (up (up (up (up (up (up (up (up (up (up (up σ9 22 (σ9 11)) 23 (σ9 2)) 24 v24x10) 25 v25x11) 28 (σ9 10)) 29 (σ9 1)) 30 v30x12) 31 v30x12) 32 v32x14) 33 v33x17) 34 v34x20) 35 v35x22) 36 (σ9 3)) 37 (σ9 3)) 38 v38x25) 39 v39x28) 40 v40x31) 41 v41x34) 42 v42x37) 43 v43x40) 44 v44x43) 45 v45x46) 46 v46x49) 47 v47x52) 48 v48x55) 49 v49x58) 50 v50x61) 51 v51x64) 52 v52x67) 53 v53x70) 54 v54x72) 26 (σ9 11)) 27 v27x82) 11 v27x82) H71)))
        (Q9 (.exit 2) (up (up (up (up σ9 22 (σ9 11)) 23 (σ9 2)) 24 v24x10) 25 v25x11) H9)) (blkQ 2 (blkQ 1 (thenQ J6 Q3))) (up (up (up (up (up (up (up σ3 14 (σ3 10)) 15 (σ3 1)) 16 v16x4) 17 v17x5) 20 (σ3 2)) 21 v21x8) 11 v21x8) H3)
      (Q3 (.exit 0) (up (up (up (up σ3 14 (σ3 10)) 15 (σ3 1)) 16 v16x4) 17 v17x5) H3)) (blkQ 0 (thenQ J1 (retQ prg [(.tmp 8)] K))) (up (up (up (up (up (S0 [a0, a1, a2, a3]) 8 (.int .i64 0)) 9 (.int .i64 0)) 12 a1) 13 v13x2) 10 v13x2) H
def O.spec_l04Around : Nat → Nat × List Nat := fun i => bif Nat.beq i 10 then (0, [0, 1, 2, 3, 4, 5, 6, 7, 8, 9, 10, 11, 12]) else (0, [])
theorem R.spec_l04Around {a0 a1 a2 a3 : Value} {H : Hp} {K : Value → Hp → Prop} (h : F.spec_l04Around a0 a1 a2 a3 H K) : HT prg I.spec_l04Around [a0, a1, a2, a3].toArray H K :=
  HT_of_fev O.spec_l04Around mixed Try.func77 (by kernel_rfl) (Eq.mpr (by kernel_rfl : fev prg O.spec_l04Around Try.f77 [a0, a1, a2, a3] H K = F.spec_l04Around a0 a1 a2 a3 H K) h)

/-! loop.example/g01381/spec.l04Has: function 78 -/
def F.spec_l04Has (a0 a1 : Value) (H : Hp) (K : Value → Hp → Prop) : Prop :=
  jn (fun σ1 H1 =>
    K (.bool false) H1) fun J1 =>
  lpE (fun Q2 σ2 H2 =>
    ob (vLenSl (σ2 0)) fun v8x3 =>
    ob (vInt .lss (σ2 5) v8x3) fun v9x4 =>
    cnd v9x4
      (ob (vIx 1 (σ2 0) (σ2 5)) fun v14x5 =>
    ob (vLoad v14x5 H2) fun v15x6 =>
    ob (vInt .eql v15x6 (σ2 1)) fun v17x7 =>
    cnd v17x7
      (Q2 .ret (up (up (up (up (up (up (up (up (up (up (up σ2 6 (σ2 5)) 7 (σ2 0)) 8 v8x3) 9 v9x4) 12 (σ2 0)) 13 (σ2 5)) 14 v14x5) 15 v15x6) 16 (σ2 1)) 17 v17x7) 4 (.bool true)) H2)
      (ob (vInt .add (σ2 5) (.int .i64 1)) fun v11x8 =>
    Q2 .normal (up (up (up (up (up (up (up (up (up (up (up (up (up σ2 6 (σ2 5)) 7 (σ2 0)) 8 v8x3) 9 v9x4) 12 (σ2 0)) 13 (σ2 5)) 14 v14x5) 15 v15x6) 16 (σ2 1)) 17 v17x7) 10 (σ2 5)) 11 v11x8) 5 v11x8) H2))
      (Q2 (.exit 0) (up (up (up (up σ2 6 (σ2 5)) 7 (σ2 0)) 8 v8x3) 9 v9x4) H2)) (blkQ 0 (thenQ J1 (retQ prg [(.tmp 4)] K))) (up (up (S0 [a0, a1]) 4 (.bool false)) 5 (.int .i64 0)) H
def O.spec_l04Has : Nat → Nat × List Nat := fun i => (0, [])
theorem R.spec_l04Has {a0 a1 : Value} {H : Hp} {K : Value → Hp → Prop} (h : F.spec_l04Has a0 a1 H K) : HT prg I.spec_l04Has [a0, a1].toArray H K :=
  HT_of_fev O.spec_l04Has mixed Try.func78 (by kernel_rfl) (Eq.mpr (by kernel_rfl : fev prg O.spec_l04Has Try.f78 [a0, a1] H K = F.spec_l04Has a0 a1 H K) h)

/-! loop.example/g01381/spec.l04Next: function 62 -/
def F.spec_l04Next (a0 a1 a2 : Value) (H : Hp) (K : Value → Hp → Prop) : Prop :=
  nw #[(.int .i64 0), (.int .i64 0), (.slice none 0 0)] 28 H fun v6x1 H2 =>
  ob (vNilC a1) fun v13x3 =>
  ob (vFa 0 v13x3) fun v14x4 =>
  ob (vLoad v14x4 H2) fun v15x5 =>
  ob (vNilC a1) fun v17x6 =>
  ob (vFa 1 v17x6) fun v18x7 =>
  ob (vLoad v18x7 H2) fun v19x8 =>
  HT prg I.spec_l04New [v15x5, v19x8].toArray H2 fun v20x9 H10 =>
  Le H2 H10 ∧ (nw #[(.int .i64 0), (.int .i64 0), (.slice none 0 0)] 28 H10 fun v7x11 H12 =>
  st 3 v7x11 v20x9 H12 fun H13 =>
  jn (fun σ14 H14 =>
    ob (vLoadN 3 (σ14 7) H14) fun v88x15 =>
    st 3 (σ14 6) v88x15 H14 fun H16 =>
    ob (vLoadN 3 (σ14 6) H16) fun u17 => K u17 H16) fun J14 =>
  lpE (fun Q18 σ18 H18 =>
    ob (vNilC (σ18 1)) fun v23x19 =>
    ob (vFa 0 v23x19) fun v24x20 =>
    ob (vLoad v24x20 H18) fun v25x21 =>
    ob (vInt .lss (σ18 8) v25x21) fun v26x22 =>
    cnd v26x22
      (jn (fun σ23 H23 =>
      ob (vInt .add (σ23 8) (.int .i64 1)) fun v28x24 =>
      Q18 .normal (up (up (up σ23 27 (σ23 8)) 28 v28x24) 8 v28x24) H23) fun J23 =>
    lpE (fun Q25 σ25 H25 =>
      ob (vNilC (σ25 1)) fun v31x26 =>
      ob (vFa 1 v31x26) fun v32x27 =>
      ob (vLoad v32x27 H25) fun v33x28 =>
      ob (vInt .lss (σ25 9) v33x28) fun v34x29 =>
      cnd v34x29
        (HT prg I.spec_l04Around [(σ25 1), (σ25 8), (σ25 9), (σ25 2)].toArray H25 fun v41x30 H31 =>
      ob (vNilC (σ25 1)) fun v44x32 =>
      ob (vFa 1 v44x32) fun v45x33 =>
      ob (vLoad v45x33 H31) fun v46x34 =>
      ob (vInt .mul (σ25 8) v46x34) fun v47x35 =>
      ob (vInt .add v47x35 (σ25 9)) fun v49x36 =>
      ob (vNilC (σ25 1)) fun v51x37 =>
      ob (vFa 2 v51x37) fun v52x38 =>
      ob (vLoad v52x38 H31) fun v53x39 =>
      ob (vIx 1 v53x39 v49x36) fun v55x40 =>
      ob (vLoad v55x40 H31) fun v56x41 =>
      ob (vInt .eql v56x41 (.int .i64 0)) fun v57x42 =>
      gop v57x42 true (fun K43 => K43 (σ25 0) H31) H31 fun v59x44 H45 =>
      gop v57x42 true (fun K46 => ob (vNilC v59x44) fun u => K46 u H45) H45 fun v60x47 H48 =>
      gop v57x42 true (fun K49 => ob (vFa 0 v60x47) fun u => K49 u H48) H48 fun v61x50 H51 =>
      gop v57x42 true (fun K52 => ob (vLoad v61x50 H51) fun u => K52 u H51) H51 fun v62x53 H54 =>
      gop v57x42 true (fun K55 => K55 v41x30 H54) H54 fun v63x56 H57 =>
      gop v57x42 true (fun K58 => HT prg I.spec_l04Has [v62x53, v63x56].toArray H57 K58) H57 fun v64x59 H60 =>
      ob (vPick v57x42 v64x59 (.bool false)) fun v65x61 =>
      gop v65x61 false (fun K62 => K62 (σ25 1) H60) H60 fun v67x63 H64 =>
      gop v65x61 false (fun K65 => ob (vNilC v67x63) fun u => K65 u H64) H64 fun v68x66 H67 =>
      gop v65x61 false (fun K68 => ob (vFa 2 v68x66) fun u => K68 u H67) H67 fun v69x69 H70 =>
      gop v65x61 false (fun K71 => ob (vLoad v69x69 H70) fun u => K71 u H70) H70 fun v70x72 H73 =>
      gop v65x61 false (fun K74 => K74 v49x36 H73) H73 fun v71x75 H76 =>
      gop v65x61 false (fun K77 => ob (vIx 1 v70x72 v71x75) fun u => K77 u H76) H76 fun v72x78 H79 =>
      gop v65x61 false (fun K80 => ob (vLoad v72x78 H79) fun u => K80 u H79) H79 fun v73x81 H82 =>
      gop v65x61 false (fun K83 => ob (vInt .eql v73x81 (.int .i64 1)) fun u => K83 u H82) H82 fun v74x84 H85 =>
      gop v65x61 false (fun K86 => K86 v74x84 H85) H85 fun v75x87 H88 =>
      gop v75x87 true (fun K89 => K89 (σ25 0) H88) H88 fun v76x90 H91 =>
      gop v75x87 true (fun K92 => ob (vNilC v76x90) fun u => K92 u H91) H91 fun v77x93 H94 =>
      gop v75x87 true (fun K95 => ob (vFa 1 v77x93) fun u => K95 u H94) H94 fun v78x96 H97 =>
      gop v75x87 true (fun K98 => ob (vLoad v78x96 H97) fun u => K98 u H97) H97 fun v79x99 H100 =>
      gop v75x87 true (fun K101 => K101 v41x30 H100) H100 fun v80x102 H103 =>
      gop v75x87 true (fun K104 => HT prg I.spec_l04Has [v79x99, v80x102].toArray H103 K104) H103 fun v81x105 H106 =>
      gop v65x61 false (fun K107 => ob (vPick v75x87 v81x105 (.bool false)) fun u => K107 u H106) H106 fun v82x108 H109 =>
      ob (vPick v65x61 (.bool true) v82x108) fun v83x110 =>
      cnd v83x110
        (ob (vFa 2 (σ25 7)) fun v84x111 =>
        ob (vLoad v84x111 H109) fun v85x112 =>
        ob (vIx 1 v85x112 v49x36) fun v87x113 =>
        st 1 v87x113 (.int .i64 1) H109 fun H114 =>
        ob (vInt .add (σ25 9) (.int .i64 1)) fun v36x115 =>
      Q25 .normal (up (up (up (up (up (up (up (up (up (up (up (up (up (up (up (up (up (up (up (up (up (up (up (up (up (up (up (up (up (up (up (up (up (up (up (up (up (up (up (up (up (up (up (up (up (up (up (up (up (up (up (up (up (up (up (up (up (up (up (up (up (up σ25 29 (σ25 9)) 30 (σ25 1)) 31 v31x26) 32 v32x27) 33 v33x28) 34 v34x29) 37 (σ25 1)) 38 (σ25 8)) 39 (σ25 9)) 40 (σ25 2)) 41 v41x30) 10 v41x30) 42 (σ25 8)) 43 (σ25 1)) 44 v44x32) 45 v45x33) 46 v46x34) 47 v47x35) 48 (σ25 9)) 49 v49x36) 11 v49x36) 50 (σ25 1)) 51 v51x37) 52 v52x38) 53 v53x39) 54 v49x36) 55 v55x40) 56 v56x41) 57 v57x42) 58 v57x42) 59 v59x44) 60 v60x47) 61 v61x50) 62 v62x53) 63 v63x56) 64 v64x59) 65 v65x61) 66 v65x61) 67 v67x63) 68 v68x66) 69 v69x69) 70 v70x72) 71 v71x75) 72 v72x78) 73 v73x81) 74 v74x84) 75 v75x87) 76 v76x90) 77 v77x93) 78 v78x96) 79 v79x99) 80 v80x102) 81 v81x105) 82 v82x108) 83 v83x110) 84 v84x111) 85 v85x112) 86 v49x36) 87 v87x113) 35 (σ25 9)) 36 v36x115) 9 v36x115) H114)
        (ob (vInt .add (σ25 9) (.int .i64 1)) fun v36x116 =>
      Q25 .normal (up (up (up (up (up (up (up (up (up (up (up (up (up (up (up (up (up (up (up (up (up (up (up (up (up (up (up (up (up (up (up (up (up (up (up (up (up (up (up (up (up (up (up (up (up (up (up (up (up (up (up (up (up (up (up (up (up (up σ25 29 (σ25 9)) 30 (σ25 1)) 31 v31x26) 32 v32x27) 33 v33x28) 34 v34x29) 37 (σ25 1)) 38 (σ25 8)) 39 (σ25 9)) 40 (σ25 2)) 41 v41x30) 10 v41x30) 42 (σ25 8)) 43 (σ25 1)) 44 v44x32) 45 v45x33) 46 v46x34) 47 v47x35) 48 (σ25 9)) 49 v49x36) 11 v49x36) 50 (σ25 1)) 51 v51x37) 52 v52x38) 53 v53x39) 54 v49x36) 55 v55x40) 56 v56x41) 57 v57x42) 58 v57x42) 59 v59x44) 60 v60x47) 61 v61x50) 62 v62x53) 63 v63x56) 64 v64x59) 65 v65x61) 66 v65x61) 67 v67x63) 68 v68x66) 69 v69x69) 70 v70x72) 71 v71x75) 72 v72x78) 73 v73x81) 74 v74x84) 75 v75x87) 76 v76x90) 77 v77x93) 78 v78x96) 79 v79x99) 80 v80x102) 81 v81x105) 82 v82x108) 83 v83x110) 35 (σ25 9)) 36 v36x116) 9 v36x116) H109))
        (Q25 (.exit 2) (up (up (up (up (up (up σ25 29 (σ25 9)) 30 (σ25 1)) 31 v31x26) 32 v32x27) 33 v33x28) 34 v34x29) H25)) (blkQ 2 (blkQ 1 (thenQ J23 Q18))) (up (up (up (up (up (up (up σ18 21 (σ18 8)) 22 (σ18 1)) 23 v23x19) 24 v24x20) 25 v25x21) 26 v26x22) 9 (.int .i64 0)) H18)
      (Q18 (.exit 0) (up (up (up (up (up (up σ18 21 (σ18 8)) 22 (σ18 1)) 23 v23x19) 24 v24x20) 25 v25x21) 26 v26x22) H18)) (blkQ 0 (thenQ J14 (retQ prg [(.cell 6 28)] K))) (up (up (up (up (up (up (up (up (up (up (up (up (S0 [a0, a1, a2]) 6 v6x1) 12 a1) 13 v13x3) 14 v14x4) 15 v15x5) 16 a1) 17 v17x6) 18 v18x7) 19 v19x8) 20 v20x9) 7 v7x11) 8 (.int .i64 0)) H13)
def O.spec_l04Next : Nat → Nat × List Nat := fun i => bif Nat.beq i 1 then (0, [0, 1, 2, 3, 4, 5, 6, 7, 8, 9, 10]) else (0, [])
theorem R.spec_l04Next {a0 a1 a2 : Value} {H : Hp} {K : Value → Hp → Prop} (h : F.spec_l04Next a0 a1 a2 H K) : HT prg I.spec_l04Next [a0, a1, a2].toArray H K :=
  HT_of_fev O.spec_l04Next mixed Try.func62 (by kernel_rfl) (Eq.mpr (by kernel_rfl : fev prg O.spec_l04Next Try.f62 [a0, a1, a2] H K = F.spec_l04Next a0 a1 a2 H K) h)

/-! loop.example/g01381/spec.l04Own: function 75 -/
def F.spec_l04Own (a0 : Value) (H : Hp) (K : Value → Hp → Prop) : Prop :=
  nw #[(.int .i64 0), (.int .i64 0), (.slice none 0 0)] 28 H fun v2x1 H2 =>
  ob (vNilC a0) fun v4x3 =>
  ob (vFa 0 v4x3) fun v5x4 =>
  ob (vLoad v5x4 H2) fun v6x5 =>
  ob (vNilC a0) fun v8x6 =>
  ob (vFa 1 v8x6) fun v9x7 =>
  ob (vLoad v9x7 H2) fun v10x8 =>
  ob (vNilC a0) fun v13x9 =>
  ob (vFa 2 v13x9) fun v14x10 =>
  ob (vLoad v14x10 H2) fun v15x11 =>
  bS 1 0 #[(.int .i64 0)] 2 [] H2 fun v11x12 H13 =>
  apd 1 8 #[(.int .i64 0)] 2 v11x12 v15x11 H13 fun v16x14 H15 =>
  Le H13 H15 ∧ (ob (vBuild [(0, 1), (1, 1), (2, 1)] (.agg #[(.int .i64 0), (.int .i64 0), (.slice none 0 0)]) [(0, v6x5), (1, v10x8), (2, v16x14)]) fun v17x16 =>
  st 3 v2x1 v17x16 H15 fun H17 =>
  ob (vLoadN 3 v2x1 H17) fun u18 => K u18 H17)
def O.spec_l04Own : Nat → Nat × List Nat := fun i => bif Nat.beq i 1 then (1, [0, 1, 2, 3, 4, 5, 6, 7, 9, 10, 11, 12, 8, 13, 14, 15]) else (0, [])
theorem R.spec_l04Own {a0 : Value} {H : Hp} {K : Value → Hp → Prop} (h : F.spec_l04Own a0 H K) : HT prg I.spec_l04Own [a0].toArray H K :=
  HT_of_fev O.spec_l04Own mixed Try.func75 (by kernel_rfl) (Eq.mpr (by kernel_rfl : fev prg O.spec_l04Own Try.f75 [a0] H K = F.spec_l04Own a0 H K) h)

/-! loop.example/g01381/spec.l04Run: function 59 -/
def F.spec_l04Run (a0 a1 a2 a3 : Value) (H : Hp) (K : Value → Hp → Prop) : Prop :=
  nw #[(.int .i64 0), (.int .i64 0), (.slice none 0 0)] 28 H fun v8x1 H2 =>
  HT prg I.spec_l04Own [a1].toArray H2 fun v11x3 H4 =>
  nw #[(.int .i64 0), (.int .i64 0), (.slice none 0 0)] 28 H4 fun v9x5 H6 =>
  st 3 v9x5 v11x3 H6 fun H7 =>
  jn (fun σ8 H8 =>
    ob (vLoadN 3 (σ8 9) H8) fun v19x9 =>
    st 3 (σ8 8) v19x9 H8 fun H10 =>
    ob (vLoadN 3 (σ8 8) H10) fun u11 => K u11 H10) fun J8 =>
  lpE (fun Q12 σ12 H12 =>
    ob (vInt .gtr (σ12 3) (.int .i64 0)) fun v13x13 =>
    cnd v13x13
      (HT prg I.spec_l04Next [(σ12 0), (σ12 9), (σ12 2)].toArray H12 fun v18x14 H15 =>
    st 3 (σ12 9) v18x14 H15 fun H16 =>
    ob (vInt .sub (σ12 3) (.int .i64 1)) fun v15x17 =>
    Q12 .normal (up (up (up (up (up (up (up (up σ12 12 (σ12 3)) 13 v13x13) 16 (σ12 0)) 17 (σ12 2)) 18 v18x14) 14 (σ12 3)) 15 v15x17) 3 v15x17) H16)
      (Q12 (.exit 0) (up (up σ12 12 (σ12 3)) 13 v13x13) H12)) (blkQ 0 (thenQ J8 (retQ prg [(.cell 8 28)] K))) (up (up (up (up (S0 [a0, a1, a2, a3]) 8 v8x1) 10 a1) 11 v11x3) 9 v9x5) H7
def O.spec_l04Run : Nat → Nat × List Nat := fun i => (0, [])
theorem R.spec_l04Run {a0 a1 a2 a3 : Value} {H : Hp} {K : Value → Hp → Prop} (h : F.spec_l04Run a0 a1 a2 a3 H K) : HT prg I.spec_l04Run [a0, a1, a2, a3].toArray H K :=
  HT_of_fev O.spec_l04Run mixed Try.func59 (by kernel_rfl) (Eq.mpr (by kernel_rfl : fev prg O.spec_l04Run Try.f59 [a0, a1, a2, a3] H K = F.spec_l04Run a0 a1 a2 a3 H K) h)

/-! loop.example/g01381/spec.RunLife: function 27 -/
def F.spec_RunLife (a0 a1 a2 a3 : Value) (H : Hp) (K : Value → Hp → Prop) : Prop :=
  nw (a0 : Value).cells 42 H fun v4x1 H2 =>
  nw (a1 : Value).cells 28 H2 fun v5x3 H4 =>
  nw #[(.int .i64 0), (.int .i64 0), (.slice none 0 0)] 28 H4 fun v8x5 H6 =>
  HT prg I.spec_l04Can [v4x1, v5x3].toArray H6 fun v10x7 H8 =>
  ob (vUn .not v10x7) fun v11x9 =>
  gop v11x9 false (fun K10 => K10 a3 H8) H8 fun v13x11 H12 =>
  gop v11x9 false (fun K13 => HT prg I.spec_l00In [v13x11, (.int .i64 0), (.int .i64 512)].toArray H12 K13) H12 fun v14x14 H15 =>
  gop v11x9 false (fun K16 => ob (vUn .not v14x14) fun u => K16 u H15) H15 fun v15x17 H18 =>
  ob (vPick v11x9 (.bool true) v15x17) fun v16x19 =>
  cnd v16x19
    (ob (vBuild [(0, 1), (1, 1), (2, 1)] (.agg #[(.int .i64 0), (.int .i64 0), (.slice none 0 0)]) []) fun v17x20 =>
    st 3 v8x5 v17x20 H18 fun H21 =>
    ob (vLoadN 3 v8x5 H21) fun u22 => K (.tuple #[u22, (.bool false)]) H21)
    (HT prg I.spec_l04Run [v4x1, v5x3, a2, a3].toArray H18 fun v20x23 H24 =>
  st 3 v8x5 v20x23 H24 fun H25 =>
  ob (vLoadN 3 v8x5 H25) fun u26 => K (.tuple #[u26, (.bool true)]) H25)
def O.spec_RunLife : Nat → Nat × List Nat := fun i => (0, [])
theorem R.spec_RunLife {a0 a1 a2 a3 : Value} {H : Hp} {K : Value → Hp → Prop} (h : F.spec_RunLife a0 a1 a2 a3 H K) : HT prg I.spec_RunLife [a0, a1, a2, a3].toArray H K :=
  HT_of_fev O.spec_RunLife mixed Try.func27 (by kernel_rfl) (Eq.mpr (by kernel_rfl : fev prg O.spec_RunLife Try.f27 [a0, a1, a2, a3] H K = F.spec_RunLife a0 a1 a2 a3 H K) h)

/-! loop.example/g01381/spec.l04Sides: function 76 -/
def F.spec_l04Sides (a0 a1 : Value) (H : Hp) (K : Value → Hp → Prop) : Prop :=
  HT prg I.spec_l00In [a0, (.int .i64 1), (.int .i64 24)].toArray H fun v6x1 H2 =>
  gop v6x1 true (fun K3 => K3 a1 H2) H2 fun v8x4 H5 =>
  gop v6x1 true (fun K6 => HT prg I.spec_l00In [v8x4, (.int .i64 1), (.int .i64 24)].toArray H5 K6) H5 fun v9x7 H8 =>
  ob (vPick v6x1 v9x7 (.bool false)) fun v10x9 =>
  K v10x9 H8
def O.spec_l04Sides : Nat → Nat × List Nat := fun i => (0, [])
theorem R.spec_l04Sides {a0 a1 : Value} {H : Hp} {K : Value → Hp → Prop} (h : F.spec_l04Sides a0 a1 H K) : HT prg I.spec_l04Sides [a0, a1].toArray H K :=
  HT_of_fev O.spec_l04Sides mixed Try.func76 (by kernel_rfl) (Eq.mpr (by kernel_rfl : fev prg O.spec_l04Sides Try.f76 [a0, a1] H K = F.spec_l04Sides a0 a1 H K) h)

/-! loop.example/g01381/spec.l04Within: function 61 -/
def F.spec_l04Within (a0 a1 a2 a3 a4 : Value) (H : Hp) (K : Value → Hp → Prop) : Prop :=
  HT prg I.spec_l04Sides [a3, a4].toArray H fun v13x1 H2 =>
  gop v13x1 true (fun K3 => K3 a1 H2) H2 fun v15x4 H5 =>
  gop v13x1 true (fun K6 => K6 a0 H5) H5 fun v16x7 H8 =>
  gop v13x1 true (fun K9 => ob (vNilC v16x7) fun u => K9 u H8) H8 fun v17x10 H11 =>
  gop v13x1 true (fun K12 => ob (vFa 0 v17x10) fun u => K12 u H11) H11 fun v18x13 H14 =>
  gop v13x1 true (fun K15 => ob (vLoad v18x13 H14) fun u => K15 u H14) H14 fun v19x16 H17 =>
  gop v13x1 true (fun K18 => K18 a3 H17) H17 fun v20x19 H20 =>
  gop v13x1 true (fun K21 => ob (vInt .sub v19x16 v20x19) fun u => K21 u H20) H20 fun v21x22 H23 =>
  gop v13x1 true (fun K24 => HT prg I.spec_l00In [v15x4, (.int .i64 0), v21x22].toArray H23 K24) H23 fun v22x25 H26 =>
  ob (vPick v13x1 v22x25 (.bool false)) fun v23x27 =>
  gop v23x27 true (fun K28 => K28 a2 H26) H26 fun v25x29 H30 =>
  gop v23x27 true (fun K31 => K31 a0 H30) H30 fun v26x32 H33 =>
  gop v23x27 true (fun K34 => ob (vNilC v26x32) fun u => K34 u H33) H33 fun v27x35 H36 =>
  gop v23x27 true (fun K37 => ob (vFa 1 v27x35) fun u => K37 u H36) H36 fun v28x38 H39 =>
  gop v23x27 true (fun K40 => ob (vLoad v28x38 H39) fun u => K40 u H39) H39 fun v29x41 H42 =>
  gop v23x27 true (fun K43 => K43 a4 H42) H42 fun v30x44 H45 =>
  gop v23x27 true (fun K46 => ob (vInt .sub v29x41 v30x44) fun u => K46 u H45) H45 fun v31x47 H48 =>
  gop v23x27 true (fun K49 => HT prg I.spec_l00In [v25x29, (.int .i64 0), v31x47].toArray H48 K49) H48 fun v32x50 H51 =>
  ob (vPick v23x27 v32x50 (.bool false)) fun v33x52 =>
  K v33x52 H51
def O.spec_l04Within : Nat → Nat × List Nat := fun i => (0, [])
theorem R.spec_l04Within {a0 a1 a2 a3 a4 : Value} {H : Hp} {K : Value → Hp → Prop} (h : F.spec_l04Within a0 a1 a2 a3 a4 H K) : HT prg I.spec_l04Within [a0, a1, a2, a3, a4].toArray H K :=
  HT_of_fev O.spec_l04Within mixed Try.func61 (by kernel_rfl) (Eq.mpr (by kernel_rfl : fev prg O.spec_l04Within Try.f61 [a0, a1, a2, a3, a4] H K = F.spec_l04Within a0 a1 a2 a3 a4 H K) h)

/-! loop.example/g01381/spec.CutField: function 28 -/
def F.spec_CutField (a0 a1 a2 a3 a4 : Value) (H : Hp) (K : Value → Hp → Prop) : Prop :=
  nw (a0 : Value).cells 28 H fun v5x1 H2 =>
  nw #[(.int .i64 0), (.int .i64 0), (.slice none 0 0)] 28 H2 fun v10x3 H4 =>
  HT prg I.spec_l04Is [v5x1].toArray H4 fun v15x5 H6 =>
  ob (vUn .not v15x5) fun v16x7 =>
  gop v16x7 false (fun K8 => K8 a1 H6) H6 fun v18x9 H10 =>
  gop v16x7 false (fun K11 => K11 a2 H10) H10 fun v19x12 H13 =>
  gop v16x7 false (fun K14 => K14 a3 H13) H13 fun v20x15 H16 =>
  gop v16x7 false (fun K17 => K17 a4 H16) H16 fun v21x18 H19 =>
  gop v16x7 false (fun K20 => HT prg I.spec_l04Within [v5x1, v18x9, v19x12, v20x15, v21x18].toArray H19 K20) H19 fun v22x21 H22 =>
  gop v16x7 false (fun K23 => ob (vUn .not v22x21) fun u => K23 u H22) H22 fun v23x24 H25 =>
  ob (vPick v16x7 (.bool true) v23x24) fun v24x26 =>
  cnd v24x26
    (ob (vBuild [(0, 1), (1, 1), (2, 1)] (.agg #[(.int .i64 0), (.int .i64 0), (.slice none 0 0)]) []) fun v25x27 =>
    st 3 v10x3 v25x27 H25 fun H28 =>
    ob (vLoadN 3 v10x3 H28) fun u29 => K (.tuple #[u29, (.bool false)]) H28)
    (HT prg I.spec_l04New [a3, a4].toArray H25 fun v28x30 H31 =>
  nw #[(.int .i64 0), (.int .i64 0), (.slice none 0 0)] 28 H31 fun v12x32 H33 =>
  st 3 v12x32 v28x30 H33 fun H34 =>
  jn (fun σ35 H35 =>
    ob (vLoadN 3 (σ35 12) H35) fun v61x36 =>
    st 3 (σ35 10) v61x36 H35 fun H37 =>
    ob (vLoadN 3 (σ35 10) H37) fun u38 => K (.tuple #[u38, (.bool true)]) H37) fun J35 =>
  lpE (fun Q39 σ39 H39 =>
    ob (vInt .lss (σ39 13) (σ39 3)) fun v31x40 =>
    cnd v31x40
      (jn (fun σ41 H41 =>
      ob (vInt .add (σ41 13) (.int .i64 1)) fun v33x42 =>
      Q39 .normal (up (up (up σ41 32 (σ41 13)) 33 v33x42) 13 v33x42) H41) fun J41 =>
    lpE (fun Q43 σ43 H43 =>
      ob (vInt .lss (σ43 14) (σ43 4)) fun v36x44 =>
      cnd v36x44
        (ob (vFa 2 (σ43 12)) fun v39x45 =>
      ob (vLoad v39x45 H43) fun v40x46 =>
      ob (vInt .mul (σ43 13) (σ43 4)) fun v43x47 =>
      ob (vInt .add v43x47 (σ43 14)) fun v45x48 =>
      ob (vFa 2 (σ43 5)) fun v46x49 =>
      ob (vLoad v46x49 H43) fun v47x50 =>
      ob (vInt .add (σ43 1) (σ43 13)) fun v50x51 =>
      ob (vFa 1 (σ43 5)) fun v51x52 =>
      ob (vLoad v51x52 H43) fun v52x53 =>
      ob (vInt .mul v50x51 v52x53) fun v53x54 =>
      ob (vInt .add v53x54 (σ43 2)) fun v55x55 =>
      ob (vInt .add v55x55 (σ43 14)) fun v57x56 =>
      ob (vIx 1 v47x50 v57x56) fun v58x57 =>
      ob (vLoad v58x57 H43) fun v59x58 =>
      ob (vIx 1 v40x46 v45x48) fun v60x59 =>
      st 1 v60x59 v59x58 H43 fun H60 =>
      ob (vInt .add (σ43 14) (.int .i64 1)) fun v38x61 =>
      Q43 .normal (up (up (up (up (up (up (up (up (up (up (up (up (up (up (up (up (up (up (up (up (up (up (up (up (up (up (up (up σ43 34 (σ43 14)) 35 (σ43 4)) 36 v36x44) 39 v39x45) 40 v40x46) 41 (σ43 13)) 42 (σ43 4)) 43 v43x47) 44 (σ43 14)) 45 v45x48) 46 v46x49) 47 v47x50) 48 (σ43 1)) 49 (σ43 13)) 50 v50x51) 51 v51x52) 52 v52x53) 53 v53x54) 54 (σ43 2)) 55 v55x55) 56 (σ43 14)) 57 v57x56) 58 v58x57) 59 v59x58) 60 v60x59) 37 (σ43 14)) 38 v38x61) 14 v38x61) H60)
        (Q43 (.exit 2) (up (up (up σ43 34 (σ43 14)) 35 (σ43 4)) 36 v36x44) H43)) (blkQ 2 (blkQ 1 (thenQ J41 Q39))) (up (up (up (up σ39 29 (σ39 13)) 30 (σ39 3)) 31 v31x40) 14 (.int .i64 0)) H39)
      (Q39 (.exit 0) (up (up (up σ39 29 (σ39 13)) 30 (σ39 3)) 31 v31x40) H39)) (blkQ 0 (thenQ J35 (retQ prg [(.cell 10 28), (.tmp 11)] K))) (up (up (up (up (up (up (up (up (up (up (up (up (up (up (up (up (up (up (S0 [a0, a1, a2, a3, a4]) 5 v5x1) 10 v10x3) 11 (.bool false)) 15 v15x5) 16 v16x7) 17 v16x7) 18 v18x9) 19 v19x12) 20 v20x15) 21 v21x18) 22 v22x21) 23 v23x24) 24 v24x26) 26 a3) 27 a4) 28 v28x30) 12 v12x32) 13 (.int .i64 0)) H34)
def O.spec_CutField : Nat → Nat × List Nat := fun i => bif Nat.beq i 10 then (0, [0, 1, 2, 3, 4, 5, 6, 7, 8, 9, 10, 11, 12, 13, 14, 15, 16, 17, 18, 19, 20, 21, 22]) else (0, [])
theorem R.spec_CutField {a0 a1 a2 a3 a4 : Value} {H : Hp} {K : Value → Hp → Prop} (h : F.spec_CutField a0 a1 a2 a3 a4 H K) : HT prg I.spec_CutField [a0, a1, a2, a3, a4].toArray H K :=
  HT_of_fev O.spec_CutField mixed Try.func28 (by kernel_rfl) (Eq.mpr (by kernel_rfl : fev prg O.spec_CutField Try.f28 [a0, a1, a2, a3, a4] H K = F.spec_CutField a0 a1 a2 a3 a4 H K) h)

/-! loop.example/g01381/impl.InnerStep: function 29 -/
def F.impl_InnerStep (a0 a1 : Value) (H : Hp) (K : Value → Hp → Prop) : Prop :=
  nw (a0 : Value).cells 42 H fun v2x1 H2 =>
  nw (a1 : Value).cells 28 H2 fun v3x3 H4 =>
  nw #[(.int .i64 0), (.int .i64 0), (.slice none 0 0)] 28 H4 fun v4x5 H6 =>
  ob (vLoadN 2 v2x1 H6) fun v6x7 =>
  HT prg I.impl_ValidLife [v6x7].toArray H6 fun v7x8 H9 =>
  ob (vUn .not v7x8) fun v8x10 =>
  gop v8x10 false (fun K11 => ob (vLoadN 3 v3x3 H9) fun u => K11 u H9) H9 fun v10x12 H13 =>
  gop v8x10 false (fun K14 => HT prg I.impl_isSquare [v10x12].toArray H13 K14) H13 fun v11x15 H16 =>
  gop v8x10 false (fun K17 => ob (vUn .not v11x15) fun u => K17 u H16) H16 fun v12x18 H19 =>
  ob (vPick v8x10 (.bool true) v12x18) fun v13x20 =>
  cnd v13x20
    (ob (vBuild [(0, 1), (1, 1), (2, 1)] (.agg #[(.int .i64 0), (.int .i64 0), (.slice none 0 0)]) []) fun v14x21 =>
    st 3 v4x5 v14x21 H19 fun H22 =>
    ob (vLoadN 3 v4x5 H22) fun u23 => K (.tuple #[u23, (.bool false)]) H22)
    (ob (vLoadN 2 v2x1 H19) fun v15x24 =>
  ob (vLoadN 3 v3x3 H19) fun v16x25 =>
  HT prg I.impl_Life_inner [v15x24, v16x25].toArray H19 fun v17x26 H27 =>
  st 3 v4x5 v17x26 H27 fun H28 =>
  ob (vLoadN 3 v4x5 H28) fun u29 => K (.tuple #[u29, (.bool true)]) H28)
def O.impl_InnerStep : Nat → Nat × List Nat := fun i => (0, [])
theorem R.impl_InnerStep {a0 a1 : Value} {H : Hp} {K : Value → Hp → Prop} (h : F.impl_InnerStep a0 a1 H K) : HT prg I.impl_InnerStep [a0, a1].toArray H K :=
  HT_of_fev O.impl_InnerStep mixed Try.func29 (by kernel_rfl) (Eq.mpr (by kernel_rfl : fev prg O.impl_InnerStep Try.f29 [a0, a1] H K = F.impl_InnerStep a0 a1 H K) h)

/-! loop.example/g01381/spec.StepLife: function 30 -/
def F.spec_StepLife (a0 a1 a2 : Value) (H : Hp) (K : Value → Hp → Prop) : Prop :=
  nw (a0 : Value).cells 42 H fun v3x1 H2 =>
  nw (a1 : Value).cells 28 H2 fun v4x3 H4 =>
  nw #[(.int .i64 0), (.int .i64 0), (.slice none 0 0)] 28 H4 fun v6x5 H6 =>
  HT prg I.spec_l04Can [v3x1, v4x3].toArray H6 fun v8x7 H8 =>
  ob (vUn .not v8x7) fun v9x9 =>
  cnd v9x9
    (ob (vBuild [(0, 1), (1, 1), (2, 1)] (.agg #[(.int .i64 0), (.int .i64 0), (.slice none 0 0)]) []) fun v10x10 =>
    st 3 v6x5 v10x10 H8 fun H11 =>
    ob (vLoadN 3 v6x5 H11) fun u12 => K (.tuple #[u12, (.bool false)]) H11)
    (HT prg I.spec_l04Next [v3x1, v4x3, a2].toArray H8 fun v12x13 H14 =>
  st 3 v6x5 v12x13 H14 fun H15 =>
  ob (vLoadN 3 v6x5 H15) fun u16 => K (.tuple #[u16, (.bool true)]) H15)
def O.spec_StepLife : Nat → Nat × List Nat := fun i => (0, [])
theorem R.spec_StepLife {a0 a1 a2 : Value} {H : Hp} {K : Value → Hp → Prop} (h : F.spec_StepLife a0 a1 a2 H K) : HT prg I.spec_StepLife [a0, a1, a2].toArray H K :=
  HT_of_fev O.spec_StepLife mixed Try.func30 (by kernel_rfl) (Eq.mpr (by kernel_rfl : fev prg O.spec_StepLife Try.f30 [a0, a1, a2] H K = F.spec_StepLife a0 a1 a2 H K) h)

/-! loop.example/g01381/laws.b10Ints: function 31 -/
def F.laws_b10Ints (a0 a1 : Value) (H : Hp) (K : Value → Hp → Prop) : Prop :=
  ob (vLenSl a0) fun v7x1 =>
  ob (vLenSl a1) fun v9x2 =>
  ob (vInt .neq v7x1 v9x2) fun v10x3 =>
  cnd v10x3
    (K (.bool false) H)
    (jn (fun σ4 H4 =>
    K (.bool true) H4) fun J4 =>
  ob (vLenSl a0) fun v12x5 =>
  lpE (fun Q6 σ6 H6 =>
    ob (vInt .lss (σ6 13) (σ6 12)) fun v14x7 =>
    cnd v14x7
      (ob (vIx 1 (σ6 0) (σ6 13)) fun v18x8 =>
    ob (vLoad v18x8 H6) fun v19x9 =>
    ob (vIx 1 (σ6 1) (σ6 13)) fun v22x10 =>
    ob (vLoad v22x10 H6) fun v23x11 =>
    ob (vInt .neq v19x9 v23x11) fun v24x12 =>
    cnd v24x12
      (Q6 .ret (up (up (up (up (up (up (up (up (up (up (up (up (up σ6 14 v14x7) 15 (σ6 13)) 5 (σ6 13)) 16 (σ6 0)) 17 (σ6 13)) 18 v18x8) 19 v19x9) 20 (σ6 1)) 21 (σ6 13)) 22 v22x10) 23 v23x11) 24 v24x12) 4 (.bool false)) H6)
      (ob (vInt .add (σ6 13) (.int .i64 1)) fun v25x13 =>
    Q6 .normal (up (up (up (up (up (up (up (up (up (up (up (up (up (up σ6 14 v14x7) 15 (σ6 13)) 5 (σ6 13)) 16 (σ6 0)) 17 (σ6 13)) 18 v18x8) 19 v19x9) 20 (σ6 1)) 21 (σ6 13)) 22 v22x10) 23 v23x11) 24 v24x12) 25 v25x13) 13 v25x13) H6))
      (Q6 (.exit 0) (up σ6 14 v14x7) H6)) (blkQ 0 (thenQ J4 (retQ prg [(.tmp 4)] K))) (up (up (up (up (up (up (up (up (up (S0 [a0, a1]) 4 (.bool false)) 6 a0) 7 v7x1) 8 a1) 9 v9x2) 10 v10x3) 11 a0) 12 v12x5) 13 (.int .i64 0)) H)
def O.laws_b10Ints : Nat → Nat × List Nat := fun i => bif Nat.beq i 6 then (0, [0, 1, 2, 3, 4, 5, 6, 7, 8]) else (0, [])
theorem R.laws_b10Ints {a0 a1 : Value} {H : Hp} {K : Value → Hp → Prop} (h : F.laws_b10Ints a0 a1 H K) : HT prg I.laws_b10Ints [a0, a1].toArray H K :=
  HT_of_fev O.laws_b10Ints mixed Try.func31 (by kernel_rfl) (Eq.mpr (by kernel_rfl : fev prg O.laws_b10Ints Try.f31 [a0, a1] H K = F.laws_b10Ints a0 a1 H K) h)

/-! loop.example/g01381/laws.FnInner: function 6 -/
def F.laws_FnInner (a0 a1 : Value) (H : Hp) (K : Value → Hp → Prop) : Prop :=
  HT prg I.laws_b10Long [a0, a1].toArray H fun v33x1 H2 =>
  cnd v33x1
    (K (.bool true) H2)
    (HT prg I.spec_B10Life [a1].toArray H2 fun v35x3 H4 =>
  nw #[(.slice none 0 0), (.slice none 0 0)] 42 H4 fun v5x5 H6 =>
  st 2 v5x5 v35x3 H6 fun H7 =>
  bS 1 3 #[(.int .i64 0)] 2 [(0, (.int .i64 4)), (1, (.int .i64 8)), (2, (.int .i64 16))] H7 fun v36x8 H9 =>
  HT prg I.laws_b10At [a1, (.int .i64 0), (.int .i64 3)].toArray H9 fun v39x10 H11 =>
  ob (vIx 1 v36x8 v39x10) fun v40x12 =>
  ob (vLoad v40x12 H11) fun v41x13 =>
  HT prg I.spec_B10Plain [a0, v41x13, v41x13].toArray H11 fun v45x14 H15 =>
  nw #[(.int .i64 0), (.int .i64 0), (.slice none 0 0)] 28 H15 fun v8x16 H17 =>
  st 3 v8x16 v45x14 H17 fun H18 =>
  ob (vLoadN 2 v5x5 H18) fun v47x19 =>
  ob (vLoadN 3 v8x16 H18) fun v48x20 =>
  HT prg I.impl_InnerLife [v47x19, v48x20].toArray H18 fun v49x21 H22 =>
  ob (vExt v49x21 0) fun v50x23 =>
  ob (vExt v49x21 1) fun v51x24 =>
  nw #[(.int .i64 0), (.int .i64 0), (.slice none 0 0)] 28 H22 fun v9x25 H26 =>
  st 3 v9x25 v50x23 H26 fun H27 =>
  ob (vLoadN 2 v5x5 H27) fun v53x28 =>
  ob (vLoadN 3 v8x16 H27) fun v54x29 =>
  ob (vInt .quo v41x13 (.int .i64 4)) fun v56x30 =>
  HT prg I.spec_RunLife [v53x28, v54x29, (.bool false), v56x30].toArray H27 fun v57x31 H32 =>
  ob (vExt v57x31 0) fun v58x33 =>
  ob (vExt v57x31 1) fun v59x34 =>
  nw #[(.int .i64 0), (.int .i64 0), (.slice none 0 0)] 28 H32 fun v11x35 H36 =>
  st 3 v11x35 v58x33 H36 fun H37 =>
  ob (vLoadN 3 v11x35 H37) fun v61x38 =>
  ob (vInt .quo v41x13 (.int .i64 4)) fun v63x39 =>
  ob (vInt .quo v41x13 (.int .i64 4)) fun v65x40 =>
  ob (vInt .quo v41x13 (.int .i64 2)) fun v67x41 =>
  ob (vInt .quo v41x13 (.int .i64 2)) fun v69x42 =>
  HT prg I.spec_CutField [v61x38, v63x39, v65x40, v67x41, v69x42].toArray H37 fun v70x43 H44 =>
  ob (vExt v70x43 0) fun v71x45 =>
  ob (vExt v70x43 1) fun v72x46 =>
  nw #[(.int .i64 0), (.int .i64 0), (.slice none 0 0)] 28 H44 fun v13x47 H48 =>
  st 3 v13x47 v71x45 H48 fun H49 =>
  ob (vLoadN 2 v5x5 H49) fun v74x50 =>
  ob (vLoadN 3 v8x16 H49) fun v75x51 =>
  HT prg I.impl_InnerStep [v74x50, v75x51].toArray H49 fun v76x52 H53 =>
  ob (vExt v76x52 0) fun v77x54 =>
  ob (vExt v76x52 1) fun v78x55 =>
  nw #[(.int .i64 0), (.int .i64 0), (.slice none 0 0)] 28 H53 fun v15x56 H57 =>
  st 3 v15x56 v77x54 H57 fun H58 =>
  ob (vLoadN 2 v5x5 H58) fun v80x59 =>
  ob (vLoadN 3 v8x16 H58) fun v81x60 =>
  HT prg I.spec_StepLife [v80x59, v81x60, (.bool false)].toArray H58 fun v82x61 H62 =>
  ob (vExt v82x61 0) fun v83x63 =>
  ob (vExt v82x61 1) fun v84x64 =>
  nw #[(.int .i64 0), (.int .i64 0), (.slice none 0 0)] 28 H62 fun v17x65 H66 =>
  st 3 v17x65 v83x63 H66 fun H67 =>
  ob (vLoadN 3 v17x65 H67) fun v86x68 =>
  ob (vInt .sub v41x13 (.int .i64 2)) fun v88x69 =>
  ob (vInt .sub v41x13 (.int .i64 2)) fun v90x70 =>
  HT prg I.spec_CutField [v86x68, (.int .i64 1), (.int .i64 1), v88x69, v90x70].toArray H67 fun v91x71 H72 =>
  ob (vExt v91x71 0) fun v92x73 =>
  ob (vExt v91x71 1) fun v93x74 =>
  nw #[(.int .i64 0), (.int .i64 0), (.slice none 0 0)] 28 H72 fun v19x75 H76 =>
  st 3 v19x75 v92x73 H76 fun H77 =>
  ob (vUn .not v51x24) fun v95x78 =>
  gop v95x78 false (fun K79 => K79 v59x34 H77) H77 fun v97x80 H81 =>
  gop v95x78 false (fun K82 => ob (vUn .not v97x80) fun u => K82 u H81) H81 fun v98x83 H84 =>
  ob (vPick v95x78 (.bool true) v98x83) fun v99x85 =>
  gop v99x85 false (fun K86 => K86 v72x46 H84) H84 fun v101x87 H88 =>
  gop v99x85 false (fun K89 => ob (vUn .not v101x87) fun u => K89 u H88) H88 fun v102x90 H91 =>
  ob (vPick v99x85 (.bool true) v102x90) fun v103x92 =>
  gop v103x92 false (fun K93 => K93 v78x55 H91) H91 fun v105x94 H95 =>
  gop v103x92 false (fun K96 => ob (vUn .not v105x94) fun u => K96 u H95) H95 fun v106x97 H98 =>
  ob (vPick v103x92 (.bool true) v106x97) fun v107x99 =>
  gop v107x99 false (fun K100 => K100 v84x64 H98) H98 fun v109x101 H102 =>
  gop v107x99 false (fun K103 => ob (vUn .not v109x101) fun u => K103 u H102) H102 fun v110x104 H105 =>
  ob (vPick v107x99 (.bool true) v110x104) fun v111x106 =>
  gop v111x106 false (fun K107 => K107 v93x74 H105) H105 fun v113x108 H109 =>
  gop v111x106 false (fun K110 => ob (vUn .not v113x108) fun u => K110 u H109) H109 fun v114x111 H112 =>
  ob (vPick v111x106 (.bool true) v114x111) fun v115x113 =>
  gop v115x113 false (fun K114 => ob (vFa 0 v9x25) fun u => K114 u H112) H112 fun v117x115 H116 =>
  gop v115x113 false (fun K117 => ob (vLoad v117x115 H116) fun u => K117 u H116) H116 fun v118x118 H119 =>
  gop v115x113 false (fun K120 => K120 v41x13 H119) H119 fun v119x121 H122 =>
  gop v115x113 false (fun K123 => ob (vInt .quo v119x121 (.int .i64 2)) fun u => K123 u H122) H122 fun v120x124 H125 =>
  gop v115x113 false (fun K126 => ob (vInt .neq v118x118 v120x124) fun u => K126 u H125) H125 fun v121x127 H128 =>
  ob (vPick v115x113 (.bool true) v121x127) fun v122x129 =>
  gop v122x129 false (fun K130 => ob (vFa 2 v9x25) fun u => K130 u H128) H128 fun v124x131 H132 =>
  gop v122x129 false (fun K133 => ob (vLoad v124x131 H132) fun u => K133 u H132) H132 fun v125x134 H135 =>
  gop v122x129 false (fun K136 => ob (vFa 2 v13x47) fun u => K136 u H135) H135 fun v126x137 H138 =>
  gop v122x129 false (fun K139 => ob (vLoad v126x137 H138) fun u => K139 u H138) H138 fun v127x140 H141 =>
  gop v122x129 false (fun K142 => HT prg I.laws_b10Ints [v125x134, v127x140].toArray H141 K142) H141 fun v128x143 H144 =>
  gop v122x129 false (fun K145 => ob (vUn .not v128x143) fun u => K145 u H144) H144 fun v129x146 H147 =>
  ob (vPick v122x129 (.bool true) v129x146) fun v130x148 =>
  gop v130x148 false (fun K149 => ob (vFa 0 v15x56) fun u => K149 u H147) H147 fun v132x150 H151 =>
  gop v130x148 false (fun K152 => ob (vLoad v132x150 H151) fun u => K152 u H151) H151 fun v133x153 H154 =>
  gop v130x148 false (fun K155 => K155 v41x13 H154) H154 fun v134x156 H157 =>
  gop v130x148 false (fun K158 => ob (vInt .sub v134x156 (.int .i64 2)) fun u => K158 u H157) H157 fun v135x159 H160 =>
  gop v130x148 false (fun K161 => ob (vInt .neq v133x153 v135x159) fun u => K161 u H160) H160 fun v136x162 H163 =>
  ob (vPick v130x148 (.bool true) v136x162) fun v137x164 =>
  gop v137x164 false (fun K165 => ob (vFa 2 v15x56) fun u => K165 u H163) H163 fun v139x166 H167 =>
  gop v137x164 false (fun K168 => ob (vLoad v139x166 H167) fun u => K168 u H167) H167 fun v140x169 H170 =>
  gop v137x164 false (fun K171 => ob (vFa 2 v19x75) fun u => K171 u H170) H170 fun v141x172 H173 =>
  gop v137x164 false (fun K174 => ob (vLoad v141x172 H173) fun u => K174 u H173) H173 fun v142x175 H176 =>
  gop v137x164 false (fun K177 => HT prg I.laws_b10Ints [v140x169, v142x175].toArray H176 K177) H176 fun v143x178 H179 =>
  gop v137x164 false (fun K180 => ob (vUn .not v143x178) fun u => K180 u H179) H179 fun v144x181 H182 =>
  ob (vPick v137x164 (.bool true) v144x181) fun v145x183 =>
  cnd v145x183
    (K (.bool false) H182)
    (ob (vLoadN 3 v8x16 H182) fun v147x184 =>
  HT prg I.impl_QuarterTree [v147x184].toArray H182 fun v148x185 H186 =>
  ob (vExt v148x185 0) fun v149x187 =>
  ob (vExt v148x185 1) fun v150x188 =>
  ob (vLoadN 3 v8x16 H186) fun v152x189 =>
  HT prg I.spec_QuarterTree [v152x189].toArray H186 fun v153x190 H191 =>
  ob (vExt v153x190 0) fun v154x192 =>
  ob (vExt v153x190 1) fun v155x193 =>
  ob (vLoadN 3 v8x16 H191) fun v157x194 =>
  HT prg I.impl_QuarterKinds [v157x194].toArray H191 fun v158x195 H196 =>
  ob (vExt v158x195 0) fun v159x197 =>
  ob (vExt v158x195 1) fun v160x198 =>
  HT prg I.impl_FieldOfTree [v149x187].toArray H196 fun v163x199 H200 =>
  ob (vExt v163x199 0) fun v164x201 =>
  ob (vExt v163x199 1) fun v165x202 =>
  nw #[(.int .i64 0), (.int .i64 0), (.slice none 0 0)] 28 H200 fun v27x203 H204 =>
  st 3 v27x203 v164x201 H204 fun H205 =>
  ob (vUn .not v150x188) fun v167x206 =>
  gop v167x206 false (fun K207 => K207 v155x193 H205) H205 fun v169x208 H209 =>
  gop v167x206 false (fun K210 => ob (vUn .not v169x208) fun u => K210 u H209) H209 fun v170x211 H212 =>
  ob (vPick v167x206 (.bool true) v170x211) fun v171x213 =>
  gop v171x213 false (fun K214 => K214 v160x198 H212) H212 fun v173x215 H216 =>
  gop v171x213 false (fun K217 => ob (vUn .not v173x215) fun u => K217 u H216) H216 fun v174x218 H219 =>
  ob (vPick v171x213 (.bool true) v174x218) fun v175x220 =>
  gop v175x220 false (fun K221 => K221 v165x202 H219) H219 fun v177x222 H223 =>
  gop v175x220 false (fun K224 => ob (vUn .not v177x222) fun u => K224 u H223) H223 fun v178x225 H226 =>
  ob (vPick v175x220 (.bool true) v178x225) fun v179x227 =>
  gop v179x227 false (fun K228 => K228 v149x187 H226) H226 fun v181x229 H230 =>
  gop v179x227 false (fun K231 => K231 v154x192 H230) H230 fun v182x232 H233 =>
  gop v179x227 false (fun K234 => HT prg I.laws_b10Ints [v181x229, v182x232].toArray H233 K234) H233 fun v183x235 H236 =>
  gop v179x227 false (fun K237 => ob (vUn .not v183x235) fun u => K237 u H236) H236 fun v184x238 H239 =>
  ob (vPick v179x227 (.bool true) v184x238) fun v185x240 =>
  gop v185x240 false (fun K241 => ob (vFa 0 v27x203) fun u => K241 u H239) H239 fun v187x242 H243 =>
  gop v185x240 false (fun K244 => ob (vLoad v187x242 H243) fun u => K244 u H243) H243 fun v188x245 H246 =>
  gop v185x240 false (fun K247 => K247 v41x13 H246) H246 fun v189x248 H249 =>
  gop v185x240 false (fun K250 => ob (vInt .neq v188x245 v189x248) fun u => K250 u H249) H249 fun v190x251 H252 =>
  ob (vPick v185x240 (.bool true) v190x251) fun v191x253 =>
  gop v191x253 false (fun K254 => ob (vFa 2 v27x203) fun u => K254 u H252) H252 fun v193x255 H256 =>
  gop v191x253 false (fun K257 => ob (vLoad v193x255 H256) fun u => K257 u H256) H256 fun v194x258 H259 =>
  gop v191x253 false (fun K260 => ob (vFa 2 v8x16) fun u => K260 u H259) H259 fun v195x261 H262 =>
  gop v191x253 false (fun K263 => ob (vLoad v195x261 H262) fun u => K263 u H262) H262 fun v196x264 H265 =>
  gop v191x253 false (fun K266 => HT prg I.laws_b10Ints [v194x258, v196x264].toArray H265 K266) H265 fun v197x267 H268 =>
  gop v191x253 false (fun K269 => ob (vUn .not v197x267) fun u => K269 u H268) H268 fun v198x270 H271 =>
  ob (vPick v191x253 (.bool true) v198x270) fun v199x272 =>
  gop v199x272 false (fun K273 => K273 v159x197 H271) H271 fun v201x274 H275 =>
  gop v199x272 false (fun K276 => ob (vLenSl v201x274) fun u => K276 u H275) H275 fun v202x277 H278 =>
  gop v199x272 false (fun K279 => ob (vInt .lss v202x277 (.int .i64 3)) fun u => K279 u H278) H278 fun v203x280 H281 =>
  ob (vPick v199x272 (.bool true) v203x280) fun v204x282 =>
  gop v204x282 false (fun K283 => K283 v159x197 H281) H281 fun v206x284 H285 =>
  gop v204x282 false (fun K286 => K286 v159x197 H285) H285 fun v207x287 H288 =>
  gop v204x282 false (fun K289 => ob (vLenSl v207x287) fun u => K289 u H288) H288 fun v208x290 H291 =>
  gop v204x282 false (fun K292 => ob (vInt .sub v208x290 (.int .i64 1)) fun u => K292 u H291) H291 fun v209x293 H294 =>
  gop v204x282 false (fun K295 => ob (vIx 1 v206x284 v209x293) fun u => K295 u H294) H294 fun v210x296 H297 =>
  gop v204x282 false (fun K298 => ob (vLoad v210x296 H297) fun u => K298 u H297) H297 fun v211x299 H300 =>
  gop v204x282 false (fun K301 => ob (vInt .neq v211x299 (.int .i64 1)) fun u => K301 u H300) H300 fun v212x302 H303 =>
  ob (vPick v204x282 (.bool true) v212x302) fun v213x304 =>
  cnd v213x304
    (K (.bool false) H303)
    (jn (fun σ305 H305 =>
    ob (vInt .mul (.int .i64 4) (σ305 29)) fun v227x306 =>
    ob (vLenSl (σ305 21)) fun v229x307 =>
    ob (vInt .eql v227x306 v229x307) fun v230x308 =>
    gop v230x308 true (fun K309 => K309 (σ305 25) H305) H305 fun v232x310 H311 =>
    gop v230x308 true (fun K312 => ob (vIx 1 v232x310 (.int .i64 0)) fun u => K312 u H311) H311 fun v233x313 H314 =>
    gop v230x308 true (fun K315 => ob (vLoad v233x313 H314) fun u => K315 u H314) H314 fun v234x316 H317 =>
    gop v230x308 true (fun K318 => ob (vInt .geq v234x316 (.int .i64 1)) fun u => K318 u H317) H317 fun v235x319 H320 =>
    ob (vPick v230x308 v235x319 (.bool false)) fun v236x321 =>
    gop v236x321 true (fun K322 => K322 (σ305 25) H320) H320 fun v238x323 H324 =>
    gop v236x321 true (fun K325 => ob (vIx 1 v238x323 (.int .i64 0)) fun u => K325 u H324) H324 fun v239x326 H327 =>
    gop v236x321 true (fun K328 => ob (vLoad v239x326 H327) fun u => K328 u H327) H327 fun v240x329 H330 =>
    gop v236x321 true (fun K331 => ob (vInt .leq v240x329 (.int .i64 2)) fun u => K331 u H330) H330 fun v241x332 H333 =>
    ob (vPick v236x321 v241x332 (.bool false)) fun v242x334 =>
    K v242x334 H333) fun J305 =>
  lpE (fun Q335 σ335 H335 =>
    ob (vLenSl (σ335 25)) fun v216x336 =>
    ob (vInt .lss (σ335 30) v216x336) fun v217x337 =>
    cnd v217x337
      (ob (vIx 1 (σ335 25) (σ335 30)) fun v223x338 =>
    ob (vLoad v223x338 H335) fun v224x339 =>
    ob (vInt .add (σ335 29) v224x339) fun v225x340 =>
    ob (vInt .add (σ335 30) (.int .i64 1)) fun v219x341 =>
    Q335 .normal (up (up (up (up (up (up (up (up (up (up (up (up (up (up σ335 214 (σ335 30)) 215 (σ335 25)) 216 v216x336) 217 v217x337) 220 (σ335 29)) 221 (σ335 25)) 222 (σ335 30)) 223 v223x338) 224 v224x339) 225 v225x340) 29 v225x340) 218 (σ335 30)) 219 v219x341) 30 v219x341) H335)
      (Q335 (.exit 0) (up (up (up (up σ335 214 (σ335 30)) 215 (σ335 25)) 216 v216x336) 217 v217x337) H335)) (blkQ 0 (thenQ J305 (retQ prg [(.tmp 4)] K))) (up (up (up (up (up (up (up (up (up (up (up (up (up (up (up (up (up (up (up (up (up (up (up (up (up (up (up (up (up (up (up (up (up (up (up (up (up (up (up (up (up (up (up (up (up (up (up (up (up (up (up (up (up (up (up (up (up (up (up (up (up (up (up (up (up (up (up (up (up (up (up (up (up (up (up (up (up (up (up (up (up (up (up (up (up (up (up (up (up (up (up (up (up (up (up (up (up (up (up (up (up (up (up (up (up (up (up (up (up (up (up (up (up (up (up (up (up (up (up (up (up (up (up (up (up (up (up (up (up (up (up (up (up (up (up (up (up (up (up (up (up (up (up (up (up (up (up (up (up (up (up (up (up (up (up (up (up (up (up (up (up (up (up (up (up (up (up (up (up (up (up (up (up (up (up (up (up (up (up (up (up (up (up (up (up (up (up (up (up (up (up (up (up (up (up (up (up (up (up (up (up (up (up (up (up (up (up (up (up (up (S0 [a0, a1]) 4 (.bool false)) 31 a0) 32 a1) 33 v33x1) 34 a1) 35 v35x3) 5 v5x5) 36 v36x8) 6 v36x8) 37 v36x8) 38 a1) 39 v39x10) 40 v40x12) 41 v41x13) 7 v41x13) 42 a0) 43 v41x13) 44 v41x13) 45 v45x14) 8 v8x16) 47 v47x19) 48 v48x20) 49 v49x21) 46 v49x21) 50 v50x23) 51 v51x24) 9 v9x25) 10 v51x24) 53 v53x28) 54 v54x29) 55 v41x13) 56 v56x30) 57 v57x31) 52 v57x31) 58 v58x33) 59 v59x34) 11 v11x35) 12 v59x34) 61 v61x38) 62 v41x13) 63 v63x39) 64 v41x13) 65 v65x40) 66 v41x13) 67 v67x41) 68 v41x13) 69 v69x42) 70 v70x43) 60 v70x43) 71 v71x45) 72 v72x46) 13 v13x47) 14 v72x46) 74 v74x50) 75 v75x51) 76 v76x52) 73 v76x52) 77 v77x54) 78 v78x55) 15 v15x56) 16 v78x55) 80 v80x59) 81 v81x60) 82 v82x61) 79 v82x61) 83 v83x63) 84 v84x64) 17 v17x65) 18 v84x64) 86 v86x68) 87 v41x13) 88 v88x69) 89 v41x13) 90 v90x70) 91 v91x71) 85 v91x71) 92 v92x73) 93 v93x74) 19 v19x75) 20 v93x74) 94 v51x24) 95 v95x78) 96 v95x78) 97 v97x80) 98 v98x83) 99 v99x85) 100 v99x85) 101 v101x87) 102 v102x90) 103 v103x92) 104 v103x92) 105 v105x94) 106 v106x97) 107 v107x99) 108 v107x99) 109 v109x101) 110 v110x104) 111 v111x106) 112 v111x106) 113 v113x108) 114 v114x111) 115 v115x113) 116 v115x113) 117 v117x115) 118 v118x118) 119 v119x121) 120 v120x124) 121 v121x127) 122 v122x129) 123 v122x129) 124 v124x131) 125 v125x134) 126 v126x137) 127 v127x140) 128 v128x143) 129 v129x146) 130 v130x148) 131 v130x148) 132 v132x150) 133 v133x153) 134 v134x156) 135 v135x159) 136 v136x162) 137 v137x164) 138 v137x164) 139 v139x166) 140 v140x169) 141 v141x172) 142 v142x175) 143 v143x178) 144 v144x181) 145 v145x183) 147 v147x184) 148 v148x185) 146 v148x185) 149 v149x187) 150 v150x188) 21 v149x187) 22 v150x188) 152 v152x189) 153 v153x190) 151 v153x190) 154 v154x192) 155 v155x193) 23 v154x192) 24 v155x193) 157 v157x194) 158 v158x195) 156 v158x195) 159 v159x197) 160 v160x198) 25 v159x197) 26 v160x198) 162 v149x187) 163 v163x199) 161 v163x199) 164 v164x201) 165 v165x202) 27 v27x203) 28 v165x202) 166 v150x188) 167 v167x206) 168 v167x206) 169 v169x208) 170 v170x211) 171 v171x213) 172 v171x213) 173 v173x215) 174 v174x218) 175 v175x220) 176 v175x220) 177 v177x222) 178 v178x225) 179 v179x227) 180 v179x227) 181 v181x229) 182 v182x232) 183 v183x235) 184 v184x238) 185 v185x240) 186 v185x240) 187 v187x242) 188 v188x245) 189 v189x248) 190 v190x251) 191 v191x253) 192 v191x253) 193 v193x255) 194 v194x258) 195 v195x261) 196 v196x264) 197 v197x267) 198 v198x270) 199 v199x272) 200 v199x272) 201 v201x274) 202 v202x277) 203 v203x280) 204 v204x282) 205 v204x282) 206 v206x284) 207 v207x287) 208 v208x290) 209 v209x293) 210 v210x296) 211 v211x299) 212 v212x302) 213 v213x304) 29 (.int .i64 0)) 30 (.int .i64 1)) H303)))
def O.laws_FnInner : Nat → Nat × List Nat := fun i => (0, [])
theorem R.laws_FnInner {a0 a1 : Value} {H : Hp} {K : Value → Hp → Prop} (h : F.laws_FnInner a0 a1 H K) : HT prg I.laws_FnInner [a0, a1].toArray H K :=
  HT_of_fev O.laws_FnInner mixed Try.func6 (by kernel_rfl) (Eq.mpr (by kernel_rfl : fev prg O.laws_FnInner Try.f6 [a0, a1] H K = F.laws_FnInner a0 a1 H K) h)

end Go.Proofs.Ythgjegbckkpaiaa
