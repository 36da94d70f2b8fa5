/- Functions' texts over a partial heap. -/
import Derived.Test.YthbffbpdoankjaaG0
namespace Go.Proofs.Ythbffbpdoankjaa
open HL
set_option linter.unusedVariables false
set_option maxRecDepth 100000
set_option maxHeartbeats 4000000
/-! loop.example/g01381/spec.CountStill: function 31 -/
def F.spec_CountStill (a0 a1 a2 : Value) (H : Hp) (K : Value → Hp → Prop) : Prop :=
  nw (a0 : Value).cells 32 H fun v3x1 H2 =>
  HT prg I.spec_l04Life [v3x1].toArray H2 fun v12x3 H4 =>
  ob (vUn .not v12x3) fun v13x5 =>
  gop v13x5 false (fun K6 => K6 a1 H4) H4 fun v15x7 H8 =>
  gop v13x5 false (fun K9 => K9 a2 H8) H8 fun v16x10 H11 =>
  gop v13x5 false (fun K12 => HT prg I.spec_l05Small [v15x7, v16x10].toArray H11 K12) H11 fun v17x13 H14 =>
  gop v13x5 false (fun K15 => ob (vUn .not v17x13) fun u => K15 u H14) H14 fun v18x16 H17 =>
  ob (vPick v13x5 (.bool true) v18x16) fun v19x18 =>
  cnd v19x18
    (K (.tuple #[(.int .i64 0), (.bool false)]) H17)
    (jn (fun σ19 H19 =>
    K (.tuple #[(σ19 8), (.bool true)]) H19) fun J19 =>
  lpE (fun Q20 σ20 H20 =>
    ob (vInt .mul (σ20 1) (σ20 2)) fun v23x21 =>
    ob (vCI .u64 v23x21) fun v24x22 =>
    ob (vInt .shl (.int .i64 1) v24x22) fun v25x23 =>
    ob (vInt .lss (σ20 9) v25x23) fun v26x24 =>
    cnd v26x24
      (HT prg I.spec_l05Of [(σ20 9), (σ20 1), (σ20 2)].toArray H20 fun v32x25 H26 =>
    nw #[(.int .i64 0), (.int .i64 0), (.slice none 0 0)] 29 H26 fun v10x27 H28 =>
    st 3 v10x27 v32x25 H28 fun H29 =>
    HT prg I.spec_l04Step [(σ20 3), v10x27].toArray H29 fun v33x30 H31 =>
    nw #[(.int .i64 0), (.int .i64 0), (.slice none 0 0)] 29 H31 fun v11x32 H33 =>
    st 3 v11x32 v33x30 H33 fun H34 =>
    HT prg I.spec_l04Same [v11x32, v10x27].toArray H34 fun v34x35 H36 =>
    cnd v34x35
      (ob (vInt .add (σ20 8) (.int .i64 1)) fun v36x37 =>
      ob (vInt .add (σ20 9) (.int .i64 1)) fun v28x38 =>
    Q20 .normal (up (up (up (up (up (up (up (up (up (up (up (up (up (up (up (up (up (up (up (up (up σ20 20 (σ20 9)) 21 (σ20 1)) 22 (σ20 2)) 23 v23x21) 24 v24x22) 25 v25x23) 26 v26x24) 29 (σ20 9)) 30 (σ20 1)) 31 (σ20 2)) 32 v32x25) 10 v10x27) 33 v33x30) 11 v11x32) 34 v34x35) 35 (σ20 8)) 36 v36x37) 8 v36x37) 27 (σ20 9)) 28 v28x38) 9 v28x38) H36)
      (ob (vInt .add (σ20 9) (.int .i64 1)) fun v28x39 =>
    Q20 .normal (up (up (up (up (up (up (up (up (up (up (up (up (up (up (up (up (up (up σ20 20 (σ20 9)) 21 (σ20 1)) 22 (σ20 2)) 23 v23x21) 24 v24x22) 25 v25x23) 26 v26x24) 29 (σ20 9)) 30 (σ20 1)) 31 (σ20 2)) 32 v32x25) 10 v10x27) 33 v33x30) 11 v11x32) 34 v34x35) 27 (σ20 9)) 28 v28x39) 9 v28x39) H36))
      (Q20 (.exit 0) (up (up (up (up (up (up (up σ20 20 (σ20 9)) 21 (σ20 1)) 22 (σ20 2)) 23 v23x21) 24 v24x22) 25 v25x23) 26 v26x24) H20)) (blkQ 0 (thenQ J19 (retQ prg [(.tmp 6), (.tmp 7)] K))) (up (up (up (up (up (up (up (up (up (up (up (up (up (S0 [a0, a1, a2]) 3 v3x1) 6 (.int .i64 0)) 7 (.bool false)) 12 v12x3) 13 v13x5) 14 v13x5) 15 v15x7) 16 v16x10) 17 v17x13) 18 v18x16) 19 v19x18) 8 (.int .i64 0)) 9 (.int .i64 0)) H17)
def O.spec_CountStill : Nat → Nat × List Nat := fun i => (0, [])
theorem R.spec_CountStill {a0 a1 a2 : Value} {H : Hp} {K : Value → Hp → Prop} (h : F.spec_CountStill a0 a1 a2 H K) : HT prg I.spec_CountStill [a0, a1, a2].toArray H K :=
  HT_of_fev O.spec_CountStill mixed Try.func31 (by kernel_rfl) (Eq.mpr (by kernel_rfl : fev prg O.spec_CountStill Try.f31 [a0, a1, a2] H K = F.spec_CountStill a0 a1 a2 H K) h)

/-! loop.example/g01381/impl.areSmall: function 75 -/
def F.impl_areSmall (a0 a1 : Value) (H : Hp) (K : Value → Hp → Prop) : Prop :=
  HT prg I.impl_isSide [a0].toArray H fun v6x1 H2 =>
  gop v6x1 true (fun K3 => K3 a1 H2) H2 fun v8x4 H5 =>
  gop v6x1 true (fun K6 => HT prg I.impl_isSide [v8x4].toArray H5 K6) H5 fun v9x7 H8 =>
  ob (vPick v6x1 v9x7 (.bool false)) fun v10x9 =>
  gop v10x9 true (fun K10 => K10 a0 H8) H8 fun v12x11 H12 =>
  gop v10x9 true (fun K13 => K13 a1 H12) H12 fun v13x14 H15 =>
  gop v10x9 true (fun K16 => ob (vInt .mul v12x11 v13x14) fun u => K16 u H15) H15 fun v14x17 H18 =>
  gop v10x9 true (fun K19 => ob (vInt .leq v14x17 (.int .i64 12)) fun u => K19 u H18) H18 fun v15x20 H21 =>
  ob (vPick v10x9 v15x20 (.bool false)) fun v16x22 =>
  K v16x22 H21
def O.impl_areSmall : Nat → Nat × List Nat := fun i => (0, [])
theorem R.impl_areSmall {a0 a1 : Value} {H : Hp} {K : Value → Hp → Prop} (h : F.impl_areSmall a0 a1 H K) : HT prg I.impl_areSmall [a0, a1].toArray H K :=
  HT_of_fev O.impl_areSmall mixed Try.func75 (by kernel_rfl) (Eq.mpr (by kernel_rfl : fev prg O.impl_areSmall Try.f75 [a0, a1] H K = F.impl_areSmall a0 a1 H K) h)

/-! loop.example/g01381/impl.digitsOf: function 123 -/
def F.impl_digitsOf (a0 a1 a2 : Value) (H : Hp) (K : Value → Hp → Prop) : Prop :=
  mkS 1 8 #[(.int .i64 0)] 2 a2 a2 H fun v10x1 H2 =>
  jn (fun σ3 H3 =>
    K (σ3 7) H3) fun J3 =>
  ob (vInt .sub a2 (.int .i64 1)) fun v12x4 =>
  lpE (fun Q5 σ5 H5 =>
    ob (vInt .geq (σ5 8) (.int .i64 0)) fun v14x6 =>
    cnd v14x6
      (ob (vInt .rem (σ5 0) (σ5 1)) fun v21x7 =>
    ob (vIx 1 (σ5 7) (σ5 8)) fun v22x8 =>
    st 1 v22x8 v21x7 H5 fun H9 =>
    ob (vInt .quo (σ5 0) (σ5 1)) fun v25x10 =>
    ob (vInt .sub (σ5 8) (.int .i64 1)) fun v16x11 =>
    Q5 .normal (up (up (up (up (up (up (up (up (up (up (up (up (up (up (up σ5 13 (σ5 8)) 14 v14x6) 17 (σ5 7)) 18 (σ5 8)) 19 (σ5 0)) 20 (σ5 1)) 21 v21x7) 22 v22x8) 23 (σ5 0)) 24 (σ5 1)) 25 v25x10) 0 v25x10) 15 (σ5 8)) 16 v16x11) 8 v16x11) H9)
      (Q5 (.exit 0) (up (up σ5 13 (σ5 8)) 14 v14x6) H5)) (blkQ 0 (thenQ J3 (retQ prg [(.tmp 6)] K))) (up (up (up (up (up (up (up (S0 [a0, a1, a2]) 6 (.slice none 0 0)) 9 a2) 10 v10x1) 7 v10x1) 11 a2) 12 v12x4) 8 v12x4) H2
def O.impl_digitsOf : Nat → Nat × List Nat := fun i => (0, [])
theorem R.impl_digitsOf {a0 a1 a2 : Value} {H : Hp} {K : Value → Hp → Prop} (h : F.impl_digitsOf a0 a1 a2 H K) : HT prg I.impl_digitsOf [a0, a1, a2].toArray H K :=
  HT_of_fev O.impl_digitsOf mixed Try.func123 (by kernel_rfl) (Eq.mpr (by kernel_rfl : fev prg O.impl_digitsOf Try.f123 [a0, a1, a2] H K = F.impl_digitsOf a0 a1 a2 H K) h)

/-! loop.example/g01381/impl.plainFields: function 76 -/
def F.impl_plainFields (a0 a1 a2 : Value) (H : Hp) (K : Value → Hp → Prop) : Prop :=
  ob (vInt .mul a0 a1) fun v10x1 =>
  ob (vInt .shl (.int .i64 1) v10x1) fun v12x2 =>
  lpE (fun Q3 σ3 H3 =>
    ob (vInt .lss (σ3 13) (σ3 12)) fun v14x4 =>
    cnd v14x4
      (HT prg I.impl_digitsOf [(σ3 13), (.int .i64 2), (σ3 6)].toArray H3 fun v21x5 H6 =>
    ob (vBuild [(0, 1), (1, 1), (2, 1)] (.agg #[(.int .i64 0), (.int .i64 0), (.slice none 0 0)]) [(0, (σ3 0)), (1, (σ3 1)), (2, v21x5)]) fun v22x7 =>
    callV prg (σ3 2) [v22x7] H6 fun v23x8 H9 =>
    ob (vInt .add (σ3 13) (.int .i64 1)) fun v24x10 =>
    Q3 .normal (up (up (up (up (up (up (up (up (up (up (up (up (up σ3 14 v14x4) 15 (σ3 13)) 7 (σ3 13)) 16 (σ3 2)) 17 (σ3 0)) 18 (σ3 1)) 19 (σ3 13)) 20 (σ3 6)) 21 v21x5) 22 v22x7) 23 v23x8) 24 v24x10) 13 v24x10) H9)
      (Q3 (.exit 0) (up σ3 14 v14x4) H3)) (blkQ 0 (retQ prg [] K)) (up (up (up (up (up (up (up (S0 [a0, a1, a2]) 8 a0) 9 a1) 10 v10x1) 6 v10x1) 11 v10x1) 12 v12x2) 13 (.int .i64 0)) H
def O.impl_plainFields : Nat → Nat × List Nat := fun i => (0, [])
theorem R.impl_plainFields {a0 a1 a2 : Value} {H : Hp} {K : Value → Hp → Prop} (h : F.impl_plainFields a0 a1 a2 H K) : HT prg I.impl_plainFields [a0, a1, a2].toArray H K :=
  HT_of_fev O.impl_plainFields mixed Try.func76 (by kernel_rfl) (Eq.mpr (by kernel_rfl : fev prg O.impl_plainFields Try.f76 [a0, a1, a2] H K = F.impl_plainFields a0 a1 a2 H K) h)

/-! slices.Equal[[]int64,int64]: function 124 -/
def F.slices_Equal_int64Zint64 (a0 a1 : Value) (H : Hp) (K : Value → Hp → Prop) : Prop :=
  ob (vLenSl a0) fun v7x1 =>
  ob (vLenSl a1) fun v9x2 =>
  ob (vInt .neq v7x1 v9x2) fun v10x3 =>
  cnd v10x3
    (K (.bool false) H)
    (jn (fun σ4 H4 =>
    K (.bool true) H4) fun J4 =>
  ob (vLenSl a0) fun v12x5 =>
  lpE (fun Q6 σ6 H6 =>
    ob (vInt .lss (σ6 13) (σ6 12)) fun v14x7 =>
    cnd v14x7
      (ob (vIx 1 (σ6 0) (σ6 13)) fun v18x8 =>
    ob (vLoad v18x8 H6) fun v19x9 =>
    ob (vIx 1 (σ6 1) (σ6 13)) fun v22x10 =>
    ob (vLoad v22x10 H6) fun v23x11 =>
    ob (vInt .neq v19x9 v23x11) fun v24x12 =>
    cnd v24x12
      (Q6 .ret (up (up (up (up (up (up (up (up (up (up (up (up (up σ6 14 v14x7) 15 (σ6 13)) 5 (σ6 13)) 16 (σ6 0)) 17 (σ6 13)) 18 v18x8) 19 v19x9) 20 (σ6 1)) 21 (σ6 13)) 22 v22x10) 23 v23x11) 24 v24x12) 4 (.bool false)) H6)
      (ob (vInt .add (σ6 13) (.int .i64 1)) fun v25x13 =>
    Q6 .normal (up (up (up (up (up (up (up (up (up (up (up (up (up (up σ6 14 v14x7) 15 (σ6 13)) 5 (σ6 13)) 16 (σ6 0)) 17 (σ6 13)) 18 v18x8) 19 v19x9) 20 (σ6 1)) 21 (σ6 13)) 22 v22x10) 23 v23x11) 24 v24x12) 25 v25x13) 13 v25x13) H6))
      (Q6 (.exit 0) (up σ6 14 v14x7) H6)) (blkQ 0 (thenQ J4 (retQ prg [(.tmp 4)] K))) (up (up (up (up (up (up (up (up (up (S0 [a0, a1]) 4 (.bool false)) 6 a0) 7 v7x1) 8 a1) 9 v9x2) 10 v10x3) 11 a0) 12 v12x5) 13 (.int .i64 0)) H)
def O.slices_Equal_int64Zint64 : Nat → Nat × List Nat := fun i => bif Nat.beq i 6 then (0, [0, 1, 2, 3, 4, 5, 6, 7, 8]) else (0, [])
theorem R.slices_Equal_int64Zint64 {a0 a1 : Value} {H : Hp} {K : Value → Hp → Prop} (h : F.slices_Equal_int64Zint64 a0 a1 H K) : HT prg I.slices_Equal_int64Zint64 [a0, a1].toArray H K :=
  HT_of_fev O.slices_Equal_int64Zint64 mixed Try.func124 (by kernel_rfl) (Eq.mpr (by kernel_rfl : fev prg O.slices_Equal_int64Zint64 Try.f124 [a0, a1] H K = F.slices_Equal_int64Zint64 a0 a1 H K) h)

/-! loop.example/g01381/impl.SameField: function 78 -/
def F.impl_SameField (a0 a1 : Value) (H : Hp) (K : Value → Hp → Prop) : Prop :=
  nw (a0 : Value).cells 29 H fun v2x1 H2 =>
  nw (a1 : Value).cells 29 H2 fun v3x3 H4 =>
  ob (vFa 0 v2x1) fun v5x5 =>
  ob (vLoad v5x5 H4) fun v6x6 =>
  ob (vFa 0 v3x3) fun v7x7 =>
  ob (vLoad v7x7 H4) fun v8x8 =>
  ob (vInt .eql v6x6 v8x8) fun v9x9 =>
  gop v9x9 true (fun K10 => ob (vFa 1 v2x1) fun u => K10 u H4) H4 fun v11x11 H12 =>
  gop v9x9 true (fun K13 => ob (vLoad v11x11 H12) fun u => K13 u H12) H12 fun v12x14 H15 =>
  gop v9x9 true (fun K16 => ob (vFa 1 v3x3) fun u => K16 u H15) H15 fun v13x17 H18 =>
  gop v9x9 true (fun K19 => ob (vLoad v13x17 H18) fun u => K19 u H18) H18 fun v14x20 H21 =>
  gop v9x9 true (fun K22 => ob (vInt .eql v12x14 v14x20) fun u => K22 u H21) H21 fun v15x23 H24 =>
  ob (vPick v9x9 v15x23 (.bool false)) fun v16x25 =>
  gop v16x25 true (fun K26 => ob (vFa 2 v2x1) fun u => K26 u H24) H24 fun v18x27 H28 =>
  gop v16x25 true (fun K29 => ob (vLoad v18x27 H28) fun u => K29 u H28) H28 fun v19x30 H31 =>
  gop v16x25 true (fun K32 => ob (vFa 2 v3x3) fun u => K32 u H31) H31 fun v20x33 H34 =>
  gop v16x25 true (fun K35 => ob (vLoad v20x33 H34) fun u => K35 u H34) H34 fun v21x36 H37 =>
  gop v16x25 true (fun K38 => HT prg I.slices_Equal_int64Zint64 [v19x30, v21x36].toArray H37 K38) H37 fun v22x39 H40 =>
  ob (vPick v16x25 v22x39 (.bool false)) fun v23x41 =>
  K v23x41 H40
def O.impl_SameField : Nat → Nat × List Nat := fun i => (0, [])
theorem R.impl_SameField {a0 a1 : Value} {H : Hp} {K : Value → Hp → Prop} (h : F.impl_SameField a0 a1 H K) : HT prg I.impl_SameField [a0, a1].toArray H K :=
  HT_of_fev O.impl_SameField mixed Try.func78 (by kernel_rfl) (Eq.mpr (by kernel_rfl : fev prg O.impl_SameField Try.f78 [a0, a1] H K = F.impl_SameField a0 a1 H K) h)

/-! loop.example/g01381/impl.CountStill$1: function 77 -/
def F.impl_CountStill_1 (a0 a1 a2 : Value) (H : Hp) (K : Value → Hp → Prop) : Prop :=
  nw (a0 : Value).cells 29 H fun v3x1 H2 =>
  ob (vLoadN 2 a1 H2) fun v4x3 =>
  ob (vLoadN 3 v3x1 H2) fun v5x4 =>
  ob (vLoadN 3 v3x1 H2) fun v7x5 =>
  HT prg I.impl_Life_step [v4x3, v5x4, (.bool false)].toArray H2 fun v6x6 H7 =>
  Le H2 H7 ∧ (HT prg I.impl_SameField [v6x6, v7x5].toArray H7 fun v8x8 H9 =>
  Le H7 H9 ∧ (cnd v8x8
    (ob (vLoad a2 H9) fun v9x10 =>
    ob (vInt .add v9x10 (.int .i64 1)) fun v10x11 =>
    st 1 a2 v10x11 H9 fun H12 =>
    K (.tuple #[]) H12)
    (K (.tuple #[]) H9)))
def O.impl_CountStill_1 : Nat → Nat × List Nat := fun i => bif Nat.beq i 1 then (0, [0, 1, 3, 2, 4]) else (0, [])
theorem R.impl_CountStill_1 {a0 a1 a2 : Value} {H : Hp} {K : Value → Hp → Prop} (h : F.impl_CountStill_1 a0 a1 a2 H K) : HT prg I.impl_CountStill_1 [a0, a1, a2].toArray H K :=
  HT_of_fev O.impl_CountStill_1 mixed Try.func77 (by kernel_rfl) (Eq.mpr (by kernel_rfl : fev prg O.impl_CountStill_1 Try.f77 [a0, a1, a2] H K = F.impl_CountStill_1 a0 a1 a2 H K) h)

/-! loop.example/g01381/impl.CountStill: function 32 -/
def F.impl_CountStill (a0 a1 a2 : Value) (H : Hp) (K : Value → Hp → Prop) : Prop :=
  nw (a0 : Value).cells 32 H fun v3x1 H2 =>
  ob (vLoadN 2 v3x1 H2) fun v9x3 =>
  HT prg I.impl_ValidLife [v9x3].toArray H2 fun v10x4 H5 =>
  ob (vUn .not v10x4) fun v11x6 =>
  gop v11x6 false (fun K7 => K7 a1 H5) H5 fun v13x8 H9 =>
  gop v11x6 false (fun K10 => K10 a2 H9) H9 fun v14x11 H12 =>
  gop v11x6 false (fun K13 => HT prg I.impl_areSmall [v13x8, v14x11].toArray H12 K13) H12 fun v15x14 H15 =>
  gop v11x6 false (fun K16 => ob (vUn .not v15x14) fun u => K16 u H15) H15 fun v16x17 H18 =>
  ob (vPick v11x6 (.bool true) v16x17) fun v17x19 =>
  cnd v17x19
    (K (.tuple #[(.int .i64 0), (.bool false)]) H18)
    (nw #[(.int .i64 0)] 2 H18 fun v8x20 H21 =>
  st 1 v8x20 (.int .i64 0) H21 fun H22 =>
  HT prg I.impl_plainFields [a1, a2, (.func (.func I.impl_CountStill_1) #[] #[v3x1, v8x20])].toArray H22 fun v21x23 H24 =>
  ob (vLoad v8x20 H24) fun v22x25 =>
  K (.tuple #[v22x25, (.bool true)]) H24)
def O.impl_CountStill : Nat → Nat × List Nat := fun i => (0, [])
theorem R.impl_CountStill {a0 a1 a2 : Value} {H : Hp} {K : Value → Hp → Prop} (h : F.impl_CountStill a0 a1 a2 H K) : HT prg I.impl_CountStill [a0, a1, a2].toArray H K :=
  HT_of_fev O.impl_CountStill mixed Try.func32 (by kernel_rfl) (Eq.mpr (by kernel_rfl : fev prg O.impl_CountStill Try.f32 [a0, a1, a2] H K = F.impl_CountStill a0 a1 a2 H K) h)

/-! loop.example/g01381/laws.FnExactCountStill: function 5 -/
def F.laws_FnExactCountStill (a0 a1 a2 : Value) (H : Hp) (K : Value → Hp → Prop) : Prop :=
  nw (a0 : Value).cells 24 H fun v3x1 H2 =>
  ob (vLoadN 2 v3x1 H2) fun v13x3 =>
  HT prg I.laws_szLife [v13x3, (.int .i64 1048576)].toArray H2 fun v15x4 H5 =>
  ob (vInt .lss v15x4 (.int .i64 0)) fun v17x6 =>
  cnd v17x6
    (K (.bool true) H5)
    (ob (vLoadN 2 v3x1 H5) fun v19x7 =>
  HT prg I.laws_toLife [v19x7].toArray H5 fun v20x8 H9 =>
  HT prg I.spec_CountStill [v20x8, a1, a2].toArray H9 fun v23x10 H11 =>
  ob (vExt v23x10 0) fun v24x12 =>
  ob (vExt v23x10 1) fun v25x13 =>
  ob (vLoadN 2 v3x1 H11) fun v26x14 =>
  HT prg I.laws_toLife [v26x14].toArray H11 fun v27x15 H16 =>
  nw #[(.slice none 0 0), (.slice none 0 0)] 32 H16 fun v10x17 H18 =>
  st 2 v10x17 v27x15 H18 fun H19 =>
  ob (vLoadN 2 v10x17 H19) fun v29x20 =>
  HT prg I.impl_CountStill [v29x20, a1, a2].toArray H19 fun v32x21 H22 =>
  ob (vExt v32x21 0) fun v33x23 =>
  ob (vExt v32x21 1) fun v34x24 =>
  ob (vInt .neq v33x23 v24x12) fun v37x25 =>
  gop v37x25 false (fun K26 => K26 v34x24 H22) H22 fun v39x27 H28 =>
  gop v37x25 false (fun K29 => K29 v25x13 H28) H28 fun v40x30 H31 =>
  gop v37x25 false (fun K32 => ob (vBool .neq v39x27 v40x30) fun u => K32 u H31) H31 fun v41x33 H34 =>
  ob (vPick v37x25 (.bool true) v41x33) fun v42x35 =>
  cnd v42x35
    (K (.bool false) H34)
    (ob (vLoadN 2 v10x17 H34) fun v43x36 =>
  ob (vLoadN 2 v3x1 H34) fun v44x37 =>
  HT prg I.laws_toLife [v44x37].toArray H34 fun v45x38 H39 =>
  Le H34 H39 ∧ (HT prg I.laws_eqLife [v43x36, v45x38].toArray H39 fun v46x40 H41 =>
  Le H39 H41 ∧ (ob (vUn .not v46x40) fun v47x42 =>
  cnd v47x42
    (K (.bool false) H41)
    (K (.bool true) H41)))))
def O.laws_FnExactCountStill : Nat → Nat × List Nat := fun i => bif Nat.beq i 10 then (0, [0, 1, 2, 3, 4]) else (0, [])
theorem R.laws_FnExactCountStill {a0 a1 a2 : Value} {H : Hp} {K : Value → Hp → Prop} (h : F.laws_FnExactCountStill a0 a1 a2 H K) : HT prg I.laws_FnExactCountStill [a0, a1, a2].toArray H K :=
  HT_of_fev O.laws_FnExactCountStill mixed Try.func5 (by kernel_rfl) (Eq.mpr (by kernel_rfl : fev prg O.laws_FnExactCountStill Try.f5 [a0, a1, a2] H K = F.laws_FnExactCountStill a0 a1 a2 H K) h)

/-! loop.example/g01381/spec.l05Square: function 79 -/
def F.spec_l05Square (a0 : Value) (H : Hp) (K : Value → Hp → Prop) : Prop :=
  HT prg I.spec_l04Plain [a0].toArray H fun v4x1 H2 =>
  Le H H2 ∧ (gop v4x1 true (fun K3 => K3 a0 H2) H2 fun v6x4 H5 =>
  gop v4x1 true (fun K6 => ob (vNilC v6x4) fun u => K6 u H5) H5 fun v7x7 H8 =>
  gop v4x1 true (fun K9 => ob (vFa 0 v7x7) fun u => K9 u H8) H8 fun v8x10 H11 =>
  gop v4x1 true (fun K12 => ob (vLoad v8x10 H11) fun u => K12 u H11) H11 fun v9x13 H14 =>
  gop v4x1 true (fun K15 => K15 a0 H14) H14 fun v10x16 H17 =>
  gop v4x1 true (fun K18 => ob (vNilC v10x16) fun u => K18 u H17) H17 fun v11x19 H20 =>
  gop v4x1 true (fun K21 => ob (vFa 1 v11x19) fun u => K21 u H20) H20 fun v12x22 H23 =>
  gop v4x1 true (fun K24 => ob (vLoad v12x22 H23) fun u => K24 u H23) H23 fun v13x25 H26 =>
  gop v4x1 true (fun K27 => ob (vInt .eql v9x13 v13x25) fun u => K27 u H26) H26 fun v14x28 H29 =>
  ob (vPick v4x1 v14x28 (.bool false)) fun v15x30 =>
  gop v15x30 true (fun K31 => K31 a0 H29) H29 fun v17x32 H33 =>
  gop v15x30 true (fun K34 => ob (vNilC v17x32) fun u => K34 u H33) H33 fun v18x35 H36 =>
  gop v15x30 true (fun K37 => ob (vFa 0 v18x35) fun u => K37 u H36) H36 fun v19x38 H39 =>
  gop v15x30 true (fun K40 => ob (vLoad v19x38 H39) fun u => K40 u H39) H39 fun v20x41 H42 =>
  gop v15x30 true (fun K43 => ob (vInt .eql v20x41 (.int .i64 4)) fun u => K43 u H42) H42 fun v21x44 H45 =>
  gop v15x30 true (fun K46 => K46 v21x44 H45) H45 fun v22x47 H48 =>
  gop v22x47 false (fun K49 => K49 a0 H48) H48 fun v23x50 H51 =>
  gop v22x47 false (fun K52 => ob (vNilC v23x50) fun u => K52 u H51) H51 fun v24x53 H54 =>
  gop v22x47 false (fun K55 => ob (vFa 0 v24x53) fun u => K55 u H54) H54 fun v25x56 H57 =>
  gop v22x47 false (fun K58 => ob (vLoad v25x56 H57) fun u => K58 u H57) H57 fun v26x59 H60 =>
  gop v22x47 false (fun K61 => ob (vInt .eql v26x59 (.int .i64 8)) fun u => K61 u H60) H60 fun v27x62 H63 =>
  gop v15x30 true (fun K64 => ob (vPick v22x47 (.bool true) v27x62) fun u => K64 u H63) H63 fun v28x65 H66 =>
  gop v15x30 true (fun K67 => K67 v28x65 H66) H66 fun v29x68 H69 =>
  gop v29x68 false (fun K70 => K70 a0 H69) H69 fun v30x71 H72 =>
  gop v29x68 false (fun K73 => ob (vNilC v30x71) fun u => K73 u H72) H72 fun v31x74 H75 =>
  gop v29x68 false (fun K76 => ob (vFa 0 v31x74) fun u => K76 u H75) H75 fun v32x77 H78 =>
  gop v29x68 false (fun K79 => ob (vLoad v32x77 H78) fun u => K79 u H78) H78 fun v33x80 H81 =>
  gop v29x68 false (fun K82 => ob (vInt .eql v33x80 (.int .i64 16)) fun u => K82 u H81) H81 fun v34x83 H84 =>
  gop v15x30 true (fun K85 => ob (vPick v29x68 (.bool true) v34x83) fun u => K85 u H84) H84 fun v35x86 H87 =>
  ob (vPick v15x30 v35x86 (.bool false)) fun v36x88 =>
  K v36x88 H87)
def O.spec_l05Square : Nat → Nat × List Nat := fun i => bif Nat.beq i 1 then (0, [0, 1, 2, 3, 4, 5, 6, 7, 8, 9, 10, 11, 12, 13, 14, 15, 16, 17, 18, 19, 20, 21, 22, 23, 24, 25, 26, 27, 28, 29, 30, 31, 32, 33, 34]) else (0, [])
theorem R.spec_l05Square {a0 : Value} {H : Hp} {K : Value → Hp → Prop} (h : F.spec_l05Square a0 H K) : HT prg I.spec_l05Square [a0].toArray H K :=
  HT_of_fev O.spec_l05Square mixed Try.func79 (by kernel_rfl) (Eq.mpr (by kernel_rfl : fev prg O.spec_l05Square Try.f79 [a0] H K = F.spec_l05Square a0 H K) h)

/-! loop.example/g01381/spec.l05Cut: function 125 -/
def F.spec_l05Cut (a0 a1 a2 a3 a4 : Value) (H : Hp) (K : Value → Hp → Prop) : Prop :=
  nw #[(.int .i64 0), (.int .i64 0), (.slice none 0 0)] 29 H fun v10x1 H2 =>
  HT prg I.spec_l04New [a3, a4].toArray H2 fun v16x3 H4 =>
  nw #[(.int .i64 0), (.int .i64 0), (.slice none 0 0)] 29 H4 fun v11x5 H6 =>
  st 3 v11x5 v16x3 H6 fun H7 =>
  jn (fun σ8 H8 =>
    ob (vLoadN 3 (σ8 11) H8) fun v53x9 =>
    st 3 (σ8 10) v53x9 H8 fun H10 =>
    ob (vLoadN 3 (σ8 10) H10) fun u11 => K u11 H10) fun J8 =>
  lpE (fun Q12 σ12 H12 =>
    ob (vInt .lss (σ12 12) (σ12 3)) fun v19x13 =>
    cnd v19x13
      (jn (fun σ14 H14 =>
      ob (vInt .add (σ14 12) (.int .i64 1)) fun v21x15 =>
      Q12 .normal (up (up (up σ14 20 (σ14 12)) 21 v21x15) 12 v21x15) H14) fun J14 =>
    lpE (fun Q16 σ16 H16 =>
      ob (vInt .lss (σ16 13) (σ16 4)) fun v24x17 =>
      cnd v24x17
        (ob (vFa 2 (σ16 11)) fun v27x18 =>
      ob (vLoad v27x18 H16) fun v28x19 =>
      ob (vInt .mul (σ16 12) (σ16 4)) fun v31x20 =>
      ob (vInt .add v31x20 (σ16 13)) fun v33x21 =>
      ob (vNilC (σ16 0)) fun v35x22 =>
      ob (vFa 2 v35x22) fun v36x23 =>
      ob (vLoad v36x23 H16) fun v37x24 =>
      ob (vInt .add (σ16 1) (σ16 12)) fun v40x25 =>
      ob (vNilC (σ16 0)) fun v42x26 =>
      ob (vFa 1 v42x26) fun v43x27 =>
      ob (vLoad v43x27 H16) fun v44x28 =>
      ob (vInt .mul v40x25 v44x28) fun v45x29 =>
      ob (vInt .add v45x29 (σ16 2)) fun v47x30 =>
      ob (vInt .add v47x30 (σ16 13)) fun v49x31 =>
      ob (vIx 1 v37x24 v49x31) fun v50x32 =>
      ob (vLoad v50x32 H16) fun v51x33 =>
      ob (vIx 1 v28x19 v33x21) fun v52x34 =>
      st 1 v52x34 v51x33 H16 fun H35 =>
      ob (vInt .add (σ16 13) (.int .i64 1)) fun v26x36 =>
      Q16 .normal (up (up (up (up (up (up (up (up (up (up (up (up (up (up (up (up (up (up (up (up (up (up (up (up (up (up (up (up (up (up (up (up σ16 22 (σ16 13)) 23 (σ16 4)) 24 v24x17) 27 v27x18) 28 v28x19) 29 (σ16 12)) 30 (σ16 4)) 31 v31x20) 32 (σ16 13)) 33 v33x21) 34 (σ16 0)) 35 v35x22) 36 v36x23) 37 v37x24) 38 (σ16 1)) 39 (σ16 12)) 40 v40x25) 41 (σ16 0)) 42 v42x26) 43 v43x27) 44 v44x28) 45 v45x29) 46 (σ16 2)) 47 v47x30) 48 (σ16 13)) 49 v49x31) 50 v50x32) 51 v51x33) 52 v52x34) 25 (σ16 13)) 26 v26x36) 13 v26x36) H35)
        (Q16 (.exit 2) (up (up (up σ16 22 (σ16 13)) 23 (σ16 4)) 24 v24x17) H16)) (blkQ 2 (blkQ 1 (thenQ J14 Q12))) (up (up (up (up σ12 17 (σ12 12)) 18 (σ12 3)) 19 v19x13) 13 (.int .i64 0)) H12)
      (Q12 (.exit 0) (up (up (up σ12 17 (σ12 12)) 18 (σ12 3)) 19 v19x13) H12)) (blkQ 0 (thenQ J8 (retQ prg [(.cell 10 29)] K))) (up (up (up (up (up (up (S0 [a0, a1, a2, a3, a4]) 10 v10x1) 14 a3) 15 a4) 16 v16x3) 11 v11x5) 12 (.int .i64 0)) H7
def O.spec_l05Cut : Nat → Nat × List Nat := fun i => bif Nat.beq i 8 then (0, [0, 1, 2, 3, 4, 5, 6, 7, 8, 9, 10, 11, 12, 13, 14, 15, 16, 17, 18, 19, 20, 21, 22, 23, 24, 25, 26]) else (0, [])
theorem R.spec_l05Cut {a0 a1 a2 a3 a4 : Value} {H : Hp} {K : Value → Hp → Prop} (h : F.spec_l05Cut a0 a1 a2 a3 a4 H K) : HT prg I.spec_l05Cut [a0, a1, a2, a3, a4].toArray H K :=
  HT_of_fev O.spec_l05Cut mixed Try.func125 (by kernel_rfl) (Eq.mpr (by kernel_rfl : fev prg O.spec_l05Cut Try.f125 [a0, a1, a2, a3, a4] H K = F.spec_l05Cut a0 a1 a2 a3 a4 H K) h)

/-! loop.example/g01381/spec.l05Inner: function 80 -/
def F.spec_l05Inner (a0 a1 : Value) (H : Hp) (K : Value → Hp → Prop) : Prop :=
  nw #[(.int .i64 0), (.int .i64 0), (.slice none 0 0)] 29 H fun v4x1 H2 =>
  HT prg I.spec_l04Step [a0, a1].toArray H2 fun v8x3 H4 =>
  nw #[(.int .i64 0), (.int .i64 0), (.slice none 0 0)] 29 H4 fun v5x5 H6 =>
  st 3 v5x5 v8x3 H6 fun H7 =>
  ob (vNilC a1) fun v10x8 =>
  ob (vFa 0 v10x8) fun v11x9 =>
  ob (vLoad v11x9 H7) fun v12x10 =>
  ob (vInt .sub v12x10 (.int .i64 2)) fun v13x11 =>
  ob (vNilC a1) fun v15x12 =>
  ob (vFa 1 v15x12) fun v16x13 =>
  ob (vLoad v16x13 H7) fun v17x14 =>
  ob (vInt .sub v17x14 (.int .i64 2)) fun v18x15 =>
  HT prg I.spec_l05Cut [v5x5, (.int .i64 1), (.int .i64 1), v13x11, v18x15].toArray H7 fun v19x16 H17 =>
  Le H7 H17 ∧ (st 3 v4x1 v19x16 H17 fun H18 =>
  ob (vLoadN 3 v4x1 H18) fun u19 => K u19 H18)
def O.spec_l05Inner : Nat → Nat × List Nat := fun i => bif Nat.beq i 2 then (0, [0, 1, 2, 3, 4, 5, 6, 7, 8, 9, 10, 11]) else (0, [])
theorem R.spec_l05Inner {a0 a1 : Value} {H : Hp} {K : Value → Hp → Prop} (h : F.spec_l05Inner a0 a1 H K) : HT prg I.spec_l05Inner [a0, a1].toArray H K :=
  HT_of_fev O.spec_l05Inner mixed Try.func80 (by kernel_rfl) (Eq.mpr (by kernel_rfl : fev prg O.spec_l05Inner Try.f80 [a0, a1] H K = F.spec_l05Inner a0 a1 H K) h)

/-! loop.example/g01381/spec.InnerStep: function 33 -/
def F.spec_InnerStep (a0 a1 : Value) (H : Hp) (K : Value → Hp → Prop) : Prop :=
  nw (a0 : Value).cells 32 H fun v2x1 H2 =>
  nw (a1 : Value).cells 29 H2 fun v3x3 H4 =>
  nw #[(.int .i64 0), (.int .i64 0), (.slice none 0 0)] 29 H4 fun v4x5 H6 =>
  HT prg I.spec_l04Life [v2x1].toArray H6 fun v6x7 H8 =>
  ob (vUn .not v6x7) fun v7x9 =>
  gop v7x9 false (fun K10 => HT prg I.spec_l05Square [v3x3].toArray H8 K10) H8 fun v9x11 H12 =>
  gop v7x9 false (fun K13 => ob (vUn .not v9x11) fun u => K13 u H12) H12 fun v10x14 H15 =>
  ob (vPick v7x9 (.bool true) v10x14) fun v11x16 =>
  cnd v11x16
    (ob (vBuild [(0, 1), (1, 1), (2, 1)] (.agg #[(.int .i64 0), (.int .i64 0), (.slice none 0 0)]) []) fun v12x17 =>
    st 3 v4x5 v12x17 H15 fun H18 =>
    ob (vLoadN 3 v4x5 H18) fun u19 => K (.tuple #[u19, (.bool false)]) H18)
    (HT prg I.spec_l05Inner [v2x1, v3x3].toArray H15 fun v13x20 H21 =>
  st 3 v4x5 v13x20 H21 fun H22 =>
  ob (vLoadN 3 v4x5 H22) fun u23 => K (.tuple #[u23, (.bool true)]) H22)
def O.spec_InnerStep : Nat → Nat × List Nat := fun i => (0, [])
theorem R.spec_InnerStep {a0 a1 : Value} {H : Hp} {K : Value → Hp → Prop} (h : F.spec_InnerStep a0 a1 H K) : HT prg I.spec_InnerStep [a0, a1].toArray H K :=
  HT_of_fev O.spec_InnerStep mixed Try.func33 (by kernel_rfl) (Eq.mpr (by kernel_rfl : fev prg O.spec_InnerStep Try.f33 [a0, a1] H K = F.spec_InnerStep a0 a1 H K) h)

/-! loop.example/g01381/impl.isSquare: function 81 -/
def F.impl_isSquare (a0 : Value) (H : Hp) (K : Value → Hp → Prop) : Prop :=
  nw (a0 : Value).cells 29 H fun v1x1 H2 =>
  ob (vLoadN 3 v1x1 H2) fun v3x3 =>
  HT prg I.impl_isPlain [v3x3].toArray H2 fun v4x4 H5 =>
  gop v4x4 true (fun K6 => ob (vFa 0 v1x1) fun u => K6 u H5) H5 fun v6x7 H8 =>
  gop v4x4 true (fun K9 => ob (vLoad v6x7 H8) fun u => K9 u H8) H8 fun v7x10 H11 =>
  gop v4x4 true (fun K12 => ob (vFa 1 v1x1) fun u => K12 u H11) H11 fun v8x13 H14 =>
  gop v4x4 true (fun K15 => ob (vLoad v8x13 H14) fun u => K15 u H14) H14 fun v9x16 H17 =>
  gop v4x4 true (fun K18 => ob (vInt .eql v7x10 v9x16) fun u => K18 u H17) H17 fun v10x19 H20 =>
  ob (vPick v4x4 v10x19 (.bool false)) fun v11x21 =>
  gop v11x21 true (fun K22 => ob (vFa 0 v1x1) fun u => K22 u H20) H20 fun v13x23 H24 =>
  gop v11x21 true (fun K25 => ob (vLoad v13x23 H24) fun u => K25 u H24) H24 fun v14x26 H27 =>
  gop v11x21 true (fun K28 => ob (vInt .eql v14x26 (.int .i64 4)) fun u => K28 u H27) H27 fun v15x29 H30 =>
  gop v11x21 true (fun K31 => K31 v15x29 H30) H30 fun v16x32 H33 =>
  gop v16x32 false (fun K34 => ob (vFa 0 v1x1) fun u => K34 u H33) H33 fun v17x35 H36 =>
  gop v16x32 false (fun K37 => ob (vLoad v17x35 H36) fun u => K37 u H36) H36 fun v18x38 H39 =>
  gop v16x32 false (fun K40 => ob (vInt .eql v18x38 (.int .i64 8)) fun u => K40 u H39) H39 fun v19x41 H42 =>
  gop v11x21 true (fun K43 => ob (vPick v16x32 (.bool true) v19x41) fun u => K43 u H42) H42 fun v20x44 H45 =>
  gop v11x21 true (fun K46 => K46 v20x44 H45) H45 fun v21x47 H48 =>
  gop v21x47 false (fun K49 => ob (vFa 0 v1x1) fun u => K49 u H48) H48 fun v22x50 H51 =>
  gop v21x47 false (fun K52 => ob (vLoad v22x50 H51) fun u => K52 u H51) H51 fun v23x53 H54 =>
  gop v21x47 false (fun K55 => ob (vInt .eql v23x53 (.int .i64 16)) fun u => K55 u H54) H54 fun v24x56 H57 =>
  gop v11x21 true (fun K58 => ob (vPick v21x47 (.bool true) v24x56) fun u => K58 u H57) H57 fun v25x59 H60 =>
  ob (vPick v11x21 v25x59 (.bool false)) fun v26x61 =>
  K v26x61 H60
def O.impl_isSquare : Nat → Nat × List Nat := fun i => (0, [])
theorem R.impl_isSquare {a0 : Value} {H : Hp} {K : Value → Hp → Prop} (h : F.impl_isSquare a0 H K) : HT prg I.impl_isSquare [a0].toArray H K :=
  HT_of_fev O.impl_isSquare mixed Try.func81 (by kernel_rfl) (Eq.mpr (by kernel_rfl : fev prg O.impl_isSquare Try.f81 [a0] H K = F.impl_isSquare a0 H K) h)

/-! (loop.example/g01381/impl.Field).cut$1: function 144 -/
def F.impl_Field_cut_1 (a0 a1 a2 a3 a4 : Value) (H : Hp) (K : Value → Hp → Prop) : Prop :=
  ob (vLoadN 3 a2 H) fun v8x1 =>
  ob (vLoad a3 H) fun v9x2 =>
  ob (vInt .add v9x2 a0) fun v11x3 =>
  ob (vLoad a4 H) fun v12x4 =>
  ob (vInt .add v12x4 a1) fun v14x5 =>
  HT prg I.impl_Field_at [v8x1, v11x3, v14x5].toArray H fun v15x6 H7 =>
  K v15x6 H7
def O.impl_Field_cut_1 : Nat → Nat × List Nat := fun i => (0, [])
theorem R.impl_Field_cut_1 {a0 a1 a2 a3 a4 : Value} {H : Hp} {K : Value → Hp → Prop} (h : F.impl_Field_cut_1 a0 a1 a2 a3 a4 H K) : HT prg I.impl_Field_cut_1 [a0, a1, a2, a3, a4].toArray H K :=
  HT_of_fev O.impl_Field_cut_1 mixed Try.func144 (by kernel_rfl) (Eq.mpr (by kernel_rfl : fev prg O.impl_Field_cut_1 Try.f144 [a0, a1, a2, a3, a4] H K = F.impl_Field_cut_1 a0 a1 a2 a3 a4 H K) h)

/-! (loop.example/g01381/impl.Field).cut: function 126 -/
def F.impl_Field_cut (a0 a1 a2 a3 a4 : Value) (H : Hp) (K : Value → Hp → Prop) : Prop :=
  nw (a0 : Value).cells 29 H fun v5x1 H2 =>
  nw (a1 : Value).cells 2 H2 fun v6x3 H4 =>
  nw (a2 : Value).cells 2 H4 fun v7x5 H6 =>
  nw #[(.int .i64 0), (.int .i64 0), (.slice none 0 0)] 29 H6 fun v10x7 H8 =>
  HT prg I.impl_madeField [a3, a4, (.func (.func I.impl_Field_cut_1) #[] #[v5x1, v6x3, v7x5])].toArray H8 fun v14x9 H10 =>
  st 3 v10x7 v14x9 H10 fun H11 =>
  ob (vLoadN 3 v10x7 H11) fun u12 => K u12 H11
def O.impl_Field_cut : Nat → Nat × List Nat := fun i => (0, [])
theorem R.impl_Field_cut {a0 a1 a2 a3 a4 : Value} {H : Hp} {K : Value → Hp → Prop} (h : F.impl_Field_cut a0 a1 a2 a3 a4 H K) : HT prg I.impl_Field_cut [a0, a1, a2, a3, a4].toArray H K :=
  HT_of_fev O.impl_Field_cut mixed Try.func126 (by kernel_rfl) (Eq.mpr (by kernel_rfl : fev prg O.impl_Field_cut Try.f126 [a0, a1, a2, a3, a4] H K = F.impl_Field_cut a0 a1 a2 a3 a4 H K) h)

/-! (loop.example/g01381/impl.Life).inner: function 82 -/
def F.impl_Life_inner (a0 a1 : Value) (H : Hp) (K : Value → Hp → Prop) : Prop :=
  nw (a0 : Value).cells 32 H fun v2x1 H2 =>
  nw (a1 : Value).cells 29 H2 fun v3x3 H4 =>
  nw #[(.int .i64 0), (.int .i64 0), (.slice none 0 0)] 29 H4 fun v4x5 H6 =>
  ob (vLoadN 2 v2x1 H6) fun v5x7 =>
  ob (vLoadN 3 v3x3 H6) fun v6x8 =>
  ob (vFa 0 v3x3) fun v8x9 =>
  ob (vLoad v8x9 H6) fun v9x10 =>
  ob (vInt .sub v9x10 (.int .i64 2)) fun v10x11 =>
  ob (vFa 1 v3x3) fun v11x12 =>
  ob (vLoad v11x12 H6) fun v12x13 =>
  ob (vInt .sub v12x13 (.int .i64 2)) fun v13x14 =>
  HT prg I.impl_Life_step [v5x7, v6x8, (.bool false)].toArray H6 fun v7x15 H16 =>
  Le H6 H16 ∧ (HT prg I.impl_Field_cut [v7x15, (.int .i64 1), (.int .i64 1), v10x11, v13x14].toArray H16 fun v14x17 H18 =>
  Le H16 H18 ∧ (st 3 v4x5 v14x17 H18 fun H19 =>
  ob (vLoadN 3 v4x5 H19) fun u20 => K u20 H19))
def O.impl_Life_inner : Nat → Nat × List Nat := fun i => bif Nat.beq i 1 then (0, [0, 1, 3, 4, 5, 6, 7, 8, 2, 9, 10]) else (0, [])
theorem R.impl_Life_inner {a0 a1 : Value} {H : Hp} {K : Value → Hp → Prop} (h : F.impl_Life_inner a0 a1 H K) : HT prg I.impl_Life_inner [a0, a1].toArray H K :=
  HT_of_fev O.impl_Life_inner mixed Try.func82 (by kernel_rfl) (Eq.mpr (by kernel_rfl : fev prg O.impl_Life_inner Try.f82 [a0, a1] H K = F.impl_Life_inner a0 a1 H K) h)

/-! loop.example/g01381/impl.InnerStep: function 34 -/
def F.impl_InnerStep (a0 a1 : Value) (H : Hp) (K : Value → Hp → Prop) : Prop :=
  nw (a0 : Value).cells 32 H fun v2x1 H2 =>
  nw (a1 : Value).cells 29 H2 fun v3x3 H4 =>
  nw #[(.int .i64 0), (.int .i64 0), (.slice none 0 0)] 29 H4 fun v4x5 H6 =>
  ob (vLoadN 2 v2x1 H6) fun v6x7 =>
  HT prg I.impl_ValidLife [v6x7].toArray H6 fun v7x8 H9 =>
  ob (vUn .not v7x8) fun v8x10 =>
  gop v8x10 false (fun K11 => ob (vLoadN 3 v3x3 H9) fun u => K11 u H9) H9 fun v10x12 H13 =>
  gop v8x10 false (fun K14 => HT prg I.impl_isSquare [v10x12].toArray H13 K14) H13 fun v11x15 H16 =>
  gop v8x10 false (fun K17 => ob (vUn .not v11x15) fun u => K17 u H16) H16 fun v12x18 H19 =>
  ob (vPick v8x10 (.bool true) v12x18) fun v13x20 =>
  cnd v13x20
    (ob (vBuild [(0, 1), (1, 1), (2, 1)] (.agg #[(.int .i64 0), (.int .i64 0), (.slice none 0 0)]) []) fun v14x21 =>
    st 3 v4x5 v14x21 H19 fun H22 =>
    ob (vLoadN 3 v4x5 H22) fun u23 => K (.tuple #[u23, (.bool false)]) H22)
    (ob (vLoadN 2 v2x1 H19) fun v15x24 =>
  ob (vLoadN 3 v3x3 H19) fun v16x25 =>
  HT prg I.impl_Life_inner [v15x24, v16x25].toArray H19 fun v17x26 H27 =>
  st 3 v4x5 v17x26 H27 fun H28 =>
  ob (vLoadN 3 v4x5 H28) fun u29 => K (.tuple #[u29, (.bool true)]) H28)
def O.impl_InnerStep : Nat → Nat × List Nat := fun i => (0, [])
theorem R.impl_InnerStep {a0 a1 : Value} {H : Hp} {K : Value → Hp → Prop} (h : F.impl_InnerStep a0 a1 H K) : HT prg I.impl_InnerStep [a0, a1].toArray H K :=
  HT_of_fev O.impl_InnerStep mixed Try.func34 (by kernel_rfl) (Eq.mpr (by kernel_rfl : fev prg O.impl_InnerStep Try.f34 [a0, a1] H K = F.impl_InnerStep a0 a1 H K) h)

/-! loop.example/g01381/laws.FnExactInnerStep: function 6 -/
def F.laws_FnExactInnerStep (a0 a1 : Value) (H : Hp) (K : Value → Hp → Prop) : Prop :=
  nw (a0 : Value).cells 24 H fun v2x1 H2 =>
  nw (a1 : Value).cells 26 H2 fun v3x3 H4 =>
  ob (vLoadN 2 v2x1 H4) fun v17x5 =>
  HT prg I.laws_szLife [v17x5, (.int .i64 1048576)].toArray H4 fun v19x6 H7 =>
  ob (vInt .lss v19x6 (.int .i64 0)) fun v21x8 =>
  cnd v21x8
    (K (.bool true) H7)
    (ob (vLoadN 3 v3x3 H7) fun v22x9 =>
  HT prg I.laws_szField [v22x9, v19x6].toArray H7 fun v24x10 H11 =>
  ob (vInt .lss v24x10 (.int .i64 0)) fun v26x12 =>
  cnd v26x12
    (K (.bool true) H11)
    (ob (vLoadN 2 v2x1 H11) fun v28x13 =>
  ob (vLoadN 3 v3x3 H11) fun v30x14 =>
  HT prg I.laws_toLife [v28x13].toArray H11 fun v29x15 H16 =>
  Le H11 H16 ∧ (HT prg I.laws_toField [v30x14].toArray H16 fun v31x17 H18 =>
  Le H16 H18 ∧ (HT prg I.spec_InnerStep [v29x15, v31x17].toArray H18 fun v32x19 H20 =>
  Le H18 H20 ∧ (ob (vExt v32x19 0) fun v33x21 =>
  ob (vExt v32x19 1) fun v34x22 =>
  nw #[(.int .i64 0), (.int .i64 0), (.slice none 0 0)] 29 H20 fun v6x23 H24 =>
  st 3 v6x23 v33x21 H24 fun H25 =>
  ob (vLoadN 2 v2x1 H25) fun v35x26 =>
  HT prg I.laws_toLife [v35x26].toArray H25 fun v36x27 H28 =>
  nw #[(.slice none 0 0), (.slice none 0 0)] 32 H28 fun v8x29 H30 =>
  st 2 v8x29 v36x27 H30 fun H31 =>
  ob (vLoadN 3 v3x3 H31) fun v37x32 =>
  HT prg I.laws_toField [v37x32].toArray H31 fun v38x33 H34 =>
  nw #[(.int .i64 0), (.int .i64 0), (.slice none 0 0)] 29 H34 fun v9x35 H36 =>
  st 3 v9x35 v38x33 H36 fun H37 =>
  ob (vLoadN 2 v8x29 H37) fun v40x38 =>
  ob (vLoadN 3 v9x35 H37) fun v41x39 =>
  HT prg I.impl_InnerStep [v40x38, v41x39].toArray H37 fun v42x40 H41 =>
  ob (vExt v42x40 0) fun v43x42 =>
  ob (vExt v42x40 1) fun v44x43 =>
  nw #[(.int .i64 0), (.int .i64 0), (.slice none 0 0)] 29 H41 fun v10x44 H45 =>
  st 3 v10x44 v43x42 H45 fun H46 =>
  ob (vLoadN 3 v10x44 H46) fun v45x47 =>
  ob (vLoadN 3 v6x23 H46) fun v46x48 =>
  HT prg I.laws_eqField [v45x47, v46x48].toArray H46 fun v47x49 H50 =>
  ob (vUn .not v47x49) fun v48x51 =>
  gop v48x51 false (fun K52 => K52 v44x43 H50) H50 fun v50x53 H54 =>
  gop v48x51 false (fun K55 => K55 v34x22 H54) H54 fun v51x56 H57 =>
  gop v48x51 false (fun K58 => ob (vBool .neq v50x53 v51x56) fun u => K58 u H57) H57 fun v52x59 H60 =>
  ob (vPick v48x51 (.bool true) v52x59) fun v53x61 =>
  cnd v53x61
    (K (.bool false) H60)
    (ob (vLoadN 2 v8x29 H60) fun v54x62 =>
  ob (vLoadN 2 v2x1 H60) fun v55x63 =>
  HT prg I.laws_toLife [v55x63].toArray H60 fun v56x64 H65 =>
  Le H60 H65 ∧ (HT prg I.laws_eqLife [v54x62, v56x64].toArray H65 fun v57x66 H67 =>
  Le H65 H67 ∧ (ob (vUn .not v57x66) fun v58x68 =>
  cnd v58x68
    (K (.bool false) H67)
    (ob (vLoadN 3 v9x35 H67) fun v59x69 =>
  ob (vLoadN 3 v3x3 H67) fun v60x70 =>
  HT prg I.laws_toField [v60x70].toArray H67 fun v61x71 H72 =>
  Le H67 H72 ∧ (HT prg I.laws_eqField [v59x69, v61x71].toArray H72 fun v62x73 H74 =>
  Le H72 H74 ∧ (ob (vUn .not v62x73) fun v63x75 =>
  cnd v63x75
    (K (.bool false) H74)
    (ob (vLoadN 2 v8x29 H74) fun v64x76 =>
  HT prg I.laws_markLife [v64x76, (.int .i64 1)].toArray H74 fun v66x77 H78 =>
  ob (vLoadN 3 v9x35 H78) fun v67x79 =>
  HT prg I.laws_markField [v67x79, v66x77].toArray H78 fun v69x80 H81 =>
  ob (vInt .lss v69x80 (.int .i64 0)) fun v71x82 =>
  gop v71x82 false (fun K83 => ob (vLoadN 3 v10x44 H81) fun u => K83 u H81) H81 fun v73x84 H85 =>
  gop v71x82 false (fun K86 => ob (vLoadN 3 v6x23 H85) fun u => K86 u H85) H85 fun v74x87 H88 =>
  gop v71x82 false (fun K89 => HT prg I.laws_eqField [v73x84, v74x87].toArray H88 K89) H88 fun v75x90 H91 =>
  gop v71x82 false (fun K92 => ob (vUn .not v75x90) fun u => K92 u H91) H91 fun v76x93 H94 =>
  ob (vPick v71x82 (.bool true) v76x93) fun v77x95 =>
  gop v77x95 false (fun K96 => K96 v44x43 H94) H94 fun v79x97 H98 =>
  gop v77x95 false (fun K99 => K99 v34x22 H98) H98 fun v80x100 H101 =>
  gop v77x95 false (fun K102 => ob (vBool .neq v79x97 v80x100) fun u => K102 u H101) H101 fun v81x103 H104 =>
  ob (vPick v77x95 (.bool true) v81x103) fun v82x105 =>
  cnd v82x105
    (K (.bool false) H104)
    (ob (vLoadN 3 v10x44 H104) fun v83x106 =>
  HT prg I.laws_markField [v83x106, (.int .i64 1)].toArray H104 fun v85x107 H108 =>
  ob (vLoadN 3 v10x44 H108) fun v86x109 =>
  HT prg I.laws_heldField [v86x109, (.int .i64 1)].toArray H108 fun v88x110 H111 =>
  ob (vInt .lss v88x110 (.int .i64 0)) fun v90x112 =>
  cnd v90x112
    (K (.bool false) H111)
    (ob (vInt .neq v88x110 v85x107) fun v93x113 =>
  cnd v93x113
    (K (.bool false) H111)
    (ob (vLoadN 2 v2x1 H111) fun v95x114 =>
  ob (vLoadN 3 v3x3 H111) fun v97x115 =>
  HT prg I.laws_toLife [v95x114].toArray H111 fun v96x116 H117 =>
  Le H111 H117 ∧ (HT prg I.laws_toField [v97x115].toArray H117 fun v98x118 H119 =>
  Le H117 H119 ∧ (HT prg I.impl_InnerStep [v96x116, v98x118].toArray H119 fun v99x120 H121 =>
  Le H119 H121 ∧ (ob (vExt v99x120 0) fun v100x122 =>
  ob (vExt v99x120 1) fun v101x123 =>
  nw #[(.int .i64 0), (.int .i64 0), (.slice none 0 0)] 29 H121 fun v15x124 H125 =>
  st 3 v15x124 v100x122 H125 fun H126 =>
  ob (vLoadN 3 v15x124 H126) fun v102x127 =>
  ob (vLoadN 3 v6x23 H126) fun v103x128 =>
  HT prg I.laws_eqField [v102x127, v103x128].toArray H126 fun v104x129 H130 =>
  ob (vUn .not v104x129) fun v105x131 =>
  gop v105x131 false (fun K132 => K132 v101x123 H130) H130 fun v107x133 H134 =>
  gop v105x131 false (fun K135 => K135 v34x22 H134) H134 fun v108x136 H137 =>
  gop v105x131 false (fun K138 => ob (vBool .neq v107x133 v108x136) fun u => K138 u H137) H137 fun v109x139 H140 =>
  ob (vPick v105x131 (.bool true) v109x139) fun v110x141 =>
  cnd v110x141
    (K (.bool false) H140)
    (ob (vLoadN 3 v10x44 H140) fun v111x142 =>
  HT prg I.laws_heldField [v111x142, (.int .i64 1)].toArray H140 fun v113x143 H144 =>
  ob (vInt .lss v113x143 (.int .i64 0)) fun v115x145 =>
  cnd v115x145
    (K (.bool false) H144)
    (ob (vInt .neq v113x143 v85x107) fun v118x146 =>
  cnd v118x146
    (K (.bool false) H144)
    (K (.bool true) H144)))))))))))))))))))))
def O.laws_FnExactInnerStep : Nat → Nat × List Nat := fun i => bif Nat.beq i 8 then (0, [0, 2, 1, 3, 4, 5, 6, 7, 8, 9, 10]) else bif Nat.beq i 14 then (0, [0, 1, 2, 3, 4]) else bif Nat.beq i 16 then (0, [0, 1, 2, 3, 4]) else bif Nat.beq i 31 then (0, [0, 2, 1, 3, 4, 5, 6, 7, 8, 9, 10]) else (0, [])
theorem R.laws_FnExactInnerStep {a0 a1 : Value} {H : Hp} {K : Value → Hp → Prop} (h : F.laws_FnExactInnerStep a0 a1 H K) : HT prg I.laws_FnExactInnerStep [a0, a1].toArray H K :=
  HT_of_fev O.laws_FnExactInnerStep mixed Try.func6 (by kernel_rfl) (Eq.mpr (by kernel_rfl : fev prg O.laws_FnExactInnerStep Try.f6 [a0, a1] H K = F.laws_FnExactInnerStep a0 a1 H K) h)

/-! loop.example/g01381/spec.l05Put: function 127 -/
def F.spec_l05Put (a0 a1 a2 a3 : Value) (H : Hp) (K : Value → Hp → Prop) : Prop :=
  lpE (fun Q1 σ1 H1 =>
    ob (vNilC (σ1 1)) fun v12x2 =>
    ob (vFa 0 v12x2) fun v13x3 =>
    ob (vLoad v13x3 H1) fun v14x4 =>
    ob (vInt .lss (σ1 8) v14x4) fun v15x5 =>
    cnd v15x5
      (jn (fun σ6 H6 =>
      ob (vInt .add (σ6 8) (.int .i64 1)) fun v17x7 =>
      Q1 .normal (up (up (up σ6 16 (σ6 8)) 17 v17x7) 8 v17x7) H6) fun J6 =>
    lpE (fun Q8 σ8 H8 =>
      ob (vNilC (σ8 1)) fun v20x9 =>
      ob (vFa 1 v20x9) fun v21x10 =>
      ob (vLoad v21x10 H8) fun v22x11 =>
      ob (vInt .lss (σ8 9) v22x11) fun v23x12 =>
      cnd v23x12
        (ob (vNilC (σ8 0)) fun v27x13 =>
      ob (vFa 2 v27x13) fun v28x14 =>
      ob (vLoad v28x14 H8) fun v29x15 =>
      ob (vInt .add (σ8 2) (σ8 8)) fun v32x16 =>
      ob (vNilC (σ8 0)) fun v34x17 =>
      ob (vFa 1 v34x17) fun v35x18 =>
      ob (vLoad v35x18 H8) fun v36x19 =>
      ob (vInt .mul v32x16 v36x19) fun v37x20 =>
      ob (vInt .add v37x20 (σ8 3)) fun v39x21 =>
      ob (vInt .add v39x21 (σ8 9)) fun v41x22 =>
      ob (vNilC (σ8 1)) fun v43x23 =>
      ob (vFa 2 v43x23) fun v44x24 =>
      ob (vLoad v44x24 H8) fun v45x25 =>
      ob (vNilC (σ8 1)) fun v48x26 =>
      ob (vFa 1 v48x26) fun v49x27 =>
      ob (vLoad v49x27 H8) fun v50x28 =>
      ob (vInt .mul (σ8 8) v50x28) fun v51x29 =>
      ob (vInt .add v51x29 (σ8 9)) fun v53x30 =>
      ob (vIx 1 v45x25 v53x30) fun v54x31 =>
      ob (vLoad v54x31 H8) fun v55x32 =>
      ob (vIx 1 v29x15 v41x22) fun v56x33 =>
      st 1 v56x33 v55x32 H8 fun H34 =>
      ob (vInt .add (σ8 9) (.int .i64 1)) fun v25x35 =>
      Q8 .normal (up (up (up (up (up (up (up (up (up (up (up (up (up (up (up (up (up (up (up (up (up (up (up (up (up (up (up (up (up (up (up (up (up (up (up (up (up (up (up (up σ8 18 (σ8 9)) 19 (σ8 1)) 20 v20x9) 21 v21x10) 22 v22x11) 23 v23x12) 26 (σ8 0)) 27 v27x13) 28 v28x14) 29 v29x15) 30 (σ8 2)) 31 (σ8 8)) 32 v32x16) 33 (σ8 0)) 34 v34x17) 35 v35x18) 36 v36x19) 37 v37x20) 38 (σ8 3)) 39 v39x21) 40 (σ8 9)) 41 v41x22) 42 (σ8 1)) 43 v43x23) 44 v44x24) 45 v45x25) 46 (σ8 8)) 47 (σ8 1)) 48 v48x26) 49 v49x27) 50 v50x28) 51 v51x29) 52 (σ8 9)) 53 v53x30) 54 v54x31) 55 v55x32) 56 v56x33) 24 (σ8 9)) 25 v25x35) 9 v25x35) H34)
        (Q8 (.exit 2) (up (up (up (up (up (up σ8 18 (σ8 9)) 19 (σ8 1)) 20 v20x9) 21 v21x10) 22 v22x11) 23 v23x12) H8)) (blkQ 2 (blkQ 1 (thenQ J6 Q1))) (up (up (up (up (up (up (up σ1 10 (σ1 8)) 11 (σ1 1)) 12 v12x2) 13 v13x3) 14 v14x4) 15 v15x5) 9 (.int .i64 0)) H1)
      (Q1 (.exit 0) (up (up (up (up (up (up σ1 10 (σ1 8)) 11 (σ1 1)) 12 v12x2) 13 v13x3) 14 v14x4) 15 v15x5) H1)) (blkQ 0 (retQ prg [] K)) (up (S0 [a0, a1, a2, a3]) 8 (.int .i64 0)) H
def O.spec_l05Put : Nat → Nat × List Nat := fun i => bif Nat.beq i 6 then (0, [0, 1, 2, 3, 4, 5, 6, 7, 8, 9, 10, 11, 12, 13, 14, 15, 16, 17, 18, 19, 20, 21, 22, 23, 24, 25, 26, 27, 28, 29, 30, 31]) else (0, [])
theorem R.spec_l05Put {a0 a1 a2 a3 : Value} {H : Hp} {K : Value → Hp → Prop} (h : F.spec_l05Put a0 a1 a2 a3 H K) : HT prg I.spec_l05Put [a0, a1, a2, a3].toArray H K :=
  HT_of_fev O.spec_l05Put mixed Try.func127 (by kernel_rfl) (Eq.mpr (by kernel_rfl : fev prg O.spec_l05Put Try.f127 [a0, a1, a2, a3] H K = F.spec_l05Put a0 a1 a2 a3 H K) h)

/-! loop.example/g01381/spec.l05Far: function 83 -/
def F.spec_l05Far (a0 a1 : Value) (H : Hp) (K : Value → Hp → Prop) : Prop :=
  nw #[(.int .i64 0), (.int .i64 0), (.slice none 0 0)] 29 H fun v4x1 H2 =>
  ob (vNilC a1) fun v16x3 =>
  ob (vFa 0 v16x3) fun v17x4 =>
  ob (vLoad v17x4 H2) fun v18x5 =>
  ob (vInt .eql v18x5 (.int .i64 4)) fun v20x6 =>
  cnd v20x6
    (HT prg I.spec_l05Inner [a0, a1].toArray H2 fun v23x7 H8 =>
    st 3 v4x1 v23x7 H8 fun H9 =>
    ob (vLoadN 3 v4x1 H9) fun u10 => K u10 H9)
    (ob (vInt .quo v18x5 (.int .i64 4)) fun v25x11 =>
  ob (vInt .mul (.int .i64 3) v25x11) fun v27x12 =>
  ob (vInt .mul (.int .i64 3) v25x11) fun v29x13 =>
  HT prg I.spec_l04New [v27x12, v29x13].toArray H2 fun v30x14 H15 =>
  nw #[(.int .i64 0), (.int .i64 0), (.slice none 0 0)] 29 H15 fun v7x16 H17 =>
  st 3 v7x16 v30x14 H17 fun H18 =>
  jn (fun σ19 H19 =>
    ob (vInt .quo (σ19 5) (.int .i64 2)) fun v61x20 =>
    ob (vInt .quo (σ19 5) (.int .i64 2)) fun v63x21 =>
    HT prg I.spec_l04New [v61x20, v63x21].toArray H19 fun v64x22 H23 =>
    nw #[(.int .i64 0), (.int .i64 0), (.slice none 0 0)] 29 H23 fun v11x24 H25 =>
    st 3 v11x24 v64x22 H25 fun H26 =>
    jn (fun σ27 H27 =>
      ob (vLoadN 3 (σ27 11) H27) fun v93x28 =>
      st 3 (σ27 4) v93x28 H27 fun H29 =>
      ob (vLoadN 3 (σ27 4) H29) fun u30 => K u30 H29) fun J27 =>
    lpE (fun Q31 σ31 H31 =>
      ob (vInt .lss (σ31 12) (.int .i64 2)) fun v66x32 =>
      cnd v66x32
        (jn (fun σ33 H33 =>
        ob (vInt .add (σ33 12) (.int .i64 1)) fun v68x34 =>
        Q31 .normal (up (up (up σ33 67 (σ33 12)) 68 v68x34) 12 v68x34) H33) fun J33 =>
      lpE (fun Q35 σ35 H35 =>
        ob (vInt .lss (σ35 13) (.int .i64 2)) fun v70x36 =>
        cnd v70x36
          (ob (vInt .mul (σ35 12) (σ35 6)) fun v75x37 =>
        ob (vInt .mul (σ35 13) (σ35 6)) fun v78x38 =>
        ob (vInt .quo (σ35 5) (.int .i64 2)) fun v80x39 =>
        ob (vInt .quo (σ35 5) (.int .i64 2)) fun v82x40 =>
        HT prg I.spec_l05Cut [(σ35 7), v75x37, v78x38, v80x39, v82x40].toArray H35 fun v83x41 H42 =>
        nw #[(.int .i64 0), (.int .i64 0), (.slice none 0 0)] 29 H42 fun v14x43 H44 =>
        st 3 v14x43 v83x41 H44 fun H45 =>
        HT prg I.spec_l05Far [(σ35 0), v14x43].toArray H45 fun v85x46 H47 =>
        st 3 v14x43 v85x46 H47 fun H48 =>
        ob (vInt .mul (σ35 12) (σ35 6)) fun v88x49 =>
        ob (vInt .mul (σ35 13) (σ35 6)) fun v91x50 =>
        HT prg I.spec_l05Put [(σ35 11), v14x43, v88x49, v91x50].toArray H48 fun v92x51 H52 =>
        ob (vInt .add (σ35 13) (.int .i64 1)) fun v72x53 =>
        Q35 .normal (up (up (up (up (up (up (up (up (up (up (up (up (up (up (up (up (up (up (up (up (up (up (up (up (up (up σ35 69 (σ35 13)) 70 v70x36) 73 (σ35 12)) 74 (σ35 6)) 75 v75x37) 76 (σ35 13)) 77 (σ35 6)) 78 v78x38) 79 (σ35 5)) 80 v80x39) 81 (σ35 5)) 82 v82x40) 83 v83x41) 14 v14x43) 84 (σ35 0)) 85 v85x46) 86 (σ35 12)) 87 (σ35 6)) 88 v88x49) 89 (σ35 13)) 90 (σ35 6)) 91 v91x50) 92 v92x51) 71 (σ35 13)) 72 v72x53) 13 v72x53) H52)
          (Q35 (.exit 6) (up (up σ35 69 (σ35 13)) 70 v70x36) H35)) (blkQ 6 (blkQ 5 (thenQ J33 Q31))) (up (up (up σ31 65 (σ31 12)) 66 v66x32) 13 (.int .i64 0)) H31)
        (Q31 (.exit 4) (up (up σ31 65 (σ31 12)) 66 v66x32) H31)) (blkQ 4 (thenQ J27 (retQ prg [(.cell 4 29)] K))) (up (up (up (up (up (up (up σ19 60 (σ19 5)) 61 v61x20) 62 (σ19 5)) 63 v63x21) 64 v64x22) 11 v11x24) 12 (.int .i64 0)) H26) fun J19 =>
  lpE (fun Q54 σ54 H54 =>
    ob (vInt .lss (σ54 8) (.int .i64 3)) fun v32x55 =>
    cnd v32x55
      (jn (fun σ56 H56 =>
      ob (vInt .add (σ56 8) (.int .i64 1)) fun v34x57 =>
      Q54 .normal (up (up (up σ56 33 (σ56 8)) 34 v34x57) 8 v34x57) H56) fun J56 =>
    lpE (fun Q58 σ58 H58 =>
      ob (vInt .lss (σ58 9) (.int .i64 3)) fun v36x59 =>
      cnd v36x59
        (ob (vInt .mul (σ58 8) (σ58 6)) fun v42x60 =>
      ob (vInt .mul (σ58 9) (σ58 6)) fun v45x61 =>
      ob (vInt .quo (σ58 5) (.int .i64 2)) fun v47x62 =>
      ob (vInt .quo (σ58 5) (.int .i64 2)) fun v49x63 =>
      HT prg I.spec_l05Cut [(σ58 1), v42x60, v45x61, v47x62, v49x63].toArray H58 fun v50x64 H65 =>
      nw #[(.int .i64 0), (.int .i64 0), (.slice none 0 0)] 29 H65 fun v10x66 H67 =>
      st 3 v10x66 v50x64 H67 fun H68 =>
      HT prg I.spec_l05Far [(σ58 0), v10x66].toArray H68 fun v52x69 H70 =>
      st 3 v10x66 v52x69 H70 fun H71 =>
      ob (vInt .mul (σ58 8) (σ58 6)) fun v55x72 =>
      ob (vInt .mul (σ58 9) (σ58 6)) fun v58x73 =>
      HT prg I.spec_l05Put [(σ58 7), v10x66, v55x72, v58x73].toArray H71 fun v59x74 H75 =>
      ob (vInt .add (σ58 9) (.int .i64 1)) fun v38x76 =>
      Q58 .normal (up (up (up (up (up (up (up (up (up (up (up (up (up (up (up (up (up (up (up (up (up (up (up (up (up (up (up σ58 35 (σ58 9)) 36 v36x59) 39 (σ58 1)) 40 (σ58 8)) 41 (σ58 6)) 42 v42x60) 43 (σ58 9)) 44 (σ58 6)) 45 v45x61) 46 (σ58 5)) 47 v47x62) 48 (σ58 5)) 49 v49x63) 50 v50x64) 10 v10x66) 51 (σ58 0)) 52 v52x69) 53 (σ58 8)) 54 (σ58 6)) 55 v55x72) 56 (σ58 9)) 57 (σ58 6)) 58 v58x73) 59 v59x74) 37 (σ58 9)) 38 v38x76) 9 v38x76) H75)
        (Q58 (.exit 2) (up (up σ58 35 (σ58 9)) 36 v36x59) H58)) (blkQ 2 (blkQ 1 (thenQ J56 Q54))) (up (up (up σ54 31 (σ54 8)) 32 v32x55) 9 (.int .i64 0)) H54)
      (Q54 (.exit 0) (up (up σ54 31 (σ54 8)) 32 v32x55) H54)) (blkQ 0 (thenQ J19 (retQ prg [(.cell 4 29)] K))) (up (up (up (up (up (up (up (up (up (up (up (up (up (up (up (up (up (up (S0 [a0, a1]) 4 v4x1) 15 a1) 16 v16x3) 17 v17x4) 18 v18x5) 5 v18x5) 19 v18x5) 20 v20x6) 24 v18x5) 25 v25x11) 6 v25x11) 26 v25x11) 27 v27x12) 28 v25x11) 29 v29x13) 30 v30x14) 7 v7x16) 8 (.int .i64 0)) H18)
def O.spec_l05Far : Nat → Nat × List Nat := fun i => (0, [])
theorem R.spec_l05Far {a0 a1 : Value} {H : Hp} {K : Value → Hp → Prop} (h : F.spec_l05Far a0 a1 H K) : HT prg I.spec_l05Far [a0, a1].toArray H K :=
  HT_of_fev O.spec_l05Far mixed Try.func83 (by kernel_rfl) (Eq.mpr (by kernel_rfl : fev prg O.spec_l05Far Try.f83 [a0, a1] H K = F.spec_l05Far a0 a1 H K) h)

/-! loop.example/g01381/spec.InnerLife: function 35 -/
def F.spec_InnerLife (a0 a1 : Value) (H : Hp) (K : Value → Hp → Prop) : Prop :=
  nw (a0 : Value).cells 32 H fun v2x1 H2 =>
  nw (a1 : Value).cells 29 H2 fun v3x3 H4 =>
  nw #[(.int .i64 0), (.int .i64 0), (.slice none 0 0)] 29 H4 fun v4x5 H6 =>
  HT prg I.spec_l04Life [v2x1].toArray H6 fun v6x7 H8 =>
  ob (vUn .not v6x7) fun v7x9 =>
  gop v7x9 false (fun K10 => HT prg I.spec_l05Square [v3x3].toArray H8 K10) H8 fun v9x11 H12 =>
  gop v7x9 false (fun K13 => ob (vUn .not v9x11) fun u => K13 u H12) H12 fun v10x14 H15 =>
  ob (vPick v7x9 (.bool true) v10x14) fun v11x16 =>
  cnd v11x16
    (ob (vBuild [(0, 1), (1, 1), (2, 1)] (.agg #[(.int .i64 0), (.int .i64 0), (.slice none 0 0)]) []) fun v12x17 =>
    st 3 v4x5 v12x17 H15 fun H18 =>
    ob (vLoadN 3 v4x5 H18) fun u19 => K (.tuple #[u19, (.bool false)]) H18)
    (HT prg I.spec_l05Far [v2x1, v3x3].toArray H15 fun v13x20 H21 =>
  st 3 v4x5 v13x20 H21 fun H22 =>
  ob (vLoadN 3 v4x5 H22) fun u23 => K (.tuple #[u23, (.bool true)]) H22)
def O.spec_InnerLife : Nat → Nat × List Nat := fun i => (0, [])
theorem R.spec_InnerLife {a0 a1 : Value} {H : Hp} {K : Value → Hp → Prop} (h : F.spec_InnerLife a0 a1 H K) : HT prg I.spec_InnerLife [a0, a1].toArray H K :=
  HT_of_fev O.spec_InnerLife mixed Try.func35 (by kernel_rfl) (Eq.mpr (by kernel_rfl : fev prg O.spec_InnerLife Try.f35 [a0, a1] H K = F.spec_InnerLife a0 a1 H K) h)

/-! loop.example/g01381/impl.InnerLife: function 36 -/
def F.impl_InnerLife (a0 a1 : Value) (H : Hp) (K : Value → Hp → Prop) : Prop :=
  nw (a0 : Value).cells 32 H fun v2x1 H2 =>
  nw (a1 : Value).cells 29 H2 fun v3x3 H4 =>
  nw #[(.int .i64 0), (.int .i64 0), (.slice none 0 0)] 29 H4 fun v4x5 H6 =>
  ob (vLoadN 2 v2x1 H6) fun v7x7 =>
  HT prg I.impl_ValidLife [v7x7].toArray H6 fun v8x8 H9 =>
  ob (vUn .not v8x8) fun v9x10 =>
  gop v9x10 false (fun K11 => ob (vLoadN 3 v3x3 H9) fun u => K11 u H9) H9 fun v11x12 H13 =>
  gop v9x10 false (fun K14 => HT prg I.impl_isSquare [v11x12].toArray H13 K14) H13 fun v12x15 H16 =>
  gop v9x10 false (fun K17 => ob (vUn .not v12x15) fun u => K17 u H16) H16 fun v13x18 H19 =>
  ob (vPick v9x10 (.bool true) v13x18) fun v14x20 =>
  cnd v14x20
    (ob (vBuild [(0, 1), (1, 1), (2, 1)] (.agg #[(.int .i64 0), (.int .i64 0), (.slice none 0 0)]) []) fun v15x21 =>
    st 3 v4x5 v15x21 H19 fun H22 =>
    ob (vLoadN 3 v4x5 H22) fun u23 => K (.tuple #[u23, (.bool false)]) H22)
    (ob (vLoadN 3 v3x3 H19) fun v16x24 =>
  nw #[(.int .i64 0), (.int .i64 0), (.slice none 0 0)] 29 H19 fun v6x25 H26 =>
  st 3 v6x25 v16x24 H26 fun H27 =>
  jn (fun σ28 H28 =>
    ob (vLoadN 3 (σ28 6) H28) fun v26x29 =>
    st 3 (σ28 4) v26x29 H28 fun H30 =>
    ob (vLoadN 3 (σ28 4) H30) fun u31 => K (.tuple #[u31, (.bool true)]) H30) fun J28 =>
  ob (vFa 0 v3x3) fun v17x32 =>
  ob (vLoad v17x32 H27) fun v18x33 =>
  ob (vInt .quo v18x33 (.int .i64 4)) fun v19x34 =>
  lpE (fun Q35 σ35 H35 =>
    ob (vInt .lss (σ35 20) (σ35 19)) fun v21x36 =>
    cnd v21x36
      (ob (vLoadN 2 (σ35 2) H35) fun v22x37 =>
    ob (vLoadN 3 (σ35 6) H35) fun v23x38 =>
    HT prg I.impl_Life_inner [v22x37, v23x38].toArray H35 fun v24x39 H40 =>
    st 3 (σ35 6) v24x39 H40 fun H41 =>
    ob (vInt .add (σ35 20) (.int .i64 1)) fun v25x42 =>
    Q35 .normal (up (up (up (up (up (up σ35 21 v21x36) 22 v22x37) 23 v23x38) 24 v24x39) 25 v25x42) 20 v25x42) H41)
      (Q35 (.exit 0) (up σ35 21 v21x36) H35)) (blkQ 0 (thenQ J28 (retQ prg [(.cell 4 29), (.tmp 5)] K))) (up (up (up (up (up (up (up (up (up (up (up (up (up (up (up (up (up (up (S0 [a0, a1]) 2 v2x1) 3 v3x3) 4 v4x5) 5 (.bool false)) 7 v7x7) 8 v8x8) 9 v9x10) 10 v9x10) 11 v11x12) 12 v12x15) 13 v13x18) 14 v14x20) 16 v16x24) 6 v6x25) 17 v17x32) 18 v18x33) 19 v19x34) 20 (.int .i64 0)) H27)
def O.impl_InnerLife : Nat → Nat × List Nat := fun i => (0, [])
theorem R.impl_InnerLife {a0 a1 : Value} {H : Hp} {K : Value → Hp → Prop} (h : F.impl_InnerLife a0 a1 H K) : HT prg I.impl_InnerLife [a0, a1].toArray H K :=
  HT_of_fev O.impl_InnerLife mixed Try.func36 (by kernel_rfl) (Eq.mpr (by kernel_rfl : fev prg O.impl_InnerLife Try.f36 [a0, a1] H K = F.impl_InnerLife a0 a1 H K) h)

/-! loop.example/g01381/laws.FnExactInnerLife: function 7 -/
def F.laws_FnExactInnerLife (a0 a1 : Value) (H : Hp) (K : Value → Hp → Prop) : Prop :=
  nw (a0 : Value).cells 24 H fun v2x1 H2 =>
  nw (a1 : Value).cells 26 H2 fun v3x3 H4 =>
  ob (vLoadN 2 v2x1 H4) fun v17x5 =>
  HT prg I.laws_szLife [v17x5, (.int .i64 1048576)].toArray H4 fun v19x6 H7 =>
  ob (vInt .lss v19x6 (.int .i64 0)) fun v21x8 =>
  cnd v21x8
    (K (.bool true) H7)
    (ob (vLoadN 3 v3x3 H7) fun v22x9 =>
  HT prg I.laws_szField [v22x9, v19x6].toArray H7 fun v24x10 H11 =>
  ob (vInt .lss v24x10 (.int .i64 0)) fun v26x12 =>
  cnd v26x12
    (K (.bool true) H11)
    (ob (vLoadN 2 v2x1 H11) fun v28x13 =>
  ob (vLoadN 3 v3x3 H11) fun v30x14 =>
  HT prg I.laws_toLife [v28x13].toArray H11 fun v29x15 H16 =>
  Le H11 H16 ∧ (HT prg I.laws_toField [v30x14].toArray H16 fun v31x17 H18 =>
  Le H16 H18 ∧ (HT prg I.spec_InnerLife [v29x15, v31x17].toArray H18 fun v32x19 H20 =>
  Le H18 H20 ∧ (ob (vExt v32x19 0) fun v33x21 =>
  ob (vExt v32x19 1) fun v34x22 =>
  nw #[(.int .i64 0), (.int .i64 0), (.slice none 0 0)] 29 H20 fun v6x23 H24 =>
  st 3 v6x23 v33x21 H24 fun H25 =>
  ob (vLoadN 2 v2x1 H25) fun v35x26 =>
  HT prg I.laws_toLife [v35x26].toArray H25 fun v36x27 H28 =>
  nw #[(.slice none 0 0), (.slice none 0 0)] 32 H28 fun v8x29 H30 =>
  st 2 v8x29 v36x27 H30 fun H31 =>
  ob (vLoadN 3 v3x3 H31) fun v37x32 =>
  HT prg I.laws_toField [v37x32].toArray H31 fun v38x33 H34 =>
  nw #[(.int .i64 0), (.int .i64 0), (.slice none 0 0)] 29 H34 fun v9x35 H36 =>
  st 3 v9x35 v38x33 H36 fun H37 =>
  ob (vLoadN 2 v8x29 H37) fun v40x38 =>
  ob (vLoadN 3 v9x35 H37) fun v41x39 =>
  HT prg I.impl_InnerLife [v40x38, v41x39].toArray H37 fun v42x40 H41 =>
  ob (vExt v42x40 0) fun v43x42 =>
  ob (vExt v42x40 1) fun v44x43 =>
  nw #[(.int .i64 0), (.int .i64 0), (.slice none 0 0)] 29 H41 fun v10x44 H45 =>
  st 3 v10x44 v43x42 H45 fun H46 =>
  ob (vLoadN 3 v10x44 H46) fun v45x47 =>
  ob (vLoadN 3 v6x23 H46) fun v46x48 =>
  HT prg I.laws_eqField [v45x47, v46x48].toArray H46 fun v47x49 H50 =>
  ob (vUn .not v47x49) fun v48x51 =>
  gop v48x51 false (fun K52 => K52 v44x43 H50) H50 fun v50x53 H54 =>
  gop v48x51 false (fun K55 => K55 v34x22 H54) H54 fun v51x56 H57 =>
  gop v48x51 false (fun K58 => ob (vBool .neq v50x53 v51x56) fun u => K58 u H57) H57 fun v52x59 H60 =>
  ob (vPick v48x51 (.bool true) v52x59) fun v53x61 =>
  cnd v53x61
    (K (.bool false) H60)
    (ob (vLoadN 2 v8x29 H60) fun v54x62 =>
  ob (vLoadN 2 v2x1 H60) fun v55x63 =>
  HT prg I.laws_toLife [v55x63].toArray H60 fun v56x64 H65 =>
  Le H60 H65 ∧ (HT prg I.laws_eqLife [v54x62, v56x64].toArray H65 fun v57x66 H67 =>
  Le H65 H67 ∧ (ob (vUn .not v57x66) fun v58x68 =>
  cnd v58x68
    (K (.bool false) H67)
    (ob (vLoadN 3 v9x35 H67) fun v59x69 =>
  ob (vLoadN 3 v3x3 H67) fun v60x70 =>
  HT prg I.laws_toField [v60x70].toArray H67 fun v61x71 H72 =>
  Le H67 H72 ∧ (HT prg I.laws_eqField [v59x69, v61x71].toArray H72 fun v62x73 H74 =>
  Le H72 H74 ∧ (ob (vUn .not v62x73) fun v63x75 =>
  cnd v63x75
    (K (.bool false) H74)
    (ob (vLoadN 2 v8x29 H74) fun v64x76 =>
  HT prg I.laws_markLife [v64x76, (.int .i64 1)].toArray H74 fun v66x77 H78 =>
  ob (vLoadN 3 v9x35 H78) fun v67x79 =>
  HT prg I.laws_markField [v67x79, v66x77].toArray H78 fun v69x80 H81 =>
  ob (vInt .lss v69x80 (.int .i64 0)) fun v71x82 =>
  gop v71x82 false (fun K83 => ob (vLoadN 3 v10x44 H81) fun u => K83 u H81) H81 fun v73x84 H85 =>
  gop v71x82 false (fun K86 => ob (vLoadN 3 v6x23 H85) fun u => K86 u H85) H85 fun v74x87 H88 =>
  gop v71x82 false (fun K89 => HT prg I.laws_eqField [v73x84, v74x87].toArray H88 K89) H88 fun v75x90 H91 =>
  gop v71x82 false (fun K92 => ob (vUn .not v75x90) fun u => K92 u H91) H91 fun v76x93 H94 =>
  ob (vPick v71x82 (.bool true) v76x93) fun v77x95 =>
  gop v77x95 false (fun K96 => K96 v44x43 H94) H94 fun v79x97 H98 =>
  gop v77x95 false (fun K99 => K99 v34x22 H98) H98 fun v80x100 H101 =>
  gop v77x95 false (fun K102 => ob (vBool .neq v79x97 v80x100) fun u => K102 u H101) H101 fun v81x103 H104 =>
  ob (vPick v77x95 (.bool true) v81x103) fun v82x105 =>
  cnd v82x105
    (K (.bool false) H104)
    (ob (vLoadN 3 v10x44 H104) fun v83x106 =>
  HT prg I.laws_markField [v83x106, (.int .i64 1)].toArray H104 fun v85x107 H108 =>
  ob (vLoadN 3 v10x44 H108) fun v86x109 =>
  HT prg I.laws_heldField [v86x109, (.int .i64 1)].toArray H108 fun v88x110 H111 =>
  ob (vInt .lss v88x110 (.int .i64 0)) fun v90x112 =>
  cnd v90x112
    (K (.bool false) H111)
    (ob (vInt .neq v88x110 v85x107) fun v93x113 =>
  cnd v93x113
    (K (.bool false) H111)
    (ob (vLoadN 2 v2x1 H111) fun v95x114 =>
  ob (vLoadN 3 v3x3 H111) fun v97x115 =>
  HT prg I.laws_toLife [v95x114].toArray H111 fun v96x116 H117 =>
  Le H111 H117 ∧ (HT prg I.laws_toField [v97x115].toArray H117 fun v98x118 H119 =>
  Le H117 H119 ∧ (HT prg I.impl_InnerLife [v96x116, v98x118].toArray H119 fun v99x120 H121 =>
  Le H119 H121 ∧ (ob (vExt v99x120 0) fun v100x122 =>
  ob (vExt v99x120 1) fun v101x123 =>
  nw #[(.int .i64 0), (.int .i64 0), (.slice none 0 0)] 29 H121 fun v15x124 H125 =>
  st 3 v15x124 v100x122 H125 fun H126 =>
  ob (vLoadN 3 v15x124 H126) fun v102x127 =>
  ob (vLoadN 3 v6x23 H126) fun v103x128 =>
  HT prg I.laws_eqField [v102x127, v103x128].toArray H126 fun v104x129 H130 =>
  ob (vUn .not v104x129) fun v105x131 =>
  gop v105x131 false (fun K132 => K132 v101x123 H130) H130 fun v107x133 H134 =>
  gop v105x131 false (fun K135 => K135 v34x22 H134) H134 fun v108x136 H137 =>
  gop v105x131 false (fun K138 => ob (vBool .neq v107x133 v108x136) fun u => K138 u H137) H137 fun v109x139 H140 =>
  ob (vPick v105x131 (.bool true) v109x139) fun v110x141 =>
  cnd v110x141
    (K (.bool false) H140)
    (ob (vLoadN 3 v10x44 H140) fun v111x142 =>
  HT prg I.laws_heldField [v111x142, (.int .i64 1)].toArray H140 fun v113x143 H144 =>
  ob (vInt .lss v113x143 (.int .i64 0)) fun v115x145 =>
  cnd v115x145
    (K (.bool false) H144)
    (ob (vInt .neq v113x143 v85x107) fun v118x146 =>
  cnd v118x146
    (K (.bool false) H144)
    (K (.bool true) H144)))))))))))))))))))))
def O.laws_FnExactInnerLife : Nat → Nat × List Nat := fun i => bif Nat.beq i 8 then (0, [0, 2, 1, 3, 4, 5, 6, 7, 8, 9, 10]) else bif Nat.beq i 14 then (0, [0, 1, 2, 3, 4]) else bif Nat.beq i 16 then (0, [0, 1, 2, 3, 4]) else bif Nat.beq i 31 then (0, [0, 2, 1, 3, 4, 5, 6, 7, 8, 9, 10]) else (0, [])
theorem R.laws_FnExactInnerLife {a0 a1 : Value} {H : Hp} {K : Value → Hp → Prop} (h : F.laws_FnExactInnerLife a0 a1 H K) : HT prg I.laws_FnExactInnerLife [a0, a1].toArray H K :=
  HT_of_fev O.laws_FnExactInnerLife mixed Try.func7 (by kernel_rfl) (Eq.mpr (by kernel_rfl : fev prg O.laws_FnExactInnerLife Try.f7 [a0, a1] H K = F.laws_FnExactInnerLife a0 a1 H K) h)

/-! loop.example/g01381/spec.CountBefore: function 37 -/
def F.spec_CountBefore (a0 a1 : Value) (H : Hp) (K : Value → Hp → Prop) : Prop :=
  nw (a0 : Value).cells 32 H fun v2x1 H2 =>
  nw (a1 : Value).cells 29 H2 fun v3x3 H4 =>
  HT prg I.spec_l04Can [v2x1, v3x3].toArray H4 fun v9x5 H6 =>
  ob (vUn .not v9x5) fun v10x7 =>
  gop v10x7 false (fun K8 => ob (vFa 0 v3x3) fun u => K8 u H6) H6 fun v12x9 H10 =>
  gop v10x7 false (fun K11 => ob (vLoad v12x9 H10) fun u => K11 u H10) H10 fun v13x12 H13 =>
  gop v10x7 false (fun K14 => ob (vFa 1 v3x3) fun u => K14 u H13) H13 fun v14x15 H16 =>
  gop v10x7 false (fun K17 => ob (vLoad v14x15 H16) fun u => K17 u H16) H16 fun v15x18 H19 =>
  gop v10x7 false (fun K20 => HT prg I.spec_l05Small [v13x12, v15x18].toArray H19 K20) H19 fun v16x21 H22 =>
  gop v10x7 false (fun K23 => ob (vUn .not v16x21) fun u => K23 u H22) H22 fun v17x24 H25 =>
  ob (vPick v10x7 (.bool true) v17x24) fun v18x26 =>
  cnd v18x26
    (K (.tuple #[(.int .i64 0), (.bool false)]) H25)
    (jn (fun σ27 H27 =>
    K (.tuple #[(σ27 6), (.bool true)]) H27) fun J27 =>
  lpE (fun Q28 σ28 H28 =>
    ob (vFa 2 (σ28 3)) fun v20x29 =>
    ob (vLoad v20x29 H28) fun v21x30 =>
    ob (vLenSl v21x30) fun v22x31 =>
    ob (vCI .u64 v22x31) fun v23x32 =>
    ob (vInt .shl (.int .i64 1) v23x32) fun v24x33 =>
    ob (vInt .lss (σ28 7) v24x33) fun v25x34 =>
    cnd v25x34
      (ob (vFa 0 (σ28 3)) fun v29x35 =>
    ob (vLoad v29x35 H28) fun v30x36 =>
    ob (vFa 1 (σ28 3)) fun v31x37 =>
    ob (vLoad v31x37 H28) fun v32x38 =>
    HT prg I.spec_l05Of [(σ28 7), v30x36, v32x38].toArray H28 fun v33x39 H40 =>
    nw #[(.int .i64 0), (.int .i64 0), (.slice none 0 0)] 29 H40 fun v8x41 H42 =>
    st 3 v8x41 v33x39 H42 fun H43 =>
    HT prg I.spec_l04Step [(σ28 2), v8x41].toArray H43 fun v34x44 H45 =>
    st 3 v8x41 v34x44 H45 fun H46 =>
    HT prg I.spec_l04Same [v8x41, (σ28 3)].toArray H46 fun v35x47 H48 =>
    cnd v35x47
      (ob (vInt .add (σ28 6) (.int .i64 1)) fun v37x49 =>
      ob (vInt .add (σ28 7) (.int .i64 1)) fun v27x50 =>
    Q28 .normal (up (up (up (up (up (up (up (up (up (up (up (up (up (up (up (up (up (up (up (up (up (up σ28 19 (σ28 7)) 20 v20x29) 21 v21x30) 22 v22x31) 23 v23x32) 24 v24x33) 25 v25x34) 28 (σ28 7)) 29 v29x35) 30 v30x36) 31 v31x37) 32 v32x38) 33 v33x39) 8 v8x41) 34 v34x44) 35 v35x47) 36 (σ28 6)) 37 v37x49) 6 v37x49) 26 (σ28 7)) 27 v27x50) 7 v27x50) H48)
      (ob (vInt .add (σ28 7) (.int .i64 1)) fun v27x51 =>
    Q28 .normal (up (up (up (up (up (up (up (up (up (up (up (up (up (up (up (up (up (up (up σ28 19 (σ28 7)) 20 v20x29) 21 v21x30) 22 v22x31) 23 v23x32) 24 v24x33) 25 v25x34) 28 (σ28 7)) 29 v29x35) 30 v30x36) 31 v31x37) 32 v32x38) 33 v33x39) 8 v8x41) 34 v34x44) 35 v35x47) 26 (σ28 7)) 27 v27x51) 7 v27x51) H48))
      (Q28 (.exit 0) (up (up (up (up (up (up (up σ28 19 (σ28 7)) 20 v20x29) 21 v21x30) 22 v22x31) 23 v23x32) 24 v24x33) 25 v25x34) H28)) (blkQ 0 (thenQ J27 (retQ prg [(.tmp 4), (.tmp 5)] K))) (up (up (up (up (up (up (up (up (up (up (up (up (up (up (up (up (S0 [a0, a1]) 2 v2x1) 3 v3x3) 4 (.int .i64 0)) 5 (.bool false)) 9 v9x5) 10 v10x7) 11 v10x7) 12 v12x9) 13 v13x12) 14 v14x15) 15 v15x18) 16 v16x21) 17 v17x24) 18 v18x26) 6 (.int .i64 0)) 7 (.int .i64 0)) H25)
def O.spec_CountBefore : Nat → Nat × List Nat := fun i => (0, [])
theorem R.spec_CountBefore {a0 a1 : Value} {H : Hp} {K : Value → Hp → Prop} (h : F.spec_CountBefore a0 a1 H K) : HT prg I.spec_CountBefore [a0, a1].toArray H K :=
  HT_of_fev O.spec_CountBefore mixed Try.func37 (by kernel_rfl) (Eq.mpr (by kernel_rfl : fev prg O.spec_CountBefore Try.f37 [a0, a1] H K = F.spec_CountBefore a0 a1 H K) h)

/-! loop.example/g01381/impl.before$1: function 128 -/
def F.impl_before_1 (a0 a1 a2 a3 : Value) (H : Hp) (K : Value → Hp → Prop) : Prop :=
  nw (a0 : Value).cells 29 H fun v4x1 H2 =>
  ob (vLoadN 2 a1 H2) fun v5x3 =>
  ob (vLoadN 3 v4x1 H2) fun v6x4 =>
  ob (vLoadN 3 a2 H2) fun v8x5 =>
  HT prg I.impl_Life_step [v5x3, v6x4, (.bool false)].toArray H2 fun v7x6 H7 =>
  Le H2 H7 ∧ (HT prg I.impl_SameField [v7x6, v8x5].toArray H7 fun v9x8 H9 =>
  Le H7 H9 ∧ (cnd v9x8
    (ob (vLoad a3 H9) fun v10x10 =>
    ob (vLoadN 3 v4x1 H9) fun v11x11 =>
    callV prg v10x10 [v11x11] H9 fun v12x12 H13 =>
    K (.tuple #[]) H13)
    (K (.tuple #[]) H9)))
def O.impl_before_1 : Nat → Nat × List Nat := fun i => bif Nat.beq i 1 then (0, [0, 1, 3, 2, 4]) else (0, [])
theorem R.impl_before_1 {a0 a1 a2 a3 : Value} {H : Hp} {K : Value → Hp → Prop} (h : F.impl_before_1 a0 a1 a2 a3 H K) : HT prg I.impl_before_1 [a0, a1, a2, a3].toArray H K :=
  HT_of_fev O.impl_before_1 mixed Try.func128 (by kernel_rfl) (Eq.mpr (by kernel_rfl : fev prg O.impl_before_1 Try.f128 [a0, a1, a2, a3] H K = F.impl_before_1 a0 a1 a2 a3 H K) h)

/-! loop.example/g01381/impl.before: function 84 -/
def F.impl_before (a0 a1 a2 : Value) (H : Hp) (K : Value → Hp → Prop) : Prop :=
  nw (a0 : Value).cells 32 H fun v3x1 H2 =>
  nw (a1 : Value).cells 29 H2 fun v4x3 H4 =>
  nw (a2 : Value).cells 88 H4 fun v5x5 H6 =>
  ob (vLoadN 2 v3x1 H6) fun v7x7 =>
  ob (vLoadN 3 v4x3 H6) fun v8x8 =>
  bS 3 1 #[(.int .i64 0), (.int .i64 0), (.slice none 0 0)] 29 [(0, v8x8)] H6 fun v9x9 H10 =>
  HT prg I.impl_lives [v7x7, v9x9].toArray H10 fun v10x11 H12 =>
  ob (vUn .not v10x11) fun v11x13 =>
  gop v11x13 false (fun K14 => ob (vFa 0 v4x3) fun u => K14 u H12) H12 fun v13x15 H16 =>
  gop v11x13 false (fun K17 => ob (vLoad v13x15 H16) fun u => K17 u H16) H16 fun v14x18 H19 =>
  gop v11x13 false (fun K20 => ob (vFa 1 v4x3) fun u => K20 u H19) H19 fun v15x21 H22 =>
  gop v11x13 false (fun K23 => ob (vLoad v15x21 H22) fun u => K23 u H22) H22 fun v16x24 H25 =>
  gop v11x13 false (fun K26 => HT prg I.impl_areSmall [v14x18, v16x24].toArray H25 K26) H25 fun v17x27 H28 =>
  gop v11x13 false (fun K29 => ob (vUn .not v17x27) fun u => K29 u H28) H28 fun v18x30 H31 =>
  ob (vPick v11x13 (.bool true) v18x30) fun v19x32 =>
  cnd v19x32
    (K (.bool false) H31)
    (ob (vFa 0 v4x3) fun v20x33 =>
  ob (vLoad v20x33 H31) fun v21x34 =>
  ob (vFa 1 v4x3) fun v22x35 =>
  ob (vLoad v22x35 H31) fun v23x36 =>
  HT prg I.impl_plainFields [v21x34, v23x36, (.func (.func I.impl_before_1) #[] #[v3x1, v4x3, v5x5])].toArray H31 fun v25x37 H38 =>
  K (.bool true) H38)
def O.impl_before : Nat → Nat × List Nat := fun i => (0, [])
theorem R.impl_before {a0 a1 a2 : Value} {H : Hp} {K : Value → Hp → Prop} (h : F.impl_before a0 a1 a2 H K) : HT prg I.impl_before [a0, a1, a2].toArray H K :=
  HT_of_fev O.impl_before mixed Try.func84 (by kernel_rfl) (Eq.mpr (by kernel_rfl : fev prg O.impl_before Try.f84 [a0, a1, a2] H K = F.impl_before a0 a1 a2 H K) h)

/-! loop.example/g01381/impl.CountBefore$1: function 85 -/
def F.impl_CountBefore_1 (a0 a1 : Value) (H : Hp) (K : Value → Hp → Prop) : Prop :=
  nw (a0 : Value).cells 29 H fun v2x1 H2 =>
  ob (vLoad a1 H2) fun v3x3 =>
  ob (vInt .add v3x3 (.int .i64 1)) fun v4x4 =>
  st 1 a1 v4x4 H2 fun H5 =>
  K (.tuple #[]) H5
def O.impl_CountBefore_1 : Nat → Nat × List Nat := fun i => (0, [])
theorem R.impl_CountBefore_1 {a0 a1 : Value} {H : Hp} {K : Value → Hp → Prop} (h : F.impl_CountBefore_1 a0 a1 H K) : HT prg I.impl_CountBefore_1 [a0, a1].toArray H K :=
  HT_of_fev O.impl_CountBefore_1 mixed Try.func85 (by kernel_rfl) (Eq.mpr (by kernel_rfl : fev prg O.impl_CountBefore_1 Try.f85 [a0, a1] H K = F.impl_CountBefore_1 a0 a1 H K) h)

/-! loop.example/g01381/impl.CountBefore: function 38 -/
def F.impl_CountBefore (a0 a1 : Value) (H : Hp) (K : Value → Hp → Prop) : Prop :=
  nw (a0 : Value).cells 32 H fun v2x1 H2 =>
  nw (a1 : Value).cells 29 H2 fun v3x3 H4 =>
  nw #[(.int .i64 0)] 2 H4 fun v6x5 H6 =>
  st 1 v6x5 (.int .i64 0) H6 fun H7 =>
  ob (vLoadN 2 v2x1 H7) fun v7x8 =>
  ob (vLoadN 3 v3x3 H7) fun v8x9 =>
  HT prg I.impl_before [v7x8, v8x9, (.func (.func I.impl_CountBefore_1) #[] #[v6x5])].toArray H7 fun v10x10 H11 =>
  ob (vUn .not v10x10) fun v11x12 =>
  cnd v11x12
    (K (.tuple #[(.int .i64 0), (.bool false)]) H11)
    (ob (vLoad v6x5 H11) fun v12x13 =>
  K (.tuple #[v12x13, (.bool true)]) H11)
def O.impl_CountBefore : Nat → Nat × List Nat := fun i => (0, [])
theorem R.impl_CountBefore {a0 a1 : Value} {H : Hp} {K : Value → Hp → Prop} (h : F.impl_CountBefore a0 a1 H K) : HT prg I.impl_CountBefore [a0, a1].toArray H K :=
  HT_of_fev O.impl_CountBefore mixed Try.func38 (by kernel_rfl) (Eq.mpr (by kernel_rfl : fev prg O.impl_CountBefore Try.f38 [a0, a1] H K = F.impl_CountBefore a0 a1 H K) h)

/-! loop.example/g01381/laws.FnExactCountBefore: function 8 -/
def F.laws_FnExactCountBefore (a0 a1 : Value) (H : Hp) (K : Value → Hp → Prop) : Prop :=
  nw (a0 : Value).cells 24 H fun v2x1 H2 =>
  nw (a1 : Value).cells 26 H2 fun v3x3 H4 =>
  ob (vLoadN 2 v2x1 H4) fun v12x5 =>
  HT prg I.laws_szLife [v12x5, (.int .i64 1048576)].toArray H4 fun v14x6 H7 =>
  ob (vInt .lss v14x6 (.int .i64 0)) fun v16x8 =>
  cnd v16x8
    (K (.bool true) H7)
    (ob (vLoadN 3 v3x3 H7) fun v17x9 =>
  HT prg I.laws_szField [v17x9, v14x6].toArray H7 fun v19x10 H11 =>
  ob (vInt .lss v19x10 (.int .i64 0)) fun v21x12 =>
  cnd v21x12
    (K (.bool true) H11)
    (ob (vLoadN 2 v2x1 H11) fun v23x13 =>
  ob (vLoadN 3 v3x3 H11) fun v25x14 =>
  HT prg I.laws_toLife [v23x13].toArray H11 fun v24x15 H16 =>
  Le H11 H16 ∧ (HT prg I.laws_toField [v25x14].toArray H16 fun v26x17 H18 =>
  Le H16 H18 ∧ (HT prg I.spec_CountBefore [v24x15, v26x17].toArray H18 fun v27x19 H20 =>
  Le H18 H20 ∧ (ob (vExt v27x19 0) fun v28x21 =>
  ob (vExt v27x19 1) fun v29x22 =>
  ob (vLoadN 2 v2x1 H20) fun v30x23 =>
  HT prg I.laws_toLife [v30x23].toArray H20 fun v31x24 H25 =>
  nw #[(.slice none 0 0), (.slice none 0 0)] 32 H25 fun v8x26 H27 =>
  st 2 v8x26 v31x24 H27 fun H28 =>
  ob (vLoadN 3 v3x3 H28) fun v32x29 =>
  HT prg I.laws_toField [v32x29].toArray H28 fun v33x30 H31 =>
  nw #[(.int .i64 0), (.int .i64 0), (.slice none 0 0)] 29 H31 fun v9x32 H33 =>
  st 3 v9x32 v33x30 H33 fun H34 =>
  ob (vLoadN 2 v8x26 H34) fun v35x35 =>
  ob (vLoadN 3 v9x32 H34) fun v36x36 =>
  HT prg I.impl_CountBefore [v35x35, v36x36].toArray H34 fun v37x37 H38 =>
  ob (vExt v37x37 0) fun v38x39 =>
  ob (vExt v37x37 1) fun v39x40 =>
  ob (vInt .neq v38x39 v28x21) fun v42x41 =>
  gop v42x41 false (fun K42 => K42 v39x40 H38) H38 fun v44x43 H44 =>
  gop v42x41 false (fun K45 => K45 v29x22 H44) H44 fun v45x46 H47 =>
  gop v42x41 false (fun K48 => ob (vBool .neq v44x43 v45x46) fun u => K48 u H47) H47 fun v46x49 H50 =>
  ob (vPick v42x41 (.bool true) v46x49) fun v47x51 =>
  cnd v47x51
    (K (.bool false) H50)
    (ob (vLoadN 2 v8x26 H50) fun v48x52 =>
  ob (vLoadN 2 v2x1 H50) fun v49x53 =>
  HT prg I.laws_toLife [v49x53].toArray H50 fun v50x54 H55 =>
  Le H50 H55 ∧ (HT prg I.laws_eqLife [v48x52, v50x54].toArray H55 fun v51x56 H57 =>
  Le H55 H57 ∧ (ob (vUn .not v51x56) fun v52x58 =>
  cnd v52x58
    (K (.bool false) H57)
    (ob (vLoadN 3 v9x32 H57) fun v53x59 =>
  ob (vLoadN 3 v3x3 H57) fun v54x60 =>
  HT prg I.laws_toField [v54x60].toArray H57 fun v55x61 H62 =>
  Le H57 H62 ∧ (HT prg I.laws_eqField [v53x59, v55x61].toArray H62 fun v56x63 H64 =>
  Le H62 H64 ∧ (ob (vUn .not v56x63) fun v57x65 =>
  cnd v57x65
    (K (.bool false) H64)
    (K (.bool true) H64))))))))))))
def O.laws_FnExactCountBefore : Nat → Nat × List Nat := fun i => bif Nat.beq i 8 then (0, [0, 2, 1, 3, 4, 5, 6, 7, 8, 9]) else bif Nat.beq i 14 then (0, [0, 1, 2, 3, 4]) else bif Nat.beq i 16 then (0, [0, 1, 2, 3, 4]) else (0, [])
theorem R.laws_FnExactCountBefore {a0 a1 : Value} {H : Hp} {K : Value → Hp → Prop} (h : F.laws_FnExactCountBefore a0 a1 H K) : HT prg I.laws_FnExactCountBefore [a0, a1].toArray H K :=
  HT_of_fev O.laws_FnExactCountBefore mixed Try.func8 (by kernel_rfl) (Eq.mpr (by kernel_rfl : fev prg O.laws_FnExactCountBefore Try.f8 [a0, a1] H K = F.laws_FnExactCountBefore a0 a1 H K) h)

/-! loop.example/g01381/spec.FirstBefore: function 39 -/
def F.spec_FirstBefore (a0 a1 : Value) (H : Hp) (K : Value → Hp → Prop) : Prop :=
  nw (a0 : Value).cells 32 H fun v2x1 H2 =>
  nw (a1 : Value).cells 29 H2 fun v3x3 H4 =>
  nw #[(.int .i64 0), (.int .i64 0), (.slice none 0 0)] 29 H4 fun v4x5 H6 =>
  HT prg I.spec_l04Can [v2x1, v3x3].toArray H6 fun v9x7 H8 =>
  ob (vUn .not v9x7) fun v10x9 =>
  gop v10x9 false (fun K10 => ob (vFa 0 v3x3) fun u => K10 u H8) H8 fun v12x11 H12 =>
  gop v10x9 false (fun K13 => ob (vLoad v12x11 H12) fun u => K13 u H12) H12 fun v13x14 H15 =>
  gop v10x9 false (fun K16 => ob (vFa 1 v3x3) fun u => K16 u H15) H15 fun v14x17 H18 =>
  gop v10x9 false (fun K19 => ob (vLoad v14x17 H18) fun u => K19 u H18) H18 fun v15x20 H21 =>
  gop v10x9 false (fun K22 => HT prg I.spec_l05Small [v13x14, v15x20].toArray H21 K22) H21 fun v16x23 H24 =>
  gop v10x9 false (fun K25 => ob (vUn .not v16x23) fun u => K25 u H24) H24 fun v17x26 H27 =>
  ob (vPick v10x9 (.bool true) v17x26) fun v18x28 =>
  cnd v18x28
    (ob (vBuild [(0, 1), (1, 1), (2, 1)] (.agg #[(.int .i64 0), (.int .i64 0), (.slice none 0 0)]) []) fun v19x29 =>
    st 3 v4x5 v19x29 H27 fun H30 =>
    ob (vLoadN 3 v4x5 H30) fun u31 => K (.tuple #[u31, (.bool false)]) H30)
    (jn (fun σ32 H32 =>
    ob (vBuild [(0, 1), (1, 1), (2, 1)] (.agg #[(.int .i64 0), (.int .i64 0), (.slice none 0 0)]) []) fun v38x33 =>
    st 3 (σ32 4) v38x33 H32 fun H34 =>
    ob (vLoadN 3 (σ32 4) H34) fun u35 => K (.tuple #[u35, (.bool false)]) H34) fun J32 =>
  lpE (fun Q36 σ36 H36 =>
    ob (vFa 2 (σ36 3)) fun v21x37 =>
    ob (vLoad v21x37 H36) fun v22x38 =>
    ob (vLenSl v22x38) fun v23x39 =>
    ob (vCI .u64 v23x39) fun v24x40 =>
    ob (vInt .shl (.int .i64 1) v24x40) fun v25x41 =>
    ob (vInt .lss (σ36 6) v25x41) fun v26x42 =>
    cnd v26x42
      (ob (vFa 0 (σ36 3)) fun v30x43 =>
    ob (vLoad v30x43 H36) fun v31x44 =>
    ob (vFa 1 (σ36 3)) fun v32x45 =>
    ob (vLoad v32x45 H36) fun v33x46 =>
    HT prg I.spec_l05Of [(σ36 6), v31x44, v33x46].toArray H36 fun v34x47 H48 =>
    nw #[(.int .i64 0), (.int .i64 0), (.slice none 0 0)] 29 H48 fun v7x49 H50 =>
    st 3 v7x49 v34x47 H50 fun H51 =>
    HT prg I.spec_l04Step [(σ36 2), v7x49].toArray H51 fun v35x52 H53 =>
    nw #[(.int .i64 0), (.int .i64 0), (.slice none 0 0)] 29 H53 fun v8x54 H55 =>
    st 3 v8x54 v35x52 H55 fun H56 =>
    HT prg I.spec_l04Same [v8x54, (σ36 3)].toArray H56 fun v36x57 H58 =>
    cnd v36x57
      (ob (vLoadN 3 v7x49 H58) fun v37x59 =>
      st 3 (σ36 4) v37x59 H58 fun H60 =>
      Q36 .ret (up (up (up (up (up (up (up (up (up (up (up (up (up (up (up (up (up (up (up σ36 20 (σ36 6)) 21 v21x37) 22 v22x38) 23 v23x39) 24 v24x40) 25 v25x41) 26 v26x42) 29 (σ36 6)) 30 v30x43) 31 v31x44) 32 v32x45) 33 v33x46) 34 v34x47) 7 v7x49) 35 v35x52) 8 v8x54) 36 v36x57) 37 v37x59) 5 (.bool true)) H60)
      (ob (vInt .add (σ36 6) (.int .i64 1)) fun v28x61 =>
    Q36 .normal (up (up (up (up (up (up (up (up (up (up (up (up (up (up (up (up (up (up (up (up σ36 20 (σ36 6)) 21 v21x37) 22 v22x38) 23 v23x39) 24 v24x40) 25 v25x41) 26 v26x42) 29 (σ36 6)) 30 v30x43) 31 v31x44) 32 v32x45) 33 v33x46) 34 v34x47) 7 v7x49) 35 v35x52) 8 v8x54) 36 v36x57) 27 (σ36 6)) 28 v28x61) 6 v28x61) H58))
      (Q36 (.exit 0) (up (up (up (up (up (up (up σ36 20 (σ36 6)) 21 v21x37) 22 v22x38) 23 v23x39) 24 v24x40) 25 v25x41) 26 v26x42) H36)) (blkQ 0 (thenQ J32 (retQ prg [(.cell 4 29), (.tmp 5)] K))) (up (up (up (up (up (up (up (up (up (up (up (up (up (up (up (S0 [a0, a1]) 2 v2x1) 3 v3x3) 4 v4x5) 5 (.bool false)) 9 v9x7) 10 v10x9) 11 v10x9) 12 v12x11) 13 v13x14) 14 v14x17) 15 v15x20) 16 v16x23) 17 v17x26) 18 v18x28) 6 (.int .i64 0)) H27)
def O.spec_FirstBefore : Nat → Nat × List Nat := fun i => (0, [])
theorem R.spec_FirstBefore {a0 a1 : Value} {H : Hp} {K : Value → Hp → Prop} (h : F.spec_FirstBefore a0 a1 H K) : HT prg I.spec_FirstBefore [a0, a1].toArray H K :=
  HT_of_fev O.spec_FirstBefore mixed Try.func39 (by kernel_rfl) (Eq.mpr (by kernel_rfl : fev prg O.spec_FirstBefore Try.f39 [a0, a1] H K = F.spec_FirstBefore a0 a1 H K) h)

/-! loop.example/g01381/impl.FirstBefore$1: function 86 -/
def F.impl_FirstBefore_1 (a0 a1 a2 : Value) (H : Hp) (K : Value → Hp → Prop) : Prop :=
  nw (a0 : Value).cells 29 H fun v3x1 H2 =>
  ob (vLoad a1 H2) fun v4x3 =>
  ob (vUn .not v4x3) fun v5x4 =>
  cnd v5x4
    (ob (vLoadN 3 v3x1 H2) fun v6x5 =>
    st 3 a2 v6x5 H2 fun H6 =>
    st 1 a1 (.bool true) H6 fun H7 =>
    K (.tuple #[]) H7)
    (K (.tuple #[]) H2)
def O.impl_FirstBefore_1 : Nat → Nat × List Nat := fun i => (0, [])
theorem R.impl_FirstBefore_1 {a0 a1 a2 : Value} {H : Hp} {K : Value → Hp → Prop} (h : F.impl_FirstBefore_1 a0 a1 a2 H K) : HT prg I.impl_FirstBefore_1 [a0, a1, a2].toArray H K :=
  HT_of_fev O.impl_FirstBefore_1 mixed Try.func86 (by kernel_rfl) (Eq.mpr (by kernel_rfl : fev prg O.impl_FirstBefore_1 Try.f86 [a0, a1, a2] H K = F.impl_FirstBefore_1 a0 a1 a2 H K) h)

/-! loop.example/g01381/impl.FirstBefore: function 40 -/
def F.impl_FirstBefore (a0 a1 : Value) (H : Hp) (K : Value → Hp → Prop) : Prop :=
  nw (a0 : Value).cells 32 H fun v2x1 H2 =>
  nw (a1 : Value).cells 29 H2 fun v3x3 H4 =>
  nw #[(.int .i64 0), (.int .i64 0), (.slice none 0 0)] 29 H4 fun v4x5 H6 =>
  ob (vBuild [(0, 1), (1, 1), (2, 1)] (.agg #[(.int .i64 0), (.int .i64 0), (.slice none 0 0)]) []) fun v8x7 =>
  nw #[(.int .i64 0), (.int .i64 0), (.slice none 0 0)] 29 H6 fun v6x8 H9 =>
  nw #[(.bool false)] 4 H9 fun v7x10 H11 =>
  st 3 v6x8 v8x7 H11 fun H12 =>
  st 1 v7x10 (.bool false) H12 fun H13 =>
  ob (vLoadN 2 v2x1 H13) fun v9x14 =>
  ob (vLoadN 3 v3x3 H13) fun v10x15 =>
  HT prg I.impl_before [v9x14, v10x15, (.func (.func I.impl_FirstBefore_1) #[] #[v7x10, v6x8])].toArray H13 fun v12x16 H17 =>
  (ob (vLoadN 3 v6x8 H17) fun v13x18 =>
  ob (vLoad v7x10 H17) fun v14x19 =>
  st 3 v4x5 v13x18 H17 fun H20 =>
  ob (vLoadN 3 v4x5 H20) fun u21 => K (.tuple #[u21, v14x19]) H20) ∧ (ob (vLoadN 3 v6x8 H17) fun v13x22 =>
  st 3 v4x5 v13x22 H17 fun H23 =>
  ob (vLoad v7x10 H23) fun v14x24 =>
  ob (vLoadN 3 v4x5 H23) fun u25 => K (.tuple #[u25, v14x24]) H23)
def O.impl_FirstBefore : Nat → Nat × List Nat := fun i => bif Nat.beq i 3 then (0, [1001, 1002, 0, 1, 2, 3, 0, 2, 1, 3]) else (0, [])
theorem R.impl_FirstBefore {a0 a1 : Value} {H : Hp} {K : Value → Hp → Prop} (h : F.impl_FirstBefore a0 a1 H K) : HT prg I.impl_FirstBefore [a0, a1].toArray H K :=
  HT_of_fev O.impl_FirstBefore mixed Try.func40 (by kernel_rfl) (Eq.mpr (by kernel_rfl : fev prg O.impl_FirstBefore Try.f40 [a0, a1] H K = F.impl_FirstBefore a0 a1 H K) h)

/-! loop.example/g01381/laws.FnExactFirstBefore: function 9 -/
def F.laws_FnExactFirstBefore (a0 a1 : Value) (H : Hp) (K : Value → Hp → Prop) : Prop :=
  nw (a0 : Value).cells 24 H fun v2x1 H2 =>
  nw (a1 : Value).cells 26 H2 fun v3x3 H4 =>
  ob (vLoadN 2 v2x1 H4) fun v17x5 =>
  HT prg I.laws_szLife [v17x5, (.int .i64 1048576)].toArray H4 fun v19x6 H7 =>
  ob (vInt .lss v19x6 (.int .i64 0)) fun v21x8 =>
  cnd v21x8
    (K (.bool true) H7)
    (ob (vLoadN 3 v3x3 H7) fun v22x9 =>
  HT prg I.laws_szField [v22x9, v19x6].toArray H7 fun v24x10 H11 =>
  ob (vInt .lss v24x10 (.int .i64 0)) fun v26x12 =>
  cnd v26x12
    (K (.bool true) H11)
    (ob (vLoadN 2 v2x1 H11) fun v28x13 =>
  ob (vLoadN 3 v3x3 H11) fun v30x14 =>
  HT prg I.laws_toLife [v28x13].toArray H11 fun v29x15 H16 =>
  Le H11 H16 ∧ (HT prg I.laws_toField [v30x14].toArray H16 fun v31x17 H18 =>
  Le H16 H18 ∧ (HT prg I.spec_FirstBefore [v29x15, v31x17].toArray H18 fun v32x19 H20 =>
  Le H18 H20 ∧ (ob (vExt v32x19 0) fun v33x21 =>
  ob (vExt v32x19 1) fun v34x22 =>
  nw #[(.int .i64 0), (.int .i64 0), (.slice none 0 0)] 29 H20 fun v6x23 H24 =>
  st 3 v6x23 v33x21 H24 fun H25 =>
  ob (vLoadN 2 v2x1 H25) fun v35x26 =>
  HT prg I.laws_toLife [v35x26].toArray H25 fun v36x27 H28 =>
  nw #[(.slice none 0 0), (.slice none 0 0)] 32 H28 fun v8x29 H30 =>
  st 2 v8x29 v36x27 H30 fun H31 =>
  ob (vLoadN 3 v3x3 H31) fun v37x32 =>
  HT prg I.laws_toField [v37x32].toArray H31 fun v38x33 H34 =>
  nw #[(.int .i64 0), (.int .i64 0), (.slice none 0 0)] 29 H34 fun v9x35 H36 =>
  st 3 v9x35 v38x33 H36 fun H37 =>
  ob (vLoadN 2 v8x29 H37) fun v40x38 =>
  ob (vLoadN 3 v9x35 H37) fun v41x39 =>
  HT prg I.impl_FirstBefore [v40x38, v41x39].toArray H37 fun v42x40 H41 =>
  ob (vExt v42x40 0) fun v43x42 =>
  ob (vExt v42x40 1) fun v44x43 =>
  nw #[(.int .i64 0), (.int .i64 0), (.slice none 0 0)] 29 H41 fun v10x44 H45 =>
  st 3 v10x44 v43x42 H45 fun H46 =>
  ob (vLoadN 3 v10x44 H46) fun v45x47 =>
  ob (vLoadN 3 v6x23 H46) fun v46x48 =>
  HT prg I.laws_eqField [v45x47, v46x48].toArray H46 fun v47x49 H50 =>
  ob (vUn .not v47x49) fun v48x51 =>
  gop v48x51 false (fun K52 => K52 v44x43 H50) H50 fun v50x53 H54 =>
  gop v48x51 false (fun K55 => K55 v34x22 H54) H54 fun v51x56 H57 =>
  gop v48x51 false (fun K58 => ob (vBool .neq v50x53 v51x56) fun u => K58 u H57) H57 fun v52x59 H60 =>
  ob (vPick v48x51 (.bool true) v52x59) fun v53x61 =>
  cnd v53x61
    (K (.bool false) H60)
    (ob (vLoadN 2 v8x29 H60) fun v54x62 =>
  ob (vLoadN 2 v2x1 H60) fun v55x63 =>
  HT prg I.laws_toLife [v55x63].toArray H60 fun v56x64 H65 =>
  Le H60 H65 ∧ (HT prg I.laws_eqLife [v54x62, v56x64].toArray H65 fun v57x66 H67 =>
  Le H65 H67 ∧ (ob (vUn .not v57x66) fun v58x68 =>
  cnd v58x68
    (K (.bool false) H67)
    (ob (vLoadN 3 v9x35 H67) fun v59x69 =>
  ob (vLoadN 3 v3x3 H67) fun v60x70 =>
  HT prg I.laws_toField [v60x70].toArray H67 fun v61x71 H72 =>
  Le H67 H72 ∧ (HT prg I.laws_eqField [v59x69, v61x71].toArray H72 fun v62x73 H74 =>
  Le H72 H74 ∧ (ob (vUn .not v62x73) fun v63x75 =>
  cnd v63x75
    (K (.bool false) H74)
    (ob (vLoadN 2 v8x29 H74) fun v64x76 =>
  HT prg I.laws_markLife [v64x76, (.int .i64 1)].toArray H74 fun v66x77 H78 =>
  ob (vLoadN 3 v9x35 H78) fun v67x79 =>
  HT prg I.laws_markField [v67x79, v66x77].toArray H78 fun v69x80 H81 =>
  ob (vInt .lss v69x80 (.int .i64 0)) fun v71x82 =>
  gop v71x82 false (fun K83 => ob (vLoadN 3 v10x44 H81) fun u => K83 u H81) H81 fun v73x84 H85 =>
  gop v71x82 false (fun K86 => ob (vLoadN 3 v6x23 H85) fun u => K86 u H85) H85 fun v74x87 H88 =>
  gop v71x82 false (fun K89 => HT prg I.laws_eqField [v73x84, v74x87].toArray H88 K89) H88 fun v75x90 H91 =>
  gop v71x82 false (fun K92 => ob (vUn .not v75x90) fun u => K92 u H91) H91 fun v76x93 H94 =>
  ob (vPick v71x82 (.bool true) v76x93) fun v77x95 =>
  gop v77x95 false (fun K96 => K96 v44x43 H94) H94 fun v79x97 H98 =>
  gop v77x95 false (fun K99 => K99 v34x22 H98) H98 fun v80x100 H101 =>
  gop v77x95 false (fun K102 => ob (vBool .neq v79x97 v80x100) fun u => K102 u H101) H101 fun v81x103 H104 =>
  ob (vPick v77x95 (.bool true) v81x103) fun v82x105 =>
  cnd v82x105
    (K (.bool false) H104)
    (ob (vLoadN 3 v10x44 H104) fun v83x106 =>
  HT prg I.laws_markField [v83x106, (.int .i64 1)].toArray H104 fun v85x107 H108 =>
  ob (vLoadN 3 v10x44 H108) fun v86x109 =>
  HT prg I.laws_heldField [v86x109, (.int .i64 1)].toArray H108 fun v88x110 H111 =>
  ob (vInt .lss v88x110 (.int .i64 0)) fun v90x112 =>
  cnd v90x112
    (K (.bool false) H111)
    (ob (vInt .neq v88x110 v85x107) fun v93x113 =>
  cnd v93x113
    (K (.bool false) H111)
    (ob (vLoadN 2 v2x1 H111) fun v95x114 =>
  ob (vLoadN 3 v3x3 H111) fun v97x115 =>
  HT prg I.laws_toLife [v95x114].toArray H111 fun v96x116 H117 =>
  Le H111 H117 ∧ (HT prg I.laws_toField [v97x115].toArray H117 fun v98x118 H119 =>
  Le H117 H119 ∧ (HT prg I.impl_FirstBefore [v96x116, v98x118].toArray H119 fun v99x120 H121 =>
  Le H119 H121 ∧ (ob (vExt v99x120 0) fun v100x122 =>
  ob (vExt v99x120 1) fun v101x123 =>
  nw #[(.int .i64 0), (.int .i64 0), (.slice none 0 0)] 29 H121 fun v15x124 H125 =>
  st 3 v15x124 v100x122 H125 fun H126 =>
  ob (vLoadN 3 v15x124 H126) fun v102x127 =>
  ob (vLoadN 3 v6x23 H126) fun v103x128 =>
  HT prg I.laws_eqField [v102x127, v103x128].toArray H126 fun v104x129 H130 =>
  ob (vUn .not v104x129) fun v105x131 =>
  gop v105x131 false (fun K132 => K132 v101x123 H130) H130 fun v107x133 H134 =>
  gop v105x131 false (fun K135 => K135 v34x22 H134) H134 fun v108x136 H137 =>
  gop v105x131 false (fun K138 => ob (vBool .neq v107x133 v108x136) fun u => K138 u H137) H137 fun v109x139 H140 =>
  ob (vPick v105x131 (.bool true) v109x139) fun v110x141 =>
  cnd v110x141
    (K (.bool false) H140)
    (ob (vLoadN 3 v10x44 H140) fun v111x142 =>
  HT prg I.laws_heldField [v111x142, (.int .i64 1)].toArray H140 fun v113x143 H144 =>
  ob (vInt .lss v113x143 (.int .i64 0)) fun v115x145 =>
  cnd v115x145
    (K (.bool false) H144)
    (ob (vInt .neq v113x143 v85x107) fun v118x146 =>
  cnd v118x146
    (K (.bool false) H144)
    (K (.bool true) H144)))))))))))))))))))))
def O.laws_FnExactFirstBefore : Nat → Nat × List Nat := fun i => bif Nat.beq i 8 then (0, [0, 2, 1, 3, 4, 5, 6, 7, 8, 9, 10]) else bif Nat.beq i 14 then (0, [0, 1, 2, 3, 4]) else bif Nat.beq i 16 then (0, [0, 1, 2, 3, 4]) else bif Nat.beq i 31 then (0, [0, 2, 1, 3, 4, 5, 6, 7, 8, 9, 10]) else (0, [])
theorem R.laws_FnExactFirstBefore {a0 a1 : Value} {H : Hp} {K : Value → Hp → Prop} (h : F.laws_FnExactFirstBefore a0 a1 H K) : HT prg I.laws_FnExactFirstBefore [a0, a1].toArray H K :=
  HT_of_fev O.laws_FnExactFirstBefore mixed Try.func9 (by kernel_rfl) (Eq.mpr (by kernel_rfl : fev prg O.laws_FnExactFirstBefore Try.f9 [a0, a1] H K = F.laws_FnExactFirstBefore a0 a1 H K) h)

/-! loop.example/g01381/spec.l02Sum: function 87 -/
def F.spec_l02Sum (a0 : Value) (H : Hp) (K : Value → Hp → Prop) : Prop :=
  jn (fun σ1 H1 =>
    K (σ1 3) H1) fun J1 =>
  lpE (fun Q2 σ2 H2 =>
    ob (vLenSl (σ2 0)) fun v7x3 =>
    ob (vInt .lss (σ2 4) v7x3) fun v8x4 =>
    cnd v8x4
      (ob (vIx 1 (σ2 0) (σ2 4)) fun v14x5 =>
    ob (vLoad v14x5 H2) fun v15x6 =>
    ob (vInt .add (σ2 3) v15x6) fun v16x7 =>
    ob (vInt .add (σ2 4) (.int .i64 1)) fun v10x8 =>
    Q2 .normal (up (up (up (up (up (up (up (up (up (up (up (up (up (up σ2 5 (σ2 4)) 6 (σ2 0)) 7 v7x3) 8 v8x4) 11 (σ2 3)) 12 (σ2 0)) 13 (σ2 4)) 14 v14x5) 15 v15x6) 16 v16x7) 3 v16x7) 9 (σ2 4)) 10 v10x8) 4 v10x8) H2)
      (Q2 (.exit 0) (up (up (up (up σ2 5 (σ2 4)) 6 (σ2 0)) 7 v7x3) 8 v8x4) H2)) (blkQ 0 (thenQ J1 (retQ prg [(.tmp 2)] K))) (up (up (up (S0 [a0]) 2 (.int .i64 0)) 3 (.int .i64 0)) 4 (.int .i64 0)) H
def O.spec_l02Sum : Nat → Nat × List Nat := fun i => (0, [])
theorem R.spec_l02Sum {a0 : Value} {H : Hp} {K : Value → Hp → Prop} (h : F.spec_l02Sum a0 H K) : HT prg I.spec_l02Sum [a0].toArray H K :=
  HT_of_fev O.spec_l02Sum mixed Try.func87 (by kernel_rfl) (Eq.mpr (by kernel_rfl : fev prg O.spec_l02Sum Try.f87 [a0] H K = F.spec_l02Sum a0 H K) h)

/-! loop.example/g01381/spec.l04Shift: function 88 -/
def F.spec_l04Shift (a0 a1 a2 : Value) (H : Hp) (K : Value → Hp → Prop) : Prop :=
  nw #[(.int .i64 0), (.int .i64 0), (.slice none 0 0)] 29 H fun v6x1 H2 =>
  ob (vNilC a0) fun v11x3 =>
  ob (vFa 0 v11x3) fun v12x4 =>
  ob (vLoad v12x4 H2) fun v13x5 =>
  ob (vNilC a0) fun v15x6 =>
  ob (vFa 1 v15x6) fun v16x7 =>
  ob (vLoad v16x7 H2) fun v17x8 =>
  HT prg I.spec_l04New [v13x5, v17x8].toArray H2 fun v18x9 H10 =>
  Le H2 H10 ∧ (nw #[(.int .i64 0), (.int .i64 0), (.slice none 0 0)] 29 H10 fun v7x11 H12 =>
  st 3 v7x11 v18x9 H12 fun H13 =>
  jn (fun σ14 H14 =>
    ob (vLoadN 3 (σ14 7) H14) fun v60x15 =>
    st 3 (σ14 6) v60x15 H14 fun H16 =>
    ob (vLoadN 3 (σ14 6) H16) fun u17 => K u17 H16) fun J14 =>
  lpE (fun Q18 σ18 H18 =>
    ob (vNilC (σ18 0)) fun v21x19 =>
    ob (vFa 0 v21x19) fun v22x20 =>
    ob (vLoad v22x20 H18) fun v23x21 =>
    ob (vInt .lss (σ18 8) v23x21) fun v24x22 =>
    cnd v24x22
      (jn (fun σ23 H23 =>
      ob (vInt .add (σ23 8) (.int .i64 1)) fun v26x24 =>
      Q18 .normal (up (up (up σ23 25 (σ23 8)) 26 v26x24) 8 v26x24) H23) fun J23 =>
    lpE (fun Q25 σ25 H25 =>
      ob (vNilC (σ25 0)) fun v29x26 =>
      ob (vFa 1 v29x26) fun v30x27 =>
      ob (vLoad v30x27 H25) fun v31x28 =>
      ob (vInt .lss (σ25 9) v31x28) fun v32x29 =>
      cnd v32x29
        (ob (vFa 2 (σ25 7)) fun v35x30 =>
      ob (vLoad v35x30 H25) fun v36x31 =>
      ob (vNilC (σ25 0)) fun v39x32 =>
      ob (vFa 1 v39x32) fun v40x33 =>
      ob (vLoad v40x33 H25) fun v41x34 =>
      ob (vInt .mul (σ25 8) v41x34) fun v42x35 =>
      ob (vInt .add v42x35 (σ25 9)) fun v44x36 =>
      ob (vNilC (σ25 0)) fun v46x37 =>
      ob (vFa 2 v46x37) fun v47x38 =>
      ob (vLoad v47x38 H25) fun v48x39 =>
      ob (vInt .sub (σ25 8) (σ25 1)) fun v52x40 =>
      ob (vInt .sub (σ25 9) (σ25 2)) fun v55x41 =>
      HT prg I.spec_l04Round [(σ25 0), v52x40, v55x41].toArray H25 fun v56x42 H43 =>
      Le H25 H43 ∧ (ob (vIx 1 v48x39 v56x42) fun v57x44 =>
      ob (vLoad v57x44 H43) fun v58x45 =>
      ob (vIx 1 v36x31 v44x36) fun v59x46 =>
      st 1 v59x46 v58x45 H43 fun H47 =>
      ob (vInt .add (σ25 9) (.int .i64 1)) fun v34x48 =>
      Q25 .normal (up (up (up (up (up (up (up (up (up (up (up (up (up (up (up (up (up (up (up (up (up (up (up (up (up (up (up (up (up (up (up (up (up (up σ25 27 (σ25 9)) 28 (σ25 0)) 29 v29x26) 30 v30x27) 31 v31x28) 32 v32x29) 35 v35x30) 36 v36x31) 37 (σ25 8)) 38 (σ25 0)) 39 v39x32) 40 v40x33) 41 v41x34) 42 v42x35) 43 (σ25 9)) 44 v44x36) 45 (σ25 0)) 46 v46x37) 47 v47x38) 48 v48x39) 49 (σ25 0)) 50 (σ25 8)) 51 (σ25 1)) 52 v52x40) 53 (σ25 9)) 54 (σ25 2)) 55 v55x41) 56 v56x42) 57 v57x44) 58 v58x45) 59 v59x46) 33 (σ25 9)) 34 v34x48) 9 v34x48) H47))
        (Q25 (.exit 2) (up (up (up (up (up (up σ25 27 (σ25 9)) 28 (σ25 0)) 29 v29x26) 30 v30x27) 31 v31x28) 32 v32x29) H25)) (blkQ 2 (blkQ 1 (thenQ J23 Q18))) (up (up (up (up (up (up (up σ18 19 (σ18 8)) 20 (σ18 0)) 21 v21x19) 22 v22x20) 23 v23x21) 24 v24x22) 9 (.int .i64 0)) H18)
      (Q18 (.exit 0) (up (up (up (up (up (up σ18 19 (σ18 8)) 20 (σ18 0)) 21 v21x19) 22 v22x20) 23 v23x21) 24 v24x22) H18)) (blkQ 0 (thenQ J14 (retQ prg [(.cell 6 29)] K))) (up (up (up (up (up (up (up (up (up (up (up (up (S0 [a0, a1, a2]) 6 v6x1) 10 a0) 11 v11x3) 12 v12x4) 13 v13x5) 14 a0) 15 v15x6) 16 v16x7) 17 v17x8) 18 v18x9) 7 v7x11) 8 (.int .i64 0)) H13)
def O.spec_l04Shift : Nat → Nat × List Nat := fun i => bif Nat.beq i 1 then (0, [0, 1, 2, 3, 4, 5, 6, 7, 8, 9, 10]) else bif Nat.beq i 8 then (0, [0, 1, 2, 3, 4, 5, 6, 7, 8, 9, 10, 11, 12, 13, 14, 15, 16, 17, 18, 19, 20, 21, 22, 23, 24, 25]) else (0, [])
theorem R.spec_l04Shift {a0 a1 a2 : Value} {H : Hp} {K : Value → Hp → Prop} (h : F.spec_l04Shift a0 a1 a2 H K) : HT prg I.spec_l04Shift [a0, a1, a2].toArray H K :=
  HT_of_fev O.spec_l04Shift mixed Try.func88 (by kernel_rfl) (Eq.mpr (by kernel_rfl : fev prg O.spec_l04Shift Try.f88 [a0, a1, a2] H K = F.spec_l04Shift a0 a1 a2 H K) h)

/-! loop.example/g01381/spec.MoveOf: function 41 -/
def F.spec_MoveOf (a0 a1 a2 : Value) (H : Hp) (K : Value → Hp → Prop) : Prop :=
  nw (a0 : Value).cells 32 H fun v3x1 H2 =>
  nw (a1 : Value).cells 29 H2 fun v4x3 H4 =>
  HT prg I.spec_l04Can [v3x1, v4x3].toArray H4 fun v15x5 H6 =>
  ob (vUn .not v15x5) fun v16x7 =>
  gop v16x7 false (fun K8 => K8 a2 H6) H6 fun v18x9 H10 =>
  gop v16x7 false (fun K11 => HT prg I.spec_l00In [v18x9, (.int .i64 1), (.int .i64 512)].toArray H10 K11) H10 fun v19x12 H13 =>
  gop v16x7 false (fun K14 => ob (vUn .not v19x12) fun u => K14 u H13) H13 fun v20x15 H16 =>
  ob (vPick v16x7 (.bool true) v20x15) fun v21x17 =>
  cnd v21x17
    (K (.tuple #[(.int .i64 0), (.int .i64 0), (.int .i64 0), (.bool false)]) H16)
    (HT prg I.spec_l04Own [v4x3].toArray H16 fun v22x18 H19 =>
  nw #[(.int .i64 0), (.int .i64 0), (.slice none 0 0)] 29 H19 fun v10x20 H21 =>
  st 3 v10x20 v22x18 H21 fun H22 =>
  jn (fun σ23 H23 =>
    K (.tuple #[(.int .i64 0), (.int .i64 0), (.int .i64 0), (.bool false)]) H23) fun J23 =>
  lpE (fun Q24 σ24 H24 =>
    ob (vInt .leq (σ24 11) (σ24 2)) fun v25x25 =>
    cnd v25x25
      (jn (fun σ26 H26 =>
      ob (vInt .add (σ26 11) (.int .i64 1)) fun v27x27 =>
      Q24 .normal (up (up (up σ26 26 (σ26 11)) 27 v27x27) 11 v27x27) H26) fun J26 =>
    HT prg I.spec_l04Next [(σ24 3), (σ24 10), (.bool true)].toArray H24 fun v28x28 H29 =>
    st 3 (σ24 10) v28x28 H29 fun H30 =>
    lpE (fun Q31 σ31 H31 =>
      ob (vFa 0 (σ31 4)) fun v30x32 =>
      ob (vLoad v30x32 H31) fun v31x33 =>
      ob (vInt .lss (σ31 12) v31x33) fun v32x34 =>
      gop v32x34 true (fun K35 => ob (vFa 2 (σ31 10)) fun u => K35 u H31) H31 fun v34x36 H37 =>
      gop v32x34 true (fun K38 => ob (vLoad v34x36 H37) fun u => K38 u H37) H37 fun v35x39 H40 =>
      gop v32x34 true (fun K41 => ob (vFa 2 (σ31 4)) fun u => K41 u H40) H40 fun v37x42 H43 =>
      gop v32x34 true (fun K44 => ob (vLoad v37x42 H43) fun u => K44 u H43) H43 fun v38x45 H46 =>
      gop v32x34 true (fun K47 => HT prg I.spec_l02Sum [v35x39].toArray H46 fun v36x48 H49 =>
      Le H46 H49 ∧ K47 v36x48 H49) H46 fun v36x50 H51 =>
      gop v32x34 true (fun K52 => HT prg I.spec_l02Sum [v38x45].toArray H51 fun v39x53 H54 =>
      Le H51 H54 ∧ K52 v39x53 H54) H51 fun v39x55 H56 =>
      gop v32x34 true (fun K57 => ob (vInt .eql v36x50 v39x55) fun u => K57 u H56) H56 fun v40x58 H59 =>
      ob (vPick v32x34 v40x58 (.bool false)) fun v41x60 =>
      cnd v41x60
        (jn (fun σ61 H61 =>
        ob (vInt .add (σ61 12) (.int .i64 1)) fun v43x62 =>
        Q31 .normal (up (up (up σ61 42 (σ61 12)) 43 v43x62) 12 v43x62) H61) fun J61 =>
      lpE (fun Q63 σ63 H63 =>
        ob (vFa 1 (σ63 4)) fun v45x64 =>
        ob (vLoad v45x64 H63) fun v46x65 =>
        ob (vInt .lss (σ63 13) v46x65) fun v47x66 =>
        cnd v47x66
          (HT prg I.spec_l04Shift [(σ63 4), (σ63 12), (σ63 13)].toArray H63 fun v52x67 H68 =>
        nw #[(.int .i64 0), (.int .i64 0), (.slice none 0 0)] 29 H68 fun v14x69 H70 =>
        st 3 v14x69 v52x67 H70 fun H71 =>
        HT prg I.spec_l04Same [v14x69, (σ63 10)].toArray H71 fun v53x72 H73 =>
        cnd v53x72
          (Q63 .ret (up (up (up (up (up (up (up (up (up (up (up (up (up (up (up (up σ63 44 (σ63 13)) 45 v45x64) 46 v46x65) 47 v47x66) 50 (σ63 12)) 51 (σ63 13)) 52 v52x67) 14 v14x69) 53 v53x72) 54 (σ63 11)) 55 (σ63 12)) 56 (σ63 13)) 6 (σ63 11)) 7 (σ63 12)) 8 (σ63 13)) 9 (.bool true)) H73)
          (ob (vInt .add (σ63 13) (.int .i64 1)) fun v49x74 =>
        Q63 .normal (up (up (up (up (up (up (up (up (up (up (up (up σ63 44 (σ63 13)) 45 v45x64) 46 v46x65) 47 v47x66) 50 (σ63 12)) 51 (σ63 13)) 52 v52x67) 14 v14x69) 53 v53x72) 48 (σ63 13)) 49 v49x74) 13 v49x74) H73))
          (Q63 (.exit 4) (up (up (up (up σ63 44 (σ63 13)) 45 v45x64) 46 v46x65) 47 v47x66) H63)) (blkQ 4 (blkQ 3 (thenQ J61 Q31))) (up (up (up (up (up (up (up (up (up (up (up (up (up (up σ31 29 (σ31 12)) 30 v30x32) 31 v31x33) 32 v32x34) 33 v32x34) 34 v34x36) 35 v35x39) 37 v37x42) 38 v38x45) 36 v36x50) 39 v39x55) 40 v40x58) 41 v41x60) 13 (.int .i64 0)) H59)
        (Q31 (.exit 2) (up (up (up (up (up (up (up (up (up (up (up (up (up σ31 29 (σ31 12)) 30 v30x32) 31 v31x33) 32 v32x34) 33 v32x34) 34 v34x36) 35 v35x39) 37 v37x42) 38 v38x45) 36 v36x50) 39 v39x55) 40 v40x58) 41 v41x60) H59)) (blkQ 2 (blkQ 1 (thenQ J26 Q24))) (up (up (up (up (up σ24 23 (σ24 11)) 24 (σ24 2)) 25 v25x25) 28 v28x28) 12 (.int .i64 0)) H30)
      (Q24 (.exit 0) (up (up (up σ24 23 (σ24 11)) 24 (σ24 2)) 25 v25x25) H24)) (blkQ 0 (thenQ J23 (retQ prg [(.tmp 6), (.tmp 7), (.tmp 8), (.tmp 9)] K))) (up (up (up (up (up (up (up (up (up (up (up (up (up (up (up (up (S0 [a0, a1, a2]) 3 v3x1) 4 v4x3) 6 (.int .i64 0)) 7 (.int .i64 0)) 8 (.int .i64 0)) 9 (.bool false)) 15 v15x5) 16 v16x7) 17 v16x7) 18 v18x9) 19 v19x12) 20 v20x15) 21 v21x17) 22 v22x18) 10 v10x20) 11 (.int .i64 1)) H22)
def O.spec_MoveOf : Nat → Nat × List Nat := fun i => bif Nat.beq i 9 then (0, [0, 1, 2, 3, 4, 5, 6, 8, 9, 7, 10, 11, 12]) else (0, [])
theorem R.spec_MoveOf {a0 a1 a2 : Value} {H : Hp} {K : Value → Hp → Prop} (h : F.spec_MoveOf a0 a1 a2 H K) : HT prg I.spec_MoveOf [a0, a1, a2].toArray H K :=
  HT_of_fev O.spec_MoveOf mixed Try.func41 (by kernel_rfl) (Eq.mpr (by kernel_rfl : fev prg O.spec_MoveOf Try.f41 [a0, a1, a2] H K = F.spec_MoveOf a0 a1 a2 H K) h)

/-! (loop.example/g01381/impl.Field).shifted$1: function 130 -/
def F.impl_Field_shifted_1 (a0 a1 a2 a3 a4 : Value) (H : Hp) (K : Value → Hp → Prop) : Prop :=
  ob (vLoadN 3 a2 H) fun v8x1 =>
  ob (vLoad a3 H) fun v10x2 =>
  ob (vInt .sub a0 v10x2) fun v11x3 =>
  ob (vLoad a4 H) fun v13x4 =>
  ob (vInt .sub a1 v13x4) fun v14x5 =>
  HT prg I.impl_Field_look [v8x1, v11x3, v14x5, (.bool true)].toArray H fun v15x6 H7 =>
  K v15x6 H7
def O.impl_Field_shifted_1 : Nat → Nat × List Nat := fun i => (0, [])
theorem R.impl_Field_shifted_1 {a0 a1 a2 a3 a4 : Value} {H : Hp} {K : Value → Hp → Prop} (h : F.impl_Field_shifted_1 a0 a1 a2 a3 a4 H K) : HT prg I.impl_Field_shifted_1 [a0, a1, a2, a3, a4].toArray H K :=
  HT_of_fev O.impl_Field_shifted_1 mixed Try.func130 (by kernel_rfl) (Eq.mpr (by kernel_rfl : fev prg O.impl_Field_shifted_1 Try.f130 [a0, a1, a2, a3, a4] H K = F.impl_Field_shifted_1 a0 a1 a2 a3 a4 H K) h)

/-! (loop.example/g01381/impl.Field).shifted: function 89 -/
def F.impl_Field_shifted (a0 a1 a2 : Value) (H : Hp) (K : Value → Hp → Prop) : Prop :=
  nw (a0 : Value).cells 29 H fun v3x1 H2 =>
  nw (a1 : Value).cells 2 H2 fun v4x3 H4 =>
  nw (a2 : Value).cells 2 H4 fun v5x5 H6 =>
  nw #[(.int .i64 0), (.int .i64 0), (.slice none 0 0)] 29 H6 fun v6x7 H8 =>
  ob (vFa 0 v3x1) fun v7x9 =>
  ob (vLoad v7x9 H8) fun v8x10 =>
  ob (vFa 1 v3x1) fun v9x11 =>
  ob (vLoad v9x11 H8) fun v10x12 =>
  HT prg I.impl_madeField [v8x10, v10x12, (.func (.func I.impl_Field_shifted_1) #[] #[v3x1, v4x3, v5x5])].toArray H8 fun v12x13 H14 =>
  st 3 v6x7 v12x13 H14 fun H15 =>
  ob (vLoadN 3 v6x7 H15) fun u16 => K u16 H15
def O.impl_Field_shifted : Nat → Nat × List Nat := fun i => (0, [])
theorem R.impl_Field_shifted {a0 a1 a2 : Value} {H : Hp} {K : Value → Hp → Prop} (h : F.impl_Field_shifted a0 a1 a2 H K) : HT prg I.impl_Field_shifted [a0, a1, a2].toArray H K :=
  HT_of_fev O.impl_Field_shifted mixed Try.func89 (by kernel_rfl) (Eq.mpr (by kernel_rfl : fev prg O.impl_Field_shifted Try.f89 [a0, a1, a2] H K = F.impl_Field_shifted a0 a1 a2 H K) h)

/-! loop.example/g01381/impl.MoveOf: function 42 -/
def F.impl_MoveOf (a0 a1 a2 : Value) (H : Hp) (K : Value → Hp → Prop) : Prop :=
  nw (a0 : Value).cells 32 H fun v3x1 H2 =>
  nw (a1 : Value).cells 29 H2 fun v4x3 H4 =>
  ob (vLoadN 2 v3x1 H4) fun v14x5 =>
  ob (vLoadN 3 v4x3 H4) fun v15x6 =>
  bS 3 1 #[(.int .i64 0), (.int .i64 0), (.slice none 0 0)] 29 [(0, v15x6)] H4 fun v16x7 H8 =>
  HT prg I.impl_lives [v14x5, v16x7].toArray H8 fun v17x9 H10 =>
  ob (vUn .not v17x9) fun v18x11 =>
  gop v18x11 false (fun K12 => K12 a2 H10) H10 fun v20x13 H14 =>
  gop v18x11 false (fun K15 => HT prg I.impl_within [v20x13, (.int .i64 1), (.int .i64 512)].toArray H14 K15) H14 fun v21x16 H17 =>
  gop v18x11 false (fun K18 => ob (vUn .not v21x16) fun u => K18 u H17) H17 fun v22x19 H20 =>
  ob (vPick v18x11 (.bool true) v22x19) fun v23x21 =>
  cnd v23x21
    (K (.tuple #[(.int .i64 0), (.int .i64 0), (.int .i64 0), (.bool false)]) H20)
    (ob (vLoadN 3 v4x3 H20) fun v24x22 =>
  nw #[(.int .i64 0), (.int .i64 0), (.slice none 0 0)] 29 H20 fun v10x23 H24 =>
  st 3 v10x23 v24x22 H24 fun H25 =>
  jn (fun σ26 H26 =>
    K (.tuple #[(.int .i64 0), (.int .i64 0), (.int .i64 0), (.bool false)]) H26) fun J26 =>
  lpE (fun Q27 σ27 H27 =>
    ob (vInt .leq (σ27 11) (σ27 2)) fun v27x28 =>
    cnd v27x28
      (jn (fun σ29 H29 =>
      ob (vInt .add (σ29 11) (.int .i64 1)) fun v29x30 =>
      Q27 .normal (up (up (up σ29 28 (σ29 11)) 29 v29x30) 11 v29x30) H29) fun J29 =>
    ob (vLoadN 2 (σ27 3) H27) fun v30x31 =>
    ob (vLoadN 3 (σ27 10) H27) fun v31x32 =>
    HT prg I.impl_Life_step [v30x31, v31x32, (.bool true)].toArray H27 fun v32x33 H34 =>
    st 3 (σ27 10) v32x33 H34 fun H35 =>
    ob (vLoadN 3 (σ27 10) H35) fun v33x36 =>
    ob (vLoadN 3 (σ27 4) H35) fun v35x37 =>
    HT prg I.impl_Field_count [v33x36, (.int .i64 1)].toArray H35 fun v34x38 H39 =>
    Le H35 H39 ∧ (HT prg I.impl_Field_count [v35x37, (.int .i64 1)].toArray H39 fun v36x40 H41 =>
    Le H39 H41 ∧ (ob (vInt .neq v34x38 v36x40) fun v37x42 =>
    cnd v37x42
      (J29 (up (up (up (up (up (up (up (up (up (up (up σ27 25 (σ27 11)) 26 (σ27 2)) 27 v27x28) 30 v30x31) 31 v31x32) 32 v32x33) 33 v33x36) 35 v35x37) 34 v34x38) 36 v36x40) 37 v37x42) H41)
      (ob (vFa 0 (σ27 4)) fun v38x43 =>
    ob (vLoad v38x43 H41) fun v39x44 =>
    lpE (fun Q45 σ45 H45 =>
      ob (vInt .lss (σ45 40) (σ45 39)) fun v41x46 =>
      cnd v41x46
        (jn (fun σ47 H47 =>
        ob (vInt .add (σ47 40) (.int .i64 1)) fun v58x48 =>
        Q45 .normal (up (up σ47 58 v58x48) 40 v58x48) H47) fun J47 =>
      ob (vFa 1 (σ45 4)) fun v43x49 =>
      ob (vLoad v43x49 H45) fun v44x50 =>
      lpE (fun Q51 σ51 H51 =>
        ob (vInt .lss (σ51 45) (σ51 44)) fun v46x52 =>
        cnd v46x52
          (ob (vLoadN 3 (σ51 10) H51) fun v48x53 =>
        ob (vLoadN 3 (σ51 4) H51) fun v49x54 =>
        HT prg I.impl_Field_shifted [v49x54, (σ51 12), (σ51 45)].toArray H51 fun v52x55 H56 =>
        Le H51 H56 ∧ (HT prg I.impl_SameField [v48x53, v52x55].toArray H56 fun v53x57 H58 =>
        Le H56 H58 ∧ (cnd v53x57
          (Q51 .ret (up (up (up (up (up (up (up (up (up (up (up (up (up (up (up (up σ51 46 v46x52) 47 (σ51 45)) 13 (σ51 45)) 48 v48x53) 49 v49x54) 50 (σ51 12)) 51 (σ51 45)) 52 v52x55) 53 v53x57) 54 (σ51 11)) 55 (σ51 12)) 56 (σ51 45)) 6 (σ51 11)) 7 (σ51 12)) 8 (σ51 45)) 9 (.bool true)) H58)
          (ob (vInt .add (σ51 45) (.int .i64 1)) fun v57x59 =>
        Q51 .normal (up (up (up (up (up (up (up (up (up (up (up σ51 46 v46x52) 47 (σ51 45)) 13 (σ51 45)) 48 v48x53) 49 v49x54) 50 (σ51 12)) 51 (σ51 45)) 52 v52x55) 53 v53x57) 57 v57x59) 45 v57x59) H58))))
          (Q51 (.exit 4) (up σ51 46 v46x52) H51)) (blkQ 4 (blkQ 3 (thenQ J47 Q45))) (up (up (up (up (up (up σ45 41 v41x46) 42 (σ45 40)) 12 (σ45 40)) 43 v43x49) 44 v44x50) 45 (.int .i64 0)) H45)
        (Q45 (.exit 2) (up σ45 41 v41x46) H45)) (blkQ 2 (blkQ 1 (thenQ J29 Q27))) (up (up (up (up (up (up (up (up (up (up (up (up (up (up σ27 25 (σ27 11)) 26 (σ27 2)) 27 v27x28) 30 v30x31) 31 v31x32) 32 v32x33) 33 v33x36) 35 v35x37) 34 v34x38) 36 v36x40) 37 v37x42) 38 v38x43) 39 v39x44) 40 (.int .i64 0)) H41))))
      (Q27 (.exit 0) (up (up (up σ27 25 (σ27 11)) 26 (σ27 2)) 27 v27x28) H27)) (blkQ 0 (thenQ J26 (retQ prg [(.tmp 6), (.tmp 7), (.tmp 8), (.tmp 9)] K))) (up (up (up (up (up (up (up (up (up (up (up (up (up (up (up (up (up (up (up (S0 [a0, a1, a2]) 3 v3x1) 4 v4x3) 6 (.int .i64 0)) 7 (.int .i64 0)) 8 (.int .i64 0)) 9 (.bool false)) 14 v14x5) 15 v15x6) 16 v16x7) 17 v17x9) 18 v18x11) 19 v18x11) 20 v20x13) 21 v21x16) 22 v22x19) 23 v23x21) 24 v24x22) 10 v10x23) 11 (.int .i64 1)) H25)
def O.impl_MoveOf : Nat → Nat × List Nat := fun i => bif Nat.beq i 8 then (0, [0, 2, 1, 3, 4]) else bif Nat.beq i 15 then (0, [0, 1, 2, 3, 4, 5]) else (0, [])
theorem R.impl_MoveOf {a0 a1 a2 : Value} {H : Hp} {K : Value → Hp → Prop} (h : F.impl_MoveOf a0 a1 a2 H K) : HT prg I.impl_MoveOf [a0, a1, a2].toArray H K :=
  HT_of_fev O.impl_MoveOf mixed Try.func42 (by kernel_rfl) (Eq.mpr (by kernel_rfl : fev prg O.impl_MoveOf Try.f42 [a0, a1, a2] H K = F.impl_MoveOf a0 a1 a2 H K) h)

/-! loop.example/g01381/laws.FnExactMoveOf: function 10 -/
def F.laws_FnExactMoveOf (a0 a1 a2 : Value) (H : Hp) (K : Value → Hp → Prop) : Prop :=
  nw (a0 : Value).cells 24 H fun v3x1 H2 =>
  nw (a1 : Value).cells 26 H2 fun v4x3 H4 =>
  ob (vLoadN 2 v3x1 H4) fun v18x5 =>
  HT prg I.laws_szLife [v18x5, (.int .i64 1048576)].toArray H4 fun v20x6 H7 =>
  ob (vInt .lss v20x6 (.int .i64 0)) fun v22x8 =>
  cnd v22x8
    (K (.bool true) H7)
    (ob (vLoadN 3 v4x3 H7) fun v23x9 =>
  HT prg I.laws_szField [v23x9, v20x6].toArray H7 fun v25x10 H11 =>
  ob (vInt .lss v25x10 (.int .i64 0)) fun v27x12 =>
  cnd v27x12
    (K (.bool true) H11)
    (ob (vLoadN 2 v3x1 H11) fun v29x13 =>
  ob (vLoadN 3 v4x3 H11) fun v31x14 =>
  HT prg I.laws_toLife [v29x13].toArray H11 fun v30x15 H16 =>
  Le H11 H16 ∧ (HT prg I.laws_toField [v31x14].toArray H16 fun v32x17 H18 =>
  Le H16 H18 ∧ (HT prg I.spec_MoveOf [v30x15, v32x17, a2].toArray H18 fun v34x19 H20 =>
  Le H18 H20 ∧ (ob (vExt v34x19 0) fun v35x21 =>
  ob (vExt v34x19 1) fun v36x22 =>
  ob (vExt v34x19 2) fun v37x23 =>
  ob (vExt v34x19 3) fun v38x24 =>
  ob (vLoadN 2 v3x1 H20) fun v39x25 =>
  HT prg I.laws_toLife [v39x25].toArray H20 fun v40x26 H27 =>
  nw #[(.slice none 0 0), (.slice none 0 0)] 32 H27 fun v12x28 H29 =>
  st 2 v12x28 v40x26 H29 fun H30 =>
  ob (vLoadN 3 v4x3 H30) fun v41x31 =>
  HT prg I.laws_toField [v41x31].toArray H30 fun v42x32 H33 =>
  nw #[(.int .i64 0), (.int .i64 0), (.slice none 0 0)] 29 H33 fun v13x34 H35 =>
  st 3 v13x34 v42x32 H35 fun H36 =>
  ob (vLoadN 2 v12x28 H36) fun v44x37 =>
  ob (vLoadN 3 v13x34 H36) fun v45x38 =>
  HT prg I.impl_MoveOf [v44x37, v45x38, a2].toArray H36 fun v47x39 H40 =>
  ob (vExt v47x39 0) fun v48x41 =>
  ob (vExt v47x39 1) fun v49x42 =>
  ob (vExt v47x39 2) fun v50x43 =>
  ob (vExt v47x39 3) fun v51x44 =>
  ob (vInt .neq v48x41 v35x21) fun v54x45 =>
  gop v54x45 false (fun K46 => K46 v49x42 H40) H40 fun v56x47 H48 =>
  gop v54x45 false (fun K49 => K49 v36x22 H48) H48 fun v57x50 H51 =>
  gop v54x45 false (fun K52 => ob (vInt .neq v56x47 v57x50) fun u => K52 u H51) H51 fun v58x53 H54 =>
  ob (vPick v54x45 (.bool true) v58x53) fun v59x55 =>
  gop v59x55 false (fun K56 => K56 v50x43 H54) H54 fun v61x57 H58 =>
  gop v59x55 false (fun K59 => K59 v37x23 H58) H58 fun v62x60 H61 =>
  gop v59x55 false (fun K62 => ob (vInt .neq v61x57 v62x60) fun u => K62 u H61) H61 fun v63x63 H64 =>
  ob (vPick v59x55 (.bool true) v63x63) fun v64x65 =>
  gop v64x65 false (fun K66 => K66 v51x44 H64) H64 fun v66x67 H68 =>
  gop v64x65 false (fun K69 => K69 v38x24 H68) H68 fun v67x70 H71 =>
  gop v64x65 false (fun K72 => ob (vBool .neq v66x67 v67x70) fun u => K72 u H71) H71 fun v68x73 H74 =>
  ob (vPick v64x65 (.bool true) v68x73) fun v69x75 =>
  cnd v69x75
    (K (.bool false) H74)
    (ob (vLoadN 2 v12x28 H74) fun v70x76 =>
  ob (vLoadN 2 v3x1 H74) fun v71x77 =>
  HT prg I.laws_toLife [v71x77].toArray H74 fun v72x78 H79 =>
  Le H74 H79 ∧ (HT prg I.laws_eqLife [v70x76, v72x78].toArray H79 fun v73x80 H81 =>
  Le H79 H81 ∧ (ob (vUn .not v73x80) fun v74x82 =>
  cnd v74x82
    (K (.bool false) H81)
    (ob (vLoadN 3 v13x34 H81) fun v75x83 =>
  ob (vLoadN 3 v4x3 H81) fun v76x84 =>
  HT prg I.laws_toField [v76x84].toArray H81 fun v77x85 H86 =>
  Le H81 H86 ∧ (HT prg I.laws_eqField [v75x83, v77x85].toArray H86 fun v78x87 H88 =>
  Le H86 H88 ∧ (ob (vUn .not v78x87) fun v79x89 =>
  cnd v79x89
    (K (.bool false) H88)
    (K (.bool true) H88))))))))))))
def O.laws_FnExactMoveOf : Nat → Nat × List Nat := fun i => bif Nat.beq i 8 then (0, [0, 2, 4, 1, 3, 5, 6, 7, 8, 9, 10, 11, 12, 13, 14]) else bif Nat.beq i 14 then (0, [0, 1, 2, 3, 4]) else bif Nat.beq i 16 then (0, [0, 1, 2, 3, 4]) else (0, [])
theorem R.laws_FnExactMoveOf {a0 a1 a2 : Value} {H : Hp} {K : Value → Hp → Prop} (h : F.laws_FnExactMoveOf a0 a1 a2 H K) : HT prg I.laws_FnExactMoveOf [a0, a1, a2].toArray H K :=
  HT_of_fev O.laws_FnExactMoveOf mixed Try.func10 (by kernel_rfl) (Eq.mpr (by kernel_rfl : fev prg O.laws_FnExactMoveOf Try.f10 [a0, a1, a2] H K = F.laws_FnExactMoveOf a0 a1 a2 H K) h)

/-! loop.example/g01381/laws.szFieldS: function 43 -/
def F.laws_szFieldS (a0 a1 : Value) (H : Hp) (K : Value → Hp → Prop) : Prop :=
  ob (vLenSl a0) fun v8x1 =>
  ob (vInt .sub a1 v8x1) fun v9x2 =>
  ob (vInt .lss v9x2 (.int .i64 0)) fun v11x3 =>
  cnd v11x3
    (K (.int .i64 (-1)) H)
    (jn (fun σ4 H4 =>
    K (σ4 1) H4) fun J4 =>
  lpE (fun Q5 σ5 H5 =>
    ob (vLenSl (σ5 0)) fun v14x6 =>
    ob (vInt .lss (σ5 5) v14x6) fun v15x7 =>
    cnd v15x7
      (ob (vIx 3 (σ5 0) (σ5 5)) fun v20x8 =>
    ob (vLoadN 3 v20x8 H5) fun v21x9 =>
    HT prg I.laws_szField [v21x9, (σ5 1)].toArray H5 fun v23x10 H11 =>
    ob (vInt .lss v23x10 (.int .i64 0)) fun v25x12 =>
    cnd v25x12
      (Q5 .ret (up (up (up (up (up (up (up (up (up (up (up (up (up (up σ5 12 (σ5 5)) 13 (σ5 0)) 14 v14x6) 15 v15x7) 18 (σ5 0)) 19 (σ5 5)) 20 v20x8) 21 v21x9) 22 (σ5 1)) 23 v23x10) 1 v23x10) 24 v23x10) 25 v25x12) 4 (.int .i64 (-1))) H11)
      (ob (vInt .add (σ5 5) (.int .i64 1)) fun v17x13 =>
    Q5 .normal (up (up (up (up (up (up (up (up (up (up (up (up (up (up (up (up σ5 12 (σ5 5)) 13 (σ5 0)) 14 v14x6) 15 v15x7) 18 (σ5 0)) 19 (σ5 5)) 20 v20x8) 21 v21x9) 22 (σ5 1)) 23 v23x10) 1 v23x10) 24 v23x10) 25 v25x12) 16 (σ5 5)) 17 v17x13) 5 v17x13) H11))
      (Q5 (.exit 0) (up (up (up (up σ5 12 (σ5 5)) 13 (σ5 0)) 14 v14x6) 15 v15x7) H5)) (blkQ 0 (thenQ J4 (retQ prg [(.tmp 4)] K))) (up (up (up (up (up (up (up (up (up (S0 [a0, a1]) 4 (.int .i64 0)) 6 a1) 7 a0) 8 v8x1) 9 v9x2) 1 v9x2) 10 v9x2) 11 v11x3) 5 (.int .i64 0)) H)
def O.laws_szFieldS : Nat → Nat × List Nat := fun i => (0, [])
theorem R.laws_szFieldS {a0 a1 : Value} {H : Hp} {K : Value → Hp → Prop} (h : F.laws_szFieldS a0 a1 H K) : HT prg I.laws_szFieldS [a0, a1].toArray H K :=
  HT_of_fev O.laws_szFieldS mixed Try.func43 (by kernel_rfl) (Eq.mpr (by kernel_rfl : fev prg O.laws_szFieldS Try.f43 [a0, a1] H K = F.laws_szFieldS a0 a1 H K) h)

/-! loop.example/g01381/spec.FieldsShared: function 44 -/
def F.spec_FieldsShared (a0 a1 a2 a3 a4 : Value) (H : Hp) (K : Value → Hp → Prop) : Prop :=
  nw (a0 : Value).cells 32 H fun v5x1 H2 =>
  ob (vLenSl a1) fun v17x3 =>
  ob (vInt .lss v17x3 (.int .i64 1)) fun v18x4 =>
  gop v18x4 false (fun K5 => K5 a1 H2) H2 fun v20x6 H7 =>
  gop v18x4 false (fun K8 => ob (vLenSl v20x6) fun u => K8 u H7) H7 fun v21x9 H10 =>
  gop v18x4 false (fun K11 => ob (vInt .gtr v21x9 (.int .i64 16)) fun u => K11 u H10) H10 fun v22x12 H13 =>
  ob (vPick v18x4 (.bool true) v22x12) fun v23x14 =>
  gop v23x14 false (fun K15 => K15 a4 H13) H13 fun v25x16 H17 =>
  gop v23x14 false (fun K18 => HT prg I.spec_l00In [v25x16, (.int .i64 1), (.int .i64 8)].toArray H17 K18) H17 fun v26x19 H20 =>
  gop v23x14 false (fun K21 => ob (vUn .not v26x19) fun u => K21 u H20) H20 fun v27x22 H23 =>
  ob (vPick v23x14 (.bool true) v27x22) fun v28x24 =>
  cnd v28x24
    (K (.tuple #[(.slice none 0 0), (.bool false)]) H23)
    (bS 3 0 #[(.int .i64 0), (.int .i64 0), (.slice none 0 0)] 29 [] H23 fun v29x25 H26 =>
  jn (fun σ27 H27 =>
    K (.tuple #[(σ27 12), (.bool true)]) H27) fun J27 =>
  lpE (fun Q28 σ28 H28 =>
    ob (vLenSl (σ28 1)) fun v32x29 =>
    ob (vInt .lss (σ28 13) v32x29) fun v33x30 =>
    cnd v33x30
      (ob (vLoadN 2 (σ28 5) H28) fun v37x31 =>
    ob (vIx 3 (σ28 1) (σ28 13)) fun v40x32 =>
    ob (vLoadN 3 v40x32 H28) fun v41x33 =>
    HT prg I.spec_RunLife [v37x31, v41x33, (σ28 2), (σ28 3)].toArray H28 fun v44x34 H35 =>
    Le H28 H35 ∧ (ob (vExt v44x34 0) fun v45x36 =>
    ob (vExt v44x34 1) fun v46x37 =>
    nw #[(.int .i64 0), (.int .i64 0), (.slice none 0 0)] 29 H35 fun v14x38 H39 =>
    st 3 v14x38 v45x36 H39 fun H40 =>
    ob (vUn .not v46x37) fun v48x41 =>
    cnd v48x41
      (Q28 .ret (up (up (up (up (up (up (up (up (up (up (up (up (up (up (up (up (up (up (up (up (up σ28 30 (σ28 13)) 31 (σ28 1)) 32 v32x29) 33 v33x30) 37 v37x31) 38 (σ28 1)) 39 (σ28 13)) 40 v40x32) 41 v41x33) 42 (σ28 2)) 43 (σ28 3)) 44 v44x34) 36 v44x34) 45 v45x36) 46 v46x37) 14 v14x38) 15 v46x37) 47 v46x37) 48 v48x41) 10 (.slice none 0 0)) 11 (.bool false)) H40)
      (ob (vLoadN 3 v14x38 H40) fun v50x42 =>
    bS 3 1 #[(.int .i64 0), (.int .i64 0), (.slice none 0 0)] 29 [(0, v50x42)] H40 fun v51x43 H44 =>
    apd 3 40 #[(.int .i64 0), (.int .i64 0), (.slice none 0 0)] 29 (σ28 12) v51x43 H44 fun v52x45 H46 =>
    ob (vInt .add (σ28 13) (.int .i64 1)) fun v35x47 =>
    Q28 .normal (up (up (up (up (up (up (up (up (up (up (up (up (up (up (up (up (up (up (up (up (up (up (up (up (up (up (up σ28 30 (σ28 13)) 31 (σ28 1)) 32 v32x29) 33 v33x30) 37 v37x31) 38 (σ28 1)) 39 (σ28 13)) 40 v40x32) 41 v41x33) 42 (σ28 2)) 43 (σ28 3)) 44 v44x34) 36 v44x34) 45 v45x36) 46 v46x37) 14 v14x38) 15 v46x37) 47 v46x37) 48 v48x41) 49 (σ28 12)) 50 v50x42) 51 v51x43) 52 v52x45) 12 v52x45) 34 (σ28 13)) 35 v35x47) 13 v35x47) H46)))
      (Q28 (.exit 0) (up (up (up (up σ28 30 (σ28 13)) 31 (σ28 1)) 32 v32x29) 33 v33x30) H28)) (blkQ 0 (thenQ J27 (retQ prg [(.tmp 10), (.tmp 11)] K))) (up (up (up (up (up (up (up (up (up (up (up (up (up (up (up (up (up (up (up (S0 [a0, a1, a2, a3, a4]) 5 v5x1) 10 (.slice none 0 0)) 11 (.bool false)) 16 a1) 17 v17x3) 18 v18x4) 19 v18x4) 20 v20x6) 21 v21x9) 22 v22x12) 23 v23x14) 24 v23x14) 25 v25x16) 26 v26x19) 27 v27x22) 28 v28x24) 29 v29x25) 12 v29x25) 13 (.int .i64 0)) H26)
def O.spec_FieldsShared : Nat → Nat × List Nat := fun i => bif Nat.beq i 7 then (0, [0, 1, 2, 3, 4, 5, 6, 7, 8, 9, 10, 11, 12, 13]) else (0, [])
theorem R.spec_FieldsShared {a0 a1 a2 a3 a4 : Value} {H : Hp} {K : Value → Hp → Prop} (h : F.spec_FieldsShared a0 a1 a2 a3 a4 H K) : HT prg I.spec_FieldsShared [a0, a1, a2, a3, a4].toArray H K :=
  HT_of_fev O.spec_FieldsShared mixed Try.func44 (by kernel_rfl) (Eq.mpr (by kernel_rfl : fev prg O.spec_FieldsShared Try.f44 [a0, a1, a2, a3, a4] H K = F.spec_FieldsShared a0 a1 a2 a3 a4 H K) h)

/-! loop.example/g01381/laws.toFieldS: function 45 -/
def F.laws_toFieldS (a0 : Value) (H : Hp) (K : Value → Hp → Prop) : Prop :=
  ob (vLenSl a0) fun v6x1 =>
  mkS 3 40 #[(.int .i64 0), (.int .i64 0), (.slice none 0 0)] 29 v6x1 v6x1 H fun v7x2 H3 =>
  jn (fun σ4 H4 =>
    K (σ4 3) H4) fun J4 =>
  lpE (fun Q5 σ5 H5 =>
    ob (vLenSl (σ5 0)) fun v10x6 =>
    ob (vInt .lss (σ5 4) v10x6) fun v11x7 =>
    cnd v11x7
      (ob (vIx 3 (σ5 0) (σ5 4)) fun v18x8 =>
    ob (vLoadN 3 v18x8 H5) fun v19x9 =>
    HT prg I.laws_toField [v19x9].toArray H5 fun v20x10 H11 =>
    ob (vIx 3 (σ5 3) (σ5 4)) fun v21x12 =>
    st 3 v21x12 v20x10 H11 fun H13 =>
    ob (vInt .add (σ5 4) (.int .i64 1)) fun v13x14 =>
    Q5 .normal (up (up (up (up (up (up (up (up (up (up (up (up (up (up (up σ5 8 (σ5 4)) 9 (σ5 0)) 10 v10x6) 11 v11x7) 14 (σ5 3)) 15 (σ5 4)) 16 (σ5 0)) 17 (σ5 4)) 18 v18x8) 19 v19x9) 20 v20x10) 21 v21x12) 12 (σ5 4)) 13 v13x14) 4 v13x14) H13)
      (Q5 (.exit 0) (up (up (up (up σ5 8 (σ5 4)) 9 (σ5 0)) 10 v10x6) 11 v11x7) H5)) (blkQ 0 (thenQ J4 (retQ prg [(.tmp 2)] K))) (up (up (up (up (up (up (S0 [a0]) 2 (.slice none 0 0)) 5 a0) 6 v6x1) 7 v7x2) 3 v7x2) 4 (.int .i64 0)) H3
def O.laws_toFieldS : Nat → Nat × List Nat := fun i => (0, [])
theorem R.laws_toFieldS {a0 : Value} {H : Hp} {K : Value → Hp → Prop} (h : F.laws_toFieldS a0 H K) : HT prg I.laws_toFieldS [a0].toArray H K :=
  HT_of_fev O.laws_toFieldS mixed Try.func45 (by kernel_rfl) (Eq.mpr (by kernel_rfl : fev prg O.laws_toFieldS Try.f45 [a0] H K = F.laws_toFieldS a0 H K) h)

/-! loop.example/g01381/impl.areWorkers: function 90 -/
def F.impl_areWorkers (a0 : Value) (H : Hp) (K : Value → Hp → Prop) : Prop :=
  HT prg I.impl_within [a0, (.int .i64 1), (.int .i64 8)].toArray H fun v4x1 H2 =>
  K v4x1 H2
def O.impl_areWorkers : Nat → Nat × List Nat := fun i => (0, [])
theorem R.impl_areWorkers {a0 : Value} {H : Hp} {K : Value → Hp → Prop} (h : F.impl_areWorkers a0 H K) : HT prg I.impl_areWorkers [a0].toArray H K :=
  HT_of_fev O.impl_areWorkers mixed Try.func90 (by kernel_rfl) (Eq.mpr (by kernel_rfl : fev prg O.impl_areWorkers Try.f90 [a0] H K = F.impl_areWorkers a0 H K) h)

/-! loop.example/g01381/impl.FieldsShared: function 46 -/
def F.impl_FieldsShared (a0 a1 a2 a3 a4 : Value) (H : Hp) (K : Value → Hp → Prop) : Prop :=
  nw (a0 : Value).cells 32 H fun v5x1 H2 =>
  ob (vLenSl a1) fun v18x3 =>
  ob (vInt .lss v18x3 (.int .i64 1)) fun v19x4 =>
  gop v19x4 false (fun K5 => K5 a1 H2) H2 fun v21x6 H7 =>
  gop v19x4 false (fun K8 => ob (vLenSl v21x6) fun u => K8 u H7) H7 fun v22x9 H10 =>
  gop v19x4 false (fun K11 => ob (vInt .gtr v22x9 (.int .i64 16)) fun u => K11 u H10) H10 fun v23x12 H13 =>
  ob (vPick v19x4 (.bool true) v23x12) fun v24x14 =>
  gop v24x14 false (fun K15 => K15 a4 H13) H13 fun v26x16 H17 =>
  gop v24x14 false (fun K18 => HT prg I.impl_areWorkers [v26x16].toArray H17 K18) H17 fun v27x19 H20 =>
  gop v24x14 false (fun K21 => ob (vUn .not v27x19) fun u => K21 u H20) H20 fun v28x22 H23 =>
  ob (vPick v24x14 (.bool true) v28x22) fun v29x24 =>
  cnd v29x24
    (K (.tuple #[(.slice none 0 0), (.bool false)]) H23)
    (bS 3 0 #[(.int .i64 0), (.int .i64 0), (.slice none 0 0)] 29 [] H23 fun v30x25 H26 =>
  jn (fun σ27 H27 =>
    K (.tuple #[(σ27 12), (.bool true)]) H27) fun J27 =>
  ob (vLenSl a1) fun v32x28 =>
  lpE (fun Q29 σ29 H29 =>
    ob (vInt .lss (σ29 33) (σ29 32)) fun v34x30 =>
    cnd v34x30
      (ob (vIx 3 (σ29 31) (σ29 33)) fun v35x31 =>
    ob (vLoadN 3 v35x31 H29) fun v36x32 =>
    nw #[(.int .i64 0), (.int .i64 0), (.slice none 0 0)] 29 H29 fun v14x33 H34 =>
    st 3 v14x33 v36x32 H34 fun H35 =>
    ob (vLoadN 2 (σ29 5) H35) fun v38x36 =>
    ob (vLoadN 3 v14x33 H35) fun v39x37 =>
    HT prg I.impl_RunLife [v38x36, v39x37, (σ29 2), (σ29 3)].toArray H35 fun v42x38 H39 =>
    ob (vExt v42x38 0) fun v43x40 =>
    ob (vExt v42x38 1) fun v44x41 =>
    nw #[(.int .i64 0), (.int .i64 0), (.slice none 0 0)] 29 H39 fun v15x42 H43 =>
    st 3 v15x42 v43x40 H43 fun H44 =>
    ob (vUn .not v44x41) fun v46x45 =>
    cnd v46x45
      (Q29 .ret (up (up (up (up (up (up (up (up (up (up (up (up (up (up (up (up (up (up σ29 34 v34x30) 35 v35x31) 36 v36x32) 14 v14x33) 38 v38x36) 39 v39x37) 40 (σ29 2)) 41 (σ29 3)) 42 v42x38) 37 v42x38) 43 v43x40) 44 v44x41) 15 v15x42) 16 v44x41) 45 v44x41) 46 v46x45) 10 (.slice none 0 0)) 11 (.bool false)) H44)
      (ob (vLoadN 3 v15x42 H44) fun v48x46 =>
    bS 3 1 #[(.int .i64 0), (.int .i64 0), (.slice none 0 0)] 29 [(0, v48x46)] H44 fun v49x47 H48 =>
    apd 3 40 #[(.int .i64 0), (.int .i64 0), (.slice none 0 0)] 29 (σ29 12) v49x47 H48 fun v50x49 H50 =>
    ob (vInt .add (σ29 33) (.int .i64 1)) fun v51x51 =>
    Q29 .normal (up (up (up (up (up (up (up (up (up (up (up (up (up (up (up (up (up (up (up (up (up (up (up σ29 34 v34x30) 35 v35x31) 36 v36x32) 14 v14x33) 38 v38x36) 39 v39x37) 40 (σ29 2)) 41 (σ29 3)) 42 v42x38) 37 v42x38) 43 v43x40) 44 v44x41) 15 v15x42) 16 v44x41) 45 v44x41) 46 v46x45) 47 (σ29 12)) 48 v48x46) 49 v49x47) 50 v50x49) 12 v50x49) 51 v51x51) 33 v51x51) H50))
      (Q29 (.exit 0) (up σ29 34 v34x30) H29)) (blkQ 0 (thenQ J27 (retQ prg [(.tmp 10), (.tmp 11)] K))) (up (up (up (up (up (up (up (up (up (up (up (up (up (up (up (up (up (up (up (up (up (S0 [a0, a1, a2, a3, a4]) 5 v5x1) 10 (.slice none 0 0)) 11 (.bool false)) 17 a1) 18 v18x3) 19 v19x4) 20 v19x4) 21 v21x6) 22 v22x9) 23 v23x12) 24 v24x14) 25 v24x14) 26 v26x16) 27 v27x19) 28 v28x22) 29 v29x24) 30 v30x25) 12 v30x25) 31 a1) 32 v32x28) 33 (.int .i64 0)) H26)
def O.impl_FieldsShared : Nat → Nat × List Nat := fun i => (0, [])
theorem R.impl_FieldsShared {a0 a1 a2 a3 a4 : Value} {H : Hp} {K : Value → Hp → Prop} (h : F.impl_FieldsShared a0 a1 a2 a3 a4 H K) : HT prg I.impl_FieldsShared [a0, a1, a2, a3, a4].toArray H K :=
  HT_of_fev O.impl_FieldsShared mixed Try.func46 (by kernel_rfl) (Eq.mpr (by kernel_rfl : fev prg O.impl_FieldsShared Try.f46 [a0, a1, a2, a3, a4] H K = F.impl_FieldsShared a0 a1 a2 a3 a4 H K) h)

end Go.Proofs.Ythbffbpdoankjaa
