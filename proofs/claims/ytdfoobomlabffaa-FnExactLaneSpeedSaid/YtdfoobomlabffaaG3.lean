/- Functions' texts over a partial heap. -/
import Derived.Test.YtdfoobomlabffaaG0
namespace Go.Proofs.Ytdfoobomlabffaa
open HL
set_option linter.unusedVariables false
set_option maxRecDepth 100000
set_option maxHeartbeats 4000000
/-! loop.example/g01381/spec.l06Turned: function 85 -/
def F.spec_l06Turned (a0 a1 a2 : Value) (H : Hp) (K : Value → Hp → Prop) : Prop :=
  jn (fun σ1 H1 =>
    K (σ1 7) H1) fun J1 =>
  lpE (fun Q2 σ2 H2 =>
    ob (vInt .lss (σ2 8) (σ2 1)) fun v11x3 =>
    cnd v11x3
      (jn (fun σ4 H4 =>
      ob (vInt .add (σ4 8) (.int .i64 1)) fun v13x5 =>
      Q2 .normal (up (up (up σ4 12 (σ4 8)) 13 v13x5) 8 v13x5) H4) fun J4 =>
    ob (vCI .u64 (σ2 8)) fun v16x6 =>
    ob (vInt .shr (σ2 0) v16x6) fun v17x7 =>
    ob (vInt .and v17x7 (.int .i64 1)) fun v18x8 =>
    ob (vInt .eql v18x8 (.int .i64 1)) fun v19x9 =>
    cnd v19x9
      (ob (vInt .add (σ2 8) (σ2 2)) fun v23x10 =>
      ob (vInt .rem v23x10 (σ2 1)) fun v25x11 =>
      ob (vCI .u64 v25x11) fun v26x12 =>
      ob (vInt .shl (.int .i64 1) v26x12) fun v27x13 =>
      ob (vInt .or (σ2 7) v27x13) fun v28x14 =>
      J4 (up (up (up (up (up (up (up (up (up (up (up (up (up (up (up (up (up (up (up σ2 9 (σ2 8)) 10 (σ2 1)) 11 v11x3) 14 (σ2 0)) 15 (σ2 8)) 16 v16x6) 17 v17x7) 18 v18x8) 19 v19x9) 20 (σ2 7)) 21 (σ2 8)) 22 (σ2 2)) 23 v23x10) 24 (σ2 1)) 25 v25x11) 26 v26x12) 27 v27x13) 28 v28x14) 7 v28x14) H2)
      (J4 (up (up (up (up (up (up (up (up (up σ2 9 (σ2 8)) 10 (σ2 1)) 11 v11x3) 14 (σ2 0)) 15 (σ2 8)) 16 v16x6) 17 v17x7) 18 v18x8) 19 v19x9) H2))
      (Q2 (.exit 0) (up (up (up σ2 9 (σ2 8)) 10 (σ2 1)) 11 v11x3) H2)) (blkQ 0 (thenQ J1 (retQ prg [(.tmp 6)] K))) (up (up (up (S0 [a0, a1, a2]) 6 (.int .i64 0)) 7 (.int .i64 0)) 8 (.int .i64 0)) H
def O.spec_l06Turned : Nat → Bool × List Nat := fun i => (false, [])
theorem R.spec_l06Turned {a0 a1 a2 : Value} {H : Hp} {K : Value → Hp → Prop} (h : F.spec_l06Turned a0 a1 a2 H K) : HT prg I.spec_l06Turned [a0, a1, a2].toArray H K :=
  HT_of_fev O.spec_l06Turned mixed Try.func85 (by kernel_rfl) (Eq.mpr (by kernel_rfl : fev prg O.spec_l06Turned Try.f85 [a0, a1, a2] H K = F.spec_l06Turned a0 a1 a2 H K) h)

/-! loop.example/g01381/spec.ReverseGas: function 45 -/
def F.spec_ReverseGas (a0 : Value) (H : Hp) (K : Value → Hp → Prop) : Prop :=
  nw (a0 : Value).cells 47 H fun v1x1 H2 =>
  nw #[(.int .i64 0), (.int .i64 0), (.int .i64 0), (.slice none 0 0), (.slice none 0 0)] 47 H2 fun v2x3 H4 =>
  HT prg I.spec_l06Is [v1x1].toArray H4 fun v6x5 H6 =>
  ob (vUn .not v6x5) fun v7x7 =>
  cnd v7x7
    (ob (vBuild [(0, 1), (1, 1), (2, 1), (3, 1), (4, 1)] (.agg #[(.int .i64 0), (.int .i64 0), (.int .i64 0), (.slice none 0 0), (.slice none 0 0)]) []) fun v8x8 =>
    st 5 v2x3 v8x8 H6 fun H9 =>
    ob (vLoadN 5 v2x3 H9) fun u10 => K (.tuple #[u10, (.bool false)]) H9)
    (HT prg I.spec_l06Own [v1x1].toArray H6 fun v9x11 H12 =>
  nw #[(.int .i64 0), (.int .i64 0), (.int .i64 0), (.slice none 0 0), (.slice none 0 0)] 47 H12 fun v4x13 H14 =>
  st 5 v4x13 v9x11 H14 fun H15 =>
  jn (fun σ16 H16 =>
    ob (vLoadN 5 (σ16 4) H16) fun v32x17 =>
    st 5 (σ16 2) v32x17 H16 fun H18 =>
    ob (vLoadN 5 (σ16 2) H18) fun u19 => K (.tuple #[u19, (.bool true)]) H18) fun J16 =>
  lpE (fun Q20 σ20 H20 =>
    ob (vFa 3 (σ20 4)) fun v11x21 =>
    ob (vLoad v11x21 H20) fun v12x22 =>
    ob (vLenSl v12x22) fun v13x23 =>
    ob (vInt .lss (σ20 5) v13x23) fun v14x24 =>
    cnd v14x24
      (ob (vFa 3 (σ20 4)) fun v17x25 =>
    ob (vLoad v17x25 H20) fun v18x26 =>
    ob (vFa 3 (σ20 1)) fun v20x27 =>
    ob (vLoad v20x27 H20) fun v21x28 =>
    ob (vIx 1 v21x28 (σ20 5)) fun v23x29 =>
    ob (vLoad v23x29 H20) fun v24x30 =>
    ob (vFa 0 (σ20 1)) fun v25x31 =>
    ob (vLoad v25x31 H20) fun v26x32 =>
    ob (vFa 0 (σ20 1)) fun v27x33 =>
    ob (vLoad v27x33 H20) fun v28x34 =>
    ob (vInt .quo v28x34 (.int .i64 2)) fun v29x35 =>
    HT prg I.spec_l06Turned [v24x30, v26x32, v29x35].toArray H20 fun v30x36 H37 =>
    Le H20 H37 ∧ (ob (vIx 1 v18x26 (σ20 5)) fun v31x38 =>
    st 1 v31x38 v30x36 H37 fun H39 =>
    ob (vInt .add (σ20 5) (.int .i64 1)) fun v16x40 =>
    Q20 .normal (up (up (up (up (up (up (up (up (up (up (up (up (up (up (up (up (up (up (up (up (up (up (up σ20 10 (σ20 5)) 11 v11x21) 12 v12x22) 13 v13x23) 14 v14x24) 17 v17x25) 18 v18x26) 19 (σ20 5)) 20 v20x27) 21 v21x28) 22 (σ20 5)) 23 v23x29) 24 v24x30) 25 v25x31) 26 v26x32) 27 v27x33) 28 v28x34) 29 v29x35) 30 v30x36) 31 v31x38) 15 (σ20 5)) 16 v16x40) 5 v16x40) H39))
      (Q20 (.exit 0) (up (up (up (up (up σ20 10 (σ20 5)) 11 v11x21) 12 v12x22) 13 v13x23) 14 v14x24) H20)) (blkQ 0 (thenQ J16 (retQ prg [(.cell 2 47), (.tmp 3)] K))) (up (up (up (up (up (up (up (up (S0 [a0]) 1 v1x1) 2 v2x3) 3 (.bool false)) 6 v6x5) 7 v7x7) 9 v9x11) 4 v4x13) 5 (.int .i64 0)) H15)
def O.spec_ReverseGas : Nat → Bool × List Nat := fun i => bif Nat.beq i 7 then (false, [0, 1, 2, 3, 4, 5, 6, 7, 8, 9, 10, 11, 12, 13, 14, 15]) else (false, [])
theorem R.spec_ReverseGas {a0 : Value} {H : Hp} {K : Value → Hp → Prop} (h : F.spec_ReverseGas a0 H K) : HT prg I.spec_ReverseGas [a0].toArray H K :=
  HT_of_fev O.spec_ReverseGas mixed Try.func45 (by kernel_rfl) (Eq.mpr (by kernel_rfl : fev prg O.spec_ReverseGas Try.f45 [a0] H K = F.spec_ReverseGas a0 H K) h)

/-! slices.Clone[[]bool,bool]: function 94 -/
def F.slices_Clone_bool_bool (a0 : Value) (H : Hp) (K : Value → Hp → Prop) : Prop :=
  ob (vSlEq .eql a0 (.slice none 0 0)) fun v4x1 =>
  cnd v4x1
    (K (.slice none 0 0) H)
    (bS 1 0 #[(.bool false)] 4 [] H fun v5x2 H3 =>
  apd 1 1 #[(.bool false)] 4 v5x2 a0 H3 fun v7x4 H5 =>
  K v7x4 H5)
def O.slices_Clone_bool_bool : Nat → Bool × List Nat := fun i => (false, [])
theorem R.slices_Clone_bool_bool {a0 : Value} {H : Hp} {K : Value → Hp → Prop} (h : F.slices_Clone_bool_bool a0 H K) : HT prg I.slices_Clone_bool_bool [a0].toArray H K :=
  HT_of_fev O.slices_Clone_bool_bool mixed Try.func94 (by kernel_rfl) (Eq.mpr (by kernel_rfl : fev prg O.slices_Clone_bool_bool Try.f94 [a0] H K = F.slices_Clone_bool_bool a0 H K) h)

/-! (loop.example/g01381/impl.Gas).of: function 86 -/
def F.impl_Gas_of (a0 a1 : Value) (H : Hp) (K : Value → Hp → Prop) : Prop :=
  nw (a0 : Value).cells 47 H fun v2x1 H2 =>
  nw #[(.int .i64 0), (.int .i64 0), (.int .i64 0), (.slice none 0 0), (.slice none 0 0)] 47 H2 fun v4x3 H4 =>
  ob (vFa 0 v2x1) fun v8x5 =>
  ob (vLoad v8x5 H4) fun v9x6 =>
  ob (vFa 1 v2x1) fun v10x7 =>
  ob (vLoad v10x7 H4) fun v11x8 =>
  ob (vFa 2 v2x1) fun v12x9 =>
  ob (vLoad v12x9 H4) fun v13x10 =>
  ob (vFa 4 v2x1) fun v14x11 =>
  ob (vLoad v14x11 H4) fun v15x12 =>
  HT prg I.slices_Clone_bool_bool [v15x12].toArray H4 fun v16x13 H14 =>
  Le H4 H14 ∧ (ob (vBuild [(0, 1), (1, 1), (2, 1), (3, 1), (4, 1)] (.agg #[(.int .i64 0), (.int .i64 0), (.int .i64 0), (.slice none 0 0), (.slice none 0 0)]) [(0, v9x6), (1, v11x8), (2, v13x10), (4, v16x13)]) fun v17x15 =>
  nw #[(.int .i64 0), (.int .i64 0), (.int .i64 0), (.slice none 0 0), (.slice none 0 0)] 47 H14 fun v5x16 H17 =>
  st 5 v5x16 v17x15 H17 fun H18 =>
  jn (fun σ19 H19 =>
    ob (vLoadN 5 (σ19 5) H19) fun v36x20 =>
    st 5 (σ19 4) v36x20 H19 fun H21 =>
    ob (vLoadN 5 (σ19 4) H21) fun u22 => K u22 H21) fun J19 =>
  ob (vFa 3 v2x1) fun v18x23 =>
  ob (vLoad v18x23 H18) fun v19x24 =>
  ob (vLenSl v19x24) fun v20x25 =>
  lpE (fun Q26 σ26 H26 =>
    ob (vInt .lss (σ26 21) (σ26 20)) fun v22x27 =>
    cnd v22x27
      (ob (vIx 1 (σ26 19) (σ26 21)) fun v24x28 =>
    ob (vLoad v24x28 H26) fun v25x29 =>
    ob (vFa 3 (σ26 5)) fun v26x30 =>
    ob (vLoad v26x30 H26) fun v27x31 =>
    callV prg (σ26 1) [(σ26 21), v25x29] H26 fun v31x32 H33 =>
    Le H26 H33 ∧ (bS 1 1 #[(.int .i64 0)] 2 [(0, v31x32)] H33 fun v32x34 H35 =>
    apd 1 8 #[(.int .i64 0)] 2 v27x31 v32x34 H35 fun v33x36 H37 =>
    ob (vFa 3 (σ26 5)) fun v34x38 =>
    st 1 v34x38 v33x36 H37 fun H39 =>
    ob (vInt .add (σ26 21) (.int .i64 1)) fun v35x40 =>
    Q26 .normal (up (up (up (up (up (up (up (up (up (up (up (up (up (up (up (up (up σ26 22 v22x27) 23 (σ26 21)) 24 v24x28) 25 v25x29) 6 (σ26 21)) 7 v25x29) 26 v26x30) 27 v27x31) 28 (σ26 1)) 29 (σ26 21)) 30 v25x29) 31 v31x32) 32 v32x34) 33 v33x36) 34 v34x38) 35 v35x40) 21 v35x40) H39))
      (Q26 (.exit 0) (up σ26 22 v22x27) H26)) (blkQ 0 (thenQ J19 (retQ prg [(.cell 4 47)] K))) (up (up (up (up (up (up (up (up (up (up (up (up (up (up (up (up (up (S0 [a0, a1]) 2 v2x1) 4 v4x3) 8 v8x5) 9 v9x6) 10 v10x7) 11 v11x8) 12 v12x9) 13 v13x10) 14 v14x11) 15 v15x12) 16 v16x13) 17 v17x15) 5 v5x16) 18 v18x23) 19 v19x24) 20 v20x25) 21 (.int .i64 0)) H18)
def O.impl_Gas_of : Nat → Bool × List Nat := fun i => bif Nat.beq i 1 then (false, [0, 1, 2, 3, 4, 5, 6, 7, 8, 9, 10, 11]) else bif Nat.beq i 5 then (false, [0, 1, 2, 3, 4, 5, 6, 7, 8, 9]) else (false, [])
theorem R.impl_Gas_of {a0 a1 : Value} {H : Hp} {K : Value → Hp → Prop} (h : F.impl_Gas_of a0 a1 H K) : HT prg I.impl_Gas_of [a0, a1].toArray H K :=
  HT_of_fev O.impl_Gas_of mixed Try.func86 (by kernel_rfl) (Eq.mpr (by kernel_rfl : fev prg O.impl_Gas_of Try.f86 [a0, a1] H K = F.impl_Gas_of a0 a1 H K) h)

/-! loop.example/g01381/impl.floorMod: function 95 -/
def F.impl_floorMod (a0 a1 : Value) (H : Hp) (K : Value → Hp → Prop) : Prop :=
  ob (vInt .rem a0 a1) fun v7x1 =>
  ob (vInt .add v7x1 a1) fun v9x2 =>
  ob (vInt .rem v9x2 a1) fun v11x3 =>
  K v11x3 H
def O.impl_floorMod : Nat → Bool × List Nat := fun i => (false, [])
theorem R.impl_floorMod {a0 a1 : Value} {H : Hp} {K : Value → Hp → Prop} (h : F.impl_floorMod a0 a1 H K) : HT prg I.impl_floorMod [a0, a1].toArray H K :=
  HT_of_fev O.impl_floorMod mixed Try.func95 (by kernel_rfl) (Eq.mpr (by kernel_rfl : fev prg O.impl_floorMod Try.f95 [a0, a1] H K = F.impl_floorMod a0 a1 H K) h)

/-! (loop.example/g01381/impl.Gas).turned: function 88 -/
def F.impl_Gas_turned (a0 a1 a2 : Value) (H : Hp) (K : Value → Hp → Prop) : Prop :=
  nw (a0 : Value).cells 47 H fun v3x1 H2 =>
  jn (fun σ3 H3 =>
    K (σ3 7) H3) fun J3 =>
  ob (vFa 0 v3x1) fun v9x4 =>
  ob (vLoad v9x4 H2) fun v10x5 =>
  lpE (fun Q6 σ6 H6 =>
    ob (vInt .lss (σ6 11) (σ6 10)) fun v12x7 =>
    cnd v12x7
      (ob (vInt .shr (σ6 1) (σ6 11)) fun v17x8 =>
    ob (vInt .and v17x8 (.int .i64 1)) fun v18x9 =>
    ob (vInt .add (σ6 11) (σ6 2)) fun v21x10 =>
    ob (vFa 0 (σ6 3)) fun v22x11 =>
    ob (vLoad v22x11 H6) fun v23x12 =>
    HT prg I.impl_floorMod [v21x10, v23x12].toArray H6 fun v24x13 H14 =>
    Le H6 H14 ∧ (ob (vInt .shl v18x9 v24x13) fun v25x15 =>
    ob (vInt .or (σ6 7) v25x15) fun v26x16 =>
    ob (vInt .add (σ6 11) (.int .i64 1)) fun v27x17 =>
    Q6 .normal (up (up (up (up (up (up (up (up (up (up (up (up (up (up (up (up (up (up (up σ6 12 v12x7) 13 (σ6 11)) 8 (σ6 11)) 14 (σ6 7)) 15 (σ6 1)) 16 (σ6 11)) 17 v17x8) 18 v18x9) 19 (σ6 11)) 20 (σ6 2)) 21 v21x10) 22 v22x11) 23 v23x12) 24 v24x13) 25 v25x15) 26 v26x16) 7 v26x16) 27 v27x17) 11 v27x17) H14))
      (Q6 (.exit 0) (up σ6 12 v12x7) H6)) (blkQ 0 (thenQ J3 (retQ prg [(.tmp 6)] K))) (up (up (up (up (up (up (S0 [a0, a1, a2]) 3 v3x1) 6 (.int .i64 0)) 7 (.int .i64 0)) 9 v9x4) 10 v10x5) 11 (.int .i64 0)) H2
def O.impl_Gas_turned : Nat → Bool × List Nat := fun i => bif Nat.beq i 5 then (false, [0, 1, 2, 3, 4, 5, 6, 7, 8, 9, 10, 11, 12, 13]) else (false, [])
theorem R.impl_Gas_turned {a0 a1 a2 : Value} {H : Hp} {K : Value → Hp → Prop} (h : F.impl_Gas_turned a0 a1 a2 H K) : HT prg I.impl_Gas_turned [a0, a1, a2].toArray H K :=
  HT_of_fev O.impl_Gas_turned mixed Try.func88 (by kernel_rfl) (Eq.mpr (by kernel_rfl : fev prg O.impl_Gas_turned Try.f88 [a0, a1, a2] H K = F.impl_Gas_turned a0 a1 a2 H K) h)

/-! loop.example/g01381/impl.ReverseGas$1: function 87 -/
def F.impl_ReverseGas_1 (a0 a1 a2 : Value) (H : Hp) (K : Value → Hp → Prop) : Prop :=
  ob (vLoadN 5 a2 H) fun v6x1 =>
  ob (vFa 0 a2) fun v8x2 =>
  ob (vLoad v8x2 H) fun v9x3 =>
  ob (vInt .quo v9x3 (.int .i64 2)) fun v10x4 =>
  HT prg I.impl_Gas_turned [v6x1, a1, v10x4].toArray H fun v11x5 H6 =>
  K v11x5 H6
def O.impl_ReverseGas_1 : Nat → Bool × List Nat := fun i => (false, [])
theorem R.impl_ReverseGas_1 {a0 a1 a2 : Value} {H : Hp} {K : Value → Hp → Prop} (h : F.impl_ReverseGas_1 a0 a1 a2 H K) : HT prg I.impl_ReverseGas_1 [a0, a1, a2].toArray H K :=
  HT_of_fev O.impl_ReverseGas_1 mixed Try.func87 (by kernel_rfl) (Eq.mpr (by kernel_rfl : fev prg O.impl_ReverseGas_1 Try.f87 [a0, a1, a2] H K = F.impl_ReverseGas_1 a0 a1 a2 H K) h)

/-! loop.example/g01381/impl.ReverseGas: function 46 -/
def F.impl_ReverseGas (a0 : Value) (H : Hp) (K : Value → Hp → Prop) : Prop :=
  nw (a0 : Value).cells 47 H fun v1x1 H2 =>
  nw #[(.int .i64 0), (.int .i64 0), (.int .i64 0), (.slice none 0 0), (.slice none 0 0)] 47 H2 fun v2x3 H4 =>
  ob (vLoadN 5 v1x1 H4) fun v4x5 =>
  HT prg I.impl_ValidGas [v4x5].toArray H4 fun v5x6 H7 =>
  ob (vUn .not v5x6) fun v6x8 =>
  cnd v6x8
    (ob (vBuild [(0, 1), (1, 1), (2, 1), (3, 1), (4, 1)] (.agg #[(.int .i64 0), (.int .i64 0), (.int .i64 0), (.slice none 0 0), (.slice none 0 0)]) []) fun v7x9 =>
    st 5 v2x3 v7x9 H7 fun H10 =>
    ob (vLoadN 5 v2x3 H10) fun u11 => K (.tuple #[u11, (.bool false)]) H10)
    (ob (vLoadN 5 v1x1 H7) fun v8x12 =>
  HT prg I.impl_Gas_of [v8x12, (.func (.func I.impl_ReverseGas_1) #[] #[v1x1])].toArray H7 fun v10x13 H14 =>
  st 5 v2x3 v10x13 H14 fun H15 =>
  ob (vLoadN 5 v2x3 H15) fun u16 => K (.tuple #[u16, (.bool true)]) H15)
def O.impl_ReverseGas : Nat → Bool × List Nat := fun i => (false, [])
theorem R.impl_ReverseGas {a0 : Value} {H : Hp} {K : Value → Hp → Prop} (h : F.impl_ReverseGas a0 H K) : HT prg I.impl_ReverseGas [a0].toArray H K :=
  HT_of_fev O.impl_ReverseGas mixed Try.func46 (by kernel_rfl) (Eq.mpr (by kernel_rfl : fev prg O.impl_ReverseGas Try.f46 [a0] H K = F.impl_ReverseGas a0 H K) h)

/-! loop.example/g01381/laws.heldBoolS: function 89 -/
def F.laws_heldBoolS (a0 a1 : Value) (H : Hp) (K : Value → Hp → Prop) : Prop :=
  jn (fun σ1 H1 =>
    K (σ1 1) H1) fun J1 =>
  lpE (fun Q2 σ2 H2 =>
    ob (vLenSl (σ2 0)) fun v8x3 =>
    ob (vInt .lss (σ2 5) v8x3) fun v9x4 =>
    cnd v9x4
      (ob (vIx 1 (σ2 0) (σ2 5)) fun v14x5 =>
    ob (vLoad v14x5 H2) fun v15x6 =>
    ob (vInt .rem (σ2 1) (.int .i64 3)) fun v17x7 =>
    ob (vInt .eql v17x7 (.int .i64 0)) fun v18x8 =>
    ob (vBool .neq v15x6 v18x8) fun v19x9 =>
    cnd v19x9
      (Q2 .ret (up (up (up (up (up (up (up (up (up (up (up (up (up σ2 6 (σ2 5)) 7 (σ2 0)) 8 v8x3) 9 v9x4) 12 (σ2 0)) 13 (σ2 5)) 14 v14x5) 15 v15x6) 16 (σ2 1)) 17 v17x7) 18 v18x8) 19 v19x9) 4 (.int .i64 (-1))) H2)
      (ob (vInt .add (σ2 1) (.int .i64 1)) fun v21x10 =>
    ob (vInt .add (σ2 5) (.int .i64 1)) fun v11x11 =>
    Q2 .normal (up (up (up (up (up (up (up (up (up (up (up (up (up (up (up (up (up (up σ2 6 (σ2 5)) 7 (σ2 0)) 8 v8x3) 9 v9x4) 12 (σ2 0)) 13 (σ2 5)) 14 v14x5) 15 v15x6) 16 (σ2 1)) 17 v17x7) 18 v18x8) 19 v19x9) 20 (σ2 1)) 21 v21x10) 1 v21x10) 10 (σ2 5)) 11 v11x11) 5 v11x11) H2))
      (Q2 (.exit 0) (up (up (up (up σ2 6 (σ2 5)) 7 (σ2 0)) 8 v8x3) 9 v9x4) H2)) (blkQ 0 (thenQ J1 (retQ prg [(.tmp 4)] K))) (up (up (S0 [a0, a1]) 4 (.int .i64 0)) 5 (.int .i64 0)) H
def O.laws_heldBoolS : Nat → Bool × List Nat := fun i => (false, [])
theorem R.laws_heldBoolS {a0 a1 : Value} {H : Hp} {K : Value → Hp → Prop} (h : F.laws_heldBoolS a0 a1 H K) : HT prg I.laws_heldBoolS [a0, a1].toArray H K :=
  HT_of_fev O.laws_heldBoolS mixed Try.func89 (by kernel_rfl) (Eq.mpr (by kernel_rfl : fev prg O.laws_heldBoolS Try.f89 [a0, a1] H K = F.laws_heldBoolS a0 a1 H K) h)

/-! loop.example/g01381/laws.heldGas: function 47 -/
def F.laws_heldGas (a0 a1 : Value) (H : Hp) (K : Value → Hp → Prop) : Prop :=
  nw (a0 : Value).cells 47 H fun v2x1 H2 =>
  ob (vFa 3 v2x1) fun v5x3 =>
  ob (vLoad v5x3 H2) fun v6x4 =>
  HT prg I.laws_heldInt64S [v6x4, a1].toArray H2 fun v8x5 H6 =>
  ob (vInt .lss v8x5 (.int .i64 0)) fun v10x7 =>
  cnd v10x7
    (K (.int .i64 (-1)) H6)
    (ob (vFa 4 v2x1) fun v11x8 =>
  ob (vLoad v11x8 H6) fun v12x9 =>
  HT prg I.laws_heldBoolS [v12x9, v8x5].toArray H6 fun v14x10 H11 =>
  ob (vInt .lss v14x10 (.int .i64 0)) fun v16x12 =>
  cnd v16x12
    (K (.int .i64 (-1)) H11)
    (K v14x10 H11))
def O.laws_heldGas : Nat → Bool × List Nat := fun i => (false, [])
theorem R.laws_heldGas {a0 a1 : Value} {H : Hp} {K : Value → Hp → Prop} (h : F.laws_heldGas a0 a1 H K) : HT prg I.laws_heldGas [a0, a1].toArray H K :=
  HT_of_fev O.laws_heldGas mixed Try.func47 (by kernel_rfl) (Eq.mpr (by kernel_rfl : fev prg O.laws_heldGas Try.f47 [a0, a1] H K = F.laws_heldGas a0 a1 H K) h)

/-! loop.example/g01381/laws.FnExactReverseGas: function 13 -/
def F.laws_FnExactReverseGas (a0 : Value) (H : Hp) (K : Value → Hp → Prop) : Prop :=
  nw (a0 : Value).cells 44 H fun v1x1 H2 =>
  ob (vLoadN 5 v1x1 H2) fun v14x3 =>
  HT prg I.laws_szGas [v14x3, (.int .i64 1048576)].toArray H2 fun v16x4 H5 =>
  ob (vInt .lss v16x4 (.int .i64 0)) fun v18x6 =>
  cnd v18x6
    (K (.bool true) H5)
    (ob (vLoadN 5 v1x1 H5) fun v20x7 =>
  HT prg I.laws_toGas [v20x7].toArray H5 fun v21x8 H9 =>
  HT prg I.spec_ReverseGas [v21x8].toArray H9 fun v22x10 H11 =>
  ob (vExt v22x10 0) fun v23x12 =>
  ob (vExt v22x10 1) fun v24x13 =>
  nw #[(.int .i64 0), (.int .i64 0), (.int .i64 0), (.slice none 0 0), (.slice none 0 0)] 47 H11 fun v4x14 H15 =>
  st 5 v4x14 v23x12 H15 fun H16 =>
  ob (vLoadN 5 v1x1 H16) fun v25x17 =>
  HT prg I.laws_toGas [v25x17].toArray H16 fun v26x18 H19 =>
  nw #[(.int .i64 0), (.int .i64 0), (.int .i64 0), (.slice none 0 0), (.slice none 0 0)] 47 H19 fun v6x20 H21 =>
  st 5 v6x20 v26x18 H21 fun H22 =>
  ob (vLoadN 5 v6x20 H22) fun v28x23 =>
  HT prg I.impl_ReverseGas [v28x23].toArray H22 fun v29x24 H25 =>
  ob (vExt v29x24 0) fun v30x26 =>
  ob (vExt v29x24 1) fun v31x27 =>
  nw #[(.int .i64 0), (.int .i64 0), (.int .i64 0), (.slice none 0 0), (.slice none 0 0)] 47 H25 fun v7x28 H29 =>
  st 5 v7x28 v30x26 H29 fun H30 =>
  ob (vLoadN 5 v7x28 H30) fun v32x31 =>
  ob (vLoadN 5 v4x14 H30) fun v33x32 =>
  HT prg I.laws_eqGas [v32x31, v33x32].toArray H30 fun v34x33 H34 =>
  ob (vUn .not v34x33) fun v35x35 =>
  gop v35x35 false (fun K36 => K36 v31x27 H34) H34 fun v37x37 H38 =>
  gop v35x35 false (fun K39 => K39 v24x13 H38) H38 fun v38x40 H41 =>
  gop v35x35 false (fun K42 => ob (vBool .neq v37x37 v38x40) fun u => K42 u H41) H41 fun v39x43 H44 =>
  ob (vPick v35x35 (.bool true) v39x43) fun v40x45 =>
  cnd v40x45
    (K (.bool false) H44)
    (ob (vLoadN 5 v6x20 H44) fun v41x46 =>
  ob (vLoadN 5 v1x1 H44) fun v42x47 =>
  HT prg I.laws_toGas [v42x47].toArray H44 fun v43x48 H49 =>
  Le H44 H49 ∧ (HT prg I.laws_eqGas [v41x46, v43x48].toArray H49 fun v44x50 H51 =>
  Le H49 H51 ∧ (ob (vUn .not v44x50) fun v45x52 =>
  cnd v45x52
    (K (.bool false) H51)
    (ob (vLoadN 5 v6x20 H51) fun v46x53 =>
  HT prg I.laws_markGas [v46x53, (.int .i64 1)].toArray H51 fun v48x54 H55 =>
  ob (vInt .lss v48x54 (.int .i64 0)) fun v50x56 =>
  gop v50x56 false (fun K57 => ob (vLoadN 5 v7x28 H55) fun u => K57 u H55) H55 fun v52x58 H59 =>
  gop v50x56 false (fun K60 => ob (vLoadN 5 v4x14 H59) fun u => K60 u H59) H59 fun v53x61 H62 =>
  gop v50x56 false (fun K63 => HT prg I.laws_eqGas [v52x58, v53x61].toArray H62 K63) H62 fun v54x64 H65 =>
  gop v50x56 false (fun K66 => ob (vUn .not v54x64) fun u => K66 u H65) H65 fun v55x67 H68 =>
  ob (vPick v50x56 (.bool true) v55x67) fun v56x69 =>
  gop v56x69 false (fun K70 => K70 v31x27 H68) H68 fun v58x71 H72 =>
  gop v56x69 false (fun K73 => K73 v24x13 H72) H72 fun v59x74 H75 =>
  gop v56x69 false (fun K76 => ob (vBool .neq v58x71 v59x74) fun u => K76 u H75) H75 fun v60x77 H78 =>
  ob (vPick v56x69 (.bool true) v60x77) fun v61x79 =>
  cnd v61x79
    (K (.bool false) H78)
    (ob (vLoadN 5 v7x28 H78) fun v62x80 =>
  HT prg I.laws_markGas [v62x80, (.int .i64 1)].toArray H78 fun v64x81 H82 =>
  ob (vLoadN 5 v7x28 H82) fun v65x83 =>
  HT prg I.laws_heldGas [v65x83, (.int .i64 1)].toArray H82 fun v67x84 H85 =>
  ob (vInt .lss v67x84 (.int .i64 0)) fun v69x86 =>
  cnd v69x86
    (K (.bool false) H85)
    (ob (vInt .neq v67x84 v64x81) fun v72x87 =>
  cnd v72x87
    (K (.bool false) H85)
    (ob (vLoadN 5 v1x1 H85) fun v74x88 =>
  HT prg I.laws_toGas [v74x88].toArray H85 fun v75x89 H90 =>
  HT prg I.impl_ReverseGas [v75x89].toArray H90 fun v76x91 H92 =>
  ob (vExt v76x91 0) fun v77x93 =>
  ob (vExt v76x91 1) fun v78x94 =>
  nw #[(.int .i64 0), (.int .i64 0), (.int .i64 0), (.slice none 0 0), (.slice none 0 0)] 47 H92 fun v12x95 H96 =>
  st 5 v12x95 v77x93 H96 fun H97 =>
  ob (vLoadN 5 v12x95 H97) fun v79x98 =>
  ob (vLoadN 5 v4x14 H97) fun v80x99 =>
  HT prg I.laws_eqGas [v79x98, v80x99].toArray H97 fun v81x100 H101 =>
  ob (vUn .not v81x100) fun v82x102 =>
  gop v82x102 false (fun K103 => K103 v78x94 H101) H101 fun v84x104 H105 =>
  gop v82x102 false (fun K106 => K106 v24x13 H105) H105 fun v85x107 H108 =>
  gop v82x102 false (fun K109 => ob (vBool .neq v84x104 v85x107) fun u => K109 u H108) H108 fun v86x110 H111 =>
  ob (vPick v82x102 (.bool true) v86x110) fun v87x112 =>
  cnd v87x112
    (K (.bool false) H111)
    (ob (vLoadN 5 v7x28 H111) fun v88x113 =>
  HT prg I.laws_heldGas [v88x113, (.int .i64 1)].toArray H111 fun v90x114 H115 =>
  ob (vInt .lss v90x114 (.int .i64 0)) fun v92x116 =>
  cnd v92x116
    (K (.bool false) H115)
    (ob (vInt .neq v90x114 v64x81) fun v95x117 =>
  cnd v95x117
    (K (.bool false) H115)
    (K (.bool true) H115)))))))))))
def O.laws_FnExactReverseGas : Nat → Bool × List Nat := fun i => bif Nat.beq i 10 then (false, [0, 1, 2, 3, 4]) else (false, [])
theorem R.laws_FnExactReverseGas {a0 : Value} {H : Hp} {K : Value → Hp → Prop} (h : F.laws_FnExactReverseGas a0 H K) : HT prg I.laws_FnExactReverseGas [a0].toArray H K :=
  HT_of_fev O.laws_FnExactReverseGas mixed Try.func13 (by kernel_rfl) (Eq.mpr (by kernel_rfl : fev prg O.laws_FnExactReverseGas Try.f13 [a0] H K = F.laws_FnExactReverseGas a0 H K) h)

end Go.Proofs.Ytdfoobomlabffaa
