/- Functions' texts over a partial heap. -/
import Derived.Test.YtelcmohhjkgjoaaG0
namespace Go.Proofs.Ytelcmohhjkgjoaa
open HL
set_option linter.unusedVariables false
set_option maxRecDepth 100000
set_option maxHeartbeats 4000000
/-! loop.example/g01381/impl.ringed$1: function 181 -/
def F.impl_ringed_1 (a0 a1 a2 : Value) (H : Hp) (K : Value → Hp → Prop) : Prop :=
  ob (vFa 0 a1) fun v6x1 =>
  ob (vLoad v6x1 H) fun v7x2 =>
  HT prg I.impl_IsRing [a0, v7x2].toArray H fun v8x3 H4 =>
  ob (vUn .not v8x3) fun v9x5 =>
  gop v9x5 false (fun K6 => K6 a0 H4) H4 fun v11x7 H8 =>
  gop v9x5 false (fun K9 => ob (vLenSl v11x7) fun u => K9 u H8) H8 fun v12x10 H11 =>
  gop v9x5 false (fun K12 => ob (vLoad a2 H11) fun u => K12 u H11) H11 fun v13x13 H14 =>
  gop v9x5 false (fun K15 => ob (vIx 1 v13x13 (.int .i64 0)) fun u => K15 u H14) H14 fun v14x16 H17 =>
  gop v9x5 false (fun K18 => ob (vLoad v14x16 H17) fun u => K18 u H17) H17 fun v15x19 H20 =>
  gop v9x5 false (fun K21 => ob (vLenSl v15x19) fun u => K21 u H20) H20 fun v16x22 H23 =>
  gop v9x5 false (fun K24 => ob (vInt .neq v12x10 v16x22) fun u => K24 u H23) H23 fun v17x25 H26 =>
  ob (vPick v9x5 (.bool true) v17x25) fun v18x27 =>
  K v18x27 H26
def O.impl_ringed_1 : Nat → Nat × List Nat := fun i => (0, [])
theorem R.impl_ringed_1 {a0 a1 a2 : Value} {H : Hp} {K : Value → Hp → Prop} (h : F.impl_ringed_1 a0 a1 a2 H K) : HT prg I.impl_ringed_1 [a0, a1, a2].toArray H K :=
  HT_of_fev O.impl_ringed_1 mixed Try.func181 (by kernel_rfl) (Eq.mpr (by kernel_rfl : fev prg O.impl_ringed_1 Try.f181 [a0, a1, a2] H K = F.impl_ringed_1 a0 a1 a2 H K) h)

/-! loop.example/g01381/impl.ringed: function 117 -/
def F.impl_ringed (a0 a1 : Value) (H : Hp) (K : Value → Hp → Prop) : Prop :=
  nw (a0 : Value).cells 43 H fun v2x1 H2 =>
  nw (a1 : Value).cells 111 H2 fun v3x3 H4 =>
  ob (vLoadN 3 v2x1 H4) fun v5x5 =>
  HT prg I.impl_ValidRule [v5x5].toArray H4 fun v6x6 H7 =>
  gop v6x6 true (fun K8 => ob (vLoad v3x3 H7) fun u => K8 u H7) H7 fun v8x9 H10 =>
  gop v6x6 true (fun K11 => K11 (.func (.func I.impl_ringed_1) #[] #[v2x1, v3x3]) H10) H10 fun v9x12 H13 =>
  gop v6x6 true (fun K14 => HT prg I.slices_ContainsFunc_int64Zint64 [v8x9, v9x12].toArray H13 K14) H13 fun v10x15 H16 =>
  gop v6x6 true (fun K17 => ob (vUn .not v10x15) fun u => K17 u H16) H16 fun v11x18 H19 =>
  ob (vPick v6x6 v11x18 (.bool false)) fun v12x20 =>
  K v12x20 H19
def O.impl_ringed : Nat → Nat × List Nat := fun i => (0, [])
theorem R.impl_ringed {a0 a1 : Value} {H : Hp} {K : Value → Hp → Prop} (h : F.impl_ringed a0 a1 H K) : HT prg I.impl_ringed [a0, a1].toArray H K :=
  HT_of_fev O.impl_ringed mixed Try.func117 (by kernel_rfl) (Eq.mpr (by kernel_rfl : fev prg O.impl_ringed Try.f117 [a0, a1] H K = F.impl_ringed a0 a1 H K) h)

/-! loop.example/g01381/impl.floorMod: function 202 -/
def F.impl_floorMod (a0 a1 : Value) (H : Hp) (K : Value → Hp → Prop) : Prop :=
  ob (vInt .rem a0 a1) fun v7x1 =>
  ob (vInt .add v7x1 a1) fun v9x2 =>
  ob (vInt .rem v9x2 a1) fun v11x3 =>
  K v11x3 H
def O.impl_floorMod : Nat → Nat × List Nat := fun i => (0, [])
theorem R.impl_floorMod {a0 a1 : Value} {H : Hp} {K : Value → Hp → Prop} (h : F.impl_floorMod a0 a1 H K) : HT prg I.impl_floorMod [a0, a1].toArray H K :=
  HT_of_fev O.impl_floorMod mixed Try.func202 (by kernel_rfl) (Eq.mpr (by kernel_rfl : fev prg O.impl_floorMod Try.f202 [a0, a1] H K = F.impl_floorMod a0 a1 H K) h)

/-! (loop.example/g01381/impl.Rule).at: function 182 -/
def F.impl_Rule_at (a0 a1 a2 : Value) (H : Hp) (K : Value → Hp → Prop) : Prop :=
  nw (a0 : Value).cells 43 H fun v3x1 H2 =>
  ob (vLenSl a1) fun v11x3 =>
  jn (fun σ4 H4 =>
    ob (vFa 2 (σ4 3)) fun v35x5 =>
    ob (vLoad v35x5 H4) fun v36x6 =>
    ob (vIx 1 v36x6 (σ4 8)) fun v38x7 =>
    ob (vLoad v38x7 H4) fun v39x8 =>
    K v39x8 H4) fun J4 =>
  ob (vFa 1 v3x1) fun v13x9 =>
  ob (vLoad v13x9 H2) fun v14x10 =>
  ob (vInt .sub a2 v14x10) fun v15x11 =>
  lpE (fun Q12 σ12 H12 =>
    ob (vFa 1 (σ12 3)) fun v18x13 =>
    ob (vLoad v18x13 H12) fun v19x14 =>
    ob (vInt .add (σ12 2) v19x14) fun v20x15 =>
    ob (vInt .leq (σ12 9) v20x15) fun v21x16 =>
    cnd v21x16
      (ob (vFa 0 (σ12 3)) fun v25x17 =>
    ob (vLoad v25x17 H12) fun v26x18 =>
    ob (vInt .mul (σ12 8) v26x18) fun v27x19 =>
    HT prg I.impl_floorMod [(σ12 9), (σ12 7)].toArray H12 fun v31x20 H21 =>
    Le H12 H21 ∧ (ob (vIx 1 (σ12 1) v31x20) fun v32x22 =>
    ob (vLoad v32x22 H21) fun v33x23 =>
    ob (vInt .add v27x19 v33x23) fun v34x24 =>
    ob (vInt .add (σ12 9) (.int .i64 1)) fun v23x25 =>
    Q12 .normal (up (up (up (up (up (up (up (up (up (up (up (up (up (up (up (up (up (up (up (up (up σ12 16 (σ12 9)) 17 (σ12 2)) 18 v18x13) 19 v19x14) 20 v20x15) 21 v21x16) 24 (σ12 8)) 25 v25x17) 26 v26x18) 27 v27x19) 28 (σ12 1)) 29 (σ12 9)) 30 (σ12 7)) 31 v31x20) 32 v32x22) 33 v33x23) 34 v34x24) 8 v34x24) 22 (σ12 9)) 23 v23x25) 9 v23x25) H21))
      (Q12 (.exit 0) (up (up (up (up (up (up σ12 16 (σ12 9)) 17 (σ12 2)) 18 v18x13) 19 v19x14) 20 v20x15) 21 v21x16) H12)) (blkQ 0 (thenQ J4 (retQ prg [(.tmp 6)] K))) (up (up (up (up (up (up (up (up (up (up (up (S0 [a0, a1, a2]) 3 v3x1) 6 (.int .i64 0)) 10 a1) 11 v11x3) 7 v11x3) 8 (.int .i64 0)) 12 a2) 13 v13x9) 14 v14x10) 15 v15x11) 9 v15x11) H2
def O.impl_Rule_at : Nat → Nat × List Nat := fun i => bif Nat.beq i 6 then (0, [0, 1, 2, 3, 4, 5, 6, 7, 8, 9, 10, 11]) else (0, [])
theorem R.impl_Rule_at {a0 a1 a2 : Value} {H : Hp} {K : Value → Hp → Prop} (h : F.impl_Rule_at a0 a1 a2 H K) : HT prg I.impl_Rule_at [a0, a1, a2].toArray H K :=
  HT_of_fev O.impl_Rule_at mixed Try.func182 (by kernel_rfl) (Eq.mpr (by kernel_rfl : fev prg O.impl_Rule_at Try.f182 [a0, a1, a2] H K = F.impl_Rule_at a0 a1 a2 H K) h)

/-! (loop.example/g01381/impl.Rule).step: function 118 -/
def F.impl_Rule_step (a0 a1 : Value) (H : Hp) (K : Value → Hp → Prop) : Prop :=
  nw (a0 : Value).cells 43 H fun v2x1 H2 =>
  ob (vLenSl a1) fun v8x3 =>
  mkS 1 8 #[(.int .i64 0)] 2 v8x3 v8x3 H2 fun v9x4 H5 =>
  jn (fun σ6 H6 =>
    K (σ6 5) H6) fun J6 =>
  ob (vLenSl v9x4) fun v11x7 =>
  lpE (fun Q8 σ8 H8 =>
    ob (vInt .lss (σ8 12) (σ8 11)) fun v13x9 =>
    cnd v13x9
      (ob (vLoadN 3 (σ8 2) H8) fun v17x10 =>
    HT prg I.impl_Rule_at [v17x10, (σ8 1), (σ8 12)].toArray H8 fun v20x11 H12 =>
    ob (vIx 1 (σ8 5) (σ8 12)) fun v21x13 =>
    st 1 v21x13 v20x11 H12 fun H14 =>
    ob (vInt .add (σ8 12) (.int .i64 1)) fun v22x15 =>
    Q8 .normal (up (up (up (up (up (up (up (up (up (up (up (up σ8 13 v13x9) 14 (σ8 12)) 6 (σ8 12)) 15 (σ8 5)) 16 (σ8 12)) 17 v17x10) 18 (σ8 1)) 19 (σ8 12)) 20 v20x11) 21 v21x13) 22 v22x15) 12 v22x15) H14)
      (Q8 (.exit 0) (up σ8 13 v13x9) H8)) (blkQ 0 (thenQ J6 (retQ prg [(.tmp 4)] K))) (up (up (up (up (up (up (up (up (up (S0 [a0, a1]) 2 v2x1) 4 (.slice none 0 0)) 7 a1) 8 v8x3) 9 v9x4) 5 v9x4) 10 v9x4) 11 v11x7) 12 (.int .i64 0)) H5
def O.impl_Rule_step : Nat → Nat × List Nat := fun i => (0, [])
theorem R.impl_Rule_step {a0 a1 : Value} {H : Hp} {K : Value → Hp → Prop} (h : F.impl_Rule_step a0 a1 H K) : HT prg I.impl_Rule_step [a0, a1].toArray H K :=
  HT_of_fev O.impl_Rule_step mixed Try.func118 (by kernel_rfl) (Eq.mpr (by kernel_rfl : fev prg O.impl_Rule_step Try.f118 [a0, a1] H K = F.impl_Rule_step a0 a1 H K) h)

/-! loop.example/g01381/impl.RunRing: function 104 -/
def F.impl_RunRing (a0 a1 a2 : Value) (H : Hp) (K : Value → Hp → Prop) : Prop :=
  nw (a0 : Value).cells 43 H fun v3x1 H2 =>
  ob (vLoadN 3 v3x1 H2) fun v9x3 =>
  bS 1 1 #[(.slice none 0 0)] 22 [(0, a1)] H2 fun v11x4 H5 =>
  HT prg I.impl_ringed [v9x3, v11x4].toArray H5 fun v12x6 H7 =>
  ob (vUn .not v12x6) fun v13x8 =>
  gop v13x8 false (fun K9 => K9 a2 H7) H7 fun v15x10 H11 =>
  gop v13x8 false (fun K12 => HT prg I.impl_within [v15x10, (.int .i64 0), (.int .i64 1000)].toArray H11 K12) H11 fun v16x13 H14 =>
  gop v13x8 false (fun K15 => ob (vUn .not v16x13) fun u => K15 u H14) H14 fun v17x16 H17 =>
  ob (vPick v13x8 (.bool true) v17x16) fun v18x18 =>
  cnd v18x18
    (K (.tuple #[(.slice none 0 0), (.bool false)]) H17)
    (HT prg I.slices_Clone_int64Zint64 [a1].toArray H17 fun v20x19 H20 =>
  jn (fun σ21 H21 =>
    K (.tuple #[(σ21 8), (.bool true)]) H21) fun J21 =>
  lpE (fun Q22 σ22 H22 =>
    ob (vInt .lss (σ22 22) (σ22 21)) fun v23x23 =>
    cnd v23x23
      (ob (vLoadN 3 (σ22 3) H22) fun v24x24 =>
    HT prg I.impl_Rule_step [v24x24, (σ22 8)].toArray H22 fun v26x25 H26 =>
    ob (vInt .add (σ22 22) (.int .i64 1)) fun v27x27 =>
    Q22 .normal (up (up (up (up (up (up (up σ22 23 v23x23) 24 v24x24) 25 (σ22 8)) 26 v26x25) 8 v26x25) 27 v27x27) 22 v27x27) H26)
      (Q22 (.exit 0) (up σ22 23 v23x23) H22)) (blkQ 0 (thenQ J21 (retQ prg [(.tmp 6), (.tmp 7)] K))) (up (up (up (up (up (up (up (up (up (up (up (up (up (up (up (up (up (up (S0 [a0, a1, a2]) 3 v3x1) 6 (.slice none 0 0)) 7 (.bool false)) 9 v9x3) 10 a1) 11 v11x4) 12 v12x6) 13 v13x8) 14 v13x8) 15 v15x10) 16 v16x13) 17 v17x16) 18 v18x18) 19 a1) 20 v20x19) 8 v20x19) 21 a2) 22 (.int .i64 0)) H20)
def O.impl_RunRing : Nat → Nat × List Nat := fun i => (0, [])
theorem R.impl_RunRing {a0 a1 a2 : Value} {H : Hp} {K : Value → Hp → Prop} (h : F.impl_RunRing a0 a1 a2 H K) : HT prg I.impl_RunRing [a0, a1, a2].toArray H K :=
  HT_of_fev O.impl_RunRing mixed Try.func104 (by kernel_rfl) (Eq.mpr (by kernel_rfl : fev prg O.impl_RunRing Try.f104 [a0, a1, a2] H K = F.impl_RunRing a0 a1 a2 H K) h)

/-! loop.example/g01381/impl.StepRing: function 36 -/
def F.impl_StepRing (a0 a1 : Value) (H : Hp) (K : Value → Hp → Prop) : Prop :=
  nw (a0 : Value).cells 43 H fun v2x1 H2 =>
  ob (vLoadN 3 v2x1 H2) fun v6x3 =>
  HT prg I.impl_RunRing [v6x3, a1, (.int .i64 1)].toArray H2 fun v8x4 H5 =>
  ob (vExt v8x4 0) fun v9x6 =>
  ob (vExt v8x4 1) fun v10x7 =>
  K (.tuple #[v9x6, v10x7]) H5
def O.impl_StepRing : Nat → Nat × List Nat := fun i => (0, [])
theorem R.impl_StepRing {a0 a1 : Value} {H : Hp} {K : Value → Hp → Prop} (h : F.impl_StepRing a0 a1 H K) : HT prg I.impl_StepRing [a0, a1].toArray H K :=
  HT_of_fev O.impl_StepRing mixed Try.func36 (by kernel_rfl) (Eq.mpr (by kernel_rfl : fev prg O.impl_StepRing Try.f36 [a0, a1] H K = F.impl_StepRing a0 a1 H K) h)

/-! loop.example/g01381/laws.r8Plus: function 37 -/
def F.laws_r8Plus (a0 a1 a2 : Value) (H : Hp) (K : Value → Hp → Prop) : Prop :=
  bS 1 0 #[(.int .i64 0)] 2 [] H fun v9x1 H2 =>
  jn (fun σ3 H3 =>
    K (σ3 7) H3) fun J3 =>
  lpE (fun Q4 σ4 H4 =>
    ob (vLenSl (σ4 0)) fun v12x5 =>
    ob (vInt .lss (σ4 8) v12x5) fun v13x6 =>
    gop v13x6 true (fun K7 => K7 (σ4 8) H4) H4 fun v15x8 H9 =>
    gop v13x6 true (fun K10 => K10 (σ4 1) H9) H9 fun v16x11 H12 =>
    gop v13x6 true (fun K13 => ob (vLenSl v16x11) fun u => K13 u H12) H12 fun v17x14 H15 =>
    gop v13x6 true (fun K16 => ob (vInt .lss v15x8 v17x14) fun u => K16 u H15) H15 fun v18x17 H18 =>
    ob (vPick v13x6 v18x17 (.bool false)) fun v19x19 =>
    cnd v19x19
      (ob (vIx 1 (σ4 0) (σ4 8)) fun v25x20 =>
    ob (vLoad v25x20 H18) fun v26x21 =>
    ob (vIx 1 (σ4 1) (σ4 8)) fun v29x22 =>
    ob (vLoad v29x22 H18) fun v30x23 =>
    ob (vInt .add v26x21 v30x23) fun v31x24 =>
    ob (vInt .rem v31x24 (σ4 2)) fun v33x25 =>
    bS 1 1 #[(.int .i64 0)] 2 [(0, v33x25)] H18 fun v34x26 H27 =>
    apd 1 8 #[(.int .i64 0)] 2 (σ4 7) v34x26 H27 fun v35x28 H29 =>
    ob (vInt .add (σ4 8) (.int .i64 1)) fun v21x30 =>
    Q4 .normal (up (up (up (up (up (up (up (up (up (up (up (up (up (up (up (up (up (up (up (up (up (up (up (up (up (up (up (up σ4 10 (σ4 8)) 11 (σ4 0)) 12 v12x5) 13 v13x6) 14 v13x6) 15 v15x8) 16 v16x11) 17 v17x14) 18 v18x17) 19 v19x19) 22 (σ4 7)) 23 (σ4 0)) 24 (σ4 8)) 25 v25x20) 26 v26x21) 27 (σ4 1)) 28 (σ4 8)) 29 v29x22) 30 v30x23) 31 v31x24) 32 (σ4 2)) 33 v33x25) 34 v34x26) 35 v35x28) 7 v35x28) 20 (σ4 8)) 21 v21x30) 8 v21x30) H29)
      (Q4 (.exit 0) (up (up (up (up (up (up (up (up (up (up σ4 10 (σ4 8)) 11 (σ4 0)) 12 v12x5) 13 v13x6) 14 v13x6) 15 v15x8) 16 v16x11) 17 v17x14) 18 v18x17) 19 v19x19) H18)) (blkQ 0 (thenQ J3 (retQ prg [(.tmp 6)] K))) (up (up (up (up (S0 [a0, a1, a2]) 6 (.slice none 0 0)) 9 v9x1) 7 v9x1) 8 (.int .i64 0)) H2
def O.laws_r8Plus : Nat → Nat × List Nat := fun i => bif Nat.beq i 5 then (0, [0, 1, 2, 3, 4, 5, 6, 7, 8, 9, 10, 11, 12, 13, 14]) else (0, [])
theorem R.laws_r8Plus {a0 a1 a2 : Value} {H : Hp} {K : Value → Hp → Prop} (h : F.laws_r8Plus a0 a1 a2 H K) : HT prg I.laws_r8Plus [a0, a1, a2].toArray H K :=
  HT_of_fev O.laws_r8Plus mixed Try.func37 (by kernel_rfl) (Eq.mpr (by kernel_rfl : fev prg O.laws_r8Plus Try.f37 [a0, a1, a2] H K = F.laws_r8Plus a0 a1 a2 H K) h)

/-! loop.example/g01381/impl.sumOf: function 108 -/
def F.impl_sumOf (a0 : Value) (H : Hp) (K : Value → Hp → Prop) : Prop :=
  jn (fun σ1 H1 =>
    K (σ1 3) H1) fun J1 =>
  ob (vLenSl a0) fun v7x2 =>
  lpE (fun Q3 σ3 H3 =>
    ob (vInt .lss (σ3 8) (σ3 7)) fun v9x4 =>
    cnd v9x4
      (ob (vIx 1 (σ3 6) (σ3 8)) fun v10x5 =>
    ob (vLoad v10x5 H3) fun v11x6 =>
    ob (vInt .add (σ3 3) v11x6) fun v14x7 =>
    ob (vInt .add (σ3 8) (.int .i64 1)) fun v15x8 =>
    Q3 .normal (up (up (up (up (up (up (up (up (up (up σ3 9 v9x4) 10 v10x5) 11 v11x6) 5 v11x6) 12 (σ3 3)) 13 v11x6) 14 v14x7) 3 v14x7) 15 v15x8) 8 v15x8) H3)
      (Q3 (.exit 0) (up σ3 9 v9x4) H3)) (blkQ 0 (thenQ J1 (retQ prg [(.tmp 2)] K))) (up (up (up (up (up (S0 [a0]) 2 (.int .i64 0)) 3 (.int .i64 0)) 6 a0) 7 v7x2) 8 (.int .i64 0)) H
def O.impl_sumOf : Nat → Nat × List Nat := fun i => (0, [])
theorem R.impl_sumOf {a0 : Value} {H : Hp} {K : Value → Hp → Prop} (h : F.impl_sumOf a0 H K) : HT prg I.impl_sumOf [a0].toArray H K :=
  HT_of_fev O.impl_sumOf mixed Try.func108 (by kernel_rfl) (Eq.mpr (by kernel_rfl : fev prg O.impl_sumOf Try.f108 [a0] H K = F.impl_sumOf a0 H K) h)

/-! loop.example/g01381/impl.TotalRule$1: function 107 -/
def F.impl_TotalRule_1 (a0 a1 : Value) (H : Hp) (K : Value → Hp → Prop) : Prop :=
  ob (vLoad a1 H) fun v4x1 =>
  HT prg I.impl_sumOf [a0].toArray H fun v6x2 H3 =>
  Le H H3 ∧ (ob (vIx 1 v4x1 v6x2) fun v7x4 =>
  ob (vLoad v7x4 H3) fun v8x5 =>
  K v8x5 H3)
def O.impl_TotalRule_1 : Nat → Nat × List Nat := fun i => bif Nat.beq i 1 then (0, [0, 1, 2, 3, 4, 5]) else (0, [])
theorem R.impl_TotalRule_1 {a0 a1 : Value} {H : Hp} {K : Value → Hp → Prop} (h : F.impl_TotalRule_1 a0 a1 H K) : HT prg I.impl_TotalRule_1 [a0, a1].toArray H K :=
  HT_of_fev O.impl_TotalRule_1 mixed Try.func107 (by kernel_rfl) (Eq.mpr (by kernel_rfl : fev prg O.impl_TotalRule_1 Try.f107 [a0, a1] H K = F.impl_TotalRule_1 a0 a1 H K) h)

/-! loop.example/g01381/impl.TotalRule: function 38 -/
def F.impl_TotalRule (a0 a1 a2 : Value) (H : Hp) (K : Value → Hp → Prop) : Prop :=
  nw (a2 : Value).cells 22 H fun v5x1 H2 =>
  nw #[(.int .i64 0), (.int .i64 0), (.slice none 0 0)] 43 H2 fun v6x3 H4 =>
  HT prg I.impl_areStates [a0].toArray H4 fun v10x5 H6 =>
  ob (vUn .not v10x5) fun v11x7 =>
  gop v11x7 false (fun K8 => K8 a1 H6) H6 fun v13x9 H10 =>
  gop v11x7 false (fun K11 => HT prg I.impl_isReach [v13x9].toArray H10 K11) H10 fun v14x12 H13 =>
  gop v11x7 false (fun K14 => ob (vUn .not v14x12) fun u => K14 u H13) H13 fun v15x15 H16 =>
  ob (vPick v11x7 (.bool true) v15x15) fun v16x17 =>
  cnd v16x17
    (ob (vBuild [(0, 1), (1, 1), (2, 1)] (.agg #[(.int .i64 0), (.int .i64 0), (.slice none 0 0)]) []) fun v17x18 =>
    st 3 v6x3 v17x18 H16 fun H19 =>
    ob (vLoadN 3 v6x3 H19) fun u20 => K (.tuple #[u20, (.bool false)]) H19)
    (ob (vInt .mul (.int .i64 2) a1) fun v19x21 =>
  ob (vInt .add v19x21 (.int .i64 1)) fun v20x22 =>
  ob (vInt .sub a0 (.int .i64 1)) fun v22x23 =>
  ob (vInt .mul v20x22 v22x23) fun v23x24 =>
  ob (vInt .add v23x24 (.int .i64 1)) fun v24x25 =>
  ob (vLoad v5x1 H16) fun v25x26 =>
  ob (vInt .sub a0 (.int .i64 1)) fun v29x27 =>
  HT prg I.impl_areMany [v25x26, v24x25, v24x25, (.int .i64 0), v29x27].toArray H16 fun v30x28 H29 =>
  ob (vUn .not v30x28) fun v31x30 =>
  cnd v31x30
    (ob (vBuild [(0, 1), (1, 1), (2, 1)] (.agg #[(.int .i64 0), (.int .i64 0), (.slice none 0 0)]) []) fun v32x31 =>
    st 3 v6x3 v32x31 H29 fun H32 =>
    ob (vLoadN 3 v6x3 H32) fun u33 => K (.tuple #[u33, (.bool false)]) H32)
    (HT prg I.impl_made [a0, a1, (.func (.func I.impl_TotalRule_1) #[] #[v5x1])].toArray H29 fun v36x34 H35 =>
  st 3 v6x3 v36x34 H35 fun H36 =>
  ob (vLoadN 3 v6x3 H36) fun u37 => K (.tuple #[u37, (.bool true)]) H36))
def O.impl_TotalRule : Nat → Nat × List Nat := fun i => (0, [])
theorem R.impl_TotalRule {a0 a1 a2 : Value} {H : Hp} {K : Value → Hp → Prop} (h : F.impl_TotalRule a0 a1 a2 H K) : HT prg I.impl_TotalRule [a0, a1, a2].toArray H K :=
  HT_of_fev O.impl_TotalRule mixed Try.func38 (by kernel_rfl) (Eq.mpr (by kernel_rfl : fev prg O.impl_TotalRule Try.f38 [a0, a1, a2] H K = F.impl_TotalRule a0 a1 a2 H K) h)

/-! loop.example/g01381/impl.IsTotal: function 39 -/
def F.impl_IsTotal (a0 : Value) (H : Hp) (K : Value → Hp → Prop) : Prop :=
  nw (a0 : Value).cells 43 H fun v1x1 H2 =>
  ob (vLoadN 3 v1x1 H2) fun v10x3 =>
  HT prg I.impl_ValidRule [v10x3].toArray H2 fun v11x4 H5 =>
  ob (vUn .not v11x4) fun v12x6 =>
  cnd v12x6
    (K (.tuple #[(.bool false), (.bool false)]) H5)
    (opEv.nwM H5 fun v13x7 H8 =>
  jn (fun σ9 H9 =>
    K (.tuple #[(.bool true), (.bool true)]) H9) fun J9 =>
  ob (vFa 2 v1x1) fun v14x10 =>
  ob (vLoad v14x10 H8) fun v15x11 =>
  ob (vLenSl v15x11) fun v16x12 =>
  lpE (fun Q13 σ13 H13 =>
    ob (vInt .lss (σ13 17) (σ13 16)) fun v18x14 =>
    cnd v18x14
      (ob (vIx 1 (σ13 15) (σ13 17)) fun v20x15 =>
    ob (vLoad v20x15 H13) fun v21x16 =>
    ob (vFa 0 (σ13 1)) fun v23x17 =>
    ob (vLoad v23x17 H13) fun v24x18 =>
    ob (vLoadN 3 (σ13 1) H13) fun v25x19 =>
    HT prg I.impl_Rule_cells [v25x19].toArray H13 fun v26x20 H21 =>
    Le H13 H21 ∧ (HT prg I.impl_digitsOf [(σ13 17), v24x18, v26x20].toArray H21 fun v27x22 H23 =>
    Le H21 H23 ∧ (HT prg I.impl_sumOf [v27x22].toArray H23 fun v28x24 H25 =>
    Le H23 H25 ∧ (hp prg (Instr.lookup 95 (σ13 4) v28x24 true) H25 fun v32x26 H27 =>
    ob (vExt v32x26 0) fun v33x28 =>
    ob (vExt v32x26 1) fun v34x29 =>
    gop v34x29 true (fun K30 => K30 v33x28 H27) H27 fun v37x31 H32 =>
    gop v34x29 true (fun K33 => K33 v21x16 H32) H32 fun v38x34 H35 =>
    gop v34x29 true (fun K36 => ob (vInt .neq v37x31 v38x34) fun u => K36 u H35) H35 fun v39x37 H38 =>
    ob (vPick v34x29 v39x37 (.bool false)) fun v40x39 =>
    cnd v40x39
      (Q13 .ret (up (up (up (up (up (up (up (up (up (up (up (up (up (up (up (up (up (up (up (up (up (up (up (up (up (up (up (up (up (up σ13 18 v18x14) 19 (σ13 17)) 20 v20x15) 21 v21x16) 5 (σ13 17)) 6 v21x16) 22 (σ13 17)) 23 v23x17) 24 v24x18) 25 v25x19) 26 v26x20) 27 v27x22) 28 v28x24) 7 v28x24) 30 (σ13 4)) 31 v28x24) 32 v32x26) 29 v32x26) 33 v33x28) 34 v34x29) 8 v33x28) 9 v34x29) 35 v34x29) 36 v34x29) 37 v37x31) 38 v38x34) 39 v39x37) 40 v40x39) 2 (.bool false)) 3 (.bool true)) H38)
      (hp prg (Instr.mapUpdate 95 (σ13 4) v28x24 v21x16) H38 fun _ H40 =>
    ob (vInt .add (σ13 17) (.int .i64 1)) fun v44x41 =>
    Q13 .normal (up (up (up (up (up (up (up (up (up (up (up (up (up (up (up (up (up (up (up (up (up (up (up (up (up (up (up (up (up (up (up (up (up σ13 18 v18x14) 19 (σ13 17)) 20 v20x15) 21 v21x16) 5 (σ13 17)) 6 v21x16) 22 (σ13 17)) 23 v23x17) 24 v24x18) 25 v25x19) 26 v26x20) 27 v27x22) 28 v28x24) 7 v28x24) 30 (σ13 4)) 31 v28x24) 32 v32x26) 29 v32x26) 33 v33x28) 34 v34x29) 8 v33x28) 9 v34x29) 35 v34x29) 36 v34x29) 37 v37x31) 38 v38x34) 39 v39x37) 40 v40x39) 41 (σ13 4)) 42 v28x24) 43 v21x16) 44 v44x41) 17 v44x41) H40)))))
      (Q13 (.exit 0) (up σ13 18 v18x14) H13)) (blkQ 0 (thenQ J9 (retQ prg [(.tmp 2), (.tmp 3)] K))) (up (up (up (up (up (up (up (up (up (up (up (up (S0 [a0]) 1 v1x1) 2 (.bool false)) 3 (.bool false)) 10 v10x3) 11 v11x4) 12 v12x6) 13 v13x7) 4 v13x7) 14 v14x10) 15 v15x11) 16 v16x12) 17 (.int .i64 0)) H8)
def O.impl_IsTotal : Nat → Nat × List Nat := fun i => bif Nat.beq i 7 then (0, [0, 1, 2, 3, 4, 5, 6, 7]) else (0, [])
theorem R.impl_IsTotal {a0 : Value} {H : Hp} {K : Value → Hp → Prop} (h : F.impl_IsTotal a0 H K) : HT prg I.impl_IsTotal [a0].toArray H K :=
  HT_of_fev O.impl_IsTotal mixed Try.func39 (by kernel_rfl) (Eq.mpr (by kernel_rfl : fev prg O.impl_IsTotal Try.f39 [a0] H K = F.impl_IsTotal a0 H K) h)

/-! slices.Reverse[[]int64,int64]: function 177 -/
def F.slices_Reverse_int64Zint64 (a0 : Value) (H : Hp) (K : Value → Hp → Prop) : Prop :=
  ob (vLenSl a0) fun v5x1 =>
  ob (vInt .sub v5x1 (.int .i64 1)) fun v6x2 =>
  lpE (fun Q3 σ3 H3 =>
    ob (vInt .lss (σ3 2) (σ3 3)) fun v9x4 =>
    cnd v9x4
      (ob (vIx 1 (σ3 0) (σ3 3)) fun v20x5 =>
    ob (vLoad v20x5 H3) fun v21x6 =>
    ob (vIx 1 (σ3 0) (σ3 2)) fun v24x7 =>
    ob (vLoad v24x7 H3) fun v25x8 =>
    ob (vIx 1 (σ3 0) (σ3 2)) fun v26x9 =>
    st 1 v26x9 v21x6 H3 fun H10 =>
    ob (vIx 1 (σ3 0) (σ3 3)) fun v27x11 =>
    st 1 v27x11 v25x8 H10 fun H12 =>
    ob (vInt .add (σ3 2) (.int .i64 1)) fun v11x13 =>
    ob (vInt .sub (σ3 3) (.int .i64 1)) fun v13x14 =>
    Q3 .normal (up (up (up (up (up (up (up (up (up (up (up (up (up (up (up (up (up (up (up (up (up (up (up σ3 7 (σ3 2)) 8 (σ3 3)) 9 v9x4) 14 (σ3 0)) 15 (σ3 2)) 16 (σ3 0)) 17 (σ3 3)) 18 (σ3 0)) 19 (σ3 3)) 20 v20x5) 21 v21x6) 22 (σ3 0)) 23 (σ3 2)) 24 v24x7) 25 v25x8) 26 v26x9) 27 v27x11) 10 (σ3 2)) 11 v11x13) 12 (σ3 3)) 13 v13x14) 2 v11x13) 3 v13x14) H12)
      (Q3 (.exit 0) (up (up (up σ3 7 (σ3 2)) 8 (σ3 3)) 9 v9x4) H3)) (blkQ 0 (retQ prg [] K)) (up (up (up (up (up (S0 [a0]) 4 a0) 5 v5x1) 6 v6x2) 2 (.int .i64 0)) 3 v6x2) H
def O.slices_Reverse_int64Zint64 : Nat → Nat × List Nat := fun i => bif Nat.beq i 3 then (0, [0, 1, 2, 3, 4, 5, 6, 7, 8, 9, 10, 11, 12, 13, 14, 15]) else (0, [])
theorem R.slices_Reverse_int64Zint64 {a0 : Value} {H : Hp} {K : Value → Hp → Prop} (h : F.slices_Reverse_int64Zint64 a0 H K) : HT prg I.slices_Reverse_int64Zint64 [a0].toArray H K :=
  HT_of_fev O.slices_Reverse_int64Zint64 mixed Try.func177 (by kernel_rfl) (Eq.mpr (by kernel_rfl : fev prg O.slices_Reverse_int64Zint64 Try.f177 [a0] H K = F.slices_Reverse_int64Zint64 a0 H K) h)

/-! loop.example/g01381/impl.reversed: function 110 -/
def F.impl_reversed (a0 : Value) (H : Hp) (K : Value → Hp → Prop) : Prop :=
  HT prg I.slices_Clone_int64Zint64 [a0].toArray H fun v5x1 H2 =>
  HT prg I.slices_Reverse_int64Zint64 [v5x1].toArray H2 fun v7x3 H4 =>
  K v5x1 H4
def O.impl_reversed : Nat → Nat × List Nat := fun i => (0, [])
theorem R.impl_reversed {a0 : Value} {H : Hp} {K : Value → Hp → Prop} (h : F.impl_reversed a0 H K) : HT prg I.impl_reversed [a0].toArray H K :=
  HT_of_fev O.impl_reversed mixed Try.func110 (by kernel_rfl) (Eq.mpr (by kernel_rfl : fev prg O.impl_reversed Try.f110 [a0] H K = F.impl_reversed a0 H K) h)

/-! loop.example/g01381/impl.MirrorRule$1: function 109 -/
def F.impl_MirrorRule_1 (a0 a1 : Value) (H : Hp) (K : Value → Hp → Prop) : Prop :=
  ob (vLoadN 3 a1 H) fun v4x1 =>
  HT prg I.impl_reversed [a0].toArray H fun v6x2 H3 =>
  Le H H3 ∧ (HT prg I.impl_Rule_tells [v4x1, v6x2].toArray H3 fun v7x4 H5 =>
  Le H3 H5 ∧ (K v7x4 H5))
def O.impl_MirrorRule_1 : Nat → Nat × List Nat := fun i => bif Nat.beq i 1 then (0, [0, 1, 2, 3, 4]) else (0, [])
theorem R.impl_MirrorRule_1 {a0 a1 : Value} {H : Hp} {K : Value → Hp → Prop} (h : F.impl_MirrorRule_1 a0 a1 H K) : HT prg I.impl_MirrorRule_1 [a0, a1].toArray H K :=
  HT_of_fev O.impl_MirrorRule_1 mixed Try.func109 (by kernel_rfl) (Eq.mpr (by kernel_rfl : fev prg O.impl_MirrorRule_1 Try.f109 [a0, a1] H K = F.impl_MirrorRule_1 a0 a1 H K) h)

/-! loop.example/g01381/impl.MirrorRule: function 40 -/
def F.impl_MirrorRule (a0 : Value) (H : Hp) (K : Value → Hp → Prop) : Prop :=
  nw (a0 : Value).cells 43 H fun v1x1 H2 =>
  nw #[(.int .i64 0), (.int .i64 0), (.slice none 0 0)] 43 H2 fun v2x3 H4 =>
  ob (vLoadN 3 v1x1 H4) fun v4x5 =>
  HT prg I.impl_ValidRule [v4x5].toArray H4 fun v5x6 H7 =>
  ob (vUn .not v5x6) fun v6x8 =>
  cnd v6x8
    (ob (vBuild [(0, 1), (1, 1), (2, 1)] (.agg #[(.int .i64 0), (.int .i64 0), (.slice none 0 0)]) []) fun v7x9 =>
    st 3 v2x3 v7x9 H7 fun H10 =>
    ob (vLoadN 3 v2x3 H10) fun u11 => K (.tuple #[u11, (.bool false)]) H10)
    (ob (vFa 0 v1x1) fun v8x12 =>
  ob (vLoad v8x12 H7) fun v9x13 =>
  ob (vFa 1 v1x1) fun v10x14 =>
  ob (vLoad v10x14 H7) fun v11x15 =>
  HT prg I.impl_made [v9x13, v11x15, (.func (.func I.impl_MirrorRule_1) #[] #[v1x1])].toArray H7 fun v13x16 H17 =>
  st 3 v2x3 v13x16 H17 fun H18 =>
  ob (vLoadN 3 v2x3 H18) fun u19 => K (.tuple #[u19, (.bool true)]) H18)
def O.impl_MirrorRule : Nat → Nat × List Nat := fun i => (0, [])
theorem R.impl_MirrorRule {a0 : Value} {H : Hp} {K : Value → Hp → Prop} (h : F.impl_MirrorRule a0 H K) : HT prg I.impl_MirrorRule [a0].toArray H K :=
  HT_of_fev O.impl_MirrorRule mixed Try.func40 (by kernel_rfl) (Eq.mpr (by kernel_rfl : fev prg O.impl_MirrorRule Try.f40 [a0] H K = F.impl_MirrorRule a0 H K) h)

/-! loop.example/g01381/spec.l02Powers: function 178 -/
def F.spec_l02Powers (a0 a1 : Value) (H : Hp) (K : Value → Hp → Prop) : Prop :=
  jn (fun σ1 H1 =>
    K (σ1 5) H1) fun J1 =>
  lpE (fun Q2 σ2 H2 =>
    ob (vInt .gtr (σ2 1) (.int .i64 0)) fun v7x3 =>
    cnd v7x3
      (ob (vInt .mul (σ2 5) (σ2 0)) fun v12x4 =>
    ob (vInt .sub (σ2 1) (.int .i64 1)) fun v9x5 =>
    Q2 .normal (up (up (up (up (up (up (up (up (up σ2 6 (σ2 1)) 7 v7x3) 10 (σ2 5)) 11 (σ2 0)) 12 v12x4) 5 v12x4) 8 (σ2 1)) 9 v9x5) 1 v9x5) H2)
      (Q2 (.exit 0) (up (up σ2 6 (σ2 1)) 7 v7x3) H2)) (blkQ 0 (thenQ J1 (retQ prg [(.tmp 4)] K))) (up (up (S0 [a0, a1]) 4 (.int .i64 0)) 5 (.int .i64 1)) H
def O.spec_l02Powers : Nat → Nat × List Nat := fun i => (0, [])
theorem R.spec_l02Powers {a0 a1 : Value} {H : Hp} {K : Value → Hp → Prop} (h : F.spec_l02Powers a0 a1 H K) : HT prg I.spec_l02Powers [a0, a1].toArray H K :=
  HT_of_fev O.spec_l02Powers mixed Try.func178 (by kernel_rfl) (Eq.mpr (by kernel_rfl : fev prg O.spec_l02Powers Try.f178 [a0, a1] H K = F.spec_l02Powers a0 a1 H K) h)

/-! loop.example/g01381/spec.l02DrawSides: function 111 -/
def F.spec_l02DrawSides (a0 a1 a2 : Value) (H : Hp) (K : Value → Hp → Prop) : Prop :=
  nw #[(.int .i64 0), (.int .i64 0), (.slice none 0 0)] 43 H fun v6x1 H2 =>
  ob (vBuild [(0, 1), (1, 1), (2, 1)] (.agg #[(.int .i64 0), (.int .i64 0), (.slice none 0 0)]) [(0, a1), (1, a2)]) fun v11x3 =>
  nw #[(.int .i64 0), (.int .i64 0), (.slice none 0 0)] 43 H2 fun v7x4 H5 =>
  st 3 v7x4 v11x3 H5 fun H6 =>
  jn (fun σ7 H7 =>
    ob (vLoadN 3 (σ7 7) H7) fun v29x8 =>
    st 3 (σ7 6) v29x8 H7 fun H9 =>
    ob (vLoadN 3 (σ7 6) H9) fun u10 => K u10 H9) fun J7 =>
  ob (vInt .mul (.int .i64 2) a2) fun v14x11 =>
  ob (vInt .add v14x11 (.int .i64 1)) fun v15x12 =>
  HT prg I.spec_l02Powers [a1, v15x12].toArray H6 fun v16x13 H14 =>
  lpE (fun Q15 σ15 H15 =>
    ob (vInt .gtr (σ15 8) (.int .i64 0)) fun v18x16 =>
    cnd v18x16
      (ob (vFa 2 (σ15 7)) fun v21x17 =>
    ob (vLoad v21x17 H15) fun v22x18 =>
    HT prg I.pspec_l00Src_pick [(σ15 0), (σ15 1)].toArray H15 fun v25x19 H20 =>
    Le H15 H20 ∧ (bS 1 1 #[(.int .i64 0)] 2 [(0, v25x19)] H20 fun v26x21 H22 =>
    apd 1 8 #[(.int .i64 0)] 2 v22x18 v26x21 H22 fun v27x23 H24 =>
    ob (vFa 2 (σ15 7)) fun v28x25 =>
    st 1 v28x25 v27x23 H24 fun H26 =>
    ob (vInt .sub (σ15 8) (.int .i64 1)) fun v20x27 =>
    Q15 .normal (up (up (up (up (up (up (up (up (up (up (up (up (up σ15 17 (σ15 8)) 18 v18x16) 21 v21x17) 22 v22x18) 23 (σ15 0)) 24 (σ15 1)) 25 v25x19) 26 v26x21) 27 v27x23) 28 v28x25) 19 (σ15 8)) 20 v20x27) 8 v20x27) H26))
      (Q15 (.exit 0) (up (up σ15 17 (σ15 8)) 18 v18x16) H15)) (blkQ 0 (thenQ J7 (retQ prg [(.cell 6 43)] K))) (up (up (up (up (up (up (up (up (up (up (up (S0 [a0, a1, a2]) 6 v6x1) 9 a1) 10 a2) 11 v11x3) 7 v7x4) 12 a1) 13 a2) 14 v14x11) 15 v15x12) 16 v16x13) 8 v16x13) H14
def O.spec_l02DrawSides : Nat → Nat × List Nat := fun i => bif Nat.beq i 5 then (0, [0, 1, 2, 3, 4, 5, 6, 7, 8]) else (0, [])
theorem R.spec_l02DrawSides {a0 a1 a2 : Value} {H : Hp} {K : Value → Hp → Prop} (h : F.spec_l02DrawSides a0 a1 a2 H K) : HT prg I.spec_l02DrawSides [a0, a1, a2].toArray H K :=
  HT_of_fev O.spec_l02DrawSides mixed Try.func111 (by kernel_rfl) (Eq.mpr (by kernel_rfl : fev prg O.spec_l02DrawSides Try.f111 [a0, a1, a2] H K = F.spec_l02DrawSides a0 a1 a2 H K) h)

/-! loop.example/g01381/spec.l02DrawSides: function 111 -/
def F.spec_l02DrawSidesX (a0 a1 a2 : Value) (H : Hp) (K : Value → Hp → Prop) : Prop :=
  nw #[(.int .i64 0), (.int .i64 0), (.slice none 0 0)] 43 H fun v6x1 H2 =>
  ob (vBuild [(0, 1), (1, 1), (2, 1)] (.agg #[(.int .i64 0), (.int .i64 0), (.slice none 0 0)]) [(0, a1), (1, a2)]) fun v11x3 =>
  nw #[(.int .i64 0), (.int .i64 0), (.slice none 0 0)] 43 H2 fun v7x4 H5 =>
  st 3 v7x4 v11x3 H5 fun H6 =>
  jn (fun σ7 H7 =>
    ob (vLoadN 3 (σ7 7) H7) fun v29x8 =>
    st 3 (σ7 6) v29x8 H7 fun H9 =>
    ob (vLoadN 3 (σ7 6) H9) fun u10 => K u10 H9) fun J7 =>
  ob (vInt .mul (.int .i64 2) a2) fun v14x11 =>
  ob (vInt .add v14x11 (.int .i64 1)) fun v15x12 =>
  HT prg I.spec_l02Powers [a1, v15x12].toArray H6 fun v16x13 H14 =>
  lpE (fun Q15 σ15 H15 =>
    ob (vInt .gtr (σ15 8) (.int .i64 0)) fun v18x16 =>
    cnd v18x16
      ((ob (vFa 2 (σ15 7)) fun v21x17 =>
    ob (vLoad v21x17 H15) fun v22x18 =>
    HT prg I.pspec_l00Src_pick [(σ15 0), (σ15 1)].toArray H15 fun v25x19 H20 =>
    bS 1 1 #[(.int .i64 0)] 2 [(0, v25x19)] H20 fun v26x21 H22 =>
    apd 1 8 #[(.int .i64 0)] 2 v22x18 v26x21 H22 fun v27x23 H24 =>
    ob (vFa 2 (σ15 7)) fun v28x25 =>
    st 1 v28x25 v27x23 H24 fun H26 =>
    ob (vInt .sub (σ15 8) (.int .i64 1)) fun v20x27 =>
    Q15 .normal (up (up (up (up (up (up (up (up (up (up (up (up (up σ15 17 (σ15 8)) 18 v18x16) 21 v21x17) 22 v22x18) 23 (σ15 0)) 24 (σ15 1)) 25 v25x19) 26 v26x21) 27 v27x23) 28 v28x25) 19 (σ15 8)) 20 v20x27) 8 v20x27) H26) ∧ (ob (vFa 2 (σ15 7)) fun v21x28 =>
    HT prg I.pspec_l00Src_pick [(σ15 0), (σ15 1)].toArray H15 fun v25x29 H30 =>
    ob (vLoad v21x28 H30) fun v22x31 =>
    bS 1 1 #[(.int .i64 0)] 2 [(0, v25x29)] H30 fun v26x32 H33 =>
    apd 1 8 #[(.int .i64 0)] 2 v22x31 v26x32 H33 fun v27x34 H35 =>
    ob (vFa 2 (σ15 7)) fun v28x36 =>
    st 1 v28x36 v27x34 H35 fun H37 =>
    ob (vInt .sub (σ15 8) (.int .i64 1)) fun v20x38 =>
    Q15 .normal (up (up (up (up (up (up (up (up (up (up (up (up (up σ15 17 (σ15 8)) 18 v18x16) 21 v21x28) 23 (σ15 0)) 24 (σ15 1)) 25 v25x29) 22 v22x31) 26 v26x32) 27 v27x34) 28 v28x36) 19 (σ15 8)) 20 v20x38) 8 v20x38) H37))
      (Q15 (.exit 0) (up (up σ15 17 (σ15 8)) 18 v18x16) H15)) (blkQ 0 (thenQ J7 (retQ prg [(.cell 6 43)] K))) (up (up (up (up (up (up (up (up (up (up (up (S0 [a0, a1, a2]) 6 v6x1) 9 a1) 10 a2) 11 v11x3) 7 v7x4) 12 a1) 13 a2) 14 v14x11) 15 v15x12) 16 v16x13) 8 v16x13) H14
def O.spec_l02DrawSidesX : Nat → Nat × List Nat := fun i => bif Nat.beq i 5 then (2, [1001, 1004, 0, 1, 2, 3, 4, 5, 6, 7, 8, 0, 2, 3, 4, 1, 5, 6, 7, 8]) else (0, [])
theorem R.spec_l02DrawSidesX {a0 a1 a2 : Value} {H : Hp} {K : Value → Hp → Prop} (h : F.spec_l02DrawSidesX a0 a1 a2 H K) : HT prg I.spec_l02DrawSides [a0, a1, a2].toArray H K :=
  HT_of_fev O.spec_l02DrawSidesX mixed Try.func111 (by kernel_rfl) (Eq.mpr (by kernel_rfl : fev prg O.spec_l02DrawSidesX Try.f111 [a0, a1, a2] H K = F.spec_l02DrawSidesX a0 a1 a2 H K) h)

/-! loop.example/g01381/spec.R8Rule: function 41 -/
def F.spec_R8Rule (a0 a1 a2 : Value) (H : Hp) (K : Value → Hp → Prop) : Prop :=
  nw #[(.int .i64 0), (.int .i64 0), (.slice none 0 0)] 43 H fun v6x1 H2 =>
  HT prg I.spec_l00From [a0].toArray H2 fun v9x3 H4 =>
  HT prg I.spec_l02DrawSides [v9x3, a1, a2].toArray H4 fun v13x5 H6 =>
  st 3 v6x1 v13x5 H6 fun H7 =>
  ob (vLoadN 3 v6x1 H7) fun u8 => K u8 H7
def O.spec_R8Rule : Nat → Nat × List Nat := fun i => (0, [])
theorem R.spec_R8Rule {a0 a1 a2 : Value} {H : Hp} {K : Value → Hp → Prop} (h : F.spec_R8Rule a0 a1 a2 H K) : HT prg I.spec_R8Rule [a0, a1, a2].toArray H K :=
  HT_of_fev O.spec_R8Rule mixed Try.func41 (by kernel_rfl) (Eq.mpr (by kernel_rfl : fev prg O.spec_R8Rule Try.f41 [a0, a1, a2] H K = F.spec_R8Rule a0 a1 a2 H K) h)

/-! loop.example/g01381/laws.FnTables: function 6 -/
def F.laws_FnTables (a0 a1 : Value) (H : Hp) (K : Value → Hp → Prop) : Prop :=
  HT prg I.laws_r8Long [a0, a1].toArray H fun v45x1 H2 =>
  cnd v45x1
    (K (.bool true) H2)
    (HT prg I.laws_r8At [a1, (.int .i64 40), (.int .i64 256)].toArray H2 fun v47x3 H4 =>
  HT prg I.impl_RuleOfNumber [v47x3].toArray H4 fun v50x5 H6 =>
  ob (vExt v50x5 0) fun v51x7 =>
  ob (vExt v50x5 1) fun v52x8 =>
  nw #[(.int .i64 0), (.int .i64 0), (.slice none 0 0)] 43 H6 fun v6x9 H10 =>
  st 3 v6x9 v51x7 H10 fun H11 =>
  ob (vLoadN 3 v6x9 H11) fun v54x12 =>
  HT prg I.impl_NumberOfRule [v54x12].toArray H11 fun v55x13 H14 =>
  ob (vExt v55x13 0) fun v56x15 =>
  ob (vExt v55x13 1) fun v57x16 =>
  ob (vLoadN 3 v6x9 H14) fun v59x17 =>
  HT prg I.impl_ActiveShare [v59x17].toArray H14 fun v60x18 H19 =>
  ob (vExt v60x18 0) fun v61x20 =>
  ob (vExt v60x18 1) fun v62x21 =>
  ob (vLoadN 3 v6x9 H19) fun v64x22 =>
  HT prg I.impl_SenseOf [v64x22].toArray H19 fun v65x23 H24 =>
  ob (vExt v65x23 0) fun v66x25 =>
  ob (vExt v65x23 1) fun v67x26 =>
  jn (fun σ27 H27 =>
    ob (vUn .not (σ27 7)) fun v80x28 =>
    gop v80x28 false (fun K29 => K29 (σ27 9) H27) H27 fun v82x30 H31 =>
    gop v80x28 false (fun K32 => ob (vUn .not v82x30) fun u => K32 u H31) H31 fun v83x33 H34 =>
    ob (vPick v80x28 (.bool true) v83x33) fun v84x35 =>
    gop v84x35 false (fun K36 => K36 (σ27 11) H34) H34 fun v86x37 H38 =>
    gop v84x35 false (fun K39 => ob (vUn .not v86x37) fun u => K39 u H38) H38 fun v87x40 H41 =>
    ob (vPick v84x35 (.bool true) v87x40) fun v88x42 =>
    gop v88x42 false (fun K43 => K43 (σ27 13) H41) H41 fun v90x44 H45 =>
    gop v88x42 false (fun K46 => ob (vUn .not v90x44) fun u => K46 u H45) H45 fun v91x47 H48 =>
    ob (vPick v88x42 (.bool true) v91x47) fun v92x49 =>
    gop v92x49 false (fun K50 => K50 (σ27 8) H48) H48 fun v94x51 H52 =>
    gop v92x49 false (fun K53 => K53 (σ27 5) H52) H52 fun v95x54 H55 =>
    gop v92x49 false (fun K56 => ob (vInt .neq v94x51 v95x54) fun u => K56 u H55) H55 fun v96x57 H58 =>
    ob (vPick v92x49 (.bool true) v96x57) fun v97x59 =>
    gop v97x59 false (fun K60 => K60 (σ27 10) H58) H58 fun v99x61 H62 =>
    gop v97x59 false (fun K63 => fA .mul v99x61 (.float .f32 1090519040) H62 K63) H62 fun v100x64 H65 =>
    gop v97x59 false (fun K66 => K66 (σ27 14) H65) H65 fun v101x67 H68 =>
    gop v97x59 false (fun K69 => ob (vCF .f32 v101x67) fun u => K69 u H68) H68 fun v102x70 H71 =>
    gop v97x59 false (fun K72 => ob (vFcmp .neq v100x64 v102x70) fun u => K72 u H71) H71 fun v103x73 H74 =>
    ob (vPick v97x59 (.bool true) v103x73) fun v104x75 =>
    gop v104x75 false (fun K76 => K76 (σ27 12) H74) H74 fun v106x77 H78 =>
    gop v104x75 false (fun K79 => ob (vFcmp .lss v106x77 (.float .f32 0)) fun u => K79 u H78) H78 fun v107x80 H81 =>
    ob (vPick v104x75 (.bool true) v107x80) fun v108x82 =>
    gop v108x82 false (fun K83 => K83 (σ27 12) H81) H81 fun v110x84 H85 =>
    gop v108x82 false (fun K86 => ob (vFcmp .gtr v110x84 (.float .f32 1065353216)) fun u => K86 u H85) H85 fun v111x87 H88 =>
    ob (vPick v108x82 (.bool true) v111x87) fun v112x89 =>
    gop v112x89 false (fun K90 => K90 (σ27 12) H88) H88 fun v114x91 H92 =>
    gop v112x89 false (fun K93 => ob (vFcmp .eql v114x91 (.float .f32 0)) fun u => K93 u H92) H92 fun v115x94 H95 =>
    gop v112x89 false (fun K96 => K96 (σ27 5) H95) H95 fun v116x97 H98 =>
    gop v112x89 false (fun K99 => ob (vInt .eql v116x97 (.int .i64 0)) fun u => K99 u H98) H98 fun v117x100 H101 =>
    gop v112x89 false (fun K102 => K102 v117x100 H101) H101 fun v118x103 H104 =>
    gop v118x103 false (fun K105 => K105 (σ27 5) H104) H104 fun v119x106 H107 =>
    gop v118x103 false (fun K108 => ob (vInt .eql v119x106 (.int .i64 255)) fun u => K108 u H107) H107 fun v120x109 H110 =>
    gop v112x89 false (fun K111 => ob (vPick v118x103 (.bool true) v120x109) fun u => K111 u H110) H110 fun v121x112 H113 =>
    gop v112x89 false (fun K114 => ob (vBool .neq v115x94 v121x112) fun u => K114 u H113) H113 fun v122x115 H116 =>
    ob (vPick v112x89 (.bool true) v122x115) fun v123x117 =>
    cnd v123x117
      (K (.bool false) H116)
      (HT prg I.laws_r8At [(σ27 1), (.int .i64 41), (.int .i64 2)].toArray H116 fun v125x118 H119 =>
    ob (vInt .add (.int .i64 2) v125x118) fun v126x120 =>
    HT prg I.laws_r8At [(σ27 1), (.int .i64 42), (.int .i64 3)].toArray H119 fun v130x121 H122 =>
    ob (vInt .mul (.int .i64 2) v130x121) fun v131x123 =>
    ob (vInt .add (.int .i64 1) v131x123) fun v132x124 =>
    HT prg I.spec_R8Ring [(σ27 0), v126x120, v132x124].toArray H122 fun v133x125 H126 =>
    HT prg I.impl_SumRule [v126x120, v133x125].toArray H126 fun v137x127 H128 =>
    ob (vExt v137x127 0) fun v138x129 =>
    ob (vExt v137x127 1) fun v139x130 =>
    nw #[(.int .i64 0), (.int .i64 0), (.slice none 0 0)] 43 H128 fun v18x131 H132 =>
    st 3 v18x131 v138x129 H132 fun H133 =>
    ob (vLoadN 3 v18x131 H133) fun v141x134 =>
    HT prg I.impl_IsSumRule [v141x134].toArray H133 fun v142x135 H136 =>
    ob (vExt v142x135 0) fun v143x137 =>
    ob (vExt v142x135 1) fun v144x138 =>
    HT prg I.laws_r8At [(σ27 1), (.int .i64 43), (.int .i64 12)].toArray H136 fun v146x139 H140 =>
    ob (vInt .add (.int .i64 1) v146x139) fun v147x141 =>
    HT prg I.spec_R8Ring [(σ27 0), v126x120, v147x141].toArray H140 fun v151x142 H143 =>
    HT prg I.spec_R8Ring [(σ27 1), v126x120, v147x141].toArray H143 fun v155x144 H145 =>
    ob (vLoadN 3 v18x131 H145) fun v157x146 =>
    HT prg I.impl_StepRing [v157x146, v151x142].toArray H145 fun v159x147 H148 =>
    ob (vExt v159x147 0) fun v160x149 =>
    ob (vExt v159x147 1) fun v161x150 =>
    ob (vLoadN 3 v18x131 H148) fun v163x151 =>
    HT prg I.impl_StepRing [v163x151, v155x144].toArray H148 fun v165x152 H153 =>
    ob (vExt v165x152 0) fun v166x154 =>
    ob (vExt v165x152 1) fun v167x155 =>
    ob (vLoadN 3 v18x131 H153) fun v169x156 =>
    HT prg I.laws_r8Plus [v151x142, v155x144, v126x120].toArray H153 fun v173x157 H158 =>
    Le H153 H158 ∧ (HT prg I.impl_StepRing [v169x156, v173x157].toArray H158 fun v174x159 H160 =>
    Le H158 H160 ∧ (ob (vExt v174x159 0) fun v175x161 =>
    ob (vExt v174x159 1) fun v176x162 =>
    ob (vUn .not v139x130) fun v178x163 =>
    gop v178x163 false (fun K164 => K164 v144x138 H160) H160 fun v180x165 H166 =>
    gop v178x163 false (fun K167 => ob (vUn .not v180x165) fun u => K167 u H166) H166 fun v181x168 H169 =>
    ob (vPick v178x163 (.bool true) v181x168) fun v182x170 =>
    gop v182x170 false (fun K171 => K171 v161x150 H169) H169 fun v184x172 H173 =>
    gop v182x170 false (fun K174 => ob (vUn .not v184x172) fun u => K174 u H173) H173 fun v185x175 H176 =>
    ob (vPick v182x170 (.bool true) v185x175) fun v186x177 =>
    gop v186x177 false (fun K178 => K178 v167x155 H176) H176 fun v188x179 H180 =>
    gop v186x177 false (fun K181 => ob (vUn .not v188x179) fun u => K181 u H180) H180 fun v189x182 H183 =>
    ob (vPick v186x177 (.bool true) v189x182) fun v190x184 =>
    gop v190x184 false (fun K185 => K185 v176x162 H183) H183 fun v192x186 H187 =>
    gop v190x184 false (fun K188 => ob (vUn .not v192x186) fun u => K188 u H187) H187 fun v193x189 H190 =>
    ob (vPick v190x184 (.bool true) v193x189) fun v194x191 =>
    gop v194x191 false (fun K192 => K192 v143x137 H190) H190 fun v196x193 H194 =>
    gop v194x191 false (fun K195 => ob (vUn .not v196x193) fun u => K195 u H194) H194 fun v197x196 H197 =>
    ob (vPick v194x191 (.bool true) v197x196) fun v198x198 =>
    gop v198x198 false (fun K199 => K199 v175x161 H197) H197 fun v200x200 H201 =>
    gop v198x198 false (fun K202 => K202 v160x149 H201) H201 fun v201x203 H204 =>
    gop v198x198 false (fun K205 => K205 v166x154 H204) H204 fun v202x206 H207 =>
    gop v198x198 false (fun K208 => K208 v126x120 H207) H207 fun v203x209 H210 =>
    gop v198x198 false (fun K211 => HT prg I.laws_r8Plus [v201x203, v202x206, v203x209].toArray H210 K211) H210 fun v204x212 H213 =>
    gop v198x198 false (fun K214 => HT prg I.laws_r8Same [v200x200, v204x212].toArray H213 K214) H213 fun v205x215 H216 =>
    gop v198x198 false (fun K217 => ob (vUn .not v205x215) fun u => K217 u H216) H216 fun v206x218 H219 =>
    ob (vPick v198x198 (.bool true) v206x218) fun v207x220 =>
    cnd v207x220
      (K (.bool false) H219)
      (ob (vInt .sub v126x120 (.int .i64 1)) fun v211x221 =>
    ob (vInt .mul (.int .i64 3) v211x221) fun v212x222 =>
    ob (vInt .add v212x222 (.int .i64 1)) fun v213x223 =>
    HT prg I.spec_R8Ring [(σ27 1), v126x120, v213x223].toArray H219 fun v214x224 H225 =>
    HT prg I.impl_TotalRule [v126x120, (.int .i64 1), v214x224].toArray H225 fun v218x226 H227 =>
    ob (vExt v218x226 0) fun v219x228 =>
    ob (vExt v218x226 1) fun v220x229 =>
    nw #[(.int .i64 0), (.int .i64 0), (.slice none 0 0)] 43 H227 fun v32x230 H231 =>
    st 3 v32x230 v219x228 H231 fun H232 =>
    ob (vLoadN 3 v32x230 H232) fun v222x233 =>
    HT prg I.impl_IsTotal [v222x233].toArray H232 fun v223x234 H235 =>
    ob (vExt v223x234 0) fun v224x236 =>
    ob (vExt v223x234 1) fun v225x237 =>
    ob (vLoadN 3 v32x230 H235) fun v227x238 =>
    HT prg I.impl_MirrorRule [v227x238].toArray H235 fun v228x239 H240 =>
    ob (vExt v228x239 0) fun v229x241 =>
    ob (vExt v228x239 1) fun v230x242 =>
    nw #[(.int .i64 0), (.int .i64 0), (.slice none 0 0)] 43 H240 fun v36x243 H244 =>
    st 3 v36x243 v229x241 H244 fun H245 =>
    HT prg I.spec_R8Rule [(σ27 1), v126x120, (.int .i64 1)].toArray H245 fun v233x246 H247 =>
    nw #[(.int .i64 0), (.int .i64 0), (.slice none 0 0)] 43 H247 fun v38x248 H249 =>
    st 3 v38x248 v233x246 H249 fun H250 =>
    ob (vLoadN 3 v38x248 H250) fun v235x251 =>
    HT prg I.impl_IsSumRule [v235x251].toArray H250 fun v236x252 H253 =>
    ob (vExt v236x252 0) fun v237x254 =>
    ob (vExt v236x252 1) fun v238x255 =>
    ob (vUn .not v220x229) fun v240x256 =>
    gop v240x256 false (fun K257 => K257 v225x237 H253) H253 fun v242x258 H259 =>
    gop v240x256 false (fun K260 => ob (vUn .not v242x258) fun u => K260 u H259) H259 fun v243x261 H262 =>
    ob (vPick v240x256 (.bool true) v243x261) fun v244x263 =>
    gop v244x263 false (fun K264 => K264 v230x242 H262) H262 fun v246x265 H266 =>
    gop v244x263 false (fun K267 => ob (vUn .not v246x265) fun u => K267 u H266) H266 fun v247x268 H269 =>
    ob (vPick v244x263 (.bool true) v247x268) fun v248x270 =>
    gop v248x270 false (fun K271 => K271 v238x255 H269) H269 fun v250x272 H273 =>
    gop v248x270 false (fun K274 => ob (vUn .not v250x272) fun u => K274 u H273) H273 fun v251x275 H276 =>
    ob (vPick v248x270 (.bool true) v251x275) fun v252x277 =>
    gop v252x277 false (fun K278 => K278 v224x236 H276) H276 fun v254x279 H280 =>
    gop v252x277 false (fun K281 => ob (vUn .not v254x279) fun u => K281 u H280) H280 fun v255x282 H283 =>
    ob (vPick v252x277 (.bool true) v255x282) fun v256x284 =>
    gop v256x284 false (fun K285 => ob (vLoadN 3 v36x243 H283) fun u => K285 u H283) H283 fun v258x286 H287 =>
    gop v256x284 false (fun K288 => ob (vLoadN 3 v32x230 H287) fun u => K288 u H287) H287 fun v259x289 H290 =>
    gop v256x284 false (fun K291 => HT prg I.impl_SameRule [v258x286, v259x289].toArray H290 K291) H290 fun v260x292 H293 =>
    gop v256x284 false (fun K294 => ob (vUn .not v260x292) fun u => K294 u H293) H293 fun v261x295 H296 =>
    ob (vPick v256x284 (.bool true) v261x295) fun v262x297 =>
    cnd v262x297
      (K (.bool false) H296)
      (cnd v237x254
      (ob (vLoadN 3 v38x248 H296) fun v265x298 =>
      mkS 1 8 #[(.int .i64 0)] 2 v147x141 v147x141 H296 fun v267x299 H300 =>
      HT prg I.impl_StepRing [v265x298, v267x299].toArray H300 fun v268x301 H302 =>
      Le H300 H302 ∧ (ob (vExt v268x301 0) fun v269x303 =>
      ob (vExt v268x301 1) fun v270x304 =>
      gop v270x304 true (fun K305 => K305 v269x303 H302) H302 fun v273x306 H307 =>
      gop v270x304 true (fun K308 => K308 v147x141 H307) H307 fun v274x309 H310 =>
      gop v270x304 true (fun K311 => mkS 1 8 #[(.int .i64 0)] 2 v274x309 v274x309 H310 K311) H310 fun v275x312 H313 =>
      gop v270x304 true (fun K314 => HT prg I.laws_r8Same [v273x306, v275x312].toArray H313 K314) H313 fun v276x315 H316 =>
      ob (vPick v270x304 v276x315 (.bool false)) fun v277x317 =>
      K v277x317 H316))
      (K (.bool true) H296))))))) fun J27 =>
  lpE (fun Q318 σ318 H318 =>
    ob (vInt .lss (σ318 15) (.int .i64 8)) fun v69x319 =>
    cnd v69x319
      (ob (vCI .u64 (σ318 15)) fun v75x320 =>
    ob (vInt .shr (σ318 5) v75x320) fun v76x321 =>
    ob (vInt .and v76x321 (.int .i64 1)) fun v77x322 =>
    ob (vInt .add (σ318 14) v77x322) fun v78x323 =>
    ob (vInt .add (σ318 15) (.int .i64 1)) fun v71x324 =>
    Q318 .normal (up (up (up (up (up (up (up (up (up (up (up (up (up σ318 68 (σ318 15)) 69 v69x319) 72 (σ318 14)) 73 (σ318 5)) 74 (σ318 15)) 75 v75x320) 76 v76x321) 77 v77x322) 78 v78x323) 14 v78x323) 70 (σ318 15)) 71 v71x324) 15 v71x324) H318)
      (Q318 (.exit 0) (up (up σ318 68 (σ318 15)) 69 v69x319) H318)) (blkQ 0 (thenQ J27 (retQ prg [(.tmp 4)] K))) (up (up (up (up (up (up (up (up (up (up (up (up (up (up (up (up (up (up (up (up (up (up (up (up (up (up (up (up (up (up (up (up (up (up (up (up (up (S0 [a0, a1]) 4 (.bool false)) 43 a0) 44 a1) 45 v45x1) 46 a1) 47 v47x3) 5 v47x3) 49 v47x3) 50 v50x5) 48 v50x5) 51 v51x7) 52 v52x8) 6 v6x9) 7 v52x8) 54 v54x12) 55 v55x13) 53 v55x13) 56 v56x15) 57 v57x16) 8 v56x15) 9 v57x16) 59 v59x17) 60 v60x18) 58 v60x18) 61 v61x20) 62 v62x21) 10 v61x20) 11 v62x21) 64 v64x22) 65 v65x23) 63 v65x23) 66 v66x25) 67 v67x26) 12 v66x25) 13 v67x26) 14 (.int .i64 0)) 15 (.int .i64 0)) H24)
def O.laws_FnTables : Nat → Nat × List Nat := fun i => bif Nat.beq i 24 then (0, [0, 1, 2, 3, 4, 5, 6, 7, 8, 9, 10]) else bif Nat.beq i 36 then (0, [0, 1, 2, 3, 4, 5, 6, 7, 8]) else (0, [])
theorem R.laws_FnTables {a0 a1 : Value} {H : Hp} {K : Value → Hp → Prop} (h : F.laws_FnTables a0 a1 H K) : HT prg I.laws_FnTables [a0, a1].toArray H K :=
  HT_of_fev O.laws_FnTables mixed Try.func6 (by kernel_rfl) (Eq.mpr (by kernel_rfl : fev prg O.laws_FnTables Try.f6 [a0, a1] H K = F.laws_FnTables a0 a1 H K) h)

/-! loop.example/g01381/laws.b10Long: function 43 -/
def F.laws_b10Long (a0 a1 : Value) (H : Hp) (K : Value → Hp → Prop) : Prop :=
  ob (vLenSl a0) fun v6x1 =>
  ob (vInt .gtr v6x1 (.int .i64 1048576)) fun v7x2 =>
  gop v7x2 false (fun K3 => K3 a1 H) H fun v9x4 H5 =>
  gop v7x2 false (fun K6 => ob (vLenSl v9x4) fun u => K6 u H5) H5 fun v10x7 H8 =>
  gop v7x2 false (fun K9 => ob (vInt .gtr v10x7 (.int .i64 1048576)) fun u => K9 u H8) H8 fun v11x10 H11 =>
  ob (vPick v7x2 (.bool true) v11x10) fun v12x12 =>
  K v12x12 H11
def O.laws_b10Long : Nat → Nat × List Nat := fun i => (0, [])
theorem R.laws_b10Long {a0 a1 : Value} {H : Hp} {K : Value → Hp → Prop} (h : F.laws_b10Long a0 a1 H K) : HT prg I.laws_b10Long [a0, a1].toArray H K :=
  HT_of_fev O.laws_b10Long mixed Try.func43 (by kernel_rfl) (Eq.mpr (by kernel_rfl : fev prg O.laws_b10Long Try.f43 [a0, a1] H K = F.laws_b10Long a0 a1 H K) h)

/-! loop.example/g01381/laws.b10At: function 44 -/
def F.laws_b10At (a0 a1 a2 : Value) (H : Hp) (K : Value → Hp → Prop) : Prop :=
  ob (vInt .leq a2 (.int .i64 1)) fun v8x1 =>
  cnd v8x1
    (K (.int .i64 0) H)
    (ob (vLenSl a0) fun v11x2 =>
  ob (vInt .lss a1 v11x2) fun v12x3 =>
  cnd v12x3
    (ob (vIx 1 a0 a1) fun v15x4 =>
    ob (vLoad v15x4 H) fun v16x5 =>
    ob (vCI .i64 v16x5) fun v17x6 =>
    ob (vInt .rem v17x6 a2) fun v19x7 =>
    K v19x7 H)
    (ob (vInt .mul a1 (.int .i64 37)) fun v21x8 =>
  ob (vInt .add v21x8 (.int .i64 11)) fun v22x9 =>
  ob (vInt .rem v22x9 a2) fun v24x10 =>
  K v24x10 H))
def O.laws_b10At : Nat → Nat × List Nat := fun i => (0, [])
theorem R.laws_b10At {a0 a1 a2 : Value} {H : Hp} {K : Value → Hp → Prop} (h : F.laws_b10At a0 a1 a2 H K) : HT prg I.laws_b10At [a0, a1, a2].toArray H K :=
  HT_of_fev O.laws_b10At mixed Try.func44 (by kernel_rfl) (Eq.mpr (by kernel_rfl : fev prg O.laws_b10At Try.f44 [a0, a1, a2] H K = F.laws_b10At a0 a1 a2 H K) h)

/-! loop.example/g01381/spec.l03Power: function 114 -/
def F.spec_l03Power (a0 a1 : Value) (H : Hp) (K : Value → Hp → Prop) : Prop :=
  jn (fun σ1 H1 =>
    K (σ1 5) H1) fun J1 =>
  lpE (fun Q2 σ2 H2 =>
    ob (vInt .gtr (σ2 1) (.int .i64 0)) fun v7x3 =>
    cnd v7x3
      (ob (vInt .mul (σ2 5) (σ2 0)) fun v12x4 =>
    ob (vInt .sub (σ2 1) (.int .i64 1)) fun v9x5 =>
    Q2 .normal (up (up (up (up (up (up (up (up (up σ2 6 (σ2 1)) 7 v7x3) 10 (σ2 5)) 11 (σ2 0)) 12 v12x4) 5 v12x4) 8 (σ2 1)) 9 v9x5) 1 v9x5) H2)
      (Q2 (.exit 0) (up (up σ2 6 (σ2 1)) 7 v7x3) H2)) (blkQ 0 (thenQ J1 (retQ prg [(.tmp 4)] K))) (up (up (S0 [a0, a1]) 4 (.int .i64 0)) 5 (.int .i64 1)) H
def O.spec_l03Power : Nat → Nat × List Nat := fun i => (0, [])
theorem R.spec_l03Power {a0 a1 : Value} {H : Hp} {K : Value → Hp → Prop} (h : F.spec_l03Power a0 a1 H K) : HT prg I.spec_l03Power [a0, a1].toArray H K :=
  HT_of_fev O.spec_l03Power mixed Try.func114 (by kernel_rfl) (Eq.mpr (by kernel_rfl : fev prg O.spec_l03Power Try.f114 [a0, a1] H K = F.spec_l03Power a0 a1 H K) h)

/-! loop.example/g01381/spec.l03Cells: function 115 -/
def F.spec_l03Cells (a0 a1 a2 : Value) (H : Hp) (K : Value → Hp → Prop) : Prop :=
  mkS 1 8 #[(.int .i64 0)] 2 a2 a2 H fun v10x1 H2 =>
  jn (fun σ3 H3 =>
    K (σ3 7) H3) fun J3 =>
  ob (vInt .sub a2 (.int .i64 1)) fun v12x4 =>
  lpE (fun Q5 σ5 H5 =>
    ob (vInt .geq (σ5 8) (.int .i64 0)) fun v14x6 =>
    cnd v14x6
      (ob (vInt .rem (σ5 0) (σ5 1)) fun v21x7 =>
    ob (vIx 1 (σ5 7) (σ5 8)) fun v22x8 =>
    st 1 v22x8 v21x7 H5 fun H9 =>
    ob (vInt .quo (σ5 0) (σ5 1)) fun v25x10 =>
    ob (vInt .sub (σ5 8) (.int .i64 1)) fun v16x11 =>
    Q5 .normal (up (up (up (up (up (up (up (up (up (up (up (up (up (up (up σ5 13 (σ5 8)) 14 v14x6) 17 (σ5 7)) 18 (σ5 8)) 19 (σ5 0)) 20 (σ5 1)) 21 v21x7) 22 v22x8) 23 (σ5 0)) 24 (σ5 1)) 25 v25x10) 0 v25x10) 15 (σ5 8)) 16 v16x11) 8 v16x11) H9)
      (Q5 (.exit 0) (up (up σ5 13 (σ5 8)) 14 v14x6) H5)) (blkQ 0 (thenQ J3 (retQ prg [(.tmp 6)] K))) (up (up (up (up (up (up (up (S0 [a0, a1, a2]) 6 (.slice none 0 0)) 9 a2) 10 v10x1) 7 v10x1) 11 a2) 12 v12x4) 8 v12x4) H2
def O.spec_l03Cells : Nat → Nat × List Nat := fun i => (0, [])
theorem R.spec_l03Cells {a0 a1 a2 : Value} {H : Hp} {K : Value → Hp → Prop} (h : F.spec_l03Cells a0 a1 a2 H K) : HT prg I.spec_l03Cells [a0, a1, a2].toArray H K :=
  HT_of_fev O.spec_l03Cells mixed Try.func115 (by kernel_rfl) (Eq.mpr (by kernel_rfl : fev prg O.spec_l03Cells Try.f115 [a0, a1, a2] H K = F.spec_l03Cells a0 a1 a2 H K) h)

/-! loop.example/g01381/spec.B10Adding: function 45 -/
def F.spec_B10Adding (a0 a1 : Value) (H : Hp) (K : Value → Hp → Prop) : Prop :=
  nw #[(.int .i64 0), (.int .i64 0), (.slice none 0 0)] 43 H fun v4x1 H2 =>
  HT prg I.spec_l00From [a0].toArray H2 fun v15x3 H4 =>
  ob (vBuild [(0, 1), (1, 1), (2, 1)] (.agg #[(.int .i64 0), (.int .i64 0), (.slice none 0 0)]) [(0, a1), (1, (.int .i64 1))]) fun v17x5 =>
  nw #[(.int .i64 0), (.int .i64 0), (.slice none 0 0)] 43 H4 fun v7x6 H7 =>
  st 3 v7x6 v17x5 H7 fun H8 =>
  bS 1 0 #[(.int .i64 0)] 2 [] H8 fun v18x9 H10 =>
  jn (fun σ11 H11 =>
    jn (fun σ12 H12 =>
      ob (vLoadN 3 (σ12 7) H12) fun v63x13 =>
      st 3 (σ12 4) v63x13 H12 fun H14 =>
      ob (vLoadN 3 (σ12 4) H14) fun u15 => K (.tuple #[u15, (σ12 8)]) H14) fun J12 =>
    lpE (fun Q16 σ16 H16 =>
      HT prg I.spec_l03Power [(σ16 1), (.int .i64 3)].toArray H16 fun v31x17 H18 =>
      ob (vInt .lss (σ16 10) v31x17) fun v32x19 =>
      cnd v32x19
        (jn (fun σ20 H20 =>
        ob (vInt .add (σ20 10) (.int .i64 1)) fun v34x21 =>
        Q16 .normal (up (up (up σ20 33 (σ20 10)) 34 v34x21) 10 v34x21) H20) fun J20 =>
      HT prg I.spec_l03Cells [(σ16 10), (σ16 1), (.int .i64 3)].toArray H18 fun v37x22 H23 =>
      jn (fun σ24 H24 =>
        ob (vFa 2 (σ24 7)) fun v55x25 =>
        ob (vLoad v55x25 H24) fun v56x26 =>
        ob (vInt .rem (σ24 12) (σ24 1)) fun v59x27 =>
        bS 1 1 #[(.int .i64 0)] 2 [(0, v59x27)] H24 fun v60x28 H29 =>
        apd 1 8 #[(.int .i64 0)] 2 v56x26 v60x28 H29 fun v61x30 H31 =>
        ob (vFa 2 (σ24 7)) fun v62x32 =>
        st 1 v62x32 v61x30 H31 fun H33 =>
        J20 (up (up (up (up (up (up (up (up σ24 55 v55x25) 56 v56x26) 57 (σ24 12)) 58 (σ24 1)) 59 v59x27) 60 v60x28) 61 v61x30) 62 v62x32) H33) fun J24 =>
      ob (vLenSl v37x22) fun v39x34 =>
      lpE (fun Q35 σ35 H35 =>
        ob (vInt .lss (σ35 40) (σ35 39)) fun v41x36 =>
        cnd v41x36
          (ob (vIx 1 (σ35 11) (σ35 40)) fun v46x37 =>
        ob (vLoad v46x37 H35) fun v47x38 =>
        ob (vIx 1 (σ35 8) (σ35 40)) fun v50x39 =>
        ob (vLoad v50x39 H35) fun v51x40 =>
        ob (vInt .mul v47x38 v51x40) fun v52x41 =>
        ob (vInt .add (σ35 12) v52x41) fun v53x42 =>
        ob (vInt .add (σ35 40) (.int .i64 1)) fun v54x43 =>
        Q35 .normal (up (up (up (up (up (up (up (up (up (up (up (up (up (up (up (up (up σ35 41 v41x36) 42 (σ35 40)) 13 (σ35 40)) 43 (σ35 12)) 44 (σ35 11)) 45 (σ35 40)) 46 v46x37) 47 v47x38) 48 (σ35 8)) 49 (σ35 40)) 50 v50x39) 51 v51x40) 52 v52x41) 53 v53x42) 12 v53x42) 54 v54x43) 40 v54x43) H35)
          (Q35 (.exit 4) (up σ35 41 v41x36) H35)) (blkQ 4 (thenQ J24 (blkQ 3 (thenQ J20 Q16)))) (up (up (up (up (up (up (up (up (up (up (up (up σ16 29 (σ16 10)) 30 (σ16 1)) 31 v31x17) 32 v32x19) 35 (σ16 10)) 36 (σ16 1)) 37 v37x22) 11 v37x22) 12 (.int .i64 0)) 38 v37x22) 39 v39x34) 40 (.int .i64 0)) H23)
        (Q16 (.exit 2) (up (up (up (up σ16 29 (σ16 10)) 30 (σ16 1)) 31 v31x17) 32 v32x19) H18)) (blkQ 2 (thenQ J12 (retQ prg [(.cell 4 43), (.tmp 5)] K))) (up σ11 10 (.int .i64 0)) H11) fun J11 =>
  lpE (fun Q44 σ44 H44 =>
    ob (vInt .lss (σ44 9) (.int .i64 3)) fun v20x45 =>
    cnd v20x45
      (HT prg I.pspec_l00Src_pick [(σ44 6), (σ44 1)].toArray H44 fun v26x46 H47 =>
    bS 1 1 #[(.int .i64 0)] 2 [(0, v26x46)] H47 fun v27x48 H49 =>
    apd 1 8 #[(.int .i64 0)] 2 (σ44 8) v27x48 H49 fun v28x50 H51 =>
    ob (vInt .add (σ44 9) (.int .i64 1)) fun v22x52 =>
    Q44 .normal (up (up (up (up (up (up (up (up (up (up (up (up σ44 19 (σ44 9)) 20 v20x45) 23 (σ44 8)) 24 (σ44 6)) 25 (σ44 1)) 26 v26x46) 27 v27x48) 28 v28x50) 8 v28x50) 21 (σ44 9)) 22 v22x52) 9 v22x52) H51)
      (Q44 (.exit 0) (up (up σ44 19 (σ44 9)) 20 v20x45) H44)) (blkQ 0 (thenQ J11 (retQ prg [(.cell 4 43), (.tmp 5)] K))) (up (up (up (up (up (up (up (up (up (up (up (S0 [a0, a1]) 4 v4x1) 5 (.slice none 0 0)) 14 a0) 15 v15x3) 6 v15x3) 16 a1) 17 v17x5) 7 v7x6) 18 v18x9) 8 v18x9) 9 (.int .i64 0)) H10
def O.spec_B10Adding : Nat → Nat × List Nat := fun i => bif Nat.beq i 18 then (0, [0, 1, 2, 3, 4, 5, 6, 7, 8]) else bif Nat.beq i 16 then (0, [0, 1, 2, 3, 4, 5, 6, 7, 8, 9, 10, 11]) else (0, [])
theorem R.spec_B10Adding {a0 a1 : Value} {H : Hp} {K : Value → Hp → Prop} (h : F.spec_B10Adding a0 a1 H K) : HT prg I.spec_B10Adding [a0, a1].toArray H K :=
  HT_of_fev O.spec_B10Adding mixed Try.func45 (by kernel_rfl) (Eq.mpr (by kernel_rfl : fev prg O.spec_B10Adding Try.f45 [a0, a1] H K = F.spec_B10Adding a0 a1 H K) h)

/-! (loop.example/g01381/impl.Rule).adds: function 116 -/
def F.impl_Rule_adds (a0 : Value) (H : Hp) (K : Value → Hp → Prop) : Prop :=
  nw (a0 : Value).cells 43 H fun v1x1 H2 =>
  ob (vLoadN 3 v1x1 H2) fun v3x3 =>
  ob (vFa 0 v1x1) fun v4x4 =>
  ob (vLoad v4x4 H2) fun v5x5 =>
  ob (vLoadN 3 v1x1 H2) fun v6x6 =>
  HT prg I.impl_Rule_terms [v6x6].toArray H2 fun v7x7 H8 =>
  Le H2 H8 ∧ (HT prg I.impl_weighed [v5x5, v7x7].toArray H8 fun v8x9 H10 =>
  Le H8 H10 ∧ (HT prg I.impl_SameRule [v3x3, v8x9].toArray H10 fun v9x11 H12 =>
  Le H10 H12 ∧ (K v9x11 H12)))
def O.impl_Rule_adds : Nat → Nat × List Nat := fun i => bif Nat.beq i 1 then (0, [0, 1, 2, 3, 4, 5, 6, 7]) else (0, [])
theorem R.impl_Rule_adds {a0 : Value} {H : Hp} {K : Value → Hp → Prop} (h : F.impl_Rule_adds a0 H K) : HT prg I.impl_Rule_adds [a0].toArray H K :=
  HT_of_fev O.impl_Rule_adds mixed Try.func116 (by kernel_rfl) (Eq.mpr (by kernel_rfl : fev prg O.impl_Rule_adds Try.f116 [a0] H K = F.impl_Rule_adds a0 H K) h)

/-! loop.example/g01381/impl.IsAdding: function 46 -/
def F.impl_IsAdding (a0 : Value) (H : Hp) (K : Value → Hp → Prop) : Prop :=
  nw (a0 : Value).cells 43 H fun v1x1 H2 =>
  ob (vLoadN 3 v1x1 H2) fun v4x3 =>
  HT prg I.impl_ValidRule [v4x3].toArray H2 fun v5x4 H5 =>
  ob (vUn .not v5x4) fun v6x6 =>
  cnd v6x6
    (K (.tuple #[(.bool false), (.bool false)]) H5)
    (ob (vLoadN 3 v1x1 H5) fun v7x7 =>
  HT prg I.impl_Rule_adds [v7x7].toArray H5 fun v8x8 H9 =>
  K (.tuple #[v8x8, (.bool true)]) H9)
def O.impl_IsAdding : Nat → Nat × List Nat := fun i => (0, [])
theorem R.impl_IsAdding {a0 : Value} {H : Hp} {K : Value → Hp → Prop} (h : F.impl_IsAdding a0 H K) : HT prg I.impl_IsAdding [a0].toArray H K :=
  HT_of_fev O.impl_IsAdding mixed Try.func46 (by kernel_rfl) (Eq.mpr (by kernel_rfl : fev prg O.impl_IsAdding Try.f46 [a0] H K = F.impl_IsAdding a0 H K) h)

/-! loop.example/g01381/impl.AddingTerms: function 47 -/
def F.impl_AddingTerms (a0 : Value) (H : Hp) (K : Value → Hp → Prop) : Prop :=
  nw (a0 : Value).cells 43 H fun v1x1 H2 =>
  ob (vLoadN 3 v1x1 H2) fun v4x3 =>
  HT prg I.impl_ValidRule [v4x3].toArray H2 fun v5x4 H5 =>
  ob (vUn .not v5x4) fun v6x6 =>
  gop v6x6 false (fun K7 => ob (vLoadN 3 v1x1 H5) fun u => K7 u H5) H5 fun v8x8 H9 =>
  gop v6x6 false (fun K10 => HT prg I.impl_Rule_adds [v8x8].toArray H9 K10) H9 fun v9x11 H12 =>
  gop v6x6 false (fun K13 => ob (vUn .not v9x11) fun u => K13 u H12) H12 fun v10x14 H15 =>
  ob (vPick v6x6 (.bool true) v10x14) fun v11x16 =>
  cnd v11x16
    (K (.tuple #[(.slice none 0 0), (.bool false)]) H15)
    (ob (vLoadN 3 v1x1 H15) fun v12x17 =>
  HT prg I.impl_Rule_terms [v12x17].toArray H15 fun v13x18 H19 =>
  K (.tuple #[v13x18, (.bool true)]) H19)
def O.impl_AddingTerms : Nat → Nat × List Nat := fun i => (0, [])
theorem R.impl_AddingTerms {a0 : Value} {H : Hp} {K : Value → Hp → Prop} (h : F.impl_AddingTerms a0 H K) : HT prg I.impl_AddingTerms [a0].toArray H K :=
  HT_of_fev O.impl_AddingTerms mixed Try.func47 (by kernel_rfl) (Eq.mpr (by kernel_rfl : fev prg O.impl_AddingTerms Try.f47 [a0] H K = F.impl_AddingTerms a0 H K) h)

/-! loop.example/g01381/spec.B10Ring: function 48 -/
def F.spec_B10Ring (a0 a1 a2 : Value) (H : Hp) (K : Value → Hp → Prop) : Prop :=
  HT prg I.spec_l00From [a0].toArray H fun v10x1 H2 =>
  bS 1 0 #[(.int .i64 0)] 2 [] H2 fun v11x3 H4 =>
  jn (fun σ5 H5 =>
    K (σ5 8) H5) fun J5 =>
  lpE (fun Q6 σ6 H6 =>
    ob (vInt .gtr (σ6 2) (.int .i64 0)) fun v13x7 =>
    cnd v13x7
      (HT prg I.pspec_l00Src_pick [(σ6 7), (σ6 1)].toArray H6 fun v19x8 H9 =>
    bS 1 1 #[(.int .i64 0)] 2 [(0, v19x8)] H9 fun v20x10 H11 =>
    apd 1 8 #[(.int .i64 0)] 2 (σ6 8) v20x10 H11 fun v21x12 H13 =>
    ob (vInt .sub (σ6 2) (.int .i64 1)) fun v15x14 =>
    Q6 .normal (up (up (up (up (up (up (up (up (up (up (up (up σ6 12 (σ6 2)) 13 v13x7) 16 (σ6 8)) 17 (σ6 7)) 18 (σ6 1)) 19 v19x8) 20 v20x10) 21 v21x12) 8 v21x12) 14 (σ6 2)) 15 v15x14) 2 v15x14) H13)
      (Q6 (.exit 0) (up (up σ6 12 (σ6 2)) 13 v13x7) H6)) (blkQ 0 (thenQ J5 (retQ prg [(.tmp 6)] K))) (up (up (up (up (up (up (S0 [a0, a1, a2]) 6 (.slice none 0 0)) 9 a0) 10 v10x1) 7 v10x1) 11 v11x3) 8 v11x3) H4
def O.spec_B10Ring : Nat → Nat × List Nat := fun i => (0, [])
theorem R.spec_B10Ring {a0 a1 a2 : Value} {H : Hp} {K : Value → Hp → Prop} (h : F.spec_B10Ring a0 a1 a2 H K) : HT prg I.spec_B10Ring [a0, a1, a2].toArray H K :=
  HT_of_fev O.spec_B10Ring mixed Try.func48 (by kernel_rfl) (Eq.mpr (by kernel_rfl : fev prg O.spec_B10Ring Try.f48 [a0, a1, a2] H K = F.spec_B10Ring a0 a1 a2 H K) h)

/-! loop.example/g01381/impl.impulse: function 119 -/
def F.impl_impulse (a0 : Value) (H : Hp) (K : Value → Hp → Prop) : Prop :=
  mkS 1 8 #[(.int .i64 0)] 2 a0 a0 H fun v5x1 H2 =>
  ob (vIx 1 v5x1 (.int .i64 0)) fun v7x3 =>
  st 1 v7x3 (.int .i64 1) H2 fun H4 =>
  K v5x1 H4
def O.impl_impulse : Nat → Nat × List Nat := fun i => (0, [])
theorem R.impl_impulse {a0 : Value} {H : Hp} {K : Value → Hp → Prop} (h : F.impl_impulse a0 H K) : HT prg I.impl_impulse [a0].toArray H K :=
  HT_of_fev O.impl_impulse mixed Try.func119 (by kernel_rfl) (Eq.mpr (by kernel_rfl : fev prg O.impl_impulse Try.f119 [a0] H K = F.impl_impulse a0 H K) h)

/-! loop.example/g01381/impl.product: function 120 -/
def F.impl_product (a0 a1 a2 : Value) (H : Hp) (K : Value → Hp → Prop) : Prop :=
  ob (vLenSl a0) fun v14x1 =>
  mkS 1 8 #[(.int .i64 0)] 2 v14x1 v14x1 H fun v16x2 H3 =>
  jn (fun σ4 H4 =>
    K (σ4 8) H4) fun J4 =>
  ob (vLenSl a0) fun v18x5 =>
  lpE (fun Q6 σ6 H6 =>
    ob (vInt .lss (σ6 19) (σ6 18)) fun v20x7 =>
    cnd v20x7
      (jn (fun σ8 H8 =>
      ob (vInt .add (σ8 19) (.int .i64 1)) fun v55x9 =>
      Q6 .normal (up (up σ8 55 v55x9) 19 v55x9) H8) fun J8 =>
    ob (vIx 1 (σ6 17) (σ6 19)) fun v22x10 =>
    ob (vLoad v22x10 H6) fun v23x11 =>
    ob (vInt .eql v23x11 (.int .i64 0)) fun v25x12 =>
    cnd v25x12
      (J8 (up (up (up (up (up (up (up (up σ6 20 v20x7) 21 (σ6 19)) 22 v22x10) 23 v23x11) 9 (σ6 19)) 10 v23x11) 24 v23x11) 25 v25x12) H6)
      (ob (vLenSl (σ6 1)) fun v27x13 =>
    lpE (fun Q14 σ14 H14 =>
      ob (vInt .lss (σ14 28) (σ14 27)) fun v29x15 =>
      cnd v29x15
        (ob (vIx 1 (σ14 26) (σ14 28)) fun v31x16 =>
      ob (vLoad v31x16 H14) fun v32x17 =>
      ob (vInt .add (σ14 9) (σ14 28)) fun v36x18 =>
      ob (vInt .rem v36x18 (σ14 7)) fun v38x19 =>
      ob (vInt .add (σ14 9) (σ14 28)) fun v42x20 =>
      ob (vInt .rem v42x20 (σ14 7)) fun v44x21 =>
      ob (vIx 1 (σ14 8) v44x21) fun v45x22 =>
      ob (vLoad v45x22 H14) fun v46x23 =>
      ob (vInt .mul (σ14 10) v32x17) fun v49x24 =>
      ob (vInt .add v46x23 v49x24) fun v50x25 =>
      ob (vInt .rem v50x25 (σ14 2)) fun v52x26 =>
      ob (vIx 1 (σ14 8) v38x19) fun v53x27 =>
      st 1 v53x27 v52x26 H14 fun H28 =>
      ob (vInt .add (σ14 28) (.int .i64 1)) fun v54x29 =>
      Q14 .normal (up (up (up (up (up (up (up (up (up (up (up (up (up (up (up (up (up (up (up (up (up (up (up (up (up (up (up (up (up σ14 29 v29x15) 30 (σ14 28)) 31 v31x16) 32 v32x17) 11 (σ14 28)) 12 v32x17) 33 (σ14 8)) 34 (σ14 9)) 35 (σ14 28)) 36 v36x18) 37 (σ14 7)) 38 v38x19) 39 (σ14 8)) 40 (σ14 9)) 41 (σ14 28)) 42 v42x20) 43 (σ14 7)) 44 v44x21) 45 v45x22) 46 v46x23) 47 (σ14 10)) 48 v32x17) 49 v49x24) 50 v50x25) 51 (σ14 2)) 52 v52x26) 53 v53x27) 54 v54x29) 28 v54x29) H28)
        (Q14 (.exit 2) (up σ14 29 v29x15) H14)) (blkQ 2 (blkQ 1 (thenQ J8 Q6))) (up (up (up (up (up (up (up (up (up (up (up σ6 20 v20x7) 21 (σ6 19)) 22 v22x10) 23 v23x11) 9 (σ6 19)) 10 v23x11) 24 v23x11) 25 v25x12) 26 (σ6 1)) 27 v27x13) 28 (.int .i64 0)) H6))
      (Q6 (.exit 0) (up σ6 20 v20x7) H6)) (blkQ 0 (thenQ J4 (retQ prg [(.tmp 6)] K))) (up (up (up (up (up (up (up (up (up (up (S0 [a0, a1, a2]) 6 (.slice none 0 0)) 13 a0) 14 v14x1) 7 v14x1) 15 v14x1) 16 v16x2) 8 v16x2) 17 a0) 18 v18x5) 19 (.int .i64 0)) H3
def O.impl_product : Nat → Nat × List Nat := fun i => bif Nat.beq i 10 then (0, [0, 1, 2, 3, 4, 5, 6, 7, 8, 9, 10, 11, 12, 13, 14, 15, 16, 17, 18, 19, 20, 21]) else (0, [])
theorem R.impl_product {a0 a1 a2 : Value} {H : Hp} {K : Value → Hp → Prop} (h : F.impl_product a0 a1 a2 H K) : HT prg I.impl_product [a0, a1, a2].toArray H K :=
  HT_of_fev O.impl_product mixed Try.func120 (by kernel_rfl) (Eq.mpr (by kernel_rfl : fev prg O.impl_product Try.f120 [a0, a1, a2] H K = F.impl_product a0 a1 a2 H K) h)

/-! loop.example/g01381/impl.FarAhead: function 49 -/
def F.impl_FarAhead (a0 a1 a2 : Value) (H : Hp) (K : Value → Hp → Prop) : Prop :=
  nw (a0 : Value).cells 43 H fun v3x1 H2 =>
  ob (vLoadN 3 v3x1 H2) fun v10x3 =>
  bS 1 1 #[(.slice none 0 0)] 22 [(0, a1)] H2 fun v12x4 H5 =>
  HT prg I.impl_ringed [v10x3, v12x4].toArray H5 fun v13x6 H7 =>
  ob (vUn .not v13x6) fun v14x8 =>
  gop v14x8 false (fun K9 => K9 a1 H7) H7 fun v16x10 H11 =>
  gop v14x8 false (fun K12 => ob (vLenSl v16x10) fun u => K12 u H11) H11 fun v17x13 H14 =>
  gop v14x8 false (fun K15 => ob (vLoadN 3 v3x1 H14) fun u => K15 u H14) H14 fun v18x16 H17 =>
  gop v14x8 false (fun K18 => HT prg I.impl_Rule_cells [v18x16].toArray H17 K18) H17 fun v19x19 H20 =>
  gop v14x8 false (fun K21 => ob (vInt .lss v17x13 v19x19) fun u => K21 u H20) H20 fun v20x22 H23 =>
  ob (vPick v14x8 (.bool true) v20x22) fun v21x24 =>
  gop v21x24 false (fun K25 => ob (vLoadN 3 v3x1 H23) fun u => K25 u H23) H23 fun v23x26 H27 =>
  gop v21x24 false (fun K28 => HT prg I.impl_Rule_adds [v23x26].toArray H27 K28) H27 fun v24x29 H30 =>
  gop v21x24 false (fun K31 => ob (vUn .not v24x29) fun u => K31 u H30) H30 fun v25x32 H33 =>
  ob (vPick v21x24 (.bool true) v25x32) fun v26x34 =>
  gop v26x34 false (fun K35 => K35 a2 H33) H33 fun v28x36 H37 =>
  gop v26x34 false (fun K38 => HT prg I.impl_within [v28x36, (.int .i64 0), (.int .i64 1000000000000)].toArray H37 K38) H37 fun v29x39 H40 =>
  gop v26x34 false (fun K41 => ob (vUn .not v29x39) fun u => K41 u H40) H40 fun v30x42 H43 =>
  ob (vPick v26x34 (.bool true) v30x42) fun v31x44 =>
  cnd v31x44
    (K (.tuple #[(.slice none 0 0), (.bool false)]) H43)
    (HT prg I.slices_Clone_int64Zint64 [a1].toArray H43 fun v33x45 H46 =>
  ob (vLoadN 3 v3x1 H46) fun v34x47 =>
  ob (vLenSl a1) fun v36x48 =>
  HT prg I.impl_impulse [v36x48].toArray H46 fun v37x49 H50 =>
  Le H46 H50 ∧ (HT prg I.impl_Rule_step [v34x47, v37x49].toArray H50 fun v38x51 H52 =>
  Le H50 H52 ∧ (jn (fun σ53 H53 =>
    K (.tuple #[(σ53 8), (.bool true)]) H53) fun J53 =>
  lpE (fun Q54 σ54 H54 =>
    ob (vInt .gtr (σ54 2) (.int .i64 0)) fun v40x55 =>
    cnd v40x55
      (ob (vInt .rem (σ54 2) (.int .i64 2)) fun v44x56 =>
    ob (vInt .eql v44x56 (.int .i64 1)) fun v45x57 =>
    cnd v45x57
      (ob (vFa 0 (σ54 3)) fun v48x58 =>
      ob (vLoad v48x58 H54) fun v49x59 =>
      HT prg I.impl_product [(σ54 8), (σ54 9), v49x59].toArray H54 fun v50x60 H61 =>
      ob (vFa 0 (σ54 3)) fun v53x62 =>
    ob (vLoad v53x62 H61) fun v54x63 =>
    HT prg I.impl_product [(σ54 9), (σ54 9), v54x63].toArray H61 fun v55x64 H65 =>
    ob (vInt .quo (σ54 2) (.int .i64 2)) fun v42x66 =>
    Q54 .normal (up (up (up (up (up (up (up (up (up (up (up (up (up (up (up (up (up (up (up (up σ54 39 (σ54 2)) 40 v40x55) 43 (σ54 2)) 44 v44x56) 45 v45x57) 46 (σ54 8)) 47 (σ54 9)) 48 v48x58) 49 v49x59) 50 v50x60) 8 v50x60) 51 (σ54 9)) 52 (σ54 9)) 53 v53x62) 54 v54x63) 55 v55x64) 9 v55x64) 41 (σ54 2)) 42 v42x66) 2 v42x66) H65)
      (ob (vFa 0 (σ54 3)) fun v53x67 =>
    ob (vLoad v53x67 H54) fun v54x68 =>
    HT prg I.impl_product [(σ54 9), (σ54 9), v54x68].toArray H54 fun v55x69 H70 =>
    ob (vInt .quo (σ54 2) (.int .i64 2)) fun v42x71 =>
    Q54 .normal (up (up (up (up (up (up (up (up (up (up (up (up (up (up σ54 39 (σ54 2)) 40 v40x55) 43 (σ54 2)) 44 v44x56) 45 v45x57) 51 (σ54 9)) 52 (σ54 9)) 53 v53x67) 54 v54x68) 55 v55x69) 9 v55x69) 41 (σ54 2)) 42 v42x71) 2 v42x71) H70))
      (Q54 (.exit 0) (up (up σ54 39 (σ54 2)) 40 v40x55) H54)) (blkQ 0 (thenQ J53 (retQ prg [(.tmp 6), (.tmp 7)] K))) (up (up (up (up (up (up (up (up (up (up (up (up (up (up (up (up (up (up (up (up (up (up (up (up (up (up (up (up (up (up (up (up (up (up (S0 [a0, a1, a2]) 3 v3x1) 6 (.slice none 0 0)) 7 (.bool false)) 10 v10x3) 11 a1) 12 v12x4) 13 v13x6) 14 v14x8) 15 v14x8) 16 v16x10) 17 v17x13) 18 v18x16) 19 v19x19) 20 v20x22) 21 v21x24) 22 v21x24) 23 v23x26) 24 v24x29) 25 v25x32) 26 v26x34) 27 v26x34) 28 v28x36) 29 v29x39) 30 v30x42) 31 v31x44) 32 a1) 33 v33x45) 8 v33x45) 34 v34x47) 35 a1) 36 v36x48) 37 v37x49) 38 v38x51) 9 v38x51) H52)))
def O.impl_FarAhead : Nat → Nat × List Nat := fun i => bif Nat.beq i 4 then (0, [0, 1, 2, 3, 4, 5]) else (0, [])
theorem R.impl_FarAhead {a0 a1 a2 : Value} {H : Hp} {K : Value → Hp → Prop} (h : F.impl_FarAhead a0 a1 a2 H K) : HT prg I.impl_FarAhead [a0, a1, a2].toArray H K :=
  HT_of_fev O.impl_FarAhead mixed Try.func49 (by kernel_rfl) (Eq.mpr (by kernel_rfl : fev prg O.impl_FarAhead Try.f49 [a0, a1, a2] H K = F.impl_FarAhead a0 a1 a2 H K) h)

/-! loop.example/g01381/spec.l02Is: function 125 -/
def F.spec_l02Is (a0 : Value) (H : Hp) (K : Value → Hp → Prop) : Prop :=
  ob (vNilC a0) fun v5x1 =>
  ob (vFa 0 v5x1) fun v6x2 =>
  ob (vLoad v6x2 H) fun v7x3 =>
  HT prg I.spec_l00In [v7x3, (.int .i64 2), (.int .i64 3)].toArray H fun v8x4 H5 =>
  Le H H5 ∧ (ob (vUn .not v8x4) fun v9x6 =>
  gop v9x6 false (fun K7 => K7 a0 H5) H5 fun v11x8 H9 =>
  gop v9x6 false (fun K10 => ob (vNilC v11x8) fun u => K10 u H9) H9 fun v12x11 H12 =>
  gop v9x6 false (fun K13 => ob (vFa 1 v12x11) fun u => K13 u H12) H12 fun v13x14 H15 =>
  gop v9x6 false (fun K16 => ob (vLoad v13x14 H15) fun u => K16 u H15) H15 fun v14x17 H18 =>
  gop v9x6 false (fun K19 => HT prg I.spec_l00In [v14x17, (.int .i64 0), (.int .i64 2)].toArray H18 fun v15x20 H21 =>
  Le H18 H21 ∧ K19 v15x20 H21) H18 fun v15x22 H23 =>
  gop v9x6 false (fun K24 => ob (vUn .not v15x22) fun u => K24 u H23) H23 fun v16x25 H26 =>
  ob (vPick v9x6 (.bool true) v16x25) fun v17x27 =>
  gop v17x27 false (fun K28 => K28 a0 H26) H26 fun v19x29 H30 =>
  gop v17x27 false (fun K31 => ob (vNilC v19x29) fun u => K31 u H30) H30 fun v20x32 H33 =>
  gop v17x27 false (fun K34 => ob (vFa 2 v20x32) fun u => K34 u H33) H33 fun v21x35 H36 =>
  gop v17x27 false (fun K37 => ob (vLoad v21x35 H36) fun u => K37 u H36) H36 fun v22x38 H39 =>
  gop v17x27 false (fun K40 => ob (vLenSl v22x38) fun u => K40 u H39) H39 fun v23x41 H42 =>
  gop v17x27 false (fun K43 => K43 a0 H42) H42 fun v24x44 H45 =>
  gop v17x27 false (fun K46 => ob (vNilC v24x44) fun u => K46 u H45) H45 fun v25x47 H48 =>
  gop v17x27 false (fun K49 => ob (vFa 0 v25x47) fun u => K49 u H48) H48 fun v26x50 H51 =>
  gop v17x27 false (fun K52 => ob (vLoad v26x50 H51) fun u => K52 u H51) H51 fun v27x53 H54 =>
  gop v17x27 false (fun K55 => K55 a0 H54) H54 fun v28x56 H57 =>
  gop v17x27 false (fun K58 => ob (vNilC v28x56) fun u => K58 u H57) H57 fun v29x59 H60 =>
  gop v17x27 false (fun K61 => ob (vFa 1 v29x59) fun u => K61 u H60) H60 fun v30x62 H63 =>
  gop v17x27 false (fun K64 => ob (vLoad v30x62 H63) fun u => K64 u H63) H63 fun v31x65 H66 =>
  gop v17x27 false (fun K67 => ob (vInt .mul (.int .i64 2) v31x65) fun u => K67 u H66) H66 fun v32x68 H69 =>
  gop v17x27 false (fun K70 => ob (vInt .add v32x68 (.int .i64 1)) fun u => K70 u H69) H69 fun v33x71 H72 =>
  gop v17x27 false (fun K73 => HT prg I.spec_l02Powers [v27x53, v33x71].toArray H72 fun v34x74 H75 =>
  Le H72 H75 ∧ K73 v34x74 H75) H72 fun v34x76 H77 =>
  gop v17x27 false (fun K78 => ob (vInt .neq v23x41 v34x76) fun u => K78 u H77) H77 fun v35x79 H80 =>
  ob (vPick v17x27 (.bool true) v35x79) fun v36x81 =>
  cnd v36x81
    (K (.bool false) H80)
    (jn (fun σ82 H82 =>
    K (.bool true) H82) fun J82 =>
  lpE (fun Q83 σ83 H83 =>
    ob (vNilC (σ83 0)) fun v39x84 =>
    ob (vFa 2 v39x84) fun v40x85 =>
    ob (vLoad v40x85 H83) fun v41x86 =>
    ob (vLenSl v41x86) fun v42x87 =>
    ob (vInt .lss (σ83 3) v42x87) fun v43x88 =>
    cnd v43x88
      (ob (vNilC (σ83 0)) fun v47x89 =>
    ob (vFa 2 v47x89) fun v48x90 =>
    ob (vLoad v48x90 H83) fun v49x91 =>
    ob (vIx 1 v49x91 (σ83 3)) fun v51x92 =>
    ob (vLoad v51x92 H83) fun v52x93 =>
    ob (vNilC (σ83 0)) fun v54x94 =>
    ob (vFa 0 v54x94) fun v55x95 =>
    ob (vLoad v55x95 H83) fun v56x96 =>
    ob (vInt .sub v56x96 (.int .i64 1)) fun v57x97 =>
    HT prg I.spec_l00In [v52x93, (.int .i64 0), v57x97].toArray H83 fun v58x98 H99 =>
    Le H83 H99 ∧ (ob (vUn .not v58x98) fun v59x100 =>
    cnd v59x100
      (Q83 .ret (up (up (up (up (up (up (up (up (up (up (up (up (up (up (up (up (up (up (up (up (up (up σ83 37 (σ83 3)) 38 (σ83 0)) 39 v39x84) 40 v40x85) 41 v41x86) 42 v42x87) 43 v43x88) 46 (σ83 0)) 47 v47x89) 48 v48x90) 49 v49x91) 50 (σ83 3)) 51 v51x92) 52 v52x93) 53 (σ83 0)) 54 v54x94) 55 v55x95) 56 v56x96) 57 v57x97) 58 v58x98) 59 v59x100) 2 (.bool false)) H99)
      (ob (vInt .add (σ83 3) (.int .i64 1)) fun v45x101 =>
    Q83 .normal (up (up (up (up (up (up (up (up (up (up (up (up (up (up (up (up (up (up (up (up (up (up (up (up σ83 37 (σ83 3)) 38 (σ83 0)) 39 v39x84) 40 v40x85) 41 v41x86) 42 v42x87) 43 v43x88) 46 (σ83 0)) 47 v47x89) 48 v48x90) 49 v49x91) 50 (σ83 3)) 51 v51x92) 52 v52x93) 53 (σ83 0)) 54 v54x94) 55 v55x95) 56 v56x96) 57 v57x97) 58 v58x98) 59 v59x100) 44 (σ83 3)) 45 v45x101) 3 v45x101) H99)))
      (Q83 (.exit 0) (up (up (up (up (up (up (up σ83 37 (σ83 3)) 38 (σ83 0)) 39 v39x84) 40 v40x85) 41 v41x86) 42 v42x87) 43 v43x88) H83)) (blkQ 0 (thenQ J82 (retQ prg [(.tmp 2)] K))) (up (up (up (up (up (up (up (up (up (up (up (up (up (up (up (up (up (up (up (up (up (up (up (up (up (up (up (up (up (up (up (up (up (up (up (S0 [a0]) 2 (.bool false)) 4 a0) 5 v5x1) 6 v6x2) 7 v7x3) 8 v8x4) 9 v9x6) 10 v9x6) 11 v11x8) 12 v12x11) 13 v13x14) 14 v14x17) 15 v15x22) 16 v16x25) 17 v17x27) 18 v17x27) 19 v19x29) 20 v20x32) 21 v21x35) 22 v22x38) 23 v23x41) 24 v24x44) 25 v25x47) 26 v26x50) 27 v27x53) 28 v28x56) 29 v29x59) 30 v30x62) 31 v31x65) 32 v32x68) 33 v33x71) 34 v34x76) 35 v35x79) 36 v36x81) 3 (.int .i64 0)) H80))
def O.spec_l02Is : Nat → Nat × List Nat := fun i => bif Nat.beq i 1 then (0, [0, 1, 2, 3, 4, 5, 6, 7, 8, 9, 10, 11, 12, 13, 14, 15, 16, 17, 18, 19, 20, 21, 22, 23, 24, 25, 26, 27, 28, 29, 30, 31, 32]) else bif Nat.beq i 6 then (0, [0, 1, 2, 3, 4, 5, 6, 7, 8, 9, 10, 11, 12, 13]) else (0, [])
theorem R.spec_l02Is {a0 : Value} {H : Hp} {K : Value → Hp → Prop} (h : F.spec_l02Is a0 H K) : HT prg I.spec_l02Is [a0].toArray H K :=
  HT_of_fev O.spec_l02Is mixed Try.func125 (by kernel_rfl) (Eq.mpr (by kernel_rfl : fev prg O.spec_l02Is Try.f125 [a0] H K = F.spec_l02Is a0 H K) h)

/-! loop.example/g01381/spec.l02Can: function 121 -/
def F.spec_l02Can (a0 a1 : Value) (H : Hp) (K : Value → Hp → Prop) : Prop :=
  HT prg I.spec_l02Is [a0].toArray H fun v6x1 H2 =>
  gop v6x1 true (fun K3 => K3 a1 H2) H2 fun v8x4 H5 =>
  gop v6x1 true (fun K6 => K6 a0 H5) H5 fun v9x7 H8 =>
  gop v6x1 true (fun K9 => ob (vNilC v9x7) fun u => K9 u H8) H8 fun v10x10 H11 =>
  gop v6x1 true (fun K12 => ob (vFa 0 v10x10) fun u => K12 u H11) H11 fun v11x13 H14 =>
  gop v6x1 true (fun K15 => ob (vLoad v11x13 H14) fun u => K15 u H14) H14 fun v12x16 H17 =>
  gop v6x1 true (fun K18 => HT prg I.spec_l02Ring [v8x4, v12x16].toArray H17 K18) H17 fun v13x19 H20 =>
  ob (vPick v6x1 v13x19 (.bool false)) fun v14x21 =>
  K v14x21 H20
def O.spec_l02Can : Nat → Nat × List Nat := fun i => (0, [])
theorem R.spec_l02Can {a0 a1 : Value} {H : Hp} {K : Value → Hp → Prop} (h : F.spec_l02Can a0 a1 H K) : HT prg I.spec_l02Can [a0, a1].toArray H K :=
  HT_of_fev O.spec_l02Can mixed Try.func121 (by kernel_rfl) (Eq.mpr (by kernel_rfl : fev prg O.spec_l02Can Try.f121 [a0, a1] H K = F.spec_l02Can a0 a1 H K) h)

/-! loop.example/g01381/spec.l02Told: function 193 -/
def F.spec_l02Told (a0 a1 a2 : Value) (H : Hp) (K : Value → Hp → Prop) : Prop :=
  ob (vLenSl a1) fun v11x1 =>
  jn (fun σ2 H2 =>
    ob (vNilC (σ2 0)) fun v46x3 =>
    ob (vFa 2 v46x3) fun v47x4 =>
    ob (vLoad v47x4 H2) fun v48x5 =>
    ob (vIx 1 v48x5 (σ2 8)) fun v50x6 =>
    ob (vLoad v50x6 H2) fun v51x7 =>
    K v51x7 H2) fun J2 =>
  ob (vNilC a0) fun v14x8 =>
  ob (vFa 1 v14x8) fun v15x9 =>
  ob (vLoad v15x9 H) fun v16x10 =>
  ob (vInt .sub a2 v16x10) fun v17x11 =>
  lpE (fun Q12 σ12 H12 =>
    ob (vNilC (σ12 0)) fun v21x13 =>
    ob (vFa 1 v21x13) fun v22x14 =>
    ob (vLoad v22x14 H12) fun v23x15 =>
    ob (vInt .add (σ12 2) v23x15) fun v24x16 =>
    ob (vInt .leq (σ12 9) v24x16) fun v25x17 =>
    cnd v25x17
      (ob (vNilC (σ12 0)) fun v30x18 =>
    ob (vFa 0 v30x18) fun v31x19 =>
    ob (vLoad v31x19 H12) fun v32x20 =>
    ob (vInt .mul (σ12 8) v32x20) fun v33x21 =>
    ob (vInt .rem (σ12 9) (σ12 7)) fun v37x22 =>
    ob (vInt .add v37x22 (σ12 7)) fun v39x23 =>
    ob (vInt .rem v39x23 (σ12 7)) fun v41x24 =>
    ob (vIx 1 (σ12 1) v41x24) fun v42x25 =>
    ob (vLoad v42x25 H12) fun v43x26 =>
    ob (vInt .add v33x21 v43x26) fun v44x27 =>
    ob (vInt .add (σ12 9) (.int .i64 1)) fun v27x28 =>
    Q12 .normal (up (up (up (up (up (up (up (up (up (up (up (up (up (up (up (up (up (up (up (up (up (up (up (up (up (up (up (up (up σ12 18 (σ12 9)) 19 (σ12 2)) 20 (σ12 0)) 21 v21x13) 22 v22x14) 23 v23x15) 24 v24x16) 25 v25x17) 28 (σ12 8)) 29 (σ12 0)) 30 v30x18) 31 v31x19) 32 v32x20) 33 v33x21) 34 (σ12 1)) 35 (σ12 9)) 36 (σ12 7)) 37 v37x22) 38 (σ12 7)) 39 v39x23) 40 (σ12 7)) 41 v41x24) 42 v42x25) 43 v43x26) 44 v44x27) 8 v44x27) 26 (σ12 9)) 27 v27x28) 9 v27x28) H12)
      (Q12 (.exit 0) (up (up (up (up (up (up (up (up σ12 18 (σ12 9)) 19 (σ12 2)) 20 (σ12 0)) 21 v21x13) 22 v22x14) 23 v23x15) 24 v24x16) 25 v25x17) H12)) (blkQ 0 (thenQ J2 (retQ prg [(.tmp 6)] K))) (up (up (up (up (up (up (up (up (up (up (up (up (S0 [a0, a1, a2]) 6 (.int .i64 0)) 10 a1) 11 v11x1) 7 v11x1) 8 (.int .i64 0)) 12 a2) 13 a0) 14 v14x8) 15 v15x9) 16 v16x10) 17 v17x11) 9 v17x11) H
def O.spec_l02Told : Nat → Nat × List Nat := fun i => bif Nat.beq i 6 then (0, [0, 1, 2, 3, 4, 5, 6, 7, 8, 9, 10, 11, 12, 13, 14, 15, 16, 17]) else (0, [])
theorem R.spec_l02Told {a0 a1 a2 : Value} {H : Hp} {K : Value → Hp → Prop} (h : F.spec_l02Told a0 a1 a2 H K) : HT prg I.spec_l02Told [a0, a1, a2].toArray H K :=
  HT_of_fev O.spec_l02Told mixed Try.func193 (by kernel_rfl) (Eq.mpr (by kernel_rfl : fev prg O.spec_l02Told Try.f193 [a0, a1, a2] H K = F.spec_l02Told a0 a1 a2 H K) h)

/-! loop.example/g01381/spec.l02Step: function 159 -/
def F.spec_l02Step (a0 a1 : Value) (H : Hp) (K : Value → Hp → Prop) : Prop :=
  bS 1 0 #[(.int .i64 0)] 2 [] H fun v7x1 H2 =>
  jn (fun σ3 H3 =>
    K (σ3 5) H3) fun J3 =>
  lpE (fun Q4 σ4 H4 =>
    ob (vLenSl (σ4 1)) fun v10x5 =>
    ob (vInt .lss (σ4 6) v10x5) fun v11x6 =>
    cnd v11x6
      (HT prg I.spec_l02Told [(σ4 0), (σ4 1), (σ4 6)].toArray H4 fun v18x7 H8 =>
    bS 1 1 #[(.int .i64 0)] 2 [(0, v18x7)] H8 fun v19x9 H10 =>
    apd 1 8 #[(.int .i64 0)] 2 (σ4 5) v19x9 H10 fun v20x11 H12 =>
    ob (vInt .add (σ4 6) (.int .i64 1)) fun v13x13 =>
    Q4 .normal (up (up (up (up (up (up (up (up (up (up (up (up (up (up (up σ4 8 (σ4 6)) 9 (σ4 1)) 10 v10x5) 11 v11x6) 14 (σ4 5)) 15 (σ4 0)) 16 (σ4 1)) 17 (σ4 6)) 18 v18x7) 19 v19x9) 20 v20x11) 5 v20x11) 12 (σ4 6)) 13 v13x13) 6 v13x13) H12)
      (Q4 (.exit 0) (up (up (up (up σ4 8 (σ4 6)) 9 (σ4 1)) 10 v10x5) 11 v11x6) H4)) (blkQ 0 (thenQ J3 (retQ prg [(.tmp 4)] K))) (up (up (up (up (S0 [a0, a1]) 4 (.slice none 0 0)) 7 v7x1) 5 v7x1) 6 (.int .i64 0)) H2
def O.spec_l02Step : Nat → Nat × List Nat := fun i => (0, [])
theorem R.spec_l02Step {a0 a1 : Value} {H : Hp} {K : Value → Hp → Prop} (h : F.spec_l02Step a0 a1 H K) : HT prg I.spec_l02Step [a0, a1].toArray H K :=
  HT_of_fev O.spec_l02Step mixed Try.func159 (by kernel_rfl) (Eq.mpr (by kernel_rfl : fev prg O.spec_l02Step Try.f159 [a0, a1] H K = F.spec_l02Step a0 a1 H K) h)

/-! loop.example/g01381/spec.l02Run: function 122 -/
def F.spec_l02Run (a0 a1 a2 : Value) (H : Hp) (K : Value → Hp → Prop) : Prop :=
  bS 1 0 #[(.int .i64 0)] 2 [] H fun v8x1 H2 =>
  apd 1 8 #[(.int .i64 0)] 2 v8x1 a1 H2 fun v10x3 H4 =>
  jn (fun σ5 H5 =>
    K (σ5 7) H5) fun J5 =>
  lpE (fun Q6 σ6 H6 =>
    ob (vInt .gtr (σ6 2) (.int .i64 0)) fun v12x7 =>
    cnd v12x7
      (HT prg I.spec_l02Step [(σ6 0), (σ6 7)].toArray H6 fun v17x8 H9 =>
    ob (vInt .sub (σ6 2) (.int .i64 1)) fun v14x10 =>
    Q6 .normal (up (up (up (up (up (up (up (up (up σ6 11 (σ6 2)) 12 v12x7) 15 (σ6 0)) 16 (σ6 7)) 17 v17x8) 7 v17x8) 13 (σ6 2)) 14 v14x10) 2 v14x10) H9)
      (Q6 (.exit 0) (up (up σ6 11 (σ6 2)) 12 v12x7) H6)) (blkQ 0 (thenQ J5 (retQ prg [(.tmp 6)] K))) (up (up (up (up (up (S0 [a0, a1, a2]) 6 (.slice none 0 0)) 8 v8x1) 9 a1) 10 v10x3) 7 v10x3) H4
def O.spec_l02Run : Nat → Nat × List Nat := fun i => (0, [])
theorem R.spec_l02Run {a0 a1 a2 : Value} {H : Hp} {K : Value → Hp → Prop} (h : F.spec_l02Run a0 a1 a2 H K) : HT prg I.spec_l02Run [a0, a1, a2].toArray H K :=
  HT_of_fev O.spec_l02Run mixed Try.func122 (by kernel_rfl) (Eq.mpr (by kernel_rfl : fev prg O.spec_l02Run Try.f122 [a0, a1, a2] H K = F.spec_l02Run a0 a1 a2 H K) h)

/-! loop.example/g01381/spec.RunRing: function 50 -/
def F.spec_RunRing (a0 a1 a2 : Value) (H : Hp) (K : Value → Hp → Prop) : Prop :=
  nw (a0 : Value).cells 43 H fun v3x1 H2 =>
  HT prg I.spec_l02Can [v3x1, a1].toArray H2 fun v9x3 H4 =>
  ob (vUn .not v9x3) fun v10x5 =>
  gop v10x5 false (fun K6 => K6 a2 H4) H4 fun v12x7 H8 =>
  gop v10x5 false (fun K9 => HT prg I.spec_l00In [v12x7, (.int .i64 0), (.int .i64 1000)].toArray H8 K9) H8 fun v13x10 H11 =>
  gop v10x5 false (fun K12 => ob (vUn .not v13x10) fun u => K12 u H11) H11 fun v14x13 H14 =>
  ob (vPick v10x5 (.bool true) v14x13) fun v15x15 =>
  cnd v15x15
    (K (.tuple #[(.slice none 0 0), (.bool false)]) H14)
    (HT prg I.spec_l02Run [v3x1, a1, a2].toArray H14 fun v18x16 H17 =>
  K (.tuple #[v18x16, (.bool true)]) H17)
def O.spec_RunRing : Nat → Nat × List Nat := fun i => (0, [])
theorem R.spec_RunRing {a0 a1 a2 : Value} {H : Hp} {K : Value → Hp → Prop} (h : F.spec_RunRing a0 a1 a2 H K) : HT prg I.spec_RunRing [a0, a1, a2].toArray H K :=
  HT_of_fev O.spec_RunRing mixed Try.func50 (by kernel_rfl) (Eq.mpr (by kernel_rfl : fev prg O.spec_RunRing Try.f50 [a0, a1, a2] H K = F.spec_RunRing a0 a1 a2 H K) h)

/-! loop.example/g01381/impl.period[[]int64]: function 123 -/
def F.impl_period_int64 (a0 a1 a2 a3 : Value) (H : Hp) (K : Value → Hp → Prop) : Prop :=
  opEv.nwM H fun v16x1 H2 =>
  jn (fun σ3 H3 =>
    K (.tuple #[(.int .i64 0), (.int .i64 0), (.bool false)]) H3) fun J3 =>
  lpE (fun Q4 σ4 H4 =>
    ob (vInt .leq (σ4 13) (σ4 3)) fun v20x5 =>
    cnd v20x5
      (callV prg (σ4 1) [(σ4 12)] H4 fun v27x6 H7 =>
    hp prg (Instr.lookup 148 (σ4 11) v27x6 true) H7 fun v28x8 H9 =>
    ob (vExt v28x8 0) fun v29x10 =>
    ob (vExt v28x8 1) fun v30x11 =>
    cnd v30x11
      (ob (vInt .sub (σ4 13) v29x10) fun v35x12 =>
      Q4 .ret (up (up (up (up (up (up (up (up (up (up (up (up (up (up (up (up (up (up (up (up (up σ4 18 (σ4 13)) 19 (σ4 3)) 20 v20x5) 24 (σ4 11)) 25 (σ4 1)) 26 (σ4 12)) 27 v27x6) 28 v28x8) 23 v28x8) 29 v29x10) 30 v30x11) 14 v29x10) 15 v30x11) 31 v30x11) 32 v29x10) 33 (σ4 13)) 34 v29x10) 35 v35x12) 8 v29x10) 9 v35x12) 10 (.bool true)) H9)
      (callV prg (σ4 1) [(σ4 12)] H9 fun v39x13 H14 =>
    hp prg (Instr.mapUpdate 148 (σ4 11) v39x13 (σ4 13)) H14 fun _ H15 =>
    callV prg (σ4 2) [(σ4 12)] H15 fun v43x16 H17 =>
    ob (vInt .add (σ4 13) (.int .i64 1)) fun v22x18 =>
    Q4 .normal (up (up (up (up (up (up (up (up (up (up (up (up (up (up (up (up (up (up (up (up (up (up (up (up (up (up σ4 18 (σ4 13)) 19 (σ4 3)) 20 v20x5) 24 (σ4 11)) 25 (σ4 1)) 26 (σ4 12)) 27 v27x6) 28 v28x8) 23 v28x8) 29 v29x10) 30 v30x11) 14 v29x10) 15 v30x11) 31 v30x11) 36 (σ4 11)) 37 (σ4 1)) 38 (σ4 12)) 39 v39x13) 40 (σ4 13)) 41 (σ4 2)) 42 (σ4 12)) 43 v43x16) 12 v43x16) 21 (σ4 13)) 22 v22x18) 13 v22x18) H17))
      (Q4 (.exit 0) (up (up (up σ4 18 (σ4 13)) 19 (σ4 3)) 20 v20x5) H4)) (blkQ 0 (thenQ J3 (retQ prg [(.tmp 8), (.tmp 9), (.tmp 10)] K))) (up (up (up (up (up (up (up (up (S0 [a0, a1, a2, a3]) 8 (.int .i64 0)) 9 (.int .i64 0)) 10 (.bool false)) 16 v16x1) 11 v16x1) 17 a0) 12 a0) 13 (.int .i64 0)) H2
def O.impl_period_int64 : Nat → Nat × List Nat := fun i => (0, [])
theorem R.impl_period_int64 {a0 a1 a2 a3 : Value} {H : Hp} {K : Value → Hp → Prop} (h : F.impl_period_int64 a0 a1 a2 a3 H K) : HT prg I.impl_period_int64 [a0, a1, a2, a3].toArray H K :=
  HT_of_fev O.impl_period_int64 mixed Try.func123 (by kernel_rfl) (Eq.mpr (by kernel_rfl : fev prg O.impl_period_int64 Try.f123 [a0, a1, a2, a3] H K = F.impl_period_int64 a0 a1 a2 a3 H K) h)

/-! loop.example/g01381/impl.keyOf: function 124 -/
def F.impl_keyOf (a0 : Value) (H : Hp) (K : Value → Hp → Prop) : Prop :=
  ob (vLenSl a0) fun v7x1 =>
  mkS 1 1 #[(.int .u8 0)] 5 v7x1 v7x1 H fun v8x2 H3 =>
  jn (fun σ4 H4 =>
    ob (val prg (convert 31 9 (σ4 3)) H4) fun v23x5 =>
    K v23x5 H4) fun J4 =>
  ob (vLenSl a0) fun v10x6 =>
  lpE (fun Q7 σ7 H7 =>
    ob (vInt .lss (σ7 11) (σ7 10)) fun v12x8 =>
    cnd v12x8
      (ob (vIx 1 (σ7 9) (σ7 11)) fun v14x9 =>
    ob (vLoad v14x9 H7) fun v15x10 =>
    ob (vCI .u8 v15x10) fun v19x11 =>
    ob (vIx 1 (σ7 3) (σ7 11)) fun v20x12 =>
    st 1 v20x12 v19x11 H7 fun H13 =>
    ob (vInt .add (σ7 11) (.int .i64 1)) fun v21x14 =>
    Q7 .normal (up (up (up (up (up (up (up (up (up (up (up (up (up σ7 12 v12x8) 13 (σ7 11)) 14 v14x9) 15 v15x10) 4 (σ7 11)) 5 v15x10) 16 (σ7 3)) 17 (σ7 11)) 18 v15x10) 19 v19x11) 20 v20x12) 21 v21x14) 11 v21x14) H13)
      (Q7 (.exit 0) (up σ7 12 v12x8) H7)) (blkQ 0 (thenQ J4 (retQ prg [(.tmp 2)] K))) (up (up (up (up (up (up (up (up (S0 [a0]) 2 (.string ⟨#[]⟩)) 6 a0) 7 v7x1) 8 v8x2) 3 v8x2) 9 a0) 10 v10x6) 11 (.int .i64 0)) H3
def O.impl_keyOf : Nat → Nat × List Nat := fun i => (0, [])
theorem R.impl_keyOf {a0 : Value} {H : Hp} {K : Value → Hp → Prop} (h : F.impl_keyOf a0 H K) : HT prg I.impl_keyOf [a0].toArray H K :=
  HT_of_fev O.impl_keyOf mixed Try.func124 (by kernel_rfl) (Eq.mpr (by kernel_rfl : fev prg O.impl_keyOf Try.f124 [a0] H K = F.impl_keyOf a0 H K) h)

/-! loop.example/g01381/impl.AddingPeriod: function 51 -/
def F.impl_AddingPeriod (a0 a1 a2 : Value) (H : Hp) (K : Value → Hp → Prop) : Prop :=
  nw (a0 : Value).cells 43 H fun v3x1 H2 =>
  ob (vLoadN 3 v3x1 H2) fun v9x3 =>
  HT prg I.impl_ValidRule [v9x3].toArray H2 fun v10x4 H5 =>
  ob (vUn .not v10x4) fun v11x6 =>
  gop v11x6 false (fun K7 => K7 a1 H5) H5 fun v13x8 H9 =>
  gop v11x6 false (fun K10 => ob (vLoadN 3 v3x1 H9) fun u => K10 u H9) H9 fun v14x11 H12 =>
  gop v11x6 false (fun K13 => HT prg I.impl_Rule_cells [v14x11].toArray H12 K13) H12 fun v15x14 H15 =>
  gop v11x6 false (fun K16 => HT prg I.impl_within [v13x8, v15x14, (.int .i64 64)].toArray H15 K16) H15 fun v16x17 H18 =>
  gop v11x6 false (fun K19 => ob (vUn .not v16x17) fun u => K19 u H18) H18 fun v17x20 H21 =>
  ob (vPick v11x6 (.bool true) v17x20) fun v18x22 =>
  gop v18x22 false (fun K23 => ob (vLoadN 3 v3x1 H21) fun u => K23 u H21) H21 fun v20x24 H25 =>
  gop v18x22 false (fun K26 => HT prg I.impl_Rule_adds [v20x24].toArray H25 K26) H25 fun v21x27 H28 =>
  gop v18x22 false (fun K29 => ob (vUn .not v21x27) fun u => K29 u H28) H28 fun v22x30 H31 =>
  ob (vPick v18x22 (.bool true) v22x30) fun v23x32 =>
  gop v23x32 false (fun K33 => K33 a2 H31) H31 fun v25x34 H35 =>
  gop v23x32 false (fun K36 => HT prg I.impl_within [v25x34, (.int .i64 1), (.int .i64 4096)].toArray H35 K36) H35 fun v26x37 H38 =>
  gop v23x32 false (fun K39 => ob (vUn .not v26x37) fun u => K39 u H38) H38 fun v27x40 H41 =>
  ob (vPick v23x32 (.bool true) v27x40) fun v28x42 =>
  cnd v28x42
    (K (.tuple #[(.int .i64 0), (.int .i64 0), (.bool false)]) H41)
    (ob (vLoadN 3 v3x1 H41) fun v31x43 =>
  HT prg I.impl_impulse [a1].toArray H41 fun v30x44 H45 =>
  Le H41 H45 ∧ (HT prg I.impl_period_int64 [v30x44, (.func (.func I.impl_keyOf) #[] #[]), (.func (.func I.impl_Rule_step) #[v31x43] #[]), a2].toArray H45 fun v34x46 H47 =>
  Le H45 H47 ∧ (ob (vExt v34x46 0) fun v35x48 =>
  ob (vExt v34x46 1) fun v36x49 =>
  ob (vExt v34x46 2) fun v37x50 =>
  K (.tuple #[v35x48, v36x49, v37x50]) H47)))
def O.impl_AddingPeriod : Nat → Nat × List Nat := fun i => bif Nat.beq i 3 then (0, [0, 2, 3, 4, 1, 5, 6, 7, 8, 9, 10, 11]) else (0, [])
theorem R.impl_AddingPeriod {a0 a1 a2 : Value} {H : Hp} {K : Value → Hp → Prop} (h : F.impl_AddingPeriod a0 a1 a2 H K) : HT prg I.impl_AddingPeriod [a0, a1, a2].toArray H K :=
  HT_of_fev O.impl_AddingPeriod mixed Try.func51 (by kernel_rfl) (Eq.mpr (by kernel_rfl : fev prg O.impl_AddingPeriod Try.f51 [a0, a1, a2] H K = F.impl_AddingPeriod a0 a1 a2 H K) h)

/-! loop.example/g01381/spec.l03Wide: function 126 -/
def F.spec_l03Wide (a0 : Value) (H : Hp) (K : Value → Hp → Prop) : Prop :=
  ob (vNilC a0) fun v4x1 =>
  ob (vFa 1 v4x1) fun v5x2 =>
  ob (vLoad v5x2 H) fun v6x3 =>
  ob (vInt .mul (.int .i64 2) v6x3) fun v7x4 =>
  ob (vInt .add v7x4 (.int .i64 1)) fun v8x5 =>
  K v8x5 H
def O.spec_l03Wide : Nat → Nat × List Nat := fun i => (0, [])
theorem R.spec_l03Wide {a0 : Value} {H : Hp} {K : Value → Hp → Prop} (h : F.spec_l03Wide a0 H K) : HT prg I.spec_l03Wide [a0].toArray H K :=
  HT_of_fev O.spec_l03Wide mixed Try.func126 (by kernel_rfl) (Eq.mpr (by kernel_rfl : fev prg O.spec_l03Wide Try.f126 [a0] H K = F.spec_l03Wide a0 H K) h)

/-! loop.example/g01381/spec.l03Terms: function 127 -/
def F.spec_l03Terms (a0 : Value) (H : Hp) (K : Value → Hp → Prop) : Prop :=
  HT prg I.spec_l03Wide [a0].toArray H fun v12x1 H2 =>
  bS 1 0 #[(.int .i64 0)] 2 [] H2 fun v13x3 H4 =>
  jn (fun σ5 H5 =>
    jn (fun σ6 H6 =>
      K (.tuple #[(σ6 5), (.bool true)]) H6) fun J6 =>
    ob (vNilC (σ5 0)) fun v38x7 =>
    ob (vFa 2 v38x7) fun v39x8 =>
    ob (vLoad v39x8 H5) fun v40x9 =>
    ob (vLenSl v40x9) fun v41x10 =>
    lpE (fun Q11 σ11 H11 =>
      ob (vInt .lss (σ11 42) (σ11 41)) fun v43x12 =>
      cnd v43x12
        (jn (fun σ13 H13 =>
        ob (vInt .add (σ13 42) (.int .i64 1)) fun v83x14 =>
        Q11 .normal (up (up σ13 83 v83x14) 42 v83x14) H13) fun J13 =>
      ob (vNilC (σ11 0)) fun v47x15 =>
      ob (vFa 0 v47x15) fun v48x16 =>
      ob (vLoad v48x16 H11) fun v49x17 =>
      HT prg I.spec_l03Cells [(σ11 42), v49x17, (σ11 4)].toArray H11 fun v51x18 H19 =>
      jn (fun σ20 H20 =>
        ob (vNilC (σ20 0)) fun v71x21 =>
        ob (vFa 0 v71x21) fun v72x22 =>
        ob (vLoad v72x22 H20) fun v73x23 =>
        ob (vInt .rem (σ20 9) v73x23) fun v74x24 =>
        ob (vNilC (σ20 0)) fun v76x25 =>
        ob (vFa 2 v76x25) fun v77x26 =>
        ob (vLoad v77x26 H20) fun v78x27 =>
        ob (vIx 1 v78x27 (σ20 7)) fun v80x28 =>
        ob (vLoad v80x28 H20) fun v81x29 =>
        ob (vInt .neq v74x24 v81x29) fun v82x30 =>
        cnd v82x30
          (Q11 .ret (up (up (up (up (up (up (up (up (up (up (up (up (up (up (up (up σ20 69 (σ20 9)) 70 (σ20 0)) 71 v71x21) 72 v72x22) 73 v73x23) 74 v74x24) 75 (σ20 0)) 76 v76x25) 77 v77x26) 78 v78x27) 79 (σ20 7)) 80 v80x28) 81 v81x29) 82 v82x30) 2 (.slice none 0 0)) 3 (.bool false)) H20)
          (J13 (up (up (up (up (up (up (up (up (up (up (up (up (up (up σ20 69 (σ20 9)) 70 (σ20 0)) 71 v71x21) 72 v72x22) 73 v73x23) 74 v74x24) 75 (σ20 0)) 76 v76x25) 77 v77x26) 78 v78x27) 79 (σ20 7)) 80 v80x28) 81 v81x29) 82 v82x30) H20)) fun J20 =>
      ob (vLenSl v51x18) fun v53x31 =>
      lpE (fun Q32 σ32 H32 =>
        ob (vInt .lss (σ32 54) (σ32 53)) fun v55x33 =>
        cnd v55x33
          (ob (vIx 1 (σ32 8) (σ32 54)) fun v60x34 =>
        ob (vLoad v60x34 H32) fun v61x35 =>
        ob (vIx 1 (σ32 5) (σ32 54)) fun v64x36 =>
        ob (vLoad v64x36 H32) fun v65x37 =>
        ob (vInt .mul v61x35 v65x37) fun v66x38 =>
        ob (vInt .add (σ32 9) v66x38) fun v67x39 =>
        ob (vInt .add (σ32 54) (.int .i64 1)) fun v68x40 =>
        Q32 .normal (up (up (up (up (up (up (up (up (up (up (up (up (up (up (up (up (up σ32 55 v55x33) 56 (σ32 54)) 10 (σ32 54)) 57 (σ32 9)) 58 (σ32 8)) 59 (σ32 54)) 60 v60x34) 61 v61x35) 62 (σ32 5)) 63 (σ32 54)) 64 v64x36) 65 v65x37) 66 v66x38) 67 v67x39) 9 v67x39) 68 v68x40) 54 v68x40) H32)
          (Q32 (.exit 4) (up σ32 55 v55x33) H32)) (blkQ 4 (thenQ J20 (blkQ 3 (thenQ J13 Q11)))) (up (up (up (up (up (up (up (up (up (up (up (up (up (up (up σ11 43 v43x12) 44 (σ11 42)) 7 (σ11 42)) 45 (σ11 42)) 46 (σ11 0)) 47 v47x15) 48 v48x16) 49 v49x17) 50 (σ11 4)) 51 v51x18) 8 v51x18) 9 (.int .i64 0)) 52 v51x18) 53 v53x31) 54 (.int .i64 0)) H19)
        (Q11 (.exit 2) (up σ11 43 v43x12) H11)) (blkQ 2 (thenQ J6 (retQ prg [(.tmp 2), (.tmp 3)] K))) (up (up (up (up (up (up σ5 37 (σ5 0)) 38 v38x7) 39 v39x8) 40 v40x9) 41 v41x10) 42 (.int .i64 0)) H5) fun J5 =>
  lpE (fun Q41 σ41 H41 =>
    ob (vInt .lss (σ41 6) (σ41 4)) fun v16x42 =>
    cnd v16x42
      (ob (vNilC (σ41 0)) fun v21x43 =>
    ob (vFa 2 v21x43) fun v22x44 =>
    ob (vLoad v22x44 H41) fun v23x45 =>
    ob (vNilC (σ41 0)) fun v25x46 =>
    ob (vFa 0 v25x46) fun v26x47 =>
    ob (vLoad v26x47 H41) fun v27x48 =>
    ob (vInt .sub (σ41 4) (.int .i64 1)) fun v29x49 =>
    ob (vInt .sub v29x49 (σ41 6)) fun v31x50 =>
    HT prg I.spec_l03Power [v27x48, v31x50].toArray H41 fun v32x51 H52 =>
    Le H41 H52 ∧ (ob (vIx 1 v23x45 v32x51) fun v33x53 =>
    ob (vLoad v33x53 H52) fun v34x54 =>
    bS 1 1 #[(.int .i64 0)] 2 [(0, v34x54)] H52 fun v35x55 H56 =>
    apd 1 8 #[(.int .i64 0)] 2 (σ41 5) v35x55 H56 fun v36x57 H58 =>
    ob (vInt .add (σ41 6) (.int .i64 1)) fun v18x59 =>
    Q41 .normal (up (up (up (up (up (up (up (up (up (up (up (up (up (up (up (up (up (up (up (up (up (up (up (up (up σ41 14 (σ41 6)) 15 (σ41 4)) 16 v16x42) 19 (σ41 5)) 20 (σ41 0)) 21 v21x43) 22 v22x44) 23 v23x45) 24 (σ41 0)) 25 v25x46) 26 v26x47) 27 v27x48) 28 (σ41 4)) 29 v29x49) 30 (σ41 6)) 31 v31x50) 32 v32x51) 33 v33x53) 34 v34x54) 35 v35x55) 36 v36x57) 5 v36x57) 17 (σ41 6)) 18 v18x59) 6 v18x59) H58))
      (Q41 (.exit 0) (up (up (up σ41 14 (σ41 6)) 15 (σ41 4)) 16 v16x42) H41)) (blkQ 0 (thenQ J5 (retQ prg [(.tmp 2), (.tmp 3)] K))) (up (up (up (up (up (up (up (up (S0 [a0]) 2 (.slice none 0 0)) 3 (.bool false)) 11 a0) 12 v12x1) 4 v12x1) 13 v13x3) 5 v13x3) 6 (.int .i64 0)) H4
def O.spec_l03Terms : Nat → Nat × List Nat := fun i => bif Nat.beq i 17 then (0, [0, 1, 2, 3, 4, 5, 6, 7, 8, 9, 10, 11, 12, 13]) else bif Nat.beq i 15 then (0, [0, 1, 2, 3, 4, 5, 6, 7, 8, 9, 10, 11]) else bif Nat.beq i 6 then (0, [0, 1, 2, 3, 4, 5, 6, 7, 8, 9, 10, 11, 12, 13, 14, 15, 16, 17, 18]) else (0, [])
theorem R.spec_l03Terms {a0 : Value} {H : Hp} {K : Value → Hp → Prop} (h : F.spec_l03Terms a0 H K) : HT prg I.spec_l03Terms [a0].toArray H K :=
  HT_of_fev O.spec_l03Terms mixed Try.func127 (by kernel_rfl) (Eq.mpr (by kernel_rfl : fev prg O.spec_l03Terms Try.f127 [a0] H K = F.spec_l03Terms a0 H K) h)

/-! loop.example/g01381/spec.l03Once: function 128 -/
def F.spec_l03Once (a0 a1 a2 : Value) (H : Hp) (K : Value → Hp → Prop) : Prop :=
  mkS 1 8 #[(.int .i64 0)] 2 a2 a2 H fun v11x1 H2 =>
  jn (fun σ3 H3 =>
    K (σ3 7) H3) fun J3 =>
  ob (vLenSl a1) fun v13x4 =>
  lpE (fun Q5 σ5 H5 =>
    ob (vInt .lss (σ5 14) (σ5 13)) fun v15x6 =>
    cnd v15x6
      (ob (vNilC (σ5 0)) fun v18x7 =>
    ob (vFa 1 v18x7) fun v19x8 =>
    ob (vLoad v19x8 H5) fun v20x9 =>
    ob (vInt .sub v20x9 (σ5 14)) fun v22x10 =>
    ob (vInt .mul (.int .i64 2) (σ5 2)) fun v24x11 =>
    ob (vInt .add v22x10 v24x11) fun v25x12 =>
    ob (vInt .rem v25x12 (σ5 2)) fun v27x13 =>
    ob (vIx 1 (σ5 7) v27x13) fun v32x14 =>
    ob (vLoad v32x14 H5) fun v33x15 =>
    ob (vIx 1 (σ5 1) (σ5 14)) fun v36x16 =>
    ob (vLoad v36x16 H5) fun v37x17 =>
    ob (vInt .add v33x15 v37x17) fun v38x18 =>
    ob (vNilC (σ5 0)) fun v40x19 =>
    ob (vFa 0 v40x19) fun v41x20 =>
    ob (vLoad v41x20 H5) fun v42x21 =>
    ob (vInt .rem v38x18 v42x21) fun v43x22 =>
    ob (vIx 1 (σ5 7) v27x13) fun v44x23 =>
    st 1 v44x23 v43x22 H5 fun H24 =>
    ob (vInt .add (σ5 14) (.int .i64 1)) fun v45x25 =>
    Q5 .normal (up (up (up (up (up (up (up (up (up (up (up (up (up (up (up (up (up (up (up (up (up (up (up (up (up (up (up (up (up (up (up (up (up (up σ5 15 v15x6) 16 (σ5 14)) 8 (σ5 14)) 17 (σ5 0)) 18 v18x7) 19 v19x8) 20 v20x9) 21 (σ5 14)) 22 v22x10) 23 (σ5 2)) 24 v24x11) 25 v25x12) 26 (σ5 2)) 27 v27x13) 9 v27x13) 28 (σ5 7)) 29 v27x13) 30 (σ5 7)) 31 v27x13) 32 v32x14) 33 v33x15) 34 (σ5 1)) 35 (σ5 14)) 36 v36x16) 37 v37x17) 38 v38x18) 39 (σ5 0)) 40 v40x19) 41 v41x20) 42 v42x21) 43 v43x22) 44 v44x23) 45 v45x25) 14 v45x25) H24)
      (Q5 (.exit 0) (up σ5 15 v15x6) H5)) (blkQ 0 (thenQ J3 (retQ prg [(.tmp 6)] K))) (up (up (up (up (up (up (up (S0 [a0, a1, a2]) 6 (.slice none 0 0)) 10 a2) 11 v11x1) 7 v11x1) 12 a1) 13 v13x4) 14 (.int .i64 0)) H2
def O.spec_l03Once : Nat → Nat × List Nat := fun i => bif Nat.beq i 6 then (0, [0, 1, 2, 3, 4, 5, 6, 7, 8, 9, 10, 11, 12, 13, 14, 15, 16, 17]) else (0, [])
theorem R.spec_l03Once {a0 a1 a2 : Value} {H : Hp} {K : Value → Hp → Prop} (h : F.spec_l03Once a0 a1 a2 H K) : HT prg I.spec_l03Once [a0, a1, a2].toArray H K :=
  HT_of_fev O.spec_l03Once mixed Try.func128 (by kernel_rfl) (Eq.mpr (by kernel_rfl : fev prg O.spec_l03Once Try.f128 [a0, a1, a2] H K = F.spec_l03Once a0 a1 a2 H K) h)

/-! loop.example/g01381/spec.l03Around: function 132 -/
def F.spec_l03Around (a0 a1 a2 : Value) (H : Hp) (K : Value → Hp → Prop) : Prop :=
  ob (vLenSl a0) fun v13x1 =>
  mkS 1 8 #[(.int .i64 0)] 2 v13x1 v13x1 H fun v15x2 H3 =>
  jn (fun σ4 H4 =>
    jn (fun σ5 H5 =>
      K (σ5 8) H5) fun J5 =>
    ob (vLenSl (σ4 8)) fun v54x6 =>
    lpE (fun Q7 σ7 H7 =>
      ob (vInt .lss (σ7 55) (σ7 54)) fun v56x8 =>
      cnd v56x8
        (ob (vIx 1 (σ7 8) (σ7 55)) fun v60x9 =>
      ob (vLoad v60x9 H7) fun v61x10 =>
      ob (vInt .rem v61x10 (σ7 2)) fun v63x11 =>
      ob (vIx 1 (σ7 8) (σ7 55)) fun v64x12 =>
      st 1 v64x12 v63x11 H7 fun H13 =>
      ob (vInt .add (σ7 55) (.int .i64 1)) fun v65x14 =>
      Q7 .normal (up (up (up (up (up (up (up (up (up (up (up (up σ7 56 v56x8) 57 (σ7 55)) 11 (σ7 55)) 58 (σ7 8)) 59 (σ7 55)) 60 v60x9) 61 v61x10) 62 (σ7 2)) 63 v63x11) 64 v64x12) 65 v65x14) 55 v65x14) H13)
        (Q7 (.exit 4) (up σ7 56 v56x8) H7)) (blkQ 4 (thenQ J5 (retQ prg [(.tmp 6)] K))) (up (up (up σ4 53 (σ4 8)) 54 v54x6) 55 (.int .i64 0)) H4) fun J4 =>
  ob (vLenSl a1) fun v17x15 =>
  lpE (fun Q16 σ16 H16 =>
    ob (vInt .lss (σ16 18) (σ16 17)) fun v19x17 =>
    cnd v19x17
      (jn (fun σ18 H18 =>
      ob (vInt .add (σ18 18) (.int .i64 1)) fun v52x19 =>
      Q16 .normal (up (up σ18 52 v52x19) 18 v52x19) H18) fun J18 =>
    lpE (fun Q20 σ20 H20 =>
      ob (vInt .lss (σ20 10) (σ20 7)) fun v23x21 =>
      gop v23x21 true (fun K22 => K22 (σ20 1) H20) H20 fun v25x23 H24 =>
      gop v23x21 true (fun K25 => K25 (σ20 9) H24) H24 fun v26x26 H27 =>
      gop v23x21 true (fun K28 => ob (vIx 1 v25x23 v26x26) fun u => K28 u H27) H27 fun v27x29 H30 =>
      gop v23x21 true (fun K31 => ob (vLoad v27x29 H30) fun u => K31 u H30) H30 fun v28x32 H33 =>
      gop v23x21 true (fun K34 => ob (vInt .neq v28x32 (.int .i64 0)) fun u => K34 u H33) H33 fun v29x35 H36 =>
      ob (vPick v23x21 v29x35 (.bool false)) fun v30x37 =>
      cnd v30x37
        (ob (vInt .add (σ20 10) (σ20 9)) fun v36x38 =>
      ob (vInt .rem v36x38 (σ20 7)) fun v38x39 =>
      ob (vIx 1 (σ20 8) v38x39) fun v39x40 =>
      ob (vLoad v39x40 H36) fun v40x41 =>
      ob (vIx 1 (σ20 0) (σ20 10)) fun v43x42 =>
      ob (vLoad v43x42 H36) fun v44x43 =>
      ob (vIx 1 (σ20 1) (σ20 9)) fun v47x44 =>
      ob (vLoad v47x44 H36) fun v48x45 =>
      ob (vInt .mul v44x43 v48x45) fun v49x46 =>
      ob (vInt .add v40x41 v49x46) fun v50x47 =>
      ob (vIx 1 (σ20 8) v38x39) fun v51x48 =>
      st 1 v51x48 v50x47 H36 fun H49 =>
      ob (vInt .add (σ20 10) (.int .i64 1)) fun v32x50 =>
      Q20 .normal (up (up (up (up (up (up (up (up (up (up (up (up (up (up (up (up (up (up (up (up (up (up (up (up (up (up (up (up (up (up (up (up σ20 21 (σ20 10)) 22 (σ20 7)) 23 v23x21) 24 v23x21) 25 v25x23) 26 v26x26) 27 v27x29) 28 v28x32) 29 v29x35) 30 v30x37) 33 (σ20 8)) 34 (σ20 10)) 35 (σ20 9)) 36 v36x38) 37 (σ20 7)) 38 v38x39) 39 v39x40) 40 v40x41) 41 (σ20 0)) 42 (σ20 10)) 43 v43x42) 44 v44x43) 45 (σ20 1)) 46 (σ20 9)) 47 v47x44) 48 v48x45) 49 v49x46) 50 v50x47) 51 v51x48) 31 (σ20 10)) 32 v32x50) 10 v32x50) H49)
        (Q20 (.exit 2) (up (up (up (up (up (up (up (up (up (up σ20 21 (σ20 10)) 22 (σ20 7)) 23 v23x21) 24 v23x21) 25 v25x23) 26 v26x26) 27 v27x29) 28 v28x32) 29 v29x35) 30 v30x37) H36)) (blkQ 2 (blkQ 1 (thenQ J18 Q16))) (up (up (up (up σ16 19 v19x17) 20 (σ16 18)) 9 (σ16 18)) 10 (.int .i64 0)) H16)
      (Q16 (.exit 0) (up σ16 19 v19x17) H16)) (blkQ 0 (thenQ J4 (retQ prg [(.tmp 6)] K))) (up (up (up (up (up (up (up (up (up (up (S0 [a0, a1, a2]) 6 (.slice none 0 0)) 12 a0) 13 v13x1) 7 v13x1) 14 v13x1) 15 v15x2) 8 v15x2) 16 a1) 17 v17x15) 18 (.int .i64 0)) H3
def O.spec_l03Around : Nat → Nat × List Nat := fun i => bif Nat.beq i 9 then (0, [0, 1, 2, 3, 4, 5, 6, 7, 8, 9, 10, 11, 12, 13, 14, 15, 16, 17, 18, 19]) else (0, [])
theorem R.spec_l03Around {a0 a1 a2 : Value} {H : Hp} {K : Value → Hp → Prop} (h : F.spec_l03Around a0 a1 a2 H K) : HT prg I.spec_l03Around [a0, a1, a2].toArray H K :=
  HT_of_fev O.spec_l03Around mixed Try.func132 (by kernel_rfl) (Eq.mpr (by kernel_rfl : fev prg O.spec_l03Around Try.f132 [a0, a1, a2] H K = F.spec_l03Around a0 a1 a2 H K) h)

/-! loop.example/g01381/spec.l03Turn: function 129 -/
def F.spec_l03Turn (a0 a1 a2 : Value) (H : Hp) (K : Value → Hp → Prop) : Prop :=
  HT prg I.spec_l03Around [a1, a2, a0].toArray H fun v10x1 H2 =>
  K v10x1 H2
def O.spec_l03Turn : Nat → Nat × List Nat := fun i => (0, [])
theorem R.spec_l03Turn {a0 a1 a2 : Value} {H : Hp} {K : Value → Hp → Prop} (h : F.spec_l03Turn a0 a1 a2 H K) : HT prg I.spec_l03Turn [a0, a1, a2].toArray H K :=
  HT_of_fev O.spec_l03Turn mixed Try.func129 (by kernel_rfl) (Eq.mpr (by kernel_rfl : fev prg O.spec_l03Turn Try.f129 [a0, a1, a2] H K = F.spec_l03Turn a0 a1 a2 H K) h)

/-! loop.example/g01381/spec.l00Same: function 130 -/
def F.spec_l00Same (a0 a1 : Value) (H : Hp) (K : Value → Hp → Prop) : Prop :=
  ob (vLenSl a0) fun v7x1 =>
  ob (vLenSl a1) fun v9x2 =>
  ob (vInt .neq v7x1 v9x2) fun v10x3 =>
  cnd v10x3
    (K (.bool false) H)
    (jn (fun σ4 H4 =>
    K (.bool true) H4) fun J4 =>
  lpE (fun Q5 σ5 H5 =>
    ob (vLenSl (σ5 0)) fun v13x6 =>
    ob (vInt .lss (σ5 5) v13x6) fun v14x7 =>
    cnd v14x7
      (ob (vIx 1 (σ5 0) (σ5 5)) fun v19x8 =>
    ob (vLoad v19x8 H5) fun v20x9 =>
    ob (vIx 1 (σ5 1) (σ5 5)) fun v23x10 =>
    ob (vLoad v23x10 H5) fun v24x11 =>
    ob (vInt .neq v20x9 v24x11) fun v25x12 =>
    cnd v25x12
      (Q5 .ret (up (up (up (up (up (up (up (up (up (up (up (up (up (up σ5 11 (σ5 5)) 12 (σ5 0)) 13 v13x6) 14 v14x7) 17 (σ5 0)) 18 (σ5 5)) 19 v19x8) 20 v20x9) 21 (σ5 1)) 22 (σ5 5)) 23 v23x10) 24 v24x11) 25 v25x12) 4 (.bool false)) H5)
      (ob (vInt .add (σ5 5) (.int .i64 1)) fun v16x13 =>
    Q5 .normal (up (up (up (up (up (up (up (up (up (up (up (up (up (up (up (up σ5 11 (σ5 5)) 12 (σ5 0)) 13 v13x6) 14 v14x7) 17 (σ5 0)) 18 (σ5 5)) 19 v19x8) 20 v20x9) 21 (σ5 1)) 22 (σ5 5)) 23 v23x10) 24 v24x11) 25 v25x12) 15 (σ5 5)) 16 v16x13) 5 v16x13) H5))
      (Q5 (.exit 0) (up (up (up (up σ5 11 (σ5 5)) 12 (σ5 0)) 13 v13x6) 14 v14x7) H5)) (blkQ 0 (thenQ J4 (retQ prg [(.tmp 4)] K))) (up (up (up (up (up (up (up (S0 [a0, a1]) 4 (.bool false)) 6 a0) 7 v7x1) 8 a1) 9 v9x2) 10 v10x3) 5 (.int .i64 0)) H)
def O.spec_l00Same : Nat → Nat × List Nat := fun i => bif Nat.beq i 6 then (0, [0, 1, 2, 3, 4, 5, 6, 7, 8]) else (0, [])
theorem R.spec_l00Same {a0 a1 : Value} {H : Hp} {K : Value → Hp → Prop} (h : F.spec_l00Same a0 a1 H K) : HT prg I.spec_l00Same [a0, a1].toArray H K :=
  HT_of_fev O.spec_l00Same mixed Try.func130 (by kernel_rfl) (Eq.mpr (by kernel_rfl : fev prg O.spec_l00Same Try.f130 [a0, a1] H K = F.spec_l00Same a0 a1 H K) h)

/-! loop.example/g01381/spec.AddingPeriod: function 52 -/
def F.spec_AddingPeriod (a0 a1 a2 : Value) (H : Hp) (K : Value → Hp → Prop) : Prop :=
  nw (a0 : Value).cells 43 H fun v3x1 H2 =>
  HT prg I.spec_l02Is [v3x1].toArray H2 fun v22x3 H4 =>
  ob (vUn .not v22x3) fun v23x5 =>
  gop v23x5 false (fun K6 => K6 a1 H4) H4 fun v25x7 H8 =>
  gop v23x5 false (fun K9 => HT prg I.spec_l03Wide [v3x1].toArray H8 K9) H8 fun v26x10 H11 =>
  gop v23x5 false (fun K12 => HT prg I.spec_l00In [v25x7, v26x10, (.int .i64 64)].toArray H11 K12) H11 fun v27x13 H14 =>
  gop v23x5 false (fun K15 => ob (vUn .not v27x13) fun u => K15 u H14) H14 fun v28x16 H17 =>
  ob (vPick v23x5 (.bool true) v28x16) fun v29x18 =>
  gop v29x18 false (fun K19 => K19 a2 H17) H17 fun v31x20 H21 =>
  gop v29x18 false (fun K22 => HT prg I.spec_l00In [v31x20, (.int .i64 1), (.int .i64 4096)].toArray H21 K22) H21 fun v32x23 H24 =>
  gop v29x18 false (fun K25 => ob (vUn .not v32x23) fun u => K25 u H24) H24 fun v33x26 H27 =>
  ob (vPick v29x18 (.bool true) v33x26) fun v34x28 =>
  cnd v34x28
    (K (.tuple #[(.int .i64 0), (.int .i64 0), (.bool false)]) H27)
    (HT prg I.spec_l03Terms [v3x1].toArray H27 fun v36x29 H30 =>
  ob (vExt v36x29 0) fun v37x31 =>
  ob (vExt v36x29 1) fun v38x32 =>
  ob (vUn .not v38x32) fun v40x33 =>
  cnd v40x33
    (K (.tuple #[(.int .i64 0), (.int .i64 0), (.bool false)]) H30)
    (HT prg I.spec_l03Once [v3x1, v37x31, a1].toArray H30 fun v43x34 H35 =>
  mkS 1 8 #[(.int .i64 0)] 2 a1 a1 H35 fun v45x36 H37 =>
  ob (vIx 1 v45x36 (.int .i64 0)) fun v47x38 =>
  st 1 v47x38 (.int .i64 1) H37 fun H39 =>
  ob (vFa 0 v3x1) fun v49x40 =>
  ob (vLoad v49x40 H39) fun v50x41 =>
  HT prg I.spec_l03Turn [v50x41, v45x36, v43x34].toArray H39 fun v53x42 H43 =>
  jn (fun σ44 H44 =>
    jn (fun σ45 H45 =>
      jn (fun σ46 H46 =>
        ob (vInt .add (σ46 20) (σ46 15)) fun v108x47 =>
        ob (vInt .gtr v108x47 (σ46 2)) fun v110x48 =>
        cnd v110x48
          (K (.tuple #[(.int .i64 0), (.int .i64 0), (.bool false)]) H46)
          (K (.tuple #[(σ46 20), (σ46 15), (.bool true)]) H46)) fun J46 =>
      lpE (fun Q49 σ49 H49 =>
        HT prg I.spec_l00Same [(σ49 21), (σ49 18)].toArray H49 fun v92x50 H51 =>
        ob (vUn .not v92x50) fun v93x52 =>
        cnd v93x52
          (ob (vFa 0 (σ49 3)) fun v96x53 =>
        ob (vLoad v96x53 H51) fun v97x54 =>
        HT prg I.spec_l03Turn [v97x54, (σ49 21), (σ49 11)].toArray H51 fun v100x55 H56 =>
        ob (vFa 0 (σ49 3)) fun v101x57 =>
        ob (vLoad v101x57 H56) fun v102x58 =>
        HT prg I.spec_l03Turn [v102x58, (σ49 18), (σ49 11)].toArray H56 fun v105x59 H60 =>
        ob (vInt .add (σ49 20) (.int .i64 1)) fun v95x61 =>
        Q49 .normal (up (up (up (up (up (up (up (up (up (up (up (up (up (up (up (up (up (up (up σ49 90 (σ49 21)) 91 (σ49 18)) 92 v92x50) 93 v93x52) 96 v96x53) 97 v97x54) 98 (σ49 21)) 99 (σ49 11)) 100 v100x55) 21 v100x55) 101 v101x57) 102 v102x58) 103 (σ49 18)) 104 (σ49 11)) 105 v105x59) 18 v105x59) 94 (σ49 20)) 95 v95x61) 20 v95x61) H60)
          (Q49 (.exit 4) (up (up (up (up σ49 90 (σ49 21)) 91 (σ49 18)) 92 v92x50) 93 v93x52) H51)) (blkQ 4 (thenQ J46 (retQ prg [(.tmp 6), (.tmp 7), (.tmp 8)] K))) (up (up (up σ45 20 (.int .i64 0)) 89 (σ45 12)) 21 (σ45 12)) H45) fun J45 =>
    lpE (fun Q62 σ62 H62 =>
      ob (vInt .lss (σ62 19) (σ62 15)) fun v81x63 =>
      cnd v81x63
        (ob (vFa 0 (σ62 3)) fun v84x64 =>
      ob (vLoad v84x64 H62) fun v85x65 =>
      HT prg I.spec_l03Turn [v85x65, (σ62 18), (σ62 11)].toArray H62 fun v88x66 H67 =>
      ob (vInt .add (σ62 19) (.int .i64 1)) fun v83x68 =>
      Q62 .normal (up (up (up (up (up (up (up (up (up (up (up (up σ62 79 (σ62 19)) 80 (σ62 15)) 81 v81x63) 84 v84x64) 85 v85x65) 86 (σ62 18)) 87 (σ62 11)) 88 v88x66) 18 v88x66) 82 (σ62 19)) 83 v83x68) 19 v83x68) H67)
        (Q62 (.exit 2) (up (up (up σ62 79 (σ62 19)) 80 (σ62 15)) 81 v81x63) H62)) (blkQ 2 (thenQ J45 (retQ prg [(.tmp 6), (.tmp 7), (.tmp 8)] K))) (up (up (up σ44 78 (σ44 12)) 18 (σ44 12)) 19 (.int .i64 0)) H44) fun J44 =>
  lpE (fun Q69 σ69 H69 =>
    HT prg I.spec_l00Same [(σ69 13), (σ69 14)].toArray H69 fun v56x70 H71 =>
    ob (vUn .not v56x70) fun v57x72 =>
    cnd v57x72
      (ob (vInt .mul (.int .i64 4) (σ69 2)) fun v62x73 =>
    ob (vInt .add v62x73 (.int .i64 8)) fun v63x74 =>
    ob (vInt .gtr (σ69 17) v63x74) fun v64x75 =>
    cnd v64x75
      (Q69 .ret (up (up (up (up (up (up (up (up (up (up (up (up σ69 54 (σ69 13)) 55 (σ69 14)) 56 v56x70) 57 v57x72) 60 (σ69 17)) 61 (σ69 2)) 62 v62x73) 63 v63x74) 64 v64x75) 6 (.int .i64 0)) 7 (.int .i64 0)) 8 (.bool false)) H71)
      (ob (vInt .eql (σ69 15) (σ69 16)) fun v67x76 =>
    cnd v67x76
      (ob (vInt .mul (σ69 16) (.int .i64 2)) fun v70x77 =>
      ob (vFa 0 (σ69 3)) fun v71x78 =>
    ob (vLoad v71x78 H71) fun v72x79 =>
    HT prg I.spec_l03Turn [v72x79, (σ69 14), (σ69 11)].toArray H71 fun v75x80 H81 =>
    ob (vInt .add (.int .i64 0) (.int .i64 1)) fun v77x82 =>
    ob (vInt .add (σ69 17) (.int .i64 1)) fun v59x83 =>
    Q69 .normal (up (up (up (up (up (up (up (up (up (up (up (up (up (up (up (up (up (up (up (up (up (up (up (up (up (up (up (up (up (up σ69 54 (σ69 13)) 55 (σ69 14)) 56 v56x70) 57 v57x72) 60 (σ69 17)) 61 (σ69 2)) 62 v62x73) 63 v63x74) 64 v64x75) 65 (σ69 15)) 66 (σ69 16)) 67 v67x76) 68 (σ69 14)) 13 (σ69 14)) 69 (σ69 16)) 70 v70x77) 16 v70x77) 15 (.int .i64 0)) 71 v71x78) 72 v72x79) 73 (σ69 14)) 74 (σ69 11)) 75 v75x80) 14 v75x80) 76 (.int .i64 0)) 77 v77x82) 15 v77x82) 58 (σ69 17)) 59 v59x83) 17 v59x83) H81)
      (ob (vFa 0 (σ69 3)) fun v71x84 =>
    ob (vLoad v71x84 H71) fun v72x85 =>
    HT prg I.spec_l03Turn [v72x85, (σ69 14), (σ69 11)].toArray H71 fun v75x86 H87 =>
    ob (vInt .add (σ69 15) (.int .i64 1)) fun v77x88 =>
    ob (vInt .add (σ69 17) (.int .i64 1)) fun v59x89 =>
    Q69 .normal (up (up (up (up (up (up (up (up (up (up (up (up (up (up (up (up (up (up (up (up (up (up (up (up σ69 54 (σ69 13)) 55 (σ69 14)) 56 v56x70) 57 v57x72) 60 (σ69 17)) 61 (σ69 2)) 62 v62x73) 63 v63x74) 64 v64x75) 65 (σ69 15)) 66 (σ69 16)) 67 v67x76) 71 v71x84) 72 v72x85) 73 (σ69 14)) 74 (σ69 11)) 75 v75x86) 14 v75x86) 76 (σ69 15)) 77 v77x88) 15 v77x88) 58 (σ69 17)) 59 v59x89) 17 v59x89) H87)))
      (Q69 (.exit 0) (up (up (up (up σ69 54 (σ69 13)) 55 (σ69 14)) 56 v56x70) 57 v57x72) H71)) (blkQ 0 (thenQ J44 (retQ prg [(.tmp 6), (.tmp 7), (.tmp 8)] K))) (up (up (up (up (up (up (up (up (up (up (up (up (up (up (up (up (up (up (up (up (up (up (up (up (up (up (up (up (up (up (up (up (up (up (up (up (up (up (up (up (up (up (up (up (up (S0 [a0, a1, a2]) 3 v3x1) 6 (.int .i64 0)) 7 (.int .i64 0)) 8 (.bool false)) 22 v22x3) 23 v23x5) 24 v23x5) 25 v25x7) 26 v26x10) 27 v27x13) 28 v28x16) 29 v29x18) 30 v29x18) 31 v31x20) 32 v32x23) 33 v33x26) 34 v34x28) 36 v36x29) 35 v36x29) 37 v37x31) 38 v38x32) 9 v37x31) 10 v38x32) 39 v38x32) 40 v40x33) 41 v37x31) 42 a1) 43 v43x34) 11 v43x34) 44 a1) 45 v45x36) 12 v45x36) 46 v45x36) 47 v47x38) 48 v45x36) 13 v45x36) 49 v49x40) 50 v50x41) 51 v45x36) 52 v43x34) 53 v53x42) 14 v53x42) 15 (.int .i64 1)) 16 (.int .i64 1)) 17 (.int .i64 1)) H43))
def O.spec_AddingPeriod : Nat → Nat × List Nat := fun i => (0, [])
theorem R.spec_AddingPeriod {a0 a1 a2 : Value} {H : Hp} {K : Value → Hp → Prop} (h : F.spec_AddingPeriod a0 a1 a2 H K) : HT prg I.spec_AddingPeriod [a0, a1, a2].toArray H K :=
  HT_of_fev O.spec_AddingPeriod mixed Try.func52 (by kernel_rfl) (Eq.mpr (by kernel_rfl : fev prg O.spec_AddingPeriod Try.f52 [a0, a1, a2] H K = F.spec_AddingPeriod a0 a1 a2 H K) h)

/-! loop.example/g01381/laws.b10Ints: function 53 -/
def F.laws_b10Ints (a0 a1 : Value) (H : Hp) (K : Value → Hp → Prop) : Prop :=
  ob (vLenSl a0) fun v7x1 =>
  ob (vLenSl a1) fun v9x2 =>
  ob (vInt .neq v7x1 v9x2) fun v10x3 =>
  cnd v10x3
    (K (.bool false) H)
    (jn (fun σ4 H4 =>
    K (.bool true) H4) fun J4 =>
  ob (vLenSl a0) fun v12x5 =>
  lpE (fun Q6 σ6 H6 =>
    ob (vInt .lss (σ6 13) (σ6 12)) fun v14x7 =>
    cnd v14x7
      (ob (vIx 1 (σ6 0) (σ6 13)) fun v18x8 =>
    ob (vLoad v18x8 H6) fun v19x9 =>
    ob (vIx 1 (σ6 1) (σ6 13)) fun v22x10 =>
    ob (vLoad v22x10 H6) fun v23x11 =>
    ob (vInt .neq v19x9 v23x11) fun v24x12 =>
    cnd v24x12
      (Q6 .ret (up (up (up (up (up (up (up (up (up (up (up (up (up σ6 14 v14x7) 15 (σ6 13)) 5 (σ6 13)) 16 (σ6 0)) 17 (σ6 13)) 18 v18x8) 19 v19x9) 20 (σ6 1)) 21 (σ6 13)) 22 v22x10) 23 v23x11) 24 v24x12) 4 (.bool false)) H6)
      (ob (vInt .add (σ6 13) (.int .i64 1)) fun v25x13 =>
    Q6 .normal (up (up (up (up (up (up (up (up (up (up (up (up (up (up σ6 14 v14x7) 15 (σ6 13)) 5 (σ6 13)) 16 (σ6 0)) 17 (σ6 13)) 18 v18x8) 19 v19x9) 20 (σ6 1)) 21 (σ6 13)) 22 v22x10) 23 v23x11) 24 v24x12) 25 v25x13) 13 v25x13) H6))
      (Q6 (.exit 0) (up σ6 14 v14x7) H6)) (blkQ 0 (thenQ J4 (retQ prg [(.tmp 4)] K))) (up (up (up (up (up (up (up (up (up (S0 [a0, a1]) 4 (.bool false)) 6 a0) 7 v7x1) 8 a1) 9 v9x2) 10 v10x3) 11 a0) 12 v12x5) 13 (.int .i64 0)) H)
def O.laws_b10Ints : Nat → Nat × List Nat := fun i => bif Nat.beq i 6 then (0, [0, 1, 2, 3, 4, 5, 6, 7, 8]) else (0, [])
theorem R.laws_b10Ints {a0 a1 : Value} {H : Hp} {K : Value → Hp → Prop} (h : F.laws_b10Ints a0 a1 H K) : HT prg I.laws_b10Ints [a0, a1].toArray H K :=
  HT_of_fev O.laws_b10Ints mixed Try.func53 (by kernel_rfl) (Eq.mpr (by kernel_rfl : fev prg O.laws_b10Ints Try.f53 [a0, a1] H K = F.laws_b10Ints a0 a1 H K) h)

end Go.Proofs.Ytelcmohhjkgjoaa
