/- Functions' texts over a partial heap. -/
import Derived.Test.YtcjamajenfgddaaG0
namespace Go.Proofs.Ytcjamajenfgddaa
open HL
set_option linter.unusedVariables false
set_option maxRecDepth 100000
set_option maxHeartbeats 4000000
/-! loop.example/g01381/laws.szFloat32S: function 32 -/
def F.laws_szFloat32S (a0 a1 : Value) (H : Hp) (K : Value → Hp → Prop) : Prop :=
  ob (vLenSl a0) fun v7x1 =>
  ob (vInt .sub a1 v7x1) fun v8x2 =>
  ob (vInt .lss v8x2 (.int .i64 0)) fun v10x3 =>
  cnd v10x3
    (K (.int .i64 (-1)) H)
    (K v8x2 H)
def O.laws_szFloat32S : Nat → Nat × List Nat := fun i => (0, [])
theorem R.laws_szFloat32S {a0 a1 : Value} {H : Hp} {K : Value → Hp → Prop} (h : F.laws_szFloat32S a0 a1 H K) : HT prg I.laws_szFloat32S [a0, a1].toArray H K :=
  HT_of_fev O.laws_szFloat32S mixed Try.func32 (by kernel_rfl) (Eq.mpr (by kernel_rfl : fev prg O.laws_szFloat32S Try.f32 [a0, a1] H K = F.laws_szFloat32S a0 a1 H K) h)

/-! loop.example/g01381/laws.szBoolS: function 33 -/
def F.laws_szBoolS (a0 a1 : Value) (H : Hp) (K : Value → Hp → Prop) : Prop :=
  ob (vLenSl a0) fun v7x1 =>
  ob (vInt .sub a1 v7x1) fun v8x2 =>
  ob (vInt .lss v8x2 (.int .i64 0)) fun v10x3 =>
  cnd v10x3
    (K (.int .i64 (-1)) H)
    (K v8x2 H)
def O.laws_szBoolS : Nat → Nat × List Nat := fun i => (0, [])
theorem R.laws_szBoolS {a0 a1 : Value} {H : Hp} {K : Value → Hp → Prop} (h : F.laws_szBoolS a0 a1 H K) : HT prg I.laws_szBoolS [a0, a1].toArray H K :=
  HT_of_fev O.laws_szBoolS mixed Try.func33 (by kernel_rfl) (Eq.mpr (by kernel_rfl : fev prg O.laws_szBoolS Try.f33 [a0, a1] H K = F.laws_szBoolS a0 a1 H K) h)

/-! loop.example/g01381/laws.szFlow: function 9 -/
def F.laws_szFlow (a0 a1 : Value) (H : Hp) (K : Value → Hp → Prop) : Prop :=
  nw (a0 : Value).cells 25 H fun v2x1 H2 =>
  ob (vFa 2 v2x1) fun v5x3 =>
  ob (vLoad v5x3 H2) fun v6x4 =>
  HT prg I.laws_szFloat32S [v6x4, a1].toArray H2 fun v8x5 H6 =>
  ob (vInt .lss v8x5 (.int .i64 0)) fun v10x7 =>
  cnd v10x7
    (K (.int .i64 (-1)) H6)
    (ob (vFa 3 v2x1) fun v11x8 =>
  ob (vLoad v11x8 H6) fun v12x9 =>
  HT prg I.laws_szBoolS [v12x9, v8x5].toArray H6 fun v14x10 H11 =>
  ob (vInt .lss v14x10 (.int .i64 0)) fun v16x12 =>
  cnd v16x12
    (K (.int .i64 (-1)) H11)
    (K v14x10 H11))
def O.laws_szFlow : Nat → Nat × List Nat := fun i => (0, [])
theorem R.laws_szFlow {a0 a1 : Value} {H : Hp} {K : Value → Hp → Prop} (h : F.laws_szFlow a0 a1 H K) : HT prg I.laws_szFlow [a0, a1].toArray H K :=
  HT_of_fev O.laws_szFlow mixed Try.func9 (by kernel_rfl) (Eq.mpr (by kernel_rfl : fev prg O.laws_szFlow Try.f9 [a0, a1] H K = F.laws_szFlow a0 a1 H K) h)

/-! loop.example/g01381/laws.toFloat32S: function 35 -/
def F.laws_toFloat32S (a0 : Value) (H : Hp) (K : Value → Hp → Prop) : Prop :=
  ob (vLenSl a0) fun v6x1 =>
  mkS 1 4 #[(.float .f32 0)] 33 v6x1 v6x1 H fun v7x2 H3 =>
  jn (fun σ4 H4 =>
    K (σ4 3) H4) fun J4 =>
  lpE (fun Q5 σ5 H5 =>
    ob (vLenSl (σ5 0)) fun v10x6 =>
    ob (vInt .lss (σ5 4) v10x6) fun v11x7 =>
    cnd v11x7
      (ob (vIx 1 (σ5 0) (σ5 4)) fun v18x8 =>
    ob (vLoad v18x8 H5) fun v19x9 =>
    ob (vIx 1 (σ5 3) (σ5 4)) fun v20x10 =>
    st 1 v20x10 v19x9 H5 fun H11 =>
    ob (vInt .add (σ5 4) (.int .i64 1)) fun v13x12 =>
    Q5 .normal (up (up (up (up (up (up (up (up (up (up (up (up (up (up σ5 8 (σ5 4)) 9 (σ5 0)) 10 v10x6) 11 v11x7) 14 (σ5 3)) 15 (σ5 4)) 16 (σ5 0)) 17 (σ5 4)) 18 v18x8) 19 v19x9) 20 v20x10) 12 (σ5 4)) 13 v13x12) 4 v13x12) H11)
      (Q5 (.exit 0) (up (up (up (up σ5 8 (σ5 4)) 9 (σ5 0)) 10 v10x6) 11 v11x7) H5)) (blkQ 0 (thenQ J4 (retQ prg [(.tmp 2)] K))) (up (up (up (up (up (up (S0 [a0]) 2 (.slice none 0 0)) 5 a0) 6 v6x1) 7 v7x2) 3 v7x2) 4 (.int .i64 0)) H3
def O.laws_toFloat32S : Nat → Nat × List Nat := fun i => (0, [])
theorem R.laws_toFloat32S {a0 : Value} {H : Hp} {K : Value → Hp → Prop} (h : F.laws_toFloat32S a0 H K) : HT prg I.laws_toFloat32S [a0].toArray H K :=
  HT_of_fev O.laws_toFloat32S mixed Try.func35 (by kernel_rfl) (Eq.mpr (by kernel_rfl : fev prg O.laws_toFloat32S Try.f35 [a0] H K = F.laws_toFloat32S a0 H K) h)

/-! loop.example/g01381/laws.toBoolS: function 36 -/
def F.laws_toBoolS (a0 : Value) (H : Hp) (K : Value → Hp → Prop) : Prop :=
  ob (vLenSl a0) fun v6x1 =>
  mkS 1 1 #[(.bool false)] 4 v6x1 v6x1 H fun v7x2 H3 =>
  jn (fun σ4 H4 =>
    K (σ4 3) H4) fun J4 =>
  lpE (fun Q5 σ5 H5 =>
    ob (vLenSl (σ5 0)) fun v10x6 =>
    ob (vInt .lss (σ5 4) v10x6) fun v11x7 =>
    cnd v11x7
      (ob (vIx 1 (σ5 0) (σ5 4)) fun v18x8 =>
    ob (vLoad v18x8 H5) fun v19x9 =>
    ob (vIx 1 (σ5 3) (σ5 4)) fun v20x10 =>
    st 1 v20x10 v19x9 H5 fun H11 =>
    ob (vInt .add (σ5 4) (.int .i64 1)) fun v13x12 =>
    Q5 .normal (up (up (up (up (up (up (up (up (up (up (up (up (up (up σ5 8 (σ5 4)) 9 (σ5 0)) 10 v10x6) 11 v11x7) 14 (σ5 3)) 15 (σ5 4)) 16 (σ5 0)) 17 (σ5 4)) 18 v18x8) 19 v19x9) 20 v20x10) 12 (σ5 4)) 13 v13x12) 4 v13x12) H11)
      (Q5 (.exit 0) (up (up (up (up σ5 8 (σ5 4)) 9 (σ5 0)) 10 v10x6) 11 v11x7) H5)) (blkQ 0 (thenQ J4 (retQ prg [(.tmp 2)] K))) (up (up (up (up (up (up (S0 [a0]) 2 (.slice none 0 0)) 5 a0) 6 v6x1) 7 v7x2) 3 v7x2) 4 (.int .i64 0)) H3
def O.laws_toBoolS : Nat → Nat × List Nat := fun i => (0, [])
theorem R.laws_toBoolS {a0 : Value} {H : Hp} {K : Value → Hp → Prop} (h : F.laws_toBoolS a0 H K) : HT prg I.laws_toBoolS [a0].toArray H K :=
  HT_of_fev O.laws_toBoolS mixed Try.func36 (by kernel_rfl) (Eq.mpr (by kernel_rfl : fev prg O.laws_toBoolS Try.f36 [a0] H K = F.laws_toBoolS a0 H K) h)

/-! loop.example/g01381/laws.toFlow: function 11 -/
def F.laws_toFlow (a0 : Value) (H : Hp) (K : Value → Hp → Prop) : Prop :=
  nw (a0 : Value).cells 25 H fun v1x1 H2 =>
  nw #[(.int .i64 0), (.int .i64 0), (.slice none 0 0), (.slice none 0 0)] 28 H2 fun v2x3 H4 =>
  nw #[(.int .i64 0), (.int .i64 0), (.slice none 0 0), (.slice none 0 0)] 28 H4 fun v3x5 H6 =>
  ob (vFa 0 v1x1) fun v4x7 =>
  ob (vLoad v4x7 H6) fun v5x8 =>
  ob (vFa 0 v3x5) fun v6x9 =>
  st 1 v6x9 v5x8 H6 fun H10 =>
  ob (vFa 1 v1x1) fun v7x11 =>
  ob (vLoad v7x11 H10) fun v8x12 =>
  ob (vFa 1 v3x5) fun v9x13 =>
  st 1 v9x13 v8x12 H10 fun H14 =>
  ob (vFa 2 v1x1) fun v10x15 =>
  ob (vLoad v10x15 H14) fun v11x16 =>
  HT prg I.laws_toFloat32S [v11x16].toArray H14 fun v12x17 H18 =>
  ob (vFa 2 v3x5) fun v13x19 =>
  st 1 v13x19 v12x17 H18 fun H20 =>
  ob (vFa 3 v1x1) fun v14x21 =>
  ob (vLoad v14x21 H20) fun v15x22 =>
  HT prg I.laws_toBoolS [v15x22].toArray H20 fun v16x23 H24 =>
  ob (vFa 3 v3x5) fun v17x25 =>
  st 1 v17x25 v16x23 H24 fun H26 =>
  ob (vLoadN 4 v3x5 H26) fun v18x27 =>
  st 4 v2x3 v18x27 H26 fun H28 =>
  ob (vLoadN 4 v2x3 H28) fun u29 => K u29 H28
def O.laws_toFlow : Nat → Nat × List Nat := fun i => (0, [])
theorem R.laws_toFlow {a0 : Value} {H : Hp} {K : Value → Hp → Prop} (h : F.laws_toFlow a0 H K) : HT prg I.laws_toFlow [a0].toArray H K :=
  HT_of_fev O.laws_toFlow mixed Try.func11 (by kernel_rfl) (Eq.mpr (by kernel_rfl : fev prg O.laws_toFlow Try.f11 [a0] H K = F.laws_toFlow a0 H K) h)

/-! loop.example/g01381/laws.sameFloat: function 18 -/
def F.laws_sameFloat (a0 a1 : Value) (H : Hp) (K : Value → Hp → Prop) : Prop :=
  ob (vFcmp .neq a0 a0) fun v7x1 =>
  gop v7x1 false (fun K2 => K2 a1 H) H fun v9x3 H4 =>
  gop v7x1 false (fun K5 => K5 a1 H4) H4 fun v10x6 H7 =>
  gop v7x1 false (fun K8 => ob (vFcmp .neq v9x3 v10x6) fun u => K8 u H7) H7 fun v11x9 H10 =>
  ob (vPick v7x1 (.bool true) v11x9) fun v12x11 =>
  cnd v12x11
    (ob (vFcmp .neq a0 a0) fun v15x12 =>
    gop v15x12 true (fun K13 => K13 a1 H10) H10 fun v17x14 H15 =>
    gop v15x12 true (fun K16 => K16 a1 H15) H15 fun v18x17 H18 =>
    gop v15x12 true (fun K19 => ob (vFcmp .neq v17x14 v18x17) fun u => K19 u H18) H18 fun v19x20 H21 =>
    ob (vPick v15x12 v19x20 (.bool false)) fun v20x22 =>
    K v20x22 H21)
    (ob (vFcmp .eql a0 (.float .f64 0)) fun v22x23 =>
  gop v22x23 true (fun K24 => K24 a1 H10) H10 fun v24x25 H26 =>
  gop v22x23 true (fun K27 => ob (vFcmp .eql v24x25 (.float .f64 0)) fun u => K27 u H26) H26 fun v25x28 H29 =>
  ob (vPick v22x23 v25x28 (.bool false)) fun v26x30 =>
  cnd v26x30
    (fA .quo (.float .f64 4607182418800017408) a0 H29 fun v28x31 H32 =>
    ob (vFcmp .gtr v28x31 (.float .f64 0)) fun v29x33 =>
    fA .quo (.float .f64 4607182418800017408) a1 H32 fun v31x34 H35 =>
    ob (vFcmp .gtr v31x34 (.float .f64 0)) fun v32x36 =>
    ob (vBool .eql v29x33 v32x36) fun v33x37 =>
    K v33x37 H35)
    (ob (vFcmp .eql a0 a1) fun v36x38 =>
  K v36x38 H29))
def O.laws_sameFloat : Nat → Nat × List Nat := fun i => (0, [])
theorem R.laws_sameFloat {a0 a1 : Value} {H : Hp} {K : Value → Hp → Prop} (h : F.laws_sameFloat a0 a1 H K) : HT prg I.laws_sameFloat [a0, a1].toArray H K :=
  HT_of_fev O.laws_sameFloat mixed Try.func18 (by kernel_rfl) (Eq.mpr (by kernel_rfl : fev prg O.laws_sameFloat Try.f18 [a0, a1] H K = F.laws_sameFloat a0 a1 H K) h)

/-! loop.example/g01381/laws.eqFloat32S: function 39 -/
def F.laws_eqFloat32S (a0 a1 : Value) (H : Hp) (K : Value → Hp → Prop) : Prop :=
  ob (vLenSl a0) fun v7x1 =>
  ob (vLenSl a1) fun v9x2 =>
  ob (vInt .neq v7x1 v9x2) fun v10x3 =>
  cnd v10x3
    (K (.bool false) H)
    (jn (fun σ4 H4 =>
    K (.bool true) H4) fun J4 =>
  lpE (fun Q5 σ5 H5 =>
    ob (vLenSl (σ5 0)) fun v13x6 =>
    ob (vInt .lss (σ5 5) v13x6) fun v14x7 =>
    cnd v14x7
      (ob (vIx 1 (σ5 0) (σ5 5)) fun v19x8 =>
    ob (vLoad v19x8 H5) fun v20x9 =>
    ob (vIx 1 (σ5 1) (σ5 5)) fun v24x10 =>
    ob (vLoad v24x10 H5) fun v25x11 =>
    fC .f64 v20x9 H5 fun v21x12 H13 =>
    fC .f64 v25x11 H13 fun v26x14 H15 =>
    HT prg I.laws_sameFloat [v21x12, v26x14].toArray H15 fun v27x16 H17 =>
    Le H15 H17 ∧ (ob (vUn .not v27x16) fun v28x18 =>
    cnd v28x18
      (Q5 .ret (up (up (up (up (up (up (up (up (up (up (up (up (up (up (up (up (up σ5 11 (σ5 5)) 12 (σ5 0)) 13 v13x6) 14 v14x7) 17 (σ5 0)) 18 (σ5 5)) 19 v19x8) 20 v20x9) 22 (σ5 1)) 23 (σ5 5)) 24 v24x10) 25 v25x11) 21 v21x12) 26 v26x14) 27 v27x16) 28 v28x18) 4 (.bool false)) H17)
      (ob (vInt .add (σ5 5) (.int .i64 1)) fun v16x19 =>
    Q5 .normal (up (up (up (up (up (up (up (up (up (up (up (up (up (up (up (up (up (up (up σ5 11 (σ5 5)) 12 (σ5 0)) 13 v13x6) 14 v14x7) 17 (σ5 0)) 18 (σ5 5)) 19 v19x8) 20 v20x9) 22 (σ5 1)) 23 (σ5 5)) 24 v24x10) 25 v25x11) 21 v21x12) 26 v26x14) 27 v27x16) 28 v28x18) 15 (σ5 5)) 16 v16x19) 5 v16x19) H17)))
      (Q5 (.exit 0) (up (up (up (up σ5 11 (σ5 5)) 12 (σ5 0)) 13 v13x6) 14 v14x7) H5)) (blkQ 0 (thenQ J4 (retQ prg [(.tmp 4)] K))) (up (up (up (up (up (up (up (S0 [a0, a1]) 4 (.bool false)) 6 a0) 7 v7x1) 8 a1) 9 v9x2) 10 v10x3) 5 (.int .i64 0)) H)
def O.laws_eqFloat32S : Nat → Nat × List Nat := fun i => bif Nat.beq i 6 then (0, [0, 1, 2, 3, 5, 6, 7, 8, 4, 9, 10, 11]) else (0, [])
theorem R.laws_eqFloat32S {a0 a1 : Value} {H : Hp} {K : Value → Hp → Prop} (h : F.laws_eqFloat32S a0 a1 H K) : HT prg I.laws_eqFloat32S [a0, a1].toArray H K :=
  HT_of_fev O.laws_eqFloat32S mixed Try.func39 (by kernel_rfl) (Eq.mpr (by kernel_rfl : fev prg O.laws_eqFloat32S Try.f39 [a0, a1] H K = F.laws_eqFloat32S a0 a1 H K) h)

/-! loop.example/g01381/laws.eqBoolS: function 40 -/
def F.laws_eqBoolS (a0 a1 : Value) (H : Hp) (K : Value → Hp → Prop) : Prop :=
  ob (vLenSl a0) fun v7x1 =>
  ob (vLenSl a1) fun v9x2 =>
  ob (vInt .neq v7x1 v9x2) fun v10x3 =>
  cnd v10x3
    (K (.bool false) H)
    (jn (fun σ4 H4 =>
    K (.bool true) H4) fun J4 =>
  lpE (fun Q5 σ5 H5 =>
    ob (vLenSl (σ5 0)) fun v13x6 =>
    ob (vInt .lss (σ5 5) v13x6) fun v14x7 =>
    cnd v14x7
      (ob (vIx 1 (σ5 0) (σ5 5)) fun v19x8 =>
    ob (vLoad v19x8 H5) fun v20x9 =>
    ob (vIx 1 (σ5 1) (σ5 5)) fun v23x10 =>
    ob (vLoad v23x10 H5) fun v24x11 =>
    ob (vBool .neq v20x9 v24x11) fun v25x12 =>
    cnd v25x12
      (Q5 .ret (up (up (up (up (up (up (up (up (up (up (up (up (up (up σ5 11 (σ5 5)) 12 (σ5 0)) 13 v13x6) 14 v14x7) 17 (σ5 0)) 18 (σ5 5)) 19 v19x8) 20 v20x9) 21 (σ5 1)) 22 (σ5 5)) 23 v23x10) 24 v24x11) 25 v25x12) 4 (.bool false)) H5)
      (ob (vInt .add (σ5 5) (.int .i64 1)) fun v16x13 =>
    Q5 .normal (up (up (up (up (up (up (up (up (up (up (up (up (up (up (up (up σ5 11 (σ5 5)) 12 (σ5 0)) 13 v13x6) 14 v14x7) 17 (σ5 0)) 18 (σ5 5)) 19 v19x8) 20 v20x9) 21 (σ5 1)) 22 (σ5 5)) 23 v23x10) 24 v24x11) 25 v25x12) 15 (σ5 5)) 16 v16x13) 5 v16x13) H5))
      (Q5 (.exit 0) (up (up (up (up σ5 11 (σ5 5)) 12 (σ5 0)) 13 v13x6) 14 v14x7) H5)) (blkQ 0 (thenQ J4 (retQ prg [(.tmp 4)] K))) (up (up (up (up (up (up (up (S0 [a0, a1]) 4 (.bool false)) 6 a0) 7 v7x1) 8 a1) 9 v9x2) 10 v10x3) 5 (.int .i64 0)) H)
def O.laws_eqBoolS : Nat → Nat × List Nat := fun i => bif Nat.beq i 6 then (0, [0, 1, 2, 3, 4, 5, 6, 7, 8]) else (0, [])
theorem R.laws_eqBoolS {a0 a1 : Value} {H : Hp} {K : Value → Hp → Prop} (h : F.laws_eqBoolS a0 a1 H K) : HT prg I.laws_eqBoolS [a0, a1].toArray H K :=
  HT_of_fev O.laws_eqBoolS mixed Try.func40 (by kernel_rfl) (Eq.mpr (by kernel_rfl : fev prg O.laws_eqBoolS Try.f40 [a0, a1] H K = F.laws_eqBoolS a0 a1 H K) h)

/-! loop.example/g01381/laws.eqFlow: function 13 -/
def F.laws_eqFlow (a0 a1 : Value) (H : Hp) (K : Value → Hp → Prop) : Prop :=
  nw (a0 : Value).cells 28 H fun v2x1 H2 =>
  nw (a1 : Value).cells 28 H2 fun v3x3 H4 =>
  ob (vFa 0 v2x1) fun v5x5 =>
  ob (vLoad v5x5 H4) fun v6x6 =>
  ob (vFa 0 v3x3) fun v7x7 =>
  ob (vLoad v7x7 H4) fun v8x8 =>
  ob (vInt .neq v6x6 v8x8) fun v9x9 =>
  cnd v9x9
    (K (.bool false) H4)
    (ob (vFa 1 v2x1) fun v10x10 =>
  ob (vLoad v10x10 H4) fun v11x11 =>
  ob (vFa 1 v3x3) fun v12x12 =>
  ob (vLoad v12x12 H4) fun v13x13 =>
  ob (vInt .neq v11x11 v13x13) fun v14x14 =>
  cnd v14x14
    (K (.bool false) H4)
    (ob (vFa 2 v2x1) fun v15x15 =>
  ob (vLoad v15x15 H4) fun v16x16 =>
  ob (vFa 2 v3x3) fun v17x17 =>
  ob (vLoad v17x17 H4) fun v18x18 =>
  HT prg I.laws_eqFloat32S [v16x16, v18x18].toArray H4 fun v19x19 H20 =>
  ob (vUn .not v19x19) fun v20x21 =>
  cnd v20x21
    (K (.bool false) H20)
    (ob (vFa 3 v2x1) fun v21x22 =>
  ob (vLoad v21x22 H20) fun v22x23 =>
  ob (vFa 3 v3x3) fun v23x24 =>
  ob (vLoad v23x24 H20) fun v24x25 =>
  HT prg I.laws_eqBoolS [v22x23, v24x25].toArray H20 fun v25x26 H27 =>
  ob (vUn .not v25x26) fun v26x28 =>
  cnd v26x28
    (K (.bool false) H27)
    (K (.bool true) H27))))
def O.laws_eqFlow : Nat → Nat × List Nat := fun i => (0, [])
theorem R.laws_eqFlow {a0 a1 : Value} {H : Hp} {K : Value → Hp → Prop} (h : F.laws_eqFlow a0 a1 H K) : HT prg I.laws_eqFlow [a0, a1].toArray H K :=
  HT_of_fev O.laws_eqFlow mixed Try.func13 (by kernel_rfl) (Eq.mpr (by kernel_rfl : fev prg O.laws_eqFlow Try.f13 [a0, a1] H K = F.laws_eqFlow a0 a1 H K) h)

/-! loop.example/g01381/spec.l00In: function 51 -/
def F.spec_l00In (a0 a1 a2 : Value) (H : Hp) (K : Value → Hp → Prop) : Prop :=
  ob (vInt .geq a0 a1) fun v9x1 =>
  gop v9x1 true (fun K2 => K2 a0 H) H fun v11x3 H4 =>
  gop v9x1 true (fun K5 => K5 a2 H4) H4 fun v12x6 H7 =>
  gop v9x1 true (fun K8 => ob (vInt .leq v11x3 v12x6) fun u => K8 u H7) H7 fun v13x9 H10 =>
  ob (vPick v9x1 v13x9 (.bool false)) fun v14x11 =>
  K v14x11 H10
def O.spec_l00In : Nat → Nat × List Nat := fun i => (0, [])
theorem R.spec_l00In {a0 a1 a2 : Value} {H : Hp} {K : Value → Hp → Prop} (h : F.spec_l00In a0 a1 a2 H K) : HT prg I.spec_l00In [a0, a1, a2].toArray H K :=
  HT_of_fev O.spec_l00In mixed Try.func51 (by kernel_rfl) (Eq.mpr (by kernel_rfl : fev prg O.spec_l00In Try.f51 [a0, a1, a2] H K = F.spec_l00In a0 a1 a2 H K) h)

/-! loop.example/g01381/spec.l06Sides: function 58 -/
def F.spec_l06Sides (a0 a1 : Value) (H : Hp) (K : Value → Hp → Prop) : Prop :=
  HT prg I.spec_l00In [a0, (.int .i64 1), (.int .i64 16)].toArray H fun v6x1 H2 =>
  gop v6x1 true (fun K3 => K3 a1 H2) H2 fun v8x4 H5 =>
  gop v6x1 true (fun K6 => HT prg I.spec_l00In [v8x4, (.int .i64 1), (.int .i64 16)].toArray H5 K6) H5 fun v9x7 H8 =>
  ob (vPick v6x1 v9x7 (.bool false)) fun v10x9 =>
  K v10x9 H8
def O.spec_l06Sides : Nat → Nat × List Nat := fun i => (0, [])
theorem R.spec_l06Sides {a0 a1 : Value} {H : Hp} {K : Value → Hp → Prop} (h : F.spec_l06Sides a0 a1 H K) : HT prg I.spec_l06Sides [a0, a1].toArray H K :=
  HT_of_fev O.spec_l06Sides mixed Try.func58 (by kernel_rfl) (Eq.mpr (by kernel_rfl : fev prg O.spec_l06Sides Try.f58 [a0, a1] H K = F.spec_l06Sides a0 a1 H K) h)

/-! loop.example/g01381/spec.l01Finite: function 55 -/
def F.spec_l01Finite (a0 : Value) (H : Hp) (K : Value → Hp → Prop) : Prop :=
  fA .sub a0 a0 H fun v5x1 H2 =>
  ob (vFcmp .eql v5x1 (.float .f32 0)) fun v6x3 =>
  K v6x3 H2
def O.spec_l01Finite : Nat → Nat × List Nat := fun i => (0, [])
theorem R.spec_l01Finite {a0 : Value} {H : Hp} {K : Value → Hp → Prop} (h : F.spec_l01Finite a0 H K) : HT prg I.spec_l01Finite [a0].toArray H K :=
  HT_of_fev O.spec_l01Finite mixed Try.func55 (by kernel_rfl) (Eq.mpr (by kernel_rfl : fev prg O.spec_l01Finite Try.f55 [a0] H K = F.spec_l01Finite a0 H K) h)

/-! loop.example/g01381/spec.l02Finite: function 72 -/
def F.spec_l02Finite (a0 : Value) (H : Hp) (K : Value → Hp → Prop) : Prop :=
  jn (fun σ1 H1 =>
    K (.bool true) H1) fun J1 =>
  lpE (fun Q2 σ2 H2 =>
    ob (vLenSl (σ2 0)) fun v6x3 =>
    ob (vInt .lss (σ2 3) v6x3) fun v7x4 =>
    cnd v7x4
      (ob (vIx 1 (σ2 0) (σ2 3)) fun v12x5 =>
    ob (vLoad v12x5 H2) fun v13x6 =>
    HT prg I.spec_l01Finite [v13x6].toArray H2 fun v14x7 H8 =>
    ob (vUn .not v14x7) fun v15x9 =>
    cnd v15x9
      (Q2 .ret (up (up (up (up (up (up (up (up (up (up (up σ2 4 (σ2 3)) 5 (σ2 0)) 6 v6x3) 7 v7x4) 10 (σ2 0)) 11 (σ2 3)) 12 v12x5) 13 v13x6) 14 v14x7) 15 v15x9) 2 (.bool false)) H8)
      (ob (vInt .add (σ2 3) (.int .i64 1)) fun v9x10 =>
    Q2 .normal (up (up (up (up (up (up (up (up (up (up (up (up (up σ2 4 (σ2 3)) 5 (σ2 0)) 6 v6x3) 7 v7x4) 10 (σ2 0)) 11 (σ2 3)) 12 v12x5) 13 v13x6) 14 v14x7) 15 v15x9) 8 (σ2 3)) 9 v9x10) 3 v9x10) H8))
      (Q2 (.exit 0) (up (up (up (up σ2 4 (σ2 3)) 5 (σ2 0)) 6 v6x3) 7 v7x4) H2)) (blkQ 0 (thenQ J1 (retQ prg [(.tmp 2)] K))) (up (up (S0 [a0]) 2 (.bool false)) 3 (.int .i64 0)) H
def O.spec_l02Finite : Nat → Nat × List Nat := fun i => (0, [])
theorem R.spec_l02Finite {a0 : Value} {H : Hp} {K : Value → Hp → Prop} (h : F.spec_l02Finite a0 H K) : HT prg I.spec_l02Finite [a0].toArray H K :=
  HT_of_fev O.spec_l02Finite mixed Try.func72 (by kernel_rfl) (Eq.mpr (by kernel_rfl : fev prg O.spec_l02Finite Try.f72 [a0] H K = F.spec_l02Finite a0 H K) h)

/-! loop.example/g01381/spec.l06Flow: function 34 -/
def F.spec_l06Flow (a0 : Value) (H : Hp) (K : Value → Hp → Prop) : Prop :=
  ob (vNilC a0) fun v4x1 =>
  ob (vFa 0 v4x1) fun v5x2 =>
  ob (vLoad v5x2 H) fun v6x3 =>
  ob (vNilC a0) fun v8x4 =>
  ob (vFa 1 v8x4) fun v9x5 =>
  ob (vLoad v9x5 H) fun v10x6 =>
  HT prg I.spec_l06Sides [v6x3, v10x6].toArray H fun v11x7 H8 =>
  Le H H8 ∧ (gop v11x7 true (fun K9 => K9 a0 H8) H8 fun v13x10 H11 =>
  gop v11x7 true (fun K12 => ob (vNilC v13x10) fun u => K12 u H11) H11 fun v14x13 H14 =>
  gop v11x7 true (fun K15 => ob (vFa 2 v14x13) fun u => K15 u H14) H14 fun v15x16 H17 =>
  gop v11x7 true (fun K18 => ob (vLoad v15x16 H17) fun u => K18 u H17) H17 fun v16x19 H20 =>
  gop v11x7 true (fun K21 => ob (vLenSl v16x19) fun u => K21 u H20) H20 fun v17x22 H23 =>
  gop v11x7 true (fun K24 => K24 a0 H23) H23 fun v18x25 H26 =>
  gop v11x7 true (fun K27 => ob (vNilC v18x25) fun u => K27 u H26) H26 fun v19x28 H29 =>
  gop v11x7 true (fun K30 => ob (vFa 0 v19x28) fun u => K30 u H29) H29 fun v20x31 H32 =>
  gop v11x7 true (fun K33 => ob (vLoad v20x31 H32) fun u => K33 u H32) H32 fun v21x34 H35 =>
  gop v11x7 true (fun K36 => ob (vInt .mul (.int .i64 9) v21x34) fun u => K36 u H35) H35 fun v22x37 H38 =>
  gop v11x7 true (fun K39 => K39 a0 H38) H38 fun v23x40 H41 =>
  gop v11x7 true (fun K42 => ob (vNilC v23x40) fun u => K42 u H41) H41 fun v24x43 H44 =>
  gop v11x7 true (fun K45 => ob (vFa 1 v24x43) fun u => K45 u H44) H44 fun v25x46 H47 =>
  gop v11x7 true (fun K48 => ob (vLoad v25x46 H47) fun u => K48 u H47) H47 fun v26x49 H50 =>
  gop v11x7 true (fun K51 => ob (vInt .mul v22x37 v26x49) fun u => K51 u H50) H50 fun v27x52 H53 =>
  gop v11x7 true (fun K54 => ob (vInt .eql v17x22 v27x52) fun u => K54 u H53) H53 fun v28x55 H56 =>
  ob (vPick v11x7 v28x55 (.bool false)) fun v29x57 =>
  gop v29x57 true (fun K58 => K58 a0 H56) H56 fun v31x59 H60 =>
  gop v29x57 true (fun K61 => ob (vNilC v31x59) fun u => K61 u H60) H60 fun v32x62 H63 =>
  gop v29x57 true (fun K64 => ob (vFa 2 v32x62) fun u => K64 u H63) H63 fun v33x65 H66 =>
  gop v29x57 true (fun K67 => ob (vLoad v33x65 H66) fun u => K67 u H66) H66 fun v34x68 H69 =>
  gop v29x57 true (fun K70 => HT prg I.spec_l02Finite [v34x68].toArray H69 fun v35x71 H72 =>
  Le H69 H72 ∧ K70 v35x71 H72) H69 fun v35x73 H74 =>
  ob (vPick v29x57 v35x73 (.bool false)) fun v36x75 =>
  gop v36x75 true (fun K76 => K76 a0 H74) H74 fun v38x77 H78 =>
  gop v36x75 true (fun K79 => ob (vNilC v38x77) fun u => K79 u H78) H78 fun v39x80 H81 =>
  gop v36x75 true (fun K82 => ob (vFa 3 v39x80) fun u => K82 u H81) H81 fun v40x83 H84 =>
  gop v36x75 true (fun K85 => ob (vLoad v40x83 H84) fun u => K85 u H84) H84 fun v41x86 H87 =>
  gop v36x75 true (fun K88 => ob (vLenSl v41x86) fun u => K88 u H87) H87 fun v42x89 H90 =>
  gop v36x75 true (fun K91 => K91 a0 H90) H90 fun v43x92 H93 =>
  gop v36x75 true (fun K94 => ob (vNilC v43x92) fun u => K94 u H93) H93 fun v44x95 H96 =>
  gop v36x75 true (fun K97 => ob (vFa 0 v44x95) fun u => K97 u H96) H96 fun v45x98 H99 =>
  gop v36x75 true (fun K100 => ob (vLoad v45x98 H99) fun u => K100 u H99) H99 fun v46x101 H102 =>
  gop v36x75 true (fun K103 => K103 a0 H102) H102 fun v47x104 H105 =>
  gop v36x75 true (fun K106 => ob (vNilC v47x104) fun u => K106 u H105) H105 fun v48x107 H108 =>
  gop v36x75 true (fun K109 => ob (vFa 1 v48x107) fun u => K109 u H108) H108 fun v49x110 H111 =>
  gop v36x75 true (fun K112 => ob (vLoad v49x110 H111) fun u => K112 u H111) H111 fun v50x113 H114 =>
  gop v36x75 true (fun K115 => ob (vInt .mul v46x101 v50x113) fun u => K115 u H114) H114 fun v51x116 H117 =>
  gop v36x75 true (fun K118 => ob (vInt .eql v42x89 v51x116) fun u => K118 u H117) H117 fun v52x119 H120 =>
  ob (vPick v36x75 v52x119 (.bool false)) fun v53x121 =>
  K v53x121 H120)
def O.spec_l06Flow : Nat → Nat × List Nat := fun i => bif Nat.beq i 1 then (0, [0, 1, 2, 3, 4, 5, 6, 7, 8, 9, 10, 11, 12, 13, 14, 15, 16, 17, 18, 19, 20, 21, 22, 23, 24, 25, 26, 27, 28, 29, 30, 31, 32, 33, 34, 35, 36, 37, 38, 39, 40, 41, 42, 43, 44, 45, 46, 47, 48, 49, 50, 51]) else (0, [])
theorem R.spec_l06Flow {a0 : Value} {H : Hp} {K : Value → Hp → Prop} (h : F.spec_l06Flow a0 H K) : HT prg I.spec_l06Flow [a0].toArray H K :=
  HT_of_fev O.spec_l06Flow mixed Try.func34 (by kernel_rfl) (Eq.mpr (by kernel_rfl : fev prg O.spec_l06Flow Try.f34 [a0] H K = F.spec_l06Flow a0 H K) h)

/-! loop.example/g01381/spec.l02Number: function 46 -/
def F.spec_l02Number (a0 : Value) (H : Hp) (K : Value → Hp → Prop) : Prop :=
  HT prg I.spec_l01Finite [a0].toArray H fun v5x1 H2 =>
  ob (vUn .not v5x1) fun v6x3 =>
  cnd v6x3
    (K (.tuple #[(.float .f32 0), (.bool false)]) H2)
    (K (.tuple #[a0, (.bool true)]) H2)
def O.spec_l02Number : Nat → Nat × List Nat := fun i => (0, [])
theorem R.spec_l02Number {a0 : Value} {H : Hp} {K : Value → Hp → Prop} (h : F.spec_l02Number a0 H K) : HT prg I.spec_l02Number [a0].toArray H K :=
  HT_of_fev O.spec_l02Number mixed Try.func46 (by kernel_rfl) (Eq.mpr (by kernel_rfl : fev prg O.spec_l02Number Try.f46 [a0] H K = F.spec_l02Number a0 H K) h)

/-! loop.example/g01381/spec.l06Part: function 77 -/
def F.spec_l06Part (a0 : Value) (H : Hp) (K : Value → Hp → Prop) : Prop :=
  bS 1 9 #[(.int .i64 0)] 2 [(0, (.int .i64 0)), (1, (.int .i64 0)), (2, (.int .i64 1)), (3, (.int .i64 0)), (4, (.int .i64 (-1))), (5, (.int .i64 1)), (6, (.int .i64 1)), (7, (.int .i64 (-1))), (8, (.int .i64 (-1)))] H fun v4x1 H2 =>
  ob (vIx 1 v4x1 a0) fun v6x3 =>
  ob (vLoad v6x3 H2) fun v7x4 =>
  bS 1 9 #[(.int .i64 0)] 2 [(0, (.int .i64 0)), (1, (.int .i64 1)), (2, (.int .i64 0)), (3, (.int .i64 (-1))), (4, (.int .i64 0)), (5, (.int .i64 1)), (6, (.int .i64 (-1))), (7, (.int .i64 (-1))), (8, (.int .i64 1))] H2 fun v8x5 H6 =>
  ob (vIx 1 v8x5 a0) fun v10x7 =>
  ob (vLoad v10x7 H6) fun v11x8 =>
  K (.tuple #[v7x4, v11x8]) H6
def O.spec_l06Part : Nat → Nat × List Nat := fun i => bif Nat.beq i 1 then (0, [1, 5, 0, 2, 3, 8, 4, 6, 7, 9]) else (0, [])
theorem R.spec_l06Part {a0 : Value} {H : Hp} {K : Value → Hp → Prop} (h : F.spec_l06Part a0 H K) : HT prg I.spec_l06Part [a0].toArray H K :=
  HT_of_fev O.spec_l06Part mixed Try.func77 (by kernel_rfl) (Eq.mpr (by kernel_rfl : fev prg O.spec_l06Part Try.f77 [a0] H K = F.spec_l06Part a0 H K) h)

/-! loop.example/g01381/spec.l06Mass: function 52 -/
def F.spec_l06Mass (a0 : Value) (H : Hp) (K : Value → Hp → Prop) : Prop :=
  jn (fun σ1 H1 =>
    fA .quo (σ1 6) (σ1 5) H1 fun v47x2 H3 =>
    fA .quo (σ1 7) (σ1 5) H3 fun v50x4 H5 =>
    K (.tuple #[(σ1 5), v47x2, v50x4]) H5) fun J1 =>
  lpE (fun Q6 σ6 H6 =>
    ob (vInt .lss (σ6 8) (.int .i64 9)) fun v12x7 =>
    cnd v12x7
      (HT prg I.spec_l06Part [(σ6 8)].toArray H6 fun v17x8 H9 =>
    ob (vExt v17x8 0) fun v18x10 =>
    ob (vExt v17x8 1) fun v19x11 =>
    ob (vIx 1 (σ6 0) (σ6 8)) fun v23x12 =>
    ob (vLoad v23x12 H9) fun v24x13 =>
    fA .add (σ6 5) v24x13 H9 fun v25x14 H15 =>
    ob (vCF .f32 v18x10) fun v28x16 =>
    ob (vIx 1 (σ6 0) (σ6 8)) fun v31x17 =>
    ob (vLoad v31x17 H15) fun v32x18 =>
    fA .mul v28x16 v32x18 H15 fun v33x19 H20 =>
    fA .add (σ6 6) v33x19 H20 fun v34x21 H22 =>
    ob (vCF .f32 v19x11) fun v37x23 =>
    ob (vIx 1 (σ6 0) (σ6 8)) fun v40x24 =>
    ob (vLoad v40x24 H22) fun v41x25 =>
    fA .mul v37x23 v41x25 H22 fun v42x26 H27 =>
    fA .add (σ6 7) v42x26 H27 fun v43x28 H29 =>
    ob (vInt .add (σ6 8) (.int .i64 1)) fun v14x30 =>
    Q6 .normal (up (up (up (up (up (up (up (up (up (up (up (up (up (up (up (up (up (up (up (up (up (up (up (up (up (up (up (up (up (up (up (up (up (up (up (up (up (up (up σ6 11 (σ6 8)) 12 v12x7) 16 (σ6 8)) 17 v17x8) 15 v17x8) 18 v18x10) 19 v19x11) 9 v18x10) 10 v19x11) 20 (σ6 5)) 21 (σ6 0)) 22 (σ6 8)) 23 v23x12) 24 v24x13) 25 v25x14) 5 v25x14) 26 (σ6 6)) 27 v18x10) 28 v28x16) 29 (σ6 0)) 30 (σ6 8)) 31 v31x17) 32 v32x18) 33 v33x19) 34 v34x21) 6 v34x21) 35 (σ6 7)) 36 v19x11) 37 v37x23) 38 (σ6 0)) 39 (σ6 8)) 40 v40x24) 41 v41x25) 42 v42x26) 43 v43x28) 7 v43x28) 13 (σ6 8)) 14 v14x30) 8 v14x30) H29)
      (Q6 (.exit 0) (up (up σ6 11 (σ6 8)) 12 v12x7) H6)) (blkQ 0 (thenQ J1 (retQ prg [(.tmp 2), (.tmp 3), (.tmp 4)] K))) (up (up (up (up (up (up (up (S0 [a0]) 2 (.float .f32 0)) 3 (.float .f32 0)) 4 (.float .f32 0)) 5 (.float .f32 0)) 6 (.float .f32 0)) 7 (.float .f32 0)) 8 (.int .i64 0)) H
def O.spec_l06Mass : Nat → Nat × List Nat := fun i => (0, [])
theorem R.spec_l06Mass {a0 : Value} {H : Hp} {K : Value → Hp → Prop} (h : F.spec_l06Mass a0 H K) : HT prg I.spec_l06Mass [a0].toArray H K :=
  HT_of_fev O.spec_l06Mass mixed Try.func52 (by kernel_rfl) (Eq.mpr (by kernel_rfl : fev prg O.spec_l06Mass Try.f52 [a0] H K = F.spec_l06Mass a0 H K) h)

/-! loop.example/g01381/spec.l06Cell: function 53 -/
def F.spec_l06Cell (a0 a1 : Value) (H : Hp) (K : Value → Hp → Prop) : Prop :=
  ob (vNilC a0) fun v6x1 =>
  ob (vFa 2 v6x1) fun v7x2 =>
  ob (vLoad v7x2 H) fun v8x3 =>
  ob (vInt .mul (.int .i64 9) a1) fun v10x4 =>
  ob (vInt .mul (.int .i64 9) a1) fun v12x5 =>
  ob (vInt .add v12x5 (.int .i64 9)) fun v13x6 =>
  ob (vSl3 1 v8x3 (some v10x4) (some v13x6) none) fun v14x7 =>
  K v14x7 H
def O.spec_l06Cell : Nat → Nat × List Nat := fun i => (0, [])
theorem R.spec_l06Cell {a0 a1 : Value} {H : Hp} {K : Value → Hp → Prop} (h : F.spec_l06Cell a0 a1 H K) : HT prg I.spec_l06Cell [a0, a1].toArray H K :=
  HT_of_fev O.spec_l06Cell mixed Try.func53 (by kernel_rfl) (Eq.mpr (by kernel_rfl : fev prg O.spec_l06Cell Try.f53 [a0, a1] H K = F.spec_l06Cell a0 a1 H K) h)

/-! loop.example/g01381/spec.l06All: function 47 -/
def F.spec_l06All (a0 : Value) (H : Hp) (K : Value → Hp → Prop) : Prop :=
  jn (fun σ1 H1 =>
    K (σ1 3) H1) fun J1 =>
  lpE (fun Q2 σ2 H2 =>
    ob (vNilC (σ2 0)) fun v10x3 =>
    ob (vFa 0 v10x3) fun v11x4 =>
    ob (vLoad v11x4 H2) fun v12x5 =>
    ob (vNilC (σ2 0)) fun v14x6 =>
    ob (vFa 1 v14x6) fun v15x7 =>
    ob (vLoad v15x7 H2) fun v16x8 =>
    ob (vInt .mul v12x5 v16x8) fun v17x9 =>
    ob (vInt .lss (σ2 4) v17x9) fun v18x10 =>
    cnd v18x10
      (HT prg I.spec_l06Cell [(σ2 0), (σ2 4)].toArray H2 fun v24x11 H12 =>
    HT prg I.spec_l06Mass [v24x11].toArray H12 fun v25x13 H14 =>
    ob (vExt v25x13 0) fun v26x15 =>
    ob (vExt v25x13 1) fun v27x16 =>
    ob (vExt v25x13 2) fun v28x17 =>
    fA .add (σ2 3) v26x15 H14 fun v31x18 H19 =>
    ob (vInt .add (σ2 4) (.int .i64 1)) fun v20x20 =>
    Q2 .normal (up (up (up (up (up (up (up (up (up (up (up (up (up (up (up (up (up (up (up (up (up (up (up (up (up (up (up (up (up σ2 8 (σ2 4)) 9 (σ2 0)) 10 v10x3) 11 v11x4) 12 v12x5) 13 (σ2 0)) 14 v14x6) 15 v15x7) 16 v16x8) 17 v17x9) 18 v18x10) 22 (σ2 0)) 23 (σ2 4)) 24 v24x11) 25 v25x13) 21 v25x13) 26 v26x15) 27 v27x16) 28 v28x17) 5 v26x15) 6 v27x16) 7 v28x17) 29 (σ2 3)) 30 v26x15) 31 v31x18) 3 v31x18) 19 (σ2 4)) 20 v20x20) 4 v20x20) H19)
      (Q2 (.exit 0) (up (up (up (up (up (up (up (up (up (up (up σ2 8 (σ2 4)) 9 (σ2 0)) 10 v10x3) 11 v11x4) 12 v12x5) 13 (σ2 0)) 14 v14x6) 15 v15x7) 16 v16x8) 17 v17x9) 18 v18x10) H2)) (blkQ 0 (thenQ J1 (retQ prg [(.tmp 2)] K))) (up (up (up (S0 [a0]) 2 (.float .f32 0)) 3 (.float .f32 0)) 4 (.int .i64 0)) H
def O.spec_l06All : Nat → Nat × List Nat := fun i => bif Nat.beq i 3 then (0, [0, 1, 2, 3, 4, 5, 6, 7, 8, 9, 10]) else (0, [])
theorem R.spec_l06All {a0 : Value} {H : Hp} {K : Value → Hp → Prop} (h : F.spec_l06All a0 H K) : HT prg I.spec_l06All [a0].toArray H K :=
  HT_of_fev O.spec_l06All mixed Try.func47 (by kernel_rfl) (Eq.mpr (by kernel_rfl : fev prg O.spec_l06All Try.f47 [a0] H K = F.spec_l06All a0 H K) h)

/-! loop.example/g01381/spec.MassOf: function 16 -/
def F.spec_MassOf (a0 : Value) (H : Hp) (K : Value → Hp → Prop) : Prop :=
  nw (a0 : Value).cells 28 H fun v1x1 H2 =>
  HT prg I.spec_l06Flow [v1x1].toArray H2 fun v4x3 H4 =>
  ob (vUn .not v4x3) fun v5x5 =>
  cnd v5x5
    (K (.tuple #[(.float .f32 0), (.bool false)]) H4)
    (HT prg I.spec_l06All [v1x1].toArray H4 fun v6x6 H7 =>
  HT prg I.spec_l02Number [v6x6].toArray H7 fun v7x8 H9 =>
  ob (vExt v7x8 0) fun v8x10 =>
  ob (vExt v7x8 1) fun v9x11 =>
  K (.tuple #[v8x10, v9x11]) H9)
def O.spec_MassOf : Nat → Nat × List Nat := fun i => (0, [])
theorem R.spec_MassOf {a0 : Value} {H : Hp} {K : Value → Hp → Prop} (h : F.spec_MassOf a0 H K) : HT prg I.spec_MassOf [a0].toArray H K :=
  HT_of_fev O.spec_MassOf mixed Try.func16 (by kernel_rfl) (Eq.mpr (by kernel_rfl : fev prg O.spec_MassOf Try.f16 [a0] H K = F.spec_MassOf a0 H K) h)

/-! loop.example/g01381/impl.within: function 56 -/
def F.impl_within (a0 a1 a2 : Value) (H : Hp) (K : Value → Hp → Prop) : Prop :=
  ob (vInt .geq a0 a1) fun v9x1 =>
  gop v9x1 true (fun K2 => K2 a0 H) H fun v11x3 H4 =>
  gop v9x1 true (fun K5 => K5 a2 H4) H4 fun v12x6 H7 =>
  gop v9x1 true (fun K8 => ob (vInt .leq v11x3 v12x6) fun u => K8 u H7) H7 fun v13x9 H10 =>
  ob (vPick v9x1 v13x9 (.bool false)) fun v14x11 =>
  K v14x11 H10
def O.impl_within : Nat → Nat × List Nat := fun i => (0, [])
theorem R.impl_within {a0 a1 a2 : Value} {H : Hp} {K : Value → Hp → Prop} (h : F.impl_within a0 a1 a2 H K) : HT prg I.impl_within [a0, a1, a2].toArray H K :=
  HT_of_fev O.impl_within mixed Try.func56 (by kernel_rfl) (Eq.mpr (by kernel_rfl : fev prg O.impl_within Try.f56 [a0, a1, a2] H K = F.impl_within a0 a1 a2 H K) h)

/-! loop.example/g01381/impl.areSides: function 37 -/
def F.impl_areSides (a0 a1 : Value) (H : Hp) (K : Value → Hp → Prop) : Prop :=
  HT prg I.impl_within [a0, (.int .i64 1), (.int .i64 16)].toArray H fun v6x1 H2 =>
  gop v6x1 true (fun K3 => K3 a1 H2) H2 fun v8x4 H5 =>
  gop v6x1 true (fun K6 => HT prg I.impl_within [v8x4, (.int .i64 1), (.int .i64 16)].toArray H5 K6) H5 fun v9x7 H8 =>
  ob (vPick v6x1 v9x7 (.bool false)) fun v10x9 =>
  K v10x9 H8
def O.impl_areSides : Nat → Nat × List Nat := fun i => (0, [])
theorem R.impl_areSides {a0 a1 : Value} {H : Hp} {K : Value → Hp → Prop} (h : F.impl_areSides a0 a1 H K) : HT prg I.impl_areSides [a0, a1].toArray H K :=
  HT_of_fev O.impl_areSides mixed Try.func37 (by kernel_rfl) (Eq.mpr (by kernel_rfl : fev prg O.impl_areSides Try.f37 [a0, a1] H K = F.impl_areSides a0 a1 H K) h)

/-! slices.IndexFunc[[]float32,float32]: function 81 -/
def F.slices_IndexFunc_float32Zfloat32 (a0 a1 : Value) (H : Hp) (K : Value → Hp → Prop) : Prop :=
  jn (fun σ1 H1 =>
    K (.int .i64 (-1)) H1) fun J1 =>
  ob (vLenSl a0) fun v7x2 =>
  lpE (fun Q3 σ3 H3 =>
    ob (vInt .lss (σ3 8) (σ3 7)) fun v9x4 =>
    cnd v9x4
      (ob (vIx 1 (σ3 0) (σ3 8)) fun v14x5 =>
    ob (vLoad v14x5 H3) fun v15x6 =>
    callV prg (σ3 1) [v15x6] H3 fun v16x7 H8 =>
    cnd v16x7
      (Q3 .ret (up (up (up (up (up (up (up (up (up (up (up σ3 9 v9x4) 10 (σ3 8)) 5 (σ3 8)) 11 (σ3 1)) 12 (σ3 0)) 13 (σ3 8)) 14 v14x5) 15 v15x6) 16 v16x7) 17 (σ3 8)) 4 (σ3 8)) H8)
      (ob (vInt .add (σ3 8) (.int .i64 1)) fun v18x9 =>
    Q3 .normal (up (up (up (up (up (up (up (up (up (up (up σ3 9 v9x4) 10 (σ3 8)) 5 (σ3 8)) 11 (σ3 1)) 12 (σ3 0)) 13 (σ3 8)) 14 v14x5) 15 v15x6) 16 v16x7) 18 v18x9) 8 v18x9) H8))
      (Q3 (.exit 0) (up σ3 9 v9x4) H3)) (blkQ 0 (thenQ J1 (retQ prg [(.tmp 4)] K))) (up (up (up (up (S0 [a0, a1]) 4 (.int .i64 0)) 6 a0) 7 v7x2) 8 (.int .i64 0)) H
def O.slices_IndexFunc_float32Zfloat32 : Nat → Nat × List Nat := fun i => (0, [])
theorem R.slices_IndexFunc_float32Zfloat32 {a0 a1 : Value} {H : Hp} {K : Value → Hp → Prop} (h : F.slices_IndexFunc_float32Zfloat32 a0 a1 H K) : HT prg I.slices_IndexFunc_float32Zfloat32 [a0, a1].toArray H K :=
  HT_of_fev O.slices_IndexFunc_float32Zfloat32 mixed Try.func81 (by kernel_rfl) (Eq.mpr (by kernel_rfl : fev prg O.slices_IndexFunc_float32Zfloat32 Try.f81 [a0, a1] H K = F.slices_IndexFunc_float32Zfloat32 a0 a1 H K) h)

/-! slices.ContainsFunc[[]float32,float32]: function 73 -/
def F.slices_ContainsFunc_float32Zfloat32 (a0 a1 : Value) (H : Hp) (K : Value → Hp → Prop) : Prop :=
  HT prg I.slices_IndexFunc_float32Zfloat32 [a0, a1].toArray H fun v7x1 H2 =>
  ob (vInt .geq v7x1 (.int .i64 0)) fun v8x3 =>
  K v8x3 H2
def O.slices_ContainsFunc_float32Zfloat32 : Nat → Nat × List Nat := fun i => (0, [])
theorem R.slices_ContainsFunc_float32Zfloat32 {a0 a1 : Value} {H : Hp} {K : Value → Hp → Prop} (h : F.slices_ContainsFunc_float32Zfloat32 a0 a1 H K) : HT prg I.slices_ContainsFunc_float32Zfloat32 [a0, a1].toArray H K :=
  HT_of_fev O.slices_ContainsFunc_float32Zfloat32 mixed Try.func73 (by kernel_rfl) (Eq.mpr (by kernel_rfl : fev prg O.slices_ContainsFunc_float32Zfloat32 Try.f73 [a0, a1] H K = F.slices_ContainsFunc_float32Zfloat32 a0 a1 H K) h)

/-! loop.example/g01381/impl.IsFinite: function 50 -/
def F.impl_IsFinite (a0 : Value) (H : Hp) (K : Value → Hp → Prop) : Prop :=
  fA .sub a0 a0 H fun v5x1 H2 =>
  ob (vFcmp .eql v5x1 (.float .f32 0)) fun v6x3 =>
  K v6x3 H2
def O.impl_IsFinite : Nat → Nat × List Nat := fun i => (0, [])
theorem R.impl_IsFinite {a0 : Value} {H : Hp} {K : Value → Hp → Prop} (h : F.impl_IsFinite a0 H K) : HT prg I.impl_IsFinite [a0].toArray H K :=
  HT_of_fev O.impl_IsFinite mixed Try.func50 (by kernel_rfl) (Eq.mpr (by kernel_rfl : fev prg O.impl_IsFinite Try.f50 [a0] H K = F.impl_IsFinite a0 H K) h)

/-! loop.example/g01381/impl.areFinite$1: function 74 -/
def F.impl_areFinite_1 (a0 : Value) (H : Hp) (K : Value → Hp → Prop) : Prop :=
  HT prg I.impl_IsFinite [a0].toArray H fun v4x1 H2 =>
  ob (vUn .not v4x1) fun v5x3 =>
  K v5x3 H2
def O.impl_areFinite_1 : Nat → Nat × List Nat := fun i => (0, [])
theorem R.impl_areFinite_1 {a0 : Value} {H : Hp} {K : Value → Hp → Prop} (h : F.impl_areFinite_1 a0 H K) : HT prg I.impl_areFinite_1 [a0].toArray H K :=
  HT_of_fev O.impl_areFinite_1 mixed Try.func74 (by kernel_rfl) (Eq.mpr (by kernel_rfl : fev prg O.impl_areFinite_1 Try.f74 [a0] H K = F.impl_areFinite_1 a0 H K) h)

/-! loop.example/g01381/impl.areFinite: function 38 -/
def F.impl_areFinite (a0 : Value) (H : Hp) (K : Value → Hp → Prop) : Prop :=
  HT prg I.slices_ContainsFunc_float32Zfloat32 [a0, (.func (.func I.impl_areFinite_1) #[] #[])].toArray H fun v4x1 H2 =>
  ob (vUn .not v4x1) fun v5x3 =>
  K v5x3 H2
def O.impl_areFinite : Nat → Nat × List Nat := fun i => (0, [])
theorem R.impl_areFinite {a0 : Value} {H : Hp} {K : Value → Hp → Prop} (h : F.impl_areFinite a0 H K) : HT prg I.impl_areFinite [a0].toArray H K :=
  HT_of_fev O.impl_areFinite mixed Try.func38 (by kernel_rfl) (Eq.mpr (by kernel_rfl : fev prg O.impl_areFinite Try.f38 [a0] H K = F.impl_areFinite a0 H K) h)

/-! loop.example/g01381/impl.ValidFlow: function 12 -/
def F.impl_ValidFlow (a0 : Value) (H : Hp) (K : Value → Hp → Prop) : Prop :=
  nw (a0 : Value).cells 28 H fun v1x1 H2 =>
  ob (vFa 0 v1x1) fun v4x3 =>
  ob (vLoad v4x3 H2) fun v5x4 =>
  ob (vFa 1 v1x1) fun v6x5 =>
  ob (vLoad v6x5 H2) fun v7x6 =>
  ob (vInt .mul v5x4 v7x6) fun v8x7 =>
  ob (vFa 0 v1x1) fun v9x8 =>
  ob (vLoad v9x8 H2) fun v10x9 =>
  ob (vFa 1 v1x1) fun v11x10 =>
  ob (vLoad v11x10 H2) fun v12x11 =>
  HT prg I.impl_areSides [v10x9, v12x11].toArray H2 fun v13x12 H13 =>
  gop v13x12 true (fun K14 => ob (vFa 2 v1x1) fun u => K14 u H13) H13 fun v15x15 H16 =>
  gop v13x12 true (fun K17 => ob (vLoad v15x15 H16) fun u => K17 u H16) H16 fun v16x18 H19 =>
  gop v13x12 true (fun K20 => ob (vLenSl v16x18) fun u => K20 u H19) H19 fun v17x21 H22 =>
  gop v13x12 true (fun K23 => K23 v8x7 H22) H22 fun v18x24 H25 =>
  gop v13x12 true (fun K26 => ob (vInt .mul (.int .i64 9) v18x24) fun u => K26 u H25) H25 fun v19x27 H28 =>
  gop v13x12 true (fun K29 => ob (vInt .eql v17x21 v19x27) fun u => K29 u H28) H28 fun v20x30 H31 =>
  ob (vPick v13x12 v20x30 (.bool false)) fun v21x32 =>
  gop v21x32 true (fun K33 => ob (vFa 3 v1x1) fun u => K33 u H31) H31 fun v23x34 H35 =>
  gop v21x32 true (fun K36 => ob (vLoad v23x34 H35) fun u => K36 u H35) H35 fun v24x37 H38 =>
  gop v21x32 true (fun K39 => ob (vLenSl v24x37) fun u => K39 u H38) H38 fun v25x40 H41 =>
  gop v21x32 true (fun K42 => K42 v8x7 H41) H41 fun v26x43 H44 =>
  gop v21x32 true (fun K45 => ob (vInt .eql v25x40 v26x43) fun u => K45 u H44) H44 fun v27x46 H47 =>
  ob (vPick v21x32 v27x46 (.bool false)) fun v28x48 =>
  gop v28x48 true (fun K49 => ob (vFa 2 v1x1) fun u => K49 u H47) H47 fun v30x50 H51 =>
  gop v28x48 true (fun K52 => ob (vLoad v30x50 H51) fun u => K52 u H51) H51 fun v31x53 H54 =>
  gop v28x48 true (fun K55 => HT prg I.impl_areFinite [v31x53].toArray H54 K55) H54 fun v32x56 H57 =>
  ob (vPick v28x48 v32x56 (.bool false)) fun v33x58 =>
  K v33x58 H57
def O.impl_ValidFlow : Nat → Nat × List Nat := fun i => (0, [])
theorem R.impl_ValidFlow {a0 : Value} {H : Hp} {K : Value → Hp → Prop} (h : F.impl_ValidFlow a0 H K) : HT prg I.impl_ValidFlow [a0].toArray H K :=
  HT_of_fev O.impl_ValidFlow mixed Try.func12 (by kernel_rfl) (Eq.mpr (by kernel_rfl : fev prg O.impl_ValidFlow Try.f12 [a0] H K = F.impl_ValidFlow a0 H K) h)

/-! loop.example/g01381/impl.massOf: function 48 -/
def F.impl_massOf (a0 : Value) (H : Hp) (K : Value → Hp → Prop) : Prop :=
  jn (fun σ1 H1 =>
    K (σ1 3) H1) fun J1 =>
  ob (vLenSl a0) fun v7x2 =>
  lpE (fun Q3 σ3 H3 =>
    ob (vInt .lss (σ3 8) (σ3 7)) fun v9x4 =>
    cnd v9x4
      (ob (vIx 1 (σ3 6) (σ3 8)) fun v10x5 =>
    ob (vLoad v10x5 H3) fun v11x6 =>
    fA .add (σ3 3) v11x6 H3 fun v14x7 H8 =>
    ob (vInt .add (σ3 8) (.int .i64 1)) fun v15x9 =>
    Q3 .normal (up (up (up (up (up (up (up (up (up (up σ3 9 v9x4) 10 v10x5) 11 v11x6) 5 v11x6) 12 (σ3 3)) 13 v11x6) 14 v14x7) 3 v14x7) 15 v15x9) 8 v15x9) H8)
      (Q3 (.exit 0) (up σ3 9 v9x4) H3)) (blkQ 0 (thenQ J1 (retQ prg [(.tmp 2)] K))) (up (up (up (up (up (S0 [a0]) 2 (.float .f32 0)) 3 (.float .f32 0)) 6 a0) 7 v7x2) 8 (.int .i64 0)) H
def O.impl_massOf : Nat → Nat × List Nat := fun i => (0, [])
theorem R.impl_massOf {a0 : Value} {H : Hp} {K : Value → Hp → Prop} (h : F.impl_massOf a0 H K) : HT prg I.impl_massOf [a0].toArray H K :=
  HT_of_fev O.impl_massOf mixed Try.func48 (by kernel_rfl) (Eq.mpr (by kernel_rfl : fev prg O.impl_massOf Try.f48 [a0] H K = F.impl_massOf a0 H K) h)

/-! (loop.example/g01381/impl.Flow).cell: function 49 -/
def F.impl_Flow_cell (a0 a1 : Value) (H : Hp) (K : Value → Hp → Prop) : Prop :=
  nw (a0 : Value).cells 28 H fun v2x1 H2 =>
  ob (vFa 2 v2x1) fun v5x3 =>
  ob (vLoad v5x3 H2) fun v6x4 =>
  ob (vInt .mul (.int .i64 9) a1) fun v8x5 =>
  ob (vInt .mul (.int .i64 9) a1) fun v10x6 =>
  ob (vInt .add v10x6 (.int .i64 9)) fun v11x7 =>
  ob (vSl3 1 v6x4 (some v8x5) (some v11x7) none) fun v12x8 =>
  K v12x8 H2
def O.impl_Flow_cell : Nat → Nat × List Nat := fun i => (0, [])
theorem R.impl_Flow_cell {a0 a1 : Value} {H : Hp} {K : Value → Hp → Prop} (h : F.impl_Flow_cell a0 a1 H K) : HT prg I.impl_Flow_cell [a0, a1].toArray H K :=
  HT_of_fev O.impl_Flow_cell mixed Try.func49 (by kernel_rfl) (Eq.mpr (by kernel_rfl : fev prg O.impl_Flow_cell Try.f49 [a0, a1] H K = F.impl_Flow_cell a0 a1 H K) h)

/-! loop.example/g01381/impl.MassOf: function 17 -/
def F.impl_MassOf (a0 : Value) (H : Hp) (K : Value → Hp → Prop) : Prop :=
  nw (a0 : Value).cells 28 H fun v1x1 H2 =>
  ob (vLoadN 4 v1x1 H2) fun v6x3 =>
  HT prg I.impl_ValidFlow [v6x3].toArray H2 fun v7x4 H5 =>
  ob (vUn .not v7x4) fun v8x6 =>
  cnd v8x6
    (K (.tuple #[(.float .f32 0), (.bool false)]) H5)
    (jn (fun σ7 H7 =>
    HT prg I.impl_IsFinite [(σ7 4)].toArray H7 fun v25x8 H9 =>
    ob (vUn .not v25x8) fun v26x10 =>
    cnd v26x10
      (K (.tuple #[(.float .f32 0), (.bool false)]) H9)
      (K (.tuple #[(σ7 4), (.bool true)]) H9)) fun J7 =>
  ob (vFa 0 v1x1) fun v9x11 =>
  ob (vLoad v9x11 H5) fun v10x12 =>
  ob (vFa 1 v1x1) fun v11x13 =>
  ob (vLoad v11x13 H5) fun v12x14 =>
  ob (vInt .mul v10x12 v12x14) fun v13x15 =>
  lpE (fun Q16 σ16 H16 =>
    ob (vInt .lss (σ16 14) (σ16 13)) fun v15x17 =>
    cnd v15x17
      (ob (vLoadN 4 (σ16 1) H16) fun v18x18 =>
    HT prg I.impl_Flow_cell [v18x18, (σ16 14)].toArray H16 fun v20x19 H20 =>
    HT prg I.impl_massOf [v20x19].toArray H20 fun v21x21 H22 =>
    fA .add (σ16 4) v21x21 H22 fun v22x23 H24 =>
    ob (vInt .add (σ16 14) (.int .i64 1)) fun v23x25 =>
    Q16 .normal (up (up (up (up (up (up (up (up (up (up (up (up σ16 15 v15x17) 16 (σ16 14)) 5 (σ16 14)) 17 (σ16 4)) 18 v18x18) 19 (σ16 14)) 20 v20x19) 21 v21x21) 22 v22x23) 4 v22x23) 23 v23x25) 14 v23x25) H24)
      (Q16 (.exit 0) (up σ16 15 v15x17) H16)) (blkQ 0 (thenQ J7 (retQ prg [(.tmp 2), (.tmp 3)] K))) (up (up (up (up (up (up (up (up (up (up (up (up (up (S0 [a0]) 1 v1x1) 2 (.float .f32 0)) 3 (.bool false)) 6 v6x3) 7 v7x4) 8 v8x6) 4 (.float .f32 0)) 9 v9x11) 10 v10x12) 11 v11x13) 12 v12x14) 13 v13x15) 14 (.int .i64 0)) H5)
def O.impl_MassOf : Nat → Nat × List Nat := fun i => (0, [])
theorem R.impl_MassOf {a0 : Value} {H : Hp} {K : Value → Hp → Prop} (h : F.impl_MassOf a0 H K) : HT prg I.impl_MassOf [a0].toArray H K :=
  HT_of_fev O.impl_MassOf mixed Try.func17 (by kernel_rfl) (Eq.mpr (by kernel_rfl : fev prg O.impl_MassOf Try.f17 [a0] H K = F.impl_MassOf a0 H K) h)

/-! loop.example/g01381/laws.FnExactMassOf: function 5 -/
def F.laws_FnExactMassOf (a0 : Value) (H : Hp) (K : Value → Hp → Prop) : Prop :=
  nw (a0 : Value).cells 25 H fun v1x1 H2 =>
  ob (vLoadN 4 v1x1 H2) fun v9x3 =>
  HT prg I.laws_szFlow [v9x3, (.int .i64 1048576)].toArray H2 fun v11x4 H5 =>
  ob (vInt .lss v11x4 (.int .i64 0)) fun v13x6 =>
  cnd v13x6
    (K (.bool true) H5)
    (ob (vLoadN 4 v1x1 H5) fun v15x7 =>
  HT prg I.laws_toFlow [v15x7].toArray H5 fun v16x8 H9 =>
  HT prg I.spec_MassOf [v16x8].toArray H9 fun v17x10 H11 =>
  ob (vExt v17x10 0) fun v18x12 =>
  ob (vExt v17x10 1) fun v19x13 =>
  ob (vLoadN 4 v1x1 H11) fun v20x14 =>
  HT prg I.laws_toFlow [v20x14].toArray H11 fun v21x15 H16 =>
  nw #[(.int .i64 0), (.int .i64 0), (.slice none 0 0), (.slice none 0 0)] 28 H16 fun v6x17 H18 =>
  st 4 v6x17 v21x15 H18 fun H19 =>
  ob (vLoadN 4 v6x17 H19) fun v23x20 =>
  HT prg I.impl_MassOf [v23x20].toArray H19 fun v24x21 H22 =>
  ob (vExt v24x21 0) fun v25x23 =>
  ob (vExt v24x21 1) fun v26x24 =>
  fC .f64 v25x23 H22 fun v28x25 H26 =>
  fC .f64 v18x12 H26 fun v30x27 H28 =>
  HT prg I.laws_sameFloat [v28x25, v30x27].toArray H28 fun v31x29 H30 =>
  ob (vUn .not v31x29) fun v32x31 =>
  gop v32x31 false (fun K32 => K32 v26x24 H30) H30 fun v34x33 H34 =>
  gop v32x31 false (fun K35 => K35 v19x13 H34) H34 fun v35x36 H37 =>
  gop v32x31 false (fun K38 => ob (vBool .neq v34x33 v35x36) fun u => K38 u H37) H37 fun v36x39 H40 =>
  ob (vPick v32x31 (.bool true) v36x39) fun v37x41 =>
  cnd v37x41
    (K (.bool false) H40)
    (ob (vLoadN 4 v6x17 H40) fun v38x42 =>
  ob (vLoadN 4 v1x1 H40) fun v39x43 =>
  HT prg I.laws_toFlow [v39x43].toArray H40 fun v40x44 H45 =>
  Le H40 H45 ∧ (HT prg I.laws_eqFlow [v38x42, v40x44].toArray H45 fun v41x46 H47 =>
  Le H45 H47 ∧ (ob (vUn .not v41x46) fun v42x48 =>
  cnd v42x48
    (K (.bool false) H47)
    (K (.bool true) H47)))))
def O.laws_FnExactMassOf : Nat → Nat × List Nat := fun i => bif Nat.beq i 10 then (0, [0, 1, 2, 3, 4]) else (0, [])
theorem R.laws_FnExactMassOf {a0 : Value} {H : Hp} {K : Value → Hp → Prop} (h : F.laws_FnExactMassOf a0 H K) : HT prg I.laws_FnExactMassOf [a0].toArray H K :=
  HT_of_fev O.laws_FnExactMassOf mixed Try.func5 (by kernel_rfl) (Eq.mpr (by kernel_rfl : fev prg O.laws_FnExactMassOf Try.f5 [a0] H K = F.laws_FnExactMassOf a0 H K) h)

/-! loop.example/g01381/spec.l02Above: function 54 -/
def F.spec_l02Above (a0 : Value) (H : Hp) (K : Value → Hp → Prop) : Prop :=
  HT prg I.spec_l01Finite [a0].toArray H fun v4x1 H2 =>
  gop v4x1 true (fun K3 => K3 a0 H2) H2 fun v6x4 H5 =>
  gop v4x1 true (fun K6 => ob (vFcmp .gtr v6x4 (.float .f32 0)) fun u => K6 u H5) H5 fun v7x7 H8 =>
  ob (vPick v4x1 v7x7 (.bool false)) fun v8x9 =>
  K v8x9 H8
def O.spec_l02Above : Nat → Nat × List Nat := fun i => (0, [])
theorem R.spec_l02Above {a0 : Value} {H : Hp} {K : Value → Hp → Prop} (h : F.spec_l02Above a0 H K) : HT prg I.spec_l02Above [a0].toArray H K :=
  HT_of_fev O.spec_l02Above mixed Try.func54 (by kernel_rfl) (Eq.mpr (by kernel_rfl : fev prg O.spec_l02Above Try.f54 [a0] H K = F.spec_l02Above a0 H K) h)

/-! loop.example/g01381/spec.CellOfFlow: function 19 -/
def F.spec_CellOfFlow (a0 a1 a2 : Value) (H : Hp) (K : Value → Hp → Prop) : Prop :=
  nw (a0 : Value).cells 28 H fun v3x1 H2 =>
  HT prg I.spec_l06Flow [v3x1].toArray H2 fun v13x3 H4 =>
  ob (vUn .not v13x3) fun v14x5 =>
  gop v14x5 false (fun K6 => K6 a1 H4) H4 fun v16x7 H8 =>
  gop v14x5 false (fun K9 => ob (vFa 0 v3x1) fun u => K9 u H8) H8 fun v17x10 H11 =>
  gop v14x5 false (fun K12 => ob (vLoad v17x10 H11) fun u => K12 u H11) H11 fun v18x13 H14 =>
  gop v14x5 false (fun K15 => ob (vInt .sub v18x13 (.int .i64 1)) fun u => K15 u H14) H14 fun v19x16 H17 =>
  gop v14x5 false (fun K18 => HT prg I.spec_l00In [v16x7, (.int .i64 0), v19x16].toArray H17 K18) H17 fun v20x19 H20 =>
  gop v14x5 false (fun K21 => ob (vUn .not v20x19) fun u => K21 u H20) H20 fun v21x22 H23 =>
  ob (vPick v14x5 (.bool true) v21x22) fun v22x24 =>
  gop v22x24 false (fun K25 => K25 a2 H23) H23 fun v24x26 H27 =>
  gop v22x24 false (fun K28 => ob (vFa 1 v3x1) fun u => K28 u H27) H27 fun v25x29 H30 =>
  gop v22x24 false (fun K31 => ob (vLoad v25x29 H30) fun u => K31 u H30) H30 fun v26x32 H33 =>
  gop v22x24 false (fun K34 => ob (vInt .sub v26x32 (.int .i64 1)) fun u => K34 u H33) H33 fun v27x35 H36 =>
  gop v22x24 false (fun K37 => HT prg I.spec_l00In [v24x26, (.int .i64 0), v27x35].toArray H36 K37) H36 fun v28x38 H39 =>
  gop v22x24 false (fun K40 => ob (vUn .not v28x38) fun u => K40 u H39) H39 fun v29x41 H42 =>
  ob (vPick v22x24 (.bool true) v29x41) fun v30x43 =>
  cnd v30x43
    (K (.tuple #[(.float .f32 0), (.float .f32 0), (.float .f32 0), (.bool false)]) H42)
    (ob (vFa 1 v3x1) fun v33x44 =>
  ob (vLoad v33x44 H42) fun v34x45 =>
  ob (vInt .mul a1 v34x45) fun v35x46 =>
  ob (vInt .add v35x46 a2) fun v37x47 =>
  HT prg I.spec_l06Cell [v3x1, v37x47].toArray H42 fun v38x48 H49 =>
  HT prg I.spec_l06Mass [v38x48].toArray H49 fun v39x50 H51 =>
  ob (vExt v39x50 0) fun v40x52 =>
  ob (vExt v39x50 1) fun v41x53 =>
  ob (vExt v39x50 2) fun v42x54 =>
  HT prg I.spec_l02Above [v40x52].toArray H51 fun v44x55 H56 =>
  ob (vUn .not v44x55) fun v45x57 =>
  gop v45x57 false (fun K58 => K58 v41x53 H56) H56 fun v47x59 H60 =>
  gop v45x57 false (fun K61 => HT prg I.spec_l01Finite [v47x59].toArray H60 K61) H60 fun v48x62 H63 =>
  gop v45x57 false (fun K64 => ob (vUn .not v48x62) fun u => K64 u H63) H63 fun v49x65 H66 =>
  ob (vPick v45x57 (.bool true) v49x65) fun v50x67 =>
  gop v50x67 false (fun K68 => K68 v42x54 H66) H66 fun v52x69 H70 =>
  gop v50x67 false (fun K71 => HT prg I.spec_l01Finite [v52x69].toArray H70 K71) H70 fun v53x72 H73 =>
  gop v50x67 false (fun K74 => ob (vUn .not v53x72) fun u => K74 u H73) H73 fun v54x75 H76 =>
  ob (vPick v50x67 (.bool true) v54x75) fun v55x77 =>
  cnd v55x77
    (K (.tuple #[(.float .f32 0), (.float .f32 0), (.float .f32 0), (.bool false)]) H76)
    (K (.tuple #[v40x52, v41x53, v42x54, (.bool true)]) H76))
def O.spec_CellOfFlow : Nat → Nat × List Nat := fun i => (0, [])
theorem R.spec_CellOfFlow {a0 a1 a2 : Value} {H : Hp} {K : Value → Hp → Prop} (h : F.spec_CellOfFlow a0 a1 a2 H K) : HT prg I.spec_CellOfFlow [a0, a1, a2].toArray H K :=
  HT_of_fev O.spec_CellOfFlow mixed Try.func19 (by kernel_rfl) (Eq.mpr (by kernel_rfl : fev prg O.spec_CellOfFlow Try.f19 [a0, a1, a2] H K = F.spec_CellOfFlow a0 a1 a2 H K) h)

/-! loop.example/g01381/impl.partGoes: function 78 -/
def F.impl_partGoes (a0 : Value) (H : Hp) (K : Value → Hp → Prop) : Prop :=
  hp prg (Instr.build 97 [(0, (.int .i64 0)), (1, (.int .i64 0)), (2, (.int .i64 1)), (3, (.int .i64 0)), (4, (.int .i64 (-1))), (5, (.int .i64 1)), (6, (.int .i64 1)), (7, (.int .i64 (-1))), (8, (.int .i64 (-1)))].toArray) H fun v6x1 H2 =>
  nw #[(.int .i64 0), (.int .i64 0), (.int .i64 0), (.int .i64 0), (.int .i64 0), (.int .i64 0), (.int .i64 0), (.int .i64 0), (.int .i64 0)] 97 H2 fun v4x3 H4 =>
  st 9 v4x3 v6x1 H4 fun H5 =>
  hp prg (Instr.build 97 [(0, (.int .i64 0)), (1, (.int .i64 1)), (2, (.int .i64 0)), (3, (.int .i64 (-1))), (4, (.int .i64 0)), (5, (.int .i64 1)), (6, (.int .i64 (-1))), (7, (.int .i64 (-1))), (8, (.int .i64 1))].toArray) H5 fun v7x6 H7 =>
  nw #[(.int .i64 0), (.int .i64 0), (.int .i64 0), (.int .i64 0), (.int .i64 0), (.int .i64 0), (.int .i64 0), (.int .i64 0), (.int .i64 0)] 97 H7 fun v5x8 H9 =>
  st 9 v5x8 v7x6 H9 fun H10 =>
  ob (vIxArr 9 1 v4x3 a0) fun v9x11 =>
  ob (vLoad v9x11 H10) fun v10x12 =>
  ob (vIxArr 9 1 v5x8 a0) fun v12x13 =>
  ob (vLoad v12x13 H10) fun v13x14 =>
  K (.tuple #[v10x12, v13x14]) H10
def O.impl_partGoes : Nat → Nat × List Nat := fun i => bif Nat.beq i 3 then (0, [0, 1, 2, 3, 4, 5, 6, 7]) else (0, [])
theorem R.impl_partGoes {a0 : Value} {H : Hp} {K : Value → Hp → Prop} (h : F.impl_partGoes a0 H K) : HT prg I.impl_partGoes [a0].toArray H K :=
  HT_of_eq O.impl_partGoes mixed Try.func78 (by kernel_rfl) (G := F.impl_partGoes a0 H K) (by kernel_rfl) h

/-! loop.example/g01381/impl.speeds: function 57 -/
def F.impl_speeds (a0 : Value) (H : Hp) (K : Value → Hp → Prop) : Prop :=
  HT prg I.impl_massOf [a0].toArray H fun v12x1 H2 =>
  jn (fun σ3 H3 =>
    fA .quo (σ3 5) (σ3 4) H3 fun v40x4 H5 =>
    fA .quo (σ3 6) (σ3 4) H5 fun v43x6 H7 =>
    K (.tuple #[v40x4, v43x6]) H7) fun J3 =>
  ob (vLenSl a0) fun v14x8 =>
  lpE (fun Q9 σ9 H9 =>
    ob (vInt .lss (σ9 15) (σ9 14)) fun v16x10 =>
    cnd v16x10
      (ob (vIx 1 (σ9 13) (σ9 15)) fun v18x11 =>
    ob (vLoad v18x11 H9) fun v19x12 =>
    HT prg I.impl_partGoes [(σ9 15)].toArray H9 fun v22x13 H14 =>
    ob (vExt v22x13 0) fun v23x15 =>
    ob (vExt v22x13 1) fun v24x16 =>
    ob (vCF .f32 v23x15) fun v27x17 =>
    fA .mul v27x17 v19x12 H14 fun v29x18 H19 =>
    fA .add (σ9 5) v29x18 H19 fun v30x20 H21 =>
    ob (vCF .f32 v24x16) fun v33x22 =>
    fA .mul v33x22 v19x12 H21 fun v35x23 H24 =>
    fA .add (σ9 6) v35x23 H24 fun v36x25 H26 =>
    ob (vInt .add (σ9 15) (.int .i64 1)) fun v37x27 =>
    Q9 .normal (up (up (up (up (up (up (up (up (up (up (up (up (up (up (up (up (up (up (up (up (up (up (up (up (up (up (up (up (up σ9 16 v16x10) 17 (σ9 15)) 18 v18x11) 19 v19x12) 7 (σ9 15)) 8 v19x12) 21 (σ9 15)) 22 v22x13) 20 v22x13) 23 v23x15) 24 v24x16) 9 v23x15) 10 v24x16) 25 (σ9 5)) 26 v23x15) 27 v27x17) 28 v19x12) 29 v29x18) 30 v30x20) 5 v30x20) 31 (σ9 6)) 32 v24x16) 33 v33x22) 34 v19x12) 35 v35x23) 36 v36x25) 6 v36x25) 37 v37x27) 15 v37x27) H26)
      (Q9 (.exit 0) (up σ9 16 v16x10) H9)) (blkQ 0 (thenQ J3 (retQ prg [(.tmp 2), (.tmp 3)] K))) (up (up (up (up (up (up (up (up (up (up (S0 [a0]) 2 (.float .f32 0)) 3 (.float .f32 0)) 11 a0) 12 v12x1) 4 v12x1) 5 (.float .f32 0)) 6 (.float .f32 0)) 13 a0) 14 v14x8) 15 (.int .i64 0)) H2
def O.impl_speeds : Nat → Nat × List Nat := fun i => (0, [])
theorem R.impl_speeds {a0 : Value} {H : Hp} {K : Value → Hp → Prop} (h : F.impl_speeds a0 H K) : HT prg I.impl_speeds [a0].toArray H K :=
  HT_of_fev O.impl_speeds mixed Try.func57 (by kernel_rfl) (Eq.mpr (by kernel_rfl : fev prg O.impl_speeds Try.f57 [a0] H K = F.impl_speeds a0 H K) h)

/-! loop.example/g01381/impl.CellOfFlow: function 20 -/
def F.impl_CellOfFlow (a0 a1 a2 : Value) (H : Hp) (K : Value → Hp → Prop) : Prop :=
  nw (a0 : Value).cells 28 H fun v3x1 H2 =>
  ob (vLoadN 4 v3x1 H2) fun v14x3 =>
  HT prg I.impl_ValidFlow [v14x3].toArray H2 fun v15x4 H5 =>
  ob (vUn .not v15x4) fun v16x6 =>
  gop v16x6 false (fun K7 => K7 a1 H5) H5 fun v18x8 H9 =>
  gop v16x6 false (fun K10 => ob (vFa 0 v3x1) fun u => K10 u H9) H9 fun v19x11 H12 =>
  gop v16x6 false (fun K13 => ob (vLoad v19x11 H12) fun u => K13 u H12) H12 fun v20x14 H15 =>
  gop v16x6 false (fun K16 => ob (vInt .sub v20x14 (.int .i64 1)) fun u => K16 u H15) H15 fun v21x17 H18 =>
  gop v16x6 false (fun K19 => HT prg I.impl_within [v18x8, (.int .i64 0), v21x17].toArray H18 K19) H18 fun v22x20 H21 =>
  gop v16x6 false (fun K22 => ob (vUn .not v22x20) fun u => K22 u H21) H21 fun v23x23 H24 =>
  ob (vPick v16x6 (.bool true) v23x23) fun v24x25 =>
  gop v24x25 false (fun K26 => K26 a2 H24) H24 fun v26x27 H28 =>
  gop v24x25 false (fun K29 => ob (vFa 1 v3x1) fun u => K29 u H28) H28 fun v27x30 H31 =>
  gop v24x25 false (fun K32 => ob (vLoad v27x30 H31) fun u => K32 u H31) H31 fun v28x33 H34 =>
  gop v24x25 false (fun K35 => ob (vInt .sub v28x33 (.int .i64 1)) fun u => K35 u H34) H34 fun v29x36 H37 =>
  gop v24x25 false (fun K38 => HT prg I.impl_within [v26x27, (.int .i64 0), v29x36].toArray H37 K38) H37 fun v30x39 H40 =>
  gop v24x25 false (fun K41 => ob (vUn .not v30x39) fun u => K41 u H40) H40 fun v31x42 H43 =>
  ob (vPick v24x25 (.bool true) v31x42) fun v32x44 =>
  cnd v32x44
    (K (.tuple #[(.float .f32 0), (.float .f32 0), (.float .f32 0), (.bool false)]) H43)
    (ob (vLoadN 4 v3x1 H43) fun v33x45 =>
  ob (vFa 1 v3x1) fun v35x46 =>
  ob (vLoad v35x46 H43) fun v36x47 =>
  ob (vInt .mul a1 v36x47) fun v37x48 =>
  ob (vInt .add v37x48 a2) fun v39x49 =>
  HT prg I.impl_Flow_cell [v33x45, v39x49].toArray H43 fun v40x50 H51 =>
  HT prg I.impl_massOf [v40x50].toArray H51 fun v42x52 H53 =>
  HT prg I.impl_speeds [v40x50].toArray H53 fun v45x54 H55 =>
  ob (vExt v45x54 0) fun v46x56 =>
  ob (vExt v45x54 1) fun v47x57 =>
  ob (vFcmp .gtr v42x52 (.float .f32 0)) fun v49x58 =>
  ob (vUn .not v49x58) fun v50x59 =>
  gop v50x59 false (fun K60 => K60 v42x52 H55) H55 fun v52x61 H62 =>
  gop v50x59 false (fun K63 => K63 v46x56 H62) H62 fun v53x64 H65 =>
  gop v50x59 false (fun K66 => K66 v47x57 H65) H65 fun v54x67 H68 =>
  gop v50x59 false (fun K69 => bS 1 3 #[(.float .f32 0)] 33 [(0, v52x61), (1, v53x64), (2, v54x67)] H68 K69) H68 fun v55x70 H71 =>
  gop v50x59 false (fun K72 => HT prg I.impl_areFinite [v55x70].toArray H71 K72) H71 fun v56x73 H74 =>
  gop v50x59 false (fun K75 => ob (vUn .not v56x73) fun u => K75 u H74) H74 fun v57x76 H77 =>
  ob (vPick v50x59 (.bool true) v57x76) fun v58x78 =>
  cnd v58x78
    (K (.tuple #[(.float .f32 0), (.float .f32 0), (.float .f32 0), (.bool false)]) H77)
    (K (.tuple #[v42x52, v46x56, v47x57, (.bool true)]) H77))
def O.impl_CellOfFlow : Nat → Nat × List Nat := fun i => (0, [])
theorem R.impl_CellOfFlow {a0 a1 a2 : Value} {H : Hp} {K : Value → Hp → Prop} (h : F.impl_CellOfFlow a0 a1 a2 H K) : HT prg I.impl_CellOfFlow [a0, a1, a2].toArray H K :=
  HT_of_fev O.impl_CellOfFlow mixed Try.func20 (by kernel_rfl) (Eq.mpr (by kernel_rfl : fev prg O.impl_CellOfFlow Try.f20 [a0, a1, a2] H K = F.impl_CellOfFlow a0 a1 a2 H K) h)

/-! loop.example/g01381/laws.FnExactCellOfFlow: function 6 -/
def F.laws_FnExactCellOfFlow (a0 a1 a2 : Value) (H : Hp) (K : Value → Hp → Prop) : Prop :=
  nw (a0 : Value).cells 25 H fun v3x1 H2 =>
  ob (vLoadN 4 v3x1 H2) fun v17x3 =>
  HT prg I.laws_szFlow [v17x3, (.int .i64 1048576)].toArray H2 fun v19x4 H5 =>
  ob (vInt .lss v19x4 (.int .i64 0)) fun v21x6 =>
  cnd v21x6
    (K (.bool true) H5)
    (ob (vLoadN 4 v3x1 H5) fun v23x7 =>
  HT prg I.laws_toFlow [v23x7].toArray H5 fun v24x8 H9 =>
  HT prg I.spec_CellOfFlow [v24x8, a1, a2].toArray H9 fun v27x10 H11 =>
  ob (vExt v27x10 0) fun v28x12 =>
  ob (vExt v27x10 1) fun v29x13 =>
  ob (vExt v27x10 2) fun v30x14 =>
  ob (vExt v27x10 3) fun v31x15 =>
  ob (vLoadN 4 v3x1 H11) fun v32x16 =>
  HT prg I.laws_toFlow [v32x16].toArray H11 fun v33x17 H18 =>
  nw #[(.int .i64 0), (.int .i64 0), (.slice none 0 0), (.slice none 0 0)] 28 H18 fun v12x19 H20 =>
  st 4 v12x19 v33x17 H20 fun H21 =>
  ob (vLoadN 4 v12x19 H21) fun v35x22 =>
  HT prg I.impl_CellOfFlow [v35x22, a1, a2].toArray H21 fun v38x23 H24 =>
  ob (vExt v38x23 0) fun v39x25 =>
  ob (vExt v38x23 1) fun v40x26 =>
  ob (vExt v38x23 2) fun v41x27 =>
  ob (vExt v38x23 3) fun v42x28 =>
  fC .f64 v39x25 H24 fun v44x29 H30 =>
  fC .f64 v28x12 H30 fun v46x31 H32 =>
  HT prg I.laws_sameFloat [v44x29, v46x31].toArray H32 fun v47x33 H34 =>
  ob (vUn .not v47x33) fun v48x35 =>
  gop v48x35 false (fun K36 => K36 v40x26 H34) H34 fun v50x37 H38 =>
  gop v48x35 false (fun K39 => fC .f64 v50x37 H38 K39) H38 fun v51x40 H41 =>
  gop v48x35 false (fun K42 => K42 v29x13 H41) H41 fun v52x43 H44 =>
  gop v48x35 false (fun K45 => fC .f64 v52x43 H44 K45) H44 fun v53x46 H47 =>
  gop v48x35 false (fun K48 => HT prg I.laws_sameFloat [v51x40, v53x46].toArray H47 K48) H47 fun v54x49 H50 =>
  gop v48x35 false (fun K51 => ob (vUn .not v54x49) fun u => K51 u H50) H50 fun v55x52 H53 =>
  ob (vPick v48x35 (.bool true) v55x52) fun v56x54 =>
  gop v56x54 false (fun K55 => K55 v41x27 H53) H53 fun v58x56 H57 =>
  gop v56x54 false (fun K58 => fC .f64 v58x56 H57 K58) H57 fun v59x59 H60 =>
  gop v56x54 false (fun K61 => K61 v30x14 H60) H60 fun v60x62 H63 =>
  gop v56x54 false (fun K64 => fC .f64 v60x62 H63 K64) H63 fun v61x65 H66 =>
  gop v56x54 false (fun K67 => HT prg I.laws_sameFloat [v59x59, v61x65].toArray H66 K67) H66 fun v62x68 H69 =>
  gop v56x54 false (fun K70 => ob (vUn .not v62x68) fun u => K70 u H69) H69 fun v63x71 H72 =>
  ob (vPick v56x54 (.bool true) v63x71) fun v64x73 =>
  gop v64x73 false (fun K74 => K74 v42x28 H72) H72 fun v66x75 H76 =>
  gop v64x73 false (fun K77 => K77 v31x15 H76) H76 fun v67x78 H79 =>
  gop v64x73 false (fun K80 => ob (vBool .neq v66x75 v67x78) fun u => K80 u H79) H79 fun v68x81 H82 =>
  ob (vPick v64x73 (.bool true) v68x81) fun v69x83 =>
  cnd v69x83
    (K (.bool false) H82)
    (ob (vLoadN 4 v12x19 H82) fun v70x84 =>
  ob (vLoadN 4 v3x1 H82) fun v71x85 =>
  HT prg I.laws_toFlow [v71x85].toArray H82 fun v72x86 H87 =>
  Le H82 H87 ∧ (HT prg I.laws_eqFlow [v70x84, v72x86].toArray H87 fun v73x88 H89 =>
  Le H87 H89 ∧ (ob (vUn .not v73x88) fun v74x90 =>
  cnd v74x90
    (K (.bool false) H89)
    (K (.bool true) H89)))))
def O.laws_FnExactCellOfFlow : Nat → Nat × List Nat := fun i => bif Nat.beq i 10 then (0, [0, 1, 2, 3, 4]) else (0, [])
theorem R.laws_FnExactCellOfFlow {a0 a1 a2 : Value} {H : Hp} {K : Value → Hp → Prop} (h : F.laws_FnExactCellOfFlow a0 a1 a2 H K) : HT prg I.laws_FnExactCellOfFlow [a0, a1, a2].toArray H K :=
  HT_of_fev O.laws_FnExactCellOfFlow mixed Try.func6 (by kernel_rfl) (Eq.mpr (by kernel_rfl : fev prg O.laws_FnExactCellOfFlow Try.f6 [a0, a1, a2] H K = F.laws_FnExactCellOfFlow a0 a1 a2 H K) h)

/-! loop.example/g01381/spec.l06Calm: function 59 -/
def F.spec_l06Calm (a0 a1 a2 : Value) (H : Hp) (K : Value → Hp → Prop) : Prop :=
  bS 1 0 #[(.float .f32 0)] 33 [] H fun v16x1 H2 =>
  jn (fun σ3 H3 =>
    K (σ3 7) H3) fun J3 =>
  lpE (fun Q4 σ4 H4 =>
    ob (vInt .lss (σ4 8) (.int .i64 9)) fun v18x5 =>
    cnd v18x5
      (HT prg I.spec_l06Part [(σ4 8)].toArray H4 fun v23x6 H7 =>
    ob (vExt v23x6 0) fun v24x8 =>
    ob (vExt v23x6 1) fun v25x9 =>
    jn (fun σ10 H10 =>
      jn (fun σ11 H11 =>
        ob (vCF .f32 (σ11 9)) fun v31x12 =>
        fA .mul v31x12 (σ11 1) H11 fun v33x13 H14 =>
        ob (vCF .f32 (σ11 10)) fun v35x15 =>
        fA .mul v35x15 (σ11 2) H14 fun v37x16 H17 =>
        fA .add v33x13 v37x16 H17 fun v38x18 H19 =>
        fA .mul (.float .f32 1083179008) v38x18 H19 fun v40x20 H21 =>
        fA .mul v40x20 v38x18 H21 fun v42x22 H23 =>
        fA .mul (σ11 1) (σ11 1) H23 fun v45x24 H25 =>
        fA .mul (σ11 2) (σ11 2) H25 fun v48x26 H27 =>
        fA .add v45x24 v48x26 H27 fun v49x28 H29 =>
        fA .mul (.float .f32 1077936128) v38x18 H29 fun v51x30 H31 =>
        fA .add (.float .f32 1065353216) v51x30 H31 fun v52x32 H33 =>
        fA .add v52x32 v42x22 H33 fun v54x34 H35 =>
        fA .mul (.float .f32 1069547520) v49x28 H35 fun v56x36 H37 =>
        fA .sub v54x34 v56x36 H37 fun v57x38 H39 =>
        fA .mul (σ11 11) (σ11 0) H39 fun v61x40 H41 =>
        fA .mul v61x40 v57x38 H41 fun v63x42 H43 =>
        bS 1 1 #[(.float .f32 0)] 33 [(0, v63x42)] H43 fun v64x44 H45 =>
        apd 1 4 #[(.float .f32 0)] 33 (σ11 7) v64x44 H45 fun v65x46 H47 =>
        ob (vInt .add (σ11 8) (.int .i64 1)) fun v20x48 =>
    Q4 .normal (up (up (up (up (up (up (up (up (up (up (up (up (up (up (up (up (up (up (up (up (up (up (up (up (up (up (up (up (up (up (up (up (up (up (up (up (up (up (up (up (up (up (up (up σ11 30 (σ11 9)) 31 v31x12) 32 (σ11 1)) 33 v33x13) 34 (σ11 10)) 35 v35x15) 36 (σ11 2)) 37 v37x16) 38 v38x18) 12 v38x18) 39 v38x18) 40 v40x20) 41 v38x18) 42 v42x22) 13 v42x22) 43 (σ11 1)) 44 (σ11 1)) 45 v45x24) 46 (σ11 2)) 47 (σ11 2)) 48 v48x26) 49 v49x28) 14 v49x28) 50 v38x18) 51 v51x30) 52 v52x32) 53 v42x22) 54 v54x34) 55 v49x28) 56 v56x36) 57 v57x38) 15 v57x38) 58 (σ11 7)) 59 (σ11 11)) 60 (σ11 0)) 61 v61x40) 62 v57x38) 63 v63x42) 64 v64x44) 65 v65x46) 7 v65x46) 19 (σ11 8)) 20 v20x48) 8 v20x48) H47) fun J11 =>
      ob (vInt .gtr (σ10 8) (.int .i64 4)) fun v29x49 =>
      cnd v29x49
        (J11 (up (up (up σ10 28 (σ10 8)) 29 v29x49) 11 (.float .f32 1021546041)) H10)
        (J11 (up (up σ10 28 (σ10 8)) 29 v29x49) H10)) fun J10 =>
    ob (vInt .gtr (σ4 8) (.int .i64 0)) fun v27x50 =>
    cnd v27x50
      (J10 (up (up (up (up (up (up (up (up (up (up (up (up (up σ4 17 (σ4 8)) 18 v18x5) 22 (σ4 8)) 23 v23x6) 21 v23x6) 24 v24x8) 25 v25x9) 9 v24x8) 10 v25x9) 11 (.float .f32 1055100473)) 26 (σ4 8)) 27 v27x50) 11 (.float .f32 1038323257)) H7)
      (J10 (up (up (up (up (up (up (up (up (up (up (up (up σ4 17 (σ4 8)) 18 v18x5) 22 (σ4 8)) 23 v23x6) 21 v23x6) 24 v24x8) 25 v25x9) 9 v24x8) 10 v25x9) 11 (.float .f32 1055100473)) 26 (σ4 8)) 27 v27x50) H7))
      (Q4 (.exit 0) (up (up σ4 17 (σ4 8)) 18 v18x5) H4)) (blkQ 0 (thenQ J3 (retQ prg [(.tmp 6)] K))) (up (up (up (up (S0 [a0, a1, a2]) 6 (.slice none 0 0)) 16 v16x1) 7 v16x1) 8 (.int .i64 0)) H2
def O.spec_l06Calm : Nat → Nat × List Nat := fun i => (0, [])
theorem R.spec_l06Calm {a0 a1 a2 : Value} {H : Hp} {K : Value → Hp → Prop} (h : F.spec_l06Calm a0 a1 a2 H K) : HT prg I.spec_l06Calm [a0, a1, a2].toArray H K :=
  HT_of_fev O.spec_l06Calm mixed Try.func59 (by kernel_rfl) (Eq.mpr (by kernel_rfl : fev prg O.spec_l06Calm Try.f59 [a0, a1, a2] H K = F.spec_l06Calm a0 a1 a2 H K) h)

/-! loop.example/g01381/spec.l06GiveFlow: function 60 -/
def F.spec_l06GiveFlow (a0 : Value) (H : Hp) (K : Value → Hp → Prop) : Prop :=
  nw (a0 : Value).cells 28 H fun v1x1 H2 =>
  nw #[(.int .i64 0), (.int .i64 0), (.slice none 0 0), (.slice none 0 0)] 28 H2 fun v2x3 H4 =>
  HT prg I.spec_l06Flow [v1x1].toArray H4 fun v4x5 H6 =>
  ob (vUn .not v4x5) fun v5x7 =>
  cnd v5x7
    (ob (vBuild [(0, 1), (1, 1), (2, 1), (3, 1)] (.agg #[(.int .i64 0), (.int .i64 0), (.slice none 0 0), (.slice none 0 0)]) []) fun v6x8 =>
    st 4 v2x3 v6x8 H6 fun H9 =>
    ob (vLoadN 4 v2x3 H9) fun u10 => K (.tuple #[u10, (.bool false)]) H9)
    (ob (vLoadN 4 v1x1 H6) fun v7x11 =>
  st 4 v2x3 v7x11 H6 fun H12 =>
  ob (vLoadN 4 v2x3 H12) fun u13 => K (.tuple #[u13, (.bool true)]) H12)
def O.spec_l06GiveFlow : Nat → Nat × List Nat := fun i => (0, [])
theorem R.spec_l06GiveFlow {a0 : Value} {H : Hp} {K : Value → Hp → Prop} (h : F.spec_l06GiveFlow a0 H K) : HT prg I.spec_l06GiveFlow [a0].toArray H K :=
  HT_of_fev O.spec_l06GiveFlow mixed Try.func60 (by kernel_rfl) (Eq.mpr (by kernel_rfl : fev prg O.spec_l06GiveFlow Try.f60 [a0] H K = F.spec_l06GiveFlow a0 H K) h)

/-! loop.example/g01381/spec.EvenFlow: function 21 -/
def F.spec_EvenFlow (a0 a1 a2 a3 a4 : Value) (H : Hp) (K : Value → Hp → Prop) : Prop :=
  nw #[(.int .i64 0), (.int .i64 0), (.slice none 0 0), (.slice none 0 0)] 28 H fun v10x1 H2 =>
  HT prg I.spec_l06Sides [a0, a1].toArray H2 fun v17x3 H4 =>
  ob (vUn .not v17x3) fun v18x5 =>
  gop v18x5 false (fun K6 => K6 a2 H4) H4 fun v20x7 H8 =>
  gop v18x5 false (fun K9 => HT prg I.spec_l01Finite [v20x7].toArray H8 K9) H8 fun v21x10 H11 =>
  gop v18x5 false (fun K12 => ob (vUn .not v21x10) fun u => K12 u H11) H11 fun v22x13 H14 =>
  ob (vPick v18x5 (.bool true) v22x13) fun v23x15 =>
  gop v23x15 false (fun K16 => K16 a3 H14) H14 fun v25x17 H18 =>
  gop v23x15 false (fun K19 => HT prg I.spec_l01Finite [v25x17].toArray H18 K19) H18 fun v26x20 H21 =>
  gop v23x15 false (fun K22 => ob (vUn .not v26x20) fun u => K22 u H21) H21 fun v27x23 H24 =>
  ob (vPick v23x15 (.bool true) v27x23) fun v28x25 =>
  gop v28x25 false (fun K26 => K26 a4 H24) H24 fun v30x27 H28 =>
  gop v28x25 false (fun K29 => HT prg I.spec_l01Finite [v30x27].toArray H28 K29) H28 fun v31x30 H31 =>
  gop v28x25 false (fun K32 => ob (vUn .not v31x30) fun u => K32 u H31) H31 fun v32x33 H34 =>
  ob (vPick v28x25 (.bool true) v32x33) fun v33x35 =>
  cnd v33x35
    (ob (vBuild [(0, 1), (1, 1), (2, 1), (3, 1)] (.agg #[(.int .i64 0), (.int .i64 0), (.slice none 0 0), (.slice none 0 0)]) []) fun v34x36 =>
    st 4 v10x1 v34x36 H34 fun H37 =>
    ob (vLoadN 4 v10x1 H37) fun u38 => K (.tuple #[u38, (.bool false)]) H37)
    (ob (vBuild [(0, 1), (1, 1), (2, 1), (3, 1)] (.agg #[(.int .i64 0), (.int .i64 0), (.slice none 0 0), (.slice none 0 0)]) [(0, a0), (1, a1)]) fun v37x39 =>
  nw #[(.int .i64 0), (.int .i64 0), (.slice none 0 0), (.slice none 0 0)] 28 H34 fun v12x40 H41 =>
  st 4 v12x40 v37x39 H41 fun H42 =>
  HT prg I.spec_l06Calm [a2, a3, a4].toArray H42 fun v41x43 H44 =>
  jn (fun σ45 H45 =>
    ob (vLoadN 4 (σ45 12) H45) fun v59x46 =>
    HT prg I.spec_l06GiveFlow [v59x46].toArray H45 fun v60x47 H48 =>
    ob (vExt v60x47 0) fun v61x49 =>
    ob (vExt v60x47 1) fun v62x50 =>
    st 4 (σ45 10) v61x49 H48 fun H51 =>
    ob (vLoadN 4 (σ45 10) H51) fun u52 => K (.tuple #[u52, v62x50]) H51) fun J45 =>
  lpE (fun Q53 σ53 H53 =>
    ob (vInt .mul (σ53 0) (σ53 1)) fun v45x54 =>
    ob (vInt .lss (σ53 14) v45x54) fun v46x55 =>
    cnd v46x55
      (ob (vFa 2 (σ53 12)) fun v49x56 =>
    ob (vLoad v49x56 H53) fun v50x57 =>
    apd 1 4 #[(.float .f32 0)] 33 v50x57 (σ53 13) H53 fun v52x58 H59 =>
    ob (vFa 2 (σ53 12)) fun v53x60 =>
    st 1 v53x60 v52x58 H59 fun H61 =>
    ob (vFa 3 (σ53 12)) fun v54x62 =>
    ob (vLoad v54x62 H61) fun v55x63 =>
    bS 1 1 #[(.bool false)] 4 [(0, (.bool false))] H61 fun v56x64 H65 =>
    apd 1 1 #[(.bool false)] 4 v55x63 v56x64 H65 fun v57x66 H67 =>
    ob (vFa 3 (σ53 12)) fun v58x68 =>
    st 1 v58x68 v57x66 H67 fun H69 =>
    ob (vInt .add (σ53 14) (.int .i64 1)) fun v48x70 =>
    Q53 .normal (up (up (up (up (up (up (up (up (up (up (up (up (up (up (up (up (up (up σ53 42 (σ53 14)) 43 (σ53 0)) 44 (σ53 1)) 45 v45x54) 46 v46x55) 49 v49x56) 50 v50x57) 51 (σ53 13)) 52 v52x58) 53 v53x60) 54 v54x62) 55 v55x63) 56 v56x64) 57 v57x66) 58 v58x68) 47 (σ53 14)) 48 v48x70) 14 v48x70) H69)
      (Q53 (.exit 0) (up (up (up (up (up σ53 42 (σ53 14)) 43 (σ53 0)) 44 (σ53 1)) 45 v45x54) 46 v46x55) H53)) (blkQ 0 (thenQ J45 (retQ prg [(.cell 10 28), (.tmp 11)] K))) (up (up (up (up (up (up (up (up (up (up (up (up (up (up (up (up (up (up (up (up (up (up (up (up (up (up (up (up (up (up (up (S0 [a0, a1, a2, a3, a4]) 10 v10x1) 11 (.bool false)) 15 a0) 16 a1) 17 v17x3) 18 v18x5) 19 v18x5) 20 v20x7) 21 v21x10) 22 v22x13) 23 v23x15) 24 v23x15) 25 v25x17) 26 v26x20) 27 v27x23) 28 v28x25) 29 v28x25) 30 v30x27) 31 v31x30) 32 v32x33) 33 v33x35) 35 a0) 36 a1) 37 v37x39) 12 v12x40) 38 a2) 39 a3) 40 a4) 41 v41x43) 13 v41x43) 14 (.int .i64 0)) H44)
def O.spec_EvenFlow : Nat → Nat × List Nat := fun i => (0, [])
theorem R.spec_EvenFlow {a0 a1 a2 a3 a4 : Value} {H : Hp} {K : Value → Hp → Prop} (h : F.spec_EvenFlow a0 a1 a2 a3 a4 H K) : HT prg I.spec_EvenFlow [a0, a1, a2, a3, a4].toArray H K :=
  HT_of_fev O.spec_EvenFlow mixed Try.func21 (by kernel_rfl) (Eq.mpr (by kernel_rfl : fev prg O.spec_EvenFlow Try.f21 [a0, a1, a2, a3, a4] H K = F.spec_EvenFlow a0 a1 a2 a3 a4 H K) h)

/-! loop.example/g01381/impl.weightOf: function 79 -/
def F.impl_weightOf (a0 : Value) (H : Hp) (K : Value → Hp → Prop) : Prop :=
  ob (vInt .eql a0 (.int .i64 0)) fun v5x1 =>
  cnd v5x1
    (K (.float .f32 1055100473) H)
    (ob (vInt .leq a0 (.int .i64 4)) fun v8x2 =>
    cnd v8x2
      (K (.float .f32 1038323257) H)
      (K (.float .f32 1021546041) H))
def O.impl_weightOf : Nat → Nat × List Nat := fun i => (0, [])
theorem R.impl_weightOf {a0 : Value} {H : Hp} {K : Value → Hp → Prop} (h : F.impl_weightOf a0 H K) : HT prg I.impl_weightOf [a0].toArray H K :=
  HT_of_fev O.impl_weightOf mixed Try.func79 (by kernel_rfl) (Eq.mpr (by kernel_rfl : fev prg O.impl_weightOf Try.f79 [a0] H K = F.impl_weightOf a0 H K) h)

/-! loop.example/g01381/impl.calm: function 61 -/
def F.impl_calm (a0 a1 a2 a3 : Value) (H : Hp) (K : Value → Hp → Prop) : Prop :=
  HT prg I.impl_partGoes [a0].toArray H fun v16x1 H2 =>
  ob (vExt v16x1 0) fun v17x3 =>
  ob (vExt v16x1 1) fun v18x4 =>
  ob (vCF .f32 v17x3) fun v20x5 =>
  fA .mul v20x5 a2 H2 fun v22x6 H7 =>
  ob (vCF .f32 v18x4) fun v24x8 =>
  fA .mul v24x8 a3 H7 fun v26x9 H10 =>
  fA .add v22x6 v26x9 H10 fun v27x11 H12 =>
  fA .mul (.float .f32 1077936128) v27x11 H12 fun v29x13 H14 =>
  fA .add (.float .f32 1065353216) v29x13 H14 fun v30x15 H16 =>
  fA .mul (.float .f32 1083179008) v27x11 H16 fun v32x17 H18 =>
  fA .mul v32x17 v27x11 H18 fun v34x19 H20 =>
  fA .add v30x15 v34x19 H20 fun v35x21 H22 =>
  fA .mul a2 a2 H22 fun v38x23 H24 =>
  fA .mul a3 a3 H24 fun v41x25 H26 =>
  fA .add v38x23 v41x25 H26 fun v42x27 H28 =>
  fA .mul (.float .f32 1069547520) v42x27 H28 fun v43x29 H30 =>
  HT prg I.impl_weightOf [a0].toArray H30 fun v45x31 H32 =>
  fA .mul v45x31 a1 H32 fun v47x33 H34 =>
  fA .sub v35x21 v43x29 H34 fun v50x35 H36 =>
  fA .mul v47x33 v50x35 H36 fun v51x37 H38 =>
  K v51x37 H38
def O.impl_calm : Nat → Nat × List Nat := fun i => (0, [])
theorem R.impl_calm {a0 a1 a2 a3 : Value} {H : Hp} {K : Value → Hp → Prop} (h : F.impl_calm a0 a1 a2 a3 H K) : HT prg I.impl_calm [a0, a1, a2, a3].toArray H K :=
  HT_of_fev O.impl_calm mixed Try.func61 (by kernel_rfl) (Eq.mpr (by kernel_rfl : fev prg O.impl_calm Try.f61 [a0, a1, a2, a3] H K = F.impl_calm a0 a1 a2 a3 H K) h)

/-! loop.example/g01381/impl.EvenFlow: function 22 -/
def F.impl_EvenFlow (a0 a1 a2 a3 a4 : Value) (H : Hp) (K : Value → Hp → Prop) : Prop :=
  nw #[(.int .i64 0), (.int .i64 0), (.slice none 0 0), (.slice none 0 0)] 28 H fun v10x1 H2 =>
  HT prg I.impl_areSides [a0, a1].toArray H2 fun v16x3 H4 =>
  ob (vUn .not v16x3) fun v17x5 =>
  gop v17x5 false (fun K6 => K6 a2 H4) H4 fun v19x7 H8 =>
  gop v17x5 false (fun K9 => K9 a3 H8) H8 fun v20x10 H11 =>
  gop v17x5 false (fun K12 => K12 a4 H11) H11 fun v21x13 H14 =>
  gop v17x5 false (fun K15 => bS 1 3 #[(.float .f32 0)] 33 [(0, v19x7), (1, v20x10), (2, v21x13)] H14 K15) H14 fun v22x16 H17 =>
  gop v17x5 false (fun K18 => HT prg I.impl_areFinite [v22x16].toArray H17 K18) H17 fun v23x19 H20 =>
  gop v17x5 false (fun K21 => ob (vUn .not v23x19) fun u => K21 u H20) H20 fun v24x22 H23 =>
  ob (vPick v17x5 (.bool true) v24x22) fun v25x24 =>
  cnd v25x24
    (ob (vBuild [(0, 1), (1, 1), (2, 1), (3, 1)] (.agg #[(.int .i64 0), (.int .i64 0), (.slice none 0 0), (.slice none 0 0)]) []) fun v26x25 =>
    st 4 v10x1 v26x25 H23 fun H26 =>
    ob (vLoadN 4 v10x1 H26) fun u27 => K (.tuple #[u27, (.bool false)]) H26)
    (ob (vInt .mul a0 a1) fun v31x28 =>
  mkS 1 1 #[(.bool false)] 4 v31x28 v31x28 H23 fun v32x29 H30 =>
  ob (vBuild [(0, 1), (1, 1), (2, 1), (3, 1)] (.agg #[(.int .i64 0), (.int .i64 0), (.slice none 0 0), (.slice none 0 0)]) [(0, a0), (1, a1), (3, v32x29)]) fun v33x31 =>
  nw #[(.int .i64 0), (.int .i64 0), (.slice none 0 0), (.slice none 0 0)] 28 H30 fun v12x32 H33 =>
  st 4 v12x32 v33x31 H33 fun H34 =>
  jn (fun σ35 H35 =>
    ob (vLoadN 4 (σ35 12) H35) fun v54x36 =>
    HT prg I.impl_ValidFlow [v54x36].toArray H35 fun v55x37 H38 =>
    ob (vUn .not v55x37) fun v56x39 =>
    cnd v56x39
      (ob (vBuild [(0, 1), (1, 1), (2, 1), (3, 1)] (.agg #[(.int .i64 0), (.int .i64 0), (.slice none 0 0), (.slice none 0 0)]) []) fun v57x40 =>
      st 4 (σ35 10) v57x40 H38 fun H41 =>
      ob (vLoadN 4 (σ35 10) H41) fun u42 => K (.tuple #[u42, (.bool false)]) H41)
      (ob (vLoadN 4 (σ35 12) H38) fun v58x43 =>
    st 4 (σ35 10) v58x43 H38 fun H44 =>
    ob (vLoadN 4 (σ35 10) H44) fun u45 => K (.tuple #[u45, (.bool true)]) H44)) fun J35 =>
  ob (vInt .mul a0 a1) fun v36x46 =>
  lpE (fun Q47 σ47 H47 =>
    ob (vInt .lss (σ47 37) (σ47 36)) fun v38x48 =>
    cnd v38x48
      (jn (fun σ49 H49 =>
      ob (vInt .add (σ49 37) (.int .i64 1)) fun v53x50 =>
      Q47 .normal (up (up σ49 53 v53x50) 37 v53x50) H49) fun J49 =>
    lpE (fun Q51 σ51 H51 =>
      ob (vInt .lss (σ51 39) (.int .i64 9)) fun v40x52 =>
      cnd v40x52
        (ob (vFa 2 (σ51 12)) fun v42x53 =>
      ob (vLoad v42x53 H51) fun v43x54 =>
      HT prg I.impl_calm [(σ51 39), (σ51 2), (σ51 3), (σ51 4)].toArray H51 fun v48x55 H56 =>
      Le H51 H56 ∧ (bS 1 1 #[(.float .f32 0)] 33 [(0, v48x55)] H56 fun v49x57 H58 =>
      apd 1 4 #[(.float .f32 0)] 33 v43x54 v49x57 H58 fun v50x59 H60 =>
      ob (vFa 2 (σ51 12)) fun v51x61 =>
      st 1 v51x61 v50x59 H60 fun H62 =>
      ob (vInt .add (σ51 39) (.int .i64 1)) fun v52x63 =>
      Q51 .normal (up (up (up (up (up (up (up (up (up (up (up (up (up (up (up σ51 40 v40x52) 41 (σ51 39)) 13 (σ51 39)) 42 v42x53) 43 v43x54) 44 (σ51 39)) 45 (σ51 2)) 46 (σ51 3)) 47 (σ51 4)) 48 v48x55) 49 v49x57) 50 v50x59) 51 v51x61) 52 v52x63) 39 v52x63) H62))
        (Q51 (.exit 2) (up σ51 40 v40x52) H51)) (blkQ 2 (blkQ 1 (thenQ J49 Q47))) (up (up σ47 38 v38x48) 39 (.int .i64 0)) H47)
      (Q47 (.exit 0) (up σ47 38 v38x48) H47)) (blkQ 0 (thenQ J35 (retQ prg [(.cell 10 28), (.tmp 11)] K))) (up (up (up (up (up (up (up (up (up (up (up (up (up (up (up (up (up (up (up (up (up (up (up (up (up (up (S0 [a0, a1, a2, a3, a4]) 10 v10x1) 11 (.bool false)) 14 a0) 15 a1) 16 v16x3) 17 v17x5) 18 v17x5) 19 v19x7) 20 v20x10) 21 v21x13) 22 v22x16) 23 v23x19) 24 v24x22) 25 v25x24) 27 a0) 28 a1) 29 a0) 30 a1) 31 v31x28) 32 v32x29) 33 v33x31) 12 v12x32) 34 a0) 35 a1) 36 v36x46) 37 (.int .i64 0)) H34)
def O.impl_EvenFlow : Nat → Nat × List Nat := fun i => bif Nat.beq i 9 then (0, [0, 1, 2, 3, 4, 5, 6, 7, 8, 9, 10]) else (0, [])
theorem R.impl_EvenFlow {a0 a1 a2 a3 a4 : Value} {H : Hp} {K : Value → Hp → Prop} (h : F.impl_EvenFlow a0 a1 a2 a3 a4 H K) : HT prg I.impl_EvenFlow [a0, a1, a2, a3, a4].toArray H K :=
  HT_of_fev O.impl_EvenFlow mixed Try.func22 (by kernel_rfl) (Eq.mpr (by kernel_rfl : fev prg O.impl_EvenFlow Try.f22 [a0, a1, a2, a3, a4] H K = F.impl_EvenFlow a0 a1 a2 a3 a4 H K) h)

/-! loop.example/g01381/laws.markFloat32S: function 62 -/
def F.laws_markFloat32S (a0 a1 : Value) (H : Hp) (K : Value → Hp → Prop) : Prop :=
  jn (fun σ1 H1 =>
    K (σ1 1) H1) fun J1 =>
  lpE (fun Q2 σ2 H2 =>
    ob (vLenSl (σ2 0)) fun v8x3 =>
    ob (vInt .lss (σ2 5) v8x3) fun v9x4 =>
    cnd v9x4
      (ob (vCF .f32 (σ2 1)) fun v15x5 =>
    ob (vIx 1 (σ2 0) (σ2 5)) fun v16x6 =>
    st 1 v16x6 v15x5 H2 fun H7 =>
    ob (vInt .add (σ2 1) (.int .i64 1)) fun v18x8 =>
    ob (vInt .add (σ2 5) (.int .i64 1)) fun v11x9 =>
    Q2 .normal (up (up (up (up (up (up (up (up (up (up (up (up (up (up (up σ2 6 (σ2 5)) 7 (σ2 0)) 8 v8x3) 9 v9x4) 12 (σ2 0)) 13 (σ2 5)) 14 (σ2 1)) 15 v15x5) 16 v16x6) 17 (σ2 1)) 18 v18x8) 1 v18x8) 10 (σ2 5)) 11 v11x9) 5 v11x9) H7)
      (Q2 (.exit 0) (up (up (up (up σ2 6 (σ2 5)) 7 (σ2 0)) 8 v8x3) 9 v9x4) H2)) (blkQ 0 (thenQ J1 (retQ prg [(.tmp 4)] K))) (up (up (S0 [a0, a1]) 4 (.int .i64 0)) 5 (.int .i64 0)) H
def O.laws_markFloat32S : Nat → Nat × List Nat := fun i => (0, [])
theorem R.laws_markFloat32S {a0 a1 : Value} {H : Hp} {K : Value → Hp → Prop} (h : F.laws_markFloat32S a0 a1 H K) : HT prg I.laws_markFloat32S [a0, a1].toArray H K :=
  HT_of_fev O.laws_markFloat32S mixed Try.func62 (by kernel_rfl) (Eq.mpr (by kernel_rfl : fev prg O.laws_markFloat32S Try.f62 [a0, a1] H K = F.laws_markFloat32S a0 a1 H K) h)

/-! loop.example/g01381/laws.markBoolS: function 63 -/
def F.laws_markBoolS (a0 a1 : Value) (H : Hp) (K : Value → Hp → Prop) : Prop :=
  jn (fun σ1 H1 =>
    K (σ1 1) H1) fun J1 =>
  lpE (fun Q2 σ2 H2 =>
    ob (vLenSl (σ2 0)) fun v8x3 =>
    ob (vInt .lss (σ2 5) v8x3) fun v9x4 =>
    cnd v9x4
      (ob (vInt .rem (σ2 1) (.int .i64 3)) fun v15x5 =>
    ob (vInt .eql v15x5 (.int .i64 0)) fun v16x6 =>
    ob (vIx 1 (σ2 0) (σ2 5)) fun v17x7 =>
    st 1 v17x7 v16x6 H2 fun H8 =>
    ob (vInt .add (σ2 1) (.int .i64 1)) fun v19x9 =>
    ob (vInt .add (σ2 5) (.int .i64 1)) fun v11x10 =>
    Q2 .normal (up (up (up (up (up (up (up (up (up (up (up (up (up (up (up (up σ2 6 (σ2 5)) 7 (σ2 0)) 8 v8x3) 9 v9x4) 12 (σ2 0)) 13 (σ2 5)) 14 (σ2 1)) 15 v15x5) 16 v16x6) 17 v17x7) 18 (σ2 1)) 19 v19x9) 1 v19x9) 10 (σ2 5)) 11 v11x10) 5 v11x10) H8)
      (Q2 (.exit 0) (up (up (up (up σ2 6 (σ2 5)) 7 (σ2 0)) 8 v8x3) 9 v9x4) H2)) (blkQ 0 (thenQ J1 (retQ prg [(.tmp 4)] K))) (up (up (S0 [a0, a1]) 4 (.int .i64 0)) 5 (.int .i64 0)) H
def O.laws_markBoolS : Nat → Nat × List Nat := fun i => (0, [])
theorem R.laws_markBoolS {a0 a1 : Value} {H : Hp} {K : Value → Hp → Prop} (h : F.laws_markBoolS a0 a1 H K) : HT prg I.laws_markBoolS [a0, a1].toArray H K :=
  HT_of_fev O.laws_markBoolS mixed Try.func63 (by kernel_rfl) (Eq.mpr (by kernel_rfl : fev prg O.laws_markBoolS Try.f63 [a0, a1] H K = F.laws_markBoolS a0 a1 H K) h)

/-! loop.example/g01381/laws.markFlow: function 23 -/
def F.laws_markFlow (a0 a1 : Value) (H : Hp) (K : Value → Hp → Prop) : Prop :=
  nw (a0 : Value).cells 28 H fun v2x1 H2 =>
  ob (vFa 2 v2x1) fun v5x3 =>
  ob (vLoad v5x3 H2) fun v6x4 =>
  HT prg I.laws_markFloat32S [v6x4, a1].toArray H2 fun v8x5 H6 =>
  ob (vFa 3 v2x1) fun v9x7 =>
  ob (vLoad v9x7 H6) fun v10x8 =>
  HT prg I.laws_markBoolS [v10x8, v8x5].toArray H6 fun v12x9 H10 =>
  K v12x9 H10
def O.laws_markFlow : Nat → Nat × List Nat := fun i => (0, [])
theorem R.laws_markFlow {a0 a1 : Value} {H : Hp} {K : Value → Hp → Prop} (h : F.laws_markFlow a0 a1 H K) : HT prg I.laws_markFlow [a0, a1].toArray H K :=
  HT_of_fev O.laws_markFlow mixed Try.func23 (by kernel_rfl) (Eq.mpr (by kernel_rfl : fev prg O.laws_markFlow Try.f23 [a0, a1] H K = F.laws_markFlow a0 a1 H K) h)

/-! loop.example/g01381/laws.heldFloat32S: function 64 -/
def F.laws_heldFloat32S (a0 a1 : Value) (H : Hp) (K : Value → Hp → Prop) : Prop :=
  jn (fun σ1 H1 =>
    K (σ1 1) H1) fun J1 =>
  lpE (fun Q2 σ2 H2 =>
    ob (vLenSl (σ2 0)) fun v8x3 =>
    ob (vInt .lss (σ2 5) v8x3) fun v9x4 =>
    cnd v9x4
      (ob (vIx 1 (σ2 0) (σ2 5)) fun v14x5 =>
    ob (vLoad v14x5 H2) fun v15x6 =>
    ob (vCF .f32 (σ2 1)) fun v17x7 =>
    ob (vFcmp .neq v15x6 v17x7) fun v18x8 =>
    cnd v18x8
      (Q2 .ret (up (up (up (up (up (up (up (up (up (up (up (up σ2 6 (σ2 5)) 7 (σ2 0)) 8 v8x3) 9 v9x4) 12 (σ2 0)) 13 (σ2 5)) 14 v14x5) 15 v15x6) 16 (σ2 1)) 17 v17x7) 18 v18x8) 4 (.int .i64 (-1))) H2)
      (ob (vInt .add (σ2 1) (.int .i64 1)) fun v20x9 =>
    ob (vInt .add (σ2 5) (.int .i64 1)) fun v11x10 =>
    Q2 .normal (up (up (up (up (up (up (up (up (up (up (up (up (up (up (up (up (up σ2 6 (σ2 5)) 7 (σ2 0)) 8 v8x3) 9 v9x4) 12 (σ2 0)) 13 (σ2 5)) 14 v14x5) 15 v15x6) 16 (σ2 1)) 17 v17x7) 18 v18x8) 19 (σ2 1)) 20 v20x9) 1 v20x9) 10 (σ2 5)) 11 v11x10) 5 v11x10) H2))
      (Q2 (.exit 0) (up (up (up (up σ2 6 (σ2 5)) 7 (σ2 0)) 8 v8x3) 9 v9x4) H2)) (blkQ 0 (thenQ J1 (retQ prg [(.tmp 4)] K))) (up (up (S0 [a0, a1]) 4 (.int .i64 0)) 5 (.int .i64 0)) H
def O.laws_heldFloat32S : Nat → Nat × List Nat := fun i => (0, [])
theorem R.laws_heldFloat32S {a0 a1 : Value} {H : Hp} {K : Value → Hp → Prop} (h : F.laws_heldFloat32S a0 a1 H K) : HT prg I.laws_heldFloat32S [a0, a1].toArray H K :=
  HT_of_fev O.laws_heldFloat32S mixed Try.func64 (by kernel_rfl) (Eq.mpr (by kernel_rfl : fev prg O.laws_heldFloat32S Try.f64 [a0, a1] H K = F.laws_heldFloat32S a0 a1 H K) h)

/-! loop.example/g01381/laws.heldBoolS: function 65 -/
def F.laws_heldBoolS (a0 a1 : Value) (H : Hp) (K : Value → Hp → Prop) : Prop :=
  jn (fun σ1 H1 =>
    K (σ1 1) H1) fun J1 =>
  lpE (fun Q2 σ2 H2 =>
    ob (vLenSl (σ2 0)) fun v8x3 =>
    ob (vInt .lss (σ2 5) v8x3) fun v9x4 =>
    cnd v9x4
      (ob (vIx 1 (σ2 0) (σ2 5)) fun v14x5 =>
    ob (vLoad v14x5 H2) fun v15x6 =>
    ob (vInt .rem (σ2 1) (.int .i64 3)) fun v17x7 =>
    ob (vInt .eql v17x7 (.int .i64 0)) fun v18x8 =>
    ob (vBool .neq v15x6 v18x8) fun v19x9 =>
    cnd v19x9
      (Q2 .ret (up (up (up (up (up (up (up (up (up (up (up (up (up σ2 6 (σ2 5)) 7 (σ2 0)) 8 v8x3) 9 v9x4) 12 (σ2 0)) 13 (σ2 5)) 14 v14x5) 15 v15x6) 16 (σ2 1)) 17 v17x7) 18 v18x8) 19 v19x9) 4 (.int .i64 (-1))) H2)
      (ob (vInt .add (σ2 1) (.int .i64 1)) fun v21x10 =>
    ob (vInt .add (σ2 5) (.int .i64 1)) fun v11x11 =>
    Q2 .normal (up (up (up (up (up (up (up (up (up (up (up (up (up (up (up (up (up (up σ2 6 (σ2 5)) 7 (σ2 0)) 8 v8x3) 9 v9x4) 12 (σ2 0)) 13 (σ2 5)) 14 v14x5) 15 v15x6) 16 (σ2 1)) 17 v17x7) 18 v18x8) 19 v19x9) 20 (σ2 1)) 21 v21x10) 1 v21x10) 10 (σ2 5)) 11 v11x11) 5 v11x11) H2))
      (Q2 (.exit 0) (up (up (up (up σ2 6 (σ2 5)) 7 (σ2 0)) 8 v8x3) 9 v9x4) H2)) (blkQ 0 (thenQ J1 (retQ prg [(.tmp 4)] K))) (up (up (S0 [a0, a1]) 4 (.int .i64 0)) 5 (.int .i64 0)) H
def O.laws_heldBoolS : Nat → Nat × List Nat := fun i => (0, [])
theorem R.laws_heldBoolS {a0 a1 : Value} {H : Hp} {K : Value → Hp → Prop} (h : F.laws_heldBoolS a0 a1 H K) : HT prg I.laws_heldBoolS [a0, a1].toArray H K :=
  HT_of_fev O.laws_heldBoolS mixed Try.func65 (by kernel_rfl) (Eq.mpr (by kernel_rfl : fev prg O.laws_heldBoolS Try.f65 [a0, a1] H K = F.laws_heldBoolS a0 a1 H K) h)

/-! loop.example/g01381/laws.heldFlow: function 24 -/
def F.laws_heldFlow (a0 a1 : Value) (H : Hp) (K : Value → Hp → Prop) : Prop :=
  nw (a0 : Value).cells 28 H fun v2x1 H2 =>
  ob (vFa 2 v2x1) fun v5x3 =>
  ob (vLoad v5x3 H2) fun v6x4 =>
  HT prg I.laws_heldFloat32S [v6x4, a1].toArray H2 fun v8x5 H6 =>
  ob (vInt .lss v8x5 (.int .i64 0)) fun v10x7 =>
  cnd v10x7
    (K (.int .i64 (-1)) H6)
    (ob (vFa 3 v2x1) fun v11x8 =>
  ob (vLoad v11x8 H6) fun v12x9 =>
  HT prg I.laws_heldBoolS [v12x9, v8x5].toArray H6 fun v14x10 H11 =>
  ob (vInt .lss v14x10 (.int .i64 0)) fun v16x12 =>
  cnd v16x12
    (K (.int .i64 (-1)) H11)
    (K v14x10 H11))
def O.laws_heldFlow : Nat → Nat × List Nat := fun i => (0, [])
theorem R.laws_heldFlow {a0 a1 : Value} {H : Hp} {K : Value → Hp → Prop} (h : F.laws_heldFlow a0 a1 H K) : HT prg I.laws_heldFlow [a0, a1].toArray H K :=
  HT_of_fev O.laws_heldFlow mixed Try.func24 (by kernel_rfl) (Eq.mpr (by kernel_rfl : fev prg O.laws_heldFlow Try.f24 [a0, a1] H K = F.laws_heldFlow a0 a1 H K) h)

/-! loop.example/g01381/laws.FnExactEvenFlow: function 7 -/
def F.laws_FnExactEvenFlow (a0 a1 a2 a3 a4 : Value) (H : Hp) (K : Value → Hp → Prop) : Prop :=
  HT prg I.spec_EvenFlow [a0, a1, a2, a3, a4].toArray H fun v25x1 H2 =>
  ob (vExt v25x1 0) fun v26x3 =>
  ob (vExt v25x1 1) fun v27x4 =>
  nw #[(.int .i64 0), (.int .i64 0), (.slice none 0 0), (.slice none 0 0)] 28 H2 fun v11x5 H6 =>
  st 4 v11x5 v26x3 H6 fun H7 =>
  HT prg I.impl_EvenFlow [a0, a1, a2, a3, a4].toArray H7 fun v34x8 H9 =>
  ob (vExt v34x8 0) fun v35x10 =>
  ob (vExt v34x8 1) fun v36x11 =>
  nw #[(.int .i64 0), (.int .i64 0), (.slice none 0 0), (.slice none 0 0)] 28 H9 fun v13x12 H13 =>
  st 4 v13x12 v35x10 H13 fun H14 =>
  ob (vLoadN 4 v13x12 H14) fun v37x15 =>
  ob (vLoadN 4 v11x5 H14) fun v38x16 =>
  HT prg I.laws_eqFlow [v37x15, v38x16].toArray H14 fun v39x17 H18 =>
  ob (vUn .not v39x17) fun v40x19 =>
  gop v40x19 false (fun K20 => K20 v36x11 H18) H18 fun v42x21 H22 =>
  gop v40x19 false (fun K23 => K23 v27x4 H22) H22 fun v43x24 H25 =>
  gop v40x19 false (fun K26 => ob (vBool .neq v42x21 v43x24) fun u => K26 u H25) H25 fun v44x27 H28 =>
  ob (vPick v40x19 (.bool true) v44x27) fun v45x29 =>
  cnd v45x29
    (K (.bool false) H28)
    (ob (vLoadN 4 v13x12 H28) fun v46x30 =>
  HT prg I.laws_markFlow [v46x30, (.int .i64 1)].toArray H28 fun v48x31 H32 =>
  ob (vLoadN 4 v13x12 H32) fun v49x33 =>
  HT prg I.laws_heldFlow [v49x33, (.int .i64 1)].toArray H32 fun v51x34 H35 =>
  ob (vInt .lss v51x34 (.int .i64 0)) fun v53x36 =>
  cnd v53x36
    (K (.bool false) H35)
    (ob (vInt .neq v51x34 v48x31) fun v56x37 =>
  cnd v56x37
    (K (.bool false) H35)
    (HT prg I.impl_EvenFlow [a0, a1, a2, a3, a4].toArray H35 fun v63x38 H39 =>
  ob (vExt v63x38 0) fun v64x40 =>
  ob (vExt v63x38 1) fun v65x41 =>
  nw #[(.int .i64 0), (.int .i64 0), (.slice none 0 0), (.slice none 0 0)] 28 H39 fun v17x42 H43 =>
  st 4 v17x42 v64x40 H43 fun H44 =>
  ob (vLoadN 4 v17x42 H44) fun v66x45 =>
  ob (vLoadN 4 v11x5 H44) fun v67x46 =>
  HT prg I.laws_eqFlow [v66x45, v67x46].toArray H44 fun v68x47 H48 =>
  ob (vUn .not v68x47) fun v69x49 =>
  gop v69x49 false (fun K50 => K50 v65x41 H48) H48 fun v71x51 H52 =>
  gop v69x49 false (fun K53 => K53 v27x4 H52) H52 fun v72x54 H55 =>
  gop v69x49 false (fun K56 => ob (vBool .neq v71x51 v72x54) fun u => K56 u H55) H55 fun v73x57 H58 =>
  ob (vPick v69x49 (.bool true) v73x57) fun v74x59 =>
  cnd v74x59
    (K (.bool false) H58)
    (ob (vLoadN 4 v13x12 H58) fun v75x60 =>
  HT prg I.laws_heldFlow [v75x60, (.int .i64 1)].toArray H58 fun v77x61 H62 =>
  ob (vInt .lss v77x61 (.int .i64 0)) fun v79x63 =>
  cnd v79x63
    (K (.bool false) H62)
    (ob (vInt .neq v77x61 v48x31) fun v82x64 =>
  cnd v82x64
    (K (.bool false) H62)
    (K (.bool true) H62))))))
def O.laws_FnExactEvenFlow : Nat → Nat × List Nat := fun i => (0, [])
theorem R.laws_FnExactEvenFlow {a0 a1 a2 a3 a4 : Value} {H : Hp} {K : Value → Hp → Prop} (h : F.laws_FnExactEvenFlow a0 a1 a2 a3 a4 H K) : HT prg I.laws_FnExactEvenFlow [a0, a1, a2, a3, a4].toArray H K :=
  HT_of_fev O.laws_FnExactEvenFlow mixed Try.func7 (by kernel_rfl) (Eq.mpr (by kernel_rfl : fev prg O.laws_FnExactEvenFlow Try.f7 [a0, a1, a2, a3, a4] H K = F.laws_FnExactEvenFlow a0 a1 a2 a3 a4 H K) h)

/-! loop.example/g01381/laws.r8Long: function 25 -/
def F.laws_r8Long (a0 a1 : Value) (H : Hp) (K : Value → Hp → Prop) : Prop :=
  ob (vLenSl a0) fun v6x1 =>
  ob (vInt .gtr v6x1 (.int .i64 48)) fun v7x2 =>
  gop v7x2 false (fun K3 => K3 a1 H) H fun v9x4 H5 =>
  gop v7x2 false (fun K6 => ob (vLenSl v9x4) fun u => K6 u H5) H5 fun v10x7 H8 =>
  gop v7x2 false (fun K9 => ob (vInt .gtr v10x7 (.int .i64 48)) fun u => K9 u H8) H8 fun v11x10 H11 =>
  ob (vPick v7x2 (.bool true) v11x10) fun v12x12 =>
  K v12x12 H11
def O.laws_r8Long : Nat → Nat × List Nat := fun i => (0, [])
theorem R.laws_r8Long {a0 a1 : Value} {H : Hp} {K : Value → Hp → Prop} (h : F.laws_r8Long a0 a1 H K) : HT prg I.laws_r8Long [a0, a1].toArray H K :=
  HT_of_fev O.laws_r8Long mixed Try.func25 (by kernel_rfl) (Eq.mpr (by kernel_rfl : fev prg O.laws_r8Long Try.f25 [a0, a1] H K = F.laws_r8Long a0 a1 H K) h)

/-! loop.example/g01381/laws.r8At: function 26 -/
def F.laws_r8At (a0 a1 a2 : Value) (H : Hp) (K : Value → Hp → Prop) : Prop :=
  ob (vInt .leq a2 (.int .i64 1)) fun v8x1 =>
  gop v8x1 false (fun K2 => K2 a1 H) H fun v10x3 H4 =>
  gop v8x1 false (fun K5 => K5 a0 H4) H4 fun v11x6 H7 =>
  gop v8x1 false (fun K8 => ob (vLenSl v11x6) fun u => K8 u H7) H7 fun v12x9 H10 =>
  gop v8x1 false (fun K11 => ob (vInt .geq v10x3 v12x9) fun u => K11 u H10) H10 fun v13x12 H13 =>
  ob (vPick v8x1 (.bool true) v13x12) fun v14x14 =>
  cnd v14x14
    (K (.int .i64 0) H13)
    (ob (vIx 1 a0 a1) fun v17x15 =>
  ob (vLoad v17x15 H13) fun v18x16 =>
  ob (vCI .i64 v18x16) fun v19x17 =>
  ob (vInt .rem v19x17 a2) fun v21x18 =>
  K v21x18 H13)
def O.laws_r8At : Nat → Nat × List Nat := fun i => (0, [])
theorem R.laws_r8At {a0 a1 a2 : Value} {H : Hp} {K : Value → Hp → Prop} (h : F.laws_r8At a0 a1 a2 H K) : HT prg I.laws_r8At [a0, a1, a2].toArray H K :=
  HT_of_fev O.laws_r8At mixed Try.func26 (by kernel_rfl) (Eq.mpr (by kernel_rfl : fev prg O.laws_r8At Try.f26 [a0, a1, a2] H K = F.laws_r8At a0 a1 a2 H K) h)

/-! loop.example/g01381/impl.isCalming: function 66 -/
def F.impl_isCalming (a0 : Value) (H : Hp) (K : Value → Hp → Prop) : Prop :=
  ob (vFcmp .geq a0 (.float .f32 0)) fun v4x1 =>
  gop v4x1 true (fun K2 => K2 a0 H) H fun v6x3 H4 =>
  gop v4x1 true (fun K5 => ob (vFcmp .leq v6x3 (.float .f32 1073741824)) fun u => K5 u H4) H4 fun v7x6 H7 =>
  ob (vPick v4x1 v7x6 (.bool false)) fun v8x8 =>
  K v8x8 H7
def O.impl_isCalming : Nat → Nat × List Nat := fun i => (0, [])
theorem R.impl_isCalming {a0 : Value} {H : Hp} {K : Value → Hp → Prop} (h : F.impl_isCalming a0 H K) : HT prg I.impl_isCalming [a0].toArray H K :=
  HT_of_fev O.impl_isCalming mixed Try.func66 (by kernel_rfl) (Eq.mpr (by kernel_rfl : fev prg O.impl_isCalming Try.f66 [a0] H K = F.impl_isCalming a0 H K) h)

/-! slices.Clone[[]float32,float32]: function 67 -/
def F.slices_Clone_float32Zfloat32 (a0 : Value) (H : Hp) (K : Value → Hp → Prop) : Prop :=
  ob (vSlEq .eql a0 (.slice none 0 0)) fun v4x1 =>
  cnd v4x1
    (K (.slice none 0 0) H)
    (bS 1 0 #[(.float .f32 0)] 33 [] H fun v5x2 H3 =>
  apd 1 4 #[(.float .f32 0)] 33 v5x2 a0 H3 fun v7x4 H5 =>
  K v7x4 H5)
def O.slices_Clone_float32Zfloat32 : Nat → Nat × List Nat := fun i => (0, [])
theorem R.slices_Clone_float32Zfloat32 {a0 : Value} {H : Hp} {K : Value → Hp → Prop} (h : F.slices_Clone_float32Zfloat32 a0 H K) : HT prg I.slices_Clone_float32Zfloat32 [a0].toArray H K :=
  HT_of_fev O.slices_Clone_float32Zfloat32 mixed Try.func67 (by kernel_rfl) (Eq.mpr (by kernel_rfl : fev prg O.slices_Clone_float32Zfloat32 Try.f67 [a0] H K = F.slices_Clone_float32Zfloat32 a0 H K) h)

/-! slices.Clone[[]bool,bool]: function 68 -/
def F.slices_Clone_bool_bool (a0 : Value) (H : Hp) (K : Value → Hp → Prop) : Prop :=
  ob (vSlEq .eql a0 (.slice none 0 0)) fun v4x1 =>
  cnd v4x1
    (K (.slice none 0 0) H)
    (bS 1 0 #[(.bool false)] 4 [] H fun v5x2 H3 =>
  apd 1 1 #[(.bool false)] 4 v5x2 a0 H3 fun v7x4 H5 =>
  K v7x4 H5)
def O.slices_Clone_bool_bool : Nat → Nat × List Nat := fun i => (0, [])
theorem R.slices_Clone_bool_bool {a0 : Value} {H : Hp} {K : Value → Hp → Prop} (h : F.slices_Clone_bool_bool a0 H K) : HT prg I.slices_Clone_bool_bool [a0].toArray H K :=
  HT_of_fev O.slices_Clone_bool_bool mixed Try.func68 (by kernel_rfl) (Eq.mpr (by kernel_rfl : fev prg O.slices_Clone_bool_bool Try.f68 [a0] H K = F.slices_Clone_bool_bool a0 H K) h)

/-! (loop.example/g01381/impl.Flow).relax: function 69 -/
def F.impl_Flow_relax (a0 a1 : Value) (H : Hp) (K : Value → Hp → Prop) : Prop :=
  nw (a0 : Value).cells 28 H fun v2x1 H2 =>
  nw #[(.int .i64 0), (.int .i64 0), (.slice none 0 0), (.slice none 0 0)] 28 H2 fun v4x3 H4 =>
  ob (vFa 0 v2x1) fun v17x5 =>
  ob (vLoad v17x5 H4) fun v18x6 =>
  ob (vFa 1 v2x1) fun v19x7 =>
  ob (vLoad v19x7 H4) fun v20x8 =>
  ob (vFa 3 v2x1) fun v21x9 =>
  ob (vLoad v21x9 H4) fun v22x10 =>
  HT prg I.slices_Clone_bool_bool [v22x10].toArray H4 fun v23x11 H12 =>
  Le H4 H12 ∧ (ob (vBuild [(0, 1), (1, 1), (2, 1), (3, 1)] (.agg #[(.int .i64 0), (.int .i64 0), (.slice none 0 0), (.slice none 0 0)]) [(0, v18x6), (1, v20x8), (3, v23x11)]) fun v24x13 =>
  nw #[(.int .i64 0), (.int .i64 0), (.slice none 0 0), (.slice none 0 0)] 28 H12 fun v6x14 H15 =>
  st 4 v6x14 v24x13 H15 fun H16 =>
  jn (fun σ17 H17 =>
    ob (vLoadN 4 (σ17 6) H17) fun v87x18 =>
    HT prg I.impl_ValidFlow [v87x18].toArray H17 fun v88x19 H20 =>
    ob (vUn .not v88x19) fun v89x21 =>
    cnd v89x21
      (ob (vBuild [(0, 1), (1, 1), (2, 1), (3, 1)] (.agg #[(.int .i64 0), (.int .i64 0), (.slice none 0 0), (.slice none 0 0)]) []) fun v90x22 =>
      st 4 (σ17 4) v90x22 H20 fun H23 =>
      ob (vLoadN 4 (σ17 4) H23) fun u24 => K (.tuple #[u24, (.bool false)]) H23)
      (ob (vLoadN 4 (σ17 6) H20) fun v91x25 =>
    st 4 (σ17 4) v91x25 H20 fun H26 =>
    ob (vLoadN 4 (σ17 4) H26) fun u27 => K (.tuple #[u27, (.bool true)]) H26)) fun J17 =>
  ob (vFa 3 v2x1) fun v25x28 =>
  ob (vLoad v25x28 H16) fun v26x29 =>
  ob (vLenSl v26x29) fun v27x30 =>
  lpE (fun Q31 σ31 H31 =>
    ob (vInt .lss (σ31 28) (σ31 27)) fun v29x32 =>
    cnd v29x32
      (jn (fun σ33 H33 =>
      ob (vInt .add (σ33 28) (.int .i64 1)) fun v86x34 =>
      Q31 .normal (up (up σ33 86 v86x34) 28 v86x34) H33) fun J33 =>
    ob (vIx 1 (σ31 26) (σ31 28)) fun v31x35 =>
    ob (vLoad v31x35 H31) fun v32x36 =>
    ob (vLoadN 4 (σ31 2) H31) fun v33x37 =>
    HT prg I.impl_Flow_cell [v33x37, (σ31 28)].toArray H31 fun v35x38 H39 =>
    jn (fun σ40 H40 =>
      HT prg I.impl_massOf [(σ40 9)].toArray H40 fun v52x41 H42 =>
      ob (vFcmp .gtr v52x41 (.float .f32 0)) fun v54x43 =>
      ob (vUn .not v54x43) fun v55x44 =>
      cnd v55x44
        (ob (vBuild [(0, 1), (1, 1), (2, 1), (3, 1)] (.agg #[(.int .i64 0), (.int .i64 0), (.slice none 0 0), (.slice none 0 0)]) []) fun v56x45 =>
        st 4 (σ40 4) v56x45 H42 fun H46 =>
        Q31 .ret (up (up (up (up (up (up (up (up σ40 51 (σ40 9)) 52 v52x41) 12 v52x41) 53 v52x41) 54 v54x43) 55 v55x44) 56 v56x45) 5 (.bool false)) H46)
        (HT prg I.impl_speeds [(σ40 9)].toArray H42 fun v59x47 H48 =>
      ob (vExt v59x47 0) fun v60x49 =>
      ob (vExt v59x47 1) fun v61x50 =>
      ob (vLenSl (σ40 9)) fun v63x51 =>
      lpE (fun Q52 σ52 H52 =>
        ob (vInt .lss (σ52 64) (σ52 63)) fun v65x53 =>
        cnd v65x53
          (ob (vIx 1 (σ52 62) (σ52 64)) fun v67x54 =>
        ob (vLoad v67x54 H52) fun v68x55 =>
        ob (vFa 2 (σ52 6)) fun v69x56 =>
        ob (vLoad v69x56 H52) fun v70x57 =>
        HT prg I.impl_calm [(σ52 64), (σ52 12), (σ52 13), (σ52 14)].toArray H52 fun v77x58 H59 =>
        Le H52 H59 ∧ (fA .sub v77x58 v68x55 H59 fun v79x60 H61 =>
        fA .mul (σ52 1) v79x60 H61 fun v80x62 H63 =>
        fA .add v68x55 v80x62 H63 fun v81x64 H65 =>
        bS 1 1 #[(.float .f32 0)] 33 [(0, v81x64)] H65 fun v82x66 H67 =>
        apd 1 4 #[(.float .f32 0)] 33 v70x57 v82x66 H67 fun v83x68 H69 =>
        ob (vFa 2 (σ52 6)) fun v84x70 =>
        st 1 v84x70 v83x68 H69 fun H71 =>
        ob (vInt .add (σ52 64) (.int .i64 1)) fun v85x72 =>
        Q52 .normal (up (up (up (up (up (up (up (up (up (up (up (up (up (up (up (up (up (up (up (up (up (up (up (up σ52 65 v65x53) 66 (σ52 64)) 67 v67x54) 68 v68x55) 15 (σ52 64)) 16 v68x55) 69 v69x56) 70 v70x57) 71 v68x55) 72 (σ52 1)) 73 (σ52 64)) 74 (σ52 12)) 75 (σ52 13)) 76 (σ52 14)) 78 v68x55) 77 v77x58) 79 v79x60) 80 v80x62) 81 v81x64) 82 v82x66) 83 v83x68) 84 v84x70) 85 v85x72) 64 v85x72) H71))
          (Q52 (.exit 4) (up σ52 65 v65x53) H52)) (blkQ 4 (blkQ 1 (thenQ J33 Q31))) (up (up (up (up (up (up (up (up (up (up (up (up (up (up (up (up σ40 51 (σ40 9)) 52 v52x41) 12 v52x41) 53 v52x41) 54 v54x43) 55 v55x44) 58 (σ40 9)) 59 v59x47) 57 v59x47) 60 v60x49) 61 v61x50) 13 v60x49) 14 v61x50) 62 (σ40 9)) 63 v63x51) 64 (.int .i64 0)) H48)) fun J40 =>
    cnd v32x36
      (jn (fun σ73 H73 =>
        J33 σ73 H73) fun J73 =>
      hp prg (Instr.build 91 [(0, (.int .i64 0)), (1, (.int .i64 3)), (2, (.int .i64 4)), (3, (.int .i64 1)), (4, (.int .i64 2)), (5, (.int .i64 7)), (6, (.int .i64 8)), (7, (.int .i64 5)), (8, (.int .i64 6))].toArray) H39 fun v37x74 H75 =>
      lpE (fun Q76 σ76 H76 =>
        ob (vInt .lss (σ76 38) (.int .i64 9)) fun v39x77 =>
        cnd v39x77
          (ob (vIndexA 9 false 1 (σ76 37) (σ76 38)) fun v40x78 =>
        ob (vFa 2 (σ76 6)) fun v41x79 =>
        ob (vLoad v41x79 H76) fun v42x80 =>
        ob (vIx 1 (σ76 9) v40x78) fun v45x81 =>
        ob (vLoad v45x81 H76) fun v46x82 =>
        bS 1 1 #[(.float .f32 0)] 33 [(0, v46x82)] H76 fun v47x83 H84 =>
        apd 1 4 #[(.float .f32 0)] 33 v42x80 v47x83 H84 fun v48x85 H86 =>
        ob (vFa 2 (σ76 6)) fun v49x87 =>
        st 1 v49x87 v48x85 H86 fun H88 =>
        ob (vInt .add (σ76 38) (.int .i64 1)) fun v50x89 =>
        Q76 .normal (up (up (up (up (up (up (up (up (up (up (up (up (up (up σ76 39 v39x77) 40 v40x78) 11 v40x78) 41 v41x79) 42 v42x80) 43 (σ76 9)) 44 v40x78) 45 v45x81) 46 v46x82) 47 v47x83) 48 v48x85) 49 v49x87) 50 v50x89) 38 v50x89) H88)
          (Q76 (.exit 2) (up σ76 39 v39x77) H76)) (blkQ 2 (thenQ J73 (thenQ J40 (blkQ 1 (thenQ J33 Q31))))) (up (up (up (up (up (up (up (up (up (up (up (up (up σ31 29 v29x32) 30 (σ31 28)) 31 v31x35) 32 v32x36) 7 (σ31 28)) 8 v32x36) 33 v33x37) 34 (σ31 28)) 35 v35x38) 9 v35x38) 36 v32x36) 37 v37x74) 38 (.int .i64 0)) H75)
      (J40 (up (up (up (up (up (up (up (up (up (up (up σ31 29 v29x32) 30 (σ31 28)) 31 v31x35) 32 v32x36) 7 (σ31 28)) 8 v32x36) 33 v33x37) 34 (σ31 28)) 35 v35x38) 9 v35x38) 36 v32x36) H39))
      (Q31 (.exit 0) (up σ31 29 v29x32) H31)) (blkQ 0 (thenQ J17 (retQ prg [(.cell 4 28), (.tmp 5)] K))) (up (up (up (up (up (up (up (up (up (up (up (up (up (up (up (up (S0 [a0, a1]) 2 v2x1) 4 v4x3) 5 (.bool false)) 17 v17x5) 18 v18x6) 19 v19x7) 20 v20x8) 21 v21x9) 22 v22x10) 23 v23x11) 24 v24x13) 6 v6x14) 25 v25x28) 26 v26x29) 27 v27x30) 28 (.int .i64 0)) H16)
def O.impl_Flow_relax : Nat → Nat × List Nat := fun i => bif Nat.beq i 1 then (0, [0, 1, 2, 3, 4, 5, 6, 7, 8, 9]) else bif Nat.beq i 19 then (0, [0, 1, 2, 3, 4, 5, 6, 7, 9, 8, 10, 11, 12, 13, 14, 15, 16]) else bif Nat.beq i 10 then (0, [0, 1, 2, 3, 4, 5, 6, 7, 8, 9]) else (0, [])
theorem R.impl_Flow_relax {a0 a1 : Value} {H : Hp} {K : Value → Hp → Prop} (h : F.impl_Flow_relax a0 a1 H K) : HT prg I.impl_Flow_relax [a0, a1].toArray H K :=
  HT_of_fev O.impl_Flow_relax mixed Try.func69 (by kernel_rfl) (Eq.mpr (by kernel_rfl : fev prg O.impl_Flow_relax Try.f69 [a0, a1] H K = F.impl_Flow_relax a0 a1 H K) h)

/-! loop.example/g01381/impl.floorMod: function 80 -/
def F.impl_floorMod (a0 a1 : Value) (H : Hp) (K : Value → Hp → Prop) : Prop :=
  ob (vInt .rem a0 a1) fun v7x1 =>
  ob (vInt .add v7x1 a1) fun v9x2 =>
  ob (vInt .rem v9x2 a1) fun v11x3 =>
  K v11x3 H
def O.impl_floorMod : Nat → Nat × List Nat := fun i => (0, [])
theorem R.impl_floorMod {a0 a1 : Value} {H : Hp} {K : Value → Hp → Prop} (h : F.impl_floorMod a0 a1 H K) : HT prg I.impl_floorMod [a0, a1].toArray H K :=
  HT_of_fev O.impl_floorMod mixed Try.func80 (by kernel_rfl) (Eq.mpr (by kernel_rfl : fev prg O.impl_floorMod Try.f80 [a0, a1] H K = F.impl_floorMod a0 a1 H K) h)

/-! (loop.example/g01381/impl.Flow).stream: function 70 -/
def F.impl_Flow_stream (a0 : Value) (H : Hp) (K : Value → Hp → Prop) : Prop :=
  nw (a0 : Value).cells 28 H fun v1x1 H2 =>
  nw #[(.int .i64 0), (.int .i64 0), (.slice none 0 0), (.slice none 0 0)] 28 H2 fun v2x3 H4 =>
  ob (vFa 0 v1x1) fun v12x5 =>
  ob (vLoad v12x5 H4) fun v13x6 =>
  ob (vFa 1 v1x1) fun v14x7 =>
  ob (vLoad v14x7 H4) fun v15x8 =>
  ob (vFa 3 v1x1) fun v16x9 =>
  ob (vLoad v16x9 H4) fun v17x10 =>
  ob (vFa 2 v1x1) fun v19x11 =>
  ob (vLoad v19x11 H4) fun v20x12 =>
  ob (vLenSl v20x12) fun v21x13 =>
  HT prg I.slices_Clone_bool_bool [v17x10].toArray H4 fun v18x14 H15 =>
  Le H4 H15 ∧ (mkS 1 4 #[(.float .f32 0)] 33 v21x13 v21x13 H15 fun v22x16 H17 =>
  ob (vBuild [(0, 1), (1, 1), (2, 1), (3, 1)] (.agg #[(.int .i64 0), (.int .i64 0), (.slice none 0 0), (.slice none 0 0)]) [(0, v13x6), (1, v15x8), (3, v18x14), (2, v22x16)]) fun v23x18 =>
  nw #[(.int .i64 0), (.int .i64 0), (.slice none 0 0), (.slice none 0 0)] 28 H17 fun v3x19 H20 =>
  st 4 v3x19 v23x18 H20 fun H21 =>
  jn (fun σ22 H22 =>
    ob (vLoadN 4 (σ22 3) H22) fun v73x23 =>
    st 4 (σ22 2) v73x23 H22 fun H24 =>
    ob (vLoadN 4 (σ22 2) H24) fun u25 => K u25 H24) fun J22 =>
  ob (vFa 2 v1x1) fun v24x26 =>
  ob (vLoad v24x26 H21) fun v25x27 =>
  ob (vLenSl v25x27) fun v26x28 =>
  lpE (fun Q29 σ29 H29 =>
    ob (vInt .lss (σ29 27) (σ29 26)) fun v28x30 =>
    cnd v28x30
      (ob (vIx 1 (σ29 25) (σ29 27)) fun v30x31 =>
    ob (vLoad v30x31 H29) fun v31x32 =>
    ob (vInt .quo (σ29 27) (.int .i64 9)) fun v33x33 =>
    ob (vInt .rem (σ29 27) (.int .i64 9)) fun v35x34 =>
    HT prg I.impl_partGoes [v35x34].toArray H29 fun v38x35 H36 =>
    ob (vExt v38x35 0) fun v39x37 =>
    ob (vExt v38x35 1) fun v40x38 =>
    ob (vFa 1 (σ29 1)) fun v42x39 =>
    ob (vLoad v42x39 H36) fun v43x40 =>
    ob (vInt .quo v33x33 v43x40) fun v44x41 =>
    ob (vInt .add v44x41 v39x37) fun v46x42 =>
    ob (vFa 0 (σ29 1)) fun v47x43 =>
    ob (vLoad v47x43 H36) fun v48x44 =>
    ob (vFa 1 (σ29 1)) fun v51x45 =>
    ob (vLoad v51x45 H36) fun v52x46 =>
    ob (vInt .rem v33x33 v52x46) fun v53x47 =>
    ob (vInt .add v53x47 v40x38) fun v55x48 =>
    ob (vFa 1 (σ29 1)) fun v56x49 =>
    ob (vLoad v56x49 H36) fun v57x50 =>
    HT prg I.impl_floorMod [v46x42, v48x44].toArray H36 fun v49x51 H52 =>
    Le H36 H52 ∧ (HT prg I.impl_floorMod [v55x48, v57x50].toArray H52 fun v58x53 H54 =>
    Le H52 H54 ∧ (ob (vFa 2 (σ29 3)) fun v59x55 =>
    ob (vLoad v59x55 H54) fun v60x56 =>
    ob (vFa 1 (σ29 1)) fun v62x57 =>
    ob (vLoad v62x57 H54) fun v63x58 =>
    ob (vInt .mul v49x51 v63x58) fun v64x59 =>
    ob (vInt .add v64x59 v58x53) fun v66x60 =>
    ob (vInt .mul (.int .i64 9) v66x60) fun v67x61 =>
    ob (vInt .add v67x61 v35x34) fun v69x62 =>
    ob (vIx 1 v60x56 v69x62) fun v71x63 =>
    st 1 v71x63 v31x32 H54 fun H64 =>
    ob (vInt .add (σ29 27) (.int .i64 1)) fun v72x65 =>
    Q29 .normal (up (up (up (up (up (up (up (up (up (up (up (up (up (up (up (up (up (up (up (up (up (up (up (up (up (up (up (up (up (up (up (up (up (up (up (up (up (up (up (up (up (up (up (up (up (up (up (up (up (up (up (up (up (up σ29 28 v28x30) 29 (σ29 27)) 30 v30x31) 31 v31x32) 4 (σ29 27)) 5 v31x32) 32 (σ29 27)) 33 v33x33) 34 (σ29 27)) 35 v35x34) 6 v33x33) 7 v35x34) 37 v35x34) 38 v38x35) 36 v38x35) 39 v39x37) 40 v40x38) 8 v39x37) 9 v40x38) 41 v33x33) 42 v42x39) 43 v43x40) 44 v44x41) 45 v39x37) 46 v46x42) 47 v47x43) 48 v48x44) 50 v33x33) 51 v51x45) 52 v52x46) 53 v53x47) 54 v40x38) 55 v55x48) 56 v56x49) 57 v57x50) 49 v49x51) 58 v58x53) 10 v49x51) 11 v58x53) 59 v59x55) 60 v60x56) 61 v49x51) 62 v62x57) 63 v63x58) 64 v64x59) 65 v58x53) 66 v66x60) 67 v67x61) 68 v35x34) 69 v69x62) 70 v31x32) 71 v71x63) 72 v72x65) 27 v72x65) H64)))
      (Q29 (.exit 0) (up σ29 28 v28x30) H29)) (blkQ 0 (thenQ J22 (retQ prg [(.cell 2 28)] K))) (up (up (up (up (up (up (up (up (up (up (up (up (up (up (up (up (up (up (up (S0 [a0]) 1 v1x1) 2 v2x3) 12 v12x5) 13 v13x6) 14 v14x7) 15 v15x8) 16 v16x9) 17 v17x10) 19 v19x11) 20 v20x12) 21 v21x13) 18 v18x14) 22 v22x16) 23 v23x18) 3 v3x19) 24 v24x26) 25 v25x27) 26 v26x28) 27 (.int .i64 0)) H21)
def O.impl_Flow_stream : Nat → Nat × List Nat := fun i => bif Nat.beq i 1 then (0, [0, 1, 2, 3, 4, 5, 7, 8, 9, 6, 10, 11, 12, 13]) else bif Nat.beq i 7 then (0, [0, 1, 2, 3, 4, 5, 6, 7, 9, 10, 11, 12, 13, 14, 15, 16, 8, 17, 18, 19]) else (0, [])
theorem R.impl_Flow_stream {a0 : Value} {H : Hp} {K : Value → Hp → Prop} (h : F.impl_Flow_stream a0 H K) : HT prg I.impl_Flow_stream [a0].toArray H K :=
  HT_of_fev O.impl_Flow_stream mixed Try.func70 (by kernel_rfl) (Eq.mpr (by kernel_rfl : fev prg O.impl_Flow_stream Try.f70 [a0] H K = F.impl_Flow_stream a0 H K) h)

/-! loop.example/g01381/impl.RunFlow: function 27 -/
def F.impl_RunFlow (a0 a1 a2 : Value) (H : Hp) (K : Value → Hp → Prop) : Prop :=
  nw (a0 : Value).cells 28 H fun v3x1 H2 =>
  nw #[(.int .i64 0), (.int .i64 0), (.slice none 0 0), (.slice none 0 0)] 28 H2 fun v6x3 H4 =>
  ob (vLoadN 4 v3x1 H4) fun v10x5 =>
  HT prg I.impl_ValidFlow [v10x5].toArray H4 fun v11x6 H7 =>
  ob (vUn .not v11x6) fun v12x8 =>
  gop v12x8 false (fun K9 => K9 a1 H7) H7 fun v14x10 H11 =>
  gop v12x8 false (fun K12 => HT prg I.impl_isCalming [v14x10].toArray H11 K12) H11 fun v15x13 H14 =>
  gop v12x8 false (fun K15 => ob (vUn .not v15x13) fun u => K15 u H14) H14 fun v16x16 H17 =>
  ob (vPick v12x8 (.bool true) v16x16) fun v17x18 =>
  gop v17x18 false (fun K19 => K19 a2 H17) H17 fun v19x20 H21 =>
  gop v17x18 false (fun K22 => HT prg I.impl_within [v19x20, (.int .i64 0), (.int .i64 256)].toArray H21 K22) H21 fun v20x23 H24 =>
  gop v17x18 false (fun K25 => ob (vUn .not v20x23) fun u => K25 u H24) H24 fun v21x26 H27 =>
  ob (vPick v17x18 (.bool true) v21x26) fun v22x28 =>
  cnd v22x28
    (ob (vBuild [(0, 1), (1, 1), (2, 1), (3, 1)] (.agg #[(.int .i64 0), (.int .i64 0), (.slice none 0 0), (.slice none 0 0)]) []) fun v23x29 =>
    st 4 v6x3 v23x29 H27 fun H30 =>
    ob (vLoadN 4 v6x3 H30) fun u31 => K (.tuple #[u31, (.bool false)]) H30)
    (ob (vFa 2 v3x1) fun v24x32 =>
  ob (vLoad v24x32 H27) fun v25x33 =>
  ob (vFa 3 v3x1) fun v27x34 =>
  ob (vLoad v27x34 H27) fun v28x35 =>
  HT prg I.slices_Clone_float32Zfloat32 [v25x33].toArray H27 fun v26x36 H37 =>
  Le H27 H37 ∧ (ob (vFa 2 v3x1) fun v30x38 =>
  HT prg I.slices_Clone_bool_bool [v28x35].toArray H37 fun v29x39 H40 =>
  Le H37 H40 ∧ (st 1 v30x38 v26x36 H40 fun H41 =>
  ob (vFa 3 v3x1) fun v31x42 =>
  st 1 v31x42 v29x39 H41 fun H43 =>
  jn (fun σ44 H44 =>
    ob (vLoadN 4 (σ44 3) H44) fun v47x45 =>
    st 4 (σ44 6) v47x45 H44 fun H46 =>
    ob (vLoadN 4 (σ44 6) H46) fun u47 => K (.tuple #[u47, (.bool true)]) H46) fun J44 =>
  lpE (fun Q48 σ48 H48 =>
    ob (vInt .lss (σ48 33) (σ48 32)) fun v34x49 =>
    cnd v34x49
      (ob (vLoadN 4 (σ48 3) H48) fun v36x50 =>
    HT prg I.impl_Flow_relax [v36x50, (σ48 1)].toArray H48 fun v38x51 H52 =>
    ob (vExt v38x51 0) fun v39x53 =>
    ob (vExt v38x51 1) fun v40x54 =>
    nw #[(.int .i64 0), (.int .i64 0), (.slice none 0 0), (.slice none 0 0)] 28 H52 fun v8x55 H56 =>
    st 4 v8x55 v39x53 H56 fun H57 =>
    ob (vUn .not v40x54) fun v42x58 =>
    cnd v42x58
      (ob (vBuild [(0, 1), (1, 1), (2, 1), (3, 1)] (.agg #[(.int .i64 0), (.int .i64 0), (.slice none 0 0), (.slice none 0 0)]) []) fun v43x59 =>
      st 4 (σ48 6) v43x59 H57 fun H60 =>
      Q48 .ret (up (up (up (up (up (up (up (up (up (up (up (up (up σ48 34 v34x49) 36 v36x50) 37 (σ48 1)) 38 v38x51) 35 v38x51) 39 v39x53) 40 v40x54) 8 v8x55) 9 v40x54) 41 v40x54) 42 v42x58) 43 v43x59) 7 (.bool false)) H60)
      (ob (vLoadN 4 v8x55 H57) fun v44x61 =>
    HT prg I.impl_Flow_stream [v44x61].toArray H57 fun v45x62 H63 =>
    st 4 (σ48 3) v45x62 H63 fun H64 =>
    ob (vInt .add (σ48 33) (.int .i64 1)) fun v46x65 =>
    Q48 .normal (up (up (up (up (up (up (up (up (up (up (up (up (up (up (up σ48 34 v34x49) 36 v36x50) 37 (σ48 1)) 38 v38x51) 35 v38x51) 39 v39x53) 40 v40x54) 8 v8x55) 9 v40x54) 41 v40x54) 42 v42x58) 44 v44x61) 45 v45x62) 46 v46x65) 33 v46x65) H64))
      (Q48 (.exit 0) (up σ48 34 v34x49) H48)) (blkQ 0 (thenQ J44 (retQ prg [(.cell 6 28), (.tmp 7)] K))) (up (up (up (up (up (up (up (up (up (up (up (up (up (up (up (up (up (up (up (up (up (up (up (up (up (up (S0 [a0, a1, a2]) 3 v3x1) 6 v6x3) 7 (.bool false)) 10 v10x5) 11 v11x6) 12 v12x8) 13 v12x8) 14 v14x10) 15 v15x13) 16 v16x16) 17 v17x18) 18 v17x18) 19 v19x20) 20 v20x23) 21 v21x26) 22 v22x28) 24 v24x32) 25 v25x33) 27 v27x34) 28 v28x35) 26 v26x36) 30 v30x38) 29 v29x39) 31 v31x42) 32 a2) 33 (.int .i64 0)) H43)))
def O.impl_RunFlow : Nat → Nat × List Nat := fun i => bif Nat.beq i 3 then (0, [0, 1, 3, 4, 2, 6, 5, 7, 8, 9]) else (0, [])
theorem R.impl_RunFlow {a0 a1 a2 : Value} {H : Hp} {K : Value → Hp → Prop} (h : F.impl_RunFlow a0 a1 a2 H K) : HT prg I.impl_RunFlow [a0, a1, a2].toArray H K :=
  HT_of_fev O.impl_RunFlow mixed Try.func27 (by kernel_rfl) (Eq.mpr (by kernel_rfl : fev prg O.impl_RunFlow Try.f27 [a0, a1, a2] H K = F.impl_RunFlow a0 a1 a2 H K) h)

/-! loop.example/g01381/laws.r8Gap: function 28 -/
def F.laws_r8Gap (a0 a1 : Value) (H : Hp) (K : Value → Hp → Prop) : Prop :=
  fA .sub a0 a1 H fun v7x1 H2 =>
  fA .sub a1 a0 H2 fun v10x3 H4 =>
  hp prg (builtin .max #[37, 37] 37 #[false, false] [v7x1, v10x3].toArray) H4 (nextH prg (fun v11x5 H6 =>
  K v11x5 H6))
def O.laws_r8Gap : Nat → Nat × List Nat := fun i => (0, [])
theorem R.laws_r8Gap {a0 a1 : Value} {H : Hp} {K : Value → Hp → Prop} (h : F.laws_r8Gap a0 a1 H K) : HT prg I.laws_r8Gap [a0, a1].toArray H K :=
  HT_of_fev O.laws_r8Gap mixed Try.func28 (by kernel_rfl) (Eq.mpr (by kernel_rfl : fev prg O.laws_r8Gap Try.f28 [a0, a1] H K = F.laws_r8Gap a0 a1 H K) h)

/-! loop.example/g01381/impl.RelaxFlow: function 29 -/
def F.impl_RelaxFlow (a0 a1 : Value) (H : Hp) (K : Value → Hp → Prop) : Prop :=
  nw (a0 : Value).cells 28 H fun v2x1 H2 =>
  nw #[(.int .i64 0), (.int .i64 0), (.slice none 0 0), (.slice none 0 0)] 28 H2 fun v4x3 H4 =>
  ob (vLoadN 4 v2x1 H4) fun v6x5 =>
  HT prg I.impl_ValidFlow [v6x5].toArray H4 fun v7x6 H7 =>
  ob (vUn .not v7x6) fun v8x8 =>
  gop v8x8 false (fun K9 => K9 a1 H7) H7 fun v10x10 H11 =>
  gop v8x8 false (fun K12 => HT prg I.impl_isCalming [v10x10].toArray H11 K12) H11 fun v11x13 H14 =>
  gop v8x8 false (fun K15 => ob (vUn .not v11x13) fun u => K15 u H14) H14 fun v12x16 H17 =>
  ob (vPick v8x8 (.bool true) v12x16) fun v13x18 =>
  cnd v13x18
    (ob (vBuild [(0, 1), (1, 1), (2, 1), (3, 1)] (.agg #[(.int .i64 0), (.int .i64 0), (.slice none 0 0), (.slice none 0 0)]) []) fun v14x19 =>
    st 4 v4x3 v14x19 H17 fun H20 =>
    ob (vLoadN 4 v4x3 H20) fun u21 => K (.tuple #[u21, (.bool false)]) H20)
    (ob (vLoadN 4 v2x1 H17) fun v15x22 =>
  HT prg I.impl_Flow_relax [v15x22, a1].toArray H17 fun v17x23 H24 =>
  ob (vExt v17x23 0) fun v18x25 =>
  ob (vExt v17x23 1) fun v19x26 =>
  st 4 v4x3 v18x25 H24 fun H27 =>
  ob (vLoadN 4 v4x3 H27) fun u28 => K (.tuple #[u28, v19x26]) H27)
def O.impl_RelaxFlow : Nat → Nat × List Nat := fun i => (0, [])
theorem R.impl_RelaxFlow {a0 a1 : Value} {H : Hp} {K : Value → Hp → Prop} (h : F.impl_RelaxFlow a0 a1 H K) : HT prg I.impl_RelaxFlow [a0, a1].toArray H K :=
  HT_of_fev O.impl_RelaxFlow mixed Try.func29 (by kernel_rfl) (Eq.mpr (by kernel_rfl : fev prg O.impl_RelaxFlow Try.f29 [a0, a1] H K = F.impl_RelaxFlow a0 a1 H K) h)

/-! loop.example/g01381/impl.StreamFlow: function 30 -/
def F.impl_StreamFlow (a0 : Value) (H : Hp) (K : Value → Hp → Prop) : Prop :=
  nw (a0 : Value).cells 28 H fun v1x1 H2 =>
  nw #[(.int .i64 0), (.int .i64 0), (.slice none 0 0), (.slice none 0 0)] 28 H2 fun v2x3 H4 =>
  ob (vLoadN 4 v1x1 H4) fun v4x5 =>
  HT prg I.impl_ValidFlow [v4x5].toArray H4 fun v5x6 H7 =>
  ob (vUn .not v5x6) fun v6x8 =>
  cnd v6x8
    (ob (vBuild [(0, 1), (1, 1), (2, 1), (3, 1)] (.agg #[(.int .i64 0), (.int .i64 0), (.slice none 0 0), (.slice none 0 0)]) []) fun v7x9 =>
    st 4 v2x3 v7x9 H7 fun H10 =>
    ob (vLoadN 4 v2x3 H10) fun u11 => K (.tuple #[u11, (.bool false)]) H10)
    (ob (vLoadN 4 v1x1 H7) fun v8x12 =>
  HT prg I.impl_Flow_stream [v8x12].toArray H7 fun v9x13 H14 =>
  st 4 v2x3 v9x13 H14 fun H15 =>
  ob (vLoadN 4 v2x3 H15) fun u16 => K (.tuple #[u16, (.bool true)]) H15)
def O.impl_StreamFlow : Nat → Nat × List Nat := fun i => (0, [])
theorem R.impl_StreamFlow {a0 : Value} {H : Hp} {K : Value → Hp → Prop} (h : F.impl_StreamFlow a0 H K) : HT prg I.impl_StreamFlow [a0].toArray H K :=
  HT_of_fev O.impl_StreamFlow mixed Try.func30 (by kernel_rfl) (Eq.mpr (by kernel_rfl : fev prg O.impl_StreamFlow Try.f30 [a0] H K = F.impl_StreamFlow a0 H K) h)

/-! loop.example/g01381/impl.areWorkers: function 71 -/
def F.impl_areWorkers (a0 : Value) (H : Hp) (K : Value → Hp → Prop) : Prop :=
  HT prg I.impl_within [a0, (.int .i64 1), (.int .i64 8)].toArray H fun v4x1 H2 =>
  K v4x1 H2
def O.impl_areWorkers : Nat → Nat × List Nat := fun i => (0, [])
theorem R.impl_areWorkers {a0 : Value} {H : Hp} {K : Value → Hp → Prop} (h : F.impl_areWorkers a0 H K) : HT prg I.impl_areWorkers [a0].toArray H K :=
  HT_of_fev O.impl_areWorkers mixed Try.func71 (by kernel_rfl) (Eq.mpr (by kernel_rfl : fev prg O.impl_areWorkers Try.f71 [a0] H K = F.impl_areWorkers a0 H K) h)

/-! loop.example/g01381/impl.FlowsShared: function 31 -/
def F.impl_FlowsShared (a0 a1 a2 a3 : Value) (H : Hp) (K : Value → Hp → Prop) : Prop :=
  ob (vLenSl a0) fun v18x1 =>
  ob (vInt .lss v18x1 (.int .i64 1)) fun v19x2 =>
  gop v19x2 false (fun K3 => K3 a0 H) H fun v21x4 H5 =>
  gop v19x2 false (fun K6 => ob (vLenSl v21x4) fun u => K6 u H5) H5 fun v22x7 H8 =>
  gop v19x2 false (fun K9 => ob (vInt .gtr v22x7 (.int .i64 8)) fun u => K9 u H8) H8 fun v23x10 H11 =>
  ob (vPick v19x2 (.bool true) v23x10) fun v24x12 =>
  gop v24x12 false (fun K13 => K13 a3 H11) H11 fun v26x14 H15 =>
  gop v24x12 false (fun K16 => HT prg I.impl_areWorkers [v26x14].toArray H15 K16) H15 fun v27x17 H18 =>
  gop v24x12 false (fun K19 => ob (vUn .not v27x17) fun u => K19 u H18) H18 fun v28x20 H21 =>
  ob (vPick v24x12 (.bool true) v28x20) fun v29x22 =>
  cnd v29x22
    (K (.tuple #[(.slice none 0 0), (.bool false)]) H21)
    (bS 1 0 #[(.float .f32 0)] 33 [] H21 fun v30x23 H24 =>
  jn (fun σ25 H25 =>
    K (.tuple #[(σ25 10), (.bool true)]) H25) fun J25 =>
  ob (vLenSl a0) fun v32x26 =>
  lpE (fun Q27 σ27 H27 =>
    ob (vInt .lss (σ27 33) (σ27 32)) fun v34x28 =>
    cnd v34x28
      (ob (vIx 4 (σ27 31) (σ27 33)) fun v35x29 =>
    ob (vLoadN 4 v35x29 H27) fun v36x30 =>
    nw #[(.int .i64 0), (.int .i64 0), (.slice none 0 0), (.slice none 0 0)] 28 H27 fun v12x31 H32 =>
    st 4 v12x31 v36x30 H32 fun H33 =>
    ob (vLoadN 4 v12x31 H33) fun v38x34 =>
    HT prg I.impl_RunFlow [v38x34, (σ27 1), (σ27 2)].toArray H33 fun v41x35 H36 =>
    ob (vExt v41x35 0) fun v42x37 =>
    ob (vExt v41x35 1) fun v43x38 =>
    nw #[(.int .i64 0), (.int .i64 0), (.slice none 0 0), (.slice none 0 0)] 28 H36 fun v13x39 H40 =>
    st 4 v13x39 v42x37 H40 fun H41 =>
    ob (vLoadN 4 v13x39 H41) fun v45x42 =>
    HT prg I.impl_MassOf [v45x42].toArray H41 fun v46x43 H44 =>
    ob (vExt v46x43 0) fun v47x45 =>
    ob (vExt v46x43 1) fun v48x46 =>
    ob (vUn .not v43x38) fun v50x47 =>
    gop v50x47 false (fun K48 => K48 v48x46 H44) H44 fun v52x49 H50 =>
    gop v50x47 false (fun K51 => ob (vUn .not v52x49) fun u => K51 u H50) H50 fun v53x52 H53 =>
    ob (vPick v50x47 (.bool true) v53x52) fun v54x54 =>
    cnd v54x54
      (Q27 .ret (up (up (up (up (up (up (up (up (up (up (up (up (up (up (up (up (up (up (up (up (up (up (up (up (up (up (up (up σ27 34 v34x28) 35 v35x29) 36 v36x30) 12 v12x31) 38 v38x34) 39 (σ27 1)) 40 (σ27 2)) 41 v41x35) 37 v41x35) 42 v42x37) 43 v43x38) 13 v13x39) 14 v43x38) 45 v45x42) 46 v46x43) 44 v46x43) 47 v47x45) 48 v48x46) 15 v47x45) 16 v48x46) 49 v43x38) 50 v50x47) 51 v50x47) 52 v52x49) 53 v53x52) 54 v54x54) 8 (.slice none 0 0)) 9 (.bool false)) H53)
      (bS 1 1 #[(.float .f32 0)] 33 [(0, v47x45)] H53 fun v57x55 H56 =>
    apd 1 4 #[(.float .f32 0)] 33 (σ27 10) v57x55 H56 fun v58x57 H58 =>
    ob (vInt .add (σ27 33) (.int .i64 1)) fun v59x59 =>
    Q27 .normal (up (up (up (up (up (up (up (up (up (up (up (up (up (up (up (up (up (up (up (up (up (up (up (up (up (up (up (up (up (up (up (up (up σ27 34 v34x28) 35 v35x29) 36 v36x30) 12 v12x31) 38 v38x34) 39 (σ27 1)) 40 (σ27 2)) 41 v41x35) 37 v41x35) 42 v42x37) 43 v43x38) 13 v13x39) 14 v43x38) 45 v45x42) 46 v46x43) 44 v46x43) 47 v47x45) 48 v48x46) 15 v47x45) 16 v48x46) 49 v43x38) 50 v50x47) 51 v50x47) 52 v52x49) 53 v53x52) 54 v54x54) 55 (σ27 10)) 56 v47x45) 57 v57x55) 58 v58x57) 10 v58x57) 59 v59x59) 33 v59x59) H58))
      (Q27 (.exit 0) (up σ27 34 v34x28) H27)) (blkQ 0 (thenQ J25 (retQ prg [(.tmp 8), (.tmp 9)] K))) (up (up (up (up (up (up (up (up (up (up (up (up (up (up (up (up (up (up (up (up (S0 [a0, a1, a2, a3]) 8 (.slice none 0 0)) 9 (.bool false)) 17 a0) 18 v18x1) 19 v19x2) 20 v19x2) 21 v21x4) 22 v22x7) 23 v23x10) 24 v24x12) 25 v24x12) 26 v26x14) 27 v27x17) 28 v28x20) 29 v29x22) 30 v30x23) 10 v30x23) 31 a0) 32 v32x26) 33 (.int .i64 0)) H24)
def O.impl_FlowsShared : Nat → Nat × List Nat := fun i => (0, [])
theorem R.impl_FlowsShared {a0 a1 a2 a3 : Value} {H : Hp} {K : Value → Hp → Prop} (h : F.impl_FlowsShared a0 a1 a2 a3 H K) : HT prg I.impl_FlowsShared [a0, a1, a2, a3].toArray H K :=
  HT_of_fev O.impl_FlowsShared mixed Try.func31 (by kernel_rfl) (Eq.mpr (by kernel_rfl : fev prg O.impl_FlowsShared Try.f31 [a0, a1, a2, a3] H K = F.impl_FlowsShared a0 a1 a2 a3 H K) h)

end Go.Proofs.Ytcjamajenfgddaa
