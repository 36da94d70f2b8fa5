/- Functions' texts over a partial heap. -/
import Derived.Test.YthbffbpdoankjaaG0
namespace Go.Proofs.Ythbffbpdoankjaa
open HL
set_option linter.unusedVariables false
set_option maxRecDepth 100000
set_option maxHeartbeats 4000000
/-! loop.example/g01381/laws.szInt64S: function 57 -/
def F.laws_szInt64S (a0 a1 : Value) (H : Hp) (K : Value → Hp → Prop) : Prop :=
  ob (vLenSl a0) fun v7x1 =>
  ob (vInt .sub a1 v7x1) fun v8x2 =>
  ob (vInt .lss v8x2 (.int .i64 0)) fun v10x3 =>
  cnd v10x3
    (K (.int .i64 (-1)) H)
    (K v8x2 H)
def O.laws_szInt64S : Nat → Nat × List Nat := fun i => (0, [])
theorem R.laws_szInt64S {a0 a1 : Value} {H : Hp} {K : Value → Hp → Prop} (h : F.laws_szInt64S a0 a1 H K) : HT prg I.laws_szInt64S [a0, a1].toArray H K :=
  HT_of_fev O.laws_szInt64S mixed Try.func57 (by kernel_rfl) (Eq.mpr (by kernel_rfl : fev prg O.laws_szInt64S Try.f57 [a0, a1] H K = F.laws_szInt64S a0 a1 H K) h)

/-! loop.example/g01381/laws.szLife: function 15 -/
def F.laws_szLife (a0 a1 : Value) (H : Hp) (K : Value → Hp → Prop) : Prop :=
  nw (a0 : Value).cells 24 H fun v2x1 H2 =>
  ob (vFa 0 v2x1) fun v5x3 =>
  ob (vLoad v5x3 H2) fun v6x4 =>
  HT prg I.laws_szInt64S [v6x4, a1].toArray H2 fun v8x5 H6 =>
  ob (vInt .lss v8x5 (.int .i64 0)) fun v10x7 =>
  cnd v10x7
    (K (.int .i64 (-1)) H6)
    (ob (vFa 1 v2x1) fun v11x8 =>
  ob (vLoad v11x8 H6) fun v12x9 =>
  HT prg I.laws_szInt64S [v12x9, v8x5].toArray H6 fun v14x10 H11 =>
  ob (vInt .lss v14x10 (.int .i64 0)) fun v16x12 =>
  cnd v16x12
    (K (.int .i64 (-1)) H11)
    (K v14x10 H11))
def O.laws_szLife : Nat → Nat × List Nat := fun i => (0, [])
theorem R.laws_szLife {a0 a1 : Value} {H : Hp} {K : Value → Hp → Prop} (h : F.laws_szLife a0 a1 H K) : HT prg I.laws_szLife [a0, a1].toArray H K :=
  HT_of_fev O.laws_szLife mixed Try.func15 (by kernel_rfl) (Eq.mpr (by kernel_rfl : fev prg O.laws_szLife Try.f15 [a0, a1] H K = F.laws_szLife a0 a1 H K) h)

/-! loop.example/g01381/laws.szField: function 16 -/
def F.laws_szField (a0 a1 : Value) (H : Hp) (K : Value → Hp → Prop) : Prop :=
  nw (a0 : Value).cells 26 H fun v2x1 H2 =>
  ob (vFa 2 v2x1) fun v5x3 =>
  ob (vLoad v5x3 H2) fun v6x4 =>
  HT prg I.laws_szInt64S [v6x4, a1].toArray H2 fun v8x5 H6 =>
  ob (vInt .lss v8x5 (.int .i64 0)) fun v10x7 =>
  cnd v10x7
    (K (.int .i64 (-1)) H6)
    (K v8x5 H6)
def O.laws_szField : Nat → Nat × List Nat := fun i => (0, [])
theorem R.laws_szField {a0 a1 : Value} {H : Hp} {K : Value → Hp → Prop} (h : F.laws_szField a0 a1 H K) : HT prg I.laws_szField [a0, a1].toArray H K :=
  HT_of_fev O.laws_szField mixed Try.func16 (by kernel_rfl) (Eq.mpr (by kernel_rfl : fev prg O.laws_szField Try.f16 [a0, a1] H K = F.laws_szField a0 a1 H K) h)

/-! loop.example/g01381/spec.l00In: function 59 -/
def F.spec_l00In (a0 a1 a2 : Value) (H : Hp) (K : Value → Hp → Prop) : Prop :=
  ob (vInt .geq a0 a1) fun v9x1 =>
  gop v9x1 true (fun K2 => K2 a0 H) H fun v11x3 H4 =>
  gop v9x1 true (fun K5 => K5 a2 H4) H4 fun v12x6 H7 =>
  gop v9x1 true (fun K8 => ob (vInt .leq v11x3 v12x6) fun u => K8 u H7) H7 fun v13x9 H10 =>
  ob (vPick v9x1 v13x9 (.bool false)) fun v14x11 =>
  K v14x11 H10
def O.spec_l00In : Nat → Nat × List Nat := fun i => (0, [])
theorem R.spec_l00In {a0 a1 a2 : Value} {H : Hp} {K : Value → Hp → Prop} (h : F.spec_l00In a0 a1 a2 H K) : HT prg I.spec_l00In [a0, a1, a2].toArray H K :=
  HT_of_fev O.spec_l00In mixed Try.func59 (by kernel_rfl) (Eq.mpr (by kernel_rfl : fev prg O.spec_l00In Try.f59 [a0, a1, a2] H K = F.spec_l00In a0 a1 a2 H K) h)

/-! loop.example/g01381/spec.l04Counts: function 119 -/
def F.spec_l04Counts (a0 : Value) (H : Hp) (K : Value → Hp → Prop) : Prop :=
  jn (fun σ1 H1 =>
    K (.bool true) H1) fun J1 =>
  lpE (fun Q2 σ2 H2 =>
    ob (vLenSl (σ2 0)) fun v6x3 =>
    ob (vInt .lss (σ2 3) v6x3) fun v7x4 =>
    cnd v7x4
      (ob (vIx 1 (σ2 0) (σ2 3)) fun v12x5 =>
    ob (vLoad v12x5 H2) fun v13x6 =>
    HT prg I.spec_l00In [v13x6, (.int .i64 0), (.int .i64 8)].toArray H2 fun v14x7 H8 =>
    Le H2 H8 ∧ (ob (vUn .not v14x7) fun v15x9 =>
    gop v15x9 false (fun K10 => K10 (σ2 3) H8) H8 fun v17x11 H12 =>
    gop v15x9 false (fun K13 => ob (vInt .gtr v17x11 (.int .i64 0)) fun u => K13 u H12) H12 fun v18x14 H15 =>
    gop v15x9 false (fun K16 => K16 v18x14 H15) H15 fun v19x17 H18 =>
    gop v19x17 true (fun K19 => K19 (σ2 0) H18) H18 fun v20x20 H21 =>
    gop v19x17 true (fun K22 => K22 (σ2 3) H21) H21 fun v21x23 H24 =>
    gop v19x17 true (fun K25 => ob (vIx 1 v20x20 v21x23) fun u => K25 u H24) H24 fun v22x26 H27 =>
    gop v19x17 true (fun K28 => ob (vLoad v22x26 H27) fun u => K28 u H27) H27 fun v23x29 H30 =>
    gop v19x17 true (fun K31 => K31 (σ2 0) H30) H30 fun v24x32 H33 =>
    gop v19x17 true (fun K34 => K34 (σ2 3) H33) H33 fun v25x35 H36 =>
    gop v19x17 true (fun K37 => ob (vInt .sub v25x35 (.int .i64 1)) fun u => K37 u H36) H36 fun v26x38 H39 =>
    gop v19x17 true (fun K40 => ob (vIx 1 v24x32 v26x38) fun u => K40 u H39) H39 fun v27x41 H42 =>
    gop v19x17 true (fun K43 => ob (vLoad v27x41 H42) fun u => K43 u H42) H42 fun v28x44 H45 =>
    gop v19x17 true (fun K46 => ob (vInt .leq v23x29 v28x44) fun u => K46 u H45) H45 fun v29x47 H48 =>
    gop v15x9 false (fun K49 => ob (vPick v19x17 v29x47 (.bool false)) fun u => K49 u H48) H48 fun v30x50 H51 =>
    ob (vPick v15x9 (.bool true) v30x50) fun v31x52 =>
    cnd v31x52
      (Q2 .ret (up (up (up (up (up (up (up (up (up (up (up (up (up (up (up (up (up (up (up (up (up (up (up (up (up (up (up σ2 4 (σ2 3)) 5 (σ2 0)) 6 v6x3) 7 v7x4) 10 (σ2 0)) 11 (σ2 3)) 12 v12x5) 13 v13x6) 14 v14x7) 15 v15x9) 16 v15x9) 17 v17x11) 18 v18x14) 19 v19x17) 20 v20x20) 21 v21x23) 22 v22x26) 23 v23x29) 24 v24x32) 25 v25x35) 26 v26x38) 27 v27x41) 28 v28x44) 29 v29x47) 30 v30x50) 31 v31x52) 2 (.bool false)) H51)
      (ob (vInt .add (σ2 3) (.int .i64 1)) fun v9x53 =>
    Q2 .normal (up (up (up (up (up (up (up (up (up (up (up (up (up (up (up (up (up (up (up (up (up (up (up (up (up (up (up (up (up σ2 4 (σ2 3)) 5 (σ2 0)) 6 v6x3) 7 v7x4) 10 (σ2 0)) 11 (σ2 3)) 12 v12x5) 13 v13x6) 14 v14x7) 15 v15x9) 16 v15x9) 17 v17x11) 18 v18x14) 19 v19x17) 20 v20x20) 21 v21x23) 22 v22x26) 23 v23x29) 24 v24x32) 25 v25x35) 26 v26x38) 27 v27x41) 28 v28x44) 29 v29x47) 30 v30x50) 31 v31x52) 8 (σ2 3)) 9 v9x53) 3 v9x53) H51)))
      (Q2 (.exit 0) (up (up (up (up σ2 4 (σ2 3)) 5 (σ2 0)) 6 v6x3) 7 v7x4) H2)) (blkQ 0 (thenQ J1 (retQ prg [(.tmp 2)] K))) (up (up (S0 [a0]) 2 (.bool false)) 3 (.int .i64 0)) H
def O.spec_l04Counts : Nat → Nat × List Nat := fun i => bif Nat.beq i 4 then (0, [0, 1, 2, 3, 4, 5, 6, 7, 8, 9, 10, 11, 12, 13, 14, 15, 16, 17, 18, 19, 20, 21]) else (0, [])
theorem R.spec_l04Counts {a0 : Value} {H : Hp} {K : Value → Hp → Prop} (h : F.spec_l04Counts a0 H K) : HT prg I.spec_l04Counts [a0].toArray H K :=
  HT_of_fev O.spec_l04Counts mixed Try.func119 (by kernel_rfl) (Eq.mpr (by kernel_rfl : fev prg O.spec_l04Counts Try.f119 [a0] H K = F.spec_l04Counts a0 H K) h)

/-! loop.example/g01381/spec.l04Life: function 69 -/
def F.spec_l04Life (a0 : Value) (H : Hp) (K : Value → Hp → Prop) : Prop :=
  ob (vNilC a0) fun v4x1 =>
  ob (vFa 0 v4x1) fun v5x2 =>
  ob (vLoad v5x2 H) fun v6x3 =>
  HT prg I.spec_l04Counts [v6x3].toArray H fun v7x4 H5 =>
  gop v7x4 true (fun K6 => K6 a0 H5) H5 fun v9x7 H8 =>
  gop v7x4 true (fun K9 => ob (vNilC v9x7) fun u => K9 u H8) H8 fun v10x10 H11 =>
  gop v7x4 true (fun K12 => ob (vFa 1 v10x10) fun u => K12 u H11) H11 fun v11x13 H14 =>
  gop v7x4 true (fun K15 => ob (vLoad v11x13 H14) fun u => K15 u H14) H14 fun v12x16 H17 =>
  gop v7x4 true (fun K18 => HT prg I.spec_l04Counts [v12x16].toArray H17 K18) H17 fun v13x19 H20 =>
  ob (vPick v7x4 v13x19 (.bool false)) fun v14x21 =>
  K v14x21 H20
def O.spec_l04Life : Nat → Nat × List Nat := fun i => (0, [])
theorem R.spec_l04Life {a0 : Value} {H : Hp} {K : Value → Hp → Prop} (h : F.spec_l04Life a0 H K) : HT prg I.spec_l04Life [a0].toArray H K :=
  HT_of_fev O.spec_l04Life mixed Try.func69 (by kernel_rfl) (Eq.mpr (by kernel_rfl : fev prg O.spec_l04Life Try.f69 [a0] H K = F.spec_l04Life a0 H K) h)

/-! loop.example/g01381/spec.l04Is: function 137 -/
def F.spec_l04Is (a0 : Value) (H : Hp) (K : Value → Hp → Prop) : Prop :=
  ob (vNilC a0) fun v5x1 =>
  ob (vFa 0 v5x1) fun v6x2 =>
  ob (vLoad v6x2 H) fun v7x3 =>
  HT prg I.spec_l00In [v7x3, (.int .i64 1), (.int .i64 24)].toArray H fun v8x4 H5 =>
  Le H H5 ∧ (ob (vUn .not v8x4) fun v9x6 =>
  gop v9x6 false (fun K7 => K7 a0 H5) H5 fun v11x8 H9 =>
  gop v9x6 false (fun K10 => ob (vNilC v11x8) fun u => K10 u H9) H9 fun v12x11 H12 =>
  gop v9x6 false (fun K13 => ob (vFa 1 v12x11) fun u => K13 u H12) H12 fun v13x14 H15 =>
  gop v9x6 false (fun K16 => ob (vLoad v13x14 H15) fun u => K16 u H15) H15 fun v14x17 H18 =>
  gop v9x6 false (fun K19 => HT prg I.spec_l00In [v14x17, (.int .i64 1), (.int .i64 24)].toArray H18 fun v15x20 H21 =>
  Le H18 H21 ∧ K19 v15x20 H21) H18 fun v15x22 H23 =>
  gop v9x6 false (fun K24 => ob (vUn .not v15x22) fun u => K24 u H23) H23 fun v16x25 H26 =>
  ob (vPick v9x6 (.bool true) v16x25) fun v17x27 =>
  gop v17x27 false (fun K28 => K28 a0 H26) H26 fun v19x29 H30 =>
  gop v17x27 false (fun K31 => ob (vNilC v19x29) fun u => K31 u H30) H30 fun v20x32 H33 =>
  gop v17x27 false (fun K34 => ob (vFa 2 v20x32) fun u => K34 u H33) H33 fun v21x35 H36 =>
  gop v17x27 false (fun K37 => ob (vLoad v21x35 H36) fun u => K37 u H36) H36 fun v22x38 H39 =>
  gop v17x27 false (fun K40 => ob (vLenSl v22x38) fun u => K40 u H39) H39 fun v23x41 H42 =>
  gop v17x27 false (fun K43 => K43 a0 H42) H42 fun v24x44 H45 =>
  gop v17x27 false (fun K46 => ob (vNilC v24x44) fun u => K46 u H45) H45 fun v25x47 H48 =>
  gop v17x27 false (fun K49 => ob (vFa 0 v25x47) fun u => K49 u H48) H48 fun v26x50 H51 =>
  gop v17x27 false (fun K52 => ob (vLoad v26x50 H51) fun u => K52 u H51) H51 fun v27x53 H54 =>
  gop v17x27 false (fun K55 => K55 a0 H54) H54 fun v28x56 H57 =>
  gop v17x27 false (fun K58 => ob (vNilC v28x56) fun u => K58 u H57) H57 fun v29x59 H60 =>
  gop v17x27 false (fun K61 => ob (vFa 1 v29x59) fun u => K61 u H60) H60 fun v30x62 H63 =>
  gop v17x27 false (fun K64 => ob (vLoad v30x62 H63) fun u => K64 u H63) H63 fun v31x65 H66 =>
  gop v17x27 false (fun K67 => ob (vInt .mul v27x53 v31x65) fun u => K67 u H66) H66 fun v32x68 H69 =>
  gop v17x27 false (fun K70 => ob (vInt .neq v23x41 v32x68) fun u => K70 u H69) H69 fun v33x71 H72 =>
  ob (vPick v17x27 (.bool true) v33x71) fun v34x73 =>
  cnd v34x73
    (K (.bool false) H72)
    (jn (fun σ74 H74 =>
    K (.bool true) H74) fun J74 =>
  lpE (fun Q75 σ75 H75 =>
    ob (vNilC (σ75 0)) fun v37x76 =>
    ob (vFa 2 v37x76) fun v38x77 =>
    ob (vLoad v38x77 H75) fun v39x78 =>
    ob (vLenSl v39x78) fun v40x79 =>
    ob (vInt .lss (σ75 3) v40x79) fun v41x80 =>
    cnd v41x80
      (ob (vNilC (σ75 0)) fun v45x81 =>
    ob (vFa 2 v45x81) fun v46x82 =>
    ob (vLoad v46x82 H75) fun v47x83 =>
    ob (vIx 1 v47x83 (σ75 3)) fun v49x84 =>
    ob (vLoad v49x84 H75) fun v50x85 =>
    HT prg I.spec_l00In [v50x85, (.int .i64 0), (.int .i64 9)].toArray H75 fun v51x86 H87 =>
    ob (vUn .not v51x86) fun v52x88 =>
    cnd v52x88
      (Q75 .ret (up (up (up (up (up (up (up (up (up (up (up (up (up (up (up (up (up σ75 35 (σ75 3)) 36 (σ75 0)) 37 v37x76) 38 v38x77) 39 v39x78) 40 v40x79) 41 v41x80) 44 (σ75 0)) 45 v45x81) 46 v46x82) 47 v47x83) 48 (σ75 3)) 49 v49x84) 50 v50x85) 51 v51x86) 52 v52x88) 2 (.bool false)) H87)
      (ob (vInt .add (σ75 3) (.int .i64 1)) fun v43x89 =>
    Q75 .normal (up (up (up (up (up (up (up (up (up (up (up (up (up (up (up (up (up (up (up σ75 35 (σ75 3)) 36 (σ75 0)) 37 v37x76) 38 v38x77) 39 v39x78) 40 v40x79) 41 v41x80) 44 (σ75 0)) 45 v45x81) 46 v46x82) 47 v47x83) 48 (σ75 3)) 49 v49x84) 50 v50x85) 51 v51x86) 52 v52x88) 42 (σ75 3)) 43 v43x89) 3 v43x89) H87))
      (Q75 (.exit 0) (up (up (up (up (up (up (up σ75 35 (σ75 3)) 36 (σ75 0)) 37 v37x76) 38 v38x77) 39 v39x78) 40 v40x79) 41 v41x80) H75)) (blkQ 0 (thenQ J74 (retQ prg [(.tmp 2)] K))) (up (up (up (up (up (up (up (up (up (up (up (up (up (up (up (up (up (up (up (up (up (up (up (up (up (up (up (up (up (up (up (up (up (S0 [a0]) 2 (.bool false)) 4 a0) 5 v5x1) 6 v6x2) 7 v7x3) 8 v8x4) 9 v9x6) 10 v9x6) 11 v11x8) 12 v12x11) 13 v13x14) 14 v14x17) 15 v15x22) 16 v16x25) 17 v17x27) 18 v17x27) 19 v19x29) 20 v20x32) 21 v21x35) 22 v22x38) 23 v23x41) 24 v24x44) 25 v25x47) 26 v26x50) 27 v27x53) 28 v28x56) 29 v29x59) 30 v30x62) 31 v31x65) 32 v32x68) 33 v33x71) 34 v34x73) 3 (.int .i64 0)) H72))
def O.spec_l04Is : Nat → Nat × List Nat := fun i => bif Nat.beq i 1 then (0, [0, 1, 2, 3, 4, 5, 6, 7, 8, 9, 10, 11, 12, 13, 14, 15, 16, 17, 18, 19, 20, 21, 22, 23, 24, 25, 26, 27, 28, 29, 30]) else (0, [])
theorem R.spec_l04Is {a0 : Value} {H : Hp} {K : Value → Hp → Prop} (h : F.spec_l04Is a0 H K) : HT prg I.spec_l04Is [a0].toArray H K :=
  HT_of_fev O.spec_l04Is mixed Try.func137 (by kernel_rfl) (Eq.mpr (by kernel_rfl : fev prg O.spec_l04Is Try.f137 [a0] H K = F.spec_l04Is a0 H K) h)

/-! loop.example/g01381/spec.l04Plain: function 108 -/
def F.spec_l04Plain (a0 : Value) (H : Hp) (K : Value → Hp → Prop) : Prop :=
  HT prg I.spec_l04Is [a0].toArray H fun v5x1 H2 =>
  ob (vUn .not v5x1) fun v6x3 =>
  cnd v6x3
    (K (.bool false) H2)
    (jn (fun σ4 H4 =>
    K (.bool true) H4) fun J4 =>
  lpE (fun Q5 σ5 H5 =>
    ob (vNilC (σ5 0)) fun v9x6 =>
    ob (vFa 2 v9x6) fun v10x7 =>
    ob (vLoad v10x7 H5) fun v11x8 =>
    ob (vLenSl v11x8) fun v12x9 =>
    ob (vInt .lss (σ5 3) v12x9) fun v13x10 =>
    cnd v13x10
      (ob (vNilC (σ5 0)) fun v17x11 =>
    ob (vFa 2 v17x11) fun v18x12 =>
    ob (vLoad v18x12 H5) fun v19x13 =>
    ob (vIx 1 v19x13 (σ5 3)) fun v21x14 =>
    ob (vLoad v21x14 H5) fun v22x15 =>
    ob (vInt .gtr v22x15 (.int .i64 1)) fun v23x16 =>
    cnd v23x16
      (Q5 .ret (up (up (up (up (up (up (up (up (up (up (up (up (up (up (up (up σ5 7 (σ5 3)) 8 (σ5 0)) 9 v9x6) 10 v10x7) 11 v11x8) 12 v12x9) 13 v13x10) 16 (σ5 0)) 17 v17x11) 18 v18x12) 19 v19x13) 20 (σ5 3)) 21 v21x14) 22 v22x15) 23 v23x16) 2 (.bool false)) H5)
      (ob (vInt .add (σ5 3) (.int .i64 1)) fun v15x17 =>
    Q5 .normal (up (up (up (up (up (up (up (up (up (up (up (up (up (up (up (up (up (up σ5 7 (σ5 3)) 8 (σ5 0)) 9 v9x6) 10 v10x7) 11 v11x8) 12 v12x9) 13 v13x10) 16 (σ5 0)) 17 v17x11) 18 v18x12) 19 v19x13) 20 (σ5 3)) 21 v21x14) 22 v22x15) 23 v23x16) 14 (σ5 3)) 15 v15x17) 3 v15x17) H5))
      (Q5 (.exit 0) (up (up (up (up (up (up (up σ5 7 (σ5 3)) 8 (σ5 0)) 9 v9x6) 10 v10x7) 11 v11x8) 12 v12x9) 13 v13x10) H5)) (blkQ 0 (thenQ J4 (retQ prg [(.tmp 2)] K))) (up (up (up (up (up (S0 [a0]) 2 (.bool false)) 4 a0) 5 v5x1) 6 v6x3) 3 (.int .i64 0)) H2)
def O.spec_l04Plain : Nat → Nat × List Nat := fun i => (0, [])
theorem R.spec_l04Plain {a0 : Value} {H : Hp} {K : Value → Hp → Prop} (h : F.spec_l04Plain a0 H K) : HT prg I.spec_l04Plain [a0].toArray H K :=
  HT_of_fev O.spec_l04Plain mixed Try.func108 (by kernel_rfl) (Eq.mpr (by kernel_rfl : fev prg O.spec_l04Plain Try.f108 [a0] H K = F.spec_l04Plain a0 H K) h)

/-! loop.example/g01381/spec.l04Can: function 58 -/
def F.spec_l04Can (a0 a1 : Value) (H : Hp) (K : Value → Hp → Prop) : Prop :=
  HT prg I.spec_l04Life [a0].toArray H fun v6x1 H2 =>
  gop v6x1 true (fun K3 => K3 a1 H2) H2 fun v8x4 H5 =>
  gop v6x1 true (fun K6 => HT prg I.spec_l04Plain [v8x4].toArray H5 K6) H5 fun v9x7 H8 =>
  ob (vPick v6x1 v9x7 (.bool false)) fun v10x9 =>
  K v10x9 H8
def O.spec_l04Can : Nat → Nat × List Nat := fun i => (0, [])
theorem R.spec_l04Can {a0 a1 : Value} {H : Hp} {K : Value → Hp → Prop} (h : F.spec_l04Can a0 a1 H K) : HT prg I.spec_l04Can [a0, a1].toArray H K :=
  HT_of_fev O.spec_l04Can mixed Try.func58 (by kernel_rfl) (Eq.mpr (by kernel_rfl : fev prg O.spec_l04Can Try.f58 [a0, a1] H K = F.spec_l04Can a0 a1 H K) h)

/-! loop.example/g01381/spec.l04Own: function 64 -/
def F.spec_l04Own (a0 : Value) (H : Hp) (K : Value → Hp → Prop) : Prop :=
  nw #[(.int .i64 0), (.int .i64 0), (.slice none 0 0)] 29 H fun v2x1 H2 =>
  ob (vNilC a0) fun v4x3 =>
  ob (vFa 0 v4x3) fun v5x4 =>
  ob (vLoad v5x4 H2) fun v6x5 =>
  ob (vNilC a0) fun v8x6 =>
  ob (vFa 1 v8x6) fun v9x7 =>
  ob (vLoad v9x7 H2) fun v10x8 =>
  ob (vNilC a0) fun v13x9 =>
  ob (vFa 2 v13x9) fun v14x10 =>
  ob (vLoad v14x10 H2) fun v15x11 =>
  bS 1 0 #[(.int .i64 0)] 2 [] H2 fun v11x12 H13 =>
  apd 1 8 #[(.int .i64 0)] 2 v11x12 v15x11 H13 fun v16x14 H15 =>
  Le H13 H15 ∧ (ob (vBuild [(0, 1), (1, 1), (2, 1)] (.agg #[(.int .i64 0), (.int .i64 0), (.slice none 0 0)]) [(0, v6x5), (1, v10x8), (2, v16x14)]) fun v17x16 =>
  st 3 v2x1 v17x16 H15 fun H17 =>
  ob (vLoadN 3 v2x1 H17) fun u18 => K u18 H17)
def O.spec_l04Own : Nat → Nat × List Nat := fun i => bif Nat.beq i 1 then (1, [0, 1, 2, 3, 4, 5, 6, 7, 9, 10, 11, 12, 8, 13, 14, 15]) else (0, [])
theorem R.spec_l04Own {a0 : Value} {H : Hp} {K : Value → Hp → Prop} (h : F.spec_l04Own a0 H K) : HT prg I.spec_l04Own [a0].toArray H K :=
  HT_of_fev O.spec_l04Own mixed Try.func64 (by kernel_rfl) (Eq.mpr (by kernel_rfl : fev prg O.spec_l04Own Try.f64 [a0] H K = F.spec_l04Own a0 H K) h)

/-! loop.example/g01381/spec.l04New: function 91 -/
def F.spec_l04New (a0 a1 : Value) (H : Hp) (K : Value → Hp → Prop) : Prop :=
  nw #[(.int .i64 0), (.int .i64 0), (.slice none 0 0)] 29 H fun v4x1 H2 =>
  ob (vInt .mul a0 a1) fun v9x3 =>
  mkS 1 8 #[(.int .i64 0)] 2 v9x3 v9x3 H2 fun v10x4 H5 =>
  ob (vBuild [(0, 1), (1, 1), (2, 1)] (.agg #[(.int .i64 0), (.int .i64 0), (.slice none 0 0)]) [(0, a0), (1, a1), (2, v10x4)]) fun v11x6 =>
  st 3 v4x1 v11x6 H5 fun H7 =>
  ob (vLoadN 3 v4x1 H7) fun u8 => K u8 H7
def O.spec_l04New : Nat → Nat × List Nat := fun i => (0, [])
theorem R.spec_l04New {a0 a1 : Value} {H : Hp} {K : Value → Hp → Prop} (h : F.spec_l04New a0 a1 H K) : HT prg I.spec_l04New [a0, a1].toArray H K :=
  HT_of_fev O.spec_l04New mixed Try.func91 (by kernel_rfl) (Eq.mpr (by kernel_rfl : fev prg O.spec_l04New Try.f91 [a0, a1] H K = F.spec_l04New a0 a1 H K) h)

/-! loop.example/g01381/spec.l04Round: function 129 -/
def F.spec_l04Round (a0 a1 a2 : Value) (H : Hp) (K : Value → Hp → Prop) : Prop :=
  ob (vNilC a0) fun v11x1 =>
  ob (vFa 0 v11x1) fun v12x2 =>
  ob (vLoad v12x2 H) fun v13x3 =>
  ob (vInt .rem a1 v13x3) fun v14x4 =>
  ob (vNilC a0) fun v16x5 =>
  ob (vFa 0 v16x5) fun v17x6 =>
  ob (vLoad v17x6 H) fun v18x7 =>
  ob (vInt .add v14x4 v18x7) fun v19x8 =>
  ob (vNilC a0) fun v21x9 =>
  ob (vFa 0 v21x9) fun v22x10 =>
  ob (vLoad v22x10 H) fun v23x11 =>
  ob (vInt .rem v19x8 v23x11) fun v24x12 =>
  ob (vNilC a0) fun v27x13 =>
  ob (vFa 1 v27x13) fun v28x14 =>
  ob (vLoad v28x14 H) fun v29x15 =>
  ob (vInt .rem a2 v29x15) fun v30x16 =>
  ob (vNilC a0) fun v32x17 =>
  ob (vFa 1 v32x17) fun v33x18 =>
  ob (vLoad v33x18 H) fun v34x19 =>
  ob (vInt .add v30x16 v34x19) fun v35x20 =>
  ob (vNilC a0) fun v37x21 =>
  ob (vFa 1 v37x21) fun v38x22 =>
  ob (vLoad v38x22 H) fun v39x23 =>
  ob (vInt .rem v35x20 v39x23) fun v40x24 =>
  ob (vNilC a0) fun v43x25 =>
  ob (vFa 1 v43x25) fun v44x26 =>
  ob (vLoad v44x26 H) fun v45x27 =>
  ob (vInt .mul v24x12 v45x27) fun v46x28 =>
  ob (vInt .add v46x28 v40x24) fun v48x29 =>
  K v48x29 H
def O.spec_l04Round : Nat → Nat × List Nat := fun i => bif Nat.beq i 1 then (0, [0, 1, 2, 3, 4, 5, 6, 7, 8, 9, 10, 11, 12, 13, 14, 15, 16]) else bif Nat.beq i 2 then (0, [0, 1, 2, 3, 4, 5, 6, 7, 8, 9, 10, 11, 12, 13, 14, 15, 16]) else (0, [])
theorem R.spec_l04Round {a0 a1 a2 : Value} {H : Hp} {K : Value → Hp → Prop} (h : F.spec_l04Round a0 a1 a2 H K) : HT prg I.spec_l04Round [a0, a1, a2].toArray H K :=
  HT_of_fev O.spec_l04Round mixed Try.func129 (by kernel_rfl) (Eq.mpr (by kernel_rfl : fev prg O.spec_l04Round Try.f129 [a0, a1, a2] H K = F.spec_l04Round a0 a1 a2 H K) h)

/-! loop.example/g01381/spec.l04Around: function 113 -/
def F.spec_l04Around (a0 a1 a2 a3 : Value) (H : Hp) (K : Value → Hp → Prop) : Prop :=
  jn (fun σ1 H1 =>
    K (σ1 9) H1) fun J1 =>
  ob (vInt .sub a1 (.int .i64 1)) fun v13x2 =>
  lpE (fun Q3 σ3 H3 =>
    ob (vInt .add (σ3 1) (.int .i64 1)) fun v16x4 =>
    ob (vInt .leq (σ3 10) v16x4) fun v17x5 =>
    cnd v17x5
      (jn (fun σ6 H6 =>
      ob (vInt .add (σ6 10) (.int .i64 1)) fun v19x7 =>
      Q3 .normal (up (up (up σ6 18 (σ6 10)) 19 v19x7) 10 v19x7) H6) fun J6 =>
    ob (vInt .sub (σ3 2) (.int .i64 1)) fun v21x8 =>
    lpE (fun Q9 σ9 H9 =>
      ob (vInt .add (σ9 2) (.int .i64 1)) fun v24x10 =>
      ob (vInt .leq (σ9 11) v24x10) fun v25x11 =>
      cnd v25x11
        (ob (vInt .eql (σ9 10) (σ9 1)) fun v30x12 =>
      gop v30x12 true (fun K13 => K13 (σ9 11) H9) H9 fun v32x14 H15 =>
      gop v30x12 true (fun K16 => K16 (σ9 2) H15) H15 fun v33x17 H18 =>
      gop v30x12 true (fun K19 => ob (vInt .eql v32x14 v33x17) fun u => K19 u H18) H18 fun v34x20 H21 =>
      ob (vPick v30x12 v34x20 (.bool false)) fun v35x22 =>
      cnd v35x22
        (ob (vInt .add (σ9 11) (.int .i64 1)) fun v27x23 =>
      Q9 .normal (up (up (up (up (up (up (up (up (up (up (up (up (up (up (up σ9 22 (σ9 11)) 23 (σ9 2)) 24 v24x10) 25 v25x11) 28 (σ9 10)) 29 (σ9 1)) 30 v30x12) 31 v30x12) 32 v32x14) 33 v33x17) 34 v34x20) 35 v35x22) 26 (σ9 11)) 27 v27x23) 11 v27x23) H21)
        (gop (σ9 3) false (fun K24 => K24 (σ9 10) H21) H21 fun v38x25 H26 =>
      gop (σ9 3) false (fun K27 => K27 (σ9 0) H26) H26 fun v39x28 H29 =>
      gop (σ9 3) false (fun K30 => ob (vNilC v39x28) fun u => K30 u H29) H29 fun v40x31 H32 =>
      gop (σ9 3) false (fun K33 => ob (vFa 0 v40x31) fun u => K33 u H32) H32 fun v41x34 H35 =>
      gop (σ9 3) false (fun K36 => ob (vLoad v41x34 H35) fun u => K36 u H35) H35 fun v42x37 H38 =>
      gop (σ9 3) false (fun K39 => ob (vInt .sub v42x37 (.int .i64 1)) fun u => K39 u H38) H38 fun v43x40 H41 =>
      gop (σ9 3) false (fun K42 => HT prg I.spec_l00In [v38x25, (.int .i64 0), v43x40].toArray H41 K42) H41 fun v44x43 H44 =>
      gop (σ9 3) false (fun K45 => K45 v44x43 H44) H44 fun v45x46 H47 =>
      gop v45x46 true (fun K48 => K48 (σ9 11) H47) H47 fun v46x49 H50 =>
      gop v45x46 true (fun K51 => K51 (σ9 0) H50) H50 fun v47x52 H53 =>
      gop v45x46 true (fun K54 => ob (vNilC v47x52) fun u => K54 u H53) H53 fun v48x55 H56 =>
      gop v45x46 true (fun K57 => ob (vFa 1 v48x55) fun u => K57 u H56) H56 fun v49x58 H59 =>
      gop v45x46 true (fun K60 => ob (vLoad v49x58 H59) fun u => K60 u H59) H59 fun v50x61 H62 =>
      gop v45x46 true (fun K63 => ob (vInt .sub v50x61 (.int .i64 1)) fun u => K63 u H62) H62 fun v51x64 H65 =>
      gop v45x46 true (fun K66 => HT prg I.spec_l00In [v46x49, (.int .i64 0), v51x64].toArray H65 K66) H65 fun v52x67 H68 =>
      gop (σ9 3) false (fun K69 => ob (vPick v45x46 v52x67 (.bool false)) fun u => K69 u H68) H68 fun v53x70 H71 =>
      ob (vPick (σ9 3) (.bool true) v53x70) fun v54x72 =>
      cnd v54x72
        (ob (vNilC (σ9 0)) fun v57x73 =>
        ob (vFa 2 v57x73) fun v58x74 =>
        ob (vLoad v58x74 H71) fun v59x75 =>
        HT prg I.spec_l04Round [(σ9 0), (σ9 10), (σ9 11)].toArray H71 fun v63x76 H77 =>
        Le H71 H77 ∧ (ob (vIx 1 v59x75 v63x76) fun v64x78 =>
        ob (vLoad v64x78 H77) fun v65x79 =>
        ob (vInt .add (σ9 9) v65x79) fun v66x80 =>
        ob (vInt .add (σ9 11) (.int .i64 1)) fun v27x81 =>
      Q9 .normal (up (up (up (up (up (up (up (up (up (up (up (up (up (up (up (up (up (up (up (up (up (up (up (up (up (up (up (up (up (up (up (up (up (up (up (up (up (up (up (up (up (up (up (up (up (up (up σ9 22 (σ9 11)) 23 (σ9 2)) 24 v24x10) 25 v25x11) 28 (σ9 10)) 29 (σ9 1)) 30 v30x12) 31 v30x12) 32 v32x14) 33 v33x17) 34 v34x20) 35 v35x22) 36 (σ9 3)) 37 (σ9 3)) 38 v38x25) 39 v39x28) 40 v40x31) 41 v41x34) 42 v42x37) 43 v43x40) 44 v44x43) 45 v45x46) 46 v46x49) 47 v47x52) 48 v48x55) 49 v49x58) 50 v50x61) 51 v51x64) 52 v52x67) 53 v53x70) 54 v54x72) 55 (σ9 9)) 56 (σ9 0)) 57 v57x73) 58 v58x74) 59 v59x75) 60 (σ9 0)) 61 (σ9 10)) 62 (σ9 11)) 63 v63x76) 64 v64x78) 65 v65x79) 66 v66x80) 9 v66x80) 26 (σ9 11)) 27 v27x81) 11 v27x81) H77))
        (ob (vInt .add (σ9 11) (.int .i64 1)) fun v27x82 =>
      Q9 .normal (up (up (up (up (up (up (up (up (up (up (up (up (up (up (up (up (up (up (up (up (up (up (up (up (up (up (up (up (up (up (up (up (up (up σ9 22 (σ9 11)) 23 (σ9 2)) 24 v24x10) 25 v25x11) 28 (σ9 10)) 29 (σ9 1)) 30 v30x12) 31 v30x12) 32 v32x14) 33 v33x17) 34 v34x20) 35 v35x22) 36 (σ9 3)) 37 (σ9 3)) 38 v38x25) 39 v39x28) 40 v40x31) 41 v41x34) 42 v42x37) 43 v43x40) 44 v44x43) 45 v45x46) 46 v46x49) 47 v47x52) 48 v48x55) 49 v49x58) 50 v50x61) 51 v51x64) 52 v52x67) 53 v53x70) 54 v54x72) 26 (σ9 11)) 27 v27x82) 11 v27x82) H71)))
        (Q9 (.exit 2) (up (up (up (up σ9 22 (σ9 11)) 23 (σ9 2)) 24 v24x10) 25 v25x11) H9)) (blkQ 2 (blkQ 1 (thenQ J6 Q3))) (up (up (up (up (up (up (up σ3 14 (σ3 10)) 15 (σ3 1)) 16 v16x4) 17 v17x5) 20 (σ3 2)) 21 v21x8) 11 v21x8) H3)
      (Q3 (.exit 0) (up (up (up (up σ3 14 (σ3 10)) 15 (σ3 1)) 16 v16x4) 17 v17x5) H3)) (blkQ 0 (thenQ J1 (retQ prg [(.tmp 8)] K))) (up (up (up (up (up (S0 [a0, a1, a2, a3]) 8 (.int .i64 0)) 9 (.int .i64 0)) 12 a1) 13 v13x2) 10 v13x2) H
def O.spec_l04Around : Nat → Nat × List Nat := fun i => bif Nat.beq i 10 then (0, [0, 1, 2, 3, 4, 5, 6, 7, 8, 9, 10, 11, 12]) else (0, [])
theorem R.spec_l04Around {a0 a1 a2 a3 : Value} {H : Hp} {K : Value → Hp → Prop} (h : F.spec_l04Around a0 a1 a2 a3 H K) : HT prg I.spec_l04Around [a0, a1, a2, a3].toArray H K :=
  HT_of_fev O.spec_l04Around mixed Try.func113 (by kernel_rfl) (Eq.mpr (by kernel_rfl : fev prg O.spec_l04Around Try.f113 [a0, a1, a2, a3] H K = F.spec_l04Around a0 a1 a2 a3 H K) h)

/-! loop.example/g01381/spec.l04Has: function 114 -/
def F.spec_l04Has (a0 a1 : Value) (H : Hp) (K : Value → Hp → Prop) : Prop :=
  jn (fun σ1 H1 =>
    K (.bool false) H1) fun J1 =>
  lpE (fun Q2 σ2 H2 =>
    ob (vLenSl (σ2 0)) fun v8x3 =>
    ob (vInt .lss (σ2 5) v8x3) fun v9x4 =>
    cnd v9x4
      (ob (vIx 1 (σ2 0) (σ2 5)) fun v14x5 =>
    ob (vLoad v14x5 H2) fun v15x6 =>
    ob (vInt .eql v15x6 (σ2 1)) fun v17x7 =>
    cnd v17x7
      (Q2 .ret (up (up (up (up (up (up (up (up (up (up (up σ2 6 (σ2 5)) 7 (σ2 0)) 8 v8x3) 9 v9x4) 12 (σ2 0)) 13 (σ2 5)) 14 v14x5) 15 v15x6) 16 (σ2 1)) 17 v17x7) 4 (.bool true)) H2)
      (ob (vInt .add (σ2 5) (.int .i64 1)) fun v11x8 =>
    Q2 .normal (up (up (up (up (up (up (up (up (up (up (up (up (up σ2 6 (σ2 5)) 7 (σ2 0)) 8 v8x3) 9 v9x4) 12 (σ2 0)) 13 (σ2 5)) 14 v14x5) 15 v15x6) 16 (σ2 1)) 17 v17x7) 10 (σ2 5)) 11 v11x8) 5 v11x8) H2))
      (Q2 (.exit 0) (up (up (up (up σ2 6 (σ2 5)) 7 (σ2 0)) 8 v8x3) 9 v9x4) H2)) (blkQ 0 (thenQ J1 (retQ prg [(.tmp 4)] K))) (up (up (S0 [a0, a1]) 4 (.bool false)) 5 (.int .i64 0)) H
def O.spec_l04Has : Nat → Nat × List Nat := fun i => (0, [])
theorem R.spec_l04Has {a0 a1 : Value} {H : Hp} {K : Value → Hp → Prop} (h : F.spec_l04Has a0 a1 H K) : HT prg I.spec_l04Has [a0, a1].toArray H K :=
  HT_of_fev O.spec_l04Has mixed Try.func114 (by kernel_rfl) (Eq.mpr (by kernel_rfl : fev prg O.spec_l04Has Try.f114 [a0, a1] H K = F.spec_l04Has a0 a1 H K) h)

/-! loop.example/g01381/spec.l04Next: function 66 -/
def F.spec_l04Next (a0 a1 a2 : Value) (H : Hp) (K : Value → Hp → Prop) : Prop :=
  nw #[(.int .i64 0), (.int .i64 0), (.slice none 0 0)] 29 H fun v6x1 H2 =>
  ob (vNilC a1) fun v13x3 =>
  ob (vFa 0 v13x3) fun v14x4 =>
  ob (vLoad v14x4 H2) fun v15x5 =>
  ob (vNilC a1) fun v17x6 =>
  ob (vFa 1 v17x6) fun v18x7 =>
  ob (vLoad v18x7 H2) fun v19x8 =>
  HT prg I.spec_l04New [v15x5, v19x8].toArray H2 fun v20x9 H10 =>
  Le H2 H10 ∧ (nw #[(.int .i64 0), (.int .i64 0), (.slice none 0 0)] 29 H10 fun v7x11 H12 =>
  st 3 v7x11 v20x9 H12 fun H13 =>
  jn (fun σ14 H14 =>
    ob (vLoadN 3 (σ14 7) H14) fun v88x15 =>
    st 3 (σ14 6) v88x15 H14 fun H16 =>
    ob (vLoadN 3 (σ14 6) H16) fun u17 => K u17 H16) fun J14 =>
  lpE (fun Q18 σ18 H18 =>
    ob (vNilC (σ18 1)) fun v23x19 =>
    ob (vFa 0 v23x19) fun v24x20 =>
    ob (vLoad v24x20 H18) fun v25x21 =>
    ob (vInt .lss (σ18 8) v25x21) fun v26x22 =>
    cnd v26x22
      (jn (fun σ23 H23 =>
      ob (vInt .add (σ23 8) (.int .i64 1)) fun v28x24 =>
      Q18 .normal (up (up (up σ23 27 (σ23 8)) 28 v28x24) 8 v28x24) H23) fun J23 =>
    lpE (fun Q25 σ25 H25 =>
      ob (vNilC (σ25 1)) fun v31x26 =>
      ob (vFa 1 v31x26) fun v32x27 =>
      ob (vLoad v32x27 H25) fun v33x28 =>
      ob (vInt .lss (σ25 9) v33x28) fun v34x29 =>
      cnd v34x29
        (HT prg I.spec_l04Around [(σ25 1), (σ25 8), (σ25 9), (σ25 2)].toArray H25 fun v41x30 H31 =>
      ob (vNilC (σ25 1)) fun v44x32 =>
      ob (vFa 1 v44x32) fun v45x33 =>
      ob (vLoad v45x33 H31) fun v46x34 =>
      ob (vInt .mul (σ25 8) v46x34) fun v47x35 =>
      ob (vInt .add v47x35 (σ25 9)) fun v49x36 =>
      ob (vNilC (σ25 1)) fun v51x37 =>
      ob (vFa 2 v51x37) fun v52x38 =>
      ob (vLoad v52x38 H31) fun v53x39 =>
      ob (vIx 1 v53x39 v49x36) fun v55x40 =>
      ob (vLoad v55x40 H31) fun v56x41 =>
      ob (vInt .eql v56x41 (.int .i64 0)) fun v57x42 =>
      gop v57x42 true (fun K43 => K43 (σ25 0) H31) H31 fun v59x44 H45 =>
      gop v57x42 true (fun K46 => ob (vNilC v59x44) fun u => K46 u H45) H45 fun v60x47 H48 =>
      gop v57x42 true (fun K49 => ob (vFa 0 v60x47) fun u => K49 u H48) H48 fun v61x50 H51 =>
      gop v57x42 true (fun K52 => ob (vLoad v61x50 H51) fun u => K52 u H51) H51 fun v62x53 H54 =>
      gop v57x42 true (fun K55 => K55 v41x30 H54) H54 fun v63x56 H57 =>
      gop v57x42 true (fun K58 => HT prg I.spec_l04Has [v62x53, v63x56].toArray H57 K58) H57 fun v64x59 H60 =>
      ob (vPick v57x42 v64x59 (.bool false)) fun v65x61 =>
      gop v65x61 false (fun K62 => K62 (σ25 1) H60) H60 fun v67x63 H64 =>
      gop v65x61 false (fun K65 => ob (vNilC v67x63) fun u => K65 u H64) H64 fun v68x66 H67 =>
      gop v65x61 false (fun K68 => ob (vFa 2 v68x66) fun u => K68 u H67) H67 fun v69x69 H70 =>
      gop v65x61 false (fun K71 => ob (vLoad v69x69 H70) fun u => K71 u H70) H70 fun v70x72 H73 =>
      gop v65x61 false (fun K74 => K74 v49x36 H73) H73 fun v71x75 H76 =>
      gop v65x61 false (fun K77 => ob (vIx 1 v70x72 v71x75) fun u => K77 u H76) H76 fun v72x78 H79 =>
      gop v65x61 false (fun K80 => ob (vLoad v72x78 H79) fun u => K80 u H79) H79 fun v73x81 H82 =>
      gop v65x61 false (fun K83 => ob (vInt .eql v73x81 (.int .i64 1)) fun u => K83 u H82) H82 fun v74x84 H85 =>
      gop v65x61 false (fun K86 => K86 v74x84 H85) H85 fun v75x87 H88 =>
      gop v75x87 true (fun K89 => K89 (σ25 0) H88) H88 fun v76x90 H91 =>
      gop v75x87 true (fun K92 => ob (vNilC v76x90) fun u => K92 u H91) H91 fun v77x93 H94 =>
      gop v75x87 true (fun K95 => ob (vFa 1 v77x93) fun u => K95 u H94) H94 fun v78x96 H97 =>
      gop v75x87 true (fun K98 => ob (vLoad v78x96 H97) fun u => K98 u H97) H97 fun v79x99 H100 =>
      gop v75x87 true (fun K101 => K101 v41x30 H100) H100 fun v80x102 H103 =>
      gop v75x87 true (fun K104 => HT prg I.spec_l04Has [v79x99, v80x102].toArray H103 K104) H103 fun v81x105 H106 =>
      gop v65x61 false (fun K107 => ob (vPick v75x87 v81x105 (.bool false)) fun u => K107 u H106) H106 fun v82x108 H109 =>
      ob (vPick v65x61 (.bool true) v82x108) fun v83x110 =>
      cnd v83x110
        (ob (vFa 2 (σ25 7)) fun v84x111 =>
        ob (vLoad v84x111 H109) fun v85x112 =>
        ob (vIx 1 v85x112 v49x36) fun v87x113 =>
        st 1 v87x113 (.int .i64 1) H109 fun H114 =>
        ob (vInt .add (σ25 9) (.int .i64 1)) fun v36x115 =>
      Q25 .normal (up (up (up (up (up (up (up (up (up (up (up (up (up (up (up (up (up (up (up (up (up (up (up (up (up (up (up (up (up (up (up (up (up (up (up (up (up (up (up (up (up (up (up (up (up (up (up (up (up (up (up (up (up (up (up (up (up (up (up (up (up (up σ25 29 (σ25 9)) 30 (σ25 1)) 31 v31x26) 32 v32x27) 33 v33x28) 34 v34x29) 37 (σ25 1)) 38 (σ25 8)) 39 (σ25 9)) 40 (σ25 2)) 41 v41x30) 10 v41x30) 42 (σ25 8)) 43 (σ25 1)) 44 v44x32) 45 v45x33) 46 v46x34) 47 v47x35) 48 (σ25 9)) 49 v49x36) 11 v49x36) 50 (σ25 1)) 51 v51x37) 52 v52x38) 53 v53x39) 54 v49x36) 55 v55x40) 56 v56x41) 57 v57x42) 58 v57x42) 59 v59x44) 60 v60x47) 61 v61x50) 62 v62x53) 63 v63x56) 64 v64x59) 65 v65x61) 66 v65x61) 67 v67x63) 68 v68x66) 69 v69x69) 70 v70x72) 71 v71x75) 72 v72x78) 73 v73x81) 74 v74x84) 75 v75x87) 76 v76x90) 77 v77x93) 78 v78x96) 79 v79x99) 80 v80x102) 81 v81x105) 82 v82x108) 83 v83x110) 84 v84x111) 85 v85x112) 86 v49x36) 87 v87x113) 35 (σ25 9)) 36 v36x115) 9 v36x115) H114)
        (ob (vInt .add (σ25 9) (.int .i64 1)) fun v36x116 =>
      Q25 .normal (up (up (up (up (up (up (up (up (up (up (up (up (up (up (up (up (up (up (up (up (up (up (up (up (up (up (up (up (up (up (up (up (up (up (up (up (up (up (up (up (up (up (up (up (up (up (up (up (up (up (up (up (up (up (up (up (up (up σ25 29 (σ25 9)) 30 (σ25 1)) 31 v31x26) 32 v32x27) 33 v33x28) 34 v34x29) 37 (σ25 1)) 38 (σ25 8)) 39 (σ25 9)) 40 (σ25 2)) 41 v41x30) 10 v41x30) 42 (σ25 8)) 43 (σ25 1)) 44 v44x32) 45 v45x33) 46 v46x34) 47 v47x35) 48 (σ25 9)) 49 v49x36) 11 v49x36) 50 (σ25 1)) 51 v51x37) 52 v52x38) 53 v53x39) 54 v49x36) 55 v55x40) 56 v56x41) 57 v57x42) 58 v57x42) 59 v59x44) 60 v60x47) 61 v61x50) 62 v62x53) 63 v63x56) 64 v64x59) 65 v65x61) 66 v65x61) 67 v67x63) 68 v68x66) 69 v69x69) 70 v70x72) 71 v71x75) 72 v72x78) 73 v73x81) 74 v74x84) 75 v75x87) 76 v76x90) 77 v77x93) 78 v78x96) 79 v79x99) 80 v80x102) 81 v81x105) 82 v82x108) 83 v83x110) 35 (σ25 9)) 36 v36x116) 9 v36x116) H109))
        (Q25 (.exit 2) (up (up (up (up (up (up σ25 29 (σ25 9)) 30 (σ25 1)) 31 v31x26) 32 v32x27) 33 v33x28) 34 v34x29) H25)) (blkQ 2 (blkQ 1 (thenQ J23 Q18))) (up (up (up (up (up (up (up σ18 21 (σ18 8)) 22 (σ18 1)) 23 v23x19) 24 v24x20) 25 v25x21) 26 v26x22) 9 (.int .i64 0)) H18)
      (Q18 (.exit 0) (up (up (up (up (up (up σ18 21 (σ18 8)) 22 (σ18 1)) 23 v23x19) 24 v24x20) 25 v25x21) 26 v26x22) H18)) (blkQ 0 (thenQ J14 (retQ prg [(.cell 6 29)] K))) (up (up (up (up (up (up (up (up (up (up (up (up (S0 [a0, a1, a2]) 6 v6x1) 12 a1) 13 v13x3) 14 v14x4) 15 v15x5) 16 a1) 17 v17x6) 18 v18x7) 19 v19x8) 20 v20x9) 7 v7x11) 8 (.int .i64 0)) H13)
def O.spec_l04Next : Nat → Nat × List Nat := fun i => bif Nat.beq i 1 then (0, [0, 1, 2, 3, 4, 5, 6, 7, 8, 9, 10]) else (0, [])
theorem R.spec_l04Next {a0 a1 a2 : Value} {H : Hp} {K : Value → Hp → Prop} (h : F.spec_l04Next a0 a1 a2 H K) : HT prg I.spec_l04Next [a0, a1, a2].toArray H K :=
  HT_of_fev O.spec_l04Next mixed Try.func66 (by kernel_rfl) (Eq.mpr (by kernel_rfl : fev prg O.spec_l04Next Try.f66 [a0, a1, a2] H K = F.spec_l04Next a0 a1 a2 H K) h)

/-! loop.example/g01381/spec.l04Run: function 60 -/
def F.spec_l04Run (a0 a1 a2 a3 : Value) (H : Hp) (K : Value → Hp → Prop) : Prop :=
  nw #[(.int .i64 0), (.int .i64 0), (.slice none 0 0)] 29 H fun v8x1 H2 =>
  HT prg I.spec_l04Own [a1].toArray H2 fun v11x3 H4 =>
  nw #[(.int .i64 0), (.int .i64 0), (.slice none 0 0)] 29 H4 fun v9x5 H6 =>
  st 3 v9x5 v11x3 H6 fun H7 =>
  jn (fun σ8 H8 =>
    ob (vLoadN 3 (σ8 9) H8) fun v19x9 =>
    st 3 (σ8 8) v19x9 H8 fun H10 =>
    ob (vLoadN 3 (σ8 8) H10) fun u11 => K u11 H10) fun J8 =>
  lpE (fun Q12 σ12 H12 =>
    ob (vInt .gtr (σ12 3) (.int .i64 0)) fun v13x13 =>
    cnd v13x13
      (HT prg I.spec_l04Next [(σ12 0), (σ12 9), (σ12 2)].toArray H12 fun v18x14 H15 =>
    st 3 (σ12 9) v18x14 H15 fun H16 =>
    ob (vInt .sub (σ12 3) (.int .i64 1)) fun v15x17 =>
    Q12 .normal (up (up (up (up (up (up (up (up σ12 12 (σ12 3)) 13 v13x13) 16 (σ12 0)) 17 (σ12 2)) 18 v18x14) 14 (σ12 3)) 15 v15x17) 3 v15x17) H16)
      (Q12 (.exit 0) (up (up σ12 12 (σ12 3)) 13 v13x13) H12)) (blkQ 0 (thenQ J8 (retQ prg [(.cell 8 29)] K))) (up (up (up (up (S0 [a0, a1, a2, a3]) 8 v8x1) 10 a1) 11 v11x3) 9 v9x5) H7
def O.spec_l04Run : Nat → Nat × List Nat := fun i => (0, [])
theorem R.spec_l04Run {a0 a1 a2 a3 : Value} {H : Hp} {K : Value → Hp → Prop} (h : F.spec_l04Run a0 a1 a2 a3 H K) : HT prg I.spec_l04Run [a0, a1, a2, a3].toArray H K :=
  HT_of_fev O.spec_l04Run mixed Try.func60 (by kernel_rfl) (Eq.mpr (by kernel_rfl : fev prg O.spec_l04Run Try.f60 [a0, a1, a2, a3] H K = F.spec_l04Run a0 a1 a2 a3 H K) h)

/-! loop.example/g01381/spec.RunLife: function 17 -/
def F.spec_RunLife (a0 a1 a2 a3 : Value) (H : Hp) (K : Value → Hp → Prop) : Prop :=
  nw (a0 : Value).cells 32 H fun v4x1 H2 =>
  nw (a1 : Value).cells 29 H2 fun v5x3 H4 =>
  nw #[(.int .i64 0), (.int .i64 0), (.slice none 0 0)] 29 H4 fun v8x5 H6 =>
  HT prg I.spec_l04Can [v4x1, v5x3].toArray H6 fun v10x7 H8 =>
  ob (vUn .not v10x7) fun v11x9 =>
  gop v11x9 false (fun K10 => K10 a3 H8) H8 fun v13x11 H12 =>
  gop v11x9 false (fun K13 => HT prg I.spec_l00In [v13x11, (.int .i64 0), (.int .i64 512)].toArray H12 K13) H12 fun v14x14 H15 =>
  gop v11x9 false (fun K16 => ob (vUn .not v14x14) fun u => K16 u H15) H15 fun v15x17 H18 =>
  ob (vPick v11x9 (.bool true) v15x17) fun v16x19 =>
  cnd v16x19
    (ob (vBuild [(0, 1), (1, 1), (2, 1)] (.agg #[(.int .i64 0), (.int .i64 0), (.slice none 0 0)]) []) fun v17x20 =>
    st 3 v8x5 v17x20 H18 fun H21 =>
    ob (vLoadN 3 v8x5 H21) fun u22 => K (.tuple #[u22, (.bool false)]) H21)
    (HT prg I.spec_l04Run [v4x1, v5x3, a2, a3].toArray H18 fun v20x23 H24 =>
  st 3 v8x5 v20x23 H24 fun H25 =>
  ob (vLoadN 3 v8x5 H25) fun u26 => K (.tuple #[u26, (.bool true)]) H25)
def O.spec_RunLife : Nat → Nat × List Nat := fun i => (0, [])
theorem R.spec_RunLife {a0 a1 a2 a3 : Value} {H : Hp} {K : Value → Hp → Prop} (h : F.spec_RunLife a0 a1 a2 a3 H K) : HT prg I.spec_RunLife [a0, a1, a2, a3].toArray H K :=
  HT_of_fev O.spec_RunLife mixed Try.func17 (by kernel_rfl) (Eq.mpr (by kernel_rfl : fev prg O.spec_RunLife Try.f17 [a0, a1, a2, a3] H K = F.spec_RunLife a0 a1 a2 a3 H K) h)

/-! loop.example/g01381/laws.toInt64S: function 53 -/
def F.laws_toInt64S (a0 : Value) (H : Hp) (K : Value → Hp → Prop) : Prop :=
  ob (vLenSl a0) fun v6x1 =>
  mkS 1 8 #[(.int .i64 0)] 2 v6x1 v6x1 H fun v7x2 H3 =>
  jn (fun σ4 H4 =>
    K (σ4 3) H4) fun J4 =>
  lpE (fun Q5 σ5 H5 =>
    ob (vLenSl (σ5 0)) fun v10x6 =>
    ob (vInt .lss (σ5 4) v10x6) fun v11x7 =>
    cnd v11x7
      (ob (vIx 1 (σ5 0) (σ5 4)) fun v18x8 =>
    ob (vLoad v18x8 H5) fun v19x9 =>
    ob (vIx 1 (σ5 3) (σ5 4)) fun v20x10 =>
    st 1 v20x10 v19x9 H5 fun H11 =>
    ob (vInt .add (σ5 4) (.int .i64 1)) fun v13x12 =>
    Q5 .normal (up (up (up (up (up (up (up (up (up (up (up (up (up (up σ5 8 (σ5 4)) 9 (σ5 0)) 10 v10x6) 11 v11x7) 14 (σ5 3)) 15 (σ5 4)) 16 (σ5 0)) 17 (σ5 4)) 18 v18x8) 19 v19x9) 20 v20x10) 12 (σ5 4)) 13 v13x12) 4 v13x12) H11)
      (Q5 (.exit 0) (up (up (up (up σ5 8 (σ5 4)) 9 (σ5 0)) 10 v10x6) 11 v11x7) H5)) (blkQ 0 (thenQ J4 (retQ prg [(.tmp 2)] K))) (up (up (up (up (up (up (S0 [a0]) 2 (.slice none 0 0)) 5 a0) 6 v6x1) 7 v7x2) 3 v7x2) 4 (.int .i64 0)) H3
def O.laws_toInt64S : Nat → Nat × List Nat := fun i => (0, [])
theorem R.laws_toInt64S {a0 : Value} {H : Hp} {K : Value → Hp → Prop} (h : F.laws_toInt64S a0 H K) : HT prg I.laws_toInt64S [a0].toArray H K :=
  HT_of_fev O.laws_toInt64S mixed Try.func53 (by kernel_rfl) (Eq.mpr (by kernel_rfl : fev prg O.laws_toInt64S Try.f53 [a0] H K = F.laws_toInt64S a0 H K) h)

/-! loop.example/g01381/laws.toLife: function 18 -/
def F.laws_toLife (a0 : Value) (H : Hp) (K : Value → Hp → Prop) : Prop :=
  nw (a0 : Value).cells 24 H fun v1x1 H2 =>
  nw #[(.slice none 0 0), (.slice none 0 0)] 32 H2 fun v2x3 H4 =>
  nw #[(.slice none 0 0), (.slice none 0 0)] 32 H4 fun v3x5 H6 =>
  ob (vFa 0 v1x1) fun v4x7 =>
  ob (vLoad v4x7 H6) fun v5x8 =>
  HT prg I.laws_toInt64S [v5x8].toArray H6 fun v6x9 H10 =>
  ob (vFa 0 v3x5) fun v7x11 =>
  st 1 v7x11 v6x9 H10 fun H12 =>
  ob (vFa 1 v1x1) fun v8x13 =>
  ob (vLoad v8x13 H12) fun v9x14 =>
  HT prg I.laws_toInt64S [v9x14].toArray H12 fun v10x15 H16 =>
  ob (vFa 1 v3x5) fun v11x17 =>
  st 1 v11x17 v10x15 H16 fun H18 =>
  ob (vLoadN 2 v3x5 H18) fun v12x19 =>
  st 2 v2x3 v12x19 H18 fun H20 =>
  ob (vLoadN 2 v2x3 H20) fun u21 => K u21 H20
def O.laws_toLife : Nat → Nat × List Nat := fun i => (0, [])
theorem R.laws_toLife {a0 : Value} {H : Hp} {K : Value → Hp → Prop} (h : F.laws_toLife a0 H K) : HT prg I.laws_toLife [a0].toArray H K :=
  HT_of_fev O.laws_toLife mixed Try.func18 (by kernel_rfl) (Eq.mpr (by kernel_rfl : fev prg O.laws_toLife Try.f18 [a0] H K = F.laws_toLife a0 H K) h)

/-! loop.example/g01381/laws.toField: function 19 -/
def F.laws_toField (a0 : Value) (H : Hp) (K : Value → Hp → Prop) : Prop :=
  nw (a0 : Value).cells 26 H fun v1x1 H2 =>
  nw #[(.int .i64 0), (.int .i64 0), (.slice none 0 0)] 29 H2 fun v2x3 H4 =>
  nw #[(.int .i64 0), (.int .i64 0), (.slice none 0 0)] 29 H4 fun v3x5 H6 =>
  ob (vFa 0 v1x1) fun v4x7 =>
  ob (vLoad v4x7 H6) fun v5x8 =>
  ob (vFa 0 v3x5) fun v6x9 =>
  st 1 v6x9 v5x8 H6 fun H10 =>
  ob (vFa 1 v1x1) fun v7x11 =>
  ob (vLoad v7x11 H10) fun v8x12 =>
  ob (vFa 1 v3x5) fun v9x13 =>
  st 1 v9x13 v8x12 H10 fun H14 =>
  ob (vFa 2 v1x1) fun v10x15 =>
  ob (vLoad v10x15 H14) fun v11x16 =>
  HT prg I.laws_toInt64S [v11x16].toArray H14 fun v12x17 H18 =>
  ob (vFa 2 v3x5) fun v13x19 =>
  st 1 v13x19 v12x17 H18 fun H20 =>
  ob (vLoadN 3 v3x5 H20) fun v14x21 =>
  st 3 v2x3 v14x21 H20 fun H22 =>
  ob (vLoadN 3 v2x3 H22) fun u23 => K u23 H22
def O.laws_toField : Nat → Nat × List Nat := fun i => (0, [])
theorem R.laws_toField {a0 : Value} {H : Hp} {K : Value → Hp → Prop} (h : F.laws_toField a0 H K) : HT prg I.laws_toField [a0].toArray H K :=
  HT_of_fev O.laws_toField mixed Try.func19 (by kernel_rfl) (Eq.mpr (by kernel_rfl : fev prg O.laws_toField Try.f19 [a0] H K = F.laws_toField a0 H K) h)

/-! loop.example/g01381/impl.within: function 62 -/
def F.impl_within (a0 a1 a2 : Value) (H : Hp) (K : Value → Hp → Prop) : Prop :=
  ob (vInt .geq a0 a1) fun v9x1 =>
  gop v9x1 true (fun K2 => K2 a0 H) H fun v11x3 H4 =>
  gop v9x1 true (fun K5 => K5 a2 H4) H4 fun v12x6 H7 =>
  gop v9x1 true (fun K8 => ob (vInt .leq v11x3 v12x6) fun u => K8 u H7) H7 fun v13x9 H10 =>
  ob (vPick v9x1 v13x9 (.bool false)) fun v14x11 =>
  K v14x11 H10
def O.impl_within : Nat → Nat × List Nat := fun i => (0, [])
theorem R.impl_within {a0 a1 a2 : Value} {H : Hp} {K : Value → Hp → Prop} (h : F.impl_within a0 a1 a2 H K) : HT prg I.impl_within [a0, a1, a2].toArray H K :=
  HT_of_fev O.impl_within mixed Try.func62 (by kernel_rfl) (Eq.mpr (by kernel_rfl : fev prg O.impl_within Try.f62 [a0, a1, a2] H K = F.impl_within a0 a1 a2 H K) h)

/-! loop.example/g01381/impl.areWithin: function 140 -/
def F.impl_areWithin (a0 a1 a2 : Value) (H : Hp) (K : Value → Hp → Prop) : Prop :=
  jn (fun σ1 H1 =>
    K (.bool true) H1) fun J1 =>
  ob (vLenSl a0) fun v10x2 =>
  lpE (fun Q3 σ3 H3 =>
    ob (vInt .lss (σ3 11) (σ3 10)) fun v12x4 =>
    cnd v12x4
      (ob (vIx 1 (σ3 9) (σ3 11)) fun v13x5 =>
    ob (vLoad v13x5 H3) fun v14x6 =>
    HT prg I.impl_within [v14x6, (σ3 1), (σ3 2)].toArray H3 fun v18x7 H8 =>
    ob (vUn .not v18x7) fun v19x9 =>
    cnd v19x9
      (Q3 .ret (up (up (up (up (up (up (up (up (up (up σ3 12 v12x4) 13 v13x5) 14 v14x6) 8 v14x6) 15 v14x6) 16 (σ3 1)) 17 (σ3 2)) 18 v18x7) 19 v19x9) 6 (.bool false)) H8)
      (ob (vInt .add (σ3 11) (.int .i64 1)) fun v20x10 =>
    Q3 .normal (up (up (up (up (up (up (up (up (up (up (up σ3 12 v12x4) 13 v13x5) 14 v14x6) 8 v14x6) 15 v14x6) 16 (σ3 1)) 17 (σ3 2)) 18 v18x7) 19 v19x9) 20 v20x10) 11 v20x10) H8))
      (Q3 (.exit 0) (up σ3 12 v12x4) H3)) (blkQ 0 (thenQ J1 (retQ prg [(.tmp 6)] K))) (up (up (up (up (S0 [a0, a1, a2]) 6 (.bool false)) 9 a0) 10 v10x2) 11 (.int .i64 0)) H
def O.impl_areWithin : Nat → Nat × List Nat := fun i => (0, [])
theorem R.impl_areWithin {a0 a1 a2 : Value} {H : Hp} {K : Value → Hp → Prop} (h : F.impl_areWithin a0 a1 a2 H K) : HT prg I.impl_areWithin [a0, a1, a2].toArray H K :=
  HT_of_fev O.impl_areWithin mixed Try.func140 (by kernel_rfl) (Eq.mpr (by kernel_rfl : fev prg O.impl_areWithin Try.f140 [a0, a1, a2] H K = F.impl_areWithin a0 a1 a2 H K) h)

/-! loop.example/g01381/impl.areCounts: function 122 -/
def F.impl_areCounts (a0 : Value) (H : Hp) (K : Value → Hp → Prop) : Prop :=
  jn (fun σ1 H1 =>
    HT prg I.impl_areWithin [(σ1 0), (.int .i64 0), (.int .i64 8)].toArray H1 fun v21x2 H3 =>
    K v21x2 H3) fun J1 =>
  lpE (fun Q4 σ4 H4 =>
    ob (vLenSl (σ4 0)) fun v6x5 =>
    ob (vInt .lss (σ4 3) v6x5) fun v7x6 =>
    cnd v7x6
      (ob (vIx 1 (σ4 0) (σ4 3)) fun v12x7 =>
    ob (vLoad v12x7 H4) fun v13x8 =>
    ob (vInt .sub (σ4 3) (.int .i64 1)) fun v16x9 =>
    ob (vIx 1 (σ4 0) v16x9) fun v17x10 =>
    ob (vLoad v17x10 H4) fun v18x11 =>
    ob (vInt .leq v13x8 v18x11) fun v19x12 =>
    cnd v19x12
      (Q4 .ret (up (up (up (up (up (up (up (up (up (up (up (up (up (up (up σ4 4 (σ4 3)) 5 (σ4 0)) 6 v6x5) 7 v7x6) 10 (σ4 0)) 11 (σ4 3)) 12 v12x7) 13 v13x8) 14 (σ4 0)) 15 (σ4 3)) 16 v16x9) 17 v17x10) 18 v18x11) 19 v19x12) 2 (.bool false)) H4)
      (ob (vInt .add (σ4 3) (.int .i64 1)) fun v9x13 =>
    Q4 .normal (up (up (up (up (up (up (up (up (up (up (up (up (up (up (up (up (up σ4 4 (σ4 3)) 5 (σ4 0)) 6 v6x5) 7 v7x6) 10 (σ4 0)) 11 (σ4 3)) 12 v12x7) 13 v13x8) 14 (σ4 0)) 15 (σ4 3)) 16 v16x9) 17 v17x10) 18 v18x11) 19 v19x12) 8 (σ4 3)) 9 v9x13) 3 v9x13) H4))
      (Q4 (.exit 0) (up (up (up (up σ4 4 (σ4 3)) 5 (σ4 0)) 6 v6x5) 7 v7x6) H4)) (blkQ 0 (thenQ J1 (retQ prg [(.tmp 2)] K))) (up (up (S0 [a0]) 2 (.bool false)) 3 (.int .i64 1)) H
def O.impl_areCounts : Nat → Nat × List Nat := fun i => bif Nat.beq i 4 then (0, [0, 1, 2, 3, 4, 5, 6, 7, 8, 9]) else (0, [])
theorem R.impl_areCounts {a0 : Value} {H : Hp} {K : Value → Hp → Prop} (h : F.impl_areCounts a0 H K) : HT prg I.impl_areCounts [a0].toArray H K :=
  HT_of_fev O.impl_areCounts mixed Try.func122 (by kernel_rfl) (Eq.mpr (by kernel_rfl : fev prg O.impl_areCounts Try.f122 [a0] H K = F.impl_areCounts a0 H K) h)

/-! loop.example/g01381/impl.ValidLife: function 74 -/
def F.impl_ValidLife (a0 : Value) (H : Hp) (K : Value → Hp → Prop) : Prop :=
  nw (a0 : Value).cells 32 H fun v1x1 H2 =>
  ob (vFa 0 v1x1) fun v3x3 =>
  ob (vLoad v3x3 H2) fun v4x4 =>
  HT prg I.impl_areCounts [v4x4].toArray H2 fun v5x5 H6 =>
  gop v5x5 true (fun K7 => ob (vFa 1 v1x1) fun u => K7 u H6) H6 fun v7x8 H9 =>
  gop v5x5 true (fun K10 => ob (vLoad v7x8 H9) fun u => K10 u H9) H9 fun v8x11 H12 =>
  gop v5x5 true (fun K13 => HT prg I.impl_areCounts [v8x11].toArray H12 K13) H12 fun v9x14 H15 =>
  ob (vPick v5x5 v9x14 (.bool false)) fun v10x16 =>
  K v10x16 H15
def O.impl_ValidLife : Nat → Nat × List Nat := fun i => (0, [])
theorem R.impl_ValidLife {a0 : Value} {H : Hp} {K : Value → Hp → Prop} (h : F.impl_ValidLife a0 H K) : HT prg I.impl_ValidLife [a0].toArray H K :=
  HT_of_fev O.impl_ValidLife mixed Try.func74 (by kernel_rfl) (Eq.mpr (by kernel_rfl : fev prg O.impl_ValidLife Try.f74 [a0] H K = F.impl_ValidLife a0 H K) h)

/-! slices.IndexFunc[[]loop.example/g01381/impl.Field,loop.example/g01381/impl.Field]: function 138 -/
def F.slices_IndexFunc_impl_Field_impl_Field (a0 a1 : Value) (H : Hp) (K : Value → Hp → Prop) : Prop :=
  jn (fun σ1 H1 =>
    K (.int .i64 (-1)) H1) fun J1 =>
  ob (vLenSl a0) fun v7x2 =>
  lpE (fun Q3 σ3 H3 =>
    ob (vInt .lss (σ3 8) (σ3 7)) fun v9x4 =>
    cnd v9x4
      (ob (vIx 3 (σ3 0) (σ3 8)) fun v14x5 =>
    ob (vLoadN 3 v14x5 H3) fun v15x6 =>
    callV prg (σ3 1) [v15x6] H3 fun v16x7 H8 =>
    cnd v16x7
      (Q3 .ret (up (up (up (up (up (up (up (up (up (up (up σ3 9 v9x4) 10 (σ3 8)) 5 (σ3 8)) 11 (σ3 1)) 12 (σ3 0)) 13 (σ3 8)) 14 v14x5) 15 v15x6) 16 v16x7) 17 (σ3 8)) 4 (σ3 8)) H8)
      (ob (vInt .add (σ3 8) (.int .i64 1)) fun v18x9 =>
    Q3 .normal (up (up (up (up (up (up (up (up (up (up (up σ3 9 v9x4) 10 (σ3 8)) 5 (σ3 8)) 11 (σ3 1)) 12 (σ3 0)) 13 (σ3 8)) 14 v14x5) 15 v15x6) 16 v16x7) 18 v18x9) 8 v18x9) H8))
      (Q3 (.exit 0) (up σ3 9 v9x4) H3)) (blkQ 0 (thenQ J1 (retQ prg [(.tmp 4)] K))) (up (up (up (up (S0 [a0, a1]) 4 (.int .i64 0)) 6 a0) 7 v7x2) 8 (.int .i64 0)) H
def O.slices_IndexFunc_impl_Field_impl_Field : Nat → Nat × List Nat := fun i => (0, [])
theorem R.slices_IndexFunc_impl_Field_impl_Field {a0 a1 : Value} {H : Hp} {K : Value → Hp → Prop} (h : F.slices_IndexFunc_impl_Field_impl_Field a0 a1 H K) : HT prg I.slices_IndexFunc_impl_Field_impl_Field [a0, a1].toArray H K :=
  HT_of_fev O.slices_IndexFunc_impl_Field_impl_Field mixed Try.func138 (by kernel_rfl) (Eq.mpr (by kernel_rfl : fev prg O.slices_IndexFunc_impl_Field_impl_Field Try.f138 [a0, a1] H K = F.slices_IndexFunc_impl_Field_impl_Field a0 a1 H K) h)

/-! slices.ContainsFunc[[]loop.example/g01381/impl.Field,loop.example/g01381/impl.Field]: function 109 -/
def F.slices_ContainsFunc_impl_Field_impl_Field (a0 a1 : Value) (H : Hp) (K : Value → Hp → Prop) : Prop :=
  HT prg I.slices_IndexFunc_impl_Field_impl_Field [a0, a1].toArray H fun v7x1 H2 =>
  ob (vInt .geq v7x1 (.int .i64 0)) fun v8x3 =>
  K v8x3 H2
def O.slices_ContainsFunc_impl_Field_impl_Field : Nat → Nat × List Nat := fun i => (0, [])
theorem R.slices_ContainsFunc_impl_Field_impl_Field {a0 a1 : Value} {H : Hp} {K : Value → Hp → Prop} (h : F.slices_ContainsFunc_impl_Field_impl_Field a0 a1 H K) : HT prg I.slices_ContainsFunc_impl_Field_impl_Field [a0, a1].toArray H K :=
  HT_of_fev O.slices_ContainsFunc_impl_Field_impl_Field mixed Try.func109 (by kernel_rfl) (Eq.mpr (by kernel_rfl : fev prg O.slices_ContainsFunc_impl_Field_impl_Field Try.f109 [a0, a1] H K = F.slices_ContainsFunc_impl_Field_impl_Field a0 a1 H K) h)

/-! loop.example/g01381/impl.isSide: function 101 -/
def F.impl_isSide (a0 : Value) (H : Hp) (K : Value → Hp → Prop) : Prop :=
  HT prg I.impl_within [a0, (.int .i64 1), (.int .i64 24)].toArray H fun v4x1 H2 =>
  K v4x1 H2
def O.impl_isSide : Nat → Nat × List Nat := fun i => (0, [])
theorem R.impl_isSide {a0 : Value} {H : Hp} {K : Value → Hp → Prop} (h : F.impl_isSide a0 H K) : HT prg I.impl_isSide [a0].toArray H K :=
  HT_of_fev O.impl_isSide mixed Try.func101 (by kernel_rfl) (Eq.mpr (by kernel_rfl : fev prg O.impl_isSide Try.f101 [a0] H K = F.impl_isSide a0 H K) h)

/-! loop.example/g01381/impl.areMany: function 150 -/
def F.impl_areMany (a0 a1 a2 a3 a4 : Value) (H : Hp) (K : Value → Hp → Prop) : Prop :=
  ob (vLenSl a0) fun v12x1 =>
  HT prg I.impl_within [v12x1, a1, a2].toArray H fun v15x2 H3 =>
  gop v15x2 true (fun K4 => K4 a0 H3) H3 fun v17x5 H6 =>
  gop v15x2 true (fun K7 => K7 a3 H6) H6 fun v18x8 H9 =>
  gop v15x2 true (fun K10 => K10 a4 H9) H9 fun v19x11 H12 =>
  gop v15x2 true (fun K13 => HT prg I.impl_areWithin [v17x5, v18x8, v19x11].toArray H12 K13) H12 fun v20x14 H15 =>
  ob (vPick v15x2 v20x14 (.bool false)) fun v21x16 =>
  K v21x16 H15
def O.impl_areMany : Nat → Nat × List Nat := fun i => (0, [])
theorem R.impl_areMany {a0 a1 a2 a3 a4 : Value} {H : Hp} {K : Value → Hp → Prop} (h : F.impl_areMany a0 a1 a2 a3 a4 H K) : HT prg I.impl_areMany [a0, a1, a2, a3, a4].toArray H K :=
  HT_of_fev O.impl_areMany mixed Try.func150 (by kernel_rfl) (Eq.mpr (by kernel_rfl : fev prg O.impl_areMany Try.f150 [a0, a1, a2, a3, a4] H K = F.impl_areMany a0 a1 a2 a3 a4 H K) h)

/-! loop.example/g01381/impl.ValidField: function 139 -/
def F.impl_ValidField (a0 : Value) (H : Hp) (K : Value → Hp → Prop) : Prop :=
  nw (a0 : Value).cells 29 H fun v1x1 H2 =>
  ob (vFa 0 v1x1) fun v4x3 =>
  ob (vLoad v4x3 H2) fun v5x4 =>
  ob (vFa 1 v1x1) fun v6x5 =>
  ob (vLoad v6x5 H2) fun v7x6 =>
  ob (vInt .mul v5x4 v7x6) fun v8x7 =>
  ob (vFa 0 v1x1) fun v9x8 =>
  ob (vLoad v9x8 H2) fun v10x9 =>
  HT prg I.impl_isSide [v10x9].toArray H2 fun v11x10 H11 =>
  gop v11x10 true (fun K12 => ob (vFa 1 v1x1) fun u => K12 u H11) H11 fun v13x13 H14 =>
  gop v11x10 true (fun K15 => ob (vLoad v13x13 H14) fun u => K15 u H14) H14 fun v14x16 H17 =>
  gop v11x10 true (fun K18 => HT prg I.impl_isSide [v14x16].toArray H17 K18) H17 fun v15x19 H20 =>
  ob (vPick v11x10 v15x19 (.bool false)) fun v16x21 =>
  gop v16x21 true (fun K22 => ob (vFa 2 v1x1) fun u => K22 u H20) H20 fun v18x23 H24 =>
  gop v16x21 true (fun K25 => ob (vLoad v18x23 H24) fun u => K25 u H24) H24 fun v19x26 H27 =>
  gop v16x21 true (fun K28 => K28 v8x7 H27) H27 fun v20x29 H30 =>
  gop v16x21 true (fun K31 => K31 v8x7 H30) H30 fun v21x32 H33 =>
  gop v16x21 true (fun K34 => HT prg I.impl_areMany [v19x26, v20x29, v21x32, (.int .i64 0), (.int .i64 9)].toArray H33 K34) H33 fun v22x35 H36 =>
  ob (vPick v16x21 v22x35 (.bool false)) fun v23x37 =>
  K v23x37 H36
def O.impl_ValidField : Nat → Nat × List Nat := fun i => (0, [])
theorem R.impl_ValidField {a0 : Value} {H : Hp} {K : Value → Hp → Prop} (h : F.impl_ValidField a0 H K) : HT prg I.impl_ValidField [a0].toArray H K :=
  HT_of_fev O.impl_ValidField mixed Try.func139 (by kernel_rfl) (Eq.mpr (by kernel_rfl : fev prg O.impl_ValidField Try.f139 [a0] H K = F.impl_ValidField a0 H K) h)

/-! loop.example/g01381/impl.isPlain: function 111 -/
def F.impl_isPlain (a0 : Value) (H : Hp) (K : Value → Hp → Prop) : Prop :=
  nw (a0 : Value).cells 29 H fun v1x1 H2 =>
  ob (vLoadN 3 v1x1 H2) fun v3x3 =>
  HT prg I.impl_ValidField [v3x3].toArray H2 fun v4x4 H5 =>
  gop v4x4 true (fun K6 => ob (vFa 2 v1x1) fun u => K6 u H5) H5 fun v6x7 H8 =>
  gop v4x4 true (fun K9 => ob (vLoad v6x7 H8) fun u => K9 u H8) H8 fun v7x10 H11 =>
  gop v4x4 true (fun K12 => HT prg I.impl_areWithin [v7x10, (.int .i64 0), (.int .i64 1)].toArray H11 K12) H11 fun v8x13 H14 =>
  ob (vPick v4x4 v8x13 (.bool false)) fun v9x15 =>
  K v9x15 H14
def O.impl_isPlain : Nat → Nat × List Nat := fun i => (0, [])
theorem R.impl_isPlain {a0 : Value} {H : Hp} {K : Value → Hp → Prop} (h : F.impl_isPlain a0 H K) : HT prg I.impl_isPlain [a0].toArray H K :=
  HT_of_fev O.impl_isPlain mixed Try.func111 (by kernel_rfl) (Eq.mpr (by kernel_rfl : fev prg O.impl_isPlain Try.f111 [a0] H K = F.impl_isPlain a0 H K) h)

/-! loop.example/g01381/impl.lives$1: function 110 -/
def F.impl_lives_1 (a0 : Value) (H : Hp) (K : Value → Hp → Prop) : Prop :=
  nw (a0 : Value).cells 29 H fun v1x1 H2 =>
  ob (vLoadN 3 v1x1 H2) fun v3x3 =>
  HT prg I.impl_isPlain [v3x3].toArray H2 fun v4x4 H5 =>
  ob (vUn .not v4x4) fun v5x6 =>
  K v5x6 H5
def O.impl_lives_1 : Nat → Nat × List Nat := fun i => (0, [])
theorem R.impl_lives_1 {a0 : Value} {H : Hp} {K : Value → Hp → Prop} (h : F.impl_lives_1 a0 H K) : HT prg I.impl_lives_1 [a0].toArray H K :=
  HT_of_fev O.impl_lives_1 mixed Try.func110 (by kernel_rfl) (Eq.mpr (by kernel_rfl : fev prg O.impl_lives_1 Try.f110 [a0] H K = F.impl_lives_1 a0 H K) h)

/-! loop.example/g01381/impl.lives: function 61 -/
def F.impl_lives (a0 a1 : Value) (H : Hp) (K : Value → Hp → Prop) : Prop :=
  nw (a0 : Value).cells 32 H fun v2x1 H2 =>
  ob (vLoadN 2 v2x1 H2) fun v5x3 =>
  HT prg I.impl_ValidLife [v5x3].toArray H2 fun v6x4 H5 =>
  gop v6x4 true (fun K6 => K6 a1 H5) H5 fun v8x7 H8 =>
  gop v6x4 true (fun K9 => HT prg I.slices_ContainsFunc_impl_Field_impl_Field [v8x7, (.func (.func I.impl_lives_1) #[] #[])].toArray H8 K9) H8 fun v9x10 H11 =>
  gop v6x4 true (fun K12 => ob (vUn .not v9x10) fun u => K12 u H11) H11 fun v10x13 H14 =>
  ob (vPick v6x4 v10x13 (.bool false)) fun v11x15 =>
  K v11x15 H14
def O.impl_lives : Nat → Nat × List Nat := fun i => (0, [])
theorem R.impl_lives {a0 a1 : Value} {H : Hp} {K : Value → Hp → Prop} (h : F.impl_lives a0 a1 H K) : HT prg I.impl_lives [a0, a1].toArray H K :=
  HT_of_fev O.impl_lives mixed Try.func61 (by kernel_rfl) (Eq.mpr (by kernel_rfl : fev prg O.impl_lives Try.f61 [a0, a1] H K = F.impl_lives a0 a1 H K) h)

/-! loop.example/g01381/impl.madeField: function 94 -/
def F.impl_madeField (a0 a1 a2 : Value) (H : Hp) (K : Value → Hp → Prop) : Prop :=
  nw #[(.int .i64 0), (.int .i64 0), (.slice none 0 0)] 29 H fun v6x1 H2 =>
  ob (vBuild [(0, 1), (1, 1), (2, 1)] (.agg #[(.int .i64 0), (.int .i64 0), (.slice none 0 0)]) [(0, a0), (1, a1)]) fun v12x3 =>
  nw #[(.int .i64 0), (.int .i64 0), (.slice none 0 0)] 29 H2 fun v7x4 H5 =>
  st 3 v7x4 v12x3 H5 fun H6 =>
  jn (fun σ7 H7 =>
    ob (vLoadN 3 (σ7 7) H7) fun v32x8 =>
    st 3 (σ7 6) v32x8 H7 fun H9 =>
    ob (vLoadN 3 (σ7 6) H9) fun u10 => K u10 H9) fun J7 =>
  lpE (fun Q11 σ11 H11 =>
    ob (vInt .lss (σ11 14) (σ11 13)) fun v15x12 =>
    cnd v15x12
      (jn (fun σ13 H13 =>
      ob (vInt .add (σ13 14) (.int .i64 1)) fun v31x14 =>
      Q11 .normal (up (up σ13 31 v31x14) 14 v31x14) H13) fun J13 =>
    lpE (fun Q15 σ15 H15 =>
      ob (vInt .lss (σ15 18) (σ15 17)) fun v19x16 =>
      cnd v19x16
        (ob (vFa 2 (σ15 7)) fun v21x17 =>
      ob (vLoad v21x17 H15) fun v22x18 =>
      callV prg (σ15 2) [(σ15 8), (σ15 18)] H15 fun v26x19 H20 =>
      Le H15 H20 ∧ (bS 1 1 #[(.int .i64 0)] 2 [(0, v26x19)] H20 fun v27x21 H22 =>
      apd 1 8 #[(.int .i64 0)] 2 v22x18 v27x21 H22 fun v28x23 H24 =>
      ob (vFa 2 (σ15 7)) fun v29x25 =>
      st 1 v29x25 v28x23 H24 fun H26 =>
      ob (vInt .add (σ15 18) (.int .i64 1)) fun v30x27 =>
      Q15 .normal (up (up (up (up (up (up (up (up (up (up (up (up (up (up σ15 19 v19x16) 20 (σ15 18)) 9 (σ15 18)) 21 v21x17) 22 v22x18) 23 (σ15 2)) 24 (σ15 8)) 25 (σ15 18)) 26 v26x19) 27 v27x21) 28 v28x23) 29 v29x25) 30 v30x27) 18 v30x27) H26))
        (Q15 (.exit 2) (up σ15 19 v19x16) H15)) (blkQ 2 (blkQ 1 (thenQ J13 Q11))) (up (up (up (up (up σ11 15 v15x12) 16 (σ11 14)) 8 (σ11 14)) 17 (σ11 1)) 18 (.int .i64 0)) H11)
      (Q11 (.exit 0) (up σ11 15 v15x12) H11)) (blkQ 0 (thenQ J7 (retQ prg [(.cell 6 29)] K))) (up (up (up (up (up (up (up (S0 [a0, a1, a2]) 6 v6x1) 10 a0) 11 a1) 12 v12x3) 7 v7x4) 13 a0) 14 (.int .i64 0)) H6
def O.impl_madeField : Nat → Nat × List Nat := fun i => bif Nat.beq i 8 then (0, [0, 1, 2, 3, 4, 5, 6, 7, 8, 9]) else (0, [])
theorem R.impl_madeField {a0 a1 a2 : Value} {H : Hp} {K : Value → Hp → Prop} (h : F.impl_madeField a0 a1 a2 H K) : HT prg I.impl_madeField [a0, a1, a2].toArray H K :=
  HT_of_fev O.impl_madeField mixed Try.func94 (by kernel_rfl) (Eq.mpr (by kernel_rfl : fev prg O.impl_madeField Try.f94 [a0, a1, a2] H K = F.impl_madeField a0 a1 a2 H K) h)

/-! loop.example/g01381/impl.madeField: function 94 -/
def F.impl_madeFieldX (a0 a1 a2 : Value) (H : Hp) (K : Value → Hp → Prop) : Prop :=
  nw #[(.int .i64 0), (.int .i64 0), (.slice none 0 0)] 29 H fun v6x1 H2 =>
  ob (vBuild [(0, 1), (1, 1), (2, 1)] (.agg #[(.int .i64 0), (.int .i64 0), (.slice none 0 0)]) [(0, a0), (1, a1)]) fun v12x3 =>
  nw #[(.int .i64 0), (.int .i64 0), (.slice none 0 0)] 29 H2 fun v7x4 H5 =>
  st 3 v7x4 v12x3 H5 fun H6 =>
  jn (fun σ7 H7 =>
    ob (vLoadN 3 (σ7 7) H7) fun v32x8 =>
    st 3 (σ7 6) v32x8 H7 fun H9 =>
    ob (vLoadN 3 (σ7 6) H9) fun u10 => K u10 H9) fun J7 =>
  lpE (fun Q11 σ11 H11 =>
    ob (vInt .lss (σ11 14) (σ11 13)) fun v15x12 =>
    cnd v15x12
      (jn (fun σ13 H13 =>
      ob (vInt .add (σ13 14) (.int .i64 1)) fun v31x14 =>
      Q11 .normal (up (up σ13 31 v31x14) 14 v31x14) H13) fun J13 =>
    lpE (fun Q15 σ15 H15 =>
      ob (vInt .lss (σ15 18) (σ15 17)) fun v19x16 =>
      cnd v19x16
        ((ob (vFa 2 (σ15 7)) fun v21x17 =>
      ob (vLoad v21x17 H15) fun v22x18 =>
      callV prg (σ15 2) [(σ15 8), (σ15 18)] H15 fun v26x19 H20 =>
      bS 1 1 #[(.int .i64 0)] 2 [(0, v26x19)] H20 fun v27x21 H22 =>
      apd 1 8 #[(.int .i64 0)] 2 v22x18 v27x21 H22 fun v28x23 H24 =>
      ob (vFa 2 (σ15 7)) fun v29x25 =>
      st 1 v29x25 v28x23 H24 fun H26 =>
      ob (vInt .add (σ15 18) (.int .i64 1)) fun v30x27 =>
      Q15 .normal (up (up (up (up (up (up (up (up (up (up (up (up (up (up σ15 19 v19x16) 20 (σ15 18)) 9 (σ15 18)) 21 v21x17) 22 v22x18) 23 (σ15 2)) 24 (σ15 8)) 25 (σ15 18)) 26 v26x19) 27 v27x21) 28 v28x23) 29 v29x25) 30 v30x27) 18 v30x27) H26) ∧ (ob (vFa 2 (σ15 7)) fun v21x28 =>
      callV prg (σ15 2) [(σ15 8), (σ15 18)] H15 fun v26x29 H30 =>
      ob (vLoad v21x28 H30) fun v22x31 =>
      bS 1 1 #[(.int .i64 0)] 2 [(0, v26x29)] H30 fun v27x32 H33 =>
      apd 1 8 #[(.int .i64 0)] 2 v22x31 v27x32 H33 fun v28x34 H35 =>
      ob (vFa 2 (σ15 7)) fun v29x36 =>
      st 1 v29x36 v28x34 H35 fun H37 =>
      ob (vInt .add (σ15 18) (.int .i64 1)) fun v30x38 =>
      Q15 .normal (up (up (up (up (up (up (up (up (up (up (up (up (up (up σ15 19 v19x16) 20 (σ15 18)) 9 (σ15 18)) 21 v21x28) 23 (σ15 2)) 24 (σ15 8)) 25 (σ15 18)) 26 v26x29) 22 v22x31) 27 v27x32) 28 v28x34) 29 v29x36) 30 v30x38) 18 v30x38) H37))
        (Q15 (.exit 2) (up σ15 19 v19x16) H15)) (blkQ 2 (blkQ 1 (thenQ J13 Q11))) (up (up (up (up (up σ11 15 v15x12) 16 (σ11 14)) 8 (σ11 14)) 17 (σ11 1)) 18 (.int .i64 0)) H11)
      (Q11 (.exit 0) (up σ11 15 v15x12) H11)) (blkQ 0 (thenQ J7 (retQ prg [(.cell 6 29)] K))) (up (up (up (up (up (up (up (S0 [a0, a1, a2]) 6 v6x1) 10 a0) 11 a1) 12 v12x3) 7 v7x4) 13 a0) 14 (.int .i64 0)) H6
def O.impl_madeFieldX : Nat → Nat × List Nat := fun i => bif Nat.beq i 8 then (2, [1001, 1005, 0, 1, 2, 3, 4, 5, 6, 7, 8, 9, 0, 2, 3, 4, 5, 1, 6, 7, 8, 9]) else (0, [])
theorem R.impl_madeFieldX {a0 a1 a2 : Value} {H : Hp} {K : Value → Hp → Prop} (h : F.impl_madeFieldX a0 a1 a2 H K) : HT prg I.impl_madeField [a0, a1, a2].toArray H K :=
  HT_of_fev O.impl_madeFieldX mixed Try.func94 (by kernel_rfl) (Eq.mpr (by kernel_rfl : fev prg O.impl_madeFieldX Try.f94 [a0, a1, a2] H K = F.impl_madeFieldX a0 a1 a2 H K) h)

/-! loop.example/g01381/impl.bit: function 142 -/
def F.impl_bit (a0 : Value) (H : Hp) (K : Value → Hp → Prop) : Prop :=
  cnd a0
    (K (.int .i64 1) H)
    (K (.int .i64 0) H)
def O.impl_bit : Nat → Nat × List Nat := fun i => (0, [])
theorem R.impl_bit {a0 : Value} {H : Hp} {K : Value → Hp → Prop} (h : F.impl_bit a0 H K) : HT prg I.impl_bit [a0].toArray H K :=
  HT_of_fev O.impl_bit mixed Try.func142 (by kernel_rfl) (Eq.mpr (by kernel_rfl : fev prg O.impl_bit Try.f142 [a0] H K = F.impl_bit a0 H K) h)

/-! slices.Index[[]int64,int64]: function 151 -/
def F.slices_Index_int64Zint64 (a0 a1 : Value) (H : Hp) (K : Value → Hp → Prop) : Prop :=
  jn (fun σ1 H1 =>
    K (.int .i64 (-1)) H1) fun J1 =>
  ob (vLenSl a0) fun v7x2 =>
  lpE (fun Q3 σ3 H3 =>
    ob (vInt .lss (σ3 8) (σ3 7)) fun v9x4 =>
    cnd v9x4
      (ob (vIx 1 (σ3 0) (σ3 8)) fun v14x5 =>
    ob (vLoad v14x5 H3) fun v15x6 =>
    ob (vInt .eql (σ3 1) v15x6) fun v16x7 =>
    cnd v16x7
      (Q3 .ret (up (up (up (up (up (up (up (up (up (up (up σ3 9 v9x4) 10 (σ3 8)) 5 (σ3 8)) 11 (σ3 1)) 12 (σ3 0)) 13 (σ3 8)) 14 v14x5) 15 v15x6) 16 v16x7) 17 (σ3 8)) 4 (σ3 8)) H3)
      (ob (vInt .add (σ3 8) (.int .i64 1)) fun v18x8 =>
    Q3 .normal (up (up (up (up (up (up (up (up (up (up (up σ3 9 v9x4) 10 (σ3 8)) 5 (σ3 8)) 11 (σ3 1)) 12 (σ3 0)) 13 (σ3 8)) 14 v14x5) 15 v15x6) 16 v16x7) 18 v18x8) 8 v18x8) H3))
      (Q3 (.exit 0) (up σ3 9 v9x4) H3)) (blkQ 0 (thenQ J1 (retQ prg [(.tmp 4)] K))) (up (up (up (up (S0 [a0, a1]) 4 (.int .i64 0)) 6 a0) 7 v7x2) 8 (.int .i64 0)) H
def O.slices_Index_int64Zint64 : Nat → Nat × List Nat := fun i => (0, [])
theorem R.slices_Index_int64Zint64 {a0 a1 : Value} {H : Hp} {K : Value → Hp → Prop} (h : F.slices_Index_int64Zint64 a0 a1 H K) : HT prg I.slices_Index_int64Zint64 [a0, a1].toArray H K :=
  HT_of_fev O.slices_Index_int64Zint64 mixed Try.func151 (by kernel_rfl) (Eq.mpr (by kernel_rfl : fev prg O.slices_Index_int64Zint64 Try.f151 [a0, a1] H K = F.slices_Index_int64Zint64 a0 a1 H K) h)

/-! slices.Contains[[]int64,int64]: function 143 -/
def F.slices_Contains_int64Zint64 (a0 a1 : Value) (H : Hp) (K : Value → Hp → Prop) : Prop :=
  HT prg I.slices_Index_int64Zint64 [a0, a1].toArray H fun v7x1 H2 =>
  ob (vInt .geq v7x1 (.int .i64 0)) fun v8x3 =>
  K v8x3 H2
def O.slices_Contains_int64Zint64 : Nat → Nat × List Nat := fun i => (0, [])
theorem R.slices_Contains_int64Zint64 {a0 a1 : Value} {H : Hp} {K : Value → Hp → Prop} (h : F.slices_Contains_int64Zint64 a0 a1 H K) : HT prg I.slices_Contains_int64Zint64 [a0, a1].toArray H K :=
  HT_of_fev O.slices_Contains_int64Zint64 mixed Try.func143 (by kernel_rfl) (Eq.mpr (by kernel_rfl : fev prg O.slices_Contains_int64Zint64 Try.f143 [a0, a1] H K = F.slices_Contains_int64Zint64 a0 a1 H K) h)

/-! (loop.example/g01381/impl.Life).becomes: function 116 -/
def F.impl_Life_becomes (a0 a1 a2 : Value) (H : Hp) (K : Value → Hp → Prop) : Prop :=
  nw (a0 : Value).cells 32 H fun v3x1 H2 =>
  ob (vInt .eql a1 (.int .i64 0)) fun v8x3 =>
  cnd v8x3
    (ob (vFa 0 v3x1) fun v9x4 =>
    ob (vLoad v9x4 H2) fun v10x5 =>
    HT prg I.slices_Contains_int64Zint64 [v10x5, a2].toArray H2 fun v12x6 H7 =>
    HT prg I.impl_bit [v12x6].toArray H7 fun v13x8 H9 =>
    K v13x8 H9)
    (ob (vFa 1 v3x1) fun v14x10 =>
  ob (vLoad v14x10 H2) fun v15x11 =>
  HT prg I.slices_Contains_int64Zint64 [v15x11, a2].toArray H2 fun v17x12 H13 =>
  HT prg I.impl_bit [v17x12].toArray H13 fun v18x14 H15 =>
  K v18x14 H15)
def O.impl_Life_becomes : Nat → Nat × List Nat := fun i => (0, [])
theorem R.impl_Life_becomes {a0 a1 a2 : Value} {H : Hp} {K : Value → Hp → Prop} (h : F.impl_Life_becomes a0 a1 a2 H K) : HT prg I.impl_Life_becomes [a0, a1, a2].toArray H K :=
  HT_of_fev O.impl_Life_becomes mixed Try.func116 (by kernel_rfl) (Eq.mpr (by kernel_rfl : fev prg O.impl_Life_becomes Try.f116 [a0, a1, a2] H K = F.impl_Life_becomes a0 a1 a2 H K) h)

/-! (loop.example/g01381/impl.Field).at: function 117 -/
def F.impl_Field_at (a0 a1 a2 : Value) (H : Hp) (K : Value → Hp → Prop) : Prop :=
  nw (a0 : Value).cells 29 H fun v3x1 H2 =>
  ob (vFa 2 v3x1) fun v7x3 =>
  ob (vLoad v7x3 H2) fun v8x4 =>
  ob (vFa 1 v3x1) fun v10x5 =>
  ob (vLoad v10x5 H2) fun v11x6 =>
  ob (vInt .mul a1 v11x6) fun v12x7 =>
  ob (vInt .add v12x7 a2) fun v14x8 =>
  ob (vIx 1 v8x4 v14x8) fun v15x9 =>
  ob (vLoad v15x9 H2) fun v16x10 =>
  K v16x10 H2
def O.impl_Field_at : Nat → Nat × List Nat := fun i => (0, [])
theorem R.impl_Field_at {a0 a1 a2 : Value} {H : Hp} {K : Value → Hp → Prop} (h : F.impl_Field_at a0 a1 a2 H K) : HT prg I.impl_Field_at [a0, a1, a2].toArray H K :=
  HT_of_fev O.impl_Field_at mixed Try.func117 (by kernel_rfl) (Eq.mpr (by kernel_rfl : fev prg O.impl_Field_at Try.f117 [a0, a1, a2] H K = F.impl_Field_at a0 a1 a2 H K) h)

/-! loop.example/g01381/impl.floorMod: function 133 -/
def F.impl_floorMod (a0 a1 : Value) (H : Hp) (K : Value → Hp → Prop) : Prop :=
  ob (vInt .rem a0 a1) fun v7x1 =>
  ob (vInt .add v7x1 a1) fun v9x2 =>
  ob (vInt .rem v9x2 a1) fun v11x3 =>
  K v11x3 H
def O.impl_floorMod : Nat → Nat × List Nat := fun i => (0, [])
theorem R.impl_floorMod {a0 a1 : Value} {H : Hp} {K : Value → Hp → Prop} (h : F.impl_floorMod a0 a1 H K) : HT prg I.impl_floorMod [a0, a1].toArray H K :=
  HT_of_fev O.impl_floorMod mixed Try.func133 (by kernel_rfl) (Eq.mpr (by kernel_rfl : fev prg O.impl_floorMod Try.f133 [a0, a1] H K = F.impl_floorMod a0 a1 H K) h)

/-! (loop.example/g01381/impl.Field).has: function 134 -/
def F.impl_Field_has (a0 a1 a2 : Value) (H : Hp) (K : Value → Hp → Prop) : Prop :=
  nw (a0 : Value).cells 29 H fun v3x1 H2 =>
  ob (vFa 0 v3x1) fun v8x3 =>
  ob (vLoad v8x3 H2) fun v9x4 =>
  ob (vInt .sub v9x4 (.int .i64 1)) fun v10x5 =>
  HT prg I.impl_within [a1, (.int .i64 0), v10x5].toArray H2 fun v11x6 H7 =>
  gop v11x6 true (fun K8 => K8 a2 H7) H7 fun v13x9 H10 =>
  gop v11x6 true (fun K11 => ob (vFa 1 v3x1) fun u => K11 u H10) H10 fun v14x12 H13 =>
  gop v11x6 true (fun K14 => ob (vLoad v14x12 H13) fun u => K14 u H13) H13 fun v15x15 H16 =>
  gop v11x6 true (fun K17 => ob (vInt .sub v15x15 (.int .i64 1)) fun u => K17 u H16) H16 fun v16x18 H19 =>
  gop v11x6 true (fun K20 => HT prg I.impl_within [v13x9, (.int .i64 0), v16x18].toArray H19 K20) H19 fun v17x21 H22 =>
  ob (vPick v11x6 v17x21 (.bool false)) fun v18x23 =>
  K v18x23 H22
def O.impl_Field_has : Nat → Nat × List Nat := fun i => (0, [])
theorem R.impl_Field_has {a0 a1 a2 : Value} {H : Hp} {K : Value → Hp → Prop} (h : F.impl_Field_has a0 a1 a2 H K) : HT prg I.impl_Field_has [a0, a1, a2].toArray H K :=
  HT_of_fev O.impl_Field_has mixed Try.func134 (by kernel_rfl) (Eq.mpr (by kernel_rfl : fev prg O.impl_Field_has Try.f134 [a0, a1, a2] H K = F.impl_Field_has a0 a1 a2 H K) h)

/-! (loop.example/g01381/impl.Field).look: function 96 -/
def F.impl_Field_look (a0 a1 a2 a3 : Value) (H : Hp) (K : Value → Hp → Prop) : Prop :=
  nw (a0 : Value).cells 29 H fun v4x1 H2 =>
  cnd a3
    (ob (vLoadN 3 v4x1 H2) fun v10x3 =>
    ob (vFa 0 v4x1) fun v12x4 =>
    ob (vLoad v12x4 H2) fun v13x5 =>
    ob (vFa 1 v4x1) fun v16x6 =>
    ob (vLoad v16x6 H2) fun v17x7 =>
    HT prg I.impl_floorMod [a1, v13x5].toArray H2 fun v14x8 H9 =>
    Le H2 H9 ∧ (HT prg I.impl_floorMod [a2, v17x7].toArray H9 fun v18x10 H11 =>
    Le H9 H11 ∧ (HT prg I.impl_Field_at [v10x3, v14x8, v18x10].toArray H11 fun v19x12 H13 =>
    Le H11 H13 ∧ (K v19x12 H13))))
    (ob (vLoadN 3 v4x1 H2) fun v20x14 =>
  HT prg I.impl_Field_has [v20x14, a1, a2].toArray H2 fun v23x15 H16 =>
  ob (vUn .not v23x15) fun v24x17 =>
  cnd v24x17
    (K (.int .i64 0) H16)
    (ob (vLoadN 3 v4x1 H16) fun v25x18 =>
  HT prg I.impl_Field_at [v25x18, a1, a2].toArray H16 fun v28x19 H20 =>
  K v28x19 H20))
def O.impl_Field_look : Nat → Nat × List Nat := fun i => bif Nat.beq i 2 then (0, [0, 1, 2, 3, 5, 6, 7, 4, 8, 9, 10]) else (0, [])
theorem R.impl_Field_look {a0 a1 a2 a3 : Value} {H : Hp} {K : Value → Hp → Prop} (h : F.impl_Field_look a0 a1 a2 a3 H K) : HT prg I.impl_Field_look [a0, a1, a2, a3].toArray H K :=
  HT_of_fev O.impl_Field_look mixed Try.func96 (by kernel_rfl) (Eq.mpr (by kernel_rfl : fev prg O.impl_Field_look Try.f96 [a0, a1, a2, a3] H K = F.impl_Field_look a0 a1 a2 a3 H K) h)

/-! (loop.example/g01381/impl.Field).around: function 118 -/
def F.impl_Field_around (a0 a1 a2 a3 : Value) (H : Hp) (K : Value → Hp → Prop) : Prop :=
  nw (a0 : Value).cells 29 H fun v4x1 H2 =>
  ob (vLoadN 3 v4x1 H2) fun v12x3 =>
  HT prg I.impl_Field_at [v12x3, a1, a2].toArray H2 fun v15x4 H5 =>
  ob (vUn .neg v15x4) fun v16x6 =>
  jn (fun σ7 H7 =>
    K (σ7 9) H7) fun J7 =>
  ob (vInt .sub a1 (.int .i64 1)) fun v18x8 =>
  lpE (fun Q9 σ9 H9 =>
    ob (vInt .add (σ9 1) (.int .i64 1)) fun v21x10 =>
    ob (vInt .leq (σ9 10) v21x10) fun v22x11 =>
    cnd v22x11
      (jn (fun σ12 H12 =>
      ob (vInt .add (σ12 10) (.int .i64 1)) fun v24x13 =>
      Q9 .normal (up (up (up σ12 23 (σ12 10)) 24 v24x13) 10 v24x13) H12) fun J12 =>
    ob (vInt .sub (σ9 2) (.int .i64 1)) fun v26x14 =>
    lpE (fun Q15 σ15 H15 =>
      ob (vInt .add (σ15 2) (.int .i64 1)) fun v29x16 =>
      ob (vInt .leq (σ15 11) v29x16) fun v30x17 =>
      cnd v30x17
        (ob (vLoadN 3 (σ15 4) H15) fun v34x18 =>
      HT prg I.impl_Field_look [v34x18, (σ15 10), (σ15 11), (σ15 3)].toArray H15 fun v38x19 H20 =>
      ob (vInt .add (σ15 9) v38x19) fun v39x21 =>
      ob (vInt .add (σ15 11) (.int .i64 1)) fun v32x22 =>
      Q15 .normal (up (up (up (up (up (up (up (up (up (up (up (up (up (up (up σ15 27 (σ15 11)) 28 (σ15 2)) 29 v29x16) 30 v30x17) 33 (σ15 9)) 34 v34x18) 35 (σ15 10)) 36 (σ15 11)) 37 (σ15 3)) 38 v38x19) 39 v39x21) 9 v39x21) 31 (σ15 11)) 32 v32x22) 11 v32x22) H20)
        (Q15 (.exit 2) (up (up (up (up σ15 27 (σ15 11)) 28 (σ15 2)) 29 v29x16) 30 v30x17) H15)) (blkQ 2 (blkQ 1 (thenQ J12 Q9))) (up (up (up (up (up (up (up σ9 19 (σ9 10)) 20 (σ9 1)) 21 v21x10) 22 v22x11) 25 (σ9 2)) 26 v26x14) 11 v26x14) H9)
      (Q9 (.exit 0) (up (up (up (up σ9 19 (σ9 10)) 20 (σ9 1)) 21 v21x10) 22 v22x11) H9)) (blkQ 0 (thenQ J7 (retQ prg [(.tmp 8)] K))) (up (up (up (up (up (up (up (up (up (up (up (S0 [a0, a1, a2, a3]) 4 v4x1) 8 (.int .i64 0)) 12 v12x3) 13 a1) 14 a2) 15 v15x4) 16 v16x6) 9 v16x6) 17 a1) 18 v18x8) 10 v18x8) H5
def O.impl_Field_around : Nat → Nat × List Nat := fun i => (0, [])
theorem R.impl_Field_around {a0 a1 a2 a3 : Value} {H : Hp} {K : Value → Hp → Prop} (h : F.impl_Field_around a0 a1 a2 a3 H K) : HT prg I.impl_Field_around [a0, a1, a2, a3].toArray H K :=
  HT_of_fev O.impl_Field_around mixed Try.func118 (by kernel_rfl) (Eq.mpr (by kernel_rfl : fev prg O.impl_Field_around Try.f118 [a0, a1, a2, a3] H K = F.impl_Field_around a0 a1 a2 a3 H K) h)

/-! (loop.example/g01381/impl.Life).step$1: function 115 -/
def F.impl_Life_step_1 (a0 a1 a2 a3 a4 : Value) (H : Hp) (K : Value → Hp → Prop) : Prop :=
  ob (vLoadN 2 a2 H) fun v8x1 =>
  ob (vLoadN 3 a3 H) fun v9x2 =>
  ob (vLoadN 3 a3 H) fun v13x3 =>
  ob (vLoad a4 H) fun v16x4 =>
  HT prg I.impl_Field_at [v9x2, a0, a1].toArray H fun v12x5 H6 =>
  Le H H6 ∧ (HT prg I.impl_Field_around [v13x3, a0, a1, v16x4].toArray H6 fun v17x7 H8 =>
  Le H6 H8 ∧ (HT prg I.impl_Life_becomes [v8x1, v12x5, v17x7].toArray H8 fun v18x9 H10 =>
  Le H8 H10 ∧ (K v18x9 H10)))
def O.impl_Life_step_1 : Nat → Nat × List Nat := fun i => bif Nat.beq i 1 then (0, [0, 1, 2, 3, 5, 6, 7, 8, 4, 9, 10, 11]) else (0, [])
theorem R.impl_Life_step_1 {a0 a1 a2 a3 a4 : Value} {H : Hp} {K : Value → Hp → Prop} (h : F.impl_Life_step_1 a0 a1 a2 a3 a4 H K) : HT prg I.impl_Life_step_1 [a0, a1, a2, a3, a4].toArray H K :=
  HT_of_fev O.impl_Life_step_1 mixed Try.func115 (by kernel_rfl) (Eq.mpr (by kernel_rfl : fev prg O.impl_Life_step_1 Try.f115 [a0, a1, a2, a3, a4] H K = F.impl_Life_step_1 a0 a1 a2 a3 a4 H K) h)

/-! (loop.example/g01381/impl.Life).step: function 68 -/
def F.impl_Life_step (a0 a1 a2 : Value) (H : Hp) (K : Value → Hp → Prop) : Prop :=
  nw (a0 : Value).cells 32 H fun v3x1 H2 =>
  nw (a1 : Value).cells 29 H2 fun v4x3 H4 =>
  nw (a2 : Value).cells 4 H4 fun v5x5 H6 =>
  nw #[(.int .i64 0), (.int .i64 0), (.slice none 0 0)] 29 H6 fun v6x7 H8 =>
  ob (vFa 0 v4x3) fun v7x9 =>
  ob (vLoad v7x9 H8) fun v8x10 =>
  ob (vFa 1 v4x3) fun v9x11 =>
  ob (vLoad v9x11 H8) fun v10x12 =>
  HT prg I.impl_madeField [v8x10, v10x12, (.func (.func I.impl_Life_step_1) #[] #[v3x1, v4x3, v5x5])].toArray H8 fun v12x13 H14 =>
  st 3 v6x7 v12x13 H14 fun H15 =>
  ob (vLoadN 3 v6x7 H15) fun u16 => K u16 H15
def O.impl_Life_step : Nat → Nat × List Nat := fun i => (0, [])
theorem R.impl_Life_step {a0 a1 a2 : Value} {H : Hp} {K : Value → Hp → Prop} (h : F.impl_Life_step a0 a1 a2 H K) : HT prg I.impl_Life_step [a0, a1, a2].toArray H K :=
  HT_of_fev O.impl_Life_step mixed Try.func68 (by kernel_rfl) (Eq.mpr (by kernel_rfl : fev prg O.impl_Life_step Try.f68 [a0, a1, a2] H K = F.impl_Life_step a0 a1 a2 H K) h)

/-! slices.Clone[[]int64,int64]: function 141 -/
def F.slices_Clone_int64Zint64 (a0 : Value) (H : Hp) (K : Value → Hp → Prop) : Prop :=
  ob (vSlEq .eql a0 (.slice none 0 0)) fun v4x1 =>
  cnd v4x1
    (K (.slice none 0 0) H)
    (bS 1 0 #[(.int .i64 0)] 2 [] H fun v5x2 H3 =>
  apd 1 8 #[(.int .i64 0)] 2 v5x2 a0 H3 fun v7x4 H5 =>
  K v7x4 H5)
def O.slices_Clone_int64Zint64 : Nat → Nat × List Nat := fun i => (0, [])
theorem R.slices_Clone_int64Zint64 {a0 : Value} {H : Hp} {K : Value → Hp → Prop} (h : F.slices_Clone_int64Zint64 a0 H K) : HT prg I.slices_Clone_int64Zint64 [a0].toArray H K :=
  HT_of_fev O.slices_Clone_int64Zint64 mixed Try.func141 (by kernel_rfl) (Eq.mpr (by kernel_rfl : fev prg O.slices_Clone_int64Zint64 Try.f141 [a0] H K = F.slices_Clone_int64Zint64 a0 H K) h)

/-! loop.example/g01381/impl.copyField: function 112 -/
def F.impl_copyField (a0 : Value) (H : Hp) (K : Value → Hp → Prop) : Prop :=
  nw (a0 : Value).cells 29 H fun v1x1 H2 =>
  nw #[(.int .i64 0), (.int .i64 0), (.slice none 0 0)] 29 H2 fun v2x3 H4 =>
  ob (vFa 2 v1x1) fun v3x5 =>
  ob (vLoad v3x5 H4) fun v4x6 =>
  HT prg I.slices_Clone_int64Zint64 [v4x6].toArray H4 fun v5x7 H8 =>
  ob (vFa 2 v1x1) fun v6x9 =>
  st 1 v6x9 v5x7 H8 fun H10 =>
  ob (vLoadN 3 v1x1 H10) fun v7x11 =>
  st 3 v2x3 v7x11 H10 fun H12 =>
  ob (vLoadN 3 v2x3 H12) fun u13 => K u13 H12
def O.impl_copyField : Nat → Nat × List Nat := fun i => (0, [])
theorem R.impl_copyField {a0 : Value} {H : Hp} {K : Value → Hp → Prop} (h : F.impl_copyField a0 H K) : HT prg I.impl_copyField [a0].toArray H K :=
  HT_of_fev O.impl_copyField mixed Try.func112 (by kernel_rfl) (Eq.mpr (by kernel_rfl : fev prg O.impl_copyField Try.f112 [a0] H K = F.impl_copyField a0 H K) h)

/-! (loop.example/g01381/impl.Life).run: function 63 -/
def F.impl_Life_run (a0 a1 a2 a3 : Value) (H : Hp) (K : Value → Hp → Prop) : Prop :=
  nw (a0 : Value).cells 32 H fun v4x1 H2 =>
  nw (a1 : Value).cells 29 H2 fun v5x3 H4 =>
  nw #[(.int .i64 0), (.int .i64 0), (.slice none 0 0)] 29 H4 fun v8x5 H6 =>
  ob (vLoadN 3 v5x3 H6) fun v9x7 =>
  HT prg I.impl_copyField [v9x7].toArray H6 fun v10x8 H9 =>
  st 3 v5x3 v10x8 H9 fun H10 =>
  jn (fun σ11 H11 =>
    ob (vLoadN 3 (σ11 5) H11) fun v19x12 =>
    st 3 (σ11 8) v19x12 H11 fun H13 =>
    ob (vLoadN 3 (σ11 8) H13) fun u14 => K u14 H13) fun J11 =>
  lpE (fun Q15 σ15 H15 =>
    ob (vInt .lss (σ15 12) (σ15 11)) fun v13x16 =>
    cnd v13x16
      (ob (vLoadN 2 (σ15 4) H15) fun v14x17 =>
    ob (vLoadN 3 (σ15 5) H15) fun v15x18 =>
    HT prg I.impl_Life_step [v14x17, v15x18, (σ15 2)].toArray H15 fun v17x19 H20 =>
    st 3 (σ15 5) v17x19 H20 fun H21 =>
    ob (vInt .add (σ15 12) (.int .i64 1)) fun v18x22 =>
    Q15 .normal (up (up (up (up (up (up (up σ15 13 v13x16) 14 v14x17) 15 v15x18) 16 (σ15 2)) 17 v17x19) 18 v18x22) 12 v18x22) H21)
      (Q15 (.exit 0) (up σ15 13 v13x16) H15)) (blkQ 0 (thenQ J11 (retQ prg [(.cell 8 29)] K))) (up (up (up (up (up (up (up (S0 [a0, a1, a2, a3]) 4 v4x1) 5 v5x3) 8 v8x5) 9 v9x7) 10 v10x8) 11 a3) 12 (.int .i64 0)) H10
def O.impl_Life_run : Nat → Nat × List Nat := fun i => (0, [])
theorem R.impl_Life_run {a0 a1 a2 a3 : Value} {H : Hp} {K : Value → Hp → Prop} (h : F.impl_Life_run a0 a1 a2 a3 H K) : HT prg I.impl_Life_run [a0, a1, a2, a3].toArray H K :=
  HT_of_fev O.impl_Life_run mixed Try.func63 (by kernel_rfl) (Eq.mpr (by kernel_rfl : fev prg O.impl_Life_run Try.f63 [a0, a1, a2, a3] H K = F.impl_Life_run a0 a1 a2 a3 H K) h)

/-! loop.example/g01381/impl.RunLife: function 20 -/
def F.impl_RunLife (a0 a1 a2 a3 : Value) (H : Hp) (K : Value → Hp → Prop) : Prop :=
  nw (a0 : Value).cells 32 H fun v4x1 H2 =>
  nw (a1 : Value).cells 29 H2 fun v5x3 H4 =>
  nw #[(.int .i64 0), (.int .i64 0), (.slice none 0 0)] 29 H4 fun v8x5 H6 =>
  ob (vLoadN 2 v4x1 H6) fun v10x7 =>
  ob (vLoadN 3 v5x3 H6) fun v11x8 =>
  bS 3 1 #[(.int .i64 0), (.int .i64 0), (.slice none 0 0)] 29 [(0, v11x8)] H6 fun v12x9 H10 =>
  HT prg I.impl_lives [v10x7, v12x9].toArray H10 fun v13x11 H12 =>
  ob (vUn .not v13x11) fun v14x13 =>
  gop v14x13 false (fun K14 => K14 a3 H12) H12 fun v16x15 H16 =>
  gop v14x13 false (fun K17 => HT prg I.impl_within [v16x15, (.int .i64 0), (.int .i64 512)].toArray H16 K17) H16 fun v17x18 H19 =>
  gop v14x13 false (fun K20 => ob (vUn .not v17x18) fun u => K20 u H19) H19 fun v18x21 H22 =>
  ob (vPick v14x13 (.bool true) v18x21) fun v19x23 =>
  cnd v19x23
    (ob (vBuild [(0, 1), (1, 1), (2, 1)] (.agg #[(.int .i64 0), (.int .i64 0), (.slice none 0 0)]) []) fun v20x24 =>
    st 3 v8x5 v20x24 H22 fun H25 =>
    ob (vLoadN 3 v8x5 H25) fun u26 => K (.tuple #[u26, (.bool false)]) H25)
    (ob (vLoadN 2 v4x1 H22) fun v21x27 =>
  ob (vLoadN 3 v5x3 H22) fun v22x28 =>
  HT prg I.impl_Life_run [v21x27, v22x28, a2, a3].toArray H22 fun v25x29 H30 =>
  st 3 v8x5 v25x29 H30 fun H31 =>
  ob (vLoadN 3 v8x5 H31) fun u32 => K (.tuple #[u32, (.bool true)]) H31)
def O.impl_RunLife : Nat → Nat × List Nat := fun i => (0, [])
theorem R.impl_RunLife {a0 a1 a2 a3 : Value} {H : Hp} {K : Value → Hp → Prop} (h : F.impl_RunLife a0 a1 a2 a3 H K) : HT prg I.impl_RunLife [a0, a1, a2, a3].toArray H K :=
  HT_of_fev O.impl_RunLife mixed Try.func20 (by kernel_rfl) (Eq.mpr (by kernel_rfl : fev prg O.impl_RunLife Try.f20 [a0, a1, a2, a3] H K = F.impl_RunLife a0 a1 a2 a3 H K) h)

/-! loop.example/g01381/laws.eqInt64S: function 28 -/
def F.laws_eqInt64S (a0 a1 : Value) (H : Hp) (K : Value → Hp → Prop) : Prop :=
  ob (vLenSl a0) fun v7x1 =>
  ob (vLenSl a1) fun v9x2 =>
  ob (vInt .neq v7x1 v9x2) fun v10x3 =>
  cnd v10x3
    (K (.bool false) H)
    (jn (fun σ4 H4 =>
    K (.bool true) H4) fun J4 =>
  lpE (fun Q5 σ5 H5 =>
    ob (vLenSl (σ5 0)) fun v13x6 =>
    ob (vInt .lss (σ5 5) v13x6) fun v14x7 =>
    cnd v14x7
      (ob (vIx 1 (σ5 0) (σ5 5)) fun v19x8 =>
    ob (vLoad v19x8 H5) fun v20x9 =>
    ob (vIx 1 (σ5 1) (σ5 5)) fun v23x10 =>
    ob (vLoad v23x10 H5) fun v24x11 =>
    ob (vInt .neq v20x9 v24x11) fun v25x12 =>
    cnd v25x12
      (Q5 .ret (up (up (up (up (up (up (up (up (up (up (up (up (up (up σ5 11 (σ5 5)) 12 (σ5 0)) 13 v13x6) 14 v14x7) 17 (σ5 0)) 18 (σ5 5)) 19 v19x8) 20 v20x9) 21 (σ5 1)) 22 (σ5 5)) 23 v23x10) 24 v24x11) 25 v25x12) 4 (.bool false)) H5)
      (ob (vInt .add (σ5 5) (.int .i64 1)) fun v16x13 =>
    Q5 .normal (up (up (up (up (up (up (up (up (up (up (up (up (up (up (up (up σ5 11 (σ5 5)) 12 (σ5 0)) 13 v13x6) 14 v14x7) 17 (σ5 0)) 18 (σ5 5)) 19 v19x8) 20 v20x9) 21 (σ5 1)) 22 (σ5 5)) 23 v23x10) 24 v24x11) 25 v25x12) 15 (σ5 5)) 16 v16x13) 5 v16x13) H5))
      (Q5 (.exit 0) (up (up (up (up σ5 11 (σ5 5)) 12 (σ5 0)) 13 v13x6) 14 v14x7) H5)) (blkQ 0 (thenQ J4 (retQ prg [(.tmp 4)] K))) (up (up (up (up (up (up (up (S0 [a0, a1]) 4 (.bool false)) 6 a0) 7 v7x1) 8 a1) 9 v9x2) 10 v10x3) 5 (.int .i64 0)) H)
def O.laws_eqInt64S : Nat → Nat × List Nat := fun i => bif Nat.beq i 6 then (0, [0, 1, 2, 3, 4, 5, 6, 7, 8]) else (0, [])
theorem R.laws_eqInt64S {a0 a1 : Value} {H : Hp} {K : Value → Hp → Prop} (h : F.laws_eqInt64S a0 a1 H K) : HT prg I.laws_eqInt64S [a0, a1].toArray H K :=
  HT_of_fev O.laws_eqInt64S mixed Try.func28 (by kernel_rfl) (Eq.mpr (by kernel_rfl : fev prg O.laws_eqInt64S Try.f28 [a0, a1] H K = F.laws_eqInt64S a0 a1 H K) h)

/-! loop.example/g01381/laws.eqField: function 21 -/
def F.laws_eqField (a0 a1 : Value) (H : Hp) (K : Value → Hp → Prop) : Prop :=
  nw (a0 : Value).cells 29 H fun v2x1 H2 =>
  nw (a1 : Value).cells 29 H2 fun v3x3 H4 =>
  ob (vFa 0 v2x1) fun v5x5 =>
  ob (vLoad v5x5 H4) fun v6x6 =>
  ob (vFa 0 v3x3) fun v7x7 =>
  ob (vLoad v7x7 H4) fun v8x8 =>
  ob (vInt .neq v6x6 v8x8) fun v9x9 =>
  cnd v9x9
    (K (.bool false) H4)
    (ob (vFa 1 v2x1) fun v10x10 =>
  ob (vLoad v10x10 H4) fun v11x11 =>
  ob (vFa 1 v3x3) fun v12x12 =>
  ob (vLoad v12x12 H4) fun v13x13 =>
  ob (vInt .neq v11x11 v13x13) fun v14x14 =>
  cnd v14x14
    (K (.bool false) H4)
    (ob (vFa 2 v2x1) fun v15x15 =>
  ob (vLoad v15x15 H4) fun v16x16 =>
  ob (vFa 2 v3x3) fun v17x17 =>
  ob (vLoad v17x17 H4) fun v18x18 =>
  HT prg I.laws_eqInt64S [v16x16, v18x18].toArray H4 fun v19x19 H20 =>
  ob (vUn .not v19x19) fun v20x21 =>
  cnd v20x21
    (K (.bool false) H20)
    (K (.bool true) H20)))
def O.laws_eqField : Nat → Nat × List Nat := fun i => (0, [])
theorem R.laws_eqField {a0 a1 : Value} {H : Hp} {K : Value → Hp → Prop} (h : F.laws_eqField a0 a1 H K) : HT prg I.laws_eqField [a0, a1].toArray H K :=
  HT_of_fev O.laws_eqField mixed Try.func21 (by kernel_rfl) (Eq.mpr (by kernel_rfl : fev prg O.laws_eqField Try.f21 [a0, a1] H K = F.laws_eqField a0 a1 H K) h)

/-! loop.example/g01381/laws.eqLife: function 22 -/
def F.laws_eqLife (a0 a1 : Value) (H : Hp) (K : Value → Hp → Prop) : Prop :=
  nw (a0 : Value).cells 32 H fun v2x1 H2 =>
  nw (a1 : Value).cells 32 H2 fun v3x3 H4 =>
  ob (vFa 0 v2x1) fun v5x5 =>
  ob (vLoad v5x5 H4) fun v6x6 =>
  ob (vFa 0 v3x3) fun v7x7 =>
  ob (vLoad v7x7 H4) fun v8x8 =>
  HT prg I.laws_eqInt64S [v6x6, v8x8].toArray H4 fun v9x9 H10 =>
  ob (vUn .not v9x9) fun v10x11 =>
  cnd v10x11
    (K (.bool false) H10)
    (ob (vFa 1 v2x1) fun v11x12 =>
  ob (vLoad v11x12 H10) fun v12x13 =>
  ob (vFa 1 v3x3) fun v13x14 =>
  ob (vLoad v13x14 H10) fun v14x15 =>
  HT prg I.laws_eqInt64S [v12x13, v14x15].toArray H10 fun v15x16 H17 =>
  ob (vUn .not v15x16) fun v16x18 =>
  cnd v16x18
    (K (.bool false) H17)
    (K (.bool true) H17))
def O.laws_eqLife : Nat → Nat × List Nat := fun i => (0, [])
theorem R.laws_eqLife {a0 a1 : Value} {H : Hp} {K : Value → Hp → Prop} (h : F.laws_eqLife a0 a1 H K) : HT prg I.laws_eqLife [a0, a1].toArray H K :=
  HT_of_fev O.laws_eqLife mixed Try.func22 (by kernel_rfl) (Eq.mpr (by kernel_rfl : fev prg O.laws_eqLife Try.f22 [a0, a1] H K = F.laws_eqLife a0 a1 H K) h)

/-! loop.example/g01381/laws.markInt64S: function 29 -/
def F.laws_markInt64S (a0 a1 : Value) (H : Hp) (K : Value → Hp → Prop) : Prop :=
  jn (fun σ1 H1 =>
    K (σ1 1) H1) fun J1 =>
  lpE (fun Q2 σ2 H2 =>
    ob (vLenSl (σ2 0)) fun v8x3 =>
    ob (vInt .lss (σ2 5) v8x3) fun v9x4 =>
    cnd v9x4
      (ob (vIx 1 (σ2 0) (σ2 5)) fun v15x5 =>
    st 1 v15x5 (σ2 1) H2 fun H6 =>
    ob (vInt .add (σ2 1) (.int .i64 1)) fun v17x7 =>
    ob (vInt .add (σ2 5) (.int .i64 1)) fun v11x8 =>
    Q2 .normal (up (up (up (up (up (up (up (up (up (up (up (up (up (up σ2 6 (σ2 5)) 7 (σ2 0)) 8 v8x3) 9 v9x4) 12 (σ2 0)) 13 (σ2 5)) 14 (σ2 1)) 15 v15x5) 16 (σ2 1)) 17 v17x7) 1 v17x7) 10 (σ2 5)) 11 v11x8) 5 v11x8) H6)
      (Q2 (.exit 0) (up (up (up (up σ2 6 (σ2 5)) 7 (σ2 0)) 8 v8x3) 9 v9x4) H2)) (blkQ 0 (thenQ J1 (retQ prg [(.tmp 4)] K))) (up (up (S0 [a0, a1]) 4 (.int .i64 0)) 5 (.int .i64 0)) H
def O.laws_markInt64S : Nat → Nat × List Nat := fun i => (0, [])
theorem R.laws_markInt64S {a0 a1 : Value} {H : Hp} {K : Value → Hp → Prop} (h : F.laws_markInt64S a0 a1 H K) : HT prg I.laws_markInt64S [a0, a1].toArray H K :=
  HT_of_fev O.laws_markInt64S mixed Try.func29 (by kernel_rfl) (Eq.mpr (by kernel_rfl : fev prg O.laws_markInt64S Try.f29 [a0, a1] H K = F.laws_markInt64S a0 a1 H K) h)

/-! loop.example/g01381/laws.markLife: function 23 -/
def F.laws_markLife (a0 a1 : Value) (H : Hp) (K : Value → Hp → Prop) : Prop :=
  nw (a0 : Value).cells 32 H fun v2x1 H2 =>
  ob (vFa 0 v2x1) fun v5x3 =>
  ob (vLoad v5x3 H2) fun v6x4 =>
  HT prg I.laws_markInt64S [v6x4, a1].toArray H2 fun v8x5 H6 =>
  ob (vFa 1 v2x1) fun v9x7 =>
  ob (vLoad v9x7 H6) fun v10x8 =>
  HT prg I.laws_markInt64S [v10x8, v8x5].toArray H6 fun v12x9 H10 =>
  K v12x9 H10
def O.laws_markLife : Nat → Nat × List Nat := fun i => (0, [])
theorem R.laws_markLife {a0 a1 : Value} {H : Hp} {K : Value → Hp → Prop} (h : F.laws_markLife a0 a1 H K) : HT prg I.laws_markLife [a0, a1].toArray H K :=
  HT_of_fev O.laws_markLife mixed Try.func23 (by kernel_rfl) (Eq.mpr (by kernel_rfl : fev prg O.laws_markLife Try.f23 [a0, a1] H K = F.laws_markLife a0 a1 H K) h)

/-! loop.example/g01381/laws.markField: function 24 -/
def F.laws_markField (a0 a1 : Value) (H : Hp) (K : Value → Hp → Prop) : Prop :=
  nw (a0 : Value).cells 29 H fun v2x1 H2 =>
  ob (vFa 2 v2x1) fun v5x3 =>
  ob (vLoad v5x3 H2) fun v6x4 =>
  HT prg I.laws_markInt64S [v6x4, a1].toArray H2 fun v8x5 H6 =>
  K v8x5 H6
def O.laws_markField : Nat → Nat × List Nat := fun i => (0, [])
theorem R.laws_markField {a0 a1 : Value} {H : Hp} {K : Value → Hp → Prop} (h : F.laws_markField a0 a1 H K) : HT prg I.laws_markField [a0, a1].toArray H K :=
  HT_of_fev O.laws_markField mixed Try.func24 (by kernel_rfl) (Eq.mpr (by kernel_rfl : fev prg O.laws_markField Try.f24 [a0, a1] H K = F.laws_markField a0 a1 H K) h)

/-! loop.example/g01381/laws.heldInt64S: function 30 -/
def F.laws_heldInt64S (a0 a1 : Value) (H : Hp) (K : Value → Hp → Prop) : Prop :=
  jn (fun σ1 H1 =>
    K (σ1 1) H1) fun J1 =>
  lpE (fun Q2 σ2 H2 =>
    ob (vLenSl (σ2 0)) fun v8x3 =>
    ob (vInt .lss (σ2 5) v8x3) fun v9x4 =>
    cnd v9x4
      (ob (vIx 1 (σ2 0) (σ2 5)) fun v14x5 =>
    ob (vLoad v14x5 H2) fun v15x6 =>
    ob (vInt .neq v15x6 (σ2 1)) fun v17x7 =>
    cnd v17x7
      (Q2 .ret (up (up (up (up (up (up (up (up (up (up (up σ2 6 (σ2 5)) 7 (σ2 0)) 8 v8x3) 9 v9x4) 12 (σ2 0)) 13 (σ2 5)) 14 v14x5) 15 v15x6) 16 (σ2 1)) 17 v17x7) 4 (.int .i64 (-1))) H2)
      (ob (vInt .add (σ2 1) (.int .i64 1)) fun v19x8 =>
    ob (vInt .add (σ2 5) (.int .i64 1)) fun v11x9 =>
    Q2 .normal (up (up (up (up (up (up (up (up (up (up (up (up (up (up (up (up σ2 6 (σ2 5)) 7 (σ2 0)) 8 v8x3) 9 v9x4) 12 (σ2 0)) 13 (σ2 5)) 14 v14x5) 15 v15x6) 16 (σ2 1)) 17 v17x7) 18 (σ2 1)) 19 v19x8) 1 v19x8) 10 (σ2 5)) 11 v11x9) 5 v11x9) H2))
      (Q2 (.exit 0) (up (up (up (up σ2 6 (σ2 5)) 7 (σ2 0)) 8 v8x3) 9 v9x4) H2)) (blkQ 0 (thenQ J1 (retQ prg [(.tmp 4)] K))) (up (up (S0 [a0, a1]) 4 (.int .i64 0)) 5 (.int .i64 0)) H
def O.laws_heldInt64S : Nat → Nat × List Nat := fun i => (0, [])
theorem R.laws_heldInt64S {a0 a1 : Value} {H : Hp} {K : Value → Hp → Prop} (h : F.laws_heldInt64S a0 a1 H K) : HT prg I.laws_heldInt64S [a0, a1].toArray H K :=
  HT_of_fev O.laws_heldInt64S mixed Try.func30 (by kernel_rfl) (Eq.mpr (by kernel_rfl : fev prg O.laws_heldInt64S Try.f30 [a0, a1] H K = F.laws_heldInt64S a0 a1 H K) h)

/-! loop.example/g01381/laws.heldField: function 25 -/
def F.laws_heldField (a0 a1 : Value) (H : Hp) (K : Value → Hp → Prop) : Prop :=
  nw (a0 : Value).cells 29 H fun v2x1 H2 =>
  ob (vFa 2 v2x1) fun v5x3 =>
  ob (vLoad v5x3 H2) fun v6x4 =>
  HT prg I.laws_heldInt64S [v6x4, a1].toArray H2 fun v8x5 H6 =>
  ob (vInt .lss v8x5 (.int .i64 0)) fun v10x7 =>
  cnd v10x7
    (K (.int .i64 (-1)) H6)
    (K v8x5 H6)
def O.laws_heldField : Nat → Nat × List Nat := fun i => (0, [])
theorem R.laws_heldField {a0 a1 : Value} {H : Hp} {K : Value → Hp → Prop} (h : F.laws_heldField a0 a1 H K) : HT prg I.laws_heldField [a0, a1].toArray H K :=
  HT_of_fev O.laws_heldField mixed Try.func25 (by kernel_rfl) (Eq.mpr (by kernel_rfl : fev prg O.laws_heldField Try.f25 [a0, a1] H K = F.laws_heldField a0 a1 H K) h)

/-! loop.example/g01381/laws.FnExactRunLife: function 3 -/
def F.laws_FnExactRunLife (a0 a1 a2 a3 : Value) (H : Hp) (K : Value → Hp → Prop) : Prop :=
  nw (a0 : Value).cells 24 H fun v4x1 H2 =>
  nw (a1 : Value).cells 26 H2 fun v5x3 H4 =>
  ob (vLoadN 2 v4x1 H4) fun v21x5 =>
  HT prg I.laws_szLife [v21x5, (.int .i64 1048576)].toArray H4 fun v23x6 H7 =>
  ob (vInt .lss v23x6 (.int .i64 0)) fun v25x8 =>
  cnd v25x8
    (K (.bool true) H7)
    (ob (vLoadN 3 v5x3 H7) fun v26x9 =>
  HT prg I.laws_szField [v26x9, v23x6].toArray H7 fun v28x10 H11 =>
  ob (vInt .lss v28x10 (.int .i64 0)) fun v30x12 =>
  cnd v30x12
    (K (.bool true) H11)
    (ob (vLoadN 2 v4x1 H11) fun v32x13 =>
  ob (vLoadN 3 v5x3 H11) fun v34x14 =>
  HT prg I.laws_toLife [v32x13].toArray H11 fun v33x15 H16 =>
  Le H11 H16 ∧ (HT prg I.laws_toField [v34x14].toArray H16 fun v35x17 H18 =>
  Le H16 H18 ∧ (HT prg I.spec_RunLife [v33x15, v35x17, a2, a3].toArray H18 fun v38x19 H20 =>
  Le H18 H20 ∧ (ob (vExt v38x19 0) fun v39x21 =>
  ob (vExt v38x19 1) fun v40x22 =>
  nw #[(.int .i64 0), (.int .i64 0), (.slice none 0 0)] 29 H20 fun v10x23 H24 =>
  st 3 v10x23 v39x21 H24 fun H25 =>
  ob (vLoadN 2 v4x1 H25) fun v41x26 =>
  HT prg I.laws_toLife [v41x26].toArray H25 fun v42x27 H28 =>
  nw #[(.slice none 0 0), (.slice none 0 0)] 32 H28 fun v12x29 H30 =>
  st 2 v12x29 v42x27 H30 fun H31 =>
  ob (vLoadN 3 v5x3 H31) fun v43x32 =>
  HT prg I.laws_toField [v43x32].toArray H31 fun v44x33 H34 =>
  nw #[(.int .i64 0), (.int .i64 0), (.slice none 0 0)] 29 H34 fun v13x35 H36 =>
  st 3 v13x35 v44x33 H36 fun H37 =>
  ob (vLoadN 2 v12x29 H37) fun v46x38 =>
  ob (vLoadN 3 v13x35 H37) fun v47x39 =>
  HT prg I.impl_RunLife [v46x38, v47x39, a2, a3].toArray H37 fun v50x40 H41 =>
  ob (vExt v50x40 0) fun v51x42 =>
  ob (vExt v50x40 1) fun v52x43 =>
  nw #[(.int .i64 0), (.int .i64 0), (.slice none 0 0)] 29 H41 fun v14x44 H45 =>
  st 3 v14x44 v51x42 H45 fun H46 =>
  ob (vLoadN 3 v14x44 H46) fun v53x47 =>
  ob (vLoadN 3 v10x23 H46) fun v54x48 =>
  HT prg I.laws_eqField [v53x47, v54x48].toArray H46 fun v55x49 H50 =>
  ob (vUn .not v55x49) fun v56x51 =>
  gop v56x51 false (fun K52 => K52 v52x43 H50) H50 fun v58x53 H54 =>
  gop v56x51 false (fun K55 => K55 v40x22 H54) H54 fun v59x56 H57 =>
  gop v56x51 false (fun K58 => ob (vBool .neq v58x53 v59x56) fun u => K58 u H57) H57 fun v60x59 H60 =>
  ob (vPick v56x51 (.bool true) v60x59) fun v61x61 =>
  cnd v61x61
    (K (.bool false) H60)
    (ob (vLoadN 2 v12x29 H60) fun v62x62 =>
  ob (vLoadN 2 v4x1 H60) fun v63x63 =>
  HT prg I.laws_toLife [v63x63].toArray H60 fun v64x64 H65 =>
  Le H60 H65 ∧ (HT prg I.laws_eqLife [v62x62, v64x64].toArray H65 fun v65x66 H67 =>
  Le H65 H67 ∧ (ob (vUn .not v65x66) fun v66x68 =>
  cnd v66x68
    (K (.bool false) H67)
    (ob (vLoadN 3 v13x35 H67) fun v67x69 =>
  ob (vLoadN 3 v5x3 H67) fun v68x70 =>
  HT prg I.laws_toField [v68x70].toArray H67 fun v69x71 H72 =>
  Le H67 H72 ∧ (HT prg I.laws_eqField [v67x69, v69x71].toArray H72 fun v70x73 H74 =>
  Le H72 H74 ∧ (ob (vUn .not v70x73) fun v71x75 =>
  cnd v71x75
    (K (.bool false) H74)
    (ob (vLoadN 2 v12x29 H74) fun v72x76 =>
  HT prg I.laws_markLife [v72x76, (.int .i64 1)].toArray H74 fun v74x77 H78 =>
  ob (vLoadN 3 v13x35 H78) fun v75x79 =>
  HT prg I.laws_markField [v75x79, v74x77].toArray H78 fun v77x80 H81 =>
  ob (vInt .lss v77x80 (.int .i64 0)) fun v79x82 =>
  gop v79x82 false (fun K83 => ob (vLoadN 3 v14x44 H81) fun u => K83 u H81) H81 fun v81x84 H85 =>
  gop v79x82 false (fun K86 => ob (vLoadN 3 v10x23 H85) fun u => K86 u H85) H85 fun v82x87 H88 =>
  gop v79x82 false (fun K89 => HT prg I.laws_eqField [v81x84, v82x87].toArray H88 K89) H88 fun v83x90 H91 =>
  gop v79x82 false (fun K92 => ob (vUn .not v83x90) fun u => K92 u H91) H91 fun v84x93 H94 =>
  ob (vPick v79x82 (.bool true) v84x93) fun v85x95 =>
  gop v85x95 false (fun K96 => K96 v52x43 H94) H94 fun v87x97 H98 =>
  gop v85x95 false (fun K99 => K99 v40x22 H98) H98 fun v88x100 H101 =>
  gop v85x95 false (fun K102 => ob (vBool .neq v87x97 v88x100) fun u => K102 u H101) H101 fun v89x103 H104 =>
  ob (vPick v85x95 (.bool true) v89x103) fun v90x105 =>
  cnd v90x105
    (K (.bool false) H104)
    (ob (vLoadN 3 v14x44 H104) fun v91x106 =>
  HT prg I.laws_markField [v91x106, (.int .i64 1)].toArray H104 fun v93x107 H108 =>
  ob (vLoadN 3 v14x44 H108) fun v94x109 =>
  HT prg I.laws_heldField [v94x109, (.int .i64 1)].toArray H108 fun v96x110 H111 =>
  ob (vInt .lss v96x110 (.int .i64 0)) fun v98x112 =>
  cnd v98x112
    (K (.bool false) H111)
    (ob (vInt .neq v96x110 v93x107) fun v101x113 =>
  cnd v101x113
    (K (.bool false) H111)
    (ob (vLoadN 2 v4x1 H111) fun v103x114 =>
  ob (vLoadN 3 v5x3 H111) fun v105x115 =>
  HT prg I.laws_toLife [v103x114].toArray H111 fun v104x116 H117 =>
  Le H111 H117 ∧ (HT prg I.laws_toField [v105x115].toArray H117 fun v106x118 H119 =>
  Le H117 H119 ∧ (HT prg I.impl_RunLife [v104x116, v106x118, a2, a3].toArray H119 fun v109x120 H121 =>
  Le H119 H121 ∧ (ob (vExt v109x120 0) fun v110x122 =>
  ob (vExt v109x120 1) fun v111x123 =>
  nw #[(.int .i64 0), (.int .i64 0), (.slice none 0 0)] 29 H121 fun v19x124 H125 =>
  st 3 v19x124 v110x122 H125 fun H126 =>
  ob (vLoadN 3 v19x124 H126) fun v112x127 =>
  ob (vLoadN 3 v10x23 H126) fun v113x128 =>
  HT prg I.laws_eqField [v112x127, v113x128].toArray H126 fun v114x129 H130 =>
  ob (vUn .not v114x129) fun v115x131 =>
  gop v115x131 false (fun K132 => K132 v111x123 H130) H130 fun v117x133 H134 =>
  gop v115x131 false (fun K135 => K135 v40x22 H134) H134 fun v118x136 H137 =>
  gop v115x131 false (fun K138 => ob (vBool .neq v117x133 v118x136) fun u => K138 u H137) H137 fun v119x139 H140 =>
  ob (vPick v115x131 (.bool true) v119x139) fun v120x141 =>
  cnd v120x141
    (K (.bool false) H140)
    (ob (vLoadN 3 v14x44 H140) fun v121x142 =>
  HT prg I.laws_heldField [v121x142, (.int .i64 1)].toArray H140 fun v123x143 H144 =>
  ob (vInt .lss v123x143 (.int .i64 0)) fun v125x145 =>
  cnd v125x145
    (K (.bool false) H144)
    (ob (vInt .neq v123x143 v93x107) fun v128x146 =>
  cnd v128x146
    (K (.bool false) H144)
    (K (.bool true) H144)))))))))))))))))))))
def O.laws_FnExactRunLife : Nat → Nat × List Nat := fun i => bif Nat.beq i 8 then (0, [0, 2, 4, 5, 1, 3, 6, 7, 8, 9, 10, 11, 12]) else bif Nat.beq i 14 then (0, [0, 1, 2, 3, 4]) else bif Nat.beq i 16 then (0, [0, 1, 2, 3, 4]) else bif Nat.beq i 31 then (0, [0, 2, 4, 5, 1, 3, 6, 7, 8, 9, 10, 11, 12]) else (0, [])
theorem R.laws_FnExactRunLife {a0 a1 a2 a3 : Value} {H : Hp} {K : Value → Hp → Prop} (h : F.laws_FnExactRunLife a0 a1 a2 a3 H K) : HT prg I.laws_FnExactRunLife [a0, a1, a2, a3].toArray H K :=
  HT_of_fev O.laws_FnExactRunLife mixed Try.func3 (by kernel_rfl) (Eq.mpr (by kernel_rfl : fev prg O.laws_FnExactRunLife Try.f3 [a0, a1, a2, a3] H K = F.laws_FnExactRunLife a0 a1 a2 a3 H K) h)

/-! loop.example/g01381/spec.l05Ones: function 65 -/
def F.spec_l05Ones (a0 : Value) (H : Hp) (K : Value → Hp → Prop) : Prop :=
  jn (fun σ1 H1 =>
    K (σ1 3) H1) fun J1 =>
  ob (vNilC a0) fun v6x2 =>
  ob (vFa 2 v6x2) fun v7x3 =>
  ob (vLoad v7x3 H) fun v8x4 =>
  ob (vLenSl v8x4) fun v9x5 =>
  lpE (fun Q6 σ6 H6 =>
    ob (vInt .lss (σ6 10) (σ6 9)) fun v11x7 =>
    cnd v11x7
      (ob (vNilC (σ6 0)) fun v15x8 =>
    ob (vFa 2 v15x8) fun v16x9 =>
    ob (vLoad v16x9 H6) fun v17x10 =>
    ob (vIx 1 v17x10 (σ6 10)) fun v19x11 =>
    ob (vLoad v19x11 H6) fun v20x12 =>
    ob (vInt .add (σ6 3) v20x12) fun v21x13 =>
    ob (vInt .add (σ6 10) (.int .i64 1)) fun v22x14 =>
    Q6 .normal (up (up (up (up (up (up (up (up (up (up (up (up (up (up (up σ6 11 v11x7) 12 (σ6 10)) 4 (σ6 10)) 13 (σ6 3)) 14 (σ6 0)) 15 v15x8) 16 v16x9) 17 v17x10) 18 (σ6 10)) 19 v19x11) 20 v20x12) 21 v21x13) 3 v21x13) 22 v22x14) 10 v22x14) H6)
      (Q6 (.exit 0) (up σ6 11 v11x7) H6)) (blkQ 0 (thenQ J1 (retQ prg [(.tmp 2)] K))) (up (up (up (up (up (up (up (up (S0 [a0]) 2 (.int .i64 0)) 3 (.int .i64 0)) 5 a0) 6 v6x2) 7 v7x3) 8 v8x4) 9 v9x5) 10 (.int .i64 0)) H
def O.spec_l05Ones : Nat → Nat × List Nat := fun i => (0, [])
theorem R.spec_l05Ones {a0 : Value} {H : Hp} {K : Value → Hp → Prop} (h : F.spec_l05Ones a0 H K) : HT prg I.spec_l05Ones [a0].toArray H K :=
  HT_of_fev O.spec_l05Ones mixed Try.func65 (by kernel_rfl) (Eq.mpr (by kernel_rfl : fev prg O.spec_l05Ones Try.f65 [a0] H K = F.spec_l05Ones a0 H K) h)

/-! loop.example/g01381/spec.CountsAhead: function 26 -/
def F.spec_CountsAhead (a0 a1 a2 a3 : Value) (H : Hp) (K : Value → Hp → Prop) : Prop :=
  nw (a0 : Value).cells 32 H fun v4x1 H2 =>
  nw (a1 : Value).cells 29 H2 fun v5x3 H4 =>
  HT prg I.spec_l04Can [v4x1, v5x3].toArray H4 fun v12x5 H6 =>
  ob (vUn .not v12x5) fun v13x7 =>
  gop v13x7 false (fun K8 => K8 a3 H6) H6 fun v15x9 H10 =>
  gop v13x7 false (fun K11 => HT prg I.spec_l00In [v15x9, (.int .i64 0), (.int .i64 512)].toArray H10 K11) H10 fun v16x12 H13 =>
  gop v13x7 false (fun K14 => ob (vUn .not v16x12) fun u => K14 u H13) H13 fun v17x15 H16 =>
  ob (vPick v13x7 (.bool true) v17x15) fun v18x17 =>
  cnd v18x17
    (K (.tuple #[(.slice none 0 0), (.bool false)]) H16)
    (HT prg I.spec_l04Own [v5x3].toArray H16 fun v19x18 H19 =>
  nw #[(.int .i64 0), (.int .i64 0), (.slice none 0 0)] 29 H19 fun v10x20 H21 =>
  st 3 v10x20 v19x18 H21 fun H22 =>
  HT prg I.spec_l05Ones [v10x20].toArray H22 fun v20x23 H24 =>
  bS 1 1 #[(.int .i64 0)] 2 [(0, v20x23)] H24 fun v21x25 H26 =>
  jn (fun σ27 H27 =>
    K (.tuple #[(σ27 11), (.bool true)]) H27) fun J27 =>
  lpE (fun Q28 σ28 H28 =>
    ob (vInt .gtr (σ28 3) (.int .i64 0)) fun v23x29 =>
    cnd v23x29
      (HT prg I.spec_l04Next [(σ28 4), (σ28 10), (σ28 2)].toArray H28 fun v27x30 H31 =>
    st 3 (σ28 10) v27x30 H31 fun H32 =>
    HT prg I.spec_l05Ones [(σ28 10)].toArray H32 fun v29x33 H34 =>
    bS 1 1 #[(.int .i64 0)] 2 [(0, v29x33)] H34 fun v30x35 H36 =>
    apd 1 8 #[(.int .i64 0)] 2 (σ28 11) v30x35 H36 fun v31x37 H38 =>
    ob (vInt .sub (σ28 3) (.int .i64 1)) fun v25x39 =>
    Q28 .normal (up (up (up (up (up (up (up (up (up (up (up (up σ28 22 (σ28 3)) 23 v23x29) 26 (σ28 2)) 27 v27x30) 28 (σ28 11)) 29 v29x33) 30 v30x35) 31 v31x37) 11 v31x37) 24 (σ28 3)) 25 v25x39) 3 v25x39) H38)
      (Q28 (.exit 0) (up (up σ28 22 (σ28 3)) 23 v23x29) H28)) (blkQ 0 (thenQ J27 (retQ prg [(.tmp 8), (.tmp 9)] K))) (up (up (up (up (up (up (up (up (up (up (up (up (up (up (up (up (S0 [a0, a1, a2, a3]) 4 v4x1) 5 v5x3) 8 (.slice none 0 0)) 9 (.bool false)) 12 v12x5) 13 v13x7) 14 v13x7) 15 v15x9) 16 v16x12) 17 v17x15) 18 v18x17) 19 v19x18) 10 v10x20) 20 v20x23) 21 v21x25) 11 v21x25) H26)
def O.spec_CountsAhead : Nat → Nat × List Nat := fun i => (0, [])
theorem R.spec_CountsAhead {a0 a1 a2 a3 : Value} {H : Hp} {K : Value → Hp → Prop} (h : F.spec_CountsAhead a0 a1 a2 a3 H K) : HT prg I.spec_CountsAhead [a0, a1, a2, a3].toArray H K :=
  HT_of_fev O.spec_CountsAhead mixed Try.func26 (by kernel_rfl) (Eq.mpr (by kernel_rfl : fev prg O.spec_CountsAhead Try.f26 [a0, a1, a2, a3] H K = F.spec_CountsAhead a0 a1 a2 a3 H K) h)

/-! (loop.example/g01381/impl.Field).count: function 67 -/
def F.impl_Field_count (a0 a1 : Value) (H : Hp) (K : Value → Hp → Prop) : Prop :=
  nw (a0 : Value).cells 29 H fun v2x1 H2 =>
  jn (fun σ3 H3 =>
    K (σ3 5) H3) fun J3 =>
  ob (vFa 2 v2x1) fun v8x4 =>
  ob (vLoad v8x4 H2) fun v9x5 =>
  ob (vLenSl v9x5) fun v10x6 =>
  lpE (fun Q7 σ7 H7 =>
    ob (vInt .lss (σ7 11) (σ7 10)) fun v12x8 =>
    cnd v12x8
      (ob (vIx 1 (σ7 9) (σ7 11)) fun v13x9 =>
    ob (vLoad v13x9 H7) fun v14x10 =>
    ob (vInt .eql v14x10 (σ7 1)) fun v17x11 =>
    cnd v17x11
      (ob (vInt .add (σ7 5) (.int .i64 1)) fun v19x12 =>
      ob (vInt .add (σ7 11) (.int .i64 1)) fun v20x13 =>
    Q7 .normal (up (up (up (up (up (up (up (up (up (up (up (up σ7 12 v12x8) 13 v13x9) 14 v14x10) 7 v14x10) 15 v14x10) 16 (σ7 1)) 17 v17x11) 18 (σ7 5)) 19 v19x12) 5 v19x12) 20 v20x13) 11 v20x13) H7)
      (ob (vInt .add (σ7 11) (.int .i64 1)) fun v20x14 =>
    Q7 .normal (up (up (up (up (up (up (up (up (up σ7 12 v12x8) 13 v13x9) 14 v14x10) 7 v14x10) 15 v14x10) 16 (σ7 1)) 17 v17x11) 20 v20x14) 11 v20x14) H7))
      (Q7 (.exit 0) (up σ7 12 v12x8) H7)) (blkQ 0 (thenQ J3 (retQ prg [(.tmp 4)] K))) (up (up (up (up (up (up (up (S0 [a0, a1]) 2 v2x1) 4 (.int .i64 0)) 5 (.int .i64 0)) 8 v8x4) 9 v9x5) 10 v10x6) 11 (.int .i64 0)) H2
def O.impl_Field_count : Nat → Nat × List Nat := fun i => (0, [])
theorem R.impl_Field_count {a0 a1 : Value} {H : Hp} {K : Value → Hp → Prop} (h : F.impl_Field_count a0 a1 H K) : HT prg I.impl_Field_count [a0, a1].toArray H K :=
  HT_of_fev O.impl_Field_count mixed Try.func67 (by kernel_rfl) (Eq.mpr (by kernel_rfl : fev prg O.impl_Field_count Try.f67 [a0, a1] H K = F.impl_Field_count a0 a1 H K) h)

/-! loop.example/g01381/impl.CountsAhead: function 27 -/
def F.impl_CountsAhead (a0 a1 a2 a3 : Value) (H : Hp) (K : Value → Hp → Prop) : Prop :=
  nw (a0 : Value).cells 32 H fun v4x1 H2 =>
  nw (a1 : Value).cells 29 H2 fun v5x3 H4 =>
  ob (vLoadN 2 v4x1 H4) fun v11x5 =>
  ob (vLoadN 3 v5x3 H4) fun v12x6 =>
  bS 3 1 #[(.int .i64 0), (.int .i64 0), (.slice none 0 0)] 29 [(0, v12x6)] H4 fun v13x7 H8 =>
  HT prg I.impl_lives [v11x5, v13x7].toArray H8 fun v14x9 H10 =>
  ob (vUn .not v14x9) fun v15x11 =>
  gop v15x11 false (fun K12 => K12 a3 H10) H10 fun v17x13 H14 =>
  gop v15x11 false (fun K15 => HT prg I.impl_within [v17x13, (.int .i64 0), (.int .i64 512)].toArray H14 K15) H14 fun v18x16 H17 =>
  gop v15x11 false (fun K18 => ob (vUn .not v18x16) fun u => K18 u H17) H17 fun v19x19 H20 =>
  ob (vPick v15x11 (.bool true) v19x19) fun v20x21 =>
  cnd v20x21
    (K (.tuple #[(.slice none 0 0), (.bool false)]) H20)
    (ob (vLoadN 3 v5x3 H20) fun v21x22 =>
  HT prg I.impl_Field_count [v21x22, (.int .i64 1)].toArray H20 fun v22x23 H24 =>
  bS 1 1 #[(.int .i64 0)] 2 [(0, v22x23)] H24 fun v23x25 H26 =>
  jn (fun σ27 H27 =>
    K (.tuple #[(σ27 10), (.bool true)]) H27) fun J27 =>
  lpE (fun Q28 σ28 H28 =>
    ob (vInt .lss (σ28 25) (σ28 24)) fun v26x29 =>
    cnd v26x29
      (ob (vLoadN 2 (σ28 4) H28) fun v27x30 =>
    ob (vLoadN 3 (σ28 5) H28) fun v28x31 =>
    HT prg I.impl_Life_step [v27x30, v28x31, (σ28 2)].toArray H28 fun v30x32 H33 =>
    st 3 (σ28 5) v30x32 H33 fun H34 =>
    ob (vLoadN 3 (σ28 5) H34) fun v32x35 =>
    HT prg I.impl_Field_count [v32x35, (.int .i64 1)].toArray H34 fun v33x36 H37 =>
    bS 1 1 #[(.int .i64 0)] 2 [(0, v33x36)] H37 fun v34x38 H39 =>
    apd 1 8 #[(.int .i64 0)] 2 (σ28 10) v34x38 H39 fun v35x40 H41 =>
    ob (vInt .add (σ28 25) (.int .i64 1)) fun v36x42 =>
    Q28 .normal (up (up (up (up (up (up (up (up (up (up (up (up (up σ28 26 v26x29) 27 v27x30) 28 v28x31) 29 (σ28 2)) 30 v30x32) 31 (σ28 10)) 32 v32x35) 33 v33x36) 34 v34x38) 35 v35x40) 10 v35x40) 36 v36x42) 25 v36x42) H41)
      (Q28 (.exit 0) (up σ28 26 v26x29) H28)) (blkQ 0 (thenQ J27 (retQ prg [(.tmp 8), (.tmp 9)] K))) (up (up (up (up (up (up (up (up (up (up (up (up (up (up (up (up (up (up (up (up (S0 [a0, a1, a2, a3]) 4 v4x1) 5 v5x3) 8 (.slice none 0 0)) 9 (.bool false)) 11 v11x5) 12 v12x6) 13 v13x7) 14 v14x9) 15 v15x11) 16 v15x11) 17 v17x13) 18 v18x16) 19 v19x19) 20 v20x21) 21 v21x22) 22 v22x23) 23 v23x25) 10 v23x25) 24 a3) 25 (.int .i64 0)) H26)
def O.impl_CountsAhead : Nat → Nat × List Nat := fun i => (0, [])
theorem R.impl_CountsAhead {a0 a1 a2 a3 : Value} {H : Hp} {K : Value → Hp → Prop} (h : F.impl_CountsAhead a0 a1 a2 a3 H K) : HT prg I.impl_CountsAhead [a0, a1, a2, a3].toArray H K :=
  HT_of_fev O.impl_CountsAhead mixed Try.func27 (by kernel_rfl) (Eq.mpr (by kernel_rfl : fev prg O.impl_CountsAhead Try.f27 [a0, a1, a2, a3] H K = F.impl_CountsAhead a0 a1 a2 a3 H K) h)

/-! loop.example/g01381/laws.FnExactCountsAhead: function 4 -/
def F.laws_FnExactCountsAhead (a0 a1 a2 a3 : Value) (H : Hp) (K : Value → Hp → Prop) : Prop :=
  nw (a0 : Value).cells 24 H fun v4x1 H2 =>
  nw (a1 : Value).cells 26 H2 fun v5x3 H4 =>
  ob (vLoadN 2 v4x1 H4) fun v21x5 =>
  HT prg I.laws_szLife [v21x5, (.int .i64 1048576)].toArray H4 fun v23x6 H7 =>
  ob (vInt .lss v23x6 (.int .i64 0)) fun v25x8 =>
  cnd v25x8
    (K (.bool true) H7)
    (ob (vLoadN 3 v5x3 H7) fun v26x9 =>
  HT prg I.laws_szField [v26x9, v23x6].toArray H7 fun v28x10 H11 =>
  ob (vInt .lss v28x10 (.int .i64 0)) fun v30x12 =>
  cnd v30x12
    (K (.bool true) H11)
    (ob (vLoadN 2 v4x1 H11) fun v32x13 =>
  ob (vLoadN 3 v5x3 H11) fun v34x14 =>
  HT prg I.laws_toLife [v32x13].toArray H11 fun v33x15 H16 =>
  Le H11 H16 ∧ (HT prg I.laws_toField [v34x14].toArray H16 fun v35x17 H18 =>
  Le H16 H18 ∧ (HT prg I.spec_CountsAhead [v33x15, v35x17, a2, a3].toArray H18 fun v38x19 H20 =>
  Le H18 H20 ∧ (ob (vExt v38x19 0) fun v39x21 =>
  ob (vExt v38x19 1) fun v40x22 =>
  ob (vLoadN 2 v4x1 H20) fun v41x23 =>
  HT prg I.laws_toLife [v41x23].toArray H20 fun v42x24 H25 =>
  nw #[(.slice none 0 0), (.slice none 0 0)] 32 H25 fun v12x26 H27 =>
  st 2 v12x26 v42x24 H27 fun H28 =>
  ob (vLoadN 3 v5x3 H28) fun v43x29 =>
  HT prg I.laws_toField [v43x29].toArray H28 fun v44x30 H31 =>
  nw #[(.int .i64 0), (.int .i64 0), (.slice none 0 0)] 29 H31 fun v13x32 H33 =>
  st 3 v13x32 v44x30 H33 fun H34 =>
  ob (vLoadN 2 v12x26 H34) fun v46x35 =>
  ob (vLoadN 3 v13x32 H34) fun v47x36 =>
  HT prg I.impl_CountsAhead [v46x35, v47x36, a2, a3].toArray H34 fun v50x37 H38 =>
  ob (vExt v50x37 0) fun v51x39 =>
  ob (vExt v50x37 1) fun v52x40 =>
  HT prg I.laws_eqInt64S [v51x39, v39x21].toArray H38 fun v55x41 H42 =>
  ob (vUn .not v55x41) fun v56x43 =>
  gop v56x43 false (fun K44 => K44 v52x40 H42) H42 fun v58x45 H46 =>
  gop v56x43 false (fun K47 => K47 v40x22 H46) H46 fun v59x48 H49 =>
  gop v56x43 false (fun K50 => ob (vBool .neq v58x45 v59x48) fun u => K50 u H49) H49 fun v60x51 H52 =>
  ob (vPick v56x43 (.bool true) v60x51) fun v61x53 =>
  cnd v61x53
    (K (.bool false) H52)
    (ob (vLoadN 2 v12x26 H52) fun v62x54 =>
  ob (vLoadN 2 v4x1 H52) fun v63x55 =>
  HT prg I.laws_toLife [v63x55].toArray H52 fun v64x56 H57 =>
  Le H52 H57 ∧ (HT prg I.laws_eqLife [v62x54, v64x56].toArray H57 fun v65x58 H59 =>
  Le H57 H59 ∧ (ob (vUn .not v65x58) fun v66x60 =>
  cnd v66x60
    (K (.bool false) H59)
    (ob (vLoadN 3 v13x32 H59) fun v67x61 =>
  ob (vLoadN 3 v5x3 H59) fun v68x62 =>
  HT prg I.laws_toField [v68x62].toArray H59 fun v69x63 H64 =>
  Le H59 H64 ∧ (HT prg I.laws_eqField [v67x61, v69x63].toArray H64 fun v70x65 H66 =>
  Le H64 H66 ∧ (ob (vUn .not v70x65) fun v71x67 =>
  cnd v71x67
    (K (.bool false) H66)
    (ob (vLoadN 2 v12x26 H66) fun v72x68 =>
  HT prg I.laws_markLife [v72x68, (.int .i64 1)].toArray H66 fun v74x69 H70 =>
  ob (vLoadN 3 v13x32 H70) fun v75x71 =>
  HT prg I.laws_markField [v75x71, v74x69].toArray H70 fun v77x72 H73 =>
  ob (vInt .lss v77x72 (.int .i64 0)) fun v79x74 =>
  gop v79x74 false (fun K75 => K75 v51x39 H73) H73 fun v81x76 H77 =>
  gop v79x74 false (fun K78 => K78 v39x21 H77) H77 fun v82x79 H80 =>
  gop v79x74 false (fun K81 => HT prg I.laws_eqInt64S [v81x76, v82x79].toArray H80 K81) H80 fun v83x82 H83 =>
  gop v79x74 false (fun K84 => ob (vUn .not v83x82) fun u => K84 u H83) H83 fun v84x85 H86 =>
  ob (vPick v79x74 (.bool true) v84x85) fun v85x87 =>
  gop v85x87 false (fun K88 => K88 v52x40 H86) H86 fun v87x89 H90 =>
  gop v85x87 false (fun K91 => K91 v40x22 H90) H90 fun v88x92 H93 =>
  gop v85x87 false (fun K94 => ob (vBool .neq v87x89 v88x92) fun u => K94 u H93) H93 fun v89x95 H96 =>
  ob (vPick v85x87 (.bool true) v89x95) fun v90x97 =>
  cnd v90x97
    (K (.bool false) H96)
    (HT prg I.laws_markInt64S [v51x39, (.int .i64 1)].toArray H96 fun v93x98 H99 =>
  HT prg I.laws_heldInt64S [v51x39, (.int .i64 1)].toArray H99 fun v96x100 H101 =>
  ob (vInt .lss v96x100 (.int .i64 0)) fun v98x102 =>
  cnd v98x102
    (K (.bool false) H101)
    (ob (vInt .neq v96x100 v93x98) fun v101x103 =>
  cnd v101x103
    (K (.bool false) H101)
    (ob (vLoadN 2 v4x1 H101) fun v103x104 =>
  ob (vLoadN 3 v5x3 H101) fun v105x105 =>
  HT prg I.laws_toLife [v103x104].toArray H101 fun v104x106 H107 =>
  Le H101 H107 ∧ (HT prg I.laws_toField [v105x105].toArray H107 fun v106x108 H109 =>
  Le H107 H109 ∧ (HT prg I.impl_CountsAhead [v104x106, v106x108, a2, a3].toArray H109 fun v109x110 H111 =>
  Le H109 H111 ∧ (ob (vExt v109x110 0) fun v110x112 =>
  ob (vExt v109x110 1) fun v111x113 =>
  HT prg I.laws_eqInt64S [v110x112, v39x21].toArray H111 fun v114x114 H115 =>
  ob (vUn .not v114x114) fun v115x116 =>
  gop v115x116 false (fun K117 => K117 v111x113 H115) H115 fun v117x118 H119 =>
  gop v115x116 false (fun K120 => K120 v40x22 H119) H119 fun v118x121 H122 =>
  gop v115x116 false (fun K123 => ob (vBool .neq v117x118 v118x121) fun u => K123 u H122) H122 fun v119x124 H125 =>
  ob (vPick v115x116 (.bool true) v119x124) fun v120x126 =>
  cnd v120x126
    (K (.bool false) H125)
    (HT prg I.laws_heldInt64S [v51x39, (.int .i64 1)].toArray H125 fun v123x127 H128 =>
  ob (vInt .lss v123x127 (.int .i64 0)) fun v125x129 =>
  cnd v125x129
    (K (.bool false) H128)
    (ob (vInt .neq v123x127 v93x98) fun v128x130 =>
  cnd v128x130
    (K (.bool false) H128)
    (K (.bool true) H128)))))))))))))))))))))
def O.laws_FnExactCountsAhead : Nat → Nat × List Nat := fun i => bif Nat.beq i 8 then (0, [0, 2, 4, 5, 1, 3, 6, 7, 8, 9, 10, 11]) else bif Nat.beq i 14 then (0, [0, 1, 2, 3, 4]) else bif Nat.beq i 16 then (0, [0, 1, 2, 3, 4]) else bif Nat.beq i 31 then (0, [0, 2, 4, 5, 1, 3, 6, 7, 8, 9, 10, 11]) else (0, [])
theorem R.laws_FnExactCountsAhead {a0 a1 a2 a3 : Value} {H : Hp} {K : Value → Hp → Prop} (h : F.laws_FnExactCountsAhead a0 a1 a2 a3 H K) : HT prg I.laws_FnExactCountsAhead [a0, a1, a2, a3].toArray H K :=
  HT_of_fev O.laws_FnExactCountsAhead mixed Try.func4 (by kernel_rfl) (Eq.mpr (by kernel_rfl : fev prg O.laws_FnExactCountsAhead Try.f4 [a0, a1, a2, a3] H K = F.laws_FnExactCountsAhead a0 a1 a2 a3 H K) h)

/-! loop.example/g01381/spec.l05Sides: function 120 -/
def F.spec_l05Sides (a0 a1 : Value) (H : Hp) (K : Value → Hp → Prop) : Prop :=
  HT prg I.spec_l00In [a0, (.int .i64 1), (.int .i64 24)].toArray H fun v6x1 H2 =>
  gop v6x1 true (fun K3 => K3 a1 H2) H2 fun v8x4 H5 =>
  gop v6x1 true (fun K6 => HT prg I.spec_l00In [v8x4, (.int .i64 1), (.int .i64 24)].toArray H5 K6) H5 fun v9x7 H8 =>
  ob (vPick v6x1 v9x7 (.bool false)) fun v10x9 =>
  K v10x9 H8
def O.spec_l05Sides : Nat → Nat × List Nat := fun i => (0, [])
theorem R.spec_l05Sides {a0 a1 : Value} {H : Hp} {K : Value → Hp → Prop} (h : F.spec_l05Sides a0 a1 H K) : HT prg I.spec_l05Sides [a0, a1].toArray H K :=
  HT_of_fev O.spec_l05Sides mixed Try.func120 (by kernel_rfl) (Eq.mpr (by kernel_rfl : fev prg O.spec_l05Sides Try.f120 [a0, a1] H K = F.spec_l05Sides a0 a1 H K) h)

/-! loop.example/g01381/spec.l05Small: function 70 -/
def F.spec_l05Small (a0 a1 : Value) (H : Hp) (K : Value → Hp → Prop) : Prop :=
  HT prg I.spec_l05Sides [a0, a1].toArray H fun v7x1 H2 =>
  gop v7x1 true (fun K3 => K3 a0 H2) H2 fun v9x4 H5 =>
  gop v7x1 true (fun K6 => K6 a1 H5) H5 fun v10x7 H8 =>
  gop v7x1 true (fun K9 => ob (vInt .mul v9x4 v10x7) fun u => K9 u H8) H8 fun v11x10 H11 =>
  gop v7x1 true (fun K12 => ob (vInt .leq v11x10 (.int .i64 12)) fun u => K12 u H11) H11 fun v12x13 H14 =>
  ob (vPick v7x1 v12x13 (.bool false)) fun v13x15 =>
  K v13x15 H14
def O.spec_l05Small : Nat → Nat × List Nat := fun i => (0, [])
theorem R.spec_l05Small {a0 a1 : Value} {H : Hp} {K : Value → Hp → Prop} (h : F.spec_l05Small a0 a1 H K) : HT prg I.spec_l05Small [a0, a1].toArray H K :=
  HT_of_fev O.spec_l05Small mixed Try.func70 (by kernel_rfl) (Eq.mpr (by kernel_rfl : fev prg O.spec_l05Small Try.f70 [a0, a1] H K = F.spec_l05Small a0 a1 H K) h)

/-! loop.example/g01381/spec.l05Of: function 71 -/
def F.spec_l05Of (a0 a1 a2 : Value) (H : Hp) (K : Value → Hp → Prop) : Prop :=
  nw #[(.int .i64 0), (.int .i64 0), (.slice none 0 0)] 29 H fun v6x1 H2 =>
  HT prg I.spec_l04New [a1, a2].toArray H2 fun v11x3 H4 =>
  nw #[(.int .i64 0), (.int .i64 0), (.slice none 0 0)] 29 H4 fun v7x5 H6 =>
  st 3 v7x5 v11x3 H6 fun H7 =>
  jn (fun σ8 H8 =>
    ob (vLoadN 3 (σ8 7) H8) fun v28x9 =>
    st 3 (σ8 6) v28x9 H8 fun H10 =>
    ob (vLoadN 3 (σ8 6) H10) fun u11 => K u11 H10) fun J8 =>
  ob (vFa 2 v7x5) fun v12x12 =>
  ob (vLoad v12x12 H7) fun v13x13 =>
  ob (vLenSl v13x13) fun v14x14 =>
  ob (vInt .sub v14x14 (.int .i64 1)) fun v15x15 =>
  lpE (fun Q16 σ16 H16 =>
    ob (vInt .geq (σ16 8) (.int .i64 0)) fun v17x17 =>
    cnd v17x17
      (ob (vFa 2 (σ16 7)) fun v20x18 =>
    ob (vLoad v20x18 H16) fun v21x19 =>
    ob (vInt .rem (σ16 0) (.int .i64 2)) fun v24x20 =>
    ob (vIx 1 v21x19 (σ16 8)) fun v25x21 =>
    st 1 v25x21 v24x20 H16 fun H22 =>
    ob (vInt .quo (σ16 0) (.int .i64 2)) fun v27x23 =>
    ob (vInt .sub (σ16 8) (.int .i64 1)) fun v19x24 =>
    Q16 .normal (up (up (up (up (up (up (up (up (up (up (up (up (up (up σ16 16 (σ16 8)) 17 v17x17) 20 v20x18) 21 v21x19) 22 (σ16 8)) 23 (σ16 0)) 24 v24x20) 25 v25x21) 26 (σ16 0)) 27 v27x23) 0 v27x23) 18 (σ16 8)) 19 v19x24) 8 v19x24) H22)
      (Q16 (.exit 0) (up (up σ16 16 (σ16 8)) 17 v17x17) H16)) (blkQ 0 (thenQ J8 (retQ prg [(.cell 6 29)] K))) (up (up (up (up (up (up (up (up (up (up (S0 [a0, a1, a2]) 6 v6x1) 9 a1) 10 a2) 11 v11x3) 7 v7x5) 12 v12x12) 13 v13x13) 14 v14x14) 15 v15x15) 8 v15x15) H7
def O.spec_l05Of : Nat → Nat × List Nat := fun i => (0, [])
theorem R.spec_l05Of {a0 a1 a2 : Value} {H : Hp} {K : Value → Hp → Prop} (h : F.spec_l05Of a0 a1 a2 H K) : HT prg I.spec_l05Of [a0, a1, a2].toArray H K :=
  HT_of_fev O.spec_l05Of mixed Try.func71 (by kernel_rfl) (Eq.mpr (by kernel_rfl : fev prg O.spec_l05Of Try.f71 [a0, a1, a2] H K = F.spec_l05Of a0 a1 a2 H K) h)

/-! loop.example/g01381/spec.l04Step: function 72 -/
def F.spec_l04Step (a0 a1 : Value) (H : Hp) (K : Value → Hp → Prop) : Prop :=
  nw #[(.int .i64 0), (.int .i64 0), (.slice none 0 0)] 29 H fun v4x1 H2 =>
  HT prg I.spec_l04Next [a0, a1, (.bool false)].toArray H2 fun v7x3 H4 =>
  st 3 v4x1 v7x3 H4 fun H5 =>
  ob (vLoadN 3 v4x1 H5) fun u6 => K u6 H5
def O.spec_l04Step : Nat → Nat × List Nat := fun i => (0, [])
theorem R.spec_l04Step {a0 a1 : Value} {H : Hp} {K : Value → Hp → Prop} (h : F.spec_l04Step a0 a1 H K) : HT prg I.spec_l04Step [a0, a1].toArray H K :=
  HT_of_fev O.spec_l04Step mixed Try.func72 (by kernel_rfl) (Eq.mpr (by kernel_rfl : fev prg O.spec_l04Step Try.f72 [a0, a1] H K = F.spec_l04Step a0 a1 H K) h)

/-! loop.example/g01381/spec.l02Equal: function 121 -/
def F.spec_l02Equal (a0 a1 : Value) (H : Hp) (K : Value → Hp → Prop) : Prop :=
  ob (vLenSl a0) fun v7x1 =>
  ob (vLenSl a1) fun v9x2 =>
  ob (vInt .neq v7x1 v9x2) fun v10x3 =>
  cnd v10x3
    (K (.bool false) H)
    (jn (fun σ4 H4 =>
    K (.bool true) H4) fun J4 =>
  lpE (fun Q5 σ5 H5 =>
    ob (vLenSl (σ5 0)) fun v13x6 =>
    ob (vInt .lss (σ5 5) v13x6) fun v14x7 =>
    cnd v14x7
      (ob (vIx 1 (σ5 0) (σ5 5)) fun v19x8 =>
    ob (vLoad v19x8 H5) fun v20x9 =>
    ob (vIx 1 (σ5 1) (σ5 5)) fun v23x10 =>
    ob (vLoad v23x10 H5) fun v24x11 =>
    ob (vInt .neq v20x9 v24x11) fun v25x12 =>
    cnd v25x12
      (Q5 .ret (up (up (up (up (up (up (up (up (up (up (up (up (up (up σ5 11 (σ5 5)) 12 (σ5 0)) 13 v13x6) 14 v14x7) 17 (σ5 0)) 18 (σ5 5)) 19 v19x8) 20 v20x9) 21 (σ5 1)) 22 (σ5 5)) 23 v23x10) 24 v24x11) 25 v25x12) 4 (.bool false)) H5)
      (ob (vInt .add (σ5 5) (.int .i64 1)) fun v16x13 =>
    Q5 .normal (up (up (up (up (up (up (up (up (up (up (up (up (up (up (up (up σ5 11 (σ5 5)) 12 (σ5 0)) 13 v13x6) 14 v14x7) 17 (σ5 0)) 18 (σ5 5)) 19 v19x8) 20 v20x9) 21 (σ5 1)) 22 (σ5 5)) 23 v23x10) 24 v24x11) 25 v25x12) 15 (σ5 5)) 16 v16x13) 5 v16x13) H5))
      (Q5 (.exit 0) (up (up (up (up σ5 11 (σ5 5)) 12 (σ5 0)) 13 v13x6) 14 v14x7) H5)) (blkQ 0 (thenQ J4 (retQ prg [(.tmp 4)] K))) (up (up (up (up (up (up (up (S0 [a0, a1]) 4 (.bool false)) 6 a0) 7 v7x1) 8 a1) 9 v9x2) 10 v10x3) 5 (.int .i64 0)) H)
def O.spec_l02Equal : Nat → Nat × List Nat := fun i => bif Nat.beq i 6 then (0, [0, 1, 2, 3, 4, 5, 6, 7, 8]) else (0, [])
theorem R.spec_l02Equal {a0 a1 : Value} {H : Hp} {K : Value → Hp → Prop} (h : F.spec_l02Equal a0 a1 H K) : HT prg I.spec_l02Equal [a0, a1].toArray H K :=
  HT_of_fev O.spec_l02Equal mixed Try.func121 (by kernel_rfl) (Eq.mpr (by kernel_rfl : fev prg O.spec_l02Equal Try.f121 [a0, a1] H K = F.spec_l02Equal a0 a1 H K) h)

/-! loop.example/g01381/spec.l04Same: function 73 -/
def F.spec_l04Same (a0 a1 : Value) (H : Hp) (K : Value → Hp → Prop) : Prop :=
  ob (vNilC a0) fun v6x1 =>
  ob (vFa 0 v6x1) fun v7x2 =>
  ob (vLoad v7x2 H) fun v8x3 =>
  ob (vNilC a1) fun v10x4 =>
  ob (vFa 0 v10x4) fun v11x5 =>
  ob (vLoad v11x5 H) fun v12x6 =>
  ob (vInt .eql v8x3 v12x6) fun v13x7 =>
  gop v13x7 true (fun K8 => K8 a0 H) H fun v15x9 H10 =>
  gop v13x7 true (fun K11 => ob (vNilC v15x9) fun u => K11 u H10) H10 fun v16x12 H13 =>
  gop v13x7 true (fun K14 => ob (vFa 1 v16x12) fun u => K14 u H13) H13 fun v17x15 H16 =>
  gop v13x7 true (fun K17 => ob (vLoad v17x15 H16) fun u => K17 u H16) H16 fun v18x18 H19 =>
  gop v13x7 true (fun K20 => K20 a1 H19) H19 fun v19x21 H22 =>
  gop v13x7 true (fun K23 => ob (vNilC v19x21) fun u => K23 u H22) H22 fun v20x24 H25 =>
  gop v13x7 true (fun K26 => ob (vFa 1 v20x24) fun u => K26 u H25) H25 fun v21x27 H28 =>
  gop v13x7 true (fun K29 => ob (vLoad v21x27 H28) fun u => K29 u H28) H28 fun v22x30 H31 =>
  gop v13x7 true (fun K32 => ob (vInt .eql v18x18 v22x30) fun u => K32 u H31) H31 fun v23x33 H34 =>
  ob (vPick v13x7 v23x33 (.bool false)) fun v24x35 =>
  gop v24x35 true (fun K36 => K36 a0 H34) H34 fun v26x37 H38 =>
  gop v24x35 true (fun K39 => ob (vNilC v26x37) fun u => K39 u H38) H38 fun v27x40 H41 =>
  gop v24x35 true (fun K42 => ob (vFa 2 v27x40) fun u => K42 u H41) H41 fun v28x43 H44 =>
  gop v24x35 true (fun K45 => ob (vLoad v28x43 H44) fun u => K45 u H44) H44 fun v29x46 H47 =>
  gop v24x35 true (fun K48 => K48 a1 H47) H47 fun v30x49 H50 =>
  gop v24x35 true (fun K51 => ob (vNilC v30x49) fun u => K51 u H50) H50 fun v31x52 H53 =>
  gop v24x35 true (fun K54 => ob (vFa 2 v31x52) fun u => K54 u H53) H53 fun v32x55 H56 =>
  gop v24x35 true (fun K57 => ob (vLoad v32x55 H56) fun u => K57 u H56) H56 fun v33x58 H59 =>
  gop v24x35 true (fun K60 => HT prg I.spec_l02Equal [v29x46, v33x58].toArray H59 fun v34x61 H62 =>
  Le H59 H62 ∧ K60 v34x61 H62) H59 fun v34x63 H64 =>
  ob (vPick v24x35 v34x63 (.bool false)) fun v35x65 =>
  K v35x65 H64
def O.spec_l04Same : Nat → Nat × List Nat := fun i => bif Nat.beq i 1 then (0, [0, 1, 2, 3, 4, 5, 6, 7, 8, 9, 10, 11, 12, 13, 14, 15, 16, 17, 18, 19, 20, 21, 22, 23, 24, 25, 26, 27, 28, 29, 30, 31]) else (0, [])
theorem R.spec_l04Same {a0 a1 : Value} {H : Hp} {K : Value → Hp → Prop} (h : F.spec_l04Same a0 a1 H K) : HT prg I.spec_l04Same [a0, a1].toArray H K :=
  HT_of_fev O.spec_l04Same mixed Try.func73 (by kernel_rfl) (Eq.mpr (by kernel_rfl : fev prg O.spec_l04Same Try.f73 [a0, a1] H K = F.spec_l04Same a0 a1 H K) h)

end Go.Proofs.Ythbffbpdoankjaa
