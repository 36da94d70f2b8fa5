/- Functions' texts over a partial heap. -/
import Derived.Test.YthgjegbckkpaiaaG0
namespace Go.Proofs.Ythgjegbckkpaiaa
open HL
set_option linter.unusedVariables false
set_option maxRecDepth 100000
set_option maxHeartbeats 4000000
/-! loop.example/g01381/laws.szInt64S: function 32 -/
def F.laws_szInt64S (a0 a1 : Value) (H : Hp) (K : Value → Hp → Prop) : Prop :=
  ob (vLenSl a0) fun v7x1 =>
  ob (vInt .sub a1 v7x1) fun v8x2 =>
  ob (vInt .lss v8x2 (.int .i64 0)) fun v10x3 =>
  cnd v10x3
    (K (.int .i64 (-1)) H)
    (K v8x2 H)
def O.laws_szInt64S : Nat → Nat × List Nat := fun i => (0, [])
theorem R.laws_szInt64S {a0 a1 : Value} {H : Hp} {K : Value → Hp → Prop} (h : F.laws_szInt64S a0 a1 H K) : HT prg I.laws_szInt64S [a0, a1].toArray H K :=
  HT_of_fev O.laws_szInt64S mixed Try.func32 (by kernel_rfl) (Eq.mpr (by kernel_rfl : fev prg O.laws_szInt64S Try.f32 [a0, a1] H K = F.laws_szInt64S a0 a1 H K) h)

/-! loop.example/g01381/laws.szField: function 7 -/
def F.laws_szField (a0 a1 : Value) (H : Hp) (K : Value → Hp → Prop) : Prop :=
  nw (a0 : Value).cells 24 H fun v2x1 H2 =>
  ob (vFa 2 v2x1) fun v5x3 =>
  ob (vLoad v5x3 H2) fun v6x4 =>
  HT prg I.laws_szInt64S [v6x4, a1].toArray H2 fun v8x5 H6 =>
  ob (vInt .lss v8x5 (.int .i64 0)) fun v10x7 =>
  cnd v10x7
    (K (.int .i64 (-1)) H6)
    (K v8x5 H6)
def O.laws_szField : Nat → Nat × List Nat := fun i => (0, [])
theorem R.laws_szField {a0 a1 : Value} {H : Hp} {K : Value → Hp → Prop} (h : F.laws_szField a0 a1 H K) : HT prg I.laws_szField [a0, a1].toArray H K :=
  HT_of_fev O.laws_szField mixed Try.func7 (by kernel_rfl) (Eq.mpr (by kernel_rfl : fev prg O.laws_szField Try.f7 [a0, a1] H K = F.laws_szField a0 a1 H K) h)

/-! loop.example/g01381/spec.l00In: function 41 -/
def F.spec_l00In (a0 a1 a2 : Value) (H : Hp) (K : Value → Hp → Prop) : Prop :=
  ob (vInt .geq a0 a1) fun v9x1 =>
  gop v9x1 true (fun K2 => K2 a0 H) H fun v11x3 H4 =>
  gop v9x1 true (fun K5 => K5 a2 H4) H4 fun v12x6 H7 =>
  gop v9x1 true (fun K8 => ob (vInt .leq v11x3 v12x6) fun u => K8 u H7) H7 fun v13x9 H10 =>
  ob (vPick v9x1 v13x9 (.bool false)) fun v14x11 =>
  K v14x11 H10
def O.spec_l00In : Nat → Nat × List Nat := fun i => (0, [])
theorem R.spec_l00In {a0 a1 a2 : Value} {H : Hp} {K : Value → Hp → Prop} (h : F.spec_l00In a0 a1 a2 H K) : HT prg I.spec_l00In [a0, a1, a2].toArray H K :=
  HT_of_fev O.spec_l00In mixed Try.func41 (by kernel_rfl) (Eq.mpr (by kernel_rfl : fev prg O.spec_l00In Try.f41 [a0, a1, a2] H K = F.spec_l00In a0 a1 a2 H K) h)

/-! loop.example/g01381/spec.l04Is: function 60 -/
def F.spec_l04Is (a0 : Value) (H : Hp) (K : Value → Hp → Prop) : Prop :=
  ob (vNilC a0) fun v5x1 =>
  ob (vFa 0 v5x1) fun v6x2 =>
  ob (vLoad v6x2 H) fun v7x3 =>
  HT prg I.spec_l00In [v7x3, (.int .i64 1), (.int .i64 24)].toArray H fun v8x4 H5 =>
  Le H H5 ∧ (ob (vUn .not v8x4) fun v9x6 =>
  gop v9x6 false (fun K7 => K7 a0 H5) H5 fun v11x8 H9 =>
  gop v9x6 false (fun K10 => ob (vNilC v11x8) fun u => K10 u H9) H9 fun v12x11 H12 =>
  gop v9x6 false (fun K13 => ob (vFa 1 v12x11) fun u => K13 u H12) H12 fun v13x14 H15 =>
  gop v9x6 false (fun K16 => ob (vLoad v13x14 H15) fun u => K16 u H15) H15 fun v14x17 H18 =>
  gop v9x6 false (fun K19 => HT prg I.spec_l00In [v14x17, (.int .i64 1), (.int .i64 24)].toArray H18 fun v15x20 H21 =>
  Le H18 H21 ∧ K19 v15x20 H21) H18 fun v15x22 H23 =>
  gop v9x6 false (fun K24 => ob (vUn .not v15x22) fun u => K24 u H23) H23 fun v16x25 H26 =>
  ob (vPick v9x6 (.bool true) v16x25) fun v17x27 =>
  gop v17x27 false (fun K28 => K28 a0 H26) H26 fun v19x29 H30 =>
  gop v17x27 false (fun K31 => ob (vNilC v19x29) fun u => K31 u H30) H30 fun v20x32 H33 =>
  gop v17x27 false (fun K34 => ob (vFa 2 v20x32) fun u => K34 u H33) H33 fun v21x35 H36 =>
  gop v17x27 false (fun K37 => ob (vLoad v21x35 H36) fun u => K37 u H36) H36 fun v22x38 H39 =>
  gop v17x27 false (fun K40 => ob (vLenSl v22x38) fun u => K40 u H39) H39 fun v23x41 H42 =>
  gop v17x27 false (fun K43 => K43 a0 H42) H42 fun v24x44 H45 =>
  gop v17x27 false (fun K46 => ob (vNilC v24x44) fun u => K46 u H45) H45 fun v25x47 H48 =>
  gop v17x27 false (fun K49 => ob (vFa 0 v25x47) fun u => K49 u H48) H48 fun v26x50 H51 =>
  gop v17x27 false (fun K52 => ob (vLoad v26x50 H51) fun u => K52 u H51) H51 fun v27x53 H54 =>
  gop v17x27 false (fun K55 => K55 a0 H54) H54 fun v28x56 H57 =>
  gop v17x27 false (fun K58 => ob (vNilC v28x56) fun u => K58 u H57) H57 fun v29x59 H60 =>
  gop v17x27 false (fun K61 => ob (vFa 1 v29x59) fun u => K61 u H60) H60 fun v30x62 H63 =>
  gop v17x27 false (fun K64 => ob (vLoad v30x62 H63) fun u => K64 u H63) H63 fun v31x65 H66 =>
  gop v17x27 false (fun K67 => ob (vInt .mul v27x53 v31x65) fun u => K67 u H66) H66 fun v32x68 H69 =>
  gop v17x27 false (fun K70 => ob (vInt .neq v23x41 v32x68) fun u => K70 u H69) H69 fun v33x71 H72 =>
  ob (vPick v17x27 (.bool true) v33x71) fun v34x73 =>
  cnd v34x73
    (K (.bool false) H72)
    (jn (fun σ74 H74 =>
    K (.bool true) H74) fun J74 =>
  lpE (fun Q75 σ75 H75 =>
    ob (vNilC (σ75 0)) fun v37x76 =>
    ob (vFa 2 v37x76) fun v38x77 =>
    ob (vLoad v38x77 H75) fun v39x78 =>
    ob (vLenSl v39x78) fun v40x79 =>
    ob (vInt .lss (σ75 3) v40x79) fun v41x80 =>
    cnd v41x80
      (ob (vNilC (σ75 0)) fun v45x81 =>
    ob (vFa 2 v45x81) fun v46x82 =>
    ob (vLoad v46x82 H75) fun v47x83 =>
    ob (vIx 1 v47x83 (σ75 3)) fun v49x84 =>
    ob (vLoad v49x84 H75) fun v50x85 =>
    HT prg I.spec_l00In [v50x85, (.int .i64 0), (.int .i64 9)].toArray H75 fun v51x86 H87 =>
    ob (vUn .not v51x86) fun v52x88 =>
    cnd v52x88
      (Q75 .ret (up (up (up (up (up (up (up (up (up (up (up (up (up (up (up (up (up σ75 35 (σ75 3)) 36 (σ75 0)) 37 v37x76) 38 v38x77) 39 v39x78) 40 v40x79) 41 v41x80) 44 (σ75 0)) 45 v45x81) 46 v46x82) 47 v47x83) 48 (σ75 3)) 49 v49x84) 50 v50x85) 51 v51x86) 52 v52x88) 2 (.bool false)) H87)
      (ob (vInt .add (σ75 3) (.int .i64 1)) fun v43x89 =>
    Q75 .normal (up (up (up (up (up (up (up (up (up (up (up (up (up (up (up (up (up (up (up σ75 35 (σ75 3)) 36 (σ75 0)) 37 v37x76) 38 v38x77) 39 v39x78) 40 v40x79) 41 v41x80) 44 (σ75 0)) 45 v45x81) 46 v46x82) 47 v47x83) 48 (σ75 3)) 49 v49x84) 50 v50x85) 51 v51x86) 52 v52x88) 42 (σ75 3)) 43 v43x89) 3 v43x89) H87))
      (Q75 (.exit 0) (up (up (up (up (up (up (up σ75 35 (σ75 3)) 36 (σ75 0)) 37 v37x76) 38 v38x77) 39 v39x78) 40 v40x79) 41 v41x80) H75)) (blkQ 0 (thenQ J74 (retQ prg [(.tmp 2)] K))) (up (up (up (up (up (up (up (up (up (up (up (up (up (up (up (up (up (up (up (up (up (up (up (up (up (up (up (up (up (up (up (up (up (S0 [a0]) 2 (.bool false)) 4 a0) 5 v5x1) 6 v6x2) 7 v7x3) 8 v8x4) 9 v9x6) 10 v9x6) 11 v11x8) 12 v12x11) 13 v13x14) 14 v14x17) 15 v15x22) 16 v16x25) 17 v17x27) 18 v17x27) 19 v19x29) 20 v20x32) 21 v21x35) 22 v22x38) 23 v23x41) 24 v24x44) 25 v25x47) 26 v26x50) 27 v27x53) 28 v28x56) 29 v29x59) 30 v30x62) 31 v31x65) 32 v32x68) 33 v33x71) 34 v34x73) 3 (.int .i64 0)) H72))
def O.spec_l04Is : Nat → Nat × List Nat := fun i => bif Nat.beq i 1 then (0, [0, 1, 2, 3, 4, 5, 6, 7, 8, 9, 10, 11, 12, 13, 14, 15, 16, 17, 18, 19, 20, 21, 22, 23, 24, 25, 26, 27, 28, 29, 30]) else (0, [])
theorem R.spec_l04Is {a0 : Value} {H : Hp} {K : Value → Hp → Prop} (h : F.spec_l04Is a0 H K) : HT prg I.spec_l04Is [a0].toArray H K :=
  HT_of_fev O.spec_l04Is mixed Try.func60 (by kernel_rfl) (Eq.mpr (by kernel_rfl : fev prg O.spec_l04Is Try.f60 [a0] H K = F.spec_l04Is a0 H K) h)

/-! loop.example/g01381/spec.l04Plain: function 63 -/
def F.spec_l04Plain (a0 : Value) (H : Hp) (K : Value → Hp → Prop) : Prop :=
  HT prg I.spec_l04Is [a0].toArray H fun v5x1 H2 =>
  ob (vUn .not v5x1) fun v6x3 =>
  cnd v6x3
    (K (.bool false) H2)
    (jn (fun σ4 H4 =>
    K (.bool true) H4) fun J4 =>
  lpE (fun Q5 σ5 H5 =>
    ob (vNilC (σ5 0)) fun v9x6 =>
    ob (vFa 2 v9x6) fun v10x7 =>
    ob (vLoad v10x7 H5) fun v11x8 =>
    ob (vLenSl v11x8) fun v12x9 =>
    ob (vInt .lss (σ5 3) v12x9) fun v13x10 =>
    cnd v13x10
      (ob (vNilC (σ5 0)) fun v17x11 =>
    ob (vFa 2 v17x11) fun v18x12 =>
    ob (vLoad v18x12 H5) fun v19x13 =>
    ob (vIx 1 v19x13 (σ5 3)) fun v21x14 =>
    ob (vLoad v21x14 H5) fun v22x15 =>
    ob (vInt .gtr v22x15 (.int .i64 1)) fun v23x16 =>
    cnd v23x16
      (Q5 .ret (up (up (up (up (up (up (up (up (up (up (up (up (up (up (up (up σ5 7 (σ5 3)) 8 (σ5 0)) 9 v9x6) 10 v10x7) 11 v11x8) 12 v12x9) 13 v13x10) 16 (σ5 0)) 17 v17x11) 18 v18x12) 19 v19x13) 20 (σ5 3)) 21 v21x14) 22 v22x15) 23 v23x16) 2 (.bool false)) H5)
      (ob (vInt .add (σ5 3) (.int .i64 1)) fun v15x17 =>
    Q5 .normal (up (up (up (up (up (up (up (up (up (up (up (up (up (up (up (up (up (up σ5 7 (σ5 3)) 8 (σ5 0)) 9 v9x6) 10 v10x7) 11 v11x8) 12 v12x9) 13 v13x10) 16 (σ5 0)) 17 v17x11) 18 v18x12) 19 v19x13) 20 (σ5 3)) 21 v21x14) 22 v22x15) 23 v23x16) 14 (σ5 3)) 15 v15x17) 3 v15x17) H5))
      (Q5 (.exit 0) (up (up (up (up (up (up (up σ5 7 (σ5 3)) 8 (σ5 0)) 9 v9x6) 10 v10x7) 11 v11x8) 12 v12x9) 13 v13x10) H5)) (blkQ 0 (thenQ J4 (retQ prg [(.tmp 2)] K))) (up (up (up (up (up (S0 [a0]) 2 (.bool false)) 4 a0) 5 v5x1) 6 v6x3) 3 (.int .i64 0)) H2)
def O.spec_l04Plain : Nat → Nat × List Nat := fun i => (0, [])
theorem R.spec_l04Plain {a0 : Value} {H : Hp} {K : Value → Hp → Prop} (h : F.spec_l04Plain a0 H K) : HT prg I.spec_l04Plain [a0].toArray H K :=
  HT_of_fev O.spec_l04Plain mixed Try.func63 (by kernel_rfl) (Eq.mpr (by kernel_rfl : fev prg O.spec_l04Plain Try.f63 [a0] H K = F.spec_l04Plain a0 H K) h)

/-! loop.example/g01381/spec.l05Square: function 33 -/
def F.spec_l05Square (a0 : Value) (H : Hp) (K : Value → Hp → Prop) : Prop :=
  HT prg I.spec_l04Plain [a0].toArray H fun v4x1 H2 =>
  Le H H2 ∧ (gop v4x1 true (fun K3 => K3 a0 H2) H2 fun v6x4 H5 =>
  gop v4x1 true (fun K6 => ob (vNilC v6x4) fun u => K6 u H5) H5 fun v7x7 H8 =>
  gop v4x1 true (fun K9 => ob (vFa 0 v7x7) fun u => K9 u H8) H8 fun v8x10 H11 =>
  gop v4x1 true (fun K12 => ob (vLoad v8x10 H11) fun u => K12 u H11) H11 fun v9x13 H14 =>
  gop v4x1 true (fun K15 => K15 a0 H14) H14 fun v10x16 H17 =>
  gop v4x1 true (fun K18 => ob (vNilC v10x16) fun u => K18 u H17) H17 fun v11x19 H20 =>
  gop v4x1 true (fun K21 => ob (vFa 1 v11x19) fun u => K21 u H20) H20 fun v12x22 H23 =>
  gop v4x1 true (fun K24 => ob (vLoad v12x22 H23) fun u => K24 u H23) H23 fun v13x25 H26 =>
  gop v4x1 true (fun K27 => ob (vInt .eql v9x13 v13x25) fun u => K27 u H26) H26 fun v14x28 H29 =>
  ob (vPick v4x1 v14x28 (.bool false)) fun v15x30 =>
  gop v15x30 true (fun K31 => K31 a0 H29) H29 fun v17x32 H33 =>
  gop v15x30 true (fun K34 => ob (vNilC v17x32) fun u => K34 u H33) H33 fun v18x35 H36 =>
  gop v15x30 true (fun K37 => ob (vFa 0 v18x35) fun u => K37 u H36) H36 fun v19x38 H39 =>
  gop v15x30 true (fun K40 => ob (vLoad v19x38 H39) fun u => K40 u H39) H39 fun v20x41 H42 =>
  gop v15x30 true (fun K43 => ob (vInt .eql v20x41 (.int .i64 4)) fun u => K43 u H42) H42 fun v21x44 H45 =>
  gop v15x30 true (fun K46 => K46 v21x44 H45) H45 fun v22x47 H48 =>
  gop v22x47 false (fun K49 => K49 a0 H48) H48 fun v23x50 H51 =>
  gop v22x47 false (fun K52 => ob (vNilC v23x50) fun u => K52 u H51) H51 fun v24x53 H54 =>
  gop v22x47 false (fun K55 => ob (vFa 0 v24x53) fun u => K55 u H54) H54 fun v25x56 H57 =>
  gop v22x47 false (fun K58 => ob (vLoad v25x56 H57) fun u => K58 u H57) H57 fun v26x59 H60 =>
  gop v22x47 false (fun K61 => ob (vInt .eql v26x59 (.int .i64 8)) fun u => K61 u H60) H60 fun v27x62 H63 =>
  gop v15x30 true (fun K64 => ob (vPick v22x47 (.bool true) v27x62) fun u => K64 u H63) H63 fun v28x65 H66 =>
  gop v15x30 true (fun K67 => K67 v28x65 H66) H66 fun v29x68 H69 =>
  gop v29x68 false (fun K70 => K70 a0 H69) H69 fun v30x71 H72 =>
  gop v29x68 false (fun K73 => ob (vNilC v30x71) fun u => K73 u H72) H72 fun v31x74 H75 =>
  gop v29x68 false (fun K76 => ob (vFa 0 v31x74) fun u => K76 u H75) H75 fun v32x77 H78 =>
  gop v29x68 false (fun K79 => ob (vLoad v32x77 H78) fun u => K79 u H78) H78 fun v33x80 H81 =>
  gop v29x68 false (fun K82 => ob (vInt .eql v33x80 (.int .i64 16)) fun u => K82 u H81) H81 fun v34x83 H84 =>
  gop v15x30 true (fun K85 => ob (vPick v29x68 (.bool true) v34x83) fun u => K85 u H84) H84 fun v35x86 H87 =>
  ob (vPick v15x30 v35x86 (.bool false)) fun v36x88 =>
  K v36x88 H87)
def O.spec_l05Square : Nat → Nat × List Nat := fun i => bif Nat.beq i 1 then (0, [0, 1, 2, 3, 4, 5, 6, 7, 8, 9, 10, 11, 12, 13, 14, 15, 16, 17, 18, 19, 20, 21, 22, 23, 24, 25, 26, 27, 28, 29, 30, 31, 32, 33, 34]) else (0, [])
theorem R.spec_l05Square {a0 : Value} {H : Hp} {K : Value → Hp → Prop} (h : F.spec_l05Square a0 H K) : HT prg I.spec_l05Square [a0].toArray H K :=
  HT_of_fev O.spec_l05Square mixed Try.func33 (by kernel_rfl) (Eq.mpr (by kernel_rfl : fev prg O.spec_l05Square Try.f33 [a0] H K = F.spec_l05Square a0 H K) h)

/-! loop.example/g01381/spec.l04New: function 43 -/
def F.spec_l04New (a0 a1 : Value) (H : Hp) (K : Value → Hp → Prop) : Prop :=
  nw #[(.int .i64 0), (.int .i64 0), (.slice none 0 0)] 28 H fun v4x1 H2 =>
  ob (vInt .mul a0 a1) fun v9x3 =>
  mkS 1 8 #[(.int .i64 0)] 2 v9x3 v9x3 H2 fun v10x4 H5 =>
  ob (vBuild [(0, 1), (1, 1), (2, 1)] (.agg #[(.int .i64 0), (.int .i64 0), (.slice none 0 0)]) [(0, a0), (1, a1), (2, v10x4)]) fun v11x6 =>
  st 3 v4x1 v11x6 H5 fun H7 =>
  ob (vLoadN 3 v4x1 H7) fun u8 => K u8 H7
def O.spec_l04New : Nat → Nat × List Nat := fun i => (0, [])
theorem R.spec_l04New {a0 a1 : Value} {H : Hp} {K : Value → Hp → Prop} (h : F.spec_l04New a0 a1 H K) : HT prg I.spec_l04New [a0, a1].toArray H K :=
  HT_of_fev O.spec_l04New mixed Try.func43 (by kernel_rfl) (Eq.mpr (by kernel_rfl : fev prg O.spec_l04New Try.f43 [a0, a1] H K = F.spec_l04New a0 a1 H K) h)

/-! loop.example/g01381/spec.l05Cut: function 34 -/
def F.spec_l05Cut (a0 a1 a2 a3 a4 : Value) (H : Hp) (K : Value → Hp → Prop) : Prop :=
  nw #[(.int .i64 0), (.int .i64 0), (.slice none 0 0)] 28 H fun v10x1 H2 =>
  HT prg I.spec_l04New [a3, a4].toArray H2 fun v16x3 H4 =>
  nw #[(.int .i64 0), (.int .i64 0), (.slice none 0 0)] 28 H4 fun v11x5 H6 =>
  st 3 v11x5 v16x3 H6 fun H7 =>
  jn (fun σ8 H8 =>
    ob (vLoadN 3 (σ8 11) H8) fun v53x9 =>
    st 3 (σ8 10) v53x9 H8 fun H10 =>
    ob (vLoadN 3 (σ8 10) H10) fun u11 => K u11 H10) fun J8 =>
  lpE (fun Q12 σ12 H12 =>
    ob (vInt .lss (σ12 12) (σ12 3)) fun v19x13 =>
    cnd v19x13
      (jn (fun σ14 H14 =>
      ob (vInt .add (σ14 12) (.int .i64 1)) fun v21x15 =>
      Q12 .normal (up (up (up σ14 20 (σ14 12)) 21 v21x15) 12 v21x15) H14) fun J14 =>
    lpE (fun Q16 σ16 H16 =>
      ob (vInt .lss (σ16 13) (σ16 4)) fun v24x17 =>
      cnd v24x17
        (ob (vFa 2 (σ16 11)) fun v27x18 =>
      ob (vLoad v27x18 H16) fun v28x19 =>
      ob (vInt .mul (σ16 12) (σ16 4)) fun v31x20 =>
      ob (vInt .add v31x20 (σ16 13)) fun v33x21 =>
      ob (vNilC (σ16 0)) fun v35x22 =>
      ob (vFa 2 v35x22) fun v36x23 =>
      ob (vLoad v36x23 H16) fun v37x24 =>
      ob (vInt .add (σ16 1) (σ16 12)) fun v40x25 =>
      ob (vNilC (σ16 0)) fun v42x26 =>
      ob (vFa 1 v42x26) fun v43x27 =>
      ob (vLoad v43x27 H16) fun v44x28 =>
      ob (vInt .mul v40x25 v44x28) fun v45x29 =>
      ob (vInt .add v45x29 (σ16 2)) fun v47x30 =>
      ob (vInt .add v47x30 (σ16 13)) fun v49x31 =>
      ob (vIx 1 v37x24 v49x31) fun v50x32 =>
      ob (vLoad v50x32 H16) fun v51x33 =>
      ob (vIx 1 v28x19 v33x21) fun v52x34 =>
      st 1 v52x34 v51x33 H16 fun H35 =>
      ob (vInt .add (σ16 13) (.int .i64 1)) fun v26x36 =>
      Q16 .normal (up (up (up (up (up (up (up (up (up (up (up (up (up (up (up (up (up (up (up (up (up (up (up (up (up (up (up (up (up (up (up (up σ16 22 (σ16 13)) 23 (σ16 4)) 24 v24x17) 27 v27x18) 28 v28x19) 29 (σ16 12)) 30 (σ16 4)) 31 v31x20) 32 (σ16 13)) 33 v33x21) 34 (σ16 0)) 35 v35x22) 36 v36x23) 37 v37x24) 38 (σ16 1)) 39 (σ16 12)) 40 v40x25) 41 (σ16 0)) 42 v42x26) 43 v43x27) 44 v44x28) 45 v45x29) 46 (σ16 2)) 47 v47x30) 48 (σ16 13)) 49 v49x31) 50 v50x32) 51 v51x33) 52 v52x34) 25 (σ16 13)) 26 v26x36) 13 v26x36) H35)
        (Q16 (.exit 2) (up (up (up σ16 22 (σ16 13)) 23 (σ16 4)) 24 v24x17) H16)) (blkQ 2 (blkQ 1 (thenQ J14 Q12))) (up (up (up (up σ12 17 (σ12 12)) 18 (σ12 3)) 19 v19x13) 13 (.int .i64 0)) H12)
      (Q12 (.exit 0) (up (up (up σ12 17 (σ12 12)) 18 (σ12 3)) 19 v19x13) H12)) (blkQ 0 (thenQ J8 (retQ prg [(.cell 10 28)] K))) (up (up (up (up (up (up (S0 [a0, a1, a2, a3, a4]) 10 v10x1) 14 a3) 15 a4) 16 v16x3) 11 v11x5) 12 (.int .i64 0)) H7
def O.spec_l05Cut : Nat → Nat × List Nat := fun i => bif Nat.beq i 8 then (0, [0, 1, 2, 3, 4, 5, 6, 7, 8, 9, 10, 11, 12, 13, 14, 15, 16, 17, 18, 19, 20, 21, 22, 23, 24, 25, 26]) else (0, [])
theorem R.spec_l05Cut {a0 a1 a2 a3 a4 : Value} {H : Hp} {K : Value → Hp → Prop} (h : F.spec_l05Cut a0 a1 a2 a3 a4 H K) : HT prg I.spec_l05Cut [a0, a1, a2, a3, a4].toArray H K :=
  HT_of_fev O.spec_l05Cut mixed Try.func34 (by kernel_rfl) (Eq.mpr (by kernel_rfl : fev prg O.spec_l05Cut Try.f34 [a0, a1, a2, a3, a4] H K = F.spec_l05Cut a0 a1 a2 a3 a4 H K) h)

/-! loop.example/g01381/spec.l02Equal: function 64 -/
def F.spec_l02Equal (a0 a1 : Value) (H : Hp) (K : Value → Hp → Prop) : Prop :=
  ob (vLenSl a0) fun v7x1 =>
  ob (vLenSl a1) fun v9x2 =>
  ob (vInt .neq v7x1 v9x2) fun v10x3 =>
  cnd v10x3
    (K (.bool false) H)
    (jn (fun σ4 H4 =>
    K (.bool true) H4) fun J4 =>
  lpE (fun Q5 σ5 H5 =>
    ob (vLenSl (σ5 0)) fun v13x6 =>
    ob (vInt .lss (σ5 5) v13x6) fun v14x7 =>
    cnd v14x7
      (ob (vIx 1 (σ5 0) (σ5 5)) fun v19x8 =>
    ob (vLoad v19x8 H5) fun v20x9 =>
    ob (vIx 1 (σ5 1) (σ5 5)) fun v23x10 =>
    ob (vLoad v23x10 H5) fun v24x11 =>
    ob (vInt .neq v20x9 v24x11) fun v25x12 =>
    cnd v25x12
      (Q5 .ret (up (up (up (up (up (up (up (up (up (up (up (up (up (up σ5 11 (σ5 5)) 12 (σ5 0)) 13 v13x6) 14 v14x7) 17 (σ5 0)) 18 (σ5 5)) 19 v19x8) 20 v20x9) 21 (σ5 1)) 22 (σ5 5)) 23 v23x10) 24 v24x11) 25 v25x12) 4 (.bool false)) H5)
      (ob (vInt .add (σ5 5) (.int .i64 1)) fun v16x13 =>
    Q5 .normal (up (up (up (up (up (up (up (up (up (up (up (up (up (up (up (up σ5 11 (σ5 5)) 12 (σ5 0)) 13 v13x6) 14 v14x7) 17 (σ5 0)) 18 (σ5 5)) 19 v19x8) 20 v20x9) 21 (σ5 1)) 22 (σ5 5)) 23 v23x10) 24 v24x11) 25 v25x12) 15 (σ5 5)) 16 v16x13) 5 v16x13) H5))
      (Q5 (.exit 0) (up (up (up (up σ5 11 (σ5 5)) 12 (σ5 0)) 13 v13x6) 14 v14x7) H5)) (blkQ 0 (thenQ J4 (retQ prg [(.tmp 4)] K))) (up (up (up (up (up (up (up (S0 [a0, a1]) 4 (.bool false)) 6 a0) 7 v7x1) 8 a1) 9 v9x2) 10 v10x3) 5 (.int .i64 0)) H)
def O.spec_l02Equal : Nat → Nat × List Nat := fun i => bif Nat.beq i 6 then (0, [0, 1, 2, 3, 4, 5, 6, 7, 8]) else (0, [])
theorem R.spec_l02Equal {a0 a1 : Value} {H : Hp} {K : Value → Hp → Prop} (h : F.spec_l02Equal a0 a1 H K) : HT prg I.spec_l02Equal [a0, a1].toArray H K :=
  HT_of_fev O.spec_l02Equal mixed Try.func64 (by kernel_rfl) (Eq.mpr (by kernel_rfl : fev prg O.spec_l02Equal Try.f64 [a0, a1] H K = F.spec_l02Equal a0 a1 H K) h)

/-! loop.example/g01381/spec.l04Same: function 35 -/
def F.spec_l04Same (a0 a1 : Value) (H : Hp) (K : Value → Hp → Prop) : Prop :=
  ob (vNilC a0) fun v6x1 =>
  ob (vFa 0 v6x1) fun v7x2 =>
  ob (vLoad v7x2 H) fun v8x3 =>
  ob (vNilC a1) fun v10x4 =>
  ob (vFa 0 v10x4) fun v11x5 =>
  ob (vLoad v11x5 H) fun v12x6 =>
  ob (vInt .eql v8x3 v12x6) fun v13x7 =>
  gop v13x7 true (fun K8 => K8 a0 H) H fun v15x9 H10 =>
  gop v13x7 true (fun K11 => ob (vNilC v15x9) fun u => K11 u H10) H10 fun v16x12 H13 =>
  gop v13x7 true (fun K14 => ob (vFa 1 v16x12) fun u => K14 u H13) H13 fun v17x15 H16 =>
  gop v13x7 true (fun K17 => ob (vLoad v17x15 H16) fun u => K17 u H16) H16 fun v18x18 H19 =>
  gop v13x7 true (fun K20 => K20 a1 H19) H19 fun v19x21 H22 =>
  gop v13x7 true (fun K23 => ob (vNilC v19x21) fun u => K23 u H22) H22 fun v20x24 H25 =>
  gop v13x7 true (fun K26 => ob (vFa 1 v20x24) fun u => K26 u H25) H25 fun v21x27 H28 =>
  gop v13x7 true (fun K29 => ob (vLoad v21x27 H28) fun u => K29 u H28) H28 fun v22x30 H31 =>
  gop v13x7 true (fun K32 => ob (vInt .eql v18x18 v22x30) fun u => K32 u H31) H31 fun v23x33 H34 =>
  ob (vPick v13x7 v23x33 (.bool false)) fun v24x35 =>
  gop v24x35 true (fun K36 => K36 a0 H34) H34 fun v26x37 H38 =>
  gop v24x35 true (fun K39 => ob (vNilC v26x37) fun u => K39 u H38) H38 fun v27x40 H41 =>
  gop v24x35 true (fun K42 => ob (vFa 2 v27x40) fun u => K42 u H41) H41 fun v28x43 H44 =>
  gop v24x35 true (fun K45 => ob (vLoad v28x43 H44) fun u => K45 u H44) H44 fun v29x46 H47 =>
  gop v24x35 true (fun K48 => K48 a1 H47) H47 fun v30x49 H50 =>
  gop v24x35 true (fun K51 => ob (vNilC v30x49) fun u => K51 u H50) H50 fun v31x52 H53 =>
  gop v24x35 true (fun K54 => ob (vFa 2 v31x52) fun u => K54 u H53) H53 fun v32x55 H56 =>
  gop v24x35 true (fun K57 => ob (vLoad v32x55 H56) fun u => K57 u H56) H56 fun v33x58 H59 =>
  gop v24x35 true (fun K60 => HT prg I.spec_l02Equal [v29x46, v33x58].toArray H59 fun v34x61 H62 =>
  Le H59 H62 ∧ K60 v34x61 H62) H59 fun v34x63 H64 =>
  ob (vPick v24x35 v34x63 (.bool false)) fun v35x65 =>
  K v35x65 H64
def O.spec_l04Same : Nat → Nat × List Nat := fun i => bif Nat.beq i 1 then (0, [0, 1, 2, 3, 4, 5, 6, 7, 8, 9, 10, 11, 12, 13, 14, 15, 16, 17, 18, 19, 20, 21, 22, 23, 24, 25, 26, 27, 28, 29, 30, 31]) else (0, [])
theorem R.spec_l04Same {a0 a1 : Value} {H : Hp} {K : Value → Hp → Prop} (h : F.spec_l04Same a0 a1 H K) : HT prg I.spec_l04Same [a0, a1].toArray H K :=
  HT_of_fev O.spec_l04Same mixed Try.func35 (by kernel_rfl) (Eq.mpr (by kernel_rfl : fev prg O.spec_l04Same Try.f35 [a0, a1] H K = F.spec_l04Same a0 a1 H K) h)

/-! loop.example/g01381/spec.QuarterKinds: function 8 -/
def F.spec_QuarterKinds (a0 : Value) (H : Hp) (K : Value → Hp → Prop) : Prop :=
  nw (a0 : Value).cells 28 H fun v1x1 H2 =>
  HT prg I.spec_l05Square [v1x1].toArray H2 fun v12x3 H4 =>
  ob (vUn .not v12x3) fun v13x5 =>
  cnd v13x5
    (K (.tuple #[(.slice none 0 0), (.bool false)]) H4)
    (bS 1 0 #[(.int .i64 0)] 2 [] H4 fun v14x6 H7 =>
  jn (fun σ8 H8 =>
    K (.tuple #[(σ8 4), (.bool true)]) H8) fun J8 =>
  lpE (fun Q9 σ9 H9 =>
    ob (vFa 0 (σ9 1)) fun v16x10 =>
    ob (vLoad v16x10 H9) fun v17x11 =>
    ob (vInt .leq (σ9 5) v17x11) fun v18x12 =>
    cnd v18x12
      (jn (fun σ13 H13 =>
      ob (vInt .mul (σ13 5) (.int .i64 2)) fun v20x14 =>
      Q9 .normal (up (up (up σ13 19 (σ13 5)) 20 v20x14) 5 v20x14) H13) fun J13 =>
    bS 3 0 #[(.int .i64 0), (.int .i64 0), (.slice none 0 0)] 28 [] H9 fun v21x15 H16 =>
    jn (fun σ17 H17 =>
      ob (vLenSl (σ17 6)) fun v62x18 =>
      bS 1 1 #[(.int .i64 0)] 2 [(0, v62x18)] H17 fun v63x19 H20 =>
      apd 1 8 #[(.int .i64 0)] 2 (σ17 4) v63x19 H20 fun v64x21 H22 =>
      J13 (up (up (up (up (up (up σ17 60 (σ17 4)) 61 (σ17 6)) 62 v62x18) 63 v63x19) 64 v64x21) 4 v64x21) H22) fun J17 =>
    lpE (fun Q23 σ23 H23 =>
      ob (vFa 0 (σ23 1)) fun v23x24 =>
      ob (vLoad v23x24 H23) fun v24x25 =>
      ob (vInt .lss (σ23 7) v24x25) fun v25x26 =>
      cnd v25x26
        (jn (fun σ27 H27 =>
        ob (vInt .add (σ27 7) (σ27 5)) fun v28x28 =>
        Q23 .normal (up (up (up (up σ27 26 (σ27 7)) 27 (σ27 5)) 28 v28x28) 7 v28x28) H27) fun J27 =>
      lpE (fun Q29 σ29 H29 =>
        ob (vFa 0 (σ29 1)) fun v30x30 =>
        ob (vLoad v30x30 H29) fun v31x31 =>
        ob (vInt .lss (σ29 8) v31x31) fun v32x32 =>
        cnd v32x32
          (jn (fun σ33 H33 =>
          ob (vInt .add (σ33 8) (σ33 5)) fun v35x34 =>
          Q29 .normal (up (up (up (up σ33 33 (σ33 8)) 34 (σ33 5)) 35 v35x34) 8 v35x34) H33) fun J33 =>
        HT prg I.spec_l05Cut [(σ29 1), (σ29 7), (σ29 8), (σ29 5), (σ29 5)].toArray H29 fun v40x35 H36 =>
        nw #[(.int .i64 0), (.int .i64 0), (.slice none 0 0)] 28 H36 fun v9x37 H38 =>
        st 3 v9x37 v40x35 H38 fun H39 =>
        jn (fun σ40 H40 =>
          ob (vUn .not (σ40 10)) fun v55x41 =>
          cnd v55x41
            (ob (vLoadN 3 (σ40 9) H40) fun v57x42 =>
            bS 3 1 #[(.int .i64 0), (.int .i64 0), (.slice none 0 0)] 28 [(0, v57x42)] H40 fun v58x43 H44 =>
            apd 3 40 #[(.int .i64 0), (.int .i64 0), (.slice none 0 0)] 28 (σ40 6) v58x43 H44 fun v59x45 H46 =>
            J33 (up (up (up (up (up (up (up σ40 54 (σ40 10)) 55 v55x41) 56 (σ40 6)) 57 v57x42) 58 v58x43) 59 v59x45) 6 v59x45) H46)
            (J33 (up (up σ40 54 (σ40 10)) 55 v55x41) H40)) fun J40 =>
        ob (vLenSl (σ29 6)) fun v42x47 =>
        lpE (fun Q48 σ48 H48 =>
          ob (vInt .lss (σ48 43) (σ48 42)) fun v44x49 =>
          cnd v44x49
            (gop (σ48 10) false (fun K50 => K50 (σ48 6) H48) H48 fun v48x51 H52 =>
          gop (σ48 10) false (fun K53 => K53 (σ48 43) H52) H52 fun v49x54 H55 =>
          gop (σ48 10) false (fun K56 => ob (vIx 3 v48x51 v49x54) fun u => K56 u H55) H55 fun v50x57 H58 =>
          gop (σ48 10) false (fun K59 => HT prg I.spec_l04Same [v50x57, (σ48 9)].toArray H58 K59) H58 fun v51x60 H61 =>
          ob (vPick (σ48 10) (.bool true) v51x60) fun v52x62 =>
          ob (vInt .add (σ48 43) (.int .i64 1)) fun v53x63 =>
          Q48 .normal (up (up (up (up (up (up (up (up (up (up (up (up (up σ48 44 v44x49) 45 (σ48 43)) 11 (σ48 43)) 46 (σ48 10)) 47 (σ48 10)) 48 v48x51) 49 v49x54) 50 v50x57) 51 v51x60) 52 v52x62) 10 v52x62) 53 v53x63) 43 v53x63) H61)
            (Q48 (.exit 6) (up σ48 44 v44x49) H48)) (blkQ 6 (thenQ J40 (blkQ 5 (thenQ J33 Q29)))) (up (up (up (up (up (up (up (up (up (up (up (up (up (up σ29 29 (σ29 8)) 30 v30x30) 31 v31x31) 32 v32x32) 36 (σ29 7)) 37 (σ29 8)) 38 (σ29 5)) 39 (σ29 5)) 40 v40x35) 9 v9x37) 10 (.bool false)) 41 (σ29 6)) 42 v42x47) 43 (.int .i64 0)) H39)
          (Q29 (.exit 4) (up (up (up (up σ29 29 (σ29 8)) 30 v30x30) 31 v31x31) 32 v32x32) H29)) (blkQ 4 (blkQ 3 (thenQ J27 Q23))) (up (up (up (up (up σ23 22 (σ23 7)) 23 v23x24) 24 v24x25) 25 v25x26) 8 (.int .i64 0)) H23)
        (Q23 (.exit 2) (up (up (up (up σ23 22 (σ23 7)) 23 v23x24) 24 v24x25) 25 v25x26) H23)) (blkQ 2 (thenQ J17 (blkQ 1 (thenQ J13 Q9)))) (up (up (up (up (up (up (up σ9 15 (σ9 5)) 16 v16x10) 17 v17x11) 18 v18x12) 21 v21x15) 6 v21x15) 7 (.int .i64 0)) H16)
      (Q9 (.exit 0) (up (up (up (up σ9 15 (σ9 5)) 16 v16x10) 17 v17x11) 18 v18x12) H9)) (blkQ 0 (thenQ J8 (retQ prg [(.tmp 2), (.tmp 3)] K))) (up (up (up (up (up (up (up (up (S0 [a0]) 1 v1x1) 2 (.slice none 0 0)) 3 (.bool false)) 12 v12x3) 13 v13x5) 14 v14x6) 4 v14x6) 5 (.int .i64 1)) H7)
def O.spec_QuarterKinds : Nat → Nat × List Nat := fun i => (0, [])
theorem R.spec_QuarterKinds {a0 : Value} {H : Hp} {K : Value → Hp → Prop} (h : F.spec_QuarterKinds a0 H K) : HT prg I.spec_QuarterKinds [a0].toArray H K :=
  HT_of_fev O.spec_QuarterKinds mixed Try.func8 (by kernel_rfl) (Eq.mpr (by kernel_rfl : fev prg O.spec_QuarterKinds Try.f8 [a0] H K = F.spec_QuarterKinds a0 H K) h)

/-! loop.example/g01381/laws.toInt64S: function 19 -/
def F.laws_toInt64S (a0 : Value) (H : Hp) (K : Value → Hp → Prop) : Prop :=
  ob (vLenSl a0) fun v6x1 =>
  mkS 1 8 #[(.int .i64 0)] 2 v6x1 v6x1 H fun v7x2 H3 =>
  jn (fun σ4 H4 =>
    K (σ4 3) H4) fun J4 =>
  lpE (fun Q5 σ5 H5 =>
    ob (vLenSl (σ5 0)) fun v10x6 =>
    ob (vInt .lss (σ5 4) v10x6) fun v11x7 =>
    cnd v11x7
      (ob (vIx 1 (σ5 0) (σ5 4)) fun v18x8 =>
    ob (vLoad v18x8 H5) fun v19x9 =>
    ob (vIx 1 (σ5 3) (σ5 4)) fun v20x10 =>
    st 1 v20x10 v19x9 H5 fun H11 =>
    ob (vInt .add (σ5 4) (.int .i64 1)) fun v13x12 =>
    Q5 .normal (up (up (up (up (up (up (up (up (up (up (up (up (up (up σ5 8 (σ5 4)) 9 (σ5 0)) 10 v10x6) 11 v11x7) 14 (σ5 3)) 15 (σ5 4)) 16 (σ5 0)) 17 (σ5 4)) 18 v18x8) 19 v19x9) 20 v20x10) 12 (σ5 4)) 13 v13x12) 4 v13x12) H11)
      (Q5 (.exit 0) (up (up (up (up σ5 8 (σ5 4)) 9 (σ5 0)) 10 v10x6) 11 v11x7) H5)) (blkQ 0 (thenQ J4 (retQ prg [(.tmp 2)] K))) (up (up (up (up (up (up (S0 [a0]) 2 (.slice none 0 0)) 5 a0) 6 v6x1) 7 v7x2) 3 v7x2) 4 (.int .i64 0)) H3
def O.laws_toInt64S : Nat → Nat × List Nat := fun i => (0, [])
theorem R.laws_toInt64S {a0 : Value} {H : Hp} {K : Value → Hp → Prop} (h : F.laws_toInt64S a0 H K) : HT prg I.laws_toInt64S [a0].toArray H K :=
  HT_of_fev O.laws_toInt64S mixed Try.func19 (by kernel_rfl) (Eq.mpr (by kernel_rfl : fev prg O.laws_toInt64S Try.f19 [a0] H K = F.laws_toInt64S a0 H K) h)

/-! loop.example/g01381/laws.toField: function 9 -/
def F.laws_toField (a0 : Value) (H : Hp) (K : Value → Hp → Prop) : Prop :=
  nw (a0 : Value).cells 24 H fun v1x1 H2 =>
  nw #[(.int .i64 0), (.int .i64 0), (.slice none 0 0)] 28 H2 fun v2x3 H4 =>
  nw #[(.int .i64 0), (.int .i64 0), (.slice none 0 0)] 28 H4 fun v3x5 H6 =>
  ob (vFa 0 v1x1) fun v4x7 =>
  ob (vLoad v4x7 H6) fun v5x8 =>
  ob (vFa 0 v3x5) fun v6x9 =>
  st 1 v6x9 v5x8 H6 fun H10 =>
  ob (vFa 1 v1x1) fun v7x11 =>
  ob (vLoad v7x11 H10) fun v8x12 =>
  ob (vFa 1 v3x5) fun v9x13 =>
  st 1 v9x13 v8x12 H10 fun H14 =>
  ob (vFa 2 v1x1) fun v10x15 =>
  ob (vLoad v10x15 H14) fun v11x16 =>
  HT prg I.laws_toInt64S [v11x16].toArray H14 fun v12x17 H18 =>
  ob (vFa 2 v3x5) fun v13x19 =>
  st 1 v13x19 v12x17 H18 fun H20 =>
  ob (vLoadN 3 v3x5 H20) fun v14x21 =>
  st 3 v2x3 v14x21 H20 fun H22 =>
  ob (vLoadN 3 v2x3 H22) fun u23 => K u23 H22
def O.laws_toField : Nat → Nat × List Nat := fun i => (0, [])
theorem R.laws_toField {a0 : Value} {H : Hp} {K : Value → Hp → Prop} (h : F.laws_toField a0 H K) : HT prg I.laws_toField [a0].toArray H K :=
  HT_of_fev O.laws_toField mixed Try.func9 (by kernel_rfl) (Eq.mpr (by kernel_rfl : fev prg O.laws_toField Try.f9 [a0] H K = F.laws_toField a0 H K) h)

/-! loop.example/g01381/impl.within: function 47 -/
def F.impl_within (a0 a1 a2 : Value) (H : Hp) (K : Value → Hp → Prop) : Prop :=
  ob (vInt .geq a0 a1) fun v9x1 =>
  gop v9x1 true (fun K2 => K2 a0 H) H fun v11x3 H4 =>
  gop v9x1 true (fun K5 => K5 a2 H4) H4 fun v12x6 H7 =>
  gop v9x1 true (fun K8 => ob (vInt .leq v11x3 v12x6) fun u => K8 u H7) H7 fun v13x9 H10 =>
  ob (vPick v9x1 v13x9 (.bool false)) fun v14x11 =>
  K v14x11 H10
def O.impl_within : Nat → Nat × List Nat := fun i => (0, [])
theorem R.impl_within {a0 a1 a2 : Value} {H : Hp} {K : Value → Hp → Prop} (h : F.impl_within a0 a1 a2 H K) : HT prg I.impl_within [a0, a1, a2].toArray H K :=
  HT_of_fev O.impl_within mixed Try.func47 (by kernel_rfl) (Eq.mpr (by kernel_rfl : fev prg O.impl_within Try.f47 [a0, a1, a2] H K = F.impl_within a0 a1 a2 H K) h)

/-! loop.example/g01381/impl.isSide: function 87 -/
def F.impl_isSide (a0 : Value) (H : Hp) (K : Value → Hp → Prop) : Prop :=
  HT prg I.impl_within [a0, (.int .i64 1), (.int .i64 24)].toArray H fun v4x1 H2 =>
  K v4x1 H2
def O.impl_isSide : Nat → Nat × List Nat := fun i => (0, [])
theorem R.impl_isSide {a0 : Value} {H : Hp} {K : Value → Hp → Prop} (h : F.impl_isSide a0 H K) : HT prg I.impl_isSide [a0].toArray H K :=
  HT_of_fev O.impl_isSide mixed Try.func87 (by kernel_rfl) (Eq.mpr (by kernel_rfl : fev prg O.impl_isSide Try.f87 [a0] H K = F.impl_isSide a0 H K) h)

/-! loop.example/g01381/impl.areWithin: function 80 -/
def F.impl_areWithin (a0 a1 a2 : Value) (H : Hp) (K : Value → Hp → Prop) : Prop :=
  jn (fun σ1 H1 =>
    K (.bool true) H1) fun J1 =>
  ob (vLenSl a0) fun v10x2 =>
  lpE (fun Q3 σ3 H3 =>
    ob (vInt .lss (σ3 11) (σ3 10)) fun v12x4 =>
    cnd v12x4
      (ob (vIx 1 (σ3 9) (σ3 11)) fun v13x5 =>
    ob (vLoad v13x5 H3) fun v14x6 =>
    HT prg I.impl_within [v14x6, (σ3 1), (σ3 2)].toArray H3 fun v18x7 H8 =>
    ob (vUn .not v18x7) fun v19x9 =>
    cnd v19x9
      (Q3 .ret (up (up (up (up (up (up (up (up (up (up σ3 12 v12x4) 13 v13x5) 14 v14x6) 8 v14x6) 15 v14x6) 16 (σ3 1)) 17 (σ3 2)) 18 v18x7) 19 v19x9) 6 (.bool false)) H8)
      (ob (vInt .add (σ3 11) (.int .i64 1)) fun v20x10 =>
    Q3 .normal (up (up (up (up (up (up (up (up (up (up (up σ3 12 v12x4) 13 v13x5) 14 v14x6) 8 v14x6) 15 v14x6) 16 (σ3 1)) 17 (σ3 2)) 18 v18x7) 19 v19x9) 20 v20x10) 11 v20x10) H8))
      (Q3 (.exit 0) (up σ3 12 v12x4) H3)) (blkQ 0 (thenQ J1 (retQ prg [(.tmp 6)] K))) (up (up (up (up (S0 [a0, a1, a2]) 6 (.bool false)) 9 a0) 10 v10x2) 11 (.int .i64 0)) H
def O.impl_areWithin : Nat → Nat × List Nat := fun i => (0, [])
theorem R.impl_areWithin {a0 a1 a2 : Value} {H : Hp} {K : Value → Hp → Prop} (h : F.impl_areWithin a0 a1 a2 H K) : HT prg I.impl_areWithin [a0, a1, a2].toArray H K :=
  HT_of_fev O.impl_areWithin mixed Try.func80 (by kernel_rfl) (Eq.mpr (by kernel_rfl : fev prg O.impl_areWithin Try.f80 [a0, a1, a2] H K = F.impl_areWithin a0 a1 a2 H K) h)

/-! loop.example/g01381/impl.areMany: function 88 -/
def F.impl_areMany (a0 a1 a2 a3 a4 : Value) (H : Hp) (K : Value → Hp → Prop) : Prop :=
  ob (vLenSl a0) fun v12x1 =>
  HT prg I.impl_within [v12x1, a1, a2].toArray H fun v15x2 H3 =>
  gop v15x2 true (fun K4 => K4 a0 H3) H3 fun v17x5 H6 =>
  gop v15x2 true (fun K7 => K7 a3 H6) H6 fun v18x8 H9 =>
  gop v15x2 true (fun K10 => K10 a4 H9) H9 fun v19x11 H12 =>
  gop v15x2 true (fun K13 => HT prg I.impl_areWithin [v17x5, v18x8, v19x11].toArray H12 K13) H12 fun v20x14 H15 =>
  ob (vPick v15x2 v20x14 (.bool false)) fun v21x16 =>
  K v21x16 H15
def O.impl_areMany : Nat → Nat × List Nat := fun i => (0, [])
theorem R.impl_areMany {a0 a1 a2 a3 a4 : Value} {H : Hp} {K : Value → Hp → Prop} (h : F.impl_areMany a0 a1 a2 a3 a4 H K) : HT prg I.impl_areMany [a0, a1, a2, a3, a4].toArray H K :=
  HT_of_fev O.impl_areMany mixed Try.func88 (by kernel_rfl) (Eq.mpr (by kernel_rfl : fev prg O.impl_areMany Try.f88 [a0, a1, a2, a3, a4] H K = F.impl_areMany a0 a1 a2 a3 a4 H K) h)

/-! loop.example/g01381/impl.ValidField: function 79 -/
def F.impl_ValidField (a0 : Value) (H : Hp) (K : Value → Hp → Prop) : Prop :=
  nw (a0 : Value).cells 28 H fun v1x1 H2 =>
  ob (vFa 0 v1x1) fun v4x3 =>
  ob (vLoad v4x3 H2) fun v5x4 =>
  ob (vFa 1 v1x1) fun v6x5 =>
  ob (vLoad v6x5 H2) fun v7x6 =>
  ob (vInt .mul v5x4 v7x6) fun v8x7 =>
  ob (vFa 0 v1x1) fun v9x8 =>
  ob (vLoad v9x8 H2) fun v10x9 =>
  HT prg I.impl_isSide [v10x9].toArray H2 fun v11x10 H11 =>
  gop v11x10 true (fun K12 => ob (vFa 1 v1x1) fun u => K12 u H11) H11 fun v13x13 H14 =>
  gop v11x10 true (fun K15 => ob (vLoad v13x13 H14) fun u => K15 u H14) H14 fun v14x16 H17 =>
  gop v11x10 true (fun K18 => HT prg I.impl_isSide [v14x16].toArray H17 K18) H17 fun v15x19 H20 =>
  ob (vPick v11x10 v15x19 (.bool false)) fun v16x21 =>
  gop v16x21 true (fun K22 => ob (vFa 2 v1x1) fun u => K22 u H20) H20 fun v18x23 H24 =>
  gop v16x21 true (fun K25 => ob (vLoad v18x23 H24) fun u => K25 u H24) H24 fun v19x26 H27 =>
  gop v16x21 true (fun K28 => K28 v8x7 H27) H27 fun v20x29 H30 =>
  gop v16x21 true (fun K31 => K31 v8x7 H30) H30 fun v21x32 H33 =>
  gop v16x21 true (fun K34 => HT prg I.impl_areMany [v19x26, v20x29, v21x32, (.int .i64 0), (.int .i64 9)].toArray H33 K34) H33 fun v22x35 H36 =>
  ob (vPick v16x21 v22x35 (.bool false)) fun v23x37 =>
  K v23x37 H36
def O.impl_ValidField : Nat → Nat × List Nat := fun i => (0, [])
theorem R.impl_ValidField {a0 : Value} {H : Hp} {K : Value → Hp → Prop} (h : F.impl_ValidField a0 H K) : HT prg I.impl_ValidField [a0].toArray H K :=
  HT_of_fev O.impl_ValidField mixed Try.func79 (by kernel_rfl) (Eq.mpr (by kernel_rfl : fev prg O.impl_ValidField Try.f79 [a0] H K = F.impl_ValidField a0 H K) h)

/-! loop.example/g01381/impl.isPlain: function 65 -/
def F.impl_isPlain (a0 : Value) (H : Hp) (K : Value → Hp → Prop) : Prop :=
  nw (a0 : Value).cells 28 H fun v1x1 H2 =>
  ob (vLoadN 3 v1x1 H2) fun v3x3 =>
  HT prg I.impl_ValidField [v3x3].toArray H2 fun v4x4 H5 =>
  gop v4x4 true (fun K6 => ob (vFa 2 v1x1) fun u => K6 u H5) H5 fun v6x7 H8 =>
  gop v4x4 true (fun K9 => ob (vLoad v6x7 H8) fun u => K9 u H8) H8 fun v7x10 H11 =>
  gop v4x4 true (fun K12 => HT prg I.impl_areWithin [v7x10, (.int .i64 0), (.int .i64 1)].toArray H11 K12) H11 fun v8x13 H14 =>
  ob (vPick v4x4 v8x13 (.bool false)) fun v9x15 =>
  K v9x15 H14
def O.impl_isPlain : Nat → Nat × List Nat := fun i => (0, [])
theorem R.impl_isPlain {a0 : Value} {H : Hp} {K : Value → Hp → Prop} (h : F.impl_isPlain a0 H K) : HT prg I.impl_isPlain [a0].toArray H K :=
  HT_of_fev O.impl_isPlain mixed Try.func65 (by kernel_rfl) (Eq.mpr (by kernel_rfl : fev prg O.impl_isPlain Try.f65 [a0] H K = F.impl_isPlain a0 H K) h)

/-! loop.example/g01381/impl.isSquare: function 36 -/
def F.impl_isSquare (a0 : Value) (H : Hp) (K : Value → Hp → Prop) : Prop :=
  nw (a0 : Value).cells 28 H fun v1x1 H2 =>
  ob (vLoadN 3 v1x1 H2) fun v3x3 =>
  HT prg I.impl_isPlain [v3x3].toArray H2 fun v4x4 H5 =>
  gop v4x4 true (fun K6 => ob (vFa 0 v1x1) fun u => K6 u H5) H5 fun v6x7 H8 =>
  gop v4x4 true (fun K9 => ob (vLoad v6x7 H8) fun u => K9 u H8) H8 fun v7x10 H11 =>
  gop v4x4 true (fun K12 => ob (vFa 1 v1x1) fun u => K12 u H11) H11 fun v8x13 H14 =>
  gop v4x4 true (fun K15 => ob (vLoad v8x13 H14) fun u => K15 u H14) H14 fun v9x16 H17 =>
  gop v4x4 true (fun K18 => ob (vInt .eql v7x10 v9x16) fun u => K18 u H17) H17 fun v10x19 H20 =>
  ob (vPick v4x4 v10x19 (.bool false)) fun v11x21 =>
  gop v11x21 true (fun K22 => ob (vFa 0 v1x1) fun u => K22 u H20) H20 fun v13x23 H24 =>
  gop v11x21 true (fun K25 => ob (vLoad v13x23 H24) fun u => K25 u H24) H24 fun v14x26 H27 =>
  gop v11x21 true (fun K28 => ob (vInt .eql v14x26 (.int .i64 4)) fun u => K28 u H27) H27 fun v15x29 H30 =>
  gop v11x21 true (fun K31 => K31 v15x29 H30) H30 fun v16x32 H33 =>
  gop v16x32 false (fun K34 => ob (vFa 0 v1x1) fun u => K34 u H33) H33 fun v17x35 H36 =>
  gop v16x32 false (fun K37 => ob (vLoad v17x35 H36) fun u => K37 u H36) H36 fun v18x38 H39 =>
  gop v16x32 false (fun K40 => ob (vInt .eql v18x38 (.int .i64 8)) fun u => K40 u H39) H39 fun v19x41 H42 =>
  gop v11x21 true (fun K43 => ob (vPick v16x32 (.bool true) v19x41) fun u => K43 u H42) H42 fun v20x44 H45 =>
  gop v11x21 true (fun K46 => K46 v20x44 H45) H45 fun v21x47 H48 =>
  gop v21x47 false (fun K49 => ob (vFa 0 v1x1) fun u => K49 u H48) H48 fun v22x50 H51 =>
  gop v21x47 false (fun K52 => ob (vLoad v22x50 H51) fun u => K52 u H51) H51 fun v23x53 H54 =>
  gop v21x47 false (fun K55 => ob (vInt .eql v23x53 (.int .i64 16)) fun u => K55 u H54) H54 fun v24x56 H57 =>
  gop v11x21 true (fun K58 => ob (vPick v21x47 (.bool true) v24x56) fun u => K58 u H57) H57 fun v25x59 H60 =>
  ob (vPick v11x21 v25x59 (.bool false)) fun v26x61 =>
  K v26x61 H60
def O.impl_isSquare : Nat → Nat × List Nat := fun i => (0, [])
theorem R.impl_isSquare {a0 : Value} {H : Hp} {K : Value → Hp → Prop} (h : F.impl_isSquare a0 H K) : HT prg I.impl_isSquare [a0].toArray H K :=
  HT_of_fev O.impl_isSquare mixed Try.func36 (by kernel_rfl) (Eq.mpr (by kernel_rfl : fev prg O.impl_isSquare Try.f36 [a0] H K = F.impl_isSquare a0 H K) h)

/-! loop.example/g01381/impl.keyOf: function 37 -/
def F.impl_keyOf (a0 : Value) (H : Hp) (K : Value → Hp → Prop) : Prop :=
  ob (vLenSl a0) fun v7x1 =>
  mkS 1 1 #[(.int .u8 0)] 5 v7x1 v7x1 H fun v8x2 H3 =>
  jn (fun σ4 H4 =>
    ob (val prg (convert 39 9 (σ4 3)) H4) fun v23x5 =>
    K v23x5 H4) fun J4 =>
  ob (vLenSl a0) fun v10x6 =>
  lpE (fun Q7 σ7 H7 =>
    ob (vInt .lss (σ7 11) (σ7 10)) fun v12x8 =>
    cnd v12x8
      (ob (vIx 1 (σ7 9) (σ7 11)) fun v14x9 =>
    ob (vLoad v14x9 H7) fun v15x10 =>
    ob (vCI .u8 v15x10) fun v19x11 =>
    ob (vIx 1 (σ7 3) (σ7 11)) fun v20x12 =>
    st 1 v20x12 v19x11 H7 fun H13 =>
    ob (vInt .add (σ7 11) (.int .i64 1)) fun v21x14 =>
    Q7 .normal (up (up (up (up (up (up (up (up (up (up (up (up (up σ7 12 v12x8) 13 (σ7 11)) 14 v14x9) 15 v15x10) 4 (σ7 11)) 5 v15x10) 16 (σ7 3)) 17 (σ7 11)) 18 v15x10) 19 v19x11) 20 v20x12) 21 v21x14) 11 v21x14) H13)
      (Q7 (.exit 0) (up σ7 12 v12x8) H7)) (blkQ 0 (thenQ J4 (retQ prg [(.tmp 2)] K))) (up (up (up (up (up (up (up (up (S0 [a0]) 2 (.string ⟨#[]⟩)) 6 a0) 7 v7x1) 8 v8x2) 3 v8x2) 9 a0) 10 v10x6) 11 (.int .i64 0)) H3
def O.impl_keyOf : Nat → Nat × List Nat := fun i => (0, [])
theorem R.impl_keyOf {a0 : Value} {H : Hp} {K : Value → Hp → Prop} (h : F.impl_keyOf a0 H K) : HT prg I.impl_keyOf [a0].toArray H K :=
  HT_of_fev O.impl_keyOf mixed Try.func37 (by kernel_rfl) (Eq.mpr (by kernel_rfl : fev prg O.impl_keyOf Try.f37 [a0] H K = F.impl_keyOf a0 H K) h)

/-! loop.example/g01381/impl.madeField: function 48 -/
def F.impl_madeField (a0 a1 a2 : Value) (H : Hp) (K : Value → Hp → Prop) : Prop :=
  nw #[(.int .i64 0), (.int .i64 0), (.slice none 0 0)] 28 H fun v6x1 H2 =>
  ob (vBuild [(0, 1), (1, 1), (2, 1)] (.agg #[(.int .i64 0), (.int .i64 0), (.slice none 0 0)]) [(0, a0), (1, a1)]) fun v12x3 =>
  nw #[(.int .i64 0), (.int .i64 0), (.slice none 0 0)] 28 H2 fun v7x4 H5 =>
  st 3 v7x4 v12x3 H5 fun H6 =>
  jn (fun σ7 H7 =>
    ob (vLoadN 3 (σ7 7) H7) fun v32x8 =>
    st 3 (σ7 6) v32x8 H7 fun H9 =>
    ob (vLoadN 3 (σ7 6) H9) fun u10 => K u10 H9) fun J7 =>
  lpE (fun Q11 σ11 H11 =>
    ob (vInt .lss (σ11 14) (σ11 13)) fun v15x12 =>
    cnd v15x12
      (jn (fun σ13 H13 =>
      ob (vInt .add (σ13 14) (.int .i64 1)) fun v31x14 =>
      Q11 .normal (up (up σ13 31 v31x14) 14 v31x14) H13) fun J13 =>
    lpE (fun Q15 σ15 H15 =>
      ob (vInt .lss (σ15 18) (σ15 17)) fun v19x16 =>
      cnd v19x16
        (ob (vFa 2 (σ15 7)) fun v21x17 =>
      ob (vLoad v21x17 H15) fun v22x18 =>
      callV prg (σ15 2) [(σ15 8), (σ15 18)] H15 fun v26x19 H20 =>
      Le H15 H20 ∧ (bS 1 1 #[(.int .i64 0)] 2 [(0, v26x19)] H20 fun v27x21 H22 =>
      apd 1 8 #[(.int .i64 0)] 2 v22x18 v27x21 H22 fun v28x23 H24 =>
      ob (vFa 2 (σ15 7)) fun v29x25 =>
      st 1 v29x25 v28x23 H24 fun H26 =>
      ob (vInt .add (σ15 18) (.int .i64 1)) fun v30x27 =>
      Q15 .normal (up (up (up (up (up (up (up (up (up (up (up (up (up (up σ15 19 v19x16) 20 (σ15 18)) 9 (σ15 18)) 21 v21x17) 22 v22x18) 23 (σ15 2)) 24 (σ15 8)) 25 (σ15 18)) 26 v26x19) 27 v27x21) 28 v28x23) 29 v29x25) 30 v30x27) 18 v30x27) H26))
        (Q15 (.exit 2) (up σ15 19 v19x16) H15)) (blkQ 2 (blkQ 1 (thenQ J13 Q11))) (up (up (up (up (up σ11 15 v15x12) 16 (σ11 14)) 8 (σ11 14)) 17 (σ11 1)) 18 (.int .i64 0)) H11)
      (Q11 (.exit 0) (up σ11 15 v15x12) H11)) (blkQ 0 (thenQ J7 (retQ prg [(.cell 6 28)] K))) (up (up (up (up (up (up (up (S0 [a0, a1, a2]) 6 v6x1) 10 a0) 11 a1) 12 v12x3) 7 v7x4) 13 a0) 14 (.int .i64 0)) H6
def O.impl_madeField : Nat → Nat × List Nat := fun i => bif Nat.beq i 8 then (0, [0, 1, 2, 3, 4, 5, 6, 7, 8, 9]) else (0, [])
theorem R.impl_madeField {a0 a1 a2 : Value} {H : Hp} {K : Value → Hp → Prop} (h : F.impl_madeField a0 a1 a2 H K) : HT prg I.impl_madeField [a0, a1, a2].toArray H K :=
  HT_of_fev O.impl_madeField mixed Try.func48 (by kernel_rfl) (Eq.mpr (by kernel_rfl : fev prg O.impl_madeField Try.f48 [a0, a1, a2] H K = F.impl_madeField a0 a1 a2 H K) h)

/-! loop.example/g01381/impl.madeField: function 48 -/
def F.impl_madeFieldX (a0 a1 a2 : Value) (H : Hp) (K : Value → Hp → Prop) : Prop :=
  nw #[(.int .i64 0), (.int .i64 0), (.slice none 0 0)] 28 H fun v6x1 H2 =>
  ob (vBuild [(0, 1), (1, 1), (2, 1)] (.agg #[(.int .i64 0), (.int .i64 0), (.slice none 0 0)]) [(0, a0), (1, a1)]) fun v12x3 =>
  nw #[(.int .i64 0), (.int .i64 0), (.slice none 0 0)] 28 H2 fun v7x4 H5 =>
  st 3 v7x4 v12x3 H5 fun H6 =>
  jn (fun σ7 H7 =>
    ob (vLoadN 3 (σ7 7) H7) fun v32x8 =>
    st 3 (σ7 6) v32x8 H7 fun H9 =>
    ob (vLoadN 3 (σ7 6) H9) fun u10 => K u10 H9) fun J7 =>
  lpE (fun Q11 σ11 H11 =>
    ob (vInt .lss (σ11 14) (σ11 13)) fun v15x12 =>
    cnd v15x12
      (jn (fun σ13 H13 =>
      ob (vInt .add (σ13 14) (.int .i64 1)) fun v31x14 =>
      Q11 .normal (up (up σ13 31 v31x14) 14 v31x14) H13) fun J13 =>
    lpE (fun Q15 σ15 H15 =>
      ob (vInt .lss (σ15 18) (σ15 17)) fun v19x16 =>
      cnd v19x16
        ((ob (vFa 2 (σ15 7)) fun v21x17 =>
      ob (vLoad v21x17 H15) fun v22x18 =>
      callV prg (σ15 2) [(σ15 8), (σ15 18)] H15 fun v26x19 H20 =>
      bS 1 1 #[(.int .i64 0)] 2 [(0, v26x19)] H20 fun v27x21 H22 =>
      apd 1 8 #[(.int .i64 0)] 2 v22x18 v27x21 H22 fun v28x23 H24 =>
      ob (vFa 2 (σ15 7)) fun v29x25 =>
      st 1 v29x25 v28x23 H24 fun H26 =>
      ob (vInt .add (σ15 18) (.int .i64 1)) fun v30x27 =>
      Q15 .normal (up (up (up (up (up (up (up (up (up (up (up (up (up (up σ15 19 v19x16) 20 (σ15 18)) 9 (σ15 18)) 21 v21x17) 22 v22x18) 23 (σ15 2)) 24 (σ15 8)) 25 (σ15 18)) 26 v26x19) 27 v27x21) 28 v28x23) 29 v29x25) 30 v30x27) 18 v30x27) H26) ∧ (ob (vFa 2 (σ15 7)) fun v21x28 =>
      callV prg (σ15 2) [(σ15 8), (σ15 18)] H15 fun v26x29 H30 =>
      ob (vLoad v21x28 H30) fun v22x31 =>
      bS 1 1 #[(.int .i64 0)] 2 [(0, v26x29)] H30 fun v27x32 H33 =>
      apd 1 8 #[(.int .i64 0)] 2 v22x31 v27x32 H33 fun v28x34 H35 =>
      ob (vFa 2 (σ15 7)) fun v29x36 =>
      st 1 v29x36 v28x34 H35 fun H37 =>
      ob (vInt .add (σ15 18) (.int .i64 1)) fun v30x38 =>
      Q15 .normal (up (up (up (up (up (up (up (up (up (up (up (up (up (up σ15 19 v19x16) 20 (σ15 18)) 9 (σ15 18)) 21 v21x28) 23 (σ15 2)) 24 (σ15 8)) 25 (σ15 18)) 26 v26x29) 22 v22x31) 27 v27x32) 28 v28x34) 29 v29x36) 30 v30x38) 18 v30x38) H37))
        (Q15 (.exit 2) (up σ15 19 v19x16) H15)) (blkQ 2 (blkQ 1 (thenQ J13 Q11))) (up (up (up (up (up σ11 15 v15x12) 16 (σ11 14)) 8 (σ11 14)) 17 (σ11 1)) 18 (.int .i64 0)) H11)
      (Q11 (.exit 0) (up σ11 15 v15x12) H11)) (blkQ 0 (thenQ J7 (retQ prg [(.cell 6 28)] K))) (up (up (up (up (up (up (up (S0 [a0, a1, a2]) 6 v6x1) 10 a0) 11 a1) 12 v12x3) 7 v7x4) 13 a0) 14 (.int .i64 0)) H6
def O.impl_madeFieldX : Nat → Nat × List Nat := fun i => bif Nat.beq i 8 then (2, [1001, 1005, 0, 1, 2, 3, 4, 5, 6, 7, 8, 9, 0, 2, 3, 4, 5, 1, 6, 7, 8, 9]) else (0, [])
theorem R.impl_madeFieldX {a0 a1 a2 : Value} {H : Hp} {K : Value → Hp → Prop} (h : F.impl_madeFieldX a0 a1 a2 H K) : HT prg I.impl_madeField [a0, a1, a2].toArray H K :=
  HT_of_fev O.impl_madeFieldX mixed Try.func48 (by kernel_rfl) (Eq.mpr (by kernel_rfl : fev prg O.impl_madeFieldX Try.f48 [a0, a1, a2] H K = F.impl_madeFieldX a0 a1 a2 H K) h)

/-! (loop.example/g01381/impl.Field).at: function 50 -/
def F.impl_Field_at (a0 a1 a2 : Value) (H : Hp) (K : Value → Hp → Prop) : Prop :=
  nw (a0 : Value).cells 28 H fun v3x1 H2 =>
  ob (vFa 2 v3x1) fun v7x3 =>
  ob (vLoad v7x3 H2) fun v8x4 =>
  ob (vFa 1 v3x1) fun v10x5 =>
  ob (vLoad v10x5 H2) fun v11x6 =>
  ob (vInt .mul a1 v11x6) fun v12x7 =>
  ob (vInt .add v12x7 a2) fun v14x8 =>
  ob (vIx 1 v8x4 v14x8) fun v15x9 =>
  ob (vLoad v15x9 H2) fun v16x10 =>
  K v16x10 H2
def O.impl_Field_at : Nat → Nat × List Nat := fun i => (0, [])
theorem R.impl_Field_at {a0 a1 a2 : Value} {H : Hp} {K : Value → Hp → Prop} (h : F.impl_Field_at a0 a1 a2 H K) : HT prg I.impl_Field_at [a0, a1, a2].toArray H K :=
  HT_of_fev O.impl_Field_at mixed Try.func50 (by kernel_rfl) (Eq.mpr (by kernel_rfl : fev prg O.impl_Field_at Try.f50 [a0, a1, a2] H K = F.impl_Field_at a0 a1 a2 H K) h)

/-! (loop.example/g01381/impl.Field).cut$1: function 66 -/
def F.impl_Field_cut_1 (a0 a1 a2 a3 a4 : Value) (H : Hp) (K : Value → Hp → Prop) : Prop :=
  ob (vLoadN 3 a2 H) fun v8x1 =>
  ob (vLoad a3 H) fun v9x2 =>
  ob (vInt .add v9x2 a0) fun v11x3 =>
  ob (vLoad a4 H) fun v12x4 =>
  ob (vInt .add v12x4 a1) fun v14x5 =>
  HT prg I.impl_Field_at [v8x1, v11x3, v14x5].toArray H fun v15x6 H7 =>
  K v15x6 H7
def O.impl_Field_cut_1 : Nat → Nat × List Nat := fun i => (0, [])
theorem R.impl_Field_cut_1 {a0 a1 a2 a3 a4 : Value} {H : Hp} {K : Value → Hp → Prop} (h : F.impl_Field_cut_1 a0 a1 a2 a3 a4 H K) : HT prg I.impl_Field_cut_1 [a0, a1, a2, a3, a4].toArray H K :=
  HT_of_fev O.impl_Field_cut_1 mixed Try.func66 (by kernel_rfl) (Eq.mpr (by kernel_rfl : fev prg O.impl_Field_cut_1 Try.f66 [a0, a1, a2, a3, a4] H K = F.impl_Field_cut_1 a0 a1 a2 a3 a4 H K) h)

/-! (loop.example/g01381/impl.Field).cut: function 38 -/
def F.impl_Field_cut (a0 a1 a2 a3 a4 : Value) (H : Hp) (K : Value → Hp → Prop) : Prop :=
  nw (a0 : Value).cells 28 H fun v5x1 H2 =>
  nw (a1 : Value).cells 2 H2 fun v6x3 H4 =>
  nw (a2 : Value).cells 2 H4 fun v7x5 H6 =>
  nw #[(.int .i64 0), (.int .i64 0), (.slice none 0 0)] 28 H6 fun v10x7 H8 =>
  HT prg I.impl_madeField [a3, a4, (.func (.func I.impl_Field_cut_1) #[] #[v5x1, v6x3, v7x5])].toArray H8 fun v14x9 H10 =>
  st 3 v10x7 v14x9 H10 fun H11 =>
  ob (vLoadN 3 v10x7 H11) fun u12 => K u12 H11
def O.impl_Field_cut : Nat → Nat × List Nat := fun i => (0, [])
theorem R.impl_Field_cut {a0 a1 a2 a3 a4 : Value} {H : Hp} {K : Value → Hp → Prop} (h : F.impl_Field_cut a0 a1 a2 a3 a4 H K) : HT prg I.impl_Field_cut [a0, a1, a2, a3, a4].toArray H K :=
  HT_of_fev O.impl_Field_cut mixed Try.func38 (by kernel_rfl) (Eq.mpr (by kernel_rfl : fev prg O.impl_Field_cut Try.f38 [a0, a1, a2, a3, a4] H K = F.impl_Field_cut a0 a1 a2 a3 a4 H K) h)

/-! loop.example/g01381/impl.QuarterKinds: function 10 -/
def F.impl_QuarterKinds (a0 : Value) (H : Hp) (K : Value → Hp → Prop) : Prop :=
  nw (a0 : Value).cells 28 H fun v1x1 H2 =>
  ob (vLoadN 3 v1x1 H2) fun v9x3 =>
  HT prg I.impl_isSquare [v9x3].toArray H2 fun v10x4 H5 =>
  ob (vUn .not v10x4) fun v11x6 =>
  cnd v11x6
    (K (.tuple #[(.slice none 0 0), (.bool false)]) H5)
    (bS 1 0 #[(.int .i64 0)] 2 [] H5 fun v12x7 H8 =>
  jn (fun σ9 H9 =>
    K (.tuple #[(σ9 4), (.bool true)]) H9) fun J9 =>
  lpE (fun Q10 σ10 H10 =>
    ob (vFa 0 (σ10 1)) fun v14x11 =>
    ob (vLoad v14x11 H10) fun v15x12 =>
    ob (vInt .leq (σ10 5) v15x12) fun v16x13 =>
    cnd v16x13
      (jn (fun σ14 H14 =>
      ob (vInt .mul (σ14 5) (.int .i64 2)) fun v18x15 =>
      Q10 .normal (up (up (up σ14 17 (σ14 5)) 18 v18x15) 5 v18x15) H14) fun J14 =>
    opEv.nwM H10 fun v19x16 H17 =>
    jn (fun σ18 H18 =>
      ob (val prg (Builtin.len_ #[56] 3 [(σ18 6)].toArray) H18) fun v45x19 =>
      bS 1 1 #[(.int .i64 0)] 2 [(0, v45x19)] H18 fun v46x20 H21 =>
      apd 1 8 #[(.int .i64 0)] 2 (σ18 4) v46x20 H21 fun v47x22 H23 =>
      J14 (up (up (up (up (up (up σ18 43 (σ18 4)) 44 (σ18 6)) 45 v45x19) 46 v46x20) 47 v47x22) 4 v47x22) H23) fun J18 =>
    lpE (fun Q24 σ24 H24 =>
      ob (vFa 0 (σ24 1)) fun v21x25 =>
      ob (vLoad v21x25 H24) fun v22x26 =>
      ob (vInt .lss (σ24 7) v22x26) fun v23x27 =>
      cnd v23x27
        (jn (fun σ28 H28 =>
        ob (vInt .add (σ28 7) (σ28 5)) fun v26x29 =>
        Q24 .normal (up (up (up (up σ28 24 (σ28 7)) 25 (σ28 5)) 26 v26x29) 7 v26x29) H28) fun J28 =>
      lpE (fun Q30 σ30 H30 =>
        ob (vFa 1 (σ30 1)) fun v28x31 =>
        ob (vLoad v28x31 H30) fun v29x32 =>
        ob (vInt .lss (σ30 8) v29x32) fun v30x33 =>
        cnd v30x33
          (ob (vLoadN 3 (σ30 1) H30) fun v35x34 =>
        HT prg I.impl_Field_cut [v35x34, (σ30 7), (σ30 8), (σ30 5), (σ30 5)].toArray H30 fun v40x35 H36 =>
        ob (vFld false 1 2 v40x35) fun v41x37 =>
        HT prg I.impl_keyOf [v41x37].toArray H36 fun v42x38 H39 =>
        hp prg (Instr.mapUpdate 56 (σ30 6) v42x38 (.bool true)) H39 fun _ H40 =>
        ob (vInt .add (σ30 8) (σ30 5)) fun v33x41 =>
        Q30 .normal (up (up (up (up (up (up (up (up (up (up (up (up (up (up (up (up (up σ30 27 (σ30 8)) 28 v28x31) 29 v29x32) 30 v30x33) 34 (σ30 6)) 35 v35x34) 36 (σ30 7)) 37 (σ30 8)) 38 (σ30 5)) 39 (σ30 5)) 40 v40x35) 41 v41x37) 42 v42x38) 31 (σ30 8)) 32 (σ30 5)) 33 v33x41) 8 v33x41) H40)
          (Q30 (.exit 4) (up (up (up (up σ30 27 (σ30 8)) 28 v28x31) 29 v29x32) 30 v30x33) H30)) (blkQ 4 (blkQ 3 (thenQ J28 Q24))) (up (up (up (up (up σ24 20 (σ24 7)) 21 v21x25) 22 v22x26) 23 v23x27) 8 (.int .i64 0)) H24)
        (Q24 (.exit 2) (up (up (up (up σ24 20 (σ24 7)) 21 v21x25) 22 v22x26) 23 v23x27) H24)) (blkQ 2 (thenQ J18 (blkQ 1 (thenQ J14 Q10)))) (up (up (up (up (up (up (up σ10 13 (σ10 5)) 14 v14x11) 15 v15x12) 16 v16x13) 19 v19x16) 6 v19x16) 7 (.int .i64 0)) H17)
      (Q10 (.exit 0) (up (up (up (up σ10 13 (σ10 5)) 14 v14x11) 15 v15x12) 16 v16x13) H10)) (blkQ 0 (thenQ J9 (retQ prg [(.tmp 2), (.tmp 3)] K))) (up (up (up (up (up (up (up (up (up (S0 [a0]) 1 v1x1) 2 (.slice none 0 0)) 3 (.bool false)) 9 v9x3) 10 v10x4) 11 v11x6) 12 v12x7) 4 v12x7) 5 (.int .i64 1)) H8)
def O.impl_QuarterKinds : Nat → Nat × List Nat := fun i => (0, [])
theorem R.impl_QuarterKinds {a0 : Value} {H : Hp} {K : Value → Hp → Prop} (h : F.impl_QuarterKinds a0 H K) : HT prg I.impl_QuarterKinds [a0].toArray H K :=
  HT_of_fev O.impl_QuarterKinds mixed Try.func10 (by kernel_rfl) (Eq.mpr (by kernel_rfl : fev prg O.impl_QuarterKinds Try.f10 [a0] H K = F.impl_QuarterKinds a0 H K) h)

/-! loop.example/g01381/laws.eqInt64S: function 11 -/
def F.laws_eqInt64S (a0 a1 : Value) (H : Hp) (K : Value → Hp → Prop) : Prop :=
  ob (vLenSl a0) fun v7x1 =>
  ob (vLenSl a1) fun v9x2 =>
  ob (vInt .neq v7x1 v9x2) fun v10x3 =>
  cnd v10x3
    (K (.bool false) H)
    (jn (fun σ4 H4 =>
    K (.bool true) H4) fun J4 =>
  lpE (fun Q5 σ5 H5 =>
    ob (vLenSl (σ5 0)) fun v13x6 =>
    ob (vInt .lss (σ5 5) v13x6) fun v14x7 =>
    cnd v14x7
      (ob (vIx 1 (σ5 0) (σ5 5)) fun v19x8 =>
    ob (vLoad v19x8 H5) fun v20x9 =>
    ob (vIx 1 (σ5 1) (σ5 5)) fun v23x10 =>
    ob (vLoad v23x10 H5) fun v24x11 =>
    ob (vInt .neq v20x9 v24x11) fun v25x12 =>
    cnd v25x12
      (Q5 .ret (up (up (up (up (up (up (up (up (up (up (up (up (up (up σ5 11 (σ5 5)) 12 (σ5 0)) 13 v13x6) 14 v14x7) 17 (σ5 0)) 18 (σ5 5)) 19 v19x8) 20 v20x9) 21 (σ5 1)) 22 (σ5 5)) 23 v23x10) 24 v24x11) 25 v25x12) 4 (.bool false)) H5)
      (ob (vInt .add (σ5 5) (.int .i64 1)) fun v16x13 =>
    Q5 .normal (up (up (up (up (up (up (up (up (up (up (up (up (up (up (up (up σ5 11 (σ5 5)) 12 (σ5 0)) 13 v13x6) 14 v14x7) 17 (σ5 0)) 18 (σ5 5)) 19 v19x8) 20 v20x9) 21 (σ5 1)) 22 (σ5 5)) 23 v23x10) 24 v24x11) 25 v25x12) 15 (σ5 5)) 16 v16x13) 5 v16x13) H5))
      (Q5 (.exit 0) (up (up (up (up σ5 11 (σ5 5)) 12 (σ5 0)) 13 v13x6) 14 v14x7) H5)) (blkQ 0 (thenQ J4 (retQ prg [(.tmp 4)] K))) (up (up (up (up (up (up (up (S0 [a0, a1]) 4 (.bool false)) 6 a0) 7 v7x1) 8 a1) 9 v9x2) 10 v10x3) 5 (.int .i64 0)) H)
def O.laws_eqInt64S : Nat → Nat × List Nat := fun i => bif Nat.beq i 6 then (0, [0, 1, 2, 3, 4, 5, 6, 7, 8]) else (0, [])
theorem R.laws_eqInt64S {a0 a1 : Value} {H : Hp} {K : Value → Hp → Prop} (h : F.laws_eqInt64S a0 a1 H K) : HT prg I.laws_eqInt64S [a0, a1].toArray H K :=
  HT_of_fev O.laws_eqInt64S mixed Try.func11 (by kernel_rfl) (Eq.mpr (by kernel_rfl : fev prg O.laws_eqInt64S Try.f11 [a0, a1] H K = F.laws_eqInt64S a0 a1 H K) h)

/-! loop.example/g01381/laws.eqField: function 12 -/
def F.laws_eqField (a0 a1 : Value) (H : Hp) (K : Value → Hp → Prop) : Prop :=
  nw (a0 : Value).cells 28 H fun v2x1 H2 =>
  nw (a1 : Value).cells 28 H2 fun v3x3 H4 =>
  ob (vFa 0 v2x1) fun v5x5 =>
  ob (vLoad v5x5 H4) fun v6x6 =>
  ob (vFa 0 v3x3) fun v7x7 =>
  ob (vLoad v7x7 H4) fun v8x8 =>
  ob (vInt .neq v6x6 v8x8) fun v9x9 =>
  cnd v9x9
    (K (.bool false) H4)
    (ob (vFa 1 v2x1) fun v10x10 =>
  ob (vLoad v10x10 H4) fun v11x11 =>
  ob (vFa 1 v3x3) fun v12x12 =>
  ob (vLoad v12x12 H4) fun v13x13 =>
  ob (vInt .neq v11x11 v13x13) fun v14x14 =>
  cnd v14x14
    (K (.bool false) H4)
    (ob (vFa 2 v2x1) fun v15x15 =>
  ob (vLoad v15x15 H4) fun v16x16 =>
  ob (vFa 2 v3x3) fun v17x17 =>
  ob (vLoad v17x17 H4) fun v18x18 =>
  HT prg I.laws_eqInt64S [v16x16, v18x18].toArray H4 fun v19x19 H20 =>
  ob (vUn .not v19x19) fun v20x21 =>
  cnd v20x21
    (K (.bool false) H20)
    (K (.bool true) H20)))
def O.laws_eqField : Nat → Nat × List Nat := fun i => (0, [])
theorem R.laws_eqField {a0 a1 : Value} {H : Hp} {K : Value → Hp → Prop} (h : F.laws_eqField a0 a1 H K) : HT prg I.laws_eqField [a0, a1].toArray H K :=
  HT_of_fev O.laws_eqField mixed Try.func12 (by kernel_rfl) (Eq.mpr (by kernel_rfl : fev prg O.laws_eqField Try.f12 [a0, a1] H K = F.laws_eqField a0 a1 H K) h)

/-! loop.example/g01381/laws.markInt64S: function 14 -/
def F.laws_markInt64S (a0 a1 : Value) (H : Hp) (K : Value → Hp → Prop) : Prop :=
  jn (fun σ1 H1 =>
    K (σ1 1) H1) fun J1 =>
  lpE (fun Q2 σ2 H2 =>
    ob (vLenSl (σ2 0)) fun v8x3 =>
    ob (vInt .lss (σ2 5) v8x3) fun v9x4 =>
    cnd v9x4
      (ob (vIx 1 (σ2 0) (σ2 5)) fun v15x5 =>
    st 1 v15x5 (σ2 1) H2 fun H6 =>
    ob (vInt .add (σ2 1) (.int .i64 1)) fun v17x7 =>
    ob (vInt .add (σ2 5) (.int .i64 1)) fun v11x8 =>
    Q2 .normal (up (up (up (up (up (up (up (up (up (up (up (up (up (up σ2 6 (σ2 5)) 7 (σ2 0)) 8 v8x3) 9 v9x4) 12 (σ2 0)) 13 (σ2 5)) 14 (σ2 1)) 15 v15x5) 16 (σ2 1)) 17 v17x7) 1 v17x7) 10 (σ2 5)) 11 v11x8) 5 v11x8) H6)
      (Q2 (.exit 0) (up (up (up (up σ2 6 (σ2 5)) 7 (σ2 0)) 8 v8x3) 9 v9x4) H2)) (blkQ 0 (thenQ J1 (retQ prg [(.tmp 4)] K))) (up (up (S0 [a0, a1]) 4 (.int .i64 0)) 5 (.int .i64 0)) H
def O.laws_markInt64S : Nat → Nat × List Nat := fun i => (0, [])
theorem R.laws_markInt64S {a0 a1 : Value} {H : Hp} {K : Value → Hp → Prop} (h : F.laws_markInt64S a0 a1 H K) : HT prg I.laws_markInt64S [a0, a1].toArray H K :=
  HT_of_fev O.laws_markInt64S mixed Try.func14 (by kernel_rfl) (Eq.mpr (by kernel_rfl : fev prg O.laws_markInt64S Try.f14 [a0, a1] H K = F.laws_markInt64S a0 a1 H K) h)

/-! loop.example/g01381/laws.markField: function 13 -/
def F.laws_markField (a0 a1 : Value) (H : Hp) (K : Value → Hp → Prop) : Prop :=
  nw (a0 : Value).cells 28 H fun v2x1 H2 =>
  ob (vFa 2 v2x1) fun v5x3 =>
  ob (vLoad v5x3 H2) fun v6x4 =>
  HT prg I.laws_markInt64S [v6x4, a1].toArray H2 fun v8x5 H6 =>
  K v8x5 H6
def O.laws_markField : Nat → Nat × List Nat := fun i => (0, [])
theorem R.laws_markField {a0 a1 : Value} {H : Hp} {K : Value → Hp → Prop} (h : F.laws_markField a0 a1 H K) : HT prg I.laws_markField [a0, a1].toArray H K :=
  HT_of_fev O.laws_markField mixed Try.func13 (by kernel_rfl) (Eq.mpr (by kernel_rfl : fev prg O.laws_markField Try.f13 [a0, a1] H K = F.laws_markField a0 a1 H K) h)

/-! loop.example/g01381/laws.heldInt64S: function 15 -/
def F.laws_heldInt64S (a0 a1 : Value) (H : Hp) (K : Value → Hp → Prop) : Prop :=
  jn (fun σ1 H1 =>
    K (σ1 1) H1) fun J1 =>
  lpE (fun Q2 σ2 H2 =>
    ob (vLenSl (σ2 0)) fun v8x3 =>
    ob (vInt .lss (σ2 5) v8x3) fun v9x4 =>
    cnd v9x4
      (ob (vIx 1 (σ2 0) (σ2 5)) fun v14x5 =>
    ob (vLoad v14x5 H2) fun v15x6 =>
    ob (vInt .neq v15x6 (σ2 1)) fun v17x7 =>
    cnd v17x7
      (Q2 .ret (up (up (up (up (up (up (up (up (up (up (up σ2 6 (σ2 5)) 7 (σ2 0)) 8 v8x3) 9 v9x4) 12 (σ2 0)) 13 (σ2 5)) 14 v14x5) 15 v15x6) 16 (σ2 1)) 17 v17x7) 4 (.int .i64 (-1))) H2)
      (ob (vInt .add (σ2 1) (.int .i64 1)) fun v19x8 =>
    ob (vInt .add (σ2 5) (.int .i64 1)) fun v11x9 =>
    Q2 .normal (up (up (up (up (up (up (up (up (up (up (up (up (up (up (up (up σ2 6 (σ2 5)) 7 (σ2 0)) 8 v8x3) 9 v9x4) 12 (σ2 0)) 13 (σ2 5)) 14 v14x5) 15 v15x6) 16 (σ2 1)) 17 v17x7) 18 (σ2 1)) 19 v19x8) 1 v19x8) 10 (σ2 5)) 11 v11x9) 5 v11x9) H2))
      (Q2 (.exit 0) (up (up (up (up σ2 6 (σ2 5)) 7 (σ2 0)) 8 v8x3) 9 v9x4) H2)) (blkQ 0 (thenQ J1 (retQ prg [(.tmp 4)] K))) (up (up (S0 [a0, a1]) 4 (.int .i64 0)) 5 (.int .i64 0)) H
def O.laws_heldInt64S : Nat → Nat × List Nat := fun i => (0, [])
theorem R.laws_heldInt64S {a0 a1 : Value} {H : Hp} {K : Value → Hp → Prop} (h : F.laws_heldInt64S a0 a1 H K) : HT prg I.laws_heldInt64S [a0, a1].toArray H K :=
  HT_of_fev O.laws_heldInt64S mixed Try.func15 (by kernel_rfl) (Eq.mpr (by kernel_rfl : fev prg O.laws_heldInt64S Try.f15 [a0, a1] H K = F.laws_heldInt64S a0 a1 H K) h)

/-! loop.example/g01381/laws.FnExactQuarterKinds: function 3 -/
def F.laws_FnExactQuarterKinds (a0 : Value) (H : Hp) (K : Value → Hp → Prop) : Prop :=
  nw (a0 : Value).cells 24 H fun v1x1 H2 =>
  ob (vLoadN 3 v1x1 H2) fun v14x3 =>
  HT prg I.laws_szField [v14x3, (.int .i64 1048576)].toArray H2 fun v16x4 H5 =>
  ob (vInt .lss v16x4 (.int .i64 0)) fun v18x6 =>
  cnd v18x6
    (K (.bool true) H5)
    (ob (vLoadN 3 v1x1 H5) fun v20x7 =>
  HT prg I.laws_toField [v20x7].toArray H5 fun v21x8 H9 =>
  HT prg I.spec_QuarterKinds [v21x8].toArray H9 fun v22x10 H11 =>
  ob (vExt v22x10 0) fun v23x12 =>
  ob (vExt v22x10 1) fun v24x13 =>
  ob (vLoadN 3 v1x1 H11) fun v25x14 =>
  HT prg I.laws_toField [v25x14].toArray H11 fun v26x15 H16 =>
  nw #[(.int .i64 0), (.int .i64 0), (.slice none 0 0)] 28 H16 fun v6x17 H18 =>
  st 3 v6x17 v26x15 H18 fun H19 =>
  ob (vLoadN 3 v6x17 H19) fun v28x20 =>
  HT prg I.impl_QuarterKinds [v28x20].toArray H19 fun v29x21 H22 =>
  ob (vExt v29x21 0) fun v30x23 =>
  ob (vExt v29x21 1) fun v31x24 =>
  HT prg I.laws_eqInt64S [v30x23, v23x12].toArray H22 fun v34x25 H26 =>
  ob (vUn .not v34x25) fun v35x27 =>
  gop v35x27 false (fun K28 => K28 v31x24 H26) H26 fun v37x29 H30 =>
  gop v35x27 false (fun K31 => K31 v24x13 H30) H30 fun v38x32 H33 =>
  gop v35x27 false (fun K34 => ob (vBool .neq v37x29 v38x32) fun u => K34 u H33) H33 fun v39x35 H36 =>
  ob (vPick v35x27 (.bool true) v39x35) fun v40x37 =>
  cnd v40x37
    (K (.bool false) H36)
    (ob (vLoadN 3 v6x17 H36) fun v41x38 =>
  ob (vLoadN 3 v1x1 H36) fun v42x39 =>
  HT prg I.laws_toField [v42x39].toArray H36 fun v43x40 H41 =>
  Le H36 H41 ∧ (HT prg I.laws_eqField [v41x38, v43x40].toArray H41 fun v44x42 H43 =>
  Le H41 H43 ∧ (ob (vUn .not v44x42) fun v45x44 =>
  cnd v45x44
    (K (.bool false) H43)
    (ob (vLoadN 3 v6x17 H43) fun v46x45 =>
  HT prg I.laws_markField [v46x45, (.int .i64 1)].toArray H43 fun v48x46 H47 =>
  ob (vInt .lss v48x46 (.int .i64 0)) fun v50x48 =>
  gop v50x48 false (fun K49 => K49 v30x23 H47) H47 fun v52x50 H51 =>
  gop v50x48 false (fun K52 => K52 v23x12 H51) H51 fun v53x53 H54 =>
  gop v50x48 false (fun K55 => HT prg I.laws_eqInt64S [v52x50, v53x53].toArray H54 K55) H54 fun v54x56 H57 =>
  gop v50x48 false (fun K58 => ob (vUn .not v54x56) fun u => K58 u H57) H57 fun v55x59 H60 =>
  ob (vPick v50x48 (.bool true) v55x59) fun v56x61 =>
  gop v56x61 false (fun K62 => K62 v31x24 H60) H60 fun v58x63 H64 =>
  gop v56x61 false (fun K65 => K65 v24x13 H64) H64 fun v59x66 H67 =>
  gop v56x61 false (fun K68 => ob (vBool .neq v58x63 v59x66) fun u => K68 u H67) H67 fun v60x69 H70 =>
  ob (vPick v56x61 (.bool true) v60x69) fun v61x71 =>
  cnd v61x71
    (K (.bool false) H70)
    (HT prg I.laws_markInt64S [v30x23, (.int .i64 1)].toArray H70 fun v64x72 H73 =>
  HT prg I.laws_heldInt64S [v30x23, (.int .i64 1)].toArray H73 fun v67x74 H75 =>
  ob (vInt .lss v67x74 (.int .i64 0)) fun v69x76 =>
  cnd v69x76
    (K (.bool false) H75)
    (ob (vInt .neq v67x74 v64x72) fun v72x77 =>
  cnd v72x77
    (K (.bool false) H75)
    (ob (vLoadN 3 v1x1 H75) fun v74x78 =>
  HT prg I.laws_toField [v74x78].toArray H75 fun v75x79 H80 =>
  HT prg I.impl_QuarterKinds [v75x79].toArray H80 fun v76x81 H82 =>
  ob (vExt v76x81 0) fun v77x83 =>
  ob (vExt v76x81 1) fun v78x84 =>
  HT prg I.laws_eqInt64S [v77x83, v23x12].toArray H82 fun v81x85 H86 =>
  ob (vUn .not v81x85) fun v82x87 =>
  gop v82x87 false (fun K88 => K88 v78x84 H86) H86 fun v84x89 H90 =>
  gop v82x87 false (fun K91 => K91 v24x13 H90) H90 fun v85x92 H93 =>
  gop v82x87 false (fun K94 => ob (vBool .neq v84x89 v85x92) fun u => K94 u H93) H93 fun v86x95 H96 =>
  ob (vPick v82x87 (.bool true) v86x95) fun v87x97 =>
  cnd v87x97
    (K (.bool false) H96)
    (HT prg I.laws_heldInt64S [v30x23, (.int .i64 1)].toArray H96 fun v90x98 H99 =>
  ob (vInt .lss v90x98 (.int .i64 0)) fun v92x100 =>
  cnd v92x100
    (K (.bool false) H99)
    (ob (vInt .neq v90x98 v64x72) fun v95x101 =>
  cnd v95x101
    (K (.bool false) H99)
    (K (.bool true) H99)))))))))))
def O.laws_FnExactQuarterKinds : Nat → Nat × List Nat := fun i => bif Nat.beq i 10 then (0, [0, 1, 2, 3, 4]) else (0, [])
theorem R.laws_FnExactQuarterKinds {a0 : Value} {H : Hp} {K : Value → Hp → Prop} (h : F.laws_FnExactQuarterKinds a0 H K) : HT prg I.laws_FnExactQuarterKinds [a0].toArray H K :=
  HT_of_fev O.laws_FnExactQuarterKinds mixed Try.func3 (by kernel_rfl) (Eq.mpr (by kernel_rfl : fev prg O.laws_FnExactQuarterKinds Try.f3 [a0] H K = F.laws_FnExactQuarterKinds a0 H K) h)

/-! loop.example/g01381/spec.l00Same: function 45 -/
def F.spec_l00Same (a0 a1 : Value) (H : Hp) (K : Value → Hp → Prop) : Prop :=
  ob (vLenSl a0) fun v7x1 =>
  ob (vLenSl a1) fun v9x2 =>
  ob (vInt .neq v7x1 v9x2) fun v10x3 =>
  cnd v10x3
    (K (.bool false) H)
    (jn (fun σ4 H4 =>
    K (.bool true) H4) fun J4 =>
  lpE (fun Q5 σ5 H5 =>
    ob (vLenSl (σ5 0)) fun v13x6 =>
    ob (vInt .lss (σ5 5) v13x6) fun v14x7 =>
    cnd v14x7
      (ob (vIx 1 (σ5 0) (σ5 5)) fun v19x8 =>
    ob (vLoad v19x8 H5) fun v20x9 =>
    ob (vIx 1 (σ5 1) (σ5 5)) fun v23x10 =>
    ob (vLoad v23x10 H5) fun v24x11 =>
    ob (vInt .neq v20x9 v24x11) fun v25x12 =>
    cnd v25x12
      (Q5 .ret (up (up (up (up (up (up (up (up (up (up (up (up (up (up σ5 11 (σ5 5)) 12 (σ5 0)) 13 v13x6) 14 v14x7) 17 (σ5 0)) 18 (σ5 5)) 19 v19x8) 20 v20x9) 21 (σ5 1)) 22 (σ5 5)) 23 v23x10) 24 v24x11) 25 v25x12) 4 (.bool false)) H5)
      (ob (vInt .add (σ5 5) (.int .i64 1)) fun v16x13 =>
    Q5 .normal (up (up (up (up (up (up (up (up (up (up (up (up (up (up (up (up σ5 11 (σ5 5)) 12 (σ5 0)) 13 v13x6) 14 v14x7) 17 (σ5 0)) 18 (σ5 5)) 19 v19x8) 20 v20x9) 21 (σ5 1)) 22 (σ5 5)) 23 v23x10) 24 v24x11) 25 v25x12) 15 (σ5 5)) 16 v16x13) 5 v16x13) H5))
      (Q5 (.exit 0) (up (up (up (up σ5 11 (σ5 5)) 12 (σ5 0)) 13 v13x6) 14 v14x7) H5)) (blkQ 0 (thenQ J4 (retQ prg [(.tmp 4)] K))) (up (up (up (up (up (up (up (S0 [a0, a1]) 4 (.bool false)) 6 a0) 7 v7x1) 8 a1) 9 v9x2) 10 v10x3) 5 (.int .i64 0)) H)
def O.spec_l00Same : Nat → Nat × List Nat := fun i => bif Nat.beq i 6 then (0, [0, 1, 2, 3, 4, 5, 6, 7, 8]) else (0, [])
theorem R.spec_l00Same {a0 a1 : Value} {H : Hp} {K : Value → Hp → Prop} (h : F.spec_l00Same a0 a1 H K) : HT prg I.spec_l00Same [a0, a1].toArray H K :=
  HT_of_fev O.spec_l00Same mixed Try.func45 (by kernel_rfl) (Eq.mpr (by kernel_rfl : fev prg O.spec_l00Same Try.f45 [a0, a1] H K = F.spec_l00Same a0 a1 H K) h)

/-! loop.example/g01381/spec.l05Tell: function 67 -/
def F.spec_l05Tell (a0 a1 a2 a3 a4 : Value) (H : Hp) (K : Value → Hp → Prop) : Prop :=
  ob (vInt .eql a3 (.int .i64 1)) fun v19x1 =>
  cnd v19x1
    (ob (vNilC a0) fun v21x2 =>
    ob (vFa 2 v21x2) fun v22x3 =>
    ob (vLoad v22x3 H) fun v23x4 =>
    ob (vNilC a0) fun v26x5 =>
    ob (vFa 1 v26x5) fun v27x6 =>
    ob (vLoad v27x6 H) fun v28x7 =>
    ob (vInt .mul a1 v28x7) fun v29x8 =>
    ob (vInt .add v29x8 a2) fun v31x9 =>
    ob (vIx 1 v23x4 v31x9) fun v32x10 =>
    ob (vLoad v32x10 H) fun v33x11 =>
    K (.tuple #[v33x11, a4]) H)
    (ob (vInt .quo a3 (.int .i64 2)) fun v36x12 =>
  bS 1 0 #[(.int .i64 0)] 2 [] H fun v37x13 H14 =>
  jn (fun σ15 H15 =>
    jn (fun σ16 H16 =>
      ob (vLenSl (σ16 4)) fun v84x17 =>
      ob (vInt .quo v84x17 (.int .i64 4)) fun v85x18 =>
      ob (vInt .add v85x18 (.int .i64 2)) fun v86x19 =>
      apd 1 8 #[(.int .i64 0)] 2 (σ16 4) (σ16 13) H16 fun v89x20 H21 =>
      K (.tuple #[v86x19, v89x20]) H21) fun J16 =>
    lpE (fun Q22 σ22 H22 =>
      ob (vLenSl (σ22 4)) fun v68x23 =>
      ob (vInt .lss (σ22 17) v68x23) fun v69x24 =>
      cnd v69x24
        (ob (vInt .add (σ22 17) (.int .i64 4)) fun v75x25 =>
      ob (vSl3 1 (σ22 4) (some (σ22 17)) (some v75x25) none) fun v76x26 =>
      HT prg I.spec_l00Same [v76x26, (σ22 13)].toArray H22 fun v78x27 H28 =>
      cnd v78x27
        (ob (vInt .quo (σ22 17) (.int .i64 4)) fun v80x29 =>
        ob (vInt .add v80x29 (.int .i64 2)) fun v81x30 =>
        Q22 .ret (up (up (up (up (up (up (up (up (up (up (up (up (up (up (up (up (up σ22 66 (σ22 17)) 67 (σ22 4)) 68 v68x23) 69 v69x24) 72 (σ22 4)) 73 (σ22 17)) 74 (σ22 17)) 75 v75x25) 76 v76x26) 77 (σ22 13)) 78 v78x27) 79 (σ22 17)) 80 v80x29) 81 v81x30) 82 (σ22 4)) 10 v81x30) 11 (σ22 4)) H28)
        (ob (vInt .add (σ22 17) (.int .i64 4)) fun v71x31 =>
      Q22 .normal (up (up (up (up (up (up (up (up (up (up (up (up (up (up σ22 66 (σ22 17)) 67 (σ22 4)) 68 v68x23) 69 v69x24) 72 (σ22 4)) 73 (σ22 17)) 74 (σ22 17)) 75 v75x25) 76 v76x26) 77 (σ22 13)) 78 v78x27) 70 (σ22 17)) 71 v71x31) 17 v71x31) H28))
        (Q22 (.exit 2) (up (up (up (up σ22 66 (σ22 17)) 67 (σ22 4)) 68 v68x23) 69 v69x24) H22)) (blkQ 2 (thenQ J16 (retQ prg [(.tmp 10), (.tmp 11)] K))) (up σ15 17 (.int .i64 0)) H15) fun J15 =>
  lpE (fun Q32 σ32 H32 =>
    ob (vInt .lss (σ32 14) (.int .i64 4)) fun v39x33 =>
    cnd v39x33
      (ob (vInt .quo (σ32 14) (.int .i64 2)) fun v46x34 =>
    ob (vInt .mul v46x34 (σ32 12)) fun v48x35 =>
    ob (vInt .add (σ32 1) v48x35) fun v49x36 =>
    ob (vInt .rem (σ32 14) (.int .i64 2)) fun v52x37 =>
    ob (vInt .mul v52x37 (σ32 12)) fun v54x38 =>
    ob (vInt .add (σ32 2) v54x38) fun v55x39 =>
    HT prg I.spec_l05Tell [(σ32 0), v49x36, v55x39, (σ32 12), (σ32 4)].toArray H32 fun v58x40 H41 =>
    ob (vExt v58x40 0) fun v59x42 =>
    ob (vExt v58x40 1) fun v60x43 =>
    bS 1 1 #[(.int .i64 0)] 2 [(0, v59x42)] H41 fun v64x44 H45 =>
    apd 1 8 #[(.int .i64 0)] 2 (σ32 13) v64x44 H45 fun v65x46 H47 =>
    ob (vInt .add (σ32 14) (.int .i64 1)) fun v41x48 =>
    Q32 .normal (up (up (up (up (up (up (up (up (up (up (up (up (up (up (up (up (up (up (up (up (up (up (up (up (up (up (up (up (up (up (up (up (up σ32 38 (σ32 14)) 39 v39x33) 43 (σ32 0)) 44 (σ32 1)) 45 (σ32 14)) 46 v46x34) 47 (σ32 12)) 48 v48x35) 49 v49x36) 50 (σ32 2)) 51 (σ32 14)) 52 v52x37) 53 (σ32 12)) 54 v54x38) 55 v55x39) 56 (σ32 12)) 57 (σ32 4)) 58 v58x40) 42 v58x40) 59 v59x42) 60 v60x43) 15 v59x42) 16 v60x43) 61 v60x43) 4 v60x43) 62 (σ32 13)) 63 v59x42) 64 v64x44) 65 v65x46) 13 v65x46) 40 (σ32 14)) 41 v41x48) 14 v41x48) H47)
      (Q32 (.exit 0) (up (up σ32 38 (σ32 14)) 39 v39x33) H32)) (blkQ 0 (thenQ J15 (retQ prg [(.tmp 10), (.tmp 11)] K))) (up (up (up (up (up (up (up (up (up (up (S0 [a0, a1, a2, a3, a4]) 10 (.int .i64 0)) 11 (.slice none 0 0)) 18 a3) 19 v19x1) 35 a3) 36 v36x12) 12 v36x12) 37 v37x13) 13 v37x13) 14 (.int .i64 0)) H14)
def O.spec_l05Tell : Nat → Nat × List Nat := fun i => bif Nat.beq i 2 then (0, [0, 1, 2, 3, 4, 5, 6, 7, 8, 9, 10, 11, 12, 13, 14, 15, 16]) else (0, [])
theorem R.spec_l05Tell {a0 a1 a2 a3 a4 : Value} {H : Hp} {K : Value → Hp → Prop} (h : F.spec_l05Tell a0 a1 a2 a3 a4 H K) : HT prg I.spec_l05Tell [a0, a1, a2, a3, a4].toArray H K :=
  HT_of_fev O.spec_l05Tell mixed Try.func67 (by kernel_rfl) (Eq.mpr (by kernel_rfl : fev prg O.spec_l05Tell Try.f67 [a0, a1, a2, a3, a4] H K = F.spec_l05Tell a0 a1 a2 a3 a4 H K) h)

/-! loop.example/g01381/spec.l05Tree: function 39 -/
def F.spec_l05Tree (a0 : Value) (H : Hp) (K : Value → Hp → Prop) : Prop :=
  ob (vNilC a0) fun v8x1 =>
  ob (vFa 0 v8x1) fun v9x2 =>
  ob (vLoad v9x2 H) fun v10x3 =>
  bS 1 0 #[(.int .i64 0)] 2 [] H fun v11x4 H5 =>
  HT prg I.spec_l05Tell [a0, (.int .i64 0), (.int .i64 0), v10x3, v11x4].toArray H5 fun v12x6 H7 =>
  ob (vExt v12x6 0) fun v13x8 =>
  ob (vExt v12x6 1) fun v14x9 =>
  K v14x9 H7
def O.spec_l05Tree : Nat → Nat × List Nat := fun i => (0, [])
theorem R.spec_l05Tree {a0 : Value} {H : Hp} {K : Value → Hp → Prop} (h : F.spec_l05Tree a0 H K) : HT prg I.spec_l05Tree [a0].toArray H K :=
  HT_of_fev O.spec_l05Tree mixed Try.func39 (by kernel_rfl) (Eq.mpr (by kernel_rfl : fev prg O.spec_l05Tree Try.f39 [a0] H K = F.spec_l05Tree a0 H K) h)

/-! loop.example/g01381/spec.QuarterTree: function 16 -/
def F.spec_QuarterTree (a0 : Value) (H : Hp) (K : Value → Hp → Prop) : Prop :=
  nw (a0 : Value).cells 28 H fun v1x1 H2 =>
  HT prg I.spec_l05Square [v1x1].toArray H2 fun v4x3 H4 =>
  ob (vUn .not v4x3) fun v5x5 =>
  cnd v5x5
    (K (.tuple #[(.slice none 0 0), (.bool false)]) H4)
    (HT prg I.spec_l05Tree [v1x1].toArray H4 fun v6x6 H7 =>
  K (.tuple #[v6x6, (.bool true)]) H7)
def O.spec_QuarterTree : Nat → Nat × List Nat := fun i => (0, [])
theorem R.spec_QuarterTree {a0 : Value} {H : Hp} {K : Value → Hp → Prop} (h : F.spec_QuarterTree a0 H K) : HT prg I.spec_QuarterTree [a0].toArray H K :=
  HT_of_fev O.spec_QuarterTree mixed Try.func16 (by kernel_rfl) (Eq.mpr (by kernel_rfl : fev prg O.spec_QuarterTree Try.f16 [a0] H K = F.spec_QuarterTree a0 H K) h)

/-! (loop.example/g01381/impl.Field).tree$1: function 68 -/
def F.impl_Field_tree_1 (a0 a1 a2 a3 a4 a5 a6 : Value) (H : Hp) (K : Value → Hp → Prop) : Prop :=
  ob (vInt .eql a2 (.int .i64 1)) fun v17x1 =>
  cnd v17x1
    (ob (vLoadN 3 a3 H) fun v18x2 =>
    HT prg I.impl_Field_at [v18x2, a0, a1].toArray H fun v21x3 H4 =>
    K v21x3 H4)
    (ob (vInt .quo a2 (.int .i64 2)) fun v23x5 =>
  hp prg (Instr.build 86 [].toArray) H fun v24x6 H7 =>
  nw #[(.int .i64 0), (.int .i64 0), (.int .i64 0), (.int .i64 0)] 86 H7 fun v12x8 H9 =>
  st 4 v12x8 v24x6 H9 fun H10 =>
  jn (fun σ11 H11 =>
    ob (vLoad (σ11 5) H11) fun v47x12 =>
    ob (vLoadN 4 (σ11 12) H11) fun v48x13 =>
    hp prg (Instr.lookup 84 v47x12 v48x13 true) H11 fun v49x14 H15 =>
    ob (vExt v49x14 0) fun v50x16 =>
    ob (vExt v49x14 1) fun v51x17 =>
    ob (vUn .not v51x17) fun v53x18 =>
    cnd v53x18
      (ob (vLoad (σ11 5) H15) fun v54x19 =>
      ob (val prg (Builtin.len_ #[84] 3 [v54x19].toArray) H15) fun v55x20 =>
      ob (vLoad (σ11 5) H15) fun v56x21 =>
      ob (vLoadN 4 (σ11 12) H15) fun v57x22 =>
      hp prg (Instr.mapUpdate 84 v56x21 v57x22 v55x20) H15 fun _ H23 =>
      ob (vLoad (σ11 6) H23) fun v59x24 =>
      ob (vSlA 4 1 (σ11 12) none none) fun v60x25 =>
      apd 1 8 #[(.int .i64 0)] 2 v59x24 v60x25 H23 fun v61x26 H27 =>
      st 1 (σ11 6) v61x26 H27 fun H28 =>
      ob (vInt .add v55x20 (.int .i64 2)) fun v63x29 =>
    K v63x29 H28)
      (ob (vInt .add v50x16 (.int .i64 2)) fun v63x30 =>
    K v63x30 H15)) fun J11 =>
  lpE (fun Q31 σ31 H31 =>
    ob (vInt .lss (σ31 25) (.int .i64 4)) fun v26x32 =>
    cnd v26x32
      (ob (vLoad (σ31 4) H31) fun v29x33 =>
    ob (vInt .quo (σ31 25) (.int .i64 2)) fun v32x34 =>
    ob (vInt .mul v32x34 (σ31 11)) fun v34x35 =>
    ob (vInt .add (σ31 0) v34x35) fun v35x36 =>
    ob (vInt .rem (σ31 25) (.int .i64 2)) fun v38x37 =>
    ob (vInt .mul v38x37 (σ31 11)) fun v40x38 =>
    ob (vInt .add (σ31 1) v40x38) fun v41x39 =>
    callV prg v29x33 [v35x36, v41x39, (σ31 11)] H31 fun v43x40 H41 =>
    ob (vIxArr 4 1 (σ31 12) (σ31 25)) fun v44x42 =>
    st 1 v44x42 v43x40 H41 fun H43 =>
    ob (vInt .add (σ31 25) (.int .i64 1)) fun v45x44 =>
    Q31 .normal (up (up (up (up (up (up (up (up (up (up (up (up (up (up (up (up (up (up (up (up (up (up σ31 26 v26x32) 27 (σ31 25)) 13 (σ31 25)) 28 (σ31 25)) 29 v29x33) 30 (σ31 0)) 31 (σ31 25)) 32 v32x34) 33 (σ31 11)) 34 v34x35) 35 v35x36) 36 (σ31 1)) 37 (σ31 25)) 38 v38x37) 39 (σ31 11)) 40 v40x38) 41 v41x39) 42 (σ31 11)) 43 v43x40) 44 v44x42) 45 v45x44) 25 v45x44) H43)
      (Q31 (.exit 0) (up σ31 26 v26x32) H31)) (blkQ 0 (thenQ J11 (retQ prg [(.tmp 10)] K))) (up (up (up (up (up (up (up (up (up (S0 [a0, a1, a2, a3, a4, a5, a6]) 10 (.int .i64 0)) 16 a2) 17 v17x1) 22 a2) 23 v23x5) 11 v23x5) 24 v24x6) 12 v12x8) 25 (.int .i64 0)) H10)
def O.impl_Field_tree_1 : Nat → Nat × List Nat := fun i => bif Nat.beq i 14 then (0, [0, 1, 2, 3]) else (0, [])
theorem R.impl_Field_tree_1 {a0 a1 a2 a3 a4 a5 a6 : Value} {H : Hp} {K : Value → Hp → Prop} (h : F.impl_Field_tree_1 a0 a1 a2 a3 a4 a5 a6 H K) : HT prg I.impl_Field_tree_1 [a0, a1, a2, a3, a4, a5, a6].toArray H K :=
  HT_of_fev O.impl_Field_tree_1 mixed Try.func68 (by kernel_rfl) (Eq.mpr (by kernel_rfl : fev prg O.impl_Field_tree_1 Try.f68 [a0, a1, a2, a3, a4, a5, a6] H K = F.impl_Field_tree_1 a0 a1 a2 a3 a4 a5 a6 H K) h)

/-! (loop.example/g01381/impl.Field).tree: function 40 -/
def F.impl_Field_tree (a0 : Value) (H : Hp) (K : Value → Hp → Prop) : Prop :=
  nw (a0 : Value).cells 28 H fun v1x1 H2 =>
  bS 1 0 #[(.int .i64 0)] 2 [] H2 fun v6x3 H4 =>
  nw #[(.slice none 0 0)] 22 H4 fun v3x5 H6 =>
  st 1 v3x5 v6x3 H6 fun H7 =>
  opEv.nwM H7 fun v7x8 H9 =>
  nw #[(.map none)] 84 H9 fun v4x10 H11 =>
  st 1 v4x10 v7x8 H11 fun H12 =>
  nw #[.nilFunc] 85 H12 fun v5x13 H14 =>
  st 1 v5x13 (.func (.func I.impl_Field_tree_1) #[] #[v1x1, v5x13, v4x10, v3x5]) H14 fun H15 =>
  ob (vLoad v5x13 H15) fun v9x16 =>
  ob (vFa 0 v1x1) fun v10x17 =>
  ob (vLoad v10x17 H15) fun v11x18 =>
  callV prg v9x16 [(.int .i64 0), (.int .i64 0), v11x18] H15 fun v12x19 H20 =>
  ob (vLoad v3x5 H20) fun v13x21 =>
  K v13x21 H20
def O.impl_Field_tree : Nat → Nat × List Nat := fun i => (0, [])
theorem R.impl_Field_tree {a0 : Value} {H : Hp} {K : Value → Hp → Prop} (h : F.impl_Field_tree a0 H K) : HT prg I.impl_Field_tree [a0].toArray H K :=
  HT_of_fev O.impl_Field_tree mixed Try.func40 (by kernel_rfl) (Eq.mpr (by kernel_rfl : fev prg O.impl_Field_tree Try.f40 [a0] H K = F.impl_Field_tree a0 H K) h)

/-! loop.example/g01381/impl.QuarterTree: function 17 -/
def F.impl_QuarterTree (a0 : Value) (H : Hp) (K : Value → Hp → Prop) : Prop :=
  nw (a0 : Value).cells 28 H fun v1x1 H2 =>
  ob (vLoadN 3 v1x1 H2) fun v4x3 =>
  HT prg I.impl_isSquare [v4x3].toArray H2 fun v5x4 H5 =>
  ob (vUn .not v5x4) fun v6x6 =>
  cnd v6x6
    (K (.tuple #[(.slice none 0 0), (.bool false)]) H5)
    (ob (vLoadN 3 v1x1 H5) fun v7x7 =>
  HT prg I.impl_Field_tree [v7x7].toArray H5 fun v8x8 H9 =>
  K (.tuple #[v8x8, (.bool true)]) H9)
def O.impl_QuarterTree : Nat → Nat × List Nat := fun i => (0, [])
theorem R.impl_QuarterTree {a0 : Value} {H : Hp} {K : Value → Hp → Prop} (h : F.impl_QuarterTree a0 H K) : HT prg I.impl_QuarterTree [a0].toArray H K :=
  HT_of_fev O.impl_QuarterTree mixed Try.func17 (by kernel_rfl) (Eq.mpr (by kernel_rfl : fev prg O.impl_QuarterTree Try.f17 [a0] H K = F.impl_QuarterTree a0 H K) h)

/-! loop.example/g01381/laws.FnExactQuarterTree: function 4 -/
def F.laws_FnExactQuarterTree (a0 : Value) (H : Hp) (K : Value → Hp → Prop) : Prop :=
  nw (a0 : Value).cells 24 H fun v1x1 H2 =>
  ob (vLoadN 3 v1x1 H2) fun v14x3 =>
  HT prg I.laws_szField [v14x3, (.int .i64 1048576)].toArray H2 fun v16x4 H5 =>
  ob (vInt .lss v16x4 (.int .i64 0)) fun v18x6 =>
  cnd v18x6
    (K (.bool true) H5)
    (ob (vLoadN 3 v1x1 H5) fun v20x7 =>
  HT prg I.laws_toField [v20x7].toArray H5 fun v21x8 H9 =>
  HT prg I.spec_QuarterTree [v21x8].toArray H9 fun v22x10 H11 =>
  ob (vExt v22x10 0) fun v23x12 =>
  ob (vExt v22x10 1) fun v24x13 =>
  ob (vLoadN 3 v1x1 H11) fun v25x14 =>
  HT prg I.laws_toField [v25x14].toArray H11 fun v26x15 H16 =>
  nw #[(.int .i64 0), (.int .i64 0), (.slice none 0 0)] 28 H16 fun v6x17 H18 =>
  st 3 v6x17 v26x15 H18 fun H19 =>
  ob (vLoadN 3 v6x17 H19) fun v28x20 =>
  HT prg I.impl_QuarterTree [v28x20].toArray H19 fun v29x21 H22 =>
  ob (vExt v29x21 0) fun v30x23 =>
  ob (vExt v29x21 1) fun v31x24 =>
  HT prg I.laws_eqInt64S [v30x23, v23x12].toArray H22 fun v34x25 H26 =>
  ob (vUn .not v34x25) fun v35x27 =>
  gop v35x27 false (fun K28 => K28 v31x24 H26) H26 fun v37x29 H30 =>
  gop v35x27 false (fun K31 => K31 v24x13 H30) H30 fun v38x32 H33 =>
  gop v35x27 false (fun K34 => ob (vBool .neq v37x29 v38x32) fun u => K34 u H33) H33 fun v39x35 H36 =>
  ob (vPick v35x27 (.bool true) v39x35) fun v40x37 =>
  cnd v40x37
    (K (.bool false) H36)
    (ob (vLoadN 3 v6x17 H36) fun v41x38 =>
  ob (vLoadN 3 v1x1 H36) fun v42x39 =>
  HT prg I.laws_toField [v42x39].toArray H36 fun v43x40 H41 =>
  Le H36 H41 ∧ (HT prg I.laws_eqField [v41x38, v43x40].toArray H41 fun v44x42 H43 =>
  Le H41 H43 ∧ (ob (vUn .not v44x42) fun v45x44 =>
  cnd v45x44
    (K (.bool false) H43)
    (ob (vLoadN 3 v6x17 H43) fun v46x45 =>
  HT prg I.laws_markField [v46x45, (.int .i64 1)].toArray H43 fun v48x46 H47 =>
  ob (vInt .lss v48x46 (.int .i64 0)) fun v50x48 =>
  gop v50x48 false (fun K49 => K49 v30x23 H47) H47 fun v52x50 H51 =>
  gop v50x48 false (fun K52 => K52 v23x12 H51) H51 fun v53x53 H54 =>
  gop v50x48 false (fun K55 => HT prg I.laws_eqInt64S [v52x50, v53x53].toArray H54 K55) H54 fun v54x56 H57 =>
  gop v50x48 false (fun K58 => ob (vUn .not v54x56) fun u => K58 u H57) H57 fun v55x59 H60 =>
  ob (vPick v50x48 (.bool true) v55x59) fun v56x61 =>
  gop v56x61 false (fun K62 => K62 v31x24 H60) H60 fun v58x63 H64 =>
  gop v56x61 false (fun K65 => K65 v24x13 H64) H64 fun v59x66 H67 =>
  gop v56x61 false (fun K68 => ob (vBool .neq v58x63 v59x66) fun u => K68 u H67) H67 fun v60x69 H70 =>
  ob (vPick v56x61 (.bool true) v60x69) fun v61x71 =>
  cnd v61x71
    (K (.bool false) H70)
    (HT prg I.laws_markInt64S [v30x23, (.int .i64 1)].toArray H70 fun v64x72 H73 =>
  HT prg I.laws_heldInt64S [v30x23, (.int .i64 1)].toArray H73 fun v67x74 H75 =>
  ob (vInt .lss v67x74 (.int .i64 0)) fun v69x76 =>
  cnd v69x76
    (K (.bool false) H75)
    (ob (vInt .neq v67x74 v64x72) fun v72x77 =>
  cnd v72x77
    (K (.bool false) H75)
    (ob (vLoadN 3 v1x1 H75) fun v74x78 =>
  HT prg I.laws_toField [v74x78].toArray H75 fun v75x79 H80 =>
  HT prg I.impl_QuarterTree [v75x79].toArray H80 fun v76x81 H82 =>
  ob (vExt v76x81 0) fun v77x83 =>
  ob (vExt v76x81 1) fun v78x84 =>
  HT prg I.laws_eqInt64S [v77x83, v23x12].toArray H82 fun v81x85 H86 =>
  ob (vUn .not v81x85) fun v82x87 =>
  gop v82x87 false (fun K88 => K88 v78x84 H86) H86 fun v84x89 H90 =>
  gop v82x87 false (fun K91 => K91 v24x13 H90) H90 fun v85x92 H93 =>
  gop v82x87 false (fun K94 => ob (vBool .neq v84x89 v85x92) fun u => K94 u H93) H93 fun v86x95 H96 =>
  ob (vPick v82x87 (.bool true) v86x95) fun v87x97 =>
  cnd v87x97
    (K (.bool false) H96)
    (HT prg I.laws_heldInt64S [v30x23, (.int .i64 1)].toArray H96 fun v90x98 H99 =>
  ob (vInt .lss v90x98 (.int .i64 0)) fun v92x100 =>
  cnd v92x100
    (K (.bool false) H99)
    (ob (vInt .neq v90x98 v64x72) fun v95x101 =>
  cnd v95x101
    (K (.bool false) H99)
    (K (.bool true) H99)))))))))))
def O.laws_FnExactQuarterTree : Nat → Nat × List Nat := fun i => bif Nat.beq i 10 then (0, [0, 1, 2, 3, 4]) else (0, [])
theorem R.laws_FnExactQuarterTree {a0 : Value} {H : Hp} {K : Value → Hp → Prop} (h : F.laws_FnExactQuarterTree a0 H K) : HT prg I.laws_FnExactQuarterTree [a0].toArray H K :=
  HT_of_fev O.laws_FnExactQuarterTree mixed Try.func4 (by kernel_rfl) (Eq.mpr (by kernel_rfl : fev prg O.laws_FnExactQuarterTree Try.f4 [a0] H K = F.laws_FnExactQuarterTree a0 H K) h)

/-! loop.example/g01381/spec.l05Size: function 42 -/
def F.spec_l05Size (a0 a1 : Value) (H : Hp) (K : Value → Hp → Prop) : Prop :=
  jn (fun σ1 H1 =>
    K (σ1 5) H1) fun J1 =>
  lpE (fun Q2 σ2 H2 =>
    ob (vInt .gtr (σ2 1) (.int .i64 1)) fun v7x3 =>
    cnd v7x3
      (ob (vInt .sub (σ2 1) (.int .i64 2)) fun v10x4 =>
    ob (vInt .mul (.int .i64 4) v10x4) fun v11x5 =>
    ob (vIx 1 (σ2 0) v11x5) fun v12x6 =>
    ob (vLoad v12x6 H2) fun v13x7 =>
    ob (vInt .mul (σ2 5) (.int .i64 2)) fun v15x8 =>
    Q2 .normal (up (up (up (up (up (up (up (up (up (up (up (up σ2 6 (σ2 1)) 7 v7x3) 8 (σ2 0)) 9 (σ2 1)) 10 v10x4) 11 v11x5) 12 v12x6) 13 v13x7) 1 v13x7) 14 (σ2 5)) 15 v15x8) 5 v15x8) H2)
      (Q2 (.exit 0) (up (up σ2 6 (σ2 1)) 7 v7x3) H2)) (blkQ 0 (thenQ J1 (retQ prg [(.tmp 4)] K))) (up (up (S0 [a0, a1]) 4 (.int .i64 0)) 5 (.int .i64 1)) H
def O.spec_l05Size : Nat → Nat × List Nat := fun i => (0, [])
theorem R.spec_l05Size {a0 a1 : Value} {H : Hp} {K : Value → Hp → Prop} (h : F.spec_l05Size a0 a1 H K) : HT prg I.spec_l05Size [a0, a1].toArray H K :=
  HT_of_fev O.spec_l05Size mixed Try.func42 (by kernel_rfl) (Eq.mpr (by kernel_rfl : fev prg O.spec_l05Size Try.f42 [a0, a1] H K = F.spec_l05Size a0 a1 H K) h)

/-! loop.example/g01381/spec.l05Fill: function 44 -/
def F.spec_l05Fill (a0 a1 a2 a3 a4 a5 : Value) (H : Hp) (K : Value → Hp → Prop) : Prop :=
  ob (vInt .eql a5 (.int .i64 1)) fun v16x1 =>
  cnd v16x1
    (ob (vInt .gtr a2 (.int .i64 1)) fun v18x2 =>
    cnd v18x2
      (K (.bool false) H)
      (ob (vNilC a0) fun v20x3 =>
    ob (vFa 2 v20x3) fun v21x4 =>
    ob (vLoad v21x4 H) fun v22x5 =>
    ob (vNilC a0) fun v25x6 =>
    ob (vFa 1 v25x6) fun v26x7 =>
    ob (vLoad v26x7 H) fun v27x8 =>
    ob (vInt .mul a3 v27x8) fun v28x9 =>
    ob (vInt .add v28x9 a4) fun v30x10 =>
    ob (vIx 1 v22x5 v30x10) fun v32x11 =>
    st 1 v32x11 a2 H fun H12 =>
    K (.bool true) H12))
    (ob (vInt .lss a2 (.int .i64 2)) fun v34x13 =>
  cnd v34x13
    (K (.bool false) H)
    (ob (vInt .quo a5 (.int .i64 2)) fun v36x14 =>
  jn (fun σ15 H15 =>
    K (.bool true) H15) fun J15 =>
  lpE (fun Q16 σ16 H16 =>
    ob (vInt .lss (σ16 14) (.int .i64 4)) fun v38x17 =>
    cnd v38x17
      (ob (vInt .sub (σ16 2) (.int .i64 2)) fun v45x18 =>
    ob (vInt .mul (.int .i64 4) v45x18) fun v46x19 =>
    ob (vInt .add v46x19 (σ16 14)) fun v48x20 =>
    ob (vIx 1 (σ16 1) v48x20) fun v49x21 =>
    ob (vLoad v49x21 H16) fun v50x22 =>
    ob (vInt .quo (σ16 14) (.int .i64 2)) fun v53x23 =>
    ob (vInt .mul v53x23 (σ16 13)) fun v55x24 =>
    ob (vInt .add (σ16 3) v55x24) fun v56x25 =>
    ob (vInt .rem (σ16 14) (.int .i64 2)) fun v59x26 =>
    ob (vInt .mul v59x26 (σ16 13)) fun v61x27 =>
    ob (vInt .add (σ16 4) v61x27) fun v62x28 =>
    HT prg I.spec_l05Fill [(σ16 0), (σ16 1), v50x22, v56x25, v62x28, (σ16 13)].toArray H16 fun v64x29 H30 =>
    ob (vUn .not v64x29) fun v65x31 =>
    cnd v65x31
      (Q16 .ret (up (up (up (up (up (up (up (up (up (up (up (up (up (up (up (up (up (up (up (up (up (up (up (up (up (up (up (up σ16 37 (σ16 14)) 38 v38x17) 41 (σ16 0)) 42 (σ16 1)) 43 (σ16 1)) 44 (σ16 2)) 45 v45x18) 46 v46x19) 47 (σ16 14)) 48 v48x20) 49 v49x21) 50 v50x22) 51 (σ16 3)) 52 (σ16 14)) 53 v53x23) 54 (σ16 13)) 55 v55x24) 56 v56x25) 57 (σ16 4)) 58 (σ16 14)) 59 v59x26) 60 (σ16 13)) 61 v61x27) 62 v62x28) 63 (σ16 13)) 64 v64x29) 65 v65x31) 12 (.bool false)) H30)
      (ob (vInt .add (σ16 14) (.int .i64 1)) fun v40x32 =>
    Q16 .normal (up (up (up (up (up (up (up (up (up (up (up (up (up (up (up (up (up (up (up (up (up (up (up (up (up (up (up (up (up (up σ16 37 (σ16 14)) 38 v38x17) 41 (σ16 0)) 42 (σ16 1)) 43 (σ16 1)) 44 (σ16 2)) 45 v45x18) 46 v46x19) 47 (σ16 14)) 48 v48x20) 49 v49x21) 50 v50x22) 51 (σ16 3)) 52 (σ16 14)) 53 v53x23) 54 (σ16 13)) 55 v55x24) 56 v56x25) 57 (σ16 4)) 58 (σ16 14)) 59 v59x26) 60 (σ16 13)) 61 v61x27) 62 v62x28) 63 (σ16 13)) 64 v64x29) 65 v65x31) 39 (σ16 14)) 40 v40x32) 14 v40x32) H30))
      (Q16 (.exit 0) (up (up σ16 37 (σ16 14)) 38 v38x17) H16)) (blkQ 0 (thenQ J15 (retQ prg [(.tmp 12)] K))) (up (up (up (up (up (up (up (up (up (S0 [a0, a1, a2, a3, a4, a5]) 12 (.bool false)) 15 a5) 16 v16x1) 33 a2) 34 v34x13) 35 a5) 36 v36x14) 13 v36x14) 14 (.int .i64 0)) H))
def O.spec_l05Fill : Nat → Nat × List Nat := fun i => bif Nat.beq i 4 then (0, [0, 1, 2, 3, 4, 5, 6, 7, 8, 9, 10, 11, 12, 13, 14]) else (0, [])
theorem R.spec_l05Fill {a0 a1 a2 a3 a4 a5 : Value} {H : Hp} {K : Value → Hp → Prop} (h : F.spec_l05Fill a0 a1 a2 a3 a4 a5 H K) : HT prg I.spec_l05Fill [a0, a1, a2, a3, a4, a5].toArray H K :=
  HT_of_fev O.spec_l05Fill mixed Try.func44 (by kernel_rfl) (Eq.mpr (by kernel_rfl : fev prg O.spec_l05Fill Try.f44 [a0, a1, a2, a3, a4, a5] H K = F.spec_l05Fill a0 a1 a2 a3 a4 a5 H K) h)

/-! loop.example/g01381/spec.FieldOfTree: function 18 -/
def F.spec_FieldOfTree (a0 : Value) (H : Hp) (K : Value → Hp → Prop) : Prop :=
  nw #[(.int .i64 0), (.int .i64 0), (.slice none 0 0)] 28 H fun v2x1 H2 =>
  ob (vLenSl a0) fun v10x3 =>
  ob (vInt .lss v10x3 (.int .i64 4)) fun v12x4 =>
  gop v12x4 false (fun K5 => K5 v10x3 H2) H2 fun v14x6 H7 =>
  gop v12x4 false (fun K8 => ob (vInt .gtr v14x6 (.int .i64 1024)) fun u => K8 u H7) H7 fun v15x9 H10 =>
  ob (vPick v12x4 (.bool true) v15x9) fun v16x11 =>
  gop v16x11 false (fun K12 => K12 v10x3 H10) H10 fun v18x13 H14 =>
  gop v16x11 false (fun K15 => ob (vInt .rem v18x13 (.int .i64 4)) fun u => K15 u H14) H14 fun v19x16 H17 =>
  gop v16x11 false (fun K18 => ob (vInt .neq v19x16 (.int .i64 0)) fun u => K18 u H17) H17 fun v20x19 H20 =>
  ob (vPick v16x11 (.bool true) v20x19) fun v21x21 =>
  cnd v21x21
    (ob (vBuild [(0, 1), (1, 1), (2, 1)] (.agg #[(.int .i64 0), (.int .i64 0), (.slice none 0 0)]) []) fun v22x22 =>
    st 3 v2x1 v22x22 H20 fun H23 =>
    ob (vLoadN 3 v2x1 H23) fun u24 => K (.tuple #[u24, (.bool false)]) H23)
    (jn (fun σ25 H25 =>
    ob (vInt .quo (σ25 4) (.int .i64 4)) fun v40x26 =>
    ob (vInt .add v40x26 (.int .i64 1)) fun v41x27 =>
    HT prg I.spec_l05Size [(σ25 0), v41x27].toArray H25 fun v44x28 H29 =>
    ob (vInt .neq v44x28 (.int .i64 4)) fun v46x30 =>
    gop v46x30 true (fun K31 => K31 v44x28 H29) H29 fun v48x32 H33 =>
    gop v46x30 true (fun K34 => ob (vInt .neq v48x32 (.int .i64 8)) fun u => K34 u H33) H33 fun v49x35 H36 =>
    ob (vPick v46x30 v49x35 (.bool false)) fun v50x37 =>
    gop v50x37 true (fun K38 => K38 v44x28 H36) H36 fun v52x39 H40 =>
    gop v50x37 true (fun K41 => ob (vInt .neq v52x39 (.int .i64 16)) fun u => K41 u H40) H40 fun v53x42 H43 =>
    ob (vPick v50x37 v53x42 (.bool false)) fun v54x44 =>
    cnd v54x44
      (ob (vBuild [(0, 1), (1, 1), (2, 1)] (.agg #[(.int .i64 0), (.int .i64 0), (.slice none 0 0)]) []) fun v55x45 =>
      st 3 (σ25 2) v55x45 H43 fun H46 =>
      ob (vLoadN 3 (σ25 2) H46) fun u47 => K (.tuple #[u47, (.bool false)]) H46)
      (HT prg I.spec_l04New [v44x28, v44x28].toArray H43 fun v58x48 H49 =>
    nw #[(.int .i64 0), (.int .i64 0), (.slice none 0 0)] 28 H49 fun v8x50 H51 =>
    st 3 v8x50 v58x48 H51 fun H52 =>
    HT prg I.spec_l05Fill [v8x50, (σ25 0), v41x27, (.int .i64 0), (.int .i64 0), v44x28].toArray H52 fun v62x53 H54 =>
    ob (vUn .not v62x53) fun v63x55 =>
    gop v63x55 false (fun K56 => HT prg I.spec_l05Tree [v8x50].toArray H54 K56) H54 fun v65x57 H58 =>
    gop v63x55 false (fun K59 => K59 (σ25 0) H58) H58 fun v66x60 H61 =>
    gop v63x55 false (fun K62 => HT prg I.spec_l00Same [v65x57, v66x60].toArray H61 K62) H61 fun v67x63 H64 =>
    gop v63x55 false (fun K65 => ob (vUn .not v67x63) fun u => K65 u H64) H64 fun v68x66 H67 =>
    ob (vPick v63x55 (.bool true) v68x66) fun v69x68 =>
    cnd v69x68
      (ob (vBuild [(0, 1), (1, 1), (2, 1)] (.agg #[(.int .i64 0), (.int .i64 0), (.slice none 0 0)]) []) fun v70x69 =>
      st 3 (σ25 2) v70x69 H67 fun H70 =>
      ob (vLoadN 3 (σ25 2) H70) fun u71 => K (.tuple #[u71, (.bool false)]) H70)
      (ob (vLoadN 3 v8x50 H67) fun v71x72 =>
    st 3 (σ25 2) v71x72 H67 fun H73 =>
    ob (vLoadN 3 (σ25 2) H73) fun u74 => K (.tuple #[u74, (.bool true)]) H73))) fun J25 =>
  ob (vLenSl a0) fun v24x75 =>
  lpE (fun Q76 σ76 H76 =>
    ob (vInt .lss (σ76 25) (σ76 24)) fun v26x77 =>
    cnd v26x77
      (ob (vIx 1 (σ76 0) (σ76 25)) fun v30x78 =>
    ob (vLoad v30x78 H76) fun v31x79 =>
    ob (vInt .quo (σ76 25) (.int .i64 4)) fun v33x80 =>
    ob (vInt .add v33x80 (.int .i64 1)) fun v34x81 =>
    HT prg I.spec_l00In [v31x79, (.int .i64 0), v34x81].toArray H76 fun v35x82 H83 =>
    ob (vUn .not v35x82) fun v36x84 =>
    cnd v36x84
      (ob (vBuild [(0, 1), (1, 1), (2, 1)] (.agg #[(.int .i64 0), (.int .i64 0), (.slice none 0 0)]) []) fun v37x85 =>
      st 3 (σ76 2) v37x85 H83 fun H86 =>
      Q76 .ret (up (up (up (up (up (up (up (up (up (up (up (up (up (up σ76 26 v26x77) 27 (σ76 25)) 5 (σ76 25)) 28 (σ76 0)) 29 (σ76 25)) 30 v30x78) 31 v31x79) 32 (σ76 25)) 33 v33x80) 34 v34x81) 35 v35x82) 36 v36x84) 37 v37x85) 3 (.bool false)) H86)
      (ob (vInt .add (σ76 25) (.int .i64 1)) fun v38x87 =>
    Q76 .normal (up (up (up (up (up (up (up (up (up (up (up (up (up (up σ76 26 v26x77) 27 (σ76 25)) 5 (σ76 25)) 28 (σ76 0)) 29 (σ76 25)) 30 v30x78) 31 v31x79) 32 (σ76 25)) 33 v33x80) 34 v34x81) 35 v35x82) 36 v36x84) 38 v38x87) 25 v38x87) H83))
      (Q76 (.exit 0) (up σ76 26 v26x77) H76)) (blkQ 0 (thenQ J25 (retQ prg [(.cell 2 28), (.tmp 3)] K))) (up (up (up (up (up (up (up (up (up (up (up (up (up (up (up (up (up (up (up (S0 [a0]) 2 v2x1) 3 (.bool false)) 9 a0) 10 v10x3) 4 v10x3) 11 v10x3) 12 v12x4) 13 v12x4) 14 v14x6) 15 v15x9) 16 v16x11) 17 v16x11) 18 v18x13) 19 v19x16) 20 v20x19) 21 v21x21) 23 a0) 24 v24x75) 25 (.int .i64 0)) H20)
def O.spec_FieldOfTree : Nat → Nat × List Nat := fun i => (0, [])
theorem R.spec_FieldOfTree {a0 : Value} {H : Hp} {K : Value → Hp → Prop} (h : F.spec_FieldOfTree a0 H K) : HT prg I.spec_FieldOfTree [a0].toArray H K :=
  HT_of_fev O.spec_FieldOfTree mixed Try.func18 (by kernel_rfl) (Eq.mpr (by kernel_rfl : fev prg O.spec_FieldOfTree Try.f18 [a0] H K = F.spec_FieldOfTree a0 H K) h)

/-! slices.Chunk[[]int64,int64]$1: function 69 -/
def F.slices_Chunk_int64Zint64Z1 (a0 a1 a2 : Value) (H : Hp) (K : Value → Hp → Prop) : Prop :=
  lpE (fun Q1 σ1 H1 =>
    ob (vLoad (σ1 1) H1) fun v7x2 =>
    ob (vLenSl v7x2) fun v8x3 =>
    ob (vInt .lss (σ1 4) v8x3) fun v9x4 =>
    cnd v9x4
      (ob (vLoad (σ1 2) H1) fun v13x5 =>
    ob (vLoad (σ1 1) H1) fun v14x6 =>
    ob (vSl3 1 v14x6 (some (σ1 4)) none none) fun v16x7 =>
    ob (vLenSl v16x7) fun v17x8 =>
    ob (vMx false v13x5 [v17x8]) fun v18x9 =>
    ob (vLoad (σ1 1) H1) fun v20x10 =>
    ob (vInt .add (σ1 4) v18x9) fun v24x11 =>
    ob (vInt .add (σ1 4) v18x9) fun v27x12 =>
    ob (vSl3 1 v20x10 (some (σ1 4)) (some v24x11) (some v27x12)) fun v28x13 =>
    callV prg (σ1 0) [v28x13] H1 fun v29x14 H15 =>
    ob (vUn .not v29x14) fun v30x16 =>
    cnd v30x16
      (Q1 .ret (up (up (up (up (up (up (up (up (up (up (up (up (up (up (up (up (up (up (up (up (up (up (up σ1 6 (σ1 4)) 7 v7x2) 8 v8x3) 9 v9x4) 13 v13x5) 14 v14x6) 15 (σ1 4)) 16 v16x7) 17 v17x8) 18 v18x9) 5 v18x9) 19 (σ1 0)) 20 v20x10) 21 (σ1 4)) 22 (σ1 4)) 23 v18x9) 24 v24x11) 25 (σ1 4)) 26 v18x9) 27 v27x12) 28 v28x13) 29 v29x14) 30 v30x16) H15)
      (ob (vLoad (σ1 2) H15) fun v11x17 =>
    ob (vInt .add (σ1 4) v11x17) fun v12x18 =>
    Q1 .normal (up (up (up (up (up (up (up (up (up (up (up (up (up (up (up (up (up (up (up (up (up (up (up (up (up (up (up σ1 6 (σ1 4)) 7 v7x2) 8 v8x3) 9 v9x4) 13 v13x5) 14 v14x6) 15 (σ1 4)) 16 v16x7) 17 v17x8) 18 v18x9) 5 v18x9) 19 (σ1 0)) 20 v20x10) 21 (σ1 4)) 22 (σ1 4)) 23 v18x9) 24 v24x11) 25 (σ1 4)) 26 v18x9) 27 v27x12) 28 v28x13) 29 v29x14) 30 v30x16) 10 (σ1 4)) 11 v11x17) 12 v12x18) 4 v12x18) H15))
      (Q1 (.exit 0) (up (up (up (up σ1 6 (σ1 4)) 7 v7x2) 8 v8x3) 9 v9x4) H1)) (blkQ 0 (retQ prg [] K)) (up (S0 [a0, a1, a2]) 4 (.int .i64 0)) H
def O.slices_Chunk_int64Zint64Z1 : Nat → Nat × List Nat := fun i => bif Nat.beq i 3 then (0, [0, 1, 2, 3, 4, 5, 6]) else (0, [])
theorem R.slices_Chunk_int64Zint64Z1 {a0 a1 a2 : Value} {H : Hp} {K : Value → Hp → Prop} (h : F.slices_Chunk_int64Zint64Z1 a0 a1 a2 H K) : HT prg I.slices_Chunk_int64Zint64Z1 [a0, a1, a2].toArray H K :=
  HT_of_fev O.slices_Chunk_int64Zint64Z1 mixed Try.func69 (by kernel_rfl) (Eq.mpr (by kernel_rfl : fev prg O.slices_Chunk_int64Zint64Z1 Try.f69 [a0, a1, a2] H K = F.slices_Chunk_int64Zint64Z1 a0 a1 a2 H K) h)

/-! slices.Chunk[[]int64,int64]: function 46 -/
def F.slices_Chunk_int64Zint64 (a0 a1 : Value) (H : Hp) (K : Value → Hp → Prop) : Prop :=
  nw (a0 : Value).cells 22 H fun v2x1 H2 =>
  nw (a1 : Value).cells 3 H2 fun v3x3 H4 =>
  ob (vLoad v3x3 H4) fun v5x5 =>
  ob (vInt .lss v5x5 (.int .i64 1)) fun v6x6 =>
  cnd v6x6
    (ob (val prg (Instr.makeInterface 9 (.string ⟨#[99, 97, 110, 110, 111, 116, 32, 98, 101, 32, 108, 101, 115, 115, 32, 116, 104, 97, 110, 32, 49]⟩)) H4) fun v7x7 =>
    hp prg (do pure (Next.value (← Instr.panic v7x7))) H4 (nextH prg (fun _ H8 =>
    K (.func (.func I.slices_Chunk_int64Zint64Z1) #[] #[v2x1, v3x3]) H8)))
    (K (.func (.func I.slices_Chunk_int64Zint64Z1) #[] #[v2x1, v3x3]) H4)
def O.slices_Chunk_int64Zint64 : Nat → Nat × List Nat := fun i => (0, [])
theorem R.slices_Chunk_int64Zint64 {a0 a1 : Value} {H : Hp} {K : Value → Hp → Prop} (h : F.slices_Chunk_int64Zint64 a0 a1 H K) : HT prg I.slices_Chunk_int64Zint64 [a0, a1].toArray H K :=
  HT_of_fev O.slices_Chunk_int64Zint64 mixed Try.func46 (by kernel_rfl) (Eq.mpr (by kernel_rfl : fev prg O.slices_Chunk_int64Zint64 Try.f46 [a0, a1] H K = F.slices_Chunk_int64Zint64 a0 a1 H K) h)

/-! loop.example/g01381/impl.FieldOfTree$1: function 49 -/
def F.impl_FieldOfTree_1 (a0 a1 a2 a3 a4 : Value) (H : Hp) (K : Value → Hp → Prop) : Prop :=
  ob (vLoad a2 H) fun v8x1 =>
  ob (vLoad a3 H) fun v9x2 =>
  ob (vLoad a4 H) fun v11x3 =>
  ob (vInt .quo a0 v11x3) fun v12x4 =>
  ob (vInt .mul v12x4 (.int .i64 2)) fun v13x5 =>
  ob (vLoad a4 H) fun v15x6 =>
  ob (vInt .quo a1 v15x6) fun v16x7 =>
  ob (vInt .add v13x5 v16x7) fun v17x8 =>
  ob (vIx 1 v9x2 v17x8) fun v18x9 =>
  ob (vLoad v18x9 H) fun v19x10 =>
  ob (vIx 3 v8x1 v19x10) fun v20x11 =>
  ob (vLoadN 3 v20x11 H) fun v21x12 =>
  ob (vLoad a4 H) fun v23x13 =>
  ob (vInt .rem a0 v23x13) fun v24x14 =>
  ob (vLoad a4 H) fun v26x15 =>
  ob (vInt .rem a1 v26x15) fun v27x16 =>
  HT prg I.impl_Field_at [v21x12, v24x14, v27x16].toArray H fun v28x17 H18 =>
  Le H H18 ∧ (K v28x17 H18)
def O.impl_FieldOfTree_1 : Nat → Nat × List Nat := fun i => bif Nat.beq i 1 then (0, [0, 1, 2, 3, 4, 5, 6, 7, 8, 9, 10, 11, 12, 13, 14, 15, 16, 17, 18, 19, 20, 21]) else (0, [])
theorem R.impl_FieldOfTree_1 {a0 a1 a2 a3 a4 : Value} {H : Hp} {K : Value → Hp → Prop} (h : F.impl_FieldOfTree_1 a0 a1 a2 a3 a4 H K) : HT prg I.impl_FieldOfTree_1 [a0, a1, a2, a3, a4].toArray H K :=
  HT_of_fev O.impl_FieldOfTree_1 mixed Try.func49 (by kernel_rfl) (Eq.mpr (by kernel_rfl : fev prg O.impl_FieldOfTree_1 Try.f49 [a0, a1, a2, a3, a4] H K = F.impl_FieldOfTree_1 a0 a1 a2 a3 a4 H K) h)

/-! slices.Equal[[]int64,int64]: function 51 -/
def F.slices_Equal_int64Zint64 (a0 a1 : Value) (H : Hp) (K : Value → Hp → Prop) : Prop :=
  ob (vLenSl a0) fun v7x1 =>
  ob (vLenSl a1) fun v9x2 =>
  ob (vInt .neq v7x1 v9x2) fun v10x3 =>
  cnd v10x3
    (K (.bool false) H)
    (jn (fun σ4 H4 =>
    K (.bool true) H4) fun J4 =>
  ob (vLenSl a0) fun v12x5 =>
  lpE (fun Q6 σ6 H6 =>
    ob (vInt .lss (σ6 13) (σ6 12)) fun v14x7 =>
    cnd v14x7
      (ob (vIx 1 (σ6 0) (σ6 13)) fun v18x8 =>
    ob (vLoad v18x8 H6) fun v19x9 =>
    ob (vIx 1 (σ6 1) (σ6 13)) fun v22x10 =>
    ob (vLoad v22x10 H6) fun v23x11 =>
    ob (vInt .neq v19x9 v23x11) fun v24x12 =>
    cnd v24x12
      (Q6 .ret (up (up (up (up (up (up (up (up (up (up (up (up (up σ6 14 v14x7) 15 (σ6 13)) 5 (σ6 13)) 16 (σ6 0)) 17 (σ6 13)) 18 v18x8) 19 v19x9) 20 (σ6 1)) 21 (σ6 13)) 22 v22x10) 23 v23x11) 24 v24x12) 4 (.bool false)) H6)
      (ob (vInt .add (σ6 13) (.int .i64 1)) fun v25x13 =>
    Q6 .normal (up (up (up (up (up (up (up (up (up (up (up (up (up (up σ6 14 v14x7) 15 (σ6 13)) 5 (σ6 13)) 16 (σ6 0)) 17 (σ6 13)) 18 v18x8) 19 v19x9) 20 (σ6 1)) 21 (σ6 13)) 22 v22x10) 23 v23x11) 24 v24x12) 25 v25x13) 13 v25x13) H6))
      (Q6 (.exit 0) (up σ6 14 v14x7) H6)) (blkQ 0 (thenQ J4 (retQ prg [(.tmp 4)] K))) (up (up (up (up (up (up (up (up (up (S0 [a0, a1]) 4 (.bool false)) 6 a0) 7 v7x1) 8 a1) 9 v9x2) 10 v10x3) 11 a0) 12 v12x5) 13 (.int .i64 0)) H)
def O.slices_Equal_int64Zint64 : Nat → Nat × List Nat := fun i => bif Nat.beq i 6 then (0, [0, 1, 2, 3, 4, 5, 6, 7, 8]) else (0, [])
theorem R.slices_Equal_int64Zint64 {a0 a1 : Value} {H : Hp} {K : Value → Hp → Prop} (h : F.slices_Equal_int64Zint64 a0 a1 H K) : HT prg I.slices_Equal_int64Zint64 [a0, a1].toArray H K :=
  HT_of_fev O.slices_Equal_int64Zint64 mixed Try.func51 (by kernel_rfl) (Eq.mpr (by kernel_rfl : fev prg O.slices_Equal_int64Zint64 Try.f51 [a0, a1] H K = F.slices_Equal_int64Zint64 a0 a1 H K) h)

/-! loop.example/g01381/laws.heldField: function 21 -/
def F.laws_heldField (a0 a1 : Value) (H : Hp) (K : Value → Hp → Prop) : Prop :=
  nw (a0 : Value).cells 28 H fun v2x1 H2 =>
  ob (vFa 2 v2x1) fun v5x3 =>
  ob (vLoad v5x3 H2) fun v6x4 =>
  HT prg I.laws_heldInt64S [v6x4, a1].toArray H2 fun v8x5 H6 =>
  ob (vInt .lss v8x5 (.int .i64 0)) fun v10x7 =>
  cnd v10x7
    (K (.int .i64 (-1)) H6)
    (K v8x5 H6)
def O.laws_heldField : Nat → Nat × List Nat := fun i => (0, [])
theorem R.laws_heldField {a0 a1 : Value} {H : Hp} {K : Value → Hp → Prop} (h : F.laws_heldField a0 a1 H K) : HT prg I.laws_heldField [a0, a1].toArray H K :=
  HT_of_fev O.laws_heldField mixed Try.func21 (by kernel_rfl) (Eq.mpr (by kernel_rfl : fev prg O.laws_heldField Try.f21 [a0, a1] H K = F.laws_heldField a0 a1 H K) h)

/-! loop.example/g01381/laws.FnExactFieldOfTree: function 5 -/
def F.laws_FnExactFieldOfTree (a0 : Value) (H : Hp) (K : Value → Hp → Prop) : Prop :=
  ob (vLenSl a0) fun v14x1 =>
  ob (vInt .gtr v14x1 (.int .i64 1048576)) fun v15x2 =>
  cnd v15x2
    (K (.bool true) H)
    (HT prg I.laws_toInt64S [a0].toArray H fun v18x3 H4 =>
  HT prg I.spec_FieldOfTree [v18x3].toArray H4 fun v19x5 H6 =>
  ob (vExt v19x5 0) fun v20x7 =>
  ob (vExt v19x5 1) fun v21x8 =>
  nw #[(.int .i64 0), (.int .i64 0), (.slice none 0 0)] 28 H6 fun v3x9 H10 =>
  st 3 v3x9 v20x7 H10 fun H11 =>
  HT prg I.laws_toInt64S [a0].toArray H11 fun v23x12 H13 =>
  HT prg I.impl_FieldOfTree [v23x12].toArray H13 fun v26x14 H15 =>
  ob (vExt v26x14 0) fun v27x16 =>
  ob (vExt v26x14 1) fun v28x17 =>
  nw #[(.int .i64 0), (.int .i64 0), (.slice none 0 0)] 28 H15 fun v6x18 H19 =>
  st 3 v6x18 v27x16 H19 fun H20 =>
  ob (vLoadN 3 v6x18 H20) fun v29x21 =>
  ob (vLoadN 3 v3x9 H20) fun v30x22 =>
  HT prg I.laws_eqField [v29x21, v30x22].toArray H20 fun v31x23 H24 =>
  ob (vUn .not v31x23) fun v32x25 =>
  gop v32x25 false (fun K26 => K26 v28x17 H24) H24 fun v34x27 H28 =>
  gop v32x25 false (fun K29 => K29 v21x8 H28) H28 fun v35x30 H31 =>
  gop v32x25 false (fun K32 => ob (vBool .neq v34x27 v35x30) fun u => K32 u H31) H31 fun v36x33 H34 =>
  ob (vPick v32x25 (.bool true) v36x33) fun v37x35 =>
  cnd v37x35
    (K (.bool false) H34)
    (HT prg I.laws_toInt64S [a0].toArray H34 fun v40x36 H37 =>
  HT prg I.laws_eqInt64S [v23x12, v40x36].toArray H37 fun v41x38 H39 =>
  ob (vUn .not v41x38) fun v42x40 =>
  cnd v42x40
    (K (.bool false) H39)
    (HT prg I.laws_markInt64S [v23x12, (.int .i64 1)].toArray H39 fun v45x41 H42 =>
  ob (vInt .lss v45x41 (.int .i64 0)) fun v47x43 =>
  gop v47x43 false (fun K44 => ob (vLoadN 3 v6x18 H42) fun u => K44 u H42) H42 fun v49x45 H46 =>
  gop v47x43 false (fun K47 => ob (vLoadN 3 v3x9 H46) fun u => K47 u H46) H46 fun v50x48 H49 =>
  gop v47x43 false (fun K50 => HT prg I.laws_eqField [v49x45, v50x48].toArray H49 K50) H49 fun v51x51 H52 =>
  gop v47x43 false (fun K53 => ob (vUn .not v51x51) fun u => K53 u H52) H52 fun v52x54 H55 =>
  ob (vPick v47x43 (.bool true) v52x54) fun v53x56 =>
  gop v53x56 false (fun K57 => K57 v28x17 H55) H55 fun v55x58 H59 =>
  gop v53x56 false (fun K60 => K60 v21x8 H59) H59 fun v56x61 H62 =>
  gop v53x56 false (fun K63 => ob (vBool .neq v55x58 v56x61) fun u => K63 u H62) H62 fun v57x64 H65 =>
  ob (vPick v53x56 (.bool true) v57x64) fun v58x66 =>
  cnd v58x66
    (K (.bool false) H65)
    (ob (vLoadN 3 v6x18 H65) fun v59x67 =>
  HT prg I.laws_markField [v59x67, (.int .i64 1)].toArray H65 fun v61x68 H69 =>
  ob (vLoadN 3 v6x18 H69) fun v62x70 =>
  HT prg I.laws_heldField [v62x70, (.int .i64 1)].toArray H69 fun v64x71 H72 =>
  ob (vInt .lss v64x71 (.int .i64 0)) fun v66x73 =>
  cnd v66x73
    (K (.bool false) H72)
    (ob (vInt .neq v64x71 v61x68) fun v69x74 =>
  cnd v69x74
    (K (.bool false) H72)
    (HT prg I.laws_toInt64S [a0].toArray H72 fun v72x75 H76 =>
  HT prg I.impl_FieldOfTree [v72x75].toArray H76 fun v73x77 H78 =>
  ob (vExt v73x77 0) fun v74x79 =>
  ob (vExt v73x77 1) fun v75x80 =>
  nw #[(.int .i64 0), (.int .i64 0), (.slice none 0 0)] 28 H78 fun v11x81 H82 =>
  st 3 v11x81 v74x79 H82 fun H83 =>
  ob (vLoadN 3 v11x81 H83) fun v76x84 =>
  ob (vLoadN 3 v3x9 H83) fun v77x85 =>
  HT prg I.laws_eqField [v76x84, v77x85].toArray H83 fun v78x86 H87 =>
  ob (vUn .not v78x86) fun v79x88 =>
  gop v79x88 false (fun K89 => K89 v75x80 H87) H87 fun v81x90 H91 =>
  gop v79x88 false (fun K92 => K92 v21x8 H91) H91 fun v82x93 H94 =>
  gop v79x88 false (fun K95 => ob (vBool .neq v81x90 v82x93) fun u => K95 u H94) H94 fun v83x96 H97 =>
  ob (vPick v79x88 (.bool true) v83x96) fun v84x98 =>
  cnd v84x98
    (K (.bool false) H97)
    (ob (vLoadN 3 v6x18 H97) fun v85x99 =>
  HT prg I.laws_heldField [v85x99, (.int .i64 1)].toArray H97 fun v87x100 H101 =>
  ob (vInt .lss v87x100 (.int .i64 0)) fun v89x102 =>
  cnd v89x102
    (K (.bool false) H101)
    (ob (vInt .neq v87x100 v61x68) fun v92x103 =>
  cnd v92x103
    (K (.bool false) H101)
    (K (.bool true) H101)))))))))
def O.laws_FnExactFieldOfTree : Nat → Nat × List Nat := fun i => (0, [])
theorem R.laws_FnExactFieldOfTree {a0 : Value} {H : Hp} {K : Value → Hp → Prop} (h : F.laws_FnExactFieldOfTree a0 H K) : HT prg I.laws_FnExactFieldOfTree [a0].toArray H K :=
  HT_of_fev O.laws_FnExactFieldOfTree mixed Try.func5 (by kernel_rfl) (Eq.mpr (by kernel_rfl : fev prg O.laws_FnExactFieldOfTree Try.f5 [a0] H K = F.laws_FnExactFieldOfTree a0 H K) h)

/-! loop.example/g01381/laws.b10Long: function 22 -/
def F.laws_b10Long (a0 a1 : Value) (H : Hp) (K : Value → Hp → Prop) : Prop :=
  ob (vLenSl a0) fun v6x1 =>
  ob (vInt .gtr v6x1 (.int .i64 1048576)) fun v7x2 =>
  gop v7x2 false (fun K3 => K3 a1 H) H fun v9x4 H5 =>
  gop v7x2 false (fun K6 => ob (vLenSl v9x4) fun u => K6 u H5) H5 fun v10x7 H8 =>
  gop v7x2 false (fun K9 => ob (vInt .gtr v10x7 (.int .i64 1048576)) fun u => K9 u H8) H8 fun v11x10 H11 =>
  ob (vPick v7x2 (.bool true) v11x10) fun v12x12 =>
  K v12x12 H11
def O.laws_b10Long : Nat → Nat × List Nat := fun i => (0, [])
theorem R.laws_b10Long {a0 a1 : Value} {H : Hp} {K : Value → Hp → Prop} (h : F.laws_b10Long a0 a1 H K) : HT prg I.laws_b10Long [a0, a1].toArray H K :=
  HT_of_fev O.laws_b10Long mixed Try.func22 (by kernel_rfl) (Eq.mpr (by kernel_rfl : fev prg O.laws_b10Long Try.f22 [a0, a1] H K = F.laws_b10Long a0 a1 H K) h)

/-! loop.example/g01381/spec.l00From: function 52 -/
def F.spec_l00From (a0 : Value) (H : Hp) (K : Value → Hp → Prop) : Prop :=
  ob (vBuild [(0, 1), (1, 1), (2, 1)] (.agg #[(.slice none 0 0), (.int .i64 0), (.int .u64 0)]) [(0, a0)]) fun v4x1 =>
  nw (v4x1 : Value).cells 90 H fun v5x2 H3 =>
  K v5x2 H3
def O.spec_l00From : Nat → Nat × List Nat := fun i => (0, [])
theorem R.spec_l00From {a0 : Value} {H : Hp} {K : Value → Hp → Prop} (h : F.spec_l00From a0 H K) : HT prg I.spec_l00From [a0].toArray H K :=
  HT_of_fev O.spec_l00From mixed Try.func52 (by kernel_rfl) (Eq.mpr (by kernel_rfl : fev prg O.spec_l00From Try.f52 [a0] H K = F.spec_l00From a0 H K) h)

/-! (*loop.example/g01381/spec.l00Src).next: function 81 -/
def F.pspec_l00Src_next (a0 : Value) (H : Hp) (K : Value → Hp → Prop) : Prop :=
  jn (fun σ1 H1 =>
    ob (vNilC (σ1 0)) fun v26x2 =>
    ob (vFa 1 v26x2) fun v27x3 =>
    ob (vLoad v27x3 H1) fun v28x4 =>
    ob (vInt .add v28x4 (.int .i64 1)) fun v29x5 =>
    ob (vNilC (σ1 0)) fun v30x6 =>
    ob (vFa 1 v30x6) fun v31x7 =>
    st 1 v31x7 v29x5 H1 fun H8 =>
    ob (vNilC (σ1 0)) fun v34x9 =>
    ob (vFa 2 v34x9) fun v35x10 =>
    ob (vLoad v35x10 H8) fun v36x11 =>
    ob (vInt .mul v36x11 (.int .u64 6364136223846793005)) fun v37x12 =>
    ob (vCI .u64 (σ1 3)) fun v39x13 =>
    ob (vInt .add v37x12 v39x13) fun v40x14 =>
    ob (vInt .add v40x14 (.int .u64 1442695040888963407)) fun v41x15 =>
    ob (vNilC (σ1 0)) fun v42x16 =>
    ob (vFa 2 v42x16) fun v43x17 =>
    st 1 v43x17 v41x15 H8 fun H18 =>
    ob (vNilC (σ1 0)) fun v45x19 =>
    ob (vFa 1 v45x19) fun v46x20 =>
    ob (vLoad v46x20 H18) fun v47x21 =>
    ob (vNilC (σ1 0)) fun v49x22 =>
    ob (vFa 0 v49x22) fun v50x23 =>
    ob (vLoad v50x23 H18) fun v51x24 =>
    ob (vLenSl v51x24) fun v52x25 =>
    ob (vInt .leq v47x21 v52x25) fun v53x26 =>
    cnd v53x26
      (K (σ1 3) H18)
      (ob (vNilC (σ1 0)) fun v56x27 =>
    ob (vFa 2 v56x27) fun v57x28 =>
    ob (vLoad v57x28 H18) fun v58x29 =>
    ob (vInt .shr v58x29 (.int .u64 40)) fun v59x30 =>
    ob (vInt .and v59x30 (.int .u64 255)) fun v60x31 =>
    ob (vCI .i64 v60x31) fun v61x32 =>
    K v61x32 H18)) fun J1 =>
  ob (vNilC a0) fun v5x33 =>
  ob (vFa 1 v5x33) fun v6x34 =>
  ob (vLoad v6x34 H) fun v7x35 =>
  ob (vNilC a0) fun v9x36 =>
  ob (vFa 0 v9x36) fun v10x37 =>
  ob (vLoad v10x37 H) fun v11x38 =>
  ob (vLenSl v11x38) fun v12x39 =>
  ob (vInt .lss v7x35 v12x39) fun v13x40 =>
  cnd v13x40
    (ob (vNilC a0) fun v15x41 =>
    ob (vFa 0 v15x41) fun v16x42 =>
    ob (vLoad v16x42 H) fun v17x43 =>
    ob (vNilC a0) fun v19x44 =>
    ob (vFa 1 v19x44) fun v20x45 =>
    ob (vLoad v20x45 H) fun v21x46 =>
    ob (vIx 1 v17x43 v21x46) fun v22x47 =>
    ob (vLoad v22x47 H) fun v23x48 =>
    ob (vCI .i64 v23x48) fun v24x49 =>
    J1 (up (up (up (up (up (up (up (up (up (up (up (up (up (up (up (up (up (up (up (up (up (up (up (up (S0 [a0]) 2 (.int .i64 0)) 3 (.int .i64 0)) 4 a0) 5 v5x33) 6 v6x34) 7 v7x35) 8 a0) 9 v9x36) 10 v10x37) 11 v11x38) 12 v12x39) 13 v13x40) 14 a0) 15 v15x41) 16 v16x42) 17 v17x43) 18 a0) 19 v19x44) 20 v20x45) 21 v21x46) 22 v22x47) 23 v23x48) 24 v24x49) 3 v24x49) H)
    (J1 (up (up (up (up (up (up (up (up (up (up (up (up (S0 [a0]) 2 (.int .i64 0)) 3 (.int .i64 0)) 4 a0) 5 v5x33) 6 v6x34) 7 v7x35) 8 a0) 9 v9x36) 10 v10x37) 11 v11x38) 12 v12x39) 13 v13x40) H)
def O.pspec_l00Src_next : Nat → Nat × List Nat := fun i => bif Nat.beq i 6 then (0, [0, 1, 2, 3, 4, 5, 6, 7, 8, 9]) else bif Nat.beq i 2 then (0, [0, 1, 2, 3, 4, 5, 6, 7, 8, 9]) else bif Nat.beq i 3 then (0, [0, 1, 2, 3, 4, 5, 6, 7, 8, 9, 10, 11]) else (0, [])
theorem R.pspec_l00Src_next {a0 : Value} {H : Hp} {K : Value → Hp → Prop} (h : F.pspec_l00Src_next a0 H K) : HT prg I.pspec_l00Src_next [a0].toArray H K :=
  HT_of_fev O.pspec_l00Src_next mixed Try.func81 (by kernel_rfl) (Eq.mpr (by kernel_rfl : fev prg O.pspec_l00Src_next Try.f81 [a0] H K = F.pspec_l00Src_next a0 H K) h)

/-! (*loop.example/g01381/spec.l00Src).pick: function 70 -/
def F.pspec_l00Src_pick (a0 a1 : Value) (H : Hp) (K : Value → Hp → Prop) : Prop :=
  ob (vInt .leq a1 (.int .i64 1)) fun v7x1 =>
  cnd v7x1
    (K (.int .i64 0) H)
    (HT prg I.pspec_l00Src_next [a0].toArray H fun v9x2 H3 =>
  ob (vInt .gtr a1 (.int .i64 200)) fun v11x4 =>
  cnd v11x4
    (ob (vInt .mul v9x2 (.int .i64 256)) fun v13x5 =>
    HT prg I.pspec_l00Src_next [a0].toArray H3 fun v15x6 H7 =>
    ob (vInt .add v13x5 v15x6) fun v16x8 =>
    ob (vInt .rem v16x8 a1) fun v19x9 =>
  K v19x9 H7)
    (ob (vInt .rem v9x2 a1) fun v19x10 =>
  K v19x10 H3))
def O.pspec_l00Src_pick : Nat → Nat × List Nat := fun i => (0, [])
theorem R.pspec_l00Src_pick {a0 a1 : Value} {H : Hp} {K : Value → Hp → Prop} (h : F.pspec_l00Src_pick a0 a1 H K) : HT prg I.pspec_l00Src_pick [a0, a1].toArray H K :=
  HT_of_fev O.pspec_l00Src_pick mixed Try.func70 (by kernel_rfl) (Eq.mpr (by kernel_rfl : fev prg O.pspec_l00Src_pick Try.f70 [a0, a1] H K = F.pspec_l00Src_pick a0 a1 H K) h)

/-! (*loop.example/g01381/spec.l00Src).one: function 53 -/
def F.pspec_l00Src_one (a0 a1 : Value) (H : Hp) (K : Value → Hp → Prop) : Prop :=
  HT prg I.pspec_l00Src_pick [a0, a1].toArray H fun v7x1 H2 =>
  ob (vInt .eql v7x1 (.int .i64 0)) fun v8x3 =>
  K v8x3 H2
def O.pspec_l00Src_one : Nat → Nat × List Nat := fun i => (0, [])
theorem R.pspec_l00Src_one {a0 a1 : Value} {H : Hp} {K : Value → Hp → Prop} (h : F.pspec_l00Src_one a0 a1 H K) : HT prg I.pspec_l00Src_one [a0, a1].toArray H K :=
  HT_of_fev O.pspec_l00Src_one mixed Try.func53 (by kernel_rfl) (Eq.mpr (by kernel_rfl : fev prg O.pspec_l00Src_one Try.f53 [a0, a1] H K = F.pspec_l00Src_one a0 a1 H K) h)

/-! loop.example/g01381/spec.l04DrawLifeOk: function 54 -/
def F.spec_l04DrawLifeOk (a0 : Value) (H : Hp) (K : Value → Hp → Prop) : Prop :=
  nw #[(.slice none 0 0), (.slice none 0 0)] 42 H fun v2x1 H2 =>
  bS 1 1 #[(.int .i64 0)] 2 [(0, (.int .i64 3))] H2 fun v5x3 H4 =>
  bS 1 2 #[(.int .i64 0)] 2 [(0, (.int .i64 2)), (1, (.int .i64 3))] H4 fun v6x5 H6 =>
  ob (vBuild [(0, 1), (1, 1)] (.agg #[(.slice none 0 0), (.slice none 0 0)]) [(0, v5x3), (1, v6x5)]) fun v7x7 =>
  nw #[(.slice none 0 0), (.slice none 0 0)] 42 H6 fun v3x8 H9 =>
  st 2 v3x8 v7x7 H9 fun H10 =>
  jn (fun σ11 H11 =>
    ob (vLoadN 2 (σ11 3) H11) fun v33x12 =>
    st 2 (σ11 2) v33x12 H11 fun H13 =>
    ob (vLoadN 2 (σ11 2) H13) fun u14 => K u14 H13) fun J11 =>
  HT prg I.pspec_l00Src_one [a0, (.int .i64 2)].toArray H10 fun v9x15 H16 =>
  cnd v9x15
    (bS 1 0 #[(.int .i64 0)] 2 [] H16 fun v10x17 H18 =>
    bS 1 0 #[(.int .i64 0)] 2 [] H18 fun v11x19 H20 =>
    ob (vBuild [(0, 1), (1, 1)] (.agg #[(.slice none 0 0), (.slice none 0 0)]) [(0, v10x17), (1, v11x19)]) fun v12x21 =>
    st 2 v3x8 v12x21 H20 fun H22 =>
    lpE (fun Q23 σ23 H23 =>
      ob (vInt .lss (σ23 4) (.int .i64 9)) fun v14x24 =>
      cnd v14x24
        (HT prg I.pspec_l00Src_one [(σ23 0), (.int .i64 3)].toArray H23 fun v18x25 H26 =>
      cnd v18x25
        (ob (vFa 0 (σ23 3)) fun v19x27 =>
        ob (vLoad v19x27 H26) fun v20x28 =>
        bS 1 1 #[(.int .i64 0)] 2 [(0, (σ23 4))] H26 fun v22x29 H30 =>
        apd 1 8 #[(.int .i64 0)] 2 v20x28 v22x29 H30 fun v23x31 H32 =>
        ob (vFa 0 (σ23 3)) fun v24x33 =>
        st 1 v24x33 v23x31 H32 fun H34 =>
        HT prg I.pspec_l00Src_one [(σ23 0), (.int .i64 3)].toArray H34 fun v26x35 H36 =>
      cnd v26x35
        (ob (vFa 1 (σ23 3)) fun v27x37 =>
        ob (vLoad v27x37 H36) fun v28x38 =>
        bS 1 1 #[(.int .i64 0)] 2 [(0, (σ23 4))] H36 fun v30x39 H40 =>
        apd 1 8 #[(.int .i64 0)] 2 v28x38 v30x39 H40 fun v31x41 H42 =>
        ob (vFa 1 (σ23 3)) fun v32x43 =>
        st 1 v32x43 v31x41 H42 fun H44 =>
        ob (vInt .add (σ23 4) (.int .i64 1)) fun v16x45 =>
      Q23 .normal (up (up (up (up (up (up (up (up (up (up (up (up (up (up (up (up (up (up (up (up (up σ23 13 (σ23 4)) 14 v14x24) 17 (σ23 0)) 18 v18x25) 19 v19x27) 20 v20x28) 21 (σ23 4)) 22 v22x29) 23 v23x31) 24 v24x33) 25 (σ23 0)) 26 v26x35) 27 v27x37) 28 v28x38) 29 (σ23 4)) 30 v30x39) 31 v31x41) 32 v32x43) 15 (σ23 4)) 16 v16x45) 4 v16x45) H44)
        (ob (vInt .add (σ23 4) (.int .i64 1)) fun v16x46 =>
      Q23 .normal (up (up (up (up (up (up (up (up (up (up (up (up (up (up (up σ23 13 (σ23 4)) 14 v14x24) 17 (σ23 0)) 18 v18x25) 19 v19x27) 20 v20x28) 21 (σ23 4)) 22 v22x29) 23 v23x31) 24 v24x33) 25 (σ23 0)) 26 v26x35) 15 (σ23 4)) 16 v16x46) 4 v16x46) H36))
        (HT prg I.pspec_l00Src_one [(σ23 0), (.int .i64 3)].toArray H26 fun v26x47 H48 =>
      cnd v26x47
        (ob (vFa 1 (σ23 3)) fun v27x49 =>
        ob (vLoad v27x49 H48) fun v28x50 =>
        bS 1 1 #[(.int .i64 0)] 2 [(0, (σ23 4))] H48 fun v30x51 H52 =>
        apd 1 8 #[(.int .i64 0)] 2 v28x50 v30x51 H52 fun v31x53 H54 =>
        ob (vFa 1 (σ23 3)) fun v32x55 =>
        st 1 v32x55 v31x53 H54 fun H56 =>
        ob (vInt .add (σ23 4) (.int .i64 1)) fun v16x57 =>
      Q23 .normal (up (up (up (up (up (up (up (up (up (up (up (up (up (up (up σ23 13 (σ23 4)) 14 v14x24) 17 (σ23 0)) 18 v18x25) 25 (σ23 0)) 26 v26x47) 27 v27x49) 28 v28x50) 29 (σ23 4)) 30 v30x51) 31 v31x53) 32 v32x55) 15 (σ23 4)) 16 v16x57) 4 v16x57) H56)
        (ob (vInt .add (σ23 4) (.int .i64 1)) fun v16x58 =>
      Q23 .normal (up (up (up (up (up (up (up (up (up σ23 13 (σ23 4)) 14 v14x24) 17 (σ23 0)) 18 v18x25) 25 (σ23 0)) 26 v26x47) 15 (σ23 4)) 16 v16x58) 4 v16x58) H48)))
        (Q23 (.exit 0) (up (up σ23 13 (σ23 4)) 14 v14x24) H23)) (blkQ 0 (thenQ J11 (retQ prg [(.cell 2 42)] K))) (up (up (up (up (up (up (up (up (up (up (up (S0 [a0]) 2 v2x1) 5 v5x3) 6 v6x5) 7 v7x7) 3 v3x8) 8 a0) 9 v9x15) 10 v10x17) 11 v11x19) 12 v12x21) 4 (.int .i64 1)) H22)
    (J11 (up (up (up (up (up (up (up (S0 [a0]) 2 v2x1) 5 v5x3) 6 v6x5) 7 v7x7) 3 v3x8) 8 a0) 9 v9x15) H16)
def O.spec_l04DrawLifeOk : Nat → Nat × List Nat := fun i => (0, [])
theorem R.spec_l04DrawLifeOk {a0 : Value} {H : Hp} {K : Value → Hp → Prop} (h : F.spec_l04DrawLifeOk a0 H K) : HT prg I.spec_l04DrawLifeOk [a0].toArray H K :=
  HT_of_fev O.spec_l04DrawLifeOk mixed Try.func54 (by kernel_rfl) (Eq.mpr (by kernel_rfl : fev prg O.spec_l04DrawLifeOk Try.f54 [a0] H K = F.spec_l04DrawLifeOk a0 H K) h)

/-! loop.example/g01381/spec.B10Life: function 23 -/
def F.spec_B10Life (a0 : Value) (H : Hp) (K : Value → Hp → Prop) : Prop :=
  nw #[(.slice none 0 0), (.slice none 0 0)] 42 H fun v2x1 H2 =>
  HT prg I.spec_l00From [a0].toArray H2 fun v5x3 H4 =>
  HT prg I.pspec_l00Src_one [v5x3, (.int .i64 2)].toArray H4 fun v7x5 H6 =>
  cnd v7x5
    (bS 1 1 #[(.int .i64 0)] 2 [(0, (.int .i64 3))] H6 fun v8x7 H8 =>
    bS 1 2 #[(.int .i64 0)] 2 [(0, (.int .i64 2)), (1, (.int .i64 3))] H8 fun v9x9 H10 =>
    ob (vBuild [(0, 1), (1, 1)] (.agg #[(.slice none 0 0), (.slice none 0 0)]) [(0, v8x7), (1, v9x9)]) fun v10x11 =>
    st 2 v2x1 v10x11 H10 fun H12 =>
    ob (vLoadN 2 v2x1 H12) fun u13 => K u13 H12)
    (HT prg I.spec_l04DrawLifeOk [v5x3].toArray H6 fun v12x14 H15 =>
  st 2 v2x1 v12x14 H15 fun H16 =>
  ob (vLoadN 2 v2x1 H16) fun u17 => K u17 H16)
def O.spec_B10Life : Nat → Nat × List Nat := fun i => (0, [])
theorem R.spec_B10Life {a0 : Value} {H : Hp} {K : Value → Hp → Prop} (h : F.spec_B10Life a0 H K) : HT prg I.spec_B10Life [a0].toArray H K :=
  HT_of_fev O.spec_B10Life mixed Try.func23 (by kernel_rfl) (Eq.mpr (by kernel_rfl : fev prg O.spec_B10Life Try.f23 [a0] H K = F.spec_B10Life a0 H K) h)

/-! loop.example/g01381/laws.b10At: function 24 -/
def F.laws_b10At (a0 a1 a2 : Value) (H : Hp) (K : Value → Hp → Prop) : Prop :=
  ob (vInt .leq a2 (.int .i64 1)) fun v8x1 =>
  cnd v8x1
    (K (.int .i64 0) H)
    (ob (vLenSl a0) fun v11x2 =>
  ob (vInt .lss a1 v11x2) fun v12x3 =>
  cnd v12x3
    (ob (vIx 1 a0 a1) fun v15x4 =>
    ob (vLoad v15x4 H) fun v16x5 =>
    ob (vCI .i64 v16x5) fun v17x6 =>
    ob (vInt .rem v17x6 a2) fun v19x7 =>
    K v19x7 H)
    (ob (vInt .mul a1 (.int .i64 37)) fun v21x8 =>
  ob (vInt .add v21x8 (.int .i64 11)) fun v22x9 =>
  ob (vInt .rem v22x9 a2) fun v24x10 =>
  K v24x10 H))
def O.laws_b10At : Nat → Nat × List Nat := fun i => (0, [])
theorem R.laws_b10At {a0 a1 a2 : Value} {H : Hp} {K : Value → Hp → Prop} (h : F.laws_b10At a0 a1 a2 H K) : HT prg I.laws_b10At [a0, a1, a2].toArray H K :=
  HT_of_fev O.laws_b10At mixed Try.func24 (by kernel_rfl) (Eq.mpr (by kernel_rfl : fev prg O.laws_b10At Try.f24 [a0, a1, a2] H K = F.laws_b10At a0 a1 a2 H K) h)

/-! loop.example/g01381/spec.l04DrawStates: function 71 -/
def F.spec_l04DrawStates (a0 a1 a2 a3 : Value) (H : Hp) (K : Value → Hp → Prop) : Prop :=
  nw #[(.int .i64 0), (.int .i64 0), (.slice none 0 0)] 28 H fun v8x1 H2 =>
  ob (vBuild [(0, 1), (1, 1), (2, 1)] (.agg #[(.int .i64 0), (.int .i64 0), (.slice none 0 0)]) [(0, a1), (1, a2)]) fun v13x3 =>
  nw #[(.int .i64 0), (.int .i64 0), (.slice none 0 0)] 28 H2 fun v9x4 H5 =>
  st 3 v9x4 v13x3 H5 fun H6 =>
  jn (fun σ7 H7 =>
    ob (vLoadN 3 (σ7 9) H7) fun v29x8 =>
    st 3 (σ7 8) v29x8 H7 fun H9 =>
    ob (vLoadN 3 (σ7 8) H9) fun u10 => K u10 H9) fun J7 =>
  ob (vInt .mul a1 a2) fun v16x11 =>
  lpE (fun Q12 σ12 H12 =>
    ob (vInt .gtr (σ12 10) (.int .i64 0)) fun v18x13 =>
    cnd v18x13
      (ob (vFa 2 (σ12 9)) fun v21x14 =>
    ob (vLoad v21x14 H12) fun v22x15 =>
    HT prg I.pspec_l00Src_pick [(σ12 0), (σ12 3)].toArray H12 fun v25x16 H17 =>
    Le H12 H17 ∧ (bS 1 1 #[(.int .i64 0)] 2 [(0, v25x16)] H17 fun v26x18 H19 =>
    apd 1 8 #[(.int .i64 0)] 2 v22x15 v26x18 H19 fun v27x20 H21 =>
    ob (vFa 2 (σ12 9)) fun v28x22 =>
    st 1 v28x22 v27x20 H21 fun H23 =>
    ob (vInt .sub (σ12 10) (.int .i64 1)) fun v20x24 =>
    Q12 .normal (up (up (up (up (up (up (up (up (up (up (up (up (up σ12 17 (σ12 10)) 18 v18x13) 21 v21x14) 22 v22x15) 23 (σ12 0)) 24 (σ12 3)) 25 v25x16) 26 v26x18) 27 v27x20) 28 v28x22) 19 (σ12 10)) 20 v20x24) 10 v20x24) H23))
      (Q12 (.exit 0) (up (up σ12 17 (σ12 10)) 18 v18x13) H12)) (blkQ 0 (thenQ J7 (retQ prg [(.cell 8 28)] K))) (up (up (up (up (up (up (up (up (up (S0 [a0, a1, a2, a3]) 8 v8x1) 11 a1) 12 a2) 13 v13x3) 9 v9x4) 14 a1) 15 a2) 16 v16x11) 10 v16x11) H6
def O.spec_l04DrawStates : Nat → Nat × List Nat := fun i => bif Nat.beq i 5 then (0, [0, 1, 2, 3, 4, 5, 6, 7, 8]) else (0, [])
theorem R.spec_l04DrawStates {a0 a1 a2 a3 : Value} {H : Hp} {K : Value → Hp → Prop} (h : F.spec_l04DrawStates a0 a1 a2 a3 H K) : HT prg I.spec_l04DrawStates [a0, a1, a2, a3].toArray H K :=
  HT_of_fev O.spec_l04DrawStates mixed Try.func71 (by kernel_rfl) (Eq.mpr (by kernel_rfl : fev prg O.spec_l04DrawStates Try.f71 [a0, a1, a2, a3] H K = F.spec_l04DrawStates a0 a1 a2 a3 H K) h)

/-! loop.example/g01381/spec.l04DrawOk: function 55 -/
def F.spec_l04DrawOk (a0 a1 a2 : Value) (H : Hp) (K : Value → Hp → Prop) : Prop :=
  nw #[(.int .i64 0), (.int .i64 0), (.slice none 0 0)] 28 H fun v6x1 H2 =>
  HT prg I.spec_l04DrawStates [a0, a1, a2, (.int .i64 2)].toArray H2 fun v10x3 H4 =>
  st 3 v6x1 v10x3 H4 fun H5 =>
  ob (vLoadN 3 v6x1 H5) fun u6 => K u6 H5
def O.spec_l04DrawOk : Nat → Nat × List Nat := fun i => (0, [])
theorem R.spec_l04DrawOk {a0 a1 a2 : Value} {H : Hp} {K : Value → Hp → Prop} (h : F.spec_l04DrawOk a0 a1 a2 H K) : HT prg I.spec_l04DrawOk [a0, a1, a2].toArray H K :=
  HT_of_fev O.spec_l04DrawOk mixed Try.func55 (by kernel_rfl) (Eq.mpr (by kernel_rfl : fev prg O.spec_l04DrawOk Try.f55 [a0, a1, a2] H K = F.spec_l04DrawOk a0 a1 a2 H K) h)

/-! loop.example/g01381/spec.B10Plain: function 25 -/
def F.spec_B10Plain (a0 a1 a2 : Value) (H : Hp) (K : Value → Hp → Prop) : Prop :=
  nw #[(.int .i64 0), (.int .i64 0), (.slice none 0 0)] 28 H fun v6x1 H2 =>
  HT prg I.spec_l00From [a0].toArray H2 fun v9x3 H4 =>
  HT prg I.spec_l04DrawOk [v9x3, a1, a2].toArray H4 fun v13x5 H6 =>
  st 3 v6x1 v13x5 H6 fun H7 =>
  ob (vLoadN 3 v6x1 H7) fun u8 => K u8 H7
def O.spec_B10Plain : Nat → Nat × List Nat := fun i => (0, [])
theorem R.spec_B10Plain {a0 a1 a2 : Value} {H : Hp} {K : Value → Hp → Prop} (h : F.spec_B10Plain a0 a1 a2 H K) : HT prg I.spec_B10Plain [a0, a1, a2].toArray H K :=
  HT_of_fev O.spec_B10Plain mixed Try.func25 (by kernel_rfl) (Eq.mpr (by kernel_rfl : fev prg O.spec_B10Plain Try.f25 [a0, a1, a2] H K = F.spec_B10Plain a0 a1 a2 H K) h)

end Go.Proofs.Ythgjegbckkpaiaa
