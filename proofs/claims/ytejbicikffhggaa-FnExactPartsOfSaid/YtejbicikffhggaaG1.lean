/- Functions' texts over a partial heap. -/
import Derived.Test.YtejbicikffhggaaG0
namespace Go.Proofs.Ytejbicikffhggaa
open HL
set_option linter.unusedVariables false
set_option maxRecDepth 100000
set_option maxHeartbeats 4000000
/-! loop.example/g01381/laws.szInt64S: function 16 -/
def F.laws_szInt64S (a0 a1 : Value) (H : Hp) (K : Value → Hp → Prop) : Prop :=
  ob (vLenSl a0) fun v7x1 =>
  ob (vInt .sub a1 v7x1) fun v8x2 =>
  ob (vInt .lss v8x2 (.int .i64 0)) fun v10x3 =>
  cnd v10x3
    (K (.int .i64 (-1)) H)
    (K v8x2 H)
def O.laws_szInt64S : Nat → Nat × List Nat := fun i => (0, [])
theorem R.laws_szInt64S {a0 a1 : Value} {H : Hp} {K : Value → Hp → Prop} (h : F.laws_szInt64S a0 a1 H K) : HT prg I.laws_szInt64S [a0, a1].toArray H K :=
  HT_of_fev O.laws_szInt64S mixed Try.func16 (by kernel_rfl) (Eq.mpr (by kernel_rfl : fev prg O.laws_szInt64S Try.f16 [a0, a1] H K = F.laws_szInt64S a0 a1 H K) h)

/-! loop.example/g01381/laws.szField: function 4 -/
def F.laws_szField (a0 a1 : Value) (H : Hp) (K : Value → Hp → Prop) : Prop :=
  nw (a0 : Value).cells 24 H fun v2x1 H2 =>
  ob (vFa 2 v2x1) fun v5x3 =>
  ob (vLoad v5x3 H2) fun v6x4 =>
  HT prg I.laws_szInt64S [v6x4, a1].toArray H2 fun v8x5 H6 =>
  ob (vInt .lss v8x5 (.int .i64 0)) fun v10x7 =>
  cnd v10x7
    (K (.int .i64 (-1)) H6)
    (K v8x5 H6)
def O.laws_szField : Nat → Nat × List Nat := fun i => (0, [])
theorem R.laws_szField {a0 a1 : Value} {H : Hp} {K : Value → Hp → Prop} (h : F.laws_szField a0 a1 H K) : HT prg I.laws_szField [a0, a1].toArray H K :=
  HT_of_fev O.laws_szField mixed Try.func4 (by kernel_rfl) (Eq.mpr (by kernel_rfl : fev prg O.laws_szField Try.f4 [a0, a1] H K = F.laws_szField a0 a1 H K) h)

/-! loop.example/g01381/spec.l00In: function 29 -/
def F.spec_l00In (a0 a1 a2 : Value) (H : Hp) (K : Value → Hp → Prop) : Prop :=
  ob (vInt .geq a0 a1) fun v9x1 =>
  gop v9x1 true (fun K2 => K2 a0 H) H fun v11x3 H4 =>
  gop v9x1 true (fun K5 => K5 a2 H4) H4 fun v12x6 H7 =>
  gop v9x1 true (fun K8 => ob (vInt .leq v11x3 v12x6) fun u => K8 u H7) H7 fun v13x9 H10 =>
  ob (vPick v9x1 v13x9 (.bool false)) fun v14x11 =>
  K v14x11 H10
def O.spec_l00In : Nat → Nat × List Nat := fun i => (0, [])
theorem R.spec_l00In {a0 a1 a2 : Value} {H : Hp} {K : Value → Hp → Prop} (h : F.spec_l00In a0 a1 a2 H K) : HT prg I.spec_l00In [a0, a1, a2].toArray H K :=
  HT_of_fev O.spec_l00In mixed Try.func29 (by kernel_rfl) (Eq.mpr (by kernel_rfl : fev prg O.spec_l00In Try.f29 [a0, a1, a2] H K = F.spec_l00In a0 a1 a2 H K) h)

/-! loop.example/g01381/spec.l04Is: function 27 -/
def F.spec_l04Is (a0 : Value) (H : Hp) (K : Value → Hp → Prop) : Prop :=
  ob (vNilC a0) fun v5x1 =>
  ob (vFa 0 v5x1) fun v6x2 =>
  ob (vLoad v6x2 H) fun v7x3 =>
  HT prg I.spec_l00In [v7x3, (.int .i64 1), (.int .i64 24)].toArray H fun v8x4 H5 =>
  Le H H5 ∧ (ob (vUn .not v8x4) fun v9x6 =>
  gop v9x6 false (fun K7 => K7 a0 H5) H5 fun v11x8 H9 =>
  gop v9x6 false (fun K10 => ob (vNilC v11x8) fun u => K10 u H9) H9 fun v12x11 H12 =>
  gop v9x6 false (fun K13 => ob (vFa 1 v12x11) fun u => K13 u H12) H12 fun v13x14 H15 =>
  gop v9x6 false (fun K16 => ob (vLoad v13x14 H15) fun u => K16 u H15) H15 fun v14x17 H18 =>
  gop v9x6 false (fun K19 => HT prg I.spec_l00In [v14x17, (.int .i64 1), (.int .i64 24)].toArray H18 fun v15x20 H21 =>
  Le H18 H21 ∧ K19 v15x20 H21) H18 fun v15x22 H23 =>
  gop v9x6 false (fun K24 => ob (vUn .not v15x22) fun u => K24 u H23) H23 fun v16x25 H26 =>
  ob (vPick v9x6 (.bool true) v16x25) fun v17x27 =>
  gop v17x27 false (fun K28 => K28 a0 H26) H26 fun v19x29 H30 =>
  gop v17x27 false (fun K31 => ob (vNilC v19x29) fun u => K31 u H30) H30 fun v20x32 H33 =>
  gop v17x27 false (fun K34 => ob (vFa 2 v20x32) fun u => K34 u H33) H33 fun v21x35 H36 =>
  gop v17x27 false (fun K37 => ob (vLoad v21x35 H36) fun u => K37 u H36) H36 fun v22x38 H39 =>
  gop v17x27 false (fun K40 => ob (vLenSl v22x38) fun u => K40 u H39) H39 fun v23x41 H42 =>
  gop v17x27 false (fun K43 => K43 a0 H42) H42 fun v24x44 H45 =>
  gop v17x27 false (fun K46 => ob (vNilC v24x44) fun u => K46 u H45) H45 fun v25x47 H48 =>
  gop v17x27 false (fun K49 => ob (vFa 0 v25x47) fun u => K49 u H48) H48 fun v26x50 H51 =>
  gop v17x27 false (fun K52 => ob (vLoad v26x50 H51) fun u => K52 u H51) H51 fun v27x53 H54 =>
  gop v17x27 false (fun K55 => K55 a0 H54) H54 fun v28x56 H57 =>
  gop v17x27 false (fun K58 => ob (vNilC v28x56) fun u => K58 u H57) H57 fun v29x59 H60 =>
  gop v17x27 false (fun K61 => ob (vFa 1 v29x59) fun u => K61 u H60) H60 fun v30x62 H63 =>
  gop v17x27 false (fun K64 => ob (vLoad v30x62 H63) fun u => K64 u H63) H63 fun v31x65 H66 =>
  gop v17x27 false (fun K67 => ob (vInt .mul v27x53 v31x65) fun u => K67 u H66) H66 fun v32x68 H69 =>
  gop v17x27 false (fun K70 => ob (vInt .neq v23x41 v32x68) fun u => K70 u H69) H69 fun v33x71 H72 =>
  ob (vPick v17x27 (.bool true) v33x71) fun v34x73 =>
  cnd v34x73
    (K (.bool false) H72)
    (jn (fun σ74 H74 =>
    K (.bool true) H74) fun J74 =>
  lpE (fun Q75 σ75 H75 =>
    ob (vNilC (σ75 0)) fun v37x76 =>
    ob (vFa 2 v37x76) fun v38x77 =>
    ob (vLoad v38x77 H75) fun v39x78 =>
    ob (vLenSl v39x78) fun v40x79 =>
    ob (vInt .lss (σ75 3) v40x79) fun v41x80 =>
    cnd v41x80
      (ob (vNilC (σ75 0)) fun v45x81 =>
    ob (vFa 2 v45x81) fun v46x82 =>
    ob (vLoad v46x82 H75) fun v47x83 =>
    ob (vIx 1 v47x83 (σ75 3)) fun v49x84 =>
    ob (vLoad v49x84 H75) fun v50x85 =>
    HT prg I.spec_l00In [v50x85, (.int .i64 0), (.int .i64 9)].toArray H75 fun v51x86 H87 =>
    ob (vUn .not v51x86) fun v52x88 =>
    cnd v52x88
      (Q75 .ret (up (up (up (up (up (up (up (up (up (up (up (up (up (up (up (up (up σ75 35 (σ75 3)) 36 (σ75 0)) 37 v37x76) 38 v38x77) 39 v39x78) 40 v40x79) 41 v41x80) 44 (σ75 0)) 45 v45x81) 46 v46x82) 47 v47x83) 48 (σ75 3)) 49 v49x84) 50 v50x85) 51 v51x86) 52 v52x88) 2 (.bool false)) H87)
      (ob (vInt .add (σ75 3) (.int .i64 1)) fun v43x89 =>
    Q75 .normal (up (up (up (up (up (up (up (up (up (up (up (up (up (up (up (up (up (up (up σ75 35 (σ75 3)) 36 (σ75 0)) 37 v37x76) 38 v38x77) 39 v39x78) 40 v40x79) 41 v41x80) 44 (σ75 0)) 45 v45x81) 46 v46x82) 47 v47x83) 48 (σ75 3)) 49 v49x84) 50 v50x85) 51 v51x86) 52 v52x88) 42 (σ75 3)) 43 v43x89) 3 v43x89) H87))
      (Q75 (.exit 0) (up (up (up (up (up (up (up σ75 35 (σ75 3)) 36 (σ75 0)) 37 v37x76) 38 v38x77) 39 v39x78) 40 v40x79) 41 v41x80) H75)) (blkQ 0 (thenQ J74 (retQ prg [(.tmp 2)] K))) (up (up (up (up (up (up (up (up (up (up (up (up (up (up (up (up (up (up (up (up (up (up (up (up (up (up (up (up (up (up (up (up (up (S0 [a0]) 2 (.bool false)) 4 a0) 5 v5x1) 6 v6x2) 7 v7x3) 8 v8x4) 9 v9x6) 10 v9x6) 11 v11x8) 12 v12x11) 13 v13x14) 14 v14x17) 15 v15x22) 16 v16x25) 17 v17x27) 18 v17x27) 19 v19x29) 20 v20x32) 21 v21x35) 22 v22x38) 23 v23x41) 24 v24x44) 25 v25x47) 26 v26x50) 27 v27x53) 28 v28x56) 29 v29x59) 30 v30x62) 31 v31x65) 32 v32x68) 33 v33x71) 34 v34x73) 3 (.int .i64 0)) H72))
def O.spec_l04Is : Nat → Nat × List Nat := fun i => bif Nat.beq i 1 then (0, [0, 1, 2, 3, 4, 5, 6, 7, 8, 9, 10, 11, 12, 13, 14, 15, 16, 17, 18, 19, 20, 21, 22, 23, 24, 25, 26, 27, 28, 29, 30]) else (0, [])
theorem R.spec_l04Is {a0 : Value} {H : Hp} {K : Value → Hp → Prop} (h : F.spec_l04Is a0 H K) : HT prg I.spec_l04Is [a0].toArray H K :=
  HT_of_fev O.spec_l04Is mixed Try.func27 (by kernel_rfl) (Eq.mpr (by kernel_rfl : fev prg O.spec_l04Is Try.f27 [a0] H K = F.spec_l04Is a0 H K) h)

/-! loop.example/g01381/spec.l04Plain: function 17 -/
def F.spec_l04Plain (a0 : Value) (H : Hp) (K : Value → Hp → Prop) : Prop :=
  HT prg I.spec_l04Is [a0].toArray H fun v5x1 H2 =>
  ob (vUn .not v5x1) fun v6x3 =>
  cnd v6x3
    (K (.bool false) H2)
    (jn (fun σ4 H4 =>
    K (.bool true) H4) fun J4 =>
  lpE (fun Q5 σ5 H5 =>
    ob (vNilC (σ5 0)) fun v9x6 =>
    ob (vFa 2 v9x6) fun v10x7 =>
    ob (vLoad v10x7 H5) fun v11x8 =>
    ob (vLenSl v11x8) fun v12x9 =>
    ob (vInt .lss (σ5 3) v12x9) fun v13x10 =>
    cnd v13x10
      (ob (vNilC (σ5 0)) fun v17x11 =>
    ob (vFa 2 v17x11) fun v18x12 =>
    ob (vLoad v18x12 H5) fun v19x13 =>
    ob (vIx 1 v19x13 (σ5 3)) fun v21x14 =>
    ob (vLoad v21x14 H5) fun v22x15 =>
    ob (vInt .gtr v22x15 (.int .i64 1)) fun v23x16 =>
    cnd v23x16
      (Q5 .ret (up (up (up (up (up (up (up (up (up (up (up (up (up (up (up (up σ5 7 (σ5 3)) 8 (σ5 0)) 9 v9x6) 10 v10x7) 11 v11x8) 12 v12x9) 13 v13x10) 16 (σ5 0)) 17 v17x11) 18 v18x12) 19 v19x13) 20 (σ5 3)) 21 v21x14) 22 v22x15) 23 v23x16) 2 (.bool false)) H5)
      (ob (vInt .add (σ5 3) (.int .i64 1)) fun v15x17 =>
    Q5 .normal (up (up (up (up (up (up (up (up (up (up (up (up (up (up (up (up (up (up σ5 7 (σ5 3)) 8 (σ5 0)) 9 v9x6) 10 v10x7) 11 v11x8) 12 v12x9) 13 v13x10) 16 (σ5 0)) 17 v17x11) 18 v18x12) 19 v19x13) 20 (σ5 3)) 21 v21x14) 22 v22x15) 23 v23x16) 14 (σ5 3)) 15 v15x17) 3 v15x17) H5))
      (Q5 (.exit 0) (up (up (up (up (up (up (up σ5 7 (σ5 3)) 8 (σ5 0)) 9 v9x6) 10 v10x7) 11 v11x8) 12 v12x9) 13 v13x10) H5)) (blkQ 0 (thenQ J4 (retQ prg [(.tmp 2)] K))) (up (up (up (up (up (S0 [a0]) 2 (.bool false)) 4 a0) 5 v5x1) 6 v6x3) 3 (.int .i64 0)) H2)
def O.spec_l04Plain : Nat → Nat × List Nat := fun i => (0, [])
theorem R.spec_l04Plain {a0 : Value} {H : Hp} {K : Value → Hp → Prop} (h : F.spec_l04Plain a0 H K) : HT prg I.spec_l04Plain [a0].toArray H K :=
  HT_of_fev O.spec_l04Plain mixed Try.func17 (by kernel_rfl) (Eq.mpr (by kernel_rfl : fev prg O.spec_l04Plain Try.f17 [a0] H K = F.spec_l04Plain a0 H K) h)

/-! loop.example/g01381/spec.l04New: function 28 -/
def F.spec_l04New (a0 a1 : Value) (H : Hp) (K : Value → Hp → Prop) : Prop :=
  nw #[(.int .i64 0), (.int .i64 0), (.slice none 0 0)] 29 H fun v4x1 H2 =>
  ob (vInt .mul a0 a1) fun v9x3 =>
  mkS 1 8 #[(.int .i64 0)] 2 v9x3 v9x3 H2 fun v10x4 H5 =>
  ob (vBuild [(0, 1), (1, 1), (2, 1)] (.agg #[(.int .i64 0), (.int .i64 0), (.slice none 0 0)]) [(0, a0), (1, a1), (2, v10x4)]) fun v11x6 =>
  st 3 v4x1 v11x6 H5 fun H7 =>
  ob (vLoadN 3 v4x1 H7) fun u8 => K u8 H7
def O.spec_l04New : Nat → Nat × List Nat := fun i => (0, [])
theorem R.spec_l04New {a0 a1 : Value} {H : Hp} {K : Value → Hp → Prop} (h : F.spec_l04New a0 a1 H K) : HT prg I.spec_l04New [a0, a1].toArray H K :=
  HT_of_fev O.spec_l04New mixed Try.func28 (by kernel_rfl) (Eq.mpr (by kernel_rfl : fev prg O.spec_l04New Try.f28 [a0, a1] H K = F.spec_l04New a0 a1 H K) h)

/-! loop.example/g01381/spec.l00Min: function 36 -/
def F.spec_l00Min (a0 a1 : Value) (H : Hp) (K : Value → Hp → Prop) : Prop :=
  ob (vInt .lss a0 a1) fun v7x1 =>
  cnd v7x1
    (K a0 H)
    (K a1 H)
def O.spec_l00Min : Nat → Nat × List Nat := fun i => (0, [])
theorem R.spec_l00Min {a0 a1 : Value} {H : Hp} {K : Value → Hp → Prop} (h : F.spec_l00Min a0 a1 H K) : HT prg I.spec_l00Min [a0, a1].toArray H K :=
  HT_of_fev O.spec_l00Min mixed Try.func36 (by kernel_rfl) (Eq.mpr (by kernel_rfl : fev prg O.spec_l00Min Try.f36 [a0, a1] H K = F.spec_l00Min a0 a1 H K) h)

/-! loop.example/g01381/spec.l00Max: function 37 -/
def F.spec_l00Max (a0 a1 : Value) (H : Hp) (K : Value → Hp → Prop) : Prop :=
  ob (vInt .gtr a0 a1) fun v7x1 =>
  cnd v7x1
    (K a0 H)
    (K a1 H)
def O.spec_l00Max : Nat → Nat × List Nat := fun i => (0, [])
theorem R.spec_l00Max {a0 a1 : Value} {H : Hp} {K : Value → Hp → Prop} (h : F.spec_l00Max a0 a1 H K) : HT prg I.spec_l00Max [a0, a1].toArray H K :=
  HT_of_fev O.spec_l00Max mixed Try.func37 (by kernel_rfl) (Eq.mpr (by kernel_rfl : fev prg O.spec_l00Max Try.f37 [a0, a1] H K = F.spec_l00Max a0 a1 H K) h)

/-! loop.example/g01381/spec.l05Cut: function 38 -/
def F.spec_l05Cut (a0 a1 a2 a3 a4 : Value) (H : Hp) (K : Value → Hp → Prop) : Prop :=
  nw #[(.int .i64 0), (.int .i64 0), (.slice none 0 0)] 29 H fun v10x1 H2 =>
  HT prg I.spec_l04New [a3, a4].toArray H2 fun v16x3 H4 =>
  nw #[(.int .i64 0), (.int .i64 0), (.slice none 0 0)] 29 H4 fun v11x5 H6 =>
  st 3 v11x5 v16x3 H6 fun H7 =>
  jn (fun σ8 H8 =>
    ob (vLoadN 3 (σ8 11) H8) fun v53x9 =>
    st 3 (σ8 10) v53x9 H8 fun H10 =>
    ob (vLoadN 3 (σ8 10) H10) fun u11 => K u11 H10) fun J8 =>
  lpE (fun Q12 σ12 H12 =>
    ob (vInt .lss (σ12 12) (σ12 3)) fun v19x13 =>
    cnd v19x13
      (jn (fun σ14 H14 =>
      ob (vInt .add (σ14 12) (.int .i64 1)) fun v21x15 =>
      Q12 .normal (up (up (up σ14 20 (σ14 12)) 21 v21x15) 12 v21x15) H14) fun J14 =>
    lpE (fun Q16 σ16 H16 =>
      ob (vInt .lss (σ16 13) (σ16 4)) fun v24x17 =>
      cnd v24x17
        (ob (vFa 2 (σ16 11)) fun v27x18 =>
      ob (vLoad v27x18 H16) fun v28x19 =>
      ob (vInt .mul (σ16 12) (σ16 4)) fun v31x20 =>
      ob (vInt .add v31x20 (σ16 13)) fun v33x21 =>
      ob (vNilC (σ16 0)) fun v35x22 =>
      ob (vFa 2 v35x22) fun v36x23 =>
      ob (vLoad v36x23 H16) fun v37x24 =>
      ob (vInt .add (σ16 1) (σ16 12)) fun v40x25 =>
      ob (vNilC (σ16 0)) fun v42x26 =>
      ob (vFa 1 v42x26) fun v43x27 =>
      ob (vLoad v43x27 H16) fun v44x28 =>
      ob (vInt .mul v40x25 v44x28) fun v45x29 =>
      ob (vInt .add v45x29 (σ16 2)) fun v47x30 =>
      ob (vInt .add v47x30 (σ16 13)) fun v49x31 =>
      ob (vIx 1 v37x24 v49x31) fun v50x32 =>
      ob (vLoad v50x32 H16) fun v51x33 =>
      ob (vIx 1 v28x19 v33x21) fun v52x34 =>
      st 1 v52x34 v51x33 H16 fun H35 =>
      ob (vInt .add (σ16 13) (.int .i64 1)) fun v26x36 =>
      Q16 .normal (up (up (up (up (up (up (up (up (up (up (up (up (up (up (up (up (up (up (up (up (up (up (up (up (up (up (up (up (up (up (up (up σ16 22 (σ16 13)) 23 (σ16 4)) 24 v24x17) 27 v27x18) 28 v28x19) 29 (σ16 12)) 30 (σ16 4)) 31 v31x20) 32 (σ16 13)) 33 v33x21) 34 (σ16 0)) 35 v35x22) 36 v36x23) 37 v37x24) 38 (σ16 1)) 39 (σ16 12)) 40 v40x25) 41 (σ16 0)) 42 v42x26) 43 v43x27) 44 v44x28) 45 v45x29) 46 (σ16 2)) 47 v47x30) 48 (σ16 13)) 49 v49x31) 50 v50x32) 51 v51x33) 52 v52x34) 25 (σ16 13)) 26 v26x36) 13 v26x36) H35)
        (Q16 (.exit 2) (up (up (up σ16 22 (σ16 13)) 23 (σ16 4)) 24 v24x17) H16)) (blkQ 2 (blkQ 1 (thenQ J14 Q12))) (up (up (up (up σ12 17 (σ12 12)) 18 (σ12 3)) 19 v19x13) 13 (.int .i64 0)) H12)
      (Q12 (.exit 0) (up (up (up σ12 17 (σ12 12)) 18 (σ12 3)) 19 v19x13) H12)) (blkQ 0 (thenQ J8 (retQ prg [(.cell 10 29)] K))) (up (up (up (up (up (up (S0 [a0, a1, a2, a3, a4]) 10 v10x1) 14 a3) 15 a4) 16 v16x3) 11 v11x5) 12 (.int .i64 0)) H7
def O.spec_l05Cut : Nat → Nat × List Nat := fun i => bif Nat.beq i 8 then (0, [0, 1, 2, 3, 4, 5, 6, 7, 8, 9, 10, 11, 12, 13, 14, 15, 16, 17, 18, 19, 20, 21, 22, 23, 24, 25, 26]) else (0, [])
theorem R.spec_l05Cut {a0 a1 a2 a3 a4 : Value} {H : Hp} {K : Value → Hp → Prop} (h : F.spec_l05Cut a0 a1 a2 a3 a4 H K) : HT prg I.spec_l05Cut [a0, a1, a2, a3, a4].toArray H K :=
  HT_of_fev O.spec_l05Cut mixed Try.func38 (by kernel_rfl) (Eq.mpr (by kernel_rfl : fev prg O.spec_l05Cut Try.f38 [a0, a1, a2, a3, a4] H K = F.spec_l05Cut a0 a1 a2 a3 a4 H K) h)

/-! loop.example/g01381/spec.l05Trim: function 30 -/
def F.spec_l05Trim (a0 : Value) (H : Hp) (K : Value → Hp → Prop) : Prop :=
  nw #[(.int .i64 0), (.int .i64 0), (.slice none 0 0)] 29 H fun v2x1 H2 =>
  ob (vNilC a0) fun v13x3 =>
  ob (vFa 0 v13x3) fun v14x4 =>
  ob (vLoad v14x4 H2) fun v15x5 =>
  ob (vNilC a0) fun v17x6 =>
  ob (vFa 1 v17x6) fun v18x7 =>
  ob (vLoad v18x7 H2) fun v19x8 =>
  jn (fun σ9 H9 =>
    ob (vInt .lss (σ9 7) (.int .i64 0)) fun v64x10 =>
    cnd v64x10
      (ob (vBuild [(0, 1), (1, 1), (2, 1)] (.agg #[(.int .i64 0), (.int .i64 0), (.slice none 0 0)]) []) fun v65x11 =>
      st 3 (σ9 2) v65x11 H9 fun H12 =>
      ob (vLoadN 3 (σ9 2) H12) fun u13 => K (.tuple #[u13, (.int .i64 0), (.int .i64 0), (.bool false)]) H12)
      (ob (vInt .sub (σ9 7) (σ9 6)) fun v71x14 =>
    ob (vInt .add v71x14 (.int .i64 1)) fun v72x15 =>
    ob (vInt .sub (σ9 9) (σ9 8)) fun v75x16 =>
    ob (vInt .add v75x16 (.int .i64 1)) fun v76x17 =>
    HT prg I.spec_l05Cut [(σ9 0), (σ9 6), (σ9 8), v72x15, v76x17].toArray H9 fun v77x18 H19 =>
    st 3 (σ9 2) v77x18 H19 fun H20 =>
    ob (vLoadN 3 (σ9 2) H20) fun u21 => K (.tuple #[u21, (σ9 6), (σ9 8), (.bool true)]) H20)) fun J9 =>
  lpE (fun Q22 σ22 H22 =>
    ob (vNilC (σ22 0)) fun v22x23 =>
    ob (vFa 0 v22x23) fun v23x24 =>
    ob (vLoad v23x24 H22) fun v24x25 =>
    ob (vInt .lss (σ22 10) v24x25) fun v25x26 =>
    cnd v25x26
      (jn (fun σ27 H27 =>
      ob (vInt .add (σ27 10) (.int .i64 1)) fun v27x28 =>
      Q22 .normal (up (up (up σ27 26 (σ27 10)) 27 v27x28) 10 v27x28) H27) fun J27 =>
    lpE (fun Q29 σ29 H29 =>
      ob (vNilC (σ29 0)) fun v30x30 =>
      ob (vFa 1 v30x30) fun v31x31 =>
      ob (vLoad v31x31 H29) fun v32x32 =>
      ob (vInt .lss (σ29 11) v32x32) fun v33x33 =>
      cnd v33x33
        (ob (vNilC (σ29 0)) fun v37x34 =>
      ob (vFa 2 v37x34) fun v38x35 =>
      ob (vLoad v38x35 H29) fun v39x36 =>
      ob (vNilC (σ29 0)) fun v42x37 =>
      ob (vFa 1 v42x37) fun v43x38 =>
      ob (vLoad v43x38 H29) fun v44x39 =>
      ob (vInt .mul (σ29 10) v44x39) fun v45x40 =>
      ob (vInt .add v45x40 (σ29 11)) fun v47x41 =>
      ob (vIx 1 v39x36 v47x41) fun v48x42 =>
      ob (vLoad v48x42 H29) fun v49x43 =>
      ob (vInt .eql v49x43 (.int .i64 1)) fun v50x44 =>
      cnd v50x44
        (HT prg I.spec_l00Min [(σ29 6), (σ29 10)].toArray H29 fun v53x45 H46 =>
        HT prg I.spec_l00Max [(σ29 7), (σ29 10)].toArray H46 fun v56x47 H48 =>
        HT prg I.spec_l00Min [(σ29 8), (σ29 11)].toArray H48 fun v59x49 H50 =>
        HT prg I.spec_l00Max [(σ29 9), (σ29 11)].toArray H50 fun v62x51 H52 =>
        ob (vInt .add (σ29 11) (.int .i64 1)) fun v35x53 =>
      Q29 .normal (up (up (up (up (up (up (up (up (up (up (up (up (up (up (up (up (up (up (up (up (up (up (up (up (up (up (up (up (up (up (up (up (up (up (up (up (up (up (up (up σ29 28 (σ29 11)) 29 (σ29 0)) 30 v30x30) 31 v31x31) 32 v32x32) 33 v33x33) 36 (σ29 0)) 37 v37x34) 38 v38x35) 39 v39x36) 40 (σ29 10)) 41 (σ29 0)) 42 v42x37) 43 v43x38) 44 v44x39) 45 v45x40) 46 (σ29 11)) 47 v47x41) 48 v48x42) 49 v49x43) 50 v50x44) 51 (σ29 6)) 52 (σ29 10)) 53 v53x45) 6 v53x45) 54 (σ29 7)) 55 (σ29 10)) 56 v56x47) 7 v56x47) 57 (σ29 8)) 58 (σ29 11)) 59 v59x49) 8 v59x49) 60 (σ29 9)) 61 (σ29 11)) 62 v62x51) 9 v62x51) 34 (σ29 11)) 35 v35x53) 11 v35x53) H52)
        (ob (vInt .add (σ29 11) (.int .i64 1)) fun v35x54 =>
      Q29 .normal (up (up (up (up (up (up (up (up (up (up (up (up (up (up (up (up (up (up (up (up (up (up (up (up σ29 28 (σ29 11)) 29 (σ29 0)) 30 v30x30) 31 v31x31) 32 v32x32) 33 v33x33) 36 (σ29 0)) 37 v37x34) 38 v38x35) 39 v39x36) 40 (σ29 10)) 41 (σ29 0)) 42 v42x37) 43 v43x38) 44 v44x39) 45 v45x40) 46 (σ29 11)) 47 v47x41) 48 v48x42) 49 v49x43) 50 v50x44) 34 (σ29 11)) 35 v35x54) 11 v35x54) H29))
        (Q29 (.exit 2) (up (up (up (up (up (up σ29 28 (σ29 11)) 29 (σ29 0)) 30 v30x30) 31 v31x31) 32 v32x32) 33 v33x33) H29)) (blkQ 2 (blkQ 1 (thenQ J27 Q22))) (up (up (up (up (up (up (up σ22 20 (σ22 10)) 21 (σ22 0)) 22 v22x23) 23 v23x24) 24 v24x25) 25 v25x26) 11 (.int .i64 0)) H22)
      (Q22 (.exit 0) (up (up (up (up (up (up σ22 20 (σ22 10)) 21 (σ22 0)) 22 v22x23) 23 v23x24) 24 v24x25) 25 v25x26) H22)) (blkQ 0 (thenQ J9 (retQ prg [(.cell 2 29), (.tmp 3), (.tmp 4), (.tmp 5)] K))) (up (up (up (up (up (up (up (up (up (up (up (up (up (up (up (up (up (S0 [a0]) 2 v2x1) 3 (.int .i64 0)) 4 (.int .i64 0)) 5 (.bool false)) 12 a0) 13 v13x3) 14 v14x4) 15 v15x5) 6 v15x5) 7 (.int .i64 (-1))) 16 a0) 17 v17x6) 18 v18x7) 19 v19x8) 8 v19x8) 9 (.int .i64 (-1))) 10 (.int .i64 0)) H2
def O.spec_l05Trim : Nat → Nat × List Nat := fun i => bif Nat.beq i 11 then (0, [0, 1, 2, 3, 4, 5, 6, 7, 8, 9, 10, 11, 12, 13, 14]) else (0, [])
theorem R.spec_l05Trim {a0 : Value} {H : Hp} {K : Value → Hp → Prop} (h : F.spec_l05Trim a0 H K) : HT prg I.spec_l05Trim [a0].toArray H K :=
  HT_of_fev O.spec_l05Trim mixed Try.func30 (by kernel_rfl) (Eq.mpr (by kernel_rfl : fev prg O.spec_l05Trim Try.f30 [a0] H K = F.spec_l05Trim a0 H K) h)

/-! loop.example/g01381/spec.l05Parts: function 18 -/
def F.spec_l05Parts (a0 : Value) (H : Hp) (K : Value → Hp → Prop) : Prop :=
  ob (vNilC a0) fun v21x1 =>
  ob (vFa 2 v21x1) fun v22x2 =>
  ob (vLoad v22x2 H) fun v23x3 =>
  ob (vLenSl v23x3) fun v24x4 =>
  mkS 1 1 #[(.bool false)] 4 v24x4 v24x4 H fun v25x5 H6 =>
  bS 3 0 #[(.int .i64 0), (.int .i64 0), (.slice none 0 0)] 29 [] H6 fun v26x7 H8 =>
  bS 1 0 #[(.int .i64 0)] 2 [] H8 fun v27x9 H10 =>
  jn (fun σ11 H11 =>
    K (.tuple #[(σ11 5), (σ11 6)]) H11) fun J11 =>
  ob (vNilC a0) fun v29x12 =>
  ob (vFa 2 v29x12) fun v30x13 =>
  ob (vLoad v30x13 H10) fun v31x14 =>
  ob (vLenSl v31x14) fun v32x15 =>
  lpE (fun Q16 σ16 H16 =>
    ob (vInt .lss (σ16 33) (σ16 32)) fun v34x17 =>
    cnd v34x17
      (jn (fun σ18 H18 =>
      ob (vInt .add (σ18 33) (.int .i64 1)) fun v174x19 =>
      Q16 .normal (up (up σ18 174 v174x19) 33 v174x19) H18) fun J18 =>
    ob (vNilC (σ16 0)) fun v37x20 =>
    ob (vFa 2 v37x20) fun v38x21 =>
    ob (vLoad v38x21 H16) fun v39x22 =>
    ob (vIx 1 v39x22 (σ16 33)) fun v41x23 =>
    ob (vLoad v41x23 H16) fun v42x24 =>
    ob (vInt .neq v42x24 (.int .i64 1)) fun v43x25 =>
    gop v43x25 false (fun K26 => K26 (σ16 4) H16) H16 fun v45x27 H28 =>
    gop v43x25 false (fun K29 => K29 (σ16 33) H28) H28 fun v46x30 H31 =>
    gop v43x25 false (fun K32 => ob (vIx 1 v45x27 v46x30) fun u => K32 u H31) H31 fun v47x33 H34 =>
    gop v43x25 false (fun K35 => ob (vLoad v47x33 H34) fun u => K35 u H34) H34 fun v48x36 H37 =>
    ob (vPick v43x25 (.bool true) v48x36) fun v49x38 =>
    cnd v49x38
      (J18 (up (up (up (up (up (up (up (up (up (up (up (up (up (up (up (up (up σ16 34 v34x17) 35 (σ16 33)) 7 (σ16 33)) 36 (σ16 0)) 37 v37x20) 38 v38x21) 39 v39x22) 40 (σ16 33)) 41 v41x23) 42 v42x24) 43 v43x25) 44 v43x25) 45 v45x27) 46 v46x30) 47 v47x33) 48 v48x36) 49 v49x38) H37)
      (ob (vNilC (σ16 0)) fun v51x39 =>
    ob (vFa 0 v51x39) fun v52x40 =>
    ob (vLoad v52x40 H37) fun v53x41 =>
    ob (vNilC (σ16 0)) fun v55x42 =>
    ob (vFa 1 v55x42) fun v56x43 =>
    ob (vLoad v56x43 H37) fun v57x44 =>
    HT prg I.spec_l04New [v53x41, v57x44].toArray H37 fun v58x45 H46 =>
    Le H37 H46 ∧ (nw #[(.int .i64 0), (.int .i64 0), (.slice none 0 0)] 29 H46 fun v8x47 H48 =>
    st 3 v8x47 v58x45 H48 fun H49 =>
    bS 1 1 #[(.int .i64 0)] 2 [(0, (σ16 33))] H49 fun v60x50 H51 =>
    ob (vIx 1 (σ16 4) (σ16 33)) fun v63x52 =>
    st 1 v63x52 (.bool true) H51 fun H53 =>
    jn (fun σ54 H54 =>
      HT prg I.spec_l05Trim [(σ54 8)].toArray H54 fun v160x55 H56 =>
      ob (vExt v160x55 0) fun v161x57 =>
      ob (vExt v160x55 1) fun v162x58 =>
      ob (vExt v160x55 2) fun v163x59 =>
      ob (vExt v160x55 3) fun v164x60 =>
      nw #[(.int .i64 0), (.int .i64 0), (.slice none 0 0)] 29 H56 fun v16x61 H62 =>
      st 3 v16x61 v161x57 H62 fun H63 =>
      ob (vLoadN 3 v16x61 H63) fun v166x64 =>
      bS 3 1 #[(.int .i64 0), (.int .i64 0), (.slice none 0 0)] 29 [(0, v166x64)] H63 fun v167x65 H66 =>
      apd 3 40 #[(.int .i64 0), (.int .i64 0), (.slice none 0 0)] 29 (σ54 5) v167x65 H66 fun v168x67 H68 =>
      bS 1 2 #[(.int .i64 0)] 2 [(0, v162x58), (1, v163x59)] H68 fun v172x69 H70 =>
      apd 1 8 #[(.int .i64 0)] 2 (σ54 6) v172x69 H70 fun v173x71 H72 =>
      J18 (up (up (up (up (up (up (up (up (up (up (up (up (up (up (up (up (up (up (up (up (up σ54 160 v160x55) 159 v160x55) 161 v161x57) 162 v162x58) 163 v163x59) 164 v164x60) 16 v16x61) 17 v162x58) 18 v163x59) 19 v164x60) 165 (σ54 5)) 166 v166x64) 167 v167x65) 168 v168x67) 5 v168x67) 169 (σ54 6)) 170 v162x58) 171 v163x59) 172 v172x69) 173 v173x71) 6 v173x71) H72) fun J54 =>
    lpE (fun Q73 σ73 H73 =>
      ob (vLenSl (σ73 9)) fun v66x74 =>
      ob (vInt .lss (σ73 10) v66x74) fun v67x75 =>
      cnd v67x75
        (jn (fun σ76 H76 =>
        ob (vInt .add (σ76 10) (.int .i64 1)) fun v69x77 =>
        Q73 .normal (up (up (up σ76 68 (σ76 10)) 69 v69x77) 10 v69x77) H76) fun J76 =>
      ob (vFa 2 (σ73 8)) fun v70x78 =>
      ob (vLoad v70x78 H73) fun v71x79 =>
      ob (vIx 1 (σ73 9) (σ73 10)) fun v74x80 =>
      ob (vLoad v74x80 H73) fun v75x81 =>
      ob (vIx 1 v71x79 v75x81) fun v76x82 =>
      st 1 v76x82 (.int .i64 1) H73 fun H83 =>
      ob (vIx 1 (σ73 9) (σ73 10)) fun v79x84 =>
      ob (vLoad v79x84 H83) fun v80x85 =>
      ob (vNilC (σ73 0)) fun v82x86 =>
      ob (vFa 1 v82x86) fun v83x87 =>
      ob (vLoad v83x87 H83) fun v84x88 =>
      ob (vInt .quo v80x85 v84x88) fun v85x89 =>
      ob (vIx 1 (σ73 9) (σ73 10)) fun v88x90 =>
      ob (vLoad v88x90 H83) fun v89x91 =>
      ob (vNilC (σ73 0)) fun v91x92 =>
      ob (vFa 1 v91x92) fun v92x93 =>
      ob (vLoad v92x93 H83) fun v93x94 =>
      ob (vInt .rem v89x91 v93x94) fun v94x95 =>
      ob (vInt .sub v85x89 (.int .i64 1)) fun v96x96 =>
      lpE (fun Q97 σ97 H97 =>
        ob (vInt .add (σ97 11) (.int .i64 1)) fun v99x98 =>
        ob (vInt .leq (σ97 13) v99x98) fun v100x99 =>
        cnd v100x99
          (jn (fun σ100 H100 =>
          ob (vInt .add (σ100 13) (.int .i64 1)) fun v102x101 =>
          Q97 .normal (up (up (up σ100 101 (σ100 13)) 102 v102x101) 13 v102x101) H100) fun J100 =>
        ob (vInt .sub (σ97 12) (.int .i64 1)) fun v104x102 =>
        lpE (fun Q103 σ103 H103 =>
          ob (vInt .add (σ103 12) (.int .i64 1)) fun v107x104 =>
          ob (vInt .leq (σ103 14) v107x104) fun v108x105 =>
          cnd v108x105
            (ob (vNilC (σ103 0)) fun v113x106 =>
          ob (vFa 0 v113x106) fun v114x107 =>
          ob (vLoad v114x107 H103) fun v115x108 =>
          ob (vInt .sub v115x108 (.int .i64 1)) fun v116x109 =>
          HT prg I.spec_l00In [(σ103 13), (.int .i64 0), v116x109].toArray H103 fun v117x110 H111 =>
          ob (vUn .not v117x110) fun v118x112 =>
          gop v118x112 false (fun K113 => K113 (σ103 14) H111) H111 fun v120x114 H115 =>
          gop v118x112 false (fun K116 => K116 (σ103 0) H115) H115 fun v121x117 H118 =>
          gop v118x112 false (fun K119 => ob (vNilC v121x117) fun u => K119 u H118) H118 fun v122x120 H121 =>
          gop v118x112 false (fun K122 => ob (vFa 1 v122x120) fun u => K122 u H121) H121 fun v123x123 H124 =>
          gop v118x112 false (fun K125 => ob (vLoad v123x123 H124) fun u => K125 u H124) H124 fun v124x126 H127 =>
          gop v118x112 false (fun K128 => ob (vInt .sub v124x126 (.int .i64 1)) fun u => K128 u H127) H127 fun v125x129 H130 =>
          gop v118x112 false (fun K131 => HT prg I.spec_l00In [v120x114, (.int .i64 0), v125x129].toArray H130 K131) H130 fun v126x132 H133 =>
          gop v118x112 false (fun K134 => ob (vUn .not v126x132) fun u => K134 u H133) H133 fun v127x135 H136 =>
          ob (vPick v118x112 (.bool true) v127x135) fun v128x137 =>
          cnd v128x137
            (ob (vInt .add (σ103 14) (.int .i64 1)) fun v110x138 =>
          Q103 .normal (up (up (up (up (up (up (up (up (up (up (up (up (up (up (up (up (up (up (up (up (up (up (up (up (up σ103 105 (σ103 14)) 106 (σ103 12)) 107 v107x104) 108 v108x105) 111 (σ103 13)) 112 (σ103 0)) 113 v113x106) 114 v114x107) 115 v115x108) 116 v116x109) 117 v117x110) 118 v118x112) 119 v118x112) 120 v120x114) 121 v121x117) 122 v122x120) 123 v123x123) 124 v124x126) 125 v125x129) 126 v126x132) 127 v127x135) 128 v128x137) 109 (σ103 14)) 110 v110x138) 14 v110x138) H136)
            (ob (vNilC (σ103 0)) fun v131x139 =>
          ob (vFa 1 v131x139) fun v132x140 =>
          ob (vLoad v132x140 H136) fun v133x141 =>
          ob (vInt .mul (σ103 13) v133x141) fun v134x142 =>
          ob (vInt .add v134x142 (σ103 14)) fun v136x143 =>
          ob (vNilC (σ103 0)) fun v138x144 =>
          ob (vFa 2 v138x144) fun v139x145 =>
          ob (vLoad v139x145 H136) fun v140x146 =>
          ob (vIx 1 v140x146 v136x143) fun v142x147 =>
          ob (vLoad v142x147 H136) fun v143x148 =>
          ob (vInt .eql v143x148 (.int .i64 1)) fun v144x149 =>
          gop v144x149 true (fun K150 => K150 (σ103 4) H136) H136 fun v146x151 H152 =>
          gop v144x149 true (fun K153 => K153 v136x143 H152) H152 fun v147x154 H155 =>
          gop v144x149 true (fun K156 => ob (vIx 1 v146x151 v147x154) fun u => K156 u H155) H155 fun v148x157 H158 =>
          gop v144x149 true (fun K159 => ob (vLoad v148x157 H158) fun u => K159 u H158) H158 fun v149x160 H161 =>
          gop v144x149 true (fun K162 => ob (vUn .not v149x160) fun u => K162 u H161) H161 fun v150x163 H164 =>
          ob (vPick v144x149 v150x163 (.bool false)) fun v151x165 =>
          cnd v151x165
            (ob (vIx 1 (σ103 4) v136x143) fun v154x166 =>
            st 1 v154x166 (.bool true) H164 fun H167 =>
            bS 1 1 #[(.int .i64 0)] 2 [(0, v136x143)] H167 fun v157x168 H169 =>
            apd 1 8 #[(.int .i64 0)] 2 (σ103 9) v157x168 H169 fun v158x170 H171 =>
            ob (vInt .add (σ103 14) (.int .i64 1)) fun v110x172 =>
          Q103 .normal (up (up (up (up (up (up (up (up (up (up (up (up (up (up (up (up (up (up (up (up (up (up (up (up (up (up (up (up (up (up (up (up (up (up (up (up (up (up (up (up (up (up (up (up (up (up (up (up (up (up (up (up (up (up (up (up (up σ103 105 (σ103 14)) 106 (σ103 12)) 107 v107x104) 108 v108x105) 111 (σ103 13)) 112 (σ103 0)) 113 v113x106) 114 v114x107) 115 v115x108) 116 v116x109) 117 v117x110) 118 v118x112) 119 v118x112) 120 v120x114) 121 v121x117) 122 v122x120) 123 v123x123) 124 v124x126) 125 v125x129) 126 v126x132) 127 v127x135) 128 v128x137) 129 (σ103 13)) 130 (σ103 0)) 131 v131x139) 132 v132x140) 133 v133x141) 134 v134x142) 135 (σ103 14)) 136 v136x143) 15 v136x143) 137 (σ103 0)) 138 v138x144) 139 v139x145) 140 v140x146) 141 v136x143) 142 v142x147) 143 v143x148) 144 v144x149) 145 v144x149) 146 v146x151) 147 v147x154) 148 v148x157) 149 v149x160) 150 v150x163) 151 v151x165) 152 (σ103 4)) 153 v136x143) 154 v154x166) 155 (σ103 9)) 156 v136x143) 157 v157x168) 158 v158x170) 9 v158x170) 109 (σ103 14)) 110 v110x172) 14 v110x172) H171)
            (ob (vInt .add (σ103 14) (.int .i64 1)) fun v110x173 =>
          Q103 .normal (up (up (up (up (up (up (up (up (up (up (up (up (up (up (up (up (up (up (up (up (up (up (up (up (up (up (up (up (up (up (up (up (up (up (up (up (up (up (up (up (up (up (up (up (up (up (up (up (up σ103 105 (σ103 14)) 106 (σ103 12)) 107 v107x104) 108 v108x105) 111 (σ103 13)) 112 (σ103 0)) 113 v113x106) 114 v114x107) 115 v115x108) 116 v116x109) 117 v117x110) 118 v118x112) 119 v118x112) 120 v120x114) 121 v121x117) 122 v122x120) 123 v123x123) 124 v124x126) 125 v125x129) 126 v126x132) 127 v127x135) 128 v128x137) 129 (σ103 13)) 130 (σ103 0)) 131 v131x139) 132 v132x140) 133 v133x141) 134 v134x142) 135 (σ103 14)) 136 v136x143) 15 v136x143) 137 (σ103 0)) 138 v138x144) 139 v139x145) 140 v140x146) 141 v136x143) 142 v142x147) 143 v143x148) 144 v144x149) 145 v144x149) 146 v146x151) 147 v147x154) 148 v148x157) 149 v149x160) 150 v150x163) 151 v151x165) 109 (σ103 14)) 110 v110x173) 14 v110x173) H164)))
            (Q103 (.exit 6) (up (up (up (up σ103 105 (σ103 14)) 106 (σ103 12)) 107 v107x104) 108 v108x105) H103)) (blkQ 6 (blkQ 5 (thenQ J100 Q97))) (up (up (up (up (up (up (up σ97 97 (σ97 13)) 98 (σ97 11)) 99 v99x98) 100 v100x99) 103 (σ97 12)) 104 v104x102) 14 v104x102) H97)
          (Q97 (.exit 4) (up (up (up (up σ97 97 (σ97 13)) 98 (σ97 11)) 99 v99x98) 100 v100x99) H97)) (blkQ 4 (blkQ 3 (thenQ J76 Q73))) (up (up (up (up (up (up (up (up (up (up (up (up (up (up (up (up (up (up (up (up (up (up (up (up (up (up (up (up (up (up (up (up (up (up σ73 64 (σ73 10)) 65 (σ73 9)) 66 v66x74) 67 v67x75) 70 v70x78) 71 v71x79) 72 (σ73 9)) 73 (σ73 10)) 74 v74x80) 75 v75x81) 76 v76x82) 77 (σ73 9)) 78 (σ73 10)) 79 v79x84) 80 v80x85) 81 (σ73 0)) 82 v82x86) 83 v83x87) 84 v84x88) 85 v85x89) 11 v85x89) 86 (σ73 9)) 87 (σ73 10)) 88 v88x90) 89 v89x91) 90 (σ73 0)) 91 v91x92) 92 v92x93) 93 v93x94) 94 v94x95) 12 v94x95) 95 v85x89) 96 v96x96) 13 v96x96) H83)
        (Q73 (.exit 2) (up (up (up (up σ73 64 (σ73 10)) 65 (σ73 9)) 66 v66x74) 67 v67x75) H73)) (blkQ 2 (thenQ J54 (blkQ 1 (thenQ J18 Q16)))) (up (up (up (up (up (up (up (up (up (up (up (up (up (up (up (up (up (up (up (up (up (up (up (up (up (up (up (up (up (up (up (up (up (up σ16 34 v34x17) 35 (σ16 33)) 7 (σ16 33)) 36 (σ16 0)) 37 v37x20) 38 v38x21) 39 v39x22) 40 (σ16 33)) 41 v41x23) 42 v42x24) 43 v43x25) 44 v43x25) 45 v45x27) 46 v46x30) 47 v47x33) 48 v48x36) 49 v49x38) 50 (σ16 0)) 51 v51x39) 52 v52x40) 53 v53x41) 54 (σ16 0)) 55 v55x42) 56 v56x43) 57 v57x44) 58 v58x45) 8 v8x47) 59 (σ16 33)) 60 v60x50) 9 v60x50) 61 (σ16 4)) 62 (σ16 33)) 63 v63x52) 10 (.int .i64 0)) H53)))
      (Q16 (.exit 0) (up σ16 34 v34x17) H16)) (blkQ 0 (thenQ J11 (retQ prg [(.tmp 2), (.tmp 3)] K))) (up (up (up (up (up (up (up (up (up (up (up (up (up (up (up (up (up (up (up (S0 [a0]) 2 (.slice none 0 0)) 3 (.slice none 0 0)) 20 a0) 21 v21x1) 22 v22x2) 23 v23x3) 24 v24x4) 25 v25x5) 4 v25x5) 26 v26x7) 5 v26x7) 27 v27x9) 6 v27x9) 28 a0) 29 v29x12) 30 v30x13) 31 v31x14) 32 v32x15) 33 (.int .i64 0)) H10
def O.spec_l05Parts : Nat → Nat × List Nat := fun i => bif Nat.beq i 8 then (0, [0, 1, 2, 3, 4, 5, 6, 7, 8, 9, 10]) else bif Nat.beq i 14 then (0, [0, 1, 2, 3, 4, 5, 6, 7]) else bif Nat.beq i 15 then (0, [0, 1, 2, 3, 4, 5, 6, 7, 8, 9]) else bif Nat.beq i 16 then (0, [0, 1, 2, 3, 4, 5, 6, 7, 8, 9]) else (0, [])
theorem R.spec_l05Parts {a0 : Value} {H : Hp} {K : Value → Hp → Prop} (h : F.spec_l05Parts a0 H K) : HT prg I.spec_l05Parts [a0].toArray H K :=
  HT_of_fev O.spec_l05Parts mixed Try.func18 (by kernel_rfl) (Eq.mpr (by kernel_rfl : fev prg O.spec_l05Parts Try.f18 [a0] H K = F.spec_l05Parts a0 H K) h)

/-! loop.example/g01381/spec.PartsOf: function 5 -/
def F.spec_PartsOf (a0 : Value) (H : Hp) (K : Value → Hp → Prop) : Prop :=
  nw (a0 : Value).cells 29 H fun v1x1 H2 =>
  HT prg I.spec_l04Plain [v1x1].toArray H2 fun v7x3 H4 =>
  ob (vUn .not v7x3) fun v8x5 =>
  cnd v8x5
    (K (.tuple #[(.slice none 0 0), (.slice none 0 0), (.bool false)]) H4)
    (HT prg I.spec_l05Parts [v1x1].toArray H4 fun v10x6 H7 =>
  ob (vExt v10x6 0) fun v11x8 =>
  ob (vExt v10x6 1) fun v12x9 =>
  K (.tuple #[v11x8, v12x9, (.bool true)]) H7)
def O.spec_PartsOf : Nat → Nat × List Nat := fun i => (0, [])
theorem R.spec_PartsOf {a0 : Value} {H : Hp} {K : Value → Hp → Prop} (h : F.spec_PartsOf a0 H K) : HT prg I.spec_PartsOf [a0].toArray H K :=
  HT_of_fev O.spec_PartsOf mixed Try.func5 (by kernel_rfl) (Eq.mpr (by kernel_rfl : fev prg O.spec_PartsOf Try.f5 [a0] H K = F.spec_PartsOf a0 H K) h)

/-! loop.example/g01381/laws.toInt64S: function 19 -/
def F.laws_toInt64S (a0 : Value) (H : Hp) (K : Value → Hp → Prop) : Prop :=
  ob (vLenSl a0) fun v6x1 =>
  mkS 1 8 #[(.int .i64 0)] 2 v6x1 v6x1 H fun v7x2 H3 =>
  jn (fun σ4 H4 =>
    K (σ4 3) H4) fun J4 =>
  lpE (fun Q5 σ5 H5 =>
    ob (vLenSl (σ5 0)) fun v10x6 =>
    ob (vInt .lss (σ5 4) v10x6) fun v11x7 =>
    cnd v11x7
      (ob (vIx 1 (σ5 0) (σ5 4)) fun v18x8 =>
    ob (vLoad v18x8 H5) fun v19x9 =>
    ob (vIx 1 (σ5 3) (σ5 4)) fun v20x10 =>
    st 1 v20x10 v19x9 H5 fun H11 =>
    ob (vInt .add (σ5 4) (.int .i64 1)) fun v13x12 =>
    Q5 .normal (up (up (up (up (up (up (up (up (up (up (up (up (up (up σ5 8 (σ5 4)) 9 (σ5 0)) 10 v10x6) 11 v11x7) 14 (σ5 3)) 15 (σ5 4)) 16 (σ5 0)) 17 (σ5 4)) 18 v18x8) 19 v19x9) 20 v20x10) 12 (σ5 4)) 13 v13x12) 4 v13x12) H11)
      (Q5 (.exit 0) (up (up (up (up σ5 8 (σ5 4)) 9 (σ5 0)) 10 v10x6) 11 v11x7) H5)) (blkQ 0 (thenQ J4 (retQ prg [(.tmp 2)] K))) (up (up (up (up (up (up (S0 [a0]) 2 (.slice none 0 0)) 5 a0) 6 v6x1) 7 v7x2) 3 v7x2) 4 (.int .i64 0)) H3
def O.laws_toInt64S : Nat → Nat × List Nat := fun i => (0, [])
theorem R.laws_toInt64S {a0 : Value} {H : Hp} {K : Value → Hp → Prop} (h : F.laws_toInt64S a0 H K) : HT prg I.laws_toInt64S [a0].toArray H K :=
  HT_of_fev O.laws_toInt64S mixed Try.func19 (by kernel_rfl) (Eq.mpr (by kernel_rfl : fev prg O.laws_toInt64S Try.f19 [a0] H K = F.laws_toInt64S a0 H K) h)

/-! loop.example/g01381/laws.toField: function 6 -/
def F.laws_toField (a0 : Value) (H : Hp) (K : Value → Hp → Prop) : Prop :=
  nw (a0 : Value).cells 24 H fun v1x1 H2 =>
  nw #[(.int .i64 0), (.int .i64 0), (.slice none 0 0)] 29 H2 fun v2x3 H4 =>
  nw #[(.int .i64 0), (.int .i64 0), (.slice none 0 0)] 29 H4 fun v3x5 H6 =>
  ob (vFa 0 v1x1) fun v4x7 =>
  ob (vLoad v4x7 H6) fun v5x8 =>
  ob (vFa 0 v3x5) fun v6x9 =>
  st 1 v6x9 v5x8 H6 fun H10 =>
  ob (vFa 1 v1x1) fun v7x11 =>
  ob (vLoad v7x11 H10) fun v8x12 =>
  ob (vFa 1 v3x5) fun v9x13 =>
  st 1 v9x13 v8x12 H10 fun H14 =>
  ob (vFa 2 v1x1) fun v10x15 =>
  ob (vLoad v10x15 H14) fun v11x16 =>
  HT prg I.laws_toInt64S [v11x16].toArray H14 fun v12x17 H18 =>
  ob (vFa 2 v3x5) fun v13x19 =>
  st 1 v13x19 v12x17 H18 fun H20 =>
  ob (vLoadN 3 v3x5 H20) fun v14x21 =>
  st 3 v2x3 v14x21 H20 fun H22 =>
  ob (vLoadN 3 v2x3 H22) fun u23 => K u23 H22
def O.laws_toField : Nat → Nat × List Nat := fun i => (0, [])
theorem R.laws_toField {a0 : Value} {H : Hp} {K : Value → Hp → Prop} (h : F.laws_toField a0 H K) : HT prg I.laws_toField [a0].toArray H K :=
  HT_of_fev O.laws_toField mixed Try.func6 (by kernel_rfl) (Eq.mpr (by kernel_rfl : fev prg O.laws_toField Try.f6 [a0] H K = F.laws_toField a0 H K) h)

/-! loop.example/g01381/impl.within: function 41 -/
def F.impl_within (a0 a1 a2 : Value) (H : Hp) (K : Value → Hp → Prop) : Prop :=
  ob (vInt .geq a0 a1) fun v9x1 =>
  gop v9x1 true (fun K2 => K2 a0 H) H fun v11x3 H4 =>
  gop v9x1 true (fun K5 => K5 a2 H4) H4 fun v12x6 H7 =>
  gop v9x1 true (fun K8 => ob (vInt .leq v11x3 v12x6) fun u => K8 u H7) H7 fun v13x9 H10 =>
  ob (vPick v9x1 v13x9 (.bool false)) fun v14x11 =>
  K v14x11 H10
def O.impl_within : Nat → Nat × List Nat := fun i => (0, [])
theorem R.impl_within {a0 a1 a2 : Value} {H : Hp} {K : Value → Hp → Prop} (h : F.impl_within a0 a1 a2 H K) : HT prg I.impl_within [a0, a1, a2].toArray H K :=
  HT_of_fev O.impl_within mixed Try.func41 (by kernel_rfl) (Eq.mpr (by kernel_rfl : fev prg O.impl_within Try.f41 [a0, a1, a2] H K = F.impl_within a0 a1 a2 H K) h)

/-! loop.example/g01381/impl.isSide: function 39 -/
def F.impl_isSide (a0 : Value) (H : Hp) (K : Value → Hp → Prop) : Prop :=
  HT prg I.impl_within [a0, (.int .i64 1), (.int .i64 24)].toArray H fun v4x1 H2 =>
  K v4x1 H2
def O.impl_isSide : Nat → Nat × List Nat := fun i => (0, [])
theorem R.impl_isSide {a0 : Value} {H : Hp} {K : Value → Hp → Prop} (h : F.impl_isSide a0 H K) : HT prg I.impl_isSide [a0].toArray H K :=
  HT_of_fev O.impl_isSide mixed Try.func39 (by kernel_rfl) (Eq.mpr (by kernel_rfl : fev prg O.impl_isSide Try.f39 [a0] H K = F.impl_isSide a0 H K) h)

/-! loop.example/g01381/impl.areWithin: function 32 -/
def F.impl_areWithin (a0 a1 a2 : Value) (H : Hp) (K : Value → Hp → Prop) : Prop :=
  jn (fun σ1 H1 =>
    K (.bool true) H1) fun J1 =>
  ob (vLenSl a0) fun v10x2 =>
  lpE (fun Q3 σ3 H3 =>
    ob (vInt .lss (σ3 11) (σ3 10)) fun v12x4 =>
    cnd v12x4
      (ob (vIx 1 (σ3 9) (σ3 11)) fun v13x5 =>
    ob (vLoad v13x5 H3) fun v14x6 =>
    HT prg I.impl_within [v14x6, (σ3 1), (σ3 2)].toArray H3 fun v18x7 H8 =>
    ob (vUn .not v18x7) fun v19x9 =>
    cnd v19x9
      (Q3 .ret (up (up (up (up (up (up (up (up (up (up σ3 12 v12x4) 13 v13x5) 14 v14x6) 8 v14x6) 15 v14x6) 16 (σ3 1)) 17 (σ3 2)) 18 v18x7) 19 v19x9) 6 (.bool false)) H8)
      (ob (vInt .add (σ3 11) (.int .i64 1)) fun v20x10 =>
    Q3 .normal (up (up (up (up (up (up (up (up (up (up (up σ3 12 v12x4) 13 v13x5) 14 v14x6) 8 v14x6) 15 v14x6) 16 (σ3 1)) 17 (σ3 2)) 18 v18x7) 19 v19x9) 20 v20x10) 11 v20x10) H8))
      (Q3 (.exit 0) (up σ3 12 v12x4) H3)) (blkQ 0 (thenQ J1 (retQ prg [(.tmp 6)] K))) (up (up (up (up (S0 [a0, a1, a2]) 6 (.bool false)) 9 a0) 10 v10x2) 11 (.int .i64 0)) H
def O.impl_areWithin : Nat → Nat × List Nat := fun i => (0, [])
theorem R.impl_areWithin {a0 a1 a2 : Value} {H : Hp} {K : Value → Hp → Prop} (h : F.impl_areWithin a0 a1 a2 H K) : HT prg I.impl_areWithin [a0, a1, a2].toArray H K :=
  HT_of_fev O.impl_areWithin mixed Try.func32 (by kernel_rfl) (Eq.mpr (by kernel_rfl : fev prg O.impl_areWithin Try.f32 [a0, a1, a2] H K = F.impl_areWithin a0 a1 a2 H K) h)

/-! loop.example/g01381/impl.areMany: function 40 -/
def F.impl_areMany (a0 a1 a2 a3 a4 : Value) (H : Hp) (K : Value → Hp → Prop) : Prop :=
  ob (vLenSl a0) fun v12x1 =>
  HT prg I.impl_within [v12x1, a1, a2].toArray H fun v15x2 H3 =>
  gop v15x2 true (fun K4 => K4 a0 H3) H3 fun v17x5 H6 =>
  gop v15x2 true (fun K7 => K7 a3 H6) H6 fun v18x8 H9 =>
  gop v15x2 true (fun K10 => K10 a4 H9) H9 fun v19x11 H12 =>
  gop v15x2 true (fun K13 => HT prg I.impl_areWithin [v17x5, v18x8, v19x11].toArray H12 K13) H12 fun v20x14 H15 =>
  ob (vPick v15x2 v20x14 (.bool false)) fun v21x16 =>
  K v21x16 H15
def O.impl_areMany : Nat → Nat × List Nat := fun i => (0, [])
theorem R.impl_areMany {a0 a1 a2 a3 a4 : Value} {H : Hp} {K : Value → Hp → Prop} (h : F.impl_areMany a0 a1 a2 a3 a4 H K) : HT prg I.impl_areMany [a0, a1, a2, a3, a4].toArray H K :=
  HT_of_fev O.impl_areMany mixed Try.func40 (by kernel_rfl) (Eq.mpr (by kernel_rfl : fev prg O.impl_areMany Try.f40 [a0, a1, a2, a3, a4] H K = F.impl_areMany a0 a1 a2 a3 a4 H K) h)

/-! loop.example/g01381/impl.ValidField: function 31 -/
def F.impl_ValidField (a0 : Value) (H : Hp) (K : Value → Hp → Prop) : Prop :=
  nw (a0 : Value).cells 29 H fun v1x1 H2 =>
  ob (vFa 0 v1x1) fun v4x3 =>
  ob (vLoad v4x3 H2) fun v5x4 =>
  ob (vFa 1 v1x1) fun v6x5 =>
  ob (vLoad v6x5 H2) fun v7x6 =>
  ob (vInt .mul v5x4 v7x6) fun v8x7 =>
  ob (vFa 0 v1x1) fun v9x8 =>
  ob (vLoad v9x8 H2) fun v10x9 =>
  HT prg I.impl_isSide [v10x9].toArray H2 fun v11x10 H11 =>
  gop v11x10 true (fun K12 => ob (vFa 1 v1x1) fun u => K12 u H11) H11 fun v13x13 H14 =>
  gop v11x10 true (fun K15 => ob (vLoad v13x13 H14) fun u => K15 u H14) H14 fun v14x16 H17 =>
  gop v11x10 true (fun K18 => HT prg I.impl_isSide [v14x16].toArray H17 K18) H17 fun v15x19 H20 =>
  ob (vPick v11x10 v15x19 (.bool false)) fun v16x21 =>
  gop v16x21 true (fun K22 => ob (vFa 2 v1x1) fun u => K22 u H20) H20 fun v18x23 H24 =>
  gop v16x21 true (fun K25 => ob (vLoad v18x23 H24) fun u => K25 u H24) H24 fun v19x26 H27 =>
  gop v16x21 true (fun K28 => K28 v8x7 H27) H27 fun v20x29 H30 =>
  gop v16x21 true (fun K31 => K31 v8x7 H30) H30 fun v21x32 H33 =>
  gop v16x21 true (fun K34 => HT prg I.impl_areMany [v19x26, v20x29, v21x32, (.int .i64 0), (.int .i64 9)].toArray H33 K34) H33 fun v22x35 H36 =>
  ob (vPick v16x21 v22x35 (.bool false)) fun v23x37 =>
  K v23x37 H36
def O.impl_ValidField : Nat → Nat × List Nat := fun i => (0, [])
theorem R.impl_ValidField {a0 : Value} {H : Hp} {K : Value → Hp → Prop} (h : F.impl_ValidField a0 H K) : HT prg I.impl_ValidField [a0].toArray H K :=
  HT_of_fev O.impl_ValidField mixed Try.func31 (by kernel_rfl) (Eq.mpr (by kernel_rfl : fev prg O.impl_ValidField Try.f31 [a0] H K = F.impl_ValidField a0 H K) h)

/-! loop.example/g01381/impl.isPlain: function 20 -/
def F.impl_isPlain (a0 : Value) (H : Hp) (K : Value → Hp → Prop) : Prop :=
  nw (a0 : Value).cells 29 H fun v1x1 H2 =>
  ob (vLoadN 3 v1x1 H2) fun v3x3 =>
  HT prg I.impl_ValidField [v3x3].toArray H2 fun v4x4 H5 =>
  gop v4x4 true (fun K6 => ob (vFa 2 v1x1) fun u => K6 u H5) H5 fun v6x7 H8 =>
  gop v4x4 true (fun K9 => ob (vLoad v6x7 H8) fun u => K9 u H8) H8 fun v7x10 H11 =>
  gop v4x4 true (fun K12 => HT prg I.impl_areWithin [v7x10, (.int .i64 0), (.int .i64 1)].toArray H11 K12) H11 fun v8x13 H14 =>
  ob (vPick v4x4 v8x13 (.bool false)) fun v9x15 =>
  K v9x15 H14
def O.impl_isPlain : Nat → Nat × List Nat := fun i => (0, [])
theorem R.impl_isPlain {a0 : Value} {H : Hp} {K : Value → Hp → Prop} (h : F.impl_isPlain a0 H K) : HT prg I.impl_isPlain [a0].toArray H K :=
  HT_of_fev O.impl_isPlain mixed Try.func20 (by kernel_rfl) (Eq.mpr (by kernel_rfl : fev prg O.impl_isPlain Try.f20 [a0] H K = F.impl_isPlain a0 H K) h)

/-! (loop.example/g01381/impl.Field).clusters$1: function 33 -/
def F.impl_Field_clusters_1 (a0 a1 a2 a3 a4 a5 : Value) (H : Hp) (K : Value → Hp → Prop) : Prop :=
  ob (vFa 1 a2) fun v10x1 =>
  ob (vLoad v10x1 H) fun v11x2 =>
  ob (vInt .mul a0 v11x2) fun v12x3 =>
  ob (vInt .add v12x3 a1) fun v14x4 =>
  ob (vFa 2 a2) fun v15x5 =>
  ob (vLoad v15x5 H) fun v16x6 =>
  ob (vIx 1 v16x6 v14x4) fun v18x7 =>
  ob (vLoad v18x7 H) fun v19x8 =>
  ob (vInt .eql v19x8 (.int .i64 1)) fun v20x9 =>
  gop v20x9 true (fun K10 => ob (vLoad a3 H) fun u => K10 u H) H fun v22x11 H12 =>
  gop v20x9 true (fun K13 => K13 v14x4 H12) H12 fun v23x14 H15 =>
  gop v20x9 true (fun K16 => ob (vIx 1 v22x11 v23x14) fun u => K16 u H15) H15 fun v24x17 H18 =>
  gop v20x9 true (fun K19 => ob (vLoad v24x17 H18) fun u => K19 u H18) H18 fun v25x20 H21 =>
  gop v20x9 true (fun K22 => ob (vInt .eql v25x20 (.int .i64 0)) fun u => K22 u H21) H21 fun v26x23 H24 =>
  ob (vPick v20x9 v26x23 (.bool false)) fun v27x25 =>
  cnd v27x25
    (ob (vLoad a3 H24) fun v28x26 =>
    ob (vLoad a4 H24) fun v30x27 =>
    ob (vIx 1 v28x26 v14x4) fun v31x28 =>
    st 1 v31x28 v30x27 H24 fun H29 =>
    ob (vLoad a5 H29) fun v32x30 =>
    bS 1 1 #[(.int .i64 0)] 2 [(0, v14x4)] H29 fun v34x31 H32 =>
    apd 1 8 #[(.int .i64 0)] 2 v32x30 v34x31 H32 fun v35x33 H34 =>
    st 1 a5 v35x33 H34 fun H35 =>
    K (.tuple #[]) H35)
    (K (.tuple #[]) H24)
def O.impl_Field_clusters_1 : Nat → Nat × List Nat := fun i => (0, [])
theorem R.impl_Field_clusters_1 {a0 a1 a2 a3 a4 a5 : Value} {H : Hp} {K : Value → Hp → Prop} (h : F.impl_Field_clusters_1 a0 a1 a2 a3 a4 a5 H K) : HT prg I.impl_Field_clusters_1 [a0, a1, a2, a3, a4, a5].toArray H K :=
  HT_of_fev O.impl_Field_clusters_1 mixed Try.func33 (by kernel_rfl) (Eq.mpr (by kernel_rfl : fev prg O.impl_Field_clusters_1 Try.f33 [a0, a1, a2, a3, a4, a5] H K = F.impl_Field_clusters_1 a0 a1 a2 a3 a4 a5 H K) h)

/-! (loop.example/g01381/impl.Field).clusters: function 21 -/
def F.impl_Field_clusters (a0 a1 : Value) (H : Hp) (K : Value → Hp → Prop) : Prop :=
  nw (a0 : Value).cells 29 H fun v2x1 H2 =>
  ob (vFa 2 v2x1) fun v12x3 =>
  ob (vLoad v12x3 H2) fun v13x4 =>
  ob (vLenSl v13x4) fun v14x5 =>
  mkS 1 8 #[(.int .i64 0)] 2 v14x5 v14x5 H2 fun v15x6 H7 =>
  nw #[(.slice none 0 0)] 22 H7 fun v6x8 H9 =>
  st 1 v6x8 v15x6 H9 fun H10 =>
  nw #[(.int .i64 0)] 2 H10 fun v7x11 H12 =>
  st 1 v7x11 (.int .i64 0) H12 fun H13 =>
  jn (fun σ14 H14 =>
    ob (vLoad (σ14 6) H14) fun v67x15 =>
    ob (vLoad (σ14 7) H14) fun v68x16 =>
    K (.tuple #[v67x15, v68x16]) H14) fun J14 =>
  ob (vFa 2 v2x1) fun v16x17 =>
  ob (vLoad v16x17 H13) fun v17x18 =>
  ob (vLenSl v17x18) fun v18x19 =>
  lpE (fun Q20 σ20 H20 =>
    ob (vInt .lss (σ20 19) (σ20 18)) fun v20x21 =>
    cnd v20x21
      (jn (fun σ22 H22 =>
      ob (vInt .add (σ22 19) (.int .i64 1)) fun v66x23 =>
      Q20 .normal (up (up σ22 66 v66x23) 19 v66x23) H22) fun J22 =>
    ob (vIx 1 (σ20 17) (σ20 19)) fun v22x24 =>
    ob (vLoad v22x24 H20) fun v23x25 =>
    ob (vInt .neq v23x25 (.int .i64 1)) fun v25x26 =>
    gop v25x26 false (fun K27 => ob (vLoad (σ20 6) H20) fun u => K27 u H20) H20 fun v27x28 H29 =>
    gop v25x26 false (fun K30 => K30 (σ20 19) H29) H29 fun v28x31 H32 =>
    gop v25x26 false (fun K33 => ob (vIx 1 v27x28 v28x31) fun u => K33 u H32) H32 fun v29x34 H35 =>
    gop v25x26 false (fun K36 => ob (vLoad v29x34 H35) fun u => K36 u H35) H35 fun v30x37 H38 =>
    gop v25x26 false (fun K39 => ob (vInt .neq v30x37 (.int .i64 0)) fun u => K39 u H38) H38 fun v31x40 H41 =>
    ob (vPick v25x26 (.bool true) v31x40) fun v32x42 =>
    cnd v32x42
      (J22 (up (up (up (up (up (up (up (up (up (up (up (up (up (up (up σ20 20 v20x21) 21 (σ20 19)) 22 v22x24) 23 v23x25) 8 (σ20 19)) 9 v23x25) 24 v23x25) 25 v25x26) 26 v25x26) 27 v27x28) 28 v28x31) 29 v29x34) 30 v30x37) 31 v31x40) 32 v32x42) H41)
      (ob (vLoad (σ20 7) H41) fun v33x43 =>
    ob (vInt .add v33x43 (.int .i64 1)) fun v34x44 =>
    st 1 (σ20 7) v34x44 H41 fun H45 =>
    ob (vLoad (σ20 6) H45) fun v35x46 =>
    ob (vLoad (σ20 7) H45) fun v37x47 =>
    ob (vIx 1 v35x46 (σ20 19)) fun v38x48 =>
    st 1 v38x48 v37x47 H45 fun H49 =>
    bS 1 1 #[(.int .i64 0)] 2 [(0, (σ20 19))] H49 fun v40x50 H51 =>
    nw #[(.slice none 0 0)] 22 H51 fun v10x52 H53 =>
    st 1 v10x52 v40x50 H53 fun H54 =>
    lpE (fun Q55 σ55 H55 =>
      ob (vLoad (σ55 10) H55) fun v41x56 =>
      ob (vLenSl v41x56) fun v42x57 =>
      ob (vInt .gtr v42x57 (.int .i64 0)) fun v43x58 =>
      cnd v43x58
        (ob (vLoad (σ55 10) H55) fun v44x59 =>
      ob (vLoad (σ55 10) H55) fun v45x60 =>
      ob (vLenSl v45x60) fun v46x61 =>
      ob (vInt .sub v46x61 (.int .i64 1)) fun v47x62 =>
      ob (vIx 1 v44x59 v47x62) fun v48x63 =>
      ob (vLoad v48x63 H55) fun v49x64 =>
      ob (vLoad (σ55 10) H55) fun v50x65 =>
      ob (vLoad (σ55 10) H55) fun v51x66 =>
      ob (vLenSl v51x66) fun v52x67 =>
      ob (vInt .sub v52x67 (.int .i64 1)) fun v53x68 =>
      ob (vSl3 1 v50x65 none (some v53x68) none) fun v54x69 =>
      st 1 (σ55 10) v54x69 H55 fun H70 =>
      ob (vFa 1 (σ55 2)) fun v57x71 =>
      ob (vLoad v57x71 H70) fun v58x72 =>
      ob (vInt .quo v49x64 v58x72) fun v59x73 =>
      ob (vFa 1 (σ55 2)) fun v61x74 =>
      ob (vLoad v61x74 H70) fun v62x75 =>
      ob (vInt .rem v49x64 v62x75) fun v63x76 =>
      callV prg (σ55 1) [v59x73, v63x76, (.func (.func I.impl_Field_clusters_1) #[] #[(σ55 2), (σ55 6), (σ55 7), (σ55 10)])] H70 fun v65x77 H78 =>
      Le H70 H78 ∧ (Q55 .normal (up (up (up (up (up (up (up (up (up (up (up (up (up (up (up (up (up (up (up (up (up (up (up (up (up (up σ55 41 v41x56) 42 v42x57) 43 v43x58) 44 v44x59) 45 v45x60) 46 v46x61) 47 v47x62) 48 v48x63) 49 v49x64) 11 v49x64) 50 v50x65) 51 v51x66) 52 v52x67) 53 v53x68) 54 v54x69) 55 (σ55 1)) 56 v49x64) 57 v57x71) 58 v58x72) 59 v59x73) 60 v49x64) 61 v61x74) 62 v62x75) 63 v63x76) 64 (.func (.func I.impl_Field_clusters_1) #[] #[(σ55 2), (σ55 6), (σ55 7), (σ55 10)])) 65 v65x77) H78))
        (Q55 (.exit 2) (up (up (up σ55 41 v41x56) 42 v42x57) 43 v43x58) H55)) (blkQ 2 (blkQ 1 (thenQ J22 Q20))) (up (up (up (up (up (up (up (up (up (up (up (up (up (up (up (up (up (up (up (up (up (up (up (up σ20 20 v20x21) 21 (σ20 19)) 22 v22x24) 23 v23x25) 8 (σ20 19)) 9 v23x25) 24 v23x25) 25 v25x26) 26 v25x26) 27 v27x28) 28 v28x31) 29 v29x34) 30 v30x37) 31 v31x40) 32 v32x42) 33 v33x43) 34 v34x44) 35 v35x46) 36 (σ20 19)) 37 v37x47) 38 v38x48) 39 (σ20 19)) 40 v40x50) 10 v10x52) H54))
      (Q20 (.exit 0) (up σ20 20 v20x21) H20)) (blkQ 0 (thenQ J14 (retQ prg [(.tmp 4), (.tmp 5)] K))) (up (up (up (up (up (up (up (up (up (up (up (up (up (S0 [a0, a1]) 2 v2x1) 4 (.slice none 0 0)) 5 (.int .i64 0)) 12 v12x3) 13 v13x4) 14 v14x5) 15 v15x6) 6 v6x8) 7 v7x11) 16 v16x17) 17 v17x18) 18 v18x19) 19 (.int .i64 0)) H13
def O.impl_Field_clusters : Nat → Nat × List Nat := fun i => bif Nat.beq i 15 then (0, [0, 1, 2, 3]) else bif Nat.beq i 13 then (0, [0, 1, 2, 3, 4, 5, 6, 7, 8, 9, 10]) else (0, [])
theorem R.impl_Field_clusters {a0 a1 : Value} {H : Hp} {K : Value → Hp → Prop} (h : F.impl_Field_clusters a0 a1 H K) : HT prg I.impl_Field_clusters [a0, a1].toArray H K :=
  HT_of_fev O.impl_Field_clusters mixed Try.func21 (by kernel_rfl) (Eq.mpr (by kernel_rfl : fev prg O.impl_Field_clusters Try.f21 [a0, a1] H K = F.impl_Field_clusters a0 a1 H K) h)

/-! (loop.example/g01381/impl.Field).clusters: function 21 -/
def F.impl_Field_clustersX (a0 a1 : Value) (H : Hp) (K : Value → Hp → Prop) : Prop :=
  nw (a0 : Value).cells 29 H fun v2x1 H2 =>
  ob (vFa 2 v2x1) fun v12x3 =>
  ob (vLoad v12x3 H2) fun v13x4 =>
  ob (vLenSl v13x4) fun v14x5 =>
  mkS 1 8 #[(.int .i64 0)] 2 v14x5 v14x5 H2 fun v15x6 H7 =>
  nw #[(.slice none 0 0)] 22 H7 fun v6x8 H9 =>
  st 1 v6x8 v15x6 H9 fun H10 =>
  nw #[(.int .i64 0)] 2 H10 fun v7x11 H12 =>
  st 1 v7x11 (.int .i64 0) H12 fun H13 =>
  jn (fun σ14 H14 =>
    ob (vLoad (σ14 6) H14) fun v67x15 =>
    ob (vLoad (σ14 7) H14) fun v68x16 =>
    K (.tuple #[v67x15, v68x16]) H14) fun J14 =>
  ob (vFa 2 v2x1) fun v16x17 =>
  ob (vLoad v16x17 H13) fun v17x18 =>
  ob (vLenSl v17x18) fun v18x19 =>
  lpE (fun Q20 σ20 H20 =>
    ob (vInt .lss (σ20 19) (σ20 18)) fun v20x21 =>
    cnd v20x21
      (jn (fun σ22 H22 =>
      ob (vInt .add (σ22 19) (.int .i64 1)) fun v66x23 =>
      Q20 .normal (up (up σ22 66 v66x23) 19 v66x23) H22) fun J22 =>
    ob (vIx 1 (σ20 17) (σ20 19)) fun v22x24 =>
    ob (vLoad v22x24 H20) fun v23x25 =>
    ob (vInt .neq v23x25 (.int .i64 1)) fun v25x26 =>
    gop v25x26 false (fun K27 => ob (vLoad (σ20 6) H20) fun u => K27 u H20) H20 fun v27x28 H29 =>
    gop v25x26 false (fun K30 => K30 (σ20 19) H29) H29 fun v28x31 H32 =>
    gop v25x26 false (fun K33 => ob (vIx 1 v27x28 v28x31) fun u => K33 u H32) H32 fun v29x34 H35 =>
    gop v25x26 false (fun K36 => ob (vLoad v29x34 H35) fun u => K36 u H35) H35 fun v30x37 H38 =>
    gop v25x26 false (fun K39 => ob (vInt .neq v30x37 (.int .i64 0)) fun u => K39 u H38) H38 fun v31x40 H41 =>
    ob (vPick v25x26 (.bool true) v31x40) fun v32x42 =>
    cnd v32x42
      (J22 (up (up (up (up (up (up (up (up (up (up (up (up (up (up (up σ20 20 v20x21) 21 (σ20 19)) 22 v22x24) 23 v23x25) 8 (σ20 19)) 9 v23x25) 24 v23x25) 25 v25x26) 26 v25x26) 27 v27x28) 28 v28x31) 29 v29x34) 30 v30x37) 31 v31x40) 32 v32x42) H41)
      (ob (vLoad (σ20 7) H41) fun v33x43 =>
    ob (vInt .add v33x43 (.int .i64 1)) fun v34x44 =>
    st 1 (σ20 7) v34x44 H41 fun H45 =>
    ob (vLoad (σ20 6) H45) fun v35x46 =>
    ob (vLoad (σ20 7) H45) fun v37x47 =>
    ob (vIx 1 v35x46 (σ20 19)) fun v38x48 =>
    st 1 v38x48 v37x47 H45 fun H49 =>
    bS 1 1 #[(.int .i64 0)] 2 [(0, (σ20 19))] H49 fun v40x50 H51 =>
    nw #[(.slice none 0 0)] 22 H51 fun v10x52 H53 =>
    st 1 v10x52 v40x50 H53 fun H54 =>
    lpE (fun Q55 σ55 H55 =>
      ob (vLoad (σ55 10) H55) fun v41x56 =>
      ob (vLenSl v41x56) fun v42x57 =>
      ob (vInt .gtr v42x57 (.int .i64 0)) fun v43x58 =>
      cnd v43x58
        (ob (vLoad (σ55 10) H55) fun v44x59 =>
      ob (vLoad (σ55 10) H55) fun v45x60 =>
      ob (vLenSl v45x60) fun v46x61 =>
      ob (vInt .sub v46x61 (.int .i64 1)) fun v47x62 =>
      ob (vIx 1 v44x59 v47x62) fun v48x63 =>
      ob (vLoad v48x63 H55) fun v49x64 =>
      ob (vLoad (σ55 10) H55) fun v50x65 =>
      ob (vLoad (σ55 10) H55) fun v51x66 =>
      ob (vLenSl v51x66) fun v52x67 =>
      ob (vInt .sub v52x67 (.int .i64 1)) fun v53x68 =>
      ob (vSl3 1 v50x65 none (some v53x68) none) fun v54x69 =>
      st 1 (σ55 10) v54x69 H55 fun H70 =>
      ob (vFa 1 (σ55 2)) fun v57x71 =>
      ob (vLoad v57x71 H70) fun v58x72 =>
      ob (vInt .quo v49x64 v58x72) fun v59x73 =>
      ob (vFa 1 (σ55 2)) fun v61x74 =>
      ob (vLoad v61x74 H70) fun v62x75 =>
      ob (vInt .rem v49x64 v62x75) fun v63x76 =>
      callV prg (σ55 1) [v59x73, v63x76, (.func (.func I.impl_Field_clusters_1) #[] #[(σ55 2), (σ55 6), (σ55 7), (σ55 10)])] H70 fun v65x77 H78 =>
      Q55 .normal (up (up (up (up (up (up (up (up (up (up (up (up (up (up (up (up (up (up (up (up (up (up (up (up (up (up σ55 41 v41x56) 42 v42x57) 43 v43x58) 44 v44x59) 45 v45x60) 46 v46x61) 47 v47x62) 48 v48x63) 49 v49x64) 11 v49x64) 50 v50x65) 51 v51x66) 52 v52x67) 53 v53x68) 54 v54x69) 55 (σ55 1)) 56 v49x64) 57 v57x71) 58 v58x72) 59 v59x73) 60 v49x64) 61 v61x74) 62 v62x75) 63 v63x76) 64 (.func (.func I.impl_Field_clusters_1) #[] #[(σ55 2), (σ55 6), (σ55 7), (σ55 10)])) 65 v65x77) H78)
        (Q55 (.exit 2) (up (up (up σ55 41 v41x56) 42 v42x57) 43 v43x58) H55)) (blkQ 2 (blkQ 1 (thenQ J22 Q20))) (up (up (up (up (up (up (up (up (up (up (up (up (up (up (up (up (up (up (up (up (up (up (up (up σ20 20 v20x21) 21 (σ20 19)) 22 v22x24) 23 v23x25) 8 (σ20 19)) 9 v23x25) 24 v23x25) 25 v25x26) 26 v25x26) 27 v27x28) 28 v28x31) 29 v29x34) 30 v30x37) 31 v31x40) 32 v32x42) 33 v33x43) 34 v34x44) 35 v35x46) 36 (σ20 19)) 37 v37x47) 38 v38x48) 39 (σ20 19)) 40 v40x50) 10 v10x52) H54))
      (Q20 (.exit 0) (up σ20 20 v20x21) H20)) (blkQ 0 (thenQ J14 (retQ prg [(.tmp 4), (.tmp 5)] K))) (up (up (up (up (up (up (up (up (up (up (up (up (up (S0 [a0, a1]) 2 v2x1) 4 (.slice none 0 0)) 5 (.int .i64 0)) 12 v12x3) 13 v13x4) 14 v14x5) 15 v15x6) 6 v6x8) 7 v7x11) 16 v16x17) 17 v17x18) 18 v18x19) 19 (.int .i64 0)) H13
def O.impl_Field_clustersX : Nat → Nat × List Nat := fun i => bif Nat.beq i 15 then (2, [0, 1, 2, 3]) else bif Nat.beq i 13 then (2, [0, 1, 2, 3, 4, 5, 6, 7, 8, 9, 10]) else (0, [])
theorem R.impl_Field_clustersX {a0 a1 : Value} {H : Hp} {K : Value → Hp → Prop} (h : F.impl_Field_clustersX a0 a1 H K) : HT prg I.impl_Field_clusters [a0, a1].toArray H K :=
  HT_of_fev O.impl_Field_clustersX mixed Try.func21 (by kernel_rfl) (Eq.mpr (by kernel_rfl : fev prg O.impl_Field_clustersX Try.f21 [a0, a1] H K = F.impl_Field_clustersX a0 a1 H K) h)

/-! (loop.example/g01381/impl.Field).has: function 34 -/
def F.impl_Field_has (a0 a1 a2 : Value) (H : Hp) (K : Value → Hp → Prop) : Prop :=
  nw (a0 : Value).cells 29 H fun v3x1 H2 =>
  ob (vFa 0 v3x1) fun v8x3 =>
  ob (vLoad v8x3 H2) fun v9x4 =>
  ob (vInt .sub v9x4 (.int .i64 1)) fun v10x5 =>
  HT prg I.impl_within [a1, (.int .i64 0), v10x5].toArray H2 fun v11x6 H7 =>
  gop v11x6 true (fun K8 => K8 a2 H7) H7 fun v13x9 H10 =>
  gop v11x6 true (fun K11 => ob (vFa 1 v3x1) fun u => K11 u H10) H10 fun v14x12 H13 =>
  gop v11x6 true (fun K14 => ob (vLoad v14x12 H13) fun u => K14 u H13) H13 fun v15x15 H16 =>
  gop v11x6 true (fun K17 => ob (vInt .sub v15x15 (.int .i64 1)) fun u => K17 u H16) H16 fun v16x18 H19 =>
  gop v11x6 true (fun K20 => HT prg I.impl_within [v13x9, (.int .i64 0), v16x18].toArray H19 K20) H19 fun v17x21 H22 =>
  ob (vPick v11x6 v17x21 (.bool false)) fun v18x23 =>
  K v18x23 H22
def O.impl_Field_has : Nat → Nat × List Nat := fun i => (0, [])
theorem R.impl_Field_has {a0 a1 a2 : Value} {H : Hp} {K : Value → Hp → Prop} (h : F.impl_Field_has a0 a1 a2 H K) : HT prg I.impl_Field_has [a0, a1, a2].toArray H K :=
  HT_of_fev O.impl_Field_has mixed Try.func34 (by kernel_rfl) (Eq.mpr (by kernel_rfl : fev prg O.impl_Field_has Try.f34 [a0, a1, a2] H K = F.impl_Field_has a0 a1 a2 H K) h)

/-! (loop.example/g01381/impl.Field).corners: function 22 -/
def F.impl_Field_corners (a0 a1 a2 a3 : Value) (H : Hp) (K : Value → Hp → Prop) : Prop :=
  nw (a0 : Value).cells 29 H fun v4x1 H2 =>
  ob (vInt .sub a1 (.int .i64 1)) fun v11x3 =>
  lpE (fun Q4 σ4 H4 =>
    ob (vInt .add (σ4 1) (.int .i64 1)) fun v14x5 =>
    ob (vInt .leq (σ4 8) v14x5) fun v15x6 =>
    cnd v15x6
      (jn (fun σ7 H7 =>
      ob (vInt .add (σ7 8) (.int .i64 1)) fun v17x8 =>
      Q4 .normal (up (up (up σ7 16 (σ7 8)) 17 v17x8) 8 v17x8) H7) fun J7 =>
    ob (vInt .sub (σ4 2) (.int .i64 1)) fun v19x9 =>
    lpE (fun Q10 σ10 H10 =>
      ob (vInt .add (σ10 2) (.int .i64 1)) fun v22x11 =>
      ob (vInt .leq (σ10 9) v22x11) fun v23x12 =>
      cnd v23x12
        (ob (vLoadN 3 (σ10 4) H10) fun v26x13 =>
      HT prg I.impl_Field_has [v26x13, (σ10 8), (σ10 9)].toArray H10 fun v29x14 H15 =>
      gop v29x14 true (fun K16 => K16 (σ10 8) H15) H15 fun v31x17 H18 =>
      gop v29x14 true (fun K19 => K19 (σ10 1) H18) H18 fun v32x20 H21 =>
      gop v29x14 true (fun K22 => ob (vInt .neq v31x17 v32x20) fun u => K22 u H21) H21 fun v33x23 H24 =>
      gop v29x14 true (fun K25 => K25 v33x23 H24) H24 fun v34x26 H27 =>
      gop v34x26 false (fun K28 => K28 (σ10 9) H27) H27 fun v35x29 H30 =>
      gop v34x26 false (fun K31 => K31 (σ10 2) H30) H30 fun v36x32 H33 =>
      gop v34x26 false (fun K34 => ob (vInt .neq v35x29 v36x32) fun u => K34 u H33) H33 fun v37x35 H36 =>
      gop v29x14 true (fun K37 => ob (vPick v34x26 (.bool true) v37x35) fun u => K37 u H36) H36 fun v38x38 H39 =>
      ob (vPick v29x14 v38x38 (.bool false)) fun v39x40 =>
      cnd v39x40
        (callV prg (σ10 3) [(σ10 8), (σ10 9)] H39 fun v43x41 H42 =>
        ob (vInt .add (σ10 9) (.int .i64 1)) fun v25x43 =>
      Q10 .normal (up (up (up (up (up (up (up (up (up (up (up (up (up (up (up (up (up (up (up (up (up (up (up (up (up σ10 20 (σ10 9)) 21 (σ10 2)) 22 v22x11) 23 v23x12) 26 v26x13) 27 (σ10 8)) 28 (σ10 9)) 29 v29x14) 30 v29x14) 31 v31x17) 32 v32x20) 33 v33x23) 34 v34x26) 35 v35x29) 36 v36x32) 37 v37x35) 38 v38x38) 39 v39x40) 40 (σ10 3)) 41 (σ10 8)) 42 (σ10 9)) 43 v43x41) 24 (σ10 9)) 25 v25x43) 9 v25x43) H42)
        (ob (vInt .add (σ10 9) (.int .i64 1)) fun v25x44 =>
      Q10 .normal (up (up (up (up (up (up (up (up (up (up (up (up (up (up (up (up (up (up (up (up (up σ10 20 (σ10 9)) 21 (σ10 2)) 22 v22x11) 23 v23x12) 26 v26x13) 27 (σ10 8)) 28 (σ10 9)) 29 v29x14) 30 v29x14) 31 v31x17) 32 v32x20) 33 v33x23) 34 v34x26) 35 v35x29) 36 v36x32) 37 v37x35) 38 v38x38) 39 v39x40) 24 (σ10 9)) 25 v25x44) 9 v25x44) H39))
        (Q10 (.exit 2) (up (up (up (up σ10 20 (σ10 9)) 21 (σ10 2)) 22 v22x11) 23 v23x12) H10)) (blkQ 2 (blkQ 1 (thenQ J7 Q4))) (up (up (up (up (up (up (up σ4 12 (σ4 8)) 13 (σ4 1)) 14 v14x5) 15 v15x6) 18 (σ4 2)) 19 v19x9) 9 v19x9) H4)
      (Q4 (.exit 0) (up (up (up (up σ4 12 (σ4 8)) 13 (σ4 1)) 14 v14x5) 15 v15x6) H4)) (blkQ 0 (retQ prg [] K)) (up (up (up (up (S0 [a0, a1, a2, a3]) 4 v4x1) 10 a1) 11 v11x3) 8 v11x3) H2
def O.impl_Field_corners : Nat → Nat × List Nat := fun i => (0, [])
theorem R.impl_Field_corners {a0 a1 a2 a3 : Value} {H : Hp} {K : Value → Hp → Prop} (h : F.impl_Field_corners a0 a1 a2 a3 H K) : HT prg I.impl_Field_corners [a0, a1, a2, a3].toArray H K :=
  HT_of_fev O.impl_Field_corners mixed Try.func22 (by kernel_rfl) (Eq.mpr (by kernel_rfl : fev prg O.impl_Field_corners Try.f22 [a0, a1, a2, a3] H K = F.impl_Field_corners a0 a1 a2 a3 H K) h)

/-! loop.example/g01381/impl.madeField: function 23 -/
def F.impl_madeField (a0 a1 a2 : Value) (H : Hp) (K : Value → Hp → Prop) : Prop :=
  nw #[(.int .i64 0), (.int .i64 0), (.slice none 0 0)] 29 H fun v6x1 H2 =>
  ob (vBuild [(0, 1), (1, 1), (2, 1)] (.agg #[(.int .i64 0), (.int .i64 0), (.slice none 0 0)]) [(0, a0), (1, a1)]) fun v12x3 =>
  nw #[(.int .i64 0), (.int .i64 0), (.slice none 0 0)] 29 H2 fun v7x4 H5 =>
  st 3 v7x4 v12x3 H5 fun H6 =>
  jn (fun σ7 H7 =>
    ob (vLoadN 3 (σ7 7) H7) fun v32x8 =>
    st 3 (σ7 6) v32x8 H7 fun H9 =>
    ob (vLoadN 3 (σ7 6) H9) fun u10 => K u10 H9) fun J7 =>
  lpE (fun Q11 σ11 H11 =>
    ob (vInt .lss (σ11 14) (σ11 13)) fun v15x12 =>
    cnd v15x12
      (jn (fun σ13 H13 =>
      ob (vInt .add (σ13 14) (.int .i64 1)) fun v31x14 =>
      Q11 .normal (up (up σ13 31 v31x14) 14 v31x14) H13) fun J13 =>
    lpE (fun Q15 σ15 H15 =>
      ob (vInt .lss (σ15 18) (σ15 17)) fun v19x16 =>
      cnd v19x16
        (ob (vFa 2 (σ15 7)) fun v21x17 =>
      ob (vLoad v21x17 H15) fun v22x18 =>
      callV prg (σ15 2) [(σ15 8), (σ15 18)] H15 fun v26x19 H20 =>
      Le H15 H20 ∧ (bS 1 1 #[(.int .i64 0)] 2 [(0, v26x19)] H20 fun v27x21 H22 =>
      apd 1 8 #[(.int .i64 0)] 2 v22x18 v27x21 H22 fun v28x23 H24 =>
      ob (vFa 2 (σ15 7)) fun v29x25 =>
      st 1 v29x25 v28x23 H24 fun H26 =>
      ob (vInt .add (σ15 18) (.int .i64 1)) fun v30x27 =>
      Q15 .normal (up (up (up (up (up (up (up (up (up (up (up (up (up (up σ15 19 v19x16) 20 (σ15 18)) 9 (σ15 18)) 21 v21x17) 22 v22x18) 23 (σ15 2)) 24 (σ15 8)) 25 (σ15 18)) 26 v26x19) 27 v27x21) 28 v28x23) 29 v29x25) 30 v30x27) 18 v30x27) H26))
        (Q15 (.exit 2) (up σ15 19 v19x16) H15)) (blkQ 2 (blkQ 1 (thenQ J13 Q11))) (up (up (up (up (up σ11 15 v15x12) 16 (σ11 14)) 8 (σ11 14)) 17 (σ11 1)) 18 (.int .i64 0)) H11)
      (Q11 (.exit 0) (up σ11 15 v15x12) H11)) (blkQ 0 (thenQ J7 (retQ prg [(.cell 6 29)] K))) (up (up (up (up (up (up (up (S0 [a0, a1, a2]) 6 v6x1) 10 a0) 11 a1) 12 v12x3) 7 v7x4) 13 a0) 14 (.int .i64 0)) H6
def O.impl_madeField : Nat → Nat × List Nat := fun i => bif Nat.beq i 8 then (0, [0, 1, 2, 3, 4, 5, 6, 7, 8, 9]) else (0, [])
theorem R.impl_madeField {a0 a1 a2 : Value} {H : Hp} {K : Value → Hp → Prop} (h : F.impl_madeField a0 a1 a2 H K) : HT prg I.impl_madeField [a0, a1, a2].toArray H K :=
  HT_of_fev O.impl_madeField mixed Try.func23 (by kernel_rfl) (Eq.mpr (by kernel_rfl : fev prg O.impl_madeField Try.f23 [a0, a1, a2] H K = F.impl_madeField a0 a1 a2 H K) h)

/-! loop.example/g01381/impl.madeField: function 23 -/
def F.impl_madeFieldX (a0 a1 a2 : Value) (H : Hp) (K : Value → Hp → Prop) : Prop :=
  nw #[(.int .i64 0), (.int .i64 0), (.slice none 0 0)] 29 H fun v6x1 H2 =>
  ob (vBuild [(0, 1), (1, 1), (2, 1)] (.agg #[(.int .i64 0), (.int .i64 0), (.slice none 0 0)]) [(0, a0), (1, a1)]) fun v12x3 =>
  nw #[(.int .i64 0), (.int .i64 0), (.slice none 0 0)] 29 H2 fun v7x4 H5 =>
  st 3 v7x4 v12x3 H5 fun H6 =>
  jn (fun σ7 H7 =>
    ob (vLoadN 3 (σ7 7) H7) fun v32x8 =>
    st 3 (σ7 6) v32x8 H7 fun H9 =>
    ob (vLoadN 3 (σ7 6) H9) fun u10 => K u10 H9) fun J7 =>
  lpE (fun Q11 σ11 H11 =>
    ob (vInt .lss (σ11 14) (σ11 13)) fun v15x12 =>
    cnd v15x12
      (jn (fun σ13 H13 =>
      ob (vInt .add (σ13 14) (.int .i64 1)) fun v31x14 =>
      Q11 .normal (up (up σ13 31 v31x14) 14 v31x14) H13) fun J13 =>
    lpE (fun Q15 σ15 H15 =>
      ob (vInt .lss (σ15 18) (σ15 17)) fun v19x16 =>
      cnd v19x16
        ((ob (vFa 2 (σ15 7)) fun v21x17 =>
      ob (vLoad v21x17 H15) fun v22x18 =>
      callV prg (σ15 2) [(σ15 8), (σ15 18)] H15 fun v26x19 H20 =>
      bS 1 1 #[(.int .i64 0)] 2 [(0, v26x19)] H20 fun v27x21 H22 =>
      apd 1 8 #[(.int .i64 0)] 2 v22x18 v27x21 H22 fun v28x23 H24 =>
      ob (vFa 2 (σ15 7)) fun v29x25 =>
      st 1 v29x25 v28x23 H24 fun H26 =>
      ob (vInt .add (σ15 18) (.int .i64 1)) fun v30x27 =>
      Q15 .normal (up (up (up (up (up (up (up (up (up (up (up (up (up (up σ15 19 v19x16) 20 (σ15 18)) 9 (σ15 18)) 21 v21x17) 22 v22x18) 23 (σ15 2)) 24 (σ15 8)) 25 (σ15 18)) 26 v26x19) 27 v27x21) 28 v28x23) 29 v29x25) 30 v30x27) 18 v30x27) H26) ∧ (ob (vFa 2 (σ15 7)) fun v21x28 =>
      callV prg (σ15 2) [(σ15 8), (σ15 18)] H15 fun v26x29 H30 =>
      ob (vLoad v21x28 H30) fun v22x31 =>
      bS 1 1 #[(.int .i64 0)] 2 [(0, v26x29)] H30 fun v27x32 H33 =>
      apd 1 8 #[(.int .i64 0)] 2 v22x31 v27x32 H33 fun v28x34 H35 =>
      ob (vFa 2 (σ15 7)) fun v29x36 =>
      st 1 v29x36 v28x34 H35 fun H37 =>
      ob (vInt .add (σ15 18) (.int .i64 1)) fun v30x38 =>
      Q15 .normal (up (up (up (up (up (up (up (up (up (up (up (up (up (up σ15 19 v19x16) 20 (σ15 18)) 9 (σ15 18)) 21 v21x28) 23 (σ15 2)) 24 (σ15 8)) 25 (σ15 18)) 26 v26x29) 22 v22x31) 27 v27x32) 28 v28x34) 29 v29x36) 30 v30x38) 18 v30x38) H37))
        (Q15 (.exit 2) (up σ15 19 v19x16) H15)) (blkQ 2 (blkQ 1 (thenQ J13 Q11))) (up (up (up (up (up σ11 15 v15x12) 16 (σ11 14)) 8 (σ11 14)) 17 (σ11 1)) 18 (.int .i64 0)) H11)
      (Q11 (.exit 0) (up σ11 15 v15x12) H11)) (blkQ 0 (thenQ J7 (retQ prg [(.cell 6 29)] K))) (up (up (up (up (up (up (up (S0 [a0, a1, a2]) 6 v6x1) 10 a0) 11 a1) 12 v12x3) 7 v7x4) 13 a0) 14 (.int .i64 0)) H6
def O.impl_madeFieldX : Nat → Nat × List Nat := fun i => bif Nat.beq i 8 then (2, [1001, 1005, 0, 1, 2, 3, 4, 5, 6, 7, 8, 9, 0, 2, 3, 4, 5, 1, 6, 7, 8, 9]) else (0, [])
theorem R.impl_madeFieldX {a0 a1 a2 : Value} {H : Hp} {K : Value → Hp → Prop} (h : F.impl_madeFieldX a0 a1 a2 H K) : HT prg I.impl_madeField [a0, a1, a2].toArray H K :=
  HT_of_fev O.impl_madeFieldX mixed Try.func23 (by kernel_rfl) (Eq.mpr (by kernel_rfl : fev prg O.impl_madeFieldX Try.f23 [a0, a1, a2] H K = F.impl_madeFieldX a0 a1 a2 H K) h)

/-! loop.example/g01381/impl.bit: function 25 -/
def F.impl_bit (a0 : Value) (H : Hp) (K : Value → Hp → Prop) : Prop :=
  cnd a0
    (K (.int .i64 1) H)
    (K (.int .i64 0) H)
def O.impl_bit : Nat → Nat × List Nat := fun i => (0, [])
theorem R.impl_bit {a0 : Value} {H : Hp} {K : Value → Hp → Prop} (h : F.impl_bit a0 H K) : HT prg I.impl_bit [a0].toArray H K :=
  HT_of_fev O.impl_bit mixed Try.func25 (by kernel_rfl) (Eq.mpr (by kernel_rfl : fev prg O.impl_bit Try.f25 [a0] H K = F.impl_bit a0 H K) h)

/-! loop.example/g01381/impl.PartsOf$1: function 24 -/
def F.impl_PartsOf_1 (a0 a1 a2 a3 a4 : Value) (H : Hp) (K : Value → Hp → Prop) : Prop :=
  ob (vLoad a2 H) fun v8x1 =>
  ob (vFa 1 a3) fun v10x2 =>
  ob (vLoad v10x2 H) fun v11x3 =>
  ob (vInt .mul a0 v11x3) fun v12x4 =>
  ob (vInt .add v12x4 a1) fun v14x5 =>
  ob (vIx 1 v8x1 v14x5) fun v15x6 =>
  ob (vLoad v15x6 H) fun v16x7 =>
  ob (vLoad a4 H) fun v17x8 =>
  ob (vInt .add v17x8 (.int .i64 1)) fun v18x9 =>
  ob (vInt .eql v16x7 v18x9) fun v19x10 =>
  HT prg I.impl_bit [v19x10].toArray H fun v20x11 H12 =>
  Le H H12 ∧ (K v20x11 H12)
def O.impl_PartsOf_1 : Nat → Nat × List Nat := fun i => bif Nat.beq i 1 then (0, [0, 1, 2, 3, 4, 5, 6, 7, 8, 9, 10, 11, 12, 13]) else (0, [])
theorem R.impl_PartsOf_1 {a0 a1 a2 a3 a4 : Value} {H : Hp} {K : Value → Hp → Prop} (h : F.impl_PartsOf_1 a0 a1 a2 a3 a4 H K) : HT prg I.impl_PartsOf_1 [a0, a1, a2, a3, a4].toArray H K :=
  HT_of_fev O.impl_PartsOf_1 mixed Try.func24 (by kernel_rfl) (Eq.mpr (by kernel_rfl : fev prg O.impl_PartsOf_1 Try.f24 [a0, a1, a2, a3, a4] H K = F.impl_PartsOf_1 a0 a1 a2 a3 a4 H K) h)

/-! (loop.example/g01381/impl.Field).at: function 43 -/
def F.impl_Field_at (a0 a1 a2 : Value) (H : Hp) (K : Value → Hp → Prop) : Prop :=
  nw (a0 : Value).cells 29 H fun v3x1 H2 =>
  ob (vFa 2 v3x1) fun v7x3 =>
  ob (vLoad v7x3 H2) fun v8x4 =>
  ob (vFa 1 v3x1) fun v10x5 =>
  ob (vLoad v10x5 H2) fun v11x6 =>
  ob (vInt .mul a1 v11x6) fun v12x7 =>
  ob (vInt .add v12x7 a2) fun v14x8 =>
  ob (vIx 1 v8x4 v14x8) fun v15x9 =>
  ob (vLoad v15x9 H2) fun v16x10 =>
  K v16x10 H2
def O.impl_Field_at : Nat → Nat × List Nat := fun i => (0, [])
theorem R.impl_Field_at {a0 a1 a2 : Value} {H : Hp} {K : Value → Hp → Prop} (h : F.impl_Field_at a0 a1 a2 H K) : HT prg I.impl_Field_at [a0, a1, a2].toArray H K :=
  HT_of_fev O.impl_Field_at mixed Try.func43 (by kernel_rfl) (Eq.mpr (by kernel_rfl : fev prg O.impl_Field_at Try.f43 [a0, a1, a2] H K = F.impl_Field_at a0 a1 a2 H K) h)

/-! (loop.example/g01381/impl.Field).cut$1: function 42 -/
def F.impl_Field_cut_1 (a0 a1 a2 a3 a4 : Value) (H : Hp) (K : Value → Hp → Prop) : Prop :=
  ob (vLoadN 3 a2 H) fun v8x1 =>
  ob (vLoad a3 H) fun v9x2 =>
  ob (vInt .add v9x2 a0) fun v11x3 =>
  ob (vLoad a4 H) fun v12x4 =>
  ob (vInt .add v12x4 a1) fun v14x5 =>
  HT prg I.impl_Field_at [v8x1, v11x3, v14x5].toArray H fun v15x6 H7 =>
  K v15x6 H7
def O.impl_Field_cut_1 : Nat → Nat × List Nat := fun i => (0, [])
theorem R.impl_Field_cut_1 {a0 a1 a2 a3 a4 : Value} {H : Hp} {K : Value → Hp → Prop} (h : F.impl_Field_cut_1 a0 a1 a2 a3 a4 H K) : HT prg I.impl_Field_cut_1 [a0, a1, a2, a3, a4].toArray H K :=
  HT_of_fev O.impl_Field_cut_1 mixed Try.func42 (by kernel_rfl) (Eq.mpr (by kernel_rfl : fev prg O.impl_Field_cut_1 Try.f42 [a0, a1, a2, a3, a4] H K = F.impl_Field_cut_1 a0 a1 a2 a3 a4 H K) h)

/-! (loop.example/g01381/impl.Field).cut: function 35 -/
def F.impl_Field_cut (a0 a1 a2 a3 a4 : Value) (H : Hp) (K : Value → Hp → Prop) : Prop :=
  nw (a0 : Value).cells 29 H fun v5x1 H2 =>
  nw (a1 : Value).cells 2 H2 fun v6x3 H4 =>
  nw (a2 : Value).cells 2 H4 fun v7x5 H6 =>
  nw #[(.int .i64 0), (.int .i64 0), (.slice none 0 0)] 29 H6 fun v10x7 H8 =>
  HT prg I.impl_madeField [a3, a4, (.func (.func I.impl_Field_cut_1) #[] #[v5x1, v6x3, v7x5])].toArray H8 fun v14x9 H10 =>
  st 3 v10x7 v14x9 H10 fun H11 =>
  ob (vLoadN 3 v10x7 H11) fun u12 => K u12 H11
def O.impl_Field_cut : Nat → Nat × List Nat := fun i => (0, [])
theorem R.impl_Field_cut {a0 a1 a2 a3 a4 : Value} {H : Hp} {K : Value → Hp → Prop} (h : F.impl_Field_cut a0 a1 a2 a3 a4 H K) : HT prg I.impl_Field_cut [a0, a1, a2, a3, a4].toArray H K :=
  HT_of_fev O.impl_Field_cut mixed Try.func35 (by kernel_rfl) (Eq.mpr (by kernel_rfl : fev prg O.impl_Field_cut Try.f35 [a0, a1, a2, a3, a4] H K = F.impl_Field_cut a0 a1 a2 a3 a4 H K) h)

/-! (loop.example/g01381/impl.Field).trimmed: function 26 -/
def F.impl_Field_trimmed (a0 : Value) (H : Hp) (K : Value → Hp → Prop) : Prop :=
  nw (a0 : Value).cells 29 H fun v1x1 H2 =>
  nw #[(.int .i64 0), (.int .i64 0), (.slice none 0 0)] 29 H2 fun v2x3 H4 =>
  ob (vFa 0 v1x1) fun v14x5 =>
  ob (vLoad v14x5 H4) fun v15x6 =>
  ob (vFa 1 v1x1) fun v16x7 =>
  ob (vLoad v16x7 H4) fun v17x8 =>
  jn (fun σ9 H9 =>
    ob (vInt .lss (σ9 8) (.int .i64 0)) fun v50x10 =>
    cnd v50x10
      (ob (vBuild [(0, 1), (1, 1), (2, 1)] (.agg #[(.int .i64 0), (.int .i64 0), (.slice none 0 0)]) []) fun v51x11 =>
      st 3 (σ9 2) v51x11 H9 fun H12 =>
      ob (vLoadN 3 (σ9 2) H12) fun u13 => K (.tuple #[u13, (.int .i64 0), (.int .i64 0), (.bool false)]) H12)
      (ob (vLoadN 3 (σ9 1) H9) fun v52x14 =>
    ob (vInt .sub (σ9 8) (σ9 6)) fun v57x15 =>
    ob (vInt .add v57x15 (.int .i64 1)) fun v58x16 =>
    ob (vInt .sub (σ9 9) (σ9 7)) fun v61x17 =>
    ob (vInt .add v61x17 (.int .i64 1)) fun v62x18 =>
    HT prg I.impl_Field_cut [v52x14, (σ9 6), (σ9 7), v58x16, v62x18].toArray H9 fun v63x19 H20 =>
    st 3 (σ9 2) v63x19 H20 fun H21 =>
    ob (vLoadN 3 (σ9 2) H21) fun u22 => K (.tuple #[u22, (σ9 6), (σ9 7), (.bool true)]) H21)) fun J9 =>
  ob (vFa 2 v1x1) fun v18x23 =>
  ob (vLoad v18x23 H4) fun v19x24 =>
  ob (vLenSl v19x24) fun v20x25 =>
  lpE (fun Q26 σ26 H26 =>
    ob (vInt .lss (σ26 21) (σ26 20)) fun v22x27 =>
    cnd v22x27
      (ob (vIx 1 (σ26 19) (σ26 21)) fun v24x28 =>
    ob (vLoad v24x28 H26) fun v25x29 =>
    ob (vInt .eql v25x29 (.int .i64 1)) fun v27x30 =>
    cnd v27x30
      (ob (vFa 1 (σ26 1)) fun v29x31 =>
      ob (vLoad v29x31 H26) fun v30x32 =>
      ob (vInt .quo (σ26 21) v30x32) fun v31x33 =>
      ob (vFa 1 (σ26 1)) fun v33x34 =>
      ob (vLoad v33x34 H26) fun v34x35 =>
      ob (vInt .rem (σ26 21) v34x35) fun v35x36 =>
      ob (vMx false (σ26 6) [v31x33]) fun v38x37 =>
      ob (vMx false (σ26 7) [v35x36]) fun v41x38 =>
      ob (vMx true (σ26 8) [v31x33]) fun v44x39 =>
      ob (vMx true (σ26 9) [v35x36]) fun v47x40 =>
      ob (vInt .add (σ26 21) (.int .i64 1)) fun v48x41 =>
    Q26 .normal (up (up (up (up (up (up (up (up (up (up (up (up (up (up (up (up (up (up (up (up (up (up (up (up (up (up (up (up (up (up (up (up (up (up (up (up σ26 22 v22x27) 23 (σ26 21)) 24 v24x28) 25 v25x29) 10 (σ26 21)) 11 v25x29) 26 v25x29) 27 v27x30) 28 (σ26 21)) 29 v29x31) 30 v30x32) 31 v31x33) 32 (σ26 21)) 33 v33x34) 34 v34x35) 35 v35x36) 12 v31x33) 13 v35x36) 36 (σ26 6)) 37 v31x33) 38 v38x37) 39 (σ26 7)) 40 v35x36) 41 v41x38) 42 (σ26 8)) 43 v31x33) 44 v44x39) 45 (σ26 9)) 46 v35x36) 47 v47x40) 6 v38x37) 7 v41x38) 8 v44x39) 9 v47x40) 48 v48x41) 21 v48x41) H26)
      (ob (vInt .add (σ26 21) (.int .i64 1)) fun v48x42 =>
    Q26 .normal (up (up (up (up (up (up (up (up (up (up σ26 22 v22x27) 23 (σ26 21)) 24 v24x28) 25 v25x29) 10 (σ26 21)) 11 v25x29) 26 v25x29) 27 v27x30) 48 v48x42) 21 v48x42) H26))
      (Q26 (.exit 0) (up σ26 22 v22x27) H26)) (blkQ 0 (thenQ J9 (retQ prg [(.cell 2 29), (.tmp 3), (.tmp 4), (.tmp 5)] K))) (up (up (up (up (up (up (up (up (up (up (up (up (up (up (up (up (up (S0 [a0]) 1 v1x1) 2 v2x3) 3 (.int .i64 0)) 4 (.int .i64 0)) 5 (.bool false)) 14 v14x5) 15 v15x6) 16 v16x7) 17 v17x8) 6 v15x6) 7 v17x8) 8 (.int .i64 (-1))) 9 (.int .i64 (-1))) 18 v18x23) 19 v19x24) 20 v20x25) 21 (.int .i64 0)) H4
def O.impl_Field_trimmed : Nat → Nat × List Nat := fun i => bif Nat.beq i 1 then (0, [0, 1, 2, 3, 4, 5, 6, 7]) else bif Nat.beq i 6 then (0, [0, 1, 2, 3, 4, 5, 6, 7, 8, 9]) else (0, [])
theorem R.impl_Field_trimmed {a0 : Value} {H : Hp} {K : Value → Hp → Prop} (h : F.impl_Field_trimmed a0 H K) : HT prg I.impl_Field_trimmed [a0].toArray H K :=
  HT_of_fev O.impl_Field_trimmed mixed Try.func26 (by kernel_rfl) (Eq.mpr (by kernel_rfl : fev prg O.impl_Field_trimmed Try.f26 [a0] H K = F.impl_Field_trimmed a0 H K) h)

/-! loop.example/g01381/impl.PartsOf: function 7 -/
def F.impl_PartsOf (a0 : Value) (H : Hp) (K : Value → Hp → Prop) : Prop :=
  nw (a0 : Value).cells 29 H fun v1x1 H2 =>
  ob (vLoadN 3 v1x1 H2) fun v15x3 =>
  HT prg I.impl_isPlain [v15x3].toArray H2 fun v16x4 H5 =>
  ob (vUn .not v16x4) fun v17x6 =>
  cnd v17x6
    (K (.tuple #[(.slice none 0 0), (.slice none 0 0), (.bool false)]) H5)
    (ob (vLoadN 3 v1x1 H5) fun v19x7 =>
  ob (vLoadN 3 v1x1 H5) fun v20x8 =>
  HT prg I.impl_Field_clusters [v19x7, (.func (.func I.impl_Field_corners) #[v20x8] #[])].toArray H5 fun v22x9 H10 =>
  ob (vExt v22x9 0) fun v23x11 =>
  ob (vExt v22x9 1) fun v24x12 =>
  nw #[(.slice none 0 0)] 22 H10 fun v5x13 H14 =>
  st 1 v5x13 v23x11 H14 fun H15 =>
  bS 3 0 #[(.int .i64 0), (.int .i64 0), (.slice none 0 0)] 29 [] H15 fun v25x16 H17 =>
  bS 1 0 #[(.int .i64 0)] 2 [] H17 fun v26x18 H19 =>
  jn (fun σ20 H20 =>
    K (.tuple #[(σ20 7), (σ20 8), (.bool true)]) H20) fun J20 =>
  lpE (fun Q21 σ21 H21 =>
    ob (vInt .lss (σ21 28) (σ21 27)) fun v29x22 =>
    cnd v29x22
      (nw #[(.int .i64 0)] 2 H21 fun v9x23 H24 =>
    st 1 v9x23 (σ21 28) H24 fun H25 =>
    ob (vFa 0 (σ21 1)) fun v31x26 =>
    ob (vLoad v31x26 H25) fun v32x27 =>
    ob (vFa 1 (σ21 1)) fun v33x28 =>
    ob (vLoad v33x28 H25) fun v34x29 =>
    HT prg I.impl_madeField [v32x27, v34x29, (.func (.func I.impl_PartsOf_1) #[] #[(σ21 5), (σ21 1), v9x23])].toArray H25 fun v36x30 H31 =>
    nw #[(.int .i64 0), (.int .i64 0), (.slice none 0 0)] 29 H31 fun v10x32 H33 =>
    st 3 v10x32 v36x30 H33 fun H34 =>
    ob (vLoadN 3 v10x32 H34) fun v38x35 =>
    HT prg I.impl_Field_trimmed [v38x35].toArray H34 fun v39x36 H37 =>
    ob (vExt v39x36 0) fun v40x38 =>
    ob (vExt v39x36 1) fun v41x39 =>
    ob (vExt v39x36 2) fun v42x40 =>
    ob (vExt v39x36 3) fun v43x41 =>
    nw #[(.int .i64 0), (.int .i64 0), (.slice none 0 0)] 29 H37 fun v11x42 H43 =>
    st 3 v11x42 v40x38 H43 fun H44 =>
    ob (vLoadN 3 v11x42 H44) fun v45x45 =>
    bS 3 1 #[(.int .i64 0), (.int .i64 0), (.slice none 0 0)] 29 [(0, v45x45)] H44 fun v46x46 H47 =>
    apd 3 40 #[(.int .i64 0), (.int .i64 0), (.slice none 0 0)] 29 (σ21 7) v46x46 H47 fun v47x48 H49 =>
    bS 1 2 #[(.int .i64 0)] 2 [(0, v41x39), (1, v42x40)] H49 fun v51x50 H51 =>
    apd 1 8 #[(.int .i64 0)] 2 (σ21 8) v51x50 H51 fun v52x52 H53 =>
    ob (vInt .add (σ21 28) (.int .i64 1)) fun v53x54 =>
    Q21 .normal (up (up (up (up (up (up (up (up (up (up (up (up (up (up (up (up (up (up (up (up (up (up (up (up (up (up (up (up (up (up (up (up (up (up σ21 29 v29x22) 30 (σ21 28)) 9 v9x23) 31 v31x26) 32 v32x27) 33 v33x28) 34 v34x29) 35 (.func (.func I.impl_PartsOf_1) #[] #[(σ21 5), (σ21 1), v9x23])) 36 v36x30) 10 v10x32) 38 v38x35) 39 v39x36) 37 v39x36) 40 v40x38) 41 v41x39) 42 v42x40) 43 v43x41) 11 v11x42) 12 v41x39) 13 v42x40) 14 v43x41) 44 (σ21 7)) 45 v45x45) 46 v46x46) 47 v47x48) 48 (σ21 8)) 49 v41x39) 50 v42x40) 51 v51x50) 52 v52x52) 7 v47x48) 8 v52x52) 53 v53x54) 28 v53x54) H53)
      (Q21 (.exit 0) (up σ21 29 v29x22) H21)) (blkQ 0 (thenQ J20 (retQ prg [(.tmp 2), (.tmp 3), (.tmp 4)] K))) (up (up (up (up (up (up (up (up (up (up (up (up (up (up (up (up (up (up (up (up (up (up (S0 [a0]) 1 v1x1) 2 (.slice none 0 0)) 3 (.slice none 0 0)) 4 (.bool false)) 15 v15x3) 16 v16x4) 17 v17x6) 19 v19x7) 20 v20x8) 21 (.func (.func I.impl_Field_corners) #[v20x8] #[])) 22 v22x9) 18 v22x9) 23 v23x11) 24 v24x12) 5 v5x13) 6 v24x12) 25 v25x16) 26 v26x18) 7 v25x16) 8 v26x18) 27 v24x12) 28 (.int .i64 0)) H19)
def O.impl_PartsOf : Nat → Nat × List Nat := fun i => (0, [])
theorem R.impl_PartsOf {a0 : Value} {H : Hp} {K : Value → Hp → Prop} (h : F.impl_PartsOf a0 H K) : HT prg I.impl_PartsOf [a0].toArray H K :=
  HT_of_fev O.impl_PartsOf mixed Try.func7 (by kernel_rfl) (Eq.mpr (by kernel_rfl : fev prg O.impl_PartsOf Try.f7 [a0] H K = F.impl_PartsOf a0 H K) h)

/-! loop.example/g01381/laws.eqInt64S: function 9 -/
def F.laws_eqInt64S (a0 a1 : Value) (H : Hp) (K : Value → Hp → Prop) : Prop :=
  ob (vLenSl a0) fun v7x1 =>
  ob (vLenSl a1) fun v9x2 =>
  ob (vInt .neq v7x1 v9x2) fun v10x3 =>
  cnd v10x3
    (K (.bool false) H)
    (jn (fun σ4 H4 =>
    K (.bool true) H4) fun J4 =>
  lpE (fun Q5 σ5 H5 =>
    ob (vLenSl (σ5 0)) fun v13x6 =>
    ob (vInt .lss (σ5 5) v13x6) fun v14x7 =>
    cnd v14x7
      (ob (vIx 1 (σ5 0) (σ5 5)) fun v19x8 =>
    ob (vLoad v19x8 H5) fun v20x9 =>
    ob (vIx 1 (σ5 1) (σ5 5)) fun v23x10 =>
    ob (vLoad v23x10 H5) fun v24x11 =>
    ob (vInt .neq v20x9 v24x11) fun v25x12 =>
    cnd v25x12
      (Q5 .ret (up (up (up (up (up (up (up (up (up (up (up (up (up (up σ5 11 (σ5 5)) 12 (σ5 0)) 13 v13x6) 14 v14x7) 17 (σ5 0)) 18 (σ5 5)) 19 v19x8) 20 v20x9) 21 (σ5 1)) 22 (σ5 5)) 23 v23x10) 24 v24x11) 25 v25x12) 4 (.bool false)) H5)
      (ob (vInt .add (σ5 5) (.int .i64 1)) fun v16x13 =>
    Q5 .normal (up (up (up (up (up (up (up (up (up (up (up (up (up (up (up (up σ5 11 (σ5 5)) 12 (σ5 0)) 13 v13x6) 14 v14x7) 17 (σ5 0)) 18 (σ5 5)) 19 v19x8) 20 v20x9) 21 (σ5 1)) 22 (σ5 5)) 23 v23x10) 24 v24x11) 25 v25x12) 15 (σ5 5)) 16 v16x13) 5 v16x13) H5))
      (Q5 (.exit 0) (up (up (up (up σ5 11 (σ5 5)) 12 (σ5 0)) 13 v13x6) 14 v14x7) H5)) (blkQ 0 (thenQ J4 (retQ prg [(.tmp 4)] K))) (up (up (up (up (up (up (up (S0 [a0, a1]) 4 (.bool false)) 6 a0) 7 v7x1) 8 a1) 9 v9x2) 10 v10x3) 5 (.int .i64 0)) H)
def O.laws_eqInt64S : Nat → Nat × List Nat := fun i => bif Nat.beq i 6 then (0, [0, 1, 2, 3, 4, 5, 6, 7, 8]) else (0, [])
theorem R.laws_eqInt64S {a0 a1 : Value} {H : Hp} {K : Value → Hp → Prop} (h : F.laws_eqInt64S a0 a1 H K) : HT prg I.laws_eqInt64S [a0, a1].toArray H K :=
  HT_of_fev O.laws_eqInt64S mixed Try.func9 (by kernel_rfl) (Eq.mpr (by kernel_rfl : fev prg O.laws_eqInt64S Try.f9 [a0, a1] H K = F.laws_eqInt64S a0 a1 H K) h)

/-! loop.example/g01381/laws.eqField: function 10 -/
def F.laws_eqField (a0 a1 : Value) (H : Hp) (K : Value → Hp → Prop) : Prop :=
  nw (a0 : Value).cells 29 H fun v2x1 H2 =>
  nw (a1 : Value).cells 29 H2 fun v3x3 H4 =>
  ob (vFa 0 v2x1) fun v5x5 =>
  ob (vLoad v5x5 H4) fun v6x6 =>
  ob (vFa 0 v3x3) fun v7x7 =>
  ob (vLoad v7x7 H4) fun v8x8 =>
  ob (vInt .neq v6x6 v8x8) fun v9x9 =>
  cnd v9x9
    (K (.bool false) H4)
    (ob (vFa 1 v2x1) fun v10x10 =>
  ob (vLoad v10x10 H4) fun v11x11 =>
  ob (vFa 1 v3x3) fun v12x12 =>
  ob (vLoad v12x12 H4) fun v13x13 =>
  ob (vInt .neq v11x11 v13x13) fun v14x14 =>
  cnd v14x14
    (K (.bool false) H4)
    (ob (vFa 2 v2x1) fun v15x15 =>
  ob (vLoad v15x15 H4) fun v16x16 =>
  ob (vFa 2 v3x3) fun v17x17 =>
  ob (vLoad v17x17 H4) fun v18x18 =>
  HT prg I.laws_eqInt64S [v16x16, v18x18].toArray H4 fun v19x19 H20 =>
  ob (vUn .not v19x19) fun v20x21 =>
  cnd v20x21
    (K (.bool false) H20)
    (K (.bool true) H20)))
def O.laws_eqField : Nat → Nat × List Nat := fun i => (0, [])
theorem R.laws_eqField {a0 a1 : Value} {H : Hp} {K : Value → Hp → Prop} (h : F.laws_eqField a0 a1 H K) : HT prg I.laws_eqField [a0, a1].toArray H K :=
  HT_of_fev O.laws_eqField mixed Try.func10 (by kernel_rfl) (Eq.mpr (by kernel_rfl : fev prg O.laws_eqField Try.f10 [a0, a1] H K = F.laws_eqField a0 a1 H K) h)

/-! loop.example/g01381/laws.eqFieldS: function 8 -/
def F.laws_eqFieldS (a0 a1 : Value) (H : Hp) (K : Value → Hp → Prop) : Prop :=
  ob (vLenSl a0) fun v7x1 =>
  ob (vLenSl a1) fun v9x2 =>
  ob (vInt .neq v7x1 v9x2) fun v10x3 =>
  cnd v10x3
    (K (.bool false) H)
    (jn (fun σ4 H4 =>
    K (.bool true) H4) fun J4 =>
  lpE (fun Q5 σ5 H5 =>
    ob (vLenSl (σ5 0)) fun v13x6 =>
    ob (vInt .lss (σ5 5) v13x6) fun v14x7 =>
    cnd v14x7
      (ob (vIx 3 (σ5 0) (σ5 5)) fun v19x8 =>
    ob (vLoadN 3 v19x8 H5) fun v20x9 =>
    ob (vIx 3 (σ5 1) (σ5 5)) fun v23x10 =>
    ob (vLoadN 3 v23x10 H5) fun v24x11 =>
    HT prg I.laws_eqField [v20x9, v24x11].toArray H5 fun v25x12 H13 =>
    Le H5 H13 ∧ (ob (vUn .not v25x12) fun v26x14 =>
    cnd v26x14
      (Q5 .ret (up (up (up (up (up (up (up (up (up (up (up (up (up (up (up σ5 11 (σ5 5)) 12 (σ5 0)) 13 v13x6) 14 v14x7) 17 (σ5 0)) 18 (σ5 5)) 19 v19x8) 20 v20x9) 21 (σ5 1)) 22 (σ5 5)) 23 v23x10) 24 v24x11) 25 v25x12) 26 v26x14) 4 (.bool false)) H13)
      (ob (vInt .add (σ5 5) (.int .i64 1)) fun v16x15 =>
    Q5 .normal (up (up (up (up (up (up (up (up (up (up (up (up (up (up (up (up (up σ5 11 (σ5 5)) 12 (σ5 0)) 13 v13x6) 14 v14x7) 17 (σ5 0)) 18 (σ5 5)) 19 v19x8) 20 v20x9) 21 (σ5 1)) 22 (σ5 5)) 23 v23x10) 24 v24x11) 25 v25x12) 26 v26x14) 15 (σ5 5)) 16 v16x15) 5 v16x15) H13)))
      (Q5 (.exit 0) (up (up (up (up σ5 11 (σ5 5)) 12 (σ5 0)) 13 v13x6) 14 v14x7) H5)) (blkQ 0 (thenQ J4 (retQ prg [(.tmp 4)] K))) (up (up (up (up (up (up (up (S0 [a0, a1]) 4 (.bool false)) 6 a0) 7 v7x1) 8 a1) 9 v9x2) 10 v10x3) 5 (.int .i64 0)) H)
def O.laws_eqFieldS : Nat → Nat × List Nat := fun i => bif Nat.beq i 6 then (0, [0, 1, 2, 3, 4, 5, 6, 7, 8, 9]) else (0, [])
theorem R.laws_eqFieldS {a0 a1 : Value} {H : Hp} {K : Value → Hp → Prop} (h : F.laws_eqFieldS a0 a1 H K) : HT prg I.laws_eqFieldS [a0, a1].toArray H K :=
  HT_of_fev O.laws_eqFieldS mixed Try.func8 (by kernel_rfl) (Eq.mpr (by kernel_rfl : fev prg O.laws_eqFieldS Try.f8 [a0, a1] H K = F.laws_eqFieldS a0 a1 H K) h)

/-! loop.example/g01381/laws.markInt64S: function 13 -/
def F.laws_markInt64S (a0 a1 : Value) (H : Hp) (K : Value → Hp → Prop) : Prop :=
  jn (fun σ1 H1 =>
    K (σ1 1) H1) fun J1 =>
  lpE (fun Q2 σ2 H2 =>
    ob (vLenSl (σ2 0)) fun v8x3 =>
    ob (vInt .lss (σ2 5) v8x3) fun v9x4 =>
    cnd v9x4
      (ob (vIx 1 (σ2 0) (σ2 5)) fun v15x5 =>
    st 1 v15x5 (σ2 1) H2 fun H6 =>
    ob (vInt .add (σ2 1) (.int .i64 1)) fun v17x7 =>
    ob (vInt .add (σ2 5) (.int .i64 1)) fun v11x8 =>
    Q2 .normal (up (up (up (up (up (up (up (up (up (up (up (up (up (up σ2 6 (σ2 5)) 7 (σ2 0)) 8 v8x3) 9 v9x4) 12 (σ2 0)) 13 (σ2 5)) 14 (σ2 1)) 15 v15x5) 16 (σ2 1)) 17 v17x7) 1 v17x7) 10 (σ2 5)) 11 v11x8) 5 v11x8) H6)
      (Q2 (.exit 0) (up (up (up (up σ2 6 (σ2 5)) 7 (σ2 0)) 8 v8x3) 9 v9x4) H2)) (blkQ 0 (thenQ J1 (retQ prg [(.tmp 4)] K))) (up (up (S0 [a0, a1]) 4 (.int .i64 0)) 5 (.int .i64 0)) H
def O.laws_markInt64S : Nat → Nat × List Nat := fun i => (0, [])
theorem R.laws_markInt64S {a0 a1 : Value} {H : Hp} {K : Value → Hp → Prop} (h : F.laws_markInt64S a0 a1 H K) : HT prg I.laws_markInt64S [a0, a1].toArray H K :=
  HT_of_fev O.laws_markInt64S mixed Try.func13 (by kernel_rfl) (Eq.mpr (by kernel_rfl : fev prg O.laws_markInt64S Try.f13 [a0, a1] H K = F.laws_markInt64S a0 a1 H K) h)

/-! loop.example/g01381/laws.markField: function 11 -/
def F.laws_markField (a0 a1 : Value) (H : Hp) (K : Value → Hp → Prop) : Prop :=
  nw (a0 : Value).cells 29 H fun v2x1 H2 =>
  ob (vFa 2 v2x1) fun v5x3 =>
  ob (vLoad v5x3 H2) fun v6x4 =>
  HT prg I.laws_markInt64S [v6x4, a1].toArray H2 fun v8x5 H6 =>
  K v8x5 H6
def O.laws_markField : Nat → Nat × List Nat := fun i => (0, [])
theorem R.laws_markField {a0 a1 : Value} {H : Hp} {K : Value → Hp → Prop} (h : F.laws_markField a0 a1 H K) : HT prg I.laws_markField [a0, a1].toArray H K :=
  HT_of_fev O.laws_markField mixed Try.func11 (by kernel_rfl) (Eq.mpr (by kernel_rfl : fev prg O.laws_markField Try.f11 [a0, a1] H K = F.laws_markField a0 a1 H K) h)

/-! loop.example/g01381/laws.markFieldS: function 12 -/
def F.laws_markFieldS (a0 a1 : Value) (H : Hp) (K : Value → Hp → Prop) : Prop :=
  jn (fun σ1 H1 =>
    K (σ1 1) H1) fun J1 =>
  lpE (fun Q2 σ2 H2 =>
    ob (vLenSl (σ2 0)) fun v8x3 =>
    ob (vInt .lss (σ2 5) v8x3) fun v9x4 =>
    cnd v9x4
      (ob (vIx 3 (σ2 0) (σ2 5)) fun v15x5 =>
    ob (vFa 0 v15x5) fun v16x6 =>
    st 1 v16x6 (σ2 1) H2 fun H7 =>
    ob (vInt .add (σ2 1) (.int .i64 1)) fun v18x8 =>
    ob (vIx 3 (σ2 0) (σ2 5)) fun v22x9 =>
    ob (vFa 1 v22x9) fun v23x10 =>
    st 1 v23x10 v18x8 H7 fun H11 =>
    ob (vInt .add v18x8 (.int .i64 1)) fun v25x12 =>
    ob (vIx 3 (σ2 0) (σ2 5)) fun v28x13 =>
    ob (vFa 2 v28x13) fun v29x14 =>
    ob (vLoad v29x14 H11) fun v30x15 =>
    HT prg I.laws_markInt64S [v30x15, v25x12].toArray H11 fun v32x16 H17 =>
    ob (vInt .add (σ2 5) (.int .i64 1)) fun v11x18 =>
    Q2 .normal (up (up (up (up (up (up (up (up (up (up (up (up (up (up (up (up (up (up (up (up (up (up (up (up (up (up (up (up (up (up (up σ2 6 (σ2 5)) 7 (σ2 0)) 8 v8x3) 9 v9x4) 12 (σ2 0)) 13 (σ2 5)) 14 (σ2 1)) 15 v15x5) 16 v16x6) 17 (σ2 1)) 18 v18x8) 1 v18x8) 19 (σ2 0)) 20 (σ2 5)) 21 v18x8) 22 v22x9) 23 v23x10) 24 v18x8) 25 v25x12) 1 v25x12) 26 (σ2 0)) 27 (σ2 5)) 28 v28x13) 29 v29x14) 30 v30x15) 31 v25x12) 32 v32x16) 1 v32x16) 10 (σ2 5)) 11 v11x18) 5 v11x18) H17)
      (Q2 (.exit 0) (up (up (up (up σ2 6 (σ2 5)) 7 (σ2 0)) 8 v8x3) 9 v9x4) H2)) (blkQ 0 (thenQ J1 (retQ prg [(.tmp 4)] K))) (up (up (S0 [a0, a1]) 4 (.int .i64 0)) 5 (.int .i64 0)) H
def O.laws_markFieldS : Nat → Nat × List Nat := fun i => (0, [])
theorem R.laws_markFieldS {a0 a1 : Value} {H : Hp} {K : Value → Hp → Prop} (h : F.laws_markFieldS a0 a1 H K) : HT prg I.laws_markFieldS [a0, a1].toArray H K :=
  HT_of_fev O.laws_markFieldS mixed Try.func12 (by kernel_rfl) (Eq.mpr (by kernel_rfl : fev prg O.laws_markFieldS Try.f12 [a0, a1] H K = F.laws_markFieldS a0 a1 H K) h)

/-! loop.example/g01381/laws.heldInt64S: function 15 -/
def F.laws_heldInt64S (a0 a1 : Value) (H : Hp) (K : Value → Hp → Prop) : Prop :=
  jn (fun σ1 H1 =>
    K (σ1 1) H1) fun J1 =>
  lpE (fun Q2 σ2 H2 =>
    ob (vLenSl (σ2 0)) fun v8x3 =>
    ob (vInt .lss (σ2 5) v8x3) fun v9x4 =>
    cnd v9x4
      (ob (vIx 1 (σ2 0) (σ2 5)) fun v14x5 =>
    ob (vLoad v14x5 H2) fun v15x6 =>
    ob (vInt .neq v15x6 (σ2 1)) fun v17x7 =>
    cnd v17x7
      (Q2 .ret (up (up (up (up (up (up (up (up (up (up (up σ2 6 (σ2 5)) 7 (σ2 0)) 8 v8x3) 9 v9x4) 12 (σ2 0)) 13 (σ2 5)) 14 v14x5) 15 v15x6) 16 (σ2 1)) 17 v17x7) 4 (.int .i64 (-1))) H2)
      (ob (vInt .add (σ2 1) (.int .i64 1)) fun v19x8 =>
    ob (vInt .add (σ2 5) (.int .i64 1)) fun v11x9 =>
    Q2 .normal (up (up (up (up (up (up (up (up (up (up (up (up (up (up (up (up σ2 6 (σ2 5)) 7 (σ2 0)) 8 v8x3) 9 v9x4) 12 (σ2 0)) 13 (σ2 5)) 14 v14x5) 15 v15x6) 16 (σ2 1)) 17 v17x7) 18 (σ2 1)) 19 v19x8) 1 v19x8) 10 (σ2 5)) 11 v11x9) 5 v11x9) H2))
      (Q2 (.exit 0) (up (up (up (up σ2 6 (σ2 5)) 7 (σ2 0)) 8 v8x3) 9 v9x4) H2)) (blkQ 0 (thenQ J1 (retQ prg [(.tmp 4)] K))) (up (up (S0 [a0, a1]) 4 (.int .i64 0)) 5 (.int .i64 0)) H
def O.laws_heldInt64S : Nat → Nat × List Nat := fun i => (0, [])
theorem R.laws_heldInt64S {a0 a1 : Value} {H : Hp} {K : Value → Hp → Prop} (h : F.laws_heldInt64S a0 a1 H K) : HT prg I.laws_heldInt64S [a0, a1].toArray H K :=
  HT_of_fev O.laws_heldInt64S mixed Try.func15 (by kernel_rfl) (Eq.mpr (by kernel_rfl : fev prg O.laws_heldInt64S Try.f15 [a0, a1] H K = F.laws_heldInt64S a0 a1 H K) h)

/-! loop.example/g01381/laws.heldFieldS: function 14 -/
def F.laws_heldFieldS (a0 a1 : Value) (H : Hp) (K : Value → Hp → Prop) : Prop :=
  jn (fun σ1 H1 =>
    K (σ1 1) H1) fun J1 =>
  lpE (fun Q2 σ2 H2 =>
    ob (vLenSl (σ2 0)) fun v8x3 =>
    ob (vInt .lss (σ2 5) v8x3) fun v9x4 =>
    cnd v9x4
      (ob (vIx 3 (σ2 0) (σ2 5)) fun v14x5 =>
    ob (vFa 0 v14x5) fun v15x6 =>
    ob (vLoad v15x6 H2) fun v16x7 =>
    ob (vInt .neq v16x7 (σ2 1)) fun v18x8 =>
    cnd v18x8
      (Q2 .ret (up (up (up (up (up (up (up (up (up (up (up (up σ2 6 (σ2 5)) 7 (σ2 0)) 8 v8x3) 9 v9x4) 12 (σ2 0)) 13 (σ2 5)) 14 v14x5) 15 v15x6) 16 v16x7) 17 (σ2 1)) 18 v18x8) 4 (.int .i64 (-1))) H2)
      (ob (vInt .add (σ2 1) (.int .i64 1)) fun v20x9 =>
    ob (vIx 3 (σ2 0) (σ2 5)) fun v23x10 =>
    ob (vFa 1 v23x10) fun v24x11 =>
    ob (vLoad v24x11 H2) fun v25x12 =>
    ob (vInt .neq v25x12 v20x9) fun v27x13 =>
    cnd v27x13
      (Q2 .ret (up (up (up (up (up (up (up (up (up (up (up (up (up (up (up (up (up (up (up (up (up (up σ2 6 (σ2 5)) 7 (σ2 0)) 8 v8x3) 9 v9x4) 12 (σ2 0)) 13 (σ2 5)) 14 v14x5) 15 v15x6) 16 v16x7) 17 (σ2 1)) 18 v18x8) 19 (σ2 1)) 20 v20x9) 1 v20x9) 21 (σ2 0)) 22 (σ2 5)) 23 v23x10) 24 v24x11) 25 v25x12) 26 v20x9) 27 v27x13) 4 (.int .i64 (-1))) H2)
      (ob (vInt .add v20x9 (.int .i64 1)) fun v29x14 =>
    ob (vIx 3 (σ2 0) (σ2 5)) fun v32x15 =>
    ob (vFa 2 v32x15) fun v33x16 =>
    ob (vLoad v33x16 H2) fun v34x17 =>
    HT prg I.laws_heldInt64S [v34x17, v29x14].toArray H2 fun v36x18 H19 =>
    ob (vInt .lss v36x18 (.int .i64 0)) fun v38x20 =>
    cnd v38x20
      (Q2 .ret (up (up (up (up (up (up (up (up (up (up (up (up (up (up (up (up (up (up (up (up (up (up (up (up (up (up (up (up (up (up (up (up (up (up (up σ2 6 (σ2 5)) 7 (σ2 0)) 8 v8x3) 9 v9x4) 12 (σ2 0)) 13 (σ2 5)) 14 v14x5) 15 v15x6) 16 v16x7) 17 (σ2 1)) 18 v18x8) 19 (σ2 1)) 20 v20x9) 1 v20x9) 21 (σ2 0)) 22 (σ2 5)) 23 v23x10) 24 v24x11) 25 v25x12) 26 v20x9) 27 v27x13) 28 v20x9) 29 v29x14) 1 v29x14) 30 (σ2 0)) 31 (σ2 5)) 32 v32x15) 33 v33x16) 34 v34x17) 35 v29x14) 36 v36x18) 1 v36x18) 37 v36x18) 38 v38x20) 4 (.int .i64 (-1))) H19)
      (ob (vInt .add (σ2 5) (.int .i64 1)) fun v11x21 =>
    Q2 .normal (up (up (up (up (up (up (up (up (up (up (up (up (up (up (up (up (up (up (up (up (up (up (up (up (up (up (up (up (up (up (up (up (up (up (up (up (up σ2 6 (σ2 5)) 7 (σ2 0)) 8 v8x3) 9 v9x4) 12 (σ2 0)) 13 (σ2 5)) 14 v14x5) 15 v15x6) 16 v16x7) 17 (σ2 1)) 18 v18x8) 19 (σ2 1)) 20 v20x9) 1 v20x9) 21 (σ2 0)) 22 (σ2 5)) 23 v23x10) 24 v24x11) 25 v25x12) 26 v20x9) 27 v27x13) 28 v20x9) 29 v29x14) 1 v29x14) 30 (σ2 0)) 31 (σ2 5)) 32 v32x15) 33 v33x16) 34 v34x17) 35 v29x14) 36 v36x18) 1 v36x18) 37 v36x18) 38 v38x20) 10 (σ2 5)) 11 v11x21) 5 v11x21) H19))))
      (Q2 (.exit 0) (up (up (up (up σ2 6 (σ2 5)) 7 (σ2 0)) 8 v8x3) 9 v9x4) H2)) (blkQ 0 (thenQ J1 (retQ prg [(.tmp 4)] K))) (up (up (S0 [a0, a1]) 4 (.int .i64 0)) 5 (.int .i64 0)) H
def O.laws_heldFieldS : Nat → Nat × List Nat := fun i => (0, [])
theorem R.laws_heldFieldS {a0 a1 : Value} {H : Hp} {K : Value → Hp → Prop} (h : F.laws_heldFieldS a0 a1 H K) : HT prg I.laws_heldFieldS [a0, a1].toArray H K :=
  HT_of_fev O.laws_heldFieldS mixed Try.func14 (by kernel_rfl) (Eq.mpr (by kernel_rfl : fev prg O.laws_heldFieldS Try.f14 [a0, a1] H K = F.laws_heldFieldS a0 a1 H K) h)

/-! loop.example/g01381/laws.FnExactPartsOf: function 3 -/
def F.laws_FnExactPartsOf (a0 : Value) (H : Hp) (K : Value → Hp → Prop) : Prop :=
  nw (a0 : Value).cells 24 H fun v1x1 H2 =>
  ob (vLoadN 3 v1x1 H2) fun v17x3 =>
  HT prg I.laws_szField [v17x3, (.int .i64 1048576)].toArray H2 fun v19x4 H5 =>
  ob (vInt .lss v19x4 (.int .i64 0)) fun v21x6 =>
  cnd v21x6
    (K (.bool true) H5)
    (ob (vLoadN 3 v1x1 H5) fun v23x7 =>
  HT prg I.laws_toField [v23x7].toArray H5 fun v24x8 H9 =>
  HT prg I.spec_PartsOf [v24x8].toArray H9 fun v25x10 H11 =>
  ob (vExt v25x10 0) fun v26x12 =>
  ob (vExt v25x10 1) fun v27x13 =>
  ob (vExt v25x10 2) fun v28x14 =>
  ob (vLoadN 3 v1x1 H11) fun v29x15 =>
  HT prg I.laws_toField [v29x15].toArray H11 fun v30x16 H17 =>
  nw #[(.int .i64 0), (.int .i64 0), (.slice none 0 0)] 29 H17 fun v7x18 H19 =>
  st 3 v7x18 v30x16 H19 fun H20 =>
  ob (vLoadN 3 v7x18 H20) fun v32x21 =>
  HT prg I.impl_PartsOf [v32x21].toArray H20 fun v33x22 H23 =>
  ob (vExt v33x22 0) fun v34x24 =>
  ob (vExt v33x22 1) fun v35x25 =>
  ob (vExt v33x22 2) fun v36x26 =>
  HT prg I.laws_eqFieldS [v34x24, v26x12].toArray H23 fun v39x27 H28 =>
  ob (vUn .not v39x27) fun v40x29 =>
  gop v40x29 false (fun K30 => K30 v35x25 H28) H28 fun v42x31 H32 =>
  gop v40x29 false (fun K33 => K33 v27x13 H32) H32 fun v43x34 H35 =>
  gop v40x29 false (fun K36 => HT prg I.laws_eqInt64S [v42x31, v43x34].toArray H35 K36) H35 fun v44x37 H38 =>
  gop v40x29 false (fun K39 => ob (vUn .not v44x37) fun u => K39 u H38) H38 fun v45x40 H41 =>
  ob (vPick v40x29 (.bool true) v45x40) fun v46x42 =>
  gop v46x42 false (fun K43 => K43 v36x26 H41) H41 fun v48x44 H45 =>
  gop v46x42 false (fun K46 => K46 v28x14 H45) H45 fun v49x47 H48 =>
  gop v46x42 false (fun K49 => ob (vBool .neq v48x44 v49x47) fun u => K49 u H48) H48 fun v50x50 H51 =>
  ob (vPick v46x42 (.bool true) v50x50) fun v51x52 =>
  cnd v51x52
    (K (.bool false) H51)
    (ob (vLoadN 3 v7x18 H51) fun v52x53 =>
  ob (vLoadN 3 v1x1 H51) fun v53x54 =>
  HT prg I.laws_toField [v53x54].toArray H51 fun v54x55 H56 =>
  Le H51 H56 ∧ (HT prg I.laws_eqField [v52x53, v54x55].toArray H56 fun v55x57 H58 =>
  Le H56 H58 ∧ (ob (vUn .not v55x57) fun v56x59 =>
  cnd v56x59
    (K (.bool false) H58)
    (ob (vLoadN 3 v7x18 H58) fun v57x60 =>
  HT prg I.laws_markField [v57x60, (.int .i64 1)].toArray H58 fun v59x61 H62 =>
  ob (vInt .lss v59x61 (.int .i64 0)) fun v61x63 =>
  gop v61x63 false (fun K64 => K64 v34x24 H62) H62 fun v63x65 H66 =>
  gop v61x63 false (fun K67 => K67 v26x12 H66) H66 fun v64x68 H69 =>
  gop v61x63 false (fun K70 => HT prg I.laws_eqFieldS [v63x65, v64x68].toArray H69 K70) H69 fun v65x71 H72 =>
  gop v61x63 false (fun K73 => ob (vUn .not v65x71) fun u => K73 u H72) H72 fun v66x74 H75 =>
  ob (vPick v61x63 (.bool true) v66x74) fun v67x76 =>
  gop v67x76 false (fun K77 => K77 v35x25 H75) H75 fun v69x78 H79 =>
  gop v67x76 false (fun K80 => K80 v27x13 H79) H79 fun v70x81 H82 =>
  gop v67x76 false (fun K83 => HT prg I.laws_eqInt64S [v69x78, v70x81].toArray H82 K83) H82 fun v71x84 H85 =>
  gop v67x76 false (fun K86 => ob (vUn .not v71x84) fun u => K86 u H85) H85 fun v72x87 H88 =>
  ob (vPick v67x76 (.bool true) v72x87) fun v73x89 =>
  gop v73x89 false (fun K90 => K90 v36x26 H88) H88 fun v75x91 H92 =>
  gop v73x89 false (fun K93 => K93 v28x14 H92) H92 fun v76x94 H95 =>
  gop v73x89 false (fun K96 => ob (vBool .neq v75x91 v76x94) fun u => K96 u H95) H95 fun v77x97 H98 =>
  ob (vPick v73x89 (.bool true) v77x97) fun v78x99 =>
  cnd v78x99
    (K (.bool false) H98)
    (HT prg I.laws_markFieldS [v34x24, (.int .i64 1)].toArray H98 fun v81x100 H101 =>
  HT prg I.laws_markInt64S [v35x25, v81x100].toArray H101 fun v84x102 H103 =>
  HT prg I.laws_heldFieldS [v34x24, (.int .i64 1)].toArray H103 fun v87x104 H105 =>
  ob (vInt .lss v87x104 (.int .i64 0)) fun v89x106 =>
  cnd v89x106
    (K (.bool false) H105)
    (HT prg I.laws_heldInt64S [v35x25, v87x104].toArray H105 fun v92x107 H108 =>
  ob (vInt .lss v92x107 (.int .i64 0)) fun v94x109 =>
  cnd v94x109
    (K (.bool false) H108)
    (ob (vInt .neq v92x107 v84x102) fun v97x110 =>
  cnd v97x110
    (K (.bool false) H108)
    (ob (vLoadN 3 v1x1 H108) fun v99x111 =>
  HT prg I.laws_toField [v99x111].toArray H108 fun v100x112 H113 =>
  HT prg I.impl_PartsOf [v100x112].toArray H113 fun v101x114 H115 =>
  ob (vExt v101x114 0) fun v102x116 =>
  ob (vExt v101x114 1) fun v103x117 =>
  ob (vExt v101x114 2) fun v104x118 =>
  HT prg I.laws_eqFieldS [v102x116, v26x12].toArray H115 fun v107x119 H120 =>
  ob (vUn .not v107x119) fun v108x121 =>
  gop v108x121 false (fun K122 => K122 v103x117 H120) H120 fun v110x123 H124 =>
  gop v108x121 false (fun K125 => K125 v27x13 H124) H124 fun v111x126 H127 =>
  gop v108x121 false (fun K128 => HT prg I.laws_eqInt64S [v110x123, v111x126].toArray H127 K128) H127 fun v112x129 H130 =>
  gop v108x121 false (fun K131 => ob (vUn .not v112x129) fun u => K131 u H130) H130 fun v113x132 H133 =>
  ob (vPick v108x121 (.bool true) v113x132) fun v114x134 =>
  gop v114x134 false (fun K135 => K135 v104x118 H133) H133 fun v116x136 H137 =>
  gop v114x134 false (fun K138 => K138 v28x14 H137) H137 fun v117x139 H140 =>
  gop v114x134 false (fun K141 => ob (vBool .neq v116x136 v117x139) fun u => K141 u H140) H140 fun v118x142 H143 =>
  ob (vPick v114x134 (.bool true) v118x142) fun v119x144 =>
  cnd v119x144
    (K (.bool false) H143)
    (HT prg I.laws_heldFieldS [v34x24, (.int .i64 1)].toArray H143 fun v122x145 H146 =>
  ob (vInt .lss v122x145 (.int .i64 0)) fun v124x147 =>
  cnd v124x147
    (K (.bool false) H146)
    (HT prg I.laws_heldInt64S [v35x25, v122x145].toArray H146 fun v127x148 H149 =>
  ob (vInt .lss v127x148 (.int .i64 0)) fun v129x150 =>
  cnd v129x150
    (K (.bool false) H149)
    (ob (vInt .neq v127x148 v84x102) fun v132x151 =>
  cnd v132x151
    (K (.bool false) H149)
    (K (.bool true) H149)))))))))))))
def O.laws_FnExactPartsOf : Nat → Nat × List Nat := fun i => bif Nat.beq i 10 then (0, [0, 1, 2, 3, 4]) else (0, [])
theorem R.laws_FnExactPartsOf {a0 : Value} {H : Hp} {K : Value → Hp → Prop} (h : F.laws_FnExactPartsOf a0 H K) : HT prg I.laws_FnExactPartsOf [a0].toArray H K :=
  HT_of_fev O.laws_FnExactPartsOf mixed Try.func3 (by kernel_rfl) (Eq.mpr (by kernel_rfl : fev prg O.laws_FnExactPartsOf Try.f3 [a0] H K = F.laws_FnExactPartsOf a0 H K) h)

end Go.Proofs.Ytejbicikffhggaa
