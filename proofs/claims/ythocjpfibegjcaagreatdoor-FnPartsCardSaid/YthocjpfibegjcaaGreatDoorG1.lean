/- Functions' texts over a partial heap. -/
import Derived.Test.YthocjpfibegjcaaGreatDoorG0
namespace Go.Proofs.YthocjpfibegjcaaGreatDoor
open HL
set_option linter.unusedVariables false
set_option maxRecDepth 100000
set_option maxHeartbeats 4000000
/-! loop.example/g01381/impl.within: function 55 -/
def F.impl_within (a0 a1 a2 : Value) (H : Hp) (K : Value → Hp → Prop) : Prop :=
  ob (vInt .geq a0 a1) fun v9x1 =>
  gop v9x1 true (fun K2 => K2 a0 H) H fun v11x3 H4 =>
  gop v9x1 true (fun K5 => K5 a2 H4) H4 fun v12x6 H7 =>
  gop v9x1 true (fun K8 => ob (vInt .leq v11x3 v12x6) fun u => K8 u H7) H7 fun v13x9 H10 =>
  ob (vPick v9x1 v13x9 (.bool false)) fun v14x11 =>
  K v14x11 H10
def O.impl_within : Nat → Nat × List Nat := fun i => (0, [])
theorem R.impl_within {a0 a1 a2 : Value} {H : Hp} {K : Value → Hp → Prop} (h : F.impl_within a0 a1 a2 H K) : HT prg I.impl_within [a0, a1, a2].toArray H K :=
  HT_of_fev O.impl_within mixed Tryz.func55 (by kernel_rfl) (Eq.mpr (by kernel_rfl : fev prg O.impl_within Tryz.f55 [a0, a1, a2] H K = F.impl_within a0 a1 a2 H K) h)

/-! loop.example/g01381/impl.isSide: function 53 -/
def F.impl_isSide (a0 : Value) (H : Hp) (K : Value → Hp → Prop) : Prop :=
  HT prg I.impl_within [a0, (.int .i64 1), (.int .i64 24)].toArray H fun v4x1 H2 =>
  K v4x1 H2
def O.impl_isSide : Nat → Nat × List Nat := fun i => (0, [])
theorem R.impl_isSide {a0 : Value} {H : Hp} {K : Value → Hp → Prop} (h : F.impl_isSide a0 H K) : HT prg I.impl_isSide [a0].toArray H K :=
  HT_of_fev O.impl_isSide mixed Tryz.func53 (by kernel_rfl) (Eq.mpr (by kernel_rfl : fev prg O.impl_isSide Tryz.f53 [a0] H K = F.impl_isSide a0 H K) h)

/-! loop.example/g01381/impl.areWithin: function 40 -/
def F.impl_areWithin (a0 a1 a2 : Value) (H : Hp) (K : Value → Hp → Prop) : Prop :=
  jn (fun σ1 H1 =>
    K (.bool true) H1) fun J1 =>
  ob (vLenSl a0) fun v10x2 =>
  lpE (fun Q3 σ3 H3 =>
    ob (vInt .lss (σ3 11) (σ3 10)) fun v12x4 =>
    cnd v12x4
      (ob (vIx 1 (σ3 9) (σ3 11)) fun v13x5 =>
    ob (vLoad v13x5 H3) fun v14x6 =>
    HT prg I.impl_within [v14x6, (σ3 1), (σ3 2)].toArray H3 fun v18x7 H8 =>
    ob (vUn .not v18x7) fun v19x9 =>
    cnd v19x9
      (Q3 .ret (up (up (up (up (up (up (up (up (up (up σ3 12 v12x4) 13 v13x5) 14 v14x6) 8 v14x6) 15 v14x6) 16 (σ3 1)) 17 (σ3 2)) 18 v18x7) 19 v19x9) 6 (.bool false)) H8)
      (ob (vInt .add (σ3 11) (.int .i64 1)) fun v20x10 =>
    Q3 .normal (up (up (up (up (up (up (up (up (up (up (up σ3 12 v12x4) 13 v13x5) 14 v14x6) 8 v14x6) 15 v14x6) 16 (σ3 1)) 17 (σ3 2)) 18 v18x7) 19 v19x9) 20 v20x10) 11 v20x10) H8))
      (Q3 (.exit 0) (up σ3 12 v12x4) H3)) (blkQ 0 (thenQ J1 (retQ prg [(.tmp 6)] K))) (up (up (up (up (S0 [a0, a1, a2]) 6 (.bool false)) 9 a0) 10 v10x2) 11 (.int .i64 0)) H
def O.impl_areWithin : Nat → Nat × List Nat := fun i => (0, [])
theorem R.impl_areWithin {a0 a1 a2 : Value} {H : Hp} {K : Value → Hp → Prop} (h : F.impl_areWithin a0 a1 a2 H K) : HT prg I.impl_areWithin [a0, a1, a2].toArray H K :=
  HT_of_fev O.impl_areWithin mixed Tryz.func40 (by kernel_rfl) (Eq.mpr (by kernel_rfl : fev prg O.impl_areWithin Tryz.f40 [a0, a1, a2] H K = F.impl_areWithin a0 a1 a2 H K) h)

/-! loop.example/g01381/impl.areMany: function 54 -/
def F.impl_areMany (a0 a1 a2 a3 a4 : Value) (H : Hp) (K : Value → Hp → Prop) : Prop :=
  ob (vLenSl a0) fun v12x1 =>
  HT prg I.impl_within [v12x1, a1, a2].toArray H fun v15x2 H3 =>
  gop v15x2 true (fun K4 => K4 a0 H3) H3 fun v17x5 H6 =>
  gop v15x2 true (fun K7 => K7 a3 H6) H6 fun v18x8 H9 =>
  gop v15x2 true (fun K10 => K10 a4 H9) H9 fun v19x11 H12 =>
  gop v15x2 true (fun K13 => HT prg I.impl_areWithin [v17x5, v18x8, v19x11].toArray H12 K13) H12 fun v20x14 H15 =>
  ob (vPick v15x2 v20x14 (.bool false)) fun v21x16 =>
  K v21x16 H15
def O.impl_areMany : Nat → Nat × List Nat := fun i => (0, [])
theorem R.impl_areMany {a0 a1 a2 a3 a4 : Value} {H : Hp} {K : Value → Hp → Prop} (h : F.impl_areMany a0 a1 a2 a3 a4 H K) : HT prg I.impl_areMany [a0, a1, a2, a3, a4].toArray H K :=
  HT_of_fev O.impl_areMany mixed Tryz.func54 (by kernel_rfl) (Eq.mpr (by kernel_rfl : fev prg O.impl_areMany Tryz.f54 [a0, a1, a2, a3, a4] H K = F.impl_areMany a0 a1 a2 a3 a4 H K) h)

/-! loop.example/g01381/impl.ValidField: function 39 -/
def F.impl_ValidField (a0 : Value) (H : Hp) (K : Value → Hp → Prop) : Prop :=
  nw (a0 : Value).cells 27 H fun v1x1 H2 =>
  ob (vFa 0 v1x1) fun v4x3 =>
  ob (vLoad v4x3 H2) fun v5x4 =>
  ob (vFa 1 v1x1) fun v6x5 =>
  ob (vLoad v6x5 H2) fun v7x6 =>
  ob (vInt .mul v5x4 v7x6) fun v8x7 =>
  ob (vFa 0 v1x1) fun v9x8 =>
  ob (vLoad v9x8 H2) fun v10x9 =>
  HT prg I.impl_isSide [v10x9].toArray H2 fun v11x10 H11 =>
  gop v11x10 true (fun K12 => ob (vFa 1 v1x1) fun u => K12 u H11) H11 fun v13x13 H14 =>
  gop v11x10 true (fun K15 => ob (vLoad v13x13 H14) fun u => K15 u H14) H14 fun v14x16 H17 =>
  gop v11x10 true (fun K18 => HT prg I.impl_isSide [v14x16].toArray H17 K18) H17 fun v15x19 H20 =>
  ob (vPick v11x10 v15x19 (.bool false)) fun v16x21 =>
  gop v16x21 true (fun K22 => ob (vFa 2 v1x1) fun u => K22 u H20) H20 fun v18x23 H24 =>
  gop v16x21 true (fun K25 => ob (vLoad v18x23 H24) fun u => K25 u H24) H24 fun v19x26 H27 =>
  gop v16x21 true (fun K28 => K28 v8x7 H27) H27 fun v20x29 H30 =>
  gop v16x21 true (fun K31 => K31 v8x7 H30) H30 fun v21x32 H33 =>
  gop v16x21 true (fun K34 => HT prg I.impl_areMany [v19x26, v20x29, v21x32, (.int .i64 0), (.int .i64 9)].toArray H33 K34) H33 fun v22x35 H36 =>
  ob (vPick v16x21 v22x35 (.bool false)) fun v23x37 =>
  K v23x37 H36
def O.impl_ValidField : Nat → Nat × List Nat := fun i => (0, [])
theorem R.impl_ValidField {a0 : Value} {H : Hp} {K : Value → Hp → Prop} (h : F.impl_ValidField a0 H K) : HT prg I.impl_ValidField [a0].toArray H K :=
  HT_of_fev O.impl_ValidField mixed Tryz.func39 (by kernel_rfl) (Eq.mpr (by kernel_rfl : fev prg O.impl_ValidField Tryz.f39 [a0] H K = F.impl_ValidField a0 H K) h)

/-! loop.example/g01381/impl.isPlain: function 24 -/
def F.impl_isPlain (a0 : Value) (H : Hp) (K : Value → Hp → Prop) : Prop :=
  nw (a0 : Value).cells 27 H fun v1x1 H2 =>
  ob (vLoadN 3 v1x1 H2) fun v3x3 =>
  HT prg I.impl_ValidField [v3x3].toArray H2 fun v4x4 H5 =>
  gop v4x4 true (fun K6 => ob (vFa 2 v1x1) fun u => K6 u H5) H5 fun v6x7 H8 =>
  gop v4x4 true (fun K9 => ob (vLoad v6x7 H8) fun u => K9 u H8) H8 fun v7x10 H11 =>
  gop v4x4 true (fun K12 => HT prg I.impl_areWithin [v7x10, (.int .i64 0), (.int .i64 1)].toArray H11 K12) H11 fun v8x13 H14 =>
  ob (vPick v4x4 v8x13 (.bool false)) fun v9x15 =>
  K v9x15 H14
def O.impl_isPlain : Nat → Nat × List Nat := fun i => (0, [])
theorem R.impl_isPlain {a0 : Value} {H : Hp} {K : Value → Hp → Prop} (h : F.impl_isPlain a0 H K) : HT prg I.impl_isPlain [a0].toArray H K :=
  HT_of_fev O.impl_isPlain mixed Tryz.func24 (by kernel_rfl) (Eq.mpr (by kernel_rfl : fev prg O.impl_isPlain Tryz.f24 [a0] H K = F.impl_isPlain a0 H K) h)

/-! (loop.example/g01381/impl.Field).clusters$1: function 41 -/
def F.impl_Field_clusters_1 (a0 a1 a2 a3 a4 a5 : Value) (H : Hp) (K : Value → Hp → Prop) : Prop :=
  ob (vFa 1 a2) fun v10x1 =>
  ob (vLoad v10x1 H) fun v11x2 =>
  ob (vInt .mul a0 v11x2) fun v12x3 =>
  ob (vInt .add v12x3 a1) fun v14x4 =>
  ob (vFa 2 a2) fun v15x5 =>
  ob (vLoad v15x5 H) fun v16x6 =>
  ob (vIx 1 v16x6 v14x4) fun v18x7 =>
  ob (vLoad v18x7 H) fun v19x8 =>
  ob (vInt .eql v19x8 (.int .i64 1)) fun v20x9 =>
  gop v20x9 true (fun K10 => ob (vLoad a3 H) fun u => K10 u H) H fun v22x11 H12 =>
  gop v20x9 true (fun K13 => K13 v14x4 H12) H12 fun v23x14 H15 =>
  gop v20x9 true (fun K16 => ob (vIx 1 v22x11 v23x14) fun u => K16 u H15) H15 fun v24x17 H18 =>
  gop v20x9 true (fun K19 => ob (vLoad v24x17 H18) fun u => K19 u H18) H18 fun v25x20 H21 =>
  gop v20x9 true (fun K22 => ob (vInt .eql v25x20 (.int .i64 0)) fun u => K22 u H21) H21 fun v26x23 H24 =>
  ob (vPick v20x9 v26x23 (.bool false)) fun v27x25 =>
  cnd v27x25
    (ob (vLoad a3 H24) fun v28x26 =>
    ob (vLoad a4 H24) fun v30x27 =>
    ob (vIx 1 v28x26 v14x4) fun v31x28 =>
    st 1 v31x28 v30x27 H24 fun H29 =>
    ob (vLoad a5 H29) fun v32x30 =>
    bS 1 1 #[(.int .i64 0)] 2 [(0, v14x4)] H29 fun v34x31 H32 =>
    apd 1 8 #[(.int .i64 0)] 2 v32x30 v34x31 H32 fun v35x33 H34 =>
    st 1 a5 v35x33 H34 fun H35 =>
    K (.tuple #[]) H35)
    (K (.tuple #[]) H24)
def O.impl_Field_clusters_1 : Nat → Nat × List Nat := fun i => (0, [])
theorem R.impl_Field_clusters_1 {a0 a1 a2 a3 a4 a5 : Value} {H : Hp} {K : Value → Hp → Prop} (h : F.impl_Field_clusters_1 a0 a1 a2 a3 a4 a5 H K) : HT prg I.impl_Field_clusters_1 [a0, a1, a2, a3, a4, a5].toArray H K :=
  HT_of_fev O.impl_Field_clusters_1 mixed Tryz.func41 (by kernel_rfl) (Eq.mpr (by kernel_rfl : fev prg O.impl_Field_clusters_1 Tryz.f41 [a0, a1, a2, a3, a4, a5] H K = F.impl_Field_clusters_1 a0 a1 a2 a3 a4 a5 H K) h)

/-! (loop.example/g01381/impl.Field).clusters: function 25 -/
def F.impl_Field_clusters (a0 a1 : Value) (H : Hp) (K : Value → Hp → Prop) : Prop :=
  nw (a0 : Value).cells 27 H fun v2x1 H2 =>
  ob (vFa 2 v2x1) fun v12x3 =>
  ob (vLoad v12x3 H2) fun v13x4 =>
  ob (vLenSl v13x4) fun v14x5 =>
  mkS 1 8 #[(.int .i64 0)] 2 v14x5 v14x5 H2 fun v15x6 H7 =>
  nw #[(.slice none 0 0)] 25 H7 fun v6x8 H9 =>
  st 1 v6x8 v15x6 H9 fun H10 =>
  nw #[(.int .i64 0)] 2 H10 fun v7x11 H12 =>
  st 1 v7x11 (.int .i64 0) H12 fun H13 =>
  jn (fun σ14 H14 =>
    ob (vLoad (σ14 6) H14) fun v67x15 =>
    ob (vLoad (σ14 7) H14) fun v68x16 =>
    K (.tuple #[v67x15, v68x16]) H14) fun J14 =>
  ob (vFa 2 v2x1) fun v16x17 =>
  ob (vLoad v16x17 H13) fun v17x18 =>
  ob (vLenSl v17x18) fun v18x19 =>
  lpE (fun Q20 σ20 H20 =>
    ob (vInt .lss (σ20 19) (σ20 18)) fun v20x21 =>
    cnd v20x21
      (jn (fun σ22 H22 =>
      ob (vInt .add (σ22 19) (.int .i64 1)) fun v66x23 =>
      Q20 .normal (up (up σ22 66 v66x23) 19 v66x23) H22) fun J22 =>
    ob (vIx 1 (σ20 17) (σ20 19)) fun v22x24 =>
    ob (vLoad v22x24 H20) fun v23x25 =>
    ob (vInt .neq v23x25 (.int .i64 1)) fun v25x26 =>
    gop v25x26 false (fun K27 => ob (vLoad (σ20 6) H20) fun u => K27 u H20) H20 fun v27x28 H29 =>
    gop v25x26 false (fun K30 => K30 (σ20 19) H29) H29 fun v28x31 H32 =>
    gop v25x26 false (fun K33 => ob (vIx 1 v27x28 v28x31) fun u => K33 u H32) H32 fun v29x34 H35 =>
    gop v25x26 false (fun K36 => ob (vLoad v29x34 H35) fun u => K36 u H35) H35 fun v30x37 H38 =>
    gop v25x26 false (fun K39 => ob (vInt .neq v30x37 (.int .i64 0)) fun u => K39 u H38) H38 fun v31x40 H41 =>
    ob (vPick v25x26 (.bool true) v31x40) fun v32x42 =>
    cnd v32x42
      (J22 (up (up (up (up (up (up (up (up (up (up (up (up (up (up (up σ20 20 v20x21) 21 (σ20 19)) 22 v22x24) 23 v23x25) 8 (σ20 19)) 9 v23x25) 24 v23x25) 25 v25x26) 26 v25x26) 27 v27x28) 28 v28x31) 29 v29x34) 30 v30x37) 31 v31x40) 32 v32x42) H41)
      (ob (vLoad (σ20 7) H41) fun v33x43 =>
    ob (vInt .add v33x43 (.int .i64 1)) fun v34x44 =>
    st 1 (σ20 7) v34x44 H41 fun H45 =>
    ob (vLoad (σ20 6) H45) fun v35x46 =>
    ob (vLoad (σ20 7) H45) fun v37x47 =>
    ob (vIx 1 v35x46 (σ20 19)) fun v38x48 =>
    st 1 v38x48 v37x47 H45 fun H49 =>
    bS 1 1 #[(.int .i64 0)] 2 [(0, (σ20 19))] H49 fun v40x50 H51 =>
    nw #[(.slice none 0 0)] 25 H51 fun v10x52 H53 =>
    st 1 v10x52 v40x50 H53 fun H54 =>
    lpE (fun Q55 σ55 H55 =>
      ob (vLoad (σ55 10) H55) fun v41x56 =>
      ob (vLenSl v41x56) fun v42x57 =>
      ob (vInt .gtr v42x57 (.int .i64 0)) fun v43x58 =>
      cnd v43x58
        (ob (vLoad (σ55 10) H55) fun v44x59 =>
      ob (vLoad (σ55 10) H55) fun v45x60 =>
      ob (vLenSl v45x60) fun v46x61 =>
      ob (vInt .sub v46x61 (.int .i64 1)) fun v47x62 =>
      ob (vIx 1 v44x59 v47x62) fun v48x63 =>
      ob (vLoad v48x63 H55) fun v49x64 =>
      ob (vLoad (σ55 10) H55) fun v50x65 =>
      ob (vLoad (σ55 10) H55) fun v51x66 =>
      ob (vLenSl v51x66) fun v52x67 =>
      ob (vInt .sub v52x67 (.int .i64 1)) fun v53x68 =>
      ob (vSl3 1 v50x65 none (some v53x68) none) fun v54x69 =>
      st 1 (σ55 10) v54x69 H55 fun H70 =>
      ob (vFa 1 (σ55 2)) fun v57x71 =>
      ob (vLoad v57x71 H70) fun v58x72 =>
      ob (vInt .quo v49x64 v58x72) fun v59x73 =>
      ob (vFa 1 (σ55 2)) fun v61x74 =>
      ob (vLoad v61x74 H70) fun v62x75 =>
      ob (vInt .rem v49x64 v62x75) fun v63x76 =>
      callV prg (σ55 1) [v59x73, v63x76, (.func (.func I.impl_Field_clusters_1) #[] #[(σ55 2), (σ55 6), (σ55 7), (σ55 10)])] H70 fun v65x77 H78 =>
      Le H70 H78 ∧ (Q55 .normal (up (up (up (up (up (up (up (up (up (up (up (up (up (up (up (up (up (up (up (up (up (up (up (up (up (up σ55 41 v41x56) 42 v42x57) 43 v43x58) 44 v44x59) 45 v45x60) 46 v46x61) 47 v47x62) 48 v48x63) 49 v49x64) 11 v49x64) 50 v50x65) 51 v51x66) 52 v52x67) 53 v53x68) 54 v54x69) 55 (σ55 1)) 56 v49x64) 57 v57x71) 58 v58x72) 59 v59x73) 60 v49x64) 61 v61x74) 62 v62x75) 63 v63x76) 64 (.func (.func I.impl_Field_clusters_1) #[] #[(σ55 2), (σ55 6), (σ55 7), (σ55 10)])) 65 v65x77) H78))
        (Q55 (.exit 2) (up (up (up σ55 41 v41x56) 42 v42x57) 43 v43x58) H55)) (blkQ 2 (blkQ 1 (thenQ J22 Q20))) (up (up (up (up (up (up (up (up (up (up (up (up (up (up (up (up (up (up (up (up (up (up (up (up σ20 20 v20x21) 21 (σ20 19)) 22 v22x24) 23 v23x25) 8 (σ20 19)) 9 v23x25) 24 v23x25) 25 v25x26) 26 v25x26) 27 v27x28) 28 v28x31) 29 v29x34) 30 v30x37) 31 v31x40) 32 v32x42) 33 v33x43) 34 v34x44) 35 v35x46) 36 (σ20 19)) 37 v37x47) 38 v38x48) 39 (σ20 19)) 40 v40x50) 10 v10x52) H54))
      (Q20 (.exit 0) (up σ20 20 v20x21) H20)) (blkQ 0 (thenQ J14 (retQ prg [(.tmp 4), (.tmp 5)] K))) (up (up (up (up (up (up (up (up (up (up (up (up (up (S0 [a0, a1]) 2 v2x1) 4 (.slice none 0 0)) 5 (.int .i64 0)) 12 v12x3) 13 v13x4) 14 v14x5) 15 v15x6) 6 v6x8) 7 v7x11) 16 v16x17) 17 v17x18) 18 v18x19) 19 (.int .i64 0)) H13
def O.impl_Field_clusters : Nat → Nat × List Nat := fun i => bif Nat.beq i 15 then (0, [0, 1, 2, 3]) else bif Nat.beq i 13 then (0, [0, 1, 2, 3, 4, 5, 6, 7, 8, 9, 10]) else (0, [])
theorem R.impl_Field_clusters {a0 a1 : Value} {H : Hp} {K : Value → Hp → Prop} (h : F.impl_Field_clusters a0 a1 H K) : HT prg I.impl_Field_clusters [a0, a1].toArray H K :=
  HT_of_fev O.impl_Field_clusters mixed Tryz.func25 (by kernel_rfl) (Eq.mpr (by kernel_rfl : fev prg O.impl_Field_clusters Tryz.f25 [a0, a1] H K = F.impl_Field_clusters a0 a1 H K) h)

/-! (loop.example/g01381/impl.Field).clusters: function 25 -/
def F.impl_Field_clustersX (a0 a1 : Value) (H : Hp) (K : Value → Hp → Prop) : Prop :=
  nw (a0 : Value).cells 27 H fun v2x1 H2 =>
  ob (vFa 2 v2x1) fun v12x3 =>
  ob (vLoad v12x3 H2) fun v13x4 =>
  ob (vLenSl v13x4) fun v14x5 =>
  mkS 1 8 #[(.int .i64 0)] 2 v14x5 v14x5 H2 fun v15x6 H7 =>
  nw #[(.slice none 0 0)] 25 H7 fun v6x8 H9 =>
  st 1 v6x8 v15x6 H9 fun H10 =>
  nw #[(.int .i64 0)] 2 H10 fun v7x11 H12 =>
  st 1 v7x11 (.int .i64 0) H12 fun H13 =>
  jn (fun σ14 H14 =>
    ob (vLoad (σ14 6) H14) fun v67x15 =>
    ob (vLoad (σ14 7) H14) fun v68x16 =>
    K (.tuple #[v67x15, v68x16]) H14) fun J14 =>
  ob (vFa 2 v2x1) fun v16x17 =>
  ob (vLoad v16x17 H13) fun v17x18 =>
  ob (vLenSl v17x18) fun v18x19 =>
  lpE (fun Q20 σ20 H20 =>
    ob (vInt .lss (σ20 19) (σ20 18)) fun v20x21 =>
    cnd v20x21
      (jn (fun σ22 H22 =>
      ob (vInt .add (σ22 19) (.int .i64 1)) fun v66x23 =>
      Q20 .normal (up (up σ22 66 v66x23) 19 v66x23) H22) fun J22 =>
    ob (vIx 1 (σ20 17) (σ20 19)) fun v22x24 =>
    ob (vLoad v22x24 H20) fun v23x25 =>
    ob (vInt .neq v23x25 (.int .i64 1)) fun v25x26 =>
    gop v25x26 false (fun K27 => ob (vLoad (σ20 6) H20) fun u => K27 u H20) H20 fun v27x28 H29 =>
    gop v25x26 false (fun K30 => K30 (σ20 19) H29) H29 fun v28x31 H32 =>
    gop v25x26 false (fun K33 => ob (vIx 1 v27x28 v28x31) fun u => K33 u H32) H32 fun v29x34 H35 =>
    gop v25x26 false (fun K36 => ob (vLoad v29x34 H35) fun u => K36 u H35) H35 fun v30x37 H38 =>
    gop v25x26 false (fun K39 => ob (vInt .neq v30x37 (.int .i64 0)) fun u => K39 u H38) H38 fun v31x40 H41 =>
    ob (vPick v25x26 (.bool true) v31x40) fun v32x42 =>
    cnd v32x42
      (J22 (up (up (up (up (up (up (up (up (up (up (up (up (up (up (up σ20 20 v20x21) 21 (σ20 19)) 22 v22x24) 23 v23x25) 8 (σ20 19)) 9 v23x25) 24 v23x25) 25 v25x26) 26 v25x26) 27 v27x28) 28 v28x31) 29 v29x34) 30 v30x37) 31 v31x40) 32 v32x42) H41)
      (ob (vLoad (σ20 7) H41) fun v33x43 =>
    ob (vInt .add v33x43 (.int .i64 1)) fun v34x44 =>
    st 1 (σ20 7) v34x44 H41 fun H45 =>
    ob (vLoad (σ20 6) H45) fun v35x46 =>
    ob (vLoad (σ20 7) H45) fun v37x47 =>
    ob (vIx 1 v35x46 (σ20 19)) fun v38x48 =>
    st 1 v38x48 v37x47 H45 fun H49 =>
    bS 1 1 #[(.int .i64 0)] 2 [(0, (σ20 19))] H49 fun v40x50 H51 =>
    nw #[(.slice none 0 0)] 25 H51 fun v10x52 H53 =>
    st 1 v10x52 v40x50 H53 fun H54 =>
    lpE (fun Q55 σ55 H55 =>
      ob (vLoad (σ55 10) H55) fun v41x56 =>
      ob (vLenSl v41x56) fun v42x57 =>
      ob (vInt .gtr v42x57 (.int .i64 0)) fun v43x58 =>
      cnd v43x58
        (ob (vLoad (σ55 10) H55) fun v44x59 =>
      ob (vLoad (σ55 10) H55) fun v45x60 =>
      ob (vLenSl v45x60) fun v46x61 =>
      ob (vInt .sub v46x61 (.int .i64 1)) fun v47x62 =>
      ob (vIx 1 v44x59 v47x62) fun v48x63 =>
      ob (vLoad v48x63 H55) fun v49x64 =>
      ob (vLoad (σ55 10) H55) fun v50x65 =>
      ob (vLoad (σ55 10) H55) fun v51x66 =>
      ob (vLenSl v51x66) fun v52x67 =>
      ob (vInt .sub v52x67 (.int .i64 1)) fun v53x68 =>
      ob (vSl3 1 v50x65 none (some v53x68) none) fun v54x69 =>
      st 1 (σ55 10) v54x69 H55 fun H70 =>
      ob (vFa 1 (σ55 2)) fun v57x71 =>
      ob (vLoad v57x71 H70) fun v58x72 =>
      ob (vInt .quo v49x64 v58x72) fun v59x73 =>
      ob (vFa 1 (σ55 2)) fun v61x74 =>
      ob (vLoad v61x74 H70) fun v62x75 =>
      ob (vInt .rem v49x64 v62x75) fun v63x76 =>
      callV prg (σ55 1) [v59x73, v63x76, (.func (.func I.impl_Field_clusters_1) #[] #[(σ55 2), (σ55 6), (σ55 7), (σ55 10)])] H70 fun v65x77 H78 =>
      Q55 .normal (up (up (up (up (up (up (up (up (up (up (up (up (up (up (up (up (up (up (up (up (up (up (up (up (up (up σ55 41 v41x56) 42 v42x57) 43 v43x58) 44 v44x59) 45 v45x60) 46 v46x61) 47 v47x62) 48 v48x63) 49 v49x64) 11 v49x64) 50 v50x65) 51 v51x66) 52 v52x67) 53 v53x68) 54 v54x69) 55 (σ55 1)) 56 v49x64) 57 v57x71) 58 v58x72) 59 v59x73) 60 v49x64) 61 v61x74) 62 v62x75) 63 v63x76) 64 (.func (.func I.impl_Field_clusters_1) #[] #[(σ55 2), (σ55 6), (σ55 7), (σ55 10)])) 65 v65x77) H78)
        (Q55 (.exit 2) (up (up (up σ55 41 v41x56) 42 v42x57) 43 v43x58) H55)) (blkQ 2 (blkQ 1 (thenQ J22 Q20))) (up (up (up (up (up (up (up (up (up (up (up (up (up (up (up (up (up (up (up (up (up (up (up (up σ20 20 v20x21) 21 (σ20 19)) 22 v22x24) 23 v23x25) 8 (σ20 19)) 9 v23x25) 24 v23x25) 25 v25x26) 26 v25x26) 27 v27x28) 28 v28x31) 29 v29x34) 30 v30x37) 31 v31x40) 32 v32x42) 33 v33x43) 34 v34x44) 35 v35x46) 36 (σ20 19)) 37 v37x47) 38 v38x48) 39 (σ20 19)) 40 v40x50) 10 v10x52) H54))
      (Q20 (.exit 0) (up σ20 20 v20x21) H20)) (blkQ 0 (thenQ J14 (retQ prg [(.tmp 4), (.tmp 5)] K))) (up (up (up (up (up (up (up (up (up (up (up (up (up (S0 [a0, a1]) 2 v2x1) 4 (.slice none 0 0)) 5 (.int .i64 0)) 12 v12x3) 13 v13x4) 14 v14x5) 15 v15x6) 6 v6x8) 7 v7x11) 16 v16x17) 17 v17x18) 18 v18x19) 19 (.int .i64 0)) H13
def O.impl_Field_clustersX : Nat → Nat × List Nat := fun i => bif Nat.beq i 15 then (2, [0, 1, 2, 3]) else bif Nat.beq i 13 then (2, [0, 1, 2, 3, 4, 5, 6, 7, 8, 9, 10]) else (0, [])
theorem R.impl_Field_clustersX {a0 a1 : Value} {H : Hp} {K : Value → Hp → Prop} (h : F.impl_Field_clustersX a0 a1 H K) : HT prg I.impl_Field_clusters [a0, a1].toArray H K :=
  HT_of_fev O.impl_Field_clustersX mixed Tryz.func25 (by kernel_rfl) (Eq.mpr (by kernel_rfl : fev prg O.impl_Field_clustersX Tryz.f25 [a0, a1] H K = F.impl_Field_clustersX a0 a1 H K) h)

/-! (loop.example/g01381/impl.Field).has: function 42 -/
def F.impl_Field_has (a0 a1 a2 : Value) (H : Hp) (K : Value → Hp → Prop) : Prop :=
  nw (a0 : Value).cells 27 H fun v3x1 H2 =>
  ob (vFa 0 v3x1) fun v8x3 =>
  ob (vLoad v8x3 H2) fun v9x4 =>
  ob (vInt .sub v9x4 (.int .i64 1)) fun v10x5 =>
  HT prg I.impl_within [a1, (.int .i64 0), v10x5].toArray H2 fun v11x6 H7 =>
  gop v11x6 true (fun K8 => K8 a2 H7) H7 fun v13x9 H10 =>
  gop v11x6 true (fun K11 => ob (vFa 1 v3x1) fun u => K11 u H10) H10 fun v14x12 H13 =>
  gop v11x6 true (fun K14 => ob (vLoad v14x12 H13) fun u => K14 u H13) H13 fun v15x15 H16 =>
  gop v11x6 true (fun K17 => ob (vInt .sub v15x15 (.int .i64 1)) fun u => K17 u H16) H16 fun v16x18 H19 =>
  gop v11x6 true (fun K20 => HT prg I.impl_within [v13x9, (.int .i64 0), v16x18].toArray H19 K20) H19 fun v17x21 H22 =>
  ob (vPick v11x6 v17x21 (.bool false)) fun v18x23 =>
  K v18x23 H22
def O.impl_Field_has : Nat → Nat × List Nat := fun i => (0, [])
theorem R.impl_Field_has {a0 a1 a2 : Value} {H : Hp} {K : Value → Hp → Prop} (h : F.impl_Field_has a0 a1 a2 H K) : HT prg I.impl_Field_has [a0, a1, a2].toArray H K :=
  HT_of_fev O.impl_Field_has mixed Tryz.func42 (by kernel_rfl) (Eq.mpr (by kernel_rfl : fev prg O.impl_Field_has Tryz.f42 [a0, a1, a2] H K = F.impl_Field_has a0 a1 a2 H K) h)

/-! (loop.example/g01381/impl.Field).corners: function 26 -/
def F.impl_Field_corners (a0 a1 a2 a3 : Value) (H : Hp) (K : Value → Hp → Prop) : Prop :=
  nw (a0 : Value).cells 27 H fun v4x1 H2 =>
  ob (vInt .sub a1 (.int .i64 1)) fun v11x3 =>
  lpE (fun Q4 σ4 H4 =>
    ob (vInt .add (σ4 1) (.int .i64 1)) fun v14x5 =>
    ob (vInt .leq (σ4 8) v14x5) fun v15x6 =>
    cnd v15x6
      (jn (fun σ7 H7 =>
      ob (vInt .add (σ7 8) (.int .i64 1)) fun v17x8 =>
      Q4 .normal (up (up (up σ7 16 (σ7 8)) 17 v17x8) 8 v17x8) H7) fun J7 =>
    ob (vInt .sub (σ4 2) (.int .i64 1)) fun v19x9 =>
    lpE (fun Q10 σ10 H10 =>
      ob (vInt .add (σ10 2) (.int .i64 1)) fun v22x11 =>
      ob (vInt .leq (σ10 9) v22x11) fun v23x12 =>
      cnd v23x12
        (ob (vLoadN 3 (σ10 4) H10) fun v26x13 =>
      HT prg I.impl_Field_has [v26x13, (σ10 8), (σ10 9)].toArray H10 fun v29x14 H15 =>
      gop v29x14 true (fun K16 => K16 (σ10 8) H15) H15 fun v31x17 H18 =>
      gop v29x14 true (fun K19 => K19 (σ10 1) H18) H18 fun v32x20 H21 =>
      gop v29x14 true (fun K22 => ob (vInt .neq v31x17 v32x20) fun u => K22 u H21) H21 fun v33x23 H24 =>
      gop v29x14 true (fun K25 => K25 v33x23 H24) H24 fun v34x26 H27 =>
      gop v34x26 false (fun K28 => K28 (σ10 9) H27) H27 fun v35x29 H30 =>
      gop v34x26 false (fun K31 => K31 (σ10 2) H30) H30 fun v36x32 H33 =>
      gop v34x26 false (fun K34 => ob (vInt .neq v35x29 v36x32) fun u => K34 u H33) H33 fun v37x35 H36 =>
      gop v29x14 true (fun K37 => ob (vPick v34x26 (.bool true) v37x35) fun u => K37 u H36) H36 fun v38x38 H39 =>
      ob (vPick v29x14 v38x38 (.bool false)) fun v39x40 =>
      cnd v39x40
        (callV prg (σ10 3) [(σ10 8), (σ10 9)] H39 fun v43x41 H42 =>
        ob (vInt .add (σ10 9) (.int .i64 1)) fun v25x43 =>
      Q10 .normal (up (up (up (up (up (up (up (up (up (up (up (up (up (up (up (up (up (up (up (up (up (up (up (up (up σ10 20 (σ10 9)) 21 (σ10 2)) 22 v22x11) 23 v23x12) 26 v26x13) 27 (σ10 8)) 28 (σ10 9)) 29 v29x14) 30 v29x14) 31 v31x17) 32 v32x20) 33 v33x23) 34 v34x26) 35 v35x29) 36 v36x32) 37 v37x35) 38 v38x38) 39 v39x40) 40 (σ10 3)) 41 (σ10 8)) 42 (σ10 9)) 43 v43x41) 24 (σ10 9)) 25 v25x43) 9 v25x43) H42)
        (ob (vInt .add (σ10 9) (.int .i64 1)) fun v25x44 =>
      Q10 .normal (up (up (up (up (up (up (up (up (up (up (up (up (up (up (up (up (up (up (up (up (up σ10 20 (σ10 9)) 21 (σ10 2)) 22 v22x11) 23 v23x12) 26 v26x13) 27 (σ10 8)) 28 (σ10 9)) 29 v29x14) 30 v29x14) 31 v31x17) 32 v32x20) 33 v33x23) 34 v34x26) 35 v35x29) 36 v36x32) 37 v37x35) 38 v38x38) 39 v39x40) 24 (σ10 9)) 25 v25x44) 9 v25x44) H39))
        (Q10 (.exit 2) (up (up (up (up σ10 20 (σ10 9)) 21 (σ10 2)) 22 v22x11) 23 v23x12) H10)) (blkQ 2 (blkQ 1 (thenQ J7 Q4))) (up (up (up (up (up (up (up σ4 12 (σ4 8)) 13 (σ4 1)) 14 v14x5) 15 v15x6) 18 (σ4 2)) 19 v19x9) 9 v19x9) H4)
      (Q4 (.exit 0) (up (up (up (up σ4 12 (σ4 8)) 13 (σ4 1)) 14 v14x5) 15 v15x6) H4)) (blkQ 0 (retQ prg [] K)) (up (up (up (up (S0 [a0, a1, a2, a3]) 4 v4x1) 10 a1) 11 v11x3) 8 v11x3) H2
def O.impl_Field_corners : Nat → Nat × List Nat := fun i => (0, [])
theorem R.impl_Field_corners {a0 a1 a2 a3 : Value} {H : Hp} {K : Value → Hp → Prop} (h : F.impl_Field_corners a0 a1 a2 a3 H K) : HT prg I.impl_Field_corners [a0, a1, a2, a3].toArray H K :=
  HT_of_fev O.impl_Field_corners mixed Tryz.func26 (by kernel_rfl) (Eq.mpr (by kernel_rfl : fev prg O.impl_Field_corners Tryz.f26 [a0, a1, a2, a3] H K = F.impl_Field_corners a0 a1 a2 a3 H K) h)

/-! loop.example/g01381/impl.madeField: function 27 -/
def F.impl_madeField (a0 a1 a2 : Value) (H : Hp) (K : Value → Hp → Prop) : Prop :=
  nw #[(.int .i64 0), (.int .i64 0), (.slice none 0 0)] 27 H fun v6x1 H2 =>
  ob (vBuild [(0, 1), (1, 1), (2, 1)] (.agg #[(.int .i64 0), (.int .i64 0), (.slice none 0 0)]) [(0, a0), (1, a1)]) fun v12x3 =>
  nw #[(.int .i64 0), (.int .i64 0), (.slice none 0 0)] 27 H2 fun v7x4 H5 =>
  st 3 v7x4 v12x3 H5 fun H6 =>
  jn (fun σ7 H7 =>
    ob (vLoadN 3 (σ7 7) H7) fun v32x8 =>
    st 3 (σ7 6) v32x8 H7 fun H9 =>
    ob (vLoadN 3 (σ7 6) H9) fun u10 => K u10 H9) fun J7 =>
  lpE (fun Q11 σ11 H11 =>
    ob (vInt .lss (σ11 14) (σ11 13)) fun v15x12 =>
    cnd v15x12
      (jn (fun σ13 H13 =>
      ob (vInt .add (σ13 14) (.int .i64 1)) fun v31x14 =>
      Q11 .normal (up (up σ13 31 v31x14) 14 v31x14) H13) fun J13 =>
    lpE (fun Q15 σ15 H15 =>
      ob (vInt .lss (σ15 18) (σ15 17)) fun v19x16 =>
      cnd v19x16
        (ob (vFa 2 (σ15 7)) fun v21x17 =>
      ob (vLoad v21x17 H15) fun v22x18 =>
      callV prg (σ15 2) [(σ15 8), (σ15 18)] H15 fun v26x19 H20 =>
      Le H15 H20 ∧ (bS 1 1 #[(.int .i64 0)] 2 [(0, v26x19)] H20 fun v27x21 H22 =>
      apd 1 8 #[(.int .i64 0)] 2 v22x18 v27x21 H22 fun v28x23 H24 =>
      ob (vFa 2 (σ15 7)) fun v29x25 =>
      st 1 v29x25 v28x23 H24 fun H26 =>
      ob (vInt .add (σ15 18) (.int .i64 1)) fun v30x27 =>
      Q15 .normal (up (up (up (up (up (up (up (up (up (up (up (up (up (up σ15 19 v19x16) 20 (σ15 18)) 9 (σ15 18)) 21 v21x17) 22 v22x18) 23 (σ15 2)) 24 (σ15 8)) 25 (σ15 18)) 26 v26x19) 27 v27x21) 28 v28x23) 29 v29x25) 30 v30x27) 18 v30x27) H26))
        (Q15 (.exit 2) (up σ15 19 v19x16) H15)) (blkQ 2 (blkQ 1 (thenQ J13 Q11))) (up (up (up (up (up σ11 15 v15x12) 16 (σ11 14)) 8 (σ11 14)) 17 (σ11 1)) 18 (.int .i64 0)) H11)
      (Q11 (.exit 0) (up σ11 15 v15x12) H11)) (blkQ 0 (thenQ J7 (retQ prg [(.cell 6 27)] K))) (up (up (up (up (up (up (up (S0 [a0, a1, a2]) 6 v6x1) 10 a0) 11 a1) 12 v12x3) 7 v7x4) 13 a0) 14 (.int .i64 0)) H6
def O.impl_madeField : Nat → Nat × List Nat := fun i => bif Nat.beq i 8 then (0, [0, 1, 2, 3, 4, 5, 6, 7, 8, 9]) else (0, [])
theorem R.impl_madeField {a0 a1 a2 : Value} {H : Hp} {K : Value → Hp → Prop} (h : F.impl_madeField a0 a1 a2 H K) : HT prg I.impl_madeField [a0, a1, a2].toArray H K :=
  HT_of_fev O.impl_madeField mixed Tryz.func27 (by kernel_rfl) (Eq.mpr (by kernel_rfl : fev prg O.impl_madeField Tryz.f27 [a0, a1, a2] H K = F.impl_madeField a0 a1 a2 H K) h)

/-! loop.example/g01381/impl.madeField: function 27 -/
def F.impl_madeFieldX (a0 a1 a2 : Value) (H : Hp) (K : Value → Hp → Prop) : Prop :=
  nw #[(.int .i64 0), (.int .i64 0), (.slice none 0 0)] 27 H fun v6x1 H2 =>
  ob (vBuild [(0, 1), (1, 1), (2, 1)] (.agg #[(.int .i64 0), (.int .i64 0), (.slice none 0 0)]) [(0, a0), (1, a1)]) fun v12x3 =>
  nw #[(.int .i64 0), (.int .i64 0), (.slice none 0 0)] 27 H2 fun v7x4 H5 =>
  st 3 v7x4 v12x3 H5 fun H6 =>
  jn (fun σ7 H7 =>
    ob (vLoadN 3 (σ7 7) H7) fun v32x8 =>
    st 3 (σ7 6) v32x8 H7 fun H9 =>
    ob (vLoadN 3 (σ7 6) H9) fun u10 => K u10 H9) fun J7 =>
  lpE (fun Q11 σ11 H11 =>
    ob (vInt .lss (σ11 14) (σ11 13)) fun v15x12 =>
    cnd v15x12
      (jn (fun σ13 H13 =>
      ob (vInt .add (σ13 14) (.int .i64 1)) fun v31x14 =>
      Q11 .normal (up (up σ13 31 v31x14) 14 v31x14) H13) fun J13 =>
    lpE (fun Q15 σ15 H15 =>
      ob (vInt .lss (σ15 18) (σ15 17)) fun v19x16 =>
      cnd v19x16
        ((ob (vFa 2 (σ15 7)) fun v21x17 =>
      ob (vLoad v21x17 H15) fun v22x18 =>
      callV prg (σ15 2) [(σ15 8), (σ15 18)] H15 fun v26x19 H20 =>
      bS 1 1 #[(.int .i64 0)] 2 [(0, v26x19)] H20 fun v27x21 H22 =>
      apd 1 8 #[(.int .i64 0)] 2 v22x18 v27x21 H22 fun v28x23 H24 =>
      ob (vFa 2 (σ15 7)) fun v29x25 =>
      st 1 v29x25 v28x23 H24 fun H26 =>
      ob (vInt .add (σ15 18) (.int .i64 1)) fun v30x27 =>
      Q15 .normal (up (up (up (up (up (up (up (up (up (up (up (up (up (up σ15 19 v19x16) 20 (σ15 18)) 9 (σ15 18)) 21 v21x17) 22 v22x18) 23 (σ15 2)) 24 (σ15 8)) 25 (σ15 18)) 26 v26x19) 27 v27x21) 28 v28x23) 29 v29x25) 30 v30x27) 18 v30x27) H26) ∧ (ob (vFa 2 (σ15 7)) fun v21x28 =>
      callV prg (σ15 2) [(σ15 8), (σ15 18)] H15 fun v26x29 H30 =>
      ob (vLoad v21x28 H30) fun v22x31 =>
      bS 1 1 #[(.int .i64 0)] 2 [(0, v26x29)] H30 fun v27x32 H33 =>
      apd 1 8 #[(.int .i64 0)] 2 v22x31 v27x32 H33 fun v28x34 H35 =>
      ob (vFa 2 (σ15 7)) fun v29x36 =>
      st 1 v29x36 v28x34 H35 fun H37 =>
      ob (vInt .add (σ15 18) (.int .i64 1)) fun v30x38 =>
      Q15 .normal (up (up (up (up (up (up (up (up (up (up (up (up (up (up σ15 19 v19x16) 20 (σ15 18)) 9 (σ15 18)) 21 v21x28) 23 (σ15 2)) 24 (σ15 8)) 25 (σ15 18)) 26 v26x29) 22 v22x31) 27 v27x32) 28 v28x34) 29 v29x36) 30 v30x38) 18 v30x38) H37))
        (Q15 (.exit 2) (up σ15 19 v19x16) H15)) (blkQ 2 (blkQ 1 (thenQ J13 Q11))) (up (up (up (up (up σ11 15 v15x12) 16 (σ11 14)) 8 (σ11 14)) 17 (σ11 1)) 18 (.int .i64 0)) H11)
      (Q11 (.exit 0) (up σ11 15 v15x12) H11)) (blkQ 0 (thenQ J7 (retQ prg [(.cell 6 27)] K))) (up (up (up (up (up (up (up (S0 [a0, a1, a2]) 6 v6x1) 10 a0) 11 a1) 12 v12x3) 7 v7x4) 13 a0) 14 (.int .i64 0)) H6
def O.impl_madeFieldX : Nat → Nat × List Nat := fun i => bif Nat.beq i 8 then (2, [1001, 1005, 0, 1, 2, 3, 4, 5, 6, 7, 8, 9, 0, 2, 3, 4, 5, 1, 6, 7, 8, 9]) else (0, [])
theorem R.impl_madeFieldX {a0 a1 a2 : Value} {H : Hp} {K : Value → Hp → Prop} (h : F.impl_madeFieldX a0 a1 a2 H K) : HT prg I.impl_madeField [a0, a1, a2].toArray H K :=
  HT_of_fev O.impl_madeFieldX mixed Tryz.func27 (by kernel_rfl) (Eq.mpr (by kernel_rfl : fev prg O.impl_madeFieldX Tryz.f27 [a0, a1, a2] H K = F.impl_madeFieldX a0 a1 a2 H K) h)

/-! loop.example/g01381/impl.bit: function 29 -/
def F.impl_bit (a0 : Value) (H : Hp) (K : Value → Hp → Prop) : Prop :=
  cnd a0
    (K (.int .i64 1) H)
    (K (.int .i64 0) H)
def O.impl_bit : Nat → Nat × List Nat := fun i => (0, [])
theorem R.impl_bit {a0 : Value} {H : Hp} {K : Value → Hp → Prop} (h : F.impl_bit a0 H K) : HT prg I.impl_bit [a0].toArray H K :=
  HT_of_fev O.impl_bit mixed Tryz.func29 (by kernel_rfl) (Eq.mpr (by kernel_rfl : fev prg O.impl_bit Tryz.f29 [a0] H K = F.impl_bit a0 H K) h)

/-! loop.example/g01381/impl.PartsOf$1: function 28 -/
def F.impl_PartsOf_1 (a0 a1 a2 a3 a4 : Value) (H : Hp) (K : Value → Hp → Prop) : Prop :=
  ob (vLoad a2 H) fun v8x1 =>
  ob (vFa 1 a3) fun v10x2 =>
  ob (vLoad v10x2 H) fun v11x3 =>
  ob (vInt .mul a0 v11x3) fun v12x4 =>
  ob (vInt .add v12x4 a1) fun v14x5 =>
  ob (vIx 1 v8x1 v14x5) fun v15x6 =>
  ob (vLoad v15x6 H) fun v16x7 =>
  ob (vLoad a4 H) fun v17x8 =>
  ob (vInt .add v17x8 (.int .i64 1)) fun v18x9 =>
  ob (vInt .eql v16x7 v18x9) fun v19x10 =>
  HT prg I.impl_bit [v19x10].toArray H fun v20x11 H12 =>
  Le H H12 ∧ (K v20x11 H12)
def O.impl_PartsOf_1 : Nat → Nat × List Nat := fun i => bif Nat.beq i 1 then (0, [0, 1, 2, 3, 4, 5, 6, 7, 8, 9, 10, 11, 12, 13]) else (0, [])
theorem R.impl_PartsOf_1 {a0 a1 a2 a3 a4 : Value} {H : Hp} {K : Value → Hp → Prop} (h : F.impl_PartsOf_1 a0 a1 a2 a3 a4 H K) : HT prg I.impl_PartsOf_1 [a0, a1, a2, a3, a4].toArray H K :=
  HT_of_fev O.impl_PartsOf_1 mixed Tryz.func28 (by kernel_rfl) (Eq.mpr (by kernel_rfl : fev prg O.impl_PartsOf_1 Tryz.f28 [a0, a1, a2, a3, a4] H K = F.impl_PartsOf_1 a0 a1 a2 a3 a4 H K) h)

/-! (loop.example/g01381/impl.Field).at: function 57 -/
def F.impl_Field_at (a0 a1 a2 : Value) (H : Hp) (K : Value → Hp → Prop) : Prop :=
  nw (a0 : Value).cells 27 H fun v3x1 H2 =>
  ob (vFa 2 v3x1) fun v7x3 =>
  ob (vLoad v7x3 H2) fun v8x4 =>
  ob (vFa 1 v3x1) fun v10x5 =>
  ob (vLoad v10x5 H2) fun v11x6 =>
  ob (vInt .mul a1 v11x6) fun v12x7 =>
  ob (vInt .add v12x7 a2) fun v14x8 =>
  ob (vIx 1 v8x4 v14x8) fun v15x9 =>
  ob (vLoad v15x9 H2) fun v16x10 =>
  K v16x10 H2
def O.impl_Field_at : Nat → Nat × List Nat := fun i => (0, [])
theorem R.impl_Field_at {a0 a1 a2 : Value} {H : Hp} {K : Value → Hp → Prop} (h : F.impl_Field_at a0 a1 a2 H K) : HT prg I.impl_Field_at [a0, a1, a2].toArray H K :=
  HT_of_fev O.impl_Field_at mixed Tryz.func57 (by kernel_rfl) (Eq.mpr (by kernel_rfl : fev prg O.impl_Field_at Tryz.f57 [a0, a1, a2] H K = F.impl_Field_at a0 a1 a2 H K) h)

/-! (loop.example/g01381/impl.Field).cut$1: function 56 -/
def F.impl_Field_cut_1 (a0 a1 a2 a3 a4 : Value) (H : Hp) (K : Value → Hp → Prop) : Prop :=
  ob (vLoadN 3 a2 H) fun v8x1 =>
  ob (vLoad a3 H) fun v9x2 =>
  ob (vInt .add v9x2 a0) fun v11x3 =>
  ob (vLoad a4 H) fun v12x4 =>
  ob (vInt .add v12x4 a1) fun v14x5 =>
  HT prg I.impl_Field_at [v8x1, v11x3, v14x5].toArray H fun v15x6 H7 =>
  K v15x6 H7
def O.impl_Field_cut_1 : Nat → Nat × List Nat := fun i => (0, [])
theorem R.impl_Field_cut_1 {a0 a1 a2 a3 a4 : Value} {H : Hp} {K : Value → Hp → Prop} (h : F.impl_Field_cut_1 a0 a1 a2 a3 a4 H K) : HT prg I.impl_Field_cut_1 [a0, a1, a2, a3, a4].toArray H K :=
  HT_of_fev O.impl_Field_cut_1 mixed Tryz.func56 (by kernel_rfl) (Eq.mpr (by kernel_rfl : fev prg O.impl_Field_cut_1 Tryz.f56 [a0, a1, a2, a3, a4] H K = F.impl_Field_cut_1 a0 a1 a2 a3 a4 H K) h)

/-! (loop.example/g01381/impl.Field).cut: function 43 -/
def F.impl_Field_cut (a0 a1 a2 a3 a4 : Value) (H : Hp) (K : Value → Hp → Prop) : Prop :=
  nw (a0 : Value).cells 27 H fun v5x1 H2 =>
  nw (a1 : Value).cells 2 H2 fun v6x3 H4 =>
  nw (a2 : Value).cells 2 H4 fun v7x5 H6 =>
  nw #[(.int .i64 0), (.int .i64 0), (.slice none 0 0)] 27 H6 fun v10x7 H8 =>
  HT prg I.impl_madeField [a3, a4, (.func (.func I.impl_Field_cut_1) #[] #[v5x1, v6x3, v7x5])].toArray H8 fun v14x9 H10 =>
  st 3 v10x7 v14x9 H10 fun H11 =>
  ob (vLoadN 3 v10x7 H11) fun u12 => K u12 H11
def O.impl_Field_cut : Nat → Nat × List Nat := fun i => (0, [])
theorem R.impl_Field_cut {a0 a1 a2 a3 a4 : Value} {H : Hp} {K : Value → Hp → Prop} (h : F.impl_Field_cut a0 a1 a2 a3 a4 H K) : HT prg I.impl_Field_cut [a0, a1, a2, a3, a4].toArray H K :=
  HT_of_fev O.impl_Field_cut mixed Tryz.func43 (by kernel_rfl) (Eq.mpr (by kernel_rfl : fev prg O.impl_Field_cut Tryz.f43 [a0, a1, a2, a3, a4] H K = F.impl_Field_cut a0 a1 a2 a3 a4 H K) h)

/-! (loop.example/g01381/impl.Field).trimmed: function 30 -/
def F.impl_Field_trimmed (a0 : Value) (H : Hp) (K : Value → Hp → Prop) : Prop :=
  nw (a0 : Value).cells 27 H fun v1x1 H2 =>
  nw #[(.int .i64 0), (.int .i64 0), (.slice none 0 0)] 27 H2 fun v2x3 H4 =>
  ob (vFa 0 v1x1) fun v14x5 =>
  ob (vLoad v14x5 H4) fun v15x6 =>
  ob (vFa 1 v1x1) fun v16x7 =>
  ob (vLoad v16x7 H4) fun v17x8 =>
  jn (fun σ9 H9 =>
    ob (vInt .lss (σ9 8) (.int .i64 0)) fun v50x10 =>
    cnd v50x10
      (ob (vBuild [(0, 1), (1, 1), (2, 1)] (.agg #[(.int .i64 0), (.int .i64 0), (.slice none 0 0)]) []) fun v51x11 =>
      st 3 (σ9 2) v51x11 H9 fun H12 =>
      ob (vLoadN 3 (σ9 2) H12) fun u13 => K (.tuple #[u13, (.int .i64 0), (.int .i64 0), (.bool false)]) H12)
      (ob (vLoadN 3 (σ9 1) H9) fun v52x14 =>
    ob (vInt .sub (σ9 8) (σ9 6)) fun v57x15 =>
    ob (vInt .add v57x15 (.int .i64 1)) fun v58x16 =>
    ob (vInt .sub (σ9 9) (σ9 7)) fun v61x17 =>
    ob (vInt .add v61x17 (.int .i64 1)) fun v62x18 =>
    HT prg I.impl_Field_cut [v52x14, (σ9 6), (σ9 7), v58x16, v62x18].toArray H9 fun v63x19 H20 =>
    st 3 (σ9 2) v63x19 H20 fun H21 =>
    ob (vLoadN 3 (σ9 2) H21) fun u22 => K (.tuple #[u22, (σ9 6), (σ9 7), (.bool true)]) H21)) fun J9 =>
  ob (vFa 2 v1x1) fun v18x23 =>
  ob (vLoad v18x23 H4) fun v19x24 =>
  ob (vLenSl v19x24) fun v20x25 =>
  lpE (fun Q26 σ26 H26 =>
    ob (vInt .lss (σ26 21) (σ26 20)) fun v22x27 =>
    cnd v22x27
      (ob (vIx 1 (σ26 19) (σ26 21)) fun v24x28 =>
    ob (vLoad v24x28 H26) fun v25x29 =>
    ob (vInt .eql v25x29 (.int .i64 1)) fun v27x30 =>
    cnd v27x30
      (ob (vFa 1 (σ26 1)) fun v29x31 =>
      ob (vLoad v29x31 H26) fun v30x32 =>
      ob (vInt .quo (σ26 21) v30x32) fun v31x33 =>
      ob (vFa 1 (σ26 1)) fun v33x34 =>
      ob (vLoad v33x34 H26) fun v34x35 =>
      ob (vInt .rem (σ26 21) v34x35) fun v35x36 =>
      ob (vMx false (σ26 6) [v31x33]) fun v38x37 =>
      ob (vMx false (σ26 7) [v35x36]) fun v41x38 =>
      ob (vMx true (σ26 8) [v31x33]) fun v44x39 =>
      ob (vMx true (σ26 9) [v35x36]) fun v47x40 =>
      ob (vInt .add (σ26 21) (.int .i64 1)) fun v48x41 =>
    Q26 .normal (up (up (up (up (up (up (up (up (up (up (up (up (up (up (up (up (up (up (up (up (up (up (up (up (up (up (up (up (up (up (up (up (up (up (up (up σ26 22 v22x27) 23 (σ26 21)) 24 v24x28) 25 v25x29) 10 (σ26 21)) 11 v25x29) 26 v25x29) 27 v27x30) 28 (σ26 21)) 29 v29x31) 30 v30x32) 31 v31x33) 32 (σ26 21)) 33 v33x34) 34 v34x35) 35 v35x36) 12 v31x33) 13 v35x36) 36 (σ26 6)) 37 v31x33) 38 v38x37) 39 (σ26 7)) 40 v35x36) 41 v41x38) 42 (σ26 8)) 43 v31x33) 44 v44x39) 45 (σ26 9)) 46 v35x36) 47 v47x40) 6 v38x37) 7 v41x38) 8 v44x39) 9 v47x40) 48 v48x41) 21 v48x41) H26)
      (ob (vInt .add (σ26 21) (.int .i64 1)) fun v48x42 =>
    Q26 .normal (up (up (up (up (up (up (up (up (up (up σ26 22 v22x27) 23 (σ26 21)) 24 v24x28) 25 v25x29) 10 (σ26 21)) 11 v25x29) 26 v25x29) 27 v27x30) 48 v48x42) 21 v48x42) H26))
      (Q26 (.exit 0) (up σ26 22 v22x27) H26)) (blkQ 0 (thenQ J9 (retQ prg [(.cell 2 27), (.tmp 3), (.tmp 4), (.tmp 5)] K))) (up (up (up (up (up (up (up (up (up (up (up (up (up (up (up (up (up (S0 [a0]) 1 v1x1) 2 v2x3) 3 (.int .i64 0)) 4 (.int .i64 0)) 5 (.bool false)) 14 v14x5) 15 v15x6) 16 v16x7) 17 v17x8) 6 v15x6) 7 v17x8) 8 (.int .i64 (-1))) 9 (.int .i64 (-1))) 18 v18x23) 19 v19x24) 20 v20x25) 21 (.int .i64 0)) H4
def O.impl_Field_trimmed : Nat → Nat × List Nat := fun i => bif Nat.beq i 1 then (0, [0, 1, 2, 3, 4, 5, 6, 7]) else bif Nat.beq i 6 then (0, [0, 1, 2, 3, 4, 5, 6, 7, 8, 9]) else (0, [])
theorem R.impl_Field_trimmed {a0 : Value} {H : Hp} {K : Value → Hp → Prop} (h : F.impl_Field_trimmed a0 H K) : HT prg I.impl_Field_trimmed [a0].toArray H K :=
  HT_of_fev O.impl_Field_trimmed mixed Tryz.func30 (by kernel_rfl) (Eq.mpr (by kernel_rfl : fev prg O.impl_Field_trimmed Tryz.f30 [a0] H K = F.impl_Field_trimmed a0 H K) h)

/-! loop.example/g01381/impl.PartsOf: function 8 -/
def F.impl_PartsOf (a0 : Value) (H : Hp) (K : Value → Hp → Prop) : Prop :=
  nw (a0 : Value).cells 27 H fun v1x1 H2 =>
  ob (vLoadN 3 v1x1 H2) fun v15x3 =>
  HT prg I.impl_isPlain [v15x3].toArray H2 fun v16x4 H5 =>
  ob (vUn .not v16x4) fun v17x6 =>
  cnd v17x6
    (K (.tuple #[(.slice none 0 0), (.slice none 0 0), (.bool false)]) H5)
    (ob (vLoadN 3 v1x1 H5) fun v19x7 =>
  ob (vLoadN 3 v1x1 H5) fun v20x8 =>
  HT prg I.impl_Field_clusters [v19x7, (.func (.func I.impl_Field_corners) #[v20x8] #[])].toArray H5 fun v22x9 H10 =>
  ob (vExt v22x9 0) fun v23x11 =>
  ob (vExt v22x9 1) fun v24x12 =>
  nw #[(.slice none 0 0)] 25 H10 fun v5x13 H14 =>
  st 1 v5x13 v23x11 H14 fun H15 =>
  bS 3 0 #[(.int .i64 0), (.int .i64 0), (.slice none 0 0)] 27 [] H15 fun v25x16 H17 =>
  bS 1 0 #[(.int .i64 0)] 2 [] H17 fun v26x18 H19 =>
  jn (fun σ20 H20 =>
    K (.tuple #[(σ20 7), (σ20 8), (.bool true)]) H20) fun J20 =>
  lpE (fun Q21 σ21 H21 =>
    ob (vInt .lss (σ21 28) (σ21 27)) fun v29x22 =>
    cnd v29x22
      (nw #[(.int .i64 0)] 2 H21 fun v9x23 H24 =>
    st 1 v9x23 (σ21 28) H24 fun H25 =>
    ob (vFa 0 (σ21 1)) fun v31x26 =>
    ob (vLoad v31x26 H25) fun v32x27 =>
    ob (vFa 1 (σ21 1)) fun v33x28 =>
    ob (vLoad v33x28 H25) fun v34x29 =>
    HT prg I.impl_madeField [v32x27, v34x29, (.func (.func I.impl_PartsOf_1) #[] #[(σ21 5), (σ21 1), v9x23])].toArray H25 fun v36x30 H31 =>
    nw #[(.int .i64 0), (.int .i64 0), (.slice none 0 0)] 27 H31 fun v10x32 H33 =>
    st 3 v10x32 v36x30 H33 fun H34 =>
    ob (vLoadN 3 v10x32 H34) fun v38x35 =>
    HT prg I.impl_Field_trimmed [v38x35].toArray H34 fun v39x36 H37 =>
    ob (vExt v39x36 0) fun v40x38 =>
    ob (vExt v39x36 1) fun v41x39 =>
    ob (vExt v39x36 2) fun v42x40 =>
    ob (vExt v39x36 3) fun v43x41 =>
    nw #[(.int .i64 0), (.int .i64 0), (.slice none 0 0)] 27 H37 fun v11x42 H43 =>
    st 3 v11x42 v40x38 H43 fun H44 =>
    ob (vLoadN 3 v11x42 H44) fun v45x45 =>
    bS 3 1 #[(.int .i64 0), (.int .i64 0), (.slice none 0 0)] 27 [(0, v45x45)] H44 fun v46x46 H47 =>
    apd 3 40 #[(.int .i64 0), (.int .i64 0), (.slice none 0 0)] 27 (σ21 7) v46x46 H47 fun v47x48 H49 =>
    bS 1 2 #[(.int .i64 0)] 2 [(0, v41x39), (1, v42x40)] H49 fun v51x50 H51 =>
    apd 1 8 #[(.int .i64 0)] 2 (σ21 8) v51x50 H51 fun v52x52 H53 =>
    ob (vInt .add (σ21 28) (.int .i64 1)) fun v53x54 =>
    Q21 .normal (up (up (up (up (up (up (up (up (up (up (up (up (up (up (up (up (up (up (up (up (up (up (up (up (up (up (up (up (up (up (up (up (up (up σ21 29 v29x22) 30 (σ21 28)) 9 v9x23) 31 v31x26) 32 v32x27) 33 v33x28) 34 v34x29) 35 (.func (.func I.impl_PartsOf_1) #[] #[(σ21 5), (σ21 1), v9x23])) 36 v36x30) 10 v10x32) 38 v38x35) 39 v39x36) 37 v39x36) 40 v40x38) 41 v41x39) 42 v42x40) 43 v43x41) 11 v11x42) 12 v41x39) 13 v42x40) 14 v43x41) 44 (σ21 7)) 45 v45x45) 46 v46x46) 47 v47x48) 48 (σ21 8)) 49 v41x39) 50 v42x40) 51 v51x50) 52 v52x52) 7 v47x48) 8 v52x52) 53 v53x54) 28 v53x54) H53)
      (Q21 (.exit 0) (up σ21 29 v29x22) H21)) (blkQ 0 (thenQ J20 (retQ prg [(.tmp 2), (.tmp 3), (.tmp 4)] K))) (up (up (up (up (up (up (up (up (up (up (up (up (up (up (up (up (up (up (up (up (up (up (S0 [a0]) 1 v1x1) 2 (.slice none 0 0)) 3 (.slice none 0 0)) 4 (.bool false)) 15 v15x3) 16 v16x4) 17 v17x6) 19 v19x7) 20 v20x8) 21 (.func (.func I.impl_Field_corners) #[v20x8] #[])) 22 v22x9) 18 v22x9) 23 v23x11) 24 v24x12) 5 v5x13) 6 v24x12) 25 v25x16) 26 v26x18) 7 v25x16) 8 v26x18) 27 v24x12) 28 (.int .i64 0)) H19)
def O.impl_PartsOf : Nat → Nat × List Nat := fun i => (0, [])
theorem R.impl_PartsOf {a0 : Value} {H : Hp} {K : Value → Hp → Prop} (h : F.impl_PartsOf a0 H K) : HT prg I.impl_PartsOf [a0].toArray H K :=
  HT_of_fev O.impl_PartsOf mixed Tryz.func8 (by kernel_rfl) (Eq.mpr (by kernel_rfl : fev prg O.impl_PartsOf Tryz.f8 [a0] H K = F.impl_PartsOf a0 H K) h)

/-! slices.Clone[[]int64,int64]: function 82 -/
def F.slices_Clone_int64Zint64 (a0 : Value) (H : Hp) (K : Value → Hp → Prop) : Prop :=
  ob (vSlEq .eql a0 (.slice none 0 0)) fun v4x1 =>
  cnd v4x1
    (K (.slice none 0 0) H)
    (bS 1 0 #[(.int .i64 0)] 2 [] H fun v5x2 H3 =>
  apd 1 8 #[(.int .i64 0)] 2 v5x2 a0 H3 fun v7x4 H5 =>
  K v7x4 H5)
def O.slices_Clone_int64Zint64 : Nat → Nat × List Nat := fun i => (0, [])
theorem R.slices_Clone_int64Zint64 {a0 : Value} {H : Hp} {K : Value → Hp → Prop} (h : F.slices_Clone_int64Zint64 a0 H K) : HT prg I.slices_Clone_int64Zint64 [a0].toArray H K :=
  HT_of_fev O.slices_Clone_int64Zint64 mixed Tryz.func82 (by kernel_rfl) (Eq.mpr (by kernel_rfl : fev prg O.slices_Clone_int64Zint64 Tryz.f82 [a0] H K = F.slices_Clone_int64Zint64 a0 H K) h)

/-! loop.example/g01381/impl.copyField: function 58 -/
def F.impl_copyField (a0 : Value) (H : Hp) (K : Value → Hp → Prop) : Prop :=
  nw (a0 : Value).cells 27 H fun v1x1 H2 =>
  nw #[(.int .i64 0), (.int .i64 0), (.slice none 0 0)] 27 H2 fun v2x3 H4 =>
  ob (vFa 2 v1x1) fun v3x5 =>
  ob (vLoad v3x5 H4) fun v4x6 =>
  HT prg I.slices_Clone_int64Zint64 [v4x6].toArray H4 fun v5x7 H8 =>
  ob (vFa 2 v1x1) fun v6x9 =>
  st 1 v6x9 v5x7 H8 fun H10 =>
  ob (vLoadN 3 v1x1 H10) fun v7x11 =>
  st 3 v2x3 v7x11 H10 fun H12 =>
  ob (vLoadN 3 v2x3 H12) fun u13 => K u13 H12
def O.impl_copyField : Nat → Nat × List Nat := fun i => (0, [])
theorem R.impl_copyField {a0 : Value} {H : Hp} {K : Value → Hp → Prop} (h : F.impl_copyField a0 H K) : HT prg I.impl_copyField [a0].toArray H K :=
  HT_of_fev O.impl_copyField mixed Tryz.func58 (by kernel_rfl) (Eq.mpr (by kernel_rfl : fev prg O.impl_copyField Tryz.f58 [a0] H K = F.impl_copyField a0 H K) h)

/-! (loop.example/g01381/impl.Field).mirrored$1: function 83 -/
def F.impl_Field_mirrored_1 (a0 a1 a2 : Value) (H : Hp) (K : Value → Hp → Prop) : Prop :=
  ob (vLoadN 3 a2 H) fun v6x1 =>
  ob (vFa 1 a2) fun v8x2 =>
  ob (vLoad v8x2 H) fun v9x3 =>
  ob (vInt .sub v9x3 (.int .i64 1)) fun v10x4 =>
  ob (vInt .sub v10x4 a1) fun v12x5 =>
  HT prg I.impl_Field_at [v6x1, a0, v12x5].toArray H fun v13x6 H7 =>
  K v13x6 H7
def O.impl_Field_mirrored_1 : Nat → Nat × List Nat := fun i => (0, [])
theorem R.impl_Field_mirrored_1 {a0 a1 a2 : Value} {H : Hp} {K : Value → Hp → Prop} (h : F.impl_Field_mirrored_1 a0 a1 a2 H K) : HT prg I.impl_Field_mirrored_1 [a0, a1, a2].toArray H K :=
  HT_of_fev O.impl_Field_mirrored_1 mixed Tryz.func83 (by kernel_rfl) (Eq.mpr (by kernel_rfl : fev prg O.impl_Field_mirrored_1 Tryz.f83 [a0, a1, a2] H K = F.impl_Field_mirrored_1 a0 a1 a2 H K) h)

/-! (loop.example/g01381/impl.Field).mirrored: function 59 -/
def F.impl_Field_mirrored (a0 : Value) (H : Hp) (K : Value → Hp → Prop) : Prop :=
  nw (a0 : Value).cells 27 H fun v1x1 H2 =>
  nw #[(.int .i64 0), (.int .i64 0), (.slice none 0 0)] 27 H2 fun v2x3 H4 =>
  ob (vFa 0 v1x1) fun v3x5 =>
  ob (vLoad v3x5 H4) fun v4x6 =>
  ob (vFa 1 v1x1) fun v5x7 =>
  ob (vLoad v5x7 H4) fun v6x8 =>
  HT prg I.impl_madeField [v4x6, v6x8, (.func (.func I.impl_Field_mirrored_1) #[] #[v1x1])].toArray H4 fun v8x9 H10 =>
  st 3 v2x3 v8x9 H10 fun H11 =>
  ob (vLoadN 3 v2x3 H11) fun u12 => K u12 H11
def O.impl_Field_mirrored : Nat → Nat × List Nat := fun i => (0, [])
theorem R.impl_Field_mirrored {a0 : Value} {H : Hp} {K : Value → Hp → Prop} (h : F.impl_Field_mirrored a0 H K) : HT prg I.impl_Field_mirrored [a0].toArray H K :=
  HT_of_fev O.impl_Field_mirrored mixed Tryz.func59 (by kernel_rfl) (Eq.mpr (by kernel_rfl : fev prg O.impl_Field_mirrored Tryz.f59 [a0] H K = F.impl_Field_mirrored a0 H K) h)

/-! (loop.example/g01381/impl.Field).right$1: function 84 -/
def F.impl_Field_right_1 (a0 a1 a2 : Value) (H : Hp) (K : Value → Hp → Prop) : Prop :=
  ob (vLoadN 3 a2 H) fun v6x1 =>
  ob (vFa 0 a2) fun v7x2 =>
  ob (vLoad v7x2 H) fun v8x3 =>
  ob (vInt .sub v8x3 (.int .i64 1)) fun v9x4 =>
  ob (vInt .sub v9x4 a1) fun v11x5 =>
  HT prg I.impl_Field_at [v6x1, v11x5, a0].toArray H fun v13x6 H7 =>
  K v13x6 H7
def O.impl_Field_right_1 : Nat → Nat × List Nat := fun i => (0, [])
theorem R.impl_Field_right_1 {a0 a1 a2 : Value} {H : Hp} {K : Value → Hp → Prop} (h : F.impl_Field_right_1 a0 a1 a2 H K) : HT prg I.impl_Field_right_1 [a0, a1, a2].toArray H K :=
  HT_of_fev O.impl_Field_right_1 mixed Tryz.func84 (by kernel_rfl) (Eq.mpr (by kernel_rfl : fev prg O.impl_Field_right_1 Tryz.f84 [a0, a1, a2] H K = F.impl_Field_right_1 a0 a1 a2 H K) h)

/-! (loop.example/g01381/impl.Field).right: function 60 -/
def F.impl_Field_right (a0 : Value) (H : Hp) (K : Value → Hp → Prop) : Prop :=
  nw (a0 : Value).cells 27 H fun v1x1 H2 =>
  nw #[(.int .i64 0), (.int .i64 0), (.slice none 0 0)] 27 H2 fun v2x3 H4 =>
  ob (vFa 1 v1x1) fun v3x5 =>
  ob (vLoad v3x5 H4) fun v4x6 =>
  ob (vFa 0 v1x1) fun v5x7 =>
  ob (vLoad v5x7 H4) fun v6x8 =>
  HT prg I.impl_madeField [v4x6, v6x8, (.func (.func I.impl_Field_right_1) #[] #[v1x1])].toArray H4 fun v8x9 H10 =>
  st 3 v2x3 v8x9 H10 fun H11 =>
  ob (vLoadN 3 v2x3 H11) fun u12 => K u12 H11
def O.impl_Field_right : Nat → Nat × List Nat := fun i => (0, [])
theorem R.impl_Field_right {a0 : Value} {H : Hp} {K : Value → Hp → Prop} (h : F.impl_Field_right a0 H K) : HT prg I.impl_Field_right [a0].toArray H K :=
  HT_of_fev O.impl_Field_right mixed Tryz.func60 (by kernel_rfl) (Eq.mpr (by kernel_rfl : fev prg O.impl_Field_right Tryz.f60 [a0] H K = F.impl_Field_right a0 H K) h)

/-! (loop.example/g01381/impl.Field).images: function 44 -/
def F.impl_Field_images (a0 : Value) (H : Hp) (K : Value → Hp → Prop) : Prop :=
  nw (a0 : Value).cells 27 H fun v1x1 H2 =>
  bS 3 0 #[(.int .i64 0), (.int .i64 0), (.slice none 0 0)] 27 [] H2 fun v6x3 H4 =>
  jn (fun σ5 H5 =>
    K (σ5 3) H5) fun J5 =>
  ob (vLoadN 3 v1x1 H4) fun v7x6 =>
  ob (vLoadN 3 v1x1 H4) fun v9x7 =>
  HT prg I.impl_copyField [v7x6].toArray H4 fun v8x8 H9 =>
  Le H4 H9 ∧ (HT prg I.impl_Field_mirrored [v9x7].toArray H9 fun v10x10 H11 =>
  Le H9 H11 ∧ (bS 3 2 #[(.int .i64 0), (.int .i64 0), (.slice none 0 0)] 27 [(0, v8x8), (1, v10x10)] H11 fun v11x12 H13 =>
  ob (vLenSl v11x12) fun v12x14 =>
  lpE (fun Q15 σ15 H15 =>
    ob (vInt .lss (σ15 13) (σ15 12)) fun v14x16 =>
    cnd v14x16
      (jn (fun σ17 H17 =>
      ob (vInt .add (σ17 13) (.int .i64 1)) fun v26x18 =>
      Q15 .normal (up (up σ17 26 v26x18) 13 v26x18) H17) fun J17 =>
    ob (vIx 3 (σ15 11) (σ15 13)) fun v15x19 =>
    ob (vLoadN 3 v15x19 H15) fun v16x20 =>
    nw #[(.int .i64 0), (.int .i64 0), (.slice none 0 0)] 27 H15 fun v5x21 H22 =>
    st 3 v5x21 v16x20 H22 fun H23 =>
    lpE (fun Q24 σ24 H24 =>
      ob (vInt .lss (σ24 17) (.int .i64 4)) fun v18x25 =>
      cnd v18x25
        (ob (vLoadN 3 (σ24 5) H24) fun v20x26 =>
      bS 3 1 #[(.int .i64 0), (.int .i64 0), (.slice none 0 0)] 27 [(0, v20x26)] H24 fun v21x27 H28 =>
      apd 3 40 #[(.int .i64 0), (.int .i64 0), (.slice none 0 0)] 27 (σ24 3) v21x27 H28 fun v22x29 H30 =>
      ob (vLoadN 3 (σ24 5) H30) fun v23x31 =>
      HT prg I.impl_Field_right [v23x31].toArray H30 fun v24x32 H33 =>
      st 3 (σ24 5) v24x32 H33 fun H34 =>
      ob (vInt .add (σ24 17) (.int .i64 1)) fun v25x35 =>
      Q24 .normal (up (up (up (up (up (up (up (up (up (up σ24 18 v18x25) 19 (σ24 3)) 20 v20x26) 21 v21x27) 22 v22x29) 3 v22x29) 23 v23x31) 24 v24x32) 25 v25x35) 17 v25x35) H34)
        (Q24 (.exit 2) (up σ24 18 v18x25) H24)) (blkQ 2 (blkQ 1 (thenQ J17 Q15))) (up (up (up (up (up σ15 14 v14x16) 15 v15x19) 16 v16x20) 5 v5x21) 17 (.int .i64 0)) H23)
      (Q15 (.exit 0) (up σ15 14 v14x16) H15)) (blkQ 0 (thenQ J5 (retQ prg [(.tmp 2)] K))) (up (up (up (up (up (up (up (up (up (up (up (S0 [a0]) 1 v1x1) 2 (.slice none 0 0)) 6 v6x3) 3 v6x3) 7 v7x6) 9 v9x7) 13 (.int .i64 0)) 8 v8x8) 10 v10x10) 11 v11x12) 12 v12x14) H13))
def O.impl_Field_images : Nat → Nat × List Nat := fun i => bif Nat.beq i 2 then (0, [0, 2, 6, 1, 3, 4, 5]) else (0, [])
theorem R.impl_Field_images {a0 : Value} {H : Hp} {K : Value → Hp → Prop} (h : F.impl_Field_images a0 H K) : HT prg I.impl_Field_images [a0].toArray H K :=
  HT_of_fev O.impl_Field_images mixed Tryz.func44 (by kernel_rfl) (Eq.mpr (by kernel_rfl : fev prg O.impl_Field_images Tryz.f44 [a0] H K = F.impl_Field_images a0 H K) h)

/-! slices.Chunk[[]int64,int64]$1: function 85 -/
def F.slices_Chunk_int64Zint64Z1 (a0 a1 a2 : Value) (H : Hp) (K : Value → Hp → Prop) : Prop :=
  lpE (fun Q1 σ1 H1 =>
    ob (vLoad (σ1 1) H1) fun v7x2 =>
    ob (vLenSl v7x2) fun v8x3 =>
    ob (vInt .lss (σ1 4) v8x3) fun v9x4 =>
    cnd v9x4
      (ob (vLoad (σ1 2) H1) fun v13x5 =>
    ob (vLoad (σ1 1) H1) fun v14x6 =>
    ob (vSl3 1 v14x6 (some (σ1 4)) none none) fun v16x7 =>
    ob (vLenSl v16x7) fun v17x8 =>
    ob (vMx false v13x5 [v17x8]) fun v18x9 =>
    ob (vLoad (σ1 1) H1) fun v20x10 =>
    ob (vInt .add (σ1 4) v18x9) fun v24x11 =>
    ob (vInt .add (σ1 4) v18x9) fun v27x12 =>
    ob (vSl3 1 v20x10 (some (σ1 4)) (some v24x11) (some v27x12)) fun v28x13 =>
    callV prg (σ1 0) [v28x13] H1 fun v29x14 H15 =>
    ob (vUn .not v29x14) fun v30x16 =>
    cnd v30x16
      (Q1 .ret (up (up (up (up (up (up (up (up (up (up (up (up (up (up (up (up (up (up (up (up (up (up (up σ1 6 (σ1 4)) 7 v7x2) 8 v8x3) 9 v9x4) 13 v13x5) 14 v14x6) 15 (σ1 4)) 16 v16x7) 17 v17x8) 18 v18x9) 5 v18x9) 19 (σ1 0)) 20 v20x10) 21 (σ1 4)) 22 (σ1 4)) 23 v18x9) 24 v24x11) 25 (σ1 4)) 26 v18x9) 27 v27x12) 28 v28x13) 29 v29x14) 30 v30x16) H15)
      (ob (vLoad (σ1 2) H15) fun v11x17 =>
    ob (vInt .add (σ1 4) v11x17) fun v12x18 =>
    Q1 .normal (up (up (up (up (up (up (up (up (up (up (up (up (up (up (up (up (up (up (up (up (up (up (up (up (up (up (up σ1 6 (σ1 4)) 7 v7x2) 8 v8x3) 9 v9x4) 13 v13x5) 14 v14x6) 15 (σ1 4)) 16 v16x7) 17 v17x8) 18 v18x9) 5 v18x9) 19 (σ1 0)) 20 v20x10) 21 (σ1 4)) 22 (σ1 4)) 23 v18x9) 24 v24x11) 25 (σ1 4)) 26 v18x9) 27 v27x12) 28 v28x13) 29 v29x14) 30 v30x16) 10 (σ1 4)) 11 v11x17) 12 v12x18) 4 v12x18) H15))
      (Q1 (.exit 0) (up (up (up (up σ1 6 (σ1 4)) 7 v7x2) 8 v8x3) 9 v9x4) H1)) (blkQ 0 (retQ prg [] K)) (up (S0 [a0, a1, a2]) 4 (.int .i64 0)) H
def O.slices_Chunk_int64Zint64Z1 : Nat → Nat × List Nat := fun i => bif Nat.beq i 3 then (0, [0, 1, 2, 3, 4, 5, 6]) else (0, [])
theorem R.slices_Chunk_int64Zint64Z1 {a0 a1 a2 : Value} {H : Hp} {K : Value → Hp → Prop} (h : F.slices_Chunk_int64Zint64Z1 a0 a1 a2 H K) : HT prg I.slices_Chunk_int64Zint64Z1 [a0, a1, a2].toArray H K :=
  HT_of_fev O.slices_Chunk_int64Zint64Z1 mixed Tryz.func85 (by kernel_rfl) (Eq.mpr (by kernel_rfl : fev prg O.slices_Chunk_int64Zint64Z1 Tryz.f85 [a0, a1, a2] H K = F.slices_Chunk_int64Zint64Z1 a0 a1 a2 H K) h)

/-! slices.Chunk[[]int64,int64]: function 61 -/
def F.slices_Chunk_int64Zint64 (a0 a1 : Value) (H : Hp) (K : Value → Hp → Prop) : Prop :=
  nw (a0 : Value).cells 25 H fun v2x1 H2 =>
  nw (a1 : Value).cells 3 H2 fun v3x3 H4 =>
  ob (vLoad v3x3 H4) fun v5x5 =>
  ob (vInt .lss v5x5 (.int .i64 1)) fun v6x6 =>
  cnd v6x6
    (ob (val prg (Instr.makeInterface 9 (.string ⟨#[99, 97, 110, 110, 111, 116, 32, 98, 101, 32, 108, 101, 115, 115, 32, 116, 104, 97, 110, 32, 49]⟩)) H4) fun v7x7 =>
    hp prg (do pure (Next.value (← Instr.panic v7x7))) H4 (nextH prg (fun _ H8 =>
    K (.func (.func I.slices_Chunk_int64Zint64Z1) #[] #[v2x1, v3x3]) H8)))
    (K (.func (.func I.slices_Chunk_int64Zint64Z1) #[] #[v2x1, v3x3]) H4)
def O.slices_Chunk_int64Zint64 : Nat → Nat × List Nat := fun i => (0, [])
theorem R.slices_Chunk_int64Zint64 {a0 a1 : Value} {H : Hp} {K : Value → Hp → Prop} (h : F.slices_Chunk_int64Zint64 a0 a1 H K) : HT prg I.slices_Chunk_int64Zint64 [a0, a1].toArray H K :=
  HT_of_fev O.slices_Chunk_int64Zint64 mixed Tryz.func61 (by kernel_rfl) (Eq.mpr (by kernel_rfl : fev prg O.slices_Chunk_int64Zint64 Tryz.f61 [a0, a1] H K = F.slices_Chunk_int64Zint64 a0 a1 H K) h)

/-! internal/strconv.small: function 106 -/
def F.internal_strconv_small (a0 : Value) (H : Hp) (K : Value → Hp → Prop) : Prop :=
  ob (vInt .lss a0 (.int .i64 10)) fun v4x1 =>
  cnd v4x1
    (ob (vInt .add a0 (.int .i64 1)) fun v7x2 =>
    ob (vSlS (.string ⟨#[48, 49, 50, 51, 52, 53, 54, 55, 56, 57, 97, 98, 99, 100, 101, 102, 103, 104, 105, 106, 107, 108, 109, 110, 111, 112, 113, 114, 115, 116, 117, 118, 119, 120, 121, 122]⟩) (some a0) (some v7x2)) fun v8x3 =>
    K v8x3 H)
    (ob (vInt .mul a0 (.int .i64 2)) fun v10x4 =>
  ob (vInt .mul a0 (.int .i64 2)) fun v12x5 =>
  ob (vInt .add v12x5 (.int .i64 2)) fun v13x6 =>
  ob (vSlS (.string ⟨#[48, 48, 48, 49, 48, 50, 48, 51, 48, 52, 48, 53, 48, 54, 48, 55, 48, 56, 48, 57, 49, 48, 49, 49, 49, 50, 49, 51, 49, 52, 49, 53, 49, 54, 49, 55, 49, 56, 49, 57, 50, 48, 50, 49, 50, 50, 50, 51, 50, 52, 50, 53, 50, 54, 50, 55, 50, 56, 50, 57, 51, 48, 51, 49, 51, 50, 51, 51, 51, 52, 51, 53, 51, 54, 51, 55, 51, 56, 51, 57, 52, 48, 52, 49, 52, 50, 52, 51, 52, 52, 52, 53, 52, 54, 52, 55, 52, 56, 52, 57, 53, 48, 53, 49, 53, 50, 53, 51, 53, 52, 53, 53, 53, 54, 53, 55, 53, 56, 53, 57, 54, 48, 54, 49, 54, 50, 54, 51, 54, 52, 54, 53, 54, 54, 54, 55, 54, 56, 54, 57, 55, 48, 55, 49, 55, 50, 55, 51, 55, 52, 55, 53, 55, 54, 55, 55, 55, 56, 55, 57, 56, 48, 56, 49, 56, 50, 56, 51, 56, 52, 56, 53, 56, 54, 56, 55, 56, 56, 56, 57, 57, 48, 57, 49, 57, 50, 57, 51, 57, 52, 57, 53, 57, 54, 57, 55, 57, 56, 57, 57]⟩) (some v10x4) (some v13x6)) fun v14x7 =>
  K v14x7 H)
def O.internal_strconv_small : Nat → Nat × List Nat := fun i => (0, [])
theorem R.internal_strconv_small {a0 : Value} {H : Hp} {K : Value → Hp → Prop} (h : F.internal_strconv_small a0 H K) : HT prg I.internal_strconv_small [a0].toArray H K :=
  HT_of_fev O.internal_strconv_small mixed Tryz.func106 (by kernel_rfl) (Eq.mpr (by kernel_rfl : fev prg O.internal_strconv_small Tryz.f106 [a0] H K = F.internal_strconv_small a0 H K) h)

/-! math/bits.Len64: function 75 -/
def F.math_bits_Len64 (a0 : Value) (H : Hp) (K : Value → Hp → Prop) : Prop :=
  jn (fun σ1 H1 =>
    jn (fun σ2 H2 =>
      ob (vInt .geq (σ2 0) (.int .u64 256)) fun v14x3 =>
      cnd v14x3
        (ob (vInt .shr (σ2 0) (.int .u64 8)) fun v16x4 =>
        ob (vInt .add (σ2 2) (.int .i64 8)) fun v18x5 =>
        ob (vCI .u8 v16x4) fun v21x6 =>
      ob (vIndexS (.string ⟨#[0, 1, 2, 2, 3, 3, 3, 3, 4, 4, 4, 4, 4, 4, 4, 4, 5, 5, 5, 5, 5, 5, 5, 5, 5, 5, 5, 5, 5, 5, 5, 5, 6, 6, 6, 6, 6, 6, 6, 6, 6, 6, 6, 6, 6, 6, 6, 6, 6, 6, 6, 6, 6, 6, 6, 6, 6, 6, 6, 6, 6, 6, 6, 6, 7, 7, 7, 7, 7, 7, 7, 7, 7, 7, 7, 7, 7, 7, 7, 7, 7, 7, 7, 7, 7, 7, 7, 7, 7, 7, 7, 7, 7, 7, 7, 7, 7, 7, 7, 7, 7, 7, 7, 7, 7, 7, 7, 7, 7, 7, 7, 7, 7, 7, 7, 7, 7, 7, 7, 7, 7, 7, 7, 7, 7, 7, 7, 7, 8, 8, 8, 8, 8, 8, 8, 8, 8, 8, 8, 8, 8, 8, 8, 8, 8, 8, 8, 8, 8, 8, 8, 8, 8, 8, 8, 8, 8, 8, 8, 8, 8, 8, 8, 8, 8, 8, 8, 8, 8, 8, 8, 8, 8, 8, 8, 8, 8, 8, 8, 8, 8, 8, 8, 8, 8, 8, 8, 8, 8, 8, 8, 8, 8, 8, 8, 8, 8, 8, 8, 8, 8, 8, 8, 8, 8, 8, 8, 8, 8, 8, 8, 8, 8, 8, 8, 8, 8, 8, 8, 8, 8, 8, 8, 8, 8, 8, 8, 8, 8, 8, 8, 8, 8, 8, 8, 8, 8, 8, 8, 8, 8, 8, 8, 8, 8, 8, 8, 8, 8, 8, 8, 8, 8, 8, 8, 8]⟩) v21x6) fun v22x7 =>
      ob (vCI .i64 v22x7) fun v23x8 =>
      ob (vInt .add v18x5 v23x8) fun v24x9 =>
      K v24x9 H2)
        (ob (vCI .u8 (σ2 0)) fun v21x10 =>
      ob (vIndexS (.string ⟨#[0, 1, 2, 2, 3, 3, 3, 3, 4, 4, 4, 4, 4, 4, 4, 4, 5, 5, 5, 5, 5, 5, 5, 5, 5, 5, 5, 5, 5, 5, 5, 5, 6, 6, 6, 6, 6, 6, 6, 6, 6, 6, 6, 6, 6, 6, 6, 6, 6, 6, 6, 6, 6, 6, 6, 6, 6, 6, 6, 6, 6, 6, 6, 6, 7, 7, 7, 7, 7, 7, 7, 7, 7, 7, 7, 7, 7, 7, 7, 7, 7, 7, 7, 7, 7, 7, 7, 7, 7, 7, 7, 7, 7, 7, 7, 7, 7, 7, 7, 7, 7, 7, 7, 7, 7, 7, 7, 7, 7, 7, 7, 7, 7, 7, 7, 7, 7, 7, 7, 7, 7, 7, 7, 7, 7, 7, 7, 7, 8, 8, 8, 8, 8, 8, 8, 8, 8, 8, 8, 8, 8, 8, 8, 8, 8, 8, 8, 8, 8, 8, 8, 8, 8, 8, 8, 8, 8, 8, 8, 8, 8, 8, 8, 8, 8, 8, 8, 8, 8, 8, 8, 8, 8, 8, 8, 8, 8, 8, 8, 8, 8, 8, 8, 8, 8, 8, 8, 8, 8, 8, 8, 8, 8, 8, 8, 8, 8, 8, 8, 8, 8, 8, 8, 8, 8, 8, 8, 8, 8, 8, 8, 8, 8, 8, 8, 8, 8, 8, 8, 8, 8, 8, 8, 8, 8, 8, 8, 8, 8, 8, 8, 8, 8, 8, 8, 8, 8, 8, 8, 8, 8, 8, 8, 8, 8, 8, 8, 8, 8, 8, 8, 8, 8, 8, 8, 8]⟩) v21x10) fun v22x11 =>
      ob (vCI .i64 v22x11) fun v23x12 =>
      ob (vInt .add (σ2 2) v23x12) fun v24x13 =>
      K v24x13 H2)) fun J2 =>
    ob (vInt .geq (σ1 0) (.int .u64 65536)) fun v8x14 =>
    cnd v8x14
      (ob (vInt .shr (σ1 0) (.int .u64 16)) fun v10x15 =>
      ob (vInt .add (σ1 2) (.int .i64 16)) fun v12x16 =>
      J2 (up (up (up (up (up (up (up (up σ1 7 (σ1 0)) 8 v8x14) 9 (σ1 0)) 10 v10x15) 0 v10x15) 11 (σ1 2)) 12 v12x16) 2 v12x16) H1)
      (J2 (up (up σ1 7 (σ1 0)) 8 v8x14) H1)) fun J1 =>
  ob (vInt .geq a0 (.int .u64 4294967296)) fun v4x17 =>
  cnd v4x17
    (ob (vInt .shr a0 (.int .u64 32)) fun v6x18 =>
    J1 (up (up (up (up (up (up (up (S0 [a0]) 2 (.int .i64 0)) 3 a0) 4 v4x17) 5 a0) 6 v6x18) 0 v6x18) 2 (.int .i64 32)) H)
    (J1 (up (up (up (S0 [a0]) 2 (.int .i64 0)) 3 a0) 4 v4x17) H)
def O.math_bits_Len64 : Nat → Nat × List Nat := fun i => (0, [])
theorem R.math_bits_Len64 {a0 : Value} {H : Hp} {K : Value → Hp → Prop} (h : F.math_bits_Len64 a0 H K) : HT prg I.math_bits_Len64 [a0].toArray H K :=
  HT_of_fev O.math_bits_Len64 mixed Tryz.func75 (by kernel_rfl) (Eq.mpr (by kernel_rfl : fev prg O.math_bits_Len64 Tryz.f75 [a0] H K = F.math_bits_Len64 a0 H K) h)

/-! internal/strconv.log10Pow2: function 112 -/
def F.internal_strconv_log10Pow2 (a0 : Value) (H : Hp) (K : Value → Hp → Prop) : Prop :=
  ob (vInt .mul a0 (.int .i64 78913)) fun v4x1 =>
  ob (vInt .shr v4x1 (.int .u64 18)) fun v5x2 =>
  K v5x2 H
def O.internal_strconv_log10Pow2 : Nat → Nat × List Nat := fun i => (0, [])
theorem R.internal_strconv_log10Pow2 {a0 : Value} {H : Hp} {K : Value → Hp → Prop} (h : F.internal_strconv_log10Pow2 a0 H K) : HT prg I.internal_strconv_log10Pow2 [a0].toArray H K :=
  HT_of_fev O.internal_strconv_log10Pow2 mixed Tryz.func112 (by kernel_rfl) (Eq.mpr (by kernel_rfl : fev prg O.internal_strconv_log10Pow2 Tryz.f112 [a0] H K = F.internal_strconv_log10Pow2 a0 H K) h)

/-! internal/strconv.bool2[int]: function 113 -/
def F.internal_strconv_bool2Zint (a0 : Value) (H : Hp) (K : Value → Hp → Prop) : Prop :=
  cnd a0
    (K (.int .i64 1) H)
    (K (.int .i64 0) H)
def O.internal_strconv_bool2Zint : Nat → Nat × List Nat := fun i => (0, [])
theorem R.internal_strconv_bool2Zint {a0 : Value} {H : Hp} {K : Value → Hp → Prop} (h : F.internal_strconv_bool2Zint a0 H K) : HT prg I.internal_strconv_bool2Zint [a0].toArray H K :=
  HT_of_fev O.internal_strconv_bool2Zint mixed Tryz.func113 (by kernel_rfl) (Eq.mpr (by kernel_rfl : fev prg O.internal_strconv_bool2Zint Tryz.f113 [a0] H K = F.internal_strconv_bool2Zint a0 H K) h)

/-! internal/strconv.numDigits: function 107 -/
def F.internal_strconv_numDigits (a0 : Value) (H : Hp) (K : Value → Hp → Prop) : Prop :=
  HT prg I.math_bits_Len64 [a0].toArray H fun v5x1 H2 =>
  HT prg I.internal_strconv_log10Pow2 [v5x1].toArray H2 fun v6x3 H4 =>
  ob (vIxArr 20 1 (.pointer (some ⟨0, 0, none⟩)) v6x3) fun v10x5 =>
  ob (vLoad v10x5 H4) fun v11x6 =>
  ob (vInt .geq a0 v11x6) fun v12x7 =>
  HT prg I.internal_strconv_bool2Zint [v12x7].toArray H4 fun v13x8 H9 =>
  ob (vInt .add v6x3 v13x8) fun v14x10 =>
  K v14x10 H9
def O.internal_strconv_numDigits : Nat → Nat × List Nat := fun i => (0, [])
theorem R.internal_strconv_numDigits {a0 : Value} {H : Hp} {K : Value → Hp → Prop} (h : F.internal_strconv_numDigits a0 H K) : HT prg I.internal_strconv_numDigits [a0].toArray H K :=
  HT_of_fev O.internal_strconv_numDigits mixed Tryz.func107 (by kernel_rfl) (Eq.mpr (by kernel_rfl : fev prg O.internal_strconv_numDigits Tryz.f107 [a0] H K = F.internal_strconv_numDigits a0 H K) h)

/-! internal/strconv.formatBase10: function 108 -/
def F.internal_strconv_formatBase10 (a0 a1 : Value) (H : Hp) (K : Value → Hp → Prop) : Prop :=
  ob (vLenSl a0) fun v18x1 =>
  jn (fun σ2 H2 =>
    ob (vCI .u32 (σ2 1)) fun v97x3 =>
    jn (fun σ4 H4 =>
      ob (vInt .geq (σ4 4) (.int .i64 2)) fun v139x5 =>
      cnd v139x5
        (ob (vInt .rem (σ4 12) (.int .u32 100)) fun v141x6 =>
        ob (vInt .mul v141x6 (.int .u32 2)) fun v142x7 =>
        ob (vInt .quo (σ4 12) (.int .u32 100)) fun v144x8 =>
        ob (vInt .sub (σ4 4) (.int .i64 1)) fun v147x9 =>
        ob (vInt .sub (σ4 4) (.int .i64 2)) fun v150x10 =>
        ob (vInt .add v142x7 (.int .u32 1)) fun v152x11 =>
        ob (vIndexS (.string ⟨#[48, 48, 48, 49, 48, 50, 48, 51, 48, 52, 48, 53, 48, 54, 48, 55, 48, 56, 48, 57, 49, 48, 49, 49, 49, 50, 49, 51, 49, 52, 49, 53, 49, 54, 49, 55, 49, 56, 49, 57, 50, 48, 50, 49, 50, 50, 50, 51, 50, 52, 50, 53, 50, 54, 50, 55, 50, 56, 50, 57, 51, 48, 51, 49, 51, 50, 51, 51, 51, 52, 51, 53, 51, 54, 51, 55, 51, 56, 51, 57, 52, 48, 52, 49, 52, 50, 52, 51, 52, 52, 52, 53, 52, 54, 52, 55, 52, 56, 52, 57, 53, 48, 53, 49, 53, 50, 53, 51, 53, 52, 53, 53, 53, 54, 53, 55, 53, 56, 53, 57, 54, 48, 54, 49, 54, 50, 54, 51, 54, 52, 54, 53, 54, 54, 54, 55, 54, 56, 54, 57, 55, 48, 55, 49, 55, 50, 55, 51, 55, 52, 55, 53, 55, 54, 55, 55, 55, 56, 55, 57, 56, 48, 56, 49, 56, 50, 56, 51, 56, 52, 56, 53, 56, 54, 56, 55, 56, 56, 56, 57, 57, 48, 57, 49, 57, 50, 57, 51, 57, 52, 57, 53, 57, 54, 57, 55, 57, 56, 57, 57]⟩) v152x11) fun v153x12 =>
        ob (vIndexS (.string ⟨#[48, 48, 48, 49, 48, 50, 48, 51, 48, 52, 48, 53, 48, 54, 48, 55, 48, 56, 48, 57, 49, 48, 49, 49, 49, 50, 49, 51, 49, 52, 49, 53, 49, 54, 49, 55, 49, 56, 49, 57, 50, 48, 50, 49, 50, 50, 50, 51, 50, 52, 50, 53, 50, 54, 50, 55, 50, 56, 50, 57, 51, 48, 51, 49, 51, 50, 51, 51, 51, 52, 51, 53, 51, 54, 51, 55, 51, 56, 51, 57, 52, 48, 52, 49, 52, 50, 52, 51, 52, 52, 52, 53, 52, 54, 52, 55, 52, 56, 52, 57, 53, 48, 53, 49, 53, 50, 53, 51, 53, 52, 53, 53, 53, 54, 53, 55, 53, 56, 53, 57, 54, 48, 54, 49, 54, 50, 54, 51, 54, 52, 54, 53, 54, 54, 54, 55, 54, 56, 54, 57, 55, 48, 55, 49, 55, 50, 55, 51, 55, 52, 55, 53, 55, 54, 55, 55, 55, 56, 55, 57, 56, 48, 56, 49, 56, 50, 56, 51, 56, 52, 56, 53, 56, 54, 56, 55, 56, 56, 56, 57, 57, 48, 57, 49, 57, 50, 57, 51, 57, 52, 57, 53, 57, 54, 57, 55, 57, 56, 57, 57]⟩) v142x7) fun v155x13 =>
        ob (vIx 1 (σ4 0) v147x9) fun v156x14 =>
        st 1 v156x14 v153x12 H4 fun H15 =>
        ob (vIx 1 (σ4 0) v150x10) fun v157x16 =>
        st 1 v157x16 v155x13 H15 fun H17 =>
        ob (vInt .sub (σ4 4) (.int .i64 2)) fun v159x18 =>
        ob (vInt .gtr v159x18 (.int .i64 0)) fun v161x19 =>
      cnd v161x19
        (ob (vInt .add (.int .u32 48) v144x8) fun v164x20 =>
        ob (vCI .u8 v164x20) fun v165x21 =>
        ob (vIx 1 (σ4 0) (.int .i64 0)) fun v166x22 =>
        st 1 v166x22 v165x21 H17 fun H23 =>
        K (.tuple #[]) H23)
        (K (.tuple #[]) H17))
        (ob (vInt .gtr (σ4 4) (.int .i64 0)) fun v161x24 =>
      cnd v161x24
        (ob (vInt .add (.int .u32 48) (σ4 12)) fun v164x25 =>
        ob (vCI .u8 v164x25) fun v165x26 =>
        ob (vIx 1 (σ4 0) (.int .i64 0)) fun v166x27 =>
        st 1 v166x27 v165x26 H4 fun H28 =>
        K (.tuple #[]) H28)
        (K (.tuple #[]) H4))) fun J4 =>
    ob (vInt .geq (σ2 4) (.int .i64 4)) fun v99x29 =>
    cnd v99x29
      (ob (vInt .rem v97x3 (.int .u32 10000)) fun v101x30 =>
      ob (vInt .quo v97x3 (.int .u32 10000)) fun v103x31 =>
      ob (vInt .quo v101x30 (.int .u32 100)) fun v105x32 =>
      ob (vInt .mul v105x32 (.int .u32 2)) fun v106x33 =>
      ob (vInt .rem v101x30 (.int .u32 100)) fun v108x34 =>
      ob (vInt .mul v108x34 (.int .u32 2)) fun v109x35 =>
      ob (vInt .sub (σ2 4) (.int .i64 1)) fun v112x36 =>
      ob (vInt .sub (σ2 4) (.int .i64 2)) fun v115x37 =>
      ob (vInt .add v109x35 (.int .u32 1)) fun v117x38 =>
      ob (vIndexS (.string ⟨#[48, 48, 48, 49, 48, 50, 48, 51, 48, 52, 48, 53, 48, 54, 48, 55, 48, 56, 48, 57, 49, 48, 49, 49, 49, 50, 49, 51, 49, 52, 49, 53, 49, 54, 49, 55, 49, 56, 49, 57, 50, 48, 50, 49, 50, 50, 50, 51, 50, 52, 50, 53, 50, 54, 50, 55, 50, 56, 50, 57, 51, 48, 51, 49, 51, 50, 51, 51, 51, 52, 51, 53, 51, 54, 51, 55, 51, 56, 51, 57, 52, 48, 52, 49, 52, 50, 52, 51, 52, 52, 52, 53, 52, 54, 52, 55, 52, 56, 52, 57, 53, 48, 53, 49, 53, 50, 53, 51, 53, 52, 53, 53, 53, 54, 53, 55, 53, 56, 53, 57, 54, 48, 54, 49, 54, 50, 54, 51, 54, 52, 54, 53, 54, 54, 54, 55, 54, 56, 54, 57, 55, 48, 55, 49, 55, 50, 55, 51, 55, 52, 55, 53, 55, 54, 55, 55, 55, 56, 55, 57, 56, 48, 56, 49, 56, 50, 56, 51, 56, 52, 56, 53, 56, 54, 56, 55, 56, 56, 56, 57, 57, 48, 57, 49, 57, 50, 57, 51, 57, 52, 57, 53, 57, 54, 57, 55, 57, 56, 57, 57]⟩) v117x38) fun v118x39 =>
      ob (vIndexS (.string ⟨#[48, 48, 48, 49, 48, 50, 48, 51, 48, 52, 48, 53, 48, 54, 48, 55, 48, 56, 48, 57, 49, 48, 49, 49, 49, 50, 49, 51, 49, 52, 49, 53, 49, 54, 49, 55, 49, 56, 49, 57, 50, 48, 50, 49, 50, 50, 50, 51, 50, 52, 50, 53, 50, 54, 50, 55, 50, 56, 50, 57, 51, 48, 51, 49, 51, 50, 51, 51, 51, 52, 51, 53, 51, 54, 51, 55, 51, 56, 51, 57, 52, 48, 52, 49, 52, 50, 52, 51, 52, 52, 52, 53, 52, 54, 52, 55, 52, 56, 52, 57, 53, 48, 53, 49, 53, 50, 53, 51, 53, 52, 53, 53, 53, 54, 53, 55, 53, 56, 53, 57, 54, 48, 54, 49, 54, 50, 54, 51, 54, 52, 54, 53, 54, 54, 54, 55, 54, 56, 54, 57, 55, 48, 55, 49, 55, 50, 55, 51, 55, 52, 55, 53, 55, 54, 55, 55, 55, 56, 55, 57, 56, 48, 56, 49, 56, 50, 56, 51, 56, 52, 56, 53, 56, 54, 56, 55, 56, 56, 56, 57, 57, 48, 57, 49, 57, 50, 57, 51, 57, 52, 57, 53, 57, 54, 57, 55, 57, 56, 57, 57]⟩) v109x35) fun v120x40 =>
      ob (vIx 1 (σ2 0) v112x36) fun v121x41 =>
      st 1 v121x41 v118x39 H2 fun H42 =>
      ob (vIx 1 (σ2 0) v115x37) fun v122x43 =>
      st 1 v122x43 v120x40 H42 fun H44 =>
      ob (vInt .sub (σ2 4) (.int .i64 3)) fun v125x45 =>
      ob (vInt .sub (σ2 4) (.int .i64 4)) fun v128x46 =>
      ob (vInt .add v106x33 (.int .u32 1)) fun v130x47 =>
      ob (vIndexS (.string ⟨#[48, 48, 48, 49, 48, 50, 48, 51, 48, 52, 48, 53, 48, 54, 48, 55, 48, 56, 48, 57, 49, 48, 49, 49, 49, 50, 49, 51, 49, 52, 49, 53, 49, 54, 49, 55, 49, 56, 49, 57, 50, 48, 50, 49, 50, 50, 50, 51, 50, 52, 50, 53, 50, 54, 50, 55, 50, 56, 50, 57, 51, 48, 51, 49, 51, 50, 51, 51, 51, 52, 51, 53, 51, 54, 51, 55, 51, 56, 51, 57, 52, 48, 52, 49, 52, 50, 52, 51, 52, 52, 52, 53, 52, 54, 52, 55, 52, 56, 52, 57, 53, 48, 53, 49, 53, 50, 53, 51, 53, 52, 53, 53, 53, 54, 53, 55, 53, 56, 53, 57, 54, 48, 54, 49, 54, 50, 54, 51, 54, 52, 54, 53, 54, 54, 54, 55, 54, 56, 54, 57, 55, 48, 55, 49, 55, 50, 55, 51, 55, 52, 55, 53, 55, 54, 55, 55, 55, 56, 55, 57, 56, 48, 56, 49, 56, 50, 56, 51, 56, 52, 56, 53, 56, 54, 56, 55, 56, 56, 56, 57, 57, 48, 57, 49, 57, 50, 57, 51, 57, 52, 57, 53, 57, 54, 57, 55, 57, 56, 57, 57]⟩) v130x47) fun v131x48 =>
      ob (vIndexS (.string ⟨#[48, 48, 48, 49, 48, 50, 48, 51, 48, 52, 48, 53, 48, 54, 48, 55, 48, 56, 48, 57, 49, 48, 49, 49, 49, 50, 49, 51, 49, 52, 49, 53, 49, 54, 49, 55, 49, 56, 49, 57, 50, 48, 50, 49, 50, 50, 50, 51, 50, 52, 50, 53, 50, 54, 50, 55, 50, 56, 50, 57, 51, 48, 51, 49, 51, 50, 51, 51, 51, 52, 51, 53, 51, 54, 51, 55, 51, 56, 51, 57, 52, 48, 52, 49, 52, 50, 52, 51, 52, 52, 52, 53, 52, 54, 52, 55, 52, 56, 52, 57, 53, 48, 53, 49, 53, 50, 53, 51, 53, 52, 53, 53, 53, 54, 53, 55, 53, 56, 53, 57, 54, 48, 54, 49, 54, 50, 54, 51, 54, 52, 54, 53, 54, 54, 54, 55, 54, 56, 54, 57, 55, 48, 55, 49, 55, 50, 55, 51, 55, 52, 55, 53, 55, 54, 55, 55, 55, 56, 55, 57, 56, 48, 56, 49, 56, 50, 56, 51, 56, 52, 56, 53, 56, 54, 56, 55, 56, 56, 56, 57, 57, 48, 57, 49, 57, 50, 57, 51, 57, 52, 57, 53, 57, 54, 57, 55, 57, 56, 57, 57]⟩) v106x33) fun v133x49 =>
      ob (vIx 1 (σ2 0) v125x45) fun v134x50 =>
      st 1 v134x50 v131x48 H44 fun H51 =>
      ob (vIx 1 (σ2 0) v128x46) fun v135x52 =>
      st 1 v135x52 v133x49 H51 fun H53 =>
      ob (vInt .sub (σ2 4) (.int .i64 4)) fun v137x54 =>
      J4 (up (up (up (up (up (up (up (up (up (up (up (up (up (up (up (up (up (up (up (up (up (up (up (up (up (up (up (up (up (up (up (up (up (up (up (up (up (up (up (up (up (up (up (up (up (up (up (up σ2 96 (σ2 1)) 97 v97x3) 12 v97x3) 98 (σ2 4)) 99 v99x29) 100 v97x3) 101 v101x30) 13 v101x30) 102 v97x3) 103 v103x31) 12 v103x31) 104 v101x30) 105 v105x32) 106 v106x33) 107 v101x30) 108 v108x34) 109 v109x35) 14 v106x33) 15 v109x35) 110 (σ2 0)) 111 (σ2 4)) 112 v112x36) 113 (σ2 0)) 114 (σ2 4)) 115 v115x37) 116 v109x35) 117 v117x38) 118 v118x39) 119 v109x35) 120 v120x40) 121 v121x41) 122 v122x43) 123 (σ2 0)) 124 (σ2 4)) 125 v125x45) 126 (σ2 0)) 127 (σ2 4)) 128 v128x46) 129 v106x33) 130 v130x47) 131 v131x48) 132 v106x33) 133 v133x49) 134 v134x50) 135 v135x52) 136 (σ2 4)) 137 v137x54) 4 v137x54) H53)
      (J4 (up (up (up (up (up σ2 96 (σ2 1)) 97 v97x3) 12 v97x3) 98 (σ2 4)) 99 v99x29) H2)) fun J2 =>
  lpE (fun Q55 σ55 H55 =>
    ob (vInt .geq (σ55 4) (.int .i64 8)) fun v20x56 =>
    cnd v20x56
      (ob (vInt .rem (σ55 1) (.int .u64 100000000)) fun v22x57 =>
    ob (vCI .u32 v22x57) fun v23x58 =>
    ob (vInt .quo (σ55 1) (.int .u64 100000000)) fun v25x59 =>
    ob (vInt .quo v23x58 (.int .u32 10000)) fun v27x60 =>
    ob (vInt .rem v23x58 (.int .u32 10000)) fun v29x61 =>
    ob (vInt .quo v29x61 (.int .u32 100)) fun v31x62 =>
    ob (vInt .mul v31x62 (.int .u32 2)) fun v32x63 =>
    ob (vInt .rem v29x61 (.int .u32 100)) fun v34x64 =>
    ob (vInt .mul v34x64 (.int .u32 2)) fun v35x65 =>
    ob (vInt .quo v27x60 (.int .u32 100)) fun v37x66 =>
    ob (vInt .mul v37x66 (.int .u32 2)) fun v38x67 =>
    ob (vInt .rem v27x60 (.int .u32 100)) fun v40x68 =>
    ob (vInt .mul v40x68 (.int .u32 2)) fun v41x69 =>
    ob (vInt .sub (σ55 4) (.int .i64 1)) fun v44x70 =>
    ob (vInt .sub (σ55 4) (.int .i64 2)) fun v47x71 =>
    ob (vInt .add v35x65 (.int .u32 1)) fun v49x72 =>
    ob (vIndexS (.string ⟨#[48, 48, 48, 49, 48, 50, 48, 51, 48, 52, 48, 53, 48, 54, 48, 55, 48, 56, 48, 57, 49, 48, 49, 49, 49, 50, 49, 51, 49, 52, 49, 53, 49, 54, 49, 55, 49, 56, 49, 57, 50, 48, 50, 49, 50, 50, 50, 51, 50, 52, 50, 53, 50, 54, 50, 55, 50, 56, 50, 57, 51, 48, 51, 49, 51, 50, 51, 51, 51, 52, 51, 53, 51, 54, 51, 55, 51, 56, 51, 57, 52, 48, 52, 49, 52, 50, 52, 51, 52, 52, 52, 53, 52, 54, 52, 55, 52, 56, 52, 57, 53, 48, 53, 49, 53, 50, 53, 51, 53, 52, 53, 53, 53, 54, 53, 55, 53, 56, 53, 57, 54, 48, 54, 49, 54, 50, 54, 51, 54, 52, 54, 53, 54, 54, 54, 55, 54, 56, 54, 57, 55, 48, 55, 49, 55, 50, 55, 51, 55, 52, 55, 53, 55, 54, 55, 55, 55, 56, 55, 57, 56, 48, 56, 49, 56, 50, 56, 51, 56, 52, 56, 53, 56, 54, 56, 55, 56, 56, 56, 57, 57, 48, 57, 49, 57, 50, 57, 51, 57, 52, 57, 53, 57, 54, 57, 55, 57, 56, 57, 57]⟩) v49x72) fun v50x73 =>
    ob (vIndexS (.string ⟨#[48, 48, 48, 49, 48, 50, 48, 51, 48, 52, 48, 53, 48, 54, 48, 55, 48, 56, 48, 57, 49, 48, 49, 49, 49, 50, 49, 51, 49, 52, 49, 53, 49, 54, 49, 55, 49, 56, 49, 57, 50, 48, 50, 49, 50, 50, 50, 51, 50, 52, 50, 53, 50, 54, 50, 55, 50, 56, 50, 57, 51, 48, 51, 49, 51, 50, 51, 51, 51, 52, 51, 53, 51, 54, 51, 55, 51, 56, 51, 57, 52, 48, 52, 49, 52, 50, 52, 51, 52, 52, 52, 53, 52, 54, 52, 55, 52, 56, 52, 57, 53, 48, 53, 49, 53, 50, 53, 51, 53, 52, 53, 53, 53, 54, 53, 55, 53, 56, 53, 57, 54, 48, 54, 49, 54, 50, 54, 51, 54, 52, 54, 53, 54, 54, 54, 55, 54, 56, 54, 57, 55, 48, 55, 49, 55, 50, 55, 51, 55, 52, 55, 53, 55, 54, 55, 55, 55, 56, 55, 57, 56, 48, 56, 49, 56, 50, 56, 51, 56, 52, 56, 53, 56, 54, 56, 55, 56, 56, 56, 57, 57, 48, 57, 49, 57, 50, 57, 51, 57, 52, 57, 53, 57, 54, 57, 55, 57, 56, 57, 57]⟩) v35x65) fun v52x74 =>
    ob (vIx 1 (σ55 0) v44x70) fun v53x75 =>
    st 1 v53x75 v50x73 H55 fun H76 =>
    ob (vIx 1 (σ55 0) v47x71) fun v54x77 =>
    st 1 v54x77 v52x74 H76 fun H78 =>
    ob (vInt .sub (σ55 4) (.int .i64 3)) fun v57x79 =>
    ob (vInt .sub (σ55 4) (.int .i64 4)) fun v60x80 =>
    ob (vInt .add v32x63 (.int .u32 1)) fun v62x81 =>
    ob (vIndexS (.string ⟨#[48, 48, 48, 49, 48, 50, 48, 51, 48, 52, 48, 53, 48, 54, 48, 55, 48, 56, 48, 57, 49, 48, 49, 49, 49, 50, 49, 51, 49, 52, 49, 53, 49, 54, 49, 55, 49, 56, 49, 57, 50, 48, 50, 49, 50, 50, 50, 51, 50, 52, 50, 53, 50, 54, 50, 55, 50, 56, 50, 57, 51, 48, 51, 49, 51, 50, 51, 51, 51, 52, 51, 53, 51, 54, 51, 55, 51, 56, 51, 57, 52, 48, 52, 49, 52, 50, 52, 51, 52, 52, 52, 53, 52, 54, 52, 55, 52, 56, 52, 57, 53, 48, 53, 49, 53, 50, 53, 51, 53, 52, 53, 53, 53, 54, 53, 55, 53, 56, 53, 57, 54, 48, 54, 49, 54, 50, 54, 51, 54, 52, 54, 53, 54, 54, 54, 55, 54, 56, 54, 57, 55, 48, 55, 49, 55, 50, 55, 51, 55, 52, 55, 53, 55, 54, 55, 55, 55, 56, 55, 57, 56, 48, 56, 49, 56, 50, 56, 51, 56, 52, 56, 53, 56, 54, 56, 55, 56, 56, 56, 57, 57, 48, 57, 49, 57, 50, 57, 51, 57, 52, 57, 53, 57, 54, 57, 55, 57, 56, 57, 57]⟩) v62x81) fun v63x82 =>
    ob (vIndexS (.string ⟨#[48, 48, 48, 49, 48, 50, 48, 51, 48, 52, 48, 53, 48, 54, 48, 55, 48, 56, 48, 57, 49, 48, 49, 49, 49, 50, 49, 51, 49, 52, 49, 53, 49, 54, 49, 55, 49, 56, 49, 57, 50, 48, 50, 49, 50, 50, 50, 51, 50, 52, 50, 53, 50, 54, 50, 55, 50, 56, 50, 57, 51, 48, 51, 49, 51, 50, 51, 51, 51, 52, 51, 53, 51, 54, 51, 55, 51, 56, 51, 57, 52, 48, 52, 49, 52, 50, 52, 51, 52, 52, 52, 53, 52, 54, 52, 55, 52, 56, 52, 57, 53, 48, 53, 49, 53, 50, 53, 51, 53, 52, 53, 53, 53, 54, 53, 55, 53, 56, 53, 57, 54, 48, 54, 49, 54, 50, 54, 51, 54, 52, 54, 53, 54, 54, 54, 55, 54, 56, 54, 57, 55, 48, 55, 49, 55, 50, 55, 51, 55, 52, 55, 53, 55, 54, 55, 55, 55, 56, 55, 57, 56, 48, 56, 49, 56, 50, 56, 51, 56, 52, 56, 53, 56, 54, 56, 55, 56, 56, 56, 57, 57, 48, 57, 49, 57, 50, 57, 51, 57, 52, 57, 53, 57, 54, 57, 55, 57, 56, 57, 57]⟩) v32x63) fun v65x83 =>
    ob (vIx 1 (σ55 0) v57x79) fun v66x84 =>
    st 1 v66x84 v63x82 H78 fun H85 =>
    ob (vIx 1 (σ55 0) v60x80) fun v67x86 =>
    st 1 v67x86 v65x83 H85 fun H87 =>
    ob (vInt .sub (σ55 4) (.int .i64 5)) fun v70x88 =>
    ob (vInt .sub (σ55 4) (.int .i64 6)) fun v73x89 =>
    ob (vInt .add v41x69 (.int .u32 1)) fun v75x90 =>
    ob (vIndexS (.string ⟨#[48, 48, 48, 49, 48, 50, 48, 51, 48, 52, 48, 53, 48, 54, 48, 55, 48, 56, 48, 57, 49, 48, 49, 49, 49, 50, 49, 51, 49, 52, 49, 53, 49, 54, 49, 55, 49, 56, 49, 57, 50, 48, 50, 49, 50, 50, 50, 51, 50, 52, 50, 53, 50, 54, 50, 55, 50, 56, 50, 57, 51, 48, 51, 49, 51, 50, 51, 51, 51, 52, 51, 53, 51, 54, 51, 55, 51, 56, 51, 57, 52, 48, 52, 49, 52, 50, 52, 51, 52, 52, 52, 53, 52, 54, 52, 55, 52, 56, 52, 57, 53, 48, 53, 49, 53, 50, 53, 51, 53, 52, 53, 53, 53, 54, 53, 55, 53, 56, 53, 57, 54, 48, 54, 49, 54, 50, 54, 51, 54, 52, 54, 53, 54, 54, 54, 55, 54, 56, 54, 57, 55, 48, 55, 49, 55, 50, 55, 51, 55, 52, 55, 53, 55, 54, 55, 55, 55, 56, 55, 57, 56, 48, 56, 49, 56, 50, 56, 51, 56, 52, 56, 53, 56, 54, 56, 55, 56, 56, 56, 57, 57, 48, 57, 49, 57, 50, 57, 51, 57, 52, 57, 53, 57, 54, 57, 55, 57, 56, 57, 57]⟩) v75x90) fun v76x91 =>
    ob (vIndexS (.string ⟨#[48, 48, 48, 49, 48, 50, 48, 51, 48, 52, 48, 53, 48, 54, 48, 55, 48, 56, 48, 57, 49, 48, 49, 49, 49, 50, 49, 51, 49, 52, 49, 53, 49, 54, 49, 55, 49, 56, 49, 57, 50, 48, 50, 49, 50, 50, 50, 51, 50, 52, 50, 53, 50, 54, 50, 55, 50, 56, 50, 57, 51, 48, 51, 49, 51, 50, 51, 51, 51, 52, 51, 53, 51, 54, 51, 55, 51, 56, 51, 57, 52, 48, 52, 49, 52, 50, 52, 51, 52, 52, 52, 53, 52, 54, 52, 55, 52, 56, 52, 57, 53, 48, 53, 49, 53, 50, 53, 51, 53, 52, 53, 53, 53, 54, 53, 55, 53, 56, 53, 57, 54, 48, 54, 49, 54, 50, 54, 51, 54, 52, 54, 53, 54, 54, 54, 55, 54, 56, 54, 57, 55, 48, 55, 49, 55, 50, 55, 51, 55, 52, 55, 53, 55, 54, 55, 55, 55, 56, 55, 57, 56, 48, 56, 49, 56, 50, 56, 51, 56, 52, 56, 53, 56, 54, 56, 55, 56, 56, 56, 57, 57, 48, 57, 49, 57, 50, 57, 51, 57, 52, 57, 53, 57, 54, 57, 55, 57, 56, 57, 57]⟩) v41x69) fun v78x92 =>
    ob (vIx 1 (σ55 0) v70x88) fun v79x93 =>
    st 1 v79x93 v76x91 H87 fun H94 =>
    ob (vIx 1 (σ55 0) v73x89) fun v80x95 =>
    st 1 v80x95 v78x92 H94 fun H96 =>
    ob (vInt .sub (σ55 4) (.int .i64 7)) fun v83x97 =>
    ob (vInt .sub (σ55 4) (.int .i64 8)) fun v86x98 =>
    ob (vInt .add v38x67 (.int .u32 1)) fun v88x99 =>
    ob (vIndexS (.string ⟨#[48, 48, 48, 49, 48, 50, 48, 51, 48, 52, 48, 53, 48, 54, 48, 55, 48, 56, 48, 57, 49, 48, 49, 49, 49, 50, 49, 51, 49, 52, 49, 53, 49, 54, 49, 55, 49, 56, 49, 57, 50, 48, 50, 49, 50, 50, 50, 51, 50, 52, 50, 53, 50, 54, 50, 55, 50, 56, 50, 57, 51, 48, 51, 49, 51, 50, 51, 51, 51, 52, 51, 53, 51, 54, 51, 55, 51, 56, 51, 57, 52, 48, 52, 49, 52, 50, 52, 51, 52, 52, 52, 53, 52, 54, 52, 55, 52, 56, 52, 57, 53, 48, 53, 49, 53, 50, 53, 51, 53, 52, 53, 53, 53, 54, 53, 55, 53, 56, 53, 57, 54, 48, 54, 49, 54, 50, 54, 51, 54, 52, 54, 53, 54, 54, 54, 55, 54, 56, 54, 57, 55, 48, 55, 49, 55, 50, 55, 51, 55, 52, 55, 53, 55, 54, 55, 55, 55, 56, 55, 57, 56, 48, 56, 49, 56, 50, 56, 51, 56, 52, 56, 53, 56, 54, 56, 55, 56, 56, 56, 57, 57, 48, 57, 49, 57, 50, 57, 51, 57, 52, 57, 53, 57, 54, 57, 55, 57, 56, 57, 57]⟩) v88x99) fun v89x100 =>
    ob (vIndexS (.string ⟨#[48, 48, 48, 49, 48, 50, 48, 51, 48, 52, 48, 53, 48, 54, 48, 55, 48, 56, 48, 57, 49, 48, 49, 49, 49, 50, 49, 51, 49, 52, 49, 53, 49, 54, 49, 55, 49, 56, 49, 57, 50, 48, 50, 49, 50, 50, 50, 51, 50, 52, 50, 53, 50, 54, 50, 55, 50, 56, 50, 57, 51, 48, 51, 49, 51, 50, 51, 51, 51, 52, 51, 53, 51, 54, 51, 55, 51, 56, 51, 57, 52, 48, 52, 49, 52, 50, 52, 51, 52, 52, 52, 53, 52, 54, 52, 55, 52, 56, 52, 57, 53, 48, 53, 49, 53, 50, 53, 51, 53, 52, 53, 53, 53, 54, 53, 55, 53, 56, 53, 57, 54, 48, 54, 49, 54, 50, 54, 51, 54, 52, 54, 53, 54, 54, 54, 55, 54, 56, 54, 57, 55, 48, 55, 49, 55, 50, 55, 51, 55, 52, 55, 53, 55, 54, 55, 55, 55, 56, 55, 57, 56, 48, 56, 49, 56, 50, 56, 51, 56, 52, 56, 53, 56, 54, 56, 55, 56, 56, 56, 57, 57, 48, 57, 49, 57, 50, 57, 51, 57, 52, 57, 53, 57, 54, 57, 55, 57, 56, 57, 57]⟩) v38x67) fun v91x101 =>
    ob (vIx 1 (σ55 0) v83x97) fun v92x102 =>
    st 1 v92x102 v89x100 H96 fun H103 =>
    ob (vIx 1 (σ55 0) v86x98) fun v93x104 =>
    st 1 v93x104 v91x101 H103 fun H105 =>
    ob (vInt .sub (σ55 4) (.int .i64 8)) fun v95x106 =>
    Q55 .normal (up (up (up (up (up (up (up (up (up (up (up (up (up (up (up (up (up (up (up (up (up (up (up (up (up (up (up (up (up (up (up (up (up (up (up (up (up (up (up (up (up (up (up (up (up (up (up (up (up (up (up (up (up (up (up (up (up (up (up (up (up (up (up (up (up (up (up (up (up (up (up (up (up (up (up (up (up (up (up (up (up (up (up (up (up (up σ55 19 (σ55 4)) 20 v20x56) 21 (σ55 1)) 22 v22x57) 23 v23x58) 5 v23x58) 24 (σ55 1)) 25 v25x59) 1 v25x59) 26 v23x58) 27 v27x60) 28 v23x58) 29 v29x61) 6 v27x60) 7 v29x61) 30 v29x61) 31 v31x62) 32 v32x63) 33 v29x61) 34 v34x64) 35 v35x65) 8 v32x63) 9 v35x65) 36 v27x60) 37 v37x66) 38 v38x67) 39 v27x60) 40 v40x68) 41 v41x69) 10 v38x67) 11 v41x69) 42 (σ55 0)) 43 (σ55 4)) 44 v44x70) 45 (σ55 0)) 46 (σ55 4)) 47 v47x71) 48 v35x65) 49 v49x72) 50 v50x73) 51 v35x65) 52 v52x74) 53 v53x75) 54 v54x77) 55 (σ55 0)) 56 (σ55 4)) 57 v57x79) 58 (σ55 0)) 59 (σ55 4)) 60 v60x80) 61 v32x63) 62 v62x81) 63 v63x82) 64 v32x63) 65 v65x83) 66 v66x84) 67 v67x86) 68 (σ55 0)) 69 (σ55 4)) 70 v70x88) 71 (σ55 0)) 72 (σ55 4)) 73 v73x89) 74 v41x69) 75 v75x90) 76 v76x91) 77 v41x69) 78 v78x92) 79 v79x93) 80 v80x95) 81 (σ55 0)) 82 (σ55 4)) 83 v83x97) 84 (σ55 0)) 85 (σ55 4)) 86 v86x98) 87 v38x67) 88 v88x99) 89 v89x100) 90 v38x67) 91 v91x101) 92 v92x102) 93 v93x104) 94 (σ55 4)) 95 v95x106) 4 v95x106) H105)
      (Q55 (.exit 0) (up (up σ55 19 (σ55 4)) 20 v20x56) H55)) (blkQ 0 (thenQ J2 (retQ prg [] K))) (up (up (up (S0 [a0, a1]) 17 a0) 18 v18x1) 4 v18x1) H
def O.internal_strconv_formatBase10 : Nat → Nat × List Nat := fun i => bif Nat.beq i 23 then (0, [0, 1, 2, 3, 4, 5, 6, 7, 8, 9, 10, 11, 12, 13, 14]) else bif Nat.beq i 17 then (0, [0, 1, 2, 3, 4, 5, 6, 7, 8, 9, 10, 11, 12, 13, 14]) else bif Nat.beq i 18 then (0, [0, 1, 2, 3, 4, 5, 6, 7, 8, 9, 10, 11, 12, 13, 14]) else bif Nat.beq i 7 then (0, [0, 1, 2, 3, 4, 5, 6, 7, 8, 9, 10, 11, 12, 13, 14]) else bif Nat.beq i 8 then (0, [0, 1, 2, 3, 4, 5, 6, 7, 8, 9, 10, 11, 12, 13, 14]) else bif Nat.beq i 9 then (0, [0, 1, 2, 3, 4, 5, 6, 7, 8, 9, 10, 11, 12, 13, 14]) else bif Nat.beq i 10 then (0, [0, 1, 2, 3, 4, 5, 6, 7, 8, 9, 10, 11, 12, 13, 14]) else (0, [])
theorem R.internal_strconv_formatBase10 {a0 a1 : Value} {H : Hp} {K : Value → Hp → Prop} (h : F.internal_strconv_formatBase10 a0 a1 H K) : HT prg I.internal_strconv_formatBase10 [a0, a1].toArray H K :=
  HT_of_fev O.internal_strconv_formatBase10 mixed Tryz.func108 (by kernel_rfl) (Eq.mpr (by kernel_rfl : fev prg O.internal_strconv_formatBase10 Tryz.f108 [a0, a1] H K = F.internal_strconv_formatBase10 a0 a1 H K) h)

/-! internal/strconv.isPowerOfTwo: function 114 -/
def F.internal_strconv_isPowerOfTwo (a0 : Value) (H : Hp) (K : Value → Hp → Prop) : Prop :=
  ob (vInt .sub a0 (.int .i64 1)) fun v5x1 =>
  ob (vInt .and a0 v5x1) fun v6x2 =>
  ob (vInt .eql v6x2 (.int .i64 0)) fun v7x3 =>
  K v7x3 H
def O.internal_strconv_isPowerOfTwo : Nat → Nat × List Nat := fun i => (0, [])
theorem R.internal_strconv_isPowerOfTwo {a0 : Value} {H : Hp} {K : Value → Hp → Prop} (h : F.internal_strconv_isPowerOfTwo a0 H K) : HT prg I.internal_strconv_isPowerOfTwo [a0].toArray H K :=
  HT_of_fev O.internal_strconv_isPowerOfTwo mixed Tryz.func114 (by kernel_rfl) (Eq.mpr (by kernel_rfl : fev prg O.internal_strconv_isPowerOfTwo Tryz.f114 [a0] H K = F.internal_strconv_isPowerOfTwo a0 H K) h)

/-! math/bits.TrailingZeros32: function 116 -/
def F.math_bits_TrailingZeros32 (a0 : Value) (H : Hp) (K : Value → Hp → Prop) : Prop :=
  ob (vInt .eql a0 (.int .u32 0)) fun v4x1 =>
  cnd v4x1
    (K (.int .i64 32) H)
    (ob (vUn .neg a0) fun v7x2 =>
  ob (vInt .and a0 v7x2) fun v8x3 =>
  ob (vInt .mul v8x3 (.int .u32 125613361)) fun v9x4 =>
  ob (vInt .shr v9x4 (.int .u64 27)) fun v10x5 =>
  ob (vIxArr 32 1 (.pointer (some ⟨2, 0, none⟩)) v10x5) fun v11x6 =>
  ob (vLoad v11x6 H) fun v12x7 =>
  ob (vCI .i64 v12x7) fun v13x8 =>
  K v13x8 H)
def O.math_bits_TrailingZeros32 : Nat → Nat × List Nat := fun i => (0, [])
theorem R.math_bits_TrailingZeros32 {a0 : Value} {H : Hp} {K : Value → Hp → Prop} (h : F.math_bits_TrailingZeros32 a0 H K) : HT prg I.math_bits_TrailingZeros32 [a0].toArray H K :=
  HT_of_fev O.math_bits_TrailingZeros32 mixed Tryz.func116 (by kernel_rfl) (Eq.mpr (by kernel_rfl : fev prg O.math_bits_TrailingZeros32 Tryz.f116 [a0] H K = F.math_bits_TrailingZeros32 a0 H K) h)

/-! math/bits.TrailingZeros64: function 117 -/
def F.math_bits_TrailingZeros64 (a0 : Value) (H : Hp) (K : Value → Hp → Prop) : Prop :=
  ob (vInt .eql a0 (.int .u64 0)) fun v4x1 =>
  cnd v4x1
    (K (.int .i64 64) H)
    (ob (vUn .neg a0) fun v7x2 =>
  ob (vInt .and a0 v7x2) fun v8x3 =>
  ob (vInt .mul v8x3 (.int .u64 285870213051353865)) fun v9x4 =>
  ob (vInt .shr v9x4 (.int .u64 58)) fun v10x5 =>
  ob (vIxArr 64 1 (.pointer (some ⟨3, 0, none⟩)) v10x5) fun v11x6 =>
  ob (vLoad v11x6 H) fun v12x7 =>
  ob (vCI .i64 v12x7) fun v13x8 =>
  K v13x8 H)
def O.math_bits_TrailingZeros64 : Nat → Nat × List Nat := fun i => (0, [])
theorem R.math_bits_TrailingZeros64 {a0 : Value} {H : Hp} {K : Value → Hp → Prop} (h : F.math_bits_TrailingZeros64 a0 H K) : HT prg I.math_bits_TrailingZeros64 [a0].toArray H K :=
  HT_of_fev O.math_bits_TrailingZeros64 mixed Tryz.func117 (by kernel_rfl) (Eq.mpr (by kernel_rfl : fev prg O.math_bits_TrailingZeros64 Tryz.f117 [a0] H K = F.math_bits_TrailingZeros64 a0 H K) h)

/-! math/bits.TrailingZeros: function 115 -/
def F.math_bits_TrailingZeros (a0 : Value) (H : Hp) (K : Value → Hp → Prop) : Prop :=
  cnd (.bool false)
    (ob (vCI .u32 a0) fun v4x1 =>
    HT prg I.math_bits_TrailingZeros32 [v4x1].toArray H fun v5x2 H3 =>
    K v5x2 H3)
    (HT prg I.math_bits_TrailingZeros64 [a0].toArray H fun v7x4 H5 =>
  K v7x4 H5)
def O.math_bits_TrailingZeros : Nat → Nat × List Nat := fun i => (0, [])
theorem R.math_bits_TrailingZeros {a0 : Value} {H : Hp} {K : Value → Hp → Prop} (h : F.math_bits_TrailingZeros a0 H K) : HT prg I.math_bits_TrailingZeros [a0].toArray H K :=
  HT_of_fev O.math_bits_TrailingZeros mixed Tryz.func115 (by kernel_rfl) (Eq.mpr (by kernel_rfl : fev prg O.math_bits_TrailingZeros Tryz.f115 [a0] H K = F.math_bits_TrailingZeros a0 H K) h)

/-! internal/strconv.formatBits: function 109 -/
def F.internal_strconv_formatBits (a0 a1 a2 a3 a4 : Value) (H : Hp) (K : Value → Hp → Prop) : Prop :=
  jn (fun σ1 H1 =>
    nw #[(.int .u8 0), (.int .u8 0), (.int .u8 0), (.int .u8 0), (.int .u8 0), (.int .u8 0), (.int .u8 0), (.int .u8 0), (.int .u8 0), (.int .u8 0), (.int .u8 0), (.int .u8 0), (.int .u8 0), (.int .u8 0), (.int .u8 0), (.int .u8 0), (.int .u8 0), (.int .u8 0), (.int .u8 0), (.int .u8 0), (.int .u8 0), (.int .u8 0), (.int .u8 0), (.int .u8 0), (.int .u8 0), (.int .u8 0), (.int .u8 0), (.int .u8 0), (.int .u8 0), (.int .u8 0), (.int .u8 0), (.int .u8 0), (.int .u8 0), (.int .u8 0), (.int .u8 0), (.int .u8 0), (.int .u8 0), (.int .u8 0), (.int .u8 0), (.int .u8 0), (.int .u8 0), (.int .u8 0), (.int .u8 0), (.int .u8 0), (.int .u8 0), (.int .u8 0), (.int .u8 0), (.int .u8 0), (.int .u8 0), (.int .u8 0), (.int .u8 0), (.int .u8 0), (.int .u8 0), (.int .u8 0), (.int .u8 0), (.int .u8 0), (.int .u8 0), (.int .u8 0), (.int .u8 0), (.int .u8 0), (.int .u8 0), (.int .u8 0), (.int .u8 0), (.int .u8 0), (.int .u8 0)] 142 H1 fun v12x2 H3 =>
    jn (fun σ4 H4 =>
      jn (fun σ5 H5 =>
        cnd (σ5 3)
          (ob (vInt .sub (σ5 13) (.int .i64 1)) fun v91x6 =>
          ob (vIxArr 65 1 (σ5 12) v91x6) fun v93x7 =>
          st 1 v93x7 (.int .u8 45) H5 fun H8 =>
          cnd (σ5 4)
          (ob (vSlA 65 1 (σ5 12) (some v91x6) none) fun v97x9 =>
          apd 1 1 #[(.int .u8 0)] 5 (σ5 0) v97x9 H8 fun v98x10 H11 =>
          K (.tuple #[v98x10, (σ5 11)]) H11)
          (ob (vSlA 65 1 (σ5 12) (some v91x6) none) fun v100x12 =>
        ob (val prg (convert 22 9 v100x12) H8) fun v101x13 =>
        K (.tuple #[(σ5 10), v101x13]) H8))
          (cnd (σ5 4)
          (ob (vSlA 65 1 (σ5 12) (some (σ5 13)) none) fun v97x14 =>
          apd 1 1 #[(.int .u8 0)] 5 (σ5 0) v97x14 H5 fun v98x15 H16 =>
          K (.tuple #[v98x15, (σ5 11)]) H16)
          (ob (vSlA 65 1 (σ5 12) (some (σ5 13)) none) fun v100x17 =>
        ob (val prg (convert 22 9 v100x17) H5) fun v101x18 =>
        K (.tuple #[(σ5 10), v101x18]) H5))) fun J5 =>
      HT prg I.internal_strconv_isPowerOfTwo [(σ4 2)].toArray H4 fun v34x19 H20 =>
      cnd v34x19
        (ob (vCI .u64 (σ4 2)) fun v36x21 =>
        HT prg I.math_bits_TrailingZeros [v36x21].toArray H20 fun v37x22 H23 =>
        ob (vCI .u64 v37x22) fun v38x24 =>
        ob (vCI .u64 (σ4 2)) fun v40x25 =>
        ob (vCI .u64 (σ4 2)) fun v42x26 =>
        ob (vInt .sub v42x26 (.int .u64 1)) fun v43x27 =>
        jn (fun σ28 H28 =>
          ob (vInt .sub (σ28 13) (.int .i64 1)) fun v59x29 =>
          ob (vIndexS (.string ⟨#[48, 49, 50, 51, 52, 53, 54, 55, 56, 57, 97, 98, 99, 100, 101, 102, 103, 104, 105, 106, 107, 108, 109, 110, 111, 112, 113, 114, 115, 116, 117, 118, 119, 120, 121, 122]⟩) (σ28 1)) fun v62x30 =>
          ob (vIxArr 65 1 (σ28 12) v59x29) fun v63x31 =>
          st 1 v63x31 v62x30 H28 fun H32 =>
          J5 (up (up (up (up (up (up (up σ28 58 (σ28 13)) 59 v59x29) 13 v59x29) 60 v59x29) 61 (σ28 1)) 62 v62x30) 63 v63x31) H32) fun J28 =>
        lpE (fun Q33 σ33 H33 =>
          ob (vInt .geq (σ33 1) (σ33 15)) fun v46x34 =>
          cnd v46x34
            (ob (vInt .sub (σ33 13) (.int .i64 1)) fun v48x35 =>
          ob (vInt .and (σ33 1) (σ33 16)) fun v52x36 =>
          ob (vIndexS (.string ⟨#[48, 49, 50, 51, 52, 53, 54, 55, 56, 57, 97, 98, 99, 100, 101, 102, 103, 104, 105, 106, 107, 108, 109, 110, 111, 112, 113, 114, 115, 116, 117, 118, 119, 120, 121, 122]⟩) v52x36) fun v53x37 =>
          ob (vIxArr 65 1 (σ33 12) v48x35) fun v54x38 =>
          st 1 v54x38 v53x37 H33 fun H39 =>
          ob (vInt .shr (σ33 1) (σ33 14)) fun v57x40 =>
          Q33 .normal (up (up (up (up (up (up (up (up (up (up (up (up (up (up (up (up σ33 44 (σ33 1)) 45 (σ33 15)) 46 v46x34) 47 (σ33 13)) 48 v48x35) 13 v48x35) 49 v48x35) 50 (σ33 1)) 51 (σ33 16)) 52 v52x36) 53 v53x37) 54 v54x38) 55 (σ33 1)) 56 (σ33 14)) 57 v57x40) 1 v57x40) H39)
            (Q33 (.exit 0) (up (up (up σ33 44 (σ33 1)) 45 (σ33 15)) 46 v46x34) H33)) (blkQ 0 (thenQ J28 (thenQ J5 (retQ prg [(.tmp 10), (.tmp 11)] K)))) (up (up (up (up (up (up (up (up (up (up (up (up (up (up σ4 33 (σ4 2)) 34 v34x19) 35 (σ4 2)) 36 v36x21) 37 v37x22) 38 v38x24) 14 v38x24) 39 (σ4 2)) 40 v40x25) 15 v40x25) 41 (σ4 2)) 42 v42x26) 43 v43x27) 16 v43x27) H23)
        (ob (vCI .u64 (σ4 2)) fun v65x41 =>
        jn (fun σ42 H42 =>
          ob (vInt .sub (σ42 13) (.int .i64 1)) fun v84x43 =>
          ob (vIndexS (.string ⟨#[48, 49, 50, 51, 52, 53, 54, 55, 56, 57, 97, 98, 99, 100, 101, 102, 103, 104, 105, 106, 107, 108, 109, 110, 111, 112, 113, 114, 115, 116, 117, 118, 119, 120, 121, 122]⟩) (σ42 1)) fun v87x44 =>
          ob (vIxArr 65 1 (σ42 12) v84x43) fun v88x45 =>
          st 1 v88x45 v87x44 H42 fun H46 =>
          J5 (up (up (up (up (up (up (up σ42 83 (σ42 13)) 84 v84x43) 13 v84x43) 85 v84x43) 86 (σ42 1)) 87 v87x44) 88 v88x45) H46) fun J42 =>
        lpE (fun Q47 σ47 H47 =>
          ob (vInt .geq (σ47 1) (σ47 17)) fun v68x48 =>
          cnd v68x48
            (ob (vInt .sub (σ47 13) (.int .i64 1)) fun v70x49 =>
          ob (vInt .quo (σ47 1) (σ47 17)) fun v73x50 =>
          ob (vInt .mul v73x50 (σ47 17)) fun v78x51 =>
          ob (vInt .sub (σ47 1) v78x51) fun v79x52 =>
          ob (vIndexS (.string ⟨#[48, 49, 50, 51, 52, 53, 54, 55, 56, 57, 97, 98, 99, 100, 101, 102, 103, 104, 105, 106, 107, 108, 109, 110, 111, 112, 113, 114, 115, 116, 117, 118, 119, 120, 121, 122]⟩) v79x52) fun v80x53 =>
          ob (vIxArr 65 1 (σ47 12) v70x49) fun v81x54 =>
          st 1 v81x54 v80x53 H47 fun H55 =>
          Q47 .normal (up (up (up (up (up (up (up (up (up (up (up (up (up (up (up (up (up (up (up (up σ47 66 (σ47 1)) 67 (σ47 17)) 68 v68x48) 69 (σ47 13)) 70 v70x49) 13 v70x49) 71 (σ47 1)) 72 (σ47 17)) 73 v73x50) 18 v73x50) 74 v70x49) 75 (σ47 1)) 76 v73x50) 77 (σ47 17)) 78 v78x51) 79 v79x52) 80 v80x53) 81 v81x54) 82 v73x50) 1 v73x50) H55)
            (Q47 (.exit 2) (up (up (up σ47 66 (σ47 1)) 67 (σ47 17)) 68 v68x48) H47)) (blkQ 2 (thenQ J42 (thenQ J5 (retQ prg [(.tmp 10), (.tmp 11)] K)))) (up (up (up (up (up σ4 33 (σ4 2)) 34 v34x19) 64 (σ4 2)) 65 v65x41) 17 v65x41) H20)) fun J4 =>
    cnd (σ1 3)
      (ob (vUn .neg (σ1 1)) fun v32x56 =>
      J4 (up (up (up (up (up (up σ1 12 v12x2) 13 (.int .i64 65)) 30 (σ1 3)) 31 (σ1 1)) 32 v32x56) 1 v32x56) H3)
      (J4 (up (up (up σ1 12 v12x2) 13 (.int .i64 65)) 30 (σ1 3)) H3)) fun J1 =>
  ob (vInt .lss a2 (.int .i64 2)) fun v20x57 =>
  gop v20x57 false (fun K58 => K58 a2 H) H fun v22x59 H60 =>
  gop v20x57 false (fun K61 => ob (vInt .eql v22x59 (.int .i64 10)) fun u => K61 u H60) H60 fun v23x62 H63 =>
  ob (vPick v20x57 (.bool true) v23x62) fun v24x64 =>
  gop v24x64 false (fun K65 => K65 a2 H63) H63 fun v26x66 H67 =>
  gop v24x64 false (fun K68 => ob (vInt .gtr v26x66 (.int .i64 36)) fun u => K68 u H67) H67 fun v27x69 H70 =>
  ob (vPick v24x64 (.bool true) v27x69) fun v28x71 =>
  cnd v28x71
    (ob (val prg (Instr.makeInterface 9 (.string ⟨#[115, 116, 114, 99, 111, 110, 118, 58, 32, 105, 108, 108, 101, 103, 97, 108, 32, 65, 112, 112, 101, 110, 100, 73, 110, 116, 47, 70, 111, 114, 109, 97, 116, 73, 110, 116, 32, 98, 97, 115, 101]⟩)) H70) fun v29x72 =>
    hp prg (do pure (Next.value (← Instr.panic v29x72))) H70 (nextH prg (fun _ H73 =>
    J1 (up (up (up (up (up (up (up (up (up (up (up (up (up (S0 [a0, a1, a2, a3, a4]) 10 (.slice none 0 0)) 11 (.string ⟨#[]⟩)) 19 a2) 20 v20x57) 21 v20x57) 22 v22x59) 23 v23x62) 24 v24x64) 25 v24x64) 26 v26x66) 27 v27x69) 28 v28x71) 29 v29x72) H73)))
    (J1 (up (up (up (up (up (up (up (up (up (up (up (up (S0 [a0, a1, a2, a3, a4]) 10 (.slice none 0 0)) 11 (.string ⟨#[]⟩)) 19 a2) 20 v20x57) 21 v20x57) 22 v22x59) 23 v23x62) 24 v24x64) 25 v24x64) 26 v26x66) 27 v27x69) 28 v28x71) H70)
def O.internal_strconv_formatBits : Nat → Nat × List Nat := fun i => (0, [])
theorem R.internal_strconv_formatBits {a0 a1 a2 a3 a4 : Value} {H : Hp} {K : Value → Hp → Prop} (h : F.internal_strconv_formatBits a0 a1 a2 a3 a4 H K) : HT prg I.internal_strconv_formatBits [a0, a1, a2, a3, a4].toArray H K :=
  HT_of_fev O.internal_strconv_formatBits mixed Tryz.func109 (by kernel_rfl) (Eq.mpr (by kernel_rfl : fev prg O.internal_strconv_formatBits Tryz.f109 [a0, a1, a2, a3, a4] H K = F.internal_strconv_formatBits a0 a1 a2 a3 a4 H K) h)

/-! internal/strconv.FormatInt: function 102 -/
def F.internal_strconv_FormatInt (a0 a1 : Value) (H : Hp) (K : Value → Hp → Prop) : Prop :=
  ob (vInt .eql a1 (.int .i64 10)) fun v11x1 =>
  cnd v11x1
    (ob (vInt .leq (.int .i64 0) a0) fun v13x2 =>
    gop v13x2 true (fun K3 => K3 a0 H) H fun v15x4 H5 =>
    gop v13x2 true (fun K6 => ob (vInt .lss v15x4 (.int .i64 100)) fun u => K6 u H5) H5 fun v16x7 H8 =>
    ob (vPick v13x2 v16x7 (.bool false)) fun v17x9 =>
    cnd v17x9
      (HT prg I.internal_strconv_small [a0].toArray H8 fun v19x10 H11 =>
      K v19x10 H11)
      (nw #[(.int .u8 0), (.int .u8 0), (.int .u8 0), (.int .u8 0), (.int .u8 0), (.int .u8 0), (.int .u8 0), (.int .u8 0), (.int .u8 0), (.int .u8 0), (.int .u8 0), (.int .u8 0), (.int .u8 0), (.int .u8 0), (.int .u8 0), (.int .u8 0), (.int .u8 0), (.int .u8 0), (.int .u8 0), (.int .u8 0), (.int .u8 0), (.int .u8 0), (.int .u8 0), (.int .u8 0)] 132 H8 fun v5x12 H13 =>
    ob (vCI .u64 a0) fun v21x14 =>
    jn (fun σ15 H15 =>
      HT prg I.internal_strconv_numDigits [(σ15 6)].toArray H15 fun v27x16 H17 =>
      ob (vInt .add (.int .i64 1) v27x16) fun v29x18 =>
      ob (vSlA 24 1 (σ15 5) (some (.int .i64 1)) (some v29x18)) fun v30x19 =>
      HT prg I.internal_strconv_formatBase10 [v30x19, (σ15 6)].toArray H17 fun v32x20 H21 =>
      ob (vInt .lss (σ15 0) (.int .i64 0)) fun v34x22 =>
      cnd v34x22
        (ob (vIxArr 24 1 (σ15 5) (.int .i64 0)) fun v35x23 =>
        st 1 v35x23 (.int .u8 45) H21 fun H24 =>
        ob (vInt .add (.int .i64 1) v27x16) fun v37x25 =>
        ob (vSlA 24 1 (σ15 5) none (some v37x25)) fun v38x26 =>
        ob (val prg (convert 22 9 v38x26) H24) fun v39x27 =>
        K v39x27 H24)
        (ob (vInt .add (.int .i64 1) v27x16) fun v41x28 =>
      ob (vSlA 24 1 (σ15 5) (some (.int .i64 1)) (some v41x28)) fun v42x29 =>
      ob (val prg (convert 22 9 v42x29) H21) fun v43x30 =>
      K v43x30 H21)) fun J15 =>
    ob (vInt .lss a0 (.int .i64 0)) fun v23x31 =>
    cnd v23x31
      (ob (vUn .neg v21x14) fun v25x32 =>
      J15 (up (up (up (up (up (up (up (up (up (up (up (up (up (up (up (up (up (up (S0 [a0, a1]) 4 (.string ⟨#[]⟩)) 10 a1) 11 v11x1) 12 a0) 13 v13x2) 14 v13x2) 15 v15x4) 16 v16x7) 17 v17x9) 5 v5x12) 20 a0) 21 v21x14) 6 v21x14) 22 a0) 23 v23x31) 24 v21x14) 25 v25x32) 6 v25x32) H13)
      (J15 (up (up (up (up (up (up (up (up (up (up (up (up (up (up (up (S0 [a0, a1]) 4 (.string ⟨#[]⟩)) 10 a1) 11 v11x1) 12 a0) 13 v13x2) 14 v13x2) 15 v15x4) 16 v16x7) 17 v17x9) 5 v5x12) 20 a0) 21 v21x14) 6 v21x14) 22 a0) 23 v23x31) H13)))
    (ob (vCI .u64 a0) fun v46x33 =>
  ob (vInt .lss a0 (.int .i64 0)) fun v49x34 =>
  HT prg I.internal_strconv_formatBits [(.slice none 0 0), v46x33, a1, v49x34, (.bool false)].toArray H fun v50x35 H36 =>
  ob (vExt v50x35 0) fun v51x37 =>
  ob (vExt v50x35 1) fun v52x38 =>
  K v52x38 H36)
def O.internal_strconv_FormatInt : Nat → Nat × List Nat := fun i => (0, [])
theorem R.internal_strconv_FormatInt {a0 a1 : Value} {H : Hp} {K : Value → Hp → Prop} (h : F.internal_strconv_FormatInt a0 a1 H K) : HT prg I.internal_strconv_FormatInt [a0, a1].toArray H K :=
  HT_of_fev O.internal_strconv_FormatInt mixed Tryz.func102 (by kernel_rfl) (Eq.mpr (by kernel_rfl : fev prg O.internal_strconv_FormatInt Tryz.f102 [a0, a1] H K = F.internal_strconv_FormatInt a0 a1 H K) h)

/-! strconv.FormatInt: function 86 -/
def F.strconv_FormatInt (a0 a1 : Value) (H : Hp) (K : Value → Hp → Prop) : Prop :=
  HT prg I.internal_strconv_FormatInt [a0, a1].toArray H fun v7x1 H2 =>
  K v7x1 H2
def O.strconv_FormatInt : Nat → Nat × List Nat := fun i => (0, [])
theorem R.strconv_FormatInt {a0 a1 : Value} {H : Hp} {K : Value → Hp → Prop} (h : F.strconv_FormatInt a0 a1 H K) : HT prg I.strconv_FormatInt [a0, a1].toArray H K :=
  HT_of_fev O.strconv_FormatInt mixed Tryz.func86 (by kernel_rfl) (Eq.mpr (by kernel_rfl : fev prg O.strconv_FormatInt Tryz.f86 [a0, a1] H K = F.strconv_FormatInt a0 a1 H K) h)

/-! loop.example/g01381/impl.Decimal: function 63 -/
def F.impl_Decimal (a0 : Value) (H : Hp) (K : Value → Hp → Prop) : Prop :=
  HT prg I.strconv_FormatInt [a0, (.int .i64 10)].toArray H fun v4x1 H2 =>
  K v4x1 H2
def O.impl_Decimal : Nat → Nat × List Nat := fun i => (0, [])
theorem R.impl_Decimal {a0 : Value} {H : Hp} {K : Value → Hp → Prop} (h : F.impl_Decimal a0 H K) : HT prg I.impl_Decimal [a0].toArray H K :=
  HT_of_fev O.impl_Decimal mixed Tryz.func63 (by kernel_rfl) (Eq.mpr (by kernel_rfl : fev prg O.impl_Decimal Tryz.f63 [a0] H K = F.impl_Decimal a0 H K) h)

/-! loop.example/g01381/impl.runsText: function 62 -/
def F.impl_runsText (a0 : Value) (H : Hp) (K : Value → Hp → Prop) : Prop :=
  jn (fun σ1 H1 =>
    K (σ1 3) H1) fun J1 =>
  lpE (fun Q2 σ2 H2 =>
    ob (vLenSl (σ2 0)) fun v8x3 =>
    ob (vInt .lss (σ2 4) v8x3) fun v9x4 =>
    cnd v9x4
      (jn (fun σ5 H5 =>
      ob (vIx 1 (σ5 0) (σ5 4)) fun v30x6 =>
      ob (vLoad v30x6 H5) fun v31x7 =>
      ob (vInt .eql v31x7 (.int .i64 0)) fun v32x8 =>
      gop v32x8 true (fun K9 => K9 (σ5 5) H5) H5 fun v34x10 H11 =>
      gop v32x8 true (fun K12 => K12 (σ5 0) H11) H11 fun v35x13 H14 =>
      gop v32x8 true (fun K15 => ob (vLenSl v35x13) fun u => K15 u H14) H14 fun v36x16 H17 =>
      gop v32x8 true (fun K18 => ob (vInt .eql v34x10 v36x16) fun u => K18 u H17) H17 fun v37x19 H20 =>
      ob (vPick v32x8 v37x19 (.bool false)) fun v38x21 =>
      cnd v38x21
        (Q2 (.exit 0) (up (up (up (up (up (up (up (up (up (up (up σ5 28 (σ5 0)) 29 (σ5 4)) 30 v30x6) 31 v31x7) 32 v32x8) 33 v32x8) 34 v34x10) 35 v35x13) 36 v36x16) 37 v37x19) 38 v38x21) H20)
        (ob (vInt .sub (σ5 5) (σ5 4)) fun v41x22 =>
      ob (vInt .gtr v41x22 (.int .i64 1)) fun v42x23 =>
      cnd v42x23
        (ob (vInt .sub (σ5 5) (σ5 4)) fun v46x24 =>
        HT prg I.impl_Decimal [v46x24].toArray H20 fun v47x25 H26 =>
        ob (vStr .add (σ5 3) v47x25) fun v48x27 =>
        ob (vIx 1 (σ5 0) (σ5 4)) fun v52x28 =>
      ob (vLoad v52x28 H26) fun v53x29 =>
      ob (vIx 1 (σ5 0) (σ5 4)) fun v56x30 =>
      ob (vLoad v56x30 H26) fun v57x31 =>
      ob (vInt .add v57x31 (.int .i64 1)) fun v58x32 =>
      ob (vSlS (.string ⟨#[98, 111]⟩) (some v53x29) (some v58x32)) fun v59x33 =>
      ob (vStr .add v48x27 v59x33) fun v60x34 =>
      Q2 .normal (up (up (up (up (up (up (up (up (up (up (up (up (up (up (up (up (up (up (up (up (up (up (up (up (up (up (up (up (up (up (up (up (up (up (up (up (up σ5 28 (σ5 0)) 29 (σ5 4)) 30 v30x6) 31 v31x7) 32 v32x8) 33 v32x8) 34 v34x10) 35 v35x13) 36 v36x16) 37 v37x19) 38 v38x21) 39 (σ5 5)) 40 (σ5 4)) 41 v41x22) 42 v42x23) 43 (σ5 3)) 44 (σ5 5)) 45 (σ5 4)) 46 v46x24) 47 v47x25) 48 v48x27) 3 v48x27) 49 v48x27) 50 (σ5 0)) 51 (σ5 4)) 52 v52x28) 53 v53x29) 54 (σ5 0)) 55 (σ5 4)) 56 v56x30) 57 v57x31) 58 v58x32) 59 v59x33) 60 v60x34) 3 v60x34) 61 (σ5 5)) 4 (σ5 5)) H26)
        (ob (vIx 1 (σ5 0) (σ5 4)) fun v52x35 =>
      ob (vLoad v52x35 H20) fun v53x36 =>
      ob (vIx 1 (σ5 0) (σ5 4)) fun v56x37 =>
      ob (vLoad v56x37 H20) fun v57x38 =>
      ob (vInt .add v57x38 (.int .i64 1)) fun v58x39 =>
      ob (vSlS (.string ⟨#[98, 111]⟩) (some v53x36) (some v58x39)) fun v59x40 =>
      ob (vStr .add (σ5 3) v59x40) fun v60x41 =>
      Q2 .normal (up (up (up (up (up (up (up (up (up (up (up (up (up (up (up (up (up (up (up (up (up (up (up (up (up (up (up (up (up (up σ5 28 (σ5 0)) 29 (σ5 4)) 30 v30x6) 31 v31x7) 32 v32x8) 33 v32x8) 34 v34x10) 35 v35x13) 36 v36x16) 37 v37x19) 38 v38x21) 39 (σ5 5)) 40 (σ5 4)) 41 v41x22) 42 v42x23) 49 (σ5 3)) 50 (σ5 0)) 51 (σ5 4)) 52 v52x35) 53 v53x36) 54 (σ5 0)) 55 (σ5 4)) 56 v56x37) 57 v57x38) 58 v58x39) 59 v59x40) 60 v60x41) 3 v60x41) 61 (σ5 5)) 4 (σ5 5)) H20))) fun J5 =>
    lpE (fun Q42 σ42 H42 =>
      ob (vLenSl (σ42 0)) fun v13x43 =>
      ob (vInt .lss (σ42 5) v13x43) fun v14x44 =>
      gop v14x44 true (fun K45 => K45 (σ42 0) H42) H42 fun v16x46 H47 =>
      gop v14x44 true (fun K48 => K48 (σ42 5) H47) H47 fun v17x49 H50 =>
      gop v14x44 true (fun K51 => ob (vIx 1 v16x46 v17x49) fun u => K51 u H50) H50 fun v18x52 H53 =>
      gop v14x44 true (fun K54 => ob (vLoad v18x52 H53) fun u => K54 u H53) H53 fun v19x55 H56 =>
      gop v14x44 true (fun K57 => K57 (σ42 0) H56) H56 fun v20x58 H59 =>
      gop v14x44 true (fun K60 => K60 (σ42 4) H59) H59 fun v21x61 H62 =>
      gop v14x44 true (fun K63 => ob (vIx 1 v20x58 v21x61) fun u => K63 u H62) H62 fun v22x64 H65 =>
      gop v14x44 true (fun K66 => ob (vLoad v22x64 H65) fun u => K66 u H65) H65 fun v23x67 H68 =>
      gop v14x44 true (fun K69 => ob (vInt .eql v19x55 v23x67) fun u => K69 u H68) H68 fun v24x70 H71 =>
      ob (vPick v14x44 v24x70 (.bool false)) fun v25x72 =>
      cnd v25x72
        (ob (vInt .add (σ42 5) (.int .i64 1)) fun v27x73 =>
      Q42 .normal (up (up (up (up (up (up (up (up (up (up (up (up (up (up (up (up (up (up σ42 11 (σ42 5)) 12 (σ42 0)) 13 v13x43) 14 v14x44) 15 v14x44) 16 v16x46) 17 v17x49) 18 v18x52) 19 v19x55) 20 v20x58) 21 v21x61) 22 v22x64) 23 v23x67) 24 v24x70) 25 v25x72) 26 (σ42 5)) 27 v27x73) 5 v27x73) H71)
        (Q42 (.exit 2) (up (up (up (up (up (up (up (up (up (up (up (up (up (up (up σ42 11 (σ42 5)) 12 (σ42 0)) 13 v13x43) 14 v14x44) 15 v14x44) 16 v16x46) 17 v17x49) 18 v18x52) 19 v19x55) 20 v20x58) 21 v21x61) 22 v22x64) 23 v23x67) 24 v24x70) 25 v25x72) H71)) (blkQ 2 (thenQ J5 (blkQ 1 Q2))) (up (up (up (up (up (up σ2 6 (σ2 4)) 7 (σ2 0)) 8 v8x3) 9 v9x4) 10 (σ2 4)) 5 (σ2 4)) H2)
      (Q2 (.exit 0) (up (up (up (up σ2 6 (σ2 4)) 7 (σ2 0)) 8 v8x3) 9 v9x4) H2)) (blkQ 0 (thenQ J1 (retQ prg [(.tmp 2)] K))) (up (up (up (S0 [a0]) 2 (.string ⟨#[]⟩)) 3 (.string ⟨#[]⟩)) 4 (.int .i64 0)) H
def O.impl_runsText : Nat → Nat × List Nat := fun i => bif Nat.beq i 10 then (0, [0, 1, 2, 3, 4, 5, 6, 7, 8, 9, 10, 11, 12]) else bif Nat.beq i 5 then (0, [0, 1, 2, 3, 4, 5, 6, 7, 8, 9, 10, 11, 12, 13, 14]) else (0, [])
theorem R.impl_runsText {a0 : Value} {H : Hp} {K : Value → Hp → Prop} (h : F.impl_runsText a0 H K) : HT prg I.impl_runsText [a0].toArray H K :=
  HT_of_fev O.impl_runsText mixed Tryz.func62 (by kernel_rfl) (Eq.mpr (by kernel_rfl : fev prg O.impl_runsText Tryz.f62 [a0] H K = F.impl_runsText a0 H K) h)

/-! (*strings.Builder).copyCheck: function 103 -/
def F.pstrings_Builder_copyCheck (a0 : Value) (H : Hp) (K : Value → Hp → Prop) : Prop :=
  ob (vNilC a0) fun v3x1 =>
  ob (vFa 0 v3x1) fun v4x2 =>
  ob (vLoad v4x2 H) fun v5x3 =>
  ob (val prg (do eqGuard .eql 111 (.tmp 5) (.const (.pointer none)) v5x3 (.pointer none); binOp .eql 111 v5x3 (.pointer none)) H) fun v6x4 =>
  cnd v6x4
    (hp prg (convert 111 136 a0) H fun v9x5 H6 =>
    hp prg (callFunc I.internal_abi_NoEscape [v9x5].toArray) H6 (nextH prg (fun v10x7 H8 =>
    hp prg (convert 136 111 v10x7) H8 fun v11x9 H10 =>
    ob (vNilC a0) fun v12x11 =>
    ob (vFa 0 v12x11) fun v13x12 =>
    st 1 v13x12 v11x9 H10 fun H13 =>
    K (.tuple #[]) H13)))
    (ob (vNilC a0) fun v15x14 =>
    ob (vFa 0 v15x14) fun v16x15 =>
    ob (vLoad v16x15 H) fun v17x16 =>
    ob (val prg (do eqGuard .neq 111 (.tmp 17) (.tmp 18) v17x16 a0; binOp .neq 111 v17x16 a0) H) fun v19x17 =>
    cnd v19x17
      (False)
      (K (.tuple #[]) H))
def O.pstrings_Builder_copyCheck : Nat → Nat × List Nat := fun i => (0, [])
theorem R.pstrings_Builder_copyCheck {a0 : Value} {H : Hp} {K : Value → Hp → Prop} (h : F.pstrings_Builder_copyCheck a0 H K) : HT prg I.pstrings_Builder_copyCheck [a0].toArray H K :=
  HT_of_fev O.pstrings_Builder_copyCheck mixed Tryz.func103 (by kernel_rfl) (Eq.mpr (by kernel_rfl : fev prg O.pstrings_Builder_copyCheck Tryz.f103 [a0] H K = F.pstrings_Builder_copyCheck a0 H K) h)

/-! (*strings.Builder).grow: function 104 -/
def F.pstrings_Builder_grow (a0 a1 : Value) (H : Hp) (K : Value → Hp → Prop) : Prop :=
  ob (vNilC a0) fun v6x1 =>
  ob (vFa 1 v6x1) fun v7x2 =>
  ob (vLoad v7x2 H) fun v8x3 =>
  ob (vCapSl v8x3) fun v9x4 =>
  ob (vInt .mul (.int .i64 2) v9x4) fun v10x5 =>
  ob (vInt .add v10x5 a1) fun v12x6 =>
  ob (vNilC a0) fun v15x7 =>
  ob (vFa 1 v15x7) fun v16x8 =>
  ob (vLoad v16x8 H) fun v17x9 =>
  ob (vLenSl v17x9) fun v18x10 =>
  hp prg (callFunc I.internal_bytealg_MakeNoZero [v12x6].toArray) H (nextH prg (fun v13x11 H12 =>
  Le H H12 ∧ (ob (vSl3 1 v13x11 none (some v18x10) none) fun v19x13 =>
  ob (vNilC a0) fun v22x14 =>
  ob (vFa 1 v22x14) fun v23x15 =>
  ob (vLoad v23x15 H12) fun v24x16 =>
  hp prg (builtin .copy #[22, 22] 3 #[false, false] [v19x13, v24x16].toArray) H12 (nextH prg (fun v25x17 H18 =>
  ob (vNilC a0) fun v28x19 =>
  ob (vFa 1 v28x19) fun v29x20 =>
  st 1 v29x20 v19x13 H18 fun H21 =>
  K (.tuple #[]) H21)))))
def O.pstrings_Builder_grow : Nat → Nat × List Nat := fun i => bif Nat.beq i 0 then (0, [0, 1, 2, 3, 4, 5, 6, 7, 9, 10, 11, 12, 13, 8, 14, 15]) else (0, [])
theorem R.pstrings_Builder_grow {a0 a1 : Value} {H : Hp} {K : Value → Hp → Prop} (h : F.pstrings_Builder_grow a0 a1 H K) : HT prg I.pstrings_Builder_grow [a0, a1].toArray H K :=
  HT_of_fev O.pstrings_Builder_grow mixed Tryz.func104 (by kernel_rfl) (Eq.mpr (by kernel_rfl : fev prg O.pstrings_Builder_grow Tryz.f104 [a0, a1] H K = F.pstrings_Builder_grow a0 a1 H K) h)

/-! (*strings.Builder).Grow: function 87 -/
def F.pstrings_Builder_Grow (a0 a1 : Value) (H : Hp) (K : Value → Hp → Prop) : Prop :=
  HT prg I.pstrings_Builder_copyCheck [a0].toArray H fun v5x1 H2 =>
  jn (fun σ3 H3 =>
    ob (vNilC (σ3 0)) fun v10x4 =>
    ob (vFa 1 v10x4) fun v11x5 =>
    ob (vLoad v11x5 H3) fun v12x6 =>
    ob (vCapSl v12x6) fun v13x7 =>
    ob (vNilC (σ3 0)) fun v15x8 =>
    ob (vFa 1 v15x8) fun v16x9 =>
    ob (vLoad v16x9 H3) fun v17x10 =>
    ob (vLenSl v17x10) fun v18x11 =>
    ob (vInt .sub v13x7 v18x11) fun v19x12 =>
    ob (vInt .lss v19x12 (σ3 1)) fun v21x13 =>
    cnd v21x13
      (HT prg I.pstrings_Builder_grow [(σ3 0), (σ3 1)].toArray H3 fun v24x14 H15 =>
      K (.tuple #[]) H15)
      (K (.tuple #[]) H3)) fun J3 =>
  ob (vInt .lss a1 (.int .i64 0)) fun v7x16 =>
  cnd v7x16
    (ob (val prg (Instr.makeInterface 9 (.string ⟨#[115, 116, 114, 105, 110, 103, 115, 46, 66, 117, 105, 108, 100, 101, 114, 46, 71, 114, 111, 119, 58, 32, 110, 101, 103, 97, 116, 105, 118, 101, 32, 99, 111, 117, 110, 116]⟩)) H2) fun v8x17 =>
    hp prg (do pure (Next.value (← Instr.panic v8x17))) H2 (nextH prg (fun _ H18 =>
    J3 (up (up (up (up (up (S0 [a0, a1]) 4 a0) 5 v5x1) 6 a1) 7 v7x16) 8 v8x17) H18)))
    (J3 (up (up (up (up (S0 [a0, a1]) 4 a0) 5 v5x1) 6 a1) 7 v7x16) H2)
def O.pstrings_Builder_Grow : Nat → Nat × List Nat := fun i => bif Nat.beq i 3 then (0, [0, 1, 2, 3, 4, 5, 6, 7, 8, 9, 10, 11, 12]) else (0, [])
theorem R.pstrings_Builder_Grow {a0 a1 : Value} {H : Hp} {K : Value → Hp → Prop} (h : F.pstrings_Builder_Grow a0 a1 H K) : HT prg I.pstrings_Builder_Grow [a0, a1].toArray H K :=
  HT_of_fev O.pstrings_Builder_Grow mixed Tryz.func87 (by kernel_rfl) (Eq.mpr (by kernel_rfl : fev prg O.pstrings_Builder_Grow Tryz.f87 [a0, a1] H K = F.pstrings_Builder_Grow a0 a1 H K) h)

/-! (*strings.Builder).WriteString: function 88 -/
def F.pstrings_Builder_WriteString (a0 a1 : Value) (H : Hp) (K : Value → Hp → Prop) : Prop :=
  HT prg I.pstrings_Builder_copyCheck [a0].toArray H fun v7x1 H2 =>
  ob (vNilC a0) fun v10x3 =>
  ob (vFa 1 v10x3) fun v11x4 =>
  ob (vLoad v11x4 H2) fun v12x5 =>
  apd 1 1 #[(.int .u8 0)] 5 v12x5 a1 H2 fun v14x6 H7 =>
  ob (vNilC a0) fun v15x8 =>
  ob (vFa 1 v15x8) fun v16x9 =>
  st 1 v16x9 v14x6 H7 fun H10 =>
  ob (vLenS a1) fun v18x11 =>
  K (.tuple #[v18x11, .nilIface]) H10
def O.pstrings_Builder_WriteString : Nat → Nat × List Nat := fun i => (0, [])
theorem R.pstrings_Builder_WriteString {a0 a1 : Value} {H : Hp} {K : Value → Hp → Prop} (h : F.pstrings_Builder_WriteString a0 a1 H K) : HT prg I.pstrings_Builder_WriteString [a0, a1].toArray H K :=
  HT_of_fev O.pstrings_Builder_WriteString mixed Tryz.func88 (by kernel_rfl) (Eq.mpr (by kernel_rfl : fev prg O.pstrings_Builder_WriteString Tryz.f88 [a0, a1] H K = F.pstrings_Builder_WriteString a0 a1 H K) h)

/-! (*strings.Builder).String: function 89 -/
def F.pstrings_Builder_String (a0 : Value) (H : Hp) (K : Value → Hp → Prop) : Prop :=
  (ob (vNilC a0) fun v4x1 =>
  ob (vFa 1 v4x1) fun v5x2 =>
  ob (vLoad v5x2 H) fun v6x3 =>
  ob (vNilC a0) fun v9x4 =>
  ob (vFa 1 v9x4) fun v10x5 =>
  ob (vLoad v10x5 H) fun v11x6 =>
  ob (vLenSl v11x6) fun v12x7 =>
  hp prg (builtin .unsafeSliceData #[22] 128 #[false] [v6x3].toArray) H (nextH prg (fun v7x8 H9 =>
  hp prg (builtin .unsafeString #[128, 3] 9 #[false, false] [v7x8, v12x7].toArray) H9 (nextH prg (fun v13x10 H11 =>
  K v13x10 H11))))) ∧ (ob (vNilC a0) fun v4x12 =>
  ob (vFa 1 v4x12) fun v5x13 =>
  ob (vLoad v5x13 H) fun v6x14 =>
  ob (vNilC a0) fun v9x15 =>
  ob (vFa 1 v9x15) fun v10x16 =>
  hp prg (builtin .unsafeSliceData #[22] 128 #[false] [v6x14].toArray) H (nextH prg (fun v7x17 H18 =>
  ob (vLoad v10x16 H18) fun v11x19 =>
  ob (vLenSl v11x19) fun v12x20 =>
  hp prg (builtin .unsafeString #[128, 3] 9 #[false, false] [v7x17, v12x20].toArray) H18 (nextH prg (fun v13x21 H22 =>
  K v13x21 H22)))))
def O.pstrings_Builder_String : Nat → Nat × List Nat := fun i => bif Nat.beq i 1 then (0, [1008, 1004, 0, 1, 2, 3, 5, 6, 7, 8, 9, 4, 10, 11, 0, 1, 2, 3, 5, 6, 7, 4, 8, 9, 10, 11]) else (0, [])
theorem R.pstrings_Builder_String {a0 : Value} {H : Hp} {K : Value → Hp → Prop} (h : F.pstrings_Builder_String a0 H K) : HT prg I.pstrings_Builder_String [a0].toArray H K :=
  HT_of_fev O.pstrings_Builder_String mixed Tryz.func89 (by kernel_rfl) (Eq.mpr (by kernel_rfl : fev prg O.pstrings_Builder_String Tryz.f89 [a0] H K = F.pstrings_Builder_String a0 H K) h)

/-! strings.Join: function 64 -/
def F.strings_Join (a0 a1 : Value) (H : Hp) (K : Value → Hp → Prop) : Prop :=
  ob (vLenSl a0) fun v12x1 =>
  ob (vInt .eql v12x1 (.int .i64 0)) fun v14x2 =>
  cnd v14x2
    (K (.string ⟨#[]⟩) H)
    (ob (vInt .eql v12x1 (.int .i64 1)) fun v16x3 =>
    cnd v16x3
      (ob (vIx 1 a0 (.int .i64 0)) fun v18x4 =>
      ob (vLoad v18x4 H) fun v19x5 =>
      K v19x5 H)
      (jn (fun σ6 H6 =>
    jn (fun σ7 H7 =>
      nw #[(.pointer none), (.slice none 0 0)] 113 H7 fun v8x8 H9 =>
      HT prg I.pstrings_Builder_Grow [v8x8, (σ7 5)].toArray H9 fun v57x10 H11 =>
      ob (vIx 1 (σ7 0) (.int .i64 0)) fun v59x12 =>
      ob (vLoad v59x12 H11) fun v60x13 =>
      HT prg I.pstrings_Builder_WriteString [v8x8, v60x13].toArray H11 fun v61x14 H15 =>
      jn (fun σ16 H16 =>
        HT prg I.pstrings_Builder_String [(σ16 8)].toArray H16 fun v74x17 H18 =>
        K v74x17 H18) fun J16 =>
      ob (vSl3 1 (σ7 0) (some (.int .i64 1)) none none) fun v63x19 =>
      ob (vLenSl v63x19) fun v64x20 =>
      lpE (fun Q21 σ21 H21 =>
        ob (vInt .lss (σ21 65) (σ21 64)) fun v66x22 =>
        cnd v66x22
          (ob (vIx 1 (σ21 63) (σ21 65)) fun v67x23 =>
        ob (vLoad v67x23 H21) fun v68x24 =>
        HT prg I.pstrings_Builder_WriteString [(σ21 8), (σ21 1)].toArray H21 fun v70x25 H26 =>
        HT prg I.pstrings_Builder_WriteString [(σ21 8), v68x24].toArray H26 fun v72x27 H28 =>
        ob (vInt .add (σ21 65) (.int .i64 1)) fun v73x29 =>
        Q21 .normal (up (up (up (up (up (up (up (up (up (up σ21 66 v66x22) 67 v67x23) 68 v68x24) 10 v68x24) 69 (σ21 1)) 70 v70x25) 71 v68x24) 72 v72x27) 73 v73x29) 65 v73x29) H28)
          (Q21 (.exit 3) (up σ21 66 v66x22) H21)) (blkQ 3 (thenQ J16 (retQ prg [(.tmp 4)] K))) (up (up (up (up (up (up (up (up (up (up (up σ7 8 v8x8) 56 (σ7 5)) 57 v57x10) 58 (σ7 0)) 59 v59x12) 60 v60x13) 61 v61x14) 62 (σ7 0)) 63 v63x19) 64 v64x20) 65 (.int .i64 0)) H15) fun J7 =>
    ob (vLenSl (σ6 0)) fun v40x30 =>
    lpE (fun Q31 σ31 H31 =>
      ob (vInt .lss (σ31 41) (σ31 40)) fun v42x32 =>
      cnd v42x32
        (ob (vIx 1 (σ31 39) (σ31 41)) fun v43x33 =>
      ob (vLoad v43x33 H31) fun v44x34 =>
      ob (vLenS v44x34) fun v46x35 =>
      ob (vInt .sub (.int .i64 9223372036854775807) (σ31 5)) fun v48x36 =>
      ob (vInt .gtr v46x35 v48x36) fun v49x37 =>
      cnd v49x37
        (ob (val prg (Instr.makeInterface 9 (.string ⟨#[115, 116, 114, 105, 110, 103, 115, 58, 32, 74, 111, 105, 110, 32, 111, 117, 116, 112, 117, 116, 32, 108, 101, 110, 103, 116, 104, 32, 111, 118, 101, 114, 102, 108, 111, 119]⟩)) H31) fun v50x38 =>
        hp prg (do pure (Next.value (← Instr.panic v50x38))) H31 (nextH prg (fun _ H39 =>
        ob (vLenS v44x34) fun v53x40 =>
      ob (vInt .add (σ31 5) v53x40) fun v54x41 =>
      ob (vInt .add (σ31 41) (.int .i64 1)) fun v55x42 =>
      Q31 .normal (up (up (up (up (up (up (up (up (up (up (up (up (up (up (up (up (up σ31 42 v42x32) 43 v43x33) 44 v44x34) 7 v44x34) 45 v44x34) 46 v46x35) 47 (σ31 5)) 48 v48x36) 49 v49x37) 50 v50x38) 51 (σ31 5)) 52 v44x34) 53 v53x40) 54 v54x41) 5 v54x41) 55 v55x42) 41 v55x42) H39)))
        (ob (vLenS v44x34) fun v53x43 =>
      ob (vInt .add (σ31 5) v53x43) fun v54x44 =>
      ob (vInt .add (σ31 41) (.int .i64 1)) fun v55x45 =>
      Q31 .normal (up (up (up (up (up (up (up (up (up (up (up (up (up (up (up (up σ31 42 v42x32) 43 v43x33) 44 v44x34) 7 v44x34) 45 v44x34) 46 v46x35) 47 (σ31 5)) 48 v48x36) 49 v49x37) 51 (σ31 5)) 52 v44x34) 53 v53x43) 54 v54x44) 5 v54x44) 55 v55x45) 41 v55x45) H31))
        (Q31 (.exit 1) (up σ31 42 v42x32) H31)) (blkQ 1 (thenQ J7 (retQ prg [(.tmp 4)] K))) (up (up (up σ6 39 (σ6 0)) 40 v40x30) 41 (.int .i64 0)) H6) fun J6 =>
  ob (vLenS a1) fun v21x46 =>
  ob (vInt .gtr v21x46 (.int .i64 0)) fun v22x47 =>
  cnd v22x47
    (ob (vLenS a1) fun v24x48 =>
    ob (vLenSl a0) fun v26x49 =>
    ob (vInt .sub v26x49 (.int .i64 1)) fun v27x50 =>
    ob (vInt .quo (.int .i64 9223372036854775807) v27x50) fun v28x51 =>
    ob (vInt .geq v24x48 v28x51) fun v29x52 =>
    cnd v29x52
      (ob (val prg (Instr.makeInterface 9 (.string ⟨#[115, 116, 114, 105, 110, 103, 115, 58, 32, 74, 111, 105, 110, 32, 111, 117, 116, 112, 117, 116, 32, 108, 101, 110, 103, 116, 104, 32, 111, 118, 101, 114, 102, 108, 111, 119]⟩)) H) fun v30x53 =>
      hp prg (do pure (Next.value (← Instr.panic v30x53))) H (nextH prg (fun _ H54 =>
      ob (vLenS a1) fun v33x55 =>
    ob (vLenSl a0) fun v35x56 =>
    ob (vInt .sub v35x56 (.int .i64 1)) fun v36x57 =>
    ob (vInt .mul v33x55 v36x57) fun v37x58 =>
    ob (vInt .add (.int .i64 0) v37x58) fun v38x59 =>
    J6 (up (up (up (up (up (up (up (up (up (up (up (up (up (up (up (up (up (up (up (up (up (up (up (up (up (up (up (up (S0 [a0, a1]) 4 (.string ⟨#[]⟩)) 11 a0) 12 v12x1) 14 v14x2) 13 v14x2) 16 v16x3) 15 v16x3) 5 (.int .i64 0)) 20 a1) 21 v21x46) 22 v22x47) 23 a1) 24 v24x48) 25 a0) 26 v26x49) 27 v27x50) 28 v28x51) 29 v29x52) 30 v30x53) 31 (.int .i64 0)) 32 a1) 33 v33x55) 34 a0) 35 v35x56) 36 v36x57) 37 v37x58) 38 v38x59) 5 v38x59) H54)))
      (ob (vLenS a1) fun v33x60 =>
    ob (vLenSl a0) fun v35x61 =>
    ob (vInt .sub v35x61 (.int .i64 1)) fun v36x62 =>
    ob (vInt .mul v33x60 v36x62) fun v37x63 =>
    ob (vInt .add (.int .i64 0) v37x63) fun v38x64 =>
    J6 (up (up (up (up (up (up (up (up (up (up (up (up (up (up (up (up (up (up (up (up (up (up (up (up (up (up (up (S0 [a0, a1]) 4 (.string ⟨#[]⟩)) 11 a0) 12 v12x1) 14 v14x2) 13 v14x2) 16 v16x3) 15 v16x3) 5 (.int .i64 0)) 20 a1) 21 v21x46) 22 v22x47) 23 a1) 24 v24x48) 25 a0) 26 v26x49) 27 v27x50) 28 v28x51) 29 v29x52) 31 (.int .i64 0)) 32 a1) 33 v33x60) 34 a0) 35 v35x61) 36 v36x62) 37 v37x63) 38 v38x64) 5 v38x64) H))
    (J6 (up (up (up (up (up (up (up (up (up (up (up (S0 [a0, a1]) 4 (.string ⟨#[]⟩)) 11 a0) 12 v12x1) 14 v14x2) 13 v14x2) 16 v16x3) 15 v16x3) 5 (.int .i64 0)) 20 a1) 21 v21x46) 22 v22x47) H)))
def O.strings_Join : Nat → Nat × List Nat := fun i => (0, [])
theorem R.strings_Join {a0 a1 : Value} {H : Hp} {K : Value → Hp → Prop} (h : F.strings_Join a0 a1 H K) : HT prg I.strings_Join [a0, a1].toArray H K :=
  HT_of_fev O.strings_Join mixed Tryz.func64 (by kernel_rfl) (Eq.mpr (by kernel_rfl : fev prg O.strings_Join Tryz.f64 [a0, a1] H K = F.strings_Join a0 a1 H K) h)

/-! (loop.example/g01381/impl.Field).text: function 45 -/
def F.impl_Field_text (a0 : Value) (H : Hp) (K : Value → Hp → Prop) : Prop :=
  nw (a0 : Value).cells 27 H fun v1x1 H2 =>
  bS 1 0 #[(.string ⟨#[]⟩)] 9 [] H2 fun v5x3 H4 =>
  nw #[(.slice none 0 0)] 32 H4 fun v3x5 H6 =>
  st 1 v3x5 v5x3 H6 fun H7 =>
  jn (fun σ8 H8 =>
    ob (vFa 1 (σ8 1)) fun v17x9 =>
    ob (vLoad v17x9 H8) fun v18x10 =>
    ob (vFa 0 (σ8 1)) fun v21x11 =>
    ob (vLoad v21x11 H8) fun v22x12 =>
    ob (vLoad (σ8 3) H8) fun v26x13 =>
    HT prg I.impl_Decimal [v18x10].toArray H8 fun v19x14 H15 =>
    Le H8 H15 ∧ (ob (vStr .add v19x14 (.string ⟨#[44]⟩)) fun v20x16 =>
    HT prg I.impl_Decimal [v22x12].toArray H15 fun v23x17 H18 =>
    Le H15 H18 ∧ (ob (vStr .add v20x16 v23x17) fun v24x19 =>
    ob (vStr .add v24x19 (.string ⟨#[58]⟩)) fun v25x20 =>
    HT prg I.strings_Join [v26x13, (.string ⟨#[36]⟩)].toArray H18 fun v27x21 H22 =>
    Le H18 H22 ∧ (ob (vStr .add v25x20 v27x21) fun v28x23 =>
    ob (vStr .add v28x23 (.string ⟨#[33]⟩)) fun v29x24 =>
    K v29x24 H22)))) fun J8 =>
  ob (vFa 2 v1x1) fun v6x25 =>
  ob (vLoad v6x25 H7) fun v7x26 =>
  ob (vFa 1 v1x1) fun v8x27 =>
  ob (vLoad v8x27 H7) fun v9x28 =>
  HT prg I.slices_Chunk_int64Zint64 [v7x26, v9x28].toArray H7 fun v10x29 H30 =>
  rgE prg v10x29 [11] (fun Q31 σ31 H31 =>
    ob (vLoad (σ31 3) H31) fun v12x32 =>
    HT prg I.impl_runsText [(σ31 11)].toArray H31 fun v14x33 H34 =>
    Le H31 H34 ∧ (bS 1 1 #[(.string ⟨#[]⟩)] 9 [(0, v14x33)] H34 fun v15x35 H36 =>
    apd 1 16 #[(.string ⟨#[]⟩)] 9 v12x32 v15x35 H36 fun v16x37 H38 =>
    st 1 (σ31 3) v16x37 H38 fun H39 =>
    Q31 .normal (up (up (up (up (up (up σ31 4 (σ31 11)) 12 v12x32) 13 (σ31 11)) 14 v14x33) 15 v15x35) 16 v16x37) H39)) (blkQ 0 (thenQ J8 (retQ prg [(.tmp 2)] K))) (up (up (up (up (up (up (up (up (up (S0 [a0]) 1 v1x1) 2 (.string ⟨#[]⟩)) 5 v5x3) 3 v3x5) 6 v6x25) 7 v7x26) 8 v8x27) 9 v9x28) 10 v10x29) H30
def O.impl_Field_text : Nat → Nat × List Nat := fun i => bif Nat.beq i 5 then (0, [0, 1, 4, 5, 9, 2, 3, 6, 7, 8, 10, 11, 12, 13]) else bif Nat.beq i 4 then (0, [0, 1, 2, 3, 4, 5]) else (0, [])
theorem R.impl_Field_text {a0 : Value} {H : Hp} {K : Value → Hp → Prop} (h : F.impl_Field_text a0 H K) : HT prg I.impl_Field_text [a0].toArray H K :=
  HT_of_fev O.impl_Field_text mixed Tryz.func45 (by kernel_rfl) (Eq.mpr (by kernel_rfl : fev prg O.impl_Field_text Tryz.f45 [a0] H K = F.impl_Field_text a0 H K) h)

end Go.Proofs.YthocjpfibegjcaaGreatDoor
