/- Functions' texts over a partial heap. -/
import Derived.Test.YthbffbpdoankjaaG0
namespace Go.Proofs.Ythbffbpdoankjaa
open HL
set_option linter.unusedVariables false
set_option maxRecDepth 100000
set_option maxHeartbeats 4000000
/-! loop.example/g01381/laws.eqFieldS: function 47 -/
def F.laws_eqFieldS (a0 a1 : Value) (H : Hp) (K : Value → Hp → Prop) : Prop :=
  ob (vLenSl a0) fun v7x1 =>
  ob (vLenSl a1) fun v9x2 =>
  ob (vInt .neq v7x1 v9x2) fun v10x3 =>
  cnd v10x3
    (K (.bool false) H)
    (jn (fun σ4 H4 =>
    K (.bool true) H4) fun J4 =>
  lpE (fun Q5 σ5 H5 =>
    ob (vLenSl (σ5 0)) fun v13x6 =>
    ob (vInt .lss (σ5 5) v13x6) fun v14x7 =>
    cnd v14x7
      (ob (vIx 3 (σ5 0) (σ5 5)) fun v19x8 =>
    ob (vLoadN 3 v19x8 H5) fun v20x9 =>
    ob (vIx 3 (σ5 1) (σ5 5)) fun v23x10 =>
    ob (vLoadN 3 v23x10 H5) fun v24x11 =>
    HT prg I.laws_eqField [v20x9, v24x11].toArray H5 fun v25x12 H13 =>
    Le H5 H13 ∧ (ob (vUn .not v25x12) fun v26x14 =>
    cnd v26x14
      (Q5 .ret (up (up (up (up (up (up (up (up (up (up (up (up (up (up (up σ5 11 (σ5 5)) 12 (σ5 0)) 13 v13x6) 14 v14x7) 17 (σ5 0)) 18 (σ5 5)) 19 v19x8) 20 v20x9) 21 (σ5 1)) 22 (σ5 5)) 23 v23x10) 24 v24x11) 25 v25x12) 26 v26x14) 4 (.bool false)) H13)
      (ob (vInt .add (σ5 5) (.int .i64 1)) fun v16x15 =>
    Q5 .normal (up (up (up (up (up (up (up (up (up (up (up (up (up (up (up (up (up σ5 11 (σ5 5)) 12 (σ5 0)) 13 v13x6) 14 v14x7) 17 (σ5 0)) 18 (σ5 5)) 19 v19x8) 20 v20x9) 21 (σ5 1)) 22 (σ5 5)) 23 v23x10) 24 v24x11) 25 v25x12) 26 v26x14) 15 (σ5 5)) 16 v16x15) 5 v16x15) H13)))
      (Q5 (.exit 0) (up (up (up (up σ5 11 (σ5 5)) 12 (σ5 0)) 13 v13x6) 14 v14x7) H5)) (blkQ 0 (thenQ J4 (retQ prg [(.tmp 4)] K))) (up (up (up (up (up (up (up (S0 [a0, a1]) 4 (.bool false)) 6 a0) 7 v7x1) 8 a1) 9 v9x2) 10 v10x3) 5 (.int .i64 0)) H)
def O.laws_eqFieldS : Nat → Nat × List Nat := fun i => bif Nat.beq i 6 then (0, [0, 1, 2, 3, 4, 5, 6, 7, 8, 9]) else (0, [])
theorem R.laws_eqFieldS {a0 a1 : Value} {H : Hp} {K : Value → Hp → Prop} (h : F.laws_eqFieldS a0 a1 H K) : HT prg I.laws_eqFieldS [a0, a1].toArray H K :=
  HT_of_fev O.laws_eqFieldS mixed Try.func47 (by kernel_rfl) (Eq.mpr (by kernel_rfl : fev prg O.laws_eqFieldS Try.f47 [a0, a1] H K = F.laws_eqFieldS a0 a1 H K) h)

/-! loop.example/g01381/laws.markFieldS: function 48 -/
def F.laws_markFieldS (a0 a1 : Value) (H : Hp) (K : Value → Hp → Prop) : Prop :=
  jn (fun σ1 H1 =>
    K (σ1 1) H1) fun J1 =>
  lpE (fun Q2 σ2 H2 =>
    ob (vLenSl (σ2 0)) fun v8x3 =>
    ob (vInt .lss (σ2 5) v8x3) fun v9x4 =>
    cnd v9x4
      (ob (vIx 3 (σ2 0) (σ2 5)) fun v15x5 =>
    ob (vFa 0 v15x5) fun v16x6 =>
    st 1 v16x6 (σ2 1) H2 fun H7 =>
    ob (vInt .add (σ2 1) (.int .i64 1)) fun v18x8 =>
    ob (vIx 3 (σ2 0) (σ2 5)) fun v22x9 =>
    ob (vFa 1 v22x9) fun v23x10 =>
    st 1 v23x10 v18x8 H7 fun H11 =>
    ob (vInt .add v18x8 (.int .i64 1)) fun v25x12 =>
    ob (vIx 3 (σ2 0) (σ2 5)) fun v28x13 =>
    ob (vFa 2 v28x13) fun v29x14 =>
    ob (vLoad v29x14 H11) fun v30x15 =>
    HT prg I.laws_markInt64S [v30x15, v25x12].toArray H11 fun v32x16 H17 =>
    ob (vInt .add (σ2 5) (.int .i64 1)) fun v11x18 =>
    Q2 .normal (up (up (up (up (up (up (up (up (up (up (up (up (up (up (up (up (up (up (up (up (up (up (up (up (up (up (up (up (up (up (up σ2 6 (σ2 5)) 7 (σ2 0)) 8 v8x3) 9 v9x4) 12 (σ2 0)) 13 (σ2 5)) 14 (σ2 1)) 15 v15x5) 16 v16x6) 17 (σ2 1)) 18 v18x8) 1 v18x8) 19 (σ2 0)) 20 (σ2 5)) 21 v18x8) 22 v22x9) 23 v23x10) 24 v18x8) 25 v25x12) 1 v25x12) 26 (σ2 0)) 27 (σ2 5)) 28 v28x13) 29 v29x14) 30 v30x15) 31 v25x12) 32 v32x16) 1 v32x16) 10 (σ2 5)) 11 v11x18) 5 v11x18) H17)
      (Q2 (.exit 0) (up (up (up (up σ2 6 (σ2 5)) 7 (σ2 0)) 8 v8x3) 9 v9x4) H2)) (blkQ 0 (thenQ J1 (retQ prg [(.tmp 4)] K))) (up (up (S0 [a0, a1]) 4 (.int .i64 0)) 5 (.int .i64 0)) H
def O.laws_markFieldS : Nat → Nat × List Nat := fun i => (0, [])
theorem R.laws_markFieldS {a0 a1 : Value} {H : Hp} {K : Value → Hp → Prop} (h : F.laws_markFieldS a0 a1 H K) : HT prg I.laws_markFieldS [a0, a1].toArray H K :=
  HT_of_fev O.laws_markFieldS mixed Try.func48 (by kernel_rfl) (Eq.mpr (by kernel_rfl : fev prg O.laws_markFieldS Try.f48 [a0, a1] H K = F.laws_markFieldS a0 a1 H K) h)

/-! loop.example/g01381/laws.heldFieldS: function 49 -/
def F.laws_heldFieldS (a0 a1 : Value) (H : Hp) (K : Value → Hp → Prop) : Prop :=
  jn (fun σ1 H1 =>
    K (σ1 1) H1) fun J1 =>
  lpE (fun Q2 σ2 H2 =>
    ob (vLenSl (σ2 0)) fun v8x3 =>
    ob (vInt .lss (σ2 5) v8x3) fun v9x4 =>
    cnd v9x4
      (ob (vIx 3 (σ2 0) (σ2 5)) fun v14x5 =>
    ob (vFa 0 v14x5) fun v15x6 =>
    ob (vLoad v15x6 H2) fun v16x7 =>
    ob (vInt .neq v16x7 (σ2 1)) fun v18x8 =>
    cnd v18x8
      (Q2 .ret (up (up (up (up (up (up (up (up (up (up (up (up σ2 6 (σ2 5)) 7 (σ2 0)) 8 v8x3) 9 v9x4) 12 (σ2 0)) 13 (σ2 5)) 14 v14x5) 15 v15x6) 16 v16x7) 17 (σ2 1)) 18 v18x8) 4 (.int .i64 (-1))) H2)
      (ob (vInt .add (σ2 1) (.int .i64 1)) fun v20x9 =>
    ob (vIx 3 (σ2 0) (σ2 5)) fun v23x10 =>
    ob (vFa 1 v23x10) fun v24x11 =>
    ob (vLoad v24x11 H2) fun v25x12 =>
    ob (vInt .neq v25x12 v20x9) fun v27x13 =>
    cnd v27x13
      (Q2 .ret (up (up (up (up (up (up (up (up (up (up (up (up (up (up (up (up (up (up (up (up (up (up σ2 6 (σ2 5)) 7 (σ2 0)) 8 v8x3) 9 v9x4) 12 (σ2 0)) 13 (σ2 5)) 14 v14x5) 15 v15x6) 16 v16x7) 17 (σ2 1)) 18 v18x8) 19 (σ2 1)) 20 v20x9) 1 v20x9) 21 (σ2 0)) 22 (σ2 5)) 23 v23x10) 24 v24x11) 25 v25x12) 26 v20x9) 27 v27x13) 4 (.int .i64 (-1))) H2)
      (ob (vInt .add v20x9 (.int .i64 1)) fun v29x14 =>
    ob (vIx 3 (σ2 0) (σ2 5)) fun v32x15 =>
    ob (vFa 2 v32x15) fun v33x16 =>
    ob (vLoad v33x16 H2) fun v34x17 =>
    HT prg I.laws_heldInt64S [v34x17, v29x14].toArray H2 fun v36x18 H19 =>
    ob (vInt .lss v36x18 (.int .i64 0)) fun v38x20 =>
    cnd v38x20
      (Q2 .ret (up (up (up (up (up (up (up (up (up (up (up (up (up (up (up (up (up (up (up (up (up (up (up (up (up (up (up (up (up (up (up (up (up (up (up σ2 6 (σ2 5)) 7 (σ2 0)) 8 v8x3) 9 v9x4) 12 (σ2 0)) 13 (σ2 5)) 14 v14x5) 15 v15x6) 16 v16x7) 17 (σ2 1)) 18 v18x8) 19 (σ2 1)) 20 v20x9) 1 v20x9) 21 (σ2 0)) 22 (σ2 5)) 23 v23x10) 24 v24x11) 25 v25x12) 26 v20x9) 27 v27x13) 28 v20x9) 29 v29x14) 1 v29x14) 30 (σ2 0)) 31 (σ2 5)) 32 v32x15) 33 v33x16) 34 v34x17) 35 v29x14) 36 v36x18) 1 v36x18) 37 v36x18) 38 v38x20) 4 (.int .i64 (-1))) H19)
      (ob (vInt .add (σ2 5) (.int .i64 1)) fun v11x21 =>
    Q2 .normal (up (up (up (up (up (up (up (up (up (up (up (up (up (up (up (up (up (up (up (up (up (up (up (up (up (up (up (up (up (up (up (up (up (up (up (up (up σ2 6 (σ2 5)) 7 (σ2 0)) 8 v8x3) 9 v9x4) 12 (σ2 0)) 13 (σ2 5)) 14 v14x5) 15 v15x6) 16 v16x7) 17 (σ2 1)) 18 v18x8) 19 (σ2 1)) 20 v20x9) 1 v20x9) 21 (σ2 0)) 22 (σ2 5)) 23 v23x10) 24 v24x11) 25 v25x12) 26 v20x9) 27 v27x13) 28 v20x9) 29 v29x14) 1 v29x14) 30 (σ2 0)) 31 (σ2 5)) 32 v32x15) 33 v33x16) 34 v34x17) 35 v29x14) 36 v36x18) 1 v36x18) 37 v36x18) 38 v38x20) 10 (σ2 5)) 11 v11x21) 5 v11x21) H19))))
      (Q2 (.exit 0) (up (up (up (up σ2 6 (σ2 5)) 7 (σ2 0)) 8 v8x3) 9 v9x4) H2)) (blkQ 0 (thenQ J1 (retQ prg [(.tmp 4)] K))) (up (up (S0 [a0, a1]) 4 (.int .i64 0)) 5 (.int .i64 0)) H
def O.laws_heldFieldS : Nat → Nat × List Nat := fun i => (0, [])
theorem R.laws_heldFieldS {a0 a1 : Value} {H : Hp} {K : Value → Hp → Prop} (h : F.laws_heldFieldS a0 a1 H K) : HT prg I.laws_heldFieldS [a0, a1].toArray H K :=
  HT_of_fev O.laws_heldFieldS mixed Try.func49 (by kernel_rfl) (Eq.mpr (by kernel_rfl : fev prg O.laws_heldFieldS Try.f49 [a0, a1] H K = F.laws_heldFieldS a0 a1 H K) h)

/-! loop.example/g01381/laws.FnExactFieldsShared: function 11 -/
def F.laws_FnExactFieldsShared (a0 a1 a2 a3 a4 : Value) (H : Hp) (K : Value → Hp → Prop) : Prop :=
  nw (a0 : Value).cells 24 H fun v5x1 H2 =>
  ob (vLoadN 2 v5x1 H2) fun v23x3 =>
  HT prg I.laws_szLife [v23x3, (.int .i64 1048576)].toArray H2 fun v25x4 H5 =>
  ob (vInt .lss v25x4 (.int .i64 0)) fun v27x6 =>
  cnd v27x6
    (K (.bool true) H5)
    (HT prg I.laws_szFieldS [a1, v25x4].toArray H5 fun v30x7 H8 =>
  ob (vInt .lss v30x7 (.int .i64 0)) fun v32x9 =>
  cnd v32x9
    (K (.bool true) H8)
    (ob (vLoadN 2 v5x1 H8) fun v34x10 =>
  HT prg I.laws_toLife [v34x10].toArray H8 fun v35x11 H12 =>
  HT prg I.laws_toFieldS [a1].toArray H12 fun v37x13 H14 =>
  HT prg I.spec_FieldsShared [v35x11, v37x13, a2, a3, a4].toArray H14 fun v41x15 H16 =>
  ob (vExt v41x15 0) fun v42x17 =>
  ob (vExt v41x15 1) fun v43x18 =>
  ob (vLoadN 2 v5x1 H16) fun v44x19 =>
  HT prg I.laws_toLife [v44x19].toArray H16 fun v45x20 H21 =>
  nw #[(.slice none 0 0), (.slice none 0 0)] 32 H21 fun v14x22 H23 =>
  st 2 v14x22 v45x20 H23 fun H24 =>
  HT prg I.laws_toFieldS [a1].toArray H24 fun v47x25 H26 =>
  ob (vLoadN 2 v14x22 H26) fun v49x27 =>
  HT prg I.impl_FieldsShared [v49x27, v47x25, a2, a3, a4].toArray H26 fun v54x28 H29 =>
  ob (vExt v54x28 0) fun v55x30 =>
  ob (vExt v54x28 1) fun v56x31 =>
  HT prg I.laws_eqFieldS [v55x30, v42x17].toArray H29 fun v59x32 H33 =>
  ob (vUn .not v59x32) fun v60x34 =>
  gop v60x34 false (fun K35 => K35 v56x31 H33) H33 fun v62x36 H37 =>
  gop v60x34 false (fun K38 => K38 v43x18 H37) H37 fun v63x39 H40 =>
  gop v60x34 false (fun K41 => ob (vBool .neq v62x36 v63x39) fun u => K41 u H40) H40 fun v64x42 H43 =>
  ob (vPick v60x34 (.bool true) v64x42) fun v65x44 =>
  cnd v65x44
    (K (.bool false) H43)
    (ob (vLoadN 2 v14x22 H43) fun v66x45 =>
  ob (vLoadN 2 v5x1 H43) fun v67x46 =>
  HT prg I.laws_toLife [v67x46].toArray H43 fun v68x47 H48 =>
  Le H43 H48 ∧ (HT prg I.laws_eqLife [v66x45, v68x47].toArray H48 fun v69x49 H50 =>
  Le H48 H50 ∧ (ob (vUn .not v69x49) fun v70x51 =>
  cnd v70x51
    (K (.bool false) H50)
    (HT prg I.laws_toFieldS [a1].toArray H50 fun v73x52 H53 =>
  HT prg I.laws_eqFieldS [v47x25, v73x52].toArray H53 fun v74x54 H55 =>
  ob (vUn .not v74x54) fun v75x56 =>
  cnd v75x56
    (K (.bool false) H55)
    (ob (vLoadN 2 v14x22 H55) fun v76x57 =>
  HT prg I.laws_markLife [v76x57, (.int .i64 1)].toArray H55 fun v78x58 H59 =>
  HT prg I.laws_markFieldS [v47x25, v78x58].toArray H59 fun v81x60 H61 =>
  ob (vInt .lss v81x60 (.int .i64 0)) fun v83x62 =>
  gop v83x62 false (fun K63 => K63 v55x30 H61) H61 fun v85x64 H65 =>
  gop v83x62 false (fun K66 => K66 v42x17 H65) H65 fun v86x67 H68 =>
  gop v83x62 false (fun K69 => HT prg I.laws_eqFieldS [v85x64, v86x67].toArray H68 K69) H68 fun v87x70 H71 =>
  gop v83x62 false (fun K72 => ob (vUn .not v87x70) fun u => K72 u H71) H71 fun v88x73 H74 =>
  ob (vPick v83x62 (.bool true) v88x73) fun v89x75 =>
  gop v89x75 false (fun K76 => K76 v56x31 H74) H74 fun v91x77 H78 =>
  gop v89x75 false (fun K79 => K79 v43x18 H78) H78 fun v92x80 H81 =>
  gop v89x75 false (fun K82 => ob (vBool .neq v91x77 v92x80) fun u => K82 u H81) H81 fun v93x83 H84 =>
  ob (vPick v89x75 (.bool true) v93x83) fun v94x85 =>
  cnd v94x85
    (K (.bool false) H84)
    (HT prg I.laws_markFieldS [v55x30, (.int .i64 1)].toArray H84 fun v97x86 H87 =>
  HT prg I.laws_heldFieldS [v55x30, (.int .i64 1)].toArray H87 fun v100x88 H89 =>
  ob (vInt .lss v100x88 (.int .i64 0)) fun v102x90 =>
  cnd v102x90
    (K (.bool false) H89)
    (ob (vInt .neq v100x88 v97x86) fun v105x91 =>
  cnd v105x91
    (K (.bool false) H89)
    (ob (vLoadN 2 v5x1 H89) fun v107x92 =>
  HT prg I.laws_toLife [v107x92].toArray H89 fun v108x93 H94 =>
  HT prg I.laws_toFieldS [a1].toArray H94 fun v110x95 H96 =>
  HT prg I.impl_FieldsShared [v108x93, v110x95, a2, a3, a4].toArray H96 fun v114x97 H98 =>
  ob (vExt v114x97 0) fun v115x99 =>
  ob (vExt v114x97 1) fun v116x100 =>
  HT prg I.laws_eqFieldS [v115x99, v42x17].toArray H98 fun v119x101 H102 =>
  ob (vUn .not v119x101) fun v120x103 =>
  gop v120x103 false (fun K104 => K104 v116x100 H102) H102 fun v122x105 H106 =>
  gop v120x103 false (fun K107 => K107 v43x18 H106) H106 fun v123x108 H109 =>
  gop v120x103 false (fun K110 => ob (vBool .neq v122x105 v123x108) fun u => K110 u H109) H109 fun v124x111 H112 =>
  ob (vPick v120x103 (.bool true) v124x111) fun v125x113 =>
  cnd v125x113
    (K (.bool false) H112)
    (HT prg I.laws_heldFieldS [v55x30, (.int .i64 1)].toArray H112 fun v128x114 H115 =>
  ob (vInt .lss v128x114 (.int .i64 0)) fun v130x116 =>
  cnd v130x116
    (K (.bool false) H115)
    (ob (vInt .neq v128x114 v97x86) fun v133x117 =>
  cnd v133x117
    (K (.bool false) H115)
    (K (.bool true) H115)))))))))))))
def O.laws_FnExactFieldsShared : Nat → Nat × List Nat := fun i => bif Nat.beq i 14 then (0, [0, 1, 2, 3, 4]) else (0, [])
theorem R.laws_FnExactFieldsShared {a0 a1 a2 a3 a4 : Value} {H : Hp} {K : Value → Hp → Prop} (h : F.laws_FnExactFieldsShared a0 a1 a2 a3 a4 H K) : HT prg I.laws_FnExactFieldsShared [a0, a1, a2, a3, a4].toArray H K :=
  HT_of_fev O.laws_FnExactFieldsShared mixed Try.func11 (by kernel_rfl) (Eq.mpr (by kernel_rfl : fev prg O.laws_FnExactFieldsShared Try.f11 [a0, a1, a2, a3, a4] H K = F.laws_FnExactFieldsShared a0 a1 a2 a3 a4 H K) h)

/-! loop.example/g01381/spec.l00Min: function 131 -/
def F.spec_l00Min (a0 a1 : Value) (H : Hp) (K : Value → Hp → Prop) : Prop :=
  ob (vInt .lss a0 a1) fun v7x1 =>
  cnd v7x1
    (K a0 H)
    (K a1 H)
def O.spec_l00Min : Nat → Nat × List Nat := fun i => (0, [])
theorem R.spec_l00Min {a0 a1 : Value} {H : Hp} {K : Value → Hp → Prop} (h : F.spec_l00Min a0 a1 H K) : HT prg I.spec_l00Min [a0, a1].toArray H K :=
  HT_of_fev O.spec_l00Min mixed Try.func131 (by kernel_rfl) (Eq.mpr (by kernel_rfl : fev prg O.spec_l00Min Try.f131 [a0, a1] H K = F.spec_l00Min a0 a1 H K) h)

/-! loop.example/g01381/spec.l00Max: function 132 -/
def F.spec_l00Max (a0 a1 : Value) (H : Hp) (K : Value → Hp → Prop) : Prop :=
  ob (vInt .gtr a0 a1) fun v7x1 =>
  cnd v7x1
    (K a0 H)
    (K a1 H)
def O.spec_l00Max : Nat → Nat × List Nat := fun i => (0, [])
theorem R.spec_l00Max {a0 a1 : Value} {H : Hp} {K : Value → Hp → Prop} (h : F.spec_l00Max a0 a1 H K) : HT prg I.spec_l00Max [a0, a1].toArray H K :=
  HT_of_fev O.spec_l00Max mixed Try.func132 (by kernel_rfl) (Eq.mpr (by kernel_rfl : fev prg O.spec_l00Max Try.f132 [a0, a1] H K = F.spec_l00Max a0 a1 H K) h)

/-! loop.example/g01381/spec.l05Trim: function 92 -/
def F.spec_l05Trim (a0 : Value) (H : Hp) (K : Value → Hp → Prop) : Prop :=
  nw #[(.int .i64 0), (.int .i64 0), (.slice none 0 0)] 29 H fun v2x1 H2 =>
  ob (vNilC a0) fun v13x3 =>
  ob (vFa 0 v13x3) fun v14x4 =>
  ob (vLoad v14x4 H2) fun v15x5 =>
  ob (vNilC a0) fun v17x6 =>
  ob (vFa 1 v17x6) fun v18x7 =>
  ob (vLoad v18x7 H2) fun v19x8 =>
  jn (fun σ9 H9 =>
    ob (vInt .lss (σ9 7) (.int .i64 0)) fun v64x10 =>
    cnd v64x10
      (ob (vBuild [(0, 1), (1, 1), (2, 1)] (.agg #[(.int .i64 0), (.int .i64 0), (.slice none 0 0)]) []) fun v65x11 =>
      st 3 (σ9 2) v65x11 H9 fun H12 =>
      ob (vLoadN 3 (σ9 2) H12) fun u13 => K (.tuple #[u13, (.int .i64 0), (.int .i64 0), (.bool false)]) H12)
      (ob (vInt .sub (σ9 7) (σ9 6)) fun v71x14 =>
    ob (vInt .add v71x14 (.int .i64 1)) fun v72x15 =>
    ob (vInt .sub (σ9 9) (σ9 8)) fun v75x16 =>
    ob (vInt .add v75x16 (.int .i64 1)) fun v76x17 =>
    HT prg I.spec_l05Cut [(σ9 0), (σ9 6), (σ9 8), v72x15, v76x17].toArray H9 fun v77x18 H19 =>
    st 3 (σ9 2) v77x18 H19 fun H20 =>
    ob (vLoadN 3 (σ9 2) H20) fun u21 => K (.tuple #[u21, (σ9 6), (σ9 8), (.bool true)]) H20)) fun J9 =>
  lpE (fun Q22 σ22 H22 =>
    ob (vNilC (σ22 0)) fun v22x23 =>
    ob (vFa 0 v22x23) fun v23x24 =>
    ob (vLoad v23x24 H22) fun v24x25 =>
    ob (vInt .lss (σ22 10) v24x25) fun v25x26 =>
    cnd v25x26
      (jn (fun σ27 H27 =>
      ob (vInt .add (σ27 10) (.int .i64 1)) fun v27x28 =>
      Q22 .normal (up (up (up σ27 26 (σ27 10)) 27 v27x28) 10 v27x28) H27) fun J27 =>
    lpE (fun Q29 σ29 H29 =>
      ob (vNilC (σ29 0)) fun v30x30 =>
      ob (vFa 1 v30x30) fun v31x31 =>
      ob (vLoad v31x31 H29) fun v32x32 =>
      ob (vInt .lss (σ29 11) v32x32) fun v33x33 =>
      cnd v33x33
        (ob (vNilC (σ29 0)) fun v37x34 =>
      ob (vFa 2 v37x34) fun v38x35 =>
      ob (vLoad v38x35 H29) fun v39x36 =>
      ob (vNilC (σ29 0)) fun v42x37 =>
      ob (vFa 1 v42x37) fun v43x38 =>
      ob (vLoad v43x38 H29) fun v44x39 =>
      ob (vInt .mul (σ29 10) v44x39) fun v45x40 =>
      ob (vInt .add v45x40 (σ29 11)) fun v47x41 =>
      ob (vIx 1 v39x36 v47x41) fun v48x42 =>
      ob (vLoad v48x42 H29) fun v49x43 =>
      ob (vInt .eql v49x43 (.int .i64 1)) fun v50x44 =>
      cnd v50x44
        (HT prg I.spec_l00Min [(σ29 6), (σ29 10)].toArray H29 fun v53x45 H46 =>
        HT prg I.spec_l00Max [(σ29 7), (σ29 10)].toArray H46 fun v56x47 H48 =>
        HT prg I.spec_l00Min [(σ29 8), (σ29 11)].toArray H48 fun v59x49 H50 =>
        HT prg I.spec_l00Max [(σ29 9), (σ29 11)].toArray H50 fun v62x51 H52 =>
        ob (vInt .add (σ29 11) (.int .i64 1)) fun v35x53 =>
      Q29 .normal (up (up (up (up (up (up (up (up (up (up (up (up (up (up (up (up (up (up (up (up (up (up (up (up (up (up (up (up (up (up (up (up (up (up (up (up (up (up (up (up σ29 28 (σ29 11)) 29 (σ29 0)) 30 v30x30) 31 v31x31) 32 v32x32) 33 v33x33) 36 (σ29 0)) 37 v37x34) 38 v38x35) 39 v39x36) 40 (σ29 10)) 41 (σ29 0)) 42 v42x37) 43 v43x38) 44 v44x39) 45 v45x40) 46 (σ29 11)) 47 v47x41) 48 v48x42) 49 v49x43) 50 v50x44) 51 (σ29 6)) 52 (σ29 10)) 53 v53x45) 6 v53x45) 54 (σ29 7)) 55 (σ29 10)) 56 v56x47) 7 v56x47) 57 (σ29 8)) 58 (σ29 11)) 59 v59x49) 8 v59x49) 60 (σ29 9)) 61 (σ29 11)) 62 v62x51) 9 v62x51) 34 (σ29 11)) 35 v35x53) 11 v35x53) H52)
        (ob (vInt .add (σ29 11) (.int .i64 1)) fun v35x54 =>
      Q29 .normal (up (up (up (up (up (up (up (up (up (up (up (up (up (up (up (up (up (up (up (up (up (up (up (up σ29 28 (σ29 11)) 29 (σ29 0)) 30 v30x30) 31 v31x31) 32 v32x32) 33 v33x33) 36 (σ29 0)) 37 v37x34) 38 v38x35) 39 v39x36) 40 (σ29 10)) 41 (σ29 0)) 42 v42x37) 43 v43x38) 44 v44x39) 45 v45x40) 46 (σ29 11)) 47 v47x41) 48 v48x42) 49 v49x43) 50 v50x44) 34 (σ29 11)) 35 v35x54) 11 v35x54) H29))
        (Q29 (.exit 2) (up (up (up (up (up (up σ29 28 (σ29 11)) 29 (σ29 0)) 30 v30x30) 31 v31x31) 32 v32x32) 33 v33x33) H29)) (blkQ 2 (blkQ 1 (thenQ J27 Q22))) (up (up (up (up (up (up (up σ22 20 (σ22 10)) 21 (σ22 0)) 22 v22x23) 23 v23x24) 24 v24x25) 25 v25x26) 11 (.int .i64 0)) H22)
      (Q22 (.exit 0) (up (up (up (up (up (up σ22 20 (σ22 10)) 21 (σ22 0)) 22 v22x23) 23 v23x24) 24 v24x25) 25 v25x26) H22)) (blkQ 0 (thenQ J9 (retQ prg [(.cell 2 29), (.tmp 3), (.tmp 4), (.tmp 5)] K))) (up (up (up (up (up (up (up (up (up (up (up (up (up (up (up (up (up (S0 [a0]) 2 v2x1) 3 (.int .i64 0)) 4 (.int .i64 0)) 5 (.bool false)) 12 a0) 13 v13x3) 14 v14x4) 15 v15x5) 6 v15x5) 7 (.int .i64 (-1))) 16 a0) 17 v17x6) 18 v18x7) 19 v19x8) 8 v19x8) 9 (.int .i64 (-1))) 10 (.int .i64 0)) H2
def O.spec_l05Trim : Nat → Nat × List Nat := fun i => bif Nat.beq i 11 then (0, [0, 1, 2, 3, 4, 5, 6, 7, 8, 9, 10, 11, 12, 13, 14]) else (0, [])
theorem R.spec_l05Trim {a0 : Value} {H : Hp} {K : Value → Hp → Prop} (h : F.spec_l05Trim a0 H K) : HT prg I.spec_l05Trim [a0].toArray H K :=
  HT_of_fev O.spec_l05Trim mixed Try.func92 (by kernel_rfl) (Eq.mpr (by kernel_rfl : fev prg O.spec_l05Trim Try.f92 [a0] H K = F.spec_l05Trim a0 H K) h)

/-! loop.example/g01381/spec.l05Border: function 93 -/
def F.spec_l05Border (a0 : Value) (H : Hp) (K : Value → Hp → Prop) : Prop :=
  jn (fun σ1 H1 =>
    K (.bool false) H1) fun J1 =>
  lpE (fun Q2 σ2 H2 =>
    ob (vNilC (σ2 0)) fun v7x3 =>
    ob (vFa 0 v7x3) fun v8x4 =>
    ob (vLoad v8x4 H2) fun v9x5 =>
    ob (vInt .lss (σ2 3) v9x5) fun v10x6 =>
    cnd v10x6
      (jn (fun σ7 H7 =>
      ob (vInt .add (σ7 3) (.int .i64 1)) fun v12x8 =>
      Q2 .normal (up (up (up σ7 11 (σ7 3)) 12 v12x8) 3 v12x8) H7) fun J7 =>
    lpE (fun Q9 σ9 H9 =>
      ob (vNilC (σ9 0)) fun v15x10 =>
      ob (vFa 1 v15x10) fun v16x11 =>
      ob (vLoad v16x11 H9) fun v17x12 =>
      ob (vInt .lss (σ9 4) v17x12) fun v18x13 =>
      cnd v18x13
        (ob (vNilC (σ9 0)) fun v22x14 =>
      ob (vFa 2 v22x14) fun v23x15 =>
      ob (vLoad v23x15 H9) fun v24x16 =>
      ob (vNilC (σ9 0)) fun v27x17 =>
      ob (vFa 1 v27x17) fun v28x18 =>
      ob (vLoad v28x18 H9) fun v29x19 =>
      ob (vInt .mul (σ9 3) v29x19) fun v30x20 =>
      ob (vInt .add v30x20 (σ9 4)) fun v32x21 =>
      ob (vIx 1 v24x16 v32x21) fun v33x22 =>
      ob (vLoad v33x22 H9) fun v34x23 =>
      ob (vInt .eql v34x23 (.int .i64 1)) fun v35x24 =>
      gop v35x24 true (fun K25 => K25 (σ9 3) H9) H9 fun v37x26 H27 =>
      gop v35x24 true (fun K28 => ob (vInt .eql v37x26 (.int .i64 0)) fun u => K28 u H27) H27 fun v38x29 H30 =>
      gop v35x24 true (fun K31 => K31 v38x29 H30) H30 fun v39x32 H33 =>
      gop v39x32 false (fun K34 => K34 (σ9 4) H33) H33 fun v40x35 H36 =>
      gop v39x32 false (fun K37 => ob (vInt .eql v40x35 (.int .i64 0)) fun u => K37 u H36) H36 fun v41x38 H39 =>
      gop v35x24 true (fun K40 => ob (vPick v39x32 (.bool true) v41x38) fun u => K40 u H39) H39 fun v42x41 H42 =>
      gop v35x24 true (fun K43 => K43 v42x41 H42) H42 fun v43x44 H45 =>
      gop v43x44 false (fun K46 => K46 (σ9 3) H45) H45 fun v44x47 H48 =>
      gop v43x44 false (fun K49 => K49 (σ9 0) H48) H48 fun v45x50 H51 =>
      gop v43x44 false (fun K52 => ob (vNilC v45x50) fun u => K52 u H51) H51 fun v46x53 H54 =>
      gop v43x44 false (fun K55 => ob (vFa 0 v46x53) fun u => K55 u H54) H54 fun v47x56 H57 =>
      gop v43x44 false (fun K58 => ob (vLoad v47x56 H57) fun u => K58 u H57) H57 fun v48x59 H60 =>
      gop v43x44 false (fun K61 => ob (vInt .sub v48x59 (.int .i64 1)) fun u => K61 u H60) H60 fun v49x62 H63 =>
      gop v43x44 false (fun K64 => ob (vInt .eql v44x47 v49x62) fun u => K64 u H63) H63 fun v50x65 H66 =>
      gop v35x24 true (fun K67 => ob (vPick v43x44 (.bool true) v50x65) fun u => K67 u H66) H66 fun v51x68 H69 =>
      gop v35x24 true (fun K70 => K70 v51x68 H69) H69 fun v52x71 H72 =>
      gop v52x71 false (fun K73 => K73 (σ9 4) H72) H72 fun v53x74 H75 =>
      gop v52x71 false (fun K76 => K76 (σ9 0) H75) H75 fun v54x77 H78 =>
      gop v52x71 false (fun K79 => ob (vNilC v54x77) fun u => K79 u H78) H78 fun v55x80 H81 =>
      gop v52x71 false (fun K82 => ob (vFa 1 v55x80) fun u => K82 u H81) H81 fun v56x83 H84 =>
      gop v52x71 false (fun K85 => ob (vLoad v56x83 H84) fun u => K85 u H84) H84 fun v57x86 H87 =>
      gop v52x71 false (fun K88 => ob (vInt .sub v57x86 (.int .i64 1)) fun u => K88 u H87) H87 fun v58x89 H90 =>
      gop v52x71 false (fun K91 => ob (vInt .eql v53x74 v58x89) fun u => K91 u H90) H90 fun v59x92 H93 =>
      gop v35x24 true (fun K94 => ob (vPick v52x71 (.bool true) v59x92) fun u => K94 u H93) H93 fun v60x95 H96 =>
      ob (vPick v35x24 v60x95 (.bool false)) fun v61x97 =>
      cnd v61x97
        (Q9 .ret (up (up (up (up (up (up (up (up (up (up (up (up (up (up (up (up (up (up (up (up (up (up (up (up (up (up (up (up (up (up (up (up (up (up (up (up (up (up (up (up (up (up (up (up (up (up (up (up σ9 13 (σ9 4)) 14 (σ9 0)) 15 v15x10) 16 v16x11) 17 v17x12) 18 v18x13) 21 (σ9 0)) 22 v22x14) 23 v23x15) 24 v24x16) 25 (σ9 3)) 26 (σ9 0)) 27 v27x17) 28 v28x18) 29 v29x19) 30 v30x20) 31 (σ9 4)) 32 v32x21) 33 v33x22) 34 v34x23) 35 v35x24) 36 v35x24) 37 v37x26) 38 v38x29) 39 v39x32) 40 v40x35) 41 v41x38) 42 v42x41) 43 v43x44) 44 v44x47) 45 v45x50) 46 v46x53) 47 v47x56) 48 v48x59) 49 v49x62) 50 v50x65) 51 v51x68) 52 v52x71) 53 v53x74) 54 v54x77) 55 v55x80) 56 v56x83) 57 v57x86) 58 v58x89) 59 v59x92) 60 v60x95) 61 v61x97) 2 (.bool true)) H96)
        (ob (vInt .add (σ9 4) (.int .i64 1)) fun v20x98 =>
      Q9 .normal (up (up (up (up (up (up (up (up (up (up (up (up (up (up (up (up (up (up (up (up (up (up (up (up (up (up (up (up (up (up (up (up (up (up (up (up (up (up (up (up (up (up (up (up (up (up (up (up (up (up σ9 13 (σ9 4)) 14 (σ9 0)) 15 v15x10) 16 v16x11) 17 v17x12) 18 v18x13) 21 (σ9 0)) 22 v22x14) 23 v23x15) 24 v24x16) 25 (σ9 3)) 26 (σ9 0)) 27 v27x17) 28 v28x18) 29 v29x19) 30 v30x20) 31 (σ9 4)) 32 v32x21) 33 v33x22) 34 v34x23) 35 v35x24) 36 v35x24) 37 v37x26) 38 v38x29) 39 v39x32) 40 v40x35) 41 v41x38) 42 v42x41) 43 v43x44) 44 v44x47) 45 v45x50) 46 v46x53) 47 v47x56) 48 v48x59) 49 v49x62) 50 v50x65) 51 v51x68) 52 v52x71) 53 v53x74) 54 v54x77) 55 v55x80) 56 v56x83) 57 v57x86) 58 v58x89) 59 v59x92) 60 v60x95) 61 v61x97) 19 (σ9 4)) 20 v20x98) 4 v20x98) H96))
        (Q9 (.exit 2) (up (up (up (up (up (up σ9 13 (σ9 4)) 14 (σ9 0)) 15 v15x10) 16 v16x11) 17 v17x12) 18 v18x13) H9)) (blkQ 2 (blkQ 1 (thenQ J7 Q2))) (up (up (up (up (up (up (up σ2 5 (σ2 3)) 6 (σ2 0)) 7 v7x3) 8 v8x4) 9 v9x5) 10 v10x6) 4 (.int .i64 0)) H2)
      (Q2 (.exit 0) (up (up (up (up (up (up σ2 5 (σ2 3)) 6 (σ2 0)) 7 v7x3) 8 v8x4) 9 v9x5) 10 v10x6) H2)) (blkQ 0 (thenQ J1 (retQ prg [(.tmp 2)] K))) (up (up (S0 [a0]) 2 (.bool false)) 3 (.int .i64 0)) H
def O.spec_l05Border : Nat → Nat × List Nat := fun i => bif Nat.beq i 7 then (0, [0, 1, 2, 3, 4, 5, 6, 7, 8, 9, 10, 11, 12, 13, 14, 15, 16, 17, 18, 19, 20, 21, 22, 23, 24, 25, 26, 27, 28, 29, 30, 31, 32, 33, 34, 35, 36, 37, 38, 39, 40]) else (0, [])
theorem R.spec_l05Border {a0 : Value} {H : Hp} {K : Value → Hp → Prop} (h : F.spec_l05Border a0 H K) : HT prg I.spec_l05Border [a0].toArray H K :=
  HT_of_fev O.spec_l05Border mixed Try.func93 (by kernel_rfl) (Eq.mpr (by kernel_rfl : fev prg O.spec_l05Border Try.f93 [a0] H K = F.spec_l05Border a0 H K) h)

/-! loop.example/g01381/spec.ShipOf: function 50 -/
def F.spec_ShipOf (a0 a1 a2 : Value) (H : Hp) (K : Value → Hp → Prop) : Prop :=
  nw (a0 : Value).cells 32 H fun v3x1 H2 =>
  nw (a1 : Value).cells 29 H2 fun v4x3 H4 =>
  HT prg I.spec_l04Can [v3x1, v4x3].toArray H4 fun v24x5 H6 =>
  ob (vUn .not v24x5) fun v25x7 =>
  gop v25x7 false (fun K8 => K8 a2 H6) H6 fun v27x9 H10 =>
  gop v25x7 false (fun K11 => HT prg I.spec_l00In [v27x9, (.int .i64 1), (.int .i64 64)].toArray H10 K11) H10 fun v28x12 H13 =>
  gop v25x7 false (fun K14 => ob (vUn .not v28x12) fun u => K14 u H13) H13 fun v29x15 H16 =>
  ob (vPick v25x7 (.bool true) v29x15) fun v30x17 =>
  cnd v30x17
    (K (.tuple #[(.int .i64 0), (.int .i64 0), (.int .i64 0), (.bool false)]) H16)
    (HT prg I.spec_l04New [(.int .i64 24), (.int .i64 24)].toArray H16 fun v31x18 H19 =>
  nw #[(.int .i64 0), (.int .i64 0), (.slice none 0 0)] 29 H19 fun v10x20 H21 =>
  st 3 v10x20 v31x18 H21 fun H22 =>
  ob (vFa 0 v4x3) fun v32x23 =>
  ob (vLoad v32x23 H22) fun v33x24 =>
  ob (vInt .sub (.int .i64 24) v33x24) fun v34x25 =>
  ob (vInt .quo v34x25 (.int .i64 2)) fun v35x26 =>
  ob (vFa 1 v4x3) fun v36x27 =>
  ob (vLoad v36x27 H22) fun v37x28 =>
  ob (vInt .sub (.int .i64 24) v37x28) fun v38x29 =>
  ob (vInt .quo v38x29 (.int .i64 2)) fun v39x30 =>
  jn (fun σ31 H31 =>
    HT prg I.spec_l05Trim [(σ31 10)].toArray H31 fun v74x32 H33 =>
    ob (vExt v74x32 0) fun v75x34 =>
    ob (vExt v74x32 1) fun v76x35 =>
    ob (vExt v74x32 2) fun v77x36 =>
    ob (vExt v74x32 3) fun v78x37 =>
    nw #[(.int .i64 0), (.int .i64 0), (.slice none 0 0)] 29 H33 fun v15x38 H39 =>
    st 3 v15x38 v75x34 H39 fun H40 =>
    ob (vUn .not v78x37) fun v80x41 =>
    gop v80x41 false (fun K42 => HT prg I.spec_l05Border [(σ31 10)].toArray H40 K42) H40 fun v82x43 H44 =>
    ob (vPick v80x41 (.bool true) v82x43) fun v83x45 =>
    cnd v83x45
      (K (.tuple #[(.int .i64 0), (.int .i64 0), (.int .i64 0), (.bool false)]) H44)
      (jn (fun σ46 H46 =>
      K (.tuple #[(.int .i64 0), (.int .i64 0), (.int .i64 0), (.bool false)]) H46) fun J46 =>
    lpE (fun Q47 σ47 H47 =>
      ob (vInt .leq (σ47 19) (σ47 2)) fun v86x48 =>
      cnd v86x48
        (HT prg I.spec_l04Step [(σ47 3), (σ47 10)].toArray H47 fun v89x49 H50 =>
      st 3 (σ47 10) v89x49 H50 fun H51 =>
      HT prg I.spec_l05Border [(σ47 10)].toArray H51 fun v90x52 H53 =>
      cnd v90x52
        (Q47 .ret (up (up (up (up (up (up (up (up (up σ47 84 (σ47 19)) 85 (σ47 2)) 86 v86x48) 89 v89x49) 90 v90x52) 6 (.int .i64 0)) 7 (.int .i64 0)) 8 (.int .i64 0)) 9 (.bool false)) H53)
        (HT prg I.spec_l05Trim [(σ47 10)].toArray H53 fun v92x54 H55 =>
      ob (vExt v92x54 0) fun v93x56 =>
      ob (vExt v92x54 1) fun v94x57 =>
      ob (vExt v92x54 2) fun v95x58 =>
      ob (vExt v92x54 3) fun v96x59 =>
      nw #[(.int .i64 0), (.int .i64 0), (.slice none 0 0)] 29 H55 fun v20x60 H61 =>
      st 3 v20x60 v93x56 H61 fun H62 =>
      gop v96x59 true (fun K63 => HT prg I.spec_l04Same [v20x60, (σ47 15)].toArray H62 K63) H62 fun v99x64 H65 =>
      ob (vPick v96x59 v99x64 (.bool false)) fun v100x66 =>
      cnd v100x66
        (ob (vInt .sub v94x57 (σ47 16)) fun v104x67 =>
        ob (vInt .sub v95x58 (σ47 17)) fun v107x68 =>
        Q47 .ret (up (up (up (up (up (up (up (up (up (up (up (up (up (up (up (up (up (up (up (up (up (up (up (up (up (up (up (up (up (up σ47 84 (σ47 19)) 85 (σ47 2)) 86 v86x48) 89 v89x49) 90 v90x52) 92 v92x54) 91 v92x54) 93 v93x56) 94 v94x57) 95 v95x58) 96 v96x59) 20 v20x60) 21 v94x57) 22 v95x58) 23 v96x59) 97 v96x59) 98 v96x59) 99 v99x64) 100 v100x66) 101 (σ47 19)) 102 v94x57) 103 (σ47 16)) 104 v104x67) 105 v95x58) 106 (σ47 17)) 107 v107x68) 6 (σ47 19)) 7 v104x67) 8 v107x68) 9 (.bool true)) H65)
        (ob (vInt .add (σ47 19) (.int .i64 1)) fun v88x69 =>
      Q47 .normal (up (up (up (up (up (up (up (up (up (up (up (up (up (up (up (up (up (up (up (up (up (up σ47 84 (σ47 19)) 85 (σ47 2)) 86 v86x48) 89 v89x49) 90 v90x52) 92 v92x54) 91 v92x54) 93 v93x56) 94 v94x57) 95 v95x58) 96 v96x59) 20 v20x60) 21 v94x57) 22 v95x58) 23 v96x59) 97 v96x59) 98 v96x59) 99 v99x64) 100 v100x66) 87 (σ47 19)) 88 v88x69) 19 v88x69) H65)))
        (Q47 (.exit 4) (up (up (up σ47 84 (σ47 19)) 85 (σ47 2)) 86 v86x48) H47)) (blkQ 4 (thenQ J46 (retQ prg [(.tmp 6), (.tmp 7), (.tmp 8), (.tmp 9)] K))) (up (up (up (up (up (up (up (up (up (up (up (up (up (up (up (up σ31 74 v74x32) 73 v74x32) 75 v75x34) 76 v76x35) 77 v77x36) 78 v78x37) 15 v15x38) 16 v76x35) 17 v77x36) 18 v78x37) 79 v78x37) 80 v80x41) 81 v80x41) 82 v82x43) 83 v83x45) 19 (.int .i64 1)) H44)) fun J31 =>
  lpE (fun Q70 σ70 H70 =>
    ob (vFa 0 (σ70 4)) fun v41x71 =>
    ob (vLoad v41x71 H70) fun v42x72 =>
    ob (vInt .lss (σ70 13) v42x72) fun v43x73 =>
    cnd v43x73
      (jn (fun σ74 H74 =>
      ob (vInt .add (σ74 13) (.int .i64 1)) fun v45x75 =>
      Q70 .normal (up (up (up σ74 44 (σ74 13)) 45 v45x75) 13 v45x75) H74) fun J74 =>
    lpE (fun Q76 σ76 H76 =>
      ob (vFa 1 (σ76 4)) fun v47x77 =>
      ob (vLoad v47x77 H76) fun v48x78 =>
      ob (vInt .lss (σ76 14) v48x78) fun v49x79 =>
      cnd v49x79
        (ob (vFa 2 (σ76 10)) fun v52x80 =>
      ob (vLoad v52x80 H76) fun v53x81 =>
      ob (vInt .add (σ76 11) (σ76 13)) fun v56x82 =>
      ob (vInt .mul v56x82 (.int .i64 24)) fun v57x83 =>
      ob (vInt .add v57x83 (σ76 12)) fun v59x84 =>
      ob (vInt .add v59x84 (σ76 14)) fun v61x85 =>
      ob (vFa 2 (σ76 4)) fun v62x86 =>
      ob (vLoad v62x86 H76) fun v63x87 =>
      ob (vFa 1 (σ76 4)) fun v65x88 =>
      ob (vLoad v65x88 H76) fun v66x89 =>
      ob (vInt .mul (σ76 13) v66x89) fun v67x90 =>
      ob (vInt .add v67x90 (σ76 14)) fun v69x91 =>
      ob (vIx 1 v63x87 v69x91) fun v70x92 =>
      ob (vLoad v70x92 H76) fun v71x93 =>
      ob (vIx 1 v53x81 v61x85) fun v72x94 =>
      st 1 v72x94 v71x93 H76 fun H95 =>
      ob (vInt .add (σ76 14) (.int .i64 1)) fun v51x96 =>
      Q76 .normal (up (up (up (up (up (up (up (up (up (up (up (up (up (up (up (up (up (up (up (up (up (up (up (up (up (up (up (up σ76 46 (σ76 14)) 47 v47x77) 48 v48x78) 49 v49x79) 52 v52x80) 53 v53x81) 54 (σ76 11)) 55 (σ76 13)) 56 v56x82) 57 v57x83) 58 (σ76 12)) 59 v59x84) 60 (σ76 14)) 61 v61x85) 62 v62x86) 63 v63x87) 64 (σ76 13)) 65 v65x88) 66 v66x89) 67 v67x90) 68 (σ76 14)) 69 v69x91) 70 v70x92) 71 v71x93) 72 v72x94) 50 (σ76 14)) 51 v51x96) 14 v51x96) H95)
        (Q76 (.exit 2) (up (up (up (up σ76 46 (σ76 14)) 47 v47x77) 48 v48x78) 49 v49x79) H76)) (blkQ 2 (blkQ 1 (thenQ J74 Q70))) (up (up (up (up (up σ70 40 (σ70 13)) 41 v41x71) 42 v42x72) 43 v43x73) 14 (.int .i64 0)) H70)
      (Q70 (.exit 0) (up (up (up (up σ70 40 (σ70 13)) 41 v41x71) 42 v42x72) 43 v43x73) H70)) (blkQ 0 (thenQ J31 (retQ prg [(.tmp 6), (.tmp 7), (.tmp 8), (.tmp 9)] K))) (up (up (up (up (up (up (up (up (up (up (up (up (up (up (up (up (up (up (up (up (up (up (up (up (up (up (S0 [a0, a1, a2]) 3 v3x1) 4 v4x3) 6 (.int .i64 0)) 7 (.int .i64 0)) 8 (.int .i64 0)) 9 (.bool false)) 24 v24x5) 25 v25x7) 26 v25x7) 27 v27x9) 28 v28x12) 29 v29x15) 30 v30x17) 31 v31x18) 10 v10x20) 32 v32x23) 33 v33x24) 34 v34x25) 35 v35x26) 11 v35x26) 36 v36x27) 37 v37x28) 38 v38x29) 39 v39x30) 12 v39x30) 13 (.int .i64 0)) H22)
def O.spec_ShipOf : Nat → Nat × List Nat := fun i => bif Nat.beq i 12 then (0, [0, 1, 2, 3, 4, 5, 6, 7, 8, 9, 10, 11, 12, 13, 14, 15, 16, 17, 18, 19, 20, 21]) else (0, [])
theorem R.spec_ShipOf {a0 a1 a2 : Value} {H : Hp} {K : Value → Hp → Prop} (h : F.spec_ShipOf a0 a1 a2 H K) : HT prg I.spec_ShipOf [a0, a1, a2].toArray H K :=
  HT_of_fev O.spec_ShipOf mixed Try.func50 (by kernel_rfl) (Eq.mpr (by kernel_rfl : fev prg O.spec_ShipOf Try.f50 [a0, a1, a2] H K = F.spec_ShipOf a0 a1 a2 H K) h)

/-! loop.example/g01381/impl.ShipOf$1: function 95 -/
def F.impl_ShipOf_1 (a0 a1 a2 a3 a4 : Value) (H : Hp) (K : Value → Hp → Prop) : Prop :=
  ob (vLoadN 3 a2 H) fun v8x1 =>
  ob (vLoad a3 H) fun v10x2 =>
  ob (vInt .sub a0 v10x2) fun v11x3 =>
  ob (vLoad a4 H) fun v13x4 =>
  ob (vInt .sub a1 v13x4) fun v14x5 =>
  HT prg I.impl_Field_look [v8x1, v11x3, v14x5, (.bool false)].toArray H fun v15x6 H7 =>
  K v15x6 H7
def O.impl_ShipOf_1 : Nat → Nat × List Nat := fun i => (0, [])
theorem R.impl_ShipOf_1 {a0 a1 a2 a3 a4 : Value} {H : Hp} {K : Value → Hp → Prop} (h : F.impl_ShipOf_1 a0 a1 a2 a3 a4 H K) : HT prg I.impl_ShipOf_1 [a0, a1, a2, a3, a4].toArray H K :=
  HT_of_fev O.impl_ShipOf_1 mixed Try.func95 (by kernel_rfl) (Eq.mpr (by kernel_rfl : fev prg O.impl_ShipOf_1 Try.f95 [a0, a1, a2, a3, a4] H K = F.impl_ShipOf_1 a0 a1 a2 a3 a4 H K) h)

/-! (loop.example/g01381/impl.Field).trimmed: function 97 -/
def F.impl_Field_trimmed (a0 : Value) (H : Hp) (K : Value → Hp → Prop) : Prop :=
  nw (a0 : Value).cells 29 H fun v1x1 H2 =>
  nw #[(.int .i64 0), (.int .i64 0), (.slice none 0 0)] 29 H2 fun v2x3 H4 =>
  ob (vFa 0 v1x1) fun v14x5 =>
  ob (vLoad v14x5 H4) fun v15x6 =>
  ob (vFa 1 v1x1) fun v16x7 =>
  ob (vLoad v16x7 H4) fun v17x8 =>
  jn (fun σ9 H9 =>
    ob (vInt .lss (σ9 8) (.int .i64 0)) fun v50x10 =>
    cnd v50x10
      (ob (vBuild [(0, 1), (1, 1), (2, 1)] (.agg #[(.int .i64 0), (.int .i64 0), (.slice none 0 0)]) []) fun v51x11 =>
      st 3 (σ9 2) v51x11 H9 fun H12 =>
      ob (vLoadN 3 (σ9 2) H12) fun u13 => K (.tuple #[u13, (.int .i64 0), (.int .i64 0), (.bool false)]) H12)
      (ob (vLoadN 3 (σ9 1) H9) fun v52x14 =>
    ob (vInt .sub (σ9 8) (σ9 6)) fun v57x15 =>
    ob (vInt .add v57x15 (.int .i64 1)) fun v58x16 =>
    ob (vInt .sub (σ9 9) (σ9 7)) fun v61x17 =>
    ob (vInt .add v61x17 (.int .i64 1)) fun v62x18 =>
    HT prg I.impl_Field_cut [v52x14, (σ9 6), (σ9 7), v58x16, v62x18].toArray H9 fun v63x19 H20 =>
    st 3 (σ9 2) v63x19 H20 fun H21 =>
    ob (vLoadN 3 (σ9 2) H21) fun u22 => K (.tuple #[u22, (σ9 6), (σ9 7), (.bool true)]) H21)) fun J9 =>
  ob (vFa 2 v1x1) fun v18x23 =>
  ob (vLoad v18x23 H4) fun v19x24 =>
  ob (vLenSl v19x24) fun v20x25 =>
  lpE (fun Q26 σ26 H26 =>
    ob (vInt .lss (σ26 21) (σ26 20)) fun v22x27 =>
    cnd v22x27
      (ob (vIx 1 (σ26 19) (σ26 21)) fun v24x28 =>
    ob (vLoad v24x28 H26) fun v25x29 =>
    ob (vInt .eql v25x29 (.int .i64 1)) fun v27x30 =>
    cnd v27x30
      (ob (vFa 1 (σ26 1)) fun v29x31 =>
      ob (vLoad v29x31 H26) fun v30x32 =>
      ob (vInt .quo (σ26 21) v30x32) fun v31x33 =>
      ob (vFa 1 (σ26 1)) fun v33x34 =>
      ob (vLoad v33x34 H26) fun v34x35 =>
      ob (vInt .rem (σ26 21) v34x35) fun v35x36 =>
      ob (vMx false (σ26 6) [v31x33]) fun v38x37 =>
      ob (vMx false (σ26 7) [v35x36]) fun v41x38 =>
      ob (vMx true (σ26 8) [v31x33]) fun v44x39 =>
      ob (vMx true (σ26 9) [v35x36]) fun v47x40 =>
      ob (vInt .add (σ26 21) (.int .i64 1)) fun v48x41 =>
    Q26 .normal (up (up (up (up (up (up (up (up (up (up (up (up (up (up (up (up (up (up (up (up (up (up (up (up (up (up (up (up (up (up (up (up (up (up (up (up σ26 22 v22x27) 23 (σ26 21)) 24 v24x28) 25 v25x29) 10 (σ26 21)) 11 v25x29) 26 v25x29) 27 v27x30) 28 (σ26 21)) 29 v29x31) 30 v30x32) 31 v31x33) 32 (σ26 21)) 33 v33x34) 34 v34x35) 35 v35x36) 12 v31x33) 13 v35x36) 36 (σ26 6)) 37 v31x33) 38 v38x37) 39 (σ26 7)) 40 v35x36) 41 v41x38) 42 (σ26 8)) 43 v31x33) 44 v44x39) 45 (σ26 9)) 46 v35x36) 47 v47x40) 6 v38x37) 7 v41x38) 8 v44x39) 9 v47x40) 48 v48x41) 21 v48x41) H26)
      (ob (vInt .add (σ26 21) (.int .i64 1)) fun v48x42 =>
    Q26 .normal (up (up (up (up (up (up (up (up (up (up σ26 22 v22x27) 23 (σ26 21)) 24 v24x28) 25 v25x29) 10 (σ26 21)) 11 v25x29) 26 v25x29) 27 v27x30) 48 v48x42) 21 v48x42) H26))
      (Q26 (.exit 0) (up σ26 22 v22x27) H26)) (blkQ 0 (thenQ J9 (retQ prg [(.cell 2 29), (.tmp 3), (.tmp 4), (.tmp 5)] K))) (up (up (up (up (up (up (up (up (up (up (up (up (up (up (up (up (up (S0 [a0]) 1 v1x1) 2 v2x3) 3 (.int .i64 0)) 4 (.int .i64 0)) 5 (.bool false)) 14 v14x5) 15 v15x6) 16 v16x7) 17 v17x8) 6 v15x6) 7 v17x8) 8 (.int .i64 (-1))) 9 (.int .i64 (-1))) 18 v18x23) 19 v19x24) 20 v20x25) 21 (.int .i64 0)) H4
def O.impl_Field_trimmed : Nat → Nat × List Nat := fun i => bif Nat.beq i 1 then (0, [0, 1, 2, 3, 4, 5, 6, 7]) else bif Nat.beq i 6 then (0, [0, 1, 2, 3, 4, 5, 6, 7, 8, 9]) else (0, [])
theorem R.impl_Field_trimmed {a0 : Value} {H : Hp} {K : Value → Hp → Prop} (h : F.impl_Field_trimmed a0 H K) : HT prg I.impl_Field_trimmed [a0].toArray H K :=
  HT_of_fev O.impl_Field_trimmed mixed Try.func97 (by kernel_rfl) (Eq.mpr (by kernel_rfl : fev prg O.impl_Field_trimmed Try.f97 [a0] H K = F.impl_Field_trimmed a0 H K) h)

/-! (loop.example/g01381/impl.Field).onBorder: function 98 -/
def F.impl_Field_onBorder (a0 : Value) (H : Hp) (K : Value → Hp → Prop) : Prop :=
  nw (a0 : Value).cells 29 H fun v1x1 H2 =>
  jn (fun σ3 H3 =>
    K (.bool false) H3) fun J3 =>
  ob (vFa 2 v1x1) fun v7x4 =>
  ob (vLoad v7x4 H2) fun v8x5 =>
  ob (vLenSl v8x5) fun v9x6 =>
  lpE (fun Q7 σ7 H7 =>
    ob (vInt .lss (σ7 10) (σ7 9)) fun v11x8 =>
    cnd v11x8
      (ob (vIx 1 (σ7 8) (σ7 10)) fun v13x9 =>
    ob (vLoad v13x9 H7) fun v14x10 =>
    ob (vFa 1 (σ7 1)) fun v16x11 =>
    ob (vLoad v16x11 H7) fun v17x12 =>
    ob (vInt .quo (σ7 10) v17x12) fun v18x13 =>
    ob (vFa 1 (σ7 1)) fun v20x14 =>
    ob (vLoad v20x14 H7) fun v21x15 =>
    ob (vInt .rem (σ7 10) v21x15) fun v22x16 =>
    ob (vInt .eql v14x10 (.int .i64 1)) fun v24x17 =>
    gop v24x17 true (fun K18 => K18 v18x13 H7) H7 fun v26x19 H20 =>
    gop v24x17 true (fun K21 => ob (vInt .eql v26x19 (.int .i64 0)) fun u => K21 u H20) H20 fun v27x22 H23 =>
    gop v24x17 true (fun K24 => K24 v27x22 H23) H23 fun v28x25 H26 =>
    gop v28x25 false (fun K27 => K27 v22x16 H26) H26 fun v29x28 H29 =>
    gop v28x25 false (fun K30 => ob (vInt .eql v29x28 (.int .i64 0)) fun u => K30 u H29) H29 fun v30x31 H32 =>
    gop v24x17 true (fun K33 => ob (vPick v28x25 (.bool true) v30x31) fun u => K33 u H32) H32 fun v31x34 H35 =>
    gop v24x17 true (fun K36 => K36 v31x34 H35) H35 fun v32x37 H38 =>
    gop v32x37 false (fun K39 => K39 v18x13 H38) H38 fun v33x40 H41 =>
    gop v32x37 false (fun K42 => ob (vFa 0 (σ7 1)) fun u => K42 u H41) H41 fun v34x43 H44 =>
    gop v32x37 false (fun K45 => ob (vLoad v34x43 H44) fun u => K45 u H44) H44 fun v35x46 H47 =>
    gop v32x37 false (fun K48 => ob (vInt .sub v35x46 (.int .i64 1)) fun u => K48 u H47) H47 fun v36x49 H50 =>
    gop v32x37 false (fun K51 => ob (vInt .eql v33x40 v36x49) fun u => K51 u H50) H50 fun v37x52 H53 =>
    gop v24x17 true (fun K54 => ob (vPick v32x37 (.bool true) v37x52) fun u => K54 u H53) H53 fun v38x55 H56 =>
    gop v24x17 true (fun K57 => K57 v38x55 H56) H56 fun v39x58 H59 =>
    gop v39x58 false (fun K60 => K60 v22x16 H59) H59 fun v40x61 H62 =>
    gop v39x58 false (fun K63 => ob (vFa 1 (σ7 1)) fun u => K63 u H62) H62 fun v41x64 H65 =>
    gop v39x58 false (fun K66 => ob (vLoad v41x64 H65) fun u => K66 u H65) H65 fun v42x67 H68 =>
    gop v39x58 false (fun K69 => ob (vInt .sub v42x67 (.int .i64 1)) fun u => K69 u H68) H68 fun v43x70 H71 =>
    gop v39x58 false (fun K72 => ob (vInt .eql v40x61 v43x70) fun u => K72 u H71) H71 fun v44x73 H74 =>
    gop v24x17 true (fun K75 => ob (vPick v39x58 (.bool true) v44x73) fun u => K75 u H74) H74 fun v45x76 H77 =>
    ob (vPick v24x17 v45x76 (.bool false)) fun v46x78 =>
    cnd v46x78
      (Q7 .ret (up (up (up (up (up (up (up (up (up (up (up (up (up (up (up (up (up (up (up (up (up (up (up (up (up (up (up (up (up (up (up (up (up (up (up (up (up (up (up (up (up σ7 11 v11x8) 12 (σ7 10)) 13 v13x9) 14 v14x10) 3 (σ7 10)) 4 v14x10) 15 (σ7 10)) 16 v16x11) 17 v17x12) 18 v18x13) 19 (σ7 10)) 20 v20x14) 21 v21x15) 22 v22x16) 5 v18x13) 6 v22x16) 23 v14x10) 24 v24x17) 25 v24x17) 26 v26x19) 27 v27x22) 28 v28x25) 29 v29x28) 30 v30x31) 31 v31x34) 32 v32x37) 33 v33x40) 34 v34x43) 35 v35x46) 36 v36x49) 37 v37x52) 38 v38x55) 39 v39x58) 40 v40x61) 41 v41x64) 42 v42x67) 43 v43x70) 44 v44x73) 45 v45x76) 46 v46x78) 2 (.bool true)) H77)
      (ob (vInt .add (σ7 10) (.int .i64 1)) fun v47x79 =>
    Q7 .normal (up (up (up (up (up (up (up (up (up (up (up (up (up (up (up (up (up (up (up (up (up (up (up (up (up (up (up (up (up (up (up (up (up (up (up (up (up (up (up (up (up (up σ7 11 v11x8) 12 (σ7 10)) 13 v13x9) 14 v14x10) 3 (σ7 10)) 4 v14x10) 15 (σ7 10)) 16 v16x11) 17 v17x12) 18 v18x13) 19 (σ7 10)) 20 v20x14) 21 v21x15) 22 v22x16) 5 v18x13) 6 v22x16) 23 v14x10) 24 v24x17) 25 v24x17) 26 v26x19) 27 v27x22) 28 v28x25) 29 v29x28) 30 v30x31) 31 v31x34) 32 v32x37) 33 v33x40) 34 v34x43) 35 v35x46) 36 v36x49) 37 v37x52) 38 v38x55) 39 v39x58) 40 v40x61) 41 v41x64) 42 v42x67) 43 v43x70) 44 v44x73) 45 v45x76) 46 v46x78) 47 v47x79) 10 v47x79) H77))
      (Q7 (.exit 0) (up σ7 11 v11x8) H7)) (blkQ 0 (thenQ J3 (retQ prg [(.tmp 2)] K))) (up (up (up (up (up (up (S0 [a0]) 1 v1x1) 2 (.bool false)) 7 v7x4) 8 v8x5) 9 v9x6) 10 (.int .i64 0)) H2
def O.impl_Field_onBorder : Nat → Nat × List Nat := fun i => bif Nat.beq i 4 then (0, [0, 1, 2, 3, 4, 5, 6, 7, 8, 9]) else (0, [])
theorem R.impl_Field_onBorder {a0 : Value} {H : Hp} {K : Value → Hp → Prop} (h : F.impl_Field_onBorder a0 H K) : HT prg I.impl_Field_onBorder [a0].toArray H K :=
  HT_of_fev O.impl_Field_onBorder mixed Try.func98 (by kernel_rfl) (Eq.mpr (by kernel_rfl : fev prg O.impl_Field_onBorder Try.f98 [a0] H K = F.impl_Field_onBorder a0 H K) h)

/-! loop.example/g01381/impl.ShipOf: function 51 -/
def F.impl_ShipOf (a0 a1 a2 : Value) (H : Hp) (K : Value → Hp → Prop) : Prop :=
  nw (a0 : Value).cells 32 H fun v3x1 H2 =>
  nw (a1 : Value).cells 29 H2 fun v4x3 H4 =>
  ob (vLoadN 2 v3x1 H4) fun v22x5 =>
  ob (vLoadN 3 v4x3 H4) fun v23x6 =>
  bS 3 1 #[(.int .i64 0), (.int .i64 0), (.slice none 0 0)] 29 [(0, v23x6)] H4 fun v24x7 H8 =>
  HT prg I.impl_lives [v22x5, v24x7].toArray H8 fun v25x9 H10 =>
  ob (vUn .not v25x9) fun v26x11 =>
  gop v26x11 false (fun K12 => K12 a2 H10) H10 fun v28x13 H14 =>
  gop v26x11 false (fun K15 => HT prg I.impl_within [v28x13, (.int .i64 1), (.int .i64 64)].toArray H14 K15) H14 fun v29x16 H17 =>
  gop v26x11 false (fun K18 => ob (vUn .not v29x16) fun u => K18 u H17) H17 fun v30x19 H20 =>
  ob (vPick v26x11 (.bool true) v30x19) fun v31x21 =>
  cnd v31x21
    (K (.tuple #[(.int .i64 0), (.int .i64 0), (.int .i64 0), (.bool false)]) H20)
    ((ob (vFa 0 v4x3) fun v32x22 =>
  ob (vLoad v32x22 H20) fun v33x23 =>
  ob (vInt .sub (.int .i64 24) v33x23) fun v34x24 =>
  ob (vInt .quo v34x24 (.int .i64 2)) fun v35x25 =>
  ob (vFa 1 v4x3) fun v36x26 =>
  ob (vLoad v36x26 H20) fun v37x27 =>
  ob (vInt .sub (.int .i64 24) v37x27) fun v38x28 =>
  ob (vInt .quo v38x28 (.int .i64 2)) fun v39x29 =>
  nw #[(.int .i64 0)] 2 H20 fun v10x30 H31 =>
  nw #[(.int .i64 0)] 2 H31 fun v11x32 H33 =>
  st 1 v10x30 v35x25 H33 fun H34 =>
  st 1 v11x32 v39x29 H34 fun H35 =>
  HT prg I.impl_madeField [(.int .i64 24), (.int .i64 24), (.func (.func I.impl_ShipOf_1) #[] #[v4x3, v10x30, v11x32])].toArray H35 fun v41x36 H37 =>
  nw #[(.int .i64 0), (.int .i64 0), (.slice none 0 0)] 29 H37 fun v12x38 H39 =>
  st 3 v12x38 v41x36 H39 fun H40 =>
  ob (vLoadN 3 v12x38 H40) fun v43x41 =>
  HT prg I.impl_Field_trimmed [v43x41].toArray H40 fun v44x42 H43 =>
  ob (vExt v44x42 0) fun v45x44 =>
  ob (vExt v44x42 1) fun v46x45 =>
  ob (vExt v44x42 2) fun v47x46 =>
  ob (vExt v44x42 3) fun v48x47 =>
  nw #[(.int .i64 0), (.int .i64 0), (.slice none 0 0)] 29 H43 fun v13x48 H49 =>
  st 3 v13x48 v45x44 H49 fun H50 =>
  ob (vUn .not v48x47) fun v50x51 =>
  gop v50x51 false (fun K52 => ob (vLoadN 3 v12x38 H50) fun u => K52 u H50) H50 fun v52x53 H54 =>
  gop v50x51 false (fun K55 => HT prg I.impl_Field_onBorder [v52x53].toArray H54 K55) H54 fun v53x56 H57 =>
  ob (vPick v50x51 (.bool true) v53x56) fun v54x58 =>
  cnd v54x58
    (K (.tuple #[(.int .i64 0), (.int .i64 0), (.int .i64 0), (.bool false)]) H57)
    (jn (fun σ59 H59 =>
    K (.tuple #[(.int .i64 0), (.int .i64 0), (.int .i64 0), (.bool false)]) H59) fun J59 =>
  lpE (fun Q60 σ60 H60 =>
    ob (vInt .leq (σ60 17) (σ60 2)) fun v57x61 =>
    cnd v57x61
      (ob (vLoadN 2 (σ60 3) H60) fun v60x62 =>
    ob (vLoadN 3 (σ60 12) H60) fun v61x63 =>
    HT prg I.impl_Life_step [v60x62, v61x63, (.bool false)].toArray H60 fun v62x64 H65 =>
    st 3 (σ60 12) v62x64 H65 fun H66 =>
    ob (vLoadN 3 (σ60 12) H66) fun v63x67 =>
    HT prg I.impl_Field_onBorder [v63x67].toArray H66 fun v64x68 H69 =>
    cnd v64x68
      (Q60 .ret (up (up (up (up (up (up (up (up (up (up (up (up σ60 55 (σ60 17)) 56 (σ60 2)) 57 v57x61) 60 v60x62) 61 v61x63) 62 v62x64) 63 v63x67) 64 v64x68) 6 (.int .i64 0)) 7 (.int .i64 0)) 8 (.int .i64 0)) 9 (.bool false)) H69)
      (ob (vLoadN 3 (σ60 12) H69) fun v66x70 =>
    HT prg I.impl_Field_trimmed [v66x70].toArray H69 fun v67x71 H72 =>
    ob (vExt v67x71 0) fun v68x73 =>
    ob (vExt v67x71 1) fun v69x74 =>
    ob (vExt v67x71 2) fun v70x75 =>
    ob (vExt v67x71 3) fun v71x76 =>
    nw #[(.int .i64 0), (.int .i64 0), (.slice none 0 0)] 29 H72 fun v18x77 H78 =>
    st 3 v18x77 v68x73 H78 fun H79 =>
    gop v71x76 true (fun K80 => ob (vLoadN 3 v18x77 H79) fun u => K80 u H79) H79 fun v74x81 H82 =>
    gop v71x76 true (fun K83 => ob (vLoadN 3 (σ60 13) H82) fun u => K83 u H82) H82 fun v75x84 H85 =>
    gop v71x76 true (fun K86 => HT prg I.impl_SameField [v74x81, v75x84].toArray H85 K86) H85 fun v76x87 H88 =>
    ob (vPick v71x76 v76x87 (.bool false)) fun v77x89 =>
    cnd v77x89
      (ob (vInt .sub v69x74 (σ60 14)) fun v81x90 =>
      ob (vInt .sub v70x75 (σ60 15)) fun v84x91 =>
      Q60 .ret (up (up (up (up (up (up (up (up (up (up (up (up (up (up (up (up (up (up (up (up (up (up (up (up (up (up (up (up (up (up (up (up (up (up (up (up σ60 55 (σ60 17)) 56 (σ60 2)) 57 v57x61) 60 v60x62) 61 v61x63) 62 v62x64) 63 v63x67) 64 v64x68) 66 v66x70) 67 v67x71) 65 v67x71) 68 v68x73) 69 v69x74) 70 v70x75) 71 v71x76) 18 v18x77) 19 v69x74) 20 v70x75) 21 v71x76) 72 v71x76) 73 v71x76) 74 v74x81) 75 v75x84) 76 v76x87) 77 v77x89) 78 (σ60 17)) 79 v69x74) 80 (σ60 14)) 81 v81x90) 82 v70x75) 83 (σ60 15)) 84 v84x91) 6 (σ60 17)) 7 v81x90) 8 v84x91) 9 (.bool true)) H88)
      (ob (vInt .add (σ60 17) (.int .i64 1)) fun v59x92 =>
    Q60 .normal (up (up (up (up (up (up (up (up (up (up (up (up (up (up (up (up (up (up (up (up (up (up (up (up (up (up (up (up σ60 55 (σ60 17)) 56 (σ60 2)) 57 v57x61) 60 v60x62) 61 v61x63) 62 v62x64) 63 v63x67) 64 v64x68) 66 v66x70) 67 v67x71) 65 v67x71) 68 v68x73) 69 v69x74) 70 v70x75) 71 v71x76) 18 v18x77) 19 v69x74) 20 v70x75) 21 v71x76) 72 v71x76) 73 v71x76) 74 v74x81) 75 v75x84) 76 v76x87) 77 v77x89) 58 (σ60 17)) 59 v59x92) 17 v59x92) H88)))
      (Q60 (.exit 0) (up (up (up σ60 55 (σ60 17)) 56 (σ60 2)) 57 v57x61) H60)) (blkQ 0 (thenQ J59 (retQ prg [(.tmp 6), (.tmp 7), (.tmp 8), (.tmp 9)] K))) (up (up (up (up (up (up (up (up (up (up (up (up (up (up (up (up (up (up (up (up (up (up (up (up (up (up (up (up (up (up (up (up (up (up (up (up (up (up (up (up (up (up (up (up (up (up (up (S0 [a0, a1, a2]) 3 v3x1) 4 v4x3) 6 (.int .i64 0)) 7 (.int .i64 0)) 8 (.int .i64 0)) 9 (.bool false)) 22 v22x5) 23 v23x6) 24 v24x7) 25 v25x9) 26 v26x11) 27 v26x11) 28 v28x13) 29 v29x16) 30 v30x19) 31 v31x21) 32 v32x22) 33 v33x23) 34 v34x24) 35 v35x25) 36 v36x26) 37 v37x27) 38 v38x28) 39 v39x29) 10 v10x30) 11 v11x32) 40 (.func (.func I.impl_ShipOf_1) #[] #[v4x3, v10x30, v11x32])) 41 v41x36) 12 v12x38) 43 v43x41) 44 v44x42) 42 v44x42) 45 v45x44) 46 v46x45) 47 v47x46) 48 v48x47) 13 v13x48) 14 v46x45) 15 v47x46) 16 v48x47) 49 v48x47) 50 v50x51) 51 v50x51) 52 v52x53) 53 v53x56) 54 v54x58) 17 (.int .i64 1)) H57)) ∧ (ob (vFa 0 v4x3) fun v32x93 =>
  ob (vLoad v32x93 H20) fun v33x94 =>
  ob (vInt .sub (.int .i64 24) v33x94) fun v34x95 =>
  ob (vInt .quo v34x95 (.int .i64 2)) fun v35x96 =>
  ob (vFa 1 v4x3) fun v36x97 =>
  nw #[(.int .i64 0)] 2 H20 fun v10x98 H99 =>
  nw #[(.int .i64 0)] 2 H99 fun v11x100 H101 =>
  st 1 v10x98 v35x96 H101 fun H102 =>
  ob (vLoad v36x97 H102) fun v37x103 =>
  ob (vInt .sub (.int .i64 24) v37x103) fun v38x104 =>
  ob (vInt .quo v38x104 (.int .i64 2)) fun v39x105 =>
  st 1 v11x100 v39x105 H102 fun H106 =>
  HT prg I.impl_madeField [(.int .i64 24), (.int .i64 24), (.func (.func I.impl_ShipOf_1) #[] #[v4x3, v10x98, v11x100])].toArray H106 fun v41x107 H108 =>
  nw #[(.int .i64 0), (.int .i64 0), (.slice none 0 0)] 29 H108 fun v12x109 H110 =>
  st 3 v12x109 v41x107 H110 fun H111 =>
  ob (vLoadN 3 v12x109 H111) fun v43x112 =>
  HT prg I.impl_Field_trimmed [v43x112].toArray H111 fun v44x113 H114 =>
  ob (vExt v44x113 0) fun v45x115 =>
  ob (vExt v44x113 1) fun v46x116 =>
  ob (vExt v44x113 2) fun v47x117 =>
  ob (vExt v44x113 3) fun v48x118 =>
  nw #[(.int .i64 0), (.int .i64 0), (.slice none 0 0)] 29 H114 fun v13x119 H120 =>
  st 3 v13x119 v45x115 H120 fun H121 =>
  ob (vUn .not v48x118) fun v50x122 =>
  gop v50x122 false (fun K123 => ob (vLoadN 3 v12x109 H121) fun u => K123 u H121) H121 fun v52x124 H125 =>
  gop v50x122 false (fun K126 => HT prg I.impl_Field_onBorder [v52x124].toArray H125 K126) H125 fun v53x127 H128 =>
  ob (vPick v50x122 (.bool true) v53x127) fun v54x129 =>
  cnd v54x129
    (K (.tuple #[(.int .i64 0), (.int .i64 0), (.int .i64 0), (.bool false)]) H128)
    (jn (fun σ130 H130 =>
    K (.tuple #[(.int .i64 0), (.int .i64 0), (.int .i64 0), (.bool false)]) H130) fun J130 =>
  lpE (fun Q131 σ131 H131 =>
    ob (vInt .leq (σ131 17) (σ131 2)) fun v57x132 =>
    cnd v57x132
      (ob (vLoadN 2 (σ131 3) H131) fun v60x133 =>
    ob (vLoadN 3 (σ131 12) H131) fun v61x134 =>
    HT prg I.impl_Life_step [v60x133, v61x134, (.bool false)].toArray H131 fun v62x135 H136 =>
    st 3 (σ131 12) v62x135 H136 fun H137 =>
    ob (vLoadN 3 (σ131 12) H137) fun v63x138 =>
    HT prg I.impl_Field_onBorder [v63x138].toArray H137 fun v64x139 H140 =>
    cnd v64x139
      (Q131 .ret (up (up (up (up (up (up (up (up (up (up (up (up σ131 55 (σ131 17)) 56 (σ131 2)) 57 v57x132) 60 v60x133) 61 v61x134) 62 v62x135) 63 v63x138) 64 v64x139) 6 (.int .i64 0)) 7 (.int .i64 0)) 8 (.int .i64 0)) 9 (.bool false)) H140)
      (ob (vLoadN 3 (σ131 12) H140) fun v66x141 =>
    HT prg I.impl_Field_trimmed [v66x141].toArray H140 fun v67x142 H143 =>
    ob (vExt v67x142 0) fun v68x144 =>
    ob (vExt v67x142 1) fun v69x145 =>
    ob (vExt v67x142 2) fun v70x146 =>
    ob (vExt v67x142 3) fun v71x147 =>
    nw #[(.int .i64 0), (.int .i64 0), (.slice none 0 0)] 29 H143 fun v18x148 H149 =>
    st 3 v18x148 v68x144 H149 fun H150 =>
    gop v71x147 true (fun K151 => ob (vLoadN 3 v18x148 H150) fun u => K151 u H150) H150 fun v74x152 H153 =>
    gop v71x147 true (fun K154 => ob (vLoadN 3 (σ131 13) H153) fun u => K154 u H153) H153 fun v75x155 H156 =>
    gop v71x147 true (fun K157 => HT prg I.impl_SameField [v74x152, v75x155].toArray H156 K157) H156 fun v76x158 H159 =>
    ob (vPick v71x147 v76x158 (.bool false)) fun v77x160 =>
    cnd v77x160
      (ob (vInt .sub v69x145 (σ131 14)) fun v81x161 =>
      ob (vInt .sub v70x146 (σ131 15)) fun v84x162 =>
      Q131 .ret (up (up (up (up (up (up (up (up (up (up (up (up (up (up (up (up (up (up (up (up (up (up (up (up (up (up (up (up (up (up (up (up (up (up (up (up σ131 55 (σ131 17)) 56 (σ131 2)) 57 v57x132) 60 v60x133) 61 v61x134) 62 v62x135) 63 v63x138) 64 v64x139) 66 v66x141) 67 v67x142) 65 v67x142) 68 v68x144) 69 v69x145) 70 v70x146) 71 v71x147) 18 v18x148) 19 v69x145) 20 v70x146) 21 v71x147) 72 v71x147) 73 v71x147) 74 v74x152) 75 v75x155) 76 v76x158) 77 v77x160) 78 (σ131 17)) 79 v69x145) 80 (σ131 14)) 81 v81x161) 82 v70x146) 83 (σ131 15)) 84 v84x162) 6 (σ131 17)) 7 v81x161) 8 v84x162) 9 (.bool true)) H159)
      (ob (vInt .add (σ131 17) (.int .i64 1)) fun v59x163 =>
    Q131 .normal (up (up (up (up (up (up (up (up (up (up (up (up (up (up (up (up (up (up (up (up (up (up (up (up (up (up (up (up σ131 55 (σ131 17)) 56 (σ131 2)) 57 v57x132) 60 v60x133) 61 v61x134) 62 v62x135) 63 v63x138) 64 v64x139) 66 v66x141) 67 v67x142) 65 v67x142) 68 v68x144) 69 v69x145) 70 v70x146) 71 v71x147) 18 v18x148) 19 v69x145) 20 v70x146) 21 v71x147) 72 v71x147) 73 v71x147) 74 v74x152) 75 v75x155) 76 v76x158) 77 v77x160) 58 (σ131 17)) 59 v59x163) 17 v59x163) H159)))
      (Q131 (.exit 0) (up (up (up σ131 55 (σ131 17)) 56 (σ131 2)) 57 v57x132) H131)) (blkQ 0 (thenQ J130 (retQ prg [(.tmp 6), (.tmp 7), (.tmp 8), (.tmp 9)] K))) (up (up (up (up (up (up (up (up (up (up (up (up (up (up (up (up (up (up (up (up (up (up (up (up (up (up (up (up (up (up (up (up (up (up (up (up (up (up (up (up (up (up (up (up (up (up (up (S0 [a0, a1, a2]) 3 v3x1) 4 v4x3) 6 (.int .i64 0)) 7 (.int .i64 0)) 8 (.int .i64 0)) 9 (.bool false)) 22 v22x5) 23 v23x6) 24 v24x7) 25 v25x9) 26 v26x11) 27 v26x11) 28 v28x13) 29 v29x16) 30 v30x19) 31 v31x21) 32 v32x93) 33 v33x94) 34 v34x95) 35 v35x96) 36 v36x97) 10 v10x98) 11 v11x100) 37 v37x103) 38 v38x104) 39 v39x105) 40 (.func (.func I.impl_ShipOf_1) #[] #[v4x3, v10x98, v11x100])) 41 v41x107) 12 v12x109) 43 v43x112) 44 v44x113) 42 v44x113) 45 v45x115) 46 v46x116) 47 v47x117) 48 v48x118) 13 v13x119) 14 v46x116) 15 v47x117) 16 v48x118) 49 v48x118) 50 v50x122) 51 v50x122) 52 v52x124) 53 v53x127) 54 v54x129) 17 (.int .i64 1)) H128)))
def O.impl_ShipOf : Nat → Nat × List Nat := fun i => bif Nat.beq i 3 then (0, [1005, 1010, 0, 1, 2, 3, 4, 5, 6, 7, 8, 9, 10, 11, 0, 1, 2, 3, 4, 8, 9, 10, 5, 6, 7, 11]) else (0, [])
theorem R.impl_ShipOf {a0 a1 a2 : Value} {H : Hp} {K : Value → Hp → Prop} (h : F.impl_ShipOf a0 a1 a2 H K) : HT prg I.impl_ShipOf [a0, a1, a2].toArray H K :=
  HT_of_fev O.impl_ShipOf mixed Try.func51 (by kernel_rfl) (Eq.mpr (by kernel_rfl : fev prg O.impl_ShipOf Try.f51 [a0, a1, a2] H K = F.impl_ShipOf a0 a1 a2 H K) h)

/-! loop.example/g01381/laws.FnExactShipOf: function 12 -/
def F.laws_FnExactShipOf (a0 a1 a2 : Value) (H : Hp) (K : Value → Hp → Prop) : Prop :=
  nw (a0 : Value).cells 24 H fun v3x1 H2 =>
  nw (a1 : Value).cells 26 H2 fun v4x3 H4 =>
  ob (vLoadN 2 v3x1 H4) fun v18x5 =>
  HT prg I.laws_szLife [v18x5, (.int .i64 1048576)].toArray H4 fun v20x6 H7 =>
  ob (vInt .lss v20x6 (.int .i64 0)) fun v22x8 =>
  cnd v22x8
    (K (.bool true) H7)
    (ob (vLoadN 3 v4x3 H7) fun v23x9 =>
  HT prg I.laws_szField [v23x9, v20x6].toArray H7 fun v25x10 H11 =>
  ob (vInt .lss v25x10 (.int .i64 0)) fun v27x12 =>
  cnd v27x12
    (K (.bool true) H11)
    (ob (vLoadN 2 v3x1 H11) fun v29x13 =>
  ob (vLoadN 3 v4x3 H11) fun v31x14 =>
  HT prg I.laws_toLife [v29x13].toArray H11 fun v30x15 H16 =>
  Le H11 H16 ∧ (HT prg I.laws_toField [v31x14].toArray H16 fun v32x17 H18 =>
  Le H16 H18 ∧ (HT prg I.spec_ShipOf [v30x15, v32x17, a2].toArray H18 fun v34x19 H20 =>
  Le H18 H20 ∧ (ob (vExt v34x19 0) fun v35x21 =>
  ob (vExt v34x19 1) fun v36x22 =>
  ob (vExt v34x19 2) fun v37x23 =>
  ob (vExt v34x19 3) fun v38x24 =>
  ob (vLoadN 2 v3x1 H20) fun v39x25 =>
  HT prg I.laws_toLife [v39x25].toArray H20 fun v40x26 H27 =>
  nw #[(.slice none 0 0), (.slice none 0 0)] 32 H27 fun v12x28 H29 =>
  st 2 v12x28 v40x26 H29 fun H30 =>
  ob (vLoadN 3 v4x3 H30) fun v41x31 =>
  HT prg I.laws_toField [v41x31].toArray H30 fun v42x32 H33 =>
  nw #[(.int .i64 0), (.int .i64 0), (.slice none 0 0)] 29 H33 fun v13x34 H35 =>
  st 3 v13x34 v42x32 H35 fun H36 =>
  ob (vLoadN 2 v12x28 H36) fun v44x37 =>
  ob (vLoadN 3 v13x34 H36) fun v45x38 =>
  HT prg I.impl_ShipOf [v44x37, v45x38, a2].toArray H36 fun v47x39 H40 =>
  ob (vExt v47x39 0) fun v48x41 =>
  ob (vExt v47x39 1) fun v49x42 =>
  ob (vExt v47x39 2) fun v50x43 =>
  ob (vExt v47x39 3) fun v51x44 =>
  ob (vInt .neq v48x41 v35x21) fun v54x45 =>
  gop v54x45 false (fun K46 => K46 v49x42 H40) H40 fun v56x47 H48 =>
  gop v54x45 false (fun K49 => K49 v36x22 H48) H48 fun v57x50 H51 =>
  gop v54x45 false (fun K52 => ob (vInt .neq v56x47 v57x50) fun u => K52 u H51) H51 fun v58x53 H54 =>
  ob (vPick v54x45 (.bool true) v58x53) fun v59x55 =>
  gop v59x55 false (fun K56 => K56 v50x43 H54) H54 fun v61x57 H58 =>
  gop v59x55 false (fun K59 => K59 v37x23 H58) H58 fun v62x60 H61 =>
  gop v59x55 false (fun K62 => ob (vInt .neq v61x57 v62x60) fun u => K62 u H61) H61 fun v63x63 H64 =>
  ob (vPick v59x55 (.bool true) v63x63) fun v64x65 =>
  gop v64x65 false (fun K66 => K66 v51x44 H64) H64 fun v66x67 H68 =>
  gop v64x65 false (fun K69 => K69 v38x24 H68) H68 fun v67x70 H71 =>
  gop v64x65 false (fun K72 => ob (vBool .neq v66x67 v67x70) fun u => K72 u H71) H71 fun v68x73 H74 =>
  ob (vPick v64x65 (.bool true) v68x73) fun v69x75 =>
  cnd v69x75
    (K (.bool false) H74)
    (ob (vLoadN 2 v12x28 H74) fun v70x76 =>
  ob (vLoadN 2 v3x1 H74) fun v71x77 =>
  HT prg I.laws_toLife [v71x77].toArray H74 fun v72x78 H79 =>
  Le H74 H79 ∧ (HT prg I.laws_eqLife [v70x76, v72x78].toArray H79 fun v73x80 H81 =>
  Le H79 H81 ∧ (ob (vUn .not v73x80) fun v74x82 =>
  cnd v74x82
    (K (.bool false) H81)
    (ob (vLoadN 3 v13x34 H81) fun v75x83 =>
  ob (vLoadN 3 v4x3 H81) fun v76x84 =>
  HT prg I.laws_toField [v76x84].toArray H81 fun v77x85 H86 =>
  Le H81 H86 ∧ (HT prg I.laws_eqField [v75x83, v77x85].toArray H86 fun v78x87 H88 =>
  Le H86 H88 ∧ (ob (vUn .not v78x87) fun v79x89 =>
  cnd v79x89
    (K (.bool false) H88)
    (K (.bool true) H88))))))))))))
def O.laws_FnExactShipOf : Nat → Nat × List Nat := fun i => bif Nat.beq i 8 then (0, [0, 2, 4, 1, 3, 5, 6, 7, 8, 9, 10, 11, 12, 13, 14]) else bif Nat.beq i 14 then (0, [0, 1, 2, 3, 4]) else bif Nat.beq i 16 then (0, [0, 1, 2, 3, 4]) else (0, [])
theorem R.laws_FnExactShipOf {a0 a1 a2 : Value} {H : Hp} {K : Value → Hp → Prop} (h : F.laws_FnExactShipOf a0 a1 a2 H K) : HT prg I.laws_FnExactShipOf [a0, a1, a2].toArray H K :=
  HT_of_fev O.laws_FnExactShipOf mixed Try.func12 (by kernel_rfl) (Eq.mpr (by kernel_rfl : fev prg O.laws_FnExactShipOf Try.f12 [a0, a1, a2] H K = F.laws_FnExactShipOf a0 a1 a2 H K) h)

/-! loop.example/g01381/spec.l02Share: function 99 -/
def F.spec_l02Share (a0 : Value) (H : Hp) (K : Value → Hp → Prop) : Prop :=
  ob (vFcmp .geq a0 (.float .f32 0)) fun v4x1 =>
  gop v4x1 true (fun K2 => K2 a0 H) H fun v6x3 H4 =>
  gop v4x1 true (fun K5 => ob (vFcmp .leq v6x3 (.float .f32 1065353216)) fun u => K5 u H4) H4 fun v7x6 H7 =>
  ob (vPick v4x1 v7x6 (.bool false)) fun v8x8 =>
  K v8x8 H7
def O.spec_l02Share : Nat → Nat × List Nat := fun i => (0, [])
theorem R.spec_l02Share {a0 : Value} {H : Hp} {K : Value → Hp → Prop} (h : F.spec_l02Share a0 H K) : HT prg I.spec_l02Share [a0].toArray H K :=
  HT_of_fev O.spec_l02Share mixed Try.func99 (by kernel_rfl) (Eq.mpr (by kernel_rfl : fev prg O.spec_l02Share Try.f99 [a0] H K = F.spec_l02Share a0 H K) h)

/-! loop.example/g01381/spec.l04Sides: function 145 -/
def F.spec_l04Sides (a0 a1 : Value) (H : Hp) (K : Value → Hp → Prop) : Prop :=
  HT prg I.spec_l00In [a0, (.int .i64 1), (.int .i64 24)].toArray H fun v6x1 H2 =>
  gop v6x1 true (fun K3 => K3 a1 H2) H2 fun v8x4 H5 =>
  gop v6x1 true (fun K6 => HT prg I.spec_l00In [v8x4, (.int .i64 1), (.int .i64 24)].toArray H5 K6) H5 fun v9x7 H8 =>
  ob (vPick v6x1 v9x7 (.bool false)) fun v10x9 =>
  K v10x9 H8
def O.spec_l04Sides : Nat → Nat × List Nat := fun i => (0, [])
theorem R.spec_l04Sides {a0 a1 : Value} {H : Hp} {K : Value → Hp → Prop} (h : F.spec_l04Sides a0 a1 H K) : HT prg I.spec_l04Sides [a0, a1].toArray H K :=
  HT_of_fev O.spec_l04Sides mixed Try.func145 (by kernel_rfl) (Eq.mpr (by kernel_rfl : fev prg O.spec_l04Sides Try.f145 [a0, a1] H K = F.spec_l04Sides a0 a1 H K) h)

/-! loop.example/g01381/spec.DrawField: function 135 -/
def F.spec_DrawField (a0 a1 a2 a3 : Value) (H : Hp) (K : Value → Hp → Prop) : Prop :=
  nw #[(.int .i64 0), (.int .i64 0), (.slice none 0 0)] 29 H fun v8x1 H2 =>
  HT prg I.spec_l04Sides [a0, a1].toArray H2 fun v15x3 H4 =>
  ob (vUn .not v15x3) fun v16x5 =>
  gop v16x5 false (fun K6 => K6 a2 H4) H4 fun v18x7 H8 =>
  gop v16x5 false (fun K9 => HT prg I.spec_l02Share [v18x7].toArray H8 K9) H8 fun v19x10 H11 =>
  gop v16x5 false (fun K12 => ob (vUn .not v19x10) fun u => K12 u H11) H11 fun v20x13 H14 =>
  ob (vPick v16x5 (.bool true) v20x13) fun v21x15 =>
  gop v21x15 false (fun K16 => K16 a3 H14) H14 fun v23x17 H18 =>
  gop v21x15 false (fun K19 => HT prg I.spec_l00In [v23x17, (.int .i64 0), (.int .i64 4294967295)].toArray H18 K19) H18 fun v24x20 H21 =>
  gop v21x15 false (fun K22 => ob (vUn .not v24x20) fun u => K22 u H21) H21 fun v25x23 H24 =>
  ob (vPick v21x15 (.bool true) v25x23) fun v26x25 =>
  cnd v26x25
    (ob (vBuild [(0, 1), (1, 1), (2, 1)] (.agg #[(.int .i64 0), (.int .i64 0), (.slice none 0 0)]) []) fun v27x26 =>
    st 3 v8x1 v27x26 H24 fun H27 =>
    ob (vLoadN 3 v8x1 H27) fun u28 => K (.tuple #[u28, (.int .i64 0), (.bool false)]) H27)
    (HT prg I.spec_l04New [a0, a1].toArray H24 fun v30x29 H30 =>
  nw #[(.int .i64 0), (.int .i64 0), (.slice none 0 0)] 29 H30 fun v11x31 H32 =>
  st 3 v11x31 v30x29 H32 fun H33 =>
  jn (fun σ34 H34 =>
    ob (vLoadN 3 (σ34 11) H34) fun v52x35 =>
    st 3 (σ34 8) v52x35 H34 fun H36 =>
    ob (vLoadN 3 (σ34 8) H36) fun u37 => K (.tuple #[u37, (σ34 3), (.bool true)]) H36) fun J34 =>
  lpE (fun Q38 σ38 H38 =>
    ob (vFa 2 (σ38 11)) fun v32x39 =>
    ob (vLoad v32x39 H38) fun v33x40 =>
    ob (vLenSl v33x40) fun v34x41 =>
    ob (vInt .lss (σ38 12) v34x41) fun v35x42 =>
    cnd v35x42
      (ob (vInt .mul (.int .i64 1664525) (σ38 3)) fun v39x43 =>
    ob (vInt .add v39x43 (.int .i64 1013904223)) fun v40x44 =>
    ob (vInt .rem v40x44 (.int .i64 4294967296)) fun v41x45 =>
    ob (vInt .quo v41x45 (.int .i64 256)) fun v43x46 =>
    ob (vCF .f32 v43x46) fun v44x47 =>
    fA .quo v44x47 (.float .f32 1266679808) H38 fun v45x48 H49 =>
    ob (vFcmp .lss v45x48 (σ38 2)) fun v47x50 =>
    cnd v47x50
      (ob (vFa 2 (σ38 11)) fun v48x51 =>
      ob (vLoad v48x51 H49) fun v49x52 =>
      ob (vIx 1 v49x52 (σ38 12)) fun v51x53 =>
      st 1 v51x53 (.int .i64 1) H49 fun H54 =>
      ob (vInt .add (σ38 12) (.int .i64 1)) fun v37x55 =>
    Q38 .normal (up (up (up (up (up (up (up (up (up (up (up (up (up (up (up (up (up (up (up (up (up (up (up σ38 31 (σ38 12)) 32 v32x39) 33 v33x40) 34 v34x41) 35 v35x42) 38 (σ38 3)) 39 v39x43) 40 v40x44) 41 v41x45) 3 v41x45) 42 v41x45) 43 v43x46) 44 v44x47) 45 v45x48) 46 (σ38 2)) 47 v47x50) 48 v48x51) 49 v49x52) 50 (σ38 12)) 51 v51x53) 36 (σ38 12)) 37 v37x55) 12 v37x55) H54)
      (ob (vInt .add (σ38 12) (.int .i64 1)) fun v37x56 =>
    Q38 .normal (up (up (up (up (up (up (up (up (up (up (up (up (up (up (up (up (up (up (up σ38 31 (σ38 12)) 32 v32x39) 33 v33x40) 34 v34x41) 35 v35x42) 38 (σ38 3)) 39 v39x43) 40 v40x44) 41 v41x45) 3 v41x45) 42 v41x45) 43 v43x46) 44 v44x47) 45 v45x48) 46 (σ38 2)) 47 v47x50) 36 (σ38 12)) 37 v37x56) 12 v37x56) H49))
      (Q38 (.exit 0) (up (up (up (up (up σ38 31 (σ38 12)) 32 v32x39) 33 v33x40) 34 v34x41) 35 v35x42) H38)) (blkQ 0 (thenQ J34 (retQ prg [(.cell 8 29), (.tmp 9), (.tmp 10)] K))) (up (up (up (up (up (up (up (up (up (up (up (up (up (up (up (up (up (up (up (up (up (up (S0 [a0, a1, a2, a3]) 8 v8x1) 9 (.int .i64 0)) 10 (.bool false)) 13 a0) 14 a1) 15 v15x3) 16 v16x5) 17 v16x5) 18 v18x7) 19 v19x10) 20 v20x13) 21 v21x15) 22 v21x15) 23 v23x17) 24 v24x20) 25 v25x23) 26 v26x25) 28 a0) 29 a1) 30 v30x29) 11 v11x31) 12 (.int .i64 0)) H33)
def O.spec_DrawField : Nat → Nat × List Nat := fun i => (0, [])
theorem R.spec_DrawField {a0 a1 a2 a3 : Value} {H : Hp} {K : Value → Hp → Prop} (h : F.spec_DrawField a0 a1 a2 a3 H K) : HT prg I.spec_DrawField [a0, a1, a2, a3].toArray H K :=
  HT_of_fev O.spec_DrawField mixed Try.func135 (by kernel_rfl) (Eq.mpr (by kernel_rfl : fev prg O.spec_DrawField Try.f135 [a0, a1, a2, a3] H K = F.spec_DrawField a0 a1 a2 a3 H K) h)

/-! loop.example/g01381/spec.l05Soup: function 100 -/
def F.spec_l05Soup (a0 a1 a2 a3 a4 : Value) (H : Hp) (K : Value → Hp → Prop) : Prop :=
  nw #[(.int .i64 0), (.int .i64 0), (.slice none 0 0)] 29 H fun v10x1 H2 =>
  HT prg I.spec_l04Life [a0].toArray H2 fun v17x3 H4 =>
  ob (vUn .not v17x3) fun v18x5 =>
  gop v18x5 false (fun K6 => K6 a4 H4) H4 fun v20x7 H8 =>
  gop v18x5 false (fun K9 => HT prg I.spec_l00In [v20x7, (.int .i64 0), (.int .i64 64)].toArray H8 K9) H8 fun v21x10 H11 =>
  gop v18x5 false (fun K12 => ob (vUn .not v21x10) fun u => K12 u H11) H11 fun v22x13 H14 =>
  ob (vPick v18x5 (.bool true) v22x13) fun v23x15 =>
  cnd v23x15
    (ob (vBuild [(0, 1), (1, 1), (2, 1)] (.agg #[(.int .i64 0), (.int .i64 0), (.slice none 0 0)]) []) fun v24x16 =>
    st 3 v10x1 v24x16 H14 fun H17 =>
    ob (vLoadN 3 v10x1 H17) fun u18 => K (.tuple #[u18, (.int .i64 0), (.bool false)]) H17)
    (HT prg I.spec_DrawField [a1, a1, a2, a3].toArray H14 fun v30x19 H20 =>
  ob (vExt v30x19 0) fun v31x21 =>
  ob (vExt v30x19 1) fun v32x22 =>
  ob (vExt v30x19 2) fun v33x23 =>
  nw #[(.int .i64 0), (.int .i64 0), (.slice none 0 0)] 29 H20 fun v13x24 H25 =>
  st 3 v13x24 v31x21 H25 fun H26 =>
  ob (vUn .not v33x23) fun v35x27 =>
  cnd v35x27
    (ob (vBuild [(0, 1), (1, 1), (2, 1)] (.agg #[(.int .i64 0), (.int .i64 0), (.slice none 0 0)]) []) fun v36x28 =>
    st 3 v10x1 v36x28 H26 fun H29 =>
    ob (vLoadN 3 v10x1 H29) fun u30 => K (.tuple #[u30, (.int .i64 0), (.bool false)]) H29)
    (HT prg I.spec_l04Run [a0, v13x24, (.bool true), a4].toArray H26 fun v39x31 H32 =>
  st 3 v10x1 v39x31 H32 fun H33 =>
  ob (vLoadN 3 v10x1 H33) fun u34 => K (.tuple #[u34, v32x22, (.bool true)]) H33))
def O.spec_l05Soup : Nat → Nat × List Nat := fun i => (0, [])
theorem R.spec_l05Soup {a0 a1 a2 a3 a4 : Value} {H : Hp} {K : Value → Hp → Prop} (h : F.spec_l05Soup a0 a1 a2 a3 a4 H K) : HT prg I.spec_l05Soup [a0, a1, a2, a3, a4].toArray H K :=
  HT_of_fev O.spec_l05Soup mixed Try.func100 (by kernel_rfl) (Eq.mpr (by kernel_rfl : fev prg O.spec_l05Soup Try.f100 [a0, a1, a2, a3, a4] H K = F.spec_l05Soup a0 a1 a2 a3 a4 H K) h)

/-! loop.example/g01381/spec.SoupsShared: function 52 -/
def F.spec_SoupsShared (a0 a1 a2 a3 a4 a5 : Value) (H : Hp) (K : Value → Hp → Prop) : Prop :=
  nw (a0 : Value).cells 32 H fun v6x1 H2 =>
  HT prg I.spec_l04Life [v6x1].toArray H2 fun v19x3 H4 =>
  ob (vUn .not v19x3) fun v20x5 =>
  gop v20x5 false (fun K6 => K6 a1 H4) H4 fun v22x7 H8 =>
  gop v20x5 false (fun K9 => HT prg I.spec_l00In [v22x7, (.int .i64 1), (.int .i64 24)].toArray H8 K9) H8 fun v23x10 H11 =>
  gop v20x5 false (fun K12 => ob (vUn .not v23x10) fun u => K12 u H11) H11 fun v24x13 H14 =>
  ob (vPick v20x5 (.bool true) v24x13) fun v25x15 =>
  gop v25x15 false (fun K16 => K16 a2 H14) H14 fun v27x17 H18 =>
  gop v25x15 false (fun K19 => HT prg I.spec_l02Share [v27x17].toArray H18 K19) H18 fun v28x20 H21 =>
  gop v25x15 false (fun K22 => ob (vUn .not v28x20) fun u => K22 u H21) H21 fun v29x23 H24 =>
  ob (vPick v25x15 (.bool true) v29x23) fun v30x25 =>
  gop v30x25 false (fun K26 => K26 a4 H24) H24 fun v32x27 H28 =>
  gop v30x25 false (fun K29 => HT prg I.spec_l00In [v32x27, (.int .i64 0), (.int .i64 64)].toArray H28 K29) H28 fun v33x30 H31 =>
  gop v30x25 false (fun K32 => ob (vUn .not v33x30) fun u => K32 u H31) H31 fun v34x33 H34 =>
  ob (vPick v30x25 (.bool true) v34x33) fun v35x35 =>
  gop v35x35 false (fun K36 => K36 a3 H34) H34 fun v37x37 H38 =>
  gop v35x35 false (fun K39 => ob (vLenSl v37x37) fun u => K39 u H38) H38 fun v38x40 H41 =>
  gop v35x35 false (fun K42 => ob (vInt .gtr v38x40 (.int .i64 16)) fun u => K42 u H41) H41 fun v39x43 H44 =>
  ob (vPick v35x35 (.bool true) v39x43) fun v40x45 =>
  gop v40x45 false (fun K46 => K46 a5 H44) H44 fun v42x47 H48 =>
  gop v40x45 false (fun K49 => HT prg I.spec_l00In [v42x47, (.int .i64 1), (.int .i64 8)].toArray H48 K49) H48 fun v43x50 H51 =>
  gop v40x45 false (fun K52 => ob (vUn .not v43x50) fun u => K52 u H51) H51 fun v44x53 H54 =>
  ob (vPick v40x45 (.bool true) v44x53) fun v45x55 =>
  cnd v45x55
    (K (.tuple #[(.slice none 0 0), (.bool false)]) H54)
    (bS 1 0 #[(.int .i64 0)] 2 [] H54 fun v46x56 H57 =>
  jn (fun σ58 H58 =>
    K (.tuple #[(σ58 14), (.bool true)]) H58) fun J58 =>
  ob (vLenSl a3) fun v48x59 =>
  lpE (fun Q60 σ60 H60 =>
    ob (vInt .lss (σ60 49) (σ60 48)) fun v50x61 =>
    cnd v50x61
      (ob (vIx 1 (σ60 3) (σ60 49)) fun v57x62 =>
    ob (vLoad v57x62 H60) fun v58x63 =>
    HT prg I.spec_l05Soup [(σ60 6), (σ60 1), (σ60 2), v58x63, (σ60 4)].toArray H60 fun v60x64 H65 =>
    ob (vExt v60x64 0) fun v61x66 =>
    ob (vExt v60x64 1) fun v62x67 =>
    ob (vExt v60x64 2) fun v63x68 =>
    nw #[(.int .i64 0), (.int .i64 0), (.slice none 0 0)] 29 H65 fun v16x69 H70 =>
    st 3 v16x69 v61x66 H70 fun H71 =>
    ob (vUn .not v63x68) fun v65x72 =>
    cnd v65x72
      (Q60 .ret (up (up (up (up (up (up (up (up (up (up (up (up (up (up (up (up (up (up (up (up (up (up σ60 50 v50x61) 51 (σ60 49)) 15 (σ60 49)) 53 (σ60 1)) 54 (σ60 2)) 55 (σ60 3)) 56 (σ60 49)) 57 v57x62) 58 v58x63) 59 (σ60 4)) 60 v60x64) 52 v60x64) 61 v61x66) 62 v62x67) 63 v63x68) 16 v16x69) 17 v62x67) 18 v63x68) 64 v63x68) 65 v65x72) 12 (.slice none 0 0)) 13 (.bool false)) H71)
      (HT prg I.spec_l05Ones [v16x69].toArray H71 fun v67x73 H74 =>
    bS 1 1 #[(.int .i64 0)] 2 [(0, v67x73)] H74 fun v68x75 H76 =>
    apd 1 8 #[(.int .i64 0)] 2 (σ60 14) v68x75 H76 fun v69x77 H78 =>
    ob (vInt .add (σ60 49) (.int .i64 1)) fun v70x79 =>
    Q60 .normal (up (up (up (up (up (up (up (up (up (up (up (up (up (up (up (up (up (up (up (up (up (up (up (up (up (up (up σ60 50 v50x61) 51 (σ60 49)) 15 (σ60 49)) 53 (σ60 1)) 54 (σ60 2)) 55 (σ60 3)) 56 (σ60 49)) 57 v57x62) 58 v58x63) 59 (σ60 4)) 60 v60x64) 52 v60x64) 61 v61x66) 62 v62x67) 63 v63x68) 16 v16x69) 17 v62x67) 18 v63x68) 64 v63x68) 65 v65x72) 66 (σ60 14)) 67 v67x73) 68 v68x75) 69 v69x77) 14 v69x77) 70 v70x79) 49 v70x79) H78))
      (Q60 (.exit 0) (up σ60 50 v50x61) H60)) (blkQ 0 (thenQ J58 (retQ prg [(.tmp 12), (.tmp 13)] K))) (up (up (up (up (up (up (up (up (up (up (up (up (up (up (up (up (up (up (up (up (up (up (up (up (up (up (up (up (up (up (up (up (up (up (up (S0 [a0, a1, a2, a3, a4, a5]) 6 v6x1) 12 (.slice none 0 0)) 13 (.bool false)) 19 v19x3) 20 v20x5) 21 v20x5) 22 v22x7) 23 v23x10) 24 v24x13) 25 v25x15) 26 v25x15) 27 v27x17) 28 v28x20) 29 v29x23) 30 v30x25) 31 v30x25) 32 v32x27) 33 v33x30) 34 v34x33) 35 v35x35) 36 v35x35) 37 v37x37) 38 v38x40) 39 v39x43) 40 v40x45) 41 v40x45) 42 v42x47) 43 v43x50) 44 v44x53) 45 v45x55) 46 v46x56) 14 v46x56) 47 a3) 48 v48x59) 49 (.int .i64 0)) H57)
def O.spec_SoupsShared : Nat → Nat × List Nat := fun i => (0, [])
theorem R.spec_SoupsShared {a0 a1 a2 a3 a4 a5 : Value} {H : Hp} {K : Value → Hp → Prop} (h : F.spec_SoupsShared a0 a1 a2 a3 a4 a5 H K) : HT prg I.spec_SoupsShared [a0, a1, a2, a3, a4, a5].toArray H K :=
  HT_of_fev O.spec_SoupsShared mixed Try.func52 (by kernel_rfl) (Eq.mpr (by kernel_rfl : fev prg O.spec_SoupsShared Try.f52 [a0, a1, a2, a3, a4, a5] H K = F.spec_SoupsShared a0 a1 a2 a3 a4 a5 H K) h)

/-! loop.example/g01381/impl.isShare: function 102 -/
def F.impl_isShare (a0 : Value) (H : Hp) (K : Value → Hp → Prop) : Prop :=
  ob (vFcmp .geq a0 (.float .f32 0)) fun v4x1 =>
  gop v4x1 true (fun K2 => K2 a0 H) H fun v6x3 H4 =>
  gop v4x1 true (fun K5 => ob (vFcmp .leq v6x3 (.float .f32 1065353216)) fun u => K5 u H4) H4 fun v7x6 H7 =>
  ob (vPick v4x1 v7x6 (.bool false)) fun v8x8 =>
  K v8x8 H7
def O.impl_isShare : Nat → Nat × List Nat := fun i => (0, [])
theorem R.impl_isShare {a0 : Value} {H : Hp} {K : Value → Hp → Prop} (h : F.impl_isShare a0 H K) : HT prg I.impl_isShare [a0].toArray H K :=
  HT_of_fev O.impl_isShare mixed Try.func102 (by kernel_rfl) (Eq.mpr (by kernel_rfl : fev prg O.impl_isShare Try.f102 [a0] H K = F.impl_isShare a0 H K) h)

/-! loop.example/g01381/impl.isSeed: function 146 -/
def F.impl_isSeed (a0 : Value) (H : Hp) (K : Value → Hp → Prop) : Prop :=
  HT prg I.impl_within [a0, (.int .i64 0), (.int .i64 4294967295)].toArray H fun v4x1 H2 =>
  K v4x1 H2
def O.impl_isSeed : Nat → Nat × List Nat := fun i => (0, [])
theorem R.impl_isSeed {a0 : Value} {H : Hp} {K : Value → Hp → Prop} (h : F.impl_isSeed a0 H K) : HT prg I.impl_isSeed [a0].toArray H K :=
  HT_of_fev O.impl_isSeed mixed Try.func146 (by kernel_rfl) (Eq.mpr (by kernel_rfl : fev prg O.impl_isSeed Try.f146 [a0] H K = F.impl_isSeed a0 H K) h)

/-! loop.example/g01381/impl.nextSeed: function 148 -/
def F.impl_nextSeed (a0 : Value) (H : Hp) (K : Value → Hp → Prop) : Prop :=
  ob (vInt .mul (.int .i64 1664525) a0) fun v4x1 =>
  ob (vInt .add v4x1 (.int .i64 1013904223)) fun v5x2 =>
  ob (vInt .rem v5x2 (.int .i64 4294967296)) fun v6x3 =>
  K v6x3 H
def O.impl_nextSeed : Nat → Nat × List Nat := fun i => (0, [])
theorem R.impl_nextSeed {a0 : Value} {H : Hp} {K : Value → Hp → Prop} (h : F.impl_nextSeed a0 H K) : HT prg I.impl_nextSeed [a0].toArray H K :=
  HT_of_fev O.impl_nextSeed mixed Try.func148 (by kernel_rfl) (Eq.mpr (by kernel_rfl : fev prg O.impl_nextSeed Try.f148 [a0] H K = F.impl_nextSeed a0 H K) h)

/-! loop.example/g01381/impl.shareOf: function 149 -/
def F.impl_shareOf (a0 : Value) (H : Hp) (K : Value → Hp → Prop) : Prop :=
  ob (vInt .quo a0 (.int .i64 256)) fun v4x1 =>
  ob (vCF .f32 v4x1) fun v5x2 =>
  fA .quo v5x2 (.float .f32 1266679808) H fun v6x3 H4 =>
  K v6x3 H4
def O.impl_shareOf : Nat → Nat × List Nat := fun i => (0, [])
theorem R.impl_shareOf {a0 : Value} {H : Hp} {K : Value → Hp → Prop} (h : F.impl_shareOf a0 H K) : HT prg I.impl_shareOf [a0].toArray H K :=
  HT_of_fev O.impl_shareOf mixed Try.func149 (by kernel_rfl) (Eq.mpr (by kernel_rfl : fev prg O.impl_shareOf Try.f149 [a0] H K = F.impl_shareOf a0 H K) h)

/-! loop.example/g01381/impl.DrawField$1: function 147 -/
def F.impl_DrawField_1 (a0 a1 a2 a3 : Value) (H : Hp) (K : Value → Hp → Prop) : Prop :=
  ob (vLoad a2 H) fun v7x1 =>
  HT prg I.impl_nextSeed [v7x1].toArray H fun v8x2 H3 =>
  st 1 a2 v8x2 H3 fun H4 =>
  ob (vLoad a2 H4) fun v9x5 =>
  ob (vLoad a3 H4) fun v11x6 =>
  HT prg I.impl_shareOf [v9x5].toArray H4 fun v10x7 H8 =>
  Le H4 H8 ∧ (ob (vFcmp .lss v10x7 v11x6) fun v12x9 =>
  HT prg I.impl_bit [v12x9].toArray H8 fun v13x10 H11 =>
  Le H8 H11 ∧ (K v13x10 H11))
def O.impl_DrawField_1 : Nat → Nat × List Nat := fun i => bif Nat.beq i 2 then (0, [0, 2, 1, 3, 4, 5]) else (0, [])
theorem R.impl_DrawField_1 {a0 a1 a2 a3 : Value} {H : Hp} {K : Value → Hp → Prop} (h : F.impl_DrawField_1 a0 a1 a2 a3 H K) : HT prg I.impl_DrawField_1 [a0, a1, a2, a3].toArray H K :=
  HT_of_fev O.impl_DrawField_1 mixed Try.func147 (by kernel_rfl) (Eq.mpr (by kernel_rfl : fev prg O.impl_DrawField_1 Try.f147 [a0, a1, a2, a3] H K = F.impl_DrawField_1 a0 a1 a2 a3 H K) h)

/-! loop.example/g01381/impl.DrawField: function 136 -/
def F.impl_DrawField (a0 a1 a2 a3 : Value) (H : Hp) (K : Value → Hp → Prop) : Prop :=
  nw (a2 : Value).cells 62 H fun v6x1 H2 =>
  nw (a3 : Value).cells 2 H2 fun v7x3 H4 =>
  nw #[(.int .i64 0), (.int .i64 0), (.slice none 0 0)] 29 H4 fun v8x5 H6 =>
  HT prg I.impl_isSide [a0].toArray H6 fun v13x7 H8 =>
  ob (vUn .not v13x7) fun v14x9 =>
  gop v14x9 false (fun K10 => K10 a1 H8) H8 fun v16x11 H12 =>
  gop v14x9 false (fun K13 => HT prg I.impl_isSide [v16x11].toArray H12 K13) H12 fun v17x14 H15 =>
  gop v14x9 false (fun K16 => ob (vUn .not v17x14) fun u => K16 u H15) H15 fun v18x17 H18 =>
  ob (vPick v14x9 (.bool true) v18x17) fun v19x19 =>
  gop v19x19 false (fun K20 => ob (vLoad v6x1 H18) fun u => K20 u H18) H18 fun v21x21 H22 =>
  gop v19x19 false (fun K23 => HT prg I.impl_isShare [v21x21].toArray H22 K23) H22 fun v22x24 H25 =>
  gop v19x19 false (fun K26 => ob (vUn .not v22x24) fun u => K26 u H25) H25 fun v23x27 H28 =>
  ob (vPick v19x19 (.bool true) v23x27) fun v24x29 =>
  gop v24x29 false (fun K30 => ob (vLoad v7x3 H28) fun u => K30 u H28) H28 fun v26x31 H32 =>
  gop v24x29 false (fun K33 => HT prg I.impl_isSeed [v26x31].toArray H32 K33) H32 fun v27x34 H35 =>
  gop v24x29 false (fun K36 => ob (vUn .not v27x34) fun u => K36 u H35) H35 fun v28x37 H38 =>
  ob (vPick v24x29 (.bool true) v28x37) fun v29x39 =>
  cnd v29x39
    (ob (vBuild [(0, 1), (1, 1), (2, 1)] (.agg #[(.int .i64 0), (.int .i64 0), (.slice none 0 0)]) []) fun v30x40 =>
    st 3 v8x5 v30x40 H38 fun H41 =>
    ob (vLoadN 3 v8x5 H41) fun u42 => K (.tuple #[u42, (.int .i64 0), (.bool false)]) H41)
    (HT prg I.impl_madeField [a0, a1, (.func (.func I.impl_DrawField_1) #[] #[v7x3, v6x1])].toArray H38 fun v34x43 H44 =>
  nw #[(.int .i64 0), (.int .i64 0), (.slice none 0 0)] 29 H44 fun v11x45 H46 =>
  st 3 v11x45 v34x43 H46 fun H47 =>
  (ob (vLoadN 3 v11x45 H47) fun v35x48 =>
  ob (vLoad v7x3 H47) fun v36x49 =>
  st 3 v8x5 v35x48 H47 fun H50 =>
  ob (vLoadN 3 v8x5 H50) fun u51 => K (.tuple #[u51, v36x49, (.bool true)]) H50) ∧ (ob (vLoadN 3 v11x45 H47) fun v35x52 =>
  st 3 v8x5 v35x52 H47 fun H53 =>
  ob (vLoad v7x3 H53) fun v36x54 =>
  ob (vLoadN 3 v8x5 H53) fun u55 => K (.tuple #[u55, v36x54, (.bool true)]) H53))
def O.impl_DrawField : Nat → Nat × List Nat := fun i => bif Nat.beq i 4 then (0, [1001, 1002, 0, 1, 2, 3, 4, 0, 2, 1, 3, 4]) else (0, [])
theorem R.impl_DrawField {a0 a1 a2 a3 : Value} {H : Hp} {K : Value → Hp → Prop} (h : F.impl_DrawField a0 a1 a2 a3 H K) : HT prg I.impl_DrawField [a0, a1, a2, a3].toArray H K :=
  HT_of_fev O.impl_DrawField mixed Try.func136 (by kernel_rfl) (Eq.mpr (by kernel_rfl : fev prg O.impl_DrawField Try.f136 [a0, a1, a2, a3] H K = F.impl_DrawField a0 a1 a2 a3 H K) h)

/-! loop.example/g01381/impl.soup: function 103 -/
def F.impl_soup (a0 a1 a2 a3 a4 : Value) (H : Hp) (K : Value → Hp → Prop) : Prop :=
  nw (a0 : Value).cells 32 H fun v5x1 H2 =>
  nw #[(.int .i64 0), (.int .i64 0), (.slice none 0 0)] 29 H2 fun v10x3 H4 =>
  ob (vLoadN 2 v5x1 H4) fun v16x5 =>
  HT prg I.impl_ValidLife [v16x5].toArray H4 fun v17x6 H7 =>
  ob (vUn .not v17x6) fun v18x8 =>
  gop v18x8 false (fun K9 => K9 a4 H7) H7 fun v20x10 H11 =>
  gop v18x8 false (fun K12 => HT prg I.impl_within [v20x10, (.int .i64 0), (.int .i64 64)].toArray H11 K12) H11 fun v21x13 H14 =>
  gop v18x8 false (fun K15 => ob (vUn .not v21x13) fun u => K15 u H14) H14 fun v22x16 H17 =>
  ob (vPick v18x8 (.bool true) v22x16) fun v23x18 =>
  cnd v23x18
    (ob (vBuild [(0, 1), (1, 1), (2, 1)] (.agg #[(.int .i64 0), (.int .i64 0), (.slice none 0 0)]) []) fun v24x19 =>
    st 3 v10x3 v24x19 H17 fun H20 =>
    ob (vLoadN 3 v10x3 H20) fun u21 => K (.tuple #[u21, (.int .i64 0), (.bool false)]) H20)
    (HT prg I.impl_DrawField [a1, a1, a2, a3].toArray H17 fun v30x22 H23 =>
  ob (vExt v30x22 0) fun v31x24 =>
  ob (vExt v30x22 1) fun v32x25 =>
  ob (vExt v30x22 2) fun v33x26 =>
  nw #[(.int .i64 0), (.int .i64 0), (.slice none 0 0)] 29 H23 fun v13x27 H28 =>
  st 3 v13x27 v31x24 H28 fun H29 =>
  ob (vUn .not v33x26) fun v35x30 =>
  cnd v35x30
    (ob (vBuild [(0, 1), (1, 1), (2, 1)] (.agg #[(.int .i64 0), (.int .i64 0), (.slice none 0 0)]) []) fun v36x31 =>
    st 3 v10x3 v36x31 H29 fun H32 =>
    ob (vLoadN 3 v10x3 H32) fun u33 => K (.tuple #[u33, (.int .i64 0), (.bool false)]) H32)
    (ob (vLoadN 2 v5x1 H29) fun v37x34 =>
  ob (vLoadN 3 v13x27 H29) fun v38x35 =>
  HT prg I.impl_Life_run [v37x34, v38x35, (.bool true), a4].toArray H29 fun v40x36 H37 =>
  st 3 v10x3 v40x36 H37 fun H38 =>
  ob (vLoadN 3 v10x3 H38) fun u39 => K (.tuple #[u39, v32x25, (.bool true)]) H38))
def O.impl_soup : Nat → Nat × List Nat := fun i => (0, [])
theorem R.impl_soup {a0 a1 a2 a3 a4 : Value} {H : Hp} {K : Value → Hp → Prop} (h : F.impl_soup a0 a1 a2 a3 a4 H K) : HT prg I.impl_soup [a0, a1, a2, a3, a4].toArray H K :=
  HT_of_fev O.impl_soup mixed Try.func103 (by kernel_rfl) (Eq.mpr (by kernel_rfl : fev prg O.impl_soup Try.f103 [a0, a1, a2, a3, a4] H K = F.impl_soup a0 a1 a2 a3 a4 H K) h)

/-! loop.example/g01381/impl.SoupsShared: function 54 -/
def F.impl_SoupsShared (a0 a1 a2 a3 a4 a5 : Value) (H : Hp) (K : Value → Hp → Prop) : Prop :=
  nw (a0 : Value).cells 32 H fun v6x1 H2 =>
  ob (vLoadN 2 v6x1 H2) fun v20x3 =>
  HT prg I.impl_ValidLife [v20x3].toArray H2 fun v21x4 H5 =>
  ob (vUn .not v21x4) fun v22x6 =>
  gop v22x6 false (fun K7 => K7 a1 H5) H5 fun v24x8 H9 =>
  gop v22x6 false (fun K10 => HT prg I.impl_isSide [v24x8].toArray H9 K10) H9 fun v25x11 H12 =>
  gop v22x6 false (fun K13 => ob (vUn .not v25x11) fun u => K13 u H12) H12 fun v26x14 H15 =>
  ob (vPick v22x6 (.bool true) v26x14) fun v27x16 =>
  gop v27x16 false (fun K17 => K17 a2 H15) H15 fun v29x18 H19 =>
  gop v27x16 false (fun K20 => HT prg I.impl_isShare [v29x18].toArray H19 K20) H19 fun v30x21 H22 =>
  gop v27x16 false (fun K23 => ob (vUn .not v30x21) fun u => K23 u H22) H22 fun v31x24 H25 =>
  ob (vPick v27x16 (.bool true) v31x24) fun v32x26 =>
  gop v32x26 false (fun K27 => K27 a3 H25) H25 fun v34x28 H29 =>
  gop v32x26 false (fun K30 => ob (vLenSl v34x28) fun u => K30 u H29) H29 fun v35x31 H32 =>
  gop v32x26 false (fun K33 => ob (vInt .gtr v35x31 (.int .i64 16)) fun u => K33 u H32) H32 fun v36x34 H35 =>
  ob (vPick v32x26 (.bool true) v36x34) fun v37x36 =>
  gop v37x36 false (fun K37 => K37 a4 H35) H35 fun v39x38 H39 =>
  gop v37x36 false (fun K40 => HT prg I.impl_within [v39x38, (.int .i64 0), (.int .i64 64)].toArray H39 K40) H39 fun v40x41 H42 =>
  gop v37x36 false (fun K43 => ob (vUn .not v40x41) fun u => K43 u H42) H42 fun v41x44 H45 =>
  ob (vPick v37x36 (.bool true) v41x44) fun v42x46 =>
  gop v42x46 false (fun K47 => K47 a5 H45) H45 fun v44x48 H49 =>
  gop v42x46 false (fun K50 => HT prg I.impl_areWorkers [v44x48].toArray H49 K50) H49 fun v45x51 H52 =>
  gop v42x46 false (fun K53 => ob (vUn .not v45x51) fun u => K53 u H52) H52 fun v46x54 H55 =>
  ob (vPick v42x46 (.bool true) v46x54) fun v47x56 =>
  cnd v47x56
    (K (.tuple #[(.slice none 0 0), (.bool false)]) H55)
    (bS 1 0 #[(.int .i64 0)] 2 [] H55 fun v48x57 H58 =>
  jn (fun σ59 H59 =>
    K (.tuple #[(σ59 14), (.bool true)]) H59) fun J59 =>
  ob (vLenSl a3) fun v50x60 =>
  lpE (fun Q61 σ61 H61 =>
    ob (vInt .lss (σ61 51) (σ61 50)) fun v52x62 =>
    cnd v52x62
      (ob (vIx 1 (σ61 49) (σ61 51)) fun v53x63 =>
    ob (vLoad v53x63 H61) fun v54x64 =>
    ob (vLoadN 2 (σ61 6) H61) fun v56x65 =>
    HT prg I.impl_soup [v56x65, (σ61 1), (σ61 2), v54x64, (σ61 4)].toArray H61 fun v61x66 H67 =>
    ob (vExt v61x66 0) fun v62x68 =>
    ob (vExt v61x66 1) fun v63x69 =>
    ob (vExt v61x66 2) fun v64x70 =>
    nw #[(.int .i64 0), (.int .i64 0), (.slice none 0 0)] 29 H67 fun v17x71 H72 =>
    st 3 v17x71 v62x68 H72 fun H73 =>
    ob (vUn .not v64x70) fun v66x74 =>
    cnd v66x74
      (Q61 .ret (up (up (up (up (up (up (up (up (up (up (up (up (up (up (up (up (up (up (up (up (up σ61 52 v52x62) 53 v53x63) 54 v54x64) 16 v54x64) 56 v56x65) 57 (σ61 1)) 58 (σ61 2)) 59 v54x64) 60 (σ61 4)) 61 v61x66) 55 v61x66) 62 v62x68) 63 v63x69) 64 v64x70) 17 v17x71) 18 v63x69) 19 v64x70) 65 v64x70) 66 v66x74) 12 (.slice none 0 0)) 13 (.bool false)) H73)
      (ob (vLoadN 3 v17x71 H73) fun v68x75 =>
    HT prg I.impl_Field_count [v68x75, (.int .i64 1)].toArray H73 fun v69x76 H77 =>
    bS 1 1 #[(.int .i64 0)] 2 [(0, v69x76)] H77 fun v70x78 H79 =>
    apd 1 8 #[(.int .i64 0)] 2 (σ61 14) v70x78 H79 fun v71x80 H81 =>
    ob (vInt .add (σ61 51) (.int .i64 1)) fun v72x82 =>
    Q61 .normal (up (up (up (up (up (up (up (up (up (up (up (up (up (up (up (up (up (up (up (up (up (up (up (up (up (up (up σ61 52 v52x62) 53 v53x63) 54 v54x64) 16 v54x64) 56 v56x65) 57 (σ61 1)) 58 (σ61 2)) 59 v54x64) 60 (σ61 4)) 61 v61x66) 55 v61x66) 62 v62x68) 63 v63x69) 64 v64x70) 17 v17x71) 18 v63x69) 19 v64x70) 65 v64x70) 66 v66x74) 67 (σ61 14)) 68 v68x75) 69 v69x76) 70 v70x78) 71 v71x80) 14 v71x80) 72 v72x82) 51 v72x82) H81))
      (Q61 (.exit 0) (up σ61 52 v52x62) H61)) (blkQ 0 (thenQ J59 (retQ prg [(.tmp 12), (.tmp 13)] K))) (up (up (up (up (up (up (up (up (up (up (up (up (up (up (up (up (up (up (up (up (up (up (up (up (up (up (up (up (up (up (up (up (up (up (up (up (S0 [a0, a1, a2, a3, a4, a5]) 6 v6x1) 12 (.slice none 0 0)) 13 (.bool false)) 20 v20x3) 21 v21x4) 22 v22x6) 23 v22x6) 24 v24x8) 25 v25x11) 26 v26x14) 27 v27x16) 28 v27x16) 29 v29x18) 30 v30x21) 31 v31x24) 32 v32x26) 33 v32x26) 34 v34x28) 35 v35x31) 36 v36x34) 37 v37x36) 38 v37x36) 39 v39x38) 40 v40x41) 41 v41x44) 42 v42x46) 43 v42x46) 44 v44x48) 45 v45x51) 46 v46x54) 47 v47x56) 48 v48x57) 14 v48x57) 49 a3) 50 v50x60) 51 (.int .i64 0)) H58)
def O.impl_SoupsShared : Nat → Nat × List Nat := fun i => (0, [])
theorem R.impl_SoupsShared {a0 a1 a2 a3 a4 a5 : Value} {H : Hp} {K : Value → Hp → Prop} (h : F.impl_SoupsShared a0 a1 a2 a3 a4 a5 H K) : HT prg I.impl_SoupsShared [a0, a1, a2, a3, a4, a5].toArray H K :=
  HT_of_fev O.impl_SoupsShared mixed Try.func54 (by kernel_rfl) (Eq.mpr (by kernel_rfl : fev prg O.impl_SoupsShared Try.f54 [a0, a1, a2, a3, a4, a5] H K = F.impl_SoupsShared a0 a1 a2 a3 a4 a5 H K) h)

/-! loop.example/g01381/laws.FnExactSoupsShared: function 13 -/
def F.laws_FnExactSoupsShared (a0 a1 a2 a3 a4 a5 : Value) (H : Hp) (K : Value → Hp → Prop) : Prop :=
  nw (a0 : Value).cells 24 H fun v6x1 H2 =>
  ob (vLenSl a3) fun v26x3 =>
  ob (vInt .gtr v26x3 (.int .i64 1048576)) fun v27x4 =>
  cnd v27x4
    (K (.bool true) H2)
    (ob (vLoadN 2 v6x1 H2) fun v28x5 =>
  HT prg I.laws_szLife [v28x5, (.int .i64 1048576)].toArray H2 fun v30x6 H7 =>
  ob (vInt .lss v30x6 (.int .i64 0)) fun v32x8 =>
  cnd v32x8
    (K (.bool true) H7)
    (ob (vLoadN 2 v6x1 H7) fun v34x9 =>
  HT prg I.laws_toLife [v34x9].toArray H7 fun v35x10 H11 =>
  HT prg I.laws_toInt64S [a3].toArray H11 fun v39x12 H13 =>
  HT prg I.spec_SoupsShared [v35x10, a1, a2, v39x12, a4, a5].toArray H13 fun v42x14 H15 =>
  ob (vExt v42x14 0) fun v43x16 =>
  ob (vExt v42x14 1) fun v44x17 =>
  ob (vLoadN 2 v6x1 H15) fun v45x18 =>
  HT prg I.laws_toLife [v45x18].toArray H15 fun v46x19 H20 =>
  nw #[(.slice none 0 0), (.slice none 0 0)] 32 H20 fun v16x21 H22 =>
  st 2 v16x21 v46x19 H22 fun H23 =>
  HT prg I.laws_toInt64S [a3].toArray H23 fun v48x24 H25 =>
  ob (vLoadN 2 v16x21 H25) fun v50x26 =>
  HT prg I.impl_SoupsShared [v50x26, a1, a2, v48x24, a4, a5].toArray H25 fun v56x27 H28 =>
  ob (vExt v56x27 0) fun v57x29 =>
  ob (vExt v56x27 1) fun v58x30 =>
  HT prg I.laws_eqInt64S [v57x29, v43x16].toArray H28 fun v61x31 H32 =>
  ob (vUn .not v61x31) fun v62x33 =>
  gop v62x33 false (fun K34 => K34 v58x30 H32) H32 fun v64x35 H36 =>
  gop v62x33 false (fun K37 => K37 v44x17 H36) H36 fun v65x38 H39 =>
  gop v62x33 false (fun K40 => ob (vBool .neq v64x35 v65x38) fun u => K40 u H39) H39 fun v66x41 H42 =>
  ob (vPick v62x33 (.bool true) v66x41) fun v67x43 =>
  cnd v67x43
    (K (.bool false) H42)
    (ob (vLoadN 2 v16x21 H42) fun v68x44 =>
  ob (vLoadN 2 v6x1 H42) fun v69x45 =>
  HT prg I.laws_toLife [v69x45].toArray H42 fun v70x46 H47 =>
  Le H42 H47 ∧ (HT prg I.laws_eqLife [v68x44, v70x46].toArray H47 fun v71x48 H49 =>
  Le H47 H49 ∧ (ob (vUn .not v71x48) fun v72x50 =>
  cnd v72x50
    (K (.bool false) H49)
    (HT prg I.laws_toInt64S [a3].toArray H49 fun v75x51 H52 =>
  HT prg I.laws_eqInt64S [v48x24, v75x51].toArray H52 fun v76x53 H54 =>
  ob (vUn .not v76x53) fun v77x55 =>
  cnd v77x55
    (K (.bool false) H54)
    (ob (vLoadN 2 v16x21 H54) fun v78x56 =>
  HT prg I.laws_markLife [v78x56, (.int .i64 1)].toArray H54 fun v80x57 H58 =>
  HT prg I.laws_markInt64S [v48x24, v80x57].toArray H58 fun v83x59 H60 =>
  ob (vInt .lss v83x59 (.int .i64 0)) fun v85x61 =>
  gop v85x61 false (fun K62 => K62 v57x29 H60) H60 fun v87x63 H64 =>
  gop v85x61 false (fun K65 => K65 v43x16 H64) H64 fun v88x66 H67 =>
  gop v85x61 false (fun K68 => HT prg I.laws_eqInt64S [v87x63, v88x66].toArray H67 K68) H67 fun v89x69 H70 =>
  gop v85x61 false (fun K71 => ob (vUn .not v89x69) fun u => K71 u H70) H70 fun v90x72 H73 =>
  ob (vPick v85x61 (.bool true) v90x72) fun v91x74 =>
  gop v91x74 false (fun K75 => K75 v58x30 H73) H73 fun v93x76 H77 =>
  gop v91x74 false (fun K78 => K78 v44x17 H77) H77 fun v94x79 H80 =>
  gop v91x74 false (fun K81 => ob (vBool .neq v93x76 v94x79) fun u => K81 u H80) H80 fun v95x82 H83 =>
  ob (vPick v91x74 (.bool true) v95x82) fun v96x84 =>
  cnd v96x84
    (K (.bool false) H83)
    (HT prg I.laws_markInt64S [v57x29, (.int .i64 1)].toArray H83 fun v99x85 H86 =>
  HT prg I.laws_heldInt64S [v57x29, (.int .i64 1)].toArray H86 fun v102x87 H88 =>
  ob (vInt .lss v102x87 (.int .i64 0)) fun v104x89 =>
  cnd v104x89
    (K (.bool false) H88)
    (ob (vInt .neq v102x87 v99x85) fun v107x90 =>
  cnd v107x90
    (K (.bool false) H88)
    (ob (vLoadN 2 v6x1 H88) fun v109x91 =>
  HT prg I.laws_toLife [v109x91].toArray H88 fun v110x92 H93 =>
  HT prg I.laws_toInt64S [a3].toArray H93 fun v114x94 H95 =>
  HT prg I.impl_SoupsShared [v110x92, a1, a2, v114x94, a4, a5].toArray H95 fun v117x96 H97 =>
  ob (vExt v117x96 0) fun v118x98 =>
  ob (vExt v117x96 1) fun v119x99 =>
  HT prg I.laws_eqInt64S [v118x98, v43x16].toArray H97 fun v122x100 H101 =>
  ob (vUn .not v122x100) fun v123x102 =>
  gop v123x102 false (fun K103 => K103 v119x99 H101) H101 fun v125x104 H105 =>
  gop v123x102 false (fun K106 => K106 v44x17 H105) H105 fun v126x107 H108 =>
  gop v123x102 false (fun K109 => ob (vBool .neq v125x104 v126x107) fun u => K109 u H108) H108 fun v127x110 H111 =>
  ob (vPick v123x102 (.bool true) v127x110) fun v128x112 =>
  cnd v128x112
    (K (.bool false) H111)
    (HT prg I.laws_heldInt64S [v57x29, (.int .i64 1)].toArray H111 fun v131x113 H114 =>
  ob (vInt .lss v131x113 (.int .i64 0)) fun v133x115 =>
  cnd v133x115
    (K (.bool false) H114)
    (ob (vInt .neq v131x113 v99x85) fun v136x116 =>
  cnd v136x116
    (K (.bool false) H114)
    (K (.bool true) H114)))))))))))))
def O.laws_FnExactSoupsShared : Nat → Nat × List Nat := fun i => bif Nat.beq i 13 then (0, [0, 1, 2, 3, 4]) else (0, [])
theorem R.laws_FnExactSoupsShared {a0 a1 a2 a3 a4 a5 : Value} {H : Hp} {K : Value → Hp → Prop} (h : F.laws_FnExactSoupsShared a0 a1 a2 a3 a4 a5 H K) : HT prg I.laws_FnExactSoupsShared [a0, a1, a2, a3, a4, a5].toArray H K :=
  HT_of_fev O.laws_FnExactSoupsShared mixed Try.func13 (by kernel_rfl) (Eq.mpr (by kernel_rfl : fev prg O.laws_FnExactSoupsShared Try.f13 [a0, a1, a2, a3, a4, a5] H K = F.laws_FnExactSoupsShared a0 a1 a2 a3 a4 a5 H K) h)

/-! loop.example/g01381/spec.FateOf: function 55 -/
def F.spec_FateOf (a0 a1 a2 : Value) (H : Hp) (K : Value → Hp → Prop) : Prop :=
  nw (a0 : Value).cells 32 H fun v3x1 H2 =>
  nw (a1 : Value).cells 29 H2 fun v4x3 H4 =>
  HT prg I.spec_l04Can [v3x1, v4x3].toArray H4 fun v13x5 H6 =>
  ob (vUn .not v13x5) fun v14x7 =>
  gop v14x7 false (fun K8 => K8 a2 H6) H6 fun v16x9 H10 =>
  gop v14x7 false (fun K11 => HT prg I.spec_l00In [v16x9, (.int .i64 1), (.int .i64 512)].toArray H10 K11) H10 fun v17x12 H13 =>
  gop v14x7 false (fun K14 => ob (vUn .not v17x12) fun u => K14 u H13) H13 fun v18x15 H16 =>
  ob (vPick v14x7 (.bool true) v18x15) fun v19x17 =>
  cnd v19x17
    (K (.tuple #[(.int .i64 0), (.int .i64 0), (.bool false)]) H16)
    (HT prg I.spec_l04Own [v4x3].toArray H16 fun v20x18 H19 =>
  bS 3 1 #[(.int .i64 0), (.int .i64 0), (.slice none 0 0)] 29 [(0, v20x18)] H19 fun v21x20 H21 =>
  jn (fun σ22 H22 =>
    K (.tuple #[(.int .i64 0), (.int .i64 0), (.bool false)]) H22) fun J22 =>
  lpE (fun Q23 σ23 H23 =>
    ob (vInt .leq (σ23 10) (σ23 2)) fun v24x24 =>
    cnd v24x24
      (jn (fun σ25 H25 =>
      ob (vInt .add (σ25 10) (.int .i64 1)) fun v26x26 =>
      Q23 .normal (up (up (up σ25 25 (σ25 10)) 26 v26x26) 10 v26x26) H25) fun J25 =>
    ob (vInt .sub (σ23 10) (.int .i64 1)) fun v29x27 =>
    ob (vIx 3 (σ23 9) v29x27) fun v30x28 =>
    HT prg I.spec_l04Next [(σ23 3), v30x28, (.bool true)].toArray H23 fun v31x29 H30 =>
    nw #[(.int .i64 0), (.int .i64 0), (.slice none 0 0)] 29 H30 fun v11x31 H32 =>
    st 3 v11x31 v31x29 H32 fun H33 =>
    jn (fun σ34 H34 =>
      ob (vLoadN 3 (σ34 11) H34) fun v47x35 =>
      bS 3 1 #[(.int .i64 0), (.int .i64 0), (.slice none 0 0)] 29 [(0, v47x35)] H34 fun v48x36 H37 =>
      apd 3 40 #[(.int .i64 0), (.int .i64 0), (.slice none 0 0)] 29 (σ34 9) v48x36 H37 fun v49x38 H39 =>
      J25 (up (up (up (up (up σ34 46 (σ34 9)) 47 v47x35) 48 v48x36) 49 v49x38) 9 v49x38) H39) fun J34 =>
    ob (vLenSl (σ23 9)) fun v33x40 =>
    lpE (fun Q41 σ41 H41 =>
      ob (vInt .lss (σ41 34) (σ41 33)) fun v35x42 =>
      cnd v35x42
        (ob (vIx 3 (σ41 9) (σ41 34)) fun v39x43 =>
      HT prg I.spec_l04Same [v39x43, (σ41 11)].toArray H41 fun v40x44 H45 =>
      cnd v40x44
        (ob (vInt .sub (σ41 10) (σ41 34)) fun v44x46 =>
        Q41 .ret (up (up (up (up (up (up (up (up (up (up (up (up (up (up σ41 35 v35x42) 36 (σ41 34)) 12 (σ41 34)) 37 (σ41 9)) 38 (σ41 34)) 39 v39x43) 40 v40x44) 41 (σ41 34)) 42 (σ41 10)) 43 (σ41 34)) 44 v44x46) 6 (σ41 34)) 7 v44x46) 8 (.bool true)) H45)
        (ob (vInt .add (σ41 34) (.int .i64 1)) fun v45x47 =>
      Q41 .normal (up (up (up (up (up (up (up (up (up σ41 35 v35x42) 36 (σ41 34)) 12 (σ41 34)) 37 (σ41 9)) 38 (σ41 34)) 39 v39x43) 40 v40x44) 45 v45x47) 34 v45x47) H45))
        (Q41 (.exit 2) (up σ41 35 v35x42) H41)) (blkQ 2 (thenQ J34 (blkQ 1 (thenQ J25 Q23)))) (up (up (up (up (up (up (up (up (up (up (up (up σ23 22 (σ23 10)) 23 (σ23 2)) 24 v24x24) 27 (σ23 9)) 28 (σ23 10)) 29 v29x27) 30 v30x28) 31 v31x29) 11 v11x31) 32 (σ23 9)) 33 v33x40) 34 (.int .i64 0)) H33)
      (Q23 (.exit 0) (up (up (up σ23 22 (σ23 10)) 23 (σ23 2)) 24 v24x24) H23)) (blkQ 0 (thenQ J22 (retQ prg [(.tmp 6), (.tmp 7), (.tmp 8)] K))) (up (up (up (up (up (up (up (up (up (up (up (up (up (up (up (up (S0 [a0, a1, a2]) 3 v3x1) 4 v4x3) 6 (.int .i64 0)) 7 (.int .i64 0)) 8 (.bool false)) 13 v13x5) 14 v14x7) 15 v14x7) 16 v16x9) 17 v17x12) 18 v18x15) 19 v19x17) 20 v20x18) 21 v21x20) 9 v21x20) 10 (.int .i64 1)) H21)
def O.spec_FateOf : Nat → Nat × List Nat := fun i => (0, [])
theorem R.spec_FateOf {a0 a1 a2 : Value} {H : Hp} {K : Value → Hp → Prop} (h : F.spec_FateOf a0 a1 a2 H K) : HT prg I.spec_FateOf [a0, a1, a2].toArray H K :=
  HT_of_fev O.spec_FateOf mixed Try.func55 (by kernel_rfl) (Eq.mpr (by kernel_rfl : fev prg O.spec_FateOf Try.f55 [a0, a1, a2] H K = F.spec_FateOf a0 a1 a2 H K) h)

/-! loop.example/g01381/impl.period[loop.example/g01381/impl.Field]: function 104 -/
def F.impl_period_impl_Field (a0 a1 a2 a3 : Value) (H : Hp) (K : Value → Hp → Prop) : Prop :=
  nw (a0 : Value).cells 29 H fun v4x1 H2 =>
  opEv.nwM H2 fun v16x3 H4 =>
  ob (vLoadN 3 v4x1 H4) fun v17x5 =>
  nw #[(.int .i64 0), (.int .i64 0), (.slice none 0 0)] 29 H4 fun v12x6 H7 =>
  st 3 v12x6 v17x5 H7 fun H8 =>
  jn (fun σ9 H9 =>
    K (.tuple #[(.int .i64 0), (.int .i64 0), (.bool false)]) H9) fun J9 =>
  lpE (fun Q10 σ10 H10 =>
    ob (vInt .leq (σ10 13) (σ10 3)) fun v20x11 =>
    cnd v20x11
      (ob (vLoadN 3 (σ10 12) H10) fun v26x12 =>
    callV prg (σ10 1) [v26x12] H10 fun v27x13 H14 =>
    hp prg (Instr.lookup 121 (σ10 11) v27x13 true) H14 fun v28x15 H16 =>
    ob (vExt v28x15 0) fun v29x17 =>
    ob (vExt v28x15 1) fun v30x18 =>
    cnd v30x18
      (ob (vInt .sub (σ10 13) v29x17) fun v35x19 =>
      Q10 .ret (up (up (up (up (up (up (up (up (up (up (up (up (up (up (up (up (up (up (up (up (up σ10 18 (σ10 13)) 19 (σ10 3)) 20 v20x11) 24 (σ10 11)) 25 (σ10 1)) 26 v26x12) 27 v27x13) 28 v28x15) 23 v28x15) 29 v29x17) 30 v30x18) 14 v29x17) 15 v30x18) 31 v30x18) 32 v29x17) 33 (σ10 13)) 34 v29x17) 35 v35x19) 8 v29x17) 9 v35x19) 10 (.bool true)) H16)
      (ob (vLoadN 3 (σ10 12) H16) fun v38x20 =>
    callV prg (σ10 1) [v38x20] H16 fun v39x21 H22 =>
    hp prg (Instr.mapUpdate 121 (σ10 11) v39x21 (σ10 13)) H22 fun _ H23 =>
    ob (vLoadN 3 (σ10 12) H23) fun v42x24 =>
    callV prg (σ10 2) [v42x24] H23 fun v43x25 H26 =>
    st 3 (σ10 12) v43x25 H26 fun H27 =>
    ob (vInt .add (σ10 13) (.int .i64 1)) fun v22x28 =>
    Q10 .normal (up (up (up (up (up (up (up (up (up (up (up (up (up (up (up (up (up (up (up (up (up (up (up (up (up σ10 18 (σ10 13)) 19 (σ10 3)) 20 v20x11) 24 (σ10 11)) 25 (σ10 1)) 26 v26x12) 27 v27x13) 28 v28x15) 23 v28x15) 29 v29x17) 30 v30x18) 14 v29x17) 15 v30x18) 31 v30x18) 36 (σ10 11)) 37 (σ10 1)) 38 v38x20) 39 v39x21) 40 (σ10 13)) 41 (σ10 2)) 42 v42x24) 43 v43x25) 21 (σ10 13)) 22 v22x28) 13 v22x28) H27))
      (Q10 (.exit 0) (up (up (up σ10 18 (σ10 13)) 19 (σ10 3)) 20 v20x11) H10)) (blkQ 0 (thenQ J9 (retQ prg [(.tmp 8), (.tmp 9), (.tmp 10)] K))) (up (up (up (up (up (up (up (up (up (S0 [a0, a1, a2, a3]) 4 v4x1) 8 (.int .i64 0)) 9 (.int .i64 0)) 10 (.bool false)) 16 v16x3) 11 v16x3) 17 v17x5) 12 v12x6) 13 (.int .i64 0)) H8
def O.impl_period_impl_Field : Nat → Nat × List Nat := fun i => (0, [])
theorem R.impl_period_impl_Field {a0 a1 a2 a3 : Value} {H : Hp} {K : Value → Hp → Prop} (h : F.impl_period_impl_Field a0 a1 a2 a3 H K) : HT prg I.impl_period_impl_Field [a0, a1, a2, a3].toArray H K :=
  HT_of_fev O.impl_period_impl_Field mixed Try.func104 (by kernel_rfl) (Eq.mpr (by kernel_rfl : fev prg O.impl_period_impl_Field Try.f104 [a0, a1, a2, a3] H K = F.impl_period_impl_Field a0 a1 a2 a3 H K) h)

/-! loop.example/g01381/impl.keyOf: function 106 -/
def F.impl_keyOf (a0 : Value) (H : Hp) (K : Value → Hp → Prop) : Prop :=
  ob (vLenSl a0) fun v7x1 =>
  mkS 1 1 #[(.int .u8 0)] 5 v7x1 v7x1 H fun v8x2 H3 =>
  jn (fun σ4 H4 =>
    ob (val prg (convert 122 9 (σ4 3)) H4) fun v23x5 =>
    K v23x5 H4) fun J4 =>
  ob (vLenSl a0) fun v10x6 =>
  lpE (fun Q7 σ7 H7 =>
    ob (vInt .lss (σ7 11) (σ7 10)) fun v12x8 =>
    cnd v12x8
      (ob (vIx 1 (σ7 9) (σ7 11)) fun v14x9 =>
    ob (vLoad v14x9 H7) fun v15x10 =>
    ob (vCI .u8 v15x10) fun v19x11 =>
    ob (vIx 1 (σ7 3) (σ7 11)) fun v20x12 =>
    st 1 v20x12 v19x11 H7 fun H13 =>
    ob (vInt .add (σ7 11) (.int .i64 1)) fun v21x14 =>
    Q7 .normal (up (up (up (up (up (up (up (up (up (up (up (up (up σ7 12 v12x8) 13 (σ7 11)) 14 v14x9) 15 v15x10) 4 (σ7 11)) 5 v15x10) 16 (σ7 3)) 17 (σ7 11)) 18 v15x10) 19 v19x11) 20 v20x12) 21 v21x14) 11 v21x14) H13)
      (Q7 (.exit 0) (up σ7 12 v12x8) H7)) (blkQ 0 (thenQ J4 (retQ prg [(.tmp 2)] K))) (up (up (up (up (up (up (up (up (S0 [a0]) 2 (.string ⟨#[]⟩)) 6 a0) 7 v7x1) 8 v8x2) 3 v8x2) 9 a0) 10 v10x6) 11 (.int .i64 0)) H3
def O.impl_keyOf : Nat → Nat × List Nat := fun i => (0, [])
theorem R.impl_keyOf {a0 : Value} {H : Hp} {K : Value → Hp → Prop} (h : F.impl_keyOf a0 H K) : HT prg I.impl_keyOf [a0].toArray H K :=
  HT_of_fev O.impl_keyOf mixed Try.func106 (by kernel_rfl) (Eq.mpr (by kernel_rfl : fev prg O.impl_keyOf Try.f106 [a0] H K = F.impl_keyOf a0 H K) h)

/-! loop.example/g01381/impl.FateOf$1: function 105 -/
def F.impl_FateOf_1 (a0 : Value) (H : Hp) (K : Value → Hp → Prop) : Prop :=
  nw (a0 : Value).cells 29 H fun v1x1 H2 =>
  ob (vFa 2 v1x1) fun v3x3 =>
  ob (vLoad v3x3 H2) fun v4x4 =>
  HT prg I.impl_keyOf [v4x4].toArray H2 fun v5x5 H6 =>
  K v5x5 H6
def O.impl_FateOf_1 : Nat → Nat × List Nat := fun i => (0, [])
theorem R.impl_FateOf_1 {a0 : Value} {H : Hp} {K : Value → Hp → Prop} (h : F.impl_FateOf_1 a0 H K) : HT prg I.impl_FateOf_1 [a0].toArray H K :=
  HT_of_fev O.impl_FateOf_1 mixed Try.func105 (by kernel_rfl) (Eq.mpr (by kernel_rfl : fev prg O.impl_FateOf_1 Try.f105 [a0] H K = F.impl_FateOf_1 a0 H K) h)

/-! loop.example/g01381/impl.FateOf$2: function 107 -/
def F.impl_FateOf_2 (a0 a1 : Value) (H : Hp) (K : Value → Hp → Prop) : Prop :=
  nw (a0 : Value).cells 29 H fun v2x1 H2 =>
  nw #[(.int .i64 0), (.int .i64 0), (.slice none 0 0)] 29 H2 fun v3x3 H4 =>
  ob (vLoadN 2 a1 H4) fun v4x5 =>
  ob (vLoadN 3 v2x1 H4) fun v5x6 =>
  HT prg I.impl_Life_step [v4x5, v5x6, (.bool true)].toArray H4 fun v6x7 H8 =>
  st 3 v3x3 v6x7 H8 fun H9 =>
  ob (vLoadN 3 v3x3 H9) fun u10 => K u10 H9
def O.impl_FateOf_2 : Nat → Nat × List Nat := fun i => (0, [])
theorem R.impl_FateOf_2 {a0 a1 : Value} {H : Hp} {K : Value → Hp → Prop} (h : F.impl_FateOf_2 a0 a1 H K) : HT prg I.impl_FateOf_2 [a0, a1].toArray H K :=
  HT_of_fev O.impl_FateOf_2 mixed Try.func107 (by kernel_rfl) (Eq.mpr (by kernel_rfl : fev prg O.impl_FateOf_2 Try.f107 [a0, a1] H K = F.impl_FateOf_2 a0 a1 H K) h)

/-! loop.example/g01381/impl.FateOf: function 56 -/
def F.impl_FateOf (a0 a1 a2 : Value) (H : Hp) (K : Value → Hp → Prop) : Prop :=
  nw (a0 : Value).cells 32 H fun v3x1 H2 =>
  nw (a1 : Value).cells 29 H2 fun v4x3 H4 =>
  ob (vLoadN 2 v3x1 H4) fun v9x5 =>
  ob (vLoadN 3 v4x3 H4) fun v10x6 =>
  bS 3 1 #[(.int .i64 0), (.int .i64 0), (.slice none 0 0)] 29 [(0, v10x6)] H4 fun v11x7 H8 =>
  HT prg I.impl_lives [v9x5, v11x7].toArray H8 fun v12x9 H10 =>
  ob (vUn .not v12x9) fun v13x11 =>
  gop v13x11 false (fun K12 => K12 a2 H10) H10 fun v15x13 H14 =>
  gop v13x11 false (fun K15 => HT prg I.impl_within [v15x13, (.int .i64 1), (.int .i64 512)].toArray H14 K15) H14 fun v16x16 H17 =>
  gop v13x11 false (fun K18 => ob (vUn .not v16x16) fun u => K18 u H17) H17 fun v17x19 H20 =>
  ob (vPick v13x11 (.bool true) v17x19) fun v18x21 =>
  cnd v18x21
    (K (.tuple #[(.int .i64 0), (.int .i64 0), (.bool false)]) H20)
    (ob (vLoadN 3 v4x3 H20) fun v19x22 =>
  HT prg I.impl_period_impl_Field [v19x22, (.func (.func I.impl_FateOf_1) #[] #[]), (.func (.func I.impl_FateOf_2) #[] #[v3x1]), a2].toArray H20 fun v22x23 H24 =>
  ob (vExt v22x23 0) fun v23x25 =>
  ob (vExt v22x23 1) fun v24x26 =>
  ob (vExt v22x23 2) fun v25x27 =>
  K (.tuple #[v23x25, v24x26, v25x27]) H24)
def O.impl_FateOf : Nat → Nat × List Nat := fun i => (0, [])
theorem R.impl_FateOf {a0 a1 a2 : Value} {H : Hp} {K : Value → Hp → Prop} (h : F.impl_FateOf a0 a1 a2 H K) : HT prg I.impl_FateOf [a0, a1, a2].toArray H K :=
  HT_of_fev O.impl_FateOf mixed Try.func56 (by kernel_rfl) (Eq.mpr (by kernel_rfl : fev prg O.impl_FateOf Try.f56 [a0, a1, a2] H K = F.impl_FateOf a0 a1 a2 H K) h)

/-! loop.example/g01381/laws.FnExactFateOf: function 14 -/
def F.laws_FnExactFateOf (a0 a1 a2 : Value) (H : Hp) (K : Value → Hp → Prop) : Prop :=
  nw (a0 : Value).cells 24 H fun v3x1 H2 =>
  nw (a1 : Value).cells 26 H2 fun v4x3 H4 =>
  ob (vLoadN 2 v3x1 H4) fun v16x5 =>
  HT prg I.laws_szLife [v16x5, (.int .i64 1048576)].toArray H4 fun v18x6 H7 =>
  ob (vInt .lss v18x6 (.int .i64 0)) fun v20x8 =>
  cnd v20x8
    (K (.bool true) H7)
    (ob (vLoadN 3 v4x3 H7) fun v21x9 =>
  HT prg I.laws_szField [v21x9, v18x6].toArray H7 fun v23x10 H11 =>
  ob (vInt .lss v23x10 (.int .i64 0)) fun v25x12 =>
  cnd v25x12
    (K (.bool true) H11)
    (ob (vLoadN 2 v3x1 H11) fun v27x13 =>
  ob (vLoadN 3 v4x3 H11) fun v29x14 =>
  HT prg I.laws_toLife [v27x13].toArray H11 fun v28x15 H16 =>
  Le H11 H16 ∧ (HT prg I.laws_toField [v29x14].toArray H16 fun v30x17 H18 =>
  Le H16 H18 ∧ (HT prg I.spec_FateOf [v28x15, v30x17, a2].toArray H18 fun v32x19 H20 =>
  Le H18 H20 ∧ (ob (vExt v32x19 0) fun v33x21 =>
  ob (vExt v32x19 1) fun v34x22 =>
  ob (vExt v32x19 2) fun v35x23 =>
  ob (vLoadN 2 v3x1 H20) fun v36x24 =>
  HT prg I.laws_toLife [v36x24].toArray H20 fun v37x25 H26 =>
  nw #[(.slice none 0 0), (.slice none 0 0)] 32 H26 fun v11x27 H28 =>
  st 2 v11x27 v37x25 H28 fun H29 =>
  ob (vLoadN 3 v4x3 H29) fun v38x30 =>
  HT prg I.laws_toField [v38x30].toArray H29 fun v39x31 H32 =>
  nw #[(.int .i64 0), (.int .i64 0), (.slice none 0 0)] 29 H32 fun v12x33 H34 =>
  st 3 v12x33 v39x31 H34 fun H35 =>
  ob (vLoadN 2 v11x27 H35) fun v41x36 =>
  ob (vLoadN 3 v12x33 H35) fun v42x37 =>
  HT prg I.impl_FateOf [v41x36, v42x37, a2].toArray H35 fun v44x38 H39 =>
  ob (vExt v44x38 0) fun v45x40 =>
  ob (vExt v44x38 1) fun v46x41 =>
  ob (vExt v44x38 2) fun v47x42 =>
  ob (vInt .neq v45x40 v33x21) fun v50x43 =>
  gop v50x43 false (fun K44 => K44 v46x41 H39) H39 fun v52x45 H46 =>
  gop v50x43 false (fun K47 => K47 v34x22 H46) H46 fun v53x48 H49 =>
  gop v50x43 false (fun K50 => ob (vInt .neq v52x45 v53x48) fun u => K50 u H49) H49 fun v54x51 H52 =>
  ob (vPick v50x43 (.bool true) v54x51) fun v55x53 =>
  gop v55x53 false (fun K54 => K54 v47x42 H52) H52 fun v57x55 H56 =>
  gop v55x53 false (fun K57 => K57 v35x23 H56) H56 fun v58x58 H59 =>
  gop v55x53 false (fun K60 => ob (vBool .neq v57x55 v58x58) fun u => K60 u H59) H59 fun v59x61 H62 =>
  ob (vPick v55x53 (.bool true) v59x61) fun v60x63 =>
  cnd v60x63
    (K (.bool false) H62)
    (ob (vLoadN 2 v11x27 H62) fun v61x64 =>
  ob (vLoadN 2 v3x1 H62) fun v62x65 =>
  HT prg I.laws_toLife [v62x65].toArray H62 fun v63x66 H67 =>
  Le H62 H67 ∧ (HT prg I.laws_eqLife [v61x64, v63x66].toArray H67 fun v64x68 H69 =>
  Le H67 H69 ∧ (ob (vUn .not v64x68) fun v65x70 =>
  cnd v65x70
    (K (.bool false) H69)
    (ob (vLoadN 3 v12x33 H69) fun v66x71 =>
  ob (vLoadN 3 v4x3 H69) fun v67x72 =>
  HT prg I.laws_toField [v67x72].toArray H69 fun v68x73 H74 =>
  Le H69 H74 ∧ (HT prg I.laws_eqField [v66x71, v68x73].toArray H74 fun v69x75 H76 =>
  Le H74 H76 ∧ (ob (vUn .not v69x75) fun v70x77 =>
  cnd v70x77
    (K (.bool false) H76)
    (K (.bool true) H76))))))))))))
def O.laws_FnExactFateOf : Nat → Nat × List Nat := fun i => bif Nat.beq i 8 then (0, [0, 2, 4, 1, 3, 5, 6, 7, 8, 9, 10, 11, 12]) else bif Nat.beq i 14 then (0, [0, 1, 2, 3, 4]) else bif Nat.beq i 16 then (0, [0, 1, 2, 3, 4]) else (0, [])
theorem R.laws_FnExactFateOf {a0 a1 a2 : Value} {H : Hp} {K : Value → Hp → Prop} (h : F.laws_FnExactFateOf a0 a1 a2 H K) : HT prg I.laws_FnExactFateOf [a0, a1, a2].toArray H K :=
  HT_of_fev O.laws_FnExactFateOf mixed Try.func14 (by kernel_rfl) (Eq.mpr (by kernel_rfl : fev prg O.laws_FnExactFateOf Try.f14 [a0, a1, a2] H K = F.laws_FnExactFateOf a0 a1 a2 H K) h)

end Go.Proofs.Ythbffbpdoankjaa
