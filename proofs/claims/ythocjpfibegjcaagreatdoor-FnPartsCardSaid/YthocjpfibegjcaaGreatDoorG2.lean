/- Functions' texts over a partial heap. -/
import Derived.Test.YthocjpfibegjcaaGreatDoorG0
namespace Go.Proofs.YthocjpfibegjcaaGreatDoor
open HL
set_option linter.unusedVariables false
set_option maxRecDepth 100000
set_option maxHeartbeats 4000000
/-! slices.Min[[]string,string]: function 46 -/
def F.slices_Min_string_string (a0 : Value) (H : Hp) (K : Value → Hp → Prop) : Prop :=
  jn (fun σ1 H1 =>
    ob (vIx 1 (σ1 0) (.int .i64 0)) fun v10x2 =>
    ob (vLoad v10x2 H1) fun v11x3 =>
    jn (fun σ4 H4 =>
      K (σ4 3) H4) fun J4 =>
    lpE (fun Q5 σ5 H5 =>
      ob (vLenSl (σ5 0)) fun v14x6 =>
      ob (vInt .lss (σ5 4) v14x6) fun v15x7 =>
      cnd v15x7
        (ob (vIx 1 (σ5 0) (σ5 4)) fun v21x8 =>
      ob (vLoad v21x8 H5) fun v22x9 =>
      hp prg (builtin .min #[9, 9] 9 #[false, false] [(σ5 3), v22x9].toArray) H5 (nextH prg (fun v23x10 H11 =>
      ob (vInt .add (σ5 4) (.int .i64 1)) fun v17x12 =>
      Q5 .normal (up (up (up (up (up (up (up (up (up (up (up (up (up (up σ5 12 (σ5 4)) 13 (σ5 0)) 14 v14x6) 15 v15x7) 18 (σ5 3)) 19 (σ5 0)) 20 (σ5 4)) 21 v21x8) 22 v22x9) 23 v23x10) 3 v23x10) 16 (σ5 4)) 17 v17x12) 4 v17x12) H11)))
        (Q5 (.exit 0) (up (up (up (up σ5 12 (σ5 4)) 13 (σ5 0)) 14 v14x6) 15 v15x7) H5)) (blkQ 0 (thenQ J4 (retQ prg [(.tmp 2)] K))) (up (up (up (up (up σ1 9 (σ1 0)) 10 v10x2) 11 v11x3) 3 v11x3) 4 (.int .i64 1)) H1) fun J1 =>
  ob (vLenSl a0) fun v6x13 =>
  ob (vInt .lss v6x13 (.int .i64 1)) fun v7x14 =>
  cnd v7x14
    (ob (val prg (Instr.makeInterface 9 (.string ⟨#[115, 108, 105, 99, 101, 115, 46, 77, 105, 110, 58, 32, 101, 109, 112, 116, 121, 32, 108, 105, 115, 116]⟩)) H) fun v8x15 =>
    hp prg (do pure (Next.value (← Instr.panic v8x15))) H (nextH prg (fun _ H16 =>
    J1 (up (up (up (up (up (S0 [a0]) 2 (.string ⟨#[]⟩)) 5 a0) 6 v6x13) 7 v7x14) 8 v8x15) H16)))
    (J1 (up (up (up (up (S0 [a0]) 2 (.string ⟨#[]⟩)) 5 a0) 6 v6x13) 7 v7x14) H)
def O.slices_Min_string_string : Nat → Nat × List Nat := fun i => (0, [])
theorem R.slices_Min_string_string {a0 : Value} {H : Hp} {K : Value → Hp → Prop} (h : F.slices_Min_string_string a0 H K) : HT prg I.slices_Min_string_string [a0].toArray H K :=
  HT_of_fev O.slices_Min_string_string mixed Tryz.func46 (by kernel_rfl) (Eq.mpr (by kernel_rfl : fev prg O.slices_Min_string_string Tryz.f46 [a0] H K = F.slices_Min_string_string a0 H K) h)

/-! (loop.example/g01381/impl.Field).name: function 31 -/
def F.impl_Field_name (a0 : Value) (H : Hp) (K : Value → Hp → Prop) : Prop :=
  nw (a0 : Value).cells 27 H fun v1x1 H2 =>
  ob (vLoadN 3 v1x1 H2) fun v11x3 =>
  HT prg I.impl_Field_trimmed [v11x3].toArray H2 fun v12x4 H5 =>
  ob (vExt v12x4 0) fun v13x6 =>
  ob (vExt v12x4 1) fun v14x7 =>
  ob (vExt v12x4 2) fun v15x8 =>
  ob (vExt v12x4 3) fun v16x9 =>
  nw #[(.int .i64 0), (.int .i64 0), (.slice none 0 0)] 27 H5 fun v3x10 H11 =>
  st 3 v3x10 v13x6 H11 fun H12 =>
  ob (vUn .not v16x9) fun v18x13 =>
  cnd v18x13
    (K (.string ⟨#[]⟩) H12)
    (bS 1 0 #[(.string ⟨#[]⟩)] 9 [] H12 fun v19x14 H15 =>
  jn (fun σ16 H16 =>
    HT prg I.slices_Min_string_string [(σ16 7)].toArray H16 fun v34x17 H18 =>
    K v34x17 H18) fun J16 =>
  ob (vLoadN 3 v3x10 H15) fun v20x19 =>
  HT prg I.impl_Field_images [v20x19].toArray H15 fun v21x20 H21 =>
  ob (vLenSl v21x20) fun v22x22 =>
  lpE (fun Q23 σ23 H23 =>
    ob (vInt .lss (σ23 23) (σ23 22)) fun v24x24 =>
    cnd v24x24
      (ob (vIx 3 (σ23 21) (σ23 23)) fun v25x25 =>
    ob (vLoadN 3 v25x25 H23) fun v26x26 =>
    nw #[(.int .i64 0), (.int .i64 0), (.slice none 0 0)] 27 H23 fun v9x27 H28 =>
    st 3 v9x27 v26x26 H28 fun H29 =>
    ob (vLoadN 3 v9x27 H29) fun v28x30 =>
    HT prg I.impl_Field_text [v28x30].toArray H29 fun v29x31 H32 =>
    bS 1 1 #[(.string ⟨#[]⟩)] 9 [(0, v29x31)] H32 fun v30x33 H34 =>
    apd 1 16 #[(.string ⟨#[]⟩)] 9 (σ23 7) v30x33 H34 fun v31x35 H36 =>
    ob (vInt .add (σ23 23) (.int .i64 1)) fun v32x37 =>
    Q23 .normal (up (up (up (up (up (up (up (up (up (up (up (up σ23 24 v24x24) 25 v25x25) 26 v26x26) 9 v9x27) 27 (σ23 7)) 28 v28x30) 29 v29x31) 30 v30x33) 31 v31x35) 7 v31x35) 32 v32x37) 23 v32x37) H36)
      (Q23 (.exit 0) (up σ23 24 v24x24) H23)) (blkQ 0 (thenQ J16 (retQ prg [(.tmp 2)] K))) (up (up (up (up (up (up (up (up (up (up (up (up (up (up (up (up (up (up (up (up (up (S0 [a0]) 1 v1x1) 2 (.string ⟨#[]⟩)) 11 v11x3) 12 v12x4) 10 v12x4) 13 v13x6) 14 v14x7) 15 v15x8) 16 v16x9) 3 v3x10) 4 v14x7) 5 v15x8) 6 v16x9) 17 v16x9) 18 v18x13) 19 v19x14) 7 v19x14) 20 v20x19) 21 v21x20) 22 v22x22) 23 (.int .i64 0)) H21)
def O.impl_Field_name : Nat → Nat × List Nat := fun i => (0, [])
theorem R.impl_Field_name {a0 : Value} {H : Hp} {K : Value → Hp → Prop} (h : F.impl_Field_name a0 H K) : HT prg I.impl_Field_name [a0].toArray H K :=
  HT_of_fev O.impl_Field_name mixed Tryz.func31 (by kernel_rfl) (Eq.mpr (by kernel_rfl : fev prg O.impl_Field_name Tryz.f31 [a0] H K = F.impl_Field_name a0 H K) h)

/-! cmp.isNaN[string]: function 95 -/
def F.cmp_isNaN_string (a0 : Value) (H : Hp) (K : Value → Hp → Prop) : Prop :=
  ob (vStr .neq a0 a0) fun v5x1 =>
  K v5x1 H
def O.cmp_isNaN_string : Nat → Nat × List Nat := fun i => (0, [])
theorem R.cmp_isNaN_string {a0 : Value} {H : Hp} {K : Value → Hp → Prop} (h : F.cmp_isNaN_string a0 H K) : HT prg I.cmp_isNaN_string [a0].toArray H K :=
  HT_of_fev O.cmp_isNaN_string mixed Tryz.func95 (by kernel_rfl) (Eq.mpr (by kernel_rfl : fev prg O.cmp_isNaN_string Tryz.f95 [a0] H K = F.cmp_isNaN_string a0 H K) h)

/-! cmp.Less[string]: function 71 -/
def F.cmp_Less_string (a0 a1 : Value) (H : Hp) (K : Value → Hp → Prop) : Prop :=
  HT prg I.cmp_isNaN_string [a0].toArray H fun v6x1 H2 =>
  gop v6x1 true (fun K3 => K3 a1 H2) H2 fun v8x4 H5 =>
  gop v6x1 true (fun K6 => HT prg I.cmp_isNaN_string [v8x4].toArray H5 K6) H5 fun v9x7 H8 =>
  gop v6x1 true (fun K9 => ob (vUn .not v9x7) fun u => K9 u H8) H8 fun v10x10 H11 =>
  ob (vPick v6x1 v10x10 (.bool false)) fun v11x12 =>
  gop v11x12 false (fun K13 => K13 a0 H11) H11 fun v13x14 H15 =>
  gop v11x12 false (fun K16 => K16 a1 H15) H15 fun v14x17 H18 =>
  gop v11x12 false (fun K19 => ob (vStr .lss v13x14 v14x17) fun u => K19 u H18) H18 fun v15x20 H21 =>
  ob (vPick v11x12 (.bool true) v15x20) fun v16x22 =>
  K v16x22 H21
def O.cmp_Less_string : Nat → Nat × List Nat := fun i => (0, [])
theorem R.cmp_Less_string {a0 a1 : Value} {H : Hp} {K : Value → Hp → Prop} (h : F.cmp_Less_string a0 a1 H K) : HT prg I.cmp_Less_string [a0, a1].toArray H K :=
  HT_of_fev O.cmp_Less_string mixed Tryz.func71 (by kernel_rfl) (Eq.mpr (by kernel_rfl : fev prg O.cmp_Less_string Tryz.f71 [a0, a1] H K = F.cmp_Less_string a0 a1 H K) h)

/-! slices.insertionSortOrdered[string]: function 65 -/
def F.slices_insertionSortOrdered_string (a0 a1 a2 : Value) (H : Hp) (K : Value → Hp → Prop) : Prop :=
  ob (vInt .add a1 (.int .i64 1)) fun v9x1 =>
  lpE (fun Q2 σ2 H2 =>
    ob (vInt .lss (σ2 6) (σ2 2)) fun v12x3 =>
    cnd v12x3
      (jn (fun σ4 H4 =>
      ob (vInt .add (σ4 6) (.int .i64 1)) fun v14x5 =>
      Q2 .normal (up (up (up σ4 13 (σ4 6)) 14 v14x5) 6 v14x5) H4) fun J4 =>
    lpE (fun Q6 σ6 H6 =>
      ob (vInt .gtr (σ6 7) (σ6 1)) fun v18x7 =>
      gop v18x7 true (fun K8 => K8 (σ6 0) H6) H6 fun v20x9 H10 =>
      gop v18x7 true (fun K11 => K11 (σ6 7) H10) H10 fun v21x12 H13 =>
      gop v18x7 true (fun K14 => ob (vIx 1 v20x9 v21x12) fun u => K14 u H13) H13 fun v22x15 H16 =>
      gop v18x7 true (fun K17 => ob (vLoad v22x15 H16) fun u => K17 u H16) H16 fun v23x18 H19 =>
      gop v18x7 true (fun K20 => K20 (σ6 0) H19) H19 fun v24x21 H22 =>
      gop v18x7 true (fun K23 => K23 (σ6 7) H22) H22 fun v25x24 H25 =>
      gop v18x7 true (fun K26 => ob (vInt .sub v25x24 (.int .i64 1)) fun u => K26 u H25) H25 fun v26x27 H28 =>
      gop v18x7 true (fun K29 => ob (vIx 1 v24x21 v26x27) fun u => K29 u H28) H28 fun v27x30 H31 =>
      gop v18x7 true (fun K32 => ob (vLoad v27x30 H31) fun u => K32 u H31) H31 fun v28x33 H34 =>
      gop v18x7 true (fun K35 => HT prg I.cmp_Less_string [v23x18, v28x33].toArray H34 fun v29x36 H37 =>
      Le H34 H37 ∧ K35 v29x36 H37) H34 fun v29x38 H39 =>
      ob (vPick v18x7 v29x38 (.bool false)) fun v30x40 =>
      cnd v30x40
        (ob (vInt .sub (σ6 7) (.int .i64 1)) fun v37x41 =>
      ob (vInt .sub (σ6 7) (.int .i64 1)) fun v40x42 =>
      ob (vIx 1 (σ6 0) v40x42) fun v41x43 =>
      ob (vLoad v41x43 H39) fun v42x44 =>
      ob (vIx 1 (σ6 0) (σ6 7)) fun v45x45 =>
      ob (vLoad v45x45 H39) fun v46x46 =>
      ob (vIx 1 (σ6 0) (σ6 7)) fun v47x47 =>
      st 1 v47x47 v42x44 H39 fun H48 =>
      ob (vIx 1 (σ6 0) v37x41) fun v48x49 =>
      st 1 v48x49 v46x46 H48 fun H50 =>
      ob (vInt .sub (σ6 7) (.int .i64 1)) fun v32x51 =>
      Q6 .normal (up (up (up (up (up (up (up (up (up (up (up (up (up (up (up (up (up (up (up (up (up (up (up (up (up (up (up (up (up (up (up (up (up (up σ6 16 (σ6 7)) 17 (σ6 1)) 18 v18x7) 19 v18x7) 20 v20x9) 21 v21x12) 22 v22x15) 23 v23x18) 24 v24x21) 25 v25x24) 26 v26x27) 27 v27x30) 28 v28x33) 29 v29x38) 30 v30x40) 33 (σ6 0)) 34 (σ6 7)) 35 (σ6 0)) 36 (σ6 7)) 37 v37x41) 38 (σ6 0)) 39 (σ6 7)) 40 v40x42) 41 v41x43) 42 v42x44) 43 (σ6 0)) 44 (σ6 7)) 45 v45x45) 46 v46x46) 47 v47x47) 48 v48x49) 31 (σ6 7)) 32 v32x51) 7 v32x51) H50)
        (Q6 (.exit 2) (up (up (up (up (up (up (up (up (up (up (up (up (up (up (up σ6 16 (σ6 7)) 17 (σ6 1)) 18 v18x7) 19 v18x7) 20 v20x9) 21 v21x12) 22 v22x15) 23 v23x18) 24 v24x21) 25 v25x24) 26 v26x27) 27 v27x30) 28 v28x33) 29 v29x38) 30 v30x40) H39)) (blkQ 2 (blkQ 1 (thenQ J4 Q2))) (up (up (up (up (up σ2 10 (σ2 6)) 11 (σ2 2)) 12 v12x3) 15 (σ2 6)) 7 (σ2 6)) H2)
      (Q2 (.exit 0) (up (up (up σ2 10 (σ2 6)) 11 (σ2 2)) 12 v12x3) H2)) (blkQ 0 (retQ prg [] K)) (up (up (up (S0 [a0, a1, a2]) 8 a1) 9 v9x1) 6 v9x1) H
def O.slices_insertionSortOrdered_string : Nat → Nat × List Nat := fun i => bif Nat.beq i 4 then (0, [0, 1, 2, 3, 4, 5, 6, 7, 8, 9, 10, 11, 12, 13, 14]) else bif Nat.beq i 6 then (0, [0, 1, 2, 3, 4, 5, 6, 7, 8, 9, 10, 11, 12, 13, 14, 15, 16, 17]) else (0, [])
theorem R.slices_insertionSortOrdered_string {a0 a1 a2 : Value} {H : Hp} {K : Value → Hp → Prop} (h : F.slices_insertionSortOrdered_string a0 a1 a2 H K) : HT prg I.slices_insertionSortOrdered_string [a0, a1, a2].toArray H K :=
  HT_of_fev O.slices_insertionSortOrdered_string mixed Tryz.func65 (by kernel_rfl) (Eq.mpr (by kernel_rfl : fev prg O.slices_insertionSortOrdered_string Tryz.f65 [a0, a1, a2] H K = F.slices_insertionSortOrdered_string a0 a1 a2 H K) h)

/-! slices.siftDownOrdered[string]: function 90 -/
def F.slices_siftDownOrdered_string (a0 a1 a2 a3 : Value) (H : Hp) (K : Value → Hp → Prop) : Prop :=
  lpE (fun Q1 σ1 H1 =>
    ob (vInt .mul (.int .i64 2) (σ1 8)) fun v12x2 =>
    ob (vInt .add v12x2 (.int .i64 1)) fun v13x3 =>
    ob (vInt .geq v13x3 (σ1 2)) fun v16x4 =>
    cnd v16x4
      (Q1 (.exit 0) (up (up (up (up (up (up (up σ1 11 (σ1 8)) 12 v12x2) 13 v13x3) 9 v13x3) 14 v13x3) 15 (σ1 2)) 16 v16x4) H1)
      (jn (fun σ5 H5 =>
      ob (vInt .add (σ5 3) (σ5 8)) fun v42x6 =>
      ob (vIx 1 (σ5 0) v42x6) fun v43x7 =>
      ob (vLoad v43x7 H5) fun v44x8 =>
      ob (vInt .add (σ5 3) (σ5 9)) fun v48x9 =>
      ob (vIx 1 (σ5 0) v48x9) fun v49x10 =>
      ob (vLoad v49x10 H5) fun v50x11 =>
      HT prg I.cmp_Less_string [v44x8, v50x11].toArray H5 fun v51x12 H13 =>
      Le H5 H13 ∧ (ob (vUn .not v51x12) fun v52x14 =>
      cnd v52x14
        (Q1 .ret (up (up (up (up (up (up (up (up (up (up (up (up (up (up σ5 39 (σ5 0)) 40 (σ5 3)) 41 (σ5 8)) 42 v42x6) 43 v43x7) 44 v44x8) 45 (σ5 0)) 46 (σ5 3)) 47 (σ5 9)) 48 v48x9) 49 v49x10) 50 v50x11) 51 v51x12) 52 v52x14) H13)
        (ob (vInt .add (σ5 3) (σ5 8)) fun v56x15 =>
      ob (vInt .add (σ5 3) (σ5 9)) fun v60x16 =>
      ob (vInt .add (σ5 3) (σ5 9)) fun v64x17 =>
      ob (vIx 1 (σ5 0) v64x17) fun v65x18 =>
      ob (vLoad v65x18 H13) fun v66x19 =>
      ob (vInt .add (σ5 3) (σ5 8)) fun v70x20 =>
      ob (vIx 1 (σ5 0) v70x20) fun v71x21 =>
      ob (vLoad v71x21 H13) fun v72x22 =>
      ob (vIx 1 (σ5 0) v56x15) fun v73x23 =>
      st 1 v73x23 v66x19 H13 fun H24 =>
      ob (vIx 1 (σ5 0) v60x16) fun v74x25 =>
      st 1 v74x25 v72x22 H24 fun H26 =>
      Q1 .normal (up (up (up (up (up (up (up (up (up (up (up (up (up (up (up (up (up (up (up (up (up (up (up (up (up (up (up (up (up (up (up (up (up (up (up (up (up (up σ5 39 (σ5 0)) 40 (σ5 3)) 41 (σ5 8)) 42 v42x6) 43 v43x7) 44 v44x8) 45 (σ5 0)) 46 (σ5 3)) 47 (σ5 9)) 48 v48x9) 49 v49x10) 50 v50x11) 51 v51x12) 52 v52x14) 53 (σ5 0)) 54 (σ5 3)) 55 (σ5 8)) 56 v56x15) 57 (σ5 0)) 58 (σ5 3)) 59 (σ5 9)) 60 v60x16) 61 (σ5 0)) 62 (σ5 3)) 63 (σ5 9)) 64 v64x17) 65 v65x18) 66 v66x19) 67 (σ5 0)) 68 (σ5 3)) 69 (σ5 8)) 70 v70x20) 71 v71x21) 72 v72x22) 73 v73x23) 74 v74x25) 75 (σ5 9)) 8 (σ5 9)) H26))) fun J5 =>
    ob (vInt .add v13x3 (.int .i64 1)) fun v18x27 =>
    ob (vInt .lss v18x27 (σ1 2)) fun v20x28 =>
    gop v20x28 true (fun K29 => K29 (σ1 0) H1) H1 fun v22x30 H31 =>
    gop v20x28 true (fun K32 => K32 (σ1 3) H31) H31 fun v23x33 H34 =>
    gop v20x28 true (fun K35 => K35 v13x3 H34) H34 fun v24x36 H37 =>
    gop v20x28 true (fun K38 => ob (vInt .add v23x33 v24x36) fun u => K38 u H37) H37 fun v25x39 H40 =>
    gop v20x28 true (fun K41 => ob (vIx 1 v22x30 v25x39) fun u => K41 u H40) H40 fun v26x42 H43 =>
    gop v20x28 true (fun K44 => ob (vLoad v26x42 H43) fun u => K44 u H43) H43 fun v27x45 H46 =>
    gop v20x28 true (fun K47 => K47 (σ1 0) H46) H46 fun v28x48 H49 =>
    gop v20x28 true (fun K50 => K50 (σ1 3) H49) H49 fun v29x51 H52 =>
    gop v20x28 true (fun K53 => K53 v13x3 H52) H52 fun v30x54 H55 =>
    gop v20x28 true (fun K56 => ob (vInt .add v29x51 v30x54) fun u => K56 u H55) H55 fun v31x57 H58 =>
    gop v20x28 true (fun K59 => ob (vInt .add v31x57 (.int .i64 1)) fun u => K59 u H58) H58 fun v32x60 H61 =>
    gop v20x28 true (fun K62 => ob (vIx 1 v28x48 v32x60) fun u => K62 u H61) H61 fun v33x63 H64 =>
    gop v20x28 true (fun K65 => ob (vLoad v33x63 H64) fun u => K65 u H64) H64 fun v34x66 H67 =>
    gop v20x28 true (fun K68 => HT prg I.cmp_Less_string [v27x45, v34x66].toArray H67 fun v35x69 H70 =>
    Le H67 H70 ∧ K68 v35x69 H70) H67 fun v35x71 H72 =>
    ob (vPick v20x28 v35x71 (.bool false)) fun v36x73 =>
    cnd v36x73
      (ob (vInt .add v13x3 (.int .i64 1)) fun v38x74 =>
      J5 (up (up (up (up (up (up (up (up (up (up (up (up (up (up (up (up (up (up (up (up (up (up (up (up (up (up (up (up (up (up σ1 11 (σ1 8)) 12 v12x2) 13 v13x3) 9 v13x3) 14 v13x3) 15 (σ1 2)) 16 v16x4) 17 v13x3) 18 v18x27) 19 (σ1 2)) 20 v20x28) 21 v20x28) 22 v22x30) 23 v23x33) 24 v24x36) 25 v25x39) 26 v26x42) 27 v27x45) 28 v28x48) 29 v29x51) 30 v30x54) 31 v31x57) 32 v32x60) 33 v33x63) 34 v34x66) 35 v35x71) 36 v36x73) 37 v13x3) 38 v38x74) 9 v38x74) H72)
      (J5 (up (up (up (up (up (up (up (up (up (up (up (up (up (up (up (up (up (up (up (up (up (up (up (up (up (up (up σ1 11 (σ1 8)) 12 v12x2) 13 v13x3) 9 v13x3) 14 v13x3) 15 (σ1 2)) 16 v16x4) 17 v13x3) 18 v18x27) 19 (σ1 2)) 20 v20x28) 21 v20x28) 22 v22x30) 23 v23x33) 24 v24x36) 25 v25x39) 26 v26x42) 27 v27x45) 28 v28x48) 29 v29x51) 30 v30x54) 31 v31x57) 32 v32x60) 33 v33x63) 34 v34x66) 35 v35x71) 36 v36x73) H72))) (blkQ 0 (retQ prg [] K)) (up (up (S0 [a0, a1, a2, a3]) 10 a1) 8 a1) H
def O.slices_siftDownOrdered_string : Nat → Nat × List Nat := fun i => bif Nat.beq i 5 then (0, [0, 1, 2, 3, 4, 5, 6, 7, 8, 9, 10, 11, 12, 13]) else bif Nat.beq i 6 then (0, [0, 1, 2, 3, 4, 5, 6, 7, 8, 9, 10, 11, 12, 13, 14, 15, 16, 17, 18, 19, 20, 21, 22, 23]) else bif Nat.beq i 3 then (0, [0, 1, 2, 3, 4, 5, 6, 7, 8, 9, 10, 11, 12, 13, 14, 15, 16, 17, 18, 19]) else (0, [])
theorem R.slices_siftDownOrdered_string {a0 a1 a2 a3 : Value} {H : Hp} {K : Value → Hp → Prop} (h : F.slices_siftDownOrdered_string a0 a1 a2 a3 H K) : HT prg I.slices_siftDownOrdered_string [a0, a1, a2, a3].toArray H K :=
  HT_of_fev O.slices_siftDownOrdered_string mixed Tryz.func90 (by kernel_rfl) (Eq.mpr (by kernel_rfl : fev prg O.slices_siftDownOrdered_string Tryz.f90 [a0, a1, a2, a3] H K = F.slices_siftDownOrdered_string a0 a1 a2 a3 H K) h)

/-! slices.heapSortOrdered[string]: function 66 -/
def F.slices_heapSortOrdered_string (a0 a1 a2 : Value) (H : Hp) (K : Value → Hp → Prop) : Prop :=
  ob (vInt .sub a2 a1) fun v14x1 =>
  jn (fun σ2 H2 =>
    ob (vInt .sub (σ2 8) (.int .i64 1)) fun v28x3 =>
    lpE (fun Q4 σ4 H4 =>
      ob (vInt .geq (σ4 10) (.int .i64 0)) fun v30x5 =>
      cnd v30x5
        (ob (vInt .add (σ4 6) (σ4 10)) fun v38x6 =>
      ob (vInt .add (σ4 6) (σ4 10)) fun v42x7 =>
      ob (vIx 1 (σ4 0) v42x7) fun v43x8 =>
      ob (vLoad v43x8 H4) fun v44x9 =>
      ob (vIx 1 (σ4 0) (σ4 6)) fun v47x10 =>
      ob (vLoad v47x10 H4) fun v48x11 =>
      ob (vIx 1 (σ4 0) (σ4 6)) fun v49x12 =>
      st 1 v49x12 v44x9 H4 fun H13 =>
      ob (vIx 1 (σ4 0) v38x6) fun v50x14 =>
      st 1 v50x14 v48x11 H13 fun H15 =>
      HT prg I.slices_siftDownOrdered_string [(σ4 0), (σ4 7), (σ4 10), (σ4 6)].toArray H15 fun v55x16 H17 =>
      ob (vInt .sub (σ4 10) (.int .i64 1)) fun v32x18 =>
      Q4 .normal (up (up (up (up (up (up (up (up (up (up (up (up (up (up (up (up (up (up (up (up (up (up (up (up (up (up (up (up σ4 29 (σ4 10)) 30 v30x5) 33 (σ4 0)) 34 (σ4 6)) 35 (σ4 0)) 36 (σ4 6)) 37 (σ4 10)) 38 v38x6) 39 (σ4 0)) 40 (σ4 6)) 41 (σ4 10)) 42 v42x7) 43 v43x8) 44 v44x9) 45 (σ4 0)) 46 (σ4 6)) 47 v47x10) 48 v48x11) 49 v49x12) 50 v50x14) 51 (σ4 0)) 52 (σ4 7)) 53 (σ4 10)) 54 (σ4 6)) 55 v55x16) 31 (σ4 10)) 32 v32x18) 10 v32x18) H17)
        (Q4 (.exit 2) (up (up σ4 29 (σ4 10)) 30 v30x5) H4)) (blkQ 2 (retQ prg [] K)) (up (up (up σ2 27 (σ2 8)) 28 v28x3) 10 v28x3) H2) fun J2 =>
  ob (vInt .sub v14x1 (.int .i64 1)) fun v16x19 =>
  ob (vInt .quo v16x19 (.int .i64 2)) fun v17x20 =>
  lpE (fun Q21 σ21 H21 =>
    ob (vInt .geq (σ21 9) (.int .i64 0)) fun v19x22 =>
    cnd v19x22
      (HT prg I.slices_siftDownOrdered_string [(σ21 0), (σ21 9), (σ21 8), (σ21 6)].toArray H21 fun v26x23 H24 =>
    ob (vInt .sub (σ21 9) (.int .i64 1)) fun v21x25 =>
    Q21 .normal (up (up (up (up (up (up (up (up (up (up σ21 18 (σ21 9)) 19 v19x22) 22 (σ21 0)) 23 (σ21 9)) 24 (σ21 8)) 25 (σ21 6)) 26 v26x23) 20 (σ21 9)) 21 v21x25) 9 v21x25) H24)
      (Q21 (.exit 0) (up (up σ21 18 (σ21 9)) 19 v19x22) H21)) (blkQ 0 (thenQ J2 (retQ prg [] K))) (up (up (up (up (up (up (up (up (up (up (up (S0 [a0, a1, a2]) 11 a1) 6 a1) 7 (.int .i64 0)) 12 a2) 13 a1) 14 v14x1) 8 v14x1) 15 v14x1) 16 v16x19) 17 v17x20) 9 v17x20) H
def O.slices_heapSortOrdered_string : Nat → Nat × List Nat := fun i => bif Nat.beq i 10 then (0, [0, 1, 2, 3, 4, 5, 6, 7, 8, 9, 10, 11, 12, 13, 14, 15, 16, 17, 18, 19]) else (0, [])
theorem R.slices_heapSortOrdered_string {a0 a1 a2 : Value} {H : Hp} {K : Value → Hp → Prop} (h : F.slices_heapSortOrdered_string a0 a1 a2 H K) : HT prg I.slices_heapSortOrdered_string [a0, a1, a2].toArray H K :=
  HT_of_fev O.slices_heapSortOrdered_string mixed Tryz.func66 (by kernel_rfl) (Eq.mpr (by kernel_rfl : fev prg O.slices_heapSortOrdered_string Tryz.f66 [a0, a1, a2] H K = F.slices_heapSortOrdered_string a0 a1 a2 H K) h)

/-! math/bits.Len32: function 74 -/
def F.math_bits_Len32 (a0 : Value) (H : Hp) (K : Value → Hp → Prop) : Prop :=
  jn (fun σ1 H1 =>
    ob (vInt .geq (σ1 0) (.int .u32 256)) fun v8x2 =>
    cnd v8x2
      (ob (vInt .shr (σ1 0) (.int .u64 8)) fun v10x3 =>
      ob (vInt .add (σ1 2) (.int .i64 8)) fun v12x4 =>
      ob (vCI .u8 v10x3) fun v15x5 =>
    ob (vIndexS (.string ⟨#[0, 1, 2, 2, 3, 3, 3, 3, 4, 4, 4, 4, 4, 4, 4, 4, 5, 5, 5, 5, 5, 5, 5, 5, 5, 5, 5, 5, 5, 5, 5, 5, 6, 6, 6, 6, 6, 6, 6, 6, 6, 6, 6, 6, 6, 6, 6, 6, 6, 6, 6, 6, 6, 6, 6, 6, 6, 6, 6, 6, 6, 6, 6, 6, 7, 7, 7, 7, 7, 7, 7, 7, 7, 7, 7, 7, 7, 7, 7, 7, 7, 7, 7, 7, 7, 7, 7, 7, 7, 7, 7, 7, 7, 7, 7, 7, 7, 7, 7, 7, 7, 7, 7, 7, 7, 7, 7, 7, 7, 7, 7, 7, 7, 7, 7, 7, 7, 7, 7, 7, 7, 7, 7, 7, 7, 7, 7, 7, 8, 8, 8, 8, 8, 8, 8, 8, 8, 8, 8, 8, 8, 8, 8, 8, 8, 8, 8, 8, 8, 8, 8, 8, 8, 8, 8, 8, 8, 8, 8, 8, 8, 8, 8, 8, 8, 8, 8, 8, 8, 8, 8, 8, 8, 8, 8, 8, 8, 8, 8, 8, 8, 8, 8, 8, 8, 8, 8, 8, 8, 8, 8, 8, 8, 8, 8, 8, 8, 8, 8, 8, 8, 8, 8, 8, 8, 8, 8, 8, 8, 8, 8, 8, 8, 8, 8, 8, 8, 8, 8, 8, 8, 8, 8, 8, 8, 8, 8, 8, 8, 8, 8, 8, 8, 8, 8, 8, 8, 8, 8, 8, 8, 8, 8, 8, 8, 8, 8, 8, 8, 8, 8, 8, 8, 8, 8, 8]⟩) v15x5) fun v16x6 =>
    ob (vCI .i64 v16x6) fun v17x7 =>
    ob (vInt .add v12x4 v17x7) fun v18x8 =>
    K v18x8 H1)
      (ob (vCI .u8 (σ1 0)) fun v15x9 =>
    ob (vIndexS (.string ⟨#[0, 1, 2, 2, 3, 3, 3, 3, 4, 4, 4, 4, 4, 4, 4, 4, 5, 5, 5, 5, 5, 5, 5, 5, 5, 5, 5, 5, 5, 5, 5, 5, 6, 6, 6, 6, 6, 6, 6, 6, 6, 6, 6, 6, 6, 6, 6, 6, 6, 6, 6, 6, 6, 6, 6, 6, 6, 6, 6, 6, 6, 6, 6, 6, 7, 7, 7, 7, 7, 7, 7, 7, 7, 7, 7, 7, 7, 7, 7, 7, 7, 7, 7, 7, 7, 7, 7, 7, 7, 7, 7, 7, 7, 7, 7, 7, 7, 7, 7, 7, 7, 7, 7, 7, 7, 7, 7, 7, 7, 7, 7, 7, 7, 7, 7, 7, 7, 7, 7, 7, 7, 7, 7, 7, 7, 7, 7, 7, 8, 8, 8, 8, 8, 8, 8, 8, 8, 8, 8, 8, 8, 8, 8, 8, 8, 8, 8, 8, 8, 8, 8, 8, 8, 8, 8, 8, 8, 8, 8, 8, 8, 8, 8, 8, 8, 8, 8, 8, 8, 8, 8, 8, 8, 8, 8, 8, 8, 8, 8, 8, 8, 8, 8, 8, 8, 8, 8, 8, 8, 8, 8, 8, 8, 8, 8, 8, 8, 8, 8, 8, 8, 8, 8, 8, 8, 8, 8, 8, 8, 8, 8, 8, 8, 8, 8, 8, 8, 8, 8, 8, 8, 8, 8, 8, 8, 8, 8, 8, 8, 8, 8, 8, 8, 8, 8, 8, 8, 8, 8, 8, 8, 8, 8, 8, 8, 8, 8, 8, 8, 8, 8, 8, 8, 8, 8, 8]⟩) v15x9) fun v16x10 =>
    ob (vCI .i64 v16x10) fun v17x11 =>
    ob (vInt .add (σ1 2) v17x11) fun v18x12 =>
    K v18x12 H1)) fun J1 =>
  ob (vInt .geq a0 (.int .u32 65536)) fun v4x13 =>
  cnd v4x13
    (ob (vInt .shr a0 (.int .u64 16)) fun v6x14 =>
    J1 (up (up (up (up (up (up (up (S0 [a0]) 2 (.int .i64 0)) 3 a0) 4 v4x13) 5 a0) 6 v6x14) 0 v6x14) 2 (.int .i64 16)) H)
    (J1 (up (up (up (S0 [a0]) 2 (.int .i64 0)) 3 a0) 4 v4x13) H)
def O.math_bits_Len32 : Nat → Nat × List Nat := fun i => (0, [])
theorem R.math_bits_Len32 {a0 : Value} {H : Hp} {K : Value → Hp → Prop} (h : F.math_bits_Len32 a0 H K) : HT prg I.math_bits_Len32 [a0].toArray H K :=
  HT_of_fev O.math_bits_Len32 mixed Tryz.func74 (by kernel_rfl) (Eq.mpr (by kernel_rfl : fev prg O.math_bits_Len32 Tryz.f74 [a0] H K = F.math_bits_Len32 a0 H K) h)

/-! math/bits.Len: function 48 -/
def F.math_bits_Len (a0 : Value) (H : Hp) (K : Value → Hp → Prop) : Prop :=
  cnd (.bool false)
    (ob (vCI .u32 a0) fun v4x1 =>
    HT prg I.math_bits_Len32 [v4x1].toArray H fun v5x2 H3 =>
    K v5x2 H3)
    (HT prg I.math_bits_Len64 [a0].toArray H fun v7x4 H5 =>
  K v7x4 H5)
def O.math_bits_Len : Nat → Nat × List Nat := fun i => (0, [])
theorem R.math_bits_Len {a0 : Value} {H : Hp} {K : Value → Hp → Prop} (h : F.math_bits_Len a0 H K) : HT prg I.math_bits_Len [a0].toArray H K :=
  HT_of_fev O.math_bits_Len mixed Tryz.func48 (by kernel_rfl) (Eq.mpr (by kernel_rfl : fev prg O.math_bits_Len Tryz.f48 [a0] H K = F.math_bits_Len a0 H K) h)

/-! slices.nextPowerOfTwo: function 91 -/
def F.slices_nextPowerOfTwo (a0 : Value) (H : Hp) (K : Value → Hp → Prop) : Prop :=
  ob (vCI .u64 a0) fun v4x1 =>
  HT prg I.math_bits_Len [v4x1].toArray H fun v5x2 H3 =>
  ob (vInt .shl (.int .u64 1) v5x2) fun v6x4 =>
  K v6x4 H3
def O.slices_nextPowerOfTwo : Nat → Nat × List Nat := fun i => (0, [])
theorem R.slices_nextPowerOfTwo {a0 : Value} {H : Hp} {K : Value → Hp → Prop} (h : F.slices_nextPowerOfTwo a0 H K) : HT prg I.slices_nextPowerOfTwo [a0].toArray H K :=
  HT_of_fev O.slices_nextPowerOfTwo mixed Tryz.func91 (by kernel_rfl) (Eq.mpr (by kernel_rfl : fev prg O.slices_nextPowerOfTwo Tryz.f91 [a0] H K = F.slices_nextPowerOfTwo a0 H K) h)

/-! (*slices.xorshift).Next: function 92 -/
def F.pslices_xorshift_Next (a0 : Value) (H : Hp) (K : Value → Hp → Prop) : Prop :=
  ob (vNilC a0) fun v4x1 =>
  ob (vLoad v4x1 H) fun v5x2 =>
  ob (vNilC a0) fun v7x3 =>
  ob (vLoad v7x3 H) fun v8x4 =>
  ob (vInt .shl v8x4 (.int .u64 13)) fun v9x5 =>
  ob (vInt .xor v5x2 v9x5) fun v10x6 =>
  ob (vNilC a0) fun v11x7 =>
  st 1 v11x7 v10x6 H fun H8 =>
  ob (vNilC a0) fun v13x9 =>
  ob (vLoad v13x9 H8) fun v14x10 =>
  ob (vNilC a0) fun v16x11 =>
  ob (vLoad v16x11 H8) fun v17x12 =>
  ob (vInt .shr v17x12 (.int .u64 7)) fun v18x13 =>
  ob (vInt .xor v14x10 v18x13) fun v19x14 =>
  ob (vNilC a0) fun v20x15 =>
  st 1 v20x15 v19x14 H8 fun H16 =>
  ob (vNilC a0) fun v22x17 =>
  ob (vLoad v22x17 H16) fun v23x18 =>
  ob (vNilC a0) fun v25x19 =>
  ob (vLoad v25x19 H16) fun v26x20 =>
  ob (vInt .shl v26x20 (.int .u64 17)) fun v27x21 =>
  ob (vInt .xor v23x18 v27x21) fun v28x22 =>
  ob (vNilC a0) fun v29x23 =>
  st 1 v29x23 v28x22 H16 fun H24 =>
  ob (vNilC a0) fun v31x25 =>
  ob (vLoad v31x25 H24) fun v32x26 =>
  K v32x26 H24
def O.pslices_xorshift_Next : Nat → Nat × List Nat := fun i => bif Nat.beq i 1 then (0, [0, 1, 2, 3, 4, 5, 6, 7, 8, 9]) else bif Nat.beq i 2 then (0, [0, 1, 2, 3, 4, 5, 6, 7, 8, 9]) else bif Nat.beq i 3 then (0, [0, 1, 2, 3, 4, 5, 6, 7, 8, 9]) else (0, [])
theorem R.pslices_xorshift_Next {a0 : Value} {H : Hp} {K : Value → Hp → Prop} (h : F.pslices_xorshift_Next a0 H K) : HT prg I.pslices_xorshift_Next [a0].toArray H K :=
  HT_of_fev O.pslices_xorshift_Next mixed Tryz.func92 (by kernel_rfl) (Eq.mpr (by kernel_rfl : fev prg O.pslices_xorshift_Next Tryz.f92 [a0] H K = F.pslices_xorshift_Next a0 H K) h)

/-! slices.breakPatternsOrdered[string]: function 67 -/
def F.slices_breakPatternsOrdered_string (a0 a1 a2 : Value) (H : Hp) (K : Value → Hp → Prop) : Prop :=
  ob (vInt .sub a2 a1) fun v13x1 =>
  ob (vInt .geq v13x1 (.int .i64 8)) fun v15x2 =>
  cnd v15x2
    (ob (vCI .u64 v13x1) fun v17x3 =>
    nw #[(.int .u64 0)] 119 H fun v7x4 H5 =>
    st 1 v7x4 v17x3 H5 fun H6 =>
    HT prg I.slices_nextPowerOfTwo [v13x1].toArray H6 fun v19x7 H8 =>
    ob (vInt .quo v13x1 (.int .i64 4)) fun v22x9 =>
    ob (vInt .mul v22x9 (.int .i64 2)) fun v23x10 =>
    ob (vInt .add a1 v23x10) fun v24x11 =>
    ob (vInt .sub v24x11 (.int .i64 1)) fun v25x12 =>
    lpE (fun Q13 σ13 H13 =>
      ob (vInt .quo (σ13 6) (.int .i64 4)) fun v29x14 =>
      ob (vInt .mul v29x14 (.int .i64 2)) fun v30x15 =>
      ob (vInt .add (σ13 1) v30x15) fun v31x16 =>
      ob (vInt .add v31x16 (.int .i64 1)) fun v32x17 =>
      ob (vInt .leq (σ13 9) v32x17) fun v33x18 =>
      cnd v33x18
        (HT prg I.pslices_xorshift_Next [(σ13 7)].toArray H13 fun v36x19 H20 =>
      ob (vInt .sub (σ13 8) (.int .u64 1)) fun v38x21 =>
      ob (vInt .and v36x19 v38x21) fun v39x22 =>
      ob (vCI .i64 v39x22) fun v40x23 =>
      jn (fun σ24 H24 =>
        ob (vInt .add (σ24 1) (σ24 10)) fun v52x25 =>
        ob (vInt .add (σ24 1) (σ24 10)) fun v56x26 =>
        ob (vIx 1 (σ24 0) v56x26) fun v57x27 =>
        ob (vLoad v57x27 H24) fun v58x28 =>
        ob (vIx 1 (σ24 0) (σ24 9)) fun v61x29 =>
        ob (vLoad v61x29 H24) fun v62x30 =>
        ob (vIx 1 (σ24 0) (σ24 9)) fun v63x31 =>
        st 1 v63x31 v58x28 H24 fun H32 =>
        ob (vIx 1 (σ24 0) v52x25) fun v64x33 =>
        st 1 v64x33 v62x30 H32 fun H34 =>
        ob (vInt .add (σ24 9) (.int .i64 1)) fun v35x35 =>
      Q13 .normal (up (up (up (up (up (up (up (up (up (up (up (up (up (up (up (up (up (up (up (up (up σ24 47 (σ24 0)) 48 (σ24 9)) 49 (σ24 0)) 50 (σ24 1)) 51 (σ24 10)) 52 v52x25) 53 (σ24 0)) 54 (σ24 1)) 55 (σ24 10)) 56 v56x26) 57 v57x27) 58 v58x28) 59 (σ24 0)) 60 (σ24 9)) 61 v61x29) 62 v62x30) 63 v63x31) 64 v64x33) 34 (σ24 9)) 35 v35x35) 9 v35x35) H34) fun J24 =>
      ob (vInt .geq v40x23 (σ13 6)) fun v43x36 =>
      cnd v43x36
        (ob (vInt .sub v40x23 (σ13 6)) fun v46x37 =>
        J24 (up (up (up (up (up (up (up (up (up (up (up (up (up (up (up (up (up (up (up (up (up σ13 26 (σ13 9)) 27 (σ13 1)) 28 (σ13 6)) 29 v29x14) 30 v30x15) 31 v31x16) 32 v32x17) 33 v33x18) 36 v36x19) 37 (σ13 8)) 38 v38x21) 39 v39x22) 40 v40x23) 10 v40x23) 41 v40x23) 42 (σ13 6)) 43 v43x36) 44 v40x23) 45 (σ13 6)) 46 v46x37) 10 v46x37) H20)
        (J24 (up (up (up (up (up (up (up (up (up (up (up (up (up (up (up (up (up σ13 26 (σ13 9)) 27 (σ13 1)) 28 (σ13 6)) 29 v29x14) 30 v30x15) 31 v31x16) 32 v32x17) 33 v33x18) 36 v36x19) 37 (σ13 8)) 38 v38x21) 39 v39x22) 40 v40x23) 10 v40x23) 41 v40x23) 42 (σ13 6)) 43 v43x36) H20))
        (Q13 (.exit 0) (up (up (up (up (up (up (up (up σ13 26 (σ13 9)) 27 (σ13 1)) 28 (σ13 6)) 29 v29x14) 30 v30x15) 31 v31x16) 32 v32x17) 33 v33x18) H13)) (blkQ 0 (retQ prg [] K)) (up (up (up (up (up (up (up (up (up (up (up (up (up (up (up (up (up (up (up (S0 [a0, a1, a2]) 11 a2) 12 a1) 13 v13x1) 6 v13x1) 14 v13x1) 15 v15x2) 16 v13x1) 17 v17x3) 7 v7x4) 18 v13x1) 19 v19x7) 8 v19x7) 20 a1) 21 v13x1) 22 v22x9) 23 v23x10) 24 v24x11) 25 v25x12) 9 v25x12) H8)
    (K (.tuple #[]) H)
def O.slices_breakPatternsOrdered_string : Nat → Nat × List Nat := fun i => bif Nat.beq i 10 then (0, [0, 1, 2, 3, 4, 5, 6, 7, 8, 9, 10, 11, 12, 13, 14, 15, 16, 17, 18, 19]) else (0, [])
theorem R.slices_breakPatternsOrdered_string {a0 a1 a2 : Value} {H : Hp} {K : Value → Hp → Prop} (h : F.slices_breakPatternsOrdered_string a0 a1 a2 H K) : HT prg I.slices_breakPatternsOrdered_string [a0, a1, a2].toArray H K :=
  HT_of_fev O.slices_breakPatternsOrdered_string mixed Tryz.func67 (by kernel_rfl) (Eq.mpr (by kernel_rfl : fev prg O.slices_breakPatternsOrdered_string Tryz.f67 [a0, a1, a2] H K = F.slices_breakPatternsOrdered_string a0 a1 a2 H K) h)

/-! slices.order2Ordered[string]: function 105 -/
def F.slices_order2Ordered_string (a0 a1 a2 a3 : Value) (H : Hp) (K : Value → Hp → Prop) : Prop :=
  ob (vIx 1 a0 a2) fun v12x1 =>
  ob (vLoad v12x1 H) fun v13x2 =>
  ob (vIx 1 a0 a1) fun v16x3 =>
  ob (vLoad v16x3 H) fun v17x4 =>
  HT prg I.cmp_Less_string [v13x2, v17x4].toArray H fun v18x5 H6 =>
  Le H H6 ∧ (cnd v18x5
    (ob (vNilC a3) fun v20x7 =>
    ob (vLoad v20x7 H6) fun v21x8 =>
    ob (vInt .add v21x8 (.int .i64 1)) fun v22x9 =>
    ob (vNilC a3) fun v23x10 =>
    st 1 v23x10 v22x9 H6 fun H11 =>
    K (.tuple #[a2, a1]) H11)
    (K (.tuple #[a1, a2]) H6))
def O.slices_order2Ordered_string : Nat → Nat × List Nat := fun i => bif Nat.beq i 1 then (0, [0, 1, 2, 3, 4, 5, 6, 7, 8]) else (0, [])
theorem R.slices_order2Ordered_string {a0 a1 a2 a3 : Value} {H : Hp} {K : Value → Hp → Prop} (h : F.slices_order2Ordered_string a0 a1 a2 a3 H K) : HT prg I.slices_order2Ordered_string [a0, a1, a2, a3].toArray H K :=
  HT_of_fev O.slices_order2Ordered_string mixed Tryz.func105 (by kernel_rfl) (Eq.mpr (by kernel_rfl : fev prg O.slices_order2Ordered_string Tryz.f105 [a0, a1, a2, a3] H K = F.slices_order2Ordered_string a0 a1 a2 a3 H K) h)

/-! slices.medianOrdered[string]: function 94 -/
def F.slices_medianOrdered_string (a0 a1 a2 a3 a4 : Value) (H : Hp) (K : Value → Hp → Prop) : Prop :=
  HT prg I.slices_order2Ordered_string [a0, a1, a2, a4].toArray H fun v16x1 H2 =>
  ob (vExt v16x1 0) fun v17x3 =>
  ob (vExt v16x1 1) fun v18x4 =>
  HT prg I.slices_order2Ordered_string [a0, v18x4, a3, a4].toArray H2 fun v24x5 H6 =>
  ob (vExt v24x5 0) fun v25x7 =>
  ob (vExt v24x5 1) fun v26x8 =>
  HT prg I.slices_order2Ordered_string [a0, v17x3, v25x7, a4].toArray H6 fun v32x9 H10 =>
  ob (vExt v32x9 0) fun v33x11 =>
  ob (vExt v32x9 1) fun v34x12 =>
  K v34x12 H10
def O.slices_medianOrdered_string : Nat → Nat × List Nat := fun i => (0, [])
theorem R.slices_medianOrdered_string {a0 a1 a2 a3 a4 : Value} {H : Hp} {K : Value → Hp → Prop} (h : F.slices_medianOrdered_string a0 a1 a2 a3 a4 H K) : HT prg I.slices_medianOrdered_string [a0, a1, a2, a3, a4].toArray H K :=
  HT_of_fev O.slices_medianOrdered_string mixed Tryz.func94 (by kernel_rfl) (Eq.mpr (by kernel_rfl : fev prg O.slices_medianOrdered_string Tryz.f94 [a0, a1, a2, a3, a4] H K = F.slices_medianOrdered_string a0 a1 a2 a3 a4 H K) h)

/-! slices.medianAdjacentOrdered[string]: function 93 -/
def F.slices_medianAdjacentOrdered_string (a0 a1 a2 : Value) (H : Hp) (K : Value → Hp → Prop) : Prop :=
  ob (vInt .sub a1 (.int .i64 1)) fun v9x1 =>
  ob (vInt .add a1 (.int .i64 1)) fun v12x2 =>
  HT prg I.slices_medianOrdered_string [a0, v9x1, a1, v12x2, a2].toArray H fun v14x3 H4 =>
  K v14x3 H4
def O.slices_medianAdjacentOrdered_string : Nat → Nat × List Nat := fun i => (0, [])
theorem R.slices_medianAdjacentOrdered_string {a0 a1 a2 : Value} {H : Hp} {K : Value → Hp → Prop} (h : F.slices_medianAdjacentOrdered_string a0 a1 a2 H K) : HT prg I.slices_medianAdjacentOrdered_string [a0, a1, a2].toArray H K :=
  HT_of_fev O.slices_medianAdjacentOrdered_string mixed Tryz.func93 (by kernel_rfl) (Eq.mpr (by kernel_rfl : fev prg O.slices_medianAdjacentOrdered_string Tryz.f93 [a0, a1, a2] H K = F.slices_medianAdjacentOrdered_string a0 a1 a2 H K) h)

/-! slices.choosePivotOrdered[string]: function 68 -/
def F.slices_choosePivotOrdered_string (a0 a1 a2 : Value) (H : Hp) (K : Value → Hp → Prop) : Prop :=
  ob (vInt .sub a2 a1) fun v15x1 =>
  nw #[(.int .i64 0)] 3 H fun v9x2 H3 =>
  ob (vInt .quo v15x1 (.int .i64 4)) fun v18x4 =>
  ob (vInt .mul v18x4 (.int .i64 1)) fun v19x5 =>
  ob (vInt .add a1 v19x5) fun v20x6 =>
  ob (vInt .quo v15x1 (.int .i64 4)) fun v23x7 =>
  ob (vInt .mul v23x7 (.int .i64 2)) fun v24x8 =>
  ob (vInt .add a1 v24x8) fun v25x9 =>
  ob (vInt .quo v15x1 (.int .i64 4)) fun v28x10 =>
  ob (vInt .mul v28x10 (.int .i64 3)) fun v29x11 =>
  ob (vInt .add a1 v29x11) fun v30x12 =>
  jn (fun σ13 H13 =>
    ob (vLoad (σ13 9) H13) fun v49x14 =>
    ob (vInt .eql v49x14 (.int .i64 0)) fun v52x15 =>
    cnd v52x15
      (K (.tuple #[(σ13 11), (.int .i64 1)]) H13)
      (ob (vInt .eql v49x14 (.int .i64 12)) fun v55x16 =>
      cnd v55x16
        (K (.tuple #[(σ13 11), (.int .i64 2)]) H13)
        (K (.tuple #[(σ13 11), (.int .i64 0)]) H13))) fun J13 =>
  ob (vInt .geq v15x1 (.int .i64 8)) fun v32x17 =>
  cnd v32x17
    (ob (vInt .geq v15x1 (.int .i64 50)) fun v34x18 =>
    cnd v34x18
      (HT prg I.slices_medianAdjacentOrdered_string [a0, v20x6, v9x2].toArray H3 fun v37x19 H20 =>
      HT prg I.slices_medianAdjacentOrdered_string [a0, v25x9, v9x2].toArray H20 fun v40x21 H22 =>
      HT prg I.slices_medianAdjacentOrdered_string [a0, v30x12, v9x2].toArray H22 fun v43x23 H24 =>
      HT prg I.slices_medianOrdered_string [a0, v37x19, v40x21, v43x23, v9x2].toArray H24 fun v48x25 H26 =>
    J13 (up (up (up (up (up (up (up (up (up (up (up (up (up (up (up (up (up (up (up (up (up (up (up (up (up (up (up (up (up (up (up (up (up (up (up (up (up (up (up (up (up (up (up (up (up (up (up (S0 [a0, a1, a2]) 6 (.int .i64 0)) 7 (.int .i64 0)) 13 a2) 14 a1) 15 v15x1) 8 v15x1) 9 v9x2) 16 a1) 17 v15x1) 18 v18x4) 19 v19x5) 20 v20x6) 10 v20x6) 21 a1) 22 v15x1) 23 v23x7) 24 v24x8) 25 v25x9) 11 v25x9) 26 a1) 27 v15x1) 28 v28x10) 29 v29x11) 30 v30x12) 12 v30x12) 31 v15x1) 32 v32x17) 33 v15x1) 34 v34x18) 35 a0) 36 v20x6) 37 v37x19) 10 v37x19) 38 a0) 39 v25x9) 40 v40x21) 11 v40x21) 41 a0) 42 v30x12) 43 v43x23) 12 v43x23) 44 a0) 45 v37x19) 46 v40x21) 47 v43x23) 48 v48x25) 11 v48x25) H26)
      (HT prg I.slices_medianOrdered_string [a0, v20x6, v25x9, v30x12, v9x2].toArray H3 fun v48x27 H28 =>
    J13 (up (up (up (up (up (up (up (up (up (up (up (up (up (up (up (up (up (up (up (up (up (up (up (up (up (up (up (up (up (up (up (up (up (up (up (S0 [a0, a1, a2]) 6 (.int .i64 0)) 7 (.int .i64 0)) 13 a2) 14 a1) 15 v15x1) 8 v15x1) 9 v9x2) 16 a1) 17 v15x1) 18 v18x4) 19 v19x5) 20 v20x6) 10 v20x6) 21 a1) 22 v15x1) 23 v23x7) 24 v24x8) 25 v25x9) 11 v25x9) 26 a1) 27 v15x1) 28 v28x10) 29 v29x11) 30 v30x12) 12 v30x12) 31 v15x1) 32 v32x17) 33 v15x1) 34 v34x18) 44 a0) 45 v20x6) 46 v25x9) 47 v30x12) 48 v48x27) 11 v48x27) H28))
    (J13 (up (up (up (up (up (up (up (up (up (up (up (up (up (up (up (up (up (up (up (up (up (up (up (up (up (up (up (S0 [a0, a1, a2]) 6 (.int .i64 0)) 7 (.int .i64 0)) 13 a2) 14 a1) 15 v15x1) 8 v15x1) 9 v9x2) 16 a1) 17 v15x1) 18 v18x4) 19 v19x5) 20 v20x6) 10 v20x6) 21 a1) 22 v15x1) 23 v23x7) 24 v24x8) 25 v25x9) 11 v25x9) 26 a1) 27 v15x1) 28 v28x10) 29 v29x11) 30 v30x12) 12 v30x12) 31 v15x1) 32 v32x17) H3)
def O.slices_choosePivotOrdered_string : Nat → Nat × List Nat := fun i => (0, [])
theorem R.slices_choosePivotOrdered_string {a0 a1 a2 : Value} {H : Hp} {K : Value → Hp → Prop} (h : F.slices_choosePivotOrdered_string a0 a1 a2 H K) : HT prg I.slices_choosePivotOrdered_string [a0, a1, a2].toArray H K :=
  HT_of_fev O.slices_choosePivotOrdered_string mixed Tryz.func68 (by kernel_rfl) (Eq.mpr (by kernel_rfl : fev prg O.slices_choosePivotOrdered_string Tryz.f68 [a0, a1, a2] H K = F.slices_choosePivotOrdered_string a0 a1 a2 H K) h)

/-! slices.reverseRangeOrdered[string]: function 69 -/
def F.slices_reverseRangeOrdered_string (a0 a1 a2 : Value) (H : Hp) (K : Value → Hp → Prop) : Prop :=
  ob (vInt .sub a2 (.int .i64 1)) fun v10x1 =>
  lpE (fun Q2 σ2 H2 =>
    ob (vInt .lss (σ2 6) (σ2 7)) fun v13x3 =>
    cnd v13x3
      (ob (vIx 1 (σ2 0) (σ2 7)) fun v20x4 =>
    ob (vLoad v20x4 H2) fun v21x5 =>
    ob (vIx 1 (σ2 0) (σ2 6)) fun v24x6 =>
    ob (vLoad v24x6 H2) fun v25x7 =>
    ob (vIx 1 (σ2 0) (σ2 6)) fun v26x8 =>
    st 1 v26x8 v21x5 H2 fun H9 =>
    ob (vIx 1 (σ2 0) (σ2 7)) fun v27x10 =>
    st 1 v27x10 v25x7 H9 fun H11 =>
    ob (vInt .add (σ2 6) (.int .i64 1)) fun v29x12 =>
    ob (vInt .sub (σ2 7) (.int .i64 1)) fun v31x13 =>
    Q2 .normal (up (up (up (up (up (up (up (up (up (up (up (up (up (up (up (up (up (up (up (up (up (up (up σ2 11 (σ2 6)) 12 (σ2 7)) 13 v13x3) 14 (σ2 0)) 15 (σ2 6)) 16 (σ2 0)) 17 (σ2 7)) 18 (σ2 0)) 19 (σ2 7)) 20 v20x4) 21 v21x5) 22 (σ2 0)) 23 (σ2 6)) 24 v24x6) 25 v25x7) 26 v26x8) 27 v27x10) 28 (σ2 6)) 29 v29x12) 6 v29x12) 30 (σ2 7)) 31 v31x13) 7 v31x13) H11)
      (Q2 (.exit 0) (up (up (up σ2 11 (σ2 6)) 12 (σ2 7)) 13 v13x3) H2)) (blkQ 0 (retQ prg [] K)) (up (up (up (up (up (S0 [a0, a1, a2]) 8 a1) 6 a1) 9 a2) 10 v10x1) 7 v10x1) H
def O.slices_reverseRangeOrdered_string : Nat → Nat × List Nat := fun i => bif Nat.beq i 3 then (0, [0, 1, 2, 3, 4, 5, 6, 7, 8, 9, 10, 11, 12, 13, 14, 15]) else (0, [])
theorem R.slices_reverseRangeOrdered_string {a0 a1 a2 : Value} {H : Hp} {K : Value → Hp → Prop} (h : F.slices_reverseRangeOrdered_string a0 a1 a2 H K) : HT prg I.slices_reverseRangeOrdered_string [a0, a1, a2].toArray H K :=
  HT_of_fev O.slices_reverseRangeOrdered_string mixed Tryz.func69 (by kernel_rfl) (Eq.mpr (by kernel_rfl : fev prg O.slices_reverseRangeOrdered_string Tryz.f69 [a0, a1, a2] H K = F.slices_reverseRangeOrdered_string a0 a1 a2 H K) h)

/-! slices.partialInsertionSortOrdered[string]: function 70 -/
def F.slices_partialInsertionSortOrdered_string (a0 a1 a2 : Value) (H : Hp) (K : Value → Hp → Prop) : Prop :=
  ob (vInt .add a1 (.int .i64 1)) fun v12x1 =>
  jn (fun σ2 H2 =>
    K (.bool false) H2) fun J2 =>
  lpE (fun Q3 σ3 H3 =>
    ob (vInt .lss (σ3 8) (.int .i64 5)) fun v14x4 =>
    cnd v14x4
      (jn (fun σ5 H5 =>
      ob (vInt .add (σ5 8) (.int .i64 1)) fun v16x6 =>
      Q3 .normal (up (up (up σ5 15 (σ5 8)) 16 v16x6) 8 v16x6) H5) fun J5 =>
    jn (fun σ7 H7 =>
      ob (vInt .eql (σ7 7) (σ7 2)) fun v37x8 =>
      cnd v37x8
        (Q3 .ret (up (up (up (up σ7 35 (σ7 7)) 36 (σ7 2)) 37 v37x8) 6 (.bool true)) H7)
        (ob (vInt .sub (σ7 2) (σ7 1)) fun v40x9 =>
      ob (vInt .lss v40x9 (.int .i64 50)) fun v41x10 =>
      cnd v41x10
        (Q3 .ret (up (up (up (up (up (up (up (up σ7 35 (σ7 7)) 36 (σ7 2)) 37 v37x8) 38 (σ7 2)) 39 (σ7 1)) 40 v40x9) 41 v41x10) 6 (.bool false)) H7)
        (ob (vInt .sub (σ7 7) (.int .i64 1)) fun v46x11 =>
      ob (vInt .sub (σ7 7) (.int .i64 1)) fun v49x12 =>
      ob (vIx 1 (σ7 0) v49x12) fun v50x13 =>
      ob (vLoad v50x13 H7) fun v51x14 =>
      ob (vIx 1 (σ7 0) (σ7 7)) fun v54x15 =>
      ob (vLoad v54x15 H7) fun v55x16 =>
      ob (vIx 1 (σ7 0) (σ7 7)) fun v56x17 =>
      st 1 v56x17 v51x14 H7 fun H18 =>
      ob (vIx 1 (σ7 0) v46x11) fun v57x19 =>
      st 1 v57x19 v55x16 H18 fun H20 =>
      jn (fun σ21 H21 =>
        ob (vInt .sub (σ21 2) (σ21 7)) fun v97x22 =>
        ob (vInt .geq v97x22 (.int .i64 2)) fun v98x23 =>
        cnd v98x23
          (ob (vInt .add (σ21 7) (.int .i64 1)) fun v100x24 =>
          lpE (fun Q25 σ25 H25 =>
            ob (vInt .lss (σ25 10) (σ25 2)) fun v103x26 =>
            cnd v103x26
              (ob (vIx 1 (σ25 0) (σ25 10)) fun v108x27 =>
            ob (vLoad v108x27 H25) fun v109x28 =>
            ob (vInt .sub (σ25 10) (.int .i64 1)) fun v112x29 =>
            ob (vIx 1 (σ25 0) v112x29) fun v113x30 =>
            ob (vLoad v113x30 H25) fun v114x31 =>
            HT prg I.cmp_Less_string [v109x28, v114x31].toArray H25 fun v115x32 H33 =>
            Le H25 H33 ∧ (ob (vUn .not v115x32) fun v116x34 =>
            cnd v116x34
              (Q25 (.exit 6) (up (up (up (up (up (up (up (up (up (up (up (up (up (up σ25 101 (σ25 10)) 102 (σ25 2)) 103 v103x26) 106 (σ25 0)) 107 (σ25 10)) 108 v108x27) 109 v109x28) 110 (σ25 0)) 111 (σ25 10)) 112 v112x29) 113 v113x30) 114 v114x31) 115 v115x32) 116 v116x34) H33)
              (ob (vInt .sub (σ25 10) (.int .i64 1)) fun v121x35 =>
            ob (vInt .sub (σ25 10) (.int .i64 1)) fun v124x36 =>
            ob (vIx 1 (σ25 0) v124x36) fun v125x37 =>
            ob (vLoad v125x37 H33) fun v126x38 =>
            ob (vIx 1 (σ25 0) (σ25 10)) fun v129x39 =>
            ob (vLoad v129x39 H33) fun v130x40 =>
            ob (vIx 1 (σ25 0) (σ25 10)) fun v131x41 =>
            st 1 v131x41 v126x38 H33 fun H42 =>
            ob (vIx 1 (σ25 0) v121x35) fun v132x43 =>
            st 1 v132x43 v130x40 H42 fun H44 =>
            ob (vInt .add (σ25 10) (.int .i64 1)) fun v105x45 =>
            Q25 .normal (up (up (up (up (up (up (up (up (up (up (up (up (up (up (up (up (up (up (up (up (up (up (up (up (up (up (up (up (up (up (up (up (up σ25 101 (σ25 10)) 102 (σ25 2)) 103 v103x26) 106 (σ25 0)) 107 (σ25 10)) 108 v108x27) 109 v109x28) 110 (σ25 0)) 111 (σ25 10)) 112 v112x29) 113 v113x30) 114 v114x31) 115 v115x32) 116 v116x34) 117 (σ25 0)) 118 (σ25 10)) 119 (σ25 0)) 120 (σ25 10)) 121 v121x35) 122 (σ25 0)) 123 (σ25 10)) 124 v124x36) 125 v125x37) 126 v126x38) 127 (σ25 0)) 128 (σ25 10)) 129 v129x39) 130 v130x40) 131 v131x41) 132 v132x43) 104 (σ25 10)) 105 v105x45) 10 v105x45) H44)))
              (Q25 (.exit 6) (up (up (up σ25 101 (σ25 10)) 102 (σ25 2)) 103 v103x26) H25)) (blkQ 6 (blkQ 1 (thenQ J5 Q3))) (up (up (up (up (up (up (up σ21 95 (σ21 2)) 96 (σ21 7)) 97 v97x22) 98 v98x23) 99 (σ21 7)) 100 v100x24) 10 v100x24) H21)
          (J5 (up (up (up (up σ21 95 (σ21 2)) 96 (σ21 7)) 97 v97x22) 98 v98x23) H21)) fun J21 =>
      ob (vInt .sub (σ7 7) (σ7 1)) fun v60x46 =>
      ob (vInt .geq v60x46 (.int .i64 2)) fun v61x47 =>
      cnd v61x47
        (ob (vInt .sub (σ7 7) (.int .i64 1)) fun v63x48 =>
        lpE (fun Q49 σ49 H49 =>
          ob (vInt .geq (σ49 9) (.int .i64 1)) fun v65x50 =>
          cnd v65x50
            (ob (vIx 1 (σ49 0) (σ49 9)) fun v70x51 =>
          ob (vLoad v70x51 H49) fun v71x52 =>
          ob (vInt .sub (σ49 9) (.int .i64 1)) fun v74x53 =>
          ob (vIx 1 (σ49 0) v74x53) fun v75x54 =>
          ob (vLoad v75x54 H49) fun v76x55 =>
          HT prg I.cmp_Less_string [v71x52, v76x55].toArray H49 fun v77x56 H57 =>
          Le H49 H57 ∧ (ob (vUn .not v77x56) fun v78x58 =>
          cnd v78x58
            (Q49 (.exit 4) (up (up (up (up (up (up (up (up (up (up (up (up (up σ49 64 (σ49 9)) 65 v65x50) 68 (σ49 0)) 69 (σ49 9)) 70 v70x51) 71 v71x52) 72 (σ49 0)) 73 (σ49 9)) 74 v74x53) 75 v75x54) 76 v76x55) 77 v77x56) 78 v78x58) H57)
            (ob (vInt .sub (σ49 9) (.int .i64 1)) fun v83x59 =>
          ob (vInt .sub (σ49 9) (.int .i64 1)) fun v86x60 =>
          ob (vIx 1 (σ49 0) v86x60) fun v87x61 =>
          ob (vLoad v87x61 H57) fun v88x62 =>
          ob (vIx 1 (σ49 0) (σ49 9)) fun v91x63 =>
          ob (vLoad v91x63 H57) fun v92x64 =>
          ob (vIx 1 (σ49 0) (σ49 9)) fun v93x65 =>
          st 1 v93x65 v88x62 H57 fun H66 =>
          ob (vIx 1 (σ49 0) v83x59) fun v94x67 =>
          st 1 v94x67 v92x64 H66 fun H68 =>
          ob (vInt .sub (σ49 9) (.int .i64 1)) fun v67x69 =>
          Q49 .normal (up (up (up (up (up (up (up (up (up (up (up (up (up (up (up (up (up (up (up (up (up (up (up (up (up (up (up (up (up (up (up (up σ49 64 (σ49 9)) 65 v65x50) 68 (σ49 0)) 69 (σ49 9)) 70 v70x51) 71 v71x52) 72 (σ49 0)) 73 (σ49 9)) 74 v74x53) 75 v75x54) 76 v76x55) 77 v77x56) 78 v78x58) 79 (σ49 0)) 80 (σ49 9)) 81 (σ49 0)) 82 (σ49 9)) 83 v83x59) 84 (σ49 0)) 85 (σ49 9)) 86 v86x60) 87 v87x61) 88 v88x62) 89 (σ49 0)) 90 (σ49 9)) 91 v91x63) 92 v92x64) 93 v93x65) 94 v94x67) 66 (σ49 9)) 67 v67x69) 9 v67x69) H68)))
            (Q49 (.exit 4) (up (up σ49 64 (σ49 9)) 65 v65x50) H49)) (blkQ 4 (thenQ J21 (blkQ 1 (thenQ J5 Q3)))) (up (up (up (up (up (up (up (up (up (up (up (up (up (up (up (up (up (up (up (up (up (up (up (up (up (up (up (up (up (up σ7 35 (σ7 7)) 36 (σ7 2)) 37 v37x8) 38 (σ7 2)) 39 (σ7 1)) 40 v40x9) 41 v41x10) 42 (σ7 0)) 43 (σ7 7)) 44 (σ7 0)) 45 (σ7 7)) 46 v46x11) 47 (σ7 0)) 48 (σ7 7)) 49 v49x12) 50 v50x13) 51 v51x14) 52 (σ7 0)) 53 (σ7 7)) 54 v54x15) 55 v55x16) 56 v56x17) 57 v57x19) 58 (σ7 7)) 59 (σ7 1)) 60 v60x46) 61 v61x47) 62 (σ7 7)) 63 v63x48) 9 v63x48) H20)
        (J21 (up (up (up (up (up (up (up (up (up (up (up (up (up (up (up (up (up (up (up (up (up (up (up (up (up (up (up σ7 35 (σ7 7)) 36 (σ7 2)) 37 v37x8) 38 (σ7 2)) 39 (σ7 1)) 40 v40x9) 41 v41x10) 42 (σ7 0)) 43 (σ7 7)) 44 (σ7 0)) 45 (σ7 7)) 46 v46x11) 47 (σ7 0)) 48 (σ7 7)) 49 v49x12) 50 v50x13) 51 v51x14) 52 (σ7 0)) 53 (σ7 7)) 54 v54x15) 55 v55x16) 56 v56x17) 57 v57x19) 58 (σ7 7)) 59 (σ7 1)) 60 v60x46) 61 v61x47) H20)))) fun J7 =>
    lpE (fun Q70 σ70 H70 =>
      ob (vInt .lss (σ70 7) (σ70 2)) fun v19x71 =>
      gop v19x71 true (fun K72 => K72 (σ70 0) H70) H70 fun v21x73 H74 =>
      gop v19x71 true (fun K75 => K75 (σ70 7) H74) H74 fun v22x76 H77 =>
      gop v19x71 true (fun K78 => ob (vIx 1 v21x73 v22x76) fun u => K78 u H77) H77 fun v23x79 H80 =>
      gop v19x71 true (fun K81 => ob (vLoad v23x79 H80) fun u => K81 u H80) H80 fun v24x82 H83 =>
      gop v19x71 true (fun K84 => K84 (σ70 0) H83) H83 fun v25x85 H86 =>
      gop v19x71 true (fun K87 => K87 (σ70 7) H86) H86 fun v26x88 H89 =>
      gop v19x71 true (fun K90 => ob (vInt .sub v26x88 (.int .i64 1)) fun u => K90 u H89) H89 fun v27x91 H92 =>
      gop v19x71 true (fun K93 => ob (vIx 1 v25x85 v27x91) fun u => K93 u H92) H92 fun v28x94 H95 =>
      gop v19x71 true (fun K96 => ob (vLoad v28x94 H95) fun u => K96 u H95) H95 fun v29x97 H98 =>
      gop v19x71 true (fun K99 => HT prg I.cmp_Less_string [v24x82, v29x97].toArray H98 fun v30x100 H101 =>
      Le H98 H101 ∧ K99 v30x100 H101) H98 fun v30x102 H103 =>
      gop v19x71 true (fun K104 => ob (vUn .not v30x102) fun u => K104 u H103) H103 fun v31x105 H106 =>
      ob (vPick v19x71 v31x105 (.bool false)) fun v32x107 =>
      cnd v32x107
        (ob (vInt .add (σ70 7) (.int .i64 1)) fun v34x108 =>
      Q70 .normal (up (up (up (up (up (up (up (up (up (up (up (up (up (up (up (up (up (up (up σ70 17 (σ70 7)) 18 (σ70 2)) 19 v19x71) 20 v19x71) 21 v21x73) 22 v22x76) 23 v23x79) 24 v24x82) 25 v25x85) 26 v26x88) 27 v27x91) 28 v28x94) 29 v29x97) 30 v30x102) 31 v31x105) 32 v32x107) 33 (σ70 7)) 34 v34x108) 7 v34x108) H106)
        (Q70 (.exit 2) (up (up (up (up (up (up (up (up (up (up (up (up (up (up (up (up σ70 17 (σ70 7)) 18 (σ70 2)) 19 v19x71) 20 v19x71) 21 v21x73) 22 v22x76) 23 v23x79) 24 v24x82) 25 v25x85) 26 v26x88) 27 v27x91) 28 v28x94) 29 v29x97) 30 v30x102) 31 v31x105) 32 v32x107) H106)) (blkQ 2 (thenQ J7 (blkQ 1 (thenQ J5 Q3)))) (up (up σ3 13 (σ3 8)) 14 v14x4) H3)
      (Q3 (.exit 0) (up (up σ3 13 (σ3 8)) 14 v14x4) H3)) (blkQ 0 (thenQ J2 (retQ prg [(.tmp 6)] K))) (up (up (up (up (up (S0 [a0, a1, a2]) 6 (.bool false)) 11 a1) 12 v12x1) 7 v12x1) 8 (.int .i64 0)) H
def O.slices_partialInsertionSortOrdered_string : Nat → Nat × List Nat := fun i => bif Nat.beq i 11 then (0, [0, 1, 2, 3, 4, 5, 6, 7, 8, 9, 10, 11, 12, 13, 14, 15, 16, 17]) else bif Nat.beq i 22 then (0, [0, 1, 2, 3, 4, 5, 6, 7, 8, 9, 10]) else bif Nat.beq i 23 then (0, [0, 1, 2, 3, 4, 5, 6, 7, 8, 9, 10, 11, 12, 13, 14, 15, 16, 17]) else bif Nat.beq i 16 then (0, [0, 1, 2, 3, 4, 5, 6, 7, 8, 9, 10]) else bif Nat.beq i 17 then (0, [0, 1, 2, 3, 4, 5, 6, 7, 8, 9, 10, 11, 12, 13, 14, 15, 16, 17]) else bif Nat.beq i 5 then (0, [0, 1, 2, 3, 4, 5, 6, 7, 8, 9, 10, 11, 12, 13, 14, 15]) else (0, [])
theorem R.slices_partialInsertionSortOrdered_string {a0 a1 a2 : Value} {H : Hp} {K : Value → Hp → Prop} (h : F.slices_partialInsertionSortOrdered_string a0 a1 a2 H K) : HT prg I.slices_partialInsertionSortOrdered_string [a0, a1, a2].toArray H K :=
  HT_of_fev O.slices_partialInsertionSortOrdered_string mixed Tryz.func70 (by kernel_rfl) (Eq.mpr (by kernel_rfl : fev prg O.slices_partialInsertionSortOrdered_string Tryz.f70 [a0, a1, a2] H K = F.slices_partialInsertionSortOrdered_string a0 a1 a2 H K) h)

/-! slices.partitionEqualOrdered[string]: function 72 -/
def F.slices_partitionEqualOrdered_string (a0 a1 a2 a3 : Value) (H : Hp) (K : Value → Hp → Prop) : Prop :=
  ob (vIx 1 a0 a3) fun v17x1 =>
  ob (vLoad v17x1 H) fun v18x2 =>
  ob (vIx 1 a0 a1) fun v21x3 =>
  ob (vLoad v21x3 H) fun v22x4 =>
  ob (vIx 1 a0 a1) fun v23x5 =>
  st 1 v23x5 v18x2 H fun H6 =>
  ob (vIx 1 a0 a3) fun v24x7 =>
  st 1 v24x7 v22x4 H6 fun H8 =>
  ob (vInt .add a1 (.int .i64 1)) fun v26x9 =>
  ob (vInt .sub a2 (.int .i64 1)) fun v28x10 =>
  jn (fun σ11 H11 =>
    K (σ11 9) H11) fun J11 =>
  lpE (fun Q12 σ12 H12 =>
    jn (fun σ13 H13 =>
      jn (fun σ14 H14 =>
        ob (vInt .gtr (σ14 9) (σ14 10)) fun v64x15 =>
        cnd v64x15
          (Q12 (.exit 0) (up (up (up σ14 62 (σ14 9)) 63 (σ14 10)) 64 v64x15) H14)
          (ob (vIx 1 (σ14 0) (σ14 10)) fun v71x16 =>
        ob (vLoad v71x16 H14) fun v72x17 =>
        ob (vIx 1 (σ14 0) (σ14 9)) fun v75x18 =>
        ob (vLoad v75x18 H14) fun v76x19 =>
        ob (vIx 1 (σ14 0) (σ14 9)) fun v77x20 =>
        st 1 v77x20 v72x17 H14 fun H21 =>
        ob (vIx 1 (σ14 0) (σ14 10)) fun v78x22 =>
        st 1 v78x22 v76x19 H21 fun H23 =>
        ob (vInt .add (σ14 9) (.int .i64 1)) fun v80x24 =>
        ob (vInt .sub (σ14 10) (.int .i64 1)) fun v82x25 =>
        Q12 .normal (up (up (up (up (up (up (up (up (up (up (up (up (up (up (up (up (up (up (up (up (up (up (up σ14 62 (σ14 9)) 63 (σ14 10)) 64 v64x15) 65 (σ14 0)) 66 (σ14 9)) 67 (σ14 0)) 68 (σ14 10)) 69 (σ14 0)) 70 (σ14 10)) 71 v71x16) 72 v72x17) 73 (σ14 0)) 74 (σ14 9)) 75 v75x18) 76 v76x19) 77 v77x20) 78 v78x22) 79 (σ14 9)) 80 v80x24) 9 v80x24) 81 (σ14 10)) 82 v82x25) 10 v82x25) H23)) fun J14 =>
      lpE (fun Q26 σ26 H26 =>
        ob (vInt .leq (σ26 9) (σ26 10)) fun v48x27 =>
        gop v48x27 true (fun K28 => K28 (σ26 0) H26) H26 fun v50x29 H30 =>
        gop v48x27 true (fun K31 => K31 (σ26 1) H30) H30 fun v51x32 H33 =>
        gop v48x27 true (fun K34 => ob (vIx 1 v50x29 v51x32) fun u => K34 u H33) H33 fun v52x35 H36 =>
        gop v48x27 true (fun K37 => ob (vLoad v52x35 H36) fun u => K37 u H36) H36 fun v53x38 H39 =>
        gop v48x27 true (fun K40 => K40 (σ26 0) H39) H39 fun v54x41 H42 =>
        gop v48x27 true (fun K43 => K43 (σ26 10) H42) H42 fun v55x44 H45 =>
        gop v48x27 true (fun K46 => ob (vIx 1 v54x41 v55x44) fun u => K46 u H45) H45 fun v56x47 H48 =>
        gop v48x27 true (fun K49 => ob (vLoad v56x47 H48) fun u => K49 u H48) H48 fun v57x50 H51 =>
        gop v48x27 true (fun K52 => HT prg I.cmp_Less_string [v53x38, v57x50].toArray H51 fun v58x53 H54 =>
        Le H51 H54 ∧ K52 v58x53 H54) H51 fun v58x55 H56 =>
        ob (vPick v48x27 v58x55 (.bool false)) fun v59x57 =>
        cnd v59x57
          (ob (vInt .sub (σ26 10) (.int .i64 1)) fun v61x58 =>
        Q26 .normal (up (up (up (up (up (up (up (up (up (up (up (up (up (up (up (up (up σ26 46 (σ26 9)) 47 (σ26 10)) 48 v48x27) 49 v48x27) 50 v50x29) 51 v51x32) 52 v52x35) 53 v53x38) 54 v54x41) 55 v55x44) 56 v56x47) 57 v57x50) 58 v58x55) 59 v59x57) 60 (σ26 10)) 61 v61x58) 10 v61x58) H56)
          (Q26 (.exit 4) (up (up (up (up (up (up (up (up (up (up (up (up (up (up σ26 46 (σ26 9)) 47 (σ26 10)) 48 v48x27) 49 v48x27) 50 v50x29) 51 v51x32) 52 v52x35) 53 v53x38) 54 v54x41) 55 v55x44) 56 v56x47) 57 v57x50) 58 v58x55) 59 v59x57) H56)) (blkQ 4 (thenQ J14 (blkQ 1 Q12))) σ13 H13) fun J13 =>
    lpE (fun Q59 σ59 H59 =>
      ob (vInt .leq (σ59 9) (σ59 10)) fun v31x60 =>
      gop v31x60 true (fun K61 => K61 (σ59 0) H59) H59 fun v33x62 H63 =>
      gop v31x60 true (fun K64 => K64 (σ59 1) H63) H63 fun v34x65 H66 =>
      gop v31x60 true (fun K67 => ob (vIx 1 v33x62 v34x65) fun u => K67 u H66) H66 fun v35x68 H69 =>
      gop v31x60 true (fun K70 => ob (vLoad v35x68 H69) fun u => K70 u H69) H69 fun v36x71 H72 =>
      gop v31x60 true (fun K73 => K73 (σ59 0) H72) H72 fun v37x74 H75 =>
      gop v31x60 true (fun K76 => K76 (σ59 9) H75) H75 fun v38x77 H78 =>
      gop v31x60 true (fun K79 => ob (vIx 1 v37x74 v38x77) fun u => K79 u H78) H78 fun v39x80 H81 =>
      gop v31x60 true (fun K82 => ob (vLoad v39x80 H81) fun u => K82 u H81) H81 fun v40x83 H84 =>
      gop v31x60 true (fun K85 => HT prg I.cmp_Less_string [v36x71, v40x83].toArray H84 fun v41x86 H87 =>
      Le H84 H87 ∧ K85 v41x86 H87) H84 fun v41x88 H89 =>
      gop v31x60 true (fun K90 => ob (vUn .not v41x88) fun u => K90 u H89) H89 fun v42x91 H92 =>
      ob (vPick v31x60 v42x91 (.bool false)) fun v43x93 =>
      cnd v43x93
        (ob (vInt .add (σ59 9) (.int .i64 1)) fun v45x94 =>
      Q59 .normal (up (up (up (up (up (up (up (up (up (up (up (up (up (up (up (up (up (up σ59 29 (σ59 9)) 30 (σ59 10)) 31 v31x60) 32 v31x60) 33 v33x62) 34 v34x65) 35 v35x68) 36 v36x71) 37 v37x74) 38 v38x77) 39 v39x80) 40 v40x83) 41 v41x88) 42 v42x91) 43 v43x93) 44 (σ59 9)) 45 v45x94) 9 v45x94) H92)
        (Q59 (.exit 2) (up (up (up (up (up (up (up (up (up (up (up (up (up (up (up σ59 29 (σ59 9)) 30 (σ59 10)) 31 v31x60) 32 v31x60) 33 v33x62) 34 v34x65) 35 v35x68) 36 v36x71) 37 v37x74) 38 v38x77) 39 v39x80) 40 v40x83) 41 v41x88) 42 v42x91) 43 v43x93) H92)) (blkQ 2 (thenQ J13 (blkQ 1 Q12))) σ12 H12) (blkQ 0 (thenQ J11 (retQ prg [(.tmp 8)] K))) (up (up (up (up (up (up (up (up (up (up (up (up (up (up (up (up (up (up (up (up (up (S0 [a0, a1, a2, a3]) 8 (.int .i64 0)) 11 a0) 12 a1) 13 a0) 14 a3) 15 a0) 16 a3) 17 v17x1) 18 v18x2) 19 a0) 20 a1) 21 v21x3) 22 v22x4) 23 v23x5) 24 v24x7) 25 a1) 26 v26x9) 27 a2) 28 v28x10) 9 v26x9) 10 v28x10) H8
def O.slices_partitionEqualOrdered_string : Nat → Nat × List Nat := fun i => bif Nat.beq i 1 then (0, [0, 1, 2, 3, 4, 5, 6, 7, 8, 9, 10, 11, 12, 13, 14, 15]) else bif Nat.beq i 8 then (0, [0, 1, 2, 3, 4, 5, 6, 7, 8, 9, 10, 11, 12, 13, 14, 15]) else bif Nat.beq i 5 then (0, [0, 1, 2, 3, 4, 5, 6, 7, 8, 9, 10, 11, 12, 13]) else bif Nat.beq i 3 then (0, [0, 1, 2, 3, 4, 5, 6, 7, 8, 9, 10, 11, 12, 13, 14]) else (0, [])
theorem R.slices_partitionEqualOrdered_string {a0 a1 a2 a3 : Value} {H : Hp} {K : Value → Hp → Prop} (h : F.slices_partitionEqualOrdered_string a0 a1 a2 a3 H K) : HT prg I.slices_partitionEqualOrdered_string [a0, a1, a2, a3].toArray H K :=
  HT_of_fev O.slices_partitionEqualOrdered_string mixed Tryz.func72 (by kernel_rfl) (Eq.mpr (by kernel_rfl : fev prg O.slices_partitionEqualOrdered_string Tryz.f72 [a0, a1, a2, a3] H K = F.slices_partitionEqualOrdered_string a0 a1 a2 a3 H K) h)

/-! slices.partitionOrdered[string]: function 73 -/
def F.slices_partitionOrdered_string (a0 a1 a2 a3 : Value) (H : Hp) (K : Value → Hp → Prop) : Prop :=
  ob (vIx 1 a0 a3) fun v18x1 =>
  ob (vLoad v18x1 H) fun v19x2 =>
  ob (vIx 1 a0 a1) fun v22x3 =>
  ob (vLoad v22x3 H) fun v23x4 =>
  ob (vIx 1 a0 a1) fun v24x5 =>
  st 1 v24x5 v19x2 H fun H6 =>
  ob (vIx 1 a0 a3) fun v25x7 =>
  st 1 v25x7 v23x4 H6 fun H8 =>
  ob (vInt .add a1 (.int .i64 1)) fun v27x9 =>
  ob (vInt .sub a2 (.int .i64 1)) fun v29x10 =>
  jn (fun σ11 H11 =>
    jn (fun σ12 H12 =>
      ob (vInt .gtr (σ12 10) (σ12 11)) fun v65x13 =>
      cnd v65x13
        (ob (vIx 1 (σ12 0) (σ12 1)) fun v72x14 =>
        ob (vLoad v72x14 H12) fun v73x15 =>
        ob (vIx 1 (σ12 0) (σ12 11)) fun v76x16 =>
        ob (vLoad v76x16 H12) fun v77x17 =>
        ob (vIx 1 (σ12 0) (σ12 11)) fun v78x18 =>
        st 1 v78x18 v73x15 H12 fun H19 =>
        ob (vIx 1 (σ12 0) (σ12 1)) fun v79x20 =>
        st 1 v79x20 v77x17 H19 fun H21 =>
        K (.tuple #[(σ12 11), (.bool true)]) H21)
        (ob (vIx 1 (σ12 0) (σ12 11)) fun v87x22 =>
      ob (vLoad v87x22 H12) fun v88x23 =>
      ob (vIx 1 (σ12 0) (σ12 10)) fun v91x24 =>
      ob (vLoad v91x24 H12) fun v92x25 =>
      ob (vIx 1 (σ12 0) (σ12 10)) fun v93x26 =>
      st 1 v93x26 v88x23 H12 fun H27 =>
      ob (vIx 1 (σ12 0) (σ12 11)) fun v94x28 =>
      st 1 v94x28 v92x25 H27 fun H29 =>
      ob (vInt .add (σ12 10) (.int .i64 1)) fun v96x30 =>
      ob (vInt .sub (σ12 11) (.int .i64 1)) fun v98x31 =>
      jn (fun σ32 H32 =>
        ob (vIx 1 (σ32 0) (σ32 1)) fun v159x33 =>
        ob (vLoad v159x33 H32) fun v160x34 =>
        ob (vIx 1 (σ32 0) (σ32 11)) fun v163x35 =>
        ob (vLoad v163x35 H32) fun v164x36 =>
        ob (vIx 1 (σ32 0) (σ32 11)) fun v165x37 =>
        st 1 v165x37 v160x34 H32 fun H38 =>
        ob (vIx 1 (σ32 0) (σ32 1)) fun v166x39 =>
        st 1 v166x39 v164x36 H38 fun H40 =>
        K (.tuple #[(σ32 11), (.bool false)]) H40) fun J32 =>
      lpE (fun Q41 σ41 H41 =>
        jn (fun σ42 H42 =>
          jn (fun σ43 H43 =>
            ob (vInt .gtr (σ43 10) (σ43 11)) fun v134x44 =>
            cnd v134x44
              (Q41 (.exit 4) (up (up (up σ43 132 (σ43 10)) 133 (σ43 11)) 134 v134x44) H43)
              (ob (vIx 1 (σ43 0) (σ43 11)) fun v141x45 =>
            ob (vLoad v141x45 H43) fun v142x46 =>
            ob (vIx 1 (σ43 0) (σ43 10)) fun v145x47 =>
            ob (vLoad v145x47 H43) fun v146x48 =>
            ob (vIx 1 (σ43 0) (σ43 10)) fun v147x49 =>
            st 1 v147x49 v142x46 H43 fun H50 =>
            ob (vIx 1 (σ43 0) (σ43 11)) fun v148x51 =>
            st 1 v148x51 v146x48 H50 fun H52 =>
            ob (vInt .add (σ43 10) (.int .i64 1)) fun v150x53 =>
            ob (vInt .sub (σ43 11) (.int .i64 1)) fun v152x54 =>
            Q41 .normal (up (up (up (up (up (up (up (up (up (up (up (up (up (up (up (up (up (up (up (up (up (up (up σ43 132 (σ43 10)) 133 (σ43 11)) 134 v134x44) 135 (σ43 0)) 136 (σ43 10)) 137 (σ43 0)) 138 (σ43 11)) 139 (σ43 0)) 140 (σ43 11)) 141 v141x45) 142 v142x46) 143 (σ43 0)) 144 (σ43 10)) 145 v145x47) 146 v146x48) 147 v147x49) 148 v148x51) 149 (σ43 10)) 150 v150x53) 10 v150x53) 151 (σ43 11)) 152 v152x54) 11 v152x54) H52)) fun J43 =>
          lpE (fun Q55 σ55 H55 =>
            ob (vInt .leq (σ55 10) (σ55 11)) fun v117x56 =>
            gop v117x56 true (fun K57 => K57 (σ55 0) H55) H55 fun v119x58 H59 =>
            gop v117x56 true (fun K60 => K60 (σ55 11) H59) H59 fun v120x61 H62 =>
            gop v117x56 true (fun K63 => ob (vIx 1 v119x58 v120x61) fun u => K63 u H62) H62 fun v121x64 H65 =>
            gop v117x56 true (fun K66 => ob (vLoad v121x64 H65) fun u => K66 u H65) H65 fun v122x67 H68 =>
            gop v117x56 true (fun K69 => K69 (σ55 0) H68) H68 fun v123x70 H71 =>
            gop v117x56 true (fun K72 => K72 (σ55 1) H71) H71 fun v124x73 H74 =>
            gop v117x56 true (fun K75 => ob (vIx 1 v123x70 v124x73) fun u => K75 u H74) H74 fun v125x76 H77 =>
            gop v117x56 true (fun K78 => ob (vLoad v125x76 H77) fun u => K78 u H77) H77 fun v126x79 H80 =>
            gop v117x56 true (fun K81 => HT prg I.cmp_Less_string [v122x67, v126x79].toArray H80 fun v127x82 H83 =>
            Le H80 H83 ∧ K81 v127x82 H83) H80 fun v127x84 H85 =>
            gop v117x56 true (fun K86 => ob (vUn .not v127x84) fun u => K86 u H85) H85 fun v128x87 H88 =>
            ob (vPick v117x56 v128x87 (.bool false)) fun v129x89 =>
            cnd v129x89
              (ob (vInt .sub (σ55 11) (.int .i64 1)) fun v131x90 =>
            Q55 .normal (up (up (up (up (up (up (up (up (up (up (up (up (up (up (up (up (up (up σ55 115 (σ55 10)) 116 (σ55 11)) 117 v117x56) 118 v117x56) 119 v119x58) 120 v120x61) 121 v121x64) 122 v122x67) 123 v123x70) 124 v124x73) 125 v125x76) 126 v126x79) 127 v127x84) 128 v128x87) 129 v129x89) 130 (σ55 11)) 131 v131x90) 11 v131x90) H88)
              (Q55 (.exit 8) (up (up (up (up (up (up (up (up (up (up (up (up (up (up (up σ55 115 (σ55 10)) 116 (σ55 11)) 117 v117x56) 118 v117x56) 119 v119x58) 120 v120x61) 121 v121x64) 122 v122x67) 123 v123x70) 124 v124x73) 125 v125x76) 126 v126x79) 127 v127x84) 128 v128x87) 129 v129x89) H88)) (blkQ 8 (thenQ J43 (blkQ 5 Q41))) σ42 H42) fun J42 =>
        lpE (fun Q91 σ91 H91 =>
          ob (vInt .leq (σ91 10) (σ91 11)) fun v101x92 =>
          gop v101x92 true (fun K93 => K93 (σ91 0) H91) H91 fun v103x94 H95 =>
          gop v101x92 true (fun K96 => K96 (σ91 10) H95) H95 fun v104x97 H98 =>
          gop v101x92 true (fun K99 => ob (vIx 1 v103x94 v104x97) fun u => K99 u H98) H98 fun v105x100 H101 =>
          gop v101x92 true (fun K102 => ob (vLoad v105x100 H101) fun u => K102 u H101) H101 fun v106x103 H104 =>
          gop v101x92 true (fun K105 => K105 (σ91 0) H104) H104 fun v107x106 H107 =>
          gop v101x92 true (fun K108 => K108 (σ91 1) H107) H107 fun v108x109 H110 =>
          gop v101x92 true (fun K111 => ob (vIx 1 v107x106 v108x109) fun u => K111 u H110) H110 fun v109x112 H113 =>
          gop v101x92 true (fun K114 => ob (vLoad v109x112 H113) fun u => K114 u H113) H113 fun v110x115 H116 =>
          gop v101x92 true (fun K117 => HT prg I.cmp_Less_string [v106x103, v110x115].toArray H116 fun v111x118 H119 =>
          Le H116 H119 ∧ K117 v111x118 H119) H116 fun v111x120 H121 =>
          ob (vPick v101x92 v111x120 (.bool false)) fun v112x122 =>
          cnd v112x122
            (ob (vInt .add (σ91 10) (.int .i64 1)) fun v114x123 =>
          Q91 .normal (up (up (up (up (up (up (up (up (up (up (up (up (up (up (up (up (up σ91 99 (σ91 10)) 100 (σ91 11)) 101 v101x92) 102 v101x92) 103 v103x94) 104 v104x97) 105 v105x100) 106 v106x103) 107 v107x106) 108 v108x109) 109 v109x112) 110 v110x115) 111 v111x120) 112 v112x122) 113 (σ91 10)) 114 v114x123) 10 v114x123) H121)
            (Q91 (.exit 6) (up (up (up (up (up (up (up (up (up (up (up (up (up (up σ91 99 (σ91 10)) 100 (σ91 11)) 101 v101x92) 102 v101x92) 103 v103x94) 104 v104x97) 105 v105x100) 106 v106x103) 107 v107x106) 108 v108x109) 109 v109x112) 110 v110x115) 111 v111x120) 112 v112x122) H121)) (blkQ 6 (thenQ J42 (blkQ 5 Q41))) σ41 H41) (blkQ 4 (thenQ J32 (retQ prg [(.tmp 8), (.tmp 9)] K))) (up (up (up (up (up (up (up (up (up (up (up (up (up (up (up (up (up (up (up (up (up (up (up σ12 63 (σ12 10)) 64 (σ12 11)) 65 v65x13) 81 (σ12 0)) 82 (σ12 10)) 83 (σ12 0)) 84 (σ12 11)) 85 (σ12 0)) 86 (σ12 11)) 87 v87x22) 88 v88x23) 89 (σ12 0)) 90 (σ12 10)) 91 v91x24) 92 v92x25) 93 v93x26) 94 v94x28) 95 (σ12 10)) 96 v96x30) 10 v96x30) 97 (σ12 11)) 98 v98x31) 11 v98x31) H29)) fun J12 =>
    lpE (fun Q124 σ124 H124 =>
      ob (vInt .leq (σ124 10) (σ124 11)) fun v48x125 =>
      gop v48x125 true (fun K126 => K126 (σ124 0) H124) H124 fun v50x127 H128 =>
      gop v48x125 true (fun K129 => K129 (σ124 11) H128) H128 fun v51x130 H131 =>
      gop v48x125 true (fun K132 => ob (vIx 1 v50x127 v51x130) fun u => K132 u H131) H131 fun v52x133 H134 =>
      gop v48x125 true (fun K135 => ob (vLoad v52x133 H134) fun u => K135 u H134) H134 fun v53x136 H137 =>
      gop v48x125 true (fun K138 => K138 (σ124 0) H137) H137 fun v54x139 H140 =>
      gop v48x125 true (fun K141 => K141 (σ124 1) H140) H140 fun v55x142 H143 =>
      gop v48x125 true (fun K144 => ob (vIx 1 v54x139 v55x142) fun u => K144 u H143) H143 fun v56x145 H146 =>
      gop v48x125 true (fun K147 => ob (vLoad v56x145 H146) fun u => K147 u H146) H146 fun v57x148 H149 =>
      gop v48x125 true (fun K150 => HT prg I.cmp_Less_string [v53x136, v57x148].toArray H149 fun v58x151 H152 =>
      Le H149 H152 ∧ K150 v58x151 H152) H149 fun v58x153 H154 =>
      gop v48x125 true (fun K155 => ob (vUn .not v58x153) fun u => K155 u H154) H154 fun v59x156 H157 =>
      ob (vPick v48x125 v59x156 (.bool false)) fun v60x158 =>
      cnd v60x158
        (ob (vInt .sub (σ124 11) (.int .i64 1)) fun v62x159 =>
      Q124 .normal (up (up (up (up (up (up (up (up (up (up (up (up (up (up (up (up (up (up σ124 46 (σ124 10)) 47 (σ124 11)) 48 v48x125) 49 v48x125) 50 v50x127) 51 v51x130) 52 v52x133) 53 v53x136) 54 v54x139) 55 v55x142) 56 v56x145) 57 v57x148) 58 v58x153) 59 v59x156) 60 v60x158) 61 (σ124 11)) 62 v62x159) 11 v62x159) H157)
        (Q124 (.exit 2) (up (up (up (up (up (up (up (up (up (up (up (up (up (up (up σ124 46 (σ124 10)) 47 (σ124 11)) 48 v48x125) 49 v48x125) 50 v50x127) 51 v51x130) 52 v52x133) 53 v53x136) 54 v54x139) 55 v55x142) 56 v56x145) 57 v57x148) 58 v58x153) 59 v59x156) 60 v60x158) H157)) (blkQ 2 (thenQ J12 (retQ prg [(.tmp 8), (.tmp 9)] K))) σ11 H11) fun J11 =>
  lpE (fun Q160 σ160 H160 =>
    ob (vInt .leq (σ160 10) (σ160 11)) fun v32x161 =>
    gop v32x161 true (fun K162 => K162 (σ160 0) H160) H160 fun v34x163 H164 =>
    gop v32x161 true (fun K165 => K165 (σ160 10) H164) H164 fun v35x166 H167 =>
    gop v32x161 true (fun K168 => ob (vIx 1 v34x163 v35x166) fun u => K168 u H167) H167 fun v36x169 H170 =>
    gop v32x161 true (fun K171 => ob (vLoad v36x169 H170) fun u => K171 u H170) H170 fun v37x172 H173 =>
    gop v32x161 true (fun K174 => K174 (σ160 0) H173) H173 fun v38x175 H176 =>
    gop v32x161 true (fun K177 => K177 (σ160 1) H176) H176 fun v39x178 H179 =>
    gop v32x161 true (fun K180 => ob (vIx 1 v38x175 v39x178) fun u => K180 u H179) H179 fun v40x181 H182 =>
    gop v32x161 true (fun K183 => ob (vLoad v40x181 H182) fun u => K183 u H182) H182 fun v41x184 H185 =>
    gop v32x161 true (fun K186 => HT prg I.cmp_Less_string [v37x172, v41x184].toArray H185 fun v42x187 H188 =>
    Le H185 H188 ∧ K186 v42x187 H188) H185 fun v42x189 H190 =>
    ob (vPick v32x161 v42x189 (.bool false)) fun v43x191 =>
    cnd v43x191
      (ob (vInt .add (σ160 10) (.int .i64 1)) fun v45x192 =>
    Q160 .normal (up (up (up (up (up (up (up (up (up (up (up (up (up (up (up (up (up σ160 30 (σ160 10)) 31 (σ160 11)) 32 v32x161) 33 v32x161) 34 v34x163) 35 v35x166) 36 v36x169) 37 v37x172) 38 v38x175) 39 v39x178) 40 v40x181) 41 v41x184) 42 v42x189) 43 v43x191) 44 (σ160 10)) 45 v45x192) 10 v45x192) H190)
      (Q160 (.exit 0) (up (up (up (up (up (up (up (up (up (up (up (up (up (up σ160 30 (σ160 10)) 31 (σ160 11)) 32 v32x161) 33 v32x161) 34 v34x163) 35 v35x166) 36 v36x169) 37 v37x172) 38 v38x175) 39 v39x178) 40 v40x181) 41 v41x184) 42 v42x189) 43 v43x191) H190)) (blkQ 0 (thenQ J11 (retQ prg [(.tmp 8), (.tmp 9)] K))) (up (up (up (up (up (up (up (up (up (up (up (up (up (up (up (up (up (up (up (up (up (up (S0 [a0, a1, a2, a3]) 8 (.int .i64 0)) 9 (.bool false)) 12 a0) 13 a1) 14 a0) 15 a3) 16 a0) 17 a3) 18 v18x1) 19 v19x2) 20 a0) 21 a1) 22 v22x3) 23 v23x4) 24 v24x5) 25 v25x7) 26 a1) 27 v27x9) 28 a2) 29 v29x10) 10 v27x9) 11 v29x10) H8
def O.slices_partitionOrdered_string : Nat → Nat × List Nat := fun i => bif Nat.beq i 1 then (0, [0, 1, 2, 3, 4, 5, 6, 7, 8, 9, 10, 11, 12, 13, 14, 15]) else bif Nat.beq i 8 then (0, [0, 1, 2, 3, 4, 5, 6, 7, 8, 9, 10, 11, 12, 13, 14, 15]) else bif Nat.beq i 10 then (0, [0, 1, 2, 3, 4, 5, 6, 7, 8, 9, 10, 11, 12, 13, 14, 15]) else bif Nat.beq i 21 then (0, [0, 1, 2, 3, 4, 5, 6, 7, 8, 9, 10, 11, 12, 13, 14, 15]) else bif Nat.beq i 18 then (0, [0, 1, 2, 3, 4, 5, 6, 7, 8, 9, 10, 11, 12, 13, 14, 15]) else bif Nat.beq i 15 then (0, [0, 1, 2, 3, 4, 5, 6, 7, 8, 9, 10, 11, 12, 13, 14]) else bif Nat.beq i 13 then (0, [0, 1, 2, 3, 4, 5, 6, 7, 8, 9, 10, 11, 12, 13]) else bif Nat.beq i 5 then (0, [0, 1, 2, 3, 4, 5, 6, 7, 8, 9, 10, 11, 12, 13, 14]) else bif Nat.beq i 3 then (0, [0, 1, 2, 3, 4, 5, 6, 7, 8, 9, 10, 11, 12, 13]) else (0, [])
theorem R.slices_partitionOrdered_string {a0 a1 a2 a3 : Value} {H : Hp} {K : Value → Hp → Prop} (h : F.slices_partitionOrdered_string a0 a1 a2 a3 H K) : HT prg I.slices_partitionOrdered_string [a0, a1, a2, a3].toArray H K :=
  HT_of_fev O.slices_partitionOrdered_string mixed Tryz.func73 (by kernel_rfl) (Eq.mpr (by kernel_rfl : fev prg O.slices_partitionOrdered_string Tryz.f73 [a0, a1, a2, a3] H K = F.slices_partitionOrdered_string a0 a1 a2 a3 H K) h)

/-! slices.pdqsortOrdered[string]: function 47 -/
def F.slices_pdqsortOrdered_string (a0 a1 a2 a3 : Value) (H : Hp) (K : Value → Hp → Prop) : Prop :=
  lpE (fun Q1 σ1 H1 =>
    ob (vInt .sub (σ1 2) (σ1 1)) fun v21x2 =>
    ob (vInt .leq v21x2 (.int .i64 12)) fun v23x3 =>
    cnd v23x3
      (HT prg I.slices_insertionSortOrdered_string [(σ1 0), (σ1 1), (σ1 2)].toArray H1 fun v27x4 H5 =>
      Q1 .ret (up (up (up (up (up (up (up (up (up (up σ1 19 (σ1 2)) 20 (σ1 1)) 21 v21x2) 10 v21x2) 22 v21x2) 23 v23x3) 24 (σ1 0)) 25 (σ1 1)) 26 (σ1 2)) 27 v27x4) H5)
      (ob (vInt .eql (σ1 3) (.int .i64 0)) fun v29x6 =>
    cnd v29x6
      (HT prg I.slices_heapSortOrdered_string [(σ1 0), (σ1 1), (σ1 2)].toArray H1 fun v33x7 H8 =>
      Q1 .ret (up (up (up (up (up (up (up (up (up (up (up (up σ1 19 (σ1 2)) 20 (σ1 1)) 21 v21x2) 10 v21x2) 22 v21x2) 23 v23x3) 28 (σ1 3)) 29 v29x6) 30 (σ1 0)) 31 (σ1 1)) 32 (σ1 2)) 33 v33x7) H8)
      (jn (fun σ9 H9 =>
      HT prg I.slices_choosePivotOrdered_string [(σ9 0), (σ9 1), (σ9 2)].toArray H9 fun v46x10 H11 =>
      ob (vExt v46x10 0) fun v47x12 =>
      ob (vExt v46x10 1) fun v48x13 =>
      jn (fun σ14 H14 =>
        jn (fun σ15 H15 =>
          ob (vInt .gtr (σ15 1) (.int .i64 0)) fun v74x16 =>
          gop v74x16 true (fun K17 => K17 (σ15 0) H15) H15 fun v76x18 H19 =>
          gop v74x16 true (fun K20 => K20 (σ15 1) H19) H19 fun v77x21 H22 =>
          gop v74x16 true (fun K23 => ob (vInt .sub v77x21 (.int .i64 1)) fun u => K23 u H22) H22 fun v78x24 H25 =>
          gop v74x16 true (fun K26 => ob (vIx 1 v76x18 v78x24) fun u => K26 u H25) H25 fun v79x27 H28 =>
          gop v74x16 true (fun K29 => ob (vLoad v79x27 H28) fun u => K29 u H28) H28 fun v80x30 H31 =>
          gop v74x16 true (fun K32 => K32 (σ15 0) H31) H31 fun v81x33 H34 =>
          gop v74x16 true (fun K35 => K35 (σ15 11) H34) H34 fun v82x36 H37 =>
          gop v74x16 true (fun K38 => ob (vIx 1 v81x33 v82x36) fun u => K38 u H37) H37 fun v83x39 H40 =>
          gop v74x16 true (fun K41 => ob (vLoad v83x39 H40) fun u => K41 u H40) H40 fun v84x42 H43 =>
          gop v74x16 true (fun K44 => HT prg I.cmp_Less_string [v80x30, v84x42].toArray H43 fun v85x45 H46 =>
          Le H43 H46 ∧ K44 v85x45 H46) H43 fun v85x47 H48 =>
          gop v74x16 true (fun K49 => ob (vUn .not v85x47) fun u => K49 u H48) H48 fun v86x50 H51 =>
          ob (vPick v74x16 v86x50 (.bool false)) fun v87x52 =>
          cnd v87x52
            (HT prg I.slices_partitionEqualOrdered_string [(σ15 0), (σ15 1), (σ15 2), (σ15 11)].toArray H51 fun v92x53 H54 =>
            Q1 .normal (up (up (up (up (up (up (up (up (up (up (up (up (up (up (up (up (up (up (up (up (up (up (up σ15 73 (σ15 1)) 74 v74x16) 75 v74x16) 76 v76x18) 77 v77x21) 78 v78x24) 79 v79x27) 80 v80x30) 81 v81x33) 82 v82x36) 83 v83x39) 84 v84x42) 85 v85x47) 86 v86x50) 87 v87x52) 88 (σ15 0)) 89 (σ15 1)) 90 (σ15 2)) 91 (σ15 11)) 92 v92x53) 13 v92x53) 93 v92x53) 1 v92x53) H54)
            (HT prg I.slices_partitionOrdered_string [(σ15 0), (σ15 1), (σ15 2), (σ15 11)].toArray H51 fun v99x55 H56 =>
          ob (vExt v99x55 0) fun v100x57 =>
          ob (vExt v99x55 1) fun v101x58 =>
          ob (vInt .sub v100x57 (σ15 1)) fun v105x59 =>
          ob (vInt .sub (σ15 2) v100x57) fun v108x60 =>
          ob (vInt .quo (σ15 10) (.int .i64 8)) fun v110x61 =>
          ob (vInt .lss v105x59 v108x60) fun v113x62 =>
          cnd v113x62
            (ob (vInt .geq v105x59 v110x61) fun v116x63 =>
            HT prg I.slices_pdqsortOrdered_string [(σ15 0), (σ15 1), v100x57, (σ15 3)].toArray H56 fun v121x64 H65 =>
            ob (vInt .add v100x57 (.int .i64 1)) fun v123x66 =>
            Q1 .normal (up (up (up (up (up (up (up (up (up (up (up (up (up (up (up (up (up (up (up (up (up (up (up (up (up (up (up (up (up (up (up (up (up (up (up (up (up (up (up (up (up (up (up (up (up (up (up (up (up (up (up (up (up σ15 73 (σ15 1)) 74 v74x16) 75 v74x16) 76 v76x18) 77 v77x21) 78 v78x24) 79 v79x27) 80 v80x30) 81 v81x33) 82 v82x36) 83 v83x39) 84 v84x42) 85 v85x47) 86 v86x50) 87 v87x52) 95 (σ15 0)) 96 (σ15 1)) 97 (σ15 2)) 98 (σ15 11)) 99 v99x55) 94 v99x55) 100 v100x57) 101 v101x58) 14 v100x57) 15 v101x58) 102 v101x58) 9 v101x58) 103 v100x57) 104 (σ15 1)) 105 v105x59) 106 (σ15 2)) 107 v100x57) 108 v108x60) 16 v105x59) 17 v108x60) 109 (σ15 10)) 110 v110x61) 18 v110x61) 111 v105x59) 112 v108x60) 113 v113x62) 114 v105x59) 115 v110x61) 116 v116x63) 8 v116x63) 117 (σ15 0)) 118 (σ15 1)) 119 v100x57) 120 (σ15 3)) 121 v121x64) 122 v100x57) 123 v123x66) 1 v123x66) H65)
            (ob (vInt .geq v108x60 v110x61) fun v126x67 =>
            ob (vInt .add v100x57 (.int .i64 1)) fun v129x68 =>
            HT prg I.slices_pdqsortOrdered_string [(σ15 0), v129x68, (σ15 2), (σ15 3)].toArray H56 fun v132x69 H70 =>
            Q1 .normal (up (up (up (up (up (up (up (up (up (up (up (up (up (up (up (up (up (up (up (up (up (up (up (up (up (up (up (up (up (up (up (up (up (up (up (up (up (up (up (up (up (up (up (up (up (up (up (up (up (up (up (up (up σ15 73 (σ15 1)) 74 v74x16) 75 v74x16) 76 v76x18) 77 v77x21) 78 v78x24) 79 v79x27) 80 v80x30) 81 v81x33) 82 v82x36) 83 v83x39) 84 v84x42) 85 v85x47) 86 v86x50) 87 v87x52) 95 (σ15 0)) 96 (σ15 1)) 97 (σ15 2)) 98 (σ15 11)) 99 v99x55) 94 v99x55) 100 v100x57) 101 v101x58) 14 v100x57) 15 v101x58) 102 v101x58) 9 v101x58) 103 v100x57) 104 (σ15 1)) 105 v105x59) 106 (σ15 2)) 107 v100x57) 108 v108x60) 16 v105x59) 17 v108x60) 109 (σ15 10)) 110 v110x61) 18 v110x61) 111 v105x59) 112 v108x60) 113 v113x62) 124 v108x60) 125 v110x61) 126 v126x67) 8 v126x67) 127 (σ15 0)) 128 v100x57) 129 v129x68) 130 (σ15 2)) 131 (σ15 3)) 132 v132x69) 133 v100x57) 2 v100x57) H70))) fun J15 =>
        gop (σ14 8) true (fun K71 => K71 (σ14 9) H14) H14 fun v63x72 H73 =>
        ob (vPick (σ14 8) v63x72 (.bool false)) fun v64x74 =>
        gop v64x74 true (fun K75 => K75 (σ14 12) H73) H73 fun v66x76 H77 =>
        gop v64x74 true (fun K78 => ob (vInt .eql v66x76 (.int .i64 1)) fun u => K78 u H77) H77 fun v67x79 H80 =>
        ob (vPick v64x74 v67x79 (.bool false)) fun v68x81 =>
        cnd v68x81
          (HT prg I.slices_partialInsertionSortOrdered_string [(σ14 0), (σ14 1), (σ14 2)].toArray H80 fun v72x82 H83 =>
          cnd v72x82
            (Q1 .ret (up (up (up (up (up (up (up (up (up (up (up (up σ14 61 (σ14 8)) 62 (σ14 8)) 63 v63x72) 64 v64x74) 65 v64x74) 66 v66x76) 67 v67x79) 68 v68x81) 69 (σ14 0)) 70 (σ14 1)) 71 (σ14 2)) 72 v72x82) H83)
            (J15 (up (up (up (up (up (up (up (up (up (up (up (up σ14 61 (σ14 8)) 62 (σ14 8)) 63 v63x72) 64 v64x74) 65 v64x74) 66 v66x76) 67 v67x79) 68 v68x81) 69 (σ14 0)) 70 (σ14 1)) 71 (σ14 2)) 72 v72x82) H83))
          (J15 (up (up (up (up (up (up (up (up σ14 61 (σ14 8)) 62 (σ14 8)) 63 v63x72) 64 v64x74) 65 v64x74) 66 v66x76) 67 v67x79) 68 v68x81) H80)) fun J14 =>
      ob (vInt .eql v48x13 (.int .i64 2)) fun v50x84 =>
      cnd v50x84
        (HT prg I.slices_reverseRangeOrdered_string [(σ9 0), (σ9 1), (σ9 2)].toArray H11 fun v54x85 H86 =>
        ob (vInt .sub (σ9 2) (.int .i64 1)) fun v56x87 =>
        ob (vInt .sub v47x12 (σ9 1)) fun v59x88 =>
        ob (vInt .sub v56x87 v59x88) fun v60x89 =>
        J14 (up (up (up (up (up (up (up (up (up (up (up (up (up (up (up (up (up (up (up (up (up (up (up σ9 43 (σ9 0)) 44 (σ9 1)) 45 (σ9 2)) 46 v46x10) 42 v46x10) 47 v47x12) 48 v48x13) 11 v47x12) 12 v48x13) 49 v48x13) 50 v50x84) 51 (σ9 0)) 52 (σ9 1)) 53 (σ9 2)) 54 v54x85) 55 (σ9 2)) 56 v56x87) 57 v47x12) 58 (σ9 1)) 59 v59x88) 60 v60x89) 11 v60x89) 12 (.int .i64 1)) H86)
        (J14 (up (up (up (up (up (up (up (up (up (up (up σ9 43 (σ9 0)) 44 (σ9 1)) 45 (σ9 2)) 46 v46x10) 42 v46x10) 47 v47x12) 48 v48x13) 11 v47x12) 12 v48x13) 49 v48x13) 50 v50x84) H11)) fun J9 =>
    ob (vUn .not (σ1 8)) fun v35x90 =>
    cnd v35x90
      (HT prg I.slices_breakPatternsOrdered_string [(σ1 0), (σ1 1), (σ1 2)].toArray H1 fun v39x91 H92 =>
      ob (vInt .sub (σ1 3) (.int .i64 1)) fun v41x93 =>
      J9 (up (up (up (up (up (up (up (up (up (up (up (up (up (up (up (up (up σ1 19 (σ1 2)) 20 (σ1 1)) 21 v21x2) 10 v21x2) 22 v21x2) 23 v23x3) 28 (σ1 3)) 29 v29x6) 34 (σ1 8)) 35 v35x90) 36 (σ1 0)) 37 (σ1 1)) 38 (σ1 2)) 39 v39x91) 40 (σ1 3)) 41 v41x93) 3 v41x93) H92)
      (J9 (up (up (up (up (up (up (up (up (up (up σ1 19 (σ1 2)) 20 (σ1 1)) 21 v21x2) 10 v21x2) 22 v21x2) 23 v23x3) 28 (σ1 3)) 29 v29x6) 34 (σ1 8)) 35 v35x90) H1)))) (blkQ 0 (retQ prg [] K)) (up (up (S0 [a0, a1, a2, a3]) 8 (.bool true)) 9 (.bool true)) H
def O.slices_pdqsortOrdered_string : Nat → Nat × List Nat := fun i => bif Nat.beq i 17 then (0, [0, 1, 2, 3, 4, 5, 6, 7, 8, 9, 10, 11, 12, 13, 14]) else (0, [])
theorem R.slices_pdqsortOrdered_string {a0 a1 a2 a3 : Value} {H : Hp} {K : Value → Hp → Prop} (h : F.slices_pdqsortOrdered_string a0 a1 a2 a3 H K) : HT prg I.slices_pdqsortOrdered_string [a0, a1, a2, a3].toArray H K :=
  HT_of_fev O.slices_pdqsortOrdered_string mixed Tryz.func47 (by kernel_rfl) (Eq.mpr (by kernel_rfl : fev prg O.slices_pdqsortOrdered_string Tryz.f47 [a0, a1, a2, a3] H K = F.slices_pdqsortOrdered_string a0 a1 a2 a3 H K) h)

/-! slices.Sort[[]string,string]: function 32 -/
def F.slices_Sort_string_string (a0 : Value) (H : Hp) (K : Value → Hp → Prop) : Prop :=
  ob (vLenSl a0) fun v4x1 =>
  ob (vCI .u64 v4x1) fun v8x2 =>
  HT prg I.math_bits_Len [v8x2].toArray H fun v9x3 H4 =>
  HT prg I.slices_pdqsortOrdered_string [a0, (.int .i64 0), v4x1, v9x3].toArray H4 fun v10x5 H6 =>
  K (.tuple #[]) H6
def O.slices_Sort_string_string : Nat → Nat × List Nat := fun i => (0, [])
theorem R.slices_Sort_string_string {a0 : Value} {H : Hp} {K : Value → Hp → Prop} (h : F.slices_Sort_string_string a0 H K) : HT prg I.slices_Sort_string_string [a0].toArray H K :=
  HT_of_fev O.slices_Sort_string_string mixed Tryz.func32 (by kernel_rfl) (Eq.mpr (by kernel_rfl : fev prg O.slices_Sort_string_string Tryz.f32 [a0] H K = F.slices_Sort_string_string a0 H K) h)

/-! loop.example/g01381/impl.CensusOf: function 9 -/
def F.impl_CensusOf (a0 : Value) (H : Hp) (K : Value → Hp → Prop) : Prop :=
  nw (a0 : Value).cells 27 H fun v1x1 H2 =>
  ob (vLoadN 3 v1x1 H2) fun v16x3 =>
  HT prg I.impl_PartsOf [v16x3].toArray H2 fun v17x4 H5 =>
  ob (vExt v17x4 0) fun v18x6 =>
  ob (vExt v17x4 1) fun v19x7 =>
  ob (vExt v17x4 2) fun v20x8 =>
  ob (vUn .not v20x8) fun v22x9 =>
  cnd v22x9
    (K (.tuple #[(.slice none 0 0), (.slice none 0 0), (.bool false)]) H5)
    (bS 1 0 #[(.string ⟨#[]⟩)] 9 [] H5 fun v23x10 H11 =>
  jn (fun σ12 H12 =>
    HT prg I.slices_Sort_string_string [(σ12 8)].toArray H12 fun v37x13 H14 =>
    bS 1 0 #[(.string ⟨#[]⟩)] 9 [] H14 fun v38x15 H16 =>
    bS 1 0 #[(.int .i64 0)] 2 [] H16 fun v39x17 H18 =>
    jn (fun σ19 H19 =>
      ob (vLenSl (σ19 11)) fun v76x20 =>
      ob (vInt .gtr v76x20 (.int .i64 64)) fun v77x21 =>
      cnd v77x21
        (K (.tuple #[(.slice none 0 0), (.slice none 0 0), (.bool false)]) H19)
        (K (.tuple #[(σ19 11), (σ19 12), (.bool true)]) H19)) fun J19 =>
    ob (vLenSl (σ12 8)) fun v41x22 =>
    lpE (fun Q23 σ23 H23 =>
      ob (vInt .lss (σ23 42) (σ23 41)) fun v43x24 =>
      cnd v43x24
        (ob (vIx 1 (σ23 40) (σ23 42)) fun v44x25 =>
      ob (vLoad v44x25 H23) fun v45x26 =>
      ob (vLenSl (σ23 11)) fun v47x27 =>
      ob (vInt .eql v47x27 (.int .i64 0)) fun v48x28 =>
      gop v48x28 false (fun K29 => K29 (σ23 11) H23) H23 fun v50x30 H31 =>
      gop v48x28 false (fun K32 => K32 (σ23 11) H31) H31 fun v51x33 H34 =>
      gop v48x28 false (fun K35 => ob (vLenSl v51x33) fun u => K35 u H34) H34 fun v52x36 H37 =>
      gop v48x28 false (fun K38 => ob (vInt .sub v52x36 (.int .i64 1)) fun u => K38 u H37) H37 fun v53x39 H40 =>
      gop v48x28 false (fun K41 => ob (vIx 1 v50x30 v53x39) fun u => K41 u H40) H40 fun v54x42 H43 =>
      gop v48x28 false (fun K44 => ob (vLoad v54x42 H43) fun u => K44 u H43) H43 fun v55x45 H46 =>
      gop v48x28 false (fun K47 => K47 v45x26 H46) H46 fun v56x48 H49 =>
      gop v48x28 false (fun K50 => ob (vStr .neq v55x45 v56x48) fun u => K50 u H49) H49 fun v57x51 H52 =>
      ob (vPick v48x28 (.bool true) v57x51) fun v58x53 =>
      cnd v58x53
        (bS 1 1 #[(.string ⟨#[]⟩)] 9 [(0, v45x26)] H52 fun v61x54 H55 =>
        apd 1 16 #[(.string ⟨#[]⟩)] 9 (σ23 11) v61x54 H55 fun v62x56 H57 =>
        bS 1 1 #[(.int .i64 0)] 2 [(0, (.int .i64 0))] H57 fun v64x58 H59 =>
        apd 1 8 #[(.int .i64 0)] 2 (σ23 12) v64x58 H59 fun v65x60 H61 =>
        ob (vLenSl v65x60) fun v68x62 =>
      ob (vInt .sub v68x62 (.int .i64 1)) fun v69x63 =>
      ob (vIx 1 v65x60 v69x63) fun v70x64 =>
      ob (vLoad v70x64 H61) fun v71x65 =>
      ob (vInt .add v71x65 (.int .i64 1)) fun v72x66 =>
      ob (vIx 1 v65x60 v69x63) fun v73x67 =>
      st 1 v73x67 v72x66 H61 fun H68 =>
      ob (vInt .add (σ23 42) (.int .i64 1)) fun v74x69 =>
      Q23 .normal (up (up (up (up (up (up (up (up (up (up (up (up (up (up (up (up (up (up (up (up (up (up (up (up (up (up (up (up (up (up (up (up (up (up (up (up σ23 43 v43x24) 44 v44x25) 45 v45x26) 14 v45x26) 46 (σ23 11)) 47 v47x27) 48 v48x28) 49 v48x28) 50 v50x30) 51 v51x33) 52 v52x36) 53 v53x39) 54 v54x42) 55 v55x45) 56 v56x48) 57 v57x51) 58 v58x53) 59 (σ23 11)) 60 v45x26) 61 v61x54) 62 v62x56) 63 (σ23 12)) 64 v64x58) 65 v65x60) 11 v62x56) 12 v65x60) 66 v65x60) 67 v65x60) 68 v68x62) 69 v69x63) 70 v70x64) 71 v71x65) 72 v72x66) 73 v73x67) 74 v74x69) 42 v74x69) H68)
        (ob (vLenSl (σ23 12)) fun v68x70 =>
      ob (vInt .sub v68x70 (.int .i64 1)) fun v69x71 =>
      ob (vIx 1 (σ23 12) v69x71) fun v70x72 =>
      ob (vLoad v70x72 H52) fun v71x73 =>
      ob (vInt .add v71x73 (.int .i64 1)) fun v72x74 =>
      ob (vIx 1 (σ23 12) v69x71) fun v73x75 =>
      st 1 v73x75 v72x74 H52 fun H76 =>
      ob (vInt .add (σ23 42) (.int .i64 1)) fun v74x77 =>
      Q23 .normal (up (up (up (up (up (up (up (up (up (up (up (up (up (up (up (up (up (up (up (up (up (up (up (up (up (up (up σ23 43 v43x24) 44 v44x25) 45 v45x26) 14 v45x26) 46 (σ23 11)) 47 v47x27) 48 v48x28) 49 v48x28) 50 v50x30) 51 v51x33) 52 v52x36) 53 v53x39) 54 v54x42) 55 v55x45) 56 v56x48) 57 v57x51) 58 v58x53) 66 (σ23 12)) 67 (σ23 12)) 68 v68x70) 69 v69x71) 70 v70x72) 71 v71x73) 72 v72x74) 73 v73x75) 74 v74x77) 42 v74x77) H76))
        (Q23 (.exit 2) (up σ23 43 v43x24) H23)) (blkQ 2 (thenQ J19 (retQ prg [(.tmp 2), (.tmp 3), (.tmp 4)] K))) (up (up (up (up (up (up (up (up (up σ12 36 (σ12 8)) 37 v37x13) 38 v38x15) 39 v39x17) 11 v38x15) 12 v39x17) 40 (σ12 8)) 41 v41x22) 42 (.int .i64 0)) H18) fun J12 =>
  ob (vLenSl v18x6) fun v25x78 =>
  lpE (fun Q79 σ79 H79 =>
    ob (vInt .lss (σ79 26) (σ79 25)) fun v27x80 =>
    cnd v27x80
      (ob (vIx 3 (σ79 24) (σ79 26)) fun v28x81 =>
    ob (vLoadN 3 v28x81 H79) fun v29x82 =>
    nw #[(.int .i64 0), (.int .i64 0), (.slice none 0 0)] 27 H79 fun v10x83 H84 =>
    st 3 v10x83 v29x82 H84 fun H85 =>
    ob (vLoadN 3 v10x83 H85) fun v31x86 =>
    HT prg I.impl_Field_name [v31x86].toArray H85 fun v32x87 H88 =>
    bS 1 1 #[(.string ⟨#[]⟩)] 9 [(0, v32x87)] H88 fun v33x89 H90 =>
    apd 1 16 #[(.string ⟨#[]⟩)] 9 (σ79 8) v33x89 H90 fun v34x91 H92 =>
    ob (vInt .add (σ79 26) (.int .i64 1)) fun v35x93 =>
    Q79 .normal (up (up (up (up (up (up (up (up (up (up (up (up σ79 27 v27x80) 28 v28x81) 29 v29x82) 10 v10x83) 30 (σ79 8)) 31 v31x86) 32 v32x87) 33 v33x89) 34 v34x91) 8 v34x91) 35 v35x93) 26 v35x93) H92)
      (Q79 (.exit 0) (up σ79 27 v27x80) H79)) (blkQ 0 (thenQ J12 (retQ prg [(.tmp 2), (.tmp 3), (.tmp 4)] K))) (up (up (up (up (up (up (up (up (up (up (up (up (up (up (up (up (up (up (up (up (S0 [a0]) 1 v1x1) 2 (.slice none 0 0)) 3 (.slice none 0 0)) 4 (.bool false)) 16 v16x3) 17 v17x4) 15 v17x4) 18 v18x6) 19 v19x7) 20 v20x8) 5 v18x6) 6 v19x7) 7 v20x8) 21 v20x8) 22 v22x9) 23 v23x10) 8 v23x10) 24 v18x6) 25 v25x78) 26 (.int .i64 0)) H11)
def O.impl_CensusOf : Nat → Nat × List Nat := fun i => (0, [])
theorem R.impl_CensusOf {a0 : Value} {H : Hp} {K : Value → Hp → Prop} (h : F.impl_CensusOf a0 H K) : HT prg I.impl_CensusOf [a0].toArray H K :=
  HT_of_fev O.impl_CensusOf mixed Tryz.func9 (by kernel_rfl) (Eq.mpr (by kernel_rfl : fev prg O.impl_CensusOf Tryz.f9 [a0] H K = F.impl_CensusOf a0 H K) h)

/-! loop.example/g01381/spec.l00In: function 76 -/
def F.spec_l00In (a0 a1 a2 : Value) (H : Hp) (K : Value → Hp → Prop) : Prop :=
  ob (vInt .geq a0 a1) fun v9x1 =>
  gop v9x1 true (fun K2 => K2 a0 H) H fun v11x3 H4 =>
  gop v9x1 true (fun K5 => K5 a2 H4) H4 fun v12x6 H7 =>
  gop v9x1 true (fun K8 => ob (vInt .leq v11x3 v12x6) fun u => K8 u H7) H7 fun v13x9 H10 =>
  ob (vPick v9x1 v13x9 (.bool false)) fun v14x11 =>
  K v14x11 H10
def O.spec_l00In : Nat → Nat × List Nat := fun i => (0, [])
theorem R.spec_l00In {a0 a1 a2 : Value} {H : Hp} {K : Value → Hp → Prop} (h : F.spec_l00In a0 a1 a2 H K) : HT prg I.spec_l00In [a0, a1, a2].toArray H K :=
  HT_of_fev O.spec_l00In mixed Tryz.func76 (by kernel_rfl) (Eq.mpr (by kernel_rfl : fev prg O.spec_l00In Tryz.f76 [a0, a1, a2] H K = F.spec_l00In a0 a1 a2 H K) h)

/-! loop.example/g01381/spec.l04Is: function 49 -/
def F.spec_l04Is (a0 : Value) (H : Hp) (K : Value → Hp → Prop) : Prop :=
  ob (vNilC a0) fun v5x1 =>
  ob (vFa 0 v5x1) fun v6x2 =>
  ob (vLoad v6x2 H) fun v7x3 =>
  HT prg I.spec_l00In [v7x3, (.int .i64 1), (.int .i64 24)].toArray H fun v8x4 H5 =>
  Le H H5 ∧ (ob (vUn .not v8x4) fun v9x6 =>
  gop v9x6 false (fun K7 => K7 a0 H5) H5 fun v11x8 H9 =>
  gop v9x6 false (fun K10 => ob (vNilC v11x8) fun u => K10 u H9) H9 fun v12x11 H12 =>
  gop v9x6 false (fun K13 => ob (vFa 1 v12x11) fun u => K13 u H12) H12 fun v13x14 H15 =>
  gop v9x6 false (fun K16 => ob (vLoad v13x14 H15) fun u => K16 u H15) H15 fun v14x17 H18 =>
  gop v9x6 false (fun K19 => HT prg I.spec_l00In [v14x17, (.int .i64 1), (.int .i64 24)].toArray H18 fun v15x20 H21 =>
  Le H18 H21 ∧ K19 v15x20 H21) H18 fun v15x22 H23 =>
  gop v9x6 false (fun K24 => ob (vUn .not v15x22) fun u => K24 u H23) H23 fun v16x25 H26 =>
  ob (vPick v9x6 (.bool true) v16x25) fun v17x27 =>
  gop v17x27 false (fun K28 => K28 a0 H26) H26 fun v19x29 H30 =>
  gop v17x27 false (fun K31 => ob (vNilC v19x29) fun u => K31 u H30) H30 fun v20x32 H33 =>
  gop v17x27 false (fun K34 => ob (vFa 2 v20x32) fun u => K34 u H33) H33 fun v21x35 H36 =>
  gop v17x27 false (fun K37 => ob (vLoad v21x35 H36) fun u => K37 u H36) H36 fun v22x38 H39 =>
  gop v17x27 false (fun K40 => ob (vLenSl v22x38) fun u => K40 u H39) H39 fun v23x41 H42 =>
  gop v17x27 false (fun K43 => K43 a0 H42) H42 fun v24x44 H45 =>
  gop v17x27 false (fun K46 => ob (vNilC v24x44) fun u => K46 u H45) H45 fun v25x47 H48 =>
  gop v17x27 false (fun K49 => ob (vFa 0 v25x47) fun u => K49 u H48) H48 fun v26x50 H51 =>
  gop v17x27 false (fun K52 => ob (vLoad v26x50 H51) fun u => K52 u H51) H51 fun v27x53 H54 =>
  gop v17x27 false (fun K55 => K55 a0 H54) H54 fun v28x56 H57 =>
  gop v17x27 false (fun K58 => ob (vNilC v28x56) fun u => K58 u H57) H57 fun v29x59 H60 =>
  gop v17x27 false (fun K61 => ob (vFa 1 v29x59) fun u => K61 u H60) H60 fun v30x62 H63 =>
  gop v17x27 false (fun K64 => ob (vLoad v30x62 H63) fun u => K64 u H63) H63 fun v31x65 H66 =>
  gop v17x27 false (fun K67 => ob (vInt .mul v27x53 v31x65) fun u => K67 u H66) H66 fun v32x68 H69 =>
  gop v17x27 false (fun K70 => ob (vInt .neq v23x41 v32x68) fun u => K70 u H69) H69 fun v33x71 H72 =>
  ob (vPick v17x27 (.bool true) v33x71) fun v34x73 =>
  cnd v34x73
    (K (.bool false) H72)
    (jn (fun σ74 H74 =>
    K (.bool true) H74) fun J74 =>
  lpE (fun Q75 σ75 H75 =>
    ob (vNilC (σ75 0)) fun v37x76 =>
    ob (vFa 2 v37x76) fun v38x77 =>
    ob (vLoad v38x77 H75) fun v39x78 =>
    ob (vLenSl v39x78) fun v40x79 =>
    ob (vInt .lss (σ75 3) v40x79) fun v41x80 =>
    cnd v41x80
      (ob (vNilC (σ75 0)) fun v45x81 =>
    ob (vFa 2 v45x81) fun v46x82 =>
    ob (vLoad v46x82 H75) fun v47x83 =>
    ob (vIx 1 v47x83 (σ75 3)) fun v49x84 =>
    ob (vLoad v49x84 H75) fun v50x85 =>
    HT prg I.spec_l00In [v50x85, (.int .i64 0), (.int .i64 9)].toArray H75 fun v51x86 H87 =>
    ob (vUn .not v51x86) fun v52x88 =>
    cnd v52x88
      (Q75 .ret (up (up (up (up (up (up (up (up (up (up (up (up (up (up (up (up (up σ75 35 (σ75 3)) 36 (σ75 0)) 37 v37x76) 38 v38x77) 39 v39x78) 40 v40x79) 41 v41x80) 44 (σ75 0)) 45 v45x81) 46 v46x82) 47 v47x83) 48 (σ75 3)) 49 v49x84) 50 v50x85) 51 v51x86) 52 v52x88) 2 (.bool false)) H87)
      (ob (vInt .add (σ75 3) (.int .i64 1)) fun v43x89 =>
    Q75 .normal (up (up (up (up (up (up (up (up (up (up (up (up (up (up (up (up (up (up (up σ75 35 (σ75 3)) 36 (σ75 0)) 37 v37x76) 38 v38x77) 39 v39x78) 40 v40x79) 41 v41x80) 44 (σ75 0)) 45 v45x81) 46 v46x82) 47 v47x83) 48 (σ75 3)) 49 v49x84) 50 v50x85) 51 v51x86) 52 v52x88) 42 (σ75 3)) 43 v43x89) 3 v43x89) H87))
      (Q75 (.exit 0) (up (up (up (up (up (up (up σ75 35 (σ75 3)) 36 (σ75 0)) 37 v37x76) 38 v38x77) 39 v39x78) 40 v40x79) 41 v41x80) H75)) (blkQ 0 (thenQ J74 (retQ prg [(.tmp 2)] K))) (up (up (up (up (up (up (up (up (up (up (up (up (up (up (up (up (up (up (up (up (up (up (up (up (up (up (up (up (up (up (up (up (up (S0 [a0]) 2 (.bool false)) 4 a0) 5 v5x1) 6 v6x2) 7 v7x3) 8 v8x4) 9 v9x6) 10 v9x6) 11 v11x8) 12 v12x11) 13 v13x14) 14 v14x17) 15 v15x22) 16 v16x25) 17 v17x27) 18 v17x27) 19 v19x29) 20 v20x32) 21 v21x35) 22 v22x38) 23 v23x41) 24 v24x44) 25 v25x47) 26 v26x50) 27 v27x53) 28 v28x56) 29 v29x59) 30 v30x62) 31 v31x65) 32 v32x68) 33 v33x71) 34 v34x73) 3 (.int .i64 0)) H72))
def O.spec_l04Is : Nat → Nat × List Nat := fun i => bif Nat.beq i 1 then (0, [0, 1, 2, 3, 4, 5, 6, 7, 8, 9, 10, 11, 12, 13, 14, 15, 16, 17, 18, 19, 20, 21, 22, 23, 24, 25, 26, 27, 28, 29, 30]) else (0, [])
theorem R.spec_l04Is {a0 : Value} {H : Hp} {K : Value → Hp → Prop} (h : F.spec_l04Is a0 H K) : HT prg I.spec_l04Is [a0].toArray H K :=
  HT_of_fev O.spec_l04Is mixed Tryz.func49 (by kernel_rfl) (Eq.mpr (by kernel_rfl : fev prg O.spec_l04Is Tryz.f49 [a0] H K = F.spec_l04Is a0 H K) h)

/-! loop.example/g01381/spec.l04Plain: function 33 -/
def F.spec_l04Plain (a0 : Value) (H : Hp) (K : Value → Hp → Prop) : Prop :=
  HT prg I.spec_l04Is [a0].toArray H fun v5x1 H2 =>
  ob (vUn .not v5x1) fun v6x3 =>
  cnd v6x3
    (K (.bool false) H2)
    (jn (fun σ4 H4 =>
    K (.bool true) H4) fun J4 =>
  lpE (fun Q5 σ5 H5 =>
    ob (vNilC (σ5 0)) fun v9x6 =>
    ob (vFa 2 v9x6) fun v10x7 =>
    ob (vLoad v10x7 H5) fun v11x8 =>
    ob (vLenSl v11x8) fun v12x9 =>
    ob (vInt .lss (σ5 3) v12x9) fun v13x10 =>
    cnd v13x10
      (ob (vNilC (σ5 0)) fun v17x11 =>
    ob (vFa 2 v17x11) fun v18x12 =>
    ob (vLoad v18x12 H5) fun v19x13 =>
    ob (vIx 1 v19x13 (σ5 3)) fun v21x14 =>
    ob (vLoad v21x14 H5) fun v22x15 =>
    ob (vInt .gtr v22x15 (.int .i64 1)) fun v23x16 =>
    cnd v23x16
      (Q5 .ret (up (up (up (up (up (up (up (up (up (up (up (up (up (up (up (up σ5 7 (σ5 3)) 8 (σ5 0)) 9 v9x6) 10 v10x7) 11 v11x8) 12 v12x9) 13 v13x10) 16 (σ5 0)) 17 v17x11) 18 v18x12) 19 v19x13) 20 (σ5 3)) 21 v21x14) 22 v22x15) 23 v23x16) 2 (.bool false)) H5)
      (ob (vInt .add (σ5 3) (.int .i64 1)) fun v15x17 =>
    Q5 .normal (up (up (up (up (up (up (up (up (up (up (up (up (up (up (up (up (up (up σ5 7 (σ5 3)) 8 (σ5 0)) 9 v9x6) 10 v10x7) 11 v11x8) 12 v12x9) 13 v13x10) 16 (σ5 0)) 17 v17x11) 18 v18x12) 19 v19x13) 20 (σ5 3)) 21 v21x14) 22 v22x15) 23 v23x16) 14 (σ5 3)) 15 v15x17) 3 v15x17) H5))
      (Q5 (.exit 0) (up (up (up (up (up (up (up σ5 7 (σ5 3)) 8 (σ5 0)) 9 v9x6) 10 v10x7) 11 v11x8) 12 v12x9) 13 v13x10) H5)) (blkQ 0 (thenQ J4 (retQ prg [(.tmp 2)] K))) (up (up (up (up (up (S0 [a0]) 2 (.bool false)) 4 a0) 5 v5x1) 6 v6x3) 3 (.int .i64 0)) H2)
def O.spec_l04Plain : Nat → Nat × List Nat := fun i => (0, [])
theorem R.spec_l04Plain {a0 : Value} {H : Hp} {K : Value → Hp → Prop} (h : F.spec_l04Plain a0 H K) : HT prg I.spec_l04Plain [a0].toArray H K :=
  HT_of_fev O.spec_l04Plain mixed Tryz.func33 (by kernel_rfl) (Eq.mpr (by kernel_rfl : fev prg O.spec_l04Plain Tryz.f33 [a0] H K = F.spec_l04Plain a0 H K) h)

/-! loop.example/g01381/spec.l04New: function 77 -/
def F.spec_l04New (a0 a1 : Value) (H : Hp) (K : Value → Hp → Prop) : Prop :=
  nw #[(.int .i64 0), (.int .i64 0), (.slice none 0 0)] 27 H fun v4x1 H2 =>
  ob (vInt .mul a0 a1) fun v9x3 =>
  mkS 1 8 #[(.int .i64 0)] 2 v9x3 v9x3 H2 fun v10x4 H5 =>
  ob (vBuild [(0, 1), (1, 1), (2, 1)] (.agg #[(.int .i64 0), (.int .i64 0), (.slice none 0 0)]) [(0, a0), (1, a1), (2, v10x4)]) fun v11x6 =>
  st 3 v4x1 v11x6 H5 fun H7 =>
  ob (vLoadN 3 v4x1 H7) fun u8 => K u8 H7
def O.spec_l04New : Nat → Nat × List Nat := fun i => (0, [])
theorem R.spec_l04New {a0 a1 : Value} {H : Hp} {K : Value → Hp → Prop} (h : F.spec_l04New a0 a1 H K) : HT prg I.spec_l04New [a0, a1].toArray H K :=
  HT_of_fev O.spec_l04New mixed Tryz.func77 (by kernel_rfl) (Eq.mpr (by kernel_rfl : fev prg O.spec_l04New Tryz.f77 [a0, a1] H K = F.spec_l04New a0 a1 H K) h)

/-! loop.example/g01381/spec.l00Min: function 96 -/
def F.spec_l00Min (a0 a1 : Value) (H : Hp) (K : Value → Hp → Prop) : Prop :=
  ob (vInt .lss a0 a1) fun v7x1 =>
  cnd v7x1
    (K a0 H)
    (K a1 H)
def O.spec_l00Min : Nat → Nat × List Nat := fun i => (0, [])
theorem R.spec_l00Min {a0 a1 : Value} {H : Hp} {K : Value → Hp → Prop} (h : F.spec_l00Min a0 a1 H K) : HT prg I.spec_l00Min [a0, a1].toArray H K :=
  HT_of_fev O.spec_l00Min mixed Tryz.func96 (by kernel_rfl) (Eq.mpr (by kernel_rfl : fev prg O.spec_l00Min Tryz.f96 [a0, a1] H K = F.spec_l00Min a0 a1 H K) h)

/-! loop.example/g01381/spec.l00Max: function 97 -/
def F.spec_l00Max (a0 a1 : Value) (H : Hp) (K : Value → Hp → Prop) : Prop :=
  ob (vInt .gtr a0 a1) fun v7x1 =>
  cnd v7x1
    (K a0 H)
    (K a1 H)
def O.spec_l00Max : Nat → Nat × List Nat := fun i => (0, [])
theorem R.spec_l00Max {a0 a1 : Value} {H : Hp} {K : Value → Hp → Prop} (h : F.spec_l00Max a0 a1 H K) : HT prg I.spec_l00Max [a0, a1].toArray H K :=
  HT_of_fev O.spec_l00Max mixed Tryz.func97 (by kernel_rfl) (Eq.mpr (by kernel_rfl : fev prg O.spec_l00Max Tryz.f97 [a0, a1] H K = F.spec_l00Max a0 a1 H K) h)

/-! loop.example/g01381/spec.l05Cut: function 98 -/
def F.spec_l05Cut (a0 a1 a2 a3 a4 : Value) (H : Hp) (K : Value → Hp → Prop) : Prop :=
  nw #[(.int .i64 0), (.int .i64 0), (.slice none 0 0)] 27 H fun v10x1 H2 =>
  HT prg I.spec_l04New [a3, a4].toArray H2 fun v16x3 H4 =>
  nw #[(.int .i64 0), (.int .i64 0), (.slice none 0 0)] 27 H4 fun v11x5 H6 =>
  st 3 v11x5 v16x3 H6 fun H7 =>
  jn (fun σ8 H8 =>
    ob (vLoadN 3 (σ8 11) H8) fun v53x9 =>
    st 3 (σ8 10) v53x9 H8 fun H10 =>
    ob (vLoadN 3 (σ8 10) H10) fun u11 => K u11 H10) fun J8 =>
  lpE (fun Q12 σ12 H12 =>
    ob (vInt .lss (σ12 12) (σ12 3)) fun v19x13 =>
    cnd v19x13
      (jn (fun σ14 H14 =>
      ob (vInt .add (σ14 12) (.int .i64 1)) fun v21x15 =>
      Q12 .normal (up (up (up σ14 20 (σ14 12)) 21 v21x15) 12 v21x15) H14) fun J14 =>
    lpE (fun Q16 σ16 H16 =>
      ob (vInt .lss (σ16 13) (σ16 4)) fun v24x17 =>
      cnd v24x17
        (ob (vFa 2 (σ16 11)) fun v27x18 =>
      ob (vLoad v27x18 H16) fun v28x19 =>
      ob (vInt .mul (σ16 12) (σ16 4)) fun v31x20 =>
      ob (vInt .add v31x20 (σ16 13)) fun v33x21 =>
      ob (vNilC (σ16 0)) fun v35x22 =>
      ob (vFa 2 v35x22) fun v36x23 =>
      ob (vLoad v36x23 H16) fun v37x24 =>
      ob (vInt .add (σ16 1) (σ16 12)) fun v40x25 =>
      ob (vNilC (σ16 0)) fun v42x26 =>
      ob (vFa 1 v42x26) fun v43x27 =>
      ob (vLoad v43x27 H16) fun v44x28 =>
      ob (vInt .mul v40x25 v44x28) fun v45x29 =>
      ob (vInt .add v45x29 (σ16 2)) fun v47x30 =>
      ob (vInt .add v47x30 (σ16 13)) fun v49x31 =>
      ob (vIx 1 v37x24 v49x31) fun v50x32 =>
      ob (vLoad v50x32 H16) fun v51x33 =>
      ob (vIx 1 v28x19 v33x21) fun v52x34 =>
      st 1 v52x34 v51x33 H16 fun H35 =>
      ob (vInt .add (σ16 13) (.int .i64 1)) fun v26x36 =>
      Q16 .normal (up (up (up (up (up (up (up (up (up (up (up (up (up (up (up (up (up (up (up (up (up (up (up (up (up (up (up (up (up (up (up (up σ16 22 (σ16 13)) 23 (σ16 4)) 24 v24x17) 27 v27x18) 28 v28x19) 29 (σ16 12)) 30 (σ16 4)) 31 v31x20) 32 (σ16 13)) 33 v33x21) 34 (σ16 0)) 35 v35x22) 36 v36x23) 37 v37x24) 38 (σ16 1)) 39 (σ16 12)) 40 v40x25) 41 (σ16 0)) 42 v42x26) 43 v43x27) 44 v44x28) 45 v45x29) 46 (σ16 2)) 47 v47x30) 48 (σ16 13)) 49 v49x31) 50 v50x32) 51 v51x33) 52 v52x34) 25 (σ16 13)) 26 v26x36) 13 v26x36) H35)
        (Q16 (.exit 2) (up (up (up σ16 22 (σ16 13)) 23 (σ16 4)) 24 v24x17) H16)) (blkQ 2 (blkQ 1 (thenQ J14 Q12))) (up (up (up (up σ12 17 (σ12 12)) 18 (σ12 3)) 19 v19x13) 13 (.int .i64 0)) H12)
      (Q12 (.exit 0) (up (up (up σ12 17 (σ12 12)) 18 (σ12 3)) 19 v19x13) H12)) (blkQ 0 (thenQ J8 (retQ prg [(.cell 10 27)] K))) (up (up (up (up (up (up (S0 [a0, a1, a2, a3, a4]) 10 v10x1) 14 a3) 15 a4) 16 v16x3) 11 v11x5) 12 (.int .i64 0)) H7
def O.spec_l05Cut : Nat → Nat × List Nat := fun i => bif Nat.beq i 8 then (0, [0, 1, 2, 3, 4, 5, 6, 7, 8, 9, 10, 11, 12, 13, 14, 15, 16, 17, 18, 19, 20, 21, 22, 23, 24, 25, 26]) else (0, [])
theorem R.spec_l05Cut {a0 a1 a2 a3 a4 : Value} {H : Hp} {K : Value → Hp → Prop} (h : F.spec_l05Cut a0 a1 a2 a3 a4 H K) : HT prg I.spec_l05Cut [a0, a1, a2, a3, a4].toArray H K :=
  HT_of_fev O.spec_l05Cut mixed Tryz.func98 (by kernel_rfl) (Eq.mpr (by kernel_rfl : fev prg O.spec_l05Cut Tryz.f98 [a0, a1, a2, a3, a4] H K = F.spec_l05Cut a0 a1 a2 a3 a4 H K) h)

/-! loop.example/g01381/spec.l05Trim: function 78 -/
def F.spec_l05Trim (a0 : Value) (H : Hp) (K : Value → Hp → Prop) : Prop :=
  nw #[(.int .i64 0), (.int .i64 0), (.slice none 0 0)] 27 H fun v2x1 H2 =>
  ob (vNilC a0) fun v13x3 =>
  ob (vFa 0 v13x3) fun v14x4 =>
  ob (vLoad v14x4 H2) fun v15x5 =>
  ob (vNilC a0) fun v17x6 =>
  ob (vFa 1 v17x6) fun v18x7 =>
  ob (vLoad v18x7 H2) fun v19x8 =>
  jn (fun σ9 H9 =>
    ob (vInt .lss (σ9 7) (.int .i64 0)) fun v64x10 =>
    cnd v64x10
      (ob (vBuild [(0, 1), (1, 1), (2, 1)] (.agg #[(.int .i64 0), (.int .i64 0), (.slice none 0 0)]) []) fun v65x11 =>
      st 3 (σ9 2) v65x11 H9 fun H12 =>
      ob (vLoadN 3 (σ9 2) H12) fun u13 => K (.tuple #[u13, (.int .i64 0), (.int .i64 0), (.bool false)]) H12)
      (ob (vInt .sub (σ9 7) (σ9 6)) fun v71x14 =>
    ob (vInt .add v71x14 (.int .i64 1)) fun v72x15 =>
    ob (vInt .sub (σ9 9) (σ9 8)) fun v75x16 =>
    ob (vInt .add v75x16 (.int .i64 1)) fun v76x17 =>
    HT prg I.spec_l05Cut [(σ9 0), (σ9 6), (σ9 8), v72x15, v76x17].toArray H9 fun v77x18 H19 =>
    st 3 (σ9 2) v77x18 H19 fun H20 =>
    ob (vLoadN 3 (σ9 2) H20) fun u21 => K (.tuple #[u21, (σ9 6), (σ9 8), (.bool true)]) H20)) fun J9 =>
  lpE (fun Q22 σ22 H22 =>
    ob (vNilC (σ22 0)) fun v22x23 =>
    ob (vFa 0 v22x23) fun v23x24 =>
    ob (vLoad v23x24 H22) fun v24x25 =>
    ob (vInt .lss (σ22 10) v24x25) fun v25x26 =>
    cnd v25x26
      (jn (fun σ27 H27 =>
      ob (vInt .add (σ27 10) (.int .i64 1)) fun v27x28 =>
      Q22 .normal (up (up (up σ27 26 (σ27 10)) 27 v27x28) 10 v27x28) H27) fun J27 =>
    lpE (fun Q29 σ29 H29 =>
      ob (vNilC (σ29 0)) fun v30x30 =>
      ob (vFa 1 v30x30) fun v31x31 =>
      ob (vLoad v31x31 H29) fun v32x32 =>
      ob (vInt .lss (σ29 11) v32x32) fun v33x33 =>
      cnd v33x33
        (ob (vNilC (σ29 0)) fun v37x34 =>
      ob (vFa 2 v37x34) fun v38x35 =>
      ob (vLoad v38x35 H29) fun v39x36 =>
      ob (vNilC (σ29 0)) fun v42x37 =>
      ob (vFa 1 v42x37) fun v43x38 =>
      ob (vLoad v43x38 H29) fun v44x39 =>
      ob (vInt .mul (σ29 10) v44x39) fun v45x40 =>
      ob (vInt .add v45x40 (σ29 11)) fun v47x41 =>
      ob (vIx 1 v39x36 v47x41) fun v48x42 =>
      ob (vLoad v48x42 H29) fun v49x43 =>
      ob (vInt .eql v49x43 (.int .i64 1)) fun v50x44 =>
      cnd v50x44
        (HT prg I.spec_l00Min [(σ29 6), (σ29 10)].toArray H29 fun v53x45 H46 =>
        HT prg I.spec_l00Max [(σ29 7), (σ29 10)].toArray H46 fun v56x47 H48 =>
        HT prg I.spec_l00Min [(σ29 8), (σ29 11)].toArray H48 fun v59x49 H50 =>
        HT prg I.spec_l00Max [(σ29 9), (σ29 11)].toArray H50 fun v62x51 H52 =>
        ob (vInt .add (σ29 11) (.int .i64 1)) fun v35x53 =>
      Q29 .normal (up (up (up (up (up (up (up (up (up (up (up (up (up (up (up (up (up (up (up (up (up (up (up (up (up (up (up (up (up (up (up (up (up (up (up (up (up (up (up (up σ29 28 (σ29 11)) 29 (σ29 0)) 30 v30x30) 31 v31x31) 32 v32x32) 33 v33x33) 36 (σ29 0)) 37 v37x34) 38 v38x35) 39 v39x36) 40 (σ29 10)) 41 (σ29 0)) 42 v42x37) 43 v43x38) 44 v44x39) 45 v45x40) 46 (σ29 11)) 47 v47x41) 48 v48x42) 49 v49x43) 50 v50x44) 51 (σ29 6)) 52 (σ29 10)) 53 v53x45) 6 v53x45) 54 (σ29 7)) 55 (σ29 10)) 56 v56x47) 7 v56x47) 57 (σ29 8)) 58 (σ29 11)) 59 v59x49) 8 v59x49) 60 (σ29 9)) 61 (σ29 11)) 62 v62x51) 9 v62x51) 34 (σ29 11)) 35 v35x53) 11 v35x53) H52)
        (ob (vInt .add (σ29 11) (.int .i64 1)) fun v35x54 =>
      Q29 .normal (up (up (up (up (up (up (up (up (up (up (up (up (up (up (up (up (up (up (up (up (up (up (up (up σ29 28 (σ29 11)) 29 (σ29 0)) 30 v30x30) 31 v31x31) 32 v32x32) 33 v33x33) 36 (σ29 0)) 37 v37x34) 38 v38x35) 39 v39x36) 40 (σ29 10)) 41 (σ29 0)) 42 v42x37) 43 v43x38) 44 v44x39) 45 v45x40) 46 (σ29 11)) 47 v47x41) 48 v48x42) 49 v49x43) 50 v50x44) 34 (σ29 11)) 35 v35x54) 11 v35x54) H29))
        (Q29 (.exit 2) (up (up (up (up (up (up σ29 28 (σ29 11)) 29 (σ29 0)) 30 v30x30) 31 v31x31) 32 v32x32) 33 v33x33) H29)) (blkQ 2 (blkQ 1 (thenQ J27 Q22))) (up (up (up (up (up (up (up σ22 20 (σ22 10)) 21 (σ22 0)) 22 v22x23) 23 v23x24) 24 v24x25) 25 v25x26) 11 (.int .i64 0)) H22)
      (Q22 (.exit 0) (up (up (up (up (up (up σ22 20 (σ22 10)) 21 (σ22 0)) 22 v22x23) 23 v23x24) 24 v24x25) 25 v25x26) H22)) (blkQ 0 (thenQ J9 (retQ prg [(.cell 2 27), (.tmp 3), (.tmp 4), (.tmp 5)] K))) (up (up (up (up (up (up (up (up (up (up (up (up (up (up (up (up (up (S0 [a0]) 2 v2x1) 3 (.int .i64 0)) 4 (.int .i64 0)) 5 (.bool false)) 12 a0) 13 v13x3) 14 v14x4) 15 v15x5) 6 v15x5) 7 (.int .i64 (-1))) 16 a0) 17 v17x6) 18 v18x7) 19 v19x8) 8 v19x8) 9 (.int .i64 (-1))) 10 (.int .i64 0)) H2
def O.spec_l05Trim : Nat → Nat × List Nat := fun i => bif Nat.beq i 11 then (0, [0, 1, 2, 3, 4, 5, 6, 7, 8, 9, 10, 11, 12, 13, 14]) else (0, [])
theorem R.spec_l05Trim {a0 : Value} {H : Hp} {K : Value → Hp → Prop} (h : F.spec_l05Trim a0 H K) : HT prg I.spec_l05Trim [a0].toArray H K :=
  HT_of_fev O.spec_l05Trim mixed Tryz.func78 (by kernel_rfl) (Eq.mpr (by kernel_rfl : fev prg O.spec_l05Trim Tryz.f78 [a0] H K = F.spec_l05Trim a0 H K) h)

/-! loop.example/g01381/spec.l05Parts: function 50 -/
def F.spec_l05Parts (a0 : Value) (H : Hp) (K : Value → Hp → Prop) : Prop :=
  ob (vNilC a0) fun v21x1 =>
  ob (vFa 2 v21x1) fun v22x2 =>
  ob (vLoad v22x2 H) fun v23x3 =>
  ob (vLenSl v23x3) fun v24x4 =>
  mkS 1 1 #[(.bool false)] 4 v24x4 v24x4 H fun v25x5 H6 =>
  bS 3 0 #[(.int .i64 0), (.int .i64 0), (.slice none 0 0)] 27 [] H6 fun v26x7 H8 =>
  bS 1 0 #[(.int .i64 0)] 2 [] H8 fun v27x9 H10 =>
  jn (fun σ11 H11 =>
    K (.tuple #[(σ11 5), (σ11 6)]) H11) fun J11 =>
  ob (vNilC a0) fun v29x12 =>
  ob (vFa 2 v29x12) fun v30x13 =>
  ob (vLoad v30x13 H10) fun v31x14 =>
  ob (vLenSl v31x14) fun v32x15 =>
  lpE (fun Q16 σ16 H16 =>
    ob (vInt .lss (σ16 33) (σ16 32)) fun v34x17 =>
    cnd v34x17
      (jn (fun σ18 H18 =>
      ob (vInt .add (σ18 33) (.int .i64 1)) fun v174x19 =>
      Q16 .normal (up (up σ18 174 v174x19) 33 v174x19) H18) fun J18 =>
    ob (vNilC (σ16 0)) fun v37x20 =>
    ob (vFa 2 v37x20) fun v38x21 =>
    ob (vLoad v38x21 H16) fun v39x22 =>
    ob (vIx 1 v39x22 (σ16 33)) fun v41x23 =>
    ob (vLoad v41x23 H16) fun v42x24 =>
    ob (vInt .neq v42x24 (.int .i64 1)) fun v43x25 =>
    gop v43x25 false (fun K26 => K26 (σ16 4) H16) H16 fun v45x27 H28 =>
    gop v43x25 false (fun K29 => K29 (σ16 33) H28) H28 fun v46x30 H31 =>
    gop v43x25 false (fun K32 => ob (vIx 1 v45x27 v46x30) fun u => K32 u H31) H31 fun v47x33 H34 =>
    gop v43x25 false (fun K35 => ob (vLoad v47x33 H34) fun u => K35 u H34) H34 fun v48x36 H37 =>
    ob (vPick v43x25 (.bool true) v48x36) fun v49x38 =>
    cnd v49x38
      (J18 (up (up (up (up (up (up (up (up (up (up (up (up (up (up (up (up (up σ16 34 v34x17) 35 (σ16 33)) 7 (σ16 33)) 36 (σ16 0)) 37 v37x20) 38 v38x21) 39 v39x22) 40 (σ16 33)) 41 v41x23) 42 v42x24) 43 v43x25) 44 v43x25) 45 v45x27) 46 v46x30) 47 v47x33) 48 v48x36) 49 v49x38) H37)
      (ob (vNilC (σ16 0)) fun v51x39 =>
    ob (vFa 0 v51x39) fun v52x40 =>
    ob (vLoad v52x40 H37) fun v53x41 =>
    ob (vNilC (σ16 0)) fun v55x42 =>
    ob (vFa 1 v55x42) fun v56x43 =>
    ob (vLoad v56x43 H37) fun v57x44 =>
    HT prg I.spec_l04New [v53x41, v57x44].toArray H37 fun v58x45 H46 =>
    Le H37 H46 ∧ (nw #[(.int .i64 0), (.int .i64 0), (.slice none 0 0)] 27 H46 fun v8x47 H48 =>
    st 3 v8x47 v58x45 H48 fun H49 =>
    bS 1 1 #[(.int .i64 0)] 2 [(0, (σ16 33))] H49 fun v60x50 H51 =>
    ob (vIx 1 (σ16 4) (σ16 33)) fun v63x52 =>
    st 1 v63x52 (.bool true) H51 fun H53 =>
    jn (fun σ54 H54 =>
      HT prg I.spec_l05Trim [(σ54 8)].toArray H54 fun v160x55 H56 =>
      ob (vExt v160x55 0) fun v161x57 =>
      ob (vExt v160x55 1) fun v162x58 =>
      ob (vExt v160x55 2) fun v163x59 =>
      ob (vExt v160x55 3) fun v164x60 =>
      nw #[(.int .i64 0), (.int .i64 0), (.slice none 0 0)] 27 H56 fun v16x61 H62 =>
      st 3 v16x61 v161x57 H62 fun H63 =>
      ob (vLoadN 3 v16x61 H63) fun v166x64 =>
      bS 3 1 #[(.int .i64 0), (.int .i64 0), (.slice none 0 0)] 27 [(0, v166x64)] H63 fun v167x65 H66 =>
      apd 3 40 #[(.int .i64 0), (.int .i64 0), (.slice none 0 0)] 27 (σ54 5) v167x65 H66 fun v168x67 H68 =>
      bS 1 2 #[(.int .i64 0)] 2 [(0, v162x58), (1, v163x59)] H68 fun v172x69 H70 =>
      apd 1 8 #[(.int .i64 0)] 2 (σ54 6) v172x69 H70 fun v173x71 H72 =>
      J18 (up (up (up (up (up (up (up (up (up (up (up (up (up (up (up (up (up (up (up (up (up σ54 160 v160x55) 159 v160x55) 161 v161x57) 162 v162x58) 163 v163x59) 164 v164x60) 16 v16x61) 17 v162x58) 18 v163x59) 19 v164x60) 165 (σ54 5)) 166 v166x64) 167 v167x65) 168 v168x67) 5 v168x67) 169 (σ54 6)) 170 v162x58) 171 v163x59) 172 v172x69) 173 v173x71) 6 v173x71) H72) fun J54 =>
    lpE (fun Q73 σ73 H73 =>
      ob (vLenSl (σ73 9)) fun v66x74 =>
      ob (vInt .lss (σ73 10) v66x74) fun v67x75 =>
      cnd v67x75
        (jn (fun σ76 H76 =>
        ob (vInt .add (σ76 10) (.int .i64 1)) fun v69x77 =>
        Q73 .normal (up (up (up σ76 68 (σ76 10)) 69 v69x77) 10 v69x77) H76) fun J76 =>
      ob (vFa 2 (σ73 8)) fun v70x78 =>
      ob (vLoad v70x78 H73) fun v71x79 =>
      ob (vIx 1 (σ73 9) (σ73 10)) fun v74x80 =>
      ob (vLoad v74x80 H73) fun v75x81 =>
      ob (vIx 1 v71x79 v75x81) fun v76x82 =>
      st 1 v76x82 (.int .i64 1) H73 fun H83 =>
      ob (vIx 1 (σ73 9) (σ73 10)) fun v79x84 =>
      ob (vLoad v79x84 H83) fun v80x85 =>
      ob (vNilC (σ73 0)) fun v82x86 =>
      ob (vFa 1 v82x86) fun v83x87 =>
      ob (vLoad v83x87 H83) fun v84x88 =>
      ob (vInt .quo v80x85 v84x88) fun v85x89 =>
      ob (vIx 1 (σ73 9) (σ73 10)) fun v88x90 =>
      ob (vLoad v88x90 H83) fun v89x91 =>
      ob (vNilC (σ73 0)) fun v91x92 =>
      ob (vFa 1 v91x92) fun v92x93 =>
      ob (vLoad v92x93 H83) fun v93x94 =>
      ob (vInt .rem v89x91 v93x94) fun v94x95 =>
      ob (vInt .sub v85x89 (.int .i64 1)) fun v96x96 =>
      lpE (fun Q97 σ97 H97 =>
        ob (vInt .add (σ97 11) (.int .i64 1)) fun v99x98 =>
        ob (vInt .leq (σ97 13) v99x98) fun v100x99 =>
        cnd v100x99
          (jn (fun σ100 H100 =>
          ob (vInt .add (σ100 13) (.int .i64 1)) fun v102x101 =>
          Q97 .normal (up (up (up σ100 101 (σ100 13)) 102 v102x101) 13 v102x101) H100) fun J100 =>
        ob (vInt .sub (σ97 12) (.int .i64 1)) fun v104x102 =>
        lpE (fun Q103 σ103 H103 =>
          ob (vInt .add (σ103 12) (.int .i64 1)) fun v107x104 =>
          ob (vInt .leq (σ103 14) v107x104) fun v108x105 =>
          cnd v108x105
            (ob (vNilC (σ103 0)) fun v113x106 =>
          ob (vFa 0 v113x106) fun v114x107 =>
          ob (vLoad v114x107 H103) fun v115x108 =>
          ob (vInt .sub v115x108 (.int .i64 1)) fun v116x109 =>
          HT prg I.spec_l00In [(σ103 13), (.int .i64 0), v116x109].toArray H103 fun v117x110 H111 =>
          ob (vUn .not v117x110) fun v118x112 =>
          gop v118x112 false (fun K113 => K113 (σ103 14) H111) H111 fun v120x114 H115 =>
          gop v118x112 false (fun K116 => K116 (σ103 0) H115) H115 fun v121x117 H118 =>
          gop v118x112 false (fun K119 => ob (vNilC v121x117) fun u => K119 u H118) H118 fun v122x120 H121 =>
          gop v118x112 false (fun K122 => ob (vFa 1 v122x120) fun u => K122 u H121) H121 fun v123x123 H124 =>
          gop v118x112 false (fun K125 => ob (vLoad v123x123 H124) fun u => K125 u H124) H124 fun v124x126 H127 =>
          gop v118x112 false (fun K128 => ob (vInt .sub v124x126 (.int .i64 1)) fun u => K128 u H127) H127 fun v125x129 H130 =>
          gop v118x112 false (fun K131 => HT prg I.spec_l00In [v120x114, (.int .i64 0), v125x129].toArray H130 K131) H130 fun v126x132 H133 =>
          gop v118x112 false (fun K134 => ob (vUn .not v126x132) fun u => K134 u H133) H133 fun v127x135 H136 =>
          ob (vPick v118x112 (.bool true) v127x135) fun v128x137 =>
          cnd v128x137
            (ob (vInt .add (σ103 14) (.int .i64 1)) fun v110x138 =>
          Q103 .normal (up (up (up (up (up (up (up (up (up (up (up (up (up (up (up (up (up (up (up (up (up (up (up (up (up σ103 105 (σ103 14)) 106 (σ103 12)) 107 v107x104) 108 v108x105) 111 (σ103 13)) 112 (σ103 0)) 113 v113x106) 114 v114x107) 115 v115x108) 116 v116x109) 117 v117x110) 118 v118x112) 119 v118x112) 120 v120x114) 121 v121x117) 122 v122x120) 123 v123x123) 124 v124x126) 125 v125x129) 126 v126x132) 127 v127x135) 128 v128x137) 109 (σ103 14)) 110 v110x138) 14 v110x138) H136)
            (ob (vNilC (σ103 0)) fun v131x139 =>
          ob (vFa 1 v131x139) fun v132x140 =>
          ob (vLoad v132x140 H136) fun v133x141 =>
          ob (vInt .mul (σ103 13) v133x141) fun v134x142 =>
          ob (vInt .add v134x142 (σ103 14)) fun v136x143 =>
          ob (vNilC (σ103 0)) fun v138x144 =>
          ob (vFa 2 v138x144) fun v139x145 =>
          ob (vLoad v139x145 H136) fun v140x146 =>
          ob (vIx 1 v140x146 v136x143) fun v142x147 =>
          ob (vLoad v142x147 H136) fun v143x148 =>
          ob (vInt .eql v143x148 (.int .i64 1)) fun v144x149 =>
          gop v144x149 true (fun K150 => K150 (σ103 4) H136) H136 fun v146x151 H152 =>
          gop v144x149 true (fun K153 => K153 v136x143 H152) H152 fun v147x154 H155 =>
          gop v144x149 true (fun K156 => ob (vIx 1 v146x151 v147x154) fun u => K156 u H155) H155 fun v148x157 H158 =>
          gop v144x149 true (fun K159 => ob (vLoad v148x157 H158) fun u => K159 u H158) H158 fun v149x160 H161 =>
          gop v144x149 true (fun K162 => ob (vUn .not v149x160) fun u => K162 u H161) H161 fun v150x163 H164 =>
          ob (vPick v144x149 v150x163 (.bool false)) fun v151x165 =>
          cnd v151x165
            (ob (vIx 1 (σ103 4) v136x143) fun v154x166 =>
            st 1 v154x166 (.bool true) H164 fun H167 =>
            bS 1 1 #[(.int .i64 0)] 2 [(0, v136x143)] H167 fun v157x168 H169 =>
            apd 1 8 #[(.int .i64 0)] 2 (σ103 9) v157x168 H169 fun v158x170 H171 =>
            ob (vInt .add (σ103 14) (.int .i64 1)) fun v110x172 =>
          Q103 .normal (up (up (up (up (up (up (up (up (up (up (up (up (up (up (up (up (up (up (up (up (up (up (up (up (up (up (up (up (up (up (up (up (up (up (up (up (up (up (up (up (up (up (up (up (up (up (up (up (up (up (up (up (up (up (up (up (up σ103 105 (σ103 14)) 106 (σ103 12)) 107 v107x104) 108 v108x105) 111 (σ103 13)) 112 (σ103 0)) 113 v113x106) 114 v114x107) 115 v115x108) 116 v116x109) 117 v117x110) 118 v118x112) 119 v118x112) 120 v120x114) 121 v121x117) 122 v122x120) 123 v123x123) 124 v124x126) 125 v125x129) 126 v126x132) 127 v127x135) 128 v128x137) 129 (σ103 13)) 130 (σ103 0)) 131 v131x139) 132 v132x140) 133 v133x141) 134 v134x142) 135 (σ103 14)) 136 v136x143) 15 v136x143) 137 (σ103 0)) 138 v138x144) 139 v139x145) 140 v140x146) 141 v136x143) 142 v142x147) 143 v143x148) 144 v144x149) 145 v144x149) 146 v146x151) 147 v147x154) 148 v148x157) 149 v149x160) 150 v150x163) 151 v151x165) 152 (σ103 4)) 153 v136x143) 154 v154x166) 155 (σ103 9)) 156 v136x143) 157 v157x168) 158 v158x170) 9 v158x170) 109 (σ103 14)) 110 v110x172) 14 v110x172) H171)
            (ob (vInt .add (σ103 14) (.int .i64 1)) fun v110x173 =>
          Q103 .normal (up (up (up (up (up (up (up (up (up (up (up (up (up (up (up (up (up (up (up (up (up (up (up (up (up (up (up (up (up (up (up (up (up (up (up (up (up (up (up (up (up (up (up (up (up (up (up (up (up σ103 105 (σ103 14)) 106 (σ103 12)) 107 v107x104) 108 v108x105) 111 (σ103 13)) 112 (σ103 0)) 113 v113x106) 114 v114x107) 115 v115x108) 116 v116x109) 117 v117x110) 118 v118x112) 119 v118x112) 120 v120x114) 121 v121x117) 122 v122x120) 123 v123x123) 124 v124x126) 125 v125x129) 126 v126x132) 127 v127x135) 128 v128x137) 129 (σ103 13)) 130 (σ103 0)) 131 v131x139) 132 v132x140) 133 v133x141) 134 v134x142) 135 (σ103 14)) 136 v136x143) 15 v136x143) 137 (σ103 0)) 138 v138x144) 139 v139x145) 140 v140x146) 141 v136x143) 142 v142x147) 143 v143x148) 144 v144x149) 145 v144x149) 146 v146x151) 147 v147x154) 148 v148x157) 149 v149x160) 150 v150x163) 151 v151x165) 109 (σ103 14)) 110 v110x173) 14 v110x173) H164)))
            (Q103 (.exit 6) (up (up (up (up σ103 105 (σ103 14)) 106 (σ103 12)) 107 v107x104) 108 v108x105) H103)) (blkQ 6 (blkQ 5 (thenQ J100 Q97))) (up (up (up (up (up (up (up σ97 97 (σ97 13)) 98 (σ97 11)) 99 v99x98) 100 v100x99) 103 (σ97 12)) 104 v104x102) 14 v104x102) H97)
          (Q97 (.exit 4) (up (up (up (up σ97 97 (σ97 13)) 98 (σ97 11)) 99 v99x98) 100 v100x99) H97)) (blkQ 4 (blkQ 3 (thenQ J76 Q73))) (up (up (up (up (up (up (up (up (up (up (up (up (up (up (up (up (up (up (up (up (up (up (up (up (up (up (up (up (up (up (up (up (up (up σ73 64 (σ73 10)) 65 (σ73 9)) 66 v66x74) 67 v67x75) 70 v70x78) 71 v71x79) 72 (σ73 9)) 73 (σ73 10)) 74 v74x80) 75 v75x81) 76 v76x82) 77 (σ73 9)) 78 (σ73 10)) 79 v79x84) 80 v80x85) 81 (σ73 0)) 82 v82x86) 83 v83x87) 84 v84x88) 85 v85x89) 11 v85x89) 86 (σ73 9)) 87 (σ73 10)) 88 v88x90) 89 v89x91) 90 (σ73 0)) 91 v91x92) 92 v92x93) 93 v93x94) 94 v94x95) 12 v94x95) 95 v85x89) 96 v96x96) 13 v96x96) H83)
        (Q73 (.exit 2) (up (up (up (up σ73 64 (σ73 10)) 65 (σ73 9)) 66 v66x74) 67 v67x75) H73)) (blkQ 2 (thenQ J54 (blkQ 1 (thenQ J18 Q16)))) (up (up (up (up (up (up (up (up (up (up (up (up (up (up (up (up (up (up (up (up (up (up (up (up (up (up (up (up (up (up (up (up (up (up σ16 34 v34x17) 35 (σ16 33)) 7 (σ16 33)) 36 (σ16 0)) 37 v37x20) 38 v38x21) 39 v39x22) 40 (σ16 33)) 41 v41x23) 42 v42x24) 43 v43x25) 44 v43x25) 45 v45x27) 46 v46x30) 47 v47x33) 48 v48x36) 49 v49x38) 50 (σ16 0)) 51 v51x39) 52 v52x40) 53 v53x41) 54 (σ16 0)) 55 v55x42) 56 v56x43) 57 v57x44) 58 v58x45) 8 v8x47) 59 (σ16 33)) 60 v60x50) 9 v60x50) 61 (σ16 4)) 62 (σ16 33)) 63 v63x52) 10 (.int .i64 0)) H53)))
      (Q16 (.exit 0) (up σ16 34 v34x17) H16)) (blkQ 0 (thenQ J11 (retQ prg [(.tmp 2), (.tmp 3)] K))) (up (up (up (up (up (up (up (up (up (up (up (up (up (up (up (up (up (up (up (S0 [a0]) 2 (.slice none 0 0)) 3 (.slice none 0 0)) 20 a0) 21 v21x1) 22 v22x2) 23 v23x3) 24 v24x4) 25 v25x5) 4 v25x5) 26 v26x7) 5 v26x7) 27 v27x9) 6 v27x9) 28 a0) 29 v29x12) 30 v30x13) 31 v31x14) 32 v32x15) 33 (.int .i64 0)) H10
def O.spec_l05Parts : Nat → Nat × List Nat := fun i => bif Nat.beq i 8 then (0, [0, 1, 2, 3, 4, 5, 6, 7, 8, 9, 10]) else bif Nat.beq i 14 then (0, [0, 1, 2, 3, 4, 5, 6, 7]) else bif Nat.beq i 15 then (0, [0, 1, 2, 3, 4, 5, 6, 7, 8, 9]) else bif Nat.beq i 16 then (0, [0, 1, 2, 3, 4, 5, 6, 7, 8, 9]) else (0, [])
theorem R.spec_l05Parts {a0 : Value} {H : Hp} {K : Value → Hp → Prop} (h : F.spec_l05Parts a0 H K) : HT prg I.spec_l05Parts [a0].toArray H K :=
  HT_of_fev O.spec_l05Parts mixed Tryz.func50 (by kernel_rfl) (Eq.mpr (by kernel_rfl : fev prg O.spec_l05Parts Tryz.f50 [a0] H K = F.spec_l05Parts a0 H K) h)

/-! loop.example/g01381/spec.l05Turn: function 99 -/
def F.spec_l05Turn (a0 : Value) (H : Hp) (K : Value → Hp → Prop) : Prop :=
  nw #[(.int .i64 0), (.int .i64 0), (.slice none 0 0)] 27 H fun v2x1 H2 =>
  ob (vNilC a0) fun v7x3 =>
  ob (vFa 1 v7x3) fun v8x4 =>
  ob (vLoad v8x4 H2) fun v9x5 =>
  ob (vNilC a0) fun v11x6 =>
  ob (vFa 0 v11x6) fun v12x7 =>
  ob (vLoad v12x7 H2) fun v13x8 =>
  HT prg I.spec_l04New [v9x5, v13x8].toArray H2 fun v14x9 H10 =>
  Le H2 H10 ∧ (nw #[(.int .i64 0), (.int .i64 0), (.slice none 0 0)] 27 H10 fun v3x11 H12 =>
  st 3 v3x11 v14x9 H12 fun H13 =>
  jn (fun σ14 H14 =>
    ob (vLoadN 3 (σ14 3) H14) fun v56x15 =>
    st 3 (σ14 2) v56x15 H14 fun H16 =>
    ob (vLoadN 3 (σ14 2) H16) fun u17 => K u17 H16) fun J14 =>
  lpE (fun Q18 σ18 H18 =>
    ob (vFa 0 (σ18 3)) fun v16x19 =>
    ob (vLoad v16x19 H18) fun v17x20 =>
    ob (vInt .lss (σ18 4) v17x20) fun v18x21 =>
    cnd v18x21
      (jn (fun σ22 H22 =>
      ob (vInt .add (σ22 4) (.int .i64 1)) fun v20x23 =>
      Q18 .normal (up (up (up σ22 19 (σ22 4)) 20 v20x23) 4 v20x23) H22) fun J22 =>
    lpE (fun Q24 σ24 H24 =>
      ob (vFa 1 (σ24 3)) fun v22x25 =>
      ob (vLoad v22x25 H24) fun v23x26 =>
      ob (vInt .lss (σ24 5) v23x26) fun v24x27 =>
      cnd v24x27
        (ob (vFa 2 (σ24 3)) fun v27x28 =>
      ob (vLoad v27x28 H24) fun v28x29 =>
      ob (vFa 1 (σ24 3)) fun v30x30 =>
      ob (vLoad v30x30 H24) fun v31x31 =>
      ob (vInt .mul (σ24 4) v31x31) fun v32x32 =>
      ob (vInt .add v32x32 (σ24 5)) fun v34x33 =>
      ob (vNilC (σ24 0)) fun v36x34 =>
      ob (vFa 2 v36x34) fun v37x35 =>
      ob (vLoad v37x35 H24) fun v38x36 =>
      ob (vNilC (σ24 0)) fun v40x37 =>
      ob (vFa 0 v40x37) fun v41x38 =>
      ob (vLoad v41x38 H24) fun v42x39 =>
      ob (vInt .sub v42x39 (.int .i64 1)) fun v43x40 =>
      ob (vInt .sub v43x40 (σ24 5)) fun v45x41 =>
      ob (vNilC (σ24 0)) fun v47x42 =>
      ob (vFa 1 v47x42) fun v48x43 =>
      ob (vLoad v48x43 H24) fun v49x44 =>
      ob (vInt .mul v45x41 v49x44) fun v50x45 =>
      ob (vInt .add v50x45 (σ24 4)) fun v52x46 =>
      ob (vIx 1 v38x36 v52x46) fun v53x47 =>
      ob (vLoad v53x47 H24) fun v54x48 =>
      ob (vIx 1 v28x29 v34x33) fun v55x49 =>
      st 1 v55x49 v54x48 H24 fun H50 =>
      ob (vInt .add (σ24 5) (.int .i64 1)) fun v26x51 =>
      Q24 .normal (up (up (up (up (up (up (up (up (up (up (up (up (up (up (up (up (up (up (up (up (up (up (up (up (up (up (up (up (up (up (up (up (up (up (up (up σ24 21 (σ24 5)) 22 v22x25) 23 v23x26) 24 v24x27) 27 v27x28) 28 v28x29) 29 (σ24 4)) 30 v30x30) 31 v31x31) 32 v32x32) 33 (σ24 5)) 34 v34x33) 35 (σ24 0)) 36 v36x34) 37 v37x35) 38 v38x36) 39 (σ24 0)) 40 v40x37) 41 v41x38) 42 v42x39) 43 v43x40) 44 (σ24 5)) 45 v45x41) 46 (σ24 0)) 47 v47x42) 48 v48x43) 49 v49x44) 50 v50x45) 51 (σ24 4)) 52 v52x46) 53 v53x47) 54 v54x48) 55 v55x49) 25 (σ24 5)) 26 v26x51) 5 v26x51) H50)
        (Q24 (.exit 2) (up (up (up (up σ24 21 (σ24 5)) 22 v22x25) 23 v23x26) 24 v24x27) H24)) (blkQ 2 (blkQ 1 (thenQ J22 Q18))) (up (up (up (up (up σ18 15 (σ18 4)) 16 v16x19) 17 v17x20) 18 v18x21) 5 (.int .i64 0)) H18)
      (Q18 (.exit 0) (up (up (up (up σ18 15 (σ18 4)) 16 v16x19) 17 v17x20) 18 v18x21) H18)) (blkQ 0 (thenQ J14 (retQ prg [(.cell 2 27)] K))) (up (up (up (up (up (up (up (up (up (up (up (up (S0 [a0]) 2 v2x1) 6 a0) 7 v7x3) 8 v8x4) 9 v9x5) 10 a0) 11 v11x6) 12 v12x7) 13 v13x8) 14 v14x9) 3 v3x11) 4 (.int .i64 0)) H13)
def O.spec_l05Turn : Nat → Nat × List Nat := fun i => bif Nat.beq i 1 then (0, [0, 1, 2, 3, 4, 5, 6, 7, 8, 9, 10]) else bif Nat.beq i 8 then (0, [0, 1, 2, 3, 4, 5, 6, 7, 8, 9, 10, 11, 12, 13, 14, 15, 16, 17, 18, 19, 20, 21, 22, 23, 24, 25, 26, 27, 28, 29]) else (0, [])
theorem R.spec_l05Turn {a0 : Value} {H : Hp} {K : Value → Hp → Prop} (h : F.spec_l05Turn a0 H K) : HT prg I.spec_l05Turn [a0].toArray H K :=
  HT_of_fev O.spec_l05Turn mixed Tryz.func99 (by kernel_rfl) (Eq.mpr (by kernel_rfl : fev prg O.spec_l05Turn Tryz.f99 [a0] H K = F.spec_l05Turn a0 H K) h)

end Go.Proofs.YthocjpfibegjcaaGreatDoor
