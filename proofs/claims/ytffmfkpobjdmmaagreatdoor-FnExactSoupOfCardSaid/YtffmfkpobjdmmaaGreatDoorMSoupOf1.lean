/- Several texts in one. -/
import Derived.Test.YtffmfkpobjdmmaaGreatDoorG0
import Derived.Test.YtffmfkpobjdmmaaGreatDoorMSoupOf0
/- Functions' texts over a partial heap. -/
namespace Go.Proofs.YtffmfkpobjdmmaaGreatDoor
open HL
set_option linter.unusedVariables false
set_option maxRecDepth 100000
set_option maxHeartbeats 4000000
/-! (loop.example/g01381/impl.Field).name: function 47 -/
def F.impl_Field_name (a0 : Value) (H : Hp) (K : Value → Hp → Prop) : Prop :=
  nw (a0 : Value).cells 44 H fun v1x1 H2 =>
  ob (vLoadN 3 v1x1 H2) fun v11x3 =>
  HT prg I.impl_Field_trimmed [v11x3].toArray H2 fun v12x4 H5 =>
  ob (vExt v12x4 0) fun v13x6 =>
  ob (vExt v12x4 1) fun v14x7 =>
  ob (vExt v12x4 2) fun v15x8 =>
  ob (vExt v12x4 3) fun v16x9 =>
  nw #[(.int .i64 0), (.int .i64 0), (.slice none 0 0)] 44 H5 fun v3x10 H11 =>
  st 3 v3x10 v13x6 H11 fun H12 =>
  ob (vUn .not v16x9) fun v18x13 =>
  cnd v18x13
    (K (.string ⟨#[]⟩) H12)
    (bS 1 0 #[(.string ⟨#[]⟩)] 9 [] H12 fun v19x14 H15 =>
  jn (fun σ16 H16 =>
    HT prg I.slices_Min_string_string [(σ16 7)].toArray H16 fun v34x17 H18 =>
    K v34x17 H18) fun J16 =>
  ob (vLoadN 3 v3x10 H15) fun v20x19 =>
  HT prg I.impl_Field_images [v20x19].toArray H15 fun v21x20 H21 =>
  ob (vLenSl v21x20) fun v22x22 =>
  lpE (fun Q23 σ23 H23 =>
    ob (vInt .lss (σ23 23) (σ23 22)) fun v24x24 =>
    cnd v24x24
      (ob (vIx 3 (σ23 21) (σ23 23)) fun v25x25 =>
    ob (vLoadN 3 v25x25 H23) fun v26x26 =>
    nw #[(.int .i64 0), (.int .i64 0), (.slice none 0 0)] 44 H23 fun v9x27 H28 =>
    st 3 v9x27 v26x26 H28 fun H29 =>
    ob (vLoadN 3 v9x27 H29) fun v28x30 =>
    HT prg I.impl_Field_text [v28x30].toArray H29 fun v29x31 H32 =>
    bS 1 1 #[(.string ⟨#[]⟩)] 9 [(0, v29x31)] H32 fun v30x33 H34 =>
    apd 1 16 #[(.string ⟨#[]⟩)] 9 (σ23 7) v30x33 H34 fun v31x35 H36 =>
    ob (vInt .add (σ23 23) (.int .i64 1)) fun v32x37 =>
    Q23 .normal (up (up (up (up (up (up (up (up (up (up (up (up σ23 24 v24x24) 25 v25x25) 26 v26x26) 9 v9x27) 27 (σ23 7)) 28 v28x30) 29 v29x31) 30 v30x33) 31 v31x35) 7 v31x35) 32 v32x37) 23 v32x37) H36)
      (Q23 (.exit 0) (up σ23 24 v24x24) H23)) (blkQ 0 (thenQ J16 (retQ prg [(.tmp 2)] K))) (up (up (up (up (up (up (up (up (up (up (up (up (up (up (up (up (up (up (up (up (up (S0 [a0]) 1 v1x1) 2 (.string ⟨#[]⟩)) 11 v11x3) 12 v12x4) 10 v12x4) 13 v13x6) 14 v14x7) 15 v15x8) 16 v16x9) 3 v3x10) 4 v14x7) 5 v15x8) 6 v16x9) 17 v16x9) 18 v18x13) 19 v19x14) 7 v19x14) 20 v20x19) 21 v21x20) 22 v22x22) 23 (.int .i64 0)) H21)
def O.impl_Field_name : Nat → Nat × List Nat := fun i => (0, [])
theorem R.impl_Field_name {a0 : Value} {H : Hp} {K : Value → Hp → Prop} (h : F.impl_Field_name a0 H K) : HT prg I.impl_Field_name [a0].toArray H K :=
  HT_of_fev O.impl_Field_name mixed Tryz.func47 (by kernel_rfl) (Eq.mpr (by kernel_rfl : fev prg O.impl_Field_name Tryz.f47 [a0] H K = F.impl_Field_name a0 H K) h)

/-! slices.insertionSortOrdered[string]: function 110 -/
def F.slices_insertionSortOrdered_string (a0 a1 a2 : Value) (H : Hp) (K : Value → Hp → Prop) : Prop :=
  ob (vInt .add a1 (.int .i64 1)) fun v9x1 =>
  lpE (fun Q2 σ2 H2 =>
    ob (vInt .lss (σ2 6) (σ2 2)) fun v12x3 =>
    cnd v12x3
      (jn (fun σ4 H4 =>
      ob (vInt .add (σ4 6) (.int .i64 1)) fun v14x5 =>
      Q2 .normal (up (up (up σ4 13 (σ4 6)) 14 v14x5) 6 v14x5) H4) fun J4 =>
    lpE (fun Q6 σ6 H6 =>
      ob (vInt .gtr (σ6 7) (σ6 1)) fun v18x7 =>
      gop v18x7 true (fun K8 => K8 (σ6 0) H6) H6 fun v20x9 H10 =>
      gop v18x7 true (fun K11 => K11 (σ6 7) H10) H10 fun v21x12 H13 =>
      gop v18x7 true (fun K14 => ob (vIx 1 v20x9 v21x12) fun u => K14 u H13) H13 fun v22x15 H16 =>
      gop v18x7 true (fun K17 => ob (vLoad v22x15 H16) fun u => K17 u H16) H16 fun v23x18 H19 =>
      gop v18x7 true (fun K20 => K20 (σ6 0) H19) H19 fun v24x21 H22 =>
      gop v18x7 true (fun K23 => K23 (σ6 7) H22) H22 fun v25x24 H25 =>
      gop v18x7 true (fun K26 => ob (vInt .sub v25x24 (.int .i64 1)) fun u => K26 u H25) H25 fun v26x27 H28 =>
      gop v18x7 true (fun K29 => ob (vIx 1 v24x21 v26x27) fun u => K29 u H28) H28 fun v27x30 H31 =>
      gop v18x7 true (fun K32 => ob (vLoad v27x30 H31) fun u => K32 u H31) H31 fun v28x33 H34 =>
      gop v18x7 true (fun K35 => HT prg I.cmp_Less_string [v23x18, v28x33].toArray H34 fun v29x36 H37 =>
      Le H34 H37 ∧ K35 v29x36 H37) H34 fun v29x38 H39 =>
      ob (vPick v18x7 v29x38 (.bool false)) fun v30x40 =>
      cnd v30x40
        (ob (vInt .sub (σ6 7) (.int .i64 1)) fun v37x41 =>
      ob (vInt .sub (σ6 7) (.int .i64 1)) fun v40x42 =>
      ob (vIx 1 (σ6 0) v40x42) fun v41x43 =>
      ob (vLoad v41x43 H39) fun v42x44 =>
      ob (vIx 1 (σ6 0) (σ6 7)) fun v45x45 =>
      ob (vLoad v45x45 H39) fun v46x46 =>
      ob (vIx 1 (σ6 0) (σ6 7)) fun v47x47 =>
      st 1 v47x47 v42x44 H39 fun H48 =>
      ob (vIx 1 (σ6 0) v37x41) fun v48x49 =>
      st 1 v48x49 v46x46 H48 fun H50 =>
      ob (vInt .sub (σ6 7) (.int .i64 1)) fun v32x51 =>
      Q6 .normal (up (up (up (up (up (up (up (up (up (up (up (up (up (up (up (up (up (up (up (up (up (up (up (up (up (up (up (up (up (up (up (up (up (up σ6 16 (σ6 7)) 17 (σ6 1)) 18 v18x7) 19 v18x7) 20 v20x9) 21 v21x12) 22 v22x15) 23 v23x18) 24 v24x21) 25 v25x24) 26 v26x27) 27 v27x30) 28 v28x33) 29 v29x38) 30 v30x40) 33 (σ6 0)) 34 (σ6 7)) 35 (σ6 0)) 36 (σ6 7)) 37 v37x41) 38 (σ6 0)) 39 (σ6 7)) 40 v40x42) 41 v41x43) 42 v42x44) 43 (σ6 0)) 44 (σ6 7)) 45 v45x45) 46 v46x46) 47 v47x47) 48 v48x49) 31 (σ6 7)) 32 v32x51) 7 v32x51) H50)
        (Q6 (.exit 2) (up (up (up (up (up (up (up (up (up (up (up (up (up (up (up σ6 16 (σ6 7)) 17 (σ6 1)) 18 v18x7) 19 v18x7) 20 v20x9) 21 v21x12) 22 v22x15) 23 v23x18) 24 v24x21) 25 v25x24) 26 v26x27) 27 v27x30) 28 v28x33) 29 v29x38) 30 v30x40) H39)) (blkQ 2 (blkQ 1 (thenQ J4 Q2))) (up (up (up (up (up σ2 10 (σ2 6)) 11 (σ2 2)) 12 v12x3) 15 (σ2 6)) 7 (σ2 6)) H2)
      (Q2 (.exit 0) (up (up (up σ2 10 (σ2 6)) 11 (σ2 2)) 12 v12x3) H2)) (blkQ 0 (retQ prg [] K)) (up (up (up (S0 [a0, a1, a2]) 8 a1) 9 v9x1) 6 v9x1) H
def O.slices_insertionSortOrdered_string : Nat → Nat × List Nat := fun i => bif Nat.beq i 4 then (0, [0, 1, 2, 3, 4, 5, 6, 7, 8, 9, 10, 11, 12, 13, 14]) else bif Nat.beq i 6 then (0, [0, 1, 2, 3, 4, 5, 6, 7, 8, 9, 10, 11, 12, 13, 14, 15, 16, 17]) else (0, [])
theorem R.slices_insertionSortOrdered_string {a0 a1 a2 : Value} {H : Hp} {K : Value → Hp → Prop} (h : F.slices_insertionSortOrdered_string a0 a1 a2 H K) : HT prg I.slices_insertionSortOrdered_string [a0, a1, a2].toArray H K :=
  HT_of_fev O.slices_insertionSortOrdered_string mixed Tryz.func110 (by kernel_rfl) (Eq.mpr (by kernel_rfl : fev prg O.slices_insertionSortOrdered_string Tryz.f110 [a0, a1, a2] H K = F.slices_insertionSortOrdered_string a0 a1 a2 H K) h)

/-! math/bits.Len: function 85 -/
def F.math_bits_Len (a0 : Value) (H : Hp) (K : Value → Hp → Prop) : Prop :=
  cnd (.bool false)
    (ob (vCI .u32 a0) fun v4x1 =>
    HT prg I.math_bits_Len32 [v4x1].toArray H fun v5x2 H3 =>
    K v5x2 H3)
    (HT prg I.math_bits_Len64 [a0].toArray H fun v7x4 H5 =>
  K v7x4 H5)
def O.math_bits_Len : Nat → Nat × List Nat := fun i => (0, [])
theorem R.math_bits_Len {a0 : Value} {H : Hp} {K : Value → Hp → Prop} (h : F.math_bits_Len a0 H K) : HT prg I.math_bits_Len [a0].toArray H K :=
  HT_of_fev O.math_bits_Len mixed Tryz.func85 (by kernel_rfl) (Eq.mpr (by kernel_rfl : fev prg O.math_bits_Len Tryz.f85 [a0] H K = F.math_bits_Len a0 H K) h)

/-! slices.pdqsortOrdered[string]: function 84 -/
def F.slices_pdqsortOrdered_string (a0 a1 a2 a3 : Value) (H : Hp) (K : Value → Hp → Prop) : Prop :=
  lpE (fun Q1 σ1 H1 =>
    ob (vInt .sub (σ1 2) (σ1 1)) fun v21x2 =>
    ob (vInt .leq v21x2 (.int .i64 12)) fun v23x3 =>
    cnd v23x3
      (HT prg I.slices_insertionSortOrdered_string [(σ1 0), (σ1 1), (σ1 2)].toArray H1 fun v27x4 H5 =>
      Q1 .ret (up (up (up (up (up (up (up (up (up (up σ1 19 (σ1 2)) 20 (σ1 1)) 21 v21x2) 10 v21x2) 22 v21x2) 23 v23x3) 24 (σ1 0)) 25 (σ1 1)) 26 (σ1 2)) 27 v27x4) H5)
      (ob (vInt .eql (σ1 3) (.int .i64 0)) fun v29x6 =>
    cnd v29x6
      (HT prg I.slices_heapSortOrdered_string [(σ1 0), (σ1 1), (σ1 2)].toArray H1 fun v33x7 H8 =>
      Q1 .ret (up (up (up (up (up (up (up (up (up (up (up (up σ1 19 (σ1 2)) 20 (σ1 1)) 21 v21x2) 10 v21x2) 22 v21x2) 23 v23x3) 28 (σ1 3)) 29 v29x6) 30 (σ1 0)) 31 (σ1 1)) 32 (σ1 2)) 33 v33x7) H8)
      (jn (fun σ9 H9 =>
      HT prg I.slices_choosePivotOrdered_string [(σ9 0), (σ9 1), (σ9 2)].toArray H9 fun v46x10 H11 =>
      ob (vExt v46x10 0) fun v47x12 =>
      ob (vExt v46x10 1) fun v48x13 =>
      jn (fun σ14 H14 =>
        jn (fun σ15 H15 =>
          ob (vInt .gtr (σ15 1) (.int .i64 0)) fun v74x16 =>
          gop v74x16 true (fun K17 => K17 (σ15 0) H15) H15 fun v76x18 H19 =>
          gop v74x16 true (fun K20 => K20 (σ15 1) H19) H19 fun v77x21 H22 =>
          gop v74x16 true (fun K23 => ob (vInt .sub v77x21 (.int .i64 1)) fun u => K23 u H22) H22 fun v78x24 H25 =>
          gop v74x16 true (fun K26 => ob (vIx 1 v76x18 v78x24) fun u => K26 u H25) H25 fun v79x27 H28 =>
          gop v74x16 true (fun K29 => ob (vLoad v79x27 H28) fun u => K29 u H28) H28 fun v80x30 H31 =>
          gop v74x16 true (fun K32 => K32 (σ15 0) H31) H31 fun v81x33 H34 =>
          gop v74x16 true (fun K35 => K35 (σ15 11) H34) H34 fun v82x36 H37 =>
          gop v74x16 true (fun K38 => ob (vIx 1 v81x33 v82x36) fun u => K38 u H37) H37 fun v83x39 H40 =>
          gop v74x16 true (fun K41 => ob (vLoad v83x39 H40) fun u => K41 u H40) H40 fun v84x42 H43 =>
          gop v74x16 true (fun K44 => HT prg I.cmp_Less_string [v80x30, v84x42].toArray H43 fun v85x45 H46 =>
          Le H43 H46 ∧ K44 v85x45 H46) H43 fun v85x47 H48 =>
          gop v74x16 true (fun K49 => ob (vUn .not v85x47) fun u => K49 u H48) H48 fun v86x50 H51 =>
          ob (vPick v74x16 v86x50 (.bool false)) fun v87x52 =>
          cnd v87x52
            (HT prg I.slices_partitionEqualOrdered_string [(σ15 0), (σ15 1), (σ15 2), (σ15 11)].toArray H51 fun v92x53 H54 =>
            Q1 .normal (up (up (up (up (up (up (up (up (up (up (up (up (up (up (up (up (up (up (up (up (up (up (up σ15 73 (σ15 1)) 74 v74x16) 75 v74x16) 76 v76x18) 77 v77x21) 78 v78x24) 79 v79x27) 80 v80x30) 81 v81x33) 82 v82x36) 83 v83x39) 84 v84x42) 85 v85x47) 86 v86x50) 87 v87x52) 88 (σ15 0)) 89 (σ15 1)) 90 (σ15 2)) 91 (σ15 11)) 92 v92x53) 13 v92x53) 93 v92x53) 1 v92x53) H54)
            (HT prg I.slices_partitionOrdered_string [(σ15 0), (σ15 1), (σ15 2), (σ15 11)].toArray H51 fun v99x55 H56 =>
          ob (vExt v99x55 0) fun v100x57 =>
          ob (vExt v99x55 1) fun v101x58 =>
          ob (vInt .sub v100x57 (σ15 1)) fun v105x59 =>
          ob (vInt .sub (σ15 2) v100x57) fun v108x60 =>
          ob (vInt .quo (σ15 10) (.int .i64 8)) fun v110x61 =>
          ob (vInt .lss v105x59 v108x60) fun v113x62 =>
          cnd v113x62
            (ob (vInt .geq v105x59 v110x61) fun v116x63 =>
            HT prg I.slices_pdqsortOrdered_string [(σ15 0), (σ15 1), v100x57, (σ15 3)].toArray H56 fun v121x64 H65 =>
            ob (vInt .add v100x57 (.int .i64 1)) fun v123x66 =>
            Q1 .normal (up (up (up (up (up (up (up (up (up (up (up (up (up (up (up (up (up (up (up (up (up (up (up (up (up (up (up (up (up (up (up (up (up (up (up (up (up (up (up (up (up (up (up (up (up (up (up (up (up (up (up (up (up σ15 73 (σ15 1)) 74 v74x16) 75 v74x16) 76 v76x18) 77 v77x21) 78 v78x24) 79 v79x27) 80 v80x30) 81 v81x33) 82 v82x36) 83 v83x39) 84 v84x42) 85 v85x47) 86 v86x50) 87 v87x52) 95 (σ15 0)) 96 (σ15 1)) 97 (σ15 2)) 98 (σ15 11)) 99 v99x55) 94 v99x55) 100 v100x57) 101 v101x58) 14 v100x57) 15 v101x58) 102 v101x58) 9 v101x58) 103 v100x57) 104 (σ15 1)) 105 v105x59) 106 (σ15 2)) 107 v100x57) 108 v108x60) 16 v105x59) 17 v108x60) 109 (σ15 10)) 110 v110x61) 18 v110x61) 111 v105x59) 112 v108x60) 113 v113x62) 114 v105x59) 115 v110x61) 116 v116x63) 8 v116x63) 117 (σ15 0)) 118 (σ15 1)) 119 v100x57) 120 (σ15 3)) 121 v121x64) 122 v100x57) 123 v123x66) 1 v123x66) H65)
            (ob (vInt .geq v108x60 v110x61) fun v126x67 =>
            ob (vInt .add v100x57 (.int .i64 1)) fun v129x68 =>
            HT prg I.slices_pdqsortOrdered_string [(σ15 0), v129x68, (σ15 2), (σ15 3)].toArray H56 fun v132x69 H70 =>
            Q1 .normal (up (up (up (up (up (up (up (up (up (up (up (up (up (up (up (up (up (up (up (up (up (up (up (up (up (up (up (up (up (up (up (up (up (up (up (up (up (up (up (up (up (up (up (up (up (up (up (up (up (up (up (up (up σ15 73 (σ15 1)) 74 v74x16) 75 v74x16) 76 v76x18) 77 v77x21) 78 v78x24) 79 v79x27) 80 v80x30) 81 v81x33) 82 v82x36) 83 v83x39) 84 v84x42) 85 v85x47) 86 v86x50) 87 v87x52) 95 (σ15 0)) 96 (σ15 1)) 97 (σ15 2)) 98 (σ15 11)) 99 v99x55) 94 v99x55) 100 v100x57) 101 v101x58) 14 v100x57) 15 v101x58) 102 v101x58) 9 v101x58) 103 v100x57) 104 (σ15 1)) 105 v105x59) 106 (σ15 2)) 107 v100x57) 108 v108x60) 16 v105x59) 17 v108x60) 109 (σ15 10)) 110 v110x61) 18 v110x61) 111 v105x59) 112 v108x60) 113 v113x62) 124 v108x60) 125 v110x61) 126 v126x67) 8 v126x67) 127 (σ15 0)) 128 v100x57) 129 v129x68) 130 (σ15 2)) 131 (σ15 3)) 132 v132x69) 133 v100x57) 2 v100x57) H70))) fun J15 =>
        gop (σ14 8) true (fun K71 => K71 (σ14 9) H14) H14 fun v63x72 H73 =>
        ob (vPick (σ14 8) v63x72 (.bool false)) fun v64x74 =>
        gop v64x74 true (fun K75 => K75 (σ14 12) H73) H73 fun v66x76 H77 =>
        gop v64x74 true (fun K78 => ob (vInt .eql v66x76 (.int .i64 1)) fun u => K78 u H77) H77 fun v67x79 H80 =>
        ob (vPick v64x74 v67x79 (.bool false)) fun v68x81 =>
        cnd v68x81
          (HT prg I.slices_partialInsertionSortOrdered_string [(σ14 0), (σ14 1), (σ14 2)].toArray H80 fun v72x82 H83 =>
          cnd v72x82
            (Q1 .ret (up (up (up (up (up (up (up (up (up (up (up (up σ14 61 (σ14 8)) 62 (σ14 8)) 63 v63x72) 64 v64x74) 65 v64x74) 66 v66x76) 67 v67x79) 68 v68x81) 69 (σ14 0)) 70 (σ14 1)) 71 (σ14 2)) 72 v72x82) H83)
            (J15 (up (up (up (up (up (up (up (up (up (up (up (up σ14 61 (σ14 8)) 62 (σ14 8)) 63 v63x72) 64 v64x74) 65 v64x74) 66 v66x76) 67 v67x79) 68 v68x81) 69 (σ14 0)) 70 (σ14 1)) 71 (σ14 2)) 72 v72x82) H83))
          (J15 (up (up (up (up (up (up (up (up σ14 61 (σ14 8)) 62 (σ14 8)) 63 v63x72) 64 v64x74) 65 v64x74) 66 v66x76) 67 v67x79) 68 v68x81) H80)) fun J14 =>
      ob (vInt .eql v48x13 (.int .i64 2)) fun v50x84 =>
      cnd v50x84
        (HT prg I.slices_reverseRangeOrdered_string [(σ9 0), (σ9 1), (σ9 2)].toArray H11 fun v54x85 H86 =>
        ob (vInt .sub (σ9 2) (.int .i64 1)) fun v56x87 =>
        ob (vInt .sub v47x12 (σ9 1)) fun v59x88 =>
        ob (vInt .sub v56x87 v59x88) fun v60x89 =>
        J14 (up (up (up (up (up (up (up (up (up (up (up (up (up (up (up (up (up (up (up (up (up (up (up σ9 43 (σ9 0)) 44 (σ9 1)) 45 (σ9 2)) 46 v46x10) 42 v46x10) 47 v47x12) 48 v48x13) 11 v47x12) 12 v48x13) 49 v48x13) 50 v50x84) 51 (σ9 0)) 52 (σ9 1)) 53 (σ9 2)) 54 v54x85) 55 (σ9 2)) 56 v56x87) 57 v47x12) 58 (σ9 1)) 59 v59x88) 60 v60x89) 11 v60x89) 12 (.int .i64 1)) H86)
        (J14 (up (up (up (up (up (up (up (up (up (up (up σ9 43 (σ9 0)) 44 (σ9 1)) 45 (σ9 2)) 46 v46x10) 42 v46x10) 47 v47x12) 48 v48x13) 11 v47x12) 12 v48x13) 49 v48x13) 50 v50x84) H11)) fun J9 =>
    ob (vUn .not (σ1 8)) fun v35x90 =>
    cnd v35x90
      (HT prg I.slices_breakPatternsOrdered_string [(σ1 0), (σ1 1), (σ1 2)].toArray H1 fun v39x91 H92 =>
      ob (vInt .sub (σ1 3) (.int .i64 1)) fun v41x93 =>
      J9 (up (up (up (up (up (up (up (up (up (up (up (up (up (up (up (up (up σ1 19 (σ1 2)) 20 (σ1 1)) 21 v21x2) 10 v21x2) 22 v21x2) 23 v23x3) 28 (σ1 3)) 29 v29x6) 34 (σ1 8)) 35 v35x90) 36 (σ1 0)) 37 (σ1 1)) 38 (σ1 2)) 39 v39x91) 40 (σ1 3)) 41 v41x93) 3 v41x93) H92)
      (J9 (up (up (up (up (up (up (up (up (up (up σ1 19 (σ1 2)) 20 (σ1 1)) 21 v21x2) 10 v21x2) 22 v21x2) 23 v23x3) 28 (σ1 3)) 29 v29x6) 34 (σ1 8)) 35 v35x90) H1)))) (blkQ 0 (retQ prg [] K)) (up (up (S0 [a0, a1, a2, a3]) 8 (.bool true)) 9 (.bool true)) H
def O.slices_pdqsortOrdered_string : Nat → Nat × List Nat := fun i => bif Nat.beq i 17 then (0, [0, 1, 2, 3, 4, 5, 6, 7, 8, 9, 10, 11, 12, 13, 14]) else (0, [])
theorem R.slices_pdqsortOrdered_string {a0 a1 a2 a3 : Value} {H : Hp} {K : Value → Hp → Prop} (h : F.slices_pdqsortOrdered_string a0 a1 a2 a3 H K) : HT prg I.slices_pdqsortOrdered_string [a0, a1, a2, a3].toArray H K :=
  HT_of_fev O.slices_pdqsortOrdered_string mixed Tryz.func84 (by kernel_rfl) (Eq.mpr (by kernel_rfl : fev prg O.slices_pdqsortOrdered_string Tryz.f84 [a0, a1, a2, a3] H K = F.slices_pdqsortOrdered_string a0 a1 a2 a3 H K) h)

/-! slices.Sort[[]string,string]: function 48 -/
def F.slices_Sort_string_string (a0 : Value) (H : Hp) (K : Value → Hp → Prop) : Prop :=
  ob (vLenSl a0) fun v4x1 =>
  ob (vCI .u64 v4x1) fun v8x2 =>
  HT prg I.math_bits_Len [v8x2].toArray H fun v9x3 H4 =>
  HT prg I.slices_pdqsortOrdered_string [a0, (.int .i64 0), v4x1, v9x3].toArray H4 fun v10x5 H6 =>
  K (.tuple #[]) H6
def O.slices_Sort_string_string : Nat → Nat × List Nat := fun i => (0, [])
theorem R.slices_Sort_string_string {a0 : Value} {H : Hp} {K : Value → Hp → Prop} (h : F.slices_Sort_string_string a0 H K) : HT prg I.slices_Sort_string_string [a0].toArray H K :=
  HT_of_fev O.slices_Sort_string_string mixed Tryz.func48 (by kernel_rfl) (Eq.mpr (by kernel_rfl : fev prg O.slices_Sort_string_string Tryz.f48 [a0] H K = F.slices_Sort_string_string a0 H K) h)

/-! loop.example/g01381/impl.CensusOf: function 28 -/
def F.impl_CensusOf (a0 : Value) (H : Hp) (K : Value → Hp → Prop) : Prop :=
  nw (a0 : Value).cells 44 H fun v1x1 H2 =>
  ob (vLoadN 3 v1x1 H2) fun v16x3 =>
  HT prg I.impl_PartsOf [v16x3].toArray H2 fun v17x4 H5 =>
  ob (vExt v17x4 0) fun v18x6 =>
  ob (vExt v17x4 1) fun v19x7 =>
  ob (vExt v17x4 2) fun v20x8 =>
  ob (vUn .not v20x8) fun v22x9 =>
  cnd v22x9
    (K (.tuple #[(.slice none 0 0), (.slice none 0 0), (.bool false)]) H5)
    (bS 1 0 #[(.string ⟨#[]⟩)] 9 [] H5 fun v23x10 H11 =>
  jn (fun σ12 H12 =>
    HT prg I.slices_Sort_string_string [(σ12 8)].toArray H12 fun v37x13 H14 =>
    bS 1 0 #[(.string ⟨#[]⟩)] 9 [] H14 fun v38x15 H16 =>
    bS 1 0 #[(.int .i64 0)] 2 [] H16 fun v39x17 H18 =>
    jn (fun σ19 H19 =>
      ob (vLenSl (σ19 11)) fun v76x20 =>
      ob (vInt .gtr v76x20 (.int .i64 64)) fun v77x21 =>
      cnd v77x21
        (K (.tuple #[(.slice none 0 0), (.slice none 0 0), (.bool false)]) H19)
        (K (.tuple #[(σ19 11), (σ19 12), (.bool true)]) H19)) fun J19 =>
    ob (vLenSl (σ12 8)) fun v41x22 =>
    lpE (fun Q23 σ23 H23 =>
      ob (vInt .lss (σ23 42) (σ23 41)) fun v43x24 =>
      cnd v43x24
        (ob (vIx 1 (σ23 40) (σ23 42)) fun v44x25 =>
      ob (vLoad v44x25 H23) fun v45x26 =>
      ob (vLenSl (σ23 11)) fun v47x27 =>
      ob (vInt .eql v47x27 (.int .i64 0)) fun v48x28 =>
      gop v48x28 false (fun K29 => K29 (σ23 11) H23) H23 fun v50x30 H31 =>
      gop v48x28 false (fun K32 => K32 (σ23 11) H31) H31 fun v51x33 H34 =>
      gop v48x28 false (fun K35 => ob (vLenSl v51x33) fun u => K35 u H34) H34 fun v52x36 H37 =>
      gop v48x28 false (fun K38 => ob (vInt .sub v52x36 (.int .i64 1)) fun u => K38 u H37) H37 fun v53x39 H40 =>
      gop v48x28 false (fun K41 => ob (vIx 1 v50x30 v53x39) fun u => K41 u H40) H40 fun v54x42 H43 =>
      gop v48x28 false (fun K44 => ob (vLoad v54x42 H43) fun u => K44 u H43) H43 fun v55x45 H46 =>
      gop v48x28 false (fun K47 => K47 v45x26 H46) H46 fun v56x48 H49 =>
      gop v48x28 false (fun K50 => ob (vStr .neq v55x45 v56x48) fun u => K50 u H49) H49 fun v57x51 H52 =>
      ob (vPick v48x28 (.bool true) v57x51) fun v58x53 =>
      cnd v58x53
        (bS 1 1 #[(.string ⟨#[]⟩)] 9 [(0, v45x26)] H52 fun v61x54 H55 =>
        apd 1 16 #[(.string ⟨#[]⟩)] 9 (σ23 11) v61x54 H55 fun v62x56 H57 =>
        bS 1 1 #[(.int .i64 0)] 2 [(0, (.int .i64 0))] H57 fun v64x58 H59 =>
        apd 1 8 #[(.int .i64 0)] 2 (σ23 12) v64x58 H59 fun v65x60 H61 =>
        ob (vLenSl v65x60) fun v68x62 =>
      ob (vInt .sub v68x62 (.int .i64 1)) fun v69x63 =>
      ob (vIx 1 v65x60 v69x63) fun v70x64 =>
      ob (vLoad v70x64 H61) fun v71x65 =>
      ob (vInt .add v71x65 (.int .i64 1)) fun v72x66 =>
      ob (vIx 1 v65x60 v69x63) fun v73x67 =>
      st 1 v73x67 v72x66 H61 fun H68 =>
      ob (vInt .add (σ23 42) (.int .i64 1)) fun v74x69 =>
      Q23 .normal (up (up (up (up (up (up (up (up (up (up (up (up (up (up (up (up (up (up (up (up (up (up (up (up (up (up (up (up (up (up (up (up (up (up (up (up σ23 43 v43x24) 44 v44x25) 45 v45x26) 14 v45x26) 46 (σ23 11)) 47 v47x27) 48 v48x28) 49 v48x28) 50 v50x30) 51 v51x33) 52 v52x36) 53 v53x39) 54 v54x42) 55 v55x45) 56 v56x48) 57 v57x51) 58 v58x53) 59 (σ23 11)) 60 v45x26) 61 v61x54) 62 v62x56) 63 (σ23 12)) 64 v64x58) 65 v65x60) 11 v62x56) 12 v65x60) 66 v65x60) 67 v65x60) 68 v68x62) 69 v69x63) 70 v70x64) 71 v71x65) 72 v72x66) 73 v73x67) 74 v74x69) 42 v74x69) H68)
        (ob (vLenSl (σ23 12)) fun v68x70 =>
      ob (vInt .sub v68x70 (.int .i64 1)) fun v69x71 =>
      ob (vIx 1 (σ23 12) v69x71) fun v70x72 =>
      ob (vLoad v70x72 H52) fun v71x73 =>
      ob (vInt .add v71x73 (.int .i64 1)) fun v72x74 =>
      ob (vIx 1 (σ23 12) v69x71) fun v73x75 =>
      st 1 v73x75 v72x74 H52 fun H76 =>
      ob (vInt .add (σ23 42) (.int .i64 1)) fun v74x77 =>
      Q23 .normal (up (up (up (up (up (up (up (up (up (up (up (up (up (up (up (up (up (up (up (up (up (up (up (up (up (up (up σ23 43 v43x24) 44 v44x25) 45 v45x26) 14 v45x26) 46 (σ23 11)) 47 v47x27) 48 v48x28) 49 v48x28) 50 v50x30) 51 v51x33) 52 v52x36) 53 v53x39) 54 v54x42) 55 v55x45) 56 v56x48) 57 v57x51) 58 v58x53) 66 (σ23 12)) 67 (σ23 12)) 68 v68x70) 69 v69x71) 70 v70x72) 71 v71x73) 72 v72x74) 73 v73x75) 74 v74x77) 42 v74x77) H76))
        (Q23 (.exit 2) (up σ23 43 v43x24) H23)) (blkQ 2 (thenQ J19 (retQ prg [(.tmp 2), (.tmp 3), (.tmp 4)] K))) (up (up (up (up (up (up (up (up (up σ12 36 (σ12 8)) 37 v37x13) 38 v38x15) 39 v39x17) 11 v38x15) 12 v39x17) 40 (σ12 8)) 41 v41x22) 42 (.int .i64 0)) H18) fun J12 =>
  ob (vLenSl v18x6) fun v25x78 =>
  lpE (fun Q79 σ79 H79 =>
    ob (vInt .lss (σ79 26) (σ79 25)) fun v27x80 =>
    cnd v27x80
      (ob (vIx 3 (σ79 24) (σ79 26)) fun v28x81 =>
    ob (vLoadN 3 v28x81 H79) fun v29x82 =>
    nw #[(.int .i64 0), (.int .i64 0), (.slice none 0 0)] 44 H79 fun v10x83 H84 =>
    st 3 v10x83 v29x82 H84 fun H85 =>
    ob (vLoadN 3 v10x83 H85) fun v31x86 =>
    HT prg I.impl_Field_name [v31x86].toArray H85 fun v32x87 H88 =>
    bS 1 1 #[(.string ⟨#[]⟩)] 9 [(0, v32x87)] H88 fun v33x89 H90 =>
    apd 1 16 #[(.string ⟨#[]⟩)] 9 (σ79 8) v33x89 H90 fun v34x91 H92 =>
    ob (vInt .add (σ79 26) (.int .i64 1)) fun v35x93 =>
    Q79 .normal (up (up (up (up (up (up (up (up (up (up (up (up σ79 27 v27x80) 28 v28x81) 29 v29x82) 10 v10x83) 30 (σ79 8)) 31 v31x86) 32 v32x87) 33 v33x89) 34 v34x91) 8 v34x91) 35 v35x93) 26 v35x93) H92)
      (Q79 (.exit 0) (up σ79 27 v27x80) H79)) (blkQ 0 (thenQ J12 (retQ prg [(.tmp 2), (.tmp 3), (.tmp 4)] K))) (up (up (up (up (up (up (up (up (up (up (up (up (up (up (up (up (up (up (up (up (S0 [a0]) 1 v1x1) 2 (.slice none 0 0)) 3 (.slice none 0 0)) 4 (.bool false)) 16 v16x3) 17 v17x4) 15 v17x4) 18 v18x6) 19 v19x7) 20 v20x8) 5 v18x6) 6 v19x7) 7 v20x8) 21 v20x8) 22 v22x9) 23 v23x10) 8 v23x10) 24 v18x6) 25 v25x78) 26 (.int .i64 0)) H11)
def O.impl_CensusOf : Nat → Nat × List Nat := fun i => (0, [])
theorem R.impl_CensusOf {a0 : Value} {H : Hp} {K : Value → Hp → Prop} (h : F.impl_CensusOf a0 H K) : HT prg I.impl_CensusOf [a0].toArray H K :=
  HT_of_fev O.impl_CensusOf mixed Tryz.func28 (by kernel_rfl) (Eq.mpr (by kernel_rfl : fev prg O.impl_CensusOf Tryz.f28 [a0] H K = F.impl_CensusOf a0 H K) h)

/-! loop.example/g01381/impl.SoupOf: function 8 -/
def F.impl_SoupOf (a0 a1 a2 a3 a4 : Value) (H : Hp) (K : Value → Hp → Prop) : Prop :=
  nw (a0 : Value).cells 30 H fun v5x1 H2 =>
  ob (vLoadN 2 v5x1 H2) fun v20x3 =>
  HT prg I.impl_soup [v20x3, a1, a2, a3, a4].toArray H2 fun v25x4 H5 =>
  ob (vExt v25x4 0) fun v26x6 =>
  ob (vExt v25x4 1) fun v27x7 =>
  ob (vExt v25x4 2) fun v28x8 =>
  nw #[(.int .i64 0), (.int .i64 0), (.slice none 0 0)] 44 H5 fun v14x9 H10 =>
  st 3 v14x9 v26x6 H10 fun H11 =>
  ob (vUn .not v28x8) fun v30x12 =>
  cnd v30x12
    (K (.tuple #[(.slice none 0 0), (.slice none 0 0), (.int .i64 0), (.bool false)]) H11)
    (ob (vLoadN 3 v14x9 H11) fun v32x13 =>
  HT prg I.impl_CensusOf [v32x13].toArray H11 fun v33x14 H15 =>
  ob (vExt v33x14 0) fun v34x16 =>
  ob (vExt v33x14 1) fun v35x17 =>
  ob (vExt v33x14 2) fun v36x18 =>
  ob (vUn .not v36x18) fun v38x19 =>
  cnd v38x19
    (K (.tuple #[(.slice none 0 0), (.slice none 0 0), (.int .i64 0), (.bool false)]) H15)
    (K (.tuple #[v34x16, v35x17, v27x7, (.bool true)]) H15))
def O.impl_SoupOf : Nat → Nat × List Nat := fun i => (0, [])
theorem R.impl_SoupOf {a0 a1 a2 a3 a4 : Value} {H : Hp} {K : Value → Hp → Prop} (h : F.impl_SoupOf a0 a1 a2 a3 a4 H K) : HT prg I.impl_SoupOf [a0, a1, a2, a3, a4].toArray H K :=
  HT_of_fev O.impl_SoupOf mixed Tryz.func8 (by kernel_rfl) (Eq.mpr (by kernel_rfl : fev prg O.impl_SoupOf Tryz.f8 [a0, a1, a2, a3, a4] H K = F.impl_SoupOf a0 a1 a2 a3 a4 H K) h)

/-! loop.example/g01381/laws.eqStringS: function 9 -/
def F.laws_eqStringS (a0 a1 : Value) (H : Hp) (K : Value → Hp → Prop) : Prop :=
  ob (vLenSl a0) fun v7x1 =>
  ob (vLenSl a1) fun v9x2 =>
  ob (vInt .neq v7x1 v9x2) fun v10x3 =>
  cnd v10x3
    (K (.bool false) H)
    (jn (fun σ4 H4 =>
    K (.bool true) H4) fun J4 =>
  lpE (fun Q5 σ5 H5 =>
    ob (vLenSl (σ5 0)) fun v13x6 =>
    ob (vInt .lss (σ5 5) v13x6) fun v14x7 =>
    cnd v14x7
      (ob (vIx 1 (σ5 0) (σ5 5)) fun v19x8 =>
    ob (vLoad v19x8 H5) fun v20x9 =>
    ob (vIx 1 (σ5 1) (σ5 5)) fun v23x10 =>
    ob (vLoad v23x10 H5) fun v24x11 =>
    ob (vStr .neq v20x9 v24x11) fun v25x12 =>
    cnd v25x12
      (Q5 .ret (up (up (up (up (up (up (up (up (up (up (up (up (up (up σ5 11 (σ5 5)) 12 (σ5 0)) 13 v13x6) 14 v14x7) 17 (σ5 0)) 18 (σ5 5)) 19 v19x8) 20 v20x9) 21 (σ5 1)) 22 (σ5 5)) 23 v23x10) 24 v24x11) 25 v25x12) 4 (.bool false)) H5)
      (ob (vInt .add (σ5 5) (.int .i64 1)) fun v16x13 =>
    Q5 .normal (up (up (up (up (up (up (up (up (up (up (up (up (up (up (up (up σ5 11 (σ5 5)) 12 (σ5 0)) 13 v13x6) 14 v14x7) 17 (σ5 0)) 18 (σ5 5)) 19 v19x8) 20 v20x9) 21 (σ5 1)) 22 (σ5 5)) 23 v23x10) 24 v24x11) 25 v25x12) 15 (σ5 5)) 16 v16x13) 5 v16x13) H5))
      (Q5 (.exit 0) (up (up (up (up σ5 11 (σ5 5)) 12 (σ5 0)) 13 v13x6) 14 v14x7) H5)) (blkQ 0 (thenQ J4 (retQ prg [(.tmp 4)] K))) (up (up (up (up (up (up (up (S0 [a0, a1]) 4 (.bool false)) 6 a0) 7 v7x1) 8 a1) 9 v9x2) 10 v10x3) 5 (.int .i64 0)) H)
def O.laws_eqStringS : Nat → Nat × List Nat := fun i => bif Nat.beq i 6 then (0, [0, 1, 2, 3, 4, 5, 6, 7, 8]) else (0, [])
theorem R.laws_eqStringS {a0 a1 : Value} {H : Hp} {K : Value → Hp → Prop} (h : F.laws_eqStringS a0 a1 H K) : HT prg I.laws_eqStringS [a0, a1].toArray H K :=
  HT_of_fev O.laws_eqStringS mixed Tryz.func9 (by kernel_rfl) (Eq.mpr (by kernel_rfl : fev prg O.laws_eqStringS Tryz.f9 [a0, a1] H K = F.laws_eqStringS a0 a1 H K) h)

/-! loop.example/g01381/laws.eqInt64S: function 10 -/
def F.laws_eqInt64S (a0 a1 : Value) (H : Hp) (K : Value → Hp → Prop) : Prop :=
  ob (vLenSl a0) fun v7x1 =>
  ob (vLenSl a1) fun v9x2 =>
  ob (vInt .neq v7x1 v9x2) fun v10x3 =>
  cnd v10x3
    (K (.bool false) H)
    (jn (fun σ4 H4 =>
    K (.bool true) H4) fun J4 =>
  lpE (fun Q5 σ5 H5 =>
    ob (vLenSl (σ5 0)) fun v13x6 =>
    ob (vInt .lss (σ5 5) v13x6) fun v14x7 =>
    cnd v14x7
      (ob (vIx 1 (σ5 0) (σ5 5)) fun v19x8 =>
    ob (vLoad v19x8 H5) fun v20x9 =>
    ob (vIx 1 (σ5 1) (σ5 5)) fun v23x10 =>
    ob (vLoad v23x10 H5) fun v24x11 =>
    ob (vInt .neq v20x9 v24x11) fun v25x12 =>
    cnd v25x12
      (Q5 .ret (up (up (up (up (up (up (up (up (up (up (up (up (up (up σ5 11 (σ5 5)) 12 (σ5 0)) 13 v13x6) 14 v14x7) 17 (σ5 0)) 18 (σ5 5)) 19 v19x8) 20 v20x9) 21 (σ5 1)) 22 (σ5 5)) 23 v23x10) 24 v24x11) 25 v25x12) 4 (.bool false)) H5)
      (ob (vInt .add (σ5 5) (.int .i64 1)) fun v16x13 =>
    Q5 .normal (up (up (up (up (up (up (up (up (up (up (up (up (up (up (up (up σ5 11 (σ5 5)) 12 (σ5 0)) 13 v13x6) 14 v14x7) 17 (σ5 0)) 18 (σ5 5)) 19 v19x8) 20 v20x9) 21 (σ5 1)) 22 (σ5 5)) 23 v23x10) 24 v24x11) 25 v25x12) 15 (σ5 5)) 16 v16x13) 5 v16x13) H5))
      (Q5 (.exit 0) (up (up (up (up σ5 11 (σ5 5)) 12 (σ5 0)) 13 v13x6) 14 v14x7) H5)) (blkQ 0 (thenQ J4 (retQ prg [(.tmp 4)] K))) (up (up (up (up (up (up (up (S0 [a0, a1]) 4 (.bool false)) 6 a0) 7 v7x1) 8 a1) 9 v9x2) 10 v10x3) 5 (.int .i64 0)) H)
def O.laws_eqInt64S : Nat → Nat × List Nat := fun i => bif Nat.beq i 6 then (0, [0, 1, 2, 3, 4, 5, 6, 7, 8]) else (0, [])
theorem R.laws_eqInt64S {a0 a1 : Value} {H : Hp} {K : Value → Hp → Prop} (h : F.laws_eqInt64S a0 a1 H K) : HT prg I.laws_eqInt64S [a0, a1].toArray H K :=
  HT_of_fev O.laws_eqInt64S mixed Tryz.func10 (by kernel_rfl) (Eq.mpr (by kernel_rfl : fev prg O.laws_eqInt64S Tryz.f10 [a0, a1] H K = F.laws_eqInt64S a0 a1 H K) h)

/-! loop.example/g01381/laws.eqLife: function 11 -/
def F.laws_eqLife (a0 a1 : Value) (H : Hp) (K : Value → Hp → Prop) : Prop :=
  nw (a0 : Value).cells 30 H fun v2x1 H2 =>
  nw (a1 : Value).cells 30 H2 fun v3x3 H4 =>
  ob (vFa 0 v2x1) fun v5x5 =>
  ob (vLoad v5x5 H4) fun v6x6 =>
  ob (vFa 0 v3x3) fun v7x7 =>
  ob (vLoad v7x7 H4) fun v8x8 =>
  HT prg I.laws_eqInt64S [v6x6, v8x8].toArray H4 fun v9x9 H10 =>
  ob (vUn .not v9x9) fun v10x11 =>
  cnd v10x11
    (K (.bool false) H10)
    (ob (vFa 1 v2x1) fun v11x12 =>
  ob (vLoad v11x12 H10) fun v12x13 =>
  ob (vFa 1 v3x3) fun v13x14 =>
  ob (vLoad v13x14 H10) fun v14x15 =>
  HT prg I.laws_eqInt64S [v12x13, v14x15].toArray H10 fun v15x16 H17 =>
  ob (vUn .not v15x16) fun v16x18 =>
  cnd v16x18
    (K (.bool false) H17)
    (K (.bool true) H17))
def O.laws_eqLife : Nat → Nat × List Nat := fun i => (0, [])
theorem R.laws_eqLife {a0 a1 : Value} {H : Hp} {K : Value → Hp → Prop} (h : F.laws_eqLife a0 a1 H K) : HT prg I.laws_eqLife [a0, a1].toArray H K :=
  HT_of_fev O.laws_eqLife mixed Tryz.func11 (by kernel_rfl) (Eq.mpr (by kernel_rfl : fev prg O.laws_eqLife Tryz.f11 [a0, a1] H K = F.laws_eqLife a0 a1 H K) h)

/-! loop.example/g01381/laws.markInt64S: function 14 -/
def F.laws_markInt64S (a0 a1 : Value) (H : Hp) (K : Value → Hp → Prop) : Prop :=
  jn (fun σ1 H1 =>
    K (σ1 1) H1) fun J1 =>
  lpE (fun Q2 σ2 H2 =>
    ob (vLenSl (σ2 0)) fun v8x3 =>
    ob (vInt .lss (σ2 5) v8x3) fun v9x4 =>
    cnd v9x4
      (ob (vIx 1 (σ2 0) (σ2 5)) fun v15x5 =>
    st 1 v15x5 (σ2 1) H2 fun H6 =>
    ob (vInt .add (σ2 1) (.int .i64 1)) fun v17x7 =>
    ob (vInt .add (σ2 5) (.int .i64 1)) fun v11x8 =>
    Q2 .normal (up (up (up (up (up (up (up (up (up (up (up (up (up (up σ2 6 (σ2 5)) 7 (σ2 0)) 8 v8x3) 9 v9x4) 12 (σ2 0)) 13 (σ2 5)) 14 (σ2 1)) 15 v15x5) 16 (σ2 1)) 17 v17x7) 1 v17x7) 10 (σ2 5)) 11 v11x8) 5 v11x8) H6)
      (Q2 (.exit 0) (up (up (up (up σ2 6 (σ2 5)) 7 (σ2 0)) 8 v8x3) 9 v9x4) H2)) (blkQ 0 (thenQ J1 (retQ prg [(.tmp 4)] K))) (up (up (S0 [a0, a1]) 4 (.int .i64 0)) 5 (.int .i64 0)) H
def O.laws_markInt64S : Nat → Nat × List Nat := fun i => (0, [])
theorem R.laws_markInt64S {a0 a1 : Value} {H : Hp} {K : Value → Hp → Prop} (h : F.laws_markInt64S a0 a1 H K) : HT prg I.laws_markInt64S [a0, a1].toArray H K :=
  HT_of_fev O.laws_markInt64S mixed Tryz.func14 (by kernel_rfl) (Eq.mpr (by kernel_rfl : fev prg O.laws_markInt64S Tryz.f14 [a0, a1] H K = F.laws_markInt64S a0 a1 H K) h)

/-! loop.example/g01381/laws.markLife: function 12 -/
def F.laws_markLife (a0 a1 : Value) (H : Hp) (K : Value → Hp → Prop) : Prop :=
  nw (a0 : Value).cells 30 H fun v2x1 H2 =>
  ob (vFa 0 v2x1) fun v5x3 =>
  ob (vLoad v5x3 H2) fun v6x4 =>
  HT prg I.laws_markInt64S [v6x4, a1].toArray H2 fun v8x5 H6 =>
  ob (vFa 1 v2x1) fun v9x7 =>
  ob (vLoad v9x7 H6) fun v10x8 =>
  HT prg I.laws_markInt64S [v10x8, v8x5].toArray H6 fun v12x9 H10 =>
  K v12x9 H10
def O.laws_markLife : Nat → Nat × List Nat := fun i => (0, [])
theorem R.laws_markLife {a0 a1 : Value} {H : Hp} {K : Value → Hp → Prop} (h : F.laws_markLife a0 a1 H K) : HT prg I.laws_markLife [a0, a1].toArray H K :=
  HT_of_fev O.laws_markLife mixed Tryz.func12 (by kernel_rfl) (Eq.mpr (by kernel_rfl : fev prg O.laws_markLife Tryz.f12 [a0, a1] H K = F.laws_markLife a0 a1 H K) h)

/-! loop.example/g01381/laws.markText: function 29 -/
def F.laws_markText (a0 : Value) (H : Hp) (K : Value → Hp → Prop) : Prop :=
  ob (vInt .leq a0 (.int .i64 0)) fun v5x1 =>
  cnd v5x1
    (K (.string ⟨#[109, 48]⟩) H)
    (jn (fun σ2 H2 =>
    ob (vStr .add (.string ⟨#[109]⟩) (σ2 3)) fun v19x3 =>
    K v19x3 H2) fun J2 =>
  lpE (fun Q4 σ4 H4 =>
    ob (vInt .gtr (σ4 0) (.int .i64 0)) fun v7x5 =>
    cnd v7x5
      (ob (vInt .rem (σ4 0) (.int .i64 10)) fun v9x6 =>
    ob (vInt .add (.int .i64 48) v9x6) fun v10x7 =>
    ob (vCI .u8 v10x7) fun v11x8 =>
    bS 1 1 #[(.int .u8 0)] 5 [(0, v11x8)] H4 fun v12x9 H10 =>
    ob (val prg (convert 78 9 v12x9) H10) fun v13x11 =>
    ob (vStr .add v13x11 (σ4 3)) fun v15x12 =>
    ob (vInt .quo (σ4 0) (.int .i64 10)) fun v17x13 =>
    Q4 .normal (up (up (up (up (up (up (up (up (up (up (up (up (up (up σ4 6 (σ4 0)) 7 v7x5) 8 (σ4 0)) 9 v9x6) 10 v10x7) 11 v11x8) 12 v12x9) 13 v13x11) 14 (σ4 3)) 15 v15x12) 3 v15x12) 16 (σ4 0)) 17 v17x13) 0 v17x13) H10)
      (Q4 (.exit 0) (up (up σ4 6 (σ4 0)) 7 v7x5) H4)) (blkQ 0 (thenQ J2 (retQ prg [(.tmp 2)] K))) (up (up (up (up (S0 [a0]) 2 (.string ⟨#[]⟩)) 4 a0) 5 v5x1) 3 (.string ⟨#[]⟩)) H)
def O.laws_markText : Nat → Nat × List Nat := fun i => (0, [])
theorem R.laws_markText {a0 : Value} {H : Hp} {K : Value → Hp → Prop} (h : F.laws_markText a0 H K) : HT prg I.laws_markText [a0].toArray H K :=
  HT_of_fev O.laws_markText mixed Tryz.func29 (by kernel_rfl) (Eq.mpr (by kernel_rfl : fev prg O.laws_markText Tryz.f29 [a0] H K = F.laws_markText a0 H K) h)

/-! loop.example/g01381/laws.markStringS: function 13 -/
def F.laws_markStringS (a0 a1 : Value) (H : Hp) (K : Value → Hp → Prop) : Prop :=
  jn (fun σ1 H1 =>
    K (σ1 1) H1) fun J1 =>
  lpE (fun Q2 σ2 H2 =>
    ob (vLenSl (σ2 0)) fun v8x3 =>
    ob (vInt .lss (σ2 5) v8x3) fun v9x4 =>
    cnd v9x4
      (HT prg I.laws_markText [(σ2 1)].toArray H2 fun v15x5 H6 =>
    ob (vIx 1 (σ2 0) (σ2 5)) fun v16x7 =>
    st 1 v16x7 v15x5 H6 fun H8 =>
    ob (vInt .add (σ2 1) (.int .i64 1)) fun v18x9 =>
    ob (vInt .add (σ2 5) (.int .i64 1)) fun v11x10 =>
    Q2 .normal (up (up (up (up (up (up (up (up (up (up (up (up (up (up (up σ2 6 (σ2 5)) 7 (σ2 0)) 8 v8x3) 9 v9x4) 12 (σ2 0)) 13 (σ2 5)) 14 (σ2 1)) 15 v15x5) 16 v16x7) 17 (σ2 1)) 18 v18x9) 1 v18x9) 10 (σ2 5)) 11 v11x10) 5 v11x10) H8)
      (Q2 (.exit 0) (up (up (up (up σ2 6 (σ2 5)) 7 (σ2 0)) 8 v8x3) 9 v9x4) H2)) (blkQ 0 (thenQ J1 (retQ prg [(.tmp 4)] K))) (up (up (S0 [a0, a1]) 4 (.int .i64 0)) 5 (.int .i64 0)) H
def O.laws_markStringS : Nat → Nat × List Nat := fun i => (0, [])
theorem R.laws_markStringS {a0 a1 : Value} {H : Hp} {K : Value → Hp → Prop} (h : F.laws_markStringS a0 a1 H K) : HT prg I.laws_markStringS [a0, a1].toArray H K :=
  HT_of_fev O.laws_markStringS mixed Tryz.func13 (by kernel_rfl) (Eq.mpr (by kernel_rfl : fev prg O.laws_markStringS Tryz.f13 [a0, a1] H K = F.laws_markStringS a0 a1 H K) h)

/-! loop.example/g01381/laws.heldStringS: function 15 -/
def F.laws_heldStringS (a0 a1 : Value) (H : Hp) (K : Value → Hp → Prop) : Prop :=
  jn (fun σ1 H1 =>
    K (σ1 1) H1) fun J1 =>
  lpE (fun Q2 σ2 H2 =>
    ob (vLenSl (σ2 0)) fun v8x3 =>
    ob (vInt .lss (σ2 5) v8x3) fun v9x4 =>
    cnd v9x4
      (ob (vIx 1 (σ2 0) (σ2 5)) fun v14x5 =>
    ob (vLoad v14x5 H2) fun v15x6 =>
    HT prg I.laws_markText [(σ2 1)].toArray H2 fun v17x7 H8 =>
    Le H2 H8 ∧ (ob (vStr .neq v15x6 v17x7) fun v18x9 =>
    cnd v18x9
      (Q2 .ret (up (up (up (up (up (up (up (up (up (up (up (up σ2 6 (σ2 5)) 7 (σ2 0)) 8 v8x3) 9 v9x4) 12 (σ2 0)) 13 (σ2 5)) 14 v14x5) 15 v15x6) 16 (σ2 1)) 17 v17x7) 18 v18x9) 4 (.int .i64 (-1))) H8)
      (ob (vInt .add (σ2 1) (.int .i64 1)) fun v20x10 =>
    ob (vInt .add (σ2 5) (.int .i64 1)) fun v11x11 =>
    Q2 .normal (up (up (up (up (up (up (up (up (up (up (up (up (up (up (up (up (up σ2 6 (σ2 5)) 7 (σ2 0)) 8 v8x3) 9 v9x4) 12 (σ2 0)) 13 (σ2 5)) 14 v14x5) 15 v15x6) 16 (σ2 1)) 17 v17x7) 18 v18x9) 19 (σ2 1)) 20 v20x10) 1 v20x10) 10 (σ2 5)) 11 v11x11) 5 v11x11) H8)))
      (Q2 (.exit 0) (up (up (up (up σ2 6 (σ2 5)) 7 (σ2 0)) 8 v8x3) 9 v9x4) H2)) (blkQ 0 (thenQ J1 (retQ prg [(.tmp 4)] K))) (up (up (S0 [a0, a1]) 4 (.int .i64 0)) 5 (.int .i64 0)) H
def O.laws_heldStringS : Nat → Nat × List Nat := fun i => bif Nat.beq i 4 then (0, [0, 1, 2, 3, 4, 5, 6]) else (0, [])
theorem R.laws_heldStringS {a0 a1 : Value} {H : Hp} {K : Value → Hp → Prop} (h : F.laws_heldStringS a0 a1 H K) : HT prg I.laws_heldStringS [a0, a1].toArray H K :=
  HT_of_fev O.laws_heldStringS mixed Tryz.func15 (by kernel_rfl) (Eq.mpr (by kernel_rfl : fev prg O.laws_heldStringS Tryz.f15 [a0, a1] H K = F.laws_heldStringS a0 a1 H K) h)

/-! loop.example/g01381/laws.heldInt64S: function 16 -/
def F.laws_heldInt64S (a0 a1 : Value) (H : Hp) (K : Value → Hp → Prop) : Prop :=
  jn (fun σ1 H1 =>
    K (σ1 1) H1) fun J1 =>
  lpE (fun Q2 σ2 H2 =>
    ob (vLenSl (σ2 0)) fun v8x3 =>
    ob (vInt .lss (σ2 5) v8x3) fun v9x4 =>
    cnd v9x4
      (ob (vIx 1 (σ2 0) (σ2 5)) fun v14x5 =>
    ob (vLoad v14x5 H2) fun v15x6 =>
    ob (vInt .neq v15x6 (σ2 1)) fun v17x7 =>
    cnd v17x7
      (Q2 .ret (up (up (up (up (up (up (up (up (up (up (up σ2 6 (σ2 5)) 7 (σ2 0)) 8 v8x3) 9 v9x4) 12 (σ2 0)) 13 (σ2 5)) 14 v14x5) 15 v15x6) 16 (σ2 1)) 17 v17x7) 4 (.int .i64 (-1))) H2)
      (ob (vInt .add (σ2 1) (.int .i64 1)) fun v19x8 =>
    ob (vInt .add (σ2 5) (.int .i64 1)) fun v11x9 =>
    Q2 .normal (up (up (up (up (up (up (up (up (up (up (up (up (up (up (up (up σ2 6 (σ2 5)) 7 (σ2 0)) 8 v8x3) 9 v9x4) 12 (σ2 0)) 13 (σ2 5)) 14 v14x5) 15 v15x6) 16 (σ2 1)) 17 v17x7) 18 (σ2 1)) 19 v19x8) 1 v19x8) 10 (σ2 5)) 11 v11x9) 5 v11x9) H2))
      (Q2 (.exit 0) (up (up (up (up σ2 6 (σ2 5)) 7 (σ2 0)) 8 v8x3) 9 v9x4) H2)) (blkQ 0 (thenQ J1 (retQ prg [(.tmp 4)] K))) (up (up (S0 [a0, a1]) 4 (.int .i64 0)) 5 (.int .i64 0)) H
def O.laws_heldInt64S : Nat → Nat × List Nat := fun i => (0, [])
theorem R.laws_heldInt64S {a0 a1 : Value} {H : Hp} {K : Value → Hp → Prop} (h : F.laws_heldInt64S a0 a1 H K) : HT prg I.laws_heldInt64S [a0, a1].toArray H K :=
  HT_of_fev O.laws_heldInt64S mixed Tryz.func16 (by kernel_rfl) (Eq.mpr (by kernel_rfl : fev prg O.laws_heldInt64S Tryz.f16 [a0, a1] H K = F.laws_heldInt64S a0 a1 H K) h)

/-! loop.example/g01381/laws.FnExactSoupOf: function 3 -/
def F.laws_FnExactSoupOf (a0 a1 a2 a3 a4 : Value) (H : Hp) (K : Value → Hp → Prop) : Prop :=
  nw (a0 : Value).cells 24 H fun v5x1 H2 =>
  ob (vLoadN 2 v5x1 H2) fun v28x3 =>
  HT prg I.laws_szLife [v28x3, (.int .i64 1048576)].toArray H2 fun v30x4 H5 =>
  ob (vInt .lss v30x4 (.int .i64 0)) fun v32x6 =>
  cnd v32x6
    (K (.bool true) H5)
    (ob (vLoadN 2 v5x1 H5) fun v34x7 =>
  HT prg I.laws_toLife [v34x7].toArray H5 fun v35x8 H9 =>
  HT prg I.spec_SoupOf [v35x8, a1, a2, a3, a4].toArray H9 fun v40x10 H11 =>
  ob (vExt v40x10 0) fun v41x12 =>
  ob (vExt v40x10 1) fun v42x13 =>
  ob (vExt v40x10 2) fun v43x14 =>
  ob (vExt v40x10 3) fun v44x15 =>
  ob (vLoadN 2 v5x1 H11) fun v45x16 =>
  HT prg I.laws_toLife [v45x16].toArray H11 fun v46x17 H18 =>
  nw #[(.slice none 0 0), (.slice none 0 0)] 30 H18 fun v16x19 H20 =>
  st 2 v16x19 v46x17 H20 fun H21 =>
  ob (vLoadN 2 v16x19 H21) fun v48x22 =>
  HT prg I.impl_SoupOf [v48x22, a1, a2, a3, a4].toArray H21 fun v53x23 H24 =>
  ob (vExt v53x23 0) fun v54x25 =>
  ob (vExt v53x23 1) fun v55x26 =>
  ob (vExt v53x23 2) fun v56x27 =>
  ob (vExt v53x23 3) fun v57x28 =>
  HT prg I.laws_eqStringS [v54x25, v41x12].toArray H24 fun v60x29 H30 =>
  ob (vUn .not v60x29) fun v61x31 =>
  gop v61x31 false (fun K32 => K32 v55x26 H30) H30 fun v63x33 H34 =>
  gop v61x31 false (fun K35 => K35 v42x13 H34) H34 fun v64x36 H37 =>
  gop v61x31 false (fun K38 => HT prg I.laws_eqInt64S [v63x33, v64x36].toArray H37 K38) H37 fun v65x39 H40 =>
  gop v61x31 false (fun K41 => ob (vUn .not v65x39) fun u => K41 u H40) H40 fun v66x42 H43 =>
  ob (vPick v61x31 (.bool true) v66x42) fun v67x44 =>
  gop v67x44 false (fun K45 => K45 v56x27 H43) H43 fun v69x46 H47 =>
  gop v67x44 false (fun K48 => K48 v43x14 H47) H47 fun v70x49 H50 =>
  gop v67x44 false (fun K51 => ob (vInt .neq v69x46 v70x49) fun u => K51 u H50) H50 fun v71x52 H53 =>
  ob (vPick v67x44 (.bool true) v71x52) fun v72x54 =>
  gop v72x54 false (fun K55 => K55 v57x28 H53) H53 fun v74x56 H57 =>
  gop v72x54 false (fun K58 => K58 v44x15 H57) H57 fun v75x59 H60 =>
  gop v72x54 false (fun K61 => ob (vBool .neq v74x56 v75x59) fun u => K61 u H60) H60 fun v76x62 H63 =>
  ob (vPick v72x54 (.bool true) v76x62) fun v77x64 =>
  cnd v77x64
    (K (.bool false) H63)
    (ob (vLoadN 2 v16x19 H63) fun v78x65 =>
  ob (vLoadN 2 v5x1 H63) fun v79x66 =>
  HT prg I.laws_toLife [v79x66].toArray H63 fun v80x67 H68 =>
  Le H63 H68 ∧ (HT prg I.laws_eqLife [v78x65, v80x67].toArray H68 fun v81x69 H70 =>
  Le H68 H70 ∧ (ob (vUn .not v81x69) fun v82x71 =>
  cnd v82x71
    (K (.bool false) H70)
    (ob (vLoadN 2 v16x19 H70) fun v83x72 =>
  HT prg I.laws_markLife [v83x72, (.int .i64 1)].toArray H70 fun v85x73 H74 =>
  ob (vInt .lss v85x73 (.int .i64 0)) fun v87x75 =>
  gop v87x75 false (fun K76 => K76 v54x25 H74) H74 fun v89x77 H78 =>
  gop v87x75 false (fun K79 => K79 v41x12 H78) H78 fun v90x80 H81 =>
  gop v87x75 false (fun K82 => HT prg I.laws_eqStringS [v89x77, v90x80].toArray H81 K82) H81 fun v91x83 H84 =>
  gop v87x75 false (fun K85 => ob (vUn .not v91x83) fun u => K85 u H84) H84 fun v92x86 H87 =>
  ob (vPick v87x75 (.bool true) v92x86) fun v93x88 =>
  gop v93x88 false (fun K89 => K89 v55x26 H87) H87 fun v95x90 H91 =>
  gop v93x88 false (fun K92 => K92 v42x13 H91) H91 fun v96x93 H94 =>
  gop v93x88 false (fun K95 => HT prg I.laws_eqInt64S [v95x90, v96x93].toArray H94 K95) H94 fun v97x96 H97 =>
  gop v93x88 false (fun K98 => ob (vUn .not v97x96) fun u => K98 u H97) H97 fun v98x99 H100 =>
  ob (vPick v93x88 (.bool true) v98x99) fun v99x101 =>
  gop v99x101 false (fun K102 => K102 v56x27 H100) H100 fun v101x103 H104 =>
  gop v99x101 false (fun K105 => K105 v43x14 H104) H104 fun v102x106 H107 =>
  gop v99x101 false (fun K108 => ob (vInt .neq v101x103 v102x106) fun u => K108 u H107) H107 fun v103x109 H110 =>
  ob (vPick v99x101 (.bool true) v103x109) fun v104x111 =>
  gop v104x111 false (fun K112 => K112 v57x28 H110) H110 fun v106x113 H114 =>
  gop v104x111 false (fun K115 => K115 v44x15 H114) H114 fun v107x116 H117 =>
  gop v104x111 false (fun K118 => ob (vBool .neq v106x113 v107x116) fun u => K118 u H117) H117 fun v108x119 H120 =>
  ob (vPick v104x111 (.bool true) v108x119) fun v109x121 =>
  cnd v109x121
    (K (.bool false) H120)
    (HT prg I.laws_markStringS [v54x25, (.int .i64 1)].toArray H120 fun v112x122 H123 =>
  HT prg I.laws_markInt64S [v55x26, v112x122].toArray H123 fun v115x124 H125 =>
  HT prg I.laws_heldStringS [v54x25, (.int .i64 1)].toArray H125 fun v118x126 H127 =>
  ob (vInt .lss v118x126 (.int .i64 0)) fun v120x128 =>
  cnd v120x128
    (K (.bool false) H127)
    (HT prg I.laws_heldInt64S [v55x26, v118x126].toArray H127 fun v123x129 H130 =>
  ob (vInt .lss v123x129 (.int .i64 0)) fun v125x131 =>
  cnd v125x131
    (K (.bool false) H130)
    (ob (vInt .neq v123x129 v115x124) fun v128x132 =>
  cnd v128x132
    (K (.bool false) H130)
    (ob (vLoadN 2 v5x1 H130) fun v130x133 =>
  HT prg I.laws_toLife [v130x133].toArray H130 fun v131x134 H135 =>
  HT prg I.impl_SoupOf [v131x134, a1, a2, a3, a4].toArray H135 fun v136x136 H137 =>
  ob (vExt v136x136 0) fun v137x138 =>
  ob (vExt v136x136 1) fun v138x139 =>
  ob (vExt v136x136 2) fun v139x140 =>
  ob (vExt v136x136 3) fun v140x141 =>
  HT prg I.laws_eqStringS [v137x138, v41x12].toArray H137 fun v143x142 H143 =>
  ob (vUn .not v143x142) fun v144x144 =>
  gop v144x144 false (fun K145 => K145 v138x139 H143) H143 fun v146x146 H147 =>
  gop v144x144 false (fun K148 => K148 v42x13 H147) H147 fun v147x149 H150 =>
  gop v144x144 false (fun K151 => HT prg I.laws_eqInt64S [v146x146, v147x149].toArray H150 K151) H150 fun v148x152 H153 =>
  gop v144x144 false (fun K154 => ob (vUn .not v148x152) fun u => K154 u H153) H153 fun v149x155 H156 =>
  ob (vPick v144x144 (.bool true) v149x155) fun v150x157 =>
  gop v150x157 false (fun K158 => K158 v139x140 H156) H156 fun v152x159 H160 =>
  gop v150x157 false (fun K161 => K161 v43x14 H160) H160 fun v153x162 H163 =>
  gop v150x157 false (fun K164 => ob (vInt .neq v152x159 v153x162) fun u => K164 u H163) H163 fun v154x165 H166 =>
  ob (vPick v150x157 (.bool true) v154x165) fun v155x167 =>
  gop v155x167 false (fun K168 => K168 v140x141 H166) H166 fun v157x169 H170 =>
  gop v155x167 false (fun K171 => K171 v44x15 H170) H170 fun v158x172 H173 =>
  gop v155x167 false (fun K174 => ob (vBool .neq v157x169 v158x172) fun u => K174 u H173) H173 fun v159x175 H176 =>
  ob (vPick v155x167 (.bool true) v159x175) fun v160x177 =>
  cnd v160x177
    (K (.bool false) H176)
    (HT prg I.laws_heldStringS [v54x25, (.int .i64 1)].toArray H176 fun v163x178 H179 =>
  ob (vInt .lss v163x178 (.int .i64 0)) fun v165x180 =>
  cnd v165x180
    (K (.bool false) H179)
    (HT prg I.laws_heldInt64S [v55x26, v163x178].toArray H179 fun v168x181 H182 =>
  ob (vInt .lss v168x181 (.int .i64 0)) fun v170x183 =>
  cnd v170x183
    (K (.bool false) H182)
    (ob (vInt .neq v168x181 v115x124) fun v173x184 =>
  cnd v173x184
    (K (.bool false) H182)
    (K (.bool true) H182)))))))))))))
def O.laws_FnExactSoupOf : Nat → Nat × List Nat := fun i => bif Nat.beq i 10 then (0, [0, 1, 2, 3, 4]) else (0, [])
theorem R.laws_FnExactSoupOf {a0 a1 a2 a3 a4 : Value} {H : Hp} {K : Value → Hp → Prop} (h : F.laws_FnExactSoupOf a0 a1 a2 a3 a4 H K) : HT prg I.laws_FnExactSoupOf [a0, a1, a2, a3, a4].toArray H K :=
  HT_of_fev O.laws_FnExactSoupOf mixed Tryz.func3 (by kernel_rfl) (Eq.mpr (by kernel_rfl : fev prg O.laws_FnExactSoupOf Tryz.f3 [a0, a1, a2, a3, a4] H K = F.laws_FnExactSoupOf a0 a1 a2 a3 a4 H K) h)

end Go.Proofs.YtffmfkpobjdmmaaGreatDoor
/- Functions' texts over a partial heap. -/
namespace Go.Proofs.YtffmfkpobjdmmaaGreatDoor
open HL
set_option linter.unusedVariables false
set_option maxRecDepth 100000
set_option maxHeartbeats 4000000
end Go.Proofs.YtffmfkpobjdmmaaGreatDoor
/- All functions' texts. -/
/- What the small functions of lanes come to. -/
namespace Go.Proofs.YtffmfkpobjdmmaaGreatDoor
open HL
theorem C.spec_l00In {x lo hi : Int} {H : Hp} {K : Value → Hp → Prop} (hk : K (.bool (decide (lo ≤ x ∧ x ≤ hi))) H) : HT prg I.spec_l00In [.int .i64 x, .int .i64 lo, .int .i64 hi].toArray H K := by
  refine R.spec_l00In ?_
  unfold F.spec_l00In
  by_cases h : lo ≤ x
  · simp only [vInt_geq, vInt_leq, ob_some, h, decide_true, gop_tt, vPick_t, true_and] at hk ⊢; exact hk
  · simp only [vInt_geq, ob_some, h, decide_false, gop_ft, vPick_f, false_and] at hk ⊢; exact hk
theorem C.impl_within {x lo hi : Int} {H : Hp} {K : Value → Hp → Prop} (hk : K (.bool (decide (lo ≤ x ∧ x ≤ hi))) H) : HT prg I.impl_within [.int .i64 x, .int .i64 lo, .int .i64 hi].toArray H K := by
  refine R.impl_within ?_
  unfold F.impl_within
  by_cases h : lo ≤ x
  · simp only [vInt_geq, vInt_leq, ob_some, h, decide_true, gop_tt, vPick_t, true_and] at hk ⊢; exact hk
  · simp only [vInt_geq, ob_some, h, decide_false, gop_ft, vPick_f, false_and] at hk ⊢; exact hk
theorem C.impl_areWithin {a : Value} {l : List Int} {lo hi : Int} {H : Hp} {K : Value → Hp → Prop} (ha : Sl eI H a l) (hl : l.length ≤ 9223372036854775807) (hk : K (.bool (decide (∀ x ∈ l, lo ≤ x ∧ x ≤ hi))) H) :
    HT prg I.impl_areWithin [a, .int .i64 lo, .int .i64 hi].toArray H K := by
  refine R.impl_areWithin ?_
  unfold F.impl_areWithin jn; dsimp only
  rw [ha.len, ob_some]
  refine ⟨fun n σ H1 => ∃ i : Nat, n = l.length - i ∧ i ≤ l.length ∧ H1 = H ∧ σ 1 = .int .i64 lo ∧ σ 2 = .int .i64 hi ∧ σ 9 = a ∧ σ 10 = .int .i64 l.length ∧ σ 11 = .int .i64 i ∧ ∀ x ∈ l.take i, lo ≤ x ∧ x ≤ hi,
    ⟨_, 0, rfl, by omega, rfl, rfl, rfl, rfl, rfl, rfl, by simp⟩, ?_⟩
  rintro n σ H1 ⟨i, rfl, hi', rfl, h1, h2, h9, h10, h11, hall⟩
  simp only [h1, h2, h9, h10, h11, vInt_lss, ob_some]
  refine cnd_d (fun hlt => ?_) (fun hge => ?_)
  · have hlt' : i < l.length := by omega
    rw [ha.ix (by omega) hlt, ob_some, ha.ld 0 (by omega) hlt, ob_some]
    refine C.impl_within ?_
    rw [vUn_not, ob_some]
    refine cnd_i (fun hb => ?_) (fun hb => ?_)
    · refine retK (K := K) (v' := .bool false) rfl ?_
      rw [decide_eq_false] at hk
      · exact hk
      · intro hh
        have := hh _ (at_mem 0 l (i := i) (by omega) hlt)
        simp [this] at hb
    · rw [vInt_add (by omega) (by omega), ob_some]
      refine nxt (l.length - (i + 1)) (by omega) ⟨i + 1, rfl, by omega, rfl, h1, h2, h9, h10, rfl, ?_⟩
      rw [take_at 0 l hlt']
      intro x hx
      rcases List.mem_append.mp hx with hx | hx
      · exact hall x hx
      · simp only [List.mem_singleton] at hx; subst hx; simpa using hb
  · refine retK (K := K) (v' := .bool true) rfl ?_
    rw [decide_eq_true] at hk
    · exact hk
    · intro x hx
      rw [List.take_of_length_le (by omega)] at hall
      exact hall x hx
theorem C.impl_areMany {a : Value} {l : List Int} {n m lo hi : Int} {H : Hp} {K : Value → Hp → Prop} (ha : Sl eI H a l) (hl : l.length ≤ 9223372036854775807)
    (hk : K (.bool (decide ((n ≤ l.length ∧ l.length ≤ m) ∧ ∀ x ∈ l, lo ≤ x ∧ x ≤ hi))) H) :
    HT prg I.impl_areMany [a, .int .i64 n, .int .i64 m, .int .i64 lo, .int .i64 hi].toArray H K := by
  refine R.impl_areMany ?_
  unfold F.impl_areMany
  rw [ha.len, ob_some]
  refine C.impl_within ?_
  by_cases h : n ≤ l.length ∧ l.length ≤ m
  · simp only [h, and_self, decide_true, gop_tt, true_and] at hk ⊢
    refine C.impl_areWithin ha hl ?_
    rw [vPick_t, ob_some]
    exact hk
  · simp only [h, decide_false, gop_ft, vPick_f, ob_some, false_and] at hk ⊢
    exact hk
def isLane (l : List Int) : Prop := (1 ≤ (l.length : Int) ∧ (l.length : Int) ≤ 64) ∧ ∀ x ∈ l, -1 ≤ x ∧ x ≤ 5
instance (l : List Int) : Decidable (isLane l) := by unfold isLane; infer_instance
theorem C.laws_toInt64S {a : Value} {l : List Int} {H : Hp} {K : Value → Hp → Prop} (ha : Sl eI H a l) (hl : l.length ≤ 17592186044416) (hk : ∀ v H', Own eI H' v l → Nw H v → Le H H' → K v H') :
    HT prg I.laws_toInt64S [a].toArray H K := by
  refine R.laws_toInt64S ?_
  unfold F.laws_toInt64S jn; dsimp only
  rw [ha.len, ob_some]
  refine Own.mk_ (by omega) (by omega) (by omega) (by omega) (fun v H0 ho hn hle => ?_)
  refine ⟨fun n σ H1 => ∃ i : Nat, n = l.length - i ∧ i ≤ l.length ∧ σ 0 = a ∧ σ 3 = v ∧ σ 4 = .int .i64 i ∧ Own eI H1 v (l.take i ++ List.replicate (l.length - i) 0) ∧ Off v H0 H1,
    ⟨_, 0, rfl, by omega, rfl, rfl, rfl, by simpa using ho, fun b o hb _ => hb⟩, ?_⟩
  rintro n σ H1 ⟨i, rfl, hi', h0, h3, h4, ho1, hoff⟩
  have hle1 : Le H H1 := hoff.le hle hn
  have ha1 := ha.le hle1
  simp only [h0, h3, h4, ha.len, vInt_lss, ob_some]
  refine cnd_d (fun hlt => ?_) (fun hge => ?_)
  · have hlt' : i < l.length := by omega
    rw [ha1.ix (by omega) hlt, ob_some, ha1.ld 0 (by omega) hlt, ob_some, ho1.sl.ix (by omega) (by simp; omega), ob_some]
    refine ho1.st (x := at_ 0 l (i : Int)) (by omega) (by simp; omega) rfl rfl (fun H2 ho2 hoff2 => ?_)
    rw [vInt_add (by omega) (by omega), ob_some]
    refine nxt (l.length - (i + 1)) (by omega) ⟨i + 1, rfl, by omega, h0, h3, rfl, ?_, hoff.trans hoff2⟩
    have e : (l.take i ++ List.replicate (l.length - i) 0).set (i : Int).toNat (at_ 0 l (i : Int)) = l.take (i + 1) ++ List.replicate (l.length - (i + 1)) 0 := by
      rw [take_at 0 l hlt', Int.toNat_natCast, List.set_append_right _ _ (by simp; omega), show l.length - i = (l.length - (i + 1)) + 1 by omega, List.replicate_succ]
      simp [Nat.min_eq_left (Nat.le_of_lt hlt')]
    rw [← e]; exact ho2
  · refine retK (K := K) (v' := v) h3 (hk v H1 ?_ hn hle1)
    rw [List.take_of_length_le (by omega), show l.length - i = 0 by omega] at ho1
    simpa using ho1
theorem C.laws_eqInt64S {a b : Value} {l m : List Int} {H : Hp} {K : Value → Hp → Prop} (ha : Sl eI H a l) (hb : Sl eI H b m) (hl : l.length ≤ 9223372036854775807) (hk : K (.bool (decide (l = m))) H) :
    HT prg I.laws_eqInt64S [a, b].toArray H K := by
  refine R.laws_eqInt64S ?_
  unfold F.laws_eqInt64S jn; dsimp only
  rw [ha.len, hb.len, ob_some, ob_some, vInt_neq, ob_some]
  refine cnd_d (fun hne => ?_) (fun heq => ?_)
  · rw [decide_eq_false] at hk
    · exact hk
    · rintro rfl; exact hne rfl
  · have hlen : l.length = m.length := by omega
    refine ⟨fun n σ H1 => ∃ i : Nat, n = l.length - i ∧ i ≤ l.length ∧ H1 = H ∧ σ 0 = a ∧ σ 1 = b ∧ σ 5 = .int .i64 i ∧ l.take i = m.take i,
      ⟨_, 0, rfl, by omega, rfl, rfl, rfl, rfl, by simp⟩, ?_⟩
    rintro n σ H1 ⟨i, rfl, hi', rfl, h0, h1, h5, hall⟩
    simp only [h0, h1, h5, ha.len, vInt_lss, ob_some]
    refine cnd_d (fun hlt => ?_) (fun hge => ?_)
    · have hlt' : i < l.length := by omega
      rw [ha.ix (by omega) hlt, ob_some, ha.ld 0 (by omega) hlt, ob_some, hb.ix (by omega) (by omega), ob_some, hb.ld 0 (by omega) (by omega), ob_some, vInt_neq, ob_some]
      refine cnd_d (fun hne => ?_) (fun heq => ?_)
      · refine retK (K := K) (v' := .bool false) rfl ?_
        rw [decide_eq_false] at hk
        · exact hk
        · rintro rfl; exact hne rfl
      · rw [vInt_add (by omega) (by omega), ob_some]
        refine nxt (l.length - (i + 1)) (by omega) ⟨i + 1, rfl, by omega, rfl, h0, h1, rfl, ?_⟩
        rw [take_at 0 l hlt', take_at 0 m (by omega), hall, Decidable.not_not.mp heq]
    · refine retK (K := K) (v' := .bool true) rfl ?_
      rw [List.take_of_length_le (by omega), List.take_of_length_le (by omega)] at hall
      rw [decide_eq_true hall] at hk
      exact hk
end Go.Proofs.YtffmfkpobjdmmaaGreatDoor
/- Structs that lie in cells of their own: what is read, what is written. -/
namespace Go.Proofs.YtffmfkpobjdmmaaGreatDoor.HL
/-- A pointer to a block of its own, whose cells are these. -/
def Cel (H : Hp) (p : Value) (cs : List Value) : Prop := ∃ r e, p = .pointer (some ⟨r, 0, none⟩) ∧ H r = some (.cells cs.toArray e (0, 0))
/-- The pointer to a field's first cell. -/
def fp (p : Value) (k : Nat) : Value := match p with | .pointer (some a) => .pointer (some (a.add k)) | _ => undef

theorem oc0 : ∀ x ∈ ([] : List Value), oneCell x = true := fun x hx => absurd hx (by simp)
theorem oc1 {a : Value} {l : List Value} (h : oneCell a = true) (t : ∀ x ∈ l, oneCell x = true) : ∀ x ∈ a :: l, oneCell x = true := fun x hx => by
  rcases List.mem_cons.mp hx with rfl | hx
  · exact h
  · exact t x hx
section
variable {H H' : Hp} {p u v : Value} {cs : List Value}
theorem Cel.le (h : Cel H p cs) (hl : Le H H') : Cel H' p cs := by
  obtain ⟨r, e, rfl, hr⟩ := h
  exact ⟨r, e, rfl, hl _ _ hr⟩
theorem Cel.off (h : Cel H p cs) (ho : Off v H H') (ha : Apart p v) : Cel H' p cs := by
  obtain ⟨r, e, rfl, hr⟩ := h
  exact ⟨r, e, rfl, ho _ _ hr (ha r rfl)⟩
theorem Cel.known (h : Cel H p cs) : ∀ b, bk p = some b → ∃ o, H b = some o := by
  obtain ⟨r, e, rfl, hr⟩ := h
  intro b hb
  simp only [bk, Option.some.injEq] at hb
  subst hb
  exact ⟨_, hr⟩
theorem Cel.apart (h : Cel H p cs) (hn : Nw H v) : Apart p v := Apart.of_nw h.known hn
theorem nw_i {cells : Array Value} {e : TypeId} {K : Value → Hp → Prop} (hk : ∀ p H', Cel H' p cells.toList → Nw H p → Le H H' → K p H') : nw cells e H K := by
  intro r hr
  refine hk _ _ ⟨r, e, rfl, by rw [Hp.put_same]⟩ ?_ (Le.put _ hr)
  intro b hb
  simp only [bk, Option.some.injEq] at hb
  subst hb
  exact hr
theorem Cel.fa (h : Cel H p cs) (k : Nat) : vFa k p = some (fp p k) := by
  obtain ⟨r, e, rfl, hr⟩ := h; rfl
theorem Cel.nilC (h : Cel H p cs) : vNilC p = some p := by
  obtain ⟨r, e, rfl, hr⟩ := h; rfl
theorem Cel.ld (h : Cel H p cs) (k : Nat) {x : Value} (hx : cs[k]? = some x) : vLoad (fp p k) H = some x := by
  obtain ⟨r, e, rfl, hr⟩ := h
  simp only [fp, vLoad, add_none, Hp.cell?, hr, Nat.zero_add]
  simpa using hx
theorem Cel.ld0 (h : Cel H p cs) {x : Value} (hx : cs[0]? = some x) : vLoad p H = some x := by
  obtain ⟨r, e, rfl, hr⟩ := h
  simp only [vLoad, Hp.cell?, hr]
  simpa using hx
theorem Cel.ldn (h : Cel H p cs) {n : Nat} (hn : cs.length = n) : vLoadN n p H = some (.agg cs.toArray) := by
  obtain ⟨r, e, rfl, hr⟩ := h
  simp only [vLoadN]
  rw [rd_cells (enc := id) ⟨r, 0, none⟩ n 0 cs hn (fun i hi => by
    simp only [add_none, Hp.cell?, hr, Nat.zero_add]
    simp [hi])]
  simp
theorem Cel.st (h : Cel H p cs) {k : Nat} {x : Value} {K : Hp → Prop} (hk : k < cs.length) (ho : oneCell x = true) (hz : x.cells = #[x]) (hK : ∀ H', Cel H' p (cs.set k x) → Off p H H' → K H') : st 1 (fp p k) x H K := by
  obtain ⟨r, e, rfl, hr⟩ := h
  simp only [HL.st, fp, add_none, Nat.zero_add, hz, List.toList_toArray, List.size_toArray, List.length_singleton, true_and, stC, Nat.add_zero]
  refine ⟨ho, ?_, ?_, ?_⟩
  · simp only [Hp.cell?, hr]; simp [hk]
  · simp only [Hp.frozen?, hr]; simp
  · refine hK _ ⟨r, e, rfl, ?_⟩ ?_
    · simp only [Hp.setCell, hr, Hp.put_same]; simp
    · intro b o hb hv
      simp only [bk, ne_eq, Option.some.injEq] at hv
      simp only [Hp.setCell, hr]
      rw [Hp.put_ne _ _ (Ne.symm hv)]
      exact hb
theorem Cel.st0 (h : Cel H p cs) {x : Value} {K : Hp → Prop} (hk : 0 < cs.length) (ho : oneCell x = true) (hz : x.cells = #[x]) (hK : ∀ H', Cel H' p (cs.set 0 x) → Off p H H' → K H') : HL.st 1 p x H K := by
  have : p = fp p 0 := by obtain ⟨r, e, rfl, hr⟩ := h; simp [fp, add_none]
  have h2 := h.st (K := K) hk ho hz hK
  rwa [← this] at h2
theorem Cel.stn (h : Cel H p cs) {ws : List Value} {n : Nat} {K : Hp → Prop} (hn : ws.length = n) (hl : cs.length = n) (ho : ∀ x ∈ ws, oneCell x = true) (hK : ∀ H', Cel H' p ws → Off p H H' → K H') : HL.st n p (.agg ws.toArray) H K := by
  obtain ⟨r, e, rfl, hr⟩ := h
  simp only [HL.st, Value.cells, List.size_toArray, hn, true_and]
  refine stC_run (b := r) (e := e) ws _ 0 cs.toArray H rfl rfl hr (by simp; omega) ho ?_
  intro H' cs' h1 h2 h3 h4 h5
  refine hK H' ⟨r, e, rfl, ?_⟩ ?_
  · rw [h1]
    have : cs' = ws.toArray := by
      apply Array.ext_getElem?
      intro i
      by_cases hi : i < ws.length
      · have := h4 i hi
        simp only [Nat.zero_add] at this
        rw [this]; simp [hi]
      · rw [Array.getElem?_eq_none (by rw [h2]; simp; omega), Array.getElem?_eq_none (by simp; omega)]
    rw [this]
  · intro b o hb hv
    simp only [bk, ne_eq, Option.some.injEq] at hv
    rw [h5 b (Ne.symm hv)]; exact hb
end
end Go.Proofs.YtffmfkpobjdmmaaGreatDoor.HL
/- Lists of truths: copies, and what is alike; lengths that are paid for. -/
namespace Go.Proofs.YtffmfkpobjdmmaaGreatDoor
open HL
set_option maxRecDepth 100000
theorem C.laws_szInt64S {a : Value} {n : Nat} {k : Int} {H : Hp} {K : Value → Hp → Prop} (ha : vLenSl a = some (.int .i64 n)) (h0 : 0 ≤ k) (hn : (n : Int) ≤ 9223372036854775807)  (h1 : k - n < 0 → K (.int .i64 (-1)) H) (h2 : 0 ≤ k - n → K (.int .i64 (k - n)) H) (hk : k < 9223372036854775808 := by omega) :
    HT prg I.laws_szInt64S [a, .int .i64 k].toArray H K := by
  refine R.laws_szInt64S ?_
  unfold F.laws_szInt64S
  rw [ha, ob_some, vInt_sub (by omega) (by omega), ob_some, vInt_lss, ob_some]
  exact cnd_d (fun h => h1 h) (fun h => h2 (by omega))
end Go.Proofs.YtffmfkpobjdmmaaGreatDoor
/- Fields: which are valid, which are plain, and what lies where, round and round. -/
namespace Go.Proofs.YtffmfkpobjdmmaaGreatDoor
open HL
set_option maxRecDepth 100000
def sidesF (r c : Int) : Prop := (1 ≤ r ∧ r ≤ 24) ∧ (1 ≤ c ∧ c ≤ 24)
instance (r c : Int) : Decidable (sidesF r c) := by unfold sidesF; infer_instance
theorem sidesF_mul {r c : Int} (h : sidesF r c) : 1 ≤ r * c ∧ r * c ≤ 576 := by
  obtain ⟨⟨h1, h2⟩, h3, h4⟩ := h
  have a := Int.mul_le_mul h2 h4 (by omega) (by omega)
  have b := Int.mul_le_mul h1 h3 (by omega) (by omega)
  omega
/-- A field whose cells are from 0 to n. -/
def fieldN (n r c : Int) (l : List Int) : Prop := sidesF r c ∧ (l.length : Int) = r * c ∧ ∀ x ∈ l, 0 ≤ x ∧ x ≤ n
instance (n r c : Int) (l : List Int) : Decidable (fieldN n r c l) := by unfold fieldN; infer_instance
theorem vInt_mulF (a b : Int) : vInt .mul (.int .i64 a) (.int .i64 b) = some (.int .i64 (IntKind.i64.wrap (a * b))) := by simp only [vInt, if_true]
theorem fieldN_len {n r c : Int} {l : List Int} (h : fieldN n r c l) : l.length ≤ 576 := by
  have := sidesF_mul h.1
  have := h.2.1
  omega
theorem fieldN_at {n r c : Int} {l : List Int} (h : fieldN n r c l) {i : Int} (h0 : 0 ≤ i) (hi : i < r * c) : 0 ≤ at_ 0 l i ∧ at_ 0 l i ≤ n :=
  h.2.2 _ (at_mem 0 l h0 (by rw [h.2.1]; exact hi))
theorem C.impl_isSide {r : Int} {H : Hp} {K : Value → Hp → Prop} (hk : K (.bool (decide (1 ≤ r ∧ r ≤ 24))) H) : HT prg I.impl_isSide [.int .i64 r].toArray H K := R.impl_isSide (C.impl_within hk)
theorem C.impl_ValidField {vc : Value} {r c : Int} {l : List Int} {H : Hp} {K : Value → Hp → Prop} (hc : Sl eI H vc l)
    (k1 : l.length ≤ 9223372036854775807) (hk : ∀ H', Le H H' → K (.bool (decide (fieldN 9 r c l))) H') : HT prg I.impl_ValidField [.agg #[.int .i64 r, .int .i64 c, vc]].toArray H K := by
  refine R.impl_ValidField ?_
  unfold F.impl_ValidField
  refine nw_i (fun p H1 hp np le1 => ?_)
  replace hk := hk H1 le1
  replace hc := hc.le le1
  simp only [hp.fa, hp.ld 0 rfl, hp.ld 1 rfl, vInt_mulF, ob_some]
  refine C.impl_isSide ?_
  by_cases c1 : 1 ≤ r ∧ r ≤ 24
  · simp only [decide_eq_true c1, hp.fa, hp.ld 1 rfl, EV]
    refine C.impl_isSide ?_
    by_cases c2 : 1 ≤ c ∧ c ≤ 24
    · have hs : sidesF r c := ⟨c1, c2⟩
      have hm := sidesF_mul hs
      simp only [decide_eq_true c2, hp.fa, hp.ld 2 rfl, wrap64 (show -9223372036854775808 ≤ r * c by omega) (show r * c < 9223372036854775808 by omega), EV]
      refine C.impl_areMany hc k1 ?_
      exact kQ (K := K) hk ⟨fun h => ⟨⟨by have := h.2.1; omega, by have := h.2.1; omega⟩, h.2.2⟩, fun h => ⟨hs, by omega, h.2⟩⟩
    · simp only [decide_eq_false c2, EV]; exact kF (K := K) hk (fun h => c2 h.1.2)
  · simp only [decide_eq_false c1, EV]; exact kF (K := K) hk (fun h => c1 h.1.1)
theorem C.impl_isPlain {vc : Value} {r c : Int} {l : List Int} {H : Hp} {K : Value → Hp → Prop} (hc : Sl eI H vc l)
    (k1 : l.length ≤ 9223372036854775807) (hk : ∀ H', Le H H' → K (.bool (decide (fieldN 1 r c l))) H') : HT prg I.impl_isPlain [.agg #[.int .i64 r, .int .i64 c, vc]].toArray H K := by
  refine R.impl_isPlain ?_
  unfold F.impl_isPlain
  refine nw_i (fun p H1 hp np le1 => ?_)
  refine ob_i (hp.ldn rfl) ?_
  refine C.impl_ValidField (hc.le le1) k1 (fun H2 le2 => ?_)
  replace hk := hk H2 (le1.trans le2)
  replace hc := hc.le (le1.trans le2)
  replace hp := hp.le le2
  by_cases c1 : fieldN 9 r c l
  · simp only [decide_eq_true c1, hp.fa, hp.ld 2 rfl, EV]
    refine C.impl_areWithin hc k1 ?_
    exact kQ (K := K) hk ⟨fun h => h.2.2, fun h => ⟨c1.1, c1.2.1, h⟩⟩
  · simp only [decide_eq_false c1, EV]; exact kF (K := K) hk (fun h => c1 ⟨h.1, h.2.1, fun x hx => by have := h.2.2 x hx; omega⟩)
theorem fm_eq {a b : Int} (hb : 0 < b) : (a.tmod b + b).tmod b = a % b := by
  have h0 : 0 ≤ a.tmod b + b := by have := Int.lt_tmod_of_pos a hb; omega
  rw [Int.tmod_eq_emod_of_nonneg h0, Int.tmod_def, show a - b * a.tdiv b + b = a + b * (1 - a.tdiv b) by rw [Int.mul_sub, Int.mul_one]; omega, Int.add_mul_emod_self_left]
theorem tmod_bnd {a b : Int} (hb : 0 < b) : -b < a.tmod b ∧ a.tmod b < b := ⟨by have := Int.lt_tmod_of_pos a hb; omega, Int.tmod_lt_of_pos a hb⟩
/-- A place, round and round. -/
def roundF (r c i k : Int) : Int := i % r * c + k % c
theorem roundF_lt {r c i k : Int} (h : sidesF r c) : 0 ≤ i % r ∧ i % r < r ∧ 0 ≤ k % c ∧ k % c < c ∧ 0 ≤ i % r * c ∧ i % r * c ≤ 576 ∧ 0 ≤ roundF r c i k ∧ roundF r c i k < r * c := by
  obtain ⟨⟨h1, h2⟩, h3, h4⟩ := h
  have a1 := Int.emod_nonneg i (b := r) (by omega)
  have a2 := Int.emod_lt_of_pos i (b := r) (by omega)
  have a3 := Int.emod_nonneg k (b := c) (by omega)
  have a4 := Int.emod_lt_of_pos k (b := c) (by omega)
  have a5 := Int.mul_nonneg (a := i % r) (b := c) a1 (by omega)
  have a6 := Int.mul_le_mul (a := i % r) (b := c) (c := r - 1) (d := c) (by omega) (by omega) (by omega) (by omega)
  rw [Int.sub_mul] at a6
  have a7 := Int.mul_le_mul h2 h4 (by omega) (by omega)
  unfold roundF
  omega
theorem C.spec_l04Round {p vc : Value} {r c i k : Int} {H : Hp} {K : Value → Hp → Prop} (hp : Cel H p [.int .i64 r, .int .i64 c, vc]) (hs : sidesF r c)
    (hk : K (.int .i64 (roundF r c i k)) H) : HT prg I.spec_l04Round [p, .int .i64 i, .int .i64 k].toArray H K := by
  refine R.spec_l04Round ?_
  unfold F.spec_l04Round
  have b := roundF_lt (i := i) (k := k) hs
  have m := sidesF_mul hs
  obtain ⟨⟨h1, h2⟩, h3, h4⟩ := hs
  have t1 := tmod_bnd (a := i) (b := r) (by omega)
  have t2 := tmod_bnd (a := k) (b := c) (by omega)
  simp only [hp.nilC, hp.fa, hp.ld 0 rfl, hp.ld 1 rfl, ob_some]
  rw [vInt_rem (by omega), ob_some, vInt_add (by omega) (by omega), ob_some, vInt_rem (by omega), ob_some, vInt_rem (by omega), ob_some, vInt_add (by omega) (by omega), ob_some, vInt_rem (by omega), ob_some, fm_eq (by omega), fm_eq (by omega),
    vInt_mul (by omega) (by omega), ob_some, vInt_add (by unfold roundF at b; omega) (by unfold roundF at b; omega), ob_some]
  exact hk
theorem C.floorMod {a b : Int} {H : Hp} {K : Value → Hp → Prop} (h0 : -1000000 ≤ a) (h1 : a ≤ 1000000) (h2 : 0 < b) (h3 : b ≤ 1000000) (hk : K (.int .i64 (a % b)) H) : HT prg I.impl_floorMod [.int .i64 a, .int .i64 b].toArray H K := by
  refine R.impl_floorMod ?_
  unfold F.impl_floorMod
  have t1 := tmod_bnd (a := a) (b := b) h2
  rw [vInt_rem (by omega), ob_some, vInt_add (by omega) (by omega), ob_some, vInt_rem (by omega), ob_some, fm_eq h2]
  exact hk
theorem C.impl_Field_at {vc : Value} {r c i k : Int} {l : List Int} {H : Hp} {K : Value → Hp → Prop} (hc : Sl eI H vc l) (h0 : 0 ≤ i * c) (h1 : i * c ≤ 1000000) (h2 : 0 ≤ i * c + k) (h3 : i * c + k < l.length) (h4 : l.length ≤ 1000000)
    (hk : ∀ H', Le H H' → K (.int .i64 (at_ 0 l (i * c + k))) H') : HT prg I.impl_Field_at [.agg #[.int .i64 r, .int .i64 c, vc], .int .i64 i, .int .i64 k].toArray H K := by
  refine R.impl_Field_at ?_
  unfold F.impl_Field_at
  refine nw_i (fun p H1 hp np le1 => ?_)
  simp only [hp.fa, hp.ld 1 rfl, hp.ld 2 rfl, ob_some]
  rw [vInt_mul (by omega) (by omega), ob_some, vInt_add (by omega) (by omega), ob_some, (hc.le le1).ix h2 h3, ob_some, (hc.le le1).ld 0 h2 h3, ob_some]
  exact hk _ le1
theorem C.look_round {vc : Value} {r c i k : Int} {l : List Int} {H : Hp} {K : Value → Hp → Prop} (hc : Sl eI H vc l) (hs : sidesF r c) (hl : (l.length : Int) = r * c) (i0 : -1000 ≤ i) (i1 : i ≤ 1000) (k0 : -1000 ≤ k) (k1 : k ≤ 1000)
    (hk : ∀ H', Le H H' → K (.int .i64 (at_ 0 l (roundF r c i k))) H') : HT prg I.impl_Field_look [.agg #[.int .i64 r, .int .i64 c, vc], .int .i64 i, .int .i64 k, .bool true].toArray H K := by
  refine R.impl_Field_look ?_
  unfold F.impl_Field_look
  refine nw_i (fun p H1 hp np le1 => ?_)
  refine cnd_t1 ?_
  have b := roundF_lt (i := i) (k := k) hs
  have m := sidesF_mul hs
  have q1 := hs.1
  have q2 := hs.2
  refine ob_i (hp.ldn rfl) ?_
  simp only [hp.fa, hp.ld 0 rfl, hp.ld 1 rfl, ob_some]
  refine C.floorMod (by omega) (by omega) (by omega) (by omega) ⟨Le.refl _, ?_⟩
  refine C.floorMod (by omega) (by omega) (by omega) (by omega) ⟨Le.refl _, ?_⟩
  refine C.impl_Field_at (hc.le le1) (by omega) (by omega) (by unfold roundF at b; omega) (by rw [hl]; unfold roundF at b; omega) (by omega) (fun H2 le2 => ⟨le2, ?_⟩)
  exact hk _ (le1.trans le2)
end Go.Proofs.YtffmfkpobjdmmaaGreatDoor
/- Fields that are made by a function of rows and columns, and fields that grow. -/
namespace Go.Proofs.YtffmfkpobjdmmaaGreatDoor
open HL
set_option maxRecDepth 100000
theorem Apart.app {H : Hp} {x u u' : Value} (hx : ∀ b, bk x = some b → ∃ o, H b = some o) (ha : Apart x u) (hb : ∀ b, bk u' = some b → bk u = some b ∨ H b = none) : Apart x u' := fun b h1 h2 => by
  rcases hb b h2 with h | h
  · exact ha b h1 h
  · obtain ⟨o, ho⟩ := hx b h1; rw [h] at ho; simp at ho
theorem Nw.app {H0 H : Hp} {u u' : Value} (hn : Nw H0 u) (hl : Le H0 H) (hb : ∀ b, bk u' = some b → bk u = some b ∨ H b = none) : Nw H0 u' := fun b h => by
  rcases hb b h with h1 | h1
  · exact hn b h1
  · cases ho : H0 b with
    | none => rfl
    | some o => rw [hl b o ho] at h1; simp at h1
theorem apd_one {α : Type} {enc : α → Value} {z : Value} {b : Nat} {e : TypeId} {u t : Value} {x : α} {l : List α} {H : Hp} {K : Value → Hp → Prop} (o : Own enc H u l) (ot : Sl enc H t [x]) (ho : ∀ x, oneCell (enc x) = true) (hb : b ≤ 64) (hl : l.length ≤ 68719476736)
    (hk : ∀ u' H', Own enc H' u' (l ++ [x]) → Off u H H' → (∀ b, bk u' = some b → bk u = some b ∨ H b = none) → K u' H') : apd 1 b #[z] e u t H K := by
  refine o.apd ot ho (by simp; omega) (fun c hc => ?_) hk
  have := nsc_le hc
  simp only [List.length_singleton] at this ⊢
  exact Nat.le_trans (Nat.mul_le_mul this hb) (by omega)
theorem bS_i {α : Type} {enc : α → Value} {len : Nat} {z : Value} {e : TypeId} {parts : List (Nat × Value)} {l : List α} {H : Hp} {K : Value → Hp → Prop} (h1 : len ≤ 1000) (hl : l.length = len)
    (hf : Instr.fill (fun i => some (i * 1, 1)) (if len * 1 = 0 then #[] else zrow #[z] (len * 1)) parts = some (l.map enc).toArray) (hk : ∀ v H', Own enc H' v l → Nw H v → Le H H' → K v H') : bS 1 len #[z] e parts H K := by
  refine ⟨by omega, ?_⟩
  rw [hf]
  intro r hr
  subst hl
  refine hk _ _ ⟨some ⟨r, 0, none⟩, l.length, rfl, Nat.le_refl _, fun _ => ⟨r, 0, _, e, rfl, Hp.put_same _ _ _, by simp, fun i hi => by simp [hi]⟩⟩ ?_ (Le.put _ hr)
  intro b hb
  simp only [bk] at hb
  split at hb
  · simp at hb
  · simp only [Option.some.injEq] at hb; subst hb; exact hr
/-- A field's cells, row by row, by a function. -/
def mkL (c : Int) (g : Int → Int → Int) (n : Nat) : List Int := (List.range n).map fun (t : Nat) => g ((t : Int) / c) ((t : Int) % c)
theorem mkL_length (c : Int) (g : Int → Int → Int) (n : Nat) : (mkL c g n).length = n := by simp [mkL]
theorem mkL_succ (c : Int) (g : Int → Int → Int) (n : Nat) : mkL c g (n + 1) = mkL c g n ++ [g ((n : Int) / c) ((n : Int) % c)] := by simp [mkL, List.range_succ]
theorem divmod {c : Int} {i k : Int} (hc : 0 < c) (k0 : 0 ≤ k) (k1 : k < c) : (i * c + k) / c = i ∧ (i * c + k) % c = k := by
  constructor
  · rw [Int.add_comm, Int.add_mul_ediv_right _ _ (by omega), Int.ediv_eq_zero_of_lt k0 k1]; omega
  · rw [Int.add_comm, Int.add_mul_emod_self_right, Int.emod_eq_of_lt k0 k1]
theorem cast_ix {c : Int} {i k : Nat} (hc : 0 ≤ c) : ((i * c.toNat + k : Nat) : Int) = i * c + k := by rw [Int.natCast_add, Int.natCast_mul, Int.toNat_of_nonneg hc]
theorem C.impl_madeField {fv : Value} {rr cc : Int} {g : Int → Int → Int} {H : Hp} {K : Value → Hp → Prop} (r1 : 0 ≤ rr) (r2 : rr ≤ 1000) (c1 : 1 ≤ cc) (c2 : cc ≤ 1000)
    (hcl : ∀ H' (i k : Nat) (Z : Value → Hp → Prop), Le H H' → (i : Int) < rr → (k : Int) < cc → (∀ H'', Le H' H'' → Z (.int .i64 (g i k)) H'') → callV prg fv [.int .i64 i, .int .i64 k] H' Z)
    (hk : ∀ u H', Own eI H' u (mkL cc g (rr.toNat * cc.toNat)) → Nw H u → Le H H' → K (.agg #[.int .i64 rr, .int .i64 cc, u]) H') :
    HT prg I.impl_madeField [.int .i64 rr, .int .i64 cc, fv].toArray H K := by
  refine R.impl_madeField ?_
  unfold F.impl_madeField
  refine nw_i (fun q H1 oq nq le1 => ?_)
  replace oq : Cel H1 q [.int .i64 0, .int .i64 0, .slice none 0 0] := oq
  refine ob_i (a := .agg #[.int .i64 rr, .int .i64 cc, .slice none 0 0]) rfl ?_
  refine nw_i (fun s H2 os ns le2 => ?_)
  have aqs : Apart q s := oq.apart ns
  replace oq := oq.le le2
  have ns0 : Nw H s := ns.le le1
  have nq0 : Nw H q := nq
  refine os.stn (ws := [.int .i64 rr, .int .i64 cc, .slice none 0 0]) rfl rfl (by simp [oneCell]) (fun H3 os off3 => ?_)
  replace oq := oq.off off3 aqs
  have leB : Le H H3 := off3.le (le1.trans le2) ns0
  refine jn_i (fun σ' H' => σ' 6 = q ∧ σ' 7 = s ∧ Cel H' q [.int .i64 0, .int .i64 0, .slice none 0 0] ∧ Le H H' ∧ ∃ u, Cel H' s [.int .i64 rr, .int .i64 cc, u] ∧ Own eI H' u (mkL cc g (rr.toNat * cc.toNat)) ∧ Nw H u ∧ Apart q u) (fun σ' H' hP => ?_) (fun J7 hJ7 => ?_)
  · obtain ⟨g6, g7, oq, le, u, os, ou, nu, aqu⟩ := hP
    rw [g6, g7]
    refine ob_i (os.ldn rfl) ?_
    refine oq.stn (ws := [.int .i64 rr, .int .i64 cc, u]) rfl rfl (oc1 rfl (oc1 rfl (oc1 ou.one oc0))) (fun H6 oq off6 => ?_)
    refine ob_i (oq.ldn rfl) ?_
    exact hk u H6 (ou.off off6 aqu.symm) nu (off6.le le nq0)
  refine ⟨fun n σ H4 => ∃ i : Nat, n = rr.toNat - i ∧ (i : Int) ≤ rr ∧ σ 1 = .int .i64 cc ∧ σ 2 = fv ∧ σ 6 = q ∧ σ 7 = s ∧ σ 13 = .int .i64 rr ∧ σ 14 = .int .i64 i ∧ Cel H4 q [.int .i64 0, .int .i64 0, .slice none 0 0] ∧ Le H H4 ∧
      ∃ u, Cel H4 s [.int .i64 rr, .int .i64 cc, u] ∧ Own eI H4 u (mkL cc g (i * cc.toNat)) ∧ Nw H u ∧ Apart q u ∧ Apart s u,
    ⟨_, 0, rfl, by omega, rfl, rfl, rfl, rfl, rfl, rfl, oq, leB, .slice none 0 0, os, by rw [Nat.zero_mul]; exact Own.nil_of none, fun b hb => by simp [bk] at hb, fun b _ hb => by simp [bk] at hb, fun b _ hb => by simp [bk] at hb⟩, ?_⟩
  rintro n σ H4 ⟨i, rfl, hiR, g1, g2, g6, g7, g13, g14, oq, le4, hu⟩
  simp only [g1, g13, g14, vInt_lss, ob_some]
  refine cnd_d (fun hlt => ?_) (fun hge => ?_)
  · refine jn_i (fun σ' H' => σ' 1 = .int .i64 cc ∧ σ' 2 = fv ∧ σ' 6 = q ∧ σ' 7 = s ∧ σ' 13 = .int .i64 rr ∧ σ' 14 = .int .i64 i ∧ Cel H' q [.int .i64 0, .int .i64 0, .slice none 0 0] ∧ Le H H' ∧
        ∃ u, Cel H' s [.int .i64 rr, .int .i64 cc, u] ∧ Own eI H' u (mkL cc g ((i + 1) * cc.toNat)) ∧ Nw H u ∧ Apart q u ∧ Apart s u) (fun σ' H' hP => ?_) (fun J13 hJ13 => ?_)
    · obtain ⟨z1, z2, z6, z7, z13, z14, zq, zle, zu⟩ := hP
      rw [z14, vInt_add (by omega) (by omega), ob_some]
      exact nxt (rr.toNat - (i + 1)) (by omega) ⟨i + 1, rfl, by omega, z1, z2, z6, z7, z13, rfl, zq, zle, zu⟩
    refine ⟨fun n σ H5 => ∃ k : Nat, n = cc.toNat - k ∧ (k : Int) ≤ cc ∧ σ 1 = .int .i64 cc ∧ σ 2 = fv ∧ σ 6 = q ∧ σ 7 = s ∧ σ 13 = .int .i64 rr ∧ σ 14 = .int .i64 i ∧ σ 8 = .int .i64 i ∧ σ 17 = .int .i64 cc ∧ σ 18 = .int .i64 k ∧ Cel H5 q [.int .i64 0, .int .i64 0, .slice none 0 0] ∧ Le H H5 ∧
        ∃ u, Cel H5 s [.int .i64 rr, .int .i64 cc, u] ∧ Own eI H5 u (mkL cc g (i * cc.toNat + k)) ∧ Nw H u ∧ Apart q u ∧ Apart s u,
      ⟨_, 0, rfl, by omega, g1, g2, g6, g7, g13, g14, rfl, rfl, rfl, oq, le4, hu⟩, ?_⟩
    rintro n σ H5 ⟨k, rfl, hkC, z1, z2, z6, z7, z13, z14, z8, z17, z18, zq, le5, u, zs, zu, nu, aqu, asu⟩
    simp only [z2, z7, z8, z17, z18, vInt_lss, ob_some]
    refine cnd_d (fun hkl => ?_) (fun hkg => ?_)
    · simp only [zs.fa, zs.ld 2 rfl, ob_some]
      refine hcl H5 i k _ le5 hlt hkl (fun H6 le6 => ⟨le6, ?_⟩)
      refine bS_i (enc := eI) (l := [g i k]) (by omega) rfl (by kernel_rfl) (fun t H7 ot nt le7 => ?_)
      have le57 := le6.trans le7
      replace zq := zq.le le57
      replace zs := zs.le le57
      replace zu := zu.le le57
      have leB7 := le5.trans le57
      have hlen : (mkL cc g (i * cc.toNat + k)).length ≤ 68719476736 := by
        rw [mkL_length]
        have : i * cc.toNat ≤ 1000 * 1000 := Nat.mul_le_mul (by omega) (by omega)
        omega
      refine apd_one zu ot.sl (fun _ => rfl) (by omega) hlen (fun u' H8 ou' off8 hbk => ?_)
      have aqu' : Apart q u' := Apart.app zq.known aqu hbk
      have asu' : Apart s u' := Apart.app zs.known asu hbk
      have nu' : Nw H u' := Nw.app nu leB7 hbk
      replace zq := zq.off off8 aqu
      replace zs := zs.off off8 asu
      have leB8 : Le H H8 := off8.le leB7 nu
      refine zs.st (by simp) ou'.one ou'.cells (fun H9 os9 off9 => ?_)
      rw [vInt_add (by omega) (by omega), ob_some]
      refine nxt (cc.toNat - (k + 1)) (by omega) ⟨k + 1, rfl, by omega, z1, z2, z6, z7, z13, z14, z8, z17, rfl, zq.off off9 aqs, off9.le leB8 ns0, u', os9, ?_, nu', aqu', asu'⟩
      have hd := divmod (c := cc) (i := i) (k := k) (by omega) (by omega) hkl
      rw [← Nat.add_assoc, mkL_succ, cast_ix (by omega), hd.1, hd.2]
      exact ou'.off off9 asu'.symm
    · have e : k = cc.toNat := by omega
      refine hJ13 _ _ ⟨z1, z2, z6, z7, z13, z14, zq, le5, u, zs, ?_, nu, aqu, asu⟩
      rw [Nat.add_mul, Nat.one_mul, ← e]; rw [← e] at zu; exact zu
  · have e : i = rr.toNat := by omega
    subst e
    obtain ⟨u, os, ou, nu, aqu, asu⟩ := hu
    exact hJ7 _ _ ⟨g6, g7, oq, le4, u, os, ou, nu, aqu⟩
/-- A cell, or 0 beyond the border. -/
def flatF (r c : Int) (l : List Int) (i k : Int) : Int := if (0 ≤ i ∧ i ≤ r - 1) ∧ 0 ≤ k ∧ k ≤ c - 1 then at_ 0 l (i * c + k) else 0
theorem C.impl_Field_has {vc : Value} {r c i k : Int} {H : Hp} {K : Value → Hp → Prop} (hs : sidesF r c) (hk : ∀ H', Le H H' → K (.bool (decide ((0 ≤ i ∧ i ≤ r - 1) ∧ 0 ≤ k ∧ k ≤ c - 1))) H') :
    HT prg I.impl_Field_has [.agg #[.int .i64 r, .int .i64 c, vc], .int .i64 i, .int .i64 k].toArray H K := by
  refine R.impl_Field_has ?_
  unfold F.impl_Field_has
  refine nw_i (fun p H1 hp np le1 => ?_)
  replace hk := hk H1 le1
  have q1 := hs.1
  have q2 := hs.2
  simp only [hp.fa, hp.ld 0 rfl, ob_some]
  rw [vInt_sub (by omega) (by omega), ob_some]
  refine C.impl_within ?_
  by_cases c1 : 0 ≤ i ∧ i ≤ r - 1
  · simp only [decide_eq_true c1, hp.fa, hp.ld 1 rfl, EV]
    rw [vInt_sub (by omega) (by omega), ob_some]
    refine C.impl_within ?_
    exact kQ (K := K) hk ⟨fun h => h.2, fun h => ⟨c1, h⟩⟩
  · simp only [decide_eq_false c1, EV]; exact kF (K := K) hk (fun h => c1 h.1)
theorem C.look_flat {vc : Value} {r c i k : Int} {l : List Int} {H : Hp} {K : Value → Hp → Prop} (hc : Sl eI H vc l) (hs : sidesF r c) (hl : (l.length : Int) = r * c)
    (hk : ∀ H', Le H H' → K (.int .i64 (flatF r c l i k)) H') : HT prg I.impl_Field_look [.agg #[.int .i64 r, .int .i64 c, vc], .int .i64 i, .int .i64 k, .bool false].toArray H K := by
  refine R.impl_Field_look ?_
  unfold F.impl_Field_look
  refine nw_i (fun p H1 hp np le1 => ?_)
  refine cnd_f1 ?_
  refine ob_i (hp.ldn rfl) ?_
  refine C.impl_Field_has hs (fun H2 le2 => ?_)
  rw [vUn_not, ob_some]
  have m := sidesF_mul hs
  by_cases c1 : (0 ≤ i ∧ i ≤ r - 1) ∧ 0 ≤ k ∧ k ≤ c - 1
  · have hk' := fun H' h => hk H' h
    simp only [flatF, c1, and_self, if_true] at hk'
    simp only [decide_eq_true c1, EV]
    refine ob_i ((hp.le le2).ldn rfl) ?_
    have a1 := Int.mul_nonneg (a := i) (b := c) (by omega) (by have := hs.2; omega)
    have a2 := Int.mul_le_mul (a := i) (b := c) (c := r - 1) (d := c) (by omega) (by omega) (by have := hs.2; omega) (by have := hs.1; omega)
    rw [Int.sub_mul] at a2
    refine C.impl_Field_at (hc.le (le1.trans le2)) (by omega) (by have := hs.2; omega) (by omega) (by rw [hl]; omega) (by omega) (fun H3 le3 => ?_)
    exact hk' _ ((le1.trans le2).trans le3)
  · have h1 := hk H2 (le1.trans le2)
    simp only [flatF, c1, if_false] at h1
    simp only [decide_eq_false c1, EV]; exact h1
end Go.Proofs.YtffmfkpobjdmmaaGreatDoor
/- Fields with a border of zeros: the program's and the reference's. -/
namespace Go.Proofs.YtffmfkpobjdmmaaGreatDoor
open HL
set_option maxRecDepth 100000
def groOk (r c : Int) (l : List Int) (b : Int) : Prop := fieldN 1 r c l ∧ (0 ≤ b ∧ b ≤ 24) ∧ (1 ≤ r + 2 * b ∧ r + 2 * b ≤ 24) ∧ (1 ≤ c + 2 * b ∧ c + 2 * b ≤ 24)
instance (r c : Int) (l : List Int) (b : Int) : Decidable (groOk r c l b) := by unfold groOk; infer_instance
theorem C.spec_l04New {rr cc : Int} {H : Hp} {K : Value → Hp → Prop} (r0 : 0 ≤ rr) (r1 : rr ≤ 24) (c0 : 0 ≤ cc) (c1 : cc ≤ 24)
    (hk : ∀ u H', Own eI H' u (List.replicate (rr.toNat * cc.toNat) 0) → Nw H u → Le H H' → K (.agg #[.int .i64 rr, .int .i64 cc, u]) H') : HT prg I.spec_l04New [.int .i64 rr, .int .i64 cc].toArray H K := by
  refine R.spec_l04New ?_
  unfold F.spec_l04New
  have m := Int.mul_le_mul r1 c1 c0 (by omega)
  have m0 := Int.mul_nonneg r0 c0
  refine nw_i (fun q H1 oq nq le1 => ?_)
  rw [vInt_mul (by omega) (by omega), ob_some]
  refine Own.mk_ (z := (0 : Int)) (by omega) (by omega) (by omega) (by omega) (fun u H2 ou nu le2 => ?_)
  have aqu : Apart q u := oq.apart nu
  replace oq := oq.le le2
  refine ob_i (a := .agg #[.int .i64 rr, .int .i64 cc, u]) (by obtain ⟨_, _, _, rfl⟩ := ou.isSl; rfl) ?_
  refine oq.stn (ws := [.int .i64 rr, .int .i64 cc, u]) rfl rfl (oc1 rfl (oc1 rfl (oc1 ou.one oc0))) (fun H3 oq off3 => ?_)
  refine ob_i (oq.ldn rfl) ?_
  rw [Int.toNat_mul r0 c0] at ou
  exact hk u H3 (ou.off off3 aqu.symm) (nu.le le1) (off3.le (le1.trans le2) nq)
end Go.Proofs.YtffmfkpobjdmmaaGreatDoor
/- Rules for the walks that a program writes. -/
namespace Go.Proofs.YtffmfkpobjdmmaaGreatDoor.HL
theorem ob_nd {p : Prop} [Decidable p] {K : Value → Prop} (h1 : p → K (.bool false)) (h2 : ¬ p → K (.bool true)) : ob (vUn .not (.bool (decide p))) K := by
  rw [vUn_not, ob_some]
  by_cases c : p
  · rw [decide_eq_true c]; exact h1 c
  · rw [decide_eq_false c]; exact h2 c
theorem vMx_max (k : IntKind) (a b : Int) : vMx true (.int k a) [.int k b] = some (.int k (max a b)) := by
  simp only [vMx]; congr 2; split <;> omega
theorem vMx_min (k : IntKind) (a b : Int) : vMx false (.int k a) [.int k b] = some (.int k (min a b)) := by
  simp only [vMx]; congr 2; split <;> omega
theorem vInt_quoN {a b : Int} (ha : 0 ≤ a) (ha' : a < 9223372036854775808) (hb : 0 < b) : vInt .quo (.int .i64 a) (.int .i64 b) = some (.int .i64 (a / b)) := by
  rw [vInt_quo hb (by omega) ha', Int.tdiv_eq_ediv_of_nonneg ha]
theorem vInt_remN {a b : Int} (ha : 0 ≤ a) (hb : 0 < b) : vInt .rem (.int .i64 a) (.int .i64 b) = some (.int .i64 (a % b)) := by
  rw [vInt_rem (by omega), Int.tmod_eq_emod_of_nonneg ha]
theorem Apart.ap2 {H : Hp} {x u u' : Value} (hx : ∀ b, bk x = some b → ∃ o, H b = some o) (ha : Apart x u) (hb : ∀ b, bk u' = some b → bk u = some b ∨ H b = none) : Apart x u' := fun b h1 h2 => by
  rcases hb b h2 with h | h
  · exact ha b h1 h
  · obtain ⟨o, ho⟩ := hx b h1; rw [h] at ho; simp at ho
theorem Nw.ap2 {H0 H : Hp} {u u' : Value} (hn : Nw H0 u) (hl : Le H0 H) (hb : ∀ b, bk u' = some b → bk u = some b ∨ H b = none) : Nw H0 u' := fun b h => by
  rcases hb b h with h1 | h1
  · exact hn b h1
  · cases ho : H0 b with
    | none => rfl
    | some o => rw [hl b o ho] at h1; simp at h1
theorem apd_any {α : Type} {enc : α → Value} {z : Value} {b : Nat} {e : TypeId} {u t : Value} {l m : List α} {H : Hp} {K : Value → Hp → Prop} (o : Own enc H u l) (ot : Sl enc H t m) (ho : ∀ x, oneCell (enc x) = true) (hb : b ≤ 64) (hl : l.length + m.length ≤ 68719476736)
    (hk : ∀ u' H', Own enc H' u' (l ++ m) → Off u H H' → (∀ b, bk u' = some b → bk u = some b ∨ H b = none) → K u' H') : apd 1 b #[z] e u t H K := by
  refine o.apd ot ho (by omega) (fun c hc => ?_) hk
  have := nsc_le hc
  exact Nat.le_trans (Nat.mul_le_mul this hb) (by omega)
end Go.Proofs.YtffmfkpobjdmmaaGreatDoor.HL
/- The smallest part of a field with all cells of 1. -/
namespace Go.Proofs.YtffmfkpobjdmmaaGreatDoor
open HL
set_option maxRecDepth 100000
/-- Cells that are filled one behind the other. -/
def fillL (c : Int) (g : Int → Int → Int) (N t : Nat) : List Int := (List.range N).map fun (j : Nat) => if j < t then g ((j : Int) / c) ((j : Int) % c) else 0
theorem fillL_length (c : Int) (g : Int → Int → Int) (N t : Nat) : (fillL c g N t).length = N := by simp [fillL]
theorem fillL_zero (c : Int) (g : Int → Int → Int) (N : Nat) : fillL c g N 0 = List.replicate N 0 := by
  rw [List.eq_replicate_iff]
  refine ⟨fillL_length c g N 0, fun x hx => ?_⟩
  simp only [fillL, List.mem_map] at hx
  obtain ⟨j, _, rfl⟩ := hx
  rw [if_neg (by omega)]
theorem fillL_end {c : Int} {g : Int → Int → Int} {N t : Nat} (h : N ≤ t) : fillL c g N t = mkL c g N := by
  unfold fillL mkL
  apply List.map_congr_left
  intro j hj
  have := List.mem_range.mp hj
  rw [if_pos (by omega)]
theorem fillL_set {c : Int} {g : Int → Int → Int} {N : Nat} {i k : Int} {t : Nat} (hc : 0 < c) (k0 : 0 ≤ k) (k1 : k < c) (ht : (t : Int) = i * c + k) (h : 0 ≤ i * c) : (fillL c g N t).set (i * c + k).toNat (g i k) = fillL c g N (t + 1) := by
  have hd := divmod (c := c) (i := i) (k := k) hc k0 k1
  rw [show (i * c + k).toNat = t by omega]
  apply List.ext_getElem?
  intro j
  rw [List.getElem?_set]
  simp only [fillL, List.getElem?_map, List.length_map, List.length_range]
  by_cases e : t = j
  · subst e
    rw [if_pos rfl]
    by_cases hj : t < N
    · rw [if_pos hj, List.getElem?_range hj]
      simp only [Option.map_some]
      rw [if_pos (by omega), ht, hd.1, hd.2]
    · rw [if_neg hj, List.getElem?_eq_none (by simpa using hj)]; rfl
  · rw [if_neg e]
    by_cases hj : j < N
    · rw [List.getElem?_range hj]
      simp only [Option.map_some]
      by_cases h1 : j < t
      · rw [if_pos h1, if_pos (by omega)]
      · rw [if_neg h1, if_neg (by omega)]
    · rw [List.getElem?_eq_none (by simpa using hj)]; rfl
theorem ix_lt {a b r c : Int} (a0 : 0 ≤ a) (a1 : a < r) (b0 : 0 ≤ b) (b1 : b < c) : 0 ≤ a * c ∧ a * c + b < r * c := by
  have := Int.mul_nonneg a0 (show (0 : Int) ≤ c by omega)
  have := Int.mul_le_mul (a := a) (b := c) (c := r - 1) (d := c) (by omega) (by omega) (by omega) (by omega)
  rw [Int.sub_mul] at this
  omega
theorem ix_le {a b : Int} (a0 : 0 ≤ a) (a1 : a ≤ 24) (b0 : 0 ≤ b) (b1 : b ≤ 24) : 0 ≤ a * b ∧ a * b ≤ 576 := by
  have := Int.mul_nonneg a0 b0
  have := Int.mul_le_mul a1 b1 b0 (by omega)
  omega
theorem fillL_len {c : Int} {g : Int → Int → Int} {rr cc : Int} {t : Nat} (h1 : 0 ≤ rr) (h2 : 0 ≤ cc) : ((fillL c g (rr.toNat * cc.toNat) t).length : Int) = rr * cc := by
  rw [fillL_length, Int.natCast_mul, Int.toNat_of_nonneg h1, Int.toNat_of_nonneg h2]
/-- A part of a field. -/
def cutG (c : Int) (l : List Int) (row col i k : Int) : Int := at_ 0 l ((row + i) * c + col + k)
/-- Where the cells of 1 lie, of the first t cells: top, bottom, left, right. -/
def trStep (c : Int) (l : List Int) (s : Int × Int × Int × Int) (j : Nat) : Int × Int × Int × Int :=
  if at_ 0 l (j : Int) = 1 then (min s.1 ((j : Int) / c), max s.2.1 ((j : Int) / c), min s.2.2.1 ((j : Int) % c), max s.2.2.2 ((j : Int) % c)) else s
def trS (r c : Int) (l : List Int) (t : Nat) : Int × Int × Int × Int := (List.range t).foldl (trStep c l) (r, -1, c, -1)
theorem trS_t {r c : Int} {l : List Int} {t : Nat} (h : at_ 0 l (t : Int) = 1) :
    trS r c l (t + 1) = (min (trS r c l t).1 ((t : Int) / c), max (trS r c l t).2.1 ((t : Int) / c), min (trS r c l t).2.2.1 ((t : Int) % c), max (trS r c l t).2.2.2 ((t : Int) % c)) := by
  unfold trS
  rw [List.range_succ, List.foldl_append, List.foldl_cons, List.foldl_nil, trStep, if_pos h]
theorem trS_f {r c : Int} {l : List Int} {t : Nat} (h : ¬ at_ 0 l (t : Int) = 1) : trS r c l (t + 1) = trS r c l t := by
  unfold trS
  rw [List.range_succ, List.foldl_append, List.foldl_cons, List.foldl_nil, trStep, if_neg h]
theorem trS_t2 {r c : Int} {l : List Int} {i k : Int} {t : Nat} (hc : 0 < c) (k0 : 0 ≤ k) (k1 : k < c) (ht : (t : Int) = i * c + k) (h : at_ 0 l (i * c + k) = 1) :
    trS r c l (t + 1) = (min (trS r c l t).1 i, max (trS r c l t).2.1 i, min (trS r c l t).2.2.1 k, max (trS r c l t).2.2.2 k) := by
  have hd := divmod (c := c) (i := i) (k := k) hc k0 k1
  rw [trS_t (by rw [ht]; exact h), ht, hd.1, hd.2]
theorem trS_f2 {r c : Int} {l : List Int} {i k : Int} {t : Nat} (ht : (t : Int) = i * c + k) (h : ¬ at_ 0 l (i * c + k) = 1) : trS r c l (t + 1) = trS r c l t := trS_f (by rw [ht]; exact h)
theorem trS_inv {r c : Int} {l : List Int} (hs : sidesF r c) : ∀ t : Nat, (t : Int) ≤ r * c →
    trS r c l t = (r, -1, c, -1) ∨ ((0 ≤ (trS r c l t).1 ∧ (trS r c l t).1 ≤ (trS r c l t).2.1 ∧ (trS r c l t).2.1 < r) ∧ 0 ≤ (trS r c l t).2.2.1 ∧ (trS r c l t).2.2.1 ≤ (trS r c l t).2.2.2 ∧ (trS r c l t).2.2.2 < c)
  | 0, _ => .inl rfl
  | t + 1, h => by
    have q1 := hs.1
    have q2 := hs.2
    have d1 := Int.ediv_nonneg (a := (t : Int)) (b := c) (by omega) (by omega)
    have d2 : (t : Int) / c < r := Int.ediv_lt_of_lt_mul (by omega) (by omega)
    have d3 := Int.emod_nonneg (t : Int) (b := c) (by omega)
    have d4 := Int.emod_lt_of_pos (t : Int) (b := c) (by omega)
    by_cases e : at_ 0 l (t : Int) = 1
    · rw [trS_t e]
      refine .inr ?_
      rcases trS_inv (l := l) hs t (by omega) with h1 | h1
      · rw [h1]; simp only; omega
      · simp only; omega
    · rw [trS_f e]
      exact trS_inv hs t (by omega)
theorem trS_bnd {r c : Int} {l : List Int} (hs : sidesF r c) (t : Nat) (h : (t : Int) ≤ r * c) : (0 ≤ (trS r c l t).1 ∧ (trS r c l t).1 ≤ r ∧ -1 ≤ (trS r c l t).2.1 ∧ (trS r c l t).2.1 < r) ∧ 0 ≤ (trS r c l t).2.2.1 ∧ (trS r c l t).2.2.1 ≤ c ∧ -1 ≤ (trS r c l t).2.2.2 ∧ (trS r c l t).2.2.2 < c := by
  have q1 := hs.1
  have q2 := hs.2
  rcases trS_inv (l := l) hs t h with h1 | h1
  · rw [h1]; simp only; omega
  · omega
theorem trS_ok {r c : Int} {l : List Int} (hs : sidesF r c) (t : Nat) (h : (t : Int) ≤ r * c) (hb : 0 ≤ (trS r c l t).2.1) : (trS r c l t).1 ≤ (trS r c l t).2.1 ∧ (trS r c l t).2.2.1 ≤ (trS r c l t).2.2.2 := by
  rcases trS_inv (l := l) hs t h with h1 | h1
  · rw [h1] at hb; simp only at hb; omega
  · omega
/-- The smallest part: its sides, its cells, and where it begins. -/
def trm (r c : Int) (l : List Int) : Int × Int × Int × Int := trS r c l (r * c).toNat
def trR (r c : Int) (l : List Int) : Int := (trm r c l).2.1 - (trm r c l).1 + 1
def trC (r c : Int) (l : List Int) : Int := (trm r c l).2.2.2 - (trm r c l).2.2.1 + 1
def trL (r c : Int) (l : List Int) : List Int := mkL (trC r c l) (cutG c l (trm r c l).1 (trm r c l).2.2.1) ((trR r c l).toNat * (trC r c l).toNat)
theorem trm_bnd {r c : Int} {l : List Int} (hs : sidesF r c) (hb : 0 ≤ (trm r c l).2.1) : 0 ≤ (trm r c l).1 ∧ 0 ≤ (trm r c l).2.2.1 ∧ 1 ≤ trR r c l ∧ 1 ≤ trC r c l ∧ (trm r c l).1 + trR r c l ≤ r ∧ (trm r c l).2.2.1 + trC r c l ≤ c := by
  have m := sidesF_mul hs
  have b := trS_bnd (l := l) hs (r * c).toNat (by omega)
  have d := trS_ok (l := l) hs (r * c).toNat (by omega) hb
  unfold trR trC trm
  omega
def trimOk (r c : Int) (l : List Int) : Prop := fieldN 1 r c l ∧ 0 ≤ (trm r c l).2.1
instance (r c : Int) (l : List Int) : Decidable (trimOk r c l) := by unfold trimOk; infer_instance
theorem C.spec_l00Min {a b : Int} {H : Hp} {K : Value → Hp → Prop} (hk : K (.int .i64 (min a b)) H) : HT prg I.spec_l00Min [.int .i64 a, .int .i64 b].toArray H K := by
  refine R.spec_l00Min ?_
  unfold F.spec_l00Min
  rw [vInt_lss, ob_some]
  refine cnd_d (fun h => ?_) (fun h => ?_)
  · rw [show min a b = a by omega] at hk; exact hk
  · rw [show min a b = b by omega] at hk; exact hk
theorem C.spec_l00Max {a b : Int} {H : Hp} {K : Value → Hp → Prop} (hk : K (.int .i64 (max a b)) H) : HT prg I.spec_l00Max [.int .i64 a, .int .i64 b].toArray H K := by
  refine R.spec_l00Max ?_
  unfold F.spec_l00Max
  rw [vInt_gtr, ob_some]
  refine cnd_d (fun h => ?_) (fun h => ?_)
  · rw [show max a b = a by omega] at hk; exact hk
  · rw [show max a b = b by omega] at hk; exact hk
theorem C.spec_l05Cut {p vc : Value} {r c row col rows cols : Int} {l : List Int} {H : Hp} {K : Value → Hp → Prop} (hp0 : Cel H p [.int .i64 r, .int .i64 c, vc]) (hvc0 : Sl eI H vc l) (hs : sidesF r c) (hl : (l.length : Int) = r * c)
    (h0 : 0 ≤ row) (h1 : 0 ≤ col) (h2 : 1 ≤ rows) (h3 : 1 ≤ cols) (h4 : row + rows ≤ r) (h5 : col + cols ≤ c) (hk : ∀ u H', Own eI H' u (mkL cols (cutG c l row col) (rows.toNat * cols.toNat)) → Nw H u → Le H H' → K (.agg #[.int .i64 rows, .int .i64 cols, u]) H') :
    HT prg I.spec_l05Cut [p, .int .i64 row, .int .i64 col, .int .i64 rows, .int .i64 cols].toArray H K := by
  have q1 := hs.1
  have q2 := hs.2
  have lE := Le.refl H
  have hp := hp0
  have hvc := hvc0
  refine R.spec_l05Cut ?_
  unfold F.spec_l05Cut
  refine nw_i (fun q H1 oq nn2 le3 => ?_)
  have nq : Nw H q := nn2.le lE
  replace hp := hp.le le3
  replace hvc := hvc.le le3
  replace lE := lE.trans le3
  replace oq : Cel H1 q [(.int .i64 (0)), (.int .i64 (0)), (.slice none 0 0)] := oq
  refine C.spec_l04New (by omega) (by omega) (by omega) (by omega) (fun u H4 ou nn6  le5 => ?_)
  have aqXu : Apart q u := oq.apart nn6
  have nu : Nw H u := nn6.le lE
  replace oq := oq.le le5
  replace hp := hp.le le5
  replace hvc := hvc.le le5
  replace lE := lE.trans le5
  refine nw_i (fun s H7 os nn8 le9 => ?_)
  have aqXs : Apart q s := oq.apart nn8
  have auXs : Apart u s := ou.apart nn8
  have ns : Nw H s := nn8.le lE
  replace oq := oq.le le9
  replace ou := ou.le le9
  replace hp := hp.le le9
  replace hvc := hvc.le le9
  replace lE := lE.trans le9
  replace os : Cel H7 s [(.int .i64 (0)), (.int .i64 (0)), (.slice none 0 0)] := os
  refine os.stn (ws := [(.int .i64 (rows)), (.int .i64 (cols)), u]) rfl rfl (oc1 rfl (oc1 rfl (oc1 ou.one oc0))) (fun H10 os off11 => ?_)
  replace oq := oq.off off11 aqXs
  replace ou := ou.off off11 auXs
  replace hp := hp0.le (off11.le lE ns)
  replace hvc := hvc0.le (off11.le lE ns)
  replace lE := off11.le lE ns
  replace os : Cel H10 s [(.int .i64 (rows)), (.int .i64 (cols)), u] := os
  refine jn_i (fun σ' H' => σ' 10 = q ∧ σ' 11 = s ∧ Cel H' q [(.int .i64 (0)), (.int .i64 (0)), (.slice none 0 0)] ∧ Own eI H' u (mkL cols (cutG c l row col) (rows.toNat * cols.toNat)) ∧ Cel H' s [(.int .i64 (rows)), (.int .i64 (cols)), u] ∧ Le H H') (fun σ12 H12 hP => ?_) (fun J12 hJ12 => ?_)
  · skip
    obtain ⟨g10L12, g11L12, oq, ou, os, lE⟩ := hP
    have hp := hp0.le lE
    have hvc := hvc0.le lE
    simp only [g10L12, g11L12]
    refine ob_i (os.ldn rfl) ?_
    refine oq.stn (ws := [(.int .i64 (rows)), (.int .i64 (cols)), u]) rfl rfl (oc1 rfl (oc1 rfl (oc1 ou.one oc0))) (fun H13 oq off14 => ?_)
    replace ou := ou.off off14 aqXu.symm
    replace os := os.off off14 aqXs.symm
    replace hp := hp0.le (off14.le lE nq)
    replace hvc := hvc0.le (off14.le lE nq)
    replace lE := off14.le lE nq
    replace oq : Cel H13 q [(.int .i64 (rows)), (.int .i64 (cols)), u] := oq
    refine ob_i (oq.ldn rfl) ?_
    exact hk u _ ou nu lE
  refine ⟨fun n' σ' H' => ∃ i : Nat, n' = rows.toNat - i ∧ i ≤ rows.toNat ∧ σ' 0 = p ∧ σ' 1 = (.int .i64 (row)) ∧ σ' 2 = (.int .i64 (col)) ∧ σ' 3 = (.int .i64 (rows)) ∧ σ' 4 = (.int .i64 (cols)) ∧ σ' 10 = q ∧ σ' 11 = s ∧ σ' 12 = (.int .i64 ((i : Int))) ∧ Cel H' q [(.int .i64 (0)), (.int .i64 (0)), (.slice none 0 0)] ∧ Own eI H' u (fillL cols (cutG c l row col) (rows.toNat * cols.toNat) (i * cols.toNat)) ∧ Cel H' s [(.int .i64 (rows)), (.int .i64 (cols)), u] ∧ Le H H',
    ⟨_, 0, rfl, by omega, rfl, rfl, rfl, rfl, rfl, rfl, rfl, rfl, oq, by rw [Nat.zero_mul, fillL_zero]; exact ou, os, lE⟩, ?_⟩
  rintro n15 σ15 H15 ⟨i, rfl, hiN, g0L15, g1L15, g2L15, g3L15, g4L15, g10L15, g11L15, g12L15, oq, ou, os, lE⟩
  have hp := hp0.le lE
  have hvc := hvc0.le lE
  simp only [g0L15, g1L15, g2L15, g3L15, g4L15, g10L15, g11L15, g12L15]
  refine ob_i (vInt_lss _ _ _) ?_
  refine cnd_d (fun hg16 => ?_) (fun hg16 => ?_)
  · skip
    have ti := hg16
    refine jn_i (fun σ' H' => σ' 0 = p ∧ σ' 1 = (.int .i64 (row)) ∧ σ' 2 = (.int .i64 (col)) ∧ σ' 3 = (.int .i64 (rows)) ∧ σ' 4 = (.int .i64 (cols)) ∧ σ' 10 = q ∧ σ' 11 = s ∧ σ' 12 = (.int .i64 ((i : Int))) ∧ Cel H' q [(.int .i64 (0)), (.int .i64 (0)), (.slice none 0 0)] ∧ Own eI H' u (fillL cols (cutG c l row col) (rows.toNat * cols.toNat) ((i + 1) * cols.toNat)) ∧ Cel H' s [(.int .i64 (rows)), (.int .i64 (cols)), u] ∧ Le H H') (fun σ17 H17 hP => ?_) (fun J17 hJ17 => ?_)
    · skip
      obtain ⟨g0L17, g1L17, g2L17, g3L17, g4L17, g10L17, g11L17, g12L17, oq, ou, os, lE⟩ := hP
      have hp := hp0.le lE
      have hvc := hvc0.le lE
      simp only [g10L17, g12L17]
      refine ob_i (vInt_add (by omega) (by omega)) ?_
      exact nxt (rows.toNat - (i + 1)) (by omega) ⟨i + 1, rfl, by omega, g0L17, g1L17, g2L17, g3L17, g4L17, g10L17, g11L17, rfl, oq, ou, os, lE⟩
    refine ⟨fun n' σ' H' => ∃ k : Nat, n' = cols.toNat - k ∧ k ≤ cols.toNat ∧ σ' 0 = p ∧ σ' 1 = (.int .i64 (row)) ∧ σ' 2 = (.int .i64 (col)) ∧ σ' 3 = (.int .i64 (rows)) ∧ σ' 4 = (.int .i64 (cols)) ∧ σ' 10 = q ∧ σ' 11 = s ∧ σ' 12 = (.int .i64 ((i : Int))) ∧ σ' 13 = (.int .i64 ((k : Int))) ∧ Cel H' q [(.int .i64 (0)), (.int .i64 (0)), (.slice none 0 0)] ∧ Own eI H' u (fillL cols (cutG c l row col) (rows.toNat * cols.toNat) (i * cols.toNat + k)) ∧ Cel H' s [(.int .i64 (rows)), (.int .i64 (cols)), u] ∧ Le H H',
      ⟨_, 0, rfl, by omega, g0L15, g1L15, g2L15, g3L15, g4L15, g10L15, g11L15, g12L15, rfl, oq, ou, os, lE⟩, ?_⟩
    rintro n18 σ18 H18 ⟨k, rfl, hkN, g0L18, g1L18, g2L18, g3L18, g4L18, g10L18, g11L18, g12L18, g13L18, oq, ou, os, lE⟩
    have hp := hp0.le lE
    have hvc := hvc0.le lE
    simp only [g0L18, g1L18, g2L18, g4L18, g10L18, g11L18, g12L18, g13L18]
    refine ob_i (vInt_lss _ _ _) ?_
    refine cnd_d (fun hg19 => ?_) (fun hg19 => ?_)
    · skip
      have tk := hg19
      have x1 := ix_lt (a := row + i) (b := col + k) (r := r) (c := c) (by omega) (by omega) (by omega) (by omega)
      have x2 := ix_lt (a := (i : Int)) (b := (k : Int)) (r := rows) (c := cols) (by omega) (by omega) (by omega) (by omega)
      have x3 := fillL_len (c := cols) (g := cutG c l row col) (rr := rows) (cc := cols) (t := i * cols.toNat + k) (by omega) (by omega)
      have x4 := sidesF_mul hs
      have x5 := ix_le (a := rows) (b := cols) (by omega) (by omega) (by omega) (by omega)
      refine ob_i (os.fa 2) ?_
      refine ob_i (os.ld 2 rfl) ?_
      refine ob_i (vInt_mul (by omega) (by omega)) ?_
      refine ob_i (vInt_add (by omega) (by omega)) ?_
      refine ob_i (hp.nilC) ?_
      refine ob_i (hp.fa 2) ?_
      refine ob_i (hp.ld 2 rfl) ?_
      refine ob_i (vInt_add (by omega) (by omega)) ?_
      refine ob_i (hp.nilC) ?_
      refine ob_i (hp.fa 1) ?_
      refine ob_i (hp.ld 1 rfl) ?_
      refine ob_i (vInt_mul (by omega) (by omega)) ?_
      refine ob_i (vInt_add (by omega) (by omega)) ?_
      refine ob_i (vInt_add (by omega) (by omega)) ?_
      refine ob_i (hvc.ix (by omega) (by omega)) ?_
      refine ob_i (hvc.ld 0 (by omega) (by omega)) ?_
      refine ob_i (ou.sl.ix (by omega) (by omega)) ?_
      refine ou.st (x := at_ 0 (l) ((((row + (i : Int)) * c) + col) + (k : Int))) (by omega) (by omega) rfl rfl (fun H20 ou off21 => ?_)
      replace oq := oq.off off21 aqXu
      replace os := os.off off21 auXs.symm
      replace hp := hp0.le (off21.le lE nu)
      replace hvc := hvc0.le (off21.le lE nu)
      replace lE := off21.le lE nu
      refine ob_i (vInt_add (by omega) (by omega)) ?_
      have e := fillL_set (c := cols) (g := cutG c l row col) (N := (rows.toNat * cols.toNat)) (i := i) (k := k) (t := i * cols.toNat + k) (by omega) (by omega) (by omega) (cast_ix (by omega)) (by omega)
      replace ou : Own eI H20 u (fillL cols (cutG c l row col) (rows.toNat * cols.toNat) (i * cols.toNat + (k + 1))) := by rw [← Nat.add_assoc, ← e]; exact ou
      exact nxt (cols.toNat - (k + 1)) (by omega) ⟨k + 1, rfl, by omega, g0L18, g1L18, g2L18, g3L18, g4L18, g10L18, g11L18, g12L18, rfl, oq, ou, os, lE⟩
    · skip
      have tk := hg19
      rw [show i * cols.toNat + k = (i + 1) * cols.toNat by rw [Nat.add_mul, Nat.one_mul]; omega] at ou
      exact hJ17 _ _ ⟨g0L18, g1L18, g2L18, g3L18, g4L18, g10L18, g11L18, g12L18, oq, ou, os, lE⟩
  · skip
    have ti := hg16
    rw [fillL_end (by rw [show i = rows.toNat by omega]; exact Nat.le_refl _)] at ou
    exact hJ12 _ _ ⟨g10L15, g11L15, oq, ou, os, lE⟩
theorem C.spec_l05Trim {p vc : Value} {r c : Int} {l : List Int} {H : Hp} {K : Value → Hp → Prop} (hp0 : Cel H p [.int .i64 r, .int .i64 c, vc]) (hvc0 : Sl eI H vc l) (hs : sidesF r c) (hl : (l.length : Int) = r * c)
    (hk1 : (trm r c l).2.1 < 0 → ∀ H', Le H H' → K (.tuple #[.agg #[.int .i64 0, .int .i64 0, .slice none 0 0], .int .i64 0, .int .i64 0, .bool false]) H')
    (hk2 : 0 ≤ (trm r c l).2.1 → ∀ u H', Own eI H' u (trL r c l) → Nw H u → Le H H' → K (.tuple #[.agg #[.int .i64 (trR r c l), .int .i64 (trC r c l), u], .int .i64 (trm r c l).1, .int .i64 (trm r c l).2.2.1, .bool true]) H') :
    HT prg I.spec_l05Trim [p].toArray H K := by
  have q1 := hs.1
  have q2 := hs.2
  have m := sidesF_mul hs
  change (trS r c l (r * c).toNat).2.1 < 0 → _ at hk1
  change 0 ≤ (trS r c l (r * c).toNat).2.1 → _ at hk2
  have lE := Le.refl H
  have hp := hp0
  have hvc := hvc0
  refine R.spec_l05Trim ?_
  unfold F.spec_l05Trim
  refine nw_i (fun q H1 oq nn2 le3 => ?_)
  have nq : Nw H q := nn2.le lE
  replace hp := hp.le le3
  replace hvc := hvc.le le3
  replace lE := lE.trans le3
  replace oq : Cel H1 q [(.int .i64 (0)), (.int .i64 (0)), (.slice none 0 0)] := oq
  refine ob_i (hp.nilC) ?_
  refine ob_i (hp.fa 0) ?_
  refine ob_i (hp.ld 0 rfl) ?_
  refine ob_i (hp.nilC) ?_
  refine ob_i (hp.fa 1) ?_
  refine ob_i (hp.ld 1 rfl) ?_
  refine jn_i (fun σ' H' => σ' 0 = p ∧ σ' 2 = q ∧ σ' 6 = (.int .i64 ((trS r c l ((r * c).toNat)).1)) ∧ σ' 7 = (.int .i64 ((trS r c l ((r * c).toNat)).2.1)) ∧ σ' 8 = (.int .i64 ((trS r c l ((r * c).toNat)).2.2.1)) ∧ σ' 9 = (.int .i64 ((trS r c l ((r * c).toNat)).2.2.2)) ∧ Cel H' q [(.int .i64 (0)), (.int .i64 (0)), (.slice none 0 0)] ∧ Le H H') (fun σ4 H4 hP => ?_) (fun J4 hJ4 => ?_)
  · skip
    obtain ⟨g0L4, g2L4, g6L4, g7L4, g8L4, g9L4, oq, lE⟩ := hP
    have hp := hp0.le lE
    have hvc := hvc0.le lE
    simp only [g0L4, g2L4, g6L4, g7L4, g8L4, g9L4]
    have b := trS_bnd (l := l) hs (r * c).toNat (by omega)
    have b2 := trS_ok (l := l) hs (r * c).toNat (by omega)
    refine ob_i (vInt_lss _ _ _) ?_
    refine cnd_d (fun hg5 => ?_) (fun hg5 => ?_)
    · skip
      refine ob_i (a := (.agg #[(.int .i64 (0)), (.int .i64 (0)), (.slice none 0 0)])) (by rfl) ?_
      refine oq.stn (ws := [(.int .i64 (0)), (.int .i64 (0)), (.slice none 0 0)]) rfl rfl (oc1 rfl (oc1 rfl (oc1 rfl oc0))) (fun H6 oq off7 => ?_)
      replace hp := hp0.le (off7.le lE nq)
      replace hvc := hvc0.le (off7.le lE nq)
      replace lE := off7.le lE nq
      replace oq : Cel H6 q [(.int .i64 (0)), (.int .i64 (0)), (.slice none 0 0)] := oq
      refine ob_i (oq.ldn rfl) ?_
      exact hk1 (by omega) _ lE
    · skip
      refine ob_i (vInt_sub (by omega) (by omega)) ?_
      refine ob_i (vInt_add (by omega) (by omega)) ?_
      refine ob_i (vInt_sub (by omega) (by omega)) ?_
      refine ob_i (vInt_add (by omega) (by omega)) ?_
      refine C.spec_l05Cut hp hvc hs hl (by omega) (by omega) (by omega) (by omega) (by omega) (by omega) (fun u10 H8 ou10 nn11  le9 => ?_)
      have aqXu10 : Apart q u10 := oq.apart nn11
      have nu10 : Nw H u10 := nn11.le lE
      replace oq := oq.le le9
      replace hp := hp.le le9
      replace hvc := hvc.le le9
      replace lE := lE.trans le9
      refine oq.stn (ws := [(.int .i64 ((((trS r c l ((r * c).toNat)).2.1) - ((trS r c l ((r * c).toNat)).1)) + 1)), (.int .i64 ((((trS r c l ((r * c).toNat)).2.2.2) - ((trS r c l ((r * c).toNat)).2.2.1)) + 1)), u10]) rfl rfl (oc1 rfl (oc1 rfl (oc1 ou10.one oc0))) (fun H12 oq off13 => ?_)
      replace ou10 := ou10.off off13 aqXu10.symm
      replace hp := hp0.le (off13.le lE nq)
      replace hvc := hvc0.le (off13.le lE nq)
      replace lE := off13.le lE nq
      replace oq : Cel H12 q [(.int .i64 ((((trS r c l ((r * c).toNat)).2.1) - ((trS r c l ((r * c).toNat)).1)) + 1)), (.int .i64 ((((trS r c l ((r * c).toNat)).2.2.2) - ((trS r c l ((r * c).toNat)).2.2.1)) + 1)), u10] := oq
      refine ob_i (oq.ldn rfl) ?_
      exact hk2 (by omega) u10 _ ou10 nu10 lE
  refine ⟨fun n' σ' H' => ∃ i : Nat, n' = r.toNat - i ∧ i ≤ r.toNat ∧ σ' 0 = p ∧ σ' 2 = q ∧ σ' 6 = (.int .i64 ((trS r c l (i * c.toNat)).1)) ∧ σ' 7 = (.int .i64 ((trS r c l (i * c.toNat)).2.1)) ∧ σ' 8 = (.int .i64 ((trS r c l (i * c.toNat)).2.2.1)) ∧ σ' 9 = (.int .i64 ((trS r c l (i * c.toNat)).2.2.2)) ∧ σ' 10 = (.int .i64 ((i : Int))) ∧ Cel H' q [(.int .i64 (0)), (.int .i64 (0)), (.slice none 0 0)] ∧ Le H H',
    ⟨_, 0, rfl, by omega, rfl, rfl, by rw [Nat.zero_mul]; rfl, by rw [Nat.zero_mul]; rfl, by rw [Nat.zero_mul]; rfl, by rw [Nat.zero_mul]; rfl, rfl, oq, lE⟩, ?_⟩
  rintro n14 σ14 H14 ⟨i, rfl, hiN, g0L14, g2L14, g6L14, g7L14, g8L14, g9L14, g10L14, oq, lE⟩
  have hp := hp0.le lE
  have hvc := hvc0.le lE
  simp only [g0L14, g2L14, g6L14, g7L14, g8L14, g9L14, g10L14]
  refine ob_i (hp.nilC) ?_
  refine ob_i (hp.fa 0) ?_
  refine ob_i (hp.ld 0 rfl) ?_
  refine ob_i (vInt_lss _ _ _) ?_
  refine cnd_d (fun hg15 => ?_) (fun hg15 => ?_)
  · skip
    have ti := hg15
    refine jn_i (fun σ' H' => σ' 0 = p ∧ σ' 2 = q ∧ σ' 6 = (.int .i64 ((trS r c l ((i + 1) * c.toNat)).1)) ∧ σ' 7 = (.int .i64 ((trS r c l ((i + 1) * c.toNat)).2.1)) ∧ σ' 8 = (.int .i64 ((trS r c l ((i + 1) * c.toNat)).2.2.1)) ∧ σ' 9 = (.int .i64 ((trS r c l ((i + 1) * c.toNat)).2.2.2)) ∧ σ' 10 = (.int .i64 ((i : Int))) ∧ Cel H' q [(.int .i64 (0)), (.int .i64 (0)), (.slice none 0 0)] ∧ Le H H') (fun σ16 H16 hP => ?_) (fun J16 hJ16 => ?_)
    · skip
      obtain ⟨g0L16, g2L16, g6L16, g7L16, g8L16, g9L16, g10L16, oq, lE⟩ := hP
      have hp := hp0.le lE
      have hvc := hvc0.le lE
      simp only [g2L16, g10L16]
      refine ob_i (vInt_add (by omega) (by omega)) ?_
      exact nxt (r.toNat - (i + 1)) (by omega) ⟨i + 1, rfl, by omega, g0L16, g2L16, g6L16, g7L16, g8L16, g9L16, rfl, oq, lE⟩
    refine ⟨fun n' σ' H' => ∃ k : Nat, n' = c.toNat - k ∧ k ≤ c.toNat ∧ σ' 0 = p ∧ σ' 2 = q ∧ σ' 6 = (.int .i64 ((trS r c l (i * c.toNat + k)).1)) ∧ σ' 7 = (.int .i64 ((trS r c l (i * c.toNat + k)).2.1)) ∧ σ' 8 = (.int .i64 ((trS r c l (i * c.toNat + k)).2.2.1)) ∧ σ' 9 = (.int .i64 ((trS r c l (i * c.toNat + k)).2.2.2)) ∧ σ' 10 = (.int .i64 ((i : Int))) ∧ σ' 11 = (.int .i64 ((k : Int))) ∧ Cel H' q [(.int .i64 (0)), (.int .i64 (0)), (.slice none 0 0)] ∧ Le H H',
      ⟨_, 0, rfl, by omega, g0L14, g2L14, g6L14, g7L14, g8L14, g9L14, g10L14, rfl, oq, lE⟩, ?_⟩
    rintro n17 σ17 H17 ⟨k, rfl, hkN, g0L17, g2L17, g6L17, g7L17, g8L17, g9L17, g10L17, g11L17, oq, lE⟩
    have hp := hp0.le lE
    have hvc := hvc0.le lE
    simp only [g0L17, g2L17, g6L17, g7L17, g8L17, g9L17, g10L17, g11L17]
    refine ob_i (hp.nilC) ?_
    refine ob_i (hp.fa 1) ?_
    refine ob_i (hp.ld 1 rfl) ?_
    refine ob_i (vInt_lss _ _ _) ?_
    refine cnd_d (fun hg18 => ?_) (fun hg18 => ?_)
    · skip
      have tk := hg18
      have x1 := ix_lt (a := (i : Int)) (b := (k : Int)) (r := r) (c := c) (by omega) (by omega) (by omega) (by omega)
      have x4 := sidesF_mul hs
      refine ob_i (hp.nilC) ?_
      refine ob_i (hp.fa 2) ?_
      refine ob_i (hp.ld 2 rfl) ?_
      refine ob_i (hp.nilC) ?_
      refine ob_i (hp.fa 1) ?_
      refine ob_i (hp.ld 1 rfl) ?_
      refine ob_i (vInt_mul (by omega) (by omega)) ?_
      refine ob_i (vInt_add (by omega) (by omega)) ?_
      refine ob_i (hvc.ix (by omega) (by omega)) ?_
      refine ob_i (hvc.ld 0 (by omega) (by omega)) ?_
      refine ob_i (vInt_eql _ _ _) ?_
      refine cnd_d (fun hg19 => ?_) (fun hg19 => ?_)
      · skip
        refine C.spec_l00Min  ?_
        refine C.spec_l00Max  ?_
        refine C.spec_l00Min  ?_
        refine C.spec_l00Max  ?_
        refine ob_i (vInt_add (by omega) (by omega)) ?_
        have eT := trS_t2 (r := r) (c := c) (i := (i : Int)) (k := (k : Int)) (t := i * c.toNat + k) (by omega) (by omega) (by omega) (cast_ix (by omega)) hg19
        exact nxt (c.toNat - (k + 1)) (by omega) ⟨k + 1, rfl, by omega, g0L17, g2L17, (by rw [← Nat.add_assoc, eT]; rfl), (by rw [← Nat.add_assoc, eT]; rfl), (by rw [← Nat.add_assoc, eT]; rfl), (by rw [← Nat.add_assoc, eT]; rfl), g10L17, rfl, oq, lE⟩
      · skip
        refine ob_i (vInt_add (by omega) (by omega)) ?_
        have eT := trS_f2 (r := r) (c := c) (i := (i : Int)) (k := (k : Int)) (t := i * c.toNat + k) (cast_ix (by omega)) hg19
        exact nxt (c.toNat - (k + 1)) (by omega) ⟨k + 1, rfl, by omega, g0L17, g2L17, (by rw [← Nat.add_assoc, eT]; exact g6L17), (by rw [← Nat.add_assoc, eT]; exact g7L17), (by rw [← Nat.add_assoc, eT]; exact g8L17), (by rw [← Nat.add_assoc, eT]; exact g9L17), g10L17, rfl, oq, lE⟩
    · skip
      have tk := hg18
      exact hJ16 _ _ ⟨g0L17, g2L17, (by rw [← show i * c.toNat + k = (i + 1) * c.toNat by rw [Nat.add_mul, Nat.one_mul]; congr 1; omega]; exact g6L17), (by rw [← show i * c.toNat + k = (i + 1) * c.toNat by rw [Nat.add_mul, Nat.one_mul]; congr 1; omega]; exact g7L17), (by rw [← show i * c.toNat + k = (i + 1) * c.toNat by rw [Nat.add_mul, Nat.one_mul]; congr 1; omega]; exact g8L17), (by rw [← show i * c.toNat + k = (i + 1) * c.toNat by rw [Nat.add_mul, Nat.one_mul]; congr 1; omega]; exact g9L17), g10L17, oq, lE⟩
  · skip
    have ti := hg15
    exact hJ4 _ _ ⟨g0L14, g2L14, (by rw [← show i * c.toNat = (r * c).toNat by rw [Int.toNat_mul (by omega) (by omega)]; congr 1; omega]; exact g6L14), (by rw [← show i * c.toNat = (r * c).toNat by rw [Int.toNat_mul (by omega) (by omega)]; congr 1; omega]; exact g7L14), (by rw [← show i * c.toNat = (r * c).toNat by rw [Int.toNat_mul (by omega) (by omega)]; congr 1; omega]; exact g8L14), (by rw [← show i * c.toNat = (r * c).toNat by rw [Int.toNat_mul (by omega) (by omega)]; congr 1; omega]; exact g9L14), oq, lE⟩
theorem C.impl_Field_cut_1 {p q s vc : Value} {r c row col i k : Int} {l : List Int} {H : Hp} {K : Value → Hp → Prop} (hp0 : Cel H p [.int .i64 r, .int .i64 c, vc]) (hq0 : Cel H q [.int .i64 row]) (hs0 : Cel H s [.int .i64 col]) (hvc0 : Sl eI H vc l) (hs : sidesF r c) (hl : (l.length : Int) = r * c)
    (h0 : 0 ≤ row + i) (h1 : 0 ≤ col + k) (h2 : row + i < r) (h3 : col + k < c) (hk : ∀ H', Le H H' → K (.int .i64 (cutG c l row col i k)) H') : HT prg I.impl_Field_cut_1 [.int .i64 i, .int .i64 k, p, q, s].toArray H K := by
  unfold cutG at hk
  have hs' := hs
  have lE := Le.refl H
  have hp := hp0
  have hq := hq0
  have hsx := hs0
  have hvc := hvc0
  refine R.impl_Field_cut_1 ?_
  unfold F.impl_Field_cut_1
  have x1 := ix_lt (a := row + i) (b := col + k) (r := r) (c := c) (by omega) (by omega) (by omega) (by omega)
  have m := sidesF_mul hs
  have q1 := hs.1
  have q2 := hs.2
  refine ob_i (hp.ldn rfl) ?_
  refine ob_i (hq.ld0 rfl) ?_
  refine ob_i (vInt_add (by omega) (by omega)) ?_
  refine ob_i (hsx.ld0 rfl) ?_
  refine ob_i (vInt_add (by omega) (by omega)) ?_
  refine C.impl_Field_at hvc (by omega) (by omega) (by omega) (by omega) (by omega) (fun H1 le2 => ?_)
  replace hp := hp.le le2
  replace hq := hq.le le2
  replace hsx := hsx.le le2
  replace hvc := hvc.le le2
  replace lE := lE.trans le2
  rw [show (row + i) * c + (col + k) = (row + i) * c + col + k by omega]
  exact hk _ lE
theorem C.impl_Field_cut {vc : Value} {r c row col rows cols : Int} {l : List Int} {H : Hp} {K : Value → Hp → Prop} (hvc0 : Sl eI H vc l) (hs : sidesF r c) (hl : (l.length : Int) = r * c)
    (h0 : 0 ≤ row) (h1 : 0 ≤ col) (h2 : 1 ≤ rows) (h3 : 1 ≤ cols) (h4 : row + rows ≤ r) (h5 : col + cols ≤ c) (hk : ∀ u H', Own eI H' u (mkL cols (cutG c l row col) (rows.toNat * cols.toNat)) → Nw H u → Le H H' → K (.agg #[.int .i64 rows, .int .i64 cols, u]) H') :
    HT prg I.impl_Field_cut [.agg #[.int .i64 r, .int .i64 c, vc], .int .i64 row, .int .i64 col, .int .i64 rows, .int .i64 cols].toArray H K := by
  have lE := Le.refl H
  have hvc := hvc0
  refine R.impl_Field_cut ?_
  unfold F.impl_Field_cut
  have q1 := hs.1
  have q2 := hs.2
  refine nw_i (fun p1 H2 op1 nn3 le4 => ?_)
  have np1 : Nw H p1 := nn3.le lE
  replace hvc := hvc.le le4
  replace lE := lE.trans le4
  replace op1 : Cel H2 p1 [(.int .i64 (r)), (.int .i64 (c)), vc] := op1
  refine nw_i (fun p5 H6 op5 nn7 le8 => ?_)
  have ap1Xp5 : Apart p1 p5 := op1.apart nn7
  have np5 : Nw H p5 := nn7.le lE
  replace op1 := op1.le le8
  replace hvc := hvc.le le8
  replace lE := lE.trans le8
  replace op5 : Cel H6 p5 [(.int .i64 (row))] := op5
  refine nw_i (fun p9 H10 op9 nn11 le12 => ?_)
  have ap1Xp9 : Apart p1 p9 := op1.apart nn11
  have ap5Xp9 : Apart p5 p9 := op5.apart nn11
  have np9 : Nw H p9 := nn11.le lE
  replace op1 := op1.le le12
  replace op5 := op5.le le12
  replace hvc := hvc.le le12
  replace lE := lE.trans le12
  replace op9 : Cel H10 p9 [(.int .i64 (col))] := op9
  refine nw_i (fun p13 H14 op13 nn15 le16 => ?_)
  have ap1Xp13 : Apart p1 p13 := op1.apart nn15
  have ap5Xp13 : Apart p5 p13 := op5.apart nn15
  have ap9Xp13 : Apart p9 p13 := op9.apart nn15
  have np13 : Nw H p13 := nn15.le lE
  replace op1 := op1.le le16
  replace op5 := op5.le le16
  replace op9 := op9.le le16
  replace hvc := hvc.le le16
  replace lE := lE.trans le16
  replace op13 : Cel H14 p13 [(.int .i64 (0)), (.int .i64 (0)), (.slice none 0 0)] := op13
  refine C.impl_madeField (g := cutG c l row col) (by omega) (by omega) (by omega) (by omega) (fun H' i k Z le hi hk' hZ => ?_) (fun u17 H18 ou17 nn19 le20 => ?_)
  · refine ⟨by kernel_rfl, ?_⟩
    exact C.impl_Field_cut_1 (op1.le le) (op5.le le) (op9.le le) (hvc.le le) hs hl (by omega) (by omega) (by omega) (by omega) hZ
  have ap1Xu17 : Apart p1 u17 := op1.apart nn19
  have ap5Xu17 : Apart p5 u17 := op5.apart nn19
  have ap9Xu17 : Apart p9 u17 := op9.apart nn19
  have ap13Xu17 : Apart p13 u17 := op13.apart nn19
  have nu17 : Nw H u17 := nn19.le lE
  replace op1 := op1.le le20
  replace op5 := op5.le le20
  replace op9 := op9.le le20
  replace op13 := op13.le le20
  replace hvc := hvc.le le20
  replace lE := lE.trans le20
  refine op13.stn (ws := [(.int .i64 (rows)), (.int .i64 (cols)), u17]) rfl rfl (oc1 rfl (oc1 rfl (oc1 ou17.one oc0))) (fun H21 op13 off22 => ?_)
  replace op1 := op1.off off22 ap1Xp13
  replace op5 := op5.off off22 ap5Xp13
  replace op9 := op9.off off22 ap9Xp13
  replace ou17 := ou17.off off22 ap13Xu17.symm
  replace hvc := hvc0.le (off22.le lE np13)
  replace lE := off22.le lE np13
  replace op13 : Cel H21 p13 [(.int .i64 (rows)), (.int .i64 (cols)), u17] := op13
  refine ob_i (op13.ldn rfl) ?_
  exact hk u17 _ ou17 nu17 lE
theorem C.impl_Field_trimmed {vc : Value} {r c : Int} {l : List Int} {H : Hp} {K : Value → Hp → Prop} (hvc0 : Sl eI H vc l) (hs : sidesF r c) (hl : (l.length : Int) = r * c)
    (hk1 : (trm r c l).2.1 < 0 → ∀ H', Le H H' → K (.tuple #[.agg #[.int .i64 0, .int .i64 0, .slice none 0 0], .int .i64 0, .int .i64 0, .bool false]) H')
    (hk2 : 0 ≤ (trm r c l).2.1 → ∀ u H', Own eI H' u (trL r c l) → Nw H u → Le H H' → K (.tuple #[.agg #[.int .i64 (trR r c l), .int .i64 (trC r c l), u], .int .i64 (trm r c l).1, .int .i64 (trm r c l).2.2.1, .bool true]) H') :
    HT prg I.impl_Field_trimmed [.agg #[.int .i64 r, .int .i64 c, vc]].toArray H K := by
  have q1 := hs.1
  have q2 := hs.2
  have m := sidesF_mul hs
  change (trS r c l (r * c).toNat).2.1 < 0 → _ at hk1
  change 0 ≤ (trS r c l (r * c).toNat).2.1 → _ at hk2
  have lE := Le.refl H
  have hvc := hvc0
  refine R.impl_Field_trimmed ?_
  unfold F.impl_Field_trimmed
  refine nw_i (fun p H1 op nn2 le3 => ?_)
  have np : Nw H p := nn2.le lE
  replace hvc := hvc.le le3
  replace lE := lE.trans le3
  replace op : Cel H1 p [(.int .i64 (r)), (.int .i64 (c)), vc] := op
  refine nw_i (fun q H4 oq nn5 le6 => ?_)
  have apXq : Apart p q := op.apart nn5
  have nq : Nw H q := nn5.le lE
  replace op := op.le le6
  replace hvc := hvc.le le6
  replace lE := lE.trans le6
  replace oq : Cel H4 q [(.int .i64 (0)), (.int .i64 (0)), (.slice none 0 0)] := oq
  refine ob_i (op.fa 0) ?_
  refine ob_i (op.ld 0 rfl) ?_
  refine ob_i (op.fa 1) ?_
  refine ob_i (op.ld 1 rfl) ?_
  refine jn_i (fun σ' H' => σ' 1 = p ∧ σ' 2 = q ∧ σ' 6 = (.int .i64 ((trS r c l ((r * c).toNat)).1)) ∧ σ' 7 = (.int .i64 ((trS r c l ((r * c).toNat)).2.2.1)) ∧ σ' 8 = (.int .i64 ((trS r c l ((r * c).toNat)).2.1)) ∧ σ' 9 = (.int .i64 ((trS r c l ((r * c).toNat)).2.2.2)) ∧ Cel H' p [(.int .i64 (r)), (.int .i64 (c)), vc] ∧ Cel H' q [(.int .i64 (0)), (.int .i64 (0)), (.slice none 0 0)] ∧ Le H H') (fun σ7 H7 hP => ?_) (fun J7 hJ7 => ?_)
  · skip
    obtain ⟨g1L7, g2L7, g6L7, g7L7, g8L7, g9L7, op, oq, lE⟩ := hP
    have hvc := hvc0.le lE
    simp only [g1L7, g2L7, g6L7, g7L7, g8L7, g9L7]
    have b := trS_bnd (l := l) hs (r * c).toNat (by omega)
    have b2 := trS_ok (l := l) hs (r * c).toNat (by omega)
    refine ob_i (vInt_lss _ _ _) ?_
    refine cnd_d (fun hg8 => ?_) (fun hg8 => ?_)
    · skip
      refine ob_i (a := (.agg #[(.int .i64 (0)), (.int .i64 (0)), (.slice none 0 0)])) (by rfl) ?_
      refine oq.stn (ws := [(.int .i64 (0)), (.int .i64 (0)), (.slice none 0 0)]) rfl rfl (oc1 rfl (oc1 rfl (oc1 rfl oc0))) (fun H9 oq off10 => ?_)
      replace op := op.off off10 apXq
      replace hvc := hvc0.le (off10.le lE nq)
      replace lE := off10.le lE nq
      replace oq : Cel H9 q [(.int .i64 (0)), (.int .i64 (0)), (.slice none 0 0)] := oq
      refine ob_i (oq.ldn rfl) ?_
      exact hk1 (by omega) _ lE
    · skip
      refine ob_i (op.ldn rfl) ?_
      refine ob_i (vInt_sub (by omega) (by omega)) ?_
      refine ob_i (vInt_add (by omega) (by omega)) ?_
      refine ob_i (vInt_sub (by omega) (by omega)) ?_
      refine ob_i (vInt_add (by omega) (by omega)) ?_
      refine C.impl_Field_cut hvc hs hl (by omega) (by omega) (by omega) (by omega) (by omega) (by omega) (fun u13 H11 ou13 nn14  le12 => ?_)
      have apXu13 : Apart p u13 := op.apart nn14
      have aqXu13 : Apart q u13 := oq.apart nn14
      have nu13 : Nw H u13 := nn14.le lE
      replace op := op.le le12
      replace oq := oq.le le12
      replace hvc := hvc.le le12
      replace lE := lE.trans le12
      refine oq.stn (ws := [(.int .i64 ((((trS r c l ((r * c).toNat)).2.1) - ((trS r c l ((r * c).toNat)).1)) + 1)), (.int .i64 ((((trS r c l ((r * c).toNat)).2.2.2) - ((trS r c l ((r * c).toNat)).2.2.1)) + 1)), u13]) rfl rfl (oc1 rfl (oc1 rfl (oc1 ou13.one oc0))) (fun H15 oq off16 => ?_)
      replace op := op.off off16 apXq
      replace ou13 := ou13.off off16 aqXu13.symm
      replace hvc := hvc0.le (off16.le lE nq)
      replace lE := off16.le lE nq
      replace oq : Cel H15 q [(.int .i64 ((((trS r c l ((r * c).toNat)).2.1) - ((trS r c l ((r * c).toNat)).1)) + 1)), (.int .i64 ((((trS r c l ((r * c).toNat)).2.2.2) - ((trS r c l ((r * c).toNat)).2.2.1)) + 1)), u13] := oq
      refine ob_i (oq.ldn rfl) ?_
      exact hk2 (by omega) u13 _ ou13 nu13 lE
  refine ob_i (op.fa 2) ?_
  refine ob_i (op.ld 2 rfl) ?_
  refine ob_i (hvc.len) ?_
  refine ⟨fun n' σ' H' => ∃ t : Nat, n' = l.length - t ∧ t ≤ l.length ∧ σ' 1 = p ∧ σ' 2 = q ∧ σ' 6 = (.int .i64 ((trS r c l (t)).1)) ∧ σ' 7 = (.int .i64 ((trS r c l (t)).2.2.1)) ∧ σ' 8 = (.int .i64 ((trS r c l (t)).2.1)) ∧ σ' 9 = (.int .i64 ((trS r c l (t)).2.2.2)) ∧ σ' 19 = vc ∧ σ' 20 = (.int .i64 (((l).length : Int))) ∧ σ' 21 = (.int .i64 ((t : Int))) ∧ Cel H' p [(.int .i64 (r)), (.int .i64 (c)), vc] ∧ Cel H' q [(.int .i64 (0)), (.int .i64 (0)), (.slice none 0 0)] ∧ Le H H',
    ⟨_, 0, rfl, by omega, rfl, rfl, rfl, rfl, rfl, rfl, rfl, rfl, rfl, op, oq, lE⟩, ?_⟩
  rintro n17 σ17 H17 ⟨t, rfl, htN, g1L17, g2L17, g6L17, g7L17, g8L17, g9L17, g19L17, g20L17, g21L17, op, oq, lE⟩
  have hvc := hvc0.le lE
  simp only [g1L17, g2L17, g6L17, g7L17, g8L17, g9L17, g19L17, g20L17, g21L17]
  refine ob_i (vInt_lss _ _ _) ?_
  refine cnd_d (fun hg18 => ?_) (fun hg18 => ?_)
  · skip
    have tt := hg18
    refine ob_i (hvc.ix (by omega) (by omega)) ?_
    refine ob_i (hvc.ld 0 (by omega) (by omega)) ?_
    refine ob_i (vInt_eql _ _ _) ?_
    refine cnd_d (fun hg19 => ?_) (fun hg19 => ?_)
    · skip
      refine ob_i (op.fa 1) ?_
      refine ob_i (op.ld 1 rfl) ?_
      refine ob_i (vInt_quoN (by omega) (by omega) (by omega)) ?_
      refine ob_i (op.fa 1) ?_
      refine ob_i (op.ld 1 rfl) ?_
      refine ob_i (vInt_remN (by omega) (by omega)) ?_
      refine ob_i (vMx_min _ _ _) ?_
      refine ob_i (vMx_min _ _ _) ?_
      refine ob_i (vMx_max _ _ _) ?_
      refine ob_i (vMx_max _ _ _) ?_
      refine ob_i (vInt_add (by omega) (by omega)) ?_
      have eT := trS_t (r := r) (c := c) hg19
      exact nxt (l.length - (t + 1)) (by omega) ⟨t + 1, rfl, by omega, g1L17, g2L17, (by rw [eT]; rfl), (by rw [eT]; rfl), (by rw [eT]; rfl), (by rw [eT]; rfl), g19L17, g20L17, rfl, op, oq, lE⟩
    · skip
      refine ob_i (vInt_add (by omega) (by omega)) ?_
      have eT := trS_f (r := r) (c := c) hg19
      exact nxt (l.length - (t + 1)) (by omega) ⟨t + 1, rfl, by omega, g1L17, g2L17, (by rw [eT]; exact g6L17), (by rw [eT]; exact g7L17), (by rw [eT]; exact g8L17), (by rw [eT]; exact g9L17), g19L17, g20L17, rfl, op, oq, lE⟩
  · skip
    have tt := hg18
    exact hJ7 _ _ ⟨g1L17, g2L17, (by rw [← show t = (r * c).toNat by omega]; exact g6L17), (by rw [← show t = (r * c).toNat by omega]; exact g7L17), (by rw [← show t = (r * c).toNat by omega]; exact g8L17), (by rw [← show t = (r * c).toNat by omega]; exact g9L17), op, oq, lE⟩
end Go.Proofs.YtffmfkpobjdmmaaGreatDoor
/- Rules for contracts that are told once. -/
namespace Go.Proofs.YtffmfkpobjdmmaaGreatDoor.HL
theorem keq {K : Value → Hp → Prop} {v v' : Value} {H : Hp} (e : v = v') (h : K v' H) : K v H := e ▸ h
theorem Own.cast {α : Type} {enc : α → Value} {H : Hp} {v : Value} {l l' : List α} (e : l = l') (h : Own enc H v l) : Own enc H v l' := e ▸ h
theorem Sl.cast {α : Type} {enc : α → Value} {H : Hp} {v : Value} {l l' : List α} (e : l = l') (h : Sl enc H v l) : Sl enc H v l' := e ▸ h
/-- A slice that reads so, and whose block is known. -/
def Ro {α : Type} (enc : α → Value) (H : Hp) (v : Value) (l : List α) : Prop := Sl enc H v l ∧ ∀ b, bk v = some b → ∃ o, H b = some o
section
variable {α : Type} {enc : α → Value} {H H' : Hp} {u v : Value} {l l' : List α}
theorem Ro.sl (h : Ro enc H v l) : Sl enc H v l := h.1
theorem Ro.known (h : Ro enc H v l) : ∀ b, bk v = some b → ∃ o, H b = some o := h.2
theorem Ro.le (h : Ro enc H v l) (hl : Le H H') : Ro enc H' v l := ⟨h.1.le hl, fun b hb => by obtain ⟨o, ho⟩ := h.2 b hb; exact ⟨o, hl b o ho⟩⟩
theorem Sl.off (h : Sl enc H u l) (ho : Off v H H') (ha : Apart u v) : Sl enc H' u l := by
  obtain ⟨a, c, rfl, hc, hr⟩ := h
  refine ⟨a, c, rfl, hc, fun i hi => ?_⟩
  obtain ⟨ad, rfl, hh⟩ := hr i hi
  refine ⟨ad, rfl, ?_⟩
  have hb : (ad.add i).block = ad.block := by unfold Addr.add; split <;> rfl
  have hne : bk v ≠ some ad.block := ha ad.block (by simp only [bk]; rw [if_neg (by omega)])
  unfold Hp.cell? at hh ⊢
  rw [hb] at hh ⊢
  cases hc' : H ad.block with
  | none => simp [hc'] at hh
  | some o => rw [ho _ _ hc' hne]; rw [hc'] at hh; exact hh
theorem Ro.off (h : Ro enc H u l) (ho : Off v H H') (ha : Apart u v) : Ro enc H' u l := ⟨h.1.off ho ha, fun b hb => by obtain ⟨o, hh⟩ := h.2 b hb; exact ⟨o, ho b o hh (ha b hb)⟩⟩
theorem Ro.apart (h : Ro enc H u l) (hn : Nw H v) : Apart u v := Apart.of_nw h.2 hn
theorem Ro.cast (e : l = l') (h : Ro enc H v l) : Ro enc H v l' := e ▸ h
theorem Ro.len (h : Ro enc H v l) : vLenSl v = some (.int .i64 l.length) := h.1.len
theorem Ro.one (h : Ro enc H v l) : oneCell v = true := h.1.one
theorem Ro.cells (h : Ro enc H v l) : v.cells = #[v] := h.1.cells
theorem Ro.isSl (h : Ro enc H v l) : ∃ a n c, v = .slice a n c := h.1.isSl
theorem Own.ro (h : Own enc H v l) : Ro enc H v l := ⟨h.sl, h.known⟩
end
theorem gop_u {b : Bool} {F : (Value → Hp → Prop) → Prop} {H : Hp} {K : Value → Hp → Prop} (h : K undef H) : gop undef b F H K := h
theorem vUn_ngK {a : Int} (h : -9223372036854775808 ≤ -a) (h' : -a < 9223372036854775808) : vUn .neg (.int .i64 a) = some (.int .i64 (-a)) := by
  simp only [vUn, Int.zero_sub, wrap64 h h']
theorem gop_e {b c g : Bool} {F : (Value → Hp → Prop) → Prop} {H : Hp} {K : Value → Hp → Prop} (e : b = c) (h : gop (.bool c) g F H K) : gop (.bool b) g F H K := by rw [e]; exact h
theorem vPick_et {b : Bool} (e : b = true) (x y : Value) : vPick (.bool b) x y = some x := by rw [e]; rfl
theorem vPick_ef {b : Bool} (e : b = false) (x y : Value) : vPick (.bool b) x y = some y := by rw [e]; rfl
/-- A number, or 0 where something does not hold. -/
def selI (p : Prop) [Decidable p] (x : Int) : Int := if p then x else 0
/-- A list, or none where something does not hold. -/
def selL {α : Type} (p : Prop) [Decidable p] (l : List α) : List α := if p then l else []
theorem selI_t {p : Prop} [Decidable p] {x : Int} (h : p) : selI p x = x := if_pos h
theorem selI_f {p : Prop} [Decidable p] {x : Int} (h : ¬ p) : selI p x = 0 := if_neg h
theorem selL_t {α : Type} {p : Prop} [Decidable p] {l : List α} (h : p) : selL p l = l := if_pos h
theorem selL_f {α : Type} {p : Prop} [Decidable p] {l : List α} (h : ¬ p) : selL p l = [] := if_neg h
theorem selL_len {α : Type} {p : Prop} [Decidable p] {l : List α} {n : Nat} (h : p → l.length ≤ n) : (selL p l).length ≤ n := by
  unfold selL
  split
  · rename_i hp; exact h hp
  · simp
end Go.Proofs.YtffmfkpobjdmmaaGreatDoor.HL
/- Life on fields: what a step and many steps come to. -/
namespace Go.Proofs.YtffmfkpobjdmmaaGreatDoor
open HL
set_option maxRecDepth 100000
/-- Numbers that rise, the first n of them. -/
def cntU (l : List Int) (n : Nat) : Prop := ∀ j : Nat, j < n → 0 < j → at_ 0 l ((j : Int) - 1) < at_ 0 l (j : Int)
def cntV (l : List Int) (n : Nat) : Prop := ∀ j : Nat, j < n → 0 ≤ at_ 0 l (j : Int) ∧ at_ 0 l (j : Int) ≤ 8
/-- Counts of neighbours. -/
def cntP (l : List Int) : Prop := (∀ x ∈ l, 0 ≤ x ∧ x ≤ 8) ∧ cntU l l.length
instance (l : List Int) (n : Nat) : Decidable (cntU l n) := by unfold cntU; infer_instance
instance (l : List Int) : Decidable (cntP l) := by unfold cntP; infer_instance
theorem cntU_zero (l : List Int) : cntU l 0 := fun j h => by omega
theorem cntU_one (l : List Int) : cntU l 1 := fun j h h0 => by omega
theorem cntV_zero (l : List Int) : cntV l 0 := fun j h => by omega
theorem cntU_succ {l : List Int} {n : Nat} (h : cntU l n) (h1 : 0 < n → at_ 0 l ((n : Int) - 1) < at_ 0 l (n : Int)) : cntU l (n + 1) := fun j hj h0 => by
  by_cases e : j = n
  · subst e; exact h1 h0
  · exact h j (by omega) h0
theorem cntV_succ {l : List Int} {n : Nat} (h : cntV l n) (h1 : 0 ≤ at_ 0 l (n : Int) ∧ at_ 0 l (n : Int) ≤ 8) : cntV l (n + 1) := fun j hj => by
  by_cases e : j = n
  · subst e; exact h1
  · exact h j (by omega)
theorem cntV_all {l : List Int} {n : Nat} (h : cntV l n) (hn : l.length ≤ n) : ∀ x ∈ l, 0 ≤ x ∧ x ≤ 8 := fun x hx => by
  obtain ⟨j, hj, rfl⟩ := List.mem_iff_getElem.mp hx
  have := h j (by omega)
  rw [at_eq 0 l hj] at this
  exact this
theorem cntP_in {l : List Int} (h : cntP l) {j : Nat} (hj : j < l.length) : 0 ≤ at_ 0 l (j : Int) ∧ at_ 0 l (j : Int) ≤ 8 := h.1 _ (at_mem 0 l (by omega) (by omega))
theorem cntP_up {l : List Int} (h : cntP l) {j : Nat} (hj : j < l.length) (h0 : 0 < j) : at_ 0 l ((j : Int) - 1) < at_ 0 l (j : Int) := h.2 j hj h0
theorem cntU_full {l : List Int} {n : Nat} (h : cntU l n) (hn : l.length ≤ n) : cntU l l.length := fun j hj h0 => h j (by omega) h0
/-- Is a life valid? -/
def lifP (b s : List Int) : Prop := cntP b ∧ cntP s
instance (b s : List Int) : Decidable (lifP b s) := by unfold lifP; infer_instance
/-- Can a field live? -/
def canP (b s : List Int) (r c : Int) (l : List Int) : Prop := lifP b s ∧ fieldN 1 r c l
instance (b s : List Int) (r c : Int) (l : List Int) : Decidable (canP b s r c l) := by unfold canP; infer_instance
def sumF (f : Int → Int) : Nat → Int
  | 0 => 0
  | n + 1 => sumF f n + f n
theorem sumF_zero (f : Int → Int) : sumF f 0 = 0 := rfl
theorem sumF_succ (f : Int → Int) (n : Nat) : sumF f (n + 1) = sumF f n + f n := rfl
theorem sumF_3 (f : Int → Int) : sumF f 3 = f 0 + f 1 + f 2 := by
  show 0 + f ((0 : Nat) : Int) + f ((1 : Nat) : Int) + f ((2 : Nat) : Int) = _
  simp
theorem sumF_bnd {f : Int → Int} {a b : Int} (h : ∀ i, a ≤ f i ∧ f i ≤ b) : ∀ n : Nat, (n : Int) * a ≤ sumF f n ∧ sumF f n ≤ (n : Int) * b
  | 0 => by simp [sumF]
  | n + 1 => by
    have h1 := sumF_bnd h n
    have h2 := h n
    simp only [sumF, Int.natCast_add, Int.add_mul]
    omega
/-- A cell, round and round, or 0 beyond the border. -/
def lkF (rnd : Bool) (r c : Int) (l : List Int) (i k : Int) : Int := if rnd then at_ 0 l (roundF r c i k) else flatF r c l i k
/-- The same, but 0 for one cell. -/
def skF (rnd : Bool) (r c : Int) (l : List Int) (i k a b : Int) : Int := if a = i ∧ b = k then 0 else lkF rnd r c l a b
/-- The neighbours of a cell that are 1. -/
def arF (rnd : Bool) (r c : Int) (l : List Int) (i k : Int) : Int := sumF (fun a => sumF (fun b => skF rnd r c l i k (i - 1 + a) (k - 1 + b)) 3) 3
theorem roundF_in {r c i k : Int} (h1 : 0 ≤ i) (h2 : i < r) (h3 : 0 ≤ k) (h4 : k < c) : roundF r c i k = i * c + k := by
  unfold roundF
  rw [Int.emod_eq_of_lt h1 h2, Int.emod_eq_of_lt h3 h4]
theorem lkF_in {rnd : Bool} {r c i k : Int} {l : List Int} (h1 : 0 ≤ i) (h2 : i < r) (h3 : 0 ≤ k) (h4 : k < c) : lkF rnd r c l i k = at_ 0 l (i * c + k) := by
  unfold lkF
  rw [roundF_in h1 h2 h3 h4]
  split
  · rfl
  · unfold flatF; rw [if_pos (by omega)]
theorem lkF_01 {rnd : Bool} {r c : Int} {l : List Int} (h : fieldN 1 r c l) (i k : Int) : 0 ≤ lkF rnd r c l i k ∧ lkF rnd r c l i k ≤ 1 := by
  unfold lkF
  split
  · have b := roundF_lt (i := i) (k := k) h.1
    exact fieldN_at h (by omega) (by omega)
  · unfold flatF
    split
    · rename_i h1
      have b := ix_lt (a := i) (b := k) (r := r) (c := c) (by omega) (by omega) (by omega) (by omega)
      exact fieldN_at h (by omega) (by omega)
    · omega
theorem skF_01 {rnd : Bool} {r c : Int} {l : List Int} (h : fieldN 1 r c l) (i k a b : Int) : 0 ≤ skF rnd r c l i k a b ∧ skF rnd r c l i k a b ≤ 1 := by
  unfold skF
  split
  · omega
  · exact lkF_01 h a b
theorem skF_eq {rnd : Bool} {r c : Int} {l : List Int} {i k a b : Int} : skF rnd r c l i k a b = if a = i ∧ b = k then 0 else if rnd = true ∨ ((0 ≤ a ∧ a ≤ r - 1) ∧ 0 ≤ b ∧ b ≤ c - 1) then at_ 0 l (roundF r c a b) else 0 := by
  unfold skF lkF flatF
  split
  · rfl
  · cases rnd with
    | true => simp
    | false =>
      simp only [Bool.false_eq_true, if_false, false_or]
      split
      · rename_i h; rw [roundF_in (by omega) (by omega) (by omega) (by omega)]
      · rfl
theorem arF_eq {rnd : Bool} {r c : Int} {l : List Int} {i k : Int} (h1 : 0 ≤ i) (h2 : i < r) (h3 : 0 ≤ k) (h4 : k < c) :
    -at_ 0 l (i * c + k) + sumF (fun a => sumF (fun b => lkF rnd r c l (i - 1 + a) (k - 1 + b)) 3) 3 = arF rnd r c l i k := by
  have e := lkF_in (rnd := rnd) (l := l) h1 h2 h3 h4
  unfold arF
  simp only [sumF_3, skF]
  rw [if_neg (by omega), if_neg (by omega), if_neg (by omega), if_neg (by omega), if_pos (by omega), if_neg (by omega), if_neg (by omega), if_neg (by omega), if_neg (by omega)]
  rw [show i - 1 + 1 = i by omega, show k - 1 + 1 = k by omega, e]
  omega
/-- What a cell becomes. -/
def nxG (rnd : Bool) (b s : List Int) (r c : Int) (l : List Int) (i k : Int) : Int :=
  if at_ 0 l (i * c + k) = 0 then (if arF rnd r c l i k ∈ b then 1 else 0) else (if arF rnd r c l i k ∈ s then 1 else 0)
section
variable {rnd : Bool} {b s : List Int} {r c i k : Int} {l : List Int}
theorem nx_b1 (h : at_ 0 l (i * c + k) = 0) (h2 : arF rnd r c l i k ∈ b) : nxG rnd b s r c l i k = 1 := by unfold nxG; rw [if_pos h, if_pos h2]
theorem nx_b0 (h : at_ 0 l (i * c + k) = 0) (h2 : arF rnd r c l i k ∉ b) : nxG rnd b s r c l i k = 0 := by unfold nxG; rw [if_pos h, if_neg h2]
theorem nx_s1 (h : at_ 0 l (i * c + k) = 1) (h2 : arF rnd r c l i k ∈ s) : nxG rnd b s r c l i k = 1 := by unfold nxG; rw [if_neg (by omega), if_pos h2]
theorem nx_s0 (h : at_ 0 l (i * c + k) = 1) (h2 : arF rnd r c l i k ∉ s) : nxG rnd b s r c l i k = 0 := by unfold nxG; rw [if_neg (by omega), if_neg h2]
end
/-- The next field. -/
def nxL (rnd : Bool) (b s : List Int) (r c : Int) (l : List Int) : List Int := mkL c (nxG rnd b s r c l) (r.toNat * c.toNat)
theorem nxG_01 (rnd : Bool) (b s : List Int) (r c : Int) (l : List Int) (i k : Int) : 0 ≤ nxG rnd b s r c l i k ∧ nxG rnd b s r c l i k ≤ 1 := by
  unfold nxG
  split <;> split <;> omega
theorem mkL_len' {c : Int} {g : Int → Int → Int} {rr cc : Int} (h1 : 0 ≤ rr) (h2 : 0 ≤ cc) : ((mkL c g (rr.toNat * cc.toNat)).length : Int) = rr * cc := by
  rw [mkL_length, Int.natCast_mul, Int.toNat_of_nonneg h1, Int.toNat_of_nonneg h2]
theorem mkL_field {n r c : Int} {g : Int → Int → Int} (h : sidesF r c) (hg : ∀ i k, 0 ≤ g i k ∧ g i k ≤ n) : fieldN n r c (mkL c g (r.toNat * c.toNat)) := by
  have q1 := h.1
  have q2 := h.2
  refine ⟨h, mkL_len' (by omega) (by omega), fun x hx => ?_⟩
  simp only [mkL, List.mem_map] at hx
  obtain ⟨j, _, rfl⟩ := hx
  exact hg _ _
theorem nxL_field {rnd : Bool} {b s : List Int} {r c : Int} {l : List Int} (h : sidesF r c) : fieldN 1 r c (nxL rnd b s r c l) := mkL_field h (nxG_01 rnd b s r c l)
/-- The field behind steps. -/
def rnL (rnd : Bool) (b s : List Int) (r c : Int) (l : List Int) : Nat → List Int
  | 0 => l
  | n + 1 => nxL rnd b s r c (rnL rnd b s r c l n)
theorem rnL_field {rnd : Bool} {b s : List Int} {r c : Int} {l : List Int} (h : fieldN 1 r c l) : ∀ n, fieldN 1 r c (rnL rnd b s r c l n)
  | 0 => h
  | _ + 1 => nxL_field h.1
theorem fillL_skip {c : Int} {g : Int → Int → Int} {N : Nat} {i k : Int} {t : Nat} (hc : 0 < c) (k0 : 0 ≤ k) (k1 : k < c) (ht : (t : Int) = i * c + k) (h : g i k = 0) : fillL c g N t = fillL c g N (t + 1) := by
  have hd := divmod (c := c) (i := i) (k := k) hc k0 k1
  unfold fillL
  apply List.map_congr_left
  intro j _
  by_cases e : j = t
  · subst e
    rw [if_neg (by omega), if_pos (by omega), ht, hd.1, hd.2, h]
  · by_cases h1 : j < t
    · rw [if_pos h1, if_pos (by omega)]
    · rw [if_neg h1, if_neg (by omega)]
theorem notin_succ {x : Int} {l : List Int} {i : Nat} (h : x ∉ l.take i) (hi : i < l.length) (hne : ¬ at_ 0 l (i : Int) = x) : x ∉ l.take (i + 1) := by
  rw [take_at 0 l hi]
  intro hh
  rcases List.mem_append.mp hh with hh | hh
  · exact h hh
  · simp only [List.mem_singleton] at hh; exact hne hh.symm
/-- Where a number stands first, or -1. -/
def idxL (x : Int) (l : List Int) : Int := if x ∈ l then (l.findIdx (· == x) : Nat) else -1
theorem idxL_not {x : Int} {l : List Int} (h : x ∉ l) : idxL x l = -1 := if_neg h
theorem idxL_mem {x : Int} {l : List Int} : 0 ≤ idxL x l ↔ x ∈ l := by
  unfold idxL
  split
  · rename_i h; simp [h]
  · rename_i h; simp [h]
theorem idxL_at {x : Int} {l : List Int} {i : Nat} (h : x ∉ l.take i) (hi : i < l.length) (he : at_ 0 l (i : Int) = x) : idxL x l = (i : Int) := by
  rw [at_eq 0 l hi] at he
  unfold idxL
  rw [if_pos (he ▸ List.getElem_mem hi)]
  congr 1
  rw [List.findIdx_eq hi]
  refine ⟨by simp [he], fun j hj => ?_⟩
  simp only [beq_eq_false_iff_ne, ne_eq]
  intro hh
  exact h (List.mem_iff_getElem.mpr ⟨j, by simp; omega, by simp [hh]⟩)
/-- How many cells have a state. -/
def cntE (v : Int) (l : List Int) : Int := l.countP (· == v)
end Go.Proofs.YtffmfkpobjdmmaaGreatDoor
/- What is found first; counts ahead; shifted fields. -/
namespace Go.Proofs.YtffmfkpobjdmmaaGreatDoor
open HL
/-- The first number below N of which something holds, or -1. -/
def fstN (p : Nat → Prop) [DecidablePred p] : Nat → Int
  | 0 => -1
  | n + 1 => if 0 ≤ fstN p n then fstN p n else if p n then (n : Int) else -1
/-- A shifted field. -/
def shG (r c : Int) (l : List Int) (a b i k : Int) : Int := at_ 0 l (roundF r c (i - a) (k - b))
def shL (r c : Int) (l : List Int) (a b : Int) : List Int := mkL c (shG r c l a b) (r.toNat * c.toNat)
/-- A place of a shift: steps, rows and columns in one number. -/
def mvP (b s : List Int) (r c : Int) (l : List Int) (t : Nat) : Prop :=
  cntE 1 (rnL true b s r c l (t / c.toNat / r.toNat + 1)) = cntE 1 l ∧ rnL true b s r c l (t / c.toNat / r.toNat + 1) = shL r c l ((t / c.toNat % r.toNat : Nat) : Int) ((t % c.toNat : Nat) : Int)
instance (b s : List Int) (r c : Int) (l : List Int) : DecidablePred (mvP b s r c l) := fun t => by unfold mvP; infer_instance
/-- Where a field is shifted first, steps, rows and columns in one number. -/
def mvF (b s : List Int) (r c : Int) (l : List Int) (st : Int) : Int := fstN (mvP b s r c l) (st.toNat * r.toNat * c.toNat)
def mvOk (b s : List Int) (r c : Int) (l : List Int) (st : Int) : Prop := canP b s r c l ∧ (1 ≤ st ∧ st ≤ 512) ∧ 0 ≤ mvF b s r c l st
instance (b s : List Int) (r c : Int) (l : List Int) (st : Int) : Decidable (mvOk b s r c l st) := by unfold mvOk; infer_instance
section
variable {b s : List Int} {r c st : Int} {l : List Int} {n i k : Nat}
end
/-- A plain square of 4, 8 or 16 rows. -/
def sqP (r c : Int) (l : List Int) : Prop := fieldN 1 r c l ∧ r = c ∧ (r = 4 ∨ r = 8 ∨ r = 16)
instance (r c : Int) (l : List Int) : Decidable (sqP r c l) := by unfold sqP; infer_instance
def inP (b s : List Int) (r c : Int) (l : List Int) : Prop := lifP b s ∧ sqP r c l
instance (b s : List Int) (r c : Int) (l : List Int) : Decidable (inP b s r c l) := by unfold inP; infer_instance
end Go.Proofs.YtffmfkpobjdmmaaGreatDoor
/- Digits of numbers, and all plain fields of few cells. -/
namespace Go.Proofs.YtffmfkpobjdmmaaGreatDoor
open HL
theorem HL.Cel.cast {H : Hp} {p : Value} {cs cs' : List Value} (e : cs = cs') (h : Cel H p cs) : Cel H p cs' := e ▸ h
/-- A power of 2. -/
def pw (n : Int) : Nat := 2 ^ n.toNat
/-- The digits of a number, the greatest one first; and the last t of them. -/
def dgL (b x : Int) (N : Nat) : List Int := (List.range N).map fun j => x / b ^ (N - 1 - j) % b
/-- Few cells. -/
def smP (r c : Int) : Prop := sidesF r c ∧ r * c ≤ 12
instance (r c : Int) : Decidable (smP r c) := by unfold smP; infer_instance
def stillP (b s : List Int) (r c : Int) (t : Nat) : Prop := nxL false b s r c (dgL 2 t (r * c).toNat) = dgL 2 t (r * c).toNat
instance (b s : List Int) (r c : Int) : DecidablePred (stillP b s r c) := fun t => by unfold stillP; infer_instance
def befP (b s : List Int) (r c : Int) (l : List Int) (t : Nat) : Prop := nxL false b s r c (dgL 2 t (r * c).toNat) = l
instance (b s : List Int) (r c : Int) (l : List Int) : DecidablePred (befP b s r c l) := fun t => by unfold befP; infer_instance
def stlP (b s : List Int) (r c : Int) : Prop := lifP b s ∧ smP r c
instance (b s : List Int) (r c : Int) : Decidable (stlP b s r c) := by unfold stlP; infer_instance
def cbfP (b s : List Int) (r c : Int) (l : List Int) : Prop := canP b s r c l ∧ smP r c
instance (b s : List Int) (r c : Int) (l : List Int) : Decidable (cbfP b s r c l) := by unfold cbfP; infer_instance
/-- The first field that leads to one. -/
def fbF (b s : List Int) (r c : Int) (l : List Int) : Int := fstN (befP b s r c l) (pw (r * c))
def fbP (b s : List Int) (r c : Int) (l : List Int) : Prop := cbfP b s r c l ∧ 0 ≤ fbF b s r c l
instance (b s : List Int) (r c : Int) (l : List Int) : Decidable (fbP b s r c l) := by unfold fbP; infer_instance
end Go.Proofs.YtffmfkpobjdmmaaGreatDoor
/- Two fields put together: the program's and the reference's. -/
namespace Go.Proofs.YtffmfkpobjdmmaaGreatDoor
open HL
set_option maxRecDepth 100000
theorem mkL_len {c : Int} {g : Int → Int → Int} {rr cc : Int} (h1 : 0 ≤ rr) (h2 : 0 ≤ cc) : ((mkL c g (rr.toNat * cc.toNat)).length : Int) = rr * cc := by
  rw [mkL_length, Int.natCast_mul, Int.toNat_of_nonneg h1, Int.toNat_of_nonneg h2]
def metO (ra ca rb cb row col : Int) : Prop := (0 ≤ row ∧ row ≤ 24) ∧ (0 ≤ col ∧ col ≤ 24) ∧ (1 ≤ max ra (row + rb) ∧ max ra (row + rb) ≤ 24) ∧ (1 ≤ max ca (col + cb) ∧ max ca (col + cb) ≤ 24)
def metOk (ra ca : Int) (la : List Int) (rb cb : Int) (lb : List Int) (row col : Int) : Prop := fieldN 1 ra ca la ∧ fieldN 1 rb cb lb ∧ metO ra ca rb cb row col
instance (ra ca rb cb row col : Int) : Decidable (metO ra ca rb cb row col) := by unfold metO; infer_instance
instance (ra ca : Int) (la : List Int) (rb cb : Int) (lb : List Int) (row col : Int) : Decidable (metOk ra ca la rb cb lb row col) := by unfold metOk; infer_instance
end Go.Proofs.YtffmfkpobjdmmaaGreatDoor
/- Patterns that come again elsewhere. -/
namespace Go.Proofs.YtffmfkpobjdmmaaGreatDoor
open HL
set_option maxRecDepth 100000
/-- A cell of 1 on the border. -/
def bdC (r c : Int) (l : List Int) (j : Nat) : Prop := at_ 0 l (j : Int) = 1 ∧ ((j : Int) / c = 0 ∨ (j : Int) % c = 0 ∨ (j : Int) / c = r - 1 ∨ (j : Int) % c = c - 1)
instance (r c : Int) (l : List Int) (j : Nat) : Decidable (bdC r c l j) := by unfold bdC; infer_instance
def bdU (r c : Int) (l : List Int) (n : Nat) : Prop := ∀ j, j < n → ¬ bdC r c l j
instance (r c : Int) (l : List Int) (n : Nat) : Decidable (bdU r c l n) := by unfold bdU; infer_instance
/-- Is a cell on the border 1? -/
def brdP (r c : Int) (l : List Int) : Prop := ¬ bdU r c l (r * c).toNat
instance (r c : Int) (l : List Int) : Decidable (brdP r c l) := by unfold brdP; infer_instance
section
variable {r c : Int} {l : List Int}
end
def shp0 (r c : Int) (l : List Int) : List Int := mkL 24 (fun x y => flatF r c l (x - (24 - r) / 2) (y - (24 - c) / 2)) ((24 : Int).toNat * (24 : Int).toNat)
/-- Is a field's smallest part that of another one? -/
def matP (l m : List Int) : Prop := 0 ≤ (trm 24 24 m).2.1 ∧ trR 24 24 m = trR 24 24 l ∧ trC 24 24 m = trC 24 24 l ∧ trL 24 24 m = trL 24 24 l
instance (l m : List Int) : Decidable (matP l m) := by unfold matP; infer_instance
def shpS (b s : List Int) (r c : Int) (l : List Int) (n : Nat) : List Int := rnL false b s 24 24 (shp0 r c l) n
def shpE (b s : List Int) (r c : Int) (l : List Int) (t : Nat) : Prop := brdP 24 24 (shpS b s r c l (t + 1)) ∨ matP (shp0 r c l) (shpS b s r c l (t + 1))
instance (b s : List Int) (r c : Int) (l : List Int) : DecidablePred (shpE b s r c l) := fun t => by unfold shpE; infer_instance
def shpF (b s : List Int) (r c : Int) (l : List Int) (st : Int) : Int := fstN (shpE b s r c l) st.toNat
def shpT (b s : List Int) (r c : Int) (l : List Int) (st : Int) : List Int := shpS b s r c l ((shpF b s r c l st).toNat + 1)
def shpOk (b s : List Int) (r c : Int) (l : List Int) (st : Int) : Prop := canP b s r c l ∧ (1 ≤ st ∧ st ≤ 64) ∧ 0 ≤ (trm 24 24 (shp0 r c l)).2.1 ∧ ¬ brdP 24 24 (shp0 r c l) ∧ 0 ≤ shpF b s r c l st ∧ ¬ brdP 24 24 (shpT b s r c l st)
instance (b s : List Int) (r c : Int) (l : List Int) (st : Int) : Decidable (shpOk b s r c l st) := by unfold shpOk; infer_instance
section
variable {b s : List Int} {r c st : Int} {l : List Int} {t : Nat}
end
end Go.Proofs.YtffmfkpobjdmmaaGreatDoor
/- Numbers with a point: NaNs, what is the same, and single numbers told as double ones. -/
namespace Go.Proofs.YtffmfkpobjdmmaaGreatDoor.HL
open Ieee
set_option maxRecDepth 100000
def nanB (k : FloatKind) (x : Nat) : Bool := (k.format.read x).isNaN
theorem read_hi {f : Format} {w : Nat} (h0 : f.binade ≤ f.infRung) (h : f.infRung < w % f.signWeight) : (f.read w).isNaN = true := by
  unfold Format.read
  simp only
  rw [if_neg (by omega), if_neg (by omega), if_neg (by omega)]
  rfl
theorem single_inf : single.infRung = 2139095040 := by decide
theorem single_sw : single.signWeight = 2147483648 := by decide
theorem hi_mod {s r m : Nat} (h : r < m) : (s * m + r) % m = r := by rw [Nat.add_comm, Nat.add_mul_mod_self_right, Nat.mod_eq_of_lt h]
theorem hi32 (t : Nat) : 2139095040 < (t % 2 * 2147483648 + 2139095040 + 1 + t / 2 % 8388607) % 2147483648 := by
  rw [show t % 2 * 2147483648 + 2139095040 + 1 + t / 2 % 8388607 = t % 2 * 2147483648 + (2139095041 + t / 2 % 8388607) by omega, hi_mod (by omega)]; omega
theorem nan_bits32 (a b t : Nat) : nanB .f32 ((Question.nanBits .f32 a b).cut t) = true := by
  refine read_hi (f := single) (by decide) ?_
  rw [single_inf, single_sw]
  exact hi32 t
theorem order_nan {k : FloatKind} {x y : Nat} (h : nanB k x = true) : k.format.order x y = none := by
  unfold nanB at h
  unfold Format.order
  cases hd : k.format.read x <;> simp only [hd, Datum.isNaN] at h
  · simp at h
  · simp at h
  · cases k.format.read y <;> rfl
/-- What an operation with an outcome, or none, hands back. -/
def FR (k : FloatKind) (o : Option Nat) (x : Nat) : Prop := match o with | some r => x = r | none => nanB k x = true
theorem fA_i {op : BinOp} {k : FloatKind} {x y : Nat} {o : Option Nat} {H : Hp} {K : Value → Hp → Prop} (h : fRes op k x y = some o) (hn : ∀ t, nanB k ((Question.nanBits k x y).cut t) = true) (hk : ∀ z, FR k o z → K (.float k z) H) : fA op (.float k x) (.float k y) H K := by
  refine ⟨rfl, ?_⟩
  rw [h]
  cases o with
  | some r => exact hk r rfl
  | none => exact fun t => hk _ (hn t)
end Go.Proofs.YtffmfkpobjdmmaaGreatDoor.HL
namespace Go.Proofs.YtffmfkpobjdmmaaGreatDoor
open HL
set_option maxRecDepth 100000
end Go.Proofs.YtffmfkpobjdmmaaGreatDoor
/- Numbers compared, shares, seeds. -/
namespace Go.Proofs.YtffmfkpobjdmmaaGreatDoor
open HL
set_option maxRecDepth 100000
def HL.fLt (x y : Nat) : Bool := FloatKind.f32.format.order x y == some .lt
theorem HL.vF_lss (x y : Nat) : vFcmp .lss (.float .f32 x) (.float .f32 y) = some (.bool (fLt x y)) := by simp [vFcmp, fLt]
def HL.fLe (x y : Nat) : Bool := FloatKind.f32.format.order x y == some .lt || FloatKind.f32.format.order x y == some .eq
theorem HL.vF_leq (x y : Nat) : vFcmp .leq (.float .f32 x) (.float .f32 y) = some (.bool (fLe x y)) := by simp [vFcmp, fLe]
def HL.fGe (x y : Nat) : Bool := FloatKind.f32.format.order x y == some .gt || FloatKind.f32.format.order x y == some .eq
theorem HL.vF_geq (x y : Nat) : vFcmp .geq (.float .f32 x) (.float .f32 y) = some (.bool (fGe x y)) := by simp [vFcmp, fGe]
/-- A share: from 0 to 1. -/
def shrP (x : Nat) : Prop := fGe x 0 = true ∧ fLe x 1065353216 = true
instance (x : Nat) : Decidable (shrP x) := by unfold shrP; infer_instance
/-- Less, where one side may be no number. -/
def fLtO (o : Option Nat) (y : Nat) : Bool := match o with | some r => fLt r y | none => false
theorem fLtO_of {o : Option Nat} {z y : Nat} (h : FR .f32 o z) : fLt z y = fLtO o y := by
  cases o with
  | some r => simp only [FR] at h; subst h; rfl
  | none =>
    simp only [FR] at h
    unfold fLtO fLt
    rw [order_nan h]; rfl
/-- The next seed, and the one behind some draws. -/
def nxS (x : Int) : Int := (1664525 * x + 1013904223) % 4294967296
def sdS (x : Int) : Nat → Int
  | 0 => x
  | n + 1 => nxS (sdS x n)
theorem sdS_bnd {x : Int} (h0 : 0 ≤ x) (h1 : x ≤ 4294967295) : ∀ n, 0 ≤ sdS x n ∧ sdS x n ≤ 4294967295
  | 0 => ⟨h0, h1⟩
  | n + 1 => by simp only [sdS, nxS]; omega
def shB (x : Int) (sh : Nat) : Bool := fLtO (FloatKind.f32.format.div (FloatKind.f32.nearest (x / 256)) 1266679808) sh
end Go.Proofs.YtffmfkpobjdmmaaGreatDoor
/- Fields that are drawn. -/
namespace Go.Proofs.YtffmfkpobjdmmaaGreatDoor
open HL
set_option maxRecDepth 100000
def drG (c x : Int) (sh : Nat) (i k : Int) : Int := if shB (sdS x ((i * c + k).toNat + 1)) sh = true then 1 else 0
def drL (r c x : Int) (sh : Nat) : List Int := mkL c (drG c x sh) (r.toNat * c.toNat)
def drP (r c x : Int) (sh : Nat) : Prop := sidesF r c ∧ shrP sh ∧ 0 ≤ x ∧ x ≤ 4294967295
instance (r c x : Int) (sh : Nat) : Decidable (drP r c x sh) := by unfold drP; infer_instance
theorem drL_field {r c x : Int} {sh : Nat} (h : sidesF r c) : fieldN 1 r c (drL r c x sh) := mkL_field h (fun i k => by unfold drG; split <;> omega)
theorem dr_ix {c x : Int} {sh : Nat} {t : Nat} (hc : 0 < c) : drG c x sh ((t : Int) / c) ((t : Int) % c) = if shB (sdS x (t + 1)) sh = true then 1 else 0 := by
  unfold drG
  have h : ((t : Int) / c * c + (t : Int) % c).toNat = t := by
    have := Int.mul_ediv_add_emod (t : Int) c
    rw [Int.mul_comm] at this; omega
  rw [h]
theorem fillL_set1 {c : Int} {g : Int → Int → Int} {N t : Nat} : (fillL c g N t).set t (g ((t : Int) / c) ((t : Int) % c)) = fillL c g N (t + 1) := by
  apply List.ext_getElem?
  intro j
  rw [List.getElem?_set]
  simp only [fillL, List.getElem?_map, List.length_map, List.length_range]
  by_cases hj : j < N
  · rw [List.getElem?_range hj]
    simp only [Option.map_some]
    by_cases e : t = j
    · subst e; rw [if_pos rfl, if_pos hj, if_pos (by omega)]
    · rw [if_neg e]
      by_cases h1 : j < t
      · rw [if_pos h1, if_pos (by omega)]
      · rw [if_neg h1, if_neg (by omega)]
  · rw [List.getElem?_eq_none (by simpa using hj)]
    simp only [Option.map_none]
    split
    · rw [if_neg (by omega)]
    · rfl
theorem fillL_skip1 {c : Int} {g : Int → Int → Int} {N t : Nat} (h : g ((t : Int) / c) ((t : Int) % c) = 0) : fillL c g N t = fillL c g N (t + 1) := by
  unfold fillL
  apply List.map_congr_left
  intro j _
  by_cases e : j = t
  · subst e; rw [if_neg (by omega), if_pos (by omega), h]
  · by_cases h1 : j < t
    · rw [if_pos h1, if_pos (by omega)]
    · rw [if_neg h1, if_neg (by omega)]
theorem HL.Off.lex {p q : Value} {H H' H'' : Hp} (h : Off p H H') (h2 : Off q H' H'') (hn : Nw H q) : Off p H H'' := fun b o hb hp => h2 b o (h b o hb hp) (fun e => by have := hn b e; rw [this] at hb; simp at hb)
theorem HL.Off.lel {p : Value} {H H' H'' : Hp} (h : Off p H H') (h2 : Le H' H'') : Off p H H'' := fun b o hb hp => h2 b o (h b o hb hp)
theorem C.impl_madeField_cell {fv p : Value} {rr cc : Int} {g : Int → Int → Int} {sd : Nat → Int} {H : Hp} {K : Value → Hp → Prop} (r1 : 0 ≤ rr) (r2 : rr ≤ 1000) (c1 : 1 ≤ cc) (c2 : cc ≤ 1000) (hp : Cel H p [.int .i64 (sd 0)])
    (hcl : ∀ H' (i k : Nat) (Z : Value → Hp → Prop), Off p H H' → Cel H' p [.int .i64 (sd (i * cc.toNat + k))] → (i : Int) < rr → (k : Int) < cc → (∀ H'', Cel H'' p [.int .i64 (sd (i * cc.toNat + k + 1))] → Off p H' H'' → Z (.int .i64 (g i k)) H'') → callV prg fv [.int .i64 i, .int .i64 k] H' Z)
    (hk : ∀ u H', Own eI H' u (mkL cc g (rr.toNat * cc.toNat)) → Nw H u → Cel H' p [.int .i64 (sd (rr.toNat * cc.toNat))] → Off p H H' → K (.agg #[.int .i64 rr, .int .i64 cc, u]) H') :
    HT prg I.impl_madeField [.int .i64 rr, .int .i64 cc, fv].toArray H K := by
  refine R.impl_madeFieldX ?_
  unfold F.impl_madeFieldX
  refine nw_i (fun q H1 oq nq le1 => ?_)
  replace oq : Cel H1 q [.int .i64 0, .int .i64 0, .slice none 0 0] := oq
  refine ob_i (a := .agg #[.int .i64 rr, .int .i64 cc, .slice none 0 0]) rfl ?_
  have apq : Apart p q := hp.apart nq
  refine nw_i (fun s H2 os ns le2 => ?_)
  have aqs : Apart q s := oq.apart ns
  have aps : Apart p s := (hp.le le1).apart ns
  replace oq := oq.le le2
  have ns0 : Nw H s := ns.le le1
  have nq0 : Nw H q := nq
  refine os.stn (ws := [.int .i64 rr, .int .i64 cc, .slice none 0 0]) rfl rfl (by simp [oneCell]) (fun H3 os off3 => ?_)
  replace oq := oq.off off3 aqs
  have op : Cel H3 p [.int .i64 (sd 0)] := ((hp.le le1).le le2).off off3 aps
  have ofB : Off p H H3 := ((Off.of_le (le1.trans le2)).lex off3 ns0)
  refine jn_i (fun σ' H' => σ' 6 = q ∧ σ' 7 = s ∧ Cel H' q [.int .i64 0, .int .i64 0, .slice none 0 0] ∧ Cel H' p [.int .i64 (sd (rr.toNat * cc.toNat))] ∧ Off p H H' ∧ ∃ u, Cel H' s [.int .i64 rr, .int .i64 cc, u] ∧ Own eI H' u (mkL cc g (rr.toNat * cc.toNat)) ∧ Nw H u ∧ Apart q u) (fun σ' H' hP => ?_) (fun J7 hJ7 => ?_)
  · obtain ⟨g6, g7, oq, op, off, u, os, ou, nu, aqu⟩ := hP
    rw [g6, g7]
    refine ob_i (os.ldn rfl) ?_
    refine oq.stn (ws := [.int .i64 rr, .int .i64 cc, u]) rfl rfl (oc1 rfl (oc1 rfl (oc1 ou.one oc0))) (fun H6 oq off6 => ?_)
    refine ob_i (oq.ldn rfl) ?_
    exact hk u H6 (ou.off off6 aqu.symm) nu (op.off off6 apq) (off.lex off6 nq0)
  refine ⟨fun n σ H4 => ∃ i : Nat, n = rr.toNat - i ∧ (i : Int) ≤ rr ∧ σ 1 = .int .i64 cc ∧ σ 2 = fv ∧ σ 6 = q ∧ σ 7 = s ∧ σ 13 = .int .i64 rr ∧ σ 14 = .int .i64 i ∧ Cel H4 q [.int .i64 0, .int .i64 0, .slice none 0 0] ∧ Cel H4 p [.int .i64 (sd (i * cc.toNat))] ∧ Off p H H4 ∧
      ∃ u, Cel H4 s [.int .i64 rr, .int .i64 cc, u] ∧ Own eI H4 u (mkL cc g (i * cc.toNat)) ∧ Nw H u ∧ Apart q u ∧ Apart s u,
    ⟨_, 0, rfl, by omega, rfl, rfl, rfl, rfl, rfl, rfl, oq, by rw [Nat.zero_mul]; exact op, ofB, .slice none 0 0, os, by rw [Nat.zero_mul]; exact Own.nil_of none, fun b hb => by simp [bk] at hb, fun b _ hb => by simp [bk] at hb, fun b _ hb => by simp [bk] at hb⟩, ?_⟩
  rintro n σ H4 ⟨i, rfl, hiR, g1, g2, g6, g7, g13, g14, oq, op, of4, hu⟩
  simp only [g1, g13, g14, vInt_lss, ob_some]
  refine cnd_d (fun hlt => ?_) (fun hge => ?_)
  · refine jn_i (fun σ' H' => σ' 1 = .int .i64 cc ∧ σ' 2 = fv ∧ σ' 6 = q ∧ σ' 7 = s ∧ σ' 13 = .int .i64 rr ∧ σ' 14 = .int .i64 i ∧ Cel H' q [.int .i64 0, .int .i64 0, .slice none 0 0] ∧ Cel H' p [.int .i64 (sd ((i + 1) * cc.toNat))] ∧ Off p H H' ∧
        ∃ u, Cel H' s [.int .i64 rr, .int .i64 cc, u] ∧ Own eI H' u (mkL cc g ((i + 1) * cc.toNat)) ∧ Nw H u ∧ Apart q u ∧ Apart s u) (fun σ' H' hP => ?_) (fun J13 hJ13 => ?_)
    · obtain ⟨z1, z2, z6, z7, z13, z14, zq, zp, zof, zu⟩ := hP
      rw [z14, vInt_add (by omega) (by omega), ob_some]
      exact nxt (rr.toNat - (i + 1)) (by omega) ⟨i + 1, rfl, by omega, z1, z2, z6, z7, z13, rfl, zq, zp, zof, zu⟩
    refine ⟨fun n σ H5 => ∃ k : Nat, n = cc.toNat - k ∧ (k : Int) ≤ cc ∧ σ 1 = .int .i64 cc ∧ σ 2 = fv ∧ σ 6 = q ∧ σ 7 = s ∧ σ 13 = .int .i64 rr ∧ σ 14 = .int .i64 i ∧ σ 8 = .int .i64 i ∧ σ 17 = .int .i64 cc ∧ σ 18 = .int .i64 k ∧ Cel H5 q [.int .i64 0, .int .i64 0, .slice none 0 0] ∧ Cel H5 p [.int .i64 (sd (i * cc.toNat + k))] ∧ Off p H H5 ∧
        ∃ u, Cel H5 s [.int .i64 rr, .int .i64 cc, u] ∧ Own eI H5 u (mkL cc g (i * cc.toNat + k)) ∧ Nw H u ∧ Apart q u ∧ Apart s u,
      ⟨_, 0, rfl, by omega, g1, g2, g6, g7, g13, g14, rfl, rfl, rfl, oq, op, of4, hu⟩, ?_⟩
    rintro n σ H5 ⟨k, rfl, hkC, z1, z2, z6, z7, z13, z14, z8, z17, z18, zq, zp, of5, u, zs, zu, nu, aqu, asu⟩
    simp only [z2, z7, z8, z17, z18, vInt_lss, ob_some]
    refine cnd_d (fun hkl => ?_) (fun hkg => ?_)
    · have apu : Apart p u := hp.apart nu
      have apq' := apq.symm
      have aps' := aps.symm
      refine ⟨?_, ?_⟩
      · refine ob_i (zs.fa 2) ?_
        refine ob_i (zs.ld 2 rfl) ?_
        refine hcl H5 i k _ of5 zp hlt hkl (fun H6 zp of6 => ?_)
        replace zq := zq.off of6 apq'
        replace zs := zs.off of6 aps'
        replace zu := zu.off of6 apu.symm
        have of56 : Off p H H6 := of5.trans of6
        refine bS_i (enc := eI) (l := [g i k]) (by omega) rfl (by kernel_rfl) (fun t H7 ot nt le7 => ?_)
        replace zq := zq.le le7
        replace zs := zs.le le7
        replace zu := zu.le le7
        replace zp := zp.le le7
        have of7 := of56.lel le7
        have hlen : (mkL cc g (i * cc.toNat + k)).length ≤ 68719476736 := by
          rw [mkL_length]
          have : i * cc.toNat ≤ 1000 * 1000 := Nat.mul_le_mul (by omega) (by omega)
          omega
        refine apd_one zu ot.sl (fun _ => rfl) (by omega) hlen (fun u' H8 ou' off8 hbk => ?_)
        have aqu' : Apart q u' := Apart.app zq.known aqu hbk
        have asu' : Apart s u' := Apart.app zs.known asu hbk
        have nu' : Nw H u' := fun b hb => by
          rcases hbk b hb with h | h
          · exact nu b h
          · cases hH : H b with
            | none => rfl
            | some o =>
              by_cases hpb : bk p = some b
              · obtain ⟨o', ho'⟩ := zp.known b hpb; rw [h] at ho'; simp at ho'
              · have := of7 b o hH hpb; rw [h] at this; simp at this
        replace zq := zq.off off8 aqu
        replace zs := zs.off off8 asu
        replace zp := zp.off off8 apu
        have of8 := of7.lex off8 nu
        refine ob_i (zs.fa 2) ?_
        refine zs.st (by simp) ou'.one ou'.cells (fun H9 os9 off9 => ?_)
        rw [vInt_add (by omega) (by omega), ob_some]
        refine nxt (cc.toNat - (k + 1)) (by omega) ⟨k + 1, rfl, by omega, z1, z2, z6, z7, z13, z14, z8, z17, rfl, zq.off off9 aqs, zp.off off9 aps, of8.lex off9 ns0, u', os9, ?_, nu', aqu', asu'⟩
        have hd := divmod (c := cc) (i := i) (k := k) (by omega) (by omega) hkl
        rw [← Nat.add_assoc, mkL_succ, cast_ix (by omega), hd.1, hd.2]
        exact ou'.off off9 asu'.symm
      · refine ob_i (zs.fa 2) ?_
        refine hcl H5 i k _ of5 zp hlt hkl (fun H6 zp of6 => ?_)
        replace zq := zq.off of6 apq'
        replace zs := zs.off of6 aps'
        replace zu := zu.off of6 apu.symm
        have of56 : Off p H H6 := of5.trans of6
        refine ob_i (zs.ld 2 rfl) ?_
        refine bS_i (enc := eI) (l := [g i k]) (by omega) rfl (by kernel_rfl) (fun t H7 ot nt le7 => ?_)
        replace zq := zq.le le7
        replace zs := zs.le le7
        replace zu := zu.le le7
        replace zp := zp.le le7
        have of7 := of56.lel le7
        have hlen : (mkL cc g (i * cc.toNat + k)).length ≤ 68719476736 := by
          rw [mkL_length]
          have : i * cc.toNat ≤ 1000 * 1000 := Nat.mul_le_mul (by omega) (by omega)
          omega
        refine apd_one zu ot.sl (fun _ => rfl) (by omega) hlen (fun u' H8 ou' off8 hbk => ?_)
        have aqu' : Apart q u' := Apart.app zq.known aqu hbk
        have asu' : Apart s u' := Apart.app zs.known asu hbk
        have nu' : Nw H u' := fun b hb => by
          rcases hbk b hb with h | h
          · exact nu b h
          · cases hH : H b with
            | none => rfl
            | some o =>
              by_cases hpb : bk p = some b
              · obtain ⟨o', ho'⟩ := zp.known b hpb; rw [h] at ho'; simp at ho'
              · have := of7 b o hH hpb; rw [h] at this; simp at this
        replace zq := zq.off off8 aqu
        replace zs := zs.off off8 asu
        replace zp := zp.off off8 apu
        have of8 := of7.lex off8 nu
        refine ob_i (zs.fa 2) ?_
        refine zs.st (by simp) ou'.one ou'.cells (fun H9 os9 off9 => ?_)
        rw [vInt_add (by omega) (by omega), ob_some]
        refine nxt (cc.toNat - (k + 1)) (by omega) ⟨k + 1, rfl, by omega, z1, z2, z6, z7, z13, z14, z8, z17, rfl, zq.off off9 aqs, zp.off off9 aps, of8.lex off9 ns0, u', os9, ?_, nu', aqu', asu'⟩
        have hd := divmod (c := cc) (i := i) (k := k) (by omega) (by omega) hkl
        rw [← Nat.add_assoc, mkL_succ, cast_ix (by omega), hd.1, hd.2]
        exact ou'.off off9 asu'.symm
    · have e : k = cc.toNat := by omega
      refine hJ13 _ _ ⟨z1, z2, z6, z7, z13, z14, zq, ?_, of5, u, zs, ?_, nu, aqu, asu⟩
      · rw [Nat.add_mul, Nat.one_mul, ← e]; rw [← e] at zp; exact zp
      · rw [Nat.add_mul, Nat.one_mul, ← e]; rw [← e] at zu; exact zu
  · have e : i = rr.toNat := by omega
    subst e
    obtain ⟨u, os, ou, nu, aqu, asu⟩ := hu
    exact hJ7 _ _ ⟨g6, g7, oq, op, of4, u, os, ou, nu, aqu⟩
/-- What a soup becomes. -/
def soL (b s : List Int) (r x : Int) (sh : Nat) (n : Nat) : List Int := rnL true b s r r (drL r r x sh) n
def soP (b s : List Int) (r : Int) (sh : Nat) (x st : Int) : Prop := lifP b s ∧ (0 ≤ st ∧ st ≤ 64) ∧ drP r r x sh
instance (b s : List Int) (r : Int) (sh : Nat) (x st : Int) : Decidable (soP b s r sh x st) := by unfold soP; infer_instance
theorem soL_field {b s : List Int} {r x : Int} {sh n : Nat} (h : sidesF r r) : fieldN 1 r r (soL b s r x sh n) := rnL_field (drL_field h) n
def ssP (b s : List Int) (r : Int) (sh : Nat) (l : List Int) (st wk : Int) : Prop := lifP b s ∧ (1 ≤ r ∧ r ≤ 24) ∧ shrP sh ∧ (l.length : Int) ≤ 16 ∧ (0 ≤ st ∧ st ≤ 64) ∧ (1 ≤ wk ∧ wk ≤ 8) ∧ ∀ x ∈ l, 0 ≤ x ∧ x ≤ 4294967295
instance (b s : List Int) (r : Int) (sh : Nat) (l : List Int) (st wk : Int) : Decidable (ssP b s r sh l st wk) := by unfold ssP; infer_instance
end Go.Proofs.YtffmfkpobjdmmaaGreatDoor
/- Slices whose elements have some cells each: what is read, what is owned. -/
namespace Go.Proofs.YtffmfkpobjdmmaaGreatDoor.HL
theorem add_add (a : Addr) (x y : Nat) : (a.add x).add y = a.add (x + y) := by
  unfold Addr.add
  by_cases hx : x = 0
  · subst hx; simp
  · by_cases hy : y = 0
    · subst hy; simp
    · rw [if_neg hx, if_neg hy, if_neg (by omega)]; simp [Nat.add_assoc]
theorem add_block (a : Addr) (x : Nat) : (a.add x).block = a.block := by unfold Addr.add; split <;> rfl
section
variable {α : Type} {enc : α → List Value} {n : Nat} {H H' : Hp} {u v : Value} {l m : List α}
theorem flat_len (hn : ∀ x, (enc x).length = n) : ∀ l : List α, (l.flatMap enc).length = l.length * n
  | [] => by simp
  | x :: r => by rw [List.flatMap_cons, List.length_append, hn, flat_len hn r, List.length_cons, Nat.add_mul, Nat.one_mul]; omega
theorem flat_get (hn : ∀ x, (enc x).length = n) : ∀ (l : List α) (i j : Nat) (h : i < l.length), j < n → (l.flatMap enc)[i * n + j]? = (enc l[i])[j]?
  | x :: r, 0, j, h, hj => by rw [List.flatMap_cons, Nat.zero_mul, Nat.zero_add, List.getElem?_append_left (by rw [hn]; exact hj)]; rfl
  | x :: r, i + 1, j, h, hj => by
    rw [List.flatMap_cons, List.getElem?_append_right (by rw [hn, Nat.add_mul]; omega), hn, show (i + 1) * n + j - n = i * n + j by rw [Nat.add_mul]; omega, flat_get hn r i j (by simpa using h) hj]
    rfl
theorem flat_ix {i j N : Nat} (h : i < N) (hj : j < n) : i * n + j < N * n := by
  have := Nat.mul_le_mul_right n (show i + 1 ≤ N by omega)
  rw [Nat.add_mul] at this; omega
/-- A slice of elements of n cells that reads so. -/
def SlE (n : Nat) (enc : α → List Value) (H : Hp) (v : Value) (l : List α) : Prop :=
  ∃ a c, v = .slice a l.length c ∧ l.length ≤ c ∧ ∀ t (h : t < (l.flatMap enc).length), ∃ ad, a = some ad ∧ H.cell? (ad.add t) = some (l.flatMap enc)[t]
/-- One whose block is known whole, and may be written. -/
def OwnE (n : Nat) (enc : α → List Value) (H : Hp) (v : Value) (l : List α) : Prop :=
  ∃ a c, v = .slice a l.length c ∧ l.length ≤ c ∧ (0 < c → ∃ b off cs e, a = some ⟨b, off, none⟩ ∧ H b = some (.cells cs e (0, 0)) ∧ off + c * n ≤ cs.size ∧ ∀ t (h : t < (l.flatMap enc).length), cs[off + t]? = some (l.flatMap enc)[t])
/-- The pointer to an element. -/
def ptrE (n : Nat) (v : Value) (i : Int) : Value := match v with | .slice (some a) _ _ => .pointer (some (a.add (i.toNat * n))) | _ => undef
theorem SlE.le (h : SlE n enc H v l) (hl : Le H H') : SlE n enc H' v l := by
  obtain ⟨a, c, rfl, hc, hr⟩ := h
  exact ⟨a, c, rfl, hc, fun i hi => by obtain ⟨ad, e, hh⟩ := hr i hi; exact ⟨ad, e, hl.cell hh⟩⟩
theorem SlE.len (h : SlE n enc H v l) : vLenSl v = some (.int .i64 l.length) := by
  obtain ⟨a, c, rfl, hc, hr⟩ := h; rfl
theorem SlE.base (h : SlE n enc H v l) (hn : ∀ x, (enc x).length = n) (n0 : 0 < n) {i : Nat} (hi : i < l.length) : ∃ a c, v = .slice (some a) l.length c ∧ ∀ j (hj : j < n), H.cell? (a.add (i * n + j)) = (enc l[i])[j]? := by
  obtain ⟨a, c, rfl, hc, hr⟩ := h
  have hb := flat_ix (n := n) hi n0
  obtain ⟨ad, rfl, _⟩ := hr (i * n + 0) (by rw [flat_len hn]; exact hb)
  refine ⟨ad, c, rfl, fun j hj => ?_⟩
  have hk := flat_ix (n := n) hi hj
  obtain ⟨ad', e, hh⟩ := hr (i * n + j) (by rw [flat_len hn]; exact hk)
  cases e
  rw [hh, ← flat_get hn l i j hi hj, List.getElem?_eq_getElem]
theorem SlE.ix (h : SlE n enc H v l) (hn : ∀ x, (enc x).length = n) (n0 : 0 < n) {k : IntKind} {i : Int} (h0 : 0 ≤ i) (h1 : i < l.length) : vIx n v (.int k i) = some (ptrE n v i) := by
  obtain ⟨a, c, rfl, _⟩ := h.base hn n0 (i := i.toNat) (by omega)
  simp only [vIx, ptrE]
  rw [if_pos ⟨h0, by simpa using h1⟩]
theorem SlE.ldn (h : SlE n enc H v l) (hn : ∀ x, (enc x).length = n) (n0 : 0 < n) (d : α) {i : Int} (h0 : 0 ≤ i) (h1 : i < l.length) : vLoadN n (ptrE n v i) H = some (.agg (enc (at_ d l i)).toArray) := by
  have hi : i.toNat < l.length := by omega
  obtain ⟨a, c, rfl, hr⟩ := h.base hn n0 hi
  have e : at_ d l i = l[i.toNat] := by unfold at_; rw [List.getD_eq_getElem?_getD, List.getElem?_eq_getElem hi]; rfl
  simp only [vLoadN, ptrE]
  rw [rd_cells (enc := id) _ n 0 (enc l[i.toNat]) (hn _) (fun j hj => by
    rw [add_add, Nat.zero_add, hr j (by rw [hn] at hj; exact hj), List.getElem?_eq_getElem hj]; rfl), e]
  simp
theorem SlE.fa (h : SlE n enc H v l) (hn : ∀ x, (enc x).length = n) (n0 : 0 < n) {i : Int} (h0 : 0 ≤ i) (h1 : i < l.length) (k : Nat) : vFa k (ptrE n v i) = some (fp (ptrE n v i) k) := by
  obtain ⟨a, c, rfl, _⟩ := h.base hn n0 (i := i.toNat) (by omega)
  rfl
theorem SlE.nilC (h : SlE n enc H v l) (hn : ∀ x, (enc x).length = n) (n0 : 0 < n) {i : Int} (h0 : 0 ≤ i) (h1 : i < l.length) : vNilC (ptrE n v i) = some (ptrE n v i) := by
  obtain ⟨a, c, rfl, _⟩ := h.base hn n0 (i := i.toNat) (by omega)
  rfl
theorem SlE.ld (h : SlE n enc H v l) (hn : ∀ x, (enc x).length = n) (n0 : 0 < n) (d : α) {i : Int} (h0 : 0 ≤ i) (h1 : i < l.length) {k : Nat} (hk : k < n) {x : Value} (hx : (enc (at_ d l i))[k]? = some x) : vLoad (fp (ptrE n v i) k) H = some x := by
  have hi : i.toNat < l.length := by omega
  obtain ⟨a, c, rfl, hr⟩ := h.base hn n0 hi
  have e : at_ d l i = l[i.toNat] := by unfold at_; rw [List.getD_eq_getElem?_getD, List.getElem?_eq_getElem hi]; rfl
  simp only [vLoad, fp, ptrE, add_add]
  rw [hr k hk, ← e, hx]
theorem SlE.firstC (h : SlE n enc H v l) (hn : ∀ x, (enc x).length = n) : firstC H n l.length v = some (l.flatMap enc) := by
  obtain ⟨a, c, rfl, hc, hr⟩ := h
  by_cases h0 : (l.flatMap enc).length = 0
  · have e : l.flatMap enc = [] := List.length_eq_zero_iff.mp h0
    have e2 : l.length * n = 0 := by rw [← flat_len hn]; exact h0
    cases a with
    | none => rw [e]; rfl
    | some ad => simp only [HL.firstC, e2, e]; rfl
  · obtain ⟨ad, rfl, _⟩ := hr 0 (by omega)
    simp only [HL.firstC]
    have := rd_cells (H := H) (enc := id) ad (l.length * n) 0 (l.flatMap enc) (flat_len hn l) (fun i hi => by obtain ⟨ad', e, hh⟩ := hr i hi; cases e; simpa using hh)
    rw [this]; simp
theorem SlE.lenO (h : SlE n enc H v l) : lenO v = some l.length := by
  obtain ⟨a, c, rfl, hc, hr⟩ := h; rfl
theorem OwnE.len (h : OwnE n enc H v l) : vLenSl v = some (.int .i64 l.length) := by
  obtain ⟨a, c, rfl, hc, hr⟩ := h; rfl
theorem OwnE.sl (h : OwnE n enc H v l) (hn : ∀ x, (enc x).length = n) : SlE n enc H v l := by
  obtain ⟨a, c, rfl, hc, hr⟩ := h
  refine ⟨a, c, rfl, hc, fun i hi => ?_⟩
  have h1 := flat_len hn l
  have hc0 : 0 < c := by
    rcases Nat.eq_zero_or_pos c with h | h
    · have : l.length = 0 := by omega
      rw [this, Nat.zero_mul] at h1; omega
    · exact h
  obtain ⟨b, off, cs, e, rfl, hb, hs, hcs⟩ := hr hc0
  exact ⟨_, rfl, by simp only [Hp.cell?, add_none, hb, hcs i hi]; rfl⟩
theorem OwnE.off (h : OwnE n enc H u l) (ho : Off v H H') (ha : Apart u v) : OwnE n enc H' u l := by
  obtain ⟨a, c, rfl, hc, hr⟩ := h
  refine ⟨a, c, rfl, hc, fun h0 => ?_⟩
  obtain ⟨b, off, cs, e, rfl, hb, hs, hcs⟩ := hr h0
  refine ⟨b, off, cs, e, rfl, ho b _ hb (ha b ?_), hs, hcs⟩
  simp only [bk]
  rw [if_neg (by omega)]
theorem OwnE.le (h : OwnE n enc H u l) (hl : Le H H') : OwnE n enc H' u l := by
  obtain ⟨a, c, rfl, hc, hr⟩ := h
  refine ⟨a, c, rfl, hc, fun h0 => ?_⟩
  obtain ⟨b, off, cs, e, rfl, hb, hs, hcs⟩ := hr h0
  exact ⟨b, off, cs, e, rfl, hl b _ hb, hs, hcs⟩
theorem OwnE.known (h : OwnE n enc H u l) : ∀ b, bk u = some b → ∃ o, H b = some o := by
  obtain ⟨a, c, rfl, hc, hr⟩ := h
  intro b hb
  cases a with
  | none => simp [bk] at hb
  | some ad =>
    simp only [bk] at hb
    by_cases h0 : c = 0
    · rw [if_pos h0] at hb; simp at hb
    · rw [if_neg h0] at hb
      obtain ⟨b', off, cs, e, he, hbb, _⟩ := hr (by omega)
      simp only [Option.some.injEq] at hb he
      subst he
      simp only at hb
      subst hb
      exact ⟨_, hbb⟩
theorem OwnE.apart (h : OwnE n enc H u l) (hn : Nw H v) : Apart u v := Apart.of_nw h.known hn
theorem OwnE.one (h : OwnE n enc H v l) : oneCell v = true := by
  obtain ⟨a, c, rfl, _⟩ := h; rfl
theorem OwnE.cells (h : OwnE n enc H v l) : v.cells = #[v] := by
  obtain ⟨a, c, rfl, _⟩ := h; rfl
theorem OwnE.isSl (h : OwnE n enc H v l) : ∃ a n c, v = .slice a n c := by
  obtain ⟨a, c, h, _⟩ := h; exact ⟨_, _, _, h⟩
theorem OwnE.cast {l' : List α} (e : l = l') (h : OwnE n enc H v l) : OwnE n enc H v l' := e ▸ h
theorem OwnE.nil_of (a : Option Addr) : OwnE n enc H (.slice a 0 0) ([] : List α) := ⟨a, 0, rfl, by simp, fun h0 => absurd h0 (by simp)⟩
theorem SlE.nil (c : Nat) (a : Option Addr) : SlE n enc H (.slice a 0 c) ([] : List α) := ⟨a, c, rfl, by simp, fun i hi => absurd hi (by simp)⟩
theorem SlE.one (h : SlE n enc H v l) : oneCell v = true := by
  obtain ⟨a, c, rfl, _⟩ := h; rfl
theorem SlE.cells (h : SlE n enc H v l) : v.cells = #[v] := by
  obtain ⟨a, c, rfl, _⟩ := h; rfl
theorem SlE.cast {l' : List α} (e : l = l') (h : SlE n enc H v l) : SlE n enc H v l' := e ▸ h
/-- A new row of elements of n cells: one element. -/
theorem bSE_one {z : Array Value} {e : TypeId} {x : α} {k : Nat} {cs : List Value} {K : Value → Hp → Prop} (hx : enc x = cs) (hl : cs.length = n) (n0 : 0 < n) (n1 : n ≤ 1000) (hz : z.size = n)
    (hk : ∀ v H', OwnE n enc H' v [x] → Nw H v → Le H H' → K v H') (hk1 : k = 1) : bS n k z e [(0, .agg cs.toArray)] H K := by
  subst hk1
  refine ⟨by omega, ?_⟩
  have hs : (zrow z (1 * n)).size = n := by simp [zrow]
  have hf : Instr.fill (fun i => some (i * n, n)) (if 1 * n = 0 then #[] else zrow z (1 * n)) [(0, .agg cs.toArray)] = some cs.toArray := by
    rw [if_neg (by omega)]
    simp only [Instr.fill, Value.cells, Nat.zero_mul, Nat.zero_add]
    rw [if_neg (by rw [hs]; simp [hl])]
    congr 1
    apply Array.ext_getElem?
    intro i
    have key : ∀ (r : List Value) (s : Nat) (a : Array Value), s + r.length ≤ a.size → ((r.toArray.zipIdx s).foldl (fun cs x => cs.setIfInBounds x.2 x.1) a)[i]? = if s ≤ i ∧ i < s + r.length then r[i - s]? else a[i]? := by
      intro r
      induction r with
      | nil => intro s a _; rw [if_neg (by simp only [List.length_nil]; omega), ← Array.foldl_toList, Array.toList_zipIdx]; rfl
      | cons y r ih =>
        intro s a ha
        simp only [List.length_cons] at ha ⊢
        rw [← Array.foldl_toList]
        simp only [Array.toList_zipIdx, List.zipIdx_cons, List.foldl_cons]
        have := ih (s + 1) (a.setIfInBounds s y) (by simp; omega)
        rw [← Array.foldl_toList] at this
        simp only [Array.toList_zipIdx] at this
        rw [this]
        by_cases h1 : s = i
        · subst h1
          rw [if_neg (by omega), if_pos (by omega), Array.getElem?_setIfInBounds_self_of_lt (by omega)]; simp
        · by_cases h2 : s + 1 ≤ i ∧ i < s + 1 + r.length
          · rw [if_pos h2, if_pos (by omega), show i - s = (i - (s + 1)) + 1 by omega]; simp
          · rw [if_neg h2, if_neg (by omega), Array.getElem?_setIfInBounds_ne h1]
    have := key cs 0 (zrow z (1 * n)) (by rw [hs]; omega)
    simp only [Nat.zero_add, Nat.zero_le, true_and, Nat.sub_zero] at this
    rw [this]
    split
    · simp
    · rw [Array.getElem?_eq_none (by rw [hs]; omega), Array.getElem?_eq_none (by simp; omega)]
  rw [hf]
  intro r hr
  refine hk _ _ ⟨some ⟨r, 0, none⟩, 1, rfl, Nat.le_refl _, fun _ => ⟨r, 0, _, e, rfl, Hp.put_same _ _ _, by simp [hl], fun t ht => ?_⟩⟩ ?_ (Le.put _ hr)
  · simp only [List.flatMap_cons, List.flatMap_nil, List.append_nil, hx] at ht ⊢
    simp [ht]
  · intro b hb
    simp only [bk] at hb
    split at hb
    · simp at hb
    · simp only [Option.some.injEq] at hb; subst hb; exact hr
theorem bSE_nil {z : Array Value} {e : TypeId} {K : Value → Hp → Prop} (hk : ∀ v H', OwnE n enc H' v ([] : List α) → Nw H v → bk v = none → Le H H' → K v H') : bS n 0 z e [] H K := by
  refine ⟨by simp, ?_⟩
  rw [if_pos (by simp)]
  show match some (#[] : Array Value) with
    | some cells => ∀ r, H r = none → K (.slice (some ⟨r, 0, none⟩) 0 0) (H.put r (.cells cells e))
    | none => False
  intro r hr
  refine hk _ _ (OwnE.nil_of _) ?_ rfl (Le.put _ hr)
  intro b hb
  simp [bk] at hb
/-- An append. -/
theorem OwnE.apd {bytes : Nat} {z : Array Value} {e : TypeId} {w : Value} {K : Value → Hp → Prop} (h : OwnE n enc H v l) (hn : ∀ x, (enc x).length = n) (hz : z.size = n) (hm : SlE n enc H w m) (ho : ∀ x ∈ m, ∀ y ∈ enc x, oneCell y = true)
    (hb : bytes ≤ 64) (hlm : l.length + m.length ≤ 68719476736)
    (hk : ∀ v' H', OwnE n enc H' v' (l ++ m) → Off v H H' → (∀ b, bk v' = some b → bk v = some b ∨ H b = none) → K v' H') : apd n bytes z e v w H K := by
  have hmf := hm.firstC hn
  have hml := hm.lenO
  have hlf := (h.sl hn).firstC hn
  have fl := flat_len hn l
  have fm := flat_len hn m
  have hap : (l ++ m).flatMap enc = l.flatMap enc ++ m.flatMap enc := List.flatMap_append
  obtain ⟨a, c, rfl, hlc, hr⟩ := h
  simp only [HL.apd, hml]
  by_cases hcap : l.length + m.length ≤ c
  · rw [if_pos hcap]
    simp only [hmf]
    by_cases hc0 : c = 0
    · have hl : l = [] := List.length_eq_zero_iff.mp (by omega)
      have hm' : m = [] := List.length_eq_zero_iff.mp (by omega)
      subst hl hm' hc0
      have : K (.slice a (([] : List α).length + ([] : List α).length) 0) H := hk _ H ⟨a, 0, rfl, by simp, fun h0 => absurd h0 (by simp)⟩ (fun b o hb _ => hb) (fun b hb => by cases a <;> simp [bk] at hb)
      cases a with
      | none => exact this
      | some ad => exact this
    · obtain ⟨b, off, cs, e', rfl, hbb, hs, hcs⟩ := hr (by omega)
      have hmul : (l.length + m.length) * n ≤ c * n := Nat.mul_le_mul_right n hcap
      rw [Nat.add_mul] at hmul
      simp only [add_none]
      refine stC_run (b := b) (e := e') (m.flatMap enc) _ 0 cs H rfl rfl hbb (by simp only [Nat.add_zero]; omega) (fun x hx => by
        obtain ⟨y, hy, hxy⟩ := List.mem_flatMap.mp hx; exact ho y hy x hxy) ?_
      intro H' cs' h1 h2 h3 h4 h5
      simp only [Nat.add_zero] at h3 h4
      refine hk _ H' ⟨some ⟨b, off, none⟩, c, by simp, by simpa using hcap, fun _ => ⟨b, off, cs', e', rfl, h1, by omega, ?_⟩⟩ ?_ ?_
      · simp only [hap]
        intro t ht
        rw [List.length_append] at ht
        by_cases htl : t < (l.flatMap enc).length
        · rw [h3 _ (by omega), hcs t htl, List.getElem_append_left htl]
        · have := h4 (t - (l.flatMap enc).length) (by omega)
          rw [show off + l.length * n + (t - (l.flatMap enc).length) = off + t by omega] at this
          rw [this, List.getElem_append_right (by omega)]
      · intro x o hx hne
        simp only [bk, if_neg hc0] at hne
        rw [h5 x (by rintro rfl; exact hne rfl)]; exact hx
      · intro x hx
        left; exact hx
  · rw [if_neg hcap]
    refine ⟨by omega, ?_, ?_⟩
    · have := nsc_le (n := l.length + m.length) (c := c) (by omega)
      exact Nat.le_trans (Nat.mul_le_mul this hb) (by omega)
    simp only [hlf, hmf]
    intro c' hc1 hc2 r hr'
    have hmul : (l.length + m.length) * n ≤ c' * n := Nat.mul_le_mul_right n hc1
    have hsub : (c' - (l.length + m.length)) * n = c' * n - (l.length + m.length) * n := Nat.sub_mul _ _ _
    rw [Nat.add_mul] at hmul hsub
    refine hk _ _ ⟨some ⟨r, 0, none⟩, c', by simp, by simpa using hc1, fun _ => ⟨r, 0, _, e, rfl, Hp.put_same _ _ _, ?_, ?_⟩⟩ ?_ ?_
    · have : (Builtin.zeroCells z (c' - (l.length + m.length))).size = (c' - (l.length + m.length)) * n := by simp [Builtin.zeroCells, hz]
      simp only [Nat.zero_add, Array.size_append, List.size_toArray, this, fl, fm]; omega
    · simp only [hap]
      intro t ht
      rw [Nat.zero_add, Array.getElem?_append_left (by simpa using ht)]
      rw [← Array.getElem?_toList]
      simp only [Array.toList_append]
      rw [List.getElem?_eq_getElem ht]
    · intro x o hx _
      rw [Hp.put_ne _ _ (by rintro rfl; rw [hr'] at hx; exact absurd hx (by simp))]; exact hx
    · intro x hx
      right
      simp only [bk] at hx
      split at hx
      · simp at hx
      · simp only [Option.some.injEq] at hx; subst hx; exact hr'
end
end Go.Proofs.YtffmfkpobjdmmaaGreatDoor.HL
/- Fields in slices: one of them. -/
namespace Go.Proofs.YtffmfkpobjdmmaaGreatDoor
open HL
/-- A field as it lies in cells. -/
structure Fv where
  r : Int
  c : Int
  v : Value
def fv0 : Fv := ⟨0, 0, .slice none 0 0⟩
def encFv (x : Fv) : List Value := [.int .i64 x.r, .int .i64 x.c, x.v]
theorem encFv_n (x : Fv) : (encFv x).length = 3 := rfl
end Go.Proofs.YtffmfkpobjdmmaaGreatDoor
/- What the small functions of structs come to: copies, sizes, what is alike. -/
namespace Go.Proofs.YtffmfkpobjdmmaaGreatDoor
open HL
set_option maxRecDepth 100000
end Go.Proofs.YtffmfkpobjdmmaaGreatDoor
/- What says whether lists are equal, and whether gases are. -/
namespace Go.Proofs.YtffmfkpobjdmmaaGreatDoor
open HL
set_option maxRecDepth 100000
end Go.Proofs.YtffmfkpobjdmmaaGreatDoor
/- Lanes that are switched: what the program's and the reference's functions come to. -/
namespace Go.Proofs.YtffmfkpobjdmmaaGreatDoor
open HL
set_option maxRecDepth 100000
/-- May the car at i leave lane a for lane b? -/
def chg (a b : List Int) (i : Int) : Prop :=
  0 ≤ at_ 0 a i ∧ 0 ≤ at_ 0 a ((i + 1).tmod a.length) ∧ at_ 0 b i < 0 ∧ at_ 0 b ((i + 1).tmod a.length) < 0 ∧ at_ 0 b ((i + a.length - 1).tmod a.length) < 0
instance (a b : List Int) (i : Int) : Decidable (chg a b i) := by unfold chg; infer_instance
/-- Numbers from k on. -/
def ramp (k : Int) (n : Nat) : List Int := (List.range n).map fun (i : Nat) => k + i
theorem ramp_length (k : Int) (n : Nat) : (ramp k n).length = n := by simp [ramp]
theorem ramp_succ (k : Int) (n : Nat) : ramp k (n + 1) = ramp k n ++ [k + n] := by simp [ramp, List.range_succ]
theorem C.laws_markInt64S {a : Value} {l : List Int} {k : Int} {H : Hp} {K : Value → Hp → Prop} (ha : Own eI H a l) (hl : l.length ≤ 4611686018427387904) (hk0 : 0 ≤ k) (hk1 : k ≤ 4611686018427387903)
    (hk : ∀ H', Own eI H' a (ramp k l.length) → Off a H H' → K (.int .i64 (k + l.length)) H') : HT prg I.laws_markInt64S [a, .int .i64 k].toArray H K := by
  refine R.laws_markInt64S ?_
  unfold F.laws_markInt64S jn; dsimp only
  refine ⟨fun n σ H1 => ∃ i : Nat, n = l.length - i ∧ i ≤ l.length ∧ σ 0 = a ∧ σ 1 = .int .i64 (k + i) ∧ σ 5 = .int .i64 i ∧ Own eI H1 a (ramp k i ++ l.drop i) ∧ Off a H H1,
    ⟨_, 0, rfl, by omega, rfl, by show Value.int .i64 k = _; simp, rfl, by simpa [ramp] using ha, fun b o hb _ => hb⟩, ?_⟩
  rintro n σ H1 ⟨i, rfl, hi', h0, h1, h5, ho, hoff⟩
  have hlen : (ramp k i ++ l.drop i).length = l.length := by simp [ramp_length]; omega
  have hlen2 := ho.len
  rw [hlen] at hlen2
  simp only [h0, h1, h5, hlen2, vInt_lss, ob_some]
  refine cnd_d (fun hlt => ?_) (fun hge => ?_)
  · have hlt' : i < l.length := by omega
    rw [ho.sl.ix (by omega) (by rw [hlen]; omega), ob_some]
    refine ho.st (x := k + i) (by omega) (by rw [hlen]; omega) rfl rfl (fun H2 ho2 hoff2 => ?_)
    rw [vInt_add (by omega) (by omega), ob_some, vInt_add (by omega) (by omega), ob_some]
    refine nxt (l.length - (i + 1)) (by omega) ⟨i + 1, rfl, by omega, h0, ?_, rfl, ?_, hoff.trans hoff2⟩
    · show Value.int .i64 (k + i + 1) = _
      congr 1; omega
    · have e : (ramp k i ++ l.drop i).set (i : Int).toNat (k + i) = ramp k (i + 1) ++ l.drop (i + 1) := by
        rw [ramp_succ, Int.toNat_natCast, List.set_append_right _ _ (by rw [ramp_length]; exact Nat.le_refl _), ramp_length, Nat.sub_self, List.drop_eq_getElem_cons hlt']
        simp only [List.set_cons_zero, List.append_assoc, List.singleton_append]
      rw [← e]; exact ho2
  · have : i = l.length := by omega
    subst this
    refine retK (K := K) h1 (hk H1 ?_ hoff)
    simpa using ho
theorem at_ramp (k : Int) (n i : Nat) (h : i < n) : at_ 0 (ramp k n) (i : Int) = k + i := by
  rw [at_eq 0 _ (by rw [ramp_length]; exact h)]; simp [ramp]
theorem C.laws_heldInt64S {a : Value} {k : Int} {m : Nat} {H : Hp} {K : Value → Hp → Prop} (ha : Sl eI H a (ramp k m)) (hl : m ≤ 4611686018427387904) (hk0 : 0 ≤ k) (hk1 : k ≤ 4611686018427387903)
    (hk : K (.int .i64 (k + m)) H) : HT prg I.laws_heldInt64S [a, .int .i64 k].toArray H K := by
  refine R.laws_heldInt64S ?_
  unfold F.laws_heldInt64S jn; dsimp only
  have hlen := ha.len
  rw [ramp_length] at hlen
  refine ⟨fun n σ H1 => ∃ i : Nat, n = m - i ∧ i ≤ m ∧ H1 = H ∧ σ 0 = a ∧ σ 1 = .int .i64 (k + i) ∧ σ 5 = .int .i64 i,
    ⟨_, 0, rfl, by omega, rfl, rfl, by show Value.int .i64 k = _; simp, rfl⟩, ?_⟩
  rintro n σ H1 ⟨i, rfl, hi', rfl, h0, h1, h5⟩
  simp only [h0, h1, h5, hlen, vInt_lss, ob_some]
  refine cnd_d (fun hlt => ?_) (fun hge => ?_)
  · have hlt' : i < m := by omega
    rw [ha.ix (by omega) (by rw [ramp_length]; omega), ob_some, ha.ld 0 (by omega) (by rw [ramp_length]; omega), ob_some, at_ramp k m i hlt', vInt_neq, ob_some]
    refine cnd_d (fun hne => absurd rfl hne) (fun _ => ?_)
    rw [vInt_add (by omega) (by omega), ob_some, vInt_add (by omega) (by omega), ob_some]
    refine nxt (m - (i + 1)) (by omega) ⟨i + 1, rfl, by omega, rfl, h0, ?_, rfl⟩
    show Value.int .i64 (k + i + 1) = _
    congr 1; omega
  · have : i = m := by omega
    subst this
    exact retK (K := K) h1 hk
theorem C.slices_Clone_int64Zint64 {a : Value} {l : List Int} {H : Hp} {K : Value → Hp → Prop} (ha : Sl eI H a l) (hl : l.length ≤ 68719476736) (hk : ∀ v H', Own eI H' v l → Nw H v → Le H H' → K v H') :
    HT prg I.slices_Clone_int64Zint64 [a].toArray H K := by
  refine R.slices_Clone_int64Zint64 ?_
  unfold F.slices_Clone_int64Zint64
  obtain ⟨p, c, rfl, hc, hr⟩ := id ha
  show cnd (.bool p.isNone) _ _
  cases p with
  | none =>
    have : l = [] := by
      cases l with
      | nil => rfl
      | cons x r => obtain ⟨ad, h, _⟩ := hr 0 (by simp); cases h
    subst this
    exact hk _ H ⟨none, 0, rfl, by simp, fun h => absurd h (by simp)⟩ (fun b hb => by simp [bk] at hb) (Le.refl H)
  | some p => exact clone_i (b := 8) ha (fun _ => rfl) (by omega) hl (fun _ => hk)
def okSw (l m : List Int) : Prop := isLane l ∧ isLane m ∧ l.length = m.length
instance (l m : List Int) : Decidable (okSw l m) := by unfold okSw; infer_instance
end Go.Proofs.YtffmfkpobjdmmaaGreatDoor
