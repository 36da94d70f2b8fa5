/- Several texts in one. -/
import Derived.Test.YtffmfkpobjdmmaaGreatDoorG0
import Derived.Test.YtffmfkpobjdmmaaGreatDoorMCrashOf0
/- Functions' texts over a partial heap. -/
namespace Go.Proofs.YtffmfkpobjdmmaaGreatDoor
open HL
set_option linter.unusedVariables false
set_option maxRecDepth 100000
set_option maxHeartbeats 4000000
/-! (loop.example/g01381/impl.Field).name: function 47 -/
def F.impl_Field_name (a0 : Value) (H : Hp) (K : Value → Hp → Prop) : Prop :=
  nw (a0 : Value).cells 44 H fun v1x1 H2 =>
  ob (vLoadN 3 v1x1 H2) fun v11x3 =>
  HT prg I.impl_Field_trimmed [v11x3].toArray H2 fun v12x4 H5 =>
  ob (vExt v12x4 0) fun v13x6 =>
  ob (vExt v12x4 1) fun v14x7 =>
  ob (vExt v12x4 2) fun v15x8 =>
  ob (vExt v12x4 3) fun v16x9 =>
  nw #[(.int .i64 0), (.int .i64 0), (.slice none 0 0)] 44 H5 fun v3x10 H11 =>
  st 3 v3x10 v13x6 H11 fun H12 =>
  ob (vUn .not v16x9) fun v18x13 =>
  cnd v18x13
    (K (.string ⟨#[]⟩) H12)
    (bS 1 0 #[(.string ⟨#[]⟩)] 9 [] H12 fun v19x14 H15 =>
  jn (fun σ16 H16 =>
    HT prg I.slices_Min_string_string [(σ16 7)].toArray H16 fun v34x17 H18 =>
    K v34x17 H18) fun J16 =>
  ob (vLoadN 3 v3x10 H15) fun v20x19 =>
  HT prg I.impl_Field_images [v20x19].toArray H15 fun v21x20 H21 =>
  ob (vLenSl v21x20) fun v22x22 =>
  lpE (fun Q23 σ23 H23 =>
    ob (vInt .lss (σ23 23) (σ23 22)) fun v24x24 =>
    cnd v24x24
      (ob (vIx 3 (σ23 21) (σ23 23)) fun v25x25 =>
    ob (vLoadN 3 v25x25 H23) fun v26x26 =>
    nw #[(.int .i64 0), (.int .i64 0), (.slice none 0 0)] 44 H23 fun v9x27 H28 =>
    st 3 v9x27 v26x26 H28 fun H29 =>
    ob (vLoadN 3 v9x27 H29) fun v28x30 =>
    HT prg I.impl_Field_text [v28x30].toArray H29 fun v29x31 H32 =>
    bS 1 1 #[(.string ⟨#[]⟩)] 9 [(0, v29x31)] H32 fun v30x33 H34 =>
    apd 1 16 #[(.string ⟨#[]⟩)] 9 (σ23 7) v30x33 H34 fun v31x35 H36 =>
    ob (vInt .add (σ23 23) (.int .i64 1)) fun v32x37 =>
    Q23 .normal (up (up (up (up (up (up (up (up (up (up (up (up σ23 24 v24x24) 25 v25x25) 26 v26x26) 9 v9x27) 27 (σ23 7)) 28 v28x30) 29 v29x31) 30 v30x33) 31 v31x35) 7 v31x35) 32 v32x37) 23 v32x37) H36)
      (Q23 (.exit 0) (up σ23 24 v24x24) H23)) (blkQ 0 (thenQ J16 (retQ prg [(.tmp 2)] K))) (up (up (up (up (up (up (up (up (up (up (up (up (up (up (up (up (up (up (up (up (up (S0 [a0]) 1 v1x1) 2 (.string ⟨#[]⟩)) 11 v11x3) 12 v12x4) 10 v12x4) 13 v13x6) 14 v14x7) 15 v15x8) 16 v16x9) 3 v3x10) 4 v14x7) 5 v15x8) 6 v16x9) 17 v16x9) 18 v18x13) 19 v19x14) 7 v19x14) 20 v20x19) 21 v21x20) 22 v22x22) 23 (.int .i64 0)) H21)
def O.impl_Field_name : Nat → Nat × List Nat := fun i => (0, [])
theorem R.impl_Field_name {a0 : Value} {H : Hp} {K : Value → Hp → Prop} (h : F.impl_Field_name a0 H K) : HT prg I.impl_Field_name [a0].toArray H K :=
  HT_of_fev O.impl_Field_name mixed Tryz.func47 (by kernel_rfl) (Eq.mpr (by kernel_rfl : fev prg O.impl_Field_name Tryz.f47 [a0] H K = F.impl_Field_name a0 H K) h)

/-! slices.insertionSortOrdered[string]: function 110 -/
def F.slices_insertionSortOrdered_string (a0 a1 a2 : Value) (H : Hp) (K : Value → Hp → Prop) : Prop :=
  ob (vInt .add a1 (.int .i64 1)) fun v9x1 =>
  lpE (fun Q2 σ2 H2 =>
    ob (vInt .lss (σ2 6) (σ2 2)) fun v12x3 =>
    cnd v12x3
      (jn (fun σ4 H4 =>
      ob (vInt .add (σ4 6) (.int .i64 1)) fun v14x5 =>
      Q2 .normal (up (up (up σ4 13 (σ4 6)) 14 v14x5) 6 v14x5) H4) fun J4 =>
    lpE (fun Q6 σ6 H6 =>
      ob (vInt .gtr (σ6 7) (σ6 1)) fun v18x7 =>
      gop v18x7 true (fun K8 => K8 (σ6 0) H6) H6 fun v20x9 H10 =>
      gop v18x7 true (fun K11 => K11 (σ6 7) H10) H10 fun v21x12 H13 =>
      gop v18x7 true (fun K14 => ob (vIx 1 v20x9 v21x12) fun u => K14 u H13) H13 fun v22x15 H16 =>
      gop v18x7 true (fun K17 => ob (vLoad v22x15 H16) fun u => K17 u H16) H16 fun v23x18 H19 =>
      gop v18x7 true (fun K20 => K20 (σ6 0) H19) H19 fun v24x21 H22 =>
      gop v18x7 true (fun K23 => K23 (σ6 7) H22) H22 fun v25x24 H25 =>
      gop v18x7 true (fun K26 => ob (vInt .sub v25x24 (.int .i64 1)) fun u => K26 u H25) H25 fun v26x27 H28 =>
      gop v18x7 true (fun K29 => ob (vIx 1 v24x21 v26x27) fun u => K29 u H28) H28 fun v27x30 H31 =>
      gop v18x7 true (fun K32 => ob (vLoad v27x30 H31) fun u => K32 u H31) H31 fun v28x33 H34 =>
      gop v18x7 true (fun K35 => HT prg I.cmp_Less_string [v23x18, v28x33].toArray H34 fun v29x36 H37 =>
      Le H34 H37 ∧ K35 v29x36 H37) H34 fun v29x38 H39 =>
      ob (vPick v18x7 v29x38 (.bool false)) fun v30x40 =>
      cnd v30x40
        (ob (vInt .sub (σ6 7) (.int .i64 1)) fun v37x41 =>
      ob (vInt .sub (σ6 7) (.int .i64 1)) fun v40x42 =>
      ob (vIx 1 (σ6 0) v40x42) fun v41x43 =>
      ob (vLoad v41x43 H39) fun v42x44 =>
      ob (vIx 1 (σ6 0) (σ6 7)) fun v45x45 =>
      ob (vLoad v45x45 H39) fun v46x46 =>
      ob (vIx 1 (σ6 0) (σ6 7)) fun v47x47 =>
      st 1 v47x47 v42x44 H39 fun H48 =>
      ob (vIx 1 (σ6 0) v37x41) fun v48x49 =>
      st 1 v48x49 v46x46 H48 fun H50 =>
      ob (vInt .sub (σ6 7) (.int .i64 1)) fun v32x51 =>
      Q6 .normal (up (up (up (up (up (up (up (up (up (up (up (up (up (up (up (up (up (up (up (up (up (up (up (up (up (up (up (up (up (up (up (up (up (up σ6 16 (σ6 7)) 17 (σ6 1)) 18 v18x7) 19 v18x7) 20 v20x9) 21 v21x12) 22 v22x15) 23 v23x18) 24 v24x21) 25 v25x24) 26 v26x27) 27 v27x30) 28 v28x33) 29 v29x38) 30 v30x40) 33 (σ6 0)) 34 (σ6 7)) 35 (σ6 0)) 36 (σ6 7)) 37 v37x41) 38 (σ6 0)) 39 (σ6 7)) 40 v40x42) 41 v41x43) 42 v42x44) 43 (σ6 0)) 44 (σ6 7)) 45 v45x45) 46 v46x46) 47 v47x47) 48 v48x49) 31 (σ6 7)) 32 v32x51) 7 v32x51) H50)
        (Q6 (.exit 2) (up (up (up (up (up (up (up (up (up (up (up (up (up (up (up σ6 16 (σ6 7)) 17 (σ6 1)) 18 v18x7) 19 v18x7) 20 v20x9) 21 v21x12) 22 v22x15) 23 v23x18) 24 v24x21) 25 v25x24) 26 v26x27) 27 v27x30) 28 v28x33) 29 v29x38) 30 v30x40) H39)) (blkQ 2 (blkQ 1 (thenQ J4 Q2))) (up (up (up (up (up σ2 10 (σ2 6)) 11 (σ2 2)) 12 v12x3) 15 (σ2 6)) 7 (σ2 6)) H2)
      (Q2 (.exit 0) (up (up (up σ2 10 (σ2 6)) 11 (σ2 2)) 12 v12x3) H2)) (blkQ 0 (retQ prg [] K)) (up (up (up (S0 [a0, a1, a2]) 8 a1) 9 v9x1) 6 v9x1) H
def O.slices_insertionSortOrdered_string : Nat → Nat × List Nat := fun i => bif Nat.beq i 4 then (0, [0, 1, 2, 3, 4, 5, 6, 7, 8, 9, 10, 11, 12, 13, 14]) else bif Nat.beq i 6 then (0, [0, 1, 2, 3, 4, 5, 6, 7, 8, 9, 10, 11, 12, 13, 14, 15, 16, 17]) else (0, [])
theorem R.slices_insertionSortOrdered_string {a0 a1 a2 : Value} {H : Hp} {K : Value → Hp → Prop} (h : F.slices_insertionSortOrdered_string a0 a1 a2 H K) : HT prg I.slices_insertionSortOrdered_string [a0, a1, a2].toArray H K :=
  HT_of_fev O.slices_insertionSortOrdered_string mixed Tryz.func110 (by kernel_rfl) (Eq.mpr (by kernel_rfl : fev prg O.slices_insertionSortOrdered_string Tryz.f110 [a0, a1, a2] H K = F.slices_insertionSortOrdered_string a0 a1 a2 H K) h)

/-! math/bits.Len: function 85 -/
def F.math_bits_Len (a0 : Value) (H : Hp) (K : Value → Hp → Prop) : Prop :=
  cnd (.bool false)
    (ob (vCI .u32 a0) fun v4x1 =>
    HT prg I.math_bits_Len32 [v4x1].toArray H fun v5x2 H3 =>
    K v5x2 H3)
    (HT prg I.math_bits_Len64 [a0].toArray H fun v7x4 H5 =>
  K v7x4 H5)
def O.math_bits_Len : Nat → Nat × List Nat := fun i => (0, [])
theorem R.math_bits_Len {a0 : Value} {H : Hp} {K : Value → Hp → Prop} (h : F.math_bits_Len a0 H K) : HT prg I.math_bits_Len [a0].toArray H K :=
  HT_of_fev O.math_bits_Len mixed Tryz.func85 (by kernel_rfl) (Eq.mpr (by kernel_rfl : fev prg O.math_bits_Len Tryz.f85 [a0] H K = F.math_bits_Len a0 H K) h)

/-! slices.pdqsortOrdered[string]: function 84 -/
def F.slices_pdqsortOrdered_string (a0 a1 a2 a3 : Value) (H : Hp) (K : Value → Hp → Prop) : Prop :=
  lpE (fun Q1 σ1 H1 =>
    ob (vInt .sub (σ1 2) (σ1 1)) fun v21x2 =>
    ob (vInt .leq v21x2 (.int .i64 12)) fun v23x3 =>
    cnd v23x3
      (HT prg I.slices_insertionSortOrdered_string [(σ1 0), (σ1 1), (σ1 2)].toArray H1 fun v27x4 H5 =>
      Q1 .ret (up (up (up (up (up (up (up (up (up (up σ1 19 (σ1 2)) 20 (σ1 1)) 21 v21x2) 10 v21x2) 22 v21x2) 23 v23x3) 24 (σ1 0)) 25 (σ1 1)) 26 (σ1 2)) 27 v27x4) H5)
      (ob (vInt .eql (σ1 3) (.int .i64 0)) fun v29x6 =>
    cnd v29x6
      (HT prg I.slices_heapSortOrdered_string [(σ1 0), (σ1 1), (σ1 2)].toArray H1 fun v33x7 H8 =>
      Q1 .ret (up (up (up (up (up (up (up (up (up (up (up (up σ1 19 (σ1 2)) 20 (σ1 1)) 21 v21x2) 10 v21x2) 22 v21x2) 23 v23x3) 28 (σ1 3)) 29 v29x6) 30 (σ1 0)) 31 (σ1 1)) 32 (σ1 2)) 33 v33x7) H8)
      (jn (fun σ9 H9 =>
      HT prg I.slices_choosePivotOrdered_string [(σ9 0), (σ9 1), (σ9 2)].toArray H9 fun v46x10 H11 =>
      ob (vExt v46x10 0) fun v47x12 =>
      ob (vExt v46x10 1) fun v48x13 =>
      jn (fun σ14 H14 =>
        jn (fun σ15 H15 =>
          ob (vInt .gtr (σ15 1) (.int .i64 0)) fun v74x16 =>
          gop v74x16 true (fun K17 => K17 (σ15 0) H15) H15 fun v76x18 H19 =>
          gop v74x16 true (fun K20 => K20 (σ15 1) H19) H19 fun v77x21 H22 =>
          gop v74x16 true (fun K23 => ob (vInt .sub v77x21 (.int .i64 1)) fun u => K23 u H22) H22 fun v78x24 H25 =>
          gop v74x16 true (fun K26 => ob (vIx 1 v76x18 v78x24) fun u => K26 u H25) H25 fun v79x27 H28 =>
          gop v74x16 true (fun K29 => ob (vLoad v79x27 H28) fun u => K29 u H28) H28 fun v80x30 H31 =>
          gop v74x16 true (fun K32 => K32 (σ15 0) H31) H31 fun v81x33 H34 =>
          gop v74x16 true (fun K35 => K35 (σ15 11) H34) H34 fun v82x36 H37 =>
          gop v74x16 true (fun K38 => ob (vIx 1 v81x33 v82x36) fun u => K38 u H37) H37 fun v83x39 H40 =>
          gop v74x16 true (fun K41 => ob (vLoad v83x39 H40) fun u => K41 u H40) H40 fun v84x42 H43 =>
          gop v74x16 true (fun K44 => HT prg I.cmp_Less_string [v80x30, v84x42].toArray H43 fun v85x45 H46 =>
          Le H43 H46 ∧ K44 v85x45 H46) H43 fun v85x47 H48 =>
          gop v74x16 true (fun K49 => ob (vUn .not v85x47) fun u => K49 u H48) H48 fun v86x50 H51 =>
          ob (vPick v74x16 v86x50 (.bool false)) fun v87x52 =>
          cnd v87x52
            (HT prg I.slices_partitionEqualOrdered_string [(σ15 0), (σ15 1), (σ15 2), (σ15 11)].toArray H51 fun v92x53 H54 =>
            Q1 .normal (up (up (up (up (up (up (up (up (up (up (up (up (up (up (up (up (up (up (up (up (up (up (up σ15 73 (σ15 1)) 74 v74x16) 75 v74x16) 76 v76x18) 77 v77x21) 78 v78x24) 79 v79x27) 80 v80x30) 81 v81x33) 82 v82x36) 83 v83x39) 84 v84x42) 85 v85x47) 86 v86x50) 87 v87x52) 88 (σ15 0)) 89 (σ15 1)) 90 (σ15 2)) 91 (σ15 11)) 92 v92x53) 13 v92x53) 93 v92x53) 1 v92x53) H54)
            (HT prg I.slices_partitionOrdered_string [(σ15 0), (σ15 1), (σ15 2), (σ15 11)].toArray H51 fun v99x55 H56 =>
          ob (vExt v99x55 0) fun v100x57 =>
          ob (vExt v99x55 1) fun v101x58 =>
          ob (vInt .sub v100x57 (σ15 1)) fun v105x59 =>
          ob (vInt .sub (σ15 2) v100x57) fun v108x60 =>
          ob (vInt .quo (σ15 10) (.int .i64 8)) fun v110x61 =>
          ob (vInt .lss v105x59 v108x60) fun v113x62 =>
          cnd v113x62
            (ob (vInt .geq v105x59 v110x61) fun v116x63 =>
            HT prg I.slices_pdqsortOrdered_string [(σ15 0), (σ15 1), v100x57, (σ15 3)].toArray H56 fun v121x64 H65 =>
            ob (vInt .add v100x57 (.int .i64 1)) fun v123x66 =>
            Q1 .normal (up (up (up (up (up (up (up (up (up (up (up (up (up (up (up (up (up (up (up (up (up (up (up (up (up (up (up (up (up (up (up (up (up (up (up (up (up (up (up (up (up (up (up (up (up (up (up (up (up (up (up (up (up σ15 73 (σ15 1)) 74 v74x16) 75 v74x16) 76 v76x18) 77 v77x21) 78 v78x24) 79 v79x27) 80 v80x30) 81 v81x33) 82 v82x36) 83 v83x39) 84 v84x42) 85 v85x47) 86 v86x50) 87 v87x52) 95 (σ15 0)) 96 (σ15 1)) 97 (σ15 2)) 98 (σ15 11)) 99 v99x55) 94 v99x55) 100 v100x57) 101 v101x58) 14 v100x57) 15 v101x58) 102 v101x58) 9 v101x58) 103 v100x57) 104 (σ15 1)) 105 v105x59) 106 (σ15 2)) 107 v100x57) 108 v108x60) 16 v105x59) 17 v108x60) 109 (σ15 10)) 110 v110x61) 18 v110x61) 111 v105x59) 112 v108x60) 113 v113x62) 114 v105x59) 115 v110x61) 116 v116x63) 8 v116x63) 117 (σ15 0)) 118 (σ15 1)) 119 v100x57) 120 (σ15 3)) 121 v121x64) 122 v100x57) 123 v123x66) 1 v123x66) H65)
            (ob (vInt .geq v108x60 v110x61) fun v126x67 =>
            ob (vInt .add v100x57 (.int .i64 1)) fun v129x68 =>
            HT prg I.slices_pdqsortOrdered_string [(σ15 0), v129x68, (σ15 2), (σ15 3)].toArray H56 fun v132x69 H70 =>
            Q1 .normal (up (up (up (up (up (up (up (up (up (up (up (up (up (up (up (up (up (up (up (up (up (up (up (up (up (up (up (up (up (up (up (up (up (up (up (up (up (up (up (up (up (up (up (up (up (up (up (up (up (up (up (up (up σ15 73 (σ15 1)) 74 v74x16) 75 v74x16) 76 v76x18) 77 v77x21) 78 v78x24) 79 v79x27) 80 v80x30) 81 v81x33) 82 v82x36) 83 v83x39) 84 v84x42) 85 v85x47) 86 v86x50) 87 v87x52) 95 (σ15 0)) 96 (σ15 1)) 97 (σ15 2)) 98 (σ15 11)) 99 v99x55) 94 v99x55) 100 v100x57) 101 v101x58) 14 v100x57) 15 v101x58) 102 v101x58) 9 v101x58) 103 v100x57) 104 (σ15 1)) 105 v105x59) 106 (σ15 2)) 107 v100x57) 108 v108x60) 16 v105x59) 17 v108x60) 109 (σ15 10)) 110 v110x61) 18 v110x61) 111 v105x59) 112 v108x60) 113 v113x62) 124 v108x60) 125 v110x61) 126 v126x67) 8 v126x67) 127 (σ15 0)) 128 v100x57) 129 v129x68) 130 (σ15 2)) 131 (σ15 3)) 132 v132x69) 133 v100x57) 2 v100x57) H70))) fun J15 =>
        gop (σ14 8) true (fun K71 => K71 (σ14 9) H14) H14 fun v63x72 H73 =>
        ob (vPick (σ14 8) v63x72 (.bool false)) fun v64x74 =>
        gop v64x74 true (fun K75 => K75 (σ14 12) H73) H73 fun v66x76 H77 =>
        gop v64x74 true (fun K78 => ob (vInt .eql v66x76 (.int .i64 1)) fun u => K78 u H77) H77 fun v67x79 H80 =>
        ob (vPick v64x74 v67x79 (.bool false)) fun v68x81 =>
        cnd v68x81
          (HT prg I.slices_partialInsertionSortOrdered_string [(σ14 0), (σ14 1), (σ14 2)].toArray H80 fun v72x82 H83 =>
          cnd v72x82
            (Q1 .ret (up (up (up (up (up (up (up (up (up (up (up (up σ14 61 (σ14 8)) 62 (σ14 8)) 63 v63x72) 64 v64x74) 65 v64x74) 66 v66x76) 67 v67x79) 68 v68x81) 69 (σ14 0)) 70 (σ14 1)) 71 (σ14 2)) 72 v72x82) H83)
            (J15 (up (up (up (up (up (up (up (up (up (up (up (up σ14 61 (σ14 8)) 62 (σ14 8)) 63 v63x72) 64 v64x74) 65 v64x74) 66 v66x76) 67 v67x79) 68 v68x81) 69 (σ14 0)) 70 (σ14 1)) 71 (σ14 2)) 72 v72x82) H83))
          (J15 (up (up (up (up (up (up (up (up σ14 61 (σ14 8)) 62 (σ14 8)) 63 v63x72) 64 v64x74) 65 v64x74) 66 v66x76) 67 v67x79) 68 v68x81) H80)) fun J14 =>
      ob (vInt .eql v48x13 (.int .i64 2)) fun v50x84 =>
      cnd v50x84
        (HT prg I.slices_reverseRangeOrdered_string [(σ9 0), (σ9 1), (σ9 2)].toArray H11 fun v54x85 H86 =>
        ob (vInt .sub (σ9 2) (.int .i64 1)) fun v56x87 =>
        ob (vInt .sub v47x12 (σ9 1)) fun v59x88 =>
        ob (vInt .sub v56x87 v59x88) fun v60x89 =>
        J14 (up (up (up (up (up (up (up (up (up (up (up (up (up (up (up (up (up (up (up (up (up (up (up σ9 43 (σ9 0)) 44 (σ9 1)) 45 (σ9 2)) 46 v46x10) 42 v46x10) 47 v47x12) 48 v48x13) 11 v47x12) 12 v48x13) 49 v48x13) 50 v50x84) 51 (σ9 0)) 52 (σ9 1)) 53 (σ9 2)) 54 v54x85) 55 (σ9 2)) 56 v56x87) 57 v47x12) 58 (σ9 1)) 59 v59x88) 60 v60x89) 11 v60x89) 12 (.int .i64 1)) H86)
        (J14 (up (up (up (up (up (up (up (up (up (up (up σ9 43 (σ9 0)) 44 (σ9 1)) 45 (σ9 2)) 46 v46x10) 42 v46x10) 47 v47x12) 48 v48x13) 11 v47x12) 12 v48x13) 49 v48x13) 50 v50x84) H11)) fun J9 =>
    ob (vUn .not (σ1 8)) fun v35x90 =>
    cnd v35x90
      (HT prg I.slices_breakPatternsOrdered_string [(σ1 0), (σ1 1), (σ1 2)].toArray H1 fun v39x91 H92 =>
      ob (vInt .sub (σ1 3) (.int .i64 1)) fun v41x93 =>
      J9 (up (up (up (up (up (up (up (up (up (up (up (up (up (up (up (up (up σ1 19 (σ1 2)) 20 (σ1 1)) 21 v21x2) 10 v21x2) 22 v21x2) 23 v23x3) 28 (σ1 3)) 29 v29x6) 34 (σ1 8)) 35 v35x90) 36 (σ1 0)) 37 (σ1 1)) 38 (σ1 2)) 39 v39x91) 40 (σ1 3)) 41 v41x93) 3 v41x93) H92)
      (J9 (up (up (up (up (up (up (up (up (up (up σ1 19 (σ1 2)) 20 (σ1 1)) 21 v21x2) 10 v21x2) 22 v21x2) 23 v23x3) 28 (σ1 3)) 29 v29x6) 34 (σ1 8)) 35 v35x90) H1)))) (blkQ 0 (retQ prg [] K)) (up (up (S0 [a0, a1, a2, a3]) 8 (.bool true)) 9 (.bool true)) H
def O.slices_pdqsortOrdered_string : Nat → Nat × List Nat := fun i => bif Nat.beq i 17 then (0, [0, 1, 2, 3, 4, 5, 6, 7, 8, 9, 10, 11, 12, 13, 14]) else (0, [])
theorem R.slices_pdqsortOrdered_string {a0 a1 a2 a3 : Value} {H : Hp} {K : Value → Hp → Prop} (h : F.slices_pdqsortOrdered_string a0 a1 a2 a3 H K) : HT prg I.slices_pdqsortOrdered_string [a0, a1, a2, a3].toArray H K :=
  HT_of_fev O.slices_pdqsortOrdered_string mixed Tryz.func84 (by kernel_rfl) (Eq.mpr (by kernel_rfl : fev prg O.slices_pdqsortOrdered_string Tryz.f84 [a0, a1, a2, a3] H K = F.slices_pdqsortOrdered_string a0 a1 a2 a3 H K) h)

/-! slices.Sort[[]string,string]: function 48 -/
def F.slices_Sort_string_string (a0 : Value) (H : Hp) (K : Value → Hp → Prop) : Prop :=
  ob (vLenSl a0) fun v4x1 =>
  ob (vCI .u64 v4x1) fun v8x2 =>
  HT prg I.math_bits_Len [v8x2].toArray H fun v9x3 H4 =>
  HT prg I.slices_pdqsortOrdered_string [a0, (.int .i64 0), v4x1, v9x3].toArray H4 fun v10x5 H6 =>
  K (.tuple #[]) H6
def O.slices_Sort_string_string : Nat → Nat × List Nat := fun i => (0, [])
theorem R.slices_Sort_string_string {a0 : Value} {H : Hp} {K : Value → Hp → Prop} (h : F.slices_Sort_string_string a0 H K) : HT prg I.slices_Sort_string_string [a0].toArray H K :=
  HT_of_fev O.slices_Sort_string_string mixed Tryz.func48 (by kernel_rfl) (Eq.mpr (by kernel_rfl : fev prg O.slices_Sort_string_string Tryz.f48 [a0] H K = F.slices_Sort_string_string a0 H K) h)

/-! loop.example/g01381/impl.CensusOf: function 28 -/
def F.impl_CensusOf (a0 : Value) (H : Hp) (K : Value → Hp → Prop) : Prop :=
  nw (a0 : Value).cells 44 H fun v1x1 H2 =>
  ob (vLoadN 3 v1x1 H2) fun v16x3 =>
  HT prg I.impl_PartsOf [v16x3].toArray H2 fun v17x4 H5 =>
  ob (vExt v17x4 0) fun v18x6 =>
  ob (vExt v17x4 1) fun v19x7 =>
  ob (vExt v17x4 2) fun v20x8 =>
  ob (vUn .not v20x8) fun v22x9 =>
  cnd v22x9
    (K (.tuple #[(.slice none 0 0), (.slice none 0 0), (.bool false)]) H5)
    (bS 1 0 #[(.string ⟨#[]⟩)] 9 [] H5 fun v23x10 H11 =>
  jn (fun σ12 H12 =>
    HT prg I.slices_Sort_string_string [(σ12 8)].toArray H12 fun v37x13 H14 =>
    bS 1 0 #[(.string ⟨#[]⟩)] 9 [] H14 fun v38x15 H16 =>
    bS 1 0 #[(.int .i64 0)] 2 [] H16 fun v39x17 H18 =>
    jn (fun σ19 H19 =>
      ob (vLenSl (σ19 11)) fun v76x20 =>
      ob (vInt .gtr v76x20 (.int .i64 64)) fun v77x21 =>
      cnd v77x21
        (K (.tuple #[(.slice none 0 0), (.slice none 0 0), (.bool false)]) H19)
        (K (.tuple #[(σ19 11), (σ19 12), (.bool true)]) H19)) fun J19 =>
    ob (vLenSl (σ12 8)) fun v41x22 =>
    lpE (fun Q23 σ23 H23 =>
      ob (vInt .lss (σ23 42) (σ23 41)) fun v43x24 =>
      cnd v43x24
        (ob (vIx 1 (σ23 40) (σ23 42)) fun v44x25 =>
      ob (vLoad v44x25 H23) fun v45x26 =>
      ob (vLenSl (σ23 11)) fun v47x27 =>
      ob (vInt .eql v47x27 (.int .i64 0)) fun v48x28 =>
      gop v48x28 false (fun K29 => K29 (σ23 11) H23) H23 fun v50x30 H31 =>
      gop v48x28 false (fun K32 => K32 (σ23 11) H31) H31 fun v51x33 H34 =>
      gop v48x28 false (fun K35 => ob (vLenSl v51x33) fun u => K35 u H34) H34 fun v52x36 H37 =>
      gop v48x28 false (fun K38 => ob (vInt .sub v52x36 (.int .i64 1)) fun u => K38 u H37) H37 fun v53x39 H40 =>
      gop v48x28 false (fun K41 => ob (vIx 1 v50x30 v53x39) fun u => K41 u H40) H40 fun v54x42 H43 =>
      gop v48x28 false (fun K44 => ob (vLoad v54x42 H43) fun u => K44 u H43) H43 fun v55x45 H46 =>
      gop v48x28 false (fun K47 => K47 v45x26 H46) H46 fun v56x48 H49 =>
      gop v48x28 false (fun K50 => ob (vStr .neq v55x45 v56x48) fun u => K50 u H49) H49 fun v57x51 H52 =>
      ob (vPick v48x28 (.bool true) v57x51) fun v58x53 =>
      cnd v58x53
        (bS 1 1 #[(.string ⟨#[]⟩)] 9 [(0, v45x26)] H52 fun v61x54 H55 =>
        apd 1 16 #[(.string ⟨#[]⟩)] 9 (σ23 11) v61x54 H55 fun v62x56 H57 =>
        bS 1 1 #[(.int .i64 0)] 2 [(0, (.int .i64 0))] H57 fun v64x58 H59 =>
        apd 1 8 #[(.int .i64 0)] 2 (σ23 12) v64x58 H59 fun v65x60 H61 =>
        ob (vLenSl v65x60) fun v68x62 =>
      ob (vInt .sub v68x62 (.int .i64 1)) fun v69x63 =>
      ob (vIx 1 v65x60 v69x63) fun v70x64 =>
      ob (vLoad v70x64 H61) fun v71x65 =>
      ob (vInt .add v71x65 (.int .i64 1)) fun v72x66 =>
      ob (vIx 1 v65x60 v69x63) fun v73x67 =>
      st 1 v73x67 v72x66 H61 fun H68 =>
      ob (vInt .add (σ23 42) (.int .i64 1)) fun v74x69 =>
      Q23 .normal (up (up (up (up (up (up (up (up (up (up (up (up (up (up (up (up (up (up (up (up (up (up (up (up (up (up (up (up (up (up (up (up (up (up (up (up σ23 43 v43x24) 44 v44x25) 45 v45x26) 14 v45x26) 46 (σ23 11)) 47 v47x27) 48 v48x28) 49 v48x28) 50 v50x30) 51 v51x33) 52 v52x36) 53 v53x39) 54 v54x42) 55 v55x45) 56 v56x48) 57 v57x51) 58 v58x53) 59 (σ23 11)) 60 v45x26) 61 v61x54) 62 v62x56) 63 (σ23 12)) 64 v64x58) 65 v65x60) 11 v62x56) 12 v65x60) 66 v65x60) 67 v65x60) 68 v68x62) 69 v69x63) 70 v70x64) 71 v71x65) 72 v72x66) 73 v73x67) 74 v74x69) 42 v74x69) H68)
        (ob (vLenSl (σ23 12)) fun v68x70 =>
      ob (vInt .sub v68x70 (.int .i64 1)) fun v69x71 =>
      ob (vIx 1 (σ23 12) v69x71) fun v70x72 =>
      ob (vLoad v70x72 H52) fun v71x73 =>
      ob (vInt .add v71x73 (.int .i64 1)) fun v72x74 =>
      ob (vIx 1 (σ23 12) v69x71) fun v73x75 =>
      st 1 v73x75 v72x74 H52 fun H76 =>
      ob (vInt .add (σ23 42) (.int .i64 1)) fun v74x77 =>
      Q23 .normal (up (up (up (up (up (up (up (up (up (up (up (up (up (up (up (up (up (up (up (up (up (up (up (up (up (up (up σ23 43 v43x24) 44 v44x25) 45 v45x26) 14 v45x26) 46 (σ23 11)) 47 v47x27) 48 v48x28) 49 v48x28) 50 v50x30) 51 v51x33) 52 v52x36) 53 v53x39) 54 v54x42) 55 v55x45) 56 v56x48) 57 v57x51) 58 v58x53) 66 (σ23 12)) 67 (σ23 12)) 68 v68x70) 69 v69x71) 70 v70x72) 71 v71x73) 72 v72x74) 73 v73x75) 74 v74x77) 42 v74x77) H76))
        (Q23 (.exit 2) (up σ23 43 v43x24) H23)) (blkQ 2 (thenQ J19 (retQ prg [(.tmp 2), (.tmp 3), (.tmp 4)] K))) (up (up (up (up (up (up (up (up (up σ12 36 (σ12 8)) 37 v37x13) 38 v38x15) 39 v39x17) 11 v38x15) 12 v39x17) 40 (σ12 8)) 41 v41x22) 42 (.int .i64 0)) H18) fun J12 =>
  ob (vLenSl v18x6) fun v25x78 =>
  lpE (fun Q79 σ79 H79 =>
    ob (vInt .lss (σ79 26) (σ79 25)) fun v27x80 =>
    cnd v27x80
      (ob (vIx 3 (σ79 24) (σ79 26)) fun v28x81 =>
    ob (vLoadN 3 v28x81 H79) fun v29x82 =>
    nw #[(.int .i64 0), (.int .i64 0), (.slice none 0 0)] 44 H79 fun v10x83 H84 =>
    st 3 v10x83 v29x82 H84 fun H85 =>
    ob (vLoadN 3 v10x83 H85) fun v31x86 =>
    HT prg I.impl_Field_name [v31x86].toArray H85 fun v32x87 H88 =>
    bS 1 1 #[(.string ⟨#[]⟩)] 9 [(0, v32x87)] H88 fun v33x89 H90 =>
    apd 1 16 #[(.string ⟨#[]⟩)] 9 (σ79 8) v33x89 H90 fun v34x91 H92 =>
    ob (vInt .add (σ79 26) (.int .i64 1)) fun v35x93 =>
    Q79 .normal (up (up (up (up (up (up (up (up (up (up (up (up σ79 27 v27x80) 28 v28x81) 29 v29x82) 10 v10x83) 30 (σ79 8)) 31 v31x86) 32 v32x87) 33 v33x89) 34 v34x91) 8 v34x91) 35 v35x93) 26 v35x93) H92)
      (Q79 (.exit 0) (up σ79 27 v27x80) H79)) (blkQ 0 (thenQ J12 (retQ prg [(.tmp 2), (.tmp 3), (.tmp 4)] K))) (up (up (up (up (up (up (up (up (up (up (up (up (up (up (up (up (up (up (up (up (S0 [a0]) 1 v1x1) 2 (.slice none 0 0)) 3 (.slice none 0 0)) 4 (.bool false)) 16 v16x3) 17 v17x4) 15 v17x4) 18 v18x6) 19 v19x7) 20 v20x8) 5 v18x6) 6 v19x7) 7 v20x8) 21 v20x8) 22 v22x9) 23 v23x10) 8 v23x10) 24 v18x6) 25 v25x78) 26 (.int .i64 0)) H11)
def O.impl_CensusOf : Nat → Nat × List Nat := fun i => (0, [])
theorem R.impl_CensusOf {a0 : Value} {H : Hp} {K : Value → Hp → Prop} (h : F.impl_CensusOf a0 H K) : HT prg I.impl_CensusOf [a0].toArray H K :=
  HT_of_fev O.impl_CensusOf mixed Tryz.func28 (by kernel_rfl) (Eq.mpr (by kernel_rfl : fev prg O.impl_CensusOf Tryz.f28 [a0] H K = F.impl_CensusOf a0 H K) h)

/-! loop.example/g01381/laws.eqStringS: function 9 -/
def F.laws_eqStringS (a0 a1 : Value) (H : Hp) (K : Value → Hp → Prop) : Prop :=
  ob (vLenSl a0) fun v7x1 =>
  ob (vLenSl a1) fun v9x2 =>
  ob (vInt .neq v7x1 v9x2) fun v10x3 =>
  cnd v10x3
    (K (.bool false) H)
    (jn (fun σ4 H4 =>
    K (.bool true) H4) fun J4 =>
  lpE (fun Q5 σ5 H5 =>
    ob (vLenSl (σ5 0)) fun v13x6 =>
    ob (vInt .lss (σ5 5) v13x6) fun v14x7 =>
    cnd v14x7
      (ob (vIx 1 (σ5 0) (σ5 5)) fun v19x8 =>
    ob (vLoad v19x8 H5) fun v20x9 =>
    ob (vIx 1 (σ5 1) (σ5 5)) fun v23x10 =>
    ob (vLoad v23x10 H5) fun v24x11 =>
    ob (vStr .neq v20x9 v24x11) fun v25x12 =>
    cnd v25x12
      (Q5 .ret (up (up (up (up (up (up (up (up (up (up (up (up (up (up σ5 11 (σ5 5)) 12 (σ5 0)) 13 v13x6) 14 v14x7) 17 (σ5 0)) 18 (σ5 5)) 19 v19x8) 20 v20x9) 21 (σ5 1)) 22 (σ5 5)) 23 v23x10) 24 v24x11) 25 v25x12) 4 (.bool false)) H5)
      (ob (vInt .add (σ5 5) (.int .i64 1)) fun v16x13 =>
    Q5 .normal (up (up (up (up (up (up (up (up (up (up (up (up (up (up (up (up σ5 11 (σ5 5)) 12 (σ5 0)) 13 v13x6) 14 v14x7) 17 (σ5 0)) 18 (σ5 5)) 19 v19x8) 20 v20x9) 21 (σ5 1)) 22 (σ5 5)) 23 v23x10) 24 v24x11) 25 v25x12) 15 (σ5 5)) 16 v16x13) 5 v16x13) H5))
      (Q5 (.exit 0) (up (up (up (up σ5 11 (σ5 5)) 12 (σ5 0)) 13 v13x6) 14 v14x7) H5)) (blkQ 0 (thenQ J4 (retQ prg [(.tmp 4)] K))) (up (up (up (up (up (up (up (S0 [a0, a1]) 4 (.bool false)) 6 a0) 7 v7x1) 8 a1) 9 v9x2) 10 v10x3) 5 (.int .i64 0)) H)
def O.laws_eqStringS : Nat → Nat × List Nat := fun i => bif Nat.beq i 6 then (0, [0, 1, 2, 3, 4, 5, 6, 7, 8]) else (0, [])
theorem R.laws_eqStringS {a0 a1 : Value} {H : Hp} {K : Value → Hp → Prop} (h : F.laws_eqStringS a0 a1 H K) : HT prg I.laws_eqStringS [a0, a1].toArray H K :=
  HT_of_fev O.laws_eqStringS mixed Tryz.func9 (by kernel_rfl) (Eq.mpr (by kernel_rfl : fev prg O.laws_eqStringS Tryz.f9 [a0, a1] H K = F.laws_eqStringS a0 a1 H K) h)

/-! loop.example/g01381/laws.eqInt64S: function 10 -/
def F.laws_eqInt64S (a0 a1 : Value) (H : Hp) (K : Value → Hp → Prop) : Prop :=
  ob (vLenSl a0) fun v7x1 =>
  ob (vLenSl a1) fun v9x2 =>
  ob (vInt .neq v7x1 v9x2) fun v10x3 =>
  cnd v10x3
    (K (.bool false) H)
    (jn (fun σ4 H4 =>
    K (.bool true) H4) fun J4 =>
  lpE (fun Q5 σ5 H5 =>
    ob (vLenSl (σ5 0)) fun v13x6 =>
    ob (vInt .lss (σ5 5) v13x6) fun v14x7 =>
    cnd v14x7
      (ob (vIx 1 (σ5 0) (σ5 5)) fun v19x8 =>
    ob (vLoad v19x8 H5) fun v20x9 =>
    ob (vIx 1 (σ5 1) (σ5 5)) fun v23x10 =>
    ob (vLoad v23x10 H5) fun v24x11 =>
    ob (vInt .neq v20x9 v24x11) fun v25x12 =>
    cnd v25x12
      (Q5 .ret (up (up (up (up (up (up (up (up (up (up (up (up (up (up σ5 11 (σ5 5)) 12 (σ5 0)) 13 v13x6) 14 v14x7) 17 (σ5 0)) 18 (σ5 5)) 19 v19x8) 20 v20x9) 21 (σ5 1)) 22 (σ5 5)) 23 v23x10) 24 v24x11) 25 v25x12) 4 (.bool false)) H5)
      (ob (vInt .add (σ5 5) (.int .i64 1)) fun v16x13 =>
    Q5 .normal (up (up (up (up (up (up (up (up (up (up (up (up (up (up (up (up σ5 11 (σ5 5)) 12 (σ5 0)) 13 v13x6) 14 v14x7) 17 (σ5 0)) 18 (σ5 5)) 19 v19x8) 20 v20x9) 21 (σ5 1)) 22 (σ5 5)) 23 v23x10) 24 v24x11) 25 v25x12) 15 (σ5 5)) 16 v16x13) 5 v16x13) H5))
      (Q5 (.exit 0) (up (up (up (up σ5 11 (σ5 5)) 12 (σ5 0)) 13 v13x6) 14 v14x7) H5)) (blkQ 0 (thenQ J4 (retQ prg [(.tmp 4)] K))) (up (up (up (up (up (up (up (S0 [a0, a1]) 4 (.bool false)) 6 a0) 7 v7x1) 8 a1) 9 v9x2) 10 v10x3) 5 (.int .i64 0)) H)
def O.laws_eqInt64S : Nat → Nat × List Nat := fun i => bif Nat.beq i 6 then (0, [0, 1, 2, 3, 4, 5, 6, 7, 8]) else (0, [])
theorem R.laws_eqInt64S {a0 a1 : Value} {H : Hp} {K : Value → Hp → Prop} (h : F.laws_eqInt64S a0 a1 H K) : HT prg I.laws_eqInt64S [a0, a1].toArray H K :=
  HT_of_fev O.laws_eqInt64S mixed Tryz.func10 (by kernel_rfl) (Eq.mpr (by kernel_rfl : fev prg O.laws_eqInt64S Tryz.f10 [a0, a1] H K = F.laws_eqInt64S a0 a1 H K) h)

/-! loop.example/g01381/laws.eqLife: function 11 -/
def F.laws_eqLife (a0 a1 : Value) (H : Hp) (K : Value → Hp → Prop) : Prop :=
  nw (a0 : Value).cells 30 H fun v2x1 H2 =>
  nw (a1 : Value).cells 30 H2 fun v3x3 H4 =>
  ob (vFa 0 v2x1) fun v5x5 =>
  ob (vLoad v5x5 H4) fun v6x6 =>
  ob (vFa 0 v3x3) fun v7x7 =>
  ob (vLoad v7x7 H4) fun v8x8 =>
  HT prg I.laws_eqInt64S [v6x6, v8x8].toArray H4 fun v9x9 H10 =>
  ob (vUn .not v9x9) fun v10x11 =>
  cnd v10x11
    (K (.bool false) H10)
    (ob (vFa 1 v2x1) fun v11x12 =>
  ob (vLoad v11x12 H10) fun v12x13 =>
  ob (vFa 1 v3x3) fun v13x14 =>
  ob (vLoad v13x14 H10) fun v14x15 =>
  HT prg I.laws_eqInt64S [v12x13, v14x15].toArray H10 fun v15x16 H17 =>
  ob (vUn .not v15x16) fun v16x18 =>
  cnd v16x18
    (K (.bool false) H17)
    (K (.bool true) H17))
def O.laws_eqLife : Nat → Nat × List Nat := fun i => (0, [])
theorem R.laws_eqLife {a0 a1 : Value} {H : Hp} {K : Value → Hp → Prop} (h : F.laws_eqLife a0 a1 H K) : HT prg I.laws_eqLife [a0, a1].toArray H K :=
  HT_of_fev O.laws_eqLife mixed Tryz.func11 (by kernel_rfl) (Eq.mpr (by kernel_rfl : fev prg O.laws_eqLife Tryz.f11 [a0, a1] H K = F.laws_eqLife a0 a1 H K) h)

/-! loop.example/g01381/laws.markInt64S: function 14 -/
def F.laws_markInt64S (a0 a1 : Value) (H : Hp) (K : Value → Hp → Prop) : Prop :=
  jn (fun σ1 H1 =>
    K (σ1 1) H1) fun J1 =>
  lpE (fun Q2 σ2 H2 =>
    ob (vLenSl (σ2 0)) fun v8x3 =>
    ob (vInt .lss (σ2 5) v8x3) fun v9x4 =>
    cnd v9x4
      (ob (vIx 1 (σ2 0) (σ2 5)) fun v15x5 =>
    st 1 v15x5 (σ2 1) H2 fun H6 =>
    ob (vInt .add (σ2 1) (.int .i64 1)) fun v17x7 =>
    ob (vInt .add (σ2 5) (.int .i64 1)) fun v11x8 =>
    Q2 .normal (up (up (up (up (up (up (up (up (up (up (up (up (up (up σ2 6 (σ2 5)) 7 (σ2 0)) 8 v8x3) 9 v9x4) 12 (σ2 0)) 13 (σ2 5)) 14 (σ2 1)) 15 v15x5) 16 (σ2 1)) 17 v17x7) 1 v17x7) 10 (σ2 5)) 11 v11x8) 5 v11x8) H6)
      (Q2 (.exit 0) (up (up (up (up σ2 6 (σ2 5)) 7 (σ2 0)) 8 v8x3) 9 v9x4) H2)) (blkQ 0 (thenQ J1 (retQ prg [(.tmp 4)] K))) (up (up (S0 [a0, a1]) 4 (.int .i64 0)) 5 (.int .i64 0)) H
def O.laws_markInt64S : Nat → Nat × List Nat := fun i => (0, [])
theorem R.laws_markInt64S {a0 a1 : Value} {H : Hp} {K : Value → Hp → Prop} (h : F.laws_markInt64S a0 a1 H K) : HT prg I.laws_markInt64S [a0, a1].toArray H K :=
  HT_of_fev O.laws_markInt64S mixed Tryz.func14 (by kernel_rfl) (Eq.mpr (by kernel_rfl : fev prg O.laws_markInt64S Tryz.f14 [a0, a1] H K = F.laws_markInt64S a0 a1 H K) h)

/-! loop.example/g01381/laws.markLife: function 12 -/
def F.laws_markLife (a0 a1 : Value) (H : Hp) (K : Value → Hp → Prop) : Prop :=
  nw (a0 : Value).cells 30 H fun v2x1 H2 =>
  ob (vFa 0 v2x1) fun v5x3 =>
  ob (vLoad v5x3 H2) fun v6x4 =>
  HT prg I.laws_markInt64S [v6x4, a1].toArray H2 fun v8x5 H6 =>
  ob (vFa 1 v2x1) fun v9x7 =>
  ob (vLoad v9x7 H6) fun v10x8 =>
  HT prg I.laws_markInt64S [v10x8, v8x5].toArray H6 fun v12x9 H10 =>
  K v12x9 H10
def O.laws_markLife : Nat → Nat × List Nat := fun i => (0, [])
theorem R.laws_markLife {a0 a1 : Value} {H : Hp} {K : Value → Hp → Prop} (h : F.laws_markLife a0 a1 H K) : HT prg I.laws_markLife [a0, a1].toArray H K :=
  HT_of_fev O.laws_markLife mixed Tryz.func12 (by kernel_rfl) (Eq.mpr (by kernel_rfl : fev prg O.laws_markLife Tryz.f12 [a0, a1] H K = F.laws_markLife a0 a1 H K) h)

/-! loop.example/g01381/laws.markText: function 29 -/
def F.laws_markText (a0 : Value) (H : Hp) (K : Value → Hp → Prop) : Prop :=
  ob (vInt .leq a0 (.int .i64 0)) fun v5x1 =>
  cnd v5x1
    (K (.string ⟨#[109, 48]⟩) H)
    (jn (fun σ2 H2 =>
    ob (vStr .add (.string ⟨#[109]⟩) (σ2 3)) fun v19x3 =>
    K v19x3 H2) fun J2 =>
  lpE (fun Q4 σ4 H4 =>
    ob (vInt .gtr (σ4 0) (.int .i64 0)) fun v7x5 =>
    cnd v7x5
      (ob (vInt .rem (σ4 0) (.int .i64 10)) fun v9x6 =>
    ob (vInt .add (.int .i64 48) v9x6) fun v10x7 =>
    ob (vCI .u8 v10x7) fun v11x8 =>
    bS 1 1 #[(.int .u8 0)] 5 [(0, v11x8)] H4 fun v12x9 H10 =>
    ob (val prg (convert 78 9 v12x9) H10) fun v13x11 =>
    ob (vStr .add v13x11 (σ4 3)) fun v15x12 =>
    ob (vInt .quo (σ4 0) (.int .i64 10)) fun v17x13 =>
    Q4 .normal (up (up (up (up (up (up (up (up (up (up (up (up (up (up σ4 6 (σ4 0)) 7 v7x5) 8 (σ4 0)) 9 v9x6) 10 v10x7) 11 v11x8) 12 v12x9) 13 v13x11) 14 (σ4 3)) 15 v15x12) 3 v15x12) 16 (σ4 0)) 17 v17x13) 0 v17x13) H10)
      (Q4 (.exit 0) (up (up σ4 6 (σ4 0)) 7 v7x5) H4)) (blkQ 0 (thenQ J2 (retQ prg [(.tmp 2)] K))) (up (up (up (up (S0 [a0]) 2 (.string ⟨#[]⟩)) 4 a0) 5 v5x1) 3 (.string ⟨#[]⟩)) H)
def O.laws_markText : Nat → Nat × List Nat := fun i => (0, [])
theorem R.laws_markText {a0 : Value} {H : Hp} {K : Value → Hp → Prop} (h : F.laws_markText a0 H K) : HT prg I.laws_markText [a0].toArray H K :=
  HT_of_fev O.laws_markText mixed Tryz.func29 (by kernel_rfl) (Eq.mpr (by kernel_rfl : fev prg O.laws_markText Tryz.f29 [a0] H K = F.laws_markText a0 H K) h)

/-! loop.example/g01381/laws.markStringS: function 13 -/
def F.laws_markStringS (a0 a1 : Value) (H : Hp) (K : Value → Hp → Prop) : Prop :=
  jn (fun σ1 H1 =>
    K (σ1 1) H1) fun J1 =>
  lpE (fun Q2 σ2 H2 =>
    ob (vLenSl (σ2 0)) fun v8x3 =>
    ob (vInt .lss (σ2 5) v8x3) fun v9x4 =>
    cnd v9x4
      (HT prg I.laws_markText [(σ2 1)].toArray H2 fun v15x5 H6 =>
    ob (vIx 1 (σ2 0) (σ2 5)) fun v16x7 =>
    st 1 v16x7 v15x5 H6 fun H8 =>
    ob (vInt .add (σ2 1) (.int .i64 1)) fun v18x9 =>
    ob (vInt .add (σ2 5) (.int .i64 1)) fun v11x10 =>
    Q2 .normal (up (up (up (up (up (up (up (up (up (up (up (up (up (up (up σ2 6 (σ2 5)) 7 (σ2 0)) 8 v8x3) 9 v9x4) 12 (σ2 0)) 13 (σ2 5)) 14 (σ2 1)) 15 v15x5) 16 v16x7) 17 (σ2 1)) 18 v18x9) 1 v18x9) 10 (σ2 5)) 11 v11x10) 5 v11x10) H8)
      (Q2 (.exit 0) (up (up (up (up σ2 6 (σ2 5)) 7 (σ2 0)) 8 v8x3) 9 v9x4) H2)) (blkQ 0 (thenQ J1 (retQ prg [(.tmp 4)] K))) (up (up (S0 [a0, a1]) 4 (.int .i64 0)) 5 (.int .i64 0)) H
def O.laws_markStringS : Nat → Nat × List Nat := fun i => (0, [])
theorem R.laws_markStringS {a0 a1 : Value} {H : Hp} {K : Value → Hp → Prop} (h : F.laws_markStringS a0 a1 H K) : HT prg I.laws_markStringS [a0, a1].toArray H K :=
  HT_of_fev O.laws_markStringS mixed Tryz.func13 (by kernel_rfl) (Eq.mpr (by kernel_rfl : fev prg O.laws_markStringS Tryz.f13 [a0, a1] H K = F.laws_markStringS a0 a1 H K) h)

/-! loop.example/g01381/laws.heldStringS: function 15 -/
def F.laws_heldStringS (a0 a1 : Value) (H : Hp) (K : Value → Hp → Prop) : Prop :=
  jn (fun σ1 H1 =>
    K (σ1 1) H1) fun J1 =>
  lpE (fun Q2 σ2 H2 =>
    ob (vLenSl (σ2 0)) fun v8x3 =>
    ob (vInt .lss (σ2 5) v8x3) fun v9x4 =>
    cnd v9x4
      (ob (vIx 1 (σ2 0) (σ2 5)) fun v14x5 =>
    ob (vLoad v14x5 H2) fun v15x6 =>
    HT prg I.laws_markText [(σ2 1)].toArray H2 fun v17x7 H8 =>
    Le H2 H8 ∧ (ob (vStr .neq v15x6 v17x7) fun v18x9 =>
    cnd v18x9
      (Q2 .ret (up (up (up (up (up (up (up (up (up (up (up (up σ2 6 (σ2 5)) 7 (σ2 0)) 8 v8x3) 9 v9x4) 12 (σ2 0)) 13 (σ2 5)) 14 v14x5) 15 v15x6) 16 (σ2 1)) 17 v17x7) 18 v18x9) 4 (.int .i64 (-1))) H8)
      (ob (vInt .add (σ2 1) (.int .i64 1)) fun v20x10 =>
    ob (vInt .add (σ2 5) (.int .i64 1)) fun v11x11 =>
    Q2 .normal (up (up (up (up (up (up (up (up (up (up (up (up (up (up (up (up (up σ2 6 (σ2 5)) 7 (σ2 0)) 8 v8x3) 9 v9x4) 12 (σ2 0)) 13 (σ2 5)) 14 v14x5) 15 v15x6) 16 (σ2 1)) 17 v17x7) 18 v18x9) 19 (σ2 1)) 20 v20x10) 1 v20x10) 10 (σ2 5)) 11 v11x11) 5 v11x11) H8)))
      (Q2 (.exit 0) (up (up (up (up σ2 6 (σ2 5)) 7 (σ2 0)) 8 v8x3) 9 v9x4) H2)) (blkQ 0 (thenQ J1 (retQ prg [(.tmp 4)] K))) (up (up (S0 [a0, a1]) 4 (.int .i64 0)) 5 (.int .i64 0)) H
def O.laws_heldStringS : Nat → Nat × List Nat := fun i => bif Nat.beq i 4 then (0, [0, 1, 2, 3, 4, 5, 6]) else (0, [])
theorem R.laws_heldStringS {a0 a1 : Value} {H : Hp} {K : Value → Hp → Prop} (h : F.laws_heldStringS a0 a1 H K) : HT prg I.laws_heldStringS [a0, a1].toArray H K :=
  HT_of_fev O.laws_heldStringS mixed Tryz.func15 (by kernel_rfl) (Eq.mpr (by kernel_rfl : fev prg O.laws_heldStringS Tryz.f15 [a0, a1] H K = F.laws_heldStringS a0 a1 H K) h)

/-! loop.example/g01381/laws.heldInt64S: function 16 -/
def F.laws_heldInt64S (a0 a1 : Value) (H : Hp) (K : Value → Hp → Prop) : Prop :=
  jn (fun σ1 H1 =>
    K (σ1 1) H1) fun J1 =>
  lpE (fun Q2 σ2 H2 =>
    ob (vLenSl (σ2 0)) fun v8x3 =>
    ob (vInt .lss (σ2 5) v8x3) fun v9x4 =>
    cnd v9x4
      (ob (vIx 1 (σ2 0) (σ2 5)) fun v14x5 =>
    ob (vLoad v14x5 H2) fun v15x6 =>
    ob (vInt .neq v15x6 (σ2 1)) fun v17x7 =>
    cnd v17x7
      (Q2 .ret (up (up (up (up (up (up (up (up (up (up (up σ2 6 (σ2 5)) 7 (σ2 0)) 8 v8x3) 9 v9x4) 12 (σ2 0)) 13 (σ2 5)) 14 v14x5) 15 v15x6) 16 (σ2 1)) 17 v17x7) 4 (.int .i64 (-1))) H2)
      (ob (vInt .add (σ2 1) (.int .i64 1)) fun v19x8 =>
    ob (vInt .add (σ2 5) (.int .i64 1)) fun v11x9 =>
    Q2 .normal (up (up (up (up (up (up (up (up (up (up (up (up (up (up (up (up σ2 6 (σ2 5)) 7 (σ2 0)) 8 v8x3) 9 v9x4) 12 (σ2 0)) 13 (σ2 5)) 14 v14x5) 15 v15x6) 16 (σ2 1)) 17 v17x7) 18 (σ2 1)) 19 v19x8) 1 v19x8) 10 (σ2 5)) 11 v11x9) 5 v11x9) H2))
      (Q2 (.exit 0) (up (up (up (up σ2 6 (σ2 5)) 7 (σ2 0)) 8 v8x3) 9 v9x4) H2)) (blkQ 0 (thenQ J1 (retQ prg [(.tmp 4)] K))) (up (up (S0 [a0, a1]) 4 (.int .i64 0)) 5 (.int .i64 0)) H
def O.laws_heldInt64S : Nat → Nat × List Nat := fun i => (0, [])
theorem R.laws_heldInt64S {a0 a1 : Value} {H : Hp} {K : Value → Hp → Prop} (h : F.laws_heldInt64S a0 a1 H K) : HT prg I.laws_heldInt64S [a0, a1].toArray H K :=
  HT_of_fev O.laws_heldInt64S mixed Tryz.func16 (by kernel_rfl) (Eq.mpr (by kernel_rfl : fev prg O.laws_heldInt64S Tryz.f16 [a0, a1] H K = F.laws_heldInt64S a0 a1 H K) h)

/-! loop.example/g01381/laws.szField: function 17 -/
def F.laws_szField (a0 a1 : Value) (H : Hp) (K : Value → Hp → Prop) : Prop :=
  nw (a0 : Value).cells 40 H fun v2x1 H2 =>
  ob (vFa 2 v2x1) fun v5x3 =>
  ob (vLoad v5x3 H2) fun v6x4 =>
  HT prg I.laws_szInt64S [v6x4, a1].toArray H2 fun v8x5 H6 =>
  ob (vInt .lss v8x5 (.int .i64 0)) fun v10x7 =>
  cnd v10x7
    (K (.int .i64 (-1)) H6)
    (K v8x5 H6)
def O.laws_szField : Nat → Nat × List Nat := fun i => (0, [])
theorem R.laws_szField {a0 a1 : Value} {H : Hp} {K : Value → Hp → Prop} (h : F.laws_szField a0 a1 H K) : HT prg I.laws_szField [a0, a1].toArray H K :=
  HT_of_fev O.laws_szField mixed Tryz.func17 (by kernel_rfl) (Eq.mpr (by kernel_rfl : fev prg O.laws_szField Tryz.f17 [a0, a1] H K = F.laws_szField a0 a1 H K) h)

/-! loop.example/g01381/spec.l04Is: function 49 -/
def F.spec_l04Is (a0 : Value) (H : Hp) (K : Value → Hp → Prop) : Prop :=
  ob (vNilC a0) fun v5x1 =>
  ob (vFa 0 v5x1) fun v6x2 =>
  ob (vLoad v6x2 H) fun v7x3 =>
  HT prg I.spec_l00In [v7x3, (.int .i64 1), (.int .i64 24)].toArray H fun v8x4 H5 =>
  Le H H5 ∧ (ob (vUn .not v8x4) fun v9x6 =>
  gop v9x6 false (fun K7 => K7 a0 H5) H5 fun v11x8 H9 =>
  gop v9x6 false (fun K10 => ob (vNilC v11x8) fun u => K10 u H9) H9 fun v12x11 H12 =>
  gop v9x6 false (fun K13 => ob (vFa 1 v12x11) fun u => K13 u H12) H12 fun v13x14 H15 =>
  gop v9x6 false (fun K16 => ob (vLoad v13x14 H15) fun u => K16 u H15) H15 fun v14x17 H18 =>
  gop v9x6 false (fun K19 => HT prg I.spec_l00In [v14x17, (.int .i64 1), (.int .i64 24)].toArray H18 fun v15x20 H21 =>
  Le H18 H21 ∧ K19 v15x20 H21) H18 fun v15x22 H23 =>
  gop v9x6 false (fun K24 => ob (vUn .not v15x22) fun u => K24 u H23) H23 fun v16x25 H26 =>
  ob (vPick v9x6 (.bool true) v16x25) fun v17x27 =>
  gop v17x27 false (fun K28 => K28 a0 H26) H26 fun v19x29 H30 =>
  gop v17x27 false (fun K31 => ob (vNilC v19x29) fun u => K31 u H30) H30 fun v20x32 H33 =>
  gop v17x27 false (fun K34 => ob (vFa 2 v20x32) fun u => K34 u H33) H33 fun v21x35 H36 =>
  gop v17x27 false (fun K37 => ob (vLoad v21x35 H36) fun u => K37 u H36) H36 fun v22x38 H39 =>
  gop v17x27 false (fun K40 => ob (vLenSl v22x38) fun u => K40 u H39) H39 fun v23x41 H42 =>
  gop v17x27 false (fun K43 => K43 a0 H42) H42 fun v24x44 H45 =>
  gop v17x27 false (fun K46 => ob (vNilC v24x44) fun u => K46 u H45) H45 fun v25x47 H48 =>
  gop v17x27 false (fun K49 => ob (vFa 0 v25x47) fun u => K49 u H48) H48 fun v26x50 H51 =>
  gop v17x27 false (fun K52 => ob (vLoad v26x50 H51) fun u => K52 u H51) H51 fun v27x53 H54 =>
  gop v17x27 false (fun K55 => K55 a0 H54) H54 fun v28x56 H57 =>
  gop v17x27 false (fun K58 => ob (vNilC v28x56) fun u => K58 u H57) H57 fun v29x59 H60 =>
  gop v17x27 false (fun K61 => ob (vFa 1 v29x59) fun u => K61 u H60) H60 fun v30x62 H63 =>
  gop v17x27 false (fun K64 => ob (vLoad v30x62 H63) fun u => K64 u H63) H63 fun v31x65 H66 =>
  gop v17x27 false (fun K67 => ob (vInt .mul v27x53 v31x65) fun u => K67 u H66) H66 fun v32x68 H69 =>
  gop v17x27 false (fun K70 => ob (vInt .neq v23x41 v32x68) fun u => K70 u H69) H69 fun v33x71 H72 =>
  ob (vPick v17x27 (.bool true) v33x71) fun v34x73 =>
  cnd v34x73
    (K (.bool false) H72)
    (jn (fun σ74 H74 =>
    K (.bool true) H74) fun J74 =>
  lpE (fun Q75 σ75 H75 =>
    ob (vNilC (σ75 0)) fun v37x76 =>
    ob (vFa 2 v37x76) fun v38x77 =>
    ob (vLoad v38x77 H75) fun v39x78 =>
    ob (vLenSl v39x78) fun v40x79 =>
    ob (vInt .lss (σ75 3) v40x79) fun v41x80 =>
    cnd v41x80
      (ob (vNilC (σ75 0)) fun v45x81 =>
    ob (vFa 2 v45x81) fun v46x82 =>
    ob (vLoad v46x82 H75) fun v47x83 =>
    ob (vIx 1 v47x83 (σ75 3)) fun v49x84 =>
    ob (vLoad v49x84 H75) fun v50x85 =>
    HT prg I.spec_l00In [v50x85, (.int .i64 0), (.int .i64 9)].toArray H75 fun v51x86 H87 =>
    ob (vUn .not v51x86) fun v52x88 =>
    cnd v52x88
      (Q75 .ret (up (up (up (up (up (up (up (up (up (up (up (up (up (up (up (up (up σ75 35 (σ75 3)) 36 (σ75 0)) 37 v37x76) 38 v38x77) 39 v39x78) 40 v40x79) 41 v41x80) 44 (σ75 0)) 45 v45x81) 46 v46x82) 47 v47x83) 48 (σ75 3)) 49 v49x84) 50 v50x85) 51 v51x86) 52 v52x88) 2 (.bool false)) H87)
      (ob (vInt .add (σ75 3) (.int .i64 1)) fun v43x89 =>
    Q75 .normal (up (up (up (up (up (up (up (up (up (up (up (up (up (up (up (up (up (up (up σ75 35 (σ75 3)) 36 (σ75 0)) 37 v37x76) 38 v38x77) 39 v39x78) 40 v40x79) 41 v41x80) 44 (σ75 0)) 45 v45x81) 46 v46x82) 47 v47x83) 48 (σ75 3)) 49 v49x84) 50 v50x85) 51 v51x86) 52 v52x88) 42 (σ75 3)) 43 v43x89) 3 v43x89) H87))
      (Q75 (.exit 0) (up (up (up (up (up (up (up σ75 35 (σ75 3)) 36 (σ75 0)) 37 v37x76) 38 v38x77) 39 v39x78) 40 v40x79) 41 v41x80) H75)) (blkQ 0 (thenQ J74 (retQ prg [(.tmp 2)] K))) (up (up (up (up (up (up (up (up (up (up (up (up (up (up (up (up (up (up (up (up (up (up (up (up (up (up (up (up (up (up (up (up (up (S0 [a0]) 2 (.bool false)) 4 a0) 5 v5x1) 6 v6x2) 7 v7x3) 8 v8x4) 9 v9x6) 10 v9x6) 11 v11x8) 12 v12x11) 13 v13x14) 14 v14x17) 15 v15x22) 16 v16x25) 17 v17x27) 18 v17x27) 19 v19x29) 20 v20x32) 21 v21x35) 22 v22x38) 23 v23x41) 24 v24x44) 25 v25x47) 26 v26x50) 27 v27x53) 28 v28x56) 29 v29x59) 30 v30x62) 31 v31x65) 32 v32x68) 33 v33x71) 34 v34x73) 3 (.int .i64 0)) H72))
def O.spec_l04Is : Nat → Nat × List Nat := fun i => bif Nat.beq i 1 then (0, [0, 1, 2, 3, 4, 5, 6, 7, 8, 9, 10, 11, 12, 13, 14, 15, 16, 17, 18, 19, 20, 21, 22, 23, 24, 25, 26, 27, 28, 29, 30]) else (0, [])
theorem R.spec_l04Is {a0 : Value} {H : Hp} {K : Value → Hp → Prop} (h : F.spec_l04Is a0 H K) : HT prg I.spec_l04Is [a0].toArray H K :=
  HT_of_fev O.spec_l04Is mixed Tryz.func49 (by kernel_rfl) (Eq.mpr (by kernel_rfl : fev prg O.spec_l04Is Tryz.f49 [a0] H K = F.spec_l04Is a0 H K) h)

/-! loop.example/g01381/spec.l04Plain: function 31 -/
def F.spec_l04Plain (a0 : Value) (H : Hp) (K : Value → Hp → Prop) : Prop :=
  HT prg I.spec_l04Is [a0].toArray H fun v5x1 H2 =>
  ob (vUn .not v5x1) fun v6x3 =>
  cnd v6x3
    (K (.bool false) H2)
    (jn (fun σ4 H4 =>
    K (.bool true) H4) fun J4 =>
  lpE (fun Q5 σ5 H5 =>
    ob (vNilC (σ5 0)) fun v9x6 =>
    ob (vFa 2 v9x6) fun v10x7 =>
    ob (vLoad v10x7 H5) fun v11x8 =>
    ob (vLenSl v11x8) fun v12x9 =>
    ob (vInt .lss (σ5 3) v12x9) fun v13x10 =>
    cnd v13x10
      (ob (vNilC (σ5 0)) fun v17x11 =>
    ob (vFa 2 v17x11) fun v18x12 =>
    ob (vLoad v18x12 H5) fun v19x13 =>
    ob (vIx 1 v19x13 (σ5 3)) fun v21x14 =>
    ob (vLoad v21x14 H5) fun v22x15 =>
    ob (vInt .gtr v22x15 (.int .i64 1)) fun v23x16 =>
    cnd v23x16
      (Q5 .ret (up (up (up (up (up (up (up (up (up (up (up (up (up (up (up (up σ5 7 (σ5 3)) 8 (σ5 0)) 9 v9x6) 10 v10x7) 11 v11x8) 12 v12x9) 13 v13x10) 16 (σ5 0)) 17 v17x11) 18 v18x12) 19 v19x13) 20 (σ5 3)) 21 v21x14) 22 v22x15) 23 v23x16) 2 (.bool false)) H5)
      (ob (vInt .add (σ5 3) (.int .i64 1)) fun v15x17 =>
    Q5 .normal (up (up (up (up (up (up (up (up (up (up (up (up (up (up (up (up (up (up σ5 7 (σ5 3)) 8 (σ5 0)) 9 v9x6) 10 v10x7) 11 v11x8) 12 v12x9) 13 v13x10) 16 (σ5 0)) 17 v17x11) 18 v18x12) 19 v19x13) 20 (σ5 3)) 21 v21x14) 22 v22x15) 23 v23x16) 14 (σ5 3)) 15 v15x17) 3 v15x17) H5))
      (Q5 (.exit 0) (up (up (up (up (up (up (up σ5 7 (σ5 3)) 8 (σ5 0)) 9 v9x6) 10 v10x7) 11 v11x8) 12 v12x9) 13 v13x10) H5)) (blkQ 0 (thenQ J4 (retQ prg [(.tmp 2)] K))) (up (up (up (up (up (S0 [a0]) 2 (.bool false)) 4 a0) 5 v5x1) 6 v6x3) 3 (.int .i64 0)) H2)
def O.spec_l04Plain : Nat → Nat × List Nat := fun i => (0, [])
theorem R.spec_l04Plain {a0 : Value} {H : Hp} {K : Value → Hp → Prop} (h : F.spec_l04Plain a0 H K) : HT prg I.spec_l04Plain [a0].toArray H K :=
  HT_of_fev O.spec_l04Plain mixed Tryz.func31 (by kernel_rfl) (Eq.mpr (by kernel_rfl : fev prg O.spec_l04Plain Tryz.f31 [a0] H K = F.spec_l04Plain a0 H K) h)

/-! loop.example/g01381/spec.l04Can: function 30 -/
def F.spec_l04Can (a0 a1 : Value) (H : Hp) (K : Value → Hp → Prop) : Prop :=
  HT prg I.spec_l04Life [a0].toArray H fun v6x1 H2 =>
  gop v6x1 true (fun K3 => K3 a1 H2) H2 fun v8x4 H5 =>
  gop v6x1 true (fun K6 => HT prg I.spec_l04Plain [v8x4].toArray H5 K6) H5 fun v9x7 H8 =>
  ob (vPick v6x1 v9x7 (.bool false)) fun v10x9 =>
  K v10x9 H8
def O.spec_l04Can : Nat → Nat × List Nat := fun i => (0, [])
theorem R.spec_l04Can {a0 a1 : Value} {H : Hp} {K : Value → Hp → Prop} (h : F.spec_l04Can a0 a1 H K) : HT prg I.spec_l04Can [a0, a1].toArray H K :=
  HT_of_fev O.spec_l04Can mixed Tryz.func30 (by kernel_rfl) (Eq.mpr (by kernel_rfl : fev prg O.spec_l04Can Tryz.f30 [a0, a1] H K = F.spec_l04Can a0 a1 H K) h)

/-! loop.example/g01381/spec.l05Sides: function 51 -/
def F.spec_l05Sides (a0 a1 : Value) (H : Hp) (K : Value → Hp → Prop) : Prop :=
  HT prg I.spec_l00In [a0, (.int .i64 1), (.int .i64 24)].toArray H fun v6x1 H2 =>
  gop v6x1 true (fun K3 => K3 a1 H2) H2 fun v8x4 H5 =>
  gop v6x1 true (fun K6 => HT prg I.spec_l00In [v8x4, (.int .i64 1), (.int .i64 24)].toArray H5 K6) H5 fun v9x7 H8 =>
  ob (vPick v6x1 v9x7 (.bool false)) fun v10x9 =>
  K v10x9 H8
def O.spec_l05Sides : Nat → Nat × List Nat := fun i => (0, [])
theorem R.spec_l05Sides {a0 a1 : Value} {H : Hp} {K : Value → Hp → Prop} (h : F.spec_l05Sides a0 a1 H K) : HT prg I.spec_l05Sides [a0, a1].toArray H K :=
  HT_of_fev O.spec_l05Sides mixed Tryz.func51 (by kernel_rfl) (Eq.mpr (by kernel_rfl : fev prg O.spec_l05Sides Tryz.f51 [a0, a1] H K = F.spec_l05Sides a0 a1 H K) h)

end Go.Proofs.YtffmfkpobjdmmaaGreatDoor
/- Functions' texts over a partial heap. -/
namespace Go.Proofs.YtffmfkpobjdmmaaGreatDoor
open HL
set_option linter.unusedVariables false
set_option maxRecDepth 100000
set_option maxHeartbeats 4000000
/-! loop.example/g01381/spec.l05Meet: function 33 -/
def F.spec_l05Meet (a0 a1 a2 a3 : Value) (H : Hp) (K : Value → Hp → Prop) : Prop :=
  nw #[(.int .i64 0), (.int .i64 0), (.slice none 0 0)] 44 H fun v8x1 H2 =>
  HT prg I.spec_l00In [a2, (.int .i64 0), (.int .i64 24)].toArray H2 fun v18x3 H4 =>
  ob (vUn .not v18x3) fun v19x5 =>
  gop v19x5 false (fun K6 => K6 a3 H4) H4 fun v21x7 H8 =>
  gop v19x5 false (fun K9 => HT prg I.spec_l00In [v21x7, (.int .i64 0), (.int .i64 24)].toArray H8 K9) H8 fun v22x10 H11 =>
  gop v19x5 false (fun K12 => ob (vUn .not v22x10) fun u => K12 u H11) H11 fun v23x13 H14 =>
  ob (vPick v19x5 (.bool true) v23x13) fun v24x15 =>
  cnd v24x15
    (ob (vBuild [(0, 1), (1, 1), (2, 1)] (.agg #[(.int .i64 0), (.int .i64 0), (.slice none 0 0)]) []) fun v25x16 =>
    st 3 v8x1 v25x16 H14 fun H17 =>
    ob (vLoadN 3 v8x1 H17) fun u18 => K (.tuple #[u18, (.bool false)]) H17)
    (ob (vNilC a0) fun v27x19 =>
  ob (vFa 0 v27x19) fun v28x20 =>
  ob (vLoad v28x20 H14) fun v29x21 =>
  ob (vNilC a1) fun v32x22 =>
  ob (vFa 0 v32x22) fun v33x23 =>
  ob (vLoad v33x23 H14) fun v34x24 =>
  ob (vInt .add a2 v34x24) fun v35x25 =>
  HT prg I.spec_l00Max [v29x21, v35x25].toArray H14 fun v36x26 H27 =>
  Le H14 H27 ∧ (ob (vNilC a0) fun v38x28 =>
  ob (vFa 1 v38x28) fun v39x29 =>
  ob (vLoad v39x29 H27) fun v40x30 =>
  ob (vNilC a1) fun v43x31 =>
  ob (vFa 1 v43x31) fun v44x32 =>
  ob (vLoad v44x32 H27) fun v45x33 =>
  ob (vInt .add a3 v45x33) fun v46x34 =>
  HT prg I.spec_l00Max [v40x30, v46x34].toArray H27 fun v47x35 H36 =>
  Le H27 H36 ∧ (HT prg I.spec_l05Sides [v36x26, v47x35].toArray H36 fun v50x37 H38 =>
  ob (vUn .not v50x37) fun v51x39 =>
  cnd v51x39
    (ob (vBuild [(0, 1), (1, 1), (2, 1)] (.agg #[(.int .i64 0), (.int .i64 0), (.slice none 0 0)]) []) fun v52x40 =>
    st 3 v8x1 v52x40 H38 fun H41 =>
    ob (vLoadN 3 v8x1 H41) fun u42 => K (.tuple #[u42, (.bool false)]) H41)
    (HT prg I.spec_l04New [v36x26, v47x35].toArray H38 fun v55x43 H44 =>
  nw #[(.int .i64 0), (.int .i64 0), (.slice none 0 0)] 44 H44 fun v12x45 H46 =>
  st 3 v12x45 v55x43 H46 fun H47 =>
  jn (fun σ48 H48 =>
    jn (fun σ49 H49 =>
      ob (vLoadN 3 (σ49 12) H49) fun v137x50 =>
      st 3 (σ49 8) v137x50 H49 fun H51 =>
      ob (vLoadN 3 (σ49 8) H51) fun u52 => K (.tuple #[u52, (.bool true)]) H51) fun J49 =>
    lpE (fun Q53 σ53 H53 =>
      ob (vNilC (σ53 1)) fun v96x54 =>
      ob (vFa 0 v96x54) fun v97x55 =>
      ob (vLoad v97x55 H53) fun v98x56 =>
      ob (vInt .lss (σ53 15) v98x56) fun v99x57 =>
      cnd v99x57
        (jn (fun σ58 H58 =>
        ob (vInt .add (σ58 15) (.int .i64 1)) fun v101x59 =>
        Q53 .normal (up (up (up σ58 100 (σ58 15)) 101 v101x59) 15 v101x59) H58) fun J58 =>
      lpE (fun Q60 σ60 H60 =>
        ob (vNilC (σ60 1)) fun v104x61 =>
        ob (vFa 1 v104x61) fun v105x62 =>
        ob (vLoad v105x62 H60) fun v106x63 =>
        ob (vInt .lss (σ60 16) v106x63) fun v107x64 =>
        cnd v107x64
          (ob (vNilC (σ60 1)) fun v111x65 =>
        ob (vFa 2 v111x65) fun v112x66 =>
        ob (vLoad v112x66 H60) fun v113x67 =>
        ob (vNilC (σ60 1)) fun v116x68 =>
        ob (vFa 1 v116x68) fun v117x69 =>
        ob (vLoad v117x69 H60) fun v118x70 =>
        ob (vInt .mul (σ60 15) v118x70) fun v119x71 =>
        ob (vInt .add v119x71 (σ60 16)) fun v121x72 =>
        ob (vIx 1 v113x67 v121x72) fun v122x73 =>
        ob (vLoad v122x73 H60) fun v123x74 =>
        ob (vInt .eql v123x74 (.int .i64 1)) fun v124x75 =>
        cnd v124x75
          (ob (vFa 2 (σ60 12)) fun v125x76 =>
          ob (vLoad v125x76 H60) fun v126x77 =>
          ob (vInt .add (σ60 2) (σ60 15)) fun v129x78 =>
          ob (vInt .mul v129x78 (σ60 11)) fun v131x79 =>
          ob (vInt .add v131x79 (σ60 3)) fun v133x80 =>
          ob (vInt .add v133x80 (σ60 16)) fun v135x81 =>
          ob (vIx 1 v126x77 v135x81) fun v136x82 =>
          st 1 v136x82 (.int .i64 1) H60 fun H83 =>
          ob (vInt .add (σ60 16) (.int .i64 1)) fun v109x84 =>
        Q60 .normal (up (up (up (up (up (up (up (up (up (up (up (up (up (up (up (up (up (up (up (up (up (up (up (up (up (up (up (up (up (up (up (up (up (up (up (up σ60 102 (σ60 16)) 103 (σ60 1)) 104 v104x61) 105 v105x62) 106 v106x63) 107 v107x64) 110 (σ60 1)) 111 v111x65) 112 v112x66) 113 v113x67) 114 (σ60 15)) 115 (σ60 1)) 116 v116x68) 117 v117x69) 118 v118x70) 119 v119x71) 120 (σ60 16)) 121 v121x72) 122 v122x73) 123 v123x74) 124 v124x75) 125 v125x76) 126 v126x77) 127 (σ60 2)) 128 (σ60 15)) 129 v129x78) 130 (σ60 11)) 131 v131x79) 132 (σ60 3)) 133 v133x80) 134 (σ60 16)) 135 v135x81) 136 v136x82) 108 (σ60 16)) 109 v109x84) 16 v109x84) H83)
          (ob (vInt .add (σ60 16) (.int .i64 1)) fun v109x85 =>
        Q60 .normal (up (up (up (up (up (up (up (up (up (up (up (up (up (up (up (up (up (up (up (up (up (up (up (up σ60 102 (σ60 16)) 103 (σ60 1)) 104 v104x61) 105 v105x62) 106 v106x63) 107 v107x64) 110 (σ60 1)) 111 v111x65) 112 v112x66) 113 v113x67) 114 (σ60 15)) 115 (σ60 1)) 116 v116x68) 117 v117x69) 118 v118x70) 119 v119x71) 120 (σ60 16)) 121 v121x72) 122 v122x73) 123 v123x74) 124 v124x75) 108 (σ60 16)) 109 v109x85) 16 v109x85) H60))
          (Q60 (.exit 6) (up (up (up (up (up (up σ60 102 (σ60 16)) 103 (σ60 1)) 104 v104x61) 105 v105x62) 106 v106x63) 107 v107x64) H60)) (blkQ 6 (blkQ 5 (thenQ J58 Q53))) (up (up (up (up (up (up (up σ53 94 (σ53 15)) 95 (σ53 1)) 96 v96x54) 97 v97x55) 98 v98x56) 99 v99x57) 16 (.int .i64 0)) H53)
        (Q53 (.exit 4) (up (up (up (up (up (up σ53 94 (σ53 15)) 95 (σ53 1)) 96 v96x54) 97 v97x55) 98 v98x56) 99 v99x57) H53)) (blkQ 4 (thenQ J49 (retQ prg [(.cell 8 44), (.tmp 9)] K))) (up σ48 15 (.int .i64 0)) H48) fun J48 =>
  lpE (fun Q86 σ86 H86 =>
    ob (vNilC (σ86 0)) fun v58x87 =>
    ob (vFa 0 v58x87) fun v59x88 =>
    ob (vLoad v59x88 H86) fun v60x89 =>
    ob (vInt .lss (σ86 13) v60x89) fun v61x90 =>
    cnd v61x90
      (jn (fun σ91 H91 =>
      ob (vInt .add (σ91 13) (.int .i64 1)) fun v63x92 =>
      Q86 .normal (up (up (up σ91 62 (σ91 13)) 63 v63x92) 13 v63x92) H91) fun J91 =>
    lpE (fun Q93 σ93 H93 =>
      ob (vNilC (σ93 0)) fun v66x94 =>
      ob (vFa 1 v66x94) fun v67x95 =>
      ob (vLoad v67x95 H93) fun v68x96 =>
      ob (vInt .lss (σ93 14) v68x96) fun v69x97 =>
      cnd v69x97
        (ob (vFa 2 (σ93 12)) fun v72x98 =>
      ob (vLoad v72x98 H93) fun v73x99 =>
      ob (vInt .mul (σ93 13) (σ93 11)) fun v76x100 =>
      ob (vInt .add v76x100 (σ93 14)) fun v78x101 =>
      ob (vNilC (σ93 0)) fun v80x102 =>
      ob (vFa 2 v80x102) fun v81x103 =>
      ob (vLoad v81x103 H93) fun v82x104 =>
      ob (vNilC (σ93 0)) fun v85x105 =>
      ob (vFa 1 v85x105) fun v86x106 =>
      ob (vLoad v86x106 H93) fun v87x107 =>
      ob (vInt .mul (σ93 13) v87x107) fun v88x108 =>
      ob (vInt .add v88x108 (σ93 14)) fun v90x109 =>
      ob (vIx 1 v82x104 v90x109) fun v91x110 =>
      ob (vLoad v91x110 H93) fun v92x111 =>
      ob (vIx 1 v73x99 v78x101) fun v93x112 =>
      st 1 v93x112 v92x111 H93 fun H113 =>
      ob (vInt .add (σ93 14) (.int .i64 1)) fun v71x114 =>
      Q93 .normal (up (up (up (up (up (up (up (up (up (up (up (up (up (up (up (up (up (up (up (up (up (up (up (up (up (up (up (up (up (up (up σ93 64 (σ93 14)) 65 (σ93 0)) 66 v66x94) 67 v67x95) 68 v68x96) 69 v69x97) 72 v72x98) 73 v73x99) 74 (σ93 13)) 75 (σ93 11)) 76 v76x100) 77 (σ93 14)) 78 v78x101) 79 (σ93 0)) 80 v80x102) 81 v81x103) 82 v82x104) 83 (σ93 13)) 84 (σ93 0)) 85 v85x105) 86 v86x106) 87 v87x107) 88 v88x108) 89 (σ93 14)) 90 v90x109) 91 v91x110) 92 v92x111) 93 v93x112) 70 (σ93 14)) 71 v71x114) 14 v71x114) H113)
        (Q93 (.exit 2) (up (up (up (up (up (up σ93 64 (σ93 14)) 65 (σ93 0)) 66 v66x94) 67 v67x95) 68 v68x96) 69 v69x97) H93)) (blkQ 2 (blkQ 1 (thenQ J91 Q86))) (up (up (up (up (up (up (up σ86 56 (σ86 13)) 57 (σ86 0)) 58 v58x87) 59 v59x88) 60 v60x89) 61 v61x90) 14 (.int .i64 0)) H86)
      (Q86 (.exit 0) (up (up (up (up (up (up σ86 56 (σ86 13)) 57 (σ86 0)) 58 v58x87) 59 v59x88) 60 v60x89) 61 v61x90) H86)) (blkQ 0 (thenQ J48 (retQ prg [(.cell 8 44), (.tmp 9)] K))) (up (up (up (up (up (up (up (up (up (up (up (up (up (up (up (up (up (up (up (up (up (up (up (up (up (up (up (up (up (up (up (up (up (up (up (up (up (up (up (up (up (up (up (S0 [a0, a1, a2, a3]) 8 v8x1) 9 (.bool false)) 17 a2) 18 v18x3) 19 v19x5) 20 v19x5) 21 v21x7) 22 v22x10) 23 v23x13) 24 v24x15) 26 a0) 27 v27x19) 28 v28x20) 29 v29x21) 30 a2) 31 a1) 32 v32x22) 33 v33x23) 34 v34x24) 35 v35x25) 36 v36x26) 10 v36x26) 37 a0) 38 v38x28) 39 v39x29) 40 v40x30) 41 a3) 42 a1) 43 v43x31) 44 v44x32) 45 v45x33) 46 v46x34) 47 v47x35) 11 v47x35) 48 v36x26) 49 v47x35) 50 v50x37) 51 v51x39) 53 v36x26) 54 v47x35) 55 v55x43) 12 v12x45) 13 (.int .i64 0)) H47))))
def O.spec_l05Meet : Nat → Nat × List Nat := fun i => bif Nat.beq i 3 then (0, [0, 1, 2, 3, 4, 5, 6, 7, 8, 9, 10, 11]) else bif Nat.beq i 4 then (0, [0, 1, 2, 3, 4, 5, 6, 7, 8, 9, 10, 11]) else bif Nat.beq i 21 then (0, [0, 1, 2, 3, 4, 5, 6, 7, 8, 9, 10, 11, 12, 13, 14]) else bif Nat.beq i 14 then (0, [0, 1, 2, 3, 4, 5, 6, 7, 8, 9, 10, 11, 12, 13, 14, 15, 16, 17, 18, 19, 20, 21, 22]) else (0, [])
theorem R.spec_l05Meet {a0 a1 a2 a3 : Value} {H : Hp} {K : Value → Hp → Prop} (h : F.spec_l05Meet a0 a1 a2 a3 H K) : HT prg I.spec_l05Meet [a0, a1, a2, a3].toArray H K :=
  HT_of_fev O.spec_l05Meet mixed Tryz.func33 (by kernel_rfl) (Eq.mpr (by kernel_rfl : fev prg O.spec_l05Meet Tryz.f33 [a0, a1, a2, a3] H K = F.spec_l05Meet a0 a1 a2 a3 H K) h)

/-! loop.example/g01381/spec.l05Grow: function 53 -/
def F.spec_l05Grow (a0 a1 : Value) (H : Hp) (K : Value → Hp → Prop) : Prop :=
  nw #[(.int .i64 0), (.int .i64 0), (.slice none 0 0)] 44 H fun v4x1 H2 =>
  ob (vNilC a0) fun v9x3 =>
  ob (vFa 0 v9x3) fun v10x4 =>
  ob (vLoad v10x4 H2) fun v11x5 =>
  ob (vInt .mul (.int .i64 2) a1) fun v13x6 =>
  ob (vInt .add v11x5 v13x6) fun v14x7 =>
  ob (vNilC a0) fun v16x8 =>
  ob (vFa 1 v16x8) fun v17x9 =>
  ob (vLoad v17x9 H2) fun v18x10 =>
  ob (vInt .mul (.int .i64 2) a1) fun v20x11 =>
  ob (vInt .add v18x10 v20x11) fun v21x12 =>
  HT prg I.spec_l04New [v14x7, v21x12].toArray H2 fun v22x13 H14 =>
  Le H2 H14 ∧ (nw #[(.int .i64 0), (.int .i64 0), (.slice none 0 0)] 44 H14 fun v5x15 H16 =>
  st 3 v5x15 v22x13 H16 fun H17 =>
  jn (fun σ18 H18 =>
    ob (vLoadN 3 (σ18 5) H18) fun v66x19 =>
    st 3 (σ18 4) v66x19 H18 fun H20 =>
    ob (vLoadN 3 (σ18 4) H20) fun u21 => K u21 H20) fun J18 =>
  lpE (fun Q22 σ22 H22 =>
    ob (vNilC (σ22 0)) fun v25x23 =>
    ob (vFa 0 v25x23) fun v26x24 =>
    ob (vLoad v26x24 H22) fun v27x25 =>
    ob (vInt .lss (σ22 6) v27x25) fun v28x26 =>
    cnd v28x26
      (jn (fun σ27 H27 =>
      ob (vInt .add (σ27 6) (.int .i64 1)) fun v30x28 =>
      Q22 .normal (up (up (up σ27 29 (σ27 6)) 30 v30x28) 6 v30x28) H27) fun J27 =>
    lpE (fun Q29 σ29 H29 =>
      ob (vNilC (σ29 0)) fun v33x30 =>
      ob (vFa 1 v33x30) fun v34x31 =>
      ob (vLoad v34x31 H29) fun v35x32 =>
      ob (vInt .lss (σ29 7) v35x32) fun v36x33 =>
      cnd v36x33
        (ob (vFa 2 (σ29 5)) fun v39x34 =>
      ob (vLoad v39x34 H29) fun v40x35 =>
      ob (vInt .add (σ29 6) (σ29 1)) fun v43x36 =>
      ob (vFa 1 (σ29 5)) fun v44x37 =>
      ob (vLoad v44x37 H29) fun v45x38 =>
      ob (vInt .mul v43x36 v45x38) fun v46x39 =>
      ob (vInt .add v46x39 (σ29 7)) fun v48x40 =>
      ob (vInt .add v48x40 (σ29 1)) fun v50x41 =>
      ob (vNilC (σ29 0)) fun v52x42 =>
      ob (vFa 2 v52x42) fun v53x43 =>
      ob (vLoad v53x43 H29) fun v54x44 =>
      ob (vNilC (σ29 0)) fun v57x45 =>
      ob (vFa 1 v57x45) fun v58x46 =>
      ob (vLoad v58x46 H29) fun v59x47 =>
      ob (vInt .mul (σ29 6) v59x47) fun v60x48 =>
      ob (vInt .add v60x48 (σ29 7)) fun v62x49 =>
      ob (vIx 1 v54x44 v62x49) fun v63x50 =>
      ob (vLoad v63x50 H29) fun v64x51 =>
      ob (vIx 1 v40x35 v50x41) fun v65x52 =>
      st 1 v65x52 v64x51 H29 fun H53 =>
      ob (vInt .add (σ29 7) (.int .i64 1)) fun v38x54 =>
      Q29 .normal (up (up (up (up (up (up (up (up (up (up (up (up (up (up (up (up (up (up (up (up (up (up (up (up (up (up (up (up (up (up (up (up (up (up (up (up σ29 31 (σ29 7)) 32 (σ29 0)) 33 v33x30) 34 v34x31) 35 v35x32) 36 v36x33) 39 v39x34) 40 v40x35) 41 (σ29 6)) 42 (σ29 1)) 43 v43x36) 44 v44x37) 45 v45x38) 46 v46x39) 47 (σ29 7)) 48 v48x40) 49 (σ29 1)) 50 v50x41) 51 (σ29 0)) 52 v52x42) 53 v53x43) 54 v54x44) 55 (σ29 6)) 56 (σ29 0)) 57 v57x45) 58 v58x46) 59 v59x47) 60 v60x48) 61 (σ29 7)) 62 v62x49) 63 v63x50) 64 v64x51) 65 v65x52) 37 (σ29 7)) 38 v38x54) 7 v38x54) H53)
        (Q29 (.exit 2) (up (up (up (up (up (up σ29 31 (σ29 7)) 32 (σ29 0)) 33 v33x30) 34 v34x31) 35 v35x32) 36 v36x33) H29)) (blkQ 2 (blkQ 1 (thenQ J27 Q22))) (up (up (up (up (up (up (up σ22 23 (σ22 6)) 24 (σ22 0)) 25 v25x23) 26 v26x24) 27 v27x25) 28 v28x26) 7 (.int .i64 0)) H22)
      (Q22 (.exit 0) (up (up (up (up (up (up σ22 23 (σ22 6)) 24 (σ22 0)) 25 v25x23) 26 v26x24) 27 v27x25) 28 v28x26) H22)) (blkQ 0 (thenQ J18 (retQ prg [(.cell 4 44)] K))) (up (up (up (up (up (up (up (up (up (up (up (up (up (up (up (up (up (up (S0 [a0, a1]) 4 v4x1) 8 a0) 9 v9x3) 10 v10x4) 11 v11x5) 12 a1) 13 v13x6) 14 v14x7) 15 a0) 16 v16x8) 17 v17x9) 18 v18x10) 19 a1) 20 v20x11) 21 v21x12) 22 v22x13) 5 v5x15) 6 (.int .i64 0)) H17)
def O.spec_l05Grow : Nat → Nat × List Nat := fun i => bif Nat.beq i 1 then (0, [0, 1, 2, 3, 4, 5, 6, 7, 8, 9, 10, 11, 12, 13, 14, 15, 16]) else bif Nat.beq i 8 then (0, [0, 1, 2, 3, 4, 5, 6, 7, 8, 9, 10, 11, 12, 13, 14, 15, 16, 17, 18, 19, 20, 21, 22, 23, 24, 25, 26, 27]) else (0, [])
theorem R.spec_l05Grow {a0 a1 : Value} {H : Hp} {K : Value → Hp → Prop} (h : F.spec_l05Grow a0 a1 H K) : HT prg I.spec_l05Grow [a0, a1].toArray H K :=
  HT_of_fev O.spec_l05Grow mixed Tryz.func53 (by kernel_rfl) (Eq.mpr (by kernel_rfl : fev prg O.spec_l05Grow Tryz.f53 [a0, a1] H K = F.spec_l05Grow a0 a1 H K) h)

/-! loop.example/g01381/spec.GrowField: function 34 -/
def F.spec_GrowField (a0 a1 : Value) (H : Hp) (K : Value → Hp → Prop) : Prop :=
  nw (a0 : Value).cells 44 H fun v2x1 H2 =>
  nw #[(.int .i64 0), (.int .i64 0), (.slice none 0 0)] 44 H2 fun v4x3 H4 =>
  HT prg I.spec_l04Plain [v2x1].toArray H4 fun v6x5 H6 =>
  ob (vUn .not v6x5) fun v7x7 =>
  gop v7x7 false (fun K8 => K8 a1 H6) H6 fun v9x9 H10 =>
  gop v7x7 false (fun K11 => HT prg I.spec_l00In [v9x9, (.int .i64 0), (.int .i64 24)].toArray H10 K11) H10 fun v10x12 H13 =>
  gop v7x7 false (fun K14 => ob (vUn .not v10x12) fun u => K14 u H13) H13 fun v11x15 H16 =>
  ob (vPick v7x7 (.bool true) v11x15) fun v12x17 =>
  gop v12x17 false (fun K18 => ob (vFa 0 v2x1) fun u => K18 u H16) H16 fun v14x19 H20 =>
  gop v12x17 false (fun K21 => ob (vLoad v14x19 H20) fun u => K21 u H20) H20 fun v15x22 H23 =>
  gop v12x17 false (fun K24 => K24 a1 H23) H23 fun v16x25 H26 =>
  gop v12x17 false (fun K27 => ob (vInt .mul (.int .i64 2) v16x25) fun u => K27 u H26) H26 fun v17x28 H29 =>
  gop v12x17 false (fun K30 => ob (vInt .add v15x22 v17x28) fun u => K30 u H29) H29 fun v18x31 H32 =>
  gop v12x17 false (fun K33 => ob (vFa 1 v2x1) fun u => K33 u H32) H32 fun v19x34 H35 =>
  gop v12x17 false (fun K36 => ob (vLoad v19x34 H35) fun u => K36 u H35) H35 fun v20x37 H38 =>
  gop v12x17 false (fun K39 => K39 a1 H38) H38 fun v21x40 H41 =>
  gop v12x17 false (fun K42 => ob (vInt .mul (.int .i64 2) v21x40) fun u => K42 u H41) H41 fun v22x43 H44 =>
  gop v12x17 false (fun K45 => ob (vInt .add v20x37 v22x43) fun u => K45 u H44) H44 fun v23x46 H47 =>
  gop v12x17 false (fun K48 => HT prg I.spec_l05Sides [v18x31, v23x46].toArray H47 K48) H47 fun v24x49 H50 =>
  gop v12x17 false (fun K51 => ob (vUn .not v24x49) fun u => K51 u H50) H50 fun v25x52 H53 =>
  ob (vPick v12x17 (.bool true) v25x52) fun v26x54 =>
  cnd v26x54
    (ob (vBuild [(0, 1), (1, 1), (2, 1)] (.agg #[(.int .i64 0), (.int .i64 0), (.slice none 0 0)]) []) fun v27x55 =>
    st 3 v4x3 v27x55 H53 fun H56 =>
    ob (vLoadN 3 v4x3 H56) fun u57 => K (.tuple #[u57, (.bool false)]) H56)
    (HT prg I.spec_l05Grow [v2x1, a1].toArray H53 fun v29x58 H59 =>
  st 3 v4x3 v29x58 H59 fun H60 =>
  ob (vLoadN 3 v4x3 H60) fun u61 => K (.tuple #[u61, (.bool true)]) H60)
def O.spec_GrowField : Nat → Nat × List Nat := fun i => (0, [])
theorem R.spec_GrowField {a0 a1 : Value} {H : Hp} {K : Value → Hp → Prop} (h : F.spec_GrowField a0 a1 H K) : HT prg I.spec_GrowField [a0, a1].toArray H K :=
  HT_of_fev O.spec_GrowField mixed Tryz.func34 (by kernel_rfl) (Eq.mpr (by kernel_rfl : fev prg O.spec_GrowField Tryz.f34 [a0, a1] H K = F.spec_GrowField a0 a1 H K) h)

/-! loop.example/g01381/spec.CrashOf: function 18 -/
def F.spec_CrashOf (a0 a1 a2 a3 a4 a5 : Value) (H : Hp) (K : Value → Hp → Prop) : Prop :=
  nw (a0 : Value).cells 30 H fun v6x1 H2 =>
  nw (a1 : Value).cells 44 H2 fun v7x3 H4 =>
  nw (a2 : Value).cells 44 H4 fun v8x5 H6 =>
  HT prg I.spec_l04Can [v6x1, v7x3].toArray H6 fun v23x7 H8 =>
  ob (vUn .not v23x7) fun v24x9 =>
  gop v24x9 false (fun K10 => HT prg I.spec_l04Plain [v8x5].toArray H8 K10) H8 fun v26x11 H12 =>
  gop v24x9 false (fun K13 => ob (vUn .not v26x11) fun u => K13 u H12) H12 fun v27x14 H15 =>
  ob (vPick v24x9 (.bool true) v27x14) fun v28x16 =>
  gop v28x16 false (fun K17 => K17 a5 H15) H15 fun v30x18 H19 =>
  gop v28x16 false (fun K20 => HT prg I.spec_l00In [v30x18, (.int .i64 0), (.int .i64 8)].toArray H19 K20) H19 fun v31x21 H22 =>
  gop v28x16 false (fun K23 => ob (vUn .not v31x21) fun u => K23 u H22) H22 fun v32x24 H25 =>
  ob (vPick v28x16 (.bool true) v32x24) fun v33x26 =>
  cnd v33x26
    (K (.tuple #[(.slice none 0 0), (.slice none 0 0), (.bool false)]) H25)
    (HT prg I.spec_l05Meet [v7x3, v8x5, a3, a4].toArray H25 fun v37x27 H28 =>
  ob (vExt v37x27 0) fun v38x29 =>
  ob (vExt v37x27 1) fun v39x30 =>
  nw #[(.int .i64 0), (.int .i64 0), (.slice none 0 0)] 44 H28 fun v15x31 H32 =>
  st 3 v15x31 v38x29 H32 fun H33 =>
  ob (vUn .not v39x30) fun v41x34 =>
  cnd v41x34
    (K (.tuple #[(.slice none 0 0), (.slice none 0 0), (.bool false)]) H33)
    (ob (vLoadN 3 v15x31 H33) fun v43x35 =>
  HT prg I.spec_GrowField [v43x35, a5].toArray H33 fun v45x36 H37 =>
  ob (vExt v45x36 0) fun v46x38 =>
  ob (vExt v45x36 1) fun v47x39 =>
  nw #[(.int .i64 0), (.int .i64 0), (.slice none 0 0)] 44 H37 fun v17x40 H41 =>
  st 3 v17x40 v46x38 H41 fun H42 =>
  ob (vUn .not v47x39) fun v49x43 =>
  cnd v49x43
    (K (.tuple #[(.slice none 0 0), (.slice none 0 0), (.bool false)]) H42)
    (HT prg I.spec_l04Run [v6x1, v17x40, (.bool false), a5].toArray H42 fun v51x44 H45 =>
  nw #[(.int .i64 0), (.int .i64 0), (.slice none 0 0)] 44 H45 fun v19x46 H47 =>
  st 3 v19x46 v51x44 H47 fun H48 =>
  HT prg I.spec_l05Census [v19x46].toArray H48 fun v53x49 H50 =>
  ob (vExt v53x49 0) fun v54x51 =>
  ob (vExt v53x49 1) fun v55x52 =>
  ob (vExt v53x49 2) fun v56x53 =>
  ob (vUn .not v56x53) fun v58x54 =>
  cnd v58x54
    (K (.tuple #[(.slice none 0 0), (.slice none 0 0), (.bool false)]) H50)
    (K (.tuple #[v54x51, v55x52, (.bool true)]) H50))))
def O.spec_CrashOf : Nat → Nat × List Nat := fun i => (0, [])
theorem R.spec_CrashOf {a0 a1 a2 a3 a4 a5 : Value} {H : Hp} {K : Value → Hp → Prop} (h : F.spec_CrashOf a0 a1 a2 a3 a4 a5 H K) : HT prg I.spec_CrashOf [a0, a1, a2, a3, a4, a5].toArray H K :=
  HT_of_fev O.spec_CrashOf mixed Tryz.func18 (by kernel_rfl) (Eq.mpr (by kernel_rfl : fev prg O.spec_CrashOf Tryz.f18 [a0, a1, a2, a3, a4, a5] H K = F.spec_CrashOf a0 a1 a2 a3 a4 a5 H K) h)

/-! loop.example/g01381/laws.toField: function 19 -/
def F.laws_toField (a0 : Value) (H : Hp) (K : Value → Hp → Prop) : Prop :=
  nw (a0 : Value).cells 40 H fun v1x1 H2 =>
  nw #[(.int .i64 0), (.int .i64 0), (.slice none 0 0)] 44 H2 fun v2x3 H4 =>
  nw #[(.int .i64 0), (.int .i64 0), (.slice none 0 0)] 44 H4 fun v3x5 H6 =>
  ob (vFa 0 v1x1) fun v4x7 =>
  ob (vLoad v4x7 H6) fun v5x8 =>
  ob (vFa 0 v3x5) fun v6x9 =>
  st 1 v6x9 v5x8 H6 fun H10 =>
  ob (vFa 1 v1x1) fun v7x11 =>
  ob (vLoad v7x11 H10) fun v8x12 =>
  ob (vFa 1 v3x5) fun v9x13 =>
  st 1 v9x13 v8x12 H10 fun H14 =>
  ob (vFa 2 v1x1) fun v10x15 =>
  ob (vLoad v10x15 H14) fun v11x16 =>
  HT prg I.laws_toInt64S [v11x16].toArray H14 fun v12x17 H18 =>
  ob (vFa 2 v3x5) fun v13x19 =>
  st 1 v13x19 v12x17 H18 fun H20 =>
  ob (vLoadN 3 v3x5 H20) fun v14x21 =>
  st 3 v2x3 v14x21 H20 fun H22 =>
  ob (vLoadN 3 v2x3 H22) fun u23 => K u23 H22
def O.laws_toField : Nat → Nat × List Nat := fun i => (0, [])
theorem R.laws_toField {a0 : Value} {H : Hp} {K : Value → Hp → Prop} (h : F.laws_toField a0 H K) : HT prg I.laws_toField [a0].toArray H K :=
  HT_of_fev O.laws_toField mixed Tryz.func19 (by kernel_rfl) (Eq.mpr (by kernel_rfl : fev prg O.laws_toField Tryz.f19 [a0] H K = F.laws_toField a0 H K) h)

/-! loop.example/g01381/impl.meet$1: function 59 -/
def F.impl_meet_1 (a0 a1 a2 a3 a4 a5 : Value) (H : Hp) (K : Value → Hp → Prop) : Prop :=
  ob (vLoadN 3 a2 H) fun v9x1 =>
  ob (vLoadN 3 a3 H) fun v13x2 =>
  ob (vLoad a4 H) fun v15x3 =>
  ob (vInt .sub a0 v15x3) fun v16x4 =>
  ob (vLoad a5 H) fun v18x5 =>
  ob (vInt .sub a1 v18x5) fun v19x6 =>
  HT prg I.impl_Field_look [v9x1, a0, a1, (.bool false)].toArray H fun v12x7 H8 =>
  Le H H8 ∧ (HT prg I.impl_Field_look [v13x2, v16x4, v19x6, (.bool false)].toArray H8 fun v20x9 H10 =>
  Le H8 H10 ∧ (ob (vMx true v12x7 [v20x9]) fun v21x11 =>
  K v21x11 H10))
def O.impl_meet_1 : Nat → Nat × List Nat := fun i => bif Nat.beq i 1 then (0, [0, 1, 2, 4, 5, 6, 7, 8, 9, 10, 3, 11, 12, 13]) else (0, [])
theorem R.impl_meet_1 {a0 a1 a2 a3 a4 a5 : Value} {H : Hp} {K : Value → Hp → Prop} (h : F.impl_meet_1 a0 a1 a2 a3 a4 a5 H K) : HT prg I.impl_meet_1 [a0, a1, a2, a3, a4, a5].toArray H K :=
  HT_of_fev O.impl_meet_1 mixed Tryz.func59 (by kernel_rfl) (Eq.mpr (by kernel_rfl : fev prg O.impl_meet_1 Tryz.f59 [a0, a1, a2, a3, a4, a5] H K = F.impl_meet_1 a0 a1 a2 a3 a4 a5 H K) h)

/-! loop.example/g01381/impl.meet: function 36 -/
def F.impl_meet (a0 a1 a2 a3 : Value) (H : Hp) (K : Value → Hp → Prop) : Prop :=
  nw (a0 : Value).cells 44 H fun v4x1 H2 =>
  nw (a1 : Value).cells 44 H2 fun v5x3 H4 =>
  nw (a2 : Value).cells 2 H4 fun v6x5 H6 =>
  nw (a3 : Value).cells 2 H6 fun v7x7 H8 =>
  nw #[(.int .i64 0), (.int .i64 0), (.slice none 0 0)] 44 H8 fun v8x9 H10 =>
  ob (vLoadN 3 v4x1 H10) fun v12x11 =>
  HT prg I.impl_isPlain [v12x11].toArray H10 fun v13x12 H13 =>
  ob (vUn .not v13x12) fun v14x14 =>
  gop v14x14 false (fun K15 => ob (vLoadN 3 v5x3 H13) fun u => K15 u H13) H13 fun v16x16 H17 =>
  gop v14x14 false (fun K18 => HT prg I.impl_isPlain [v16x16].toArray H17 K18) H17 fun v17x19 H20 =>
  gop v14x14 false (fun K21 => ob (vUn .not v17x19) fun u => K21 u H20) H20 fun v18x22 H23 =>
  ob (vPick v14x14 (.bool true) v18x22) fun v19x24 =>
  gop v19x24 false (fun K25 => ob (vLoad v6x5 H23) fun u => K25 u H23) H23 fun v21x26 H27 =>
  gop v19x24 false (fun K28 => HT prg I.impl_within [v21x26, (.int .i64 0), (.int .i64 24)].toArray H27 K28) H27 fun v22x29 H30 =>
  gop v19x24 false (fun K31 => ob (vUn .not v22x29) fun u => K31 u H30) H30 fun v23x32 H33 =>
  ob (vPick v19x24 (.bool true) v23x32) fun v24x34 =>
  gop v24x34 false (fun K35 => ob (vLoad v7x7 H33) fun u => K35 u H33) H33 fun v26x36 H37 =>
  gop v24x34 false (fun K38 => HT prg I.impl_within [v26x36, (.int .i64 0), (.int .i64 24)].toArray H37 K38) H37 fun v27x39 H40 =>
  gop v24x34 false (fun K41 => ob (vUn .not v27x39) fun u => K41 u H40) H40 fun v28x42 H43 =>
  ob (vPick v24x34 (.bool true) v28x42) fun v29x44 =>
  cnd v29x44
    (ob (vBuild [(0, 1), (1, 1), (2, 1)] (.agg #[(.int .i64 0), (.int .i64 0), (.slice none 0 0)]) []) fun v30x45 =>
    st 3 v8x9 v30x45 H43 fun H46 =>
    ob (vLoadN 3 v8x9 H46) fun u47 => K (.tuple #[u47, (.bool false)]) H46)
    (ob (vFa 0 v4x1) fun v31x48 =>
  ob (vLoad v31x48 H43) fun v32x49 =>
  ob (vLoad v6x5 H43) fun v33x50 =>
  ob (vFa 0 v5x3) fun v34x51 =>
  ob (vLoad v34x51 H43) fun v35x52 =>
  ob (vInt .add v33x50 v35x52) fun v36x53 =>
  ob (vMx true v32x49 [v36x53]) fun v37x54 =>
  ob (vFa 1 v4x1) fun v38x55 =>
  ob (vLoad v38x55 H43) fun v39x56 =>
  ob (vLoad v7x7 H43) fun v40x57 =>
  ob (vFa 1 v5x3) fun v41x58 =>
  ob (vLoad v41x58 H43) fun v42x59 =>
  ob (vInt .add v40x57 v42x59) fun v43x60 =>
  ob (vMx true v39x56 [v43x60]) fun v44x61 =>
  HT prg I.impl_isSide [v37x54].toArray H43 fun v46x62 H63 =>
  ob (vUn .not v46x62) fun v47x64 =>
  gop v47x64 false (fun K65 => K65 v44x61 H63) H63 fun v49x66 H67 =>
  gop v47x64 false (fun K68 => HT prg I.impl_isSide [v49x66].toArray H67 K68) H67 fun v50x69 H70 =>
  gop v47x64 false (fun K71 => ob (vUn .not v50x69) fun u => K71 u H70) H70 fun v51x72 H73 =>
  ob (vPick v47x64 (.bool true) v51x72) fun v52x74 =>
  cnd v52x74
    (ob (vBuild [(0, 1), (1, 1), (2, 1)] (.agg #[(.int .i64 0), (.int .i64 0), (.slice none 0 0)]) []) fun v53x75 =>
    st 3 v8x9 v53x75 H73 fun H76 =>
    ob (vLoadN 3 v8x9 H76) fun u77 => K (.tuple #[u77, (.bool false)]) H76)
    (HT prg I.impl_madeField [v37x54, v44x61, (.func (.func I.impl_meet_1) #[] #[v4x1, v5x3, v6x5, v7x7])].toArray H73 fun v57x78 H79 =>
  st 3 v8x9 v57x78 H79 fun H80 =>
  ob (vLoadN 3 v8x9 H80) fun u81 => K (.tuple #[u81, (.bool true)]) H80))
def O.impl_meet : Nat → Nat × List Nat := fun i => bif Nat.beq i 3 then (0, [0, 1, 2, 3, 4, 5, 6, 7, 8, 9, 10, 11, 12, 13, 14, 15]) else (0, [])
theorem R.impl_meet {a0 a1 a2 a3 : Value} {H : Hp} {K : Value → Hp → Prop} (h : F.impl_meet a0 a1 a2 a3 H K) : HT prg I.impl_meet [a0, a1, a2, a3].toArray H K :=
  HT_of_fev O.impl_meet mixed Tryz.func36 (by kernel_rfl) (Eq.mpr (by kernel_rfl : fev prg O.impl_meet Tryz.f36 [a0, a1, a2, a3] H K = F.impl_meet a0 a1 a2 a3 H K) h)

/-! loop.example/g01381/impl.GrowField$1: function 62 -/
def F.impl_GrowField_1 (a0 a1 a2 a3 : Value) (H : Hp) (K : Value → Hp → Prop) : Prop :=
  ob (vLoadN 3 a2 H) fun v7x1 =>
  ob (vLoad a3 H) fun v9x2 =>
  ob (vInt .sub a0 v9x2) fun v10x3 =>
  ob (vLoad a3 H) fun v12x4 =>
  ob (vInt .sub a1 v12x4) fun v13x5 =>
  HT prg I.impl_Field_look [v7x1, v10x3, v13x5, (.bool false)].toArray H fun v14x6 H7 =>
  K v14x6 H7
def O.impl_GrowField_1 : Nat → Nat × List Nat := fun i => (0, [])
theorem R.impl_GrowField_1 {a0 a1 a2 a3 : Value} {H : Hp} {K : Value → Hp → Prop} (h : F.impl_GrowField_1 a0 a1 a2 a3 H K) : HT prg I.impl_GrowField_1 [a0, a1, a2, a3].toArray H K :=
  HT_of_fev O.impl_GrowField_1 mixed Tryz.func62 (by kernel_rfl) (Eq.mpr (by kernel_rfl : fev prg O.impl_GrowField_1 Tryz.f62 [a0, a1, a2, a3] H K = F.impl_GrowField_1 a0 a1 a2 a3 H K) h)

/-! loop.example/g01381/impl.GrowField: function 39 -/
def F.impl_GrowField (a0 a1 : Value) (H : Hp) (K : Value → Hp → Prop) : Prop :=
  nw (a0 : Value).cells 44 H fun v2x1 H2 =>
  nw (a1 : Value).cells 2 H2 fun v3x3 H4 =>
  nw #[(.int .i64 0), (.int .i64 0), (.slice none 0 0)] 44 H4 fun v4x5 H6 =>
  ob (vLoadN 3 v2x1 H6) fun v6x7 =>
  HT prg I.impl_isPlain [v6x7].toArray H6 fun v7x8 H9 =>
  ob (vUn .not v7x8) fun v8x10 =>
  gop v8x10 false (fun K11 => ob (vLoad v3x3 H9) fun u => K11 u H9) H9 fun v10x12 H13 =>
  gop v8x10 false (fun K14 => HT prg I.impl_within [v10x12, (.int .i64 0), (.int .i64 24)].toArray H13 K14) H13 fun v11x15 H16 =>
  gop v8x10 false (fun K17 => ob (vUn .not v11x15) fun u => K17 u H16) H16 fun v12x18 H19 =>
  ob (vPick v8x10 (.bool true) v12x18) fun v13x20 =>
  gop v13x20 false (fun K21 => ob (vFa 0 v2x1) fun u => K21 u H19) H19 fun v15x22 H23 =>
  gop v13x20 false (fun K24 => ob (vLoad v15x22 H23) fun u => K24 u H23) H23 fun v16x25 H26 =>
  gop v13x20 false (fun K27 => ob (vLoad v3x3 H26) fun u => K27 u H26) H26 fun v17x28 H29 =>
  gop v13x20 false (fun K30 => ob (vInt .mul (.int .i64 2) v17x28) fun u => K30 u H29) H29 fun v18x31 H32 =>
  gop v13x20 false (fun K33 => ob (vInt .add v16x25 v18x31) fun u => K33 u H32) H32 fun v19x34 H35 =>
  gop v13x20 false (fun K36 => HT prg I.impl_isSide [v19x34].toArray H35 K36) H35 fun v20x37 H38 =>
  gop v13x20 false (fun K39 => ob (vUn .not v20x37) fun u => K39 u H38) H38 fun v21x40 H41 =>
  ob (vPick v13x20 (.bool true) v21x40) fun v22x42 =>
  gop v22x42 false (fun K43 => ob (vFa 1 v2x1) fun u => K43 u H41) H41 fun v24x44 H45 =>
  gop v22x42 false (fun K46 => ob (vLoad v24x44 H45) fun u => K46 u H45) H45 fun v25x47 H48 =>
  gop v22x42 false (fun K49 => ob (vLoad v3x3 H48) fun u => K49 u H48) H48 fun v26x50 H51 =>
  gop v22x42 false (fun K52 => ob (vInt .mul (.int .i64 2) v26x50) fun u => K52 u H51) H51 fun v27x53 H54 =>
  gop v22x42 false (fun K55 => ob (vInt .add v25x47 v27x53) fun u => K55 u H54) H54 fun v28x56 H57 =>
  gop v22x42 false (fun K58 => HT prg I.impl_isSide [v28x56].toArray H57 K58) H57 fun v29x59 H60 =>
  gop v22x42 false (fun K61 => ob (vUn .not v29x59) fun u => K61 u H60) H60 fun v30x62 H63 =>
  ob (vPick v22x42 (.bool true) v30x62) fun v31x64 =>
  cnd v31x64
    (ob (vBuild [(0, 1), (1, 1), (2, 1)] (.agg #[(.int .i64 0), (.int .i64 0), (.slice none 0 0)]) []) fun v32x65 =>
    st 3 v4x5 v32x65 H63 fun H66 =>
    ob (vLoadN 3 v4x5 H66) fun u67 => K (.tuple #[u67, (.bool false)]) H66)
    (ob (vFa 0 v2x1) fun v33x68 =>
  ob (vLoad v33x68 H63) fun v34x69 =>
  ob (vLoad v3x3 H63) fun v35x70 =>
  ob (vInt .mul (.int .i64 2) v35x70) fun v36x71 =>
  ob (vInt .add v34x69 v36x71) fun v37x72 =>
  ob (vFa 1 v2x1) fun v38x73 =>
  ob (vLoad v38x73 H63) fun v39x74 =>
  ob (vLoad v3x3 H63) fun v40x75 =>
  ob (vInt .mul (.int .i64 2) v40x75) fun v41x76 =>
  ob (vInt .add v39x74 v41x76) fun v42x77 =>
  HT prg I.impl_madeField [v37x72, v42x77, (.func (.func I.impl_GrowField_1) #[] #[v2x1, v3x3])].toArray H63 fun v44x78 H79 =>
  st 3 v4x5 v44x78 H79 fun H80 =>
  ob (vLoadN 3 v4x5 H80) fun u81 => K (.tuple #[u81, (.bool true)]) H80)
def O.impl_GrowField : Nat → Nat × List Nat := fun i => (0, [])
theorem R.impl_GrowField {a0 a1 : Value} {H : Hp} {K : Value → Hp → Prop} (h : F.impl_GrowField a0 a1 H K) : HT prg I.impl_GrowField [a0, a1].toArray H K :=
  HT_of_fev O.impl_GrowField mixed Tryz.func39 (by kernel_rfl) (Eq.mpr (by kernel_rfl : fev prg O.impl_GrowField Tryz.f39 [a0, a1] H K = F.impl_GrowField a0 a1 H K) h)

/-! loop.example/g01381/impl.CrashOf: function 20 -/
def F.impl_CrashOf (a0 a1 a2 a3 a4 a5 : Value) (H : Hp) (K : Value → Hp → Prop) : Prop :=
  nw (a0 : Value).cells 30 H fun v6x1 H2 =>
  nw (a1 : Value).cells 44 H2 fun v7x3 H4 =>
  nw (a2 : Value).cells 44 H4 fun v8x5 H6 =>
  ob (vLoadN 3 v7x3 H6) fun v18x7 =>
  ob (vLoadN 3 v8x5 H6) fun v19x8 =>
  HT prg I.impl_meet [v18x7, v19x8, a3, a4].toArray H6 fun v22x9 H10 =>
  ob (vExt v22x9 0) fun v23x11 =>
  ob (vExt v22x9 1) fun v24x12 =>
  nw #[(.int .i64 0), (.int .i64 0), (.slice none 0 0)] 44 H10 fun v15x13 H14 =>
  st 3 v15x13 v23x11 H14 fun H15 =>
  ob (vUn .not v24x12) fun v26x16 =>
  gop v26x16 false (fun K17 => ob (vLoadN 2 v6x1 H15) fun u => K17 u H15) H15 fun v28x18 H19 =>
  gop v26x16 false (fun K20 => HT prg I.impl_ValidLife [v28x18].toArray H19 K20) H19 fun v29x21 H22 =>
  gop v26x16 false (fun K23 => ob (vUn .not v29x21) fun u => K23 u H22) H22 fun v30x24 H25 =>
  ob (vPick v26x16 (.bool true) v30x24) fun v31x26 =>
  gop v31x26 false (fun K27 => K27 a5 H25) H25 fun v33x28 H29 =>
  gop v31x26 false (fun K30 => HT prg I.impl_within [v33x28, (.int .i64 0), (.int .i64 8)].toArray H29 K30) H29 fun v34x31 H32 =>
  gop v31x26 false (fun K33 => ob (vUn .not v34x31) fun u => K33 u H32) H32 fun v35x34 H35 =>
  ob (vPick v31x26 (.bool true) v35x34) fun v36x36 =>
  cnd v36x36
    (K (.tuple #[(.slice none 0 0), (.slice none 0 0), (.bool false)]) H35)
    (ob (vLoadN 3 v15x13 H35) fun v38x37 =>
  HT prg I.impl_GrowField [v38x37, a5].toArray H35 fun v40x38 H39 =>
  ob (vExt v40x38 0) fun v41x40 =>
  ob (vExt v40x38 1) fun v42x41 =>
  st 3 v15x13 v41x40 H39 fun H42 =>
  ob (vUn .not v42x41) fun v44x43 =>
  cnd v44x43
    (K (.tuple #[(.slice none 0 0), (.slice none 0 0), (.bool false)]) H42)
    (ob (vLoadN 2 v6x1 H42) fun v45x44 =>
  ob (vLoadN 3 v15x13 H42) fun v46x45 =>
  HT prg I.impl_Life_run [v45x44, v46x45, (.bool false), a5].toArray H42 fun v48x46 H47 =>
  HT prg I.impl_CensusOf [v48x46].toArray H47 fun v49x48 H49 =>
  ob (vExt v49x48 0) fun v50x50 =>
  ob (vExt v49x48 1) fun v51x51 =>
  ob (vExt v49x48 2) fun v52x52 =>
  K (.tuple #[v50x50, v51x51, v52x52]) H49))
def O.impl_CrashOf : Nat → Nat × List Nat := fun i => (0, [])
theorem R.impl_CrashOf {a0 a1 a2 a3 a4 a5 : Value} {H : Hp} {K : Value → Hp → Prop} (h : F.impl_CrashOf a0 a1 a2 a3 a4 a5 H K) : HT prg I.impl_CrashOf [a0, a1, a2, a3, a4, a5].toArray H K :=
  HT_of_fev O.impl_CrashOf mixed Tryz.func20 (by kernel_rfl) (Eq.mpr (by kernel_rfl : fev prg O.impl_CrashOf Tryz.f20 [a0, a1, a2, a3, a4, a5] H K = F.impl_CrashOf a0 a1 a2 a3 a4 a5 H K) h)

/-! loop.example/g01381/laws.eqField: function 21 -/
def F.laws_eqField (a0 a1 : Value) (H : Hp) (K : Value → Hp → Prop) : Prop :=
  nw (a0 : Value).cells 44 H fun v2x1 H2 =>
  nw (a1 : Value).cells 44 H2 fun v3x3 H4 =>
  ob (vFa 0 v2x1) fun v5x5 =>
  ob (vLoad v5x5 H4) fun v6x6 =>
  ob (vFa 0 v3x3) fun v7x7 =>
  ob (vLoad v7x7 H4) fun v8x8 =>
  ob (vInt .neq v6x6 v8x8) fun v9x9 =>
  cnd v9x9
    (K (.bool false) H4)
    (ob (vFa 1 v2x1) fun v10x10 =>
  ob (vLoad v10x10 H4) fun v11x11 =>
  ob (vFa 1 v3x3) fun v12x12 =>
  ob (vLoad v12x12 H4) fun v13x13 =>
  ob (vInt .neq v11x11 v13x13) fun v14x14 =>
  cnd v14x14
    (K (.bool false) H4)
    (ob (vFa 2 v2x1) fun v15x15 =>
  ob (vLoad v15x15 H4) fun v16x16 =>
  ob (vFa 2 v3x3) fun v17x17 =>
  ob (vLoad v17x17 H4) fun v18x18 =>
  HT prg I.laws_eqInt64S [v16x16, v18x18].toArray H4 fun v19x19 H20 =>
  ob (vUn .not v19x19) fun v20x21 =>
  cnd v20x21
    (K (.bool false) H20)
    (K (.bool true) H20)))
def O.laws_eqField : Nat → Nat × List Nat := fun i => (0, [])
theorem R.laws_eqField {a0 a1 : Value} {H : Hp} {K : Value → Hp → Prop} (h : F.laws_eqField a0 a1 H K) : HT prg I.laws_eqField [a0, a1].toArray H K :=
  HT_of_fev O.laws_eqField mixed Tryz.func21 (by kernel_rfl) (Eq.mpr (by kernel_rfl : fev prg O.laws_eqField Tryz.f21 [a0, a1] H K = F.laws_eqField a0 a1 H K) h)

/-! loop.example/g01381/laws.markField: function 22 -/
def F.laws_markField (a0 a1 : Value) (H : Hp) (K : Value → Hp → Prop) : Prop :=
  nw (a0 : Value).cells 44 H fun v2x1 H2 =>
  ob (vFa 2 v2x1) fun v5x3 =>
  ob (vLoad v5x3 H2) fun v6x4 =>
  HT prg I.laws_markInt64S [v6x4, a1].toArray H2 fun v8x5 H6 =>
  K v8x5 H6
def O.laws_markField : Nat → Nat × List Nat := fun i => (0, [])
theorem R.laws_markField {a0 a1 : Value} {H : Hp} {K : Value → Hp → Prop} (h : F.laws_markField a0 a1 H K) : HT prg I.laws_markField [a0, a1].toArray H K :=
  HT_of_fev O.laws_markField mixed Tryz.func22 (by kernel_rfl) (Eq.mpr (by kernel_rfl : fev prg O.laws_markField Tryz.f22 [a0, a1] H K = F.laws_markField a0 a1 H K) h)

/-! loop.example/g01381/laws.FnExactCrashOf: function 4 -/
def F.laws_FnExactCrashOf (a0 a1 a2 a3 a4 a5 : Value) (H : Hp) (K : Value → Hp → Prop) : Prop :=
  nw (a0 : Value).cells 24 H fun v6x1 H2 =>
  nw (a1 : Value).cells 40 H2 fun v7x3 H4 =>
  nw (a2 : Value).cells 40 H4 fun v8x5 H6 =>
  ob (vLoadN 2 v6x1 H6) fun v29x7 =>
  HT prg I.laws_szLife [v29x7, (.int .i64 1048576)].toArray H6 fun v31x8 H9 =>
  ob (vInt .lss v31x8 (.int .i64 0)) fun v33x10 =>
  cnd v33x10
    (K (.bool true) H9)
    (ob (vLoadN 3 v7x3 H9) fun v34x11 =>
  HT prg I.laws_szField [v34x11, v31x8].toArray H9 fun v36x12 H13 =>
  ob (vInt .lss v36x12 (.int .i64 0)) fun v38x14 =>
  cnd v38x14
    (K (.bool true) H13)
    (ob (vLoadN 3 v8x5 H13) fun v39x15 =>
  HT prg I.laws_szField [v39x15, v36x12].toArray H13 fun v41x16 H17 =>
  ob (vInt .lss v41x16 (.int .i64 0)) fun v43x18 =>
  cnd v43x18
    (K (.bool true) H17)
    (ob (vLoadN 2 v6x1 H17) fun v45x19 =>
  ob (vLoadN 3 v7x3 H17) fun v47x20 =>
  ob (vLoadN 3 v8x5 H17) fun v49x21 =>
  HT prg I.laws_toLife [v45x19].toArray H17 fun v46x22 H23 =>
  Le H17 H23 ∧ (HT prg I.laws_toField [v47x20].toArray H23 fun v48x24 H25 =>
  Le H23 H25 ∧ (HT prg I.laws_toField [v49x21].toArray H25 fun v50x26 H27 =>
  Le H25 H27 ∧ (HT prg I.spec_CrashOf [v46x22, v48x24, v50x26, a3, a4, a5].toArray H27 fun v54x28 H29 =>
  Le H27 H29 ∧ (ob (vExt v54x28 0) fun v55x30 =>
  ob (vExt v54x28 1) fun v56x31 =>
  ob (vExt v54x28 2) fun v57x32 =>
  ob (vLoadN 2 v6x1 H29) fun v58x33 =>
  HT prg I.laws_toLife [v58x33].toArray H29 fun v59x34 H35 =>
  nw #[(.slice none 0 0), (.slice none 0 0)] 30 H35 fun v17x36 H37 =>
  st 2 v17x36 v59x34 H37 fun H38 =>
  ob (vLoadN 3 v7x3 H38) fun v60x39 =>
  HT prg I.laws_toField [v60x39].toArray H38 fun v61x40 H41 =>
  nw #[(.int .i64 0), (.int .i64 0), (.slice none 0 0)] 44 H41 fun v18x42 H43 =>
  st 3 v18x42 v61x40 H43 fun H44 =>
  ob (vLoadN 3 v8x5 H44) fun v62x45 =>
  HT prg I.laws_toField [v62x45].toArray H44 fun v63x46 H47 =>
  nw #[(.int .i64 0), (.int .i64 0), (.slice none 0 0)] 44 H47 fun v19x48 H49 =>
  st 3 v19x48 v63x46 H49 fun H50 =>
  ob (vLoadN 2 v17x36 H50) fun v65x51 =>
  ob (vLoadN 3 v18x42 H50) fun v66x52 =>
  ob (vLoadN 3 v19x48 H50) fun v67x53 =>
  HT prg I.impl_CrashOf [v65x51, v66x52, v67x53, a3, a4, a5].toArray H50 fun v71x54 H55 =>
  ob (vExt v71x54 0) fun v72x56 =>
  ob (vExt v71x54 1) fun v73x57 =>
  ob (vExt v71x54 2) fun v74x58 =>
  HT prg I.laws_eqStringS [v72x56, v55x30].toArray H55 fun v77x59 H60 =>
  ob (vUn .not v77x59) fun v78x61 =>
  gop v78x61 false (fun K62 => K62 v73x57 H60) H60 fun v80x63 H64 =>
  gop v78x61 false (fun K65 => K65 v56x31 H64) H64 fun v81x66 H67 =>
  gop v78x61 false (fun K68 => HT prg I.laws_eqInt64S [v80x63, v81x66].toArray H67 K68) H67 fun v82x69 H70 =>
  gop v78x61 false (fun K71 => ob (vUn .not v82x69) fun u => K71 u H70) H70 fun v83x72 H73 =>
  ob (vPick v78x61 (.bool true) v83x72) fun v84x74 =>
  gop v84x74 false (fun K75 => K75 v74x58 H73) H73 fun v86x76 H77 =>
  gop v84x74 false (fun K78 => K78 v57x32 H77) H77 fun v87x79 H80 =>
  gop v84x74 false (fun K81 => ob (vBool .neq v86x76 v87x79) fun u => K81 u H80) H80 fun v88x82 H83 =>
  ob (vPick v84x74 (.bool true) v88x82) fun v89x84 =>
  cnd v89x84
    (K (.bool false) H83)
    (ob (vLoadN 2 v17x36 H83) fun v90x85 =>
  ob (vLoadN 2 v6x1 H83) fun v91x86 =>
  HT prg I.laws_toLife [v91x86].toArray H83 fun v92x87 H88 =>
  Le H83 H88 ∧ (HT prg I.laws_eqLife [v90x85, v92x87].toArray H88 fun v93x89 H90 =>
  Le H88 H90 ∧ (ob (vUn .not v93x89) fun v94x91 =>
  cnd v94x91
    (K (.bool false) H90)
    (ob (vLoadN 3 v18x42 H90) fun v95x92 =>
  ob (vLoadN 3 v7x3 H90) fun v96x93 =>
  HT prg I.laws_toField [v96x93].toArray H90 fun v97x94 H95 =>
  Le H90 H95 ∧ (HT prg I.laws_eqField [v95x92, v97x94].toArray H95 fun v98x96 H97 =>
  Le H95 H97 ∧ (ob (vUn .not v98x96) fun v99x98 =>
  cnd v99x98
    (K (.bool false) H97)
    (ob (vLoadN 3 v19x48 H97) fun v100x99 =>
  ob (vLoadN 3 v8x5 H97) fun v101x100 =>
  HT prg I.laws_toField [v101x100].toArray H97 fun v102x101 H102 =>
  Le H97 H102 ∧ (HT prg I.laws_eqField [v100x99, v102x101].toArray H102 fun v103x103 H104 =>
  Le H102 H104 ∧ (ob (vUn .not v103x103) fun v104x105 =>
  cnd v104x105
    (K (.bool false) H104)
    (ob (vLoadN 2 v17x36 H104) fun v105x106 =>
  HT prg I.laws_markLife [v105x106, (.int .i64 1)].toArray H104 fun v107x107 H108 =>
  ob (vLoadN 3 v18x42 H108) fun v108x109 =>
  HT prg I.laws_markField [v108x109, v107x107].toArray H108 fun v110x110 H111 =>
  ob (vLoadN 3 v19x48 H111) fun v111x112 =>
  HT prg I.laws_markField [v111x112, v110x110].toArray H111 fun v113x113 H114 =>
  ob (vInt .lss v113x113 (.int .i64 0)) fun v115x115 =>
  gop v115x115 false (fun K116 => K116 v72x56 H114) H114 fun v117x117 H118 =>
  gop v115x115 false (fun K119 => K119 v55x30 H118) H118 fun v118x120 H121 =>
  gop v115x115 false (fun K122 => HT prg I.laws_eqStringS [v117x117, v118x120].toArray H121 K122) H121 fun v119x123 H124 =>
  gop v115x115 false (fun K125 => ob (vUn .not v119x123) fun u => K125 u H124) H124 fun v120x126 H127 =>
  ob (vPick v115x115 (.bool true) v120x126) fun v121x128 =>
  gop v121x128 false (fun K129 => K129 v73x57 H127) H127 fun v123x130 H131 =>
  gop v121x128 false (fun K132 => K132 v56x31 H131) H131 fun v124x133 H134 =>
  gop v121x128 false (fun K135 => HT prg I.laws_eqInt64S [v123x130, v124x133].toArray H134 K135) H134 fun v125x136 H137 =>
  gop v121x128 false (fun K138 => ob (vUn .not v125x136) fun u => K138 u H137) H137 fun v126x139 H140 =>
  ob (vPick v121x128 (.bool true) v126x139) fun v127x141 =>
  gop v127x141 false (fun K142 => K142 v74x58 H140) H140 fun v129x143 H144 =>
  gop v127x141 false (fun K145 => K145 v57x32 H144) H144 fun v130x146 H147 =>
  gop v127x141 false (fun K148 => ob (vBool .neq v129x143 v130x146) fun u => K148 u H147) H147 fun v131x149 H150 =>
  ob (vPick v127x141 (.bool true) v131x149) fun v132x151 =>
  cnd v132x151
    (K (.bool false) H150)
    (HT prg I.laws_markStringS [v72x56, (.int .i64 1)].toArray H150 fun v135x152 H153 =>
  HT prg I.laws_markInt64S [v73x57, v135x152].toArray H153 fun v138x154 H155 =>
  HT prg I.laws_heldStringS [v72x56, (.int .i64 1)].toArray H155 fun v141x156 H157 =>
  ob (vInt .lss v141x156 (.int .i64 0)) fun v143x158 =>
  cnd v143x158
    (K (.bool false) H157)
    (HT prg I.laws_heldInt64S [v73x57, v141x156].toArray H157 fun v146x159 H160 =>
  ob (vInt .lss v146x159 (.int .i64 0)) fun v148x161 =>
  cnd v148x161
    (K (.bool false) H160)
    (ob (vInt .neq v146x159 v138x154) fun v151x162 =>
  cnd v151x162
    (K (.bool false) H160)
    (ob (vLoadN 2 v6x1 H160) fun v153x163 =>
  ob (vLoadN 3 v7x3 H160) fun v155x164 =>
  ob (vLoadN 3 v8x5 H160) fun v157x165 =>
  HT prg I.laws_toLife [v153x163].toArray H160 fun v154x166 H167 =>
  Le H160 H167 ∧ (HT prg I.laws_toField [v155x164].toArray H167 fun v156x168 H169 =>
  Le H167 H169 ∧ (HT prg I.laws_toField [v157x165].toArray H169 fun v158x170 H171 =>
  Le H169 H171 ∧ (HT prg I.impl_CrashOf [v154x166, v156x168, v158x170, a3, a4, a5].toArray H171 fun v162x172 H173 =>
  Le H171 H173 ∧ (ob (vExt v162x172 0) fun v163x174 =>
  ob (vExt v162x172 1) fun v164x175 =>
  ob (vExt v162x172 2) fun v165x176 =>
  HT prg I.laws_eqStringS [v163x174, v55x30].toArray H173 fun v168x177 H178 =>
  ob (vUn .not v168x177) fun v169x179 =>
  gop v169x179 false (fun K180 => K180 v164x175 H178) H178 fun v171x181 H182 =>
  gop v169x179 false (fun K183 => K183 v56x31 H182) H182 fun v172x184 H185 =>
  gop v169x179 false (fun K186 => HT prg I.laws_eqInt64S [v171x181, v172x184].toArray H185 K186) H185 fun v173x187 H188 =>
  gop v169x179 false (fun K189 => ob (vUn .not v173x187) fun u => K189 u H188) H188 fun v174x190 H191 =>
  ob (vPick v169x179 (.bool true) v174x190) fun v175x192 =>
  gop v175x192 false (fun K193 => K193 v165x176 H191) H191 fun v177x194 H195 =>
  gop v175x192 false (fun K196 => K196 v57x32 H195) H195 fun v178x197 H198 =>
  gop v175x192 false (fun K199 => ob (vBool .neq v177x194 v178x197) fun u => K199 u H198) H198 fun v179x200 H201 =>
  ob (vPick v175x192 (.bool true) v179x200) fun v180x202 =>
  cnd v180x202
    (K (.bool false) H201)
    (HT prg I.laws_heldStringS [v72x56, (.int .i64 1)].toArray H201 fun v183x203 H204 =>
  ob (vInt .lss v183x203 (.int .i64 0)) fun v185x205 =>
  cnd v185x205
    (K (.bool false) H204)
    (HT prg I.laws_heldInt64S [v73x57, v183x203].toArray H204 fun v188x206 H207 =>
  ob (vInt .lss v188x206 (.int .i64 0)) fun v190x208 =>
  cnd v190x208
    (K (.bool false) H207)
    (ob (vInt .neq v188x206 v138x154) fun v193x209 =>
  cnd v193x209
    (K (.bool false) H207)
    (K (.bool true) H207)))))))))))))))))))))))))))))
def O.laws_FnExactCrashOf : Nat → Nat × List Nat := fun i => bif Nat.beq i 11 then (0, [0, 2, 4, 6, 7, 8, 1, 3, 5, 9, 10, 11, 12, 13, 14, 15, 16]) else bif Nat.beq i 18 then (0, [0, 1, 2, 3, 4]) else bif Nat.beq i 20 then (0, [0, 1, 2, 3, 4]) else bif Nat.beq i 22 then (0, [0, 1, 2, 3, 4]) else bif Nat.beq i 42 then (0, [0, 2, 4, 6, 7, 8, 1, 3, 5, 9, 10, 11, 12, 13, 14, 15, 16]) else (0, [])
theorem R.laws_FnExactCrashOf {a0 a1 a2 a3 a4 a5 : Value} {H : Hp} {K : Value → Hp → Prop} (h : F.laws_FnExactCrashOf a0 a1 a2 a3 a4 a5 H K) : HT prg I.laws_FnExactCrashOf [a0, a1, a2, a3, a4, a5].toArray H K :=
  HT_of_fev O.laws_FnExactCrashOf mixed Tryz.func4 (by kernel_rfl) (Eq.mpr (by kernel_rfl : fev prg O.laws_FnExactCrashOf Tryz.f4 [a0, a1, a2, a3, a4, a5] H K = F.laws_FnExactCrashOf a0 a1 a2 a3 a4 a5 H K) h)

end Go.Proofs.YtffmfkpobjdmmaaGreatDoor
/- All functions' texts. -/
/- What the small functions of lanes come to. -/
namespace Go.Proofs.YtffmfkpobjdmmaaGreatDoor
open HL
theorem C.spec_l00In {x lo hi : Int} {H : Hp} {K : Value → Hp → Prop} (hk : K (.bool (decide (lo ≤ x ∧ x ≤ hi))) H) : HT prg I.spec_l00In [.int .i64 x, .int .i64 lo, .int .i64 hi].toArray H K := by
 refine R.spec_l00In ?_
 unfold F.spec_l00In
 by_cases h : lo ≤ x
 ·simp only [vInt_geq, vInt_leq, ob_some, h, decide_true, gop_tt, vPick_t, true_and] at hk ⊢; exact hk
 ·simp only [vInt_geq, ob_some, h, decide_false, gop_ft, vPick_f, false_and] at hk ⊢; exact hk
theorem C.impl_within {x lo hi : Int} {H : Hp} {K : Value → Hp → Prop} (hk : K (.bool (decide (lo ≤ x ∧ x ≤ hi))) H) : HT prg I.impl_within [.int .i64 x, .int .i64 lo, .int .i64 hi].toArray H K := by
 refine R.impl_within ?_
 unfold F.impl_within
 by_cases h : lo ≤ x
 ·simp only [vInt_geq, vInt_leq, ob_some, h, decide_true, gop_tt, vPick_t, true_and] at hk ⊢; exact hk
 ·simp only [vInt_geq, ob_some, h, decide_false, gop_ft, vPick_f, false_and] at hk ⊢; exact hk
theorem C.impl_areWithin {a : Value} {l : List Int} {lo hi : Int} {H : Hp} {K : Value → Hp → Prop} (ha : Sl eI H a l) (hl : l.length ≤ 9223372036854775807) (hk : K (.bool (decide (∀ x ∈ l, lo ≤ x ∧ x ≤ hi))) H) :
    HT prg I.impl_areWithin [a, .int .i64 lo, .int .i64 hi].toArray H K := by
 refine R.impl_areWithin ?_
 unfold F.impl_areWithin jn; dsimp only
 rw [ha.len, ob_some]
 refine ⟨fun n σ H1 => ∃ i : Nat, n = l.length - i ∧ i ≤ l.length ∧ H1 = H ∧ σ 1 = .int .i64 lo ∧ σ 2 = .int .i64 hi ∧ σ 9 = a ∧ σ 10 = .int .i64 l.length ∧ σ 11 = .int .i64 i ∧ ∀ x ∈ l.take i, lo ≤ x ∧ x ≤ hi,
  ⟨_, 0, rfl, by omega, rfl, rfl, rfl, rfl, rfl, rfl, by simp⟩, ?_⟩
 rintro n σ H1 ⟨i, rfl, hi', rfl, h1, h2, h9, h10, h11, hall⟩
 simp only [h1, h2, h9, h10, h11, vInt_lss, ob_some]
 refine cnd_d (fun hlt => ?_) (fun hge => ?_)
 ·have hlt' : i < l.length := by omega
  rw [ha.ix (by omega) hlt, ob_some, ha.ld 0 (by omega) hlt, ob_some]
  refine C.impl_within ?_
  rw [vUn_not, ob_some]
  refine cnd_i (fun hb => ?_) (fun hb => ?_)
  ·refine retK (K := K) (v' := .bool false) rfl ?_
   rw [decide_eq_false] at hk
   ·exact hk
   ·intro hh
    have := hh _ (at_mem 0 l (i := i) (by omega) hlt)
    simp [this] at hb
  ·rw [vInt_add (by omega) (by omega), ob_some]
   refine nxt (l.length - (i + 1)) (by omega) ⟨i + 1, rfl, by omega, rfl, h1, h2, h9, h10, rfl, ?_⟩
   rw [take_at 0 l hlt']
   intro x hx
   rcases List.mem_append.mp hx with hx | hx
   ·exact hall x hx
   ·simp only [List.mem_singleton] at hx; subst hx; simpa using hb
 ·refine retK (K := K) (v' := .bool true) rfl ?_
  rw [decide_eq_true] at hk
  ·exact hk
  ·intro x hx
   rw [List.take_of_length_le (by omega)] at hall
   exact hall x hx
theorem C.impl_areMany {a : Value} {l : List Int} {n m lo hi : Int} {H : Hp} {K : Value → Hp → Prop} (ha : Sl eI H a l) (hl : l.length ≤ 9223372036854775807)
    (hk : K (.bool (decide ((n ≤ l.length ∧ l.length ≤ m) ∧ ∀ x ∈ l, lo ≤ x ∧ x ≤ hi))) H) :
    HT prg I.impl_areMany [a, .int .i64 n, .int .i64 m, .int .i64 lo, .int .i64 hi].toArray H K := by
 refine R.impl_areMany ?_
 unfold F.impl_areMany
 rw [ha.len, ob_some]
 refine C.impl_within ?_
 by_cases h : n ≤ l.length ∧ l.length ≤ m
 ·simp only [h, and_self, decide_true, gop_tt, true_and] at hk ⊢
  refine C.impl_areWithin ha hl ?_
  rw [vPick_t, ob_some]
  exact hk
 ·simp only [h, decide_false, gop_ft, vPick_f, ob_some, false_and] at hk ⊢
  exact hk
def isLane (l : List Int) : Prop := (1 ≤ (l.length : Int) ∧ (l.length : Int) ≤ 64) ∧ ∀ x ∈ l, -1 ≤ x ∧ x ≤ 5
instance (l : List Int) : Decidable (isLane l) := by unfold isLane; infer_instance
theorem C.laws_toInt64S {a : Value} {l : List Int} {H : Hp} {K : Value → Hp → Prop} (ha : Sl eI H a l) (hl : l.length ≤ 17592186044416) (hk : ∀ v H', Own eI H' v l → Nw H v → Le H H' → K v H') :
    HT prg I.laws_toInt64S [a].toArray H K := by
 refine R.laws_toInt64S ?_
 unfold F.laws_toInt64S jn; dsimp only
 rw [ha.len, ob_some]
 refine Own.mk_ (by omega) (by omega) (by omega) (by omega) (fun v H0 ho hn hle => ?_)
 refine ⟨fun n σ H1 => ∃ i : Nat, n = l.length - i ∧ i ≤ l.length ∧ σ 0 = a ∧ σ 3 = v ∧ σ 4 = .int .i64 i ∧ Own eI H1 v (l.take i ++ List.replicate (l.length - i) 0) ∧ Off v H0 H1,
  ⟨_, 0, rfl, by omega, rfl, rfl, rfl, by simpa using ho, fun b o hb _ => hb⟩, ?_⟩
 rintro n σ H1 ⟨i, rfl, hi', h0, h3, h4, ho1, hoff⟩
 have hle1 : Le H H1 := hoff.le hle hn
 have ha1 := ha.le hle1
 simp only [h0, h3, h4, ha.len, vInt_lss, ob_some]
 refine cnd_d (fun hlt => ?_) (fun hge => ?_)
 ·have hlt' : i < l.length := by omega
  rw [ha1.ix (by omega) hlt, ob_some, ha1.ld 0 (by omega) hlt, ob_some, ho1.sl.ix (by omega) (by simp; omega), ob_some]
  refine ho1.st (x := at_ 0 l (i : Int)) (by omega) (by simp; omega) rfl rfl (fun H2 ho2 hoff2 => ?_)
  rw [vInt_add (by omega) (by omega), ob_some]
  refine nxt (l.length - (i + 1)) (by omega) ⟨i + 1, rfl, by omega, h0, h3, rfl, ?_, hoff.trans hoff2⟩
  have e : (l.take i ++ List.replicate (l.length - i) 0).set (i : Int).toNat (at_ 0 l (i : Int)) = l.take (i + 1) ++ List.replicate (l.length - (i + 1)) 0 := by
   rw [take_at 0 l hlt', Int.toNat_natCast, List.set_append_right _ _ (by simp; omega), show l.length - i = (l.length - (i + 1)) + 1 by omega, List.replicate_succ]
   simp [Nat.min_eq_left (Nat.le_of_lt hlt')]
  rw [← e]; exact ho2
 ·refine retK (K := K) (v' := v) h3 (hk v H1 ?_ hn hle1)
  rw [List.take_of_length_le (by omega), show l.length - i = 0 by omega] at ho1
  simpa using ho1
theorem C.laws_eqInt64S {a b : Value} {l m : List Int} {H : Hp} {K : Value → Hp → Prop} (ha : Sl eI H a l) (hb : Sl eI H b m) (hl : l.length ≤ 9223372036854775807) (hk : K (.bool (decide (l = m))) H) :
    HT prg I.laws_eqInt64S [a, b].toArray H K := by
 refine R.laws_eqInt64S ?_
 unfold F.laws_eqInt64S jn; dsimp only
 rw [ha.len, hb.len, ob_some, ob_some, vInt_neq, ob_some]
 refine cnd_d (fun hne => ?_) (fun heq => ?_)
 ·rw [decide_eq_false] at hk
  ·exact hk
  ·rintro rfl; exact hne rfl
 ·have hlen : l.length = m.length := by omega
  refine ⟨fun n σ H1 => ∃ i : Nat, n = l.length - i ∧ i ≤ l.length ∧ H1 = H ∧ σ 0 = a ∧ σ 1 = b ∧ σ 5 = .int .i64 i ∧ l.take i = m.take i,
   ⟨_, 0, rfl, by omega, rfl, rfl, rfl, rfl, by simp⟩, ?_⟩
  rintro n σ H1 ⟨i, rfl, hi', rfl, h0, h1, h5, hall⟩
  simp only [h0, h1, h5, ha.len, vInt_lss, ob_some]
  refine cnd_d (fun hlt => ?_) (fun hge => ?_)
  ·have hlt' : i < l.length := by omega
   rw [ha.ix (by omega) hlt, ob_some, ha.ld 0 (by omega) hlt, ob_some, hb.ix (by omega) (by omega), ob_some, hb.ld 0 (by omega) (by omega), ob_some, vInt_neq, ob_some]
   refine cnd_d (fun hne => ?_) (fun heq => ?_)
   ·refine retK (K := K) (v' := .bool false) rfl ?_
    rw [decide_eq_false] at hk
    ·exact hk
    ·rintro rfl; exact hne rfl
   ·rw [vInt_add (by omega) (by omega), ob_some]
    refine nxt (l.length - (i + 1)) (by omega) ⟨i + 1, rfl, by omega, rfl, h0, h1, rfl, ?_⟩
    rw [take_at 0 l hlt', take_at 0 m (by omega), hall, Decidable.not_not.mp heq]
  ·refine retK (K := K) (v' := .bool true) rfl ?_
   rw [List.take_of_length_le (by omega), List.take_of_length_le (by omega)] at hall
   rw [decide_eq_true hall] at hk
   exact hk
end Go.Proofs.YtffmfkpobjdmmaaGreatDoor
/- Structs that lie in cells of their own: what is read, what is written. -/
namespace Go.Proofs.YtffmfkpobjdmmaaGreatDoor.HL
/-- A pointer to a block of its own, whose cells are these. -/
def Cel (H : Hp) (p : Value) (cs : List Value) : Prop := ∃ r e, p = .pointer (some ⟨r, 0, none⟩) ∧ H r = some (.cells cs.toArray e (0, 0))
/-- The pointer to a field's first cell. -/
def fp (p : Value) (k : Nat) : Value := match p with | .pointer (some a) => .pointer (some (a.add k)) | _ => undef

theorem oc0 : ∀ x ∈ ([] : List Value), oneCell x = true := fun x hx => absurd hx (by simp)
theorem oc1 {a : Value} {l : List Value} (h : oneCell a = true) (t : ∀ x ∈ l, oneCell x = true) : ∀ x ∈ a :: l, oneCell x = true := fun x hx => by
  rcases List.mem_cons.mp hx with rfl | hx
  · exact h
  · exact t x hx
section
variable {H H' : Hp} {p u v : Value} {cs : List Value}
theorem Cel.le (h : Cel H p cs) (hl : Le H H') : Cel H' p cs := by
  obtain ⟨r, e, rfl, hr⟩ := h
  exact ⟨r, e, rfl, hl _ _ hr⟩
theorem Cel.off (h : Cel H p cs) (ho : Off v H H') (ha : Apart p v) : Cel H' p cs := by
  obtain ⟨r, e, rfl, hr⟩ := h
  exact ⟨r, e, rfl, ho _ _ hr (ha r rfl)⟩
theorem Cel.known (h : Cel H p cs) : ∀ b, bk p = some b → ∃ o, H b = some o := by
  obtain ⟨r, e, rfl, hr⟩ := h
  intro b hb
  simp only [bk, Option.some.injEq] at hb
  subst hb
  exact ⟨_, hr⟩
theorem Cel.apart (h : Cel H p cs) (hn : Nw H v) : Apart p v := Apart.of_nw h.known hn
theorem nw_i {cells : Array Value} {e : TypeId} {K : Value → Hp → Prop} (hk : ∀ p H', Cel H' p cells.toList → Nw H p → Le H H' → K p H') : nw cells e H K := by
  intro r hr
  refine hk _ _ ⟨r, e, rfl, by rw [Hp.put_same]⟩ ?_ (Le.put _ hr)
  intro b hb
  simp only [bk, Option.some.injEq] at hb
  subst hb
  exact hr
theorem Cel.fa (h : Cel H p cs) (k : Nat) : vFa k p = some (fp p k) := by
  obtain ⟨r, e, rfl, hr⟩ := h; rfl
theorem Cel.nilC (h : Cel H p cs) : vNilC p = some p := by
  obtain ⟨r, e, rfl, hr⟩ := h; rfl
theorem Cel.ld (h : Cel H p cs) (k : Nat) {x : Value} (hx : cs[k]? = some x) : vLoad (fp p k) H = some x := by
  obtain ⟨r, e, rfl, hr⟩ := h
  simp only [fp, vLoad, add_none, Hp.cell?, hr, Nat.zero_add]
  simpa using hx
theorem Cel.ld0 (h : Cel H p cs) {x : Value} (hx : cs[0]? = some x) : vLoad p H = some x := by
  obtain ⟨r, e, rfl, hr⟩ := h
  simp only [vLoad, Hp.cell?, hr]
  simpa using hx
theorem Cel.ldn (h : Cel H p cs) {n : Nat} (hn : cs.length = n) : vLoadN n p H = some (.agg cs.toArray) := by
  obtain ⟨r, e, rfl, hr⟩ := h
  simp only [vLoadN]
  rw [rd_cells (enc := id) ⟨r, 0, none⟩ n 0 cs hn (fun i hi => by
    simp only [add_none, Hp.cell?, hr, Nat.zero_add]
    simp [hi])]
  simp
theorem Cel.st (h : Cel H p cs) {k : Nat} {x : Value} {K : Hp → Prop} (hk : k < cs.length) (ho : oneCell x = true) (hz : x.cells = #[x]) (hK : ∀ H', Cel H' p (cs.set k x) → Off p H H' → K H') : st 1 (fp p k) x H K := by
  obtain ⟨r, e, rfl, hr⟩ := h
  simp only [HL.st, fp, add_none, Nat.zero_add, hz, List.toList_toArray, List.size_toArray, List.length_singleton, true_and, stC, Nat.add_zero]
  refine ⟨ho, ?_, ?_, ?_⟩
  · simp only [Hp.cell?, hr]; simp [hk]
  · simp only [Hp.frozen?, hr]; simp
  · refine hK _ ⟨r, e, rfl, ?_⟩ ?_
    · simp only [Hp.setCell, hr, Hp.put_same]; simp
    · intro b o hb hv
      simp only [bk, ne_eq, Option.some.injEq] at hv
      simp only [Hp.setCell, hr]
      rw [Hp.put_ne _ _ (Ne.symm hv)]
      exact hb
theorem Cel.st0 (h : Cel H p cs) {x : Value} {K : Hp → Prop} (hk : 0 < cs.length) (ho : oneCell x = true) (hz : x.cells = #[x]) (hK : ∀ H', Cel H' p (cs.set 0 x) → Off p H H' → K H') : HL.st 1 p x H K := by
  have : p = fp p 0 := by obtain ⟨r, e, rfl, hr⟩ := h; simp [fp, add_none]
  have h2 := h.st (K := K) hk ho hz hK
  rwa [← this] at h2
theorem Cel.stn (h : Cel H p cs) {ws : List Value} {n : Nat} {K : Hp → Prop} (hn : ws.length = n) (hl : cs.length = n) (ho : ∀ x ∈ ws, oneCell x = true) (hK : ∀ H', Cel H' p ws → Off p H H' → K H') : HL.st n p (.agg ws.toArray) H K := by
  obtain ⟨r, e, rfl, hr⟩ := h
  simp only [HL.st, Value.cells, List.size_toArray, hn, true_and]
  refine stC_run (b := r) (e := e) ws _ 0 cs.toArray H rfl rfl hr (by simp; omega) ho ?_
  intro H' cs' h1 h2 h3 h4 h5
  refine hK H' ⟨r, e, rfl, ?_⟩ ?_
  · rw [h1]
    have : cs' = ws.toArray := by
      apply Array.ext_getElem?
      intro i
      by_cases hi : i < ws.length
      · have := h4 i hi
        simp only [Nat.zero_add] at this
        rw [this]; simp [hi]
      · rw [Array.getElem?_eq_none (by rw [h2]; simp; omega), Array.getElem?_eq_none (by simp; omega)]
    rw [this]
  · intro b o hb hv
    simp only [bk, ne_eq, Option.some.injEq] at hv
    rw [h5 b (Ne.symm hv)]; exact hb
end
end Go.Proofs.YtffmfkpobjdmmaaGreatDoor.HL
/- Lists of truths: copies, and what is alike; lengths that are paid for. -/
namespace Go.Proofs.YtffmfkpobjdmmaaGreatDoor
open HL
set_option maxRecDepth 100000
theorem C.laws_szInt64S {a : Value} {n : Nat} {k : Int} {H : Hp} {K : Value → Hp → Prop} (ha : vLenSl a = some (.int .i64 n)) (h0 : 0 ≤ k) (hn : (n : Int) ≤ 9223372036854775807)  (h1 : k - n < 0 → K (.int .i64 (-1)) H) (h2 : 0 ≤ k - n → K (.int .i64 (k - n)) H) (hk : k < 9223372036854775808 := by omega) :
    HT prg I.laws_szInt64S [a, .int .i64 k].toArray H K := by
 refine R.laws_szInt64S ?_
 unfold F.laws_szInt64S
 rw [ha, ob_some, vInt_sub (by omega) (by omega), ob_some, vInt_lss, ob_some]
 exact cnd_d (fun h => h1 h) (fun h => h2 (by omega))
end Go.Proofs.YtffmfkpobjdmmaaGreatDoor
/- Fields: which are valid, which are plain, and what lies where, round and round. -/
namespace Go.Proofs.YtffmfkpobjdmmaaGreatDoor
open HL
set_option maxRecDepth 100000
def sidesF (r c : Int) : Prop := (1 ≤ r ∧ r ≤ 24) ∧ (1 ≤ c ∧ c ≤ 24)
instance (r c : Int) : Decidable (sidesF r c) := by unfold sidesF; infer_instance
theorem sidesF_mul {r c : Int} (h : sidesF r c) : 1 ≤ r * c ∧ r * c ≤ 576 := by
  obtain ⟨⟨h1, h2⟩, h3, h4⟩ := h
  have a := Int.mul_le_mul h2 h4 (by omega) (by omega)
  have b := Int.mul_le_mul h1 h3 (by omega) (by omega)
  omega
/-- A field whose cells are from 0 to n. -/
def fieldN (n r c : Int) (l : List Int) : Prop := sidesF r c ∧ (l.length : Int) = r * c ∧ ∀ x ∈ l, 0 ≤ x ∧ x ≤ n
instance (n r c : Int) (l : List Int) : Decidable (fieldN n r c l) := by unfold fieldN; infer_instance
theorem vInt_mulF (a b : Int) : vInt .mul (.int .i64 a) (.int .i64 b) = some (.int .i64 (IntKind.i64.wrap (a * b))) := by simp only [vInt, if_true]
theorem fieldN_len {n r c : Int} {l : List Int} (h : fieldN n r c l) : l.length ≤ 576 := by
  have := sidesF_mul h.1
  have := h.2.1
  omega
theorem fieldN_at {n r c : Int} {l : List Int} (h : fieldN n r c l) {i : Int} (h0 : 0 ≤ i) (hi : i < r * c) : 0 ≤ at_ 0 l i ∧ at_ 0 l i ≤ n :=
  h.2.2 _ (at_mem 0 l h0 (by rw [h.2.1]; exact hi))
theorem C.spec_l04Is {p vc : Value} {r c : Int} {l : List Int} {H : Hp} {K : Value → Hp → Prop} (hp : Cel H p [.int .i64 r, .int .i64 c, vc]) (hc : Sl eI H vc l)
    (k1 : l.length ≤ 9223372036854775807) (hk : K (.bool (decide (fieldN 9 r c l))) H) : HT prg I.spec_l04Is [p].toArray H K := by
 refine R.spec_l04Is ?_
 unfold F.spec_l04Is
 simp only [hp.nilC, hp.fa, hp.ld 0 rfl, ob_some]
 refine C.spec_l00In ⟨Le.refl _, ?_⟩
 by_cases c1 : 1 ≤ r ∧ r ≤ 24
 ·simp only [decide_eq_true c1, hp.nilC, hp.fa, hp.ld 1 rfl, EV]
  refine C.spec_l00In ⟨Le.refl _, ?_⟩
  by_cases c2 : 1 ≤ c ∧ c ≤ 24
  ·have hs : sidesF r c := ⟨c1, c2⟩
   have hm := sidesF_mul hs
   simp only [decide_eq_true c2, hp.nilC, hp.fa, hp.ld 2 rfl, hp.ld 0 rfl, hp.ld 1 rfl, hc.len, vInt_mulF, wrap64 (show -9223372036854775808 ≤ r * c by omega) (show r * c < 9223372036854775808 by omega), EV]
   by_cases c3 : (l.length : Int) = r * c
   ·have f3 : decide ((l.length : Int) ≠ r * c) = false := decide_eq_false (fun h => h c3)
    simp only [f3, EV]
    unfold jn; dsimp only
    refine ⟨fun n σ H1 => ∃ i : Nat, n = l.length - i ∧ i ≤ l.length ∧ H1 = H ∧ σ 0 = p ∧ σ 3 = .int .i64 i ∧ ∀ x ∈ l.take i, 0 ≤ x ∧ x ≤ 9, ⟨_, 0, rfl, by omega, rfl, rfl, rfl, by simp⟩, ?_⟩
    rintro n σ H1 ⟨i, rfl, hi', rfl, h0, h3, hall⟩
    simp only [h0, h3, hp.nilC, hp.fa, hp.ld 2 rfl, hc.len, vInt_lss, ob_some]
    refine cnd_d (fun hlt => ?_) (fun hge => ?_)
    ·have hlt' : i < l.length := by omega
     rw [hc.ix (by omega) hlt, ob_some, hc.ld 0 (by omega) hlt, ob_some]
     refine C.spec_l00In ?_
     rw [vUn_not, ob_some]
     refine cnd_i (fun hb => ?_) (fun hb => ?_)
     ·refine retK (K := K) (v' := .bool false) rfl (kF (K := K) hk ?_)
      intro hh
      have := hh.2.2 _ (at_mem 0 l (i := i) (by omega) hlt)
      simp [this] at hb
     ·rw [vInt_add (by omega) (by omega), ob_some]
      refine nxt (l.length - (i + 1)) (by omega) ⟨i + 1, rfl, by omega, rfl, h0, rfl, ?_⟩
      rw [take_at 0 l hlt']
      intro x hx
      rcases List.mem_append.mp hx with hx | hx
      ·exact hall x hx
      ·simp only [List.mem_singleton] at hx; subst hx; simpa using hb
    ·rw [List.take_of_length_le (by omega)] at hall
     exact retK (K := K) (v' := .bool true) rfl (kT (K := K) hk ⟨hs, c3, hall⟩)
   ·have f3 : decide ((l.length : Int) ≠ r * c) = true := decide_eq_true c3
    simp only [f3, EV]; exact kF (K := K) hk (fun h => c3 h.2.1)
  ·simp only [decide_eq_false c2, EV]; exact kF (K := K) hk (fun h => c2 h.1.2)
 ·simp only [decide_eq_false c1, EV]; exact kF (K := K) hk (fun h => c1 h.1.1)
theorem C.spec_l04Plain {p vc : Value} {r c : Int} {l : List Int} {H : Hp} {K : Value → Hp → Prop} (hp : Cel H p [.int .i64 r, .int .i64 c, vc]) (hc : Sl eI H vc l)
    (k1 : l.length ≤ 9223372036854775807) (hk : K (.bool (decide (fieldN 1 r c l))) H) : HT prg I.spec_l04Plain [p].toArray H K := by
 refine R.spec_l04Plain ?_
 unfold F.spec_l04Plain
 refine C.spec_l04Is hp hc k1 ?_
 by_cases c1 : fieldN 9 r c l
 ·simp only [decide_eq_true c1, EV]
  unfold jn; dsimp only
  refine ⟨fun n σ H1 => ∃ i : Nat, n = l.length - i ∧ i ≤ l.length ∧ H1 = H ∧ σ 0 = p ∧ σ 3 = .int .i64 i ∧ ∀ x ∈ l.take i, x ≤ 1, ⟨_, 0, rfl, by omega, rfl, rfl, rfl, by simp⟩, ?_⟩
  rintro n σ H1 ⟨i, rfl, hi', rfl, h0, h3, hall⟩
  simp only [h0, h3, hp.nilC, hp.fa, hp.ld 2 rfl, hc.len, vInt_lss, ob_some]
  refine cnd_d (fun hlt => ?_) (fun hge => ?_)
  ·have hlt' : i < l.length := by omega
   rw [hc.ix (by omega) hlt, ob_some, hc.ld 0 (by omega) hlt, ob_some, vInt_gtr, ob_some]
   refine cnd_d (fun hb => ?_) (fun hb => ?_)
   ·refine retK (K := K) (v' := .bool false) rfl (kF (K := K) hk ?_)
    intro hh
    have := hh.2.2 _ (at_mem 0 l (i := i) (by omega) hlt)
    omega
   ·rw [vInt_add (by omega) (by omega), ob_some]
    refine nxt (l.length - (i + 1)) (by omega) ⟨i + 1, rfl, by omega, rfl, h0, rfl, ?_⟩
    rw [take_at 0 l hlt']
    intro x hx
    rcases List.mem_append.mp hx with hx | hx
    ·exact hall x hx
    ·simp only [List.mem_singleton] at hx; subst hx; omega
  ·rw [List.take_of_length_le (by omega)] at hall
   exact retK (K := K) (v' := .bool true) rfl (kT (K := K) hk ⟨c1.1, c1.2.1, fun x hx => ⟨(c1.2.2 x hx).1, hall x hx⟩⟩)
 ·simp only [decide_eq_false c1, EV]; exact kF (K := K) hk (fun h => c1 ⟨h.1, h.2.1, fun x hx => by have := h.2.2 x hx; omega⟩)
theorem C.impl_isSide {r : Int} {H : Hp} {K : Value → Hp → Prop} (hk : K (.bool (decide (1 ≤ r ∧ r ≤ 24))) H) : HT prg I.impl_isSide [.int .i64 r].toArray H K := R.impl_isSide (C.impl_within hk)
theorem C.impl_ValidField {vc : Value} {r c : Int} {l : List Int} {H : Hp} {K : Value → Hp → Prop} (hc : Sl eI H vc l)
    (k1 : l.length ≤ 9223372036854775807) (hk : ∀ H', Le H H' → K (.bool (decide (fieldN 9 r c l))) H') : HT prg I.impl_ValidField [.agg #[.int .i64 r, .int .i64 c, vc]].toArray H K := by
 refine R.impl_ValidField ?_
 unfold F.impl_ValidField
 refine nw_i (fun p H1 hp np le1 => ?_)
 replace hk := hk H1 le1
 replace hc := hc.le le1
 simp only [hp.fa, hp.ld 0 rfl, hp.ld 1 rfl, vInt_mulF, ob_some]
 refine C.impl_isSide ?_
 by_cases c1 : 1 ≤ r ∧ r ≤ 24
 ·simp only [decide_eq_true c1, hp.fa, hp.ld 1 rfl, EV]
  refine C.impl_isSide ?_
  by_cases c2 : 1 ≤ c ∧ c ≤ 24
  ·have hs : sidesF r c := ⟨c1, c2⟩
   have hm := sidesF_mul hs
   simp only [decide_eq_true c2, hp.fa, hp.ld 2 rfl, wrap64 (show -9223372036854775808 ≤ r * c by omega) (show r * c < 9223372036854775808 by omega), EV]
   refine C.impl_areMany hc k1 ?_
   exact kQ (K := K) hk ⟨fun h => ⟨⟨by have := h.2.1; omega, by have := h.2.1; omega⟩, h.2.2⟩, fun h => ⟨hs, by omega, h.2⟩⟩
  ·simp only [decide_eq_false c2, EV]; exact kF (K := K) hk (fun h => c2 h.1.2)
 ·simp only [decide_eq_false c1, EV]; exact kF (K := K) hk (fun h => c1 h.1.1)
theorem C.impl_isPlain {vc : Value} {r c : Int} {l : List Int} {H : Hp} {K : Value → Hp → Prop} (hc : Sl eI H vc l)
    (k1 : l.length ≤ 9223372036854775807) (hk : ∀ H', Le H H' → K (.bool (decide (fieldN 1 r c l))) H') : HT prg I.impl_isPlain [.agg #[.int .i64 r, .int .i64 c, vc]].toArray H K := by
 refine R.impl_isPlain ?_
 unfold F.impl_isPlain
 refine nw_i (fun p H1 hp np le1 => ?_)
 refine ob_i (hp.ldn rfl) ?_
 refine C.impl_ValidField (hc.le le1) k1 (fun H2 le2 => ?_)
 replace hk := hk H2 (le1.trans le2)
 replace hc := hc.le (le1.trans le2)
 replace hp := hp.le le2
 by_cases c1 : fieldN 9 r c l
 ·simp only [decide_eq_true c1, hp.fa, hp.ld 2 rfl, EV]
  refine C.impl_areWithin hc k1 ?_
  exact kQ (K := K) hk ⟨fun h => h.2.2, fun h => ⟨c1.1, c1.2.1, h⟩⟩
 ·simp only [decide_eq_false c1, EV]; exact kF (K := K) hk (fun h => c1 ⟨h.1, h.2.1, fun x hx => by have := h.2.2 x hx; omega⟩)
theorem fm_eq {a b : Int} (hb : 0 < b) : (a.tmod b + b).tmod b = a % b := by
  have h0 : 0 ≤ a.tmod b + b := by have := Int.lt_tmod_of_pos a hb; omega
  rw [Int.tmod_eq_emod_of_nonneg h0, Int.tmod_def, show a - b * a.tdiv b + b = a + b * (1 - a.tdiv b) by rw [Int.mul_sub, Int.mul_one]; omega, Int.add_mul_emod_self_left]
theorem tmod_bnd {a b : Int} (hb : 0 < b) : -b < a.tmod b ∧ a.tmod b < b := ⟨by have := Int.lt_tmod_of_pos a hb; omega, Int.tmod_lt_of_pos a hb⟩
/-- A place, round and round. -/
def roundF (r c i k : Int) : Int := i % r * c + k % c
theorem roundF_lt {r c i k : Int} (h : sidesF r c) : 0 ≤ i % r ∧ i % r < r ∧ 0 ≤ k % c ∧ k % c < c ∧ 0 ≤ i % r * c ∧ i % r * c ≤ 576 ∧ 0 ≤ roundF r c i k ∧ roundF r c i k < r * c := by
  obtain ⟨⟨h1, h2⟩, h3, h4⟩ := h
  have a1 := Int.emod_nonneg i (b := r) (by omega)
  have a2 := Int.emod_lt_of_pos i (b := r) (by omega)
  have a3 := Int.emod_nonneg k (b := c) (by omega)
  have a4 := Int.emod_lt_of_pos k (b := c) (by omega)
  have a5 := Int.mul_nonneg (a := i % r) (b := c) a1 (by omega)
  have a6 := Int.mul_le_mul (a := i % r) (b := c) (c := r - 1) (d := c) (by omega) (by omega) (by omega) (by omega)
  rw [Int.sub_mul] at a6
  have a7 := Int.mul_le_mul h2 h4 (by omega) (by omega)
  unfold roundF
  omega
theorem C.spec_l04Round {p vc : Value} {r c i k : Int} {H : Hp} {K : Value → Hp → Prop} (hp : Cel H p [.int .i64 r, .int .i64 c, vc]) (hs : sidesF r c)
    (hk : K (.int .i64 (roundF r c i k)) H) : HT prg I.spec_l04Round [p, .int .i64 i, .int .i64 k].toArray H K := by
 refine R.spec_l04Round ?_
 unfold F.spec_l04Round
 have b := roundF_lt (i := i) (k := k) hs
 have m := sidesF_mul hs
 obtain ⟨⟨h1, h2⟩, h3, h4⟩ := hs
 have t1 := tmod_bnd (a := i) (b := r) (by omega)
 have t2 := tmod_bnd (a := k) (b := c) (by omega)
 simp only [hp.nilC, hp.fa, hp.ld 0 rfl, hp.ld 1 rfl, ob_some]
 rw [vInt_rem (by omega), ob_some, vInt_add (by omega) (by omega), ob_some, vInt_rem (by omega), ob_some, vInt_rem (by omega), ob_some, vInt_add (by omega) (by omega), ob_some, vInt_rem (by omega), ob_some, fm_eq (by omega), fm_eq (by omega),
  vInt_mul (by omega) (by omega), ob_some, vInt_add (by unfold roundF at b; omega) (by unfold roundF at b; omega), ob_some]
 exact hk
theorem C.floorMod {a b : Int} {H : Hp} {K : Value → Hp → Prop} (h0 : -1000000 ≤ a) (h1 : a ≤ 1000000) (h2 : 0 < b) (h3 : b ≤ 1000000) (hk : K (.int .i64 (a % b)) H) : HT prg I.impl_floorMod [.int .i64 a, .int .i64 b].toArray H K := by
 refine R.impl_floorMod ?_
 unfold F.impl_floorMod
 have t1 := tmod_bnd (a := a) (b := b) h2
 rw [vInt_rem (by omega), ob_some, vInt_add (by omega) (by omega), ob_some, vInt_rem (by omega), ob_some, fm_eq h2]
 exact hk
theorem C.impl_Field_at {vc : Value} {r c i k : Int} {l : List Int} {H : Hp} {K : Value → Hp → Prop} (hc : Sl eI H vc l) (h0 : 0 ≤ i * c) (h1 : i * c ≤ 1000000) (h2 : 0 ≤ i * c + k) (h3 : i * c + k < l.length) (h4 : l.length ≤ 1000000)
    (hk : ∀ H', Le H H' → K (.int .i64 (at_ 0 l (i * c + k))) H') : HT prg I.impl_Field_at [.agg #[.int .i64 r, .int .i64 c, vc], .int .i64 i, .int .i64 k].toArray H K := by
 refine R.impl_Field_at ?_
 unfold F.impl_Field_at
 refine nw_i (fun p H1 hp np le1 => ?_)
 simp only [hp.fa, hp.ld 1 rfl, hp.ld 2 rfl, ob_some]
 rw [vInt_mul (by omega) (by omega), ob_some, vInt_add (by omega) (by omega), ob_some, (hc.le le1).ix h2 h3, ob_some, (hc.le le1).ld 0 h2 h3, ob_some]
 exact hk _ le1
theorem C.look_round {vc : Value} {r c i k : Int} {l : List Int} {H : Hp} {K : Value → Hp → Prop} (hc : Sl eI H vc l) (hs : sidesF r c) (hl : (l.length : Int) = r * c) (i0 : -1000 ≤ i) (i1 : i ≤ 1000) (k0 : -1000 ≤ k) (k1 : k ≤ 1000)
    (hk : ∀ H', Le H H' → K (.int .i64 (at_ 0 l (roundF r c i k))) H') : HT prg I.impl_Field_look [.agg #[.int .i64 r, .int .i64 c, vc], .int .i64 i, .int .i64 k, .bool true].toArray H K := by
 refine R.impl_Field_look ?_
 unfold F.impl_Field_look
 refine nw_i (fun p H1 hp np le1 => ?_)
 refine cnd_t1 ?_
 have b := roundF_lt (i := i) (k := k) hs
 have m := sidesF_mul hs
 have q1 := hs.1
 have q2 := hs.2
 refine ob_i (hp.ldn rfl) ?_
 simp only [hp.fa, hp.ld 0 rfl, hp.ld 1 rfl, ob_some]
 refine C.floorMod (by omega) (by omega) (by omega) (by omega) ⟨Le.refl _, ?_⟩
 refine C.floorMod (by omega) (by omega) (by omega) (by omega) ⟨Le.refl _, ?_⟩
 refine C.impl_Field_at (hc.le le1) (by omega) (by omega) (by unfold roundF at b; omega) (by rw [hl]; unfold roundF at b; omega) (by omega) (fun H2 le2 => ⟨le2, ?_⟩)
 exact hk _ (le1.trans le2)
end Go.Proofs.YtffmfkpobjdmmaaGreatDoor
/- Fields that are made by a function of rows and columns, and fields that grow. -/
namespace Go.Proofs.YtffmfkpobjdmmaaGreatDoor
open HL
set_option maxRecDepth 100000
theorem Apart.app {H : Hp} {x u u' : Value} (hx : ∀ b, bk x = some b → ∃ o, H b = some o) (ha : Apart x u) (hb : ∀ b, bk u' = some b → bk u = some b ∨ H b = none) : Apart x u' := fun b h1 h2 => by
  rcases hb b h2 with h | h
  · exact ha b h1 h
  · obtain ⟨o, ho⟩ := hx b h1; rw [h] at ho; simp at ho
theorem Nw.app {H0 H : Hp} {u u' : Value} (hn : Nw H0 u) (hl : Le H0 H) (hb : ∀ b, bk u' = some b → bk u = some b ∨ H b = none) : Nw H0 u' := fun b h => by
  rcases hb b h with h1 | h1
  · exact hn b h1
  · cases ho : H0 b with
    | none => rfl
    | some o => rw [hl b o ho] at h1; simp at h1
theorem apd_one {α : Type} {enc : α → Value} {z : Value} {b : Nat} {e : TypeId} {u t : Value} {x : α} {l : List α} {H : Hp} {K : Value → Hp → Prop} (o : Own enc H u l) (ot : Sl enc H t [x]) (ho : ∀ x, oneCell (enc x) = true) (hb : b ≤ 64) (hl : l.length ≤ 68719476736)
    (hk : ∀ u' H', Own enc H' u' (l ++ [x]) → Off u H H' → (∀ b, bk u' = some b → bk u = some b ∨ H b = none) → K u' H') : apd 1 b #[z] e u t H K := by
  refine o.apd ot ho (by simp; omega) (fun c hc => ?_) hk
  have := nsc_le hc
  simp only [List.length_singleton] at this ⊢
  exact Nat.le_trans (Nat.mul_le_mul this hb) (by omega)
theorem bS_i {α : Type} {enc : α → Value} {len : Nat} {z : Value} {e : TypeId} {parts : List (Nat × Value)} {l : List α} {H : Hp} {K : Value → Hp → Prop} (h1 : len ≤ 1000) (hl : l.length = len)
    (hf : Instr.fill (fun i => some (i * 1, 1)) (if len * 1 = 0 then #[] else zrow #[z] (len * 1)) parts = some (l.map enc).toArray) (hk : ∀ v H', Own enc H' v l → Nw H v → Le H H' → K v H') : bS 1 len #[z] e parts H K := by
  refine ⟨by omega, ?_⟩
  rw [hf]
  intro r hr
  subst hl
  refine hk _ _ ⟨some ⟨r, 0, none⟩, l.length, rfl, Nat.le_refl _, fun _ => ⟨r, 0, _, e, rfl, Hp.put_same _ _ _, by simp, fun i hi => by simp [hi]⟩⟩ ?_ (Le.put _ hr)
  intro b hb
  simp only [bk] at hb
  split at hb
  · simp at hb
  · simp only [Option.some.injEq] at hb; subst hb; exact hr
/-- A field's cells, row by row, by a function. -/
def mkL (c : Int) (g : Int → Int → Int) (n : Nat) : List Int := (List.range n).map fun (t : Nat) => g ((t : Int) / c) ((t : Int) % c)
theorem mkL_length (c : Int) (g : Int → Int → Int) (n : Nat) : (mkL c g n).length = n := by simp [mkL]
theorem mkL_succ (c : Int) (g : Int → Int → Int) (n : Nat) : mkL c g (n + 1) = mkL c g n ++ [g ((n : Int) / c) ((n : Int) % c)] := by simp [mkL, List.range_succ]
theorem divmod {c : Int} {i k : Int} (hc : 0 < c) (k0 : 0 ≤ k) (k1 : k < c) : (i * c + k) / c = i ∧ (i * c + k) % c = k := by
  constructor
  · rw [Int.add_comm, Int.add_mul_ediv_right _ _ (by omega), Int.ediv_eq_zero_of_lt k0 k1]; omega
  · rw [Int.add_comm, Int.add_mul_emod_self_right, Int.emod_eq_of_lt k0 k1]
theorem cast_ix {c : Int} {i k : Nat} (hc : 0 ≤ c) : ((i * c.toNat + k : Nat) : Int) = i * c + k := by rw [Int.natCast_add, Int.natCast_mul, Int.toNat_of_nonneg hc]
theorem C.impl_madeField {fv : Value} {rr cc : Int} {g : Int → Int → Int} {H : Hp} {K : Value → Hp → Prop} (r1 : 0 ≤ rr) (r2 : rr ≤ 1000) (c1 : 1 ≤ cc) (c2 : cc ≤ 1000)
    (hcl : ∀ H' (i k : Nat) (Z : Value → Hp → Prop), Le H H' → (i : Int) < rr → (k : Int) < cc → (∀ H'', Le H' H'' → Z (.int .i64 (g i k)) H'') → callV prg fv [.int .i64 i, .int .i64 k] H' Z)
    (hk : ∀ u H', Own eI H' u (mkL cc g (rr.toNat * cc.toNat)) → Nw H u → Le H H' → K (.agg #[.int .i64 rr, .int .i64 cc, u]) H') :
    HT prg I.impl_madeField [.int .i64 rr, .int .i64 cc, fv].toArray H K := by
 refine R.impl_madeField ?_
 unfold F.impl_madeField
 refine nw_i (fun q H1 oq nq le1 => ?_)
 replace oq : Cel H1 q [.int .i64 0, .int .i64 0, .slice none 0 0] := oq
 refine ob_i (a := .agg #[.int .i64 rr, .int .i64 cc, .slice none 0 0]) rfl ?_
 refine nw_i (fun s H2 os ns le2 => ?_)
 have aqs : Apart q s := oq.apart ns
 replace oq := oq.le le2
 have ns0 : Nw H s := ns.le le1
 have nq0 : Nw H q := nq
 refine os.stn (ws := [.int .i64 rr, .int .i64 cc, .slice none 0 0]) rfl rfl (by simp [oneCell]) (fun H3 os off3 => ?_)
 replace oq := oq.off off3 aqs
 have leB : Le H H3 := off3.le (le1.trans le2) ns0
 refine jn_i (fun σ' H' => σ' 6 = q ∧ σ' 7 = s ∧ Cel H' q [.int .i64 0, .int .i64 0, .slice none 0 0] ∧ Le H H' ∧ ∃ u, Cel H' s [.int .i64 rr, .int .i64 cc, u] ∧ Own eI H' u (mkL cc g (rr.toNat * cc.toNat)) ∧ Nw H u ∧ Apart q u) (fun σ' H' hP => ?_) (fun J7 hJ7 => ?_)
 ·obtain ⟨g6, g7, oq, le, u, os, ou, nu, aqu⟩ := hP
  rw [g6, g7]
  refine ob_i (os.ldn rfl) ?_
  refine oq.stn (ws := [.int .i64 rr, .int .i64 cc, u]) rfl rfl (oc1 rfl (oc1 rfl (oc1 ou.one oc0))) (fun H6 oq off6 => ?_)
  refine ob_i (oq.ldn rfl) ?_
  exact hk u H6 (ou.off off6 aqu.symm) nu (off6.le le nq0)
 refine ⟨fun n σ H4 => ∃ i : Nat, n = rr.toNat - i ∧ (i : Int) ≤ rr ∧ σ 1 = .int .i64 cc ∧ σ 2 = fv ∧ σ 6 = q ∧ σ 7 = s ∧ σ 13 = .int .i64 rr ∧ σ 14 = .int .i64 i ∧ Cel H4 q [.int .i64 0, .int .i64 0, .slice none 0 0] ∧ Le H H4 ∧
   ∃ u, Cel H4 s [.int .i64 rr, .int .i64 cc, u] ∧ Own eI H4 u (mkL cc g (i * cc.toNat)) ∧ Nw H u ∧ Apart q u ∧ Apart s u,
  ⟨_, 0, rfl, by omega, rfl, rfl, rfl, rfl, rfl, rfl, oq, leB, .slice none 0 0, os, by rw [Nat.zero_mul]; exact Own.nil_of none, fun b hb => by simp [bk] at hb, fun b _ hb => by simp [bk] at hb, fun b _ hb => by simp [bk] at hb⟩, ?_⟩
 rintro n σ H4 ⟨i, rfl, hiR, g1, g2, g6, g7, g13, g14, oq, le4, hu⟩
 simp only [g1, g13, g14, vInt_lss, ob_some]
 refine cnd_d (fun hlt => ?_) (fun hge => ?_)
 ·refine jn_i (fun σ' H' => σ' 1 = .int .i64 cc ∧ σ' 2 = fv ∧ σ' 6 = q ∧ σ' 7 = s ∧ σ' 13 = .int .i64 rr ∧ σ' 14 = .int .i64 i ∧ Cel H' q [.int .i64 0, .int .i64 0, .slice none 0 0] ∧ Le H H' ∧
    ∃ u, Cel H' s [.int .i64 rr, .int .i64 cc, u] ∧ Own eI H' u (mkL cc g ((i + 1) * cc.toNat)) ∧ Nw H u ∧ Apart q u ∧ Apart s u) (fun σ' H' hP => ?_) (fun J13 hJ13 => ?_)
  ·obtain ⟨z1, z2, z6, z7, z13, z14, zq, zle, zu⟩ := hP
   rw [z14, vInt_add (by omega) (by omega), ob_some]
   exact nxt (rr.toNat - (i + 1)) (by omega) ⟨i + 1, rfl, by omega, z1, z2, z6, z7, z13, rfl, zq, zle, zu⟩
  refine ⟨fun n σ H5 => ∃ k : Nat, n = cc.toNat - k ∧ (k : Int) ≤ cc ∧ σ 1 = .int .i64 cc ∧ σ 2 = fv ∧ σ 6 = q ∧ σ 7 = s ∧ σ 13 = .int .i64 rr ∧ σ 14 = .int .i64 i ∧ σ 8 = .int .i64 i ∧ σ 17 = .int .i64 cc ∧ σ 18 = .int .i64 k ∧ Cel H5 q [.int .i64 0, .int .i64 0, .slice none 0 0] ∧ Le H H5 ∧
    ∃ u, Cel H5 s [.int .i64 rr, .int .i64 cc, u] ∧ Own eI H5 u (mkL cc g (i * cc.toNat + k)) ∧ Nw H u ∧ Apart q u ∧ Apart s u,
   ⟨_, 0, rfl, by omega, g1, g2, g6, g7, g13, g14, rfl, rfl, rfl, oq, le4, hu⟩, ?_⟩
  rintro n σ H5 ⟨k, rfl, hkC, z1, z2, z6, z7, z13, z14, z8, z17, z18, zq, le5, u, zs, zu, nu, aqu, asu⟩
  simp only [z2, z7, z8, z17, z18, vInt_lss, ob_some]
  refine cnd_d (fun hkl => ?_) (fun hkg => ?_)
  ·simp only [zs.fa, zs.ld 2 rfl, ob_some]
   refine hcl H5 i k _ le5 hlt hkl (fun H6 le6 => ⟨le6, ?_⟩)
   refine bS_i (enc := eI) (l := [g i k]) (by omega) rfl (by kernel_rfl) (fun t H7 ot nt le7 => ?_)
   have le57 := le6.trans le7
   replace zq := zq.le le57
   replace zs := zs.le le57
   replace zu := zu.le le57
   have leB7 := le5.trans le57
   have hlen : (mkL cc g (i * cc.toNat + k)).length ≤ 68719476736 := by
    rw [mkL_length]
    have : i * cc.toNat ≤ 1000 * 1000 := Nat.mul_le_mul (by omega) (by omega)
    omega
   refine apd_one zu ot.sl (fun _ => rfl) (by omega) hlen (fun u' H8 ou' off8 hbk => ?_)
   have aqu' : Apart q u' := Apart.app zq.known aqu hbk
   have asu' : Apart s u' := Apart.app zs.known asu hbk
   have nu' : Nw H u' := Nw.app nu leB7 hbk
   replace zq := zq.off off8 aqu
   replace zs := zs.off off8 asu
   have leB8 : Le H H8 := off8.le leB7 nu
   refine zs.st (by simp) ou'.one ou'.cells (fun H9 os9 off9 => ?_)
   rw [vInt_add (by omega) (by omega), ob_some]
   refine nxt (cc.toNat - (k + 1)) (by omega) ⟨k + 1, rfl, by omega, z1, z2, z6, z7, z13, z14, z8, z17, rfl, zq.off off9 aqs, off9.le leB8 ns0, u', os9, ?_, nu', aqu', asu'⟩
   have hd := divmod (c := cc) (i := i) (k := k) (by omega) (by omega) hkl
   rw [← Nat.add_assoc, mkL_succ, cast_ix (by omega), hd.1, hd.2]
   exact ou'.off off9 asu'.symm
  ·have e : k = cc.toNat := by omega
   refine hJ13 _ _ ⟨z1, z2, z6, z7, z13, z14, zq, le5, u, zs, ?_, nu, aqu, asu⟩
   rw [Nat.add_mul, Nat.one_mul, ← e]; rw [← e] at zu; exact zu
 ·have e : i = rr.toNat := by omega
  subst e
  obtain ⟨u, os, ou, nu, aqu, asu⟩ := hu
  exact hJ7 _ _ ⟨g6, g7, oq, le4, u, os, ou, nu, aqu⟩
/-- A cell, or 0 beyond the border. -/
def flatF (r c : Int) (l : List Int) (i k : Int) : Int := if (0 ≤ i ∧ i ≤ r - 1) ∧ 0 ≤ k ∧ k ≤ c - 1 then at_ 0 l (i * c + k) else 0
theorem C.impl_Field_has {vc : Value} {r c i k : Int} {H : Hp} {K : Value → Hp → Prop} (hs : sidesF r c) (hk : ∀ H', Le H H' → K (.bool (decide ((0 ≤ i ∧ i ≤ r - 1) ∧ 0 ≤ k ∧ k ≤ c - 1))) H') :
    HT prg I.impl_Field_has [.agg #[.int .i64 r, .int .i64 c, vc], .int .i64 i, .int .i64 k].toArray H K := by
 refine R.impl_Field_has ?_
 unfold F.impl_Field_has
 refine nw_i (fun p H1 hp np le1 => ?_)
 replace hk := hk H1 le1
 have q1 := hs.1
 have q2 := hs.2
 simp only [hp.fa, hp.ld 0 rfl, ob_some]
 rw [vInt_sub (by omega) (by omega), ob_some]
 refine C.impl_within ?_
 by_cases c1 : 0 ≤ i ∧ i ≤ r - 1
 ·simp only [decide_eq_true c1, hp.fa, hp.ld 1 rfl, EV]
  rw [vInt_sub (by omega) (by omega), ob_some]
  refine C.impl_within ?_
  exact kQ (K := K) hk ⟨fun h => h.2, fun h => ⟨c1, h⟩⟩
 ·simp only [decide_eq_false c1, EV]; exact kF (K := K) hk (fun h => c1 h.1)
theorem C.look_flat {vc : Value} {r c i k : Int} {l : List Int} {H : Hp} {K : Value → Hp → Prop} (hc : Sl eI H vc l) (hs : sidesF r c) (hl : (l.length : Int) = r * c)
    (hk : ∀ H', Le H H' → K (.int .i64 (flatF r c l i k)) H') : HT prg I.impl_Field_look [.agg #[.int .i64 r, .int .i64 c, vc], .int .i64 i, .int .i64 k, .bool false].toArray H K := by
 refine R.impl_Field_look ?_
 unfold F.impl_Field_look
 refine nw_i (fun p H1 hp np le1 => ?_)
 refine cnd_f1 ?_
 refine ob_i (hp.ldn rfl) ?_
 refine C.impl_Field_has hs (fun H2 le2 => ?_)
 rw [vUn_not, ob_some]
 have m := sidesF_mul hs
 by_cases c1 : (0 ≤ i ∧ i ≤ r - 1) ∧ 0 ≤ k ∧ k ≤ c - 1
 ·have hk' := fun H' h => hk H' h
  simp only [flatF, c1, and_self, if_true] at hk'
  simp only [decide_eq_true c1, EV]
  refine ob_i ((hp.le le2).ldn rfl) ?_
  have a1 := Int.mul_nonneg (a := i) (b := c) (by omega) (by have := hs.2; omega)
  have a2 := Int.mul_le_mul (a := i) (b := c) (c := r - 1) (d := c) (by omega) (by omega) (by have := hs.2; omega) (by have := hs.1; omega)
  rw [Int.sub_mul] at a2
  refine C.impl_Field_at (hc.le (le1.trans le2)) (by omega) (by have := hs.2; omega) (by omega) (by rw [hl]; omega) (by omega) (fun H3 le3 => ?_)
  exact hk' _ ((le1.trans le2).trans le3)
 ·have h1 := hk H2 (le1.trans le2)
  simp only [flatF, c1, if_false] at h1
  simp only [decide_eq_false c1, EV]; exact h1
end Go.Proofs.YtffmfkpobjdmmaaGreatDoor
/- Fields with a border of zeros: the program's and the reference's. -/
namespace Go.Proofs.YtffmfkpobjdmmaaGreatDoor
open HL
set_option maxRecDepth 100000
def groOk (r c : Int) (l : List Int) (b : Int) : Prop := fieldN 1 r c l ∧ (0 ≤ b ∧ b ≤ 24) ∧ (1 ≤ r + 2 * b ∧ r + 2 * b ≤ 24) ∧ (1 ≤ c + 2 * b ∧ c + 2 * b ≤ 24)
instance (r c : Int) (l : List Int) (b : Int) : Decidable (groOk r c l b) := by unfold groOk; infer_instance
def groG (r c : Int) (l : List Int) (b : Int) (i k : Int) : Int := flatF r c l (i - b) (k - b)
def groW (r c : Int) (l : List Int) (b : Int) : List Int := mkL (c + 2 * b) (groG r c l b) ((r + 2 * b).toNat * (c + 2 * b).toNat)
def groL (r c : Int) (l : List Int) (b : Int) : List Int := if groOk r c l b then groW r c l b else []
def groI (x r c : Int) (l : List Int) (b : Int) : Int := if groOk r c l b then x else 0
theorem C.impl_GrowField_1 {p q vc : Value} {r c b i k : Int} {l : List Int} {H : Hp} {K : Value → Hp → Prop} (hp : Cel H p [.int .i64 r, .int .i64 c, vc]) (hq : Cel H q [.int .i64 b]) (hc : Sl eI H vc l) (hs : sidesF r c) (hl : (l.length : Int) = r * c)
    (b0 : 0 ≤ b) (b1 : b ≤ 24) (i0 : 0 ≤ i) (i1 : i ≤ 1000) (k0 : 0 ≤ k) (k1 : k ≤ 1000) (hk : ∀ H', Le H H' → K (.int .i64 (groG r c l b i k)) H') : HT prg I.impl_GrowField_1 [.int .i64 i, .int .i64 k, p, q].toArray H K := by
 refine R.impl_GrowField_1 ?_
 unfold F.impl_GrowField_1
 refine ob_i (hp.ldn rfl) ?_
 refine ob_i (hq.ld0 rfl) ?_
 refine ob_i (vInt_sub (by omega) (by omega)) ?_
 refine ob_i (hq.ld0 rfl) ?_
 refine ob_i (vInt_sub (by omega) (by omega)) ?_
 exact C.look_flat hc hs hl hk
theorem C.impl_GrowField {vc : Value} {r c b : Int} {l : List Int} {H : Hp} {K : Value → Hp → Prop} (hc : Sl eI H vc l)
    (k1 : l.length ≤ 9223372036854775807)
    (hk : ∀ u H', Own eI H' u (groL r c l b) → Nw H u → Le H H' → K (.tuple #[.agg #[.int .i64 (groI (r + 2 * b) r c l b), .int .i64 (groI (c + 2 * b) r c l b), u], .bool (decide (groOk r c l b))]) H') :
    HT prg I.impl_GrowField [.agg #[.int .i64 r, .int .i64 c, vc], .int .i64 b].toArray H K := by
 refine R.impl_GrowField ?_
 unfold F.impl_GrowField
 refine nw_i (fun p H1 hp np le1 => ?_)
 replace hp : Cel H1 p [.int .i64 r, .int .i64 c, vc] := hp
 refine nw_i (fun q H2 oq nq le2 => ?_)
 replace oq : Cel H2 q [.int .i64 b] := oq
 replace hp := hp.le le2
 refine nw_i (fun s H3 os ns le3 => ?_)
 replace os : Cel H3 s [.int .i64 0, .int .i64 0, .slice none 0 0] := os
 replace hp := hp.le le3
 replace oq := oq.le le3
 have le13 := (le1.trans le2).trans le3
 have ns0 : Nw H s := ns.le (le1.trans le2)
 refine ob_i (hp.ldn rfl) ?_
 refine C.impl_isPlain (hc.le le13) k1 (fun H4 le4 => ?_)
 replace hp := hp.le le4
 replace oq := oq.le le4
 replace os := os.le le4
 have leB := le13.trans le4
 have bad : ¬ groOk r c l b → HL.ob (vBuild [(0, 1), (1, 1), (2, 1)] (.agg #[(.int .i64 0), (.int .i64 0), (.slice none 0 0)]) []) fun v32 =>
   st 3 s v32 H4 fun H66 => HL.ob (vLoadN 3 s H66) fun u67 => K (.tuple #[u67, (.bool false)]) H66 := by
  intro hn
  refine ob_i (a := .agg #[.int .i64 0, .int .i64 0, .slice none 0 0]) rfl ?_
  refine os.stn (ws := [.int .i64 0, .int .i64 0, .slice none 0 0]) rfl rfl (by simp [oneCell]) (fun H5 os off5 => ?_)
  refine ob_i (os.ldn rfl) ?_
  have h1 := hk (.slice none 0 0) H5
  simp only [groL, groI, hn, if_false, decide_false] at h1
  exact h1 (Own.nil_of none) (fun b hb => by simp [bk] at hb) (off5.le leB ns0)
 rw [vUn_not, ob_some]
 by_cases c1 : fieldN 1 r c l
 ·have q1 := c1.1.1
  have q2 := c1.1.2
  simp only [decide_eq_true c1, oq.ld0 (x := .int .i64 b) rfl, EV]
  refine C.impl_within ?_
  by_cases c2 : 0 ≤ b ∧ b ≤ 24
  ·have m1 : vInt .mul (.int .i64 2) (.int .i64 b) = some (.int .i64 (2 * b)) := vInt_mul (by omega) (by omega)
   have m2 : vInt .add (.int .i64 r) (.int .i64 (2 * b)) = some (.int .i64 (r + 2 * b)) := vInt_add (by omega) (by omega)
   have m3 : vInt .add (.int .i64 c) (.int .i64 (2 * b)) = some (.int .i64 (c + 2 * b)) := vInt_add (by omega) (by omega)
   simp only [decide_eq_true c2, hp.fa, hp.ld 0 rfl, oq.ld0 (x := .int .i64 b) rfl, m1, m2, EV]
   refine C.impl_isSide ?_
   by_cases c3 : 1 ≤ r + 2 * b ∧ r + 2 * b ≤ 24
   ·simp only [decide_eq_true c3, hp.fa, hp.ld 1 rfl, oq.ld0 (x := .int .i64 b) rfl, m1, m3, EV]
    refine C.impl_isSide ?_
    by_cases c4 : 1 ≤ c + 2 * b ∧ c + 2 * b ≤ 24
    ·have hok : groOk r c l b := ⟨c1, c2, c3, c4⟩
     simp only [decide_eq_true c4, hp.fa, hp.ld 0 rfl, hp.ld 1 rfl, oq.ld0 (x := .int .i64 b) rfl, m1, m2, m3, EV]
     refine C.impl_madeField (g := groG r c l b) (by omega) (by omega) (by omega) (by omega) (fun H' i k Z le hi hk' hZ => ?_) (fun u H5 ou nu le5 => ?_)
     ·refine ⟨by kernel_rfl, ?_⟩
      exact C.impl_GrowField_1 (hp.le le) (oq.le le) (hc.le (leB.trans le)) c1.1 c1.2.1 c2.1 c2.2 (by omega) (by omega) (by omega) (by omega) hZ
     ·have asu : Apart s u := os.apart nu
      replace os := os.le le5
      refine os.stn (ws := [.int .i64 (r + 2 * b), .int .i64 (c + 2 * b), u]) rfl rfl (oc1 rfl (oc1 rfl (oc1 ou.one oc0))) (fun H6 os off6 => ?_)
      refine ob_i (os.ldn rfl) ?_
      have h1 := hk u H6
      simp only [groL, groI, hok, if_true, decide_true] at h1
      exact h1 (ou.off off6 asu.symm) (nu.le leB) (off6.le (leB.trans le5) ns0)
    ·simp only [decide_eq_false c4, EV]; exact bad (fun h => c4 h.2.2.2)
   ·simp only [decide_eq_false c3, EV]; exact bad (fun h => c3 h.2.2.1)
  ·simp only [decide_eq_false c2, EV]; exact bad (fun h => c2 h.2.1)
 ·simp only [decide_eq_false c1, EV]; exact bad (fun h => c1 h.1)
theorem C.spec_l04New {rr cc : Int} {H : Hp} {K : Value → Hp → Prop} (r0 : 0 ≤ rr) (r1 : rr ≤ 24) (c0 : 0 ≤ cc) (c1 : cc ≤ 24)
    (hk : ∀ u H', Own eI H' u (List.replicate (rr.toNat * cc.toNat) 0) → Nw H u → Le H H' → K (.agg #[.int .i64 rr, .int .i64 cc, u]) H') : HT prg I.spec_l04New [.int .i64 rr, .int .i64 cc].toArray H K := by
 refine R.spec_l04New ?_
 unfold F.spec_l04New
 have m := Int.mul_le_mul r1 c1 c0 (by omega)
 have m0 := Int.mul_nonneg r0 c0
 refine nw_i (fun q H1 oq nq le1 => ?_)
 rw [vInt_mul (by omega) (by omega), ob_some]
 refine Own.mk_ (z := (0 : Int)) (by omega) (by omega) (by omega) (by omega) (fun u H2 ou nu le2 => ?_)
 have aqu : Apart q u := oq.apart nu
 replace oq := oq.le le2
 refine ob_i (a := .agg #[.int .i64 rr, .int .i64 cc, u]) (by obtain ⟨_, _, _, rfl⟩ := ou.isSl; rfl) ?_
 refine oq.stn (ws := [.int .i64 rr, .int .i64 cc, u]) rfl rfl (oc1 rfl (oc1 rfl (oc1 ou.one oc0))) (fun H3 oq off3 => ?_)
 refine ob_i (oq.ldn rfl) ?_
 rw [Int.toNat_mul r0 c0] at ou
 exact hk u H3 (ou.off off3 aqu.symm) (nu.le le1) (off3.le (le1.trans le2) nq)
theorem C.spec_l05Sides {r c : Int} {H : Hp} {K : Value → Hp → Prop} (hk : K (.bool (decide ((1 ≤ r ∧ r ≤ 24) ∧ 1 ≤ c ∧ c ≤ 24))) H) : HT prg I.spec_l05Sides [.int .i64 r, .int .i64 c].toArray H K := by
 refine R.spec_l05Sides ?_
 unfold F.spec_l05Sides
 refine C.spec_l00In ?_
 by_cases h : 1 ≤ r ∧ r ≤ 24
 ·simp only [decide_eq_true h, EV]
  refine C.spec_l00In ?_
  exact kQ (K := K) hk ⟨fun h2 => h2.2, fun h2 => ⟨h, h2⟩⟩
 ·simp only [decide_eq_false h, EV]; exact kF (K := K) hk (fun h2 => h h2.1)
/-- A grown field's cells, the first t of the small one's placed. -/
def groP (r c : Int) (l : List Int) (b : Int) (t : Nat) (j : Nat) : Int :=
  if ((0 ≤ (j : Int) / (c + 2 * b) - b ∧ (j : Int) / (c + 2 * b) - b ≤ r - 1) ∧ 0 ≤ (j : Int) % (c + 2 * b) - b ∧ (j : Int) % (c + 2 * b) - b ≤ c - 1) ∧ ((j : Int) / (c + 2 * b) - b) * c + ((j : Int) % (c + 2 * b) - b) < t then
    at_ 0 l (((j : Int) / (c + 2 * b) - b) * c + ((j : Int) % (c + 2 * b) - b)) else 0
def groS (r c : Int) (l : List Int) (b : Int) (t : Nat) : List Int := (List.range ((r + 2 * b).toNat * (c + 2 * b).toNat)).map (groP r c l b t)
theorem groS_length (r c : Int) (l : List Int) (b : Int) (t : Nat) : (groS r c l b t).length = (r + 2 * b).toNat * (c + 2 * b).toNat := by simp [groS]
theorem groS_zero {r c : Int} {l : List Int} {b : Int} (h : groOk r c l b) : groS r c l b 0 = List.replicate ((r + 2 * b).toNat * (c + 2 * b).toNat) 0 := by
  rw [List.eq_replicate_iff]
  refine ⟨groS_length r c l b 0, fun x hx => ?_⟩
  simp only [groS, List.mem_map] at hx
  obtain ⟨j, _, rfl⟩ := hx
  unfold groP
  rw [if_neg]
  rintro ⟨⟨h1, h2⟩, h3⟩
  have := Int.mul_nonneg h1.1 (show (0 : Int) ≤ c by have := h.1.1.2; omega)
  omega
theorem groS_end {r c : Int} {l : List Int} {b : Int} (h : groOk r c l b) (t : Nat) (ht : (t : Int) = r * c) : groS r c l b t = groW r c l b := by
  unfold groS groW mkL
  apply List.map_congr_left
  intro j _
  unfold groP groG flatF
  by_cases h1 : (0 ≤ (j : Int) / (c + 2 * b) - b ∧ (j : Int) / (c + 2 * b) - b ≤ r - 1) ∧ 0 ≤ (j : Int) % (c + 2 * b) - b ∧ (j : Int) % (c + 2 * b) - b ≤ c - 1
  · rw [if_pos h1, if_pos]
    refine ⟨h1, ?_⟩
    have := Int.mul_le_mul (a := (j : Int) / (c + 2 * b) - b) (b := c) (c := r - 1) (d := c) (by omega) (by omega) (by have := h.1.1.2; omega) (by have := h.1.1.1; omega)
    rw [Int.sub_mul r 1 c] at this
    omega
  · rw [if_neg h1, if_neg (fun h2 => h1 h2.1)]
theorem groS_set {r c : Int} {l : List Int} {b : Int} (h : groOk r c l b) {i k : Int} (i0 : 0 ≤ i) (i1 : i < r) (k0 : 0 ≤ k) (k1 : k < c) (t : Nat) (ht : (t : Int) = i * c + k) :
    (groS r c l b t).set ((i + b) * (c + 2 * b) + k + b).toNat (at_ 0 l (i * c + k)) = groS r c l b (t + 1) := by
  have hb := h.2.1
  have hj0 : 0 ≤ (i + b) * (c + 2 * b) := Int.mul_nonneg (by omega) (by omega)
  have hd := divmod (c := c + 2 * b) (i := i + b) (k := k + b) (by omega) (by omega) (by omega)
  apply List.ext_getElem?
  intro j
  rw [List.getElem?_set]
  simp only [groS, List.getElem?_map, List.length_map, List.length_range]
  by_cases hj : j < (r + 2 * b).toNat * (c + 2 * b).toNat
  · rw [List.getElem?_range hj]
    simp only [Option.map_some]
    by_cases e : ((i + b) * (c + 2 * b) + k + b).toNat = j
    · rw [if_pos e, if_pos (by omega)]
      have ej : (j : Int) = (i + b) * (c + 2 * b) + (k + b) := by omega
      unfold groP
      rw [ej, hd.1, hd.2, show i + b - b = i by omega, show k + b - b = k by omega, if_pos ⟨⟨⟨i0, by omega⟩, k0, by omega⟩, by omega⟩]
    · rw [if_neg e]
      congr 1
      unfold groP
      by_cases h1 : (0 ≤ (j : Int) / (c + 2 * b) - b ∧ (j : Int) / (c + 2 * b) - b ≤ r - 1) ∧ 0 ≤ (j : Int) % (c + 2 * b) - b ∧ (j : Int) % (c + 2 * b) - b ≤ c - 1
      · have hne : ((j : Int) / (c + 2 * b) - b) * c + ((j : Int) % (c + 2 * b) - b) ≠ t := by
          intro hh
          rw [ht] at hh
          have d1 := divmod (c := c) (i := (j : Int) / (c + 2 * b) - b) (k := (j : Int) % (c + 2 * b) - b) (by omega) h1.2.1 (by omega)
          have d2 := divmod (c := c) (i := i) (k := k) (by omega) k0 k1
          rw [hh] at d1
          have e1 : (j : Int) / (c + 2 * b) = i + b := by omega
          have e2 : (j : Int) % (c + 2 * b) = k + b := by omega
          have e3 := Int.mul_ediv_add_emod (j : Int) (c + 2 * b)
          rw [e1, e2, Int.mul_comm] at e3
          omega
        by_cases h2 : ((j : Int) / (c + 2 * b) - b) * c + ((j : Int) % (c + 2 * b) - b) < t
        · rw [if_pos ⟨h1, h2⟩, if_pos ⟨h1, by omega⟩]
        · rw [if_neg (fun h3 => h2 h3.2), if_neg (fun h3 => by have := h3.2; omega)]
      · rw [if_neg (fun h3 => h1 h3.1), if_neg (fun h3 => h1 h3.1)]
  · rw [List.getElem?_eq_none (by simpa using hj)]
    simp only [Option.map_none]
    split
    · rw [if_neg (by omega)]
    · rfl
theorem C.spec_l05Grow {p vc : Value} {r c b : Int} {l : List Int} {H : Hp} {K : Value → Hp → Prop} (hp : Cel H p [.int .i64 r, .int .i64 c, vc]) (hc : Sl eI H vc l) (hok : groOk r c l b)
    (hk : ∀ u H', Own eI H' u (groW r c l b) → Nw H u → Le H H' → K (.agg #[.int .i64 (r + 2 * b), .int .i64 (c + 2 * b), u]) H') : HT prg I.spec_l05Grow [p, .int .i64 b].toArray H K := by
 refine R.spec_l05Grow ?_
 unfold F.spec_l05Grow
 have q1 := hok.1.1.1
 have q2 := hok.1.1.2
 have q3 := hok.2.1
 have q4 := hok.2.2.1
 have q5 := hok.2.2.2
 have hlen := hok.1.2.1
 have hlc := fieldN_len hok.1
 have hN : ((groS r c l b 0).length : Int) = (r + 2 * b) * (c + 2 * b) := by rw [groS_length, Int.natCast_mul, Int.toNat_of_nonneg (by omega), Int.toNat_of_nonneg (by omega)]
 have hNt : ∀ t, ((groS r c l b t).length : Int) = (r + 2 * b) * (c + 2 * b) := fun t => by rw [groS_length, Int.natCast_mul, Int.toNat_of_nonneg (by omega), Int.toNat_of_nonneg (by omega)]
 refine nw_i (fun q H1 oq nq le1 => ?_)
 replace oq : Cel H1 q [.int .i64 0, .int .i64 0, .slice none 0 0] := oq
 have apq : Apart p q := hp.apart nq
 replace hp := hp.le le1
 refine ob_i hp.nilC ?_
 refine ob_i (hp.fa 0) ?_
 refine ob_i (hp.ld 0 rfl) ?_
 refine ob_i (vInt_mul (a := 2) (by omega) (by omega)) ?_
 refine ob_i (vInt_add (by omega) (by omega)) ?_
 refine ob_i hp.nilC ?_
 refine ob_i (hp.fa 1) ?_
 refine ob_i (hp.ld 1 rfl) ?_
 refine ob_i (vInt_mul (a := 2) (by omega) (by omega)) ?_
 refine ob_i (vInt_add (by omega) (by omega)) ?_
 refine C.spec_l04New (by omega) (by omega) (by omega) (by omega) (fun u H2 ou nu le2 => ⟨le2, ?_⟩)
 have aqu : Apart q u := oq.apart nu
 have apu : Apart p u := hp.apart nu
 replace oq := oq.le le2
 replace hp := hp.le le2
 have nu0 : Nw H u := nu.le le1
 refine nw_i (fun s H3 os ns le3 => ?_)
 have aus : Apart u s := ou.apart ns
 have aqs : Apart q s := oq.apart ns
 have aps : Apart p s := hp.apart ns
 replace ou := ou.le le3
 replace oq := oq.le le3
 replace hp := hp.le le3
 have ns0 : Nw H s := ns.le (le1.trans le2)
 refine os.stn (ws := [.int .i64 (r + 2 * b), .int .i64 (c + 2 * b), u]) rfl rfl (oc1 rfl (oc1 rfl (oc1 ou.one oc0))) (fun H4 os off4 => ?_)
 replace ou := ou.off off4 aus
 replace oq := oq.off off4 aqs
 replace hp := hp.off off4 aps
 have leB : Le H H4 := off4.le ((le1.trans le2).trans le3) ns0
 refine jn_i (fun σ' H' => σ' 4 = q ∧ σ' 5 = s ∧ Cel H' q [.int .i64 0, .int .i64 0, .slice none 0 0] ∧ Cel H' s [.int .i64 (r + 2 * b), .int .i64 (c + 2 * b), u] ∧ Own eI H' u (groW r c l b) ∧ Le H H') (fun σ' H' hP => ?_) (fun J18 hJ18 => ?_)
 ·obtain ⟨g4, g5, oq, os, ou, le⟩ := hP
  rw [g4, g5]
  refine ob_i (os.ldn rfl) ?_
  refine oq.stn (ws := [.int .i64 (r + 2 * b), .int .i64 (c + 2 * b), u]) rfl rfl (oc1 rfl (oc1 rfl (oc1 ou.one oc0))) (fun H5 oq off5 => ?_)
  refine ob_i (oq.ldn rfl) ?_
  exact hk u H5 (ou.off off5 aqu.symm) nu0 (off5.le le nq)
 refine ⟨fun n σ H5 => ∃ i : Nat, n = r.toNat - i ∧ (i : Int) ≤ r ∧ σ 0 = p ∧ σ 1 = .int .i64 b ∧ σ 4 = q ∧ σ 5 = s ∧ σ 6 = .int .i64 i ∧ Cel H5 p [.int .i64 r, .int .i64 c, vc] ∧ Cel H5 q [.int .i64 0, .int .i64 0, .slice none 0 0] ∧
   Cel H5 s [.int .i64 (r + 2 * b), .int .i64 (c + 2 * b), u] ∧ Own eI H5 u (groS r c l b (i * c.toNat)) ∧ Le H H5,
  ⟨_, 0, rfl, by omega, rfl, rfl, rfl, rfl, rfl, hp, oq, os, by rw [Nat.zero_mul, groS_zero hok]; exact ou, leB⟩, ?_⟩
 rintro n σ H5 ⟨i, rfl, hir, g0, g1, g4, g5, g6, hp, oq, os, ou, le5⟩
 simp only [g0, g6]
 refine ob_i hp.nilC ?_
 refine ob_i (hp.fa 0) ?_
 refine ob_i (hp.ld 0 rfl) ?_
 refine ob_i (vInt_lss _ _ _) ?_
 refine cnd_d (fun hlt => ?_) (fun hge => ?_)
 ·refine jn_i (fun σ' H' => σ' 0 = p ∧ σ' 1 = .int .i64 b ∧ σ' 4 = q ∧ σ' 5 = s ∧ σ' 6 = .int .i64 i ∧ Cel H' p [.int .i64 r, .int .i64 c, vc] ∧ Cel H' q [.int .i64 0, .int .i64 0, .slice none 0 0] ∧
    Cel H' s [.int .i64 (r + 2 * b), .int .i64 (c + 2 * b), u] ∧ Own eI H' u (groS r c l b ((i + 1) * c.toNat)) ∧ Le H H') (fun σ' H' hP => ?_) (fun J27 hJ27 => ?_)
  ·obtain ⟨z0, z1, z4, z5, z6, zp, zq, zs, zu, zle⟩ := hP
   rw [z6]
   refine ob_i (vInt_add (by omega) (by omega)) ?_
   exact nxt (r.toNat - (i + 1)) (by omega) ⟨i + 1, rfl, by omega, z0, z1, z4, z5, rfl, zp, zq, zs, zu, zle⟩
  refine ⟨fun n σ H6 => ∃ k : Nat, n = c.toNat - k ∧ (k : Int) ≤ c ∧ σ 0 = p ∧ σ 1 = .int .i64 b ∧ σ 4 = q ∧ σ 5 = s ∧ σ 6 = .int .i64 i ∧ σ 7 = .int .i64 k ∧ Cel H6 p [.int .i64 r, .int .i64 c, vc] ∧ Cel H6 q [.int .i64 0, .int .i64 0, .slice none 0 0] ∧
    Cel H6 s [.int .i64 (r + 2 * b), .int .i64 (c + 2 * b), u] ∧ Own eI H6 u (groS r c l b (i * c.toNat + k)) ∧ Le H H6,
   ⟨_, 0, rfl, by omega, g0, g1, g4, g5, g6, rfl, hp, oq, os, ou, le5⟩, ?_⟩
  rintro n σ H6 ⟨k, rfl, hkc, z0, z1, z4, z5, z6, z7, hp, oq, os, ou, le6⟩
  simp only [z0, z1, z5, z6, z7]
  refine ob_i hp.nilC ?_
  refine ob_i (hp.fa 1) ?_
  refine ob_i (hp.ld 1 rfl) ?_
  refine ob_i (vInt_lss _ _ _) ?_
  refine cnd_d (fun hkl => ?_) (fun hkg => ?_)
  ·have ht : ((i * c.toNat + k : Nat) : Int) = i * c + k := cast_ix (by omega)
   have n0 : 0 ≤ ((i : Int) + b) * (c + 2 * b) := Int.mul_nonneg (by omega) (by omega)
   have n1 := Int.mul_le_mul (a := (i : Int) + b) (b := c + 2 * b) (c := r + 2 * b - b - 1) (d := c + 2 * b) (by omega) (by omega) (by omega) (by omega)
   rw [Int.sub_mul (r + 2 * b - b) 1, Int.sub_mul (r + 2 * b) b] at n1
   have n2 : 0 ≤ b * (c + 2 * b) := Int.mul_nonneg (by omega) (by omega)
   have n3 := Int.mul_le_mul (a := r + 2 * b) (b := c + 2 * b) (c := 24) (d := 24) (by omega) (by omega) (by omega) (by omega)
   have n4 : 0 ≤ (i : Int) * c := Int.mul_nonneg (by omega) (by omega)
   have n5 := Int.mul_le_mul (a := (i : Int)) (b := c) (c := r - 1) (d := c) (by omega) (by omega) (by omega) (by omega)
   rw [Int.sub_mul r 1 c] at n5
   have hm := sidesF_mul hok.1.1
   have hT := hNt (i * c.toNat + k)
   refine ob_i (os.fa 2) ?_
   refine ob_i (os.ld 2 rfl) ?_
   refine ob_i (vInt_add (by omega) (by omega)) ?_
   refine ob_i (os.fa 1) ?_
   refine ob_i (os.ld 1 rfl) ?_
   refine ob_i (vInt_mul (by omega) (by omega)) ?_
   refine ob_i (vInt_add (by omega) (by omega)) ?_
   refine ob_i (vInt_add (by omega) (by omega)) ?_
   refine ob_i hp.nilC ?_
   refine ob_i (hp.fa 2) ?_
   refine ob_i (hp.ld 2 rfl) ?_
   refine ob_i hp.nilC ?_
   refine ob_i (hp.fa 1) ?_
   refine ob_i (hp.ld 1 rfl) ?_
   refine ob_i (vInt_mul (by omega) (by omega)) ?_
   refine ob_i (vInt_add (by omega) (by omega)) ?_
   refine ob_i ((hc.le le6).ix (by omega) (by omega)) ?_
   refine ob_i ((hc.le le6).ld 0 (by omega) (by omega)) ?_
   refine ob_i (ou.sl.ix (by omega) (by omega)) ?_
   refine ou.st (x := at_ 0 l ((i : Int) * c + k)) (by omega) (by omega) rfl rfl (fun H7 ou7 off7 => ?_)
   refine ob_i (vInt_add (by omega) (by omega)) ?_
   rw [groS_set hok (by omega) hlt (by omega) hkl _ ht] at ou7
   exact nxt (c.toNat - (k + 1)) (by omega) ⟨k + 1, rfl, by omega, z0, z1, z4, z5, z6, rfl, hp.off off7 apu, oq.off off7 aqu, os.off off7 aus.symm, ou7, off7.le le6 nu0⟩
  ·have e : k = c.toNat := by omega
   refine hJ27 _ _ ⟨z0, z1, z4, z5, z6, hp, oq, os, ?_, le6⟩
   rw [Nat.add_mul, Nat.one_mul, ← e]; rw [← e] at ou; exact ou
 ·have e : (i : Int) = r := by omega
  have ht : ((i * c.toNat : Nat) : Int) = r * c := by rw [Int.natCast_mul, Int.toNat_of_nonneg (by omega), e]
  rw [groS_end hok _ ht] at ou
  exact hJ18 _ _ ⟨g4, g5, oq, os, ou, le5⟩
theorem C.spec_GrowField {vc : Value} {r c b : Int} {l : List Int} {H : Hp} {K : Value → Hp → Prop} (hc : Sl eI H vc l)
    (k1 : l.length ≤ 9223372036854775807)
    (hk : ∀ u H', Own eI H' u (groL r c l b) → Nw H u → Le H H' → K (.tuple #[.agg #[.int .i64 (groI (r + 2 * b) r c l b), .int .i64 (groI (c + 2 * b) r c l b), u], .bool (decide (groOk r c l b))]) H') :
    HT prg I.spec_GrowField [.agg #[.int .i64 r, .int .i64 c, vc], .int .i64 b].toArray H K := by
 refine R.spec_GrowField ?_
 unfold F.spec_GrowField
 refine nw_i (fun p H1 hp np le1 => ?_)
 replace hp : Cel H1 p [.int .i64 r, .int .i64 c, vc] := hp
 refine nw_i (fun s H2 os ns le2 => ?_)
 replace os : Cel H2 s [.int .i64 0, .int .i64 0, .slice none 0 0] := os
 replace hp := hp.le le2
 have leB := le1.trans le2
 have ns0 : Nw H s := ns.le le1
 have bad : ¬ groOk r c l b → HL.ob (vBuild [(0, 1), (1, 1), (2, 1)] (.agg #[(.int .i64 0), (.int .i64 0), (.slice none 0 0)]) []) fun v32 =>
   st 3 s v32 H2 fun H66 => HL.ob (vLoadN 3 s H66) fun u67 => K (.tuple #[u67, (.bool false)]) H66 := by
  intro hn
  refine ob_i (a := .agg #[.int .i64 0, .int .i64 0, .slice none 0 0]) rfl ?_
  refine os.stn (ws := [.int .i64 0, .int .i64 0, .slice none 0 0]) rfl rfl (by simp [oneCell]) (fun H5 os off5 => ?_)
  refine ob_i (os.ldn rfl) ?_
  have h1 := hk (.slice none 0 0) H5
  simp only [groL, groI, hn, if_false, decide_false] at h1
  exact h1 (Own.nil_of none) (fun b hb => by simp [bk] at hb) (off5.le leB ns0)
 refine C.spec_l04Plain hp (hc.le leB) k1 ?_
 rw [vUn_not, ob_some]
 by_cases c1 : fieldN 1 r c l
 ·have q1 := c1.1.1
  have q2 := c1.1.2
  simp only [decide_eq_true c1, EV]
  refine C.spec_l00In ?_
  by_cases c2 : 0 ≤ b ∧ b ≤ 24
  ·have m1 : vInt .mul (.int .i64 2) (.int .i64 b) = some (.int .i64 (2 * b)) := vInt_mul (by omega) (by omega)
   have m2 : vInt .add (.int .i64 r) (.int .i64 (2 * b)) = some (.int .i64 (r + 2 * b)) := vInt_add (by omega) (by omega)
   have m3 : vInt .add (.int .i64 c) (.int .i64 (2 * b)) = some (.int .i64 (c + 2 * b)) := vInt_add (by omega) (by omega)
   simp only [decide_eq_true c2, hp.fa, hp.ld 0 rfl, hp.ld 1 rfl, m1, m2, m3, EV]
   refine C.spec_l05Sides ?_
   by_cases c3 : (1 ≤ r + 2 * b ∧ r + 2 * b ≤ 24) ∧ 1 ≤ c + 2 * b ∧ c + 2 * b ≤ 24
   ·have hok : groOk r c l b := ⟨c1, c2, c3.1, c3.2⟩
    simp only [decide_eq_true c3, EV]
    refine C.spec_l05Grow hp (hc.le leB) hok (fun u H5 ou nu le5 => ?_)
    have asu : Apart s u := os.apart nu
    replace os := os.le le5
    refine os.stn (ws := [.int .i64 (r + 2 * b), .int .i64 (c + 2 * b), u]) rfl rfl (oc1 rfl (oc1 rfl (oc1 ou.one oc0))) (fun H6 os off6 => ?_)
    refine ob_i (os.ldn rfl) ?_
    have h1 := hk u H6
    simp only [groL, groI, hok, if_true, decide_true] at h1
    exact h1 (ou.off off6 asu.symm) (nu.le leB) (off6.le (leB.trans le5) ns0)
   ·simp only [decide_eq_false c3, EV]; exact bad (fun h => c3 ⟨h.2.2.1, h.2.2.2⟩)
  ·simp only [decide_eq_false c2, EV]; exact bad (fun h => c2 h.2.1)
 ·simp only [decide_eq_false c1, EV]; exact bad (fun h => c1 h.1)
end Go.Proofs.YtffmfkpobjdmmaaGreatDoor
/- Rules for the walks that a program writes. -/
namespace Go.Proofs.YtffmfkpobjdmmaaGreatDoor.HL
theorem ob_nd {p : Prop} [Decidable p] {K : Value → Prop} (h1 : p → K (.bool false)) (h2 : ¬ p → K (.bool true)) : ob (vUn .not (.bool (decide p))) K := by
  rw [vUn_not, ob_some]
  by_cases c : p
  · rw [decide_eq_true c]; exact h1 c
  · rw [decide_eq_false c]; exact h2 c
theorem vMx_max (k : IntKind) (a b : Int) : vMx true (.int k a) [.int k b] = some (.int k (max a b)) := by
  simp only [vMx]; congr 2; split <;> omega
theorem vMx_min (k : IntKind) (a b : Int) : vMx false (.int k a) [.int k b] = some (.int k (min a b)) := by
  simp only [vMx]; congr 2; split <;> omega
theorem vInt_quoN {a b : Int} (ha : 0 ≤ a) (ha' : a < 9223372036854775808) (hb : 0 < b) : vInt .quo (.int .i64 a) (.int .i64 b) = some (.int .i64 (a / b)) := by
  rw [vInt_quo hb (by omega) ha', Int.tdiv_eq_ediv_of_nonneg ha]
theorem vInt_remN {a b : Int} (ha : 0 ≤ a) (hb : 0 < b) : vInt .rem (.int .i64 a) (.int .i64 b) = some (.int .i64 (a % b)) := by
  rw [vInt_rem (by omega), Int.tmod_eq_emod_of_nonneg ha]
theorem Apart.ap2 {H : Hp} {x u u' : Value} (hx : ∀ b, bk x = some b → ∃ o, H b = some o) (ha : Apart x u) (hb : ∀ b, bk u' = some b → bk u = some b ∨ H b = none) : Apart x u' := fun b h1 h2 => by
  rcases hb b h2 with h | h
  · exact ha b h1 h
  · obtain ⟨o, ho⟩ := hx b h1; rw [h] at ho; simp at ho
theorem Nw.ap2 {H0 H : Hp} {u u' : Value} (hn : Nw H0 u) (hl : Le H0 H) (hb : ∀ b, bk u' = some b → bk u = some b ∨ H b = none) : Nw H0 u' := fun b h => by
  rcases hb b h with h1 | h1
  · exact hn b h1
  · cases ho : H0 b with
    | none => rfl
    | some o => rw [hl b o ho] at h1; simp at h1
theorem apd_any {α : Type} {enc : α → Value} {z : Value} {b : Nat} {e : TypeId} {u t : Value} {l m : List α} {H : Hp} {K : Value → Hp → Prop} (o : Own enc H u l) (ot : Sl enc H t m) (ho : ∀ x, oneCell (enc x) = true) (hb : b ≤ 64) (hl : l.length + m.length ≤ 68719476736)
    (hk : ∀ u' H', Own enc H' u' (l ++ m) → Off u H H' → (∀ b, bk u' = some b → bk u = some b ∨ H b = none) → K u' H') : apd 1 b #[z] e u t H K := by
  refine o.apd ot ho (by omega) (fun c hc => ?_) hk
  have := nsc_le hc
  exact Nat.le_trans (Nat.mul_le_mul this hb) (by omega)
end Go.Proofs.YtffmfkpobjdmmaaGreatDoor.HL
/- The smallest part of a field with all cells of 1. -/
namespace Go.Proofs.YtffmfkpobjdmmaaGreatDoor
open HL
set_option maxRecDepth 100000
/-- Cells that are filled one behind the other. -/
def fillL (c : Int) (g : Int → Int → Int) (N t : Nat) : List Int := (List.range N).map fun (j : Nat) => if j < t then g ((j : Int) / c) ((j : Int) % c) else 0
theorem fillL_length (c : Int) (g : Int → Int → Int) (N t : Nat) : (fillL c g N t).length = N := by simp [fillL]
theorem fillL_zero (c : Int) (g : Int → Int → Int) (N : Nat) : fillL c g N 0 = List.replicate N 0 := by
  rw [List.eq_replicate_iff]
  refine ⟨fillL_length c g N 0, fun x hx => ?_⟩
  simp only [fillL, List.mem_map] at hx
  obtain ⟨j, _, rfl⟩ := hx
  rw [if_neg (by omega)]
theorem fillL_end {c : Int} {g : Int → Int → Int} {N t : Nat} (h : N ≤ t) : fillL c g N t = mkL c g N := by
  unfold fillL mkL
  apply List.map_congr_left
  intro j hj
  have := List.mem_range.mp hj
  rw [if_pos (by omega)]
theorem fillL_set {c : Int} {g : Int → Int → Int} {N : Nat} {i k : Int} {t : Nat} (hc : 0 < c) (k0 : 0 ≤ k) (k1 : k < c) (ht : (t : Int) = i * c + k) (h : 0 ≤ i * c) : (fillL c g N t).set (i * c + k).toNat (g i k) = fillL c g N (t + 1) := by
  have hd := divmod (c := c) (i := i) (k := k) hc k0 k1
  rw [show (i * c + k).toNat = t by omega]
  apply List.ext_getElem?
  intro j
  rw [List.getElem?_set]
  simp only [fillL, List.getElem?_map, List.length_map, List.length_range]
  by_cases e : t = j
  · subst e
    rw [if_pos rfl]
    by_cases hj : t < N
    · rw [if_pos hj, List.getElem?_range hj]
      simp only [Option.map_some]
      rw [if_pos (by omega), ht, hd.1, hd.2]
    · rw [if_neg hj, List.getElem?_eq_none (by simpa using hj)]; rfl
  · rw [if_neg e]
    by_cases hj : j < N
    · rw [List.getElem?_range hj]
      simp only [Option.map_some]
      by_cases h1 : j < t
      · rw [if_pos h1, if_pos (by omega)]
      · rw [if_neg h1, if_neg (by omega)]
    · rw [List.getElem?_eq_none (by simpa using hj)]; rfl
theorem ix_lt {a b r c : Int} (a0 : 0 ≤ a) (a1 : a < r) (b0 : 0 ≤ b) (b1 : b < c) : 0 ≤ a * c ∧ a * c + b < r * c := by
  have := Int.mul_nonneg a0 (show (0 : Int) ≤ c by omega)
  have := Int.mul_le_mul (a := a) (b := c) (c := r - 1) (d := c) (by omega) (by omega) (by omega) (by omega)
  rw [Int.sub_mul] at this
  omega
theorem ix_le {a b : Int} (a0 : 0 ≤ a) (a1 : a ≤ 24) (b0 : 0 ≤ b) (b1 : b ≤ 24) : 0 ≤ a * b ∧ a * b ≤ 576 := by
  have := Int.mul_nonneg a0 b0
  have := Int.mul_le_mul a1 b1 b0 (by omega)
  omega
theorem fillL_len {c : Int} {g : Int → Int → Int} {rr cc : Int} {t : Nat} (h1 : 0 ≤ rr) (h2 : 0 ≤ cc) : ((fillL c g (rr.toNat * cc.toNat) t).length : Int) = rr * cc := by
  rw [fillL_length, Int.natCast_mul, Int.toNat_of_nonneg h1, Int.toNat_of_nonneg h2]
/-- A part of a field. -/
def cutG (c : Int) (l : List Int) (row col i k : Int) : Int := at_ 0 l ((row + i) * c + col + k)
/-- Where the cells of 1 lie, of the first t cells: top, bottom, left, right. -/
def trStep (c : Int) (l : List Int) (s : Int × Int × Int × Int) (j : Nat) : Int × Int × Int × Int :=
  if at_ 0 l (j : Int) = 1 then (min s.1 ((j : Int) / c), max s.2.1 ((j : Int) / c), min s.2.2.1 ((j : Int) % c), max s.2.2.2 ((j : Int) % c)) else s
def trS (r c : Int) (l : List Int) (t : Nat) : Int × Int × Int × Int := (List.range t).foldl (trStep c l) (r, -1, c, -1)
theorem trS_t {r c : Int} {l : List Int} {t : Nat} (h : at_ 0 l (t : Int) = 1) :
    trS r c l (t + 1) = (min (trS r c l t).1 ((t : Int) / c), max (trS r c l t).2.1 ((t : Int) / c), min (trS r c l t).2.2.1 ((t : Int) % c), max (trS r c l t).2.2.2 ((t : Int) % c)) := by
  unfold trS
  rw [List.range_succ, List.foldl_append, List.foldl_cons, List.foldl_nil, trStep, if_pos h]
theorem trS_f {r c : Int} {l : List Int} {t : Nat} (h : ¬ at_ 0 l (t : Int) = 1) : trS r c l (t + 1) = trS r c l t := by
  unfold trS
  rw [List.range_succ, List.foldl_append, List.foldl_cons, List.foldl_nil, trStep, if_neg h]
theorem trS_t2 {r c : Int} {l : List Int} {i k : Int} {t : Nat} (hc : 0 < c) (k0 : 0 ≤ k) (k1 : k < c) (ht : (t : Int) = i * c + k) (h : at_ 0 l (i * c + k) = 1) :
    trS r c l (t + 1) = (min (trS r c l t).1 i, max (trS r c l t).2.1 i, min (trS r c l t).2.2.1 k, max (trS r c l t).2.2.2 k) := by
  have hd := divmod (c := c) (i := i) (k := k) hc k0 k1
  rw [trS_t (by rw [ht]; exact h), ht, hd.1, hd.2]
theorem trS_f2 {r c : Int} {l : List Int} {i k : Int} {t : Nat} (ht : (t : Int) = i * c + k) (h : ¬ at_ 0 l (i * c + k) = 1) : trS r c l (t + 1) = trS r c l t := trS_f (by rw [ht]; exact h)
theorem trS_inv {r c : Int} {l : List Int} (hs : sidesF r c) : ∀ t : Nat, (t : Int) ≤ r * c →
    trS r c l t = (r, -1, c, -1) ∨ ((0 ≤ (trS r c l t).1 ∧ (trS r c l t).1 ≤ (trS r c l t).2.1 ∧ (trS r c l t).2.1 < r) ∧ 0 ≤ (trS r c l t).2.2.1 ∧ (trS r c l t).2.2.1 ≤ (trS r c l t).2.2.2 ∧ (trS r c l t).2.2.2 < c)
  | 0, _ => .inl rfl
  | t + 1, h => by
    have q1 := hs.1
    have q2 := hs.2
    have d1 := Int.ediv_nonneg (a := (t : Int)) (b := c) (by omega) (by omega)
    have d2 : (t : Int) / c < r := Int.ediv_lt_of_lt_mul (by omega) (by omega)
    have d3 := Int.emod_nonneg (t : Int) (b := c) (by omega)
    have d4 := Int.emod_lt_of_pos (t : Int) (b := c) (by omega)
    by_cases e : at_ 0 l (t : Int) = 1
    · rw [trS_t e]
      refine .inr ?_
      rcases trS_inv (l := l) hs t (by omega) with h1 | h1
      · rw [h1]; simp only; omega
      · simp only; omega
    · rw [trS_f e]
      exact trS_inv hs t (by omega)
theorem trS_bnd {r c : Int} {l : List Int} (hs : sidesF r c) (t : Nat) (h : (t : Int) ≤ r * c) : (0 ≤ (trS r c l t).1 ∧ (trS r c l t).1 ≤ r ∧ -1 ≤ (trS r c l t).2.1 ∧ (trS r c l t).2.1 < r) ∧ 0 ≤ (trS r c l t).2.2.1 ∧ (trS r c l t).2.2.1 ≤ c ∧ -1 ≤ (trS r c l t).2.2.2 ∧ (trS r c l t).2.2.2 < c := by
  have q1 := hs.1
  have q2 := hs.2
  rcases trS_inv (l := l) hs t h with h1 | h1
  · rw [h1]; simp only; omega
  · omega
theorem trS_ok {r c : Int} {l : List Int} (hs : sidesF r c) (t : Nat) (h : (t : Int) ≤ r * c) (hb : 0 ≤ (trS r c l t).2.1) : (trS r c l t).1 ≤ (trS r c l t).2.1 ∧ (trS r c l t).2.2.1 ≤ (trS r c l t).2.2.2 := by
  rcases trS_inv (l := l) hs t h with h1 | h1
  · rw [h1] at hb; simp only at hb; omega
  · omega
/-- The smallest part: its sides, its cells, and where it begins. -/
def trm (r c : Int) (l : List Int) : Int × Int × Int × Int := trS r c l (r * c).toNat
def trR (r c : Int) (l : List Int) : Int := (trm r c l).2.1 - (trm r c l).1 + 1
def trC (r c : Int) (l : List Int) : Int := (trm r c l).2.2.2 - (trm r c l).2.2.1 + 1
def trL (r c : Int) (l : List Int) : List Int := mkL (trC r c l) (cutG c l (trm r c l).1 (trm r c l).2.2.1) ((trR r c l).toNat * (trC r c l).toNat)
theorem trm_bnd {r c : Int} {l : List Int} (hs : sidesF r c) (hb : 0 ≤ (trm r c l).2.1) : 0 ≤ (trm r c l).1 ∧ 0 ≤ (trm r c l).2.2.1 ∧ 1 ≤ trR r c l ∧ 1 ≤ trC r c l ∧ (trm r c l).1 + trR r c l ≤ r ∧ (trm r c l).2.2.1 + trC r c l ≤ c := by
  have m := sidesF_mul hs
  have b := trS_bnd (l := l) hs (r * c).toNat (by omega)
  have d := trS_ok (l := l) hs (r * c).toNat (by omega) hb
  unfold trR trC trm
  omega
def trimOk (r c : Int) (l : List Int) : Prop := fieldN 1 r c l ∧ 0 ≤ (trm r c l).2.1
instance (r c : Int) (l : List Int) : Decidable (trimOk r c l) := by unfold trimOk; infer_instance
theorem C.spec_l00Min {a b : Int} {H : Hp} {K : Value → Hp → Prop} (hk : K (.int .i64 (min a b)) H) : HT prg I.spec_l00Min [.int .i64 a, .int .i64 b].toArray H K := by
 refine R.spec_l00Min ?_
 unfold F.spec_l00Min
 rw [vInt_lss, ob_some]
 refine cnd_d (fun h => ?_) (fun h => ?_)
 ·rw [show min a b = a by omega] at hk; exact hk
 ·rw [show min a b = b by omega] at hk; exact hk
theorem C.spec_l00Max {a b : Int} {H : Hp} {K : Value → Hp → Prop} (hk : K (.int .i64 (max a b)) H) : HT prg I.spec_l00Max [.int .i64 a, .int .i64 b].toArray H K := by
 refine R.spec_l00Max ?_
 unfold F.spec_l00Max
 rw [vInt_gtr, ob_some]
 refine cnd_d (fun h => ?_) (fun h => ?_)
 ·rw [show max a b = a by omega] at hk; exact hk
 ·rw [show max a b = b by omega] at hk; exact hk
theorem C.spec_l05Cut {p vc : Value} {r c row col rows cols : Int} {l : List Int} {H : Hp} {K : Value → Hp → Prop} (hp0 : Cel H p [.int .i64 r, .int .i64 c, vc]) (hvc0 : Sl eI H vc l) (hs : sidesF r c) (hl : (l.length : Int) = r * c)
    (h0 : 0 ≤ row) (h1 : 0 ≤ col) (h2 : 1 ≤ rows) (h3 : 1 ≤ cols) (h4 : row + rows ≤ r) (h5 : col + cols ≤ c) (hk : ∀ u H', Own eI H' u (mkL cols (cutG c l row col) (rows.toNat * cols.toNat)) → Nw H u → Le H H' → K (.agg #[.int .i64 rows, .int .i64 cols, u]) H') :
    HT prg I.spec_l05Cut [p, .int .i64 row, .int .i64 col, .int .i64 rows, .int .i64 cols].toArray H K := by
 have q1 := hs.1
 have q2 := hs.2
 have lE := Le.refl H
 have hp := hp0
 have hvc := hvc0
 refine R.spec_l05Cut ?_
 unfold F.spec_l05Cut
 refine nw_i (fun q H1 oq nn2 le3 => ?_)
 have nq : Nw H q := nn2.le lE
 replace hp := hp.le le3
 replace hvc := hvc.le le3
 replace lE := lE.trans le3
 replace oq : Cel H1 q [(.int .i64 (0)), (.int .i64 (0)), (.slice none 0 0)] := oq
 refine C.spec_l04New (by omega) (by omega) (by omega) (by omega) (fun u H4 ou nn6  le5 => ?_)
 have aqXu : Apart q u := oq.apart nn6
 have nu : Nw H u := nn6.le lE
 replace oq := oq.le le5
 replace hp := hp.le le5
 replace hvc := hvc.le le5
 replace lE := lE.trans le5
 refine nw_i (fun s H7 os nn8 le9 => ?_)
 have aqXs : Apart q s := oq.apart nn8
 have auXs : Apart u s := ou.apart nn8
 have ns : Nw H s := nn8.le lE
 replace oq := oq.le le9
 replace ou := ou.le le9
 replace hp := hp.le le9
 replace hvc := hvc.le le9
 replace lE := lE.trans le9
 replace os : Cel H7 s [(.int .i64 (0)), (.int .i64 (0)), (.slice none 0 0)] := os
 refine os.stn (ws := [(.int .i64 (rows)), (.int .i64 (cols)), u]) rfl rfl (oc1 rfl (oc1 rfl (oc1 ou.one oc0))) (fun H10 os off11 => ?_)
 replace oq := oq.off off11 aqXs
 replace ou := ou.off off11 auXs
 replace hp := hp0.le (off11.le lE ns)
 replace hvc := hvc0.le (off11.le lE ns)
 replace lE := off11.le lE ns
 replace os : Cel H10 s [(.int .i64 (rows)), (.int .i64 (cols)), u] := os
 refine jn_i (fun σ' H' => σ' 10 = q ∧ σ' 11 = s ∧ Cel H' q [(.int .i64 (0)), (.int .i64 (0)), (.slice none 0 0)] ∧ Own eI H' u (mkL cols (cutG c l row col) (rows.toNat * cols.toNat)) ∧ Cel H' s [(.int .i64 (rows)), (.int .i64 (cols)), u] ∧ Le H H') (fun σ12 H12 hP => ?_) (fun J12 hJ12 => ?_)
 ·skip
  obtain ⟨g10L12, g11L12, oq, ou, os, lE⟩ := hP
  have hp := hp0.le lE
  have hvc := hvc0.le lE
  simp only [g10L12, g11L12]
  refine ob_i (os.ldn rfl) ?_
  refine oq.stn (ws := [(.int .i64 (rows)), (.int .i64 (cols)), u]) rfl rfl (oc1 rfl (oc1 rfl (oc1 ou.one oc0))) (fun H13 oq off14 => ?_)
  replace ou := ou.off off14 aqXu.symm
  replace hp := hp0.le (off14.le lE nq)
  replace hvc := hvc0.le (off14.le lE nq)
  replace lE := off14.le lE nq
  replace oq : Cel H13 q [(.int .i64 (rows)), (.int .i64 (cols)), u] := oq
  refine ob_i (oq.ldn rfl) ?_
  exact hk u _ ou nu lE
 refine ⟨fun n' σ' H' => ∃ i : Nat, n' = rows.toNat - i ∧ i ≤ rows.toNat ∧ σ' 0 = p ∧ σ' 1 = (.int .i64 (row)) ∧ σ' 2 = (.int .i64 (col)) ∧ σ' 3 = (.int .i64 (rows)) ∧ σ' 4 = (.int .i64 (cols)) ∧ σ' 10 = q ∧ σ' 11 = s ∧ σ' 12 = (.int .i64 ((i : Int))) ∧ Cel H' q [(.int .i64 (0)), (.int .i64 (0)), (.slice none 0 0)] ∧ Own eI H' u (fillL cols (cutG c l row col) (rows.toNat * cols.toNat) (i * cols.toNat)) ∧ Cel H' s [(.int .i64 (rows)), (.int .i64 (cols)), u] ∧ Le H H',
  ⟨_, 0, rfl, by omega, rfl, rfl, rfl, rfl, rfl, rfl, rfl, rfl, oq, by rw [Nat.zero_mul, fillL_zero]; exact ou, os, lE⟩, ?_⟩
 rintro n15 σ15 H15 ⟨i, rfl, hiN, g0L15, g1L15, g2L15, g3L15, g4L15, g10L15, g11L15, g12L15, oq, ou, os, lE⟩
 have hp := hp0.le lE
 have hvc := hvc0.le lE
 simp only [g0L15, g1L15, g2L15, g3L15, g4L15, g10L15, g11L15, g12L15]
 refine ob_i (vInt_lss _ _ _) ?_
 refine cnd_d (fun hg16 => ?_) (fun hg16 => ?_)
 ·skip
  have ti := hg16
  refine jn_i (fun σ' H' => σ' 0 = p ∧ σ' 1 = (.int .i64 (row)) ∧ σ' 2 = (.int .i64 (col)) ∧ σ' 3 = (.int .i64 (rows)) ∧ σ' 4 = (.int .i64 (cols)) ∧ σ' 10 = q ∧ σ' 11 = s ∧ σ' 12 = (.int .i64 ((i : Int))) ∧ Cel H' q [(.int .i64 (0)), (.int .i64 (0)), (.slice none 0 0)] ∧ Own eI H' u (fillL cols (cutG c l row col) (rows.toNat * cols.toNat) ((i + 1) * cols.toNat)) ∧ Cel H' s [(.int .i64 (rows)), (.int .i64 (cols)), u] ∧ Le H H') (fun σ17 H17 hP => ?_) (fun J17 hJ17 => ?_)
  ·skip
   obtain ⟨g0L17, g1L17, g2L17, g3L17, g4L17, g10L17, g11L17, g12L17, oq, ou, os, lE⟩ := hP
   simp only [g10L17, g12L17]
   refine ob_i (vInt_add (by omega) (by omega)) ?_
   exact nxt (rows.toNat - (i + 1)) (by omega) ⟨i + 1, rfl, by omega, g0L17, g1L17, g2L17, g3L17, g4L17, g10L17, g11L17, rfl, oq, ou, os, lE⟩
  refine ⟨fun n' σ' H' => ∃ k : Nat, n' = cols.toNat - k ∧ k ≤ cols.toNat ∧ σ' 0 = p ∧ σ' 1 = (.int .i64 (row)) ∧ σ' 2 = (.int .i64 (col)) ∧ σ' 3 = (.int .i64 (rows)) ∧ σ' 4 = (.int .i64 (cols)) ∧ σ' 10 = q ∧ σ' 11 = s ∧ σ' 12 = (.int .i64 ((i : Int))) ∧ σ' 13 = (.int .i64 ((k : Int))) ∧ Cel H' q [(.int .i64 (0)), (.int .i64 (0)), (.slice none 0 0)] ∧ Own eI H' u (fillL cols (cutG c l row col) (rows.toNat * cols.toNat) (i * cols.toNat + k)) ∧ Cel H' s [(.int .i64 (rows)), (.int .i64 (cols)), u] ∧ Le H H',
   ⟨_, 0, rfl, by omega, g0L15, g1L15, g2L15, g3L15, g4L15, g10L15, g11L15, g12L15, rfl, oq, ou, os, lE⟩, ?_⟩
  rintro n18 σ18 H18 ⟨k, rfl, hkN, g0L18, g1L18, g2L18, g3L18, g4L18, g10L18, g11L18, g12L18, g13L18, oq, ou, os, lE⟩
  have hp := hp0.le lE
  have hvc := hvc0.le lE
  simp only [g0L18, g1L18, g2L18, g4L18, g10L18, g11L18, g12L18, g13L18]
  refine ob_i (vInt_lss _ _ _) ?_
  refine cnd_d (fun hg19 => ?_) (fun hg19 => ?_)
  ·skip
   have tk := hg19
   have x1 := ix_lt (a := row + i) (b := col + k) (r := r) (c := c) (by omega) (by omega) (by omega) (by omega)
   have x2 := ix_lt (a := (i : Int)) (b := (k : Int)) (r := rows) (c := cols) (by omega) (by omega) (by omega) (by omega)
   have x3 := fillL_len (c := cols) (g := cutG c l row col) (rr := rows) (cc := cols) (t := i * cols.toNat + k) (by omega) (by omega)
   have x4 := sidesF_mul hs
   have x5 := ix_le (a := rows) (b := cols) (by omega) (by omega) (by omega) (by omega)
   refine ob_i (os.fa 2) ?_
   refine ob_i (os.ld 2 rfl) ?_
   refine ob_i (vInt_mul (by omega) (by omega)) ?_
   refine ob_i (vInt_add (by omega) (by omega)) ?_
   refine ob_i (hp.nilC) ?_
   refine ob_i (hp.fa 2) ?_
   refine ob_i (hp.ld 2 rfl) ?_
   refine ob_i (vInt_add (by omega) (by omega)) ?_
   refine ob_i (hp.nilC) ?_
   refine ob_i (hp.fa 1) ?_
   refine ob_i (hp.ld 1 rfl) ?_
   refine ob_i (vInt_mul (by omega) (by omega)) ?_
   refine ob_i (vInt_add (by omega) (by omega)) ?_
   refine ob_i (vInt_add (by omega) (by omega)) ?_
   refine ob_i (hvc.ix (by omega) (by omega)) ?_
   refine ob_i (hvc.ld 0 (by omega) (by omega)) ?_
   refine ob_i (ou.sl.ix (by omega) (by omega)) ?_
   refine ou.st (x := at_ 0 (l) ((((row + (i : Int)) * c) + col) + (k : Int))) (by omega) (by omega) rfl rfl (fun H20 ou off21 => ?_)
   replace oq := oq.off off21 aqXu
   replace os := os.off off21 auXs.symm
   replace hp := hp0.le (off21.le lE nu)
   replace hvc := hvc0.le (off21.le lE nu)
   replace lE := off21.le lE nu
   refine ob_i (vInt_add (by omega) (by omega)) ?_
   have e := fillL_set (c := cols) (g := cutG c l row col) (N := (rows.toNat * cols.toNat)) (i := i) (k := k) (t := i * cols.toNat + k) (by omega) (by omega) (by omega) (cast_ix (by omega)) (by omega)
   replace ou : Own eI H20 u (fillL cols (cutG c l row col) (rows.toNat * cols.toNat) (i * cols.toNat + (k + 1))) := by rw [← Nat.add_assoc, ← e]; exact ou
   exact nxt (cols.toNat - (k + 1)) (by omega) ⟨k + 1, rfl, by omega, g0L18, g1L18, g2L18, g3L18, g4L18, g10L18, g11L18, g12L18, rfl, oq, ou, os, lE⟩
  ·skip
   have tk := hg19
   rw [show i * cols.toNat + k = (i + 1) * cols.toNat by rw [Nat.add_mul, Nat.one_mul]; omega] at ou
   exact hJ17 _ _ ⟨g0L18, g1L18, g2L18, g3L18, g4L18, g10L18, g11L18, g12L18, oq, ou, os, lE⟩
 ·skip
  have ti := hg16
  rw [fillL_end (by rw [show i = rows.toNat by omega]; exact Nat.le_refl _)] at ou
  exact hJ12 _ _ ⟨g10L15, g11L15, oq, ou, os, lE⟩
theorem C.spec_l05Trim {p vc : Value} {r c : Int} {l : List Int} {H : Hp} {K : Value → Hp → Prop} (hp0 : Cel H p [.int .i64 r, .int .i64 c, vc]) (hvc0 : Sl eI H vc l) (hs : sidesF r c) (hl : (l.length : Int) = r * c)
    (hk1 : (trm r c l).2.1 < 0 → ∀ H', Le H H' → K (.tuple #[.agg #[.int .i64 0, .int .i64 0, .slice none 0 0], .int .i64 0, .int .i64 0, .bool false]) H')
    (hk2 : 0 ≤ (trm r c l).2.1 → ∀ u H', Own eI H' u (trL r c l) → Nw H u → Le H H' → K (.tuple #[.agg #[.int .i64 (trR r c l), .int .i64 (trC r c l), u], .int .i64 (trm r c l).1, .int .i64 (trm r c l).2.2.1, .bool true]) H') :
    HT prg I.spec_l05Trim [p].toArray H K := by
 have q1 := hs.1
 have q2 := hs.2
 have m := sidesF_mul hs
 change (trS r c l (r * c).toNat).2.1 < 0 → _ at hk1
 change 0 ≤ (trS r c l (r * c).toNat).2.1 → _ at hk2
 have lE := Le.refl H
 have hp := hp0
 have hvc := hvc0
 refine R.spec_l05Trim ?_
 unfold F.spec_l05Trim
 refine nw_i (fun q H1 oq nn2 le3 => ?_)
 have nq : Nw H q := nn2.le lE
 replace hp := hp.le le3
 replace hvc := hvc.le le3
 replace lE := lE.trans le3
 replace oq : Cel H1 q [(.int .i64 (0)), (.int .i64 (0)), (.slice none 0 0)] := oq
 refine ob_i (hp.nilC) ?_
 refine ob_i (hp.fa 0) ?_
 refine ob_i (hp.ld 0 rfl) ?_
 refine ob_i (hp.nilC) ?_
 refine ob_i (hp.fa 1) ?_
 refine ob_i (hp.ld 1 rfl) ?_
 refine jn_i (fun σ' H' => σ' 0 = p ∧ σ' 2 = q ∧ σ' 6 = (.int .i64 ((trS r c l ((r * c).toNat)).1)) ∧ σ' 7 = (.int .i64 ((trS r c l ((r * c).toNat)).2.1)) ∧ σ' 8 = (.int .i64 ((trS r c l ((r * c).toNat)).2.2.1)) ∧ σ' 9 = (.int .i64 ((trS r c l ((r * c).toNat)).2.2.2)) ∧ Cel H' q [(.int .i64 (0)), (.int .i64 (0)), (.slice none 0 0)] ∧ Le H H') (fun σ4 H4 hP => ?_) (fun J4 hJ4 => ?_)
 ·skip
  obtain ⟨g0L4, g2L4, g6L4, g7L4, g8L4, g9L4, oq, lE⟩ := hP
  have hp := hp0.le lE
  have hvc := hvc0.le lE
  simp only [g0L4, g2L4, g6L4, g7L4, g8L4, g9L4]
  have b := trS_bnd (l := l) hs (r * c).toNat (by omega)
  have b2 := trS_ok (l := l) hs (r * c).toNat (by omega)
  refine ob_i (vInt_lss _ _ _) ?_
  refine cnd_d (fun hg5 => ?_) (fun hg5 => ?_)
  ·skip
   refine ob_i (a := (.agg #[(.int .i64 (0)), (.int .i64 (0)), (.slice none 0 0)])) (by rfl) ?_
   refine oq.stn (ws := [(.int .i64 (0)), (.int .i64 (0)), (.slice none 0 0)]) rfl rfl (oc1 rfl (oc1 rfl (oc1 rfl oc0))) (fun H6 oq off7 => ?_)
   replace hp := hp0.le (off7.le lE nq)
   replace hvc := hvc0.le (off7.le lE nq)
   replace lE := off7.le lE nq
   replace oq : Cel H6 q [(.int .i64 (0)), (.int .i64 (0)), (.slice none 0 0)] := oq
   refine ob_i (oq.ldn rfl) ?_
   exact hk1 (by omega) _ lE
  ·skip
   refine ob_i (vInt_sub (by omega) (by omega)) ?_
   refine ob_i (vInt_add (by omega) (by omega)) ?_
   refine ob_i (vInt_sub (by omega) (by omega)) ?_
   refine ob_i (vInt_add (by omega) (by omega)) ?_
   refine C.spec_l05Cut hp hvc hs hl (by omega) (by omega) (by omega) (by omega) (by omega) (by omega) (fun u10 H8 ou10 nn11  le9 => ?_)
   have aqXu10 : Apart q u10 := oq.apart nn11
   have nu10 : Nw H u10 := nn11.le lE
   replace oq := oq.le le9
   replace hp := hp.le le9
   replace hvc := hvc.le le9
   replace lE := lE.trans le9
   refine oq.stn (ws := [(.int .i64 ((((trS r c l ((r * c).toNat)).2.1) - ((trS r c l ((r * c).toNat)).1)) + 1)), (.int .i64 ((((trS r c l ((r * c).toNat)).2.2.2) - ((trS r c l ((r * c).toNat)).2.2.1)) + 1)), u10]) rfl rfl (oc1 rfl (oc1 rfl (oc1 ou10.one oc0))) (fun H12 oq off13 => ?_)
   replace ou10 := ou10.off off13 aqXu10.symm
   replace hp := hp0.le (off13.le lE nq)
   replace hvc := hvc0.le (off13.le lE nq)
   replace lE := off13.le lE nq
   replace oq : Cel H12 q [(.int .i64 ((((trS r c l ((r * c).toNat)).2.1) - ((trS r c l ((r * c).toNat)).1)) + 1)), (.int .i64 ((((trS r c l ((r * c).toNat)).2.2.2) - ((trS r c l ((r * c).toNat)).2.2.1)) + 1)), u10] := oq
   refine ob_i (oq.ldn rfl) ?_
   exact hk2 (by omega) u10 _ ou10 nu10 lE
 refine ⟨fun n' σ' H' => ∃ i : Nat, n' = r.toNat - i ∧ i ≤ r.toNat ∧ σ' 0 = p ∧ σ' 2 = q ∧ σ' 6 = (.int .i64 ((trS r c l (i * c.toNat)).1)) ∧ σ' 7 = (.int .i64 ((trS r c l (i * c.toNat)).2.1)) ∧ σ' 8 = (.int .i64 ((trS r c l (i * c.toNat)).2.2.1)) ∧ σ' 9 = (.int .i64 ((trS r c l (i * c.toNat)).2.2.2)) ∧ σ' 10 = (.int .i64 ((i : Int))) ∧ Cel H' q [(.int .i64 (0)), (.int .i64 (0)), (.slice none 0 0)] ∧ Le H H',
  ⟨_, 0, rfl, by omega, rfl, rfl, by rw [Nat.zero_mul]; rfl, by rw [Nat.zero_mul]; rfl, by rw [Nat.zero_mul]; rfl, by rw [Nat.zero_mul]; rfl, rfl, oq, lE⟩, ?_⟩
 rintro n14 σ14 H14 ⟨i, rfl, hiN, g0L14, g2L14, g6L14, g7L14, g8L14, g9L14, g10L14, oq, lE⟩
 have hp := hp0.le lE
 have hvc := hvc0.le lE
 simp only [g0L14, g2L14, g6L14, g7L14, g8L14, g9L14, g10L14]
 refine ob_i (hp.nilC) ?_
 refine ob_i (hp.fa 0) ?_
 refine ob_i (hp.ld 0 rfl) ?_
 refine ob_i (vInt_lss _ _ _) ?_
 refine cnd_d (fun hg15 => ?_) (fun hg15 => ?_)
 ·skip
  have ti := hg15
  refine jn_i (fun σ' H' => σ' 0 = p ∧ σ' 2 = q ∧ σ' 6 = (.int .i64 ((trS r c l ((i + 1) * c.toNat)).1)) ∧ σ' 7 = (.int .i64 ((trS r c l ((i + 1) * c.toNat)).2.1)) ∧ σ' 8 = (.int .i64 ((trS r c l ((i + 1) * c.toNat)).2.2.1)) ∧ σ' 9 = (.int .i64 ((trS r c l ((i + 1) * c.toNat)).2.2.2)) ∧ σ' 10 = (.int .i64 ((i : Int))) ∧ Cel H' q [(.int .i64 (0)), (.int .i64 (0)), (.slice none 0 0)] ∧ Le H H') (fun σ16 H16 hP => ?_) (fun J16 hJ16 => ?_)
  ·skip
   obtain ⟨g0L16, g2L16, g6L16, g7L16, g8L16, g9L16, g10L16, oq, lE⟩ := hP
   simp only [g2L16, g10L16]
   refine ob_i (vInt_add (by omega) (by omega)) ?_
   exact nxt (r.toNat - (i + 1)) (by omega) ⟨i + 1, rfl, by omega, g0L16, g2L16, g6L16, g7L16, g8L16, g9L16, rfl, oq, lE⟩
  refine ⟨fun n' σ' H' => ∃ k : Nat, n' = c.toNat - k ∧ k ≤ c.toNat ∧ σ' 0 = p ∧ σ' 2 = q ∧ σ' 6 = (.int .i64 ((trS r c l (i * c.toNat + k)).1)) ∧ σ' 7 = (.int .i64 ((trS r c l (i * c.toNat + k)).2.1)) ∧ σ' 8 = (.int .i64 ((trS r c l (i * c.toNat + k)).2.2.1)) ∧ σ' 9 = (.int .i64 ((trS r c l (i * c.toNat + k)).2.2.2)) ∧ σ' 10 = (.int .i64 ((i : Int))) ∧ σ' 11 = (.int .i64 ((k : Int))) ∧ Cel H' q [(.int .i64 (0)), (.int .i64 (0)), (.slice none 0 0)] ∧ Le H H',
   ⟨_, 0, rfl, by omega, g0L14, g2L14, g6L14, g7L14, g8L14, g9L14, g10L14, rfl, oq, lE⟩, ?_⟩
  rintro n17 σ17 H17 ⟨k, rfl, hkN, g0L17, g2L17, g6L17, g7L17, g8L17, g9L17, g10L17, g11L17, oq, lE⟩
  have hp := hp0.le lE
  have hvc := hvc0.le lE
  simp only [g0L17, g2L17, g6L17, g7L17, g8L17, g9L17, g10L17, g11L17]
  refine ob_i (hp.nilC) ?_
  refine ob_i (hp.fa 1) ?_
  refine ob_i (hp.ld 1 rfl) ?_
  refine ob_i (vInt_lss _ _ _) ?_
  refine cnd_d (fun hg18 => ?_) (fun hg18 => ?_)
  ·skip
   have tk := hg18
   have x1 := ix_lt (a := (i : Int)) (b := (k : Int)) (r := r) (c := c) (by omega) (by omega) (by omega) (by omega)
   have x4 := sidesF_mul hs
   refine ob_i (hp.nilC) ?_
   refine ob_i (hp.fa 2) ?_
   refine ob_i (hp.ld 2 rfl) ?_
   refine ob_i (hp.nilC) ?_
   refine ob_i (hp.fa 1) ?_
   refine ob_i (hp.ld 1 rfl) ?_
   refine ob_i (vInt_mul (by omega) (by omega)) ?_
   refine ob_i (vInt_add (by omega) (by omega)) ?_
   refine ob_i (hvc.ix (by omega) (by omega)) ?_
   refine ob_i (hvc.ld 0 (by omega) (by omega)) ?_
   refine ob_i (vInt_eql _ _ _) ?_
   refine cnd_d (fun hg19 => ?_) (fun hg19 => ?_)
   ·skip
    refine C.spec_l00Min  ?_
    refine C.spec_l00Max  ?_
    refine C.spec_l00Min  ?_
    refine C.spec_l00Max  ?_
    refine ob_i (vInt_add (by omega) (by omega)) ?_
    have eT := trS_t2 (r := r) (c := c) (i := (i : Int)) (k := (k : Int)) (t := i * c.toNat + k) (by omega) (by omega) (by omega) (cast_ix (by omega)) hg19
    exact nxt (c.toNat - (k + 1)) (by omega) ⟨k + 1, rfl, by omega, g0L17, g2L17, (by rw [← Nat.add_assoc, eT]; rfl), (by rw [← Nat.add_assoc, eT]; rfl), (by rw [← Nat.add_assoc, eT]; rfl), (by rw [← Nat.add_assoc, eT]; rfl), g10L17, rfl, oq, lE⟩
   ·skip
    refine ob_i (vInt_add (by omega) (by omega)) ?_
    have eT := trS_f2 (r := r) (c := c) (i := (i : Int)) (k := (k : Int)) (t := i * c.toNat + k) (cast_ix (by omega)) hg19
    exact nxt (c.toNat - (k + 1)) (by omega) ⟨k + 1, rfl, by omega, g0L17, g2L17, (by rw [← Nat.add_assoc, eT]; exact g6L17), (by rw [← Nat.add_assoc, eT]; exact g7L17), (by rw [← Nat.add_assoc, eT]; exact g8L17), (by rw [← Nat.add_assoc, eT]; exact g9L17), g10L17, rfl, oq, lE⟩
  ·skip
   have tk := hg18
   exact hJ16 _ _ ⟨g0L17, g2L17, (by rw [← show i * c.toNat + k = (i + 1) * c.toNat by rw [Nat.add_mul, Nat.one_mul]; congr 1; omega]; exact g6L17), (by rw [← show i * c.toNat + k = (i + 1) * c.toNat by rw [Nat.add_mul, Nat.one_mul]; congr 1; omega]; exact g7L17), (by rw [← show i * c.toNat + k = (i + 1) * c.toNat by rw [Nat.add_mul, Nat.one_mul]; congr 1; omega]; exact g8L17), (by rw [← show i * c.toNat + k = (i + 1) * c.toNat by rw [Nat.add_mul, Nat.one_mul]; congr 1; omega]; exact g9L17), g10L17, oq, lE⟩
 ·skip
  have ti := hg15
  exact hJ4 _ _ ⟨g0L14, g2L14, (by rw [← show i * c.toNat = (r * c).toNat by rw [Int.toNat_mul (by omega) (by omega)]; congr 1; omega]; exact g6L14), (by rw [← show i * c.toNat = (r * c).toNat by rw [Int.toNat_mul (by omega) (by omega)]; congr 1; omega]; exact g7L14), (by rw [← show i * c.toNat = (r * c).toNat by rw [Int.toNat_mul (by omega) (by omega)]; congr 1; omega]; exact g8L14), (by rw [← show i * c.toNat = (r * c).toNat by rw [Int.toNat_mul (by omega) (by omega)]; congr 1; omega]; exact g9L14), oq, lE⟩
theorem C.impl_Field_cut_1 {p q s vc : Value} {r c row col i k : Int} {l : List Int} {H : Hp} {K : Value → Hp → Prop} (hp0 : Cel H p [.int .i64 r, .int .i64 c, vc]) (hq0 : Cel H q [.int .i64 row]) (hs0 : Cel H s [.int .i64 col]) (hvc0 : Sl eI H vc l) (hs : sidesF r c) (hl : (l.length : Int) = r * c)
    (h0 : 0 ≤ row + i) (h1 : 0 ≤ col + k) (h2 : row + i < r) (h3 : col + k < c) (hk : ∀ H', Le H H' → K (.int .i64 (cutG c l row col i k)) H') : HT prg I.impl_Field_cut_1 [.int .i64 i, .int .i64 k, p, q, s].toArray H K := by
 unfold cutG at hk
 have hs' := hs
 have lE := Le.refl H
 have hp := hp0
 have hq := hq0
 have hsx := hs0
 have hvc := hvc0
 refine R.impl_Field_cut_1 ?_
 unfold F.impl_Field_cut_1
 have x1 := ix_lt (a := row + i) (b := col + k) (r := r) (c := c) (by omega) (by omega) (by omega) (by omega)
 have m := sidesF_mul hs
 have q1 := hs.1
 have q2 := hs.2
 refine ob_i (hp.ldn rfl) ?_
 refine ob_i (hq.ld0 rfl) ?_
 refine ob_i (vInt_add (by omega) (by omega)) ?_
 refine ob_i (hsx.ld0 rfl) ?_
 refine ob_i (vInt_add (by omega) (by omega)) ?_
 refine C.impl_Field_at hvc (by omega) (by omega) (by omega) (by omega) (by omega) (fun H1 le2 => ?_)
 replace lE := lE.trans le2
 rw [show (row + i) * c + (col + k) = (row + i) * c + col + k by omega]
 exact hk _ lE
theorem C.impl_Field_cut {vc : Value} {r c row col rows cols : Int} {l : List Int} {H : Hp} {K : Value → Hp → Prop} (hvc0 : Sl eI H vc l) (hs : sidesF r c) (hl : (l.length : Int) = r * c)
    (h0 : 0 ≤ row) (h1 : 0 ≤ col) (h2 : 1 ≤ rows) (h3 : 1 ≤ cols) (h4 : row + rows ≤ r) (h5 : col + cols ≤ c) (hk : ∀ u H', Own eI H' u (mkL cols (cutG c l row col) (rows.toNat * cols.toNat)) → Nw H u → Le H H' → K (.agg #[.int .i64 rows, .int .i64 cols, u]) H') :
    HT prg I.impl_Field_cut [.agg #[.int .i64 r, .int .i64 c, vc], .int .i64 row, .int .i64 col, .int .i64 rows, .int .i64 cols].toArray H K := by
 have lE := Le.refl H
 have hvc := hvc0
 refine R.impl_Field_cut ?_
 unfold F.impl_Field_cut
 have q1 := hs.1
 have q2 := hs.2
 refine nw_i (fun p1 H2 op1 nn3 le4 => ?_)
 replace hvc := hvc.le le4
 replace lE := lE.trans le4
 replace op1 : Cel H2 p1 [(.int .i64 (r)), (.int .i64 (c)), vc] := op1
 refine nw_i (fun p5 H6 op5 nn7 le8 => ?_)
 replace op1 := op1.le le8
 replace hvc := hvc.le le8
 replace lE := lE.trans le8
 replace op5 : Cel H6 p5 [(.int .i64 (row))] := op5
 refine nw_i (fun p9 H10 op9 nn11 le12 => ?_)
 replace op1 := op1.le le12
 replace op5 := op5.le le12
 replace hvc := hvc.le le12
 replace lE := lE.trans le12
 replace op9 : Cel H10 p9 [(.int .i64 (col))] := op9
 refine nw_i (fun p13 H14 op13 nn15 le16 => ?_)
 have np13 : Nw H p13 := nn15.le lE
 replace op1 := op1.le le16
 replace op5 := op5.le le16
 replace op9 := op9.le le16
 replace hvc := hvc.le le16
 replace lE := lE.trans le16
 replace op13 : Cel H14 p13 [(.int .i64 (0)), (.int .i64 (0)), (.slice none 0 0)] := op13
 refine C.impl_madeField (g := cutG c l row col) (by omega) (by omega) (by omega) (by omega) (fun H' i k Z le hi hk' hZ => ?_) (fun u17 H18 ou17 nn19 le20 => ?_)
 ·refine ⟨by kernel_rfl, ?_⟩
  exact C.impl_Field_cut_1 (op1.le le) (op5.le le) (op9.le le) (hvc.le le) hs hl (by omega) (by omega) (by omega) (by omega) hZ
 have ap13Xu17 : Apart p13 u17 := op13.apart nn19
 have nu17 : Nw H u17 := nn19.le lE
 replace op13 := op13.le le20
 replace hvc := hvc.le le20
 replace lE := lE.trans le20
 refine op13.stn (ws := [(.int .i64 (rows)), (.int .i64 (cols)), u17]) rfl rfl (oc1 rfl (oc1 rfl (oc1 ou17.one oc0))) (fun H21 op13 off22 => ?_)
 replace ou17 := ou17.off off22 ap13Xu17.symm
 replace hvc := hvc0.le (off22.le lE np13)
 replace lE := off22.le lE np13
 replace op13 : Cel H21 p13 [(.int .i64 (rows)), (.int .i64 (cols)), u17] := op13
 refine ob_i (op13.ldn rfl) ?_
 exact hk u17 _ ou17 nu17 lE
theorem C.impl_Field_trimmed {vc : Value} {r c : Int} {l : List Int} {H : Hp} {K : Value → Hp → Prop} (hvc0 : Sl eI H vc l) (hs : sidesF r c) (hl : (l.length : Int) = r * c)
    (hk1 : (trm r c l).2.1 < 0 → ∀ H', Le H H' → K (.tuple #[.agg #[.int .i64 0, .int .i64 0, .slice none 0 0], .int .i64 0, .int .i64 0, .bool false]) H')
    (hk2 : 0 ≤ (trm r c l).2.1 → ∀ u H', Own eI H' u (trL r c l) → Nw H u → Le H H' → K (.tuple #[.agg #[.int .i64 (trR r c l), .int .i64 (trC r c l), u], .int .i64 (trm r c l).1, .int .i64 (trm r c l).2.2.1, .bool true]) H') :
    HT prg I.impl_Field_trimmed [.agg #[.int .i64 r, .int .i64 c, vc]].toArray H K := by
 have q1 := hs.1
 have q2 := hs.2
 have m := sidesF_mul hs
 change (trS r c l (r * c).toNat).2.1 < 0 → _ at hk1
 change 0 ≤ (trS r c l (r * c).toNat).2.1 → _ at hk2
 have lE := Le.refl H
 have hvc := hvc0
 refine R.impl_Field_trimmed ?_
 unfold F.impl_Field_trimmed
 refine nw_i (fun p H1 op nn2 le3 => ?_)
 replace hvc := hvc.le le3
 replace lE := lE.trans le3
 replace op : Cel H1 p [(.int .i64 (r)), (.int .i64 (c)), vc] := op
 refine nw_i (fun q H4 oq nn5 le6 => ?_)
 have nq : Nw H q := nn5.le lE
 replace op := op.le le6
 replace hvc := hvc.le le6
 replace lE := lE.trans le6
 replace oq : Cel H4 q [(.int .i64 (0)), (.int .i64 (0)), (.slice none 0 0)] := oq
 refine ob_i (op.fa 0) ?_
 refine ob_i (op.ld 0 rfl) ?_
 refine ob_i (op.fa 1) ?_
 refine ob_i (op.ld 1 rfl) ?_
 refine jn_i (fun σ' H' => σ' 1 = p ∧ σ' 2 = q ∧ σ' 6 = (.int .i64 ((trS r c l ((r * c).toNat)).1)) ∧ σ' 7 = (.int .i64 ((trS r c l ((r * c).toNat)).2.2.1)) ∧ σ' 8 = (.int .i64 ((trS r c l ((r * c).toNat)).2.1)) ∧ σ' 9 = (.int .i64 ((trS r c l ((r * c).toNat)).2.2.2)) ∧ Cel H' p [(.int .i64 (r)), (.int .i64 (c)), vc] ∧ Cel H' q [(.int .i64 (0)), (.int .i64 (0)), (.slice none 0 0)] ∧ Le H H') (fun σ7 H7 hP => ?_) (fun J7 hJ7 => ?_)
 ·skip
  obtain ⟨g1L7, g2L7, g6L7, g7L7, g8L7, g9L7, op, oq, lE⟩ := hP
  have hvc := hvc0.le lE
  simp only [g1L7, g2L7, g6L7, g7L7, g8L7, g9L7]
  have b := trS_bnd (l := l) hs (r * c).toNat (by omega)
  have b2 := trS_ok (l := l) hs (r * c).toNat (by omega)
  refine ob_i (vInt_lss _ _ _) ?_
  refine cnd_d (fun hg8 => ?_) (fun hg8 => ?_)
  ·skip
   refine ob_i (a := (.agg #[(.int .i64 (0)), (.int .i64 (0)), (.slice none 0 0)])) (by rfl) ?_
   refine oq.stn (ws := [(.int .i64 (0)), (.int .i64 (0)), (.slice none 0 0)]) rfl rfl (oc1 rfl (oc1 rfl (oc1 rfl oc0))) (fun H9 oq off10 => ?_)
   replace hvc := hvc0.le (off10.le lE nq)
   replace lE := off10.le lE nq
   replace oq : Cel H9 q [(.int .i64 (0)), (.int .i64 (0)), (.slice none 0 0)] := oq
   refine ob_i (oq.ldn rfl) ?_
   exact hk1 (by omega) _ lE
  ·skip
   refine ob_i (op.ldn rfl) ?_
   refine ob_i (vInt_sub (by omega) (by omega)) ?_
   refine ob_i (vInt_add (by omega) (by omega)) ?_
   refine ob_i (vInt_sub (by omega) (by omega)) ?_
   refine ob_i (vInt_add (by omega) (by omega)) ?_
   refine C.impl_Field_cut hvc hs hl (by omega) (by omega) (by omega) (by omega) (by omega) (by omega) (fun u13 H11 ou13 nn14  le12 => ?_)
   have aqXu13 : Apart q u13 := oq.apart nn14
   have nu13 : Nw H u13 := nn14.le lE
   replace oq := oq.le le12
   replace hvc := hvc.le le12
   replace lE := lE.trans le12
   refine oq.stn (ws := [(.int .i64 ((((trS r c l ((r * c).toNat)).2.1) - ((trS r c l ((r * c).toNat)).1)) + 1)), (.int .i64 ((((trS r c l ((r * c).toNat)).2.2.2) - ((trS r c l ((r * c).toNat)).2.2.1)) + 1)), u13]) rfl rfl (oc1 rfl (oc1 rfl (oc1 ou13.one oc0))) (fun H15 oq off16 => ?_)
   replace ou13 := ou13.off off16 aqXu13.symm
   replace hvc := hvc0.le (off16.le lE nq)
   replace lE := off16.le lE nq
   replace oq : Cel H15 q [(.int .i64 ((((trS r c l ((r * c).toNat)).2.1) - ((trS r c l ((r * c).toNat)).1)) + 1)), (.int .i64 ((((trS r c l ((r * c).toNat)).2.2.2) - ((trS r c l ((r * c).toNat)).2.2.1)) + 1)), u13] := oq
   refine ob_i (oq.ldn rfl) ?_
   exact hk2 (by omega) u13 _ ou13 nu13 lE
 refine ob_i (op.fa 2) ?_
 refine ob_i (op.ld 2 rfl) ?_
 refine ob_i (hvc.len) ?_
 refine ⟨fun n' σ' H' => ∃ t : Nat, n' = l.length - t ∧ t ≤ l.length ∧ σ' 1 = p ∧ σ' 2 = q ∧ σ' 6 = (.int .i64 ((trS r c l (t)).1)) ∧ σ' 7 = (.int .i64 ((trS r c l (t)).2.2.1)) ∧ σ' 8 = (.int .i64 ((trS r c l (t)).2.1)) ∧ σ' 9 = (.int .i64 ((trS r c l (t)).2.2.2)) ∧ σ' 19 = vc ∧ σ' 20 = (.int .i64 (((l).length : Int))) ∧ σ' 21 = (.int .i64 ((t : Int))) ∧ Cel H' p [(.int .i64 (r)), (.int .i64 (c)), vc] ∧ Cel H' q [(.int .i64 (0)), (.int .i64 (0)), (.slice none 0 0)] ∧ Le H H',
  ⟨_, 0, rfl, by omega, rfl, rfl, rfl, rfl, rfl, rfl, rfl, rfl, rfl, op, oq, lE⟩, ?_⟩
 rintro n17 σ17 H17 ⟨t, rfl, htN, g1L17, g2L17, g6L17, g7L17, g8L17, g9L17, g19L17, g20L17, g21L17, op, oq, lE⟩
 have hvc := hvc0.le lE
 simp only [g1L17, g2L17, g6L17, g7L17, g8L17, g9L17, g19L17, g20L17, g21L17]
 refine ob_i (vInt_lss _ _ _) ?_
 refine cnd_d (fun hg18 => ?_) (fun hg18 => ?_)
 ·skip
  have tt := hg18
  refine ob_i (hvc.ix (by omega) (by omega)) ?_
  refine ob_i (hvc.ld 0 (by omega) (by omega)) ?_
  refine ob_i (vInt_eql _ _ _) ?_
  refine cnd_d (fun hg19 => ?_) (fun hg19 => ?_)
  ·skip
   refine ob_i (op.fa 1) ?_
   refine ob_i (op.ld 1 rfl) ?_
   refine ob_i (vInt_quoN (by omega) (by omega) (by omega)) ?_
   refine ob_i (op.fa 1) ?_
   refine ob_i (op.ld 1 rfl) ?_
   refine ob_i (vInt_remN (by omega) (by omega)) ?_
   refine ob_i (vMx_min _ _ _) ?_
   refine ob_i (vMx_min _ _ _) ?_
   refine ob_i (vMx_max _ _ _) ?_
   refine ob_i (vMx_max _ _ _) ?_
   refine ob_i (vInt_add (by omega) (by omega)) ?_
   have eT := trS_t (r := r) (c := c) hg19
   exact nxt (l.length - (t + 1)) (by omega) ⟨t + 1, rfl, by omega, g1L17, g2L17, (by rw [eT]; rfl), (by rw [eT]; rfl), (by rw [eT]; rfl), (by rw [eT]; rfl), g19L17, g20L17, rfl, op, oq, lE⟩
  ·skip
   refine ob_i (vInt_add (by omega) (by omega)) ?_
   have eT := trS_f (r := r) (c := c) hg19
   exact nxt (l.length - (t + 1)) (by omega) ⟨t + 1, rfl, by omega, g1L17, g2L17, (by rw [eT]; exact g6L17), (by rw [eT]; exact g7L17), (by rw [eT]; exact g8L17), (by rw [eT]; exact g9L17), g19L17, g20L17, rfl, op, oq, lE⟩
 ·skip
  have tt := hg18
  exact hJ7 _ _ ⟨g1L17, g2L17, (by rw [← show t = (r * c).toNat by omega]; exact g6L17), (by rw [← show t = (r * c).toNat by omega]; exact g7L17), (by rw [← show t = (r * c).toNat by omega]; exact g8L17), (by rw [← show t = (r * c).toNat by omega]; exact g9L17), op, oq, lE⟩
end Go.Proofs.YtffmfkpobjdmmaaGreatDoor
/- Rules for contracts that are told once. -/
namespace Go.Proofs.YtffmfkpobjdmmaaGreatDoor.HL
theorem keq {K : Value → Hp → Prop} {v v' : Value} {H : Hp} (e : v = v') (h : K v' H) : K v H := e ▸ h
theorem Own.cast {α : Type} {enc : α → Value} {H : Hp} {v : Value} {l l' : List α} (e : l = l') (h : Own enc H v l) : Own enc H v l' := e ▸ h
theorem Sl.cast {α : Type} {enc : α → Value} {H : Hp} {v : Value} {l l' : List α} (e : l = l') (h : Sl enc H v l) : Sl enc H v l' := e ▸ h
/-- A slice that reads so, and whose block is known. -/
def Ro {α : Type} (enc : α → Value) (H : Hp) (v : Value) (l : List α) : Prop := Sl enc H v l ∧ ∀ b, bk v = some b → ∃ o, H b = some o
section
variable {α : Type} {enc : α → Value} {H H' : Hp} {u v : Value} {l l' : List α}
theorem Ro.sl (h : Ro enc H v l) : Sl enc H v l := h.1
theorem Ro.known (h : Ro enc H v l) : ∀ b, bk v = some b → ∃ o, H b = some o := h.2
theorem Ro.le (h : Ro enc H v l) (hl : Le H H') : Ro enc H' v l := ⟨h.1.le hl, fun b hb => by obtain ⟨o, ho⟩ := h.2 b hb; exact ⟨o, hl b o ho⟩⟩
theorem Sl.off (h : Sl enc H u l) (ho : Off v H H') (ha : Apart u v) : Sl enc H' u l := by
  obtain ⟨a, c, rfl, hc, hr⟩ := h
  refine ⟨a, c, rfl, hc, fun i hi => ?_⟩
  obtain ⟨ad, rfl, hh⟩ := hr i hi
  refine ⟨ad, rfl, ?_⟩
  have hb : (ad.add i).block = ad.block := by unfold Addr.add; split <;> rfl
  have hne : bk v ≠ some ad.block := ha ad.block (by simp only [bk]; rw [if_neg (by omega)])
  unfold Hp.cell? at hh ⊢
  rw [hb] at hh ⊢
  cases hc' : H ad.block with
  | none => simp [hc'] at hh
  | some o => rw [ho _ _ hc' hne]; rw [hc'] at hh; exact hh
theorem Ro.off (h : Ro enc H u l) (ho : Off v H H') (ha : Apart u v) : Ro enc H' u l := ⟨h.1.off ho ha, fun b hb => by obtain ⟨o, hh⟩ := h.2 b hb; exact ⟨o, ho b o hh (ha b hb)⟩⟩
theorem Ro.apart (h : Ro enc H u l) (hn : Nw H v) : Apart u v := Apart.of_nw h.2 hn
theorem Ro.cast (e : l = l') (h : Ro enc H v l) : Ro enc H v l' := e ▸ h
theorem Ro.len (h : Ro enc H v l) : vLenSl v = some (.int .i64 l.length) := h.1.len
theorem Ro.one (h : Ro enc H v l) : oneCell v = true := h.1.one
theorem Ro.cells (h : Ro enc H v l) : v.cells = #[v] := h.1.cells
theorem Ro.isSl (h : Ro enc H v l) : ∃ a n c, v = .slice a n c := h.1.isSl
theorem Own.ro (h : Own enc H v l) : Ro enc H v l := ⟨h.sl, h.known⟩
end
theorem gop_u {b : Bool} {F : (Value → Hp → Prop) → Prop} {H : Hp} {K : Value → Hp → Prop} (h : K undef H) : gop undef b F H K := h
theorem vUn_ngK {a : Int} (h : -9223372036854775808 ≤ -a) (h' : -a < 9223372036854775808) : vUn .neg (.int .i64 a) = some (.int .i64 (-a)) := by
  simp only [vUn, Int.zero_sub, wrap64 h h']
theorem gop_e {b c g : Bool} {F : (Value → Hp → Prop) → Prop} {H : Hp} {K : Value → Hp → Prop} (e : b = c) (h : gop (.bool c) g F H K) : gop (.bool b) g F H K := by rw [e]; exact h
theorem vPick_et {b : Bool} (e : b = true) (x y : Value) : vPick (.bool b) x y = some x := by rw [e]; rfl
theorem vPick_ef {b : Bool} (e : b = false) (x y : Value) : vPick (.bool b) x y = some y := by rw [e]; rfl
/-- A list, or none where something does not hold. -/
def selL {α : Type} (p : Prop) [Decidable p] (l : List α) : List α := if p then l else []
theorem selL_t {α : Type} {p : Prop} [Decidable p] {l : List α} (h : p) : selL p l = l := if_pos h
theorem selL_f {α : Type} {p : Prop} [Decidable p] {l : List α} (h : ¬ p) : selL p l = [] := if_neg h
theorem selL_len {α : Type} {p : Prop} [Decidable p] {l : List α} {n : Nat} (h : p → l.length ≤ n) : (selL p l).length ≤ n := by
  unfold selL
  split
  · rename_i hp; exact h hp
  · simp
end Go.Proofs.YtffmfkpobjdmmaaGreatDoor.HL
/- Life on fields: what a step and many steps come to. -/
namespace Go.Proofs.YtffmfkpobjdmmaaGreatDoor
open HL
set_option maxRecDepth 100000
/-- Numbers that rise, the first n of them. -/
def cntU (l : List Int) (n : Nat) : Prop := ∀ j : Nat, j < n → 0 < j → at_ 0 l ((j : Int) - 1) < at_ 0 l (j : Int)
def cntV (l : List Int) (n : Nat) : Prop := ∀ j : Nat, j < n → 0 ≤ at_ 0 l (j : Int) ∧ at_ 0 l (j : Int) ≤ 8
/-- Counts of neighbours. -/
def cntP (l : List Int) : Prop := (∀ x ∈ l, 0 ≤ x ∧ x ≤ 8) ∧ cntU l l.length
instance (l : List Int) (n : Nat) : Decidable (cntU l n) := by unfold cntU; infer_instance
instance (l : List Int) : Decidable (cntP l) := by unfold cntP; infer_instance
theorem cntU_zero (l : List Int) : cntU l 0 := fun j h => by omega
theorem cntU_one (l : List Int) : cntU l 1 := fun j h h0 => by omega
theorem cntV_zero (l : List Int) : cntV l 0 := fun j h => by omega
theorem cntU_succ {l : List Int} {n : Nat} (h : cntU l n) (h1 : 0 < n → at_ 0 l ((n : Int) - 1) < at_ 0 l (n : Int)) : cntU l (n + 1) := fun j hj h0 => by
  by_cases e : j = n
  · subst e; exact h1 h0
  · exact h j (by omega) h0
theorem cntV_succ {l : List Int} {n : Nat} (h : cntV l n) (h1 : 0 ≤ at_ 0 l (n : Int) ∧ at_ 0 l (n : Int) ≤ 8) : cntV l (n + 1) := fun j hj => by
  by_cases e : j = n
  · subst e; exact h1
  · exact h j (by omega)
theorem cntV_all {l : List Int} {n : Nat} (h : cntV l n) (hn : l.length ≤ n) : ∀ x ∈ l, 0 ≤ x ∧ x ≤ 8 := fun x hx => by
  obtain ⟨j, hj, rfl⟩ := List.mem_iff_getElem.mp hx
  have := h j (by omega)
  rw [at_eq 0 l hj] at this
  exact this
theorem cntP_in {l : List Int} (h : cntP l) {j : Nat} (hj : j < l.length) : 0 ≤ at_ 0 l (j : Int) ∧ at_ 0 l (j : Int) ≤ 8 := h.1 _ (at_mem 0 l (by omega) (by omega))
theorem cntP_up {l : List Int} (h : cntP l) {j : Nat} (hj : j < l.length) (h0 : 0 < j) : at_ 0 l ((j : Int) - 1) < at_ 0 l (j : Int) := h.2 j hj h0
theorem cntU_full {l : List Int} {n : Nat} (h : cntU l n) (hn : l.length ≤ n) : cntU l l.length := fun j hj h0 => h j (by omega) h0
/-- Is a life valid? -/
def lifP (b s : List Int) : Prop := cntP b ∧ cntP s
instance (b s : List Int) : Decidable (lifP b s) := by unfold lifP; infer_instance
/-- Can a field live? -/
def canP (b s : List Int) (r c : Int) (l : List Int) : Prop := lifP b s ∧ fieldN 1 r c l
instance (b s : List Int) (r c : Int) (l : List Int) : Decidable (canP b s r c l) := by unfold canP; infer_instance
def sumF (f : Int → Int) : Nat → Int
  | 0 => 0
  | n + 1 => sumF f n + f n
theorem sumF_zero (f : Int → Int) : sumF f 0 = 0 := rfl
theorem sumF_succ (f : Int → Int) (n : Nat) : sumF f (n + 1) = sumF f n + f n := rfl
theorem sumF_3 (f : Int → Int) : sumF f 3 = f 0 + f 1 + f 2 := by
  show 0 + f ((0 : Nat) : Int) + f ((1 : Nat) : Int) + f ((2 : Nat) : Int) = _
  simp
theorem sumF_bnd {f : Int → Int} {a b : Int} (h : ∀ i, a ≤ f i ∧ f i ≤ b) : ∀ n : Nat, (n : Int) * a ≤ sumF f n ∧ sumF f n ≤ (n : Int) * b
  | 0 => by simp [sumF]
  | n + 1 => by
    have h1 := sumF_bnd h n
    have h2 := h n
    simp only [sumF, Int.natCast_add, Int.add_mul]
    omega
/-- A cell, round and round, or 0 beyond the border. -/
def lkF (rnd : Bool) (r c : Int) (l : List Int) (i k : Int) : Int := if rnd then at_ 0 l (roundF r c i k) else flatF r c l i k
/-- The same, but 0 for one cell. -/
def skF (rnd : Bool) (r c : Int) (l : List Int) (i k a b : Int) : Int := if a = i ∧ b = k then 0 else lkF rnd r c l a b
/-- The neighbours of a cell that are 1. -/
def arF (rnd : Bool) (r c : Int) (l : List Int) (i k : Int) : Int := sumF (fun a => sumF (fun b => skF rnd r c l i k (i - 1 + a) (k - 1 + b)) 3) 3
theorem roundF_in {r c i k : Int} (h1 : 0 ≤ i) (h2 : i < r) (h3 : 0 ≤ k) (h4 : k < c) : roundF r c i k = i * c + k := by
  unfold roundF
  rw [Int.emod_eq_of_lt h1 h2, Int.emod_eq_of_lt h3 h4]
theorem lkF_in {rnd : Bool} {r c i k : Int} {l : List Int} (h1 : 0 ≤ i) (h2 : i < r) (h3 : 0 ≤ k) (h4 : k < c) : lkF rnd r c l i k = at_ 0 l (i * c + k) := by
  unfold lkF
  rw [roundF_in h1 h2 h3 h4]
  split
  · rfl
  · unfold flatF; rw [if_pos (by omega)]
theorem lkF_01 {rnd : Bool} {r c : Int} {l : List Int} (h : fieldN 1 r c l) (i k : Int) : 0 ≤ lkF rnd r c l i k ∧ lkF rnd r c l i k ≤ 1 := by
  unfold lkF
  split
  · have b := roundF_lt (i := i) (k := k) h.1
    exact fieldN_at h (by omega) (by omega)
  · unfold flatF
    split
    · rename_i h1
      have b := ix_lt (a := i) (b := k) (r := r) (c := c) (by omega) (by omega) (by omega) (by omega)
      exact fieldN_at h (by omega) (by omega)
    · omega
theorem skF_01 {rnd : Bool} {r c : Int} {l : List Int} (h : fieldN 1 r c l) (i k a b : Int) : 0 ≤ skF rnd r c l i k a b ∧ skF rnd r c l i k a b ≤ 1 := by
  unfold skF
  split
  · omega
  · exact lkF_01 h a b
theorem skF_eq {rnd : Bool} {r c : Int} {l : List Int} {i k a b : Int} : skF rnd r c l i k a b = if a = i ∧ b = k then 0 else if rnd = true ∨ ((0 ≤ a ∧ a ≤ r - 1) ∧ 0 ≤ b ∧ b ≤ c - 1) then at_ 0 l (roundF r c a b) else 0 := by
  unfold skF lkF flatF
  split
  · rfl
  · cases rnd with
    | true => simp
    | false =>
      simp only [Bool.false_eq_true, if_false, false_or]
      split
      · rename_i h; rw [roundF_in (by omega) (by omega) (by omega) (by omega)]
      · rfl
theorem arF_eq {rnd : Bool} {r c : Int} {l : List Int} {i k : Int} (h1 : 0 ≤ i) (h2 : i < r) (h3 : 0 ≤ k) (h4 : k < c) :
    -at_ 0 l (i * c + k) + sumF (fun a => sumF (fun b => lkF rnd r c l (i - 1 + a) (k - 1 + b)) 3) 3 = arF rnd r c l i k := by
  have e := lkF_in (rnd := rnd) (l := l) h1 h2 h3 h4
  unfold arF
  simp only [sumF_3, skF]
  rw [if_neg (by omega), if_neg (by omega), if_neg (by omega), if_neg (by omega), if_pos (by omega), if_neg (by omega), if_neg (by omega), if_neg (by omega), if_neg (by omega)]
  rw [show i - 1 + 1 = i by omega, show k - 1 + 1 = k by omega, e]
  omega
/-- What a cell becomes. -/
def nxG (rnd : Bool) (b s : List Int) (r c : Int) (l : List Int) (i k : Int) : Int :=
  if at_ 0 l (i * c + k) = 0 then (if arF rnd r c l i k ∈ b then 1 else 0) else (if arF rnd r c l i k ∈ s then 1 else 0)
section
variable {rnd : Bool} {b s : List Int} {r c i k : Int} {l : List Int}
theorem nx_b1 (h : at_ 0 l (i * c + k) = 0) (h2 : arF rnd r c l i k ∈ b) : nxG rnd b s r c l i k = 1 := by unfold nxG; rw [if_pos h, if_pos h2]
theorem nx_b0 (h : at_ 0 l (i * c + k) = 0) (h2 : arF rnd r c l i k ∉ b) : nxG rnd b s r c l i k = 0 := by unfold nxG; rw [if_pos h, if_neg h2]
theorem nx_s1 (h : at_ 0 l (i * c + k) = 1) (h2 : arF rnd r c l i k ∈ s) : nxG rnd b s r c l i k = 1 := by unfold nxG; rw [if_neg (by omega), if_pos h2]
theorem nx_s0 (h : at_ 0 l (i * c + k) = 1) (h2 : arF rnd r c l i k ∉ s) : nxG rnd b s r c l i k = 0 := by unfold nxG; rw [if_neg (by omega), if_neg h2]
end
/-- The next field. -/
def nxL (rnd : Bool) (b s : List Int) (r c : Int) (l : List Int) : List Int := mkL c (nxG rnd b s r c l) (r.toNat * c.toNat)
theorem nxG_01 (rnd : Bool) (b s : List Int) (r c : Int) (l : List Int) (i k : Int) : 0 ≤ nxG rnd b s r c l i k ∧ nxG rnd b s r c l i k ≤ 1 := by
  unfold nxG
  split <;> split <;> omega
theorem mkL_len' {c : Int} {g : Int → Int → Int} {rr cc : Int} (h1 : 0 ≤ rr) (h2 : 0 ≤ cc) : ((mkL c g (rr.toNat * cc.toNat)).length : Int) = rr * cc := by
  rw [mkL_length, Int.natCast_mul, Int.toNat_of_nonneg h1, Int.toNat_of_nonneg h2]
theorem mkL_field {n r c : Int} {g : Int → Int → Int} (h : sidesF r c) (hg : ∀ i k, 0 ≤ g i k ∧ g i k ≤ n) : fieldN n r c (mkL c g (r.toNat * c.toNat)) := by
  have q1 := h.1
  have q2 := h.2
  refine ⟨h, mkL_len' (by omega) (by omega), fun x hx => ?_⟩
  simp only [mkL, List.mem_map] at hx
  obtain ⟨j, _, rfl⟩ := hx
  exact hg _ _
theorem nxL_field {rnd : Bool} {b s : List Int} {r c : Int} {l : List Int} (h : sidesF r c) : fieldN 1 r c (nxL rnd b s r c l) := mkL_field h (nxG_01 rnd b s r c l)
/-- The field behind steps. -/
def rnL (rnd : Bool) (b s : List Int) (r c : Int) (l : List Int) : Nat → List Int
  | 0 => l
  | n + 1 => nxL rnd b s r c (rnL rnd b s r c l n)
theorem rnL_field {rnd : Bool} {b s : List Int} {r c : Int} {l : List Int} (h : fieldN 1 r c l) : ∀ n, fieldN 1 r c (rnL rnd b s r c l n)
  | 0 => h
  | _ + 1 => nxL_field h.1
theorem fillL_skip {c : Int} {g : Int → Int → Int} {N : Nat} {i k : Int} {t : Nat} (hc : 0 < c) (k0 : 0 ≤ k) (k1 : k < c) (ht : (t : Int) = i * c + k) (h : g i k = 0) : fillL c g N t = fillL c g N (t + 1) := by
  have hd := divmod (c := c) (i := i) (k := k) hc k0 k1
  unfold fillL
  apply List.map_congr_left
  intro j _
  by_cases e : j = t
  · subst e
    rw [if_neg (by omega), if_pos (by omega), ht, hd.1, hd.2, h]
  · by_cases h1 : j < t
    · rw [if_pos h1, if_pos (by omega)]
    · rw [if_neg h1, if_neg (by omega)]
theorem notin_succ {x : Int} {l : List Int} {i : Nat} (h : x ∉ l.take i) (hi : i < l.length) (hne : ¬ at_ 0 l (i : Int) = x) : x ∉ l.take (i + 1) := by
  rw [take_at 0 l hi]
  intro hh
  rcases List.mem_append.mp hh with hh | hh
  · exact h hh
  · simp only [List.mem_singleton] at hh; exact hne hh.symm
/-- Where a number stands first, or -1. -/
def idxL (x : Int) (l : List Int) : Int := if x ∈ l then (l.findIdx (· == x) : Nat) else -1
theorem idxL_not {x : Int} {l : List Int} (h : x ∉ l) : idxL x l = -1 := if_neg h
theorem idxL_mem {x : Int} {l : List Int} : 0 ≤ idxL x l ↔ x ∈ l := by
  unfold idxL
  split
  · rename_i h; simp [h]
  · rename_i h; simp [h]
theorem idxL_at {x : Int} {l : List Int} {i : Nat} (h : x ∉ l.take i) (hi : i < l.length) (he : at_ 0 l (i : Int) = x) : idxL x l = (i : Int) := by
  rw [at_eq 0 l hi] at he
  unfold idxL
  rw [if_pos (he ▸ List.getElem_mem hi)]
  congr 1
  rw [List.findIdx_eq hi]
  refine ⟨by simp [he], fun j hj => ?_⟩
  simp only [beq_eq_false_iff_ne, ne_eq]
  intro hh
  exact h (List.mem_iff_getElem.mpr ⟨j, by simp; omega, by simp [hh]⟩)
/-- How many cells have a state. -/
def cntE (v : Int) (l : List Int) : Int := l.countP (· == v)
end Go.Proofs.YtffmfkpobjdmmaaGreatDoor
/- What is found first; counts ahead; shifted fields. -/
namespace Go.Proofs.YtffmfkpobjdmmaaGreatDoor
open HL
/-- The first number below N of which something holds, or -1. -/
def fstN (p : Nat → Prop) [DecidablePred p] : Nat → Int
  | 0 => -1
  | n + 1 => if 0 ≤ fstN p n then fstN p n else if p n then (n : Int) else -1
/-- A shifted field. -/
def shG (r c : Int) (l : List Int) (a b i k : Int) : Int := at_ 0 l (roundF r c (i - a) (k - b))
def shL (r c : Int) (l : List Int) (a b : Int) : List Int := mkL c (shG r c l a b) (r.toNat * c.toNat)
/-- A place of a shift: steps, rows and columns in one number. -/
def mvP (b s : List Int) (r c : Int) (l : List Int) (t : Nat) : Prop :=
  cntE 1 (rnL true b s r c l (t / c.toNat / r.toNat + 1)) = cntE 1 l ∧ rnL true b s r c l (t / c.toNat / r.toNat + 1) = shL r c l ((t / c.toNat % r.toNat : Nat) : Int) ((t % c.toNat : Nat) : Int)
instance (b s : List Int) (r c : Int) (l : List Int) : DecidablePred (mvP b s r c l) := fun t => by unfold mvP; infer_instance
/-- Where a field is shifted first, steps, rows and columns in one number. -/
def mvF (b s : List Int) (r c : Int) (l : List Int) (st : Int) : Int := fstN (mvP b s r c l) (st.toNat * r.toNat * c.toNat)
def mvOk (b s : List Int) (r c : Int) (l : List Int) (st : Int) : Prop := canP b s r c l ∧ (1 ≤ st ∧ st ≤ 512) ∧ 0 ≤ mvF b s r c l st
instance (b s : List Int) (r c : Int) (l : List Int) (st : Int) : Decidable (mvOk b s r c l st) := by unfold mvOk; infer_instance
section
variable {b s : List Int} {r c st : Int} {l : List Int} {n i k : Nat}
end
/-- A plain square of 4, 8 or 16 rows. -/
def sqP (r c : Int) (l : List Int) : Prop := fieldN 1 r c l ∧ r = c ∧ (r = 4 ∨ r = 8 ∨ r = 16)
instance (r c : Int) (l : List Int) : Decidable (sqP r c l) := by unfold sqP; infer_instance
def inP (b s : List Int) (r c : Int) (l : List Int) : Prop := lifP b s ∧ sqP r c l
instance (b s : List Int) (r c : Int) (l : List Int) : Decidable (inP b s r c l) := by unfold inP; infer_instance
end Go.Proofs.YtffmfkpobjdmmaaGreatDoor
/- Digits of numbers, and all plain fields of few cells. -/
namespace Go.Proofs.YtffmfkpobjdmmaaGreatDoor
open HL
theorem HL.Cel.cast {H : Hp} {p : Value} {cs cs' : List Value} (e : cs = cs') (h : Cel H p cs) : Cel H p cs' := e ▸ h
/-- A power of 2. -/
def pw (n : Int) : Nat := 2 ^ n.toNat
/-- The digits of a number, the greatest one first; and the last t of them. -/
def dgL (b x : Int) (N : Nat) : List Int := (List.range N).map fun j => x / b ^ (N - 1 - j) % b
/-- Few cells. -/
def smP (r c : Int) : Prop := sidesF r c ∧ r * c ≤ 12
instance (r c : Int) : Decidable (smP r c) := by unfold smP; infer_instance
def stillP (b s : List Int) (r c : Int) (t : Nat) : Prop := nxL false b s r c (dgL 2 t (r * c).toNat) = dgL 2 t (r * c).toNat
instance (b s : List Int) (r c : Int) : DecidablePred (stillP b s r c) := fun t => by unfold stillP; infer_instance
def befP (b s : List Int) (r c : Int) (l : List Int) (t : Nat) : Prop := nxL false b s r c (dgL 2 t (r * c).toNat) = l
instance (b s : List Int) (r c : Int) (l : List Int) : DecidablePred (befP b s r c l) := fun t => by unfold befP; infer_instance
def stlP (b s : List Int) (r c : Int) : Prop := lifP b s ∧ smP r c
instance (b s : List Int) (r c : Int) : Decidable (stlP b s r c) := by unfold stlP; infer_instance
def cbfP (b s : List Int) (r c : Int) (l : List Int) : Prop := canP b s r c l ∧ smP r c
instance (b s : List Int) (r c : Int) (l : List Int) : Decidable (cbfP b s r c l) := by unfold cbfP; infer_instance
/-- The first field that leads to one. -/
def fbF (b s : List Int) (r c : Int) (l : List Int) : Int := fstN (befP b s r c l) (pw (r * c))
def fbP (b s : List Int) (r c : Int) (l : List Int) : Prop := cbfP b s r c l ∧ 0 ≤ fbF b s r c l
instance (b s : List Int) (r c : Int) (l : List Int) : Decidable (fbP b s r c l) := by unfold fbP; infer_instance
end Go.Proofs.YtffmfkpobjdmmaaGreatDoor
