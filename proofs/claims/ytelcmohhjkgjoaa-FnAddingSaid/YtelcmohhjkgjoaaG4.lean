/- Functions' texts over a partial heap. -/
import Derived.Test.YtelcmohhjkgjoaaG0
namespace Go.Proofs.Ytelcmohhjkgjoaa
open HL
set_option linter.unusedVariables false
set_option maxRecDepth 100000
set_option maxHeartbeats 4000000
/-! (loop.example/g01381/impl.Rule).mostCells: function 148 -/
def F.impl_Rule_mostCells (a0 a1 a2 : Value) (H : Hp) (K : Value → Hp → Prop) : Prop :=
  nw (a0 : Value).cells 43 H fun v3x1 H2 =>
  ob (vFa 0 v3x1) fun v7x3 =>
  ob (vLoad v7x3 H2) fun v8x4 =>
  ob (vInt .eql v8x4 (.int .i64 2)) fun v9x5 =>
  cnd v9x5
    (K a1 H2)
    (K a2 H2)
def O.impl_Rule_mostCells : Nat → Nat × List Nat := fun i => (0, [])
theorem R.impl_Rule_mostCells {a0 a1 a2 : Value} {H : Hp} {K : Value → Hp → Prop} (h : F.impl_Rule_mostCells a0 a1 a2 H K) : HT prg I.impl_Rule_mostCells [a0, a1, a2].toArray H K :=
  HT_of_fev O.impl_Rule_mostCells mixed Try.func148 (by kernel_rfl) (Eq.mpr (by kernel_rfl : fev prg O.impl_Rule_mostCells Try.f148 [a0, a1, a2] H K = F.impl_Rule_mostCells a0 a1 a2 H K) h)

/-! slices.Repeat[[]bool,bool]: function 149 -/
def F.slices_Repeat_bool_bool (a0 a1 : Value) (H : Hp) (K : Value → Hp → Prop) : Prop :=
  jn (fun σ1 H1 =>
    ob (vLenSl (σ1 0)) fun v14x2 =>
    ob (vCI .u64 v14x2) fun v15x3 =>
    ob (vCI .u64 (σ1 1)) fun v17x4 =>
    HT prg I.math_bits_Mul [v15x3, v17x4].toArray H1 fun v18x5 H6 =>
    ob (vExt v18x5 0) fun v19x7 =>
    ob (vExt v18x5 1) fun v20x8 =>
    jn (fun σ9 H9 =>
      ob (vCI .i64 (σ9 6)) fun v29x10 =>
      mkS 1 1 #[(.bool false)] 4 v29x10 v29x10 H9 fun v30x11 H12 =>
      hp prg (builtin .copy #[114, 114] 3 #[false, false] [v30x11, (σ9 0)].toArray) H12 (nextH prg (fun v33x13 H14 =>
      jn (fun σ15 H15 =>
        K (σ15 7) H15) fun J15 =>
      lpE (fun Q16 σ16 H16 =>
        ob (vLenSl (σ16 7)) fun v36x17 =>
        ob (vInt .lss (σ16 8) v36x17) fun v37x18 =>
        cnd v37x18
          (ob (vSl3 1 (σ16 7) (some (σ16 8)) none none) fun v41x19 =>
        ob (vSl3 1 (σ16 7) none (some (σ16 8)) none) fun v44x20 =>
        hp prg (builtin .copy #[114, 114] 3 #[false, false] [v41x19, v44x20].toArray) H16 (nextH prg (fun v45x21 H22 =>
        ob (vInt .add (σ16 8) v45x21) fun v46x23 =>
        Q16 .normal (up (up (up (up (up (up (up (up (up (up (up (up (up (up σ16 34 (σ16 8)) 35 (σ16 7)) 36 v36x17) 37 v37x18) 38 (σ16 8)) 39 (σ16 7)) 40 (σ16 8)) 41 v41x19) 42 (σ16 7)) 43 (σ16 8)) 44 v44x20) 45 v45x21) 46 v46x23) 8 v46x23) H22)))
          (Q16 (.exit 0) (up (up (up (up σ16 34 (σ16 8)) 35 (σ16 7)) 36 v36x17) 37 v37x18) H16)) (blkQ 0 (thenQ J15 (retQ prg [(.tmp 4)] K))) (up (up (up (up (up (up (up (up σ9 28 (σ9 6)) 29 v29x10) 30 v30x11) 7 v30x11) 31 v30x11) 32 (σ9 0)) 33 v33x13) 8 v33x13) H14))) fun J9 =>
    ob (vInt .gtr v19x7 (.int .u64 0)) fun v22x24 =>
    gop v22x24 false (fun K25 => K25 v20x8 H6) H6 fun v24x26 H27 =>
    gop v22x24 false (fun K28 => ob (vInt .gtr v24x26 (.int .u64 9223372036854775807)) fun u => K28 u H27) H27 fun v25x29 H30 =>
    ob (vPick v22x24 (.bool true) v25x29) fun v26x31 =>
    cnd v26x31
      (ob (val prg (Instr.makeInterface 9 (.string ⟨#[116, 104, 101, 32, 114, 101, 115, 117, 108, 116, 32, 111, 102, 32, 40, 108, 101, 110, 40, 120, 41, 32, 42, 32, 99, 111, 117, 110, 116, 41, 32, 111, 118, 101, 114, 102, 108, 111, 119, 115]⟩)) H30) fun v27x32 =>
      hp prg (do pure (Next.value (← Instr.panic v27x32))) H30 (nextH prg (fun _ H33 =>
      J9 (up (up (up (up (up (up (up (up (up (up (up (up (up (up (up (up (up (up σ1 13 (σ1 0)) 14 v14x2) 15 v15x3) 16 (σ1 1)) 17 v17x4) 18 v18x5) 12 v18x5) 19 v19x7) 20 v20x8) 5 v19x7) 6 v20x8) 21 v19x7) 22 v22x24) 23 v22x24) 24 v24x26) 25 v25x29) 26 v26x31) 27 v27x32) H33)))
      (J9 (up (up (up (up (up (up (up (up (up (up (up (up (up (up (up (up (up σ1 13 (σ1 0)) 14 v14x2) 15 v15x3) 16 (σ1 1)) 17 v17x4) 18 v18x5) 12 v18x5) 19 v19x7) 20 v20x8) 5 v19x7) 6 v20x8) 21 v19x7) 22 v22x24) 23 v22x24) 24 v24x26) 25 v25x29) 26 v26x31) H30)) fun J1 =>
  ob (vInt .lss a1 (.int .i64 0)) fun v10x34 =>
  cnd v10x34
    (ob (val prg (Instr.makeInterface 9 (.string ⟨#[99, 97, 110, 110, 111, 116, 32, 98, 101, 32, 110, 101, 103, 97, 116, 105, 118, 101]⟩)) H) fun v11x35 =>
    hp prg (do pure (Next.value (← Instr.panic v11x35))) H (nextH prg (fun _ H36 =>
    J1 (up (up (up (up (S0 [a0, a1]) 4 (.slice none 0 0)) 9 a1) 10 v10x34) 11 v11x35) H36)))
    (J1 (up (up (up (S0 [a0, a1]) 4 (.slice none 0 0)) 9 a1) 10 v10x34) H)
def O.slices_Repeat_bool_bool : Nat → Nat × List Nat := fun i => bif Nat.beq i 9 then (0, [0, 1, 2, 3, 4, 5, 6, 7, 8, 9]) else (0, [])
theorem R.slices_Repeat_bool_bool {a0 a1 : Value} {H : Hp} {K : Value → Hp → Prop} (h : F.slices_Repeat_bool_bool a0 a1 H K) : HT prg I.slices_Repeat_bool_bool [a0, a1].toArray H K :=
  HT_of_fev O.slices_Repeat_bool_bool mixed Try.func149 (by kernel_rfl) (Eq.mpr (by kernel_rfl : fev prg O.slices_Repeat_bool_bool Try.f149 [a0, a1] H K = F.slices_Repeat_bool_bool a0 a1 H K) h)

/-! slices.Index[[]bool,bool]: function 187 -/
def F.slices_Index_bool_bool (a0 a1 : Value) (H : Hp) (K : Value → Hp → Prop) : Prop :=
  jn (fun σ1 H1 =>
    K (.int .i64 (-1)) H1) fun J1 =>
  ob (vLenSl a0) fun v7x2 =>
  lpE (fun Q3 σ3 H3 =>
    ob (vInt .lss (σ3 8) (σ3 7)) fun v9x4 =>
    cnd v9x4
      (ob (vIx 1 (σ3 0) (σ3 8)) fun v14x5 =>
    ob (vLoad v14x5 H3) fun v15x6 =>
    ob (vBool .eql (σ3 1) v15x6) fun v16x7 =>
    cnd v16x7
      (Q3 .ret (up (up (up (up (up (up (up (up (up (up (up σ3 9 v9x4) 10 (σ3 8)) 5 (σ3 8)) 11 (σ3 1)) 12 (σ3 0)) 13 (σ3 8)) 14 v14x5) 15 v15x6) 16 v16x7) 17 (σ3 8)) 4 (σ3 8)) H3)
      (ob (vInt .add (σ3 8) (.int .i64 1)) fun v18x8 =>
    Q3 .normal (up (up (up (up (up (up (up (up (up (up (up σ3 9 v9x4) 10 (σ3 8)) 5 (σ3 8)) 11 (σ3 1)) 12 (σ3 0)) 13 (σ3 8)) 14 v14x5) 15 v15x6) 16 v16x7) 18 v18x8) 8 v18x8) H3))
      (Q3 (.exit 0) (up σ3 9 v9x4) H3)) (blkQ 0 (thenQ J1 (retQ prg [(.tmp 4)] K))) (up (up (up (up (S0 [a0, a1]) 4 (.int .i64 0)) 6 a0) 7 v7x2) 8 (.int .i64 0)) H
def O.slices_Index_bool_bool : Nat → Nat × List Nat := fun i => (0, [])
theorem R.slices_Index_bool_bool {a0 a1 : Value} {H : Hp} {K : Value → Hp → Prop} (h : F.slices_Index_bool_bool a0 a1 H K) : HT prg I.slices_Index_bool_bool [a0, a1].toArray H K :=
  HT_of_fev O.slices_Index_bool_bool mixed Try.func187 (by kernel_rfl) (Eq.mpr (by kernel_rfl : fev prg O.slices_Index_bool_bool Try.f187 [a0, a1] H K = F.slices_Index_bool_bool a0 a1 H K) h)

/-! slices.Contains[[]bool,bool]: function 150 -/
def F.slices_Contains_bool_bool (a0 a1 : Value) (H : Hp) (K : Value → Hp → Prop) : Prop :=
  HT prg I.slices_Index_bool_bool [a0, a1].toArray H fun v7x1 H2 =>
  ob (vInt .geq v7x1 (.int .i64 0)) fun v8x3 =>
  K v8x3 H2
def O.slices_Contains_bool_bool : Nat → Nat × List Nat := fun i => (0, [])
theorem R.slices_Contains_bool_bool {a0 a1 : Value} {H : Hp} {K : Value → Hp → Prop} (h : F.slices_Contains_bool_bool a0 a1 H K) : HT prg I.slices_Contains_bool_bool [a0, a1].toArray H K :=
  HT_of_fev O.slices_Contains_bool_bool mixed Try.func150 (by kernel_rfl) (Eq.mpr (by kernel_rfl : fev prg O.slices_Contains_bool_bool Try.f150 [a0, a1] H K = F.slices_Contains_bool_bool a0 a1 H K) h)

/-! loop.example/g01381/impl.OrphanOf: function 68 -/
def F.impl_OrphanOf (a0 a1 : Value) (H : Hp) (K : Value → Hp → Prop) : Prop :=
  nw (a0 : Value).cells 43 H fun v2x1 H2 =>
  ob (vLoadN 3 v2x1 H2) fun v17x3 =>
  HT prg I.impl_ValidRule [v17x3].toArray H2 fun v18x4 H5 =>
  ob (vUn .not v18x4) fun v19x6 =>
  gop v19x6 false (fun K7 => K7 a1 H5) H5 fun v21x8 H9 =>
  gop v19x6 false (fun K10 => ob (vLoadN 3 v2x1 H9) fun u => K10 u H9) H9 fun v22x11 H12 =>
  gop v19x6 false (fun K13 => HT prg I.impl_Rule_mostCells [v22x11, (.int .i64 12), (.int .i64 7)].toArray H12 K13) H12 fun v23x14 H15 =>
  gop v19x6 false (fun K16 => HT prg I.impl_within [v21x8, (.int .i64 1), v23x14].toArray H15 K16) H15 fun v24x17 H18 =>
  gop v19x6 false (fun K19 => ob (vUn .not v24x17) fun u => K19 u H18) H18 fun v25x20 H21 =>
  ob (vPick v19x6 (.bool true) v25x20) fun v26x22 =>
  cnd v26x22
    (K (.tuple #[(.slice none 0 0), (.bool false)]) H21)
    (bS 1 1 #[(.bool false)] 4 [(0, (.bool true))] H21 fun v27x23 H24 =>
  ob (vLoadN 3 v2x1 H24) fun v28x25 =>
  HT prg I.impl_Rule_ends [v28x25].toArray H24 fun v29x26 H27 =>
  HT prg I.slices_Repeat_bool_bool [v27x23, v29x26].toArray H27 fun v30x28 H29 =>
  ob (vBuild [(0, 1), (1, 1)] (.agg #[(.slice none 0 0), (.slice none 0 0)]) [(0, (.slice none 0 0)), (1, v30x28)]) fun v31x30 =>
  bS 2 1 #[(.slice none 0 0), (.slice none 0 0)] 123 [(0, v31x30)] H29 fun v32x31 H32 =>
  jn (fun σ33 H33 =>
    K (.tuple #[(.slice none 0 0), (.bool false)]) H33) fun J33 =>
  lpE (fun Q34 σ34 H34 =>
    ob (vInt .lss (σ34 34) (σ34 33)) fun v35x35 =>
    cnd v35x35
      (jn (fun σ36 H36 =>
      ob (vInt .add (σ36 34) (.int .i64 1)) fun v104x37 =>
      Q34 .normal (up (up σ36 104 v104x37) 34 v104x37) H36) fun J36 =>
    bS 2 0 #[(.slice none 0 0), (.slice none 0 0)] 123 [] H34 fun v36x38 H39 =>
    jn (fun σ40 H40 =>
      J36 (up (up σ40 103 (σ40 7)) 6 (σ40 7)) H40) fun J40 =>
    ob (vLenSl (σ34 6)) fun v38x41 =>
    lpE (fun Q42 σ42 H42 =>
      ob (vInt .lss (σ42 39) (σ42 38)) fun v40x43 =>
      cnd v40x43
        (jn (fun σ44 H44 =>
        ob (vInt .add (σ44 39) (.int .i64 1)) fun v102x45 =>
        Q42 .normal (up (up σ44 102 v102x45) 39 v102x45) H44) fun J44 =>
      ob (vIx 2 (σ42 37) (σ42 39)) fun v41x46 =>
      ob (vLoadN 2 v41x46 H42) fun v42x47 =>
      nw #[(.slice none 0 0), (.slice none 0 0)] 123 H42 fun v9x48 H49 =>
      st 2 v9x48 v42x47 H49 fun H50 =>
      ob (vFa 0 (σ42 2)) fun v43x51 =>
      ob (vLoad v43x51 H50) fun v44x52 =>
      lpE (fun Q53 σ53 H53 =>
        ob (vInt .lss (σ53 45) (σ53 44)) fun v46x54 =>
        cnd v46x54
          (jn (fun σ55 H55 =>
          ob (vInt .add (σ55 45) (.int .i64 1)) fun v101x56 =>
          Q53 .normal (up (up σ55 101 v101x56) 45 v101x56) H55) fun J55 =>
        ob (vFa 0 (σ53 9)) fun v48x57 =>
        ob (vLoad v48x57 H53) fun v49x58 =>
        ob (vFa 1 (σ53 9)) fun v54x59 =>
        ob (vLoad v54x59 H53) fun v55x60 =>
        ob (vLenSl v55x60) fun v56x61 =>
        HT prg I.slices_Clone_int64Zint64 [v49x58].toArray H53 fun v50x62 H63 =>
        Le H53 H63 ∧ (bS 1 1 #[(.int .i64 0)] 2 [(0, (σ53 45))] H63 fun v52x64 H65 =>
        apd 1 8 #[(.int .i64 0)] 2 v50x62 v52x64 H65 fun v53x66 H67 =>
        Le H65 H67 ∧ (mkS 1 1 #[(.bool false)] 4 v56x61 v56x61 H67 fun v57x68 H69 =>
        ob (vBuild [(0, 1), (1, 1)] (.agg #[(.slice none 0 0), (.slice none 0 0)]) [(0, v53x66), (1, v57x68)]) fun v58x70 =>
        nw #[(.slice none 0 0), (.slice none 0 0)] 123 H69 fun v11x71 H72 =>
        st 2 v11x71 v58x70 H72 fun H73 =>
        jn (fun σ74 H74 =>
          ob (vFa 1 (σ74 11)) fun v91x75 =>
          ob (vLoad v91x75 H74) fun v92x76 =>
          HT prg I.slices_Contains_bool_bool [v92x76, (.bool true)].toArray H74 fun v93x77 H78 =>
          ob (vUn .not v93x77) fun v94x79 =>
          cnd v94x79
            (ob (vFa 0 (σ74 11)) fun v95x80 =>
            ob (vLoad v95x80 H78) fun v96x81 =>
            Q53 .ret (up (up (up (up (up (up (up (up σ74 91 v91x75) 92 v92x76) 93 v93x77) 94 v94x79) 95 v95x80) 96 v96x81) 4 v96x81) 5 (.bool true)) H78)
            (ob (vLoadN 2 (σ74 11) H78) fun v98x82 =>
          bS 2 1 #[(.slice none 0 0), (.slice none 0 0)] 123 [(0, v98x82)] H78 fun v99x83 H84 =>
          apd 2 48 #[(.slice none 0 0), (.slice none 0 0)] 123 (σ74 7) v99x83 H84 fun v100x85 H86 =>
          J55 (up (up (up (up (up (up (up (up (up σ74 91 v91x75) 92 v92x76) 93 v93x77) 94 v94x79) 97 (σ74 7)) 98 v98x82) 99 v99x83) 100 v100x85) 7 v100x85) H86)) fun J74 =>
        ob (vFa 1 (σ53 9)) fun v59x87 =>
        ob (vLoad v59x87 H73) fun v60x88 =>
        ob (vLenSl v60x88) fun v61x89 =>
        lpE (fun Q90 σ90 H90 =>
          ob (vInt .lss (σ90 62) (σ90 61)) fun v63x91 =>
          cnd v63x91
            (jn (fun σ92 H92 =>
            ob (vInt .add (σ92 62) (.int .i64 1)) fun v90x93 =>
            Q90 .normal (up (up σ92 90 v90x93) 62 v90x93) H92) fun J92 =>
          ob (vIx 1 (σ90 60) (σ90 62)) fun v65x94 =>
          ob (vLoad v65x94 H90) fun v66x95 =>
          ob (vFa 0 (σ90 2)) fun v67x96 =>
          ob (vLoad v67x96 H90) fun v68x97 =>
          lpE (fun Q98 σ98 H98 =>
            ob (vInt .lss (σ98 69) (σ98 68)) fun v70x99 =>
            cnd v70x99
              (ob (vLoadN 3 (σ98 2) H98) fun v73x100 =>
            HT prg I.impl_Rule_way [v73x100, (σ98 12), (σ98 69)].toArray H98 fun v76x101 H102 =>
            ob (vExt v76x101 0) fun v77x103 =>
            ob (vExt v76x101 1) fun v78x104 =>
            gop (σ98 13) true (fun K105 => K105 v78x104 H102) H102 fun v81x106 H107 =>
            gop (σ98 13) true (fun K108 => K108 (σ98 10) H107) H107 fun v82x109 H110 =>
            gop (σ98 13) true (fun K111 => ob (vInt .eql v81x106 v82x109) fun u => K111 u H110) H110 fun v83x112 H113 =>
            ob (vPick (σ98 13) v83x112 (.bool false)) fun v84x114 =>
            cnd v84x114
              (ob (vFa 1 (σ98 11)) fun v85x115 =>
              ob (vLoad v85x115 H113) fun v86x116 =>
              ob (vIx 1 v86x116 v77x103) fun v88x117 =>
              st 1 v88x117 (.bool true) H113 fun H118 =>
              ob (vInt .add (σ98 69) (.int .i64 1)) fun v89x119 =>
            Q98 .normal (up (up (up (up (up (up (up (up (up (up (up (up (up (up (up (up (up (up (up (up (up (up (up (up σ98 70 v70x99) 71 (σ98 69)) 14 (σ98 69)) 73 v73x100) 74 (σ98 12)) 75 (σ98 69)) 76 v76x101) 72 v76x101) 77 v77x103) 78 v78x104) 15 v77x103) 16 v78x104) 79 (σ98 13)) 80 (σ98 13)) 81 v81x106) 82 v82x109) 83 v83x112) 84 v84x114) 85 v85x115) 86 v86x116) 87 v77x103) 88 v88x117) 89 v89x119) 69 v89x119) H118)
              (ob (vInt .add (σ98 69) (.int .i64 1)) fun v89x120 =>
            Q98 .normal (up (up (up (up (up (up (up (up (up (up (up (up (up (up (up (up (up (up (up (up σ98 70 v70x99) 71 (σ98 69)) 14 (σ98 69)) 73 v73x100) 74 (σ98 12)) 75 (σ98 69)) 76 v76x101) 72 v76x101) 77 v77x103) 78 v78x104) 15 v77x103) 16 v78x104) 79 (σ98 13)) 80 (σ98 13)) 81 v81x106) 82 v82x109) 83 v83x112) 84 v84x114) 89 v89x120) 69 v89x120) H113))
              (Q98 (.exit 8) (up σ98 70 v70x99) H98)) (blkQ 8 (blkQ 7 (thenQ J92 Q90))) (up (up (up (up (up (up (up (up (up σ90 63 v63x91) 64 (σ90 62)) 65 v65x94) 66 v66x95) 12 (σ90 62)) 13 v66x95) 67 v67x96) 68 v68x97) 69 (.int .i64 0)) H90)
            (Q90 (.exit 6) (up σ90 63 v63x91) H90)) (blkQ 6 (thenQ J74 (blkQ 5 (thenQ J55 Q53)))) (up (up (up (up (up (up (up (up (up (up (up (up (up (up (up (up (up (up (up σ53 46 v46x54) 47 (σ53 45)) 10 (σ53 45)) 48 v48x57) 49 v49x58) 51 (σ53 45)) 54 v54x59) 55 v55x60) 56 v56x61) 50 v50x62) 52 v52x64) 53 v53x66) 57 v57x68) 58 v58x70) 11 v11x71) 59 v59x87) 60 v60x88) 61 v61x89) 62 (.int .i64 0)) H73)))
          (Q53 (.exit 4) (up σ53 46 v46x54) H53)) (blkQ 4 (blkQ 3 (thenQ J44 Q42))) (up (up (up (up (up (up (up σ42 40 v40x43) 41 v41x46) 42 v42x47) 9 v9x48) 43 v43x51) 44 v44x52) 45 (.int .i64 0)) H50)
        (Q42 (.exit 2) (up σ42 40 v40x43) H42)) (blkQ 2 (thenQ J40 (blkQ 1 (thenQ J36 Q34)))) (up (up (up (up (up (up σ34 35 v35x35) 36 v36x38) 7 v36x38) 37 (σ34 6)) 38 v38x41) 39 (.int .i64 0)) H39)
      (Q34 (.exit 0) (up σ34 35 v35x35) H34)) (blkQ 0 (thenQ J33 (retQ prg [(.tmp 4), (.tmp 5)] K))) (up (up (up (up (up (up (up (up (up (up (up (up (up (up (up (up (up (up (up (up (up (up (S0 [a0, a1]) 2 v2x1) 4 (.slice none 0 0)) 5 (.bool false)) 17 v17x3) 18 v18x4) 19 v19x6) 20 v19x6) 21 v21x8) 22 v22x11) 23 v23x14) 24 v24x17) 25 v25x20) 26 v26x22) 27 v27x23) 28 v28x25) 29 v29x26) 30 v30x28) 31 v31x30) 32 v32x31) 6 v32x31) 33 a1) 34 (.int .i64 0)) H32)
def O.impl_OrphanOf : Nat → Nat × List Nat := fun i => bif Nat.beq i 13 then (1, [0, 1, 3, 6, 7, 8, 2, 4, 5, 9, 10, 11, 12]) else (0, [])
theorem R.impl_OrphanOf {a0 a1 : Value} {H : Hp} {K : Value → Hp → Prop} (h : F.impl_OrphanOf a0 a1 H K) : HT prg I.impl_OrphanOf [a0, a1].toArray H K :=
  HT_of_fev O.impl_OrphanOf mixed Try.func68 (by kernel_rfl) (Eq.mpr (by kernel_rfl : fev prg O.impl_OrphanOf Try.f68 [a0, a1] H K = F.impl_OrphanOf a0 a1 H K) h)

/-! loop.example/g01381/spec.l03Full: function 188 -/
def F.spec_l03Full (a0 : Value) (H : Hp) (K : Value → Hp → Prop) : Prop :=
  HT prg I.spec_l03Ends [a0].toArray H fun v6x1 H2 =>
  mkS 1 1 #[(.bool false)] 4 v6x1 v6x1 H2 fun v7x3 H4 =>
  jn (fun σ5 H5 =>
    K (σ5 3) H5) fun J5 =>
  ob (vLenSl v7x3) fun v9x6 =>
  lpE (fun Q7 σ7 H7 =>
    ob (vInt .lss (σ7 10) (σ7 9)) fun v11x8 =>
    cnd v11x8
      (ob (vIx 1 (σ7 3) (σ7 10)) fun v15x9 =>
    st 1 v15x9 (.bool true) H7 fun H10 =>
    ob (vInt .add (σ7 10) (.int .i64 1)) fun v16x11 =>
    Q7 .normal (up (up (up (up (up (up (up (up σ7 11 v11x8) 12 (σ7 10)) 4 (σ7 10)) 13 (σ7 3)) 14 (σ7 10)) 15 v15x9) 16 v16x11) 10 v16x11) H10)
      (Q7 (.exit 0) (up σ7 11 v11x8) H7)) (blkQ 0 (thenQ J5 (retQ prg [(.tmp 2)] K))) (up (up (up (up (up (up (up (up (S0 [a0]) 2 (.slice none 0 0)) 5 a0) 6 v6x1) 7 v7x3) 3 v7x3) 8 v7x3) 9 v9x6) 10 (.int .i64 0)) H4
def O.spec_l03Full : Nat → Nat × List Nat := fun i => (0, [])
theorem R.spec_l03Full {a0 : Value} {H : Hp} {K : Value → Hp → Prop} (h : F.spec_l03Full a0 H K) : HT prg I.spec_l03Full [a0].toArray H K :=
  HT_of_fev O.spec_l03Full mixed Try.func188 (by kernel_rfl) (Eq.mpr (by kernel_rfl : fev prg O.spec_l03Full Try.f188 [a0] H K = F.spec_l03Full a0 H K) h)

/-! loop.example/g01381/spec.l03Reach: function 189 -/
def F.spec_l03Reach (a0 a1 a2 : Value) (H : Hp) (K : Value → Hp → Prop) : Prop :=
  ob (vLenSl a1) fun v13x1 =>
  mkS 1 1 #[(.bool false)] 4 v13x1 v13x1 H fun v14x2 H3 =>
  jn (fun σ4 H4 =>
    K (σ4 7) H4) fun J4 =>
  ob (vLenSl a1) fun v16x5 =>
  lpE (fun Q6 σ6 H6 =>
    ob (vInt .lss (σ6 17) (σ6 16)) fun v18x7 =>
    cnd v18x7
      (jn (fun σ8 H8 =>
      ob (vInt .add (σ8 17) (.int .i64 1)) fun v47x9 =>
      Q6 .normal (up (up σ8 47 v47x9) 17 v47x9) H8) fun J8 =>
    lpE (fun Q10 σ10 H10 =>
      ob (vNilC (σ10 0)) fun v22x11 =>
      ob (vFa 0 v22x11) fun v23x12 =>
      ob (vLoad v23x12 H10) fun v24x13 =>
      ob (vInt .lss (σ10 9) v24x13) fun v25x14 =>
      gop v25x14 true (fun K15 => K15 (σ10 1) H10) H10 fun v27x16 H17 =>
      gop v25x14 true (fun K18 => K18 (σ10 8) H17) H17 fun v28x19 H20 =>
      gop v25x14 true (fun K21 => ob (vIx 1 v27x16 v28x19) fun u => K21 u H20) H20 fun v29x22 H23 =>
      gop v25x14 true (fun K24 => ob (vLoad v29x22 H23) fun u => K24 u H23) H23 fun v30x25 H26 =>
      ob (vPick v25x14 v30x25 (.bool false)) fun v31x27 =>
      cnd v31x27
        (HT prg I.spec_l03Pairs [(σ10 0), (σ10 8), (σ10 9)].toArray H26 fun v38x28 H29 =>
      ob (vExt v38x28 0) fun v39x30 =>
      ob (vExt v38x28 1) fun v40x31 =>
      ob (vInt .eql v40x31 (σ10 2)) fun v43x32 =>
      cnd v43x32
        (ob (vIx 1 (σ10 7) v39x30) fun v46x33 =>
        st 1 v46x33 (.bool true) H29 fun H34 =>
        ob (vInt .add (σ10 9) (.int .i64 1)) fun v33x35 =>
      Q10 .normal (up (up (up (up (up (up (up (up (up (up (up (up (up (up (up (up (up (up (up (up (up (up (up (up (up (up (up (up (up (up σ10 20 (σ10 9)) 21 (σ10 0)) 22 v22x11) 23 v23x12) 24 v24x13) 25 v25x14) 26 v25x14) 27 v27x16) 28 v28x19) 29 v29x22) 30 v30x25) 31 v31x27) 35 (σ10 0)) 36 (σ10 8)) 37 (σ10 9)) 38 v38x28) 34 v38x28) 39 v39x30) 40 v40x31) 10 v39x30) 11 v40x31) 41 v40x31) 42 (σ10 2)) 43 v43x32) 44 (σ10 7)) 45 v39x30) 46 v46x33) 32 (σ10 9)) 33 v33x35) 9 v33x35) H34)
        (ob (vInt .add (σ10 9) (.int .i64 1)) fun v33x36 =>
      Q10 .normal (up (up (up (up (up (up (up (up (up (up (up (up (up (up (up (up (up (up (up (up (up (up (up (up (up (up (up σ10 20 (σ10 9)) 21 (σ10 0)) 22 v22x11) 23 v23x12) 24 v24x13) 25 v25x14) 26 v25x14) 27 v27x16) 28 v28x19) 29 v29x22) 30 v30x25) 31 v31x27) 35 (σ10 0)) 36 (σ10 8)) 37 (σ10 9)) 38 v38x28) 34 v38x28) 39 v39x30) 40 v40x31) 10 v39x30) 11 v40x31) 41 v40x31) 42 (σ10 2)) 43 v43x32) 32 (σ10 9)) 33 v33x36) 9 v33x36) H29))
        (Q10 (.exit 2) (up (up (up (up (up (up (up (up (up (up (up (up σ10 20 (σ10 9)) 21 (σ10 0)) 22 v22x11) 23 v23x12) 24 v24x13) 25 v25x14) 26 v25x14) 27 v27x16) 28 v28x19) 29 v29x22) 30 v30x25) 31 v31x27) H26)) (blkQ 2 (blkQ 1 (thenQ J8 Q6))) (up (up (up (up σ6 18 v18x7) 19 (σ6 17)) 8 (σ6 17)) 9 (.int .i64 0)) H6)
      (Q6 (.exit 0) (up σ6 18 v18x7) H6)) (blkQ 0 (thenQ J4 (retQ prg [(.tmp 6)] K))) (up (up (up (up (up (up (up (up (S0 [a0, a1, a2]) 6 (.slice none 0 0)) 12 a1) 13 v13x1) 14 v14x2) 7 v14x2) 15 a1) 16 v16x5) 17 (.int .i64 0)) H3
def O.spec_l03Reach : Nat → Nat × List Nat := fun i => (0, [])
theorem R.spec_l03Reach {a0 a1 a2 : Value} {H : Hp} {K : Value → Hp → Prop} (h : F.spec_l03Reach a0 a1 a2 H K) : HT prg I.spec_l03Reach [a0, a1, a2].toArray H K :=
  HT_of_fev O.spec_l03Reach mixed Try.func189 (by kernel_rfl) (Eq.mpr (by kernel_rfl : fev prg O.spec_l03Reach Try.f189 [a0, a1, a2] H K = F.spec_l03Reach a0 a1 a2 H K) h)

/-! loop.example/g01381/spec.l03None: function 190 -/
def F.spec_l03None (a0 : Value) (H : Hp) (K : Value → Hp → Prop) : Prop :=
  jn (fun σ1 H1 =>
    K (.bool true) H1) fun J1 =>
  ob (vLenSl a0) fun v5x2 =>
  lpE (fun Q3 σ3 H3 =>
    ob (vInt .lss (σ3 6) (σ3 5)) fun v7x4 =>
    cnd v7x4
      (ob (vIx 1 (σ3 0) (σ3 6)) fun v11x5 =>
    ob (vLoad v11x5 H3) fun v12x6 =>
    cnd v12x6
      (Q3 .ret (up (up (up (up (up (up (up (up σ3 7 v7x4) 8 (σ3 6)) 3 (σ3 6)) 9 (σ3 0)) 10 (σ3 6)) 11 v11x5) 12 v12x6) 2 (.bool false)) H3)
      (ob (vInt .add (σ3 6) (.int .i64 1)) fun v13x7 =>
    Q3 .normal (up (up (up (up (up (up (up (up (up σ3 7 v7x4) 8 (σ3 6)) 3 (σ3 6)) 9 (σ3 0)) 10 (σ3 6)) 11 v11x5) 12 v12x6) 13 v13x7) 6 v13x7) H3))
      (Q3 (.exit 0) (up σ3 7 v7x4) H3)) (blkQ 0 (thenQ J1 (retQ prg [(.tmp 2)] K))) (up (up (up (up (S0 [a0]) 2 (.bool false)) 4 a0) 5 v5x2) 6 (.int .i64 0)) H
def O.spec_l03None : Nat → Nat × List Nat := fun i => (0, [])
theorem R.spec_l03None {a0 : Value} {H : Hp} {K : Value → Hp → Prop} (h : F.spec_l03None a0 H K) : HT prg I.spec_l03None [a0].toArray H K :=
  HT_of_fev O.spec_l03None mixed Try.func190 (by kernel_rfl) (Eq.mpr (by kernel_rfl : fev prg O.spec_l03None Try.f190 [a0] H K = F.spec_l03None a0 H K) h)

/-! loop.example/g01381/spec.l03Same: function 191 -/
def F.spec_l03Same (a0 a1 : Value) (H : Hp) (K : Value → Hp → Prop) : Prop :=
  jn (fun σ1 H1 =>
    K (.bool true) H1) fun J1 =>
  ob (vLenSl a0) fun v7x2 =>
  lpE (fun Q3 σ3 H3 =>
    ob (vInt .lss (σ3 8) (σ3 7)) fun v9x4 =>
    cnd v9x4
      (ob (vIx 1 (σ3 0) (σ3 8)) fun v13x5 =>
    ob (vLoad v13x5 H3) fun v14x6 =>
    ob (vIx 1 (σ3 1) (σ3 8)) fun v17x7 =>
    ob (vLoad v17x7 H3) fun v18x8 =>
    ob (vBool .neq v14x6 v18x8) fun v19x9 =>
    cnd v19x9
      (Q3 .ret (up (up (up (up (up (up (up (up (up (up (up (up (up σ3 9 v9x4) 10 (σ3 8)) 5 (σ3 8)) 11 (σ3 0)) 12 (σ3 8)) 13 v13x5) 14 v14x6) 15 (σ3 1)) 16 (σ3 8)) 17 v17x7) 18 v18x8) 19 v19x9) 4 (.bool false)) H3)
      (ob (vInt .add (σ3 8) (.int .i64 1)) fun v20x10 =>
    Q3 .normal (up (up (up (up (up (up (up (up (up (up (up (up (up (up σ3 9 v9x4) 10 (σ3 8)) 5 (σ3 8)) 11 (σ3 0)) 12 (σ3 8)) 13 v13x5) 14 v14x6) 15 (σ3 1)) 16 (σ3 8)) 17 v17x7) 18 v18x8) 19 v19x9) 20 v20x10) 8 v20x10) H3))
      (Q3 (.exit 0) (up σ3 9 v9x4) H3)) (blkQ 0 (thenQ J1 (retQ prg [(.tmp 4)] K))) (up (up (up (up (S0 [a0, a1]) 4 (.bool false)) 6 a0) 7 v7x2) 8 (.int .i64 0)) H
def O.spec_l03Same : Nat → Nat × List Nat := fun i => bif Nat.beq i 4 then (0, [0, 1, 2, 3, 4, 5, 6, 7, 8]) else (0, [])
theorem R.spec_l03Same {a0 a1 : Value} {H : Hp} {K : Value → Hp → Prop} (h : F.spec_l03Same a0 a1 H K) : HT prg I.spec_l03Same [a0, a1].toArray H K :=
  HT_of_fev O.spec_l03Same mixed Try.func191 (by kernel_rfl) (Eq.mpr (by kernel_rfl : fev prg O.spec_l03Same Try.f191 [a0, a1] H K = F.spec_l03Same a0 a1 H K) h)

/-! loop.example/g01381/spec.l03Orphan: function 151 -/
def F.spec_l03Orphan (a0 a1 : Value) (H : Hp) (K : Value → Hp → Prop) : Prop :=
  HT prg I.spec_l03Full [a0].toArray H fun v14x1 H2 =>
  bS 1 0 #[(.int .i64 0)] 2 [] H2 fun v15x3 H4 =>
  ob (vBuild [(0, 1), (1, 1)] (.agg #[(.slice none 0 0), (.slice none 0 0)]) [(0, v14x1), (1, v15x3)]) fun v16x5 =>
  bS 2 1 #[(.slice none 0 0), (.slice none 0 0)] 156 [(0, v16x5)] H4 fun v17x6 H7 =>
  jn (fun σ8 H8 =>
    K (.tuple #[(.slice none 0 0), (.bool false)]) H8) fun J8 =>
  lpE (fun Q9 σ9 H9 =>
    ob (vLenSl (σ9 6)) fun v20x10 =>
    ob (vInt .lss (σ9 7) v20x10) fun v21x11 =>
    cnd v21x11
      (jn (fun σ12 H12 =>
      ob (vInt .add (σ12 7) (.int .i64 1)) fun v23x13 =>
      Q9 .normal (up (up (up σ12 22 (σ12 7)) 23 v23x13) 7 v23x13) H12) fun J12 =>
    ob (vIx 2 (σ9 6) (σ9 7)) fun v26x14 =>
    ob (vFa 1 v26x14) fun v27x15 =>
    ob (vLoad v27x15 H9) fun v28x16 =>
    ob (vLenSl v28x16) fun v29x17 =>
    ob (vInt .geq v29x17 (σ9 1)) fun v31x18 =>
    cnd v31x18
      (Q9 (.exit 0) (up (up (up (up (up (up (up (up (up (up (up (up σ9 18 (σ9 7)) 19 (σ9 6)) 20 v20x10) 21 v21x11) 24 (σ9 6)) 25 (σ9 7)) 26 v26x14) 27 v27x15) 28 v28x16) 29 v29x17) 30 (σ9 1)) 31 v31x18) H9)
      (lpE (fun Q19 σ19 H19 =>
      ob (vNilC (σ19 0)) fun v34x20 =>
      ob (vFa 0 v34x20) fun v35x21 =>
      ob (vLoad v35x21 H19) fun v36x22 =>
      ob (vInt .lss (σ19 8) v36x22) fun v37x23 =>
      cnd v37x23
        (jn (fun σ24 H24 =>
        ob (vInt .add (σ24 8) (.int .i64 1)) fun v39x25 =>
        Q19 .normal (up (up (up σ24 38 (σ24 8)) 39 v39x25) 8 v39x25) H24) fun J24 =>
      ob (vIx 2 (σ19 6) (σ19 7)) fun v43x26 =>
      ob (vFa 0 v43x26) fun v44x27 =>
      ob (vLoad v44x27 H19) fun v45x28 =>
      HT prg I.spec_l03Reach [(σ19 0), v45x28, (σ19 8)].toArray H19 fun v47x29 H30 =>
      bS 1 0 #[(.int .i64 0)] 2 [] H30 fun v48x31 H32 =>
      ob (vIx 2 (σ19 6) (σ19 7)) fun v51x33 =>
      ob (vFa 1 v51x33) fun v52x34 =>
      ob (vLoad v52x34 H32) fun v53x35 =>
      apd 1 8 #[(.int .i64 0)] 2 v48x31 v53x35 H32 fun v54x36 H37 =>
      bS 1 1 #[(.int .i64 0)] 2 [(0, (σ19 8))] H37 fun v56x38 H39 =>
      apd 1 8 #[(.int .i64 0)] 2 v54x36 v56x38 H39 fun v57x40 H41 =>
      HT prg I.spec_l03None [v47x29].toArray H41 fun v59x42 H43 =>
      cnd v59x42
        (Q19 .ret (up (up (up (up (up (up (up (up (up (up (up (up (up (up (up (up (up (up (up (up (up (up (up (up (up (up (up (up (up (up (up σ19 32 (σ19 8)) 33 (σ19 0)) 34 v34x20) 35 v35x21) 36 v36x22) 37 v37x23) 40 (σ19 0)) 41 (σ19 6)) 42 (σ19 7)) 43 v43x26) 44 v44x27) 45 v45x28) 46 (σ19 8)) 47 v47x29) 9 v47x29) 48 v48x31) 49 (σ19 6)) 50 (σ19 7)) 51 v51x33) 52 v52x34) 53 v53x35) 54 v54x36) 55 (σ19 8)) 56 v56x38) 57 v57x40) 10 v57x40) 58 v47x29) 59 v59x42) 60 v57x40) 4 v57x40) 5 (.bool true)) H43)
        (jn (fun σ44 H44 =>
        ob (vUn .not (σ44 11)) fun v78x45 =>
        cnd v78x45
          (ob (vBuild [(0, 1), (1, 1)] (.agg #[(.slice none 0 0), (.slice none 0 0)]) [(0, (σ44 9)), (1, (σ44 10))]) fun v82x46 =>
          bS 2 1 #[(.slice none 0 0), (.slice none 0 0)] 156 [(0, v82x46)] H44 fun v83x47 H48 =>
          apd 2 48 #[(.slice none 0 0), (.slice none 0 0)] 156 (σ44 6) v83x47 H48 fun v84x49 H50 =>
          J24 (up (up (up (up (up (up (up (up (up σ44 77 (σ44 11)) 78 v78x45) 79 (σ44 6)) 80 (σ44 9)) 81 (σ44 10)) 82 v82x46) 83 v83x47) 84 v84x49) 6 v84x49) H50)
          (J24 (up (up σ44 77 (σ44 11)) 78 v78x45) H44)) fun J44 =>
      ob (vLenSl (σ19 6)) fun v62x51 =>
      lpE (fun Q52 σ52 H52 =>
        ob (vInt .lss (σ52 63) (σ52 62)) fun v64x53 =>
        cnd v64x53
          (gop (σ52 11) false (fun K54 => K54 (σ52 6) H52) H52 fun v68x55 H56 =>
        gop (σ52 11) false (fun K57 => K57 (σ52 63) H56) H56 fun v69x58 H59 =>
        gop (σ52 11) false (fun K60 => ob (vIx 2 v68x55 v69x58) fun u => K60 u H59) H59 fun v70x61 H62 =>
        gop (σ52 11) false (fun K63 => ob (vFa 0 v70x61) fun u => K63 u H62) H62 fun v71x64 H65 =>
        gop (σ52 11) false (fun K66 => ob (vLoad v71x64 H65) fun u => K66 u H65) H65 fun v72x67 H68 =>
        gop (σ52 11) false (fun K69 => K69 (σ52 9) H68) H68 fun v73x70 H71 =>
        gop (σ52 11) false (fun K72 => HT prg I.spec_l03Same [v72x67, v73x70].toArray H71 K72) H71 fun v74x73 H74 =>
        ob (vPick (σ52 11) (.bool true) v74x73) fun v75x75 =>
        ob (vInt .add (σ52 63) (.int .i64 1)) fun v76x76 =>
        Q52 .normal (up (up (up (up (up (up (up (up (up (up (up (up (up (up (up (up σ52 64 v64x53) 65 (σ52 63)) 12 (σ52 63)) 66 (σ52 11)) 67 (σ52 11)) 68 v68x55) 69 v69x58) 70 v70x61) 71 v71x64) 72 v72x67) 73 v73x70) 74 v74x73) 75 v75x75) 11 v75x75) 76 v76x76) 63 v76x76) H74)
          (Q52 (.exit 4) (up σ52 64 v64x53) H52)) (blkQ 4 (thenQ J44 (blkQ 3 (thenQ J24 Q19)))) (up (up (up (up (up (up (up (up (up (up (up (up (up (up (up (up (up (up (up (up (up (up (up (up (up (up (up (up (up (up (up (up σ19 32 (σ19 8)) 33 (σ19 0)) 34 v34x20) 35 v35x21) 36 v36x22) 37 v37x23) 40 (σ19 0)) 41 (σ19 6)) 42 (σ19 7)) 43 v43x26) 44 v44x27) 45 v45x28) 46 (σ19 8)) 47 v47x29) 9 v47x29) 48 v48x31) 49 (σ19 6)) 50 (σ19 7)) 51 v51x33) 52 v52x34) 53 v53x35) 54 v54x36) 55 (σ19 8)) 56 v56x38) 57 v57x40) 10 v57x40) 58 v47x29) 59 v59x42) 11 (.bool false)) 61 (σ19 6)) 62 v62x51) 63 (.int .i64 0)) H43))
        (Q19 (.exit 2) (up (up (up (up (up (up σ19 32 (σ19 8)) 33 (σ19 0)) 34 v34x20) 35 v35x21) 36 v36x22) 37 v37x23) H19)) (blkQ 2 (blkQ 1 (thenQ J12 Q9))) (up (up (up (up (up (up (up (up (up (up (up (up (up σ9 18 (σ9 7)) 19 (σ9 6)) 20 v20x10) 21 v21x11) 24 (σ9 6)) 25 (σ9 7)) 26 v26x14) 27 v27x15) 28 v28x16) 29 v29x17) 30 (σ9 1)) 31 v31x18) 8 (.int .i64 0)) H9))
      (Q9 (.exit 0) (up (up (up (up σ9 18 (σ9 7)) 19 (σ9 6)) 20 v20x10) 21 v21x11) H9)) (blkQ 0 (thenQ J8 (retQ prg [(.tmp 4), (.tmp 5)] K))) (up (up (up (up (up (up (up (up (up (S0 [a0, a1]) 4 (.slice none 0 0)) 5 (.bool false)) 13 a0) 14 v14x1) 15 v15x3) 16 v16x5) 17 v17x6) 6 v17x6) 7 (.int .i64 0)) H7
def O.spec_l03Orphan : Nat → Nat × List Nat := fun i => (0, [])
theorem R.spec_l03Orphan {a0 a1 : Value} {H : Hp} {K : Value → Hp → Prop} (h : F.spec_l03Orphan a0 a1 H K) : HT prg I.spec_l03Orphan [a0, a1].toArray H K :=
  HT_of_fev O.spec_l03Orphan mixed Try.func151 (by kernel_rfl) (Eq.mpr (by kernel_rfl : fev prg O.spec_l03Orphan Try.f151 [a0, a1] H K = F.spec_l03Orphan a0 a1 H K) h)

/-! loop.example/g01381/spec.OrphanOf: function 69 -/
def F.spec_OrphanOf (a0 a1 : Value) (H : Hp) (K : Value → Hp → Prop) : Prop :=
  nw (a0 : Value).cells 43 H fun v2x1 H2 =>
  HT prg I.spec_l02Is [v2x1].toArray H2 fun v6x3 H4 =>
  ob (vUn .not v6x3) fun v7x5 =>
  gop v7x5 false (fun K6 => K6 a1 H4) H4 fun v9x7 H8 =>
  gop v7x5 false (fun K9 => HT prg I.spec_l00In [v9x7, (.int .i64 1), (.int .i64 12)].toArray H8 K9) H8 fun v10x10 H11 =>
  gop v7x5 false (fun K12 => ob (vUn .not v10x10) fun u => K12 u H11) H11 fun v11x13 H14 =>
  ob (vPick v7x5 (.bool true) v11x13) fun v12x15 =>
  gop v12x15 false (fun K16 => ob (vFa 0 v2x1) fun u => K16 u H14) H14 fun v14x17 H18 =>
  gop v12x15 false (fun K19 => ob (vLoad v14x17 H18) fun u => K19 u H18) H18 fun v15x20 H21 =>
  gop v12x15 false (fun K22 => ob (vInt .eql v15x20 (.int .i64 3)) fun u => K22 u H21) H21 fun v16x23 H24 =>
  gop v12x15 false (fun K25 => K25 v16x23 H24) H24 fun v17x26 H27 =>
  gop v17x26 true (fun K28 => K28 a1 H27) H27 fun v18x29 H30 =>
  gop v17x26 true (fun K31 => ob (vInt .gtr v18x29 (.int .i64 7)) fun u => K31 u H30) H30 fun v19x32 H33 =>
  gop v12x15 false (fun K34 => ob (vPick v17x26 v19x32 (.bool false)) fun u => K34 u H33) H33 fun v20x35 H36 =>
  ob (vPick v12x15 (.bool true) v20x35) fun v21x37 =>
  cnd v21x37
    (K (.tuple #[(.slice none 0 0), (.bool false)]) H36)
    (HT prg I.spec_l03Orphan [v2x1, a1].toArray H36 fun v23x38 H39 =>
  ob (vExt v23x38 0) fun v24x40 =>
  ob (vExt v23x38 1) fun v25x41 =>
  K (.tuple #[v24x40, v25x41]) H39)
def O.spec_OrphanOf : Nat → Nat × List Nat := fun i => (0, [])
theorem R.spec_OrphanOf {a0 a1 : Value} {H : Hp} {K : Value → Hp → Prop} (h : F.spec_OrphanOf a0 a1 H K) : HT prg I.spec_OrphanOf [a0, a1].toArray H K :=
  HT_of_fev O.spec_OrphanOf mixed Try.func69 (by kernel_rfl) (Eq.mpr (by kernel_rfl : fev prg O.spec_OrphanOf Try.f69 [a0, a1] H K = F.spec_OrphanOf a0 a1 H K) h)

/-! loop.example/g01381/impl.small: function 152 -/
def F.impl_small (a0 a1 : Value) (H : Hp) (K : Value → Hp → Prop) : Prop :=
  nw (a0 : Value).cells 43 H fun v2x1 H2 =>
  ob (vLoadN 3 v2x1 H2) fun v5x3 =>
  HT prg I.impl_ValidRule [v5x3].toArray H2 fun v6x4 H5 =>
  Le H2 H5 ∧ (gop v6x4 true (fun K6 => K6 a1 H5) H5 fun v8x7 H8 =>
  gop v6x4 true (fun K9 => ob (vLoadN 3 v2x1 H8) fun u => K9 u H8) H8 fun v9x10 H11 =>
  gop v6x4 true (fun K12 => ob (vLoadN 3 v2x1 H11) fun u => K12 u H11) H11 fun v11x13 H14 =>
  gop v6x4 true (fun K15 => HT prg I.impl_Rule_cells [v9x10].toArray H14 fun v10x16 H17 =>
  Le H14 H17 ∧ K15 v10x16 H17) H14 fun v10x18 H19 =>
  gop v6x4 true (fun K20 => HT prg I.impl_Rule_mostCells [v11x13, (.int .i64 12), (.int .i64 8)].toArray H19 fun v12x21 H22 =>
  Le H19 H22 ∧ K20 v12x21 H22) H19 fun v12x23 H24 =>
  gop v6x4 true (fun K25 => HT prg I.impl_within [v8x7, v10x18, v12x23].toArray H24 fun v13x26 H27 =>
  Le H24 H27 ∧ K25 v13x26 H27) H24 fun v13x28 H29 =>
  ob (vPick v6x4 v13x28 (.bool false)) fun v14x30 =>
  K v14x30 H29)
def O.impl_small : Nat → Nat × List Nat := fun i => bif Nat.beq i 1 then (0, [0, 1, 2, 3, 4, 6, 5, 7, 8, 9, 10]) else (0, [])
theorem R.impl_small {a0 a1 : Value} {H : Hp} {K : Value → Hp → Prop} (h : F.impl_small a0 a1 H K) : HT prg I.impl_small [a0, a1].toArray H K :=
  HT_of_fev O.impl_small mixed Try.func152 (by kernel_rfl) (Eq.mpr (by kernel_rfl : fev prg O.impl_small Try.f152 [a0, a1] H K = F.impl_small a0 a1 H K) h)

/-! (loop.example/g01381/impl.Rule).steps: function 153 -/
def F.impl_Rule_steps (a0 a1 : Value) (H : Hp) (K : Value → Hp → Prop) : Prop :=
  nw (a0 : Value).cells 43 H fun v2x1 H2 =>
  bS 1 0 #[(.int .i64 0)] 2 [] H2 fun v7x3 H4 =>
  jn (fun σ5 H5 =>
    K (σ5 5) H5) fun J5 =>
  ob (vFa 0 v2x1) fun v8x6 =>
  ob (vLoad v8x6 H4) fun v9x7 =>
  HT prg I.impl_raised [v9x7, a1].toArray H4 fun v11x8 H9 =>
  lpE (fun Q10 σ10 H10 =>
    ob (vInt .lss (σ10 12) (σ10 11)) fun v13x11 =>
    cnd v13x11
      (ob (vLoadN 3 (σ10 2) H10) fun v16x12 =>
    ob (vFa 0 (σ10 2)) fun v18x13 =>
    ob (vLoad v18x13 H10) fun v19x14 =>
    ob (vFa 0 (σ10 2)) fun v23x15 =>
    ob (vLoad v23x15 H10) fun v24x16 =>
    HT prg I.impl_digitsOf [(σ10 12), v19x14, (σ10 1)].toArray H10 fun v21x17 H18 =>
    Le H10 H18 ∧ (HT prg I.impl_Rule_step [v16x12, v21x17].toArray H18 fun v22x19 H20 =>
    Le H18 H20 ∧ (HT prg I.impl_numberOf [v22x19, v24x16].toArray H20 fun v25x21 H22 =>
    Le H20 H22 ∧ (bS 1 1 #[(.int .i64 0)] 2 [(0, v25x21)] H22 fun v26x23 H24 =>
    apd 1 8 #[(.int .i64 0)] 2 (σ10 5) v26x23 H24 fun v27x25 H26 =>
    ob (vInt .add (σ10 12) (.int .i64 1)) fun v28x27 =>
    Q10 .normal (up (up (up (up (up (up (up (up (up (up (up (up (up (up (up (up (up (up (up σ10 13 v13x11) 14 (σ10 12)) 6 (σ10 12)) 15 (σ10 5)) 16 v16x12) 17 (σ10 12)) 18 v18x13) 19 v19x14) 20 (σ10 1)) 23 v23x15) 24 v24x16) 21 v21x17) 22 v22x19) 25 v25x21) 26 v26x23) 27 v27x25) 5 v27x25) 28 v28x27) 12 v28x27) H26))))
      (Q10 (.exit 0) (up σ10 13 v13x11) H10)) (blkQ 0 (thenQ J5 (retQ prg [(.tmp 4)] K))) (up (up (up (up (up (up (up (up (up (S0 [a0, a1]) 2 v2x1) 4 (.slice none 0 0)) 7 v7x3) 5 v7x3) 8 v8x6) 9 v9x7) 10 a1) 11 v11x8) 12 (.int .i64 0)) H9
def O.impl_Rule_steps : Nat → Nat × List Nat := fun i => bif Nat.beq i 5 then (0, [0, 1, 2, 3, 4, 5, 8, 9, 6, 7, 10, 11, 12, 13]) else (0, [])
theorem R.impl_Rule_steps {a0 a1 : Value} {H : Hp} {K : Value → Hp → Prop} (h : F.impl_Rule_steps a0 a1 H K) : HT prg I.impl_Rule_steps [a0, a1].toArray H K :=
  HT_of_fev O.impl_Rule_steps mixed Try.func153 (by kernel_rfl) (Eq.mpr (by kernel_rfl : fev prg O.impl_Rule_steps Try.f153 [a0, a1] H K = F.impl_Rule_steps a0 a1 H K) h)

/-! loop.example/g01381/impl.ImagesOf: function 71 -/
def F.impl_ImagesOf (a0 a1 : Value) (H : Hp) (K : Value → Hp → Prop) : Prop :=
  nw (a0 : Value).cells 43 H fun v2x1 H2 =>
  ob (vLoadN 3 v2x1 H2) fun v10x3 =>
  HT prg I.impl_small [v10x3, a1].toArray H2 fun v12x4 H5 =>
  ob (vUn .not v12x4) fun v13x6 =>
  cnd v13x6
    (K (.tuple #[(.int .i64 0), (.bool false)]) H5)
    (ob (vFa 0 v2x1) fun v14x7 =>
  ob (vLoad v14x7 H5) fun v15x8 =>
  HT prg I.impl_raised [v15x8, a1].toArray H5 fun v17x9 H10 =>
  mkS 1 1 #[(.bool false)] 4 v17x9 v17x9 H10 fun v18x11 H12 =>
  jn (fun σ13 H13 =>
    K (.tuple #[(σ13 7), (.bool true)]) H13) fun J13 =>
  ob (vLoadN 3 v2x1 H12) fun v19x14 =>
  HT prg I.impl_Rule_steps [v19x14, a1].toArray H12 fun v21x15 H16 =>
  ob (vLenSl v21x15) fun v22x17 =>
  lpE (fun Q18 σ18 H18 =>
    ob (vInt .lss (σ18 23) (σ18 22)) fun v24x19 =>
    cnd v24x19
      (ob (vIx 1 (σ18 21) (σ18 23)) fun v25x20 =>
    ob (vLoad v25x20 H18) fun v26x21 =>
    ob (vIx 1 (σ18 6) v26x21) fun v29x22 =>
    ob (vLoad v29x22 H18) fun v30x23 =>
    ob (vUn .not v30x23) fun v31x24 =>
    cnd v31x24
      (ob (vIx 1 (σ18 6) v26x21) fun v34x25 =>
      st 1 v34x25 (.bool true) H18 fun H26 =>
      ob (vInt .add (σ18 7) (.int .i64 1)) fun v36x27 =>
      ob (vInt .add (σ18 23) (.int .i64 1)) fun v37x28 =>
    Q18 .normal (up (up (up (up (up (up (up (up (up (up (up (up (up (up (up (up (up σ18 24 v24x19) 25 v25x20) 26 v26x21) 9 v26x21) 27 (σ18 6)) 28 v26x21) 29 v29x22) 30 v30x23) 31 v31x24) 32 (σ18 6)) 33 v26x21) 34 v34x25) 35 (σ18 7)) 36 v36x27) 7 v36x27) 37 v37x28) 23 v37x28) H26)
      (ob (vInt .add (σ18 23) (.int .i64 1)) fun v37x29 =>
    Q18 .normal (up (up (up (up (up (up (up (up (up (up (up σ18 24 v24x19) 25 v25x20) 26 v26x21) 9 v26x21) 27 (σ18 6)) 28 v26x21) 29 v29x22) 30 v30x23) 31 v31x24) 37 v37x29) 23 v37x29) H18))
      (Q18 (.exit 0) (up σ18 24 v24x19) H18)) (blkQ 0 (thenQ J13 (retQ prg [(.tmp 4), (.tmp 5)] K))) (up (up (up (up (up (up (up (up (up (up (up (up (up (up (up (up (up (up (up (S0 [a0, a1]) 2 v2x1) 4 (.int .i64 0)) 5 (.bool false)) 10 v10x3) 11 a1) 12 v12x4) 13 v13x6) 14 v14x7) 15 v15x8) 16 a1) 17 v17x9) 18 v18x11) 6 v18x11) 7 (.int .i64 0)) 19 v19x14) 20 a1) 21 v21x15) 22 v22x17) 23 (.int .i64 0)) H16)
def O.impl_ImagesOf : Nat → Nat × List Nat := fun i => (0, [])
theorem R.impl_ImagesOf {a0 a1 : Value} {H : Hp} {K : Value → Hp → Prop} (h : F.impl_ImagesOf a0 a1 H K) : HT prg I.impl_ImagesOf [a0, a1].toArray H K :=
  HT_of_fev O.impl_ImagesOf mixed Try.func71 (by kernel_rfl) (Eq.mpr (by kernel_rfl : fev prg O.impl_ImagesOf Try.f71 [a0, a1] H K = F.impl_ImagesOf a0 a1 H K) h)

/-! loop.example/g01381/impl.GardensOf: function 70 -/
def F.impl_GardensOf (a0 a1 : Value) (H : Hp) (K : Value → Hp → Prop) : Prop :=
  nw (a0 : Value).cells 43 H fun v2x1 H2 =>
  ob (vLoadN 3 v2x1 H2) fun v9x3 =>
  HT prg I.impl_ImagesOf [v9x3, a1].toArray H2 fun v11x4 H5 =>
  ob (vExt v11x4 0) fun v12x6 =>
  ob (vExt v11x4 1) fun v13x7 =>
  ob (vUn .not v13x7) fun v15x8 =>
  cnd v15x8
    (K (.tuple #[(.int .i64 0), (.bool false)]) H5)
    (ob (vFa 0 v2x1) fun v16x9 =>
  ob (vLoad v16x9 H5) fun v17x10 =>
  HT prg I.impl_raised [v17x10, a1].toArray H5 fun v19x11 H12 =>
  ob (vInt .sub v19x11 v12x6) fun v21x13 =>
  K (.tuple #[v21x13, (.bool true)]) H12)
def O.impl_GardensOf : Nat → Nat × List Nat := fun i => (0, [])
theorem R.impl_GardensOf {a0 a1 : Value} {H : Hp} {K : Value → Hp → Prop} (h : F.impl_GardensOf a0 a1 H K) : HT prg I.impl_GardensOf [a0, a1].toArray H K :=
  HT_of_fev O.impl_GardensOf mixed Try.func70 (by kernel_rfl) (Eq.mpr (by kernel_rfl : fev prg O.impl_GardensOf Try.f70 [a0, a1] H K = F.impl_GardensOf a0 a1 H K) h)

/-! loop.example/g01381/laws.FnOnto: function 9 -/
def F.laws_FnOnto (a0 a1 : Value) (H : Hp) (K : Value → Hp → Prop) : Prop :=
  HT prg I.laws_b10Long [a0, a1].toArray H fun v39x1 H2 =>
  cnd v39x1
    (K (.bool true) H2)
    (HT prg I.laws_b10At [a1, (.int .i64 0), (.int .i64 3)].toArray H2 fun v41x3 H4 =>
  HT prg I.spec_B10Rule [a0, v41x3].toArray H4 fun v44x5 H6 =>
  nw #[(.int .i64 0), (.int .i64 0), (.slice none 0 0)] 43 H6 fun v6x7 H8 =>
  st 3 v6x7 v44x5 H8 fun H9 =>
  jn (fun σ10 H10 =>
    ob (vLoadN 3 (σ10 6) H10) fun v55x11 =>
    HT prg I.impl_IsOnto [v55x11].toArray H10 fun v56x12 H13 =>
    ob (vExt v56x12 0) fun v57x14 =>
    ob (vExt v56x12 1) fun v58x15 =>
    ob (vLoadN 3 (σ10 6) H13) fun v60x16 =>
    HT prg I.impl_IsOneToOne [v60x16].toArray H13 fun v61x17 H18 =>
    ob (vExt v61x17 0) fun v62x19 =>
    ob (vExt v61x17 1) fun v63x20 =>
    ob (vLoadN 3 (σ10 6) H18) fun v65x21 =>
    HT prg I.impl_IsEvenRule [v65x21].toArray H18 fun v66x22 H23 =>
    ob (vExt v66x22 0) fun v67x24 =>
    ob (vExt v66x22 1) fun v68x25 =>
    ob (vLoadN 3 (σ10 6) H23) fun v70x26 =>
    HT prg I.spec_IsOnto [v70x26].toArray H23 fun v71x27 H28 =>
    ob (vExt v71x27 0) fun v72x29 =>
    ob (vExt v71x27 1) fun v73x30 =>
    ob (vLoadN 3 (σ10 6) H28) fun v75x31 =>
    HT prg I.spec_IsOneToOne [v75x31].toArray H28 fun v76x32 H33 =>
    ob (vExt v76x32 0) fun v77x34 =>
    ob (vExt v76x32 1) fun v78x35 =>
    ob (vLoadN 3 (σ10 6) H33) fun v80x36 =>
    HT prg I.spec_IsEvenRule [v80x36].toArray H33 fun v81x37 H38 =>
    ob (vExt v81x37 0) fun v82x39 =>
    ob (vExt v81x37 1) fun v83x40 =>
    ob (vUn .not v58x15) fun v85x41 =>
    gop v85x41 false (fun K42 => K42 v63x20 H38) H38 fun v87x43 H44 =>
    gop v85x41 false (fun K45 => ob (vUn .not v87x43) fun u => K45 u H44) H44 fun v88x46 H47 =>
    ob (vPick v85x41 (.bool true) v88x46) fun v89x48 =>
    gop v89x48 false (fun K49 => K49 v68x25 H47) H47 fun v91x50 H51 =>
    gop v89x48 false (fun K52 => ob (vUn .not v91x50) fun u => K52 u H51) H51 fun v92x53 H54 =>
    ob (vPick v89x48 (.bool true) v92x53) fun v93x55 =>
    gop v93x55 false (fun K56 => K56 v57x14 H54) H54 fun v95x57 H58 =>
    gop v93x55 false (fun K59 => K59 v72x29 H58) H58 fun v96x60 H61 =>
    gop v93x55 false (fun K62 => ob (vBool .neq v95x57 v96x60) fun u => K62 u H61) H61 fun v97x63 H64 =>
    ob (vPick v93x55 (.bool true) v97x63) fun v98x65 =>
    gop v98x65 false (fun K66 => K66 v62x19 H64) H64 fun v100x67 H68 =>
    gop v98x65 false (fun K69 => K69 v77x34 H68) H68 fun v101x70 H71 =>
    gop v98x65 false (fun K72 => ob (vBool .neq v100x67 v101x70) fun u => K72 u H71) H71 fun v102x73 H74 =>
    ob (vPick v98x65 (.bool true) v102x73) fun v103x75 =>
    gop v103x75 false (fun K76 => K76 v67x24 H74) H74 fun v105x77 H78 =>
    gop v103x75 false (fun K79 => K79 v82x39 H78) H78 fun v106x80 H81 =>
    gop v103x75 false (fun K82 => ob (vBool .neq v105x77 v106x80) fun u => K82 u H81) H81 fun v107x83 H84 =>
    ob (vPick v103x75 (.bool true) v107x83) fun v108x85 =>
    gop v108x85 false (fun K86 => K86 v62x19 H84) H84 fun v110x87 H88 =>
    gop v108x85 false (fun K89 => K89 v110x87 H88) H88 fun v111x90 H91 =>
    gop v111x90 true (fun K92 => K92 v57x14 H91) H91 fun v112x93 H94 =>
    gop v111x90 true (fun K95 => ob (vUn .not v112x93) fun u => K95 u H94) H94 fun v113x96 H97 =>
    gop v108x85 false (fun K98 => ob (vPick v111x90 v113x96 (.bool false)) fun u => K98 u H97) H97 fun v114x99 H100 =>
    ob (vPick v108x85 (.bool true) v114x99) fun v115x101 =>
    gop v115x101 false (fun K102 => K102 v57x14 H100) H100 fun v117x103 H104 =>
    gop v115x101 false (fun K105 => K105 v117x103 H104) H104 fun v118x106 H107 =>
    gop v118x106 true (fun K108 => K108 v67x24 H107) H107 fun v119x109 H110 =>
    gop v118x106 true (fun K111 => ob (vUn .not v119x109) fun u => K111 u H110) H110 fun v120x112 H113 =>
    gop v115x101 false (fun K114 => ob (vPick v118x106 v120x112 (.bool false)) fun u => K114 u H113) H113 fun v121x115 H116 =>
    ob (vPick v115x101 (.bool true) v121x115) fun v122x117 =>
    cnd v122x117
      (K (.bool false) H116)
      (HT prg I.laws_b10At [(σ10 1), (.int .i64 2), (.int .i64 8)].toArray H116 fun v125x118 H119 =>
    ob (vInt .add (.int .i64 1) v125x118) fun v126x120 =>
    HT prg I.spec_B10Ring [(σ10 1), (.int .i64 2), v126x120].toArray H119 fun v127x121 H122 =>
    ob (vLoadN 3 (σ10 6) H122) fun v129x123 =>
    HT prg I.impl_WordsBack [v129x123, v127x121].toArray H122 fun v131x124 H125 =>
    ob (vExt v131x124 0) fun v132x126 =>
    ob (vExt v131x124 1) fun v133x127 =>
    ob (vLoadN 3 (σ10 6) H125) fun v135x128 =>
    HT prg I.spec_WordsBack [v135x128, v127x121].toArray H125 fun v137x129 H130 =>
    ob (vExt v137x129 0) fun v138x131 =>
    ob (vExt v137x129 1) fun v139x132 =>
    ob (vUn .not v133x127) fun v141x133 =>
    gop v141x133 false (fun K134 => K134 v139x132 H130) H130 fun v143x135 H136 =>
    gop v141x133 false (fun K137 => ob (vUn .not v143x135) fun u => K137 u H136) H136 fun v144x138 H139 =>
    ob (vPick v141x133 (.bool true) v144x138) fun v145x140 =>
    gop v145x140 false (fun K141 => K141 v132x126 H139) H139 fun v147x142 H143 =>
    gop v145x140 false (fun K144 => K144 v138x131 H143) H143 fun v148x145 H146 =>
    gop v145x140 false (fun K147 => ob (vInt .neq v147x142 v148x145) fun u => K147 u H146) H146 fun v149x148 H149 =>
    ob (vPick v145x140 (.bool true) v149x148) fun v150x150 =>
    gop v150x150 false (fun K151 => K151 v57x14 H149) H149 fun v152x152 H153 =>
    gop v150x150 false (fun K154 => K154 v152x152 H153) H153 fun v153x155 H156 =>
    gop v153x155 true (fun K157 => K157 v132x126 H156) H156 fun v154x158 H159 =>
    gop v153x155 true (fun K160 => K160 (σ10 5) H159) H159 fun v155x161 H162 =>
    gop v153x155 true (fun K163 => ob (vInt .mul (.int .i64 2) v155x161) fun u => K163 u H162) H162 fun v156x164 H165 =>
    gop v153x155 true (fun K166 => ob (vInt .shl (.int .i64 1) v156x164) fun u => K166 u H165) H165 fun v157x167 H168 =>
    gop v153x155 true (fun K169 => ob (vInt .neq v154x158 v157x167) fun u => K169 u H168) H168 fun v158x170 H171 =>
    gop v150x150 false (fun K172 => ob (vPick v153x155 v158x170 (.bool false)) fun u => K172 u H171) H171 fun v159x173 H174 =>
    ob (vPick v150x150 (.bool true) v159x173) fun v160x175 =>
    cnd v160x175
      (K (.bool false) H174)
      (ob (vLoadN 3 (σ10 6) H174) fun v162x176 =>
    HT prg I.impl_OrphanOf [v162x176, (.int .i64 6)].toArray H174 fun v163x177 H178 =>
    ob (vExt v163x177 0) fun v164x179 =>
    ob (vExt v163x177 1) fun v165x180 =>
    ob (vLoadN 3 (σ10 6) H178) fun v167x181 =>
    HT prg I.spec_OrphanOf [v167x181, (.int .i64 6)].toArray H178 fun v168x182 H183 =>
    ob (vExt v168x182 0) fun v169x184 =>
    ob (vExt v168x182 1) fun v170x185 =>
    ob (vBool .neq v165x180 v170x185) fun v173x186 =>
    gop v173x186 false (fun K187 => K187 v165x180 H183) H183 fun v175x188 H189 =>
    gop v173x186 false (fun K190 => K190 v175x188 H189) H189 fun v176x191 H192 =>
    gop v176x191 true (fun K193 => K193 v57x14 H192) H192 fun v177x194 H195 =>
    gop v176x191 true (fun K196 => K196 v177x194 H195) H195 fun v178x197 H198 =>
    gop v178x197 false (fun K199 => K199 v164x179 H198) H198 fun v179x200 H201 =>
    gop v178x197 false (fun K202 => K202 v169x184 H201) H201 fun v180x203 H204 =>
    gop v178x197 false (fun K205 => HT prg I.laws_b10Ints [v179x200, v180x203].toArray H204 K205) H204 fun v181x206 H207 =>
    gop v178x197 false (fun K208 => ob (vUn .not v181x206) fun u => K208 u H207) H207 fun v182x209 H210 =>
    gop v176x191 true (fun K211 => ob (vPick v178x197 (.bool true) v182x209) fun u => K211 u H210) H210 fun v183x212 H213 =>
    gop v173x186 false (fun K214 => ob (vPick v176x191 v183x212 (.bool false)) fun u => K214 u H213) H213 fun v184x215 H216 =>
    ob (vPick v173x186 (.bool true) v184x215) fun v185x217 =>
    cnd v185x217
      (K (.bool false) H216)
      (jn (fun σ218 H218 =>
      ob (vInt .mul (.int .i64 2) (σ218 5)) fun v200x219 =>
      ob (vInt .add v200x219 (.int .i64 1)) fun v201x220 =>
      HT prg I.laws_b10At [(σ218 1), (.int .i64 3), (.int .i64 3)].toArray H218 fun v203x221 H222 =>
      ob (vInt .add v201x220 v203x221) fun v204x223 =>
      ob (vLoadN 3 (σ218 6) H222) fun v206x224 =>
      HT prg I.impl_GardensOf [v206x224, v204x223].toArray H222 fun v208x225 H226 =>
      ob (vExt v208x225 0) fun v209x227 =>
      ob (vExt v208x225 1) fun v210x228 =>
      ob (vLoadN 3 (σ218 6) H226) fun v212x229 =>
      HT prg I.impl_ImagesOf [v212x229, v204x223].toArray H226 fun v214x230 H231 =>
      ob (vExt v214x230 0) fun v215x232 =>
      ob (vExt v214x230 1) fun v216x233 =>
      gop v210x228 true (fun K234 => K234 v216x233 H231) H231 fun v219x235 H236 =>
      ob (vPick v210x228 v219x235 (.bool false)) fun v220x237 =>
      gop v220x237 true (fun K238 => K238 v209x227 H236) H236 fun v222x239 H240 =>
      gop v220x237 true (fun K241 => K241 v215x232 H240) H240 fun v223x242 H243 =>
      gop v220x237 true (fun K244 => ob (vInt .add v222x239 v223x242) fun u => K244 u H243) H243 fun v224x245 H246 =>
      gop v220x237 true (fun K247 => K247 v204x223 H246) H246 fun v225x248 H249 =>
      gop v220x237 true (fun K250 => ob (vInt .shl (.int .i64 1) v225x248) fun u => K250 u H249) H249 fun v226x251 H252 =>
      gop v220x237 true (fun K253 => ob (vInt .eql v224x245 v226x251) fun u => K253 u H252) H252 fun v227x254 H255 =>
      ob (vPick v220x237 v227x254 (.bool false)) fun v228x256 =>
      gop v228x256 true (fun K257 => K257 v209x227 H255) H255 fun v230x258 H259 =>
      gop v228x256 true (fun K260 => ob (vInt .geq v230x258 (.int .i64 0)) fun u => K260 u H259) H259 fun v231x261 H262 =>
      ob (vPick v228x256 v231x261 (.bool false)) fun v232x263 =>
      gop v232x263 true (fun K264 => K264 (σ218 11) H262) H262 fun v234x265 H266 =>
      gop v232x263 true (fun K267 => ob (vUn .not v234x265) fun u => K267 u H266) H266 fun v235x268 H269 =>
      gop v232x263 true (fun K270 => K270 v235x268 H269) H269 fun v236x271 H272 =>
      gop v236x271 false (fun K273 => K273 v209x227 H272) H272 fun v237x274 H275 =>
      gop v236x271 false (fun K276 => ob (vInt .eql v237x274 (.int .i64 0)) fun u => K276 u H275) H275 fun v238x277 H278 =>
      gop v232x263 true (fun K279 => ob (vPick v236x271 (.bool true) v238x277) fun u => K279 u H278) H278 fun v239x280 H281 =>
      ob (vPick v232x263 v239x280 (.bool false)) fun v240x282 =>
      K v240x282 H281) fun J218 =>
    cnd v165x180
      (ob (vLoadN 3 (σ10 6) H216) fun v188x283 =>
      HT prg I.impl_WordsBack [v188x283, v164x179].toArray H216 fun v190x284 H285 =>
      ob (vExt v190x284 0) fun v191x286 =>
      ob (vExt v190x284 1) fun v192x287 =>
      ob (vUn .not v192x287) fun v194x288 =>
      gop v194x288 false (fun K289 => K289 v191x286 H285) H285 fun v196x290 H291 =>
      gop v194x288 false (fun K292 => ob (vInt .neq v196x290 (.int .i64 0)) fun u => K292 u H291) H291 fun v197x293 H294 =>
      ob (vPick v194x288 (.bool true) v197x293) fun v198x295 =>
      cnd v198x295
        (K (.bool false) H294)
        (J218 (up (up (up (up (up (up (up (up (up (up (up (up (up (up (up (up (up (up (up (up (up (up (up (up (up (up (up (up (up (up (up (up (up (up (up (up (up (up (up (up (up (up (up (up (up (up (up (up (up (up (up (up (up (up (up (up (up (up (up (up (up (up (up (up (up (up (up (up (up (up (up (up (up (up (up (up (up (up (up (up (up (up (up (up (up (up (up (up (up (up (up (up (up (up (up (up (up (up (up (up (up (up (up (up (up (up (up (up (up (up (up (up (up (up (up (up (up (up (up (up (up (up (up (up (up (up (up (up (up (up (up (up (up (up (up (up (up (up (up (up (up (up (up (up (up (up (up (up (up (up (up (up (up (up (up (up (up (up (up (up (up (up (up (up (up (up (up (up σ10 55 v55x11) 56 v56x12) 54 v56x12) 57 v57x14) 58 v58x15) 9 v57x14) 10 v58x15) 60 v60x16) 61 v61x17) 59 v61x17) 62 v62x19) 63 v63x20) 11 v62x19) 12 v63x20) 65 v65x21) 66 v66x22) 64 v66x22) 67 v67x24) 68 v68x25) 13 v67x24) 14 v68x25) 70 v70x26) 71 v71x27) 69 v71x27) 72 v72x29) 73 v73x30) 15 v72x29) 16 v73x30) 75 v75x31) 76 v76x32) 74 v76x32) 77 v77x34) 78 v78x35) 17 v77x34) 18 v78x35) 80 v80x36) 81 v81x37) 79 v81x37) 82 v82x39) 83 v83x40) 19 v82x39) 20 v83x40) 84 v58x15) 85 v85x41) 86 v85x41) 87 v87x43) 88 v88x46) 89 v89x48) 90 v89x48) 91 v91x50) 92 v92x53) 93 v93x55) 94 v93x55) 95 v95x57) 96 v96x60) 97 v97x63) 98 v98x65) 99 v98x65) 100 v100x67) 101 v101x70) 102 v102x73) 103 v103x75) 104 v103x75) 105 v105x77) 106 v106x80) 107 v107x83) 108 v108x85) 109 v108x85) 110 v110x87) 111 v111x90) 112 v112x93) 113 v113x96) 114 v114x99) 115 v115x101) 116 v115x101) 117 v117x103) 118 v118x106) 119 v119x109) 120 v120x112) 121 v121x115) 122 v122x117) 123 (σ10 1)) 124 (σ10 1)) 125 v125x118) 126 v126x120) 127 v127x121) 21 v127x121) 129 v129x123) 130 v127x121) 131 v131x124) 128 v131x124) 132 v132x126) 133 v133x127) 22 v132x126) 23 v133x127) 135 v135x128) 136 v127x121) 137 v137x129) 134 v137x129) 138 v138x131) 139 v139x132) 24 v138x131) 25 v139x132) 140 v133x127) 141 v141x133) 142 v141x133) 143 v143x135) 144 v144x138) 145 v145x140) 146 v145x140) 147 v147x142) 148 v148x145) 149 v149x148) 150 v150x150) 151 v150x150) 152 v152x152) 153 v153x155) 154 v154x158) 155 v155x161) 156 v156x164) 157 v157x167) 158 v158x170) 159 v159x173) 160 v160x175) 162 v162x176) 163 v163x177) 161 v163x177) 164 v164x179) 165 v165x180) 26 v164x179) 27 v165x180) 167 v167x181) 168 v168x182) 166 v168x182) 169 v169x184) 170 v170x185) 28 v169x184) 29 v170x185) 171 v165x180) 172 v170x185) 173 v173x186) 174 v173x186) 175 v175x188) 176 v176x191) 177 v177x194) 178 v178x197) 179 v179x200) 180 v180x203) 181 v181x206) 182 v182x209) 183 v183x212) 184 v184x215) 185 v185x217) 186 v165x180) 188 v188x283) 189 v164x179) 190 v190x284) 187 v190x284) 191 v191x286) 192 v192x287) 30 v191x286) 31 v192x287) 193 v192x287) 194 v194x288) 195 v194x288) 196 v196x290) 197 v197x293) 198 v198x295) H294))
      (J218 (up (up (up (up (up (up (up (up (up (up (up (up (up (up (up (up (up (up (up (up (up (up (up (up (up (up (up (up (up (up (up (up (up (up (up (up (up (up (up (up (up (up (up (up (up (up (up (up (up (up (up (up (up (up (up (up (up (up (up (up (up (up (up (up (up (up (up (up (up (up (up (up (up (up (up (up (up (up (up (up (up (up (up (up (up (up (up (up (up (up (up (up (up (up (up (up (up (up (up (up (up (up (up (up (up (up (up (up (up (up (up (up (up (up (up (up (up (up (up (up (up (up (up (up (up (up (up (up (up (up (up (up (up (up (up (up (up (up (up (up (up (up (up (up (up (up (up (up (up (up (up (up (up (up σ10 55 v55x11) 56 v56x12) 54 v56x12) 57 v57x14) 58 v58x15) 9 v57x14) 10 v58x15) 60 v60x16) 61 v61x17) 59 v61x17) 62 v62x19) 63 v63x20) 11 v62x19) 12 v63x20) 65 v65x21) 66 v66x22) 64 v66x22) 67 v67x24) 68 v68x25) 13 v67x24) 14 v68x25) 70 v70x26) 71 v71x27) 69 v71x27) 72 v72x29) 73 v73x30) 15 v72x29) 16 v73x30) 75 v75x31) 76 v76x32) 74 v76x32) 77 v77x34) 78 v78x35) 17 v77x34) 18 v78x35) 80 v80x36) 81 v81x37) 79 v81x37) 82 v82x39) 83 v83x40) 19 v82x39) 20 v83x40) 84 v58x15) 85 v85x41) 86 v85x41) 87 v87x43) 88 v88x46) 89 v89x48) 90 v89x48) 91 v91x50) 92 v92x53) 93 v93x55) 94 v93x55) 95 v95x57) 96 v96x60) 97 v97x63) 98 v98x65) 99 v98x65) 100 v100x67) 101 v101x70) 102 v102x73) 103 v103x75) 104 v103x75) 105 v105x77) 106 v106x80) 107 v107x83) 108 v108x85) 109 v108x85) 110 v110x87) 111 v111x90) 112 v112x93) 113 v113x96) 114 v114x99) 115 v115x101) 116 v115x101) 117 v117x103) 118 v118x106) 119 v119x109) 120 v120x112) 121 v121x115) 122 v122x117) 123 (σ10 1)) 124 (σ10 1)) 125 v125x118) 126 v126x120) 127 v127x121) 21 v127x121) 129 v129x123) 130 v127x121) 131 v131x124) 128 v131x124) 132 v132x126) 133 v133x127) 22 v132x126) 23 v133x127) 135 v135x128) 136 v127x121) 137 v137x129) 134 v137x129) 138 v138x131) 139 v139x132) 24 v138x131) 25 v139x132) 140 v133x127) 141 v141x133) 142 v141x133) 143 v143x135) 144 v144x138) 145 v145x140) 146 v145x140) 147 v147x142) 148 v148x145) 149 v149x148) 150 v150x150) 151 v150x150) 152 v152x152) 153 v153x155) 154 v154x158) 155 v155x161) 156 v156x164) 157 v157x167) 158 v158x170) 159 v159x173) 160 v160x175) 162 v162x176) 163 v163x177) 161 v163x177) 164 v164x179) 165 v165x180) 26 v164x179) 27 v165x180) 167 v167x181) 168 v168x182) 166 v168x182) 169 v169x184) 170 v170x185) 28 v169x184) 29 v170x185) 171 v165x180) 172 v170x185) 173 v173x186) 174 v173x186) 175 v175x188) 176 v176x191) 177 v177x194) 178 v178x197) 179 v179x200) 180 v180x203) 181 v181x206) 182 v182x209) 183 v183x212) 184 v184x215) 185 v185x217) 186 v165x180) H216))))) fun J10 =>
  HT prg I.laws_b10At [a1, (.int .i64 1), (.int .i64 2)].toArray H9 fun v46x296 H297 =>
  ob (vInt .eql v46x296 (.int .i64 0)) fun v47x298 =>
  cnd v47x298
    (HT prg I.spec_B10Adding [a0, (.int .i64 2)].toArray H297 fun v50x299 H300 =>
    ob (vExt v50x299 0) fun v51x301 =>
    ob (vExt v50x299 1) fun v52x302 =>
    nw #[(.int .i64 0), (.int .i64 0), (.slice none 0 0)] 43 H300 fun v7x303 H304 =>
    st 3 v7x303 v51x301 H304 fun H305 =>
    ob (vLoadN 3 v7x303 H305) fun v53x306 =>
    st 3 v6x7 v53x306 H305 fun H307 =>
    J10 (up (up (up (up (up (up (up (up (up (up (up (up (up (up (up (up (up (up (up (up (up (up (up (S0 [a0, a1]) 4 (.bool false)) 37 a0) 38 a1) 39 v39x1) 40 a1) 41 v41x3) 5 v41x3) 42 a0) 43 v41x3) 44 v44x5) 6 v6x7) 45 a1) 46 v46x296) 47 v47x298) 49 a0) 50 v50x299) 48 v50x299) 51 v51x301) 52 v52x302) 7 v7x303) 8 v52x302) 53 v53x306) 5 (.int .i64 1)) H307)
    (J10 (up (up (up (up (up (up (up (up (up (up (up (up (up (up (S0 [a0, a1]) 4 (.bool false)) 37 a0) 38 a1) 39 v39x1) 40 a1) 41 v41x3) 5 v41x3) 42 a0) 43 v41x3) 44 v44x5) 6 v6x7) 45 a1) 46 v46x296) 47 v47x298) H297))
def O.laws_FnOnto : Nat → Nat × List Nat := fun i => (0, [])
theorem R.laws_FnOnto {a0 a1 : Value} {H : Hp} {K : Value → Hp → Prop} (h : F.laws_FnOnto a0 a1 H K) : HT prg I.laws_FnOnto [a0, a1].toArray H K :=
  HT_of_fev O.laws_FnOnto mixed Try.func9 (by kernel_rfl) (Eq.mpr (by kernel_rfl : fev prg O.laws_FnOnto Try.f9 [a0, a1] H K = F.laws_FnOnto a0 a1 H K) h)

/-! (loop.example/g01381/impl.Rule).zeros: function 160 -/
def F.impl_Rule_zeros (a0 a1 : Value) (H : Hp) (K : Value → Hp → Prop) : Prop :=
  nw (a0 : Value).cells 43 H fun v2x1 H2 =>
  ob (vLoadN 3 v2x1 H2) fun v5x3 =>
  ob (vLoadN 3 v2x1 H2) fun v6x4 =>
  ob (vLenSl a1) fun v9x5 =>
  HT prg I.impl_Rule_cells [v6x4].toArray H2 fun v7x6 H7 =>
  Le H2 H7 ∧ (ob (vInt .sub v7x6 v9x5) fun v10x8 =>
  mkS 1 8 #[(.int .i64 0)] 2 v10x8 v10x8 H7 fun v11x9 H10 =>
  apd 1 8 #[(.int .i64 0)] 2 v11x9 a1 H10 fun v13x11 H12 =>
  Le H10 H12 ∧ (HT prg I.impl_Rule_tells [v5x3, v13x11].toArray H12 fun v14x13 H14 =>
  Le H12 H14 ∧ (K v14x13 H14)))
def O.impl_Rule_zeros : Nat → Nat × List Nat := fun i => bif Nat.beq i 1 then (1, [0, 1, 3, 4, 7, 2, 5, 6, 8, 9, 10]) else (0, [])
theorem R.impl_Rule_zeros {a0 a1 : Value} {H : Hp} {K : Value → Hp → Prop} (h : F.impl_Rule_zeros a0 a1 H K) : HT prg I.impl_Rule_zeros [a0, a1].toArray H K :=
  HT_of_fev O.impl_Rule_zeros mixed Try.func160 (by kernel_rfl) (Eq.mpr (by kernel_rfl : fev prg O.impl_Rule_zeros Try.f160 [a0, a1] H K = F.impl_Rule_zeros a0 a1 H K) h)

/-! (loop.example/g01381/impl.Rule).keepsSum: function 154 -/
def F.impl_Rule_keepsSum (a0 : Value) (H : Hp) (K : Value → Hp → Prop) : Prop :=
  nw (a0 : Value).cells 43 H fun v1x1 H2 =>
  ob (vLoadN 3 v1x1 H2) fun v9x3 =>
  HT prg I.impl_Rule_cells [v9x3].toArray H2 fun v10x4 H5 =>
  jn (fun σ6 H6 =>
    K (.bool true) H6) fun J6 =>
  ob (vFa 2 v1x1) fun v11x7 =>
  ob (vLoad v11x7 H5) fun v12x8 =>
  ob (vLenSl v12x8) fun v13x9 =>
  lpE (fun Q10 σ10 H10 =>
    ob (vInt .lss (σ10 14) (σ10 13)) fun v15x11 =>
    cnd v15x11
      (jn (fun σ12 H12 =>
      ob (vInt .add (σ12 14) (.int .i64 1)) fun v53x13 =>
      Q10 .normal (up (up σ12 53 v53x13) 14 v53x13) H12) fun J12 =>
    ob (vIx 1 (σ10 12) (σ10 14)) fun v17x14 =>
    ob (vLoad v17x14 H10) fun v18x15 =>
    ob (vFa 0 (σ10 1)) fun v20x16 =>
    ob (vLoad v20x16 H10) fun v21x17 =>
    HT prg I.impl_digitsOf [(σ10 14), v21x17, (σ10 3)].toArray H10 fun v23x18 H19 =>
    ob (vIx 1 v23x18 (.int .i64 0)) fun v25x20 =>
    ob (vLoad v25x20 H19) fun v26x21 =>
    jn (fun σ22 H22 =>
      ob (vInt .neq (σ22 7) (σ22 5)) fun v52x23 =>
      cnd v52x23
        (Q10 .ret (up (up (up (up σ22 50 (σ22 7)) 51 (σ22 5)) 52 v52x23) 2 (.bool false)) H22)
        (J12 (up (up (up σ22 50 (σ22 7)) 51 (σ22 5)) 52 v52x23) H22)) fun J22 =>
    lpE (fun Q24 σ24 H24 =>
      ob (vInt .lss (σ24 8) (σ24 3)) fun v29x25 =>
      cnd v29x25
        (ob (vLoadN 3 (σ24 1) H24) fun v33x26 =>
      ob (vInt .sub (σ24 3) (σ24 8)) fun v37x27 =>
      ob (vInt .add v37x27 (.int .i64 1)) fun v38x28 =>
      ob (vSl3 1 (σ24 6) (some (.int .i64 1)) (some v38x28) none) fun v39x29 =>
      ob (vLoadN 3 (σ24 1) H24) fun v41x30 =>
      ob (vInt .sub (σ24 3) (σ24 8)) fun v45x31 =>
      ob (vSl3 1 (σ24 6) none (some v45x31) none) fun v46x32 =>
      HT prg I.impl_Rule_zeros [v33x26, v39x29].toArray H24 fun v40x33 H34 =>
      Le H24 H34 ∧ (HT prg I.impl_Rule_zeros [v41x30, v46x32].toArray H34 fun v47x35 H36 =>
      Le H34 H36 ∧ (ob (vInt .sub v40x33 v47x35) fun v48x37 =>
      ob (vInt .add (σ24 7) v48x37) fun v49x38 =>
      ob (vInt .add (σ24 8) (.int .i64 1)) fun v31x39 =>
      Q24 .normal (up (up (up (up (up (up (up (up (up (up (up (up (up (up (up (up (up (up (up (up (up (up (up (up (up σ24 27 (σ24 8)) 28 (σ24 3)) 29 v29x25) 32 (σ24 7)) 33 v33x26) 34 (σ24 6)) 35 (σ24 3)) 36 (σ24 8)) 37 v37x27) 38 v38x28) 39 v39x29) 41 v41x30) 42 (σ24 6)) 43 (σ24 3)) 44 (σ24 8)) 45 v45x31) 46 v46x32) 40 v40x33) 47 v47x35) 48 v48x37) 49 v49x38) 7 v49x38) 30 (σ24 8)) 31 v31x39) 8 v31x39) H36)))
        (Q24 (.exit 2) (up (up (up σ24 27 (σ24 8)) 28 (σ24 3)) 29 v29x25) H24)) (blkQ 2 (thenQ J22 (blkQ 1 (thenQ J12 Q10)))) (up (up (up (up (up (up (up (up (up (up (up (up (up (up (up (up (up σ10 15 v15x11) 16 (σ10 14)) 17 v17x14) 18 v18x15) 4 (σ10 14)) 5 v18x15) 19 (σ10 14)) 20 v20x16) 21 v21x17) 22 (σ10 3)) 23 v23x18) 6 v23x18) 24 v23x18) 25 v25x20) 26 v26x21) 7 v26x21) 8 (.int .i64 1)) H19)
      (Q10 (.exit 0) (up σ10 15 v15x11) H10)) (blkQ 0 (thenQ J6 (retQ prg [(.tmp 2)] K))) (up (up (up (up (up (up (up (up (up (S0 [a0]) 1 v1x1) 2 (.bool false)) 9 v9x3) 10 v10x4) 3 v10x4) 11 v11x7) 12 v12x8) 13 v13x9) 14 (.int .i64 0)) H5
def O.impl_Rule_keepsSum : Nat → Nat × List Nat := fun i => bif Nat.beq i 10 then (0, [0, 1, 2, 3, 4, 5, 6, 7, 9, 10, 11, 12, 13, 14, 8, 15, 16, 17, 18]) else (0, [])
theorem R.impl_Rule_keepsSum {a0 : Value} {H : Hp} {K : Value → Hp → Prop} (h : F.impl_Rule_keepsSum a0 H K) : HT prg I.impl_Rule_keepsSum [a0].toArray H K :=
  HT_of_fev O.impl_Rule_keepsSum mixed Try.func154 (by kernel_rfl) (Eq.mpr (by kernel_rfl : fev prg O.impl_Rule_keepsSum Try.f154 [a0] H K = F.impl_Rule_keepsSum a0 H K) h)

/-! loop.example/g01381/impl.KeepsSum: function 72 -/
def F.impl_KeepsSum (a0 : Value) (H : Hp) (K : Value → Hp → Prop) : Prop :=
  nw (a0 : Value).cells 43 H fun v1x1 H2 =>
  ob (vLoadN 3 v1x1 H2) fun v4x3 =>
  HT prg I.impl_ValidRule [v4x3].toArray H2 fun v5x4 H5 =>
  ob (vUn .not v5x4) fun v6x6 =>
  cnd v6x6
    (K (.tuple #[(.bool false), (.bool false)]) H5)
    (ob (vLoadN 3 v1x1 H5) fun v7x7 =>
  HT prg I.impl_Rule_keepsSum [v7x7].toArray H5 fun v8x8 H9 =>
  K (.tuple #[v8x8, (.bool true)]) H9)
def O.impl_KeepsSum : Nat → Nat × List Nat := fun i => (0, [])
theorem R.impl_KeepsSum {a0 : Value} {H : Hp} {K : Value → Hp → Prop} (h : F.impl_KeepsSum a0 H K) : HT prg I.impl_KeepsSum [a0].toArray H K :=
  HT_of_fev O.impl_KeepsSum mixed Try.func72 (by kernel_rfl) (Eq.mpr (by kernel_rfl : fev prg O.impl_KeepsSum Try.f72 [a0] H K = F.impl_KeepsSum a0 H K) h)

/-! loop.example/g01381/spec.l03Behind: function 192 -/
def F.spec_l03Behind (a0 a1 a2 a3 : Value) (H : Hp) (K : Value → Hp → Prop) : Prop :=
  jn (fun σ1 H1 =>
    ob (vNilC (σ1 0)) fun v33x2 =>
    ob (vFa 2 v33x2) fun v34x3 =>
    ob (vLoad v34x3 H1) fun v35x4 =>
    ob (vIx 1 v35x4 (σ1 9)) fun v37x5 =>
    ob (vLoad v37x5 H1) fun v38x6 =>
    K v38x6 H1) fun J1 =>
  lpE (fun Q7 σ7 H7 =>
    HT prg I.spec_l03Wide [(σ7 0)].toArray H7 fun v13x8 H9 =>
    ob (vInt .sub v13x8 (σ7 2)) fun v15x10 =>
    ob (vInt .lss (σ7 10) v15x10) fun v16x11 =>
    cnd v16x11
      (ob (vNilC (σ7 0)) fun v21x12 =>
    ob (vFa 0 v21x12) fun v22x13 =>
    ob (vLoad v22x13 H9) fun v23x14 =>
    ob (vInt .mul (σ7 9) v23x14) fun v24x15 =>
    ob (vInt .add (σ7 3) (σ7 10)) fun v28x16 =>
    ob (vIx 1 (σ7 1) v28x16) fun v29x17 =>
    ob (vLoad v29x17 H9) fun v30x18 =>
    ob (vInt .add v24x15 v30x18) fun v31x19 =>
    ob (vInt .add (σ7 10) (.int .i64 1)) fun v18x20 =>
    Q7 .normal (up (up (up (up (up (up (up (up (up (up (up (up (up (up (up (up (up (up (up (up (up (up (up σ7 11 (σ7 10)) 12 (σ7 0)) 13 v13x8) 14 (σ7 2)) 15 v15x10) 16 v16x11) 19 (σ7 9)) 20 (σ7 0)) 21 v21x12) 22 v22x13) 23 v23x14) 24 v24x15) 25 (σ7 1)) 26 (σ7 3)) 27 (σ7 10)) 28 v28x16) 29 v29x17) 30 v30x18) 31 v31x19) 9 v31x19) 17 (σ7 10)) 18 v18x20) 10 v18x20) H9)
      (Q7 (.exit 0) (up (up (up (up (up (up σ7 11 (σ7 10)) 12 (σ7 0)) 13 v13x8) 14 (σ7 2)) 15 v15x10) 16 v16x11) H9)) (blkQ 0 (thenQ J1 (retQ prg [(.tmp 8)] K))) (up (up (up (S0 [a0, a1, a2, a3]) 8 (.int .i64 0)) 9 (.int .i64 0)) 10 (.int .i64 0)) H
def O.spec_l03Behind : Nat → Nat × List Nat := fun i => bif Nat.beq i 5 then (0, [0, 1, 2, 3, 4, 5, 6, 7, 8, 9, 10, 11, 12, 13]) else (0, [])
theorem R.spec_l03Behind {a0 a1 a2 a3 : Value} {H : Hp} {K : Value → Hp → Prop} (h : F.spec_l03Behind a0 a1 a2 a3 H K) : HT prg I.spec_l03Behind [a0, a1, a2, a3].toArray H K :=
  HT_of_fev O.spec_l03Behind mixed Try.func192 (by kernel_rfl) (Eq.mpr (by kernel_rfl : fev prg O.spec_l03Behind Try.f192 [a0, a1, a2, a3] H K = F.spec_l03Behind a0 a1 a2 a3 H K) h)

/-! loop.example/g01381/spec.l03Keeps: function 155 -/
def F.spec_l03Keeps (a0 : Value) (H : Hp) (K : Value → Hp → Prop) : Prop :=
  HT prg I.spec_l03Wide [a0].toArray H fun v9x1 H2 =>
  jn (fun σ3 H3 =>
    K (.bool true) H3) fun J3 =>
  ob (vNilC a0) fun v11x4 =>
  ob (vFa 2 v11x4) fun v12x5 =>
  ob (vLoad v12x5 H2) fun v13x6 =>
  ob (vLenSl v13x6) fun v14x7 =>
  lpE (fun Q8 σ8 H8 =>
    ob (vInt .lss (σ8 15) (σ8 14)) fun v16x9 =>
    cnd v16x9
      (jn (fun σ10 H10 =>
      ob (vInt .add (σ10 15) (.int .i64 1)) fun v53x11 =>
      Q8 .normal (up (up σ10 53 v53x11) 15 v53x11) H10) fun J10 =>
    ob (vNilC (σ8 0)) fun v20x12 =>
    ob (vFa 0 v20x12) fun v21x13 =>
    ob (vLoad v21x13 H8) fun v22x14 =>
    HT prg I.spec_l03Cells [(σ8 15), v22x14, (σ8 3)].toArray H8 fun v24x15 H16 =>
    ob (vIx 1 v24x15 (.int .i64 0)) fun v26x17 =>
    ob (vLoad v26x17 H16) fun v27x18 =>
    jn (fun σ19 H19 =>
      ob (vNilC (σ19 0)) fun v46x20 =>
      ob (vFa 2 v46x20) fun v47x21 =>
      ob (vLoad v47x21 H19) fun v48x22 =>
      ob (vIx 1 v48x22 (σ19 4)) fun v50x23 =>
      ob (vLoad v50x23 H19) fun v51x24 =>
      ob (vInt .neq (σ19 6) v51x24) fun v52x25 =>
      cnd v52x25
        (Q8 .ret (up (up (up (up (up (up (up (up (up (up σ19 44 (σ19 6)) 45 (σ19 0)) 46 v46x20) 47 v47x21) 48 v48x22) 49 (σ19 4)) 50 v50x23) 51 v51x24) 52 v52x25) 2 (.bool false)) H19)
        (J10 (up (up (up (up (up (up (up (up (up σ19 44 (σ19 6)) 45 (σ19 0)) 46 v46x20) 47 v47x21) 48 v48x22) 49 (σ19 4)) 50 v50x23) 51 v51x24) 52 v52x25) H19)) fun J19 =>
    lpE (fun Q26 σ26 H26 =>
      ob (vInt .lss (σ26 7) (σ26 3)) fun v30x27 =>
      cnd v30x27
        (HT prg I.spec_l03Behind [(σ26 0), (σ26 5), (σ26 7), (.int .i64 1)].toArray H26 fun v37x28 H29 =>
      HT prg I.spec_l03Behind [(σ26 0), (σ26 5), (σ26 7), (.int .i64 0)].toArray H29 fun v41x30 H31 =>
      ob (vInt .sub v37x28 v41x30) fun v42x32 =>
      ob (vInt .add (σ26 6) v42x32) fun v43x33 =>
      ob (vInt .add (σ26 7) (.int .i64 1)) fun v32x34 =>
      Q26 .normal (up (up (up (up (up (up (up (up (up (up (up (up (up (up (up (up (up (up σ26 28 (σ26 7)) 29 (σ26 3)) 30 v30x27) 33 (σ26 6)) 34 (σ26 0)) 35 (σ26 5)) 36 (σ26 7)) 37 v37x28) 38 (σ26 0)) 39 (σ26 5)) 40 (σ26 7)) 41 v41x30) 42 v42x32) 43 v43x33) 6 v43x33) 31 (σ26 7)) 32 v32x34) 7 v32x34) H31)
        (Q26 (.exit 2) (up (up (up σ26 28 (σ26 7)) 29 (σ26 3)) 30 v30x27) H26)) (blkQ 2 (thenQ J19 (blkQ 1 (thenQ J10 Q8)))) (up (up (up (up (up (up (up (up (up (up (up (up (up (up (up (up σ8 16 v16x9) 17 (σ8 15)) 4 (σ8 15)) 18 (σ8 15)) 19 (σ8 0)) 20 v20x12) 21 v21x13) 22 v22x14) 23 (σ8 3)) 24 v24x15) 5 v24x15) 25 v24x15) 26 v26x17) 27 v27x18) 6 v27x18) 7 (.int .i64 1)) H16)
      (Q8 (.exit 0) (up σ8 16 v16x9) H8)) (blkQ 0 (thenQ J3 (retQ prg [(.tmp 2)] K))) (up (up (up (up (up (up (up (up (up (up (S0 [a0]) 2 (.bool false)) 8 a0) 9 v9x1) 3 v9x1) 10 a0) 11 v11x4) 12 v12x5) 13 v13x6) 14 v14x7) 15 (.int .i64 0)) H2
def O.spec_l03Keeps : Nat → Nat × List Nat := fun i => (0, [])
theorem R.spec_l03Keeps {a0 : Value} {H : Hp} {K : Value → Hp → Prop} (h : F.spec_l03Keeps a0 H K) : HT prg I.spec_l03Keeps [a0].toArray H K :=
  HT_of_fev O.spec_l03Keeps mixed Try.func155 (by kernel_rfl) (Eq.mpr (by kernel_rfl : fev prg O.spec_l03Keeps Try.f155 [a0] H K = F.spec_l03Keeps a0 H K) h)

/-! loop.example/g01381/spec.KeepsSum: function 73 -/
def F.spec_KeepsSum (a0 : Value) (H : Hp) (K : Value → Hp → Prop) : Prop :=
  nw (a0 : Value).cells 43 H fun v1x1 H2 =>
  HT prg I.spec_l02Is [v1x1].toArray H2 fun v4x3 H4 =>
  ob (vUn .not v4x3) fun v5x5 =>
  cnd v5x5
    (K (.tuple #[(.bool false), (.bool false)]) H4)
    (HT prg I.spec_l03Keeps [v1x1].toArray H4 fun v6x6 H7 =>
  K (.tuple #[v6x6, (.bool true)]) H7)
def O.spec_KeepsSum : Nat → Nat × List Nat := fun i => (0, [])
theorem R.spec_KeepsSum {a0 : Value} {H : Hp} {K : Value → Hp → Prop} (h : F.spec_KeepsSum a0 H K) : HT prg I.spec_KeepsSum [a0].toArray H K :=
  HT_of_fev O.spec_KeepsSum mixed Try.func73 (by kernel_rfl) (Eq.mpr (by kernel_rfl : fev prg O.spec_KeepsSum Try.f73 [a0] H K = F.spec_KeepsSum a0 H K) h)

/-! loop.example/g01381/impl.countWord: function 156 -/
def F.impl_countWord (a0 a1 : Value) (H : Hp) (K : Value → Hp → Prop) : Prop :=
  jn (fun σ1 H1 =>
    K (σ1 5) H1) fun J1 =>
  ob (vLenSl a0) fun v11x2 =>
  lpE (fun Q3 σ3 H3 =>
    ob (vInt .lss (σ3 12) (σ3 11)) fun v13x4 =>
    cnd v13x4
      (jn (fun σ5 H5 =>
      ob (vInt .add (σ5 12) (.int .i64 1)) fun v40x6 =>
      Q3 .normal (up (up σ5 40 v40x6) 12 v40x6) H5) fun J5 =>
    jn (fun σ7 H7 =>
      cnd (σ7 7)
        (ob (vInt .add (σ7 5) (.int .i64 1)) fun v39x8 =>
        J5 (up (up (up (up σ7 37 (σ7 7)) 38 (σ7 5)) 39 v39x8) 5 v39x8) H7)
        (J5 (up σ7 37 (σ7 7)) H7)) fun J7 =>
    ob (vLenSl (σ3 1)) fun v16x9 =>
    lpE (fun Q10 σ10 H10 =>
      ob (vInt .lss (σ10 17) (σ10 16)) fun v18x11 =>
      cnd v18x11
        (ob (vIx 1 (σ10 15) (σ10 17)) fun v20x12 =>
      ob (vLoad v20x12 H10) fun v21x13 =>
      gop (σ10 7) true (fun K14 => K14 (σ10 0) H10) H10 fun v24x15 H16 =>
      gop (σ10 7) true (fun K17 => K17 (σ10 6) H16) H16 fun v25x18 H19 =>
      gop (σ10 7) true (fun K20 => K20 (σ10 17) H19) H19 fun v26x21 H22 =>
      gop (σ10 7) true (fun K23 => ob (vInt .add v25x18 v26x21) fun u => K23 u H22) H22 fun v27x24 H25 =>
      gop (σ10 7) true (fun K26 => K26 (σ10 0) H25) H25 fun v28x27 H28 =>
      gop (σ10 7) true (fun K29 => ob (vLenSl v28x27) fun u => K29 u H28) H28 fun v29x30 H31 =>
      gop (σ10 7) true (fun K32 => ob (vInt .rem v27x24 v29x30) fun u => K32 u H31) H31 fun v30x33 H34 =>
      gop (σ10 7) true (fun K35 => ob (vIx 1 v24x15 v30x33) fun u => K35 u H34) H34 fun v31x36 H37 =>
      gop (σ10 7) true (fun K38 => ob (vLoad v31x36 H37) fun u => K38 u H37) H37 fun v32x39 H40 =>
      gop (σ10 7) true (fun K41 => K41 v21x13 H40) H40 fun v33x42 H43 =>
      gop (σ10 7) true (fun K44 => ob (vInt .eql v32x39 v33x42) fun u => K44 u H43) H43 fun v34x45 H46 =>
      ob (vPick (σ10 7) v34x45 (.bool false)) fun v35x47 =>
      ob (vInt .add (σ10 17) (.int .i64 1)) fun v36x48 =>
      Q10 .normal (up (up (up (up (up (up (up (up (up (up (up (up (up (up (up (up (up (up (up (up (up (up (up σ10 18 v18x11) 19 (σ10 17)) 20 v20x12) 21 v21x13) 8 (σ10 17)) 9 v21x13) 22 (σ10 7)) 23 (σ10 7)) 24 v24x15) 25 v25x18) 26 v26x21) 27 v27x24) 28 v28x27) 29 v29x30) 30 v30x33) 31 v31x36) 32 v32x39) 33 v33x42) 34 v34x45) 35 v35x47) 7 v35x47) 36 v36x48) 17 v36x48) H46)
        (Q10 (.exit 2) (up σ10 18 v18x11) H10)) (blkQ 2 (thenQ J7 (blkQ 1 (thenQ J5 Q3)))) (up (up (up (up (up (up (up σ3 13 v13x4) 14 (σ3 12)) 6 (σ3 12)) 7 (.bool true)) 15 (σ3 1)) 16 v16x9) 17 (.int .i64 0)) H3)
      (Q3 (.exit 0) (up σ3 13 v13x4) H3)) (blkQ 0 (thenQ J1 (retQ prg [(.tmp 4)] K))) (up (up (up (up (up (S0 [a0, a1]) 4 (.int .i64 0)) 5 (.int .i64 0)) 10 a0) 11 v11x2) 12 (.int .i64 0)) H
def O.impl_countWord : Nat → Nat × List Nat := fun i => (0, [])
theorem R.impl_countWord {a0 a1 : Value} {H : Hp} {K : Value → Hp → Prop} (h : F.impl_countWord a0 a1 H K) : HT prg I.impl_countWord [a0, a1].toArray H K :=
  HT_of_fev O.impl_countWord mixed Try.func156 (by kernel_rfl) (Eq.mpr (by kernel_rfl : fev prg O.impl_countWord Try.f156 [a0, a1] H K = F.impl_countWord a0 a1 H K) h)

/-! loop.example/g01381/impl.KeepsCount: function 74 -/
def F.impl_KeepsCount (a0 a1 a2 : Value) (H : Hp) (K : Value → Hp → Prop) : Prop :=
  nw (a0 : Value).cells 43 H fun v3x1 H2 =>
  ob (vLoadN 3 v3x1 H2) fun v10x3 =>
  HT prg I.impl_worded [v10x3, a1].toArray H2 fun v12x4 H5 =>
  Le H2 H5 ∧ (ob (vUn .not v12x4) fun v13x6 =>
  gop v13x6 false (fun K7 => K7 a1 H5) H5 fun v15x8 H9 =>
  gop v13x6 false (fun K10 => ob (vLenSl v15x8) fun u => K10 u H9) H9 fun v16x11 H12 =>
  gop v13x6 false (fun K13 => ob (vInt .gtr v16x11 (.int .i64 3)) fun u => K13 u H12) H12 fun v17x14 H15 =>
  ob (vPick v13x6 (.bool true) v17x14) fun v18x16 =>
  gop v18x16 false (fun K17 => K17 a2 H15) H15 fun v20x18 H19 =>
  gop v18x16 false (fun K20 => ob (vLoadN 3 v3x1 H19) fun u => K20 u H19) H19 fun v21x21 H22 =>
  gop v18x16 false (fun K23 => K23 a1 H22) H22 fun v23x24 H25 =>
  gop v18x16 false (fun K26 => ob (vLenSl v23x24) fun u => K26 u H25) H25 fun v24x27 H28 =>
  gop v18x16 false (fun K29 => ob (vLoadN 3 v3x1 H28) fun u => K29 u H28) H28 fun v26x30 H31 =>
  gop v18x16 false (fun K32 => HT prg I.impl_Rule_cells [v21x21].toArray H31 fun v22x33 H34 =>
  Le H31 H34 ∧ K32 v22x33 H34) H31 fun v22x35 H36 =>
  gop v18x16 false (fun K37 => ob (vMx true v22x35 [v24x27]) fun u => K37 u H36) H36 fun v25x38 H39 =>
  gop v18x16 false (fun K40 => HT prg I.impl_Rule_mostCells [v26x30, (.int .i64 10), (.int .i64 6)].toArray H39 fun v27x41 H42 =>
  Le H39 H42 ∧ K40 v27x41 H42) H39 fun v27x43 H44 =>
  gop v18x16 false (fun K45 => HT prg I.impl_within [v20x18, v25x38, v27x43].toArray H44 fun v28x46 H47 =>
  Le H44 H47 ∧ K45 v28x46 H47) H44 fun v28x48 H49 =>
  gop v18x16 false (fun K50 => ob (vUn .not v28x48) fun u => K50 u H49) H49 fun v29x51 H52 =>
  ob (vPick v18x16 (.bool true) v29x51) fun v30x53 =>
  cnd v30x53
    (K (.tuple #[(.bool false), (.bool false)]) H52)
    (jn (fun σ54 H54 =>
    K (.tuple #[(.bool true), (.bool true)]) H54) fun J54 =>
  ob (vFa 0 v3x1) fun v31x55 =>
  ob (vLoad v31x55 H52) fun v32x56 =>
  HT prg I.impl_raised [v32x56, a2].toArray H52 fun v34x57 H58 =>
  lpE (fun Q59 σ59 H59 =>
    ob (vInt .lss (σ59 35) (σ59 34)) fun v36x60 =>
    cnd v36x60
      (ob (vFa 0 (σ59 3)) fun v39x61 =>
    ob (vLoad v39x61 H59) fun v40x62 =>
    HT prg I.impl_digitsOf [(σ59 35), v40x62, (σ59 2)].toArray H59 fun v42x63 H64 =>
    ob (vLoadN 3 (σ59 3) H64) fun v46x65 =>
    HT prg I.impl_countWord [v42x63, (σ59 1)].toArray H64 fun v45x66 H67 =>
    Le H64 H67 ∧ (HT prg I.impl_Rule_step [v46x65, v42x63].toArray H67 fun v48x68 H69 =>
    Le H67 H69 ∧ (HT prg I.impl_countWord [v48x68, (σ59 1)].toArray H69 fun v50x70 H71 =>
    Le H69 H71 ∧ (ob (vInt .neq v45x66 v50x70) fun v51x72 =>
    cnd v51x72
      (Q59 .ret (up (up (up (up (up (up (up (up (up (up (up (up (up (up (up (up (up (up (up (up σ59 36 v36x60) 37 (σ59 35)) 8 (σ59 35)) 38 (σ59 35)) 39 v39x61) 40 v40x62) 41 (σ59 2)) 42 v42x63) 9 v42x63) 43 v42x63) 44 (σ59 1)) 46 v46x65) 47 v42x63) 49 (σ59 1)) 45 v45x66) 48 v48x68) 50 v50x70) 51 v51x72) 6 (.bool false)) 7 (.bool true)) H71)
      (ob (vInt .add (σ59 35) (.int .i64 1)) fun v52x73 =>
    Q59 .normal (up (up (up (up (up (up (up (up (up (up (up (up (up (up (up (up (up (up (up (up σ59 36 v36x60) 37 (σ59 35)) 8 (σ59 35)) 38 (σ59 35)) 39 v39x61) 40 v40x62) 41 (σ59 2)) 42 v42x63) 9 v42x63) 43 v42x63) 44 (σ59 1)) 46 v46x65) 47 v42x63) 49 (σ59 1)) 45 v45x66) 48 v48x68) 50 v50x70) 51 v51x72) 52 v52x73) 35 v52x73) H71)))))
      (Q59 (.exit 0) (up σ59 36 v36x60) H59)) (blkQ 0 (thenQ J54 (retQ prg [(.tmp 6), (.tmp 7)] K))) (up (up (up (up (up (up (up (up (up (up (up (up (up (up (up (up (up (up (up (up (up (up (up (up (up (up (up (up (up (S0 [a0, a1, a2]) 3 v3x1) 6 (.bool false)) 7 (.bool false)) 10 v10x3) 11 a1) 12 v12x4) 13 v13x6) 14 v13x6) 15 v15x8) 16 v16x11) 17 v17x14) 18 v18x16) 19 v18x16) 20 v20x18) 21 v21x21) 23 v23x24) 24 v24x27) 26 v26x30) 22 v22x35) 25 v25x38) 27 v27x43) 28 v28x48) 29 v29x51) 30 v30x53) 31 v31x55) 32 v32x56) 33 a2) 34 v34x57) 35 (.int .i64 0)) H58))
def O.impl_KeepsCount : Nat → Nat × List Nat := fun i => bif Nat.beq i 1 then (0, [0, 1, 2, 3, 4, 5, 6, 7, 8, 9, 10, 11, 13, 14, 16, 12, 15, 17, 18, 19, 20]) else bif Nat.beq i 7 then (0, [0, 1, 3, 4, 6, 2, 5, 7, 8]) else (0, [])
theorem R.impl_KeepsCount {a0 a1 a2 : Value} {H : Hp} {K : Value → Hp → Prop} (h : F.impl_KeepsCount a0 a1 a2 H K) : HT prg I.impl_KeepsCount [a0, a1, a2].toArray H K :=
  HT_of_fev O.impl_KeepsCount mixed Try.func74 (by kernel_rfl) (Eq.mpr (by kernel_rfl : fev prg O.impl_KeepsCount Try.f74 [a0, a1, a2] H K = F.impl_KeepsCount a0 a1 a2 H K) h)

/-! loop.example/g01381/spec.l03Small: function 157 -/
def F.spec_l03Small (a0 a1 a2 a3 : Value) (H : Hp) (K : Value → Hp → Prop) : Prop :=
  HT prg I.spec_l02Is [a0].toArray H fun v11x1 H2 =>
  ob (vUn .not v11x1) fun v12x3 =>
  cnd v12x3
    (K (.bool false) H2)
    (ob (vNilC a0) fun v15x4 =>
  ob (vFa 0 v15x4) fun v16x5 =>
  ob (vLoad v16x5 H2) fun v17x6 =>
  ob (vInt .eql v17x6 (.int .i64 3)) fun v18x7 =>
  cnd v18x7
    (HT prg I.spec_l03Wide [a0].toArray H2 fun v22x8 H9 =>
  HT prg I.spec_l00In [a1, v22x8, a3].toArray H9 fun v24x10 H11 =>
  K v24x10 H11)
    (HT prg I.spec_l03Wide [a0].toArray H2 fun v22x12 H13 =>
  HT prg I.spec_l00In [a1, v22x12, a2].toArray H13 fun v24x14 H15 =>
  K v24x14 H15))
def O.spec_l03Small : Nat → Nat × List Nat := fun i => (0, [])
theorem R.spec_l03Small {a0 a1 a2 a3 : Value} {H : Hp} {K : Value → Hp → Prop} (h : F.spec_l03Small a0 a1 a2 a3 H K) : HT prg I.spec_l03Small [a0, a1, a2, a3].toArray H K :=
  HT_of_fev O.spec_l03Small mixed Try.func157 (by kernel_rfl) (Eq.mpr (by kernel_rfl : fev prg O.spec_l03Small Try.f157 [a0, a1, a2, a3] H K = F.spec_l03Small a0 a1 a2 a3 H K) h)

/-! loop.example/g01381/spec.l03Often: function 158 -/
def F.spec_l03Often (a0 a1 : Value) (H : Hp) (K : Value → Hp → Prop) : Prop :=
  jn (fun σ1 H1 =>
    K (σ1 5) H1) fun J1 =>
  ob (vLenSl a0) fun v10x2 =>
  lpE (fun Q3 σ3 H3 =>
    ob (vInt .lss (σ3 11) (σ3 10)) fun v12x4 =>
    cnd v12x4
      (jn (fun σ5 H5 =>
      ob (vInt .add (σ5 11) (.int .i64 1)) fun v40x6 =>
      Q3 .normal (up (up σ5 40 v40x6) 11 v40x6) H5) fun J5 =>
    jn (fun σ7 H7 =>
      cnd (σ7 7)
        (ob (vInt .add (σ7 5) (.int .i64 1)) fun v39x8 =>
        J5 (up (up (up (up σ7 37 (σ7 7)) 38 (σ7 5)) 39 v39x8) 5 v39x8) H7)
        (J5 (up σ7 37 (σ7 7)) H7)) fun J7 =>
    ob (vLenSl (σ3 1)) fun v15x9 =>
    lpE (fun Q10 σ10 H10 =>
      ob (vInt .lss (σ10 16) (σ10 15)) fun v17x11 =>
      cnd v17x11
        (gop (σ10 7) true (fun K12 => K12 (σ10 0) H10) H10 fun v21x13 H14 =>
      gop (σ10 7) true (fun K15 => K15 (σ10 6) H14) H14 fun v22x16 H17 =>
      gop (σ10 7) true (fun K18 => K18 (σ10 16) H17) H17 fun v23x19 H20 =>
      gop (σ10 7) true (fun K21 => ob (vInt .add v22x16 v23x19) fun u => K21 u H20) H20 fun v24x22 H23 =>
      gop (σ10 7) true (fun K24 => K24 (σ10 0) H23) H23 fun v25x25 H26 =>
      gop (σ10 7) true (fun K27 => ob (vLenSl v25x25) fun u => K27 u H26) H26 fun v26x28 H29 =>
      gop (σ10 7) true (fun K30 => ob (vInt .rem v24x22 v26x28) fun u => K30 u H29) H29 fun v27x31 H32 =>
      gop (σ10 7) true (fun K33 => ob (vIx 1 v21x13 v27x31) fun u => K33 u H32) H32 fun v28x34 H35 =>
      gop (σ10 7) true (fun K36 => ob (vLoad v28x34 H35) fun u => K36 u H35) H35 fun v29x37 H38 =>
      gop (σ10 7) true (fun K39 => K39 (σ10 1) H38) H38 fun v30x40 H41 =>
      gop (σ10 7) true (fun K42 => K42 (σ10 16) H41) H41 fun v31x43 H44 =>
      gop (σ10 7) true (fun K45 => ob (vIx 1 v30x40 v31x43) fun u => K45 u H44) H44 fun v32x46 H47 =>
      gop (σ10 7) true (fun K48 => ob (vLoad v32x46 H47) fun u => K48 u H47) H47 fun v33x49 H50 =>
      gop (σ10 7) true (fun K51 => ob (vInt .eql v29x37 v33x49) fun u => K51 u H50) H50 fun v34x52 H53 =>
      ob (vPick (σ10 7) v34x52 (.bool false)) fun v35x54 =>
      ob (vInt .add (σ10 16) (.int .i64 1)) fun v36x55 =>
      Q10 .normal (up (up (up (up (up (up (up (up (up (up (up (up (up (up (up (up (up (up (up (up (up (up (up σ10 17 v17x11) 18 (σ10 16)) 8 (σ10 16)) 19 (σ10 7)) 20 (σ10 7)) 21 v21x13) 22 v22x16) 23 v23x19) 24 v24x22) 25 v25x25) 26 v26x28) 27 v27x31) 28 v28x34) 29 v29x37) 30 v30x40) 31 v31x43) 32 v32x46) 33 v33x49) 34 v34x52) 35 v35x54) 7 v35x54) 36 v36x55) 16 v36x55) H53)
        (Q10 (.exit 2) (up σ10 17 v17x11) H10)) (blkQ 2 (thenQ J7 (blkQ 1 (thenQ J5 Q3)))) (up (up (up (up (up (up (up σ3 12 v12x4) 13 (σ3 11)) 6 (σ3 11)) 7 (.bool true)) 14 (σ3 1)) 15 v15x9) 16 (.int .i64 0)) H3)
      (Q3 (.exit 0) (up σ3 12 v12x4) H3)) (blkQ 0 (thenQ J1 (retQ prg [(.tmp 4)] K))) (up (up (up (up (up (S0 [a0, a1]) 4 (.int .i64 0)) 5 (.int .i64 0)) 9 a0) 10 v10x2) 11 (.int .i64 0)) H
def O.spec_l03Often : Nat → Nat × List Nat := fun i => bif Nat.beq i 9 then (0, [0, 1, 2, 3, 4, 5, 6, 7, 8, 9, 10, 11, 12, 13, 14, 15, 16, 17]) else (0, [])
theorem R.spec_l03Often {a0 a1 : Value} {H : Hp} {K : Value → Hp → Prop} (h : F.spec_l03Often a0 a1 H K) : HT prg I.spec_l03Often [a0, a1].toArray H K :=
  HT_of_fev O.spec_l03Often mixed Try.func158 (by kernel_rfl) (Eq.mpr (by kernel_rfl : fev prg O.spec_l03Often Try.f158 [a0, a1] H K = F.spec_l03Often a0 a1 H K) h)

/-! loop.example/g01381/spec.KeepsCount: function 75 -/
def F.spec_KeepsCount (a0 a1 a2 : Value) (H : Hp) (K : Value → Hp → Prop) : Prop :=
  nw (a0 : Value).cells 43 H fun v3x1 H2 =>
  HT prg I.spec_l03Small [v3x1, a2, (.int .i64 10), (.int .i64 6)].toArray H2 fun v11x3 H4 =>
  ob (vUn .not v11x3) fun v12x5 =>
  gop v12x5 false (fun K6 => K6 a1 H4) H4 fun v14x7 H8 =>
  gop v12x5 false (fun K9 => HT prg I.spec_l03Word [v3x1, v14x7].toArray H8 K9) H8 fun v15x10 H11 =>
  gop v12x5 false (fun K12 => ob (vUn .not v15x10) fun u => K12 u H11) H11 fun v16x13 H14 =>
  ob (vPick v12x5 (.bool true) v16x13) fun v17x15 =>
  gop v17x15 false (fun K16 => K16 a1 H14) H14 fun v19x17 H18 =>
  gop v17x15 false (fun K19 => ob (vLenSl v19x17) fun u => K19 u H18) H18 fun v20x20 H21 =>
  gop v17x15 false (fun K22 => ob (vInt .gtr v20x20 (.int .i64 3)) fun u => K22 u H21) H21 fun v21x23 H24 =>
  ob (vPick v17x15 (.bool true) v21x23) fun v22x25 =>
  gop v22x25 false (fun K26 => K26 a1 H24) H24 fun v24x27 H28 =>
  gop v22x25 false (fun K29 => ob (vLenSl v24x27) fun u => K29 u H28) H28 fun v25x30 H31 =>
  gop v22x25 false (fun K32 => K32 a2 H31) H31 fun v26x33 H34 =>
  gop v22x25 false (fun K35 => ob (vInt .gtr v25x30 v26x33) fun u => K35 u H34) H34 fun v27x36 H37 =>
  ob (vPick v22x25 (.bool true) v27x36) fun v28x38 =>
  cnd v28x38
    (K (.tuple #[(.bool false), (.bool false)]) H37)
    (jn (fun σ39 H39 =>
    K (.tuple #[(.bool true), (.bool true)]) H39) fun J39 =>
  lpE (fun Q40 σ40 H40 =>
    ob (vFa 0 (σ40 3)) fun v30x41 =>
    ob (vLoad v30x41 H40) fun v31x42 =>
    HT prg I.spec_l03Power [v31x42, (σ40 2)].toArray H40 fun v33x43 H44 =>
    ob (vInt .lss (σ40 8) v33x43) fun v34x45 =>
    cnd v34x45
      (ob (vFa 0 (σ40 3)) fun v38x46 =>
    ob (vLoad v38x46 H44) fun v39x47 =>
    HT prg I.spec_l03Cells [(σ40 8), v39x47, (σ40 2)].toArray H44 fun v41x48 H49 =>
    HT prg I.spec_l02Step [(σ40 3), v41x48].toArray H49 fun v43x50 H51 =>
    HT prg I.spec_l03Often [v43x50, (σ40 1)].toArray H51 fun v45x52 H53 =>
    HT prg I.spec_l03Often [v41x48, (σ40 1)].toArray H53 fun v48x54 H55 =>
    ob (vInt .neq v45x52 v48x54) fun v49x56 =>
    cnd v49x56
      (Q40 .ret (up (up (up (up (up (up (up (up (up (up (up (up (up (up (up (up (up (up (up (up (up (up σ40 29 (σ40 8)) 30 v30x41) 31 v31x42) 32 (σ40 2)) 33 v33x43) 34 v34x45) 37 (σ40 8)) 38 v38x46) 39 v39x47) 40 (σ40 2)) 41 v41x48) 9 v41x48) 42 v41x48) 43 v43x50) 44 (σ40 1)) 45 v45x52) 46 v41x48) 47 (σ40 1)) 48 v48x54) 49 v49x56) 6 (.bool false)) 7 (.bool true)) H55)
      (ob (vInt .add (σ40 8) (.int .i64 1)) fun v36x57 =>
    Q40 .normal (up (up (up (up (up (up (up (up (up (up (up (up (up (up (up (up (up (up (up (up (up (up (up σ40 29 (σ40 8)) 30 v30x41) 31 v31x42) 32 (σ40 2)) 33 v33x43) 34 v34x45) 37 (σ40 8)) 38 v38x46) 39 v39x47) 40 (σ40 2)) 41 v41x48) 9 v41x48) 42 v41x48) 43 v43x50) 44 (σ40 1)) 45 v45x52) 46 v41x48) 47 (σ40 1)) 48 v48x54) 49 v49x56) 35 (σ40 8)) 36 v36x57) 8 v36x57) H55))
      (Q40 (.exit 0) (up (up (up (up (up (up σ40 29 (σ40 8)) 30 v30x41) 31 v31x42) 32 (σ40 2)) 33 v33x43) 34 v34x45) H44)) (blkQ 0 (thenQ J39 (retQ prg [(.tmp 6), (.tmp 7)] K))) (up (up (up (up (up (up (up (up (up (up (up (up (up (up (up (up (up (up (up (up (up (up (up (S0 [a0, a1, a2]) 3 v3x1) 6 (.bool false)) 7 (.bool false)) 10 a2) 11 v11x3) 12 v12x5) 13 v12x5) 14 v14x7) 15 v15x10) 16 v16x13) 17 v17x15) 18 v17x15) 19 v19x17) 20 v20x20) 21 v21x23) 22 v22x25) 23 v22x25) 24 v24x27) 25 v25x30) 26 v26x33) 27 v27x36) 28 v28x38) 8 (.int .i64 0)) H37)
def O.spec_KeepsCount : Nat → Nat × List Nat := fun i => (0, [])
theorem R.spec_KeepsCount {a0 a1 a2 : Value} {H : Hp} {K : Value → Hp → Prop} (h : F.spec_KeepsCount a0 a1 a2 H K) : HT prg I.spec_KeepsCount [a0, a1, a2].toArray H K :=
  HT_of_fev O.spec_KeepsCount mixed Try.func75 (by kernel_rfl) (Eq.mpr (by kernel_rfl : fev prg O.spec_KeepsCount Try.f75 [a0, a1, a2] H K = F.spec_KeepsCount a0 a1 a2 H K) h)

/-! loop.example/g01381/impl.FlowOf: function 76 -/
def F.impl_FlowOf (a0 : Value) (H : Hp) (K : Value → Hp → Prop) : Prop :=
  nw (a0 : Value).cells 43 H fun v1x1 H2 =>
  ob (vLoadN 3 v1x1 H2) fun v10x3 =>
  HT prg I.impl_ValidRule [v10x3].toArray H2 fun v11x4 H5 =>
  ob (vUn .not v11x4) fun v12x6 =>
  gop v12x6 false (fun K7 => ob (vFa 1 v1x1) fun u => K7 u H5) H5 fun v14x8 H9 =>
  gop v12x6 false (fun K10 => ob (vLoad v14x8 H9) fun u => K10 u H9) H9 fun v15x11 H12 =>
  gop v12x6 false (fun K13 => ob (vInt .eql v15x11 (.int .i64 0)) fun u => K13 u H12) H12 fun v16x14 H15 =>
  ob (vPick v12x6 (.bool true) v16x14) fun v17x16 =>
  gop v17x16 false (fun K17 => ob (vLoadN 3 v1x1 H15) fun u => K17 u H15) H15 fun v19x18 H19 =>
  gop v17x16 false (fun K20 => HT prg I.impl_Rule_keepsSum [v19x18].toArray H19 K20) H19 fun v20x21 H22 =>
  gop v17x16 false (fun K23 => ob (vUn .not v20x21) fun u => K23 u H22) H22 fun v21x24 H25 =>
  ob (vPick v17x16 (.bool true) v21x24) fun v22x26 =>
  cnd v22x26
    (K (.tuple #[(.slice none 0 0), (.bool false)]) H25)
    (ob (vLoadN 3 v1x1 H25) fun v23x27 =>
  HT prg I.impl_Rule_cells [v23x27].toArray H25 fun v24x28 H29 =>
  bS 1 0 #[(.int .i64 0)] 2 [] H29 fun v25x30 H31 =>
  jn (fun σ32 H32 =>
    K (.tuple #[(σ32 5), (.bool true)]) H32) fun J32 =>
  ob (vLoadN 3 v1x1 H31) fun v26x33 =>
  HT prg I.impl_Rule_ends [v26x33].toArray H31 fun v27x34 H35 =>
  lpE (fun Q36 σ36 H36 =>
    ob (vInt .lss (σ36 28) (σ36 27)) fun v29x37 =>
    cnd v29x37
      (jn (fun σ38 H38 =>
      ob (vInt .add (σ38 28) (.int .i64 1)) fun v60x39 =>
      Q36 .normal (up (up σ38 60 v60x39) 28 v60x39) H38) fun J38 =>
    ob (vFa 0 (σ36 1)) fun v32x40 =>
    ob (vLoad v32x40 H36) fun v33x41 =>
    ob (vInt .sub (σ36 4) (.int .i64 1)) fun v35x42 =>
    HT prg I.impl_digitsOf [(σ36 28), v33x41, v35x42].toArray H36 fun v36x43 H44 =>
    ob (vFa 1 (σ36 1)) fun v38x45 =>
    ob (vLoad v38x45 H44) fun v39x46 =>
    ob (vSl3 1 v36x43 none (some v39x46) none) fun v40x47 =>
    HT prg I.impl_sumOf [v40x47].toArray H44 fun v41x48 H49 =>
    jn (fun σ50 H50 =>
      bS 1 1 #[(.int .i64 0)] 2 [(0, (σ50 8))] H50 fun v58x51 H52 =>
      apd 1 8 #[(.int .i64 0)] 2 (σ50 5) v58x51 H52 fun v59x53 H54 =>
      J38 (up (up (up (up (up σ50 56 (σ50 5)) 57 (σ50 8)) 58 v58x51) 59 v59x53) 5 v59x53) H54) fun J50 =>
    lpE (fun Q55 σ55 H55 =>
      ob (vInt .lss (σ55 9) (σ55 4)) fun v44x56 =>
      cnd v44x56
        (ob (vLoadN 3 (σ55 1) H55) fun v48x57 =>
      ob (vInt .sub (σ55 4) (σ55 9)) fun v52x58 =>
      ob (vSl3 1 (σ55 7) none (some v52x58) none) fun v53x59 =>
      HT prg I.impl_Rule_zeros [v48x57, v53x59].toArray H55 fun v54x60 H61 =>
      Le H55 H61 ∧ (ob (vInt .sub (σ55 8) v54x60) fun v55x62 =>
      ob (vInt .add (σ55 9) (.int .i64 1)) fun v46x63 =>
      Q55 .normal (up (up (up (up (up (up (up (up (up (up (up (up (up (up (up (up σ55 42 (σ55 9)) 43 (σ55 4)) 44 v44x56) 47 (σ55 8)) 48 v48x57) 49 (σ55 7)) 50 (σ55 4)) 51 (σ55 9)) 52 v52x58) 53 v53x59) 54 v54x60) 55 v55x62) 8 v55x62) 45 (σ55 9)) 46 v46x63) 9 v46x63) H61))
        (Q55 (.exit 2) (up (up (up σ55 42 (σ55 9)) 43 (σ55 4)) 44 v44x56) H55)) (blkQ 2 (thenQ J50 (blkQ 1 (thenQ J38 Q36)))) (up (up (up (up (up (up (up (up (up (up (up (up (up (up (up (up (up σ36 29 v29x37) 30 (σ36 28)) 6 (σ36 28)) 31 (σ36 28)) 32 v32x40) 33 v33x41) 34 (σ36 4)) 35 v35x42) 36 v36x43) 7 v36x43) 37 v36x43) 38 v38x45) 39 v39x46) 40 v40x47) 41 v41x48) 8 v41x48) 9 (.int .i64 1)) H49)
      (Q36 (.exit 0) (up σ36 29 v29x37) H36)) (blkQ 0 (thenQ J32 (retQ prg [(.tmp 2), (.tmp 3)] K))) (up (up (up (up (up (up (up (up (up (up (up (up (up (up (up (up (up (up (up (up (up (up (up (up (S0 [a0]) 1 v1x1) 2 (.slice none 0 0)) 3 (.bool false)) 10 v10x3) 11 v11x4) 12 v12x6) 13 v12x6) 14 v14x8) 15 v15x11) 16 v16x14) 17 v17x16) 18 v17x16) 19 v19x18) 20 v20x21) 21 v21x24) 22 v22x26) 23 v23x27) 24 v24x28) 4 v24x28) 25 v25x30) 5 v25x30) 26 v26x33) 27 v27x34) 28 (.int .i64 0)) H35)
def O.impl_FlowOf : Nat → Nat × List Nat := fun i => bif Nat.beq i 13 then (0, [0, 1, 2, 3, 4, 5, 6, 7, 8, 9]) else (0, [])
theorem R.impl_FlowOf {a0 : Value} {H : Hp} {K : Value → Hp → Prop} (h : F.impl_FlowOf a0 H K) : HT prg I.impl_FlowOf [a0].toArray H K :=
  HT_of_fev O.impl_FlowOf mixed Try.func76 (by kernel_rfl) (Eq.mpr (by kernel_rfl : fev prg O.impl_FlowOf Try.f76 [a0] H K = F.impl_FlowOf a0 H K) h)

/-! loop.example/g01381/spec.StepRing: function 77 -/
def F.spec_StepRing (a0 a1 : Value) (H : Hp) (K : Value → Hp → Prop) : Prop :=
  nw (a0 : Value).cells 43 H fun v2x1 H2 =>
  HT prg I.spec_l02Can [v2x1, a1].toArray H2 fun v7x3 H4 =>
  ob (vUn .not v7x3) fun v8x5 =>
  cnd v8x5
    (K (.tuple #[(.slice none 0 0), (.bool false)]) H4)
    (HT prg I.spec_l02Step [v2x1, a1].toArray H4 fun v10x6 H7 =>
  K (.tuple #[v10x6, (.bool true)]) H7)
def O.spec_StepRing : Nat → Nat × List Nat := fun i => (0, [])
theorem R.spec_StepRing {a0 a1 : Value} {H : Hp} {K : Value → Hp → Prop} (h : F.spec_StepRing a0 a1 H K) : HT prg I.spec_StepRing [a0, a1].toArray H K :=
  HT_of_fev O.spec_StepRing mixed Try.func77 (by kernel_rfl) (Eq.mpr (by kernel_rfl : fev prg O.spec_StepRing Try.f77 [a0, a1] H K = F.spec_StepRing a0 a1 H K) h)

/-! loop.example/g01381/laws.FnKeptSums: function 10 -/
def F.laws_FnKeptSums (a0 a1 : Value) (H : Hp) (K : Value → Hp → Prop) : Prop :=
  HT prg I.laws_b10Long [a0, a1].toArray H fun v28x1 H2 =>
  cnd v28x1
    (K (.bool true) H2)
    (bS 1 8 #[(.int .i64 0)] 2 [(0, (.int .i64 184)), (1, (.int .i64 226)), (2, (.int .i64 170)), (3, (.int .i64 240)), (4, (.int .i64 204)), (5, (.int .i64 110)), (6, (.int .i64 90)), (7, (.int .i64 30))] H2 fun v29x3 H4 =>
  HT prg I.laws_b10At [a1, (.int .i64 0), (.int .i64 8)].toArray H4 fun v32x5 H6 =>
  ob (vIx 1 v29x3 v32x5) fun v33x7 =>
  ob (vLoad v33x7 H6) fun v34x8 =>
  ob (vBuild [(0, 1), (1, 1), (2, 1)] (.agg #[(.int .i64 0), (.int .i64 0), (.slice none 0 0)]) [(0, (.int .i64 2)), (1, (.int .i64 1))]) fun v35x9 =>
  nw #[(.int .i64 0), (.int .i64 0), (.slice none 0 0)] 43 H6 fun v7x10 H11 =>
  st 3 v7x10 v35x9 H11 fun H12 =>
  jn (fun σ13 H13 =>
    jn (fun σ14 H14 =>
      ob (vLoadN 3 (σ14 7) H14) fun v57x15 =>
      HT prg I.impl_KeepsSum [v57x15].toArray H14 fun v58x16 H17 =>
      ob (vExt v58x16 0) fun v59x18 =>
      ob (vExt v58x16 1) fun v60x19 =>
      ob (vLoadN 3 (σ14 7) H17) fun v62x20 =>
      HT prg I.spec_KeepsSum [v62x20].toArray H17 fun v63x21 H22 =>
      ob (vExt v63x21 0) fun v64x23 =>
      ob (vExt v63x21 1) fun v65x24 =>
      ob (vFa 1 (σ14 7)) fun v66x25 =>
      ob (vLoad v66x25 H22) fun v67x26 =>
      ob (vInt .mul (.int .i64 2) v67x26) fun v68x27 =>
      ob (vInt .add v68x27 (.int .i64 1)) fun v69x28 =>
      HT prg I.laws_b10At [(σ14 1), (.int .i64 3), (.int .i64 5)].toArray H22 fun v71x29 H30 =>
      Le H22 H30 ∧ (ob (vInt .add v69x28 v71x29) fun v72x31 =>
      ob (vLoadN 3 (σ14 7) H30) fun v74x32 =>
      bS 1 1 #[(.int .i64 0)] 2 [(0, (.int .i64 1))] H30 fun v75x33 H34 =>
      HT prg I.impl_KeepsCount [v74x32, v75x33, v72x31].toArray H34 fun v77x35 H36 =>
      ob (vExt v77x35 0) fun v78x37 =>
      ob (vExt v77x35 1) fun v79x38 =>
      ob (vLoadN 3 (σ14 7) H36) fun v81x39 =>
      bS 1 1 #[(.int .i64 0)] 2 [(0, (.int .i64 1))] H36 fun v82x40 H41 =>
      HT prg I.spec_KeepsCount [v81x39, v82x40, v72x31].toArray H41 fun v84x42 H43 =>
      ob (vExt v84x42 0) fun v85x44 =>
      ob (vExt v84x42 1) fun v86x45 =>
      ob (vLoadN 3 (σ14 7) H43) fun v88x46 =>
      HT prg I.impl_FlowOf [v88x46].toArray H43 fun v89x47 H48 =>
      ob (vExt v89x47 0) fun v90x49 =>
      ob (vExt v89x47 1) fun v91x50 =>
      ob (vUn .not v60x19) fun v93x51 =>
      gop v93x51 false (fun K52 => K52 v65x24 H48) H48 fun v95x53 H54 =>
      gop v93x51 false (fun K55 => ob (vUn .not v95x53) fun u => K55 u H54) H54 fun v96x56 H57 =>
      ob (vPick v93x51 (.bool true) v96x56) fun v97x58 =>
      gop v97x58 false (fun K59 => K59 v79x38 H57) H57 fun v99x60 H61 =>
      gop v97x58 false (fun K62 => ob (vUn .not v99x60) fun u => K62 u H61) H61 fun v100x63 H64 =>
      ob (vPick v97x58 (.bool true) v100x63) fun v101x65 =>
      gop v101x65 false (fun K66 => K66 v86x45 H64) H64 fun v103x67 H68 =>
      gop v101x65 false (fun K69 => ob (vUn .not v103x67) fun u => K69 u H68) H68 fun v104x70 H71 =>
      ob (vPick v101x65 (.bool true) v104x70) fun v105x72 =>
      gop v105x72 false (fun K73 => K73 v59x18 H71) H71 fun v107x74 H75 =>
      gop v105x72 false (fun K76 => K76 v64x23 H75) H75 fun v108x77 H78 =>
      gop v105x72 false (fun K79 => ob (vBool .neq v107x74 v108x77) fun u => K79 u H78) H78 fun v109x80 H81 =>
      ob (vPick v105x72 (.bool true) v109x80) fun v110x82 =>
      gop v110x82 false (fun K83 => K83 v78x37 H81) H81 fun v112x84 H85 =>
      gop v110x82 false (fun K86 => K86 v85x44 H85) H85 fun v113x87 H88 =>
      gop v110x82 false (fun K89 => ob (vBool .neq v112x84 v113x87) fun u => K89 u H88) H88 fun v114x90 H91 =>
      ob (vPick v110x82 (.bool true) v114x90) fun v115x92 =>
      gop v115x92 false (fun K93 => K93 v59x18 H91) H91 fun v117x94 H95 =>
      gop v115x92 false (fun K96 => K96 v117x94 H95) H95 fun v118x97 H98 =>
      gop v118x97 true (fun K99 => K99 v78x37 H98) H98 fun v119x100 H101 =>
      gop v118x97 true (fun K102 => ob (vUn .not v119x100) fun u => K102 u H101) H101 fun v120x103 H104 =>
      gop v115x92 false (fun K105 => ob (vPick v118x97 v120x103 (.bool false)) fun u => K105 u H104) H104 fun v121x106 H107 =>
      ob (vPick v115x92 (.bool true) v121x106) fun v122x108 =>
      gop v122x108 false (fun K109 => K109 v91x50 H107) H107 fun v124x110 H111 =>
      gop v122x108 false (fun K112 => K112 v59x18 H111) H111 fun v125x113 H114 =>
      gop v122x108 false (fun K115 => K115 v125x113 H114) H114 fun v126x116 H117 =>
      gop v126x116 true (fun K118 => ob (vFa 1 (σ14 7)) fun u => K118 u H117) H117 fun v127x119 H120 =>
      gop v126x116 true (fun K121 => ob (vLoad v127x119 H120) fun u => K121 u H120) H120 fun v128x122 H123 =>
      gop v126x116 true (fun K124 => ob (vInt .gtr v128x122 (.int .i64 0)) fun u => K124 u H123) H123 fun v129x125 H126 =>
      gop v122x108 false (fun K127 => ob (vPick v126x116 v129x125 (.bool false)) fun u => K127 u H126) H126 fun v130x128 H129 =>
      gop v122x108 false (fun K130 => ob (vBool .neq v124x110 v130x128) fun u => K130 u H129) H129 fun v131x131 H132 =>
      ob (vPick v122x108 (.bool true) v131x131) fun v132x133 =>
      cnd v132x133
        (K (.bool false) H132)
        (ob (vUn .not v91x50) fun v134x134 =>
      cnd v134x134
        (K (.bool true) H132)
        (HT prg I.spec_B10Ring [(σ14 0), (.int .i64 2), v72x31].toArray H132 fun v137x135 H136 =>
      ob (vLoadN 3 (σ14 7) H136) fun v139x137 =>
      HT prg I.spec_StepRing [v139x137, v137x135].toArray H136 fun v141x138 H139 =>
      ob (vExt v141x138 0) fun v142x140 =>
      ob (vExt v141x138 1) fun v143x141 =>
      ob (vUn .not v143x141) fun v145x142 =>
      gop v145x142 false (fun K143 => K143 v90x49 H139) H139 fun v147x144 H145 =>
      gop v145x142 false (fun K146 => ob (vLenSl v147x144) fun u => K146 u H145) H145 fun v148x147 H148 =>
      gop v145x142 false (fun K149 => ob (vInt .neq v148x147 (.int .i64 4)) fun u => K149 u H148) H148 fun v149x150 H151 =>
      ob (vPick v145x142 (.bool true) v149x150) fun v150x152 =>
      cnd v150x152
        (K (.bool false) H151)
        (jn (fun σ153 H153 =>
        K (.bool true) H153) fun J153 =>
      lpE (fun Q154 σ154 H154 =>
        ob (vInt .lss (σ154 23) (σ154 13)) fun v153x155 =>
        cnd v153x155
          (ob (vInt .add (σ154 23) (σ154 13)) fun v159x156 =>
        ob (vInt .sub v159x156 (.int .i64 1)) fun v160x157 =>
        ob (vInt .rem v160x157 (σ154 13)) fun v162x158 =>
        ob (vIx 1 (σ154 20) v162x158) fun v163x159 =>
        ob (vLoad v163x159 H154) fun v164x160 =>
        ob (vInt .mul (.int .i64 2) v164x160) fun v165x161 =>
        ob (vIx 1 (σ154 20) (σ154 23)) fun v168x162 =>
        ob (vLoad v168x162 H154) fun v169x163 =>
        ob (vInt .add v165x161 v169x163) fun v170x164 =>
        ob (vIx 1 (σ154 20) (σ154 23)) fun v173x165 =>
        ob (vLoad v173x165 H154) fun v174x166 =>
        ob (vInt .mul (.int .i64 2) v174x166) fun v175x167 =>
        ob (vInt .add (σ154 23) (.int .i64 1)) fun v178x168 =>
        ob (vInt .rem v178x168 (σ154 13)) fun v180x169 =>
        ob (vIx 1 (σ154 20) v180x169) fun v181x170 =>
        ob (vLoad v181x170 H154) fun v182x171 =>
        ob (vInt .add v175x167 v182x171) fun v183x172 =>
        ob (vIx 1 (σ154 21) (σ154 23)) fun v186x173 =>
        ob (vLoad v186x173 H154) fun v187x174 =>
        ob (vIx 1 (σ154 20) (σ154 23)) fun v190x175 =>
        ob (vLoad v190x175 H154) fun v191x176 =>
        ob (vInt .sub v187x174 v191x176) fun v192x177 =>
        ob (vIx 1 (σ154 18) v170x164) fun v195x178 =>
        ob (vLoad v195x178 H154) fun v196x179 =>
        ob (vIx 1 (σ154 18) v183x172) fun v199x180 =>
        ob (vLoad v199x180 H154) fun v200x181 =>
        ob (vInt .sub v196x179 v200x181) fun v201x182 =>
        ob (vInt .neq v192x177 v201x182) fun v202x183 =>
        cnd v202x183
          (Q154 .ret (up (up (up (up (up (up (up (up (up (up (up (up (up (up (up (up (up (up (up (up (up (up (up (up (up (up (up (up (up (up (up (up (up (up (up (up (up (up (up (up (up (up (up (up (up (up (up (up (up (up (up (up (up σ154 151 (σ154 23)) 152 (σ154 13)) 153 v153x155) 156 (σ154 20)) 157 (σ154 23)) 158 (σ154 13)) 159 v159x156) 160 v160x157) 161 (σ154 13)) 162 v162x158) 163 v163x159) 164 v164x160) 165 v165x161) 166 (σ154 20)) 167 (σ154 23)) 168 v168x162) 169 v169x163) 170 v170x164) 24 v170x164) 171 (σ154 20)) 172 (σ154 23)) 173 v173x165) 174 v174x166) 175 v175x167) 176 (σ154 20)) 177 (σ154 23)) 178 v178x168) 179 (σ154 13)) 180 v180x169) 181 v181x170) 182 v182x171) 183 v183x172) 25 v183x172) 184 (σ154 21)) 185 (σ154 23)) 186 v186x173) 187 v187x174) 188 (σ154 20)) 189 (σ154 23)) 190 v190x175) 191 v191x176) 192 v192x177) 193 (σ154 18)) 194 v170x164) 195 v195x178) 196 v196x179) 197 (σ154 18)) 198 v183x172) 199 v199x180) 200 v200x181) 201 v201x182) 202 v202x183) 4 (.bool false)) H154)
          (ob (vInt .add (σ154 23) (.int .i64 1)) fun v155x184 =>
        Q154 .normal (up (up (up (up (up (up (up (up (up (up (up (up (up (up (up (up (up (up (up (up (up (up (up (up (up (up (up (up (up (up (up (up (up (up (up (up (up (up (up (up (up (up (up (up (up (up (up (up (up (up (up (up (up (up (up σ154 151 (σ154 23)) 152 (σ154 13)) 153 v153x155) 156 (σ154 20)) 157 (σ154 23)) 158 (σ154 13)) 159 v159x156) 160 v160x157) 161 (σ154 13)) 162 v162x158) 163 v163x159) 164 v164x160) 165 v165x161) 166 (σ154 20)) 167 (σ154 23)) 168 v168x162) 169 v169x163) 170 v170x164) 24 v170x164) 171 (σ154 20)) 172 (σ154 23)) 173 v173x165) 174 v174x166) 175 v175x167) 176 (σ154 20)) 177 (σ154 23)) 178 v178x168) 179 (σ154 13)) 180 v180x169) 181 v181x170) 182 v182x171) 183 v183x172) 25 v183x172) 184 (σ154 21)) 185 (σ154 23)) 186 v186x173) 187 v187x174) 188 (σ154 20)) 189 (σ154 23)) 190 v190x175) 191 v191x176) 192 v192x177) 193 (σ154 18)) 194 v170x164) 195 v195x178) 196 v196x179) 197 (σ154 18)) 198 v183x172) 199 v199x180) 200 v200x181) 201 v201x182) 202 v202x183) 154 (σ154 23)) 155 v155x184) 23 v155x184) H154))
          (Q154 (.exit 2) (up (up (up σ154 151 (σ154 23)) 152 (σ154 13)) 153 v153x155) H154)) (blkQ 2 (thenQ J153 (retQ prg [(.tmp 4)] K))) (up (up (up (up (up (up (up (up (up (up (up (up (up (up (up (up (up (up (up (up (up (up (up (up (up (up (up (up (up (up (up (up (up (up (up (up (up (up (up (up (up (up (up (up (up (up (up (up (up (up (up (up (up (up (up (up (up (up (up (up (up (up (up (up (up (up (up (up (up (up (up (up (up (up (up (up (up (up (up (up (up (up (up (up (up (up (up (up (up (up (up (up (up (up (up (up (up (up (up (up (up (up (up (up (up (up (up (up (up (up σ14 57 v57x15) 58 v58x16) 56 v58x16) 59 v59x18) 60 v60x19) 9 v59x18) 10 v60x19) 62 v62x20) 63 v63x21) 61 v63x21) 64 v64x23) 65 v65x24) 11 v64x23) 12 v65x24) 66 v66x25) 67 v67x26) 68 v68x27) 69 v69x28) 70 (σ14 1)) 71 v71x29) 72 v72x31) 13 v72x31) 74 v74x32) 75 v75x33) 76 v72x31) 77 v77x35) 73 v77x35) 78 v78x37) 79 v79x38) 14 v78x37) 15 v79x38) 81 v81x39) 82 v82x40) 83 v72x31) 84 v84x42) 80 v84x42) 85 v85x44) 86 v86x45) 16 v85x44) 17 v86x45) 88 v88x46) 89 v89x47) 87 v89x47) 90 v90x49) 91 v91x50) 18 v90x49) 19 v91x50) 92 v60x19) 93 v93x51) 94 v93x51) 95 v95x53) 96 v96x56) 97 v97x58) 98 v97x58) 99 v99x60) 100 v100x63) 101 v101x65) 102 v101x65) 103 v103x67) 104 v104x70) 105 v105x72) 106 v105x72) 107 v107x74) 108 v108x77) 109 v109x80) 110 v110x82) 111 v110x82) 112 v112x84) 113 v113x87) 114 v114x90) 115 v115x92) 116 v115x92) 117 v117x94) 118 v118x97) 119 v119x100) 120 v120x103) 121 v121x106) 122 v122x108) 123 v122x108) 124 v124x110) 125 v125x113) 126 v126x116) 127 v127x119) 128 v128x122) 129 v129x125) 130 v130x128) 131 v131x131) 132 v132x133) 133 v91x50) 134 v134x134) 135 (σ14 0)) 136 v72x31) 137 v137x135) 20 v137x135) 139 v139x137) 140 v137x135) 141 v141x138) 138 v141x138) 142 v142x140) 143 v143x141) 21 v142x140) 22 v143x141) 144 v143x141) 145 v145x142) 146 v145x142) 147 v147x144) 148 v148x147) 149 v149x150) 150 v150x152) 23 (.int .i64 0)) H151))))) fun J14 =>
    HT prg I.laws_b10At [(σ13 1), (.int .i64 1), (.int .i64 3)].toArray H13 fun v50x185 H186 =>
    ob (vInt .eql v50x185 (.int .i64 0)) fun v51x187 =>
    cnd v51x187
      (HT prg I.laws_b10At [(σ13 1), (.int .i64 2), (.int .i64 2)].toArray H186 fun v54x188 H189 =>
      HT prg I.spec_B10Rule [(σ13 0), v54x188].toArray H189 fun v55x190 H191 =>
      st 3 (σ13 7) v55x190 H191 fun H192 =>
      J14 (up (up (up (up (up (up (up σ13 49 (σ13 1)) 50 v50x185) 51 v51x187) 52 (σ13 0)) 53 (σ13 1)) 54 v54x188) 55 v55x190) H192)
      (J14 (up (up (up σ13 49 (σ13 1)) 50 v50x185) 51 v51x187) H186)) fun J13 =>
  lpE (fun Q193 σ193 H193 =>
    ob (vInt .lss (σ193 8) (.int .u64 8)) fun v37x194 =>
    cnd v37x194
      (ob (vFa 2 (σ193 7)) fun v40x195 =>
    ob (vLoad v40x195 H193) fun v41x196 =>
    ob (vInt .shr (σ193 6) (σ193 8)) fun v44x197 =>
    ob (vInt .and v44x197 (.int .i64 1)) fun v45x198 =>
    bS 1 1 #[(.int .i64 0)] 2 [(0, v45x198)] H193 fun v46x199 H200 =>
    apd 1 8 #[(.int .i64 0)] 2 v41x196 v46x199 H200 fun v47x201 H202 =>
    ob (vFa 2 (σ193 7)) fun v48x203 =>
    st 1 v48x203 v47x201 H202 fun H204 =>
    ob (vInt .add (σ193 8) (.int .u64 1)) fun v39x205 =>
    Q193 .normal (up (up (up (up (up (up (up (up (up (up (up (up (up (up σ193 36 (σ193 8)) 37 v37x194) 40 v40x195) 41 v41x196) 42 (σ193 6)) 43 (σ193 8)) 44 v44x197) 45 v45x198) 46 v46x199) 47 v47x201) 48 v48x203) 38 (σ193 8)) 39 v39x205) 8 v39x205) H204)
      (Q193 (.exit 0) (up (up σ193 36 (σ193 8)) 37 v37x194) H193)) (blkQ 0 (thenQ J13 (retQ prg [(.tmp 4)] K))) (up (up (up (up (up (up (up (up (up (up (up (up (up (up (up (S0 [a0, a1]) 4 (.bool false)) 26 a0) 27 a1) 28 v28x1) 29 v29x3) 5 v29x3) 30 v29x3) 31 a1) 32 v32x5) 33 v33x7) 34 v34x8) 6 v34x8) 35 v35x9) 7 v7x10) 8 (.int .u64 0)) H12)
def O.laws_FnKeptSums : Nat → Nat × List Nat := fun i => bif Nat.beq i 14 then (0, [0, 1, 2, 3, 4, 5, 6, 7]) else bif Nat.beq i 29 then (0, [0, 1, 2, 3, 4, 5, 6, 7, 8, 9, 10, 11, 12, 13, 14, 15]) else bif Nat.beq i 30 then (0, [0, 1, 2, 3, 4, 5, 6, 7, 8, 9, 10, 11, 12, 13]) else bif Nat.beq i 31 then (0, [0, 1, 2, 3, 4, 5, 6, 7, 8, 9, 10, 11, 12, 13, 14, 15, 16, 17, 18]) else (0, [])
theorem R.laws_FnKeptSums {a0 a1 : Value} {H : Hp} {K : Value → Hp → Prop} (h : F.laws_FnKeptSums a0 a1 H K) : HT prg I.laws_FnKeptSums [a0, a1].toArray H K :=
  HT_of_fev O.laws_FnKeptSums mixed Try.func10 (by kernel_rfl) (Eq.mpr (by kernel_rfl : fev prg O.laws_FnKeptSums Try.f10 [a0, a1] H K = F.laws_FnKeptSums a0 a1 H K) h)

/-! loop.example/g01381/spec.l03Number: function 194 -/
def F.spec_l03Number (a0 a1 : Value) (H : Hp) (K : Value → Hp → Prop) : Prop :=
  jn (fun σ1 H1 =>
    K (σ1 5) H1) fun J1 =>
  ob (vLenSl a0) fun v8x2 =>
  lpE (fun Q3 σ3 H3 =>
    ob (vInt .lss (σ3 9) (σ3 8)) fun v10x4 =>
    cnd v10x4
      (ob (vInt .mul (σ3 5) (σ3 1)) fun v14x5 =>
    ob (vIx 1 (σ3 0) (σ3 9)) fun v17x6 =>
    ob (vLoad v17x6 H3) fun v18x7 =>
    ob (vInt .add v14x5 v18x7) fun v19x8 =>
    ob (vInt .add (σ3 9) (.int .i64 1)) fun v20x9 =>
    Q3 .normal (up (up (up (up (up (up (up (up (up (up (up (up (up (up σ3 10 v10x4) 11 (σ3 9)) 6 (σ3 9)) 12 (σ3 5)) 13 (σ3 1)) 14 v14x5) 15 (σ3 0)) 16 (σ3 9)) 17 v17x6) 18 v18x7) 19 v19x8) 5 v19x8) 20 v20x9) 9 v20x9) H3)
      (Q3 (.exit 0) (up σ3 10 v10x4) H3)) (blkQ 0 (thenQ J1 (retQ prg [(.tmp 4)] K))) (up (up (up (up (up (S0 [a0, a1]) 4 (.int .i64 0)) 5 (.int .i64 0)) 7 a0) 8 v8x2) 9 (.int .i64 0)) H
def O.spec_l03Number : Nat → Nat × List Nat := fun i => (0, [])
theorem R.spec_l03Number {a0 a1 : Value} {H : Hp} {K : Value → Hp → Prop} (h : F.spec_l03Number a0 a1 H K) : HT prg I.spec_l03Number [a0, a1].toArray H K :=
  HT_of_fev O.spec_l03Number mixed Try.func194 (by kernel_rfl) (Eq.mpr (by kernel_rfl : fev prg O.spec_l03Number Try.f194 [a0, a1] H K = F.spec_l03Number a0 a1 H K) h)

/-! loop.example/g01381/spec.l03Steps: function 161 -/
def F.spec_l03Steps (a0 a1 : Value) (H : Hp) (K : Value → Hp → Prop) : Prop :=
  bS 1 0 #[(.int .i64 0)] 2 [] H fun v7x1 H2 =>
  jn (fun σ3 H3 =>
    K (σ3 5) H3) fun J3 =>
  lpE (fun Q4 σ4 H4 =>
    ob (vNilC (σ4 0)) fun v10x5 =>
    ob (vFa 0 v10x5) fun v11x6 =>
    ob (vLoad v11x6 H4) fun v12x7 =>
    HT prg I.spec_l03Power [v12x7, (σ4 1)].toArray H4 fun v14x8 H9 =>
    ob (vInt .lss (σ4 6) v14x8) fun v15x10 =>
    cnd v15x10
      (ob (vNilC (σ4 0)) fun v22x11 =>
    ob (vFa 0 v22x11) fun v23x12 =>
    ob (vLoad v23x12 H9) fun v24x13 =>
    ob (vNilC (σ4 0)) fun v29x14 =>
    ob (vFa 0 v29x14) fun v30x15 =>
    ob (vLoad v30x15 H9) fun v31x16 =>
    HT prg I.spec_l03Cells [(σ4 6), v24x13, (σ4 1)].toArray H9 fun v26x17 H18 =>
    Le H9 H18 ∧ (HT prg I.spec_l02Step [(σ4 0), v26x17].toArray H18 fun v27x19 H20 =>
    Le H18 H20 ∧ (HT prg I.spec_l03Number [v27x19, v31x16].toArray H20 fun v32x21 H22 =>
    Le H20 H22 ∧ (bS 1 1 #[(.int .i64 0)] 2 [(0, v32x21)] H22 fun v33x23 H24 =>
    apd 1 8 #[(.int .i64 0)] 2 (σ4 5) v33x23 H24 fun v34x25 H26 =>
    ob (vInt .add (σ4 6) (.int .i64 1)) fun v17x27 =>
    Q4 .normal (up (up (up (up (up (up (up (up (up (up (up (up (up (up (up (up (up (up (up (up (up (up (up (up (up (up (up (up (up σ4 8 (σ4 6)) 9 (σ4 0)) 10 v10x5) 11 v11x6) 12 v12x7) 13 (σ4 1)) 14 v14x8) 15 v15x10) 18 (σ4 5)) 19 (σ4 0)) 20 (σ4 6)) 21 (σ4 0)) 22 v22x11) 23 v23x12) 24 v24x13) 25 (σ4 1)) 28 (σ4 0)) 29 v29x14) 30 v30x15) 31 v31x16) 26 v26x17) 27 v27x19) 32 v32x21) 33 v33x23) 34 v34x25) 5 v34x25) 16 (σ4 6)) 17 v17x27) 6 v17x27) H26))))
      (Q4 (.exit 0) (up (up (up (up (up (up (up (up σ4 8 (σ4 6)) 9 (σ4 0)) 10 v10x5) 11 v11x6) 12 v12x7) 13 (σ4 1)) 14 v14x8) 15 v15x10) H9)) (blkQ 0 (thenQ J3 (retQ prg [(.tmp 4)] K))) (up (up (up (up (S0 [a0, a1]) 4 (.slice none 0 0)) 7 v7x1) 5 v7x1) 6 (.int .i64 0)) H2
def O.spec_l03Steps : Nat → Nat × List Nat := fun i => bif Nat.beq i 5 then (0, [0, 1, 2, 3, 4, 5, 6, 7, 10, 11, 12, 13, 8, 9, 14, 15, 16, 17]) else (0, [])
theorem R.spec_l03Steps {a0 a1 : Value} {H : Hp} {K : Value → Hp → Prop} (h : F.spec_l03Steps a0 a1 H K) : HT prg I.spec_l03Steps [a0, a1].toArray H K :=
  HT_of_fev O.spec_l03Steps mixed Try.func161 (by kernel_rfl) (Eq.mpr (by kernel_rfl : fev prg O.spec_l03Steps Try.f161 [a0, a1] H K = F.spec_l03Steps a0 a1 H K) h)

/-! loop.example/g01381/spec.l03Cycles: function 162 -/
def F.spec_l03Cycles (a0 : Value) (H : Hp) (K : Value → Hp → Prop) : Prop :=
  ob (vLenSl a0) fun v11x1 =>
  mkS 1 8 #[(.int .i64 0)] 2 v11x1 v11x1 H fun v12x2 H3 =>
  ob (vLenSl a0) fun v14x4 =>
  mkS 1 8 #[(.int .i64 0)] 2 v14x4 v14x4 H3 fun v15x5 H6 =>
  jn (fun σ7 H7 =>
    K (σ7 3) H7) fun J7 =>
  ob (vLenSl a0) fun v17x8 =>
  lpE (fun Q9 σ9 H9 =>
    ob (vInt .lss (σ9 18) (σ9 17)) fun v19x10 =>
    cnd v19x10
      (jn (fun σ11 H11 =>
      ob (vInt .add (σ11 18) (.int .i64 1)) fun v69x12 =>
      Q9 .normal (up (up σ11 69 v69x12) 18 v69x12) H11) fun J11 =>
    jn (fun σ13 H13 =>
      ob (vIx 1 (σ13 4) (σ13 6)) fun v38x14 =>
      ob (vLoad v38x14 H13) fun v39x15 =>
      ob (vInt .add (σ13 5) (.int .i64 1)) fun v41x16 =>
      ob (vInt .neq v39x15 v41x16) fun v42x17 =>
      cnd v42x17
        (J11 (up (up (up (up (up (up (up σ13 36 (σ13 4)) 37 (σ13 6)) 38 v38x14) 39 v39x15) 40 (σ13 5)) 41 v41x16) 42 v42x17) H13)
        (jn (fun σ18 H18 =>
        lpE (fun Q19 σ19 H19 =>
          ob (vInt .lss (σ19 9) (σ19 7)) fun v58x20 =>
          cnd v58x20
            (ob (vIx 1 (σ19 3) (σ19 6)) fun v64x21 =>
          st 1 v64x21 (σ19 7) H19 fun H22 =>
          ob (vIx 1 (σ19 0) (σ19 6)) fun v67x23 =>
          ob (vLoad v67x23 H22) fun v68x24 =>
          ob (vInt .add (σ19 9) (.int .i64 1)) fun v60x25 =>
          Q19 .normal (up (up (up (up (up (up (up (up (up (up (up (up (up (up (up σ19 56 (σ19 9)) 57 (σ19 7)) 58 v58x20) 61 (σ19 3)) 62 (σ19 6)) 63 (σ19 7)) 64 v64x21) 65 (σ19 0)) 66 (σ19 6)) 67 v67x23) 68 v68x24) 6 v68x24) 59 (σ19 9)) 60 v60x25) 9 v60x25) H22)
            (Q19 (.exit 6) (up (up (up σ19 56 (σ19 9)) 57 (σ19 7)) 58 v58x20) H19)) (blkQ 6 (blkQ 1 (thenQ J11 Q9))) (up σ18 9 (.int .i64 0)) H18) fun J18 =>
      ob (vIx 1 (σ13 0) (σ13 6)) fun v45x26 =>
      ob (vLoad v45x26 H13) fun v46x27 =>
      lpE (fun Q28 σ28 H28 =>
        ob (vInt .neq (σ28 8) (σ28 6)) fun v49x29 =>
        cnd v49x29
          (ob (vInt .add (σ28 7) (.int .i64 1)) fun v55x30 =>
        ob (vIx 1 (σ28 0) (σ28 8)) fun v52x31 =>
        ob (vLoad v52x31 H28) fun v53x32 =>
        Q28 .normal (up (up (up (up (up (up (up (up (up (up (up σ28 47 (σ28 8)) 48 (σ28 6)) 49 v49x29) 54 (σ28 7)) 55 v55x30) 7 v55x30) 50 (σ28 0)) 51 (σ28 8)) 52 v52x31) 53 v53x32) 8 v53x32) H28)
          (Q28 (.exit 4) (up (up (up σ28 47 (σ28 8)) 48 (σ28 6)) 49 v49x29) H28)) (blkQ 4 (thenQ J18 (blkQ 1 (thenQ J11 Q9)))) (up (up (up (up (up (up (up (up (up (up (up (up (up σ13 36 (σ13 4)) 37 (σ13 6)) 38 v38x14) 39 v39x15) 40 (σ13 5)) 41 v41x16) 42 v42x17) 7 (.int .i64 1)) 43 (σ13 0)) 44 (σ13 6)) 45 v45x26) 46 v46x27) 8 v46x27) H13)) fun J13 =>
    lpE (fun Q33 σ33 H33 =>
      ob (vIx 1 (σ33 4) (σ33 6)) fun v24x34 =>
      ob (vLoad v24x34 H33) fun v25x35 =>
      ob (vInt .eql v25x35 (.int .i64 0)) fun v26x36 =>
      cnd v26x36
        (ob (vInt .add (σ33 5) (.int .i64 1)) fun v30x37 =>
      ob (vIx 1 (σ33 4) (σ33 6)) fun v31x38 =>
      st 1 v31x38 v30x37 H33 fun H39 =>
      ob (vIx 1 (σ33 0) (σ33 6)) fun v34x40 =>
      ob (vLoad v34x40 H39) fun v35x41 =>
      Q33 .normal (up (up (up (up (up (up (up (up (up (up (up (up (up (up (up σ33 22 (σ33 4)) 23 (σ33 6)) 24 v24x34) 25 v25x35) 26 v26x36) 27 (σ33 4)) 28 (σ33 6)) 29 (σ33 5)) 30 v30x37) 31 v31x38) 32 (σ33 0)) 33 (σ33 6)) 34 v34x40) 35 v35x41) 6 v35x41) H39)
        (Q33 (.exit 2) (up (up (up (up (up σ33 22 (σ33 4)) 23 (σ33 6)) 24 v24x34) 25 v25x35) 26 v26x36) H33)) (blkQ 2 (thenQ J13 (blkQ 1 (thenQ J11 Q9)))) (up (up (up (up (up σ9 19 v19x10) 20 (σ9 18)) 5 (σ9 18)) 21 (σ9 18)) 6 (σ9 18)) H9)
      (Q9 (.exit 0) (up σ9 19 v19x10) H9)) (blkQ 0 (thenQ J7 (retQ prg [(.tmp 2)] K))) (up (up (up (up (up (up (up (up (up (up (up (up (S0 [a0]) 2 (.slice none 0 0)) 10 a0) 11 v11x1) 12 v12x2) 3 v12x2) 13 a0) 14 v14x4) 15 v15x5) 4 v15x5) 16 a0) 17 v17x8) 18 (.int .i64 0)) H6
def O.spec_l03Cycles : Nat → Nat × List Nat := fun i => (0, [])
theorem R.spec_l03Cycles {a0 : Value} {H : Hp} {K : Value → Hp → Prop} (h : F.spec_l03Cycles a0 H K) : HT prg I.spec_l03Cycles [a0].toArray H K :=
  HT_of_fev O.spec_l03Cycles mixed Try.func162 (by kernel_rfl) (Eq.mpr (by kernel_rfl : fev prg O.spec_l03Cycles Try.f162 [a0] H K = F.spec_l03Cycles a0 H K) h)

/-! loop.example/g01381/spec.DepthOf: function 78 -/
def F.spec_DepthOf (a0 a1 : Value) (H : Hp) (K : Value → Hp → Prop) : Prop :=
  nw (a0 : Value).cells 43 H fun v2x1 H2 =>
  HT prg I.spec_l03Small [v2x1, a1, (.int .i64 12), (.int .i64 8)].toArray H2 fun v16x3 H4 =>
  ob (vUn .not v16x3) fun v17x5 =>
  cnd v17x5
    (K (.tuple #[(.int .i64 0), (.bool false)]) H4)
    (HT prg I.spec_l03Steps [v2x1, a1].toArray H4 fun v19x6 H7 =>
  HT prg I.spec_l03Cycles [v19x6].toArray H7 fun v21x8 H9 =>
  ob (vLenSl v19x6) fun v23x10 =>
  mkS 1 8 #[(.int .i64 0)] 2 v23x10 v23x10 H9 fun v24x11 H12 =>
  jn (fun σ13 H13 =>
    K (.tuple #[(σ13 9), (.bool true)]) H13) fun J13 =>
  ob (vLenSl v19x6) fun v26x14 =>
  lpE (fun Q15 σ15 H15 =>
    ob (vInt .lss (σ15 27) (σ15 26)) fun v28x16 =>
    cnd v28x16
      (jn (fun σ17 H17 =>
      ob (vInt .add (σ17 27) (.int .i64 1)) fun v82x18 =>
      Q15 .normal (up (up σ17 82 v82x18) 27 v82x18) H17) fun J17 =>
    bS 1 0 #[(.int .i64 0)] 2 [] H15 fun v30x19 H20 =>
    jn (fun σ21 H21 =>
      jn (fun σ22 H22 =>
        jn (fun σ23 H23 =>
          HT prg I.spec_l00Max [(σ23 9), (σ23 13)].toArray H23 fun v81x24 H25 =>
          J17 (up (up (up (up σ23 79 (σ23 9)) 80 (σ23 13)) 81 v81x24) 9 v81x24) H25) fun J23 =>
        ob (vLenSl (σ22 11)) fun v63x26 =>
        ob (vInt .sub v63x26 (.int .i64 1)) fun v64x27 =>
        lpE (fun Q28 σ28 H28 =>
          ob (vInt .geq (σ28 14) (.int .i64 0)) fun v66x29 =>
          cnd v66x29
            (ob (vInt .add (σ28 13) (.int .i64 1)) fun v70x30 =>
          ob (vIx 1 (σ28 11) (σ28 14)) fun v74x31 =>
          ob (vLoad v74x31 H28) fun v75x32 =>
          ob (vInt .add v70x30 (.int .i64 1)) fun v77x33 =>
          ob (vIx 1 (σ28 8) v75x32) fun v78x34 =>
          st 1 v78x34 v77x33 H28 fun H35 =>
          ob (vInt .sub (σ28 14) (.int .i64 1)) fun v68x36 =>
          Q28 .normal (up (up (up (up (up (up (up (up (up (up (up (up (up (up (up (up σ28 65 (σ28 14)) 66 v66x29) 69 (σ28 13)) 70 v70x30) 13 v70x30) 71 (σ28 8)) 72 (σ28 11)) 73 (σ28 14)) 74 v74x31) 75 v75x32) 76 v70x30) 77 v77x33) 78 v78x34) 67 (σ28 14)) 68 v68x36) 14 v68x36) H35)
            (Q28 (.exit 4) (up (up σ28 65 (σ28 14)) 66 v66x29) H28)) (blkQ 4 (thenQ J23 (blkQ 1 (thenQ J17 Q15)))) (up (up (up (up σ22 62 (σ22 11)) 63 v63x26) 64 v64x27) 14 v64x27) H22) fun J22 =>
      ob (vIx 1 (σ21 7) (σ21 12)) fun v54x37 =>
      ob (vLoad v54x37 H21) fun v55x38 =>
      ob (vInt .eql v55x38 (.int .i64 0)) fun v56x39 =>
      cnd v56x39
        (ob (vIx 1 (σ21 8) (σ21 12)) fun v59x40 =>
        ob (vLoad v59x40 H21) fun v60x41 =>
        ob (vInt .sub v60x41 (.int .i64 1)) fun v61x42 =>
        J22 (up (up (up (up (up (up (up (up (up (up (up (up σ21 13 (.int .i64 0)) 52 (σ21 7)) 53 (σ21 12)) 54 v54x37) 55 v55x38) 56 v56x39) 57 (σ21 8)) 58 (σ21 12)) 59 v59x40) 60 v60x41) 61 v61x42) 13 v61x42) H21)
        (J22 (up (up (up (up (up (up σ21 13 (.int .i64 0)) 52 (σ21 7)) 53 (σ21 12)) 54 v54x37) 55 v55x38) 56 v56x39) H21)) fun J21 =>
    lpE (fun Q43 σ43 H43 =>
      ob (vIx 1 (σ43 7) (σ43 12)) fun v34x44 =>
      ob (vLoad v34x44 H43) fun v35x45 =>
      ob (vInt .eql v35x45 (.int .i64 0)) fun v36x46 =>
      gop v36x46 true (fun K47 => K47 (σ43 8) H43) H43 fun v38x48 H49 =>
      gop v36x46 true (fun K50 => K50 (σ43 12) H49) H49 fun v39x51 H52 =>
      gop v36x46 true (fun K53 => ob (vIx 1 v38x48 v39x51) fun u => K53 u H52) H52 fun v40x54 H55 =>
      gop v36x46 true (fun K56 => ob (vLoad v40x54 H55) fun u => K56 u H55) H55 fun v41x57 H58 =>
      gop v36x46 true (fun K59 => ob (vInt .eql v41x57 (.int .i64 0)) fun u => K59 u H58) H58 fun v42x60 H61 =>
      ob (vPick v36x46 v42x60 (.bool false)) fun v43x62 =>
      cnd v43x62
        (bS 1 1 #[(.int .i64 0)] 2 [(0, (σ43 12))] H61 fun v46x63 H64 =>
      apd 1 8 #[(.int .i64 0)] 2 (σ43 11) v46x63 H64 fun v47x65 H66 =>
      ob (vIx 1 (σ43 6) (σ43 12)) fun v50x67 =>
      ob (vLoad v50x67 H66) fun v51x68 =>
      Q43 .normal (up (up (up (up (up (up (up (up (up (up (up (up (up (up (up (up (up (up (up (up (up (up σ43 32 (σ43 7)) 33 (σ43 12)) 34 v34x44) 35 v35x45) 36 v36x46) 37 v36x46) 38 v38x48) 39 v39x51) 40 v40x54) 41 v41x57) 42 v42x60) 43 v43x62) 44 (σ43 11)) 45 (σ43 12)) 46 v46x63) 47 v47x65) 11 v47x65) 48 (σ43 6)) 49 (σ43 12)) 50 v50x67) 51 v51x68) 12 v51x68) H66)
        (Q43 (.exit 2) (up (up (up (up (up (up (up (up (up (up (up (up σ43 32 (σ43 7)) 33 (σ43 12)) 34 v34x44) 35 v35x45) 36 v36x46) 37 v36x46) 38 v38x48) 39 v39x51) 40 v40x54) 41 v41x57) 42 v42x60) 43 v43x62) H61)) (blkQ 2 (thenQ J21 (blkQ 1 (thenQ J17 Q15)))) (up (up (up (up (up (up (up σ15 28 v28x16) 29 (σ15 27)) 10 (σ15 27)) 30 v30x19) 11 v30x19) 31 (σ15 27)) 12 (σ15 27)) H20)
      (Q15 (.exit 0) (up σ15 28 v28x16) H15)) (blkQ 0 (thenQ J13 (retQ prg [(.tmp 4), (.tmp 5)] K))) (up (up (up (up (up (up (up (up (up (up (up (up (up (up (up (up (up (up (up (up (S0 [a0, a1]) 2 v2x1) 4 (.int .i64 0)) 5 (.bool false)) 15 a1) 16 v16x3) 17 v17x5) 18 a1) 19 v19x6) 6 v19x6) 20 v19x6) 21 v21x8) 7 v21x8) 22 v19x6) 23 v23x10) 24 v24x11) 8 v24x11) 9 (.int .i64 0)) 25 v19x6) 26 v26x14) 27 (.int .i64 0)) H12)
def O.spec_DepthOf : Nat → Nat × List Nat := fun i => (0, [])
theorem R.spec_DepthOf {a0 a1 : Value} {H : Hp} {K : Value → Hp → Prop} (h : F.spec_DepthOf a0 a1 H K) : HT prg I.spec_DepthOf [a0, a1].toArray H K :=
  HT_of_fev O.spec_DepthOf mixed Try.func78 (by kernel_rfl) (Eq.mpr (by kernel_rfl : fev prg O.spec_DepthOf Try.f78 [a0, a1] H K = F.spec_DepthOf a0 a1 H K) h)

end Go.Proofs.Ytelcmohhjkgjoaa
