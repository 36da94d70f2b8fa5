/- Functions' texts over a partial heap. -/
import Derived.Test.YthocjpfibegjcaaGreatDoorG0
namespace Go.Proofs.YthocjpfibegjcaaGreatDoor
open HL
set_option linter.unusedVariables false
set_option maxRecDepth 100000
set_option maxHeartbeats 4000000
/-! loop.example/g01381/spec.l05Mirror: function 100 -/
def F.spec_l05Mirror (a0 : Value) (H : Hp) (K : Value → Hp → Prop) : Prop :=
  nw #[(.int .i64 0), (.int .i64 0), (.slice none 0 0)] 27 H fun v2x1 H2 =>
  ob (vNilC a0) fun v7x3 =>
  ob (vFa 0 v7x3) fun v8x4 =>
  ob (vLoad v8x4 H2) fun v9x5 =>
  ob (vNilC a0) fun v11x6 =>
  ob (vFa 1 v11x6) fun v12x7 =>
  ob (vLoad v12x7 H2) fun v13x8 =>
  HT prg I.spec_l04New [v9x5, v13x8].toArray H2 fun v14x9 H10 =>
  Le H2 H10 ∧ (nw #[(.int .i64 0), (.int .i64 0), (.slice none 0 0)] 27 H10 fun v3x11 H12 =>
  st 3 v3x11 v14x9 H12 fun H13 =>
  jn (fun σ14 H14 =>
    ob (vLoadN 3 (σ14 3) H14) fun v58x15 =>
    st 3 (σ14 2) v58x15 H14 fun H16 =>
    ob (vLoadN 3 (σ14 2) H16) fun u17 => K u17 H16) fun J14 =>
  lpE (fun Q18 σ18 H18 =>
    ob (vNilC (σ18 0)) fun v17x19 =>
    ob (vFa 0 v17x19) fun v18x20 =>
    ob (vLoad v18x20 H18) fun v19x21 =>
    ob (vInt .lss (σ18 4) v19x21) fun v20x22 =>
    cnd v20x22
      (jn (fun σ23 H23 =>
      ob (vInt .add (σ23 4) (.int .i64 1)) fun v22x24 =>
      Q18 .normal (up (up (up σ23 21 (σ23 4)) 22 v22x24) 4 v22x24) H23) fun J23 =>
    lpE (fun Q25 σ25 H25 =>
      ob (vNilC (σ25 0)) fun v25x26 =>
      ob (vFa 1 v25x26) fun v26x27 =>
      ob (vLoad v26x27 H25) fun v27x28 =>
      ob (vInt .lss (σ25 5) v27x28) fun v28x29 =>
      cnd v28x29
        (ob (vFa 2 (σ25 3)) fun v31x30 =>
      ob (vLoad v31x30 H25) fun v32x31 =>
      ob (vNilC (σ25 0)) fun v35x32 =>
      ob (vFa 1 v35x32) fun v36x33 =>
      ob (vLoad v36x33 H25) fun v37x34 =>
      ob (vInt .mul (σ25 4) v37x34) fun v38x35 =>
      ob (vInt .add v38x35 (σ25 5)) fun v40x36 =>
      ob (vNilC (σ25 0)) fun v42x37 =>
      ob (vFa 2 v42x37) fun v43x38 =>
      ob (vLoad v43x38 H25) fun v44x39 =>
      ob (vInt .add (σ25 4) (.int .i64 1)) fun v46x40 =>
      ob (vNilC (σ25 0)) fun v48x41 =>
      ob (vFa 1 v48x41) fun v49x42 =>
      ob (vLoad v49x42 H25) fun v50x43 =>
      ob (vInt .mul v46x40 v50x43) fun v51x44 =>
      ob (vInt .sub v51x44 (.int .i64 1)) fun v52x45 =>
      ob (vInt .sub v52x45 (σ25 5)) fun v54x46 =>
      ob (vIx 1 v44x39 v54x46) fun v55x47 =>
      ob (vLoad v55x47 H25) fun v56x48 =>
      ob (vIx 1 v32x31 v40x36) fun v57x49 =>
      st 1 v57x49 v56x48 H25 fun H50 =>
      ob (vInt .add (σ25 5) (.int .i64 1)) fun v30x51 =>
      Q25 .normal (up (up (up (up (up (up (up (up (up (up (up (up (up (up (up (up (up (up (up (up (up (up (up (up (up (up (up (up (up (up (up (up (up (up (up (up σ25 23 (σ25 5)) 24 (σ25 0)) 25 v25x26) 26 v26x27) 27 v27x28) 28 v28x29) 31 v31x30) 32 v32x31) 33 (σ25 4)) 34 (σ25 0)) 35 v35x32) 36 v36x33) 37 v37x34) 38 v38x35) 39 (σ25 5)) 40 v40x36) 41 (σ25 0)) 42 v42x37) 43 v43x38) 44 v44x39) 45 (σ25 4)) 46 v46x40) 47 (σ25 0)) 48 v48x41) 49 v49x42) 50 v50x43) 51 v51x44) 52 v52x45) 53 (σ25 5)) 54 v54x46) 55 v55x47) 56 v56x48) 57 v57x49) 29 (σ25 5)) 30 v30x51) 5 v30x51) H50)
        (Q25 (.exit 2) (up (up (up (up (up (up σ25 23 (σ25 5)) 24 (σ25 0)) 25 v25x26) 26 v26x27) 27 v27x28) 28 v28x29) H25)) (blkQ 2 (blkQ 1 (thenQ J23 Q18))) (up (up (up (up (up (up (up σ18 15 (σ18 4)) 16 (σ18 0)) 17 v17x19) 18 v18x20) 19 v19x21) 20 v20x22) 5 (.int .i64 0)) H18)
      (Q18 (.exit 0) (up (up (up (up (up (up σ18 15 (σ18 4)) 16 (σ18 0)) 17 v17x19) 18 v18x20) 19 v19x21) 20 v20x22) H18)) (blkQ 0 (thenQ J14 (retQ prg [(.cell 2 27)] K))) (up (up (up (up (up (up (up (up (up (up (up (up (S0 [a0]) 2 v2x1) 6 a0) 7 v7x3) 8 v8x4) 9 v9x5) 10 a0) 11 v11x6) 12 v12x7) 13 v13x8) 14 v14x9) 3 v3x11) 4 (.int .i64 0)) H13)
def O.spec_l05Mirror : Nat → Nat × List Nat := fun i => bif Nat.beq i 1 then (0, [0, 1, 2, 3, 4, 5, 6, 7, 8, 9, 10]) else bif Nat.beq i 8 then (0, [0, 1, 2, 3, 4, 5, 6, 7, 8, 9, 10, 11, 12, 13, 14, 15, 16, 17, 18, 19, 20, 21, 22, 23, 24, 25, 26, 27]) else (0, [])
theorem R.spec_l05Mirror {a0 : Value} {H : Hp} {K : Value → Hp → Prop} (h : F.spec_l05Mirror a0 H K) : HT prg I.spec_l05Mirror [a0].toArray H K :=
  HT_of_fev O.spec_l05Mirror mixed Tryz.func100 (by kernel_rfl) (Eq.mpr (by kernel_rfl : fev prg O.spec_l05Mirror Tryz.f100 [a0] H K = F.spec_l05Mirror a0 H K) h)

/-! loop.example/g01381/spec.l05Images: function 79 -/
def F.spec_l05Images (a0 : Value) (H : Hp) (K : Value → Hp → Prop) : Prop :=
  bS 3 0 #[(.int .i64 0), (.int .i64 0), (.slice none 0 0)] 27 [] H fun v7x1 H2 =>
  ob (vNilC a0) fun v10x3 =>
  ob (vFa 0 v10x3) fun v11x4 =>
  ob (vLoad v11x4 H2) fun v12x5 =>
  ob (vNilC a0) fun v14x6 =>
  ob (vFa 1 v14x6) fun v15x7 =>
  ob (vLoad v15x7 H2) fun v16x8 =>
  HT prg I.spec_l05Cut [a0, (.int .i64 0), (.int .i64 0), v12x5, v16x8].toArray H2 fun v17x9 H10 =>
  Le H2 H10 ∧ (nw #[(.int .i64 0), (.int .i64 0), (.slice none 0 0)] 27 H10 fun v4x11 H12 =>
  st 3 v4x11 v17x9 H12 fun H13 =>
  jn (fun σ14 H14 =>
    K (σ14 3) H14) fun J14 =>
  lpE (fun Q15 σ15 H15 =>
    ob (vInt .lss (σ15 5) (.int .i64 2)) fun v19x16 =>
    cnd v19x16
      (jn (fun σ17 H17 =>
      ob (vInt .add (σ17 5) (.int .i64 1)) fun v21x18 =>
      Q15 .normal (up (up (up σ17 20 (σ17 5)) 21 v21x18) 5 v21x18) H17) fun J17 =>
    jn (fun σ19 H19 =>
      HT prg I.spec_l05Mirror [(σ19 0)].toArray H19 fun v32x20 H21 =>
      st 3 (σ19 4) v32x20 H21 fun H22 =>
      J17 (up (up σ19 31 (σ19 0)) 32 v32x20) H22) fun J19 =>
    lpE (fun Q23 σ23 H23 =>
      ob (vInt .lss (σ23 6) (.int .i64 4)) fun v23x24 =>
      cnd v23x24
        (ob (vLoadN 3 (σ23 4) H23) fun v27x25 =>
      bS 3 1 #[(.int .i64 0), (.int .i64 0), (.slice none 0 0)] 27 [(0, v27x25)] H23 fun v28x26 H27 =>
      apd 3 40 #[(.int .i64 0), (.int .i64 0), (.slice none 0 0)] 27 (σ23 3) v28x26 H27 fun v29x28 H29 =>
      HT prg I.spec_l05Turn [(σ23 4)].toArray H29 fun v30x30 H31 =>
      st 3 (σ23 4) v30x30 H31 fun H32 =>
      ob (vInt .add (σ23 6) (.int .i64 1)) fun v25x33 =>
      Q23 .normal (up (up (up (up (up (up (up (up (up (up (up σ23 22 (σ23 6)) 23 v23x24) 26 (σ23 3)) 27 v27x25) 28 v28x26) 29 v29x28) 3 v29x28) 30 v30x30) 24 (σ23 6)) 25 v25x33) 6 v25x33) H32)
        (Q23 (.exit 2) (up (up σ23 22 (σ23 6)) 23 v23x24) H23)) (blkQ 2 (thenQ J19 (blkQ 1 (thenQ J17 Q15)))) (up (up (up σ15 18 (σ15 5)) 19 v19x16) 6 (.int .i64 0)) H15)
      (Q15 (.exit 0) (up (up σ15 18 (σ15 5)) 19 v19x16) H15)) (blkQ 0 (thenQ J14 (retQ prg [(.tmp 2)] K))) (up (up (up (up (up (up (up (up (up (up (up (up (up (up (up (S0 [a0]) 2 (.slice none 0 0)) 7 v7x1) 3 v7x1) 8 a0) 9 a0) 10 v10x3) 11 v11x4) 12 v12x5) 13 a0) 14 v14x6) 15 v15x7) 16 v16x8) 17 v17x9) 4 v4x11) 5 (.int .i64 0)) H13)
def O.spec_l05Images : Nat → Nat × List Nat := fun i => bif Nat.beq i 2 then (0, [0, 1, 2, 3, 4, 5, 6, 7, 8, 9, 10, 11]) else (0, [])
theorem R.spec_l05Images {a0 : Value} {H : Hp} {K : Value → Hp → Prop} (h : F.spec_l05Images a0 H K) : HT prg I.spec_l05Images [a0].toArray H K :=
  HT_of_fev O.spec_l05Images mixed Tryz.func79 (by kernel_rfl) (Eq.mpr (by kernel_rfl : fev prg O.spec_l05Images Tryz.f79 [a0] H K = F.spec_l05Images a0 H K) h)

/-! loop.example/g01381/spec.l05Number: function 101 -/
def F.spec_l05Number (a0 : Value) (H : Hp) (K : Value → Hp → Prop) : Prop :=
  ob (vInt .lss a0 (.int .i64 10)) fun v4x1 =>
  cnd v4x1
    (ob (vInt .add (.int .i64 48) a0) fun v6x2 =>
    ob (vCI .u8 v6x2) fun v7x3 =>
    bS 1 1 #[(.int .u8 0)] 5 [(0, v7x3)] H fun v8x4 H5 =>
    ob (val prg (convert 22 9 v8x4) H5) fun v9x6 =>
    K v9x6 H5)
    ((ob (vInt .quo a0 (.int .i64 10)) fun v11x7 =>
  ob (vInt .rem a0 (.int .i64 10)) fun v14x8 =>
  ob (vInt .add (.int .i64 48) v14x8) fun v15x9 =>
  ob (vCI .u8 v15x9) fun v16x10 =>
  HT prg I.spec_l05Number [v11x7].toArray H fun v12x11 H12 =>
  Le H H12 ∧ (bS 1 1 #[(.int .u8 0)] 5 [(0, v16x10)] H12 fun v17x13 H14 =>
  ob (val prg (convert 22 9 v17x13) H14) fun v18x15 =>
  ob (vStr .add v12x11 v18x15) fun v19x16 =>
  K v19x16 H14)) ∧ (ob (vInt .quo a0 (.int .i64 10)) fun v11x17 =>
  ob (vInt .rem a0 (.int .i64 10)) fun v14x18 =>
  ob (vInt .add (.int .i64 48) v14x18) fun v15x19 =>
  ob (vCI .u8 v15x19) fun v16x20 =>
  bS 1 1 #[(.int .u8 0)] 5 [(0, v16x20)] H fun v17x21 H22 =>
  ob (val prg (convert 22 9 v17x21) H22) fun v18x23 =>
  HT prg I.spec_l05Number [v11x17].toArray H22 fun v12x24 H25 =>
  Le H22 H25 ∧ (ob (vStr .add v12x24 v18x23) fun v19x26 =>
  K v19x26 H25)))
def O.spec_l05Number : Nat → Nat × List Nat := fun i => bif Nat.beq i 3 then (0, [1002, 1008, 0, 1, 3, 4, 5, 6, 2, 7, 8, 9, 10, 0, 1, 3, 4, 5, 6, 7, 8, 2, 9, 10]) else (0, [])
theorem R.spec_l05Number {a0 : Value} {H : Hp} {K : Value → Hp → Prop} (h : F.spec_l05Number a0 H K) : HT prg I.spec_l05Number [a0].toArray H K :=
  HT_of_fev O.spec_l05Number mixed Tryz.func101 (by kernel_rfl) (Eq.mpr (by kernel_rfl : fev prg O.spec_l05Number Tryz.f101 [a0] H K = F.spec_l05Number a0 H K) h)

/-! loop.example/g01381/spec.l05Write: function 80 -/
def F.spec_l05Write (a0 : Value) (H : Hp) (K : Value → Hp → Prop) : Prop :=
  ob (vNilC a0) fun v10x1 =>
  ob (vFa 1 v10x1) fun v11x2 =>
  ob (vLoad v11x2 H) fun v12x3 =>
  ob (vNilC a0) fun v16x4 =>
  ob (vFa 0 v16x4) fun v17x5 =>
  ob (vLoad v17x5 H) fun v18x6 =>
  HT prg I.spec_l05Number [v12x3].toArray H fun v13x7 H8 =>
  Le H H8 ∧ (ob (vStr .add v13x7 (.string ⟨#[44]⟩)) fun v14x9 =>
  HT prg I.spec_l05Number [v18x6].toArray H8 fun v19x10 H11 =>
  Le H8 H11 ∧ (ob (vStr .add v14x9 v19x10) fun v20x12 =>
  ob (vStr .add v20x12 (.string ⟨#[58]⟩)) fun v21x13 =>
  jn (fun σ14 H14 =>
    ob (vStr .add (σ14 3) (.string ⟨#[33]⟩)) fun v108x15 =>
    K v108x15 H14) fun J14 =>
  lpE (fun Q16 σ16 H16 =>
    ob (vNilC (σ16 0)) fun v24x17 =>
    ob (vFa 0 v24x17) fun v25x18 =>
    ob (vLoad v25x18 H16) fun v26x19 =>
    ob (vInt .lss (σ16 4) v26x19) fun v27x20 =>
    cnd v27x20
      (jn (fun σ21 H21 =>
      ob (vInt .add (σ21 4) (.int .i64 1)) fun v29x22 =>
      Q16 .normal (up (up (up σ21 28 (σ21 4)) 29 v29x22) 4 v29x22) H21) fun J21 =>
    jn (fun σ23 H23 =>
      ob (vNilC (σ23 0)) fun v35x24 =>
      ob (vFa 2 v35x24) fun v36x25 =>
      ob (vLoad v36x25 H23) fun v37x26 =>
      ob (vNilC (σ23 0)) fun v40x27 =>
      ob (vFa 1 v40x27) fun v41x28 =>
      ob (vLoad v41x28 H23) fun v42x29 =>
      ob (vInt .mul (σ23 4) v42x29) fun v43x30 =>
      ob (vInt .add (σ23 4) (.int .i64 1)) fun v45x31 =>
      ob (vNilC (σ23 0)) fun v47x32 =>
      ob (vFa 1 v47x32) fun v48x33 =>
      ob (vLoad v48x33 H23) fun v49x34 =>
      ob (vInt .mul v45x31 v49x34) fun v50x35 =>
      ob (vSl3 1 v37x26 (some v43x30) (some v50x35) none) fun v51x36 =>
      ob (vLenSl v51x36) fun v53x37 =>
      jn (fun σ38 H38 =>
        lpE (fun Q39 σ39 H39 =>
          ob (vInt .lss (σ39 7) (σ39 6)) fun v68x40 =>
          cnd v68x40
            (jn (fun σ41 H41 =>
            ob (vInt .gtr (σ41 8) (.int .i64 1)) fun v90x42 =>
            cnd v90x42
              (HT prg I.spec_l05Number [(σ41 8)].toArray H41 fun v93x43 H44 =>
              ob (vStr .add (σ41 3) v93x43) fun v94x45 =>
              ob (vIx 1 (σ41 5) (σ41 7)) fun v97x46 =>
            ob (vLoad v97x46 H44) fun v98x47 =>
            ob (vInt .eql v98x47 (.int .i64 1)) fun v99x48 =>
            cnd v99x48
              (ob (vStr .add v94x45 (.string ⟨#[111]⟩)) fun v101x49 =>
              ob (vInt .add (σ41 7) (σ41 8)) fun v106x50 =>
            Q39 .normal (up (up (up (up (up (up (up (up (up (up (up (up (up (up (up (up (up (up (up σ41 89 (σ41 8)) 90 v90x42) 91 (σ41 3)) 92 (σ41 8)) 93 v93x43) 94 v94x45) 3 v94x45) 95 (σ41 5)) 96 (σ41 7)) 97 v97x46) 98 v98x47) 99 v99x48) 100 v94x45) 101 v101x49) 3 v101x49) 104 (σ41 7)) 105 (σ41 8)) 106 v106x50) 7 v106x50) H44)
              (ob (vStr .add v94x45 (.string ⟨#[98]⟩)) fun v103x51 =>
              ob (vInt .add (σ41 7) (σ41 8)) fun v106x52 =>
            Q39 .normal (up (up (up (up (up (up (up (up (up (up (up (up (up (up (up (up (up (up (up σ41 89 (σ41 8)) 90 v90x42) 91 (σ41 3)) 92 (σ41 8)) 93 v93x43) 94 v94x45) 3 v94x45) 95 (σ41 5)) 96 (σ41 7)) 97 v97x46) 98 v98x47) 99 v99x48) 102 v94x45) 103 v103x51) 3 v103x51) 104 (σ41 7)) 105 (σ41 8)) 106 v106x52) 7 v106x52) H44))
              (ob (vIx 1 (σ41 5) (σ41 7)) fun v97x53 =>
            ob (vLoad v97x53 H41) fun v98x54 =>
            ob (vInt .eql v98x54 (.int .i64 1)) fun v99x55 =>
            cnd v99x55
              (ob (vStr .add (σ41 3) (.string ⟨#[111]⟩)) fun v101x56 =>
              ob (vInt .add (σ41 7) (σ41 8)) fun v106x57 =>
            Q39 .normal (up (up (up (up (up (up (up (up (up (up (up (up (up (up σ41 89 (σ41 8)) 90 v90x42) 95 (σ41 5)) 96 (σ41 7)) 97 v97x53) 98 v98x54) 99 v99x55) 100 (σ41 3)) 101 v101x56) 3 v101x56) 104 (σ41 7)) 105 (σ41 8)) 106 v106x57) 7 v106x57) H41)
              (ob (vStr .add (σ41 3) (.string ⟨#[98]⟩)) fun v103x58 =>
              ob (vInt .add (σ41 7) (σ41 8)) fun v106x59 =>
            Q39 .normal (up (up (up (up (up (up (up (up (up (up (up (up (up (up σ41 89 (σ41 8)) 90 v90x42) 95 (σ41 5)) 96 (σ41 7)) 97 v97x53) 98 v98x54) 99 v99x55) 102 (σ41 3)) 103 v103x58) 3 v103x58) 104 (σ41 7)) 105 (σ41 8)) 106 v106x59) 7 v106x59) H41))) fun J41 =>
          lpE (fun Q60 σ60 H60 =>
            ob (vInt .add (σ60 7) (σ60 8)) fun v71x61 =>
            ob (vInt .lss v71x61 (σ60 6)) fun v73x62 =>
            gop v73x62 true (fun K63 => K63 (σ60 5) H60) H60 fun v75x64 H65 =>
            gop v73x62 true (fun K66 => K66 (σ60 7) H65) H65 fun v76x67 H68 =>
            gop v73x62 true (fun K69 => K69 (σ60 8) H68) H68 fun v77x70 H71 =>
            gop v73x62 true (fun K72 => ob (vInt .add v76x67 v77x70) fun u => K72 u H71) H71 fun v78x73 H74 =>
            gop v73x62 true (fun K75 => ob (vIx 1 v75x64 v78x73) fun u => K75 u H74) H74 fun v79x76 H77 =>
            gop v73x62 true (fun K78 => ob (vLoad v79x76 H77) fun u => K78 u H77) H77 fun v80x79 H80 =>
            gop v73x62 true (fun K81 => K81 (σ60 5) H80) H80 fun v81x82 H83 =>
            gop v73x62 true (fun K84 => K84 (σ60 7) H83) H83 fun v82x85 H86 =>
            gop v73x62 true (fun K87 => ob (vIx 1 v81x82 v82x85) fun u => K87 u H86) H86 fun v83x88 H89 =>
            gop v73x62 true (fun K90 => ob (vLoad v83x88 H89) fun u => K90 u H89) H89 fun v84x91 H92 =>
            gop v73x62 true (fun K93 => ob (vInt .eql v80x79 v84x91) fun u => K93 u H92) H92 fun v85x94 H95 =>
            ob (vPick v73x62 v85x94 (.bool false)) fun v86x96 =>
            cnd v86x96
              (ob (vInt .add (σ60 8) (.int .i64 1)) fun v88x97 =>
            Q60 .normal (up (up (up (up (up (up (up (up (up (up (up (up (up (up (up (up (up (up (up (up (up σ60 69 (σ60 7)) 70 (σ60 8)) 71 v71x61) 72 (σ60 6)) 73 v73x62) 74 v73x62) 75 v75x64) 76 v76x67) 77 v77x70) 78 v78x73) 79 v79x76) 80 v80x79) 81 v81x82) 82 v82x85) 83 v83x88) 84 v84x91) 85 v85x94) 86 v86x96) 87 (σ60 8)) 88 v88x97) 8 v88x97) H95)
              (Q60 (.exit 6) (up (up (up (up (up (up (up (up (up (up (up (up (up (up (up (up (up (up σ60 69 (σ60 7)) 70 (σ60 8)) 71 v71x61) 72 (σ60 6)) 73 v73x62) 74 v73x62) 75 v75x64) 76 v76x67) 77 v77x70) 78 v78x73) 79 v79x76) 80 v80x79) 81 v81x82) 82 v82x85) 83 v83x88) 84 v84x91) 85 v85x94) 86 v86x96) H95)) (blkQ 6 (thenQ J41 (blkQ 5 Q39))) (up (up (up (up σ39 66 (σ39 7)) 67 (σ39 6)) 68 v68x40) 8 (.int .i64 1)) H39)
            (Q39 (.exit 4) (up (up (up σ39 66 (σ39 7)) 67 (σ39 6)) 68 v68x40) H39)) (blkQ 4 (blkQ 1 (thenQ J21 Q16))) (up σ38 7 (.int .i64 0)) H38) fun J38 =>
      lpE (fun Q98 σ98 H98 =>
        ob (vInt .gtr (σ98 6) (.int .i64 0)) fun v55x99 =>
        gop v55x99 true (fun K100 => K100 (σ98 5) H98) H98 fun v57x101 H102 =>
        gop v55x99 true (fun K103 => K103 (σ98 6) H102) H102 fun v58x104 H105 =>
        gop v55x99 true (fun K106 => ob (vInt .sub v58x104 (.int .i64 1)) fun u => K106 u H105) H105 fun v59x107 H108 =>
        gop v55x99 true (fun K109 => ob (vIx 1 v57x101 v59x107) fun u => K109 u H108) H108 fun v60x110 H111 =>
        gop v55x99 true (fun K112 => ob (vLoad v60x110 H111) fun u => K112 u H111) H111 fun v61x113 H114 =>
        gop v55x99 true (fun K115 => ob (vInt .eql v61x113 (.int .i64 0)) fun u => K115 u H114) H114 fun v62x116 H117 =>
        ob (vPick v55x99 v62x116 (.bool false)) fun v63x118 =>
        cnd v63x118
          (ob (vInt .sub (σ98 6) (.int .i64 1)) fun v65x119 =>
        Q98 .normal (up (up (up (up (up (up (up (up (up (up (up (up (up σ98 54 (σ98 6)) 55 v55x99) 56 v55x99) 57 v57x101) 58 v58x104) 59 v59x107) 60 v60x110) 61 v61x113) 62 v62x116) 63 v63x118) 64 (σ98 6)) 65 v65x119) 6 v65x119) H117)
          (Q98 (.exit 2) (up (up (up (up (up (up (up (up (up (up σ98 54 (σ98 6)) 55 v55x99) 56 v55x99) 57 v57x101) 58 v58x104) 59 v59x107) 60 v60x110) 61 v61x113) 62 v62x116) 63 v63x118) H117)) (blkQ 2 (thenQ J38 (blkQ 1 (thenQ J21 Q16)))) (up (up (up (up (up (up (up (up (up (up (up (up (up (up (up (up (up (up (up (up (up (up σ23 34 (σ23 0)) 35 v35x24) 36 v36x25) 37 v37x26) 38 (σ23 4)) 39 (σ23 0)) 40 v40x27) 41 v41x28) 42 v42x29) 43 v43x30) 44 (σ23 4)) 45 v45x31) 46 (σ23 0)) 47 v47x32) 48 v48x33) 49 v49x34) 50 v50x35) 51 v51x36) 5 v51x36) 52 v51x36) 53 v53x37) 6 v53x37) H23) fun J23 =>
    ob (vInt .gtr (σ16 4) (.int .i64 0)) fun v31x120 =>
    cnd v31x120
      (ob (vStr .add (σ16 3) (.string ⟨#[36]⟩)) fun v33x121 =>
      J23 (up (up (up (up (up (up (up (up (up (up (up σ16 22 (σ16 4)) 23 (σ16 0)) 24 v24x17) 25 v25x18) 26 v26x19) 27 v27x20) 30 (σ16 4)) 31 v31x120) 32 (σ16 3)) 33 v33x121) 3 v33x121) H16)
      (J23 (up (up (up (up (up (up (up (up σ16 22 (σ16 4)) 23 (σ16 0)) 24 v24x17) 25 v25x18) 26 v26x19) 27 v27x20) 30 (σ16 4)) 31 v31x120) H16))
      (Q16 (.exit 0) (up (up (up (up (up (up σ16 22 (σ16 4)) 23 (σ16 0)) 24 v24x17) 25 v25x18) 26 v26x19) 27 v27x20) H16)) (blkQ 0 (thenQ J14 (retQ prg [(.tmp 2)] K))) (up (up (up (up (up (up (up (up (up (up (up (up (up (up (up (up (S0 [a0]) 2 (.string ⟨#[]⟩)) 9 a0) 10 v10x1) 11 v11x2) 12 v12x3) 15 a0) 16 v16x4) 17 v17x5) 18 v18x6) 13 v13x7) 14 v14x9) 19 v19x10) 20 v20x12) 21 v21x13) 3 v21x13) 4 (.int .i64 0)) H11))
def O.spec_l05Write : Nat → Nat × List Nat := fun i => bif Nat.beq i 1 then (0, [0, 1, 2, 3, 6, 7, 8, 9, 4, 5, 10, 11, 12, 13]) else bif Nat.beq i 7 then (0, [0, 1, 2, 3, 4, 5, 6, 7, 8, 9, 10, 11, 12, 13, 14, 15, 16, 17, 18]) else bif Nat.beq i 14 then (0, [0, 1, 2, 3, 4, 5, 6, 7, 8, 9, 10, 11, 12, 13, 14, 15, 16, 17]) else (0, [])
theorem R.spec_l05Write {a0 : Value} {H : Hp} {K : Value → Hp → Prop} (h : F.spec_l05Write a0 H K) : HT prg I.spec_l05Write [a0].toArray H K :=
  HT_of_fev O.spec_l05Write mixed Tryz.func80 (by kernel_rfl) (Eq.mpr (by kernel_rfl : fev prg O.spec_l05Write Tryz.f80 [a0] H K = F.spec_l05Write a0 H K) h)

/-! loop.example/g01381/spec.l05Name: function 51 -/
def F.spec_l05Name (a0 : Value) (H : Hp) (K : Value → Hp → Prop) : Prop :=
  HT prg I.spec_l05Trim [a0].toArray H fun v13x1 H2 =>
  ob (vExt v13x1 0) fun v14x3 =>
  ob (vExt v13x1 1) fun v15x4 =>
  ob (vExt v13x1 2) fun v16x5 =>
  ob (vExt v13x1 3) fun v17x6 =>
  nw #[(.int .i64 0), (.int .i64 0), (.slice none 0 0)] 27 H2 fun v3x7 H8 =>
  st 3 v3x7 v14x3 H8 fun H9 =>
  ob (vUn .not v17x6) fun v19x10 =>
  cnd v19x10
    (K (.string ⟨#[]⟩) H9)
    (HT prg I.spec_l05Images [v3x7].toArray H9 fun v20x11 H12 =>
  jn (fun σ13 H13 =>
    K (σ13 8) H13) fun J13 =>
  ob (vLenSl v20x11) fun v22x14 =>
  lpE (fun Q15 σ15 H15 =>
    ob (vInt .lss (σ15 23) (σ15 22)) fun v24x16 =>
    cnd v24x16
      (ob (vIx 3 (σ15 7) (σ15 23)) fun v28x17 =>
    HT prg I.spec_l05Write [v28x17].toArray H15 fun v29x18 H19 =>
    ob (vInt .eql (σ15 23) (.int .i64 0)) fun v31x20 =>
    gop v31x20 false (fun K21 => K21 v29x18 H19) H19 fun v33x22 H23 =>
    gop v31x20 false (fun K24 => K24 (σ15 8) H23) H23 fun v34x25 H26 =>
    gop v31x20 false (fun K27 => ob (vStr .lss v33x22 v34x25) fun u => K27 u H26) H26 fun v35x28 H29 =>
    ob (vPick v31x20 (.bool true) v35x28) fun v36x30 =>
    cnd v36x30
      (ob (vInt .add (σ15 23) (.int .i64 1)) fun v38x31 =>
    Q15 .normal (up (up (up (up (up (up (up (up (up (up (up (up (up (up (up (up (up (up (up σ15 24 v24x16) 25 (σ15 23)) 9 (σ15 23)) 26 (σ15 7)) 27 (σ15 23)) 28 v28x17) 29 v29x18) 10 v29x18) 30 (σ15 23)) 31 v31x20) 32 v31x20) 33 v33x22) 34 v34x25) 35 v35x28) 36 v36x30) 37 v29x18) 8 v29x18) 38 v38x31) 23 v38x31) H29)
      (ob (vInt .add (σ15 23) (.int .i64 1)) fun v38x32 =>
    Q15 .normal (up (up (up (up (up (up (up (up (up (up (up (up (up (up (up (up (up σ15 24 v24x16) 25 (σ15 23)) 9 (σ15 23)) 26 (σ15 7)) 27 (σ15 23)) 28 v28x17) 29 v29x18) 10 v29x18) 30 (σ15 23)) 31 v31x20) 32 v31x20) 33 v33x22) 34 v34x25) 35 v35x28) 36 v36x30) 38 v38x32) 23 v38x32) H29))
      (Q15 (.exit 0) (up σ15 24 v24x16) H15)) (blkQ 0 (thenQ J13 (retQ prg [(.tmp 2)] K))) (up (up (up (up (up (up (up (up (up (up (up (up (up (up (up (up (up (up (up (up (S0 [a0]) 2 (.string ⟨#[]⟩)) 12 a0) 13 v13x1) 11 v13x1) 14 v14x3) 15 v15x4) 16 v16x5) 17 v17x6) 3 v3x7) 4 v15x4) 5 v16x5) 6 v17x6) 18 v17x6) 19 v19x10) 20 v20x11) 7 v20x11) 8 (.string ⟨#[]⟩)) 21 v20x11) 22 v22x14) 23 (.int .i64 0)) H12)
def O.spec_l05Name : Nat → Nat × List Nat := fun i => (0, [])
theorem R.spec_l05Name {a0 : Value} {H : Hp} {K : Value → Hp → Prop} (h : F.spec_l05Name a0 H K) : HT prg I.spec_l05Name [a0].toArray H K :=
  HT_of_fev O.spec_l05Name mixed Tryz.func51 (by kernel_rfl) (Eq.mpr (by kernel_rfl : fev prg O.spec_l05Name Tryz.f51 [a0] H K = F.spec_l05Name a0 H K) h)

/-! loop.example/g01381/spec.l05Census: function 34 -/
def F.spec_l05Census (a0 : Value) (H : Hp) (K : Value → Hp → Prop) : Prop :=
  HT prg I.spec_l05Parts [a0].toArray H fun v16x1 H2 =>
  ob (vExt v16x1 0) fun v17x3 =>
  ob (vExt v16x1 1) fun v18x4 =>
  bS 1 0 #[(.string ⟨#[]⟩)] 9 [] H2 fun v19x5 H6 =>
  bS 1 0 #[(.int .i64 0)] 2 [] H6 fun v20x7 H8 =>
  jn (fun σ9 H9 =>
    ob (vLenSl (σ9 7)) fun v91x10 =>
    ob (vInt .leq v91x10 (.int .i64 64)) fun v92x11 =>
    K (.tuple #[(σ9 7), (σ9 8), v92x11]) H9) fun J9 =>
  ob (vLenSl v17x3) fun v22x12 =>
  lpE (fun Q13 σ13 H13 =>
    ob (vInt .lss (σ13 23) (σ13 22)) fun v24x14 =>
    cnd v24x14
      (jn (fun σ15 H15 =>
      ob (vInt .add (σ15 23) (.int .i64 1)) fun v87x16 =>
      Q13 .normal (up (up σ15 87 v87x16) 23 v87x16) H15) fun J15 =>
    ob (vIx 3 (σ13 5) (σ13 23)) fun v28x17 =>
    HT prg I.spec_l05Name [v28x17].toArray H13 fun v29x18 H19 =>
    jn (fun σ20 H20 =>
      ob (vLenSl (σ20 7)) fun v46x21 =>
      ob (vInt .lss (σ20 11) v46x21) fun v47x22 =>
      gop v47x22 true (fun K23 => K23 (σ20 7) H20) H20 fun v49x24 H25 =>
      gop v47x22 true (fun K26 => K26 (σ20 11) H25) H25 fun v50x27 H28 =>
      gop v47x22 true (fun K29 => ob (vIx 1 v49x24 v50x27) fun u => K29 u H28) H28 fun v51x30 H31 =>
      gop v47x22 true (fun K32 => ob (vLoad v51x30 H31) fun u => K32 u H31) H31 fun v52x33 H34 =>
      gop v47x22 true (fun K35 => K35 (σ20 10) H34) H34 fun v53x36 H37 =>
      gop v47x22 true (fun K38 => ob (vStr .eql v52x33 v53x36) fun u => K38 u H37) H37 fun v54x39 H40 =>
      ob (vPick v47x22 v54x39 (.bool false)) fun v55x41 =>
      cnd v55x41
        (ob (vIx 1 (σ20 8) (σ20 11)) fun v58x42 =>
        ob (vLoad v58x42 H40) fun v59x43 =>
        ob (vInt .add v59x43 (.int .i64 1)) fun v60x44 =>
        ob (vIx 1 (σ20 8) (σ20 11)) fun v61x45 =>
        st 1 v61x45 v60x44 H40 fun H46 =>
        J15 (up (up (up (up (up (up (up (up (up (up (up (up (up (up (up (up (up (up σ20 44 (σ20 11)) 45 (σ20 7)) 46 v46x21) 47 v47x22) 48 v47x22) 49 v49x24) 50 v50x27) 51 v51x30) 52 v52x33) 53 v53x36) 54 v54x39) 55 v55x41) 56 (σ20 8)) 57 (σ20 11)) 58 v58x42) 59 v59x43) 60 v60x44) 61 v61x45) H46)
        (bS 1 0 #[(.string ⟨#[]⟩)] 9 [] H40 fun v62x47 H48 =>
      ob (vSl3 1 (σ20 7) none (some (σ20 11)) none) fun v65x49 =>
      apd 1 16 #[(.string ⟨#[]⟩)] 9 v62x47 v65x49 H48 fun v66x50 H51 =>
      bS 1 1 #[(.string ⟨#[]⟩)] 9 [(0, (σ20 10))] H51 fun v68x52 H53 =>
      apd 1 16 #[(.string ⟨#[]⟩)] 9 v66x50 v68x52 H53 fun v69x54 H55 =>
      ob (vSl3 1 (σ20 7) (some (σ20 11)) none none) fun v73x56 =>
      apd 1 16 #[(.string ⟨#[]⟩)] 9 v69x54 v73x56 H55 fun v74x57 H58 =>
      bS 1 0 #[(.int .i64 0)] 2 [] H58 fun v75x59 H60 =>
      ob (vSl3 1 (σ20 8) none (some (σ20 11)) none) fun v78x61 =>
      apd 1 8 #[(.int .i64 0)] 2 v75x59 v78x61 H60 fun v79x62 H63 =>
      bS 1 1 #[(.int .i64 0)] 2 [(0, (.int .i64 1))] H63 fun v80x64 H65 =>
      apd 1 8 #[(.int .i64 0)] 2 v79x62 v80x64 H65 fun v81x66 H67 =>
      ob (vSl3 1 (σ20 8) (some (σ20 11)) none none) fun v85x68 =>
      apd 1 8 #[(.int .i64 0)] 2 v81x66 v85x68 H67 fun v86x69 H70 =>
      J15 (up (up (up (up (up (up (up (up (up (up (up (up (up (up (up (up (up (up (up (up (up (up (up (up (up (up (up (up (up (up (up (up (up (up (up (up (up (up (up (up (up σ20 44 (σ20 11)) 45 (σ20 7)) 46 v46x21) 47 v47x22) 48 v47x22) 49 v49x24) 50 v50x27) 51 v51x30) 52 v52x33) 53 v53x36) 54 v54x39) 55 v55x41) 62 v62x47) 63 (σ20 7)) 64 (σ20 11)) 65 v65x49) 66 v66x50) 67 (σ20 10)) 68 v68x52) 69 v69x54) 12 v69x54) 70 v69x54) 71 (σ20 7)) 72 (σ20 11)) 73 v73x56) 74 v74x57) 7 v74x57) 75 v75x59) 76 (σ20 8)) 77 (σ20 11)) 78 v78x61) 79 v79x62) 80 v80x64) 81 v81x66) 13 v81x66) 82 v81x66) 83 (σ20 8)) 84 (σ20 11)) 85 v85x68) 86 v86x69) 8 v86x69) H70)) fun J20 =>
    lpE (fun Q71 σ71 H71 =>
      ob (vLenSl (σ71 7)) fun v32x72 =>
      ob (vInt .lss (σ71 11) v32x72) fun v33x73 =>
      gop v33x73 true (fun K74 => K74 (σ71 7) H71) H71 fun v35x75 H76 =>
      gop v33x73 true (fun K77 => K77 (σ71 11) H76) H76 fun v36x78 H79 =>
      gop v33x73 true (fun K80 => ob (vIx 1 v35x75 v36x78) fun u => K80 u H79) H79 fun v37x81 H82 =>
      gop v33x73 true (fun K83 => ob (vLoad v37x81 H82) fun u => K83 u H82) H82 fun v38x84 H85 =>
      gop v33x73 true (fun K86 => K86 (σ71 10) H85) H85 fun v39x87 H88 =>
      gop v33x73 true (fun K89 => ob (vStr .lss v38x84 v39x87) fun u => K89 u H88) H88 fun v40x90 H91 =>
      ob (vPick v33x73 v40x90 (.bool false)) fun v41x92 =>
      cnd v41x92
        (ob (vInt .add (σ71 11) (.int .i64 1)) fun v43x93 =>
      Q71 .normal (up (up (up (up (up (up (up (up (up (up (up (up (up (up (up σ71 30 (σ71 11)) 31 (σ71 7)) 32 v32x72) 33 v33x73) 34 v33x73) 35 v35x75) 36 v36x78) 37 v37x81) 38 v38x84) 39 v39x87) 40 v40x90) 41 v41x92) 42 (σ71 11)) 43 v43x93) 11 v43x93) H91)
        (Q71 (.exit 2) (up (up (up (up (up (up (up (up (up (up (up (up σ71 30 (σ71 11)) 31 (σ71 7)) 32 v32x72) 33 v33x73) 34 v33x73) 35 v35x75) 36 v36x78) 37 v37x81) 38 v38x84) 39 v39x87) 40 v40x90) 41 v41x92) H91)) (blkQ 2 (thenQ J20 (blkQ 1 (thenQ J15 Q13)))) (up (up (up (up (up (up (up (up (up σ13 24 v24x14) 25 (σ13 23)) 9 (σ13 23)) 26 (σ13 5)) 27 (σ13 23)) 28 v28x17) 29 v29x18) 10 v29x18) 11 (.int .i64 0)) H19)
      (Q13 (.exit 0) (up σ13 24 v24x14) H13)) (blkQ 0 (thenQ J9 (retQ prg [(.tmp 2), (.tmp 3), (.tmp 4)] K))) (up (up (up (up (up (up (up (up (up (up (up (up (up (up (up (up (up (S0 [a0]) 2 (.slice none 0 0)) 3 (.slice none 0 0)) 4 (.bool false)) 15 a0) 16 v16x1) 14 v16x1) 17 v17x3) 18 v18x4) 5 v17x3) 6 v18x4) 19 v19x5) 7 v19x5) 20 v20x7) 8 v20x7) 21 v17x3) 22 v22x12) 23 (.int .i64 0)) H8
def O.spec_l05Census : Nat → Nat × List Nat := fun i => (0, [])
theorem R.spec_l05Census {a0 : Value} {H : Hp} {K : Value → Hp → Prop} (h : F.spec_l05Census a0 H K) : HT prg I.spec_l05Census [a0].toArray H K :=
  HT_of_fev O.spec_l05Census mixed Tryz.func34 (by kernel_rfl) (Eq.mpr (by kernel_rfl : fev prg O.spec_l05Census Tryz.f34 [a0] H K = F.spec_l05Census a0 H K) h)

/-! loop.example/g01381/spec.CensusOf: function 10 -/
def F.spec_CensusOf (a0 : Value) (H : Hp) (K : Value → Hp → Prop) : Prop :=
  nw (a0 : Value).cells 27 H fun v1x1 H2 =>
  HT prg I.spec_l04Plain [v1x1].toArray H2 fun v8x3 H4 =>
  ob (vUn .not v8x3) fun v9x5 =>
  cnd v9x5
    (K (.tuple #[(.slice none 0 0), (.slice none 0 0), (.bool false)]) H4)
    (HT prg I.spec_l05Census [v1x1].toArray H4 fun v11x6 H7 =>
  ob (vExt v11x6 0) fun v12x8 =>
  ob (vExt v11x6 1) fun v13x9 =>
  ob (vExt v11x6 2) fun v14x10 =>
  ob (vUn .not v14x10) fun v16x11 =>
  cnd v16x11
    (K (.tuple #[(.slice none 0 0), (.slice none 0 0), (.bool false)]) H7)
    (K (.tuple #[v12x8, v13x9, (.bool true)]) H7))
def O.spec_CensusOf : Nat → Nat × List Nat := fun i => (0, [])
theorem R.spec_CensusOf {a0 : Value} {H : Hp} {K : Value → Hp → Prop} (h : F.spec_CensusOf a0 H K) : HT prg I.spec_CensusOf [a0].toArray H K :=
  HT_of_fev O.spec_CensusOf mixed Tryz.func10 (by kernel_rfl) (Eq.mpr (by kernel_rfl : fev prg O.spec_CensusOf Tryz.f10 [a0] H K = F.spec_CensusOf a0 H K) h)

/-! loop.example/g01381/laws.szInt64S: function 35 -/
def F.laws_szInt64S (a0 a1 : Value) (H : Hp) (K : Value → Hp → Prop) : Prop :=
  ob (vLenSl a0) fun v7x1 =>
  ob (vInt .sub a1 v7x1) fun v8x2 =>
  ob (vInt .lss v8x2 (.int .i64 0)) fun v10x3 =>
  cnd v10x3
    (K (.int .i64 (-1)) H)
    (K v8x2 H)
def O.laws_szInt64S : Nat → Nat × List Nat := fun i => (0, [])
theorem R.laws_szInt64S {a0 a1 : Value} {H : Hp} {K : Value → Hp → Prop} (h : F.laws_szInt64S a0 a1 H K) : HT prg I.laws_szInt64S [a0, a1].toArray H K :=
  HT_of_fev O.laws_szInt64S mixed Tryz.func35 (by kernel_rfl) (Eq.mpr (by kernel_rfl : fev prg O.laws_szInt64S Tryz.f35 [a0, a1] H K = F.laws_szInt64S a0 a1 H K) h)

/-! loop.example/g01381/laws.szField: function 12 -/
def F.laws_szField (a0 a1 : Value) (H : Hp) (K : Value → Hp → Prop) : Prop :=
  nw (a0 : Value).cells 36 H fun v2x1 H2 =>
  ob (vFa 2 v2x1) fun v5x3 =>
  ob (vLoad v5x3 H2) fun v6x4 =>
  HT prg I.laws_szInt64S [v6x4, a1].toArray H2 fun v8x5 H6 =>
  ob (vInt .lss v8x5 (.int .i64 0)) fun v10x7 =>
  cnd v10x7
    (K (.int .i64 (-1)) H6)
    (K v8x5 H6)
def O.laws_szField : Nat → Nat × List Nat := fun i => (0, [])
theorem R.laws_szField {a0 a1 : Value} {H : Hp} {K : Value → Hp → Prop} (h : F.laws_szField a0 a1 H K) : HT prg I.laws_szField [a0, a1].toArray H K :=
  HT_of_fev O.laws_szField mixed Tryz.func12 (by kernel_rfl) (Eq.mpr (by kernel_rfl : fev prg O.laws_szField Tryz.f12 [a0, a1] H K = F.laws_szField a0 a1 H K) h)

/-! loop.example/g01381/laws.toInt64S: function 36 -/
def F.laws_toInt64S (a0 : Value) (H : Hp) (K : Value → Hp → Prop) : Prop :=
  ob (vLenSl a0) fun v6x1 =>
  mkS 1 8 #[(.int .i64 0)] 2 v6x1 v6x1 H fun v7x2 H3 =>
  jn (fun σ4 H4 =>
    K (σ4 3) H4) fun J4 =>
  lpE (fun Q5 σ5 H5 =>
    ob (vLenSl (σ5 0)) fun v10x6 =>
    ob (vInt .lss (σ5 4) v10x6) fun v11x7 =>
    cnd v11x7
      (ob (vIx 1 (σ5 0) (σ5 4)) fun v18x8 =>
    ob (vLoad v18x8 H5) fun v19x9 =>
    ob (vIx 1 (σ5 3) (σ5 4)) fun v20x10 =>
    st 1 v20x10 v19x9 H5 fun H11 =>
    ob (vInt .add (σ5 4) (.int .i64 1)) fun v13x12 =>
    Q5 .normal (up (up (up (up (up (up (up (up (up (up (up (up (up (up σ5 8 (σ5 4)) 9 (σ5 0)) 10 v10x6) 11 v11x7) 14 (σ5 3)) 15 (σ5 4)) 16 (σ5 0)) 17 (σ5 4)) 18 v18x8) 19 v19x9) 20 v20x10) 12 (σ5 4)) 13 v13x12) 4 v13x12) H11)
      (Q5 (.exit 0) (up (up (up (up σ5 8 (σ5 4)) 9 (σ5 0)) 10 v10x6) 11 v11x7) H5)) (blkQ 0 (thenQ J4 (retQ prg [(.tmp 2)] K))) (up (up (up (up (up (up (S0 [a0]) 2 (.slice none 0 0)) 5 a0) 6 v6x1) 7 v7x2) 3 v7x2) 4 (.int .i64 0)) H3
def O.laws_toInt64S : Nat → Nat × List Nat := fun i => (0, [])
theorem R.laws_toInt64S {a0 : Value} {H : Hp} {K : Value → Hp → Prop} (h : F.laws_toInt64S a0 H K) : HT prg I.laws_toInt64S [a0].toArray H K :=
  HT_of_fev O.laws_toInt64S mixed Tryz.func36 (by kernel_rfl) (Eq.mpr (by kernel_rfl : fev prg O.laws_toInt64S Tryz.f36 [a0] H K = F.laws_toInt64S a0 H K) h)

/-! loop.example/g01381/laws.toField: function 13 -/
def F.laws_toField (a0 : Value) (H : Hp) (K : Value → Hp → Prop) : Prop :=
  nw (a0 : Value).cells 36 H fun v1x1 H2 =>
  nw #[(.int .i64 0), (.int .i64 0), (.slice none 0 0)] 27 H2 fun v2x3 H4 =>
  nw #[(.int .i64 0), (.int .i64 0), (.slice none 0 0)] 27 H4 fun v3x5 H6 =>
  ob (vFa 0 v1x1) fun v4x7 =>
  ob (vLoad v4x7 H6) fun v5x8 =>
  ob (vFa 0 v3x5) fun v6x9 =>
  st 1 v6x9 v5x8 H6 fun H10 =>
  ob (vFa 1 v1x1) fun v7x11 =>
  ob (vLoad v7x11 H10) fun v8x12 =>
  ob (vFa 1 v3x5) fun v9x13 =>
  st 1 v9x13 v8x12 H10 fun H14 =>
  ob (vFa 2 v1x1) fun v10x15 =>
  ob (vLoad v10x15 H14) fun v11x16 =>
  HT prg I.laws_toInt64S [v11x16].toArray H14 fun v12x17 H18 =>
  ob (vFa 2 v3x5) fun v13x19 =>
  st 1 v13x19 v12x17 H18 fun H20 =>
  ob (vLoadN 3 v3x5 H20) fun v14x21 =>
  st 3 v2x3 v14x21 H20 fun H22 =>
  ob (vLoadN 3 v2x3 H22) fun u23 => K u23 H22
def O.laws_toField : Nat → Nat × List Nat := fun i => (0, [])
theorem R.laws_toField {a0 : Value} {H : Hp} {K : Value → Hp → Prop} (h : F.laws_toField a0 H K) : HT prg I.laws_toField [a0].toArray H K :=
  HT_of_fev O.laws_toField mixed Tryz.func13 (by kernel_rfl) (Eq.mpr (by kernel_rfl : fev prg O.laws_toField Tryz.f13 [a0] H K = F.laws_toField a0 H K) h)

/-! loop.example/g01381/laws.eqStringS: function 14 -/
def F.laws_eqStringS (a0 a1 : Value) (H : Hp) (K : Value → Hp → Prop) : Prop :=
  ob (vLenSl a0) fun v7x1 =>
  ob (vLenSl a1) fun v9x2 =>
  ob (vInt .neq v7x1 v9x2) fun v10x3 =>
  cnd v10x3
    (K (.bool false) H)
    (jn (fun σ4 H4 =>
    K (.bool true) H4) fun J4 =>
  lpE (fun Q5 σ5 H5 =>
    ob (vLenSl (σ5 0)) fun v13x6 =>
    ob (vInt .lss (σ5 5) v13x6) fun v14x7 =>
    cnd v14x7
      (ob (vIx 1 (σ5 0) (σ5 5)) fun v19x8 =>
    ob (vLoad v19x8 H5) fun v20x9 =>
    ob (vIx 1 (σ5 1) (σ5 5)) fun v23x10 =>
    ob (vLoad v23x10 H5) fun v24x11 =>
    ob (vStr .neq v20x9 v24x11) fun v25x12 =>
    cnd v25x12
      (Q5 .ret (up (up (up (up (up (up (up (up (up (up (up (up (up (up σ5 11 (σ5 5)) 12 (σ5 0)) 13 v13x6) 14 v14x7) 17 (σ5 0)) 18 (σ5 5)) 19 v19x8) 20 v20x9) 21 (σ5 1)) 22 (σ5 5)) 23 v23x10) 24 v24x11) 25 v25x12) 4 (.bool false)) H5)
      (ob (vInt .add (σ5 5) (.int .i64 1)) fun v16x13 =>
    Q5 .normal (up (up (up (up (up (up (up (up (up (up (up (up (up (up (up (up σ5 11 (σ5 5)) 12 (σ5 0)) 13 v13x6) 14 v14x7) 17 (σ5 0)) 18 (σ5 5)) 19 v19x8) 20 v20x9) 21 (σ5 1)) 22 (σ5 5)) 23 v23x10) 24 v24x11) 25 v25x12) 15 (σ5 5)) 16 v16x13) 5 v16x13) H5))
      (Q5 (.exit 0) (up (up (up (up σ5 11 (σ5 5)) 12 (σ5 0)) 13 v13x6) 14 v14x7) H5)) (blkQ 0 (thenQ J4 (retQ prg [(.tmp 4)] K))) (up (up (up (up (up (up (up (S0 [a0, a1]) 4 (.bool false)) 6 a0) 7 v7x1) 8 a1) 9 v9x2) 10 v10x3) 5 (.int .i64 0)) H)
def O.laws_eqStringS : Nat → Nat × List Nat := fun i => bif Nat.beq i 6 then (0, [0, 1, 2, 3, 4, 5, 6, 7, 8]) else (0, [])
theorem R.laws_eqStringS {a0 a1 : Value} {H : Hp} {K : Value → Hp → Prop} (h : F.laws_eqStringS a0 a1 H K) : HT prg I.laws_eqStringS [a0, a1].toArray H K :=
  HT_of_fev O.laws_eqStringS mixed Tryz.func14 (by kernel_rfl) (Eq.mpr (by kernel_rfl : fev prg O.laws_eqStringS Tryz.f14 [a0, a1] H K = F.laws_eqStringS a0 a1 H K) h)

/-! loop.example/g01381/laws.eqInt64S: function 15 -/
def F.laws_eqInt64S (a0 a1 : Value) (H : Hp) (K : Value → Hp → Prop) : Prop :=
  ob (vLenSl a0) fun v7x1 =>
  ob (vLenSl a1) fun v9x2 =>
  ob (vInt .neq v7x1 v9x2) fun v10x3 =>
  cnd v10x3
    (K (.bool false) H)
    (jn (fun σ4 H4 =>
    K (.bool true) H4) fun J4 =>
  lpE (fun Q5 σ5 H5 =>
    ob (vLenSl (σ5 0)) fun v13x6 =>
    ob (vInt .lss (σ5 5) v13x6) fun v14x7 =>
    cnd v14x7
      (ob (vIx 1 (σ5 0) (σ5 5)) fun v19x8 =>
    ob (vLoad v19x8 H5) fun v20x9 =>
    ob (vIx 1 (σ5 1) (σ5 5)) fun v23x10 =>
    ob (vLoad v23x10 H5) fun v24x11 =>
    ob (vInt .neq v20x9 v24x11) fun v25x12 =>
    cnd v25x12
      (Q5 .ret (up (up (up (up (up (up (up (up (up (up (up (up (up (up σ5 11 (σ5 5)) 12 (σ5 0)) 13 v13x6) 14 v14x7) 17 (σ5 0)) 18 (σ5 5)) 19 v19x8) 20 v20x9) 21 (σ5 1)) 22 (σ5 5)) 23 v23x10) 24 v24x11) 25 v25x12) 4 (.bool false)) H5)
      (ob (vInt .add (σ5 5) (.int .i64 1)) fun v16x13 =>
    Q5 .normal (up (up (up (up (up (up (up (up (up (up (up (up (up (up (up (up σ5 11 (σ5 5)) 12 (σ5 0)) 13 v13x6) 14 v14x7) 17 (σ5 0)) 18 (σ5 5)) 19 v19x8) 20 v20x9) 21 (σ5 1)) 22 (σ5 5)) 23 v23x10) 24 v24x11) 25 v25x12) 15 (σ5 5)) 16 v16x13) 5 v16x13) H5))
      (Q5 (.exit 0) (up (up (up (up σ5 11 (σ5 5)) 12 (σ5 0)) 13 v13x6) 14 v14x7) H5)) (blkQ 0 (thenQ J4 (retQ prg [(.tmp 4)] K))) (up (up (up (up (up (up (up (S0 [a0, a1]) 4 (.bool false)) 6 a0) 7 v7x1) 8 a1) 9 v9x2) 10 v10x3) 5 (.int .i64 0)) H)
def O.laws_eqInt64S : Nat → Nat × List Nat := fun i => bif Nat.beq i 6 then (0, [0, 1, 2, 3, 4, 5, 6, 7, 8]) else (0, [])
theorem R.laws_eqInt64S {a0 a1 : Value} {H : Hp} {K : Value → Hp → Prop} (h : F.laws_eqInt64S a0 a1 H K) : HT prg I.laws_eqInt64S [a0, a1].toArray H K :=
  HT_of_fev O.laws_eqInt64S mixed Tryz.func15 (by kernel_rfl) (Eq.mpr (by kernel_rfl : fev prg O.laws_eqInt64S Tryz.f15 [a0, a1] H K = F.laws_eqInt64S a0 a1 H K) h)

/-! loop.example/g01381/laws.eqField: function 16 -/
def F.laws_eqField (a0 a1 : Value) (H : Hp) (K : Value → Hp → Prop) : Prop :=
  nw (a0 : Value).cells 27 H fun v2x1 H2 =>
  nw (a1 : Value).cells 27 H2 fun v3x3 H4 =>
  ob (vFa 0 v2x1) fun v5x5 =>
  ob (vLoad v5x5 H4) fun v6x6 =>
  ob (vFa 0 v3x3) fun v7x7 =>
  ob (vLoad v7x7 H4) fun v8x8 =>
  ob (vInt .neq v6x6 v8x8) fun v9x9 =>
  cnd v9x9
    (K (.bool false) H4)
    (ob (vFa 1 v2x1) fun v10x10 =>
  ob (vLoad v10x10 H4) fun v11x11 =>
  ob (vFa 1 v3x3) fun v12x12 =>
  ob (vLoad v12x12 H4) fun v13x13 =>
  ob (vInt .neq v11x11 v13x13) fun v14x14 =>
  cnd v14x14
    (K (.bool false) H4)
    (ob (vFa 2 v2x1) fun v15x15 =>
  ob (vLoad v15x15 H4) fun v16x16 =>
  ob (vFa 2 v3x3) fun v17x17 =>
  ob (vLoad v17x17 H4) fun v18x18 =>
  HT prg I.laws_eqInt64S [v16x16, v18x18].toArray H4 fun v19x19 H20 =>
  ob (vUn .not v19x19) fun v20x21 =>
  cnd v20x21
    (K (.bool false) H20)
    (K (.bool true) H20)))
def O.laws_eqField : Nat → Nat × List Nat := fun i => (0, [])
theorem R.laws_eqField {a0 a1 : Value} {H : Hp} {K : Value → Hp → Prop} (h : F.laws_eqField a0 a1 H K) : HT prg I.laws_eqField [a0, a1].toArray H K :=
  HT_of_fev O.laws_eqField mixed Tryz.func16 (by kernel_rfl) (Eq.mpr (by kernel_rfl : fev prg O.laws_eqField Tryz.f16 [a0, a1] H K = F.laws_eqField a0 a1 H K) h)

/-! loop.example/g01381/laws.markInt64S: function 19 -/
def F.laws_markInt64S (a0 a1 : Value) (H : Hp) (K : Value → Hp → Prop) : Prop :=
  jn (fun σ1 H1 =>
    K (σ1 1) H1) fun J1 =>
  lpE (fun Q2 σ2 H2 =>
    ob (vLenSl (σ2 0)) fun v8x3 =>
    ob (vInt .lss (σ2 5) v8x3) fun v9x4 =>
    cnd v9x4
      (ob (vIx 1 (σ2 0) (σ2 5)) fun v15x5 =>
    st 1 v15x5 (σ2 1) H2 fun H6 =>
    ob (vInt .add (σ2 1) (.int .i64 1)) fun v17x7 =>
    ob (vInt .add (σ2 5) (.int .i64 1)) fun v11x8 =>
    Q2 .normal (up (up (up (up (up (up (up (up (up (up (up (up (up (up σ2 6 (σ2 5)) 7 (σ2 0)) 8 v8x3) 9 v9x4) 12 (σ2 0)) 13 (σ2 5)) 14 (σ2 1)) 15 v15x5) 16 (σ2 1)) 17 v17x7) 1 v17x7) 10 (σ2 5)) 11 v11x8) 5 v11x8) H6)
      (Q2 (.exit 0) (up (up (up (up σ2 6 (σ2 5)) 7 (σ2 0)) 8 v8x3) 9 v9x4) H2)) (blkQ 0 (thenQ J1 (retQ prg [(.tmp 4)] K))) (up (up (S0 [a0, a1]) 4 (.int .i64 0)) 5 (.int .i64 0)) H
def O.laws_markInt64S : Nat → Nat × List Nat := fun i => (0, [])
theorem R.laws_markInt64S {a0 a1 : Value} {H : Hp} {K : Value → Hp → Prop} (h : F.laws_markInt64S a0 a1 H K) : HT prg I.laws_markInt64S [a0, a1].toArray H K :=
  HT_of_fev O.laws_markInt64S mixed Tryz.func19 (by kernel_rfl) (Eq.mpr (by kernel_rfl : fev prg O.laws_markInt64S Tryz.f19 [a0, a1] H K = F.laws_markInt64S a0 a1 H K) h)

/-! loop.example/g01381/laws.markField: function 17 -/
def F.laws_markField (a0 a1 : Value) (H : Hp) (K : Value → Hp → Prop) : Prop :=
  nw (a0 : Value).cells 27 H fun v2x1 H2 =>
  ob (vFa 2 v2x1) fun v5x3 =>
  ob (vLoad v5x3 H2) fun v6x4 =>
  HT prg I.laws_markInt64S [v6x4, a1].toArray H2 fun v8x5 H6 =>
  K v8x5 H6
def O.laws_markField : Nat → Nat × List Nat := fun i => (0, [])
theorem R.laws_markField {a0 a1 : Value} {H : Hp} {K : Value → Hp → Prop} (h : F.laws_markField a0 a1 H K) : HT prg I.laws_markField [a0, a1].toArray H K :=
  HT_of_fev O.laws_markField mixed Tryz.func17 (by kernel_rfl) (Eq.mpr (by kernel_rfl : fev prg O.laws_markField Tryz.f17 [a0, a1] H K = F.laws_markField a0 a1 H K) h)

/-! loop.example/g01381/laws.markText: function 37 -/
def F.laws_markText (a0 : Value) (H : Hp) (K : Value → Hp → Prop) : Prop :=
  ob (vInt .leq a0 (.int .i64 0)) fun v5x1 =>
  cnd v5x1
    (K (.string ⟨#[109, 48]⟩) H)
    (jn (fun σ2 H2 =>
    ob (vStr .add (.string ⟨#[109]⟩) (σ2 3)) fun v19x3 =>
    K v19x3 H2) fun J2 =>
  lpE (fun Q4 σ4 H4 =>
    ob (vInt .gtr (σ4 0) (.int .i64 0)) fun v7x5 =>
    cnd v7x5
      (ob (vInt .rem (σ4 0) (.int .i64 10)) fun v9x6 =>
    ob (vInt .add (.int .i64 48) v9x6) fun v10x7 =>
    ob (vCI .u8 v10x7) fun v11x8 =>
    bS 1 1 #[(.int .u8 0)] 5 [(0, v11x8)] H4 fun v12x9 H10 =>
    ob (val prg (convert 22 9 v12x9) H10) fun v13x11 =>
    ob (vStr .add v13x11 (σ4 3)) fun v15x12 =>
    ob (vInt .quo (σ4 0) (.int .i64 10)) fun v17x13 =>
    Q4 .normal (up (up (up (up (up (up (up (up (up (up (up (up (up (up σ4 6 (σ4 0)) 7 v7x5) 8 (σ4 0)) 9 v9x6) 10 v10x7) 11 v11x8) 12 v12x9) 13 v13x11) 14 (σ4 3)) 15 v15x12) 3 v15x12) 16 (σ4 0)) 17 v17x13) 0 v17x13) H10)
      (Q4 (.exit 0) (up (up σ4 6 (σ4 0)) 7 v7x5) H4)) (blkQ 0 (thenQ J2 (retQ prg [(.tmp 2)] K))) (up (up (up (up (S0 [a0]) 2 (.string ⟨#[]⟩)) 4 a0) 5 v5x1) 3 (.string ⟨#[]⟩)) H)
def O.laws_markText : Nat → Nat × List Nat := fun i => (0, [])
theorem R.laws_markText {a0 : Value} {H : Hp} {K : Value → Hp → Prop} (h : F.laws_markText a0 H K) : HT prg I.laws_markText [a0].toArray H K :=
  HT_of_fev O.laws_markText mixed Tryz.func37 (by kernel_rfl) (Eq.mpr (by kernel_rfl : fev prg O.laws_markText Tryz.f37 [a0] H K = F.laws_markText a0 H K) h)

/-! loop.example/g01381/laws.markStringS: function 18 -/
def F.laws_markStringS (a0 a1 : Value) (H : Hp) (K : Value → Hp → Prop) : Prop :=
  jn (fun σ1 H1 =>
    K (σ1 1) H1) fun J1 =>
  lpE (fun Q2 σ2 H2 =>
    ob (vLenSl (σ2 0)) fun v8x3 =>
    ob (vInt .lss (σ2 5) v8x3) fun v9x4 =>
    cnd v9x4
      (HT prg I.laws_markText [(σ2 1)].toArray H2 fun v15x5 H6 =>
    ob (vIx 1 (σ2 0) (σ2 5)) fun v16x7 =>
    st 1 v16x7 v15x5 H6 fun H8 =>
    ob (vInt .add (σ2 1) (.int .i64 1)) fun v18x9 =>
    ob (vInt .add (σ2 5) (.int .i64 1)) fun v11x10 =>
    Q2 .normal (up (up (up (up (up (up (up (up (up (up (up (up (up (up (up σ2 6 (σ2 5)) 7 (σ2 0)) 8 v8x3) 9 v9x4) 12 (σ2 0)) 13 (σ2 5)) 14 (σ2 1)) 15 v15x5) 16 v16x7) 17 (σ2 1)) 18 v18x9) 1 v18x9) 10 (σ2 5)) 11 v11x10) 5 v11x10) H8)
      (Q2 (.exit 0) (up (up (up (up σ2 6 (σ2 5)) 7 (σ2 0)) 8 v8x3) 9 v9x4) H2)) (blkQ 0 (thenQ J1 (retQ prg [(.tmp 4)] K))) (up (up (S0 [a0, a1]) 4 (.int .i64 0)) 5 (.int .i64 0)) H
def O.laws_markStringS : Nat → Nat × List Nat := fun i => (0, [])
theorem R.laws_markStringS {a0 a1 : Value} {H : Hp} {K : Value → Hp → Prop} (h : F.laws_markStringS a0 a1 H K) : HT prg I.laws_markStringS [a0, a1].toArray H K :=
  HT_of_fev O.laws_markStringS mixed Tryz.func18 (by kernel_rfl) (Eq.mpr (by kernel_rfl : fev prg O.laws_markStringS Tryz.f18 [a0, a1] H K = F.laws_markStringS a0 a1 H K) h)

/-! loop.example/g01381/laws.heldStringS: function 20 -/
def F.laws_heldStringS (a0 a1 : Value) (H : Hp) (K : Value → Hp → Prop) : Prop :=
  jn (fun σ1 H1 =>
    K (σ1 1) H1) fun J1 =>
  lpE (fun Q2 σ2 H2 =>
    ob (vLenSl (σ2 0)) fun v8x3 =>
    ob (vInt .lss (σ2 5) v8x3) fun v9x4 =>
    cnd v9x4
      (ob (vIx 1 (σ2 0) (σ2 5)) fun v14x5 =>
    ob (vLoad v14x5 H2) fun v15x6 =>
    HT prg I.laws_markText [(σ2 1)].toArray H2 fun v17x7 H8 =>
    Le H2 H8 ∧ (ob (vStr .neq v15x6 v17x7) fun v18x9 =>
    cnd v18x9
      (Q2 .ret (up (up (up (up (up (up (up (up (up (up (up (up σ2 6 (σ2 5)) 7 (σ2 0)) 8 v8x3) 9 v9x4) 12 (σ2 0)) 13 (σ2 5)) 14 v14x5) 15 v15x6) 16 (σ2 1)) 17 v17x7) 18 v18x9) 4 (.int .i64 (-1))) H8)
      (ob (vInt .add (σ2 1) (.int .i64 1)) fun v20x10 =>
    ob (vInt .add (σ2 5) (.int .i64 1)) fun v11x11 =>
    Q2 .normal (up (up (up (up (up (up (up (up (up (up (up (up (up (up (up (up (up σ2 6 (σ2 5)) 7 (σ2 0)) 8 v8x3) 9 v9x4) 12 (σ2 0)) 13 (σ2 5)) 14 v14x5) 15 v15x6) 16 (σ2 1)) 17 v17x7) 18 v18x9) 19 (σ2 1)) 20 v20x10) 1 v20x10) 10 (σ2 5)) 11 v11x11) 5 v11x11) H8)))
      (Q2 (.exit 0) (up (up (up (up σ2 6 (σ2 5)) 7 (σ2 0)) 8 v8x3) 9 v9x4) H2)) (blkQ 0 (thenQ J1 (retQ prg [(.tmp 4)] K))) (up (up (S0 [a0, a1]) 4 (.int .i64 0)) 5 (.int .i64 0)) H
def O.laws_heldStringS : Nat → Nat × List Nat := fun i => bif Nat.beq i 4 then (0, [0, 1, 2, 3, 4, 5, 6]) else (0, [])
theorem R.laws_heldStringS {a0 a1 : Value} {H : Hp} {K : Value → Hp → Prop} (h : F.laws_heldStringS a0 a1 H K) : HT prg I.laws_heldStringS [a0, a1].toArray H K :=
  HT_of_fev O.laws_heldStringS mixed Tryz.func20 (by kernel_rfl) (Eq.mpr (by kernel_rfl : fev prg O.laws_heldStringS Tryz.f20 [a0, a1] H K = F.laws_heldStringS a0 a1 H K) h)

/-! loop.example/g01381/laws.heldInt64S: function 21 -/
def F.laws_heldInt64S (a0 a1 : Value) (H : Hp) (K : Value → Hp → Prop) : Prop :=
  jn (fun σ1 H1 =>
    K (σ1 1) H1) fun J1 =>
  lpE (fun Q2 σ2 H2 =>
    ob (vLenSl (σ2 0)) fun v8x3 =>
    ob (vInt .lss (σ2 5) v8x3) fun v9x4 =>
    cnd v9x4
      (ob (vIx 1 (σ2 0) (σ2 5)) fun v14x5 =>
    ob (vLoad v14x5 H2) fun v15x6 =>
    ob (vInt .neq v15x6 (σ2 1)) fun v17x7 =>
    cnd v17x7
      (Q2 .ret (up (up (up (up (up (up (up (up (up (up (up σ2 6 (σ2 5)) 7 (σ2 0)) 8 v8x3) 9 v9x4) 12 (σ2 0)) 13 (σ2 5)) 14 v14x5) 15 v15x6) 16 (σ2 1)) 17 v17x7) 4 (.int .i64 (-1))) H2)
      (ob (vInt .add (σ2 1) (.int .i64 1)) fun v19x8 =>
    ob (vInt .add (σ2 5) (.int .i64 1)) fun v11x9 =>
    Q2 .normal (up (up (up (up (up (up (up (up (up (up (up (up (up (up (up (up σ2 6 (σ2 5)) 7 (σ2 0)) 8 v8x3) 9 v9x4) 12 (σ2 0)) 13 (σ2 5)) 14 v14x5) 15 v15x6) 16 (σ2 1)) 17 v17x7) 18 (σ2 1)) 19 v19x8) 1 v19x8) 10 (σ2 5)) 11 v11x9) 5 v11x9) H2))
      (Q2 (.exit 0) (up (up (up (up σ2 6 (σ2 5)) 7 (σ2 0)) 8 v8x3) 9 v9x4) H2)) (blkQ 0 (thenQ J1 (retQ prg [(.tmp 4)] K))) (up (up (S0 [a0, a1]) 4 (.int .i64 0)) 5 (.int .i64 0)) H
def O.laws_heldInt64S : Nat → Nat × List Nat := fun i => (0, [])
theorem R.laws_heldInt64S {a0 a1 : Value} {H : Hp} {K : Value → Hp → Prop} (h : F.laws_heldInt64S a0 a1 H K) : HT prg I.laws_heldInt64S [a0, a1].toArray H K :=
  HT_of_fev O.laws_heldInt64S mixed Tryz.func21 (by kernel_rfl) (Eq.mpr (by kernel_rfl : fev prg O.laws_heldInt64S Tryz.f21 [a0, a1] H K = F.laws_heldInt64S a0 a1 H K) h)

/-! loop.example/g01381/laws.FnExactCensusOf: function 4 -/
def F.laws_FnExactCensusOf (a0 : Value) (H : Hp) (K : Value → Hp → Prop) : Prop :=
  nw (a0 : Value).cells 36 H fun v1x1 H2 =>
  ob (vLoadN 3 v1x1 H2) fun v17x3 =>
  HT prg I.laws_szField [v17x3, (.int .i64 1048576)].toArray H2 fun v19x4 H5 =>
  ob (vInt .lss v19x4 (.int .i64 0)) fun v21x6 =>
  cnd v21x6
    (K (.bool true) H5)
    (ob (vLoadN 3 v1x1 H5) fun v23x7 =>
  HT prg I.laws_toField [v23x7].toArray H5 fun v24x8 H9 =>
  HT prg I.spec_CensusOf [v24x8].toArray H9 fun v25x10 H11 =>
  ob (vExt v25x10 0) fun v26x12 =>
  ob (vExt v25x10 1) fun v27x13 =>
  ob (vExt v25x10 2) fun v28x14 =>
  ob (vLoadN 3 v1x1 H11) fun v29x15 =>
  HT prg I.laws_toField [v29x15].toArray H11 fun v30x16 H17 =>
  nw #[(.int .i64 0), (.int .i64 0), (.slice none 0 0)] 27 H17 fun v7x18 H19 =>
  st 3 v7x18 v30x16 H19 fun H20 =>
  ob (vLoadN 3 v7x18 H20) fun v32x21 =>
  HT prg I.impl_CensusOf [v32x21].toArray H20 fun v33x22 H23 =>
  ob (vExt v33x22 0) fun v34x24 =>
  ob (vExt v33x22 1) fun v35x25 =>
  ob (vExt v33x22 2) fun v36x26 =>
  HT prg I.laws_eqStringS [v34x24, v26x12].toArray H23 fun v39x27 H28 =>
  ob (vUn .not v39x27) fun v40x29 =>
  gop v40x29 false (fun K30 => K30 v35x25 H28) H28 fun v42x31 H32 =>
  gop v40x29 false (fun K33 => K33 v27x13 H32) H32 fun v43x34 H35 =>
  gop v40x29 false (fun K36 => HT prg I.laws_eqInt64S [v42x31, v43x34].toArray H35 K36) H35 fun v44x37 H38 =>
  gop v40x29 false (fun K39 => ob (vUn .not v44x37) fun u => K39 u H38) H38 fun v45x40 H41 =>
  ob (vPick v40x29 (.bool true) v45x40) fun v46x42 =>
  gop v46x42 false (fun K43 => K43 v36x26 H41) H41 fun v48x44 H45 =>
  gop v46x42 false (fun K46 => K46 v28x14 H45) H45 fun v49x47 H48 =>
  gop v46x42 false (fun K49 => ob (vBool .neq v48x44 v49x47) fun u => K49 u H48) H48 fun v50x50 H51 =>
  ob (vPick v46x42 (.bool true) v50x50) fun v51x52 =>
  cnd v51x52
    (K (.bool false) H51)
    (ob (vLoadN 3 v7x18 H51) fun v52x53 =>
  ob (vLoadN 3 v1x1 H51) fun v53x54 =>
  HT prg I.laws_toField [v53x54].toArray H51 fun v54x55 H56 =>
  Le H51 H56 ∧ (HT prg I.laws_eqField [v52x53, v54x55].toArray H56 fun v55x57 H58 =>
  Le H56 H58 ∧ (ob (vUn .not v55x57) fun v56x59 =>
  cnd v56x59
    (K (.bool false) H58)
    (ob (vLoadN 3 v7x18 H58) fun v57x60 =>
  HT prg I.laws_markField [v57x60, (.int .i64 1)].toArray H58 fun v59x61 H62 =>
  ob (vInt .lss v59x61 (.int .i64 0)) fun v61x63 =>
  gop v61x63 false (fun K64 => K64 v34x24 H62) H62 fun v63x65 H66 =>
  gop v61x63 false (fun K67 => K67 v26x12 H66) H66 fun v64x68 H69 =>
  gop v61x63 false (fun K70 => HT prg I.laws_eqStringS [v63x65, v64x68].toArray H69 K70) H69 fun v65x71 H72 =>
  gop v61x63 false (fun K73 => ob (vUn .not v65x71) fun u => K73 u H72) H72 fun v66x74 H75 =>
  ob (vPick v61x63 (.bool true) v66x74) fun v67x76 =>
  gop v67x76 false (fun K77 => K77 v35x25 H75) H75 fun v69x78 H79 =>
  gop v67x76 false (fun K80 => K80 v27x13 H79) H79 fun v70x81 H82 =>
  gop v67x76 false (fun K83 => HT prg I.laws_eqInt64S [v69x78, v70x81].toArray H82 K83) H82 fun v71x84 H85 =>
  gop v67x76 false (fun K86 => ob (vUn .not v71x84) fun u => K86 u H85) H85 fun v72x87 H88 =>
  ob (vPick v67x76 (.bool true) v72x87) fun v73x89 =>
  gop v73x89 false (fun K90 => K90 v36x26 H88) H88 fun v75x91 H92 =>
  gop v73x89 false (fun K93 => K93 v28x14 H92) H92 fun v76x94 H95 =>
  gop v73x89 false (fun K96 => ob (vBool .neq v75x91 v76x94) fun u => K96 u H95) H95 fun v77x97 H98 =>
  ob (vPick v73x89 (.bool true) v77x97) fun v78x99 =>
  cnd v78x99
    (K (.bool false) H98)
    (HT prg I.laws_markStringS [v34x24, (.int .i64 1)].toArray H98 fun v81x100 H101 =>
  HT prg I.laws_markInt64S [v35x25, v81x100].toArray H101 fun v84x102 H103 =>
  HT prg I.laws_heldStringS [v34x24, (.int .i64 1)].toArray H103 fun v87x104 H105 =>
  ob (vInt .lss v87x104 (.int .i64 0)) fun v89x106 =>
  cnd v89x106
    (K (.bool false) H105)
    (HT prg I.laws_heldInt64S [v35x25, v87x104].toArray H105 fun v92x107 H108 =>
  ob (vInt .lss v92x107 (.int .i64 0)) fun v94x109 =>
  cnd v94x109
    (K (.bool false) H108)
    (ob (vInt .neq v92x107 v84x102) fun v97x110 =>
  cnd v97x110
    (K (.bool false) H108)
    (ob (vLoadN 3 v1x1 H108) fun v99x111 =>
  HT prg I.laws_toField [v99x111].toArray H108 fun v100x112 H113 =>
  HT prg I.impl_CensusOf [v100x112].toArray H113 fun v101x114 H115 =>
  ob (vExt v101x114 0) fun v102x116 =>
  ob (vExt v101x114 1) fun v103x117 =>
  ob (vExt v101x114 2) fun v104x118 =>
  HT prg I.laws_eqStringS [v102x116, v26x12].toArray H115 fun v107x119 H120 =>
  ob (vUn .not v107x119) fun v108x121 =>
  gop v108x121 false (fun K122 => K122 v103x117 H120) H120 fun v110x123 H124 =>
  gop v108x121 false (fun K125 => K125 v27x13 H124) H124 fun v111x126 H127 =>
  gop v108x121 false (fun K128 => HT prg I.laws_eqInt64S [v110x123, v111x126].toArray H127 K128) H127 fun v112x129 H130 =>
  gop v108x121 false (fun K131 => ob (vUn .not v112x129) fun u => K131 u H130) H130 fun v113x132 H133 =>
  ob (vPick v108x121 (.bool true) v113x132) fun v114x134 =>
  gop v114x134 false (fun K135 => K135 v104x118 H133) H133 fun v116x136 H137 =>
  gop v114x134 false (fun K138 => K138 v28x14 H137) H137 fun v117x139 H140 =>
  gop v114x134 false (fun K141 => ob (vBool .neq v116x136 v117x139) fun u => K141 u H140) H140 fun v118x142 H143 =>
  ob (vPick v114x134 (.bool true) v118x142) fun v119x144 =>
  cnd v119x144
    (K (.bool false) H143)
    (HT prg I.laws_heldStringS [v34x24, (.int .i64 1)].toArray H143 fun v122x145 H146 =>
  ob (vInt .lss v122x145 (.int .i64 0)) fun v124x147 =>
  cnd v124x147
    (K (.bool false) H146)
    (HT prg I.laws_heldInt64S [v35x25, v122x145].toArray H146 fun v127x148 H149 =>
  ob (vInt .lss v127x148 (.int .i64 0)) fun v129x150 =>
  cnd v129x150
    (K (.bool false) H149)
    (ob (vInt .neq v127x148 v84x102) fun v132x151 =>
  cnd v132x151
    (K (.bool false) H149)
    (K (.bool true) H149)))))))))))))
def O.laws_FnExactCensusOf : Nat → Nat × List Nat := fun i => bif Nat.beq i 10 then (0, [0, 1, 2, 3, 4]) else (0, [])
theorem R.laws_FnExactCensusOf {a0 : Value} {H : Hp} {K : Value → Hp → Prop} (h : F.laws_FnExactCensusOf a0 H K) : HT prg I.laws_FnExactCensusOf [a0].toArray H K :=
  HT_of_fev O.laws_FnExactCensusOf mixed Tryz.func4 (by kernel_rfl) (Eq.mpr (by kernel_rfl : fev prg O.laws_FnExactCensusOf Tryz.f4 [a0] H K = F.laws_FnExactCensusOf a0 H K) h)

/-! loop.example/g01381/laws.b10Long: function 5 -/
def F.laws_b10Long (a0 a1 : Value) (H : Hp) (K : Value → Hp → Prop) : Prop :=
  ob (vLenSl a0) fun v6x1 =>
  ob (vInt .gtr v6x1 (.int .i64 1048576)) fun v7x2 =>
  gop v7x2 false (fun K3 => K3 a1 H) H fun v9x4 H5 =>
  gop v7x2 false (fun K6 => ob (vLenSl v9x4) fun u => K6 u H5) H5 fun v10x7 H8 =>
  gop v7x2 false (fun K9 => ob (vInt .gtr v10x7 (.int .i64 1048576)) fun u => K9 u H8) H8 fun v11x10 H11 =>
  ob (vPick v7x2 (.bool true) v11x10) fun v12x12 =>
  K v12x12 H11
def O.laws_b10Long : Nat → Nat × List Nat := fun i => (0, [])
theorem R.laws_b10Long {a0 a1 : Value} {H : Hp} {K : Value → Hp → Prop} (h : F.laws_b10Long a0 a1 H K) : HT prg I.laws_b10Long [a0, a1].toArray H K :=
  HT_of_fev O.laws_b10Long mixed Tryz.func5 (by kernel_rfl) (Eq.mpr (by kernel_rfl : fev prg O.laws_b10Long Tryz.f5 [a0, a1] H K = F.laws_b10Long a0 a1 H K) h)

/-! loop.example/g01381/laws.b10At: function 6 -/
def F.laws_b10At (a0 a1 a2 : Value) (H : Hp) (K : Value → Hp → Prop) : Prop :=
  ob (vInt .leq a2 (.int .i64 1)) fun v8x1 =>
  cnd v8x1
    (K (.int .i64 0) H)
    (ob (vLenSl a0) fun v11x2 =>
  ob (vInt .lss a1 v11x2) fun v12x3 =>
  cnd v12x3
    (ob (vIx 1 a0 a1) fun v15x4 =>
    ob (vLoad v15x4 H) fun v16x5 =>
    ob (vCI .i64 v16x5) fun v17x6 =>
    ob (vInt .rem v17x6 a2) fun v19x7 =>
    K v19x7 H)
    (ob (vInt .mul a1 (.int .i64 37)) fun v21x8 =>
  ob (vInt .add v21x8 (.int .i64 11)) fun v22x9 =>
  ob (vInt .rem v22x9 a2) fun v24x10 =>
  K v24x10 H))
def O.laws_b10At : Nat → Nat × List Nat := fun i => (0, [])
theorem R.laws_b10At {a0 a1 a2 : Value} {H : Hp} {K : Value → Hp → Prop} (h : F.laws_b10At a0 a1 a2 H K) : HT prg I.laws_b10At [a0, a1, a2].toArray H K :=
  HT_of_fev O.laws_b10At mixed Tryz.func6 (by kernel_rfl) (Eq.mpr (by kernel_rfl : fev prg O.laws_b10At Tryz.f6 [a0, a1, a2] H K = F.laws_b10At a0 a1 a2 H K) h)

/-! loop.example/g01381/spec.l00From: function 22 -/
def F.spec_l00From (a0 : Value) (H : Hp) (K : Value → Hp → Prop) : Prop :=
  ob (vBuild [(0, 1), (1, 1), (2, 1)] (.agg #[(.slice none 0 0), (.int .i64 0), (.int .u64 0)]) [(0, a0)]) fun v4x1 =>
  nw (v4x1 : Value).cells 66 H fun v5x2 H3 =>
  K v5x2 H3
def O.spec_l00From : Nat → Nat × List Nat := fun i => (0, [])
theorem R.spec_l00From {a0 : Value} {H : Hp} {K : Value → Hp → Prop} (h : F.spec_l00From a0 H K) : HT prg I.spec_l00From [a0].toArray H K :=
  HT_of_fev O.spec_l00From mixed Tryz.func22 (by kernel_rfl) (Eq.mpr (by kernel_rfl : fev prg O.spec_l00From Tryz.f22 [a0] H K = F.spec_l00From a0 H K) h)

/-! (*loop.example/g01381/spec.l00Src).next: function 81 -/
def F.pspec_l00Src_next (a0 : Value) (H : Hp) (K : Value → Hp → Prop) : Prop :=
  jn (fun σ1 H1 =>
    ob (vNilC (σ1 0)) fun v26x2 =>
    ob (vFa 1 v26x2) fun v27x3 =>
    ob (vLoad v27x3 H1) fun v28x4 =>
    ob (vInt .add v28x4 (.int .i64 1)) fun v29x5 =>
    ob (vNilC (σ1 0)) fun v30x6 =>
    ob (vFa 1 v30x6) fun v31x7 =>
    st 1 v31x7 v29x5 H1 fun H8 =>
    ob (vNilC (σ1 0)) fun v34x9 =>
    ob (vFa 2 v34x9) fun v35x10 =>
    ob (vLoad v35x10 H8) fun v36x11 =>
    ob (vInt .mul v36x11 (.int .u64 6364136223846793005)) fun v37x12 =>
    ob (vCI .u64 (σ1 3)) fun v39x13 =>
    ob (vInt .add v37x12 v39x13) fun v40x14 =>
    ob (vInt .add v40x14 (.int .u64 1442695040888963407)) fun v41x15 =>
    ob (vNilC (σ1 0)) fun v42x16 =>
    ob (vFa 2 v42x16) fun v43x17 =>
    st 1 v43x17 v41x15 H8 fun H18 =>
    ob (vNilC (σ1 0)) fun v45x19 =>
    ob (vFa 1 v45x19) fun v46x20 =>
    ob (vLoad v46x20 H18) fun v47x21 =>
    ob (vNilC (σ1 0)) fun v49x22 =>
    ob (vFa 0 v49x22) fun v50x23 =>
    ob (vLoad v50x23 H18) fun v51x24 =>
    ob (vLenSl v51x24) fun v52x25 =>
    ob (vInt .leq v47x21 v52x25) fun v53x26 =>
    cnd v53x26
      (K (σ1 3) H18)
      (ob (vNilC (σ1 0)) fun v56x27 =>
    ob (vFa 2 v56x27) fun v57x28 =>
    ob (vLoad v57x28 H18) fun v58x29 =>
    ob (vInt .shr v58x29 (.int .u64 40)) fun v59x30 =>
    ob (vInt .and v59x30 (.int .u64 255)) fun v60x31 =>
    ob (vCI .i64 v60x31) fun v61x32 =>
    K v61x32 H18)) fun J1 =>
  ob (vNilC a0) fun v5x33 =>
  ob (vFa 1 v5x33) fun v6x34 =>
  ob (vLoad v6x34 H) fun v7x35 =>
  ob (vNilC a0) fun v9x36 =>
  ob (vFa 0 v9x36) fun v10x37 =>
  ob (vLoad v10x37 H) fun v11x38 =>
  ob (vLenSl v11x38) fun v12x39 =>
  ob (vInt .lss v7x35 v12x39) fun v13x40 =>
  cnd v13x40
    (ob (vNilC a0) fun v15x41 =>
    ob (vFa 0 v15x41) fun v16x42 =>
    ob (vLoad v16x42 H) fun v17x43 =>
    ob (vNilC a0) fun v19x44 =>
    ob (vFa 1 v19x44) fun v20x45 =>
    ob (vLoad v20x45 H) fun v21x46 =>
    ob (vIx 1 v17x43 v21x46) fun v22x47 =>
    ob (vLoad v22x47 H) fun v23x48 =>
    ob (vCI .i64 v23x48) fun v24x49 =>
    J1 (up (up (up (up (up (up (up (up (up (up (up (up (up (up (up (up (up (up (up (up (up (up (up (up (S0 [a0]) 2 (.int .i64 0)) 3 (.int .i64 0)) 4 a0) 5 v5x33) 6 v6x34) 7 v7x35) 8 a0) 9 v9x36) 10 v10x37) 11 v11x38) 12 v12x39) 13 v13x40) 14 a0) 15 v15x41) 16 v16x42) 17 v17x43) 18 a0) 19 v19x44) 20 v20x45) 21 v21x46) 22 v22x47) 23 v23x48) 24 v24x49) 3 v24x49) H)
    (J1 (up (up (up (up (up (up (up (up (up (up (up (up (S0 [a0]) 2 (.int .i64 0)) 3 (.int .i64 0)) 4 a0) 5 v5x33) 6 v6x34) 7 v7x35) 8 a0) 9 v9x36) 10 v10x37) 11 v11x38) 12 v12x39) 13 v13x40) H)
def O.pspec_l00Src_next : Nat → Nat × List Nat := fun i => bif Nat.beq i 6 then (0, [0, 1, 2, 3, 4, 5, 6, 7, 8, 9]) else bif Nat.beq i 2 then (0, [0, 1, 2, 3, 4, 5, 6, 7, 8, 9]) else bif Nat.beq i 3 then (0, [0, 1, 2, 3, 4, 5, 6, 7, 8, 9, 10, 11]) else (0, [])
theorem R.pspec_l00Src_next {a0 : Value} {H : Hp} {K : Value → Hp → Prop} (h : F.pspec_l00Src_next a0 H K) : HT prg I.pspec_l00Src_next [a0].toArray H K :=
  HT_of_fev O.pspec_l00Src_next mixed Tryz.func81 (by kernel_rfl) (Eq.mpr (by kernel_rfl : fev prg O.pspec_l00Src_next Tryz.f81 [a0] H K = F.pspec_l00Src_next a0 H K) h)

/-! (*loop.example/g01381/spec.l00Src).pick: function 52 -/
def F.pspec_l00Src_pick (a0 a1 : Value) (H : Hp) (K : Value → Hp → Prop) : Prop :=
  ob (vInt .leq a1 (.int .i64 1)) fun v7x1 =>
  cnd v7x1
    (K (.int .i64 0) H)
    (HT prg I.pspec_l00Src_next [a0].toArray H fun v9x2 H3 =>
  ob (vInt .gtr a1 (.int .i64 200)) fun v11x4 =>
  cnd v11x4
    (ob (vInt .mul v9x2 (.int .i64 256)) fun v13x5 =>
    HT prg I.pspec_l00Src_next [a0].toArray H3 fun v15x6 H7 =>
    ob (vInt .add v13x5 v15x6) fun v16x8 =>
    ob (vInt .rem v16x8 a1) fun v19x9 =>
  K v19x9 H7)
    (ob (vInt .rem v9x2 a1) fun v19x10 =>
  K v19x10 H3))
def O.pspec_l00Src_pick : Nat → Nat × List Nat := fun i => (0, [])
theorem R.pspec_l00Src_pick {a0 a1 : Value} {H : Hp} {K : Value → Hp → Prop} (h : F.pspec_l00Src_pick a0 a1 H K) : HT prg I.pspec_l00Src_pick [a0, a1].toArray H K :=
  HT_of_fev O.pspec_l00Src_pick mixed Tryz.func52 (by kernel_rfl) (Eq.mpr (by kernel_rfl : fev prg O.pspec_l00Src_pick Tryz.f52 [a0, a1] H K = F.pspec_l00Src_pick a0 a1 H K) h)

/-! loop.example/g01381/spec.l04DrawStates: function 38 -/
def F.spec_l04DrawStates (a0 a1 a2 a3 : Value) (H : Hp) (K : Value → Hp → Prop) : Prop :=
  nw #[(.int .i64 0), (.int .i64 0), (.slice none 0 0)] 27 H fun v8x1 H2 =>
  ob (vBuild [(0, 1), (1, 1), (2, 1)] (.agg #[(.int .i64 0), (.int .i64 0), (.slice none 0 0)]) [(0, a1), (1, a2)]) fun v13x3 =>
  nw #[(.int .i64 0), (.int .i64 0), (.slice none 0 0)] 27 H2 fun v9x4 H5 =>
  st 3 v9x4 v13x3 H5 fun H6 =>
  jn (fun σ7 H7 =>
    ob (vLoadN 3 (σ7 9) H7) fun v29x8 =>
    st 3 (σ7 8) v29x8 H7 fun H9 =>
    ob (vLoadN 3 (σ7 8) H9) fun u10 => K u10 H9) fun J7 =>
  ob (vInt .mul a1 a2) fun v16x11 =>
  lpE (fun Q12 σ12 H12 =>
    ob (vInt .gtr (σ12 10) (.int .i64 0)) fun v18x13 =>
    cnd v18x13
      (ob (vFa 2 (σ12 9)) fun v21x14 =>
    ob (vLoad v21x14 H12) fun v22x15 =>
    HT prg I.pspec_l00Src_pick [(σ12 0), (σ12 3)].toArray H12 fun v25x16 H17 =>
    Le H12 H17 ∧ (bS 1 1 #[(.int .i64 0)] 2 [(0, v25x16)] H17 fun v26x18 H19 =>
    apd 1 8 #[(.int .i64 0)] 2 v22x15 v26x18 H19 fun v27x20 H21 =>
    ob (vFa 2 (σ12 9)) fun v28x22 =>
    st 1 v28x22 v27x20 H21 fun H23 =>
    ob (vInt .sub (σ12 10) (.int .i64 1)) fun v20x24 =>
    Q12 .normal (up (up (up (up (up (up (up (up (up (up (up (up (up σ12 17 (σ12 10)) 18 v18x13) 21 v21x14) 22 v22x15) 23 (σ12 0)) 24 (σ12 3)) 25 v25x16) 26 v26x18) 27 v27x20) 28 v28x22) 19 (σ12 10)) 20 v20x24) 10 v20x24) H23))
      (Q12 (.exit 0) (up (up σ12 17 (σ12 10)) 18 v18x13) H12)) (blkQ 0 (thenQ J7 (retQ prg [(.cell 8 27)] K))) (up (up (up (up (up (up (up (up (up (S0 [a0, a1, a2, a3]) 8 v8x1) 11 a1) 12 a2) 13 v13x3) 9 v9x4) 14 a1) 15 a2) 16 v16x11) 10 v16x11) H6
def O.spec_l04DrawStates : Nat → Nat × List Nat := fun i => bif Nat.beq i 5 then (0, [0, 1, 2, 3, 4, 5, 6, 7, 8]) else (0, [])
theorem R.spec_l04DrawStates {a0 a1 a2 a3 : Value} {H : Hp} {K : Value → Hp → Prop} (h : F.spec_l04DrawStates a0 a1 a2 a3 H K) : HT prg I.spec_l04DrawStates [a0, a1, a2, a3].toArray H K :=
  HT_of_fev O.spec_l04DrawStates mixed Tryz.func38 (by kernel_rfl) (Eq.mpr (by kernel_rfl : fev prg O.spec_l04DrawStates Tryz.f38 [a0, a1, a2, a3] H K = F.spec_l04DrawStates a0 a1 a2 a3 H K) h)

/-! loop.example/g01381/spec.l04DrawStates: function 38 -/
def F.spec_l04DrawStatesX (a0 a1 a2 a3 : Value) (H : Hp) (K : Value → Hp → Prop) : Prop :=
  nw #[(.int .i64 0), (.int .i64 0), (.slice none 0 0)] 27 H fun v8x1 H2 =>
  ob (vBuild [(0, 1), (1, 1), (2, 1)] (.agg #[(.int .i64 0), (.int .i64 0), (.slice none 0 0)]) [(0, a1), (1, a2)]) fun v13x3 =>
  nw #[(.int .i64 0), (.int .i64 0), (.slice none 0 0)] 27 H2 fun v9x4 H5 =>
  st 3 v9x4 v13x3 H5 fun H6 =>
  jn (fun σ7 H7 =>
    ob (vLoadN 3 (σ7 9) H7) fun v29x8 =>
    st 3 (σ7 8) v29x8 H7 fun H9 =>
    ob (vLoadN 3 (σ7 8) H9) fun u10 => K u10 H9) fun J7 =>
  ob (vInt .mul a1 a2) fun v16x11 =>
  lpE (fun Q12 σ12 H12 =>
    ob (vInt .gtr (σ12 10) (.int .i64 0)) fun v18x13 =>
    cnd v18x13
      ((ob (vFa 2 (σ12 9)) fun v21x14 =>
    ob (vLoad v21x14 H12) fun v22x15 =>
    HT prg I.pspec_l00Src_pick [(σ12 0), (σ12 3)].toArray H12 fun v25x16 H17 =>
    bS 1 1 #[(.int .i64 0)] 2 [(0, v25x16)] H17 fun v26x18 H19 =>
    apd 1 8 #[(.int .i64 0)] 2 v22x15 v26x18 H19 fun v27x20 H21 =>
    ob (vFa 2 (σ12 9)) fun v28x22 =>
    st 1 v28x22 v27x20 H21 fun H23 =>
    ob (vInt .sub (σ12 10) (.int .i64 1)) fun v20x24 =>
    Q12 .normal (up (up (up (up (up (up (up (up (up (up (up (up (up σ12 17 (σ12 10)) 18 v18x13) 21 v21x14) 22 v22x15) 23 (σ12 0)) 24 (σ12 3)) 25 v25x16) 26 v26x18) 27 v27x20) 28 v28x22) 19 (σ12 10)) 20 v20x24) 10 v20x24) H23) ∧ (ob (vFa 2 (σ12 9)) fun v21x25 =>
    HT prg I.pspec_l00Src_pick [(σ12 0), (σ12 3)].toArray H12 fun v25x26 H27 =>
    ob (vLoad v21x25 H27) fun v22x28 =>
    bS 1 1 #[(.int .i64 0)] 2 [(0, v25x26)] H27 fun v26x29 H30 =>
    apd 1 8 #[(.int .i64 0)] 2 v22x28 v26x29 H30 fun v27x31 H32 =>
    ob (vFa 2 (σ12 9)) fun v28x33 =>
    st 1 v28x33 v27x31 H32 fun H34 =>
    ob (vInt .sub (σ12 10) (.int .i64 1)) fun v20x35 =>
    Q12 .normal (up (up (up (up (up (up (up (up (up (up (up (up (up σ12 17 (σ12 10)) 18 v18x13) 21 v21x25) 23 (σ12 0)) 24 (σ12 3)) 25 v25x26) 22 v22x28) 26 v26x29) 27 v27x31) 28 v28x33) 19 (σ12 10)) 20 v20x35) 10 v20x35) H34))
      (Q12 (.exit 0) (up (up σ12 17 (σ12 10)) 18 v18x13) H12)) (blkQ 0 (thenQ J7 (retQ prg [(.cell 8 27)] K))) (up (up (up (up (up (up (up (up (up (S0 [a0, a1, a2, a3]) 8 v8x1) 11 a1) 12 a2) 13 v13x3) 9 v9x4) 14 a1) 15 a2) 16 v16x11) 10 v16x11) H6
def O.spec_l04DrawStatesX : Nat → Nat × List Nat := fun i => bif Nat.beq i 5 then (2, [1001, 1004, 0, 1, 2, 3, 4, 5, 6, 7, 8, 0, 2, 3, 4, 1, 5, 6, 7, 8]) else (0, [])
theorem R.spec_l04DrawStatesX {a0 a1 a2 a3 : Value} {H : Hp} {K : Value → Hp → Prop} (h : F.spec_l04DrawStatesX a0 a1 a2 a3 H K) : HT prg I.spec_l04DrawStates [a0, a1, a2, a3].toArray H K :=
  HT_of_fev O.spec_l04DrawStatesX mixed Tryz.func38 (by kernel_rfl) (Eq.mpr (by kernel_rfl : fev prg O.spec_l04DrawStatesX Tryz.f38 [a0, a1, a2, a3] H K = F.spec_l04DrawStatesX a0 a1 a2 a3 H K) h)

/-! loop.example/g01381/spec.l04DrawOk: function 23 -/
def F.spec_l04DrawOk (a0 a1 a2 : Value) (H : Hp) (K : Value → Hp → Prop) : Prop :=
  nw #[(.int .i64 0), (.int .i64 0), (.slice none 0 0)] 27 H fun v6x1 H2 =>
  HT prg I.spec_l04DrawStates [a0, a1, a2, (.int .i64 2)].toArray H2 fun v10x3 H4 =>
  st 3 v6x1 v10x3 H4 fun H5 =>
  ob (vLoadN 3 v6x1 H5) fun u6 => K u6 H5
def O.spec_l04DrawOk : Nat → Nat × List Nat := fun i => (0, [])
theorem R.spec_l04DrawOk {a0 a1 a2 : Value} {H : Hp} {K : Value → Hp → Prop} (h : F.spec_l04DrawOk a0 a1 a2 H K) : HT prg I.spec_l04DrawOk [a0, a1, a2].toArray H K :=
  HT_of_fev O.spec_l04DrawOk mixed Tryz.func23 (by kernel_rfl) (Eq.mpr (by kernel_rfl : fev prg O.spec_l04DrawOk Tryz.f23 [a0, a1, a2] H K = F.spec_l04DrawOk a0 a1 a2 H K) h)

/-! loop.example/g01381/spec.B10Plain: function 7 -/
def F.spec_B10Plain (a0 a1 a2 : Value) (H : Hp) (K : Value → Hp → Prop) : Prop :=
  nw #[(.int .i64 0), (.int .i64 0), (.slice none 0 0)] 27 H fun v6x1 H2 =>
  HT prg I.spec_l00From [a0].toArray H2 fun v9x3 H4 =>
  HT prg I.spec_l04DrawOk [v9x3, a1, a2].toArray H4 fun v13x5 H6 =>
  st 3 v6x1 v13x5 H6 fun H7 =>
  ob (vLoadN 3 v6x1 H7) fun u8 => K u8 H7
def O.spec_B10Plain : Nat → Nat × List Nat := fun i => (0, [])
theorem R.spec_B10Plain {a0 a1 a2 : Value} {H : Hp} {K : Value → Hp → Prop} (h : F.spec_B10Plain a0 a1 a2 H K) : HT prg I.spec_B10Plain [a0, a1, a2].toArray H K :=
  HT_of_fev O.spec_B10Plain mixed Tryz.func7 (by kernel_rfl) (Eq.mpr (by kernel_rfl : fev prg O.spec_B10Plain Tryz.f7 [a0, a1, a2] H K = F.spec_B10Plain a0 a1 a2 H K) h)

/-! loop.example/g01381/laws.b10Ints: function 11 -/
def F.laws_b10Ints (a0 a1 : Value) (H : Hp) (K : Value → Hp → Prop) : Prop :=
  ob (vLenSl a0) fun v7x1 =>
  ob (vLenSl a1) fun v9x2 =>
  ob (vInt .neq v7x1 v9x2) fun v10x3 =>
  cnd v10x3
    (K (.bool false) H)
    (jn (fun σ4 H4 =>
    K (.bool true) H4) fun J4 =>
  ob (vLenSl a0) fun v12x5 =>
  lpE (fun Q6 σ6 H6 =>
    ob (vInt .lss (σ6 13) (σ6 12)) fun v14x7 =>
    cnd v14x7
      (ob (vIx 1 (σ6 0) (σ6 13)) fun v18x8 =>
    ob (vLoad v18x8 H6) fun v19x9 =>
    ob (vIx 1 (σ6 1) (σ6 13)) fun v22x10 =>
    ob (vLoad v22x10 H6) fun v23x11 =>
    ob (vInt .neq v19x9 v23x11) fun v24x12 =>
    cnd v24x12
      (Q6 .ret (up (up (up (up (up (up (up (up (up (up (up (up (up σ6 14 v14x7) 15 (σ6 13)) 5 (σ6 13)) 16 (σ6 0)) 17 (σ6 13)) 18 v18x8) 19 v19x9) 20 (σ6 1)) 21 (σ6 13)) 22 v22x10) 23 v23x11) 24 v24x12) 4 (.bool false)) H6)
      (ob (vInt .add (σ6 13) (.int .i64 1)) fun v25x13 =>
    Q6 .normal (up (up (up (up (up (up (up (up (up (up (up (up (up (up σ6 14 v14x7) 15 (σ6 13)) 5 (σ6 13)) 16 (σ6 0)) 17 (σ6 13)) 18 v18x8) 19 v19x9) 20 (σ6 1)) 21 (σ6 13)) 22 v22x10) 23 v23x11) 24 v24x12) 25 v25x13) 13 v25x13) H6))
      (Q6 (.exit 0) (up σ6 14 v14x7) H6)) (blkQ 0 (thenQ J4 (retQ prg [(.tmp 4)] K))) (up (up (up (up (up (up (up (up (up (S0 [a0, a1]) 4 (.bool false)) 6 a0) 7 v7x1) 8 a1) 9 v9x2) 10 v10x3) 11 a0) 12 v12x5) 13 (.int .i64 0)) H)
def O.laws_b10Ints : Nat → Nat × List Nat := fun i => bif Nat.beq i 6 then (0, [0, 1, 2, 3, 4, 5, 6, 7, 8]) else (0, [])
theorem R.laws_b10Ints {a0 a1 : Value} {H : Hp} {K : Value → Hp → Prop} (h : F.laws_b10Ints a0 a1 H K) : HT prg I.laws_b10Ints [a0, a1].toArray H K :=
  HT_of_fev O.laws_b10Ints mixed Tryz.func11 (by kernel_rfl) (Eq.mpr (by kernel_rfl : fev prg O.laws_b10Ints Tryz.f11 [a0, a1] H K = F.laws_b10Ints a0 a1 H K) h)

/-! loop.example/g01381/laws.FnParts: function 3 -/
def F.laws_FnParts (a0 a1 : Value) (H : Hp) (K : Value → Hp → Prop) : Prop :=
  HT prg I.laws_b10Long [a0, a1].toArray H fun v26x1 H2 =>
  cnd v26x1
    (K (.bool true) H2)
    (HT prg I.laws_b10At [a1, (.int .i64 0), (.int .i64 8)].toArray H2 fun v28x3 H4 =>
  ob (vInt .add (.int .i64 1) v28x3) fun v29x5 =>
  HT prg I.laws_b10At [a1, (.int .i64 1), (.int .i64 8)].toArray H4 fun v31x6 H7 =>
  ob (vInt .add (.int .i64 1) v31x6) fun v32x8 =>
  HT prg I.spec_B10Plain [a0, v29x5, v32x8].toArray H7 fun v36x9 H10 =>
  nw #[(.int .i64 0), (.int .i64 0), (.slice none 0 0)] 27 H10 fun v7x11 H12 =>
  st 3 v7x11 v36x9 H12 fun H13 =>
  ob (vLoadN 3 v7x11 H13) fun v38x14 =>
  HT prg I.impl_PartsOf [v38x14].toArray H13 fun v39x15 H16 =>
  ob (vExt v39x15 0) fun v40x17 =>
  ob (vExt v39x15 1) fun v41x18 =>
  ob (vExt v39x15 2) fun v42x19 =>
  ob (vLoadN 3 v7x11 H16) fun v44x20 =>
  HT prg I.impl_CensusOf [v44x20].toArray H16 fun v45x21 H22 =>
  ob (vExt v45x21 0) fun v46x23 =>
  ob (vExt v45x21 1) fun v47x24 =>
  ob (vExt v45x21 2) fun v48x25 =>
  ob (vLoadN 3 v7x11 H22) fun v50x26 =>
  HT prg I.spec_CensusOf [v50x26].toArray H22 fun v51x27 H28 =>
  ob (vExt v51x27 0) fun v52x29 =>
  ob (vExt v51x27 1) fun v53x30 =>
  ob (vExt v51x27 2) fun v54x31 =>
  ob (vUn .not v42x19) fun v56x32 =>
  gop v56x32 false (fun K33 => K33 v48x25 H28) H28 fun v58x34 H35 =>
  gop v56x32 false (fun K36 => ob (vUn .not v58x34) fun u => K36 u H35) H35 fun v59x37 H38 =>
  ob (vPick v56x32 (.bool true) v59x37) fun v60x39 =>
  gop v60x39 false (fun K40 => K40 v54x31 H38) H38 fun v62x41 H42 =>
  gop v60x39 false (fun K43 => ob (vUn .not v62x41) fun u => K43 u H42) H42 fun v63x44 H45 =>
  ob (vPick v60x39 (.bool true) v63x44) fun v64x46 =>
  gop v64x46 false (fun K47 => K47 v41x18 H45) H45 fun v66x48 H49 =>
  gop v64x46 false (fun K50 => ob (vLenSl v66x48) fun u => K50 u H49) H49 fun v67x51 H52 =>
  gop v64x46 false (fun K53 => K53 v40x17 H52) H52 fun v68x54 H55 =>
  gop v64x46 false (fun K56 => ob (vLenSl v68x54) fun u => K56 u H55) H55 fun v69x57 H58 =>
  gop v64x46 false (fun K59 => ob (vInt .mul (.int .i64 2) v69x57) fun u => K59 u H58) H58 fun v70x60 H61 =>
  gop v64x46 false (fun K62 => ob (vInt .neq v67x51 v70x60) fun u => K62 u H61) H61 fun v71x63 H64 =>
  ob (vPick v64x46 (.bool true) v71x63) fun v72x65 =>
  gop v72x65 false (fun K66 => K66 v46x23 H64) H64 fun v74x67 H68 =>
  gop v72x65 false (fun K69 => ob (vLenSl v74x67) fun u => K69 u H68) H68 fun v75x70 H71 =>
  gop v72x65 false (fun K72 => K72 v52x29 H71) H71 fun v76x73 H74 =>
  gop v72x65 false (fun K75 => ob (vLenSl v76x73) fun u => K75 u H74) H74 fun v77x76 H77 =>
  gop v72x65 false (fun K78 => ob (vInt .neq v75x70 v77x76) fun u => K78 u H77) H77 fun v78x79 H80 =>
  ob (vPick v72x65 (.bool true) v78x79) fun v79x81 =>
  gop v79x81 false (fun K82 => K82 v47x24 H80) H80 fun v81x83 H84 =>
  gop v79x81 false (fun K85 => K85 v53x30 H84) H84 fun v82x86 H87 =>
  gop v79x81 false (fun K88 => HT prg I.laws_b10Ints [v81x83, v82x86].toArray H87 K88) H87 fun v83x89 H90 =>
  gop v79x81 false (fun K91 => ob (vUn .not v83x89) fun u => K91 u H90) H90 fun v84x92 H93 =>
  ob (vPick v79x81 (.bool true) v84x92) fun v85x94 =>
  cnd v85x94
    (K (.bool false) H93)
    (jn (fun σ95 H95 =>
    ob (vFa 2 (σ95 7)) fun v123x96 =>
    ob (vLoad v123x96 H95) fun v124x97 =>
    ob (vLenSl v124x97) fun v125x98 =>
    mkS 1 8 #[(.int .i64 0)] 2 v125x98 v125x98 H95 fun v126x99 H100 =>
    jn (fun σ101 H101 =>
      ob (vLenSl (σ101 8)) fun v242x102 =>
      ob (vInt .eql (σ101 17) v242x102) fun v243x103 =>
      gop v243x103 true (fun K104 => K104 (σ101 19) H101) H101 fun v245x105 H106 =>
      gop v243x103 true (fun K107 => ob (vFa 2 (σ101 7)) fun u => K107 u H106) H106 fun v246x108 H109 =>
      gop v243x103 true (fun K110 => ob (vLoad v246x108 H109) fun u => K110 u H109) H109 fun v247x111 H112 =>
      gop v243x103 true (fun K113 => HT prg I.laws_b10Ints [v245x105, v247x111].toArray H112 K113) H112 fun v248x114 H115 =>
      ob (vPick v243x103 v248x114 (.bool false)) fun v249x116 =>
      K v249x116 H115) fun J101 =>
    ob (vLenSl (σ95 8)) fun v128x117 =>
    lpE (fun Q118 σ118 H118 =>
      ob (vInt .lss (σ118 129) (σ118 128)) fun v130x119 =>
      cnd v130x119
        (jn (fun σ120 H120 =>
        ob (vInt .add (σ120 129) (.int .i64 1)) fun v239x121 =>
        Q118 .normal (up (up σ120 239 v239x121) 129 v239x121) H120) fun J120 =>
      ob (vIx 3 (σ118 8) (σ118 129)) fun v134x122 =>
      ob (vLoadN 3 v134x122 H118) fun v135x123 =>
      nw #[(.int .i64 0), (.int .i64 0), (.slice none 0 0)] 27 H118 fun v21x124 H125 =>
      st 3 v21x124 v135x123 H125 fun H126 =>
      ob (vFa 0 v21x124) fun v136x127 =>
      ob (vLoad v136x127 H126) fun v137x128 =>
      ob (vInt .lss v137x128 (.int .i64 1)) fun v138x129 =>
      gop v138x129 false (fun K130 => ob (vFa 1 v21x124) fun u => K130 u H126) H126 fun v140x131 H132 =>
      gop v138x129 false (fun K133 => ob (vLoad v140x131 H132) fun u => K133 u H132) H132 fun v141x134 H135 =>
      gop v138x129 false (fun K136 => ob (vInt .lss v141x134 (.int .i64 1)) fun u => K136 u H135) H135 fun v142x137 H138 =>
      ob (vPick v138x129 (.bool true) v142x137) fun v143x139 =>
      gop v143x139 false (fun K140 => ob (vFa 2 v21x124) fun u => K140 u H138) H138 fun v145x141 H142 =>
      gop v143x139 false (fun K143 => ob (vLoad v145x141 H142) fun u => K143 u H142) H142 fun v146x144 H145 =>
      gop v143x139 false (fun K146 => ob (vLenSl v146x144) fun u => K146 u H145) H145 fun v147x147 H148 =>
      gop v143x139 false (fun K149 => ob (vFa 0 v21x124) fun u => K149 u H148) H148 fun v148x150 H151 =>
      gop v143x139 false (fun K152 => ob (vLoad v148x150 H151) fun u => K152 u H151) H151 fun v149x153 H154 =>
      gop v143x139 false (fun K155 => ob (vFa 1 v21x124) fun u => K155 u H154) H154 fun v150x156 H157 =>
      gop v143x139 false (fun K158 => ob (vLoad v150x156 H157) fun u => K158 u H157) H157 fun v151x159 H160 =>
      gop v143x139 false (fun K161 => ob (vInt .mul v149x153 v151x159) fun u => K161 u H160) H160 fun v152x162 H163 =>
      gop v143x139 false (fun K164 => ob (vInt .neq v147x147 v152x162) fun u => K164 u H163) H163 fun v153x165 H166 =>
      ob (vPick v143x139 (.bool true) v153x165) fun v154x167 =>
      gop v154x167 false (fun K168 => K168 (σ118 9) H166) H166 fun v156x169 H170 =>
      gop v154x167 false (fun K171 => K171 (σ118 129) H170) H170 fun v157x172 H173 =>
      gop v154x167 false (fun K174 => ob (vInt .mul (.int .i64 2) v157x172) fun u => K174 u H173) H173 fun v158x175 H176 =>
      gop v154x167 false (fun K177 => ob (vIx 1 v156x169 v158x175) fun u => K177 u H176) H176 fun v159x178 H179 =>
      gop v154x167 false (fun K180 => ob (vLoad v159x178 H179) fun u => K180 u H179) H179 fun v160x181 H182 =>
      gop v154x167 false (fun K183 => ob (vInt .lss v160x181 (.int .i64 0)) fun u => K183 u H182) H182 fun v161x184 H185 =>
      ob (vPick v154x167 (.bool true) v161x184) fun v162x186 =>
      gop v162x186 false (fun K187 => K187 (σ118 9) H185) H185 fun v164x188 H189 =>
      gop v162x186 false (fun K190 => K190 (σ118 129) H189) H189 fun v165x191 H192 =>
      gop v162x186 false (fun K193 => ob (vInt .mul (.int .i64 2) v165x191) fun u => K193 u H192) H192 fun v166x194 H195 =>
      gop v162x186 false (fun K196 => ob (vInt .add v166x194 (.int .i64 1)) fun u => K196 u H195) H195 fun v167x197 H198 =>
      gop v162x186 false (fun K199 => ob (vIx 1 v164x188 v167x197) fun u => K199 u H198) H198 fun v168x200 H201 =>
      gop v162x186 false (fun K202 => ob (vLoad v168x200 H201) fun u => K202 u H201) H201 fun v169x203 H204 =>
      gop v162x186 false (fun K205 => ob (vInt .lss v169x203 (.int .i64 0)) fun u => K205 u H204) H204 fun v170x206 H207 =>
      ob (vPick v162x186 (.bool true) v170x206) fun v171x208 =>
      gop v171x208 false (fun K209 => K209 (σ118 9) H207) H207 fun v173x210 H211 =>
      gop v171x208 false (fun K212 => K212 (σ118 129) H211) H211 fun v174x213 H214 =>
      gop v171x208 false (fun K215 => ob (vInt .mul (.int .i64 2) v174x213) fun u => K215 u H214) H214 fun v175x216 H217 =>
      gop v171x208 false (fun K218 => ob (vIx 1 v173x210 v175x216) fun u => K218 u H217) H217 fun v176x219 H220 =>
      gop v171x208 false (fun K221 => ob (vLoad v176x219 H220) fun u => K221 u H220) H220 fun v177x222 H223 =>
      gop v171x208 false (fun K224 => ob (vFa 0 v21x124) fun u => K224 u H223) H223 fun v178x225 H226 =>
      gop v171x208 false (fun K227 => ob (vLoad v178x225 H226) fun u => K227 u H226) H226 fun v179x228 H229 =>
      gop v171x208 false (fun K230 => ob (vInt .add v177x222 v179x228) fun u => K230 u H229) H229 fun v180x231 H232 =>
      gop v171x208 false (fun K233 => K233 (σ118 5) H232) H232 fun v181x234 H235 =>
      gop v171x208 false (fun K236 => ob (vInt .gtr v180x231 v181x234) fun u => K236 u H235) H235 fun v182x237 H238 =>
      ob (vPick v171x208 (.bool true) v182x237) fun v183x239 =>
      gop v183x239 false (fun K240 => K240 (σ118 9) H238) H238 fun v185x241 H242 =>
      gop v183x239 false (fun K243 => K243 (σ118 129) H242) H242 fun v186x244 H245 =>
      gop v183x239 false (fun K246 => ob (vInt .mul (.int .i64 2) v186x244) fun u => K246 u H245) H245 fun v187x247 H248 =>
      gop v183x239 false (fun K249 => ob (vInt .add v187x247 (.int .i64 1)) fun u => K249 u H248) H248 fun v188x250 H251 =>
      gop v183x239 false (fun K252 => ob (vIx 1 v185x241 v188x250) fun u => K252 u H251) H251 fun v189x253 H254 =>
      gop v183x239 false (fun K255 => ob (vLoad v189x253 H254) fun u => K255 u H254) H254 fun v190x256 H257 =>
      gop v183x239 false (fun K258 => ob (vFa 1 v21x124) fun u => K258 u H257) H257 fun v191x259 H260 =>
      gop v183x239 false (fun K261 => ob (vLoad v191x259 H260) fun u => K261 u H260) H260 fun v192x262 H263 =>
      gop v183x239 false (fun K264 => ob (vInt .add v190x256 v192x262) fun u => K264 u H263) H263 fun v193x265 H266 =>
      gop v183x239 false (fun K267 => K267 (σ118 6) H266) H266 fun v194x268 H269 =>
      gop v183x239 false (fun K270 => ob (vInt .gtr v193x265 v194x268) fun u => K270 u H269) H269 fun v195x271 H272 =>
      ob (vPick v183x239 (.bool true) v195x271) fun v196x273 =>
      cnd v196x273
        (Q118 .ret (up (up (up (up (up (up (up (up (up (up (up (up (up (up (up (up (up (up (up (up (up (up (up (up (up (up (up (up (up (up (up (up (up (up (up (up (up (up (up (up (up (up (up (up (up (up (up (up (up (up (up (up (up (up (up (up (up (up (up (up (up (up (up (up (up (up (up (up (up (up σ118 130 v130x119) 131 (σ118 129)) 20 (σ118 129)) 132 (σ118 8)) 133 (σ118 129)) 134 v134x122) 135 v135x123) 21 v21x124) 136 v136x127) 137 v137x128) 138 v138x129) 139 v138x129) 140 v140x131) 141 v141x134) 142 v142x137) 143 v143x139) 144 v143x139) 145 v145x141) 146 v146x144) 147 v147x147) 148 v148x150) 149 v149x153) 150 v150x156) 151 v151x159) 152 v152x162) 153 v153x165) 154 v154x167) 155 v154x167) 156 v156x169) 157 v157x172) 158 v158x175) 159 v159x178) 160 v160x181) 161 v161x184) 162 v162x186) 163 v162x186) 164 v164x188) 165 v165x191) 166 v166x194) 167 v167x197) 168 v168x200) 169 v169x203) 170 v170x206) 171 v171x208) 172 v171x208) 173 v173x210) 174 v174x213) 175 v175x216) 176 v176x219) 177 v177x222) 178 v178x225) 179 v179x228) 180 v180x231) 181 v181x234) 182 v182x237) 183 v183x239) 184 v183x239) 185 v185x241) 186 v186x244) 187 v187x247) 188 v188x250) 189 v189x253) 190 v190x256) 191 v191x259) 192 v192x262) 193 v193x265) 194 v194x268) 195 v195x271) 196 v196x273) 4 (.bool false)) H272)
        (ob (vFa 2 v21x124) fun v197x274 =>
      ob (vLoad v197x274 H272) fun v198x275 =>
      ob (vLenSl v198x275) fun v199x276 =>
      lpE (fun Q277 σ277 H277 =>
        ob (vInt .lss (σ277 200) (σ277 199)) fun v201x278 =>
        cnd v201x278
          (ob (vInt .mul (.int .i64 2) (σ277 20)) fun v205x279 =>
        ob (vIx 1 (σ277 9) v205x279) fun v206x280 =>
        ob (vLoad v206x280 H277) fun v207x281 =>
        ob (vFa 1 (σ277 21)) fun v209x282 =>
        ob (vLoad v209x282 H277) fun v210x283 =>
        ob (vInt .quo (σ277 200) v210x283) fun v211x284 =>
        ob (vInt .add v207x281 v211x284) fun v212x285 =>
        ob (vInt .mul v212x285 (σ277 6)) fun v214x286 =>
        ob (vInt .mul (.int .i64 2) (σ277 20)) fun v217x287 =>
        ob (vInt .add v217x287 (.int .i64 1)) fun v218x288 =>
        ob (vIx 1 (σ277 9) v218x288) fun v219x289 =>
        ob (vLoad v219x289 H277) fun v220x290 =>
        ob (vInt .add v214x286 v220x290) fun v221x291 =>
        ob (vFa 1 (σ277 21)) fun v223x292 =>
        ob (vLoad v223x292 H277) fun v224x293 =>
        ob (vInt .rem (σ277 200) v224x293) fun v225x294 =>
        ob (vInt .add v221x291 v225x294) fun v226x295 =>
        ob (vIx 1 (σ277 19) v226x295) fun v229x296 =>
        ob (vLoad v229x296 H277) fun v230x297 =>
        ob (vFa 2 (σ277 21)) fun v231x298 =>
        ob (vLoad v231x298 H277) fun v232x299 =>
        ob (vIx 1 v232x299 (σ277 200)) fun v234x300 =>
        ob (vLoad v234x300 H277) fun v235x301 =>
        ob (vInt .add v230x297 v235x301) fun v236x302 =>
        ob (vIx 1 (σ277 19) v226x295) fun v237x303 =>
        st 1 v237x303 v236x302 H277 fun H304 =>
        ob (vInt .add (σ277 200) (.int .i64 1)) fun v238x305 =>
        Q277 .normal (up (up (up (up (up (up (up (up (up (up (up (up (up (up (up (up (up (up (up (up (up (up (up (up (up (up (up (up (up (up (up (up (up (up (up (up (up (up (up (up (up σ277 201 v201x278) 202 (σ277 200)) 22 (σ277 200)) 203 (σ277 9)) 204 (σ277 20)) 205 v205x279) 206 v206x280) 207 v207x281) 208 (σ277 200)) 209 v209x282) 210 v210x283) 211 v211x284) 212 v212x285) 213 (σ277 6)) 214 v214x286) 215 (σ277 9)) 216 (σ277 20)) 217 v217x287) 218 v218x288) 219 v219x289) 220 v220x290) 221 v221x291) 222 (σ277 200)) 223 v223x292) 224 v224x293) 225 v225x294) 226 v226x295) 23 v226x295) 227 (σ277 19)) 228 v226x295) 229 v229x296) 230 v230x297) 231 v231x298) 232 v232x299) 233 (σ277 200)) 234 v234x300) 235 v235x301) 236 v236x302) 237 v237x303) 238 v238x305) 200 v238x305) H304)
          (Q277 (.exit 4) (up σ277 201 v201x278) H277)) (blkQ 4 (blkQ 3 (thenQ J120 Q118))) (up (up (up (up (up (up (up (up (up (up (up (up (up (up (up (up (up (up (up (up (up (up (up (up (up (up (up (up (up (up (up (up (up (up (up (up (up (up (up (up (up (up (up (up (up (up (up (up (up (up (up (up (up (up (up (up (up (up (up (up (up (up (up (up (up (up (up (up (up (up (up (up (up σ118 130 v130x119) 131 (σ118 129)) 20 (σ118 129)) 132 (σ118 8)) 133 (σ118 129)) 134 v134x122) 135 v135x123) 21 v21x124) 136 v136x127) 137 v137x128) 138 v138x129) 139 v138x129) 140 v140x131) 141 v141x134) 142 v142x137) 143 v143x139) 144 v143x139) 145 v145x141) 146 v146x144) 147 v147x147) 148 v148x150) 149 v149x153) 150 v150x156) 151 v151x159) 152 v152x162) 153 v153x165) 154 v154x167) 155 v154x167) 156 v156x169) 157 v157x172) 158 v158x175) 159 v159x178) 160 v160x181) 161 v161x184) 162 v162x186) 163 v162x186) 164 v164x188) 165 v165x191) 166 v166x194) 167 v167x197) 168 v168x200) 169 v169x203) 170 v170x206) 171 v171x208) 172 v171x208) 173 v173x210) 174 v174x213) 175 v175x216) 176 v176x219) 177 v177x222) 178 v178x225) 179 v179x228) 180 v180x231) 181 v181x234) 182 v182x237) 183 v183x239) 184 v183x239) 185 v185x241) 186 v186x244) 187 v187x247) 188 v188x250) 189 v189x253) 190 v190x256) 191 v191x259) 192 v192x262) 193 v193x265) 194 v194x268) 195 v195x271) 196 v196x273) 197 v197x274) 198 v198x275) 199 v199x276) 200 (.int .i64 0)) H272))
        (Q118 (.exit 2) (up σ118 130 v130x119) H118)) (blkQ 2 (thenQ J101 (retQ prg [(.tmp 4)] K))) (up (up (up (up (up (up (up (up σ95 123 v123x96) 124 v124x97) 125 v125x98) 126 v126x99) 19 v126x99) 127 (σ95 8)) 128 v128x117) 129 (.int .i64 0)) H100) fun J95 =>
  ob (vLenSl v46x23) fun v87x306 =>
  lpE (fun Q307 σ307 H307 =>
    ob (vInt .lss (σ307 88) (σ307 87)) fun v89x308 =>
    cnd v89x308
      (ob (vIx 1 (σ307 11) (σ307 88)) fun v93x309 =>
    ob (vLoad v93x309 H307) fun v94x310 =>
    ob (vIx 1 (σ307 14) (σ307 88)) fun v97x311 =>
    ob (vLoad v97x311 H307) fun v98x312 =>
    ob (vStr .neq v94x310 v98x312) fun v99x313 =>
    gop v99x313 false (fun K314 => K314 (σ307 88) H307) H307 fun v101x315 H316 =>
    gop v99x313 false (fun K317 => ob (vInt .gtr v101x315 (.int .i64 0)) fun u => K317 u H316) H316 fun v102x318 H319 =>
    gop v99x313 false (fun K320 => K320 v102x318 H319) H319 fun v103x321 H322 =>
    gop v103x321 true (fun K323 => K323 (σ307 11) H322) H322 fun v104x324 H325 =>
    gop v103x321 true (fun K326 => K326 (σ307 88) H325) H325 fun v105x327 H328 =>
    gop v103x321 true (fun K329 => ob (vIx 1 v104x324 v105x327) fun u => K329 u H328) H328 fun v106x330 H331 =>
    gop v103x321 true (fun K332 => ob (vLoad v106x330 H331) fun u => K332 u H331) H331 fun v107x333 H334 =>
    gop v103x321 true (fun K335 => K335 (σ307 11) H334) H334 fun v108x336 H337 =>
    gop v103x321 true (fun K338 => K338 (σ307 88) H337) H337 fun v109x339 H340 =>
    gop v103x321 true (fun K341 => ob (vInt .sub v109x339 (.int .i64 1)) fun u => K341 u H340) H340 fun v110x342 H343 =>
    gop v103x321 true (fun K344 => ob (vIx 1 v108x336 v110x342) fun u => K344 u H343) H343 fun v111x345 H346 =>
    gop v103x321 true (fun K347 => ob (vLoad v111x345 H346) fun u => K347 u H346) H346 fun v112x348 H349 =>
    gop v103x321 true (fun K350 => ob (vStr .leq v107x333 v112x348) fun u => K350 u H349) H349 fun v113x351 H352 =>
    gop v99x313 false (fun K353 => ob (vPick v103x321 v113x351 (.bool false)) fun u => K353 u H352) H352 fun v114x354 H355 =>
    ob (vPick v99x313 (.bool true) v114x354) fun v115x356 =>
    cnd v115x356
      (Q307 .ret (up (up (up (up (up (up (up (up (up (up (up (up (up (up (up (up (up (up (up (up (up (up (up (up (up (up (up (up (up σ307 89 v89x308) 90 (σ307 88)) 18 (σ307 88)) 91 (σ307 11)) 92 (σ307 88)) 93 v93x309) 94 v94x310) 95 (σ307 14)) 96 (σ307 88)) 97 v97x311) 98 v98x312) 99 v99x313) 100 v99x313) 101 v101x315) 102 v102x318) 103 v103x321) 104 v104x324) 105 v105x327) 106 v106x330) 107 v107x333) 108 v108x336) 109 v109x339) 110 v110x342) 111 v111x345) 112 v112x348) 113 v113x351) 114 v114x354) 115 v115x356) 4 (.bool false)) H355)
      (ob (vIx 1 (σ307 12) (σ307 88)) fun v119x357 =>
    ob (vLoad v119x357 H355) fun v120x358 =>
    ob (vInt .add (σ307 17) v120x358) fun v121x359 =>
    ob (vInt .add (σ307 88) (.int .i64 1)) fun v122x360 =>
    Q307 .normal (up (up (up (up (up (up (up (up (up (up (up (up (up (up (up (up (up (up (up (up (up (up (up (up (up (up (up (up (up (up (up (up (up (up (up (up (up σ307 89 v89x308) 90 (σ307 88)) 18 (σ307 88)) 91 (σ307 11)) 92 (σ307 88)) 93 v93x309) 94 v94x310) 95 (σ307 14)) 96 (σ307 88)) 97 v97x311) 98 v98x312) 99 v99x313) 100 v99x313) 101 v101x315) 102 v102x318) 103 v103x321) 104 v104x324) 105 v105x327) 106 v106x330) 107 v107x333) 108 v108x336) 109 v109x339) 110 v110x342) 111 v111x345) 112 v112x348) 113 v113x351) 114 v114x354) 115 v115x356) 116 (σ307 17)) 117 (σ307 12)) 118 (σ307 88)) 119 v119x357) 120 v120x358) 121 v121x359) 17 v121x359) 122 v122x360) 88 v122x360) H355))
      (Q307 (.exit 0) (up σ307 89 v89x308) H307)) (blkQ 0 (thenQ J95 (retQ prg [(.tmp 4)] K))) (up (up (up (up (up (up (up (up (up (up (up (up (up (up (up (up (up (up (up (up (up (up (up (up (up (up (up (up (up (up (up (up (up (up (up (up (up (up (up (up (up (up (up (up (up (up (up (up (up (up (up (up (up (up (up (up (up (up (up (up (up (up (up (up (up (up (up (up (up (up (up (up (up (up (up (up (up (up (up (S0 [a0, a1]) 4 (.bool false)) 24 a0) 25 a1) 26 v26x1) 27 a1) 28 v28x3) 29 v29x5) 5 v29x5) 30 a1) 31 v31x6) 32 v32x8) 6 v32x8) 33 a0) 34 v29x5) 35 v32x8) 36 v36x9) 7 v7x11) 38 v38x14) 39 v39x15) 37 v39x15) 40 v40x17) 41 v41x18) 42 v42x19) 8 v40x17) 9 v41x18) 10 v42x19) 44 v44x20) 45 v45x21) 43 v45x21) 46 v46x23) 47 v47x24) 48 v48x25) 11 v46x23) 12 v47x24) 13 v48x25) 50 v50x26) 51 v51x27) 49 v51x27) 52 v52x29) 53 v53x30) 54 v54x31) 14 v52x29) 15 v53x30) 16 v54x31) 55 v42x19) 56 v56x32) 57 v56x32) 58 v58x34) 59 v59x37) 60 v60x39) 61 v60x39) 62 v62x41) 63 v63x44) 64 v64x46) 65 v64x46) 66 v66x48) 67 v67x51) 68 v68x54) 69 v69x57) 70 v70x60) 71 v71x63) 72 v72x65) 73 v72x65) 74 v74x67) 75 v75x70) 76 v76x73) 77 v77x76) 78 v78x79) 79 v79x81) 80 v79x81) 81 v81x83) 82 v82x86) 83 v83x89) 84 v84x92) 85 v85x94) 17 (.int .i64 0)) 86 v46x23) 87 v87x306) 88 (.int .i64 0)) H93))
def O.laws_FnParts : Nat → Nat × List Nat := fun i => bif Nat.beq i 24 then (0, [0, 1, 2, 3, 4, 5, 6, 7, 8, 9, 10, 11, 12, 13, 14, 15, 16, 17, 18, 19, 20, 21, 22, 23, 24, 25, 26, 27, 28, 29, 30, 31, 32, 33, 34, 35, 36, 37, 38, 39, 40, 41, 42, 43, 44, 45, 46, 47, 48, 49, 50, 51, 52, 53, 54, 55, 56, 57, 58, 59, 60]) else bif Nat.beq i 29 then (0, [0, 1, 2, 3, 4, 5, 6, 7, 8, 9, 10, 11, 12, 13, 14, 15, 16, 17, 18, 19, 20, 21, 22, 23, 24]) else bif Nat.beq i 30 then (0, [0, 1, 2, 3, 4, 5, 6, 7, 8, 9, 10, 11]) else bif Nat.beq i 15 then (0, [0, 1, 2, 3, 4, 5, 6, 7, 8, 9, 10, 11, 12, 13, 14, 15, 16, 17, 18, 19, 20, 21, 22, 23, 24]) else (0, [])
theorem R.laws_FnParts {a0 a1 : Value} {H : Hp} {K : Value → Hp → Prop} (h : F.laws_FnParts a0 a1 H K) : HT prg I.laws_FnParts [a0, a1].toArray H K :=
  HT_of_fev O.laws_FnParts mixed Tryz.func3 (by kernel_rfl) (Eq.mpr (by kernel_rfl : fev prg O.laws_FnParts Tryz.f3 [a0, a1] H K = F.laws_FnParts a0 a1 H K) h)

end Go.Proofs.YthocjpfibegjcaaGreatDoor
