/- Functions' texts over a partial heap. -/
import Derived.Test.YtialllbbbpmkbaaDoorG0
namespace Go.Proofs.YtialllbbbpmkbaaDoor
open HL
set_option linter.unusedVariables false
set_option maxRecDepth 100000
set_option maxHeartbeats 4000000
/-! loop.example/g01381/spec.l05Turn: function 49 -/
def F.spec_l05Turn (a0 : Value) (H : Hp) (K : Value → Hp → Prop) : Prop :=
  nw #[(.int .i64 0), (.int .i64 0), (.slice none 0 0)] 28 H fun v2x1 H2 =>
  ob (vNilC a0) fun v7x3 =>
  ob (vFa 1 v7x3) fun v8x4 =>
  ob (vLoad v8x4 H2) fun v9x5 =>
  ob (vNilC a0) fun v11x6 =>
  ob (vFa 0 v11x6) fun v12x7 =>
  ob (vLoad v12x7 H2) fun v13x8 =>
  HT prg I.spec_l04New [v9x5, v13x8].toArray H2 fun v14x9 H10 =>
  Le H2 H10 ∧ (nw #[(.int .i64 0), (.int .i64 0), (.slice none 0 0)] 28 H10 fun v3x11 H12 =>
  st 3 v3x11 v14x9 H12 fun H13 =>
  jn (fun σ14 H14 =>
    ob (vLoadN 3 (σ14 3) H14) fun v56x15 =>
    st 3 (σ14 2) v56x15 H14 fun H16 =>
    ob (vLoadN 3 (σ14 2) H16) fun u17 => K u17 H16) fun J14 =>
  lpE (fun Q18 σ18 H18 =>
    ob (vFa 0 (σ18 3)) fun v16x19 =>
    ob (vLoad v16x19 H18) fun v17x20 =>
    ob (vInt .lss (σ18 4) v17x20) fun v18x21 =>
    cnd v18x21
      (jn (fun σ22 H22 =>
      ob (vInt .add (σ22 4) (.int .i64 1)) fun v20x23 =>
      Q18 .normal (up (up (up σ22 19 (σ22 4)) 20 v20x23) 4 v20x23) H22) fun J22 =>
    lpE (fun Q24 σ24 H24 =>
      ob (vFa 1 (σ24 3)) fun v22x25 =>
      ob (vLoad v22x25 H24) fun v23x26 =>
      ob (vInt .lss (σ24 5) v23x26) fun v24x27 =>
      cnd v24x27
        (ob (vFa 2 (σ24 3)) fun v27x28 =>
      ob (vLoad v27x28 H24) fun v28x29 =>
      ob (vFa 1 (σ24 3)) fun v30x30 =>
      ob (vLoad v30x30 H24) fun v31x31 =>
      ob (vInt .mul (σ24 4) v31x31) fun v32x32 =>
      ob (vInt .add v32x32 (σ24 5)) fun v34x33 =>
      ob (vNilC (σ24 0)) fun v36x34 =>
      ob (vFa 2 v36x34) fun v37x35 =>
      ob (vLoad v37x35 H24) fun v38x36 =>
      ob (vNilC (σ24 0)) fun v40x37 =>
      ob (vFa 0 v40x37) fun v41x38 =>
      ob (vLoad v41x38 H24) fun v42x39 =>
      ob (vInt .sub v42x39 (.int .i64 1)) fun v43x40 =>
      ob (vInt .sub v43x40 (σ24 5)) fun v45x41 =>
      ob (vNilC (σ24 0)) fun v47x42 =>
      ob (vFa 1 v47x42) fun v48x43 =>
      ob (vLoad v48x43 H24) fun v49x44 =>
      ob (vInt .mul v45x41 v49x44) fun v50x45 =>
      ob (vInt .add v50x45 (σ24 4)) fun v52x46 =>
      ob (vIx 1 v38x36 v52x46) fun v53x47 =>
      ob (vLoad v53x47 H24) fun v54x48 =>
      ob (vIx 1 v28x29 v34x33) fun v55x49 =>
      st 1 v55x49 v54x48 H24 fun H50 =>
      ob (vInt .add (σ24 5) (.int .i64 1)) fun v26x51 =>
      Q24 .normal (up (up (up (up (up (up (up (up (up (up (up (up (up (up (up (up (up (up (up (up (up (up (up (up (up (up (up (up (up (up (up (up (up (up (up (up σ24 21 (σ24 5)) 22 v22x25) 23 v23x26) 24 v24x27) 27 v27x28) 28 v28x29) 29 (σ24 4)) 30 v30x30) 31 v31x31) 32 v32x32) 33 (σ24 5)) 34 v34x33) 35 (σ24 0)) 36 v36x34) 37 v37x35) 38 v38x36) 39 (σ24 0)) 40 v40x37) 41 v41x38) 42 v42x39) 43 v43x40) 44 (σ24 5)) 45 v45x41) 46 (σ24 0)) 47 v47x42) 48 v48x43) 49 v49x44) 50 v50x45) 51 (σ24 4)) 52 v52x46) 53 v53x47) 54 v54x48) 55 v55x49) 25 (σ24 5)) 26 v26x51) 5 v26x51) H50)
        (Q24 (.exit 2) (up (up (up (up σ24 21 (σ24 5)) 22 v22x25) 23 v23x26) 24 v24x27) H24)) (blkQ 2 (blkQ 1 (thenQ J22 Q18))) (up (up (up (up (up σ18 15 (σ18 4)) 16 v16x19) 17 v17x20) 18 v18x21) 5 (.int .i64 0)) H18)
      (Q18 (.exit 0) (up (up (up (up σ18 15 (σ18 4)) 16 v16x19) 17 v17x20) 18 v18x21) H18)) (blkQ 0 (thenQ J14 (retQ prg [(.cell 2 28)] K))) (up (up (up (up (up (up (up (up (up (up (up (up (S0 [a0]) 2 v2x1) 6 a0) 7 v7x3) 8 v8x4) 9 v9x5) 10 a0) 11 v11x6) 12 v12x7) 13 v13x8) 14 v14x9) 3 v3x11) 4 (.int .i64 0)) H13)
def O.spec_l05Turn : Nat → Nat × List Nat := fun i => bif Nat.beq i 1 then (0, [0, 1, 2, 3, 4, 5, 6, 7, 8, 9, 10]) else bif Nat.beq i 8 then (0, [0, 1, 2, 3, 4, 5, 6, 7, 8, 9, 10, 11, 12, 13, 14, 15, 16, 17, 18, 19, 20, 21, 22, 23, 24, 25, 26, 27, 28, 29]) else (0, [])
theorem R.spec_l05Turn {a0 : Value} {H : Hp} {K : Value → Hp → Prop} (h : F.spec_l05Turn a0 H K) : HT prg I.spec_l05Turn [a0].toArray H K :=
  HT_of_fev O.spec_l05Turn mixed Tryd.func49 (by kernel_rfl) (Eq.mpr (by kernel_rfl : fev prg O.spec_l05Turn Tryd.f49 [a0] H K = F.spec_l05Turn a0 H K) h)

/-! loop.example/g01381/spec.l05Mirror: function 50 -/
def F.spec_l05Mirror (a0 : Value) (H : Hp) (K : Value → Hp → Prop) : Prop :=
  nw #[(.int .i64 0), (.int .i64 0), (.slice none 0 0)] 28 H fun v2x1 H2 =>
  ob (vNilC a0) fun v7x3 =>
  ob (vFa 0 v7x3) fun v8x4 =>
  ob (vLoad v8x4 H2) fun v9x5 =>
  ob (vNilC a0) fun v11x6 =>
  ob (vFa 1 v11x6) fun v12x7 =>
  ob (vLoad v12x7 H2) fun v13x8 =>
  HT prg I.spec_l04New [v9x5, v13x8].toArray H2 fun v14x9 H10 =>
  Le H2 H10 ∧ (nw #[(.int .i64 0), (.int .i64 0), (.slice none 0 0)] 28 H10 fun v3x11 H12 =>
  st 3 v3x11 v14x9 H12 fun H13 =>
  jn (fun σ14 H14 =>
    ob (vLoadN 3 (σ14 3) H14) fun v58x15 =>
    st 3 (σ14 2) v58x15 H14 fun H16 =>
    ob (vLoadN 3 (σ14 2) H16) fun u17 => K u17 H16) fun J14 =>
  lpE (fun Q18 σ18 H18 =>
    ob (vNilC (σ18 0)) fun v17x19 =>
    ob (vFa 0 v17x19) fun v18x20 =>
    ob (vLoad v18x20 H18) fun v19x21 =>
    ob (vInt .lss (σ18 4) v19x21) fun v20x22 =>
    cnd v20x22
      (jn (fun σ23 H23 =>
      ob (vInt .add (σ23 4) (.int .i64 1)) fun v22x24 =>
      Q18 .normal (up (up (up σ23 21 (σ23 4)) 22 v22x24) 4 v22x24) H23) fun J23 =>
    lpE (fun Q25 σ25 H25 =>
      ob (vNilC (σ25 0)) fun v25x26 =>
      ob (vFa 1 v25x26) fun v26x27 =>
      ob (vLoad v26x27 H25) fun v27x28 =>
      ob (vInt .lss (σ25 5) v27x28) fun v28x29 =>
      cnd v28x29
        (ob (vFa 2 (σ25 3)) fun v31x30 =>
      ob (vLoad v31x30 H25) fun v32x31 =>
      ob (vNilC (σ25 0)) fun v35x32 =>
      ob (vFa 1 v35x32) fun v36x33 =>
      ob (vLoad v36x33 H25) fun v37x34 =>
      ob (vInt .mul (σ25 4) v37x34) fun v38x35 =>
      ob (vInt .add v38x35 (σ25 5)) fun v40x36 =>
      ob (vNilC (σ25 0)) fun v42x37 =>
      ob (vFa 2 v42x37) fun v43x38 =>
      ob (vLoad v43x38 H25) fun v44x39 =>
      ob (vInt .add (σ25 4) (.int .i64 1)) fun v46x40 =>
      ob (vNilC (σ25 0)) fun v48x41 =>
      ob (vFa 1 v48x41) fun v49x42 =>
      ob (vLoad v49x42 H25) fun v50x43 =>
      ob (vInt .mul v46x40 v50x43) fun v51x44 =>
      ob (vInt .sub v51x44 (.int .i64 1)) fun v52x45 =>
      ob (vInt .sub v52x45 (σ25 5)) fun v54x46 =>
      ob (vIx 1 v44x39 v54x46) fun v55x47 =>
      ob (vLoad v55x47 H25) fun v56x48 =>
      ob (vIx 1 v32x31 v40x36) fun v57x49 =>
      st 1 v57x49 v56x48 H25 fun H50 =>
      ob (vInt .add (σ25 5) (.int .i64 1)) fun v30x51 =>
      Q25 .normal (up (up (up (up (up (up (up (up (up (up (up (up (up (up (up (up (up (up (up (up (up (up (up (up (up (up (up (up (up (up (up (up (up (up (up (up σ25 23 (σ25 5)) 24 (σ25 0)) 25 v25x26) 26 v26x27) 27 v27x28) 28 v28x29) 31 v31x30) 32 v32x31) 33 (σ25 4)) 34 (σ25 0)) 35 v35x32) 36 v36x33) 37 v37x34) 38 v38x35) 39 (σ25 5)) 40 v40x36) 41 (σ25 0)) 42 v42x37) 43 v43x38) 44 v44x39) 45 (σ25 4)) 46 v46x40) 47 (σ25 0)) 48 v48x41) 49 v49x42) 50 v50x43) 51 v51x44) 52 v52x45) 53 (σ25 5)) 54 v54x46) 55 v55x47) 56 v56x48) 57 v57x49) 29 (σ25 5)) 30 v30x51) 5 v30x51) H50)
        (Q25 (.exit 2) (up (up (up (up (up (up σ25 23 (σ25 5)) 24 (σ25 0)) 25 v25x26) 26 v26x27) 27 v27x28) 28 v28x29) H25)) (blkQ 2 (blkQ 1 (thenQ J23 Q18))) (up (up (up (up (up (up (up σ18 15 (σ18 4)) 16 (σ18 0)) 17 v17x19) 18 v18x20) 19 v19x21) 20 v20x22) 5 (.int .i64 0)) H18)
      (Q18 (.exit 0) (up (up (up (up (up (up σ18 15 (σ18 4)) 16 (σ18 0)) 17 v17x19) 18 v18x20) 19 v19x21) 20 v20x22) H18)) (blkQ 0 (thenQ J14 (retQ prg [(.cell 2 28)] K))) (up (up (up (up (up (up (up (up (up (up (up (up (S0 [a0]) 2 v2x1) 6 a0) 7 v7x3) 8 v8x4) 9 v9x5) 10 a0) 11 v11x6) 12 v12x7) 13 v13x8) 14 v14x9) 3 v3x11) 4 (.int .i64 0)) H13)
def O.spec_l05Mirror : Nat → Nat × List Nat := fun i => bif Nat.beq i 1 then (0, [0, 1, 2, 3, 4, 5, 6, 7, 8, 9, 10]) else bif Nat.beq i 8 then (0, [0, 1, 2, 3, 4, 5, 6, 7, 8, 9, 10, 11, 12, 13, 14, 15, 16, 17, 18, 19, 20, 21, 22, 23, 24, 25, 26, 27]) else (0, [])
theorem R.spec_l05Mirror {a0 : Value} {H : Hp} {K : Value → Hp → Prop} (h : F.spec_l05Mirror a0 H K) : HT prg I.spec_l05Mirror [a0].toArray H K :=
  HT_of_fev O.spec_l05Mirror mixed Tryd.func50 (by kernel_rfl) (Eq.mpr (by kernel_rfl : fev prg O.spec_l05Mirror Tryd.f50 [a0] H K = F.spec_l05Mirror a0 H K) h)

/-! loop.example/g01381/spec.l05Images: function 33 -/
def F.spec_l05Images (a0 : Value) (H : Hp) (K : Value → Hp → Prop) : Prop :=
  bS 3 0 #[(.int .i64 0), (.int .i64 0), (.slice none 0 0)] 28 [] H fun v7x1 H2 =>
  ob (vNilC a0) fun v10x3 =>
  ob (vFa 0 v10x3) fun v11x4 =>
  ob (vLoad v11x4 H2) fun v12x5 =>
  ob (vNilC a0) fun v14x6 =>
  ob (vFa 1 v14x6) fun v15x7 =>
  ob (vLoad v15x7 H2) fun v16x8 =>
  HT prg I.spec_l05Cut [a0, (.int .i64 0), (.int .i64 0), v12x5, v16x8].toArray H2 fun v17x9 H10 =>
  Le H2 H10 ∧ (nw #[(.int .i64 0), (.int .i64 0), (.slice none 0 0)] 28 H10 fun v4x11 H12 =>
  st 3 v4x11 v17x9 H12 fun H13 =>
  jn (fun σ14 H14 =>
    K (σ14 3) H14) fun J14 =>
  lpE (fun Q15 σ15 H15 =>
    ob (vInt .lss (σ15 5) (.int .i64 2)) fun v19x16 =>
    cnd v19x16
      (jn (fun σ17 H17 =>
      ob (vInt .add (σ17 5) (.int .i64 1)) fun v21x18 =>
      Q15 .normal (up (up (up σ17 20 (σ17 5)) 21 v21x18) 5 v21x18) H17) fun J17 =>
    jn (fun σ19 H19 =>
      HT prg I.spec_l05Mirror [(σ19 0)].toArray H19 fun v32x20 H21 =>
      st 3 (σ19 4) v32x20 H21 fun H22 =>
      J17 (up (up σ19 31 (σ19 0)) 32 v32x20) H22) fun J19 =>
    lpE (fun Q23 σ23 H23 =>
      ob (vInt .lss (σ23 6) (.int .i64 4)) fun v23x24 =>
      cnd v23x24
        (ob (vLoadN 3 (σ23 4) H23) fun v27x25 =>
      bS 3 1 #[(.int .i64 0), (.int .i64 0), (.slice none 0 0)] 28 [(0, v27x25)] H23 fun v28x26 H27 =>
      apd 3 40 #[(.int .i64 0), (.int .i64 0), (.slice none 0 0)] 28 (σ23 3) v28x26 H27 fun v29x28 H29 =>
      HT prg I.spec_l05Turn [(σ23 4)].toArray H29 fun v30x30 H31 =>
      st 3 (σ23 4) v30x30 H31 fun H32 =>
      ob (vInt .add (σ23 6) (.int .i64 1)) fun v25x33 =>
      Q23 .normal (up (up (up (up (up (up (up (up (up (up (up σ23 22 (σ23 6)) 23 v23x24) 26 (σ23 3)) 27 v27x25) 28 v28x26) 29 v29x28) 3 v29x28) 30 v30x30) 24 (σ23 6)) 25 v25x33) 6 v25x33) H32)
        (Q23 (.exit 2) (up (up σ23 22 (σ23 6)) 23 v23x24) H23)) (blkQ 2 (thenQ J19 (blkQ 1 (thenQ J17 Q15)))) (up (up (up σ15 18 (σ15 5)) 19 v19x16) 6 (.int .i64 0)) H15)
      (Q15 (.exit 0) (up (up σ15 18 (σ15 5)) 19 v19x16) H15)) (blkQ 0 (thenQ J14 (retQ prg [(.tmp 2)] K))) (up (up (up (up (up (up (up (up (up (up (up (up (up (up (up (S0 [a0]) 2 (.slice none 0 0)) 7 v7x1) 3 v7x1) 8 a0) 9 a0) 10 v10x3) 11 v11x4) 12 v12x5) 13 a0) 14 v14x6) 15 v15x7) 16 v16x8) 17 v17x9) 4 v4x11) 5 (.int .i64 0)) H13)
def O.spec_l05Images : Nat → Nat × List Nat := fun i => bif Nat.beq i 2 then (0, [0, 1, 2, 3, 4, 5, 6, 7, 8, 9, 10, 11]) else (0, [])
theorem R.spec_l05Images {a0 : Value} {H : Hp} {K : Value → Hp → Prop} (h : F.spec_l05Images a0 H K) : HT prg I.spec_l05Images [a0].toArray H K :=
  HT_of_fev O.spec_l05Images mixed Tryd.func33 (by kernel_rfl) (Eq.mpr (by kernel_rfl : fev prg O.spec_l05Images Tryd.f33 [a0] H K = F.spec_l05Images a0 H K) h)

/-! loop.example/g01381/spec.l05Name: function 22 -/
def F.spec_l05Name (a0 : Value) (H : Hp) (K : Value → Hp → Prop) : Prop :=
  HT prg I.spec_l05Trim [a0].toArray H fun v13x1 H2 =>
  ob (vExt v13x1 0) fun v14x3 =>
  ob (vExt v13x1 1) fun v15x4 =>
  ob (vExt v13x1 2) fun v16x5 =>
  ob (vExt v13x1 3) fun v17x6 =>
  nw #[(.int .i64 0), (.int .i64 0), (.slice none 0 0)] 28 H2 fun v3x7 H8 =>
  st 3 v3x7 v14x3 H8 fun H9 =>
  ob (vUn .not v17x6) fun v19x10 =>
  cnd v19x10
    (K (.string ⟨#[]⟩) H9)
    (HT prg I.spec_l05Images [v3x7].toArray H9 fun v20x11 H12 =>
  jn (fun σ13 H13 =>
    K (σ13 8) H13) fun J13 =>
  ob (vLenSl v20x11) fun v22x14 =>
  lpE (fun Q15 σ15 H15 =>
    ob (vInt .lss (σ15 23) (σ15 22)) fun v24x16 =>
    cnd v24x16
      (ob (vIx 3 (σ15 7) (σ15 23)) fun v28x17 =>
    HT prg I.spec_l05Write [v28x17].toArray H15 fun v29x18 H19 =>
    ob (vInt .eql (σ15 23) (.int .i64 0)) fun v31x20 =>
    gop v31x20 false (fun K21 => K21 v29x18 H19) H19 fun v33x22 H23 =>
    gop v31x20 false (fun K24 => K24 (σ15 8) H23) H23 fun v34x25 H26 =>
    gop v31x20 false (fun K27 => ob (vStr .lss v33x22 v34x25) fun u => K27 u H26) H26 fun v35x28 H29 =>
    ob (vPick v31x20 (.bool true) v35x28) fun v36x30 =>
    cnd v36x30
      (ob (vInt .add (σ15 23) (.int .i64 1)) fun v38x31 =>
    Q15 .normal (up (up (up (up (up (up (up (up (up (up (up (up (up (up (up (up (up (up (up σ15 24 v24x16) 25 (σ15 23)) 9 (σ15 23)) 26 (σ15 7)) 27 (σ15 23)) 28 v28x17) 29 v29x18) 10 v29x18) 30 (σ15 23)) 31 v31x20) 32 v31x20) 33 v33x22) 34 v34x25) 35 v35x28) 36 v36x30) 37 v29x18) 8 v29x18) 38 v38x31) 23 v38x31) H29)
      (ob (vInt .add (σ15 23) (.int .i64 1)) fun v38x32 =>
    Q15 .normal (up (up (up (up (up (up (up (up (up (up (up (up (up (up (up (up (up σ15 24 v24x16) 25 (σ15 23)) 9 (σ15 23)) 26 (σ15 7)) 27 (σ15 23)) 28 v28x17) 29 v29x18) 10 v29x18) 30 (σ15 23)) 31 v31x20) 32 v31x20) 33 v33x22) 34 v34x25) 35 v35x28) 36 v36x30) 38 v38x32) 23 v38x32) H29))
      (Q15 (.exit 0) (up σ15 24 v24x16) H15)) (blkQ 0 (thenQ J13 (retQ prg [(.tmp 2)] K))) (up (up (up (up (up (up (up (up (up (up (up (up (up (up (up (up (up (up (up (up (S0 [a0]) 2 (.string ⟨#[]⟩)) 12 a0) 13 v13x1) 11 v13x1) 14 v14x3) 15 v15x4) 16 v16x5) 17 v17x6) 3 v3x7) 4 v15x4) 5 v16x5) 6 v17x6) 18 v17x6) 19 v19x10) 20 v20x11) 7 v20x11) 8 (.string ⟨#[]⟩)) 21 v20x11) 22 v22x14) 23 (.int .i64 0)) H12)
def O.spec_l05Name : Nat → Nat × List Nat := fun i => (0, [])
theorem R.spec_l05Name {a0 : Value} {H : Hp} {K : Value → Hp → Prop} (h : F.spec_l05Name a0 H K) : HT prg I.spec_l05Name [a0].toArray H K :=
  HT_of_fev O.spec_l05Name mixed Tryd.func22 (by kernel_rfl) (Eq.mpr (by kernel_rfl : fev prg O.spec_l05Name Tryd.f22 [a0] H K = F.spec_l05Name a0 H K) h)

/-! loop.example/g01381/spec.NameOf: function 11 -/
def F.spec_NameOf (a0 : Value) (H : Hp) (K : Value → Hp → Prop) : Prop :=
  nw (a0 : Value).cells 28 H fun v1x1 H2 =>
  HT prg I.spec_l04Plain [v1x1].toArray H2 fun v4x3 H4 =>
  ob (vUn .not v4x3) fun v5x5 =>
  cnd v5x5
    (K (.tuple #[(.string ⟨#[]⟩), (.bool false)]) H4)
    (HT prg I.spec_l05Name [v1x1].toArray H4 fun v6x6 H7 =>
  K (.tuple #[v6x6, (.bool true)]) H7)
def O.spec_NameOf : Nat → Nat × List Nat := fun i => (0, [])
theorem R.spec_NameOf {a0 : Value} {H : Hp} {K : Value → Hp → Prop} (h : F.spec_NameOf a0 H K) : HT prg I.spec_NameOf [a0].toArray H K :=
  HT_of_fev O.spec_NameOf mixed Tryd.func11 (by kernel_rfl) (Eq.mpr (by kernel_rfl : fev prg O.spec_NameOf Tryd.f11 [a0] H K = F.spec_NameOf a0 H K) h)

/-! loop.example/g01381/impl.madeField: function 59 -/
def F.impl_madeField (a0 a1 a2 : Value) (H : Hp) (K : Value → Hp → Prop) : Prop :=
  nw #[(.int .i64 0), (.int .i64 0), (.slice none 0 0)] 28 H fun v6x1 H2 =>
  ob (vBuild [(0, 1), (1, 1), (2, 1)] (.agg #[(.int .i64 0), (.int .i64 0), (.slice none 0 0)]) [(0, a0), (1, a1)]) fun v12x3 =>
  nw #[(.int .i64 0), (.int .i64 0), (.slice none 0 0)] 28 H2 fun v7x4 H5 =>
  st 3 v7x4 v12x3 H5 fun H6 =>
  jn (fun σ7 H7 =>
    ob (vLoadN 3 (σ7 7) H7) fun v32x8 =>
    st 3 (σ7 6) v32x8 H7 fun H9 =>
    ob (vLoadN 3 (σ7 6) H9) fun u10 => K u10 H9) fun J7 =>
  lpE (fun Q11 σ11 H11 =>
    ob (vInt .lss (σ11 14) (σ11 13)) fun v15x12 =>
    cnd v15x12
      (jn (fun σ13 H13 =>
      ob (vInt .add (σ13 14) (.int .i64 1)) fun v31x14 =>
      Q11 .normal (up (up σ13 31 v31x14) 14 v31x14) H13) fun J13 =>
    lpE (fun Q15 σ15 H15 =>
      ob (vInt .lss (σ15 18) (σ15 17)) fun v19x16 =>
      cnd v19x16
        (ob (vFa 2 (σ15 7)) fun v21x17 =>
      ob (vLoad v21x17 H15) fun v22x18 =>
      callV prg (σ15 2) [(σ15 8), (σ15 18)] H15 fun v26x19 H20 =>
      Le H15 H20 ∧ (bS 1 1 #[(.int .i64 0)] 2 [(0, v26x19)] H20 fun v27x21 H22 =>
      apd 1 8 #[(.int .i64 0)] 2 v22x18 v27x21 H22 fun v28x23 H24 =>
      ob (vFa 2 (σ15 7)) fun v29x25 =>
      st 1 v29x25 v28x23 H24 fun H26 =>
      ob (vInt .add (σ15 18) (.int .i64 1)) fun v30x27 =>
      Q15 .normal (up (up (up (up (up (up (up (up (up (up (up (up (up (up σ15 19 v19x16) 20 (σ15 18)) 9 (σ15 18)) 21 v21x17) 22 v22x18) 23 (σ15 2)) 24 (σ15 8)) 25 (σ15 18)) 26 v26x19) 27 v27x21) 28 v28x23) 29 v29x25) 30 v30x27) 18 v30x27) H26))
        (Q15 (.exit 2) (up σ15 19 v19x16) H15)) (blkQ 2 (blkQ 1 (thenQ J13 Q11))) (up (up (up (up (up σ11 15 v15x12) 16 (σ11 14)) 8 (σ11 14)) 17 (σ11 1)) 18 (.int .i64 0)) H11)
      (Q11 (.exit 0) (up σ11 15 v15x12) H11)) (blkQ 0 (thenQ J7 (retQ prg [(.cell 6 28)] K))) (up (up (up (up (up (up (up (S0 [a0, a1, a2]) 6 v6x1) 10 a0) 11 a1) 12 v12x3) 7 v7x4) 13 a0) 14 (.int .i64 0)) H6
def O.impl_madeField : Nat → Nat × List Nat := fun i => bif Nat.beq i 8 then (0, [0, 1, 2, 3, 4, 5, 6, 7, 8, 9]) else (0, [])
theorem R.impl_madeField {a0 a1 a2 : Value} {H : Hp} {K : Value → Hp → Prop} (h : F.impl_madeField a0 a1 a2 H K) : HT prg I.impl_madeField [a0, a1, a2].toArray H K :=
  HT_of_fev O.impl_madeField mixed Tryd.func59 (by kernel_rfl) (Eq.mpr (by kernel_rfl : fev prg O.impl_madeField Tryd.f59 [a0, a1, a2] H K = F.impl_madeField a0 a1 a2 H K) h)

/-! loop.example/g01381/impl.madeField: function 59 -/
def F.impl_madeFieldX (a0 a1 a2 : Value) (H : Hp) (K : Value → Hp → Prop) : Prop :=
  nw #[(.int .i64 0), (.int .i64 0), (.slice none 0 0)] 28 H fun v6x1 H2 =>
  ob (vBuild [(0, 1), (1, 1), (2, 1)] (.agg #[(.int .i64 0), (.int .i64 0), (.slice none 0 0)]) [(0, a0), (1, a1)]) fun v12x3 =>
  nw #[(.int .i64 0), (.int .i64 0), (.slice none 0 0)] 28 H2 fun v7x4 H5 =>
  st 3 v7x4 v12x3 H5 fun H6 =>
  jn (fun σ7 H7 =>
    ob (vLoadN 3 (σ7 7) H7) fun v32x8 =>
    st 3 (σ7 6) v32x8 H7 fun H9 =>
    ob (vLoadN 3 (σ7 6) H9) fun u10 => K u10 H9) fun J7 =>
  lpE (fun Q11 σ11 H11 =>
    ob (vInt .lss (σ11 14) (σ11 13)) fun v15x12 =>
    cnd v15x12
      (jn (fun σ13 H13 =>
      ob (vInt .add (σ13 14) (.int .i64 1)) fun v31x14 =>
      Q11 .normal (up (up σ13 31 v31x14) 14 v31x14) H13) fun J13 =>
    lpE (fun Q15 σ15 H15 =>
      ob (vInt .lss (σ15 18) (σ15 17)) fun v19x16 =>
      cnd v19x16
        ((ob (vFa 2 (σ15 7)) fun v21x17 =>
      ob (vLoad v21x17 H15) fun v22x18 =>
      callV prg (σ15 2) [(σ15 8), (σ15 18)] H15 fun v26x19 H20 =>
      bS 1 1 #[(.int .i64 0)] 2 [(0, v26x19)] H20 fun v27x21 H22 =>
      apd 1 8 #[(.int .i64 0)] 2 v22x18 v27x21 H22 fun v28x23 H24 =>
      ob (vFa 2 (σ15 7)) fun v29x25 =>
      st 1 v29x25 v28x23 H24 fun H26 =>
      ob (vInt .add (σ15 18) (.int .i64 1)) fun v30x27 =>
      Q15 .normal (up (up (up (up (up (up (up (up (up (up (up (up (up (up σ15 19 v19x16) 20 (σ15 18)) 9 (σ15 18)) 21 v21x17) 22 v22x18) 23 (σ15 2)) 24 (σ15 8)) 25 (σ15 18)) 26 v26x19) 27 v27x21) 28 v28x23) 29 v29x25) 30 v30x27) 18 v30x27) H26) ∧ (ob (vFa 2 (σ15 7)) fun v21x28 =>
      callV prg (σ15 2) [(σ15 8), (σ15 18)] H15 fun v26x29 H30 =>
      ob (vLoad v21x28 H30) fun v22x31 =>
      bS 1 1 #[(.int .i64 0)] 2 [(0, v26x29)] H30 fun v27x32 H33 =>
      apd 1 8 #[(.int .i64 0)] 2 v22x31 v27x32 H33 fun v28x34 H35 =>
      ob (vFa 2 (σ15 7)) fun v29x36 =>
      st 1 v29x36 v28x34 H35 fun H37 =>
      ob (vInt .add (σ15 18) (.int .i64 1)) fun v30x38 =>
      Q15 .normal (up (up (up (up (up (up (up (up (up (up (up (up (up (up σ15 19 v19x16) 20 (σ15 18)) 9 (σ15 18)) 21 v21x28) 23 (σ15 2)) 24 (σ15 8)) 25 (σ15 18)) 26 v26x29) 22 v22x31) 27 v27x32) 28 v28x34) 29 v29x36) 30 v30x38) 18 v30x38) H37))
        (Q15 (.exit 2) (up σ15 19 v19x16) H15)) (blkQ 2 (blkQ 1 (thenQ J13 Q11))) (up (up (up (up (up σ11 15 v15x12) 16 (σ11 14)) 8 (σ11 14)) 17 (σ11 1)) 18 (.int .i64 0)) H11)
      (Q11 (.exit 0) (up σ11 15 v15x12) H11)) (blkQ 0 (thenQ J7 (retQ prg [(.cell 6 28)] K))) (up (up (up (up (up (up (up (S0 [a0, a1, a2]) 6 v6x1) 10 a0) 11 a1) 12 v12x3) 7 v7x4) 13 a0) 14 (.int .i64 0)) H6
def O.impl_madeFieldX : Nat → Nat × List Nat := fun i => bif Nat.beq i 8 then (2, [1001, 1005, 0, 1, 2, 3, 4, 5, 6, 7, 8, 9, 0, 2, 3, 4, 5, 1, 6, 7, 8, 9]) else (0, [])
theorem R.impl_madeFieldX {a0 a1 a2 : Value} {H : Hp} {K : Value → Hp → Prop} (h : F.impl_madeFieldX a0 a1 a2 H K) : HT prg I.impl_madeField [a0, a1, a2].toArray H K :=
  HT_of_fev O.impl_madeFieldX mixed Tryd.func59 (by kernel_rfl) (Eq.mpr (by kernel_rfl : fev prg O.impl_madeFieldX Tryd.f59 [a0, a1, a2] H K = F.impl_madeFieldX a0 a1 a2 H K) h)

/-! (loop.example/g01381/impl.Field).at: function 61 -/
def F.impl_Field_at (a0 a1 a2 : Value) (H : Hp) (K : Value → Hp → Prop) : Prop :=
  nw (a0 : Value).cells 28 H fun v3x1 H2 =>
  ob (vFa 2 v3x1) fun v7x3 =>
  ob (vLoad v7x3 H2) fun v8x4 =>
  ob (vFa 1 v3x1) fun v10x5 =>
  ob (vLoad v10x5 H2) fun v11x6 =>
  ob (vInt .mul a1 v11x6) fun v12x7 =>
  ob (vInt .add v12x7 a2) fun v14x8 =>
  ob (vIx 1 v8x4 v14x8) fun v15x9 =>
  ob (vLoad v15x9 H2) fun v16x10 =>
  K v16x10 H2
def O.impl_Field_at : Nat → Nat × List Nat := fun i => (0, [])
theorem R.impl_Field_at {a0 a1 a2 : Value} {H : Hp} {K : Value → Hp → Prop} (h : F.impl_Field_at a0 a1 a2 H K) : HT prg I.impl_Field_at [a0, a1, a2].toArray H K :=
  HT_of_fev O.impl_Field_at mixed Tryd.func61 (by kernel_rfl) (Eq.mpr (by kernel_rfl : fev prg O.impl_Field_at Tryd.f61 [a0, a1, a2] H K = F.impl_Field_at a0 a1 a2 H K) h)

/-! (loop.example/g01381/impl.Field).cut$1: function 60 -/
def F.impl_Field_cut_1 (a0 a1 a2 a3 a4 : Value) (H : Hp) (K : Value → Hp → Prop) : Prop :=
  ob (vLoadN 3 a2 H) fun v8x1 =>
  ob (vLoad a3 H) fun v9x2 =>
  ob (vInt .add v9x2 a0) fun v11x3 =>
  ob (vLoad a4 H) fun v12x4 =>
  ob (vInt .add v12x4 a1) fun v14x5 =>
  HT prg I.impl_Field_at [v8x1, v11x3, v14x5].toArray H fun v15x6 H7 =>
  K v15x6 H7
def O.impl_Field_cut_1 : Nat → Nat × List Nat := fun i => (0, [])
theorem R.impl_Field_cut_1 {a0 a1 a2 a3 a4 : Value} {H : Hp} {K : Value → Hp → Prop} (h : F.impl_Field_cut_1 a0 a1 a2 a3 a4 H K) : HT prg I.impl_Field_cut_1 [a0, a1, a2, a3, a4].toArray H K :=
  HT_of_fev O.impl_Field_cut_1 mixed Tryd.func60 (by kernel_rfl) (Eq.mpr (by kernel_rfl : fev prg O.impl_Field_cut_1 Tryd.f60 [a0, a1, a2, a3, a4] H K = F.impl_Field_cut_1 a0 a1 a2 a3 a4 H K) h)

/-! (loop.example/g01381/impl.Field).cut: function 51 -/
def F.impl_Field_cut (a0 a1 a2 a3 a4 : Value) (H : Hp) (K : Value → Hp → Prop) : Prop :=
  nw (a0 : Value).cells 28 H fun v5x1 H2 =>
  nw (a1 : Value).cells 2 H2 fun v6x3 H4 =>
  nw (a2 : Value).cells 2 H4 fun v7x5 H6 =>
  nw #[(.int .i64 0), (.int .i64 0), (.slice none 0 0)] 28 H6 fun v10x7 H8 =>
  HT prg I.impl_madeField [a3, a4, (.func (.func I.impl_Field_cut_1) #[] #[v5x1, v6x3, v7x5])].toArray H8 fun v14x9 H10 =>
  st 3 v10x7 v14x9 H10 fun H11 =>
  ob (vLoadN 3 v10x7 H11) fun u12 => K u12 H11
def O.impl_Field_cut : Nat → Nat × List Nat := fun i => (0, [])
theorem R.impl_Field_cut {a0 a1 a2 a3 a4 : Value} {H : Hp} {K : Value → Hp → Prop} (h : F.impl_Field_cut a0 a1 a2 a3 a4 H K) : HT prg I.impl_Field_cut [a0, a1, a2, a3, a4].toArray H K :=
  HT_of_fev O.impl_Field_cut mixed Tryd.func51 (by kernel_rfl) (Eq.mpr (by kernel_rfl : fev prg O.impl_Field_cut Tryd.f51 [a0, a1, a2, a3, a4] H K = F.impl_Field_cut a0 a1 a2 a3 a4 H K) h)

/-! (loop.example/g01381/impl.Field).trimmed: function 34 -/
def F.impl_Field_trimmed (a0 : Value) (H : Hp) (K : Value → Hp → Prop) : Prop :=
  nw (a0 : Value).cells 28 H fun v1x1 H2 =>
  nw #[(.int .i64 0), (.int .i64 0), (.slice none 0 0)] 28 H2 fun v2x3 H4 =>
  ob (vFa 0 v1x1) fun v14x5 =>
  ob (vLoad v14x5 H4) fun v15x6 =>
  ob (vFa 1 v1x1) fun v16x7 =>
  ob (vLoad v16x7 H4) fun v17x8 =>
  jn (fun σ9 H9 =>
    ob (vInt .lss (σ9 8) (.int .i64 0)) fun v50x10 =>
    cnd v50x10
      (ob (vBuild [(0, 1), (1, 1), (2, 1)] (.agg #[(.int .i64 0), (.int .i64 0), (.slice none 0 0)]) []) fun v51x11 =>
      st 3 (σ9 2) v51x11 H9 fun H12 =>
      ob (vLoadN 3 (σ9 2) H12) fun u13 => K (.tuple #[u13, (.int .i64 0), (.int .i64 0), (.bool false)]) H12)
      (ob (vLoadN 3 (σ9 1) H9) fun v52x14 =>
    ob (vInt .sub (σ9 8) (σ9 6)) fun v57x15 =>
    ob (vInt .add v57x15 (.int .i64 1)) fun v58x16 =>
    ob (vInt .sub (σ9 9) (σ9 7)) fun v61x17 =>
    ob (vInt .add v61x17 (.int .i64 1)) fun v62x18 =>
    HT prg I.impl_Field_cut [v52x14, (σ9 6), (σ9 7), v58x16, v62x18].toArray H9 fun v63x19 H20 =>
    st 3 (σ9 2) v63x19 H20 fun H21 =>
    ob (vLoadN 3 (σ9 2) H21) fun u22 => K (.tuple #[u22, (σ9 6), (σ9 7), (.bool true)]) H21)) fun J9 =>
  ob (vFa 2 v1x1) fun v18x23 =>
  ob (vLoad v18x23 H4) fun v19x24 =>
  ob (vLenSl v19x24) fun v20x25 =>
  lpE (fun Q26 σ26 H26 =>
    ob (vInt .lss (σ26 21) (σ26 20)) fun v22x27 =>
    cnd v22x27
      (ob (vIx 1 (σ26 19) (σ26 21)) fun v24x28 =>
    ob (vLoad v24x28 H26) fun v25x29 =>
    ob (vInt .eql v25x29 (.int .i64 1)) fun v27x30 =>
    cnd v27x30
      (ob (vFa 1 (σ26 1)) fun v29x31 =>
      ob (vLoad v29x31 H26) fun v30x32 =>
      ob (vInt .quo (σ26 21) v30x32) fun v31x33 =>
      ob (vFa 1 (σ26 1)) fun v33x34 =>
      ob (vLoad v33x34 H26) fun v34x35 =>
      ob (vInt .rem (σ26 21) v34x35) fun v35x36 =>
      ob (vMx false (σ26 6) [v31x33]) fun v38x37 =>
      ob (vMx false (σ26 7) [v35x36]) fun v41x38 =>
      ob (vMx true (σ26 8) [v31x33]) fun v44x39 =>
      ob (vMx true (σ26 9) [v35x36]) fun v47x40 =>
      ob (vInt .add (σ26 21) (.int .i64 1)) fun v48x41 =>
    Q26 .normal (up (up (up (up (up (up (up (up (up (up (up (up (up (up (up (up (up (up (up (up (up (up (up (up (up (up (up (up (up (up (up (up (up (up (up (up σ26 22 v22x27) 23 (σ26 21)) 24 v24x28) 25 v25x29) 10 (σ26 21)) 11 v25x29) 26 v25x29) 27 v27x30) 28 (σ26 21)) 29 v29x31) 30 v30x32) 31 v31x33) 32 (σ26 21)) 33 v33x34) 34 v34x35) 35 v35x36) 12 v31x33) 13 v35x36) 36 (σ26 6)) 37 v31x33) 38 v38x37) 39 (σ26 7)) 40 v35x36) 41 v41x38) 42 (σ26 8)) 43 v31x33) 44 v44x39) 45 (σ26 9)) 46 v35x36) 47 v47x40) 6 v38x37) 7 v41x38) 8 v44x39) 9 v47x40) 48 v48x41) 21 v48x41) H26)
      (ob (vInt .add (σ26 21) (.int .i64 1)) fun v48x42 =>
    Q26 .normal (up (up (up (up (up (up (up (up (up (up σ26 22 v22x27) 23 (σ26 21)) 24 v24x28) 25 v25x29) 10 (σ26 21)) 11 v25x29) 26 v25x29) 27 v27x30) 48 v48x42) 21 v48x42) H26))
      (Q26 (.exit 0) (up σ26 22 v22x27) H26)) (blkQ 0 (thenQ J9 (retQ prg [(.cell 2 28), (.tmp 3), (.tmp 4), (.tmp 5)] K))) (up (up (up (up (up (up (up (up (up (up (up (up (up (up (up (up (up (S0 [a0]) 1 v1x1) 2 v2x3) 3 (.int .i64 0)) 4 (.int .i64 0)) 5 (.bool false)) 14 v14x5) 15 v15x6) 16 v16x7) 17 v17x8) 6 v15x6) 7 v17x8) 8 (.int .i64 (-1))) 9 (.int .i64 (-1))) 18 v18x23) 19 v19x24) 20 v20x25) 21 (.int .i64 0)) H4
def O.impl_Field_trimmed : Nat → Nat × List Nat := fun i => bif Nat.beq i 1 then (0, [0, 1, 2, 3, 4, 5, 6, 7]) else bif Nat.beq i 6 then (0, [0, 1, 2, 3, 4, 5, 6, 7, 8, 9]) else (0, [])
theorem R.impl_Field_trimmed {a0 : Value} {H : Hp} {K : Value → Hp → Prop} (h : F.impl_Field_trimmed a0 H K) : HT prg I.impl_Field_trimmed [a0].toArray H K :=
  HT_of_fev O.impl_Field_trimmed mixed Tryd.func34 (by kernel_rfl) (Eq.mpr (by kernel_rfl : fev prg O.impl_Field_trimmed Tryd.f34 [a0] H K = F.impl_Field_trimmed a0 H K) h)

/-! slices.Clone[[]int64,int64]: function 62 -/
def F.slices_Clone_int64Zint64 (a0 : Value) (H : Hp) (K : Value → Hp → Prop) : Prop :=
  ob (vSlEq .eql a0 (.slice none 0 0)) fun v4x1 =>
  cnd v4x1
    (K (.slice none 0 0) H)
    (bS 1 0 #[(.int .i64 0)] 2 [] H fun v5x2 H3 =>
  apd 1 8 #[(.int .i64 0)] 2 v5x2 a0 H3 fun v7x4 H5 =>
  K v7x4 H5)
def O.slices_Clone_int64Zint64 : Nat → Nat × List Nat := fun i => (0, [])
theorem R.slices_Clone_int64Zint64 {a0 : Value} {H : Hp} {K : Value → Hp → Prop} (h : F.slices_Clone_int64Zint64 a0 H K) : HT prg I.slices_Clone_int64Zint64 [a0].toArray H K :=
  HT_of_fev O.slices_Clone_int64Zint64 mixed Tryd.func62 (by kernel_rfl) (Eq.mpr (by kernel_rfl : fev prg O.slices_Clone_int64Zint64 Tryd.f62 [a0] H K = F.slices_Clone_int64Zint64 a0 H K) h)

/-! loop.example/g01381/impl.copyField: function 52 -/
def F.impl_copyField (a0 : Value) (H : Hp) (K : Value → Hp → Prop) : Prop :=
  nw (a0 : Value).cells 28 H fun v1x1 H2 =>
  nw #[(.int .i64 0), (.int .i64 0), (.slice none 0 0)] 28 H2 fun v2x3 H4 =>
  ob (vFa 2 v1x1) fun v3x5 =>
  ob (vLoad v3x5 H4) fun v4x6 =>
  HT prg I.slices_Clone_int64Zint64 [v4x6].toArray H4 fun v5x7 H8 =>
  ob (vFa 2 v1x1) fun v6x9 =>
  st 1 v6x9 v5x7 H8 fun H10 =>
  ob (vLoadN 3 v1x1 H10) fun v7x11 =>
  st 3 v2x3 v7x11 H10 fun H12 =>
  ob (vLoadN 3 v2x3 H12) fun u13 => K u13 H12
def O.impl_copyField : Nat → Nat × List Nat := fun i => (0, [])
theorem R.impl_copyField {a0 : Value} {H : Hp} {K : Value → Hp → Prop} (h : F.impl_copyField a0 H K) : HT prg I.impl_copyField [a0].toArray H K :=
  HT_of_fev O.impl_copyField mixed Tryd.func52 (by kernel_rfl) (Eq.mpr (by kernel_rfl : fev prg O.impl_copyField Tryd.f52 [a0] H K = F.impl_copyField a0 H K) h)

/-! (loop.example/g01381/impl.Field).mirrored$1: function 63 -/
def F.impl_Field_mirrored_1 (a0 a1 a2 : Value) (H : Hp) (K : Value → Hp → Prop) : Prop :=
  ob (vLoadN 3 a2 H) fun v6x1 =>
  ob (vFa 1 a2) fun v8x2 =>
  ob (vLoad v8x2 H) fun v9x3 =>
  ob (vInt .sub v9x3 (.int .i64 1)) fun v10x4 =>
  ob (vInt .sub v10x4 a1) fun v12x5 =>
  HT prg I.impl_Field_at [v6x1, a0, v12x5].toArray H fun v13x6 H7 =>
  K v13x6 H7
def O.impl_Field_mirrored_1 : Nat → Nat × List Nat := fun i => (0, [])
theorem R.impl_Field_mirrored_1 {a0 a1 a2 : Value} {H : Hp} {K : Value → Hp → Prop} (h : F.impl_Field_mirrored_1 a0 a1 a2 H K) : HT prg I.impl_Field_mirrored_1 [a0, a1, a2].toArray H K :=
  HT_of_fev O.impl_Field_mirrored_1 mixed Tryd.func63 (by kernel_rfl) (Eq.mpr (by kernel_rfl : fev prg O.impl_Field_mirrored_1 Tryd.f63 [a0, a1, a2] H K = F.impl_Field_mirrored_1 a0 a1 a2 H K) h)

/-! (loop.example/g01381/impl.Field).mirrored: function 53 -/
def F.impl_Field_mirrored (a0 : Value) (H : Hp) (K : Value → Hp → Prop) : Prop :=
  nw (a0 : Value).cells 28 H fun v1x1 H2 =>
  nw #[(.int .i64 0), (.int .i64 0), (.slice none 0 0)] 28 H2 fun v2x3 H4 =>
  ob (vFa 0 v1x1) fun v3x5 =>
  ob (vLoad v3x5 H4) fun v4x6 =>
  ob (vFa 1 v1x1) fun v5x7 =>
  ob (vLoad v5x7 H4) fun v6x8 =>
  HT prg I.impl_madeField [v4x6, v6x8, (.func (.func I.impl_Field_mirrored_1) #[] #[v1x1])].toArray H4 fun v8x9 H10 =>
  st 3 v2x3 v8x9 H10 fun H11 =>
  ob (vLoadN 3 v2x3 H11) fun u12 => K u12 H11
def O.impl_Field_mirrored : Nat → Nat × List Nat := fun i => (0, [])
theorem R.impl_Field_mirrored {a0 : Value} {H : Hp} {K : Value → Hp → Prop} (h : F.impl_Field_mirrored a0 H K) : HT prg I.impl_Field_mirrored [a0].toArray H K :=
  HT_of_fev O.impl_Field_mirrored mixed Tryd.func53 (by kernel_rfl) (Eq.mpr (by kernel_rfl : fev prg O.impl_Field_mirrored Tryd.f53 [a0] H K = F.impl_Field_mirrored a0 H K) h)

/-! (loop.example/g01381/impl.Field).right$1: function 64 -/
def F.impl_Field_right_1 (a0 a1 a2 : Value) (H : Hp) (K : Value → Hp → Prop) : Prop :=
  ob (vLoadN 3 a2 H) fun v6x1 =>
  ob (vFa 0 a2) fun v7x2 =>
  ob (vLoad v7x2 H) fun v8x3 =>
  ob (vInt .sub v8x3 (.int .i64 1)) fun v9x4 =>
  ob (vInt .sub v9x4 a1) fun v11x5 =>
  HT prg I.impl_Field_at [v6x1, v11x5, a0].toArray H fun v13x6 H7 =>
  K v13x6 H7
def O.impl_Field_right_1 : Nat → Nat × List Nat := fun i => (0, [])
theorem R.impl_Field_right_1 {a0 a1 a2 : Value} {H : Hp} {K : Value → Hp → Prop} (h : F.impl_Field_right_1 a0 a1 a2 H K) : HT prg I.impl_Field_right_1 [a0, a1, a2].toArray H K :=
  HT_of_fev O.impl_Field_right_1 mixed Tryd.func64 (by kernel_rfl) (Eq.mpr (by kernel_rfl : fev prg O.impl_Field_right_1 Tryd.f64 [a0, a1, a2] H K = F.impl_Field_right_1 a0 a1 a2 H K) h)

/-! (loop.example/g01381/impl.Field).right: function 54 -/
def F.impl_Field_right (a0 : Value) (H : Hp) (K : Value → Hp → Prop) : Prop :=
  nw (a0 : Value).cells 28 H fun v1x1 H2 =>
  nw #[(.int .i64 0), (.int .i64 0), (.slice none 0 0)] 28 H2 fun v2x3 H4 =>
  ob (vFa 1 v1x1) fun v3x5 =>
  ob (vLoad v3x5 H4) fun v4x6 =>
  ob (vFa 0 v1x1) fun v5x7 =>
  ob (vLoad v5x7 H4) fun v6x8 =>
  HT prg I.impl_madeField [v4x6, v6x8, (.func (.func I.impl_Field_right_1) #[] #[v1x1])].toArray H4 fun v8x9 H10 =>
  st 3 v2x3 v8x9 H10 fun H11 =>
  ob (vLoadN 3 v2x3 H11) fun u12 => K u12 H11
def O.impl_Field_right : Nat → Nat × List Nat := fun i => (0, [])
theorem R.impl_Field_right {a0 : Value} {H : Hp} {K : Value → Hp → Prop} (h : F.impl_Field_right a0 H K) : HT prg I.impl_Field_right [a0].toArray H K :=
  HT_of_fev O.impl_Field_right mixed Tryd.func54 (by kernel_rfl) (Eq.mpr (by kernel_rfl : fev prg O.impl_Field_right Tryd.f54 [a0] H K = F.impl_Field_right a0 H K) h)

/-! (loop.example/g01381/impl.Field).images: function 35 -/
def F.impl_Field_images (a0 : Value) (H : Hp) (K : Value → Hp → Prop) : Prop :=
  nw (a0 : Value).cells 28 H fun v1x1 H2 =>
  bS 3 0 #[(.int .i64 0), (.int .i64 0), (.slice none 0 0)] 28 [] H2 fun v6x3 H4 =>
  jn (fun σ5 H5 =>
    K (σ5 3) H5) fun J5 =>
  ob (vLoadN 3 v1x1 H4) fun v7x6 =>
  ob (vLoadN 3 v1x1 H4) fun v9x7 =>
  HT prg I.impl_copyField [v7x6].toArray H4 fun v8x8 H9 =>
  Le H4 H9 ∧ (HT prg I.impl_Field_mirrored [v9x7].toArray H9 fun v10x10 H11 =>
  Le H9 H11 ∧ (bS 3 2 #[(.int .i64 0), (.int .i64 0), (.slice none 0 0)] 28 [(0, v8x8), (1, v10x10)] H11 fun v11x12 H13 =>
  ob (vLenSl v11x12) fun v12x14 =>
  lpE (fun Q15 σ15 H15 =>
    ob (vInt .lss (σ15 13) (σ15 12)) fun v14x16 =>
    cnd v14x16
      (jn (fun σ17 H17 =>
      ob (vInt .add (σ17 13) (.int .i64 1)) fun v26x18 =>
      Q15 .normal (up (up σ17 26 v26x18) 13 v26x18) H17) fun J17 =>
    ob (vIx 3 (σ15 11) (σ15 13)) fun v15x19 =>
    ob (vLoadN 3 v15x19 H15) fun v16x20 =>
    nw #[(.int .i64 0), (.int .i64 0), (.slice none 0 0)] 28 H15 fun v5x21 H22 =>
    st 3 v5x21 v16x20 H22 fun H23 =>
    lpE (fun Q24 σ24 H24 =>
      ob (vInt .lss (σ24 17) (.int .i64 4)) fun v18x25 =>
      cnd v18x25
        (ob (vLoadN 3 (σ24 5) H24) fun v20x26 =>
      bS 3 1 #[(.int .i64 0), (.int .i64 0), (.slice none 0 0)] 28 [(0, v20x26)] H24 fun v21x27 H28 =>
      apd 3 40 #[(.int .i64 0), (.int .i64 0), (.slice none 0 0)] 28 (σ24 3) v21x27 H28 fun v22x29 H30 =>
      ob (vLoadN 3 (σ24 5) H30) fun v23x31 =>
      HT prg I.impl_Field_right [v23x31].toArray H30 fun v24x32 H33 =>
      st 3 (σ24 5) v24x32 H33 fun H34 =>
      ob (vInt .add (σ24 17) (.int .i64 1)) fun v25x35 =>
      Q24 .normal (up (up (up (up (up (up (up (up (up (up σ24 18 v18x25) 19 (σ24 3)) 20 v20x26) 21 v21x27) 22 v22x29) 3 v22x29) 23 v23x31) 24 v24x32) 25 v25x35) 17 v25x35) H34)
        (Q24 (.exit 2) (up σ24 18 v18x25) H24)) (blkQ 2 (blkQ 1 (thenQ J17 Q15))) (up (up (up (up (up σ15 14 v14x16) 15 v15x19) 16 v16x20) 5 v5x21) 17 (.int .i64 0)) H23)
      (Q15 (.exit 0) (up σ15 14 v14x16) H15)) (blkQ 0 (thenQ J5 (retQ prg [(.tmp 2)] K))) (up (up (up (up (up (up (up (up (up (up (up (S0 [a0]) 1 v1x1) 2 (.slice none 0 0)) 6 v6x3) 3 v6x3) 7 v7x6) 9 v9x7) 13 (.int .i64 0)) 8 v8x8) 10 v10x10) 11 v11x12) 12 v12x14) H13))
def O.impl_Field_images : Nat → Nat × List Nat := fun i => bif Nat.beq i 2 then (0, [0, 2, 6, 1, 3, 4, 5]) else (0, [])
theorem R.impl_Field_images {a0 : Value} {H : Hp} {K : Value → Hp → Prop} (h : F.impl_Field_images a0 H K) : HT prg I.impl_Field_images [a0].toArray H K :=
  HT_of_fev O.impl_Field_images mixed Tryd.func35 (by kernel_rfl) (Eq.mpr (by kernel_rfl : fev prg O.impl_Field_images Tryd.f35 [a0] H K = F.impl_Field_images a0 H K) h)

/-! slices.Min[[]string,string]: function 36 -/
def F.slices_Min_string_string (a0 : Value) (H : Hp) (K : Value → Hp → Prop) : Prop :=
  jn (fun σ1 H1 =>
    ob (vIx 1 (σ1 0) (.int .i64 0)) fun v10x2 =>
    ob (vLoad v10x2 H1) fun v11x3 =>
    jn (fun σ4 H4 =>
      K (σ4 3) H4) fun J4 =>
    lpE (fun Q5 σ5 H5 =>
      ob (vLenSl (σ5 0)) fun v14x6 =>
      ob (vInt .lss (σ5 4) v14x6) fun v15x7 =>
      cnd v15x7
        (ob (vIx 1 (σ5 0) (σ5 4)) fun v21x8 =>
      ob (vLoad v21x8 H5) fun v22x9 =>
      hp prg (builtin .min #[9, 9] 9 #[false, false] [(σ5 3), v22x9].toArray) H5 (nextH prg (fun v23x10 H11 =>
      ob (vInt .add (σ5 4) (.int .i64 1)) fun v17x12 =>
      Q5 .normal (up (up (up (up (up (up (up (up (up (up (up (up (up (up σ5 12 (σ5 4)) 13 (σ5 0)) 14 v14x6) 15 v15x7) 18 (σ5 3)) 19 (σ5 0)) 20 (σ5 4)) 21 v21x8) 22 v22x9) 23 v23x10) 3 v23x10) 16 (σ5 4)) 17 v17x12) 4 v17x12) H11)))
        (Q5 (.exit 0) (up (up (up (up σ5 12 (σ5 4)) 13 (σ5 0)) 14 v14x6) 15 v15x7) H5)) (blkQ 0 (thenQ J4 (retQ prg [(.tmp 2)] K))) (up (up (up (up (up σ1 9 (σ1 0)) 10 v10x2) 11 v11x3) 3 v11x3) 4 (.int .i64 1)) H1) fun J1 =>
  ob (vLenSl a0) fun v6x13 =>
  ob (vInt .lss v6x13 (.int .i64 1)) fun v7x14 =>
  cnd v7x14
    (ob (val prg (Instr.makeInterface 9 (.string ⟨#[115, 108, 105, 99, 101, 115, 46, 77, 105, 110, 58, 32, 101, 109, 112, 116, 121, 32, 108, 105, 115, 116]⟩)) H) fun v8x15 =>
    hp prg (do pure (Next.value (← Instr.panic v8x15))) H (nextH prg (fun _ H16 =>
    J1 (up (up (up (up (up (S0 [a0]) 2 (.string ⟨#[]⟩)) 5 a0) 6 v6x13) 7 v7x14) 8 v8x15) H16)))
    (J1 (up (up (up (up (S0 [a0]) 2 (.string ⟨#[]⟩)) 5 a0) 6 v6x13) 7 v7x14) H)
def O.slices_Min_string_string : Nat → Nat × List Nat := fun i => (0, [])
theorem R.slices_Min_string_string {a0 : Value} {H : Hp} {K : Value → Hp → Prop} (h : F.slices_Min_string_string a0 H K) : HT prg I.slices_Min_string_string [a0].toArray H K :=
  HT_of_fev O.slices_Min_string_string mixed Tryd.func36 (by kernel_rfl) (Eq.mpr (by kernel_rfl : fev prg O.slices_Min_string_string Tryd.f36 [a0] H K = F.slices_Min_string_string a0 H K) h)

/-! (loop.example/g01381/impl.Field).name: function 23 -/
def F.impl_Field_name (a0 : Value) (H : Hp) (K : Value → Hp → Prop) : Prop :=
  nw (a0 : Value).cells 28 H fun v1x1 H2 =>
  ob (vLoadN 3 v1x1 H2) fun v11x3 =>
  HT prg I.impl_Field_trimmed [v11x3].toArray H2 fun v12x4 H5 =>
  ob (vExt v12x4 0) fun v13x6 =>
  ob (vExt v12x4 1) fun v14x7 =>
  ob (vExt v12x4 2) fun v15x8 =>
  ob (vExt v12x4 3) fun v16x9 =>
  nw #[(.int .i64 0), (.int .i64 0), (.slice none 0 0)] 28 H5 fun v3x10 H11 =>
  st 3 v3x10 v13x6 H11 fun H12 =>
  ob (vUn .not v16x9) fun v18x13 =>
  cnd v18x13
    (K (.string ⟨#[]⟩) H12)
    (bS 1 0 #[(.string ⟨#[]⟩)] 9 [] H12 fun v19x14 H15 =>
  jn (fun σ16 H16 =>
    HT prg I.slices_Min_string_string [(σ16 7)].toArray H16 fun v34x17 H18 =>
    K v34x17 H18) fun J16 =>
  ob (vLoadN 3 v3x10 H15) fun v20x19 =>
  HT prg I.impl_Field_images [v20x19].toArray H15 fun v21x20 H21 =>
  ob (vLenSl v21x20) fun v22x22 =>
  lpE (fun Q23 σ23 H23 =>
    ob (vInt .lss (σ23 23) (σ23 22)) fun v24x24 =>
    cnd v24x24
      (ob (vIx 3 (σ23 21) (σ23 23)) fun v25x25 =>
    ob (vLoadN 3 v25x25 H23) fun v26x26 =>
    nw #[(.int .i64 0), (.int .i64 0), (.slice none 0 0)] 28 H23 fun v9x27 H28 =>
    st 3 v9x27 v26x26 H28 fun H29 =>
    ob (vLoadN 3 v9x27 H29) fun v28x30 =>
    HT prg I.impl_Field_text [v28x30].toArray H29 fun v29x31 H32 =>
    bS 1 1 #[(.string ⟨#[]⟩)] 9 [(0, v29x31)] H32 fun v30x33 H34 =>
    apd 1 16 #[(.string ⟨#[]⟩)] 9 (σ23 7) v30x33 H34 fun v31x35 H36 =>
    ob (vInt .add (σ23 23) (.int .i64 1)) fun v32x37 =>
    Q23 .normal (up (up (up (up (up (up (up (up (up (up (up (up σ23 24 v24x24) 25 v25x25) 26 v26x26) 9 v9x27) 27 (σ23 7)) 28 v28x30) 29 v29x31) 30 v30x33) 31 v31x35) 7 v31x35) 32 v32x37) 23 v32x37) H36)
      (Q23 (.exit 0) (up σ23 24 v24x24) H23)) (blkQ 0 (thenQ J16 (retQ prg [(.tmp 2)] K))) (up (up (up (up (up (up (up (up (up (up (up (up (up (up (up (up (up (up (up (up (up (S0 [a0]) 1 v1x1) 2 (.string ⟨#[]⟩)) 11 v11x3) 12 v12x4) 10 v12x4) 13 v13x6) 14 v14x7) 15 v15x8) 16 v16x9) 3 v3x10) 4 v14x7) 5 v15x8) 6 v16x9) 17 v16x9) 18 v18x13) 19 v19x14) 7 v19x14) 20 v20x19) 21 v21x20) 22 v22x22) 23 (.int .i64 0)) H21)
def O.impl_Field_name : Nat → Nat × List Nat := fun i => (0, [])
theorem R.impl_Field_name {a0 : Value} {H : Hp} {K : Value → Hp → Prop} (h : F.impl_Field_name a0 H K) : HT prg I.impl_Field_name [a0].toArray H K :=
  HT_of_fev O.impl_Field_name mixed Tryd.func23 (by kernel_rfl) (Eq.mpr (by kernel_rfl : fev prg O.impl_Field_name Tryd.f23 [a0] H K = F.impl_Field_name a0 H K) h)

/-! loop.example/g01381/impl.NameOf: function 12 -/
def F.impl_NameOf (a0 : Value) (H : Hp) (K : Value → Hp → Prop) : Prop :=
  nw (a0 : Value).cells 28 H fun v1x1 H2 =>
  ob (vLoadN 3 v1x1 H2) fun v4x3 =>
  HT prg I.impl_isPlain [v4x3].toArray H2 fun v5x4 H5 =>
  ob (vUn .not v5x4) fun v6x6 =>
  cnd v6x6
    (K (.tuple #[(.string ⟨#[]⟩), (.bool false)]) H5)
    (ob (vLoadN 3 v1x1 H5) fun v7x7 =>
  HT prg I.impl_Field_name [v7x7].toArray H5 fun v8x8 H9 =>
  K (.tuple #[v8x8, (.bool true)]) H9)
def O.impl_NameOf : Nat → Nat × List Nat := fun i => (0, [])
theorem R.impl_NameOf {a0 : Value} {H : Hp} {K : Value → Hp → Prop} (h : F.impl_NameOf a0 H K) : HT prg I.impl_NameOf [a0].toArray H K :=
  HT_of_fev O.impl_NameOf mixed Tryd.func12 (by kernel_rfl) (Eq.mpr (by kernel_rfl : fev prg O.impl_NameOf Tryd.f12 [a0] H K = F.impl_NameOf a0 H K) h)

/-! loop.example/g01381/laws.FnExactNameOf: function 4 -/
def F.laws_FnExactNameOf (a0 : Value) (H : Hp) (K : Value → Hp → Prop) : Prop :=
  nw (a0 : Value).cells 24 H fun v1x1 H2 =>
  ob (vLoadN 3 v1x1 H2) fun v9x3 =>
  HT prg I.laws_szField [v9x3, (.int .i64 1048576)].toArray H2 fun v11x4 H5 =>
  ob (vInt .lss v11x4 (.int .i64 0)) fun v13x6 =>
  cnd v13x6
    (K (.bool true) H5)
    (ob (vLoadN 3 v1x1 H5) fun v15x7 =>
  HT prg I.laws_toField [v15x7].toArray H5 fun v16x8 H9 =>
  HT prg I.spec_NameOf [v16x8].toArray H9 fun v17x10 H11 =>
  ob (vExt v17x10 0) fun v18x12 =>
  ob (vExt v17x10 1) fun v19x13 =>
  ob (vLoadN 3 v1x1 H11) fun v20x14 =>
  HT prg I.laws_toField [v20x14].toArray H11 fun v21x15 H16 =>
  nw #[(.int .i64 0), (.int .i64 0), (.slice none 0 0)] 28 H16 fun v6x17 H18 =>
  st 3 v6x17 v21x15 H18 fun H19 =>
  ob (vLoadN 3 v6x17 H19) fun v23x20 =>
  HT prg I.impl_NameOf [v23x20].toArray H19 fun v24x21 H22 =>
  ob (vExt v24x21 0) fun v25x23 =>
  ob (vExt v24x21 1) fun v26x24 =>
  ob (vStr .neq v25x23 v18x12) fun v29x25 =>
  gop v29x25 false (fun K26 => K26 v26x24 H22) H22 fun v31x27 H28 =>
  gop v29x25 false (fun K29 => K29 v19x13 H28) H28 fun v32x30 H31 =>
  gop v29x25 false (fun K32 => ob (vBool .neq v31x27 v32x30) fun u => K32 u H31) H31 fun v33x33 H34 =>
  ob (vPick v29x25 (.bool true) v33x33) fun v34x35 =>
  cnd v34x35
    (K (.bool false) H34)
    (ob (vLoadN 3 v6x17 H34) fun v35x36 =>
  ob (vLoadN 3 v1x1 H34) fun v36x37 =>
  HT prg I.laws_toField [v36x37].toArray H34 fun v37x38 H39 =>
  Le H34 H39 ∧ (HT prg I.laws_eqField [v35x36, v37x38].toArray H39 fun v38x40 H41 =>
  Le H39 H41 ∧ (ob (vUn .not v38x40) fun v39x42 =>
  cnd v39x42
    (K (.bool false) H41)
    (K (.bool true) H41)))))
def O.laws_FnExactNameOf : Nat → Nat × List Nat := fun i => bif Nat.beq i 10 then (0, [0, 1, 2, 3, 4]) else (0, [])
theorem R.laws_FnExactNameOf {a0 : Value} {H : Hp} {K : Value → Hp → Prop} (h : F.laws_FnExactNameOf a0 H K) : HT prg I.laws_FnExactNameOf [a0].toArray H K :=
  HT_of_fev O.laws_FnExactNameOf mixed Tryd.func4 (by kernel_rfl) (Eq.mpr (by kernel_rfl : fev prg O.laws_FnExactNameOf Tryd.f4 [a0] H K = F.laws_FnExactNameOf a0 H K) h)

/-! loop.example/g01381/spec.SameShape: function 13 -/
def F.spec_SameShape (a0 a1 : Value) (H : Hp) (K : Value → Hp → Prop) : Prop :=
  nw (a0 : Value).cells 28 H fun v2x1 H2 =>
  nw (a1 : Value).cells 28 H2 fun v3x3 H4 =>
  HT prg I.spec_l04Plain [v2x1].toArray H4 fun v6x5 H6 =>
  ob (vUn .not v6x5) fun v7x7 =>
  gop v7x7 false (fun K8 => HT prg I.spec_l04Plain [v3x3].toArray H6 K8) H6 fun v9x9 H10 =>
  gop v7x7 false (fun K11 => ob (vUn .not v9x9) fun u => K11 u H10) H10 fun v10x12 H13 =>
  ob (vPick v7x7 (.bool true) v10x12) fun v11x14 =>
  cnd v11x14
    (K (.tuple #[(.bool false), (.bool false)]) H13)
    (HT prg I.spec_l05Name [v2x1].toArray H13 fun v12x15 H16 =>
  HT prg I.spec_l05Name [v3x3].toArray H16 fun v13x17 H18 =>
  ob (vStr .eql v12x15 v13x17) fun v14x19 =>
  K (.tuple #[v14x19, (.bool true)]) H18)
def O.spec_SameShape : Nat → Nat × List Nat := fun i => (0, [])
theorem R.spec_SameShape {a0 a1 : Value} {H : Hp} {K : Value → Hp → Prop} (h : F.spec_SameShape a0 a1 H K) : HT prg I.spec_SameShape [a0, a1].toArray H K :=
  HT_of_fev O.spec_SameShape mixed Tryd.func13 (by kernel_rfl) (Eq.mpr (by kernel_rfl : fev prg O.spec_SameShape Tryd.f13 [a0, a1] H K = F.spec_SameShape a0 a1 H K) h)

/-! loop.example/g01381/impl.SameShape: function 14 -/
def F.impl_SameShape (a0 a1 : Value) (H : Hp) (K : Value → Hp → Prop) : Prop :=
  nw (a0 : Value).cells 28 H fun v2x1 H2 =>
  nw (a1 : Value).cells 28 H2 fun v3x3 H4 =>
  ob (vLoadN 3 v2x1 H4) fun v6x5 =>
  HT prg I.impl_isPlain [v6x5].toArray H4 fun v7x6 H7 =>
  ob (vUn .not v7x6) fun v8x8 =>
  gop v8x8 false (fun K9 => ob (vLoadN 3 v3x3 H7) fun u => K9 u H7) H7 fun v10x10 H11 =>
  gop v8x8 false (fun K12 => HT prg I.impl_isPlain [v10x10].toArray H11 K12) H11 fun v11x13 H14 =>
  gop v8x8 false (fun K15 => ob (vUn .not v11x13) fun u => K15 u H14) H14 fun v12x16 H17 =>
  ob (vPick v8x8 (.bool true) v12x16) fun v13x18 =>
  cnd v13x18
    (K (.tuple #[(.bool false), (.bool false)]) H17)
    (ob (vLoadN 3 v2x1 H17) fun v14x19 =>
  ob (vLoadN 3 v3x3 H17) fun v16x20 =>
  HT prg I.impl_Field_name [v14x19].toArray H17 fun v15x21 H22 =>
  Le H17 H22 ∧ (HT prg I.impl_Field_name [v16x20].toArray H22 fun v17x23 H24 =>
  Le H22 H24 ∧ (ob (vStr .eql v15x21 v17x23) fun v18x25 =>
  K (.tuple #[v18x25, (.bool true)]) H24)))
def O.impl_SameShape : Nat → Nat × List Nat := fun i => bif Nat.beq i 3 then (0, [0, 2, 1, 3, 4, 5, 6]) else (0, [])
theorem R.impl_SameShape {a0 a1 : Value} {H : Hp} {K : Value → Hp → Prop} (h : F.impl_SameShape a0 a1 H K) : HT prg I.impl_SameShape [a0, a1].toArray H K :=
  HT_of_fev O.impl_SameShape mixed Tryd.func14 (by kernel_rfl) (Eq.mpr (by kernel_rfl : fev prg O.impl_SameShape Tryd.f14 [a0, a1] H K = F.impl_SameShape a0 a1 H K) h)

/-! loop.example/g01381/laws.FnExactSameShape: function 5 -/
def F.laws_FnExactSameShape (a0 a1 : Value) (H : Hp) (K : Value → Hp → Prop) : Prop :=
  nw (a0 : Value).cells 24 H fun v2x1 H2 =>
  nw (a1 : Value).cells 24 H2 fun v3x3 H4 =>
  ob (vLoadN 3 v2x1 H4) fun v12x5 =>
  HT prg I.laws_szField [v12x5, (.int .i64 1048576)].toArray H4 fun v14x6 H7 =>
  ob (vInt .lss v14x6 (.int .i64 0)) fun v16x8 =>
  cnd v16x8
    (K (.bool true) H7)
    (ob (vLoadN 3 v3x3 H7) fun v17x9 =>
  HT prg I.laws_szField [v17x9, v14x6].toArray H7 fun v19x10 H11 =>
  ob (vInt .lss v19x10 (.int .i64 0)) fun v21x12 =>
  cnd v21x12
    (K (.bool true) H11)
    (ob (vLoadN 3 v2x1 H11) fun v23x13 =>
  ob (vLoadN 3 v3x3 H11) fun v25x14 =>
  HT prg I.laws_toField [v23x13].toArray H11 fun v24x15 H16 =>
  Le H11 H16 ∧ (HT prg I.laws_toField [v25x14].toArray H16 fun v26x17 H18 =>
  Le H16 H18 ∧ (HT prg I.spec_SameShape [v24x15, v26x17].toArray H18 fun v27x19 H20 =>
  Le H18 H20 ∧ (ob (vExt v27x19 0) fun v28x21 =>
  ob (vExt v27x19 1) fun v29x22 =>
  ob (vLoadN 3 v2x1 H20) fun v30x23 =>
  HT prg I.laws_toField [v30x23].toArray H20 fun v31x24 H25 =>
  nw #[(.int .i64 0), (.int .i64 0), (.slice none 0 0)] 28 H25 fun v8x26 H27 =>
  st 3 v8x26 v31x24 H27 fun H28 =>
  ob (vLoadN 3 v3x3 H28) fun v32x29 =>
  HT prg I.laws_toField [v32x29].toArray H28 fun v33x30 H31 =>
  nw #[(.int .i64 0), (.int .i64 0), (.slice none 0 0)] 28 H31 fun v9x32 H33 =>
  st 3 v9x32 v33x30 H33 fun H34 =>
  ob (vLoadN 3 v8x26 H34) fun v35x35 =>
  ob (vLoadN 3 v9x32 H34) fun v36x36 =>
  HT prg I.impl_SameShape [v35x35, v36x36].toArray H34 fun v37x37 H38 =>
  ob (vExt v37x37 0) fun v38x39 =>
  ob (vExt v37x37 1) fun v39x40 =>
  ob (vBool .neq v38x39 v28x21) fun v42x41 =>
  gop v42x41 false (fun K42 => K42 v39x40 H38) H38 fun v44x43 H44 =>
  gop v42x41 false (fun K45 => K45 v29x22 H44) H44 fun v45x46 H47 =>
  gop v42x41 false (fun K48 => ob (vBool .neq v44x43 v45x46) fun u => K48 u H47) H47 fun v46x49 H50 =>
  ob (vPick v42x41 (.bool true) v46x49) fun v47x51 =>
  cnd v47x51
    (K (.bool false) H50)
    (ob (vLoadN 3 v8x26 H50) fun v48x52 =>
  ob (vLoadN 3 v2x1 H50) fun v49x53 =>
  HT prg I.laws_toField [v49x53].toArray H50 fun v50x54 H55 =>
  Le H50 H55 ∧ (HT prg I.laws_eqField [v48x52, v50x54].toArray H55 fun v51x56 H57 =>
  Le H55 H57 ∧ (ob (vUn .not v51x56) fun v52x58 =>
  cnd v52x58
    (K (.bool false) H57)
    (ob (vLoadN 3 v9x32 H57) fun v53x59 =>
  ob (vLoadN 3 v3x3 H57) fun v54x60 =>
  HT prg I.laws_toField [v54x60].toArray H57 fun v55x61 H62 =>
  Le H57 H62 ∧ (HT prg I.laws_eqField [v53x59, v55x61].toArray H62 fun v56x63 H64 =>
  Le H62 H64 ∧ (ob (vUn .not v56x63) fun v57x65 =>
  cnd v57x65
    (K (.bool false) H64)
    (K (.bool true) H64))))))))))))
def O.laws_FnExactSameShape : Nat → Nat × List Nat := fun i => bif Nat.beq i 8 then (0, [0, 2, 1, 3, 4, 5, 6, 7, 8, 9]) else bif Nat.beq i 14 then (0, [0, 1, 2, 3, 4]) else bif Nat.beq i 16 then (0, [0, 1, 2, 3, 4]) else (0, [])
theorem R.laws_FnExactSameShape {a0 a1 : Value} {H : Hp} {K : Value → Hp → Prop} (h : F.laws_FnExactSameShape a0 a1 H K) : HT prg I.laws_FnExactSameShape [a0, a1].toArray H K :=
  HT_of_fev O.laws_FnExactSameShape mixed Tryd.func5 (by kernel_rfl) (Eq.mpr (by kernel_rfl : fev prg O.laws_FnExactSameShape Tryd.f5 [a0, a1] H K = F.laws_FnExactSameShape a0 a1 H K) h)

end Go.Proofs.YtialllbbbpmkbaaDoor
