/- Functions' texts over a partial heap. -/
import Derived.Test.YtelcmohhjkgjoaaG0
namespace Go.Proofs.Ytelcmohhjkgjoaa
open HL
set_option linter.unusedVariables false
set_option maxRecDepth 100000
set_option maxHeartbeats 4000000
/-! (loop.example/g01381/impl.Rule).inCycles: function 164 -/
def F.impl_Rule_inCycles (a0 a1 : Value) (H : Hp) (K : Value → Hp → Prop) : Prop :=
  nw (a0 : Value).cells 43 H fun v2x1 H2 =>
  ob (vLenSl a1) fun v13x3 =>
  mkS 1 8 #[(.int .i64 0)] 2 v13x3 v13x3 H2 fun v14x4 H5 =>
  ob (vLenSl a1) fun v16x6 =>
  ob (vLenSl a1) fun v19x7 =>
  mkS 1 8 #[(.int .i64 0)] 2 v16x6 v16x6 H5 fun v17x8 H9 =>
  mkS 1 8 #[(.int .i64 0)] 2 v19x7 v19x7 H9 fun v20x10 H11 =>
  jn (fun σ12 H12 =>
    K (σ12 5) H12) fun J12 =>
  ob (vLenSl a1) fun v22x13 =>
  lpE (fun Q14 σ14 H14 =>
    ob (vInt .lss (σ14 23) (σ14 22)) fun v24x15 =>
    cnd v24x15
      (jn (fun σ16 H16 =>
      ob (vInt .add (σ16 23) (.int .i64 1)) fun v73x17 =>
      Q14 .normal (up (up σ16 73 v73x17) 23 v73x17) H16) fun J16 =>
    jn (fun σ18 H18 =>
      ob (vIx 1 (σ18 6) (σ18 9)) fun v49x19 =>
      ob (vLoad v49x19 H18) fun v50x20 =>
      ob (vInt .add (σ18 8) (.int .i64 1)) fun v52x21 =>
      ob (vInt .neq v50x20 v52x21) fun v53x22 =>
      cnd v53x22
        (J16 (up (up (up (up (up (up (up σ18 47 (σ18 6)) 48 (σ18 9)) 49 v49x19) 50 v50x20) 51 (σ18 8)) 52 v52x21) 53 v53x22) H18)
        (ob (vIx 1 (σ18 7) (σ18 9)) fun v57x23 =>
      ob (vLoad v57x23 H18) fun v58x24 =>
      ob (vInt .sub (σ18 10) v58x24) fun v59x25 =>
      lpE (fun Q26 σ26 H26 =>
        ob (vIx 1 (σ26 5) (σ26 9)) fun v63x27 =>
        st 1 v63x27 (σ26 11) H26 fun H28 =>
        ob (vIx 1 (σ26 1) (σ26 9)) fun v66x29 =>
        ob (vLoad v66x29 H28) fun v67x30 =>
        ob (vIx 1 (σ26 5) v67x30) fun v70x31 =>
        ob (vLoad v70x31 H28) fun v71x32 =>
        ob (vInt .neq v71x32 (.int .i64 0)) fun v72x33 =>
        cnd v72x33
          (Q26 (.exit 4) (up (up (up (up (up (up (up (up (up (up (up (up (up (up σ26 60 (σ26 5)) 61 (σ26 9)) 62 (σ26 11)) 63 v63x27) 64 (σ26 1)) 65 (σ26 9)) 66 v66x29) 67 v67x30) 9 v67x30) 68 (σ26 5)) 69 v67x30) 70 v70x31) 71 v71x32) 72 v72x33) H28)
          (Q26 .normal (up (up (up (up (up (up (up (up (up (up (up (up (up (up σ26 60 (σ26 5)) 61 (σ26 9)) 62 (σ26 11)) 63 v63x27) 64 (σ26 1)) 65 (σ26 9)) 66 v66x29) 67 v67x30) 9 v67x30) 68 (σ26 5)) 69 v67x30) 70 v70x31) 71 v71x32) 72 v72x33) H28)) (blkQ 4 (blkQ 1 (thenQ J16 Q14))) (up (up (up (up (up (up (up (up (up (up (up (up (up (up σ18 47 (σ18 6)) 48 (σ18 9)) 49 v49x19) 50 v50x20) 51 (σ18 8)) 52 v52x21) 53 v53x22) 54 (σ18 10)) 55 (σ18 7)) 56 (σ18 9)) 57 v57x23) 58 v58x24) 59 v59x25) 11 v59x25) H18)) fun J18 =>
    lpE (fun Q34 σ34 H34 =>
      ob (vIx 1 (σ34 6) (σ34 9)) fun v29x35 =>
      ob (vLoad v29x35 H34) fun v30x36 =>
      ob (vInt .eql v30x36 (.int .i64 0)) fun v31x37 =>
      cnd v31x37
        (ob (vInt .add (σ34 8) (.int .i64 1)) fun v37x38 =>
      ob (vIx 1 (σ34 6) (σ34 9)) fun v39x39 =>
      st 1 v39x39 v37x38 H34 fun H40 =>
      ob (vIx 1 (σ34 7) (σ34 9)) fun v40x41 =>
      st 1 v40x41 (σ34 10) H40 fun H42 =>
      ob (vIx 1 (σ34 1) (σ34 9)) fun v43x43 =>
      ob (vLoad v43x43 H42) fun v44x44 =>
      ob (vInt .add (σ34 10) (.int .i64 1)) fun v46x45 =>
      Q34 .normal (up (up (up (up (up (up (up (up (up (up (up (up (up (up (up (up (up (up (up (up (up (up σ34 27 (σ34 6)) 28 (σ34 9)) 29 v29x35) 30 v30x36) 31 v31x37) 32 (σ34 6)) 33 (σ34 9)) 34 (σ34 7)) 35 (σ34 9)) 36 (σ34 8)) 37 v37x38) 38 (σ34 10)) 39 v39x39) 40 v40x41) 41 (σ34 1)) 42 (σ34 9)) 43 v43x43) 44 v44x44) 9 v44x44) 45 (σ34 10)) 46 v46x45) 10 v46x45) H42)
        (Q34 (.exit 2) (up (up (up (up (up σ34 27 (σ34 6)) 28 (σ34 9)) 29 v29x35) 30 v30x36) 31 v31x37) H34)) (blkQ 2 (thenQ J18 (blkQ 1 (thenQ J16 Q14)))) (up (up (up (up (up (up σ14 24 v24x15) 25 (σ14 23)) 8 (σ14 23)) 26 (σ14 23)) 9 (σ14 23)) 10 (.int .i64 0)) H14)
      (Q14 (.exit 0) (up σ14 24 v24x15) H14)) (blkQ 0 (thenQ J12 (retQ prg [(.tmp 4)] K))) (up (up (up (up (up (up (up (up (up (up (up (up (up (up (up (up (up (S0 [a0, a1]) 2 v2x1) 4 (.slice none 0 0)) 12 a1) 13 v13x3) 14 v14x4) 5 v14x4) 15 a1) 16 v16x6) 18 a1) 19 v19x7) 17 v17x8) 6 v17x8) 20 v20x10) 7 v20x10) 21 a1) 22 v22x13) 23 (.int .i64 0)) H11
def O.impl_Rule_inCycles : Nat → Nat × List Nat := fun i => bif Nat.beq i 2 then (0, [0, 1, 3, 4, 2, 6, 5, 7]) else (0, [])
theorem R.impl_Rule_inCycles {a0 a1 : Value} {H : Hp} {K : Value → Hp → Prop} (h : F.impl_Rule_inCycles a0 a1 H K) : HT prg I.impl_Rule_inCycles [a0, a1].toArray H K :=
  HT_of_fev O.impl_Rule_inCycles mixed Try.func164 (by kernel_rfl) (Eq.mpr (by kernel_rfl : fev prg O.impl_Rule_inCycles Try.f164 [a0, a1] H K = F.impl_Rule_inCycles a0 a1 H K) h)

/-! slices.Backward[[]int64,int64]$1: function 195 -/
def F.slices_Backward_int64Zint64Z1 (a0 a1 : Value) (H : Hp) (K : Value → Hp → Prop) : Prop :=
  ob (vLoad a1 H) fun v4x1 =>
  ob (vLenSl v4x1) fun v5x2 =>
  ob (vInt .sub v5x2 (.int .i64 1)) fun v6x3 =>
  lpE (fun Q4 σ4 H4 =>
    ob (vInt .geq (σ4 3) (.int .i64 0)) fun v8x5 =>
    cnd v8x5
      (ob (vLoad (σ4 1) H4) fun v13x6 =>
    ob (vIx 1 v13x6 (σ4 3)) fun v15x7 =>
    ob (vLoad v15x7 H4) fun v16x8 =>
    callV prg (σ4 0) [(σ4 3), v16x8] H4 fun v17x9 H10 =>
    ob (vUn .not v17x9) fun v18x11 =>
    cnd v18x11
      (Q4 .ret (up (up (up (up (up (up (up (up (up (up σ4 7 (σ4 3)) 8 v8x5) 11 (σ4 0)) 12 (σ4 3)) 13 v13x6) 14 (σ4 3)) 15 v15x7) 16 v16x8) 17 v17x9) 18 v18x11) H10)
      (ob (vInt .sub (σ4 3) (.int .i64 1)) fun v10x12 =>
    Q4 .normal (up (up (up (up (up (up (up (up (up (up (up (up (up σ4 7 (σ4 3)) 8 v8x5) 11 (σ4 0)) 12 (σ4 3)) 13 v13x6) 14 (σ4 3)) 15 v15x7) 16 v16x8) 17 v17x9) 18 v18x11) 9 (σ4 3)) 10 v10x12) 3 v10x12) H10))
      (Q4 (.exit 0) (up (up σ4 7 (σ4 3)) 8 v8x5) H4)) (blkQ 0 (retQ prg [] K)) (up (up (up (up (S0 [a0, a1]) 4 v4x1) 5 v5x2) 6 v6x3) 3 v6x3) H
def O.slices_Backward_int64Zint64Z1 : Nat → Nat × List Nat := fun i => (0, [])
theorem R.slices_Backward_int64Zint64Z1 {a0 a1 : Value} {H : Hp} {K : Value → Hp → Prop} (h : F.slices_Backward_int64Zint64Z1 a0 a1 H K) : HT prg I.slices_Backward_int64Zint64Z1 [a0, a1].toArray H K :=
  HT_of_fev O.slices_Backward_int64Zint64Z1 mixed Try.func195 (by kernel_rfl) (Eq.mpr (by kernel_rfl : fev prg O.slices_Backward_int64Zint64Z1 Try.f195 [a0, a1] H K = F.slices_Backward_int64Zint64Z1 a0 a1 H K) h)

/-! slices.Backward[[]int64,int64]: function 165 -/
def F.slices_Backward_int64Zint64 (a0 : Value) (H : Hp) (K : Value → Hp → Prop) : Prop :=
  nw (a0 : Value).cells 22 H fun v1x1 H2 =>
  K (.func (.func I.slices_Backward_int64Zint64Z1) #[] #[v1x1]) H2
def O.slices_Backward_int64Zint64 : Nat → Nat × List Nat := fun i => (0, [])
theorem R.slices_Backward_int64Zint64 {a0 : Value} {H : Hp} {K : Value → Hp → Prop} (h : F.slices_Backward_int64Zint64 a0 H K) : HT prg I.slices_Backward_int64Zint64 [a0].toArray H K :=
  HT_of_fev O.slices_Backward_int64Zint64 mixed Try.func165 (by kernel_rfl) (Eq.mpr (by kernel_rfl : fev prg O.slices_Backward_int64Zint64 Try.f165 [a0] H K = F.slices_Backward_int64Zint64 a0 H K) h)

/-! loop.example/g01381/laws.FnExactDepthOf: function 11 -/
def F.laws_FnExactDepthOf (a0 a1 : Value) (H : Hp) (K : Value → Hp → Prop) : Prop :=
  nw (a0 : Value).cells 65 H fun v2x1 H2 =>
  ob (vLoadN 3 v2x1 H2) fun v11x3 =>
  HT prg I.laws_szRule [v11x3, (.int .i64 1048576)].toArray H2 fun v13x4 H5 =>
  ob (vInt .lss v13x4 (.int .i64 0)) fun v15x6 =>
  cnd v15x6
    (K (.bool true) H5)
    (ob (vLoadN 3 v2x1 H5) fun v17x7 =>
  HT prg I.laws_toRule [v17x7].toArray H5 fun v18x8 H9 =>
  HT prg I.spec_DepthOf [v18x8, a1].toArray H9 fun v20x10 H11 =>
  ob (vExt v20x10 0) fun v21x12 =>
  ob (vExt v20x10 1) fun v22x13 =>
  ob (vLoadN 3 v2x1 H11) fun v23x14 =>
  HT prg I.laws_toRule [v23x14].toArray H11 fun v24x15 H16 =>
  nw #[(.int .i64 0), (.int .i64 0), (.slice none 0 0)] 43 H16 fun v8x17 H18 =>
  st 3 v8x17 v24x15 H18 fun H19 =>
  ob (vLoadN 3 v8x17 H19) fun v26x20 =>
  HT prg I.impl_DepthOf [v26x20, a1].toArray H19 fun v28x21 H22 =>
  ob (vExt v28x21 0) fun v29x23 =>
  ob (vExt v28x21 1) fun v30x24 =>
  ob (vInt .neq v29x23 v21x12) fun v33x25 =>
  gop v33x25 false (fun K26 => K26 v30x24 H22) H22 fun v35x27 H28 =>
  gop v33x25 false (fun K29 => K29 v22x13 H28) H28 fun v36x30 H31 =>
  gop v33x25 false (fun K32 => ob (vBool .neq v35x27 v36x30) fun u => K32 u H31) H31 fun v37x33 H34 =>
  ob (vPick v33x25 (.bool true) v37x33) fun v38x35 =>
  cnd v38x35
    (K (.bool false) H34)
    (ob (vLoadN 3 v8x17 H34) fun v39x36 =>
  ob (vLoadN 3 v2x1 H34) fun v40x37 =>
  HT prg I.laws_toRule [v40x37].toArray H34 fun v41x38 H39 =>
  Le H34 H39 ∧ (HT prg I.laws_eqRule [v39x36, v41x38].toArray H39 fun v42x40 H41 =>
  Le H39 H41 ∧ (ob (vUn .not v42x40) fun v43x42 =>
  cnd v43x42
    (K (.bool false) H41)
    (K (.bool true) H41)))))
def O.laws_FnExactDepthOf : Nat → Nat × List Nat := fun i => bif Nat.beq i 10 then (0, [0, 1, 2, 3, 4]) else (0, [])
theorem R.laws_FnExactDepthOf {a0 a1 : Value} {H : Hp} {K : Value → Hp → Prop} (h : F.laws_FnExactDepthOf a0 a1 H K) : HT prg I.laws_FnExactDepthOf [a0, a1].toArray H K :=
  HT_of_fev O.laws_FnExactDepthOf mixed Try.func11 (by kernel_rfl) (Eq.mpr (by kernel_rfl : fev prg O.laws_FnExactDepthOf Try.f11 [a0, a1] H K = F.laws_FnExactDepthOf a0 a1 H K) h)

/-! loop.example/g01381/spec.CyclesOf: function 80 -/
def F.spec_CyclesOf (a0 a1 : Value) (H : Hp) (K : Value → Hp → Prop) : Prop :=
  nw (a0 : Value).cells 43 H fun v2x1 H2 =>
  HT prg I.spec_l03Small [v2x1, a1, (.int .i64 12), (.int .i64 8)].toArray H2 fun v14x3 H4 =>
  ob (vUn .not v14x3) fun v15x5 =>
  cnd v15x5
    (K (.tuple #[(.slice none 0 0), (.int .i64 0), (.bool false)]) H4)
    (HT prg I.spec_l03Steps [v2x1, a1].toArray H4 fun v17x6 H7 =>
  HT prg I.spec_l03Cycles [v17x6].toArray H7 fun v18x8 H9 =>
  ob (vLenSl v18x8) fun v20x10 =>
  ob (vInt .add v20x10 (.int .i64 1)) fun v21x11 =>
  mkS 1 8 #[(.int .i64 0)] 2 v21x11 v21x11 H9 fun v22x12 H13 =>
  jn (fun σ14 H14 =>
    bS 1 0 #[(.int .i64 0)] 2 [] H14 fun v45x15 H16 =>
    jn (fun σ17 H17 =>
      K (.tuple #[(σ17 11), (σ17 9), (.bool true)]) H17) fun J17 =>
    ob (vLenSl (σ14 8)) fun v47x18 =>
    lpE (fun Q19 σ19 H19 =>
      ob (vInt .lss (σ19 48) (σ19 47)) fun v49x20 =>
      cnd v49x20
        (ob (vIx 1 (σ19 8) (σ19 48)) fun v53x21 =>
      ob (vLoad v53x21 H19) fun v54x22 =>
      ob (vInt .gtr v54x22 (.int .i64 0)) fun v55x23 =>
      cnd v55x23
        (ob (vIx 1 (σ19 8) (σ19 48)) fun v60x24 =>
        ob (vLoad v60x24 H19) fun v61x25 =>
        bS 1 2 #[(.int .i64 0)] 2 [(0, (σ19 48)), (1, v61x25)] H19 fun v62x26 H27 =>
        apd 1 8 #[(.int .i64 0)] 2 (σ19 11) v62x26 H27 fun v63x28 H29 =>
        ob (vInt .add (σ19 48) (.int .i64 1)) fun v64x30 =>
      Q19 .normal (up (up (up (up (up (up (up (up (up (up (up (up (up (up (up (up (up (up (up σ19 49 v49x20) 50 (σ19 48)) 12 (σ19 48)) 51 (σ19 8)) 52 (σ19 48)) 53 v53x21) 54 v54x22) 55 v55x23) 56 (σ19 11)) 57 (σ19 48)) 58 (σ19 8)) 59 (σ19 48)) 60 v60x24) 61 v61x25) 62 v62x26) 63 v63x28) 11 v63x28) 64 v64x30) 48 v64x30) H29)
        (ob (vInt .add (σ19 48) (.int .i64 1)) fun v64x31 =>
      Q19 .normal (up (up (up (up (up (up (up (up (up (up σ19 49 v49x20) 50 (σ19 48)) 12 (σ19 48)) 51 (σ19 8)) 52 (σ19 48)) 53 v53x21) 54 v54x22) 55 v55x23) 64 v64x31) 48 v64x31) H19))
        (Q19 (.exit 2) (up σ19 49 v49x20) H19)) (blkQ 2 (thenQ J17 (retQ prg [(.tmp 4), (.tmp 5), (.tmp 6)] K))) (up (up (up (up (up σ14 45 v45x15) 11 v45x15) 46 (σ14 8)) 47 v47x18) 48 (.int .i64 0)) H16) fun J14 =>
  ob (vLenSl v18x8) fun v24x32 =>
  lpE (fun Q33 σ33 H33 =>
    ob (vInt .lss (σ33 25) (σ33 24)) fun v26x34 =>
    cnd v26x34
      (ob (vIx 1 (σ33 7) (σ33 25)) fun v30x35 =>
    ob (vLoad v30x35 H33) fun v31x36 =>
    ob (vInt .gtr v31x36 (.int .i64 0)) fun v32x37 =>
    cnd v32x37
      (ob (vIx 1 (σ33 7) (σ33 25)) fun v36x38 =>
      ob (vLoad v36x38 H33) fun v37x39 =>
      ob (vIx 1 (σ33 8) v37x39) fun v38x40 =>
      ob (vLoad v38x40 H33) fun v39x41 =>
      ob (vInt .add v39x41 (.int .i64 1)) fun v40x42 =>
      ob (vIx 1 (σ33 8) v37x39) fun v41x43 =>
      st 1 v41x43 v40x42 H33 fun H44 =>
      ob (vInt .add (σ33 9) (.int .i64 1)) fun v43x45 =>
      ob (vInt .add (σ33 25) (.int .i64 1)) fun v44x46 =>
    Q33 .normal (up (up (up (up (up (up (up (up (up (up (up (up (up (up (up (up (up (up (up (up (up (up σ33 26 v26x34) 27 (σ33 25)) 10 (σ33 25)) 28 (σ33 7)) 29 (σ33 25)) 30 v30x35) 31 v31x36) 32 v32x37) 33 (σ33 8)) 34 (σ33 7)) 35 (σ33 25)) 36 v36x38) 37 v37x39) 38 v38x40) 39 v39x41) 40 v40x42) 41 v41x43) 42 (σ33 9)) 43 v43x45) 9 v43x45) 44 v44x46) 25 v44x46) H44)
      (ob (vInt .add (σ33 25) (.int .i64 1)) fun v44x47 =>
    Q33 .normal (up (up (up (up (up (up (up (up (up (up σ33 26 v26x34) 27 (σ33 25)) 10 (σ33 25)) 28 (σ33 7)) 29 (σ33 25)) 30 v30x35) 31 v31x36) 32 v32x37) 44 v44x47) 25 v44x47) H33))
      (Q33 (.exit 0) (up σ33 26 v26x34) H33)) (blkQ 0 (thenQ J14 (retQ prg [(.tmp 4), (.tmp 5), (.tmp 6)] K))) (up (up (up (up (up (up (up (up (up (up (up (up (up (up (up (up (up (up (up (up (S0 [a0, a1]) 2 v2x1) 4 (.slice none 0 0)) 5 (.int .i64 0)) 6 (.bool false)) 13 a1) 14 v14x3) 15 v15x5) 16 a1) 17 v17x6) 18 v18x8) 7 v18x8) 19 v18x8) 20 v20x10) 21 v21x11) 22 v22x12) 8 v22x12) 9 (.int .i64 0)) 23 v18x8) 24 v24x32) 25 (.int .i64 0)) H13)
def O.spec_CyclesOf : Nat → Nat × List Nat := fun i => (0, [])
theorem R.spec_CyclesOf {a0 a1 : Value} {H : Hp} {K : Value → Hp → Prop} (h : F.spec_CyclesOf a0 a1 H K) : HT prg I.spec_CyclesOf [a0, a1].toArray H K :=
  HT_of_fev O.spec_CyclesOf mixed Try.func80 (by kernel_rfl) (Eq.mpr (by kernel_rfl : fev prg O.spec_CyclesOf Try.f80 [a0, a1] H K = F.spec_CyclesOf a0 a1 H K) h)

/-! cmp.Less[int64]: function 212 -/
def F.cmp_Less_int64 (a0 a1 : Value) (H : Hp) (K : Value → Hp → Prop) : Prop :=
  HT prg I.cmp_isNaN_int64 [a0].toArray H fun v6x1 H2 =>
  gop v6x1 true (fun K3 => K3 a1 H2) H2 fun v8x4 H5 =>
  gop v6x1 true (fun K6 => HT prg I.cmp_isNaN_int64 [v8x4].toArray H5 K6) H5 fun v9x7 H8 =>
  gop v6x1 true (fun K9 => ob (vUn .not v9x7) fun u => K9 u H8) H8 fun v10x10 H11 =>
  ob (vPick v6x1 v10x10 (.bool false)) fun v11x12 =>
  gop v11x12 false (fun K13 => K13 a0 H11) H11 fun v13x14 H15 =>
  gop v11x12 false (fun K16 => K16 a1 H15) H15 fun v14x17 H18 =>
  gop v11x12 false (fun K19 => ob (vInt .lss v13x14 v14x17) fun u => K19 u H18) H18 fun v15x20 H21 =>
  ob (vPick v11x12 (.bool true) v15x20) fun v16x22 =>
  K v16x22 H21
def O.cmp_Less_int64 : Nat → Nat × List Nat := fun i => (0, [])
theorem R.cmp_Less_int64 {a0 a1 : Value} {H : Hp} {K : Value → Hp → Prop} (h : F.cmp_Less_int64 a0 a1 H K) : HT prg I.cmp_Less_int64 [a0, a1].toArray H K :=
  HT_of_fev O.cmp_Less_int64 mixed Try.func212 (by kernel_rfl) (Eq.mpr (by kernel_rfl : fev prg O.cmp_Less_int64 Try.f212 [a0, a1] H K = F.cmp_Less_int64 a0 a1 H K) h)

/-! slices.insertionSortOrdered[int64]: function 206 -/
def F.slices_insertionSortOrdered_int64 (a0 a1 a2 : Value) (H : Hp) (K : Value → Hp → Prop) : Prop :=
  ob (vInt .add a1 (.int .i64 1)) fun v9x1 =>
  lpE (fun Q2 σ2 H2 =>
    ob (vInt .lss (σ2 6) (σ2 2)) fun v12x3 =>
    cnd v12x3
      (jn (fun σ4 H4 =>
      ob (vInt .add (σ4 6) (.int .i64 1)) fun v14x5 =>
      Q2 .normal (up (up (up σ4 13 (σ4 6)) 14 v14x5) 6 v14x5) H4) fun J4 =>
    lpE (fun Q6 σ6 H6 =>
      ob (vInt .gtr (σ6 7) (σ6 1)) fun v18x7 =>
      gop v18x7 true (fun K8 => K8 (σ6 0) H6) H6 fun v20x9 H10 =>
      gop v18x7 true (fun K11 => K11 (σ6 7) H10) H10 fun v21x12 H13 =>
      gop v18x7 true (fun K14 => ob (vIx 1 v20x9 v21x12) fun u => K14 u H13) H13 fun v22x15 H16 =>
      gop v18x7 true (fun K17 => ob (vLoad v22x15 H16) fun u => K17 u H16) H16 fun v23x18 H19 =>
      gop v18x7 true (fun K20 => K20 (σ6 0) H19) H19 fun v24x21 H22 =>
      gop v18x7 true (fun K23 => K23 (σ6 7) H22) H22 fun v25x24 H25 =>
      gop v18x7 true (fun K26 => ob (vInt .sub v25x24 (.int .i64 1)) fun u => K26 u H25) H25 fun v26x27 H28 =>
      gop v18x7 true (fun K29 => ob (vIx 1 v24x21 v26x27) fun u => K29 u H28) H28 fun v27x30 H31 =>
      gop v18x7 true (fun K32 => ob (vLoad v27x30 H31) fun u => K32 u H31) H31 fun v28x33 H34 =>
      gop v18x7 true (fun K35 => HT prg I.cmp_Less_int64 [v23x18, v28x33].toArray H34 fun v29x36 H37 =>
      Le H34 H37 ∧ K35 v29x36 H37) H34 fun v29x38 H39 =>
      ob (vPick v18x7 v29x38 (.bool false)) fun v30x40 =>
      cnd v30x40
        (ob (vInt .sub (σ6 7) (.int .i64 1)) fun v37x41 =>
      ob (vInt .sub (σ6 7) (.int .i64 1)) fun v40x42 =>
      ob (vIx 1 (σ6 0) v40x42) fun v41x43 =>
      ob (vLoad v41x43 H39) fun v42x44 =>
      ob (vIx 1 (σ6 0) (σ6 7)) fun v45x45 =>
      ob (vLoad v45x45 H39) fun v46x46 =>
      ob (vIx 1 (σ6 0) (σ6 7)) fun v47x47 =>
      st 1 v47x47 v42x44 H39 fun H48 =>
      ob (vIx 1 (σ6 0) v37x41) fun v48x49 =>
      st 1 v48x49 v46x46 H48 fun H50 =>
      ob (vInt .sub (σ6 7) (.int .i64 1)) fun v32x51 =>
      Q6 .normal (up (up (up (up (up (up (up (up (up (up (up (up (up (up (up (up (up (up (up (up (up (up (up (up (up (up (up (up (up (up (up (up (up (up σ6 16 (σ6 7)) 17 (σ6 1)) 18 v18x7) 19 v18x7) 20 v20x9) 21 v21x12) 22 v22x15) 23 v23x18) 24 v24x21) 25 v25x24) 26 v26x27) 27 v27x30) 28 v28x33) 29 v29x38) 30 v30x40) 33 (σ6 0)) 34 (σ6 7)) 35 (σ6 0)) 36 (σ6 7)) 37 v37x41) 38 (σ6 0)) 39 (σ6 7)) 40 v40x42) 41 v41x43) 42 v42x44) 43 (σ6 0)) 44 (σ6 7)) 45 v45x45) 46 v46x46) 47 v47x47) 48 v48x49) 31 (σ6 7)) 32 v32x51) 7 v32x51) H50)
        (Q6 (.exit 2) (up (up (up (up (up (up (up (up (up (up (up (up (up (up (up σ6 16 (σ6 7)) 17 (σ6 1)) 18 v18x7) 19 v18x7) 20 v20x9) 21 v21x12) 22 v22x15) 23 v23x18) 24 v24x21) 25 v25x24) 26 v26x27) 27 v27x30) 28 v28x33) 29 v29x38) 30 v30x40) H39)) (blkQ 2 (blkQ 1 (thenQ J4 Q2))) (up (up (up (up (up σ2 10 (σ2 6)) 11 (σ2 2)) 12 v12x3) 15 (σ2 6)) 7 (σ2 6)) H2)
      (Q2 (.exit 0) (up (up (up σ2 10 (σ2 6)) 11 (σ2 2)) 12 v12x3) H2)) (blkQ 0 (retQ prg [] K)) (up (up (up (S0 [a0, a1, a2]) 8 a1) 9 v9x1) 6 v9x1) H
def O.slices_insertionSortOrdered_int64 : Nat → Nat × List Nat := fun i => bif Nat.beq i 4 then (0, [0, 1, 2, 3, 4, 5, 6, 7, 8, 9, 10, 11, 12, 13, 14]) else bif Nat.beq i 6 then (0, [0, 1, 2, 3, 4, 5, 6, 7, 8, 9, 10, 11, 12, 13, 14, 15, 16, 17]) else (0, [])
theorem R.slices_insertionSortOrdered_int64 {a0 a1 a2 : Value} {H : Hp} {K : Value → Hp → Prop} (h : F.slices_insertionSortOrdered_int64 a0 a1 a2 H K) : HT prg I.slices_insertionSortOrdered_int64 [a0, a1, a2].toArray H K :=
  HT_of_fev O.slices_insertionSortOrdered_int64 mixed Try.func206 (by kernel_rfl) (Eq.mpr (by kernel_rfl : fev prg O.slices_insertionSortOrdered_int64 Try.f206 [a0, a1, a2] H K = F.slices_insertionSortOrdered_int64 a0 a1 a2 H K) h)

/-! slices.siftDownOrdered[int64]: function 217 -/
def F.slices_siftDownOrdered_int64 (a0 a1 a2 a3 : Value) (H : Hp) (K : Value → Hp → Prop) : Prop :=
  lpE (fun Q1 σ1 H1 =>
    ob (vInt .mul (.int .i64 2) (σ1 8)) fun v12x2 =>
    ob (vInt .add v12x2 (.int .i64 1)) fun v13x3 =>
    ob (vInt .geq v13x3 (σ1 2)) fun v16x4 =>
    cnd v16x4
      (Q1 (.exit 0) (up (up (up (up (up (up (up σ1 11 (σ1 8)) 12 v12x2) 13 v13x3) 9 v13x3) 14 v13x3) 15 (σ1 2)) 16 v16x4) H1)
      (jn (fun σ5 H5 =>
      ob (vInt .add (σ5 3) (σ5 8)) fun v42x6 =>
      ob (vIx 1 (σ5 0) v42x6) fun v43x7 =>
      ob (vLoad v43x7 H5) fun v44x8 =>
      ob (vInt .add (σ5 3) (σ5 9)) fun v48x9 =>
      ob (vIx 1 (σ5 0) v48x9) fun v49x10 =>
      ob (vLoad v49x10 H5) fun v50x11 =>
      HT prg I.cmp_Less_int64 [v44x8, v50x11].toArray H5 fun v51x12 H13 =>
      Le H5 H13 ∧ (ob (vUn .not v51x12) fun v52x14 =>
      cnd v52x14
        (Q1 .ret (up (up (up (up (up (up (up (up (up (up (up (up (up (up σ5 39 (σ5 0)) 40 (σ5 3)) 41 (σ5 8)) 42 v42x6) 43 v43x7) 44 v44x8) 45 (σ5 0)) 46 (σ5 3)) 47 (σ5 9)) 48 v48x9) 49 v49x10) 50 v50x11) 51 v51x12) 52 v52x14) H13)
        (ob (vInt .add (σ5 3) (σ5 8)) fun v56x15 =>
      ob (vInt .add (σ5 3) (σ5 9)) fun v60x16 =>
      ob (vInt .add (σ5 3) (σ5 9)) fun v64x17 =>
      ob (vIx 1 (σ5 0) v64x17) fun v65x18 =>
      ob (vLoad v65x18 H13) fun v66x19 =>
      ob (vInt .add (σ5 3) (σ5 8)) fun v70x20 =>
      ob (vIx 1 (σ5 0) v70x20) fun v71x21 =>
      ob (vLoad v71x21 H13) fun v72x22 =>
      ob (vIx 1 (σ5 0) v56x15) fun v73x23 =>
      st 1 v73x23 v66x19 H13 fun H24 =>
      ob (vIx 1 (σ5 0) v60x16) fun v74x25 =>
      st 1 v74x25 v72x22 H24 fun H26 =>
      Q1 .normal (up (up (up (up (up (up (up (up (up (up (up (up (up (up (up (up (up (up (up (up (up (up (up (up (up (up (up (up (up (up (up (up (up (up (up (up (up (up σ5 39 (σ5 0)) 40 (σ5 3)) 41 (σ5 8)) 42 v42x6) 43 v43x7) 44 v44x8) 45 (σ5 0)) 46 (σ5 3)) 47 (σ5 9)) 48 v48x9) 49 v49x10) 50 v50x11) 51 v51x12) 52 v52x14) 53 (σ5 0)) 54 (σ5 3)) 55 (σ5 8)) 56 v56x15) 57 (σ5 0)) 58 (σ5 3)) 59 (σ5 9)) 60 v60x16) 61 (σ5 0)) 62 (σ5 3)) 63 (σ5 9)) 64 v64x17) 65 v65x18) 66 v66x19) 67 (σ5 0)) 68 (σ5 3)) 69 (σ5 8)) 70 v70x20) 71 v71x21) 72 v72x22) 73 v73x23) 74 v74x25) 75 (σ5 9)) 8 (σ5 9)) H26))) fun J5 =>
    ob (vInt .add v13x3 (.int .i64 1)) fun v18x27 =>
    ob (vInt .lss v18x27 (σ1 2)) fun v20x28 =>
    gop v20x28 true (fun K29 => K29 (σ1 0) H1) H1 fun v22x30 H31 =>
    gop v20x28 true (fun K32 => K32 (σ1 3) H31) H31 fun v23x33 H34 =>
    gop v20x28 true (fun K35 => K35 v13x3 H34) H34 fun v24x36 H37 =>
    gop v20x28 true (fun K38 => ob (vInt .add v23x33 v24x36) fun u => K38 u H37) H37 fun v25x39 H40 =>
    gop v20x28 true (fun K41 => ob (vIx 1 v22x30 v25x39) fun u => K41 u H40) H40 fun v26x42 H43 =>
    gop v20x28 true (fun K44 => ob (vLoad v26x42 H43) fun u => K44 u H43) H43 fun v27x45 H46 =>
    gop v20x28 true (fun K47 => K47 (σ1 0) H46) H46 fun v28x48 H49 =>
    gop v20x28 true (fun K50 => K50 (σ1 3) H49) H49 fun v29x51 H52 =>
    gop v20x28 true (fun K53 => K53 v13x3 H52) H52 fun v30x54 H55 =>
    gop v20x28 true (fun K56 => ob (vInt .add v29x51 v30x54) fun u => K56 u H55) H55 fun v31x57 H58 =>
    gop v20x28 true (fun K59 => ob (vInt .add v31x57 (.int .i64 1)) fun u => K59 u H58) H58 fun v32x60 H61 =>
    gop v20x28 true (fun K62 => ob (vIx 1 v28x48 v32x60) fun u => K62 u H61) H61 fun v33x63 H64 =>
    gop v20x28 true (fun K65 => ob (vLoad v33x63 H64) fun u => K65 u H64) H64 fun v34x66 H67 =>
    gop v20x28 true (fun K68 => HT prg I.cmp_Less_int64 [v27x45, v34x66].toArray H67 fun v35x69 H70 =>
    Le H67 H70 ∧ K68 v35x69 H70) H67 fun v35x71 H72 =>
    ob (vPick v20x28 v35x71 (.bool false)) fun v36x73 =>
    cnd v36x73
      (ob (vInt .add v13x3 (.int .i64 1)) fun v38x74 =>
      J5 (up (up (up (up (up (up (up (up (up (up (up (up (up (up (up (up (up (up (up (up (up (up (up (up (up (up (up (up (up (up σ1 11 (σ1 8)) 12 v12x2) 13 v13x3) 9 v13x3) 14 v13x3) 15 (σ1 2)) 16 v16x4) 17 v13x3) 18 v18x27) 19 (σ1 2)) 20 v20x28) 21 v20x28) 22 v22x30) 23 v23x33) 24 v24x36) 25 v25x39) 26 v26x42) 27 v27x45) 28 v28x48) 29 v29x51) 30 v30x54) 31 v31x57) 32 v32x60) 33 v33x63) 34 v34x66) 35 v35x71) 36 v36x73) 37 v13x3) 38 v38x74) 9 v38x74) H72)
      (J5 (up (up (up (up (up (up (up (up (up (up (up (up (up (up (up (up (up (up (up (up (up (up (up (up (up (up (up σ1 11 (σ1 8)) 12 v12x2) 13 v13x3) 9 v13x3) 14 v13x3) 15 (σ1 2)) 16 v16x4) 17 v13x3) 18 v18x27) 19 (σ1 2)) 20 v20x28) 21 v20x28) 22 v22x30) 23 v23x33) 24 v24x36) 25 v25x39) 26 v26x42) 27 v27x45) 28 v28x48) 29 v29x51) 30 v30x54) 31 v31x57) 32 v32x60) 33 v33x63) 34 v34x66) 35 v35x71) 36 v36x73) H72))) (blkQ 0 (retQ prg [] K)) (up (up (S0 [a0, a1, a2, a3]) 10 a1) 8 a1) H
def O.slices_siftDownOrdered_int64 : Nat → Nat × List Nat := fun i => bif Nat.beq i 5 then (0, [0, 1, 2, 3, 4, 5, 6, 7, 8, 9, 10, 11, 12, 13]) else bif Nat.beq i 6 then (0, [0, 1, 2, 3, 4, 5, 6, 7, 8, 9, 10, 11, 12, 13, 14, 15, 16, 17, 18, 19, 20, 21, 22, 23]) else bif Nat.beq i 3 then (0, [0, 1, 2, 3, 4, 5, 6, 7, 8, 9, 10, 11, 12, 13, 14, 15, 16, 17, 18, 19]) else (0, [])
theorem R.slices_siftDownOrdered_int64 {a0 a1 a2 a3 : Value} {H : Hp} {K : Value → Hp → Prop} (h : F.slices_siftDownOrdered_int64 a0 a1 a2 a3 H K) : HT prg I.slices_siftDownOrdered_int64 [a0, a1, a2, a3].toArray H K :=
  HT_of_fev O.slices_siftDownOrdered_int64 mixed Try.func217 (by kernel_rfl) (Eq.mpr (by kernel_rfl : fev prg O.slices_siftDownOrdered_int64 Try.f217 [a0, a1, a2, a3] H K = F.slices_siftDownOrdered_int64 a0 a1 a2 a3 H K) h)

/-! slices.heapSortOrdered[int64]: function 207 -/
def F.slices_heapSortOrdered_int64 (a0 a1 a2 : Value) (H : Hp) (K : Value → Hp → Prop) : Prop :=
  ob (vInt .sub a2 a1) fun v14x1 =>
  jn (fun σ2 H2 =>
    ob (vInt .sub (σ2 8) (.int .i64 1)) fun v28x3 =>
    lpE (fun Q4 σ4 H4 =>
      ob (vInt .geq (σ4 10) (.int .i64 0)) fun v30x5 =>
      cnd v30x5
        (ob (vInt .add (σ4 6) (σ4 10)) fun v38x6 =>
      ob (vInt .add (σ4 6) (σ4 10)) fun v42x7 =>
      ob (vIx 1 (σ4 0) v42x7) fun v43x8 =>
      ob (vLoad v43x8 H4) fun v44x9 =>
      ob (vIx 1 (σ4 0) (σ4 6)) fun v47x10 =>
      ob (vLoad v47x10 H4) fun v48x11 =>
      ob (vIx 1 (σ4 0) (σ4 6)) fun v49x12 =>
      st 1 v49x12 v44x9 H4 fun H13 =>
      ob (vIx 1 (σ4 0) v38x6) fun v50x14 =>
      st 1 v50x14 v48x11 H13 fun H15 =>
      HT prg I.slices_siftDownOrdered_int64 [(σ4 0), (σ4 7), (σ4 10), (σ4 6)].toArray H15 fun v55x16 H17 =>
      ob (vInt .sub (σ4 10) (.int .i64 1)) fun v32x18 =>
      Q4 .normal (up (up (up (up (up (up (up (up (up (up (up (up (up (up (up (up (up (up (up (up (up (up (up (up (up (up (up (up σ4 29 (σ4 10)) 30 v30x5) 33 (σ4 0)) 34 (σ4 6)) 35 (σ4 0)) 36 (σ4 6)) 37 (σ4 10)) 38 v38x6) 39 (σ4 0)) 40 (σ4 6)) 41 (σ4 10)) 42 v42x7) 43 v43x8) 44 v44x9) 45 (σ4 0)) 46 (σ4 6)) 47 v47x10) 48 v48x11) 49 v49x12) 50 v50x14) 51 (σ4 0)) 52 (σ4 7)) 53 (σ4 10)) 54 (σ4 6)) 55 v55x16) 31 (σ4 10)) 32 v32x18) 10 v32x18) H17)
        (Q4 (.exit 2) (up (up σ4 29 (σ4 10)) 30 v30x5) H4)) (blkQ 2 (retQ prg [] K)) (up (up (up σ2 27 (σ2 8)) 28 v28x3) 10 v28x3) H2) fun J2 =>
  ob (vInt .sub v14x1 (.int .i64 1)) fun v16x19 =>
  ob (vInt .quo v16x19 (.int .i64 2)) fun v17x20 =>
  lpE (fun Q21 σ21 H21 =>
    ob (vInt .geq (σ21 9) (.int .i64 0)) fun v19x22 =>
    cnd v19x22
      (HT prg I.slices_siftDownOrdered_int64 [(σ21 0), (σ21 9), (σ21 8), (σ21 6)].toArray H21 fun v26x23 H24 =>
    ob (vInt .sub (σ21 9) (.int .i64 1)) fun v21x25 =>
    Q21 .normal (up (up (up (up (up (up (up (up (up (up σ21 18 (σ21 9)) 19 v19x22) 22 (σ21 0)) 23 (σ21 9)) 24 (σ21 8)) 25 (σ21 6)) 26 v26x23) 20 (σ21 9)) 21 v21x25) 9 v21x25) H24)
      (Q21 (.exit 0) (up (up σ21 18 (σ21 9)) 19 v19x22) H21)) (blkQ 0 (thenQ J2 (retQ prg [] K))) (up (up (up (up (up (up (up (up (up (up (up (S0 [a0, a1, a2]) 11 a1) 6 a1) 7 (.int .i64 0)) 12 a2) 13 a1) 14 v14x1) 8 v14x1) 15 v14x1) 16 v16x19) 17 v17x20) 9 v17x20) H
def O.slices_heapSortOrdered_int64 : Nat → Nat × List Nat := fun i => bif Nat.beq i 10 then (0, [0, 1, 2, 3, 4, 5, 6, 7, 8, 9, 10, 11, 12, 13, 14, 15, 16, 17, 18, 19]) else (0, [])
theorem R.slices_heapSortOrdered_int64 {a0 a1 a2 : Value} {H : Hp} {K : Value → Hp → Prop} (h : F.slices_heapSortOrdered_int64 a0 a1 a2 H K) : HT prg I.slices_heapSortOrdered_int64 [a0, a1, a2].toArray H K :=
  HT_of_fev O.slices_heapSortOrdered_int64 mixed Try.func207 (by kernel_rfl) (Eq.mpr (by kernel_rfl : fev prg O.slices_heapSortOrdered_int64 Try.f207 [a0, a1, a2] H K = F.slices_heapSortOrdered_int64 a0 a1 a2 H K) h)

/-! math/bits.Len32: function 215 -/
def F.math_bits_Len32 (a0 : Value) (H : Hp) (K : Value → Hp → Prop) : Prop :=
  jn (fun σ1 H1 =>
    ob (vInt .geq (σ1 0) (.int .u32 256)) fun v8x2 =>
    cnd v8x2
      (ob (vInt .shr (σ1 0) (.int .u64 8)) fun v10x3 =>
      ob (vInt .add (σ1 2) (.int .i64 8)) fun v12x4 =>
      ob (vCI .u8 v10x3) fun v15x5 =>
    ob (vIndexS (.string ⟨#[0, 1, 2, 2, 3, 3, 3, 3, 4, 4, 4, 4, 4, 4, 4, 4, 5, 5, 5, 5, 5, 5, 5, 5, 5, 5, 5, 5, 5, 5, 5, 5, 6, 6, 6, 6, 6, 6, 6, 6, 6, 6, 6, 6, 6, 6, 6, 6, 6, 6, 6, 6, 6, 6, 6, 6, 6, 6, 6, 6, 6, 6, 6, 6, 7, 7, 7, 7, 7, 7, 7, 7, 7, 7, 7, 7, 7, 7, 7, 7, 7, 7, 7, 7, 7, 7, 7, 7, 7, 7, 7, 7, 7, 7, 7, 7, 7, 7, 7, 7, 7, 7, 7, 7, 7, 7, 7, 7, 7, 7, 7, 7, 7, 7, 7, 7, 7, 7, 7, 7, 7, 7, 7, 7, 7, 7, 7, 7, 8, 8, 8, 8, 8, 8, 8, 8, 8, 8, 8, 8, 8, 8, 8, 8, 8, 8, 8, 8, 8, 8, 8, 8, 8, 8, 8, 8, 8, 8, 8, 8, 8, 8, 8, 8, 8, 8, 8, 8, 8, 8, 8, 8, 8, 8, 8, 8, 8, 8, 8, 8, 8, 8, 8, 8, 8, 8, 8, 8, 8, 8, 8, 8, 8, 8, 8, 8, 8, 8, 8, 8, 8, 8, 8, 8, 8, 8, 8, 8, 8, 8, 8, 8, 8, 8, 8, 8, 8, 8, 8, 8, 8, 8, 8, 8, 8, 8, 8, 8, 8, 8, 8, 8, 8, 8, 8, 8, 8, 8, 8, 8, 8, 8, 8, 8, 8, 8, 8, 8, 8, 8, 8, 8, 8, 8, 8, 8]⟩) v15x5) fun v16x6 =>
    ob (vCI .i64 v16x6) fun v17x7 =>
    ob (vInt .add v12x4 v17x7) fun v18x8 =>
    K v18x8 H1)
      (ob (vCI .u8 (σ1 0)) fun v15x9 =>
    ob (vIndexS (.string ⟨#[0, 1, 2, 2, 3, 3, 3, 3, 4, 4, 4, 4, 4, 4, 4, 4, 5, 5, 5, 5, 5, 5, 5, 5, 5, 5, 5, 5, 5, 5, 5, 5, 6, 6, 6, 6, 6, 6, 6, 6, 6, 6, 6, 6, 6, 6, 6, 6, 6, 6, 6, 6, 6, 6, 6, 6, 6, 6, 6, 6, 6, 6, 6, 6, 7, 7, 7, 7, 7, 7, 7, 7, 7, 7, 7, 7, 7, 7, 7, 7, 7, 7, 7, 7, 7, 7, 7, 7, 7, 7, 7, 7, 7, 7, 7, 7, 7, 7, 7, 7, 7, 7, 7, 7, 7, 7, 7, 7, 7, 7, 7, 7, 7, 7, 7, 7, 7, 7, 7, 7, 7, 7, 7, 7, 7, 7, 7, 7, 8, 8, 8, 8, 8, 8, 8, 8, 8, 8, 8, 8, 8, 8, 8, 8, 8, 8, 8, 8, 8, 8, 8, 8, 8, 8, 8, 8, 8, 8, 8, 8, 8, 8, 8, 8, 8, 8, 8, 8, 8, 8, 8, 8, 8, 8, 8, 8, 8, 8, 8, 8, 8, 8, 8, 8, 8, 8, 8, 8, 8, 8, 8, 8, 8, 8, 8, 8, 8, 8, 8, 8, 8, 8, 8, 8, 8, 8, 8, 8, 8, 8, 8, 8, 8, 8, 8, 8, 8, 8, 8, 8, 8, 8, 8, 8, 8, 8, 8, 8, 8, 8, 8, 8, 8, 8, 8, 8, 8, 8, 8, 8, 8, 8, 8, 8, 8, 8, 8, 8, 8, 8, 8, 8, 8, 8, 8, 8]⟩) v15x9) fun v16x10 =>
    ob (vCI .i64 v16x10) fun v17x11 =>
    ob (vInt .add (σ1 2) v17x11) fun v18x12 =>
    K v18x12 H1)) fun J1 =>
  ob (vInt .geq a0 (.int .u32 65536)) fun v4x13 =>
  cnd v4x13
    (ob (vInt .shr a0 (.int .u64 16)) fun v6x14 =>
    J1 (up (up (up (up (up (up (up (S0 [a0]) 2 (.int .i64 0)) 3 a0) 4 v4x13) 5 a0) 6 v6x14) 0 v6x14) 2 (.int .i64 16)) H)
    (J1 (up (up (up (S0 [a0]) 2 (.int .i64 0)) 3 a0) 4 v4x13) H)
def O.math_bits_Len32 : Nat → Nat × List Nat := fun i => (0, [])
theorem R.math_bits_Len32 {a0 : Value} {H : Hp} {K : Value → Hp → Prop} (h : F.math_bits_Len32 a0 H K) : HT prg I.math_bits_Len32 [a0].toArray H K :=
  HT_of_fev O.math_bits_Len32 mixed Try.func215 (by kernel_rfl) (Eq.mpr (by kernel_rfl : fev prg O.math_bits_Len32 Try.f215 [a0] H K = F.math_bits_Len32 a0 H K) h)

/-! math/bits.Len64: function 216 -/
def F.math_bits_Len64 (a0 : Value) (H : Hp) (K : Value → Hp → Prop) : Prop :=
  jn (fun σ1 H1 =>
    jn (fun σ2 H2 =>
      ob (vInt .geq (σ2 0) (.int .u64 256)) fun v14x3 =>
      cnd v14x3
        (ob (vInt .shr (σ2 0) (.int .u64 8)) fun v16x4 =>
        ob (vInt .add (σ2 2) (.int .i64 8)) fun v18x5 =>
        ob (vCI .u8 v16x4) fun v21x6 =>
      ob (vIndexS (.string ⟨#[0, 1, 2, 2, 3, 3, 3, 3, 4, 4, 4, 4, 4, 4, 4, 4, 5, 5, 5, 5, 5, 5, 5, 5, 5, 5, 5, 5, 5, 5, 5, 5, 6, 6, 6, 6, 6, 6, 6, 6, 6, 6, 6, 6, 6, 6, 6, 6, 6, 6, 6, 6, 6, 6, 6, 6, 6, 6, 6, 6, 6, 6, 6, 6, 7, 7, 7, 7, 7, 7, 7, 7, 7, 7, 7, 7, 7, 7, 7, 7, 7, 7, 7, 7, 7, 7, 7, 7, 7, 7, 7, 7, 7, 7, 7, 7, 7, 7, 7, 7, 7, 7, 7, 7, 7, 7, 7, 7, 7, 7, 7, 7, 7, 7, 7, 7, 7, 7, 7, 7, 7, 7, 7, 7, 7, 7, 7, 7, 8, 8, 8, 8, 8, 8, 8, 8, 8, 8, 8, 8, 8, 8, 8, 8, 8, 8, 8, 8, 8, 8, 8, 8, 8, 8, 8, 8, 8, 8, 8, 8, 8, 8, 8, 8, 8, 8, 8, 8, 8, 8, 8, 8, 8, 8, 8, 8, 8, 8, 8, 8, 8, 8, 8, 8, 8, 8, 8, 8, 8, 8, 8, 8, 8, 8, 8, 8, 8, 8, 8, 8, 8, 8, 8, 8, 8, 8, 8, 8, 8, 8, 8, 8, 8, 8, 8, 8, 8, 8, 8, 8, 8, 8, 8, 8, 8, 8, 8, 8, 8, 8, 8, 8, 8, 8, 8, 8, 8, 8, 8, 8, 8, 8, 8, 8, 8, 8, 8, 8, 8, 8, 8, 8, 8, 8, 8, 8]⟩) v21x6) fun v22x7 =>
      ob (vCI .i64 v22x7) fun v23x8 =>
      ob (vInt .add v18x5 v23x8) fun v24x9 =>
      K v24x9 H2)
        (ob (vCI .u8 (σ2 0)) fun v21x10 =>
      ob (vIndexS (.string ⟨#[0, 1, 2, 2, 3, 3, 3, 3, 4, 4, 4, 4, 4, 4, 4, 4, 5, 5, 5, 5, 5, 5, 5, 5, 5, 5, 5, 5, 5, 5, 5, 5, 6, 6, 6, 6, 6, 6, 6, 6, 6, 6, 6, 6, 6, 6, 6, 6, 6, 6, 6, 6, 6, 6, 6, 6, 6, 6, 6, 6, 6, 6, 6, 6, 7, 7, 7, 7, 7, 7, 7, 7, 7, 7, 7, 7, 7, 7, 7, 7, 7, 7, 7, 7, 7, 7, 7, 7, 7, 7, 7, 7, 7, 7, 7, 7, 7, 7, 7, 7, 7, 7, 7, 7, 7, 7, 7, 7, 7, 7, 7, 7, 7, 7, 7, 7, 7, 7, 7, 7, 7, 7, 7, 7, 7, 7, 7, 7, 8, 8, 8, 8, 8, 8, 8, 8, 8, 8, 8, 8, 8, 8, 8, 8, 8, 8, 8, 8, 8, 8, 8, 8, 8, 8, 8, 8, 8, 8, 8, 8, 8, 8, 8, 8, 8, 8, 8, 8, 8, 8, 8, 8, 8, 8, 8, 8, 8, 8, 8, 8, 8, 8, 8, 8, 8, 8, 8, 8, 8, 8, 8, 8, 8, 8, 8, 8, 8, 8, 8, 8, 8, 8, 8, 8, 8, 8, 8, 8, 8, 8, 8, 8, 8, 8, 8, 8, 8, 8, 8, 8, 8, 8, 8, 8, 8, 8, 8, 8, 8, 8, 8, 8, 8, 8, 8, 8, 8, 8, 8, 8, 8, 8, 8, 8, 8, 8, 8, 8, 8, 8, 8, 8, 8, 8, 8, 8]⟩) v21x10) fun v22x11 =>
      ob (vCI .i64 v22x11) fun v23x12 =>
      ob (vInt .add (σ2 2) v23x12) fun v24x13 =>
      K v24x13 H2)) fun J2 =>
    ob (vInt .geq (σ1 0) (.int .u64 65536)) fun v8x14 =>
    cnd v8x14
      (ob (vInt .shr (σ1 0) (.int .u64 16)) fun v10x15 =>
      ob (vInt .add (σ1 2) (.int .i64 16)) fun v12x16 =>
      J2 (up (up (up (up (up (up (up (up σ1 7 (σ1 0)) 8 v8x14) 9 (σ1 0)) 10 v10x15) 0 v10x15) 11 (σ1 2)) 12 v12x16) 2 v12x16) H1)
      (J2 (up (up σ1 7 (σ1 0)) 8 v8x14) H1)) fun J1 =>
  ob (vInt .geq a0 (.int .u64 4294967296)) fun v4x17 =>
  cnd v4x17
    (ob (vInt .shr a0 (.int .u64 32)) fun v6x18 =>
    J1 (up (up (up (up (up (up (up (S0 [a0]) 2 (.int .i64 0)) 3 a0) 4 v4x17) 5 a0) 6 v6x18) 0 v6x18) 2 (.int .i64 32)) H)
    (J1 (up (up (up (S0 [a0]) 2 (.int .i64 0)) 3 a0) 4 v4x17) H)
def O.math_bits_Len64 : Nat → Nat × List Nat := fun i => (0, [])
theorem R.math_bits_Len64 {a0 : Value} {H : Hp} {K : Value → Hp → Prop} (h : F.math_bits_Len64 a0 H K) : HT prg I.math_bits_Len64 [a0].toArray H K :=
  HT_of_fev O.math_bits_Len64 mixed Try.func216 (by kernel_rfl) (Eq.mpr (by kernel_rfl : fev prg O.math_bits_Len64 Try.f216 [a0] H K = F.math_bits_Len64 a0 H K) h)

/-! math/bits.Len: function 197 -/
def F.math_bits_Len (a0 : Value) (H : Hp) (K : Value → Hp → Prop) : Prop :=
  cnd (.bool false)
    (ob (vCI .u32 a0) fun v4x1 =>
    HT prg I.math_bits_Len32 [v4x1].toArray H fun v5x2 H3 =>
    K v5x2 H3)
    (HT prg I.math_bits_Len64 [a0].toArray H fun v7x4 H5 =>
  K v7x4 H5)
def O.math_bits_Len : Nat → Nat × List Nat := fun i => (0, [])
theorem R.math_bits_Len {a0 : Value} {H : Hp} {K : Value → Hp → Prop} (h : F.math_bits_Len a0 H K) : HT prg I.math_bits_Len [a0].toArray H K :=
  HT_of_fev O.math_bits_Len mixed Try.func197 (by kernel_rfl) (Eq.mpr (by kernel_rfl : fev prg O.math_bits_Len Try.f197 [a0] H K = F.math_bits_Len a0 H K) h)

/-! slices.nextPowerOfTwo: function 218 -/
def F.slices_nextPowerOfTwo (a0 : Value) (H : Hp) (K : Value → Hp → Prop) : Prop :=
  ob (vCI .u64 a0) fun v4x1 =>
  HT prg I.math_bits_Len [v4x1].toArray H fun v5x2 H3 =>
  ob (vInt .shl (.int .u64 1) v5x2) fun v6x4 =>
  K v6x4 H3
def O.slices_nextPowerOfTwo : Nat → Nat × List Nat := fun i => (0, [])
theorem R.slices_nextPowerOfTwo {a0 : Value} {H : Hp} {K : Value → Hp → Prop} (h : F.slices_nextPowerOfTwo a0 H K) : HT prg I.slices_nextPowerOfTwo [a0].toArray H K :=
  HT_of_fev O.slices_nextPowerOfTwo mixed Try.func218 (by kernel_rfl) (Eq.mpr (by kernel_rfl : fev prg O.slices_nextPowerOfTwo Try.f218 [a0] H K = F.slices_nextPowerOfTwo a0 H K) h)

/-! (*slices.xorshift).Next: function 219 -/
def F.pslices_xorshift_Next (a0 : Value) (H : Hp) (K : Value → Hp → Prop) : Prop :=
  ob (vNilC a0) fun v4x1 =>
  ob (vLoad v4x1 H) fun v5x2 =>
  ob (vNilC a0) fun v7x3 =>
  ob (vLoad v7x3 H) fun v8x4 =>
  ob (vInt .shl v8x4 (.int .u64 13)) fun v9x5 =>
  ob (vInt .xor v5x2 v9x5) fun v10x6 =>
  ob (vNilC a0) fun v11x7 =>
  st 1 v11x7 v10x6 H fun H8 =>
  ob (vNilC a0) fun v13x9 =>
  ob (vLoad v13x9 H8) fun v14x10 =>
  ob (vNilC a0) fun v16x11 =>
  ob (vLoad v16x11 H8) fun v17x12 =>
  ob (vInt .shr v17x12 (.int .u64 7)) fun v18x13 =>
  ob (vInt .xor v14x10 v18x13) fun v19x14 =>
  ob (vNilC a0) fun v20x15 =>
  st 1 v20x15 v19x14 H8 fun H16 =>
  ob (vNilC a0) fun v22x17 =>
  ob (vLoad v22x17 H16) fun v23x18 =>
  ob (vNilC a0) fun v25x19 =>
  ob (vLoad v25x19 H16) fun v26x20 =>
  ob (vInt .shl v26x20 (.int .u64 17)) fun v27x21 =>
  ob (vInt .xor v23x18 v27x21) fun v28x22 =>
  ob (vNilC a0) fun v29x23 =>
  st 1 v29x23 v28x22 H16 fun H24 =>
  ob (vNilC a0) fun v31x25 =>
  ob (vLoad v31x25 H24) fun v32x26 =>
  K v32x26 H24
def O.pslices_xorshift_Next : Nat → Nat × List Nat := fun i => bif Nat.beq i 1 then (0, [0, 1, 2, 3, 4, 5, 6, 7, 8, 9]) else bif Nat.beq i 2 then (0, [0, 1, 2, 3, 4, 5, 6, 7, 8, 9]) else bif Nat.beq i 3 then (0, [0, 1, 2, 3, 4, 5, 6, 7, 8, 9]) else (0, [])
theorem R.pslices_xorshift_Next {a0 : Value} {H : Hp} {K : Value → Hp → Prop} (h : F.pslices_xorshift_Next a0 H K) : HT prg I.pslices_xorshift_Next [a0].toArray H K :=
  HT_of_fev O.pslices_xorshift_Next mixed Try.func219 (by kernel_rfl) (Eq.mpr (by kernel_rfl : fev prg O.pslices_xorshift_Next Try.f219 [a0] H K = F.pslices_xorshift_Next a0 H K) h)

/-! slices.breakPatternsOrdered[int64]: function 208 -/
def F.slices_breakPatternsOrdered_int64 (a0 a1 a2 : Value) (H : Hp) (K : Value → Hp → Prop) : Prop :=
  ob (vInt .sub a2 a1) fun v13x1 =>
  ob (vInt .geq v13x1 (.int .i64 8)) fun v15x2 =>
  cnd v15x2
    (ob (vCI .u64 v13x1) fun v17x3 =>
    nw #[(.int .u64 0)] 185 H fun v7x4 H5 =>
    st 1 v7x4 v17x3 H5 fun H6 =>
    HT prg I.slices_nextPowerOfTwo [v13x1].toArray H6 fun v19x7 H8 =>
    ob (vInt .quo v13x1 (.int .i64 4)) fun v22x9 =>
    ob (vInt .mul v22x9 (.int .i64 2)) fun v23x10 =>
    ob (vInt .add a1 v23x10) fun v24x11 =>
    ob (vInt .sub v24x11 (.int .i64 1)) fun v25x12 =>
    lpE (fun Q13 σ13 H13 =>
      ob (vInt .quo (σ13 6) (.int .i64 4)) fun v29x14 =>
      ob (vInt .mul v29x14 (.int .i64 2)) fun v30x15 =>
      ob (vInt .add (σ13 1) v30x15) fun v31x16 =>
      ob (vInt .add v31x16 (.int .i64 1)) fun v32x17 =>
      ob (vInt .leq (σ13 9) v32x17) fun v33x18 =>
      cnd v33x18
        (HT prg I.pslices_xorshift_Next [(σ13 7)].toArray H13 fun v36x19 H20 =>
      ob (vInt .sub (σ13 8) (.int .u64 1)) fun v38x21 =>
      ob (vInt .and v36x19 v38x21) fun v39x22 =>
      ob (vCI .i64 v39x22) fun v40x23 =>
      jn (fun σ24 H24 =>
        ob (vInt .add (σ24 1) (σ24 10)) fun v52x25 =>
        ob (vInt .add (σ24 1) (σ24 10)) fun v56x26 =>
        ob (vIx 1 (σ24 0) v56x26) fun v57x27 =>
        ob (vLoad v57x27 H24) fun v58x28 =>
        ob (vIx 1 (σ24 0) (σ24 9)) fun v61x29 =>
        ob (vLoad v61x29 H24) fun v62x30 =>
        ob (vIx 1 (σ24 0) (σ24 9)) fun v63x31 =>
        st 1 v63x31 v58x28 H24 fun H32 =>
        ob (vIx 1 (σ24 0) v52x25) fun v64x33 =>
        st 1 v64x33 v62x30 H32 fun H34 =>
        ob (vInt .add (σ24 9) (.int .i64 1)) fun v35x35 =>
      Q13 .normal (up (up (up (up (up (up (up (up (up (up (up (up (up (up (up (up (up (up (up (up (up σ24 47 (σ24 0)) 48 (σ24 9)) 49 (σ24 0)) 50 (σ24 1)) 51 (σ24 10)) 52 v52x25) 53 (σ24 0)) 54 (σ24 1)) 55 (σ24 10)) 56 v56x26) 57 v57x27) 58 v58x28) 59 (σ24 0)) 60 (σ24 9)) 61 v61x29) 62 v62x30) 63 v63x31) 64 v64x33) 34 (σ24 9)) 35 v35x35) 9 v35x35) H34) fun J24 =>
      ob (vInt .geq v40x23 (σ13 6)) fun v43x36 =>
      cnd v43x36
        (ob (vInt .sub v40x23 (σ13 6)) fun v46x37 =>
        J24 (up (up (up (up (up (up (up (up (up (up (up (up (up (up (up (up (up (up (up (up (up σ13 26 (σ13 9)) 27 (σ13 1)) 28 (σ13 6)) 29 v29x14) 30 v30x15) 31 v31x16) 32 v32x17) 33 v33x18) 36 v36x19) 37 (σ13 8)) 38 v38x21) 39 v39x22) 40 v40x23) 10 v40x23) 41 v40x23) 42 (σ13 6)) 43 v43x36) 44 v40x23) 45 (σ13 6)) 46 v46x37) 10 v46x37) H20)
        (J24 (up (up (up (up (up (up (up (up (up (up (up (up (up (up (up (up (up σ13 26 (σ13 9)) 27 (σ13 1)) 28 (σ13 6)) 29 v29x14) 30 v30x15) 31 v31x16) 32 v32x17) 33 v33x18) 36 v36x19) 37 (σ13 8)) 38 v38x21) 39 v39x22) 40 v40x23) 10 v40x23) 41 v40x23) 42 (σ13 6)) 43 v43x36) H20))
        (Q13 (.exit 0) (up (up (up (up (up (up (up (up σ13 26 (σ13 9)) 27 (σ13 1)) 28 (σ13 6)) 29 v29x14) 30 v30x15) 31 v31x16) 32 v32x17) 33 v33x18) H13)) (blkQ 0 (retQ prg [] K)) (up (up (up (up (up (up (up (up (up (up (up (up (up (up (up (up (up (up (up (S0 [a0, a1, a2]) 11 a2) 12 a1) 13 v13x1) 6 v13x1) 14 v13x1) 15 v15x2) 16 v13x1) 17 v17x3) 7 v7x4) 18 v13x1) 19 v19x7) 8 v19x7) 20 a1) 21 v13x1) 22 v22x9) 23 v23x10) 24 v24x11) 25 v25x12) 9 v25x12) H8)
    (K (.tuple #[]) H)
def O.slices_breakPatternsOrdered_int64 : Nat → Nat × List Nat := fun i => bif Nat.beq i 10 then (0, [0, 1, 2, 3, 4, 5, 6, 7, 8, 9, 10, 11, 12, 13, 14, 15, 16, 17, 18, 19]) else (0, [])
theorem R.slices_breakPatternsOrdered_int64 {a0 a1 a2 : Value} {H : Hp} {K : Value → Hp → Prop} (h : F.slices_breakPatternsOrdered_int64 a0 a1 a2 H K) : HT prg I.slices_breakPatternsOrdered_int64 [a0, a1, a2].toArray H K :=
  HT_of_fev O.slices_breakPatternsOrdered_int64 mixed Try.func208 (by kernel_rfl) (Eq.mpr (by kernel_rfl : fev prg O.slices_breakPatternsOrdered_int64 Try.f208 [a0, a1, a2] H K = F.slices_breakPatternsOrdered_int64 a0 a1 a2 H K) h)

/-! slices.order2Ordered[int64]: function 222 -/
def F.slices_order2Ordered_int64 (a0 a1 a2 a3 : Value) (H : Hp) (K : Value → Hp → Prop) : Prop :=
  ob (vIx 1 a0 a2) fun v12x1 =>
  ob (vLoad v12x1 H) fun v13x2 =>
  ob (vIx 1 a0 a1) fun v16x3 =>
  ob (vLoad v16x3 H) fun v17x4 =>
  HT prg I.cmp_Less_int64 [v13x2, v17x4].toArray H fun v18x5 H6 =>
  Le H H6 ∧ (cnd v18x5
    (ob (vNilC a3) fun v20x7 =>
    ob (vLoad v20x7 H6) fun v21x8 =>
    ob (vInt .add v21x8 (.int .i64 1)) fun v22x9 =>
    ob (vNilC a3) fun v23x10 =>
    st 1 v23x10 v22x9 H6 fun H11 =>
    K (.tuple #[a2, a1]) H11)
    (K (.tuple #[a1, a2]) H6))
def O.slices_order2Ordered_int64 : Nat → Nat × List Nat := fun i => bif Nat.beq i 1 then (0, [0, 1, 2, 3, 4, 5, 6, 7, 8]) else (0, [])
theorem R.slices_order2Ordered_int64 {a0 a1 a2 a3 : Value} {H : Hp} {K : Value → Hp → Prop} (h : F.slices_order2Ordered_int64 a0 a1 a2 a3 H K) : HT prg I.slices_order2Ordered_int64 [a0, a1, a2, a3].toArray H K :=
  HT_of_fev O.slices_order2Ordered_int64 mixed Try.func222 (by kernel_rfl) (Eq.mpr (by kernel_rfl : fev prg O.slices_order2Ordered_int64 Try.f222 [a0, a1, a2, a3] H K = F.slices_order2Ordered_int64 a0 a1 a2 a3 H K) h)

/-! slices.medianOrdered[int64]: function 221 -/
def F.slices_medianOrdered_int64 (a0 a1 a2 a3 a4 : Value) (H : Hp) (K : Value → Hp → Prop) : Prop :=
  HT prg I.slices_order2Ordered_int64 [a0, a1, a2, a4].toArray H fun v16x1 H2 =>
  ob (vExt v16x1 0) fun v17x3 =>
  ob (vExt v16x1 1) fun v18x4 =>
  HT prg I.slices_order2Ordered_int64 [a0, v18x4, a3, a4].toArray H2 fun v24x5 H6 =>
  ob (vExt v24x5 0) fun v25x7 =>
  ob (vExt v24x5 1) fun v26x8 =>
  HT prg I.slices_order2Ordered_int64 [a0, v17x3, v25x7, a4].toArray H6 fun v32x9 H10 =>
  ob (vExt v32x9 0) fun v33x11 =>
  ob (vExt v32x9 1) fun v34x12 =>
  K v34x12 H10
def O.slices_medianOrdered_int64 : Nat → Nat × List Nat := fun i => (0, [])
theorem R.slices_medianOrdered_int64 {a0 a1 a2 a3 a4 : Value} {H : Hp} {K : Value → Hp → Prop} (h : F.slices_medianOrdered_int64 a0 a1 a2 a3 a4 H K) : HT prg I.slices_medianOrdered_int64 [a0, a1, a2, a3, a4].toArray H K :=
  HT_of_fev O.slices_medianOrdered_int64 mixed Try.func221 (by kernel_rfl) (Eq.mpr (by kernel_rfl : fev prg O.slices_medianOrdered_int64 Try.f221 [a0, a1, a2, a3, a4] H K = F.slices_medianOrdered_int64 a0 a1 a2 a3 a4 H K) h)

/-! slices.medianAdjacentOrdered[int64]: function 220 -/
def F.slices_medianAdjacentOrdered_int64 (a0 a1 a2 : Value) (H : Hp) (K : Value → Hp → Prop) : Prop :=
  ob (vInt .sub a1 (.int .i64 1)) fun v9x1 =>
  ob (vInt .add a1 (.int .i64 1)) fun v12x2 =>
  HT prg I.slices_medianOrdered_int64 [a0, v9x1, a1, v12x2, a2].toArray H fun v14x3 H4 =>
  K v14x3 H4
def O.slices_medianAdjacentOrdered_int64 : Nat → Nat × List Nat := fun i => (0, [])
theorem R.slices_medianAdjacentOrdered_int64 {a0 a1 a2 : Value} {H : Hp} {K : Value → Hp → Prop} (h : F.slices_medianAdjacentOrdered_int64 a0 a1 a2 H K) : HT prg I.slices_medianAdjacentOrdered_int64 [a0, a1, a2].toArray H K :=
  HT_of_fev O.slices_medianAdjacentOrdered_int64 mixed Try.func220 (by kernel_rfl) (Eq.mpr (by kernel_rfl : fev prg O.slices_medianAdjacentOrdered_int64 Try.f220 [a0, a1, a2] H K = F.slices_medianAdjacentOrdered_int64 a0 a1 a2 H K) h)

/-! slices.choosePivotOrdered[int64]: function 209 -/
def F.slices_choosePivotOrdered_int64 (a0 a1 a2 : Value) (H : Hp) (K : Value → Hp → Prop) : Prop :=
  ob (vInt .sub a2 a1) fun v15x1 =>
  nw #[(.int .i64 0)] 3 H fun v9x2 H3 =>
  ob (vInt .quo v15x1 (.int .i64 4)) fun v18x4 =>
  ob (vInt .mul v18x4 (.int .i64 1)) fun v19x5 =>
  ob (vInt .add a1 v19x5) fun v20x6 =>
  ob (vInt .quo v15x1 (.int .i64 4)) fun v23x7 =>
  ob (vInt .mul v23x7 (.int .i64 2)) fun v24x8 =>
  ob (vInt .add a1 v24x8) fun v25x9 =>
  ob (vInt .quo v15x1 (.int .i64 4)) fun v28x10 =>
  ob (vInt .mul v28x10 (.int .i64 3)) fun v29x11 =>
  ob (vInt .add a1 v29x11) fun v30x12 =>
  jn (fun σ13 H13 =>
    ob (vLoad (σ13 9) H13) fun v49x14 =>
    ob (vInt .eql v49x14 (.int .i64 0)) fun v52x15 =>
    cnd v52x15
      (K (.tuple #[(σ13 11), (.int .i64 1)]) H13)
      (ob (vInt .eql v49x14 (.int .i64 12)) fun v55x16 =>
      cnd v55x16
        (K (.tuple #[(σ13 11), (.int .i64 2)]) H13)
        (K (.tuple #[(σ13 11), (.int .i64 0)]) H13))) fun J13 =>
  ob (vInt .geq v15x1 (.int .i64 8)) fun v32x17 =>
  cnd v32x17
    (ob (vInt .geq v15x1 (.int .i64 50)) fun v34x18 =>
    cnd v34x18
      (HT prg I.slices_medianAdjacentOrdered_int64 [a0, v20x6, v9x2].toArray H3 fun v37x19 H20 =>
      HT prg I.slices_medianAdjacentOrdered_int64 [a0, v25x9, v9x2].toArray H20 fun v40x21 H22 =>
      HT prg I.slices_medianAdjacentOrdered_int64 [a0, v30x12, v9x2].toArray H22 fun v43x23 H24 =>
      HT prg I.slices_medianOrdered_int64 [a0, v37x19, v40x21, v43x23, v9x2].toArray H24 fun v48x25 H26 =>
    J13 (up (up (up (up (up (up (up (up (up (up (up (up (up (up (up (up (up (up (up (up (up (up (up (up (up (up (up (up (up (up (up (up (up (up (up (up (up (up (up (up (up (up (up (up (up (up (up (S0 [a0, a1, a2]) 6 (.int .i64 0)) 7 (.int .i64 0)) 13 a2) 14 a1) 15 v15x1) 8 v15x1) 9 v9x2) 16 a1) 17 v15x1) 18 v18x4) 19 v19x5) 20 v20x6) 10 v20x6) 21 a1) 22 v15x1) 23 v23x7) 24 v24x8) 25 v25x9) 11 v25x9) 26 a1) 27 v15x1) 28 v28x10) 29 v29x11) 30 v30x12) 12 v30x12) 31 v15x1) 32 v32x17) 33 v15x1) 34 v34x18) 35 a0) 36 v20x6) 37 v37x19) 10 v37x19) 38 a0) 39 v25x9) 40 v40x21) 11 v40x21) 41 a0) 42 v30x12) 43 v43x23) 12 v43x23) 44 a0) 45 v37x19) 46 v40x21) 47 v43x23) 48 v48x25) 11 v48x25) H26)
      (HT prg I.slices_medianOrdered_int64 [a0, v20x6, v25x9, v30x12, v9x2].toArray H3 fun v48x27 H28 =>
    J13 (up (up (up (up (up (up (up (up (up (up (up (up (up (up (up (up (up (up (up (up (up (up (up (up (up (up (up (up (up (up (up (up (up (up (up (S0 [a0, a1, a2]) 6 (.int .i64 0)) 7 (.int .i64 0)) 13 a2) 14 a1) 15 v15x1) 8 v15x1) 9 v9x2) 16 a1) 17 v15x1) 18 v18x4) 19 v19x5) 20 v20x6) 10 v20x6) 21 a1) 22 v15x1) 23 v23x7) 24 v24x8) 25 v25x9) 11 v25x9) 26 a1) 27 v15x1) 28 v28x10) 29 v29x11) 30 v30x12) 12 v30x12) 31 v15x1) 32 v32x17) 33 v15x1) 34 v34x18) 44 a0) 45 v20x6) 46 v25x9) 47 v30x12) 48 v48x27) 11 v48x27) H28))
    (J13 (up (up (up (up (up (up (up (up (up (up (up (up (up (up (up (up (up (up (up (up (up (up (up (up (up (up (up (S0 [a0, a1, a2]) 6 (.int .i64 0)) 7 (.int .i64 0)) 13 a2) 14 a1) 15 v15x1) 8 v15x1) 9 v9x2) 16 a1) 17 v15x1) 18 v18x4) 19 v19x5) 20 v20x6) 10 v20x6) 21 a1) 22 v15x1) 23 v23x7) 24 v24x8) 25 v25x9) 11 v25x9) 26 a1) 27 v15x1) 28 v28x10) 29 v29x11) 30 v30x12) 12 v30x12) 31 v15x1) 32 v32x17) H3)
def O.slices_choosePivotOrdered_int64 : Nat → Nat × List Nat := fun i => (0, [])
theorem R.slices_choosePivotOrdered_int64 {a0 a1 a2 : Value} {H : Hp} {K : Value → Hp → Prop} (h : F.slices_choosePivotOrdered_int64 a0 a1 a2 H K) : HT prg I.slices_choosePivotOrdered_int64 [a0, a1, a2].toArray H K :=
  HT_of_fev O.slices_choosePivotOrdered_int64 mixed Try.func209 (by kernel_rfl) (Eq.mpr (by kernel_rfl : fev prg O.slices_choosePivotOrdered_int64 Try.f209 [a0, a1, a2] H K = F.slices_choosePivotOrdered_int64 a0 a1 a2 H K) h)

/-! slices.reverseRangeOrdered[int64]: function 210 -/
def F.slices_reverseRangeOrdered_int64 (a0 a1 a2 : Value) (H : Hp) (K : Value → Hp → Prop) : Prop :=
  ob (vInt .sub a2 (.int .i64 1)) fun v10x1 =>
  lpE (fun Q2 σ2 H2 =>
    ob (vInt .lss (σ2 6) (σ2 7)) fun v13x3 =>
    cnd v13x3
      (ob (vIx 1 (σ2 0) (σ2 7)) fun v20x4 =>
    ob (vLoad v20x4 H2) fun v21x5 =>
    ob (vIx 1 (σ2 0) (σ2 6)) fun v24x6 =>
    ob (vLoad v24x6 H2) fun v25x7 =>
    ob (vIx 1 (σ2 0) (σ2 6)) fun v26x8 =>
    st 1 v26x8 v21x5 H2 fun H9 =>
    ob (vIx 1 (σ2 0) (σ2 7)) fun v27x10 =>
    st 1 v27x10 v25x7 H9 fun H11 =>
    ob (vInt .add (σ2 6) (.int .i64 1)) fun v29x12 =>
    ob (vInt .sub (σ2 7) (.int .i64 1)) fun v31x13 =>
    Q2 .normal (up (up (up (up (up (up (up (up (up (up (up (up (up (up (up (up (up (up (up (up (up (up (up σ2 11 (σ2 6)) 12 (σ2 7)) 13 v13x3) 14 (σ2 0)) 15 (σ2 6)) 16 (σ2 0)) 17 (σ2 7)) 18 (σ2 0)) 19 (σ2 7)) 20 v20x4) 21 v21x5) 22 (σ2 0)) 23 (σ2 6)) 24 v24x6) 25 v25x7) 26 v26x8) 27 v27x10) 28 (σ2 6)) 29 v29x12) 6 v29x12) 30 (σ2 7)) 31 v31x13) 7 v31x13) H11)
      (Q2 (.exit 0) (up (up (up σ2 11 (σ2 6)) 12 (σ2 7)) 13 v13x3) H2)) (blkQ 0 (retQ prg [] K)) (up (up (up (up (up (S0 [a0, a1, a2]) 8 a1) 6 a1) 9 a2) 10 v10x1) 7 v10x1) H
def O.slices_reverseRangeOrdered_int64 : Nat → Nat × List Nat := fun i => bif Nat.beq i 3 then (0, [0, 1, 2, 3, 4, 5, 6, 7, 8, 9, 10, 11, 12, 13, 14, 15]) else (0, [])
theorem R.slices_reverseRangeOrdered_int64 {a0 a1 a2 : Value} {H : Hp} {K : Value → Hp → Prop} (h : F.slices_reverseRangeOrdered_int64 a0 a1 a2 H K) : HT prg I.slices_reverseRangeOrdered_int64 [a0, a1, a2].toArray H K :=
  HT_of_fev O.slices_reverseRangeOrdered_int64 mixed Try.func210 (by kernel_rfl) (Eq.mpr (by kernel_rfl : fev prg O.slices_reverseRangeOrdered_int64 Try.f210 [a0, a1, a2] H K = F.slices_reverseRangeOrdered_int64 a0 a1 a2 H K) h)

/-! slices.partialInsertionSortOrdered[int64]: function 211 -/
def F.slices_partialInsertionSortOrdered_int64 (a0 a1 a2 : Value) (H : Hp) (K : Value → Hp → Prop) : Prop :=
  ob (vInt .add a1 (.int .i64 1)) fun v12x1 =>
  jn (fun σ2 H2 =>
    K (.bool false) H2) fun J2 =>
  lpE (fun Q3 σ3 H3 =>
    ob (vInt .lss (σ3 8) (.int .i64 5)) fun v14x4 =>
    cnd v14x4
      (jn (fun σ5 H5 =>
      ob (vInt .add (σ5 8) (.int .i64 1)) fun v16x6 =>
      Q3 .normal (up (up (up σ5 15 (σ5 8)) 16 v16x6) 8 v16x6) H5) fun J5 =>
    jn (fun σ7 H7 =>
      ob (vInt .eql (σ7 7) (σ7 2)) fun v37x8 =>
      cnd v37x8
        (Q3 .ret (up (up (up (up σ7 35 (σ7 7)) 36 (σ7 2)) 37 v37x8) 6 (.bool true)) H7)
        (ob (vInt .sub (σ7 2) (σ7 1)) fun v40x9 =>
      ob (vInt .lss v40x9 (.int .i64 50)) fun v41x10 =>
      cnd v41x10
        (Q3 .ret (up (up (up (up (up (up (up (up σ7 35 (σ7 7)) 36 (σ7 2)) 37 v37x8) 38 (σ7 2)) 39 (σ7 1)) 40 v40x9) 41 v41x10) 6 (.bool false)) H7)
        (ob (vInt .sub (σ7 7) (.int .i64 1)) fun v46x11 =>
      ob (vInt .sub (σ7 7) (.int .i64 1)) fun v49x12 =>
      ob (vIx 1 (σ7 0) v49x12) fun v50x13 =>
      ob (vLoad v50x13 H7) fun v51x14 =>
      ob (vIx 1 (σ7 0) (σ7 7)) fun v54x15 =>
      ob (vLoad v54x15 H7) fun v55x16 =>
      ob (vIx 1 (σ7 0) (σ7 7)) fun v56x17 =>
      st 1 v56x17 v51x14 H7 fun H18 =>
      ob (vIx 1 (σ7 0) v46x11) fun v57x19 =>
      st 1 v57x19 v55x16 H18 fun H20 =>
      jn (fun σ21 H21 =>
        ob (vInt .sub (σ21 2) (σ21 7)) fun v97x22 =>
        ob (vInt .geq v97x22 (.int .i64 2)) fun v98x23 =>
        cnd v98x23
          (ob (vInt .add (σ21 7) (.int .i64 1)) fun v100x24 =>
          lpE (fun Q25 σ25 H25 =>
            ob (vInt .lss (σ25 10) (σ25 2)) fun v103x26 =>
            cnd v103x26
              (ob (vIx 1 (σ25 0) (σ25 10)) fun v108x27 =>
            ob (vLoad v108x27 H25) fun v109x28 =>
            ob (vInt .sub (σ25 10) (.int .i64 1)) fun v112x29 =>
            ob (vIx 1 (σ25 0) v112x29) fun v113x30 =>
            ob (vLoad v113x30 H25) fun v114x31 =>
            HT prg I.cmp_Less_int64 [v109x28, v114x31].toArray H25 fun v115x32 H33 =>
            Le H25 H33 ∧ (ob (vUn .not v115x32) fun v116x34 =>
            cnd v116x34
              (Q25 (.exit 6) (up (up (up (up (up (up (up (up (up (up (up (up (up (up σ25 101 (σ25 10)) 102 (σ25 2)) 103 v103x26) 106 (σ25 0)) 107 (σ25 10)) 108 v108x27) 109 v109x28) 110 (σ25 0)) 111 (σ25 10)) 112 v112x29) 113 v113x30) 114 v114x31) 115 v115x32) 116 v116x34) H33)
              (ob (vInt .sub (σ25 10) (.int .i64 1)) fun v121x35 =>
            ob (vInt .sub (σ25 10) (.int .i64 1)) fun v124x36 =>
            ob (vIx 1 (σ25 0) v124x36) fun v125x37 =>
            ob (vLoad v125x37 H33) fun v126x38 =>
            ob (vIx 1 (σ25 0) (σ25 10)) fun v129x39 =>
            ob (vLoad v129x39 H33) fun v130x40 =>
            ob (vIx 1 (σ25 0) (σ25 10)) fun v131x41 =>
            st 1 v131x41 v126x38 H33 fun H42 =>
            ob (vIx 1 (σ25 0) v121x35) fun v132x43 =>
            st 1 v132x43 v130x40 H42 fun H44 =>
            ob (vInt .add (σ25 10) (.int .i64 1)) fun v105x45 =>
            Q25 .normal (up (up (up (up (up (up (up (up (up (up (up (up (up (up (up (up (up (up (up (up (up (up (up (up (up (up (up (up (up (up (up (up (up σ25 101 (σ25 10)) 102 (σ25 2)) 103 v103x26) 106 (σ25 0)) 107 (σ25 10)) 108 v108x27) 109 v109x28) 110 (σ25 0)) 111 (σ25 10)) 112 v112x29) 113 v113x30) 114 v114x31) 115 v115x32) 116 v116x34) 117 (σ25 0)) 118 (σ25 10)) 119 (σ25 0)) 120 (σ25 10)) 121 v121x35) 122 (σ25 0)) 123 (σ25 10)) 124 v124x36) 125 v125x37) 126 v126x38) 127 (σ25 0)) 128 (σ25 10)) 129 v129x39) 130 v130x40) 131 v131x41) 132 v132x43) 104 (σ25 10)) 105 v105x45) 10 v105x45) H44)))
              (Q25 (.exit 6) (up (up (up σ25 101 (σ25 10)) 102 (σ25 2)) 103 v103x26) H25)) (blkQ 6 (blkQ 1 (thenQ J5 Q3))) (up (up (up (up (up (up (up σ21 95 (σ21 2)) 96 (σ21 7)) 97 v97x22) 98 v98x23) 99 (σ21 7)) 100 v100x24) 10 v100x24) H21)
          (J5 (up (up (up (up σ21 95 (σ21 2)) 96 (σ21 7)) 97 v97x22) 98 v98x23) H21)) fun J21 =>
      ob (vInt .sub (σ7 7) (σ7 1)) fun v60x46 =>
      ob (vInt .geq v60x46 (.int .i64 2)) fun v61x47 =>
      cnd v61x47
        (ob (vInt .sub (σ7 7) (.int .i64 1)) fun v63x48 =>
        lpE (fun Q49 σ49 H49 =>
          ob (vInt .geq (σ49 9) (.int .i64 1)) fun v65x50 =>
          cnd v65x50
            (ob (vIx 1 (σ49 0) (σ49 9)) fun v70x51 =>
          ob (vLoad v70x51 H49) fun v71x52 =>
          ob (vInt .sub (σ49 9) (.int .i64 1)) fun v74x53 =>
          ob (vIx 1 (σ49 0) v74x53) fun v75x54 =>
          ob (vLoad v75x54 H49) fun v76x55 =>
          HT prg I.cmp_Less_int64 [v71x52, v76x55].toArray H49 fun v77x56 H57 =>
          Le H49 H57 ∧ (ob (vUn .not v77x56) fun v78x58 =>
          cnd v78x58
            (Q49 (.exit 4) (up (up (up (up (up (up (up (up (up (up (up (up (up σ49 64 (σ49 9)) 65 v65x50) 68 (σ49 0)) 69 (σ49 9)) 70 v70x51) 71 v71x52) 72 (σ49 0)) 73 (σ49 9)) 74 v74x53) 75 v75x54) 76 v76x55) 77 v77x56) 78 v78x58) H57)
            (ob (vInt .sub (σ49 9) (.int .i64 1)) fun v83x59 =>
          ob (vInt .sub (σ49 9) (.int .i64 1)) fun v86x60 =>
          ob (vIx 1 (σ49 0) v86x60) fun v87x61 =>
          ob (vLoad v87x61 H57) fun v88x62 =>
          ob (vIx 1 (σ49 0) (σ49 9)) fun v91x63 =>
          ob (vLoad v91x63 H57) fun v92x64 =>
          ob (vIx 1 (σ49 0) (σ49 9)) fun v93x65 =>
          st 1 v93x65 v88x62 H57 fun H66 =>
          ob (vIx 1 (σ49 0) v83x59) fun v94x67 =>
          st 1 v94x67 v92x64 H66 fun H68 =>
          ob (vInt .sub (σ49 9) (.int .i64 1)) fun v67x69 =>
          Q49 .normal (up (up (up (up (up (up (up (up (up (up (up (up (up (up (up (up (up (up (up (up (up (up (up (up (up (up (up (up (up (up (up (up σ49 64 (σ49 9)) 65 v65x50) 68 (σ49 0)) 69 (σ49 9)) 70 v70x51) 71 v71x52) 72 (σ49 0)) 73 (σ49 9)) 74 v74x53) 75 v75x54) 76 v76x55) 77 v77x56) 78 v78x58) 79 (σ49 0)) 80 (σ49 9)) 81 (σ49 0)) 82 (σ49 9)) 83 v83x59) 84 (σ49 0)) 85 (σ49 9)) 86 v86x60) 87 v87x61) 88 v88x62) 89 (σ49 0)) 90 (σ49 9)) 91 v91x63) 92 v92x64) 93 v93x65) 94 v94x67) 66 (σ49 9)) 67 v67x69) 9 v67x69) H68)))
            (Q49 (.exit 4) (up (up σ49 64 (σ49 9)) 65 v65x50) H49)) (blkQ 4 (thenQ J21 (blkQ 1 (thenQ J5 Q3)))) (up (up (up (up (up (up (up (up (up (up (up (up (up (up (up (up (up (up (up (up (up (up (up (up (up (up (up (up (up (up σ7 35 (σ7 7)) 36 (σ7 2)) 37 v37x8) 38 (σ7 2)) 39 (σ7 1)) 40 v40x9) 41 v41x10) 42 (σ7 0)) 43 (σ7 7)) 44 (σ7 0)) 45 (σ7 7)) 46 v46x11) 47 (σ7 0)) 48 (σ7 7)) 49 v49x12) 50 v50x13) 51 v51x14) 52 (σ7 0)) 53 (σ7 7)) 54 v54x15) 55 v55x16) 56 v56x17) 57 v57x19) 58 (σ7 7)) 59 (σ7 1)) 60 v60x46) 61 v61x47) 62 (σ7 7)) 63 v63x48) 9 v63x48) H20)
        (J21 (up (up (up (up (up (up (up (up (up (up (up (up (up (up (up (up (up (up (up (up (up (up (up (up (up (up (up σ7 35 (σ7 7)) 36 (σ7 2)) 37 v37x8) 38 (σ7 2)) 39 (σ7 1)) 40 v40x9) 41 v41x10) 42 (σ7 0)) 43 (σ7 7)) 44 (σ7 0)) 45 (σ7 7)) 46 v46x11) 47 (σ7 0)) 48 (σ7 7)) 49 v49x12) 50 v50x13) 51 v51x14) 52 (σ7 0)) 53 (σ7 7)) 54 v54x15) 55 v55x16) 56 v56x17) 57 v57x19) 58 (σ7 7)) 59 (σ7 1)) 60 v60x46) 61 v61x47) H20)))) fun J7 =>
    lpE (fun Q70 σ70 H70 =>
      ob (vInt .lss (σ70 7) (σ70 2)) fun v19x71 =>
      gop v19x71 true (fun K72 => K72 (σ70 0) H70) H70 fun v21x73 H74 =>
      gop v19x71 true (fun K75 => K75 (σ70 7) H74) H74 fun v22x76 H77 =>
      gop v19x71 true (fun K78 => ob (vIx 1 v21x73 v22x76) fun u => K78 u H77) H77 fun v23x79 H80 =>
      gop v19x71 true (fun K81 => ob (vLoad v23x79 H80) fun u => K81 u H80) H80 fun v24x82 H83 =>
      gop v19x71 true (fun K84 => K84 (σ70 0) H83) H83 fun v25x85 H86 =>
      gop v19x71 true (fun K87 => K87 (σ70 7) H86) H86 fun v26x88 H89 =>
      gop v19x71 true (fun K90 => ob (vInt .sub v26x88 (.int .i64 1)) fun u => K90 u H89) H89 fun v27x91 H92 =>
      gop v19x71 true (fun K93 => ob (vIx 1 v25x85 v27x91) fun u => K93 u H92) H92 fun v28x94 H95 =>
      gop v19x71 true (fun K96 => ob (vLoad v28x94 H95) fun u => K96 u H95) H95 fun v29x97 H98 =>
      gop v19x71 true (fun K99 => HT prg I.cmp_Less_int64 [v24x82, v29x97].toArray H98 fun v30x100 H101 =>
      Le H98 H101 ∧ K99 v30x100 H101) H98 fun v30x102 H103 =>
      gop v19x71 true (fun K104 => ob (vUn .not v30x102) fun u => K104 u H103) H103 fun v31x105 H106 =>
      ob (vPick v19x71 v31x105 (.bool false)) fun v32x107 =>
      cnd v32x107
        (ob (vInt .add (σ70 7) (.int .i64 1)) fun v34x108 =>
      Q70 .normal (up (up (up (up (up (up (up (up (up (up (up (up (up (up (up (up (up (up (up σ70 17 (σ70 7)) 18 (σ70 2)) 19 v19x71) 20 v19x71) 21 v21x73) 22 v22x76) 23 v23x79) 24 v24x82) 25 v25x85) 26 v26x88) 27 v27x91) 28 v28x94) 29 v29x97) 30 v30x102) 31 v31x105) 32 v32x107) 33 (σ70 7)) 34 v34x108) 7 v34x108) H106)
        (Q70 (.exit 2) (up (up (up (up (up (up (up (up (up (up (up (up (up (up (up (up σ70 17 (σ70 7)) 18 (σ70 2)) 19 v19x71) 20 v19x71) 21 v21x73) 22 v22x76) 23 v23x79) 24 v24x82) 25 v25x85) 26 v26x88) 27 v27x91) 28 v28x94) 29 v29x97) 30 v30x102) 31 v31x105) 32 v32x107) H106)) (blkQ 2 (thenQ J7 (blkQ 1 (thenQ J5 Q3)))) (up (up σ3 13 (σ3 8)) 14 v14x4) H3)
      (Q3 (.exit 0) (up (up σ3 13 (σ3 8)) 14 v14x4) H3)) (blkQ 0 (thenQ J2 (retQ prg [(.tmp 6)] K))) (up (up (up (up (up (S0 [a0, a1, a2]) 6 (.bool false)) 11 a1) 12 v12x1) 7 v12x1) 8 (.int .i64 0)) H
def O.slices_partialInsertionSortOrdered_int64 : Nat → Nat × List Nat := fun i => bif Nat.beq i 11 then (0, [0, 1, 2, 3, 4, 5, 6, 7, 8, 9, 10, 11, 12, 13, 14, 15, 16, 17]) else bif Nat.beq i 22 then (0, [0, 1, 2, 3, 4, 5, 6, 7, 8, 9, 10]) else bif Nat.beq i 23 then (0, [0, 1, 2, 3, 4, 5, 6, 7, 8, 9, 10, 11, 12, 13, 14, 15, 16, 17]) else bif Nat.beq i 16 then (0, [0, 1, 2, 3, 4, 5, 6, 7, 8, 9, 10]) else bif Nat.beq i 17 then (0, [0, 1, 2, 3, 4, 5, 6, 7, 8, 9, 10, 11, 12, 13, 14, 15, 16, 17]) else bif Nat.beq i 5 then (0, [0, 1, 2, 3, 4, 5, 6, 7, 8, 9, 10, 11, 12, 13, 14, 15]) else (0, [])
theorem R.slices_partialInsertionSortOrdered_int64 {a0 a1 a2 : Value} {H : Hp} {K : Value → Hp → Prop} (h : F.slices_partialInsertionSortOrdered_int64 a0 a1 a2 H K) : HT prg I.slices_partialInsertionSortOrdered_int64 [a0, a1, a2].toArray H K :=
  HT_of_fev O.slices_partialInsertionSortOrdered_int64 mixed Try.func211 (by kernel_rfl) (Eq.mpr (by kernel_rfl : fev prg O.slices_partialInsertionSortOrdered_int64 Try.f211 [a0, a1, a2] H K = F.slices_partialInsertionSortOrdered_int64 a0 a1 a2 H K) h)

/-! slices.partitionEqualOrdered[int64]: function 213 -/
def F.slices_partitionEqualOrdered_int64 (a0 a1 a2 a3 : Value) (H : Hp) (K : Value → Hp → Prop) : Prop :=
  ob (vIx 1 a0 a3) fun v17x1 =>
  ob (vLoad v17x1 H) fun v18x2 =>
  ob (vIx 1 a0 a1) fun v21x3 =>
  ob (vLoad v21x3 H) fun v22x4 =>
  ob (vIx 1 a0 a1) fun v23x5 =>
  st 1 v23x5 v18x2 H fun H6 =>
  ob (vIx 1 a0 a3) fun v24x7 =>
  st 1 v24x7 v22x4 H6 fun H8 =>
  ob (vInt .add a1 (.int .i64 1)) fun v26x9 =>
  ob (vInt .sub a2 (.int .i64 1)) fun v28x10 =>
  jn (fun σ11 H11 =>
    K (σ11 9) H11) fun J11 =>
  lpE (fun Q12 σ12 H12 =>
    jn (fun σ13 H13 =>
      jn (fun σ14 H14 =>
        ob (vInt .gtr (σ14 9) (σ14 10)) fun v64x15 =>
        cnd v64x15
          (Q12 (.exit 0) (up (up (up σ14 62 (σ14 9)) 63 (σ14 10)) 64 v64x15) H14)
          (ob (vIx 1 (σ14 0) (σ14 10)) fun v71x16 =>
        ob (vLoad v71x16 H14) fun v72x17 =>
        ob (vIx 1 (σ14 0) (σ14 9)) fun v75x18 =>
        ob (vLoad v75x18 H14) fun v76x19 =>
        ob (vIx 1 (σ14 0) (σ14 9)) fun v77x20 =>
        st 1 v77x20 v72x17 H14 fun H21 =>
        ob (vIx 1 (σ14 0) (σ14 10)) fun v78x22 =>
        st 1 v78x22 v76x19 H21 fun H23 =>
        ob (vInt .add (σ14 9) (.int .i64 1)) fun v80x24 =>
        ob (vInt .sub (σ14 10) (.int .i64 1)) fun v82x25 =>
        Q12 .normal (up (up (up (up (up (up (up (up (up (up (up (up (up (up (up (up (up (up (up (up (up (up (up σ14 62 (σ14 9)) 63 (σ14 10)) 64 v64x15) 65 (σ14 0)) 66 (σ14 9)) 67 (σ14 0)) 68 (σ14 10)) 69 (σ14 0)) 70 (σ14 10)) 71 v71x16) 72 v72x17) 73 (σ14 0)) 74 (σ14 9)) 75 v75x18) 76 v76x19) 77 v77x20) 78 v78x22) 79 (σ14 9)) 80 v80x24) 9 v80x24) 81 (σ14 10)) 82 v82x25) 10 v82x25) H23)) fun J14 =>
      lpE (fun Q26 σ26 H26 =>
        ob (vInt .leq (σ26 9) (σ26 10)) fun v48x27 =>
        gop v48x27 true (fun K28 => K28 (σ26 0) H26) H26 fun v50x29 H30 =>
        gop v48x27 true (fun K31 => K31 (σ26 1) H30) H30 fun v51x32 H33 =>
        gop v48x27 true (fun K34 => ob (vIx 1 v50x29 v51x32) fun u => K34 u H33) H33 fun v52x35 H36 =>
        gop v48x27 true (fun K37 => ob (vLoad v52x35 H36) fun u => K37 u H36) H36 fun v53x38 H39 =>
        gop v48x27 true (fun K40 => K40 (σ26 0) H39) H39 fun v54x41 H42 =>
        gop v48x27 true (fun K43 => K43 (σ26 10) H42) H42 fun v55x44 H45 =>
        gop v48x27 true (fun K46 => ob (vIx 1 v54x41 v55x44) fun u => K46 u H45) H45 fun v56x47 H48 =>
        gop v48x27 true (fun K49 => ob (vLoad v56x47 H48) fun u => K49 u H48) H48 fun v57x50 H51 =>
        gop v48x27 true (fun K52 => HT prg I.cmp_Less_int64 [v53x38, v57x50].toArray H51 fun v58x53 H54 =>
        Le H51 H54 ∧ K52 v58x53 H54) H51 fun v58x55 H56 =>
        ob (vPick v48x27 v58x55 (.bool false)) fun v59x57 =>
        cnd v59x57
          (ob (vInt .sub (σ26 10) (.int .i64 1)) fun v61x58 =>
        Q26 .normal (up (up (up (up (up (up (up (up (up (up (up (up (up (up (up (up (up σ26 46 (σ26 9)) 47 (σ26 10)) 48 v48x27) 49 v48x27) 50 v50x29) 51 v51x32) 52 v52x35) 53 v53x38) 54 v54x41) 55 v55x44) 56 v56x47) 57 v57x50) 58 v58x55) 59 v59x57) 60 (σ26 10)) 61 v61x58) 10 v61x58) H56)
          (Q26 (.exit 4) (up (up (up (up (up (up (up (up (up (up (up (up (up (up σ26 46 (σ26 9)) 47 (σ26 10)) 48 v48x27) 49 v48x27) 50 v50x29) 51 v51x32) 52 v52x35) 53 v53x38) 54 v54x41) 55 v55x44) 56 v56x47) 57 v57x50) 58 v58x55) 59 v59x57) H56)) (blkQ 4 (thenQ J14 (blkQ 1 Q12))) σ13 H13) fun J13 =>
    lpE (fun Q59 σ59 H59 =>
      ob (vInt .leq (σ59 9) (σ59 10)) fun v31x60 =>
      gop v31x60 true (fun K61 => K61 (σ59 0) H59) H59 fun v33x62 H63 =>
      gop v31x60 true (fun K64 => K64 (σ59 1) H63) H63 fun v34x65 H66 =>
      gop v31x60 true (fun K67 => ob (vIx 1 v33x62 v34x65) fun u => K67 u H66) H66 fun v35x68 H69 =>
      gop v31x60 true (fun K70 => ob (vLoad v35x68 H69) fun u => K70 u H69) H69 fun v36x71 H72 =>
      gop v31x60 true (fun K73 => K73 (σ59 0) H72) H72 fun v37x74 H75 =>
      gop v31x60 true (fun K76 => K76 (σ59 9) H75) H75 fun v38x77 H78 =>
      gop v31x60 true (fun K79 => ob (vIx 1 v37x74 v38x77) fun u => K79 u H78) H78 fun v39x80 H81 =>
      gop v31x60 true (fun K82 => ob (vLoad v39x80 H81) fun u => K82 u H81) H81 fun v40x83 H84 =>
      gop v31x60 true (fun K85 => HT prg I.cmp_Less_int64 [v36x71, v40x83].toArray H84 fun v41x86 H87 =>
      Le H84 H87 ∧ K85 v41x86 H87) H84 fun v41x88 H89 =>
      gop v31x60 true (fun K90 => ob (vUn .not v41x88) fun u => K90 u H89) H89 fun v42x91 H92 =>
      ob (vPick v31x60 v42x91 (.bool false)) fun v43x93 =>
      cnd v43x93
        (ob (vInt .add (σ59 9) (.int .i64 1)) fun v45x94 =>
      Q59 .normal (up (up (up (up (up (up (up (up (up (up (up (up (up (up (up (up (up (up σ59 29 (σ59 9)) 30 (σ59 10)) 31 v31x60) 32 v31x60) 33 v33x62) 34 v34x65) 35 v35x68) 36 v36x71) 37 v37x74) 38 v38x77) 39 v39x80) 40 v40x83) 41 v41x88) 42 v42x91) 43 v43x93) 44 (σ59 9)) 45 v45x94) 9 v45x94) H92)
        (Q59 (.exit 2) (up (up (up (up (up (up (up (up (up (up (up (up (up (up (up σ59 29 (σ59 9)) 30 (σ59 10)) 31 v31x60) 32 v31x60) 33 v33x62) 34 v34x65) 35 v35x68) 36 v36x71) 37 v37x74) 38 v38x77) 39 v39x80) 40 v40x83) 41 v41x88) 42 v42x91) 43 v43x93) H92)) (blkQ 2 (thenQ J13 (blkQ 1 Q12))) σ12 H12) (blkQ 0 (thenQ J11 (retQ prg [(.tmp 8)] K))) (up (up (up (up (up (up (up (up (up (up (up (up (up (up (up (up (up (up (up (up (up (S0 [a0, a1, a2, a3]) 8 (.int .i64 0)) 11 a0) 12 a1) 13 a0) 14 a3) 15 a0) 16 a3) 17 v17x1) 18 v18x2) 19 a0) 20 a1) 21 v21x3) 22 v22x4) 23 v23x5) 24 v24x7) 25 a1) 26 v26x9) 27 a2) 28 v28x10) 9 v26x9) 10 v28x10) H8
def O.slices_partitionEqualOrdered_int64 : Nat → Nat × List Nat := fun i => bif Nat.beq i 1 then (0, [0, 1, 2, 3, 4, 5, 6, 7, 8, 9, 10, 11, 12, 13, 14, 15]) else bif Nat.beq i 8 then (0, [0, 1, 2, 3, 4, 5, 6, 7, 8, 9, 10, 11, 12, 13, 14, 15]) else bif Nat.beq i 5 then (0, [0, 1, 2, 3, 4, 5, 6, 7, 8, 9, 10, 11, 12, 13]) else bif Nat.beq i 3 then (0, [0, 1, 2, 3, 4, 5, 6, 7, 8, 9, 10, 11, 12, 13, 14]) else (0, [])
theorem R.slices_partitionEqualOrdered_int64 {a0 a1 a2 a3 : Value} {H : Hp} {K : Value → Hp → Prop} (h : F.slices_partitionEqualOrdered_int64 a0 a1 a2 a3 H K) : HT prg I.slices_partitionEqualOrdered_int64 [a0, a1, a2, a3].toArray H K :=
  HT_of_fev O.slices_partitionEqualOrdered_int64 mixed Try.func213 (by kernel_rfl) (Eq.mpr (by kernel_rfl : fev prg O.slices_partitionEqualOrdered_int64 Try.f213 [a0, a1, a2, a3] H K = F.slices_partitionEqualOrdered_int64 a0 a1 a2 a3 H K) h)

/-! slices.partitionOrdered[int64]: function 214 -/
def F.slices_partitionOrdered_int64 (a0 a1 a2 a3 : Value) (H : Hp) (K : Value → Hp → Prop) : Prop :=
  ob (vIx 1 a0 a3) fun v18x1 =>
  ob (vLoad v18x1 H) fun v19x2 =>
  ob (vIx 1 a0 a1) fun v22x3 =>
  ob (vLoad v22x3 H) fun v23x4 =>
  ob (vIx 1 a0 a1) fun v24x5 =>
  st 1 v24x5 v19x2 H fun H6 =>
  ob (vIx 1 a0 a3) fun v25x7 =>
  st 1 v25x7 v23x4 H6 fun H8 =>
  ob (vInt .add a1 (.int .i64 1)) fun v27x9 =>
  ob (vInt .sub a2 (.int .i64 1)) fun v29x10 =>
  jn (fun σ11 H11 =>
    jn (fun σ12 H12 =>
      ob (vInt .gtr (σ12 10) (σ12 11)) fun v65x13 =>
      cnd v65x13
        (ob (vIx 1 (σ12 0) (σ12 1)) fun v72x14 =>
        ob (vLoad v72x14 H12) fun v73x15 =>
        ob (vIx 1 (σ12 0) (σ12 11)) fun v76x16 =>
        ob (vLoad v76x16 H12) fun v77x17 =>
        ob (vIx 1 (σ12 0) (σ12 11)) fun v78x18 =>
        st 1 v78x18 v73x15 H12 fun H19 =>
        ob (vIx 1 (σ12 0) (σ12 1)) fun v79x20 =>
        st 1 v79x20 v77x17 H19 fun H21 =>
        K (.tuple #[(σ12 11), (.bool true)]) H21)
        (ob (vIx 1 (σ12 0) (σ12 11)) fun v87x22 =>
      ob (vLoad v87x22 H12) fun v88x23 =>
      ob (vIx 1 (σ12 0) (σ12 10)) fun v91x24 =>
      ob (vLoad v91x24 H12) fun v92x25 =>
      ob (vIx 1 (σ12 0) (σ12 10)) fun v93x26 =>
      st 1 v93x26 v88x23 H12 fun H27 =>
      ob (vIx 1 (σ12 0) (σ12 11)) fun v94x28 =>
      st 1 v94x28 v92x25 H27 fun H29 =>
      ob (vInt .add (σ12 10) (.int .i64 1)) fun v96x30 =>
      ob (vInt .sub (σ12 11) (.int .i64 1)) fun v98x31 =>
      jn (fun σ32 H32 =>
        ob (vIx 1 (σ32 0) (σ32 1)) fun v159x33 =>
        ob (vLoad v159x33 H32) fun v160x34 =>
        ob (vIx 1 (σ32 0) (σ32 11)) fun v163x35 =>
        ob (vLoad v163x35 H32) fun v164x36 =>
        ob (vIx 1 (σ32 0) (σ32 11)) fun v165x37 =>
        st 1 v165x37 v160x34 H32 fun H38 =>
        ob (vIx 1 (σ32 0) (σ32 1)) fun v166x39 =>
        st 1 v166x39 v164x36 H38 fun H40 =>
        K (.tuple #[(σ32 11), (.bool false)]) H40) fun J32 =>
      lpE (fun Q41 σ41 H41 =>
        jn (fun σ42 H42 =>
          jn (fun σ43 H43 =>
            ob (vInt .gtr (σ43 10) (σ43 11)) fun v134x44 =>
            cnd v134x44
              (Q41 (.exit 4) (up (up (up σ43 132 (σ43 10)) 133 (σ43 11)) 134 v134x44) H43)
              (ob (vIx 1 (σ43 0) (σ43 11)) fun v141x45 =>
            ob (vLoad v141x45 H43) fun v142x46 =>
            ob (vIx 1 (σ43 0) (σ43 10)) fun v145x47 =>
            ob (vLoad v145x47 H43) fun v146x48 =>
            ob (vIx 1 (σ43 0) (σ43 10)) fun v147x49 =>
            st 1 v147x49 v142x46 H43 fun H50 =>
            ob (vIx 1 (σ43 0) (σ43 11)) fun v148x51 =>
            st 1 v148x51 v146x48 H50 fun H52 =>
            ob (vInt .add (σ43 10) (.int .i64 1)) fun v150x53 =>
            ob (vInt .sub (σ43 11) (.int .i64 1)) fun v152x54 =>
            Q41 .normal (up (up (up (up (up (up (up (up (up (up (up (up (up (up (up (up (up (up (up (up (up (up (up σ43 132 (σ43 10)) 133 (σ43 11)) 134 v134x44) 135 (σ43 0)) 136 (σ43 10)) 137 (σ43 0)) 138 (σ43 11)) 139 (σ43 0)) 140 (σ43 11)) 141 v141x45) 142 v142x46) 143 (σ43 0)) 144 (σ43 10)) 145 v145x47) 146 v146x48) 147 v147x49) 148 v148x51) 149 (σ43 10)) 150 v150x53) 10 v150x53) 151 (σ43 11)) 152 v152x54) 11 v152x54) H52)) fun J43 =>
          lpE (fun Q55 σ55 H55 =>
            ob (vInt .leq (σ55 10) (σ55 11)) fun v117x56 =>
            gop v117x56 true (fun K57 => K57 (σ55 0) H55) H55 fun v119x58 H59 =>
            gop v117x56 true (fun K60 => K60 (σ55 11) H59) H59 fun v120x61 H62 =>
            gop v117x56 true (fun K63 => ob (vIx 1 v119x58 v120x61) fun u => K63 u H62) H62 fun v121x64 H65 =>
            gop v117x56 true (fun K66 => ob (vLoad v121x64 H65) fun u => K66 u H65) H65 fun v122x67 H68 =>
            gop v117x56 true (fun K69 => K69 (σ55 0) H68) H68 fun v123x70 H71 =>
            gop v117x56 true (fun K72 => K72 (σ55 1) H71) H71 fun v124x73 H74 =>
            gop v117x56 true (fun K75 => ob (vIx 1 v123x70 v124x73) fun u => K75 u H74) H74 fun v125x76 H77 =>
            gop v117x56 true (fun K78 => ob (vLoad v125x76 H77) fun u => K78 u H77) H77 fun v126x79 H80 =>
            gop v117x56 true (fun K81 => HT prg I.cmp_Less_int64 [v122x67, v126x79].toArray H80 fun v127x82 H83 =>
            Le H80 H83 ∧ K81 v127x82 H83) H80 fun v127x84 H85 =>
            gop v117x56 true (fun K86 => ob (vUn .not v127x84) fun u => K86 u H85) H85 fun v128x87 H88 =>
            ob (vPick v117x56 v128x87 (.bool false)) fun v129x89 =>
            cnd v129x89
              (ob (vInt .sub (σ55 11) (.int .i64 1)) fun v131x90 =>
            Q55 .normal (up (up (up (up (up (up (up (up (up (up (up (up (up (up (up (up (up (up σ55 115 (σ55 10)) 116 (σ55 11)) 117 v117x56) 118 v117x56) 119 v119x58) 120 v120x61) 121 v121x64) 122 v122x67) 123 v123x70) 124 v124x73) 125 v125x76) 126 v126x79) 127 v127x84) 128 v128x87) 129 v129x89) 130 (σ55 11)) 131 v131x90) 11 v131x90) H88)
              (Q55 (.exit 8) (up (up (up (up (up (up (up (up (up (up (up (up (up (up (up σ55 115 (σ55 10)) 116 (σ55 11)) 117 v117x56) 118 v117x56) 119 v119x58) 120 v120x61) 121 v121x64) 122 v122x67) 123 v123x70) 124 v124x73) 125 v125x76) 126 v126x79) 127 v127x84) 128 v128x87) 129 v129x89) H88)) (blkQ 8 (thenQ J43 (blkQ 5 Q41))) σ42 H42) fun J42 =>
        lpE (fun Q91 σ91 H91 =>
          ob (vInt .leq (σ91 10) (σ91 11)) fun v101x92 =>
          gop v101x92 true (fun K93 => K93 (σ91 0) H91) H91 fun v103x94 H95 =>
          gop v101x92 true (fun K96 => K96 (σ91 10) H95) H95 fun v104x97 H98 =>
          gop v101x92 true (fun K99 => ob (vIx 1 v103x94 v104x97) fun u => K99 u H98) H98 fun v105x100 H101 =>
          gop v101x92 true (fun K102 => ob (vLoad v105x100 H101) fun u => K102 u H101) H101 fun v106x103 H104 =>
          gop v101x92 true (fun K105 => K105 (σ91 0) H104) H104 fun v107x106 H107 =>
          gop v101x92 true (fun K108 => K108 (σ91 1) H107) H107 fun v108x109 H110 =>
          gop v101x92 true (fun K111 => ob (vIx 1 v107x106 v108x109) fun u => K111 u H110) H110 fun v109x112 H113 =>
          gop v101x92 true (fun K114 => ob (vLoad v109x112 H113) fun u => K114 u H113) H113 fun v110x115 H116 =>
          gop v101x92 true (fun K117 => HT prg I.cmp_Less_int64 [v106x103, v110x115].toArray H116 fun v111x118 H119 =>
          Le H116 H119 ∧ K117 v111x118 H119) H116 fun v111x120 H121 =>
          ob (vPick v101x92 v111x120 (.bool false)) fun v112x122 =>
          cnd v112x122
            (ob (vInt .add (σ91 10) (.int .i64 1)) fun v114x123 =>
          Q91 .normal (up (up (up (up (up (up (up (up (up (up (up (up (up (up (up (up (up σ91 99 (σ91 10)) 100 (σ91 11)) 101 v101x92) 102 v101x92) 103 v103x94) 104 v104x97) 105 v105x100) 106 v106x103) 107 v107x106) 108 v108x109) 109 v109x112) 110 v110x115) 111 v111x120) 112 v112x122) 113 (σ91 10)) 114 v114x123) 10 v114x123) H121)
            (Q91 (.exit 6) (up (up (up (up (up (up (up (up (up (up (up (up (up (up σ91 99 (σ91 10)) 100 (σ91 11)) 101 v101x92) 102 v101x92) 103 v103x94) 104 v104x97) 105 v105x100) 106 v106x103) 107 v107x106) 108 v108x109) 109 v109x112) 110 v110x115) 111 v111x120) 112 v112x122) H121)) (blkQ 6 (thenQ J42 (blkQ 5 Q41))) σ41 H41) (blkQ 4 (thenQ J32 (retQ prg [(.tmp 8), (.tmp 9)] K))) (up (up (up (up (up (up (up (up (up (up (up (up (up (up (up (up (up (up (up (up (up (up (up σ12 63 (σ12 10)) 64 (σ12 11)) 65 v65x13) 81 (σ12 0)) 82 (σ12 10)) 83 (σ12 0)) 84 (σ12 11)) 85 (σ12 0)) 86 (σ12 11)) 87 v87x22) 88 v88x23) 89 (σ12 0)) 90 (σ12 10)) 91 v91x24) 92 v92x25) 93 v93x26) 94 v94x28) 95 (σ12 10)) 96 v96x30) 10 v96x30) 97 (σ12 11)) 98 v98x31) 11 v98x31) H29)) fun J12 =>
    lpE (fun Q124 σ124 H124 =>
      ob (vInt .leq (σ124 10) (σ124 11)) fun v48x125 =>
      gop v48x125 true (fun K126 => K126 (σ124 0) H124) H124 fun v50x127 H128 =>
      gop v48x125 true (fun K129 => K129 (σ124 11) H128) H128 fun v51x130 H131 =>
      gop v48x125 true (fun K132 => ob (vIx 1 v50x127 v51x130) fun u => K132 u H131) H131 fun v52x133 H134 =>
      gop v48x125 true (fun K135 => ob (vLoad v52x133 H134) fun u => K135 u H134) H134 fun v53x136 H137 =>
      gop v48x125 true (fun K138 => K138 (σ124 0) H137) H137 fun v54x139 H140 =>
      gop v48x125 true (fun K141 => K141 (σ124 1) H140) H140 fun v55x142 H143 =>
      gop v48x125 true (fun K144 => ob (vIx 1 v54x139 v55x142) fun u => K144 u H143) H143 fun v56x145 H146 =>
      gop v48x125 true (fun K147 => ob (vLoad v56x145 H146) fun u => K147 u H146) H146 fun v57x148 H149 =>
      gop v48x125 true (fun K150 => HT prg I.cmp_Less_int64 [v53x136, v57x148].toArray H149 fun v58x151 H152 =>
      Le H149 H152 ∧ K150 v58x151 H152) H149 fun v58x153 H154 =>
      gop v48x125 true (fun K155 => ob (vUn .not v58x153) fun u => K155 u H154) H154 fun v59x156 H157 =>
      ob (vPick v48x125 v59x156 (.bool false)) fun v60x158 =>
      cnd v60x158
        (ob (vInt .sub (σ124 11) (.int .i64 1)) fun v62x159 =>
      Q124 .normal (up (up (up (up (up (up (up (up (up (up (up (up (up (up (up (up (up (up σ124 46 (σ124 10)) 47 (σ124 11)) 48 v48x125) 49 v48x125) 50 v50x127) 51 v51x130) 52 v52x133) 53 v53x136) 54 v54x139) 55 v55x142) 56 v56x145) 57 v57x148) 58 v58x153) 59 v59x156) 60 v60x158) 61 (σ124 11)) 62 v62x159) 11 v62x159) H157)
        (Q124 (.exit 2) (up (up (up (up (up (up (up (up (up (up (up (up (up (up (up σ124 46 (σ124 10)) 47 (σ124 11)) 48 v48x125) 49 v48x125) 50 v50x127) 51 v51x130) 52 v52x133) 53 v53x136) 54 v54x139) 55 v55x142) 56 v56x145) 57 v57x148) 58 v58x153) 59 v59x156) 60 v60x158) H157)) (blkQ 2 (thenQ J12 (retQ prg [(.tmp 8), (.tmp 9)] K))) σ11 H11) fun J11 =>
  lpE (fun Q160 σ160 H160 =>
    ob (vInt .leq (σ160 10) (σ160 11)) fun v32x161 =>
    gop v32x161 true (fun K162 => K162 (σ160 0) H160) H160 fun v34x163 H164 =>
    gop v32x161 true (fun K165 => K165 (σ160 10) H164) H164 fun v35x166 H167 =>
    gop v32x161 true (fun K168 => ob (vIx 1 v34x163 v35x166) fun u => K168 u H167) H167 fun v36x169 H170 =>
    gop v32x161 true (fun K171 => ob (vLoad v36x169 H170) fun u => K171 u H170) H170 fun v37x172 H173 =>
    gop v32x161 true (fun K174 => K174 (σ160 0) H173) H173 fun v38x175 H176 =>
    gop v32x161 true (fun K177 => K177 (σ160 1) H176) H176 fun v39x178 H179 =>
    gop v32x161 true (fun K180 => ob (vIx 1 v38x175 v39x178) fun u => K180 u H179) H179 fun v40x181 H182 =>
    gop v32x161 true (fun K183 => ob (vLoad v40x181 H182) fun u => K183 u H182) H182 fun v41x184 H185 =>
    gop v32x161 true (fun K186 => HT prg I.cmp_Less_int64 [v37x172, v41x184].toArray H185 fun v42x187 H188 =>
    Le H185 H188 ∧ K186 v42x187 H188) H185 fun v42x189 H190 =>
    ob (vPick v32x161 v42x189 (.bool false)) fun v43x191 =>
    cnd v43x191
      (ob (vInt .add (σ160 10) (.int .i64 1)) fun v45x192 =>
    Q160 .normal (up (up (up (up (up (up (up (up (up (up (up (up (up (up (up (up (up σ160 30 (σ160 10)) 31 (σ160 11)) 32 v32x161) 33 v32x161) 34 v34x163) 35 v35x166) 36 v36x169) 37 v37x172) 38 v38x175) 39 v39x178) 40 v40x181) 41 v41x184) 42 v42x189) 43 v43x191) 44 (σ160 10)) 45 v45x192) 10 v45x192) H190)
      (Q160 (.exit 0) (up (up (up (up (up (up (up (up (up (up (up (up (up (up σ160 30 (σ160 10)) 31 (σ160 11)) 32 v32x161) 33 v32x161) 34 v34x163) 35 v35x166) 36 v36x169) 37 v37x172) 38 v38x175) 39 v39x178) 40 v40x181) 41 v41x184) 42 v42x189) 43 v43x191) H190)) (blkQ 0 (thenQ J11 (retQ prg [(.tmp 8), (.tmp 9)] K))) (up (up (up (up (up (up (up (up (up (up (up (up (up (up (up (up (up (up (up (up (up (up (S0 [a0, a1, a2, a3]) 8 (.int .i64 0)) 9 (.bool false)) 12 a0) 13 a1) 14 a0) 15 a3) 16 a0) 17 a3) 18 v18x1) 19 v19x2) 20 a0) 21 a1) 22 v22x3) 23 v23x4) 24 v24x5) 25 v25x7) 26 a1) 27 v27x9) 28 a2) 29 v29x10) 10 v27x9) 11 v29x10) H8
def O.slices_partitionOrdered_int64 : Nat → Nat × List Nat := fun i => bif Nat.beq i 1 then (0, [0, 1, 2, 3, 4, 5, 6, 7, 8, 9, 10, 11, 12, 13, 14, 15]) else bif Nat.beq i 8 then (0, [0, 1, 2, 3, 4, 5, 6, 7, 8, 9, 10, 11, 12, 13, 14, 15]) else bif Nat.beq i 10 then (0, [0, 1, 2, 3, 4, 5, 6, 7, 8, 9, 10, 11, 12, 13, 14, 15]) else bif Nat.beq i 21 then (0, [0, 1, 2, 3, 4, 5, 6, 7, 8, 9, 10, 11, 12, 13, 14, 15]) else bif Nat.beq i 18 then (0, [0, 1, 2, 3, 4, 5, 6, 7, 8, 9, 10, 11, 12, 13, 14, 15]) else bif Nat.beq i 15 then (0, [0, 1, 2, 3, 4, 5, 6, 7, 8, 9, 10, 11, 12, 13, 14]) else bif Nat.beq i 13 then (0, [0, 1, 2, 3, 4, 5, 6, 7, 8, 9, 10, 11, 12, 13]) else bif Nat.beq i 5 then (0, [0, 1, 2, 3, 4, 5, 6, 7, 8, 9, 10, 11, 12, 13, 14]) else bif Nat.beq i 3 then (0, [0, 1, 2, 3, 4, 5, 6, 7, 8, 9, 10, 11, 12, 13]) else (0, [])
theorem R.slices_partitionOrdered_int64 {a0 a1 a2 a3 : Value} {H : Hp} {K : Value → Hp → Prop} (h : F.slices_partitionOrdered_int64 a0 a1 a2 a3 H K) : HT prg I.slices_partitionOrdered_int64 [a0, a1, a2, a3].toArray H K :=
  HT_of_fev O.slices_partitionOrdered_int64 mixed Try.func214 (by kernel_rfl) (Eq.mpr (by kernel_rfl : fev prg O.slices_partitionOrdered_int64 Try.f214 [a0, a1, a2, a3] H K = F.slices_partitionOrdered_int64 a0 a1 a2 a3 H K) h)

/-! slices.pdqsortOrdered[int64]: function 196 -/
def F.slices_pdqsortOrdered_int64 (a0 a1 a2 a3 : Value) (H : Hp) (K : Value → Hp → Prop) : Prop :=
  lpE (fun Q1 σ1 H1 =>
    ob (vInt .sub (σ1 2) (σ1 1)) fun v21x2 =>
    ob (vInt .leq v21x2 (.int .i64 12)) fun v23x3 =>
    cnd v23x3
      (HT prg I.slices_insertionSortOrdered_int64 [(σ1 0), (σ1 1), (σ1 2)].toArray H1 fun v27x4 H5 =>
      Q1 .ret (up (up (up (up (up (up (up (up (up (up σ1 19 (σ1 2)) 20 (σ1 1)) 21 v21x2) 10 v21x2) 22 v21x2) 23 v23x3) 24 (σ1 0)) 25 (σ1 1)) 26 (σ1 2)) 27 v27x4) H5)
      (ob (vInt .eql (σ1 3) (.int .i64 0)) fun v29x6 =>
    cnd v29x6
      (HT prg I.slices_heapSortOrdered_int64 [(σ1 0), (σ1 1), (σ1 2)].toArray H1 fun v33x7 H8 =>
      Q1 .ret (up (up (up (up (up (up (up (up (up (up (up (up σ1 19 (σ1 2)) 20 (σ1 1)) 21 v21x2) 10 v21x2) 22 v21x2) 23 v23x3) 28 (σ1 3)) 29 v29x6) 30 (σ1 0)) 31 (σ1 1)) 32 (σ1 2)) 33 v33x7) H8)
      (jn (fun σ9 H9 =>
      HT prg I.slices_choosePivotOrdered_int64 [(σ9 0), (σ9 1), (σ9 2)].toArray H9 fun v46x10 H11 =>
      ob (vExt v46x10 0) fun v47x12 =>
      ob (vExt v46x10 1) fun v48x13 =>
      jn (fun σ14 H14 =>
        jn (fun σ15 H15 =>
          ob (vInt .gtr (σ15 1) (.int .i64 0)) fun v74x16 =>
          gop v74x16 true (fun K17 => K17 (σ15 0) H15) H15 fun v76x18 H19 =>
          gop v74x16 true (fun K20 => K20 (σ15 1) H19) H19 fun v77x21 H22 =>
          gop v74x16 true (fun K23 => ob (vInt .sub v77x21 (.int .i64 1)) fun u => K23 u H22) H22 fun v78x24 H25 =>
          gop v74x16 true (fun K26 => ob (vIx 1 v76x18 v78x24) fun u => K26 u H25) H25 fun v79x27 H28 =>
          gop v74x16 true (fun K29 => ob (vLoad v79x27 H28) fun u => K29 u H28) H28 fun v80x30 H31 =>
          gop v74x16 true (fun K32 => K32 (σ15 0) H31) H31 fun v81x33 H34 =>
          gop v74x16 true (fun K35 => K35 (σ15 11) H34) H34 fun v82x36 H37 =>
          gop v74x16 true (fun K38 => ob (vIx 1 v81x33 v82x36) fun u => K38 u H37) H37 fun v83x39 H40 =>
          gop v74x16 true (fun K41 => ob (vLoad v83x39 H40) fun u => K41 u H40) H40 fun v84x42 H43 =>
          gop v74x16 true (fun K44 => HT prg I.cmp_Less_int64 [v80x30, v84x42].toArray H43 fun v85x45 H46 =>
          Le H43 H46 ∧ K44 v85x45 H46) H43 fun v85x47 H48 =>
          gop v74x16 true (fun K49 => ob (vUn .not v85x47) fun u => K49 u H48) H48 fun v86x50 H51 =>
          ob (vPick v74x16 v86x50 (.bool false)) fun v87x52 =>
          cnd v87x52
            (HT prg I.slices_partitionEqualOrdered_int64 [(σ15 0), (σ15 1), (σ15 2), (σ15 11)].toArray H51 fun v92x53 H54 =>
            Q1 .normal (up (up (up (up (up (up (up (up (up (up (up (up (up (up (up (up (up (up (up (up (up (up (up σ15 73 (σ15 1)) 74 v74x16) 75 v74x16) 76 v76x18) 77 v77x21) 78 v78x24) 79 v79x27) 80 v80x30) 81 v81x33) 82 v82x36) 83 v83x39) 84 v84x42) 85 v85x47) 86 v86x50) 87 v87x52) 88 (σ15 0)) 89 (σ15 1)) 90 (σ15 2)) 91 (σ15 11)) 92 v92x53) 13 v92x53) 93 v92x53) 1 v92x53) H54)
            (HT prg I.slices_partitionOrdered_int64 [(σ15 0), (σ15 1), (σ15 2), (σ15 11)].toArray H51 fun v99x55 H56 =>
          ob (vExt v99x55 0) fun v100x57 =>
          ob (vExt v99x55 1) fun v101x58 =>
          ob (vInt .sub v100x57 (σ15 1)) fun v105x59 =>
          ob (vInt .sub (σ15 2) v100x57) fun v108x60 =>
          ob (vInt .quo (σ15 10) (.int .i64 8)) fun v110x61 =>
          ob (vInt .lss v105x59 v108x60) fun v113x62 =>
          cnd v113x62
            (ob (vInt .geq v105x59 v110x61) fun v116x63 =>
            HT prg I.slices_pdqsortOrdered_int64 [(σ15 0), (σ15 1), v100x57, (σ15 3)].toArray H56 fun v121x64 H65 =>
            ob (vInt .add v100x57 (.int .i64 1)) fun v123x66 =>
            Q1 .normal (up (up (up (up (up (up (up (up (up (up (up (up (up (up (up (up (up (up (up (up (up (up (up (up (up (up (up (up (up (up (up (up (up (up (up (up (up (up (up (up (up (up (up (up (up (up (up (up (up (up (up (up (up σ15 73 (σ15 1)) 74 v74x16) 75 v74x16) 76 v76x18) 77 v77x21) 78 v78x24) 79 v79x27) 80 v80x30) 81 v81x33) 82 v82x36) 83 v83x39) 84 v84x42) 85 v85x47) 86 v86x50) 87 v87x52) 95 (σ15 0)) 96 (σ15 1)) 97 (σ15 2)) 98 (σ15 11)) 99 v99x55) 94 v99x55) 100 v100x57) 101 v101x58) 14 v100x57) 15 v101x58) 102 v101x58) 9 v101x58) 103 v100x57) 104 (σ15 1)) 105 v105x59) 106 (σ15 2)) 107 v100x57) 108 v108x60) 16 v105x59) 17 v108x60) 109 (σ15 10)) 110 v110x61) 18 v110x61) 111 v105x59) 112 v108x60) 113 v113x62) 114 v105x59) 115 v110x61) 116 v116x63) 8 v116x63) 117 (σ15 0)) 118 (σ15 1)) 119 v100x57) 120 (σ15 3)) 121 v121x64) 122 v100x57) 123 v123x66) 1 v123x66) H65)
            (ob (vInt .geq v108x60 v110x61) fun v126x67 =>
            ob (vInt .add v100x57 (.int .i64 1)) fun v129x68 =>
            HT prg I.slices_pdqsortOrdered_int64 [(σ15 0), v129x68, (σ15 2), (σ15 3)].toArray H56 fun v132x69 H70 =>
            Q1 .normal (up (up (up (up (up (up (up (up (up (up (up (up (up (up (up (up (up (up (up (up (up (up (up (up (up (up (up (up (up (up (up (up (up (up (up (up (up (up (up (up (up (up (up (up (up (up (up (up (up (up (up (up (up σ15 73 (σ15 1)) 74 v74x16) 75 v74x16) 76 v76x18) 77 v77x21) 78 v78x24) 79 v79x27) 80 v80x30) 81 v81x33) 82 v82x36) 83 v83x39) 84 v84x42) 85 v85x47) 86 v86x50) 87 v87x52) 95 (σ15 0)) 96 (σ15 1)) 97 (σ15 2)) 98 (σ15 11)) 99 v99x55) 94 v99x55) 100 v100x57) 101 v101x58) 14 v100x57) 15 v101x58) 102 v101x58) 9 v101x58) 103 v100x57) 104 (σ15 1)) 105 v105x59) 106 (σ15 2)) 107 v100x57) 108 v108x60) 16 v105x59) 17 v108x60) 109 (σ15 10)) 110 v110x61) 18 v110x61) 111 v105x59) 112 v108x60) 113 v113x62) 124 v108x60) 125 v110x61) 126 v126x67) 8 v126x67) 127 (σ15 0)) 128 v100x57) 129 v129x68) 130 (σ15 2)) 131 (σ15 3)) 132 v132x69) 133 v100x57) 2 v100x57) H70))) fun J15 =>
        gop (σ14 8) true (fun K71 => K71 (σ14 9) H14) H14 fun v63x72 H73 =>
        ob (vPick (σ14 8) v63x72 (.bool false)) fun v64x74 =>
        gop v64x74 true (fun K75 => K75 (σ14 12) H73) H73 fun v66x76 H77 =>
        gop v64x74 true (fun K78 => ob (vInt .eql v66x76 (.int .i64 1)) fun u => K78 u H77) H77 fun v67x79 H80 =>
        ob (vPick v64x74 v67x79 (.bool false)) fun v68x81 =>
        cnd v68x81
          (HT prg I.slices_partialInsertionSortOrdered_int64 [(σ14 0), (σ14 1), (σ14 2)].toArray H80 fun v72x82 H83 =>
          cnd v72x82
            (Q1 .ret (up (up (up (up (up (up (up (up (up (up (up (up σ14 61 (σ14 8)) 62 (σ14 8)) 63 v63x72) 64 v64x74) 65 v64x74) 66 v66x76) 67 v67x79) 68 v68x81) 69 (σ14 0)) 70 (σ14 1)) 71 (σ14 2)) 72 v72x82) H83)
            (J15 (up (up (up (up (up (up (up (up (up (up (up (up σ14 61 (σ14 8)) 62 (σ14 8)) 63 v63x72) 64 v64x74) 65 v64x74) 66 v66x76) 67 v67x79) 68 v68x81) 69 (σ14 0)) 70 (σ14 1)) 71 (σ14 2)) 72 v72x82) H83))
          (J15 (up (up (up (up (up (up (up (up σ14 61 (σ14 8)) 62 (σ14 8)) 63 v63x72) 64 v64x74) 65 v64x74) 66 v66x76) 67 v67x79) 68 v68x81) H80)) fun J14 =>
      ob (vInt .eql v48x13 (.int .i64 2)) fun v50x84 =>
      cnd v50x84
        (HT prg I.slices_reverseRangeOrdered_int64 [(σ9 0), (σ9 1), (σ9 2)].toArray H11 fun v54x85 H86 =>
        ob (vInt .sub (σ9 2) (.int .i64 1)) fun v56x87 =>
        ob (vInt .sub v47x12 (σ9 1)) fun v59x88 =>
        ob (vInt .sub v56x87 v59x88) fun v60x89 =>
        J14 (up (up (up (up (up (up (up (up (up (up (up (up (up (up (up (up (up (up (up (up (up (up (up σ9 43 (σ9 0)) 44 (σ9 1)) 45 (σ9 2)) 46 v46x10) 42 v46x10) 47 v47x12) 48 v48x13) 11 v47x12) 12 v48x13) 49 v48x13) 50 v50x84) 51 (σ9 0)) 52 (σ9 1)) 53 (σ9 2)) 54 v54x85) 55 (σ9 2)) 56 v56x87) 57 v47x12) 58 (σ9 1)) 59 v59x88) 60 v60x89) 11 v60x89) 12 (.int .i64 1)) H86)
        (J14 (up (up (up (up (up (up (up (up (up (up (up σ9 43 (σ9 0)) 44 (σ9 1)) 45 (σ9 2)) 46 v46x10) 42 v46x10) 47 v47x12) 48 v48x13) 11 v47x12) 12 v48x13) 49 v48x13) 50 v50x84) H11)) fun J9 =>
    ob (vUn .not (σ1 8)) fun v35x90 =>
    cnd v35x90
      (HT prg I.slices_breakPatternsOrdered_int64 [(σ1 0), (σ1 1), (σ1 2)].toArray H1 fun v39x91 H92 =>
      ob (vInt .sub (σ1 3) (.int .i64 1)) fun v41x93 =>
      J9 (up (up (up (up (up (up (up (up (up (up (up (up (up (up (up (up (up σ1 19 (σ1 2)) 20 (σ1 1)) 21 v21x2) 10 v21x2) 22 v21x2) 23 v23x3) 28 (σ1 3)) 29 v29x6) 34 (σ1 8)) 35 v35x90) 36 (σ1 0)) 37 (σ1 1)) 38 (σ1 2)) 39 v39x91) 40 (σ1 3)) 41 v41x93) 3 v41x93) H92)
      (J9 (up (up (up (up (up (up (up (up (up (up σ1 19 (σ1 2)) 20 (σ1 1)) 21 v21x2) 10 v21x2) 22 v21x2) 23 v23x3) 28 (σ1 3)) 29 v29x6) 34 (σ1 8)) 35 v35x90) H1)))) (blkQ 0 (retQ prg [] K)) (up (up (S0 [a0, a1, a2, a3]) 8 (.bool true)) 9 (.bool true)) H
def O.slices_pdqsortOrdered_int64 : Nat → Nat × List Nat := fun i => bif Nat.beq i 17 then (0, [0, 1, 2, 3, 4, 5, 6, 7, 8, 9, 10, 11, 12, 13, 14]) else (0, [])
theorem R.slices_pdqsortOrdered_int64 {a0 a1 a2 a3 : Value} {H : Hp} {K : Value → Hp → Prop} (h : F.slices_pdqsortOrdered_int64 a0 a1 a2 a3 H K) : HT prg I.slices_pdqsortOrdered_int64 [a0, a1, a2, a3].toArray H K :=
  HT_of_fev O.slices_pdqsortOrdered_int64 mixed Try.func196 (by kernel_rfl) (Eq.mpr (by kernel_rfl : fev prg O.slices_pdqsortOrdered_int64 Try.f196 [a0, a1, a2, a3] H K = F.slices_pdqsortOrdered_int64 a0 a1 a2 a3 H K) h)

/-! slices.Sort[[]int64,int64]: function 166 -/
def F.slices_Sort_int64Zint64 (a0 : Value) (H : Hp) (K : Value → Hp → Prop) : Prop :=
  ob (vLenSl a0) fun v4x1 =>
  ob (vCI .u64 v4x1) fun v8x2 =>
  HT prg I.math_bits_Len [v8x2].toArray H fun v9x3 H4 =>
  HT prg I.slices_pdqsortOrdered_int64 [a0, (.int .i64 0), v4x1, v9x3].toArray H4 fun v10x5 H6 =>
  K (.tuple #[]) H6
def O.slices_Sort_int64Zint64 : Nat → Nat × List Nat := fun i => (0, [])
theorem R.slices_Sort_int64Zint64 {a0 : Value} {H : Hp} {K : Value → Hp → Prop} (h : F.slices_Sort_int64Zint64 a0 H K) : HT prg I.slices_Sort_int64Zint64 [a0].toArray H K :=
  HT_of_fev O.slices_Sort_int64Zint64 mixed Try.func166 (by kernel_rfl) (Eq.mpr (by kernel_rfl : fev prg O.slices_Sort_int64Zint64 Try.f166 [a0] H K = F.slices_Sort_int64Zint64 a0 H K) h)

/-! loop.example/g01381/impl.CyclesOf: function 81 -/
def F.impl_CyclesOf (a0 a1 : Value) (H : Hp) (K : Value → Hp → Prop) : Prop :=
  nw (a0 : Value).cells 43 H fun v2x1 H2 =>
  ob (vLoadN 3 v2x1 H2) fun v16x3 =>
  HT prg I.impl_small [v16x3, a1].toArray H2 fun v18x4 H5 =>
  ob (vUn .not v18x4) fun v19x6 =>
  cnd v19x6
    (K (.tuple #[(.slice none 0 0), (.int .i64 0), (.bool false)]) H5)
    (opEv.nwM H5 fun v20x7 H8 =>
  jn (fun σ9 H9 =>
    bS 1 0 #[(.int .i64 0)] 2 [] H9 fun v40x10 H11 =>
    jn (fun σ12 H12 =>
      HT prg I.slices_Sort_int64Zint64 [(σ12 11)].toArray H12 fun v52x13 H14 =>
      bS 1 0 #[(.int .i64 0)] 2 [] H14 fun v53x15 H16 =>
      jn (fun σ17 H17 =>
        K (.tuple #[(σ17 13), (σ17 8), (.bool true)]) H17) fun J17 =>
      ob (vLenSl (σ12 11)) fun v55x18 =>
      lpE (fun Q19 σ19 H19 =>
        ob (vInt .lss (σ19 56) (σ19 55)) fun v57x20 =>
        cnd v57x20
          (ob (vIx 1 (σ19 54) (σ19 56)) fun v58x21 =>
        ob (vLoad v58x21 H19) fun v59x22 =>
        hp prg (Instr.lookup 95 (σ19 7) v59x22 false) H19 fun v64x23 H24 =>
        bS 1 2 #[(.int .i64 0)] 2 [(0, v59x22), (1, v64x23)] H24 fun v65x25 H26 =>
        apd 1 8 #[(.int .i64 0)] 2 (σ19 13) v65x25 H26 fun v66x27 H28 =>
        ob (vInt .add (σ19 56) (.int .i64 1)) fun v67x29 =>
        Q19 .normal (up (up (up (up (up (up (up (up (up (up (up (up (up (up σ19 57 v57x20) 58 v58x21) 59 v59x22) 15 v59x22) 60 (σ19 13)) 61 v59x22) 62 (σ19 7)) 63 v59x22) 64 v64x23) 65 v65x25) 66 v66x27) 13 v66x27) 67 v67x29) 56 v67x29) H28)
          (Q19 (.exit 4) (up σ19 57 v57x20) H19)) (blkQ 4 (thenQ J17 (retQ prg [(.tmp 4), (.tmp 5), (.tmp 6)] K))) (up (up (up (up (up (up (up σ12 51 (σ12 11)) 52 v52x13) 53 v53x15) 13 v53x15) 54 (σ12 11)) 55 v55x18) 56 (.int .i64 0)) H16) fun J12 =>
    hp prg (Instr.range 95 (σ9 7)) H11 fun v42x30 H31 =>
    lpE (fun Q32 σ32 H32 =>
      hp prg (Instr.next (σ32 42) false 0) H32 fun v43x33 H34 =>
      ob (vExt v43x33 0) fun v44x35 =>
      cnd v44x35
        (hp prg (Instr.entry (σ32 42)) H34 fun v45x36 H37 =>
      ob (vExt v45x36 0) fun v46x38 =>
      bS 1 1 #[(.int .i64 0)] 2 [(0, v46x38)] H37 fun v49x39 H40 =>
      apd 1 8 #[(.int .i64 0)] 2 (σ32 11) v49x39 H40 fun v50x41 H42 =>
      Q32 .normal (up (up (up (up (up (up (up (up (up (up σ32 43 v43x33) 44 v44x35) 45 v45x36) 46 v46x38) 12 v46x38) 47 (σ32 11)) 48 v46x38) 49 v49x39) 50 v50x41) 11 v50x41) H42)
        (Q32 (.exit 2) (up (up σ32 43 v43x33) 44 v44x35) H34)) (blkQ 2 (thenQ J12 (retQ prg [(.tmp 4), (.tmp 5), (.tmp 6)] K))) (up (up (up (up σ9 40 v40x10) 11 v40x10) 41 (σ9 7)) 42 v42x30) H31) fun J9 =>
  ob (vLoadN 3 v2x1 H8) fun v21x43 =>
  ob (vLoadN 3 v2x1 H8) fun v22x44 =>
  HT prg I.impl_Rule_steps [v22x44, a1].toArray H8 fun v24x45 H46 =>
  Le H8 H46 ∧ (HT prg I.impl_Rule_inCycles [v21x43, v24x45].toArray H46 fun v25x47 H48 =>
  Le H46 H48 ∧ (ob (vLenSl v25x47) fun v26x49 =>
  lpE (fun Q50 σ50 H50 =>
    ob (vInt .lss (σ50 27) (σ50 26)) fun v28x51 =>
    cnd v28x51
      (ob (vIx 1 (σ50 25) (σ50 27)) fun v29x52 =>
    ob (vLoad v29x52 H50) fun v30x53 =>
    ob (vInt .gtr v30x53 (.int .i64 0)) fun v32x54 =>
    cnd v32x54
      (hp prg (Instr.lookup 95 (σ50 7) v30x53 false) H50 fun v35x55 H56 =>
      ob (vInt .add v35x55 (.int .i64 1)) fun v36x57 =>
      hp prg (Instr.mapUpdate 95 (σ50 7) v30x53 v36x57) H56 fun _ H58 =>
      ob (vInt .add (σ50 8) (.int .i64 1)) fun v38x59 =>
      ob (vInt .add (σ50 27) (.int .i64 1)) fun v39x60 =>
    Q50 .normal (up (up (up (up (up (up (up (up (up (up (up (up (up (up (up σ50 28 v28x51) 29 v29x52) 30 v30x53) 10 v30x53) 31 v30x53) 32 v32x54) 33 (σ50 7)) 34 v30x53) 35 v35x55) 36 v36x57) 37 (σ50 8)) 38 v38x59) 8 v38x59) 39 v39x60) 27 v39x60) H58)
      (ob (vInt .add (σ50 27) (.int .i64 1)) fun v39x61 =>
    Q50 .normal (up (up (up (up (up (up (up (up σ50 28 v28x51) 29 v29x52) 30 v30x53) 10 v30x53) 31 v30x53) 32 v32x54) 39 v39x61) 27 v39x61) H50))
      (Q50 (.exit 0) (up σ50 28 v28x51) H50)) (blkQ 0 (thenQ J9 (retQ prg [(.tmp 4), (.tmp 5), (.tmp 6)] K))) (up (up (up (up (up (up (up (up (up (up (up (up (up (up (up (up (up (up (S0 [a0, a1]) 2 v2x1) 4 (.slice none 0 0)) 5 (.int .i64 0)) 6 (.bool false)) 16 v16x3) 17 a1) 18 v18x4) 19 v19x6) 20 v20x7) 7 v20x7) 8 (.int .i64 0)) 21 v21x43) 22 v22x44) 23 a1) 27 (.int .i64 0)) 24 v24x45) 25 v25x47) 26 v26x49) H48)))
def O.impl_CyclesOf : Nat → Nat × List Nat := fun i => bif Nat.beq i 5 then (0, [0, 1, 2, 6, 3, 4, 5]) else (0, [])
theorem R.impl_CyclesOf {a0 a1 : Value} {H : Hp} {K : Value → Hp → Prop} (h : F.impl_CyclesOf a0 a1 H K) : HT prg I.impl_CyclesOf [a0, a1].toArray H K :=
  HT_of_fev O.impl_CyclesOf mixed Try.func81 (by kernel_rfl) (Eq.mpr (by kernel_rfl : fev prg O.impl_CyclesOf Try.f81 [a0, a1] H K = F.impl_CyclesOf a0 a1 H K) h)

/-! loop.example/g01381/laws.FnExactCyclesOf: function 12 -/
def F.laws_FnExactCyclesOf (a0 a1 : Value) (H : Hp) (K : Value → Hp → Prop) : Prop :=
  nw (a0 : Value).cells 65 H fun v2x1 H2 =>
  ob (vLoadN 3 v2x1 H2) fun v19x3 =>
  HT prg I.laws_szRule [v19x3, (.int .i64 1048576)].toArray H2 fun v21x4 H5 =>
  ob (vInt .lss v21x4 (.int .i64 0)) fun v23x6 =>
  cnd v23x6
    (K (.bool true) H5)
    (ob (vLoadN 3 v2x1 H5) fun v25x7 =>
  HT prg I.laws_toRule [v25x7].toArray H5 fun v26x8 H9 =>
  HT prg I.spec_CyclesOf [v26x8, a1].toArray H9 fun v28x10 H11 =>
  ob (vExt v28x10 0) fun v29x12 =>
  ob (vExt v28x10 1) fun v30x13 =>
  ob (vExt v28x10 2) fun v31x14 =>
  ob (vLoadN 3 v2x1 H11) fun v32x15 =>
  HT prg I.laws_toRule [v32x15].toArray H11 fun v33x16 H17 =>
  nw #[(.int .i64 0), (.int .i64 0), (.slice none 0 0)] 43 H17 fun v9x18 H19 =>
  st 3 v9x18 v33x16 H19 fun H20 =>
  ob (vLoadN 3 v9x18 H20) fun v35x21 =>
  HT prg I.impl_CyclesOf [v35x21, a1].toArray H20 fun v37x22 H23 =>
  ob (vExt v37x22 0) fun v38x24 =>
  ob (vExt v37x22 1) fun v39x25 =>
  ob (vExt v37x22 2) fun v40x26 =>
  HT prg I.laws_eqInt64S [v38x24, v29x12].toArray H23 fun v43x27 H28 =>
  ob (vUn .not v43x27) fun v44x29 =>
  gop v44x29 false (fun K30 => K30 v39x25 H28) H28 fun v46x31 H32 =>
  gop v44x29 false (fun K33 => K33 v30x13 H32) H32 fun v47x34 H35 =>
  gop v44x29 false (fun K36 => ob (vInt .neq v46x31 v47x34) fun u => K36 u H35) H35 fun v48x37 H38 =>
  ob (vPick v44x29 (.bool true) v48x37) fun v49x39 =>
  gop v49x39 false (fun K40 => K40 v40x26 H38) H38 fun v51x41 H42 =>
  gop v49x39 false (fun K43 => K43 v31x14 H42) H42 fun v52x44 H45 =>
  gop v49x39 false (fun K46 => ob (vBool .neq v51x41 v52x44) fun u => K46 u H45) H45 fun v53x47 H48 =>
  ob (vPick v49x39 (.bool true) v53x47) fun v54x49 =>
  cnd v54x49
    (K (.bool false) H48)
    (ob (vLoadN 3 v9x18 H48) fun v55x50 =>
  ob (vLoadN 3 v2x1 H48) fun v56x51 =>
  HT prg I.laws_toRule [v56x51].toArray H48 fun v57x52 H53 =>
  Le H48 H53 ∧ (HT prg I.laws_eqRule [v55x50, v57x52].toArray H53 fun v58x54 H55 =>
  Le H53 H55 ∧ (ob (vUn .not v58x54) fun v59x56 =>
  cnd v59x56
    (K (.bool false) H55)
    (ob (vLoadN 3 v9x18 H55) fun v60x57 =>
  HT prg I.laws_markRule [v60x57, (.int .i64 1)].toArray H55 fun v62x58 H59 =>
  ob (vInt .lss v62x58 (.int .i64 0)) fun v64x60 =>
  gop v64x60 false (fun K61 => K61 v38x24 H59) H59 fun v66x62 H63 =>
  gop v64x60 false (fun K64 => K64 v29x12 H63) H63 fun v67x65 H66 =>
  gop v64x60 false (fun K67 => HT prg I.laws_eqInt64S [v66x62, v67x65].toArray H66 K67) H66 fun v68x68 H69 =>
  gop v64x60 false (fun K70 => ob (vUn .not v68x68) fun u => K70 u H69) H69 fun v69x71 H72 =>
  ob (vPick v64x60 (.bool true) v69x71) fun v70x73 =>
  gop v70x73 false (fun K74 => K74 v39x25 H72) H72 fun v72x75 H76 =>
  gop v70x73 false (fun K77 => K77 v30x13 H76) H76 fun v73x78 H79 =>
  gop v70x73 false (fun K80 => ob (vInt .neq v72x75 v73x78) fun u => K80 u H79) H79 fun v74x81 H82 =>
  ob (vPick v70x73 (.bool true) v74x81) fun v75x83 =>
  gop v75x83 false (fun K84 => K84 v40x26 H82) H82 fun v77x85 H86 =>
  gop v75x83 false (fun K87 => K87 v31x14 H86) H86 fun v78x88 H89 =>
  gop v75x83 false (fun K90 => ob (vBool .neq v77x85 v78x88) fun u => K90 u H89) H89 fun v79x91 H92 =>
  ob (vPick v75x83 (.bool true) v79x91) fun v80x93 =>
  cnd v80x93
    (K (.bool false) H92)
    (HT prg I.laws_markInt64S [v38x24, (.int .i64 1)].toArray H92 fun v83x94 H95 =>
  HT prg I.laws_heldInt64S [v38x24, (.int .i64 1)].toArray H95 fun v86x96 H97 =>
  ob (vInt .lss v86x96 (.int .i64 0)) fun v88x98 =>
  cnd v88x98
    (K (.bool false) H97)
    (ob (vInt .neq v86x96 v83x94) fun v91x99 =>
  cnd v91x99
    (K (.bool false) H97)
    (ob (vLoadN 3 v2x1 H97) fun v93x100 =>
  HT prg I.laws_toRule [v93x100].toArray H97 fun v94x101 H102 =>
  HT prg I.impl_CyclesOf [v94x101, a1].toArray H102 fun v96x103 H104 =>
  ob (vExt v96x103 0) fun v97x105 =>
  ob (vExt v96x103 1) fun v98x106 =>
  ob (vExt v96x103 2) fun v99x107 =>
  HT prg I.laws_eqInt64S [v97x105, v29x12].toArray H104 fun v102x108 H109 =>
  ob (vUn .not v102x108) fun v103x110 =>
  gop v103x110 false (fun K111 => K111 v98x106 H109) H109 fun v105x112 H113 =>
  gop v103x110 false (fun K114 => K114 v30x13 H113) H113 fun v106x115 H116 =>
  gop v103x110 false (fun K117 => ob (vInt .neq v105x112 v106x115) fun u => K117 u H116) H116 fun v107x118 H119 =>
  ob (vPick v103x110 (.bool true) v107x118) fun v108x120 =>
  gop v108x120 false (fun K121 => K121 v99x107 H119) H119 fun v110x122 H123 =>
  gop v108x120 false (fun K124 => K124 v31x14 H123) H123 fun v111x125 H126 =>
  gop v108x120 false (fun K127 => ob (vBool .neq v110x122 v111x125) fun u => K127 u H126) H126 fun v112x128 H129 =>
  ob (vPick v108x120 (.bool true) v112x128) fun v113x130 =>
  cnd v113x130
    (K (.bool false) H129)
    (HT prg I.laws_heldInt64S [v38x24, (.int .i64 1)].toArray H129 fun v116x131 H132 =>
  ob (vInt .lss v116x131 (.int .i64 0)) fun v118x133 =>
  cnd v118x133
    (K (.bool false) H132)
    (ob (vInt .neq v116x131 v83x94) fun v121x134 =>
  cnd v121x134
    (K (.bool false) H132)
    (K (.bool true) H132)))))))))))
def O.laws_FnExactCyclesOf : Nat → Nat × List Nat := fun i => bif Nat.beq i 10 then (0, [0, 1, 2, 3, 4]) else (0, [])
theorem R.laws_FnExactCyclesOf {a0 a1 : Value} {H : Hp} {K : Value → Hp → Prop} (h : F.laws_FnExactCyclesOf a0 a1 H K) : HT prg I.laws_FnExactCyclesOf [a0, a1].toArray H K :=
  HT_of_fev O.laws_FnExactCyclesOf mixed Try.func12 (by kernel_rfl) (Eq.mpr (by kernel_rfl : fev prg O.laws_FnExactCyclesOf Try.f12 [a0, a1] H K = F.laws_FnExactCyclesOf a0 a1 H K) h)

/-! loop.example/g01381/laws.FnCycles: function 13 -/
def F.laws_FnCycles (a0 a1 : Value) (H : Hp) (K : Value → Hp → Prop) : Prop :=
  HT prg I.laws_b10Long [a0, a1].toArray H fun v30x1 H2 =>
  cnd v30x1
    (K (.bool true) H2)
    (HT prg I.spec_B10Rule [a0, (.int .i64 1)].toArray H2 fun v32x3 H4 =>
  nw #[(.int .i64 0), (.int .i64 0), (.slice none 0 0)] 43 H4 fun v5x5 H6 =>
  st 3 v5x5 v32x3 H6 fun H7 =>
  HT prg I.laws_b10At [a1, (.int .i64 0), (.int .i64 5)].toArray H7 fun v34x8 H9 =>
  ob (vInt .add (.int .i64 3) v34x8) fun v35x10 =>
  ob (vLoadN 3 v5x5 H9) fun v37x11 =>
  HT prg I.impl_CyclesOf [v37x11, v35x10].toArray H9 fun v39x12 H13 =>
  ob (vExt v39x12 0) fun v40x14 =>
  ob (vExt v39x12 1) fun v41x15 =>
  ob (vExt v39x12 2) fun v42x16 =>
  ob (vLoadN 3 v5x5 H13) fun v44x17 =>
  HT prg I.spec_CyclesOf [v44x17, v35x10].toArray H13 fun v46x18 H19 =>
  ob (vExt v46x18 0) fun v47x20 =>
  ob (vExt v46x18 1) fun v48x21 =>
  ob (vExt v46x18 2) fun v49x22 =>
  ob (vLoadN 3 v5x5 H19) fun v51x23 =>
  HT prg I.impl_DepthOf [v51x23, v35x10].toArray H19 fun v53x24 H25 =>
  ob (vExt v53x24 0) fun v54x26 =>
  ob (vExt v53x24 1) fun v55x27 =>
  ob (vLoadN 3 v5x5 H25) fun v57x28 =>
  HT prg I.spec_DepthOf [v57x28, v35x10].toArray H25 fun v59x29 H30 =>
  ob (vExt v59x29 0) fun v60x31 =>
  ob (vExt v59x29 1) fun v61x32 =>
  ob (vLoadN 3 v5x5 H30) fun v63x33 =>
  HT prg I.impl_ImagesOf [v63x33, v35x10].toArray H30 fun v65x34 H35 =>
  ob (vExt v65x34 0) fun v66x36 =>
  ob (vExt v65x34 1) fun v67x37 =>
  ob (vUn .not v42x16) fun v69x38 =>
  gop v69x38 false (fun K39 => K39 v49x22 H35) H35 fun v71x40 H41 =>
  gop v69x38 false (fun K42 => ob (vUn .not v71x40) fun u => K42 u H41) H41 fun v72x43 H44 =>
  ob (vPick v69x38 (.bool true) v72x43) fun v73x45 =>
  gop v73x45 false (fun K46 => K46 v55x27 H44) H44 fun v75x47 H48 =>
  gop v73x45 false (fun K49 => ob (vUn .not v75x47) fun u => K49 u H48) H48 fun v76x50 H51 =>
  ob (vPick v73x45 (.bool true) v76x50) fun v77x52 =>
  gop v77x52 false (fun K53 => K53 v61x32 H51) H51 fun v79x54 H55 =>
  gop v77x52 false (fun K56 => ob (vUn .not v79x54) fun u => K56 u H55) H55 fun v80x57 H58 =>
  ob (vPick v77x52 (.bool true) v80x57) fun v81x59 =>
  gop v81x59 false (fun K60 => K60 v67x37 H58) H58 fun v83x61 H62 =>
  gop v81x59 false (fun K63 => ob (vUn .not v83x61) fun u => K63 u H62) H62 fun v84x64 H65 =>
  ob (vPick v81x59 (.bool true) v84x64) fun v85x66 =>
  gop v85x66 false (fun K67 => K67 v40x14 H65) H65 fun v87x68 H69 =>
  gop v85x66 false (fun K70 => K70 v47x20 H69) H69 fun v88x71 H72 =>
  gop v85x66 false (fun K73 => HT prg I.laws_b10Ints [v87x68, v88x71].toArray H72 K73) H72 fun v89x74 H75 =>
  gop v85x66 false (fun K76 => ob (vUn .not v89x74) fun u => K76 u H75) H75 fun v90x77 H78 =>
  ob (vPick v85x66 (.bool true) v90x77) fun v91x79 =>
  gop v91x79 false (fun K80 => K80 v41x15 H78) H78 fun v93x81 H82 =>
  gop v91x79 false (fun K83 => K83 v48x21 H82) H82 fun v94x84 H85 =>
  gop v91x79 false (fun K86 => ob (vInt .neq v93x81 v94x84) fun u => K86 u H85) H85 fun v95x87 H88 =>
  ob (vPick v91x79 (.bool true) v95x87) fun v96x89 =>
  gop v96x89 false (fun K90 => K90 v54x26 H88) H88 fun v98x91 H92 =>
  gop v96x89 false (fun K93 => K93 v60x31 H92) H92 fun v99x94 H95 =>
  gop v96x89 false (fun K96 => ob (vInt .neq v98x91 v99x94) fun u => K96 u H95) H95 fun v100x97 H98 =>
  ob (vPick v96x89 (.bool true) v100x97) fun v101x99 =>
  gop v101x99 false (fun K100 => K100 v40x14 H98) H98 fun v103x101 H102 =>
  gop v101x99 false (fun K103 => ob (vLenSl v103x101) fun u => K103 u H102) H102 fun v104x104 H105 =>
  gop v101x99 false (fun K106 => ob (vInt .rem v104x104 (.int .i64 2)) fun u => K106 u H105) H105 fun v105x107 H108 =>
  gop v101x99 false (fun K109 => ob (vInt .neq v105x107 (.int .i64 0)) fun u => K109 u H108) H108 fun v106x110 H111 =>
  ob (vPick v101x99 (.bool true) v106x110) fun v107x112 =>
  gop v107x112 false (fun K113 => K113 v41x15 H111) H111 fun v109x114 H115 =>
  gop v107x112 false (fun K116 => K116 v66x36 H115) H115 fun v110x117 H118 =>
  gop v107x112 false (fun K119 => ob (vInt .gtr v109x114 v110x117) fun u => K119 u H118) H118 fun v111x120 H121 =>
  ob (vPick v107x112 (.bool true) v111x120) fun v112x122 =>
  cnd v112x122
    (K (.bool false) H121)
    (jn (fun σ123 H123 =>
    HT prg I.spec_B10Ring [(σ123 1), (.int .i64 2), (σ123 6)].toArray H123 fun v159x124 H125 =>
    ob (vLoadN 3 (σ123 5) H125) fun v161x126 =>
    HT prg I.spec_RunRing [v161x126, v159x124, (σ123 13)].toArray H125 fun v164x127 H128 =>
    ob (vExt v164x127 0) fun v165x129 =>
    ob (vExt v164x127 1) fun v166x130 =>
    ob (vInt .neq (σ123 19) (σ123 8)) fun v169x131 =>
    gop v169x131 false (fun K132 => K132 v166x130 H128) H128 fun v171x133 H134 =>
    gop v169x131 false (fun K135 => ob (vUn .not v171x133) fun u => K135 u H134) H134 fun v172x136 H137 =>
    ob (vPick v169x131 (.bool true) v172x136) fun v173x138 =>
    cnd v173x138
      (K (.bool false) H137)
      (jn (fun σ139 H139 =>
      K (.bool false) H139) fun J139 =>
    lpE (fun Q140 σ140 H140 =>
      ob (vInt .shl (.int .i64 1) (σ140 6)) fun v177x141 =>
      ob (vInt .lss (σ140 25) v177x141) fun v178x142 =>
      cnd v178x142
        (ob (vLoadN 3 (σ140 5) H140) fun v182x143 =>
      HT prg I.spec_StepRing [v182x143, (σ140 24)].toArray H140 fun v184x144 H145 =>
      ob (vExt v184x144 0) fun v185x146 =>
      ob (vExt v184x144 1) fun v186x147 =>
      ob (vUn .not v186x147) fun v188x148 =>
      cnd v188x148
        (Q140 .ret (up (up (up (up (up (up (up (up (up (up (up (up (up (up (up σ140 175 (σ140 25)) 176 (σ140 6)) 177 v177x141) 178 v178x142) 182 v182x143) 183 (σ140 24)) 184 v184x144) 181 v184x144) 185 v185x146) 186 v186x147) 26 v185x146) 27 v186x147) 187 v186x147) 188 v188x148) 4 (.bool false)) H145)
        (HT prg I.laws_b10Ints [v185x146, (σ140 22)].toArray H145 fun v192x149 H150 =>
      cnd v192x149
        (Q140 .ret (up (up (up (up (up (up (up (up (up (up (up (up (up (up (up (up (up (up (up (up σ140 175 (σ140 25)) 176 (σ140 6)) 177 v177x141) 178 v178x142) 182 v182x143) 183 (σ140 24)) 184 v184x144) 181 v184x144) 185 v185x146) 186 v186x147) 26 v185x146) 27 v186x147) 187 v186x147) 188 v188x148) 189 v185x146) 24 v185x146) 190 v185x146) 191 (σ140 22)) 192 v192x149) 4 (.bool true)) H150)
        (ob (vInt .add (σ140 25) (.int .i64 1)) fun v180x151 =>
      Q140 .normal (up (up (up (up (up (up (up (up (up (up (up (up (up (up (up (up (up (up (up (up (up (up σ140 175 (σ140 25)) 176 (σ140 6)) 177 v177x141) 178 v178x142) 182 v182x143) 183 (σ140 24)) 184 v184x144) 181 v184x144) 185 v185x146) 186 v186x147) 26 v185x146) 27 v186x147) 187 v186x147) 188 v188x148) 189 v185x146) 24 v185x146) 190 v185x146) 191 (σ140 22)) 192 v192x149) 179 (σ140 25)) 180 v180x151) 25 v180x151) H150)))
        (Q140 (.exit 2) (up (up (up (up σ140 175 (σ140 25)) 176 (σ140 6)) 177 v177x141) 178 v178x142) H140)) (blkQ 2 (thenQ J139 (retQ prg [(.tmp 4)] K))) (up (up (up (up (up (up (up (up (up (up (up (up (up (up (up (up (up (up (up (up (up (up (up σ123 157 (σ123 1)) 158 (σ123 6)) 159 v159x124) 21 v159x124) 161 v161x126) 162 v159x124) 163 (σ123 13)) 164 v164x127) 160 v164x127) 165 v165x129) 166 v166x130) 22 v165x129) 23 v166x130) 167 (σ123 19)) 168 (σ123 8)) 169 v169x131) 170 v169x131) 171 v171x133) 172 v172x136) 173 v173x138) 174 v165x129) 24 v165x129) 25 (.int .i64 0)) H137)) fun J123 =>
  lpE (fun Q152 σ152 H152 =>
    ob (vInt .add (σ152 20) (.int .i64 1)) fun v114x153 =>
    ob (vLenSl (σ152 7)) fun v116x154 =>
    ob (vInt .lss v114x153 v116x154) fun v117x155 =>
    cnd v117x155
      (ob (vIx 1 (σ152 7) (σ152 20)) fun v122x156 =>
    ob (vLoad v122x156 H152) fun v123x157 =>
    ob (vInt .lss v123x157 (.int .i64 1)) fun v124x158 =>
    gop v124x158 false (fun K159 => K159 (σ152 7) H152) H152 fun v126x160 H161 =>
    gop v124x158 false (fun K162 => K162 (σ152 20) H161) H161 fun v127x163 H164 =>
    gop v124x158 false (fun K165 => ob (vInt .add v127x163 (.int .i64 1)) fun u => K165 u H164) H164 fun v128x166 H167 =>
    gop v124x158 false (fun K168 => ob (vIx 1 v126x160 v128x166) fun u => K168 u H167) H167 fun v129x169 H170 =>
    gop v124x158 false (fun K171 => ob (vLoad v129x169 H170) fun u => K171 u H170) H170 fun v130x172 H173 =>
    gop v124x158 false (fun K174 => K174 (σ152 7) H173) H173 fun v131x175 H176 =>
    gop v124x158 false (fun K177 => K177 (σ152 20) H176) H176 fun v132x178 H179 =>
    gop v124x158 false (fun K180 => ob (vIx 1 v131x175 v132x178) fun u => K180 u H179) H179 fun v133x181 H182 =>
    gop v124x158 false (fun K183 => ob (vLoad v133x181 H182) fun u => K183 u H182) H182 fun v134x184 H185 =>
    gop v124x158 false (fun K186 => ob (vInt .lss v130x172 v134x184) fun u => K186 u H185) H185 fun v135x187 H188 =>
    ob (vPick v124x158 (.bool true) v135x187) fun v136x189 =>
    gop v136x189 false (fun K190 => K190 (σ152 7) H188) H188 fun v138x191 H192 =>
    gop v136x189 false (fun K193 => K193 (σ152 20) H192) H192 fun v139x194 H195 =>
    gop v136x189 false (fun K196 => ob (vInt .add v139x194 (.int .i64 1)) fun u => K196 u H195) H195 fun v140x197 H198 =>
    gop v136x189 false (fun K199 => ob (vIx 1 v138x191 v140x197) fun u => K199 u H198) H198 fun v141x200 H201 =>
    gop v136x189 false (fun K202 => ob (vLoad v141x200 H201) fun u => K202 u H201) H201 fun v142x203 H204 =>
    gop v136x189 false (fun K205 => K205 (σ152 7) H204) H204 fun v143x206 H207 =>
    gop v136x189 false (fun K208 => K208 (σ152 20) H207) H207 fun v144x209 H210 =>
    gop v136x189 false (fun K211 => ob (vIx 1 v143x206 v144x209) fun u => K211 u H210) H210 fun v145x212 H213 =>
    gop v136x189 false (fun K214 => ob (vLoad v145x212 H213) fun u => K214 u H213) H213 fun v146x215 H216 =>
    gop v136x189 false (fun K217 => ob (vInt .rem v142x203 v146x215) fun u => K217 u H216) H216 fun v147x218 H219 =>
    gop v136x189 false (fun K220 => ob (vInt .neq v147x218 (.int .i64 0)) fun u => K220 u H219) H219 fun v148x221 H222 =>
    ob (vPick v136x189 (.bool true) v148x221) fun v149x223 =>
    cnd v149x223
      (Q152 .ret (up (up (up (up (up (up (up (up (up (up (up (up (up (up (up (up (up (up (up (up (up (up (up (up (up (up (up (up (up (up (up (up (up (up (up (up σ152 113 (σ152 20)) 114 v114x153) 115 (σ152 7)) 116 v116x154) 117 v117x155) 120 (σ152 7)) 121 (σ152 20)) 122 v122x156) 123 v123x157) 124 v124x158) 125 v124x158) 126 v126x160) 127 v127x163) 128 v128x166) 129 v129x169) 130 v130x172) 131 v131x175) 132 v132x178) 133 v133x181) 134 v134x184) 135 v135x187) 136 v136x189) 137 v136x189) 138 v138x191) 139 v139x194) 140 v140x197) 141 v141x200) 142 v142x203) 143 v143x206) 144 v144x209) 145 v145x212) 146 v146x215) 147 v147x218) 148 v148x221) 149 v149x223) 4 (.bool false)) H222)
      (ob (vInt .add (σ152 20) (.int .i64 1)) fun v153x224 =>
    ob (vIx 1 (σ152 7) v153x224) fun v154x225 =>
    ob (vLoad v154x225 H222) fun v155x226 =>
    ob (vInt .add (σ152 19) v155x226) fun v156x227 =>
    ob (vInt .add (σ152 20) (.int .i64 2)) fun v119x228 =>
    Q152 .normal (up (up (up (up (up (up (up (up (up (up (up (up (up (up (up (up (up (up (up (up (up (up (up (up (up (up (up (up (up (up (up (up (up (up (up (up (up (up (up (up (up (up (up (up (up (up σ152 113 (σ152 20)) 114 v114x153) 115 (σ152 7)) 116 v116x154) 117 v117x155) 120 (σ152 7)) 121 (σ152 20)) 122 v122x156) 123 v123x157) 124 v124x158) 125 v124x158) 126 v126x160) 127 v127x163) 128 v128x166) 129 v129x169) 130 v130x172) 131 v131x175) 132 v132x178) 133 v133x181) 134 v134x184) 135 v135x187) 136 v136x189) 137 v136x189) 138 v138x191) 139 v139x194) 140 v140x197) 141 v141x200) 142 v142x203) 143 v143x206) 144 v144x209) 145 v145x212) 146 v146x215) 147 v147x218) 148 v148x221) 149 v149x223) 150 (σ152 19)) 151 (σ152 7)) 152 (σ152 20)) 153 v153x224) 154 v154x225) 155 v155x226) 156 v156x227) 19 v156x227) 118 (σ152 20)) 119 v119x228) 20 v119x228) H222))
      (Q152 (.exit 0) (up (up (up (up (up σ152 113 (σ152 20)) 114 v114x153) 115 (σ152 7)) 116 v116x154) 117 v117x155) H152)) (blkQ 0 (thenQ J123 (retQ prg [(.tmp 4)] K))) (up (up (up (up (up (up (up (up (up (up (up (up (up (up (up (up (up (up (up (up (up (up (up (up (up (up (up (up (up (up (up (up (up (up (up (up (up (up (up (up (up (up (up (up (up (up (up (up (up (up (up (up (up (up (up (up (up (up (up (up (up (up (up (up (up (up (up (up (up (up (up (up (up (up (up (up (up (up (up (up (up (up (up (up (up (up (up (up (up (up (up (up (up (up (up (up (up (up (up (up (up (up (S0 [a0, a1]) 4 (.bool false)) 28 a0) 29 a1) 30 v30x1) 31 a0) 32 v32x3) 5 v5x5) 33 a1) 34 v34x8) 35 v35x10) 6 v35x10) 37 v37x11) 38 v35x10) 39 v39x12) 36 v39x12) 40 v40x14) 41 v41x15) 42 v42x16) 7 v40x14) 8 v41x15) 9 v42x16) 44 v44x17) 45 v35x10) 46 v46x18) 43 v46x18) 47 v47x20) 48 v48x21) 49 v49x22) 10 v47x20) 11 v48x21) 12 v49x22) 51 v51x23) 52 v35x10) 53 v53x24) 50 v53x24) 54 v54x26) 55 v55x27) 13 v54x26) 14 v55x27) 57 v57x28) 58 v35x10) 59 v59x29) 56 v59x29) 60 v60x31) 61 v61x32) 15 v60x31) 16 v61x32) 63 v63x33) 64 v35x10) 65 v65x34) 62 v65x34) 66 v66x36) 67 v67x37) 17 v66x36) 18 v67x37) 68 v42x16) 69 v69x38) 70 v69x38) 71 v71x40) 72 v72x43) 73 v73x45) 74 v73x45) 75 v75x47) 76 v76x50) 77 v77x52) 78 v77x52) 79 v79x54) 80 v80x57) 81 v81x59) 82 v81x59) 83 v83x61) 84 v84x64) 85 v85x66) 86 v85x66) 87 v87x68) 88 v88x71) 89 v89x74) 90 v90x77) 91 v91x79) 92 v91x79) 93 v93x81) 94 v94x84) 95 v95x87) 96 v96x89) 97 v96x89) 98 v98x91) 99 v99x94) 100 v100x97) 101 v101x99) 102 v101x99) 103 v103x101) 104 v104x104) 105 v105x107) 106 v106x110) 107 v107x112) 108 v107x112) 109 v109x114) 110 v110x117) 111 v111x120) 112 v112x122) 19 (.int .i64 0)) 20 (.int .i64 0)) H121))
def O.laws_FnCycles : Nat → Nat × List Nat := fun i => bif Nat.beq i 16 then (0, [0, 1, 2, 3, 4, 5, 6, 7, 8, 9, 10, 11, 12, 13, 14, 15, 16, 17, 18, 19, 20, 21, 22, 23, 24, 25, 26, 27, 28, 29]) else (0, [])
theorem R.laws_FnCycles {a0 a1 : Value} {H : Hp} {K : Value → Hp → Prop} (h : F.laws_FnCycles a0 a1 H K) : HT prg I.laws_FnCycles [a0, a1].toArray H K :=
  HT_of_fev O.laws_FnCycles mixed Try.func13 (by kernel_rfl) (Eq.mpr (by kernel_rfl : fev prg O.laws_FnCycles Try.f13 [a0, a1] H K = F.laws_FnCycles a0 a1 H K) h)

end Go.Proofs.Ytelcmohhjkgjoaa
