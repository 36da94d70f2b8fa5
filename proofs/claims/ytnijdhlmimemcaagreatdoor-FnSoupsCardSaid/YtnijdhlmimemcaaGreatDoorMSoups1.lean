/- Several texts in one. -/
import Derived.Test.YtnijdhlmimemcaaGreatDoorG0
import Derived.Test.YtnijdhlmimemcaaGreatDoorMSoups0
/- Functions' texts over a partial heap. -/
namespace Go.Proofs.YtnijdhlmimemcaaGreatDoor
open HL
set_option linter.unusedVariables false
set_option maxRecDepth 100000
set_option maxHeartbeats 4000000
/-! loop.example/g01381/impl.CensusOf: function 27 -/
def F.impl_CensusOf (a0 : Value) (H : Hp) (K : Value → Hp → Prop) : Prop :=
  nw (a0 : Value).cells 36 H fun v1x1 H2 =>
  ob (vLoadN 3 v1x1 H2) fun v16x3 =>
  HT prg I.impl_PartsOf [v16x3].toArray H2 fun v17x4 H5 =>
  ob (vExt v17x4 0) fun v18x6 =>
  ob (vExt v17x4 1) fun v19x7 =>
  ob (vExt v17x4 2) fun v20x8 =>
  ob (vUn .not v20x8) fun v22x9 =>
  cnd v22x9
    (K (.tuple #[(.slice none 0 0), (.slice none 0 0), (.bool false)]) H5)
    (bS 1 0 #[(.string ⟨#[]⟩)] 9 [] H5 fun v23x10 H11 =>
  jn (fun σ12 H12 =>
    HT prg I.slices_Sort_string_string [(σ12 8)].toArray H12 fun v37x13 H14 =>
    bS 1 0 #[(.string ⟨#[]⟩)] 9 [] H14 fun v38x15 H16 =>
    bS 1 0 #[(.int .i64 0)] 2 [] H16 fun v39x17 H18 =>
    jn (fun σ19 H19 =>
      ob (vLenSl (σ19 11)) fun v76x20 =>
      ob (vInt .gtr v76x20 (.int .i64 64)) fun v77x21 =>
      cnd v77x21
        (K (.tuple #[(.slice none 0 0), (.slice none 0 0), (.bool false)]) H19)
        (K (.tuple #[(σ19 11), (σ19 12), (.bool true)]) H19)) fun J19 =>
    ob (vLenSl (σ12 8)) fun v41x22 =>
    lpE (fun Q23 σ23 H23 =>
      ob (vInt .lss (σ23 42) (σ23 41)) fun v43x24 =>
      cnd v43x24
        (ob (vIx 1 (σ23 40) (σ23 42)) fun v44x25 =>
      ob (vLoad v44x25 H23) fun v45x26 =>
      ob (vLenSl (σ23 11)) fun v47x27 =>
      ob (vInt .eql v47x27 (.int .i64 0)) fun v48x28 =>
      gop v48x28 false (fun K29 => K29 (σ23 11) H23) H23 fun v50x30 H31 =>
      gop v48x28 false (fun K32 => K32 (σ23 11) H31) H31 fun v51x33 H34 =>
      gop v48x28 false (fun K35 => ob (vLenSl v51x33) fun u => K35 u H34) H34 fun v52x36 H37 =>
      gop v48x28 false (fun K38 => ob (vInt .sub v52x36 (.int .i64 1)) fun u => K38 u H37) H37 fun v53x39 H40 =>
      gop v48x28 false (fun K41 => ob (vIx 1 v50x30 v53x39) fun u => K41 u H40) H40 fun v54x42 H43 =>
      gop v48x28 false (fun K44 => ob (vLoad v54x42 H43) fun u => K44 u H43) H43 fun v55x45 H46 =>
      gop v48x28 false (fun K47 => K47 v45x26 H46) H46 fun v56x48 H49 =>
      gop v48x28 false (fun K50 => ob (vStr .neq v55x45 v56x48) fun u => K50 u H49) H49 fun v57x51 H52 =>
      ob (vPick v48x28 (.bool true) v57x51) fun v58x53 =>
      cnd v58x53
        (bS 1 1 #[(.string ⟨#[]⟩)] 9 [(0, v45x26)] H52 fun v61x54 H55 =>
        apd 1 16 #[(.string ⟨#[]⟩)] 9 (σ23 11) v61x54 H55 fun v62x56 H57 =>
        bS 1 1 #[(.int .i64 0)] 2 [(0, (.int .i64 0))] H57 fun v64x58 H59 =>
        apd 1 8 #[(.int .i64 0)] 2 (σ23 12) v64x58 H59 fun v65x60 H61 =>
        ob (vLenSl v65x60) fun v68x62 =>
      ob (vInt .sub v68x62 (.int .i64 1)) fun v69x63 =>
      ob (vIx 1 v65x60 v69x63) fun v70x64 =>
      ob (vLoad v70x64 H61) fun v71x65 =>
      ob (vInt .add v71x65 (.int .i64 1)) fun v72x66 =>
      ob (vIx 1 v65x60 v69x63) fun v73x67 =>
      st 1 v73x67 v72x66 H61 fun H68 =>
      ob (vInt .add (σ23 42) (.int .i64 1)) fun v74x69 =>
      Q23 .normal (up (up (up (up (up (up (up (up (up (up (up (up (up (up (up (up (up (up (up (up (up (up (up (up (up (up (up (up (up (up (up (up (up (up (up (up σ23 43 v43x24) 44 v44x25) 45 v45x26) 14 v45x26) 46 (σ23 11)) 47 v47x27) 48 v48x28) 49 v48x28) 50 v50x30) 51 v51x33) 52 v52x36) 53 v53x39) 54 v54x42) 55 v55x45) 56 v56x48) 57 v57x51) 58 v58x53) 59 (σ23 11)) 60 v45x26) 61 v61x54) 62 v62x56) 63 (σ23 12)) 64 v64x58) 65 v65x60) 11 v62x56) 12 v65x60) 66 v65x60) 67 v65x60) 68 v68x62) 69 v69x63) 70 v70x64) 71 v71x65) 72 v72x66) 73 v73x67) 74 v74x69) 42 v74x69) H68)
        (ob (vLenSl (σ23 12)) fun v68x70 =>
      ob (vInt .sub v68x70 (.int .i64 1)) fun v69x71 =>
      ob (vIx 1 (σ23 12) v69x71) fun v70x72 =>
      ob (vLoad v70x72 H52) fun v71x73 =>
      ob (vInt .add v71x73 (.int .i64 1)) fun v72x74 =>
      ob (vIx 1 (σ23 12) v69x71) fun v73x75 =>
      st 1 v73x75 v72x74 H52 fun H76 =>
      ob (vInt .add (σ23 42) (.int .i64 1)) fun v74x77 =>
      Q23 .normal (up (up (up (up (up (up (up (up (up (up (up (up (up (up (up (up (up (up (up (up (up (up (up (up (up (up (up σ23 43 v43x24) 44 v44x25) 45 v45x26) 14 v45x26) 46 (σ23 11)) 47 v47x27) 48 v48x28) 49 v48x28) 50 v50x30) 51 v51x33) 52 v52x36) 53 v53x39) 54 v54x42) 55 v55x45) 56 v56x48) 57 v57x51) 58 v58x53) 66 (σ23 12)) 67 (σ23 12)) 68 v68x70) 69 v69x71) 70 v70x72) 71 v71x73) 72 v72x74) 73 v73x75) 74 v74x77) 42 v74x77) H76))
        (Q23 (.exit 2) (up σ23 43 v43x24) H23)) (blkQ 2 (thenQ J19 (retQ prg [(.tmp 2), (.tmp 3), (.tmp 4)] K))) (up (up (up (up (up (up (up (up (up σ12 36 (σ12 8)) 37 v37x13) 38 v38x15) 39 v39x17) 11 v38x15) 12 v39x17) 40 (σ12 8)) 41 v41x22) 42 (.int .i64 0)) H18) fun J12 =>
  ob (vLenSl v18x6) fun v25x78 =>
  lpE (fun Q79 σ79 H79 =>
    ob (vInt .lss (σ79 26) (σ79 25)) fun v27x80 =>
    cnd v27x80
      (ob (vIx 3 (σ79 24) (σ79 26)) fun v28x81 =>
    ob (vLoadN 3 v28x81 H79) fun v29x82 =>
    nw #[(.int .i64 0), (.int .i64 0), (.slice none 0 0)] 36 H79 fun v10x83 H84 =>
    st 3 v10x83 v29x82 H84 fun H85 =>
    ob (vLoadN 3 v10x83 H85) fun v31x86 =>
    HT prg I.impl_Field_name [v31x86].toArray H85 fun v32x87 H88 =>
    bS 1 1 #[(.string ⟨#[]⟩)] 9 [(0, v32x87)] H88 fun v33x89 H90 =>
    apd 1 16 #[(.string ⟨#[]⟩)] 9 (σ79 8) v33x89 H90 fun v34x91 H92 =>
    ob (vInt .add (σ79 26) (.int .i64 1)) fun v35x93 =>
    Q79 .normal (up (up (up (up (up (up (up (up (up (up (up (up σ79 27 v27x80) 28 v28x81) 29 v29x82) 10 v10x83) 30 (σ79 8)) 31 v31x86) 32 v32x87) 33 v33x89) 34 v34x91) 8 v34x91) 35 v35x93) 26 v35x93) H92)
      (Q79 (.exit 0) (up σ79 27 v27x80) H79)) (blkQ 0 (thenQ J12 (retQ prg [(.tmp 2), (.tmp 3), (.tmp 4)] K))) (up (up (up (up (up (up (up (up (up (up (up (up (up (up (up (up (up (up (up (up (S0 [a0]) 1 v1x1) 2 (.slice none 0 0)) 3 (.slice none 0 0)) 4 (.bool false)) 16 v16x3) 17 v17x4) 15 v17x4) 18 v18x6) 19 v19x7) 20 v20x8) 5 v18x6) 6 v19x7) 7 v20x8) 21 v20x8) 22 v22x9) 23 v23x10) 8 v23x10) 24 v18x6) 25 v25x78) 26 (.int .i64 0)) H11)
def O.impl_CensusOf : Nat → Nat × List Nat := fun i => (0, [])
theorem R.impl_CensusOf {a0 : Value} {H : Hp} {K : Value → Hp → Prop} (h : F.impl_CensusOf a0 H K) : HT prg I.impl_CensusOf [a0].toArray H K :=
  HT_of_fev O.impl_CensusOf mixed Tryz.func27 (by kernel_rfl) (Eq.mpr (by kernel_rfl : fev prg O.impl_CensusOf Tryz.f27 [a0] H K = F.impl_CensusOf a0 H K) h)

/-! loop.example/g01381/impl.SoupOf: function 8 -/
def F.impl_SoupOf (a0 a1 a2 a3 a4 : Value) (H : Hp) (K : Value → Hp → Prop) : Prop :=
  nw (a0 : Value).cells 26 H fun v5x1 H2 =>
  ob (vLoadN 2 v5x1 H2) fun v20x3 =>
  HT prg I.impl_soup [v20x3, a1, a2, a3, a4].toArray H2 fun v25x4 H5 =>
  ob (vExt v25x4 0) fun v26x6 =>
  ob (vExt v25x4 1) fun v27x7 =>
  ob (vExt v25x4 2) fun v28x8 =>
  nw #[(.int .i64 0), (.int .i64 0), (.slice none 0 0)] 36 H5 fun v14x9 H10 =>
  st 3 v14x9 v26x6 H10 fun H11 =>
  ob (vUn .not v28x8) fun v30x12 =>
  cnd v30x12
    (K (.tuple #[(.slice none 0 0), (.slice none 0 0), (.int .i64 0), (.bool false)]) H11)
    (ob (vLoadN 3 v14x9 H11) fun v32x13 =>
  HT prg I.impl_CensusOf [v32x13].toArray H11 fun v33x14 H15 =>
  ob (vExt v33x14 0) fun v34x16 =>
  ob (vExt v33x14 1) fun v35x17 =>
  ob (vExt v33x14 2) fun v36x18 =>
  ob (vUn .not v36x18) fun v38x19 =>
  cnd v38x19
    (K (.tuple #[(.slice none 0 0), (.slice none 0 0), (.int .i64 0), (.bool false)]) H15)
    (K (.tuple #[v34x16, v35x17, v27x7, (.bool true)]) H15))
def O.impl_SoupOf : Nat → Nat × List Nat := fun i => (0, [])
theorem R.impl_SoupOf {a0 a1 a2 a3 a4 : Value} {H : Hp} {K : Value → Hp → Prop} (h : F.impl_SoupOf a0 a1 a2 a3 a4 H K) : HT prg I.impl_SoupOf [a0, a1, a2, a3, a4].toArray H K :=
  HT_of_fev O.impl_SoupOf mixed Tryz.func8 (by kernel_rfl) (Eq.mpr (by kernel_rfl : fev prg O.impl_SoupOf Tryz.f8 [a0, a1, a2, a3, a4] H K = F.impl_SoupOf a0 a1 a2 a3 a4 H K) h)

/-! loop.example/g01381/spec.l00In: function 38 -/
def F.spec_l00In (a0 a1 a2 : Value) (H : Hp) (K : Value → Hp → Prop) : Prop :=
  ob (vInt .geq a0 a1) fun v9x1 =>
  gop v9x1 true (fun K2 => K2 a0 H) H fun v11x3 H4 =>
  gop v9x1 true (fun K5 => K5 a2 H4) H4 fun v12x6 H7 =>
  gop v9x1 true (fun K8 => ob (vInt .leq v11x3 v12x6) fun u => K8 u H7) H7 fun v13x9 H10 =>
  ob (vPick v9x1 v13x9 (.bool false)) fun v14x11 =>
  K v14x11 H10
def O.spec_l00In : Nat → Nat × List Nat := fun i => (0, [])
theorem R.spec_l00In {a0 a1 a2 : Value} {H : Hp} {K : Value → Hp → Prop} (h : F.spec_l00In a0 a1 a2 H K) : HT prg I.spec_l00In [a0, a1, a2].toArray H K :=
  HT_of_fev O.spec_l00In mixed Tryz.func38 (by kernel_rfl) (Eq.mpr (by kernel_rfl : fev prg O.spec_l00In Tryz.f38 [a0, a1, a2] H K = F.spec_l00In a0 a1 a2 H K) h)

/-! loop.example/g01381/spec.l04Sides: function 36 -/
def F.spec_l04Sides (a0 a1 : Value) (H : Hp) (K : Value → Hp → Prop) : Prop :=
  HT prg I.spec_l00In [a0, (.int .i64 1), (.int .i64 24)].toArray H fun v6x1 H2 =>
  gop v6x1 true (fun K3 => K3 a1 H2) H2 fun v8x4 H5 =>
  gop v6x1 true (fun K6 => HT prg I.spec_l00In [v8x4, (.int .i64 1), (.int .i64 24)].toArray H5 K6) H5 fun v9x7 H8 =>
  ob (vPick v6x1 v9x7 (.bool false)) fun v10x9 =>
  K v10x9 H8
def O.spec_l04Sides : Nat → Nat × List Nat := fun i => (0, [])
theorem R.spec_l04Sides {a0 a1 : Value} {H : Hp} {K : Value → Hp → Prop} (h : F.spec_l04Sides a0 a1 H K) : HT prg I.spec_l04Sides [a0, a1].toArray H K :=
  HT_of_fev O.spec_l04Sides mixed Tryz.func36 (by kernel_rfl) (Eq.mpr (by kernel_rfl : fev prg O.spec_l04Sides Tryz.f36 [a0, a1] H K = F.spec_l04Sides a0 a1 H K) h)

/-! loop.example/g01381/spec.l02Share: function 37 -/
def F.spec_l02Share (a0 : Value) (H : Hp) (K : Value → Hp → Prop) : Prop :=
  ob (vFcmp .geq a0 (.float .f32 0)) fun v4x1 =>
  gop v4x1 true (fun K2 => K2 a0 H) H fun v6x3 H4 =>
  gop v4x1 true (fun K5 => ob (vFcmp .leq v6x3 (.float .f32 1065353216)) fun u => K5 u H4) H4 fun v7x6 H7 =>
  ob (vPick v4x1 v7x6 (.bool false)) fun v8x8 =>
  K v8x8 H7
def O.spec_l02Share : Nat → Nat × List Nat := fun i => (0, [])
theorem R.spec_l02Share {a0 : Value} {H : Hp} {K : Value → Hp → Prop} (h : F.spec_l02Share a0 H K) : HT prg I.spec_l02Share [a0].toArray H K :=
  HT_of_fev O.spec_l02Share mixed Tryz.func37 (by kernel_rfl) (Eq.mpr (by kernel_rfl : fev prg O.spec_l02Share Tryz.f37 [a0] H K = F.spec_l02Share a0 H K) h)

/-! loop.example/g01381/spec.l04New: function 39 -/
def F.spec_l04New (a0 a1 : Value) (H : Hp) (K : Value → Hp → Prop) : Prop :=
  nw #[(.int .i64 0), (.int .i64 0), (.slice none 0 0)] 36 H fun v4x1 H2 =>
  ob (vInt .mul a0 a1) fun v9x3 =>
  mkS 1 8 #[(.int .i64 0)] 2 v9x3 v9x3 H2 fun v10x4 H5 =>
  ob (vBuild [(0, 1), (1, 1), (2, 1)] (.agg #[(.int .i64 0), (.int .i64 0), (.slice none 0 0)]) [(0, a0), (1, a1), (2, v10x4)]) fun v11x6 =>
  st 3 v4x1 v11x6 H5 fun H7 =>
  ob (vLoadN 3 v4x1 H7) fun u8 => K u8 H7
def O.spec_l04New : Nat → Nat × List Nat := fun i => (0, [])
theorem R.spec_l04New {a0 a1 : Value} {H : Hp} {K : Value → Hp → Prop} (h : F.spec_l04New a0 a1 H K) : HT prg I.spec_l04New [a0, a1].toArray H K :=
  HT_of_fev O.spec_l04New mixed Tryz.func39 (by kernel_rfl) (Eq.mpr (by kernel_rfl : fev prg O.spec_l04New Tryz.f39 [a0, a1] H K = F.spec_l04New a0 a1 H K) h)

/-! loop.example/g01381/spec.DrawField: function 11 -/
def F.spec_DrawField (a0 a1 a2 a3 : Value) (H : Hp) (K : Value → Hp → Prop) : Prop :=
  nw #[(.int .i64 0), (.int .i64 0), (.slice none 0 0)] 36 H fun v8x1 H2 =>
  HT prg I.spec_l04Sides [a0, a1].toArray H2 fun v15x3 H4 =>
  ob (vUn .not v15x3) fun v16x5 =>
  gop v16x5 false (fun K6 => K6 a2 H4) H4 fun v18x7 H8 =>
  gop v16x5 false (fun K9 => HT prg I.spec_l02Share [v18x7].toArray H8 K9) H8 fun v19x10 H11 =>
  gop v16x5 false (fun K12 => ob (vUn .not v19x10) fun u => K12 u H11) H11 fun v20x13 H14 =>
  ob (vPick v16x5 (.bool true) v20x13) fun v21x15 =>
  gop v21x15 false (fun K16 => K16 a3 H14) H14 fun v23x17 H18 =>
  gop v21x15 false (fun K19 => HT prg I.spec_l00In [v23x17, (.int .i64 0), (.int .i64 4294967295)].toArray H18 K19) H18 fun v24x20 H21 =>
  gop v21x15 false (fun K22 => ob (vUn .not v24x20) fun u => K22 u H21) H21 fun v25x23 H24 =>
  ob (vPick v21x15 (.bool true) v25x23) fun v26x25 =>
  cnd v26x25
    (ob (vBuild [(0, 1), (1, 1), (2, 1)] (.agg #[(.int .i64 0), (.int .i64 0), (.slice none 0 0)]) []) fun v27x26 =>
    st 3 v8x1 v27x26 H24 fun H27 =>
    ob (vLoadN 3 v8x1 H27) fun u28 => K (.tuple #[u28, (.int .i64 0), (.bool false)]) H27)
    (HT prg I.spec_l04New [a0, a1].toArray H24 fun v30x29 H30 =>
  nw #[(.int .i64 0), (.int .i64 0), (.slice none 0 0)] 36 H30 fun v11x31 H32 =>
  st 3 v11x31 v30x29 H32 fun H33 =>
  jn (fun σ34 H34 =>
    ob (vLoadN 3 (σ34 11) H34) fun v52x35 =>
    st 3 (σ34 8) v52x35 H34 fun H36 =>
    ob (vLoadN 3 (σ34 8) H36) fun u37 => K (.tuple #[u37, (σ34 3), (.bool true)]) H36) fun J34 =>
  lpE (fun Q38 σ38 H38 =>
    ob (vFa 2 (σ38 11)) fun v32x39 =>
    ob (vLoad v32x39 H38) fun v33x40 =>
    ob (vLenSl v33x40) fun v34x41 =>
    ob (vInt .lss (σ38 12) v34x41) fun v35x42 =>
    cnd v35x42
      (ob (vInt .mul (.int .i64 1664525) (σ38 3)) fun v39x43 =>
    ob (vInt .add v39x43 (.int .i64 1013904223)) fun v40x44 =>
    ob (vInt .rem v40x44 (.int .i64 4294967296)) fun v41x45 =>
    ob (vInt .quo v41x45 (.int .i64 256)) fun v43x46 =>
    ob (vCF .f32 v43x46) fun v44x47 =>
    fA .quo v44x47 (.float .f32 1266679808) H38 fun v45x48 H49 =>
    ob (vFcmp .lss v45x48 (σ38 2)) fun v47x50 =>
    cnd v47x50
      (ob (vFa 2 (σ38 11)) fun v48x51 =>
      ob (vLoad v48x51 H49) fun v49x52 =>
      ob (vIx 1 v49x52 (σ38 12)) fun v51x53 =>
      st 1 v51x53 (.int .i64 1) H49 fun H54 =>
      ob (vInt .add (σ38 12) (.int .i64 1)) fun v37x55 =>
    Q38 .normal (up (up (up (up (up (up (up (up (up (up (up (up (up (up (up (up (up (up (up (up (up (up (up σ38 31 (σ38 12)) 32 v32x39) 33 v33x40) 34 v34x41) 35 v35x42) 38 (σ38 3)) 39 v39x43) 40 v40x44) 41 v41x45) 3 v41x45) 42 v41x45) 43 v43x46) 44 v44x47) 45 v45x48) 46 (σ38 2)) 47 v47x50) 48 v48x51) 49 v49x52) 50 (σ38 12)) 51 v51x53) 36 (σ38 12)) 37 v37x55) 12 v37x55) H54)
      (ob (vInt .add (σ38 12) (.int .i64 1)) fun v37x56 =>
    Q38 .normal (up (up (up (up (up (up (up (up (up (up (up (up (up (up (up (up (up (up (up σ38 31 (σ38 12)) 32 v32x39) 33 v33x40) 34 v34x41) 35 v35x42) 38 (σ38 3)) 39 v39x43) 40 v40x44) 41 v41x45) 3 v41x45) 42 v41x45) 43 v43x46) 44 v44x47) 45 v45x48) 46 (σ38 2)) 47 v47x50) 36 (σ38 12)) 37 v37x56) 12 v37x56) H49))
      (Q38 (.exit 0) (up (up (up (up (up σ38 31 (σ38 12)) 32 v32x39) 33 v33x40) 34 v34x41) 35 v35x42) H38)) (blkQ 0 (thenQ J34 (retQ prg [(.cell 8 36), (.tmp 9), (.tmp 10)] K))) (up (up (up (up (up (up (up (up (up (up (up (up (up (up (up (up (up (up (up (up (up (up (S0 [a0, a1, a2, a3]) 8 v8x1) 9 (.int .i64 0)) 10 (.bool false)) 13 a0) 14 a1) 15 v15x3) 16 v16x5) 17 v16x5) 18 v18x7) 19 v19x10) 20 v20x13) 21 v21x15) 22 v21x15) 23 v23x17) 24 v24x20) 25 v25x23) 26 v26x25) 28 a0) 29 a1) 30 v30x29) 11 v11x31) 12 (.int .i64 0)) H33)
def O.spec_DrawField : Nat → Nat × List Nat := fun i => (0, [])
theorem R.spec_DrawField {a0 a1 a2 a3 : Value} {H : Hp} {K : Value → Hp → Prop} (h : F.spec_DrawField a0 a1 a2 a3 H K) : HT prg I.spec_DrawField [a0, a1, a2, a3].toArray H K :=
  HT_of_fev O.spec_DrawField mixed Tryz.func11 (by kernel_rfl) (Eq.mpr (by kernel_rfl : fev prg O.spec_DrawField Tryz.f11 [a0, a1, a2, a3] H K = F.spec_DrawField a0 a1 a2 a3 H K) h)

/-! loop.example/g01381/spec.l04Own: function 46 -/
def F.spec_l04Own (a0 : Value) (H : Hp) (K : Value → Hp → Prop) : Prop :=
  nw #[(.int .i64 0), (.int .i64 0), (.slice none 0 0)] 36 H fun v2x1 H2 =>
  ob (vNilC a0) fun v4x3 =>
  ob (vFa 0 v4x3) fun v5x4 =>
  ob (vLoad v5x4 H2) fun v6x5 =>
  ob (vNilC a0) fun v8x6 =>
  ob (vFa 1 v8x6) fun v9x7 =>
  ob (vLoad v9x7 H2) fun v10x8 =>
  ob (vNilC a0) fun v13x9 =>
  ob (vFa 2 v13x9) fun v14x10 =>
  ob (vLoad v14x10 H2) fun v15x11 =>
  bS 1 0 #[(.int .i64 0)] 2 [] H2 fun v11x12 H13 =>
  apd 1 8 #[(.int .i64 0)] 2 v11x12 v15x11 H13 fun v16x14 H15 =>
  Le H13 H15 ∧ (ob (vBuild [(0, 1), (1, 1), (2, 1)] (.agg #[(.int .i64 0), (.int .i64 0), (.slice none 0 0)]) [(0, v6x5), (1, v10x8), (2, v16x14)]) fun v17x16 =>
  st 3 v2x1 v17x16 H15 fun H17 =>
  ob (vLoadN 3 v2x1 H17) fun u18 => K u18 H17)
def O.spec_l04Own : Nat → Nat × List Nat := fun i => bif Nat.beq i 1 then (1, [0, 1, 2, 3, 4, 5, 6, 7, 9, 10, 11, 12, 8, 13, 14, 15]) else (0, [])
theorem R.spec_l04Own {a0 : Value} {H : Hp} {K : Value → Hp → Prop} (h : F.spec_l04Own a0 H K) : HT prg I.spec_l04Own [a0].toArray H K :=
  HT_of_fev O.spec_l04Own mixed Tryz.func46 (by kernel_rfl) (Eq.mpr (by kernel_rfl : fev prg O.spec_l04Own Tryz.f46 [a0] H K = F.spec_l04Own a0 H K) h)

/-! loop.example/g01381/spec.l04Round: function 117 -/
def F.spec_l04Round (a0 a1 a2 : Value) (H : Hp) (K : Value → Hp → Prop) : Prop :=
  ob (vNilC a0) fun v11x1 =>
  ob (vFa 0 v11x1) fun v12x2 =>
  ob (vLoad v12x2 H) fun v13x3 =>
  ob (vInt .rem a1 v13x3) fun v14x4 =>
  ob (vNilC a0) fun v16x5 =>
  ob (vFa 0 v16x5) fun v17x6 =>
  ob (vLoad v17x6 H) fun v18x7 =>
  ob (vInt .add v14x4 v18x7) fun v19x8 =>
  ob (vNilC a0) fun v21x9 =>
  ob (vFa 0 v21x9) fun v22x10 =>
  ob (vLoad v22x10 H) fun v23x11 =>
  ob (vInt .rem v19x8 v23x11) fun v24x12 =>
  ob (vNilC a0) fun v27x13 =>
  ob (vFa 1 v27x13) fun v28x14 =>
  ob (vLoad v28x14 H) fun v29x15 =>
  ob (vInt .rem a2 v29x15) fun v30x16 =>
  ob (vNilC a0) fun v32x17 =>
  ob (vFa 1 v32x17) fun v33x18 =>
  ob (vLoad v33x18 H) fun v34x19 =>
  ob (vInt .add v30x16 v34x19) fun v35x20 =>
  ob (vNilC a0) fun v37x21 =>
  ob (vFa 1 v37x21) fun v38x22 =>
  ob (vLoad v38x22 H) fun v39x23 =>
  ob (vInt .rem v35x20 v39x23) fun v40x24 =>
  ob (vNilC a0) fun v43x25 =>
  ob (vFa 1 v43x25) fun v44x26 =>
  ob (vLoad v44x26 H) fun v45x27 =>
  ob (vInt .mul v24x12 v45x27) fun v46x28 =>
  ob (vInt .add v46x28 v40x24) fun v48x29 =>
  K v48x29 H
def O.spec_l04Round : Nat → Nat × List Nat := fun i => bif Nat.beq i 1 then (0, [0, 1, 2, 3, 4, 5, 6, 7, 8, 9, 10, 11, 12, 13, 14, 15, 16]) else bif Nat.beq i 2 then (0, [0, 1, 2, 3, 4, 5, 6, 7, 8, 9, 10, 11, 12, 13, 14, 15, 16]) else (0, [])
theorem R.spec_l04Round {a0 a1 a2 : Value} {H : Hp} {K : Value → Hp → Prop} (h : F.spec_l04Round a0 a1 a2 H K) : HT prg I.spec_l04Round [a0, a1, a2].toArray H K :=
  HT_of_fev O.spec_l04Round mixed Tryz.func117 (by kernel_rfl) (Eq.mpr (by kernel_rfl : fev prg O.spec_l04Round Tryz.f117 [a0, a1, a2] H K = F.spec_l04Round a0 a1 a2 H K) h)

/-! loop.example/g01381/spec.l04Around: function 82 -/
def F.spec_l04Around (a0 a1 a2 a3 : Value) (H : Hp) (K : Value → Hp → Prop) : Prop :=
  jn (fun σ1 H1 =>
    K (σ1 9) H1) fun J1 =>
  ob (vInt .sub a1 (.int .i64 1)) fun v13x2 =>
  lpE (fun Q3 σ3 H3 =>
    ob (vInt .add (σ3 1) (.int .i64 1)) fun v16x4 =>
    ob (vInt .leq (σ3 10) v16x4) fun v17x5 =>
    cnd v17x5
      (jn (fun σ6 H6 =>
      ob (vInt .add (σ6 10) (.int .i64 1)) fun v19x7 =>
      Q3 .normal (up (up (up σ6 18 (σ6 10)) 19 v19x7) 10 v19x7) H6) fun J6 =>
    ob (vInt .sub (σ3 2) (.int .i64 1)) fun v21x8 =>
    lpE (fun Q9 σ9 H9 =>
      ob (vInt .add (σ9 2) (.int .i64 1)) fun v24x10 =>
      ob (vInt .leq (σ9 11) v24x10) fun v25x11 =>
      cnd v25x11
        (ob (vInt .eql (σ9 10) (σ9 1)) fun v30x12 =>
      gop v30x12 true (fun K13 => K13 (σ9 11) H9) H9 fun v32x14 H15 =>
      gop v30x12 true (fun K16 => K16 (σ9 2) H15) H15 fun v33x17 H18 =>
      gop v30x12 true (fun K19 => ob (vInt .eql v32x14 v33x17) fun u => K19 u H18) H18 fun v34x20 H21 =>
      ob (vPick v30x12 v34x20 (.bool false)) fun v35x22 =>
      cnd v35x22
        (ob (vInt .add (σ9 11) (.int .i64 1)) fun v27x23 =>
      Q9 .normal (up (up (up (up (up (up (up (up (up (up (up (up (up (up (up σ9 22 (σ9 11)) 23 (σ9 2)) 24 v24x10) 25 v25x11) 28 (σ9 10)) 29 (σ9 1)) 30 v30x12) 31 v30x12) 32 v32x14) 33 v33x17) 34 v34x20) 35 v35x22) 26 (σ9 11)) 27 v27x23) 11 v27x23) H21)
        (gop (σ9 3) false (fun K24 => K24 (σ9 10) H21) H21 fun v38x25 H26 =>
      gop (σ9 3) false (fun K27 => K27 (σ9 0) H26) H26 fun v39x28 H29 =>
      gop (σ9 3) false (fun K30 => ob (vNilC v39x28) fun u => K30 u H29) H29 fun v40x31 H32 =>
      gop (σ9 3) false (fun K33 => ob (vFa 0 v40x31) fun u => K33 u H32) H32 fun v41x34 H35 =>
      gop (σ9 3) false (fun K36 => ob (vLoad v41x34 H35) fun u => K36 u H35) H35 fun v42x37 H38 =>
      gop (σ9 3) false (fun K39 => ob (vInt .sub v42x37 (.int .i64 1)) fun u => K39 u H38) H38 fun v43x40 H41 =>
      gop (σ9 3) false (fun K42 => HT prg I.spec_l00In [v38x25, (.int .i64 0), v43x40].toArray H41 K42) H41 fun v44x43 H44 =>
      gop (σ9 3) false (fun K45 => K45 v44x43 H44) H44 fun v45x46 H47 =>
      gop v45x46 true (fun K48 => K48 (σ9 11) H47) H47 fun v46x49 H50 =>
      gop v45x46 true (fun K51 => K51 (σ9 0) H50) H50 fun v47x52 H53 =>
      gop v45x46 true (fun K54 => ob (vNilC v47x52) fun u => K54 u H53) H53 fun v48x55 H56 =>
      gop v45x46 true (fun K57 => ob (vFa 1 v48x55) fun u => K57 u H56) H56 fun v49x58 H59 =>
      gop v45x46 true (fun K60 => ob (vLoad v49x58 H59) fun u => K60 u H59) H59 fun v50x61 H62 =>
      gop v45x46 true (fun K63 => ob (vInt .sub v50x61 (.int .i64 1)) fun u => K63 u H62) H62 fun v51x64 H65 =>
      gop v45x46 true (fun K66 => HT prg I.spec_l00In [v46x49, (.int .i64 0), v51x64].toArray H65 K66) H65 fun v52x67 H68 =>
      gop (σ9 3) false (fun K69 => ob (vPick v45x46 v52x67 (.bool false)) fun u => K69 u H68) H68 fun v53x70 H71 =>
      ob (vPick (σ9 3) (.bool true) v53x70) fun v54x72 =>
      cnd v54x72
        (ob (vNilC (σ9 0)) fun v57x73 =>
        ob (vFa 2 v57x73) fun v58x74 =>
        ob (vLoad v58x74 H71) fun v59x75 =>
        HT prg I.spec_l04Round [(σ9 0), (σ9 10), (σ9 11)].toArray H71 fun v63x76 H77 =>
        Le H71 H77 ∧ (ob (vIx 1 v59x75 v63x76) fun v64x78 =>
        ob (vLoad v64x78 H77) fun v65x79 =>
        ob (vInt .add (σ9 9) v65x79) fun v66x80 =>
        ob (vInt .add (σ9 11) (.int .i64 1)) fun v27x81 =>
      Q9 .normal (up (up (up (up (up (up (up (up (up (up (up (up (up (up (up (up (up (up (up (up (up (up (up (up (up (up (up (up (up (up (up (up (up (up (up (up (up (up (up (up (up (up (up (up (up (up (up σ9 22 (σ9 11)) 23 (σ9 2)) 24 v24x10) 25 v25x11) 28 (σ9 10)) 29 (σ9 1)) 30 v30x12) 31 v30x12) 32 v32x14) 33 v33x17) 34 v34x20) 35 v35x22) 36 (σ9 3)) 37 (σ9 3)) 38 v38x25) 39 v39x28) 40 v40x31) 41 v41x34) 42 v42x37) 43 v43x40) 44 v44x43) 45 v45x46) 46 v46x49) 47 v47x52) 48 v48x55) 49 v49x58) 50 v50x61) 51 v51x64) 52 v52x67) 53 v53x70) 54 v54x72) 55 (σ9 9)) 56 (σ9 0)) 57 v57x73) 58 v58x74) 59 v59x75) 60 (σ9 0)) 61 (σ9 10)) 62 (σ9 11)) 63 v63x76) 64 v64x78) 65 v65x79) 66 v66x80) 9 v66x80) 26 (σ9 11)) 27 v27x81) 11 v27x81) H77))
        (ob (vInt .add (σ9 11) (.int .i64 1)) fun v27x82 =>
      Q9 .normal (up (up (up (up (up (up (up (up (up (up (up (up (up (up (up (up (up (up (up (up (up (up (up (up (up (up (up (up (up (up (up (up (up (up σ9 22 (σ9 11)) 23 (σ9 2)) 24 v24x10) 25 v25x11) 28 (σ9 10)) 29 (σ9 1)) 30 v30x12) 31 v30x12) 32 v32x14) 33 v33x17) 34 v34x20) 35 v35x22) 36 (σ9 3)) 37 (σ9 3)) 38 v38x25) 39 v39x28) 40 v40x31) 41 v41x34) 42 v42x37) 43 v43x40) 44 v44x43) 45 v45x46) 46 v46x49) 47 v47x52) 48 v48x55) 49 v49x58) 50 v50x61) 51 v51x64) 52 v52x67) 53 v53x70) 54 v54x72) 26 (σ9 11)) 27 v27x82) 11 v27x82) H71)))
        (Q9 (.exit 2) (up (up (up (up σ9 22 (σ9 11)) 23 (σ9 2)) 24 v24x10) 25 v25x11) H9)) (blkQ 2 (blkQ 1 (thenQ J6 Q3))) (up (up (up (up (up (up (up σ3 14 (σ3 10)) 15 (σ3 1)) 16 v16x4) 17 v17x5) 20 (σ3 2)) 21 v21x8) 11 v21x8) H3)
      (Q3 (.exit 0) (up (up (up (up σ3 14 (σ3 10)) 15 (σ3 1)) 16 v16x4) 17 v17x5) H3)) (blkQ 0 (thenQ J1 (retQ prg [(.tmp 8)] K))) (up (up (up (up (up (S0 [a0, a1, a2, a3]) 8 (.int .i64 0)) 9 (.int .i64 0)) 12 a1) 13 v13x2) 10 v13x2) H
def O.spec_l04Around : Nat → Nat × List Nat := fun i => bif Nat.beq i 10 then (0, [0, 1, 2, 3, 4, 5, 6, 7, 8, 9, 10, 11, 12]) else (0, [])
theorem R.spec_l04Around {a0 a1 a2 a3 : Value} {H : Hp} {K : Value → Hp → Prop} (h : F.spec_l04Around a0 a1 a2 a3 H K) : HT prg I.spec_l04Around [a0, a1, a2, a3].toArray H K :=
  HT_of_fev O.spec_l04Around mixed Tryz.func82 (by kernel_rfl) (Eq.mpr (by kernel_rfl : fev prg O.spec_l04Around Tryz.f82 [a0, a1, a2, a3] H K = F.spec_l04Around a0 a1 a2 a3 H K) h)

/-! loop.example/g01381/spec.l04Has: function 83 -/
def F.spec_l04Has (a0 a1 : Value) (H : Hp) (K : Value → Hp → Prop) : Prop :=
  jn (fun σ1 H1 =>
    K (.bool false) H1) fun J1 =>
  lpE (fun Q2 σ2 H2 =>
    ob (vLenSl (σ2 0)) fun v8x3 =>
    ob (vInt .lss (σ2 5) v8x3) fun v9x4 =>
    cnd v9x4
      (ob (vIx 1 (σ2 0) (σ2 5)) fun v14x5 =>
    ob (vLoad v14x5 H2) fun v15x6 =>
    ob (vInt .eql v15x6 (σ2 1)) fun v17x7 =>
    cnd v17x7
      (Q2 .ret (up (up (up (up (up (up (up (up (up (up (up σ2 6 (σ2 5)) 7 (σ2 0)) 8 v8x3) 9 v9x4) 12 (σ2 0)) 13 (σ2 5)) 14 v14x5) 15 v15x6) 16 (σ2 1)) 17 v17x7) 4 (.bool true)) H2)
      (ob (vInt .add (σ2 5) (.int .i64 1)) fun v11x8 =>
    Q2 .normal (up (up (up (up (up (up (up (up (up (up (up (up (up σ2 6 (σ2 5)) 7 (σ2 0)) 8 v8x3) 9 v9x4) 12 (σ2 0)) 13 (σ2 5)) 14 v14x5) 15 v15x6) 16 (σ2 1)) 17 v17x7) 10 (σ2 5)) 11 v11x8) 5 v11x8) H2))
      (Q2 (.exit 0) (up (up (up (up σ2 6 (σ2 5)) 7 (σ2 0)) 8 v8x3) 9 v9x4) H2)) (blkQ 0 (thenQ J1 (retQ prg [(.tmp 4)] K))) (up (up (S0 [a0, a1]) 4 (.bool false)) 5 (.int .i64 0)) H
def O.spec_l04Has : Nat → Nat × List Nat := fun i => (0, [])
theorem R.spec_l04Has {a0 a1 : Value} {H : Hp} {K : Value → Hp → Prop} (h : F.spec_l04Has a0 a1 H K) : HT prg I.spec_l04Has [a0, a1].toArray H K :=
  HT_of_fev O.spec_l04Has mixed Tryz.func83 (by kernel_rfl) (Eq.mpr (by kernel_rfl : fev prg O.spec_l04Has Tryz.f83 [a0, a1] H K = F.spec_l04Has a0 a1 H K) h)

/-! loop.example/g01381/spec.l04Next: function 47 -/
def F.spec_l04Next (a0 a1 a2 : Value) (H : Hp) (K : Value → Hp → Prop) : Prop :=
  nw #[(.int .i64 0), (.int .i64 0), (.slice none 0 0)] 36 H fun v6x1 H2 =>
  ob (vNilC a1) fun v13x3 =>
  ob (vFa 0 v13x3) fun v14x4 =>
  ob (vLoad v14x4 H2) fun v15x5 =>
  ob (vNilC a1) fun v17x6 =>
  ob (vFa 1 v17x6) fun v18x7 =>
  ob (vLoad v18x7 H2) fun v19x8 =>
  HT prg I.spec_l04New [v15x5, v19x8].toArray H2 fun v20x9 H10 =>
  Le H2 H10 ∧ (nw #[(.int .i64 0), (.int .i64 0), (.slice none 0 0)] 36 H10 fun v7x11 H12 =>
  st 3 v7x11 v20x9 H12 fun H13 =>
  jn (fun σ14 H14 =>
    ob (vLoadN 3 (σ14 7) H14) fun v88x15 =>
    st 3 (σ14 6) v88x15 H14 fun H16 =>
    ob (vLoadN 3 (σ14 6) H16) fun u17 => K u17 H16) fun J14 =>
  lpE (fun Q18 σ18 H18 =>
    ob (vNilC (σ18 1)) fun v23x19 =>
    ob (vFa 0 v23x19) fun v24x20 =>
    ob (vLoad v24x20 H18) fun v25x21 =>
    ob (vInt .lss (σ18 8) v25x21) fun v26x22 =>
    cnd v26x22
      (jn (fun σ23 H23 =>
      ob (vInt .add (σ23 8) (.int .i64 1)) fun v28x24 =>
      Q18 .normal (up (up (up σ23 27 (σ23 8)) 28 v28x24) 8 v28x24) H23) fun J23 =>
    lpE (fun Q25 σ25 H25 =>
      ob (vNilC (σ25 1)) fun v31x26 =>
      ob (vFa 1 v31x26) fun v32x27 =>
      ob (vLoad v32x27 H25) fun v33x28 =>
      ob (vInt .lss (σ25 9) v33x28) fun v34x29 =>
      cnd v34x29
        (HT prg I.spec_l04Around [(σ25 1), (σ25 8), (σ25 9), (σ25 2)].toArray H25 fun v41x30 H31 =>
      ob (vNilC (σ25 1)) fun v44x32 =>
      ob (vFa 1 v44x32) fun v45x33 =>
      ob (vLoad v45x33 H31) fun v46x34 =>
      ob (vInt .mul (σ25 8) v46x34) fun v47x35 =>
      ob (vInt .add v47x35 (σ25 9)) fun v49x36 =>
      ob (vNilC (σ25 1)) fun v51x37 =>
      ob (vFa 2 v51x37) fun v52x38 =>
      ob (vLoad v52x38 H31) fun v53x39 =>
      ob (vIx 1 v53x39 v49x36) fun v55x40 =>
      ob (vLoad v55x40 H31) fun v56x41 =>
      ob (vInt .eql v56x41 (.int .i64 0)) fun v57x42 =>
      gop v57x42 true (fun K43 => K43 (σ25 0) H31) H31 fun v59x44 H45 =>
      gop v57x42 true (fun K46 => ob (vNilC v59x44) fun u => K46 u H45) H45 fun v60x47 H48 =>
      gop v57x42 true (fun K49 => ob (vFa 0 v60x47) fun u => K49 u H48) H48 fun v61x50 H51 =>
      gop v57x42 true (fun K52 => ob (vLoad v61x50 H51) fun u => K52 u H51) H51 fun v62x53 H54 =>
      gop v57x42 true (fun K55 => K55 v41x30 H54) H54 fun v63x56 H57 =>
      gop v57x42 true (fun K58 => HT prg I.spec_l04Has [v62x53, v63x56].toArray H57 K58) H57 fun v64x59 H60 =>
      ob (vPick v57x42 v64x59 (.bool false)) fun v65x61 =>
      gop v65x61 false (fun K62 => K62 (σ25 1) H60) H60 fun v67x63 H64 =>
      gop v65x61 false (fun K65 => ob (vNilC v67x63) fun u => K65 u H64) H64 fun v68x66 H67 =>
      gop v65x61 false (fun K68 => ob (vFa 2 v68x66) fun u => K68 u H67) H67 fun v69x69 H70 =>
      gop v65x61 false (fun K71 => ob (vLoad v69x69 H70) fun u => K71 u H70) H70 fun v70x72 H73 =>
      gop v65x61 false (fun K74 => K74 v49x36 H73) H73 fun v71x75 H76 =>
      gop v65x61 false (fun K77 => ob (vIx 1 v70x72 v71x75) fun u => K77 u H76) H76 fun v72x78 H79 =>
      gop v65x61 false (fun K80 => ob (vLoad v72x78 H79) fun u => K80 u H79) H79 fun v73x81 H82 =>
      gop v65x61 false (fun K83 => ob (vInt .eql v73x81 (.int .i64 1)) fun u => K83 u H82) H82 fun v74x84 H85 =>
      gop v65x61 false (fun K86 => K86 v74x84 H85) H85 fun v75x87 H88 =>
      gop v75x87 true (fun K89 => K89 (σ25 0) H88) H88 fun v76x90 H91 =>
      gop v75x87 true (fun K92 => ob (vNilC v76x90) fun u => K92 u H91) H91 fun v77x93 H94 =>
      gop v75x87 true (fun K95 => ob (vFa 1 v77x93) fun u => K95 u H94) H94 fun v78x96 H97 =>
      gop v75x87 true (fun K98 => ob (vLoad v78x96 H97) fun u => K98 u H97) H97 fun v79x99 H100 =>
      gop v75x87 true (fun K101 => K101 v41x30 H100) H100 fun v80x102 H103 =>
      gop v75x87 true (fun K104 => HT prg I.spec_l04Has [v79x99, v80x102].toArray H103 K104) H103 fun v81x105 H106 =>
      gop v65x61 false (fun K107 => ob (vPick v75x87 v81x105 (.bool false)) fun u => K107 u H106) H106 fun v82x108 H109 =>
      ob (vPick v65x61 (.bool true) v82x108) fun v83x110 =>
      cnd v83x110
        (ob (vFa 2 (σ25 7)) fun v84x111 =>
        ob (vLoad v84x111 H109) fun v85x112 =>
        ob (vIx 1 v85x112 v49x36) fun v87x113 =>
        st 1 v87x113 (.int .i64 1) H109 fun H114 =>
        ob (vInt .add (σ25 9) (.int .i64 1)) fun v36x115 =>
      Q25 .normal (up (up (up (up (up (up (up (up (up (up (up (up (up (up (up (up (up (up (up (up (up (up (up (up (up (up (up (up (up (up (up (up (up (up (up (up (up (up (up (up (up (up (up (up (up (up (up (up (up (up (up (up (up (up (up (up (up (up (up (up (up (up σ25 29 (σ25 9)) 30 (σ25 1)) 31 v31x26) 32 v32x27) 33 v33x28) 34 v34x29) 37 (σ25 1)) 38 (σ25 8)) 39 (σ25 9)) 40 (σ25 2)) 41 v41x30) 10 v41x30) 42 (σ25 8)) 43 (σ25 1)) 44 v44x32) 45 v45x33) 46 v46x34) 47 v47x35) 48 (σ25 9)) 49 v49x36) 11 v49x36) 50 (σ25 1)) 51 v51x37) 52 v52x38) 53 v53x39) 54 v49x36) 55 v55x40) 56 v56x41) 57 v57x42) 58 v57x42) 59 v59x44) 60 v60x47) 61 v61x50) 62 v62x53) 63 v63x56) 64 v64x59) 65 v65x61) 66 v65x61) 67 v67x63) 68 v68x66) 69 v69x69) 70 v70x72) 71 v71x75) 72 v72x78) 73 v73x81) 74 v74x84) 75 v75x87) 76 v76x90) 77 v77x93) 78 v78x96) 79 v79x99) 80 v80x102) 81 v81x105) 82 v82x108) 83 v83x110) 84 v84x111) 85 v85x112) 86 v49x36) 87 v87x113) 35 (σ25 9)) 36 v36x115) 9 v36x115) H114)
        (ob (vInt .add (σ25 9) (.int .i64 1)) fun v36x116 =>
      Q25 .normal (up (up (up (up (up (up (up (up (up (up (up (up (up (up (up (up (up (up (up (up (up (up (up (up (up (up (up (up (up (up (up (up (up (up (up (up (up (up (up (up (up (up (up (up (up (up (up (up (up (up (up (up (up (up (up (up (up (up σ25 29 (σ25 9)) 30 (σ25 1)) 31 v31x26) 32 v32x27) 33 v33x28) 34 v34x29) 37 (σ25 1)) 38 (σ25 8)) 39 (σ25 9)) 40 (σ25 2)) 41 v41x30) 10 v41x30) 42 (σ25 8)) 43 (σ25 1)) 44 v44x32) 45 v45x33) 46 v46x34) 47 v47x35) 48 (σ25 9)) 49 v49x36) 11 v49x36) 50 (σ25 1)) 51 v51x37) 52 v52x38) 53 v53x39) 54 v49x36) 55 v55x40) 56 v56x41) 57 v57x42) 58 v57x42) 59 v59x44) 60 v60x47) 61 v61x50) 62 v62x53) 63 v63x56) 64 v64x59) 65 v65x61) 66 v65x61) 67 v67x63) 68 v68x66) 69 v69x69) 70 v70x72) 71 v71x75) 72 v72x78) 73 v73x81) 74 v74x84) 75 v75x87) 76 v76x90) 77 v77x93) 78 v78x96) 79 v79x99) 80 v80x102) 81 v81x105) 82 v82x108) 83 v83x110) 35 (σ25 9)) 36 v36x116) 9 v36x116) H109))
        (Q25 (.exit 2) (up (up (up (up (up (up σ25 29 (σ25 9)) 30 (σ25 1)) 31 v31x26) 32 v32x27) 33 v33x28) 34 v34x29) H25)) (blkQ 2 (blkQ 1 (thenQ J23 Q18))) (up (up (up (up (up (up (up σ18 21 (σ18 8)) 22 (σ18 1)) 23 v23x19) 24 v24x20) 25 v25x21) 26 v26x22) 9 (.int .i64 0)) H18)
      (Q18 (.exit 0) (up (up (up (up (up (up σ18 21 (σ18 8)) 22 (σ18 1)) 23 v23x19) 24 v24x20) 25 v25x21) 26 v26x22) H18)) (blkQ 0 (thenQ J14 (retQ prg [(.cell 6 36)] K))) (up (up (up (up (up (up (up (up (up (up (up (up (S0 [a0, a1, a2]) 6 v6x1) 12 a1) 13 v13x3) 14 v14x4) 15 v15x5) 16 a1) 17 v17x6) 18 v18x7) 19 v19x8) 20 v20x9) 7 v7x11) 8 (.int .i64 0)) H13)
def O.spec_l04Next : Nat → Nat × List Nat := fun i => bif Nat.beq i 1 then (0, [0, 1, 2, 3, 4, 5, 6, 7, 8, 9, 10]) else (0, [])
theorem R.spec_l04Next {a0 a1 a2 : Value} {H : Hp} {K : Value → Hp → Prop} (h : F.spec_l04Next a0 a1 a2 H K) : HT prg I.spec_l04Next [a0, a1, a2].toArray H K :=
  HT_of_fev O.spec_l04Next mixed Tryz.func47 (by kernel_rfl) (Eq.mpr (by kernel_rfl : fev prg O.spec_l04Next Tryz.f47 [a0, a1, a2] H K = F.spec_l04Next a0 a1 a2 H K) h)

/-! loop.example/g01381/spec.l04Run: function 41 -/
def F.spec_l04Run (a0 a1 a2 a3 : Value) (H : Hp) (K : Value → Hp → Prop) : Prop :=
  nw #[(.int .i64 0), (.int .i64 0), (.slice none 0 0)] 36 H fun v8x1 H2 =>
  HT prg I.spec_l04Own [a1].toArray H2 fun v11x3 H4 =>
  nw #[(.int .i64 0), (.int .i64 0), (.slice none 0 0)] 36 H4 fun v9x5 H6 =>
  st 3 v9x5 v11x3 H6 fun H7 =>
  jn (fun σ8 H8 =>
    ob (vLoadN 3 (σ8 9) H8) fun v19x9 =>
    st 3 (σ8 8) v19x9 H8 fun H10 =>
    ob (vLoadN 3 (σ8 8) H10) fun u11 => K u11 H10) fun J8 =>
  lpE (fun Q12 σ12 H12 =>
    ob (vInt .gtr (σ12 3) (.int .i64 0)) fun v13x13 =>
    cnd v13x13
      (HT prg I.spec_l04Next [(σ12 0), (σ12 9), (σ12 2)].toArray H12 fun v18x14 H15 =>
    st 3 (σ12 9) v18x14 H15 fun H16 =>
    ob (vInt .sub (σ12 3) (.int .i64 1)) fun v15x17 =>
    Q12 .normal (up (up (up (up (up (up (up (up σ12 12 (σ12 3)) 13 v13x13) 16 (σ12 0)) 17 (σ12 2)) 18 v18x14) 14 (σ12 3)) 15 v15x17) 3 v15x17) H16)
      (Q12 (.exit 0) (up (up σ12 12 (σ12 3)) 13 v13x13) H12)) (blkQ 0 (thenQ J8 (retQ prg [(.cell 8 36)] K))) (up (up (up (up (S0 [a0, a1, a2, a3]) 8 v8x1) 10 a1) 11 v11x3) 9 v9x5) H7
def O.spec_l04Run : Nat → Nat × List Nat := fun i => (0, [])
theorem R.spec_l04Run {a0 a1 a2 a3 : Value} {H : Hp} {K : Value → Hp → Prop} (h : F.spec_l04Run a0 a1 a2 a3 H K) : HT prg I.spec_l04Run [a0, a1, a2, a3].toArray H K :=
  HT_of_fev O.spec_l04Run mixed Tryz.func41 (by kernel_rfl) (Eq.mpr (by kernel_rfl : fev prg O.spec_l04Run Tryz.f41 [a0, a1, a2, a3] H K = F.spec_l04Run a0 a1 a2 a3 H K) h)

/-! loop.example/g01381/spec.l04Counts: function 109 -/
def F.spec_l04Counts (a0 : Value) (H : Hp) (K : Value → Hp → Prop) : Prop :=
  jn (fun σ1 H1 =>
    K (.bool true) H1) fun J1 =>
  lpE (fun Q2 σ2 H2 =>
    ob (vLenSl (σ2 0)) fun v6x3 =>
    ob (vInt .lss (σ2 3) v6x3) fun v7x4 =>
    cnd v7x4
      (ob (vIx 1 (σ2 0) (σ2 3)) fun v12x5 =>
    ob (vLoad v12x5 H2) fun v13x6 =>
    HT prg I.spec_l00In [v13x6, (.int .i64 0), (.int .i64 8)].toArray H2 fun v14x7 H8 =>
    Le H2 H8 ∧ (ob (vUn .not v14x7) fun v15x9 =>
    gop v15x9 false (fun K10 => K10 (σ2 3) H8) H8 fun v17x11 H12 =>
    gop v15x9 false (fun K13 => ob (vInt .gtr v17x11 (.int .i64 0)) fun u => K13 u H12) H12 fun v18x14 H15 =>
    gop v15x9 false (fun K16 => K16 v18x14 H15) H15 fun v19x17 H18 =>
    gop v19x17 true (fun K19 => K19 (σ2 0) H18) H18 fun v20x20 H21 =>
    gop v19x17 true (fun K22 => K22 (σ2 3) H21) H21 fun v21x23 H24 =>
    gop v19x17 true (fun K25 => ob (vIx 1 v20x20 v21x23) fun u => K25 u H24) H24 fun v22x26 H27 =>
    gop v19x17 true (fun K28 => ob (vLoad v22x26 H27) fun u => K28 u H27) H27 fun v23x29 H30 =>
    gop v19x17 true (fun K31 => K31 (σ2 0) H30) H30 fun v24x32 H33 =>
    gop v19x17 true (fun K34 => K34 (σ2 3) H33) H33 fun v25x35 H36 =>
    gop v19x17 true (fun K37 => ob (vInt .sub v25x35 (.int .i64 1)) fun u => K37 u H36) H36 fun v26x38 H39 =>
    gop v19x17 true (fun K40 => ob (vIx 1 v24x32 v26x38) fun u => K40 u H39) H39 fun v27x41 H42 =>
    gop v19x17 true (fun K43 => ob (vLoad v27x41 H42) fun u => K43 u H42) H42 fun v28x44 H45 =>
    gop v19x17 true (fun K46 => ob (vInt .leq v23x29 v28x44) fun u => K46 u H45) H45 fun v29x47 H48 =>
    gop v15x9 false (fun K49 => ob (vPick v19x17 v29x47 (.bool false)) fun u => K49 u H48) H48 fun v30x50 H51 =>
    ob (vPick v15x9 (.bool true) v30x50) fun v31x52 =>
    cnd v31x52
      (Q2 .ret (up (up (up (up (up (up (up (up (up (up (up (up (up (up (up (up (up (up (up (up (up (up (up (up (up (up (up σ2 4 (σ2 3)) 5 (σ2 0)) 6 v6x3) 7 v7x4) 10 (σ2 0)) 11 (σ2 3)) 12 v12x5) 13 v13x6) 14 v14x7) 15 v15x9) 16 v15x9) 17 v17x11) 18 v18x14) 19 v19x17) 20 v20x20) 21 v21x23) 22 v22x26) 23 v23x29) 24 v24x32) 25 v25x35) 26 v26x38) 27 v27x41) 28 v28x44) 29 v29x47) 30 v30x50) 31 v31x52) 2 (.bool false)) H51)
      (ob (vInt .add (σ2 3) (.int .i64 1)) fun v9x53 =>
    Q2 .normal (up (up (up (up (up (up (up (up (up (up (up (up (up (up (up (up (up (up (up (up (up (up (up (up (up (up (up (up (up σ2 4 (σ2 3)) 5 (σ2 0)) 6 v6x3) 7 v7x4) 10 (σ2 0)) 11 (σ2 3)) 12 v12x5) 13 v13x6) 14 v14x7) 15 v15x9) 16 v15x9) 17 v17x11) 18 v18x14) 19 v19x17) 20 v20x20) 21 v21x23) 22 v22x26) 23 v23x29) 24 v24x32) 25 v25x35) 26 v26x38) 27 v27x41) 28 v28x44) 29 v29x47) 30 v30x50) 31 v31x52) 8 (σ2 3)) 9 v9x53) 3 v9x53) H51)))
      (Q2 (.exit 0) (up (up (up (up σ2 4 (σ2 3)) 5 (σ2 0)) 6 v6x3) 7 v7x4) H2)) (blkQ 0 (thenQ J1 (retQ prg [(.tmp 2)] K))) (up (up (S0 [a0]) 2 (.bool false)) 3 (.int .i64 0)) H
def O.spec_l04Counts : Nat → Nat × List Nat := fun i => bif Nat.beq i 4 then (0, [0, 1, 2, 3, 4, 5, 6, 7, 8, 9, 10, 11, 12, 13, 14, 15, 16, 17, 18, 19, 20, 21]) else (0, [])
theorem R.spec_l04Counts {a0 : Value} {H : Hp} {K : Value → Hp → Prop} (h : F.spec_l04Counts a0 H K) : HT prg I.spec_l04Counts [a0].toArray H K :=
  HT_of_fev O.spec_l04Counts mixed Tryz.func109 (by kernel_rfl) (Eq.mpr (by kernel_rfl : fev prg O.spec_l04Counts Tryz.f109 [a0] H K = F.spec_l04Counts a0 H K) h)

/-! loop.example/g01381/spec.l04Life: function 70 -/
def F.spec_l04Life (a0 : Value) (H : Hp) (K : Value → Hp → Prop) : Prop :=
  ob (vNilC a0) fun v4x1 =>
  ob (vFa 0 v4x1) fun v5x2 =>
  ob (vLoad v5x2 H) fun v6x3 =>
  HT prg I.spec_l04Counts [v6x3].toArray H fun v7x4 H5 =>
  gop v7x4 true (fun K6 => K6 a0 H5) H5 fun v9x7 H8 =>
  gop v7x4 true (fun K9 => ob (vNilC v9x7) fun u => K9 u H8) H8 fun v10x10 H11 =>
  gop v7x4 true (fun K12 => ob (vFa 1 v10x10) fun u => K12 u H11) H11 fun v11x13 H14 =>
  gop v7x4 true (fun K15 => ob (vLoad v11x13 H14) fun u => K15 u H14) H14 fun v12x16 H17 =>
  gop v7x4 true (fun K18 => HT prg I.spec_l04Counts [v12x16].toArray H17 K18) H17 fun v13x19 H20 =>
  ob (vPick v7x4 v13x19 (.bool false)) fun v14x21 =>
  K v14x21 H20
def O.spec_l04Life : Nat → Nat × List Nat := fun i => (0, [])
theorem R.spec_l04Life {a0 : Value} {H : Hp} {K : Value → Hp → Prop} (h : F.spec_l04Life a0 H K) : HT prg I.spec_l04Life [a0].toArray H K :=
  HT_of_fev O.spec_l04Life mixed Tryz.func70 (by kernel_rfl) (Eq.mpr (by kernel_rfl : fev prg O.spec_l04Life Tryz.f70 [a0] H K = F.spec_l04Life a0 H K) h)

/-! loop.example/g01381/spec.l05Soup: function 28 -/
def F.spec_l05Soup (a0 a1 a2 a3 a4 : Value) (H : Hp) (K : Value → Hp → Prop) : Prop :=
  nw #[(.int .i64 0), (.int .i64 0), (.slice none 0 0)] 36 H fun v10x1 H2 =>
  HT prg I.spec_l04Life [a0].toArray H2 fun v17x3 H4 =>
  ob (vUn .not v17x3) fun v18x5 =>
  gop v18x5 false (fun K6 => K6 a4 H4) H4 fun v20x7 H8 =>
  gop v18x5 false (fun K9 => HT prg I.spec_l00In [v20x7, (.int .i64 0), (.int .i64 64)].toArray H8 K9) H8 fun v21x10 H11 =>
  gop v18x5 false (fun K12 => ob (vUn .not v21x10) fun u => K12 u H11) H11 fun v22x13 H14 =>
  ob (vPick v18x5 (.bool true) v22x13) fun v23x15 =>
  cnd v23x15
    (ob (vBuild [(0, 1), (1, 1), (2, 1)] (.agg #[(.int .i64 0), (.int .i64 0), (.slice none 0 0)]) []) fun v24x16 =>
    st 3 v10x1 v24x16 H14 fun H17 =>
    ob (vLoadN 3 v10x1 H17) fun u18 => K (.tuple #[u18, (.int .i64 0), (.bool false)]) H17)
    (HT prg I.spec_DrawField [a1, a1, a2, a3].toArray H14 fun v30x19 H20 =>
  ob (vExt v30x19 0) fun v31x21 =>
  ob (vExt v30x19 1) fun v32x22 =>
  ob (vExt v30x19 2) fun v33x23 =>
  nw #[(.int .i64 0), (.int .i64 0), (.slice none 0 0)] 36 H20 fun v13x24 H25 =>
  st 3 v13x24 v31x21 H25 fun H26 =>
  ob (vUn .not v33x23) fun v35x27 =>
  cnd v35x27
    (ob (vBuild [(0, 1), (1, 1), (2, 1)] (.agg #[(.int .i64 0), (.int .i64 0), (.slice none 0 0)]) []) fun v36x28 =>
    st 3 v10x1 v36x28 H26 fun H29 =>
    ob (vLoadN 3 v10x1 H29) fun u30 => K (.tuple #[u30, (.int .i64 0), (.bool false)]) H29)
    (HT prg I.spec_l04Run [a0, v13x24, (.bool true), a4].toArray H26 fun v39x31 H32 =>
  st 3 v10x1 v39x31 H32 fun H33 =>
  ob (vLoadN 3 v10x1 H33) fun u34 => K (.tuple #[u34, v32x22, (.bool true)]) H33))
def O.spec_l05Soup : Nat → Nat × List Nat := fun i => (0, [])
theorem R.spec_l05Soup {a0 a1 a2 a3 a4 : Value} {H : Hp} {K : Value → Hp → Prop} (h : F.spec_l05Soup a0 a1 a2 a3 a4 H K) : HT prg I.spec_l05Soup [a0, a1, a2, a3, a4].toArray H K :=
  HT_of_fev O.spec_l05Soup mixed Tryz.func28 (by kernel_rfl) (Eq.mpr (by kernel_rfl : fev prg O.spec_l05Soup Tryz.f28 [a0, a1, a2, a3, a4] H K = F.spec_l05Soup a0 a1 a2 a3 a4 H K) h)

/-! loop.example/g01381/spec.l00Max: function 92 -/
def F.spec_l00Max (a0 a1 : Value) (H : Hp) (K : Value → Hp → Prop) : Prop :=
  ob (vInt .gtr a0 a1) fun v7x1 =>
  cnd v7x1
    (K a0 H)
    (K a1 H)
def O.spec_l00Max : Nat → Nat × List Nat := fun i => (0, [])
theorem R.spec_l00Max {a0 a1 : Value} {H : Hp} {K : Value → Hp → Prop} (h : F.spec_l00Max a0 a1 H K) : HT prg I.spec_l00Max [a0, a1].toArray H K :=
  HT_of_fev O.spec_l00Max mixed Tryz.func92 (by kernel_rfl) (Eq.mpr (by kernel_rfl : fev prg O.spec_l00Max Tryz.f92 [a0, a1] H K = F.spec_l00Max a0 a1 H K) h)

/-! loop.example/g01381/spec.l00Min: function 138 -/
def F.spec_l00Min (a0 a1 : Value) (H : Hp) (K : Value → Hp → Prop) : Prop :=
  ob (vInt .lss a0 a1) fun v7x1 =>
  cnd v7x1
    (K a0 H)
    (K a1 H)
def O.spec_l00Min : Nat → Nat × List Nat := fun i => (0, [])
theorem R.spec_l00Min {a0 a1 : Value} {H : Hp} {K : Value → Hp → Prop} (h : F.spec_l00Min a0 a1 H K) : HT prg I.spec_l00Min [a0, a1].toArray H K :=
  HT_of_fev O.spec_l00Min mixed Tryz.func138 (by kernel_rfl) (Eq.mpr (by kernel_rfl : fev prg O.spec_l00Min Tryz.f138 [a0, a1] H K = F.spec_l00Min a0 a1 H K) h)

/-! loop.example/g01381/spec.l05Cut: function 139 -/
def F.spec_l05Cut (a0 a1 a2 a3 a4 : Value) (H : Hp) (K : Value → Hp → Prop) : Prop :=
  nw #[(.int .i64 0), (.int .i64 0), (.slice none 0 0)] 36 H fun v10x1 H2 =>
  HT prg I.spec_l04New [a3, a4].toArray H2 fun v16x3 H4 =>
  nw #[(.int .i64 0), (.int .i64 0), (.slice none 0 0)] 36 H4 fun v11x5 H6 =>
  st 3 v11x5 v16x3 H6 fun H7 =>
  jn (fun σ8 H8 =>
    ob (vLoadN 3 (σ8 11) H8) fun v53x9 =>
    st 3 (σ8 10) v53x9 H8 fun H10 =>
    ob (vLoadN 3 (σ8 10) H10) fun u11 => K u11 H10) fun J8 =>
  lpE (fun Q12 σ12 H12 =>
    ob (vInt .lss (σ12 12) (σ12 3)) fun v19x13 =>
    cnd v19x13
      (jn (fun σ14 H14 =>
      ob (vInt .add (σ14 12) (.int .i64 1)) fun v21x15 =>
      Q12 .normal (up (up (up σ14 20 (σ14 12)) 21 v21x15) 12 v21x15) H14) fun J14 =>
    lpE (fun Q16 σ16 H16 =>
      ob (vInt .lss (σ16 13) (σ16 4)) fun v24x17 =>
      cnd v24x17
        (ob (vFa 2 (σ16 11)) fun v27x18 =>
      ob (vLoad v27x18 H16) fun v28x19 =>
      ob (vInt .mul (σ16 12) (σ16 4)) fun v31x20 =>
      ob (vInt .add v31x20 (σ16 13)) fun v33x21 =>
      ob (vNilC (σ16 0)) fun v35x22 =>
      ob (vFa 2 v35x22) fun v36x23 =>
      ob (vLoad v36x23 H16) fun v37x24 =>
      ob (vInt .add (σ16 1) (σ16 12)) fun v40x25 =>
      ob (vNilC (σ16 0)) fun v42x26 =>
      ob (vFa 1 v42x26) fun v43x27 =>
      ob (vLoad v43x27 H16) fun v44x28 =>
      ob (vInt .mul v40x25 v44x28) fun v45x29 =>
      ob (vInt .add v45x29 (σ16 2)) fun v47x30 =>
      ob (vInt .add v47x30 (σ16 13)) fun v49x31 =>
      ob (vIx 1 v37x24 v49x31) fun v50x32 =>
      ob (vLoad v50x32 H16) fun v51x33 =>
      ob (vIx 1 v28x19 v33x21) fun v52x34 =>
      st 1 v52x34 v51x33 H16 fun H35 =>
      ob (vInt .add (σ16 13) (.int .i64 1)) fun v26x36 =>
      Q16 .normal (up (up (up (up (up (up (up (up (up (up (up (up (up (up (up (up (up (up (up (up (up (up (up (up (up (up (up (up (up (up (up (up σ16 22 (σ16 13)) 23 (σ16 4)) 24 v24x17) 27 v27x18) 28 v28x19) 29 (σ16 12)) 30 (σ16 4)) 31 v31x20) 32 (σ16 13)) 33 v33x21) 34 (σ16 0)) 35 v35x22) 36 v36x23) 37 v37x24) 38 (σ16 1)) 39 (σ16 12)) 40 v40x25) 41 (σ16 0)) 42 v42x26) 43 v43x27) 44 v44x28) 45 v45x29) 46 (σ16 2)) 47 v47x30) 48 (σ16 13)) 49 v49x31) 50 v50x32) 51 v51x33) 52 v52x34) 25 (σ16 13)) 26 v26x36) 13 v26x36) H35)
        (Q16 (.exit 2) (up (up (up σ16 22 (σ16 13)) 23 (σ16 4)) 24 v24x17) H16)) (blkQ 2 (blkQ 1 (thenQ J14 Q12))) (up (up (up (up σ12 17 (σ12 12)) 18 (σ12 3)) 19 v19x13) 13 (.int .i64 0)) H12)
      (Q12 (.exit 0) (up (up (up σ12 17 (σ12 12)) 18 (σ12 3)) 19 v19x13) H12)) (blkQ 0 (thenQ J8 (retQ prg [(.cell 10 36)] K))) (up (up (up (up (up (up (S0 [a0, a1, a2, a3, a4]) 10 v10x1) 14 a3) 15 a4) 16 v16x3) 11 v11x5) 12 (.int .i64 0)) H7
def O.spec_l05Cut : Nat → Nat × List Nat := fun i => bif Nat.beq i 8 then (0, [0, 1, 2, 3, 4, 5, 6, 7, 8, 9, 10, 11, 12, 13, 14, 15, 16, 17, 18, 19, 20, 21, 22, 23, 24, 25, 26]) else (0, [])
theorem R.spec_l05Cut {a0 a1 a2 a3 a4 : Value} {H : Hp} {K : Value → Hp → Prop} (h : F.spec_l05Cut a0 a1 a2 a3 a4 H K) : HT prg I.spec_l05Cut [a0, a1, a2, a3, a4].toArray H K :=
  HT_of_fev O.spec_l05Cut mixed Tryz.func139 (by kernel_rfl) (Eq.mpr (by kernel_rfl : fev prg O.spec_l05Cut Tryz.f139 [a0, a1, a2, a3, a4] H K = F.spec_l05Cut a0 a1 a2 a3 a4 H K) h)

/-! loop.example/g01381/spec.l05Trim: function 110 -/
def F.spec_l05Trim (a0 : Value) (H : Hp) (K : Value → Hp → Prop) : Prop :=
  nw #[(.int .i64 0), (.int .i64 0), (.slice none 0 0)] 36 H fun v2x1 H2 =>
  ob (vNilC a0) fun v13x3 =>
  ob (vFa 0 v13x3) fun v14x4 =>
  ob (vLoad v14x4 H2) fun v15x5 =>
  ob (vNilC a0) fun v17x6 =>
  ob (vFa 1 v17x6) fun v18x7 =>
  ob (vLoad v18x7 H2) fun v19x8 =>
  jn (fun σ9 H9 =>
    ob (vInt .lss (σ9 7) (.int .i64 0)) fun v64x10 =>
    cnd v64x10
      (ob (vBuild [(0, 1), (1, 1), (2, 1)] (.agg #[(.int .i64 0), (.int .i64 0), (.slice none 0 0)]) []) fun v65x11 =>
      st 3 (σ9 2) v65x11 H9 fun H12 =>
      ob (vLoadN 3 (σ9 2) H12) fun u13 => K (.tuple #[u13, (.int .i64 0), (.int .i64 0), (.bool false)]) H12)
      (ob (vInt .sub (σ9 7) (σ9 6)) fun v71x14 =>
    ob (vInt .add v71x14 (.int .i64 1)) fun v72x15 =>
    ob (vInt .sub (σ9 9) (σ9 8)) fun v75x16 =>
    ob (vInt .add v75x16 (.int .i64 1)) fun v76x17 =>
    HT prg I.spec_l05Cut [(σ9 0), (σ9 6), (σ9 8), v72x15, v76x17].toArray H9 fun v77x18 H19 =>
    st 3 (σ9 2) v77x18 H19 fun H20 =>
    ob (vLoadN 3 (σ9 2) H20) fun u21 => K (.tuple #[u21, (σ9 6), (σ9 8), (.bool true)]) H20)) fun J9 =>
  lpE (fun Q22 σ22 H22 =>
    ob (vNilC (σ22 0)) fun v22x23 =>
    ob (vFa 0 v22x23) fun v23x24 =>
    ob (vLoad v23x24 H22) fun v24x25 =>
    ob (vInt .lss (σ22 10) v24x25) fun v25x26 =>
    cnd v25x26
      (jn (fun σ27 H27 =>
      ob (vInt .add (σ27 10) (.int .i64 1)) fun v27x28 =>
      Q22 .normal (up (up (up σ27 26 (σ27 10)) 27 v27x28) 10 v27x28) H27) fun J27 =>
    lpE (fun Q29 σ29 H29 =>
      ob (vNilC (σ29 0)) fun v30x30 =>
      ob (vFa 1 v30x30) fun v31x31 =>
      ob (vLoad v31x31 H29) fun v32x32 =>
      ob (vInt .lss (σ29 11) v32x32) fun v33x33 =>
      cnd v33x33
        (ob (vNilC (σ29 0)) fun v37x34 =>
      ob (vFa 2 v37x34) fun v38x35 =>
      ob (vLoad v38x35 H29) fun v39x36 =>
      ob (vNilC (σ29 0)) fun v42x37 =>
      ob (vFa 1 v42x37) fun v43x38 =>
      ob (vLoad v43x38 H29) fun v44x39 =>
      ob (vInt .mul (σ29 10) v44x39) fun v45x40 =>
      ob (vInt .add v45x40 (σ29 11)) fun v47x41 =>
      ob (vIx 1 v39x36 v47x41) fun v48x42 =>
      ob (vLoad v48x42 H29) fun v49x43 =>
      ob (vInt .eql v49x43 (.int .i64 1)) fun v50x44 =>
      cnd v50x44
        (HT prg I.spec_l00Min [(σ29 6), (σ29 10)].toArray H29 fun v53x45 H46 =>
        HT prg I.spec_l00Max [(σ29 7), (σ29 10)].toArray H46 fun v56x47 H48 =>
        HT prg I.spec_l00Min [(σ29 8), (σ29 11)].toArray H48 fun v59x49 H50 =>
        HT prg I.spec_l00Max [(σ29 9), (σ29 11)].toArray H50 fun v62x51 H52 =>
        ob (vInt .add (σ29 11) (.int .i64 1)) fun v35x53 =>
      Q29 .normal (up (up (up (up (up (up (up (up (up (up (up (up (up (up (up (up (up (up (up (up (up (up (up (up (up (up (up (up (up (up (up (up (up (up (up (up (up (up (up (up σ29 28 (σ29 11)) 29 (σ29 0)) 30 v30x30) 31 v31x31) 32 v32x32) 33 v33x33) 36 (σ29 0)) 37 v37x34) 38 v38x35) 39 v39x36) 40 (σ29 10)) 41 (σ29 0)) 42 v42x37) 43 v43x38) 44 v44x39) 45 v45x40) 46 (σ29 11)) 47 v47x41) 48 v48x42) 49 v49x43) 50 v50x44) 51 (σ29 6)) 52 (σ29 10)) 53 v53x45) 6 v53x45) 54 (σ29 7)) 55 (σ29 10)) 56 v56x47) 7 v56x47) 57 (σ29 8)) 58 (σ29 11)) 59 v59x49) 8 v59x49) 60 (σ29 9)) 61 (σ29 11)) 62 v62x51) 9 v62x51) 34 (σ29 11)) 35 v35x53) 11 v35x53) H52)
        (ob (vInt .add (σ29 11) (.int .i64 1)) fun v35x54 =>
      Q29 .normal (up (up (up (up (up (up (up (up (up (up (up (up (up (up (up (up (up (up (up (up (up (up (up (up σ29 28 (σ29 11)) 29 (σ29 0)) 30 v30x30) 31 v31x31) 32 v32x32) 33 v33x33) 36 (σ29 0)) 37 v37x34) 38 v38x35) 39 v39x36) 40 (σ29 10)) 41 (σ29 0)) 42 v42x37) 43 v43x38) 44 v44x39) 45 v45x40) 46 (σ29 11)) 47 v47x41) 48 v48x42) 49 v49x43) 50 v50x44) 34 (σ29 11)) 35 v35x54) 11 v35x54) H29))
        (Q29 (.exit 2) (up (up (up (up (up (up σ29 28 (σ29 11)) 29 (σ29 0)) 30 v30x30) 31 v31x31) 32 v32x32) 33 v33x33) H29)) (blkQ 2 (blkQ 1 (thenQ J27 Q22))) (up (up (up (up (up (up (up σ22 20 (σ22 10)) 21 (σ22 0)) 22 v22x23) 23 v23x24) 24 v24x25) 25 v25x26) 11 (.int .i64 0)) H22)
      (Q22 (.exit 0) (up (up (up (up (up (up σ22 20 (σ22 10)) 21 (σ22 0)) 22 v22x23) 23 v23x24) 24 v24x25) 25 v25x26) H22)) (blkQ 0 (thenQ J9 (retQ prg [(.cell 2 36), (.tmp 3), (.tmp 4), (.tmp 5)] K))) (up (up (up (up (up (up (up (up (up (up (up (up (up (up (up (up (up (S0 [a0]) 2 v2x1) 3 (.int .i64 0)) 4 (.int .i64 0)) 5 (.bool false)) 12 a0) 13 v13x3) 14 v14x4) 15 v15x5) 6 v15x5) 7 (.int .i64 (-1))) 16 a0) 17 v17x6) 18 v18x7) 19 v19x8) 8 v19x8) 9 (.int .i64 (-1))) 10 (.int .i64 0)) H2
def O.spec_l05Trim : Nat → Nat × List Nat := fun i => bif Nat.beq i 11 then (0, [0, 1, 2, 3, 4, 5, 6, 7, 8, 9, 10, 11, 12, 13, 14]) else (0, [])
theorem R.spec_l05Trim {a0 : Value} {H : Hp} {K : Value → Hp → Prop} (h : F.spec_l05Trim a0 H K) : HT prg I.spec_l05Trim [a0].toArray H K :=
  HT_of_fev O.spec_l05Trim mixed Tryz.func110 (by kernel_rfl) (Eq.mpr (by kernel_rfl : fev prg O.spec_l05Trim Tryz.f110 [a0] H K = F.spec_l05Trim a0 H K) h)

/-! loop.example/g01381/spec.l05Parts: function 71 -/
def F.spec_l05Parts (a0 : Value) (H : Hp) (K : Value → Hp → Prop) : Prop :=
  ob (vNilC a0) fun v21x1 =>
  ob (vFa 2 v21x1) fun v22x2 =>
  ob (vLoad v22x2 H) fun v23x3 =>
  ob (vLenSl v23x3) fun v24x4 =>
  mkS 1 1 #[(.bool false)] 4 v24x4 v24x4 H fun v25x5 H6 =>
  bS 3 0 #[(.int .i64 0), (.int .i64 0), (.slice none 0 0)] 36 [] H6 fun v26x7 H8 =>
  bS 1 0 #[(.int .i64 0)] 2 [] H8 fun v27x9 H10 =>
  jn (fun σ11 H11 =>
    K (.tuple #[(σ11 5), (σ11 6)]) H11) fun J11 =>
  ob (vNilC a0) fun v29x12 =>
  ob (vFa 2 v29x12) fun v30x13 =>
  ob (vLoad v30x13 H10) fun v31x14 =>
  ob (vLenSl v31x14) fun v32x15 =>
  lpE (fun Q16 σ16 H16 =>
    ob (vInt .lss (σ16 33) (σ16 32)) fun v34x17 =>
    cnd v34x17
      (jn (fun σ18 H18 =>
      ob (vInt .add (σ18 33) (.int .i64 1)) fun v174x19 =>
      Q16 .normal (up (up σ18 174 v174x19) 33 v174x19) H18) fun J18 =>
    ob (vNilC (σ16 0)) fun v37x20 =>
    ob (vFa 2 v37x20) fun v38x21 =>
    ob (vLoad v38x21 H16) fun v39x22 =>
    ob (vIx 1 v39x22 (σ16 33)) fun v41x23 =>
    ob (vLoad v41x23 H16) fun v42x24 =>
    ob (vInt .neq v42x24 (.int .i64 1)) fun v43x25 =>
    gop v43x25 false (fun K26 => K26 (σ16 4) H16) H16 fun v45x27 H28 =>
    gop v43x25 false (fun K29 => K29 (σ16 33) H28) H28 fun v46x30 H31 =>
    gop v43x25 false (fun K32 => ob (vIx 1 v45x27 v46x30) fun u => K32 u H31) H31 fun v47x33 H34 =>
    gop v43x25 false (fun K35 => ob (vLoad v47x33 H34) fun u => K35 u H34) H34 fun v48x36 H37 =>
    ob (vPick v43x25 (.bool true) v48x36) fun v49x38 =>
    cnd v49x38
      (J18 (up (up (up (up (up (up (up (up (up (up (up (up (up (up (up (up (up σ16 34 v34x17) 35 (σ16 33)) 7 (σ16 33)) 36 (σ16 0)) 37 v37x20) 38 v38x21) 39 v39x22) 40 (σ16 33)) 41 v41x23) 42 v42x24) 43 v43x25) 44 v43x25) 45 v45x27) 46 v46x30) 47 v47x33) 48 v48x36) 49 v49x38) H37)
      (ob (vNilC (σ16 0)) fun v51x39 =>
    ob (vFa 0 v51x39) fun v52x40 =>
    ob (vLoad v52x40 H37) fun v53x41 =>
    ob (vNilC (σ16 0)) fun v55x42 =>
    ob (vFa 1 v55x42) fun v56x43 =>
    ob (vLoad v56x43 H37) fun v57x44 =>
    HT prg I.spec_l04New [v53x41, v57x44].toArray H37 fun v58x45 H46 =>
    Le H37 H46 ∧ (nw #[(.int .i64 0), (.int .i64 0), (.slice none 0 0)] 36 H46 fun v8x47 H48 =>
    st 3 v8x47 v58x45 H48 fun H49 =>
    bS 1 1 #[(.int .i64 0)] 2 [(0, (σ16 33))] H49 fun v60x50 H51 =>
    ob (vIx 1 (σ16 4) (σ16 33)) fun v63x52 =>
    st 1 v63x52 (.bool true) H51 fun H53 =>
    jn (fun σ54 H54 =>
      HT prg I.spec_l05Trim [(σ54 8)].toArray H54 fun v160x55 H56 =>
      ob (vExt v160x55 0) fun v161x57 =>
      ob (vExt v160x55 1) fun v162x58 =>
      ob (vExt v160x55 2) fun v163x59 =>
      ob (vExt v160x55 3) fun v164x60 =>
      nw #[(.int .i64 0), (.int .i64 0), (.slice none 0 0)] 36 H56 fun v16x61 H62 =>
      st 3 v16x61 v161x57 H62 fun H63 =>
      ob (vLoadN 3 v16x61 H63) fun v166x64 =>
      bS 3 1 #[(.int .i64 0), (.int .i64 0), (.slice none 0 0)] 36 [(0, v166x64)] H63 fun v167x65 H66 =>
      apd 3 40 #[(.int .i64 0), (.int .i64 0), (.slice none 0 0)] 36 (σ54 5) v167x65 H66 fun v168x67 H68 =>
      bS 1 2 #[(.int .i64 0)] 2 [(0, v162x58), (1, v163x59)] H68 fun v172x69 H70 =>
      apd 1 8 #[(.int .i64 0)] 2 (σ54 6) v172x69 H70 fun v173x71 H72 =>
      J18 (up (up (up (up (up (up (up (up (up (up (up (up (up (up (up (up (up (up (up (up (up σ54 160 v160x55) 159 v160x55) 161 v161x57) 162 v162x58) 163 v163x59) 164 v164x60) 16 v16x61) 17 v162x58) 18 v163x59) 19 v164x60) 165 (σ54 5)) 166 v166x64) 167 v167x65) 168 v168x67) 5 v168x67) 169 (σ54 6)) 170 v162x58) 171 v163x59) 172 v172x69) 173 v173x71) 6 v173x71) H72) fun J54 =>
    lpE (fun Q73 σ73 H73 =>
      ob (vLenSl (σ73 9)) fun v66x74 =>
      ob (vInt .lss (σ73 10) v66x74) fun v67x75 =>
      cnd v67x75
        (jn (fun σ76 H76 =>
        ob (vInt .add (σ76 10) (.int .i64 1)) fun v69x77 =>
        Q73 .normal (up (up (up σ76 68 (σ76 10)) 69 v69x77) 10 v69x77) H76) fun J76 =>
      ob (vFa 2 (σ73 8)) fun v70x78 =>
      ob (vLoad v70x78 H73) fun v71x79 =>
      ob (vIx 1 (σ73 9) (σ73 10)) fun v74x80 =>
      ob (vLoad v74x80 H73) fun v75x81 =>
      ob (vIx 1 v71x79 v75x81) fun v76x82 =>
      st 1 v76x82 (.int .i64 1) H73 fun H83 =>
      ob (vIx 1 (σ73 9) (σ73 10)) fun v79x84 =>
      ob (vLoad v79x84 H83) fun v80x85 =>
      ob (vNilC (σ73 0)) fun v82x86 =>
      ob (vFa 1 v82x86) fun v83x87 =>
      ob (vLoad v83x87 H83) fun v84x88 =>
      ob (vInt .quo v80x85 v84x88) fun v85x89 =>
      ob (vIx 1 (σ73 9) (σ73 10)) fun v88x90 =>
      ob (vLoad v88x90 H83) fun v89x91 =>
      ob (vNilC (σ73 0)) fun v91x92 =>
      ob (vFa 1 v91x92) fun v92x93 =>
      ob (vLoad v92x93 H83) fun v93x94 =>
      ob (vInt .rem v89x91 v93x94) fun v94x95 =>
      ob (vInt .sub v85x89 (.int .i64 1)) fun v96x96 =>
      lpE (fun Q97 σ97 H97 =>
        ob (vInt .add (σ97 11) (.int .i64 1)) fun v99x98 =>
        ob (vInt .leq (σ97 13) v99x98) fun v100x99 =>
        cnd v100x99
          (jn (fun σ100 H100 =>
          ob (vInt .add (σ100 13) (.int .i64 1)) fun v102x101 =>
          Q97 .normal (up (up (up σ100 101 (σ100 13)) 102 v102x101) 13 v102x101) H100) fun J100 =>
        ob (vInt .sub (σ97 12) (.int .i64 1)) fun v104x102 =>
        lpE (fun Q103 σ103 H103 =>
          ob (vInt .add (σ103 12) (.int .i64 1)) fun v107x104 =>
          ob (vInt .leq (σ103 14) v107x104) fun v108x105 =>
          cnd v108x105
            (ob (vNilC (σ103 0)) fun v113x106 =>
          ob (vFa 0 v113x106) fun v114x107 =>
          ob (vLoad v114x107 H103) fun v115x108 =>
          ob (vInt .sub v115x108 (.int .i64 1)) fun v116x109 =>
          HT prg I.spec_l00In [(σ103 13), (.int .i64 0), v116x109].toArray H103 fun v117x110 H111 =>
          ob (vUn .not v117x110) fun v118x112 =>
          gop v118x112 false (fun K113 => K113 (σ103 14) H111) H111 fun v120x114 H115 =>
          gop v118x112 false (fun K116 => K116 (σ103 0) H115) H115 fun v121x117 H118 =>
          gop v118x112 false (fun K119 => ob (vNilC v121x117) fun u => K119 u H118) H118 fun v122x120 H121 =>
          gop v118x112 false (fun K122 => ob (vFa 1 v122x120) fun u => K122 u H121) H121 fun v123x123 H124 =>
          gop v118x112 false (fun K125 => ob (vLoad v123x123 H124) fun u => K125 u H124) H124 fun v124x126 H127 =>
          gop v118x112 false (fun K128 => ob (vInt .sub v124x126 (.int .i64 1)) fun u => K128 u H127) H127 fun v125x129 H130 =>
          gop v118x112 false (fun K131 => HT prg I.spec_l00In [v120x114, (.int .i64 0), v125x129].toArray H130 K131) H130 fun v126x132 H133 =>
          gop v118x112 false (fun K134 => ob (vUn .not v126x132) fun u => K134 u H133) H133 fun v127x135 H136 =>
          ob (vPick v118x112 (.bool true) v127x135) fun v128x137 =>
          cnd v128x137
            (ob (vInt .add (σ103 14) (.int .i64 1)) fun v110x138 =>
          Q103 .normal (up (up (up (up (up (up (up (up (up (up (up (up (up (up (up (up (up (up (up (up (up (up (up (up (up σ103 105 (σ103 14)) 106 (σ103 12)) 107 v107x104) 108 v108x105) 111 (σ103 13)) 112 (σ103 0)) 113 v113x106) 114 v114x107) 115 v115x108) 116 v116x109) 117 v117x110) 118 v118x112) 119 v118x112) 120 v120x114) 121 v121x117) 122 v122x120) 123 v123x123) 124 v124x126) 125 v125x129) 126 v126x132) 127 v127x135) 128 v128x137) 109 (σ103 14)) 110 v110x138) 14 v110x138) H136)
            (ob (vNilC (σ103 0)) fun v131x139 =>
          ob (vFa 1 v131x139) fun v132x140 =>
          ob (vLoad v132x140 H136) fun v133x141 =>
          ob (vInt .mul (σ103 13) v133x141) fun v134x142 =>
          ob (vInt .add v134x142 (σ103 14)) fun v136x143 =>
          ob (vNilC (σ103 0)) fun v138x144 =>
          ob (vFa 2 v138x144) fun v139x145 =>
          ob (vLoad v139x145 H136) fun v140x146 =>
          ob (vIx 1 v140x146 v136x143) fun v142x147 =>
          ob (vLoad v142x147 H136) fun v143x148 =>
          ob (vInt .eql v143x148 (.int .i64 1)) fun v144x149 =>
          gop v144x149 true (fun K150 => K150 (σ103 4) H136) H136 fun v146x151 H152 =>
          gop v144x149 true (fun K153 => K153 v136x143 H152) H152 fun v147x154 H155 =>
          gop v144x149 true (fun K156 => ob (vIx 1 v146x151 v147x154) fun u => K156 u H155) H155 fun v148x157 H158 =>
          gop v144x149 true (fun K159 => ob (vLoad v148x157 H158) fun u => K159 u H158) H158 fun v149x160 H161 =>
          gop v144x149 true (fun K162 => ob (vUn .not v149x160) fun u => K162 u H161) H161 fun v150x163 H164 =>
          ob (vPick v144x149 v150x163 (.bool false)) fun v151x165 =>
          cnd v151x165
            (ob (vIx 1 (σ103 4) v136x143) fun v154x166 =>
            st 1 v154x166 (.bool true) H164 fun H167 =>
            bS 1 1 #[(.int .i64 0)] 2 [(0, v136x143)] H167 fun v157x168 H169 =>
            apd 1 8 #[(.int .i64 0)] 2 (σ103 9) v157x168 H169 fun v158x170 H171 =>
            ob (vInt .add (σ103 14) (.int .i64 1)) fun v110x172 =>
          Q103 .normal (up (up (up (up (up (up (up (up (up (up (up (up (up (up (up (up (up (up (up (up (up (up (up (up (up (up (up (up (up (up (up (up (up (up (up (up (up (up (up (up (up (up (up (up (up (up (up (up (up (up (up (up (up (up (up (up (up σ103 105 (σ103 14)) 106 (σ103 12)) 107 v107x104) 108 v108x105) 111 (σ103 13)) 112 (σ103 0)) 113 v113x106) 114 v114x107) 115 v115x108) 116 v116x109) 117 v117x110) 118 v118x112) 119 v118x112) 120 v120x114) 121 v121x117) 122 v122x120) 123 v123x123) 124 v124x126) 125 v125x129) 126 v126x132) 127 v127x135) 128 v128x137) 129 (σ103 13)) 130 (σ103 0)) 131 v131x139) 132 v132x140) 133 v133x141) 134 v134x142) 135 (σ103 14)) 136 v136x143) 15 v136x143) 137 (σ103 0)) 138 v138x144) 139 v139x145) 140 v140x146) 141 v136x143) 142 v142x147) 143 v143x148) 144 v144x149) 145 v144x149) 146 v146x151) 147 v147x154) 148 v148x157) 149 v149x160) 150 v150x163) 151 v151x165) 152 (σ103 4)) 153 v136x143) 154 v154x166) 155 (σ103 9)) 156 v136x143) 157 v157x168) 158 v158x170) 9 v158x170) 109 (σ103 14)) 110 v110x172) 14 v110x172) H171)
            (ob (vInt .add (σ103 14) (.int .i64 1)) fun v110x173 =>
          Q103 .normal (up (up (up (up (up (up (up (up (up (up (up (up (up (up (up (up (up (up (up (up (up (up (up (up (up (up (up (up (up (up (up (up (up (up (up (up (up (up (up (up (up (up (up (up (up (up (up (up (up σ103 105 (σ103 14)) 106 (σ103 12)) 107 v107x104) 108 v108x105) 111 (σ103 13)) 112 (σ103 0)) 113 v113x106) 114 v114x107) 115 v115x108) 116 v116x109) 117 v117x110) 118 v118x112) 119 v118x112) 120 v120x114) 121 v121x117) 122 v122x120) 123 v123x123) 124 v124x126) 125 v125x129) 126 v126x132) 127 v127x135) 128 v128x137) 129 (σ103 13)) 130 (σ103 0)) 131 v131x139) 132 v132x140) 133 v133x141) 134 v134x142) 135 (σ103 14)) 136 v136x143) 15 v136x143) 137 (σ103 0)) 138 v138x144) 139 v139x145) 140 v140x146) 141 v136x143) 142 v142x147) 143 v143x148) 144 v144x149) 145 v144x149) 146 v146x151) 147 v147x154) 148 v148x157) 149 v149x160) 150 v150x163) 151 v151x165) 109 (σ103 14)) 110 v110x173) 14 v110x173) H164)))
            (Q103 (.exit 6) (up (up (up (up σ103 105 (σ103 14)) 106 (σ103 12)) 107 v107x104) 108 v108x105) H103)) (blkQ 6 (blkQ 5 (thenQ J100 Q97))) (up (up (up (up (up (up (up σ97 97 (σ97 13)) 98 (σ97 11)) 99 v99x98) 100 v100x99) 103 (σ97 12)) 104 v104x102) 14 v104x102) H97)
          (Q97 (.exit 4) (up (up (up (up σ97 97 (σ97 13)) 98 (σ97 11)) 99 v99x98) 100 v100x99) H97)) (blkQ 4 (blkQ 3 (thenQ J76 Q73))) (up (up (up (up (up (up (up (up (up (up (up (up (up (up (up (up (up (up (up (up (up (up (up (up (up (up (up (up (up (up (up (up (up (up σ73 64 (σ73 10)) 65 (σ73 9)) 66 v66x74) 67 v67x75) 70 v70x78) 71 v71x79) 72 (σ73 9)) 73 (σ73 10)) 74 v74x80) 75 v75x81) 76 v76x82) 77 (σ73 9)) 78 (σ73 10)) 79 v79x84) 80 v80x85) 81 (σ73 0)) 82 v82x86) 83 v83x87) 84 v84x88) 85 v85x89) 11 v85x89) 86 (σ73 9)) 87 (σ73 10)) 88 v88x90) 89 v89x91) 90 (σ73 0)) 91 v91x92) 92 v92x93) 93 v93x94) 94 v94x95) 12 v94x95) 95 v85x89) 96 v96x96) 13 v96x96) H83)
        (Q73 (.exit 2) (up (up (up (up σ73 64 (σ73 10)) 65 (σ73 9)) 66 v66x74) 67 v67x75) H73)) (blkQ 2 (thenQ J54 (blkQ 1 (thenQ J18 Q16)))) (up (up (up (up (up (up (up (up (up (up (up (up (up (up (up (up (up (up (up (up (up (up (up (up (up (up (up (up (up (up (up (up (up (up σ16 34 v34x17) 35 (σ16 33)) 7 (σ16 33)) 36 (σ16 0)) 37 v37x20) 38 v38x21) 39 v39x22) 40 (σ16 33)) 41 v41x23) 42 v42x24) 43 v43x25) 44 v43x25) 45 v45x27) 46 v46x30) 47 v47x33) 48 v48x36) 49 v49x38) 50 (σ16 0)) 51 v51x39) 52 v52x40) 53 v53x41) 54 (σ16 0)) 55 v55x42) 56 v56x43) 57 v57x44) 58 v58x45) 8 v8x47) 59 (σ16 33)) 60 v60x50) 9 v60x50) 61 (σ16 4)) 62 (σ16 33)) 63 v63x52) 10 (.int .i64 0)) H53)))
      (Q16 (.exit 0) (up σ16 34 v34x17) H16)) (blkQ 0 (thenQ J11 (retQ prg [(.tmp 2), (.tmp 3)] K))) (up (up (up (up (up (up (up (up (up (up (up (up (up (up (up (up (up (up (up (S0 [a0]) 2 (.slice none 0 0)) 3 (.slice none 0 0)) 20 a0) 21 v21x1) 22 v22x2) 23 v23x3) 24 v24x4) 25 v25x5) 4 v25x5) 26 v26x7) 5 v26x7) 27 v27x9) 6 v27x9) 28 a0) 29 v29x12) 30 v30x13) 31 v31x14) 32 v32x15) 33 (.int .i64 0)) H10
def O.spec_l05Parts : Nat → Nat × List Nat := fun i => bif Nat.beq i 8 then (0, [0, 1, 2, 3, 4, 5, 6, 7, 8, 9, 10]) else bif Nat.beq i 14 then (0, [0, 1, 2, 3, 4, 5, 6, 7]) else bif Nat.beq i 15 then (0, [0, 1, 2, 3, 4, 5, 6, 7, 8, 9]) else bif Nat.beq i 16 then (0, [0, 1, 2, 3, 4, 5, 6, 7, 8, 9]) else (0, [])
theorem R.spec_l05Parts {a0 : Value} {H : Hp} {K : Value → Hp → Prop} (h : F.spec_l05Parts a0 H K) : HT prg I.spec_l05Parts [a0].toArray H K :=
  HT_of_fev O.spec_l05Parts mixed Tryz.func71 (by kernel_rfl) (Eq.mpr (by kernel_rfl : fev prg O.spec_l05Parts Tryz.f71 [a0] H K = F.spec_l05Parts a0 H K) h)

/-! loop.example/g01381/spec.l05Turn: function 140 -/
def F.spec_l05Turn (a0 : Value) (H : Hp) (K : Value → Hp → Prop) : Prop :=
  nw #[(.int .i64 0), (.int .i64 0), (.slice none 0 0)] 36 H fun v2x1 H2 =>
  ob (vNilC a0) fun v7x3 =>
  ob (vFa 1 v7x3) fun v8x4 =>
  ob (vLoad v8x4 H2) fun v9x5 =>
  ob (vNilC a0) fun v11x6 =>
  ob (vFa 0 v11x6) fun v12x7 =>
  ob (vLoad v12x7 H2) fun v13x8 =>
  HT prg I.spec_l04New [v9x5, v13x8].toArray H2 fun v14x9 H10 =>
  Le H2 H10 ∧ (nw #[(.int .i64 0), (.int .i64 0), (.slice none 0 0)] 36 H10 fun v3x11 H12 =>
  st 3 v3x11 v14x9 H12 fun H13 =>
  jn (fun σ14 H14 =>
    ob (vLoadN 3 (σ14 3) H14) fun v56x15 =>
    st 3 (σ14 2) v56x15 H14 fun H16 =>
    ob (vLoadN 3 (σ14 2) H16) fun u17 => K u17 H16) fun J14 =>
  lpE (fun Q18 σ18 H18 =>
    ob (vFa 0 (σ18 3)) fun v16x19 =>
    ob (vLoad v16x19 H18) fun v17x20 =>
    ob (vInt .lss (σ18 4) v17x20) fun v18x21 =>
    cnd v18x21
      (jn (fun σ22 H22 =>
      ob (vInt .add (σ22 4) (.int .i64 1)) fun v20x23 =>
      Q18 .normal (up (up (up σ22 19 (σ22 4)) 20 v20x23) 4 v20x23) H22) fun J22 =>
    lpE (fun Q24 σ24 H24 =>
      ob (vFa 1 (σ24 3)) fun v22x25 =>
      ob (vLoad v22x25 H24) fun v23x26 =>
      ob (vInt .lss (σ24 5) v23x26) fun v24x27 =>
      cnd v24x27
        (ob (vFa 2 (σ24 3)) fun v27x28 =>
      ob (vLoad v27x28 H24) fun v28x29 =>
      ob (vFa 1 (σ24 3)) fun v30x30 =>
      ob (vLoad v30x30 H24) fun v31x31 =>
      ob (vInt .mul (σ24 4) v31x31) fun v32x32 =>
      ob (vInt .add v32x32 (σ24 5)) fun v34x33 =>
      ob (vNilC (σ24 0)) fun v36x34 =>
      ob (vFa 2 v36x34) fun v37x35 =>
      ob (vLoad v37x35 H24) fun v38x36 =>
      ob (vNilC (σ24 0)) fun v40x37 =>
      ob (vFa 0 v40x37) fun v41x38 =>
      ob (vLoad v41x38 H24) fun v42x39 =>
      ob (vInt .sub v42x39 (.int .i64 1)) fun v43x40 =>
      ob (vInt .sub v43x40 (σ24 5)) fun v45x41 =>
      ob (vNilC (σ24 0)) fun v47x42 =>
      ob (vFa 1 v47x42) fun v48x43 =>
      ob (vLoad v48x43 H24) fun v49x44 =>
      ob (vInt .mul v45x41 v49x44) fun v50x45 =>
      ob (vInt .add v50x45 (σ24 4)) fun v52x46 =>
      ob (vIx 1 v38x36 v52x46) fun v53x47 =>
      ob (vLoad v53x47 H24) fun v54x48 =>
      ob (vIx 1 v28x29 v34x33) fun v55x49 =>
      st 1 v55x49 v54x48 H24 fun H50 =>
      ob (vInt .add (σ24 5) (.int .i64 1)) fun v26x51 =>
      Q24 .normal (up (up (up (up (up (up (up (up (up (up (up (up (up (up (up (up (up (up (up (up (up (up (up (up (up (up (up (up (up (up (up (up (up (up (up (up σ24 21 (σ24 5)) 22 v22x25) 23 v23x26) 24 v24x27) 27 v27x28) 28 v28x29) 29 (σ24 4)) 30 v30x30) 31 v31x31) 32 v32x32) 33 (σ24 5)) 34 v34x33) 35 (σ24 0)) 36 v36x34) 37 v37x35) 38 v38x36) 39 (σ24 0)) 40 v40x37) 41 v41x38) 42 v42x39) 43 v43x40) 44 (σ24 5)) 45 v45x41) 46 (σ24 0)) 47 v47x42) 48 v48x43) 49 v49x44) 50 v50x45) 51 (σ24 4)) 52 v52x46) 53 v53x47) 54 v54x48) 55 v55x49) 25 (σ24 5)) 26 v26x51) 5 v26x51) H50)
        (Q24 (.exit 2) (up (up (up (up σ24 21 (σ24 5)) 22 v22x25) 23 v23x26) 24 v24x27) H24)) (blkQ 2 (blkQ 1 (thenQ J22 Q18))) (up (up (up (up (up σ18 15 (σ18 4)) 16 v16x19) 17 v17x20) 18 v18x21) 5 (.int .i64 0)) H18)
      (Q18 (.exit 0) (up (up (up (up σ18 15 (σ18 4)) 16 v16x19) 17 v17x20) 18 v18x21) H18)) (blkQ 0 (thenQ J14 (retQ prg [(.cell 2 36)] K))) (up (up (up (up (up (up (up (up (up (up (up (up (S0 [a0]) 2 v2x1) 6 a0) 7 v7x3) 8 v8x4) 9 v9x5) 10 a0) 11 v11x6) 12 v12x7) 13 v13x8) 14 v14x9) 3 v3x11) 4 (.int .i64 0)) H13)
def O.spec_l05Turn : Nat → Nat × List Nat := fun i => bif Nat.beq i 1 then (0, [0, 1, 2, 3, 4, 5, 6, 7, 8, 9, 10]) else bif Nat.beq i 8 then (0, [0, 1, 2, 3, 4, 5, 6, 7, 8, 9, 10, 11, 12, 13, 14, 15, 16, 17, 18, 19, 20, 21, 22, 23, 24, 25, 26, 27, 28, 29]) else (0, [])
theorem R.spec_l05Turn {a0 : Value} {H : Hp} {K : Value → Hp → Prop} (h : F.spec_l05Turn a0 H K) : HT prg I.spec_l05Turn [a0].toArray H K :=
  HT_of_fev O.spec_l05Turn mixed Tryz.func140 (by kernel_rfl) (Eq.mpr (by kernel_rfl : fev prg O.spec_l05Turn Tryz.f140 [a0] H K = F.spec_l05Turn a0 H K) h)

/-! loop.example/g01381/spec.l05Mirror: function 141 -/
def F.spec_l05Mirror (a0 : Value) (H : Hp) (K : Value → Hp → Prop) : Prop :=
  nw #[(.int .i64 0), (.int .i64 0), (.slice none 0 0)] 36 H fun v2x1 H2 =>
  ob (vNilC a0) fun v7x3 =>
  ob (vFa 0 v7x3) fun v8x4 =>
  ob (vLoad v8x4 H2) fun v9x5 =>
  ob (vNilC a0) fun v11x6 =>
  ob (vFa 1 v11x6) fun v12x7 =>
  ob (vLoad v12x7 H2) fun v13x8 =>
  HT prg I.spec_l04New [v9x5, v13x8].toArray H2 fun v14x9 H10 =>
  Le H2 H10 ∧ (nw #[(.int .i64 0), (.int .i64 0), (.slice none 0 0)] 36 H10 fun v3x11 H12 =>
  st 3 v3x11 v14x9 H12 fun H13 =>
  jn (fun σ14 H14 =>
    ob (vLoadN 3 (σ14 3) H14) fun v58x15 =>
    st 3 (σ14 2) v58x15 H14 fun H16 =>
    ob (vLoadN 3 (σ14 2) H16) fun u17 => K u17 H16) fun J14 =>
  lpE (fun Q18 σ18 H18 =>
    ob (vNilC (σ18 0)) fun v17x19 =>
    ob (vFa 0 v17x19) fun v18x20 =>
    ob (vLoad v18x20 H18) fun v19x21 =>
    ob (vInt .lss (σ18 4) v19x21) fun v20x22 =>
    cnd v20x22
      (jn (fun σ23 H23 =>
      ob (vInt .add (σ23 4) (.int .i64 1)) fun v22x24 =>
      Q18 .normal (up (up (up σ23 21 (σ23 4)) 22 v22x24) 4 v22x24) H23) fun J23 =>
    lpE (fun Q25 σ25 H25 =>
      ob (vNilC (σ25 0)) fun v25x26 =>
      ob (vFa 1 v25x26) fun v26x27 =>
      ob (vLoad v26x27 H25) fun v27x28 =>
      ob (vInt .lss (σ25 5) v27x28) fun v28x29 =>
      cnd v28x29
        (ob (vFa 2 (σ25 3)) fun v31x30 =>
      ob (vLoad v31x30 H25) fun v32x31 =>
      ob (vNilC (σ25 0)) fun v35x32 =>
      ob (vFa 1 v35x32) fun v36x33 =>
      ob (vLoad v36x33 H25) fun v37x34 =>
      ob (vInt .mul (σ25 4) v37x34) fun v38x35 =>
      ob (vInt .add v38x35 (σ25 5)) fun v40x36 =>
      ob (vNilC (σ25 0)) fun v42x37 =>
      ob (vFa 2 v42x37) fun v43x38 =>
      ob (vLoad v43x38 H25) fun v44x39 =>
      ob (vInt .add (σ25 4) (.int .i64 1)) fun v46x40 =>
      ob (vNilC (σ25 0)) fun v48x41 =>
      ob (vFa 1 v48x41) fun v49x42 =>
      ob (vLoad v49x42 H25) fun v50x43 =>
      ob (vInt .mul v46x40 v50x43) fun v51x44 =>
      ob (vInt .sub v51x44 (.int .i64 1)) fun v52x45 =>
      ob (vInt .sub v52x45 (σ25 5)) fun v54x46 =>
      ob (vIx 1 v44x39 v54x46) fun v55x47 =>
      ob (vLoad v55x47 H25) fun v56x48 =>
      ob (vIx 1 v32x31 v40x36) fun v57x49 =>
      st 1 v57x49 v56x48 H25 fun H50 =>
      ob (vInt .add (σ25 5) (.int .i64 1)) fun v30x51 =>
      Q25 .normal (up (up (up (up (up (up (up (up (up (up (up (up (up (up (up (up (up (up (up (up (up (up (up (up (up (up (up (up (up (up (up (up (up (up (up (up σ25 23 (σ25 5)) 24 (σ25 0)) 25 v25x26) 26 v26x27) 27 v27x28) 28 v28x29) 31 v31x30) 32 v32x31) 33 (σ25 4)) 34 (σ25 0)) 35 v35x32) 36 v36x33) 37 v37x34) 38 v38x35) 39 (σ25 5)) 40 v40x36) 41 (σ25 0)) 42 v42x37) 43 v43x38) 44 v44x39) 45 (σ25 4)) 46 v46x40) 47 (σ25 0)) 48 v48x41) 49 v49x42) 50 v50x43) 51 v51x44) 52 v52x45) 53 (σ25 5)) 54 v54x46) 55 v55x47) 56 v56x48) 57 v57x49) 29 (σ25 5)) 30 v30x51) 5 v30x51) H50)
        (Q25 (.exit 2) (up (up (up (up (up (up σ25 23 (σ25 5)) 24 (σ25 0)) 25 v25x26) 26 v26x27) 27 v27x28) 28 v28x29) H25)) (blkQ 2 (blkQ 1 (thenQ J23 Q18))) (up (up (up (up (up (up (up σ18 15 (σ18 4)) 16 (σ18 0)) 17 v17x19) 18 v18x20) 19 v19x21) 20 v20x22) 5 (.int .i64 0)) H18)
      (Q18 (.exit 0) (up (up (up (up (up (up σ18 15 (σ18 4)) 16 (σ18 0)) 17 v17x19) 18 v18x20) 19 v19x21) 20 v20x22) H18)) (blkQ 0 (thenQ J14 (retQ prg [(.cell 2 36)] K))) (up (up (up (up (up (up (up (up (up (up (up (up (S0 [a0]) 2 v2x1) 6 a0) 7 v7x3) 8 v8x4) 9 v9x5) 10 a0) 11 v11x6) 12 v12x7) 13 v13x8) 14 v14x9) 3 v3x11) 4 (.int .i64 0)) H13)
def O.spec_l05Mirror : Nat → Nat × List Nat := fun i => bif Nat.beq i 1 then (0, [0, 1, 2, 3, 4, 5, 6, 7, 8, 9, 10]) else bif Nat.beq i 8 then (0, [0, 1, 2, 3, 4, 5, 6, 7, 8, 9, 10, 11, 12, 13, 14, 15, 16, 17, 18, 19, 20, 21, 22, 23, 24, 25, 26, 27]) else (0, [])
theorem R.spec_l05Mirror {a0 : Value} {H : Hp} {K : Value → Hp → Prop} (h : F.spec_l05Mirror a0 H K) : HT prg I.spec_l05Mirror [a0].toArray H K :=
  HT_of_fev O.spec_l05Mirror mixed Tryz.func141 (by kernel_rfl) (Eq.mpr (by kernel_rfl : fev prg O.spec_l05Mirror Tryz.f141 [a0] H K = F.spec_l05Mirror a0 H K) h)

/-! loop.example/g01381/spec.l05Images: function 111 -/
def F.spec_l05Images (a0 : Value) (H : Hp) (K : Value → Hp → Prop) : Prop :=
  bS 3 0 #[(.int .i64 0), (.int .i64 0), (.slice none 0 0)] 36 [] H fun v7x1 H2 =>
  ob (vNilC a0) fun v10x3 =>
  ob (vFa 0 v10x3) fun v11x4 =>
  ob (vLoad v11x4 H2) fun v12x5 =>
  ob (vNilC a0) fun v14x6 =>
  ob (vFa 1 v14x6) fun v15x7 =>
  ob (vLoad v15x7 H2) fun v16x8 =>
  HT prg I.spec_l05Cut [a0, (.int .i64 0), (.int .i64 0), v12x5, v16x8].toArray H2 fun v17x9 H10 =>
  Le H2 H10 ∧ (nw #[(.int .i64 0), (.int .i64 0), (.slice none 0 0)] 36 H10 fun v4x11 H12 =>
  st 3 v4x11 v17x9 H12 fun H13 =>
  jn (fun σ14 H14 =>
    K (σ14 3) H14) fun J14 =>
  lpE (fun Q15 σ15 H15 =>
    ob (vInt .lss (σ15 5) (.int .i64 2)) fun v19x16 =>
    cnd v19x16
      (jn (fun σ17 H17 =>
      ob (vInt .add (σ17 5) (.int .i64 1)) fun v21x18 =>
      Q15 .normal (up (up (up σ17 20 (σ17 5)) 21 v21x18) 5 v21x18) H17) fun J17 =>
    jn (fun σ19 H19 =>
      HT prg I.spec_l05Mirror [(σ19 0)].toArray H19 fun v32x20 H21 =>
      st 3 (σ19 4) v32x20 H21 fun H22 =>
      J17 (up (up σ19 31 (σ19 0)) 32 v32x20) H22) fun J19 =>
    lpE (fun Q23 σ23 H23 =>
      ob (vInt .lss (σ23 6) (.int .i64 4)) fun v23x24 =>
      cnd v23x24
        (ob (vLoadN 3 (σ23 4) H23) fun v27x25 =>
      bS 3 1 #[(.int .i64 0), (.int .i64 0), (.slice none 0 0)] 36 [(0, v27x25)] H23 fun v28x26 H27 =>
      apd 3 40 #[(.int .i64 0), (.int .i64 0), (.slice none 0 0)] 36 (σ23 3) v28x26 H27 fun v29x28 H29 =>
      HT prg I.spec_l05Turn [(σ23 4)].toArray H29 fun v30x30 H31 =>
      st 3 (σ23 4) v30x30 H31 fun H32 =>
      ob (vInt .add (σ23 6) (.int .i64 1)) fun v25x33 =>
      Q23 .normal (up (up (up (up (up (up (up (up (up (up (up σ23 22 (σ23 6)) 23 v23x24) 26 (σ23 3)) 27 v27x25) 28 v28x26) 29 v29x28) 3 v29x28) 30 v30x30) 24 (σ23 6)) 25 v25x33) 6 v25x33) H32)
        (Q23 (.exit 2) (up (up σ23 22 (σ23 6)) 23 v23x24) H23)) (blkQ 2 (thenQ J19 (blkQ 1 (thenQ J17 Q15)))) (up (up (up σ15 18 (σ15 5)) 19 v19x16) 6 (.int .i64 0)) H15)
      (Q15 (.exit 0) (up (up σ15 18 (σ15 5)) 19 v19x16) H15)) (blkQ 0 (thenQ J14 (retQ prg [(.tmp 2)] K))) (up (up (up (up (up (up (up (up (up (up (up (up (up (up (up (S0 [a0]) 2 (.slice none 0 0)) 7 v7x1) 3 v7x1) 8 a0) 9 a0) 10 v10x3) 11 v11x4) 12 v12x5) 13 a0) 14 v14x6) 15 v15x7) 16 v16x8) 17 v17x9) 4 v4x11) 5 (.int .i64 0)) H13)
def O.spec_l05Images : Nat → Nat × List Nat := fun i => bif Nat.beq i 2 then (0, [0, 1, 2, 3, 4, 5, 6, 7, 8, 9, 10, 11]) else (0, [])
theorem R.spec_l05Images {a0 : Value} {H : Hp} {K : Value → Hp → Prop} (h : F.spec_l05Images a0 H K) : HT prg I.spec_l05Images [a0].toArray H K :=
  HT_of_fev O.spec_l05Images mixed Tryz.func111 (by kernel_rfl) (Eq.mpr (by kernel_rfl : fev prg O.spec_l05Images Tryz.f111 [a0] H K = F.spec_l05Images a0 H K) h)

/-! loop.example/g01381/spec.l05Number: function 142 -/
def F.spec_l05Number (a0 : Value) (H : Hp) (K : Value → Hp → Prop) : Prop :=
  ob (vInt .lss a0 (.int .i64 10)) fun v4x1 =>
  cnd v4x1
    (ob (vInt .add (.int .i64 48) a0) fun v6x2 =>
    ob (vCI .u8 v6x2) fun v7x3 =>
    bS 1 1 #[(.int .u8 0)] 5 [(0, v7x3)] H fun v8x4 H5 =>
    ob (val prg (convert 22 9 v8x4) H5) fun v9x6 =>
    K v9x6 H5)
    ((ob (vInt .quo a0 (.int .i64 10)) fun v11x7 =>
  ob (vInt .rem a0 (.int .i64 10)) fun v14x8 =>
  ob (vInt .add (.int .i64 48) v14x8) fun v15x9 =>
  ob (vCI .u8 v15x9) fun v16x10 =>
  HT prg I.spec_l05Number [v11x7].toArray H fun v12x11 H12 =>
  Le H H12 ∧ (bS 1 1 #[(.int .u8 0)] 5 [(0, v16x10)] H12 fun v17x13 H14 =>
  ob (val prg (convert 22 9 v17x13) H14) fun v18x15 =>
  ob (vStr .add v12x11 v18x15) fun v19x16 =>
  K v19x16 H14)) ∧ (ob (vInt .quo a0 (.int .i64 10)) fun v11x17 =>
  ob (vInt .rem a0 (.int .i64 10)) fun v14x18 =>
  ob (vInt .add (.int .i64 48) v14x18) fun v15x19 =>
  ob (vCI .u8 v15x19) fun v16x20 =>
  bS 1 1 #[(.int .u8 0)] 5 [(0, v16x20)] H fun v17x21 H22 =>
  ob (val prg (convert 22 9 v17x21) H22) fun v18x23 =>
  HT prg I.spec_l05Number [v11x17].toArray H22 fun v12x24 H25 =>
  Le H22 H25 ∧ (ob (vStr .add v12x24 v18x23) fun v19x26 =>
  K v19x26 H25)))
def O.spec_l05Number : Nat → Nat × List Nat := fun i => bif Nat.beq i 3 then (0, [1002, 1008, 0, 1, 3, 4, 5, 6, 2, 7, 8, 9, 10, 0, 1, 3, 4, 5, 6, 7, 8, 2, 9, 10]) else (0, [])
theorem R.spec_l05Number {a0 : Value} {H : Hp} {K : Value → Hp → Prop} (h : F.spec_l05Number a0 H K) : HT prg I.spec_l05Number [a0].toArray H K :=
  HT_of_fev O.spec_l05Number mixed Tryz.func142 (by kernel_rfl) (Eq.mpr (by kernel_rfl : fev prg O.spec_l05Number Tryz.f142 [a0] H K = F.spec_l05Number a0 H K) h)

/-! loop.example/g01381/spec.l05Write: function 112 -/
def F.spec_l05Write (a0 : Value) (H : Hp) (K : Value → Hp → Prop) : Prop :=
  ob (vNilC a0) fun v10x1 =>
  ob (vFa 1 v10x1) fun v11x2 =>
  ob (vLoad v11x2 H) fun v12x3 =>
  ob (vNilC a0) fun v16x4 =>
  ob (vFa 0 v16x4) fun v17x5 =>
  ob (vLoad v17x5 H) fun v18x6 =>
  HT prg I.spec_l05Number [v12x3].toArray H fun v13x7 H8 =>
  Le H H8 ∧ (ob (vStr .add v13x7 (.string ⟨#[44]⟩)) fun v14x9 =>
  HT prg I.spec_l05Number [v18x6].toArray H8 fun v19x10 H11 =>
  Le H8 H11 ∧ (ob (vStr .add v14x9 v19x10) fun v20x12 =>
  ob (vStr .add v20x12 (.string ⟨#[58]⟩)) fun v21x13 =>
  jn (fun σ14 H14 =>
    ob (vStr .add (σ14 3) (.string ⟨#[33]⟩)) fun v108x15 =>
    K v108x15 H14) fun J14 =>
  lpE (fun Q16 σ16 H16 =>
    ob (vNilC (σ16 0)) fun v24x17 =>
    ob (vFa 0 v24x17) fun v25x18 =>
    ob (vLoad v25x18 H16) fun v26x19 =>
    ob (vInt .lss (σ16 4) v26x19) fun v27x20 =>
    cnd v27x20
      (jn (fun σ21 H21 =>
      ob (vInt .add (σ21 4) (.int .i64 1)) fun v29x22 =>
      Q16 .normal (up (up (up σ21 28 (σ21 4)) 29 v29x22) 4 v29x22) H21) fun J21 =>
    jn (fun σ23 H23 =>
      ob (vNilC (σ23 0)) fun v35x24 =>
      ob (vFa 2 v35x24) fun v36x25 =>
      ob (vLoad v36x25 H23) fun v37x26 =>
      ob (vNilC (σ23 0)) fun v40x27 =>
      ob (vFa 1 v40x27) fun v41x28 =>
      ob (vLoad v41x28 H23) fun v42x29 =>
      ob (vInt .mul (σ23 4) v42x29) fun v43x30 =>
      ob (vInt .add (σ23 4) (.int .i64 1)) fun v45x31 =>
      ob (vNilC (σ23 0)) fun v47x32 =>
      ob (vFa 1 v47x32) fun v48x33 =>
      ob (vLoad v48x33 H23) fun v49x34 =>
      ob (vInt .mul v45x31 v49x34) fun v50x35 =>
      ob (vSl3 1 v37x26 (some v43x30) (some v50x35) none) fun v51x36 =>
      ob (vLenSl v51x36) fun v53x37 =>
      jn (fun σ38 H38 =>
        lpE (fun Q39 σ39 H39 =>
          ob (vInt .lss (σ39 7) (σ39 6)) fun v68x40 =>
          cnd v68x40
            (jn (fun σ41 H41 =>
            ob (vInt .gtr (σ41 8) (.int .i64 1)) fun v90x42 =>
            cnd v90x42
              (HT prg I.spec_l05Number [(σ41 8)].toArray H41 fun v93x43 H44 =>
              ob (vStr .add (σ41 3) v93x43) fun v94x45 =>
              ob (vIx 1 (σ41 5) (σ41 7)) fun v97x46 =>
            ob (vLoad v97x46 H44) fun v98x47 =>
            ob (vInt .eql v98x47 (.int .i64 1)) fun v99x48 =>
            cnd v99x48
              (ob (vStr .add v94x45 (.string ⟨#[111]⟩)) fun v101x49 =>
              ob (vInt .add (σ41 7) (σ41 8)) fun v106x50 =>
            Q39 .normal (up (up (up (up (up (up (up (up (up (up (up (up (up (up (up (up (up (up (up σ41 89 (σ41 8)) 90 v90x42) 91 (σ41 3)) 92 (σ41 8)) 93 v93x43) 94 v94x45) 3 v94x45) 95 (σ41 5)) 96 (σ41 7)) 97 v97x46) 98 v98x47) 99 v99x48) 100 v94x45) 101 v101x49) 3 v101x49) 104 (σ41 7)) 105 (σ41 8)) 106 v106x50) 7 v106x50) H44)
              (ob (vStr .add v94x45 (.string ⟨#[98]⟩)) fun v103x51 =>
              ob (vInt .add (σ41 7) (σ41 8)) fun v106x52 =>
            Q39 .normal (up (up (up (up (up (up (up (up (up (up (up (up (up (up (up (up (up (up (up σ41 89 (σ41 8)) 90 v90x42) 91 (σ41 3)) 92 (σ41 8)) 93 v93x43) 94 v94x45) 3 v94x45) 95 (σ41 5)) 96 (σ41 7)) 97 v97x46) 98 v98x47) 99 v99x48) 102 v94x45) 103 v103x51) 3 v103x51) 104 (σ41 7)) 105 (σ41 8)) 106 v106x52) 7 v106x52) H44))
              (ob (vIx 1 (σ41 5) (σ41 7)) fun v97x53 =>
            ob (vLoad v97x53 H41) fun v98x54 =>
            ob (vInt .eql v98x54 (.int .i64 1)) fun v99x55 =>
            cnd v99x55
              (ob (vStr .add (σ41 3) (.string ⟨#[111]⟩)) fun v101x56 =>
              ob (vInt .add (σ41 7) (σ41 8)) fun v106x57 =>
            Q39 .normal (up (up (up (up (up (up (up (up (up (up (up (up (up (up σ41 89 (σ41 8)) 90 v90x42) 95 (σ41 5)) 96 (σ41 7)) 97 v97x53) 98 v98x54) 99 v99x55) 100 (σ41 3)) 101 v101x56) 3 v101x56) 104 (σ41 7)) 105 (σ41 8)) 106 v106x57) 7 v106x57) H41)
              (ob (vStr .add (σ41 3) (.string ⟨#[98]⟩)) fun v103x58 =>
              ob (vInt .add (σ41 7) (σ41 8)) fun v106x59 =>
            Q39 .normal (up (up (up (up (up (up (up (up (up (up (up (up (up (up σ41 89 (σ41 8)) 90 v90x42) 95 (σ41 5)) 96 (σ41 7)) 97 v97x53) 98 v98x54) 99 v99x55) 102 (σ41 3)) 103 v103x58) 3 v103x58) 104 (σ41 7)) 105 (σ41 8)) 106 v106x59) 7 v106x59) H41))) fun J41 =>
          lpE (fun Q60 σ60 H60 =>
            ob (vInt .add (σ60 7) (σ60 8)) fun v71x61 =>
            ob (vInt .lss v71x61 (σ60 6)) fun v73x62 =>
            gop v73x62 true (fun K63 => K63 (σ60 5) H60) H60 fun v75x64 H65 =>
            gop v73x62 true (fun K66 => K66 (σ60 7) H65) H65 fun v76x67 H68 =>
            gop v73x62 true (fun K69 => K69 (σ60 8) H68) H68 fun v77x70 H71 =>
            gop v73x62 true (fun K72 => ob (vInt .add v76x67 v77x70) fun u => K72 u H71) H71 fun v78x73 H74 =>
            gop v73x62 true (fun K75 => ob (vIx 1 v75x64 v78x73) fun u => K75 u H74) H74 fun v79x76 H77 =>
            gop v73x62 true (fun K78 => ob (vLoad v79x76 H77) fun u => K78 u H77) H77 fun v80x79 H80 =>
            gop v73x62 true (fun K81 => K81 (σ60 5) H80) H80 fun v81x82 H83 =>
            gop v73x62 true (fun K84 => K84 (σ60 7) H83) H83 fun v82x85 H86 =>
            gop v73x62 true (fun K87 => ob (vIx 1 v81x82 v82x85) fun u => K87 u H86) H86 fun v83x88 H89 =>
            gop v73x62 true (fun K90 => ob (vLoad v83x88 H89) fun u => K90 u H89) H89 fun v84x91 H92 =>
            gop v73x62 true (fun K93 => ob (vInt .eql v80x79 v84x91) fun u => K93 u H92) H92 fun v85x94 H95 =>
            ob (vPick v73x62 v85x94 (.bool false)) fun v86x96 =>
            cnd v86x96
              (ob (vInt .add (σ60 8) (.int .i64 1)) fun v88x97 =>
            Q60 .normal (up (up (up (up (up (up (up (up (up (up (up (up (up (up (up (up (up (up (up (up (up σ60 69 (σ60 7)) 70 (σ60 8)) 71 v71x61) 72 (σ60 6)) 73 v73x62) 74 v73x62) 75 v75x64) 76 v76x67) 77 v77x70) 78 v78x73) 79 v79x76) 80 v80x79) 81 v81x82) 82 v82x85) 83 v83x88) 84 v84x91) 85 v85x94) 86 v86x96) 87 (σ60 8)) 88 v88x97) 8 v88x97) H95)
              (Q60 (.exit 6) (up (up (up (up (up (up (up (up (up (up (up (up (up (up (up (up (up (up σ60 69 (σ60 7)) 70 (σ60 8)) 71 v71x61) 72 (σ60 6)) 73 v73x62) 74 v73x62) 75 v75x64) 76 v76x67) 77 v77x70) 78 v78x73) 79 v79x76) 80 v80x79) 81 v81x82) 82 v82x85) 83 v83x88) 84 v84x91) 85 v85x94) 86 v86x96) H95)) (blkQ 6 (thenQ J41 (blkQ 5 Q39))) (up (up (up (up σ39 66 (σ39 7)) 67 (σ39 6)) 68 v68x40) 8 (.int .i64 1)) H39)
            (Q39 (.exit 4) (up (up (up σ39 66 (σ39 7)) 67 (σ39 6)) 68 v68x40) H39)) (blkQ 4 (blkQ 1 (thenQ J21 Q16))) (up σ38 7 (.int .i64 0)) H38) fun J38 =>
      lpE (fun Q98 σ98 H98 =>
        ob (vInt .gtr (σ98 6) (.int .i64 0)) fun v55x99 =>
        gop v55x99 true (fun K100 => K100 (σ98 5) H98) H98 fun v57x101 H102 =>
        gop v55x99 true (fun K103 => K103 (σ98 6) H102) H102 fun v58x104 H105 =>
        gop v55x99 true (fun K106 => ob (vInt .sub v58x104 (.int .i64 1)) fun u => K106 u H105) H105 fun v59x107 H108 =>
        gop v55x99 true (fun K109 => ob (vIx 1 v57x101 v59x107) fun u => K109 u H108) H108 fun v60x110 H111 =>
        gop v55x99 true (fun K112 => ob (vLoad v60x110 H111) fun u => K112 u H111) H111 fun v61x113 H114 =>
        gop v55x99 true (fun K115 => ob (vInt .eql v61x113 (.int .i64 0)) fun u => K115 u H114) H114 fun v62x116 H117 =>
        ob (vPick v55x99 v62x116 (.bool false)) fun v63x118 =>
        cnd v63x118
          (ob (vInt .sub (σ98 6) (.int .i64 1)) fun v65x119 =>
        Q98 .normal (up (up (up (up (up (up (up (up (up (up (up (up (up σ98 54 (σ98 6)) 55 v55x99) 56 v55x99) 57 v57x101) 58 v58x104) 59 v59x107) 60 v60x110) 61 v61x113) 62 v62x116) 63 v63x118) 64 (σ98 6)) 65 v65x119) 6 v65x119) H117)
          (Q98 (.exit 2) (up (up (up (up (up (up (up (up (up (up σ98 54 (σ98 6)) 55 v55x99) 56 v55x99) 57 v57x101) 58 v58x104) 59 v59x107) 60 v60x110) 61 v61x113) 62 v62x116) 63 v63x118) H117)) (blkQ 2 (thenQ J38 (blkQ 1 (thenQ J21 Q16)))) (up (up (up (up (up (up (up (up (up (up (up (up (up (up (up (up (up (up (up (up (up (up σ23 34 (σ23 0)) 35 v35x24) 36 v36x25) 37 v37x26) 38 (σ23 4)) 39 (σ23 0)) 40 v40x27) 41 v41x28) 42 v42x29) 43 v43x30) 44 (σ23 4)) 45 v45x31) 46 (σ23 0)) 47 v47x32) 48 v48x33) 49 v49x34) 50 v50x35) 51 v51x36) 5 v51x36) 52 v51x36) 53 v53x37) 6 v53x37) H23) fun J23 =>
    ob (vInt .gtr (σ16 4) (.int .i64 0)) fun v31x120 =>
    cnd v31x120
      (ob (vStr .add (σ16 3) (.string ⟨#[36]⟩)) fun v33x121 =>
      J23 (up (up (up (up (up (up (up (up (up (up (up σ16 22 (σ16 4)) 23 (σ16 0)) 24 v24x17) 25 v25x18) 26 v26x19) 27 v27x20) 30 (σ16 4)) 31 v31x120) 32 (σ16 3)) 33 v33x121) 3 v33x121) H16)
      (J23 (up (up (up (up (up (up (up (up σ16 22 (σ16 4)) 23 (σ16 0)) 24 v24x17) 25 v25x18) 26 v26x19) 27 v27x20) 30 (σ16 4)) 31 v31x120) H16))
      (Q16 (.exit 0) (up (up (up (up (up (up σ16 22 (σ16 4)) 23 (σ16 0)) 24 v24x17) 25 v25x18) 26 v26x19) 27 v27x20) H16)) (blkQ 0 (thenQ J14 (retQ prg [(.tmp 2)] K))) (up (up (up (up (up (up (up (up (up (up (up (up (up (up (up (up (S0 [a0]) 2 (.string ⟨#[]⟩)) 9 a0) 10 v10x1) 11 v11x2) 12 v12x3) 15 a0) 16 v16x4) 17 v17x5) 18 v18x6) 13 v13x7) 14 v14x9) 19 v19x10) 20 v20x12) 21 v21x13) 3 v21x13) 4 (.int .i64 0)) H11))
def O.spec_l05Write : Nat → Nat × List Nat := fun i => bif Nat.beq i 1 then (0, [0, 1, 2, 3, 6, 7, 8, 9, 4, 5, 10, 11, 12, 13]) else bif Nat.beq i 7 then (0, [0, 1, 2, 3, 4, 5, 6, 7, 8, 9, 10, 11, 12, 13, 14, 15, 16, 17, 18]) else bif Nat.beq i 14 then (0, [0, 1, 2, 3, 4, 5, 6, 7, 8, 9, 10, 11, 12, 13, 14, 15, 16, 17]) else (0, [])
theorem R.spec_l05Write {a0 : Value} {H : Hp} {K : Value → Hp → Prop} (h : F.spec_l05Write a0 H K) : HT prg I.spec_l05Write [a0].toArray H K :=
  HT_of_fev O.spec_l05Write mixed Tryz.func112 (by kernel_rfl) (Eq.mpr (by kernel_rfl : fev prg O.spec_l05Write Tryz.f112 [a0] H K = F.spec_l05Write a0 H K) h)

/-! loop.example/g01381/spec.l05Name: function 72 -/
def F.spec_l05Name (a0 : Value) (H : Hp) (K : Value → Hp → Prop) : Prop :=
  HT prg I.spec_l05Trim [a0].toArray H fun v13x1 H2 =>
  ob (vExt v13x1 0) fun v14x3 =>
  ob (vExt v13x1 1) fun v15x4 =>
  ob (vExt v13x1 2) fun v16x5 =>
  ob (vExt v13x1 3) fun v17x6 =>
  nw #[(.int .i64 0), (.int .i64 0), (.slice none 0 0)] 36 H2 fun v3x7 H8 =>
  st 3 v3x7 v14x3 H8 fun H9 =>
  ob (vUn .not v17x6) fun v19x10 =>
  cnd v19x10
    (K (.string ⟨#[]⟩) H9)
    (HT prg I.spec_l05Images [v3x7].toArray H9 fun v20x11 H12 =>
  jn (fun σ13 H13 =>
    K (σ13 8) H13) fun J13 =>
  ob (vLenSl v20x11) fun v22x14 =>
  lpE (fun Q15 σ15 H15 =>
    ob (vInt .lss (σ15 23) (σ15 22)) fun v24x16 =>
    cnd v24x16
      (ob (vIx 3 (σ15 7) (σ15 23)) fun v28x17 =>
    HT prg I.spec_l05Write [v28x17].toArray H15 fun v29x18 H19 =>
    ob (vInt .eql (σ15 23) (.int .i64 0)) fun v31x20 =>
    gop v31x20 false (fun K21 => K21 v29x18 H19) H19 fun v33x22 H23 =>
    gop v31x20 false (fun K24 => K24 (σ15 8) H23) H23 fun v34x25 H26 =>
    gop v31x20 false (fun K27 => ob (vStr .lss v33x22 v34x25) fun u => K27 u H26) H26 fun v35x28 H29 =>
    ob (vPick v31x20 (.bool true) v35x28) fun v36x30 =>
    cnd v36x30
      (ob (vInt .add (σ15 23) (.int .i64 1)) fun v38x31 =>
    Q15 .normal (up (up (up (up (up (up (up (up (up (up (up (up (up (up (up (up (up (up (up σ15 24 v24x16) 25 (σ15 23)) 9 (σ15 23)) 26 (σ15 7)) 27 (σ15 23)) 28 v28x17) 29 v29x18) 10 v29x18) 30 (σ15 23)) 31 v31x20) 32 v31x20) 33 v33x22) 34 v34x25) 35 v35x28) 36 v36x30) 37 v29x18) 8 v29x18) 38 v38x31) 23 v38x31) H29)
      (ob (vInt .add (σ15 23) (.int .i64 1)) fun v38x32 =>
    Q15 .normal (up (up (up (up (up (up (up (up (up (up (up (up (up (up (up (up (up σ15 24 v24x16) 25 (σ15 23)) 9 (σ15 23)) 26 (σ15 7)) 27 (σ15 23)) 28 v28x17) 29 v29x18) 10 v29x18) 30 (σ15 23)) 31 v31x20) 32 v31x20) 33 v33x22) 34 v34x25) 35 v35x28) 36 v36x30) 38 v38x32) 23 v38x32) H29))
      (Q15 (.exit 0) (up σ15 24 v24x16) H15)) (blkQ 0 (thenQ J13 (retQ prg [(.tmp 2)] K))) (up (up (up (up (up (up (up (up (up (up (up (up (up (up (up (up (up (up (up (up (S0 [a0]) 2 (.string ⟨#[]⟩)) 12 a0) 13 v13x1) 11 v13x1) 14 v14x3) 15 v15x4) 16 v16x5) 17 v17x6) 3 v3x7) 4 v15x4) 5 v16x5) 6 v17x6) 18 v17x6) 19 v19x10) 20 v20x11) 7 v20x11) 8 (.string ⟨#[]⟩)) 21 v20x11) 22 v22x14) 23 (.int .i64 0)) H12)
def O.spec_l05Name : Nat → Nat × List Nat := fun i => (0, [])
theorem R.spec_l05Name {a0 : Value} {H : Hp} {K : Value → Hp → Prop} (h : F.spec_l05Name a0 H K) : HT prg I.spec_l05Name [a0].toArray H K :=
  HT_of_fev O.spec_l05Name mixed Tryz.func72 (by kernel_rfl) (Eq.mpr (by kernel_rfl : fev prg O.spec_l05Name Tryz.f72 [a0] H K = F.spec_l05Name a0 H K) h)

/-! loop.example/g01381/spec.l05Census: function 29 -/
def F.spec_l05Census (a0 : Value) (H : Hp) (K : Value → Hp → Prop) : Prop :=
  HT prg I.spec_l05Parts [a0].toArray H fun v16x1 H2 =>
  ob (vExt v16x1 0) fun v17x3 =>
  ob (vExt v16x1 1) fun v18x4 =>
  bS 1 0 #[(.string ⟨#[]⟩)] 9 [] H2 fun v19x5 H6 =>
  bS 1 0 #[(.int .i64 0)] 2 [] H6 fun v20x7 H8 =>
  jn (fun σ9 H9 =>
    ob (vLenSl (σ9 7)) fun v91x10 =>
    ob (vInt .leq v91x10 (.int .i64 64)) fun v92x11 =>
    K (.tuple #[(σ9 7), (σ9 8), v92x11]) H9) fun J9 =>
  ob (vLenSl v17x3) fun v22x12 =>
  lpE (fun Q13 σ13 H13 =>
    ob (vInt .lss (σ13 23) (σ13 22)) fun v24x14 =>
    cnd v24x14
      (jn (fun σ15 H15 =>
      ob (vInt .add (σ15 23) (.int .i64 1)) fun v87x16 =>
      Q13 .normal (up (up σ15 87 v87x16) 23 v87x16) H15) fun J15 =>
    ob (vIx 3 (σ13 5) (σ13 23)) fun v28x17 =>
    HT prg I.spec_l05Name [v28x17].toArray H13 fun v29x18 H19 =>
    jn (fun σ20 H20 =>
      ob (vLenSl (σ20 7)) fun v46x21 =>
      ob (vInt .lss (σ20 11) v46x21) fun v47x22 =>
      gop v47x22 true (fun K23 => K23 (σ20 7) H20) H20 fun v49x24 H25 =>
      gop v47x22 true (fun K26 => K26 (σ20 11) H25) H25 fun v50x27 H28 =>
      gop v47x22 true (fun K29 => ob (vIx 1 v49x24 v50x27) fun u => K29 u H28) H28 fun v51x30 H31 =>
      gop v47x22 true (fun K32 => ob (vLoad v51x30 H31) fun u => K32 u H31) H31 fun v52x33 H34 =>
      gop v47x22 true (fun K35 => K35 (σ20 10) H34) H34 fun v53x36 H37 =>
      gop v47x22 true (fun K38 => ob (vStr .eql v52x33 v53x36) fun u => K38 u H37) H37 fun v54x39 H40 =>
      ob (vPick v47x22 v54x39 (.bool false)) fun v55x41 =>
      cnd v55x41
        (ob (vIx 1 (σ20 8) (σ20 11)) fun v58x42 =>
        ob (vLoad v58x42 H40) fun v59x43 =>
        ob (vInt .add v59x43 (.int .i64 1)) fun v60x44 =>
        ob (vIx 1 (σ20 8) (σ20 11)) fun v61x45 =>
        st 1 v61x45 v60x44 H40 fun H46 =>
        J15 (up (up (up (up (up (up (up (up (up (up (up (up (up (up (up (up (up (up σ20 44 (σ20 11)) 45 (σ20 7)) 46 v46x21) 47 v47x22) 48 v47x22) 49 v49x24) 50 v50x27) 51 v51x30) 52 v52x33) 53 v53x36) 54 v54x39) 55 v55x41) 56 (σ20 8)) 57 (σ20 11)) 58 v58x42) 59 v59x43) 60 v60x44) 61 v61x45) H46)
        (bS 1 0 #[(.string ⟨#[]⟩)] 9 [] H40 fun v62x47 H48 =>
      ob (vSl3 1 (σ20 7) none (some (σ20 11)) none) fun v65x49 =>
      apd 1 16 #[(.string ⟨#[]⟩)] 9 v62x47 v65x49 H48 fun v66x50 H51 =>
      bS 1 1 #[(.string ⟨#[]⟩)] 9 [(0, (σ20 10))] H51 fun v68x52 H53 =>
      apd 1 16 #[(.string ⟨#[]⟩)] 9 v66x50 v68x52 H53 fun v69x54 H55 =>
      ob (vSl3 1 (σ20 7) (some (σ20 11)) none none) fun v73x56 =>
      apd 1 16 #[(.string ⟨#[]⟩)] 9 v69x54 v73x56 H55 fun v74x57 H58 =>
      bS 1 0 #[(.int .i64 0)] 2 [] H58 fun v75x59 H60 =>
      ob (vSl3 1 (σ20 8) none (some (σ20 11)) none) fun v78x61 =>
      apd 1 8 #[(.int .i64 0)] 2 v75x59 v78x61 H60 fun v79x62 H63 =>
      bS 1 1 #[(.int .i64 0)] 2 [(0, (.int .i64 1))] H63 fun v80x64 H65 =>
      apd 1 8 #[(.int .i64 0)] 2 v79x62 v80x64 H65 fun v81x66 H67 =>
      ob (vSl3 1 (σ20 8) (some (σ20 11)) none none) fun v85x68 =>
      apd 1 8 #[(.int .i64 0)] 2 v81x66 v85x68 H67 fun v86x69 H70 =>
      J15 (up (up (up (up (up (up (up (up (up (up (up (up (up (up (up (up (up (up (up (up (up (up (up (up (up (up (up (up (up (up (up (up (up (up (up (up (up (up (up (up (up σ20 44 (σ20 11)) 45 (σ20 7)) 46 v46x21) 47 v47x22) 48 v47x22) 49 v49x24) 50 v50x27) 51 v51x30) 52 v52x33) 53 v53x36) 54 v54x39) 55 v55x41) 62 v62x47) 63 (σ20 7)) 64 (σ20 11)) 65 v65x49) 66 v66x50) 67 (σ20 10)) 68 v68x52) 69 v69x54) 12 v69x54) 70 v69x54) 71 (σ20 7)) 72 (σ20 11)) 73 v73x56) 74 v74x57) 7 v74x57) 75 v75x59) 76 (σ20 8)) 77 (σ20 11)) 78 v78x61) 79 v79x62) 80 v80x64) 81 v81x66) 13 v81x66) 82 v81x66) 83 (σ20 8)) 84 (σ20 11)) 85 v85x68) 86 v86x69) 8 v86x69) H70)) fun J20 =>
    lpE (fun Q71 σ71 H71 =>
      ob (vLenSl (σ71 7)) fun v32x72 =>
      ob (vInt .lss (σ71 11) v32x72) fun v33x73 =>
      gop v33x73 true (fun K74 => K74 (σ71 7) H71) H71 fun v35x75 H76 =>
      gop v33x73 true (fun K77 => K77 (σ71 11) H76) H76 fun v36x78 H79 =>
      gop v33x73 true (fun K80 => ob (vIx 1 v35x75 v36x78) fun u => K80 u H79) H79 fun v37x81 H82 =>
      gop v33x73 true (fun K83 => ob (vLoad v37x81 H82) fun u => K83 u H82) H82 fun v38x84 H85 =>
      gop v33x73 true (fun K86 => K86 (σ71 10) H85) H85 fun v39x87 H88 =>
      gop v33x73 true (fun K89 => ob (vStr .lss v38x84 v39x87) fun u => K89 u H88) H88 fun v40x90 H91 =>
      ob (vPick v33x73 v40x90 (.bool false)) fun v41x92 =>
      cnd v41x92
        (ob (vInt .add (σ71 11) (.int .i64 1)) fun v43x93 =>
      Q71 .normal (up (up (up (up (up (up (up (up (up (up (up (up (up (up (up σ71 30 (σ71 11)) 31 (σ71 7)) 32 v32x72) 33 v33x73) 34 v33x73) 35 v35x75) 36 v36x78) 37 v37x81) 38 v38x84) 39 v39x87) 40 v40x90) 41 v41x92) 42 (σ71 11)) 43 v43x93) 11 v43x93) H91)
        (Q71 (.exit 2) (up (up (up (up (up (up (up (up (up (up (up (up σ71 30 (σ71 11)) 31 (σ71 7)) 32 v32x72) 33 v33x73) 34 v33x73) 35 v35x75) 36 v36x78) 37 v37x81) 38 v38x84) 39 v39x87) 40 v40x90) 41 v41x92) H91)) (blkQ 2 (thenQ J20 (blkQ 1 (thenQ J15 Q13)))) (up (up (up (up (up (up (up (up (up σ13 24 v24x14) 25 (σ13 23)) 9 (σ13 23)) 26 (σ13 5)) 27 (σ13 23)) 28 v28x17) 29 v29x18) 10 v29x18) 11 (.int .i64 0)) H19)
      (Q13 (.exit 0) (up σ13 24 v24x14) H13)) (blkQ 0 (thenQ J9 (retQ prg [(.tmp 2), (.tmp 3), (.tmp 4)] K))) (up (up (up (up (up (up (up (up (up (up (up (up (up (up (up (up (up (S0 [a0]) 2 (.slice none 0 0)) 3 (.slice none 0 0)) 4 (.bool false)) 15 a0) 16 v16x1) 14 v16x1) 17 v17x3) 18 v18x4) 5 v17x3) 6 v18x4) 19 v19x5) 7 v19x5) 20 v20x7) 8 v20x7) 21 v17x3) 22 v22x12) 23 (.int .i64 0)) H8
def O.spec_l05Census : Nat → Nat × List Nat := fun i => (0, [])
theorem R.spec_l05Census {a0 : Value} {H : Hp} {K : Value → Hp → Prop} (h : F.spec_l05Census a0 H K) : HT prg I.spec_l05Census [a0].toArray H K :=
  HT_of_fev O.spec_l05Census mixed Tryz.func29 (by kernel_rfl) (Eq.mpr (by kernel_rfl : fev prg O.spec_l05Census Tryz.f29 [a0] H K = F.spec_l05Census a0 H K) h)

/-! loop.example/g01381/spec.SoupOf: function 9 -/
def F.spec_SoupOf (a0 a1 a2 a3 a4 : Value) (H : Hp) (K : Value → Hp → Prop) : Prop :=
  nw (a0 : Value).cells 26 H fun v5x1 H2 =>
  HT prg I.spec_l05Soup [v5x1, a1, a2, a3, a4].toArray H2 fun v25x3 H4 =>
  ob (vExt v25x3 0) fun v26x5 =>
  ob (vExt v25x3 1) fun v27x6 =>
  ob (vExt v25x3 2) fun v28x7 =>
  nw #[(.int .i64 0), (.int .i64 0), (.slice none 0 0)] 36 H4 fun v14x8 H9 =>
  st 3 v14x8 v26x5 H9 fun H10 =>
  ob (vUn .not v28x7) fun v30x11 =>
  cnd v30x11
    (K (.tuple #[(.slice none 0 0), (.slice none 0 0), (.int .i64 0), (.bool false)]) H10)
    (HT prg I.spec_l05Census [v14x8].toArray H10 fun v32x12 H13 =>
  ob (vExt v32x12 0) fun v33x14 =>
  ob (vExt v32x12 1) fun v34x15 =>
  ob (vExt v32x12 2) fun v35x16 =>
  ob (vUn .not v35x16) fun v37x17 =>
  cnd v37x17
    (K (.tuple #[(.slice none 0 0), (.slice none 0 0), (.int .i64 0), (.bool false)]) H13)
    (K (.tuple #[v33x14, v34x15, v27x6, (.bool true)]) H13))
def O.spec_SoupOf : Nat → Nat × List Nat := fun i => (0, [])
theorem R.spec_SoupOf {a0 a1 a2 a3 a4 : Value} {H : Hp} {K : Value → Hp → Prop} (h : F.spec_SoupOf a0 a1 a2 a3 a4 H K) : HT prg I.spec_SoupOf [a0, a1, a2, a3, a4].toArray H K :=
  HT_of_fev O.spec_SoupOf mixed Tryz.func9 (by kernel_rfl) (Eq.mpr (by kernel_rfl : fev prg O.spec_SoupOf Tryz.f9 [a0, a1, a2, a3, a4] H K = F.spec_SoupOf a0 a1 a2 a3 a4 H K) h)

/-! loop.example/g01381/impl.areWorkers: function 34 -/
def F.impl_areWorkers (a0 : Value) (H : Hp) (K : Value → Hp → Prop) : Prop :=
  HT prg I.impl_within [a0, (.int .i64 1), (.int .i64 8)].toArray H fun v4x1 H2 =>
  K v4x1 H2
def O.impl_areWorkers : Nat → Nat × List Nat := fun i => (0, [])
theorem R.impl_areWorkers {a0 : Value} {H : Hp} {K : Value → Hp → Prop} (h : F.impl_areWorkers a0 H K) : HT prg I.impl_areWorkers [a0].toArray H K :=
  HT_of_fev O.impl_areWorkers mixed Tryz.func34 (by kernel_rfl) (Eq.mpr (by kernel_rfl : fev prg O.impl_areWorkers Tryz.f34 [a0] H K = F.impl_areWorkers a0 H K) h)

/-! (loop.example/g01381/impl.Field).count: function 35 -/
def F.impl_Field_count (a0 a1 : Value) (H : Hp) (K : Value → Hp → Prop) : Prop :=
  nw (a0 : Value).cells 36 H fun v2x1 H2 =>
  jn (fun σ3 H3 =>
    K (σ3 5) H3) fun J3 =>
  ob (vFa 2 v2x1) fun v8x4 =>
  ob (vLoad v8x4 H2) fun v9x5 =>
  ob (vLenSl v9x5) fun v10x6 =>
  lpE (fun Q7 σ7 H7 =>
    ob (vInt .lss (σ7 11) (σ7 10)) fun v12x8 =>
    cnd v12x8
      (ob (vIx 1 (σ7 9) (σ7 11)) fun v13x9 =>
    ob (vLoad v13x9 H7) fun v14x10 =>
    ob (vInt .eql v14x10 (σ7 1)) fun v17x11 =>
    cnd v17x11
      (ob (vInt .add (σ7 5) (.int .i64 1)) fun v19x12 =>
      ob (vInt .add (σ7 11) (.int .i64 1)) fun v20x13 =>
    Q7 .normal (up (up (up (up (up (up (up (up (up (up (up (up σ7 12 v12x8) 13 v13x9) 14 v14x10) 7 v14x10) 15 v14x10) 16 (σ7 1)) 17 v17x11) 18 (σ7 5)) 19 v19x12) 5 v19x12) 20 v20x13) 11 v20x13) H7)
      (ob (vInt .add (σ7 11) (.int .i64 1)) fun v20x14 =>
    Q7 .normal (up (up (up (up (up (up (up (up (up σ7 12 v12x8) 13 v13x9) 14 v14x10) 7 v14x10) 15 v14x10) 16 (σ7 1)) 17 v17x11) 20 v20x14) 11 v20x14) H7))
      (Q7 (.exit 0) (up σ7 12 v12x8) H7)) (blkQ 0 (thenQ J3 (retQ prg [(.tmp 4)] K))) (up (up (up (up (up (up (up (S0 [a0, a1]) 2 v2x1) 4 (.int .i64 0)) 5 (.int .i64 0)) 8 v8x4) 9 v9x5) 10 v10x6) 11 (.int .i64 0)) H2
def O.impl_Field_count : Nat → Nat × List Nat := fun i => (0, [])
theorem R.impl_Field_count {a0 a1 : Value} {H : Hp} {K : Value → Hp → Prop} (h : F.impl_Field_count a0 a1 H K) : HT prg I.impl_Field_count [a0, a1].toArray H K :=
  HT_of_fev O.impl_Field_count mixed Tryz.func35 (by kernel_rfl) (Eq.mpr (by kernel_rfl : fev prg O.impl_Field_count Tryz.f35 [a0, a1] H K = F.impl_Field_count a0 a1 H K) h)

/-! loop.example/g01381/impl.SoupsShared: function 10 -/
def F.impl_SoupsShared (a0 a1 a2 a3 a4 a5 : Value) (H : Hp) (K : Value → Hp → Prop) : Prop :=
  nw (a0 : Value).cells 26 H fun v6x1 H2 =>
  ob (vLoadN 2 v6x1 H2) fun v20x3 =>
  HT prg I.impl_ValidLife [v20x3].toArray H2 fun v21x4 H5 =>
  ob (vUn .not v21x4) fun v22x6 =>
  gop v22x6 false (fun K7 => K7 a1 H5) H5 fun v24x8 H9 =>
  gop v22x6 false (fun K10 => HT prg I.impl_isSide [v24x8].toArray H9 K10) H9 fun v25x11 H12 =>
  gop v22x6 false (fun K13 => ob (vUn .not v25x11) fun u => K13 u H12) H12 fun v26x14 H15 =>
  ob (vPick v22x6 (.bool true) v26x14) fun v27x16 =>
  gop v27x16 false (fun K17 => K17 a2 H15) H15 fun v29x18 H19 =>
  gop v27x16 false (fun K20 => HT prg I.impl_isShare [v29x18].toArray H19 K20) H19 fun v30x21 H22 =>
  gop v27x16 false (fun K23 => ob (vUn .not v30x21) fun u => K23 u H22) H22 fun v31x24 H25 =>
  ob (vPick v27x16 (.bool true) v31x24) fun v32x26 =>
  gop v32x26 false (fun K27 => K27 a3 H25) H25 fun v34x28 H29 =>
  gop v32x26 false (fun K30 => ob (vLenSl v34x28) fun u => K30 u H29) H29 fun v35x31 H32 =>
  gop v32x26 false (fun K33 => ob (vInt .gtr v35x31 (.int .i64 16)) fun u => K33 u H32) H32 fun v36x34 H35 =>
  ob (vPick v32x26 (.bool true) v36x34) fun v37x36 =>
  gop v37x36 false (fun K37 => K37 a4 H35) H35 fun v39x38 H39 =>
  gop v37x36 false (fun K40 => HT prg I.impl_within [v39x38, (.int .i64 0), (.int .i64 64)].toArray H39 K40) H39 fun v40x41 H42 =>
  gop v37x36 false (fun K43 => ob (vUn .not v40x41) fun u => K43 u H42) H42 fun v41x44 H45 =>
  ob (vPick v37x36 (.bool true) v41x44) fun v42x46 =>
  gop v42x46 false (fun K47 => K47 a5 H45) H45 fun v44x48 H49 =>
  gop v42x46 false (fun K50 => HT prg I.impl_areWorkers [v44x48].toArray H49 K50) H49 fun v45x51 H52 =>
  gop v42x46 false (fun K53 => ob (vUn .not v45x51) fun u => K53 u H52) H52 fun v46x54 H55 =>
  ob (vPick v42x46 (.bool true) v46x54) fun v47x56 =>
  cnd v47x56
    (K (.tuple #[(.slice none 0 0), (.bool false)]) H55)
    (bS 1 0 #[(.int .i64 0)] 2 [] H55 fun v48x57 H58 =>
  jn (fun σ59 H59 =>
    K (.tuple #[(σ59 14), (.bool true)]) H59) fun J59 =>
  ob (vLenSl a3) fun v50x60 =>
  lpE (fun Q61 σ61 H61 =>
    ob (vInt .lss (σ61 51) (σ61 50)) fun v52x62 =>
    cnd v52x62
      (ob (vIx 1 (σ61 49) (σ61 51)) fun v53x63 =>
    ob (vLoad v53x63 H61) fun v54x64 =>
    ob (vLoadN 2 (σ61 6) H61) fun v56x65 =>
    HT prg I.impl_soup [v56x65, (σ61 1), (σ61 2), v54x64, (σ61 4)].toArray H61 fun v61x66 H67 =>
    ob (vExt v61x66 0) fun v62x68 =>
    ob (vExt v61x66 1) fun v63x69 =>
    ob (vExt v61x66 2) fun v64x70 =>
    nw #[(.int .i64 0), (.int .i64 0), (.slice none 0 0)] 36 H67 fun v17x71 H72 =>
    st 3 v17x71 v62x68 H72 fun H73 =>
    ob (vUn .not v64x70) fun v66x74 =>
    cnd v66x74
      (Q61 .ret (up (up (up (up (up (up (up (up (up (up (up (up (up (up (up (up (up (up (up (up (up σ61 52 v52x62) 53 v53x63) 54 v54x64) 16 v54x64) 56 v56x65) 57 (σ61 1)) 58 (σ61 2)) 59 v54x64) 60 (σ61 4)) 61 v61x66) 55 v61x66) 62 v62x68) 63 v63x69) 64 v64x70) 17 v17x71) 18 v63x69) 19 v64x70) 65 v64x70) 66 v66x74) 12 (.slice none 0 0)) 13 (.bool false)) H73)
      (ob (vLoadN 3 v17x71 H73) fun v68x75 =>
    HT prg I.impl_Field_count [v68x75, (.int .i64 1)].toArray H73 fun v69x76 H77 =>
    bS 1 1 #[(.int .i64 0)] 2 [(0, v69x76)] H77 fun v70x78 H79 =>
    apd 1 8 #[(.int .i64 0)] 2 (σ61 14) v70x78 H79 fun v71x80 H81 =>
    ob (vInt .add (σ61 51) (.int .i64 1)) fun v72x82 =>
    Q61 .normal (up (up (up (up (up (up (up (up (up (up (up (up (up (up (up (up (up (up (up (up (up (up (up (up (up (up (up σ61 52 v52x62) 53 v53x63) 54 v54x64) 16 v54x64) 56 v56x65) 57 (σ61 1)) 58 (σ61 2)) 59 v54x64) 60 (σ61 4)) 61 v61x66) 55 v61x66) 62 v62x68) 63 v63x69) 64 v64x70) 17 v17x71) 18 v63x69) 19 v64x70) 65 v64x70) 66 v66x74) 67 (σ61 14)) 68 v68x75) 69 v69x76) 70 v70x78) 71 v71x80) 14 v71x80) 72 v72x82) 51 v72x82) H81))
      (Q61 (.exit 0) (up σ61 52 v52x62) H61)) (blkQ 0 (thenQ J59 (retQ prg [(.tmp 12), (.tmp 13)] K))) (up (up (up (up (up (up (up (up (up (up (up (up (up (up (up (up (up (up (up (up (up (up (up (up (up (up (up (up (up (up (up (up (up (up (up (up (S0 [a0, a1, a2, a3, a4, a5]) 6 v6x1) 12 (.slice none 0 0)) 13 (.bool false)) 20 v20x3) 21 v21x4) 22 v22x6) 23 v22x6) 24 v24x8) 25 v25x11) 26 v26x14) 27 v27x16) 28 v27x16) 29 v29x18) 30 v30x21) 31 v31x24) 32 v32x26) 33 v32x26) 34 v34x28) 35 v35x31) 36 v36x34) 37 v37x36) 38 v37x36) 39 v39x38) 40 v40x41) 41 v41x44) 42 v42x46) 43 v42x46) 44 v44x48) 45 v45x51) 46 v46x54) 47 v47x56) 48 v48x57) 14 v48x57) 49 a3) 50 v50x60) 51 (.int .i64 0)) H58)
def O.impl_SoupsShared : Nat → Nat × List Nat := fun i => (0, [])
theorem R.impl_SoupsShared {a0 a1 a2 a3 a4 a5 : Value} {H : Hp} {K : Value → Hp → Prop} (h : F.impl_SoupsShared a0 a1 a2 a3 a4 a5 H K) : HT prg I.impl_SoupsShared [a0, a1, a2, a3, a4, a5].toArray H K :=
  HT_of_fev O.impl_SoupsShared mixed Tryz.func10 (by kernel_rfl) (Eq.mpr (by kernel_rfl : fev prg O.impl_SoupsShared Tryz.f10 [a0, a1, a2, a3, a4, a5] H K = F.impl_SoupsShared a0 a1 a2 a3 a4 a5 H K) h)

/-! loop.example/g01381/spec.l04Is: function 42 -/
def F.spec_l04Is (a0 : Value) (H : Hp) (K : Value → Hp → Prop) : Prop :=
  ob (vNilC a0) fun v5x1 =>
  ob (vFa 0 v5x1) fun v6x2 =>
  ob (vLoad v6x2 H) fun v7x3 =>
  HT prg I.spec_l00In [v7x3, (.int .i64 1), (.int .i64 24)].toArray H fun v8x4 H5 =>
  Le H H5 ∧ (ob (vUn .not v8x4) fun v9x6 =>
  gop v9x6 false (fun K7 => K7 a0 H5) H5 fun v11x8 H9 =>
  gop v9x6 false (fun K10 => ob (vNilC v11x8) fun u => K10 u H9) H9 fun v12x11 H12 =>
  gop v9x6 false (fun K13 => ob (vFa 1 v12x11) fun u => K13 u H12) H12 fun v13x14 H15 =>
  gop v9x6 false (fun K16 => ob (vLoad v13x14 H15) fun u => K16 u H15) H15 fun v14x17 H18 =>
  gop v9x6 false (fun K19 => HT prg I.spec_l00In [v14x17, (.int .i64 1), (.int .i64 24)].toArray H18 fun v15x20 H21 =>
  Le H18 H21 ∧ K19 v15x20 H21) H18 fun v15x22 H23 =>
  gop v9x6 false (fun K24 => ob (vUn .not v15x22) fun u => K24 u H23) H23 fun v16x25 H26 =>
  ob (vPick v9x6 (.bool true) v16x25) fun v17x27 =>
  gop v17x27 false (fun K28 => K28 a0 H26) H26 fun v19x29 H30 =>
  gop v17x27 false (fun K31 => ob (vNilC v19x29) fun u => K31 u H30) H30 fun v20x32 H33 =>
  gop v17x27 false (fun K34 => ob (vFa 2 v20x32) fun u => K34 u H33) H33 fun v21x35 H36 =>
  gop v17x27 false (fun K37 => ob (vLoad v21x35 H36) fun u => K37 u H36) H36 fun v22x38 H39 =>
  gop v17x27 false (fun K40 => ob (vLenSl v22x38) fun u => K40 u H39) H39 fun v23x41 H42 =>
  gop v17x27 false (fun K43 => K43 a0 H42) H42 fun v24x44 H45 =>
  gop v17x27 false (fun K46 => ob (vNilC v24x44) fun u => K46 u H45) H45 fun v25x47 H48 =>
  gop v17x27 false (fun K49 => ob (vFa 0 v25x47) fun u => K49 u H48) H48 fun v26x50 H51 =>
  gop v17x27 false (fun K52 => ob (vLoad v26x50 H51) fun u => K52 u H51) H51 fun v27x53 H54 =>
  gop v17x27 false (fun K55 => K55 a0 H54) H54 fun v28x56 H57 =>
  gop v17x27 false (fun K58 => ob (vNilC v28x56) fun u => K58 u H57) H57 fun v29x59 H60 =>
  gop v17x27 false (fun K61 => ob (vFa 1 v29x59) fun u => K61 u H60) H60 fun v30x62 H63 =>
  gop v17x27 false (fun K64 => ob (vLoad v30x62 H63) fun u => K64 u H63) H63 fun v31x65 H66 =>
  gop v17x27 false (fun K67 => ob (vInt .mul v27x53 v31x65) fun u => K67 u H66) H66 fun v32x68 H69 =>
  gop v17x27 false (fun K70 => ob (vInt .neq v23x41 v32x68) fun u => K70 u H69) H69 fun v33x71 H72 =>
  ob (vPick v17x27 (.bool true) v33x71) fun v34x73 =>
  cnd v34x73
    (K (.bool false) H72)
    (jn (fun σ74 H74 =>
    K (.bool true) H74) fun J74 =>
  lpE (fun Q75 σ75 H75 =>
    ob (vNilC (σ75 0)) fun v37x76 =>
    ob (vFa 2 v37x76) fun v38x77 =>
    ob (vLoad v38x77 H75) fun v39x78 =>
    ob (vLenSl v39x78) fun v40x79 =>
    ob (vInt .lss (σ75 3) v40x79) fun v41x80 =>
    cnd v41x80
      (ob (vNilC (σ75 0)) fun v45x81 =>
    ob (vFa 2 v45x81) fun v46x82 =>
    ob (vLoad v46x82 H75) fun v47x83 =>
    ob (vIx 1 v47x83 (σ75 3)) fun v49x84 =>
    ob (vLoad v49x84 H75) fun v50x85 =>
    HT prg I.spec_l00In [v50x85, (.int .i64 0), (.int .i64 9)].toArray H75 fun v51x86 H87 =>
    ob (vUn .not v51x86) fun v52x88 =>
    cnd v52x88
      (Q75 .ret (up (up (up (up (up (up (up (up (up (up (up (up (up (up (up (up (up σ75 35 (σ75 3)) 36 (σ75 0)) 37 v37x76) 38 v38x77) 39 v39x78) 40 v40x79) 41 v41x80) 44 (σ75 0)) 45 v45x81) 46 v46x82) 47 v47x83) 48 (σ75 3)) 49 v49x84) 50 v50x85) 51 v51x86) 52 v52x88) 2 (.bool false)) H87)
      (ob (vInt .add (σ75 3) (.int .i64 1)) fun v43x89 =>
    Q75 .normal (up (up (up (up (up (up (up (up (up (up (up (up (up (up (up (up (up (up (up σ75 35 (σ75 3)) 36 (σ75 0)) 37 v37x76) 38 v38x77) 39 v39x78) 40 v40x79) 41 v41x80) 44 (σ75 0)) 45 v45x81) 46 v46x82) 47 v47x83) 48 (σ75 3)) 49 v49x84) 50 v50x85) 51 v51x86) 52 v52x88) 42 (σ75 3)) 43 v43x89) 3 v43x89) H87))
      (Q75 (.exit 0) (up (up (up (up (up (up (up σ75 35 (σ75 3)) 36 (σ75 0)) 37 v37x76) 38 v38x77) 39 v39x78) 40 v40x79) 41 v41x80) H75)) (blkQ 0 (thenQ J74 (retQ prg [(.tmp 2)] K))) (up (up (up (up (up (up (up (up (up (up (up (up (up (up (up (up (up (up (up (up (up (up (up (up (up (up (up (up (up (up (up (up (up (S0 [a0]) 2 (.bool false)) 4 a0) 5 v5x1) 6 v6x2) 7 v7x3) 8 v8x4) 9 v9x6) 10 v9x6) 11 v11x8) 12 v12x11) 13 v13x14) 14 v14x17) 15 v15x22) 16 v16x25) 17 v17x27) 18 v17x27) 19 v19x29) 20 v20x32) 21 v21x35) 22 v22x38) 23 v23x41) 24 v24x44) 25 v25x47) 26 v26x50) 27 v27x53) 28 v28x56) 29 v29x59) 30 v30x62) 31 v31x65) 32 v32x68) 33 v33x71) 34 v34x73) 3 (.int .i64 0)) H72))
def O.spec_l04Is : Nat → Nat × List Nat := fun i => bif Nat.beq i 1 then (0, [0, 1, 2, 3, 4, 5, 6, 7, 8, 9, 10, 11, 12, 13, 14, 15, 16, 17, 18, 19, 20, 21, 22, 23, 24, 25, 26, 27, 28, 29, 30]) else (0, [])
theorem R.spec_l04Is {a0 : Value} {H : Hp} {K : Value → Hp → Prop} (h : F.spec_l04Is a0 H K) : HT prg I.spec_l04Is [a0].toArray H K :=
  HT_of_fev O.spec_l04Is mixed Tryz.func42 (by kernel_rfl) (Eq.mpr (by kernel_rfl : fev prg O.spec_l04Is Tryz.f42 [a0] H K = F.spec_l04Is a0 H K) h)

/-! loop.example/g01381/spec.l04Plain: function 62 -/
def F.spec_l04Plain (a0 : Value) (H : Hp) (K : Value → Hp → Prop) : Prop :=
  HT prg I.spec_l04Is [a0].toArray H fun v5x1 H2 =>
  ob (vUn .not v5x1) fun v6x3 =>
  cnd v6x3
    (K (.bool false) H2)
    (jn (fun σ4 H4 =>
    K (.bool true) H4) fun J4 =>
  lpE (fun Q5 σ5 H5 =>
    ob (vNilC (σ5 0)) fun v9x6 =>
    ob (vFa 2 v9x6) fun v10x7 =>
    ob (vLoad v10x7 H5) fun v11x8 =>
    ob (vLenSl v11x8) fun v12x9 =>
    ob (vInt .lss (σ5 3) v12x9) fun v13x10 =>
    cnd v13x10
      (ob (vNilC (σ5 0)) fun v17x11 =>
    ob (vFa 2 v17x11) fun v18x12 =>
    ob (vLoad v18x12 H5) fun v19x13 =>
    ob (vIx 1 v19x13 (σ5 3)) fun v21x14 =>
    ob (vLoad v21x14 H5) fun v22x15 =>
    ob (vInt .gtr v22x15 (.int .i64 1)) fun v23x16 =>
    cnd v23x16
      (Q5 .ret (up (up (up (up (up (up (up (up (up (up (up (up (up (up (up (up σ5 7 (σ5 3)) 8 (σ5 0)) 9 v9x6) 10 v10x7) 11 v11x8) 12 v12x9) 13 v13x10) 16 (σ5 0)) 17 v17x11) 18 v18x12) 19 v19x13) 20 (σ5 3)) 21 v21x14) 22 v22x15) 23 v23x16) 2 (.bool false)) H5)
      (ob (vInt .add (σ5 3) (.int .i64 1)) fun v15x17 =>
    Q5 .normal (up (up (up (up (up (up (up (up (up (up (up (up (up (up (up (up (up (up σ5 7 (σ5 3)) 8 (σ5 0)) 9 v9x6) 10 v10x7) 11 v11x8) 12 v12x9) 13 v13x10) 16 (σ5 0)) 17 v17x11) 18 v18x12) 19 v19x13) 20 (σ5 3)) 21 v21x14) 22 v22x15) 23 v23x16) 14 (σ5 3)) 15 v15x17) 3 v15x17) H5))
      (Q5 (.exit 0) (up (up (up (up (up (up (up σ5 7 (σ5 3)) 8 (σ5 0)) 9 v9x6) 10 v10x7) 11 v11x8) 12 v12x9) 13 v13x10) H5)) (blkQ 0 (thenQ J4 (retQ prg [(.tmp 2)] K))) (up (up (up (up (up (S0 [a0]) 2 (.bool false)) 4 a0) 5 v5x1) 6 v6x3) 3 (.int .i64 0)) H2)
def O.spec_l04Plain : Nat → Nat × List Nat := fun i => (0, [])
theorem R.spec_l04Plain {a0 : Value} {H : Hp} {K : Value → Hp → Prop} (h : F.spec_l04Plain a0 H K) : HT prg I.spec_l04Plain [a0].toArray H K :=
  HT_of_fev O.spec_l04Plain mixed Tryz.func62 (by kernel_rfl) (Eq.mpr (by kernel_rfl : fev prg O.spec_l04Plain Tryz.f62 [a0] H K = F.spec_l04Plain a0 H K) h)

/-! loop.example/g01381/spec.l04Can: function 40 -/
def F.spec_l04Can (a0 a1 : Value) (H : Hp) (K : Value → Hp → Prop) : Prop :=
  HT prg I.spec_l04Life [a0].toArray H fun v6x1 H2 =>
  gop v6x1 true (fun K3 => K3 a1 H2) H2 fun v8x4 H5 =>
  gop v6x1 true (fun K6 => HT prg I.spec_l04Plain [v8x4].toArray H5 K6) H5 fun v9x7 H8 =>
  ob (vPick v6x1 v9x7 (.bool false)) fun v10x9 =>
  K v10x9 H8
def O.spec_l04Can : Nat → Nat × List Nat := fun i => (0, [])
theorem R.spec_l04Can {a0 a1 : Value} {H : Hp} {K : Value → Hp → Prop} (h : F.spec_l04Can a0 a1 H K) : HT prg I.spec_l04Can [a0, a1].toArray H K :=
  HT_of_fev O.spec_l04Can mixed Tryz.func40 (by kernel_rfl) (Eq.mpr (by kernel_rfl : fev prg O.spec_l04Can Tryz.f40 [a0, a1] H K = F.spec_l04Can a0 a1 H K) h)

/-! loop.example/g01381/spec.RunLife: function 12 -/
def F.spec_RunLife (a0 a1 a2 a3 : Value) (H : Hp) (K : Value → Hp → Prop) : Prop :=
  nw (a0 : Value).cells 26 H fun v4x1 H2 =>
  nw (a1 : Value).cells 36 H2 fun v5x3 H4 =>
  nw #[(.int .i64 0), (.int .i64 0), (.slice none 0 0)] 36 H4 fun v8x5 H6 =>
  HT prg I.spec_l04Can [v4x1, v5x3].toArray H6 fun v10x7 H8 =>
  ob (vUn .not v10x7) fun v11x9 =>
  gop v11x9 false (fun K10 => K10 a3 H8) H8 fun v13x11 H12 =>
  gop v11x9 false (fun K13 => HT prg I.spec_l00In [v13x11, (.int .i64 0), (.int .i64 512)].toArray H12 K13) H12 fun v14x14 H15 =>
  gop v11x9 false (fun K16 => ob (vUn .not v14x14) fun u => K16 u H15) H15 fun v15x17 H18 =>
  ob (vPick v11x9 (.bool true) v15x17) fun v16x19 =>
  cnd v16x19
    (ob (vBuild [(0, 1), (1, 1), (2, 1)] (.agg #[(.int .i64 0), (.int .i64 0), (.slice none 0 0)]) []) fun v17x20 =>
    st 3 v8x5 v17x20 H18 fun H21 =>
    ob (vLoadN 3 v8x5 H21) fun u22 => K (.tuple #[u22, (.bool false)]) H21)
    (HT prg I.spec_l04Run [v4x1, v5x3, a2, a3].toArray H18 fun v20x23 H24 =>
  st 3 v8x5 v20x23 H24 fun H25 =>
  ob (vLoadN 3 v8x5 H25) fun u26 => K (.tuple #[u26, (.bool true)]) H25)
def O.spec_RunLife : Nat → Nat × List Nat := fun i => (0, [])
theorem R.spec_RunLife {a0 a1 a2 a3 : Value} {H : Hp} {K : Value → Hp → Prop} (h : F.spec_RunLife a0 a1 a2 a3 H K) : HT prg I.spec_RunLife [a0, a1, a2, a3].toArray H K :=
  HT_of_fev O.spec_RunLife mixed Tryz.func12 (by kernel_rfl) (Eq.mpr (by kernel_rfl : fev prg O.spec_RunLife Tryz.f12 [a0, a1, a2, a3] H K = F.spec_RunLife a0 a1 a2 a3 H K) h)

/-! loop.example/g01381/spec.CountCells: function 13 -/
def F.spec_CountCells (a0 a1 : Value) (H : Hp) (K : Value → Hp → Prop) : Prop :=
  nw (a0 : Value).cells 36 H fun v2x1 H2 =>
  HT prg I.spec_l04Is [v2x1].toArray H2 fun v8x3 H4 =>
  ob (vUn .not v8x3) fun v9x5 =>
  cnd v9x5
    (K (.tuple #[(.int .i64 0), (.bool false)]) H4)
    (jn (fun σ6 H6 =>
    K (.tuple #[(σ6 6), (.bool true)]) H6) fun J6 =>
  lpE (fun Q7 σ7 H7 =>
    ob (vFa 2 (σ7 2)) fun v11x8 =>
    ob (vLoad v11x8 H7) fun v12x9 =>
    ob (vLenSl v12x9) fun v13x10 =>
    ob (vInt .lss (σ7 7) v13x10) fun v14x11 =>
    cnd v14x11
      (ob (vFa 2 (σ7 2)) fun v17x12 =>
    ob (vLoad v17x12 H7) fun v18x13 =>
    ob (vIx 1 v18x13 (σ7 7)) fun v20x14 =>
    ob (vLoad v20x14 H7) fun v21x15 =>
    ob (vInt .eql v21x15 (σ7 1)) fun v23x16 =>
    cnd v23x16
      (ob (vInt .add (σ7 6) (.int .i64 1)) fun v25x17 =>
      ob (vInt .add (σ7 7) (.int .i64 1)) fun v16x18 =>
    Q7 .normal (up (up (up (up (up (up (up (up (up (up (up (up (up (up (up (up (up (up σ7 10 (σ7 7)) 11 v11x8) 12 v12x9) 13 v13x10) 14 v14x11) 17 v17x12) 18 v18x13) 19 (σ7 7)) 20 v20x14) 21 v21x15) 22 (σ7 1)) 23 v23x16) 24 (σ7 6)) 25 v25x17) 6 v25x17) 15 (σ7 7)) 16 v16x18) 7 v16x18) H7)
      (ob (vInt .add (σ7 7) (.int .i64 1)) fun v16x19 =>
    Q7 .normal (up (up (up (up (up (up (up (up (up (up (up (up (up (up (up σ7 10 (σ7 7)) 11 v11x8) 12 v12x9) 13 v13x10) 14 v14x11) 17 v17x12) 18 v18x13) 19 (σ7 7)) 20 v20x14) 21 v21x15) 22 (σ7 1)) 23 v23x16) 15 (σ7 7)) 16 v16x19) 7 v16x19) H7))
      (Q7 (.exit 0) (up (up (up (up (up σ7 10 (σ7 7)) 11 v11x8) 12 v12x9) 13 v13x10) 14 v14x11) H7)) (blkQ 0 (thenQ J6 (retQ prg [(.tmp 4), (.tmp 5)] K))) (up (up (up (up (up (up (up (S0 [a0, a1]) 2 v2x1) 4 (.int .i64 0)) 5 (.bool false)) 8 v8x3) 9 v9x5) 6 (.int .i64 0)) 7 (.int .i64 0)) H4)
def O.spec_CountCells : Nat → Nat × List Nat := fun i => (0, [])
theorem R.spec_CountCells {a0 a1 : Value} {H : Hp} {K : Value → Hp → Prop} (h : F.spec_CountCells a0 a1 H K) : HT prg I.spec_CountCells [a0, a1].toArray H K :=
  HT_of_fev O.spec_CountCells mixed Tryz.func13 (by kernel_rfl) (Eq.mpr (by kernel_rfl : fev prg O.spec_CountCells Tryz.f13 [a0, a1] H K = F.spec_CountCells a0 a1 H K) h)

/-! loop.example/g01381/laws.b10Ints: function 14 -/
def F.laws_b10Ints (a0 a1 : Value) (H : Hp) (K : Value → Hp → Prop) : Prop :=
  ob (vLenSl a0) fun v7x1 =>
  ob (vLenSl a1) fun v9x2 =>
  ob (vInt .neq v7x1 v9x2) fun v10x3 =>
  cnd v10x3
    (K (.bool false) H)
    (jn (fun σ4 H4 =>
    K (.bool true) H4) fun J4 =>
  ob (vLenSl a0) fun v12x5 =>
  lpE (fun Q6 σ6 H6 =>
    ob (vInt .lss (σ6 13) (σ6 12)) fun v14x7 =>
    cnd v14x7
      (ob (vIx 1 (σ6 0) (σ6 13)) fun v18x8 =>
    ob (vLoad v18x8 H6) fun v19x9 =>
    ob (vIx 1 (σ6 1) (σ6 13)) fun v22x10 =>
    ob (vLoad v22x10 H6) fun v23x11 =>
    ob (vInt .neq v19x9 v23x11) fun v24x12 =>
    cnd v24x12
      (Q6 .ret (up (up (up (up (up (up (up (up (up (up (up (up (up σ6 14 v14x7) 15 (σ6 13)) 5 (σ6 13)) 16 (σ6 0)) 17 (σ6 13)) 18 v18x8) 19 v19x9) 20 (σ6 1)) 21 (σ6 13)) 22 v22x10) 23 v23x11) 24 v24x12) 4 (.bool false)) H6)
      (ob (vInt .add (σ6 13) (.int .i64 1)) fun v25x13 =>
    Q6 .normal (up (up (up (up (up (up (up (up (up (up (up (up (up (up σ6 14 v14x7) 15 (σ6 13)) 5 (σ6 13)) 16 (σ6 0)) 17 (σ6 13)) 18 v18x8) 19 v19x9) 20 (σ6 1)) 21 (σ6 13)) 22 v22x10) 23 v23x11) 24 v24x12) 25 v25x13) 13 v25x13) H6))
      (Q6 (.exit 0) (up σ6 14 v14x7) H6)) (blkQ 0 (thenQ J4 (retQ prg [(.tmp 4)] K))) (up (up (up (up (up (up (up (up (up (S0 [a0, a1]) 4 (.bool false)) 6 a0) 7 v7x1) 8 a1) 9 v9x2) 10 v10x3) 11 a0) 12 v12x5) 13 (.int .i64 0)) H)
def O.laws_b10Ints : Nat → Nat × List Nat := fun i => bif Nat.beq i 6 then (0, [0, 1, 2, 3, 4, 5, 6, 7, 8]) else (0, [])
theorem R.laws_b10Ints {a0 a1 : Value} {H : Hp} {K : Value → Hp → Prop} (h : F.laws_b10Ints a0 a1 H K) : HT prg I.laws_b10Ints [a0, a1].toArray H K :=
  HT_of_fev O.laws_b10Ints mixed Tryz.func14 (by kernel_rfl) (Eq.mpr (by kernel_rfl : fev prg O.laws_b10Ints Tryz.f14 [a0, a1] H K = F.laws_b10Ints a0 a1 H K) h)

end Go.Proofs.YtnijdhlmimemcaaGreatDoor
/- Functions' texts over a partial heap. -/
namespace Go.Proofs.YtnijdhlmimemcaaGreatDoor
open HL
set_option linter.unusedVariables false
set_option maxRecDepth 100000
set_option maxHeartbeats 4000000
/-! loop.example/g01381/laws.FnSoups: function 3 -/
def F.laws_FnSoups (a0 a1 : Value) (H : Hp) (K : Value → Hp → Prop) : Prop :=
  HT prg I.laws_b10Long [a0, a1].toArray H fun v30x1 H2 =>
  cnd v30x1
    (K (.bool true) H2)
    (HT prg I.spec_B10Life [a0].toArray H2 fun v32x3 H4 =>
  nw #[(.slice none 0 0), (.slice none 0 0)] 26 H4 fun v5x5 H6 =>
  st 2 v5x5 v32x3 H6 fun H7 =>
  HT prg I.laws_b10At [a1, (.int .i64 0), (.int .i64 8)].toArray H7 fun v34x8 H9 =>
  ob (vInt .add (.int .i64 1) v34x8) fun v35x10 =>
  HT prg I.laws_b10At [a1, (.int .i64 1), (.int .i64 9)].toArray H9 fun v37x11 H12 =>
  ob (vCF .f32 v37x11) fun v38x13 =>
  fA .quo v38x13 (.float .f32 1090519040) H12 fun v39x14 H15 =>
  HT prg I.laws_b10At [a1, (.int .i64 2), (.int .i64 256)].toArray H15 fun v41x16 H17 =>
  ob (vInt .mul (.int .i64 1000) v41x16) fun v42x18 =>
  HT prg I.laws_b10At [a1, (.int .i64 3), (.int .i64 256)].toArray H17 fun v44x19 H20 =>
  ob (vInt .add v42x18 v44x19) fun v45x21 =>
  HT prg I.laws_b10At [a1, (.int .i64 4), (.int .i64 10)].toArray H20 fun v47x22 H23 =>
  ob (vLoadN 2 v5x5 H23) fun v49x24 =>
  HT prg I.impl_SoupOf [v49x24, v35x10, v39x14, v45x21, v47x22].toArray H23 fun v54x25 H26 =>
  ob (vExt v54x25 0) fun v55x27 =>
  ob (vExt v54x25 1) fun v56x28 =>
  ob (vExt v54x25 2) fun v57x29 =>
  ob (vExt v54x25 3) fun v58x30 =>
  ob (vLoadN 2 v5x5 H26) fun v60x31 =>
  HT prg I.spec_SoupOf [v60x31, v35x10, v39x14, v45x21, v47x22].toArray H26 fun v65x32 H33 =>
  ob (vExt v65x32 0) fun v66x34 =>
  ob (vExt v65x32 1) fun v67x35 =>
  ob (vExt v65x32 2) fun v68x36 =>
  ob (vExt v65x32 3) fun v69x37 =>
  ob (vLoadN 2 v5x5 H33) fun v71x38 =>
  HT prg I.laws_b10At [a1, (.int .i64 5), (.int .i64 8)].toArray H33 fun v79x39 H40 =>
  Le H33 H40 ∧ (ob (vInt .add (.int .i64 1) v79x39) fun v80x41 =>
  bS 1 2 #[(.int .i64 0)] 2 [(0, v45x21), (1, v45x21)] H40 fun v76x42 H43 =>
  HT prg I.impl_SoupsShared [v71x38, v35x10, v39x14, v76x42, v47x22, v80x41].toArray H43 fun v81x44 H45 =>
  Le H43 H45 ∧ (ob (vExt v81x44 0) fun v82x46 =>
  ob (vExt v81x44 1) fun v83x47 =>
  HT prg I.spec_DrawField [v35x10, v35x10, v39x14, v45x21].toArray H45 fun v89x48 H49 =>
  ob (vExt v89x48 0) fun v90x50 =>
  ob (vExt v89x48 1) fun v91x51 =>
  ob (vExt v89x48 2) fun v92x52 =>
  nw #[(.int .i64 0), (.int .i64 0), (.slice none 0 0)] 36 H49 fun v20x53 H54 =>
  st 3 v20x53 v90x50 H54 fun H55 =>
  ob (vLoadN 2 v5x5 H55) fun v94x56 =>
  ob (vLoadN 3 v20x53 H55) fun v95x57 =>
  HT prg I.spec_RunLife [v94x56, v95x57, (.bool true), v47x22].toArray H55 fun v97x58 H59 =>
  ob (vExt v97x58 0) fun v98x60 =>
  ob (vExt v97x58 1) fun v99x61 =>
  nw #[(.int .i64 0), (.int .i64 0), (.slice none 0 0)] 36 H59 fun v23x62 H63 =>
  st 3 v23x62 v98x60 H63 fun H64 =>
  ob (vLoadN 3 v23x62 H64) fun v101x65 =>
  HT prg I.spec_CountCells [v101x65, (.int .i64 1)].toArray H64 fun v102x66 H67 =>
  ob (vExt v102x66 0) fun v103x68 =>
  ob (vExt v102x66 1) fun v104x69 =>
  ob (vUn .not v58x30) fun v106x70 =>
  gop v106x70 false (fun K71 => K71 v69x37 H67) H67 fun v108x72 H73 =>
  gop v106x70 false (fun K74 => ob (vUn .not v108x72) fun u => K74 u H73) H73 fun v109x75 H76 =>
  ob (vPick v106x70 (.bool true) v109x75) fun v110x77 =>
  gop v110x77 false (fun K78 => K78 v83x47 H76) H76 fun v112x79 H80 =>
  gop v110x77 false (fun K81 => ob (vUn .not v112x79) fun u => K81 u H80) H80 fun v113x82 H83 =>
  ob (vPick v110x77 (.bool true) v113x82) fun v114x84 =>
  gop v114x84 false (fun K85 => K85 v92x52 H83) H83 fun v116x86 H87 =>
  gop v114x84 false (fun K88 => ob (vUn .not v116x86) fun u => K88 u H87) H87 fun v117x89 H90 =>
  ob (vPick v114x84 (.bool true) v117x89) fun v118x91 =>
  gop v118x91 false (fun K92 => K92 v99x61 H90) H90 fun v120x93 H94 =>
  gop v118x91 false (fun K95 => ob (vUn .not v120x93) fun u => K95 u H94) H94 fun v121x96 H97 =>
  ob (vPick v118x91 (.bool true) v121x96) fun v122x98 =>
  gop v122x98 false (fun K99 => K99 v104x69 H97) H97 fun v124x100 H101 =>
  gop v122x98 false (fun K102 => ob (vUn .not v124x100) fun u => K102 u H101) H101 fun v125x103 H104 =>
  ob (vPick v122x98 (.bool true) v125x103) fun v126x105 =>
  gop v126x105 false (fun K106 => K106 v57x29 H104) H104 fun v128x107 H108 =>
  gop v126x105 false (fun K109 => K109 v68x36 H108) H108 fun v129x110 H111 =>
  gop v126x105 false (fun K112 => ob (vInt .neq v128x107 v129x110) fun u => K112 u H111) H111 fun v130x113 H114 =>
  ob (vPick v126x105 (.bool true) v130x113) fun v131x115 =>
  gop v131x115 false (fun K116 => K116 v55x27 H114) H114 fun v133x117 H118 =>
  gop v131x115 false (fun K119 => ob (vLenSl v133x117) fun u => K119 u H118) H118 fun v134x120 H121 =>
  gop v131x115 false (fun K122 => K122 v66x34 H121) H121 fun v135x123 H124 =>
  gop v131x115 false (fun K125 => ob (vLenSl v135x123) fun u => K125 u H124) H124 fun v136x126 H127 =>
  gop v131x115 false (fun K128 => ob (vInt .neq v134x120 v136x126) fun u => K128 u H127) H127 fun v137x129 H130 =>
  ob (vPick v131x115 (.bool true) v137x129) fun v138x131 =>
  gop v138x131 false (fun K132 => K132 v56x28 H130) H130 fun v140x133 H134 =>
  gop v138x131 false (fun K135 => K135 v67x35 H134) H134 fun v141x136 H137 =>
  gop v138x131 false (fun K138 => HT prg I.laws_b10Ints [v140x133, v141x136].toArray H137 K138) H137 fun v142x139 H140 =>
  gop v138x131 false (fun K141 => ob (vUn .not v142x139) fun u => K141 u H140) H140 fun v143x142 H143 =>
  ob (vPick v138x131 (.bool true) v143x142) fun v144x144 =>
  gop v144x144 false (fun K145 => K145 v82x46 H143) H143 fun v146x146 H147 =>
  gop v144x144 false (fun K148 => ob (vLenSl v146x146) fun u => K148 u H147) H147 fun v147x149 H150 =>
  gop v144x144 false (fun K151 => ob (vInt .neq v147x149 (.int .i64 2)) fun u => K151 u H150) H150 fun v148x152 H153 =>
  ob (vPick v144x144 (.bool true) v148x152) fun v149x154 =>
  gop v149x154 false (fun K155 => K155 v82x46 H153) H153 fun v151x156 H157 =>
  gop v149x154 false (fun K158 => ob (vIx 1 v151x156 (.int .i64 0)) fun u => K158 u H157) H157 fun v152x159 H160 =>
  gop v149x154 false (fun K161 => ob (vLoad v152x159 H160) fun u => K161 u H160) H160 fun v153x162 H163 =>
  gop v149x154 false (fun K164 => K164 v103x68 H163) H163 fun v154x165 H166 =>
  gop v149x154 false (fun K167 => ob (vInt .neq v153x162 v154x165) fun u => K167 u H166) H166 fun v155x168 H169 =>
  ob (vPick v149x154 (.bool true) v155x168) fun v156x170 =>
  gop v156x170 false (fun K171 => K171 v82x46 H169) H169 fun v158x172 H173 =>
  gop v156x170 false (fun K174 => ob (vIx 1 v158x172 (.int .i64 1)) fun u => K174 u H173) H173 fun v159x175 H176 =>
  gop v156x170 false (fun K177 => ob (vLoad v159x175 H176) fun u => K177 u H176) H176 fun v160x178 H179 =>
  gop v156x170 false (fun K180 => K180 v103x68 H179) H179 fun v161x181 H182 =>
  gop v156x170 false (fun K183 => ob (vInt .neq v160x178 v161x181) fun u => K183 u H182) H182 fun v162x184 H185 =>
  ob (vPick v156x170 (.bool true) v162x184) fun v163x186 =>
  cnd v163x186
    (K (.bool false) H185)
    (jn (fun σ187 H187 =>
    K (.bool true) H187) fun J187 =>
  ob (vLenSl v55x27) fun v165x188 =>
  lpE (fun Q189 σ189 H189 =>
    ob (vInt .lss (σ189 166) (σ189 165)) fun v167x190 =>
    cnd v167x190
      (ob (vIx 1 (σ189 10) (σ189 166)) fun v171x191 =>
    ob (vLoad v171x191 H189) fun v172x192 =>
    ob (vIx 1 (σ189 14) (σ189 166)) fun v175x193 =>
    ob (vLoad v175x193 H189) fun v176x194 =>
    ob (vStr .neq v172x192 v176x194) fun v177x195 =>
    cnd v177x195
      (Q189 .ret (up (up (up (up (up (up (up (up (up (up (up (up (up σ189 167 v167x190) 168 (σ189 166)) 27 (σ189 166)) 169 (σ189 10)) 170 (σ189 166)) 171 v171x191) 172 v172x192) 173 (σ189 14)) 174 (σ189 166)) 175 v175x193) 176 v176x194) 177 v177x195) 4 (.bool false)) H189)
      (ob (vInt .add (σ189 166) (.int .i64 1)) fun v178x196 =>
    Q189 .normal (up (up (up (up (up (up (up (up (up (up (up (up (up (up σ189 167 v167x190) 168 (σ189 166)) 27 (σ189 166)) 169 (σ189 10)) 170 (σ189 166)) 171 v171x191) 172 v172x192) 173 (σ189 14)) 174 (σ189 166)) 175 v175x193) 176 v176x194) 177 v177x195) 178 v178x196) 166 v178x196) H189))
      (Q189 (.exit 0) (up σ189 167 v167x190) H189)) (blkQ 0 (thenQ J187 (retQ prg [(.tmp 4)] K))) (up (up (up (up (up (up (up (up (up (up (up (up (up (up (up (up (up (up (up (up (up (up (up (up (up (up (up (up (up (up (up (up (up (up (up (up (up (up (up (up (up (up (up (up (up (up (up (up (up (up (up (up (up (up (up (up (up (up (up (up (up (up (up (up (up (up (up (up (up (up (up (up (up (up (up (up (up (up (up (up (up (up (up (up (up (up (up (up (up (up (up (up (up (up (up (up (up (up (up (up (up (up (up (up (up (up (up (up (up (up (up (up (up (up (up (up (up (up (up (up (up (up (up (up (up (up (up (up (up (up (up (up (up (up (up (up (up (up (up (up (up (up (up (up (up (up (up (up (up (up (up (up (up (up (up (up (up (up (up (up (up (up (S0 [a0, a1]) 4 (.bool false)) 28 a0) 29 a1) 30 v30x1) 31 a0) 32 v32x3) 5 v5x5) 33 a1) 34 v34x8) 35 v35x10) 6 v35x10) 36 a1) 37 v37x11) 38 v38x13) 39 v39x14) 7 v39x14) 40 a1) 41 v41x16) 42 v42x18) 43 a1) 44 v44x19) 45 v45x21) 8 v45x21) 46 a1) 47 v47x22) 9 v47x22) 49 v49x24) 50 v35x10) 51 v39x14) 52 v45x21) 53 v47x22) 54 v54x25) 48 v54x25) 55 v55x27) 56 v56x28) 57 v57x29) 58 v58x30) 10 v55x27) 11 v56x28) 12 v57x29) 13 v58x30) 60 v60x31) 61 v35x10) 62 v39x14) 63 v45x21) 64 v47x22) 65 v65x32) 59 v65x32) 66 v66x34) 67 v67x35) 68 v68x36) 69 v69x37) 14 v66x34) 15 v67x35) 16 v68x36) 17 v69x37) 71 v71x38) 72 v35x10) 73 v39x14) 74 v45x21) 75 v45x21) 77 v47x22) 78 a1) 79 v79x39) 80 v80x41) 76 v76x42) 81 v81x44) 70 v81x44) 82 v82x46) 83 v83x47) 18 v82x46) 19 v83x47) 85 v35x10) 86 v35x10) 87 v39x14) 88 v45x21) 89 v89x48) 84 v89x48) 90 v90x50) 91 v91x51) 92 v92x52) 20 v20x53) 21 v91x51) 22 v92x52) 94 v94x56) 95 v95x57) 96 v47x22) 97 v97x58) 93 v97x58) 98 v98x60) 99 v99x61) 23 v23x62) 24 v99x61) 101 v101x65) 102 v102x66) 100 v102x66) 103 v103x68) 104 v104x69) 25 v103x68) 26 v104x69) 105 v58x30) 106 v106x70) 107 v106x70) 108 v108x72) 109 v109x75) 110 v110x77) 111 v110x77) 112 v112x79) 113 v113x82) 114 v114x84) 115 v114x84) 116 v116x86) 117 v117x89) 118 v118x91) 119 v118x91) 120 v120x93) 121 v121x96) 122 v122x98) 123 v122x98) 124 v124x100) 125 v125x103) 126 v126x105) 127 v126x105) 128 v128x107) 129 v129x110) 130 v130x113) 131 v131x115) 132 v131x115) 133 v133x117) 134 v134x120) 135 v135x123) 136 v136x126) 137 v137x129) 138 v138x131) 139 v138x131) 140 v140x133) 141 v141x136) 142 v142x139) 143 v143x142) 144 v144x144) 145 v144x144) 146 v146x146) 147 v147x149) 148 v148x152) 149 v149x154) 150 v149x154) 151 v151x156) 152 v152x159) 153 v153x162) 154 v154x165) 155 v155x168) 156 v156x170) 157 v156x170) 158 v158x172) 159 v159x175) 160 v160x178) 161 v161x181) 162 v162x184) 163 v163x186) 164 v55x27) 165 v165x188) 166 (.int .i64 0)) H185))))
def O.laws_FnSoups : Nat → Nat × List Nat := fun i => bif Nat.beq i 10 then (0, [0, 1, 2, 3, 4, 6, 7, 8, 9, 5, 10, 11, 12, 13, 14, 15]) else bif Nat.beq i 19 then (0, [0, 1, 2, 3, 4, 5, 6, 7, 8]) else (0, [])
theorem R.laws_FnSoups {a0 a1 : Value} {H : Hp} {K : Value → Hp → Prop} (h : F.laws_FnSoups a0 a1 H K) : HT prg I.laws_FnSoups [a0, a1].toArray H K :=
  HT_of_fev O.laws_FnSoups mixed Tryz.func3 (by kernel_rfl) (Eq.mpr (by kernel_rfl : fev prg O.laws_FnSoups Tryz.f3 [a0, a1] H K = F.laws_FnSoups a0 a1 H K) h)

end Go.Proofs.YtnijdhlmimemcaaGreatDoor
/- Functions' texts over a partial heap. -/
namespace Go.Proofs.YtnijdhlmimemcaaGreatDoor
open HL
set_option linter.unusedVariables false
set_option maxRecDepth 100000
set_option maxHeartbeats 4000000
end Go.Proofs.YtnijdhlmimemcaaGreatDoor
/- All functions' texts. -/
/- What the small functions of lanes come to. -/
namespace Go.Proofs.YtnijdhlmimemcaaGreatDoor
open HL
theorem C.spec_l00In {x lo hi : Int} {H : Hp} {K : Value → Hp → Prop} (hk : K (.bool (decide (lo ≤ x ∧ x ≤ hi))) H) : HT prg I.spec_l00In [.int .i64 x, .int .i64 lo, .int .i64 hi].toArray H K := by
 refine R.spec_l00In ?_
 unfold F.spec_l00In
 by_cases h : lo ≤ x
 ·simp only [vInt_geq, vInt_leq, ob_some, h, decide_true, gop_tt, vPick_t, true_and] at hk ⊢; exact hk
 ·simp only [vInt_geq, ob_some, h, decide_false, gop_ft, vPick_f, false_and] at hk ⊢; exact hk
theorem C.impl_within {x lo hi : Int} {H : Hp} {K : Value → Hp → Prop} (hk : K (.bool (decide (lo ≤ x ∧ x ≤ hi))) H) : HT prg I.impl_within [.int .i64 x, .int .i64 lo, .int .i64 hi].toArray H K := by
 refine R.impl_within ?_
 unfold F.impl_within
 by_cases h : lo ≤ x
 ·simp only [vInt_geq, vInt_leq, ob_some, h, decide_true, gop_tt, vPick_t, true_and] at hk ⊢; exact hk
 ·simp only [vInt_geq, ob_some, h, decide_false, gop_ft, vPick_f, false_and] at hk ⊢; exact hk
theorem C.impl_areWithin {a : Value} {l : List Int} {lo hi : Int} {H : Hp} {K : Value → Hp → Prop} (ha : Sl eI H a l) (hl : l.length ≤ 9223372036854775807) (hk : K (.bool (decide (∀ x ∈ l, lo ≤ x ∧ x ≤ hi))) H) :
    HT prg I.impl_areWithin [a, .int .i64 lo, .int .i64 hi].toArray H K := by
 refine R.impl_areWithin ?_
 unfold F.impl_areWithin jn; dsimp only
 rw [ha.len, ob_some]
 refine ⟨fun n σ H1 => ∃ i : Nat, n = l.length - i ∧ i ≤ l.length ∧ H1 = H ∧ σ 1 = .int .i64 lo ∧ σ 2 = .int .i64 hi ∧ σ 9 = a ∧ σ 10 = .int .i64 l.length ∧ σ 11 = .int .i64 i ∧ ∀ x ∈ l.take i, lo ≤ x ∧ x ≤ hi,
  ⟨_, 0, rfl, by omega, rfl, rfl, rfl, rfl, rfl, rfl, by simp⟩, ?_⟩
 rintro n σ H1 ⟨i, rfl, hi', rfl, h1, h2, h9, h10, h11, hall⟩
 simp only [h1, h2, h9, h10, h11, vInt_lss, ob_some]
 refine cnd_d (fun hlt => ?_) (fun hge => ?_)
 ·have hlt' : i < l.length := by omega
  rw [ha.ix (by omega) hlt, ob_some, ha.ld 0 (by omega) hlt, ob_some]
  refine C.impl_within ?_
  rw [vUn_not, ob_some]
  refine cnd_i (fun hb => ?_) (fun hb => ?_)
  ·refine retK (K := K) (v' := .bool false) rfl ?_
   rw [decide_eq_false] at hk
   ·exact hk
   ·intro hh
    have := hh _ (at_mem 0 l (i := i) (by omega) hlt)
    simp [this] at hb
  ·rw [vInt_add (by omega) (by omega), ob_some]
   refine nxt (l.length - (i + 1)) (by omega) ⟨i + 1, rfl, by omega, rfl, h1, h2, h9, h10, rfl, ?_⟩
   rw [take_at 0 l hlt']
   intro x hx
   rcases List.mem_append.mp hx with hx | hx
   ·exact hall x hx
   ·simp only [List.mem_singleton] at hx; subst hx; simpa using hb
 ·refine retK (K := K) (v' := .bool true) rfl ?_
  rw [decide_eq_true] at hk
  ·exact hk
  ·intro x hx
   rw [List.take_of_length_le (by omega)] at hall
   exact hall x hx
theorem C.impl_areMany {a : Value} {l : List Int} {n m lo hi : Int} {H : Hp} {K : Value → Hp → Prop} (ha : Sl eI H a l) (hl : l.length ≤ 9223372036854775807)
    (hk : K (.bool (decide ((n ≤ l.length ∧ l.length ≤ m) ∧ ∀ x ∈ l, lo ≤ x ∧ x ≤ hi))) H) :
    HT prg I.impl_areMany [a, .int .i64 n, .int .i64 m, .int .i64 lo, .int .i64 hi].toArray H K := by
 refine R.impl_areMany ?_
 unfold F.impl_areMany
 rw [ha.len, ob_some]
 refine C.impl_within ?_
 by_cases h : n ≤ l.length ∧ l.length ≤ m
 ·simp only [h, and_self, decide_true, gop_tt, true_and] at hk ⊢
  refine C.impl_areWithin ha hl ?_
  rw [vPick_t, ob_some]
  exact hk
 ·simp only [h, decide_false, gop_ft, vPick_f, ob_some, false_and] at hk ⊢
  exact hk
def isLane (l : List Int) : Prop := (1 ≤ (l.length : Int) ∧ (l.length : Int) ≤ 64) ∧ ∀ x ∈ l, -1 ≤ x ∧ x ≤ 5
instance (l : List Int) : Decidable (isLane l) := by unfold isLane; infer_instance
end Go.Proofs.YtnijdhlmimemcaaGreatDoor
/- Structs that lie in cells of their own: what is read, what is written. -/
namespace Go.Proofs.YtnijdhlmimemcaaGreatDoor.HL
/-- A pointer to a block of its own, whose cells are these. -/
def Cel (H : Hp) (p : Value) (cs : List Value) : Prop := ∃ r e, p = .pointer (some ⟨r, 0, none⟩) ∧ H r = some (.cells cs.toArray e (0, 0))
/-- The pointer to a field's first cell. -/
def fp (p : Value) (k : Nat) : Value := match p with | .pointer (some a) => .pointer (some (a.add k)) | _ => undef

theorem oc0 : ∀ x ∈ ([] : List Value), oneCell x = true := fun x hx => absurd hx (by simp)
theorem oc1 {a : Value} {l : List Value} (h : oneCell a = true) (t : ∀ x ∈ l, oneCell x = true) : ∀ x ∈ a :: l, oneCell x = true := fun x hx => by
  rcases List.mem_cons.mp hx with rfl | hx
  · exact h
  · exact t x hx
section
variable {H H' : Hp} {p u v : Value} {cs : List Value}
theorem Cel.le (h : Cel H p cs) (hl : Le H H') : Cel H' p cs := by
  obtain ⟨r, e, rfl, hr⟩ := h
  exact ⟨r, e, rfl, hl _ _ hr⟩
theorem Cel.off (h : Cel H p cs) (ho : Off v H H') (ha : Apart p v) : Cel H' p cs := by
  obtain ⟨r, e, rfl, hr⟩ := h
  exact ⟨r, e, rfl, ho _ _ hr (ha r rfl)⟩
theorem Cel.known (h : Cel H p cs) : ∀ b, bk p = some b → ∃ o, H b = some o := by
  obtain ⟨r, e, rfl, hr⟩ := h
  intro b hb
  simp only [bk, Option.some.injEq] at hb
  subst hb
  exact ⟨_, hr⟩
theorem Cel.apart (h : Cel H p cs) (hn : Nw H v) : Apart p v := Apart.of_nw h.known hn
theorem nw_i {cells : Array Value} {e : TypeId} {K : Value → Hp → Prop} (hk : ∀ p H', Cel H' p cells.toList → Nw H p → Le H H' → K p H') : nw cells e H K := by
  intro r hr
  refine hk _ _ ⟨r, e, rfl, by rw [Hp.put_same]⟩ ?_ (Le.put _ hr)
  intro b hb
  simp only [bk, Option.some.injEq] at hb
  subst hb
  exact hr
theorem Cel.fa (h : Cel H p cs) (k : Nat) : vFa k p = some (fp p k) := by
  obtain ⟨r, e, rfl, hr⟩ := h; rfl
theorem Cel.nilC (h : Cel H p cs) : vNilC p = some p := by
  obtain ⟨r, e, rfl, hr⟩ := h; rfl
theorem Cel.ld (h : Cel H p cs) (k : Nat) {x : Value} (hx : cs[k]? = some x) : vLoad (fp p k) H = some x := by
  obtain ⟨r, e, rfl, hr⟩ := h
  simp only [fp, vLoad, add_none, Hp.cell?, hr, Nat.zero_add]
  simpa using hx
theorem Cel.ld0 (h : Cel H p cs) {x : Value} (hx : cs[0]? = some x) : vLoad p H = some x := by
  obtain ⟨r, e, rfl, hr⟩ := h
  simp only [vLoad, Hp.cell?, hr]
  simpa using hx
theorem Cel.ldn (h : Cel H p cs) {n : Nat} (hn : cs.length = n) : vLoadN n p H = some (.agg cs.toArray) := by
  obtain ⟨r, e, rfl, hr⟩ := h
  simp only [vLoadN]
  rw [rd_cells (enc := id) ⟨r, 0, none⟩ n 0 cs hn (fun i hi => by
    simp only [add_none, Hp.cell?, hr, Nat.zero_add]
    simp [hi])]
  simp
theorem Cel.st (h : Cel H p cs) {k : Nat} {x : Value} {K : Hp → Prop} (hk : k < cs.length) (ho : oneCell x = true) (hz : x.cells = #[x]) (hK : ∀ H', Cel H' p (cs.set k x) → Off p H H' → K H') : st 1 (fp p k) x H K := by
  obtain ⟨r, e, rfl, hr⟩ := h
  simp only [HL.st, fp, add_none, Nat.zero_add, hz, List.toList_toArray, List.size_toArray, List.length_singleton, true_and, stC, Nat.add_zero]
  refine ⟨ho, ?_, ?_, ?_⟩
  · simp only [Hp.cell?, hr]; simp [hk]
  · simp only [Hp.frozen?, hr]; simp
  · refine hK _ ⟨r, e, rfl, ?_⟩ ?_
    · simp only [Hp.setCell, hr, Hp.put_same]; simp
    · intro b o hb hv
      simp only [bk, ne_eq, Option.some.injEq] at hv
      simp only [Hp.setCell, hr]
      rw [Hp.put_ne _ _ (Ne.symm hv)]
      exact hb
theorem Cel.st0 (h : Cel H p cs) {x : Value} {K : Hp → Prop} (hk : 0 < cs.length) (ho : oneCell x = true) (hz : x.cells = #[x]) (hK : ∀ H', Cel H' p (cs.set 0 x) → Off p H H' → K H') : HL.st 1 p x H K := by
  have : p = fp p 0 := by obtain ⟨r, e, rfl, hr⟩ := h; simp [fp, add_none]
  have h2 := h.st (K := K) hk ho hz hK
  rwa [← this] at h2
theorem Cel.stn (h : Cel H p cs) {ws : List Value} {n : Nat} {K : Hp → Prop} (hn : ws.length = n) (hl : cs.length = n) (ho : ∀ x ∈ ws, oneCell x = true) (hK : ∀ H', Cel H' p ws → Off p H H' → K H') : HL.st n p (.agg ws.toArray) H K := by
  obtain ⟨r, e, rfl, hr⟩ := h
  simp only [HL.st, Value.cells, List.size_toArray, hn, true_and]
  refine stC_run (b := r) (e := e) ws _ 0 cs.toArray H rfl rfl hr (by simp; omega) ho ?_
  intro H' cs' h1 h2 h3 h4 h5
  refine hK H' ⟨r, e, rfl, ?_⟩ ?_
  · rw [h1]
    have : cs' = ws.toArray := by
      apply Array.ext_getElem?
      intro i
      by_cases hi : i < ws.length
      · have := h4 i hi
        simp only [Nat.zero_add] at this
        rw [this]; simp [hi]
      · rw [Array.getElem?_eq_none (by rw [h2]; simp; omega), Array.getElem?_eq_none (by simp; omega)]
    rw [this]
  · intro b o hb hv
    simp only [bk, ne_eq, Option.some.injEq] at hv
    rw [h5 b (Ne.symm hv)]; exact hb
end
end Go.Proofs.YtnijdhlmimemcaaGreatDoor.HL
/- Lists of truths: copies, and what is alike; lengths that are paid for. -/
namespace Go.Proofs.YtnijdhlmimemcaaGreatDoor
open HL
set_option maxRecDepth 100000
end Go.Proofs.YtnijdhlmimemcaaGreatDoor
/- Fields: which are valid, which are plain, and what lies where, round and round. -/
namespace Go.Proofs.YtnijdhlmimemcaaGreatDoor
open HL
set_option maxRecDepth 100000
def sidesF (r c : Int) : Prop := (1 ≤ r ∧ r ≤ 24) ∧ (1 ≤ c ∧ c ≤ 24)
instance (r c : Int) : Decidable (sidesF r c) := by unfold sidesF; infer_instance
theorem sidesF_mul {r c : Int} (h : sidesF r c) : 1 ≤ r * c ∧ r * c ≤ 576 := by
  obtain ⟨⟨h1, h2⟩, h3, h4⟩ := h
  have a := Int.mul_le_mul h2 h4 (by omega) (by omega)
  have b := Int.mul_le_mul h1 h3 (by omega) (by omega)
  omega
/-- A field whose cells are from 0 to n. -/
def fieldN (n r c : Int) (l : List Int) : Prop := sidesF r c ∧ (l.length : Int) = r * c ∧ ∀ x ∈ l, 0 ≤ x ∧ x ≤ n
instance (n r c : Int) (l : List Int) : Decidable (fieldN n r c l) := by unfold fieldN; infer_instance
theorem vInt_mulF (a b : Int) : vInt .mul (.int .i64 a) (.int .i64 b) = some (.int .i64 (IntKind.i64.wrap (a * b))) := by simp only [vInt, if_true]
theorem fieldN_len {n r c : Int} {l : List Int} (h : fieldN n r c l) : l.length ≤ 576 := by
  have := sidesF_mul h.1
  have := h.2.1
  omega
theorem fieldN_at {n r c : Int} {l : List Int} (h : fieldN n r c l) {i : Int} (h0 : 0 ≤ i) (hi : i < r * c) : 0 ≤ at_ 0 l i ∧ at_ 0 l i ≤ n :=
  h.2.2 _ (at_mem 0 l h0 (by rw [h.2.1]; exact hi))
theorem C.spec_l04Is {p vc : Value} {r c : Int} {l : List Int} {H : Hp} {K : Value → Hp → Prop} (hp : Cel H p [.int .i64 r, .int .i64 c, vc]) (hc : Sl eI H vc l)
    (k1 : l.length ≤ 9223372036854775807) (hk : K (.bool (decide (fieldN 9 r c l))) H) : HT prg I.spec_l04Is [p].toArray H K := by
 refine R.spec_l04Is ?_
 unfold F.spec_l04Is
 simp only [hp.nilC, hp.fa, hp.ld 0 rfl, ob_some]
 refine C.spec_l00In ⟨Le.refl _, ?_⟩
 by_cases c1 : 1 ≤ r ∧ r ≤ 24
 ·simp only [decide_eq_true c1, hp.nilC, hp.fa, hp.ld 1 rfl, EV]
  refine C.spec_l00In ⟨Le.refl _, ?_⟩
  by_cases c2 : 1 ≤ c ∧ c ≤ 24
  ·have hs : sidesF r c := ⟨c1, c2⟩
   have hm := sidesF_mul hs
   simp only [decide_eq_true c2, hp.nilC, hp.fa, hp.ld 2 rfl, hp.ld 0 rfl, hp.ld 1 rfl, hc.len, vInt_mulF, wrap64 (show -9223372036854775808 ≤ r * c by omega) (show r * c < 9223372036854775808 by omega), EV]
   by_cases c3 : (l.length : Int) = r * c
   ·have f3 : decide ((l.length : Int) ≠ r * c) = false := decide_eq_false (fun h => h c3)
    simp only [f3, EV]
    unfold jn; dsimp only
    refine ⟨fun n σ H1 => ∃ i : Nat, n = l.length - i ∧ i ≤ l.length ∧ H1 = H ∧ σ 0 = p ∧ σ 3 = .int .i64 i ∧ ∀ x ∈ l.take i, 0 ≤ x ∧ x ≤ 9, ⟨_, 0, rfl, by omega, rfl, rfl, rfl, by simp⟩, ?_⟩
    rintro n σ H1 ⟨i, rfl, hi', rfl, h0, h3, hall⟩
    simp only [h0, h3, hp.nilC, hp.fa, hp.ld 2 rfl, hc.len, vInt_lss, ob_some]
    refine cnd_d (fun hlt => ?_) (fun hge => ?_)
    ·have hlt' : i < l.length := by omega
     rw [hc.ix (by omega) hlt, ob_some, hc.ld 0 (by omega) hlt, ob_some]
     refine C.spec_l00In ?_
     rw [vUn_not, ob_some]
     refine cnd_i (fun hb => ?_) (fun hb => ?_)
     ·refine retK (K := K) (v' := .bool false) rfl (kF (K := K) hk ?_)
      intro hh
      have := hh.2.2 _ (at_mem 0 l (i := i) (by omega) hlt)
      simp [this] at hb
     ·rw [vInt_add (by omega) (by omega), ob_some]
      refine nxt (l.length - (i + 1)) (by omega) ⟨i + 1, rfl, by omega, rfl, h0, rfl, ?_⟩
      rw [take_at 0 l hlt']
      intro x hx
      rcases List.mem_append.mp hx with hx | hx
      ·exact hall x hx
      ·simp only [List.mem_singleton] at hx; subst hx; simpa using hb
    ·rw [List.take_of_length_le (by omega)] at hall
     exact retK (K := K) (v' := .bool true) rfl (kT (K := K) hk ⟨hs, c3, hall⟩)
   ·have f3 : decide ((l.length : Int) ≠ r * c) = true := decide_eq_true c3
    simp only [f3, EV]; exact kF (K := K) hk (fun h => c3 h.2.1)
  ·simp only [decide_eq_false c2, EV]; exact kF (K := K) hk (fun h => c2 h.1.2)
 ·simp only [decide_eq_false c1, EV]; exact kF (K := K) hk (fun h => c1 h.1.1)
theorem C.spec_l04Plain {p vc : Value} {r c : Int} {l : List Int} {H : Hp} {K : Value → Hp → Prop} (hp : Cel H p [.int .i64 r, .int .i64 c, vc]) (hc : Sl eI H vc l)
    (k1 : l.length ≤ 9223372036854775807) (hk : K (.bool (decide (fieldN 1 r c l))) H) : HT prg I.spec_l04Plain [p].toArray H K := by
 refine R.spec_l04Plain ?_
 unfold F.spec_l04Plain
 refine C.spec_l04Is hp hc k1 ?_
 by_cases c1 : fieldN 9 r c l
 ·simp only [decide_eq_true c1, EV]
  unfold jn; dsimp only
  refine ⟨fun n σ H1 => ∃ i : Nat, n = l.length - i ∧ i ≤ l.length ∧ H1 = H ∧ σ 0 = p ∧ σ 3 = .int .i64 i ∧ ∀ x ∈ l.take i, x ≤ 1, ⟨_, 0, rfl, by omega, rfl, rfl, rfl, by simp⟩, ?_⟩
  rintro n σ H1 ⟨i, rfl, hi', rfl, h0, h3, hall⟩
  simp only [h0, h3, hp.nilC, hp.fa, hp.ld 2 rfl, hc.len, vInt_lss, ob_some]
  refine cnd_d (fun hlt => ?_) (fun hge => ?_)
  ·have hlt' : i < l.length := by omega
   rw [hc.ix (by omega) hlt, ob_some, hc.ld 0 (by omega) hlt, ob_some, vInt_gtr, ob_some]
   refine cnd_d (fun hb => ?_) (fun hb => ?_)
   ·refine retK (K := K) (v' := .bool false) rfl (kF (K := K) hk ?_)
    intro hh
    have := hh.2.2 _ (at_mem 0 l (i := i) (by omega) hlt)
    omega
   ·rw [vInt_add (by omega) (by omega), ob_some]
    refine nxt (l.length - (i + 1)) (by omega) ⟨i + 1, rfl, by omega, rfl, h0, rfl, ?_⟩
    rw [take_at 0 l hlt']
    intro x hx
    rcases List.mem_append.mp hx with hx | hx
    ·exact hall x hx
    ·simp only [List.mem_singleton] at hx; subst hx; omega
  ·rw [List.take_of_length_le (by omega)] at hall
   exact retK (K := K) (v' := .bool true) rfl (kT (K := K) hk ⟨c1.1, c1.2.1, fun x hx => ⟨(c1.2.2 x hx).1, hall x hx⟩⟩)
 ·simp only [decide_eq_false c1, EV]; exact kF (K := K) hk (fun h => c1 ⟨h.1, h.2.1, fun x hx => by have := h.2.2 x hx; omega⟩)
theorem C.impl_isSide {r : Int} {H : Hp} {K : Value → Hp → Prop} (hk : K (.bool (decide (1 ≤ r ∧ r ≤ 24))) H) : HT prg I.impl_isSide [.int .i64 r].toArray H K := R.impl_isSide (C.impl_within hk)
theorem C.impl_ValidField {vc : Value} {r c : Int} {l : List Int} {H : Hp} {K : Value → Hp → Prop} (hc : Sl eI H vc l)
    (k1 : l.length ≤ 9223372036854775807) (hk : ∀ H', Le H H' → K (.bool (decide (fieldN 9 r c l))) H') : HT prg I.impl_ValidField [.agg #[.int .i64 r, .int .i64 c, vc]].toArray H K := by
 refine R.impl_ValidField ?_
 unfold F.impl_ValidField
 refine nw_i (fun p H1 hp np le1 => ?_)
 replace hk := hk H1 le1
 replace hc := hc.le le1
 simp only [hp.fa, hp.ld 0 rfl, hp.ld 1 rfl, vInt_mulF, ob_some]
 refine C.impl_isSide ?_
 by_cases c1 : 1 ≤ r ∧ r ≤ 24
 ·simp only [decide_eq_true c1, hp.fa, hp.ld 1 rfl, EV]
  refine C.impl_isSide ?_
  by_cases c2 : 1 ≤ c ∧ c ≤ 24
  ·have hs : sidesF r c := ⟨c1, c2⟩
   have hm := sidesF_mul hs
   simp only [decide_eq_true c2, hp.fa, hp.ld 2 rfl, wrap64 (show -9223372036854775808 ≤ r * c by omega) (show r * c < 9223372036854775808 by omega), EV]
   refine C.impl_areMany hc k1 ?_
   exact kQ (K := K) hk ⟨fun h => ⟨⟨by have := h.2.1; omega, by have := h.2.1; omega⟩, h.2.2⟩, fun h => ⟨hs, by omega, h.2⟩⟩
  ·simp only [decide_eq_false c2, EV]; exact kF (K := K) hk (fun h => c2 h.1.2)
 ·simp only [decide_eq_false c1, EV]; exact kF (K := K) hk (fun h => c1 h.1.1)
theorem C.impl_isPlain {vc : Value} {r c : Int} {l : List Int} {H : Hp} {K : Value → Hp → Prop} (hc : Sl eI H vc l)
    (k1 : l.length ≤ 9223372036854775807) (hk : ∀ H', Le H H' → K (.bool (decide (fieldN 1 r c l))) H') : HT prg I.impl_isPlain [.agg #[.int .i64 r, .int .i64 c, vc]].toArray H K := by
 refine R.impl_isPlain ?_
 unfold F.impl_isPlain
 refine nw_i (fun p H1 hp np le1 => ?_)
 refine ob_i (hp.ldn rfl) ?_
 refine C.impl_ValidField (hc.le le1) k1 (fun H2 le2 => ?_)
 replace hk := hk H2 (le1.trans le2)
 replace hc := hc.le (le1.trans le2)
 replace hp := hp.le le2
 by_cases c1 : fieldN 9 r c l
 ·simp only [decide_eq_true c1, hp.fa, hp.ld 2 rfl, EV]
  refine C.impl_areWithin hc k1 ?_
  exact kQ (K := K) hk ⟨fun h => h.2.2, fun h => ⟨c1.1, c1.2.1, h⟩⟩
 ·simp only [decide_eq_false c1, EV]; exact kF (K := K) hk (fun h => c1 ⟨h.1, h.2.1, fun x hx => by have := h.2.2 x hx; omega⟩)
theorem fm_eq {a b : Int} (hb : 0 < b) : (a.tmod b + b).tmod b = a % b := by
  have h0 : 0 ≤ a.tmod b + b := by have := Int.lt_tmod_of_pos a hb; omega
  rw [Int.tmod_eq_emod_of_nonneg h0, Int.tmod_def, show a - b * a.tdiv b + b = a + b * (1 - a.tdiv b) by rw [Int.mul_sub, Int.mul_one]; omega, Int.add_mul_emod_self_left]
theorem tmod_bnd {a b : Int} (hb : 0 < b) : -b < a.tmod b ∧ a.tmod b < b := ⟨by have := Int.lt_tmod_of_pos a hb; omega, Int.tmod_lt_of_pos a hb⟩
/-- A place, round and round. -/
def roundF (r c i k : Int) : Int := i % r * c + k % c
theorem roundF_lt {r c i k : Int} (h : sidesF r c) : 0 ≤ i % r ∧ i % r < r ∧ 0 ≤ k % c ∧ k % c < c ∧ 0 ≤ i % r * c ∧ i % r * c ≤ 576 ∧ 0 ≤ roundF r c i k ∧ roundF r c i k < r * c := by
  obtain ⟨⟨h1, h2⟩, h3, h4⟩ := h
  have a1 := Int.emod_nonneg i (b := r) (by omega)
  have a2 := Int.emod_lt_of_pos i (b := r) (by omega)
  have a3 := Int.emod_nonneg k (b := c) (by omega)
  have a4 := Int.emod_lt_of_pos k (b := c) (by omega)
  have a5 := Int.mul_nonneg (a := i % r) (b := c) a1 (by omega)
  have a6 := Int.mul_le_mul (a := i % r) (b := c) (c := r - 1) (d := c) (by omega) (by omega) (by omega) (by omega)
  rw [Int.sub_mul] at a6
  have a7 := Int.mul_le_mul h2 h4 (by omega) (by omega)
  unfold roundF
  omega
theorem C.spec_l04Round {p vc : Value} {r c i k : Int} {H : Hp} {K : Value → Hp → Prop} (hp : Cel H p [.int .i64 r, .int .i64 c, vc]) (hs : sidesF r c)
    (hk : K (.int .i64 (roundF r c i k)) H) : HT prg I.spec_l04Round [p, .int .i64 i, .int .i64 k].toArray H K := by
 refine R.spec_l04Round ?_
 unfold F.spec_l04Round
 have b := roundF_lt (i := i) (k := k) hs
 have m := sidesF_mul hs
 obtain ⟨⟨h1, h2⟩, h3, h4⟩ := hs
 have t1 := tmod_bnd (a := i) (b := r) (by omega)
 have t2 := tmod_bnd (a := k) (b := c) (by omega)
 simp only [hp.nilC, hp.fa, hp.ld 0 rfl, hp.ld 1 rfl, ob_some]
 rw [vInt_rem (by omega), ob_some, vInt_add (by omega) (by omega), ob_some, vInt_rem (by omega), ob_some, vInt_rem (by omega), ob_some, vInt_add (by omega) (by omega), ob_some, vInt_rem (by omega), ob_some, fm_eq (by omega), fm_eq (by omega),
  vInt_mul (by omega) (by omega), ob_some, vInt_add (by unfold roundF at b; omega) (by unfold roundF at b; omega), ob_some]
 exact hk
theorem C.floorMod {a b : Int} {H : Hp} {K : Value → Hp → Prop} (h0 : -1000000 ≤ a) (h1 : a ≤ 1000000) (h2 : 0 < b) (h3 : b ≤ 1000000) (hk : K (.int .i64 (a % b)) H) : HT prg I.impl_floorMod [.int .i64 a, .int .i64 b].toArray H K := by
 refine R.impl_floorMod ?_
 unfold F.impl_floorMod
 have t1 := tmod_bnd (a := a) (b := b) h2
 rw [vInt_rem (by omega), ob_some, vInt_add (by omega) (by omega), ob_some, vInt_rem (by omega), ob_some, fm_eq h2]
 exact hk
theorem C.impl_Field_at {vc : Value} {r c i k : Int} {l : List Int} {H : Hp} {K : Value → Hp → Prop} (hc : Sl eI H vc l) (h0 : 0 ≤ i * c) (h1 : i * c ≤ 1000000) (h2 : 0 ≤ i * c + k) (h3 : i * c + k < l.length) (h4 : l.length ≤ 1000000)
    (hk : ∀ H', Le H H' → K (.int .i64 (at_ 0 l (i * c + k))) H') : HT prg I.impl_Field_at [.agg #[.int .i64 r, .int .i64 c, vc], .int .i64 i, .int .i64 k].toArray H K := by
 refine R.impl_Field_at ?_
 unfold F.impl_Field_at
 refine nw_i (fun p H1 hp np le1 => ?_)
 simp only [hp.fa, hp.ld 1 rfl, hp.ld 2 rfl, ob_some]
 rw [vInt_mul (by omega) (by omega), ob_some, vInt_add (by omega) (by omega), ob_some, (hc.le le1).ix h2 h3, ob_some, (hc.le le1).ld 0 h2 h3, ob_some]
 exact hk _ le1
theorem C.look_round {vc : Value} {r c i k : Int} {l : List Int} {H : Hp} {K : Value → Hp → Prop} (hc : Sl eI H vc l) (hs : sidesF r c) (hl : (l.length : Int) = r * c) (i0 : -1000 ≤ i) (i1 : i ≤ 1000) (k0 : -1000 ≤ k) (k1 : k ≤ 1000)
    (hk : ∀ H', Le H H' → K (.int .i64 (at_ 0 l (roundF r c i k))) H') : HT prg I.impl_Field_look [.agg #[.int .i64 r, .int .i64 c, vc], .int .i64 i, .int .i64 k, .bool true].toArray H K := by
 refine R.impl_Field_look ?_
 unfold F.impl_Field_look
 refine nw_i (fun p H1 hp np le1 => ?_)
 refine cnd_t1 ?_
 have b := roundF_lt (i := i) (k := k) hs
 have m := sidesF_mul hs
 have q1 := hs.1
 have q2 := hs.2
 refine ob_i (hp.ldn rfl) ?_
 simp only [hp.fa, hp.ld 0 rfl, hp.ld 1 rfl, ob_some]
 refine C.floorMod (by omega) (by omega) (by omega) (by omega) ⟨Le.refl _, ?_⟩
 refine C.floorMod (by omega) (by omega) (by omega) (by omega) ⟨Le.refl _, ?_⟩
 refine C.impl_Field_at (hc.le le1) (by omega) (by omega) (by unfold roundF at b; omega) (by rw [hl]; unfold roundF at b; omega) (by omega) (fun H2 le2 => ⟨le2, ?_⟩)
 exact hk _ (le1.trans le2)
end Go.Proofs.YtnijdhlmimemcaaGreatDoor
/- Fields that are made by a function of rows and columns, and fields that grow. -/
namespace Go.Proofs.YtnijdhlmimemcaaGreatDoor
open HL
set_option maxRecDepth 100000
theorem Apart.app {H : Hp} {x u u' : Value} (hx : ∀ b, bk x = some b → ∃ o, H b = some o) (ha : Apart x u) (hb : ∀ b, bk u' = some b → bk u = some b ∨ H b = none) : Apart x u' := fun b h1 h2 => by
  rcases hb b h2 with h | h
  · exact ha b h1 h
  · obtain ⟨o, ho⟩ := hx b h1; rw [h] at ho; simp at ho
theorem Nw.app {H0 H : Hp} {u u' : Value} (hn : Nw H0 u) (hl : Le H0 H) (hb : ∀ b, bk u' = some b → bk u = some b ∨ H b = none) : Nw H0 u' := fun b h => by
  rcases hb b h with h1 | h1
  · exact hn b h1
  · cases ho : H0 b with
    | none => rfl
    | some o => rw [hl b o ho] at h1; simp at h1
theorem apd_one {α : Type} {enc : α → Value} {z : Value} {b : Nat} {e : TypeId} {u t : Value} {x : α} {l : List α} {H : Hp} {K : Value → Hp → Prop} (o : Own enc H u l) (ot : Sl enc H t [x]) (ho : ∀ x, oneCell (enc x) = true) (hb : b ≤ 64) (hl : l.length ≤ 68719476736)
    (hk : ∀ u' H', Own enc H' u' (l ++ [x]) → Off u H H' → (∀ b, bk u' = some b → bk u = some b ∨ H b = none) → K u' H') : apd 1 b #[z] e u t H K := by
  refine o.apd ot ho (by simp; omega) (fun c hc => ?_) hk
  have := nsc_le hc
  simp only [List.length_singleton] at this ⊢
  exact Nat.le_trans (Nat.mul_le_mul this hb) (by omega)
theorem bS_i {α : Type} {enc : α → Value} {len : Nat} {z : Value} {e : TypeId} {parts : List (Nat × Value)} {l : List α} {H : Hp} {K : Value → Hp → Prop} (h1 : len ≤ 1000) (hl : l.length = len)
    (hf : Instr.fill (fun i => some (i * 1, 1)) (if len * 1 = 0 then #[] else zrow #[z] (len * 1)) parts = some (l.map enc).toArray) (hk : ∀ v H', Own enc H' v l → Nw H v → Le H H' → K v H') : bS 1 len #[z] e parts H K := by
  refine ⟨by omega, ?_⟩
  rw [hf]
  intro r hr
  subst hl
  refine hk _ _ ⟨some ⟨r, 0, none⟩, l.length, rfl, Nat.le_refl _, fun _ => ⟨r, 0, _, e, rfl, Hp.put_same _ _ _, by simp, fun i hi => by simp [hi]⟩⟩ ?_ (Le.put _ hr)
  intro b hb
  simp only [bk] at hb
  split at hb
  · simp at hb
  · simp only [Option.some.injEq] at hb; subst hb; exact hr
/-- A field's cells, row by row, by a function. -/
def mkL (c : Int) (g : Int → Int → Int) (n : Nat) : List Int := (List.range n).map fun (t : Nat) => g ((t : Int) / c) ((t : Int) % c)
theorem mkL_length (c : Int) (g : Int → Int → Int) (n : Nat) : (mkL c g n).length = n := by simp [mkL]
theorem mkL_succ (c : Int) (g : Int → Int → Int) (n : Nat) : mkL c g (n + 1) = mkL c g n ++ [g ((n : Int) / c) ((n : Int) % c)] := by simp [mkL, List.range_succ]
theorem divmod {c : Int} {i k : Int} (hc : 0 < c) (k0 : 0 ≤ k) (k1 : k < c) : (i * c + k) / c = i ∧ (i * c + k) % c = k := by
  constructor
  · rw [Int.add_comm, Int.add_mul_ediv_right _ _ (by omega), Int.ediv_eq_zero_of_lt k0 k1]; omega
  · rw [Int.add_comm, Int.add_mul_emod_self_right, Int.emod_eq_of_lt k0 k1]
theorem cast_ix {c : Int} {i k : Nat} (hc : 0 ≤ c) : ((i * c.toNat + k : Nat) : Int) = i * c + k := by rw [Int.natCast_add, Int.natCast_mul, Int.toNat_of_nonneg hc]
theorem C.impl_madeField {fv : Value} {rr cc : Int} {g : Int → Int → Int} {H : Hp} {K : Value → Hp → Prop} (r1 : 0 ≤ rr) (r2 : rr ≤ 1000) (c1 : 1 ≤ cc) (c2 : cc ≤ 1000)
    (hcl : ∀ H' (i k : Nat) (Z : Value → Hp → Prop), Le H H' → (i : Int) < rr → (k : Int) < cc → (∀ H'', Le H' H'' → Z (.int .i64 (g i k)) H'') → callV prg fv [.int .i64 i, .int .i64 k] H' Z)
    (hk : ∀ u H', Own eI H' u (mkL cc g (rr.toNat * cc.toNat)) → Nw H u → Le H H' → K (.agg #[.int .i64 rr, .int .i64 cc, u]) H') :
    HT prg I.impl_madeField [.int .i64 rr, .int .i64 cc, fv].toArray H K := by
 refine R.impl_madeField ?_
 unfold F.impl_madeField
 refine nw_i (fun q H1 oq nq le1 => ?_)
 replace oq : Cel H1 q [.int .i64 0, .int .i64 0, .slice none 0 0] := oq
 refine ob_i (a := .agg #[.int .i64 rr, .int .i64 cc, .slice none 0 0]) rfl ?_
 refine nw_i (fun s H2 os ns le2 => ?_)
 have aqs : Apart q s := oq.apart ns
 replace oq := oq.le le2
 have ns0 : Nw H s := ns.le le1
 have nq0 : Nw H q := nq
 refine os.stn (ws := [.int .i64 rr, .int .i64 cc, .slice none 0 0]) rfl rfl (by simp [oneCell]) (fun H3 os off3 => ?_)
 replace oq := oq.off off3 aqs
 have leB : Le H H3 := off3.le (le1.trans le2) ns0
 refine jn_i (fun σ' H' => σ' 6 = q ∧ σ' 7 = s ∧ Cel H' q [.int .i64 0, .int .i64 0, .slice none 0 0] ∧ Le H H' ∧ ∃ u, Cel H' s [.int .i64 rr, .int .i64 cc, u] ∧ Own eI H' u (mkL cc g (rr.toNat * cc.toNat)) ∧ Nw H u ∧ Apart q u) (fun σ' H' hP => ?_) (fun J7 hJ7 => ?_)
 ·obtain ⟨g6, g7, oq, le, u, os, ou, nu, aqu⟩ := hP
  rw [g6, g7]
  refine ob_i (os.ldn rfl) ?_
  refine oq.stn (ws := [.int .i64 rr, .int .i64 cc, u]) rfl rfl (oc1 rfl (oc1 rfl (oc1 ou.one oc0))) (fun H6 oq off6 => ?_)
  refine ob_i (oq.ldn rfl) ?_
  exact hk u H6 (ou.off off6 aqu.symm) nu (off6.le le nq0)
 refine ⟨fun n σ H4 => ∃ i : Nat, n = rr.toNat - i ∧ (i : Int) ≤ rr ∧ σ 1 = .int .i64 cc ∧ σ 2 = fv ∧ σ 6 = q ∧ σ 7 = s ∧ σ 13 = .int .i64 rr ∧ σ 14 = .int .i64 i ∧ Cel H4 q [.int .i64 0, .int .i64 0, .slice none 0 0] ∧ Le H H4 ∧
   ∃ u, Cel H4 s [.int .i64 rr, .int .i64 cc, u] ∧ Own eI H4 u (mkL cc g (i * cc.toNat)) ∧ Nw H u ∧ Apart q u ∧ Apart s u,
  ⟨_, 0, rfl, by omega, rfl, rfl, rfl, rfl, rfl, rfl, oq, leB, .slice none 0 0, os, by rw [Nat.zero_mul]; exact Own.nil_of none, fun b hb => by simp [bk] at hb, fun b _ hb => by simp [bk] at hb, fun b _ hb => by simp [bk] at hb⟩, ?_⟩
 rintro n σ H4 ⟨i, rfl, hiR, g1, g2, g6, g7, g13, g14, oq, le4, hu⟩
 simp only [g1, g13, g14, vInt_lss, ob_some]
 refine cnd_d (fun hlt => ?_) (fun hge => ?_)
 ·refine jn_i (fun σ' H' => σ' 1 = .int .i64 cc ∧ σ' 2 = fv ∧ σ' 6 = q ∧ σ' 7 = s ∧ σ' 13 = .int .i64 rr ∧ σ' 14 = .int .i64 i ∧ Cel H' q [.int .i64 0, .int .i64 0, .slice none 0 0] ∧ Le H H' ∧
    ∃ u, Cel H' s [.int .i64 rr, .int .i64 cc, u] ∧ Own eI H' u (mkL cc g ((i + 1) * cc.toNat)) ∧ Nw H u ∧ Apart q u ∧ Apart s u) (fun σ' H' hP => ?_) (fun J13 hJ13 => ?_)
  ·obtain ⟨z1, z2, z6, z7, z13, z14, zq, zle, zu⟩ := hP
   rw [z14, vInt_add (by omega) (by omega), ob_some]
   exact nxt (rr.toNat - (i + 1)) (by omega) ⟨i + 1, rfl, by omega, z1, z2, z6, z7, z13, rfl, zq, zle, zu⟩
  refine ⟨fun n σ H5 => ∃ k : Nat, n = cc.toNat - k ∧ (k : Int) ≤ cc ∧ σ 1 = .int .i64 cc ∧ σ 2 = fv ∧ σ 6 = q ∧ σ 7 = s ∧ σ 13 = .int .i64 rr ∧ σ 14 = .int .i64 i ∧ σ 8 = .int .i64 i ∧ σ 17 = .int .i64 cc ∧ σ 18 = .int .i64 k ∧ Cel H5 q [.int .i64 0, .int .i64 0, .slice none 0 0] ∧ Le H H5 ∧
    ∃ u, Cel H5 s [.int .i64 rr, .int .i64 cc, u] ∧ Own eI H5 u (mkL cc g (i * cc.toNat + k)) ∧ Nw H u ∧ Apart q u ∧ Apart s u,
   ⟨_, 0, rfl, by omega, g1, g2, g6, g7, g13, g14, rfl, rfl, rfl, oq, le4, hu⟩, ?_⟩
  rintro n σ H5 ⟨k, rfl, hkC, z1, z2, z6, z7, z13, z14, z8, z17, z18, zq, le5, u, zs, zu, nu, aqu, asu⟩
  simp only [z2, z7, z8, z17, z18, vInt_lss, ob_some]
  refine cnd_d (fun hkl => ?_) (fun hkg => ?_)
  ·simp only [zs.fa, zs.ld 2 rfl, ob_some]
   refine hcl H5 i k _ le5 hlt hkl (fun H6 le6 => ⟨le6, ?_⟩)
   refine bS_i (enc := eI) (l := [g i k]) (by omega) rfl (by kernel_rfl) (fun t H7 ot nt le7 => ?_)
   have le57 := le6.trans le7
   replace zq := zq.le le57
   replace zs := zs.le le57
   replace zu := zu.le le57
   have leB7 := le5.trans le57
   have hlen : (mkL cc g (i * cc.toNat + k)).length ≤ 68719476736 := by
    rw [mkL_length]
    have : i * cc.toNat ≤ 1000 * 1000 := Nat.mul_le_mul (by omega) (by omega)
    omega
   refine apd_one zu ot.sl (fun _ => rfl) (by omega) hlen (fun u' H8 ou' off8 hbk => ?_)
   have aqu' : Apart q u' := Apart.app zq.known aqu hbk
   have asu' : Apart s u' := Apart.app zs.known asu hbk
   have nu' : Nw H u' := Nw.app nu leB7 hbk
   replace zq := zq.off off8 aqu
   replace zs := zs.off off8 asu
   have leB8 : Le H H8 := off8.le leB7 nu
   refine zs.st (by simp) ou'.one ou'.cells (fun H9 os9 off9 => ?_)
   rw [vInt_add (by omega) (by omega), ob_some]
   refine nxt (cc.toNat - (k + 1)) (by omega) ⟨k + 1, rfl, by omega, z1, z2, z6, z7, z13, z14, z8, z17, rfl, zq.off off9 aqs, off9.le leB8 ns0, u', os9, ?_, nu', aqu', asu'⟩
   have hd := divmod (c := cc) (i := i) (k := k) (by omega) (by omega) hkl
   rw [← Nat.add_assoc, mkL_succ, cast_ix (by omega), hd.1, hd.2]
   exact ou'.off off9 asu'.symm
  ·have e : k = cc.toNat := by omega
   refine hJ13 _ _ ⟨z1, z2, z6, z7, z13, z14, zq, le5, u, zs, ?_, nu, aqu, asu⟩
   rw [Nat.add_mul, Nat.one_mul, ← e]; rw [← e] at zu; exact zu
 ·have e : i = rr.toNat := by omega
  subst e
  obtain ⟨u, os, ou, nu, aqu, asu⟩ := hu
  exact hJ7 _ _ ⟨g6, g7, oq, le4, u, os, ou, nu, aqu⟩
/-- A cell, or 0 beyond the border. -/
def flatF (r c : Int) (l : List Int) (i k : Int) : Int := if (0 ≤ i ∧ i ≤ r - 1) ∧ 0 ≤ k ∧ k ≤ c - 1 then at_ 0 l (i * c + k) else 0
theorem C.impl_Field_has {vc : Value} {r c i k : Int} {H : Hp} {K : Value → Hp → Prop} (hs : sidesF r c) (hk : ∀ H', Le H H' → K (.bool (decide ((0 ≤ i ∧ i ≤ r - 1) ∧ 0 ≤ k ∧ k ≤ c - 1))) H') :
    HT prg I.impl_Field_has [.agg #[.int .i64 r, .int .i64 c, vc], .int .i64 i, .int .i64 k].toArray H K := by
 refine R.impl_Field_has ?_
 unfold F.impl_Field_has
 refine nw_i (fun p H1 hp np le1 => ?_)
 replace hk := hk H1 le1
 have q1 := hs.1
 have q2 := hs.2
 simp only [hp.fa, hp.ld 0 rfl, ob_some]
 rw [vInt_sub (by omega) (by omega), ob_some]
 refine C.impl_within ?_
 by_cases c1 : 0 ≤ i ∧ i ≤ r - 1
 ·simp only [decide_eq_true c1, hp.fa, hp.ld 1 rfl, EV]
  rw [vInt_sub (by omega) (by omega), ob_some]
  refine C.impl_within ?_
  exact kQ (K := K) hk ⟨fun h => h.2, fun h => ⟨c1, h⟩⟩
 ·simp only [decide_eq_false c1, EV]; exact kF (K := K) hk (fun h => c1 h.1)
theorem C.look_flat {vc : Value} {r c i k : Int} {l : List Int} {H : Hp} {K : Value → Hp → Prop} (hc : Sl eI H vc l) (hs : sidesF r c) (hl : (l.length : Int) = r * c)
    (hk : ∀ H', Le H H' → K (.int .i64 (flatF r c l i k)) H') : HT prg I.impl_Field_look [.agg #[.int .i64 r, .int .i64 c, vc], .int .i64 i, .int .i64 k, .bool false].toArray H K := by
 refine R.impl_Field_look ?_
 unfold F.impl_Field_look
 refine nw_i (fun p H1 hp np le1 => ?_)
 refine cnd_f1 ?_
 refine ob_i (hp.ldn rfl) ?_
 refine C.impl_Field_has hs (fun H2 le2 => ?_)
 rw [vUn_not, ob_some]
 have m := sidesF_mul hs
 by_cases c1 : (0 ≤ i ∧ i ≤ r - 1) ∧ 0 ≤ k ∧ k ≤ c - 1
 ·have hk' := fun H' h => hk H' h
  simp only [flatF, c1, and_self, if_true] at hk'
  simp only [decide_eq_true c1, EV]
  refine ob_i ((hp.le le2).ldn rfl) ?_
  have a1 := Int.mul_nonneg (a := i) (b := c) (by omega) (by have := hs.2; omega)
  have a2 := Int.mul_le_mul (a := i) (b := c) (c := r - 1) (d := c) (by omega) (by omega) (by have := hs.2; omega) (by have := hs.1; omega)
  rw [Int.sub_mul] at a2
  refine C.impl_Field_at (hc.le (le1.trans le2)) (by omega) (by have := hs.2; omega) (by omega) (by rw [hl]; omega) (by omega) (fun H3 le3 => ?_)
  exact hk' _ ((le1.trans le2).trans le3)
 ·have h1 := hk H2 (le1.trans le2)
  simp only [flatF, c1, if_false] at h1
  simp only [decide_eq_false c1, EV]; exact h1
end Go.Proofs.YtnijdhlmimemcaaGreatDoor
/- Fields with a border of zeros: the program's and the reference's. -/
namespace Go.Proofs.YtnijdhlmimemcaaGreatDoor
open HL
set_option maxRecDepth 100000
def groOk (r c : Int) (l : List Int) (b : Int) : Prop := fieldN 1 r c l ∧ (0 ≤ b ∧ b ≤ 24) ∧ (1 ≤ r + 2 * b ∧ r + 2 * b ≤ 24) ∧ (1 ≤ c + 2 * b ∧ c + 2 * b ≤ 24)
instance (r c : Int) (l : List Int) (b : Int) : Decidable (groOk r c l b) := by unfold groOk; infer_instance
theorem C.spec_l04New {rr cc : Int} {H : Hp} {K : Value → Hp → Prop} (r0 : 0 ≤ rr) (r1 : rr ≤ 24) (c0 : 0 ≤ cc) (c1 : cc ≤ 24)
    (hk : ∀ u H', Own eI H' u (List.replicate (rr.toNat * cc.toNat) 0) → Nw H u → Le H H' → K (.agg #[.int .i64 rr, .int .i64 cc, u]) H') : HT prg I.spec_l04New [.int .i64 rr, .int .i64 cc].toArray H K := by
 refine R.spec_l04New ?_
 unfold F.spec_l04New
 have m := Int.mul_le_mul r1 c1 c0 (by omega)
 have m0 := Int.mul_nonneg r0 c0
 refine nw_i (fun q H1 oq nq le1 => ?_)
 rw [vInt_mul (by omega) (by omega), ob_some]
 refine Own.mk_ (z := (0 : Int)) (by omega) (by omega) (by omega) (by omega) (fun u H2 ou nu le2 => ?_)
 have aqu : Apart q u := oq.apart nu
 replace oq := oq.le le2
 refine ob_i (a := .agg #[.int .i64 rr, .int .i64 cc, u]) (by obtain ⟨_, _, _, rfl⟩ := ou.isSl; rfl) ?_
 refine oq.stn (ws := [.int .i64 rr, .int .i64 cc, u]) rfl rfl (oc1 rfl (oc1 rfl (oc1 ou.one oc0))) (fun H3 oq off3 => ?_)
 refine ob_i (oq.ldn rfl) ?_
 rw [Int.toNat_mul r0 c0] at ou
 exact hk u H3 (ou.off off3 aqu.symm) (nu.le le1) (off3.le (le1.trans le2) nq)
end Go.Proofs.YtnijdhlmimemcaaGreatDoor
/- Rules for the walks that a program writes. -/
namespace Go.Proofs.YtnijdhlmimemcaaGreatDoor.HL
theorem ob_nd {p : Prop} [Decidable p] {K : Value → Prop} (h1 : p → K (.bool false)) (h2 : ¬ p → K (.bool true)) : ob (vUn .not (.bool (decide p))) K := by
  rw [vUn_not, ob_some]
  by_cases c : p
  · rw [decide_eq_true c]; exact h1 c
  · rw [decide_eq_false c]; exact h2 c
theorem vMx_max (k : IntKind) (a b : Int) : vMx true (.int k a) [.int k b] = some (.int k (max a b)) := by
  simp only [vMx]; congr 2; split <;> omega
theorem vMx_min (k : IntKind) (a b : Int) : vMx false (.int k a) [.int k b] = some (.int k (min a b)) := by
  simp only [vMx]; congr 2; split <;> omega
theorem vInt_quoN {a b : Int} (ha : 0 ≤ a) (ha' : a < 9223372036854775808) (hb : 0 < b) : vInt .quo (.int .i64 a) (.int .i64 b) = some (.int .i64 (a / b)) := by
  rw [vInt_quo hb (by omega) ha', Int.tdiv_eq_ediv_of_nonneg ha]
theorem vInt_remN {a b : Int} (ha : 0 ≤ a) (hb : 0 < b) : vInt .rem (.int .i64 a) (.int .i64 b) = some (.int .i64 (a % b)) := by
  rw [vInt_rem (by omega), Int.tmod_eq_emod_of_nonneg ha]
theorem Apart.ap2 {H : Hp} {x u u' : Value} (hx : ∀ b, bk x = some b → ∃ o, H b = some o) (ha : Apart x u) (hb : ∀ b, bk u' = some b → bk u = some b ∨ H b = none) : Apart x u' := fun b h1 h2 => by
  rcases hb b h2 with h | h
  · exact ha b h1 h
  · obtain ⟨o, ho⟩ := hx b h1; rw [h] at ho; simp at ho
theorem Nw.ap2 {H0 H : Hp} {u u' : Value} (hn : Nw H0 u) (hl : Le H0 H) (hb : ∀ b, bk u' = some b → bk u = some b ∨ H b = none) : Nw H0 u' := fun b h => by
  rcases hb b h with h1 | h1
  · exact hn b h1
  · cases ho : H0 b with
    | none => rfl
    | some o => rw [hl b o ho] at h1; simp at h1
theorem apd_any {α : Type} {enc : α → Value} {z : Value} {b : Nat} {e : TypeId} {u t : Value} {l m : List α} {H : Hp} {K : Value → Hp → Prop} (o : Own enc H u l) (ot : Sl enc H t m) (ho : ∀ x, oneCell (enc x) = true) (hb : b ≤ 64) (hl : l.length + m.length ≤ 68719476736)
    (hk : ∀ u' H', Own enc H' u' (l ++ m) → Off u H H' → (∀ b, bk u' = some b → bk u = some b ∨ H b = none) → K u' H') : apd 1 b #[z] e u t H K := by
  refine o.apd ot ho (by omega) (fun c hc => ?_) hk
  have := nsc_le hc
  exact Nat.le_trans (Nat.mul_le_mul this hb) (by omega)
end Go.Proofs.YtnijdhlmimemcaaGreatDoor.HL
/- The smallest part of a field with all cells of 1. -/
namespace Go.Proofs.YtnijdhlmimemcaaGreatDoor
open HL
set_option maxRecDepth 100000
/-- Cells that are filled one behind the other. -/
def fillL (c : Int) (g : Int → Int → Int) (N t : Nat) : List Int := (List.range N).map fun (j : Nat) => if j < t then g ((j : Int) / c) ((j : Int) % c) else 0
theorem fillL_length (c : Int) (g : Int → Int → Int) (N t : Nat) : (fillL c g N t).length = N := by simp [fillL]
theorem fillL_zero (c : Int) (g : Int → Int → Int) (N : Nat) : fillL c g N 0 = List.replicate N 0 := by
  rw [List.eq_replicate_iff]
  refine ⟨fillL_length c g N 0, fun x hx => ?_⟩
  simp only [fillL, List.mem_map] at hx
  obtain ⟨j, _, rfl⟩ := hx
  rw [if_neg (by omega)]
theorem fillL_end {c : Int} {g : Int → Int → Int} {N t : Nat} (h : N ≤ t) : fillL c g N t = mkL c g N := by
  unfold fillL mkL
  apply List.map_congr_left
  intro j hj
  have := List.mem_range.mp hj
  rw [if_pos (by omega)]
theorem fillL_set {c : Int} {g : Int → Int → Int} {N : Nat} {i k : Int} {t : Nat} (hc : 0 < c) (k0 : 0 ≤ k) (k1 : k < c) (ht : (t : Int) = i * c + k) (h : 0 ≤ i * c) : (fillL c g N t).set (i * c + k).toNat (g i k) = fillL c g N (t + 1) := by
  have hd := divmod (c := c) (i := i) (k := k) hc k0 k1
  rw [show (i * c + k).toNat = t by omega]
  apply List.ext_getElem?
  intro j
  rw [List.getElem?_set]
  simp only [fillL, List.getElem?_map, List.length_map, List.length_range]
  by_cases e : t = j
  · subst e
    rw [if_pos rfl]
    by_cases hj : t < N
    · rw [if_pos hj, List.getElem?_range hj]
      simp only [Option.map_some]
      rw [if_pos (by omega), ht, hd.1, hd.2]
    · rw [if_neg hj, List.getElem?_eq_none (by simpa using hj)]; rfl
  · rw [if_neg e]
    by_cases hj : j < N
    · rw [List.getElem?_range hj]
      simp only [Option.map_some]
      by_cases h1 : j < t
      · rw [if_pos h1, if_pos (by omega)]
      · rw [if_neg h1, if_neg (by omega)]
    · rw [List.getElem?_eq_none (by simpa using hj)]; rfl
theorem ix_lt {a b r c : Int} (a0 : 0 ≤ a) (a1 : a < r) (b0 : 0 ≤ b) (b1 : b < c) : 0 ≤ a * c ∧ a * c + b < r * c := by
  have := Int.mul_nonneg a0 (show (0 : Int) ≤ c by omega)
  have := Int.mul_le_mul (a := a) (b := c) (c := r - 1) (d := c) (by omega) (by omega) (by omega) (by omega)
  rw [Int.sub_mul] at this
  omega
theorem ix_le {a b : Int} (a0 : 0 ≤ a) (a1 : a ≤ 24) (b0 : 0 ≤ b) (b1 : b ≤ 24) : 0 ≤ a * b ∧ a * b ≤ 576 := by
  have := Int.mul_nonneg a0 b0
  have := Int.mul_le_mul a1 b1 b0 (by omega)
  omega
theorem fillL_len {c : Int} {g : Int → Int → Int} {rr cc : Int} {t : Nat} (h1 : 0 ≤ rr) (h2 : 0 ≤ cc) : ((fillL c g (rr.toNat * cc.toNat) t).length : Int) = rr * cc := by
  rw [fillL_length, Int.natCast_mul, Int.toNat_of_nonneg h1, Int.toNat_of_nonneg h2]
/-- A part of a field. -/
def cutG (c : Int) (l : List Int) (row col i k : Int) : Int := at_ 0 l ((row + i) * c + col + k)
/-- Where the cells of 1 lie, of the first t cells: top, bottom, left, right. -/
def trStep (c : Int) (l : List Int) (s : Int × Int × Int × Int) (j : Nat) : Int × Int × Int × Int :=
  if at_ 0 l (j : Int) = 1 then (min s.1 ((j : Int) / c), max s.2.1 ((j : Int) / c), min s.2.2.1 ((j : Int) % c), max s.2.2.2 ((j : Int) % c)) else s
def trS (r c : Int) (l : List Int) (t : Nat) : Int × Int × Int × Int := (List.range t).foldl (trStep c l) (r, -1, c, -1)
theorem trS_t {r c : Int} {l : List Int} {t : Nat} (h : at_ 0 l (t : Int) = 1) :
    trS r c l (t + 1) = (min (trS r c l t).1 ((t : Int) / c), max (trS r c l t).2.1 ((t : Int) / c), min (trS r c l t).2.2.1 ((t : Int) % c), max (trS r c l t).2.2.2 ((t : Int) % c)) := by
  unfold trS
  rw [List.range_succ, List.foldl_append, List.foldl_cons, List.foldl_nil, trStep, if_pos h]
theorem trS_f {r c : Int} {l : List Int} {t : Nat} (h : ¬ at_ 0 l (t : Int) = 1) : trS r c l (t + 1) = trS r c l t := by
  unfold trS
  rw [List.range_succ, List.foldl_append, List.foldl_cons, List.foldl_nil, trStep, if_neg h]
theorem trS_t2 {r c : Int} {l : List Int} {i k : Int} {t : Nat} (hc : 0 < c) (k0 : 0 ≤ k) (k1 : k < c) (ht : (t : Int) = i * c + k) (h : at_ 0 l (i * c + k) = 1) :
    trS r c l (t + 1) = (min (trS r c l t).1 i, max (trS r c l t).2.1 i, min (trS r c l t).2.2.1 k, max (trS r c l t).2.2.2 k) := by
  have hd := divmod (c := c) (i := i) (k := k) hc k0 k1
  rw [trS_t (by rw [ht]; exact h), ht, hd.1, hd.2]
theorem trS_f2 {r c : Int} {l : List Int} {i k : Int} {t : Nat} (ht : (t : Int) = i * c + k) (h : ¬ at_ 0 l (i * c + k) = 1) : trS r c l (t + 1) = trS r c l t := trS_f (by rw [ht]; exact h)
theorem trS_inv {r c : Int} {l : List Int} (hs : sidesF r c) : ∀ t : Nat, (t : Int) ≤ r * c →
    trS r c l t = (r, -1, c, -1) ∨ ((0 ≤ (trS r c l t).1 ∧ (trS r c l t).1 ≤ (trS r c l t).2.1 ∧ (trS r c l t).2.1 < r) ∧ 0 ≤ (trS r c l t).2.2.1 ∧ (trS r c l t).2.2.1 ≤ (trS r c l t).2.2.2 ∧ (trS r c l t).2.2.2 < c)
  | 0, _ => .inl rfl
  | t + 1, h => by
    have q1 := hs.1
    have q2 := hs.2
    have d1 := Int.ediv_nonneg (a := (t : Int)) (b := c) (by omega) (by omega)
    have d2 : (t : Int) / c < r := Int.ediv_lt_of_lt_mul (by omega) (by omega)
    have d3 := Int.emod_nonneg (t : Int) (b := c) (by omega)
    have d4 := Int.emod_lt_of_pos (t : Int) (b := c) (by omega)
    by_cases e : at_ 0 l (t : Int) = 1
    · rw [trS_t e]
      refine .inr ?_
      rcases trS_inv (l := l) hs t (by omega) with h1 | h1
      · rw [h1]; simp only; omega
      · simp only; omega
    · rw [trS_f e]
      exact trS_inv hs t (by omega)
theorem trS_bnd {r c : Int} {l : List Int} (hs : sidesF r c) (t : Nat) (h : (t : Int) ≤ r * c) : (0 ≤ (trS r c l t).1 ∧ (trS r c l t).1 ≤ r ∧ -1 ≤ (trS r c l t).2.1 ∧ (trS r c l t).2.1 < r) ∧ 0 ≤ (trS r c l t).2.2.1 ∧ (trS r c l t).2.2.1 ≤ c ∧ -1 ≤ (trS r c l t).2.2.2 ∧ (trS r c l t).2.2.2 < c := by
  have q1 := hs.1
  have q2 := hs.2
  rcases trS_inv (l := l) hs t h with h1 | h1
  · rw [h1]; simp only; omega
  · omega
theorem trS_ok {r c : Int} {l : List Int} (hs : sidesF r c) (t : Nat) (h : (t : Int) ≤ r * c) (hb : 0 ≤ (trS r c l t).2.1) : (trS r c l t).1 ≤ (trS r c l t).2.1 ∧ (trS r c l t).2.2.1 ≤ (trS r c l t).2.2.2 := by
  rcases trS_inv (l := l) hs t h with h1 | h1
  · rw [h1] at hb; simp only at hb; omega
  · omega
/-- The smallest part: its sides, its cells, and where it begins. -/
def trm (r c : Int) (l : List Int) : Int × Int × Int × Int := trS r c l (r * c).toNat
def trR (r c : Int) (l : List Int) : Int := (trm r c l).2.1 - (trm r c l).1 + 1
def trC (r c : Int) (l : List Int) : Int := (trm r c l).2.2.2 - (trm r c l).2.2.1 + 1
def trL (r c : Int) (l : List Int) : List Int := mkL (trC r c l) (cutG c l (trm r c l).1 (trm r c l).2.2.1) ((trR r c l).toNat * (trC r c l).toNat)
theorem trm_bnd {r c : Int} {l : List Int} (hs : sidesF r c) (hb : 0 ≤ (trm r c l).2.1) : 0 ≤ (trm r c l).1 ∧ 0 ≤ (trm r c l).2.2.1 ∧ 1 ≤ trR r c l ∧ 1 ≤ trC r c l ∧ (trm r c l).1 + trR r c l ≤ r ∧ (trm r c l).2.2.1 + trC r c l ≤ c := by
  have m := sidesF_mul hs
  have b := trS_bnd (l := l) hs (r * c).toNat (by omega)
  have d := trS_ok (l := l) hs (r * c).toNat (by omega) hb
  unfold trR trC trm
  omega
def trimOk (r c : Int) (l : List Int) : Prop := fieldN 1 r c l ∧ 0 ≤ (trm r c l).2.1
instance (r c : Int) (l : List Int) : Decidable (trimOk r c l) := by unfold trimOk; infer_instance
theorem C.spec_l00Min {a b : Int} {H : Hp} {K : Value → Hp → Prop} (hk : K (.int .i64 (min a b)) H) : HT prg I.spec_l00Min [.int .i64 a, .int .i64 b].toArray H K := by
 refine R.spec_l00Min ?_
 unfold F.spec_l00Min
 rw [vInt_lss, ob_some]
 refine cnd_d (fun h => ?_) (fun h => ?_)
 ·rw [show min a b = a by omega] at hk; exact hk
 ·rw [show min a b = b by omega] at hk; exact hk
theorem C.spec_l00Max {a b : Int} {H : Hp} {K : Value → Hp → Prop} (hk : K (.int .i64 (max a b)) H) : HT prg I.spec_l00Max [.int .i64 a, .int .i64 b].toArray H K := by
 refine R.spec_l00Max ?_
 unfold F.spec_l00Max
 rw [vInt_gtr, ob_some]
 refine cnd_d (fun h => ?_) (fun h => ?_)
 ·rw [show max a b = a by omega] at hk; exact hk
 ·rw [show max a b = b by omega] at hk; exact hk
theorem C.spec_l05Cut {p vc : Value} {r c row col rows cols : Int} {l : List Int} {H : Hp} {K : Value → Hp → Prop} (hp0 : Cel H p [.int .i64 r, .int .i64 c, vc]) (hvc0 : Sl eI H vc l) (hs : sidesF r c) (hl : (l.length : Int) = r * c)
    (h0 : 0 ≤ row) (h1 : 0 ≤ col) (h2 : 1 ≤ rows) (h3 : 1 ≤ cols) (h4 : row + rows ≤ r) (h5 : col + cols ≤ c) (hk : ∀ u H', Own eI H' u (mkL cols (cutG c l row col) (rows.toNat * cols.toNat)) → Nw H u → Le H H' → K (.agg #[.int .i64 rows, .int .i64 cols, u]) H') :
    HT prg I.spec_l05Cut [p, .int .i64 row, .int .i64 col, .int .i64 rows, .int .i64 cols].toArray H K := by
 have q1 := hs.1
 have q2 := hs.2
 have lE := Le.refl H
 have hp := hp0
 have hvc := hvc0
 refine R.spec_l05Cut ?_
 unfold F.spec_l05Cut
 refine nw_i (fun q H1 oq nn2 le3 => ?_)
 have nq : Nw H q := nn2.le lE
 replace hp := hp.le le3
 replace hvc := hvc.le le3
 replace lE := lE.trans le3
 replace oq : Cel H1 q [(.int .i64 (0)), (.int .i64 (0)), (.slice none 0 0)] := oq
 refine C.spec_l04New (by omega) (by omega) (by omega) (by omega) (fun u H4 ou nn6  le5 => ?_)
 have aqXu : Apart q u := oq.apart nn6
 have nu : Nw H u := nn6.le lE
 replace oq := oq.le le5
 replace hp := hp.le le5
 replace hvc := hvc.le le5
 replace lE := lE.trans le5
 refine nw_i (fun s H7 os nn8 le9 => ?_)
 have aqXs : Apart q s := oq.apart nn8
 have auXs : Apart u s := ou.apart nn8
 have ns : Nw H s := nn8.le lE
 replace oq := oq.le le9
 replace ou := ou.le le9
 replace hp := hp.le le9
 replace hvc := hvc.le le9
 replace lE := lE.trans le9
 replace os : Cel H7 s [(.int .i64 (0)), (.int .i64 (0)), (.slice none 0 0)] := os
 refine os.stn (ws := [(.int .i64 (rows)), (.int .i64 (cols)), u]) rfl rfl (oc1 rfl (oc1 rfl (oc1 ou.one oc0))) (fun H10 os off11 => ?_)
 replace oq := oq.off off11 aqXs
 replace ou := ou.off off11 auXs
 replace hp := hp0.le (off11.le lE ns)
 replace hvc := hvc0.le (off11.le lE ns)
 replace lE := off11.le lE ns
 replace os : Cel H10 s [(.int .i64 (rows)), (.int .i64 (cols)), u] := os
 refine jn_i (fun σ' H' => σ' 10 = q ∧ σ' 11 = s ∧ Cel H' q [(.int .i64 (0)), (.int .i64 (0)), (.slice none 0 0)] ∧ Own eI H' u (mkL cols (cutG c l row col) (rows.toNat * cols.toNat)) ∧ Cel H' s [(.int .i64 (rows)), (.int .i64 (cols)), u] ∧ Le H H') (fun σ12 H12 hP => ?_) (fun J12 hJ12 => ?_)
 ·skip
  obtain ⟨g10L12, g11L12, oq, ou, os, lE⟩ := hP
  have hp := hp0.le lE
  have hvc := hvc0.le lE
  simp only [g10L12, g11L12]
  refine ob_i (os.ldn rfl) ?_
  refine oq.stn (ws := [(.int .i64 (rows)), (.int .i64 (cols)), u]) rfl rfl (oc1 rfl (oc1 rfl (oc1 ou.one oc0))) (fun H13 oq off14 => ?_)
  replace ou := ou.off off14 aqXu.symm
  replace hp := hp0.le (off14.le lE nq)
  replace hvc := hvc0.le (off14.le lE nq)
  replace lE := off14.le lE nq
  replace oq : Cel H13 q [(.int .i64 (rows)), (.int .i64 (cols)), u] := oq
  refine ob_i (oq.ldn rfl) ?_
  exact hk u _ ou nu lE
 refine ⟨fun n' σ' H' => ∃ i : Nat, n' = rows.toNat - i ∧ i ≤ rows.toNat ∧ σ' 0 = p ∧ σ' 1 = (.int .i64 (row)) ∧ σ' 2 = (.int .i64 (col)) ∧ σ' 3 = (.int .i64 (rows)) ∧ σ' 4 = (.int .i64 (cols)) ∧ σ' 10 = q ∧ σ' 11 = s ∧ σ' 12 = (.int .i64 ((i : Int))) ∧ Cel H' q [(.int .i64 (0)), (.int .i64 (0)), (.slice none 0 0)] ∧ Own eI H' u (fillL cols (cutG c l row col) (rows.toNat * cols.toNat) (i * cols.toNat)) ∧ Cel H' s [(.int .i64 (rows)), (.int .i64 (cols)), u] ∧ Le H H',
  ⟨_, 0, rfl, by omega, rfl, rfl, rfl, rfl, rfl, rfl, rfl, rfl, oq, by rw [Nat.zero_mul, fillL_zero]; exact ou, os, lE⟩, ?_⟩
 rintro n15 σ15 H15 ⟨i, rfl, hiN, g0L15, g1L15, g2L15, g3L15, g4L15, g10L15, g11L15, g12L15, oq, ou, os, lE⟩
 have hp := hp0.le lE
 have hvc := hvc0.le lE
 simp only [g0L15, g1L15, g2L15, g3L15, g4L15, g10L15, g11L15, g12L15]
 refine ob_i (vInt_lss _ _ _) ?_
 refine cnd_d (fun hg16 => ?_) (fun hg16 => ?_)
 ·skip
  have ti := hg16
  refine jn_i (fun σ' H' => σ' 0 = p ∧ σ' 1 = (.int .i64 (row)) ∧ σ' 2 = (.int .i64 (col)) ∧ σ' 3 = (.int .i64 (rows)) ∧ σ' 4 = (.int .i64 (cols)) ∧ σ' 10 = q ∧ σ' 11 = s ∧ σ' 12 = (.int .i64 ((i : Int))) ∧ Cel H' q [(.int .i64 (0)), (.int .i64 (0)), (.slice none 0 0)] ∧ Own eI H' u (fillL cols (cutG c l row col) (rows.toNat * cols.toNat) ((i + 1) * cols.toNat)) ∧ Cel H' s [(.int .i64 (rows)), (.int .i64 (cols)), u] ∧ Le H H') (fun σ17 H17 hP => ?_) (fun J17 hJ17 => ?_)
  ·skip
   obtain ⟨g0L17, g1L17, g2L17, g3L17, g4L17, g10L17, g11L17, g12L17, oq, ou, os, lE⟩ := hP
   simp only [g10L17, g12L17]
   refine ob_i (vInt_add (by omega) (by omega)) ?_
   exact nxt (rows.toNat - (i + 1)) (by omega) ⟨i + 1, rfl, by omega, g0L17, g1L17, g2L17, g3L17, g4L17, g10L17, g11L17, rfl, oq, ou, os, lE⟩
  refine ⟨fun n' σ' H' => ∃ k : Nat, n' = cols.toNat - k ∧ k ≤ cols.toNat ∧ σ' 0 = p ∧ σ' 1 = (.int .i64 (row)) ∧ σ' 2 = (.int .i64 (col)) ∧ σ' 3 = (.int .i64 (rows)) ∧ σ' 4 = (.int .i64 (cols)) ∧ σ' 10 = q ∧ σ' 11 = s ∧ σ' 12 = (.int .i64 ((i : Int))) ∧ σ' 13 = (.int .i64 ((k : Int))) ∧ Cel H' q [(.int .i64 (0)), (.int .i64 (0)), (.slice none 0 0)] ∧ Own eI H' u (fillL cols (cutG c l row col) (rows.toNat * cols.toNat) (i * cols.toNat + k)) ∧ Cel H' s [(.int .i64 (rows)), (.int .i64 (cols)), u] ∧ Le H H',
   ⟨_, 0, rfl, by omega, g0L15, g1L15, g2L15, g3L15, g4L15, g10L15, g11L15, g12L15, rfl, oq, ou, os, lE⟩, ?_⟩
  rintro n18 σ18 H18 ⟨k, rfl, hkN, g0L18, g1L18, g2L18, g3L18, g4L18, g10L18, g11L18, g12L18, g13L18, oq, ou, os, lE⟩
  have hp := hp0.le lE
  have hvc := hvc0.le lE
  simp only [g0L18, g1L18, g2L18, g4L18, g10L18, g11L18, g12L18, g13L18]
  refine ob_i (vInt_lss _ _ _) ?_
  refine cnd_d (fun hg19 => ?_) (fun hg19 => ?_)
  ·skip
   have tk := hg19
   have x1 := ix_lt (a := row + i) (b := col + k) (r := r) (c := c) (by omega) (by omega) (by omega) (by omega)
   have x2 := ix_lt (a := (i : Int)) (b := (k : Int)) (r := rows) (c := cols) (by omega) (by omega) (by omega) (by omega)
   have x3 := fillL_len (c := cols) (g := cutG c l row col) (rr := rows) (cc := cols) (t := i * cols.toNat + k) (by omega) (by omega)
   have x4 := sidesF_mul hs
   have x5 := ix_le (a := rows) (b := cols) (by omega) (by omega) (by omega) (by omega)
   refine ob_i (os.fa 2) ?_
   refine ob_i (os.ld 2 rfl) ?_
   refine ob_i (vInt_mul (by omega) (by omega)) ?_
   refine ob_i (vInt_add (by omega) (by omega)) ?_
   refine ob_i (hp.nilC) ?_
   refine ob_i (hp.fa 2) ?_
   refine ob_i (hp.ld 2 rfl) ?_
   refine ob_i (vInt_add (by omega) (by omega)) ?_
   refine ob_i (hp.nilC) ?_
   refine ob_i (hp.fa 1) ?_
   refine ob_i (hp.ld 1 rfl) ?_
   refine ob_i (vInt_mul (by omega) (by omega)) ?_
   refine ob_i (vInt_add (by omega) (by omega)) ?_
   refine ob_i (vInt_add (by omega) (by omega)) ?_
   refine ob_i (hvc.ix (by omega) (by omega)) ?_
   refine ob_i (hvc.ld 0 (by omega) (by omega)) ?_
   refine ob_i (ou.sl.ix (by omega) (by omega)) ?_
   refine ou.st (x := at_ 0 (l) ((((row + (i : Int)) * c) + col) + (k : Int))) (by omega) (by omega) rfl rfl (fun H20 ou off21 => ?_)
   replace oq := oq.off off21 aqXu
   replace os := os.off off21 auXs.symm
   replace hp := hp0.le (off21.le lE nu)
   replace hvc := hvc0.le (off21.le lE nu)
   replace lE := off21.le lE nu
   refine ob_i (vInt_add (by omega) (by omega)) ?_
   have e := fillL_set (c := cols) (g := cutG c l row col) (N := (rows.toNat * cols.toNat)) (i := i) (k := k) (t := i * cols.toNat + k) (by omega) (by omega) (by omega) (cast_ix (by omega)) (by omega)
   replace ou : Own eI H20 u (fillL cols (cutG c l row col) (rows.toNat * cols.toNat) (i * cols.toNat + (k + 1))) := by rw [← Nat.add_assoc, ← e]; exact ou
   exact nxt (cols.toNat - (k + 1)) (by omega) ⟨k + 1, rfl, by omega, g0L18, g1L18, g2L18, g3L18, g4L18, g10L18, g11L18, g12L18, rfl, oq, ou, os, lE⟩
  ·skip
   have tk := hg19
   rw [show i * cols.toNat + k = (i + 1) * cols.toNat by rw [Nat.add_mul, Nat.one_mul]; omega] at ou
   exact hJ17 _ _ ⟨g0L18, g1L18, g2L18, g3L18, g4L18, g10L18, g11L18, g12L18, oq, ou, os, lE⟩
 ·skip
  have ti := hg16
  rw [fillL_end (by rw [show i = rows.toNat by omega]; exact Nat.le_refl _)] at ou
  exact hJ12 _ _ ⟨g10L15, g11L15, oq, ou, os, lE⟩
theorem C.spec_l05Trim {p vc : Value} {r c : Int} {l : List Int} {H : Hp} {K : Value → Hp → Prop} (hp0 : Cel H p [.int .i64 r, .int .i64 c, vc]) (hvc0 : Sl eI H vc l) (hs : sidesF r c) (hl : (l.length : Int) = r * c)
    (hk1 : (trm r c l).2.1 < 0 → ∀ H', Le H H' → K (.tuple #[.agg #[.int .i64 0, .int .i64 0, .slice none 0 0], .int .i64 0, .int .i64 0, .bool false]) H')
    (hk2 : 0 ≤ (trm r c l).2.1 → ∀ u H', Own eI H' u (trL r c l) → Nw H u → Le H H' → K (.tuple #[.agg #[.int .i64 (trR r c l), .int .i64 (trC r c l), u], .int .i64 (trm r c l).1, .int .i64 (trm r c l).2.2.1, .bool true]) H') :
    HT prg I.spec_l05Trim [p].toArray H K := by
 have q1 := hs.1
 have q2 := hs.2
 have m := sidesF_mul hs
 change (trS r c l (r * c).toNat).2.1 < 0 → _ at hk1
 change 0 ≤ (trS r c l (r * c).toNat).2.1 → _ at hk2
 have lE := Le.refl H
 have hp := hp0
 have hvc := hvc0
 refine R.spec_l05Trim ?_
 unfold F.spec_l05Trim
 refine nw_i (fun q H1 oq nn2 le3 => ?_)
 have nq : Nw H q := nn2.le lE
 replace hp := hp.le le3
 replace hvc := hvc.le le3
 replace lE := lE.trans le3
 replace oq : Cel H1 q [(.int .i64 (0)), (.int .i64 (0)), (.slice none 0 0)] := oq
 refine ob_i (hp.nilC) ?_
 refine ob_i (hp.fa 0) ?_
 refine ob_i (hp.ld 0 rfl) ?_
 refine ob_i (hp.nilC) ?_
 refine ob_i (hp.fa 1) ?_
 refine ob_i (hp.ld 1 rfl) ?_
 refine jn_i (fun σ' H' => σ' 0 = p ∧ σ' 2 = q ∧ σ' 6 = (.int .i64 ((trS r c l ((r * c).toNat)).1)) ∧ σ' 7 = (.int .i64 ((trS r c l ((r * c).toNat)).2.1)) ∧ σ' 8 = (.int .i64 ((trS r c l ((r * c).toNat)).2.2.1)) ∧ σ' 9 = (.int .i64 ((trS r c l ((r * c).toNat)).2.2.2)) ∧ Cel H' q [(.int .i64 (0)), (.int .i64 (0)), (.slice none 0 0)] ∧ Le H H') (fun σ4 H4 hP => ?_) (fun J4 hJ4 => ?_)
 ·skip
  obtain ⟨g0L4, g2L4, g6L4, g7L4, g8L4, g9L4, oq, lE⟩ := hP
  have hp := hp0.le lE
  have hvc := hvc0.le lE
  simp only [g0L4, g2L4, g6L4, g7L4, g8L4, g9L4]
  have b := trS_bnd (l := l) hs (r * c).toNat (by omega)
  have b2 := trS_ok (l := l) hs (r * c).toNat (by omega)
  refine ob_i (vInt_lss _ _ _) ?_
  refine cnd_d (fun hg5 => ?_) (fun hg5 => ?_)
  ·skip
   refine ob_i (a := (.agg #[(.int .i64 (0)), (.int .i64 (0)), (.slice none 0 0)])) (by rfl) ?_
   refine oq.stn (ws := [(.int .i64 (0)), (.int .i64 (0)), (.slice none 0 0)]) rfl rfl (oc1 rfl (oc1 rfl (oc1 rfl oc0))) (fun H6 oq off7 => ?_)
   replace hp := hp0.le (off7.le lE nq)
   replace hvc := hvc0.le (off7.le lE nq)
   replace lE := off7.le lE nq
   replace oq : Cel H6 q [(.int .i64 (0)), (.int .i64 (0)), (.slice none 0 0)] := oq
   refine ob_i (oq.ldn rfl) ?_
   exact hk1 (by omega) _ lE
  ·skip
   refine ob_i (vInt_sub (by omega) (by omega)) ?_
   refine ob_i (vInt_add (by omega) (by omega)) ?_
   refine ob_i (vInt_sub (by omega) (by omega)) ?_
   refine ob_i (vInt_add (by omega) (by omega)) ?_
   refine C.spec_l05Cut hp hvc hs hl (by omega) (by omega) (by omega) (by omega) (by omega) (by omega) (fun u10 H8 ou10 nn11  le9 => ?_)
   have aqXu10 : Apart q u10 := oq.apart nn11
   have nu10 : Nw H u10 := nn11.le lE
   replace oq := oq.le le9
   replace hp := hp.le le9
   replace hvc := hvc.le le9
   replace lE := lE.trans le9
   refine oq.stn (ws := [(.int .i64 ((((trS r c l ((r * c).toNat)).2.1) - ((trS r c l ((r * c).toNat)).1)) + 1)), (.int .i64 ((((trS r c l ((r * c).toNat)).2.2.2) - ((trS r c l ((r * c).toNat)).2.2.1)) + 1)), u10]) rfl rfl (oc1 rfl (oc1 rfl (oc1 ou10.one oc0))) (fun H12 oq off13 => ?_)
   replace ou10 := ou10.off off13 aqXu10.symm
   replace hp := hp0.le (off13.le lE nq)
   replace hvc := hvc0.le (off13.le lE nq)
   replace lE := off13.le lE nq
   replace oq : Cel H12 q [(.int .i64 ((((trS r c l ((r * c).toNat)).2.1) - ((trS r c l ((r * c).toNat)).1)) + 1)), (.int .i64 ((((trS r c l ((r * c).toNat)).2.2.2) - ((trS r c l ((r * c).toNat)).2.2.1)) + 1)), u10] := oq
   refine ob_i (oq.ldn rfl) ?_
   exact hk2 (by omega) u10 _ ou10 nu10 lE
 refine ⟨fun n' σ' H' => ∃ i : Nat, n' = r.toNat - i ∧ i ≤ r.toNat ∧ σ' 0 = p ∧ σ' 2 = q ∧ σ' 6 = (.int .i64 ((trS r c l (i * c.toNat)).1)) ∧ σ' 7 = (.int .i64 ((trS r c l (i * c.toNat)).2.1)) ∧ σ' 8 = (.int .i64 ((trS r c l (i * c.toNat)).2.2.1)) ∧ σ' 9 = (.int .i64 ((trS r c l (i * c.toNat)).2.2.2)) ∧ σ' 10 = (.int .i64 ((i : Int))) ∧ Cel H' q [(.int .i64 (0)), (.int .i64 (0)), (.slice none 0 0)] ∧ Le H H',
  ⟨_, 0, rfl, by omega, rfl, rfl, by rw [Nat.zero_mul]; rfl, by rw [Nat.zero_mul]; rfl, by rw [Nat.zero_mul]; rfl, by rw [Nat.zero_mul]; rfl, rfl, oq, lE⟩, ?_⟩
 rintro n14 σ14 H14 ⟨i, rfl, hiN, g0L14, g2L14, g6L14, g7L14, g8L14, g9L14, g10L14, oq, lE⟩
 have hp := hp0.le lE
 have hvc := hvc0.le lE
 simp only [g0L14, g2L14, g6L14, g7L14, g8L14, g9L14, g10L14]
 refine ob_i (hp.nilC) ?_
 refine ob_i (hp.fa 0) ?_
 refine ob_i (hp.ld 0 rfl) ?_
 refine ob_i (vInt_lss _ _ _) ?_
 refine cnd_d (fun hg15 => ?_) (fun hg15 => ?_)
 ·skip
  have ti := hg15
  refine jn_i (fun σ' H' => σ' 0 = p ∧ σ' 2 = q ∧ σ' 6 = (.int .i64 ((trS r c l ((i + 1) * c.toNat)).1)) ∧ σ' 7 = (.int .i64 ((trS r c l ((i + 1) * c.toNat)).2.1)) ∧ σ' 8 = (.int .i64 ((trS r c l ((i + 1) * c.toNat)).2.2.1)) ∧ σ' 9 = (.int .i64 ((trS r c l ((i + 1) * c.toNat)).2.2.2)) ∧ σ' 10 = (.int .i64 ((i : Int))) ∧ Cel H' q [(.int .i64 (0)), (.int .i64 (0)), (.slice none 0 0)] ∧ Le H H') (fun σ16 H16 hP => ?_) (fun J16 hJ16 => ?_)
  ·skip
   obtain ⟨g0L16, g2L16, g6L16, g7L16, g8L16, g9L16, g10L16, oq, lE⟩ := hP
   simp only [g2L16, g10L16]
   refine ob_i (vInt_add (by omega) (by omega)) ?_
   exact nxt (r.toNat - (i + 1)) (by omega) ⟨i + 1, rfl, by omega, g0L16, g2L16, g6L16, g7L16, g8L16, g9L16, rfl, oq, lE⟩
  refine ⟨fun n' σ' H' => ∃ k : Nat, n' = c.toNat - k ∧ k ≤ c.toNat ∧ σ' 0 = p ∧ σ' 2 = q ∧ σ' 6 = (.int .i64 ((trS r c l (i * c.toNat + k)).1)) ∧ σ' 7 = (.int .i64 ((trS r c l (i * c.toNat + k)).2.1)) ∧ σ' 8 = (.int .i64 ((trS r c l (i * c.toNat + k)).2.2.1)) ∧ σ' 9 = (.int .i64 ((trS r c l (i * c.toNat + k)).2.2.2)) ∧ σ' 10 = (.int .i64 ((i : Int))) ∧ σ' 11 = (.int .i64 ((k : Int))) ∧ Cel H' q [(.int .i64 (0)), (.int .i64 (0)), (.slice none 0 0)] ∧ Le H H',
   ⟨_, 0, rfl, by omega, g0L14, g2L14, g6L14, g7L14, g8L14, g9L14, g10L14, rfl, oq, lE⟩, ?_⟩
  rintro n17 σ17 H17 ⟨k, rfl, hkN, g0L17, g2L17, g6L17, g7L17, g8L17, g9L17, g10L17, g11L17, oq, lE⟩
  have hp := hp0.le lE
  have hvc := hvc0.le lE
  simp only [g0L17, g2L17, g6L17, g7L17, g8L17, g9L17, g10L17, g11L17]
  refine ob_i (hp.nilC) ?_
  refine ob_i (hp.fa 1) ?_
  refine ob_i (hp.ld 1 rfl) ?_
  refine ob_i (vInt_lss _ _ _) ?_
  refine cnd_d (fun hg18 => ?_) (fun hg18 => ?_)
  ·skip
   have tk := hg18
   have x1 := ix_lt (a := (i : Int)) (b := (k : Int)) (r := r) (c := c) (by omega) (by omega) (by omega) (by omega)
   have x4 := sidesF_mul hs
   refine ob_i (hp.nilC) ?_
   refine ob_i (hp.fa 2) ?_
   refine ob_i (hp.ld 2 rfl) ?_
   refine ob_i (hp.nilC) ?_
   refine ob_i (hp.fa 1) ?_
   refine ob_i (hp.ld 1 rfl) ?_
   refine ob_i (vInt_mul (by omega) (by omega)) ?_
   refine ob_i (vInt_add (by omega) (by omega)) ?_
   refine ob_i (hvc.ix (by omega) (by omega)) ?_
   refine ob_i (hvc.ld 0 (by omega) (by omega)) ?_
   refine ob_i (vInt_eql _ _ _) ?_
   refine cnd_d (fun hg19 => ?_) (fun hg19 => ?_)
   ·skip
    refine C.spec_l00Min  ?_
    refine C.spec_l00Max  ?_
    refine C.spec_l00Min  ?_
    refine C.spec_l00Max  ?_
    refine ob_i (vInt_add (by omega) (by omega)) ?_
    have eT := trS_t2 (r := r) (c := c) (i := (i : Int)) (k := (k : Int)) (t := i * c.toNat + k) (by omega) (by omega) (by omega) (cast_ix (by omega)) hg19
    exact nxt (c.toNat - (k + 1)) (by omega) ⟨k + 1, rfl, by omega, g0L17, g2L17, (by rw [← Nat.add_assoc, eT]; rfl), (by rw [← Nat.add_assoc, eT]; rfl), (by rw [← Nat.add_assoc, eT]; rfl), (by rw [← Nat.add_assoc, eT]; rfl), g10L17, rfl, oq, lE⟩
   ·skip
    refine ob_i (vInt_add (by omega) (by omega)) ?_
    have eT := trS_f2 (r := r) (c := c) (i := (i : Int)) (k := (k : Int)) (t := i * c.toNat + k) (cast_ix (by omega)) hg19
    exact nxt (c.toNat - (k + 1)) (by omega) ⟨k + 1, rfl, by omega, g0L17, g2L17, (by rw [← Nat.add_assoc, eT]; exact g6L17), (by rw [← Nat.add_assoc, eT]; exact g7L17), (by rw [← Nat.add_assoc, eT]; exact g8L17), (by rw [← Nat.add_assoc, eT]; exact g9L17), g10L17, rfl, oq, lE⟩
  ·skip
   have tk := hg18
   exact hJ16 _ _ ⟨g0L17, g2L17, (by rw [← show i * c.toNat + k = (i + 1) * c.toNat by rw [Nat.add_mul, Nat.one_mul]; congr 1; omega]; exact g6L17), (by rw [← show i * c.toNat + k = (i + 1) * c.toNat by rw [Nat.add_mul, Nat.one_mul]; congr 1; omega]; exact g7L17), (by rw [← show i * c.toNat + k = (i + 1) * c.toNat by rw [Nat.add_mul, Nat.one_mul]; congr 1; omega]; exact g8L17), (by rw [← show i * c.toNat + k = (i + 1) * c.toNat by rw [Nat.add_mul, Nat.one_mul]; congr 1; omega]; exact g9L17), g10L17, oq, lE⟩
 ·skip
  have ti := hg15
  exact hJ4 _ _ ⟨g0L14, g2L14, (by rw [← show i * c.toNat = (r * c).toNat by rw [Int.toNat_mul (by omega) (by omega)]; congr 1; omega]; exact g6L14), (by rw [← show i * c.toNat = (r * c).toNat by rw [Int.toNat_mul (by omega) (by omega)]; congr 1; omega]; exact g7L14), (by rw [← show i * c.toNat = (r * c).toNat by rw [Int.toNat_mul (by omega) (by omega)]; congr 1; omega]; exact g8L14), (by rw [← show i * c.toNat = (r * c).toNat by rw [Int.toNat_mul (by omega) (by omega)]; congr 1; omega]; exact g9L14), oq, lE⟩
theorem C.impl_Field_cut_1 {p q s vc : Value} {r c row col i k : Int} {l : List Int} {H : Hp} {K : Value → Hp → Prop} (hp0 : Cel H p [.int .i64 r, .int .i64 c, vc]) (hq0 : Cel H q [.int .i64 row]) (hs0 : Cel H s [.int .i64 col]) (hvc0 : Sl eI H vc l) (hs : sidesF r c) (hl : (l.length : Int) = r * c)
    (h0 : 0 ≤ row + i) (h1 : 0 ≤ col + k) (h2 : row + i < r) (h3 : col + k < c) (hk : ∀ H', Le H H' → K (.int .i64 (cutG c l row col i k)) H') : HT prg I.impl_Field_cut_1 [.int .i64 i, .int .i64 k, p, q, s].toArray H K := by
 unfold cutG at hk
 have hs' := hs
 have lE := Le.refl H
 have hp := hp0
 have hq := hq0
 have hsx := hs0
 have hvc := hvc0
 refine R.impl_Field_cut_1 ?_
 unfold F.impl_Field_cut_1
 have x1 := ix_lt (a := row + i) (b := col + k) (r := r) (c := c) (by omega) (by omega) (by omega) (by omega)
 have m := sidesF_mul hs
 have q1 := hs.1
 have q2 := hs.2
 refine ob_i (hp.ldn rfl) ?_
 refine ob_i (hq.ld0 rfl) ?_
 refine ob_i (vInt_add (by omega) (by omega)) ?_
 refine ob_i (hsx.ld0 rfl) ?_
 refine ob_i (vInt_add (by omega) (by omega)) ?_
 refine C.impl_Field_at hvc (by omega) (by omega) (by omega) (by omega) (by omega) (fun H1 le2 => ?_)
 replace lE := lE.trans le2
 rw [show (row + i) * c + (col + k) = (row + i) * c + col + k by omega]
 exact hk _ lE
theorem C.impl_Field_cut {vc : Value} {r c row col rows cols : Int} {l : List Int} {H : Hp} {K : Value → Hp → Prop} (hvc0 : Sl eI H vc l) (hs : sidesF r c) (hl : (l.length : Int) = r * c)
    (h0 : 0 ≤ row) (h1 : 0 ≤ col) (h2 : 1 ≤ rows) (h3 : 1 ≤ cols) (h4 : row + rows ≤ r) (h5 : col + cols ≤ c) (hk : ∀ u H', Own eI H' u (mkL cols (cutG c l row col) (rows.toNat * cols.toNat)) → Nw H u → Le H H' → K (.agg #[.int .i64 rows, .int .i64 cols, u]) H') :
    HT prg I.impl_Field_cut [.agg #[.int .i64 r, .int .i64 c, vc], .int .i64 row, .int .i64 col, .int .i64 rows, .int .i64 cols].toArray H K := by
 have lE := Le.refl H
 have hvc := hvc0
 refine R.impl_Field_cut ?_
 unfold F.impl_Field_cut
 have q1 := hs.1
 have q2 := hs.2
 refine nw_i (fun p1 H2 op1 nn3 le4 => ?_)
 replace hvc := hvc.le le4
 replace lE := lE.trans le4
 replace op1 : Cel H2 p1 [(.int .i64 (r)), (.int .i64 (c)), vc] := op1
 refine nw_i (fun p5 H6 op5 nn7 le8 => ?_)
 replace op1 := op1.le le8
 replace hvc := hvc.le le8
 replace lE := lE.trans le8
 replace op5 : Cel H6 p5 [(.int .i64 (row))] := op5
 refine nw_i (fun p9 H10 op9 nn11 le12 => ?_)
 replace op1 := op1.le le12
 replace op5 := op5.le le12
 replace hvc := hvc.le le12
 replace lE := lE.trans le12
 replace op9 : Cel H10 p9 [(.int .i64 (col))] := op9
 refine nw_i (fun p13 H14 op13 nn15 le16 => ?_)
 have np13 : Nw H p13 := nn15.le lE
 replace op1 := op1.le le16
 replace op5 := op5.le le16
 replace op9 := op9.le le16
 replace hvc := hvc.le le16
 replace lE := lE.trans le16
 replace op13 : Cel H14 p13 [(.int .i64 (0)), (.int .i64 (0)), (.slice none 0 0)] := op13
 refine C.impl_madeField (g := cutG c l row col) (by omega) (by omega) (by omega) (by omega) (fun H' i k Z le hi hk' hZ => ?_) (fun u17 H18 ou17 nn19 le20 => ?_)
 ·refine ⟨by kernel_rfl, ?_⟩
  exact C.impl_Field_cut_1 (op1.le le) (op5.le le) (op9.le le) (hvc.le le) hs hl (by omega) (by omega) (by omega) (by omega) hZ
 have ap13Xu17 : Apart p13 u17 := op13.apart nn19
 have nu17 : Nw H u17 := nn19.le lE
 replace op13 := op13.le le20
 replace hvc := hvc.le le20
 replace lE := lE.trans le20
 refine op13.stn (ws := [(.int .i64 (rows)), (.int .i64 (cols)), u17]) rfl rfl (oc1 rfl (oc1 rfl (oc1 ou17.one oc0))) (fun H21 op13 off22 => ?_)
 replace ou17 := ou17.off off22 ap13Xu17.symm
 replace hvc := hvc0.le (off22.le lE np13)
 replace lE := off22.le lE np13
 replace op13 : Cel H21 p13 [(.int .i64 (rows)), (.int .i64 (cols)), u17] := op13
 refine ob_i (op13.ldn rfl) ?_
 exact hk u17 _ ou17 nu17 lE
theorem C.impl_Field_trimmed {vc : Value} {r c : Int} {l : List Int} {H : Hp} {K : Value → Hp → Prop} (hvc0 : Sl eI H vc l) (hs : sidesF r c) (hl : (l.length : Int) = r * c)
    (hk1 : (trm r c l).2.1 < 0 → ∀ H', Le H H' → K (.tuple #[.agg #[.int .i64 0, .int .i64 0, .slice none 0 0], .int .i64 0, .int .i64 0, .bool false]) H')
    (hk2 : 0 ≤ (trm r c l).2.1 → ∀ u H', Own eI H' u (trL r c l) → Nw H u → Le H H' → K (.tuple #[.agg #[.int .i64 (trR r c l), .int .i64 (trC r c l), u], .int .i64 (trm r c l).1, .int .i64 (trm r c l).2.2.1, .bool true]) H') :
    HT prg I.impl_Field_trimmed [.agg #[.int .i64 r, .int .i64 c, vc]].toArray H K := by
 have q1 := hs.1
 have q2 := hs.2
 have m := sidesF_mul hs
 change (trS r c l (r * c).toNat).2.1 < 0 → _ at hk1
 change 0 ≤ (trS r c l (r * c).toNat).2.1 → _ at hk2
 have lE := Le.refl H
 have hvc := hvc0
 refine R.impl_Field_trimmed ?_
 unfold F.impl_Field_trimmed
 refine nw_i (fun p H1 op nn2 le3 => ?_)
 replace hvc := hvc.le le3
 replace lE := lE.trans le3
 replace op : Cel H1 p [(.int .i64 (r)), (.int .i64 (c)), vc] := op
 refine nw_i (fun q H4 oq nn5 le6 => ?_)
 have nq : Nw H q := nn5.le lE
 replace op := op.le le6
 replace hvc := hvc.le le6
 replace lE := lE.trans le6
 replace oq : Cel H4 q [(.int .i64 (0)), (.int .i64 (0)), (.slice none 0 0)] := oq
 refine ob_i (op.fa 0) ?_
 refine ob_i (op.ld 0 rfl) ?_
 refine ob_i (op.fa 1) ?_
 refine ob_i (op.ld 1 rfl) ?_
 refine jn_i (fun σ' H' => σ' 1 = p ∧ σ' 2 = q ∧ σ' 6 = (.int .i64 ((trS r c l ((r * c).toNat)).1)) ∧ σ' 7 = (.int .i64 ((trS r c l ((r * c).toNat)).2.2.1)) ∧ σ' 8 = (.int .i64 ((trS r c l ((r * c).toNat)).2.1)) ∧ σ' 9 = (.int .i64 ((trS r c l ((r * c).toNat)).2.2.2)) ∧ Cel H' p [(.int .i64 (r)), (.int .i64 (c)), vc] ∧ Cel H' q [(.int .i64 (0)), (.int .i64 (0)), (.slice none 0 0)] ∧ Le H H') (fun σ7 H7 hP => ?_) (fun J7 hJ7 => ?_)
 ·skip
  obtain ⟨g1L7, g2L7, g6L7, g7L7, g8L7, g9L7, op, oq, lE⟩ := hP
  have hvc := hvc0.le lE
  simp only [g1L7, g2L7, g6L7, g7L7, g8L7, g9L7]
  have b := trS_bnd (l := l) hs (r * c).toNat (by omega)
  have b2 := trS_ok (l := l) hs (r * c).toNat (by omega)
  refine ob_i (vInt_lss _ _ _) ?_
  refine cnd_d (fun hg8 => ?_) (fun hg8 => ?_)
  ·skip
   refine ob_i (a := (.agg #[(.int .i64 (0)), (.int .i64 (0)), (.slice none 0 0)])) (by rfl) ?_
   refine oq.stn (ws := [(.int .i64 (0)), (.int .i64 (0)), (.slice none 0 0)]) rfl rfl (oc1 rfl (oc1 rfl (oc1 rfl oc0))) (fun H9 oq off10 => ?_)
   replace hvc := hvc0.le (off10.le lE nq)
   replace lE := off10.le lE nq
   replace oq : Cel H9 q [(.int .i64 (0)), (.int .i64 (0)), (.slice none 0 0)] := oq
   refine ob_i (oq.ldn rfl) ?_
   exact hk1 (by omega) _ lE
  ·skip
   refine ob_i (op.ldn rfl) ?_
   refine ob_i (vInt_sub (by omega) (by omega)) ?_
   refine ob_i (vInt_add (by omega) (by omega)) ?_
   refine ob_i (vInt_sub (by omega) (by omega)) ?_
   refine ob_i (vInt_add (by omega) (by omega)) ?_
   refine C.impl_Field_cut hvc hs hl (by omega) (by omega) (by omega) (by omega) (by omega) (by omega) (fun u13 H11 ou13 nn14  le12 => ?_)
   have aqXu13 : Apart q u13 := oq.apart nn14
   have nu13 : Nw H u13 := nn14.le lE
   replace oq := oq.le le12
   replace hvc := hvc.le le12
   replace lE := lE.trans le12
   refine oq.stn (ws := [(.int .i64 ((((trS r c l ((r * c).toNat)).2.1) - ((trS r c l ((r * c).toNat)).1)) + 1)), (.int .i64 ((((trS r c l ((r * c).toNat)).2.2.2) - ((trS r c l ((r * c).toNat)).2.2.1)) + 1)), u13]) rfl rfl (oc1 rfl (oc1 rfl (oc1 ou13.one oc0))) (fun H15 oq off16 => ?_)
   replace ou13 := ou13.off off16 aqXu13.symm
   replace hvc := hvc0.le (off16.le lE nq)
   replace lE := off16.le lE nq
   replace oq : Cel H15 q [(.int .i64 ((((trS r c l ((r * c).toNat)).2.1) - ((trS r c l ((r * c).toNat)).1)) + 1)), (.int .i64 ((((trS r c l ((r * c).toNat)).2.2.2) - ((trS r c l ((r * c).toNat)).2.2.1)) + 1)), u13] := oq
   refine ob_i (oq.ldn rfl) ?_
   exact hk2 (by omega) u13 _ ou13 nu13 lE
 refine ob_i (op.fa 2) ?_
 refine ob_i (op.ld 2 rfl) ?_
 refine ob_i (hvc.len) ?_
 refine ⟨fun n' σ' H' => ∃ t : Nat, n' = l.length - t ∧ t ≤ l.length ∧ σ' 1 = p ∧ σ' 2 = q ∧ σ' 6 = (.int .i64 ((trS r c l (t)).1)) ∧ σ' 7 = (.int .i64 ((trS r c l (t)).2.2.1)) ∧ σ' 8 = (.int .i64 ((trS r c l (t)).2.1)) ∧ σ' 9 = (.int .i64 ((trS r c l (t)).2.2.2)) ∧ σ' 19 = vc ∧ σ' 20 = (.int .i64 (((l).length : Int))) ∧ σ' 21 = (.int .i64 ((t : Int))) ∧ Cel H' p [(.int .i64 (r)), (.int .i64 (c)), vc] ∧ Cel H' q [(.int .i64 (0)), (.int .i64 (0)), (.slice none 0 0)] ∧ Le H H',
  ⟨_, 0, rfl, by omega, rfl, rfl, rfl, rfl, rfl, rfl, rfl, rfl, rfl, op, oq, lE⟩, ?_⟩
 rintro n17 σ17 H17 ⟨t, rfl, htN, g1L17, g2L17, g6L17, g7L17, g8L17, g9L17, g19L17, g20L17, g21L17, op, oq, lE⟩
 have hvc := hvc0.le lE
 simp only [g1L17, g2L17, g6L17, g7L17, g8L17, g9L17, g19L17, g20L17, g21L17]
 refine ob_i (vInt_lss _ _ _) ?_
 refine cnd_d (fun hg18 => ?_) (fun hg18 => ?_)
 ·skip
  have tt := hg18
  refine ob_i (hvc.ix (by omega) (by omega)) ?_
  refine ob_i (hvc.ld 0 (by omega) (by omega)) ?_
  refine ob_i (vInt_eql _ _ _) ?_
  refine cnd_d (fun hg19 => ?_) (fun hg19 => ?_)
  ·skip
   refine ob_i (op.fa 1) ?_
   refine ob_i (op.ld 1 rfl) ?_
   refine ob_i (vInt_quoN (by omega) (by omega) (by omega)) ?_
   refine ob_i (op.fa 1) ?_
   refine ob_i (op.ld 1 rfl) ?_
   refine ob_i (vInt_remN (by omega) (by omega)) ?_
   refine ob_i (vMx_min _ _ _) ?_
   refine ob_i (vMx_min _ _ _) ?_
   refine ob_i (vMx_max _ _ _) ?_
   refine ob_i (vMx_max _ _ _) ?_
   refine ob_i (vInt_add (by omega) (by omega)) ?_
   have eT := trS_t (r := r) (c := c) hg19
   exact nxt (l.length - (t + 1)) (by omega) ⟨t + 1, rfl, by omega, g1L17, g2L17, (by rw [eT]; rfl), (by rw [eT]; rfl), (by rw [eT]; rfl), (by rw [eT]; rfl), g19L17, g20L17, rfl, op, oq, lE⟩
  ·skip
   refine ob_i (vInt_add (by omega) (by omega)) ?_
   have eT := trS_f (r := r) (c := c) hg19
   exact nxt (l.length - (t + 1)) (by omega) ⟨t + 1, rfl, by omega, g1L17, g2L17, (by rw [eT]; exact g6L17), (by rw [eT]; exact g7L17), (by rw [eT]; exact g8L17), (by rw [eT]; exact g9L17), g19L17, g20L17, rfl, op, oq, lE⟩
 ·skip
  have tt := hg18
  exact hJ7 _ _ ⟨g1L17, g2L17, (by rw [← show t = (r * c).toNat by omega]; exact g6L17), (by rw [← show t = (r * c).toNat by omega]; exact g7L17), (by rw [← show t = (r * c).toNat by omega]; exact g8L17), (by rw [← show t = (r * c).toNat by omega]; exact g9L17), op, oq, lE⟩
end Go.Proofs.YtnijdhlmimemcaaGreatDoor
/- Rules for contracts that are told once. -/
namespace Go.Proofs.YtnijdhlmimemcaaGreatDoor.HL
theorem keq {K : Value → Hp → Prop} {v v' : Value} {H : Hp} (e : v = v') (h : K v' H) : K v H := e ▸ h
theorem Own.cast {α : Type} {enc : α → Value} {H : Hp} {v : Value} {l l' : List α} (e : l = l') (h : Own enc H v l) : Own enc H v l' := e ▸ h
theorem Sl.cast {α : Type} {enc : α → Value} {H : Hp} {v : Value} {l l' : List α} (e : l = l') (h : Sl enc H v l) : Sl enc H v l' := e ▸ h
/-- A slice that reads so, and whose block is known. -/
def Ro {α : Type} (enc : α → Value) (H : Hp) (v : Value) (l : List α) : Prop := Sl enc H v l ∧ ∀ b, bk v = some b → ∃ o, H b = some o
section
variable {α : Type} {enc : α → Value} {H H' : Hp} {u v : Value} {l l' : List α}
theorem Ro.sl (h : Ro enc H v l) : Sl enc H v l := h.1
theorem Ro.known (h : Ro enc H v l) : ∀ b, bk v = some b → ∃ o, H b = some o := h.2
theorem Ro.le (h : Ro enc H v l) (hl : Le H H') : Ro enc H' v l := ⟨h.1.le hl, fun b hb => by obtain ⟨o, ho⟩ := h.2 b hb; exact ⟨o, hl b o ho⟩⟩
theorem Sl.off (h : Sl enc H u l) (ho : Off v H H') (ha : Apart u v) : Sl enc H' u l := by
  obtain ⟨a, c, rfl, hc, hr⟩ := h
  refine ⟨a, c, rfl, hc, fun i hi => ?_⟩
  obtain ⟨ad, rfl, hh⟩ := hr i hi
  refine ⟨ad, rfl, ?_⟩
  have hb : (ad.add i).block = ad.block := by unfold Addr.add; split <;> rfl
  have hne : bk v ≠ some ad.block := ha ad.block (by simp only [bk]; rw [if_neg (by omega)])
  unfold Hp.cell? at hh ⊢
  rw [hb] at hh ⊢
  cases hc' : H ad.block with
  | none => simp [hc'] at hh
  | some o => rw [ho _ _ hc' hne]; rw [hc'] at hh; exact hh
theorem Ro.off (h : Ro enc H u l) (ho : Off v H H') (ha : Apart u v) : Ro enc H' u l := ⟨h.1.off ho ha, fun b hb => by obtain ⟨o, hh⟩ := h.2 b hb; exact ⟨o, ho b o hh (ha b hb)⟩⟩
theorem Ro.apart (h : Ro enc H u l) (hn : Nw H v) : Apart u v := Apart.of_nw h.2 hn
theorem Ro.cast (e : l = l') (h : Ro enc H v l) : Ro enc H v l' := e ▸ h
theorem Ro.len (h : Ro enc H v l) : vLenSl v = some (.int .i64 l.length) := h.1.len
theorem Ro.one (h : Ro enc H v l) : oneCell v = true := h.1.one
theorem Ro.cells (h : Ro enc H v l) : v.cells = #[v] := h.1.cells
theorem Ro.isSl (h : Ro enc H v l) : ∃ a n c, v = .slice a n c := h.1.isSl
theorem Own.ro (h : Own enc H v l) : Ro enc H v l := ⟨h.sl, h.known⟩
end
theorem gop_u {b : Bool} {F : (Value → Hp → Prop) → Prop} {H : Hp} {K : Value → Hp → Prop} (h : K undef H) : gop undef b F H K := h
theorem vUn_ngK {a : Int} (h : -9223372036854775808 ≤ -a) (h' : -a < 9223372036854775808) : vUn .neg (.int .i64 a) = some (.int .i64 (-a)) := by
  simp only [vUn, Int.zero_sub, wrap64 h h']
theorem gop_e {b c g : Bool} {F : (Value → Hp → Prop) → Prop} {H : Hp} {K : Value → Hp → Prop} (e : b = c) (h : gop (.bool c) g F H K) : gop (.bool b) g F H K := by rw [e]; exact h
theorem vPick_et {b : Bool} (e : b = true) (x y : Value) : vPick (.bool b) x y = some x := by rw [e]; rfl
theorem vPick_ef {b : Bool} (e : b = false) (x y : Value) : vPick (.bool b) x y = some y := by rw [e]; rfl
/-- A number, or 0 where something does not hold. -/
def selI (p : Prop) [Decidable p] (x : Int) : Int := if p then x else 0
/-- A list, or none where something does not hold. -/
def selL {α : Type} (p : Prop) [Decidable p] (l : List α) : List α := if p then l else []
theorem selI_t {p : Prop} [Decidable p] {x : Int} (h : p) : selI p x = x := if_pos h
theorem selI_f {p : Prop} [Decidable p] {x : Int} (h : ¬ p) : selI p x = 0 := if_neg h
theorem selL_t {α : Type} {p : Prop} [Decidable p] {l : List α} (h : p) : selL p l = l := if_pos h
theorem selL_f {α : Type} {p : Prop} [Decidable p] {l : List α} (h : ¬ p) : selL p l = [] := if_neg h
end Go.Proofs.YtnijdhlmimemcaaGreatDoor.HL
/- Life on fields: what a step and many steps come to. -/
namespace Go.Proofs.YtnijdhlmimemcaaGreatDoor
open HL
set_option maxRecDepth 100000
/-- Numbers that rise, the first n of them. -/
def cntU (l : List Int) (n : Nat) : Prop := ∀ j : Nat, j < n → 0 < j → at_ 0 l ((j : Int) - 1) < at_ 0 l (j : Int)
def cntV (l : List Int) (n : Nat) : Prop := ∀ j : Nat, j < n → 0 ≤ at_ 0 l (j : Int) ∧ at_ 0 l (j : Int) ≤ 8
/-- Counts of neighbours. -/
def cntP (l : List Int) : Prop := (∀ x ∈ l, 0 ≤ x ∧ x ≤ 8) ∧ cntU l l.length
instance (l : List Int) (n : Nat) : Decidable (cntU l n) := by unfold cntU; infer_instance
instance (l : List Int) : Decidable (cntP l) := by unfold cntP; infer_instance
theorem cntU_zero (l : List Int) : cntU l 0 := fun j h => by omega
theorem cntU_one (l : List Int) : cntU l 1 := fun j h h0 => by omega
theorem cntV_zero (l : List Int) : cntV l 0 := fun j h => by omega
theorem cntU_succ {l : List Int} {n : Nat} (h : cntU l n) (h1 : 0 < n → at_ 0 l ((n : Int) - 1) < at_ 0 l (n : Int)) : cntU l (n + 1) := fun j hj h0 => by
  by_cases e : j = n
  · subst e; exact h1 h0
  · exact h j (by omega) h0
theorem cntV_succ {l : List Int} {n : Nat} (h : cntV l n) (h1 : 0 ≤ at_ 0 l (n : Int) ∧ at_ 0 l (n : Int) ≤ 8) : cntV l (n + 1) := fun j hj => by
  by_cases e : j = n
  · subst e; exact h1
  · exact h j (by omega)
theorem cntV_all {l : List Int} {n : Nat} (h : cntV l n) (hn : l.length ≤ n) : ∀ x ∈ l, 0 ≤ x ∧ x ≤ 8 := fun x hx => by
  obtain ⟨j, hj, rfl⟩ := List.mem_iff_getElem.mp hx
  have := h j (by omega)
  rw [at_eq 0 l hj] at this
  exact this
theorem cntP_in {l : List Int} (h : cntP l) {j : Nat} (hj : j < l.length) : 0 ≤ at_ 0 l (j : Int) ∧ at_ 0 l (j : Int) ≤ 8 := h.1 _ (at_mem 0 l (by omega) (by omega))
theorem cntP_up {l : List Int} (h : cntP l) {j : Nat} (hj : j < l.length) (h0 : 0 < j) : at_ 0 l ((j : Int) - 1) < at_ 0 l (j : Int) := h.2 j hj h0
theorem cntU_full {l : List Int} {n : Nat} (h : cntU l n) (hn : l.length ≤ n) : cntU l l.length := fun j hj h0 => h j (by omega) h0
/-- Is a life valid? -/
def lifP (b s : List Int) : Prop := cntP b ∧ cntP s
instance (b s : List Int) : Decidable (lifP b s) := by unfold lifP; infer_instance
/-- Can a field live? -/
def canP (b s : List Int) (r c : Int) (l : List Int) : Prop := lifP b s ∧ fieldN 1 r c l
instance (b s : List Int) (r c : Int) (l : List Int) : Decidable (canP b s r c l) := by unfold canP; infer_instance
def sumF (f : Int → Int) : Nat → Int
  | 0 => 0
  | n + 1 => sumF f n + f n
theorem sumF_zero (f : Int → Int) : sumF f 0 = 0 := rfl
theorem sumF_succ (f : Int → Int) (n : Nat) : sumF f (n + 1) = sumF f n + f n := rfl
theorem sumF_3 (f : Int → Int) : sumF f 3 = f 0 + f 1 + f 2 := by
  show 0 + f ((0 : Nat) : Int) + f ((1 : Nat) : Int) + f ((2 : Nat) : Int) = _
  simp
theorem sumF_bnd {f : Int → Int} {a b : Int} (h : ∀ i, a ≤ f i ∧ f i ≤ b) : ∀ n : Nat, (n : Int) * a ≤ sumF f n ∧ sumF f n ≤ (n : Int) * b
  | 0 => by simp [sumF]
  | n + 1 => by
    have h1 := sumF_bnd h n
    have h2 := h n
    simp only [sumF, Int.natCast_add, Int.add_mul]
    omega
/-- A cell, round and round, or 0 beyond the border. -/
def lkF (rnd : Bool) (r c : Int) (l : List Int) (i k : Int) : Int := if rnd then at_ 0 l (roundF r c i k) else flatF r c l i k
/-- The same, but 0 for one cell. -/
def skF (rnd : Bool) (r c : Int) (l : List Int) (i k a b : Int) : Int := if a = i ∧ b = k then 0 else lkF rnd r c l a b
/-- The neighbours of a cell that are 1. -/
def arF (rnd : Bool) (r c : Int) (l : List Int) (i k : Int) : Int := sumF (fun a => sumF (fun b => skF rnd r c l i k (i - 1 + a) (k - 1 + b)) 3) 3
theorem roundF_in {r c i k : Int} (h1 : 0 ≤ i) (h2 : i < r) (h3 : 0 ≤ k) (h4 : k < c) : roundF r c i k = i * c + k := by
  unfold roundF
  rw [Int.emod_eq_of_lt h1 h2, Int.emod_eq_of_lt h3 h4]
theorem lkF_in {rnd : Bool} {r c i k : Int} {l : List Int} (h1 : 0 ≤ i) (h2 : i < r) (h3 : 0 ≤ k) (h4 : k < c) : lkF rnd r c l i k = at_ 0 l (i * c + k) := by
  unfold lkF
  rw [roundF_in h1 h2 h3 h4]
  split
  · rfl
  · unfold flatF; rw [if_pos (by omega)]
theorem lkF_01 {rnd : Bool} {r c : Int} {l : List Int} (h : fieldN 1 r c l) (i k : Int) : 0 ≤ lkF rnd r c l i k ∧ lkF rnd r c l i k ≤ 1 := by
  unfold lkF
  split
  · have b := roundF_lt (i := i) (k := k) h.1
    exact fieldN_at h (by omega) (by omega)
  · unfold flatF
    split
    · rename_i h1
      have b := ix_lt (a := i) (b := k) (r := r) (c := c) (by omega) (by omega) (by omega) (by omega)
      exact fieldN_at h (by omega) (by omega)
    · omega
theorem skF_01 {rnd : Bool} {r c : Int} {l : List Int} (h : fieldN 1 r c l) (i k a b : Int) : 0 ≤ skF rnd r c l i k a b ∧ skF rnd r c l i k a b ≤ 1 := by
  unfold skF
  split
  · omega
  · exact lkF_01 h a b
theorem skF_eq {rnd : Bool} {r c : Int} {l : List Int} {i k a b : Int} : skF rnd r c l i k a b = if a = i ∧ b = k then 0 else if rnd = true ∨ ((0 ≤ a ∧ a ≤ r - 1) ∧ 0 ≤ b ∧ b ≤ c - 1) then at_ 0 l (roundF r c a b) else 0 := by
  unfold skF lkF flatF
  split
  · rfl
  · cases rnd with
    | true => simp
    | false =>
      simp only [Bool.false_eq_true, if_false, false_or]
      split
      · rename_i h; rw [roundF_in (by omega) (by omega) (by omega) (by omega)]
      · rfl
theorem arF_eq {rnd : Bool} {r c : Int} {l : List Int} {i k : Int} (h1 : 0 ≤ i) (h2 : i < r) (h3 : 0 ≤ k) (h4 : k < c) :
    -at_ 0 l (i * c + k) + sumF (fun a => sumF (fun b => lkF rnd r c l (i - 1 + a) (k - 1 + b)) 3) 3 = arF rnd r c l i k := by
  have e := lkF_in (rnd := rnd) (l := l) h1 h2 h3 h4
  unfold arF
  simp only [sumF_3, skF]
  rw [if_neg (by omega), if_neg (by omega), if_neg (by omega), if_neg (by omega), if_pos (by omega), if_neg (by omega), if_neg (by omega), if_neg (by omega), if_neg (by omega)]
  rw [show i - 1 + 1 = i by omega, show k - 1 + 1 = k by omega, e]
  omega
/-- What a cell becomes. -/
def nxG (rnd : Bool) (b s : List Int) (r c : Int) (l : List Int) (i k : Int) : Int :=
  if at_ 0 l (i * c + k) = 0 then (if arF rnd r c l i k ∈ b then 1 else 0) else (if arF rnd r c l i k ∈ s then 1 else 0)
section
variable {rnd : Bool} {b s : List Int} {r c i k : Int} {l : List Int}
theorem nx_b1 (h : at_ 0 l (i * c + k) = 0) (h2 : arF rnd r c l i k ∈ b) : nxG rnd b s r c l i k = 1 := by unfold nxG; rw [if_pos h, if_pos h2]
theorem nx_b0 (h : at_ 0 l (i * c + k) = 0) (h2 : arF rnd r c l i k ∉ b) : nxG rnd b s r c l i k = 0 := by unfold nxG; rw [if_pos h, if_neg h2]
theorem nx_s1 (h : at_ 0 l (i * c + k) = 1) (h2 : arF rnd r c l i k ∈ s) : nxG rnd b s r c l i k = 1 := by unfold nxG; rw [if_neg (by omega), if_pos h2]
theorem nx_s0 (h : at_ 0 l (i * c + k) = 1) (h2 : arF rnd r c l i k ∉ s) : nxG rnd b s r c l i k = 0 := by unfold nxG; rw [if_neg (by omega), if_neg h2]
end
/-- The next field. -/
def nxL (rnd : Bool) (b s : List Int) (r c : Int) (l : List Int) : List Int := mkL c (nxG rnd b s r c l) (r.toNat * c.toNat)
theorem nxG_01 (rnd : Bool) (b s : List Int) (r c : Int) (l : List Int) (i k : Int) : 0 ≤ nxG rnd b s r c l i k ∧ nxG rnd b s r c l i k ≤ 1 := by
  unfold nxG
  split <;> split <;> omega
theorem mkL_len' {c : Int} {g : Int → Int → Int} {rr cc : Int} (h1 : 0 ≤ rr) (h2 : 0 ≤ cc) : ((mkL c g (rr.toNat * cc.toNat)).length : Int) = rr * cc := by
  rw [mkL_length, Int.natCast_mul, Int.toNat_of_nonneg h1, Int.toNat_of_nonneg h2]
theorem mkL_field {n r c : Int} {g : Int → Int → Int} (h : sidesF r c) (hg : ∀ i k, 0 ≤ g i k ∧ g i k ≤ n) : fieldN n r c (mkL c g (r.toNat * c.toNat)) := by
  have q1 := h.1
  have q2 := h.2
  refine ⟨h, mkL_len' (by omega) (by omega), fun x hx => ?_⟩
  simp only [mkL, List.mem_map] at hx
  obtain ⟨j, _, rfl⟩ := hx
  exact hg _ _
theorem nxL_field {rnd : Bool} {b s : List Int} {r c : Int} {l : List Int} (h : sidesF r c) : fieldN 1 r c (nxL rnd b s r c l) := mkL_field h (nxG_01 rnd b s r c l)
/-- The field behind steps. -/
def rnL (rnd : Bool) (b s : List Int) (r c : Int) (l : List Int) : Nat → List Int
  | 0 => l
  | n + 1 => nxL rnd b s r c (rnL rnd b s r c l n)
theorem rnL_field {rnd : Bool} {b s : List Int} {r c : Int} {l : List Int} (h : fieldN 1 r c l) : ∀ n, fieldN 1 r c (rnL rnd b s r c l n)
  | 0 => h
  | _ + 1 => nxL_field h.1
theorem fillL_skip {c : Int} {g : Int → Int → Int} {N : Nat} {i k : Int} {t : Nat} (hc : 0 < c) (k0 : 0 ≤ k) (k1 : k < c) (ht : (t : Int) = i * c + k) (h : g i k = 0) : fillL c g N t = fillL c g N (t + 1) := by
  have hd := divmod (c := c) (i := i) (k := k) hc k0 k1
  unfold fillL
  apply List.map_congr_left
  intro j _
  by_cases e : j = t
  · subst e
    rw [if_neg (by omega), if_pos (by omega), ht, hd.1, hd.2, h]
  · by_cases h1 : j < t
    · rw [if_pos h1, if_pos (by omega)]
    · rw [if_neg h1, if_neg (by omega)]
theorem notin_succ {x : Int} {l : List Int} {i : Nat} (h : x ∉ l.take i) (hi : i < l.length) (hne : ¬ at_ 0 l (i : Int) = x) : x ∉ l.take (i + 1) := by
  rw [take_at 0 l hi]
  intro hh
  rcases List.mem_append.mp hh with hh | hh
  · exact h hh
  · simp only [List.mem_singleton] at hh; exact hne hh.symm
/-- Where a number stands first, or -1. -/
def idxL (x : Int) (l : List Int) : Int := if x ∈ l then (l.findIdx (· == x) : Nat) else -1
theorem idxL_not {x : Int} {l : List Int} (h : x ∉ l) : idxL x l = -1 := if_neg h
theorem idxL_mem {x : Int} {l : List Int} : 0 ≤ idxL x l ↔ x ∈ l := by
  unfold idxL
  split
  · rename_i h; simp [h]
  · rename_i h; simp [h]
theorem idxL_at {x : Int} {l : List Int} {i : Nat} (h : x ∉ l.take i) (hi : i < l.length) (he : at_ 0 l (i : Int) = x) : idxL x l = (i : Int) := by
  rw [at_eq 0 l hi] at he
  unfold idxL
  rw [if_pos (he ▸ List.getElem_mem hi)]
  congr 1
  rw [List.findIdx_eq hi]
  refine ⟨by simp [he], fun j hj => ?_⟩
  simp only [beq_eq_false_iff_ne, ne_eq]
  intro hh
  exact h (List.mem_iff_getElem.mpr ⟨j, by simp; omega, by simp [hh]⟩)
/-- How many cells have a state. -/
def cntE (v : Int) (l : List Int) : Int := l.countP (· == v)
theorem cntE_take {v : Int} {l : List Int} {i : Nat} (h : i < l.length) : cntE v (l.take (i + 1)) = cntE v (l.take i) + (if at_ 0 l (i : Int) = v then 1 else 0) := by
  unfold cntE
  rw [take_at 0 l h, List.countP_append]
  simp only [List.countP_cons, List.countP_nil, beq_iff_eq, Nat.zero_add]
  split <;> simp
theorem cntE_bnd (v : Int) (l : List Int) : 0 ≤ cntE v l ∧ cntE v l ≤ l.length := by
  unfold cntE
  have := List.countP_le_length (p := (· == v)) (l := l)
  omega
end Go.Proofs.YtnijdhlmimemcaaGreatDoor
/- What is found first; counts ahead; shifted fields. -/
namespace Go.Proofs.YtnijdhlmimemcaaGreatDoor
open HL
/-- The first number below N of which something holds, or -1. -/
def fstN (p : Nat → Prop) [DecidablePred p] : Nat → Int
  | 0 => -1
  | n + 1 => if 0 ≤ fstN p n then fstN p n else if p n then (n : Int) else -1
/-- A shifted field. -/
def shG (r c : Int) (l : List Int) (a b i k : Int) : Int := at_ 0 l (roundF r c (i - a) (k - b))
def shL (r c : Int) (l : List Int) (a b : Int) : List Int := mkL c (shG r c l a b) (r.toNat * c.toNat)
/-- A place of a shift: steps, rows and columns in one number. -/
def mvP (b s : List Int) (r c : Int) (l : List Int) (t : Nat) : Prop :=
  cntE 1 (rnL true b s r c l (t / c.toNat / r.toNat + 1)) = cntE 1 l ∧ rnL true b s r c l (t / c.toNat / r.toNat + 1) = shL r c l ((t / c.toNat % r.toNat : Nat) : Int) ((t % c.toNat : Nat) : Int)
instance (b s : List Int) (r c : Int) (l : List Int) : DecidablePred (mvP b s r c l) := fun t => by unfold mvP; infer_instance
/-- Where a field is shifted first, steps, rows and columns in one number. -/
def mvF (b s : List Int) (r c : Int) (l : List Int) (st : Int) : Int := fstN (mvP b s r c l) (st.toNat * r.toNat * c.toNat)
def mvOk (b s : List Int) (r c : Int) (l : List Int) (st : Int) : Prop := canP b s r c l ∧ (1 ≤ st ∧ st ≤ 512) ∧ 0 ≤ mvF b s r c l st
instance (b s : List Int) (r c : Int) (l : List Int) (st : Int) : Decidable (mvOk b s r c l st) := by unfold mvOk; infer_instance
section
variable {b s : List Int} {r c st : Int} {l : List Int} {n i k : Nat}
end
/-- A plain square of 4, 8 or 16 rows. -/
def sqP (r c : Int) (l : List Int) : Prop := fieldN 1 r c l ∧ r = c ∧ (r = 4 ∨ r = 8 ∨ r = 16)
instance (r c : Int) (l : List Int) : Decidable (sqP r c l) := by unfold sqP; infer_instance
def inP (b s : List Int) (r c : Int) (l : List Int) : Prop := lifP b s ∧ sqP r c l
instance (b s : List Int) (r c : Int) (l : List Int) : Decidable (inP b s r c l) := by unfold inP; infer_instance
end Go.Proofs.YtnijdhlmimemcaaGreatDoor
/- Digits of numbers, and all plain fields of few cells. -/
namespace Go.Proofs.YtnijdhlmimemcaaGreatDoor
open HL
theorem HL.Cel.cast {H : Hp} {p : Value} {cs cs' : List Value} (e : cs = cs') (h : Cel H p cs) : Cel H p cs' := e ▸ h
/-- A power of 2. -/
def pw (n : Int) : Nat := 2 ^ n.toNat
/-- The digits of a number, the greatest one first; and the last t of them. -/
def dgL (b x : Int) (N : Nat) : List Int := (List.range N).map fun j => x / b ^ (N - 1 - j) % b
/-- Few cells. -/
def smP (r c : Int) : Prop := sidesF r c ∧ r * c ≤ 12
instance (r c : Int) : Decidable (smP r c) := by unfold smP; infer_instance
def stillP (b s : List Int) (r c : Int) (t : Nat) : Prop := nxL false b s r c (dgL 2 t (r * c).toNat) = dgL 2 t (r * c).toNat
instance (b s : List Int) (r c : Int) : DecidablePred (stillP b s r c) := fun t => by unfold stillP; infer_instance
def befP (b s : List Int) (r c : Int) (l : List Int) (t : Nat) : Prop := nxL false b s r c (dgL 2 t (r * c).toNat) = l
instance (b s : List Int) (r c : Int) (l : List Int) : DecidablePred (befP b s r c l) := fun t => by unfold befP; infer_instance
def stlP (b s : List Int) (r c : Int) : Prop := lifP b s ∧ smP r c
instance (b s : List Int) (r c : Int) : Decidable (stlP b s r c) := by unfold stlP; infer_instance
def cbfP (b s : List Int) (r c : Int) (l : List Int) : Prop := canP b s r c l ∧ smP r c
instance (b s : List Int) (r c : Int) (l : List Int) : Decidable (cbfP b s r c l) := by unfold cbfP; infer_instance
/-- The first field that leads to one. -/
def fbF (b s : List Int) (r c : Int) (l : List Int) : Int := fstN (befP b s r c l) (pw (r * c))
def fbP (b s : List Int) (r c : Int) (l : List Int) : Prop := cbfP b s r c l ∧ 0 ≤ fbF b s r c l
instance (b s : List Int) (r c : Int) (l : List Int) : Decidable (fbP b s r c l) := by unfold fbP; infer_instance
end Go.Proofs.YtnijdhlmimemcaaGreatDoor
/- Two fields put together: the program's and the reference's. -/
namespace Go.Proofs.YtnijdhlmimemcaaGreatDoor
open HL
set_option maxRecDepth 100000
theorem mkL_len {c : Int} {g : Int → Int → Int} {rr cc : Int} (h1 : 0 ≤ rr) (h2 : 0 ≤ cc) : ((mkL c g (rr.toNat * cc.toNat)).length : Int) = rr * cc := by
  rw [mkL_length, Int.natCast_mul, Int.toNat_of_nonneg h1, Int.toNat_of_nonneg h2]
def metO (ra ca rb cb row col : Int) : Prop := (0 ≤ row ∧ row ≤ 24) ∧ (0 ≤ col ∧ col ≤ 24) ∧ (1 ≤ max ra (row + rb) ∧ max ra (row + rb) ≤ 24) ∧ (1 ≤ max ca (col + cb) ∧ max ca (col + cb) ≤ 24)
def metOk (ra ca : Int) (la : List Int) (rb cb : Int) (lb : List Int) (row col : Int) : Prop := fieldN 1 ra ca la ∧ fieldN 1 rb cb lb ∧ metO ra ca rb cb row col
instance (ra ca rb cb row col : Int) : Decidable (metO ra ca rb cb row col) := by unfold metO; infer_instance
instance (ra ca : Int) (la : List Int) (rb cb : Int) (lb : List Int) (row col : Int) : Decidable (metOk ra ca la rb cb lb row col) := by unfold metOk; infer_instance
end Go.Proofs.YtnijdhlmimemcaaGreatDoor
/- Patterns that come again elsewhere. -/
namespace Go.Proofs.YtnijdhlmimemcaaGreatDoor
open HL
set_option maxRecDepth 100000
/-- A cell of 1 on the border. -/
def bdC (r c : Int) (l : List Int) (j : Nat) : Prop := at_ 0 l (j : Int) = 1 ∧ ((j : Int) / c = 0 ∨ (j : Int) % c = 0 ∨ (j : Int) / c = r - 1 ∨ (j : Int) % c = c - 1)
instance (r c : Int) (l : List Int) (j : Nat) : Decidable (bdC r c l j) := by unfold bdC; infer_instance
def bdU (r c : Int) (l : List Int) (n : Nat) : Prop := ∀ j, j < n → ¬ bdC r c l j
instance (r c : Int) (l : List Int) (n : Nat) : Decidable (bdU r c l n) := by unfold bdU; infer_instance
/-- Is a cell on the border 1? -/
def brdP (r c : Int) (l : List Int) : Prop := ¬ bdU r c l (r * c).toNat
instance (r c : Int) (l : List Int) : Decidable (brdP r c l) := by unfold brdP; infer_instance
section
variable {r c : Int} {l : List Int}
end
def shp0 (r c : Int) (l : List Int) : List Int := mkL 24 (fun x y => flatF r c l (x - (24 - r) / 2) (y - (24 - c) / 2)) ((24 : Int).toNat * (24 : Int).toNat)
/-- Is a field's smallest part that of another one? -/
def matP (l m : List Int) : Prop := 0 ≤ (trm 24 24 m).2.1 ∧ trR 24 24 m = trR 24 24 l ∧ trC 24 24 m = trC 24 24 l ∧ trL 24 24 m = trL 24 24 l
instance (l m : List Int) : Decidable (matP l m) := by unfold matP; infer_instance
def shpS (b s : List Int) (r c : Int) (l : List Int) (n : Nat) : List Int := rnL false b s 24 24 (shp0 r c l) n
def shpE (b s : List Int) (r c : Int) (l : List Int) (t : Nat) : Prop := brdP 24 24 (shpS b s r c l (t + 1)) ∨ matP (shp0 r c l) (shpS b s r c l (t + 1))
instance (b s : List Int) (r c : Int) (l : List Int) : DecidablePred (shpE b s r c l) := fun t => by unfold shpE; infer_instance
def shpF (b s : List Int) (r c : Int) (l : List Int) (st : Int) : Int := fstN (shpE b s r c l) st.toNat
def shpT (b s : List Int) (r c : Int) (l : List Int) (st : Int) : List Int := shpS b s r c l ((shpF b s r c l st).toNat + 1)
def shpOk (b s : List Int) (r c : Int) (l : List Int) (st : Int) : Prop := canP b s r c l ∧ (1 ≤ st ∧ st ≤ 64) ∧ 0 ≤ (trm 24 24 (shp0 r c l)).2.1 ∧ ¬ brdP 24 24 (shp0 r c l) ∧ 0 ≤ shpF b s r c l st ∧ ¬ brdP 24 24 (shpT b s r c l st)
instance (b s : List Int) (r c : Int) (l : List Int) (st : Int) : Decidable (shpOk b s r c l st) := by unfold shpOk; infer_instance
section
variable {b s : List Int} {r c st : Int} {l : List Int} {t : Nat}
end
end Go.Proofs.YtnijdhlmimemcaaGreatDoor
/- Numbers with a point: NaNs, what is the same, and single numbers told as double ones. -/
namespace Go.Proofs.YtnijdhlmimemcaaGreatDoor.HL
open Ieee
set_option maxRecDepth 100000
def nanB (k : FloatKind) (x : Nat) : Bool := (k.format.read x).isNaN
theorem read_hi {f : Format} {w : Nat} (h0 : f.binade ≤ f.infRung) (h : f.infRung < w % f.signWeight) : (f.read w).isNaN = true := by
  unfold Format.read
  simp only
  rw [if_neg (by omega), if_neg (by omega), if_neg (by omega)]
  rfl
theorem single_inf : single.infRung = 2139095040 := by decide
theorem single_sw : single.signWeight = 2147483648 := by decide
theorem hi_mod {s r m : Nat} (h : r < m) : (s * m + r) % m = r := by rw [Nat.add_comm, Nat.add_mul_mod_self_right, Nat.mod_eq_of_lt h]
theorem hi32 (t : Nat) : 2139095040 < (t % 2 * 2147483648 + 2139095040 + 1 + t / 2 % 8388607) % 2147483648 := by
  rw [show t % 2 * 2147483648 + 2139095040 + 1 + t / 2 % 8388607 = t % 2 * 2147483648 + (2139095041 + t / 2 % 8388607) by omega, hi_mod (by omega)]; omega
theorem nan_bits32 (a b t : Nat) : nanB .f32 ((Question.nanBits .f32 a b).cut t) = true := by
  refine read_hi (f := single) (by decide) ?_
  rw [single_inf, single_sw]
  exact hi32 t
theorem order_nan {k : FloatKind} {x y : Nat} (h : nanB k x = true) : k.format.order x y = none := by
  unfold nanB at h
  unfold Format.order
  cases hd : k.format.read x <;> simp only [hd, Datum.isNaN] at h
  · simp at h
  · simp at h
  · cases k.format.read y <;> rfl
/-- What an operation with an outcome, or none, hands back. -/
def FR (k : FloatKind) (o : Option Nat) (x : Nat) : Prop := match o with | some r => x = r | none => nanB k x = true
theorem fA_i {op : BinOp} {k : FloatKind} {x y : Nat} {o : Option Nat} {H : Hp} {K : Value → Hp → Prop} (h : fRes op k x y = some o) (hn : ∀ t, nanB k ((Question.nanBits k x y).cut t) = true) (hk : ∀ z, FR k o z → K (.float k z) H) : fA op (.float k x) (.float k y) H K := by
  refine ⟨rfl, ?_⟩
  rw [h]
  cases o with
  | some r => exact hk r rfl
  | none => exact fun t => hk _ (hn t)
end Go.Proofs.YtnijdhlmimemcaaGreatDoor.HL
namespace Go.Proofs.YtnijdhlmimemcaaGreatDoor
open HL
set_option maxRecDepth 100000
end Go.Proofs.YtnijdhlmimemcaaGreatDoor
/- Numbers compared, shares, seeds. -/
namespace Go.Proofs.YtnijdhlmimemcaaGreatDoor
open HL
set_option maxRecDepth 100000
def HL.fLt (x y : Nat) : Bool := FloatKind.f32.format.order x y == some .lt
theorem HL.vF_lss (x y : Nat) : vFcmp .lss (.float .f32 x) (.float .f32 y) = some (.bool (fLt x y)) := by simp [vFcmp, fLt]
def HL.fLe (x y : Nat) : Bool := FloatKind.f32.format.order x y == some .lt || FloatKind.f32.format.order x y == some .eq
theorem HL.vF_leq (x y : Nat) : vFcmp .leq (.float .f32 x) (.float .f32 y) = some (.bool (fLe x y)) := by simp [vFcmp, fLe]
def HL.fGe (x y : Nat) : Bool := FloatKind.f32.format.order x y == some .gt || FloatKind.f32.format.order x y == some .eq
theorem HL.vF_geq (x y : Nat) : vFcmp .geq (.float .f32 x) (.float .f32 y) = some (.bool (fGe x y)) := by simp [vFcmp, fGe]
/-- A share: from 0 to 1. -/
def shrP (x : Nat) : Prop := fGe x 0 = true ∧ fLe x 1065353216 = true
instance (x : Nat) : Decidable (shrP x) := by unfold shrP; infer_instance
/-- Less, where one side may be no number. -/
def fLtO (o : Option Nat) (y : Nat) : Bool := match o with | some r => fLt r y | none => false
theorem fLtO_of {o : Option Nat} {z y : Nat} (h : FR .f32 o z) : fLt z y = fLtO o y := by
  cases o with
  | some r => simp only [FR] at h; subst h; rfl
  | none =>
    simp only [FR] at h
    unfold fLtO fLt
    rw [order_nan h]; rfl
/-- The next seed, and the one behind some draws. -/
def nxS (x : Int) : Int := (1664525 * x + 1013904223) % 4294967296
def sdS (x : Int) : Nat → Int
  | 0 => x
  | n + 1 => nxS (sdS x n)
theorem sdS_bnd {x : Int} (h0 : 0 ≤ x) (h1 : x ≤ 4294967295) : ∀ n, 0 ≤ sdS x n ∧ sdS x n ≤ 4294967295
  | 0 => ⟨h0, h1⟩
  | n + 1 => by simp only [sdS, nxS]; omega
def shB (x : Int) (sh : Nat) : Bool := fLtO (FloatKind.f32.format.div (FloatKind.f32.nearest (x / 256)) 1266679808) sh
end Go.Proofs.YtnijdhlmimemcaaGreatDoor
