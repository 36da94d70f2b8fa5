/- Functions' texts over a partial heap. -/
import Derived.Test.YtaflemogkogkkaaG0
namespace Go.Proofs.Ytaflemogkogkkaa
open HL
set_option linter.unusedVariables false
set_option maxRecDepth 100000
set_option maxHeartbeats 4000000
/-! loop.example/g01381/laws.b10Long: function 4 -/
def F.laws_b10Long (a0 a1 : Value) (H : Hp) (K : Value → Hp → Prop) : Prop :=
  ob (vLenSl a0) fun v6x1 =>
  ob (vInt .gtr v6x1 (.int .i64 1048576)) fun v7x2 =>
  gop v7x2 false (fun K3 => K3 a1 H) H fun v9x4 H5 =>
  gop v7x2 false (fun K6 => ob (vLenSl v9x4) fun u => K6 u H5) H5 fun v10x7 H8 =>
  gop v7x2 false (fun K9 => ob (vInt .gtr v10x7 (.int .i64 1048576)) fun u => K9 u H8) H8 fun v11x10 H11 =>
  ob (vPick v7x2 (.bool true) v11x10) fun v12x12 =>
  K v12x12 H11
def O.laws_b10Long : Nat → Nat × List Nat := fun i => (0, [])
theorem R.laws_b10Long {a0 a1 : Value} {H : Hp} {K : Value → Hp → Prop} (h : F.laws_b10Long a0 a1 H K) : HT prg I.laws_b10Long [a0, a1].toArray H K :=
  HT_of_fev O.laws_b10Long mixed Try.func4 (by kernel_rfl) (Eq.mpr (by kernel_rfl : fev prg O.laws_b10Long Try.f4 [a0, a1] H K = F.laws_b10Long a0 a1 H K) h)

/-! loop.example/g01381/spec.l00From: function 13 -/
def F.spec_l00From (a0 : Value) (H : Hp) (K : Value → Hp → Prop) : Prop :=
  ob (vBuild [(0, 1), (1, 1), (2, 1)] (.agg #[(.slice none 0 0), (.int .i64 0), (.int .u64 0)]) [(0, a0)]) fun v4x1 =>
  nw (v4x1 : Value).cells 58 H fun v5x2 H3 =>
  K v5x2 H3
def O.spec_l00From : Nat → Nat × List Nat := fun i => (0, [])
theorem R.spec_l00From {a0 : Value} {H : Hp} {K : Value → Hp → Prop} (h : F.spec_l00From a0 H K) : HT prg I.spec_l00From [a0].toArray H K :=
  HT_of_fev O.spec_l00From mixed Try.func13 (by kernel_rfl) (Eq.mpr (by kernel_rfl : fev prg O.spec_l00From Try.f13 [a0] H K = F.spec_l00From a0 H K) h)

/-! (*loop.example/g01381/spec.l00Src).next: function 46 -/
def F.pspec_l00Src_next (a0 : Value) (H : Hp) (K : Value → Hp → Prop) : Prop :=
  jn (fun σ1 H1 =>
    ob (vNilC (σ1 0)) fun v26x2 =>
    ob (vFa 1 v26x2) fun v27x3 =>
    ob (vLoad v27x3 H1) fun v28x4 =>
    ob (vInt .add v28x4 (.int .i64 1)) fun v29x5 =>
    ob (vNilC (σ1 0)) fun v30x6 =>
    ob (vFa 1 v30x6) fun v31x7 =>
    st 1 v31x7 v29x5 H1 fun H8 =>
    ob (vNilC (σ1 0)) fun v34x9 =>
    ob (vFa 2 v34x9) fun v35x10 =>
    ob (vLoad v35x10 H8) fun v36x11 =>
    ob (vInt .mul v36x11 (.int .u64 6364136223846793005)) fun v37x12 =>
    ob (vCI .u64 (σ1 3)) fun v39x13 =>
    ob (vInt .add v37x12 v39x13) fun v40x14 =>
    ob (vInt .add v40x14 (.int .u64 1442695040888963407)) fun v41x15 =>
    ob (vNilC (σ1 0)) fun v42x16 =>
    ob (vFa 2 v42x16) fun v43x17 =>
    st 1 v43x17 v41x15 H8 fun H18 =>
    ob (vNilC (σ1 0)) fun v45x19 =>
    ob (vFa 1 v45x19) fun v46x20 =>
    ob (vLoad v46x20 H18) fun v47x21 =>
    ob (vNilC (σ1 0)) fun v49x22 =>
    ob (vFa 0 v49x22) fun v50x23 =>
    ob (vLoad v50x23 H18) fun v51x24 =>
    ob (vLenSl v51x24) fun v52x25 =>
    ob (vInt .leq v47x21 v52x25) fun v53x26 =>
    cnd v53x26
      (K (σ1 3) H18)
      (ob (vNilC (σ1 0)) fun v56x27 =>
    ob (vFa 2 v56x27) fun v57x28 =>
    ob (vLoad v57x28 H18) fun v58x29 =>
    ob (vInt .shr v58x29 (.int .u64 40)) fun v59x30 =>
    ob (vInt .and v59x30 (.int .u64 255)) fun v60x31 =>
    ob (vCI .i64 v60x31) fun v61x32 =>
    K v61x32 H18)) fun J1 =>
  ob (vNilC a0) fun v5x33 =>
  ob (vFa 1 v5x33) fun v6x34 =>
  ob (vLoad v6x34 H) fun v7x35 =>
  ob (vNilC a0) fun v9x36 =>
  ob (vFa 0 v9x36) fun v10x37 =>
  ob (vLoad v10x37 H) fun v11x38 =>
  ob (vLenSl v11x38) fun v12x39 =>
  ob (vInt .lss v7x35 v12x39) fun v13x40 =>
  cnd v13x40
    (ob (vNilC a0) fun v15x41 =>
    ob (vFa 0 v15x41) fun v16x42 =>
    ob (vLoad v16x42 H) fun v17x43 =>
    ob (vNilC a0) fun v19x44 =>
    ob (vFa 1 v19x44) fun v20x45 =>
    ob (vLoad v20x45 H) fun v21x46 =>
    ob (vIx 1 v17x43 v21x46) fun v22x47 =>
    ob (vLoad v22x47 H) fun v23x48 =>
    ob (vCI .i64 v23x48) fun v24x49 =>
    J1 (up (up (up (up (up (up (up (up (up (up (up (up (up (up (up (up (up (up (up (up (up (up (up (up (S0 [a0]) 2 (.int .i64 0)) 3 (.int .i64 0)) 4 a0) 5 v5x33) 6 v6x34) 7 v7x35) 8 a0) 9 v9x36) 10 v10x37) 11 v11x38) 12 v12x39) 13 v13x40) 14 a0) 15 v15x41) 16 v16x42) 17 v17x43) 18 a0) 19 v19x44) 20 v20x45) 21 v21x46) 22 v22x47) 23 v23x48) 24 v24x49) 3 v24x49) H)
    (J1 (up (up (up (up (up (up (up (up (up (up (up (up (S0 [a0]) 2 (.int .i64 0)) 3 (.int .i64 0)) 4 a0) 5 v5x33) 6 v6x34) 7 v7x35) 8 a0) 9 v9x36) 10 v10x37) 11 v11x38) 12 v12x39) 13 v13x40) H)
def O.pspec_l00Src_next : Nat → Nat × List Nat := fun i => bif Nat.beq i 6 then (0, [0, 1, 2, 3, 4, 5, 6, 7, 8, 9]) else bif Nat.beq i 2 then (0, [0, 1, 2, 3, 4, 5, 6, 7, 8, 9]) else bif Nat.beq i 3 then (0, [0, 1, 2, 3, 4, 5, 6, 7, 8, 9, 10, 11]) else (0, [])
theorem R.pspec_l00Src_next {a0 : Value} {H : Hp} {K : Value → Hp → Prop} (h : F.pspec_l00Src_next a0 H K) : HT prg I.pspec_l00Src_next [a0].toArray H K :=
  HT_of_fev O.pspec_l00Src_next mixed Try.func46 (by kernel_rfl) (Eq.mpr (by kernel_rfl : fev prg O.pspec_l00Src_next Try.f46 [a0] H K = F.pspec_l00Src_next a0 H K) h)

/-! (*loop.example/g01381/spec.l00Src).pick: function 28 -/
def F.pspec_l00Src_pick (a0 a1 : Value) (H : Hp) (K : Value → Hp → Prop) : Prop :=
  ob (vInt .leq a1 (.int .i64 1)) fun v7x1 =>
  cnd v7x1
    (K (.int .i64 0) H)
    (HT prg I.pspec_l00Src_next [a0].toArray H fun v9x2 H3 =>
  ob (vInt .gtr a1 (.int .i64 200)) fun v11x4 =>
  cnd v11x4
    (ob (vInt .mul v9x2 (.int .i64 256)) fun v13x5 =>
    HT prg I.pspec_l00Src_next [a0].toArray H3 fun v15x6 H7 =>
    ob (vInt .add v13x5 v15x6) fun v16x8 =>
    ob (vInt .rem v16x8 a1) fun v19x9 =>
  K v19x9 H7)
    (ob (vInt .rem v9x2 a1) fun v19x10 =>
  K v19x10 H3))
def O.pspec_l00Src_pick : Nat → Nat × List Nat := fun i => (0, [])
theorem R.pspec_l00Src_pick {a0 a1 : Value} {H : Hp} {K : Value → Hp → Prop} (h : F.pspec_l00Src_pick a0 a1 H K) : HT prg I.pspec_l00Src_pick [a0, a1].toArray H K :=
  HT_of_fev O.pspec_l00Src_pick mixed Try.func28 (by kernel_rfl) (Eq.mpr (by kernel_rfl : fev prg O.pspec_l00Src_pick Try.f28 [a0, a1] H K = F.pspec_l00Src_pick a0 a1 H K) h)

/-! (*loop.example/g01381/spec.l00Src).one: function 14 -/
def F.pspec_l00Src_one (a0 a1 : Value) (H : Hp) (K : Value → Hp → Prop) : Prop :=
  HT prg I.pspec_l00Src_pick [a0, a1].toArray H fun v7x1 H2 =>
  ob (vInt .eql v7x1 (.int .i64 0)) fun v8x3 =>
  K v8x3 H2
def O.pspec_l00Src_one : Nat → Nat × List Nat := fun i => (0, [])
theorem R.pspec_l00Src_one {a0 a1 : Value} {H : Hp} {K : Value → Hp → Prop} (h : F.pspec_l00Src_one a0 a1 H K) : HT prg I.pspec_l00Src_one [a0, a1].toArray H K :=
  HT_of_fev O.pspec_l00Src_one mixed Try.func14 (by kernel_rfl) (Eq.mpr (by kernel_rfl : fev prg O.pspec_l00Src_one Try.f14 [a0, a1] H K = F.pspec_l00Src_one a0 a1 H K) h)

/-! loop.example/g01381/spec.l04DrawLifeOk: function 15 -/
def F.spec_l04DrawLifeOk (a0 : Value) (H : Hp) (K : Value → Hp → Prop) : Prop :=
  nw #[(.slice none 0 0), (.slice none 0 0)] 26 H fun v2x1 H2 =>
  bS 1 1 #[(.int .i64 0)] 2 [(0, (.int .i64 3))] H2 fun v5x3 H4 =>
  bS 1 2 #[(.int .i64 0)] 2 [(0, (.int .i64 2)), (1, (.int .i64 3))] H4 fun v6x5 H6 =>
  ob (vBuild [(0, 1), (1, 1)] (.agg #[(.slice none 0 0), (.slice none 0 0)]) [(0, v5x3), (1, v6x5)]) fun v7x7 =>
  nw #[(.slice none 0 0), (.slice none 0 0)] 26 H6 fun v3x8 H9 =>
  st 2 v3x8 v7x7 H9 fun H10 =>
  jn (fun σ11 H11 =>
    ob (vLoadN 2 (σ11 3) H11) fun v33x12 =>
    st 2 (σ11 2) v33x12 H11 fun H13 =>
    ob (vLoadN 2 (σ11 2) H13) fun u14 => K u14 H13) fun J11 =>
  HT prg I.pspec_l00Src_one [a0, (.int .i64 2)].toArray H10 fun v9x15 H16 =>
  cnd v9x15
    (bS 1 0 #[(.int .i64 0)] 2 [] H16 fun v10x17 H18 =>
    bS 1 0 #[(.int .i64 0)] 2 [] H18 fun v11x19 H20 =>
    ob (vBuild [(0, 1), (1, 1)] (.agg #[(.slice none 0 0), (.slice none 0 0)]) [(0, v10x17), (1, v11x19)]) fun v12x21 =>
    st 2 v3x8 v12x21 H20 fun H22 =>
    lpE (fun Q23 σ23 H23 =>
      ob (vInt .lss (σ23 4) (.int .i64 9)) fun v14x24 =>
      cnd v14x24
        (HT prg I.pspec_l00Src_one [(σ23 0), (.int .i64 3)].toArray H23 fun v18x25 H26 =>
      cnd v18x25
        (ob (vFa 0 (σ23 3)) fun v19x27 =>
        ob (vLoad v19x27 H26) fun v20x28 =>
        bS 1 1 #[(.int .i64 0)] 2 [(0, (σ23 4))] H26 fun v22x29 H30 =>
        apd 1 8 #[(.int .i64 0)] 2 v20x28 v22x29 H30 fun v23x31 H32 =>
        ob (vFa 0 (σ23 3)) fun v24x33 =>
        st 1 v24x33 v23x31 H32 fun H34 =>
        HT prg I.pspec_l00Src_one [(σ23 0), (.int .i64 3)].toArray H34 fun v26x35 H36 =>
      cnd v26x35
        (ob (vFa 1 (σ23 3)) fun v27x37 =>
        ob (vLoad v27x37 H36) fun v28x38 =>
        bS 1 1 #[(.int .i64 0)] 2 [(0, (σ23 4))] H36 fun v30x39 H40 =>
        apd 1 8 #[(.int .i64 0)] 2 v28x38 v30x39 H40 fun v31x41 H42 =>
        ob (vFa 1 (σ23 3)) fun v32x43 =>
        st 1 v32x43 v31x41 H42 fun H44 =>
        ob (vInt .add (σ23 4) (.int .i64 1)) fun v16x45 =>
      Q23 .normal (up (up (up (up (up (up (up (up (up (up (up (up (up (up (up (up (up (up (up (up (up σ23 13 (σ23 4)) 14 v14x24) 17 (σ23 0)) 18 v18x25) 19 v19x27) 20 v20x28) 21 (σ23 4)) 22 v22x29) 23 v23x31) 24 v24x33) 25 (σ23 0)) 26 v26x35) 27 v27x37) 28 v28x38) 29 (σ23 4)) 30 v30x39) 31 v31x41) 32 v32x43) 15 (σ23 4)) 16 v16x45) 4 v16x45) H44)
        (ob (vInt .add (σ23 4) (.int .i64 1)) fun v16x46 =>
      Q23 .normal (up (up (up (up (up (up (up (up (up (up (up (up (up (up (up σ23 13 (σ23 4)) 14 v14x24) 17 (σ23 0)) 18 v18x25) 19 v19x27) 20 v20x28) 21 (σ23 4)) 22 v22x29) 23 v23x31) 24 v24x33) 25 (σ23 0)) 26 v26x35) 15 (σ23 4)) 16 v16x46) 4 v16x46) H36))
        (HT prg I.pspec_l00Src_one [(σ23 0), (.int .i64 3)].toArray H26 fun v26x47 H48 =>
      cnd v26x47
        (ob (vFa 1 (σ23 3)) fun v27x49 =>
        ob (vLoad v27x49 H48) fun v28x50 =>
        bS 1 1 #[(.int .i64 0)] 2 [(0, (σ23 4))] H48 fun v30x51 H52 =>
        apd 1 8 #[(.int .i64 0)] 2 v28x50 v30x51 H52 fun v31x53 H54 =>
        ob (vFa 1 (σ23 3)) fun v32x55 =>
        st 1 v32x55 v31x53 H54 fun H56 =>
        ob (vInt .add (σ23 4) (.int .i64 1)) fun v16x57 =>
      Q23 .normal (up (up (up (up (up (up (up (up (up (up (up (up (up (up (up σ23 13 (σ23 4)) 14 v14x24) 17 (σ23 0)) 18 v18x25) 25 (σ23 0)) 26 v26x47) 27 v27x49) 28 v28x50) 29 (σ23 4)) 30 v30x51) 31 v31x53) 32 v32x55) 15 (σ23 4)) 16 v16x57) 4 v16x57) H56)
        (ob (vInt .add (σ23 4) (.int .i64 1)) fun v16x58 =>
      Q23 .normal (up (up (up (up (up (up (up (up (up σ23 13 (σ23 4)) 14 v14x24) 17 (σ23 0)) 18 v18x25) 25 (σ23 0)) 26 v26x47) 15 (σ23 4)) 16 v16x58) 4 v16x58) H48)))
        (Q23 (.exit 0) (up (up σ23 13 (σ23 4)) 14 v14x24) H23)) (blkQ 0 (thenQ J11 (retQ prg [(.cell 2 26)] K))) (up (up (up (up (up (up (up (up (up (up (up (S0 [a0]) 2 v2x1) 5 v5x3) 6 v6x5) 7 v7x7) 3 v3x8) 8 a0) 9 v9x15) 10 v10x17) 11 v11x19) 12 v12x21) 4 (.int .i64 1)) H22)
    (J11 (up (up (up (up (up (up (up (S0 [a0]) 2 v2x1) 5 v5x3) 6 v6x5) 7 v7x7) 3 v3x8) 8 a0) 9 v9x15) H16)
def O.spec_l04DrawLifeOk : Nat → Nat × List Nat := fun i => (0, [])
theorem R.spec_l04DrawLifeOk {a0 : Value} {H : Hp} {K : Value → Hp → Prop} (h : F.spec_l04DrawLifeOk a0 H K) : HT prg I.spec_l04DrawLifeOk [a0].toArray H K :=
  HT_of_fev O.spec_l04DrawLifeOk mixed Try.func15 (by kernel_rfl) (Eq.mpr (by kernel_rfl : fev prg O.spec_l04DrawLifeOk Try.f15 [a0] H K = F.spec_l04DrawLifeOk a0 H K) h)

/-! loop.example/g01381/spec.B10Life: function 5 -/
def F.spec_B10Life (a0 : Value) (H : Hp) (K : Value → Hp → Prop) : Prop :=
  nw #[(.slice none 0 0), (.slice none 0 0)] 26 H fun v2x1 H2 =>
  HT prg I.spec_l00From [a0].toArray H2 fun v5x3 H4 =>
  HT prg I.pspec_l00Src_one [v5x3, (.int .i64 2)].toArray H4 fun v7x5 H6 =>
  cnd v7x5
    (bS 1 1 #[(.int .i64 0)] 2 [(0, (.int .i64 3))] H6 fun v8x7 H8 =>
    bS 1 2 #[(.int .i64 0)] 2 [(0, (.int .i64 2)), (1, (.int .i64 3))] H8 fun v9x9 H10 =>
    ob (vBuild [(0, 1), (1, 1)] (.agg #[(.slice none 0 0), (.slice none 0 0)]) [(0, v8x7), (1, v9x9)]) fun v10x11 =>
    st 2 v2x1 v10x11 H10 fun H12 =>
    ob (vLoadN 2 v2x1 H12) fun u13 => K u13 H12)
    (HT prg I.spec_l04DrawLifeOk [v5x3].toArray H6 fun v12x14 H15 =>
  st 2 v2x1 v12x14 H15 fun H16 =>
  ob (vLoadN 2 v2x1 H16) fun u17 => K u17 H16)
def O.spec_B10Life : Nat → Nat × List Nat := fun i => (0, [])
theorem R.spec_B10Life {a0 : Value} {H : Hp} {K : Value → Hp → Prop} (h : F.spec_B10Life a0 H K) : HT prg I.spec_B10Life [a0].toArray H K :=
  HT_of_fev O.spec_B10Life mixed Try.func5 (by kernel_rfl) (Eq.mpr (by kernel_rfl : fev prg O.spec_B10Life Try.f5 [a0] H K = F.spec_B10Life a0 H K) h)

/-! loop.example/g01381/laws.b10At: function 6 -/
def F.laws_b10At (a0 a1 a2 : Value) (H : Hp) (K : Value → Hp → Prop) : Prop :=
  ob (vInt .leq a2 (.int .i64 1)) fun v8x1 =>
  cnd v8x1
    (K (.int .i64 0) H)
    (ob (vLenSl a0) fun v11x2 =>
  ob (vInt .lss a1 v11x2) fun v12x3 =>
  cnd v12x3
    (ob (vIx 1 a0 a1) fun v15x4 =>
    ob (vLoad v15x4 H) fun v16x5 =>
    ob (vCI .i64 v16x5) fun v17x6 =>
    ob (vInt .rem v17x6 a2) fun v19x7 =>
    K v19x7 H)
    (ob (vInt .mul a1 (.int .i64 37)) fun v21x8 =>
  ob (vInt .add v21x8 (.int .i64 11)) fun v22x9 =>
  ob (vInt .rem v22x9 a2) fun v24x10 =>
  K v24x10 H))
def O.laws_b10At : Nat → Nat × List Nat := fun i => (0, [])
theorem R.laws_b10At {a0 a1 a2 : Value} {H : Hp} {K : Value → Hp → Prop} (h : F.laws_b10At a0 a1 a2 H K) : HT prg I.laws_b10At [a0, a1, a2].toArray H K :=
  HT_of_fev O.laws_b10At mixed Try.func6 (by kernel_rfl) (Eq.mpr (by kernel_rfl : fev prg O.laws_b10At Try.f6 [a0, a1, a2] H K = F.laws_b10At a0 a1 a2 H K) h)

/-! loop.example/g01381/spec.l04DrawStates: function 29 -/
def F.spec_l04DrawStates (a0 a1 a2 a3 : Value) (H : Hp) (K : Value → Hp → Prop) : Prop :=
  nw #[(.int .i64 0), (.int .i64 0), (.slice none 0 0)] 30 H fun v8x1 H2 =>
  ob (vBuild [(0, 1), (1, 1), (2, 1)] (.agg #[(.int .i64 0), (.int .i64 0), (.slice none 0 0)]) [(0, a1), (1, a2)]) fun v13x3 =>
  nw #[(.int .i64 0), (.int .i64 0), (.slice none 0 0)] 30 H2 fun v9x4 H5 =>
  st 3 v9x4 v13x3 H5 fun H6 =>
  jn (fun σ7 H7 =>
    ob (vLoadN 3 (σ7 9) H7) fun v29x8 =>
    st 3 (σ7 8) v29x8 H7 fun H9 =>
    ob (vLoadN 3 (σ7 8) H9) fun u10 => K u10 H9) fun J7 =>
  ob (vInt .mul a1 a2) fun v16x11 =>
  lpE (fun Q12 σ12 H12 =>
    ob (vInt .gtr (σ12 10) (.int .i64 0)) fun v18x13 =>
    cnd v18x13
      (ob (vFa 2 (σ12 9)) fun v21x14 =>
    ob (vLoad v21x14 H12) fun v22x15 =>
    HT prg I.pspec_l00Src_pick [(σ12 0), (σ12 3)].toArray H12 fun v25x16 H17 =>
    Le H12 H17 ∧ (bS 1 1 #[(.int .i64 0)] 2 [(0, v25x16)] H17 fun v26x18 H19 =>
    apd 1 8 #[(.int .i64 0)] 2 v22x15 v26x18 H19 fun v27x20 H21 =>
    ob (vFa 2 (σ12 9)) fun v28x22 =>
    st 1 v28x22 v27x20 H21 fun H23 =>
    ob (vInt .sub (σ12 10) (.int .i64 1)) fun v20x24 =>
    Q12 .normal (up (up (up (up (up (up (up (up (up (up (up (up (up σ12 17 (σ12 10)) 18 v18x13) 21 v21x14) 22 v22x15) 23 (σ12 0)) 24 (σ12 3)) 25 v25x16) 26 v26x18) 27 v27x20) 28 v28x22) 19 (σ12 10)) 20 v20x24) 10 v20x24) H23))
      (Q12 (.exit 0) (up (up σ12 17 (σ12 10)) 18 v18x13) H12)) (blkQ 0 (thenQ J7 (retQ prg [(.cell 8 30)] K))) (up (up (up (up (up (up (up (up (up (S0 [a0, a1, a2, a3]) 8 v8x1) 11 a1) 12 a2) 13 v13x3) 9 v9x4) 14 a1) 15 a2) 16 v16x11) 10 v16x11) H6
def O.spec_l04DrawStates : Nat → Nat × List Nat := fun i => bif Nat.beq i 5 then (0, [0, 1, 2, 3, 4, 5, 6, 7, 8]) else (0, [])
theorem R.spec_l04DrawStates {a0 a1 a2 a3 : Value} {H : Hp} {K : Value → Hp → Prop} (h : F.spec_l04DrawStates a0 a1 a2 a3 H K) : HT prg I.spec_l04DrawStates [a0, a1, a2, a3].toArray H K :=
  HT_of_fev O.spec_l04DrawStates mixed Try.func29 (by kernel_rfl) (Eq.mpr (by kernel_rfl : fev prg O.spec_l04DrawStates Try.f29 [a0, a1, a2, a3] H K = F.spec_l04DrawStates a0 a1 a2 a3 H K) h)

/-! loop.example/g01381/spec.l04DrawStates: function 29 -/
def F.spec_l04DrawStatesX (a0 a1 a2 a3 : Value) (H : Hp) (K : Value → Hp → Prop) : Prop :=
  nw #[(.int .i64 0), (.int .i64 0), (.slice none 0 0)] 30 H fun v8x1 H2 =>
  ob (vBuild [(0, 1), (1, 1), (2, 1)] (.agg #[(.int .i64 0), (.int .i64 0), (.slice none 0 0)]) [(0, a1), (1, a2)]) fun v13x3 =>
  nw #[(.int .i64 0), (.int .i64 0), (.slice none 0 0)] 30 H2 fun v9x4 H5 =>
  st 3 v9x4 v13x3 H5 fun H6 =>
  jn (fun σ7 H7 =>
    ob (vLoadN 3 (σ7 9) H7) fun v29x8 =>
    st 3 (σ7 8) v29x8 H7 fun H9 =>
    ob (vLoadN 3 (σ7 8) H9) fun u10 => K u10 H9) fun J7 =>
  ob (vInt .mul a1 a2) fun v16x11 =>
  lpE (fun Q12 σ12 H12 =>
    ob (vInt .gtr (σ12 10) (.int .i64 0)) fun v18x13 =>
    cnd v18x13
      ((ob (vFa 2 (σ12 9)) fun v21x14 =>
    ob (vLoad v21x14 H12) fun v22x15 =>
    HT prg I.pspec_l00Src_pick [(σ12 0), (σ12 3)].toArray H12 fun v25x16 H17 =>
    bS 1 1 #[(.int .i64 0)] 2 [(0, v25x16)] H17 fun v26x18 H19 =>
    apd 1 8 #[(.int .i64 0)] 2 v22x15 v26x18 H19 fun v27x20 H21 =>
    ob (vFa 2 (σ12 9)) fun v28x22 =>
    st 1 v28x22 v27x20 H21 fun H23 =>
    ob (vInt .sub (σ12 10) (.int .i64 1)) fun v20x24 =>
    Q12 .normal (up (up (up (up (up (up (up (up (up (up (up (up (up σ12 17 (σ12 10)) 18 v18x13) 21 v21x14) 22 v22x15) 23 (σ12 0)) 24 (σ12 3)) 25 v25x16) 26 v26x18) 27 v27x20) 28 v28x22) 19 (σ12 10)) 20 v20x24) 10 v20x24) H23) ∧ (ob (vFa 2 (σ12 9)) fun v21x25 =>
    HT prg I.pspec_l00Src_pick [(σ12 0), (σ12 3)].toArray H12 fun v25x26 H27 =>
    ob (vLoad v21x25 H27) fun v22x28 =>
    bS 1 1 #[(.int .i64 0)] 2 [(0, v25x26)] H27 fun v26x29 H30 =>
    apd 1 8 #[(.int .i64 0)] 2 v22x28 v26x29 H30 fun v27x31 H32 =>
    ob (vFa 2 (σ12 9)) fun v28x33 =>
    st 1 v28x33 v27x31 H32 fun H34 =>
    ob (vInt .sub (σ12 10) (.int .i64 1)) fun v20x35 =>
    Q12 .normal (up (up (up (up (up (up (up (up (up (up (up (up (up σ12 17 (σ12 10)) 18 v18x13) 21 v21x25) 23 (σ12 0)) 24 (σ12 3)) 25 v25x26) 22 v22x28) 26 v26x29) 27 v27x31) 28 v28x33) 19 (σ12 10)) 20 v20x35) 10 v20x35) H34))
      (Q12 (.exit 0) (up (up σ12 17 (σ12 10)) 18 v18x13) H12)) (blkQ 0 (thenQ J7 (retQ prg [(.cell 8 30)] K))) (up (up (up (up (up (up (up (up (up (S0 [a0, a1, a2, a3]) 8 v8x1) 11 a1) 12 a2) 13 v13x3) 9 v9x4) 14 a1) 15 a2) 16 v16x11) 10 v16x11) H6
def O.spec_l04DrawStatesX : Nat → Nat × List Nat := fun i => bif Nat.beq i 5 then (2, [1001, 1004, 0, 1, 2, 3, 4, 5, 6, 7, 8, 0, 2, 3, 4, 1, 5, 6, 7, 8]) else (0, [])
theorem R.spec_l04DrawStatesX {a0 a1 a2 a3 : Value} {H : Hp} {K : Value → Hp → Prop} (h : F.spec_l04DrawStatesX a0 a1 a2 a3 H K) : HT prg I.spec_l04DrawStates [a0, a1, a2, a3].toArray H K :=
  HT_of_fev O.spec_l04DrawStatesX mixed Try.func29 (by kernel_rfl) (Eq.mpr (by kernel_rfl : fev prg O.spec_l04DrawStatesX Try.f29 [a0, a1, a2, a3] H K = F.spec_l04DrawStatesX a0 a1 a2 a3 H K) h)

/-! loop.example/g01381/spec.l04DrawOk: function 16 -/
def F.spec_l04DrawOk (a0 a1 a2 : Value) (H : Hp) (K : Value → Hp → Prop) : Prop :=
  nw #[(.int .i64 0), (.int .i64 0), (.slice none 0 0)] 30 H fun v6x1 H2 =>
  HT prg I.spec_l04DrawStates [a0, a1, a2, (.int .i64 2)].toArray H2 fun v10x3 H4 =>
  st 3 v6x1 v10x3 H4 fun H5 =>
  ob (vLoadN 3 v6x1 H5) fun u6 => K u6 H5
def O.spec_l04DrawOk : Nat → Nat × List Nat := fun i => (0, [])
theorem R.spec_l04DrawOk {a0 a1 a2 : Value} {H : Hp} {K : Value → Hp → Prop} (h : F.spec_l04DrawOk a0 a1 a2 H K) : HT prg I.spec_l04DrawOk [a0, a1, a2].toArray H K :=
  HT_of_fev O.spec_l04DrawOk mixed Try.func16 (by kernel_rfl) (Eq.mpr (by kernel_rfl : fev prg O.spec_l04DrawOk Try.f16 [a0, a1, a2] H K = F.spec_l04DrawOk a0 a1 a2 H K) h)

/-! loop.example/g01381/spec.B10Plain: function 7 -/
def F.spec_B10Plain (a0 a1 a2 : Value) (H : Hp) (K : Value → Hp → Prop) : Prop :=
  nw #[(.int .i64 0), (.int .i64 0), (.slice none 0 0)] 30 H fun v6x1 H2 =>
  HT prg I.spec_l00From [a0].toArray H2 fun v9x3 H4 =>
  HT prg I.spec_l04DrawOk [v9x3, a1, a2].toArray H4 fun v13x5 H6 =>
  st 3 v6x1 v13x5 H6 fun H7 =>
  ob (vLoadN 3 v6x1 H7) fun u8 => K u8 H7
def O.spec_B10Plain : Nat → Nat × List Nat := fun i => (0, [])
theorem R.spec_B10Plain {a0 a1 a2 : Value} {H : Hp} {K : Value → Hp → Prop} (h : F.spec_B10Plain a0 a1 a2 H K) : HT prg I.spec_B10Plain [a0, a1, a2].toArray H K :=
  HT_of_fev O.spec_B10Plain mixed Try.func7 (by kernel_rfl) (Eq.mpr (by kernel_rfl : fev prg O.spec_B10Plain Try.f7 [a0, a1, a2] H K = F.spec_B10Plain a0 a1 a2 H K) h)

/-! loop.example/g01381/impl.within: function 51 -/
def F.impl_within (a0 a1 a2 : Value) (H : Hp) (K : Value → Hp → Prop) : Prop :=
  ob (vInt .geq a0 a1) fun v9x1 =>
  gop v9x1 true (fun K2 => K2 a0 H) H fun v11x3 H4 =>
  gop v9x1 true (fun K5 => K5 a2 H4) H4 fun v12x6 H7 =>
  gop v9x1 true (fun K8 => ob (vInt .leq v11x3 v12x6) fun u => K8 u H7) H7 fun v13x9 H10 =>
  ob (vPick v9x1 v13x9 (.bool false)) fun v14x11 =>
  K v14x11 H10
def O.impl_within : Nat → Nat × List Nat := fun i => (0, [])
theorem R.impl_within {a0 a1 a2 : Value} {H : Hp} {K : Value → Hp → Prop} (h : F.impl_within a0 a1 a2 H K) : HT prg I.impl_within [a0, a1, a2].toArray H K :=
  HT_of_fev O.impl_within mixed Try.func51 (by kernel_rfl) (Eq.mpr (by kernel_rfl : fev prg O.impl_within Try.f51 [a0, a1, a2] H K = F.impl_within a0 a1 a2 H K) h)

/-! loop.example/g01381/impl.isSide: function 33 -/
def F.impl_isSide (a0 : Value) (H : Hp) (K : Value → Hp → Prop) : Prop :=
  HT prg I.impl_within [a0, (.int .i64 1), (.int .i64 24)].toArray H fun v4x1 H2 =>
  K v4x1 H2
def O.impl_isSide : Nat → Nat × List Nat := fun i => (0, [])
theorem R.impl_isSide {a0 : Value} {H : Hp} {K : Value → Hp → Prop} (h : F.impl_isSide a0 H K) : HT prg I.impl_isSide [a0].toArray H K :=
  HT_of_fev O.impl_isSide mixed Try.func33 (by kernel_rfl) (Eq.mpr (by kernel_rfl : fev prg O.impl_isSide Try.f33 [a0] H K = F.impl_isSide a0 H K) h)

/-! loop.example/g01381/impl.areSmall: function 21 -/
def F.impl_areSmall (a0 a1 : Value) (H : Hp) (K : Value → Hp → Prop) : Prop :=
  HT prg I.impl_isSide [a0].toArray H fun v6x1 H2 =>
  gop v6x1 true (fun K3 => K3 a1 H2) H2 fun v8x4 H5 =>
  gop v6x1 true (fun K6 => HT prg I.impl_isSide [v8x4].toArray H5 K6) H5 fun v9x7 H8 =>
  ob (vPick v6x1 v9x7 (.bool false)) fun v10x9 =>
  gop v10x9 true (fun K10 => K10 a0 H8) H8 fun v12x11 H12 =>
  gop v10x9 true (fun K13 => K13 a1 H12) H12 fun v13x14 H15 =>
  gop v10x9 true (fun K16 => ob (vInt .mul v12x11 v13x14) fun u => K16 u H15) H15 fun v14x17 H18 =>
  gop v10x9 true (fun K19 => ob (vInt .leq v14x17 (.int .i64 12)) fun u => K19 u H18) H18 fun v15x20 H21 =>
  ob (vPick v10x9 v15x20 (.bool false)) fun v16x22 =>
  K v16x22 H21
def O.impl_areSmall : Nat → Nat × List Nat := fun i => (0, [])
theorem R.impl_areSmall {a0 a1 : Value} {H : Hp} {K : Value → Hp → Prop} (h : F.impl_areSmall a0 a1 H K) : HT prg I.impl_areSmall [a0, a1].toArray H K :=
  HT_of_fev O.impl_areSmall mixed Try.func21 (by kernel_rfl) (Eq.mpr (by kernel_rfl : fev prg O.impl_areSmall Try.f21 [a0, a1] H K = F.impl_areSmall a0 a1 H K) h)

/-! loop.example/g01381/impl.digitsOf: function 34 -/
def F.impl_digitsOf (a0 a1 a2 : Value) (H : Hp) (K : Value → Hp → Prop) : Prop :=
  mkS 1 8 #[(.int .i64 0)] 2 a2 a2 H fun v10x1 H2 =>
  jn (fun σ3 H3 =>
    K (σ3 7) H3) fun J3 =>
  ob (vInt .sub a2 (.int .i64 1)) fun v12x4 =>
  lpE (fun Q5 σ5 H5 =>
    ob (vInt .geq (σ5 8) (.int .i64 0)) fun v14x6 =>
    cnd v14x6
      (ob (vInt .rem (σ5 0) (σ5 1)) fun v21x7 =>
    ob (vIx 1 (σ5 7) (σ5 8)) fun v22x8 =>
    st 1 v22x8 v21x7 H5 fun H9 =>
    ob (vInt .quo (σ5 0) (σ5 1)) fun v25x10 =>
    ob (vInt .sub (σ5 8) (.int .i64 1)) fun v16x11 =>
    Q5 .normal (up (up (up (up (up (up (up (up (up (up (up (up (up (up (up σ5 13 (σ5 8)) 14 v14x6) 17 (σ5 7)) 18 (σ5 8)) 19 (σ5 0)) 20 (σ5 1)) 21 v21x7) 22 v22x8) 23 (σ5 0)) 24 (σ5 1)) 25 v25x10) 0 v25x10) 15 (σ5 8)) 16 v16x11) 8 v16x11) H9)
      (Q5 (.exit 0) (up (up σ5 13 (σ5 8)) 14 v14x6) H5)) (blkQ 0 (thenQ J3 (retQ prg [(.tmp 6)] K))) (up (up (up (up (up (up (up (S0 [a0, a1, a2]) 6 (.slice none 0 0)) 9 a2) 10 v10x1) 7 v10x1) 11 a2) 12 v12x4) 8 v12x4) H2
def O.impl_digitsOf : Nat → Nat × List Nat := fun i => (0, [])
theorem R.impl_digitsOf {a0 a1 a2 : Value} {H : Hp} {K : Value → Hp → Prop} (h : F.impl_digitsOf a0 a1 a2 H K) : HT prg I.impl_digitsOf [a0, a1, a2].toArray H K :=
  HT_of_fev O.impl_digitsOf mixed Try.func34 (by kernel_rfl) (Eq.mpr (by kernel_rfl : fev prg O.impl_digitsOf Try.f34 [a0, a1, a2] H K = F.impl_digitsOf a0 a1 a2 H K) h)

/-! loop.example/g01381/impl.plainFields: function 22 -/
def F.impl_plainFields (a0 a1 a2 : Value) (H : Hp) (K : Value → Hp → Prop) : Prop :=
  ob (vInt .mul a0 a1) fun v10x1 =>
  ob (vInt .shl (.int .i64 1) v10x1) fun v12x2 =>
  lpE (fun Q3 σ3 H3 =>
    ob (vInt .lss (σ3 13) (σ3 12)) fun v14x4 =>
    cnd v14x4
      (HT prg I.impl_digitsOf [(σ3 13), (.int .i64 2), (σ3 6)].toArray H3 fun v21x5 H6 =>
    ob (vBuild [(0, 1), (1, 1), (2, 1)] (.agg #[(.int .i64 0), (.int .i64 0), (.slice none 0 0)]) [(0, (σ3 0)), (1, (σ3 1)), (2, v21x5)]) fun v22x7 =>
    callV prg (σ3 2) [v22x7] H6 fun v23x8 H9 =>
    ob (vInt .add (σ3 13) (.int .i64 1)) fun v24x10 =>
    Q3 .normal (up (up (up (up (up (up (up (up (up (up (up (up (up σ3 14 v14x4) 15 (σ3 13)) 7 (σ3 13)) 16 (σ3 2)) 17 (σ3 0)) 18 (σ3 1)) 19 (σ3 13)) 20 (σ3 6)) 21 v21x5) 22 v22x7) 23 v23x8) 24 v24x10) 13 v24x10) H9)
      (Q3 (.exit 0) (up σ3 14 v14x4) H3)) (blkQ 0 (retQ prg [] K)) (up (up (up (up (up (up (up (S0 [a0, a1, a2]) 8 a0) 9 a1) 10 v10x1) 6 v10x1) 11 v10x1) 12 v12x2) 13 (.int .i64 0)) H
def O.impl_plainFields : Nat → Nat × List Nat := fun i => (0, [])
theorem R.impl_plainFields {a0 a1 a2 : Value} {H : Hp} {K : Value → Hp → Prop} (h : F.impl_plainFields a0 a1 a2 H K) : HT prg I.impl_plainFields [a0, a1, a2].toArray H K :=
  HT_of_fev O.impl_plainFields mixed Try.func22 (by kernel_rfl) (Eq.mpr (by kernel_rfl : fev prg O.impl_plainFields Try.f22 [a0, a1, a2] H K = F.impl_plainFields a0 a1 a2 H K) h)

/-! loop.example/g01381/impl.areWithin: function 50 -/
def F.impl_areWithin (a0 a1 a2 : Value) (H : Hp) (K : Value → Hp → Prop) : Prop :=
  jn (fun σ1 H1 =>
    K (.bool true) H1) fun J1 =>
  ob (vLenSl a0) fun v10x2 =>
  lpE (fun Q3 σ3 H3 =>
    ob (vInt .lss (σ3 11) (σ3 10)) fun v12x4 =>
    cnd v12x4
      (ob (vIx 1 (σ3 9) (σ3 11)) fun v13x5 =>
    ob (vLoad v13x5 H3) fun v14x6 =>
    HT prg I.impl_within [v14x6, (σ3 1), (σ3 2)].toArray H3 fun v18x7 H8 =>
    ob (vUn .not v18x7) fun v19x9 =>
    cnd v19x9
      (Q3 .ret (up (up (up (up (up (up (up (up (up (up σ3 12 v12x4) 13 v13x5) 14 v14x6) 8 v14x6) 15 v14x6) 16 (σ3 1)) 17 (σ3 2)) 18 v18x7) 19 v19x9) 6 (.bool false)) H8)
      (ob (vInt .add (σ3 11) (.int .i64 1)) fun v20x10 =>
    Q3 .normal (up (up (up (up (up (up (up (up (up (up (up σ3 12 v12x4) 13 v13x5) 14 v14x6) 8 v14x6) 15 v14x6) 16 (σ3 1)) 17 (σ3 2)) 18 v18x7) 19 v19x9) 20 v20x10) 11 v20x10) H8))
      (Q3 (.exit 0) (up σ3 12 v12x4) H3)) (blkQ 0 (thenQ J1 (retQ prg [(.tmp 6)] K))) (up (up (up (up (S0 [a0, a1, a2]) 6 (.bool false)) 9 a0) 10 v10x2) 11 (.int .i64 0)) H
def O.impl_areWithin : Nat → Nat × List Nat := fun i => (0, [])
theorem R.impl_areWithin {a0 a1 a2 : Value} {H : Hp} {K : Value → Hp → Prop} (h : F.impl_areWithin a0 a1 a2 H K) : HT prg I.impl_areWithin [a0, a1, a2].toArray H K :=
  HT_of_fev O.impl_areWithin mixed Try.func50 (by kernel_rfl) (Eq.mpr (by kernel_rfl : fev prg O.impl_areWithin Try.f50 [a0, a1, a2] H K = F.impl_areWithin a0 a1 a2 H K) h)

/-! loop.example/g01381/impl.areCounts: function 32 -/
def F.impl_areCounts (a0 : Value) (H : Hp) (K : Value → Hp → Prop) : Prop :=
  jn (fun σ1 H1 =>
    HT prg I.impl_areWithin [(σ1 0), (.int .i64 0), (.int .i64 8)].toArray H1 fun v21x2 H3 =>
    K v21x2 H3) fun J1 =>
  lpE (fun Q4 σ4 H4 =>
    ob (vLenSl (σ4 0)) fun v6x5 =>
    ob (vInt .lss (σ4 3) v6x5) fun v7x6 =>
    cnd v7x6
      (ob (vIx 1 (σ4 0) (σ4 3)) fun v12x7 =>
    ob (vLoad v12x7 H4) fun v13x8 =>
    ob (vInt .sub (σ4 3) (.int .i64 1)) fun v16x9 =>
    ob (vIx 1 (σ4 0) v16x9) fun v17x10 =>
    ob (vLoad v17x10 H4) fun v18x11 =>
    ob (vInt .leq v13x8 v18x11) fun v19x12 =>
    cnd v19x12
      (Q4 .ret (up (up (up (up (up (up (up (up (up (up (up (up (up (up (up σ4 4 (σ4 3)) 5 (σ4 0)) 6 v6x5) 7 v7x6) 10 (σ4 0)) 11 (σ4 3)) 12 v12x7) 13 v13x8) 14 (σ4 0)) 15 (σ4 3)) 16 v16x9) 17 v17x10) 18 v18x11) 19 v19x12) 2 (.bool false)) H4)
      (ob (vInt .add (σ4 3) (.int .i64 1)) fun v9x13 =>
    Q4 .normal (up (up (up (up (up (up (up (up (up (up (up (up (up (up (up (up (up σ4 4 (σ4 3)) 5 (σ4 0)) 6 v6x5) 7 v7x6) 10 (σ4 0)) 11 (σ4 3)) 12 v12x7) 13 v13x8) 14 (σ4 0)) 15 (σ4 3)) 16 v16x9) 17 v17x10) 18 v18x11) 19 v19x12) 8 (σ4 3)) 9 v9x13) 3 v9x13) H4))
      (Q4 (.exit 0) (up (up (up (up σ4 4 (σ4 3)) 5 (σ4 0)) 6 v6x5) 7 v7x6) H4)) (blkQ 0 (thenQ J1 (retQ prg [(.tmp 2)] K))) (up (up (S0 [a0]) 2 (.bool false)) 3 (.int .i64 1)) H
def O.impl_areCounts : Nat → Nat × List Nat := fun i => bif Nat.beq i 4 then (0, [0, 1, 2, 3, 4, 5, 6, 7, 8, 9]) else (0, [])
theorem R.impl_areCounts {a0 : Value} {H : Hp} {K : Value → Hp → Prop} (h : F.impl_areCounts a0 H K) : HT prg I.impl_areCounts [a0].toArray H K :=
  HT_of_fev O.impl_areCounts mixed Try.func32 (by kernel_rfl) (Eq.mpr (by kernel_rfl : fev prg O.impl_areCounts Try.f32 [a0] H K = F.impl_areCounts a0 H K) h)

/-! loop.example/g01381/impl.ValidLife: function 20 -/
def F.impl_ValidLife (a0 : Value) (H : Hp) (K : Value → Hp → Prop) : Prop :=
  nw (a0 : Value).cells 26 H fun v1x1 H2 =>
  ob (vFa 0 v1x1) fun v3x3 =>
  ob (vLoad v3x3 H2) fun v4x4 =>
  HT prg I.impl_areCounts [v4x4].toArray H2 fun v5x5 H6 =>
  gop v5x5 true (fun K7 => ob (vFa 1 v1x1) fun u => K7 u H6) H6 fun v7x8 H9 =>
  gop v5x5 true (fun K10 => ob (vLoad v7x8 H9) fun u => K10 u H9) H9 fun v8x11 H12 =>
  gop v5x5 true (fun K13 => HT prg I.impl_areCounts [v8x11].toArray H12 K13) H12 fun v9x14 H15 =>
  ob (vPick v5x5 v9x14 (.bool false)) fun v10x16 =>
  K v10x16 H15
def O.impl_ValidLife : Nat → Nat × List Nat := fun i => (0, [])
theorem R.impl_ValidLife {a0 : Value} {H : Hp} {K : Value → Hp → Prop} (h : F.impl_ValidLife a0 H K) : HT prg I.impl_ValidLife [a0].toArray H K :=
  HT_of_fev O.impl_ValidLife mixed Try.func20 (by kernel_rfl) (Eq.mpr (by kernel_rfl : fev prg O.impl_ValidLife Try.f20 [a0] H K = F.impl_ValidLife a0 H K) h)

/-! slices.IndexFunc[[]loop.example/g01381/impl.Field,loop.example/g01381/impl.Field]: function 59 -/
def F.slices_IndexFunc_impl_Field_impl_Field (a0 a1 : Value) (H : Hp) (K : Value → Hp → Prop) : Prop :=
  jn (fun σ1 H1 =>
    K (.int .i64 (-1)) H1) fun J1 =>
  ob (vLenSl a0) fun v7x2 =>
  lpE (fun Q3 σ3 H3 =>
    ob (vInt .lss (σ3 8) (σ3 7)) fun v9x4 =>
    cnd v9x4
      (ob (vIx 3 (σ3 0) (σ3 8)) fun v14x5 =>
    ob (vLoadN 3 v14x5 H3) fun v15x6 =>
    callV prg (σ3 1) [v15x6] H3 fun v16x7 H8 =>
    cnd v16x7
      (Q3 .ret (up (up (up (up (up (up (up (up (up (up (up σ3 9 v9x4) 10 (σ3 8)) 5 (σ3 8)) 11 (σ3 1)) 12 (σ3 0)) 13 (σ3 8)) 14 v14x5) 15 v15x6) 16 v16x7) 17 (σ3 8)) 4 (σ3 8)) H8)
      (ob (vInt .add (σ3 8) (.int .i64 1)) fun v18x9 =>
    Q3 .normal (up (up (up (up (up (up (up (up (up (up (up σ3 9 v9x4) 10 (σ3 8)) 5 (σ3 8)) 11 (σ3 1)) 12 (σ3 0)) 13 (σ3 8)) 14 v14x5) 15 v15x6) 16 v16x7) 18 v18x9) 8 v18x9) H8))
      (Q3 (.exit 0) (up σ3 9 v9x4) H3)) (blkQ 0 (thenQ J1 (retQ prg [(.tmp 4)] K))) (up (up (up (up (S0 [a0, a1]) 4 (.int .i64 0)) 6 a0) 7 v7x2) 8 (.int .i64 0)) H
def O.slices_IndexFunc_impl_Field_impl_Field : Nat → Nat × List Nat := fun i => (0, [])
theorem R.slices_IndexFunc_impl_Field_impl_Field {a0 a1 : Value} {H : Hp} {K : Value → Hp → Prop} (h : F.slices_IndexFunc_impl_Field_impl_Field a0 a1 H K) : HT prg I.slices_IndexFunc_impl_Field_impl_Field [a0, a1].toArray H K :=
  HT_of_fev O.slices_IndexFunc_impl_Field_impl_Field mixed Try.func59 (by kernel_rfl) (Eq.mpr (by kernel_rfl : fev prg O.slices_IndexFunc_impl_Field_impl_Field Try.f59 [a0, a1] H K = F.slices_IndexFunc_impl_Field_impl_Field a0 a1 H K) h)

/-! slices.ContainsFunc[[]loop.example/g01381/impl.Field,loop.example/g01381/impl.Field]: function 47 -/
def F.slices_ContainsFunc_impl_Field_impl_Field (a0 a1 : Value) (H : Hp) (K : Value → Hp → Prop) : Prop :=
  HT prg I.slices_IndexFunc_impl_Field_impl_Field [a0, a1].toArray H fun v7x1 H2 =>
  ob (vInt .geq v7x1 (.int .i64 0)) fun v8x3 =>
  K v8x3 H2
def O.slices_ContainsFunc_impl_Field_impl_Field : Nat → Nat × List Nat := fun i => (0, [])
theorem R.slices_ContainsFunc_impl_Field_impl_Field {a0 a1 : Value} {H : Hp} {K : Value → Hp → Prop} (h : F.slices_ContainsFunc_impl_Field_impl_Field a0 a1 H K) : HT prg I.slices_ContainsFunc_impl_Field_impl_Field [a0, a1].toArray H K :=
  HT_of_fev O.slices_ContainsFunc_impl_Field_impl_Field mixed Try.func47 (by kernel_rfl) (Eq.mpr (by kernel_rfl : fev prg O.slices_ContainsFunc_impl_Field_impl_Field Try.f47 [a0, a1] H K = F.slices_ContainsFunc_impl_Field_impl_Field a0 a1 H K) h)

/-! loop.example/g01381/impl.areMany: function 64 -/
def F.impl_areMany (a0 a1 a2 a3 a4 : Value) (H : Hp) (K : Value → Hp → Prop) : Prop :=
  ob (vLenSl a0) fun v12x1 =>
  HT prg I.impl_within [v12x1, a1, a2].toArray H fun v15x2 H3 =>
  gop v15x2 true (fun K4 => K4 a0 H3) H3 fun v17x5 H6 =>
  gop v15x2 true (fun K7 => K7 a3 H6) H6 fun v18x8 H9 =>
  gop v15x2 true (fun K10 => K10 a4 H9) H9 fun v19x11 H12 =>
  gop v15x2 true (fun K13 => HT prg I.impl_areWithin [v17x5, v18x8, v19x11].toArray H12 K13) H12 fun v20x14 H15 =>
  ob (vPick v15x2 v20x14 (.bool false)) fun v21x16 =>
  K v21x16 H15
def O.impl_areMany : Nat → Nat × List Nat := fun i => (0, [])
theorem R.impl_areMany {a0 a1 a2 a3 a4 : Value} {H : Hp} {K : Value → Hp → Prop} (h : F.impl_areMany a0 a1 a2 a3 a4 H K) : HT prg I.impl_areMany [a0, a1, a2, a3, a4].toArray H K :=
  HT_of_fev O.impl_areMany mixed Try.func64 (by kernel_rfl) (Eq.mpr (by kernel_rfl : fev prg O.impl_areMany Try.f64 [a0, a1, a2, a3, a4] H K = F.impl_areMany a0 a1 a2 a3 a4 H K) h)

/-! loop.example/g01381/impl.ValidField: function 60 -/
def F.impl_ValidField (a0 : Value) (H : Hp) (K : Value → Hp → Prop) : Prop :=
  nw (a0 : Value).cells 30 H fun v1x1 H2 =>
  ob (vFa 0 v1x1) fun v4x3 =>
  ob (vLoad v4x3 H2) fun v5x4 =>
  ob (vFa 1 v1x1) fun v6x5 =>
  ob (vLoad v6x5 H2) fun v7x6 =>
  ob (vInt .mul v5x4 v7x6) fun v8x7 =>
  ob (vFa 0 v1x1) fun v9x8 =>
  ob (vLoad v9x8 H2) fun v10x9 =>
  HT prg I.impl_isSide [v10x9].toArray H2 fun v11x10 H11 =>
  gop v11x10 true (fun K12 => ob (vFa 1 v1x1) fun u => K12 u H11) H11 fun v13x13 H14 =>
  gop v11x10 true (fun K15 => ob (vLoad v13x13 H14) fun u => K15 u H14) H14 fun v14x16 H17 =>
  gop v11x10 true (fun K18 => HT prg I.impl_isSide [v14x16].toArray H17 K18) H17 fun v15x19 H20 =>
  ob (vPick v11x10 v15x19 (.bool false)) fun v16x21 =>
  gop v16x21 true (fun K22 => ob (vFa 2 v1x1) fun u => K22 u H20) H20 fun v18x23 H24 =>
  gop v16x21 true (fun K25 => ob (vLoad v18x23 H24) fun u => K25 u H24) H24 fun v19x26 H27 =>
  gop v16x21 true (fun K28 => K28 v8x7 H27) H27 fun v20x29 H30 =>
  gop v16x21 true (fun K31 => K31 v8x7 H30) H30 fun v21x32 H33 =>
  gop v16x21 true (fun K34 => HT prg I.impl_areMany [v19x26, v20x29, v21x32, (.int .i64 0), (.int .i64 9)].toArray H33 K34) H33 fun v22x35 H36 =>
  ob (vPick v16x21 v22x35 (.bool false)) fun v23x37 =>
  K v23x37 H36
def O.impl_ValidField : Nat → Nat × List Nat := fun i => (0, [])
theorem R.impl_ValidField {a0 : Value} {H : Hp} {K : Value → Hp → Prop} (h : F.impl_ValidField a0 H K) : HT prg I.impl_ValidField [a0].toArray H K :=
  HT_of_fev O.impl_ValidField mixed Try.func60 (by kernel_rfl) (Eq.mpr (by kernel_rfl : fev prg O.impl_ValidField Try.f60 [a0] H K = F.impl_ValidField a0 H K) h)

/-! loop.example/g01381/impl.isPlain: function 49 -/
def F.impl_isPlain (a0 : Value) (H : Hp) (K : Value → Hp → Prop) : Prop :=
  nw (a0 : Value).cells 30 H fun v1x1 H2 =>
  ob (vLoadN 3 v1x1 H2) fun v3x3 =>
  HT prg I.impl_ValidField [v3x3].toArray H2 fun v4x4 H5 =>
  gop v4x4 true (fun K6 => ob (vFa 2 v1x1) fun u => K6 u H5) H5 fun v6x7 H8 =>
  gop v4x4 true (fun K9 => ob (vLoad v6x7 H8) fun u => K9 u H8) H8 fun v7x10 H11 =>
  gop v4x4 true (fun K12 => HT prg I.impl_areWithin [v7x10, (.int .i64 0), (.int .i64 1)].toArray H11 K12) H11 fun v8x13 H14 =>
  ob (vPick v4x4 v8x13 (.bool false)) fun v9x15 =>
  K v9x15 H14
def O.impl_isPlain : Nat → Nat × List Nat := fun i => (0, [])
theorem R.impl_isPlain {a0 : Value} {H : Hp} {K : Value → Hp → Prop} (h : F.impl_isPlain a0 H K) : HT prg I.impl_isPlain [a0].toArray H K :=
  HT_of_fev O.impl_isPlain mixed Try.func49 (by kernel_rfl) (Eq.mpr (by kernel_rfl : fev prg O.impl_isPlain Try.f49 [a0] H K = F.impl_isPlain a0 H K) h)

/-! loop.example/g01381/impl.lives$1: function 48 -/
def F.impl_lives_1 (a0 : Value) (H : Hp) (K : Value → Hp → Prop) : Prop :=
  nw (a0 : Value).cells 30 H fun v1x1 H2 =>
  ob (vLoadN 3 v1x1 H2) fun v3x3 =>
  HT prg I.impl_isPlain [v3x3].toArray H2 fun v4x4 H5 =>
  ob (vUn .not v4x4) fun v5x6 =>
  K v5x6 H5
def O.impl_lives_1 : Nat → Nat × List Nat := fun i => (0, [])
theorem R.impl_lives_1 {a0 : Value} {H : Hp} {K : Value → Hp → Prop} (h : F.impl_lives_1 a0 H K) : HT prg I.impl_lives_1 [a0].toArray H K :=
  HT_of_fev O.impl_lives_1 mixed Try.func48 (by kernel_rfl) (Eq.mpr (by kernel_rfl : fev prg O.impl_lives_1 Try.f48 [a0] H K = F.impl_lives_1 a0 H K) h)

/-! loop.example/g01381/impl.lives: function 30 -/
def F.impl_lives (a0 a1 : Value) (H : Hp) (K : Value → Hp → Prop) : Prop :=
  nw (a0 : Value).cells 26 H fun v2x1 H2 =>
  ob (vLoadN 2 v2x1 H2) fun v5x3 =>
  HT prg I.impl_ValidLife [v5x3].toArray H2 fun v6x4 H5 =>
  gop v6x4 true (fun K6 => K6 a1 H5) H5 fun v8x7 H8 =>
  gop v6x4 true (fun K9 => HT prg I.slices_ContainsFunc_impl_Field_impl_Field [v8x7, (.func (.func I.impl_lives_1) #[] #[])].toArray H8 K9) H8 fun v9x10 H11 =>
  gop v6x4 true (fun K12 => ob (vUn .not v9x10) fun u => K12 u H11) H11 fun v10x13 H14 =>
  ob (vPick v6x4 v10x13 (.bool false)) fun v11x15 =>
  K v11x15 H14
def O.impl_lives : Nat → Nat × List Nat := fun i => (0, [])
theorem R.impl_lives {a0 a1 : Value} {H : Hp} {K : Value → Hp → Prop} (h : F.impl_lives a0 a1 H K) : HT prg I.impl_lives [a0, a1].toArray H K :=
  HT_of_fev O.impl_lives mixed Try.func30 (by kernel_rfl) (Eq.mpr (by kernel_rfl : fev prg O.impl_lives Try.f30 [a0, a1] H K = F.impl_lives a0 a1 H K) h)

/-! slices.Equal[[]int64,int64]: function 35 -/
def F.slices_Equal_int64Zint64 (a0 a1 : Value) (H : Hp) (K : Value → Hp → Prop) : Prop :=
  ob (vLenSl a0) fun v7x1 =>
  ob (vLenSl a1) fun v9x2 =>
  ob (vInt .neq v7x1 v9x2) fun v10x3 =>
  cnd v10x3
    (K (.bool false) H)
    (jn (fun σ4 H4 =>
    K (.bool true) H4) fun J4 =>
  ob (vLenSl a0) fun v12x5 =>
  lpE (fun Q6 σ6 H6 =>
    ob (vInt .lss (σ6 13) (σ6 12)) fun v14x7 =>
    cnd v14x7
      (ob (vIx 1 (σ6 0) (σ6 13)) fun v18x8 =>
    ob (vLoad v18x8 H6) fun v19x9 =>
    ob (vIx 1 (σ6 1) (σ6 13)) fun v22x10 =>
    ob (vLoad v22x10 H6) fun v23x11 =>
    ob (vInt .neq v19x9 v23x11) fun v24x12 =>
    cnd v24x12
      (Q6 .ret (up (up (up (up (up (up (up (up (up (up (up (up (up σ6 14 v14x7) 15 (σ6 13)) 5 (σ6 13)) 16 (σ6 0)) 17 (σ6 13)) 18 v18x8) 19 v19x9) 20 (σ6 1)) 21 (σ6 13)) 22 v22x10) 23 v23x11) 24 v24x12) 4 (.bool false)) H6)
      (ob (vInt .add (σ6 13) (.int .i64 1)) fun v25x13 =>
    Q6 .normal (up (up (up (up (up (up (up (up (up (up (up (up (up (up σ6 14 v14x7) 15 (σ6 13)) 5 (σ6 13)) 16 (σ6 0)) 17 (σ6 13)) 18 v18x8) 19 v19x9) 20 (σ6 1)) 21 (σ6 13)) 22 v22x10) 23 v23x11) 24 v24x12) 25 v25x13) 13 v25x13) H6))
      (Q6 (.exit 0) (up σ6 14 v14x7) H6)) (blkQ 0 (thenQ J4 (retQ prg [(.tmp 4)] K))) (up (up (up (up (up (up (up (up (up (S0 [a0, a1]) 4 (.bool false)) 6 a0) 7 v7x1) 8 a1) 9 v9x2) 10 v10x3) 11 a0) 12 v12x5) 13 (.int .i64 0)) H)
def O.slices_Equal_int64Zint64 : Nat → Nat × List Nat := fun i => bif Nat.beq i 6 then (0, [0, 1, 2, 3, 4, 5, 6, 7, 8]) else (0, [])
theorem R.slices_Equal_int64Zint64 {a0 a1 : Value} {H : Hp} {K : Value → Hp → Prop} (h : F.slices_Equal_int64Zint64 a0 a1 H K) : HT prg I.slices_Equal_int64Zint64 [a0, a1].toArray H K :=
  HT_of_fev O.slices_Equal_int64Zint64 mixed Try.func35 (by kernel_rfl) (Eq.mpr (by kernel_rfl : fev prg O.slices_Equal_int64Zint64 Try.f35 [a0, a1] H K = F.slices_Equal_int64Zint64 a0 a1 H K) h)

/-! loop.example/g01381/impl.SameField: function 24 -/
def F.impl_SameField (a0 a1 : Value) (H : Hp) (K : Value → Hp → Prop) : Prop :=
  nw (a0 : Value).cells 30 H fun v2x1 H2 =>
  nw (a1 : Value).cells 30 H2 fun v3x3 H4 =>
  ob (vFa 0 v2x1) fun v5x5 =>
  ob (vLoad v5x5 H4) fun v6x6 =>
  ob (vFa 0 v3x3) fun v7x7 =>
  ob (vLoad v7x7 H4) fun v8x8 =>
  ob (vInt .eql v6x6 v8x8) fun v9x9 =>
  gop v9x9 true (fun K10 => ob (vFa 1 v2x1) fun u => K10 u H4) H4 fun v11x11 H12 =>
  gop v9x9 true (fun K13 => ob (vLoad v11x11 H12) fun u => K13 u H12) H12 fun v12x14 H15 =>
  gop v9x9 true (fun K16 => ob (vFa 1 v3x3) fun u => K16 u H15) H15 fun v13x17 H18 =>
  gop v9x9 true (fun K19 => ob (vLoad v13x17 H18) fun u => K19 u H18) H18 fun v14x20 H21 =>
  gop v9x9 true (fun K22 => ob (vInt .eql v12x14 v14x20) fun u => K22 u H21) H21 fun v15x23 H24 =>
  ob (vPick v9x9 v15x23 (.bool false)) fun v16x25 =>
  gop v16x25 true (fun K26 => ob (vFa 2 v2x1) fun u => K26 u H24) H24 fun v18x27 H28 =>
  gop v16x25 true (fun K29 => ob (vLoad v18x27 H28) fun u => K29 u H28) H28 fun v19x30 H31 =>
  gop v16x25 true (fun K32 => ob (vFa 2 v3x3) fun u => K32 u H31) H31 fun v20x33 H34 =>
  gop v16x25 true (fun K35 => ob (vLoad v20x33 H34) fun u => K35 u H34) H34 fun v21x36 H37 =>
  gop v16x25 true (fun K38 => HT prg I.slices_Equal_int64Zint64 [v19x30, v21x36].toArray H37 K38) H37 fun v22x39 H40 =>
  ob (vPick v16x25 v22x39 (.bool false)) fun v23x41 =>
  K v23x41 H40
def O.impl_SameField : Nat → Nat × List Nat := fun i => (0, [])
theorem R.impl_SameField {a0 a1 : Value} {H : Hp} {K : Value → Hp → Prop} (h : F.impl_SameField a0 a1 H K) : HT prg I.impl_SameField [a0, a1].toArray H K :=
  HT_of_fev O.impl_SameField mixed Try.func24 (by kernel_rfl) (Eq.mpr (by kernel_rfl : fev prg O.impl_SameField Try.f24 [a0, a1] H K = F.impl_SameField a0 a1 H K) h)

/-! loop.example/g01381/impl.madeField: function 36 -/
def F.impl_madeField (a0 a1 a2 : Value) (H : Hp) (K : Value → Hp → Prop) : Prop :=
  nw #[(.int .i64 0), (.int .i64 0), (.slice none 0 0)] 30 H fun v6x1 H2 =>
  ob (vBuild [(0, 1), (1, 1), (2, 1)] (.agg #[(.int .i64 0), (.int .i64 0), (.slice none 0 0)]) [(0, a0), (1, a1)]) fun v12x3 =>
  nw #[(.int .i64 0), (.int .i64 0), (.slice none 0 0)] 30 H2 fun v7x4 H5 =>
  st 3 v7x4 v12x3 H5 fun H6 =>
  jn (fun σ7 H7 =>
    ob (vLoadN 3 (σ7 7) H7) fun v32x8 =>
    st 3 (σ7 6) v32x8 H7 fun H9 =>
    ob (vLoadN 3 (σ7 6) H9) fun u10 => K u10 H9) fun J7 =>
  lpE (fun Q11 σ11 H11 =>
    ob (vInt .lss (σ11 14) (σ11 13)) fun v15x12 =>
    cnd v15x12
      (jn (fun σ13 H13 =>
      ob (vInt .add (σ13 14) (.int .i64 1)) fun v31x14 =>
      Q11 .normal (up (up σ13 31 v31x14) 14 v31x14) H13) fun J13 =>
    lpE (fun Q15 σ15 H15 =>
      ob (vInt .lss (σ15 18) (σ15 17)) fun v19x16 =>
      cnd v19x16
        (ob (vFa 2 (σ15 7)) fun v21x17 =>
      ob (vLoad v21x17 H15) fun v22x18 =>
      callV prg (σ15 2) [(σ15 8), (σ15 18)] H15 fun v26x19 H20 =>
      Le H15 H20 ∧ (bS 1 1 #[(.int .i64 0)] 2 [(0, v26x19)] H20 fun v27x21 H22 =>
      apd 1 8 #[(.int .i64 0)] 2 v22x18 v27x21 H22 fun v28x23 H24 =>
      ob (vFa 2 (σ15 7)) fun v29x25 =>
      st 1 v29x25 v28x23 H24 fun H26 =>
      ob (vInt .add (σ15 18) (.int .i64 1)) fun v30x27 =>
      Q15 .normal (up (up (up (up (up (up (up (up (up (up (up (up (up (up σ15 19 v19x16) 20 (σ15 18)) 9 (σ15 18)) 21 v21x17) 22 v22x18) 23 (σ15 2)) 24 (σ15 8)) 25 (σ15 18)) 26 v26x19) 27 v27x21) 28 v28x23) 29 v29x25) 30 v30x27) 18 v30x27) H26))
        (Q15 (.exit 2) (up σ15 19 v19x16) H15)) (blkQ 2 (blkQ 1 (thenQ J13 Q11))) (up (up (up (up (up σ11 15 v15x12) 16 (σ11 14)) 8 (σ11 14)) 17 (σ11 1)) 18 (.int .i64 0)) H11)
      (Q11 (.exit 0) (up σ11 15 v15x12) H11)) (blkQ 0 (thenQ J7 (retQ prg [(.cell 6 30)] K))) (up (up (up (up (up (up (up (S0 [a0, a1, a2]) 6 v6x1) 10 a0) 11 a1) 12 v12x3) 7 v7x4) 13 a0) 14 (.int .i64 0)) H6
def O.impl_madeField : Nat → Nat × List Nat := fun i => bif Nat.beq i 8 then (0, [0, 1, 2, 3, 4, 5, 6, 7, 8, 9]) else (0, [])
theorem R.impl_madeField {a0 a1 a2 : Value} {H : Hp} {K : Value → Hp → Prop} (h : F.impl_madeField a0 a1 a2 H K) : HT prg I.impl_madeField [a0, a1, a2].toArray H K :=
  HT_of_fev O.impl_madeField mixed Try.func36 (by kernel_rfl) (Eq.mpr (by kernel_rfl : fev prg O.impl_madeField Try.f36 [a0, a1, a2] H K = F.impl_madeField a0 a1 a2 H K) h)

/-! loop.example/g01381/impl.madeField: function 36 -/
def F.impl_madeFieldX (a0 a1 a2 : Value) (H : Hp) (K : Value → Hp → Prop) : Prop :=
  nw #[(.int .i64 0), (.int .i64 0), (.slice none 0 0)] 30 H fun v6x1 H2 =>
  ob (vBuild [(0, 1), (1, 1), (2, 1)] (.agg #[(.int .i64 0), (.int .i64 0), (.slice none 0 0)]) [(0, a0), (1, a1)]) fun v12x3 =>
  nw #[(.int .i64 0), (.int .i64 0), (.slice none 0 0)] 30 H2 fun v7x4 H5 =>
  st 3 v7x4 v12x3 H5 fun H6 =>
  jn (fun σ7 H7 =>
    ob (vLoadN 3 (σ7 7) H7) fun v32x8 =>
    st 3 (σ7 6) v32x8 H7 fun H9 =>
    ob (vLoadN 3 (σ7 6) H9) fun u10 => K u10 H9) fun J7 =>
  lpE (fun Q11 σ11 H11 =>
    ob (vInt .lss (σ11 14) (σ11 13)) fun v15x12 =>
    cnd v15x12
      (jn (fun σ13 H13 =>
      ob (vInt .add (σ13 14) (.int .i64 1)) fun v31x14 =>
      Q11 .normal (up (up σ13 31 v31x14) 14 v31x14) H13) fun J13 =>
    lpE (fun Q15 σ15 H15 =>
      ob (vInt .lss (σ15 18) (σ15 17)) fun v19x16 =>
      cnd v19x16
        ((ob (vFa 2 (σ15 7)) fun v21x17 =>
      ob (vLoad v21x17 H15) fun v22x18 =>
      callV prg (σ15 2) [(σ15 8), (σ15 18)] H15 fun v26x19 H20 =>
      bS 1 1 #[(.int .i64 0)] 2 [(0, v26x19)] H20 fun v27x21 H22 =>
      apd 1 8 #[(.int .i64 0)] 2 v22x18 v27x21 H22 fun v28x23 H24 =>
      ob (vFa 2 (σ15 7)) fun v29x25 =>
      st 1 v29x25 v28x23 H24 fun H26 =>
      ob (vInt .add (σ15 18) (.int .i64 1)) fun v30x27 =>
      Q15 .normal (up (up (up (up (up (up (up (up (up (up (up (up (up (up σ15 19 v19x16) 20 (σ15 18)) 9 (σ15 18)) 21 v21x17) 22 v22x18) 23 (σ15 2)) 24 (σ15 8)) 25 (σ15 18)) 26 v26x19) 27 v27x21) 28 v28x23) 29 v29x25) 30 v30x27) 18 v30x27) H26) ∧ (ob (vFa 2 (σ15 7)) fun v21x28 =>
      callV prg (σ15 2) [(σ15 8), (σ15 18)] H15 fun v26x29 H30 =>
      ob (vLoad v21x28 H30) fun v22x31 =>
      bS 1 1 #[(.int .i64 0)] 2 [(0, v26x29)] H30 fun v27x32 H33 =>
      apd 1 8 #[(.int .i64 0)] 2 v22x31 v27x32 H33 fun v28x34 H35 =>
      ob (vFa 2 (σ15 7)) fun v29x36 =>
      st 1 v29x36 v28x34 H35 fun H37 =>
      ob (vInt .add (σ15 18) (.int .i64 1)) fun v30x38 =>
      Q15 .normal (up (up (up (up (up (up (up (up (up (up (up (up (up (up σ15 19 v19x16) 20 (σ15 18)) 9 (σ15 18)) 21 v21x28) 23 (σ15 2)) 24 (σ15 8)) 25 (σ15 18)) 26 v26x29) 22 v22x31) 27 v27x32) 28 v28x34) 29 v29x36) 30 v30x38) 18 v30x38) H37))
        (Q15 (.exit 2) (up σ15 19 v19x16) H15)) (blkQ 2 (blkQ 1 (thenQ J13 Q11))) (up (up (up (up (up σ11 15 v15x12) 16 (σ11 14)) 8 (σ11 14)) 17 (σ11 1)) 18 (.int .i64 0)) H11)
      (Q11 (.exit 0) (up σ11 15 v15x12) H11)) (blkQ 0 (thenQ J7 (retQ prg [(.cell 6 30)] K))) (up (up (up (up (up (up (up (S0 [a0, a1, a2]) 6 v6x1) 10 a0) 11 a1) 12 v12x3) 7 v7x4) 13 a0) 14 (.int .i64 0)) H6
def O.impl_madeFieldX : Nat → Nat × List Nat := fun i => bif Nat.beq i 8 then (2, [1001, 1005, 0, 1, 2, 3, 4, 5, 6, 7, 8, 9, 0, 2, 3, 4, 5, 1, 6, 7, 8, 9]) else (0, [])
theorem R.impl_madeFieldX {a0 a1 a2 : Value} {H : Hp} {K : Value → Hp → Prop} (h : F.impl_madeFieldX a0 a1 a2 H K) : HT prg I.impl_madeField [a0, a1, a2].toArray H K :=
  HT_of_fev O.impl_madeFieldX mixed Try.func36 (by kernel_rfl) (Eq.mpr (by kernel_rfl : fev prg O.impl_madeFieldX Try.f36 [a0, a1, a2] H K = F.impl_madeFieldX a0 a1 a2 H K) h)

/-! loop.example/g01381/impl.bit: function 52 -/
def F.impl_bit (a0 : Value) (H : Hp) (K : Value → Hp → Prop) : Prop :=
  cnd a0
    (K (.int .i64 1) H)
    (K (.int .i64 0) H)
def O.impl_bit : Nat → Nat × List Nat := fun i => (0, [])
theorem R.impl_bit {a0 : Value} {H : Hp} {K : Value → Hp → Prop} (h : F.impl_bit a0 H K) : HT prg I.impl_bit [a0].toArray H K :=
  HT_of_fev O.impl_bit mixed Try.func52 (by kernel_rfl) (Eq.mpr (by kernel_rfl : fev prg O.impl_bit Try.f52 [a0] H K = F.impl_bit a0 H K) h)

/-! slices.Index[[]int64,int64]: function 61 -/
def F.slices_Index_int64Zint64 (a0 a1 : Value) (H : Hp) (K : Value → Hp → Prop) : Prop :=
  jn (fun σ1 H1 =>
    K (.int .i64 (-1)) H1) fun J1 =>
  ob (vLenSl a0) fun v7x2 =>
  lpE (fun Q3 σ3 H3 =>
    ob (vInt .lss (σ3 8) (σ3 7)) fun v9x4 =>
    cnd v9x4
      (ob (vIx 1 (σ3 0) (σ3 8)) fun v14x5 =>
    ob (vLoad v14x5 H3) fun v15x6 =>
    ob (vInt .eql (σ3 1) v15x6) fun v16x7 =>
    cnd v16x7
      (Q3 .ret (up (up (up (up (up (up (up (up (up (up (up σ3 9 v9x4) 10 (σ3 8)) 5 (σ3 8)) 11 (σ3 1)) 12 (σ3 0)) 13 (σ3 8)) 14 v14x5) 15 v15x6) 16 v16x7) 17 (σ3 8)) 4 (σ3 8)) H3)
      (ob (vInt .add (σ3 8) (.int .i64 1)) fun v18x8 =>
    Q3 .normal (up (up (up (up (up (up (up (up (up (up (up σ3 9 v9x4) 10 (σ3 8)) 5 (σ3 8)) 11 (σ3 1)) 12 (σ3 0)) 13 (σ3 8)) 14 v14x5) 15 v15x6) 16 v16x7) 18 v18x8) 8 v18x8) H3))
      (Q3 (.exit 0) (up σ3 9 v9x4) H3)) (blkQ 0 (thenQ J1 (retQ prg [(.tmp 4)] K))) (up (up (up (up (S0 [a0, a1]) 4 (.int .i64 0)) 6 a0) 7 v7x2) 8 (.int .i64 0)) H
def O.slices_Index_int64Zint64 : Nat → Nat × List Nat := fun i => (0, [])
theorem R.slices_Index_int64Zint64 {a0 a1 : Value} {H : Hp} {K : Value → Hp → Prop} (h : F.slices_Index_int64Zint64 a0 a1 H K) : HT prg I.slices_Index_int64Zint64 [a0, a1].toArray H K :=
  HT_of_fev O.slices_Index_int64Zint64 mixed Try.func61 (by kernel_rfl) (Eq.mpr (by kernel_rfl : fev prg O.slices_Index_int64Zint64 Try.f61 [a0, a1] H K = F.slices_Index_int64Zint64 a0 a1 H K) h)

/-! slices.Contains[[]int64,int64]: function 53 -/
def F.slices_Contains_int64Zint64 (a0 a1 : Value) (H : Hp) (K : Value → Hp → Prop) : Prop :=
  HT prg I.slices_Index_int64Zint64 [a0, a1].toArray H fun v7x1 H2 =>
  ob (vInt .geq v7x1 (.int .i64 0)) fun v8x3 =>
  K v8x3 H2
def O.slices_Contains_int64Zint64 : Nat → Nat × List Nat := fun i => (0, [])
theorem R.slices_Contains_int64Zint64 {a0 a1 : Value} {H : Hp} {K : Value → Hp → Prop} (h : F.slices_Contains_int64Zint64 a0 a1 H K) : HT prg I.slices_Contains_int64Zint64 [a0, a1].toArray H K :=
  HT_of_fev O.slices_Contains_int64Zint64 mixed Try.func53 (by kernel_rfl) (Eq.mpr (by kernel_rfl : fev prg O.slices_Contains_int64Zint64 Try.f53 [a0, a1] H K = F.slices_Contains_int64Zint64 a0 a1 H K) h)

/-! (loop.example/g01381/impl.Life).becomes: function 38 -/
def F.impl_Life_becomes (a0 a1 a2 : Value) (H : Hp) (K : Value → Hp → Prop) : Prop :=
  nw (a0 : Value).cells 26 H fun v3x1 H2 =>
  ob (vInt .eql a1 (.int .i64 0)) fun v8x3 =>
  cnd v8x3
    (ob (vFa 0 v3x1) fun v9x4 =>
    ob (vLoad v9x4 H2) fun v10x5 =>
    HT prg I.slices_Contains_int64Zint64 [v10x5, a2].toArray H2 fun v12x6 H7 =>
    HT prg I.impl_bit [v12x6].toArray H7 fun v13x8 H9 =>
    K v13x8 H9)
    (ob (vFa 1 v3x1) fun v14x10 =>
  ob (vLoad v14x10 H2) fun v15x11 =>
  HT prg I.slices_Contains_int64Zint64 [v15x11, a2].toArray H2 fun v17x12 H13 =>
  HT prg I.impl_bit [v17x12].toArray H13 fun v18x14 H15 =>
  K v18x14 H15)
def O.impl_Life_becomes : Nat → Nat × List Nat := fun i => (0, [])
theorem R.impl_Life_becomes {a0 a1 a2 : Value} {H : Hp} {K : Value → Hp → Prop} (h : F.impl_Life_becomes a0 a1 a2 H K) : HT prg I.impl_Life_becomes [a0, a1, a2].toArray H K :=
  HT_of_fev O.impl_Life_becomes mixed Try.func38 (by kernel_rfl) (Eq.mpr (by kernel_rfl : fev prg O.impl_Life_becomes Try.f38 [a0, a1, a2] H K = F.impl_Life_becomes a0 a1 a2 H K) h)

/-! (loop.example/g01381/impl.Field).at: function 39 -/
def F.impl_Field_at (a0 a1 a2 : Value) (H : Hp) (K : Value → Hp → Prop) : Prop :=
  nw (a0 : Value).cells 30 H fun v3x1 H2 =>
  ob (vFa 2 v3x1) fun v7x3 =>
  ob (vLoad v7x3 H2) fun v8x4 =>
  ob (vFa 1 v3x1) fun v10x5 =>
  ob (vLoad v10x5 H2) fun v11x6 =>
  ob (vInt .mul a1 v11x6) fun v12x7 =>
  ob (vInt .add v12x7 a2) fun v14x8 =>
  ob (vIx 1 v8x4 v14x8) fun v15x9 =>
  ob (vLoad v15x9 H2) fun v16x10 =>
  K v16x10 H2
def O.impl_Field_at : Nat → Nat × List Nat := fun i => (0, [])
theorem R.impl_Field_at {a0 a1 a2 : Value} {H : Hp} {K : Value → Hp → Prop} (h : F.impl_Field_at a0 a1 a2 H K) : HT prg I.impl_Field_at [a0, a1, a2].toArray H K :=
  HT_of_fev O.impl_Field_at mixed Try.func39 (by kernel_rfl) (Eq.mpr (by kernel_rfl : fev prg O.impl_Field_at Try.f39 [a0, a1, a2] H K = F.impl_Field_at a0 a1 a2 H K) h)

/-! loop.example/g01381/impl.floorMod: function 62 -/
def F.impl_floorMod (a0 a1 : Value) (H : Hp) (K : Value → Hp → Prop) : Prop :=
  ob (vInt .rem a0 a1) fun v7x1 =>
  ob (vInt .add v7x1 a1) fun v9x2 =>
  ob (vInt .rem v9x2 a1) fun v11x3 =>
  K v11x3 H
def O.impl_floorMod : Nat → Nat × List Nat := fun i => (0, [])
theorem R.impl_floorMod {a0 a1 : Value} {H : Hp} {K : Value → Hp → Prop} (h : F.impl_floorMod a0 a1 H K) : HT prg I.impl_floorMod [a0, a1].toArray H K :=
  HT_of_fev O.impl_floorMod mixed Try.func62 (by kernel_rfl) (Eq.mpr (by kernel_rfl : fev prg O.impl_floorMod Try.f62 [a0, a1] H K = F.impl_floorMod a0 a1 H K) h)

/-! (loop.example/g01381/impl.Field).has: function 63 -/
def F.impl_Field_has (a0 a1 a2 : Value) (H : Hp) (K : Value → Hp → Prop) : Prop :=
  nw (a0 : Value).cells 30 H fun v3x1 H2 =>
  ob (vFa 0 v3x1) fun v8x3 =>
  ob (vLoad v8x3 H2) fun v9x4 =>
  ob (vInt .sub v9x4 (.int .i64 1)) fun v10x5 =>
  HT prg I.impl_within [a1, (.int .i64 0), v10x5].toArray H2 fun v11x6 H7 =>
  gop v11x6 true (fun K8 => K8 a2 H7) H7 fun v13x9 H10 =>
  gop v11x6 true (fun K11 => ob (vFa 1 v3x1) fun u => K11 u H10) H10 fun v14x12 H13 =>
  gop v11x6 true (fun K14 => ob (vLoad v14x12 H13) fun u => K14 u H13) H13 fun v15x15 H16 =>
  gop v11x6 true (fun K17 => ob (vInt .sub v15x15 (.int .i64 1)) fun u => K17 u H16) H16 fun v16x18 H19 =>
  gop v11x6 true (fun K20 => HT prg I.impl_within [v13x9, (.int .i64 0), v16x18].toArray H19 K20) H19 fun v17x21 H22 =>
  ob (vPick v11x6 v17x21 (.bool false)) fun v18x23 =>
  K v18x23 H22
def O.impl_Field_has : Nat → Nat × List Nat := fun i => (0, [])
theorem R.impl_Field_has {a0 a1 a2 : Value} {H : Hp} {K : Value → Hp → Prop} (h : F.impl_Field_has a0 a1 a2 H K) : HT prg I.impl_Field_has [a0, a1, a2].toArray H K :=
  HT_of_fev O.impl_Field_has mixed Try.func63 (by kernel_rfl) (Eq.mpr (by kernel_rfl : fev prg O.impl_Field_has Try.f63 [a0, a1, a2] H K = F.impl_Field_has a0 a1 a2 H K) h)

/-! (loop.example/g01381/impl.Field).look: function 54 -/
def F.impl_Field_look (a0 a1 a2 a3 : Value) (H : Hp) (K : Value → Hp → Prop) : Prop :=
  nw (a0 : Value).cells 30 H fun v4x1 H2 =>
  cnd a3
    (ob (vLoadN 3 v4x1 H2) fun v10x3 =>
    ob (vFa 0 v4x1) fun v12x4 =>
    ob (vLoad v12x4 H2) fun v13x5 =>
    ob (vFa 1 v4x1) fun v16x6 =>
    ob (vLoad v16x6 H2) fun v17x7 =>
    HT prg I.impl_floorMod [a1, v13x5].toArray H2 fun v14x8 H9 =>
    Le H2 H9 ∧ (HT prg I.impl_floorMod [a2, v17x7].toArray H9 fun v18x10 H11 =>
    Le H9 H11 ∧ (HT prg I.impl_Field_at [v10x3, v14x8, v18x10].toArray H11 fun v19x12 H13 =>
    Le H11 H13 ∧ (K v19x12 H13))))
    (ob (vLoadN 3 v4x1 H2) fun v20x14 =>
  HT prg I.impl_Field_has [v20x14, a1, a2].toArray H2 fun v23x15 H16 =>
  ob (vUn .not v23x15) fun v24x17 =>
  cnd v24x17
    (K (.int .i64 0) H16)
    (ob (vLoadN 3 v4x1 H16) fun v25x18 =>
  HT prg I.impl_Field_at [v25x18, a1, a2].toArray H16 fun v28x19 H20 =>
  K v28x19 H20))
def O.impl_Field_look : Nat → Nat × List Nat := fun i => bif Nat.beq i 2 then (0, [0, 1, 2, 3, 5, 6, 7, 4, 8, 9, 10]) else (0, [])
theorem R.impl_Field_look {a0 a1 a2 a3 : Value} {H : Hp} {K : Value → Hp → Prop} (h : F.impl_Field_look a0 a1 a2 a3 H K) : HT prg I.impl_Field_look [a0, a1, a2, a3].toArray H K :=
  HT_of_fev O.impl_Field_look mixed Try.func54 (by kernel_rfl) (Eq.mpr (by kernel_rfl : fev prg O.impl_Field_look Try.f54 [a0, a1, a2, a3] H K = F.impl_Field_look a0 a1 a2 a3 H K) h)

/-! (loop.example/g01381/impl.Field).around: function 40 -/
def F.impl_Field_around (a0 a1 a2 a3 : Value) (H : Hp) (K : Value → Hp → Prop) : Prop :=
  nw (a0 : Value).cells 30 H fun v4x1 H2 =>
  ob (vLoadN 3 v4x1 H2) fun v12x3 =>
  HT prg I.impl_Field_at [v12x3, a1, a2].toArray H2 fun v15x4 H5 =>
  ob (vUn .neg v15x4) fun v16x6 =>
  jn (fun σ7 H7 =>
    K (σ7 9) H7) fun J7 =>
  ob (vInt .sub a1 (.int .i64 1)) fun v18x8 =>
  lpE (fun Q9 σ9 H9 =>
    ob (vInt .add (σ9 1) (.int .i64 1)) fun v21x10 =>
    ob (vInt .leq (σ9 10) v21x10) fun v22x11 =>
    cnd v22x11
      (jn (fun σ12 H12 =>
      ob (vInt .add (σ12 10) (.int .i64 1)) fun v24x13 =>
      Q9 .normal (up (up (up σ12 23 (σ12 10)) 24 v24x13) 10 v24x13) H12) fun J12 =>
    ob (vInt .sub (σ9 2) (.int .i64 1)) fun v26x14 =>
    lpE (fun Q15 σ15 H15 =>
      ob (vInt .add (σ15 2) (.int .i64 1)) fun v29x16 =>
      ob (vInt .leq (σ15 11) v29x16) fun v30x17 =>
      cnd v30x17
        (ob (vLoadN 3 (σ15 4) H15) fun v34x18 =>
      HT prg I.impl_Field_look [v34x18, (σ15 10), (σ15 11), (σ15 3)].toArray H15 fun v38x19 H20 =>
      ob (vInt .add (σ15 9) v38x19) fun v39x21 =>
      ob (vInt .add (σ15 11) (.int .i64 1)) fun v32x22 =>
      Q15 .normal (up (up (up (up (up (up (up (up (up (up (up (up (up (up (up σ15 27 (σ15 11)) 28 (σ15 2)) 29 v29x16) 30 v30x17) 33 (σ15 9)) 34 v34x18) 35 (σ15 10)) 36 (σ15 11)) 37 (σ15 3)) 38 v38x19) 39 v39x21) 9 v39x21) 31 (σ15 11)) 32 v32x22) 11 v32x22) H20)
        (Q15 (.exit 2) (up (up (up (up σ15 27 (σ15 11)) 28 (σ15 2)) 29 v29x16) 30 v30x17) H15)) (blkQ 2 (blkQ 1 (thenQ J12 Q9))) (up (up (up (up (up (up (up σ9 19 (σ9 10)) 20 (σ9 1)) 21 v21x10) 22 v22x11) 25 (σ9 2)) 26 v26x14) 11 v26x14) H9)
      (Q9 (.exit 0) (up (up (up (up σ9 19 (σ9 10)) 20 (σ9 1)) 21 v21x10) 22 v22x11) H9)) (blkQ 0 (thenQ J7 (retQ prg [(.tmp 8)] K))) (up (up (up (up (up (up (up (up (up (up (up (S0 [a0, a1, a2, a3]) 4 v4x1) 8 (.int .i64 0)) 12 v12x3) 13 a1) 14 a2) 15 v15x4) 16 v16x6) 9 v16x6) 17 a1) 18 v18x8) 10 v18x8) H5
def O.impl_Field_around : Nat → Nat × List Nat := fun i => (0, [])
theorem R.impl_Field_around {a0 a1 a2 a3 : Value} {H : Hp} {K : Value → Hp → Prop} (h : F.impl_Field_around a0 a1 a2 a3 H K) : HT prg I.impl_Field_around [a0, a1, a2, a3].toArray H K :=
  HT_of_fev O.impl_Field_around mixed Try.func40 (by kernel_rfl) (Eq.mpr (by kernel_rfl : fev prg O.impl_Field_around Try.f40 [a0, a1, a2, a3] H K = F.impl_Field_around a0 a1 a2 a3 H K) h)

/-! (loop.example/g01381/impl.Life).step$1: function 37 -/
def F.impl_Life_step_1 (a0 a1 a2 a3 a4 : Value) (H : Hp) (K : Value → Hp → Prop) : Prop :=
  ob (vLoadN 2 a2 H) fun v8x1 =>
  ob (vLoadN 3 a3 H) fun v9x2 =>
  ob (vLoadN 3 a3 H) fun v13x3 =>
  ob (vLoad a4 H) fun v16x4 =>
  HT prg I.impl_Field_at [v9x2, a0, a1].toArray H fun v12x5 H6 =>
  Le H H6 ∧ (HT prg I.impl_Field_around [v13x3, a0, a1, v16x4].toArray H6 fun v17x7 H8 =>
  Le H6 H8 ∧ (HT prg I.impl_Life_becomes [v8x1, v12x5, v17x7].toArray H8 fun v18x9 H10 =>
  Le H8 H10 ∧ (K v18x9 H10)))
def O.impl_Life_step_1 : Nat → Nat × List Nat := fun i => bif Nat.beq i 1 then (0, [0, 1, 2, 3, 5, 6, 7, 8, 4, 9, 10, 11]) else (0, [])
theorem R.impl_Life_step_1 {a0 a1 a2 a3 a4 : Value} {H : Hp} {K : Value → Hp → Prop} (h : F.impl_Life_step_1 a0 a1 a2 a3 a4 H K) : HT prg I.impl_Life_step_1 [a0, a1, a2, a3, a4].toArray H K :=
  HT_of_fev O.impl_Life_step_1 mixed Try.func37 (by kernel_rfl) (Eq.mpr (by kernel_rfl : fev prg O.impl_Life_step_1 Try.f37 [a0, a1, a2, a3, a4] H K = F.impl_Life_step_1 a0 a1 a2 a3 a4 H K) h)

/-! (loop.example/g01381/impl.Life).step: function 25 -/
def F.impl_Life_step (a0 a1 a2 : Value) (H : Hp) (K : Value → Hp → Prop) : Prop :=
  nw (a0 : Value).cells 26 H fun v3x1 H2 =>
  nw (a1 : Value).cells 30 H2 fun v4x3 H4 =>
  nw (a2 : Value).cells 4 H4 fun v5x5 H6 =>
  nw #[(.int .i64 0), (.int .i64 0), (.slice none 0 0)] 30 H6 fun v6x7 H8 =>
  ob (vFa 0 v4x3) fun v7x9 =>
  ob (vLoad v7x9 H8) fun v8x10 =>
  ob (vFa 1 v4x3) fun v9x11 =>
  ob (vLoad v9x11 H8) fun v10x12 =>
  HT prg I.impl_madeField [v8x10, v10x12, (.func (.func I.impl_Life_step_1) #[] #[v3x1, v4x3, v5x5])].toArray H8 fun v12x13 H14 =>
  st 3 v6x7 v12x13 H14 fun H15 =>
  ob (vLoadN 3 v6x7 H15) fun u16 => K u16 H15
def O.impl_Life_step : Nat → Nat × List Nat := fun i => (0, [])
theorem R.impl_Life_step {a0 a1 a2 : Value} {H : Hp} {K : Value → Hp → Prop} (h : F.impl_Life_step a0 a1 a2 H K) : HT prg I.impl_Life_step [a0, a1, a2].toArray H K :=
  HT_of_fev O.impl_Life_step mixed Try.func25 (by kernel_rfl) (Eq.mpr (by kernel_rfl : fev prg O.impl_Life_step Try.f25 [a0, a1, a2] H K = F.impl_Life_step a0 a1 a2 H K) h)

/-! loop.example/g01381/impl.before$1: function 31 -/
def F.impl_before_1 (a0 a1 a2 a3 : Value) (H : Hp) (K : Value → Hp → Prop) : Prop :=
  nw (a0 : Value).cells 30 H fun v4x1 H2 =>
  ob (vLoadN 2 a1 H2) fun v5x3 =>
  ob (vLoadN 3 v4x1 H2) fun v6x4 =>
  ob (vLoadN 3 a2 H2) fun v8x5 =>
  HT prg I.impl_Life_step [v5x3, v6x4, (.bool false)].toArray H2 fun v7x6 H7 =>
  Le H2 H7 ∧ (HT prg I.impl_SameField [v7x6, v8x5].toArray H7 fun v9x8 H9 =>
  Le H7 H9 ∧ (cnd v9x8
    (ob (vLoad a3 H9) fun v10x10 =>
    ob (vLoadN 3 v4x1 H9) fun v11x11 =>
    callV prg v10x10 [v11x11] H9 fun v12x12 H13 =>
    K (.tuple #[]) H13)
    (K (.tuple #[]) H9)))
def O.impl_before_1 : Nat → Nat × List Nat := fun i => bif Nat.beq i 1 then (0, [0, 1, 3, 2, 4]) else (0, [])
theorem R.impl_before_1 {a0 a1 a2 a3 : Value} {H : Hp} {K : Value → Hp → Prop} (h : F.impl_before_1 a0 a1 a2 a3 H K) : HT prg I.impl_before_1 [a0, a1, a2, a3].toArray H K :=
  HT_of_fev O.impl_before_1 mixed Try.func31 (by kernel_rfl) (Eq.mpr (by kernel_rfl : fev prg O.impl_before_1 Try.f31 [a0, a1, a2, a3] H K = F.impl_before_1 a0 a1 a2 a3 H K) h)

/-! loop.example/g01381/impl.before: function 17 -/
def F.impl_before (a0 a1 a2 : Value) (H : Hp) (K : Value → Hp → Prop) : Prop :=
  nw (a0 : Value).cells 26 H fun v3x1 H2 =>
  nw (a1 : Value).cells 30 H2 fun v4x3 H4 =>
  nw (a2 : Value).cells 46 H4 fun v5x5 H6 =>
  ob (vLoadN 2 v3x1 H6) fun v7x7 =>
  ob (vLoadN 3 v4x3 H6) fun v8x8 =>
  bS 3 1 #[(.int .i64 0), (.int .i64 0), (.slice none 0 0)] 30 [(0, v8x8)] H6 fun v9x9 H10 =>
  HT prg I.impl_lives [v7x7, v9x9].toArray H10 fun v10x11 H12 =>
  ob (vUn .not v10x11) fun v11x13 =>
  gop v11x13 false (fun K14 => ob (vFa 0 v4x3) fun u => K14 u H12) H12 fun v13x15 H16 =>
  gop v11x13 false (fun K17 => ob (vLoad v13x15 H16) fun u => K17 u H16) H16 fun v14x18 H19 =>
  gop v11x13 false (fun K20 => ob (vFa 1 v4x3) fun u => K20 u H19) H19 fun v15x21 H22 =>
  gop v11x13 false (fun K23 => ob (vLoad v15x21 H22) fun u => K23 u H22) H22 fun v16x24 H25 =>
  gop v11x13 false (fun K26 => HT prg I.impl_areSmall [v14x18, v16x24].toArray H25 K26) H25 fun v17x27 H28 =>
  gop v11x13 false (fun K29 => ob (vUn .not v17x27) fun u => K29 u H28) H28 fun v18x30 H31 =>
  ob (vPick v11x13 (.bool true) v18x30) fun v19x32 =>
  cnd v19x32
    (K (.bool false) H31)
    (ob (vFa 0 v4x3) fun v20x33 =>
  ob (vLoad v20x33 H31) fun v21x34 =>
  ob (vFa 1 v4x3) fun v22x35 =>
  ob (vLoad v22x35 H31) fun v23x36 =>
  HT prg I.impl_plainFields [v21x34, v23x36, (.func (.func I.impl_before_1) #[] #[v3x1, v4x3, v5x5])].toArray H31 fun v25x37 H38 =>
  K (.bool true) H38)
def O.impl_before : Nat → Nat × List Nat := fun i => (0, [])
theorem R.impl_before {a0 a1 a2 : Value} {H : Hp} {K : Value → Hp → Prop} (h : F.impl_before a0 a1 a2 H K) : HT prg I.impl_before [a0, a1, a2].toArray H K :=
  HT_of_fev O.impl_before mixed Try.func17 (by kernel_rfl) (Eq.mpr (by kernel_rfl : fev prg O.impl_before Try.f17 [a0, a1, a2] H K = F.impl_before a0 a1 a2 H K) h)

/-! loop.example/g01381/impl.CountBefore$1: function 18 -/
def F.impl_CountBefore_1 (a0 a1 : Value) (H : Hp) (K : Value → Hp → Prop) : Prop :=
  nw (a0 : Value).cells 30 H fun v2x1 H2 =>
  ob (vLoad a1 H2) fun v3x3 =>
  ob (vInt .add v3x3 (.int .i64 1)) fun v4x4 =>
  st 1 a1 v4x4 H2 fun H5 =>
  K (.tuple #[]) H5
def O.impl_CountBefore_1 : Nat → Nat × List Nat := fun i => (0, [])
theorem R.impl_CountBefore_1 {a0 a1 : Value} {H : Hp} {K : Value → Hp → Prop} (h : F.impl_CountBefore_1 a0 a1 H K) : HT prg I.impl_CountBefore_1 [a0, a1].toArray H K :=
  HT_of_fev O.impl_CountBefore_1 mixed Try.func18 (by kernel_rfl) (Eq.mpr (by kernel_rfl : fev prg O.impl_CountBefore_1 Try.f18 [a0, a1] H K = F.impl_CountBefore_1 a0 a1 H K) h)

/-! loop.example/g01381/impl.CountBefore: function 8 -/
def F.impl_CountBefore (a0 a1 : Value) (H : Hp) (K : Value → Hp → Prop) : Prop :=
  nw (a0 : Value).cells 26 H fun v2x1 H2 =>
  nw (a1 : Value).cells 30 H2 fun v3x3 H4 =>
  nw #[(.int .i64 0)] 2 H4 fun v6x5 H6 =>
  st 1 v6x5 (.int .i64 0) H6 fun H7 =>
  ob (vLoadN 2 v2x1 H7) fun v7x8 =>
  ob (vLoadN 3 v3x3 H7) fun v8x9 =>
  HT prg I.impl_before [v7x8, v8x9, (.func (.func I.impl_CountBefore_1) #[] #[v6x5])].toArray H7 fun v10x10 H11 =>
  ob (vUn .not v10x10) fun v11x12 =>
  cnd v11x12
    (K (.tuple #[(.int .i64 0), (.bool false)]) H11)
    (ob (vLoad v6x5 H11) fun v12x13 =>
  K (.tuple #[v12x13, (.bool true)]) H11)
def O.impl_CountBefore : Nat → Nat × List Nat := fun i => (0, [])
theorem R.impl_CountBefore {a0 a1 : Value} {H : Hp} {K : Value → Hp → Prop} (h : F.impl_CountBefore a0 a1 H K) : HT prg I.impl_CountBefore [a0, a1].toArray H K :=
  HT_of_fev O.impl_CountBefore mixed Try.func8 (by kernel_rfl) (Eq.mpr (by kernel_rfl : fev prg O.impl_CountBefore Try.f8 [a0, a1] H K = F.impl_CountBefore a0 a1 H K) h)

/-! loop.example/g01381/impl.FirstBefore$1: function 19 -/
def F.impl_FirstBefore_1 (a0 a1 a2 : Value) (H : Hp) (K : Value → Hp → Prop) : Prop :=
  nw (a0 : Value).cells 30 H fun v3x1 H2 =>
  ob (vLoad a1 H2) fun v4x3 =>
  ob (vUn .not v4x3) fun v5x4 =>
  cnd v5x4
    (ob (vLoadN 3 v3x1 H2) fun v6x5 =>
    st 3 a2 v6x5 H2 fun H6 =>
    st 1 a1 (.bool true) H6 fun H7 =>
    K (.tuple #[]) H7)
    (K (.tuple #[]) H2)
def O.impl_FirstBefore_1 : Nat → Nat × List Nat := fun i => (0, [])
theorem R.impl_FirstBefore_1 {a0 a1 a2 : Value} {H : Hp} {K : Value → Hp → Prop} (h : F.impl_FirstBefore_1 a0 a1 a2 H K) : HT prg I.impl_FirstBefore_1 [a0, a1, a2].toArray H K :=
  HT_of_fev O.impl_FirstBefore_1 mixed Try.func19 (by kernel_rfl) (Eq.mpr (by kernel_rfl : fev prg O.impl_FirstBefore_1 Try.f19 [a0, a1, a2] H K = F.impl_FirstBefore_1 a0 a1 a2 H K) h)

/-! loop.example/g01381/impl.FirstBefore: function 9 -/
def F.impl_FirstBefore (a0 a1 : Value) (H : Hp) (K : Value → Hp → Prop) : Prop :=
  nw (a0 : Value).cells 26 H fun v2x1 H2 =>
  nw (a1 : Value).cells 30 H2 fun v3x3 H4 =>
  nw #[(.int .i64 0), (.int .i64 0), (.slice none 0 0)] 30 H4 fun v4x5 H6 =>
  ob (vBuild [(0, 1), (1, 1), (2, 1)] (.agg #[(.int .i64 0), (.int .i64 0), (.slice none 0 0)]) []) fun v8x7 =>
  nw #[(.int .i64 0), (.int .i64 0), (.slice none 0 0)] 30 H6 fun v6x8 H9 =>
  nw #[(.bool false)] 4 H9 fun v7x10 H11 =>
  st 3 v6x8 v8x7 H11 fun H12 =>
  st 1 v7x10 (.bool false) H12 fun H13 =>
  ob (vLoadN 2 v2x1 H13) fun v9x14 =>
  ob (vLoadN 3 v3x3 H13) fun v10x15 =>
  HT prg I.impl_before [v9x14, v10x15, (.func (.func I.impl_FirstBefore_1) #[] #[v7x10, v6x8])].toArray H13 fun v12x16 H17 =>
  (ob (vLoadN 3 v6x8 H17) fun v13x18 =>
  ob (vLoad v7x10 H17) fun v14x19 =>
  st 3 v4x5 v13x18 H17 fun H20 =>
  ob (vLoadN 3 v4x5 H20) fun u21 => K (.tuple #[u21, v14x19]) H20) ∧ (ob (vLoadN 3 v6x8 H17) fun v13x22 =>
  st 3 v4x5 v13x22 H17 fun H23 =>
  ob (vLoad v7x10 H23) fun v14x24 =>
  ob (vLoadN 3 v4x5 H23) fun u25 => K (.tuple #[u25, v14x24]) H23)
def O.impl_FirstBefore : Nat → Nat × List Nat := fun i => bif Nat.beq i 3 then (0, [1001, 1002, 0, 1, 2, 3, 0, 2, 1, 3]) else (0, [])
theorem R.impl_FirstBefore {a0 a1 : Value} {H : Hp} {K : Value → Hp → Prop} (h : F.impl_FirstBefore a0 a1 H K) : HT prg I.impl_FirstBefore [a0, a1].toArray H K :=
  HT_of_fev O.impl_FirstBefore mixed Try.func9 (by kernel_rfl) (Eq.mpr (by kernel_rfl : fev prg O.impl_FirstBefore Try.f9 [a0, a1] H K = F.impl_FirstBefore a0 a1 H K) h)

/-! loop.example/g01381/impl.CountStill$1: function 23 -/
def F.impl_CountStill_1 (a0 a1 a2 : Value) (H : Hp) (K : Value → Hp → Prop) : Prop :=
  nw (a0 : Value).cells 30 H fun v3x1 H2 =>
  ob (vLoadN 2 a1 H2) fun v4x3 =>
  ob (vLoadN 3 v3x1 H2) fun v5x4 =>
  ob (vLoadN 3 v3x1 H2) fun v7x5 =>
  HT prg I.impl_Life_step [v4x3, v5x4, (.bool false)].toArray H2 fun v6x6 H7 =>
  Le H2 H7 ∧ (HT prg I.impl_SameField [v6x6, v7x5].toArray H7 fun v8x8 H9 =>
  Le H7 H9 ∧ (cnd v8x8
    (ob (vLoad a2 H9) fun v9x10 =>
    ob (vInt .add v9x10 (.int .i64 1)) fun v10x11 =>
    st 1 a2 v10x11 H9 fun H12 =>
    K (.tuple #[]) H12)
    (K (.tuple #[]) H9)))
def O.impl_CountStill_1 : Nat → Nat × List Nat := fun i => bif Nat.beq i 1 then (0, [0, 1, 3, 2, 4]) else (0, [])
theorem R.impl_CountStill_1 {a0 a1 a2 : Value} {H : Hp} {K : Value → Hp → Prop} (h : F.impl_CountStill_1 a0 a1 a2 H K) : HT prg I.impl_CountStill_1 [a0, a1, a2].toArray H K :=
  HT_of_fev O.impl_CountStill_1 mixed Try.func23 (by kernel_rfl) (Eq.mpr (by kernel_rfl : fev prg O.impl_CountStill_1 Try.f23 [a0, a1, a2] H K = F.impl_CountStill_1 a0 a1 a2 H K) h)

/-! loop.example/g01381/impl.CountStill: function 10 -/
def F.impl_CountStill (a0 a1 a2 : Value) (H : Hp) (K : Value → Hp → Prop) : Prop :=
  nw (a0 : Value).cells 26 H fun v3x1 H2 =>
  ob (vLoadN 2 v3x1 H2) fun v9x3 =>
  HT prg I.impl_ValidLife [v9x3].toArray H2 fun v10x4 H5 =>
  ob (vUn .not v10x4) fun v11x6 =>
  gop v11x6 false (fun K7 => K7 a1 H5) H5 fun v13x8 H9 =>
  gop v11x6 false (fun K10 => K10 a2 H9) H9 fun v14x11 H12 =>
  gop v11x6 false (fun K13 => HT prg I.impl_areSmall [v13x8, v14x11].toArray H12 K13) H12 fun v15x14 H15 =>
  gop v11x6 false (fun K16 => ob (vUn .not v15x14) fun u => K16 u H15) H15 fun v16x17 H18 =>
  ob (vPick v11x6 (.bool true) v16x17) fun v17x19 =>
  cnd v17x19
    (K (.tuple #[(.int .i64 0), (.bool false)]) H18)
    (nw #[(.int .i64 0)] 2 H18 fun v8x20 H21 =>
  st 1 v8x20 (.int .i64 0) H21 fun H22 =>
  HT prg I.impl_plainFields [a1, a2, (.func (.func I.impl_CountStill_1) #[] #[v3x1, v8x20])].toArray H22 fun v21x23 H24 =>
  ob (vLoad v8x20 H24) fun v22x25 =>
  K (.tuple #[v22x25, (.bool true)]) H24)
def O.impl_CountStill : Nat → Nat × List Nat := fun i => (0, [])
theorem R.impl_CountStill {a0 a1 a2 : Value} {H : Hp} {K : Value → Hp → Prop} (h : F.impl_CountStill a0 a1 a2 H K) : HT prg I.impl_CountStill [a0, a1, a2].toArray H K :=
  HT_of_fev O.impl_CountStill mixed Try.func10 (by kernel_rfl) (Eq.mpr (by kernel_rfl : fev prg O.impl_CountStill Try.f10 [a0, a1, a2] H K = F.impl_CountStill a0 a1 a2 H K) h)

/-! loop.example/g01381/spec.l00In: function 57 -/
def F.spec_l00In (a0 a1 a2 : Value) (H : Hp) (K : Value → Hp → Prop) : Prop :=
  ob (vInt .geq a0 a1) fun v9x1 =>
  gop v9x1 true (fun K2 => K2 a0 H) H fun v11x3 H4 =>
  gop v9x1 true (fun K5 => K5 a2 H4) H4 fun v12x6 H7 =>
  gop v9x1 true (fun K8 => ob (vInt .leq v11x3 v12x6) fun u => K8 u H7) H7 fun v13x9 H10 =>
  ob (vPick v9x1 v13x9 (.bool false)) fun v14x11 =>
  K v14x11 H10
def O.spec_l00In : Nat → Nat × List Nat := fun i => (0, [])
theorem R.spec_l00In {a0 a1 a2 : Value} {H : Hp} {K : Value → Hp → Prop} (h : F.spec_l00In a0 a1 a2 H K) : HT prg I.spec_l00In [a0, a1, a2].toArray H K :=
  HT_of_fev O.spec_l00In mixed Try.func57 (by kernel_rfl) (Eq.mpr (by kernel_rfl : fev prg O.spec_l00In Try.f57 [a0, a1, a2] H K = F.spec_l00In a0 a1 a2 H K) h)

/-! loop.example/g01381/spec.l04Counts: function 55 -/
def F.spec_l04Counts (a0 : Value) (H : Hp) (K : Value → Hp → Prop) : Prop :=
  jn (fun σ1 H1 =>
    K (.bool true) H1) fun J1 =>
  lpE (fun Q2 σ2 H2 =>
    ob (vLenSl (σ2 0)) fun v6x3 =>
    ob (vInt .lss (σ2 3) v6x3) fun v7x4 =>
    cnd v7x4
      (ob (vIx 1 (σ2 0) (σ2 3)) fun v12x5 =>
    ob (vLoad v12x5 H2) fun v13x6 =>
    HT prg I.spec_l00In [v13x6, (.int .i64 0), (.int .i64 8)].toArray H2 fun v14x7 H8 =>
    Le H2 H8 ∧ (ob (vUn .not v14x7) fun v15x9 =>
    gop v15x9 false (fun K10 => K10 (σ2 3) H8) H8 fun v17x11 H12 =>
    gop v15x9 false (fun K13 => ob (vInt .gtr v17x11 (.int .i64 0)) fun u => K13 u H12) H12 fun v18x14 H15 =>
    gop v15x9 false (fun K16 => K16 v18x14 H15) H15 fun v19x17 H18 =>
    gop v19x17 true (fun K19 => K19 (σ2 0) H18) H18 fun v20x20 H21 =>
    gop v19x17 true (fun K22 => K22 (σ2 3) H21) H21 fun v21x23 H24 =>
    gop v19x17 true (fun K25 => ob (vIx 1 v20x20 v21x23) fun u => K25 u H24) H24 fun v22x26 H27 =>
    gop v19x17 true (fun K28 => ob (vLoad v22x26 H27) fun u => K28 u H27) H27 fun v23x29 H30 =>
    gop v19x17 true (fun K31 => K31 (σ2 0) H30) H30 fun v24x32 H33 =>
    gop v19x17 true (fun K34 => K34 (σ2 3) H33) H33 fun v25x35 H36 =>
    gop v19x17 true (fun K37 => ob (vInt .sub v25x35 (.int .i64 1)) fun u => K37 u H36) H36 fun v26x38 H39 =>
    gop v19x17 true (fun K40 => ob (vIx 1 v24x32 v26x38) fun u => K40 u H39) H39 fun v27x41 H42 =>
    gop v19x17 true (fun K43 => ob (vLoad v27x41 H42) fun u => K43 u H42) H42 fun v28x44 H45 =>
    gop v19x17 true (fun K46 => ob (vInt .leq v23x29 v28x44) fun u => K46 u H45) H45 fun v29x47 H48 =>
    gop v15x9 false (fun K49 => ob (vPick v19x17 v29x47 (.bool false)) fun u => K49 u H48) H48 fun v30x50 H51 =>
    ob (vPick v15x9 (.bool true) v30x50) fun v31x52 =>
    cnd v31x52
      (Q2 .ret (up (up (up (up (up (up (up (up (up (up (up (up (up (up (up (up (up (up (up (up (up (up (up (up (up (up (up σ2 4 (σ2 3)) 5 (σ2 0)) 6 v6x3) 7 v7x4) 10 (σ2 0)) 11 (σ2 3)) 12 v12x5) 13 v13x6) 14 v14x7) 15 v15x9) 16 v15x9) 17 v17x11) 18 v18x14) 19 v19x17) 20 v20x20) 21 v21x23) 22 v22x26) 23 v23x29) 24 v24x32) 25 v25x35) 26 v26x38) 27 v27x41) 28 v28x44) 29 v29x47) 30 v30x50) 31 v31x52) 2 (.bool false)) H51)
      (ob (vInt .add (σ2 3) (.int .i64 1)) fun v9x53 =>
    Q2 .normal (up (up (up (up (up (up (up (up (up (up (up (up (up (up (up (up (up (up (up (up (up (up (up (up (up (up (up (up (up σ2 4 (σ2 3)) 5 (σ2 0)) 6 v6x3) 7 v7x4) 10 (σ2 0)) 11 (σ2 3)) 12 v12x5) 13 v13x6) 14 v14x7) 15 v15x9) 16 v15x9) 17 v17x11) 18 v18x14) 19 v19x17) 20 v20x20) 21 v21x23) 22 v22x26) 23 v23x29) 24 v24x32) 25 v25x35) 26 v26x38) 27 v27x41) 28 v28x44) 29 v29x47) 30 v30x50) 31 v31x52) 8 (σ2 3)) 9 v9x53) 3 v9x53) H51)))
      (Q2 (.exit 0) (up (up (up (up σ2 4 (σ2 3)) 5 (σ2 0)) 6 v6x3) 7 v7x4) H2)) (blkQ 0 (thenQ J1 (retQ prg [(.tmp 2)] K))) (up (up (S0 [a0]) 2 (.bool false)) 3 (.int .i64 0)) H
def O.spec_l04Counts : Nat → Nat × List Nat := fun i => bif Nat.beq i 4 then (0, [0, 1, 2, 3, 4, 5, 6, 7, 8, 9, 10, 11, 12, 13, 14, 15, 16, 17, 18, 19, 20, 21]) else (0, [])
theorem R.spec_l04Counts {a0 : Value} {H : Hp} {K : Value → Hp → Prop} (h : F.spec_l04Counts a0 H K) : HT prg I.spec_l04Counts [a0].toArray H K :=
  HT_of_fev O.spec_l04Counts mixed Try.func55 (by kernel_rfl) (Eq.mpr (by kernel_rfl : fev prg O.spec_l04Counts Try.f55 [a0] H K = F.spec_l04Counts a0 H K) h)

/-! loop.example/g01381/spec.l04Life: function 41 -/
def F.spec_l04Life (a0 : Value) (H : Hp) (K : Value → Hp → Prop) : Prop :=
  ob (vNilC a0) fun v4x1 =>
  ob (vFa 0 v4x1) fun v5x2 =>
  ob (vLoad v5x2 H) fun v6x3 =>
  HT prg I.spec_l04Counts [v6x3].toArray H fun v7x4 H5 =>
  gop v7x4 true (fun K6 => K6 a0 H5) H5 fun v9x7 H8 =>
  gop v7x4 true (fun K9 => ob (vNilC v9x7) fun u => K9 u H8) H8 fun v10x10 H11 =>
  gop v7x4 true (fun K12 => ob (vFa 1 v10x10) fun u => K12 u H11) H11 fun v11x13 H14 =>
  gop v7x4 true (fun K15 => ob (vLoad v11x13 H14) fun u => K15 u H14) H14 fun v12x16 H17 =>
  gop v7x4 true (fun K18 => HT prg I.spec_l04Counts [v12x16].toArray H17 K18) H17 fun v13x19 H20 =>
  ob (vPick v7x4 v13x19 (.bool false)) fun v14x21 =>
  K v14x21 H20
def O.spec_l04Life : Nat → Nat × List Nat := fun i => (0, [])
theorem R.spec_l04Life {a0 : Value} {H : Hp} {K : Value → Hp → Prop} (h : F.spec_l04Life a0 H K) : HT prg I.spec_l04Life [a0].toArray H K :=
  HT_of_fev O.spec_l04Life mixed Try.func41 (by kernel_rfl) (Eq.mpr (by kernel_rfl : fev prg O.spec_l04Life Try.f41 [a0] H K = F.spec_l04Life a0 H K) h)

/-! loop.example/g01381/spec.l04Is: function 56 -/
def F.spec_l04Is (a0 : Value) (H : Hp) (K : Value → Hp → Prop) : Prop :=
  ob (vNilC a0) fun v5x1 =>
  ob (vFa 0 v5x1) fun v6x2 =>
  ob (vLoad v6x2 H) fun v7x3 =>
  HT prg I.spec_l00In [v7x3, (.int .i64 1), (.int .i64 24)].toArray H fun v8x4 H5 =>
  Le H H5 ∧ (ob (vUn .not v8x4) fun v9x6 =>
  gop v9x6 false (fun K7 => K7 a0 H5) H5 fun v11x8 H9 =>
  gop v9x6 false (fun K10 => ob (vNilC v11x8) fun u => K10 u H9) H9 fun v12x11 H12 =>
  gop v9x6 false (fun K13 => ob (vFa 1 v12x11) fun u => K13 u H12) H12 fun v13x14 H15 =>
  gop v9x6 false (fun K16 => ob (vLoad v13x14 H15) fun u => K16 u H15) H15 fun v14x17 H18 =>
  gop v9x6 false (fun K19 => HT prg I.spec_l00In [v14x17, (.int .i64 1), (.int .i64 24)].toArray H18 fun v15x20 H21 =>
  Le H18 H21 ∧ K19 v15x20 H21) H18 fun v15x22 H23 =>
  gop v9x6 false (fun K24 => ob (vUn .not v15x22) fun u => K24 u H23) H23 fun v16x25 H26 =>
  ob (vPick v9x6 (.bool true) v16x25) fun v17x27 =>
  gop v17x27 false (fun K28 => K28 a0 H26) H26 fun v19x29 H30 =>
  gop v17x27 false (fun K31 => ob (vNilC v19x29) fun u => K31 u H30) H30 fun v20x32 H33 =>
  gop v17x27 false (fun K34 => ob (vFa 2 v20x32) fun u => K34 u H33) H33 fun v21x35 H36 =>
  gop v17x27 false (fun K37 => ob (vLoad v21x35 H36) fun u => K37 u H36) H36 fun v22x38 H39 =>
  gop v17x27 false (fun K40 => ob (vLenSl v22x38) fun u => K40 u H39) H39 fun v23x41 H42 =>
  gop v17x27 false (fun K43 => K43 a0 H42) H42 fun v24x44 H45 =>
  gop v17x27 false (fun K46 => ob (vNilC v24x44) fun u => K46 u H45) H45 fun v25x47 H48 =>
  gop v17x27 false (fun K49 => ob (vFa 0 v25x47) fun u => K49 u H48) H48 fun v26x50 H51 =>
  gop v17x27 false (fun K52 => ob (vLoad v26x50 H51) fun u => K52 u H51) H51 fun v27x53 H54 =>
  gop v17x27 false (fun K55 => K55 a0 H54) H54 fun v28x56 H57 =>
  gop v17x27 false (fun K58 => ob (vNilC v28x56) fun u => K58 u H57) H57 fun v29x59 H60 =>
  gop v17x27 false (fun K61 => ob (vFa 1 v29x59) fun u => K61 u H60) H60 fun v30x62 H63 =>
  gop v17x27 false (fun K64 => ob (vLoad v30x62 H63) fun u => K64 u H63) H63 fun v31x65 H66 =>
  gop v17x27 false (fun K67 => ob (vInt .mul v27x53 v31x65) fun u => K67 u H66) H66 fun v32x68 H69 =>
  gop v17x27 false (fun K70 => ob (vInt .neq v23x41 v32x68) fun u => K70 u H69) H69 fun v33x71 H72 =>
  ob (vPick v17x27 (.bool true) v33x71) fun v34x73 =>
  cnd v34x73
    (K (.bool false) H72)
    (jn (fun σ74 H74 =>
    K (.bool true) H74) fun J74 =>
  lpE (fun Q75 σ75 H75 =>
    ob (vNilC (σ75 0)) fun v37x76 =>
    ob (vFa 2 v37x76) fun v38x77 =>
    ob (vLoad v38x77 H75) fun v39x78 =>
    ob (vLenSl v39x78) fun v40x79 =>
    ob (vInt .lss (σ75 3) v40x79) fun v41x80 =>
    cnd v41x80
      (ob (vNilC (σ75 0)) fun v45x81 =>
    ob (vFa 2 v45x81) fun v46x82 =>
    ob (vLoad v46x82 H75) fun v47x83 =>
    ob (vIx 1 v47x83 (σ75 3)) fun v49x84 =>
    ob (vLoad v49x84 H75) fun v50x85 =>
    HT prg I.spec_l00In [v50x85, (.int .i64 0), (.int .i64 9)].toArray H75 fun v51x86 H87 =>
    ob (vUn .not v51x86) fun v52x88 =>
    cnd v52x88
      (Q75 .ret (up (up (up (up (up (up (up (up (up (up (up (up (up (up (up (up (up σ75 35 (σ75 3)) 36 (σ75 0)) 37 v37x76) 38 v38x77) 39 v39x78) 40 v40x79) 41 v41x80) 44 (σ75 0)) 45 v45x81) 46 v46x82) 47 v47x83) 48 (σ75 3)) 49 v49x84) 50 v50x85) 51 v51x86) 52 v52x88) 2 (.bool false)) H87)
      (ob (vInt .add (σ75 3) (.int .i64 1)) fun v43x89 =>
    Q75 .normal (up (up (up (up (up (up (up (up (up (up (up (up (up (up (up (up (up (up (up σ75 35 (σ75 3)) 36 (σ75 0)) 37 v37x76) 38 v38x77) 39 v39x78) 40 v40x79) 41 v41x80) 44 (σ75 0)) 45 v45x81) 46 v46x82) 47 v47x83) 48 (σ75 3)) 49 v49x84) 50 v50x85) 51 v51x86) 52 v52x88) 42 (σ75 3)) 43 v43x89) 3 v43x89) H87))
      (Q75 (.exit 0) (up (up (up (up (up (up (up σ75 35 (σ75 3)) 36 (σ75 0)) 37 v37x76) 38 v38x77) 39 v39x78) 40 v40x79) 41 v41x80) H75)) (blkQ 0 (thenQ J74 (retQ prg [(.tmp 2)] K))) (up (up (up (up (up (up (up (up (up (up (up (up (up (up (up (up (up (up (up (up (up (up (up (up (up (up (up (up (up (up (up (up (up (S0 [a0]) 2 (.bool false)) 4 a0) 5 v5x1) 6 v6x2) 7 v7x3) 8 v8x4) 9 v9x6) 10 v9x6) 11 v11x8) 12 v12x11) 13 v13x14) 14 v14x17) 15 v15x22) 16 v16x25) 17 v17x27) 18 v17x27) 19 v19x29) 20 v20x32) 21 v21x35) 22 v22x38) 23 v23x41) 24 v24x44) 25 v25x47) 26 v26x50) 27 v27x53) 28 v28x56) 29 v29x59) 30 v30x62) 31 v31x65) 32 v32x68) 33 v33x71) 34 v34x73) 3 (.int .i64 0)) H72))
def O.spec_l04Is : Nat → Nat × List Nat := fun i => bif Nat.beq i 1 then (0, [0, 1, 2, 3, 4, 5, 6, 7, 8, 9, 10, 11, 12, 13, 14, 15, 16, 17, 18, 19, 20, 21, 22, 23, 24, 25, 26, 27, 28, 29, 30]) else (0, [])
theorem R.spec_l04Is {a0 : Value} {H : Hp} {K : Value → Hp → Prop} (h : F.spec_l04Is a0 H K) : HT prg I.spec_l04Is [a0].toArray H K :=
  HT_of_fev O.spec_l04Is mixed Try.func56 (by kernel_rfl) (Eq.mpr (by kernel_rfl : fev prg O.spec_l04Is Try.f56 [a0] H K = F.spec_l04Is a0 H K) h)

/-! loop.example/g01381/spec.l04Plain: function 42 -/
def F.spec_l04Plain (a0 : Value) (H : Hp) (K : Value → Hp → Prop) : Prop :=
  HT prg I.spec_l04Is [a0].toArray H fun v5x1 H2 =>
  ob (vUn .not v5x1) fun v6x3 =>
  cnd v6x3
    (K (.bool false) H2)
    (jn (fun σ4 H4 =>
    K (.bool true) H4) fun J4 =>
  lpE (fun Q5 σ5 H5 =>
    ob (vNilC (σ5 0)) fun v9x6 =>
    ob (vFa 2 v9x6) fun v10x7 =>
    ob (vLoad v10x7 H5) fun v11x8 =>
    ob (vLenSl v11x8) fun v12x9 =>
    ob (vInt .lss (σ5 3) v12x9) fun v13x10 =>
    cnd v13x10
      (ob (vNilC (σ5 0)) fun v17x11 =>
    ob (vFa 2 v17x11) fun v18x12 =>
    ob (vLoad v18x12 H5) fun v19x13 =>
    ob (vIx 1 v19x13 (σ5 3)) fun v21x14 =>
    ob (vLoad v21x14 H5) fun v22x15 =>
    ob (vInt .gtr v22x15 (.int .i64 1)) fun v23x16 =>
    cnd v23x16
      (Q5 .ret (up (up (up (up (up (up (up (up (up (up (up (up (up (up (up (up σ5 7 (σ5 3)) 8 (σ5 0)) 9 v9x6) 10 v10x7) 11 v11x8) 12 v12x9) 13 v13x10) 16 (σ5 0)) 17 v17x11) 18 v18x12) 19 v19x13) 20 (σ5 3)) 21 v21x14) 22 v22x15) 23 v23x16) 2 (.bool false)) H5)
      (ob (vInt .add (σ5 3) (.int .i64 1)) fun v15x17 =>
    Q5 .normal (up (up (up (up (up (up (up (up (up (up (up (up (up (up (up (up (up (up σ5 7 (σ5 3)) 8 (σ5 0)) 9 v9x6) 10 v10x7) 11 v11x8) 12 v12x9) 13 v13x10) 16 (σ5 0)) 17 v17x11) 18 v18x12) 19 v19x13) 20 (σ5 3)) 21 v21x14) 22 v22x15) 23 v23x16) 14 (σ5 3)) 15 v15x17) 3 v15x17) H5))
      (Q5 (.exit 0) (up (up (up (up (up (up (up σ5 7 (σ5 3)) 8 (σ5 0)) 9 v9x6) 10 v10x7) 11 v11x8) 12 v12x9) 13 v13x10) H5)) (blkQ 0 (thenQ J4 (retQ prg [(.tmp 2)] K))) (up (up (up (up (up (S0 [a0]) 2 (.bool false)) 4 a0) 5 v5x1) 6 v6x3) 3 (.int .i64 0)) H2)
def O.spec_l04Plain : Nat → Nat × List Nat := fun i => (0, [])
theorem R.spec_l04Plain {a0 : Value} {H : Hp} {K : Value → Hp → Prop} (h : F.spec_l04Plain a0 H K) : HT prg I.spec_l04Plain [a0].toArray H K :=
  HT_of_fev O.spec_l04Plain mixed Try.func42 (by kernel_rfl) (Eq.mpr (by kernel_rfl : fev prg O.spec_l04Plain Try.f42 [a0] H K = F.spec_l04Plain a0 H K) h)

/-! loop.example/g01381/spec.l04Can: function 26 -/
def F.spec_l04Can (a0 a1 : Value) (H : Hp) (K : Value → Hp → Prop) : Prop :=
  HT prg I.spec_l04Life [a0].toArray H fun v6x1 H2 =>
  gop v6x1 true (fun K3 => K3 a1 H2) H2 fun v8x4 H5 =>
  gop v6x1 true (fun K6 => HT prg I.spec_l04Plain [v8x4].toArray H5 K6) H5 fun v9x7 H8 =>
  ob (vPick v6x1 v9x7 (.bool false)) fun v10x9 =>
  K v10x9 H8
def O.spec_l04Can : Nat → Nat × List Nat := fun i => (0, [])
theorem R.spec_l04Can {a0 a1 : Value} {H : Hp} {K : Value → Hp → Prop} (h : F.spec_l04Can a0 a1 H K) : HT prg I.spec_l04Can [a0, a1].toArray H K :=
  HT_of_fev O.spec_l04Can mixed Try.func26 (by kernel_rfl) (Eq.mpr (by kernel_rfl : fev prg O.spec_l04Can Try.f26 [a0, a1] H K = F.spec_l04Can a0 a1 H K) h)

/-! loop.example/g01381/spec.l04New: function 43 -/
def F.spec_l04New (a0 a1 : Value) (H : Hp) (K : Value → Hp → Prop) : Prop :=
  nw #[(.int .i64 0), (.int .i64 0), (.slice none 0 0)] 30 H fun v4x1 H2 =>
  ob (vInt .mul a0 a1) fun v9x3 =>
  mkS 1 8 #[(.int .i64 0)] 2 v9x3 v9x3 H2 fun v10x4 H5 =>
  ob (vBuild [(0, 1), (1, 1), (2, 1)] (.agg #[(.int .i64 0), (.int .i64 0), (.slice none 0 0)]) [(0, a0), (1, a1), (2, v10x4)]) fun v11x6 =>
  st 3 v4x1 v11x6 H5 fun H7 =>
  ob (vLoadN 3 v4x1 H7) fun u8 => K u8 H7
def O.spec_l04New : Nat → Nat × List Nat := fun i => (0, [])
theorem R.spec_l04New {a0 a1 : Value} {H : Hp} {K : Value → Hp → Prop} (h : F.spec_l04New a0 a1 H K) : HT prg I.spec_l04New [a0, a1].toArray H K :=
  HT_of_fev O.spec_l04New mixed Try.func43 (by kernel_rfl) (Eq.mpr (by kernel_rfl : fev prg O.spec_l04New Try.f43 [a0, a1] H K = F.spec_l04New a0 a1 H K) h)

/-! loop.example/g01381/spec.l04Round: function 58 -/
def F.spec_l04Round (a0 a1 a2 : Value) (H : Hp) (K : Value → Hp → Prop) : Prop :=
  ob (vNilC a0) fun v11x1 =>
  ob (vFa 0 v11x1) fun v12x2 =>
  ob (vLoad v12x2 H) fun v13x3 =>
  ob (vInt .rem a1 v13x3) fun v14x4 =>
  ob (vNilC a0) fun v16x5 =>
  ob (vFa 0 v16x5) fun v17x6 =>
  ob (vLoad v17x6 H) fun v18x7 =>
  ob (vInt .add v14x4 v18x7) fun v19x8 =>
  ob (vNilC a0) fun v21x9 =>
  ob (vFa 0 v21x9) fun v22x10 =>
  ob (vLoad v22x10 H) fun v23x11 =>
  ob (vInt .rem v19x8 v23x11) fun v24x12 =>
  ob (vNilC a0) fun v27x13 =>
  ob (vFa 1 v27x13) fun v28x14 =>
  ob (vLoad v28x14 H) fun v29x15 =>
  ob (vInt .rem a2 v29x15) fun v30x16 =>
  ob (vNilC a0) fun v32x17 =>
  ob (vFa 1 v32x17) fun v33x18 =>
  ob (vLoad v33x18 H) fun v34x19 =>
  ob (vInt .add v30x16 v34x19) fun v35x20 =>
  ob (vNilC a0) fun v37x21 =>
  ob (vFa 1 v37x21) fun v38x22 =>
  ob (vLoad v38x22 H) fun v39x23 =>
  ob (vInt .rem v35x20 v39x23) fun v40x24 =>
  ob (vNilC a0) fun v43x25 =>
  ob (vFa 1 v43x25) fun v44x26 =>
  ob (vLoad v44x26 H) fun v45x27 =>
  ob (vInt .mul v24x12 v45x27) fun v46x28 =>
  ob (vInt .add v46x28 v40x24) fun v48x29 =>
  K v48x29 H
def O.spec_l04Round : Nat → Nat × List Nat := fun i => bif Nat.beq i 1 then (0, [0, 1, 2, 3, 4, 5, 6, 7, 8, 9, 10, 11, 12, 13, 14, 15, 16]) else bif Nat.beq i 2 then (0, [0, 1, 2, 3, 4, 5, 6, 7, 8, 9, 10, 11, 12, 13, 14, 15, 16]) else (0, [])
theorem R.spec_l04Round {a0 a1 a2 : Value} {H : Hp} {K : Value → Hp → Prop} (h : F.spec_l04Round a0 a1 a2 H K) : HT prg I.spec_l04Round [a0, a1, a2].toArray H K :=
  HT_of_fev O.spec_l04Round mixed Try.func58 (by kernel_rfl) (Eq.mpr (by kernel_rfl : fev prg O.spec_l04Round Try.f58 [a0, a1, a2] H K = F.spec_l04Round a0 a1 a2 H K) h)

/-! loop.example/g01381/spec.l04Around: function 44 -/
def F.spec_l04Around (a0 a1 a2 a3 : Value) (H : Hp) (K : Value → Hp → Prop) : Prop :=
  jn (fun σ1 H1 =>
    K (σ1 9) H1) fun J1 =>
  ob (vInt .sub a1 (.int .i64 1)) fun v13x2 =>
  lpE (fun Q3 σ3 H3 =>
    ob (vInt .add (σ3 1) (.int .i64 1)) fun v16x4 =>
    ob (vInt .leq (σ3 10) v16x4) fun v17x5 =>
    cnd v17x5
      (jn (fun σ6 H6 =>
      ob (vInt .add (σ6 10) (.int .i64 1)) fun v19x7 =>
      Q3 .normal (up (up (up σ6 18 (σ6 10)) 19 v19x7) 10 v19x7) H6) fun J6 =>
    ob (vInt .sub (σ3 2) (.int .i64 1)) fun v21x8 =>
    lpE (fun Q9 σ9 H9 =>
      ob (vInt .add (σ9 2) (.int .i64 1)) fun v24x10 =>
      ob (vInt .leq (σ9 11) v24x10) fun v25x11 =>
      cnd v25x11
        (ob (vInt .eql (σ9 10) (σ9 1)) fun v30x12 =>
      gop v30x12 true (fun K13 => K13 (σ9 11) H9) H9 fun v32x14 H15 =>
      gop v30x12 true (fun K16 => K16 (σ9 2) H15) H15 fun v33x17 H18 =>
      gop v30x12 true (fun K19 => ob (vInt .eql v32x14 v33x17) fun u => K19 u H18) H18 fun v34x20 H21 =>
      ob (vPick v30x12 v34x20 (.bool false)) fun v35x22 =>
      cnd v35x22
        (ob (vInt .add (σ9 11) (.int .i64 1)) fun v27x23 =>
      Q9 .normal (up (up (up (up (up (up (up (up (up (up (up (up (up (up (up σ9 22 (σ9 11)) 23 (σ9 2)) 24 v24x10) 25 v25x11) 28 (σ9 10)) 29 (σ9 1)) 30 v30x12) 31 v30x12) 32 v32x14) 33 v33x17) 34 v34x20) 35 v35x22) 26 (σ9 11)) 27 v27x23) 11 v27x23) H21)
        (gop (σ9 3) false (fun K24 => K24 (σ9 10) H21) H21 fun v38x25 H26 =>
      gop (σ9 3) false (fun K27 => K27 (σ9 0) H26) H26 fun v39x28 H29 =>
      gop (σ9 3) false (fun K30 => ob (vNilC v39x28) fun u => K30 u H29) H29 fun v40x31 H32 =>
      gop (σ9 3) false (fun K33 => ob (vFa 0 v40x31) fun u => K33 u H32) H32 fun v41x34 H35 =>
      gop (σ9 3) false (fun K36 => ob (vLoad v41x34 H35) fun u => K36 u H35) H35 fun v42x37 H38 =>
      gop (σ9 3) false (fun K39 => ob (vInt .sub v42x37 (.int .i64 1)) fun u => K39 u H38) H38 fun v43x40 H41 =>
      gop (σ9 3) false (fun K42 => HT prg I.spec_l00In [v38x25, (.int .i64 0), v43x40].toArray H41 K42) H41 fun v44x43 H44 =>
      gop (σ9 3) false (fun K45 => K45 v44x43 H44) H44 fun v45x46 H47 =>
      gop v45x46 true (fun K48 => K48 (σ9 11) H47) H47 fun v46x49 H50 =>
      gop v45x46 true (fun K51 => K51 (σ9 0) H50) H50 fun v47x52 H53 =>
      gop v45x46 true (fun K54 => ob (vNilC v47x52) fun u => K54 u H53) H53 fun v48x55 H56 =>
      gop v45x46 true (fun K57 => ob (vFa 1 v48x55) fun u => K57 u H56) H56 fun v49x58 H59 =>
      gop v45x46 true (fun K60 => ob (vLoad v49x58 H59) fun u => K60 u H59) H59 fun v50x61 H62 =>
      gop v45x46 true (fun K63 => ob (vInt .sub v50x61 (.int .i64 1)) fun u => K63 u H62) H62 fun v51x64 H65 =>
      gop v45x46 true (fun K66 => HT prg I.spec_l00In [v46x49, (.int .i64 0), v51x64].toArray H65 K66) H65 fun v52x67 H68 =>
      gop (σ9 3) false (fun K69 => ob (vPick v45x46 v52x67 (.bool false)) fun u => K69 u H68) H68 fun v53x70 H71 =>
      ob (vPick (σ9 3) (.bool true) v53x70) fun v54x72 =>
      cnd v54x72
        (ob (vNilC (σ9 0)) fun v57x73 =>
        ob (vFa 2 v57x73) fun v58x74 =>
        ob (vLoad v58x74 H71) fun v59x75 =>
        HT prg I.spec_l04Round [(σ9 0), (σ9 10), (σ9 11)].toArray H71 fun v63x76 H77 =>
        Le H71 H77 ∧ (ob (vIx 1 v59x75 v63x76) fun v64x78 =>
        ob (vLoad v64x78 H77) fun v65x79 =>
        ob (vInt .add (σ9 9) v65x79) fun v66x80 =>
        ob (vInt .add (σ9 11) (.int .i64 1)) fun v27x81 =>
      Q9 .normal (up (up (up (up (up (up (up (up (up (up (up (up (up (up (up (up (up (up (up (up (up (up (up (up (up (up (up (up (up (up (up (up (up (up (up (up (up (up (up (up (up (up (up (up (up (up (up σ9 22 (σ9 11)) 23 (σ9 2)) 24 v24x10) 25 v25x11) 28 (σ9 10)) 29 (σ9 1)) 30 v30x12) 31 v30x12) 32 v32x14) 33 v33x17) 34 v34x20) 35 v35x22) 36 (σ9 3)) 37 (σ9 3)) 38 v38x25) 39 v39x28) 40 v40x31) 41 v41x34) 42 v42x37) 43 v43x40) 44 v44x43) 45 v45x46) 46 v46x49) 47 v47x52) 48 v48x55) 49 v49x58) 50 v50x61) 51 v51x64) 52 v52x67) 53 v53x70) 54 v54x72) 55 (σ9 9)) 56 (σ9 0)) 57 v57x73) 58 v58x74) 59 v59x75) 60 (σ9 0)) 61 (σ9 10)) 62 (σ9 11)) 63 v63x76) 64 v64x78) 65 v65x79) 66 v66x80) 9 v66x80) 26 (σ9 11)) 27 v27x81) 11 v27x81) H77))
        (ob (vInt .add (σ9 11) (.int .i64 1)) fun v27x82 =>
      Q9 .normal (up (up (up (up (up (up (up (up (up (up (up (up (up (up (up (up (up (up (up (up (up (up (up (up (up (up (up (up (up (up (up (up (up (up σ9 22 (σ9 11)) 23 (σ9 2)) 24 v24x10) 25 v25x11) 28 (σ9 10)) 29 (σ9 1)) 30 v30x12) 31 v30x12) 32 v32x14) 33 v33x17) 34 v34x20) 35 v35x22) 36 (σ9 3)) 37 (σ9 3)) 38 v38x25) 39 v39x28) 40 v40x31) 41 v41x34) 42 v42x37) 43 v43x40) 44 v44x43) 45 v45x46) 46 v46x49) 47 v47x52) 48 v48x55) 49 v49x58) 50 v50x61) 51 v51x64) 52 v52x67) 53 v53x70) 54 v54x72) 26 (σ9 11)) 27 v27x82) 11 v27x82) H71)))
        (Q9 (.exit 2) (up (up (up (up σ9 22 (σ9 11)) 23 (σ9 2)) 24 v24x10) 25 v25x11) H9)) (blkQ 2 (blkQ 1 (thenQ J6 Q3))) (up (up (up (up (up (up (up σ3 14 (σ3 10)) 15 (σ3 1)) 16 v16x4) 17 v17x5) 20 (σ3 2)) 21 v21x8) 11 v21x8) H3)
      (Q3 (.exit 0) (up (up (up (up σ3 14 (σ3 10)) 15 (σ3 1)) 16 v16x4) 17 v17x5) H3)) (blkQ 0 (thenQ J1 (retQ prg [(.tmp 8)] K))) (up (up (up (up (up (S0 [a0, a1, a2, a3]) 8 (.int .i64 0)) 9 (.int .i64 0)) 12 a1) 13 v13x2) 10 v13x2) H
def O.spec_l04Around : Nat → Nat × List Nat := fun i => bif Nat.beq i 10 then (0, [0, 1, 2, 3, 4, 5, 6, 7, 8, 9, 10, 11, 12]) else (0, [])
theorem R.spec_l04Around {a0 a1 a2 a3 : Value} {H : Hp} {K : Value → Hp → Prop} (h : F.spec_l04Around a0 a1 a2 a3 H K) : HT prg I.spec_l04Around [a0, a1, a2, a3].toArray H K :=
  HT_of_fev O.spec_l04Around mixed Try.func44 (by kernel_rfl) (Eq.mpr (by kernel_rfl : fev prg O.spec_l04Around Try.f44 [a0, a1, a2, a3] H K = F.spec_l04Around a0 a1 a2 a3 H K) h)

/-! loop.example/g01381/spec.l04Has: function 45 -/
def F.spec_l04Has (a0 a1 : Value) (H : Hp) (K : Value → Hp → Prop) : Prop :=
  jn (fun σ1 H1 =>
    K (.bool false) H1) fun J1 =>
  lpE (fun Q2 σ2 H2 =>
    ob (vLenSl (σ2 0)) fun v8x3 =>
    ob (vInt .lss (σ2 5) v8x3) fun v9x4 =>
    cnd v9x4
      (ob (vIx 1 (σ2 0) (σ2 5)) fun v14x5 =>
    ob (vLoad v14x5 H2) fun v15x6 =>
    ob (vInt .eql v15x6 (σ2 1)) fun v17x7 =>
    cnd v17x7
      (Q2 .ret (up (up (up (up (up (up (up (up (up (up (up σ2 6 (σ2 5)) 7 (σ2 0)) 8 v8x3) 9 v9x4) 12 (σ2 0)) 13 (σ2 5)) 14 v14x5) 15 v15x6) 16 (σ2 1)) 17 v17x7) 4 (.bool true)) H2)
      (ob (vInt .add (σ2 5) (.int .i64 1)) fun v11x8 =>
    Q2 .normal (up (up (up (up (up (up (up (up (up (up (up (up (up σ2 6 (σ2 5)) 7 (σ2 0)) 8 v8x3) 9 v9x4) 12 (σ2 0)) 13 (σ2 5)) 14 v14x5) 15 v15x6) 16 (σ2 1)) 17 v17x7) 10 (σ2 5)) 11 v11x8) 5 v11x8) H2))
      (Q2 (.exit 0) (up (up (up (up σ2 6 (σ2 5)) 7 (σ2 0)) 8 v8x3) 9 v9x4) H2)) (blkQ 0 (thenQ J1 (retQ prg [(.tmp 4)] K))) (up (up (S0 [a0, a1]) 4 (.bool false)) 5 (.int .i64 0)) H
def O.spec_l04Has : Nat → Nat × List Nat := fun i => (0, [])
theorem R.spec_l04Has {a0 a1 : Value} {H : Hp} {K : Value → Hp → Prop} (h : F.spec_l04Has a0 a1 H K) : HT prg I.spec_l04Has [a0, a1].toArray H K :=
  HT_of_fev O.spec_l04Has mixed Try.func45 (by kernel_rfl) (Eq.mpr (by kernel_rfl : fev prg O.spec_l04Has Try.f45 [a0, a1] H K = F.spec_l04Has a0 a1 H K) h)

/-! loop.example/g01381/spec.l04Next: function 27 -/
def F.spec_l04Next (a0 a1 a2 : Value) (H : Hp) (K : Value → Hp → Prop) : Prop :=
  nw #[(.int .i64 0), (.int .i64 0), (.slice none 0 0)] 30 H fun v6x1 H2 =>
  ob (vNilC a1) fun v13x3 =>
  ob (vFa 0 v13x3) fun v14x4 =>
  ob (vLoad v14x4 H2) fun v15x5 =>
  ob (vNilC a1) fun v17x6 =>
  ob (vFa 1 v17x6) fun v18x7 =>
  ob (vLoad v18x7 H2) fun v19x8 =>
  HT prg I.spec_l04New [v15x5, v19x8].toArray H2 fun v20x9 H10 =>
  Le H2 H10 ∧ (nw #[(.int .i64 0), (.int .i64 0), (.slice none 0 0)] 30 H10 fun v7x11 H12 =>
  st 3 v7x11 v20x9 H12 fun H13 =>
  jn (fun σ14 H14 =>
    ob (vLoadN 3 (σ14 7) H14) fun v88x15 =>
    st 3 (σ14 6) v88x15 H14 fun H16 =>
    ob (vLoadN 3 (σ14 6) H16) fun u17 => K u17 H16) fun J14 =>
  lpE (fun Q18 σ18 H18 =>
    ob (vNilC (σ18 1)) fun v23x19 =>
    ob (vFa 0 v23x19) fun v24x20 =>
    ob (vLoad v24x20 H18) fun v25x21 =>
    ob (vInt .lss (σ18 8) v25x21) fun v26x22 =>
    cnd v26x22
      (jn (fun σ23 H23 =>
      ob (vInt .add (σ23 8) (.int .i64 1)) fun v28x24 =>
      Q18 .normal (up (up (up σ23 27 (σ23 8)) 28 v28x24) 8 v28x24) H23) fun J23 =>
    lpE (fun Q25 σ25 H25 =>
      ob (vNilC (σ25 1)) fun v31x26 =>
      ob (vFa 1 v31x26) fun v32x27 =>
      ob (vLoad v32x27 H25) fun v33x28 =>
      ob (vInt .lss (σ25 9) v33x28) fun v34x29 =>
      cnd v34x29
        (HT prg I.spec_l04Around [(σ25 1), (σ25 8), (σ25 9), (σ25 2)].toArray H25 fun v41x30 H31 =>
      ob (vNilC (σ25 1)) fun v44x32 =>
      ob (vFa 1 v44x32) fun v45x33 =>
      ob (vLoad v45x33 H31) fun v46x34 =>
      ob (vInt .mul (σ25 8) v46x34) fun v47x35 =>
      ob (vInt .add v47x35 (σ25 9)) fun v49x36 =>
      ob (vNilC (σ25 1)) fun v51x37 =>
      ob (vFa 2 v51x37) fun v52x38 =>
      ob (vLoad v52x38 H31) fun v53x39 =>
      ob (vIx 1 v53x39 v49x36) fun v55x40 =>
      ob (vLoad v55x40 H31) fun v56x41 =>
      ob (vInt .eql v56x41 (.int .i64 0)) fun v57x42 =>
      gop v57x42 true (fun K43 => K43 (σ25 0) H31) H31 fun v59x44 H45 =>
      gop v57x42 true (fun K46 => ob (vNilC v59x44) fun u => K46 u H45) H45 fun v60x47 H48 =>
      gop v57x42 true (fun K49 => ob (vFa 0 v60x47) fun u => K49 u H48) H48 fun v61x50 H51 =>
      gop v57x42 true (fun K52 => ob (vLoad v61x50 H51) fun u => K52 u H51) H51 fun v62x53 H54 =>
      gop v57x42 true (fun K55 => K55 v41x30 H54) H54 fun v63x56 H57 =>
      gop v57x42 true (fun K58 => HT prg I.spec_l04Has [v62x53, v63x56].toArray H57 K58) H57 fun v64x59 H60 =>
      ob (vPick v57x42 v64x59 (.bool false)) fun v65x61 =>
      gop v65x61 false (fun K62 => K62 (σ25 1) H60) H60 fun v67x63 H64 =>
      gop v65x61 false (fun K65 => ob (vNilC v67x63) fun u => K65 u H64) H64 fun v68x66 H67 =>
      gop v65x61 false (fun K68 => ob (vFa 2 v68x66) fun u => K68 u H67) H67 fun v69x69 H70 =>
      gop v65x61 false (fun K71 => ob (vLoad v69x69 H70) fun u => K71 u H70) H70 fun v70x72 H73 =>
      gop v65x61 false (fun K74 => K74 v49x36 H73) H73 fun v71x75 H76 =>
      gop v65x61 false (fun K77 => ob (vIx 1 v70x72 v71x75) fun u => K77 u H76) H76 fun v72x78 H79 =>
      gop v65x61 false (fun K80 => ob (vLoad v72x78 H79) fun u => K80 u H79) H79 fun v73x81 H82 =>
      gop v65x61 false (fun K83 => ob (vInt .eql v73x81 (.int .i64 1)) fun u => K83 u H82) H82 fun v74x84 H85 =>
      gop v65x61 false (fun K86 => K86 v74x84 H85) H85 fun v75x87 H88 =>
      gop v75x87 true (fun K89 => K89 (σ25 0) H88) H88 fun v76x90 H91 =>
      gop v75x87 true (fun K92 => ob (vNilC v76x90) fun u => K92 u H91) H91 fun v77x93 H94 =>
      gop v75x87 true (fun K95 => ob (vFa 1 v77x93) fun u => K95 u H94) H94 fun v78x96 H97 =>
      gop v75x87 true (fun K98 => ob (vLoad v78x96 H97) fun u => K98 u H97) H97 fun v79x99 H100 =>
      gop v75x87 true (fun K101 => K101 v41x30 H100) H100 fun v80x102 H103 =>
      gop v75x87 true (fun K104 => HT prg I.spec_l04Has [v79x99, v80x102].toArray H103 K104) H103 fun v81x105 H106 =>
      gop v65x61 false (fun K107 => ob (vPick v75x87 v81x105 (.bool false)) fun u => K107 u H106) H106 fun v82x108 H109 =>
      ob (vPick v65x61 (.bool true) v82x108) fun v83x110 =>
      cnd v83x110
        (ob (vFa 2 (σ25 7)) fun v84x111 =>
        ob (vLoad v84x111 H109) fun v85x112 =>
        ob (vIx 1 v85x112 v49x36) fun v87x113 =>
        st 1 v87x113 (.int .i64 1) H109 fun H114 =>
        ob (vInt .add (σ25 9) (.int .i64 1)) fun v36x115 =>
      Q25 .normal (up (up (up (up (up (up (up (up (up (up (up (up (up (up (up (up (up (up (up (up (up (up (up (up (up (up (up (up (up (up (up (up (up (up (up (up (up (up (up (up (up (up (up (up (up (up (up (up (up (up (up (up (up (up (up (up (up (up (up (up (up (up σ25 29 (σ25 9)) 30 (σ25 1)) 31 v31x26) 32 v32x27) 33 v33x28) 34 v34x29) 37 (σ25 1)) 38 (σ25 8)) 39 (σ25 9)) 40 (σ25 2)) 41 v41x30) 10 v41x30) 42 (σ25 8)) 43 (σ25 1)) 44 v44x32) 45 v45x33) 46 v46x34) 47 v47x35) 48 (σ25 9)) 49 v49x36) 11 v49x36) 50 (σ25 1)) 51 v51x37) 52 v52x38) 53 v53x39) 54 v49x36) 55 v55x40) 56 v56x41) 57 v57x42) 58 v57x42) 59 v59x44) 60 v60x47) 61 v61x50) 62 v62x53) 63 v63x56) 64 v64x59) 65 v65x61) 66 v65x61) 67 v67x63) 68 v68x66) 69 v69x69) 70 v70x72) 71 v71x75) 72 v72x78) 73 v73x81) 74 v74x84) 75 v75x87) 76 v76x90) 77 v77x93) 78 v78x96) 79 v79x99) 80 v80x102) 81 v81x105) 82 v82x108) 83 v83x110) 84 v84x111) 85 v85x112) 86 v49x36) 87 v87x113) 35 (σ25 9)) 36 v36x115) 9 v36x115) H114)
        (ob (vInt .add (σ25 9) (.int .i64 1)) fun v36x116 =>
      Q25 .normal (up (up (up (up (up (up (up (up (up (up (up (up (up (up (up (up (up (up (up (up (up (up (up (up (up (up (up (up (up (up (up (up (up (up (up (up (up (up (up (up (up (up (up (up (up (up (up (up (up (up (up (up (up (up (up (up (up (up σ25 29 (σ25 9)) 30 (σ25 1)) 31 v31x26) 32 v32x27) 33 v33x28) 34 v34x29) 37 (σ25 1)) 38 (σ25 8)) 39 (σ25 9)) 40 (σ25 2)) 41 v41x30) 10 v41x30) 42 (σ25 8)) 43 (σ25 1)) 44 v44x32) 45 v45x33) 46 v46x34) 47 v47x35) 48 (σ25 9)) 49 v49x36) 11 v49x36) 50 (σ25 1)) 51 v51x37) 52 v52x38) 53 v53x39) 54 v49x36) 55 v55x40) 56 v56x41) 57 v57x42) 58 v57x42) 59 v59x44) 60 v60x47) 61 v61x50) 62 v62x53) 63 v63x56) 64 v64x59) 65 v65x61) 66 v65x61) 67 v67x63) 68 v68x66) 69 v69x69) 70 v70x72) 71 v71x75) 72 v72x78) 73 v73x81) 74 v74x84) 75 v75x87) 76 v76x90) 77 v77x93) 78 v78x96) 79 v79x99) 80 v80x102) 81 v81x105) 82 v82x108) 83 v83x110) 35 (σ25 9)) 36 v36x116) 9 v36x116) H109))
        (Q25 (.exit 2) (up (up (up (up (up (up σ25 29 (σ25 9)) 30 (σ25 1)) 31 v31x26) 32 v32x27) 33 v33x28) 34 v34x29) H25)) (blkQ 2 (blkQ 1 (thenQ J23 Q18))) (up (up (up (up (up (up (up σ18 21 (σ18 8)) 22 (σ18 1)) 23 v23x19) 24 v24x20) 25 v25x21) 26 v26x22) 9 (.int .i64 0)) H18)
      (Q18 (.exit 0) (up (up (up (up (up (up σ18 21 (σ18 8)) 22 (σ18 1)) 23 v23x19) 24 v24x20) 25 v25x21) 26 v26x22) H18)) (blkQ 0 (thenQ J14 (retQ prg [(.cell 6 30)] K))) (up (up (up (up (up (up (up (up (up (up (up (up (S0 [a0, a1, a2]) 6 v6x1) 12 a1) 13 v13x3) 14 v14x4) 15 v15x5) 16 a1) 17 v17x6) 18 v18x7) 19 v19x8) 20 v20x9) 7 v7x11) 8 (.int .i64 0)) H13)
def O.spec_l04Next : Nat → Nat × List Nat := fun i => bif Nat.beq i 1 then (0, [0, 1, 2, 3, 4, 5, 6, 7, 8, 9, 10]) else (0, [])
theorem R.spec_l04Next {a0 a1 a2 : Value} {H : Hp} {K : Value → Hp → Prop} (h : F.spec_l04Next a0 a1 a2 H K) : HT prg I.spec_l04Next [a0, a1, a2].toArray H K :=
  HT_of_fev O.spec_l04Next mixed Try.func27 (by kernel_rfl) (Eq.mpr (by kernel_rfl : fev prg O.spec_l04Next Try.f27 [a0, a1, a2] H K = F.spec_l04Next a0 a1 a2 H K) h)

/-! loop.example/g01381/spec.StepLife: function 11 -/
def F.spec_StepLife (a0 a1 a2 : Value) (H : Hp) (K : Value → Hp → Prop) : Prop :=
  nw (a0 : Value).cells 26 H fun v3x1 H2 =>
  nw (a1 : Value).cells 30 H2 fun v4x3 H4 =>
  nw #[(.int .i64 0), (.int .i64 0), (.slice none 0 0)] 30 H4 fun v6x5 H6 =>
  HT prg I.spec_l04Can [v3x1, v4x3].toArray H6 fun v8x7 H8 =>
  ob (vUn .not v8x7) fun v9x9 =>
  cnd v9x9
    (ob (vBuild [(0, 1), (1, 1), (2, 1)] (.agg #[(.int .i64 0), (.int .i64 0), (.slice none 0 0)]) []) fun v10x10 =>
    st 3 v6x5 v10x10 H8 fun H11 =>
    ob (vLoadN 3 v6x5 H11) fun u12 => K (.tuple #[u12, (.bool false)]) H11)
    (HT prg I.spec_l04Next [v3x1, v4x3, a2].toArray H8 fun v12x13 H14 =>
  st 3 v6x5 v12x13 H14 fun H15 =>
  ob (vLoadN 3 v6x5 H15) fun u16 => K (.tuple #[u16, (.bool true)]) H15)
def O.spec_StepLife : Nat → Nat × List Nat := fun i => (0, [])
theorem R.spec_StepLife {a0 a1 a2 : Value} {H : Hp} {K : Value → Hp → Prop} (h : F.spec_StepLife a0 a1 a2 H K) : HT prg I.spec_StepLife [a0, a1, a2].toArray H K :=
  HT_of_fev O.spec_StepLife mixed Try.func11 (by kernel_rfl) (Eq.mpr (by kernel_rfl : fev prg O.spec_StepLife Try.f11 [a0, a1, a2] H K = F.spec_StepLife a0 a1 a2 H K) h)

/-! loop.example/g01381/laws.b10Ints: function 12 -/
def F.laws_b10Ints (a0 a1 : Value) (H : Hp) (K : Value → Hp → Prop) : Prop :=
  ob (vLenSl a0) fun v7x1 =>
  ob (vLenSl a1) fun v9x2 =>
  ob (vInt .neq v7x1 v9x2) fun v10x3 =>
  cnd v10x3
    (K (.bool false) H)
    (jn (fun σ4 H4 =>
    K (.bool true) H4) fun J4 =>
  ob (vLenSl a0) fun v12x5 =>
  lpE (fun Q6 σ6 H6 =>
    ob (vInt .lss (σ6 13) (σ6 12)) fun v14x7 =>
    cnd v14x7
      (ob (vIx 1 (σ6 0) (σ6 13)) fun v18x8 =>
    ob (vLoad v18x8 H6) fun v19x9 =>
    ob (vIx 1 (σ6 1) (σ6 13)) fun v22x10 =>
    ob (vLoad v22x10 H6) fun v23x11 =>
    ob (vInt .neq v19x9 v23x11) fun v24x12 =>
    cnd v24x12
      (Q6 .ret (up (up (up (up (up (up (up (up (up (up (up (up (up σ6 14 v14x7) 15 (σ6 13)) 5 (σ6 13)) 16 (σ6 0)) 17 (σ6 13)) 18 v18x8) 19 v19x9) 20 (σ6 1)) 21 (σ6 13)) 22 v22x10) 23 v23x11) 24 v24x12) 4 (.bool false)) H6)
      (ob (vInt .add (σ6 13) (.int .i64 1)) fun v25x13 =>
    Q6 .normal (up (up (up (up (up (up (up (up (up (up (up (up (up (up σ6 14 v14x7) 15 (σ6 13)) 5 (σ6 13)) 16 (σ6 0)) 17 (σ6 13)) 18 v18x8) 19 v19x9) 20 (σ6 1)) 21 (σ6 13)) 22 v22x10) 23 v23x11) 24 v24x12) 25 v25x13) 13 v25x13) H6))
      (Q6 (.exit 0) (up σ6 14 v14x7) H6)) (blkQ 0 (thenQ J4 (retQ prg [(.tmp 4)] K))) (up (up (up (up (up (up (up (up (up (S0 [a0, a1]) 4 (.bool false)) 6 a0) 7 v7x1) 8 a1) 9 v9x2) 10 v10x3) 11 a0) 12 v12x5) 13 (.int .i64 0)) H)
def O.laws_b10Ints : Nat → Nat × List Nat := fun i => bif Nat.beq i 6 then (0, [0, 1, 2, 3, 4, 5, 6, 7, 8]) else (0, [])
theorem R.laws_b10Ints {a0 a1 : Value} {H : Hp} {K : Value → Hp → Prop} (h : F.laws_b10Ints a0 a1 H K) : HT prg I.laws_b10Ints [a0, a1].toArray H K :=
  HT_of_fev O.laws_b10Ints mixed Try.func12 (by kernel_rfl) (Eq.mpr (by kernel_rfl : fev prg O.laws_b10Ints Try.f12 [a0, a1] H K = F.laws_b10Ints a0 a1 H K) h)

/-! loop.example/g01381/laws.FnBefore: function 3 -/
def F.laws_FnBefore (a0 a1 : Value) (H : Hp) (K : Value → Hp → Prop) : Prop :=
  HT prg I.laws_b10Long [a0, a1].toArray H fun v25x1 H2 =>
  cnd v25x1
    (K (.bool true) H2)
    (HT prg I.spec_B10Life [a0].toArray H2 fun v27x3 H4 =>
  nw #[(.slice none 0 0), (.slice none 0 0)] 26 H4 fun v5x5 H6 =>
  st 2 v5x5 v27x3 H6 fun H7 =>
  HT prg I.laws_b10At [a1, (.int .i64 0), (.int .i64 3)].toArray H7 fun v29x8 H9 =>
  ob (vInt .add (.int .i64 1) v29x8) fun v30x10 =>
  HT prg I.laws_b10At [a1, (.int .i64 1), (.int .i64 2)].toArray H9 fun v32x11 H12 =>
  ob (vInt .add (.int .i64 1) v32x11) fun v33x13 =>
  HT prg I.spec_B10Plain [a1, v30x10, v33x13].toArray H12 fun v37x14 H15 =>
  nw #[(.int .i64 0), (.int .i64 0), (.slice none 0 0)] 30 H15 fun v8x16 H17 =>
  st 3 v8x16 v37x14 H17 fun H18 =>
  ob (vLoadN 2 v5x5 H18) fun v39x19 =>
  ob (vLoadN 3 v8x16 H18) fun v40x20 =>
  HT prg I.impl_CountBefore [v39x19, v40x20].toArray H18 fun v41x21 H22 =>
  ob (vExt v41x21 0) fun v42x23 =>
  ob (vExt v41x21 1) fun v43x24 =>
  ob (vLoadN 2 v5x5 H22) fun v45x25 =>
  ob (vLoadN 3 v8x16 H22) fun v46x26 =>
  HT prg I.impl_FirstBefore [v45x25, v46x26].toArray H22 fun v47x27 H28 =>
  ob (vExt v47x27 0) fun v48x29 =>
  ob (vExt v47x27 1) fun v49x30 =>
  nw #[(.int .i64 0), (.int .i64 0), (.slice none 0 0)] 30 H28 fun v11x31 H32 =>
  st 3 v11x31 v48x29 H32 fun H33 =>
  ob (vLoadN 2 v5x5 H33) fun v51x34 =>
  HT prg I.impl_CountStill [v51x34, v30x10, v33x13].toArray H33 fun v54x35 H36 =>
  ob (vExt v54x35 0) fun v55x37 =>
  ob (vExt v54x35 1) fun v56x38 =>
  ob (vUn .not v43x24) fun v58x39 =>
  gop v58x39 false (fun K40 => K40 v49x30 H36) H36 fun v60x41 H42 =>
  gop v58x39 false (fun K43 => K43 v42x23 H42) H42 fun v61x44 H45 =>
  gop v58x39 false (fun K46 => ob (vInt .gtr v61x44 (.int .i64 0)) fun u => K46 u H45) H45 fun v62x47 H48 =>
  gop v58x39 false (fun K49 => ob (vBool .neq v60x41 v62x47) fun u => K49 u H48) H48 fun v63x50 H51 =>
  ob (vPick v58x39 (.bool true) v63x50) fun v64x52 =>
  gop v64x52 false (fun K53 => K53 v56x38 H51) H51 fun v66x54 H55 =>
  gop v64x52 false (fun K56 => ob (vUn .not v66x54) fun u => K56 u H55) H55 fun v67x57 H58 =>
  ob (vPick v64x52 (.bool true) v67x57) fun v68x59 =>
  cnd v68x59
    (K (.bool false) H58)
    (jn (fun σ60 H60 =>
    ob (vInt .eql (σ60 15) (σ60 9)) fun v132x61 =>
    gop v132x61 true (fun K62 => K62 (σ60 16) H60) H60 fun v134x63 H64 =>
    gop v132x61 true (fun K65 => K65 (σ60 13) H64) H64 fun v135x66 H67 =>
    gop v132x61 true (fun K68 => ob (vInt .eql v134x63 v135x66) fun u => K68 u H67) H67 fun v136x69 H70 =>
    ob (vPick v132x61 v136x69 (.bool false)) fun v137x71 =>
    K v137x71 H70) fun J60 =>
  lpE (fun Q72 σ72 H72 =>
    ob (vInt .mul (σ72 6) (σ72 7)) fun v72x73 =>
    ob (vInt .shl (.int .i64 1) v72x73) fun v73x74 =>
    ob (vInt .lss (σ72 18) v73x74) fun v74x75 =>
    cnd v74x75
      (jn (fun σ76 H76 =>
      ob (vInt .add (σ76 18) (.int .i64 1)) fun v76x77 =>
      Q72 .normal (up (up (up σ76 75 (σ76 18)) 76 v76x77) 18 v76x77) H76) fun J76 =>
    ob (vBuild [(0, 1), (1, 1), (2, 1)] (.agg #[(.int .i64 0), (.int .i64 0), (.slice none 0 0)]) [(0, (σ72 6)), (1, (σ72 7))]) fun v79x78 =>
    nw #[(.int .i64 0), (.int .i64 0), (.slice none 0 0)] 30 H72 fun v19x79 H80 =>
    st 3 v19x79 v79x78 H80 fun H81 =>
    jn (fun σ82 H82 =>
      ob (vLoadN 2 (σ82 5) H82) fun v99x83 =>
      ob (vLoadN 3 (σ82 19) H82) fun v100x84 =>
      HT prg I.spec_StepLife [v99x83, v100x84, (.bool false)].toArray H82 fun v101x85 H86 =>
      ob (vExt v101x85 0) fun v102x87 =>
      ob (vExt v101x85 1) fun v103x88 =>
      nw #[(.int .i64 0), (.int .i64 0), (.slice none 0 0)] 30 H86 fun v21x89 H90 =>
      st 3 v21x89 v102x87 H90 fun H91 =>
      ob (vUn .not v103x88) fun v105x92 =>
      cnd v105x92
        (Q72 .ret (up (up (up (up (up (up (up (up (up (up (up σ82 99 v99x83) 100 v100x84) 101 v101x85) 98 v101x85) 102 v102x87) 103 v103x88) 21 v21x89) 22 v103x88) 104 v103x88) 105 v105x92) 4 (.bool false)) H91)
        (jn (fun σ93 H93 =>
        ob (vFa 2 (σ93 21)) fun v113x94 =>
        ob (vLoad v113x94 H93) fun v114x95 =>
        ob (vFa 2 (σ93 8)) fun v115x96 =>
        ob (vLoad v115x96 H93) fun v116x97 =>
        HT prg I.laws_b10Ints [v114x95, v116x97].toArray H93 fun v117x98 H99 =>
        cnd v117x98
          (ob (vInt .add (σ93 15) (.int .i64 1)) fun v119x100 =>
          ob (vUn .not (σ93 17)) fun v121x101 =>
          gop v121x101 true (fun K102 => ob (vFa 2 (σ93 11)) fun u => K102 u H99) H99 fun v123x103 H104 =>
          gop v121x101 true (fun K105 => ob (vLoad v123x103 H104) fun u => K105 u H104) H104 fun v124x106 H107 =>
          gop v121x101 true (fun K108 => ob (vFa 2 (σ93 19)) fun u => K108 u H107) H107 fun v125x109 H110 =>
          gop v121x101 true (fun K111 => ob (vLoad v125x109 H110) fun u => K111 u H110) H110 fun v126x112 H113 =>
          gop v121x101 true (fun K114 => HT prg I.laws_b10Ints [v124x106, v126x112].toArray H113 K114) H113 fun v127x115 H116 =>
          gop v121x101 true (fun K117 => ob (vUn .not v127x115) fun u => K117 u H116) H116 fun v128x118 H119 =>
          ob (vPick v121x101 v128x118 (.bool false)) fun v129x120 =>
          cnd v129x120
            (Q72 .ret (up (up (up (up (up (up (up (up (up (up (up (up (up (up (up (up (up (up (up σ93 113 v113x94) 114 v114x95) 115 v115x96) 116 v116x97) 117 v117x98) 118 (σ93 15)) 119 v119x100) 15 v119x100) 120 (σ93 17)) 121 v121x101) 122 v121x101) 123 v123x103) 124 v124x106) 125 v125x109) 126 v126x112) 127 v127x115) 128 v128x118) 129 v129x120) 4 (.bool false)) H119)
            (J76 (up (up (up (up (up (up (up (up (up (up (up (up (up (up (up (up (up (up (up σ93 113 v113x94) 114 v114x95) 115 v115x96) 116 v116x97) 117 v117x98) 118 (σ93 15)) 119 v119x100) 15 v119x100) 120 (σ93 17)) 121 v121x101) 122 v121x101) 123 v123x103) 124 v124x106) 125 v125x109) 126 v126x112) 127 v127x115) 128 v128x118) 129 v129x120) 17 (.bool true)) H119))
          (J76 (up (up (up (up (up σ93 113 v113x94) 114 v114x95) 115 v115x96) 116 v116x97) 117 v117x98) H99)) fun J93 =>
      ob (vFa 2 v21x89) fun v106x121 =>
      ob (vLoad v106x121 H91) fun v107x122 =>
      ob (vFa 2 (σ82 19)) fun v108x123 =>
      ob (vLoad v108x123 H91) fun v109x124 =>
      HT prg I.laws_b10Ints [v107x122, v109x124].toArray H91 fun v110x125 H126 =>
      cnd v110x125
        (ob (vInt .add (σ82 16) (.int .i64 1)) fun v112x127 =>
        J93 (up (up (up (up (up (up (up (up (up (up (up (up (up (up (up (up (up (up σ82 99 v99x83) 100 v100x84) 101 v101x85) 98 v101x85) 102 v102x87) 103 v103x88) 21 v21x89) 22 v103x88) 104 v103x88) 105 v105x92) 106 v106x121) 107 v107x122) 108 v108x123) 109 v109x124) 110 v110x125) 111 (σ82 16)) 112 v112x127) 16 v112x127) H126)
        (J93 (up (up (up (up (up (up (up (up (up (up (up (up (up (up (up σ82 99 v99x83) 100 v100x84) 101 v101x85) 98 v101x85) 102 v102x87) 103 v103x88) 21 v21x89) 22 v103x88) 104 v103x88) 105 v105x92) 106 v106x121) 107 v107x122) 108 v108x123) 109 v109x124) 110 v110x125) H126))) fun J82 =>
    ob (vInt .mul (σ72 6) (σ72 7)) fun v82x128 =>
    ob (vInt .sub v82x128 (.int .i64 1)) fun v83x129 =>
    lpE (fun Q130 σ130 H130 =>
      ob (vInt .geq (σ130 20) (.int .i64 0)) fun v85x131 =>
      cnd v85x131
        (ob (vFa 2 (σ130 19)) fun v88x132 =>
      ob (vLoad v88x132 H130) fun v89x133 =>
      ob (vCI .u64 (σ130 20)) fun v92x134 =>
      ob (vInt .shr (σ130 18) v92x134) fun v93x135 =>
      ob (vInt .and v93x135 (.int .i64 1)) fun v94x136 =>
      bS 1 1 #[(.int .i64 0)] 2 [(0, v94x136)] H130 fun v95x137 H138 =>
      apd 1 8 #[(.int .i64 0)] 2 v89x133 v95x137 H138 fun v96x139 H140 =>
      ob (vFa 2 (σ130 19)) fun v97x141 =>
      st 1 v97x141 v96x139 H140 fun H142 =>
      ob (vInt .sub (σ130 20) (.int .i64 1)) fun v87x143 =>
      Q130 .normal (up (up (up (up (up (up (up (up (up (up (up (up (up (up (up σ130 84 (σ130 20)) 85 v85x131) 88 v88x132) 89 v89x133) 90 (σ130 18)) 91 (σ130 20)) 92 v92x134) 93 v93x135) 94 v94x136) 95 v95x137) 96 v96x139) 97 v97x141) 86 (σ130 20)) 87 v87x143) 20 v87x143) H142)
        (Q130 (.exit 2) (up (up σ130 84 (σ130 20)) 85 v85x131) H130)) (blkQ 2 (thenQ J82 (blkQ 1 (thenQ J76 Q72)))) (up (up (up (up (up (up (up (up (up (up (up (up (up (up (up σ72 69 (σ72 18)) 70 (σ72 6)) 71 (σ72 7)) 72 v72x73) 73 v73x74) 74 v74x75) 77 (σ72 6)) 78 (σ72 7)) 79 v79x78) 19 v19x79) 80 (σ72 6)) 81 (σ72 7)) 82 v82x128) 83 v83x129) 20 v83x129) H81)
      (Q72 (.exit 0) (up (up (up (up (up (up σ72 69 (σ72 18)) 70 (σ72 6)) 71 (σ72 7)) 72 v72x73) 73 v73x74) 74 v74x75) H72)) (blkQ 0 (thenQ J60 (retQ prg [(.tmp 4)] K))) (up (up (up (up (up (up (up (up (up (up (up (up (up (up (up (up (up (up (up (up (up (up (up (up (up (up (up (up (up (up (up (up (up (up (up (up (up (up (up (up (up (up (up (up (up (up (up (up (up (up (up (up (up (up (up (up (up (up (up (up (up (S0 [a0, a1]) 4 (.bool false)) 23 a0) 24 a1) 25 v25x1) 26 a0) 27 v27x3) 5 v5x5) 28 a1) 29 v29x8) 30 v30x10) 6 v30x10) 31 a1) 32 v32x11) 33 v33x13) 7 v33x13) 34 a1) 35 v30x10) 36 v33x13) 37 v37x14) 8 v8x16) 39 v39x19) 40 v40x20) 41 v41x21) 38 v41x21) 42 v42x23) 43 v43x24) 9 v42x23) 10 v43x24) 45 v45x25) 46 v46x26) 47 v47x27) 44 v47x27) 48 v48x29) 49 v49x30) 11 v11x31) 12 v49x30) 51 v51x34) 52 v30x10) 53 v33x13) 54 v54x35) 50 v54x35) 55 v55x37) 56 v56x38) 13 v55x37) 14 v56x38) 57 v43x24) 58 v58x39) 59 v58x39) 60 v60x41) 61 v61x44) 62 v62x47) 63 v63x50) 64 v64x52) 65 v64x52) 66 v66x54) 67 v67x57) 68 v68x59) 15 (.int .i64 0)) 16 (.int .i64 0)) 17 (.bool false)) 18 (.int .i64 0)) H58))
def O.laws_FnBefore : Nat → Nat × List Nat := fun i => (0, [])
theorem R.laws_FnBefore {a0 a1 : Value} {H : Hp} {K : Value → Hp → Prop} (h : F.laws_FnBefore a0 a1 H K) : HT prg I.laws_FnBefore [a0, a1].toArray H K :=
  HT_of_fev O.laws_FnBefore mixed Try.func3 (by kernel_rfl) (Eq.mpr (by kernel_rfl : fev prg O.laws_FnBefore Try.f3 [a0, a1] H K = F.laws_FnBefore a0 a1 H K) h)

end Go.Proofs.Ytaflemogkogkkaa
