/- Functions' texts over a partial heap. -/
import Derived.Test.YtkehomlkgcfjnaaG0
namespace Go.Proofs.Ytkehomlkgcfjnaa
open HL
set_option linter.unusedVariables false
set_option maxRecDepth 100000
set_option maxHeartbeats 4000000
/-! loop.example/g01381/laws.r8Long: function 4 -/
def F.laws_r8Long (a0 a1 : Value) (H : Hp) (K : Value → Hp → Prop) : Prop :=
  ob (vLenSl a0) fun v6x1 =>
  ob (vInt .gtr v6x1 (.int .i64 48)) fun v7x2 =>
  gop v7x2 false (fun K3 => K3 a1 H) H fun v9x4 H5 =>
  gop v7x2 false (fun K6 => ob (vLenSl v9x4) fun u => K6 u H5) H5 fun v10x7 H8 =>
  gop v7x2 false (fun K9 => ob (vInt .gtr v10x7 (.int .i64 48)) fun u => K9 u H8) H8 fun v11x10 H11 =>
  ob (vPick v7x2 (.bool true) v11x10) fun v12x12 =>
  K v12x12 H11
def O.laws_r8Long : Nat → Nat × List Nat := fun i => (0, [])
theorem R.laws_r8Long {a0 a1 : Value} {H : Hp} {K : Value → Hp → Prop} (h : F.laws_r8Long a0 a1 H K) : HT prg I.laws_r8Long [a0, a1].toArray H K :=
  HT_of_fev O.laws_r8Long mixed Try.func4 (by kernel_rfl) (Eq.mpr (by kernel_rfl : fev prg O.laws_r8Long Try.f4 [a0, a1] H K = F.laws_r8Long a0 a1 H K) h)

/-! loop.example/g01381/laws.r8At: function 5 -/
def F.laws_r8At (a0 a1 a2 : Value) (H : Hp) (K : Value → Hp → Prop) : Prop :=
  ob (vInt .leq a2 (.int .i64 1)) fun v8x1 =>
  gop v8x1 false (fun K2 => K2 a1 H) H fun v10x3 H4 =>
  gop v8x1 false (fun K5 => K5 a0 H4) H4 fun v11x6 H7 =>
  gop v8x1 false (fun K8 => ob (vLenSl v11x6) fun u => K8 u H7) H7 fun v12x9 H10 =>
  gop v8x1 false (fun K11 => ob (vInt .geq v10x3 v12x9) fun u => K11 u H10) H10 fun v13x12 H13 =>
  ob (vPick v8x1 (.bool true) v13x12) fun v14x14 =>
  cnd v14x14
    (K (.int .i64 0) H13)
    (ob (vIx 1 a0 a1) fun v17x15 =>
  ob (vLoad v17x15 H13) fun v18x16 =>
  ob (vCI .i64 v18x16) fun v19x17 =>
  ob (vInt .rem v19x17 a2) fun v21x18 =>
  K v21x18 H13)
def O.laws_r8At : Nat → Nat × List Nat := fun i => (0, [])
theorem R.laws_r8At {a0 a1 a2 : Value} {H : Hp} {K : Value → Hp → Prop} (h : F.laws_r8At a0 a1 a2 H K) : HT prg I.laws_r8At [a0, a1, a2].toArray H K :=
  HT_of_fev O.laws_r8At mixed Try.func5 (by kernel_rfl) (Eq.mpr (by kernel_rfl : fev prg O.laws_r8At Try.f5 [a0, a1, a2] H K = F.laws_r8At a0 a1 a2 H K) h)

/-! loop.example/g01381/spec.l00From: function 12 -/
def F.spec_l00From (a0 : Value) (H : Hp) (K : Value → Hp → Prop) : Prop :=
  ob (vBuild [(0, 1), (1, 1), (2, 1)] (.agg #[(.slice none 0 0), (.int .i64 0), (.int .u64 0)]) [(0, a0)]) fun v4x1 =>
  nw (v4x1 : Value).cells 53 H fun v5x2 H3 =>
  K v5x2 H3
def O.spec_l00From : Nat → Nat × List Nat := fun i => (0, [])
theorem R.spec_l00From {a0 : Value} {H : Hp} {K : Value → Hp → Prop} (h : F.spec_l00From a0 H K) : HT prg I.spec_l00From [a0].toArray H K :=
  HT_of_fev O.spec_l00From mixed Try.func12 (by kernel_rfl) (Eq.mpr (by kernel_rfl : fev prg O.spec_l00From Try.f12 [a0] H K = F.spec_l00From a0 H K) h)

/-! (*loop.example/g01381/spec.l00Src).next: function 33 -/
def F.pspec_l00Src_next (a0 : Value) (H : Hp) (K : Value → Hp → Prop) : Prop :=
  jn (fun σ1 H1 =>
    ob (vNilC (σ1 0)) fun v26x2 =>
    ob (vFa 1 v26x2) fun v27x3 =>
    ob (vLoad v27x3 H1) fun v28x4 =>
    ob (vInt .add v28x4 (.int .i64 1)) fun v29x5 =>
    ob (vNilC (σ1 0)) fun v30x6 =>
    ob (vFa 1 v30x6) fun v31x7 =>
    st 1 v31x7 v29x5 H1 fun H8 =>
    ob (vNilC (σ1 0)) fun v34x9 =>
    ob (vFa 2 v34x9) fun v35x10 =>
    ob (vLoad v35x10 H8) fun v36x11 =>
    ob (vInt .mul v36x11 (.int .u64 6364136223846793005)) fun v37x12 =>
    ob (vCI .u64 (σ1 3)) fun v39x13 =>
    ob (vInt .add v37x12 v39x13) fun v40x14 =>
    ob (vInt .add v40x14 (.int .u64 1442695040888963407)) fun v41x15 =>
    ob (vNilC (σ1 0)) fun v42x16 =>
    ob (vFa 2 v42x16) fun v43x17 =>
    st 1 v43x17 v41x15 H8 fun H18 =>
    ob (vNilC (σ1 0)) fun v45x19 =>
    ob (vFa 1 v45x19) fun v46x20 =>
    ob (vLoad v46x20 H18) fun v47x21 =>
    ob (vNilC (σ1 0)) fun v49x22 =>
    ob (vFa 0 v49x22) fun v50x23 =>
    ob (vLoad v50x23 H18) fun v51x24 =>
    ob (vLenSl v51x24) fun v52x25 =>
    ob (vInt .leq v47x21 v52x25) fun v53x26 =>
    cnd v53x26
      (K (σ1 3) H18)
      (ob (vNilC (σ1 0)) fun v56x27 =>
    ob (vFa 2 v56x27) fun v57x28 =>
    ob (vLoad v57x28 H18) fun v58x29 =>
    ob (vInt .shr v58x29 (.int .u64 40)) fun v59x30 =>
    ob (vInt .and v59x30 (.int .u64 255)) fun v60x31 =>
    ob (vCI .i64 v60x31) fun v61x32 =>
    K v61x32 H18)) fun J1 =>
  ob (vNilC a0) fun v5x33 =>
  ob (vFa 1 v5x33) fun v6x34 =>
  ob (vLoad v6x34 H) fun v7x35 =>
  ob (vNilC a0) fun v9x36 =>
  ob (vFa 0 v9x36) fun v10x37 =>
  ob (vLoad v10x37 H) fun v11x38 =>
  ob (vLenSl v11x38) fun v12x39 =>
  ob (vInt .lss v7x35 v12x39) fun v13x40 =>
  cnd v13x40
    (ob (vNilC a0) fun v15x41 =>
    ob (vFa 0 v15x41) fun v16x42 =>
    ob (vLoad v16x42 H) fun v17x43 =>
    ob (vNilC a0) fun v19x44 =>
    ob (vFa 1 v19x44) fun v20x45 =>
    ob (vLoad v20x45 H) fun v21x46 =>
    ob (vIx 1 v17x43 v21x46) fun v22x47 =>
    ob (vLoad v22x47 H) fun v23x48 =>
    ob (vCI .i64 v23x48) fun v24x49 =>
    J1 (up (up (up (up (up (up (up (up (up (up (up (up (up (up (up (up (up (up (up (up (up (up (up (up (S0 [a0]) 2 (.int .i64 0)) 3 (.int .i64 0)) 4 a0) 5 v5x33) 6 v6x34) 7 v7x35) 8 a0) 9 v9x36) 10 v10x37) 11 v11x38) 12 v12x39) 13 v13x40) 14 a0) 15 v15x41) 16 v16x42) 17 v17x43) 18 a0) 19 v19x44) 20 v20x45) 21 v21x46) 22 v22x47) 23 v23x48) 24 v24x49) 3 v24x49) H)
    (J1 (up (up (up (up (up (up (up (up (up (up (up (up (S0 [a0]) 2 (.int .i64 0)) 3 (.int .i64 0)) 4 a0) 5 v5x33) 6 v6x34) 7 v7x35) 8 a0) 9 v9x36) 10 v10x37) 11 v11x38) 12 v12x39) 13 v13x40) H)
def O.pspec_l00Src_next : Nat → Nat × List Nat := fun i => bif Nat.beq i 6 then (0, [0, 1, 2, 3, 4, 5, 6, 7, 8, 9]) else bif Nat.beq i 2 then (0, [0, 1, 2, 3, 4, 5, 6, 7, 8, 9]) else bif Nat.beq i 3 then (0, [0, 1, 2, 3, 4, 5, 6, 7, 8, 9, 10, 11]) else (0, [])
theorem R.pspec_l00Src_next {a0 : Value} {H : Hp} {K : Value → Hp → Prop} (h : F.pspec_l00Src_next a0 H K) : HT prg I.pspec_l00Src_next [a0].toArray H K :=
  HT_of_fev O.pspec_l00Src_next mixed Try.func33 (by kernel_rfl) (Eq.mpr (by kernel_rfl : fev prg O.pspec_l00Src_next Try.f33 [a0] H K = F.pspec_l00Src_next a0 H K) h)

/-! (*loop.example/g01381/spec.l00Src).pick: function 27 -/
def F.pspec_l00Src_pick (a0 a1 : Value) (H : Hp) (K : Value → Hp → Prop) : Prop :=
  ob (vInt .leq a1 (.int .i64 1)) fun v7x1 =>
  cnd v7x1
    (K (.int .i64 0) H)
    (HT prg I.pspec_l00Src_next [a0].toArray H fun v9x2 H3 =>
  ob (vInt .gtr a1 (.int .i64 200)) fun v11x4 =>
  cnd v11x4
    (ob (vInt .mul v9x2 (.int .i64 256)) fun v13x5 =>
    HT prg I.pspec_l00Src_next [a0].toArray H3 fun v15x6 H7 =>
    ob (vInt .add v13x5 v15x6) fun v16x8 =>
    ob (vInt .rem v16x8 a1) fun v19x9 =>
  K v19x9 H7)
    (ob (vInt .rem v9x2 a1) fun v19x10 =>
  K v19x10 H3))
def O.pspec_l00Src_pick : Nat → Nat × List Nat := fun i => (0, [])
theorem R.pspec_l00Src_pick {a0 a1 : Value} {H : Hp} {K : Value → Hp → Prop} (h : F.pspec_l00Src_pick a0 a1 H K) : HT prg I.pspec_l00Src_pick [a0, a1].toArray H K :=
  HT_of_fev O.pspec_l00Src_pick mixed Try.func27 (by kernel_rfl) (Eq.mpr (by kernel_rfl : fev prg O.pspec_l00Src_pick Try.f27 [a0, a1] H K = F.pspec_l00Src_pick a0 a1 H K) h)

/-! loop.example/g01381/spec.l04DrawStates: function 13 -/
def F.spec_l04DrawStates (a0 a1 a2 a3 : Value) (H : Hp) (K : Value → Hp → Prop) : Prop :=
  nw #[(.int .i64 0), (.int .i64 0), (.slice none 0 0)] 27 H fun v8x1 H2 =>
  ob (vBuild [(0, 1), (1, 1), (2, 1)] (.agg #[(.int .i64 0), (.int .i64 0), (.slice none 0 0)]) [(0, a1), (1, a2)]) fun v13x3 =>
  nw #[(.int .i64 0), (.int .i64 0), (.slice none 0 0)] 27 H2 fun v9x4 H5 =>
  st 3 v9x4 v13x3 H5 fun H6 =>
  jn (fun σ7 H7 =>
    ob (vLoadN 3 (σ7 9) H7) fun v29x8 =>
    st 3 (σ7 8) v29x8 H7 fun H9 =>
    ob (vLoadN 3 (σ7 8) H9) fun u10 => K u10 H9) fun J7 =>
  ob (vInt .mul a1 a2) fun v16x11 =>
  lpE (fun Q12 σ12 H12 =>
    ob (vInt .gtr (σ12 10) (.int .i64 0)) fun v18x13 =>
    cnd v18x13
      (ob (vFa 2 (σ12 9)) fun v21x14 =>
    ob (vLoad v21x14 H12) fun v22x15 =>
    HT prg I.pspec_l00Src_pick [(σ12 0), (σ12 3)].toArray H12 fun v25x16 H17 =>
    Le H12 H17 ∧ (bS 1 1 #[(.int .i64 0)] 2 [(0, v25x16)] H17 fun v26x18 H19 =>
    apd 1 8 #[(.int .i64 0)] 2 v22x15 v26x18 H19 fun v27x20 H21 =>
    ob (vFa 2 (σ12 9)) fun v28x22 =>
    st 1 v28x22 v27x20 H21 fun H23 =>
    ob (vInt .sub (σ12 10) (.int .i64 1)) fun v20x24 =>
    Q12 .normal (up (up (up (up (up (up (up (up (up (up (up (up (up σ12 17 (σ12 10)) 18 v18x13) 21 v21x14) 22 v22x15) 23 (σ12 0)) 24 (σ12 3)) 25 v25x16) 26 v26x18) 27 v27x20) 28 v28x22) 19 (σ12 10)) 20 v20x24) 10 v20x24) H23))
      (Q12 (.exit 0) (up (up σ12 17 (σ12 10)) 18 v18x13) H12)) (blkQ 0 (thenQ J7 (retQ prg [(.cell 8 27)] K))) (up (up (up (up (up (up (up (up (up (S0 [a0, a1, a2, a3]) 8 v8x1) 11 a1) 12 a2) 13 v13x3) 9 v9x4) 14 a1) 15 a2) 16 v16x11) 10 v16x11) H6
def O.spec_l04DrawStates : Nat → Nat × List Nat := fun i => bif Nat.beq i 5 then (0, [0, 1, 2, 3, 4, 5, 6, 7, 8]) else (0, [])
theorem R.spec_l04DrawStates {a0 a1 a2 a3 : Value} {H : Hp} {K : Value → Hp → Prop} (h : F.spec_l04DrawStates a0 a1 a2 a3 H K) : HT prg I.spec_l04DrawStates [a0, a1, a2, a3].toArray H K :=
  HT_of_fev O.spec_l04DrawStates mixed Try.func13 (by kernel_rfl) (Eq.mpr (by kernel_rfl : fev prg O.spec_l04DrawStates Try.f13 [a0, a1, a2, a3] H K = F.spec_l04DrawStates a0 a1 a2 a3 H K) h)

/-! loop.example/g01381/spec.l04DrawStates: function 13 -/
def F.spec_l04DrawStatesX (a0 a1 a2 a3 : Value) (H : Hp) (K : Value → Hp → Prop) : Prop :=
  nw #[(.int .i64 0), (.int .i64 0), (.slice none 0 0)] 27 H fun v8x1 H2 =>
  ob (vBuild [(0, 1), (1, 1), (2, 1)] (.agg #[(.int .i64 0), (.int .i64 0), (.slice none 0 0)]) [(0, a1), (1, a2)]) fun v13x3 =>
  nw #[(.int .i64 0), (.int .i64 0), (.slice none 0 0)] 27 H2 fun v9x4 H5 =>
  st 3 v9x4 v13x3 H5 fun H6 =>
  jn (fun σ7 H7 =>
    ob (vLoadN 3 (σ7 9) H7) fun v29x8 =>
    st 3 (σ7 8) v29x8 H7 fun H9 =>
    ob (vLoadN 3 (σ7 8) H9) fun u10 => K u10 H9) fun J7 =>
  ob (vInt .mul a1 a2) fun v16x11 =>
  lpE (fun Q12 σ12 H12 =>
    ob (vInt .gtr (σ12 10) (.int .i64 0)) fun v18x13 =>
    cnd v18x13
      ((ob (vFa 2 (σ12 9)) fun v21x14 =>
    ob (vLoad v21x14 H12) fun v22x15 =>
    HT prg I.pspec_l00Src_pick [(σ12 0), (σ12 3)].toArray H12 fun v25x16 H17 =>
    bS 1 1 #[(.int .i64 0)] 2 [(0, v25x16)] H17 fun v26x18 H19 =>
    apd 1 8 #[(.int .i64 0)] 2 v22x15 v26x18 H19 fun v27x20 H21 =>
    ob (vFa 2 (σ12 9)) fun v28x22 =>
    st 1 v28x22 v27x20 H21 fun H23 =>
    ob (vInt .sub (σ12 10) (.int .i64 1)) fun v20x24 =>
    Q12 .normal (up (up (up (up (up (up (up (up (up (up (up (up (up σ12 17 (σ12 10)) 18 v18x13) 21 v21x14) 22 v22x15) 23 (σ12 0)) 24 (σ12 3)) 25 v25x16) 26 v26x18) 27 v27x20) 28 v28x22) 19 (σ12 10)) 20 v20x24) 10 v20x24) H23) ∧ (ob (vFa 2 (σ12 9)) fun v21x25 =>
    HT prg I.pspec_l00Src_pick [(σ12 0), (σ12 3)].toArray H12 fun v25x26 H27 =>
    ob (vLoad v21x25 H27) fun v22x28 =>
    bS 1 1 #[(.int .i64 0)] 2 [(0, v25x26)] H27 fun v26x29 H30 =>
    apd 1 8 #[(.int .i64 0)] 2 v22x28 v26x29 H30 fun v27x31 H32 =>
    ob (vFa 2 (σ12 9)) fun v28x33 =>
    st 1 v28x33 v27x31 H32 fun H34 =>
    ob (vInt .sub (σ12 10) (.int .i64 1)) fun v20x35 =>
    Q12 .normal (up (up (up (up (up (up (up (up (up (up (up (up (up σ12 17 (σ12 10)) 18 v18x13) 21 v21x25) 23 (σ12 0)) 24 (σ12 3)) 25 v25x26) 22 v22x28) 26 v26x29) 27 v27x31) 28 v28x33) 19 (σ12 10)) 20 v20x35) 10 v20x35) H34))
      (Q12 (.exit 0) (up (up σ12 17 (σ12 10)) 18 v18x13) H12)) (blkQ 0 (thenQ J7 (retQ prg [(.cell 8 27)] K))) (up (up (up (up (up (up (up (up (up (S0 [a0, a1, a2, a3]) 8 v8x1) 11 a1) 12 a2) 13 v13x3) 9 v9x4) 14 a1) 15 a2) 16 v16x11) 10 v16x11) H6
def O.spec_l04DrawStatesX : Nat → Nat × List Nat := fun i => bif Nat.beq i 5 then (2, [1001, 1004, 0, 1, 2, 3, 4, 5, 6, 7, 8, 0, 2, 3, 4, 1, 5, 6, 7, 8]) else (0, [])
theorem R.spec_l04DrawStatesX {a0 a1 a2 a3 : Value} {H : Hp} {K : Value → Hp → Prop} (h : F.spec_l04DrawStatesX a0 a1 a2 a3 H K) : HT prg I.spec_l04DrawStates [a0, a1, a2, a3].toArray H K :=
  HT_of_fev O.spec_l04DrawStatesX mixed Try.func13 (by kernel_rfl) (Eq.mpr (by kernel_rfl : fev prg O.spec_l04DrawStatesX Try.f13 [a0, a1, a2, a3] H K = F.spec_l04DrawStatesX a0 a1 a2 a3 H K) h)

/-! loop.example/g01381/spec.R8Field: function 6 -/
def F.spec_R8Field (a0 a1 a2 a3 : Value) (H : Hp) (K : Value → Hp → Prop) : Prop :=
  nw #[(.int .i64 0), (.int .i64 0), (.slice none 0 0)] 27 H fun v8x1 H2 =>
  HT prg I.spec_l00From [a0].toArray H2 fun v11x3 H4 =>
  HT prg I.spec_l04DrawStates [v11x3, a1, a2, a3].toArray H4 fun v16x5 H6 =>
  st 3 v8x1 v16x5 H6 fun H7 =>
  ob (vLoadN 3 v8x1 H7) fun u8 => K u8 H7
def O.spec_R8Field : Nat → Nat × List Nat := fun i => (0, [])
theorem R.spec_R8Field {a0 a1 a2 a3 : Value} {H : Hp} {K : Value → Hp → Prop} (h : F.spec_R8Field a0 a1 a2 a3 H K) : HT prg I.spec_R8Field [a0, a1, a2, a3].toArray H K :=
  HT_of_fev O.spec_R8Field mixed Try.func6 (by kernel_rfl) (Eq.mpr (by kernel_rfl : fev prg O.spec_R8Field Try.f6 [a0, a1, a2, a3] H K = F.spec_R8Field a0 a1 a2 a3 H K) h)

/-! loop.example/g01381/impl.within: function 28 -/
def F.impl_within (a0 a1 a2 : Value) (H : Hp) (K : Value → Hp → Prop) : Prop :=
  ob (vInt .geq a0 a1) fun v9x1 =>
  gop v9x1 true (fun K2 => K2 a0 H) H fun v11x3 H4 =>
  gop v9x1 true (fun K5 => K5 a2 H4) H4 fun v12x6 H7 =>
  gop v9x1 true (fun K8 => ob (vInt .leq v11x3 v12x6) fun u => K8 u H7) H7 fun v13x9 H10 =>
  ob (vPick v9x1 v13x9 (.bool false)) fun v14x11 =>
  K v14x11 H10
def O.impl_within : Nat → Nat × List Nat := fun i => (0, [])
theorem R.impl_within {a0 a1 a2 : Value} {H : Hp} {K : Value → Hp → Prop} (h : F.impl_within a0 a1 a2 H K) : HT prg I.impl_within [a0, a1, a2].toArray H K :=
  HT_of_fev O.impl_within mixed Try.func28 (by kernel_rfl) (Eq.mpr (by kernel_rfl : fev prg O.impl_within Try.f28 [a0, a1, a2] H K = F.impl_within a0 a1 a2 H K) h)

/-! loop.example/g01381/impl.isSide: function 14 -/
def F.impl_isSide (a0 : Value) (H : Hp) (K : Value → Hp → Prop) : Prop :=
  HT prg I.impl_within [a0, (.int .i64 1), (.int .i64 24)].toArray H fun v4x1 H2 =>
  K v4x1 H2
def O.impl_isSide : Nat → Nat × List Nat := fun i => (0, [])
theorem R.impl_isSide {a0 : Value} {H : Hp} {K : Value → Hp → Prop} (h : F.impl_isSide a0 H K) : HT prg I.impl_isSide [a0].toArray H K :=
  HT_of_fev O.impl_isSide mixed Try.func14 (by kernel_rfl) (Eq.mpr (by kernel_rfl : fev prg O.impl_isSide Try.f14 [a0] H K = F.impl_isSide a0 H K) h)

/-! loop.example/g01381/impl.madeField: function 15 -/
def F.impl_madeField (a0 a1 a2 : Value) (H : Hp) (K : Value → Hp → Prop) : Prop :=
  nw #[(.int .i64 0), (.int .i64 0), (.slice none 0 0)] 27 H fun v6x1 H2 =>
  ob (vBuild [(0, 1), (1, 1), (2, 1)] (.agg #[(.int .i64 0), (.int .i64 0), (.slice none 0 0)]) [(0, a0), (1, a1)]) fun v12x3 =>
  nw #[(.int .i64 0), (.int .i64 0), (.slice none 0 0)] 27 H2 fun v7x4 H5 =>
  st 3 v7x4 v12x3 H5 fun H6 =>
  jn (fun σ7 H7 =>
    ob (vLoadN 3 (σ7 7) H7) fun v32x8 =>
    st 3 (σ7 6) v32x8 H7 fun H9 =>
    ob (vLoadN 3 (σ7 6) H9) fun u10 => K u10 H9) fun J7 =>
  lpE (fun Q11 σ11 H11 =>
    ob (vInt .lss (σ11 14) (σ11 13)) fun v15x12 =>
    cnd v15x12
      (jn (fun σ13 H13 =>
      ob (vInt .add (σ13 14) (.int .i64 1)) fun v31x14 =>
      Q11 .normal (up (up σ13 31 v31x14) 14 v31x14) H13) fun J13 =>
    lpE (fun Q15 σ15 H15 =>
      ob (vInt .lss (σ15 18) (σ15 17)) fun v19x16 =>
      cnd v19x16
        (ob (vFa 2 (σ15 7)) fun v21x17 =>
      ob (vLoad v21x17 H15) fun v22x18 =>
      callV prg (σ15 2) [(σ15 8), (σ15 18)] H15 fun v26x19 H20 =>
      Le H15 H20 ∧ (bS 1 1 #[(.int .i64 0)] 2 [(0, v26x19)] H20 fun v27x21 H22 =>
      apd 1 8 #[(.int .i64 0)] 2 v22x18 v27x21 H22 fun v28x23 H24 =>
      ob (vFa 2 (σ15 7)) fun v29x25 =>
      st 1 v29x25 v28x23 H24 fun H26 =>
      ob (vInt .add (σ15 18) (.int .i64 1)) fun v30x27 =>
      Q15 .normal (up (up (up (up (up (up (up (up (up (up (up (up (up (up σ15 19 v19x16) 20 (σ15 18)) 9 (σ15 18)) 21 v21x17) 22 v22x18) 23 (σ15 2)) 24 (σ15 8)) 25 (σ15 18)) 26 v26x19) 27 v27x21) 28 v28x23) 29 v29x25) 30 v30x27) 18 v30x27) H26))
        (Q15 (.exit 2) (up σ15 19 v19x16) H15)) (blkQ 2 (blkQ 1 (thenQ J13 Q11))) (up (up (up (up (up σ11 15 v15x12) 16 (σ11 14)) 8 (σ11 14)) 17 (σ11 1)) 18 (.int .i64 0)) H11)
      (Q11 (.exit 0) (up σ11 15 v15x12) H11)) (blkQ 0 (thenQ J7 (retQ prg [(.cell 6 27)] K))) (up (up (up (up (up (up (up (S0 [a0, a1, a2]) 6 v6x1) 10 a0) 11 a1) 12 v12x3) 7 v7x4) 13 a0) 14 (.int .i64 0)) H6
def O.impl_madeField : Nat → Nat × List Nat := fun i => bif Nat.beq i 8 then (0, [0, 1, 2, 3, 4, 5, 6, 7, 8, 9]) else (0, [])
theorem R.impl_madeField {a0 a1 a2 : Value} {H : Hp} {K : Value → Hp → Prop} (h : F.impl_madeField a0 a1 a2 H K) : HT prg I.impl_madeField [a0, a1, a2].toArray H K :=
  HT_of_fev O.impl_madeField mixed Try.func15 (by kernel_rfl) (Eq.mpr (by kernel_rfl : fev prg O.impl_madeField Try.f15 [a0, a1, a2] H K = F.impl_madeField a0 a1 a2 H K) h)

/-! loop.example/g01381/impl.madeField: function 15 -/
def F.impl_madeFieldX (a0 a1 a2 : Value) (H : Hp) (K : Value → Hp → Prop) : Prop :=
  nw #[(.int .i64 0), (.int .i64 0), (.slice none 0 0)] 27 H fun v6x1 H2 =>
  ob (vBuild [(0, 1), (1, 1), (2, 1)] (.agg #[(.int .i64 0), (.int .i64 0), (.slice none 0 0)]) [(0, a0), (1, a1)]) fun v12x3 =>
  nw #[(.int .i64 0), (.int .i64 0), (.slice none 0 0)] 27 H2 fun v7x4 H5 =>
  st 3 v7x4 v12x3 H5 fun H6 =>
  jn (fun σ7 H7 =>
    ob (vLoadN 3 (σ7 7) H7) fun v32x8 =>
    st 3 (σ7 6) v32x8 H7 fun H9 =>
    ob (vLoadN 3 (σ7 6) H9) fun u10 => K u10 H9) fun J7 =>
  lpE (fun Q11 σ11 H11 =>
    ob (vInt .lss (σ11 14) (σ11 13)) fun v15x12 =>
    cnd v15x12
      (jn (fun σ13 H13 =>
      ob (vInt .add (σ13 14) (.int .i64 1)) fun v31x14 =>
      Q11 .normal (up (up σ13 31 v31x14) 14 v31x14) H13) fun J13 =>
    lpE (fun Q15 σ15 H15 =>
      ob (vInt .lss (σ15 18) (σ15 17)) fun v19x16 =>
      cnd v19x16
        ((ob (vFa 2 (σ15 7)) fun v21x17 =>
      ob (vLoad v21x17 H15) fun v22x18 =>
      callV prg (σ15 2) [(σ15 8), (σ15 18)] H15 fun v26x19 H20 =>
      bS 1 1 #[(.int .i64 0)] 2 [(0, v26x19)] H20 fun v27x21 H22 =>
      apd 1 8 #[(.int .i64 0)] 2 v22x18 v27x21 H22 fun v28x23 H24 =>
      ob (vFa 2 (σ15 7)) fun v29x25 =>
      st 1 v29x25 v28x23 H24 fun H26 =>
      ob (vInt .add (σ15 18) (.int .i64 1)) fun v30x27 =>
      Q15 .normal (up (up (up (up (up (up (up (up (up (up (up (up (up (up σ15 19 v19x16) 20 (σ15 18)) 9 (σ15 18)) 21 v21x17) 22 v22x18) 23 (σ15 2)) 24 (σ15 8)) 25 (σ15 18)) 26 v26x19) 27 v27x21) 28 v28x23) 29 v29x25) 30 v30x27) 18 v30x27) H26) ∧ (ob (vFa 2 (σ15 7)) fun v21x28 =>
      callV prg (σ15 2) [(σ15 8), (σ15 18)] H15 fun v26x29 H30 =>
      ob (vLoad v21x28 H30) fun v22x31 =>
      bS 1 1 #[(.int .i64 0)] 2 [(0, v26x29)] H30 fun v27x32 H33 =>
      apd 1 8 #[(.int .i64 0)] 2 v22x31 v27x32 H33 fun v28x34 H35 =>
      ob (vFa 2 (σ15 7)) fun v29x36 =>
      st 1 v29x36 v28x34 H35 fun H37 =>
      ob (vInt .add (σ15 18) (.int .i64 1)) fun v30x38 =>
      Q15 .normal (up (up (up (up (up (up (up (up (up (up (up (up (up (up σ15 19 v19x16) 20 (σ15 18)) 9 (σ15 18)) 21 v21x28) 23 (σ15 2)) 24 (σ15 8)) 25 (σ15 18)) 26 v26x29) 22 v22x31) 27 v27x32) 28 v28x34) 29 v29x36) 30 v30x38) 18 v30x38) H37))
        (Q15 (.exit 2) (up σ15 19 v19x16) H15)) (blkQ 2 (blkQ 1 (thenQ J13 Q11))) (up (up (up (up (up σ11 15 v15x12) 16 (σ11 14)) 8 (σ11 14)) 17 (σ11 1)) 18 (.int .i64 0)) H11)
      (Q11 (.exit 0) (up σ11 15 v15x12) H11)) (blkQ 0 (thenQ J7 (retQ prg [(.cell 6 27)] K))) (up (up (up (up (up (up (up (S0 [a0, a1, a2]) 6 v6x1) 10 a0) 11 a1) 12 v12x3) 7 v7x4) 13 a0) 14 (.int .i64 0)) H6
def O.impl_madeFieldX : Nat → Nat × List Nat := fun i => bif Nat.beq i 8 then (2, [1001, 1005, 0, 1, 2, 3, 4, 5, 6, 7, 8, 9, 0, 2, 3, 4, 5, 1, 6, 7, 8, 9]) else (0, [])
theorem R.impl_madeFieldX {a0 a1 a2 : Value} {H : Hp} {K : Value → Hp → Prop} (h : F.impl_madeFieldX a0 a1 a2 H K) : HT prg I.impl_madeField [a0, a1, a2].toArray H K :=
  HT_of_fev O.impl_madeFieldX mixed Try.func15 (by kernel_rfl) (Eq.mpr (by kernel_rfl : fev prg O.impl_madeFieldX Try.f15 [a0, a1, a2] H K = F.impl_madeFieldX a0 a1 a2 H K) h)

/-! loop.example/g01381/impl.NewField$1: function 16 -/
def F.impl_NewField_1 (a0 a1 : Value) (H : Hp) (K : Value → Hp → Prop) : Prop :=
  K (.int .i64 0) H
def O.impl_NewField_1 : Nat → Nat × List Nat := fun i => (0, [])
theorem R.impl_NewField_1 {a0 a1 : Value} {H : Hp} {K : Value → Hp → Prop} (h : F.impl_NewField_1 a0 a1 H K) : HT prg I.impl_NewField_1 [a0, a1].toArray H K :=
  HT_of_fev O.impl_NewField_1 mixed Try.func16 (by kernel_rfl) (Eq.mpr (by kernel_rfl : fev prg O.impl_NewField_1 Try.f16 [a0, a1] H K = F.impl_NewField_1 a0 a1 H K) h)

/-! loop.example/g01381/impl.NewField: function 7 -/
def F.impl_NewField (a0 a1 : Value) (H : Hp) (K : Value → Hp → Prop) : Prop :=
  nw #[(.int .i64 0), (.int .i64 0), (.slice none 0 0)] 27 H fun v4x1 H2 =>
  HT prg I.impl_isSide [a0].toArray H2 fun v7x3 H4 =>
  ob (vUn .not v7x3) fun v8x5 =>
  gop v8x5 false (fun K6 => K6 a1 H4) H4 fun v10x7 H8 =>
  gop v8x5 false (fun K9 => HT prg I.impl_isSide [v10x7].toArray H8 K9) H8 fun v11x10 H11 =>
  gop v8x5 false (fun K12 => ob (vUn .not v11x10) fun u => K12 u H11) H11 fun v12x13 H14 =>
  ob (vPick v8x5 (.bool true) v12x13) fun v13x15 =>
  cnd v13x15
    (ob (vBuild [(0, 1), (1, 1), (2, 1)] (.agg #[(.int .i64 0), (.int .i64 0), (.slice none 0 0)]) []) fun v14x16 =>
    st 3 v4x1 v14x16 H14 fun H17 =>
    ob (vLoadN 3 v4x1 H17) fun u18 => K (.tuple #[u18, (.bool false)]) H17)
    (HT prg I.impl_madeField [a0, a1, (.func (.func I.impl_NewField_1) #[] #[])].toArray H14 fun v17x19 H20 =>
  st 3 v4x1 v17x19 H20 fun H21 =>
  ob (vLoadN 3 v4x1 H21) fun u22 => K (.tuple #[u22, (.bool true)]) H21)
def O.impl_NewField : Nat → Nat × List Nat := fun i => (0, [])
theorem R.impl_NewField {a0 a1 : Value} {H : Hp} {K : Value → Hp → Prop} (h : F.impl_NewField a0 a1 H K) : HT prg I.impl_NewField [a0, a1].toArray H K :=
  HT_of_fev O.impl_NewField mixed Try.func7 (by kernel_rfl) (Eq.mpr (by kernel_rfl : fev prg O.impl_NewField Try.f7 [a0, a1] H K = F.impl_NewField a0 a1 H K) h)

/-! loop.example/g01381/impl.areWithin: function 29 -/
def F.impl_areWithin (a0 a1 a2 : Value) (H : Hp) (K : Value → Hp → Prop) : Prop :=
  jn (fun σ1 H1 =>
    K (.bool true) H1) fun J1 =>
  ob (vLenSl a0) fun v10x2 =>
  lpE (fun Q3 σ3 H3 =>
    ob (vInt .lss (σ3 11) (σ3 10)) fun v12x4 =>
    cnd v12x4
      (ob (vIx 1 (σ3 9) (σ3 11)) fun v13x5 =>
    ob (vLoad v13x5 H3) fun v14x6 =>
    HT prg I.impl_within [v14x6, (σ3 1), (σ3 2)].toArray H3 fun v18x7 H8 =>
    ob (vUn .not v18x7) fun v19x9 =>
    cnd v19x9
      (Q3 .ret (up (up (up (up (up (up (up (up (up (up σ3 12 v12x4) 13 v13x5) 14 v14x6) 8 v14x6) 15 v14x6) 16 (σ3 1)) 17 (σ3 2)) 18 v18x7) 19 v19x9) 6 (.bool false)) H8)
      (ob (vInt .add (σ3 11) (.int .i64 1)) fun v20x10 =>
    Q3 .normal (up (up (up (up (up (up (up (up (up (up (up σ3 12 v12x4) 13 v13x5) 14 v14x6) 8 v14x6) 15 v14x6) 16 (σ3 1)) 17 (σ3 2)) 18 v18x7) 19 v19x9) 20 v20x10) 11 v20x10) H8))
      (Q3 (.exit 0) (up σ3 12 v12x4) H3)) (blkQ 0 (thenQ J1 (retQ prg [(.tmp 6)] K))) (up (up (up (up (S0 [a0, a1, a2]) 6 (.bool false)) 9 a0) 10 v10x2) 11 (.int .i64 0)) H
def O.impl_areWithin : Nat → Nat × List Nat := fun i => (0, [])
theorem R.impl_areWithin {a0 a1 a2 : Value} {H : Hp} {K : Value → Hp → Prop} (h : F.impl_areWithin a0 a1 a2 H K) : HT prg I.impl_areWithin [a0, a1, a2].toArray H K :=
  HT_of_fev O.impl_areWithin mixed Try.func29 (by kernel_rfl) (Eq.mpr (by kernel_rfl : fev prg O.impl_areWithin Try.f29 [a0, a1, a2] H K = F.impl_areWithin a0 a1 a2 H K) h)

/-! loop.example/g01381/impl.areMany: function 25 -/
def F.impl_areMany (a0 a1 a2 a3 a4 : Value) (H : Hp) (K : Value → Hp → Prop) : Prop :=
  ob (vLenSl a0) fun v12x1 =>
  HT prg I.impl_within [v12x1, a1, a2].toArray H fun v15x2 H3 =>
  gop v15x2 true (fun K4 => K4 a0 H3) H3 fun v17x5 H6 =>
  gop v15x2 true (fun K7 => K7 a3 H6) H6 fun v18x8 H9 =>
  gop v15x2 true (fun K10 => K10 a4 H9) H9 fun v19x11 H12 =>
  gop v15x2 true (fun K13 => HT prg I.impl_areWithin [v17x5, v18x8, v19x11].toArray H12 K13) H12 fun v20x14 H15 =>
  ob (vPick v15x2 v20x14 (.bool false)) fun v21x16 =>
  K v21x16 H15
def O.impl_areMany : Nat → Nat × List Nat := fun i => (0, [])
theorem R.impl_areMany {a0 a1 a2 a3 a4 : Value} {H : Hp} {K : Value → Hp → Prop} (h : F.impl_areMany a0 a1 a2 a3 a4 H K) : HT prg I.impl_areMany [a0, a1, a2, a3, a4].toArray H K :=
  HT_of_fev O.impl_areMany mixed Try.func25 (by kernel_rfl) (Eq.mpr (by kernel_rfl : fev prg O.impl_areMany Try.f25 [a0, a1, a2, a3, a4] H K = F.impl_areMany a0 a1 a2 a3 a4 H K) h)

/-! loop.example/g01381/impl.ValidField: function 10 -/
def F.impl_ValidField (a0 : Value) (H : Hp) (K : Value → Hp → Prop) : Prop :=
  nw (a0 : Value).cells 27 H fun v1x1 H2 =>
  ob (vFa 0 v1x1) fun v4x3 =>
  ob (vLoad v4x3 H2) fun v5x4 =>
  ob (vFa 1 v1x1) fun v6x5 =>
  ob (vLoad v6x5 H2) fun v7x6 =>
  ob (vInt .mul v5x4 v7x6) fun v8x7 =>
  ob (vFa 0 v1x1) fun v9x8 =>
  ob (vLoad v9x8 H2) fun v10x9 =>
  HT prg I.impl_isSide [v10x9].toArray H2 fun v11x10 H11 =>
  gop v11x10 true (fun K12 => ob (vFa 1 v1x1) fun u => K12 u H11) H11 fun v13x13 H14 =>
  gop v11x10 true (fun K15 => ob (vLoad v13x13 H14) fun u => K15 u H14) H14 fun v14x16 H17 =>
  gop v11x10 true (fun K18 => HT prg I.impl_isSide [v14x16].toArray H17 K18) H17 fun v15x19 H20 =>
  ob (vPick v11x10 v15x19 (.bool false)) fun v16x21 =>
  gop v16x21 true (fun K22 => ob (vFa 2 v1x1) fun u => K22 u H20) H20 fun v18x23 H24 =>
  gop v16x21 true (fun K25 => ob (vLoad v18x23 H24) fun u => K25 u H24) H24 fun v19x26 H27 =>
  gop v16x21 true (fun K28 => K28 v8x7 H27) H27 fun v20x29 H30 =>
  gop v16x21 true (fun K31 => K31 v8x7 H30) H30 fun v21x32 H33 =>
  gop v16x21 true (fun K34 => HT prg I.impl_areMany [v19x26, v20x29, v21x32, (.int .i64 0), (.int .i64 9)].toArray H33 K34) H33 fun v22x35 H36 =>
  ob (vPick v16x21 v22x35 (.bool false)) fun v23x37 =>
  K v23x37 H36
def O.impl_ValidField : Nat → Nat × List Nat := fun i => (0, [])
theorem R.impl_ValidField {a0 : Value} {H : Hp} {K : Value → Hp → Prop} (h : F.impl_ValidField a0 H K) : HT prg I.impl_ValidField [a0].toArray H K :=
  HT_of_fev O.impl_ValidField mixed Try.func10 (by kernel_rfl) (Eq.mpr (by kernel_rfl : fev prg O.impl_ValidField Try.f10 [a0] H K = F.impl_ValidField a0 H K) h)

/-! loop.example/g01381/impl.isPlain: function 17 -/
def F.impl_isPlain (a0 : Value) (H : Hp) (K : Value → Hp → Prop) : Prop :=
  nw (a0 : Value).cells 27 H fun v1x1 H2 =>
  ob (vLoadN 3 v1x1 H2) fun v3x3 =>
  HT prg I.impl_ValidField [v3x3].toArray H2 fun v4x4 H5 =>
  gop v4x4 true (fun K6 => ob (vFa 2 v1x1) fun u => K6 u H5) H5 fun v6x7 H8 =>
  gop v4x4 true (fun K9 => ob (vLoad v6x7 H8) fun u => K9 u H8) H8 fun v7x10 H11 =>
  gop v4x4 true (fun K12 => HT prg I.impl_areWithin [v7x10, (.int .i64 0), (.int .i64 1)].toArray H11 K12) H11 fun v8x13 H14 =>
  ob (vPick v4x4 v8x13 (.bool false)) fun v9x15 =>
  K v9x15 H14
def O.impl_isPlain : Nat → Nat × List Nat := fun i => (0, [])
theorem R.impl_isPlain {a0 : Value} {H : Hp} {K : Value → Hp → Prop} (h : F.impl_isPlain a0 H K) : HT prg I.impl_isPlain [a0].toArray H K :=
  HT_of_fev O.impl_isPlain mixed Try.func17 (by kernel_rfl) (Eq.mpr (by kernel_rfl : fev prg O.impl_isPlain Try.f17 [a0] H K = F.impl_isPlain a0 H K) h)

/-! (loop.example/g01381/impl.Field).at: function 34 -/
def F.impl_Field_at (a0 a1 a2 : Value) (H : Hp) (K : Value → Hp → Prop) : Prop :=
  nw (a0 : Value).cells 27 H fun v3x1 H2 =>
  ob (vFa 2 v3x1) fun v7x3 =>
  ob (vLoad v7x3 H2) fun v8x4 =>
  ob (vFa 1 v3x1) fun v10x5 =>
  ob (vLoad v10x5 H2) fun v11x6 =>
  ob (vInt .mul a1 v11x6) fun v12x7 =>
  ob (vInt .add v12x7 a2) fun v14x8 =>
  ob (vIx 1 v8x4 v14x8) fun v15x9 =>
  ob (vLoad v15x9 H2) fun v16x10 =>
  K v16x10 H2
def O.impl_Field_at : Nat → Nat × List Nat := fun i => (0, [])
theorem R.impl_Field_at {a0 a1 a2 : Value} {H : Hp} {K : Value → Hp → Prop} (h : F.impl_Field_at a0 a1 a2 H K) : HT prg I.impl_Field_at [a0, a1, a2].toArray H K :=
  HT_of_fev O.impl_Field_at mixed Try.func34 (by kernel_rfl) (Eq.mpr (by kernel_rfl : fev prg O.impl_Field_at Try.f34 [a0, a1, a2] H K = F.impl_Field_at a0 a1 a2 H K) h)

/-! loop.example/g01381/impl.floorMod: function 35 -/
def F.impl_floorMod (a0 a1 : Value) (H : Hp) (K : Value → Hp → Prop) : Prop :=
  ob (vInt .rem a0 a1) fun v7x1 =>
  ob (vInt .add v7x1 a1) fun v9x2 =>
  ob (vInt .rem v9x2 a1) fun v11x3 =>
  K v11x3 H
def O.impl_floorMod : Nat → Nat × List Nat := fun i => (0, [])
theorem R.impl_floorMod {a0 a1 : Value} {H : Hp} {K : Value → Hp → Prop} (h : F.impl_floorMod a0 a1 H K) : HT prg I.impl_floorMod [a0, a1].toArray H K :=
  HT_of_fev O.impl_floorMod mixed Try.func35 (by kernel_rfl) (Eq.mpr (by kernel_rfl : fev prg O.impl_floorMod Try.f35 [a0, a1] H K = F.impl_floorMod a0 a1 H K) h)

/-! (loop.example/g01381/impl.Field).has: function 36 -/
def F.impl_Field_has (a0 a1 a2 : Value) (H : Hp) (K : Value → Hp → Prop) : Prop :=
  nw (a0 : Value).cells 27 H fun v3x1 H2 =>
  ob (vFa 0 v3x1) fun v8x3 =>
  ob (vLoad v8x3 H2) fun v9x4 =>
  ob (vInt .sub v9x4 (.int .i64 1)) fun v10x5 =>
  HT prg I.impl_within [a1, (.int .i64 0), v10x5].toArray H2 fun v11x6 H7 =>
  gop v11x6 true (fun K8 => K8 a2 H7) H7 fun v13x9 H10 =>
  gop v11x6 true (fun K11 => ob (vFa 1 v3x1) fun u => K11 u H10) H10 fun v14x12 H13 =>
  gop v11x6 true (fun K14 => ob (vLoad v14x12 H13) fun u => K14 u H13) H13 fun v15x15 H16 =>
  gop v11x6 true (fun K17 => ob (vInt .sub v15x15 (.int .i64 1)) fun u => K17 u H16) H16 fun v16x18 H19 =>
  gop v11x6 true (fun K20 => HT prg I.impl_within [v13x9, (.int .i64 0), v16x18].toArray H19 K20) H19 fun v17x21 H22 =>
  ob (vPick v11x6 v17x21 (.bool false)) fun v18x23 =>
  K v18x23 H22
def O.impl_Field_has : Nat → Nat × List Nat := fun i => (0, [])
theorem R.impl_Field_has {a0 a1 a2 : Value} {H : Hp} {K : Value → Hp → Prop} (h : F.impl_Field_has a0 a1 a2 H K) : HT prg I.impl_Field_has [a0, a1, a2].toArray H K :=
  HT_of_fev O.impl_Field_has mixed Try.func36 (by kernel_rfl) (Eq.mpr (by kernel_rfl : fev prg O.impl_Field_has Try.f36 [a0, a1, a2] H K = F.impl_Field_has a0 a1 a2 H K) h)

/-! (loop.example/g01381/impl.Field).look: function 30 -/
def F.impl_Field_look (a0 a1 a2 a3 : Value) (H : Hp) (K : Value → Hp → Prop) : Prop :=
  nw (a0 : Value).cells 27 H fun v4x1 H2 =>
  cnd a3
    (ob (vLoadN 3 v4x1 H2) fun v10x3 =>
    ob (vFa 0 v4x1) fun v12x4 =>
    ob (vLoad v12x4 H2) fun v13x5 =>
    ob (vFa 1 v4x1) fun v16x6 =>
    ob (vLoad v16x6 H2) fun v17x7 =>
    HT prg I.impl_floorMod [a1, v13x5].toArray H2 fun v14x8 H9 =>
    Le H2 H9 ∧ (HT prg I.impl_floorMod [a2, v17x7].toArray H9 fun v18x10 H11 =>
    Le H9 H11 ∧ (HT prg I.impl_Field_at [v10x3, v14x8, v18x10].toArray H11 fun v19x12 H13 =>
    Le H11 H13 ∧ (K v19x12 H13))))
    (ob (vLoadN 3 v4x1 H2) fun v20x14 =>
  HT prg I.impl_Field_has [v20x14, a1, a2].toArray H2 fun v23x15 H16 =>
  ob (vUn .not v23x15) fun v24x17 =>
  cnd v24x17
    (K (.int .i64 0) H16)
    (ob (vLoadN 3 v4x1 H16) fun v25x18 =>
  HT prg I.impl_Field_at [v25x18, a1, a2].toArray H16 fun v28x19 H20 =>
  K v28x19 H20))
def O.impl_Field_look : Nat → Nat × List Nat := fun i => bif Nat.beq i 2 then (0, [0, 1, 2, 3, 5, 6, 7, 4, 8, 9, 10]) else (0, [])
theorem R.impl_Field_look {a0 a1 a2 a3 : Value} {H : Hp} {K : Value → Hp → Prop} (h : F.impl_Field_look a0 a1 a2 a3 H K) : HT prg I.impl_Field_look [a0, a1, a2, a3].toArray H K :=
  HT_of_fev O.impl_Field_look mixed Try.func30 (by kernel_rfl) (Eq.mpr (by kernel_rfl : fev prg O.impl_Field_look Try.f30 [a0, a1, a2, a3] H K = F.impl_Field_look a0 a1 a2 a3 H K) h)

/-! (loop.example/g01381/impl.Field).spin: function 18 -/
def F.impl_Field_spin (a0 a1 a2 : Value) (H : Hp) (K : Value → Hp → Prop) : Prop :=
  nw (a0 : Value).cells 27 H fun v3x1 H2 =>
  ob (vLoadN 3 v3x1 H2) fun v7x3 =>
  HT prg I.impl_Field_look [v7x3, a1, a2, (.bool true)].toArray H2 fun v10x4 H5 =>
  ob (vInt .mul (.int .i64 2) v10x4) fun v11x6 =>
  ob (vInt .sub v11x6 (.int .i64 1)) fun v12x7 =>
  K v12x7 H5
def O.impl_Field_spin : Nat → Nat × List Nat := fun i => (0, [])
theorem R.impl_Field_spin {a0 a1 a2 : Value} {H : Hp} {K : Value → Hp → Prop} (h : F.impl_Field_spin a0 a1 a2 H K) : HT prg I.impl_Field_spin [a0, a1, a2].toArray H K :=
  HT_of_fev O.impl_Field_spin mixed Try.func18 (by kernel_rfl) (Eq.mpr (by kernel_rfl : fev prg O.impl_Field_spin Try.f18 [a0, a1, a2] H K = F.impl_Field_spin a0 a1 a2 H K) h)

/-! loop.example/g01381/impl.EnergyOf: function 8 -/
def F.impl_EnergyOf (a0 : Value) (H : Hp) (K : Value → Hp → Prop) : Prop :=
  nw (a0 : Value).cells 27 H fun v1x1 H2 =>
  ob (vLoadN 3 v1x1 H2) fun v7x3 =>
  HT prg I.impl_isPlain [v7x3].toArray H2 fun v8x4 H5 =>
  ob (vUn .not v8x4) fun v9x6 =>
  cnd v9x6
    (K (.tuple #[(.int .i64 0), (.bool false)]) H5)
    (jn (fun σ7 H7 =>
    K (.tuple #[(σ7 4), (.bool true)]) H7) fun J7 =>
  ob (vFa 0 v1x1) fun v10x8 =>
  ob (vLoad v10x8 H5) fun v11x9 =>
  lpE (fun Q10 σ10 H10 =>
    ob (vInt .lss (σ10 12) (σ10 11)) fun v13x11 =>
    cnd v13x11
      (jn (fun σ12 H12 =>
      ob (vInt .add (σ12 12) (.int .i64 1)) fun v39x13 =>
      Q10 .normal (up (up σ12 39 v39x13) 12 v39x13) H12) fun J12 =>
    ob (vFa 1 (σ10 1)) fun v15x14 =>
    ob (vLoad v15x14 H10) fun v16x15 =>
    lpE (fun Q16 σ16 H16 =>
      ob (vInt .lss (σ16 17) (σ16 16)) fun v18x17 =>
      cnd v18x17
        (ob (vLoadN 3 (σ16 1) H16) fun v21x18 =>
      ob (vLoadN 3 (σ16 1) H16) fun v25x19 =>
      ob (vInt .add (σ16 17) (.int .i64 1)) fun v28x20 =>
      ob (vLoadN 3 (σ16 1) H16) fun v30x21 =>
      ob (vInt .add (σ16 5) (.int .i64 1)) fun v32x22 =>
      HT prg I.impl_Field_spin [v21x18, (σ16 5), (σ16 17)].toArray H16 fun v24x23 H24 =>
      Le H16 H24 ∧ (HT prg I.impl_Field_spin [v25x19, (σ16 5), v28x20].toArray H24 fun v29x25 H26 =>
      Le H24 H26 ∧ (HT prg I.impl_Field_spin [v30x21, v32x22, (σ16 17)].toArray H26 fun v34x27 H28 =>
      Le H26 H28 ∧ (ob (vInt .add v29x25 v34x27) fun v35x29 =>
      ob (vInt .mul v24x23 v35x29) fun v36x30 =>
      ob (vInt .sub (σ16 4) v36x30) fun v37x31 =>
      ob (vInt .add (σ16 17) (.int .i64 1)) fun v38x32 =>
      Q16 .normal (up (up (up (up (up (up (up (up (up (up (up (up (up (up (up (up (up (up (up (up (up (up (up (up σ16 18 v18x17) 19 (σ16 17)) 6 (σ16 17)) 20 (σ16 4)) 21 v21x18) 22 (σ16 5)) 23 (σ16 17)) 25 v25x19) 26 (σ16 5)) 27 (σ16 17)) 28 v28x20) 30 v30x21) 31 (σ16 5)) 32 v32x22) 33 (σ16 17)) 24 v24x23) 29 v29x25) 34 v34x27) 35 v35x29) 36 v36x30) 37 v37x31) 4 v37x31) 38 v38x32) 17 v38x32) H28))))
        (Q16 (.exit 2) (up σ16 18 v18x17) H16)) (blkQ 2 (blkQ 1 (thenQ J12 Q10))) (up (up (up (up (up (up σ10 13 v13x11) 14 (σ10 12)) 5 (σ10 12)) 15 v15x14) 16 v16x15) 17 (.int .i64 0)) H10)
      (Q10 (.exit 0) (up σ10 13 v13x11) H10)) (blkQ 0 (thenQ J7 (retQ prg [(.tmp 2), (.tmp 3)] K))) (up (up (up (up (up (up (up (up (up (up (S0 [a0]) 1 v1x1) 2 (.int .i64 0)) 3 (.bool false)) 7 v7x3) 8 v8x4) 9 v9x6) 4 (.int .i64 0)) 10 v10x8) 11 v11x9) 12 (.int .i64 0)) H5)
def O.impl_EnergyOf : Nat → Nat × List Nat := fun i => bif Nat.beq i 10 then (0, [0, 1, 2, 3, 5, 6, 7, 8, 10, 11, 12, 13, 4, 9, 14, 15, 16, 17, 18]) else (0, [])
theorem R.impl_EnergyOf {a0 : Value} {H : Hp} {K : Value → Hp → Prop} (h : F.impl_EnergyOf a0 H K) : HT prg I.impl_EnergyOf [a0].toArray H K :=
  HT_of_fev O.impl_EnergyOf mixed Try.func8 (by kernel_rfl) (Eq.mpr (by kernel_rfl : fev prg O.impl_EnergyOf Try.f8 [a0] H K = F.impl_EnergyOf a0 H K) h)

/-! loop.example/g01381/impl.IsFinite: function 19 -/
def F.impl_IsFinite (a0 : Value) (H : Hp) (K : Value → Hp → Prop) : Prop :=
  fA .sub a0 a0 H fun v5x1 H2 =>
  ob (vFcmp .eql v5x1 (.float .f32 0)) fun v6x3 =>
  K v6x3 H2
def O.impl_IsFinite : Nat → Nat × List Nat := fun i => (0, [])
theorem R.impl_IsFinite {a0 : Value} {H : Hp} {K : Value → Hp → Prop} (h : F.impl_IsFinite a0 H K) : HT prg I.impl_IsFinite [a0].toArray H K :=
  HT_of_fev O.impl_IsFinite mixed Try.func19 (by kernel_rfl) (Eq.mpr (by kernel_rfl : fev prg O.impl_IsFinite Try.f19 [a0] H K = F.impl_IsFinite a0 H K) h)

/-! loop.example/g01381/impl.isSeed: function 20 -/
def F.impl_isSeed (a0 : Value) (H : Hp) (K : Value → Hp → Prop) : Prop :=
  HT prg I.impl_within [a0, (.int .i64 0), (.int .i64 4294967295)].toArray H fun v4x1 H2 =>
  K v4x1 H2
def O.impl_isSeed : Nat → Nat × List Nat := fun i => (0, [])
theorem R.impl_isSeed {a0 : Value} {H : Hp} {K : Value → Hp → Prop} (h : F.impl_isSeed a0 H K) : HT prg I.impl_isSeed [a0].toArray H K :=
  HT_of_fev O.impl_isSeed mixed Try.func20 (by kernel_rfl) (Eq.mpr (by kernel_rfl : fev prg O.impl_isSeed Try.f20 [a0] H K = F.impl_isSeed a0 H K) h)

/-! slices.Clone[[]int64,int64]: function 31 -/
def F.slices_Clone_int64Zint64 (a0 : Value) (H : Hp) (K : Value → Hp → Prop) : Prop :=
  ob (vSlEq .eql a0 (.slice none 0 0)) fun v4x1 =>
  cnd v4x1
    (K (.slice none 0 0) H)
    (bS 1 0 #[(.int .i64 0)] 2 [] H fun v5x2 H3 =>
  apd 1 8 #[(.int .i64 0)] 2 v5x2 a0 H3 fun v7x4 H5 =>
  K v7x4 H5)
def O.slices_Clone_int64Zint64 : Nat → Nat × List Nat := fun i => (0, [])
theorem R.slices_Clone_int64Zint64 {a0 : Value} {H : Hp} {K : Value → Hp → Prop} (h : F.slices_Clone_int64Zint64 a0 H K) : HT prg I.slices_Clone_int64Zint64 [a0].toArray H K :=
  HT_of_fev O.slices_Clone_int64Zint64 mixed Try.func31 (by kernel_rfl) (Eq.mpr (by kernel_rfl : fev prg O.slices_Clone_int64Zint64 Try.f31 [a0] H K = F.slices_Clone_int64Zint64 a0 H K) h)

/-! loop.example/g01381/impl.copyField: function 21 -/
def F.impl_copyField (a0 : Value) (H : Hp) (K : Value → Hp → Prop) : Prop :=
  nw (a0 : Value).cells 27 H fun v1x1 H2 =>
  nw #[(.int .i64 0), (.int .i64 0), (.slice none 0 0)] 27 H2 fun v2x3 H4 =>
  ob (vFa 2 v1x1) fun v3x5 =>
  ob (vLoad v3x5 H4) fun v4x6 =>
  HT prg I.slices_Clone_int64Zint64 [v4x6].toArray H4 fun v5x7 H8 =>
  ob (vFa 2 v1x1) fun v6x9 =>
  st 1 v6x9 v5x7 H8 fun H10 =>
  ob (vLoadN 3 v1x1 H10) fun v7x11 =>
  st 3 v2x3 v7x11 H10 fun H12 =>
  ob (vLoadN 3 v2x3 H12) fun u13 => K u13 H12
def O.impl_copyField : Nat → Nat × List Nat := fun i => (0, [])
theorem R.impl_copyField {a0 : Value} {H : Hp} {K : Value → Hp → Prop} (h : F.impl_copyField a0 H K) : HT prg I.impl_copyField [a0].toArray H K :=
  HT_of_fev O.impl_copyField mixed Try.func21 (by kernel_rfl) (Eq.mpr (by kernel_rfl : fev prg O.impl_copyField Try.f21 [a0] H K = F.impl_copyField a0 H K) h)

/-! loop.example/g01381/impl.nextSeed: function 22 -/
def F.impl_nextSeed (a0 : Value) (H : Hp) (K : Value → Hp → Prop) : Prop :=
  ob (vInt .mul (.int .i64 1664525) a0) fun v4x1 =>
  ob (vInt .add v4x1 (.int .i64 1013904223)) fun v5x2 =>
  ob (vInt .rem v5x2 (.int .i64 4294967296)) fun v6x3 =>
  K v6x3 H
def O.impl_nextSeed : Nat → Nat × List Nat := fun i => (0, [])
theorem R.impl_nextSeed {a0 : Value} {H : Hp} {K : Value → Hp → Prop} (h : F.impl_nextSeed a0 H K) : HT prg I.impl_nextSeed [a0].toArray H K :=
  HT_of_fev O.impl_nextSeed mixed Try.func22 (by kernel_rfl) (Eq.mpr (by kernel_rfl : fev prg O.impl_nextSeed Try.f22 [a0] H K = F.impl_nextSeed a0 H K) h)

/-! loop.example/g01381/impl.shareOf: function 23 -/
def F.impl_shareOf (a0 : Value) (H : Hp) (K : Value → Hp → Prop) : Prop :=
  ob (vInt .quo a0 (.int .i64 256)) fun v4x1 =>
  ob (vCF .f32 v4x1) fun v5x2 =>
  fA .quo v5x2 (.float .f32 1266679808) H fun v6x3 H4 =>
  K v6x3 H4
def O.impl_shareOf : Nat → Nat × List Nat := fun i => (0, [])
theorem R.impl_shareOf {a0 : Value} {H : Hp} {K : Value → Hp → Prop} (h : F.impl_shareOf a0 H K) : HT prg I.impl_shareOf [a0].toArray H K :=
  HT_of_fev O.impl_shareOf mixed Try.func23 (by kernel_rfl) (Eq.mpr (by kernel_rfl : fev prg O.impl_shareOf Try.f23 [a0] H K = F.impl_shareOf a0 H K) h)

/-! math.Inf: function 32 -/
def F.math_Inf (a0 : Value) (H : Hp) (K : Value → Hp → Prop) : Prop :=
  ob (vInt .geq a0 (.int .i64 0)) fun v5x1 =>
  cnd v5x1
    (hp prg (callFunc I.math_Float64frombits [(.int .u64 9218868437227405312)].toArray) H (nextH prg (fun v7x2 H3 =>
  K v7x2 H3)))
    (hp prg (callFunc I.math_Float64frombits [(.int .u64 18442240474082181120)].toArray) H (nextH prg (fun v7x4 H5 =>
  K v7x4 H5)))
def O.math_Inf : Nat → Nat × List Nat := fun i => (0, [])
theorem R.math_Inf {a0 : Value} {H : Hp} {K : Value → Hp → Prop} (h : F.math_Inf a0 H K) : HT prg I.math_Inf [a0].toArray H K :=
  HT_of_fev O.math_Inf mixed Try.func32 (by kernel_rfl) (Eq.mpr (by kernel_rfl : fev prg O.math_Inf Try.f32 [a0] H K = F.math_Inf a0 H K) h)

/-! loop.example/g01381/impl.ExpNumber: function 24 -/
def F.impl_ExpNumber (a0 : Value) (H : Hp) (K : Value → Hp → Prop) : Prop :=
  ob (vFcmp .gtr a0 (.float .f32 1128792064)) fun v8x1 =>
  cnd v8x1
    (HT prg I.math_Inf [(.int .i64 1)].toArray H fun v9x2 H3 =>
    fC .f32 v9x2 H3 fun v10x4 H5 =>
    K v10x4 H5)
    (ob (vFcmp .lss a0 (.float .f32 3276275712)) fun v13x6 =>
    cnd v13x6
      (K (.float .f32 0) H)
      (fC .f64 a0 H fun v15x7 H8 =>
  fA .quo v15x7 (.float .f64 4643211215818981376) H8 fun v16x9 H10 =>
  jn (fun σ11 H11 =>
    jn (fun σ12 H12 =>
      fC .f32 (σ12 4) H12 fun v34x13 H14 =>
      K v34x13 H14) fun J12 =>
    lpE (fun Q15 σ15 H15 =>
      ob (vInt .lss (σ15 27) (.int .i64 8)) fun v28x16 =>
      cnd v28x16
        (fA .mul (σ15 4) (σ15 4) H15 fun v31x17 H18 =>
      ob (vInt .add (σ15 27) (.int .i64 1)) fun v32x19 =>
      Q15 .normal (up (up (up (up (up (up (up σ15 28 v28x16) 29 (σ15 4)) 30 (σ15 4)) 31 v31x17) 4 v31x17) 32 v32x19) 27 v32x19) H18)
        (Q15 (.exit 3) (up σ15 28 v28x16) H15)) (blkQ 3 (thenQ J12 (retQ prg [(.tmp 2)] K))) (up σ11 27 (.int .i64 0)) H11) fun J11 =>
  lpE (fun Q20 σ20 H20 =>
    ob (vFcmp .geq (σ20 5) (.float .f64 4607182418800017408)) fun v18x21 =>
    cnd v18x21
      (fA .mul (σ20 3) (σ20 4) H20 fun v23x22 H23 =>
    fA .quo v23x22 (σ20 5) H23 fun v25x24 H25 =>
    fA .add (.float .f64 4607182418800017408) v25x24 H25 fun v26x26 H27 =>
    fA .sub (σ20 5) (.float .f64 4607182418800017408) H27 fun v20x28 H29 =>
    Q20 .normal (up (up (up (up (up (up (up (up (up (up (up (up σ20 17 (σ20 5)) 18 v18x21) 21 (σ20 3)) 22 (σ20 4)) 23 v23x22) 24 (σ20 5)) 25 v25x24) 26 v26x26) 4 v26x26) 19 (σ20 5)) 20 v20x28) 5 v20x28) H29)
      (Q20 (.exit 1) (up (up σ20 17 (σ20 5)) 18 v18x21) H20)) (blkQ 1 (thenQ J11 (retQ prg [(.tmp 2)] K))) (up (up (up (up (up (up (up (up (up (up (up (up (up (S0 [a0]) 2 (.float .f32 0)) 7 a0) 8 v8x1) 6 v8x1) 12 a0) 13 v13x6) 11 v13x6) 14 a0) 15 v15x7) 16 v16x9) 3 v16x9) 4 (.float .f64 4607182418800017408)) 5 (.float .f64 4622945017495814144)) H10))
def O.impl_ExpNumber : Nat → Nat × List Nat := fun i => (0, [])
theorem R.impl_ExpNumber {a0 : Value} {H : Hp} {K : Value → Hp → Prop} (h : F.impl_ExpNumber a0 H K) : HT prg I.impl_ExpNumber [a0].toArray H K :=
  HT_of_fev O.impl_ExpNumber mixed Try.func24 (by kernel_rfl) (Eq.mpr (by kernel_rfl : fev prg O.impl_ExpNumber Try.f24 [a0] H K = F.impl_ExpNumber a0 H K) h)

/-! loop.example/g01381/impl.SpinSweep: function 9 -/
def F.impl_SpinSweep (a0 a1 a2 : Value) (H : Hp) (K : Value → Hp → Prop) : Prop :=
  nw (a0 : Value).cells 27 H fun v3x1 H2 =>
  nw #[(.int .i64 0), (.int .i64 0), (.slice none 0 0)] 27 H2 fun v6x3 H4 =>
  ob (vLoadN 3 v3x1 H4) fun v13x5 =>
  HT prg I.impl_isPlain [v13x5].toArray H4 fun v14x6 H7 =>
  ob (vUn .not v14x6) fun v15x8 =>
  gop v15x8 false (fun K9 => K9 a1 H7) H7 fun v17x10 H11 =>
  gop v15x8 false (fun K12 => HT prg I.impl_IsFinite [v17x10].toArray H11 K12) H11 fun v18x13 H14 =>
  gop v15x8 false (fun K15 => ob (vUn .not v18x13) fun u => K15 u H14) H14 fun v19x16 H17 =>
  ob (vPick v15x8 (.bool true) v19x16) fun v20x18 =>
  gop v20x18 false (fun K19 => K19 a1 H17) H17 fun v22x20 H21 =>
  gop v20x18 false (fun K22 => ob (vFcmp .geq v22x20 (.float .f32 0)) fun u => K22 u H21) H21 fun v23x23 H24 =>
  gop v20x18 false (fun K25 => ob (vUn .not v23x23) fun u => K25 u H24) H24 fun v24x26 H27 =>
  ob (vPick v20x18 (.bool true) v24x26) fun v25x28 =>
  gop v25x28 false (fun K29 => K29 a2 H27) H27 fun v27x30 H31 =>
  gop v25x28 false (fun K32 => HT prg I.impl_isSeed [v27x30].toArray H31 K32) H31 fun v28x33 H34 =>
  gop v25x28 false (fun K35 => ob (vUn .not v28x33) fun u => K35 u H34) H34 fun v29x36 H37 =>
  ob (vPick v25x28 (.bool true) v29x36) fun v30x38 =>
  cnd v30x38
    (ob (vBuild [(0, 1), (1, 1), (2, 1)] (.agg #[(.int .i64 0), (.int .i64 0), (.slice none 0 0)]) []) fun v31x39 =>
    st 3 v6x3 v31x39 H37 fun H40 =>
    ob (vLoadN 3 v6x3 H40) fun u41 => K (.tuple #[u41, (.int .i64 0), (.bool false)]) H40)
    (ob (vLoadN 3 v3x1 H37) fun v32x42 =>
  HT prg I.impl_copyField [v32x42].toArray H37 fun v33x43 H44 =>
  st 3 v3x1 v33x43 H44 fun H45 =>
  jn (fun σ46 H46 =>
    ob (vLoadN 3 (σ46 3) H46) fun v103x47 =>
    st 3 (σ46 6) v103x47 H46 fun H48 =>
    ob (vLoadN 3 (σ46 6) H48) fun u49 => K (.tuple #[u49, (σ46 2), (.bool true)]) H48) fun J46 =>
  ob (vFa 2 v3x1) fun v34x50 =>
  ob (vLoad v34x50 H45) fun v35x51 =>
  ob (vLenSl v35x51) fun v36x52 =>
  lpE (fun Q53 σ53 H53 =>
    ob (vInt .lss (σ53 37) (σ53 36)) fun v38x54 =>
    cnd v38x54
      (ob (vFa 1 (σ53 3)) fun v41x55 =>
    ob (vLoad v41x55 H53) fun v42x56 =>
    ob (vInt .quo (σ53 37) v42x56) fun v43x57 =>
    ob (vFa 1 (σ53 3)) fun v45x58 =>
    ob (vLoad v45x58 H53) fun v46x59 =>
    ob (vInt .rem (σ53 37) v46x59) fun v47x60 =>
    ob (vLoadN 3 (σ53 3) H53) fun v48x61 =>
    ob (vLoadN 3 (σ53 3) H53) fun v53x62 =>
    ob (vInt .sub v43x57 (.int .i64 1)) fun v55x63 =>
    ob (vLoadN 3 (σ53 3) H53) fun v58x64 =>
    ob (vInt .add v47x60 (.int .i64 1)) fun v61x65 =>
    ob (vLoadN 3 (σ53 3) H53) fun v64x66 =>
    ob (vInt .add v43x57 (.int .i64 1)) fun v66x67 =>
    ob (vLoadN 3 (σ53 3) H53) fun v70x68 =>
    ob (vInt .sub v47x60 (.int .i64 1)) fun v73x69 =>
    HT prg I.impl_Field_spin [v48x61, v43x57, v47x60].toArray H53 fun v51x70 H71 =>
    Le H53 H71 ∧ (ob (vInt .mul (.int .i64 2) v51x70) fun v52x72 =>
    HT prg I.impl_Field_spin [v53x62, v55x63, v47x60].toArray H71 fun v57x73 H74 =>
    Le H71 H74 ∧ (HT prg I.impl_Field_spin [v58x64, v43x57, v61x65].toArray H74 fun v62x75 H76 =>
    Le H74 H76 ∧ (ob (vInt .add v57x73 v62x75) fun v63x77 =>
    HT prg I.impl_Field_spin [v64x66, v66x67, v47x60].toArray H76 fun v68x78 H79 =>
    Le H76 H79 ∧ (ob (vInt .add v63x77 v68x78) fun v69x80 =>
    HT prg I.impl_Field_spin [v70x68, v43x57, v73x69].toArray H79 fun v74x81 H82 =>
    Le H79 H82 ∧ (ob (vInt .add v69x80 v74x81) fun v75x83 =>
    ob (vInt .mul v52x72 v75x83) fun v76x84 =>
    HT prg I.impl_nextSeed [(σ53 2)].toArray H82 fun v78x85 H86 =>
    ob (vInt .leq v76x84 (.int .i64 0)) fun v80x87 =>
    gop v80x87 false (fun K88 => K88 v78x85 H86) H86 fun v82x89 H90 =>
    gop v80x87 false (fun K91 => HT prg I.impl_shareOf [v82x89].toArray H90 K91) H90 fun v83x92 H93 =>
    gop v80x87 false (fun K94 => K94 (σ53 1) H93) H93 fun v84x95 H96 =>
    gop v80x87 false (fun K97 => K97 v76x84 H96) H96 fun v85x98 H99 =>
    gop v80x87 false (fun K100 => ob (vCF .f32 v85x98) fun u => K100 u H99) H99 fun v86x101 H102 =>
    gop v80x87 false (fun K103 => fA .mul v84x95 v86x101 H102 K103) H102 fun v87x104 H105 =>
    gop v80x87 false (fun K106 => fA .sub (.float .f32 0) v87x104 H105 K106) H105 fun v88x107 H108 =>
    gop v80x87 false (fun K109 => HT prg I.impl_ExpNumber [v88x107].toArray H108 K109) H108 fun v89x110 H111 =>
    gop v80x87 false (fun K112 => ob (vFcmp .lss v83x92 v89x110) fun u => K112 u H111) H111 fun v90x113 H114 =>
    ob (vPick v80x87 (.bool true) v90x113) fun v91x115 =>
    cnd v91x115
      (ob (vFa 2 (σ53 3)) fun v92x116 =>
      ob (vLoad v92x116 H114) fun v93x117 =>
      ob (vFa 2 (σ53 3)) fun v95x118 =>
      ob (vLoad v95x118 H114) fun v96x119 =>
      ob (vIx 1 v96x119 (σ53 37)) fun v98x120 =>
      ob (vLoad v98x120 H114) fun v99x121 =>
      ob (vInt .sub (.int .i64 1) v99x121) fun v100x122 =>
      ob (vIx 1 v93x117 (σ53 37)) fun v101x123 =>
      st 1 v101x123 v100x122 H114 fun H124 =>
      ob (vInt .add (σ53 37) (.int .i64 1)) fun v102x125 =>
    Q53 .normal (up (up (up (up (up (up (up (up (up (up (up (up (up (up (up (up (up (up (up (up (up (up (up (up (up (up (up (up (up (up (up (up (up (up (up (up (up (up (up (up (up (up (up (up (up (up (up (up (up (up (up (up (up (up (up (up (up (up (up (up (up (up (up (up (up (up (up (up (up (up (up σ53 38 v38x54) 39 (σ53 37)) 9 (σ53 37)) 40 (σ53 37)) 41 v41x55) 42 v42x56) 43 v43x57) 44 (σ53 37)) 45 v45x58) 46 v46x59) 47 v47x60) 10 v43x57) 11 v47x60) 48 v48x61) 49 v43x57) 50 v47x60) 53 v53x62) 54 v43x57) 55 v55x63) 56 v47x60) 58 v58x64) 59 v43x57) 60 v47x60) 61 v61x65) 64 v64x66) 65 v43x57) 66 v66x67) 67 v47x60) 70 v70x68) 71 v43x57) 72 v47x60) 73 v73x69) 51 v51x70) 52 v52x72) 57 v57x73) 62 v62x75) 63 v63x77) 68 v68x78) 69 v69x80) 74 v74x81) 75 v75x83) 76 v76x84) 12 v76x84) 77 (σ53 2)) 78 v78x85) 2 v78x85) 79 v76x84) 80 v80x87) 81 v80x87) 82 v82x89) 83 v83x92) 84 v84x95) 85 v85x98) 86 v86x101) 87 v87x104) 88 v88x107) 89 v89x110) 90 v90x113) 91 v91x115) 92 v92x116) 93 v93x117) 94 (σ53 37)) 95 v95x118) 96 v96x119) 97 (σ53 37)) 98 v98x120) 99 v99x121) 100 v100x122) 101 v101x123) 102 v102x125) 37 v102x125) H124)
      (ob (vInt .add (σ53 37) (.int .i64 1)) fun v102x126 =>
    Q53 .normal (up (up (up (up (up (up (up (up (up (up (up (up (up (up (up (up (up (up (up (up (up (up (up (up (up (up (up (up (up (up (up (up (up (up (up (up (up (up (up (up (up (up (up (up (up (up (up (up (up (up (up (up (up (up (up (up (up (up (up (up (up σ53 38 v38x54) 39 (σ53 37)) 9 (σ53 37)) 40 (σ53 37)) 41 v41x55) 42 v42x56) 43 v43x57) 44 (σ53 37)) 45 v45x58) 46 v46x59) 47 v47x60) 10 v43x57) 11 v47x60) 48 v48x61) 49 v43x57) 50 v47x60) 53 v53x62) 54 v43x57) 55 v55x63) 56 v47x60) 58 v58x64) 59 v43x57) 60 v47x60) 61 v61x65) 64 v64x66) 65 v43x57) 66 v66x67) 67 v47x60) 70 v70x68) 71 v43x57) 72 v47x60) 73 v73x69) 51 v51x70) 52 v52x72) 57 v57x73) 62 v62x75) 63 v63x77) 68 v68x78) 69 v69x80) 74 v74x81) 75 v75x83) 76 v76x84) 12 v76x84) 77 (σ53 2)) 78 v78x85) 2 v78x85) 79 v76x84) 80 v80x87) 81 v80x87) 82 v82x89) 83 v83x92) 84 v84x95) 85 v85x98) 86 v86x101) 87 v87x104) 88 v88x107) 89 v89x110) 90 v90x113) 91 v91x115) 102 v102x126) 37 v102x126) H114)))))))
      (Q53 (.exit 0) (up σ53 38 v38x54) H53)) (blkQ 0 (thenQ J46 (retQ prg [(.cell 6 27), (.tmp 7), (.tmp 8)] K))) (up (up (up (up (up (up (up (up (up (up (up (up (up (up (up (up (up (up (up (up (up (up (up (up (up (up (up (up (S0 [a0, a1, a2]) 3 v3x1) 6 v6x3) 7 (.int .i64 0)) 8 (.bool false)) 13 v13x5) 14 v14x6) 15 v15x8) 16 v15x8) 17 v17x10) 18 v18x13) 19 v19x16) 20 v20x18) 21 v20x18) 22 v22x20) 23 v23x23) 24 v24x26) 25 v25x28) 26 v25x28) 27 v27x30) 28 v28x33) 29 v29x36) 30 v30x38) 32 v32x42) 33 v33x43) 34 v34x50) 35 v35x51) 36 v36x52) 37 (.int .i64 0)) H45)
def O.impl_SpinSweep : Nat → Nat × List Nat := fun i => bif Nat.beq i 7 then (0, [0, 1, 2, 3, 4, 5, 6, 7, 8, 9]) else bif Nat.beq i 8 then (0, [0, 1, 2, 5, 6, 7, 8, 10, 11, 12, 13, 16, 17, 18, 19, 22, 23, 24, 25, 3, 4, 9, 14, 15, 20, 21, 26, 27, 28, 29]) else bif Nat.beq i 11 then (0, [0, 1, 2, 3, 4, 5, 6, 7, 8, 9, 10]) else (0, [])
theorem R.impl_SpinSweep {a0 a1 a2 : Value} {H : Hp} {K : Value → Hp → Prop} (h : F.impl_SpinSweep a0 a1 a2 H K) : HT prg I.impl_SpinSweep [a0, a1, a2].toArray H K :=
  HT_of_fev O.impl_SpinSweep mixed Try.func9 (by kernel_rfl) (Eq.mpr (by kernel_rfl : fev prg O.impl_SpinSweep Try.f9 [a0, a1, a2] H K = F.impl_SpinSweep a0 a1 a2 H K) h)

/-! loop.example/g01381/impl.alike: function 26 -/
def F.impl_alike (a0 a1 : Value) (H : Hp) (K : Value → Hp → Prop) : Prop :=
  nw (a0 : Value).cells 27 H fun v2x1 H2 =>
  nw (a1 : Value).cells 27 H2 fun v3x3 H4 =>
  ob (vLoadN 3 v2x1 H4) fun v5x5 =>
  HT prg I.impl_ValidField [v5x5].toArray H4 fun v6x6 H7 =>
  gop v6x6 true (fun K8 => ob (vLoadN 3 v3x3 H7) fun u => K8 u H7) H7 fun v8x9 H10 =>
  gop v6x6 true (fun K11 => HT prg I.impl_ValidField [v8x9].toArray H10 K11) H10 fun v9x12 H13 =>
  ob (vPick v6x6 v9x12 (.bool false)) fun v10x14 =>
  gop v10x14 true (fun K15 => ob (vFa 0 v2x1) fun u => K15 u H13) H13 fun v12x16 H17 =>
  gop v10x14 true (fun K18 => ob (vLoad v12x16 H17) fun u => K18 u H17) H17 fun v13x19 H20 =>
  gop v10x14 true (fun K21 => ob (vFa 0 v3x3) fun u => K21 u H20) H20 fun v14x22 H23 =>
  gop v10x14 true (fun K24 => ob (vLoad v14x22 H23) fun u => K24 u H23) H23 fun v15x25 H26 =>
  gop v10x14 true (fun K27 => ob (vInt .eql v13x19 v15x25) fun u => K27 u H26) H26 fun v16x28 H29 =>
  ob (vPick v10x14 v16x28 (.bool false)) fun v17x30 =>
  gop v17x30 true (fun K31 => ob (vFa 1 v2x1) fun u => K31 u H29) H29 fun v19x32 H33 =>
  gop v17x30 true (fun K34 => ob (vLoad v19x32 H33) fun u => K34 u H33) H33 fun v20x35 H36 =>
  gop v17x30 true (fun K37 => ob (vFa 1 v3x3) fun u => K37 u H36) H36 fun v21x38 H39 =>
  gop v17x30 true (fun K40 => ob (vLoad v21x38 H39) fun u => K40 u H39) H39 fun v22x41 H42 =>
  gop v17x30 true (fun K43 => ob (vInt .eql v20x35 v22x41) fun u => K43 u H42) H42 fun v23x44 H45 =>
  ob (vPick v17x30 v23x44 (.bool false)) fun v24x46 =>
  K v24x46 H45
def O.impl_alike : Nat → Nat × List Nat := fun i => (0, [])
theorem R.impl_alike {a0 a1 : Value} {H : Hp} {K : Value → Hp → Prop} (h : F.impl_alike a0 a1 H K) : HT prg I.impl_alike [a0, a1].toArray H K :=
  HT_of_fev O.impl_alike mixed Try.func26 (by kernel_rfl) (Eq.mpr (by kernel_rfl : fev prg O.impl_alike Try.f26 [a0, a1] H K = F.impl_alike a0 a1 H K) h)

/-! loop.example/g01381/impl.CellsApart: function 11 -/
def F.impl_CellsApart (a0 a1 : Value) (H : Hp) (K : Value → Hp → Prop) : Prop :=
  nw (a0 : Value).cells 27 H fun v2x1 H2 =>
  nw (a1 : Value).cells 27 H2 fun v3x3 H4 =>
  ob (vLoadN 3 v2x1 H4) fun v9x5 =>
  ob (vLoadN 3 v3x3 H4) fun v10x6 =>
  HT prg I.impl_alike [v9x5, v10x6].toArray H4 fun v11x7 H8 =>
  ob (vUn .not v11x7) fun v12x9 =>
  cnd v12x9
    (K (.tuple #[(.int .i64 0), (.bool false)]) H8)
    (jn (fun σ10 H10 =>
    K (.tuple #[(σ10 6), (.bool true)]) H10) fun J10 =>
  ob (vFa 2 v2x1) fun v13x11 =>
  ob (vLoad v13x11 H8) fun v14x12 =>
  ob (vLenSl v14x12) fun v15x13 =>
  lpE (fun Q14 σ14 H14 =>
    ob (vInt .lss (σ14 16) (σ14 15)) fun v17x15 =>
    cnd v17x15
      (ob (vIx 1 (σ14 14) (σ14 16)) fun v19x16 =>
    ob (vLoad v19x16 H14) fun v20x17 =>
    ob (vFa 2 (σ14 3)) fun v22x18 =>
    ob (vLoad v22x18 H14) fun v23x19 =>
    ob (vIx 1 v23x19 (σ14 16)) fun v25x20 =>
    ob (vLoad v25x20 H14) fun v26x21 =>
    ob (vInt .neq v20x17 v26x21) fun v27x22 =>
    cnd v27x22
      (ob (vInt .add (σ14 6) (.int .i64 1)) fun v29x23 =>
      ob (vInt .add (σ14 16) (.int .i64 1)) fun v30x24 =>
    Q14 .normal (up (up (up (up (up (up (up (up (up (up (up (up (up (up (up (up (up (up σ14 17 v17x15) 18 (σ14 16)) 19 v19x16) 20 v20x17) 7 (σ14 16)) 8 v20x17) 21 v20x17) 22 v22x18) 23 v23x19) 24 (σ14 16)) 25 v25x20) 26 v26x21) 27 v27x22) 28 (σ14 6)) 29 v29x23) 6 v29x23) 30 v30x24) 16 v30x24) H14)
      (ob (vInt .add (σ14 16) (.int .i64 1)) fun v30x25 =>
    Q14 .normal (up (up (up (up (up (up (up (up (up (up (up (up (up (up (up σ14 17 v17x15) 18 (σ14 16)) 19 v19x16) 20 v20x17) 7 (σ14 16)) 8 v20x17) 21 v20x17) 22 v22x18) 23 v23x19) 24 (σ14 16)) 25 v25x20) 26 v26x21) 27 v27x22) 30 v30x25) 16 v30x25) H14))
      (Q14 (.exit 0) (up σ14 17 v17x15) H14)) (blkQ 0 (thenQ J10 (retQ prg [(.tmp 4), (.tmp 5)] K))) (up (up (up (up (up (up (up (up (up (up (up (up (up (S0 [a0, a1]) 2 v2x1) 3 v3x3) 4 (.int .i64 0)) 5 (.bool false)) 9 v9x5) 10 v10x6) 11 v11x7) 12 v12x9) 6 (.int .i64 0)) 13 v13x11) 14 v14x12) 15 v15x13) 16 (.int .i64 0)) H8)
def O.impl_CellsApart : Nat → Nat × List Nat := fun i => (0, [])
theorem R.impl_CellsApart {a0 a1 : Value} {H : Hp} {K : Value → Hp → Prop} (h : F.impl_CellsApart a0 a1 H K) : HT prg I.impl_CellsApart [a0, a1].toArray H K :=
  HT_of_fev O.impl_CellsApart mixed Try.func11 (by kernel_rfl) (Eq.mpr (by kernel_rfl : fev prg O.impl_CellsApart Try.f11 [a0, a1] H K = F.impl_CellsApart a0 a1 H K) h)

/-! loop.example/g01381/laws.FnSpins: function 3 -/
def F.laws_FnSpins (a0 a1 : Value) (H : Hp) (K : Value → Hp → Prop) : Prop :=
  HT prg I.laws_r8Long [a0, a1].toArray H fun v33x1 H2 =>
  cnd v33x1
    (K (.bool true) H2)
    (HT prg I.laws_r8At [a1, (.int .i64 40), (.int .i64 4)].toArray H2 fun v35x3 H4 =>
  ob (vInt .add (.int .i64 2) v35x3) fun v36x5 =>
  HT prg I.laws_r8At [a1, (.int .i64 41), (.int .i64 4)].toArray H4 fun v38x6 H7 =>
  ob (vInt .add (.int .i64 2) v38x6) fun v39x8 =>
  HT prg I.spec_R8Field [a0, v36x5, v39x8, (.int .i64 2)].toArray H7 fun v43x9 H10 =>
  nw #[(.int .i64 0), (.int .i64 0), (.slice none 0 0)] 27 H10 fun v7x11 H12 =>
  st 3 v7x11 v43x9 H12 fun H13 =>
  ob (vBuild [(0, 1), (1, 1), (2, 1)] (.agg #[(.int .i64 0), (.int .i64 0), (.slice none 0 0)]) [(0, v36x5), (1, v39x8)]) fun v46x14 =>
  nw #[(.int .i64 0), (.int .i64 0), (.slice none 0 0)] 27 H13 fun v8x15 H16 =>
  st 3 v8x15 v46x14 H16 fun H17 =>
  jn (fun σ18 H18 =>
    HT prg I.impl_NewField [(σ18 5), (σ18 6)].toArray H18 fun v68x19 H20 =>
    ob (vExt v68x19 0) fun v69x21 =>
    ob (vExt v68x19 1) fun v70x22 =>
    nw #[(.int .i64 0), (.int .i64 0), (.slice none 0 0)] 27 H20 fun v10x23 H24 =>
    st 3 v10x23 v69x21 H24 fun H25 =>
    ob (vLoadN 3 (σ18 7) H25) fun v72x26 =>
    HT prg I.impl_EnergyOf [v72x26].toArray H25 fun v73x27 H28 =>
    ob (vExt v73x27 0) fun v74x29 =>
    ob (vExt v73x27 1) fun v75x30 =>
    ob (vLoadN 3 (σ18 8) H28) fun v77x31 =>
    HT prg I.impl_EnergyOf [v77x31].toArray H28 fun v78x32 H33 =>
    ob (vExt v78x32 0) fun v79x34 =>
    ob (vExt v78x32 1) fun v80x35 =>
    ob (vLoadN 3 v10x23 H33) fun v82x36 =>
    HT prg I.impl_EnergyOf [v82x36].toArray H33 fun v83x37 H38 =>
    ob (vExt v83x37 0) fun v84x39 =>
    ob (vExt v83x37 1) fun v85x40 =>
    HT prg I.laws_r8At [(σ18 1), (.int .i64 42), (.int .i64 256)].toArray H38 fun v87x41 H42 =>
    ob (vInt .mul v87x41 (.int .i64 65537)) fun v88x43 =>
    ob (vLoadN 3 (σ18 7) H42) fun v90x44 =>
    HT prg I.impl_SpinSweep [v90x44, (.float .f32 1120403456), v88x43].toArray H42 fun v92x45 H46 =>
    ob (vExt v92x45 0) fun v93x47 =>
    ob (vExt v92x45 1) fun v94x48 =>
    ob (vExt v92x45 2) fun v95x49 =>
    nw #[(.int .i64 0), (.int .i64 0), (.slice none 0 0)] 27 H46 fun v19x50 H51 =>
    st 3 v19x50 v93x47 H51 fun H52 =>
    ob (vLoadN 3 v19x50 H52) fun v97x53 =>
    HT prg I.impl_EnergyOf [v97x53].toArray H52 fun v98x54 H55 =>
    ob (vExt v98x54 0) fun v99x56 =>
    ob (vExt v98x54 1) fun v100x57 =>
    ob (vLoadN 3 (σ18 7) H55) fun v102x58 =>
    HT prg I.impl_SpinSweep [v102x58, (.float .f32 0), v88x43].toArray H55 fun v104x59 H60 =>
    ob (vExt v104x59 0) fun v105x61 =>
    ob (vExt v104x59 1) fun v106x62 =>
    ob (vExt v104x59 2) fun v107x63 =>
    nw #[(.int .i64 0), (.int .i64 0), (.slice none 0 0)] 27 H60 fun v24x64 H65 =>
    st 3 v24x64 v105x61 H65 fun H66 =>
    ob (vUn .not v70x22) fun v109x67 =>
    gop v109x67 false (fun K68 => K68 v75x30 H66) H66 fun v111x69 H70 =>
    gop v109x67 false (fun K71 => ob (vUn .not v111x69) fun u => K71 u H70) H70 fun v112x72 H73 =>
    ob (vPick v109x67 (.bool true) v112x72) fun v113x74 =>
    gop v113x74 false (fun K75 => K75 v80x35 H73) H73 fun v115x76 H77 =>
    gop v113x74 false (fun K78 => ob (vUn .not v115x76) fun u => K78 u H77) H77 fun v116x79 H80 =>
    ob (vPick v113x74 (.bool true) v116x79) fun v117x81 =>
    gop v117x81 false (fun K82 => K82 v85x40 H80) H80 fun v119x83 H84 =>
    gop v117x81 false (fun K85 => ob (vUn .not v119x83) fun u => K85 u H84) H84 fun v120x86 H87 =>
    ob (vPick v117x81 (.bool true) v120x86) fun v121x88 =>
    gop v121x88 false (fun K89 => K89 v95x49 H87) H87 fun v123x90 H91 =>
    gop v121x88 false (fun K92 => ob (vUn .not v123x90) fun u => K92 u H91) H91 fun v124x93 H94 =>
    ob (vPick v121x88 (.bool true) v124x93) fun v125x95 =>
    gop v125x95 false (fun K96 => K96 v100x57 H94) H94 fun v127x97 H98 =>
    gop v125x95 false (fun K99 => ob (vUn .not v127x97) fun u => K99 u H98) H98 fun v128x100 H101 =>
    ob (vPick v125x95 (.bool true) v128x100) fun v129x102 =>
    gop v129x102 false (fun K103 => K103 v107x63 H101) H101 fun v131x104 H105 =>
    gop v129x102 false (fun K106 => ob (vUn .not v131x104) fun u => K106 u H105) H105 fun v132x107 H108 =>
    ob (vPick v129x102 (.bool true) v132x107) fun v133x109 =>
    gop v133x109 false (fun K110 => K110 v74x29 H108) H108 fun v135x111 H112 =>
    gop v133x109 false (fun K113 => K113 v79x34 H112) H112 fun v136x114 H115 =>
    gop v133x109 false (fun K116 => ob (vInt .neq v135x111 v136x114) fun u => K116 u H115) H115 fun v137x117 H118 =>
    ob (vPick v133x109 (.bool true) v137x117) fun v138x119 =>
    gop v138x119 false (fun K120 => K120 v84x39 H118) H118 fun v140x121 H122 =>
    gop v138x119 false (fun K123 => K123 (σ18 5) H122) H122 fun v141x124 H125 =>
    gop v138x119 false (fun K126 => ob (vInt .mul (.int .i64 (-2)) v141x124) fun u => K126 u H125) H125 fun v142x127 H128 =>
    gop v138x119 false (fun K129 => K129 (σ18 6) H128) H128 fun v143x130 H131 =>
    gop v138x119 false (fun K132 => ob (vInt .mul v142x127 v143x130) fun u => K132 u H131) H131 fun v144x133 H134 =>
    gop v138x119 false (fun K135 => ob (vInt .neq v140x121 v144x133) fun u => K135 u H134) H134 fun v145x136 H137 =>
    ob (vPick v138x119 (.bool true) v145x136) fun v146x138 =>
    gop v146x138 false (fun K139 => K139 v74x29 H137) H137 fun v148x140 H141 =>
    gop v146x138 false (fun K142 => K142 v84x39 H141) H141 fun v149x143 H144 =>
    gop v146x138 false (fun K145 => ob (vInt .lss v148x140 v149x143) fun u => K145 u H144) H144 fun v150x146 H147 =>
    ob (vPick v146x138 (.bool true) v150x146) fun v151x148 =>
    gop v151x148 false (fun K149 => K149 v74x29 H147) H147 fun v153x150 H151 =>
    gop v151x148 false (fun K152 => K152 v84x39 H151) H151 fun v154x153 H154 =>
    gop v151x148 false (fun K155 => ob (vUn .neg v154x153) fun u => K155 u H154) H154 fun v155x156 H157 =>
    gop v151x148 false (fun K158 => ob (vInt .gtr v153x150 v155x156) fun u => K158 u H157) H157 fun v156x159 H160 =>
    ob (vPick v151x148 (.bool true) v156x159) fun v157x161 =>
    gop v157x161 false (fun K162 => K162 v99x56 H160) H160 fun v159x163 H164 =>
    gop v157x161 false (fun K165 => K165 v74x29 H164) H164 fun v160x166 H167 =>
    gop v157x161 false (fun K168 => ob (vInt .gtr v159x163 v160x166) fun u => K168 u H167) H167 fun v161x169 H170 =>
    ob (vPick v157x161 (.bool true) v161x169) fun v162x171 =>
    gop v162x171 false (fun K172 => K172 v94x48 H170) H170 fun v164x173 H174 =>
    gop v162x171 false (fun K175 => K175 v106x62 H174) H174 fun v165x176 H177 =>
    gop v162x171 false (fun K178 => ob (vInt .neq v164x173 v165x176) fun u => K178 u H177) H177 fun v166x179 H180 =>
    ob (vPick v162x171 (.bool true) v166x179) fun v167x181 =>
    gop v167x181 false (fun K182 => ob (vLoadN 3 v19x50 H180) fun u => K182 u H180) H180 fun v169x183 H184 =>
    gop v167x181 false (fun K185 => HT prg I.impl_ValidField [v169x183].toArray H184 K185) H184 fun v170x186 H187 =>
    gop v167x181 false (fun K188 => ob (vUn .not v170x186) fun u => K188 u H187) H187 fun v171x189 H190 =>
    ob (vPick v167x181 (.bool true) v171x189) fun v172x191 =>
    cnd v172x191
      (K (.bool false) H190)
      (jn (fun σ192 H192 =>
      ob (vLoadN 3 (σ192 24) H192) fun v186x193 =>
      ob (vLoadN 3 (σ192 7) H192) fun v187x194 =>
      HT prg I.impl_CellsApart [v186x193, v187x194].toArray H192 fun v188x195 H196 =>
      ob (vExt v188x195 0) fun v189x197 =>
      ob (vExt v188x195 1) fun v190x198 =>
      gop v190x198 true (fun K199 => K199 (σ192 27) H196) H196 fun v193x200 H201 =>
      gop v190x198 true (fun K202 => K202 (σ192 20) H201) H201 fun v194x203 H204 =>
      gop v190x198 true (fun K205 => ob (vInt .eql v193x200 v194x203) fun u => K205 u H204) H204 fun v195x206 H207 =>
      ob (vPick v190x198 v195x206 (.bool false)) fun v196x208 =>
      gop v196x208 true (fun K209 => K209 v189x197 H207) H207 fun v198x210 H211 =>
      gop v196x208 true (fun K212 => K212 (σ192 5) H211) H211 fun v199x213 H214 =>
      gop v196x208 true (fun K215 => K215 (σ192 6) H214) H214 fun v200x216 H217 =>
      gop v196x208 true (fun K218 => ob (vInt .mul v199x213 v200x216) fun u => K218 u H217) H217 fun v201x219 H220 =>
      gop v196x208 true (fun K221 => ob (vInt .eql v198x210 v201x219) fun u => K221 u H220) H220 fun v202x222 H223 =>
      ob (vPick v196x208 v202x222 (.bool false)) fun v203x224 =>
      K v203x224 H223) fun J192 =>
    lpE (fun Q225 σ225 H225 =>
      ob (vInt .mul (σ225 5) (σ225 6)) fun v177x226 =>
      ob (vInt .lss (σ225 28) v177x226) fun v178x227 =>
      cnd v178x227
        (ob (vInt .mul (.int .i64 1664525) (σ225 27)) fun v182x228 =>
      ob (vInt .add v182x228 (.int .i64 1013904223)) fun v183x229 =>
      ob (vInt .rem v183x229 (.int .i64 4294967296)) fun v184x230 =>
      ob (vInt .add (σ225 28) (.int .i64 1)) fun v180x231 =>
      Q225 .normal (up (up (up (up (up (up (up (up (up (up (up (up (up σ225 174 (σ225 28)) 175 (σ225 5)) 176 (σ225 6)) 177 v177x226) 178 v178x227) 181 (σ225 27)) 182 v182x228) 183 v183x229) 184 v184x230) 27 v184x230) 179 (σ225 28)) 180 v180x231) 28 v180x231) H225)
        (Q225 (.exit 2) (up (up (up (up (up σ225 174 (σ225 28)) 175 (σ225 5)) 176 (σ225 6)) 177 v177x226) 178 v178x227) H225)) (blkQ 2 (thenQ J192 (retQ prg [(.tmp 4)] K))) (up (up (up (up (up (up (up (up (up (up (up (up (up (up (up (up (up (up (up (up (up (up (up (up (up (up (up (up (up (up (up (up (up (up (up (up (up (up (up (up (up (up (up (up (up (up (up (up (up (up (up (up (up (up (up (up (up (up (up (up (up (up (up (up (up (up (up (up (up (up (up (up (up (up (up (up (up (up (up (up (up (up (up (up (up (up (up (up (up (up (up (up (up (up (up (up (up (up (up (up (up (up (up (up (up (up (up (up (up (up (up (up (up (up (up (up (up (up (up (up (up (up (up (up (up (up (up (up σ18 66 (σ18 5)) 67 (σ18 6)) 68 v68x19) 65 v68x19) 69 v69x21) 70 v70x22) 10 v10x23) 11 v70x22) 72 v72x26) 73 v73x27) 71 v73x27) 74 v74x29) 75 v75x30) 12 v74x29) 13 v75x30) 77 v77x31) 78 v78x32) 76 v78x32) 79 v79x34) 80 v80x35) 14 v79x34) 15 v80x35) 82 v82x36) 83 v83x37) 81 v83x37) 84 v84x39) 85 v85x40) 16 v84x39) 17 v85x40) 86 (σ18 1)) 87 v87x41) 88 v88x43) 18 v88x43) 90 v90x44) 91 v88x43) 92 v92x45) 89 v92x45) 93 v93x47) 94 v94x48) 95 v95x49) 19 v19x50) 20 v94x48) 21 v95x49) 97 v97x53) 98 v98x54) 96 v98x54) 99 v99x56) 100 v100x57) 22 v99x56) 23 v100x57) 102 v102x58) 103 v88x43) 104 v104x59) 101 v104x59) 105 v105x61) 106 v106x62) 107 v107x63) 24 v24x64) 25 v106x62) 26 v107x63) 108 v70x22) 109 v109x67) 110 v109x67) 111 v111x69) 112 v112x72) 113 v113x74) 114 v113x74) 115 v115x76) 116 v116x79) 117 v117x81) 118 v117x81) 119 v119x83) 120 v120x86) 121 v121x88) 122 v121x88) 123 v123x90) 124 v124x93) 125 v125x95) 126 v125x95) 127 v127x97) 128 v128x100) 129 v129x102) 130 v129x102) 131 v131x104) 132 v132x107) 133 v133x109) 134 v133x109) 135 v135x111) 136 v136x114) 137 v137x117) 138 v138x119) 139 v138x119) 140 v140x121) 141 v141x124) 142 v142x127) 143 v143x130) 144 v144x133) 145 v145x136) 146 v146x138) 147 v146x138) 148 v148x140) 149 v149x143) 150 v150x146) 151 v151x148) 152 v151x148) 153 v153x150) 154 v154x153) 155 v155x156) 156 v156x159) 157 v157x161) 158 v157x161) 159 v159x163) 160 v160x166) 161 v161x169) 162 v162x171) 163 v162x171) 164 v164x173) 165 v165x176) 166 v166x179) 167 v167x181) 168 v167x181) 169 v169x183) 170 v170x186) 171 v171x189) 172 v172x191) 173 v88x43) 27 v88x43) 28 (.int .i64 0)) H190)) fun J18 =>
  lpE (fun Q232 σ232 H232 =>
    ob (vFa 2 (σ232 7)) fun v48x233 =>
    ob (vLoad v48x233 H232) fun v49x234 =>
    ob (vLenSl v49x234) fun v50x235 =>
    ob (vInt .lss (σ232 9) v50x235) fun v51x236 =>
    cnd v51x236
      (ob (vFa 2 (σ232 8)) fun v54x237 =>
    ob (vLoad v54x237 H232) fun v55x238 =>
    ob (vFa 2 (σ232 7)) fun v56x239 =>
    ob (vLoad v56x239 H232) fun v57x240 =>
    ob (vIx 1 v57x240 (σ232 9)) fun v59x241 =>
    ob (vLoad v59x241 H232) fun v60x242 =>
    ob (vInt .sub (.int .i64 1) v60x242) fun v61x243 =>
    bS 1 1 #[(.int .i64 0)] 2 [(0, v61x243)] H232 fun v62x244 H245 =>
    apd 1 8 #[(.int .i64 0)] 2 v55x238 v62x244 H245 fun v63x246 H247 =>
    ob (vFa 2 (σ232 8)) fun v64x248 =>
    st 1 v64x248 v63x246 H247 fun H249 =>
    ob (vInt .add (σ232 9) (.int .i64 1)) fun v53x250 =>
    Q232 .normal (up (up (up (up (up (up (up (up (up (up (up (up (up (up (up (up (up (up (up σ232 47 (σ232 9)) 48 v48x233) 49 v49x234) 50 v50x235) 51 v51x236) 54 v54x237) 55 v55x238) 56 v56x239) 57 v57x240) 58 (σ232 9)) 59 v59x241) 60 v60x242) 61 v61x243) 62 v62x244) 63 v63x246) 64 v64x248) 52 (σ232 9)) 53 v53x250) 9 v53x250) H249)
      (Q232 (.exit 0) (up (up (up (up (up σ232 47 (σ232 9)) 48 v48x233) 49 v49x234) 50 v50x235) 51 v51x236) H232)) (blkQ 0 (thenQ J18 (retQ prg [(.tmp 4)] K))) (up (up (up (up (up (up (up (up (up (up (up (up (up (up (up (up (up (up (up (up (up (up (S0 [a0, a1]) 4 (.bool false)) 31 a0) 32 a1) 33 v33x1) 34 a1) 35 v35x3) 36 v36x5) 5 v36x5) 37 a1) 38 v38x6) 39 v39x8) 6 v39x8) 40 a0) 41 v36x5) 42 v39x8) 43 v43x9) 7 v7x11) 44 v36x5) 45 v39x8) 46 v46x14) 8 v8x15) 9 (.int .i64 0)) H17)
def O.laws_FnSpins : Nat → Nat × List Nat := fun i => bif Nat.beq i 10 then (0, [0, 1, 2, 3, 4, 5, 6, 7, 8, 9, 10, 11]) else (0, [])
theorem R.laws_FnSpins {a0 a1 : Value} {H : Hp} {K : Value → Hp → Prop} (h : F.laws_FnSpins a0 a1 H K) : HT prg I.laws_FnSpins [a0, a1].toArray H K :=
  HT_of_fev O.laws_FnSpins mixed Try.func3 (by kernel_rfl) (Eq.mpr (by kernel_rfl : fev prg O.laws_FnSpins Try.f3 [a0, a1] H K = F.laws_FnSpins a0 a1 H K) h)

end Go.Proofs.Ytkehomlkgcfjnaa
