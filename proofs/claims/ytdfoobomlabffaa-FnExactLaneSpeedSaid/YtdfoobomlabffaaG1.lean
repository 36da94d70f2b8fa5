/- Functions' texts over a partial heap. -/
import Derived.Test.YtdfoobomlabffaaG0
namespace Go.Proofs.Ytdfoobomlabffaa
open HL
set_option linter.unusedVariables false
set_option maxRecDepth 100000
set_option maxHeartbeats 4000000
/-! loop.example/g01381/spec.l00In: function 53 -/
def F.spec_l00In (a0 a1 a2 : Value) (H : Hp) (K : Value → Hp → Prop) : Prop :=
  ob (vInt .geq a0 a1) fun v9x1 =>
  gop v9x1 true (fun K2 => K2 a0 H) H fun v11x3 H4 =>
  gop v9x1 true (fun K5 => K5 a2 H4) H4 fun v12x6 H7 =>
  gop v9x1 true (fun K8 => ob (vInt .leq v11x3 v12x6) fun u => K8 u H7) H7 fun v13x9 H10 =>
  ob (vPick v9x1 v13x9 (.bool false)) fun v14x11 =>
  K v14x11 H10
def O.spec_l00In : Nat → Bool × List Nat := fun i => (false, [])
theorem R.spec_l00In {a0 a1 a2 : Value} {H : Hp} {K : Value → Hp → Prop} (h : F.spec_l00In a0 a1 a2 H K) : HT prg I.spec_l00In [a0, a1, a2].toArray H K :=
  HT_of_fev O.spec_l00In mixed Try.func53 (by kernel_rfl) (Eq.mpr (by kernel_rfl : fev prg O.spec_l00In Try.f53 [a0, a1, a2] H K = F.spec_l00In a0 a1 a2 H K) h)

/-! loop.example/g01381/spec.l06Lane: function 48 -/
def F.spec_l06Lane (a0 : Value) (H : Hp) (K : Value → Hp → Prop) : Prop :=
  jn (fun σ1 H1 =>
    ob (vLenSl (σ1 0)) fun v17x2 =>
    ob (vInt .geq v17x2 (.int .i64 1)) fun v18x3 =>
    gop v18x3 true (fun K4 => K4 (σ1 0) H1) H1 fun v20x5 H6 =>
    gop v18x3 true (fun K7 => ob (vLenSl v20x5) fun u => K7 u H6) H6 fun v21x8 H9 =>
    gop v18x3 true (fun K10 => ob (vInt .leq v21x8 (.int .i64 64)) fun u => K10 u H9) H9 fun v22x11 H12 =>
    ob (vPick v18x3 v22x11 (.bool false)) fun v23x13 =>
    K v23x13 H12) fun J1 =>
  lpE (fun Q14 σ14 H14 =>
    ob (vLenSl (σ14 0)) fun v6x15 =>
    ob (vInt .lss (σ14 3) v6x15) fun v7x16 =>
    cnd v7x16
      (ob (vIx 1 (σ14 0) (σ14 3)) fun v12x17 =>
    ob (vLoad v12x17 H14) fun v13x18 =>
    HT prg I.spec_l00In [v13x18, (.int .i64 (-1)), (.int .i64 5)].toArray H14 fun v14x19 H20 =>
    ob (vUn .not v14x19) fun v15x21 =>
    cnd v15x21
      (Q14 .ret (up (up (up (up (up (up (up (up (up (up (up σ14 4 (σ14 3)) 5 (σ14 0)) 6 v6x15) 7 v7x16) 10 (σ14 0)) 11 (σ14 3)) 12 v12x17) 13 v13x18) 14 v14x19) 15 v15x21) 2 (.bool false)) H20)
      (ob (vInt .add (σ14 3) (.int .i64 1)) fun v9x22 =>
    Q14 .normal (up (up (up (up (up (up (up (up (up (up (up (up (up σ14 4 (σ14 3)) 5 (σ14 0)) 6 v6x15) 7 v7x16) 10 (σ14 0)) 11 (σ14 3)) 12 v12x17) 13 v13x18) 14 v14x19) 15 v15x21) 8 (σ14 3)) 9 v9x22) 3 v9x22) H20))
      (Q14 (.exit 0) (up (up (up (up σ14 4 (σ14 3)) 5 (σ14 0)) 6 v6x15) 7 v7x16) H14)) (blkQ 0 (thenQ J1 (retQ prg [(.tmp 2)] K))) (up (up (S0 [a0]) 2 (.bool false)) 3 (.int .i64 0)) H
def O.spec_l06Lane : Nat → Bool × List Nat := fun i => (false, [])
theorem R.spec_l06Lane {a0 : Value} {H : Hp} {K : Value → Hp → Prop} (h : F.spec_l06Lane a0 H K) : HT prg I.spec_l06Lane [a0].toArray H K :=
  HT_of_fev O.spec_l06Lane mixed Try.func48 (by kernel_rfl) (Eq.mpr (by kernel_rfl : fev prg O.spec_l06Lane Try.f48 [a0] H K = F.spec_l06Lane a0 H K) h)

/-! loop.example/g01381/spec.IsLane: function 14 -/
def F.spec_IsLane (a0 : Value) (H : Hp) (K : Value → Hp → Prop) : Prop :=
  HT prg I.spec_l06Lane [a0].toArray H fun v4x1 H2 =>
  K v4x1 H2
def O.spec_IsLane : Nat → Bool × List Nat := fun i => (false, [])
theorem R.spec_IsLane {a0 : Value} {H : Hp} {K : Value → Hp → Prop} (h : F.spec_IsLane a0 H K) : HT prg I.spec_IsLane [a0].toArray H K :=
  HT_of_fev O.spec_IsLane mixed Try.func14 (by kernel_rfl) (Eq.mpr (by kernel_rfl : fev prg O.spec_IsLane Try.f14 [a0] H K = F.spec_IsLane a0 H K) h)

/-! loop.example/g01381/laws.toInt64S: function 15 -/
def F.laws_toInt64S (a0 : Value) (H : Hp) (K : Value → Hp → Prop) : Prop :=
  ob (vLenSl a0) fun v6x1 =>
  mkS 1 8 #[(.int .i64 0)] 2 v6x1 v6x1 H fun v7x2 H3 =>
  jn (fun σ4 H4 =>
    K (σ4 3) H4) fun J4 =>
  lpE (fun Q5 σ5 H5 =>
    ob (vLenSl (σ5 0)) fun v10x6 =>
    ob (vInt .lss (σ5 4) v10x6) fun v11x7 =>
    cnd v11x7
      (ob (vIx 1 (σ5 0) (σ5 4)) fun v18x8 =>
    ob (vLoad v18x8 H5) fun v19x9 =>
    ob (vIx 1 (σ5 3) (σ5 4)) fun v20x10 =>
    st 1 v20x10 v19x9 H5 fun H11 =>
    ob (vInt .add (σ5 4) (.int .i64 1)) fun v13x12 =>
    Q5 .normal (up (up (up (up (up (up (up (up (up (up (up (up (up (up σ5 8 (σ5 4)) 9 (σ5 0)) 10 v10x6) 11 v11x7) 14 (σ5 3)) 15 (σ5 4)) 16 (σ5 0)) 17 (σ5 4)) 18 v18x8) 19 v19x9) 20 v20x10) 12 (σ5 4)) 13 v13x12) 4 v13x12) H11)
      (Q5 (.exit 0) (up (up (up (up σ5 8 (σ5 4)) 9 (σ5 0)) 10 v10x6) 11 v11x7) H5)) (blkQ 0 (thenQ J4 (retQ prg [(.tmp 2)] K))) (up (up (up (up (up (up (S0 [a0]) 2 (.slice none 0 0)) 5 a0) 6 v6x1) 7 v7x2) 3 v7x2) 4 (.int .i64 0)) H3
def O.laws_toInt64S : Nat → Bool × List Nat := fun i => (false, [])
theorem R.laws_toInt64S {a0 : Value} {H : Hp} {K : Value → Hp → Prop} (h : F.laws_toInt64S a0 H K) : HT prg I.laws_toInt64S [a0].toArray H K :=
  HT_of_fev O.laws_toInt64S mixed Try.func15 (by kernel_rfl) (Eq.mpr (by kernel_rfl : fev prg O.laws_toInt64S Try.f15 [a0] H K = F.laws_toInt64S a0 H K) h)

/-! loop.example/g01381/impl.within: function 58 -/
def F.impl_within (a0 a1 a2 : Value) (H : Hp) (K : Value → Hp → Prop) : Prop :=
  ob (vInt .geq a0 a1) fun v9x1 =>
  gop v9x1 true (fun K2 => K2 a0 H) H fun v11x3 H4 =>
  gop v9x1 true (fun K5 => K5 a2 H4) H4 fun v12x6 H7 =>
  gop v9x1 true (fun K8 => ob (vInt .leq v11x3 v12x6) fun u => K8 u H7) H7 fun v13x9 H10 =>
  ob (vPick v9x1 v13x9 (.bool false)) fun v14x11 =>
  K v14x11 H10
def O.impl_within : Nat → Bool × List Nat := fun i => (false, [])
theorem R.impl_within {a0 a1 a2 : Value} {H : Hp} {K : Value → Hp → Prop} (h : F.impl_within a0 a1 a2 H K) : HT prg I.impl_within [a0, a1, a2].toArray H K :=
  HT_of_fev O.impl_within mixed Try.func58 (by kernel_rfl) (Eq.mpr (by kernel_rfl : fev prg O.impl_within Try.f58 [a0, a1, a2] H K = F.impl_within a0 a1 a2 H K) h)

/-! loop.example/g01381/impl.areWithin: function 90 -/
def F.impl_areWithin (a0 a1 a2 : Value) (H : Hp) (K : Value → Hp → Prop) : Prop :=
  jn (fun σ1 H1 =>
    K (.bool true) H1) fun J1 =>
  ob (vLenSl a0) fun v10x2 =>
  lpE (fun Q3 σ3 H3 =>
    ob (vInt .lss (σ3 11) (σ3 10)) fun v12x4 =>
    cnd v12x4
      (ob (vIx 1 (σ3 9) (σ3 11)) fun v13x5 =>
    ob (vLoad v13x5 H3) fun v14x6 =>
    HT prg I.impl_within [v14x6, (σ3 1), (σ3 2)].toArray H3 fun v18x7 H8 =>
    ob (vUn .not v18x7) fun v19x9 =>
    cnd v19x9
      (Q3 .ret (up (up (up (up (up (up (up (up (up (up σ3 12 v12x4) 13 v13x5) 14 v14x6) 8 v14x6) 15 v14x6) 16 (σ3 1)) 17 (σ3 2)) 18 v18x7) 19 v19x9) 6 (.bool false)) H8)
      (ob (vInt .add (σ3 11) (.int .i64 1)) fun v20x10 =>
    Q3 .normal (up (up (up (up (up (up (up (up (up (up (up σ3 12 v12x4) 13 v13x5) 14 v14x6) 8 v14x6) 15 v14x6) 16 (σ3 1)) 17 (σ3 2)) 18 v18x7) 19 v19x9) 20 v20x10) 11 v20x10) H8))
      (Q3 (.exit 0) (up σ3 12 v12x4) H3)) (blkQ 0 (thenQ J1 (retQ prg [(.tmp 6)] K))) (up (up (up (up (S0 [a0, a1, a2]) 6 (.bool false)) 9 a0) 10 v10x2) 11 (.int .i64 0)) H
def O.impl_areWithin : Nat → Bool × List Nat := fun i => (false, [])
theorem R.impl_areWithin {a0 a1 a2 : Value} {H : Hp} {K : Value → Hp → Prop} (h : F.impl_areWithin a0 a1 a2 H K) : HT prg I.impl_areWithin [a0, a1, a2].toArray H K :=
  HT_of_fev O.impl_areWithin mixed Try.func90 (by kernel_rfl) (Eq.mpr (by kernel_rfl : fev prg O.impl_areWithin Try.f90 [a0, a1, a2] H K = F.impl_areWithin a0 a1 a2 H K) h)

/-! loop.example/g01381/impl.areMany: function 49 -/
def F.impl_areMany (a0 a1 a2 a3 a4 : Value) (H : Hp) (K : Value → Hp → Prop) : Prop :=
  ob (vLenSl a0) fun v12x1 =>
  HT prg I.impl_within [v12x1, a1, a2].toArray H fun v15x2 H3 =>
  gop v15x2 true (fun K4 => K4 a0 H3) H3 fun v17x5 H6 =>
  gop v15x2 true (fun K7 => K7 a3 H6) H6 fun v18x8 H9 =>
  gop v15x2 true (fun K10 => K10 a4 H9) H9 fun v19x11 H12 =>
  gop v15x2 true (fun K13 => HT prg I.impl_areWithin [v17x5, v18x8, v19x11].toArray H12 K13) H12 fun v20x14 H15 =>
  ob (vPick v15x2 v20x14 (.bool false)) fun v21x16 =>
  K v21x16 H15
def O.impl_areMany : Nat → Bool × List Nat := fun i => (false, [])
theorem R.impl_areMany {a0 a1 a2 a3 a4 : Value} {H : Hp} {K : Value → Hp → Prop} (h : F.impl_areMany a0 a1 a2 a3 a4 H K) : HT prg I.impl_areMany [a0, a1, a2, a3, a4].toArray H K :=
  HT_of_fev O.impl_areMany mixed Try.func49 (by kernel_rfl) (Eq.mpr (by kernel_rfl : fev prg O.impl_areMany Try.f49 [a0, a1, a2, a3, a4] H K = F.impl_areMany a0 a1 a2 a3 a4 H K) h)

/-! loop.example/g01381/impl.IsLane: function 16 -/
def F.impl_IsLane (a0 : Value) (H : Hp) (K : Value → Hp → Prop) : Prop :=
  HT prg I.impl_areMany [a0, (.int .i64 1), (.int .i64 64), (.int .i64 (-1)), (.int .i64 5)].toArray H fun v4x1 H2 =>
  K v4x1 H2
def O.impl_IsLane : Nat → Bool × List Nat := fun i => (false, [])
theorem R.impl_IsLane {a0 : Value} {H : Hp} {K : Value → Hp → Prop} (h : F.impl_IsLane a0 H K) : HT prg I.impl_IsLane [a0].toArray H K :=
  HT_of_fev O.impl_IsLane mixed Try.func16 (by kernel_rfl) (Eq.mpr (by kernel_rfl : fev prg O.impl_IsLane Try.f16 [a0] H K = F.impl_IsLane a0 H K) h)

/-! loop.example/g01381/laws.eqInt64S: function 17 -/
def F.laws_eqInt64S (a0 a1 : Value) (H : Hp) (K : Value → Hp → Prop) : Prop :=
  ob (vLenSl a0) fun v7x1 =>
  ob (vLenSl a1) fun v9x2 =>
  ob (vInt .neq v7x1 v9x2) fun v10x3 =>
  cnd v10x3
    (K (.bool false) H)
    (jn (fun σ4 H4 =>
    K (.bool true) H4) fun J4 =>
  lpE (fun Q5 σ5 H5 =>
    ob (vLenSl (σ5 0)) fun v13x6 =>
    ob (vInt .lss (σ5 5) v13x6) fun v14x7 =>
    cnd v14x7
      (ob (vIx 1 (σ5 0) (σ5 5)) fun v19x8 =>
    ob (vLoad v19x8 H5) fun v20x9 =>
    ob (vIx 1 (σ5 1) (σ5 5)) fun v23x10 =>
    ob (vLoad v23x10 H5) fun v24x11 =>
    ob (vInt .neq v20x9 v24x11) fun v25x12 =>
    cnd v25x12
      (Q5 .ret (up (up (up (up (up (up (up (up (up (up (up (up (up (up σ5 11 (σ5 5)) 12 (σ5 0)) 13 v13x6) 14 v14x7) 17 (σ5 0)) 18 (σ5 5)) 19 v19x8) 20 v20x9) 21 (σ5 1)) 22 (σ5 5)) 23 v23x10) 24 v24x11) 25 v25x12) 4 (.bool false)) H5)
      (ob (vInt .add (σ5 5) (.int .i64 1)) fun v16x13 =>
    Q5 .normal (up (up (up (up (up (up (up (up (up (up (up (up (up (up (up (up σ5 11 (σ5 5)) 12 (σ5 0)) 13 v13x6) 14 v14x7) 17 (σ5 0)) 18 (σ5 5)) 19 v19x8) 20 v20x9) 21 (σ5 1)) 22 (σ5 5)) 23 v23x10) 24 v24x11) 25 v25x12) 15 (σ5 5)) 16 v16x13) 5 v16x13) H5))
      (Q5 (.exit 0) (up (up (up (up σ5 11 (σ5 5)) 12 (σ5 0)) 13 v13x6) 14 v14x7) H5)) (blkQ 0 (thenQ J4 (retQ prg [(.tmp 4)] K))) (up (up (up (up (up (up (up (S0 [a0, a1]) 4 (.bool false)) 6 a0) 7 v7x1) 8 a1) 9 v9x2) 10 v10x3) 5 (.int .i64 0)) H)
def O.laws_eqInt64S : Nat → Bool × List Nat := fun i => bif Nat.beq i 6 then (false, [0, 1, 2, 3, 4, 5, 6, 7, 8]) else (false, [])
theorem R.laws_eqInt64S {a0 a1 : Value} {H : Hp} {K : Value → Hp → Prop} (h : F.laws_eqInt64S a0 a1 H K) : HT prg I.laws_eqInt64S [a0, a1].toArray H K :=
  HT_of_fev O.laws_eqInt64S mixed Try.func17 (by kernel_rfl) (Eq.mpr (by kernel_rfl : fev prg O.laws_eqInt64S Try.f17 [a0, a1] H K = F.laws_eqInt64S a0 a1 H K) h)

/-! loop.example/g01381/laws.FnExactIsLane: function 3 -/
def F.laws_FnExactIsLane (a0 : Value) (H : Hp) (K : Value → Hp → Prop) : Prop :=
  ob (vLenSl a0) fun v7x1 =>
  ob (vInt .gtr v7x1 (.int .i64 1048576)) fun v8x2 =>
  cnd v8x2
    (K (.bool true) H)
    (HT prg I.laws_toInt64S [a0].toArray H fun v10x3 H4 =>
  HT prg I.spec_IsLane [v10x3].toArray H4 fun v11x5 H6 =>
  HT prg I.laws_toInt64S [a0].toArray H6 fun v13x7 H8 =>
  HT prg I.impl_IsLane [v13x7].toArray H8 fun v15x9 H10 =>
  ob (vBool .neq v15x9 v11x5) fun v18x11 =>
  cnd v18x11
    (K (.bool false) H10)
    (HT prg I.laws_toInt64S [a0].toArray H10 fun v21x12 H13 =>
  HT prg I.laws_eqInt64S [v13x7, v21x12].toArray H13 fun v22x14 H15 =>
  ob (vUn .not v22x14) fun v23x16 =>
  cnd v23x16
    (K (.bool false) H15)
    (K (.bool true) H15)))
def O.laws_FnExactIsLane : Nat → Bool × List Nat := fun i => (false, [])
theorem R.laws_FnExactIsLane {a0 : Value} {H : Hp} {K : Value → Hp → Prop} (h : F.laws_FnExactIsLane a0 H K) : HT prg I.laws_FnExactIsLane [a0].toArray H K :=
  HT_of_fev O.laws_FnExactIsLane mixed Try.func3 (by kernel_rfl) (Eq.mpr (by kernel_rfl : fev prg O.laws_FnExactIsLane Try.f3 [a0] H K = F.laws_FnExactIsLane a0 H K) h)

/-! loop.example/g01381/spec.LaneSpeed: function 18 -/
def F.spec_LaneSpeed (a0 : Value) (H : Hp) (K : Value → Hp → Prop) : Prop :=
  HT prg I.spec_l06Lane [a0].toArray H fun v8x1 H2 =>
  ob (vUn .not v8x1) fun v9x3 =>
  cnd v9x3
    (K (.tuple #[(.float .f32 0), (.bool false)]) H2)
    (jn (fun σ4 H4 =>
    ob (vInt .eql (σ4 5) (.int .i64 0)) fun v30x5 =>
    cnd v30x5
      (K (.tuple #[(.float .f32 0), (.bool false)]) H4)
      (ob (vCF .f32 (σ4 4)) fun v32x6 =>
    ob (vCF .f32 (σ4 5)) fun v34x7 =>
    fA .quo v32x6 v34x7 H4 fun v35x8 H9 =>
    K (.tuple #[v35x8, (.bool true)]) H9)) fun J4 =>
  lpE (fun Q10 σ10 H10 =>
    ob (vLenSl (σ10 0)) fun v12x11 =>
    ob (vInt .lss (σ10 6) v12x11) fun v13x12 =>
    cnd v13x12
      (jn (fun σ13 H13 =>
      ob (vInt .add (σ13 6) (.int .i64 1)) fun v15x14 =>
      Q10 .normal (up (up (up σ13 14 (σ13 6)) 15 v15x14) 6 v15x14) H13) fun J13 =>
    ob (vIx 1 (σ10 0) (σ10 6)) fun v18x15 =>
    ob (vLoad v18x15 H10) fun v19x16 =>
    ob (vInt .geq v19x16 (.int .i64 0)) fun v20x17 =>
    cnd v20x17
      (ob (vIx 1 (σ10 0) (σ10 6)) fun v24x18 =>
      ob (vLoad v24x18 H10) fun v25x19 =>
      ob (vInt .add (σ10 4) v25x19) fun v26x20 =>
      ob (vInt .add (σ10 5) (.int .i64 1)) fun v28x21 =>
      J13 (up (up (up (up (up (up (up (up (up (up (up (up (up (up (up (up (up (up (up σ10 10 (σ10 6)) 11 (σ10 0)) 12 v12x11) 13 v13x12) 16 (σ10 0)) 17 (σ10 6)) 18 v18x15) 19 v19x16) 20 v20x17) 21 (σ10 4)) 22 (σ10 0)) 23 (σ10 6)) 24 v24x18) 25 v25x19) 26 v26x20) 4 v26x20) 27 (σ10 5)) 28 v28x21) 5 v28x21) H10)
      (J13 (up (up (up (up (up (up (up (up (up σ10 10 (σ10 6)) 11 (σ10 0)) 12 v12x11) 13 v13x12) 16 (σ10 0)) 17 (σ10 6)) 18 v18x15) 19 v19x16) 20 v20x17) H10))
      (Q10 (.exit 0) (up (up (up (up σ10 10 (σ10 6)) 11 (σ10 0)) 12 v12x11) 13 v13x12) H10)) (blkQ 0 (thenQ J4 (retQ prg [(.tmp 2), (.tmp 3)] K))) (up (up (up (up (up (up (up (up (S0 [a0]) 2 (.float .f32 0)) 3 (.bool false)) 7 a0) 8 v8x1) 9 v9x3) 4 (.int .i64 0)) 5 (.int .i64 0)) 6 (.int .i64 0)) H2)
def O.spec_LaneSpeed : Nat → Bool × List Nat := fun i => (false, [])
theorem R.spec_LaneSpeed {a0 : Value} {H : Hp} {K : Value → Hp → Prop} (h : F.spec_LaneSpeed a0 H K) : HT prg I.spec_LaneSpeed [a0].toArray H K :=
  HT_of_fev O.spec_LaneSpeed mixed Try.func18 (by kernel_rfl) (Eq.mpr (by kernel_rfl : fev prg O.spec_LaneSpeed Try.f18 [a0] H K = F.spec_LaneSpeed a0 H K) h)

/-! loop.example/g01381/impl.LaneSpeed: function 19 -/
def F.impl_LaneSpeed (a0 : Value) (H : Hp) (K : Value → Hp → Prop) : Prop :=
  HT prg I.impl_IsLane [a0].toArray H fun v9x1 H2 =>
  ob (vUn .not v9x1) fun v10x3 =>
  cnd v10x3
    (K (.tuple #[(.float .f32 0), (.bool false)]) H2)
    (jn (fun σ4 H4 =>
    ob (vInt .eql (σ4 5) (.int .i64 0)) fun v26x5 =>
    cnd v26x5
      (K (.tuple #[(.float .f32 0), (.bool false)]) H4)
      (ob (vCF .f32 (σ4 4)) fun v28x6 =>
    ob (vCF .f32 (σ4 5)) fun v30x7 =>
    fA .quo v28x6 v30x7 H4 fun v31x8 H9 =>
    K (.tuple #[v31x8, (.bool true)]) H9)) fun J4 =>
  ob (vLenSl a0) fun v12x10 =>
  lpE (fun Q11 σ11 H11 =>
    ob (vInt .lss (σ11 13) (σ11 12)) fun v14x12 =>
    cnd v14x12
      (jn (fun σ13 H13 =>
      ob (vInt .add (σ13 13) (.int .i64 1)) fun v24x14 =>
      Q11 .normal (up (up σ13 24 v24x14) 13 v24x14) H13) fun J13 =>
    ob (vIx 1 (σ11 11) (σ11 13)) fun v15x15 =>
    ob (vLoad v15x15 H11) fun v16x16 =>
    ob (vInt .geq v16x16 (.int .i64 0)) fun v18x17 =>
    cnd v18x17
      (ob (vInt .add (σ11 4) v16x16) fun v21x18 =>
      ob (vInt .add (σ11 5) (.int .i64 1)) fun v23x19 =>
      J13 (up (up (up (up (up (up (up (up (up (up (up (up (up σ11 14 v14x12) 15 v15x15) 16 v16x16) 7 v16x16) 17 v16x16) 18 v18x17) 19 (σ11 4)) 20 v16x16) 21 v21x18) 4 v21x18) 22 (σ11 5)) 23 v23x19) 5 v23x19) H11)
      (J13 (up (up (up (up (up (up σ11 14 v14x12) 15 v15x15) 16 v16x16) 7 v16x16) 17 v16x16) 18 v18x17) H11))
      (Q11 (.exit 0) (up σ11 14 v14x12) H11)) (blkQ 0 (thenQ J4 (retQ prg [(.tmp 2), (.tmp 3)] K))) (up (up (up (up (up (up (up (up (up (up (S0 [a0]) 2 (.float .f32 0)) 3 (.bool false)) 8 a0) 9 v9x1) 10 v10x3) 4 (.int .i64 0)) 5 (.int .i64 0)) 11 a0) 12 v12x10) 13 (.int .i64 0)) H2)
def O.impl_LaneSpeed : Nat → Bool × List Nat := fun i => (false, [])
theorem R.impl_LaneSpeed {a0 : Value} {H : Hp} {K : Value → Hp → Prop} (h : F.impl_LaneSpeed a0 H K) : HT prg I.impl_LaneSpeed [a0].toArray H K :=
  HT_of_fev O.impl_LaneSpeed mixed Try.func19 (by kernel_rfl) (Eq.mpr (by kernel_rfl : fev prg O.impl_LaneSpeed Try.f19 [a0] H K = F.impl_LaneSpeed a0 H K) h)

/-! loop.example/g01381/laws.sameFloat: function 20 -/
def F.laws_sameFloat (a0 a1 : Value) (H : Hp) (K : Value → Hp → Prop) : Prop :=
  ob (vFcmp .neq a0 a0) fun v7x1 =>
  gop v7x1 false (fun K2 => K2 a1 H) H fun v9x3 H4 =>
  gop v7x1 false (fun K5 => K5 a1 H4) H4 fun v10x6 H7 =>
  gop v7x1 false (fun K8 => ob (vFcmp .neq v9x3 v10x6) fun u => K8 u H7) H7 fun v11x9 H10 =>
  ob (vPick v7x1 (.bool true) v11x9) fun v12x11 =>
  cnd v12x11
    (ob (vFcmp .neq a0 a0) fun v15x12 =>
    gop v15x12 true (fun K13 => K13 a1 H10) H10 fun v17x14 H15 =>
    gop v15x12 true (fun K16 => K16 a1 H15) H15 fun v18x17 H18 =>
    gop v15x12 true (fun K19 => ob (vFcmp .neq v17x14 v18x17) fun u => K19 u H18) H18 fun v19x20 H21 =>
    ob (vPick v15x12 v19x20 (.bool false)) fun v20x22 =>
    K v20x22 H21)
    (ob (vFcmp .eql a0 (.float .f64 0)) fun v22x23 =>
  gop v22x23 true (fun K24 => K24 a1 H10) H10 fun v24x25 H26 =>
  gop v22x23 true (fun K27 => ob (vFcmp .eql v24x25 (.float .f64 0)) fun u => K27 u H26) H26 fun v25x28 H29 =>
  ob (vPick v22x23 v25x28 (.bool false)) fun v26x30 =>
  cnd v26x30
    (fA .quo (.float .f64 4607182418800017408) a0 H29 fun v28x31 H32 =>
    ob (vFcmp .gtr v28x31 (.float .f64 0)) fun v29x33 =>
    fA .quo (.float .f64 4607182418800017408) a1 H32 fun v31x34 H35 =>
    ob (vFcmp .gtr v31x34 (.float .f64 0)) fun v32x36 =>
    ob (vBool .eql v29x33 v32x36) fun v33x37 =>
    K v33x37 H35)
    (ob (vFcmp .eql a0 a1) fun v36x38 =>
  K v36x38 H29))
def O.laws_sameFloat : Nat → Bool × List Nat := fun i => (false, [])
theorem R.laws_sameFloat {a0 a1 : Value} {H : Hp} {K : Value → Hp → Prop} (h : F.laws_sameFloat a0 a1 H K) : HT prg I.laws_sameFloat [a0, a1].toArray H K :=
  HT_of_fev O.laws_sameFloat mixed Try.func20 (by kernel_rfl) (Eq.mpr (by kernel_rfl : fev prg O.laws_sameFloat Try.f20 [a0, a1] H K = F.laws_sameFloat a0 a1 H K) h)

/-! loop.example/g01381/laws.FnExactLaneSpeed: function 4 -/
def F.laws_FnExactLaneSpeed (a0 : Value) (H : Hp) (K : Value → Hp → Prop) : Prop :=
  ob (vLenSl a0) fun v9x1 =>
  ob (vInt .gtr v9x1 (.int .i64 1048576)) fun v10x2 =>
  cnd v10x2
    (K (.bool true) H)
    (HT prg I.laws_toInt64S [a0].toArray H fun v13x3 H4 =>
  HT prg I.spec_LaneSpeed [v13x3].toArray H4 fun v14x5 H6 =>
  ob (vExt v14x5 0) fun v15x7 =>
  ob (vExt v14x5 1) fun v16x8 =>
  HT prg I.laws_toInt64S [a0].toArray H6 fun v18x9 H10 =>
  HT prg I.impl_LaneSpeed [v18x9].toArray H10 fun v21x11 H12 =>
  ob (vExt v21x11 0) fun v22x13 =>
  ob (vExt v21x11 1) fun v23x14 =>
  fC .f64 v22x13 H12 fun v25x15 H16 =>
  fC .f64 v15x7 H16 fun v27x17 H18 =>
  HT prg I.laws_sameFloat [v25x15, v27x17].toArray H18 fun v28x19 H20 =>
  ob (vUn .not v28x19) fun v29x21 =>
  gop v29x21 false (fun K22 => K22 v23x14 H20) H20 fun v31x23 H24 =>
  gop v29x21 false (fun K25 => K25 v16x8 H24) H24 fun v32x26 H27 =>
  gop v29x21 false (fun K28 => ob (vBool .neq v31x23 v32x26) fun u => K28 u H27) H27 fun v33x29 H30 =>
  ob (vPick v29x21 (.bool true) v33x29) fun v34x31 =>
  cnd v34x31
    (K (.bool false) H30)
    (HT prg I.laws_toInt64S [a0].toArray H30 fun v37x32 H33 =>
  HT prg I.laws_eqInt64S [v18x9, v37x32].toArray H33 fun v38x34 H35 =>
  ob (vUn .not v38x34) fun v39x36 =>
  cnd v39x36
    (K (.bool false) H35)
    (K (.bool true) H35)))
def O.laws_FnExactLaneSpeed : Nat → Bool × List Nat := fun i => (false, [])
theorem R.laws_FnExactLaneSpeed {a0 : Value} {H : Hp} {K : Value → Hp → Prop} (h : F.laws_FnExactLaneSpeed a0 H K) : HT prg I.laws_FnExactLaneSpeed [a0].toArray H K :=
  HT_of_fev O.laws_FnExactLaneSpeed mixed Try.func4 (by kernel_rfl) (Eq.mpr (by kernel_rfl : fev prg O.laws_FnExactLaneSpeed Try.f4 [a0] H K = F.laws_FnExactLaneSpeed a0 H K) h)

/-! loop.example/g01381/spec.l06Changes: function 50 -/
def F.spec_l06Changes (a0 a1 a2 : Value) (H : Hp) (K : Value → Hp → Prop) : Prop :=
  ob (vLenSl a0) fun v9x1 =>
  ob (vIx 1 a0 a2) fun v12x2 =>
  ob (vLoad v12x2 H) fun v13x3 =>
  ob (vInt .geq v13x3 (.int .i64 0)) fun v14x4 =>
  gop v14x4 true (fun K5 => K5 a0 H) H fun v16x6 H7 =>
  gop v14x4 true (fun K8 => K8 a2 H7) H7 fun v17x9 H10 =>
  gop v14x4 true (fun K11 => ob (vInt .add v17x9 (.int .i64 1)) fun u => K11 u H10) H10 fun v18x12 H13 =>
  gop v14x4 true (fun K14 => K14 v9x1 H13) H13 fun v19x15 H16 =>
  gop v14x4 true (fun K17 => ob (vInt .rem v18x12 v19x15) fun u => K17 u H16) H16 fun v20x18 H19 =>
  gop v14x4 true (fun K20 => ob (vIx 1 v16x6 v20x18) fun u => K20 u H19) H19 fun v21x21 H22 =>
  gop v14x4 true (fun K23 => ob (vLoad v21x21 H22) fun u => K23 u H22) H22 fun v22x24 H25 =>
  gop v14x4 true (fun K26 => ob (vInt .geq v22x24 (.int .i64 0)) fun u => K26 u H25) H25 fun v23x27 H28 =>
  ob (vPick v14x4 v23x27 (.bool false)) fun v24x29 =>
  gop v24x29 true (fun K30 => K30 a1 H28) H28 fun v26x31 H32 =>
  gop v24x29 true (fun K33 => K33 a2 H32) H32 fun v27x34 H35 =>
  gop v24x29 true (fun K36 => ob (vIx 1 v26x31 v27x34) fun u => K36 u H35) H35 fun v28x37 H38 =>
  gop v24x29 true (fun K39 => ob (vLoad v28x37 H38) fun u => K39 u H38) H38 fun v29x40 H41 =>
  gop v24x29 true (fun K42 => ob (vInt .lss v29x40 (.int .i64 0)) fun u => K42 u H41) H41 fun v30x43 H44 =>
  ob (vPick v24x29 v30x43 (.bool false)) fun v31x45 =>
  gop v31x45 true (fun K46 => K46 a1 H44) H44 fun v33x47 H48 =>
  gop v31x45 true (fun K49 => K49 a2 H48) H48 fun v34x50 H51 =>
  gop v31x45 true (fun K52 => ob (vInt .add v34x50 (.int .i64 1)) fun u => K52 u H51) H51 fun v35x53 H54 =>
  gop v31x45 true (fun K55 => K55 v9x1 H54) H54 fun v36x56 H57 =>
  gop v31x45 true (fun K58 => ob (vInt .rem v35x53 v36x56) fun u => K58 u H57) H57 fun v37x59 H60 =>
  gop v31x45 true (fun K61 => ob (vIx 1 v33x47 v37x59) fun u => K61 u H60) H60 fun v38x62 H63 =>
  gop v31x45 true (fun K64 => ob (vLoad v38x62 H63) fun u => K64 u H63) H63 fun v39x65 H66 =>
  gop v31x45 true (fun K67 => ob (vInt .lss v39x65 (.int .i64 0)) fun u => K67 u H66) H66 fun v40x68 H69 =>
  ob (vPick v31x45 v40x68 (.bool false)) fun v41x70 =>
  gop v41x70 true (fun K71 => K71 a1 H69) H69 fun v43x72 H73 =>
  gop v41x70 true (fun K74 => K74 a2 H73) H73 fun v44x75 H76 =>
  gop v41x70 true (fun K77 => K77 v9x1 H76) H76 fun v45x78 H79 =>
  gop v41x70 true (fun K80 => ob (vInt .add v44x75 v45x78) fun u => K80 u H79) H79 fun v46x81 H82 =>
  gop v41x70 true (fun K83 => ob (vInt .sub v46x81 (.int .i64 1)) fun u => K83 u H82) H82 fun v47x84 H85 =>
  gop v41x70 true (fun K86 => K86 v9x1 H85) H85 fun v48x87 H88 =>
  gop v41x70 true (fun K89 => ob (vInt .rem v47x84 v48x87) fun u => K89 u H88) H88 fun v49x90 H91 =>
  gop v41x70 true (fun K92 => ob (vIx 1 v43x72 v49x90) fun u => K92 u H91) H91 fun v50x93 H94 =>
  gop v41x70 true (fun K95 => ob (vLoad v50x93 H94) fun u => K95 u H94) H94 fun v51x96 H97 =>
  gop v41x70 true (fun K98 => ob (vInt .lss v51x96 (.int .i64 0)) fun u => K98 u H97) H97 fun v52x99 H100 =>
  ob (vPick v41x70 v52x99 (.bool false)) fun v53x101 =>
  K v53x101 H100
def O.spec_l06Changes : Nat → Bool × List Nat := fun i => (false, [])
theorem R.spec_l06Changes {a0 a1 a2 : Value} {H : Hp} {K : Value → Hp → Prop} (h : F.spec_l06Changes a0 a1 a2 H K) : HT prg I.spec_l06Changes [a0, a1, a2].toArray H K :=
  HT_of_fev O.spec_l06Changes mixed Try.func50 (by kernel_rfl) (Eq.mpr (by kernel_rfl : fev prg O.spec_l06Changes Try.f50 [a0, a1, a2] H K = F.spec_l06Changes a0 a1 a2 H K) h)

/-! loop.example/g01381/spec.SwitchLanes: function 21 -/
def F.spec_SwitchLanes (a0 a1 : Value) (H : Hp) (K : Value → Hp → Prop) : Prop :=
  HT prg I.spec_l06Lane [a0].toArray H fun v11x1 H2 =>
  ob (vUn .not v11x1) fun v12x3 =>
  gop v12x3 false (fun K4 => K4 a1 H2) H2 fun v14x5 H6 =>
  gop v12x3 false (fun K7 => HT prg I.spec_l06Lane [v14x5].toArray H6 K7) H6 fun v15x8 H9 =>
  gop v12x3 false (fun K10 => ob (vUn .not v15x8) fun u => K10 u H9) H9 fun v16x11 H12 =>
  ob (vPick v12x3 (.bool true) v16x11) fun v17x13 =>
  gop v17x13 false (fun K14 => K14 a0 H12) H12 fun v19x15 H16 =>
  gop v17x13 false (fun K17 => ob (vLenSl v19x15) fun u => K17 u H16) H16 fun v20x18 H19 =>
  gop v17x13 false (fun K20 => K20 a1 H19) H19 fun v21x21 H22 =>
  gop v17x13 false (fun K23 => ob (vLenSl v21x21) fun u => K23 u H22) H22 fun v22x24 H25 =>
  gop v17x13 false (fun K26 => ob (vInt .neq v20x18 v22x24) fun u => K26 u H25) H25 fun v23x27 H28 =>
  ob (vPick v17x13 (.bool true) v23x27) fun v24x29 =>
  cnd v24x29
    (K (.tuple #[(.slice none 0 0), (.slice none 0 0), (.bool false)]) H28)
    (bS 1 0 #[(.int .i64 0)] 2 [] H28 fun v25x30 H31 =>
  apd 1 8 #[(.int .i64 0)] 2 v25x30 a0 H31 fun v27x32 H33 =>
  bS 1 0 #[(.int .i64 0)] 2 [] H33 fun v28x34 H35 =>
  apd 1 8 #[(.int .i64 0)] 2 v28x34 a1 H35 fun v30x36 H37 =>
  jn (fun σ38 H38 =>
    K (.tuple #[(σ38 7), (σ38 8), (.bool true)]) H38) fun J38 =>
  lpE (fun Q39 σ39 H39 =>
    ob (vLenSl (σ39 0)) fun v33x40 =>
    ob (vInt .lss (σ39 9) v33x40) fun v34x41 =>
    cnd v34x41
      (jn (fun σ42 H42 =>
      ob (vInt .add (σ42 9) (.int .i64 1)) fun v36x43 =>
      Q39 .normal (up (up (up σ42 35 (σ42 9)) 36 v36x43) 9 v36x43) H42) fun J42 =>
    jn (fun σ44 H44 =>
      HT prg I.spec_l06Changes [(σ44 1), (σ44 0), (σ44 9)].toArray H44 fun v54x45 H46 =>
      cnd v54x45
        (ob (vIx 1 (σ44 8) (σ44 9)) fun v57x47 =>
        st 1 v57x47 (.int .i64 (-1)) H46 fun H48 =>
        ob (vIx 1 (σ44 1) (σ44 9)) fun v62x49 =>
        ob (vLoad v62x49 H48) fun v63x50 =>
        ob (vIx 1 (σ44 7) (σ44 9)) fun v64x51 =>
        st 1 v64x51 v63x50 H48 fun H52 =>
        J42 (up (up (up (up (up (up (up (up (up (up (up (up (up (up σ44 51 (σ44 1)) 52 (σ44 0)) 53 (σ44 9)) 54 v54x45) 55 (σ44 8)) 56 (σ44 9)) 57 v57x47) 58 (σ44 7)) 59 (σ44 9)) 60 (σ44 1)) 61 (σ44 9)) 62 v62x49) 63 v63x50) 64 v64x51) H52)
        (J42 (up (up (up (up σ44 51 (σ44 1)) 52 (σ44 0)) 53 (σ44 9)) 54 v54x45) H46)) fun J44 =>
    HT prg I.spec_l06Changes [(σ39 0), (σ39 1), (σ39 9)].toArray H39 fun v40x53 H54 =>
    cnd v40x53
      (ob (vIx 1 (σ39 7) (σ39 9)) fun v43x55 =>
      st 1 v43x55 (.int .i64 (-1)) H54 fun H56 =>
      ob (vIx 1 (σ39 0) (σ39 9)) fun v48x57 =>
      ob (vLoad v48x57 H56) fun v49x58 =>
      ob (vIx 1 (σ39 8) (σ39 9)) fun v50x59 =>
      st 1 v50x59 v49x58 H56 fun H60 =>
      J44 (up (up (up (up (up (up (up (up (up (up (up (up (up (up (up (up (up (up σ39 31 (σ39 9)) 32 (σ39 0)) 33 v33x40) 34 v34x41) 37 (σ39 0)) 38 (σ39 1)) 39 (σ39 9)) 40 v40x53) 41 (σ39 7)) 42 (σ39 9)) 43 v43x55) 44 (σ39 8)) 45 (σ39 9)) 46 (σ39 0)) 47 (σ39 9)) 48 v48x57) 49 v49x58) 50 v50x59) H60)
      (J44 (up (up (up (up (up (up (up (up σ39 31 (σ39 9)) 32 (σ39 0)) 33 v33x40) 34 v34x41) 37 (σ39 0)) 38 (σ39 1)) 39 (σ39 9)) 40 v40x53) H54))
      (Q39 (.exit 0) (up (up (up (up σ39 31 (σ39 9)) 32 (σ39 0)) 33 v33x40) 34 v34x41) H39)) (blkQ 0 (thenQ J38 (retQ prg [(.tmp 4), (.tmp 5), (.tmp 6)] K))) (up (up (up (up (up (up (up (up (up (up (up (up (up (up (up (up (up (up (up (up (up (up (up (up (up (up (up (S0 [a0, a1]) 4 (.slice none 0 0)) 5 (.slice none 0 0)) 6 (.bool false)) 10 a0) 11 v11x1) 12 v12x3) 13 v12x3) 14 v14x5) 15 v15x8) 16 v16x11) 17 v17x13) 18 v17x13) 19 v19x15) 20 v20x18) 21 v21x21) 22 v22x24) 23 v23x27) 24 v24x29) 25 v25x30) 26 a0) 27 v27x32) 7 v27x32) 28 v28x34) 29 a1) 30 v30x36) 8 v30x36) 9 (.int .i64 0)) H37)
def O.spec_SwitchLanes : Nat → Bool × List Nat := fun i => (false, [])
theorem R.spec_SwitchLanes {a0 a1 : Value} {H : Hp} {K : Value → Hp → Prop} (h : F.spec_SwitchLanes a0 a1 H K) : HT prg I.spec_SwitchLanes [a0, a1].toArray H K :=
  HT_of_fev O.spec_SwitchLanes mixed Try.func21 (by kernel_rfl) (Eq.mpr (by kernel_rfl : fev prg O.spec_SwitchLanes Try.f21 [a0, a1] H K = F.spec_SwitchLanes a0 a1 H K) h)

/-! loop.example/g01381/impl.SwitchLanes$1: function 51 -/
def F.impl_SwitchLanes_1 (a0 a1 a2 a3 : Value) (H : Hp) (K : Value → Hp → Prop) : Prop :=
  ob (vIx 1 a0 a2) fun v10x1 =>
  ob (vLoad v10x1 H) fun v11x2 =>
  ob (vInt .geq v11x2 (.int .i64 0)) fun v12x3 =>
  gop v12x3 true (fun K4 => K4 a0 H) H fun v14x5 H6 =>
  gop v12x3 true (fun K7 => K7 a2 H6) H6 fun v15x8 H9 =>
  gop v12x3 true (fun K10 => ob (vInt .add v15x8 (.int .i64 1)) fun u => K10 u H9) H9 fun v16x11 H12 =>
  gop v12x3 true (fun K13 => ob (vLoad a3 H12) fun u => K13 u H12) H12 fun v17x14 H15 =>
  gop v12x3 true (fun K16 => ob (vInt .rem v16x11 v17x14) fun u => K16 u H15) H15 fun v18x17 H18 =>
  gop v12x3 true (fun K19 => ob (vIx 1 v14x5 v18x17) fun u => K19 u H18) H18 fun v19x20 H21 =>
  gop v12x3 true (fun K22 => ob (vLoad v19x20 H21) fun u => K22 u H21) H21 fun v20x23 H24 =>
  gop v12x3 true (fun K25 => ob (vInt .geq v20x23 (.int .i64 0)) fun u => K25 u H24) H24 fun v21x26 H27 =>
  ob (vPick v12x3 v21x26 (.bool false)) fun v22x28 =>
  gop v22x28 true (fun K29 => K29 a1 H27) H27 fun v24x30 H31 =>
  gop v22x28 true (fun K32 => K32 a2 H31) H31 fun v25x33 H34 =>
  gop v22x28 true (fun K35 => ob (vIx 1 v24x30 v25x33) fun u => K35 u H34) H34 fun v26x36 H37 =>
  gop v22x28 true (fun K38 => ob (vLoad v26x36 H37) fun u => K38 u H37) H37 fun v27x39 H40 =>
  gop v22x28 true (fun K41 => ob (vInt .lss v27x39 (.int .i64 0)) fun u => K41 u H40) H40 fun v28x42 H43 =>
  ob (vPick v22x28 v28x42 (.bool false)) fun v29x44 =>
  gop v29x44 true (fun K45 => K45 a1 H43) H43 fun v31x46 H47 =>
  gop v29x44 true (fun K48 => K48 a2 H47) H47 fun v32x49 H50 =>
  gop v29x44 true (fun K51 => ob (vLoad a3 H50) fun u => K51 u H50) H50 fun v33x52 H53 =>
  gop v29x44 true (fun K54 => ob (vInt .add v32x49 v33x52) fun u => K54 u H53) H53 fun v34x55 H56 =>
  gop v29x44 true (fun K57 => ob (vInt .sub v34x55 (.int .i64 1)) fun u => K57 u H56) H56 fun v35x58 H59 =>
  gop v29x44 true (fun K60 => ob (vLoad a3 H59) fun u => K60 u H59) H59 fun v36x61 H62 =>
  gop v29x44 true (fun K63 => ob (vInt .rem v35x58 v36x61) fun u => K63 u H62) H62 fun v37x64 H65 =>
  gop v29x44 true (fun K66 => ob (vIx 1 v31x46 v37x64) fun u => K66 u H65) H65 fun v38x67 H68 =>
  gop v29x44 true (fun K69 => ob (vLoad v38x67 H68) fun u => K69 u H68) H68 fun v39x70 H71 =>
  gop v29x44 true (fun K72 => ob (vInt .lss v39x70 (.int .i64 0)) fun u => K72 u H71) H71 fun v40x73 H74 =>
  ob (vPick v29x44 v40x73 (.bool false)) fun v41x75 =>
  gop v41x75 true (fun K76 => K76 a1 H74) H74 fun v43x77 H78 =>
  gop v41x75 true (fun K79 => K79 a2 H78) H78 fun v44x80 H81 =>
  gop v41x75 true (fun K82 => ob (vInt .add v44x80 (.int .i64 1)) fun u => K82 u H81) H81 fun v45x83 H84 =>
  gop v41x75 true (fun K85 => ob (vLoad a3 H84) fun u => K85 u H84) H84 fun v46x86 H87 =>
  gop v41x75 true (fun K88 => ob (vInt .rem v45x83 v46x86) fun u => K88 u H87) H87 fun v47x89 H90 =>
  gop v41x75 true (fun K91 => ob (vIx 1 v43x77 v47x89) fun u => K91 u H90) H90 fun v48x92 H93 =>
  gop v41x75 true (fun K94 => ob (vLoad v48x92 H93) fun u => K94 u H93) H93 fun v49x95 H96 =>
  gop v41x75 true (fun K97 => ob (vInt .lss v49x95 (.int .i64 0)) fun u => K97 u H96) H96 fun v50x98 H99 =>
  ob (vPick v41x75 v50x98 (.bool false)) fun v51x100 =>
  K v51x100 H99
def O.impl_SwitchLanes_1 : Nat → Bool × List Nat := fun i => (false, [])
theorem R.impl_SwitchLanes_1 {a0 a1 a2 a3 : Value} {H : Hp} {K : Value → Hp → Prop} (h : F.impl_SwitchLanes_1 a0 a1 a2 a3 H K) : HT prg I.impl_SwitchLanes_1 [a0, a1, a2, a3].toArray H K :=
  HT_of_fev O.impl_SwitchLanes_1 mixed Try.func51 (by kernel_rfl) (Eq.mpr (by kernel_rfl : fev prg O.impl_SwitchLanes_1 Try.f51 [a0, a1, a2, a3] H K = F.impl_SwitchLanes_1 a0 a1 a2 a3 H K) h)

/-! slices.Clone[[]int64,int64]: function 52 -/
def F.slices_Clone_int64Zint64 (a0 : Value) (H : Hp) (K : Value → Hp → Prop) : Prop :=
  ob (vSlEq .eql a0 (.slice none 0 0)) fun v4x1 =>
  cnd v4x1
    (K (.slice none 0 0) H)
    (bS 1 0 #[(.int .i64 0)] 2 [] H fun v5x2 H3 =>
  apd 1 8 #[(.int .i64 0)] 2 v5x2 a0 H3 fun v7x4 H5 =>
  K v7x4 H5)
def O.slices_Clone_int64Zint64 : Nat → Bool × List Nat := fun i => (false, [])
theorem R.slices_Clone_int64Zint64 {a0 : Value} {H : Hp} {K : Value → Hp → Prop} (h : F.slices_Clone_int64Zint64 a0 H K) : HT prg I.slices_Clone_int64Zint64 [a0].toArray H K :=
  HT_of_fev O.slices_Clone_int64Zint64 mixed Try.func52 (by kernel_rfl) (Eq.mpr (by kernel_rfl : fev prg O.slices_Clone_int64Zint64 Try.f52 [a0] H K = F.slices_Clone_int64Zint64 a0 H K) h)

/-! loop.example/g01381/impl.SwitchLanes: function 22 -/
def F.impl_SwitchLanes (a0 a1 : Value) (H : Hp) (K : Value → Hp → Prop) : Prop :=
  HT prg I.impl_IsLane [a0].toArray H fun v13x1 H2 =>
  ob (vUn .not v13x1) fun v14x3 =>
  gop v14x3 false (fun K4 => K4 a1 H2) H2 fun v16x5 H6 =>
  gop v14x3 false (fun K7 => HT prg I.impl_IsLane [v16x5].toArray H6 K7) H6 fun v17x8 H9 =>
  gop v14x3 false (fun K10 => ob (vUn .not v17x8) fun u => K10 u H9) H9 fun v18x11 H12 =>
  ob (vPick v14x3 (.bool true) v18x11) fun v19x13 =>
  gop v19x13 false (fun K14 => K14 a0 H12) H12 fun v21x15 H16 =>
  gop v19x13 false (fun K17 => ob (vLenSl v21x15) fun u => K17 u H16) H16 fun v22x18 H19 =>
  gop v19x13 false (fun K20 => K20 a1 H19) H19 fun v23x21 H22 =>
  gop v19x13 false (fun K23 => ob (vLenSl v23x21) fun u => K23 u H22) H22 fun v24x24 H25 =>
  gop v19x13 false (fun K26 => ob (vInt .neq v22x18 v24x24) fun u => K26 u H25) H25 fun v25x27 H28 =>
  ob (vPick v19x13 (.bool true) v25x27) fun v26x29 =>
  cnd v26x29
    (K (.tuple #[(.slice none 0 0), (.slice none 0 0), (.bool false)]) H28)
    (ob (vLenSl a0) fun v28x30 =>
  nw #[(.int .i64 0)] 3 H28 fun v7x31 H32 =>
  st 1 v7x31 v28x30 H32 fun H33 =>
  HT prg I.slices_Clone_int64Zint64 [a0].toArray H33 fun v31x34 H35 =>
  HT prg I.slices_Clone_int64Zint64 [a1].toArray H35 fun v33x36 H37 =>
  jn (fun σ38 H38 =>
    K (.tuple #[(σ38 9), (σ38 10), (.bool true)]) H38) fun J38 =>
  ob (vLoad v7x31 H37) fun v34x39 =>
  lpE (fun Q40 σ40 H40 =>
    ob (vInt .lss (σ40 35) (σ40 34)) fun v36x41 =>
    cnd v36x41
      (jn (fun σ42 H42 =>
      ob (vInt .add (σ42 35) (.int .i64 1)) fun v64x43 =>
      Q40 .normal (up (up σ42 64 v64x43) 35 v64x43) H42) fun J42 =>
    callV prg (σ40 8) [(σ40 0), (σ40 1), (σ40 35)] H40 fun v42x44 H45 =>
    gop v42x44 false (fun K46 => K46 (σ40 8) H45) H45 fun v44x47 H48 =>
    gop v42x44 false (fun K49 => K49 (σ40 1) H48) H48 fun v45x50 H51 =>
    gop v42x44 false (fun K52 => K52 (σ40 0) H51) H51 fun v46x53 H54 =>
    gop v42x44 false (fun K55 => K55 (σ40 35) H54) H54 fun v47x56 H57 =>
    gop v42x44 false (fun K58 => callV prg v44x47 [v45x50, v46x53, v47x56] H57 K58) H57 fun v48x59 H60 =>
    ob (vPick v42x44 (.bool true) v48x59) fun v49x61 =>
    cnd v49x61
      (ob (vIx 1 (σ40 1) (σ40 35)) fun v56x62 =>
      ob (vLoad v56x62 H60) fun v57x63 =>
      ob (vIx 1 (σ40 0) (σ40 35)) fun v60x64 =>
      ob (vLoad v60x64 H60) fun v61x65 =>
      ob (vIx 1 (σ40 9) (σ40 35)) fun v62x66 =>
      st 1 v62x66 v57x63 H60 fun H67 =>
      ob (vIx 1 (σ40 10) (σ40 35)) fun v63x68 =>
      st 1 v63x68 v61x65 H67 fun H69 =>
      J42 (up (up (up (up (up (up (up (up (up (up (up (up (up (up (up (up (up (up (up (up (up (up (up (up (up (up (up (up (up σ40 36 v36x41) 37 (σ40 35)) 11 (σ40 35)) 38 (σ40 8)) 39 (σ40 0)) 40 (σ40 1)) 41 (σ40 35)) 42 v42x44) 43 v42x44) 44 v44x47) 45 v45x50) 46 v46x53) 47 v47x56) 48 v48x59) 49 v49x61) 50 (σ40 9)) 51 (σ40 35)) 52 (σ40 10)) 53 (σ40 35)) 54 (σ40 1)) 55 (σ40 35)) 56 v56x62) 57 v57x63) 58 (σ40 0)) 59 (σ40 35)) 60 v60x64) 61 v61x65) 62 v62x66) 63 v63x68) H69)
      (J42 (up (up (up (up (up (up (up (up (up (up (up (up (up (up (up σ40 36 v36x41) 37 (σ40 35)) 11 (σ40 35)) 38 (σ40 8)) 39 (σ40 0)) 40 (σ40 1)) 41 (σ40 35)) 42 v42x44) 43 v42x44) 44 v44x47) 45 v45x50) 46 v46x53) 47 v47x56) 48 v48x59) 49 v49x61) H60))
      (Q40 (.exit 0) (up σ40 36 v36x41) H40)) (blkQ 0 (thenQ J38 (retQ prg [(.tmp 4), (.tmp 5), (.tmp 6)] K))) (up (up (up (up (up (up (up (up (up (up (up (up (up (up (up (up (up (up (up (up (up (up (up (up (up (up (up (up (up (up (up (S0 [a0, a1]) 4 (.slice none 0 0)) 5 (.slice none 0 0)) 6 (.bool false)) 12 a0) 13 v13x1) 14 v14x3) 15 v14x3) 16 v16x5) 17 v17x8) 18 v18x11) 19 v19x13) 20 v19x13) 21 v21x15) 22 v22x18) 23 v23x21) 24 v24x24) 25 v25x27) 26 v26x29) 27 a0) 28 v28x30) 7 v7x31) 29 (.func (.func I.impl_SwitchLanes_1) #[] #[v7x31])) 8 (.func (.func I.impl_SwitchLanes_1) #[] #[v7x31])) 30 a0) 31 v31x34) 32 a1) 33 v33x36) 9 v31x34) 10 v33x36) 34 v34x39) 35 (.int .i64 0)) H37)
def O.impl_SwitchLanes : Nat → Bool × List Nat := fun i => bif Nat.beq i 10 then (false, [0, 1, 2, 3, 4, 5, 6, 7, 8, 9, 10, 11, 12, 13, 14, 15]) else (false, [])
theorem R.impl_SwitchLanes {a0 a1 : Value} {H : Hp} {K : Value → Hp → Prop} (h : F.impl_SwitchLanes a0 a1 H K) : HT prg I.impl_SwitchLanes [a0, a1].toArray H K :=
  HT_of_fev O.impl_SwitchLanes mixed Try.func22 (by kernel_rfl) (Eq.mpr (by kernel_rfl : fev prg O.impl_SwitchLanes Try.f22 [a0, a1] H K = F.impl_SwitchLanes a0 a1 H K) h)

/-! loop.example/g01381/laws.markInt64S: function 23 -/
def F.laws_markInt64S (a0 a1 : Value) (H : Hp) (K : Value → Hp → Prop) : Prop :=
  jn (fun σ1 H1 =>
    K (σ1 1) H1) fun J1 =>
  lpE (fun Q2 σ2 H2 =>
    ob (vLenSl (σ2 0)) fun v8x3 =>
    ob (vInt .lss (σ2 5) v8x3) fun v9x4 =>
    cnd v9x4
      (ob (vIx 1 (σ2 0) (σ2 5)) fun v15x5 =>
    st 1 v15x5 (σ2 1) H2 fun H6 =>
    ob (vInt .add (σ2 1) (.int .i64 1)) fun v17x7 =>
    ob (vInt .add (σ2 5) (.int .i64 1)) fun v11x8 =>
    Q2 .normal (up (up (up (up (up (up (up (up (up (up (up (up (up (up σ2 6 (σ2 5)) 7 (σ2 0)) 8 v8x3) 9 v9x4) 12 (σ2 0)) 13 (σ2 5)) 14 (σ2 1)) 15 v15x5) 16 (σ2 1)) 17 v17x7) 1 v17x7) 10 (σ2 5)) 11 v11x8) 5 v11x8) H6)
      (Q2 (.exit 0) (up (up (up (up σ2 6 (σ2 5)) 7 (σ2 0)) 8 v8x3) 9 v9x4) H2)) (blkQ 0 (thenQ J1 (retQ prg [(.tmp 4)] K))) (up (up (S0 [a0, a1]) 4 (.int .i64 0)) 5 (.int .i64 0)) H
def O.laws_markInt64S : Nat → Bool × List Nat := fun i => (false, [])
theorem R.laws_markInt64S {a0 a1 : Value} {H : Hp} {K : Value → Hp → Prop} (h : F.laws_markInt64S a0 a1 H K) : HT prg I.laws_markInt64S [a0, a1].toArray H K :=
  HT_of_fev O.laws_markInt64S mixed Try.func23 (by kernel_rfl) (Eq.mpr (by kernel_rfl : fev prg O.laws_markInt64S Try.f23 [a0, a1] H K = F.laws_markInt64S a0 a1 H K) h)

/-! loop.example/g01381/laws.heldInt64S: function 24 -/
def F.laws_heldInt64S (a0 a1 : Value) (H : Hp) (K : Value → Hp → Prop) : Prop :=
  jn (fun σ1 H1 =>
    K (σ1 1) H1) fun J1 =>
  lpE (fun Q2 σ2 H2 =>
    ob (vLenSl (σ2 0)) fun v8x3 =>
    ob (vInt .lss (σ2 5) v8x3) fun v9x4 =>
    cnd v9x4
      (ob (vIx 1 (σ2 0) (σ2 5)) fun v14x5 =>
    ob (vLoad v14x5 H2) fun v15x6 =>
    ob (vInt .neq v15x6 (σ2 1)) fun v17x7 =>
    cnd v17x7
      (Q2 .ret (up (up (up (up (up (up (up (up (up (up (up σ2 6 (σ2 5)) 7 (σ2 0)) 8 v8x3) 9 v9x4) 12 (σ2 0)) 13 (σ2 5)) 14 v14x5) 15 v15x6) 16 (σ2 1)) 17 v17x7) 4 (.int .i64 (-1))) H2)
      (ob (vInt .add (σ2 1) (.int .i64 1)) fun v19x8 =>
    ob (vInt .add (σ2 5) (.int .i64 1)) fun v11x9 =>
    Q2 .normal (up (up (up (up (up (up (up (up (up (up (up (up (up (up (up (up σ2 6 (σ2 5)) 7 (σ2 0)) 8 v8x3) 9 v9x4) 12 (σ2 0)) 13 (σ2 5)) 14 v14x5) 15 v15x6) 16 (σ2 1)) 17 v17x7) 18 (σ2 1)) 19 v19x8) 1 v19x8) 10 (σ2 5)) 11 v11x9) 5 v11x9) H2))
      (Q2 (.exit 0) (up (up (up (up σ2 6 (σ2 5)) 7 (σ2 0)) 8 v8x3) 9 v9x4) H2)) (blkQ 0 (thenQ J1 (retQ prg [(.tmp 4)] K))) (up (up (S0 [a0, a1]) 4 (.int .i64 0)) 5 (.int .i64 0)) H
def O.laws_heldInt64S : Nat → Bool × List Nat := fun i => (false, [])
theorem R.laws_heldInt64S {a0 a1 : Value} {H : Hp} {K : Value → Hp → Prop} (h : F.laws_heldInt64S a0 a1 H K) : HT prg I.laws_heldInt64S [a0, a1].toArray H K :=
  HT_of_fev O.laws_heldInt64S mixed Try.func24 (by kernel_rfl) (Eq.mpr (by kernel_rfl : fev prg O.laws_heldInt64S Try.f24 [a0, a1] H K = F.laws_heldInt64S a0 a1 H K) h)

/-! loop.example/g01381/laws.FnExactSwitchLanes: function 5 -/
def F.laws_FnExactSwitchLanes (a0 a1 : Value) (H : Hp) (K : Value → Hp → Prop) : Prop :=
  ob (vLenSl a0) fun v20x1 =>
  ob (vInt .gtr v20x1 (.int .i64 1048576)) fun v21x2 =>
  cnd v21x2
    (K (.bool true) H)
    (ob (vLenSl a1) fun v23x3 =>
  ob (vInt .gtr v23x3 (.int .i64 1048576)) fun v24x4 =>
  cnd v24x4
    (K (.bool true) H)
    (HT prg I.laws_toInt64S [a0].toArray H fun v27x5 H6 =>
  HT prg I.laws_toInt64S [a1].toArray H6 fun v29x7 H8 =>
  HT prg I.spec_SwitchLanes [v27x5, v29x7].toArray H8 fun v30x9 H10 =>
  ob (vExt v30x9 0) fun v31x11 =>
  ob (vExt v30x9 1) fun v32x12 =>
  ob (vExt v30x9 2) fun v33x13 =>
  HT prg I.laws_toInt64S [a0].toArray H10 fun v35x14 H15 =>
  HT prg I.laws_toInt64S [a1].toArray H15 fun v37x16 H17 =>
  HT prg I.impl_SwitchLanes [v35x14, v37x16].toArray H17 fun v41x18 H19 =>
  ob (vExt v41x18 0) fun v42x20 =>
  ob (vExt v41x18 1) fun v43x21 =>
  ob (vExt v41x18 2) fun v44x22 =>
  HT prg I.laws_eqInt64S [v42x20, v31x11].toArray H19 fun v47x23 H24 =>
  ob (vUn .not v47x23) fun v48x25 =>
  gop v48x25 false (fun K26 => K26 v43x21 H24) H24 fun v50x27 H28 =>
  gop v48x25 false (fun K29 => K29 v32x12 H28) H28 fun v51x30 H31 =>
  gop v48x25 false (fun K32 => HT prg I.laws_eqInt64S [v50x27, v51x30].toArray H31 K32) H31 fun v52x33 H34 =>
  gop v48x25 false (fun K35 => ob (vUn .not v52x33) fun u => K35 u H34) H34 fun v53x36 H37 =>
  ob (vPick v48x25 (.bool true) v53x36) fun v54x38 =>
  gop v54x38 false (fun K39 => K39 v44x22 H37) H37 fun v56x40 H41 =>
  gop v54x38 false (fun K42 => K42 v33x13 H41) H41 fun v57x43 H44 =>
  gop v54x38 false (fun K45 => ob (vBool .neq v56x40 v57x43) fun u => K45 u H44) H44 fun v58x46 H47 =>
  ob (vPick v54x38 (.bool true) v58x46) fun v59x48 =>
  cnd v59x48
    (K (.bool false) H47)
    (HT prg I.laws_toInt64S [a0].toArray H47 fun v62x49 H50 =>
  HT prg I.laws_eqInt64S [v35x14, v62x49].toArray H50 fun v63x51 H52 =>
  ob (vUn .not v63x51) fun v64x53 =>
  cnd v64x53
    (K (.bool false) H52)
    (HT prg I.laws_toInt64S [a1].toArray H52 fun v67x54 H55 =>
  HT prg I.laws_eqInt64S [v37x16, v67x54].toArray H55 fun v68x56 H57 =>
  ob (vUn .not v68x56) fun v69x58 =>
  cnd v69x58
    (K (.bool false) H57)
    (HT prg I.laws_markInt64S [v35x14, (.int .i64 1)].toArray H57 fun v72x59 H60 =>
  HT prg I.laws_markInt64S [v37x16, v72x59].toArray H60 fun v75x61 H62 =>
  ob (vInt .lss v75x61 (.int .i64 0)) fun v77x63 =>
  gop v77x63 false (fun K64 => K64 v42x20 H62) H62 fun v79x65 H66 =>
  gop v77x63 false (fun K67 => K67 v31x11 H66) H66 fun v80x68 H69 =>
  gop v77x63 false (fun K70 => HT prg I.laws_eqInt64S [v79x65, v80x68].toArray H69 K70) H69 fun v81x71 H72 =>
  gop v77x63 false (fun K73 => ob (vUn .not v81x71) fun u => K73 u H72) H72 fun v82x74 H75 =>
  ob (vPick v77x63 (.bool true) v82x74) fun v83x76 =>
  gop v83x76 false (fun K77 => K77 v43x21 H75) H75 fun v85x78 H79 =>
  gop v83x76 false (fun K80 => K80 v32x12 H79) H79 fun v86x81 H82 =>
  gop v83x76 false (fun K83 => HT prg I.laws_eqInt64S [v85x78, v86x81].toArray H82 K83) H82 fun v87x84 H85 =>
  gop v83x76 false (fun K86 => ob (vUn .not v87x84) fun u => K86 u H85) H85 fun v88x87 H88 =>
  ob (vPick v83x76 (.bool true) v88x87) fun v89x89 =>
  gop v89x89 false (fun K90 => K90 v44x22 H88) H88 fun v91x91 H92 =>
  gop v89x89 false (fun K93 => K93 v33x13 H92) H92 fun v92x94 H95 =>
  gop v89x89 false (fun K96 => ob (vBool .neq v91x91 v92x94) fun u => K96 u H95) H95 fun v93x97 H98 =>
  ob (vPick v89x89 (.bool true) v93x97) fun v94x99 =>
  cnd v94x99
    (K (.bool false) H98)
    (HT prg I.laws_markInt64S [v42x20, (.int .i64 1)].toArray H98 fun v97x100 H101 =>
  HT prg I.laws_markInt64S [v43x21, v97x100].toArray H101 fun v100x102 H103 =>
  HT prg I.laws_heldInt64S [v42x20, (.int .i64 1)].toArray H103 fun v103x104 H105 =>
  ob (vInt .lss v103x104 (.int .i64 0)) fun v105x106 =>
  cnd v105x106
    (K (.bool false) H105)
    (HT prg I.laws_heldInt64S [v43x21, v103x104].toArray H105 fun v108x107 H108 =>
  ob (vInt .lss v108x107 (.int .i64 0)) fun v110x109 =>
  cnd v110x109
    (K (.bool false) H108)
    (ob (vInt .neq v108x107 v100x102) fun v113x110 =>
  cnd v113x110
    (K (.bool false) H108)
    (HT prg I.laws_toInt64S [a0].toArray H108 fun v116x111 H112 =>
  HT prg I.laws_toInt64S [a1].toArray H112 fun v118x113 H114 =>
  HT prg I.impl_SwitchLanes [v116x111, v118x113].toArray H114 fun v119x115 H116 =>
  ob (vExt v119x115 0) fun v120x117 =>
  ob (vExt v119x115 1) fun v121x118 =>
  ob (vExt v119x115 2) fun v122x119 =>
  HT prg I.laws_eqInt64S [v120x117, v31x11].toArray H116 fun v125x120 H121 =>
  ob (vUn .not v125x120) fun v126x122 =>
  gop v126x122 false (fun K123 => K123 v121x118 H121) H121 fun v128x124 H125 =>
  gop v126x122 false (fun K126 => K126 v32x12 H125) H125 fun v129x127 H128 =>
  gop v126x122 false (fun K129 => HT prg I.laws_eqInt64S [v128x124, v129x127].toArray H128 K129) H128 fun v130x130 H131 =>
  gop v126x122 false (fun K132 => ob (vUn .not v130x130) fun u => K132 u H131) H131 fun v131x133 H134 =>
  ob (vPick v126x122 (.bool true) v131x133) fun v132x135 =>
  gop v132x135 false (fun K136 => K136 v122x119 H134) H134 fun v134x137 H138 =>
  gop v132x135 false (fun K139 => K139 v33x13 H138) H138 fun v135x140 H141 =>
  gop v132x135 false (fun K142 => ob (vBool .neq v134x137 v135x140) fun u => K142 u H141) H141 fun v136x143 H144 =>
  ob (vPick v132x135 (.bool true) v136x143) fun v137x145 =>
  cnd v137x145
    (K (.bool false) H144)
    (HT prg I.laws_heldInt64S [v42x20, (.int .i64 1)].toArray H144 fun v140x146 H147 =>
  ob (vInt .lss v140x146 (.int .i64 0)) fun v142x148 =>
  cnd v142x148
    (K (.bool false) H147)
    (HT prg I.laws_heldInt64S [v43x21, v140x146].toArray H147 fun v145x149 H150 =>
  ob (vInt .lss v145x149 (.int .i64 0)) fun v147x151 =>
  cnd v147x151
    (K (.bool false) H150)
    (ob (vInt .neq v145x149 v100x102) fun v150x152 =>
  cnd v150x152
    (K (.bool false) H150)
    (K (.bool true) H150)))))))))))))
def O.laws_FnExactSwitchLanes : Nat → Bool × List Nat := fun i => (false, [])
theorem R.laws_FnExactSwitchLanes {a0 a1 : Value} {H : Hp} {K : Value → Hp → Prop} (h : F.laws_FnExactSwitchLanes a0 a1 H K) : HT prg I.laws_FnExactSwitchLanes [a0, a1].toArray H K :=
  HT_of_fev O.laws_FnExactSwitchLanes mixed Try.func5 (by kernel_rfl) (Eq.mpr (by kernel_rfl : fev prg O.laws_FnExactSwitchLanes Try.f5 [a0, a1] H K = F.laws_FnExactSwitchLanes a0 a1 H K) h)

/-! loop.example/g01381/spec.l02Share: function 54 -/
def F.spec_l02Share (a0 : Value) (H : Hp) (K : Value → Hp → Prop) : Prop :=
  ob (vFcmp .geq a0 (.float .f32 0)) fun v4x1 =>
  gop v4x1 true (fun K2 => K2 a0 H) H fun v6x3 H4 =>
  gop v4x1 true (fun K5 => ob (vFcmp .leq v6x3 (.float .f32 1065353216)) fun u => K5 u H4) H4 fun v7x6 H7 =>
  ob (vPick v4x1 v7x6 (.bool false)) fun v8x8 =>
  K v8x8 H7
def O.spec_l02Share : Nat → Bool × List Nat := fun i => (false, [])
theorem R.spec_l02Share {a0 : Value} {H : Hp} {K : Value → Hp → Prop} (h : F.spec_l02Share a0 H K) : HT prg I.spec_l02Share [a0].toArray H K :=
  HT_of_fev O.spec_l02Share mixed Try.func54 (by kernel_rfl) (Eq.mpr (by kernel_rfl : fev prg O.spec_l02Share Try.f54 [a0] H K = F.spec_l02Share a0 H K) h)

/-! loop.example/g01381/spec.l00Min: function 55 -/
def F.spec_l00Min (a0 a1 : Value) (H : Hp) (K : Value → Hp → Prop) : Prop :=
  ob (vInt .lss a0 a1) fun v7x1 =>
  cnd v7x1
    (K a0 H)
    (K a1 H)
def O.spec_l00Min : Nat → Bool × List Nat := fun i => (false, [])
theorem R.spec_l00Min {a0 a1 : Value} {H : Hp} {K : Value → Hp → Prop} (h : F.spec_l00Min a0 a1 H K) : HT prg I.spec_l00Min [a0, a1].toArray H K :=
  HT_of_fev O.spec_l00Min mixed Try.func55 (by kernel_rfl) (Eq.mpr (by kernel_rfl : fev prg O.spec_l00Min Try.f55 [a0, a1] H K = F.spec_l00Min a0 a1 H K) h)

/-! loop.example/g01381/spec.l06Free: function 56 -/
def F.spec_l06Free (a0 a1 : Value) (H : Hp) (K : Value → Hp → Prop) : Prop :=
  ob (vLenSl a0) fun v9x1 =>
  jn (fun σ2 H2 =>
    K (σ2 6) H2) fun J2 =>
  ob (vInt .add a1 (.int .i64 1)) fun v11x3 =>
  ob (vInt .rem v11x3 v9x1) fun v13x4 =>
  lpE (fun Q5 σ5 H5 =>
    ob (vInt .neq (σ5 7) (σ5 1)) fun v16x6 =>
    gop v16x6 true (fun K7 => K7 (σ5 0) H5) H5 fun v18x8 H9 =>
    gop v16x6 true (fun K10 => K10 (σ5 7) H9) H9 fun v19x11 H12 =>
    gop v16x6 true (fun K13 => ob (vIx 1 v18x8 v19x11) fun u => K13 u H12) H12 fun v20x14 H15 =>
    gop v16x6 true (fun K16 => ob (vLoad v20x14 H15) fun u => K16 u H15) H15 fun v21x17 H18 =>
    gop v16x6 true (fun K19 => ob (vInt .lss v21x17 (.int .i64 0)) fun u => K19 u H18) H18 fun v22x20 H21 =>
    ob (vPick v16x6 v22x20 (.bool false)) fun v23x22 =>
    cnd v23x22
      (ob (vInt .add (σ5 6) (.int .i64 1)) fun v29x23 =>
    ob (vInt .add (σ5 7) (.int .i64 1)) fun v25x24 =>
    ob (vInt .rem v25x24 (σ5 5)) fun v27x25 =>
    Q5 .normal (up (up (up (up (up (up (up (up (up (up (up (up (up (up (up (up (up (up σ5 14 (σ5 7)) 15 (σ5 1)) 16 v16x6) 17 v16x6) 18 v18x8) 19 v19x11) 20 v20x14) 21 v21x17) 22 v22x20) 23 v23x22) 28 (σ5 6)) 29 v29x23) 6 v29x23) 24 (σ5 7)) 25 v25x24) 26 (σ5 5)) 27 v27x25) 7 v27x25) H21)
      (Q5 (.exit 0) (up (up (up (up (up (up (up (up (up (up σ5 14 (σ5 7)) 15 (σ5 1)) 16 v16x6) 17 v16x6) 18 v18x8) 19 v19x11) 20 v20x14) 21 v21x17) 22 v22x20) 23 v23x22) H21)) (blkQ 0 (thenQ J2 (retQ prg [(.tmp 4)] K))) (up (up (up (up (up (up (up (up (up (up (S0 [a0, a1]) 4 (.int .i64 0)) 8 a0) 9 v9x1) 5 v9x1) 6 (.int .i64 0)) 10 a1) 11 v11x3) 12 v9x1) 13 v13x4) 7 v13x4) H
def O.spec_l06Free : Nat → Bool × List Nat := fun i => (false, [])
theorem R.spec_l06Free {a0 a1 : Value} {H : Hp} {K : Value → Hp → Prop} (h : F.spec_l06Free a0 a1 H K) : HT prg I.spec_l06Free [a0, a1].toArray H K :=
  HT_of_fev O.spec_l06Free mixed Try.func56 (by kernel_rfl) (Eq.mpr (by kernel_rfl : fev prg O.spec_l06Free Try.f56 [a0, a1] H K = F.spec_l06Free a0 a1 H K) h)

/-! loop.example/g01381/spec.l06Seed: function 57 -/
def F.spec_l06Seed (a0 : Value) (H : Hp) (K : Value → Hp → Prop) : Prop :=
  ob (vInt .mul (.int .i64 1664525) a0) fun v5x1 =>
  ob (vInt .add v5x1 (.int .i64 1013904223)) fun v6x2 =>
  ob (vInt .rem v6x2 (.int .i64 4294967296)) fun v7x3 =>
  ob (vInt .quo v7x3 (.int .i64 256)) fun v10x4 =>
  ob (vCF .f32 v10x4) fun v11x5 =>
  fA .quo v11x5 (.float .f32 1266679808) H fun v12x6 H7 =>
  K (.tuple #[v7x3, v12x6]) H7
def O.spec_l06Seed : Nat → Bool × List Nat := fun i => (false, [])
theorem R.spec_l06Seed {a0 : Value} {H : Hp} {K : Value → Hp → Prop} (h : F.spec_l06Seed a0 H K) : HT prg I.spec_l06Seed [a0].toArray H K :=
  HT_of_fev O.spec_l06Seed mixed Try.func57 (by kernel_rfl) (Eq.mpr (by kernel_rfl : fev prg O.spec_l06Seed Try.f57 [a0] H K = F.spec_l06Seed a0 H K) h)

/-! loop.example/g01381/spec.LaneStep: function 25 -/
def F.spec_LaneStep (a0 a1 a2 a3 : Value) (H : Hp) (K : Value → Hp → Prop) : Prop :=
  HT prg I.spec_l06Lane [a0].toArray H fun v18x1 H2 =>
  ob (vUn .not v18x1) fun v19x3 =>
  gop v19x3 false (fun K4 => K4 a1 H2) H2 fun v21x5 H6 =>
  gop v19x3 false (fun K7 => HT prg I.spec_l00In [v21x5, (.int .i64 1), (.int .i64 5)].toArray H6 K7) H6 fun v22x8 H9 =>
  gop v19x3 false (fun K10 => ob (vUn .not v22x8) fun u => K10 u H9) H9 fun v23x11 H12 =>
  ob (vPick v19x3 (.bool true) v23x11) fun v24x13 =>
  gop v24x13 false (fun K14 => K14 a2 H12) H12 fun v26x15 H16 =>
  gop v24x13 false (fun K17 => HT prg I.spec_l02Share [v26x15].toArray H16 K17) H16 fun v27x18 H19 =>
  gop v24x13 false (fun K20 => ob (vUn .not v27x18) fun u => K20 u H19) H19 fun v28x21 H22 =>
  ob (vPick v24x13 (.bool true) v28x21) fun v29x23 =>
  gop v29x23 false (fun K24 => K24 a3 H22) H22 fun v31x25 H26 =>
  gop v29x23 false (fun K27 => HT prg I.spec_l00In [v31x25, (.int .i64 0), (.int .i64 4294967295)].toArray H26 K27) H26 fun v32x28 H29 =>
  gop v29x23 false (fun K30 => ob (vUn .not v32x28) fun u => K30 u H29) H29 fun v33x31 H32 =>
  ob (vPick v29x23 (.bool true) v33x31) fun v34x33 =>
  cnd v34x33
    (K (.tuple #[(.slice none 0 0), (.int .i64 0), (.bool false)]) H32)
    (bS 1 0 #[(.int .i64 0)] 2 [] H32 fun v35x34 H35 =>
  jn (fun σ36 H36 =>
    jn (fun σ37 H37 =>
      K (.tuple #[(σ37 11), (σ37 3), (.bool true)]) H37) fun J37 =>
    lpE (fun Q38 σ38 H38 =>
      ob (vLenSl (σ38 0)) fun v47x39 =>
      ob (vInt .lss (σ38 13) v47x39) fun v48x40 =>
      cnd v48x40
        (jn (fun σ41 H41 =>
        ob (vInt .add (σ41 13) (.int .i64 1)) fun v50x42 =>
        Q38 .normal (up (up (up σ41 49 (σ41 13)) 50 v50x42) 13 v50x42) H41) fun J41 =>
      ob (vIx 1 (σ38 0) (σ38 13)) fun v53x43 =>
      ob (vLoad v53x43 H38) fun v54x44 =>
      ob (vInt .lss v54x44 (.int .i64 0)) fun v55x45 =>
      cnd v55x45
        (J41 (up (up (up (up (up (up (up (up (up σ38 45 (σ38 13)) 46 (σ38 0)) 47 v47x39) 48 v48x40) 51 (σ38 0)) 52 (σ38 13)) 53 v53x43) 54 v54x44) 55 v55x45) H38)
        (ob (vIx 1 (σ38 0) (σ38 13)) fun v58x46 =>
      ob (vLoad v58x46 H38) fun v59x47 =>
      ob (vInt .add v59x47 (.int .i64 1)) fun v60x48 =>
      HT prg I.spec_l00Min [v60x48, (σ38 1)].toArray H38 fun v62x49 H50 =>
      HT prg I.spec_l06Free [(σ38 0), (σ38 13)].toArray H50 fun v65x51 H52 =>
      HT prg I.spec_l00Min [v62x49, v65x51].toArray H52 fun v66x53 H54 =>
      HT prg I.spec_l06Seed [(σ38 3)].toArray H54 fun v69x55 H56 =>
      ob (vExt v69x55 0) fun v70x57 =>
      ob (vExt v69x55 1) fun v71x58 =>
      jn (fun σ59 H59 =>
        ob (vInt .add (σ59 13) (σ59 14)) fun v85x60 =>
        ob (vLenSl (σ59 0)) fun v87x61 =>
        ob (vInt .rem v85x60 v87x61) fun v88x62 =>
        ob (vIx 1 (σ59 11) v88x62) fun v90x63 =>
        st 1 v90x63 (σ59 14) H59 fun H64 =>
        J41 (up (up (up (up (up (up (up (up (up σ59 82 (σ59 11)) 83 (σ59 13)) 84 (σ59 14)) 85 v85x60) 86 (σ59 0)) 87 v87x61) 88 v88x62) 89 (σ59 14)) 90 v90x63) H64) fun J59 =>
      ob (vFcmp .lss v71x58 (σ38 2)) fun v75x65 =>
      gop v75x65 true (fun K66 => K66 v66x53 H56) H56 fun v77x67 H68 =>
      gop v75x65 true (fun K69 => ob (vInt .gtr v77x67 (.int .i64 0)) fun u => K69 u H68) H68 fun v78x70 H71 =>
      ob (vPick v75x65 v78x70 (.bool false)) fun v79x72 =>
      cnd v79x72
        (ob (vInt .sub v66x53 (.int .i64 1)) fun v81x73 =>
        J59 (up (up (up (up (up (up (up (up (up (up (up (up (up (up (up (up (up (up (up (up (up (up (up (up (up (up (up (up (up (up (up (up (up (up (up (up (up (up (up (up σ38 45 (σ38 13)) 46 (σ38 0)) 47 v47x39) 48 v48x40) 51 (σ38 0)) 52 (σ38 13)) 53 v53x43) 54 v54x44) 55 v55x45) 56 (σ38 0)) 57 (σ38 13)) 58 v58x46) 59 v59x47) 60 v60x48) 61 (σ38 1)) 62 v62x49) 63 (σ38 0)) 64 (σ38 13)) 65 v65x51) 66 v66x53) 14 v66x53) 68 (σ38 3)) 69 v69x55) 67 v69x55) 70 v70x57) 71 v71x58) 15 v70x57) 16 v71x58) 72 v70x57) 3 v70x57) 73 v71x58) 74 (σ38 2)) 75 v75x65) 76 v75x65) 77 v77x67) 78 v78x70) 79 v79x72) 80 v66x53) 81 v81x73) 14 v81x73) H71)
        (J59 (up (up (up (up (up (up (up (up (up (up (up (up (up (up (up (up (up (up (up (up (up (up (up (up (up (up (up (up (up (up (up (up (up (up (up (up (up σ38 45 (σ38 13)) 46 (σ38 0)) 47 v47x39) 48 v48x40) 51 (σ38 0)) 52 (σ38 13)) 53 v53x43) 54 v54x44) 55 v55x45) 56 (σ38 0)) 57 (σ38 13)) 58 v58x46) 59 v59x47) 60 v60x48) 61 (σ38 1)) 62 v62x49) 63 (σ38 0)) 64 (σ38 13)) 65 v65x51) 66 v66x53) 14 v66x53) 68 (σ38 3)) 69 v69x55) 67 v69x55) 70 v70x57) 71 v71x58) 15 v70x57) 16 v71x58) 72 v70x57) 3 v70x57) 73 v71x58) 74 (σ38 2)) 75 v75x65) 76 v75x65) 77 v77x67) 78 v78x70) 79 v79x72) H71)))
        (Q38 (.exit 2) (up (up (up (up σ38 45 (σ38 13)) 46 (σ38 0)) 47 v47x39) 48 v48x40) H38)) (blkQ 2 (thenQ J37 (retQ prg [(.tmp 8), (.tmp 9), (.tmp 10)] K))) (up σ36 13 (.int .i64 0)) H36) fun J36 =>
  lpE (fun Q74 σ74 H74 =>
    ob (vLenSl (σ74 0)) fun v38x75 =>
    ob (vInt .lss (σ74 12) v38x75) fun v39x76 =>
    cnd v39x76
      (bS 1 1 #[(.int .i64 0)] 2 [(0, (.int .i64 (-1)))] H74 fun v43x77 H78 =>
    apd 1 8 #[(.int .i64 0)] 2 (σ74 11) v43x77 H78 fun v44x79 H80 =>
    ob (vInt .add (σ74 12) (.int .i64 1)) fun v41x81 =>
    Q74 .normal (up (up (up (up (up (up (up (up (up (up (up σ74 36 (σ74 12)) 37 (σ74 0)) 38 v38x75) 39 v39x76) 42 (σ74 11)) 43 v43x77) 44 v44x79) 11 v44x79) 40 (σ74 12)) 41 v41x81) 12 v41x81) H80)
      (Q74 (.exit 0) (up (up (up (up σ74 36 (σ74 12)) 37 (σ74 0)) 38 v38x75) 39 v39x76) H74)) (blkQ 0 (thenQ J36 (retQ prg [(.tmp 8), (.tmp 9), (.tmp 10)] K))) (up (up (up (up (up (up (up (up (up (up (up (up (up (up (up (up (up (up (up (up (up (up (up (up (S0 [a0, a1, a2, a3]) 8 (.slice none 0 0)) 9 (.int .i64 0)) 10 (.bool false)) 17 a0) 18 v18x1) 19 v19x3) 20 v19x3) 21 v21x5) 22 v22x8) 23 v23x11) 24 v24x13) 25 v24x13) 26 v26x15) 27 v27x18) 28 v28x21) 29 v29x23) 30 v29x23) 31 v31x25) 32 v32x28) 33 v33x31) 34 v34x33) 35 v35x34) 11 v35x34) 12 (.int .i64 0)) H35)
def O.spec_LaneStep : Nat → Bool × List Nat := fun i => (false, [])
theorem R.spec_LaneStep {a0 a1 a2 a3 : Value} {H : Hp} {K : Value → Hp → Prop} (h : F.spec_LaneStep a0 a1 a2 a3 H K) : HT prg I.spec_LaneStep [a0, a1, a2, a3].toArray H K :=
  HT_of_fev O.spec_LaneStep mixed Try.func25 (by kernel_rfl) (Eq.mpr (by kernel_rfl : fev prg O.spec_LaneStep Try.f25 [a0, a1, a2, a3] H K = F.spec_LaneStep a0 a1 a2 a3 H K) h)

/-! loop.example/g01381/impl.isShare: function 59 -/
def F.impl_isShare (a0 : Value) (H : Hp) (K : Value → Hp → Prop) : Prop :=
  ob (vFcmp .geq a0 (.float .f32 0)) fun v4x1 =>
  gop v4x1 true (fun K2 => K2 a0 H) H fun v6x3 H4 =>
  gop v4x1 true (fun K5 => ob (vFcmp .leq v6x3 (.float .f32 1065353216)) fun u => K5 u H4) H4 fun v7x6 H7 =>
  ob (vPick v4x1 v7x6 (.bool false)) fun v8x8 =>
  K v8x8 H7
def O.impl_isShare : Nat → Bool × List Nat := fun i => (false, [])
theorem R.impl_isShare {a0 : Value} {H : Hp} {K : Value → Hp → Prop} (h : F.impl_isShare a0 H K) : HT prg I.impl_isShare [a0].toArray H K :=
  HT_of_fev O.impl_isShare mixed Try.func59 (by kernel_rfl) (Eq.mpr (by kernel_rfl : fev prg O.impl_isShare Try.f59 [a0] H K = F.impl_isShare a0 H K) h)

/-! loop.example/g01381/impl.isSeed: function 60 -/
def F.impl_isSeed (a0 : Value) (H : Hp) (K : Value → Hp → Prop) : Prop :=
  HT prg I.impl_within [a0, (.int .i64 0), (.int .i64 4294967295)].toArray H fun v4x1 H2 =>
  K v4x1 H2
def O.impl_isSeed : Nat → Bool × List Nat := fun i => (false, [])
theorem R.impl_isSeed {a0 : Value} {H : Hp} {K : Value → Hp → Prop} (h : F.impl_isSeed a0 H K) : HT prg I.impl_isSeed [a0].toArray H K :=
  HT_of_fev O.impl_isSeed mixed Try.func60 (by kernel_rfl) (Eq.mpr (by kernel_rfl : fev prg O.impl_isSeed Try.f60 [a0] H K = F.impl_isSeed a0 H K) h)

/-! math/bits.Mul32: function 96 -/
def F.math_bits_Mul32 (a0 a1 : Value) (H : Hp) (K : Value → Hp → Prop) : Prop :=
  ob (vCI .u64 a0) fun v8x1 =>
  ob (vCI .u64 a1) fun v10x2 =>
  ob (vInt .mul v8x1 v10x2) fun v11x3 =>
  ob (vInt .shr v11x3 (.int .u64 32)) fun v13x4 =>
  ob (vCI .u32 v13x4) fun v14x5 =>
  ob (vCI .u32 v11x3) fun v16x6 =>
  K (.tuple #[v14x5, v16x6]) H
def O.math_bits_Mul32 : Nat → Bool × List Nat := fun i => (false, [])
theorem R.math_bits_Mul32 {a0 a1 : Value} {H : Hp} {K : Value → Hp → Prop} (h : F.math_bits_Mul32 a0 a1 H K) : HT prg I.math_bits_Mul32 [a0, a1].toArray H K :=
  HT_of_fev O.math_bits_Mul32 mixed Try.func96 (by kernel_rfl) (Eq.mpr (by kernel_rfl : fev prg O.math_bits_Mul32 Try.f96 [a0, a1] H K = F.math_bits_Mul32 a0 a1 H K) h)

/-! math/bits.Mul64: function 97 -/
def F.math_bits_Mul64 (a0 a1 : Value) (H : Hp) (K : Value → Hp → Prop) : Prop :=
  ob (vInt .and a0 (.int .u64 4294967295)) fun v15x1 =>
  ob (vInt .shr a0 (.int .u64 32)) fun v17x2 =>
  ob (vInt .and a1 (.int .u64 4294967295)) fun v19x3 =>
  ob (vInt .shr a1 (.int .u64 32)) fun v21x4 =>
  ob (vInt .mul v15x1 v19x3) fun v24x5 =>
  ob (vInt .mul v17x2 v19x3) fun v27x6 =>
  ob (vInt .shr v24x5 (.int .u64 32)) fun v29x7 =>
  ob (vInt .add v27x6 v29x7) fun v30x8 =>
  ob (vInt .and v30x8 (.int .u64 4294967295)) fun v32x9 =>
  ob (vInt .shr v30x8 (.int .u64 32)) fun v34x10 =>
  ob (vInt .mul v15x1 v21x4) fun v38x11 =>
  ob (vInt .add v32x9 v38x11) fun v39x12 =>
  ob (vInt .mul v17x2 v21x4) fun v42x13 =>
  ob (vInt .add v42x13 v34x10) fun v44x14 =>
  ob (vInt .shr v39x12 (.int .u64 32)) fun v46x15 =>
  ob (vInt .add v44x14 v46x15) fun v47x16 =>
  ob (vInt .mul a0 a1) fun v50x17 =>
  K (.tuple #[v47x16, v50x17]) H
def O.math_bits_Mul64 : Nat → Bool × List Nat := fun i => (false, [])
theorem R.math_bits_Mul64 {a0 a1 : Value} {H : Hp} {K : Value → Hp → Prop} (h : F.math_bits_Mul64 a0 a1 H K) : HT prg I.math_bits_Mul64 [a0, a1].toArray H K :=
  HT_of_fev O.math_bits_Mul64 mixed Try.func97 (by kernel_rfl) (Eq.mpr (by kernel_rfl : fev prg O.math_bits_Mul64 Try.f97 [a0, a1] H K = F.math_bits_Mul64 a0 a1 H K) h)

/-! math/bits.Mul: function 91 -/
def F.math_bits_Mul (a0 a1 : Value) (H : Hp) (K : Value → Hp → Prop) : Prop :=
  cnd (.bool false)
    (ob (vCI .u32 a0) fun v12x1 =>
    ob (vCI .u32 a1) fun v14x2 =>
    HT prg I.math_bits_Mul32 [v12x1, v14x2].toArray H fun v15x3 H4 =>
    ob (vExt v15x3 0) fun v16x5 =>
    ob (vExt v15x3 1) fun v17x6 =>
    ob (vCI .u64 v16x5) fun v19x7 =>
    ob (vCI .u64 v17x6) fun v21x8 =>
    K (.tuple #[v19x7, v21x8]) H4)
    (HT prg I.math_bits_Mul64 [a0, a1].toArray H fun v25x9 H10 =>
  ob (vExt v25x9 0) fun v26x11 =>
  ob (vExt v25x9 1) fun v27x12 =>
  K (.tuple #[v26x11, v27x12]) H10)
def O.math_bits_Mul : Nat → Bool × List Nat := fun i => (false, [])
theorem R.math_bits_Mul {a0 a1 : Value} {H : Hp} {K : Value → Hp → Prop} (h : F.math_bits_Mul a0 a1 H K) : HT prg I.math_bits_Mul [a0, a1].toArray H K :=
  HT_of_fev O.math_bits_Mul mixed Try.func91 (by kernel_rfl) (Eq.mpr (by kernel_rfl : fev prg O.math_bits_Mul Try.f91 [a0, a1] H K = F.math_bits_Mul a0 a1 H K) h)

/-! loop.example/g01381/impl.gap: function 62 -/
def F.impl_gap (a0 a1 : Value) (H : Hp) (K : Value → Hp → Prop) : Prop :=
  lpE (fun Q1 σ1 H1 =>
    ob (vInt .add (σ1 1) (σ1 5)) fun v11x2 =>
    ob (vLenSl (σ1 0)) fun v13x3 =>
    ob (vInt .rem v11x2 v13x3) fun v14x4 =>
    ob (vIx 1 (σ1 0) v14x4) fun v15x5 =>
    ob (vLoad v15x5 H1) fun v16x6 =>
    ob (vInt .geq v16x6 (.int .i64 0)) fun v17x7 =>
    cnd v17x7
      (ob (vInt .sub (σ1 5) (.int .i64 1)) fun v19x8 =>
      Q1 .ret (up (up (up (up (up (up (up (up (up (up (up (up (up σ1 8 (σ1 0)) 9 (σ1 1)) 10 (σ1 5)) 11 v11x2) 12 (σ1 0)) 13 v13x3) 14 v14x4) 15 v15x5) 16 v16x6) 17 v17x7) 18 (σ1 5)) 19 v19x8) 4 v19x8) H1)
      (ob (vInt .add (σ1 5) (.int .i64 1)) fun v7x9 =>
    Q1 .normal (up (up (up (up (up (up (up (up (up (up (up (up (up σ1 8 (σ1 0)) 9 (σ1 1)) 10 (σ1 5)) 11 v11x2) 12 (σ1 0)) 13 v13x3) 14 v14x4) 15 v15x5) 16 v16x6) 17 v17x7) 6 (σ1 5)) 7 v7x9) 5 v7x9) H1)) (blkQ 0 (retQ prg [(.tmp 4)] K)) (up (up (S0 [a0, a1]) 4 (.int .i64 0)) 5 (.int .i64 1)) H
def O.impl_gap : Nat → Bool × List Nat := fun i => (false, [])
theorem R.impl_gap {a0 a1 : Value} {H : Hp} {K : Value → Hp → Prop} (h : F.impl_gap a0 a1 H K) : HT prg I.impl_gap [a0, a1].toArray H K :=
  HT_of_fev O.impl_gap mixed Try.func62 (by kernel_rfl) (Eq.mpr (by kernel_rfl : fev prg O.impl_gap Try.f62 [a0, a1] H K = F.impl_gap a0 a1 H K) h)

/-! loop.example/g01381/impl.nextSeed: function 63 -/
def F.impl_nextSeed (a0 : Value) (H : Hp) (K : Value → Hp → Prop) : Prop :=
  ob (vInt .mul (.int .i64 1664525) a0) fun v4x1 =>
  ob (vInt .add v4x1 (.int .i64 1013904223)) fun v5x2 =>
  ob (vInt .rem v5x2 (.int .i64 4294967296)) fun v6x3 =>
  K v6x3 H
def O.impl_nextSeed : Nat → Bool × List Nat := fun i => (false, [])
theorem R.impl_nextSeed {a0 : Value} {H : Hp} {K : Value → Hp → Prop} (h : F.impl_nextSeed a0 H K) : HT prg I.impl_nextSeed [a0].toArray H K :=
  HT_of_fev O.impl_nextSeed mixed Try.func63 (by kernel_rfl) (Eq.mpr (by kernel_rfl : fev prg O.impl_nextSeed Try.f63 [a0] H K = F.impl_nextSeed a0 H K) h)

/-! loop.example/g01381/impl.shareOf: function 64 -/
def F.impl_shareOf (a0 : Value) (H : Hp) (K : Value → Hp → Prop) : Prop :=
  ob (vInt .quo a0 (.int .i64 256)) fun v4x1 =>
  ob (vCF .f32 v4x1) fun v5x2 =>
  fA .quo v5x2 (.float .f32 1266679808) H fun v6x3 H4 =>
  K v6x3 H4
def O.impl_shareOf : Nat → Bool × List Nat := fun i => (false, [])
theorem R.impl_shareOf {a0 : Value} {H : Hp} {K : Value → Hp → Prop} (h : F.impl_shareOf a0 H K) : HT prg I.impl_shareOf [a0].toArray H K :=
  HT_of_fev O.impl_shareOf mixed Try.func64 (by kernel_rfl) (Eq.mpr (by kernel_rfl : fev prg O.impl_shareOf Try.f64 [a0] H K = F.impl_shareOf a0 H K) h)

/-! loop.example/g01381/impl.LaneStep: function 26 -/
def F.impl_LaneStep (a0 a1 a2 a3 : Value) (H : Hp) (K : Value → Hp → Prop) : Prop :=
  HT prg I.impl_IsLane [a0].toArray H fun v15x1 H2 =>
  ob (vUn .not v15x1) fun v16x3 =>
  gop v16x3 false (fun K4 => K4 a1 H2) H2 fun v18x5 H6 =>
  gop v16x3 false (fun K7 => HT prg I.impl_within [v18x5, (.int .i64 1), (.int .i64 5)].toArray H6 K7) H6 fun v19x8 H9 =>
  gop v16x3 false (fun K10 => ob (vUn .not v19x8) fun u => K10 u H9) H9 fun v20x11 H12 =>
  ob (vPick v16x3 (.bool true) v20x11) fun v21x13 =>
  gop v21x13 false (fun K14 => K14 a2 H12) H12 fun v23x15 H16 =>
  gop v21x13 false (fun K17 => HT prg I.impl_isShare [v23x15].toArray H16 K17) H16 fun v24x18 H19 =>
  gop v21x13 false (fun K20 => ob (vUn .not v24x18) fun u => K20 u H19) H19 fun v25x21 H22 =>
  ob (vPick v21x13 (.bool true) v25x21) fun v26x23 =>
  gop v26x23 false (fun K24 => K24 a3 H22) H22 fun v28x25 H26 =>
  gop v26x23 false (fun K27 => HT prg I.impl_isSeed [v28x25].toArray H26 K27) H26 fun v29x28 H29 =>
  gop v26x23 false (fun K30 => ob (vUn .not v29x28) fun u => K30 u H29) H29 fun v30x31 H32 =>
  ob (vPick v26x23 (.bool true) v30x31) fun v31x33 =>
  cnd v31x33
    (K (.tuple #[(.slice none 0 0), (.int .i64 0), (.bool false)]) H32)
    (bS 1 1 #[(.int .i64 0)] 2 [(0, (.int .i64 (-1)))] H32 fun v32x34 H35 =>
  ob (vLenSl a0) fun v34x36 =>
  HT prg I.slices_Repeat_int64Zint64 [v32x34, v34x36].toArray H35 fun v35x37 H38 =>
  jn (fun σ39 H39 =>
    K (.tuple #[(σ39 11), (σ39 3), (.bool true)]) H39) fun J39 =>
  ob (vLenSl a0) fun v37x40 =>
  lpE (fun Q41 σ41 H41 =>
    ob (vInt .lss (σ41 38) (σ41 37)) fun v39x42 =>
    cnd v39x42
      (jn (fun σ43 H43 =>
      ob (vInt .add (σ43 38) (.int .i64 1)) fun v73x44 =>
      Q41 .normal (up (up σ43 73 v73x44) 38 v73x44) H43) fun J43 =>
    ob (vIx 1 (σ41 36) (σ41 38)) fun v41x45 =>
    ob (vLoad v41x45 H41) fun v42x46 =>
    ob (vInt .lss v42x46 (.int .i64 0)) fun v44x47 =>
    cnd v44x47
      (J43 (up (up (up (up (up (up (up (up σ41 39 v39x42) 40 (σ41 38)) 41 v41x45) 42 v42x46) 12 (σ41 38)) 13 v42x46) 43 v42x46) 44 v44x47) H41)
      (ob (vInt .add v42x46 (.int .i64 1)) fun v46x48 =>
    HT prg I.impl_gap [(σ41 0), (σ41 38)].toArray H41 fun v50x49 H50 =>
    hp prg (builtin .min #[2, 2, 2] 2 #[false, false, false] [v46x48, (σ41 1), v50x49].toArray) H50 (nextH prg (fun v51x51 H52 =>
    HT prg I.impl_nextSeed [(σ41 3)].toArray H52 fun v53x53 H54 =>
    jn (fun σ55 H55 =>
      ob (vInt .add (σ55 12) (σ55 13)) fun v67x56 =>
      ob (vLenSl (σ55 0)) fun v69x57 =>
      ob (vInt .rem v67x56 v69x57) fun v70x58 =>
      ob (vIx 1 (σ55 11) v70x58) fun v72x59 =>
      st 1 v72x59 (σ55 13) H55 fun H60 =>
      J43 (up (up (up (up (up (up (up (up (up σ55 64 (σ55 11)) 65 (σ55 12)) 66 (σ55 13)) 67 v67x56) 68 (σ55 0)) 69 v69x57) 70 v70x58) 71 (σ55 13)) 72 v72x59) H60) fun J55 =>
    HT prg I.impl_shareOf [v53x53].toArray H54 fun v55x61 H62 =>
    ob (vFcmp .lss v55x61 (σ41 2)) fun v57x63 =>
    gop v57x63 true (fun K64 => K64 v51x51 H62) H62 fun v59x65 H66 =>
    gop v57x63 true (fun K67 => ob (vInt .gtr v59x65 (.int .i64 0)) fun u => K67 u H66) H66 fun v60x68 H69 =>
    ob (vPick v57x63 v60x68 (.bool false)) fun v61x70 =>
    cnd v61x70
      (ob (vInt .sub v51x51 (.int .i64 1)) fun v63x71 =>
      J55 (up (up (up (up (up (up (up (up (up (up (up (up (up (up (up (up (up (up (up (up (up (up (up (up (up (up (up (up (up (up σ41 39 v39x42) 40 (σ41 38)) 41 v41x45) 42 v42x46) 12 (σ41 38)) 13 v42x46) 43 v42x46) 44 v44x47) 45 v42x46) 46 v46x48) 47 (σ41 1)) 48 (σ41 0)) 49 (σ41 38)) 50 v50x49) 51 v51x51) 13 v51x51) 52 (σ41 3)) 53 v53x53) 3 v53x53) 54 v53x53) 55 v55x61) 56 (σ41 2)) 57 v57x63) 58 v57x63) 59 v59x65) 60 v60x68) 61 v61x70) 62 v51x51) 63 v63x71) 13 v63x71) H69)
      (J55 (up (up (up (up (up (up (up (up (up (up (up (up (up (up (up (up (up (up (up (up (up (up (up (up (up (up (up σ41 39 v39x42) 40 (σ41 38)) 41 v41x45) 42 v42x46) 12 (σ41 38)) 13 v42x46) 43 v42x46) 44 v44x47) 45 v42x46) 46 v46x48) 47 (σ41 1)) 48 (σ41 0)) 49 (σ41 38)) 50 v50x49) 51 v51x51) 13 v51x51) 52 (σ41 3)) 53 v53x53) 3 v53x53) 54 v53x53) 55 v55x61) 56 (σ41 2)) 57 v57x63) 58 v57x63) 59 v59x65) 60 v60x68) 61 v61x70) H69)))))
      (Q41 (.exit 0) (up σ41 39 v39x42) H41)) (blkQ 0 (thenQ J39 (retQ prg [(.tmp 8), (.tmp 9), (.tmp 10)] K))) (up (up (up (up (up (up (up (up (up (up (up (up (up (up (up (up (up (up (up (up (up (up (up (up (up (up (up (up (up (S0 [a0, a1, a2, a3]) 8 (.slice none 0 0)) 9 (.int .i64 0)) 10 (.bool false)) 14 a0) 15 v15x1) 16 v16x3) 17 v16x3) 18 v18x5) 19 v19x8) 20 v20x11) 21 v21x13) 22 v21x13) 23 v23x15) 24 v24x18) 25 v25x21) 26 v26x23) 27 v26x23) 28 v28x25) 29 v29x28) 30 v30x31) 31 v31x33) 32 v32x34) 33 a0) 34 v34x36) 35 v35x37) 11 v35x37) 36 a0) 37 v37x40) 38 (.int .i64 0)) H38)
def O.impl_LaneStep : Nat → Bool × List Nat := fun i => (false, [])
theorem R.impl_LaneStep {a0 a1 a2 a3 : Value} {H : Hp} {K : Value → Hp → Prop} (h : F.impl_LaneStep a0 a1 a2 a3 H K) : HT prg I.impl_LaneStep [a0, a1, a2, a3].toArray H K :=
  HT_of_fev O.impl_LaneStep mixed Try.func26 (by kernel_rfl) (Eq.mpr (by kernel_rfl : fev prg O.impl_LaneStep Try.f26 [a0, a1, a2, a3] H K = F.impl_LaneStep a0 a1 a2 a3 H K) h)

/-! loop.example/g01381/laws.FnExactLaneStep: function 6 -/
def F.laws_FnExactLaneStep (a0 a1 a2 a3 : Value) (H : Hp) (K : Value → Hp → Prop) : Prop :=
  ob (vLenSl a0) fun v23x1 =>
  ob (vInt .gtr v23x1 (.int .i64 1048576)) fun v24x2 =>
  cnd v24x2
    (K (.bool true) H)
    (HT prg I.laws_toInt64S [a0].toArray H fun v27x3 H4 =>
  HT prg I.spec_LaneStep [v27x3, a1, a2, a3].toArray H4 fun v31x5 H6 =>
  ob (vExt v31x5 0) fun v32x7 =>
  ob (vExt v31x5 1) fun v33x8 =>
  ob (vExt v31x5 2) fun v34x9 =>
  HT prg I.laws_toInt64S [a0].toArray H6 fun v36x10 H11 =>
  HT prg I.impl_LaneStep [v36x10, a1, a2, a3].toArray H11 fun v42x12 H13 =>
  ob (vExt v42x12 0) fun v43x14 =>
  ob (vExt v42x12 1) fun v44x15 =>
  ob (vExt v42x12 2) fun v45x16 =>
  HT prg I.laws_eqInt64S [v43x14, v32x7].toArray H13 fun v48x17 H18 =>
  ob (vUn .not v48x17) fun v49x19 =>
  gop v49x19 false (fun K20 => K20 v44x15 H18) H18 fun v51x21 H22 =>
  gop v49x19 false (fun K23 => K23 v33x8 H22) H22 fun v52x24 H25 =>
  gop v49x19 false (fun K26 => ob (vInt .neq v51x21 v52x24) fun u => K26 u H25) H25 fun v53x27 H28 =>
  ob (vPick v49x19 (.bool true) v53x27) fun v54x29 =>
  gop v54x29 false (fun K30 => K30 v45x16 H28) H28 fun v56x31 H32 =>
  gop v54x29 false (fun K33 => K33 v34x9 H32) H32 fun v57x34 H35 =>
  gop v54x29 false (fun K36 => ob (vBool .neq v56x31 v57x34) fun u => K36 u H35) H35 fun v58x37 H38 =>
  ob (vPick v54x29 (.bool true) v58x37) fun v59x39 =>
  cnd v59x39
    (K (.bool false) H38)
    (HT prg I.laws_toInt64S [a0].toArray H38 fun v62x40 H41 =>
  HT prg I.laws_eqInt64S [v36x10, v62x40].toArray H41 fun v63x42 H43 =>
  ob (vUn .not v63x42) fun v64x44 =>
  cnd v64x44
    (K (.bool false) H43)
    (HT prg I.laws_markInt64S [v36x10, (.int .i64 1)].toArray H43 fun v67x45 H46 =>
  ob (vInt .lss v67x45 (.int .i64 0)) fun v69x47 =>
  gop v69x47 false (fun K48 => K48 v43x14 H46) H46 fun v71x49 H50 =>
  gop v69x47 false (fun K51 => K51 v32x7 H50) H50 fun v72x52 H53 =>
  gop v69x47 false (fun K54 => HT prg I.laws_eqInt64S [v71x49, v72x52].toArray H53 K54) H53 fun v73x55 H56 =>
  gop v69x47 false (fun K57 => ob (vUn .not v73x55) fun u => K57 u H56) H56 fun v74x58 H59 =>
  ob (vPick v69x47 (.bool true) v74x58) fun v75x60 =>
  gop v75x60 false (fun K61 => K61 v44x15 H59) H59 fun v77x62 H63 =>
  gop v75x60 false (fun K64 => K64 v33x8 H63) H63 fun v78x65 H66 =>
  gop v75x60 false (fun K67 => ob (vInt .neq v77x62 v78x65) fun u => K67 u H66) H66 fun v79x68 H69 =>
  ob (vPick v75x60 (.bool true) v79x68) fun v80x70 =>
  gop v80x70 false (fun K71 => K71 v45x16 H69) H69 fun v82x72 H73 =>
  gop v80x70 false (fun K74 => K74 v34x9 H73) H73 fun v83x75 H76 =>
  gop v80x70 false (fun K77 => ob (vBool .neq v82x72 v83x75) fun u => K77 u H76) H76 fun v84x78 H79 =>
  ob (vPick v80x70 (.bool true) v84x78) fun v85x80 =>
  cnd v85x80
    (K (.bool false) H79)
    (HT prg I.laws_markInt64S [v43x14, (.int .i64 1)].toArray H79 fun v88x81 H82 =>
  HT prg I.laws_heldInt64S [v43x14, (.int .i64 1)].toArray H82 fun v91x83 H84 =>
  ob (vInt .lss v91x83 (.int .i64 0)) fun v93x85 =>
  cnd v93x85
    (K (.bool false) H84)
    (ob (vInt .neq v91x83 v88x81) fun v96x86 =>
  cnd v96x86
    (K (.bool false) H84)
    (HT prg I.laws_toInt64S [a0].toArray H84 fun v99x87 H88 =>
  HT prg I.impl_LaneStep [v99x87, a1, a2, a3].toArray H88 fun v103x89 H90 =>
  ob (vExt v103x89 0) fun v104x91 =>
  ob (vExt v103x89 1) fun v105x92 =>
  ob (vExt v103x89 2) fun v106x93 =>
  HT prg I.laws_eqInt64S [v104x91, v32x7].toArray H90 fun v109x94 H95 =>
  ob (vUn .not v109x94) fun v110x96 =>
  gop v110x96 false (fun K97 => K97 v105x92 H95) H95 fun v112x98 H99 =>
  gop v110x96 false (fun K100 => K100 v33x8 H99) H99 fun v113x101 H102 =>
  gop v110x96 false (fun K103 => ob (vInt .neq v112x98 v113x101) fun u => K103 u H102) H102 fun v114x104 H105 =>
  ob (vPick v110x96 (.bool true) v114x104) fun v115x106 =>
  gop v115x106 false (fun K107 => K107 v106x93 H105) H105 fun v117x108 H109 =>
  gop v115x106 false (fun K110 => K110 v34x9 H109) H109 fun v118x111 H112 =>
  gop v115x106 false (fun K113 => ob (vBool .neq v117x108 v118x111) fun u => K113 u H112) H112 fun v119x114 H115 =>
  ob (vPick v115x106 (.bool true) v119x114) fun v120x116 =>
  cnd v120x116
    (K (.bool false) H115)
    (HT prg I.laws_heldInt64S [v43x14, (.int .i64 1)].toArray H115 fun v123x117 H118 =>
  ob (vInt .lss v123x117 (.int .i64 0)) fun v125x119 =>
  cnd v125x119
    (K (.bool false) H118)
    (ob (vInt .neq v123x117 v88x81) fun v128x120 =>
  cnd v128x120
    (K (.bool false) H118)
    (K (.bool true) H118)))))))))
def O.laws_FnExactLaneStep : Nat → Bool × List Nat := fun i => (false, [])
theorem R.laws_FnExactLaneStep {a0 a1 a2 a3 : Value} {H : Hp} {K : Value → Hp → Prop} (h : F.laws_FnExactLaneStep a0 a1 a2 a3 H K) : HT prg I.laws_FnExactLaneStep [a0, a1, a2, a3].toArray H K :=
  HT_of_fev O.laws_FnExactLaneStep mixed Try.func6 (by kernel_rfl) (Eq.mpr (by kernel_rfl : fev prg O.laws_FnExactLaneStep Try.f6 [a0, a1, a2, a3] H K = F.laws_FnExactLaneStep a0 a1 a2 a3 H K) h)

/-! loop.example/g01381/laws.r8Long: function 27 -/
def F.laws_r8Long (a0 a1 : Value) (H : Hp) (K : Value → Hp → Prop) : Prop :=
  ob (vLenSl a0) fun v6x1 =>
  ob (vInt .gtr v6x1 (.int .i64 48)) fun v7x2 =>
  gop v7x2 false (fun K3 => K3 a1 H) H fun v9x4 H5 =>
  gop v7x2 false (fun K6 => ob (vLenSl v9x4) fun u => K6 u H5) H5 fun v10x7 H8 =>
  gop v7x2 false (fun K9 => ob (vInt .gtr v10x7 (.int .i64 48)) fun u => K9 u H8) H8 fun v11x10 H11 =>
  ob (vPick v7x2 (.bool true) v11x10) fun v12x12 =>
  K v12x12 H11
def O.laws_r8Long : Nat → Bool × List Nat := fun i => (false, [])
theorem R.laws_r8Long {a0 a1 : Value} {H : Hp} {K : Value → Hp → Prop} (h : F.laws_r8Long a0 a1 H K) : HT prg I.laws_r8Long [a0, a1].toArray H K :=
  HT_of_fev O.laws_r8Long mixed Try.func27 (by kernel_rfl) (Eq.mpr (by kernel_rfl : fev prg O.laws_r8Long Try.f27 [a0, a1] H K = F.laws_r8Long a0 a1 H K) h)

/-! loop.example/g01381/laws.r8At: function 28 -/
def F.laws_r8At (a0 a1 a2 : Value) (H : Hp) (K : Value → Hp → Prop) : Prop :=
  ob (vInt .leq a2 (.int .i64 1)) fun v8x1 =>
  gop v8x1 false (fun K2 => K2 a1 H) H fun v10x3 H4 =>
  gop v8x1 false (fun K5 => K5 a0 H4) H4 fun v11x6 H7 =>
  gop v8x1 false (fun K8 => ob (vLenSl v11x6) fun u => K8 u H7) H7 fun v12x9 H10 =>
  gop v8x1 false (fun K11 => ob (vInt .geq v10x3 v12x9) fun u => K11 u H10) H10 fun v13x12 H13 =>
  ob (vPick v8x1 (.bool true) v13x12) fun v14x14 =>
  cnd v14x14
    (K (.int .i64 0) H13)
    (ob (vIx 1 a0 a1) fun v17x15 =>
  ob (vLoad v17x15 H13) fun v18x16 =>
  ob (vCI .i64 v18x16) fun v19x17 =>
  ob (vInt .rem v19x17 a2) fun v21x18 =>
  K v21x18 H13)
def O.laws_r8At : Nat → Bool × List Nat := fun i => (false, [])
theorem R.laws_r8At {a0 a1 a2 : Value} {H : Hp} {K : Value → Hp → Prop} (h : F.laws_r8At a0 a1 a2 H K) : HT prg I.laws_r8At [a0, a1, a2].toArray H K :=
  HT_of_fev O.laws_r8At mixed Try.func28 (by kernel_rfl) (Eq.mpr (by kernel_rfl : fev prg O.laws_r8At Try.f28 [a0, a1, a2] H K = F.laws_r8At a0 a1 a2 H K) h)

/-! loop.example/g01381/spec.l00From: function 65 -/
def F.spec_l00From (a0 : Value) (H : Hp) (K : Value → Hp → Prop) : Prop :=
  ob (vBuild [(0, 1), (1, 1), (2, 1)] (.agg #[(.slice none 0 0), (.int .i64 0), (.int .u64 0)]) [(0, a0)]) fun v4x1 =>
  nw (v4x1 : Value).cells 95 H fun v5x2 H3 =>
  K v5x2 H3
def O.spec_l00From : Nat → Bool × List Nat := fun i => (false, [])
theorem R.spec_l00From {a0 : Value} {H : Hp} {K : Value → Hp → Prop} (h : F.spec_l00From a0 H K) : HT prg I.spec_l00From [a0].toArray H K :=
  HT_of_fev O.spec_l00From mixed Try.func65 (by kernel_rfl) (Eq.mpr (by kernel_rfl : fev prg O.spec_l00From Try.f65 [a0] H K = F.spec_l00From a0 H K) h)

/-! (*loop.example/g01381/spec.l00Src).next: function 92 -/
def F.pspec_l00Src_next (a0 : Value) (H : Hp) (K : Value → Hp → Prop) : Prop :=
  jn (fun σ1 H1 =>
    ob (vNilC (σ1 0)) fun v26x2 =>
    ob (vFa 1 v26x2) fun v27x3 =>
    ob (vLoad v27x3 H1) fun v28x4 =>
    ob (vInt .add v28x4 (.int .i64 1)) fun v29x5 =>
    ob (vNilC (σ1 0)) fun v30x6 =>
    ob (vFa 1 v30x6) fun v31x7 =>
    st 1 v31x7 v29x5 H1 fun H8 =>
    ob (vNilC (σ1 0)) fun v34x9 =>
    ob (vFa 2 v34x9) fun v35x10 =>
    ob (vLoad v35x10 H8) fun v36x11 =>
    ob (vInt .mul v36x11 (.int .u64 6364136223846793005)) fun v37x12 =>
    ob (vCI .u64 (σ1 3)) fun v39x13 =>
    ob (vInt .add v37x12 v39x13) fun v40x14 =>
    ob (vInt .add v40x14 (.int .u64 1442695040888963407)) fun v41x15 =>
    ob (vNilC (σ1 0)) fun v42x16 =>
    ob (vFa 2 v42x16) fun v43x17 =>
    st 1 v43x17 v41x15 H8 fun H18 =>
    ob (vNilC (σ1 0)) fun v45x19 =>
    ob (vFa 1 v45x19) fun v46x20 =>
    ob (vLoad v46x20 H18) fun v47x21 =>
    ob (vNilC (σ1 0)) fun v49x22 =>
    ob (vFa 0 v49x22) fun v50x23 =>
    ob (vLoad v50x23 H18) fun v51x24 =>
    ob (vLenSl v51x24) fun v52x25 =>
    ob (vInt .leq v47x21 v52x25) fun v53x26 =>
    cnd v53x26
      (K (σ1 3) H18)
      (ob (vNilC (σ1 0)) fun v56x27 =>
    ob (vFa 2 v56x27) fun v57x28 =>
    ob (vLoad v57x28 H18) fun v58x29 =>
    ob (vInt .shr v58x29 (.int .u64 40)) fun v59x30 =>
    ob (vInt .and v59x30 (.int .u64 255)) fun v60x31 =>
    ob (vCI .i64 v60x31) fun v61x32 =>
    K v61x32 H18)) fun J1 =>
  ob (vNilC a0) fun v5x33 =>
  ob (vFa 1 v5x33) fun v6x34 =>
  ob (vLoad v6x34 H) fun v7x35 =>
  ob (vNilC a0) fun v9x36 =>
  ob (vFa 0 v9x36) fun v10x37 =>
  ob (vLoad v10x37 H) fun v11x38 =>
  ob (vLenSl v11x38) fun v12x39 =>
  ob (vInt .lss v7x35 v12x39) fun v13x40 =>
  cnd v13x40
    (ob (vNilC a0) fun v15x41 =>
    ob (vFa 0 v15x41) fun v16x42 =>
    ob (vLoad v16x42 H) fun v17x43 =>
    ob (vNilC a0) fun v19x44 =>
    ob (vFa 1 v19x44) fun v20x45 =>
    ob (vLoad v20x45 H) fun v21x46 =>
    ob (vIx 1 v17x43 v21x46) fun v22x47 =>
    ob (vLoad v22x47 H) fun v23x48 =>
    ob (vCI .i64 v23x48) fun v24x49 =>
    J1 (up (up (up (up (up (up (up (up (up (up (up (up (up (up (up (up (up (up (up (up (up (up (up (up (S0 [a0]) 2 (.int .i64 0)) 3 (.int .i64 0)) 4 a0) 5 v5x33) 6 v6x34) 7 v7x35) 8 a0) 9 v9x36) 10 v10x37) 11 v11x38) 12 v12x39) 13 v13x40) 14 a0) 15 v15x41) 16 v16x42) 17 v17x43) 18 a0) 19 v19x44) 20 v20x45) 21 v21x46) 22 v22x47) 23 v23x48) 24 v24x49) 3 v24x49) H)
    (J1 (up (up (up (up (up (up (up (up (up (up (up (up (S0 [a0]) 2 (.int .i64 0)) 3 (.int .i64 0)) 4 a0) 5 v5x33) 6 v6x34) 7 v7x35) 8 a0) 9 v9x36) 10 v10x37) 11 v11x38) 12 v12x39) 13 v13x40) H)
def O.pspec_l00Src_next : Nat → Bool × List Nat := fun i => bif Nat.beq i 6 then (false, [0, 1, 2, 3, 4, 5, 6, 7, 8, 9]) else bif Nat.beq i 2 then (false, [0, 1, 2, 3, 4, 5, 6, 7, 8, 9]) else bif Nat.beq i 3 then (false, [0, 1, 2, 3, 4, 5, 6, 7, 8, 9, 10, 11]) else (false, [])
theorem R.pspec_l00Src_next {a0 : Value} {H : Hp} {K : Value → Hp → Prop} (h : F.pspec_l00Src_next a0 H K) : HT prg I.pspec_l00Src_next [a0].toArray H K :=
  HT_of_fev O.pspec_l00Src_next mixed Try.func92 (by kernel_rfl) (Eq.mpr (by kernel_rfl : fev prg O.pspec_l00Src_next Try.f92 [a0] H K = F.pspec_l00Src_next a0 H K) h)

/-! (*loop.example/g01381/spec.l00Src).pick: function 67 -/
def F.pspec_l00Src_pick (a0 a1 : Value) (H : Hp) (K : Value → Hp → Prop) : Prop :=
  ob (vInt .leq a1 (.int .i64 1)) fun v7x1 =>
  cnd v7x1
    (K (.int .i64 0) H)
    (HT prg I.pspec_l00Src_next [a0].toArray H fun v9x2 H3 =>
  jn (fun σ4 H4 =>
    ob (vInt .rem (σ4 5) (σ4 1)) fun v19x5 =>
    K v19x5 H4) fun J4 =>
  ob (vInt .gtr a1 (.int .i64 200)) fun v11x6 =>
  cnd v11x6
    (ob (vInt .mul v9x2 (.int .i64 256)) fun v13x7 =>
    HT prg I.pspec_l00Src_next [a0].toArray H3 fun v15x8 H9 =>
    ob (vInt .add v13x7 v15x8) fun v16x10 =>
    J4 (up (up (up (up (up (up (up (up (up (up (up (up (up (up (S0 [a0, a1]) 4 (.int .i64 0)) 6 a1) 7 v7x1) 8 a0) 9 v9x2) 5 v9x2) 10 a1) 11 v11x6) 12 v9x2) 13 v13x7) 14 a0) 15 v15x8) 16 v16x10) 5 v16x10) H9)
    (J4 (up (up (up (up (up (up (up (up (S0 [a0, a1]) 4 (.int .i64 0)) 6 a1) 7 v7x1) 8 a0) 9 v9x2) 5 v9x2) 10 a1) 11 v11x6) H3))
def O.pspec_l00Src_pick : Nat → Bool × List Nat := fun i => (false, [])
theorem R.pspec_l00Src_pick {a0 a1 : Value} {H : Hp} {K : Value → Hp → Prop} (h : F.pspec_l00Src_pick a0 a1 H K) : HT prg I.pspec_l00Src_pick [a0, a1].toArray H K :=
  HT_of_fev O.pspec_l00Src_pick mixed Try.func67 (by kernel_rfl) (Eq.mpr (by kernel_rfl : fev prg O.pspec_l00Src_pick Try.f67 [a0, a1] H K = F.pspec_l00Src_pick a0 a1 H K) h)

/-! (*loop.example/g01381/spec.l00Src).one: function 66 -/
def F.pspec_l00Src_one (a0 a1 : Value) (H : Hp) (K : Value → Hp → Prop) : Prop :=
  HT prg I.pspec_l00Src_pick [a0, a1].toArray H fun v7x1 H2 =>
  ob (vInt .eql v7x1 (.int .i64 0)) fun v8x3 =>
  K v8x3 H2
def O.pspec_l00Src_one : Nat → Bool × List Nat := fun i => (false, [])
theorem R.pspec_l00Src_one {a0 a1 : Value} {H : Hp} {K : Value → Hp → Prop} (h : F.pspec_l00Src_one a0 a1 H K) : HT prg I.pspec_l00Src_one [a0, a1].toArray H K :=
  HT_of_fev O.pspec_l00Src_one mixed Try.func66 (by kernel_rfl) (Eq.mpr (by kernel_rfl : fev prg O.pspec_l00Src_one Try.f66 [a0, a1] H K = F.pspec_l00Src_one a0 a1 H K) h)

/-! loop.example/g01381/spec.R8Lane: function 29 -/
def F.spec_R8Lane (a0 a1 : Value) (H : Hp) (K : Value → Hp → Prop) : Prop :=
  HT prg I.spec_l00From [a0].toArray H fun v9x1 H2 =>
  bS 1 0 #[(.int .i64 0)] 2 [] H2 fun v10x3 H4 =>
  jn (fun σ5 H5 =>
    K (σ5 6) H5) fun J5 =>
  lpE (fun Q6 σ6 H6 =>
    ob (vInt .gtr (σ6 1) (.int .i64 0)) fun v12x7 =>
    cnd v12x7
      (jn (fun σ8 H8 =>
      bS 1 1 #[(.int .i64 0)] 2 [(0, (σ8 7))] H8 fun v21x9 H10 =>
      apd 1 8 #[(.int .i64 0)] 2 (σ8 6) v21x9 H10 fun v22x11 H12 =>
      ob (vInt .sub (σ8 1) (.int .i64 1)) fun v14x13 =>
    Q6 .normal (up (up (up (up (up (up (up (up σ8 19 (σ8 6)) 20 (σ8 7)) 21 v21x9) 22 v22x11) 6 v22x11) 13 (σ8 1)) 14 v14x13) 1 v14x13) H12) fun J8 =>
    HT prg I.pspec_l00Src_one [(σ6 5), (.int .i64 3)].toArray H6 fun v16x14 H15 =>
    cnd v16x14
      (HT prg I.pspec_l00Src_pick [(σ6 5), (.int .i64 4)].toArray H15 fun v18x16 H17 =>
      J8 (up (up (up (up (up (up (up (up σ6 11 (σ6 1)) 12 v12x7) 7 (.int .i64 (-1))) 15 (σ6 5)) 16 v16x14) 17 (σ6 5)) 18 v18x16) 7 v18x16) H17)
      (J8 (up (up (up (up (up σ6 11 (σ6 1)) 12 v12x7) 7 (.int .i64 (-1))) 15 (σ6 5)) 16 v16x14) H15))
      (Q6 (.exit 0) (up (up σ6 11 (σ6 1)) 12 v12x7) H6)) (blkQ 0 (thenQ J5 (retQ prg [(.tmp 4)] K))) (up (up (up (up (up (up (S0 [a0, a1]) 4 (.slice none 0 0)) 8 a0) 9 v9x1) 5 v9x1) 10 v10x3) 6 v10x3) H4
def O.spec_R8Lane : Nat → Bool × List Nat := fun i => (false, [])
theorem R.spec_R8Lane {a0 a1 : Value} {H : Hp} {K : Value → Hp → Prop} (h : F.spec_R8Lane a0 a1 H K) : HT prg I.spec_R8Lane [a0, a1].toArray H K :=
  HT_of_fev O.spec_R8Lane mixed Try.func29 (by kernel_rfl) (Eq.mpr (by kernel_rfl : fev prg O.spec_R8Lane Try.f29 [a0, a1] H K = F.spec_R8Lane a0 a1 H K) h)

/-! loop.example/g01381/laws.r8Cars: function 30 -/
def F.laws_r8Cars (a0 : Value) (H : Hp) (K : Value → Hp → Prop) : Prop :=
  jn (fun σ1 H1 =>
    K (σ1 3) H1) fun J1 =>
  lpE (fun Q2 σ2 H2 =>
    ob (vLenSl (σ2 0)) fun v7x3 =>
    ob (vInt .lss (σ2 4) v7x3) fun v8x4 =>
    cnd v8x4
      (jn (fun σ5 H5 =>
      ob (vInt .add (σ5 4) (.int .i64 1)) fun v10x6 =>
      Q2 .normal (up (up (up σ5 9 (σ5 4)) 10 v10x6) 4 v10x6) H5) fun J5 =>
    ob (vIx 1 (σ2 0) (σ2 4)) fun v13x7 =>
    ob (vLoad v13x7 H2) fun v14x8 =>
    ob (vInt .geq v14x8 (.int .i64 0)) fun v15x9 =>
    cnd v15x9
      (ob (vInt .add (σ2 3) (.int .i64 1)) fun v17x10 =>
      J5 (up (up (up (up (up (up (up (up (up (up (up (up σ2 5 (σ2 4)) 6 (σ2 0)) 7 v7x3) 8 v8x4) 11 (σ2 0)) 12 (σ2 4)) 13 v13x7) 14 v14x8) 15 v15x9) 16 (σ2 3)) 17 v17x10) 3 v17x10) H2)
      (J5 (up (up (up (up (up (up (up (up (up σ2 5 (σ2 4)) 6 (σ2 0)) 7 v7x3) 8 v8x4) 11 (σ2 0)) 12 (σ2 4)) 13 v13x7) 14 v14x8) 15 v15x9) H2))
      (Q2 (.exit 0) (up (up (up (up σ2 5 (σ2 4)) 6 (σ2 0)) 7 v7x3) 8 v8x4) H2)) (blkQ 0 (thenQ J1 (retQ prg [(.tmp 2)] K))) (up (up (up (S0 [a0]) 2 (.int .i64 0)) 3 (.int .i64 0)) 4 (.int .i64 0)) H
def O.laws_r8Cars : Nat → Bool × List Nat := fun i => (false, [])
theorem R.laws_r8Cars {a0 : Value} {H : Hp} {K : Value → Hp → Prop} (h : F.laws_r8Cars a0 H K) : HT prg I.laws_r8Cars [a0].toArray H K :=
  HT_of_fev O.laws_r8Cars mixed Try.func30 (by kernel_rfl) (Eq.mpr (by kernel_rfl : fev prg O.laws_r8Cars Try.f30 [a0] H K = F.laws_r8Cars a0 H K) h)

end Go.Proofs.Ytdfoobomlabffaa
