/- Functions' texts over a partial heap. -/
import Derived.Test.YtdfoobomlabffaaG0
namespace Go.Proofs.Ytdfoobomlabffaa
open HL
set_option linter.unusedVariables false
set_option maxRecDepth 100000
/-! loop.example/g01381/spec.l00In: function 53 -/
def F.spec_l00In (a0 a1 a2 : Value) (H : Hp) (K : Value → Hp → Prop) : Prop :=
  ob (vInt .geq a0 a1) fun v9_1 =>
  gop v9_1 true (fun K2 => K2 a0 H) H fun v11_3 H4 =>
  gop v9_1 true (fun K5 => K5 a2 H4) H4 fun v12_6 H7 =>
  gop v9_1 true (fun K8 => ob (vInt .leq v11_3 v12_6) fun u => K8 u H7) H7 fun v13_9 H10 =>
  ob (vPick v9_1 v13_9 (.bool false)) fun v14_11 =>
  K v14_11 H10
def O.spec_l00In : Nat → Bool × List Nat := fun i => (false, [])
theorem R.spec_l00In {a0 a1 a2 : Value} {H : Hp} {K : Value → Hp → Prop} (h : F.spec_l00In a0 a1 a2 H K) : HT prg I.spec_l00In [a0, a1, a2].toArray H K :=
  HT_of_fev O.spec_l00In mixed Try.func53 (by kernel_rfl) (Eq.mpr (by kernel_rfl : fev prg O.spec_l00In Try.f53 [a0, a1, a2] H K = F.spec_l00In a0 a1 a2 H K) h)

/-! loop.example/g01381/spec.l06Lane: function 48 -/
def F.spec_l06Lane (a0 : Value) (H : Hp) (K : Value → Hp → Prop) : Prop :=
  jn (fun σ1 H1 =>
    ob (vLenSl (σ1 0)) fun v17_2 =>
    ob (vInt .geq v17_2 (.int .i64 1)) fun v18_3 =>
    gop v18_3 true (fun K4 => K4 (σ1 0) H1) H1 fun v20_5 H6 =>
    gop v18_3 true (fun K7 => ob (vLenSl v20_5) fun u => K7 u H6) H6 fun v21_8 H9 =>
    gop v18_3 true (fun K10 => ob (vInt .leq v21_8 (.int .i64 64)) fun u => K10 u H9) H9 fun v22_11 H12 =>
    ob (vPick v18_3 v22_11 (.bool false)) fun v23_13 =>
    K v23_13 H12) fun J1 =>
  lpE (fun Q14 σ14 H14 =>
    ob (vLenSl (σ14 0)) fun v6_15 =>
    ob (vInt .lss (σ14 3) v6_15) fun v7_16 =>
    cnd v7_16
      (ob (vIx 1 (σ14 0) (σ14 3)) fun v12_17 =>
    ob (vLoad v12_17 H14) fun v13_18 =>
    HT prg I.spec_l00In [v13_18, (.int .i64 (-1)), (.int .i64 5)].toArray H14 fun v14_19 H20 =>
    ob (vUn .not v14_19) fun v15_21 =>
    cnd v15_21
      (Q14 .ret (up (up (up (up (up (up (up (up (up (up (up σ14 4 (σ14 3)) 5 (σ14 0)) 6 v6_15) 7 v7_16) 10 (σ14 0)) 11 (σ14 3)) 12 v12_17) 13 v13_18) 14 v14_19) 15 v15_21) 2 (.bool false)) H20)
      (ob (vInt .add (σ14 3) (.int .i64 1)) fun v9_22 =>
    Q14 .normal (up (up (up (up (up (up (up (up (up (up (up (up (up σ14 4 (σ14 3)) 5 (σ14 0)) 6 v6_15) 7 v7_16) 10 (σ14 0)) 11 (σ14 3)) 12 v12_17) 13 v13_18) 14 v14_19) 15 v15_21) 8 (σ14 3)) 9 v9_22) 3 v9_22) H20))
      (Q14 (.exit 0) (up (up (up (up σ14 4 (σ14 3)) 5 (σ14 0)) 6 v6_15) 7 v7_16) H14)) (blkQ 0 (thenQ J1 (retQ prg [(.tmp 2)] K))) (up (up (S0 [a0]) 2 (.bool false)) 3 (.int .i64 0)) H
def O.spec_l06Lane : Nat → Bool × List Nat := fun i => (false, [])
theorem R.spec_l06Lane {a0 : Value} {H : Hp} {K : Value → Hp → Prop} (h : F.spec_l06Lane a0 H K) : HT prg I.spec_l06Lane [a0].toArray H K :=
  HT_of_fev O.spec_l06Lane mixed Try.func48 (by kernel_rfl) (Eq.mpr (by kernel_rfl : fev prg O.spec_l06Lane Try.f48 [a0] H K = F.spec_l06Lane a0 H K) h)

/-! loop.example/g01381/spec.IsLane: function 14 -/
def F.spec_IsLane (a0 : Value) (H : Hp) (K : Value → Hp → Prop) : Prop :=
  HT prg I.spec_l06Lane [a0].toArray H fun v4_1 H2 =>
  K v4_1 H2
def O.spec_IsLane : Nat → Bool × List Nat := fun i => (false, [])
theorem R.spec_IsLane {a0 : Value} {H : Hp} {K : Value → Hp → Prop} (h : F.spec_IsLane a0 H K) : HT prg I.spec_IsLane [a0].toArray H K :=
  HT_of_fev O.spec_IsLane mixed Try.func14 (by kernel_rfl) (Eq.mpr (by kernel_rfl : fev prg O.spec_IsLane Try.f14 [a0] H K = F.spec_IsLane a0 H K) h)

/-! loop.example/g01381/laws.toInt64S: function 15 -/
def F.laws_toInt64S (a0 : Value) (H : Hp) (K : Value → Hp → Prop) : Prop :=
  ob (vLenSl a0) fun v6_1 =>
  mkS 1 8 #[(.int .i64 0)] 2 v6_1 v6_1 H fun v7_2 H3 =>
  jn (fun σ4 H4 =>
    K (σ4 3) H4) fun J4 =>
  lpE (fun Q5 σ5 H5 =>
    ob (vLenSl (σ5 0)) fun v10_6 =>
    ob (vInt .lss (σ5 4) v10_6) fun v11_7 =>
    cnd v11_7
      (ob (vIx 1 (σ5 0) (σ5 4)) fun v18_8 =>
    ob (vLoad v18_8 H5) fun v19_9 =>
    ob (vIx 1 (σ5 3) (σ5 4)) fun v20_10 =>
    st 1 v20_10 v19_9 H5 fun H11 =>
    ob (vInt .add (σ5 4) (.int .i64 1)) fun v13_12 =>
    Q5 .normal (up (up (up (up (up (up (up (up (up (up (up (up (up (up σ5 8 (σ5 4)) 9 (σ5 0)) 10 v10_6) 11 v11_7) 14 (σ5 3)) 15 (σ5 4)) 16 (σ5 0)) 17 (σ5 4)) 18 v18_8) 19 v19_9) 20 v20_10) 12 (σ5 4)) 13 v13_12) 4 v13_12) H11)
      (Q5 (.exit 0) (up (up (up (up σ5 8 (σ5 4)) 9 (σ5 0)) 10 v10_6) 11 v11_7) H5)) (blkQ 0 (thenQ J4 (retQ prg [(.tmp 2)] K))) (up (up (up (up (up (up (S0 [a0]) 2 (.slice none 0 0)) 5 a0) 6 v6_1) 7 v7_2) 3 v7_2) 4 (.int .i64 0)) H3
def O.laws_toInt64S : Nat → Bool × List Nat := fun i => (false, [])
theorem R.laws_toInt64S {a0 : Value} {H : Hp} {K : Value → Hp → Prop} (h : F.laws_toInt64S a0 H K) : HT prg I.laws_toInt64S [a0].toArray H K :=
  HT_of_fev O.laws_toInt64S mixed Try.func15 (by kernel_rfl) (Eq.mpr (by kernel_rfl : fev prg O.laws_toInt64S Try.f15 [a0] H K = F.laws_toInt64S a0 H K) h)

/-! loop.example/g01381/impl.within: function 58 -/
def F.impl_within (a0 a1 a2 : Value) (H : Hp) (K : Value → Hp → Prop) : Prop :=
  ob (vInt .geq a0 a1) fun v9_1 =>
  gop v9_1 true (fun K2 => K2 a0 H) H fun v11_3 H4 =>
  gop v9_1 true (fun K5 => K5 a2 H4) H4 fun v12_6 H7 =>
  gop v9_1 true (fun K8 => ob (vInt .leq v11_3 v12_6) fun u => K8 u H7) H7 fun v13_9 H10 =>
  ob (vPick v9_1 v13_9 (.bool false)) fun v14_11 =>
  K v14_11 H10
def O.impl_within : Nat → Bool × List Nat := fun i => (false, [])
theorem R.impl_within {a0 a1 a2 : Value} {H : Hp} {K : Value → Hp → Prop} (h : F.impl_within a0 a1 a2 H K) : HT prg I.impl_within [a0, a1, a2].toArray H K :=
  HT_of_fev O.impl_within mixed Try.func58 (by kernel_rfl) (Eq.mpr (by kernel_rfl : fev prg O.impl_within Try.f58 [a0, a1, a2] H K = F.impl_within a0 a1 a2 H K) h)

/-! loop.example/g01381/impl.areWithin: function 90 -/
def F.impl_areWithin (a0 a1 a2 : Value) (H : Hp) (K : Value → Hp → Prop) : Prop :=
  jn (fun σ1 H1 =>
    K (.bool true) H1) fun J1 =>
  ob (vLenSl a0) fun v10_2 =>
  lpE (fun Q3 σ3 H3 =>
    ob (vInt .lss (σ3 11) (σ3 10)) fun v12_4 =>
    cnd v12_4
      (ob (vIx 1 (σ3 9) (σ3 11)) fun v13_5 =>
    ob (vLoad v13_5 H3) fun v14_6 =>
    HT prg I.impl_within [v14_6, (σ3 1), (σ3 2)].toArray H3 fun v18_7 H8 =>
    ob (vUn .not v18_7) fun v19_9 =>
    cnd v19_9
      (Q3 .ret (up (up (up (up (up (up (up (up (up (up σ3 12 v12_4) 13 v13_5) 14 v14_6) 8 v14_6) 15 v14_6) 16 (σ3 1)) 17 (σ3 2)) 18 v18_7) 19 v19_9) 6 (.bool false)) H8)
      (ob (vInt .add (σ3 11) (.int .i64 1)) fun v20_10 =>
    Q3 .normal (up (up (up (up (up (up (up (up (up (up (up σ3 12 v12_4) 13 v13_5) 14 v14_6) 8 v14_6) 15 v14_6) 16 (σ3 1)) 17 (σ3 2)) 18 v18_7) 19 v19_9) 20 v20_10) 11 v20_10) H8))
      (Q3 (.exit 0) (up σ3 12 v12_4) H3)) (blkQ 0 (thenQ J1 (retQ prg [(.tmp 6)] K))) (up (up (up (up (S0 [a0, a1, a2]) 6 (.bool false)) 9 a0) 10 v10_2) 11 (.int .i64 0)) H
def O.impl_areWithin : Nat → Bool × List Nat := fun i => (false, [])
theorem R.impl_areWithin {a0 a1 a2 : Value} {H : Hp} {K : Value → Hp → Prop} (h : F.impl_areWithin a0 a1 a2 H K) : HT prg I.impl_areWithin [a0, a1, a2].toArray H K :=
  HT_of_fev O.impl_areWithin mixed Try.func90 (by kernel_rfl) (Eq.mpr (by kernel_rfl : fev prg O.impl_areWithin Try.f90 [a0, a1, a2] H K = F.impl_areWithin a0 a1 a2 H K) h)

/-! loop.example/g01381/impl.areMany: function 49 -/
def F.impl_areMany (a0 a1 a2 a3 a4 : Value) (H : Hp) (K : Value → Hp → Prop) : Prop :=
  ob (vLenSl a0) fun v12_1 =>
  HT prg I.impl_within [v12_1, a1, a2].toArray H fun v15_2 H3 =>
  gop v15_2 true (fun K4 => K4 a0 H3) H3 fun v17_5 H6 =>
  gop v15_2 true (fun K7 => K7 a3 H6) H6 fun v18_8 H9 =>
  gop v15_2 true (fun K10 => K10 a4 H9) H9 fun v19_11 H12 =>
  gop v15_2 true (fun K13 => HT prg I.impl_areWithin [v17_5, v18_8, v19_11].toArray H12 K13) H12 fun v20_14 H15 =>
  ob (vPick v15_2 v20_14 (.bool false)) fun v21_16 =>
  K v21_16 H15
def O.impl_areMany : Nat → Bool × List Nat := fun i => (false, [])
theorem R.impl_areMany {a0 a1 a2 a3 a4 : Value} {H : Hp} {K : Value → Hp → Prop} (h : F.impl_areMany a0 a1 a2 a3 a4 H K) : HT prg I.impl_areMany [a0, a1, a2, a3, a4].toArray H K :=
  HT_of_fev O.impl_areMany mixed Try.func49 (by kernel_rfl) (Eq.mpr (by kernel_rfl : fev prg O.impl_areMany Try.f49 [a0, a1, a2, a3, a4] H K = F.impl_areMany a0 a1 a2 a3 a4 H K) h)

/-! loop.example/g01381/impl.IsLane: function 16 -/
def F.impl_IsLane (a0 : Value) (H : Hp) (K : Value → Hp → Prop) : Prop :=
  HT prg I.impl_areMany [a0, (.int .i64 1), (.int .i64 64), (.int .i64 (-1)), (.int .i64 5)].toArray H fun v4_1 H2 =>
  K v4_1 H2
def O.impl_IsLane : Nat → Bool × List Nat := fun i => (false, [])
theorem R.impl_IsLane {a0 : Value} {H : Hp} {K : Value → Hp → Prop} (h : F.impl_IsLane a0 H K) : HT prg I.impl_IsLane [a0].toArray H K :=
  HT_of_fev O.impl_IsLane mixed Try.func16 (by kernel_rfl) (Eq.mpr (by kernel_rfl : fev prg O.impl_IsLane Try.f16 [a0] H K = F.impl_IsLane a0 H K) h)

/-! loop.example/g01381/laws.eqInt64S: function 17 -/
def F.laws_eqInt64S (a0 a1 : Value) (H : Hp) (K : Value → Hp → Prop) : Prop :=
  ob (vLenSl a0) fun v7_1 =>
  ob (vLenSl a1) fun v9_2 =>
  ob (vInt .neq v7_1 v9_2) fun v10_3 =>
  cnd v10_3
    (K (.bool false) H)
    (jn (fun σ4 H4 =>
    K (.bool true) H4) fun J4 =>
  lpE (fun Q5 σ5 H5 =>
    ob (vLenSl (σ5 0)) fun v13_6 =>
    ob (vInt .lss (σ5 5) v13_6) fun v14_7 =>
    cnd v14_7
      (ob (vIx 1 (σ5 0) (σ5 5)) fun v19_8 =>
    ob (vLoad v19_8 H5) fun v20_9 =>
    ob (vIx 1 (σ5 1) (σ5 5)) fun v23_10 =>
    ob (vLoad v23_10 H5) fun v24_11 =>
    ob (vInt .neq v20_9 v24_11) fun v25_12 =>
    cnd v25_12
      (Q5 .ret (up (up (up (up (up (up (up (up (up (up (up (up (up (up σ5 11 (σ5 5)) 12 (σ5 0)) 13 v13_6) 14 v14_7) 17 (σ5 0)) 18 (σ5 5)) 19 v19_8) 20 v20_9) 21 (σ5 1)) 22 (σ5 5)) 23 v23_10) 24 v24_11) 25 v25_12) 4 (.bool false)) H5)
      (ob (vInt .add (σ5 5) (.int .i64 1)) fun v16_13 =>
    Q5 .normal (up (up (up (up (up (up (up (up (up (up (up (up (up (up (up (up σ5 11 (σ5 5)) 12 (σ5 0)) 13 v13_6) 14 v14_7) 17 (σ5 0)) 18 (σ5 5)) 19 v19_8) 20 v20_9) 21 (σ5 1)) 22 (σ5 5)) 23 v23_10) 24 v24_11) 25 v25_12) 15 (σ5 5)) 16 v16_13) 5 v16_13) H5))
      (Q5 (.exit 0) (up (up (up (up σ5 11 (σ5 5)) 12 (σ5 0)) 13 v13_6) 14 v14_7) H5)) (blkQ 0 (thenQ J4 (retQ prg [(.tmp 4)] K))) (up (up (up (up (up (up (up (S0 [a0, a1]) 4 (.bool false)) 6 a0) 7 v7_1) 8 a1) 9 v9_2) 10 v10_3) 5 (.int .i64 0)) H)
def O.laws_eqInt64S : Nat → Bool × List Nat := fun i => bif Nat.beq i 6 then (false, [0, 1, 2, 3, 4, 5, 6, 7, 8]) else (false, [])
theorem R.laws_eqInt64S {a0 a1 : Value} {H : Hp} {K : Value → Hp → Prop} (h : F.laws_eqInt64S a0 a1 H K) : HT prg I.laws_eqInt64S [a0, a1].toArray H K :=
  HT_of_fev O.laws_eqInt64S mixed Try.func17 (by kernel_rfl) (Eq.mpr (by kernel_rfl : fev prg O.laws_eqInt64S Try.f17 [a0, a1] H K = F.laws_eqInt64S a0 a1 H K) h)

/-! loop.example/g01381/laws.FnExactIsLane: function 3 -/
def F.laws_FnExactIsLane (a0 : Value) (H : Hp) (K : Value → Hp → Prop) : Prop :=
  ob (vLenSl a0) fun v7_1 =>
  ob (vInt .gtr v7_1 (.int .i64 1048576)) fun v8_2 =>
  cnd v8_2
    (K (.bool true) H)
    (HT prg I.laws_toInt64S [a0].toArray H fun v10_3 H4 =>
  HT prg I.spec_IsLane [v10_3].toArray H4 fun v11_5 H6 =>
  HT prg I.laws_toInt64S [a0].toArray H6 fun v13_7 H8 =>
  HT prg I.impl_IsLane [v13_7].toArray H8 fun v15_9 H10 =>
  ob (vBool .neq v15_9 v11_5) fun v18_11 =>
  cnd v18_11
    (K (.bool false) H10)
    (HT prg I.laws_toInt64S [a0].toArray H10 fun v21_12 H13 =>
  HT prg I.laws_eqInt64S [v13_7, v21_12].toArray H13 fun v22_14 H15 =>
  ob (vUn .not v22_14) fun v23_16 =>
  cnd v23_16
    (K (.bool false) H15)
    (K (.bool true) H15)))
def O.laws_FnExactIsLane : Nat → Bool × List Nat := fun i => (false, [])
theorem R.laws_FnExactIsLane {a0 : Value} {H : Hp} {K : Value → Hp → Prop} (h : F.laws_FnExactIsLane a0 H K) : HT prg I.laws_FnExactIsLane [a0].toArray H K :=
  HT_of_fev O.laws_FnExactIsLane mixed Try.func3 (by kernel_rfl) (Eq.mpr (by kernel_rfl : fev prg O.laws_FnExactIsLane Try.f3 [a0] H K = F.laws_FnExactIsLane a0 H K) h)

/-! loop.example/g01381/spec.LaneSpeed: function 18 -/
def F.spec_LaneSpeed (a0 : Value) (H : Hp) (K : Value → Hp → Prop) : Prop :=
  HT prg I.spec_l06Lane [a0].toArray H fun v8_1 H2 =>
  ob (vUn .not v8_1) fun v9_3 =>
  cnd v9_3
    (K (.tuple #[(.float .f32 0), (.bool false)]) H2)
    (jn (fun σ4 H4 =>
    ob (vInt .eql (σ4 5) (.int .i64 0)) fun v30_5 =>
    cnd v30_5
      (K (.tuple #[(.float .f32 0), (.bool false)]) H4)
      (ob (vCF .f32 (σ4 4)) fun v32_6 =>
    ob (vCF .f32 (σ4 5)) fun v34_7 =>
    fA .quo v32_6 v34_7 H4 fun v35_8 H9 =>
    K (.tuple #[v35_8, (.bool true)]) H9)) fun J4 =>
  lpE (fun Q10 σ10 H10 =>
    ob (vLenSl (σ10 0)) fun v12_11 =>
    ob (vInt .lss (σ10 6) v12_11) fun v13_12 =>
    cnd v13_12
      (jn (fun σ13 H13 =>
      ob (vInt .add (σ13 6) (.int .i64 1)) fun v15_14 =>
      Q10 .normal (up (up (up σ13 14 (σ13 6)) 15 v15_14) 6 v15_14) H13) fun J13 =>
    ob (vIx 1 (σ10 0) (σ10 6)) fun v18_15 =>
    ob (vLoad v18_15 H10) fun v19_16 =>
    ob (vInt .geq v19_16 (.int .i64 0)) fun v20_17 =>
    cnd v20_17
      (ob (vIx 1 (σ10 0) (σ10 6)) fun v24_18 =>
      ob (vLoad v24_18 H10) fun v25_19 =>
      ob (vInt .add (σ10 4) v25_19) fun v26_20 =>
      ob (vInt .add (σ10 5) (.int .i64 1)) fun v28_21 =>
      J13 (up (up (up (up (up (up (up (up (up (up (up (up (up (up (up (up (up (up (up σ10 10 (σ10 6)) 11 (σ10 0)) 12 v12_11) 13 v13_12) 16 (σ10 0)) 17 (σ10 6)) 18 v18_15) 19 v19_16) 20 v20_17) 21 (σ10 4)) 22 (σ10 0)) 23 (σ10 6)) 24 v24_18) 25 v25_19) 26 v26_20) 4 v26_20) 27 (σ10 5)) 28 v28_21) 5 v28_21) H10)
      (J13 (up (up (up (up (up (up (up (up (up σ10 10 (σ10 6)) 11 (σ10 0)) 12 v12_11) 13 v13_12) 16 (σ10 0)) 17 (σ10 6)) 18 v18_15) 19 v19_16) 20 v20_17) H10))
      (Q10 (.exit 0) (up (up (up (up σ10 10 (σ10 6)) 11 (σ10 0)) 12 v12_11) 13 v13_12) H10)) (blkQ 0 (thenQ J4 (retQ prg [(.tmp 2), (.tmp 3)] K))) (up (up (up (up (up (up (up (up (S0 [a0]) 2 (.float .f32 0)) 3 (.bool false)) 7 a0) 8 v8_1) 9 v9_3) 4 (.int .i64 0)) 5 (.int .i64 0)) 6 (.int .i64 0)) H2)
def O.spec_LaneSpeed : Nat → Bool × List Nat := fun i => (false, [])
theorem R.spec_LaneSpeed {a0 : Value} {H : Hp} {K : Value → Hp → Prop} (h : F.spec_LaneSpeed a0 H K) : HT prg I.spec_LaneSpeed [a0].toArray H K :=
  HT_of_fev O.spec_LaneSpeed mixed Try.func18 (by kernel_rfl) (Eq.mpr (by kernel_rfl : fev prg O.spec_LaneSpeed Try.f18 [a0] H K = F.spec_LaneSpeed a0 H K) h)

/-! loop.example/g01381/impl.LaneSpeed: function 19 -/
def F.impl_LaneSpeed (a0 : Value) (H : Hp) (K : Value → Hp → Prop) : Prop :=
  HT prg I.impl_IsLane [a0].toArray H fun v9_1 H2 =>
  ob (vUn .not v9_1) fun v10_3 =>
  cnd v10_3
    (K (.tuple #[(.float .f32 0), (.bool false)]) H2)
    (jn (fun σ4 H4 =>
    ob (vInt .eql (σ4 5) (.int .i64 0)) fun v26_5 =>
    cnd v26_5
      (K (.tuple #[(.float .f32 0), (.bool false)]) H4)
      (ob (vCF .f32 (σ4 4)) fun v28_6 =>
    ob (vCF .f32 (σ4 5)) fun v30_7 =>
    fA .quo v28_6 v30_7 H4 fun v31_8 H9 =>
    K (.tuple #[v31_8, (.bool true)]) H9)) fun J4 =>
  ob (vLenSl a0) fun v12_10 =>
  lpE (fun Q11 σ11 H11 =>
    ob (vInt .lss (σ11 13) (σ11 12)) fun v14_12 =>
    cnd v14_12
      (jn (fun σ13 H13 =>
      ob (vInt .add (σ13 13) (.int .i64 1)) fun v24_14 =>
      Q11 .normal (up (up σ13 24 v24_14) 13 v24_14) H13) fun J13 =>
    ob (vIx 1 (σ11 11) (σ11 13)) fun v15_15 =>
    ob (vLoad v15_15 H11) fun v16_16 =>
    ob (vInt .geq v16_16 (.int .i64 0)) fun v18_17 =>
    cnd v18_17
      (ob (vInt .add (σ11 4) v16_16) fun v21_18 =>
      ob (vInt .add (σ11 5) (.int .i64 1)) fun v23_19 =>
      J13 (up (up (up (up (up (up (up (up (up (up (up (up (up σ11 14 v14_12) 15 v15_15) 16 v16_16) 7 v16_16) 17 v16_16) 18 v18_17) 19 (σ11 4)) 20 v16_16) 21 v21_18) 4 v21_18) 22 (σ11 5)) 23 v23_19) 5 v23_19) H11)
      (J13 (up (up (up (up (up (up σ11 14 v14_12) 15 v15_15) 16 v16_16) 7 v16_16) 17 v16_16) 18 v18_17) H11))
      (Q11 (.exit 0) (up σ11 14 v14_12) H11)) (blkQ 0 (thenQ J4 (retQ prg [(.tmp 2), (.tmp 3)] K))) (up (up (up (up (up (up (up (up (up (up (S0 [a0]) 2 (.float .f32 0)) 3 (.bool false)) 8 a0) 9 v9_1) 10 v10_3) 4 (.int .i64 0)) 5 (.int .i64 0)) 11 a0) 12 v12_10) 13 (.int .i64 0)) H2)
def O.impl_LaneSpeed : Nat → Bool × List Nat := fun i => (false, [])
theorem R.impl_LaneSpeed {a0 : Value} {H : Hp} {K : Value → Hp → Prop} (h : F.impl_LaneSpeed a0 H K) : HT prg I.impl_LaneSpeed [a0].toArray H K :=
  HT_of_fev O.impl_LaneSpeed mixed Try.func19 (by kernel_rfl) (Eq.mpr (by kernel_rfl : fev prg O.impl_LaneSpeed Try.f19 [a0] H K = F.impl_LaneSpeed a0 H K) h)

/-! loop.example/g01381/laws.sameFloat: function 20 -/
def F.laws_sameFloat (a0 a1 : Value) (H : Hp) (K : Value → Hp → Prop) : Prop :=
  ob (vFcmp .neq a0 a0) fun v7_1 =>
  gop v7_1 false (fun K2 => K2 a1 H) H fun v9_3 H4 =>
  gop v7_1 false (fun K5 => K5 a1 H4) H4 fun v10_6 H7 =>
  gop v7_1 false (fun K8 => ob (vFcmp .neq v9_3 v10_6) fun u => K8 u H7) H7 fun v11_9 H10 =>
  ob (vPick v7_1 (.bool true) v11_9) fun v12_11 =>
  cnd v12_11
    (ob (vFcmp .neq a0 a0) fun v15_12 =>
    gop v15_12 true (fun K13 => K13 a1 H10) H10 fun v17_14 H15 =>
    gop v15_12 true (fun K16 => K16 a1 H15) H15 fun v18_17 H18 =>
    gop v15_12 true (fun K19 => ob (vFcmp .neq v17_14 v18_17) fun u => K19 u H18) H18 fun v19_20 H21 =>
    ob (vPick v15_12 v19_20 (.bool false)) fun v20_22 =>
    K v20_22 H21)
    (ob (vFcmp .eql a0 (.float .f64 0)) fun v22_23 =>
  gop v22_23 true (fun K24 => K24 a1 H10) H10 fun v24_25 H26 =>
  gop v22_23 true (fun K27 => ob (vFcmp .eql v24_25 (.float .f64 0)) fun u => K27 u H26) H26 fun v25_28 H29 =>
  ob (vPick v22_23 v25_28 (.bool false)) fun v26_30 =>
  cnd v26_30
    (fA .quo (.float .f64 4607182418800017408) a0 H29 fun v28_31 H32 =>
    ob (vFcmp .gtr v28_31 (.float .f64 0)) fun v29_33 =>
    fA .quo (.float .f64 4607182418800017408) a1 H32 fun v31_34 H35 =>
    ob (vFcmp .gtr v31_34 (.float .f64 0)) fun v32_36 =>
    ob (vBool .eql v29_33 v32_36) fun v33_37 =>
    K v33_37 H35)
    (ob (vFcmp .eql a0 a1) fun v36_38 =>
  K v36_38 H29))
def O.laws_sameFloat : Nat → Bool × List Nat := fun i => (false, [])
theorem R.laws_sameFloat {a0 a1 : Value} {H : Hp} {K : Value → Hp → Prop} (h : F.laws_sameFloat a0 a1 H K) : HT prg I.laws_sameFloat [a0, a1].toArray H K :=
  HT_of_fev O.laws_sameFloat mixed Try.func20 (by kernel_rfl) (Eq.mpr (by kernel_rfl : fev prg O.laws_sameFloat Try.f20 [a0, a1] H K = F.laws_sameFloat a0 a1 H K) h)

/-! loop.example/g01381/laws.FnExactLaneSpeed: function 4 -/
def F.laws_FnExactLaneSpeed (a0 : Value) (H : Hp) (K : Value → Hp → Prop) : Prop :=
  ob (vLenSl a0) fun v9_1 =>
  ob (vInt .gtr v9_1 (.int .i64 1048576)) fun v10_2 =>
  cnd v10_2
    (K (.bool true) H)
    (HT prg I.laws_toInt64S [a0].toArray H fun v13_3 H4 =>
  HT prg I.spec_LaneSpeed [v13_3].toArray H4 fun v14_5 H6 =>
  ob (vExt v14_5 0) fun v15_7 =>
  ob (vExt v14_5 1) fun v16_8 =>
  HT prg I.laws_toInt64S [a0].toArray H6 fun v18_9 H10 =>
  HT prg I.impl_LaneSpeed [v18_9].toArray H10 fun v21_11 H12 =>
  ob (vExt v21_11 0) fun v22_13 =>
  ob (vExt v21_11 1) fun v23_14 =>
  fC .f64 v22_13 H12 fun v25_15 H16 =>
  fC .f64 v15_7 H16 fun v27_17 H18 =>
  HT prg I.laws_sameFloat [v25_15, v27_17].toArray H18 fun v28_19 H20 =>
  ob (vUn .not v28_19) fun v29_21 =>
  gop v29_21 false (fun K22 => K22 v23_14 H20) H20 fun v31_23 H24 =>
  gop v29_21 false (fun K25 => K25 v16_8 H24) H24 fun v32_26 H27 =>
  gop v29_21 false (fun K28 => ob (vBool .neq v31_23 v32_26) fun u => K28 u H27) H27 fun v33_29 H30 =>
  ob (vPick v29_21 (.bool true) v33_29) fun v34_31 =>
  cnd v34_31
    (K (.bool false) H30)
    (HT prg I.laws_toInt64S [a0].toArray H30 fun v37_32 H33 =>
  HT prg I.laws_eqInt64S [v18_9, v37_32].toArray H33 fun v38_34 H35 =>
  ob (vUn .not v38_34) fun v39_36 =>
  cnd v39_36
    (K (.bool false) H35)
    (K (.bool true) H35)))
def O.laws_FnExactLaneSpeed : Nat → Bool × List Nat := fun i => (false, [])
theorem R.laws_FnExactLaneSpeed {a0 : Value} {H : Hp} {K : Value → Hp → Prop} (h : F.laws_FnExactLaneSpeed a0 H K) : HT prg I.laws_FnExactLaneSpeed [a0].toArray H K :=
  HT_of_fev O.laws_FnExactLaneSpeed mixed Try.func4 (by kernel_rfl) (Eq.mpr (by kernel_rfl : fev prg O.laws_FnExactLaneSpeed Try.f4 [a0] H K = F.laws_FnExactLaneSpeed a0 H K) h)

/-! loop.example/g01381/spec.l06Changes: function 50 -/
def F.spec_l06Changes (a0 a1 a2 : Value) (H : Hp) (K : Value → Hp → Prop) : Prop :=
  ob (vLenSl a0) fun v9_1 =>
  ob (vIx 1 a0 a2) fun v12_2 =>
  ob (vLoad v12_2 H) fun v13_3 =>
  ob (vInt .geq v13_3 (.int .i64 0)) fun v14_4 =>
  gop v14_4 true (fun K5 => K5 a0 H) H fun v16_6 H7 =>
  gop v14_4 true (fun K8 => K8 a2 H7) H7 fun v17_9 H10 =>
  gop v14_4 true (fun K11 => ob (vInt .add v17_9 (.int .i64 1)) fun u => K11 u H10) H10 fun v18_12 H13 =>
  gop v14_4 true (fun K14 => K14 v9_1 H13) H13 fun v19_15 H16 =>
  gop v14_4 true (fun K17 => ob (vInt .rem v18_12 v19_15) fun u => K17 u H16) H16 fun v20_18 H19 =>
  gop v14_4 true (fun K20 => ob (vIx 1 v16_6 v20_18) fun u => K20 u H19) H19 fun v21_21 H22 =>
  gop v14_4 true (fun K23 => ob (vLoad v21_21 H22) fun u => K23 u H22) H22 fun v22_24 H25 =>
  gop v14_4 true (fun K26 => ob (vInt .geq v22_24 (.int .i64 0)) fun u => K26 u H25) H25 fun v23_27 H28 =>
  ob (vPick v14_4 v23_27 (.bool false)) fun v24_29 =>
  gop v24_29 true (fun K30 => K30 a1 H28) H28 fun v26_31 H32 =>
  gop v24_29 true (fun K33 => K33 a2 H32) H32 fun v27_34 H35 =>
  gop v24_29 true (fun K36 => ob (vIx 1 v26_31 v27_34) fun u => K36 u H35) H35 fun v28_37 H38 =>
  gop v24_29 true (fun K39 => ob (vLoad v28_37 H38) fun u => K39 u H38) H38 fun v29_40 H41 =>
  gop v24_29 true (fun K42 => ob (vInt .lss v29_40 (.int .i64 0)) fun u => K42 u H41) H41 fun v30_43 H44 =>
  ob (vPick v24_29 v30_43 (.bool false)) fun v31_45 =>
  gop v31_45 true (fun K46 => K46 a1 H44) H44 fun v33_47 H48 =>
  gop v31_45 true (fun K49 => K49 a2 H48) H48 fun v34_50 H51 =>
  gop v31_45 true (fun K52 => ob (vInt .add v34_50 (.int .i64 1)) fun u => K52 u H51) H51 fun v35_53 H54 =>
  gop v31_45 true (fun K55 => K55 v9_1 H54) H54 fun v36_56 H57 =>
  gop v31_45 true (fun K58 => ob (vInt .rem v35_53 v36_56) fun u => K58 u H57) H57 fun v37_59 H60 =>
  gop v31_45 true (fun K61 => ob (vIx 1 v33_47 v37_59) fun u => K61 u H60) H60 fun v38_62 H63 =>
  gop v31_45 true (fun K64 => ob (vLoad v38_62 H63) fun u => K64 u H63) H63 fun v39_65 H66 =>
  gop v31_45 true (fun K67 => ob (vInt .lss v39_65 (.int .i64 0)) fun u => K67 u H66) H66 fun v40_68 H69 =>
  ob (vPick v31_45 v40_68 (.bool false)) fun v41_70 =>
  gop v41_70 true (fun K71 => K71 a1 H69) H69 fun v43_72 H73 =>
  gop v41_70 true (fun K74 => K74 a2 H73) H73 fun v44_75 H76 =>
  gop v41_70 true (fun K77 => K77 v9_1 H76) H76 fun v45_78 H79 =>
  gop v41_70 true (fun K80 => ob (vInt .add v44_75 v45_78) fun u => K80 u H79) H79 fun v46_81 H82 =>
  gop v41_70 true (fun K83 => ob (vInt .sub v46_81 (.int .i64 1)) fun u => K83 u H82) H82 fun v47_84 H85 =>
  gop v41_70 true (fun K86 => K86 v9_1 H85) H85 fun v48_87 H88 =>
  gop v41_70 true (fun K89 => ob (vInt .rem v47_84 v48_87) fun u => K89 u H88) H88 fun v49_90 H91 =>
  gop v41_70 true (fun K92 => ob (vIx 1 v43_72 v49_90) fun u => K92 u H91) H91 fun v50_93 H94 =>
  gop v41_70 true (fun K95 => ob (vLoad v50_93 H94) fun u => K95 u H94) H94 fun v51_96 H97 =>
  gop v41_70 true (fun K98 => ob (vInt .lss v51_96 (.int .i64 0)) fun u => K98 u H97) H97 fun v52_99 H100 =>
  ob (vPick v41_70 v52_99 (.bool false)) fun v53_101 =>
  K v53_101 H100
def O.spec_l06Changes : Nat → Bool × List Nat := fun i => (false, [])
theorem R.spec_l06Changes {a0 a1 a2 : Value} {H : Hp} {K : Value → Hp → Prop} (h : F.spec_l06Changes a0 a1 a2 H K) : HT prg I.spec_l06Changes [a0, a1, a2].toArray H K :=
  HT_of_fev O.spec_l06Changes mixed Try.func50 (by kernel_rfl) (Eq.mpr (by kernel_rfl : fev prg O.spec_l06Changes Try.f50 [a0, a1, a2] H K = F.spec_l06Changes a0 a1 a2 H K) h)

/-! loop.example/g01381/spec.SwitchLanes: function 21 -/
def F.spec_SwitchLanes (a0 a1 : Value) (H : Hp) (K : Value → Hp → Prop) : Prop :=
  HT prg I.spec_l06Lane [a0].toArray H fun v11_1 H2 =>
  ob (vUn .not v11_1) fun v12_3 =>
  gop v12_3 false (fun K4 => K4 a1 H2) H2 fun v14_5 H6 =>
  gop v12_3 false (fun K7 => HT prg I.spec_l06Lane [v14_5].toArray H6 K7) H6 fun v15_8 H9 =>
  gop v12_3 false (fun K10 => ob (vUn .not v15_8) fun u => K10 u H9) H9 fun v16_11 H12 =>
  ob (vPick v12_3 (.bool true) v16_11) fun v17_13 =>
  gop v17_13 false (fun K14 => K14 a0 H12) H12 fun v19_15 H16 =>
  gop v17_13 false (fun K17 => ob (vLenSl v19_15) fun u => K17 u H16) H16 fun v20_18 H19 =>
  gop v17_13 false (fun K20 => K20 a1 H19) H19 fun v21_21 H22 =>
  gop v17_13 false (fun K23 => ob (vLenSl v21_21) fun u => K23 u H22) H22 fun v22_24 H25 =>
  gop v17_13 false (fun K26 => ob (vInt .neq v20_18 v22_24) fun u => K26 u H25) H25 fun v23_27 H28 =>
  ob (vPick v17_13 (.bool true) v23_27) fun v24_29 =>
  cnd v24_29
    (K (.tuple #[(.slice none 0 0), (.slice none 0 0), (.bool false)]) H28)
    (bS 1 0 #[(.int .i64 0)] 2 [] H28 fun v25_30 H31 =>
  apd 1 8 #[(.int .i64 0)] 2 v25_30 a0 H31 fun v27_32 H33 =>
  bS 1 0 #[(.int .i64 0)] 2 [] H33 fun v28_34 H35 =>
  apd 1 8 #[(.int .i64 0)] 2 v28_34 a1 H35 fun v30_36 H37 =>
  jn (fun σ38 H38 =>
    K (.tuple #[(σ38 7), (σ38 8), (.bool true)]) H38) fun J38 =>
  lpE (fun Q39 σ39 H39 =>
    ob (vLenSl (σ39 0)) fun v33_40 =>
    ob (vInt .lss (σ39 9) v33_40) fun v34_41 =>
    cnd v34_41
      (jn (fun σ42 H42 =>
      ob (vInt .add (σ42 9) (.int .i64 1)) fun v36_43 =>
      Q39 .normal (up (up (up σ42 35 (σ42 9)) 36 v36_43) 9 v36_43) H42) fun J42 =>
    jn (fun σ44 H44 =>
      HT prg I.spec_l06Changes [(σ44 1), (σ44 0), (σ44 9)].toArray H44 fun v54_45 H46 =>
      cnd v54_45
        (ob (vIx 1 (σ44 8) (σ44 9)) fun v57_47 =>
        st 1 v57_47 (.int .i64 (-1)) H46 fun H48 =>
        ob (vIx 1 (σ44 1) (σ44 9)) fun v62_49 =>
        ob (vLoad v62_49 H48) fun v63_50 =>
        ob (vIx 1 (σ44 7) (σ44 9)) fun v64_51 =>
        st 1 v64_51 v63_50 H48 fun H52 =>
        J42 (up (up (up (up (up (up (up (up (up (up (up (up (up (up σ44 51 (σ44 1)) 52 (σ44 0)) 53 (σ44 9)) 54 v54_45) 55 (σ44 8)) 56 (σ44 9)) 57 v57_47) 58 (σ44 7)) 59 (σ44 9)) 60 (σ44 1)) 61 (σ44 9)) 62 v62_49) 63 v63_50) 64 v64_51) H52)
        (J42 (up (up (up (up σ44 51 (σ44 1)) 52 (σ44 0)) 53 (σ44 9)) 54 v54_45) H46)) fun J44 =>
    HT prg I.spec_l06Changes [(σ39 0), (σ39 1), (σ39 9)].toArray H39 fun v40_53 H54 =>
    cnd v40_53
      (ob (vIx 1 (σ39 7) (σ39 9)) fun v43_55 =>
      st 1 v43_55 (.int .i64 (-1)) H54 fun H56 =>
      ob (vIx 1 (σ39 0) (σ39 9)) fun v48_57 =>
      ob (vLoad v48_57 H56) fun v49_58 =>
      ob (vIx 1 (σ39 8) (σ39 9)) fun v50_59 =>
      st 1 v50_59 v49_58 H56 fun H60 =>
      J44 (up (up (up (up (up (up (up (up (up (up (up (up (up (up (up (up (up (up σ39 31 (σ39 9)) 32 (σ39 0)) 33 v33_40) 34 v34_41) 37 (σ39 0)) 38 (σ39 1)) 39 (σ39 9)) 40 v40_53) 41 (σ39 7)) 42 (σ39 9)) 43 v43_55) 44 (σ39 8)) 45 (σ39 9)) 46 (σ39 0)) 47 (σ39 9)) 48 v48_57) 49 v49_58) 50 v50_59) H60)
      (J44 (up (up (up (up (up (up (up (up σ39 31 (σ39 9)) 32 (σ39 0)) 33 v33_40) 34 v34_41) 37 (σ39 0)) 38 (σ39 1)) 39 (σ39 9)) 40 v40_53) H54))
      (Q39 (.exit 0) (up (up (up (up σ39 31 (σ39 9)) 32 (σ39 0)) 33 v33_40) 34 v34_41) H39)) (blkQ 0 (thenQ J38 (retQ prg [(.tmp 4), (.tmp 5), (.tmp 6)] K))) (up (up (up (up (up (up (up (up (up (up (up (up (up (up (up (up (up (up (up (up (up (up (up (up (up (up (up (S0 [a0, a1]) 4 (.slice none 0 0)) 5 (.slice none 0 0)) 6 (.bool false)) 10 a0) 11 v11_1) 12 v12_3) 13 v12_3) 14 v14_5) 15 v15_8) 16 v16_11) 17 v17_13) 18 v17_13) 19 v19_15) 20 v20_18) 21 v21_21) 22 v22_24) 23 v23_27) 24 v24_29) 25 v25_30) 26 a0) 27 v27_32) 7 v27_32) 28 v28_34) 29 a1) 30 v30_36) 8 v30_36) 9 (.int .i64 0)) H37)
def O.spec_SwitchLanes : Nat → Bool × List Nat := fun i => (false, [])
theorem R.spec_SwitchLanes {a0 a1 : Value} {H : Hp} {K : Value → Hp → Prop} (h : F.spec_SwitchLanes a0 a1 H K) : HT prg I.spec_SwitchLanes [a0, a1].toArray H K :=
  HT_of_fev O.spec_SwitchLanes mixed Try.func21 (by kernel_rfl) (Eq.mpr (by kernel_rfl : fev prg O.spec_SwitchLanes Try.f21 [a0, a1] H K = F.spec_SwitchLanes a0 a1 H K) h)

/-! loop.example/g01381/impl.SwitchLanes$1: function 51 -/
def F.impl_SwitchLanes_1 (a0 a1 a2 a3 : Value) (H : Hp) (K : Value → Hp → Prop) : Prop :=
  ob (vIx 1 a0 a2) fun v10_1 =>
  ob (vLoad v10_1 H) fun v11_2 =>
  ob (vInt .geq v11_2 (.int .i64 0)) fun v12_3 =>
  gop v12_3 true (fun K4 => K4 a0 H) H fun v14_5 H6 =>
  gop v12_3 true (fun K7 => K7 a2 H6) H6 fun v15_8 H9 =>
  gop v12_3 true (fun K10 => ob (vInt .add v15_8 (.int .i64 1)) fun u => K10 u H9) H9 fun v16_11 H12 =>
  gop v12_3 true (fun K13 => ob (vLoad a3 H12) fun u => K13 u H12) H12 fun v17_14 H15 =>
  gop v12_3 true (fun K16 => ob (vInt .rem v16_11 v17_14) fun u => K16 u H15) H15 fun v18_17 H18 =>
  gop v12_3 true (fun K19 => ob (vIx 1 v14_5 v18_17) fun u => K19 u H18) H18 fun v19_20 H21 =>
  gop v12_3 true (fun K22 => ob (vLoad v19_20 H21) fun u => K22 u H21) H21 fun v20_23 H24 =>
  gop v12_3 true (fun K25 => ob (vInt .geq v20_23 (.int .i64 0)) fun u => K25 u H24) H24 fun v21_26 H27 =>
  ob (vPick v12_3 v21_26 (.bool false)) fun v22_28 =>
  gop v22_28 true (fun K29 => K29 a1 H27) H27 fun v24_30 H31 =>
  gop v22_28 true (fun K32 => K32 a2 H31) H31 fun v25_33 H34 =>
  gop v22_28 true (fun K35 => ob (vIx 1 v24_30 v25_33) fun u => K35 u H34) H34 fun v26_36 H37 =>
  gop v22_28 true (fun K38 => ob (vLoad v26_36 H37) fun u => K38 u H37) H37 fun v27_39 H40 =>
  gop v22_28 true (fun K41 => ob (vInt .lss v27_39 (.int .i64 0)) fun u => K41 u H40) H40 fun v28_42 H43 =>
  ob (vPick v22_28 v28_42 (.bool false)) fun v29_44 =>
  gop v29_44 true (fun K45 => K45 a1 H43) H43 fun v31_46 H47 =>
  gop v29_44 true (fun K48 => K48 a2 H47) H47 fun v32_49 H50 =>
  gop v29_44 true (fun K51 => ob (vLoad a3 H50) fun u => K51 u H50) H50 fun v33_52 H53 =>
  gop v29_44 true (fun K54 => ob (vInt .add v32_49 v33_52) fun u => K54 u H53) H53 fun v34_55 H56 =>
  gop v29_44 true (fun K57 => ob (vInt .sub v34_55 (.int .i64 1)) fun u => K57 u H56) H56 fun v35_58 H59 =>
  gop v29_44 true (fun K60 => ob (vLoad a3 H59) fun u => K60 u H59) H59 fun v36_61 H62 =>
  gop v29_44 true (fun K63 => ob (vInt .rem v35_58 v36_61) fun u => K63 u H62) H62 fun v37_64 H65 =>
  gop v29_44 true (fun K66 => ob (vIx 1 v31_46 v37_64) fun u => K66 u H65) H65 fun v38_67 H68 =>
  gop v29_44 true (fun K69 => ob (vLoad v38_67 H68) fun u => K69 u H68) H68 fun v39_70 H71 =>
  gop v29_44 true (fun K72 => ob (vInt .lss v39_70 (.int .i64 0)) fun u => K72 u H71) H71 fun v40_73 H74 =>
  ob (vPick v29_44 v40_73 (.bool false)) fun v41_75 =>
  gop v41_75 true (fun K76 => K76 a1 H74) H74 fun v43_77 H78 =>
  gop v41_75 true (fun K79 => K79 a2 H78) H78 fun v44_80 H81 =>
  gop v41_75 true (fun K82 => ob (vInt .add v44_80 (.int .i64 1)) fun u => K82 u H81) H81 fun v45_83 H84 =>
  gop v41_75 true (fun K85 => ob (vLoad a3 H84) fun u => K85 u H84) H84 fun v46_86 H87 =>
  gop v41_75 true (fun K88 => ob (vInt .rem v45_83 v46_86) fun u => K88 u H87) H87 fun v47_89 H90 =>
  gop v41_75 true (fun K91 => ob (vIx 1 v43_77 v47_89) fun u => K91 u H90) H90 fun v48_92 H93 =>
  gop v41_75 true (fun K94 => ob (vLoad v48_92 H93) fun u => K94 u H93) H93 fun v49_95 H96 =>
  gop v41_75 true (fun K97 => ob (vInt .lss v49_95 (.int .i64 0)) fun u => K97 u H96) H96 fun v50_98 H99 =>
  ob (vPick v41_75 v50_98 (.bool false)) fun v51_100 =>
  K v51_100 H99
def O.impl_SwitchLanes_1 : Nat → Bool × List Nat := fun i => (false, [])
theorem R.impl_SwitchLanes_1 {a0 a1 a2 a3 : Value} {H : Hp} {K : Value → Hp → Prop} (h : F.impl_SwitchLanes_1 a0 a1 a2 a3 H K) : HT prg I.impl_SwitchLanes_1 [a0, a1, a2, a3].toArray H K :=
  HT_of_fev O.impl_SwitchLanes_1 mixed Try.func51 (by kernel_rfl) (Eq.mpr (by kernel_rfl : fev prg O.impl_SwitchLanes_1 Try.f51 [a0, a1, a2, a3] H K = F.impl_SwitchLanes_1 a0 a1 a2 a3 H K) h)

/-! slices.Clone[[]int64,int64]: function 52 -/
def F.slices_Clone_int64_int64 (a0 : Value) (H : Hp) (K : Value → Hp → Prop) : Prop :=
  ob (vSlEq .eql a0 (.slice none 0 0)) fun v4_1 =>
  cnd v4_1
    (K (.slice none 0 0) H)
    (bS 1 0 #[(.int .i64 0)] 2 [] H fun v5_2 H3 =>
  apd 1 8 #[(.int .i64 0)] 2 v5_2 a0 H3 fun v7_4 H5 =>
  K v7_4 H5)
def O.slices_Clone_int64_int64 : Nat → Bool × List Nat := fun i => (false, [])
theorem R.slices_Clone_int64_int64 {a0 : Value} {H : Hp} {K : Value → Hp → Prop} (h : F.slices_Clone_int64_int64 a0 H K) : HT prg I.slices_Clone_int64_int64 [a0].toArray H K :=
  HT_of_fev O.slices_Clone_int64_int64 mixed Try.func52 (by kernel_rfl) (Eq.mpr (by kernel_rfl : fev prg O.slices_Clone_int64_int64 Try.f52 [a0] H K = F.slices_Clone_int64_int64 a0 H K) h)

/-! loop.example/g01381/impl.SwitchLanes: function 22 -/
def F.impl_SwitchLanes (a0 a1 : Value) (H : Hp) (K : Value → Hp → Prop) : Prop :=
  HT prg I.impl_IsLane [a0].toArray H fun v13_1 H2 =>
  ob (vUn .not v13_1) fun v14_3 =>
  gop v14_3 false (fun K4 => K4 a1 H2) H2 fun v16_5 H6 =>
  gop v14_3 false (fun K7 => HT prg I.impl_IsLane [v16_5].toArray H6 K7) H6 fun v17_8 H9 =>
  gop v14_3 false (fun K10 => ob (vUn .not v17_8) fun u => K10 u H9) H9 fun v18_11 H12 =>
  ob (vPick v14_3 (.bool true) v18_11) fun v19_13 =>
  gop v19_13 false (fun K14 => K14 a0 H12) H12 fun v21_15 H16 =>
  gop v19_13 false (fun K17 => ob (vLenSl v21_15) fun u => K17 u H16) H16 fun v22_18 H19 =>
  gop v19_13 false (fun K20 => K20 a1 H19) H19 fun v23_21 H22 =>
  gop v19_13 false (fun K23 => ob (vLenSl v23_21) fun u => K23 u H22) H22 fun v24_24 H25 =>
  gop v19_13 false (fun K26 => ob (vInt .neq v22_18 v24_24) fun u => K26 u H25) H25 fun v25_27 H28 =>
  ob (vPick v19_13 (.bool true) v25_27) fun v26_29 =>
  cnd v26_29
    (K (.tuple #[(.slice none 0 0), (.slice none 0 0), (.bool false)]) H28)
    (ob (vLenSl a0) fun v28_30 =>
  nw #[(.int .i64 0)] 3 H28 fun v7_31 H32 =>
  st 1 v7_31 v28_30 H32 fun H33 =>
  HT prg I.slices_Clone_int64_int64 [a0].toArray H33 fun v31_34 H35 =>
  HT prg I.slices_Clone_int64_int64 [a1].toArray H35 fun v33_36 H37 =>
  jn (fun σ38 H38 =>
    K (.tuple #[(σ38 9), (σ38 10), (.bool true)]) H38) fun J38 =>
  ob (vLoad v7_31 H37) fun v34_39 =>
  lpE (fun Q40 σ40 H40 =>
    ob (vInt .lss (σ40 35) (σ40 34)) fun v36_41 =>
    cnd v36_41
      (jn (fun σ42 H42 =>
      ob (vInt .add (σ42 35) (.int .i64 1)) fun v64_43 =>
      Q40 .normal (up (up σ42 64 v64_43) 35 v64_43) H42) fun J42 =>
    callV prg (σ40 8) [(σ40 0), (σ40 1), (σ40 35)] H40 fun v42_44 H45 =>
    gop v42_44 false (fun K46 => K46 (σ40 8) H45) H45 fun v44_47 H48 =>
    gop v42_44 false (fun K49 => K49 (σ40 1) H48) H48 fun v45_50 H51 =>
    gop v42_44 false (fun K52 => K52 (σ40 0) H51) H51 fun v46_53 H54 =>
    gop v42_44 false (fun K55 => K55 (σ40 35) H54) H54 fun v47_56 H57 =>
    gop v42_44 false (fun K58 => callV prg v44_47 [v45_50, v46_53, v47_56] H57 K58) H57 fun v48_59 H60 =>
    ob (vPick v42_44 (.bool true) v48_59) fun v49_61 =>
    cnd v49_61
      (ob (vIx 1 (σ40 1) (σ40 35)) fun v56_62 =>
      ob (vLoad v56_62 H60) fun v57_63 =>
      ob (vIx 1 (σ40 0) (σ40 35)) fun v60_64 =>
      ob (vLoad v60_64 H60) fun v61_65 =>
      ob (vIx 1 (σ40 9) (σ40 35)) fun v62_66 =>
      st 1 v62_66 v57_63 H60 fun H67 =>
      ob (vIx 1 (σ40 10) (σ40 35)) fun v63_68 =>
      st 1 v63_68 v61_65 H67 fun H69 =>
      J42 (up (up (up (up (up (up (up (up (up (up (up (up (up (up (up (up (up (up (up (up (up (up (up (up (up (up (up (up (up σ40 36 v36_41) 37 (σ40 35)) 11 (σ40 35)) 38 (σ40 8)) 39 (σ40 0)) 40 (σ40 1)) 41 (σ40 35)) 42 v42_44) 43 v42_44) 44 v44_47) 45 v45_50) 46 v46_53) 47 v47_56) 48 v48_59) 49 v49_61) 50 (σ40 9)) 51 (σ40 35)) 52 (σ40 10)) 53 (σ40 35)) 54 (σ40 1)) 55 (σ40 35)) 56 v56_62) 57 v57_63) 58 (σ40 0)) 59 (σ40 35)) 60 v60_64) 61 v61_65) 62 v62_66) 63 v63_68) H69)
      (J42 (up (up (up (up (up (up (up (up (up (up (up (up (up (up (up σ40 36 v36_41) 37 (σ40 35)) 11 (σ40 35)) 38 (σ40 8)) 39 (σ40 0)) 40 (σ40 1)) 41 (σ40 35)) 42 v42_44) 43 v42_44) 44 v44_47) 45 v45_50) 46 v46_53) 47 v47_56) 48 v48_59) 49 v49_61) H60))
      (Q40 (.exit 0) (up σ40 36 v36_41) H40)) (blkQ 0 (thenQ J38 (retQ prg [(.tmp 4), (.tmp 5), (.tmp 6)] K))) (up (up (up (up (up (up (up (up (up (up (up (up (up (up (up (up (up (up (up (up (up (up (up (up (up (up (up (up (up (up (up (S0 [a0, a1]) 4 (.slice none 0 0)) 5 (.slice none 0 0)) 6 (.bool false)) 12 a0) 13 v13_1) 14 v14_3) 15 v14_3) 16 v16_5) 17 v17_8) 18 v18_11) 19 v19_13) 20 v19_13) 21 v21_15) 22 v22_18) 23 v23_21) 24 v24_24) 25 v25_27) 26 v26_29) 27 a0) 28 v28_30) 7 v7_31) 29 (.func (.func I.impl_SwitchLanes_1) #[] #[v7_31])) 8 (.func (.func I.impl_SwitchLanes_1) #[] #[v7_31])) 30 a0) 31 v31_34) 32 a1) 33 v33_36) 9 v31_34) 10 v33_36) 34 v34_39) 35 (.int .i64 0)) H37)
def O.impl_SwitchLanes : Nat → Bool × List Nat := fun i => bif Nat.beq i 10 then (false, [0, 1, 2, 3, 4, 5, 6, 7, 8, 9, 10, 11, 12, 13, 14, 15]) else (false, [])
theorem R.impl_SwitchLanes {a0 a1 : Value} {H : Hp} {K : Value → Hp → Prop} (h : F.impl_SwitchLanes a0 a1 H K) : HT prg I.impl_SwitchLanes [a0, a1].toArray H K :=
  HT_of_fev O.impl_SwitchLanes mixed Try.func22 (by kernel_rfl) (Eq.mpr (by kernel_rfl : fev prg O.impl_SwitchLanes Try.f22 [a0, a1] H K = F.impl_SwitchLanes a0 a1 H K) h)

/-! loop.example/g01381/laws.markInt64S: function 23 -/
def F.laws_markInt64S (a0 a1 : Value) (H : Hp) (K : Value → Hp → Prop) : Prop :=
  jn (fun σ1 H1 =>
    K (σ1 1) H1) fun J1 =>
  lpE (fun Q2 σ2 H2 =>
    ob (vLenSl (σ2 0)) fun v8_3 =>
    ob (vInt .lss (σ2 5) v8_3) fun v9_4 =>
    cnd v9_4
      (ob (vIx 1 (σ2 0) (σ2 5)) fun v15_5 =>
    st 1 v15_5 (σ2 1) H2 fun H6 =>
    ob (vInt .add (σ2 1) (.int .i64 1)) fun v17_7 =>
    ob (vInt .add (σ2 5) (.int .i64 1)) fun v11_8 =>
    Q2 .normal (up (up (up (up (up (up (up (up (up (up (up (up (up (up σ2 6 (σ2 5)) 7 (σ2 0)) 8 v8_3) 9 v9_4) 12 (σ2 0)) 13 (σ2 5)) 14 (σ2 1)) 15 v15_5) 16 (σ2 1)) 17 v17_7) 1 v17_7) 10 (σ2 5)) 11 v11_8) 5 v11_8) H6)
      (Q2 (.exit 0) (up (up (up (up σ2 6 (σ2 5)) 7 (σ2 0)) 8 v8_3) 9 v9_4) H2)) (blkQ 0 (thenQ J1 (retQ prg [(.tmp 4)] K))) (up (up (S0 [a0, a1]) 4 (.int .i64 0)) 5 (.int .i64 0)) H
def O.laws_markInt64S : Nat → Bool × List Nat := fun i => (false, [])
theorem R.laws_markInt64S {a0 a1 : Value} {H : Hp} {K : Value → Hp → Prop} (h : F.laws_markInt64S a0 a1 H K) : HT prg I.laws_markInt64S [a0, a1].toArray H K :=
  HT_of_fev O.laws_markInt64S mixed Try.func23 (by kernel_rfl) (Eq.mpr (by kernel_rfl : fev prg O.laws_markInt64S Try.f23 [a0, a1] H K = F.laws_markInt64S a0 a1 H K) h)

/-! loop.example/g01381/laws.heldInt64S: function 24 -/
def F.laws_heldInt64S (a0 a1 : Value) (H : Hp) (K : Value → Hp → Prop) : Prop :=
  jn (fun σ1 H1 =>
    K (σ1 1) H1) fun J1 =>
  lpE (fun Q2 σ2 H2 =>
    ob (vLenSl (σ2 0)) fun v8_3 =>
    ob (vInt .lss (σ2 5) v8_3) fun v9_4 =>
    cnd v9_4
      (ob (vIx 1 (σ2 0) (σ2 5)) fun v14_5 =>
    ob (vLoad v14_5 H2) fun v15_6 =>
    ob (vInt .neq v15_6 (σ2 1)) fun v17_7 =>
    cnd v17_7
      (Q2 .ret (up (up (up (up (up (up (up (up (up (up (up σ2 6 (σ2 5)) 7 (σ2 0)) 8 v8_3) 9 v9_4) 12 (σ2 0)) 13 (σ2 5)) 14 v14_5) 15 v15_6) 16 (σ2 1)) 17 v17_7) 4 (.int .i64 (-1))) H2)
      (ob (vInt .add (σ2 1) (.int .i64 1)) fun v19_8 =>
    ob (vInt .add (σ2 5) (.int .i64 1)) fun v11_9 =>
    Q2 .normal (up (up (up (up (up (up (up (up (up (up (up (up (up (up (up (up σ2 6 (σ2 5)) 7 (σ2 0)) 8 v8_3) 9 v9_4) 12 (σ2 0)) 13 (σ2 5)) 14 v14_5) 15 v15_6) 16 (σ2 1)) 17 v17_7) 18 (σ2 1)) 19 v19_8) 1 v19_8) 10 (σ2 5)) 11 v11_9) 5 v11_9) H2))
      (Q2 (.exit 0) (up (up (up (up σ2 6 (σ2 5)) 7 (σ2 0)) 8 v8_3) 9 v9_4) H2)) (blkQ 0 (thenQ J1 (retQ prg [(.tmp 4)] K))) (up (up (S0 [a0, a1]) 4 (.int .i64 0)) 5 (.int .i64 0)) H
def O.laws_heldInt64S : Nat → Bool × List Nat := fun i => (false, [])
theorem R.laws_heldInt64S {a0 a1 : Value} {H : Hp} {K : Value → Hp → Prop} (h : F.laws_heldInt64S a0 a1 H K) : HT prg I.laws_heldInt64S [a0, a1].toArray H K :=
  HT_of_fev O.laws_heldInt64S mixed Try.func24 (by kernel_rfl) (Eq.mpr (by kernel_rfl : fev prg O.laws_heldInt64S Try.f24 [a0, a1] H K = F.laws_heldInt64S a0 a1 H K) h)

/-! loop.example/g01381/laws.FnExactSwitchLanes: function 5 -/
def F.laws_FnExactSwitchLanes (a0 a1 : Value) (H : Hp) (K : Value → Hp → Prop) : Prop :=
  ob (vLenSl a0) fun v20_1 =>
  ob (vInt .gtr v20_1 (.int .i64 1048576)) fun v21_2 =>
  cnd v21_2
    (K (.bool true) H)
    (ob (vLenSl a1) fun v23_3 =>
  ob (vInt .gtr v23_3 (.int .i64 1048576)) fun v24_4 =>
  cnd v24_4
    (K (.bool true) H)
    (HT prg I.laws_toInt64S [a0].toArray H fun v27_5 H6 =>
  HT prg I.laws_toInt64S [a1].toArray H6 fun v29_7 H8 =>
  HT prg I.spec_SwitchLanes [v27_5, v29_7].toArray H8 fun v30_9 H10 =>
  ob (vExt v30_9 0) fun v31_11 =>
  ob (vExt v30_9 1) fun v32_12 =>
  ob (vExt v30_9 2) fun v33_13 =>
  HT prg I.laws_toInt64S [a0].toArray H10 fun v35_14 H15 =>
  HT prg I.laws_toInt64S [a1].toArray H15 fun v37_16 H17 =>
  HT prg I.impl_SwitchLanes [v35_14, v37_16].toArray H17 fun v41_18 H19 =>
  ob (vExt v41_18 0) fun v42_20 =>
  ob (vExt v41_18 1) fun v43_21 =>
  ob (vExt v41_18 2) fun v44_22 =>
  HT prg I.laws_eqInt64S [v42_20, v31_11].toArray H19 fun v47_23 H24 =>
  ob (vUn .not v47_23) fun v48_25 =>
  gop v48_25 false (fun K26 => K26 v43_21 H24) H24 fun v50_27 H28 =>
  gop v48_25 false (fun K29 => K29 v32_12 H28) H28 fun v51_30 H31 =>
  gop v48_25 false (fun K32 => HT prg I.laws_eqInt64S [v50_27, v51_30].toArray H31 K32) H31 fun v52_33 H34 =>
  gop v48_25 false (fun K35 => ob (vUn .not v52_33) fun u => K35 u H34) H34 fun v53_36 H37 =>
  ob (vPick v48_25 (.bool true) v53_36) fun v54_38 =>
  gop v54_38 false (fun K39 => K39 v44_22 H37) H37 fun v56_40 H41 =>
  gop v54_38 false (fun K42 => K42 v33_13 H41) H41 fun v57_43 H44 =>
  gop v54_38 false (fun K45 => ob (vBool .neq v56_40 v57_43) fun u => K45 u H44) H44 fun v58_46 H47 =>
  ob (vPick v54_38 (.bool true) v58_46) fun v59_48 =>
  cnd v59_48
    (K (.bool false) H47)
    (HT prg I.laws_toInt64S [a0].toArray H47 fun v62_49 H50 =>
  HT prg I.laws_eqInt64S [v35_14, v62_49].toArray H50 fun v63_51 H52 =>
  ob (vUn .not v63_51) fun v64_53 =>
  cnd v64_53
    (K (.bool false) H52)
    (HT prg I.laws_toInt64S [a1].toArray H52 fun v67_54 H55 =>
  HT prg I.laws_eqInt64S [v37_16, v67_54].toArray H55 fun v68_56 H57 =>
  ob (vUn .not v68_56) fun v69_58 =>
  cnd v69_58
    (K (.bool false) H57)
    (HT prg I.laws_markInt64S [v35_14, (.int .i64 1)].toArray H57 fun v72_59 H60 =>
  HT prg I.laws_markInt64S [v37_16, v72_59].toArray H60 fun v75_61 H62 =>
  ob (vInt .lss v75_61 (.int .i64 0)) fun v77_63 =>
  gop v77_63 false (fun K64 => K64 v42_20 H62) H62 fun v79_65 H66 =>
  gop v77_63 false (fun K67 => K67 v31_11 H66) H66 fun v80_68 H69 =>
  gop v77_63 false (fun K70 => HT prg I.laws_eqInt64S [v79_65, v80_68].toArray H69 K70) H69 fun v81_71 H72 =>
  gop v77_63 false (fun K73 => ob (vUn .not v81_71) fun u => K73 u H72) H72 fun v82_74 H75 =>
  ob (vPick v77_63 (.bool true) v82_74) fun v83_76 =>
  gop v83_76 false (fun K77 => K77 v43_21 H75) H75 fun v85_78 H79 =>
  gop v83_76 false (fun K80 => K80 v32_12 H79) H79 fun v86_81 H82 =>
  gop v83_76 false (fun K83 => HT prg I.laws_eqInt64S [v85_78, v86_81].toArray H82 K83) H82 fun v87_84 H85 =>
  gop v83_76 false (fun K86 => ob (vUn .not v87_84) fun u => K86 u H85) H85 fun v88_87 H88 =>
  ob (vPick v83_76 (.bool true) v88_87) fun v89_89 =>
  gop v89_89 false (fun K90 => K90 v44_22 H88) H88 fun v91_91 H92 =>
  gop v89_89 false (fun K93 => K93 v33_13 H92) H92 fun v92_94 H95 =>
  gop v89_89 false (fun K96 => ob (vBool .neq v91_91 v92_94) fun u => K96 u H95) H95 fun v93_97 H98 =>
  ob (vPick v89_89 (.bool true) v93_97) fun v94_99 =>
  cnd v94_99
    (K (.bool false) H98)
    (HT prg I.laws_markInt64S [v42_20, (.int .i64 1)].toArray H98 fun v97_100 H101 =>
  HT prg I.laws_markInt64S [v43_21, v97_100].toArray H101 fun v100_102 H103 =>
  HT prg I.laws_heldInt64S [v42_20, (.int .i64 1)].toArray H103 fun v103_104 H105 =>
  ob (vInt .lss v103_104 (.int .i64 0)) fun v105_106 =>
  cnd v105_106
    (K (.bool false) H105)
    (HT prg I.laws_heldInt64S [v43_21, v103_104].toArray H105 fun v108_107 H108 =>
  ob (vInt .lss v108_107 (.int .i64 0)) fun v110_109 =>
  cnd v110_109
    (K (.bool false) H108)
    (ob (vInt .neq v108_107 v100_102) fun v113_110 =>
  cnd v113_110
    (K (.bool false) H108)
    (HT prg I.laws_toInt64S [a0].toArray H108 fun v116_111 H112 =>
  HT prg I.laws_toInt64S [a1].toArray H112 fun v118_113 H114 =>
  HT prg I.impl_SwitchLanes [v116_111, v118_113].toArray H114 fun v119_115 H116 =>
  ob (vExt v119_115 0) fun v120_117 =>
  ob (vExt v119_115 1) fun v121_118 =>
  ob (vExt v119_115 2) fun v122_119 =>
  HT prg I.laws_eqInt64S [v120_117, v31_11].toArray H116 fun v125_120 H121 =>
  ob (vUn .not v125_120) fun v126_122 =>
  gop v126_122 false (fun K123 => K123 v121_118 H121) H121 fun v128_124 H125 =>
  gop v126_122 false (fun K126 => K126 v32_12 H125) H125 fun v129_127 H128 =>
  gop v126_122 false (fun K129 => HT prg I.laws_eqInt64S [v128_124, v129_127].toArray H128 K129) H128 fun v130_130 H131 =>
  gop v126_122 false (fun K132 => ob (vUn .not v130_130) fun u => K132 u H131) H131 fun v131_133 H134 =>
  ob (vPick v126_122 (.bool true) v131_133) fun v132_135 =>
  gop v132_135 false (fun K136 => K136 v122_119 H134) H134 fun v134_137 H138 =>
  gop v132_135 false (fun K139 => K139 v33_13 H138) H138 fun v135_140 H141 =>
  gop v132_135 false (fun K142 => ob (vBool .neq v134_137 v135_140) fun u => K142 u H141) H141 fun v136_143 H144 =>
  ob (vPick v132_135 (.bool true) v136_143) fun v137_145 =>
  cnd v137_145
    (K (.bool false) H144)
    (HT prg I.laws_heldInt64S [v42_20, (.int .i64 1)].toArray H144 fun v140_146 H147 =>
  ob (vInt .lss v140_146 (.int .i64 0)) fun v142_148 =>
  cnd v142_148
    (K (.bool false) H147)
    (HT prg I.laws_heldInt64S [v43_21, v140_146].toArray H147 fun v145_149 H150 =>
  ob (vInt .lss v145_149 (.int .i64 0)) fun v147_151 =>
  cnd v147_151
    (K (.bool false) H150)
    (ob (vInt .neq v145_149 v100_102) fun v150_152 =>
  cnd v150_152
    (K (.bool false) H150)
    (K (.bool true) H150)))))))))))))
def O.laws_FnExactSwitchLanes : Nat → Bool × List Nat := fun i => (false, [])
theorem R.laws_FnExactSwitchLanes {a0 a1 : Value} {H : Hp} {K : Value → Hp → Prop} (h : F.laws_FnExactSwitchLanes a0 a1 H K) : HT prg I.laws_FnExactSwitchLanes [a0, a1].toArray H K :=
  HT_of_fev O.laws_FnExactSwitchLanes mixed Try.func5 (by kernel_rfl) (Eq.mpr (by kernel_rfl : fev prg O.laws_FnExactSwitchLanes Try.f5 [a0, a1] H K = F.laws_FnExactSwitchLanes a0 a1 H K) h)

/-! loop.example/g01381/spec.l02Share: function 54 -/
def F.spec_l02Share (a0 : Value) (H : Hp) (K : Value → Hp → Prop) : Prop :=
  ob (vFcmp .geq a0 (.float .f32 0)) fun v4_1 =>
  gop v4_1 true (fun K2 => K2 a0 H) H fun v6_3 H4 =>
  gop v4_1 true (fun K5 => ob (vFcmp .leq v6_3 (.float .f32 1065353216)) fun u => K5 u H4) H4 fun v7_6 H7 =>
  ob (vPick v4_1 v7_6 (.bool false)) fun v8_8 =>
  K v8_8 H7
def O.spec_l02Share : Nat → Bool × List Nat := fun i => (false, [])
theorem R.spec_l02Share {a0 : Value} {H : Hp} {K : Value → Hp → Prop} (h : F.spec_l02Share a0 H K) : HT prg I.spec_l02Share [a0].toArray H K :=
  HT_of_fev O.spec_l02Share mixed Try.func54 (by kernel_rfl) (Eq.mpr (by kernel_rfl : fev prg O.spec_l02Share Try.f54 [a0] H K = F.spec_l02Share a0 H K) h)

/-! loop.example/g01381/spec.l00Min: function 55 -/
def F.spec_l00Min (a0 a1 : Value) (H : Hp) (K : Value → Hp → Prop) : Prop :=
  ob (vInt .lss a0 a1) fun v7_1 =>
  cnd v7_1
    (K a0 H)
    (K a1 H)
def O.spec_l00Min : Nat → Bool × List Nat := fun i => (false, [])
theorem R.spec_l00Min {a0 a1 : Value} {H : Hp} {K : Value → Hp → Prop} (h : F.spec_l00Min a0 a1 H K) : HT prg I.spec_l00Min [a0, a1].toArray H K :=
  HT_of_fev O.spec_l00Min mixed Try.func55 (by kernel_rfl) (Eq.mpr (by kernel_rfl : fev prg O.spec_l00Min Try.f55 [a0, a1] H K = F.spec_l00Min a0 a1 H K) h)

/-! loop.example/g01381/spec.l06Free: function 56 -/
def F.spec_l06Free (a0 a1 : Value) (H : Hp) (K : Value → Hp → Prop) : Prop :=
  ob (vLenSl a0) fun v9_1 =>
  jn (fun σ2 H2 =>
    K (σ2 6) H2) fun J2 =>
  ob (vInt .add a1 (.int .i64 1)) fun v11_3 =>
  ob (vInt .rem v11_3 v9_1) fun v13_4 =>
  lpE (fun Q5 σ5 H5 =>
    ob (vInt .neq (σ5 7) (σ5 1)) fun v16_6 =>
    gop v16_6 true (fun K7 => K7 (σ5 0) H5) H5 fun v18_8 H9 =>
    gop v16_6 true (fun K10 => K10 (σ5 7) H9) H9 fun v19_11 H12 =>
    gop v16_6 true (fun K13 => ob (vIx 1 v18_8 v19_11) fun u => K13 u H12) H12 fun v20_14 H15 =>
    gop v16_6 true (fun K16 => ob (vLoad v20_14 H15) fun u => K16 u H15) H15 fun v21_17 H18 =>
    gop v16_6 true (fun K19 => ob (vInt .lss v21_17 (.int .i64 0)) fun u => K19 u H18) H18 fun v22_20 H21 =>
    ob (vPick v16_6 v22_20 (.bool false)) fun v23_22 =>
    cnd v23_22
      (ob (vInt .add (σ5 6) (.int .i64 1)) fun v29_23 =>
    ob (vInt .add (σ5 7) (.int .i64 1)) fun v25_24 =>
    ob (vInt .rem v25_24 (σ5 5)) fun v27_25 =>
    Q5 .normal (up (up (up (up (up (up (up (up (up (up (up (up (up (up (up (up (up (up σ5 14 (σ5 7)) 15 (σ5 1)) 16 v16_6) 17 v16_6) 18 v18_8) 19 v19_11) 20 v20_14) 21 v21_17) 22 v22_20) 23 v23_22) 28 (σ5 6)) 29 v29_23) 6 v29_23) 24 (σ5 7)) 25 v25_24) 26 (σ5 5)) 27 v27_25) 7 v27_25) H21)
      (Q5 (.exit 0) (up (up (up (up (up (up (up (up (up (up σ5 14 (σ5 7)) 15 (σ5 1)) 16 v16_6) 17 v16_6) 18 v18_8) 19 v19_11) 20 v20_14) 21 v21_17) 22 v22_20) 23 v23_22) H21)) (blkQ 0 (thenQ J2 (retQ prg [(.tmp 4)] K))) (up (up (up (up (up (up (up (up (up (up (S0 [a0, a1]) 4 (.int .i64 0)) 8 a0) 9 v9_1) 5 v9_1) 6 (.int .i64 0)) 10 a1) 11 v11_3) 12 v9_1) 13 v13_4) 7 v13_4) H
def O.spec_l06Free : Nat → Bool × List Nat := fun i => (false, [])
theorem R.spec_l06Free {a0 a1 : Value} {H : Hp} {K : Value → Hp → Prop} (h : F.spec_l06Free a0 a1 H K) : HT prg I.spec_l06Free [a0, a1].toArray H K :=
  HT_of_fev O.spec_l06Free mixed Try.func56 (by kernel_rfl) (Eq.mpr (by kernel_rfl : fev prg O.spec_l06Free Try.f56 [a0, a1] H K = F.spec_l06Free a0 a1 H K) h)

/-! loop.example/g01381/spec.l06Seed: function 57 -/
def F.spec_l06Seed (a0 : Value) (H : Hp) (K : Value → Hp → Prop) : Prop :=
  ob (vInt .mul (.int .i64 1664525) a0) fun v5_1 =>
  ob (vInt .add v5_1 (.int .i64 1013904223)) fun v6_2 =>
  ob (vInt .rem v6_2 (.int .i64 4294967296)) fun v7_3 =>
  ob (vInt .quo v7_3 (.int .i64 256)) fun v10_4 =>
  ob (vCF .f32 v10_4) fun v11_5 =>
  fA .quo v11_5 (.float .f32 1266679808) H fun v12_6 H7 =>
  K (.tuple #[v7_3, v12_6]) H7
def O.spec_l06Seed : Nat → Bool × List Nat := fun i => (false, [])
theorem R.spec_l06Seed {a0 : Value} {H : Hp} {K : Value → Hp → Prop} (h : F.spec_l06Seed a0 H K) : HT prg I.spec_l06Seed [a0].toArray H K :=
  HT_of_fev O.spec_l06Seed mixed Try.func57 (by kernel_rfl) (Eq.mpr (by kernel_rfl : fev prg O.spec_l06Seed Try.f57 [a0] H K = F.spec_l06Seed a0 H K) h)

/-! loop.example/g01381/spec.LaneStep: function 25 -/
def F.spec_LaneStep (a0 a1 a2 a3 : Value) (H : Hp) (K : Value → Hp → Prop) : Prop :=
  HT prg I.spec_l06Lane [a0].toArray H fun v18_1 H2 =>
  ob (vUn .not v18_1) fun v19_3 =>
  gop v19_3 false (fun K4 => K4 a1 H2) H2 fun v21_5 H6 =>
  gop v19_3 false (fun K7 => HT prg I.spec_l00In [v21_5, (.int .i64 1), (.int .i64 5)].toArray H6 K7) H6 fun v22_8 H9 =>
  gop v19_3 false (fun K10 => ob (vUn .not v22_8) fun u => K10 u H9) H9 fun v23_11 H12 =>
  ob (vPick v19_3 (.bool true) v23_11) fun v24_13 =>
  gop v24_13 false (fun K14 => K14 a2 H12) H12 fun v26_15 H16 =>
  gop v24_13 false (fun K17 => HT prg I.spec_l02Share [v26_15].toArray H16 K17) H16 fun v27_18 H19 =>
  gop v24_13 false (fun K20 => ob (vUn .not v27_18) fun u => K20 u H19) H19 fun v28_21 H22 =>
  ob (vPick v24_13 (.bool true) v28_21) fun v29_23 =>
  gop v29_23 false (fun K24 => K24 a3 H22) H22 fun v31_25 H26 =>
  gop v29_23 false (fun K27 => HT prg I.spec_l00In [v31_25, (.int .i64 0), (.int .i64 4294967295)].toArray H26 K27) H26 fun v32_28 H29 =>
  gop v29_23 false (fun K30 => ob (vUn .not v32_28) fun u => K30 u H29) H29 fun v33_31 H32 =>
  ob (vPick v29_23 (.bool true) v33_31) fun v34_33 =>
  cnd v34_33
    (K (.tuple #[(.slice none 0 0), (.int .i64 0), (.bool false)]) H32)
    (bS 1 0 #[(.int .i64 0)] 2 [] H32 fun v35_34 H35 =>
  jn (fun σ36 H36 =>
    jn (fun σ37 H37 =>
      K (.tuple #[(σ37 11), (σ37 3), (.bool true)]) H37) fun J37 =>
    lpE (fun Q38 σ38 H38 =>
      ob (vLenSl (σ38 0)) fun v47_39 =>
      ob (vInt .lss (σ38 13) v47_39) fun v48_40 =>
      cnd v48_40
        (jn (fun σ41 H41 =>
        ob (vInt .add (σ41 13) (.int .i64 1)) fun v50_42 =>
        Q38 .normal (up (up (up σ41 49 (σ41 13)) 50 v50_42) 13 v50_42) H41) fun J41 =>
      ob (vIx 1 (σ38 0) (σ38 13)) fun v53_43 =>
      ob (vLoad v53_43 H38) fun v54_44 =>
      ob (vInt .lss v54_44 (.int .i64 0)) fun v55_45 =>
      cnd v55_45
        (J41 (up (up (up (up (up (up (up (up (up σ38 45 (σ38 13)) 46 (σ38 0)) 47 v47_39) 48 v48_40) 51 (σ38 0)) 52 (σ38 13)) 53 v53_43) 54 v54_44) 55 v55_45) H38)
        (ob (vIx 1 (σ38 0) (σ38 13)) fun v58_46 =>
      ob (vLoad v58_46 H38) fun v59_47 =>
      ob (vInt .add v59_47 (.int .i64 1)) fun v60_48 =>
      HT prg I.spec_l00Min [v60_48, (σ38 1)].toArray H38 fun v62_49 H50 =>
      HT prg I.spec_l06Free [(σ38 0), (σ38 13)].toArray H50 fun v65_51 H52 =>
      HT prg I.spec_l00Min [v62_49, v65_51].toArray H52 fun v66_53 H54 =>
      HT prg I.spec_l06Seed [(σ38 3)].toArray H54 fun v69_55 H56 =>
      ob (vExt v69_55 0) fun v70_57 =>
      ob (vExt v69_55 1) fun v71_58 =>
      jn (fun σ59 H59 =>
        ob (vInt .add (σ59 13) (σ59 14)) fun v85_60 =>
        ob (vLenSl (σ59 0)) fun v87_61 =>
        ob (vInt .rem v85_60 v87_61) fun v88_62 =>
        ob (vIx 1 (σ59 11) v88_62) fun v90_63 =>
        st 1 v90_63 (σ59 14) H59 fun H64 =>
        J41 (up (up (up (up (up (up (up (up (up σ59 82 (σ59 11)) 83 (σ59 13)) 84 (σ59 14)) 85 v85_60) 86 (σ59 0)) 87 v87_61) 88 v88_62) 89 (σ59 14)) 90 v90_63) H64) fun J59 =>
      ob (vFcmp .lss v71_58 (σ38 2)) fun v75_65 =>
      gop v75_65 true (fun K66 => K66 v66_53 H56) H56 fun v77_67 H68 =>
      gop v75_65 true (fun K69 => ob (vInt .gtr v77_67 (.int .i64 0)) fun u => K69 u H68) H68 fun v78_70 H71 =>
      ob (vPick v75_65 v78_70 (.bool false)) fun v79_72 =>
      cnd v79_72
        (ob (vInt .sub v66_53 (.int .i64 1)) fun v81_73 =>
        J59 (up (up (up (up (up (up (up (up (up (up (up (up (up (up (up (up (up (up (up (up (up (up (up (up (up (up (up (up (up (up (up (up (up (up (up (up (up (up (up (up σ38 45 (σ38 13)) 46 (σ38 0)) 47 v47_39) 48 v48_40) 51 (σ38 0)) 52 (σ38 13)) 53 v53_43) 54 v54_44) 55 v55_45) 56 (σ38 0)) 57 (σ38 13)) 58 v58_46) 59 v59_47) 60 v60_48) 61 (σ38 1)) 62 v62_49) 63 (σ38 0)) 64 (σ38 13)) 65 v65_51) 66 v66_53) 14 v66_53) 68 (σ38 3)) 69 v69_55) 67 v69_55) 70 v70_57) 71 v71_58) 15 v70_57) 16 v71_58) 72 v70_57) 3 v70_57) 73 v71_58) 74 (σ38 2)) 75 v75_65) 76 v75_65) 77 v77_67) 78 v78_70) 79 v79_72) 80 v66_53) 81 v81_73) 14 v81_73) H71)
        (J59 (up (up (up (up (up (up (up (up (up (up (up (up (up (up (up (up (up (up (up (up (up (up (up (up (up (up (up (up (up (up (up (up (up (up (up (up (up σ38 45 (σ38 13)) 46 (σ38 0)) 47 v47_39) 48 v48_40) 51 (σ38 0)) 52 (σ38 13)) 53 v53_43) 54 v54_44) 55 v55_45) 56 (σ38 0)) 57 (σ38 13)) 58 v58_46) 59 v59_47) 60 v60_48) 61 (σ38 1)) 62 v62_49) 63 (σ38 0)) 64 (σ38 13)) 65 v65_51) 66 v66_53) 14 v66_53) 68 (σ38 3)) 69 v69_55) 67 v69_55) 70 v70_57) 71 v71_58) 15 v70_57) 16 v71_58) 72 v70_57) 3 v70_57) 73 v71_58) 74 (σ38 2)) 75 v75_65) 76 v75_65) 77 v77_67) 78 v78_70) 79 v79_72) H71)))
        (Q38 (.exit 2) (up (up (up (up σ38 45 (σ38 13)) 46 (σ38 0)) 47 v47_39) 48 v48_40) H38)) (blkQ 2 (thenQ J37 (retQ prg [(.tmp 8), (.tmp 9), (.tmp 10)] K))) (up σ36 13 (.int .i64 0)) H36) fun J36 =>
  lpE (fun Q74 σ74 H74 =>
    ob (vLenSl (σ74 0)) fun v38_75 =>
    ob (vInt .lss (σ74 12) v38_75) fun v39_76 =>
    cnd v39_76
      (bS 1 1 #[(.int .i64 0)] 2 [(0, (.int .i64 (-1)))] H74 fun v43_77 H78 =>
    apd 1 8 #[(.int .i64 0)] 2 (σ74 11) v43_77 H78 fun v44_79 H80 =>
    ob (vInt .add (σ74 12) (.int .i64 1)) fun v41_81 =>
    Q74 .normal (up (up (up (up (up (up (up (up (up (up (up σ74 36 (σ74 12)) 37 (σ74 0)) 38 v38_75) 39 v39_76) 42 (σ74 11)) 43 v43_77) 44 v44_79) 11 v44_79) 40 (σ74 12)) 41 v41_81) 12 v41_81) H80)
      (Q74 (.exit 0) (up (up (up (up σ74 36 (σ74 12)) 37 (σ74 0)) 38 v38_75) 39 v39_76) H74)) (blkQ 0 (thenQ J36 (retQ prg [(.tmp 8), (.tmp 9), (.tmp 10)] K))) (up (up (up (up (up (up (up (up (up (up (up (up (up (up (up (up (up (up (up (up (up (up (up (up (S0 [a0, a1, a2, a3]) 8 (.slice none 0 0)) 9 (.int .i64 0)) 10 (.bool false)) 17 a0) 18 v18_1) 19 v19_3) 20 v19_3) 21 v21_5) 22 v22_8) 23 v23_11) 24 v24_13) 25 v24_13) 26 v26_15) 27 v27_18) 28 v28_21) 29 v29_23) 30 v29_23) 31 v31_25) 32 v32_28) 33 v33_31) 34 v34_33) 35 v35_34) 11 v35_34) 12 (.int .i64 0)) H35)
def O.spec_LaneStep : Nat → Bool × List Nat := fun i => (false, [])
theorem R.spec_LaneStep {a0 a1 a2 a3 : Value} {H : Hp} {K : Value → Hp → Prop} (h : F.spec_LaneStep a0 a1 a2 a3 H K) : HT prg I.spec_LaneStep [a0, a1, a2, a3].toArray H K :=
  HT_of_fev O.spec_LaneStep mixed Try.func25 (by kernel_rfl) (Eq.mpr (by kernel_rfl : fev prg O.spec_LaneStep Try.f25 [a0, a1, a2, a3] H K = F.spec_LaneStep a0 a1 a2 a3 H K) h)

/-! loop.example/g01381/impl.isShare: function 59 -/
def F.impl_isShare (a0 : Value) (H : Hp) (K : Value → Hp → Prop) : Prop :=
  ob (vFcmp .geq a0 (.float .f32 0)) fun v4_1 =>
  gop v4_1 true (fun K2 => K2 a0 H) H fun v6_3 H4 =>
  gop v4_1 true (fun K5 => ob (vFcmp .leq v6_3 (.float .f32 1065353216)) fun u => K5 u H4) H4 fun v7_6 H7 =>
  ob (vPick v4_1 v7_6 (.bool false)) fun v8_8 =>
  K v8_8 H7
def O.impl_isShare : Nat → Bool × List Nat := fun i => (false, [])
theorem R.impl_isShare {a0 : Value} {H : Hp} {K : Value → Hp → Prop} (h : F.impl_isShare a0 H K) : HT prg I.impl_isShare [a0].toArray H K :=
  HT_of_fev O.impl_isShare mixed Try.func59 (by kernel_rfl) (Eq.mpr (by kernel_rfl : fev prg O.impl_isShare Try.f59 [a0] H K = F.impl_isShare a0 H K) h)

/-! loop.example/g01381/impl.isSeed: function 60 -/
def F.impl_isSeed (a0 : Value) (H : Hp) (K : Value → Hp → Prop) : Prop :=
  HT prg I.impl_within [a0, (.int .i64 0), (.int .i64 4294967295)].toArray H fun v4_1 H2 =>
  K v4_1 H2
def O.impl_isSeed : Nat → Bool × List Nat := fun i => (false, [])
theorem R.impl_isSeed {a0 : Value} {H : Hp} {K : Value → Hp → Prop} (h : F.impl_isSeed a0 H K) : HT prg I.impl_isSeed [a0].toArray H K :=
  HT_of_fev O.impl_isSeed mixed Try.func60 (by kernel_rfl) (Eq.mpr (by kernel_rfl : fev prg O.impl_isSeed Try.f60 [a0] H K = F.impl_isSeed a0 H K) h)

/-! math/bits.Mul32: function 96 -/
def F.math_bits_Mul32 (a0 a1 : Value) (H : Hp) (K : Value → Hp → Prop) : Prop :=
  ob (vCI .u64 a0) fun v8_1 =>
  ob (vCI .u64 a1) fun v10_2 =>
  ob (vInt .mul v8_1 v10_2) fun v11_3 =>
  ob (vInt .shr v11_3 (.int .u64 32)) fun v13_4 =>
  ob (vCI .u32 v13_4) fun v14_5 =>
  ob (vCI .u32 v11_3) fun v16_6 =>
  K (.tuple #[v14_5, v16_6]) H
def O.math_bits_Mul32 : Nat → Bool × List Nat := fun i => (false, [])
theorem R.math_bits_Mul32 {a0 a1 : Value} {H : Hp} {K : Value → Hp → Prop} (h : F.math_bits_Mul32 a0 a1 H K) : HT prg I.math_bits_Mul32 [a0, a1].toArray H K :=
  HT_of_fev O.math_bits_Mul32 mixed Try.func96 (by kernel_rfl) (Eq.mpr (by kernel_rfl : fev prg O.math_bits_Mul32 Try.f96 [a0, a1] H K = F.math_bits_Mul32 a0 a1 H K) h)

/-! math/bits.Mul64: function 97 -/
def F.math_bits_Mul64 (a0 a1 : Value) (H : Hp) (K : Value → Hp → Prop) : Prop :=
  ob (vInt .and a0 (.int .u64 4294967295)) fun v15_1 =>
  ob (vInt .shr a0 (.int .u64 32)) fun v17_2 =>
  ob (vInt .and a1 (.int .u64 4294967295)) fun v19_3 =>
  ob (vInt .shr a1 (.int .u64 32)) fun v21_4 =>
  ob (vInt .mul v15_1 v19_3) fun v24_5 =>
  ob (vInt .mul v17_2 v19_3) fun v27_6 =>
  ob (vInt .shr v24_5 (.int .u64 32)) fun v29_7 =>
  ob (vInt .add v27_6 v29_7) fun v30_8 =>
  ob (vInt .and v30_8 (.int .u64 4294967295)) fun v32_9 =>
  ob (vInt .shr v30_8 (.int .u64 32)) fun v34_10 =>
  ob (vInt .mul v15_1 v21_4) fun v38_11 =>
  ob (vInt .add v32_9 v38_11) fun v39_12 =>
  ob (vInt .mul v17_2 v21_4) fun v42_13 =>
  ob (vInt .add v42_13 v34_10) fun v44_14 =>
  ob (vInt .shr v39_12 (.int .u64 32)) fun v46_15 =>
  ob (vInt .add v44_14 v46_15) fun v47_16 =>
  ob (vInt .mul a0 a1) fun v50_17 =>
  K (.tuple #[v47_16, v50_17]) H
def O.math_bits_Mul64 : Nat → Bool × List Nat := fun i => (false, [])
theorem R.math_bits_Mul64 {a0 a1 : Value} {H : Hp} {K : Value → Hp → Prop} (h : F.math_bits_Mul64 a0 a1 H K) : HT prg I.math_bits_Mul64 [a0, a1].toArray H K :=
  HT_of_fev O.math_bits_Mul64 mixed Try.func97 (by kernel_rfl) (Eq.mpr (by kernel_rfl : fev prg O.math_bits_Mul64 Try.f97 [a0, a1] H K = F.math_bits_Mul64 a0 a1 H K) h)

/-! math/bits.Mul: function 91 -/
def F.math_bits_Mul (a0 a1 : Value) (H : Hp) (K : Value → Hp → Prop) : Prop :=
  cnd (.bool false)
    (ob (vCI .u32 a0) fun v12_1 =>
    ob (vCI .u32 a1) fun v14_2 =>
    HT prg I.math_bits_Mul32 [v12_1, v14_2].toArray H fun v15_3 H4 =>
    ob (vExt v15_3 0) fun v16_5 =>
    ob (vExt v15_3 1) fun v17_6 =>
    ob (vCI .u64 v16_5) fun v19_7 =>
    ob (vCI .u64 v17_6) fun v21_8 =>
    K (.tuple #[v19_7, v21_8]) H4)
    (HT prg I.math_bits_Mul64 [a0, a1].toArray H fun v25_9 H10 =>
  ob (vExt v25_9 0) fun v26_11 =>
  ob (vExt v25_9 1) fun v27_12 =>
  K (.tuple #[v26_11, v27_12]) H10)
def O.math_bits_Mul : Nat → Bool × List Nat := fun i => (false, [])
theorem R.math_bits_Mul {a0 a1 : Value} {H : Hp} {K : Value → Hp → Prop} (h : F.math_bits_Mul a0 a1 H K) : HT prg I.math_bits_Mul [a0, a1].toArray H K :=
  HT_of_fev O.math_bits_Mul mixed Try.func91 (by kernel_rfl) (Eq.mpr (by kernel_rfl : fev prg O.math_bits_Mul Try.f91 [a0, a1] H K = F.math_bits_Mul a0 a1 H K) h)

/-! loop.example/g01381/impl.gap: function 62 -/
def F.impl_gap (a0 a1 : Value) (H : Hp) (K : Value → Hp → Prop) : Prop :=
  lpE (fun Q1 σ1 H1 =>
    ob (vInt .add (σ1 1) (σ1 5)) fun v11_2 =>
    ob (vLenSl (σ1 0)) fun v13_3 =>
    ob (vInt .rem v11_2 v13_3) fun v14_4 =>
    ob (vIx 1 (σ1 0) v14_4) fun v15_5 =>
    ob (vLoad v15_5 H1) fun v16_6 =>
    ob (vInt .geq v16_6 (.int .i64 0)) fun v17_7 =>
    cnd v17_7
      (ob (vInt .sub (σ1 5) (.int .i64 1)) fun v19_8 =>
      Q1 .ret (up (up (up (up (up (up (up (up (up (up (up (up (up σ1 8 (σ1 0)) 9 (σ1 1)) 10 (σ1 5)) 11 v11_2) 12 (σ1 0)) 13 v13_3) 14 v14_4) 15 v15_5) 16 v16_6) 17 v17_7) 18 (σ1 5)) 19 v19_8) 4 v19_8) H1)
      (ob (vInt .add (σ1 5) (.int .i64 1)) fun v7_9 =>
    Q1 .normal (up (up (up (up (up (up (up (up (up (up (up (up (up σ1 8 (σ1 0)) 9 (σ1 1)) 10 (σ1 5)) 11 v11_2) 12 (σ1 0)) 13 v13_3) 14 v14_4) 15 v15_5) 16 v16_6) 17 v17_7) 6 (σ1 5)) 7 v7_9) 5 v7_9) H1)) (blkQ 0 (retQ prg [(.tmp 4)] K)) (up (up (S0 [a0, a1]) 4 (.int .i64 0)) 5 (.int .i64 1)) H
def O.impl_gap : Nat → Bool × List Nat := fun i => (false, [])
theorem R.impl_gap {a0 a1 : Value} {H : Hp} {K : Value → Hp → Prop} (h : F.impl_gap a0 a1 H K) : HT prg I.impl_gap [a0, a1].toArray H K :=
  HT_of_fev O.impl_gap mixed Try.func62 (by kernel_rfl) (Eq.mpr (by kernel_rfl : fev prg O.impl_gap Try.f62 [a0, a1] H K = F.impl_gap a0 a1 H K) h)

/-! loop.example/g01381/impl.nextSeed: function 63 -/
def F.impl_nextSeed (a0 : Value) (H : Hp) (K : Value → Hp → Prop) : Prop :=
  ob (vInt .mul (.int .i64 1664525) a0) fun v4_1 =>
  ob (vInt .add v4_1 (.int .i64 1013904223)) fun v5_2 =>
  ob (vInt .rem v5_2 (.int .i64 4294967296)) fun v6_3 =>
  K v6_3 H
def O.impl_nextSeed : Nat → Bool × List Nat := fun i => (false, [])
theorem R.impl_nextSeed {a0 : Value} {H : Hp} {K : Value → Hp → Prop} (h : F.impl_nextSeed a0 H K) : HT prg I.impl_nextSeed [a0].toArray H K :=
  HT_of_fev O.impl_nextSeed mixed Try.func63 (by kernel_rfl) (Eq.mpr (by kernel_rfl : fev prg O.impl_nextSeed Try.f63 [a0] H K = F.impl_nextSeed a0 H K) h)

/-! loop.example/g01381/impl.shareOf: function 64 -/
def F.impl_shareOf (a0 : Value) (H : Hp) (K : Value → Hp → Prop) : Prop :=
  ob (vInt .quo a0 (.int .i64 256)) fun v4_1 =>
  ob (vCF .f32 v4_1) fun v5_2 =>
  fA .quo v5_2 (.float .f32 1266679808) H fun v6_3 H4 =>
  K v6_3 H4
def O.impl_shareOf : Nat → Bool × List Nat := fun i => (false, [])
theorem R.impl_shareOf {a0 : Value} {H : Hp} {K : Value → Hp → Prop} (h : F.impl_shareOf a0 H K) : HT prg I.impl_shareOf [a0].toArray H K :=
  HT_of_fev O.impl_shareOf mixed Try.func64 (by kernel_rfl) (Eq.mpr (by kernel_rfl : fev prg O.impl_shareOf Try.f64 [a0] H K = F.impl_shareOf a0 H K) h)

/-! loop.example/g01381/impl.LaneStep: function 26 -/
def F.impl_LaneStep (a0 a1 a2 a3 : Value) (H : Hp) (K : Value → Hp → Prop) : Prop :=
  HT prg I.impl_IsLane [a0].toArray H fun v15_1 H2 =>
  ob (vUn .not v15_1) fun v16_3 =>
  gop v16_3 false (fun K4 => K4 a1 H2) H2 fun v18_5 H6 =>
  gop v16_3 false (fun K7 => HT prg I.impl_within [v18_5, (.int .i64 1), (.int .i64 5)].toArray H6 K7) H6 fun v19_8 H9 =>
  gop v16_3 false (fun K10 => ob (vUn .not v19_8) fun u => K10 u H9) H9 fun v20_11 H12 =>
  ob (vPick v16_3 (.bool true) v20_11) fun v21_13 =>
  gop v21_13 false (fun K14 => K14 a2 H12) H12 fun v23_15 H16 =>
  gop v21_13 false (fun K17 => HT prg I.impl_isShare [v23_15].toArray H16 K17) H16 fun v24_18 H19 =>
  gop v21_13 false (fun K20 => ob (vUn .not v24_18) fun u => K20 u H19) H19 fun v25_21 H22 =>
  ob (vPick v21_13 (.bool true) v25_21) fun v26_23 =>
  gop v26_23 false (fun K24 => K24 a3 H22) H22 fun v28_25 H26 =>
  gop v26_23 false (fun K27 => HT prg I.impl_isSeed [v28_25].toArray H26 K27) H26 fun v29_28 H29 =>
  gop v26_23 false (fun K30 => ob (vUn .not v29_28) fun u => K30 u H29) H29 fun v30_31 H32 =>
  ob (vPick v26_23 (.bool true) v30_31) fun v31_33 =>
  cnd v31_33
    (K (.tuple #[(.slice none 0 0), (.int .i64 0), (.bool false)]) H32)
    (bS 1 1 #[(.int .i64 0)] 2 [(0, (.int .i64 (-1)))] H32 fun v32_34 H35 =>
  ob (vLenSl a0) fun v34_36 =>
  HT prg I.slices_Repeat_int64_int64 [v32_34, v34_36].toArray H35 fun v35_37 H38 =>
  jn (fun σ39 H39 =>
    K (.tuple #[(σ39 11), (σ39 3), (.bool true)]) H39) fun J39 =>
  ob (vLenSl a0) fun v37_40 =>
  lpE (fun Q41 σ41 H41 =>
    ob (vInt .lss (σ41 38) (σ41 37)) fun v39_42 =>
    cnd v39_42
      (jn (fun σ43 H43 =>
      ob (vInt .add (σ43 38) (.int .i64 1)) fun v73_44 =>
      Q41 .normal (up (up σ43 73 v73_44) 38 v73_44) H43) fun J43 =>
    ob (vIx 1 (σ41 36) (σ41 38)) fun v41_45 =>
    ob (vLoad v41_45 H41) fun v42_46 =>
    ob (vInt .lss v42_46 (.int .i64 0)) fun v44_47 =>
    cnd v44_47
      (J43 (up (up (up (up (up (up (up (up σ41 39 v39_42) 40 (σ41 38)) 41 v41_45) 42 v42_46) 12 (σ41 38)) 13 v42_46) 43 v42_46) 44 v44_47) H41)
      (ob (vInt .add v42_46 (.int .i64 1)) fun v46_48 =>
    HT prg I.impl_gap [(σ41 0), (σ41 38)].toArray H41 fun v50_49 H50 =>
    hp prg (builtin .min #[2, 2, 2] 2 #[false, false, false] [v46_48, (σ41 1), v50_49].toArray) H50 (nextH prg (fun v51_51 H52 =>
    HT prg I.impl_nextSeed [(σ41 3)].toArray H52 fun v53_53 H54 =>
    jn (fun σ55 H55 =>
      ob (vInt .add (σ55 12) (σ55 13)) fun v67_56 =>
      ob (vLenSl (σ55 0)) fun v69_57 =>
      ob (vInt .rem v67_56 v69_57) fun v70_58 =>
      ob (vIx 1 (σ55 11) v70_58) fun v72_59 =>
      st 1 v72_59 (σ55 13) H55 fun H60 =>
      J43 (up (up (up (up (up (up (up (up (up σ55 64 (σ55 11)) 65 (σ55 12)) 66 (σ55 13)) 67 v67_56) 68 (σ55 0)) 69 v69_57) 70 v70_58) 71 (σ55 13)) 72 v72_59) H60) fun J55 =>
    HT prg I.impl_shareOf [v53_53].toArray H54 fun v55_61 H62 =>
    ob (vFcmp .lss v55_61 (σ41 2)) fun v57_63 =>
    gop v57_63 true (fun K64 => K64 v51_51 H62) H62 fun v59_65 H66 =>
    gop v57_63 true (fun K67 => ob (vInt .gtr v59_65 (.int .i64 0)) fun u => K67 u H66) H66 fun v60_68 H69 =>
    ob (vPick v57_63 v60_68 (.bool false)) fun v61_70 =>
    cnd v61_70
      (ob (vInt .sub v51_51 (.int .i64 1)) fun v63_71 =>
      J55 (up (up (up (up (up (up (up (up (up (up (up (up (up (up (up (up (up (up (up (up (up (up (up (up (up (up (up (up (up (up σ41 39 v39_42) 40 (σ41 38)) 41 v41_45) 42 v42_46) 12 (σ41 38)) 13 v42_46) 43 v42_46) 44 v44_47) 45 v42_46) 46 v46_48) 47 (σ41 1)) 48 (σ41 0)) 49 (σ41 38)) 50 v50_49) 51 v51_51) 13 v51_51) 52 (σ41 3)) 53 v53_53) 3 v53_53) 54 v53_53) 55 v55_61) 56 (σ41 2)) 57 v57_63) 58 v57_63) 59 v59_65) 60 v60_68) 61 v61_70) 62 v51_51) 63 v63_71) 13 v63_71) H69)
      (J55 (up (up (up (up (up (up (up (up (up (up (up (up (up (up (up (up (up (up (up (up (up (up (up (up (up (up (up σ41 39 v39_42) 40 (σ41 38)) 41 v41_45) 42 v42_46) 12 (σ41 38)) 13 v42_46) 43 v42_46) 44 v44_47) 45 v42_46) 46 v46_48) 47 (σ41 1)) 48 (σ41 0)) 49 (σ41 38)) 50 v50_49) 51 v51_51) 13 v51_51) 52 (σ41 3)) 53 v53_53) 3 v53_53) 54 v53_53) 55 v55_61) 56 (σ41 2)) 57 v57_63) 58 v57_63) 59 v59_65) 60 v60_68) 61 v61_70) H69)))))
      (Q41 (.exit 0) (up σ41 39 v39_42) H41)) (blkQ 0 (thenQ J39 (retQ prg [(.tmp 8), (.tmp 9), (.tmp 10)] K))) (up (up (up (up (up (up (up (up (up (up (up (up (up (up (up (up (up (up (up (up (up (up (up (up (up (up (up (up (up (S0 [a0, a1, a2, a3]) 8 (.slice none 0 0)) 9 (.int .i64 0)) 10 (.bool false)) 14 a0) 15 v15_1) 16 v16_3) 17 v16_3) 18 v18_5) 19 v19_8) 20 v20_11) 21 v21_13) 22 v21_13) 23 v23_15) 24 v24_18) 25 v25_21) 26 v26_23) 27 v26_23) 28 v28_25) 29 v29_28) 30 v30_31) 31 v31_33) 32 v32_34) 33 a0) 34 v34_36) 35 v35_37) 11 v35_37) 36 a0) 37 v37_40) 38 (.int .i64 0)) H38)
def O.impl_LaneStep : Nat → Bool × List Nat := fun i => (false, [])
theorem R.impl_LaneStep {a0 a1 a2 a3 : Value} {H : Hp} {K : Value → Hp → Prop} (h : F.impl_LaneStep a0 a1 a2 a3 H K) : HT prg I.impl_LaneStep [a0, a1, a2, a3].toArray H K :=
  HT_of_fev O.impl_LaneStep mixed Try.func26 (by kernel_rfl) (Eq.mpr (by kernel_rfl : fev prg O.impl_LaneStep Try.f26 [a0, a1, a2, a3] H K = F.impl_LaneStep a0 a1 a2 a3 H K) h)

/-! loop.example/g01381/laws.FnExactLaneStep: function 6 -/
def F.laws_FnExactLaneStep (a0 a1 a2 a3 : Value) (H : Hp) (K : Value → Hp → Prop) : Prop :=
  ob (vLenSl a0) fun v23_1 =>
  ob (vInt .gtr v23_1 (.int .i64 1048576)) fun v24_2 =>
  cnd v24_2
    (K (.bool true) H)
    (HT prg I.laws_toInt64S [a0].toArray H fun v27_3 H4 =>
  HT prg I.spec_LaneStep [v27_3, a1, a2, a3].toArray H4 fun v31_5 H6 =>
  ob (vExt v31_5 0) fun v32_7 =>
  ob (vExt v31_5 1) fun v33_8 =>
  ob (vExt v31_5 2) fun v34_9 =>
  HT prg I.laws_toInt64S [a0].toArray H6 fun v36_10 H11 =>
  HT prg I.impl_LaneStep [v36_10, a1, a2, a3].toArray H11 fun v42_12 H13 =>
  ob (vExt v42_12 0) fun v43_14 =>
  ob (vExt v42_12 1) fun v44_15 =>
  ob (vExt v42_12 2) fun v45_16 =>
  HT prg I.laws_eqInt64S [v43_14, v32_7].toArray H13 fun v48_17 H18 =>
  ob (vUn .not v48_17) fun v49_19 =>
  gop v49_19 false (fun K20 => K20 v44_15 H18) H18 fun v51_21 H22 =>
  gop v49_19 false (fun K23 => K23 v33_8 H22) H22 fun v52_24 H25 =>
  gop v49_19 false (fun K26 => ob (vInt .neq v51_21 v52_24) fun u => K26 u H25) H25 fun v53_27 H28 =>
  ob (vPick v49_19 (.bool true) v53_27) fun v54_29 =>
  gop v54_29 false (fun K30 => K30 v45_16 H28) H28 fun v56_31 H32 =>
  gop v54_29 false (fun K33 => K33 v34_9 H32) H32 fun v57_34 H35 =>
  gop v54_29 false (fun K36 => ob (vBool .neq v56_31 v57_34) fun u => K36 u H35) H35 fun v58_37 H38 =>
  ob (vPick v54_29 (.bool true) v58_37) fun v59_39 =>
  cnd v59_39
    (K (.bool false) H38)
    (HT prg I.laws_toInt64S [a0].toArray H38 fun v62_40 H41 =>
  HT prg I.laws_eqInt64S [v36_10, v62_40].toArray H41 fun v63_42 H43 =>
  ob (vUn .not v63_42) fun v64_44 =>
  cnd v64_44
    (K (.bool false) H43)
    (HT prg I.laws_markInt64S [v36_10, (.int .i64 1)].toArray H43 fun v67_45 H46 =>
  ob (vInt .lss v67_45 (.int .i64 0)) fun v69_47 =>
  gop v69_47 false (fun K48 => K48 v43_14 H46) H46 fun v71_49 H50 =>
  gop v69_47 false (fun K51 => K51 v32_7 H50) H50 fun v72_52 H53 =>
  gop v69_47 false (fun K54 => HT prg I.laws_eqInt64S [v71_49, v72_52].toArray H53 K54) H53 fun v73_55 H56 =>
  gop v69_47 false (fun K57 => ob (vUn .not v73_55) fun u => K57 u H56) H56 fun v74_58 H59 =>
  ob (vPick v69_47 (.bool true) v74_58) fun v75_60 =>
  gop v75_60 false (fun K61 => K61 v44_15 H59) H59 fun v77_62 H63 =>
  gop v75_60 false (fun K64 => K64 v33_8 H63) H63 fun v78_65 H66 =>
  gop v75_60 false (fun K67 => ob (vInt .neq v77_62 v78_65) fun u => K67 u H66) H66 fun v79_68 H69 =>
  ob (vPick v75_60 (.bool true) v79_68) fun v80_70 =>
  gop v80_70 false (fun K71 => K71 v45_16 H69) H69 fun v82_72 H73 =>
  gop v80_70 false (fun K74 => K74 v34_9 H73) H73 fun v83_75 H76 =>
  gop v80_70 false (fun K77 => ob (vBool .neq v82_72 v83_75) fun u => K77 u H76) H76 fun v84_78 H79 =>
  ob (vPick v80_70 (.bool true) v84_78) fun v85_80 =>
  cnd v85_80
    (K (.bool false) H79)
    (HT prg I.laws_markInt64S [v43_14, (.int .i64 1)].toArray H79 fun v88_81 H82 =>
  HT prg I.laws_heldInt64S [v43_14, (.int .i64 1)].toArray H82 fun v91_83 H84 =>
  ob (vInt .lss v91_83 (.int .i64 0)) fun v93_85 =>
  cnd v93_85
    (K (.bool false) H84)
    (ob (vInt .neq v91_83 v88_81) fun v96_86 =>
  cnd v96_86
    (K (.bool false) H84)
    (HT prg I.laws_toInt64S [a0].toArray H84 fun v99_87 H88 =>
  HT prg I.impl_LaneStep [v99_87, a1, a2, a3].toArray H88 fun v103_89 H90 =>
  ob (vExt v103_89 0) fun v104_91 =>
  ob (vExt v103_89 1) fun v105_92 =>
  ob (vExt v103_89 2) fun v106_93 =>
  HT prg I.laws_eqInt64S [v104_91, v32_7].toArray H90 fun v109_94 H95 =>
  ob (vUn .not v109_94) fun v110_96 =>
  gop v110_96 false (fun K97 => K97 v105_92 H95) H95 fun v112_98 H99 =>
  gop v110_96 false (fun K100 => K100 v33_8 H99) H99 fun v113_101 H102 =>
  gop v110_96 false (fun K103 => ob (vInt .neq v112_98 v113_101) fun u => K103 u H102) H102 fun v114_104 H105 =>
  ob (vPick v110_96 (.bool true) v114_104) fun v115_106 =>
  gop v115_106 false (fun K107 => K107 v106_93 H105) H105 fun v117_108 H109 =>
  gop v115_106 false (fun K110 => K110 v34_9 H109) H109 fun v118_111 H112 =>
  gop v115_106 false (fun K113 => ob (vBool .neq v117_108 v118_111) fun u => K113 u H112) H112 fun v119_114 H115 =>
  ob (vPick v115_106 (.bool true) v119_114) fun v120_116 =>
  cnd v120_116
    (K (.bool false) H115)
    (HT prg I.laws_heldInt64S [v43_14, (.int .i64 1)].toArray H115 fun v123_117 H118 =>
  ob (vInt .lss v123_117 (.int .i64 0)) fun v125_119 =>
  cnd v125_119
    (K (.bool false) H118)
    (ob (vInt .neq v123_117 v88_81) fun v128_120 =>
  cnd v128_120
    (K (.bool false) H118)
    (K (.bool true) H118)))))))))
def O.laws_FnExactLaneStep : Nat → Bool × List Nat := fun i => (false, [])
theorem R.laws_FnExactLaneStep {a0 a1 a2 a3 : Value} {H : Hp} {K : Value → Hp → Prop} (h : F.laws_FnExactLaneStep a0 a1 a2 a3 H K) : HT prg I.laws_FnExactLaneStep [a0, a1, a2, a3].toArray H K :=
  HT_of_fev O.laws_FnExactLaneStep mixed Try.func6 (by kernel_rfl) (Eq.mpr (by kernel_rfl : fev prg O.laws_FnExactLaneStep Try.f6 [a0, a1, a2, a3] H K = F.laws_FnExactLaneStep a0 a1 a2 a3 H K) h)

/-! loop.example/g01381/laws.r8Long: function 27 -/
def F.laws_r8Long (a0 a1 : Value) (H : Hp) (K : Value → Hp → Prop) : Prop :=
  ob (vLenSl a0) fun v6_1 =>
  ob (vInt .gtr v6_1 (.int .i64 48)) fun v7_2 =>
  gop v7_2 false (fun K3 => K3 a1 H) H fun v9_4 H5 =>
  gop v7_2 false (fun K6 => ob (vLenSl v9_4) fun u => K6 u H5) H5 fun v10_7 H8 =>
  gop v7_2 false (fun K9 => ob (vInt .gtr v10_7 (.int .i64 48)) fun u => K9 u H8) H8 fun v11_10 H11 =>
  ob (vPick v7_2 (.bool true) v11_10) fun v12_12 =>
  K v12_12 H11
def O.laws_r8Long : Nat → Bool × List Nat := fun i => (false, [])
theorem R.laws_r8Long {a0 a1 : Value} {H : Hp} {K : Value → Hp → Prop} (h : F.laws_r8Long a0 a1 H K) : HT prg I.laws_r8Long [a0, a1].toArray H K :=
  HT_of_fev O.laws_r8Long mixed Try.func27 (by kernel_rfl) (Eq.mpr (by kernel_rfl : fev prg O.laws_r8Long Try.f27 [a0, a1] H K = F.laws_r8Long a0 a1 H K) h)

/-! loop.example/g01381/laws.r8At: function 28 -/
def F.laws_r8At (a0 a1 a2 : Value) (H : Hp) (K : Value → Hp → Prop) : Prop :=
  ob (vInt .leq a2 (.int .i64 1)) fun v8_1 =>
  gop v8_1 false (fun K2 => K2 a1 H) H fun v10_3 H4 =>
  gop v8_1 false (fun K5 => K5 a0 H4) H4 fun v11_6 H7 =>
  gop v8_1 false (fun K8 => ob (vLenSl v11_6) fun u => K8 u H7) H7 fun v12_9 H10 =>
  gop v8_1 false (fun K11 => ob (vInt .geq v10_3 v12_9) fun u => K11 u H10) H10 fun v13_12 H13 =>
  ob (vPick v8_1 (.bool true) v13_12) fun v14_14 =>
  cnd v14_14
    (K (.int .i64 0) H13)
    (ob (vIx 1 a0 a1) fun v17_15 =>
  ob (vLoad v17_15 H13) fun v18_16 =>
  ob (vCI .i64 v18_16) fun v19_17 =>
  ob (vInt .rem v19_17 a2) fun v21_18 =>
  K v21_18 H13)
def O.laws_r8At : Nat → Bool × List Nat := fun i => (false, [])
theorem R.laws_r8At {a0 a1 a2 : Value} {H : Hp} {K : Value → Hp → Prop} (h : F.laws_r8At a0 a1 a2 H K) : HT prg I.laws_r8At [a0, a1, a2].toArray H K :=
  HT_of_fev O.laws_r8At mixed Try.func28 (by kernel_rfl) (Eq.mpr (by kernel_rfl : fev prg O.laws_r8At Try.f28 [a0, a1, a2] H K = F.laws_r8At a0 a1 a2 H K) h)

/-! loop.example/g01381/spec.l00From: function 65 -/
def F.spec_l00From (a0 : Value) (H : Hp) (K : Value → Hp → Prop) : Prop :=
  ob (vBuild [(0, 1), (1, 1), (2, 1)] (.agg #[(.slice none 0 0), (.int .i64 0), (.int .u64 0)]) [(0, a0)]) fun v4_1 =>
  nw (v4_1 : Value).cells 95 H fun v5_2 H3 =>
  K v5_2 H3
def O.spec_l00From : Nat → Bool × List Nat := fun i => (false, [])
theorem R.spec_l00From {a0 : Value} {H : Hp} {K : Value → Hp → Prop} (h : F.spec_l00From a0 H K) : HT prg I.spec_l00From [a0].toArray H K :=
  HT_of_fev O.spec_l00From mixed Try.func65 (by kernel_rfl) (Eq.mpr (by kernel_rfl : fev prg O.spec_l00From Try.f65 [a0] H K = F.spec_l00From a0 H K) h)

/-! (*loop.example/g01381/spec.l00Src).next: function 92 -/
def F.pspec_l00Src_next (a0 : Value) (H : Hp) (K : Value → Hp → Prop) : Prop :=
  jn (fun σ1 H1 =>
    ob (vNilC (σ1 0)) fun v26_2 =>
    ob (vFa 1 v26_2) fun v27_3 =>
    ob (vLoad v27_3 H1) fun v28_4 =>
    ob (vInt .add v28_4 (.int .i64 1)) fun v29_5 =>
    ob (vNilC (σ1 0)) fun v30_6 =>
    ob (vFa 1 v30_6) fun v31_7 =>
    st 1 v31_7 v29_5 H1 fun H8 =>
    ob (vNilC (σ1 0)) fun v34_9 =>
    ob (vFa 2 v34_9) fun v35_10 =>
    ob (vLoad v35_10 H8) fun v36_11 =>
    ob (vInt .mul v36_11 (.int .u64 6364136223846793005)) fun v37_12 =>
    ob (vCI .u64 (σ1 3)) fun v39_13 =>
    ob (vInt .add v37_12 v39_13) fun v40_14 =>
    ob (vInt .add v40_14 (.int .u64 1442695040888963407)) fun v41_15 =>
    ob (vNilC (σ1 0)) fun v42_16 =>
    ob (vFa 2 v42_16) fun v43_17 =>
    st 1 v43_17 v41_15 H8 fun H18 =>
    ob (vNilC (σ1 0)) fun v45_19 =>
    ob (vFa 1 v45_19) fun v46_20 =>
    ob (vLoad v46_20 H18) fun v47_21 =>
    ob (vNilC (σ1 0)) fun v49_22 =>
    ob (vFa 0 v49_22) fun v50_23 =>
    ob (vLoad v50_23 H18) fun v51_24 =>
    ob (vLenSl v51_24) fun v52_25 =>
    ob (vInt .leq v47_21 v52_25) fun v53_26 =>
    cnd v53_26
      (K (σ1 3) H18)
      (ob (vNilC (σ1 0)) fun v56_27 =>
    ob (vFa 2 v56_27) fun v57_28 =>
    ob (vLoad v57_28 H18) fun v58_29 =>
    ob (vInt .shr v58_29 (.int .u64 40)) fun v59_30 =>
    ob (vInt .and v59_30 (.int .u64 255)) fun v60_31 =>
    ob (vCI .i64 v60_31) fun v61_32 =>
    K v61_32 H18)) fun J1 =>
  ob (vNilC a0) fun v5_33 =>
  ob (vFa 1 v5_33) fun v6_34 =>
  ob (vLoad v6_34 H) fun v7_35 =>
  ob (vNilC a0) fun v9_36 =>
  ob (vFa 0 v9_36) fun v10_37 =>
  ob (vLoad v10_37 H) fun v11_38 =>
  ob (vLenSl v11_38) fun v12_39 =>
  ob (vInt .lss v7_35 v12_39) fun v13_40 =>
  cnd v13_40
    (ob (vNilC a0) fun v15_41 =>
    ob (vFa 0 v15_41) fun v16_42 =>
    ob (vLoad v16_42 H) fun v17_43 =>
    ob (vNilC a0) fun v19_44 =>
    ob (vFa 1 v19_44) fun v20_45 =>
    ob (vLoad v20_45 H) fun v21_46 =>
    ob (vIx 1 v17_43 v21_46) fun v22_47 =>
    ob (vLoad v22_47 H) fun v23_48 =>
    ob (vCI .i64 v23_48) fun v24_49 =>
    J1 (up (up (up (up (up (up (up (up (up (up (up (up (up (up (up (up (up (up (up (up (up (up (up (up (S0 [a0]) 2 (.int .i64 0)) 3 (.int .i64 0)) 4 a0) 5 v5_33) 6 v6_34) 7 v7_35) 8 a0) 9 v9_36) 10 v10_37) 11 v11_38) 12 v12_39) 13 v13_40) 14 a0) 15 v15_41) 16 v16_42) 17 v17_43) 18 a0) 19 v19_44) 20 v20_45) 21 v21_46) 22 v22_47) 23 v23_48) 24 v24_49) 3 v24_49) H)
    (J1 (up (up (up (up (up (up (up (up (up (up (up (up (S0 [a0]) 2 (.int .i64 0)) 3 (.int .i64 0)) 4 a0) 5 v5_33) 6 v6_34) 7 v7_35) 8 a0) 9 v9_36) 10 v10_37) 11 v11_38) 12 v12_39) 13 v13_40) H)
def O.pspec_l00Src_next : Nat → Bool × List Nat := fun i => bif Nat.beq i 6 then (false, [0, 1, 2, 3, 4, 5, 6, 7, 8, 9]) else bif Nat.beq i 2 then (false, [0, 1, 2, 3, 4, 5, 6, 7, 8, 9]) else bif Nat.beq i 3 then (false, [0, 1, 2, 3, 4, 5, 6, 7, 8, 9, 10, 11]) else (false, [])
theorem R.pspec_l00Src_next {a0 : Value} {H : Hp} {K : Value → Hp → Prop} (h : F.pspec_l00Src_next a0 H K) : HT prg I.pspec_l00Src_next [a0].toArray H K :=
  HT_of_fev O.pspec_l00Src_next mixed Try.func92 (by kernel_rfl) (Eq.mpr (by kernel_rfl : fev prg O.pspec_l00Src_next Try.f92 [a0] H K = F.pspec_l00Src_next a0 H K) h)

/-! (*loop.example/g01381/spec.l00Src).pick: function 67 -/
def F.pspec_l00Src_pick (a0 a1 : Value) (H : Hp) (K : Value → Hp → Prop) : Prop :=
  ob (vInt .leq a1 (.int .i64 1)) fun v7_1 =>
  cnd v7_1
    (K (.int .i64 0) H)
    (HT prg I.pspec_l00Src_next [a0].toArray H fun v9_2 H3 =>
  jn (fun σ4 H4 =>
    ob (vInt .rem (σ4 5) (σ4 1)) fun v19_5 =>
    K v19_5 H4) fun J4 =>
  ob (vInt .gtr a1 (.int .i64 200)) fun v11_6 =>
  cnd v11_6
    (ob (vInt .mul v9_2 (.int .i64 256)) fun v13_7 =>
    HT prg I.pspec_l00Src_next [a0].toArray H3 fun v15_8 H9 =>
    ob (vInt .add v13_7 v15_8) fun v16_10 =>
    J4 (up (up (up (up (up (up (up (up (up (up (up (up (up (up (S0 [a0, a1]) 4 (.int .i64 0)) 6 a1) 7 v7_1) 8 a0) 9 v9_2) 5 v9_2) 10 a1) 11 v11_6) 12 v9_2) 13 v13_7) 14 a0) 15 v15_8) 16 v16_10) 5 v16_10) H9)
    (J4 (up (up (up (up (up (up (up (up (S0 [a0, a1]) 4 (.int .i64 0)) 6 a1) 7 v7_1) 8 a0) 9 v9_2) 5 v9_2) 10 a1) 11 v11_6) H3))
def O.pspec_l00Src_pick : Nat → Bool × List Nat := fun i => (false, [])
theorem R.pspec_l00Src_pick {a0 a1 : Value} {H : Hp} {K : Value → Hp → Prop} (h : F.pspec_l00Src_pick a0 a1 H K) : HT prg I.pspec_l00Src_pick [a0, a1].toArray H K :=
  HT_of_fev O.pspec_l00Src_pick mixed Try.func67 (by kernel_rfl) (Eq.mpr (by kernel_rfl : fev prg O.pspec_l00Src_pick Try.f67 [a0, a1] H K = F.pspec_l00Src_pick a0 a1 H K) h)

/-! (*loop.example/g01381/spec.l00Src).one: function 66 -/
def F.pspec_l00Src_one (a0 a1 : Value) (H : Hp) (K : Value → Hp → Prop) : Prop :=
  HT prg I.pspec_l00Src_pick [a0, a1].toArray H fun v7_1 H2 =>
  ob (vInt .eql v7_1 (.int .i64 0)) fun v8_3 =>
  K v8_3 H2
def O.pspec_l00Src_one : Nat → Bool × List Nat := fun i => (false, [])
theorem R.pspec_l00Src_one {a0 a1 : Value} {H : Hp} {K : Value → Hp → Prop} (h : F.pspec_l00Src_one a0 a1 H K) : HT prg I.pspec_l00Src_one [a0, a1].toArray H K :=
  HT_of_fev O.pspec_l00Src_one mixed Try.func66 (by kernel_rfl) (Eq.mpr (by kernel_rfl : fev prg O.pspec_l00Src_one Try.f66 [a0, a1] H K = F.pspec_l00Src_one a0 a1 H K) h)

/-! loop.example/g01381/spec.R8Lane: function 29 -/
def F.spec_R8Lane (a0 a1 : Value) (H : Hp) (K : Value → Hp → Prop) : Prop :=
  HT prg I.spec_l00From [a0].toArray H fun v9_1 H2 =>
  bS 1 0 #[(.int .i64 0)] 2 [] H2 fun v10_3 H4 =>
  jn (fun σ5 H5 =>
    K (σ5 6) H5) fun J5 =>
  lpE (fun Q6 σ6 H6 =>
    ob (vInt .gtr (σ6 1) (.int .i64 0)) fun v12_7 =>
    cnd v12_7
      (jn (fun σ8 H8 =>
      bS 1 1 #[(.int .i64 0)] 2 [(0, (σ8 7))] H8 fun v21_9 H10 =>
      apd 1 8 #[(.int .i64 0)] 2 (σ8 6) v21_9 H10 fun v22_11 H12 =>
      ob (vInt .sub (σ8 1) (.int .i64 1)) fun v14_13 =>
    Q6 .normal (up (up (up (up (up (up (up (up σ8 19 (σ8 6)) 20 (σ8 7)) 21 v21_9) 22 v22_11) 6 v22_11) 13 (σ8 1)) 14 v14_13) 1 v14_13) H12) fun J8 =>
    HT prg I.pspec_l00Src_one [(σ6 5), (.int .i64 3)].toArray H6 fun v16_14 H15 =>
    cnd v16_14
      (HT prg I.pspec_l00Src_pick [(σ6 5), (.int .i64 4)].toArray H15 fun v18_16 H17 =>
      J8 (up (up (up (up (up (up (up (up σ6 11 (σ6 1)) 12 v12_7) 7 (.int .i64 (-1))) 15 (σ6 5)) 16 v16_14) 17 (σ6 5)) 18 v18_16) 7 v18_16) H17)
      (J8 (up (up (up (up (up σ6 11 (σ6 1)) 12 v12_7) 7 (.int .i64 (-1))) 15 (σ6 5)) 16 v16_14) H15))
      (Q6 (.exit 0) (up (up σ6 11 (σ6 1)) 12 v12_7) H6)) (blkQ 0 (thenQ J5 (retQ prg [(.tmp 4)] K))) (up (up (up (up (up (up (S0 [a0, a1]) 4 (.slice none 0 0)) 8 a0) 9 v9_1) 5 v9_1) 10 v10_3) 6 v10_3) H4
def O.spec_R8Lane : Nat → Bool × List Nat := fun i => (false, [])
theorem R.spec_R8Lane {a0 a1 : Value} {H : Hp} {K : Value → Hp → Prop} (h : F.spec_R8Lane a0 a1 H K) : HT prg I.spec_R8Lane [a0, a1].toArray H K :=
  HT_of_fev O.spec_R8Lane mixed Try.func29 (by kernel_rfl) (Eq.mpr (by kernel_rfl : fev prg O.spec_R8Lane Try.f29 [a0, a1] H K = F.spec_R8Lane a0 a1 H K) h)

/-! loop.example/g01381/laws.r8Cars: function 30 -/
def F.laws_r8Cars (a0 : Value) (H : Hp) (K : Value → Hp → Prop) : Prop :=
  jn (fun σ1 H1 =>
    K (σ1 3) H1) fun J1 =>
  lpE (fun Q2 σ2 H2 =>
    ob (vLenSl (σ2 0)) fun v7_3 =>
    ob (vInt .lss (σ2 4) v7_3) fun v8_4 =>
    cnd v8_4
      (jn (fun σ5 H5 =>
      ob (vInt .add (σ5 4) (.int .i64 1)) fun v10_6 =>
      Q2 .normal (up (up (up σ5 9 (σ5 4)) 10 v10_6) 4 v10_6) H5) fun J5 =>
    ob (vIx 1 (σ2 0) (σ2 4)) fun v13_7 =>
    ob (vLoad v13_7 H2) fun v14_8 =>
    ob (vInt .geq v14_8 (.int .i64 0)) fun v15_9 =>
    cnd v15_9
      (ob (vInt .add (σ2 3) (.int .i64 1)) fun v17_10 =>
      J5 (up (up (up (up (up (up (up (up (up (up (up (up σ2 5 (σ2 4)) 6 (σ2 0)) 7 v7_3) 8 v8_4) 11 (σ2 0)) 12 (σ2 4)) 13 v13_7) 14 v14_8) 15 v15_9) 16 (σ2 3)) 17 v17_10) 3 v17_10) H2)
      (J5 (up (up (up (up (up (up (up (up (up σ2 5 (σ2 4)) 6 (σ2 0)) 7 v7_3) 8 v8_4) 11 (σ2 0)) 12 (σ2 4)) 13 v13_7) 14 v14_8) 15 v15_9) H2))
      (Q2 (.exit 0) (up (up (up (up σ2 5 (σ2 4)) 6 (σ2 0)) 7 v7_3) 8 v8_4) H2)) (blkQ 0 (thenQ J1 (retQ prg [(.tmp 2)] K))) (up (up (up (S0 [a0]) 2 (.int .i64 0)) 3 (.int .i64 0)) 4 (.int .i64 0)) H
def O.laws_r8Cars : Nat → Bool × List Nat := fun i => (false, [])
theorem R.laws_r8Cars {a0 : Value} {H : Hp} {K : Value → Hp → Prop} (h : F.laws_r8Cars a0 H K) : HT prg I.laws_r8Cars [a0].toArray H K :=
  HT_of_fev O.laws_r8Cars mixed Try.func30 (by kernel_rfl) (Eq.mpr (by kernel_rfl : fev prg O.laws_r8Cars Try.f30 [a0] H K = F.laws_r8Cars a0 H K) h)

end Go.Proofs.Ytdfoobomlabffaa
