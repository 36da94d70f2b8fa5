/- Functions' texts over a partial heap. -/
import Derived.Test.YtdfoobomlabffaaG0
namespace Go.Proofs.Ytdfoobomlabffaa
open HL
set_option linter.unusedVariables false
set_option maxRecDepth 100000
set_option maxHeartbeats 4000000
/-! loop.example/g01381/spec.l00In: function 53 -/
def F.spec_l00In (a0 a1 a2 : Value) (H : Hp) (K : Value → Hp → Prop) : Prop :=
  ob (vInt .geq a0 a1) fun v9x1 =>
  gop v9x1 true (fun K2 => K2 a0 H) H fun v11x3 H4 =>
  gop v9x1 true (fun K5 => K5 a2 H4) H4 fun v12x6 H7 =>
  gop v9x1 true (fun K8 => ob (vInt .leq v11x3 v12x6) fun u => K8 u H7) H7 fun v13x9 H10 =>
  ob (vPick v9x1 v13x9 (.bool false)) fun v14x11 =>
  K v14x11 H10
def O.spec_l00In : Nat → Nat × List Nat := fun i => (0, [])
theorem R.spec_l00In {a0 a1 a2 : Value} {H : Hp} {K : Value → Hp → Prop} (h : F.spec_l00In a0 a1 a2 H K) : HT prg I.spec_l00In [a0, a1, a2].toArray H K :=
  HT_of_fev O.spec_l00In mixed Try.func53 (by kernel_rfl) (Eq.mpr (by kernel_rfl : fev prg O.spec_l00In Try.f53 [a0, a1, a2] H K = F.spec_l00In a0 a1 a2 H K) h)

/-! loop.example/g01381/spec.l06Lane: function 48 -/
def F.spec_l06Lane (a0 : Value) (H : Hp) (K : Value → Hp → Prop) : Prop :=
  jn (fun σ1 H1 =>
    ob (vLenSl (σ1 0)) fun v17x2 =>
    ob (vInt .geq v17x2 (.int .i64 1)) fun v18x3 =>
    gop v18x3 true (fun K4 => K4 (σ1 0) H1) H1 fun v20x5 H6 =>
    gop v18x3 true (fun K7 => ob (vLenSl v20x5) fun u => K7 u H6) H6 fun v21x8 H9 =>
    gop v18x3 true (fun K10 => ob (vInt .leq v21x8 (.int .i64 64)) fun u => K10 u H9) H9 fun v22x11 H12 =>
    ob (vPick v18x3 v22x11 (.bool false)) fun v23x13 =>
    K v23x13 H12) fun J1 =>
  lpE (fun Q14 σ14 H14 =>
    ob (vLenSl (σ14 0)) fun v6x15 =>
    ob (vInt .lss (σ14 3) v6x15) fun v7x16 =>
    cnd v7x16
      (ob (vIx 1 (σ14 0) (σ14 3)) fun v12x17 =>
    ob (vLoad v12x17 H14) fun v13x18 =>
    HT prg I.spec_l00In [v13x18, (.int .i64 (-1)), (.int .i64 5)].toArray H14 fun v14x19 H20 =>
    ob (vUn .not v14x19) fun v15x21 =>
    cnd v15x21
      (Q14 .ret (up (up (up (up (up (up (up (up (up (up (up σ14 4 (σ14 3)) 5 (σ14 0)) 6 v6x15) 7 v7x16) 10 (σ14 0)) 11 (σ14 3)) 12 v12x17) 13 v13x18) 14 v14x19) 15 v15x21) 2 (.bool false)) H20)
      (ob (vInt .add (σ14 3) (.int .i64 1)) fun v9x22 =>
    Q14 .normal (up (up (up (up (up (up (up (up (up (up (up (up (up σ14 4 (σ14 3)) 5 (σ14 0)) 6 v6x15) 7 v7x16) 10 (σ14 0)) 11 (σ14 3)) 12 v12x17) 13 v13x18) 14 v14x19) 15 v15x21) 8 (σ14 3)) 9 v9x22) 3 v9x22) H20))
      (Q14 (.exit 0) (up (up (up (up σ14 4 (σ14 3)) 5 (σ14 0)) 6 v6x15) 7 v7x16) H14)) (blkQ 0 (thenQ J1 (retQ prg [(.tmp 2)] K))) (up (up (S0 [a0]) 2 (.bool false)) 3 (.int .i64 0)) H
def O.spec_l06Lane : Nat → Nat × List Nat := fun i => (0, [])
theorem R.spec_l06Lane {a0 : Value} {H : Hp} {K : Value → Hp → Prop} (h : F.spec_l06Lane a0 H K) : HT prg I.spec_l06Lane [a0].toArray H K :=
  HT_of_fev O.spec_l06Lane mixed Try.func48 (by kernel_rfl) (Eq.mpr (by kernel_rfl : fev prg O.spec_l06Lane Try.f48 [a0] H K = F.spec_l06Lane a0 H K) h)

/-! loop.example/g01381/spec.IsLane: function 14 -/
def F.spec_IsLane (a0 : Value) (H : Hp) (K : Value → Hp → Prop) : Prop :=
  HT prg I.spec_l06Lane [a0].toArray H fun v4x1 H2 =>
  K v4x1 H2
def O.spec_IsLane : Nat → Nat × List Nat := fun i => (0, [])
theorem R.spec_IsLane {a0 : Value} {H : Hp} {K : Value → Hp → Prop} (h : F.spec_IsLane a0 H K) : HT prg I.spec_IsLane [a0].toArray H K :=
  HT_of_fev O.spec_IsLane mixed Try.func14 (by kernel_rfl) (Eq.mpr (by kernel_rfl : fev prg O.spec_IsLane Try.f14 [a0] H K = F.spec_IsLane a0 H K) h)

/-! loop.example/g01381/laws.toInt64S: function 15 -/
def F.laws_toInt64S (a0 : Value) (H : Hp) (K : Value → Hp → Prop) : Prop :=
  ob (vLenSl a0) fun v6x1 =>
  mkS 1 8 #[(.int .i64 0)] 2 v6x1 v6x1 H fun v7x2 H3 =>
  jn (fun σ4 H4 =>
    K (σ4 3) H4) fun J4 =>
  lpE (fun Q5 σ5 H5 =>
    ob (vLenSl (σ5 0)) fun v10x6 =>
    ob (vInt .lss (σ5 4) v10x6) fun v11x7 =>
    cnd v11x7
      (ob (vIx 1 (σ5 0) (σ5 4)) fun v18x8 =>
    ob (vLoad v18x8 H5) fun v19x9 =>
    ob (vIx 1 (σ5 3) (σ5 4)) fun v20x10 =>
    st 1 v20x10 v19x9 H5 fun H11 =>
    ob (vInt .add (σ5 4) (.int .i64 1)) fun v13x12 =>
    Q5 .normal (up (up (up (up (up (up (up (up (up (up (up (up (up (up σ5 8 (σ5 4)) 9 (σ5 0)) 10 v10x6) 11 v11x7) 14 (σ5 3)) 15 (σ5 4)) 16 (σ5 0)) 17 (σ5 4)) 18 v18x8) 19 v19x9) 20 v20x10) 12 (σ5 4)) 13 v13x12) 4 v13x12) H11)
      (Q5 (.exit 0) (up (up (up (up σ5 8 (σ5 4)) 9 (σ5 0)) 10 v10x6) 11 v11x7) H5)) (blkQ 0 (thenQ J4 (retQ prg [(.tmp 2)] K))) (up (up (up (up (up (up (S0 [a0]) 2 (.slice none 0 0)) 5 a0) 6 v6x1) 7 v7x2) 3 v7x2) 4 (.int .i64 0)) H3
def O.laws_toInt64S : Nat → Nat × List Nat := fun i => (0, [])
theorem R.laws_toInt64S {a0 : Value} {H : Hp} {K : Value → Hp → Prop} (h : F.laws_toInt64S a0 H K) : HT prg I.laws_toInt64S [a0].toArray H K :=
  HT_of_fev O.laws_toInt64S mixed Try.func15 (by kernel_rfl) (Eq.mpr (by kernel_rfl : fev prg O.laws_toInt64S Try.f15 [a0] H K = F.laws_toInt64S a0 H K) h)

/-! loop.example/g01381/impl.within: function 58 -/
def F.impl_within (a0 a1 a2 : Value) (H : Hp) (K : Value → Hp → Prop) : Prop :=
  ob (vInt .geq a0 a1) fun v9x1 =>
  gop v9x1 true (fun K2 => K2 a0 H) H fun v11x3 H4 =>
  gop v9x1 true (fun K5 => K5 a2 H4) H4 fun v12x6 H7 =>
  gop v9x1 true (fun K8 => ob (vInt .leq v11x3 v12x6) fun u => K8 u H7) H7 fun v13x9 H10 =>
  ob (vPick v9x1 v13x9 (.bool false)) fun v14x11 =>
  K v14x11 H10
def O.impl_within : Nat → Nat × List Nat := fun i => (0, [])
theorem R.impl_within {a0 a1 a2 : Value} {H : Hp} {K : Value → Hp → Prop} (h : F.impl_within a0 a1 a2 H K) : HT prg I.impl_within [a0, a1, a2].toArray H K :=
  HT_of_fev O.impl_within mixed Try.func58 (by kernel_rfl) (Eq.mpr (by kernel_rfl : fev prg O.impl_within Try.f58 [a0, a1, a2] H K = F.impl_within a0 a1 a2 H K) h)

/-! loop.example/g01381/impl.areWithin: function 90 -/
def F.impl_areWithin (a0 a1 a2 : Value) (H : Hp) (K : Value → Hp → Prop) : Prop :=
  jn (fun σ1 H1 =>
    K (.bool true) H1) fun J1 =>
  ob (vLenSl a0) fun v10x2 =>
  lpE (fun Q3 σ3 H3 =>
    ob (vInt .lss (σ3 11) (σ3 10)) fun v12x4 =>
    cnd v12x4
      (ob (vIx 1 (σ3 9) (σ3 11)) fun v13x5 =>
    ob (vLoad v13x5 H3) fun v14x6 =>
    HT prg I.impl_within [v14x6, (σ3 1), (σ3 2)].toArray H3 fun v18x7 H8 =>
    ob (vUn .not v18x7) fun v19x9 =>
    cnd v19x9
      (Q3 .ret (up (up (up (up (up (up (up (up (up (up σ3 12 v12x4) 13 v13x5) 14 v14x6) 8 v14x6) 15 v14x6) 16 (σ3 1)) 17 (σ3 2)) 18 v18x7) 19 v19x9) 6 (.bool false)) H8)
      (ob (vInt .add (σ3 11) (.int .i64 1)) fun v20x10 =>
    Q3 .normal (up (up (up (up (up (up (up (up (up (up (up σ3 12 v12x4) 13 v13x5) 14 v14x6) 8 v14x6) 15 v14x6) 16 (σ3 1)) 17 (σ3 2)) 18 v18x7) 19 v19x9) 20 v20x10) 11 v20x10) H8))
      (Q3 (.exit 0) (up σ3 12 v12x4) H3)) (blkQ 0 (thenQ J1 (retQ prg [(.tmp 6)] K))) (up (up (up (up (S0 [a0, a1, a2]) 6 (.bool false)) 9 a0) 10 v10x2) 11 (.int .i64 0)) H
def O.impl_areWithin : Nat → Nat × List Nat := fun i => (0, [])
theorem R.impl_areWithin {a0 a1 a2 : Value} {H : Hp} {K : Value → Hp → Prop} (h : F.impl_areWithin a0 a1 a2 H K) : HT prg I.impl_areWithin [a0, a1, a2].toArray H K :=
  HT_of_fev O.impl_areWithin mixed Try.func90 (by kernel_rfl) (Eq.mpr (by kernel_rfl : fev prg O.impl_areWithin Try.f90 [a0, a1, a2] H K = F.impl_areWithin a0 a1 a2 H K) h)

/-! loop.example/g01381/impl.areMany: function 49 -/
def F.impl_areMany (a0 a1 a2 a3 a4 : Value) (H : Hp) (K : Value → Hp → Prop) : Prop :=
  ob (vLenSl a0) fun v12x1 =>
  HT prg I.impl_within [v12x1, a1, a2].toArray H fun v15x2 H3 =>
  gop v15x2 true (fun K4 => K4 a0 H3) H3 fun v17x5 H6 =>
  gop v15x2 true (fun K7 => K7 a3 H6) H6 fun v18x8 H9 =>
  gop v15x2 true (fun K10 => K10 a4 H9) H9 fun v19x11 H12 =>
  gop v15x2 true (fun K13 => HT prg I.impl_areWithin [v17x5, v18x8, v19x11].toArray H12 K13) H12 fun v20x14 H15 =>
  ob (vPick v15x2 v20x14 (.bool false)) fun v21x16 =>
  K v21x16 H15
def O.impl_areMany : Nat → Nat × List Nat := fun i => (0, [])
theorem R.impl_areMany {a0 a1 a2 a3 a4 : Value} {H : Hp} {K : Value → Hp → Prop} (h : F.impl_areMany a0 a1 a2 a3 a4 H K) : HT prg I.impl_areMany [a0, a1, a2, a3, a4].toArray H K :=
  HT_of_fev O.impl_areMany mixed Try.func49 (by kernel_rfl) (Eq.mpr (by kernel_rfl : fev prg O.impl_areMany Try.f49 [a0, a1, a2, a3, a4] H K = F.impl_areMany a0 a1 a2 a3 a4 H K) h)

/-! loop.example/g01381/impl.IsLane: function 16 -/
def F.impl_IsLane (a0 : Value) (H : Hp) (K : Value → Hp → Prop) : Prop :=
  HT prg I.impl_areMany [a0, (.int .i64 1), (.int .i64 64), (.int .i64 (-1)), (.int .i64 5)].toArray H fun v4x1 H2 =>
  K v4x1 H2
def O.impl_IsLane : Nat → Nat × List Nat := fun i => (0, [])
theorem R.impl_IsLane {a0 : Value} {H : Hp} {K : Value → Hp → Prop} (h : F.impl_IsLane a0 H K) : HT prg I.impl_IsLane [a0].toArray H K :=
  HT_of_fev O.impl_IsLane mixed Try.func16 (by kernel_rfl) (Eq.mpr (by kernel_rfl : fev prg O.impl_IsLane Try.f16 [a0] H K = F.impl_IsLane a0 H K) h)

/-! loop.example/g01381/laws.eqInt64S: function 17 -/
def F.laws_eqInt64S (a0 a1 : Value) (H : Hp) (K : Value → Hp → Prop) : Prop :=
  ob (vLenSl a0) fun v7x1 =>
  ob (vLenSl a1) fun v9x2 =>
  ob (vInt .neq v7x1 v9x2) fun v10x3 =>
  cnd v10x3
    (K (.bool false) H)
    (jn (fun σ4 H4 =>
    K (.bool true) H4) fun J4 =>
  lpE (fun Q5 σ5 H5 =>
    ob (vLenSl (σ5 0)) fun v13x6 =>
    ob (vInt .lss (σ5 5) v13x6) fun v14x7 =>
    cnd v14x7
      (ob (vIx 1 (σ5 0) (σ5 5)) fun v19x8 =>
    ob (vLoad v19x8 H5) fun v20x9 =>
    ob (vIx 1 (σ5 1) (σ5 5)) fun v23x10 =>
    ob (vLoad v23x10 H5) fun v24x11 =>
    ob (vInt .neq v20x9 v24x11) fun v25x12 =>
    cnd v25x12
      (Q5 .ret (up (up (up (up (up (up (up (up (up (up (up (up (up (up σ5 11 (σ5 5)) 12 (σ5 0)) 13 v13x6) 14 v14x7) 17 (σ5 0)) 18 (σ5 5)) 19 v19x8) 20 v20x9) 21 (σ5 1)) 22 (σ5 5)) 23 v23x10) 24 v24x11) 25 v25x12) 4 (.bool false)) H5)
      (ob (vInt .add (σ5 5) (.int .i64 1)) fun v16x13 =>
    Q5 .normal (up (up (up (up (up (up (up (up (up (up (up (up (up (up (up (up σ5 11 (σ5 5)) 12 (σ5 0)) 13 v13x6) 14 v14x7) 17 (σ5 0)) 18 (σ5 5)) 19 v19x8) 20 v20x9) 21 (σ5 1)) 22 (σ5 5)) 23 v23x10) 24 v24x11) 25 v25x12) 15 (σ5 5)) 16 v16x13) 5 v16x13) H5))
      (Q5 (.exit 0) (up (up (up (up σ5 11 (σ5 5)) 12 (σ5 0)) 13 v13x6) 14 v14x7) H5)) (blkQ 0 (thenQ J4 (retQ prg [(.tmp 4)] K))) (up (up (up (up (up (up (up (S0 [a0, a1]) 4 (.bool false)) 6 a0) 7 v7x1) 8 a1) 9 v9x2) 10 v10x3) 5 (.int .i64 0)) H)
def O.laws_eqInt64S : Nat → Nat × List Nat := fun i => bif Nat.beq i 6 then (0, [0, 1, 2, 3, 4, 5, 6, 7, 8]) else (0, [])
theorem R.laws_eqInt64S {a0 a1 : Value} {H : Hp} {K : Value → Hp → Prop} (h : F.laws_eqInt64S a0 a1 H K) : HT prg I.laws_eqInt64S [a0, a1].toArray H K :=
  HT_of_fev O.laws_eqInt64S mixed Try.func17 (by kernel_rfl) (Eq.mpr (by kernel_rfl : fev prg O.laws_eqInt64S Try.f17 [a0, a1] H K = F.laws_eqInt64S a0 a1 H K) h)

/-! loop.example/g01381/laws.FnExactIsLane: function 3 -/
def F.laws_FnExactIsLane (a0 : Value) (H : Hp) (K : Value → Hp → Prop) : Prop :=
  ob (vLenSl a0) fun v7x1 =>
  ob (vInt .gtr v7x1 (.int .i64 1048576)) fun v8x2 =>
  cnd v8x2
    (K (.bool true) H)
    (HT prg I.laws_toInt64S [a0].toArray H fun v10x3 H4 =>
  HT prg I.spec_IsLane [v10x3].toArray H4 fun v11x5 H6 =>
  HT prg I.laws_toInt64S [a0].toArray H6 fun v13x7 H8 =>
  HT prg I.impl_IsLane [v13x7].toArray H8 fun v15x9 H10 =>
  ob (vBool .neq v15x9 v11x5) fun v18x11 =>
  cnd v18x11
    (K (.bool false) H10)
    (HT prg I.laws_toInt64S [a0].toArray H10 fun v21x12 H13 =>
  HT prg I.laws_eqInt64S [v13x7, v21x12].toArray H13 fun v22x14 H15 =>
  ob (vUn .not v22x14) fun v23x16 =>
  cnd v23x16
    (K (.bool false) H15)
    (K (.bool true) H15)))
def O.laws_FnExactIsLane : Nat → Nat × List Nat := fun i => (0, [])
theorem R.laws_FnExactIsLane {a0 : Value} {H : Hp} {K : Value → Hp → Prop} (h : F.laws_FnExactIsLane a0 H K) : HT prg I.laws_FnExactIsLane [a0].toArray H K :=
  HT_of_fev O.laws_FnExactIsLane mixed Try.func3 (by kernel_rfl) (Eq.mpr (by kernel_rfl : fev prg O.laws_FnExactIsLane Try.f3 [a0] H K = F.laws_FnExactIsLane a0 H K) h)

/-! loop.example/g01381/laws.markInt64S: function 23 -/
def F.laws_markInt64S (a0 a1 : Value) (H : Hp) (K : Value → Hp → Prop) : Prop :=
  jn (fun σ1 H1 =>
    K (σ1 1) H1) fun J1 =>
  lpE (fun Q2 σ2 H2 =>
    ob (vLenSl (σ2 0)) fun v8x3 =>
    ob (vInt .lss (σ2 5) v8x3) fun v9x4 =>
    cnd v9x4
      (ob (vIx 1 (σ2 0) (σ2 5)) fun v15x5 =>
    st 1 v15x5 (σ2 1) H2 fun H6 =>
    ob (vInt .add (σ2 1) (.int .i64 1)) fun v17x7 =>
    ob (vInt .add (σ2 5) (.int .i64 1)) fun v11x8 =>
    Q2 .normal (up (up (up (up (up (up (up (up (up (up (up (up (up (up σ2 6 (σ2 5)) 7 (σ2 0)) 8 v8x3) 9 v9x4) 12 (σ2 0)) 13 (σ2 5)) 14 (σ2 1)) 15 v15x5) 16 (σ2 1)) 17 v17x7) 1 v17x7) 10 (σ2 5)) 11 v11x8) 5 v11x8) H6)
      (Q2 (.exit 0) (up (up (up (up σ2 6 (σ2 5)) 7 (σ2 0)) 8 v8x3) 9 v9x4) H2)) (blkQ 0 (thenQ J1 (retQ prg [(.tmp 4)] K))) (up (up (S0 [a0, a1]) 4 (.int .i64 0)) 5 (.int .i64 0)) H
def O.laws_markInt64S : Nat → Nat × List Nat := fun i => (0, [])
theorem R.laws_markInt64S {a0 a1 : Value} {H : Hp} {K : Value → Hp → Prop} (h : F.laws_markInt64S a0 a1 H K) : HT prg I.laws_markInt64S [a0, a1].toArray H K :=
  HT_of_fev O.laws_markInt64S mixed Try.func23 (by kernel_rfl) (Eq.mpr (by kernel_rfl : fev prg O.laws_markInt64S Try.f23 [a0, a1] H K = F.laws_markInt64S a0 a1 H K) h)

/-! loop.example/g01381/laws.heldInt64S: function 24 -/
def F.laws_heldInt64S (a0 a1 : Value) (H : Hp) (K : Value → Hp → Prop) : Prop :=
  jn (fun σ1 H1 =>
    K (σ1 1) H1) fun J1 =>
  lpE (fun Q2 σ2 H2 =>
    ob (vLenSl (σ2 0)) fun v8x3 =>
    ob (vInt .lss (σ2 5) v8x3) fun v9x4 =>
    cnd v9x4
      (ob (vIx 1 (σ2 0) (σ2 5)) fun v14x5 =>
    ob (vLoad v14x5 H2) fun v15x6 =>
    ob (vInt .neq v15x6 (σ2 1)) fun v17x7 =>
    cnd v17x7
      (Q2 .ret (up (up (up (up (up (up (up (up (up (up (up σ2 6 (σ2 5)) 7 (σ2 0)) 8 v8x3) 9 v9x4) 12 (σ2 0)) 13 (σ2 5)) 14 v14x5) 15 v15x6) 16 (σ2 1)) 17 v17x7) 4 (.int .i64 (-1))) H2)
      (ob (vInt .add (σ2 1) (.int .i64 1)) fun v19x8 =>
    ob (vInt .add (σ2 5) (.int .i64 1)) fun v11x9 =>
    Q2 .normal (up (up (up (up (up (up (up (up (up (up (up (up (up (up (up (up σ2 6 (σ2 5)) 7 (σ2 0)) 8 v8x3) 9 v9x4) 12 (σ2 0)) 13 (σ2 5)) 14 v14x5) 15 v15x6) 16 (σ2 1)) 17 v17x7) 18 (σ2 1)) 19 v19x8) 1 v19x8) 10 (σ2 5)) 11 v11x9) 5 v11x9) H2))
      (Q2 (.exit 0) (up (up (up (up σ2 6 (σ2 5)) 7 (σ2 0)) 8 v8x3) 9 v9x4) H2)) (blkQ 0 (thenQ J1 (retQ prg [(.tmp 4)] K))) (up (up (S0 [a0, a1]) 4 (.int .i64 0)) 5 (.int .i64 0)) H
def O.laws_heldInt64S : Nat → Nat × List Nat := fun i => (0, [])
theorem R.laws_heldInt64S {a0 a1 : Value} {H : Hp} {K : Value → Hp → Prop} (h : F.laws_heldInt64S a0 a1 H K) : HT prg I.laws_heldInt64S [a0, a1].toArray H K :=
  HT_of_fev O.laws_heldInt64S mixed Try.func24 (by kernel_rfl) (Eq.mpr (by kernel_rfl : fev prg O.laws_heldInt64S Try.f24 [a0, a1] H K = F.laws_heldInt64S a0 a1 H K) h)

/-! loop.example/g01381/spec.l02Share: function 54 -/
def F.spec_l02Share (a0 : Value) (H : Hp) (K : Value → Hp → Prop) : Prop :=
  ob (vFcmp .geq a0 (.float .f32 0)) fun v4x1 =>
  gop v4x1 true (fun K2 => K2 a0 H) H fun v6x3 H4 =>
  gop v4x1 true (fun K5 => ob (vFcmp .leq v6x3 (.float .f32 1065353216)) fun u => K5 u H4) H4 fun v7x6 H7 =>
  ob (vPick v4x1 v7x6 (.bool false)) fun v8x8 =>
  K v8x8 H7
def O.spec_l02Share : Nat → Nat × List Nat := fun i => (0, [])
theorem R.spec_l02Share {a0 : Value} {H : Hp} {K : Value → Hp → Prop} (h : F.spec_l02Share a0 H K) : HT prg I.spec_l02Share [a0].toArray H K :=
  HT_of_fev O.spec_l02Share mixed Try.func54 (by kernel_rfl) (Eq.mpr (by kernel_rfl : fev prg O.spec_l02Share Try.f54 [a0] H K = F.spec_l02Share a0 H K) h)

/-! loop.example/g01381/spec.l00Min: function 55 -/
def F.spec_l00Min (a0 a1 : Value) (H : Hp) (K : Value → Hp → Prop) : Prop :=
  ob (vInt .lss a0 a1) fun v7x1 =>
  cnd v7x1
    (K a0 H)
    (K a1 H)
def O.spec_l00Min : Nat → Nat × List Nat := fun i => (0, [])
theorem R.spec_l00Min {a0 a1 : Value} {H : Hp} {K : Value → Hp → Prop} (h : F.spec_l00Min a0 a1 H K) : HT prg I.spec_l00Min [a0, a1].toArray H K :=
  HT_of_fev O.spec_l00Min mixed Try.func55 (by kernel_rfl) (Eq.mpr (by kernel_rfl : fev prg O.spec_l00Min Try.f55 [a0, a1] H K = F.spec_l00Min a0 a1 H K) h)

/-! loop.example/g01381/spec.l06Free: function 56 -/
def F.spec_l06Free (a0 a1 : Value) (H : Hp) (K : Value → Hp → Prop) : Prop :=
  ob (vLenSl a0) fun v9x1 =>
  jn (fun σ2 H2 =>
    K (σ2 6) H2) fun J2 =>
  ob (vInt .add a1 (.int .i64 1)) fun v11x3 =>
  ob (vInt .rem v11x3 v9x1) fun v13x4 =>
  lpE (fun Q5 σ5 H5 =>
    ob (vInt .neq (σ5 7) (σ5 1)) fun v16x6 =>
    gop v16x6 true (fun K7 => K7 (σ5 0) H5) H5 fun v18x8 H9 =>
    gop v16x6 true (fun K10 => K10 (σ5 7) H9) H9 fun v19x11 H12 =>
    gop v16x6 true (fun K13 => ob (vIx 1 v18x8 v19x11) fun u => K13 u H12) H12 fun v20x14 H15 =>
    gop v16x6 true (fun K16 => ob (vLoad v20x14 H15) fun u => K16 u H15) H15 fun v21x17 H18 =>
    gop v16x6 true (fun K19 => ob (vInt .lss v21x17 (.int .i64 0)) fun u => K19 u H18) H18 fun v22x20 H21 =>
    ob (vPick v16x6 v22x20 (.bool false)) fun v23x22 =>
    cnd v23x22
      (ob (vInt .add (σ5 6) (.int .i64 1)) fun v29x23 =>
    ob (vInt .add (σ5 7) (.int .i64 1)) fun v25x24 =>
    ob (vInt .rem v25x24 (σ5 5)) fun v27x25 =>
    Q5 .normal (up (up (up (up (up (up (up (up (up (up (up (up (up (up (up (up (up (up σ5 14 (σ5 7)) 15 (σ5 1)) 16 v16x6) 17 v16x6) 18 v18x8) 19 v19x11) 20 v20x14) 21 v21x17) 22 v22x20) 23 v23x22) 28 (σ5 6)) 29 v29x23) 6 v29x23) 24 (σ5 7)) 25 v25x24) 26 (σ5 5)) 27 v27x25) 7 v27x25) H21)
      (Q5 (.exit 0) (up (up (up (up (up (up (up (up (up (up σ5 14 (σ5 7)) 15 (σ5 1)) 16 v16x6) 17 v16x6) 18 v18x8) 19 v19x11) 20 v20x14) 21 v21x17) 22 v22x20) 23 v23x22) H21)) (blkQ 0 (thenQ J2 (retQ prg [(.tmp 4)] K))) (up (up (up (up (up (up (up (up (up (up (S0 [a0, a1]) 4 (.int .i64 0)) 8 a0) 9 v9x1) 5 v9x1) 6 (.int .i64 0)) 10 a1) 11 v11x3) 12 v9x1) 13 v13x4) 7 v13x4) H
def O.spec_l06Free : Nat → Nat × List Nat := fun i => (0, [])
theorem R.spec_l06Free {a0 a1 : Value} {H : Hp} {K : Value → Hp → Prop} (h : F.spec_l06Free a0 a1 H K) : HT prg I.spec_l06Free [a0, a1].toArray H K :=
  HT_of_fev O.spec_l06Free mixed Try.func56 (by kernel_rfl) (Eq.mpr (by kernel_rfl : fev prg O.spec_l06Free Try.f56 [a0, a1] H K = F.spec_l06Free a0 a1 H K) h)

/-! loop.example/g01381/spec.l06Seed: function 57 -/
def F.spec_l06Seed (a0 : Value) (H : Hp) (K : Value → Hp → Prop) : Prop :=
  ob (vInt .mul (.int .i64 1664525) a0) fun v5x1 =>
  ob (vInt .add v5x1 (.int .i64 1013904223)) fun v6x2 =>
  ob (vInt .rem v6x2 (.int .i64 4294967296)) fun v7x3 =>
  ob (vInt .quo v7x3 (.int .i64 256)) fun v10x4 =>
  ob (vCF .f32 v10x4) fun v11x5 =>
  fA .quo v11x5 (.float .f32 1266679808) H fun v12x6 H7 =>
  K (.tuple #[v7x3, v12x6]) H7
def O.spec_l06Seed : Nat → Nat × List Nat := fun i => (0, [])
theorem R.spec_l06Seed {a0 : Value} {H : Hp} {K : Value → Hp → Prop} (h : F.spec_l06Seed a0 H K) : HT prg I.spec_l06Seed [a0].toArray H K :=
  HT_of_fev O.spec_l06Seed mixed Try.func57 (by kernel_rfl) (Eq.mpr (by kernel_rfl : fev prg O.spec_l06Seed Try.f57 [a0] H K = F.spec_l06Seed a0 H K) h)

/-! loop.example/g01381/spec.LaneStep: function 25 -/
def F.spec_LaneStep (a0 a1 a2 a3 : Value) (H : Hp) (K : Value → Hp → Prop) : Prop :=
  HT prg I.spec_l06Lane [a0].toArray H fun v18x1 H2 =>
  ob (vUn .not v18x1) fun v19x3 =>
  gop v19x3 false (fun K4 => K4 a1 H2) H2 fun v21x5 H6 =>
  gop v19x3 false (fun K7 => HT prg I.spec_l00In [v21x5, (.int .i64 1), (.int .i64 5)].toArray H6 K7) H6 fun v22x8 H9 =>
  gop v19x3 false (fun K10 => ob (vUn .not v22x8) fun u => K10 u H9) H9 fun v23x11 H12 =>
  ob (vPick v19x3 (.bool true) v23x11) fun v24x13 =>
  gop v24x13 false (fun K14 => K14 a2 H12) H12 fun v26x15 H16 =>
  gop v24x13 false (fun K17 => HT prg I.spec_l02Share [v26x15].toArray H16 K17) H16 fun v27x18 H19 =>
  gop v24x13 false (fun K20 => ob (vUn .not v27x18) fun u => K20 u H19) H19 fun v28x21 H22 =>
  ob (vPick v24x13 (.bool true) v28x21) fun v29x23 =>
  gop v29x23 false (fun K24 => K24 a3 H22) H22 fun v31x25 H26 =>
  gop v29x23 false (fun K27 => HT prg I.spec_l00In [v31x25, (.int .i64 0), (.int .i64 4294967295)].toArray H26 K27) H26 fun v32x28 H29 =>
  gop v29x23 false (fun K30 => ob (vUn .not v32x28) fun u => K30 u H29) H29 fun v33x31 H32 =>
  ob (vPick v29x23 (.bool true) v33x31) fun v34x33 =>
  cnd v34x33
    (K (.tuple #[(.slice none 0 0), (.int .i64 0), (.bool false)]) H32)
    (bS 1 0 #[(.int .i64 0)] 2 [] H32 fun v35x34 H35 =>
  jn (fun σ36 H36 =>
    jn (fun σ37 H37 =>
      K (.tuple #[(σ37 11), (σ37 3), (.bool true)]) H37) fun J37 =>
    lpE (fun Q38 σ38 H38 =>
      ob (vLenSl (σ38 0)) fun v47x39 =>
      ob (vInt .lss (σ38 13) v47x39) fun v48x40 =>
      cnd v48x40
        (ob (vIx 1 (σ38 0) (σ38 13)) fun v53x41 =>
      ob (vLoad v53x41 H38) fun v54x42 =>
      ob (vInt .lss v54x42 (.int .i64 0)) fun v55x43 =>
      cnd v55x43
        (ob (vInt .add (σ38 13) (.int .i64 1)) fun v50x44 =>
      Q38 .normal (up (up (up (up (up (up (up (up (up (up (up (up σ38 45 (σ38 13)) 46 (σ38 0)) 47 v47x39) 48 v48x40) 51 (σ38 0)) 52 (σ38 13)) 53 v53x41) 54 v54x42) 55 v55x43) 49 (σ38 13)) 50 v50x44) 13 v50x44) H38)
        (ob (vIx 1 (σ38 0) (σ38 13)) fun v58x45 =>
      ob (vLoad v58x45 H38) fun v59x46 =>
      ob (vInt .add v59x46 (.int .i64 1)) fun v60x47 =>
      HT prg I.spec_l00Min [v60x47, (σ38 1)].toArray H38 fun v62x48 H49 =>
      HT prg I.spec_l06Free [(σ38 0), (σ38 13)].toArray H49 fun v65x50 H51 =>
      HT prg I.spec_l00Min [v62x48, v65x50].toArray H51 fun v66x52 H53 =>
      HT prg I.spec_l06Seed [(σ38 3)].toArray H53 fun v69x54 H55 =>
      ob (vExt v69x54 0) fun v70x56 =>
      ob (vExt v69x54 1) fun v71x57 =>
      ob (vFcmp .lss v71x57 (σ38 2)) fun v75x58 =>
      gop v75x58 true (fun K59 => K59 v66x52 H55) H55 fun v77x60 H61 =>
      gop v75x58 true (fun K62 => ob (vInt .gtr v77x60 (.int .i64 0)) fun u => K62 u H61) H61 fun v78x63 H64 =>
      ob (vPick v75x58 v78x63 (.bool false)) fun v79x65 =>
      cnd v79x65
        (ob (vInt .sub v66x52 (.int .i64 1)) fun v81x66 =>
        ob (vInt .add (σ38 13) v81x66) fun v85x67 =>
      ob (vLenSl (σ38 0)) fun v87x68 =>
      ob (vInt .rem v85x67 v87x68) fun v88x69 =>
      ob (vIx 1 (σ38 11) v88x69) fun v90x70 =>
      st 1 v90x70 v81x66 H64 fun H71 =>
      ob (vInt .add (σ38 13) (.int .i64 1)) fun v50x72 =>
      Q38 .normal (up (up (up (up (up (up (up (up (up (up (up (up (up (up (up (up (up (up (up (up (up (up (up (up (up (up (up (up (up (up (up (up (up (up (up (up (up (up (up (up (up (up (up (up (up (up (up (up (up (up (up (up σ38 45 (σ38 13)) 46 (σ38 0)) 47 v47x39) 48 v48x40) 51 (σ38 0)) 52 (σ38 13)) 53 v53x41) 54 v54x42) 55 v55x43) 56 (σ38 0)) 57 (σ38 13)) 58 v58x45) 59 v59x46) 60 v60x47) 61 (σ38 1)) 62 v62x48) 63 (σ38 0)) 64 (σ38 13)) 65 v65x50) 66 v66x52) 14 v66x52) 68 (σ38 3)) 69 v69x54) 67 v69x54) 70 v70x56) 71 v71x57) 15 v70x56) 16 v71x57) 72 v70x56) 3 v70x56) 73 v71x57) 74 (σ38 2)) 75 v75x58) 76 v75x58) 77 v77x60) 78 v78x63) 79 v79x65) 80 v66x52) 81 v81x66) 14 v81x66) 82 (σ38 11)) 83 (σ38 13)) 84 v81x66) 85 v85x67) 86 (σ38 0)) 87 v87x68) 88 v88x69) 89 v81x66) 90 v90x70) 49 (σ38 13)) 50 v50x72) 13 v50x72) H71)
        (ob (vInt .add (σ38 13) v66x52) fun v85x73 =>
      ob (vLenSl (σ38 0)) fun v87x74 =>
      ob (vInt .rem v85x73 v87x74) fun v88x75 =>
      ob (vIx 1 (σ38 11) v88x75) fun v90x76 =>
      st 1 v90x76 v66x52 H64 fun H77 =>
      ob (vInt .add (σ38 13) (.int .i64 1)) fun v50x78 =>
      Q38 .normal (up (up (up (up (up (up (up (up (up (up (up (up (up (up (up (up (up (up (up (up (up (up (up (up (up (up (up (up (up (up (up (up (up (up (up (up (up (up (up (up (up (up (up (up (up (up (up (up (up σ38 45 (σ38 13)) 46 (σ38 0)) 47 v47x39) 48 v48x40) 51 (σ38 0)) 52 (σ38 13)) 53 v53x41) 54 v54x42) 55 v55x43) 56 (σ38 0)) 57 (σ38 13)) 58 v58x45) 59 v59x46) 60 v60x47) 61 (σ38 1)) 62 v62x48) 63 (σ38 0)) 64 (σ38 13)) 65 v65x50) 66 v66x52) 14 v66x52) 68 (σ38 3)) 69 v69x54) 67 v69x54) 70 v70x56) 71 v71x57) 15 v70x56) 16 v71x57) 72 v70x56) 3 v70x56) 73 v71x57) 74 (σ38 2)) 75 v75x58) 76 v75x58) 77 v77x60) 78 v78x63) 79 v79x65) 82 (σ38 11)) 83 (σ38 13)) 84 v66x52) 85 v85x73) 86 (σ38 0)) 87 v87x74) 88 v88x75) 89 v66x52) 90 v90x76) 49 (σ38 13)) 50 v50x78) 13 v50x78) H77)))
        (Q38 (.exit 2) (up (up (up (up σ38 45 (σ38 13)) 46 (σ38 0)) 47 v47x39) 48 v48x40) H38)) (blkQ 2 (thenQ J37 (retQ prg [(.tmp 8), (.tmp 9), (.tmp 10)] K))) (up σ36 13 (.int .i64 0)) H36) fun J36 =>
  lpE (fun Q79 σ79 H79 =>
    ob (vLenSl (σ79 0)) fun v38x80 =>
    ob (vInt .lss (σ79 12) v38x80) fun v39x81 =>
    cnd v39x81
      (bS 1 1 #[(.int .i64 0)] 2 [(0, (.int .i64 (-1)))] H79 fun v43x82 H83 =>
    apd 1 8 #[(.int .i64 0)] 2 (σ79 11) v43x82 H83 fun v44x84 H85 =>
    ob (vInt .add (σ79 12) (.int .i64 1)) fun v41x86 =>
    Q79 .normal (up (up (up (up (up (up (up (up (up (up (up σ79 36 (σ79 12)) 37 (σ79 0)) 38 v38x80) 39 v39x81) 42 (σ79 11)) 43 v43x82) 44 v44x84) 11 v44x84) 40 (σ79 12)) 41 v41x86) 12 v41x86) H85)
      (Q79 (.exit 0) (up (up (up (up σ79 36 (σ79 12)) 37 (σ79 0)) 38 v38x80) 39 v39x81) H79)) (blkQ 0 (thenQ J36 (retQ prg [(.tmp 8), (.tmp 9), (.tmp 10)] K))) (up (up (up (up (up (up (up (up (up (up (up (up (up (up (up (up (up (up (up (up (up (up (up (up (S0 [a0, a1, a2, a3]) 8 (.slice none 0 0)) 9 (.int .i64 0)) 10 (.bool false)) 17 a0) 18 v18x1) 19 v19x3) 20 v19x3) 21 v21x5) 22 v22x8) 23 v23x11) 24 v24x13) 25 v24x13) 26 v26x15) 27 v27x18) 28 v28x21) 29 v29x23) 30 v29x23) 31 v31x25) 32 v32x28) 33 v33x31) 34 v34x33) 35 v35x34) 11 v35x34) 12 (.int .i64 0)) H35)
def O.spec_LaneStep : Nat → Nat × List Nat := fun i => (0, [])
theorem R.spec_LaneStep {a0 a1 a2 a3 : Value} {H : Hp} {K : Value → Hp → Prop} (h : F.spec_LaneStep a0 a1 a2 a3 H K) : HT prg I.spec_LaneStep [a0, a1, a2, a3].toArray H K :=
  HT_of_fev O.spec_LaneStep mixed Try.func25 (by kernel_rfl) (Eq.mpr (by kernel_rfl : fev prg O.spec_LaneStep Try.f25 [a0, a1, a2, a3] H K = F.spec_LaneStep a0 a1 a2 a3 H K) h)

/-! loop.example/g01381/impl.isShare: function 59 -/
def F.impl_isShare (a0 : Value) (H : Hp) (K : Value → Hp → Prop) : Prop :=
  ob (vFcmp .geq a0 (.float .f32 0)) fun v4x1 =>
  gop v4x1 true (fun K2 => K2 a0 H) H fun v6x3 H4 =>
  gop v4x1 true (fun K5 => ob (vFcmp .leq v6x3 (.float .f32 1065353216)) fun u => K5 u H4) H4 fun v7x6 H7 =>
  ob (vPick v4x1 v7x6 (.bool false)) fun v8x8 =>
  K v8x8 H7
def O.impl_isShare : Nat → Nat × List Nat := fun i => (0, [])
theorem R.impl_isShare {a0 : Value} {H : Hp} {K : Value → Hp → Prop} (h : F.impl_isShare a0 H K) : HT prg I.impl_isShare [a0].toArray H K :=
  HT_of_fev O.impl_isShare mixed Try.func59 (by kernel_rfl) (Eq.mpr (by kernel_rfl : fev prg O.impl_isShare Try.f59 [a0] H K = F.impl_isShare a0 H K) h)

/-! loop.example/g01381/impl.isSeed: function 60 -/
def F.impl_isSeed (a0 : Value) (H : Hp) (K : Value → Hp → Prop) : Prop :=
  HT prg I.impl_within [a0, (.int .i64 0), (.int .i64 4294967295)].toArray H fun v4x1 H2 =>
  K v4x1 H2
def O.impl_isSeed : Nat → Nat × List Nat := fun i => (0, [])
theorem R.impl_isSeed {a0 : Value} {H : Hp} {K : Value → Hp → Prop} (h : F.impl_isSeed a0 H K) : HT prg I.impl_isSeed [a0].toArray H K :=
  HT_of_fev O.impl_isSeed mixed Try.func60 (by kernel_rfl) (Eq.mpr (by kernel_rfl : fev prg O.impl_isSeed Try.f60 [a0] H K = F.impl_isSeed a0 H K) h)

/-! math/bits.Mul32: function 96 -/
def F.math_bits_Mul32 (a0 a1 : Value) (H : Hp) (K : Value → Hp → Prop) : Prop :=
  ob (vCI .u64 a0) fun v8x1 =>
  ob (vCI .u64 a1) fun v10x2 =>
  ob (vInt .mul v8x1 v10x2) fun v11x3 =>
  ob (vInt .shr v11x3 (.int .u64 32)) fun v13x4 =>
  ob (vCI .u32 v13x4) fun v14x5 =>
  ob (vCI .u32 v11x3) fun v16x6 =>
  K (.tuple #[v14x5, v16x6]) H
def O.math_bits_Mul32 : Nat → Nat × List Nat := fun i => (0, [])
theorem R.math_bits_Mul32 {a0 a1 : Value} {H : Hp} {K : Value → Hp → Prop} (h : F.math_bits_Mul32 a0 a1 H K) : HT prg I.math_bits_Mul32 [a0, a1].toArray H K :=
  HT_of_fev O.math_bits_Mul32 mixed Try.func96 (by kernel_rfl) (Eq.mpr (by kernel_rfl : fev prg O.math_bits_Mul32 Try.f96 [a0, a1] H K = F.math_bits_Mul32 a0 a1 H K) h)

/-! math/bits.Mul64: function 97 -/
def F.math_bits_Mul64 (a0 a1 : Value) (H : Hp) (K : Value → Hp → Prop) : Prop :=
  ob (vInt .and a0 (.int .u64 4294967295)) fun v15x1 =>
  ob (vInt .shr a0 (.int .u64 32)) fun v17x2 =>
  ob (vInt .and a1 (.int .u64 4294967295)) fun v19x3 =>
  ob (vInt .shr a1 (.int .u64 32)) fun v21x4 =>
  ob (vInt .mul v15x1 v19x3) fun v24x5 =>
  ob (vInt .mul v17x2 v19x3) fun v27x6 =>
  ob (vInt .shr v24x5 (.int .u64 32)) fun v29x7 =>
  ob (vInt .add v27x6 v29x7) fun v30x8 =>
  ob (vInt .and v30x8 (.int .u64 4294967295)) fun v32x9 =>
  ob (vInt .shr v30x8 (.int .u64 32)) fun v34x10 =>
  ob (vInt .mul v15x1 v21x4) fun v38x11 =>
  ob (vInt .add v32x9 v38x11) fun v39x12 =>
  ob (vInt .mul v17x2 v21x4) fun v42x13 =>
  ob (vInt .add v42x13 v34x10) fun v44x14 =>
  ob (vInt .shr v39x12 (.int .u64 32)) fun v46x15 =>
  ob (vInt .add v44x14 v46x15) fun v47x16 =>
  ob (vInt .mul a0 a1) fun v50x17 =>
  K (.tuple #[v47x16, v50x17]) H
def O.math_bits_Mul64 : Nat → Nat × List Nat := fun i => (0, [])
theorem R.math_bits_Mul64 {a0 a1 : Value} {H : Hp} {K : Value → Hp → Prop} (h : F.math_bits_Mul64 a0 a1 H K) : HT prg I.math_bits_Mul64 [a0, a1].toArray H K :=
  HT_of_fev O.math_bits_Mul64 mixed Try.func97 (by kernel_rfl) (Eq.mpr (by kernel_rfl : fev prg O.math_bits_Mul64 Try.f97 [a0, a1] H K = F.math_bits_Mul64 a0 a1 H K) h)

/-! math/bits.Mul: function 91 -/
def F.math_bits_Mul (a0 a1 : Value) (H : Hp) (K : Value → Hp → Prop) : Prop :=
  cnd (.bool false)
    (ob (vCI .u32 a0) fun v12x1 =>
    ob (vCI .u32 a1) fun v14x2 =>
    HT prg I.math_bits_Mul32 [v12x1, v14x2].toArray H fun v15x3 H4 =>
    ob (vExt v15x3 0) fun v16x5 =>
    ob (vExt v15x3 1) fun v17x6 =>
    ob (vCI .u64 v16x5) fun v19x7 =>
    ob (vCI .u64 v17x6) fun v21x8 =>
    K (.tuple #[v19x7, v21x8]) H4)
    (HT prg I.math_bits_Mul64 [a0, a1].toArray H fun v25x9 H10 =>
  ob (vExt v25x9 0) fun v26x11 =>
  ob (vExt v25x9 1) fun v27x12 =>
  K (.tuple #[v26x11, v27x12]) H10)
def O.math_bits_Mul : Nat → Nat × List Nat := fun i => (0, [])
theorem R.math_bits_Mul {a0 a1 : Value} {H : Hp} {K : Value → Hp → Prop} (h : F.math_bits_Mul a0 a1 H K) : HT prg I.math_bits_Mul [a0, a1].toArray H K :=
  HT_of_fev O.math_bits_Mul mixed Try.func91 (by kernel_rfl) (Eq.mpr (by kernel_rfl : fev prg O.math_bits_Mul Try.f91 [a0, a1] H K = F.math_bits_Mul a0 a1 H K) h)

/-! slices.Repeat[[]int64,int64]: function 61 -/
def F.slices_Repeat_int64Zint64 (a0 a1 : Value) (H : Hp) (K : Value → Hp → Prop) : Prop :=
  jn (fun σ1 H1 =>
    ob (vLenSl (σ1 0)) fun v14x2 =>
    ob (vCI .u64 v14x2) fun v15x3 =>
    ob (vCI .u64 (σ1 1)) fun v17x4 =>
    HT prg I.math_bits_Mul [v15x3, v17x4].toArray H1 fun v18x5 H6 =>
    ob (vExt v18x5 0) fun v19x7 =>
    ob (vExt v18x5 1) fun v20x8 =>
    jn (fun σ9 H9 =>
      ob (vCI .i64 (σ9 6)) fun v29x10 =>
      mkS 1 8 #[(.int .i64 0)] 2 v29x10 v29x10 H9 fun v30x11 H12 =>
      hp prg (builtin .copy #[22, 22] 3 #[false, false] [v30x11, (σ9 0)].toArray) H12 (nextH prg (fun v33x13 H14 =>
      jn (fun σ15 H15 =>
        K (σ15 7) H15) fun J15 =>
      lpE (fun Q16 σ16 H16 =>
        ob (vLenSl (σ16 7)) fun v36x17 =>
        ob (vInt .lss (σ16 8) v36x17) fun v37x18 =>
        cnd v37x18
          (ob (vSl3 1 (σ16 7) (some (σ16 8)) none none) fun v41x19 =>
        ob (vSl3 1 (σ16 7) none (some (σ16 8)) none) fun v44x20 =>
        hp prg (builtin .copy #[22, 22] 3 #[false, false] [v41x19, v44x20].toArray) H16 (nextH prg (fun v45x21 H22 =>
        ob (vInt .add (σ16 8) v45x21) fun v46x23 =>
        Q16 .normal (up (up (up (up (up (up (up (up (up (up (up (up (up (up σ16 34 (σ16 8)) 35 (σ16 7)) 36 v36x17) 37 v37x18) 38 (σ16 8)) 39 (σ16 7)) 40 (σ16 8)) 41 v41x19) 42 (σ16 7)) 43 (σ16 8)) 44 v44x20) 45 v45x21) 46 v46x23) 8 v46x23) H22)))
          (Q16 (.exit 0) (up (up (up (up σ16 34 (σ16 8)) 35 (σ16 7)) 36 v36x17) 37 v37x18) H16)) (blkQ 0 (thenQ J15 (retQ prg [(.tmp 4)] K))) (up (up (up (up (up (up (up (up σ9 28 (σ9 6)) 29 v29x10) 30 v30x11) 7 v30x11) 31 v30x11) 32 (σ9 0)) 33 v33x13) 8 v33x13) H14))) fun J9 =>
    ob (vInt .gtr v19x7 (.int .u64 0)) fun v22x24 =>
    gop v22x24 false (fun K25 => K25 v20x8 H6) H6 fun v24x26 H27 =>
    gop v22x24 false (fun K28 => ob (vInt .gtr v24x26 (.int .u64 9223372036854775807)) fun u => K28 u H27) H27 fun v25x29 H30 =>
    ob (vPick v22x24 (.bool true) v25x29) fun v26x31 =>
    cnd v26x31
      (ob (val prg (Instr.makeInterface 9 (.string ⟨#[116, 104, 101, 32, 114, 101, 115, 117, 108, 116, 32, 111, 102, 32, 40, 108, 101, 110, 40, 120, 41, 32, 42, 32, 99, 111, 117, 110, 116, 41, 32, 111, 118, 101, 114, 102, 108, 111, 119, 115]⟩)) H30) fun v27x32 =>
      hp prg (do pure (Next.value (← Instr.panic v27x32))) H30 (nextH prg (fun _ H33 =>
      J9 (up (up (up (up (up (up (up (up (up (up (up (up (up (up (up (up (up (up σ1 13 (σ1 0)) 14 v14x2) 15 v15x3) 16 (σ1 1)) 17 v17x4) 18 v18x5) 12 v18x5) 19 v19x7) 20 v20x8) 5 v19x7) 6 v20x8) 21 v19x7) 22 v22x24) 23 v22x24) 24 v24x26) 25 v25x29) 26 v26x31) 27 v27x32) H33)))
      (J9 (up (up (up (up (up (up (up (up (up (up (up (up (up (up (up (up (up σ1 13 (σ1 0)) 14 v14x2) 15 v15x3) 16 (σ1 1)) 17 v17x4) 18 v18x5) 12 v18x5) 19 v19x7) 20 v20x8) 5 v19x7) 6 v20x8) 21 v19x7) 22 v22x24) 23 v22x24) 24 v24x26) 25 v25x29) 26 v26x31) H30)) fun J1 =>
  ob (vInt .lss a1 (.int .i64 0)) fun v10x34 =>
  cnd v10x34
    (ob (val prg (Instr.makeInterface 9 (.string ⟨#[99, 97, 110, 110, 111, 116, 32, 98, 101, 32, 110, 101, 103, 97, 116, 105, 118, 101]⟩)) H) fun v11x35 =>
    hp prg (do pure (Next.value (← Instr.panic v11x35))) H (nextH prg (fun _ H36 =>
    J1 (up (up (up (up (S0 [a0, a1]) 4 (.slice none 0 0)) 9 a1) 10 v10x34) 11 v11x35) H36)))
    (J1 (up (up (up (S0 [a0, a1]) 4 (.slice none 0 0)) 9 a1) 10 v10x34) H)
def O.slices_Repeat_int64Zint64 : Nat → Nat × List Nat := fun i => bif Nat.beq i 9 then (0, [0, 1, 2, 3, 4, 5, 6, 7, 8, 9]) else (0, [])
theorem R.slices_Repeat_int64Zint64 {a0 a1 : Value} {H : Hp} {K : Value → Hp → Prop} (h : F.slices_Repeat_int64Zint64 a0 a1 H K) : HT prg I.slices_Repeat_int64Zint64 [a0, a1].toArray H K :=
  HT_of_fev O.slices_Repeat_int64Zint64 mixed Try.func61 (by kernel_rfl) (Eq.mpr (by kernel_rfl : fev prg O.slices_Repeat_int64Zint64 Try.f61 [a0, a1] H K = F.slices_Repeat_int64Zint64 a0 a1 H K) h)

/-! loop.example/g01381/impl.gap: function 62 -/
def F.impl_gap (a0 a1 : Value) (H : Hp) (K : Value → Hp → Prop) : Prop :=
  lpE (fun Q1 σ1 H1 =>
    ob (vInt .add (σ1 1) (σ1 5)) fun v11x2 =>
    ob (vLenSl (σ1 0)) fun v13x3 =>
    ob (vInt .rem v11x2 v13x3) fun v14x4 =>
    ob (vIx 1 (σ1 0) v14x4) fun v15x5 =>
    ob (vLoad v15x5 H1) fun v16x6 =>
    ob (vInt .geq v16x6 (.int .i64 0)) fun v17x7 =>
    cnd v17x7
      (ob (vInt .sub (σ1 5) (.int .i64 1)) fun v19x8 =>
      Q1 .ret (up (up (up (up (up (up (up (up (up (up (up (up (up σ1 8 (σ1 0)) 9 (σ1 1)) 10 (σ1 5)) 11 v11x2) 12 (σ1 0)) 13 v13x3) 14 v14x4) 15 v15x5) 16 v16x6) 17 v17x7) 18 (σ1 5)) 19 v19x8) 4 v19x8) H1)
      (ob (vInt .add (σ1 5) (.int .i64 1)) fun v7x9 =>
    Q1 .normal (up (up (up (up (up (up (up (up (up (up (up (up (up σ1 8 (σ1 0)) 9 (σ1 1)) 10 (σ1 5)) 11 v11x2) 12 (σ1 0)) 13 v13x3) 14 v14x4) 15 v15x5) 16 v16x6) 17 v17x7) 6 (σ1 5)) 7 v7x9) 5 v7x9) H1)) (blkQ 0 (retQ prg [(.tmp 4)] K)) (up (up (S0 [a0, a1]) 4 (.int .i64 0)) 5 (.int .i64 1)) H
def O.impl_gap : Nat → Nat × List Nat := fun i => (0, [])
theorem R.impl_gap {a0 a1 : Value} {H : Hp} {K : Value → Hp → Prop} (h : F.impl_gap a0 a1 H K) : HT prg I.impl_gap [a0, a1].toArray H K :=
  HT_of_fev O.impl_gap mixed Try.func62 (by kernel_rfl) (Eq.mpr (by kernel_rfl : fev prg O.impl_gap Try.f62 [a0, a1] H K = F.impl_gap a0 a1 H K) h)

/-! loop.example/g01381/impl.nextSeed: function 63 -/
def F.impl_nextSeed (a0 : Value) (H : Hp) (K : Value → Hp → Prop) : Prop :=
  ob (vInt .mul (.int .i64 1664525) a0) fun v4x1 =>
  ob (vInt .add v4x1 (.int .i64 1013904223)) fun v5x2 =>
  ob (vInt .rem v5x2 (.int .i64 4294967296)) fun v6x3 =>
  K v6x3 H
def O.impl_nextSeed : Nat → Nat × List Nat := fun i => (0, [])
theorem R.impl_nextSeed {a0 : Value} {H : Hp} {K : Value → Hp → Prop} (h : F.impl_nextSeed a0 H K) : HT prg I.impl_nextSeed [a0].toArray H K :=
  HT_of_fev O.impl_nextSeed mixed Try.func63 (by kernel_rfl) (Eq.mpr (by kernel_rfl : fev prg O.impl_nextSeed Try.f63 [a0] H K = F.impl_nextSeed a0 H K) h)

/-! loop.example/g01381/impl.shareOf: function 64 -/
def F.impl_shareOf (a0 : Value) (H : Hp) (K : Value → Hp → Prop) : Prop :=
  ob (vInt .quo a0 (.int .i64 256)) fun v4x1 =>
  ob (vCF .f32 v4x1) fun v5x2 =>
  fA .quo v5x2 (.float .f32 1266679808) H fun v6x3 H4 =>
  K v6x3 H4
def O.impl_shareOf : Nat → Nat × List Nat := fun i => (0, [])
theorem R.impl_shareOf {a0 : Value} {H : Hp} {K : Value → Hp → Prop} (h : F.impl_shareOf a0 H K) : HT prg I.impl_shareOf [a0].toArray H K :=
  HT_of_fev O.impl_shareOf mixed Try.func64 (by kernel_rfl) (Eq.mpr (by kernel_rfl : fev prg O.impl_shareOf Try.f64 [a0] H K = F.impl_shareOf a0 H K) h)

/-! loop.example/g01381/impl.LaneStep: function 26 -/
def F.impl_LaneStep (a0 a1 a2 a3 : Value) (H : Hp) (K : Value → Hp → Prop) : Prop :=
  HT prg I.impl_IsLane [a0].toArray H fun v15x1 H2 =>
  ob (vUn .not v15x1) fun v16x3 =>
  gop v16x3 false (fun K4 => K4 a1 H2) H2 fun v18x5 H6 =>
  gop v16x3 false (fun K7 => HT prg I.impl_within [v18x5, (.int .i64 1), (.int .i64 5)].toArray H6 K7) H6 fun v19x8 H9 =>
  gop v16x3 false (fun K10 => ob (vUn .not v19x8) fun u => K10 u H9) H9 fun v20x11 H12 =>
  ob (vPick v16x3 (.bool true) v20x11) fun v21x13 =>
  gop v21x13 false (fun K14 => K14 a2 H12) H12 fun v23x15 H16 =>
  gop v21x13 false (fun K17 => HT prg I.impl_isShare [v23x15].toArray H16 K17) H16 fun v24x18 H19 =>
  gop v21x13 false (fun K20 => ob (vUn .not v24x18) fun u => K20 u H19) H19 fun v25x21 H22 =>
  ob (vPick v21x13 (.bool true) v25x21) fun v26x23 =>
  gop v26x23 false (fun K24 => K24 a3 H22) H22 fun v28x25 H26 =>
  gop v26x23 false (fun K27 => HT prg I.impl_isSeed [v28x25].toArray H26 K27) H26 fun v29x28 H29 =>
  gop v26x23 false (fun K30 => ob (vUn .not v29x28) fun u => K30 u H29) H29 fun v30x31 H32 =>
  ob (vPick v26x23 (.bool true) v30x31) fun v31x33 =>
  cnd v31x33
    (K (.tuple #[(.slice none 0 0), (.int .i64 0), (.bool false)]) H32)
    (bS 1 1 #[(.int .i64 0)] 2 [(0, (.int .i64 (-1)))] H32 fun v32x34 H35 =>
  ob (vLenSl a0) fun v34x36 =>
  HT prg I.slices_Repeat_int64Zint64 [v32x34, v34x36].toArray H35 fun v35x37 H38 =>
  jn (fun σ39 H39 =>
    K (.tuple #[(σ39 11), (σ39 3), (.bool true)]) H39) fun J39 =>
  ob (vLenSl a0) fun v37x40 =>
  lpE (fun Q41 σ41 H41 =>
    ob (vInt .lss (σ41 38) (σ41 37)) fun v39x42 =>
    cnd v39x42
      (ob (vIx 1 (σ41 36) (σ41 38)) fun v41x43 =>
    ob (vLoad v41x43 H41) fun v42x44 =>
    ob (vInt .lss v42x44 (.int .i64 0)) fun v44x45 =>
    cnd v44x45
      (ob (vInt .add (σ41 38) (.int .i64 1)) fun v73x46 =>
    Q41 .normal (up (up (up (up (up (up (up (up (up (up σ41 39 v39x42) 40 (σ41 38)) 41 v41x43) 42 v42x44) 12 (σ41 38)) 13 v42x44) 43 v42x44) 44 v44x45) 73 v73x46) 38 v73x46) H41)
      (ob (vInt .add v42x44 (.int .i64 1)) fun v46x47 =>
    HT prg I.impl_gap [(σ41 0), (σ41 38)].toArray H41 fun v50x48 H49 =>
    ob (vMx false v46x47 [(σ41 1), v50x48]) fun v51x50 =>
    HT prg I.impl_nextSeed [(σ41 3)].toArray H49 fun v53x51 H52 =>
    HT prg I.impl_shareOf [v53x51].toArray H52 fun v55x53 H54 =>
    ob (vFcmp .lss v55x53 (σ41 2)) fun v57x55 =>
    gop v57x55 true (fun K56 => K56 v51x50 H54) H54 fun v59x57 H58 =>
    gop v57x55 true (fun K59 => ob (vInt .gtr v59x57 (.int .i64 0)) fun u => K59 u H58) H58 fun v60x60 H61 =>
    ob (vPick v57x55 v60x60 (.bool false)) fun v61x62 =>
    cnd v61x62
      (ob (vInt .sub v51x50 (.int .i64 1)) fun v63x63 =>
      ob (vInt .add (σ41 38) v63x63) fun v67x64 =>
    ob (vLenSl (σ41 0)) fun v69x65 =>
    ob (vInt .rem v67x64 v69x65) fun v70x66 =>
    ob (vIx 1 (σ41 11) v70x66) fun v72x67 =>
    st 1 v72x67 v63x63 H61 fun H68 =>
    ob (vInt .add (σ41 38) (.int .i64 1)) fun v73x69 =>
    Q41 .normal (up (up (up (up (up (up (up (up (up (up (up (up (up (up (up (up (up (up (up (up (up (up (up (up (up (up (up (up (up (up (up (up (up (up (up (up (up (up (up (up (up σ41 39 v39x42) 40 (σ41 38)) 41 v41x43) 42 v42x44) 12 (σ41 38)) 13 v42x44) 43 v42x44) 44 v44x45) 45 v42x44) 46 v46x47) 47 (σ41 1)) 48 (σ41 0)) 49 (σ41 38)) 50 v50x48) 51 v51x50) 13 v51x50) 52 (σ41 3)) 53 v53x51) 3 v53x51) 54 v53x51) 55 v55x53) 56 (σ41 2)) 57 v57x55) 58 v57x55) 59 v59x57) 60 v60x60) 61 v61x62) 62 v51x50) 63 v63x63) 13 v63x63) 64 (σ41 11)) 65 (σ41 38)) 66 v63x63) 67 v67x64) 68 (σ41 0)) 69 v69x65) 70 v70x66) 71 v63x63) 72 v72x67) 73 v73x69) 38 v73x69) H68)
      (ob (vInt .add (σ41 38) v51x50) fun v67x70 =>
    ob (vLenSl (σ41 0)) fun v69x71 =>
    ob (vInt .rem v67x70 v69x71) fun v70x72 =>
    ob (vIx 1 (σ41 11) v70x72) fun v72x73 =>
    st 1 v72x73 v51x50 H61 fun H74 =>
    ob (vInt .add (σ41 38) (.int .i64 1)) fun v73x75 =>
    Q41 .normal (up (up (up (up (up (up (up (up (up (up (up (up (up (up (up (up (up (up (up (up (up (up (up (up (up (up (up (up (up (up (up (up (up (up (up (up (up (up σ41 39 v39x42) 40 (σ41 38)) 41 v41x43) 42 v42x44) 12 (σ41 38)) 13 v42x44) 43 v42x44) 44 v44x45) 45 v42x44) 46 v46x47) 47 (σ41 1)) 48 (σ41 0)) 49 (σ41 38)) 50 v50x48) 51 v51x50) 13 v51x50) 52 (σ41 3)) 53 v53x51) 3 v53x51) 54 v53x51) 55 v55x53) 56 (σ41 2)) 57 v57x55) 58 v57x55) 59 v59x57) 60 v60x60) 61 v61x62) 64 (σ41 11)) 65 (σ41 38)) 66 v51x50) 67 v67x70) 68 (σ41 0)) 69 v69x71) 70 v70x72) 71 v51x50) 72 v72x73) 73 v73x75) 38 v73x75) H74)))
      (Q41 (.exit 0) (up σ41 39 v39x42) H41)) (blkQ 0 (thenQ J39 (retQ prg [(.tmp 8), (.tmp 9), (.tmp 10)] K))) (up (up (up (up (up (up (up (up (up (up (up (up (up (up (up (up (up (up (up (up (up (up (up (up (up (up (up (up (up (S0 [a0, a1, a2, a3]) 8 (.slice none 0 0)) 9 (.int .i64 0)) 10 (.bool false)) 14 a0) 15 v15x1) 16 v16x3) 17 v16x3) 18 v18x5) 19 v19x8) 20 v20x11) 21 v21x13) 22 v21x13) 23 v23x15) 24 v24x18) 25 v25x21) 26 v26x23) 27 v26x23) 28 v28x25) 29 v29x28) 30 v30x31) 31 v31x33) 32 v32x34) 33 a0) 34 v34x36) 35 v35x37) 11 v35x37) 36 a0) 37 v37x40) 38 (.int .i64 0)) H38)
def O.impl_LaneStep : Nat → Nat × List Nat := fun i => (0, [])
theorem R.impl_LaneStep {a0 a1 a2 a3 : Value} {H : Hp} {K : Value → Hp → Prop} (h : F.impl_LaneStep a0 a1 a2 a3 H K) : HT prg I.impl_LaneStep [a0, a1, a2, a3].toArray H K :=
  HT_of_fev O.impl_LaneStep mixed Try.func26 (by kernel_rfl) (Eq.mpr (by kernel_rfl : fev prg O.impl_LaneStep Try.f26 [a0, a1, a2, a3] H K = F.impl_LaneStep a0 a1 a2 a3 H K) h)

/-! loop.example/g01381/laws.FnExactLaneStep: function 6 -/
def F.laws_FnExactLaneStep (a0 a1 a2 a3 : Value) (H : Hp) (K : Value → Hp → Prop) : Prop :=
  ob (vLenSl a0) fun v23x1 =>
  ob (vInt .gtr v23x1 (.int .i64 1048576)) fun v24x2 =>
  cnd v24x2
    (K (.bool true) H)
    (HT prg I.laws_toInt64S [a0].toArray H fun v27x3 H4 =>
  HT prg I.spec_LaneStep [v27x3, a1, a2, a3].toArray H4 fun v31x5 H6 =>
  ob (vExt v31x5 0) fun v32x7 =>
  ob (vExt v31x5 1) fun v33x8 =>
  ob (vExt v31x5 2) fun v34x9 =>
  HT prg I.laws_toInt64S [a0].toArray H6 fun v36x10 H11 =>
  HT prg I.impl_LaneStep [v36x10, a1, a2, a3].toArray H11 fun v42x12 H13 =>
  ob (vExt v42x12 0) fun v43x14 =>
  ob (vExt v42x12 1) fun v44x15 =>
  ob (vExt v42x12 2) fun v45x16 =>
  HT prg I.laws_eqInt64S [v43x14, v32x7].toArray H13 fun v48x17 H18 =>
  ob (vUn .not v48x17) fun v49x19 =>
  gop v49x19 false (fun K20 => K20 v44x15 H18) H18 fun v51x21 H22 =>
  gop v49x19 false (fun K23 => K23 v33x8 H22) H22 fun v52x24 H25 =>
  gop v49x19 false (fun K26 => ob (vInt .neq v51x21 v52x24) fun u => K26 u H25) H25 fun v53x27 H28 =>
  ob (vPick v49x19 (.bool true) v53x27) fun v54x29 =>
  gop v54x29 false (fun K30 => K30 v45x16 H28) H28 fun v56x31 H32 =>
  gop v54x29 false (fun K33 => K33 v34x9 H32) H32 fun v57x34 H35 =>
  gop v54x29 false (fun K36 => ob (vBool .neq v56x31 v57x34) fun u => K36 u H35) H35 fun v58x37 H38 =>
  ob (vPick v54x29 (.bool true) v58x37) fun v59x39 =>
  cnd v59x39
    (K (.bool false) H38)
    (HT prg I.laws_toInt64S [a0].toArray H38 fun v62x40 H41 =>
  HT prg I.laws_eqInt64S [v36x10, v62x40].toArray H41 fun v63x42 H43 =>
  ob (vUn .not v63x42) fun v64x44 =>
  cnd v64x44
    (K (.bool false) H43)
    (HT prg I.laws_markInt64S [v36x10, (.int .i64 1)].toArray H43 fun v67x45 H46 =>
  ob (vInt .lss v67x45 (.int .i64 0)) fun v69x47 =>
  gop v69x47 false (fun K48 => K48 v43x14 H46) H46 fun v71x49 H50 =>
  gop v69x47 false (fun K51 => K51 v32x7 H50) H50 fun v72x52 H53 =>
  gop v69x47 false (fun K54 => HT prg I.laws_eqInt64S [v71x49, v72x52].toArray H53 K54) H53 fun v73x55 H56 =>
  gop v69x47 false (fun K57 => ob (vUn .not v73x55) fun u => K57 u H56) H56 fun v74x58 H59 =>
  ob (vPick v69x47 (.bool true) v74x58) fun v75x60 =>
  gop v75x60 false (fun K61 => K61 v44x15 H59) H59 fun v77x62 H63 =>
  gop v75x60 false (fun K64 => K64 v33x8 H63) H63 fun v78x65 H66 =>
  gop v75x60 false (fun K67 => ob (vInt .neq v77x62 v78x65) fun u => K67 u H66) H66 fun v79x68 H69 =>
  ob (vPick v75x60 (.bool true) v79x68) fun v80x70 =>
  gop v80x70 false (fun K71 => K71 v45x16 H69) H69 fun v82x72 H73 =>
  gop v80x70 false (fun K74 => K74 v34x9 H73) H73 fun v83x75 H76 =>
  gop v80x70 false (fun K77 => ob (vBool .neq v82x72 v83x75) fun u => K77 u H76) H76 fun v84x78 H79 =>
  ob (vPick v80x70 (.bool true) v84x78) fun v85x80 =>
  cnd v85x80
    (K (.bool false) H79)
    (HT prg I.laws_markInt64S [v43x14, (.int .i64 1)].toArray H79 fun v88x81 H82 =>
  HT prg I.laws_heldInt64S [v43x14, (.int .i64 1)].toArray H82 fun v91x83 H84 =>
  ob (vInt .lss v91x83 (.int .i64 0)) fun v93x85 =>
  cnd v93x85
    (K (.bool false) H84)
    (ob (vInt .neq v91x83 v88x81) fun v96x86 =>
  cnd v96x86
    (K (.bool false) H84)
    (HT prg I.laws_toInt64S [a0].toArray H84 fun v99x87 H88 =>
  HT prg I.impl_LaneStep [v99x87, a1, a2, a3].toArray H88 fun v103x89 H90 =>
  ob (vExt v103x89 0) fun v104x91 =>
  ob (vExt v103x89 1) fun v105x92 =>
  ob (vExt v103x89 2) fun v106x93 =>
  HT prg I.laws_eqInt64S [v104x91, v32x7].toArray H90 fun v109x94 H95 =>
  ob (vUn .not v109x94) fun v110x96 =>
  gop v110x96 false (fun K97 => K97 v105x92 H95) H95 fun v112x98 H99 =>
  gop v110x96 false (fun K100 => K100 v33x8 H99) H99 fun v113x101 H102 =>
  gop v110x96 false (fun K103 => ob (vInt .neq v112x98 v113x101) fun u => K103 u H102) H102 fun v114x104 H105 =>
  ob (vPick v110x96 (.bool true) v114x104) fun v115x106 =>
  gop v115x106 false (fun K107 => K107 v106x93 H105) H105 fun v117x108 H109 =>
  gop v115x106 false (fun K110 => K110 v34x9 H109) H109 fun v118x111 H112 =>
  gop v115x106 false (fun K113 => ob (vBool .neq v117x108 v118x111) fun u => K113 u H112) H112 fun v119x114 H115 =>
  ob (vPick v115x106 (.bool true) v119x114) fun v120x116 =>
  cnd v120x116
    (K (.bool false) H115)
    (HT prg I.laws_heldInt64S [v43x14, (.int .i64 1)].toArray H115 fun v123x117 H118 =>
  ob (vInt .lss v123x117 (.int .i64 0)) fun v125x119 =>
  cnd v125x119
    (K (.bool false) H118)
    (ob (vInt .neq v123x117 v88x81) fun v128x120 =>
  cnd v128x120
    (K (.bool false) H118)
    (K (.bool true) H118)))))))))
def O.laws_FnExactLaneStep : Nat → Nat × List Nat := fun i => (0, [])
theorem R.laws_FnExactLaneStep {a0 a1 a2 a3 : Value} {H : Hp} {K : Value → Hp → Prop} (h : F.laws_FnExactLaneStep a0 a1 a2 a3 H K) : HT prg I.laws_FnExactLaneStep [a0, a1, a2, a3].toArray H K :=
  HT_of_fev O.laws_FnExactLaneStep mixed Try.func6 (by kernel_rfl) (Eq.mpr (by kernel_rfl : fev prg O.laws_FnExactLaneStep Try.f6 [a0, a1, a2, a3] H K = F.laws_FnExactLaneStep a0 a1 a2 a3 H K) h)

/-! loop.example/g01381/impl.LaneSpeed: function 19 -/
def F.impl_LaneSpeed (a0 : Value) (H : Hp) (K : Value → Hp → Prop) : Prop :=
  HT prg I.impl_IsLane [a0].toArray H fun v9x1 H2 =>
  ob (vUn .not v9x1) fun v10x3 =>
  cnd v10x3
    (K (.tuple #[(.float .f32 0), (.bool false)]) H2)
    (jn (fun σ4 H4 =>
    ob (vInt .eql (σ4 5) (.int .i64 0)) fun v26x5 =>
    cnd v26x5
      (K (.tuple #[(.float .f32 0), (.bool false)]) H4)
      (ob (vCF .f32 (σ4 4)) fun v28x6 =>
    ob (vCF .f32 (σ4 5)) fun v30x7 =>
    fA .quo v28x6 v30x7 H4 fun v31x8 H9 =>
    K (.tuple #[v31x8, (.bool true)]) H9)) fun J4 =>
  ob (vLenSl a0) fun v12x10 =>
  lpE (fun Q11 σ11 H11 =>
    ob (vInt .lss (σ11 13) (σ11 12)) fun v14x12 =>
    cnd v14x12
      (jn (fun σ13 H13 =>
      ob (vInt .add (σ13 13) (.int .i64 1)) fun v24x14 =>
      Q11 .normal (up (up σ13 24 v24x14) 13 v24x14) H13) fun J13 =>
    ob (vIx 1 (σ11 11) (σ11 13)) fun v15x15 =>
    ob (vLoad v15x15 H11) fun v16x16 =>
    ob (vInt .geq v16x16 (.int .i64 0)) fun v18x17 =>
    cnd v18x17
      (ob (vInt .add (σ11 4) v16x16) fun v21x18 =>
      ob (vInt .add (σ11 5) (.int .i64 1)) fun v23x19 =>
      J13 (up (up (up (up (up (up (up (up (up (up (up (up (up σ11 14 v14x12) 15 v15x15) 16 v16x16) 7 v16x16) 17 v16x16) 18 v18x17) 19 (σ11 4)) 20 v16x16) 21 v21x18) 4 v21x18) 22 (σ11 5)) 23 v23x19) 5 v23x19) H11)
      (J13 (up (up (up (up (up (up σ11 14 v14x12) 15 v15x15) 16 v16x16) 7 v16x16) 17 v16x16) 18 v18x17) H11))
      (Q11 (.exit 0) (up σ11 14 v14x12) H11)) (blkQ 0 (thenQ J4 (retQ prg [(.tmp 2), (.tmp 3)] K))) (up (up (up (up (up (up (up (up (up (up (S0 [a0]) 2 (.float .f32 0)) 3 (.bool false)) 8 a0) 9 v9x1) 10 v10x3) 4 (.int .i64 0)) 5 (.int .i64 0)) 11 a0) 12 v12x10) 13 (.int .i64 0)) H2)
def O.impl_LaneSpeed : Nat → Nat × List Nat := fun i => (0, [])
theorem R.impl_LaneSpeed {a0 : Value} {H : Hp} {K : Value → Hp → Prop} (h : F.impl_LaneSpeed a0 H K) : HT prg I.impl_LaneSpeed [a0].toArray H K :=
  HT_of_fev O.impl_LaneSpeed mixed Try.func19 (by kernel_rfl) (Eq.mpr (by kernel_rfl : fev prg O.impl_LaneSpeed Try.f19 [a0] H K = F.impl_LaneSpeed a0 H K) h)

/-! loop.example/g01381/impl.SwitchLanes$1: function 51 -/
def F.impl_SwitchLanes_1 (a0 a1 a2 a3 : Value) (H : Hp) (K : Value → Hp → Prop) : Prop :=
  ob (vIx 1 a0 a2) fun v10x1 =>
  ob (vLoad v10x1 H) fun v11x2 =>
  ob (vInt .geq v11x2 (.int .i64 0)) fun v12x3 =>
  gop v12x3 true (fun K4 => K4 a0 H) H fun v14x5 H6 =>
  gop v12x3 true (fun K7 => K7 a2 H6) H6 fun v15x8 H9 =>
  gop v12x3 true (fun K10 => ob (vInt .add v15x8 (.int .i64 1)) fun u => K10 u H9) H9 fun v16x11 H12 =>
  gop v12x3 true (fun K13 => ob (vLoad a3 H12) fun u => K13 u H12) H12 fun v17x14 H15 =>
  gop v12x3 true (fun K16 => ob (vInt .rem v16x11 v17x14) fun u => K16 u H15) H15 fun v18x17 H18 =>
  gop v12x3 true (fun K19 => ob (vIx 1 v14x5 v18x17) fun u => K19 u H18) H18 fun v19x20 H21 =>
  gop v12x3 true (fun K22 => ob (vLoad v19x20 H21) fun u => K22 u H21) H21 fun v20x23 H24 =>
  gop v12x3 true (fun K25 => ob (vInt .geq v20x23 (.int .i64 0)) fun u => K25 u H24) H24 fun v21x26 H27 =>
  ob (vPick v12x3 v21x26 (.bool false)) fun v22x28 =>
  gop v22x28 true (fun K29 => K29 a1 H27) H27 fun v24x30 H31 =>
  gop v22x28 true (fun K32 => K32 a2 H31) H31 fun v25x33 H34 =>
  gop v22x28 true (fun K35 => ob (vIx 1 v24x30 v25x33) fun u => K35 u H34) H34 fun v26x36 H37 =>
  gop v22x28 true (fun K38 => ob (vLoad v26x36 H37) fun u => K38 u H37) H37 fun v27x39 H40 =>
  gop v22x28 true (fun K41 => ob (vInt .lss v27x39 (.int .i64 0)) fun u => K41 u H40) H40 fun v28x42 H43 =>
  ob (vPick v22x28 v28x42 (.bool false)) fun v29x44 =>
  gop v29x44 true (fun K45 => K45 a1 H43) H43 fun v31x46 H47 =>
  gop v29x44 true (fun K48 => K48 a2 H47) H47 fun v32x49 H50 =>
  gop v29x44 true (fun K51 => ob (vLoad a3 H50) fun u => K51 u H50) H50 fun v33x52 H53 =>
  gop v29x44 true (fun K54 => ob (vInt .add v32x49 v33x52) fun u => K54 u H53) H53 fun v34x55 H56 =>
  gop v29x44 true (fun K57 => ob (vInt .sub v34x55 (.int .i64 1)) fun u => K57 u H56) H56 fun v35x58 H59 =>
  gop v29x44 true (fun K60 => ob (vLoad a3 H59) fun u => K60 u H59) H59 fun v36x61 H62 =>
  gop v29x44 true (fun K63 => ob (vInt .rem v35x58 v36x61) fun u => K63 u H62) H62 fun v37x64 H65 =>
  gop v29x44 true (fun K66 => ob (vIx 1 v31x46 v37x64) fun u => K66 u H65) H65 fun v38x67 H68 =>
  gop v29x44 true (fun K69 => ob (vLoad v38x67 H68) fun u => K69 u H68) H68 fun v39x70 H71 =>
  gop v29x44 true (fun K72 => ob (vInt .lss v39x70 (.int .i64 0)) fun u => K72 u H71) H71 fun v40x73 H74 =>
  ob (vPick v29x44 v40x73 (.bool false)) fun v41x75 =>
  gop v41x75 true (fun K76 => K76 a1 H74) H74 fun v43x77 H78 =>
  gop v41x75 true (fun K79 => K79 a2 H78) H78 fun v44x80 H81 =>
  gop v41x75 true (fun K82 => ob (vInt .add v44x80 (.int .i64 1)) fun u => K82 u H81) H81 fun v45x83 H84 =>
  gop v41x75 true (fun K85 => ob (vLoad a3 H84) fun u => K85 u H84) H84 fun v46x86 H87 =>
  gop v41x75 true (fun K88 => ob (vInt .rem v45x83 v46x86) fun u => K88 u H87) H87 fun v47x89 H90 =>
  gop v41x75 true (fun K91 => ob (vIx 1 v43x77 v47x89) fun u => K91 u H90) H90 fun v48x92 H93 =>
  gop v41x75 true (fun K94 => ob (vLoad v48x92 H93) fun u => K94 u H93) H93 fun v49x95 H96 =>
  gop v41x75 true (fun K97 => ob (vInt .lss v49x95 (.int .i64 0)) fun u => K97 u H96) H96 fun v50x98 H99 =>
  ob (vPick v41x75 v50x98 (.bool false)) fun v51x100 =>
  K v51x100 H99
def O.impl_SwitchLanes_1 : Nat → Nat × List Nat := fun i => (0, [])
theorem R.impl_SwitchLanes_1 {a0 a1 a2 a3 : Value} {H : Hp} {K : Value → Hp → Prop} (h : F.impl_SwitchLanes_1 a0 a1 a2 a3 H K) : HT prg I.impl_SwitchLanes_1 [a0, a1, a2, a3].toArray H K :=
  HT_of_fev O.impl_SwitchLanes_1 mixed Try.func51 (by kernel_rfl) (Eq.mpr (by kernel_rfl : fev prg O.impl_SwitchLanes_1 Try.f51 [a0, a1, a2, a3] H K = F.impl_SwitchLanes_1 a0 a1 a2 a3 H K) h)

/-! slices.Clone[[]int64,int64]: function 52 -/
def F.slices_Clone_int64Zint64 (a0 : Value) (H : Hp) (K : Value → Hp → Prop) : Prop :=
  ob (vSlEq .eql a0 (.slice none 0 0)) fun v4x1 =>
  cnd v4x1
    (K (.slice none 0 0) H)
    (bS 1 0 #[(.int .i64 0)] 2 [] H fun v5x2 H3 =>
  apd 1 8 #[(.int .i64 0)] 2 v5x2 a0 H3 fun v7x4 H5 =>
  K v7x4 H5)
def O.slices_Clone_int64Zint64 : Nat → Nat × List Nat := fun i => (0, [])
theorem R.slices_Clone_int64Zint64 {a0 : Value} {H : Hp} {K : Value → Hp → Prop} (h : F.slices_Clone_int64Zint64 a0 H K) : HT prg I.slices_Clone_int64Zint64 [a0].toArray H K :=
  HT_of_fev O.slices_Clone_int64Zint64 mixed Try.func52 (by kernel_rfl) (Eq.mpr (by kernel_rfl : fev prg O.slices_Clone_int64Zint64 Try.f52 [a0] H K = F.slices_Clone_int64Zint64 a0 H K) h)

/-! loop.example/g01381/impl.SwitchLanes: function 22 -/
def F.impl_SwitchLanes (a0 a1 : Value) (H : Hp) (K : Value → Hp → Prop) : Prop :=
  HT prg I.impl_IsLane [a0].toArray H fun v13x1 H2 =>
  ob (vUn .not v13x1) fun v14x3 =>
  gop v14x3 false (fun K4 => K4 a1 H2) H2 fun v16x5 H6 =>
  gop v14x3 false (fun K7 => HT prg I.impl_IsLane [v16x5].toArray H6 K7) H6 fun v17x8 H9 =>
  gop v14x3 false (fun K10 => ob (vUn .not v17x8) fun u => K10 u H9) H9 fun v18x11 H12 =>
  ob (vPick v14x3 (.bool true) v18x11) fun v19x13 =>
  gop v19x13 false (fun K14 => K14 a0 H12) H12 fun v21x15 H16 =>
  gop v19x13 false (fun K17 => ob (vLenSl v21x15) fun u => K17 u H16) H16 fun v22x18 H19 =>
  gop v19x13 false (fun K20 => K20 a1 H19) H19 fun v23x21 H22 =>
  gop v19x13 false (fun K23 => ob (vLenSl v23x21) fun u => K23 u H22) H22 fun v24x24 H25 =>
  gop v19x13 false (fun K26 => ob (vInt .neq v22x18 v24x24) fun u => K26 u H25) H25 fun v25x27 H28 =>
  ob (vPick v19x13 (.bool true) v25x27) fun v26x29 =>
  cnd v26x29
    (K (.tuple #[(.slice none 0 0), (.slice none 0 0), (.bool false)]) H28)
    (ob (vLenSl a0) fun v28x30 =>
  nw #[(.int .i64 0)] 3 H28 fun v7x31 H32 =>
  st 1 v7x31 v28x30 H32 fun H33 =>
  HT prg I.slices_Clone_int64Zint64 [a0].toArray H33 fun v31x34 H35 =>
  HT prg I.slices_Clone_int64Zint64 [a1].toArray H35 fun v33x36 H37 =>
  jn (fun σ38 H38 =>
    K (.tuple #[(σ38 9), (σ38 10), (.bool true)]) H38) fun J38 =>
  ob (vLoad v7x31 H37) fun v34x39 =>
  lpE (fun Q40 σ40 H40 =>
    ob (vInt .lss (σ40 35) (σ40 34)) fun v36x41 =>
    cnd v36x41
      (jn (fun σ42 H42 =>
      ob (vInt .add (σ42 35) (.int .i64 1)) fun v64x43 =>
      Q40 .normal (up (up σ42 64 v64x43) 35 v64x43) H42) fun J42 =>
    callV prg (σ40 8) [(σ40 0), (σ40 1), (σ40 35)] H40 fun v42x44 H45 =>
    gop v42x44 false (fun K46 => K46 (σ40 8) H45) H45 fun v44x47 H48 =>
    gop v42x44 false (fun K49 => K49 (σ40 1) H48) H48 fun v45x50 H51 =>
    gop v42x44 false (fun K52 => K52 (σ40 0) H51) H51 fun v46x53 H54 =>
    gop v42x44 false (fun K55 => K55 (σ40 35) H54) H54 fun v47x56 H57 =>
    gop v42x44 false (fun K58 => callV prg v44x47 [v45x50, v46x53, v47x56] H57 K58) H57 fun v48x59 H60 =>
    ob (vPick v42x44 (.bool true) v48x59) fun v49x61 =>
    cnd v49x61
      (ob (vIx 1 (σ40 1) (σ40 35)) fun v56x62 =>
      ob (vLoad v56x62 H60) fun v57x63 =>
      ob (vIx 1 (σ40 0) (σ40 35)) fun v60x64 =>
      ob (vLoad v60x64 H60) fun v61x65 =>
      ob (vIx 1 (σ40 9) (σ40 35)) fun v62x66 =>
      st 1 v62x66 v57x63 H60 fun H67 =>
      ob (vIx 1 (σ40 10) (σ40 35)) fun v63x68 =>
      st 1 v63x68 v61x65 H67 fun H69 =>
      J42 (up (up (up (up (up (up (up (up (up (up (up (up (up (up (up (up (up (up (up (up (up (up (up (up (up (up (up (up (up σ40 36 v36x41) 37 (σ40 35)) 11 (σ40 35)) 38 (σ40 8)) 39 (σ40 0)) 40 (σ40 1)) 41 (σ40 35)) 42 v42x44) 43 v42x44) 44 v44x47) 45 v45x50) 46 v46x53) 47 v47x56) 48 v48x59) 49 v49x61) 50 (σ40 9)) 51 (σ40 35)) 52 (σ40 10)) 53 (σ40 35)) 54 (σ40 1)) 55 (σ40 35)) 56 v56x62) 57 v57x63) 58 (σ40 0)) 59 (σ40 35)) 60 v60x64) 61 v61x65) 62 v62x66) 63 v63x68) H69)
      (J42 (up (up (up (up (up (up (up (up (up (up (up (up (up (up (up σ40 36 v36x41) 37 (σ40 35)) 11 (σ40 35)) 38 (σ40 8)) 39 (σ40 0)) 40 (σ40 1)) 41 (σ40 35)) 42 v42x44) 43 v42x44) 44 v44x47) 45 v45x50) 46 v46x53) 47 v47x56) 48 v48x59) 49 v49x61) H60))
      (Q40 (.exit 0) (up σ40 36 v36x41) H40)) (blkQ 0 (thenQ J38 (retQ prg [(.tmp 4), (.tmp 5), (.tmp 6)] K))) (up (up (up (up (up (up (up (up (up (up (up (up (up (up (up (up (up (up (up (up (up (up (up (up (up (up (up (up (up (up (up (S0 [a0, a1]) 4 (.slice none 0 0)) 5 (.slice none 0 0)) 6 (.bool false)) 12 a0) 13 v13x1) 14 v14x3) 15 v14x3) 16 v16x5) 17 v17x8) 18 v18x11) 19 v19x13) 20 v19x13) 21 v21x15) 22 v22x18) 23 v23x21) 24 v24x24) 25 v25x27) 26 v26x29) 27 a0) 28 v28x30) 7 v7x31) 29 (.func (.func I.impl_SwitchLanes_1) #[] #[v7x31])) 8 (.func (.func I.impl_SwitchLanes_1) #[] #[v7x31])) 30 a0) 31 v31x34) 32 a1) 33 v33x36) 9 v31x34) 10 v33x36) 34 v34x39) 35 (.int .i64 0)) H37)
def O.impl_SwitchLanes : Nat → Nat × List Nat := fun i => bif Nat.beq i 10 then (0, [0, 1, 2, 3, 4, 5, 6, 7, 8, 9, 10, 11, 12, 13, 14, 15]) else (0, [])
theorem R.impl_SwitchLanes {a0 a1 : Value} {H : Hp} {K : Value → Hp → Prop} (h : F.impl_SwitchLanes a0 a1 H K) : HT prg I.impl_SwitchLanes [a0, a1].toArray H K :=
  HT_of_fev O.impl_SwitchLanes mixed Try.func22 (by kernel_rfl) (Eq.mpr (by kernel_rfl : fev prg O.impl_SwitchLanes Try.f22 [a0, a1] H K = F.impl_SwitchLanes a0 a1 H K) h)

/-! loop.example/g01381/laws.r8Long: function 27 -/
def F.laws_r8Long (a0 a1 : Value) (H : Hp) (K : Value → Hp → Prop) : Prop :=
  ob (vLenSl a0) fun v6x1 =>
  ob (vInt .gtr v6x1 (.int .i64 48)) fun v7x2 =>
  gop v7x2 false (fun K3 => K3 a1 H) H fun v9x4 H5 =>
  gop v7x2 false (fun K6 => ob (vLenSl v9x4) fun u => K6 u H5) H5 fun v10x7 H8 =>
  gop v7x2 false (fun K9 => ob (vInt .gtr v10x7 (.int .i64 48)) fun u => K9 u H8) H8 fun v11x10 H11 =>
  ob (vPick v7x2 (.bool true) v11x10) fun v12x12 =>
  K v12x12 H11
def O.laws_r8Long : Nat → Nat × List Nat := fun i => (0, [])
theorem R.laws_r8Long {a0 a1 : Value} {H : Hp} {K : Value → Hp → Prop} (h : F.laws_r8Long a0 a1 H K) : HT prg I.laws_r8Long [a0, a1].toArray H K :=
  HT_of_fev O.laws_r8Long mixed Try.func27 (by kernel_rfl) (Eq.mpr (by kernel_rfl : fev prg O.laws_r8Long Try.f27 [a0, a1] H K = F.laws_r8Long a0 a1 H K) h)

/-! loop.example/g01381/laws.r8At: function 28 -/
def F.laws_r8At (a0 a1 a2 : Value) (H : Hp) (K : Value → Hp → Prop) : Prop :=
  ob (vInt .leq a2 (.int .i64 1)) fun v8x1 =>
  gop v8x1 false (fun K2 => K2 a1 H) H fun v10x3 H4 =>
  gop v8x1 false (fun K5 => K5 a0 H4) H4 fun v11x6 H7 =>
  gop v8x1 false (fun K8 => ob (vLenSl v11x6) fun u => K8 u H7) H7 fun v12x9 H10 =>
  gop v8x1 false (fun K11 => ob (vInt .geq v10x3 v12x9) fun u => K11 u H10) H10 fun v13x12 H13 =>
  ob (vPick v8x1 (.bool true) v13x12) fun v14x14 =>
  cnd v14x14
    (K (.int .i64 0) H13)
    (ob (vIx 1 a0 a1) fun v17x15 =>
  ob (vLoad v17x15 H13) fun v18x16 =>
  ob (vCI .i64 v18x16) fun v19x17 =>
  ob (vInt .rem v19x17 a2) fun v21x18 =>
  K v21x18 H13)
def O.laws_r8At : Nat → Nat × List Nat := fun i => (0, [])
theorem R.laws_r8At {a0 a1 a2 : Value} {H : Hp} {K : Value → Hp → Prop} (h : F.laws_r8At a0 a1 a2 H K) : HT prg I.laws_r8At [a0, a1, a2].toArray H K :=
  HT_of_fev O.laws_r8At mixed Try.func28 (by kernel_rfl) (Eq.mpr (by kernel_rfl : fev prg O.laws_r8At Try.f28 [a0, a1, a2] H K = F.laws_r8At a0 a1 a2 H K) h)

/-! loop.example/g01381/spec.l00From: function 65 -/
def F.spec_l00From (a0 : Value) (H : Hp) (K : Value → Hp → Prop) : Prop :=
  ob (vBuild [(0, 1), (1, 1), (2, 1)] (.agg #[(.slice none 0 0), (.int .i64 0), (.int .u64 0)]) [(0, a0)]) fun v4x1 =>
  nw (v4x1 : Value).cells 95 H fun v5x2 H3 =>
  K v5x2 H3
def O.spec_l00From : Nat → Nat × List Nat := fun i => (0, [])
theorem R.spec_l00From {a0 : Value} {H : Hp} {K : Value → Hp → Prop} (h : F.spec_l00From a0 H K) : HT prg I.spec_l00From [a0].toArray H K :=
  HT_of_fev O.spec_l00From mixed Try.func65 (by kernel_rfl) (Eq.mpr (by kernel_rfl : fev prg O.spec_l00From Try.f65 [a0] H K = F.spec_l00From a0 H K) h)

/-! (*loop.example/g01381/spec.l00Src).next: function 92 -/
def F.pspec_l00Src_next (a0 : Value) (H : Hp) (K : Value → Hp → Prop) : Prop :=
  jn (fun σ1 H1 =>
    ob (vNilC (σ1 0)) fun v26x2 =>
    ob (vFa 1 v26x2) fun v27x3 =>
    ob (vLoad v27x3 H1) fun v28x4 =>
    ob (vInt .add v28x4 (.int .i64 1)) fun v29x5 =>
    ob (vNilC (σ1 0)) fun v30x6 =>
    ob (vFa 1 v30x6) fun v31x7 =>
    st 1 v31x7 v29x5 H1 fun H8 =>
    ob (vNilC (σ1 0)) fun v34x9 =>
    ob (vFa 2 v34x9) fun v35x10 =>
    ob (vLoad v35x10 H8) fun v36x11 =>
    ob (vInt .mul v36x11 (.int .u64 6364136223846793005)) fun v37x12 =>
    ob (vCI .u64 (σ1 3)) fun v39x13 =>
    ob (vInt .add v37x12 v39x13) fun v40x14 =>
    ob (vInt .add v40x14 (.int .u64 1442695040888963407)) fun v41x15 =>
    ob (vNilC (σ1 0)) fun v42x16 =>
    ob (vFa 2 v42x16) fun v43x17 =>
    st 1 v43x17 v41x15 H8 fun H18 =>
    ob (vNilC (σ1 0)) fun v45x19 =>
    ob (vFa 1 v45x19) fun v46x20 =>
    ob (vLoad v46x20 H18) fun v47x21 =>
    ob (vNilC (σ1 0)) fun v49x22 =>
    ob (vFa 0 v49x22) fun v50x23 =>
    ob (vLoad v50x23 H18) fun v51x24 =>
    ob (vLenSl v51x24) fun v52x25 =>
    ob (vInt .leq v47x21 v52x25) fun v53x26 =>
    cnd v53x26
      (K (σ1 3) H18)
      (ob (vNilC (σ1 0)) fun v56x27 =>
    ob (vFa 2 v56x27) fun v57x28 =>
    ob (vLoad v57x28 H18) fun v58x29 =>
    ob (vInt .shr v58x29 (.int .u64 40)) fun v59x30 =>
    ob (vInt .and v59x30 (.int .u64 255)) fun v60x31 =>
    ob (vCI .i64 v60x31) fun v61x32 =>
    K v61x32 H18)) fun J1 =>
  ob (vNilC a0) fun v5x33 =>
  ob (vFa 1 v5x33) fun v6x34 =>
  ob (vLoad v6x34 H) fun v7x35 =>
  ob (vNilC a0) fun v9x36 =>
  ob (vFa 0 v9x36) fun v10x37 =>
  ob (vLoad v10x37 H) fun v11x38 =>
  ob (vLenSl v11x38) fun v12x39 =>
  ob (vInt .lss v7x35 v12x39) fun v13x40 =>
  cnd v13x40
    (ob (vNilC a0) fun v15x41 =>
    ob (vFa 0 v15x41) fun v16x42 =>
    ob (vLoad v16x42 H) fun v17x43 =>
    ob (vNilC a0) fun v19x44 =>
    ob (vFa 1 v19x44) fun v20x45 =>
    ob (vLoad v20x45 H) fun v21x46 =>
    ob (vIx 1 v17x43 v21x46) fun v22x47 =>
    ob (vLoad v22x47 H) fun v23x48 =>
    ob (vCI .i64 v23x48) fun v24x49 =>
    J1 (up (up (up (up (up (up (up (up (up (up (up (up (up (up (up (up (up (up (up (up (up (up (up (up (S0 [a0]) 2 (.int .i64 0)) 3 (.int .i64 0)) 4 a0) 5 v5x33) 6 v6x34) 7 v7x35) 8 a0) 9 v9x36) 10 v10x37) 11 v11x38) 12 v12x39) 13 v13x40) 14 a0) 15 v15x41) 16 v16x42) 17 v17x43) 18 a0) 19 v19x44) 20 v20x45) 21 v21x46) 22 v22x47) 23 v23x48) 24 v24x49) 3 v24x49) H)
    (J1 (up (up (up (up (up (up (up (up (up (up (up (up (S0 [a0]) 2 (.int .i64 0)) 3 (.int .i64 0)) 4 a0) 5 v5x33) 6 v6x34) 7 v7x35) 8 a0) 9 v9x36) 10 v10x37) 11 v11x38) 12 v12x39) 13 v13x40) H)
def O.pspec_l00Src_next : Nat → Nat × List Nat := fun i => bif Nat.beq i 6 then (0, [0, 1, 2, 3, 4, 5, 6, 7, 8, 9]) else bif Nat.beq i 2 then (0, [0, 1, 2, 3, 4, 5, 6, 7, 8, 9]) else bif Nat.beq i 3 then (0, [0, 1, 2, 3, 4, 5, 6, 7, 8, 9, 10, 11]) else (0, [])
theorem R.pspec_l00Src_next {a0 : Value} {H : Hp} {K : Value → Hp → Prop} (h : F.pspec_l00Src_next a0 H K) : HT prg I.pspec_l00Src_next [a0].toArray H K :=
  HT_of_fev O.pspec_l00Src_next mixed Try.func92 (by kernel_rfl) (Eq.mpr (by kernel_rfl : fev prg O.pspec_l00Src_next Try.f92 [a0] H K = F.pspec_l00Src_next a0 H K) h)

/-! (*loop.example/g01381/spec.l00Src).pick: function 67 -/
def F.pspec_l00Src_pick (a0 a1 : Value) (H : Hp) (K : Value → Hp → Prop) : Prop :=
  ob (vInt .leq a1 (.int .i64 1)) fun v7x1 =>
  cnd v7x1
    (K (.int .i64 0) H)
    (HT prg I.pspec_l00Src_next [a0].toArray H fun v9x2 H3 =>
  ob (vInt .gtr a1 (.int .i64 200)) fun v11x4 =>
  cnd v11x4
    (ob (vInt .mul v9x2 (.int .i64 256)) fun v13x5 =>
    HT prg I.pspec_l00Src_next [a0].toArray H3 fun v15x6 H7 =>
    ob (vInt .add v13x5 v15x6) fun v16x8 =>
    ob (vInt .rem v16x8 a1) fun v19x9 =>
  K v19x9 H7)
    (ob (vInt .rem v9x2 a1) fun v19x10 =>
  K v19x10 H3))
def O.pspec_l00Src_pick : Nat → Nat × List Nat := fun i => (0, [])
theorem R.pspec_l00Src_pick {a0 a1 : Value} {H : Hp} {K : Value → Hp → Prop} (h : F.pspec_l00Src_pick a0 a1 H K) : HT prg I.pspec_l00Src_pick [a0, a1].toArray H K :=
  HT_of_fev O.pspec_l00Src_pick mixed Try.func67 (by kernel_rfl) (Eq.mpr (by kernel_rfl : fev prg O.pspec_l00Src_pick Try.f67 [a0, a1] H K = F.pspec_l00Src_pick a0 a1 H K) h)

/-! (*loop.example/g01381/spec.l00Src).one: function 66 -/
def F.pspec_l00Src_one (a0 a1 : Value) (H : Hp) (K : Value → Hp → Prop) : Prop :=
  HT prg I.pspec_l00Src_pick [a0, a1].toArray H fun v7x1 H2 =>
  ob (vInt .eql v7x1 (.int .i64 0)) fun v8x3 =>
  K v8x3 H2
def O.pspec_l00Src_one : Nat → Nat × List Nat := fun i => (0, [])
theorem R.pspec_l00Src_one {a0 a1 : Value} {H : Hp} {K : Value → Hp → Prop} (h : F.pspec_l00Src_one a0 a1 H K) : HT prg I.pspec_l00Src_one [a0, a1].toArray H K :=
  HT_of_fev O.pspec_l00Src_one mixed Try.func66 (by kernel_rfl) (Eq.mpr (by kernel_rfl : fev prg O.pspec_l00Src_one Try.f66 [a0, a1] H K = F.pspec_l00Src_one a0 a1 H K) h)

/-! loop.example/g01381/spec.R8Lane: function 29 -/
def F.spec_R8Lane (a0 a1 : Value) (H : Hp) (K : Value → Hp → Prop) : Prop :=
  HT prg I.spec_l00From [a0].toArray H fun v9x1 H2 =>
  bS 1 0 #[(.int .i64 0)] 2 [] H2 fun v10x3 H4 =>
  jn (fun σ5 H5 =>
    K (σ5 6) H5) fun J5 =>
  lpE (fun Q6 σ6 H6 =>
    ob (vInt .gtr (σ6 1) (.int .i64 0)) fun v12x7 =>
    cnd v12x7
      (HT prg I.pspec_l00Src_one [(σ6 5), (.int .i64 3)].toArray H6 fun v16x8 H9 =>
    cnd v16x8
      (HT prg I.pspec_l00Src_pick [(σ6 5), (.int .i64 4)].toArray H9 fun v18x10 H11 =>
      bS 1 1 #[(.int .i64 0)] 2 [(0, v18x10)] H11 fun v21x12 H13 =>
    apd 1 8 #[(.int .i64 0)] 2 (σ6 6) v21x12 H13 fun v22x14 H15 =>
    ob (vInt .sub (σ6 1) (.int .i64 1)) fun v14x16 =>
    Q6 .normal (up (up (up (up (up (up (up (up (up (up (up (up (up (up (up (up σ6 11 (σ6 1)) 12 v12x7) 7 (.int .i64 (-1))) 15 (σ6 5)) 16 v16x8) 17 (σ6 5)) 18 v18x10) 7 v18x10) 19 (σ6 6)) 20 v18x10) 21 v21x12) 22 v22x14) 6 v22x14) 13 (σ6 1)) 14 v14x16) 1 v14x16) H15)
      (bS 1 1 #[(.int .i64 0)] 2 [(0, (.int .i64 (-1)))] H9 fun v21x17 H18 =>
    apd 1 8 #[(.int .i64 0)] 2 (σ6 6) v21x17 H18 fun v22x19 H20 =>
    ob (vInt .sub (σ6 1) (.int .i64 1)) fun v14x21 =>
    Q6 .normal (up (up (up (up (up (up (up (up (up (up (up (up (up σ6 11 (σ6 1)) 12 v12x7) 7 (.int .i64 (-1))) 15 (σ6 5)) 16 v16x8) 19 (σ6 6)) 20 (.int .i64 (-1))) 21 v21x17) 22 v22x19) 6 v22x19) 13 (σ6 1)) 14 v14x21) 1 v14x21) H20))
      (Q6 (.exit 0) (up (up σ6 11 (σ6 1)) 12 v12x7) H6)) (blkQ 0 (thenQ J5 (retQ prg [(.tmp 4)] K))) (up (up (up (up (up (up (S0 [a0, a1]) 4 (.slice none 0 0)) 8 a0) 9 v9x1) 5 v9x1) 10 v10x3) 6 v10x3) H4
def O.spec_R8Lane : Nat → Nat × List Nat := fun i => (0, [])
theorem R.spec_R8Lane {a0 a1 : Value} {H : Hp} {K : Value → Hp → Prop} (h : F.spec_R8Lane a0 a1 H K) : HT prg I.spec_R8Lane [a0, a1].toArray H K :=
  HT_of_fev O.spec_R8Lane mixed Try.func29 (by kernel_rfl) (Eq.mpr (by kernel_rfl : fev prg O.spec_R8Lane Try.f29 [a0, a1] H K = F.spec_R8Lane a0 a1 H K) h)

/-! loop.example/g01381/laws.r8Cars: function 30 -/
def F.laws_r8Cars (a0 : Value) (H : Hp) (K : Value → Hp → Prop) : Prop :=
  jn (fun σ1 H1 =>
    K (σ1 3) H1) fun J1 =>
  lpE (fun Q2 σ2 H2 =>
    ob (vLenSl (σ2 0)) fun v7x3 =>
    ob (vInt .lss (σ2 4) v7x3) fun v8x4 =>
    cnd v8x4
      (ob (vIx 1 (σ2 0) (σ2 4)) fun v13x5 =>
    ob (vLoad v13x5 H2) fun v14x6 =>
    ob (vInt .geq v14x6 (.int .i64 0)) fun v15x7 =>
    cnd v15x7
      (ob (vInt .add (σ2 3) (.int .i64 1)) fun v17x8 =>
      ob (vInt .add (σ2 4) (.int .i64 1)) fun v10x9 =>
    Q2 .normal (up (up (up (up (up (up (up (up (up (up (up (up (up (up (up σ2 5 (σ2 4)) 6 (σ2 0)) 7 v7x3) 8 v8x4) 11 (σ2 0)) 12 (σ2 4)) 13 v13x5) 14 v14x6) 15 v15x7) 16 (σ2 3)) 17 v17x8) 3 v17x8) 9 (σ2 4)) 10 v10x9) 4 v10x9) H2)
      (ob (vInt .add (σ2 4) (.int .i64 1)) fun v10x10 =>
    Q2 .normal (up (up (up (up (up (up (up (up (up (up (up (up σ2 5 (σ2 4)) 6 (σ2 0)) 7 v7x3) 8 v8x4) 11 (σ2 0)) 12 (σ2 4)) 13 v13x5) 14 v14x6) 15 v15x7) 9 (σ2 4)) 10 v10x10) 4 v10x10) H2))
      (Q2 (.exit 0) (up (up (up (up σ2 5 (σ2 4)) 6 (σ2 0)) 7 v7x3) 8 v8x4) H2)) (blkQ 0 (thenQ J1 (retQ prg [(.tmp 2)] K))) (up (up (up (S0 [a0]) 2 (.int .i64 0)) 3 (.int .i64 0)) 4 (.int .i64 0)) H
def O.laws_r8Cars : Nat → Nat × List Nat := fun i => (0, [])
theorem R.laws_r8Cars {a0 : Value} {H : Hp} {K : Value → Hp → Prop} (h : F.laws_r8Cars a0 H K) : HT prg I.laws_r8Cars [a0].toArray H K :=
  HT_of_fev O.laws_r8Cars mixed Try.func30 (by kernel_rfl) (Eq.mpr (by kernel_rfl : fev prg O.laws_r8Cars Try.f30 [a0] H K = F.laws_r8Cars a0 H K) h)

/-! loop.example/g01381/laws.FnLanes: function 7 -/
def F.laws_FnLanes (a0 a1 : Value) (H : Hp) (K : Value → Hp → Prop) : Prop :=
  HT prg I.laws_r8Long [a0, a1].toArray H fun v31x1 H2 =>
  cnd v31x1
    (K (.bool true) H2)
    (HT prg I.laws_r8At [a1, (.int .i64 40), (.int .i64 20)].toArray H2 fun v33x3 H4 =>
  ob (vInt .add (.int .i64 1) v33x3) fun v34x5 =>
  HT prg I.spec_R8Lane [a0, v34x5].toArray H4 fun v37x6 H7 =>
  HT prg I.spec_R8Lane [a1, v34x5].toArray H7 fun v40x8 H9 =>
  HT prg I.laws_r8At [a1, (.int .i64 41), (.int .i64 5)].toArray H9 fun v42x10 H11 =>
  ob (vInt .add (.int .i64 1) v42x10) fun v43x12 =>
  HT prg I.laws_r8At [a1, (.int .i64 42), (.int .i64 5)].toArray H11 fun v45x13 H14 =>
  ob (vCF .f32 v45x13) fun v46x15 =>
  fA .quo v46x15 (.float .f32 1082130432) H14 fun v47x16 H17 =>
  HT prg I.laws_r8At [a1, (.int .i64 43), (.int .i64 256)].toArray H17 fun v49x18 H19 =>
  ob (vInt .mul v49x18 (.int .i64 65537)) fun v50x20 =>
  HT prg I.impl_LaneStep [v37x6, v43x12, v47x16, v50x20].toArray H19 fun v56x21 H22 =>
  ob (vExt v56x21 0) fun v57x23 =>
  ob (vExt v56x21 1) fun v58x24 =>
  ob (vExt v56x21 2) fun v59x25 =>
  HT prg I.impl_LaneStep [v37x6, v43x12, (.float .f32 0), v50x20].toArray H22 fun v64x26 H27 =>
  ob (vExt v64x26 0) fun v65x28 =>
  ob (vExt v64x26 1) fun v66x29 =>
  ob (vExt v64x26 2) fun v67x30 =>
  ob (vUn .not v59x25) fun v69x31 =>
  gop v69x31 false (fun K32 => K32 v67x30 H27) H27 fun v71x33 H34 =>
  gop v69x31 false (fun K35 => ob (vUn .not v71x33) fun u => K35 u H34) H34 fun v72x36 H37 =>
  ob (vPick v69x31 (.bool true) v72x36) fun v73x38 =>
  gop v73x38 false (fun K39 => K39 v57x23 H37) H37 fun v75x40 H41 =>
  gop v73x38 false (fun K42 => HT prg I.impl_IsLane [v75x40].toArray H41 K42) H41 fun v76x43 H44 =>
  gop v73x38 false (fun K45 => ob (vUn .not v76x43) fun u => K45 u H44) H44 fun v77x46 H47 =>
  ob (vPick v73x38 (.bool true) v77x46) fun v78x48 =>
  gop v78x48 false (fun K49 => K49 v57x23 H47) H47 fun v80x50 H51 =>
  gop v78x48 false (fun K52 => ob (vLenSl v80x50) fun u => K52 u H51) H51 fun v81x53 H54 =>
  gop v78x48 false (fun K55 => K55 v34x5 H54) H54 fun v82x56 H57 =>
  gop v78x48 false (fun K58 => ob (vInt .neq v81x53 v82x56) fun u => K58 u H57) H57 fun v83x59 H60 =>
  ob (vPick v78x48 (.bool true) v83x59) fun v84x61 =>
  gop v84x61 false (fun K62 => K62 v65x28 H60) H60 fun v86x63 H64 =>
  gop v84x61 false (fun K65 => ob (vLenSl v86x63) fun u => K65 u H64) H64 fun v87x66 H67 =>
  gop v84x61 false (fun K68 => K68 v34x5 H67) H67 fun v88x69 H70 =>
  gop v84x61 false (fun K71 => ob (vInt .neq v87x66 v88x69) fun u => K71 u H70) H70 fun v89x72 H73 =>
  ob (vPick v84x61 (.bool true) v89x72) fun v90x74 =>
  gop v90x74 false (fun K75 => K75 v58x24 H73) H73 fun v92x76 H77 =>
  gop v90x74 false (fun K78 => K78 v66x29 H77) H77 fun v93x79 H80 =>
  gop v90x74 false (fun K81 => ob (vInt .neq v92x76 v93x79) fun u => K81 u H80) H80 fun v94x82 H83 =>
  ob (vPick v90x74 (.bool true) v94x82) fun v95x84 =>
  cnd v95x84
    (K (.bool false) H83)
    (HT prg I.laws_r8Cars [v37x6].toArray H83 fun v97x85 H86 =>
  jn (fun σ87 H87 =>
    HT prg I.laws_r8Cars [(σ87 11)].toArray H87 fun v109x88 H89 =>
    ob (vInt .neq v109x88 (σ87 17)) fun v111x90 =>
    gop v111x90 false (fun K91 => K91 (σ87 14) H89) H89 fun v113x92 H93 =>
    gop v111x90 false (fun K94 => HT prg I.laws_r8Cars [v113x92].toArray H93 K94) H93 fun v114x95 H96 =>
    gop v111x90 false (fun K97 => K97 (σ87 17) H96) H96 fun v115x98 H99 =>
    gop v111x90 false (fun K100 => ob (vInt .neq v114x95 v115x98) fun u => K100 u H99) H99 fun v116x101 H102 =>
    ob (vPick v111x90 (.bool true) v116x101) fun v117x103 =>
    gop v117x103 false (fun K104 => K104 (σ87 12) H102) H102 fun v119x105 H106 =>
    gop v117x103 false (fun K107 => K107 (σ87 18) H106) H106 fun v120x108 H109 =>
    gop v117x103 false (fun K110 => ob (vInt .neq v119x105 v120x108) fun u => K110 u H109) H109 fun v121x111 H112 =>
    ob (vPick v117x103 (.bool true) v121x111) fun v122x113 =>
    cnd v122x113
      (K (.bool false) H112)
      (jn (fun σ114 H114 =>
      HT prg I.impl_LaneSpeed [(σ114 11)].toArray H114 fun v205x115 H116 =>
      ob (vExt v205x115 0) fun v206x117 =>
      ob (vExt v205x115 1) fun v207x118 =>
      ob (vInt .gtr (σ114 17) (.int .i64 0)) fun v210x119 =>
      ob (vBool .neq v207x118 v210x119) fun v211x120 =>
      gop v211x120 false (fun K121 => K121 v207x118 H116) H116 fun v213x122 H123 =>
      gop v211x120 false (fun K124 => K124 v213x122 H123) H123 fun v214x125 H126 =>
      gop v214x125 true (fun K127 => K127 v206x117 H126) H126 fun v215x128 H129 =>
      gop v214x125 true (fun K130 => ob (vFcmp .lss v215x128 (.float .f32 0)) fun u => K130 u H129) H129 fun v216x131 H132 =>
      gop v214x125 true (fun K133 => K133 v216x131 H132) H132 fun v217x134 H135 =>
      gop v217x134 false (fun K136 => K136 v206x117 H135) H135 fun v218x137 H138 =>
      gop v217x134 false (fun K139 => K139 (σ114 8) H138) H138 fun v219x140 H141 =>
      gop v217x134 false (fun K142 => ob (vCF .f32 v219x140) fun u => K142 u H141) H141 fun v220x143 H144 =>
      gop v217x134 false (fun K145 => ob (vFcmp .gtr v218x137 v220x143) fun u => K145 u H144) H144 fun v221x146 H147 =>
      gop v214x125 true (fun K148 => ob (vPick v217x134 (.bool true) v221x146) fun u => K148 u H147) H147 fun v222x149 H150 =>
      gop v211x120 false (fun K151 => ob (vPick v214x125 v222x149 (.bool false)) fun u => K151 u H150) H150 fun v223x152 H153 =>
      ob (vPick v211x120 (.bool true) v223x152) fun v224x154 =>
      cnd v224x154
        (K (.bool false) H153)
        (HT prg I.impl_SwitchLanes [(σ114 6), (σ114 7)].toArray H153 fun v228x155 H156 =>
      ob (vExt v228x155 0) fun v229x157 =>
      ob (vExt v228x155 1) fun v230x158 =>
      ob (vExt v228x155 2) fun v231x159 =>
      ob (vUn .not v231x159) fun v233x160 =>
      gop v233x160 false (fun K161 => K161 v229x157 H156) H156 fun v235x162 H163 =>
      gop v233x160 false (fun K164 => ob (vLenSl v235x162) fun u => K164 u H163) H163 fun v236x165 H166 =>
      gop v233x160 false (fun K167 => K167 (σ114 5) H166) H166 fun v237x168 H169 =>
      gop v233x160 false (fun K170 => ob (vInt .neq v236x165 v237x168) fun u => K170 u H169) H169 fun v238x171 H172 =>
      ob (vPick v233x160 (.bool true) v238x171) fun v239x173 =>
      gop v239x173 false (fun K174 => K174 v230x158 H172) H172 fun v241x175 H176 =>
      gop v239x173 false (fun K177 => ob (vLenSl v241x175) fun u => K177 u H176) H176 fun v242x178 H179 =>
      gop v239x173 false (fun K180 => K180 (σ114 5) H179) H179 fun v243x181 H182 =>
      gop v239x173 false (fun K183 => ob (vInt .neq v242x178 v243x181) fun u => K183 u H182) H182 fun v244x184 H185 =>
      ob (vPick v239x173 (.bool true) v244x184) fun v245x186 =>
      gop v245x186 false (fun K187 => K187 v229x157 H185) H185 fun v247x188 H189 =>
      gop v245x186 false (fun K190 => HT prg I.laws_r8Cars [v247x188].toArray H189 K190) H189 fun v248x191 H192 =>
      gop v245x186 false (fun K193 => K193 v230x158 H192) H192 fun v249x194 H195 =>
      gop v245x186 false (fun K196 => HT prg I.laws_r8Cars [v249x194].toArray H195 K196) H195 fun v250x197 H198 =>
      gop v245x186 false (fun K199 => ob (vInt .add v248x191 v250x197) fun u => K199 u H198) H198 fun v251x200 H201 =>
      gop v245x186 false (fun K202 => K202 (σ114 17) H201) H201 fun v252x203 H204 =>
      gop v245x186 false (fun K205 => K205 (σ114 7) H204) H204 fun v253x206 H207 =>
      gop v245x186 false (fun K208 => HT prg I.laws_r8Cars [v253x206].toArray H207 K208) H207 fun v254x209 H210 =>
      gop v245x186 false (fun K211 => ob (vInt .add v252x203 v254x209) fun u => K211 u H210) H210 fun v255x212 H213 =>
      gop v245x186 false (fun K214 => ob (vInt .neq v251x200 v255x212) fun u => K214 u H213) H213 fun v256x215 H216 =>
      ob (vPick v245x186 (.bool true) v256x215) fun v257x217 =>
      cnd v257x217
        (K (.bool false) H216)
        (jn (fun σ218 H218 =>
        K (.bool true) H218) fun J218 =>
      lpE (fun Q219 σ219 H219 =>
        ob (vInt .lss (σ219 26) (σ219 5)) fun v260x220 =>
        cnd v260x220
          (ob (vIx 1 (σ219 23) (σ219 26)) fun v265x221 =>
        ob (vLoad v265x221 H219) fun v266x222 =>
        ob (vIx 1 (σ219 6) (σ219 26)) fun v269x223 =>
        ob (vLoad v269x223 H219) fun v270x224 =>
        ob (vInt .eql v266x222 v270x224) fun v271x225 =>
        gop v271x225 true (fun K226 => K226 (σ219 24) H219) H219 fun v273x227 H228 =>
        gop v271x225 true (fun K229 => K229 (σ219 26) H228) H228 fun v274x230 H231 =>
        gop v271x225 true (fun K232 => ob (vIx 1 v273x227 v274x230) fun u => K232 u H231) H231 fun v275x233 H234 =>
        gop v271x225 true (fun K235 => ob (vLoad v275x233 H234) fun u => K235 u H234) H234 fun v276x236 H237 =>
        gop v271x225 true (fun K238 => K238 (σ219 7) H237) H237 fun v277x239 H240 =>
        gop v271x225 true (fun K241 => K241 (σ219 26) H240) H240 fun v278x242 H243 =>
        gop v271x225 true (fun K244 => ob (vIx 1 v277x239 v278x242) fun u => K244 u H243) H243 fun v279x245 H246 =>
        gop v271x225 true (fun K247 => ob (vLoad v279x245 H246) fun u => K247 u H246) H246 fun v280x248 H249 =>
        gop v271x225 true (fun K250 => ob (vInt .eql v276x236 v280x248) fun u => K250 u H249) H249 fun v281x251 H252 =>
        ob (vPick v271x225 v281x251 (.bool false)) fun v282x253 =>
        ob (vIx 1 (σ219 23) (σ219 26)) fun v285x254 =>
        ob (vLoad v285x254 H252) fun v286x255 =>
        ob (vIx 1 (σ219 7) (σ219 26)) fun v289x256 =>
        ob (vLoad v289x256 H252) fun v290x257 =>
        ob (vInt .eql v286x255 v290x257) fun v291x258 =>
        gop v291x258 true (fun K259 => K259 (σ219 24) H252) H252 fun v293x260 H261 =>
        gop v291x258 true (fun K262 => K262 (σ219 26) H261) H261 fun v294x263 H264 =>
        gop v291x258 true (fun K265 => ob (vIx 1 v293x260 v294x263) fun u => K265 u H264) H264 fun v295x266 H267 =>
        gop v291x258 true (fun K268 => ob (vLoad v295x266 H267) fun u => K268 u H267) H267 fun v296x269 H270 =>
        gop v291x258 true (fun K271 => K271 (σ219 6) H270) H270 fun v297x272 H273 =>
        gop v291x258 true (fun K274 => K274 (σ219 26) H273) H273 fun v298x275 H276 =>
        gop v291x258 true (fun K277 => ob (vIx 1 v297x272 v298x275) fun u => K277 u H276) H276 fun v299x278 H279 =>
        gop v291x258 true (fun K280 => ob (vLoad v299x278 H279) fun u => K280 u H279) H279 fun v300x281 H282 =>
        gop v291x258 true (fun K283 => ob (vInt .eql v296x269 v300x281) fun u => K283 u H282) H282 fun v301x284 H285 =>
        ob (vPick v291x258 v301x284 (.bool false)) fun v302x286 =>
        ob (vUn .not v282x253) fun v304x287 =>
        gop v304x287 true (fun K288 => K288 v302x286 H285) H285 fun v306x289 H290 =>
        gop v304x287 true (fun K291 => ob (vUn .not v306x289) fun u => K291 u H290) H290 fun v307x292 H293 =>
        ob (vPick v304x287 v307x292 (.bool false)) fun v308x294 =>
        cnd v308x294
          (Q219 .ret (up (up (up (up (up (up (up (up (up (up (up (up (up (up (up (up (up (up (up (up (up (up (up (up (up (up (up (up (up (up (up (up (up (up (up (up (up (up (up (up (up (up (up (up (up (up (up (up (up (up (up (up σ219 258 (σ219 26)) 259 (σ219 5)) 260 v260x220) 263 (σ219 23)) 264 (σ219 26)) 265 v265x221) 266 v266x222) 267 (σ219 6)) 268 (σ219 26)) 269 v269x223) 270 v270x224) 271 v271x225) 272 v271x225) 273 v273x227) 274 v274x230) 275 v275x233) 276 v276x236) 277 v277x239) 278 v278x242) 279 v279x245) 280 v280x248) 281 v281x251) 282 v282x253) 27 v282x253) 283 (σ219 23)) 284 (σ219 26)) 285 v285x254) 286 v286x255) 287 (σ219 7)) 288 (σ219 26)) 289 v289x256) 290 v290x257) 291 v291x258) 292 v291x258) 293 v293x260) 294 v294x263) 295 v295x266) 296 v296x269) 297 v297x272) 298 v298x275) 299 v299x278) 300 v300x281) 301 v301x284) 302 v302x286) 28 v302x286) 303 v282x253) 304 v304x287) 305 v304x287) 306 v306x289) 307 v307x292) 308 v308x294) 4 (.bool false)) H293)
          (gop v302x286 true (fun K295 => K295 v282x253 H293) H293 fun v311x296 H297 =>
        gop v302x286 true (fun K298 => ob (vUn .not v311x296) fun u => K298 u H297) H297 fun v312x299 H300 =>
        ob (vPick v302x286 v312x299 (.bool false)) fun v313x301 =>
        gop v313x301 true (fun K302 => K302 (σ219 6) H300) H300 fun v315x303 H304 =>
        gop v313x301 true (fun K305 => K305 (σ219 26) H304) H304 fun v316x306 H307 =>
        gop v313x301 true (fun K308 => ob (vIx 1 v315x303 v316x306) fun u => K308 u H307) H307 fun v317x309 H310 =>
        gop v313x301 true (fun K311 => ob (vLoad v317x309 H310) fun u => K311 u H310) H310 fun v318x312 H313 =>
        gop v313x301 true (fun K314 => ob (vInt .geq v318x312 (.int .i64 0)) fun u => K314 u H313) H313 fun v319x315 H316 =>
        ob (vPick v313x301 v319x315 (.bool false)) fun v320x317 =>
        gop v320x317 true (fun K318 => K318 (σ219 7) H316) H316 fun v322x319 H320 =>
        gop v320x317 true (fun K321 => K321 (σ219 26) H320) H320 fun v323x322 H323 =>
        gop v320x317 true (fun K324 => ob (vIx 1 v322x319 v323x322) fun u => K324 u H323) H323 fun v324x325 H326 =>
        gop v320x317 true (fun K327 => ob (vLoad v324x325 H326) fun u => K327 u H326) H326 fun v325x328 H329 =>
        gop v320x317 true (fun K330 => ob (vInt .geq v325x328 (.int .i64 0)) fun u => K330 u H329) H329 fun v326x331 H332 =>
        gop v320x317 true (fun K333 => K333 v326x331 H332) H332 fun v327x334 H335 =>
        gop v327x334 false (fun K336 => K336 (σ219 6) H335) H335 fun v328x337 H338 =>
        gop v327x334 false (fun K339 => K339 (σ219 26) H338) H338 fun v329x340 H341 =>
        gop v327x334 false (fun K342 => ob (vInt .add v329x340 (.int .i64 1)) fun u => K342 u H341) H341 fun v330x343 H344 =>
        gop v327x334 false (fun K345 => K345 (σ219 5) H344) H344 fun v331x346 H347 =>
        gop v327x334 false (fun K348 => ob (vInt .rem v330x343 v331x346) fun u => K348 u H347) H347 fun v332x349 H350 =>
        gop v327x334 false (fun K351 => ob (vIx 1 v328x337 v332x349) fun u => K351 u H350) H350 fun v333x352 H353 =>
        gop v327x334 false (fun K354 => ob (vLoad v333x352 H353) fun u => K354 u H353) H353 fun v334x355 H356 =>
        gop v327x334 false (fun K357 => ob (vInt .lss v334x355 (.int .i64 0)) fun u => K357 u H356) H356 fun v335x358 H359 =>
        gop v320x317 true (fun K360 => ob (vPick v327x334 (.bool true) v335x358) fun u => K360 u H359) H359 fun v336x361 H362 =>
        gop v320x317 true (fun K363 => K363 v336x361 H362) H362 fun v337x364 H365 =>
        gop v337x364 false (fun K366 => K366 (σ219 7) H365) H365 fun v338x367 H368 =>
        gop v337x364 false (fun K369 => K369 (σ219 26) H368) H368 fun v339x370 H371 =>
        gop v337x364 false (fun K372 => ob (vInt .add v339x370 (.int .i64 1)) fun u => K372 u H371) H371 fun v340x373 H374 =>
        gop v337x364 false (fun K375 => K375 (σ219 5) H374) H374 fun v341x376 H377 =>
        gop v337x364 false (fun K378 => ob (vInt .rem v340x373 v341x376) fun u => K378 u H377) H377 fun v342x379 H380 =>
        gop v337x364 false (fun K381 => ob (vIx 1 v338x367 v342x379) fun u => K381 u H380) H380 fun v343x382 H383 =>
        gop v337x364 false (fun K384 => ob (vLoad v343x382 H383) fun u => K384 u H383) H383 fun v344x385 H386 =>
        gop v337x364 false (fun K387 => ob (vInt .geq v344x385 (.int .i64 0)) fun u => K387 u H386) H386 fun v345x388 H389 =>
        gop v320x317 true (fun K390 => ob (vPick v337x364 (.bool true) v345x388) fun u => K390 u H389) H389 fun v346x391 H392 =>
        gop v320x317 true (fun K393 => K393 v346x391 H392) H392 fun v347x394 H395 =>
        gop v347x394 false (fun K396 => K396 (σ219 7) H395) H395 fun v348x397 H398 =>
        gop v347x394 false (fun K399 => K399 (σ219 26) H398) H398 fun v349x400 H401 =>
        gop v347x394 false (fun K402 => K402 (σ219 5) H401) H401 fun v350x403 H404 =>
        gop v347x394 false (fun K405 => ob (vInt .add v349x400 v350x403) fun u => K405 u H404) H404 fun v351x406 H407 =>
        gop v347x394 false (fun K408 => ob (vInt .sub v351x406 (.int .i64 1)) fun u => K408 u H407) H407 fun v352x409 H410 =>
        gop v347x394 false (fun K411 => K411 (σ219 5) H410) H410 fun v353x412 H413 =>
        gop v347x394 false (fun K414 => ob (vInt .rem v352x409 v353x412) fun u => K414 u H413) H413 fun v354x415 H416 =>
        gop v347x394 false (fun K417 => ob (vIx 1 v348x397 v354x415) fun u => K417 u H416) H416 fun v355x418 H419 =>
        gop v347x394 false (fun K420 => ob (vLoad v355x418 H419) fun u => K420 u H419) H419 fun v356x421 H422 =>
        gop v347x394 false (fun K423 => ob (vInt .geq v356x421 (.int .i64 0)) fun u => K423 u H422) H422 fun v357x424 H425 =>
        gop v320x317 true (fun K426 => ob (vPick v347x394 (.bool true) v357x424) fun u => K426 u H425) H425 fun v358x427 H428 =>
        ob (vPick v320x317 v358x427 (.bool false)) fun v359x429 =>
        cnd v359x429
          (Q219 .ret (up (up (up (up (up (up (up (up (up (up (up (up (up (up (up (up (up (up (up (up (up (up (up (up (up (up (up (up (up (up (up (up (up (up (up (up (up (up (up (up (up (up (up (up (up (up (up (up (up (up (up (up (up (up (up (up (up (up (up (up (up (up (up (up (up (up (up (up (up (up (up (up (up (up (up (up (up (up (up (up (up (up (up (up (up (up (up (up (up (up (up (up (up (up (up (up (up (up (up (up (up (up (up σ219 258 (σ219 26)) 259 (σ219 5)) 260 v260x220) 263 (σ219 23)) 264 (σ219 26)) 265 v265x221) 266 v266x222) 267 (σ219 6)) 268 (σ219 26)) 269 v269x223) 270 v270x224) 271 v271x225) 272 v271x225) 273 v273x227) 274 v274x230) 275 v275x233) 276 v276x236) 277 v277x239) 278 v278x242) 279 v279x245) 280 v280x248) 281 v281x251) 282 v282x253) 27 v282x253) 283 (σ219 23)) 284 (σ219 26)) 285 v285x254) 286 v286x255) 287 (σ219 7)) 288 (σ219 26)) 289 v289x256) 290 v290x257) 291 v291x258) 292 v291x258) 293 v293x260) 294 v294x263) 295 v295x266) 296 v296x269) 297 v297x272) 298 v298x275) 299 v299x278) 300 v300x281) 301 v301x284) 302 v302x286) 28 v302x286) 303 v282x253) 304 v304x287) 305 v304x287) 306 v306x289) 307 v307x292) 308 v308x294) 309 v302x286) 310 v302x286) 311 v311x296) 312 v312x299) 313 v313x301) 314 v313x301) 315 v315x303) 316 v316x306) 317 v317x309) 318 v318x312) 319 v319x315) 320 v320x317) 321 v320x317) 322 v322x319) 323 v323x322) 324 v324x325) 325 v325x328) 326 v326x331) 327 v327x334) 328 v328x337) 329 v329x340) 330 v330x343) 331 v331x346) 332 v332x349) 333 v333x352) 334 v334x355) 335 v335x358) 336 v336x361) 337 v337x364) 338 v338x367) 339 v339x370) 340 v340x373) 341 v341x376) 342 v342x379) 343 v343x382) 344 v344x385) 345 v345x388) 346 v346x391) 347 v347x394) 348 v348x397) 349 v349x400) 350 v350x403) 351 v351x406) 352 v352x409) 353 v353x412) 354 v354x415) 355 v355x418) 356 v356x421) 357 v357x424) 358 v358x427) 359 v359x429) 4 (.bool false)) H428)
          (ob (vInt .add (σ219 26) (.int .i64 1)) fun v262x430 =>
        Q219 .normal (up (up (up (up (up (up (up (up (up (up (up (up (up (up (up (up (up (up (up (up (up (up (up (up (up (up (up (up (up (up (up (up (up (up (up (up (up (up (up (up (up (up (up (up (up (up (up (up (up (up (up (up (up (up (up (up (up (up (up (up (up (up (up (up (up (up (up (up (up (up (up (up (up (up (up (up (up (up (up (up (up (up (up (up (up (up (up (up (up (up (up (up (up (up (up (up (up (up (up (up (up (up (up (up (up σ219 258 (σ219 26)) 259 (σ219 5)) 260 v260x220) 263 (σ219 23)) 264 (σ219 26)) 265 v265x221) 266 v266x222) 267 (σ219 6)) 268 (σ219 26)) 269 v269x223) 270 v270x224) 271 v271x225) 272 v271x225) 273 v273x227) 274 v274x230) 275 v275x233) 276 v276x236) 277 v277x239) 278 v278x242) 279 v279x245) 280 v280x248) 281 v281x251) 282 v282x253) 27 v282x253) 283 (σ219 23)) 284 (σ219 26)) 285 v285x254) 286 v286x255) 287 (σ219 7)) 288 (σ219 26)) 289 v289x256) 290 v290x257) 291 v291x258) 292 v291x258) 293 v293x260) 294 v294x263) 295 v295x266) 296 v296x269) 297 v297x272) 298 v298x275) 299 v299x278) 300 v300x281) 301 v301x284) 302 v302x286) 28 v302x286) 303 v282x253) 304 v304x287) 305 v304x287) 306 v306x289) 307 v307x292) 308 v308x294) 309 v302x286) 310 v302x286) 311 v311x296) 312 v312x299) 313 v313x301) 314 v313x301) 315 v315x303) 316 v316x306) 317 v317x309) 318 v318x312) 319 v319x315) 320 v320x317) 321 v320x317) 322 v322x319) 323 v323x322) 324 v324x325) 325 v325x328) 326 v326x331) 327 v327x334) 328 v328x337) 329 v329x340) 330 v330x343) 331 v331x346) 332 v332x349) 333 v333x352) 334 v334x355) 335 v335x358) 336 v336x361) 337 v337x364) 338 v338x367) 339 v339x370) 340 v340x373) 341 v341x376) 342 v342x379) 343 v343x382) 344 v344x385) 345 v345x388) 346 v346x391) 347 v347x394) 348 v348x397) 349 v349x400) 350 v350x403) 351 v351x406) 352 v352x409) 353 v353x412) 354 v354x415) 355 v355x418) 356 v356x421) 357 v357x424) 358 v358x427) 359 v359x429) 261 (σ219 26)) 262 v262x430) 26 v262x430) H428)))
          (Q219 (.exit 4) (up (up (up σ219 258 (σ219 26)) 259 (σ219 5)) 260 v260x220) H219)) (blkQ 4 (thenQ J218 (retQ prg [(.tmp 4)] K))) (up (up (up (up (up (up (up (up (up (up (up (up (up (up (up (up (up (up (up (up (up (up (up (up (up (up (up (up (up (up (up (up (up (up (up (up (up (up (up (up (up (up (up (up (up (up (up (up (up (up (up (up (up (up (up (up (up (up (up (up (up σ114 204 (σ114 11)) 205 v205x115) 203 v205x115) 206 v206x117) 207 v207x118) 21 v206x117) 22 v207x118) 208 v207x118) 209 (σ114 17)) 210 v210x119) 211 v211x120) 212 v211x120) 213 v213x122) 214 v214x125) 215 v215x128) 216 v216x131) 217 v217x134) 218 v218x137) 219 v219x140) 220 v220x143) 221 v221x146) 222 v222x149) 223 v223x152) 224 v224x154) 226 (σ114 6)) 227 (σ114 7)) 228 v228x155) 225 v228x155) 229 v229x157) 230 v230x158) 231 v231x159) 23 v229x157) 24 v230x158) 25 v231x159) 232 v231x159) 233 v233x160) 234 v233x160) 235 v235x162) 236 v236x165) 237 v237x168) 238 v238x171) 239 v239x173) 240 v239x173) 241 v241x175) 242 v242x178) 243 v243x181) 244 v244x184) 245 v245x186) 246 v245x186) 247 v247x188) 248 v248x191) 249 v249x194) 250 v250x197) 251 v251x200) 252 v252x203) 253 v253x206) 254 v254x209) 255 v255x212) 256 v256x215) 257 v257x217) 26 (.int .i64 0)) H216))) fun J114 =>
    lpE (fun Q431 σ431 H431 =>
      ob (vInt .lss (σ431 20) (σ431 5)) fun v125x432 =>
      cnd v125x432
        (ob (vIx 1 (σ431 11) (σ431 20)) fun v130x433 =>
      ob (vLoad v130x433 H431) fun v131x434 =>
      ob (vInt .gtr v131x434 (σ431 8)) fun v133x435 =>
      gop v133x435 false (fun K436 => K436 (σ431 14) H431) H431 fun v135x437 H438 =>
      gop v133x435 false (fun K439 => K439 (σ431 20) H438) H438 fun v136x440 H441 =>
      gop v133x435 false (fun K442 => ob (vIx 1 v135x437 v136x440) fun u => K442 u H441) H441 fun v137x443 H444 =>
      gop v133x435 false (fun K445 => ob (vLoad v137x443 H444) fun u => K445 u H444) H444 fun v138x446 H447 =>
      gop v133x435 false (fun K448 => K448 (σ431 8) H447) H447 fun v139x449 H450 =>
      gop v133x435 false (fun K451 => ob (vInt .gtr v138x446 v139x449) fun u => K451 u H450) H450 fun v140x452 H453 =>
      ob (vPick v133x435 (.bool true) v140x452) fun v141x454 =>
      gop v141x454 false (fun K455 => K455 (σ431 14) H453) H453 fun v143x456 H457 =>
      gop v141x454 false (fun K458 => K458 (σ431 20) H457) H457 fun v144x459 H460 =>
      gop v141x454 false (fun K461 => ob (vIx 1 v143x456 v144x459) fun u => K461 u H460) H460 fun v145x462 H463 =>
      gop v141x454 false (fun K464 => ob (vLoad v145x462 H463) fun u => K464 u H463) H463 fun v146x465 H466 =>
      gop v141x454 false (fun K467 => ob (vInt .gtr v146x465 (.int .i64 0)) fun u => K467 u H466) H466 fun v147x468 H469 =>
      gop v141x454 false (fun K470 => K470 v147x468 H469) H469 fun v148x471 H472 =>
      gop v148x471 true (fun K473 => K473 (σ431 6) H472) H472 fun v149x474 H475 =>
      gop v148x471 true (fun K476 => K476 (σ431 20) H475) H475 fun v150x477 H478 =>
      gop v148x471 true (fun K479 => K479 (σ431 14) H478) H478 fun v151x480 H481 =>
      gop v148x471 true (fun K482 => K482 (σ431 20) H481) H481 fun v152x483 H484 =>
      gop v148x471 true (fun K485 => ob (vIx 1 v151x480 v152x483) fun u => K485 u H484) H484 fun v153x486 H487 =>
      gop v148x471 true (fun K488 => ob (vLoad v153x486 H487) fun u => K488 u H487) H487 fun v154x489 H490 =>
      gop v148x471 true (fun K491 => K491 (σ431 5) H490) H490 fun v155x492 H493 =>
      gop v148x471 true (fun K494 => ob (vInt .rem v154x489 v155x492) fun u => K494 u H493) H493 fun v156x495 H496 =>
      gop v148x471 true (fun K497 => ob (vInt .sub v150x477 v156x495) fun u => K497 u H496) H496 fun v157x498 H499 =>
      gop v148x471 true (fun K500 => K500 (σ431 5) H499) H499 fun v158x501 H502 =>
      gop v148x471 true (fun K503 => ob (vInt .add v157x498 v158x501) fun u => K503 u H502) H502 fun v159x504 H505 =>
      gop v148x471 true (fun K506 => K506 (σ431 5) H505) H505 fun v160x507 H508 =>
      gop v148x471 true (fun K509 => ob (vInt .rem v159x504 v160x507) fun u => K509 u H508) H508 fun v161x510 H511 =>
      gop v148x471 true (fun K512 => ob (vIx 1 v149x474 v161x510) fun u => K512 u H511) H511 fun v162x513 H514 =>
      gop v148x471 true (fun K515 => ob (vLoad v162x513 H514) fun u => K515 u H514) H514 fun v163x516 H517 =>
      gop v148x471 true (fun K518 => ob (vInt .lss v163x516 (.int .i64 0)) fun u => K518 u H517) H517 fun v164x519 H520 =>
      gop v141x454 false (fun K521 => ob (vPick v148x471 v164x519 (.bool false)) fun u => K521 u H520) H520 fun v165x522 H523 =>
      ob (vPick v141x454 (.bool true) v165x522) fun v166x524 =>
      gop v166x524 false (fun K525 => K525 (σ431 6) H523) H523 fun v168x526 H527 =>
      gop v166x524 false (fun K528 => K528 (σ431 20) H527) H527 fun v169x529 H530 =>
      gop v166x524 false (fun K531 => ob (vIx 1 v168x526 v169x529) fun u => K531 u H530) H530 fun v170x532 H533 =>
      gop v166x524 false (fun K534 => ob (vLoad v170x532 H533) fun u => K534 u H533) H533 fun v171x535 H536 =>
      gop v166x524 false (fun K537 => ob (vInt .geq v171x535 (.int .i64 0)) fun u => K537 u H536) H536 fun v172x538 H539 =>
      gop v166x524 false (fun K540 => K540 v172x538 H539) H539 fun v173x541 H542 =>
      gop v173x541 true (fun K543 => K543 (σ431 8) H542) H542 fun v174x544 H545 =>
      gop v173x541 true (fun K546 => ob (vInt .eql v174x544 (.int .i64 1)) fun u => K546 u H545) H545 fun v175x547 H548 =>
      gop v166x524 false (fun K549 => ob (vPick v173x541 v175x547 (.bool false)) fun u => K549 u H548) H548 fun v176x550 H551 =>
      gop v166x524 false (fun K552 => K552 v176x550 H551) H551 fun v177x553 H554 =>
      gop v177x553 true (fun K555 => K555 (σ431 9) H554) H554 fun v178x556 H557 =>
      gop v177x553 true (fun K558 => ob (vFcmp .eql v178x556 (.float .f32 0)) fun u => K558 u H557) H557 fun v179x559 H560 =>
      gop v166x524 false (fun K561 => ob (vPick v177x553 v179x559 (.bool false)) fun u => K561 u H560) H560 fun v180x562 H563 =>
      gop v166x524 false (fun K564 => K564 v180x562 H563) H563 fun v181x565 H566 =>
      gop v181x565 true (fun K567 => K567 (σ431 14) H566) H566 fun v182x568 H569 =>
      gop v181x565 true (fun K570 => K570 (σ431 20) H569) H569 fun v183x571 H572 =>
      gop v181x565 true (fun K573 => ob (vIx 1 v182x568 v183x571) fun u => K573 u H572) H572 fun v184x574 H575 =>
      gop v181x565 true (fun K576 => ob (vLoad v184x574 H575) fun u => K576 u H575) H575 fun v185x577 H578 =>
      gop v181x565 true (fun K579 => ob (vInt .lss v185x577 (.int .i64 0)) fun u => K579 u H578) H578 fun v186x580 H581 =>
      gop v166x524 false (fun K582 => ob (vPick v181x565 v186x580 (.bool false)) fun u => K582 u H581) H581 fun v187x583 H584 =>
      gop v166x524 false (fun K585 => K585 v187x583 H584) H584 fun v188x586 H587 =>
      gop v188x586 true (fun K588 => K588 (σ431 6) H587) H587 fun v189x589 H590 =>
      gop v188x586 true (fun K591 => K591 (σ431 20) H590) H590 fun v190x592 H593 =>
      gop v188x586 true (fun K594 => ob (vInt .add v190x592 (.int .i64 1)) fun u => K594 u H593) H593 fun v191x595 H596 =>
      gop v188x586 true (fun K597 => K597 (σ431 5) H596) H596 fun v192x598 H599 =>
      gop v188x586 true (fun K600 => ob (vInt .rem v191x595 v192x598) fun u => K600 u H599) H599 fun v193x601 H602 =>
      gop v188x586 true (fun K603 => ob (vIx 1 v189x589 v193x601) fun u => K603 u H602) H602 fun v194x604 H605 =>
      gop v188x586 true (fun K606 => ob (vLoad v194x604 H605) fun u => K606 u H605) H605 fun v195x607 H608 =>
      gop v188x586 true (fun K609 => ob (vInt .geq v195x607 (.int .i64 0)) fun u => K609 u H608) H608 fun v196x610 H611 =>
      gop v166x524 false (fun K612 => ob (vPick v188x586 v196x610 (.bool false)) fun u => K612 u H611) H611 fun v197x613 H614 =>
      gop v166x524 false (fun K615 => K615 v197x613 H614) H614 fun v198x616 H617 =>
      gop v198x616 true (fun K618 => K618 (σ431 5) H617) H617 fun v199x619 H620 =>
      gop v198x616 true (fun K621 => ob (vInt .gtr v199x619 (.int .i64 1)) fun u => K621 u H620) H620 fun v200x622 H623 =>
      gop v166x524 false (fun K624 => ob (vPick v198x616 v200x622 (.bool false)) fun u => K624 u H623) H623 fun v201x625 H626 =>
      ob (vPick v166x524 (.bool true) v201x625) fun v202x627 =>
      cnd v202x627
        (Q431 .ret (up (up (up (up (up (up (up (up (up (up (up (up (up (up (up (up (up (up (up (up (up (up (up (up (up (up (up (up (up (up (up (up (up (up (up (up (up (up (up (up (up (up (up (up (up (up (up (up (up (up (up (up (up (up (up (up (up (up (up (up (up (up (up (up (up (up (up (up (up (up (up (up (up (up (up (up (up (up (up σ431 123 (σ431 20)) 124 (σ431 5)) 125 v125x432) 128 (σ431 11)) 129 (σ431 20)) 130 v130x433) 131 v131x434) 132 (σ431 8)) 133 v133x435) 134 v133x435) 135 v135x437) 136 v136x440) 137 v137x443) 138 v138x446) 139 v139x449) 140 v140x452) 141 v141x454) 142 v141x454) 143 v143x456) 144 v144x459) 145 v145x462) 146 v146x465) 147 v147x468) 148 v148x471) 149 v149x474) 150 v150x477) 151 v151x480) 152 v152x483) 153 v153x486) 154 v154x489) 155 v155x492) 156 v156x495) 157 v157x498) 158 v158x501) 159 v159x504) 160 v160x507) 161 v161x510) 162 v162x513) 163 v163x516) 164 v164x519) 165 v165x522) 166 v166x524) 167 v166x524) 168 v168x526) 169 v169x529) 170 v170x532) 171 v171x535) 172 v172x538) 173 v173x541) 174 v174x544) 175 v175x547) 176 v176x550) 177 v177x553) 178 v178x556) 179 v179x559) 180 v180x562) 181 v181x565) 182 v182x568) 183 v183x571) 184 v184x574) 185 v185x577) 186 v186x580) 187 v187x583) 188 v188x586) 189 v189x589) 190 v190x592) 191 v191x595) 192 v192x598) 193 v193x601) 194 v194x604) 195 v195x607) 196 v196x610) 197 v197x613) 198 v198x616) 199 v199x619) 200 v200x622) 201 v201x625) 202 v202x627) 4 (.bool false)) H626)
        (ob (vInt .add (σ431 20) (.int .i64 1)) fun v127x628 =>
      Q431 .normal (up (up (up (up (up (up (up (up (up (up (up (up (up (up (up (up (up (up (up (up (up (up (up (up (up (up (up (up (up (up (up (up (up (up (up (up (up (up (up (up (up (up (up (up (up (up (up (up (up (up (up (up (up (up (up (up (up (up (up (up (up (up (up (up (up (up (up (up (up (up (up (up (up (up (up (up (up (up (up (up (up σ431 123 (σ431 20)) 124 (σ431 5)) 125 v125x432) 128 (σ431 11)) 129 (σ431 20)) 130 v130x433) 131 v131x434) 132 (σ431 8)) 133 v133x435) 134 v133x435) 135 v135x437) 136 v136x440) 137 v137x443) 138 v138x446) 139 v139x449) 140 v140x452) 141 v141x454) 142 v141x454) 143 v143x456) 144 v144x459) 145 v145x462) 146 v146x465) 147 v147x468) 148 v148x471) 149 v149x474) 150 v150x477) 151 v151x480) 152 v152x483) 153 v153x486) 154 v154x489) 155 v155x492) 156 v156x495) 157 v157x498) 158 v158x501) 159 v159x504) 160 v160x507) 161 v161x510) 162 v162x513) 163 v163x516) 164 v164x519) 165 v165x522) 166 v166x524) 167 v166x524) 168 v168x526) 169 v169x529) 170 v170x532) 171 v171x535) 172 v172x538) 173 v173x541) 174 v174x544) 175 v175x547) 176 v176x550) 177 v177x553) 178 v178x556) 179 v179x559) 180 v180x562) 181 v181x565) 182 v182x568) 183 v183x571) 184 v184x574) 185 v185x577) 186 v186x580) 187 v187x583) 188 v188x586) 189 v189x589) 190 v190x592) 191 v191x595) 192 v192x598) 193 v193x601) 194 v194x604) 195 v195x607) 196 v196x610) 197 v197x613) 198 v198x616) 199 v199x619) 200 v200x622) 201 v201x625) 202 v202x627) 126 (σ431 20)) 127 v127x628) 20 v127x628) H626))
        (Q431 (.exit 2) (up (up (up σ431 123 (σ431 20)) 124 (σ431 5)) 125 v125x432) H431)) (blkQ 2 (thenQ J114 (retQ prg [(.tmp 4)] K))) (up (up (up (up (up (up (up (up (up (up (up (up (up (up (up (up σ87 108 (σ87 11)) 109 v109x88) 110 (σ87 17)) 111 v111x90) 112 v111x90) 113 v113x92) 114 v114x95) 115 v115x98) 116 v116x101) 117 v117x103) 118 v117x103) 119 v119x105) 120 v120x108) 121 v121x111) 122 v122x113) 20 (.int .i64 0)) H112)) fun J87 =>
  lpE (fun Q629 σ629 H629 =>
    ob (vInt .lss (σ629 19) (σ629 17)) fun v101x630 =>
    cnd v101x630
      (ob (vInt .mul (.int .i64 1664525) (σ629 18)) fun v105x631 =>
    ob (vInt .add v105x631 (.int .i64 1013904223)) fun v106x632 =>
    ob (vInt .rem v106x632 (.int .i64 4294967296)) fun v107x633 =>
    ob (vInt .add (σ629 19) (.int .i64 1)) fun v103x634 =>
    Q629 .normal (up (up (up (up (up (up (up (up (up (up (up σ629 99 (σ629 19)) 100 (σ629 17)) 101 v101x630) 104 (σ629 18)) 105 v105x631) 106 v106x632) 107 v107x633) 18 v107x633) 102 (σ629 19)) 103 v103x634) 19 v103x634) H629)
      (Q629 (.exit 0) (up (up (up σ629 99 (σ629 19)) 100 (σ629 17)) 101 v101x630) H629)) (blkQ 0 (thenQ J87 (retQ prg [(.tmp 4)] K))) (up (up (up (up (up (up (up (up (up (up (up (up (up (up (up (up (up (up (up (up (up (up (up (up (up (up (up (up (up (up (up (up (up (up (up (up (up (up (up (up (up (up (up (up (up (up (up (up (up (up (up (up (up (up (up (up (up (up (up (up (up (up (up (up (up (up (up (up (up (up (up (up (up (up (up (up (up (up (up (up (up (up (up (up (up (up (S0 [a0, a1]) 4 (.bool false)) 29 a0) 30 a1) 31 v31x1) 32 a1) 33 v33x3) 34 v34x5) 5 v34x5) 35 a0) 36 v34x5) 37 v37x6) 6 v37x6) 38 a1) 39 v34x5) 40 v40x8) 7 v40x8) 41 a1) 42 v42x10) 43 v43x12) 8 v43x12) 44 a1) 45 v45x13) 46 v46x15) 47 v47x16) 9 v47x16) 48 a1) 49 v49x18) 50 v50x20) 10 v50x20) 52 v37x6) 53 v43x12) 54 v47x16) 55 v50x20) 56 v56x21) 51 v56x21) 57 v57x23) 58 v58x24) 59 v59x25) 11 v57x23) 12 v58x24) 13 v59x25) 61 v37x6) 62 v43x12) 63 v50x20) 64 v64x26) 60 v64x26) 65 v65x28) 66 v66x29) 67 v67x30) 14 v65x28) 15 v66x29) 16 v67x30) 68 v59x25) 69 v69x31) 70 v69x31) 71 v71x33) 72 v72x36) 73 v73x38) 74 v73x38) 75 v75x40) 76 v76x43) 77 v77x46) 78 v78x48) 79 v78x48) 80 v80x50) 81 v81x53) 82 v82x56) 83 v83x59) 84 v84x61) 85 v84x61) 86 v86x63) 87 v87x66) 88 v88x69) 89 v89x72) 90 v90x74) 91 v90x74) 92 v92x76) 93 v93x79) 94 v94x82) 95 v95x84) 96 v37x6) 97 v97x85) 17 v97x85) 98 v50x20) 18 v50x20) 19 (.int .i64 0)) H86))
def O.laws_FnLanes : Nat → Nat × List Nat := fun i => bif Nat.beq i 35 then (0, [0, 1, 2, 3, 4, 5, 6, 7, 8, 9, 10, 11, 12, 13, 14, 15, 16, 17, 18, 19, 20]) else bif Nat.beq i 36 then (0, [0, 1, 2, 3, 4, 5, 6, 7, 8, 9, 10, 11, 12, 13, 14, 15, 16, 17, 18, 19, 20]) else (0, [])
theorem R.laws_FnLanes {a0 a1 : Value} {H : Hp} {K : Value → Hp → Prop} (h : F.laws_FnLanes a0 a1 H K) : HT prg I.laws_FnLanes [a0, a1].toArray H K :=
  HT_of_fev O.laws_FnLanes mixed Try.func7 (by kernel_rfl) (Eq.mpr (by kernel_rfl : fev prg O.laws_FnLanes Try.f7 [a0, a1] H K = F.laws_FnLanes a0 a1 H K) h)

/-! loop.example/g01381/spec.LaneSpeed: function 18 -/
def F.spec_LaneSpeed (a0 : Value) (H : Hp) (K : Value → Hp → Prop) : Prop :=
  HT prg I.spec_l06Lane [a0].toArray H fun v8x1 H2 =>
  ob (vUn .not v8x1) fun v9x3 =>
  cnd v9x3
    (K (.tuple #[(.float .f32 0), (.bool false)]) H2)
    (jn (fun σ4 H4 =>
    ob (vInt .eql (σ4 5) (.int .i64 0)) fun v30x5 =>
    cnd v30x5
      (K (.tuple #[(.float .f32 0), (.bool false)]) H4)
      (ob (vCF .f32 (σ4 4)) fun v32x6 =>
    ob (vCF .f32 (σ4 5)) fun v34x7 =>
    fA .quo v32x6 v34x7 H4 fun v35x8 H9 =>
    K (.tuple #[v35x8, (.bool true)]) H9)) fun J4 =>
  lpE (fun Q10 σ10 H10 =>
    ob (vLenSl (σ10 0)) fun v12x11 =>
    ob (vInt .lss (σ10 6) v12x11) fun v13x12 =>
    cnd v13x12
      (jn (fun σ13 H13 =>
      ob (vInt .add (σ13 6) (.int .i64 1)) fun v15x14 =>
      Q10 .normal (up (up (up σ13 14 (σ13 6)) 15 v15x14) 6 v15x14) H13) fun J13 =>
    ob (vIx 1 (σ10 0) (σ10 6)) fun v18x15 =>
    ob (vLoad v18x15 H10) fun v19x16 =>
    ob (vInt .geq v19x16 (.int .i64 0)) fun v20x17 =>
    cnd v20x17
      (ob (vIx 1 (σ10 0) (σ10 6)) fun v24x18 =>
      ob (vLoad v24x18 H10) fun v25x19 =>
      ob (vInt .add (σ10 4) v25x19) fun v26x20 =>
      ob (vInt .add (σ10 5) (.int .i64 1)) fun v28x21 =>
      J13 (up (up (up (up (up (up (up (up (up (up (up (up (up (up (up (up (up (up (up σ10 10 (σ10 6)) 11 (σ10 0)) 12 v12x11) 13 v13x12) 16 (σ10 0)) 17 (σ10 6)) 18 v18x15) 19 v19x16) 20 v20x17) 21 (σ10 4)) 22 (σ10 0)) 23 (σ10 6)) 24 v24x18) 25 v25x19) 26 v26x20) 4 v26x20) 27 (σ10 5)) 28 v28x21) 5 v28x21) H10)
      (J13 (up (up (up (up (up (up (up (up (up σ10 10 (σ10 6)) 11 (σ10 0)) 12 v12x11) 13 v13x12) 16 (σ10 0)) 17 (σ10 6)) 18 v18x15) 19 v19x16) 20 v20x17) H10))
      (Q10 (.exit 0) (up (up (up (up σ10 10 (σ10 6)) 11 (σ10 0)) 12 v12x11) 13 v13x12) H10)) (blkQ 0 (thenQ J4 (retQ prg [(.tmp 2), (.tmp 3)] K))) (up (up (up (up (up (up (up (up (S0 [a0]) 2 (.float .f32 0)) 3 (.bool false)) 7 a0) 8 v8x1) 9 v9x3) 4 (.int .i64 0)) 5 (.int .i64 0)) 6 (.int .i64 0)) H2)
def O.spec_LaneSpeed : Nat → Nat × List Nat := fun i => (0, [])
theorem R.spec_LaneSpeed {a0 : Value} {H : Hp} {K : Value → Hp → Prop} (h : F.spec_LaneSpeed a0 H K) : HT prg I.spec_LaneSpeed [a0].toArray H K :=
  HT_of_fev O.spec_LaneSpeed mixed Try.func18 (by kernel_rfl) (Eq.mpr (by kernel_rfl : fev prg O.spec_LaneSpeed Try.f18 [a0] H K = F.spec_LaneSpeed a0 H K) h)

/-! loop.example/g01381/laws.sameFloat: function 20 -/
def F.laws_sameFloat (a0 a1 : Value) (H : Hp) (K : Value → Hp → Prop) : Prop :=
  ob (vFcmp .neq a0 a0) fun v7x1 =>
  gop v7x1 false (fun K2 => K2 a1 H) H fun v9x3 H4 =>
  gop v7x1 false (fun K5 => K5 a1 H4) H4 fun v10x6 H7 =>
  gop v7x1 false (fun K8 => ob (vFcmp .neq v9x3 v10x6) fun u => K8 u H7) H7 fun v11x9 H10 =>
  ob (vPick v7x1 (.bool true) v11x9) fun v12x11 =>
  cnd v12x11
    (ob (vFcmp .neq a0 a0) fun v15x12 =>
    gop v15x12 true (fun K13 => K13 a1 H10) H10 fun v17x14 H15 =>
    gop v15x12 true (fun K16 => K16 a1 H15) H15 fun v18x17 H18 =>
    gop v15x12 true (fun K19 => ob (vFcmp .neq v17x14 v18x17) fun u => K19 u H18) H18 fun v19x20 H21 =>
    ob (vPick v15x12 v19x20 (.bool false)) fun v20x22 =>
    K v20x22 H21)
    (ob (vFcmp .eql a0 (.float .f64 0)) fun v22x23 =>
  gop v22x23 true (fun K24 => K24 a1 H10) H10 fun v24x25 H26 =>
  gop v22x23 true (fun K27 => ob (vFcmp .eql v24x25 (.float .f64 0)) fun u => K27 u H26) H26 fun v25x28 H29 =>
  ob (vPick v22x23 v25x28 (.bool false)) fun v26x30 =>
  cnd v26x30
    (fA .quo (.float .f64 4607182418800017408) a0 H29 fun v28x31 H32 =>
    ob (vFcmp .gtr v28x31 (.float .f64 0)) fun v29x33 =>
    fA .quo (.float .f64 4607182418800017408) a1 H32 fun v31x34 H35 =>
    ob (vFcmp .gtr v31x34 (.float .f64 0)) fun v32x36 =>
    ob (vBool .eql v29x33 v32x36) fun v33x37 =>
    K v33x37 H35)
    (ob (vFcmp .eql a0 a1) fun v36x38 =>
  K v36x38 H29))
def O.laws_sameFloat : Nat → Nat × List Nat := fun i => (0, [])
theorem R.laws_sameFloat {a0 a1 : Value} {H : Hp} {K : Value → Hp → Prop} (h : F.laws_sameFloat a0 a1 H K) : HT prg I.laws_sameFloat [a0, a1].toArray H K :=
  HT_of_fev O.laws_sameFloat mixed Try.func20 (by kernel_rfl) (Eq.mpr (by kernel_rfl : fev prg O.laws_sameFloat Try.f20 [a0, a1] H K = F.laws_sameFloat a0 a1 H K) h)

/-! loop.example/g01381/laws.FnExactLaneSpeed: function 4 -/
def F.laws_FnExactLaneSpeed (a0 : Value) (H : Hp) (K : Value → Hp → Prop) : Prop :=
  ob (vLenSl a0) fun v9x1 =>
  ob (vInt .gtr v9x1 (.int .i64 1048576)) fun v10x2 =>
  cnd v10x2
    (K (.bool true) H)
    (HT prg I.laws_toInt64S [a0].toArray H fun v13x3 H4 =>
  HT prg I.spec_LaneSpeed [v13x3].toArray H4 fun v14x5 H6 =>
  ob (vExt v14x5 0) fun v15x7 =>
  ob (vExt v14x5 1) fun v16x8 =>
  HT prg I.laws_toInt64S [a0].toArray H6 fun v18x9 H10 =>
  HT prg I.impl_LaneSpeed [v18x9].toArray H10 fun v21x11 H12 =>
  ob (vExt v21x11 0) fun v22x13 =>
  ob (vExt v21x11 1) fun v23x14 =>
  fC .f64 v22x13 H12 fun v25x15 H16 =>
  fC .f64 v15x7 H16 fun v27x17 H18 =>
  HT prg I.laws_sameFloat [v25x15, v27x17].toArray H18 fun v28x19 H20 =>
  ob (vUn .not v28x19) fun v29x21 =>
  gop v29x21 false (fun K22 => K22 v23x14 H20) H20 fun v31x23 H24 =>
  gop v29x21 false (fun K25 => K25 v16x8 H24) H24 fun v32x26 H27 =>
  gop v29x21 false (fun K28 => ob (vBool .neq v31x23 v32x26) fun u => K28 u H27) H27 fun v33x29 H30 =>
  ob (vPick v29x21 (.bool true) v33x29) fun v34x31 =>
  cnd v34x31
    (K (.bool false) H30)
    (HT prg I.laws_toInt64S [a0].toArray H30 fun v37x32 H33 =>
  HT prg I.laws_eqInt64S [v18x9, v37x32].toArray H33 fun v38x34 H35 =>
  ob (vUn .not v38x34) fun v39x36 =>
  cnd v39x36
    (K (.bool false) H35)
    (K (.bool true) H35)))
def O.laws_FnExactLaneSpeed : Nat → Nat × List Nat := fun i => (0, [])
theorem R.laws_FnExactLaneSpeed {a0 : Value} {H : Hp} {K : Value → Hp → Prop} (h : F.laws_FnExactLaneSpeed a0 H K) : HT prg I.laws_FnExactLaneSpeed [a0].toArray H K :=
  HT_of_fev O.laws_FnExactLaneSpeed mixed Try.func4 (by kernel_rfl) (Eq.mpr (by kernel_rfl : fev prg O.laws_FnExactLaneSpeed Try.f4 [a0] H K = F.laws_FnExactLaneSpeed a0 H K) h)

/-! loop.example/g01381/spec.l06Changes: function 50 -/
def F.spec_l06Changes (a0 a1 a2 : Value) (H : Hp) (K : Value → Hp → Prop) : Prop :=
  ob (vLenSl a0) fun v9x1 =>
  ob (vIx 1 a0 a2) fun v12x2 =>
  ob (vLoad v12x2 H) fun v13x3 =>
  ob (vInt .geq v13x3 (.int .i64 0)) fun v14x4 =>
  gop v14x4 true (fun K5 => K5 a0 H) H fun v16x6 H7 =>
  gop v14x4 true (fun K8 => K8 a2 H7) H7 fun v17x9 H10 =>
  gop v14x4 true (fun K11 => ob (vInt .add v17x9 (.int .i64 1)) fun u => K11 u H10) H10 fun v18x12 H13 =>
  gop v14x4 true (fun K14 => K14 v9x1 H13) H13 fun v19x15 H16 =>
  gop v14x4 true (fun K17 => ob (vInt .rem v18x12 v19x15) fun u => K17 u H16) H16 fun v20x18 H19 =>
  gop v14x4 true (fun K20 => ob (vIx 1 v16x6 v20x18) fun u => K20 u H19) H19 fun v21x21 H22 =>
  gop v14x4 true (fun K23 => ob (vLoad v21x21 H22) fun u => K23 u H22) H22 fun v22x24 H25 =>
  gop v14x4 true (fun K26 => ob (vInt .geq v22x24 (.int .i64 0)) fun u => K26 u H25) H25 fun v23x27 H28 =>
  ob (vPick v14x4 v23x27 (.bool false)) fun v24x29 =>
  gop v24x29 true (fun K30 => K30 a1 H28) H28 fun v26x31 H32 =>
  gop v24x29 true (fun K33 => K33 a2 H32) H32 fun v27x34 H35 =>
  gop v24x29 true (fun K36 => ob (vIx 1 v26x31 v27x34) fun u => K36 u H35) H35 fun v28x37 H38 =>
  gop v24x29 true (fun K39 => ob (vLoad v28x37 H38) fun u => K39 u H38) H38 fun v29x40 H41 =>
  gop v24x29 true (fun K42 => ob (vInt .lss v29x40 (.int .i64 0)) fun u => K42 u H41) H41 fun v30x43 H44 =>
  ob (vPick v24x29 v30x43 (.bool false)) fun v31x45 =>
  gop v31x45 true (fun K46 => K46 a1 H44) H44 fun v33x47 H48 =>
  gop v31x45 true (fun K49 => K49 a2 H48) H48 fun v34x50 H51 =>
  gop v31x45 true (fun K52 => ob (vInt .add v34x50 (.int .i64 1)) fun u => K52 u H51) H51 fun v35x53 H54 =>
  gop v31x45 true (fun K55 => K55 v9x1 H54) H54 fun v36x56 H57 =>
  gop v31x45 true (fun K58 => ob (vInt .rem v35x53 v36x56) fun u => K58 u H57) H57 fun v37x59 H60 =>
  gop v31x45 true (fun K61 => ob (vIx 1 v33x47 v37x59) fun u => K61 u H60) H60 fun v38x62 H63 =>
  gop v31x45 true (fun K64 => ob (vLoad v38x62 H63) fun u => K64 u H63) H63 fun v39x65 H66 =>
  gop v31x45 true (fun K67 => ob (vInt .lss v39x65 (.int .i64 0)) fun u => K67 u H66) H66 fun v40x68 H69 =>
  ob (vPick v31x45 v40x68 (.bool false)) fun v41x70 =>
  gop v41x70 true (fun K71 => K71 a1 H69) H69 fun v43x72 H73 =>
  gop v41x70 true (fun K74 => K74 a2 H73) H73 fun v44x75 H76 =>
  gop v41x70 true (fun K77 => K77 v9x1 H76) H76 fun v45x78 H79 =>
  gop v41x70 true (fun K80 => ob (vInt .add v44x75 v45x78) fun u => K80 u H79) H79 fun v46x81 H82 =>
  gop v41x70 true (fun K83 => ob (vInt .sub v46x81 (.int .i64 1)) fun u => K83 u H82) H82 fun v47x84 H85 =>
  gop v41x70 true (fun K86 => K86 v9x1 H85) H85 fun v48x87 H88 =>
  gop v41x70 true (fun K89 => ob (vInt .rem v47x84 v48x87) fun u => K89 u H88) H88 fun v49x90 H91 =>
  gop v41x70 true (fun K92 => ob (vIx 1 v43x72 v49x90) fun u => K92 u H91) H91 fun v50x93 H94 =>
  gop v41x70 true (fun K95 => ob (vLoad v50x93 H94) fun u => K95 u H94) H94 fun v51x96 H97 =>
  gop v41x70 true (fun K98 => ob (vInt .lss v51x96 (.int .i64 0)) fun u => K98 u H97) H97 fun v52x99 H100 =>
  ob (vPick v41x70 v52x99 (.bool false)) fun v53x101 =>
  K v53x101 H100
def O.spec_l06Changes : Nat → Nat × List Nat := fun i => (0, [])
theorem R.spec_l06Changes {a0 a1 a2 : Value} {H : Hp} {K : Value → Hp → Prop} (h : F.spec_l06Changes a0 a1 a2 H K) : HT prg I.spec_l06Changes [a0, a1, a2].toArray H K :=
  HT_of_fev O.spec_l06Changes mixed Try.func50 (by kernel_rfl) (Eq.mpr (by kernel_rfl : fev prg O.spec_l06Changes Try.f50 [a0, a1, a2] H K = F.spec_l06Changes a0 a1 a2 H K) h)

/-! loop.example/g01381/spec.SwitchLanes: function 21 -/
def F.spec_SwitchLanes (a0 a1 : Value) (H : Hp) (K : Value → Hp → Prop) : Prop :=
  HT prg I.spec_l06Lane [a0].toArray H fun v11x1 H2 =>
  ob (vUn .not v11x1) fun v12x3 =>
  gop v12x3 false (fun K4 => K4 a1 H2) H2 fun v14x5 H6 =>
  gop v12x3 false (fun K7 => HT prg I.spec_l06Lane [v14x5].toArray H6 K7) H6 fun v15x8 H9 =>
  gop v12x3 false (fun K10 => ob (vUn .not v15x8) fun u => K10 u H9) H9 fun v16x11 H12 =>
  ob (vPick v12x3 (.bool true) v16x11) fun v17x13 =>
  gop v17x13 false (fun K14 => K14 a0 H12) H12 fun v19x15 H16 =>
  gop v17x13 false (fun K17 => ob (vLenSl v19x15) fun u => K17 u H16) H16 fun v20x18 H19 =>
  gop v17x13 false (fun K20 => K20 a1 H19) H19 fun v21x21 H22 =>
  gop v17x13 false (fun K23 => ob (vLenSl v21x21) fun u => K23 u H22) H22 fun v22x24 H25 =>
  gop v17x13 false (fun K26 => ob (vInt .neq v20x18 v22x24) fun u => K26 u H25) H25 fun v23x27 H28 =>
  ob (vPick v17x13 (.bool true) v23x27) fun v24x29 =>
  cnd v24x29
    (K (.tuple #[(.slice none 0 0), (.slice none 0 0), (.bool false)]) H28)
    (bS 1 0 #[(.int .i64 0)] 2 [] H28 fun v25x30 H31 =>
  apd 1 8 #[(.int .i64 0)] 2 v25x30 a0 H31 fun v27x32 H33 =>
  bS 1 0 #[(.int .i64 0)] 2 [] H33 fun v28x34 H35 =>
  apd 1 8 #[(.int .i64 0)] 2 v28x34 a1 H35 fun v30x36 H37 =>
  jn (fun σ38 H38 =>
    K (.tuple #[(σ38 7), (σ38 8), (.bool true)]) H38) fun J38 =>
  lpE (fun Q39 σ39 H39 =>
    ob (vLenSl (σ39 0)) fun v33x40 =>
    ob (vInt .lss (σ39 9) v33x40) fun v34x41 =>
    cnd v34x41
      (jn (fun σ42 H42 =>
      ob (vInt .add (σ42 9) (.int .i64 1)) fun v36x43 =>
      Q39 .normal (up (up (up σ42 35 (σ42 9)) 36 v36x43) 9 v36x43) H42) fun J42 =>
    jn (fun σ44 H44 =>
      HT prg I.spec_l06Changes [(σ44 1), (σ44 0), (σ44 9)].toArray H44 fun v54x45 H46 =>
      cnd v54x45
        (ob (vIx 1 (σ44 8) (σ44 9)) fun v57x47 =>
        st 1 v57x47 (.int .i64 (-1)) H46 fun H48 =>
        ob (vIx 1 (σ44 1) (σ44 9)) fun v62x49 =>
        ob (vLoad v62x49 H48) fun v63x50 =>
        ob (vIx 1 (σ44 7) (σ44 9)) fun v64x51 =>
        st 1 v64x51 v63x50 H48 fun H52 =>
        J42 (up (up (up (up (up (up (up (up (up (up (up (up (up (up σ44 51 (σ44 1)) 52 (σ44 0)) 53 (σ44 9)) 54 v54x45) 55 (σ44 8)) 56 (σ44 9)) 57 v57x47) 58 (σ44 7)) 59 (σ44 9)) 60 (σ44 1)) 61 (σ44 9)) 62 v62x49) 63 v63x50) 64 v64x51) H52)
        (J42 (up (up (up (up σ44 51 (σ44 1)) 52 (σ44 0)) 53 (σ44 9)) 54 v54x45) H46)) fun J44 =>
    HT prg I.spec_l06Changes [(σ39 0), (σ39 1), (σ39 9)].toArray H39 fun v40x53 H54 =>
    cnd v40x53
      (ob (vIx 1 (σ39 7) (σ39 9)) fun v43x55 =>
      st 1 v43x55 (.int .i64 (-1)) H54 fun H56 =>
      ob (vIx 1 (σ39 0) (σ39 9)) fun v48x57 =>
      ob (vLoad v48x57 H56) fun v49x58 =>
      ob (vIx 1 (σ39 8) (σ39 9)) fun v50x59 =>
      st 1 v50x59 v49x58 H56 fun H60 =>
      J44 (up (up (up (up (up (up (up (up (up (up (up (up (up (up (up (up (up (up σ39 31 (σ39 9)) 32 (σ39 0)) 33 v33x40) 34 v34x41) 37 (σ39 0)) 38 (σ39 1)) 39 (σ39 9)) 40 v40x53) 41 (σ39 7)) 42 (σ39 9)) 43 v43x55) 44 (σ39 8)) 45 (σ39 9)) 46 (σ39 0)) 47 (σ39 9)) 48 v48x57) 49 v49x58) 50 v50x59) H60)
      (J44 (up (up (up (up (up (up (up (up σ39 31 (σ39 9)) 32 (σ39 0)) 33 v33x40) 34 v34x41) 37 (σ39 0)) 38 (σ39 1)) 39 (σ39 9)) 40 v40x53) H54))
      (Q39 (.exit 0) (up (up (up (up σ39 31 (σ39 9)) 32 (σ39 0)) 33 v33x40) 34 v34x41) H39)) (blkQ 0 (thenQ J38 (retQ prg [(.tmp 4), (.tmp 5), (.tmp 6)] K))) (up (up (up (up (up (up (up (up (up (up (up (up (up (up (up (up (up (up (up (up (up (up (up (up (up (up (up (S0 [a0, a1]) 4 (.slice none 0 0)) 5 (.slice none 0 0)) 6 (.bool false)) 10 a0) 11 v11x1) 12 v12x3) 13 v12x3) 14 v14x5) 15 v15x8) 16 v16x11) 17 v17x13) 18 v17x13) 19 v19x15) 20 v20x18) 21 v21x21) 22 v22x24) 23 v23x27) 24 v24x29) 25 v25x30) 26 a0) 27 v27x32) 7 v27x32) 28 v28x34) 29 a1) 30 v30x36) 8 v30x36) 9 (.int .i64 0)) H37)
def O.spec_SwitchLanes : Nat → Nat × List Nat := fun i => (0, [])
theorem R.spec_SwitchLanes {a0 a1 : Value} {H : Hp} {K : Value → Hp → Prop} (h : F.spec_SwitchLanes a0 a1 H K) : HT prg I.spec_SwitchLanes [a0, a1].toArray H K :=
  HT_of_fev O.spec_SwitchLanes mixed Try.func21 (by kernel_rfl) (Eq.mpr (by kernel_rfl : fev prg O.spec_SwitchLanes Try.f21 [a0, a1] H K = F.spec_SwitchLanes a0 a1 H K) h)

end Go.Proofs.Ytdfoobomlabffaa
