/- Functions' texts over a partial heap. -/
import Derived.Test.YtnndhafldmkdeaaG0
namespace Go.Proofs.Ytnndhafldmkdeaa
open HL
set_option linter.unusedVariables false
set_option maxRecDepth 100000
set_option maxHeartbeats 4000000
/-! loop.example/g01381/spec.l00In: function 40 -/
def F.spec_l00In (a0 a1 a2 : Value) (H : Hp) (K : Value → Hp → Prop) : Prop :=
  ob (vInt .geq a0 a1) fun v9x1 =>
  gop v9x1 true (fun K2 => K2 a0 H) H fun v11x3 H4 =>
  gop v9x1 true (fun K5 => K5 a2 H4) H4 fun v12x6 H7 =>
  gop v9x1 true (fun K8 => ob (vInt .leq v11x3 v12x6) fun u => K8 u H7) H7 fun v13x9 H10 =>
  ob (vPick v9x1 v13x9 (.bool false)) fun v14x11 =>
  K v14x11 H10
def O.spec_l00In : Nat → Nat × List Nat := fun i => (0, [])
theorem R.spec_l00In {a0 a1 a2 : Value} {H : Hp} {K : Value → Hp → Prop} (h : F.spec_l00In a0 a1 a2 H K) : HT prg I.spec_l00In [a0, a1, a2].toArray H K :=
  HT_of_fev O.spec_l00In mixed Try.func40 (by kernel_rfl) (Eq.mpr (by kernel_rfl : fev prg O.spec_l00In Try.f40 [a0, a1, a2] H K = F.spec_l00In a0 a1 a2 H K) h)

/-! loop.example/g01381/spec.l02Ring: function 39 -/
def F.spec_l02Ring (a0 a1 : Value) (H : Hp) (K : Value → Hp → Prop) : Prop :=
  jn (fun σ1 H1 =>
    ob (vLenSl (σ1 0)) fun v21x2 =>
    ob (vInt .geq v21x2 (.int .i64 1)) fun v22x3 =>
    gop v22x3 true (fun K4 => K4 (σ1 0) H1) H1 fun v24x5 H6 =>
    gop v22x3 true (fun K7 => ob (vLenSl v24x5) fun u => K7 u H6) H6 fun v25x8 H9 =>
    gop v22x3 true (fun K10 => ob (vInt .leq v25x8 (.int .i64 64)) fun u => K10 u H9) H9 fun v26x11 H12 =>
    ob (vPick v22x3 v26x11 (.bool false)) fun v27x13 =>
    K v27x13 H12) fun J1 =>
  lpE (fun Q14 σ14 H14 =>
    ob (vLenSl (σ14 0)) fun v8x15 =>
    ob (vInt .lss (σ14 5) v8x15) fun v9x16 =>
    cnd v9x16
      (ob (vIx 1 (σ14 0) (σ14 5)) fun v14x17 =>
    ob (vLoad v14x17 H14) fun v15x18 =>
    ob (vInt .sub (σ14 1) (.int .i64 1)) fun v17x19 =>
    HT prg I.spec_l00In [v15x18, (.int .i64 0), v17x19].toArray H14 fun v18x20 H21 =>
    ob (vUn .not v18x20) fun v19x22 =>
    cnd v19x22
      (Q14 .ret (up (up (up (up (up (up (up (up (up (up (up (up (up σ14 6 (σ14 5)) 7 (σ14 0)) 8 v8x15) 9 v9x16) 12 (σ14 0)) 13 (σ14 5)) 14 v14x17) 15 v15x18) 16 (σ14 1)) 17 v17x19) 18 v18x20) 19 v19x22) 4 (.bool false)) H21)
      (ob (vInt .add (σ14 5) (.int .i64 1)) fun v11x23 =>
    Q14 .normal (up (up (up (up (up (up (up (up (up (up (up (up (up (up (up σ14 6 (σ14 5)) 7 (σ14 0)) 8 v8x15) 9 v9x16) 12 (σ14 0)) 13 (σ14 5)) 14 v14x17) 15 v15x18) 16 (σ14 1)) 17 v17x19) 18 v18x20) 19 v19x22) 10 (σ14 5)) 11 v11x23) 5 v11x23) H21))
      (Q14 (.exit 0) (up (up (up (up σ14 6 (σ14 5)) 7 (σ14 0)) 8 v8x15) 9 v9x16) H14)) (blkQ 0 (thenQ J1 (retQ prg [(.tmp 4)] K))) (up (up (S0 [a0, a1]) 4 (.bool false)) 5 (.int .i64 0)) H
def O.spec_l02Ring : Nat → Nat × List Nat := fun i => (0, [])
theorem R.spec_l02Ring {a0 a1 : Value} {H : Hp} {K : Value → Hp → Prop} (h : F.spec_l02Ring a0 a1 H K) : HT prg I.spec_l02Ring [a0, a1].toArray H K :=
  HT_of_fev O.spec_l02Ring mixed Try.func39 (by kernel_rfl) (Eq.mpr (by kernel_rfl : fev prg O.spec_l02Ring Try.f39 [a0, a1] H K = F.spec_l02Ring a0 a1 H K) h)

/-! loop.example/g01381/spec.l02Turned: function 41 -/
def F.spec_l02Turned (a0 a1 : Value) (H : Hp) (K : Value → Hp → Prop) : Prop :=
  bS 1 0 #[(.int .i64 0)] 2 [] H fun v8x1 H2 =>
  ob (vLenSl a0) fun v10x3 =>
  jn (fun σ4 H4 =>
    K (σ4 5) H4) fun J4 =>
  lpE (fun Q5 σ5 H5 =>
    ob (vInt .lss (σ5 7) (σ5 6)) fun v13x6 =>
    cnd v13x6
      (ob (vInt .add (σ5 7) (σ5 1)) fun v20x7 =>
    ob (vInt .rem v20x7 (σ5 6)) fun v22x8 =>
    ob (vIx 1 (σ5 0) v22x8) fun v23x9 =>
    ob (vLoad v23x9 H5) fun v24x10 =>
    bS 1 1 #[(.int .i64 0)] 2 [(0, v24x10)] H5 fun v25x11 H12 =>
    apd 1 8 #[(.int .i64 0)] 2 (σ5 5) v25x11 H12 fun v26x13 H14 =>
    ob (vInt .add (σ5 7) (.int .i64 1)) fun v15x15 =>
    Q5 .normal (up (up (up (up (up (up (up (up (up (up (up (up (up (up (up (up (up (up σ5 11 (σ5 7)) 12 (σ5 6)) 13 v13x6) 16 (σ5 5)) 17 (σ5 0)) 18 (σ5 7)) 19 (σ5 1)) 20 v20x7) 21 (σ5 6)) 22 v22x8) 23 v23x9) 24 v24x10) 25 v25x11) 26 v26x13) 5 v26x13) 14 (σ5 7)) 15 v15x15) 7 v15x15) H14)
      (Q5 (.exit 0) (up (up (up σ5 11 (σ5 7)) 12 (σ5 6)) 13 v13x6) H5)) (blkQ 0 (thenQ J4 (retQ prg [(.tmp 4)] K))) (up (up (up (up (up (up (up (S0 [a0, a1]) 4 (.slice none 0 0)) 8 v8x1) 5 v8x1) 9 a0) 10 v10x3) 6 v10x3) 7 (.int .i64 0)) H2
def O.spec_l02Turned : Nat → Nat × List Nat := fun i => (0, [])
theorem R.spec_l02Turned {a0 a1 : Value} {H : Hp} {K : Value → Hp → Prop} (h : F.spec_l02Turned a0 a1 H K) : HT prg I.spec_l02Turned [a0, a1].toArray H K :=
  HT_of_fev O.spec_l02Turned mixed Try.func41 (by kernel_rfl) (Eq.mpr (by kernel_rfl : fev prg O.spec_l02Turned Try.f41 [a0, a1] H K = F.spec_l02Turned a0 a1 H K) h)

/-! loop.example/g01381/spec.TurnRing: function 11 -/
def F.spec_TurnRing (a0 a1 : Value) (H : Hp) (K : Value → Hp → Prop) : Prop :=
  HT prg I.spec_l02Ring [a0, (.int .i64 3)].toArray H fun v7x1 H2 =>
  ob (vUn .not v7x1) fun v8x3 =>
  gop v8x3 false (fun K4 => K4 a1 H2) H2 fun v10x5 H6 =>
  gop v8x3 false (fun K7 => HT prg I.spec_l00In [v10x5, (.int .i64 0), (.int .i64 64)].toArray H6 K7) H6 fun v11x8 H9 =>
  gop v8x3 false (fun K10 => ob (vUn .not v11x8) fun u => K10 u H9) H9 fun v12x11 H12 =>
  ob (vPick v8x3 (.bool true) v12x11) fun v13x13 =>
  cnd v13x13
    (K (.tuple #[(.slice none 0 0), (.bool false)]) H12)
    (HT prg I.spec_l02Turned [a0, a1].toArray H12 fun v16x14 H15 =>
  K (.tuple #[v16x14, (.bool true)]) H15)
def O.spec_TurnRing : Nat → Nat × List Nat := fun i => (0, [])
theorem R.spec_TurnRing {a0 a1 : Value} {H : Hp} {K : Value → Hp → Prop} (h : F.spec_TurnRing a0 a1 H K) : HT prg I.spec_TurnRing [a0, a1].toArray H K :=
  HT_of_fev O.spec_TurnRing mixed Try.func11 (by kernel_rfl) (Eq.mpr (by kernel_rfl : fev prg O.spec_TurnRing Try.f11 [a0, a1] H K = F.spec_TurnRing a0 a1 H K) h)

/-! loop.example/g01381/laws.toInt64S: function 12 -/
def F.laws_toInt64S (a0 : Value) (H : Hp) (K : Value → Hp → Prop) : Prop :=
  ob (vLenSl a0) fun v6x1 =>
  mkS 1 8 #[(.int .i64 0)] 2 v6x1 v6x1 H fun v7x2 H3 =>
  jn (fun σ4 H4 =>
    K (σ4 3) H4) fun J4 =>
  lpE (fun Q5 σ5 H5 =>
    ob (vLenSl (σ5 0)) fun v10x6 =>
    ob (vInt .lss (σ5 4) v10x6) fun v11x7 =>
    cnd v11x7
      (ob (vIx 1 (σ5 0) (σ5 4)) fun v18x8 =>
    ob (vLoad v18x8 H5) fun v19x9 =>
    ob (vIx 1 (σ5 3) (σ5 4)) fun v20x10 =>
    st 1 v20x10 v19x9 H5 fun H11 =>
    ob (vInt .add (σ5 4) (.int .i64 1)) fun v13x12 =>
    Q5 .normal (up (up (up (up (up (up (up (up (up (up (up (up (up (up σ5 8 (σ5 4)) 9 (σ5 0)) 10 v10x6) 11 v11x7) 14 (σ5 3)) 15 (σ5 4)) 16 (σ5 0)) 17 (σ5 4)) 18 v18x8) 19 v19x9) 20 v20x10) 12 (σ5 4)) 13 v13x12) 4 v13x12) H11)
      (Q5 (.exit 0) (up (up (up (up σ5 8 (σ5 4)) 9 (σ5 0)) 10 v10x6) 11 v11x7) H5)) (blkQ 0 (thenQ J4 (retQ prg [(.tmp 2)] K))) (up (up (up (up (up (up (S0 [a0]) 2 (.slice none 0 0)) 5 a0) 6 v6x1) 7 v7x2) 3 v7x2) 4 (.int .i64 0)) H3
def O.laws_toInt64S : Nat → Nat × List Nat := fun i => (0, [])
theorem R.laws_toInt64S {a0 : Value} {H : Hp} {K : Value → Hp → Prop} (h : F.laws_toInt64S a0 H K) : HT prg I.laws_toInt64S [a0].toArray H K :=
  HT_of_fev O.laws_toInt64S mixed Try.func12 (by kernel_rfl) (Eq.mpr (by kernel_rfl : fev prg O.laws_toInt64S Try.f12 [a0] H K = F.laws_toInt64S a0 H K) h)

/-! loop.example/g01381/impl.areStates: function 69 -/
def F.impl_areStates (a0 : Value) (H : Hp) (K : Value → Hp → Prop) : Prop :=
  ob (vInt .eql a0 (.int .i64 2)) fun v4x1 =>
  gop v4x1 false (fun K2 => K2 a0 H) H fun v6x3 H4 =>
  gop v4x1 false (fun K5 => ob (vInt .eql v6x3 (.int .i64 3)) fun u => K5 u H4) H4 fun v7x6 H7 =>
  ob (vPick v4x1 (.bool true) v7x6) fun v8x8 =>
  K v8x8 H7
def O.impl_areStates : Nat → Nat × List Nat := fun i => (0, [])
theorem R.impl_areStates {a0 : Value} {H : Hp} {K : Value → Hp → Prop} (h : F.impl_areStates a0 H K) : HT prg I.impl_areStates [a0].toArray H K :=
  HT_of_fev O.impl_areStates mixed Try.func69 (by kernel_rfl) (Eq.mpr (by kernel_rfl : fev prg O.impl_areStates Try.f69 [a0] H K = F.impl_areStates a0 H K) h)

/-! loop.example/g01381/impl.within: function 43 -/
def F.impl_within (a0 a1 a2 : Value) (H : Hp) (K : Value → Hp → Prop) : Prop :=
  ob (vInt .geq a0 a1) fun v9x1 =>
  gop v9x1 true (fun K2 => K2 a0 H) H fun v11x3 H4 =>
  gop v9x1 true (fun K5 => K5 a2 H4) H4 fun v12x6 H7 =>
  gop v9x1 true (fun K8 => ob (vInt .leq v11x3 v12x6) fun u => K8 u H7) H7 fun v13x9 H10 =>
  ob (vPick v9x1 v13x9 (.bool false)) fun v14x11 =>
  K v14x11 H10
def O.impl_within : Nat → Nat × List Nat := fun i => (0, [])
theorem R.impl_within {a0 a1 a2 : Value} {H : Hp} {K : Value → Hp → Prop} (h : F.impl_within a0 a1 a2 H K) : HT prg I.impl_within [a0, a1, a2].toArray H K :=
  HT_of_fev O.impl_within mixed Try.func43 (by kernel_rfl) (Eq.mpr (by kernel_rfl : fev prg O.impl_within Try.f43 [a0, a1, a2] H K = F.impl_within a0 a1 a2 H K) h)

/-! loop.example/g01381/impl.areWithin: function 76 -/
def F.impl_areWithin (a0 a1 a2 : Value) (H : Hp) (K : Value → Hp → Prop) : Prop :=
  jn (fun σ1 H1 =>
    K (.bool true) H1) fun J1 =>
  ob (vLenSl a0) fun v10x2 =>
  lpE (fun Q3 σ3 H3 =>
    ob (vInt .lss (σ3 11) (σ3 10)) fun v12x4 =>
    cnd v12x4
      (ob (vIx 1 (σ3 9) (σ3 11)) fun v13x5 =>
    ob (vLoad v13x5 H3) fun v14x6 =>
    HT prg I.impl_within [v14x6, (σ3 1), (σ3 2)].toArray H3 fun v18x7 H8 =>
    ob (vUn .not v18x7) fun v19x9 =>
    cnd v19x9
      (Q3 .ret (up (up (up (up (up (up (up (up (up (up σ3 12 v12x4) 13 v13x5) 14 v14x6) 8 v14x6) 15 v14x6) 16 (σ3 1)) 17 (σ3 2)) 18 v18x7) 19 v19x9) 6 (.bool false)) H8)
      (ob (vInt .add (σ3 11) (.int .i64 1)) fun v20x10 =>
    Q3 .normal (up (up (up (up (up (up (up (up (up (up (up σ3 12 v12x4) 13 v13x5) 14 v14x6) 8 v14x6) 15 v14x6) 16 (σ3 1)) 17 (σ3 2)) 18 v18x7) 19 v19x9) 20 v20x10) 11 v20x10) H8))
      (Q3 (.exit 0) (up σ3 12 v12x4) H3)) (blkQ 0 (thenQ J1 (retQ prg [(.tmp 6)] K))) (up (up (up (up (S0 [a0, a1, a2]) 6 (.bool false)) 9 a0) 10 v10x2) 11 (.int .i64 0)) H
def O.impl_areWithin : Nat → Nat × List Nat := fun i => (0, [])
theorem R.impl_areWithin {a0 a1 a2 : Value} {H : Hp} {K : Value → Hp → Prop} (h : F.impl_areWithin a0 a1 a2 H K) : HT prg I.impl_areWithin [a0, a1, a2].toArray H K :=
  HT_of_fev O.impl_areWithin mixed Try.func76 (by kernel_rfl) (Eq.mpr (by kernel_rfl : fev prg O.impl_areWithin Try.f76 [a0, a1, a2] H K = F.impl_areWithin a0 a1 a2 H K) h)

/-! loop.example/g01381/impl.areMany: function 70 -/
def F.impl_areMany (a0 a1 a2 a3 a4 : Value) (H : Hp) (K : Value → Hp → Prop) : Prop :=
  ob (vLenSl a0) fun v12x1 =>
  HT prg I.impl_within [v12x1, a1, a2].toArray H fun v15x2 H3 =>
  gop v15x2 true (fun K4 => K4 a0 H3) H3 fun v17x5 H6 =>
  gop v15x2 true (fun K7 => K7 a3 H6) H6 fun v18x8 H9 =>
  gop v15x2 true (fun K10 => K10 a4 H9) H9 fun v19x11 H12 =>
  gop v15x2 true (fun K13 => HT prg I.impl_areWithin [v17x5, v18x8, v19x11].toArray H12 K13) H12 fun v20x14 H15 =>
  ob (vPick v15x2 v20x14 (.bool false)) fun v21x16 =>
  K v21x16 H15
def O.impl_areMany : Nat → Nat × List Nat := fun i => (0, [])
theorem R.impl_areMany {a0 a1 a2 a3 a4 : Value} {H : Hp} {K : Value → Hp → Prop} (h : F.impl_areMany a0 a1 a2 a3 a4 H K) : HT prg I.impl_areMany [a0, a1, a2, a3, a4].toArray H K :=
  HT_of_fev O.impl_areMany mixed Try.func70 (by kernel_rfl) (Eq.mpr (by kernel_rfl : fev prg O.impl_areMany Try.f70 [a0, a1, a2, a3, a4] H K = F.impl_areMany a0 a1 a2 a3 a4 H K) h)

/-! loop.example/g01381/impl.IsRing: function 42 -/
def F.impl_IsRing (a0 a1 : Value) (H : Hp) (K : Value → Hp → Prop) : Prop :=
  HT prg I.impl_areStates [a1].toArray H fun v6x1 H2 =>
  gop v6x1 true (fun K3 => K3 a0 H2) H2 fun v8x4 H5 =>
  gop v6x1 true (fun K6 => K6 a1 H5) H5 fun v9x7 H8 =>
  gop v6x1 true (fun K9 => ob (vInt .sub v9x7 (.int .i64 1)) fun u => K9 u H8) H8 fun v10x10 H11 =>
  gop v6x1 true (fun K12 => HT prg I.impl_areMany [v8x4, (.int .i64 1), (.int .i64 64), (.int .i64 0), v10x10].toArray H11 K12) H11 fun v11x13 H14 =>
  ob (vPick v6x1 v11x13 (.bool false)) fun v12x15 =>
  K v12x15 H14
def O.impl_IsRing : Nat → Nat × List Nat := fun i => (0, [])
theorem R.impl_IsRing {a0 a1 : Value} {H : Hp} {K : Value → Hp → Prop} (h : F.impl_IsRing a0 a1 H K) : HT prg I.impl_IsRing [a0, a1].toArray H K :=
  HT_of_fev O.impl_IsRing mixed Try.func42 (by kernel_rfl) (Eq.mpr (by kernel_rfl : fev prg O.impl_IsRing Try.f42 [a0, a1] H K = F.impl_IsRing a0 a1 H K) h)

/-! slices.Grow[[]int64,int64]: function 93 -/
def F.slices_Grow_int64Zint64 (a0 a1 : Value) (H : Hp) (K : Value → Hp → Prop) : Prop :=
  jn (fun σ1 H1 =>
    ob (vCapSl (σ1 0)) fun v10x2 =>
    ob (vLenSl (σ1 0)) fun v12x3 =>
    ob (vInt .sub v10x2 v12x3) fun v13x4 =>
    ob (vInt .sub (σ1 1) v13x4) fun v14x5 =>
    ob (vInt .gtr v14x5 (.int .i64 0)) fun v16x6 =>
    cnd v16x6
      (ob (vCapSl (σ1 0)) fun v19x7 =>
      ob (vSl3 1 (σ1 0) none (some v19x7) none) fun v20x8 =>
      apm 1 8 #[(.int .i64 0)] 2 v20x8 v14x5 H1 fun v22x9 H10 =>
      ob (vLenSl (σ1 0)) fun v24x11 =>
      ob (vSl3 1 v22x9 none (some v24x11) none) fun v25x12 =>
      K v25x12 H10)
      (K (σ1 0) H1)) fun J1 =>
  ob (vInt .lss a1 (.int .i64 0)) fun v6x13 =>
  cnd v6x13
    (ob (val prg (Instr.makeInterface 9 (.string ⟨#[99, 97, 110, 110, 111, 116, 32, 98, 101, 32, 110, 101, 103, 97, 116, 105, 118, 101]⟩)) H) fun v7x14 =>
    hp prg (do pure (Next.value (← Instr.panic v7x14))) H (nextH prg (fun _ H15 =>
    J1 (up (up (up (up (S0 [a0, a1]) 4 (.slice none 0 0)) 5 a1) 6 v6x13) 7 v7x14) H15)))
    (J1 (up (up (up (S0 [a0, a1]) 4 (.slice none 0 0)) 5 a1) 6 v6x13) H)
def O.slices_Grow_int64Zint64 : Nat → Nat × List Nat := fun i => (0, [])
theorem R.slices_Grow_int64Zint64 {a0 a1 : Value} {H : Hp} {K : Value → Hp → Prop} (h : F.slices_Grow_int64Zint64 a0 a1 H K) : HT prg I.slices_Grow_int64Zint64 [a0, a1].toArray H K :=
  HT_of_fev O.slices_Grow_int64Zint64 mixed Try.func93 (by kernel_rfl) (Eq.mpr (by kernel_rfl : fev prg O.slices_Grow_int64Zint64 Try.f93 [a0, a1] H K = F.slices_Grow_int64Zint64 a0 a1 H K) h)

/-! slices.Concat[[]int64,int64]: function 71 -/
def F.slices_Concat_int64Zint64 (a0 : Value) (H : Hp) (K : Value → Hp → Prop) : Prop :=
  jn (fun σ1 H1 =>
    HT prg I.slices_Grow_int64Zint64 [(.slice none 0 0), (σ1 3)].toArray H1 fun v24x2 H3 =>
    jn (fun σ4 H4 =>
      K (σ4 6) H4) fun J4 =>
    ob (vLenSl (σ1 0)) fun v26x5 =>
    lpE (fun Q6 σ6 H6 =>
      ob (vInt .lss (σ6 27) (σ6 26)) fun v28x7 =>
      cnd v28x7
        (ob (vIx 1 (σ6 25) (σ6 27)) fun v29x8 =>
      ob (vLoad v29x8 H6) fun v30x9 =>
      apd 1 8 #[(.int .i64 0)] 2 (σ6 6) v30x9 H6 fun v33x10 H11 =>
      ob (vInt .add (σ6 27) (.int .i64 1)) fun v34x12 =>
      Q6 .normal (up (up (up (up (up (up (up (up (up (up σ6 28 v28x7) 29 v29x8) 30 v30x9) 8 v30x9) 31 (σ6 6)) 32 v30x9) 33 v33x10) 6 v33x10) 34 v34x12) 27 v34x12) H11)
        (Q6 (.exit 2) (up σ6 28 v28x7) H6)) (blkQ 2 (thenQ J4 (retQ prg [(.tmp 2)] K))) (up (up (up (up (up (up σ1 23 (σ1 3)) 24 v24x2) 6 v24x2) 25 (σ1 0)) 26 v26x5) 27 (.int .i64 0)) H3) fun J1 =>
  ob (vLenSl a0) fun v10x13 =>
  lpE (fun Q14 σ14 H14 =>
    ob (vInt .lss (σ14 11) (σ14 10)) fun v12x15 =>
    cnd v12x15
      (ob (vIx 1 (σ14 9) (σ14 11)) fun v13x16 =>
    ob (vLoad v13x16 H14) fun v14x17 =>
    ob (vLenSl v14x17) fun v17x18 =>
    ob (vInt .add (σ14 3) v17x18) fun v18x19 =>
    ob (vInt .lss v18x19 (.int .i64 0)) fun v20x20 =>
    cnd v20x20
      (ob (val prg (Instr.makeInterface 9 (.string ⟨#[108, 101, 110, 32, 111, 117, 116, 32, 111, 102, 32, 114, 97, 110, 103, 101]⟩)) H14) fun v21x21 =>
      hp prg (do pure (Next.value (← Instr.panic v21x21))) H14 (nextH prg (fun _ H22 =>
      ob (vInt .add (σ14 11) (.int .i64 1)) fun v22x23 =>
    Q14 .normal (up (up (up (up (up (up (up (up (up (up (up (up (up (up σ14 12 v12x15) 13 v13x16) 14 v14x17) 5 v14x17) 15 (σ14 3)) 16 v14x17) 17 v17x18) 18 v18x19) 3 v18x19) 19 v18x19) 20 v20x20) 21 v21x21) 22 v22x23) 11 v22x23) H22)))
      (ob (vInt .add (σ14 11) (.int .i64 1)) fun v22x24 =>
    Q14 .normal (up (up (up (up (up (up (up (up (up (up (up (up (up σ14 12 v12x15) 13 v13x16) 14 v14x17) 5 v14x17) 15 (σ14 3)) 16 v14x17) 17 v17x18) 18 v18x19) 3 v18x19) 19 v18x19) 20 v20x20) 22 v22x24) 11 v22x24) H14))
      (Q14 (.exit 0) (up σ14 12 v12x15) H14)) (blkQ 0 (thenQ J1 (retQ prg [(.tmp 2)] K))) (up (up (up (up (up (S0 [a0]) 2 (.slice none 0 0)) 3 (.int .i64 0)) 9 a0) 10 v10x13) 11 (.int .i64 0)) H
def O.slices_Concat_int64Zint64 : Nat → Nat × List Nat := fun i => (0, [])
theorem R.slices_Concat_int64Zint64 {a0 : Value} {H : Hp} {K : Value → Hp → Prop} (h : F.slices_Concat_int64Zint64 a0 H K) : HT prg I.slices_Concat_int64Zint64 [a0].toArray H K :=
  HT_of_fev O.slices_Concat_int64Zint64 mixed Try.func71 (by kernel_rfl) (Eq.mpr (by kernel_rfl : fev prg O.slices_Concat_int64Zint64 Try.f71 [a0] H K = F.slices_Concat_int64Zint64 a0 H K) h)

/-! loop.example/g01381/impl.turned: function 44 -/
def F.impl_turned (a0 a1 : Value) (H : Hp) (K : Value → Hp → Prop) : Prop :=
  ob (vLenSl a0) fun v7x1 =>
  ob (vInt .rem a1 v7x1) fun v8x2 =>
  ob (vSl3 1 a0 (some v8x2) none none) fun v11x3 =>
  ob (vSl3 1 a0 none (some v8x2) none) fun v14x4 =>
  bS 1 2 #[(.slice none 0 0)] 22 [(0, v11x3), (1, v14x4)] H fun v15x5 H6 =>
  HT prg I.slices_Concat_int64Zint64 [v15x5].toArray H6 fun v16x7 H8 =>
  Le H6 H8 ∧ (K v16x7 H8)
def O.impl_turned : Nat → Nat × List Nat := fun i => bif Nat.beq i 2 then (0, [0, 1, 2, 3, 4, 5, 6, 7, 8]) else (0, [])
theorem R.impl_turned {a0 a1 : Value} {H : Hp} {K : Value → Hp → Prop} (h : F.impl_turned a0 a1 H K) : HT prg I.impl_turned [a0, a1].toArray H K :=
  HT_of_fev O.impl_turned mixed Try.func44 (by kernel_rfl) (Eq.mpr (by kernel_rfl : fev prg O.impl_turned Try.f44 [a0, a1] H K = F.impl_turned a0 a1 H K) h)

/-! loop.example/g01381/impl.TurnRing: function 13 -/
def F.impl_TurnRing (a0 a1 : Value) (H : Hp) (K : Value → Hp → Prop) : Prop :=
  HT prg I.impl_IsRing [a0, (.int .i64 3)].toArray H fun v7x1 H2 =>
  ob (vUn .not v7x1) fun v8x3 =>
  gop v8x3 false (fun K4 => K4 a1 H2) H2 fun v10x5 H6 =>
  gop v8x3 false (fun K7 => HT prg I.impl_within [v10x5, (.int .i64 0), (.int .i64 64)].toArray H6 K7) H6 fun v11x8 H9 =>
  gop v8x3 false (fun K10 => ob (vUn .not v11x8) fun u => K10 u H9) H9 fun v12x11 H12 =>
  ob (vPick v8x3 (.bool true) v12x11) fun v13x13 =>
  cnd v13x13
    (K (.tuple #[(.slice none 0 0), (.bool false)]) H12)
    (HT prg I.impl_turned [a0, a1].toArray H12 fun v16x14 H15 =>
  K (.tuple #[v16x14, (.bool true)]) H15)
def O.impl_TurnRing : Nat → Nat × List Nat := fun i => (0, [])
theorem R.impl_TurnRing {a0 a1 : Value} {H : Hp} {K : Value → Hp → Prop} (h : F.impl_TurnRing a0 a1 H K) : HT prg I.impl_TurnRing [a0, a1].toArray H K :=
  HT_of_fev O.impl_TurnRing mixed Try.func13 (by kernel_rfl) (Eq.mpr (by kernel_rfl : fev prg O.impl_TurnRing Try.f13 [a0, a1] H K = F.impl_TurnRing a0 a1 H K) h)

/-! loop.example/g01381/laws.eqInt64S: function 14 -/
def F.laws_eqInt64S (a0 a1 : Value) (H : Hp) (K : Value → Hp → Prop) : Prop :=
  ob (vLenSl a0) fun v7x1 =>
  ob (vLenSl a1) fun v9x2 =>
  ob (vInt .neq v7x1 v9x2) fun v10x3 =>
  cnd v10x3
    (K (.bool false) H)
    (jn (fun σ4 H4 =>
    K (.bool true) H4) fun J4 =>
  lpE (fun Q5 σ5 H5 =>
    ob (vLenSl (σ5 0)) fun v13x6 =>
    ob (vInt .lss (σ5 5) v13x6) fun v14x7 =>
    cnd v14x7
      (ob (vIx 1 (σ5 0) (σ5 5)) fun v19x8 =>
    ob (vLoad v19x8 H5) fun v20x9 =>
    ob (vIx 1 (σ5 1) (σ5 5)) fun v23x10 =>
    ob (vLoad v23x10 H5) fun v24x11 =>
    ob (vInt .neq v20x9 v24x11) fun v25x12 =>
    cnd v25x12
      (Q5 .ret (up (up (up (up (up (up (up (up (up (up (up (up (up (up σ5 11 (σ5 5)) 12 (σ5 0)) 13 v13x6) 14 v14x7) 17 (σ5 0)) 18 (σ5 5)) 19 v19x8) 20 v20x9) 21 (σ5 1)) 22 (σ5 5)) 23 v23x10) 24 v24x11) 25 v25x12) 4 (.bool false)) H5)
      (ob (vInt .add (σ5 5) (.int .i64 1)) fun v16x13 =>
    Q5 .normal (up (up (up (up (up (up (up (up (up (up (up (up (up (up (up (up σ5 11 (σ5 5)) 12 (σ5 0)) 13 v13x6) 14 v14x7) 17 (σ5 0)) 18 (σ5 5)) 19 v19x8) 20 v20x9) 21 (σ5 1)) 22 (σ5 5)) 23 v23x10) 24 v24x11) 25 v25x12) 15 (σ5 5)) 16 v16x13) 5 v16x13) H5))
      (Q5 (.exit 0) (up (up (up (up σ5 11 (σ5 5)) 12 (σ5 0)) 13 v13x6) 14 v14x7) H5)) (blkQ 0 (thenQ J4 (retQ prg [(.tmp 4)] K))) (up (up (up (up (up (up (up (S0 [a0, a1]) 4 (.bool false)) 6 a0) 7 v7x1) 8 a1) 9 v9x2) 10 v10x3) 5 (.int .i64 0)) H)
def O.laws_eqInt64S : Nat → Nat × List Nat := fun i => bif Nat.beq i 6 then (0, [0, 1, 2, 3, 4, 5, 6, 7, 8]) else (0, [])
theorem R.laws_eqInt64S {a0 a1 : Value} {H : Hp} {K : Value → Hp → Prop} (h : F.laws_eqInt64S a0 a1 H K) : HT prg I.laws_eqInt64S [a0, a1].toArray H K :=
  HT_of_fev O.laws_eqInt64S mixed Try.func14 (by kernel_rfl) (Eq.mpr (by kernel_rfl : fev prg O.laws_eqInt64S Try.f14 [a0, a1] H K = F.laws_eqInt64S a0 a1 H K) h)

/-! loop.example/g01381/laws.markInt64S: function 15 -/
def F.laws_markInt64S (a0 a1 : Value) (H : Hp) (K : Value → Hp → Prop) : Prop :=
  jn (fun σ1 H1 =>
    K (σ1 1) H1) fun J1 =>
  lpE (fun Q2 σ2 H2 =>
    ob (vLenSl (σ2 0)) fun v8x3 =>
    ob (vInt .lss (σ2 5) v8x3) fun v9x4 =>
    cnd v9x4
      (ob (vIx 1 (σ2 0) (σ2 5)) fun v15x5 =>
    st 1 v15x5 (σ2 1) H2 fun H6 =>
    ob (vInt .add (σ2 1) (.int .i64 1)) fun v17x7 =>
    ob (vInt .add (σ2 5) (.int .i64 1)) fun v11x8 =>
    Q2 .normal (up (up (up (up (up (up (up (up (up (up (up (up (up (up σ2 6 (σ2 5)) 7 (σ2 0)) 8 v8x3) 9 v9x4) 12 (σ2 0)) 13 (σ2 5)) 14 (σ2 1)) 15 v15x5) 16 (σ2 1)) 17 v17x7) 1 v17x7) 10 (σ2 5)) 11 v11x8) 5 v11x8) H6)
      (Q2 (.exit 0) (up (up (up (up σ2 6 (σ2 5)) 7 (σ2 0)) 8 v8x3) 9 v9x4) H2)) (blkQ 0 (thenQ J1 (retQ prg [(.tmp 4)] K))) (up (up (S0 [a0, a1]) 4 (.int .i64 0)) 5 (.int .i64 0)) H
def O.laws_markInt64S : Nat → Nat × List Nat := fun i => (0, [])
theorem R.laws_markInt64S {a0 a1 : Value} {H : Hp} {K : Value → Hp → Prop} (h : F.laws_markInt64S a0 a1 H K) : HT prg I.laws_markInt64S [a0, a1].toArray H K :=
  HT_of_fev O.laws_markInt64S mixed Try.func15 (by kernel_rfl) (Eq.mpr (by kernel_rfl : fev prg O.laws_markInt64S Try.f15 [a0, a1] H K = F.laws_markInt64S a0 a1 H K) h)

/-! loop.example/g01381/laws.heldInt64S: function 16 -/
def F.laws_heldInt64S (a0 a1 : Value) (H : Hp) (K : Value → Hp → Prop) : Prop :=
  jn (fun σ1 H1 =>
    K (σ1 1) H1) fun J1 =>
  lpE (fun Q2 σ2 H2 =>
    ob (vLenSl (σ2 0)) fun v8x3 =>
    ob (vInt .lss (σ2 5) v8x3) fun v9x4 =>
    cnd v9x4
      (ob (vIx 1 (σ2 0) (σ2 5)) fun v14x5 =>
    ob (vLoad v14x5 H2) fun v15x6 =>
    ob (vInt .neq v15x6 (σ2 1)) fun v17x7 =>
    cnd v17x7
      (Q2 .ret (up (up (up (up (up (up (up (up (up (up (up σ2 6 (σ2 5)) 7 (σ2 0)) 8 v8x3) 9 v9x4) 12 (σ2 0)) 13 (σ2 5)) 14 v14x5) 15 v15x6) 16 (σ2 1)) 17 v17x7) 4 (.int .i64 (-1))) H2)
      (ob (vInt .add (σ2 1) (.int .i64 1)) fun v19x8 =>
    ob (vInt .add (σ2 5) (.int .i64 1)) fun v11x9 =>
    Q2 .normal (up (up (up (up (up (up (up (up (up (up (up (up (up (up (up (up σ2 6 (σ2 5)) 7 (σ2 0)) 8 v8x3) 9 v9x4) 12 (σ2 0)) 13 (σ2 5)) 14 v14x5) 15 v15x6) 16 (σ2 1)) 17 v17x7) 18 (σ2 1)) 19 v19x8) 1 v19x8) 10 (σ2 5)) 11 v11x9) 5 v11x9) H2))
      (Q2 (.exit 0) (up (up (up (up σ2 6 (σ2 5)) 7 (σ2 0)) 8 v8x3) 9 v9x4) H2)) (blkQ 0 (thenQ J1 (retQ prg [(.tmp 4)] K))) (up (up (S0 [a0, a1]) 4 (.int .i64 0)) 5 (.int .i64 0)) H
def O.laws_heldInt64S : Nat → Nat × List Nat := fun i => (0, [])
theorem R.laws_heldInt64S {a0 a1 : Value} {H : Hp} {K : Value → Hp → Prop} (h : F.laws_heldInt64S a0 a1 H K) : HT prg I.laws_heldInt64S [a0, a1].toArray H K :=
  HT_of_fev O.laws_heldInt64S mixed Try.func16 (by kernel_rfl) (Eq.mpr (by kernel_rfl : fev prg O.laws_heldInt64S Try.f16 [a0, a1] H K = F.laws_heldInt64S a0 a1 H K) h)

/-! loop.example/g01381/laws.FnExactTurnRing: function 3 -/
def F.laws_FnExactTurnRing (a0 a1 : Value) (H : Hp) (K : Value → Hp → Prop) : Prop :=
  ob (vLenSl a0) fun v16x1 =>
  ob (vInt .gtr v16x1 (.int .i64 1048576)) fun v17x2 =>
  cnd v17x2
    (K (.bool true) H)
    (HT prg I.laws_toInt64S [a0].toArray H fun v20x3 H4 =>
  HT prg I.spec_TurnRing [v20x3, a1].toArray H4 fun v22x5 H6 =>
  ob (vExt v22x5 0) fun v23x7 =>
  ob (vExt v22x5 1) fun v24x8 =>
  HT prg I.laws_toInt64S [a0].toArray H6 fun v26x9 H10 =>
  HT prg I.impl_TurnRing [v26x9, a1].toArray H10 fun v30x11 H12 =>
  ob (vExt v30x11 0) fun v31x13 =>
  ob (vExt v30x11 1) fun v32x14 =>
  HT prg I.laws_eqInt64S [v31x13, v23x7].toArray H12 fun v35x15 H16 =>
  ob (vUn .not v35x15) fun v36x17 =>
  gop v36x17 false (fun K18 => K18 v32x14 H16) H16 fun v38x19 H20 =>
  gop v36x17 false (fun K21 => K21 v24x8 H20) H20 fun v39x22 H23 =>
  gop v36x17 false (fun K24 => ob (vBool .neq v38x19 v39x22) fun u => K24 u H23) H23 fun v40x25 H26 =>
  ob (vPick v36x17 (.bool true) v40x25) fun v41x27 =>
  cnd v41x27
    (K (.bool false) H26)
    (HT prg I.laws_toInt64S [a0].toArray H26 fun v44x28 H29 =>
  HT prg I.laws_eqInt64S [v26x9, v44x28].toArray H29 fun v45x30 H31 =>
  ob (vUn .not v45x30) fun v46x32 =>
  cnd v46x32
    (K (.bool false) H31)
    (HT prg I.laws_markInt64S [v26x9, (.int .i64 1)].toArray H31 fun v49x33 H34 =>
  ob (vInt .lss v49x33 (.int .i64 0)) fun v51x35 =>
  gop v51x35 false (fun K36 => K36 v31x13 H34) H34 fun v53x37 H38 =>
  gop v51x35 false (fun K39 => K39 v23x7 H38) H38 fun v54x40 H41 =>
  gop v51x35 false (fun K42 => HT prg I.laws_eqInt64S [v53x37, v54x40].toArray H41 K42) H41 fun v55x43 H44 =>
  gop v51x35 false (fun K45 => ob (vUn .not v55x43) fun u => K45 u H44) H44 fun v56x46 H47 =>
  ob (vPick v51x35 (.bool true) v56x46) fun v57x48 =>
  gop v57x48 false (fun K49 => K49 v32x14 H47) H47 fun v59x50 H51 =>
  gop v57x48 false (fun K52 => K52 v24x8 H51) H51 fun v60x53 H54 =>
  gop v57x48 false (fun K55 => ob (vBool .neq v59x50 v60x53) fun u => K55 u H54) H54 fun v61x56 H57 =>
  ob (vPick v57x48 (.bool true) v61x56) fun v62x58 =>
  cnd v62x58
    (K (.bool false) H57)
    (HT prg I.laws_markInt64S [v31x13, (.int .i64 1)].toArray H57 fun v65x59 H60 =>
  HT prg I.laws_heldInt64S [v31x13, (.int .i64 1)].toArray H60 fun v68x61 H62 =>
  ob (vInt .lss v68x61 (.int .i64 0)) fun v70x63 =>
  cnd v70x63
    (K (.bool false) H62)
    (ob (vInt .neq v68x61 v65x59) fun v73x64 =>
  cnd v73x64
    (K (.bool false) H62)
    (HT prg I.laws_toInt64S [a0].toArray H62 fun v76x65 H66 =>
  HT prg I.impl_TurnRing [v76x65, a1].toArray H66 fun v78x67 H68 =>
  ob (vExt v78x67 0) fun v79x69 =>
  ob (vExt v78x67 1) fun v80x70 =>
  HT prg I.laws_eqInt64S [v79x69, v23x7].toArray H68 fun v83x71 H72 =>
  ob (vUn .not v83x71) fun v84x73 =>
  gop v84x73 false (fun K74 => K74 v80x70 H72) H72 fun v86x75 H76 =>
  gop v84x73 false (fun K77 => K77 v24x8 H76) H76 fun v87x78 H79 =>
  gop v84x73 false (fun K80 => ob (vBool .neq v86x75 v87x78) fun u => K80 u H79) H79 fun v88x81 H82 =>
  ob (vPick v84x73 (.bool true) v88x81) fun v89x83 =>
  cnd v89x83
    (K (.bool false) H82)
    (HT prg I.laws_heldInt64S [v31x13, (.int .i64 1)].toArray H82 fun v92x84 H85 =>
  ob (vInt .lss v92x84 (.int .i64 0)) fun v94x86 =>
  cnd v94x86
    (K (.bool false) H85)
    (ob (vInt .neq v92x84 v65x59) fun v97x87 =>
  cnd v97x87
    (K (.bool false) H85)
    (K (.bool true) H85)))))))))
def O.laws_FnExactTurnRing : Nat → Nat × List Nat := fun i => (0, [])
theorem R.laws_FnExactTurnRing {a0 a1 : Value} {H : Hp} {K : Value → Hp → Prop} (h : F.laws_FnExactTurnRing a0 a1 H K) : HT prg I.laws_FnExactTurnRing [a0, a1].toArray H K :=
  HT_of_fev O.laws_FnExactTurnRing mixed Try.func3 (by kernel_rfl) (Eq.mpr (by kernel_rfl : fev prg O.laws_FnExactTurnRing Try.f3 [a0, a1] H K = F.laws_FnExactTurnRing a0 a1 H K) h)

/-! loop.example/g01381/spec.l02Before: function 45 -/
def F.spec_l02Before (a0 a1 : Value) (H : Hp) (K : Value → Hp → Prop) : Prop :=
  jn (fun σ1 H1 =>
    K (.bool false) H1) fun J1 =>
  lpE (fun Q2 σ2 H2 =>
    ob (vLenSl (σ2 0)) fun v8x3 =>
    ob (vInt .lss (σ2 5) v8x3) fun v9x4 =>
    cnd v9x4
      (ob (vIx 1 (σ2 0) (σ2 5)) fun v14x5 =>
    ob (vLoad v14x5 H2) fun v15x6 =>
    ob (vIx 1 (σ2 1) (σ2 5)) fun v18x7 =>
    ob (vLoad v18x7 H2) fun v19x8 =>
    ob (vInt .neq v15x6 v19x8) fun v20x9 =>
    cnd v20x9
      (ob (vIx 1 (σ2 0) (σ2 5)) fun v23x10 =>
      ob (vLoad v23x10 H2) fun v24x11 =>
      ob (vIx 1 (σ2 1) (σ2 5)) fun v27x12 =>
      ob (vLoad v27x12 H2) fun v28x13 =>
      ob (vInt .lss v24x11 v28x13) fun v29x14 =>
      Q2 .ret (up (up (up (up (up (up (up (up (up (up (up (up (up (up (up (up (up (up (up (up (up (up (up σ2 6 (σ2 5)) 7 (σ2 0)) 8 v8x3) 9 v9x4) 12 (σ2 0)) 13 (σ2 5)) 14 v14x5) 15 v15x6) 16 (σ2 1)) 17 (σ2 5)) 18 v18x7) 19 v19x8) 20 v20x9) 21 (σ2 0)) 22 (σ2 5)) 23 v23x10) 24 v24x11) 25 (σ2 1)) 26 (σ2 5)) 27 v27x12) 28 v28x13) 29 v29x14) 4 v29x14) H2)
      (ob (vInt .add (σ2 5) (.int .i64 1)) fun v11x15 =>
    Q2 .normal (up (up (up (up (up (up (up (up (up (up (up (up (up (up (up (up σ2 6 (σ2 5)) 7 (σ2 0)) 8 v8x3) 9 v9x4) 12 (σ2 0)) 13 (σ2 5)) 14 v14x5) 15 v15x6) 16 (σ2 1)) 17 (σ2 5)) 18 v18x7) 19 v19x8) 20 v20x9) 10 (σ2 5)) 11 v11x15) 5 v11x15) H2))
      (Q2 (.exit 0) (up (up (up (up σ2 6 (σ2 5)) 7 (σ2 0)) 8 v8x3) 9 v9x4) H2)) (blkQ 0 (thenQ J1 (retQ prg [(.tmp 4)] K))) (up (up (S0 [a0, a1]) 4 (.bool false)) 5 (.int .i64 0)) H
def O.spec_l02Before : Nat → Nat × List Nat := fun i => bif Nat.beq i 4 then (0, [0, 1, 2, 3, 4, 5, 6, 7, 8]) else bif Nat.beq i 5 then (0, [0, 1, 2, 3, 4, 5, 6, 7, 8, 9]) else (0, [])
theorem R.spec_l02Before {a0 a1 : Value} {H : Hp} {K : Value → Hp → Prop} (h : F.spec_l02Before a0 a1 H K) : HT prg I.spec_l02Before [a0, a1].toArray H K :=
  HT_of_fev O.spec_l02Before mixed Try.func45 (by kernel_rfl) (Eq.mpr (by kernel_rfl : fev prg O.spec_l02Before Try.f45 [a0, a1] H K = F.spec_l02Before a0 a1 H K) h)

/-! loop.example/g01381/spec.LeastTurn: function 17 -/
def F.spec_LeastTurn (a0 : Value) (H : Hp) (K : Value → Hp → Prop) : Prop :=
  HT prg I.spec_l02Ring [a0, (.int .i64 3)].toArray H fun v8x1 H2 =>
  ob (vUn .not v8x1) fun v9x3 =>
  cnd v9x3
    (K (.tuple #[(.slice none 0 0), (.bool false)]) H2)
    (bS 1 0 #[(.int .i64 0)] 2 [] H2 fun v10x4 H5 =>
  apd 1 8 #[(.int .i64 0)] 2 v10x4 a0 H5 fun v12x6 H7 =>
  jn (fun σ8 H8 =>
    K (.tuple #[(σ8 4), (.bool true)]) H8) fun J8 =>
  lpE (fun Q9 σ9 H9 =>
    ob (vLenSl (σ9 0)) fun v15x10 =>
    ob (vInt .lss (σ9 5) v15x10) fun v16x11 =>
    cnd v16x11
      (HT prg I.spec_l02Turned [(σ9 0), (σ9 5)].toArray H9 fun v21x12 H13 =>
    HT prg I.spec_l02Before [v21x12, (σ9 4)].toArray H13 fun v24x14 H15 =>
    cnd v24x14
      (ob (vInt .add (σ9 5) (.int .i64 1)) fun v18x16 =>
    Q9 .normal (up (up (up (up (up (up (up (up (up (up (up (up (up (up (up (up σ9 13 (σ9 5)) 14 (σ9 0)) 15 v15x10) 16 v16x11) 19 (σ9 0)) 20 (σ9 5)) 21 v21x12) 6 v21x12) 22 v21x12) 23 (σ9 4)) 24 v24x14) 25 v21x12) 4 v21x12) 17 (σ9 5)) 18 v18x16) 5 v18x16) H15)
      (ob (vInt .add (σ9 5) (.int .i64 1)) fun v18x17 =>
    Q9 .normal (up (up (up (up (up (up (up (up (up (up (up (up (up (up σ9 13 (σ9 5)) 14 (σ9 0)) 15 v15x10) 16 v16x11) 19 (σ9 0)) 20 (σ9 5)) 21 v21x12) 6 v21x12) 22 v21x12) 23 (σ9 4)) 24 v24x14) 17 (σ9 5)) 18 v18x17) 5 v18x17) H15))
      (Q9 (.exit 0) (up (up (up (up σ9 13 (σ9 5)) 14 (σ9 0)) 15 v15x10) 16 v16x11) H9)) (blkQ 0 (thenQ J8 (retQ prg [(.tmp 2), (.tmp 3)] K))) (up (up (up (up (up (up (up (up (up (up (S0 [a0]) 2 (.slice none 0 0)) 3 (.bool false)) 7 a0) 8 v8x1) 9 v9x3) 10 v10x4) 11 a0) 12 v12x6) 4 v12x6) 5 (.int .i64 1)) H7)
def O.spec_LeastTurn : Nat → Nat × List Nat := fun i => (0, [])
theorem R.spec_LeastTurn {a0 : Value} {H : Hp} {K : Value → Hp → Prop} (h : F.spec_LeastTurn a0 H K) : HT prg I.spec_LeastTurn [a0].toArray H K :=
  HT_of_fev O.spec_LeastTurn mixed Try.func17 (by kernel_rfl) (Eq.mpr (by kernel_rfl : fev prg O.spec_LeastTurn Try.f17 [a0] H K = F.spec_LeastTurn a0 H K) h)

/-! slices.Clone[[]int64,int64]: function 46 -/
def F.slices_Clone_int64Zint64 (a0 : Value) (H : Hp) (K : Value → Hp → Prop) : Prop :=
  ob (vSlEq .eql a0 (.slice none 0 0)) fun v4x1 =>
  cnd v4x1
    (K (.slice none 0 0) H)
    (bS 1 0 #[(.int .i64 0)] 2 [] H fun v5x2 H3 =>
  apd 1 8 #[(.int .i64 0)] 2 v5x2 a0 H3 fun v7x4 H5 =>
  K v7x4 H5)
def O.slices_Clone_int64Zint64 : Nat → Nat × List Nat := fun i => (0, [])
theorem R.slices_Clone_int64Zint64 {a0 : Value} {H : Hp} {K : Value → Hp → Prop} (h : F.slices_Clone_int64Zint64 a0 H K) : HT prg I.slices_Clone_int64Zint64 [a0].toArray H K :=
  HT_of_fev O.slices_Clone_int64Zint64 mixed Try.func46 (by kernel_rfl) (Eq.mpr (by kernel_rfl : fev prg O.slices_Clone_int64Zint64 Try.f46 [a0] H K = F.slices_Clone_int64Zint64 a0 H K) h)

/-! cmp.isNaN[int64]: function 94 -/
def F.cmp_isNaN_int64 (a0 : Value) (H : Hp) (K : Value → Hp → Prop) : Prop :=
  ob (vInt .neq a0 a0) fun v5x1 =>
  K v5x1 H
def O.cmp_isNaN_int64 : Nat → Nat × List Nat := fun i => (0, [])
theorem R.cmp_isNaN_int64 {a0 : Value} {H : Hp} {K : Value → Hp → Prop} (h : F.cmp_isNaN_int64 a0 H K) : HT prg I.cmp_isNaN_int64 [a0].toArray H K :=
  HT_of_fev O.cmp_isNaN_int64 mixed Try.func94 (by kernel_rfl) (Eq.mpr (by kernel_rfl : fev prg O.cmp_isNaN_int64 Try.f94 [a0] H K = F.cmp_isNaN_int64 a0 H K) h)

/-! cmp.Compare[int64]: function 72 -/
def F.cmp_Compare_int64 (a0 a1 : Value) (H : Hp) (K : Value → Hp → Prop) : Prop :=
  HT prg I.cmp_isNaN_int64 [a0].toArray H fun v8x1 H2 =>
  HT prg I.cmp_isNaN_int64 [a1].toArray H2 fun v10x3 H4 =>
  cnd v8x1
    (cnd v10x3
      (K (.int .i64 0) H4)
      (K (.int .i64 (-1)) H4))
    (cnd v10x3
    (K (.int .i64 1) H4)
    (ob (vInt .lss a0 a1) fun v16x5 =>
  cnd v16x5
    (K (.int .i64 (-1)) H4)
    (ob (vInt .gtr a0 a1) fun v19x6 =>
  cnd v19x6
    (K (.int .i64 1) H4)
    (K (.int .i64 0) H4))))
def O.cmp_Compare_int64 : Nat → Nat × List Nat := fun i => (0, [])
theorem R.cmp_Compare_int64 {a0 a1 : Value} {H : Hp} {K : Value → Hp → Prop} (h : F.cmp_Compare_int64 a0 a1 H K) : HT prg I.cmp_Compare_int64 [a0, a1].toArray H K :=
  HT_of_fev O.cmp_Compare_int64 mixed Try.func72 (by kernel_rfl) (Eq.mpr (by kernel_rfl : fev prg O.cmp_Compare_int64 Try.f72 [a0, a1] H K = F.cmp_Compare_int64 a0 a1 H K) h)

/-! slices.Compare[[]int64,int64]: function 47 -/
def F.slices_Compare_int64Zint64 (a0 a1 : Value) (H : Hp) (K : Value → Hp → Prop) : Prop :=
  jn (fun σ1 H1 =>
    ob (vLenSl (σ1 0)) fun v32x2 =>
    ob (vLenSl (σ1 1)) fun v34x3 =>
    ob (vInt .lss v32x2 v34x3) fun v35x4 =>
    cnd v35x4
      (K (.int .i64 (-1)) H1)
      (K (.int .i64 0) H1)) fun J1 =>
  ob (vLenSl a0) fun v10x5 =>
  lpE (fun Q6 σ6 H6 =>
    ob (vInt .lss (σ6 11) (σ6 10)) fun v12x7 =>
    cnd v12x7
      (ob (vIx 1 (σ6 9) (σ6 11)) fun v14x8 =>
    ob (vLoad v14x8 H6) fun v15x9 =>
    ob (vLenSl (σ6 1)) fun v18x10 =>
    ob (vInt .geq (σ6 11) v18x10) fun v19x11 =>
    cnd v19x11
      (Q6 .ret (up (up (up (up (up (up (up (up (up (up (up σ6 12 v12x7) 13 (σ6 11)) 14 v14x8) 15 v15x9) 5 (σ6 11)) 6 v15x9) 16 (σ6 11)) 17 (σ6 1)) 18 v18x10) 19 v19x11) 4 (.int .i64 1)) H6)
      (ob (vIx 1 (σ6 1) (σ6 11)) fun v22x12 =>
    ob (vLoad v22x12 H6) fun v23x13 =>
    HT prg I.cmp_Compare_int64 [v15x9, v23x13].toArray H6 fun v26x14 H15 =>
    ob (vInt .neq v26x14 (.int .i64 0)) fun v28x16 =>
    cnd v28x16
      (Q6 .ret (up (up (up (up (up (up (up (up (up (up (up (up (up (up (up (up (up (up (up (up (up (up (up σ6 12 v12x7) 13 (σ6 11)) 14 v14x8) 15 v15x9) 5 (σ6 11)) 6 v15x9) 16 (σ6 11)) 17 (σ6 1)) 18 v18x10) 19 v19x11) 20 (σ6 1)) 21 (σ6 11)) 22 v22x12) 23 v23x13) 7 v23x13) 24 v15x9) 25 v23x13) 26 v26x14) 8 v26x14) 27 v26x14) 28 v28x16) 29 v26x14) 4 v26x14) H15)
      (ob (vInt .add (σ6 11) (.int .i64 1)) fun v30x17 =>
    Q6 .normal (up (up (up (up (up (up (up (up (up (up (up (up (up (up (up (up (up (up (up (up (up (up (up σ6 12 v12x7) 13 (σ6 11)) 14 v14x8) 15 v15x9) 5 (σ6 11)) 6 v15x9) 16 (σ6 11)) 17 (σ6 1)) 18 v18x10) 19 v19x11) 20 (σ6 1)) 21 (σ6 11)) 22 v22x12) 23 v23x13) 7 v23x13) 24 v15x9) 25 v23x13) 26 v26x14) 8 v26x14) 27 v26x14) 28 v28x16) 30 v30x17) 11 v30x17) H15)))
      (Q6 (.exit 0) (up σ6 12 v12x7) H6)) (blkQ 0 (thenQ J1 (retQ prg [(.tmp 4)] K))) (up (up (up (up (S0 [a0, a1]) 4 (.int .i64 0)) 9 a0) 10 v10x5) 11 (.int .i64 0)) H
def O.slices_Compare_int64Zint64 : Nat → Nat × List Nat := fun i => (0, [])
theorem R.slices_Compare_int64Zint64 {a0 a1 : Value} {H : Hp} {K : Value → Hp → Prop} (h : F.slices_Compare_int64Zint64 a0 a1 H K) : HT prg I.slices_Compare_int64Zint64 [a0, a1].toArray H K :=
  HT_of_fev O.slices_Compare_int64Zint64 mixed Try.func47 (by kernel_rfl) (Eq.mpr (by kernel_rfl : fev prg O.slices_Compare_int64Zint64 Try.f47 [a0, a1] H K = F.slices_Compare_int64Zint64 a0 a1 H K) h)

/-! loop.example/g01381/impl.LeastTurn: function 18 -/
def F.impl_LeastTurn (a0 : Value) (H : Hp) (K : Value → Hp → Prop) : Prop :=
  HT prg I.impl_IsRing [a0, (.int .i64 3)].toArray H fun v8x1 H2 =>
  ob (vUn .not v8x1) fun v9x3 =>
  cnd v9x3
    (K (.tuple #[(.slice none 0 0), (.bool false)]) H2)
    (HT prg I.slices_Clone_int64Zint64 [a0].toArray H2 fun v11x4 H5 =>
  jn (fun σ6 H6 =>
    K (.tuple #[(σ6 4), (.bool true)]) H6) fun J6 =>
  ob (vLenSl a0) fun v13x7 =>
  lpE (fun Q8 σ8 H8 =>
    ob (vInt .lss (σ8 14) (σ8 13)) fun v15x9 =>
    cnd v15x9
      (HT prg I.impl_turned [(σ8 0), (σ8 14)].toArray H8 fun v19x10 H11 =>
    HT prg I.slices_Compare_int64Zint64 [v19x10, (σ8 4)].toArray H11 fun v22x12 H13 =>
    ob (vInt .lss v22x12 (.int .i64 0)) fun v23x14 =>
    cnd v23x14
      (ob (vInt .add (σ8 14) (.int .i64 1)) fun v25x15 =>
    Q8 .normal (up (up (up (up (up (up (up (up (up (up (up (up (up (up (up σ8 15 v15x9) 16 (σ8 14)) 5 (σ8 14)) 17 (σ8 0)) 18 (σ8 14)) 19 v19x10) 6 v19x10) 20 v19x10) 21 (σ8 4)) 22 v22x12) 23 v23x14) 24 v19x10) 4 v19x10) 25 v25x15) 14 v25x15) H13)
      (ob (vInt .add (σ8 14) (.int .i64 1)) fun v25x16 =>
    Q8 .normal (up (up (up (up (up (up (up (up (up (up (up (up (up σ8 15 v15x9) 16 (σ8 14)) 5 (σ8 14)) 17 (σ8 0)) 18 (σ8 14)) 19 v19x10) 6 v19x10) 20 v19x10) 21 (σ8 4)) 22 v22x12) 23 v23x14) 25 v25x16) 14 v25x16) H13))
      (Q8 (.exit 0) (up σ8 15 v15x9) H8)) (blkQ 0 (thenQ J6 (retQ prg [(.tmp 2), (.tmp 3)] K))) (up (up (up (up (up (up (up (up (up (up (up (S0 [a0]) 2 (.slice none 0 0)) 3 (.bool false)) 7 a0) 8 v8x1) 9 v9x3) 10 a0) 11 v11x4) 4 v11x4) 12 a0) 13 v13x7) 14 (.int .i64 0)) H5)
def O.impl_LeastTurn : Nat → Nat × List Nat := fun i => (0, [])
theorem R.impl_LeastTurn {a0 : Value} {H : Hp} {K : Value → Hp → Prop} (h : F.impl_LeastTurn a0 H K) : HT prg I.impl_LeastTurn [a0].toArray H K :=
  HT_of_fev O.impl_LeastTurn mixed Try.func18 (by kernel_rfl) (Eq.mpr (by kernel_rfl : fev prg O.impl_LeastTurn Try.f18 [a0] H K = F.impl_LeastTurn a0 H K) h)

/-! loop.example/g01381/laws.FnExactLeastTurn: function 4 -/
def F.laws_FnExactLeastTurn (a0 : Value) (H : Hp) (K : Value → Hp → Prop) : Prop :=
  ob (vLenSl a0) fun v14x1 =>
  ob (vInt .gtr v14x1 (.int .i64 1048576)) fun v15x2 =>
  cnd v15x2
    (K (.bool true) H)
    (HT prg I.laws_toInt64S [a0].toArray H fun v18x3 H4 =>
  HT prg I.spec_LeastTurn [v18x3].toArray H4 fun v19x5 H6 =>
  ob (vExt v19x5 0) fun v20x7 =>
  ob (vExt v19x5 1) fun v21x8 =>
  HT prg I.laws_toInt64S [a0].toArray H6 fun v23x9 H10 =>
  HT prg I.impl_LeastTurn [v23x9].toArray H10 fun v26x11 H12 =>
  ob (vExt v26x11 0) fun v27x13 =>
  ob (vExt v26x11 1) fun v28x14 =>
  HT prg I.laws_eqInt64S [v27x13, v20x7].toArray H12 fun v31x15 H16 =>
  ob (vUn .not v31x15) fun v32x17 =>
  gop v32x17 false (fun K18 => K18 v28x14 H16) H16 fun v34x19 H20 =>
  gop v32x17 false (fun K21 => K21 v21x8 H20) H20 fun v35x22 H23 =>
  gop v32x17 false (fun K24 => ob (vBool .neq v34x19 v35x22) fun u => K24 u H23) H23 fun v36x25 H26 =>
  ob (vPick v32x17 (.bool true) v36x25) fun v37x27 =>
  cnd v37x27
    (K (.bool false) H26)
    (HT prg I.laws_toInt64S [a0].toArray H26 fun v40x28 H29 =>
  HT prg I.laws_eqInt64S [v23x9, v40x28].toArray H29 fun v41x30 H31 =>
  ob (vUn .not v41x30) fun v42x32 =>
  cnd v42x32
    (K (.bool false) H31)
    (HT prg I.laws_markInt64S [v23x9, (.int .i64 1)].toArray H31 fun v45x33 H34 =>
  ob (vInt .lss v45x33 (.int .i64 0)) fun v47x35 =>
  gop v47x35 false (fun K36 => K36 v27x13 H34) H34 fun v49x37 H38 =>
  gop v47x35 false (fun K39 => K39 v20x7 H38) H38 fun v50x40 H41 =>
  gop v47x35 false (fun K42 => HT prg I.laws_eqInt64S [v49x37, v50x40].toArray H41 K42) H41 fun v51x43 H44 =>
  gop v47x35 false (fun K45 => ob (vUn .not v51x43) fun u => K45 u H44) H44 fun v52x46 H47 =>
  ob (vPick v47x35 (.bool true) v52x46) fun v53x48 =>
  gop v53x48 false (fun K49 => K49 v28x14 H47) H47 fun v55x50 H51 =>
  gop v53x48 false (fun K52 => K52 v21x8 H51) H51 fun v56x53 H54 =>
  gop v53x48 false (fun K55 => ob (vBool .neq v55x50 v56x53) fun u => K55 u H54) H54 fun v57x56 H57 =>
  ob (vPick v53x48 (.bool true) v57x56) fun v58x58 =>
  cnd v58x58
    (K (.bool false) H57)
    (HT prg I.laws_markInt64S [v27x13, (.int .i64 1)].toArray H57 fun v61x59 H60 =>
  HT prg I.laws_heldInt64S [v27x13, (.int .i64 1)].toArray H60 fun v64x61 H62 =>
  ob (vInt .lss v64x61 (.int .i64 0)) fun v66x63 =>
  cnd v66x63
    (K (.bool false) H62)
    (ob (vInt .neq v64x61 v61x59) fun v69x64 =>
  cnd v69x64
    (K (.bool false) H62)
    (HT prg I.laws_toInt64S [a0].toArray H62 fun v72x65 H66 =>
  HT prg I.impl_LeastTurn [v72x65].toArray H66 fun v73x67 H68 =>
  ob (vExt v73x67 0) fun v74x69 =>
  ob (vExt v73x67 1) fun v75x70 =>
  HT prg I.laws_eqInt64S [v74x69, v20x7].toArray H68 fun v78x71 H72 =>
  ob (vUn .not v78x71) fun v79x73 =>
  gop v79x73 false (fun K74 => K74 v75x70 H72) H72 fun v81x75 H76 =>
  gop v79x73 false (fun K77 => K77 v21x8 H76) H76 fun v82x78 H79 =>
  gop v79x73 false (fun K80 => ob (vBool .neq v81x75 v82x78) fun u => K80 u H79) H79 fun v83x81 H82 =>
  ob (vPick v79x73 (.bool true) v83x81) fun v84x83 =>
  cnd v84x83
    (K (.bool false) H82)
    (HT prg I.laws_heldInt64S [v27x13, (.int .i64 1)].toArray H82 fun v87x84 H85 =>
  ob (vInt .lss v87x84 (.int .i64 0)) fun v89x86 =>
  cnd v89x86
    (K (.bool false) H85)
    (ob (vInt .neq v87x84 v61x59) fun v92x87 =>
  cnd v92x87
    (K (.bool false) H85)
    (K (.bool true) H85)))))))))
def O.laws_FnExactLeastTurn : Nat → Nat × List Nat := fun i => (0, [])
theorem R.laws_FnExactLeastTurn {a0 : Value} {H : Hp} {K : Value → Hp → Prop} (h : F.laws_FnExactLeastTurn a0 H K) : HT prg I.laws_FnExactLeastTurn [a0].toArray H K :=
  HT_of_fev O.laws_FnExactLeastTurn mixed Try.func4 (by kernel_rfl) (Eq.mpr (by kernel_rfl : fev prg O.laws_FnExactLeastTurn Try.f4 [a0] H K = F.laws_FnExactLeastTurn a0 H K) h)

/-! loop.example/g01381/laws.szInt64S: function 48 -/
def F.laws_szInt64S (a0 a1 : Value) (H : Hp) (K : Value → Hp → Prop) : Prop :=
  ob (vLenSl a0) fun v7x1 =>
  ob (vInt .sub a1 v7x1) fun v8x2 =>
  ob (vInt .lss v8x2 (.int .i64 0)) fun v10x3 =>
  cnd v10x3
    (K (.int .i64 (-1)) H)
    (K v8x2 H)
def O.laws_szInt64S : Nat → Nat × List Nat := fun i => (0, [])
theorem R.laws_szInt64S {a0 a1 : Value} {H : Hp} {K : Value → Hp → Prop} (h : F.laws_szInt64S a0 a1 H K) : HT prg I.laws_szInt64S [a0, a1].toArray H K :=
  HT_of_fev O.laws_szInt64S mixed Try.func48 (by kernel_rfl) (Eq.mpr (by kernel_rfl : fev prg O.laws_szInt64S Try.f48 [a0, a1] H K = F.laws_szInt64S a0 a1 H K) h)

/-! loop.example/g01381/laws.szField: function 19 -/
def F.laws_szField (a0 a1 : Value) (H : Hp) (K : Value → Hp → Prop) : Prop :=
  nw (a0 : Value).cells 32 H fun v2x1 H2 =>
  ob (vFa 2 v2x1) fun v5x3 =>
  ob (vLoad v5x3 H2) fun v6x4 =>
  HT prg I.laws_szInt64S [v6x4, a1].toArray H2 fun v8x5 H6 =>
  ob (vInt .lss v8x5 (.int .i64 0)) fun v10x7 =>
  cnd v10x7
    (K (.int .i64 (-1)) H6)
    (K v8x5 H6)
def O.laws_szField : Nat → Nat × List Nat := fun i => (0, [])
theorem R.laws_szField {a0 a1 : Value} {H : Hp} {K : Value → Hp → Prop} (h : F.laws_szField a0 a1 H K) : HT prg I.laws_szField [a0, a1].toArray H K :=
  HT_of_fev O.laws_szField mixed Try.func19 (by kernel_rfl) (Eq.mpr (by kernel_rfl : fev prg O.laws_szField Try.f19 [a0, a1] H K = F.laws_szField a0 a1 H K) h)

/-! loop.example/g01381/spec.l04Is: function 73 -/
def F.spec_l04Is (a0 : Value) (H : Hp) (K : Value → Hp → Prop) : Prop :=
  ob (vNilC a0) fun v5x1 =>
  ob (vFa 0 v5x1) fun v6x2 =>
  ob (vLoad v6x2 H) fun v7x3 =>
  HT prg I.spec_l00In [v7x3, (.int .i64 1), (.int .i64 24)].toArray H fun v8x4 H5 =>
  Le H H5 ∧ (ob (vUn .not v8x4) fun v9x6 =>
  gop v9x6 false (fun K7 => K7 a0 H5) H5 fun v11x8 H9 =>
  gop v9x6 false (fun K10 => ob (vNilC v11x8) fun u => K10 u H9) H9 fun v12x11 H12 =>
  gop v9x6 false (fun K13 => ob (vFa 1 v12x11) fun u => K13 u H12) H12 fun v13x14 H15 =>
  gop v9x6 false (fun K16 => ob (vLoad v13x14 H15) fun u => K16 u H15) H15 fun v14x17 H18 =>
  gop v9x6 false (fun K19 => HT prg I.spec_l00In [v14x17, (.int .i64 1), (.int .i64 24)].toArray H18 fun v15x20 H21 =>
  Le H18 H21 ∧ K19 v15x20 H21) H18 fun v15x22 H23 =>
  gop v9x6 false (fun K24 => ob (vUn .not v15x22) fun u => K24 u H23) H23 fun v16x25 H26 =>
  ob (vPick v9x6 (.bool true) v16x25) fun v17x27 =>
  gop v17x27 false (fun K28 => K28 a0 H26) H26 fun v19x29 H30 =>
  gop v17x27 false (fun K31 => ob (vNilC v19x29) fun u => K31 u H30) H30 fun v20x32 H33 =>
  gop v17x27 false (fun K34 => ob (vFa 2 v20x32) fun u => K34 u H33) H33 fun v21x35 H36 =>
  gop v17x27 false (fun K37 => ob (vLoad v21x35 H36) fun u => K37 u H36) H36 fun v22x38 H39 =>
  gop v17x27 false (fun K40 => ob (vLenSl v22x38) fun u => K40 u H39) H39 fun v23x41 H42 =>
  gop v17x27 false (fun K43 => K43 a0 H42) H42 fun v24x44 H45 =>
  gop v17x27 false (fun K46 => ob (vNilC v24x44) fun u => K46 u H45) H45 fun v25x47 H48 =>
  gop v17x27 false (fun K49 => ob (vFa 0 v25x47) fun u => K49 u H48) H48 fun v26x50 H51 =>
  gop v17x27 false (fun K52 => ob (vLoad v26x50 H51) fun u => K52 u H51) H51 fun v27x53 H54 =>
  gop v17x27 false (fun K55 => K55 a0 H54) H54 fun v28x56 H57 =>
  gop v17x27 false (fun K58 => ob (vNilC v28x56) fun u => K58 u H57) H57 fun v29x59 H60 =>
  gop v17x27 false (fun K61 => ob (vFa 1 v29x59) fun u => K61 u H60) H60 fun v30x62 H63 =>
  gop v17x27 false (fun K64 => ob (vLoad v30x62 H63) fun u => K64 u H63) H63 fun v31x65 H66 =>
  gop v17x27 false (fun K67 => ob (vInt .mul v27x53 v31x65) fun u => K67 u H66) H66 fun v32x68 H69 =>
  gop v17x27 false (fun K70 => ob (vInt .neq v23x41 v32x68) fun u => K70 u H69) H69 fun v33x71 H72 =>
  ob (vPick v17x27 (.bool true) v33x71) fun v34x73 =>
  cnd v34x73
    (K (.bool false) H72)
    (jn (fun σ74 H74 =>
    K (.bool true) H74) fun J74 =>
  lpE (fun Q75 σ75 H75 =>
    ob (vNilC (σ75 0)) fun v37x76 =>
    ob (vFa 2 v37x76) fun v38x77 =>
    ob (vLoad v38x77 H75) fun v39x78 =>
    ob (vLenSl v39x78) fun v40x79 =>
    ob (vInt .lss (σ75 3) v40x79) fun v41x80 =>
    cnd v41x80
      (ob (vNilC (σ75 0)) fun v45x81 =>
    ob (vFa 2 v45x81) fun v46x82 =>
    ob (vLoad v46x82 H75) fun v47x83 =>
    ob (vIx 1 v47x83 (σ75 3)) fun v49x84 =>
    ob (vLoad v49x84 H75) fun v50x85 =>
    HT prg I.spec_l00In [v50x85, (.int .i64 0), (.int .i64 9)].toArray H75 fun v51x86 H87 =>
    ob (vUn .not v51x86) fun v52x88 =>
    cnd v52x88
      (Q75 .ret (up (up (up (up (up (up (up (up (up (up (up (up (up (up (up (up (up σ75 35 (σ75 3)) 36 (σ75 0)) 37 v37x76) 38 v38x77) 39 v39x78) 40 v40x79) 41 v41x80) 44 (σ75 0)) 45 v45x81) 46 v46x82) 47 v47x83) 48 (σ75 3)) 49 v49x84) 50 v50x85) 51 v51x86) 52 v52x88) 2 (.bool false)) H87)
      (ob (vInt .add (σ75 3) (.int .i64 1)) fun v43x89 =>
    Q75 .normal (up (up (up (up (up (up (up (up (up (up (up (up (up (up (up (up (up (up (up σ75 35 (σ75 3)) 36 (σ75 0)) 37 v37x76) 38 v38x77) 39 v39x78) 40 v40x79) 41 v41x80) 44 (σ75 0)) 45 v45x81) 46 v46x82) 47 v47x83) 48 (σ75 3)) 49 v49x84) 50 v50x85) 51 v51x86) 52 v52x88) 42 (σ75 3)) 43 v43x89) 3 v43x89) H87))
      (Q75 (.exit 0) (up (up (up (up (up (up (up σ75 35 (σ75 3)) 36 (σ75 0)) 37 v37x76) 38 v38x77) 39 v39x78) 40 v40x79) 41 v41x80) H75)) (blkQ 0 (thenQ J74 (retQ prg [(.tmp 2)] K))) (up (up (up (up (up (up (up (up (up (up (up (up (up (up (up (up (up (up (up (up (up (up (up (up (up (up (up (up (up (up (up (up (up (S0 [a0]) 2 (.bool false)) 4 a0) 5 v5x1) 6 v6x2) 7 v7x3) 8 v8x4) 9 v9x6) 10 v9x6) 11 v11x8) 12 v12x11) 13 v13x14) 14 v14x17) 15 v15x22) 16 v16x25) 17 v17x27) 18 v17x27) 19 v19x29) 20 v20x32) 21 v21x35) 22 v22x38) 23 v23x41) 24 v24x44) 25 v25x47) 26 v26x50) 27 v27x53) 28 v28x56) 29 v29x59) 30 v30x62) 31 v31x65) 32 v32x68) 33 v33x71) 34 v34x73) 3 (.int .i64 0)) H72))
def O.spec_l04Is : Nat → Nat × List Nat := fun i => bif Nat.beq i 1 then (0, [0, 1, 2, 3, 4, 5, 6, 7, 8, 9, 10, 11, 12, 13, 14, 15, 16, 17, 18, 19, 20, 21, 22, 23, 24, 25, 26, 27, 28, 29, 30]) else (0, [])
theorem R.spec_l04Is {a0 : Value} {H : Hp} {K : Value → Hp → Prop} (h : F.spec_l04Is a0 H K) : HT prg I.spec_l04Is [a0].toArray H K :=
  HT_of_fev O.spec_l04Is mixed Try.func73 (by kernel_rfl) (Eq.mpr (by kernel_rfl : fev prg O.spec_l04Is Try.f73 [a0] H K = F.spec_l04Is a0 H K) h)

/-! loop.example/g01381/spec.l04Plain: function 49 -/
def F.spec_l04Plain (a0 : Value) (H : Hp) (K : Value → Hp → Prop) : Prop :=
  HT prg I.spec_l04Is [a0].toArray H fun v5x1 H2 =>
  ob (vUn .not v5x1) fun v6x3 =>
  cnd v6x3
    (K (.bool false) H2)
    (jn (fun σ4 H4 =>
    K (.bool true) H4) fun J4 =>
  lpE (fun Q5 σ5 H5 =>
    ob (vNilC (σ5 0)) fun v9x6 =>
    ob (vFa 2 v9x6) fun v10x7 =>
    ob (vLoad v10x7 H5) fun v11x8 =>
    ob (vLenSl v11x8) fun v12x9 =>
    ob (vInt .lss (σ5 3) v12x9) fun v13x10 =>
    cnd v13x10
      (ob (vNilC (σ5 0)) fun v17x11 =>
    ob (vFa 2 v17x11) fun v18x12 =>
    ob (vLoad v18x12 H5) fun v19x13 =>
    ob (vIx 1 v19x13 (σ5 3)) fun v21x14 =>
    ob (vLoad v21x14 H5) fun v22x15 =>
    ob (vInt .gtr v22x15 (.int .i64 1)) fun v23x16 =>
    cnd v23x16
      (Q5 .ret (up (up (up (up (up (up (up (up (up (up (up (up (up (up (up (up σ5 7 (σ5 3)) 8 (σ5 0)) 9 v9x6) 10 v10x7) 11 v11x8) 12 v12x9) 13 v13x10) 16 (σ5 0)) 17 v17x11) 18 v18x12) 19 v19x13) 20 (σ5 3)) 21 v21x14) 22 v22x15) 23 v23x16) 2 (.bool false)) H5)
      (ob (vInt .add (σ5 3) (.int .i64 1)) fun v15x17 =>
    Q5 .normal (up (up (up (up (up (up (up (up (up (up (up (up (up (up (up (up (up (up σ5 7 (σ5 3)) 8 (σ5 0)) 9 v9x6) 10 v10x7) 11 v11x8) 12 v12x9) 13 v13x10) 16 (σ5 0)) 17 v17x11) 18 v18x12) 19 v19x13) 20 (σ5 3)) 21 v21x14) 22 v22x15) 23 v23x16) 14 (σ5 3)) 15 v15x17) 3 v15x17) H5))
      (Q5 (.exit 0) (up (up (up (up (up (up (up σ5 7 (σ5 3)) 8 (σ5 0)) 9 v9x6) 10 v10x7) 11 v11x8) 12 v12x9) 13 v13x10) H5)) (blkQ 0 (thenQ J4 (retQ prg [(.tmp 2)] K))) (up (up (up (up (up (S0 [a0]) 2 (.bool false)) 4 a0) 5 v5x1) 6 v6x3) 3 (.int .i64 0)) H2)
def O.spec_l04Plain : Nat → Nat × List Nat := fun i => (0, [])
theorem R.spec_l04Plain {a0 : Value} {H : Hp} {K : Value → Hp → Prop} (h : F.spec_l04Plain a0 H K) : HT prg I.spec_l04Plain [a0].toArray H K :=
  HT_of_fev O.spec_l04Plain mixed Try.func49 (by kernel_rfl) (Eq.mpr (by kernel_rfl : fev prg O.spec_l04Plain Try.f49 [a0] H K = F.spec_l04Plain a0 H K) h)

/-! loop.example/g01381/spec.l04Round: function 74 -/
def F.spec_l04Round (a0 a1 a2 : Value) (H : Hp) (K : Value → Hp → Prop) : Prop :=
  ob (vNilC a0) fun v11x1 =>
  ob (vFa 0 v11x1) fun v12x2 =>
  ob (vLoad v12x2 H) fun v13x3 =>
  ob (vInt .rem a1 v13x3) fun v14x4 =>
  ob (vNilC a0) fun v16x5 =>
  ob (vFa 0 v16x5) fun v17x6 =>
  ob (vLoad v17x6 H) fun v18x7 =>
  ob (vInt .add v14x4 v18x7) fun v19x8 =>
  ob (vNilC a0) fun v21x9 =>
  ob (vFa 0 v21x9) fun v22x10 =>
  ob (vLoad v22x10 H) fun v23x11 =>
  ob (vInt .rem v19x8 v23x11) fun v24x12 =>
  ob (vNilC a0) fun v27x13 =>
  ob (vFa 1 v27x13) fun v28x14 =>
  ob (vLoad v28x14 H) fun v29x15 =>
  ob (vInt .rem a2 v29x15) fun v30x16 =>
  ob (vNilC a0) fun v32x17 =>
  ob (vFa 1 v32x17) fun v33x18 =>
  ob (vLoad v33x18 H) fun v34x19 =>
  ob (vInt .add v30x16 v34x19) fun v35x20 =>
  ob (vNilC a0) fun v37x21 =>
  ob (vFa 1 v37x21) fun v38x22 =>
  ob (vLoad v38x22 H) fun v39x23 =>
  ob (vInt .rem v35x20 v39x23) fun v40x24 =>
  ob (vNilC a0) fun v43x25 =>
  ob (vFa 1 v43x25) fun v44x26 =>
  ob (vLoad v44x26 H) fun v45x27 =>
  ob (vInt .mul v24x12 v45x27) fun v46x28 =>
  ob (vInt .add v46x28 v40x24) fun v48x29 =>
  K v48x29 H
def O.spec_l04Round : Nat → Nat × List Nat := fun i => bif Nat.beq i 1 then (0, [0, 1, 2, 3, 4, 5, 6, 7, 8, 9, 10, 11, 12, 13, 14, 15, 16]) else bif Nat.beq i 2 then (0, [0, 1, 2, 3, 4, 5, 6, 7, 8, 9, 10, 11, 12, 13, 14, 15, 16]) else (0, [])
theorem R.spec_l04Round {a0 a1 a2 : Value} {H : Hp} {K : Value → Hp → Prop} (h : F.spec_l04Round a0 a1 a2 H K) : HT prg I.spec_l04Round [a0, a1, a2].toArray H K :=
  HT_of_fev O.spec_l04Round mixed Try.func74 (by kernel_rfl) (Eq.mpr (by kernel_rfl : fev prg O.spec_l04Round Try.f74 [a0, a1, a2] H K = F.spec_l04Round a0 a1 a2 H K) h)

/-! loop.example/g01381/spec.l06Spin: function 50 -/
def F.spec_l06Spin (a0 a1 a2 : Value) (H : Hp) (K : Value → Hp → Prop) : Prop :=
  ob (vNilC a0) fun v8x1 =>
  ob (vFa 2 v8x1) fun v9x2 =>
  ob (vLoad v9x2 H) fun v10x3 =>
  HT prg I.spec_l04Round [a0, a1, a2].toArray H fun v14x4 H5 =>
  Le H H5 ∧ (ob (vIx 1 v10x3 v14x4) fun v15x6 =>
  ob (vLoad v15x6 H5) fun v16x7 =>
  ob (vInt .mul (.int .i64 2) v16x7) fun v17x8 =>
  ob (vInt .sub v17x8 (.int .i64 1)) fun v18x9 =>
  K v18x9 H5)
def O.spec_l06Spin : Nat → Nat × List Nat := fun i => bif Nat.beq i 1 then (0, [0, 1, 2, 3, 4, 5, 6, 7, 8, 9, 10, 11, 12]) else (0, [])
theorem R.spec_l06Spin {a0 a1 a2 : Value} {H : Hp} {K : Value → Hp → Prop} (h : F.spec_l06Spin a0 a1 a2 H K) : HT prg I.spec_l06Spin [a0, a1, a2].toArray H K :=
  HT_of_fev O.spec_l06Spin mixed Try.func50 (by kernel_rfl) (Eq.mpr (by kernel_rfl : fev prg O.spec_l06Spin Try.f50 [a0, a1, a2] H K = F.spec_l06Spin a0 a1 a2 H K) h)

/-! loop.example/g01381/spec.EnergyOf: function 20 -/
def F.spec_EnergyOf (a0 : Value) (H : Hp) (K : Value → Hp → Prop) : Prop :=
  nw (a0 : Value).cells 36 H fun v1x1 H2 =>
  HT prg I.spec_l04Plain [v1x1].toArray H2 fun v7x3 H4 =>
  ob (vUn .not v7x3) fun v8x5 =>
  cnd v8x5
    (K (.tuple #[(.int .i64 0), (.bool false)]) H4)
    (jn (fun σ6 H6 =>
    K (.tuple #[(σ6 4), (.bool true)]) H6) fun J6 =>
  lpE (fun Q7 σ7 H7 =>
    ob (vFa 0 (σ7 1)) fun v10x8 =>
    ob (vLoad v10x8 H7) fun v11x9 =>
    ob (vInt .lss (σ7 5) v11x9) fun v12x10 =>
    cnd v12x10
      (jn (fun σ11 H11 =>
      ob (vInt .add (σ11 5) (.int .i64 1)) fun v14x12 =>
      Q7 .normal (up (up (up σ11 13 (σ11 5)) 14 v14x12) 5 v14x12) H11) fun J11 =>
    lpE (fun Q13 σ13 H13 =>
      ob (vFa 1 (σ13 1)) fun v16x14 =>
      ob (vLoad v16x14 H13) fun v17x15 =>
      ob (vInt .lss (σ13 6) v17x15) fun v18x16 =>
      cnd v18x16
        (HT prg I.spec_l06Spin [(σ13 1), (σ13 5), (σ13 6)].toArray H13 fun v24x17 H18 =>
      ob (vInt .add (σ13 6) (.int .i64 1)) fun v27x19 =>
      HT prg I.spec_l06Spin [(σ13 1), (σ13 5), v27x19].toArray H18 fun v28x20 H21 =>
      ob (vInt .add (σ13 5) (.int .i64 1)) fun v30x22 =>
      HT prg I.spec_l06Spin [(σ13 1), v30x22, (σ13 6)].toArray H21 fun v32x23 H24 =>
      ob (vInt .add v28x20 v32x23) fun v33x25 =>
      ob (vInt .mul v24x17 v33x25) fun v34x26 =>
      ob (vInt .sub (σ13 4) v34x26) fun v35x27 =>
      ob (vInt .add (σ13 6) (.int .i64 1)) fun v20x28 =>
      Q13 .normal (up (up (up (up (up (up (up (up (up (up (up (up (up (up (up (up (up (up (up (up (up (up (up σ13 15 (σ13 6)) 16 v16x14) 17 v17x15) 18 v18x16) 21 (σ13 4)) 22 (σ13 5)) 23 (σ13 6)) 24 v24x17) 25 (σ13 5)) 26 (σ13 6)) 27 v27x19) 28 v28x20) 29 (σ13 5)) 30 v30x22) 31 (σ13 6)) 32 v32x23) 33 v33x25) 34 v34x26) 35 v35x27) 4 v35x27) 19 (σ13 6)) 20 v20x28) 6 v20x28) H24)
        (Q13 (.exit 2) (up (up (up (up σ13 15 (σ13 6)) 16 v16x14) 17 v17x15) 18 v18x16) H13)) (blkQ 2 (blkQ 1 (thenQ J11 Q7))) (up (up (up (up (up σ7 9 (σ7 5)) 10 v10x8) 11 v11x9) 12 v12x10) 6 (.int .i64 0)) H7)
      (Q7 (.exit 0) (up (up (up (up σ7 9 (σ7 5)) 10 v10x8) 11 v11x9) 12 v12x10) H7)) (blkQ 0 (thenQ J6 (retQ prg [(.tmp 2), (.tmp 3)] K))) (up (up (up (up (up (up (up (S0 [a0]) 1 v1x1) 2 (.int .i64 0)) 3 (.bool false)) 7 v7x3) 8 v8x5) 4 (.int .i64 0)) 5 (.int .i64 0)) H4)
def O.spec_EnergyOf : Nat → Nat × List Nat := fun i => (0, [])
theorem R.spec_EnergyOf {a0 : Value} {H : Hp} {K : Value → Hp → Prop} (h : F.spec_EnergyOf a0 H K) : HT prg I.spec_EnergyOf [a0].toArray H K :=
  HT_of_fev O.spec_EnergyOf mixed Try.func20 (by kernel_rfl) (Eq.mpr (by kernel_rfl : fev prg O.spec_EnergyOf Try.f20 [a0] H K = F.spec_EnergyOf a0 H K) h)

/-! loop.example/g01381/laws.toField: function 21 -/
def F.laws_toField (a0 : Value) (H : Hp) (K : Value → Hp → Prop) : Prop :=
  nw (a0 : Value).cells 32 H fun v1x1 H2 =>
  nw #[(.int .i64 0), (.int .i64 0), (.slice none 0 0)] 36 H2 fun v2x3 H4 =>
  nw #[(.int .i64 0), (.int .i64 0), (.slice none 0 0)] 36 H4 fun v3x5 H6 =>
  ob (vFa 0 v1x1) fun v4x7 =>
  ob (vLoad v4x7 H6) fun v5x8 =>
  ob (vFa 0 v3x5) fun v6x9 =>
  st 1 v6x9 v5x8 H6 fun H10 =>
  ob (vFa 1 v1x1) fun v7x11 =>
  ob (vLoad v7x11 H10) fun v8x12 =>
  ob (vFa 1 v3x5) fun v9x13 =>
  st 1 v9x13 v8x12 H10 fun H14 =>
  ob (vFa 2 v1x1) fun v10x15 =>
  ob (vLoad v10x15 H14) fun v11x16 =>
  HT prg I.laws_toInt64S [v11x16].toArray H14 fun v12x17 H18 =>
  ob (vFa 2 v3x5) fun v13x19 =>
  st 1 v13x19 v12x17 H18 fun H20 =>
  ob (vLoadN 3 v3x5 H20) fun v14x21 =>
  st 3 v2x3 v14x21 H20 fun H22 =>
  ob (vLoadN 3 v2x3 H22) fun u23 => K u23 H22
def O.laws_toField : Nat → Nat × List Nat := fun i => (0, [])
theorem R.laws_toField {a0 : Value} {H : Hp} {K : Value → Hp → Prop} (h : F.laws_toField a0 H K) : HT prg I.laws_toField [a0].toArray H K :=
  HT_of_fev O.laws_toField mixed Try.func21 (by kernel_rfl) (Eq.mpr (by kernel_rfl : fev prg O.laws_toField Try.f21 [a0] H K = F.laws_toField a0 H K) h)

/-! loop.example/g01381/impl.isSide: function 55 -/
def F.impl_isSide (a0 : Value) (H : Hp) (K : Value → Hp → Prop) : Prop :=
  HT prg I.impl_within [a0, (.int .i64 1), (.int .i64 24)].toArray H fun v4x1 H2 =>
  K v4x1 H2
def O.impl_isSide : Nat → Nat × List Nat := fun i => (0, [])
theorem R.impl_isSide {a0 : Value} {H : Hp} {K : Value → Hp → Prop} (h : F.impl_isSide a0 H K) : HT prg I.impl_isSide [a0].toArray H K :=
  HT_of_fev O.impl_isSide mixed Try.func55 (by kernel_rfl) (Eq.mpr (by kernel_rfl : fev prg O.impl_isSide Try.f55 [a0] H K = F.impl_isSide a0 H K) h)

/-! loop.example/g01381/impl.ValidField: function 75 -/
def F.impl_ValidField (a0 : Value) (H : Hp) (K : Value → Hp → Prop) : Prop :=
  nw (a0 : Value).cells 36 H fun v1x1 H2 =>
  ob (vFa 0 v1x1) fun v4x3 =>
  ob (vLoad v4x3 H2) fun v5x4 =>
  ob (vFa 1 v1x1) fun v6x5 =>
  ob (vLoad v6x5 H2) fun v7x6 =>
  ob (vInt .mul v5x4 v7x6) fun v8x7 =>
  ob (vFa 0 v1x1) fun v9x8 =>
  ob (vLoad v9x8 H2) fun v10x9 =>
  HT prg I.impl_isSide [v10x9].toArray H2 fun v11x10 H11 =>
  gop v11x10 true (fun K12 => ob (vFa 1 v1x1) fun u => K12 u H11) H11 fun v13x13 H14 =>
  gop v11x10 true (fun K15 => ob (vLoad v13x13 H14) fun u => K15 u H14) H14 fun v14x16 H17 =>
  gop v11x10 true (fun K18 => HT prg I.impl_isSide [v14x16].toArray H17 K18) H17 fun v15x19 H20 =>
  ob (vPick v11x10 v15x19 (.bool false)) fun v16x21 =>
  gop v16x21 true (fun K22 => ob (vFa 2 v1x1) fun u => K22 u H20) H20 fun v18x23 H24 =>
  gop v16x21 true (fun K25 => ob (vLoad v18x23 H24) fun u => K25 u H24) H24 fun v19x26 H27 =>
  gop v16x21 true (fun K28 => K28 v8x7 H27) H27 fun v20x29 H30 =>
  gop v16x21 true (fun K31 => K31 v8x7 H30) H30 fun v21x32 H33 =>
  gop v16x21 true (fun K34 => HT prg I.impl_areMany [v19x26, v20x29, v21x32, (.int .i64 0), (.int .i64 9)].toArray H33 K34) H33 fun v22x35 H36 =>
  ob (vPick v16x21 v22x35 (.bool false)) fun v23x37 =>
  K v23x37 H36
def O.impl_ValidField : Nat → Nat × List Nat := fun i => (0, [])
theorem R.impl_ValidField {a0 : Value} {H : Hp} {K : Value → Hp → Prop} (h : F.impl_ValidField a0 H K) : HT prg I.impl_ValidField [a0].toArray H K :=
  HT_of_fev O.impl_ValidField mixed Try.func75 (by kernel_rfl) (Eq.mpr (by kernel_rfl : fev prg O.impl_ValidField Try.f75 [a0] H K = F.impl_ValidField a0 H K) h)

/-! loop.example/g01381/impl.isPlain: function 51 -/
def F.impl_isPlain (a0 : Value) (H : Hp) (K : Value → Hp → Prop) : Prop :=
  nw (a0 : Value).cells 36 H fun v1x1 H2 =>
  ob (vLoadN 3 v1x1 H2) fun v3x3 =>
  HT prg I.impl_ValidField [v3x3].toArray H2 fun v4x4 H5 =>
  gop v4x4 true (fun K6 => ob (vFa 2 v1x1) fun u => K6 u H5) H5 fun v6x7 H8 =>
  gop v4x4 true (fun K9 => ob (vLoad v6x7 H8) fun u => K9 u H8) H8 fun v7x10 H11 =>
  gop v4x4 true (fun K12 => HT prg I.impl_areWithin [v7x10, (.int .i64 0), (.int .i64 1)].toArray H11 K12) H11 fun v8x13 H14 =>
  ob (vPick v4x4 v8x13 (.bool false)) fun v9x15 =>
  K v9x15 H14
def O.impl_isPlain : Nat → Nat × List Nat := fun i => (0, [])
theorem R.impl_isPlain {a0 : Value} {H : Hp} {K : Value → Hp → Prop} (h : F.impl_isPlain a0 H K) : HT prg I.impl_isPlain [a0].toArray H K :=
  HT_of_fev O.impl_isPlain mixed Try.func51 (by kernel_rfl) (Eq.mpr (by kernel_rfl : fev prg O.impl_isPlain Try.f51 [a0] H K = F.impl_isPlain a0 H K) h)

/-! (loop.example/g01381/impl.Field).at: function 78 -/
def F.impl_Field_at (a0 a1 a2 : Value) (H : Hp) (K : Value → Hp → Prop) : Prop :=
  nw (a0 : Value).cells 36 H fun v3x1 H2 =>
  ob (vFa 2 v3x1) fun v7x3 =>
  ob (vLoad v7x3 H2) fun v8x4 =>
  ob (vFa 1 v3x1) fun v10x5 =>
  ob (vLoad v10x5 H2) fun v11x6 =>
  ob (vInt .mul a1 v11x6) fun v12x7 =>
  ob (vInt .add v12x7 a2) fun v14x8 =>
  ob (vIx 1 v8x4 v14x8) fun v15x9 =>
  ob (vLoad v15x9 H2) fun v16x10 =>
  K v16x10 H2
def O.impl_Field_at : Nat → Nat × List Nat := fun i => (0, [])
theorem R.impl_Field_at {a0 a1 a2 : Value} {H : Hp} {K : Value → Hp → Prop} (h : F.impl_Field_at a0 a1 a2 H K) : HT prg I.impl_Field_at [a0, a1, a2].toArray H K :=
  HT_of_fev O.impl_Field_at mixed Try.func78 (by kernel_rfl) (Eq.mpr (by kernel_rfl : fev prg O.impl_Field_at Try.f78 [a0, a1, a2] H K = F.impl_Field_at a0 a1 a2 H K) h)

/-! loop.example/g01381/impl.floorMod: function 79 -/
def F.impl_floorMod (a0 a1 : Value) (H : Hp) (K : Value → Hp → Prop) : Prop :=
  ob (vInt .rem a0 a1) fun v7x1 =>
  ob (vInt .add v7x1 a1) fun v9x2 =>
  ob (vInt .rem v9x2 a1) fun v11x3 =>
  K v11x3 H
def O.impl_floorMod : Nat → Nat × List Nat := fun i => (0, [])
theorem R.impl_floorMod {a0 a1 : Value} {H : Hp} {K : Value → Hp → Prop} (h : F.impl_floorMod a0 a1 H K) : HT prg I.impl_floorMod [a0, a1].toArray H K :=
  HT_of_fev O.impl_floorMod mixed Try.func79 (by kernel_rfl) (Eq.mpr (by kernel_rfl : fev prg O.impl_floorMod Try.f79 [a0, a1] H K = F.impl_floorMod a0 a1 H K) h)

/-! (loop.example/g01381/impl.Field).has: function 80 -/
def F.impl_Field_has (a0 a1 a2 : Value) (H : Hp) (K : Value → Hp → Prop) : Prop :=
  nw (a0 : Value).cells 36 H fun v3x1 H2 =>
  ob (vFa 0 v3x1) fun v8x3 =>
  ob (vLoad v8x3 H2) fun v9x4 =>
  ob (vInt .sub v9x4 (.int .i64 1)) fun v10x5 =>
  HT prg I.impl_within [a1, (.int .i64 0), v10x5].toArray H2 fun v11x6 H7 =>
  gop v11x6 true (fun K8 => K8 a2 H7) H7 fun v13x9 H10 =>
  gop v11x6 true (fun K11 => ob (vFa 1 v3x1) fun u => K11 u H10) H10 fun v14x12 H13 =>
  gop v11x6 true (fun K14 => ob (vLoad v14x12 H13) fun u => K14 u H13) H13 fun v15x15 H16 =>
  gop v11x6 true (fun K17 => ob (vInt .sub v15x15 (.int .i64 1)) fun u => K17 u H16) H16 fun v16x18 H19 =>
  gop v11x6 true (fun K20 => HT prg I.impl_within [v13x9, (.int .i64 0), v16x18].toArray H19 K20) H19 fun v17x21 H22 =>
  ob (vPick v11x6 v17x21 (.bool false)) fun v18x23 =>
  K v18x23 H22
def O.impl_Field_has : Nat → Nat × List Nat := fun i => (0, [])
theorem R.impl_Field_has {a0 a1 a2 : Value} {H : Hp} {K : Value → Hp → Prop} (h : F.impl_Field_has a0 a1 a2 H K) : HT prg I.impl_Field_has [a0, a1, a2].toArray H K :=
  HT_of_fev O.impl_Field_has mixed Try.func80 (by kernel_rfl) (Eq.mpr (by kernel_rfl : fev prg O.impl_Field_has Try.f80 [a0, a1, a2] H K = F.impl_Field_has a0 a1 a2 H K) h)

/-! (loop.example/g01381/impl.Field).look: function 58 -/
def F.impl_Field_look (a0 a1 a2 a3 : Value) (H : Hp) (K : Value → Hp → Prop) : Prop :=
  nw (a0 : Value).cells 36 H fun v4x1 H2 =>
  cnd a3
    (ob (vLoadN 3 v4x1 H2) fun v10x3 =>
    ob (vFa 0 v4x1) fun v12x4 =>
    ob (vLoad v12x4 H2) fun v13x5 =>
    ob (vFa 1 v4x1) fun v16x6 =>
    ob (vLoad v16x6 H2) fun v17x7 =>
    HT prg I.impl_floorMod [a1, v13x5].toArray H2 fun v14x8 H9 =>
    Le H2 H9 ∧ (HT prg I.impl_floorMod [a2, v17x7].toArray H9 fun v18x10 H11 =>
    Le H9 H11 ∧ (HT prg I.impl_Field_at [v10x3, v14x8, v18x10].toArray H11 fun v19x12 H13 =>
    Le H11 H13 ∧ (K v19x12 H13))))
    (ob (vLoadN 3 v4x1 H2) fun v20x14 =>
  HT prg I.impl_Field_has [v20x14, a1, a2].toArray H2 fun v23x15 H16 =>
  ob (vUn .not v23x15) fun v24x17 =>
  cnd v24x17
    (K (.int .i64 0) H16)
    (ob (vLoadN 3 v4x1 H16) fun v25x18 =>
  HT prg I.impl_Field_at [v25x18, a1, a2].toArray H16 fun v28x19 H20 =>
  K v28x19 H20))
def O.impl_Field_look : Nat → Nat × List Nat := fun i => bif Nat.beq i 2 then (0, [0, 1, 2, 3, 5, 6, 7, 4, 8, 9, 10]) else (0, [])
theorem R.impl_Field_look {a0 a1 a2 a3 : Value} {H : Hp} {K : Value → Hp → Prop} (h : F.impl_Field_look a0 a1 a2 a3 H K) : HT prg I.impl_Field_look [a0, a1, a2, a3].toArray H K :=
  HT_of_fev O.impl_Field_look mixed Try.func58 (by kernel_rfl) (Eq.mpr (by kernel_rfl : fev prg O.impl_Field_look Try.f58 [a0, a1, a2, a3] H K = F.impl_Field_look a0 a1 a2 a3 H K) h)

/-! (loop.example/g01381/impl.Field).spin: function 52 -/
def F.impl_Field_spin (a0 a1 a2 : Value) (H : Hp) (K : Value → Hp → Prop) : Prop :=
  nw (a0 : Value).cells 36 H fun v3x1 H2 =>
  ob (vLoadN 3 v3x1 H2) fun v7x3 =>
  HT prg I.impl_Field_look [v7x3, a1, a2, (.bool true)].toArray H2 fun v10x4 H5 =>
  ob (vInt .mul (.int .i64 2) v10x4) fun v11x6 =>
  ob (vInt .sub v11x6 (.int .i64 1)) fun v12x7 =>
  K v12x7 H5
def O.impl_Field_spin : Nat → Nat × List Nat := fun i => (0, [])
theorem R.impl_Field_spin {a0 a1 a2 : Value} {H : Hp} {K : Value → Hp → Prop} (h : F.impl_Field_spin a0 a1 a2 H K) : HT prg I.impl_Field_spin [a0, a1, a2].toArray H K :=
  HT_of_fev O.impl_Field_spin mixed Try.func52 (by kernel_rfl) (Eq.mpr (by kernel_rfl : fev prg O.impl_Field_spin Try.f52 [a0, a1, a2] H K = F.impl_Field_spin a0 a1 a2 H K) h)

/-! loop.example/g01381/impl.EnergyOf: function 22 -/
def F.impl_EnergyOf (a0 : Value) (H : Hp) (K : Value → Hp → Prop) : Prop :=
  nw (a0 : Value).cells 36 H fun v1x1 H2 =>
  ob (vLoadN 3 v1x1 H2) fun v7x3 =>
  HT prg I.impl_isPlain [v7x3].toArray H2 fun v8x4 H5 =>
  ob (vUn .not v8x4) fun v9x6 =>
  cnd v9x6
    (K (.tuple #[(.int .i64 0), (.bool false)]) H5)
    (jn (fun σ7 H7 =>
    K (.tuple #[(σ7 4), (.bool true)]) H7) fun J7 =>
  ob (vFa 0 v1x1) fun v10x8 =>
  ob (vLoad v10x8 H5) fun v11x9 =>
  lpE (fun Q10 σ10 H10 =>
    ob (vInt .lss (σ10 12) (σ10 11)) fun v13x11 =>
    cnd v13x11
      (jn (fun σ12 H12 =>
      ob (vInt .add (σ12 12) (.int .i64 1)) fun v39x13 =>
      Q10 .normal (up (up σ12 39 v39x13) 12 v39x13) H12) fun J12 =>
    ob (vFa 1 (σ10 1)) fun v15x14 =>
    ob (vLoad v15x14 H10) fun v16x15 =>
    lpE (fun Q16 σ16 H16 =>
      ob (vInt .lss (σ16 17) (σ16 16)) fun v18x17 =>
      cnd v18x17
        (ob (vLoadN 3 (σ16 1) H16) fun v21x18 =>
      ob (vLoadN 3 (σ16 1) H16) fun v25x19 =>
      ob (vInt .add (σ16 17) (.int .i64 1)) fun v28x20 =>
      ob (vLoadN 3 (σ16 1) H16) fun v30x21 =>
      ob (vInt .add (σ16 5) (.int .i64 1)) fun v32x22 =>
      HT prg I.impl_Field_spin [v21x18, (σ16 5), (σ16 17)].toArray H16 fun v24x23 H24 =>
      Le H16 H24 ∧ (HT prg I.impl_Field_spin [v25x19, (σ16 5), v28x20].toArray H24 fun v29x25 H26 =>
      Le H24 H26 ∧ (HT prg I.impl_Field_spin [v30x21, v32x22, (σ16 17)].toArray H26 fun v34x27 H28 =>
      Le H26 H28 ∧ (ob (vInt .add v29x25 v34x27) fun v35x29 =>
      ob (vInt .mul v24x23 v35x29) fun v36x30 =>
      ob (vInt .sub (σ16 4) v36x30) fun v37x31 =>
      ob (vInt .add (σ16 17) (.int .i64 1)) fun v38x32 =>
      Q16 .normal (up (up (up (up (up (up (up (up (up (up (up (up (up (up (up (up (up (up (up (up (up (up (up (up σ16 18 v18x17) 19 (σ16 17)) 6 (σ16 17)) 20 (σ16 4)) 21 v21x18) 22 (σ16 5)) 23 (σ16 17)) 25 v25x19) 26 (σ16 5)) 27 (σ16 17)) 28 v28x20) 30 v30x21) 31 (σ16 5)) 32 v32x22) 33 (σ16 17)) 24 v24x23) 29 v29x25) 34 v34x27) 35 v35x29) 36 v36x30) 37 v37x31) 4 v37x31) 38 v38x32) 17 v38x32) H28))))
        (Q16 (.exit 2) (up σ16 18 v18x17) H16)) (blkQ 2 (blkQ 1 (thenQ J12 Q10))) (up (up (up (up (up (up σ10 13 v13x11) 14 (σ10 12)) 5 (σ10 12)) 15 v15x14) 16 v16x15) 17 (.int .i64 0)) H10)
      (Q10 (.exit 0) (up σ10 13 v13x11) H10)) (blkQ 0 (thenQ J7 (retQ prg [(.tmp 2), (.tmp 3)] K))) (up (up (up (up (up (up (up (up (up (up (S0 [a0]) 1 v1x1) 2 (.int .i64 0)) 3 (.bool false)) 7 v7x3) 8 v8x4) 9 v9x6) 4 (.int .i64 0)) 10 v10x8) 11 v11x9) 12 (.int .i64 0)) H5)
def O.impl_EnergyOf : Nat → Nat × List Nat := fun i => bif Nat.beq i 10 then (0, [0, 1, 2, 3, 5, 6, 7, 8, 10, 11, 12, 13, 4, 9, 14, 15, 16, 17, 18]) else (0, [])
theorem R.impl_EnergyOf {a0 : Value} {H : Hp} {K : Value → Hp → Prop} (h : F.impl_EnergyOf a0 H K) : HT prg I.impl_EnergyOf [a0].toArray H K :=
  HT_of_fev O.impl_EnergyOf mixed Try.func22 (by kernel_rfl) (Eq.mpr (by kernel_rfl : fev prg O.impl_EnergyOf Try.f22 [a0] H K = F.impl_EnergyOf a0 H K) h)

/-! loop.example/g01381/laws.eqField: function 23 -/
def F.laws_eqField (a0 a1 : Value) (H : Hp) (K : Value → Hp → Prop) : Prop :=
  nw (a0 : Value).cells 36 H fun v2x1 H2 =>
  nw (a1 : Value).cells 36 H2 fun v3x3 H4 =>
  ob (vFa 0 v2x1) fun v5x5 =>
  ob (vLoad v5x5 H4) fun v6x6 =>
  ob (vFa 0 v3x3) fun v7x7 =>
  ob (vLoad v7x7 H4) fun v8x8 =>
  ob (vInt .neq v6x6 v8x8) fun v9x9 =>
  cnd v9x9
    (K (.bool false) H4)
    (ob (vFa 1 v2x1) fun v10x10 =>
  ob (vLoad v10x10 H4) fun v11x11 =>
  ob (vFa 1 v3x3) fun v12x12 =>
  ob (vLoad v12x12 H4) fun v13x13 =>
  ob (vInt .neq v11x11 v13x13) fun v14x14 =>
  cnd v14x14
    (K (.bool false) H4)
    (ob (vFa 2 v2x1) fun v15x15 =>
  ob (vLoad v15x15 H4) fun v16x16 =>
  ob (vFa 2 v3x3) fun v17x17 =>
  ob (vLoad v17x17 H4) fun v18x18 =>
  HT prg I.laws_eqInt64S [v16x16, v18x18].toArray H4 fun v19x19 H20 =>
  ob (vUn .not v19x19) fun v20x21 =>
  cnd v20x21
    (K (.bool false) H20)
    (K (.bool true) H20)))
def O.laws_eqField : Nat → Nat × List Nat := fun i => (0, [])
theorem R.laws_eqField {a0 a1 : Value} {H : Hp} {K : Value → Hp → Prop} (h : F.laws_eqField a0 a1 H K) : HT prg I.laws_eqField [a0, a1].toArray H K :=
  HT_of_fev O.laws_eqField mixed Try.func23 (by kernel_rfl) (Eq.mpr (by kernel_rfl : fev prg O.laws_eqField Try.f23 [a0, a1] H K = F.laws_eqField a0 a1 H K) h)

/-! loop.example/g01381/laws.FnExactEnergyOf: function 5 -/
def F.laws_FnExactEnergyOf (a0 : Value) (H : Hp) (K : Value → Hp → Prop) : Prop :=
  nw (a0 : Value).cells 32 H fun v1x1 H2 =>
  ob (vLoadN 3 v1x1 H2) fun v9x3 =>
  HT prg I.laws_szField [v9x3, (.int .i64 1048576)].toArray H2 fun v11x4 H5 =>
  ob (vInt .lss v11x4 (.int .i64 0)) fun v13x6 =>
  cnd v13x6
    (K (.bool true) H5)
    (ob (vLoadN 3 v1x1 H5) fun v15x7 =>
  HT prg I.laws_toField [v15x7].toArray H5 fun v16x8 H9 =>
  HT prg I.spec_EnergyOf [v16x8].toArray H9 fun v17x10 H11 =>
  ob (vExt v17x10 0) fun v18x12 =>
  ob (vExt v17x10 1) fun v19x13 =>
  ob (vLoadN 3 v1x1 H11) fun v20x14 =>
  HT prg I.laws_toField [v20x14].toArray H11 fun v21x15 H16 =>
  nw #[(.int .i64 0), (.int .i64 0), (.slice none 0 0)] 36 H16 fun v6x17 H18 =>
  st 3 v6x17 v21x15 H18 fun H19 =>
  ob (vLoadN 3 v6x17 H19) fun v23x20 =>
  HT prg I.impl_EnergyOf [v23x20].toArray H19 fun v24x21 H22 =>
  ob (vExt v24x21 0) fun v25x23 =>
  ob (vExt v24x21 1) fun v26x24 =>
  ob (vInt .neq v25x23 v18x12) fun v29x25 =>
  gop v29x25 false (fun K26 => K26 v26x24 H22) H22 fun v31x27 H28 =>
  gop v29x25 false (fun K29 => K29 v19x13 H28) H28 fun v32x30 H31 =>
  gop v29x25 false (fun K32 => ob (vBool .neq v31x27 v32x30) fun u => K32 u H31) H31 fun v33x33 H34 =>
  ob (vPick v29x25 (.bool true) v33x33) fun v34x35 =>
  cnd v34x35
    (K (.bool false) H34)
    (ob (vLoadN 3 v6x17 H34) fun v35x36 =>
  ob (vLoadN 3 v1x1 H34) fun v36x37 =>
  HT prg I.laws_toField [v36x37].toArray H34 fun v37x38 H39 =>
  Le H34 H39 ∧ (HT prg I.laws_eqField [v35x36, v37x38].toArray H39 fun v38x40 H41 =>
  Le H39 H41 ∧ (ob (vUn .not v38x40) fun v39x42 =>
  cnd v39x42
    (K (.bool false) H41)
    (K (.bool true) H41)))))
def O.laws_FnExactEnergyOf : Nat → Nat × List Nat := fun i => bif Nat.beq i 10 then (0, [0, 1, 2, 3, 4]) else (0, [])
theorem R.laws_FnExactEnergyOf {a0 : Value} {H : Hp} {K : Value → Hp → Prop} (h : F.laws_FnExactEnergyOf a0 H K) : HT prg I.laws_FnExactEnergyOf [a0].toArray H K :=
  HT_of_fev O.laws_FnExactEnergyOf mixed Try.func5 (by kernel_rfl) (Eq.mpr (by kernel_rfl : fev prg O.laws_FnExactEnergyOf Try.f5 [a0] H K = F.laws_FnExactEnergyOf a0 H K) h)

/-! loop.example/g01381/spec.l05Sides: function 53 -/
def F.spec_l05Sides (a0 a1 : Value) (H : Hp) (K : Value → Hp → Prop) : Prop :=
  HT prg I.spec_l00In [a0, (.int .i64 1), (.int .i64 24)].toArray H fun v6x1 H2 =>
  gop v6x1 true (fun K3 => K3 a1 H2) H2 fun v8x4 H5 =>
  gop v6x1 true (fun K6 => HT prg I.spec_l00In [v8x4, (.int .i64 1), (.int .i64 24)].toArray H5 K6) H5 fun v9x7 H8 =>
  ob (vPick v6x1 v9x7 (.bool false)) fun v10x9 =>
  K v10x9 H8
def O.spec_l05Sides : Nat → Nat × List Nat := fun i => (0, [])
theorem R.spec_l05Sides {a0 a1 : Value} {H : Hp} {K : Value → Hp → Prop} (h : F.spec_l05Sides a0 a1 H K) : HT prg I.spec_l05Sides [a0, a1].toArray H K :=
  HT_of_fev O.spec_l05Sides mixed Try.func53 (by kernel_rfl) (Eq.mpr (by kernel_rfl : fev prg O.spec_l05Sides Try.f53 [a0, a1] H K = F.spec_l05Sides a0 a1 H K) h)

/-! loop.example/g01381/spec.l04New: function 77 -/
def F.spec_l04New (a0 a1 : Value) (H : Hp) (K : Value → Hp → Prop) : Prop :=
  nw #[(.int .i64 0), (.int .i64 0), (.slice none 0 0)] 36 H fun v4x1 H2 =>
  ob (vInt .mul a0 a1) fun v9x3 =>
  mkS 1 8 #[(.int .i64 0)] 2 v9x3 v9x3 H2 fun v10x4 H5 =>
  ob (vBuild [(0, 1), (1, 1), (2, 1)] (.agg #[(.int .i64 0), (.int .i64 0), (.slice none 0 0)]) [(0, a0), (1, a1), (2, v10x4)]) fun v11x6 =>
  st 3 v4x1 v11x6 H5 fun H7 =>
  ob (vLoadN 3 v4x1 H7) fun u8 => K u8 H7
def O.spec_l04New : Nat → Nat × List Nat := fun i => (0, [])
theorem R.spec_l04New {a0 a1 : Value} {H : Hp} {K : Value → Hp → Prop} (h : F.spec_l04New a0 a1 H K) : HT prg I.spec_l04New [a0, a1].toArray H K :=
  HT_of_fev O.spec_l04New mixed Try.func77 (by kernel_rfl) (Eq.mpr (by kernel_rfl : fev prg O.spec_l04New Try.f77 [a0, a1] H K = F.spec_l04New a0 a1 H K) h)

/-! loop.example/g01381/spec.l05Grow: function 54 -/
def F.spec_l05Grow (a0 a1 : Value) (H : Hp) (K : Value → Hp → Prop) : Prop :=
  nw #[(.int .i64 0), (.int .i64 0), (.slice none 0 0)] 36 H fun v4x1 H2 =>
  ob (vNilC a0) fun v9x3 =>
  ob (vFa 0 v9x3) fun v10x4 =>
  ob (vLoad v10x4 H2) fun v11x5 =>
  ob (vInt .mul (.int .i64 2) a1) fun v13x6 =>
  ob (vInt .add v11x5 v13x6) fun v14x7 =>
  ob (vNilC a0) fun v16x8 =>
  ob (vFa 1 v16x8) fun v17x9 =>
  ob (vLoad v17x9 H2) fun v18x10 =>
  ob (vInt .mul (.int .i64 2) a1) fun v20x11 =>
  ob (vInt .add v18x10 v20x11) fun v21x12 =>
  HT prg I.spec_l04New [v14x7, v21x12].toArray H2 fun v22x13 H14 =>
  Le H2 H14 ∧ (nw #[(.int .i64 0), (.int .i64 0), (.slice none 0 0)] 36 H14 fun v5x15 H16 =>
  st 3 v5x15 v22x13 H16 fun H17 =>
  jn (fun σ18 H18 =>
    ob (vLoadN 3 (σ18 5) H18) fun v66x19 =>
    st 3 (σ18 4) v66x19 H18 fun H20 =>
    ob (vLoadN 3 (σ18 4) H20) fun u21 => K u21 H20) fun J18 =>
  lpE (fun Q22 σ22 H22 =>
    ob (vNilC (σ22 0)) fun v25x23 =>
    ob (vFa 0 v25x23) fun v26x24 =>
    ob (vLoad v26x24 H22) fun v27x25 =>
    ob (vInt .lss (σ22 6) v27x25) fun v28x26 =>
    cnd v28x26
      (jn (fun σ27 H27 =>
      ob (vInt .add (σ27 6) (.int .i64 1)) fun v30x28 =>
      Q22 .normal (up (up (up σ27 29 (σ27 6)) 30 v30x28) 6 v30x28) H27) fun J27 =>
    lpE (fun Q29 σ29 H29 =>
      ob (vNilC (σ29 0)) fun v33x30 =>
      ob (vFa 1 v33x30) fun v34x31 =>
      ob (vLoad v34x31 H29) fun v35x32 =>
      ob (vInt .lss (σ29 7) v35x32) fun v36x33 =>
      cnd v36x33
        (ob (vFa 2 (σ29 5)) fun v39x34 =>
      ob (vLoad v39x34 H29) fun v40x35 =>
      ob (vInt .add (σ29 6) (σ29 1)) fun v43x36 =>
      ob (vFa 1 (σ29 5)) fun v44x37 =>
      ob (vLoad v44x37 H29) fun v45x38 =>
      ob (vInt .mul v43x36 v45x38) fun v46x39 =>
      ob (vInt .add v46x39 (σ29 7)) fun v48x40 =>
      ob (vInt .add v48x40 (σ29 1)) fun v50x41 =>
      ob (vNilC (σ29 0)) fun v52x42 =>
      ob (vFa 2 v52x42) fun v53x43 =>
      ob (vLoad v53x43 H29) fun v54x44 =>
      ob (vNilC (σ29 0)) fun v57x45 =>
      ob (vFa 1 v57x45) fun v58x46 =>
      ob (vLoad v58x46 H29) fun v59x47 =>
      ob (vInt .mul (σ29 6) v59x47) fun v60x48 =>
      ob (vInt .add v60x48 (σ29 7)) fun v62x49 =>
      ob (vIx 1 v54x44 v62x49) fun v63x50 =>
      ob (vLoad v63x50 H29) fun v64x51 =>
      ob (vIx 1 v40x35 v50x41) fun v65x52 =>
      st 1 v65x52 v64x51 H29 fun H53 =>
      ob (vInt .add (σ29 7) (.int .i64 1)) fun v38x54 =>
      Q29 .normal (up (up (up (up (up (up (up (up (up (up (up (up (up (up (up (up (up (up (up (up (up (up (up (up (up (up (up (up (up (up (up (up (up (up (up (up σ29 31 (σ29 7)) 32 (σ29 0)) 33 v33x30) 34 v34x31) 35 v35x32) 36 v36x33) 39 v39x34) 40 v40x35) 41 (σ29 6)) 42 (σ29 1)) 43 v43x36) 44 v44x37) 45 v45x38) 46 v46x39) 47 (σ29 7)) 48 v48x40) 49 (σ29 1)) 50 v50x41) 51 (σ29 0)) 52 v52x42) 53 v53x43) 54 v54x44) 55 (σ29 6)) 56 (σ29 0)) 57 v57x45) 58 v58x46) 59 v59x47) 60 v60x48) 61 (σ29 7)) 62 v62x49) 63 v63x50) 64 v64x51) 65 v65x52) 37 (σ29 7)) 38 v38x54) 7 v38x54) H53)
        (Q29 (.exit 2) (up (up (up (up (up (up σ29 31 (σ29 7)) 32 (σ29 0)) 33 v33x30) 34 v34x31) 35 v35x32) 36 v36x33) H29)) (blkQ 2 (blkQ 1 (thenQ J27 Q22))) (up (up (up (up (up (up (up σ22 23 (σ22 6)) 24 (σ22 0)) 25 v25x23) 26 v26x24) 27 v27x25) 28 v28x26) 7 (.int .i64 0)) H22)
      (Q22 (.exit 0) (up (up (up (up (up (up σ22 23 (σ22 6)) 24 (σ22 0)) 25 v25x23) 26 v26x24) 27 v27x25) 28 v28x26) H22)) (blkQ 0 (thenQ J18 (retQ prg [(.cell 4 36)] K))) (up (up (up (up (up (up (up (up (up (up (up (up (up (up (up (up (up (up (S0 [a0, a1]) 4 v4x1) 8 a0) 9 v9x3) 10 v10x4) 11 v11x5) 12 a1) 13 v13x6) 14 v14x7) 15 a0) 16 v16x8) 17 v17x9) 18 v18x10) 19 a1) 20 v20x11) 21 v21x12) 22 v22x13) 5 v5x15) 6 (.int .i64 0)) H17)
def O.spec_l05Grow : Nat → Nat × List Nat := fun i => bif Nat.beq i 1 then (0, [0, 1, 2, 3, 4, 5, 6, 7, 8, 9, 10, 11, 12, 13, 14, 15, 16]) else bif Nat.beq i 8 then (0, [0, 1, 2, 3, 4, 5, 6, 7, 8, 9, 10, 11, 12, 13, 14, 15, 16, 17, 18, 19, 20, 21, 22, 23, 24, 25, 26, 27]) else (0, [])
theorem R.spec_l05Grow {a0 a1 : Value} {H : Hp} {K : Value → Hp → Prop} (h : F.spec_l05Grow a0 a1 H K) : HT prg I.spec_l05Grow [a0, a1].toArray H K :=
  HT_of_fev O.spec_l05Grow mixed Try.func54 (by kernel_rfl) (Eq.mpr (by kernel_rfl : fev prg O.spec_l05Grow Try.f54 [a0, a1] H K = F.spec_l05Grow a0 a1 H K) h)

/-! loop.example/g01381/spec.GrowField: function 24 -/
def F.spec_GrowField (a0 a1 : Value) (H : Hp) (K : Value → Hp → Prop) : Prop :=
  nw (a0 : Value).cells 36 H fun v2x1 H2 =>
  nw #[(.int .i64 0), (.int .i64 0), (.slice none 0 0)] 36 H2 fun v4x3 H4 =>
  HT prg I.spec_l04Plain [v2x1].toArray H4 fun v6x5 H6 =>
  ob (vUn .not v6x5) fun v7x7 =>
  gop v7x7 false (fun K8 => K8 a1 H6) H6 fun v9x9 H10 =>
  gop v7x7 false (fun K11 => HT prg I.spec_l00In [v9x9, (.int .i64 0), (.int .i64 24)].toArray H10 K11) H10 fun v10x12 H13 =>
  gop v7x7 false (fun K14 => ob (vUn .not v10x12) fun u => K14 u H13) H13 fun v11x15 H16 =>
  ob (vPick v7x7 (.bool true) v11x15) fun v12x17 =>
  gop v12x17 false (fun K18 => ob (vFa 0 v2x1) fun u => K18 u H16) H16 fun v14x19 H20 =>
  gop v12x17 false (fun K21 => ob (vLoad v14x19 H20) fun u => K21 u H20) H20 fun v15x22 H23 =>
  gop v12x17 false (fun K24 => K24 a1 H23) H23 fun v16x25 H26 =>
  gop v12x17 false (fun K27 => ob (vInt .mul (.int .i64 2) v16x25) fun u => K27 u H26) H26 fun v17x28 H29 =>
  gop v12x17 false (fun K30 => ob (vInt .add v15x22 v17x28) fun u => K30 u H29) H29 fun v18x31 H32 =>
  gop v12x17 false (fun K33 => ob (vFa 1 v2x1) fun u => K33 u H32) H32 fun v19x34 H35 =>
  gop v12x17 false (fun K36 => ob (vLoad v19x34 H35) fun u => K36 u H35) H35 fun v20x37 H38 =>
  gop v12x17 false (fun K39 => K39 a1 H38) H38 fun v21x40 H41 =>
  gop v12x17 false (fun K42 => ob (vInt .mul (.int .i64 2) v21x40) fun u => K42 u H41) H41 fun v22x43 H44 =>
  gop v12x17 false (fun K45 => ob (vInt .add v20x37 v22x43) fun u => K45 u H44) H44 fun v23x46 H47 =>
  gop v12x17 false (fun K48 => HT prg I.spec_l05Sides [v18x31, v23x46].toArray H47 K48) H47 fun v24x49 H50 =>
  gop v12x17 false (fun K51 => ob (vUn .not v24x49) fun u => K51 u H50) H50 fun v25x52 H53 =>
  ob (vPick v12x17 (.bool true) v25x52) fun v26x54 =>
  cnd v26x54
    (ob (vBuild [(0, 1), (1, 1), (2, 1)] (.agg #[(.int .i64 0), (.int .i64 0), (.slice none 0 0)]) []) fun v27x55 =>
    st 3 v4x3 v27x55 H53 fun H56 =>
    ob (vLoadN 3 v4x3 H56) fun u57 => K (.tuple #[u57, (.bool false)]) H56)
    (HT prg I.spec_l05Grow [v2x1, a1].toArray H53 fun v29x58 H59 =>
  st 3 v4x3 v29x58 H59 fun H60 =>
  ob (vLoadN 3 v4x3 H60) fun u61 => K (.tuple #[u61, (.bool true)]) H60)
def O.spec_GrowField : Nat → Nat × List Nat := fun i => (0, [])
theorem R.spec_GrowField {a0 a1 : Value} {H : Hp} {K : Value → Hp → Prop} (h : F.spec_GrowField a0 a1 H K) : HT prg I.spec_GrowField [a0, a1].toArray H K :=
  HT_of_fev O.spec_GrowField mixed Try.func24 (by kernel_rfl) (Eq.mpr (by kernel_rfl : fev prg O.spec_GrowField Try.f24 [a0, a1] H K = F.spec_GrowField a0 a1 H K) h)

/-! loop.example/g01381/impl.madeField: function 56 -/
def F.impl_madeField (a0 a1 a2 : Value) (H : Hp) (K : Value → Hp → Prop) : Prop :=
  nw #[(.int .i64 0), (.int .i64 0), (.slice none 0 0)] 36 H fun v6x1 H2 =>
  ob (vBuild [(0, 1), (1, 1), (2, 1)] (.agg #[(.int .i64 0), (.int .i64 0), (.slice none 0 0)]) [(0, a0), (1, a1)]) fun v12x3 =>
  nw #[(.int .i64 0), (.int .i64 0), (.slice none 0 0)] 36 H2 fun v7x4 H5 =>
  st 3 v7x4 v12x3 H5 fun H6 =>
  jn (fun σ7 H7 =>
    ob (vLoadN 3 (σ7 7) H7) fun v32x8 =>
    st 3 (σ7 6) v32x8 H7 fun H9 =>
    ob (vLoadN 3 (σ7 6) H9) fun u10 => K u10 H9) fun J7 =>
  lpE (fun Q11 σ11 H11 =>
    ob (vInt .lss (σ11 14) (σ11 13)) fun v15x12 =>
    cnd v15x12
      (jn (fun σ13 H13 =>
      ob (vInt .add (σ13 14) (.int .i64 1)) fun v31x14 =>
      Q11 .normal (up (up σ13 31 v31x14) 14 v31x14) H13) fun J13 =>
    lpE (fun Q15 σ15 H15 =>
      ob (vInt .lss (σ15 18) (σ15 17)) fun v19x16 =>
      cnd v19x16
        (ob (vFa 2 (σ15 7)) fun v21x17 =>
      ob (vLoad v21x17 H15) fun v22x18 =>
      callV prg (σ15 2) [(σ15 8), (σ15 18)] H15 fun v26x19 H20 =>
      Le H15 H20 ∧ (bS 1 1 #[(.int .i64 0)] 2 [(0, v26x19)] H20 fun v27x21 H22 =>
      apd 1 8 #[(.int .i64 0)] 2 v22x18 v27x21 H22 fun v28x23 H24 =>
      ob (vFa 2 (σ15 7)) fun v29x25 =>
      st 1 v29x25 v28x23 H24 fun H26 =>
      ob (vInt .add (σ15 18) (.int .i64 1)) fun v30x27 =>
      Q15 .normal (up (up (up (up (up (up (up (up (up (up (up (up (up (up σ15 19 v19x16) 20 (σ15 18)) 9 (σ15 18)) 21 v21x17) 22 v22x18) 23 (σ15 2)) 24 (σ15 8)) 25 (σ15 18)) 26 v26x19) 27 v27x21) 28 v28x23) 29 v29x25) 30 v30x27) 18 v30x27) H26))
        (Q15 (.exit 2) (up σ15 19 v19x16) H15)) (blkQ 2 (blkQ 1 (thenQ J13 Q11))) (up (up (up (up (up σ11 15 v15x12) 16 (σ11 14)) 8 (σ11 14)) 17 (σ11 1)) 18 (.int .i64 0)) H11)
      (Q11 (.exit 0) (up σ11 15 v15x12) H11)) (blkQ 0 (thenQ J7 (retQ prg [(.cell 6 36)] K))) (up (up (up (up (up (up (up (S0 [a0, a1, a2]) 6 v6x1) 10 a0) 11 a1) 12 v12x3) 7 v7x4) 13 a0) 14 (.int .i64 0)) H6
def O.impl_madeField : Nat → Nat × List Nat := fun i => bif Nat.beq i 8 then (0, [0, 1, 2, 3, 4, 5, 6, 7, 8, 9]) else (0, [])
theorem R.impl_madeField {a0 a1 a2 : Value} {H : Hp} {K : Value → Hp → Prop} (h : F.impl_madeField a0 a1 a2 H K) : HT prg I.impl_madeField [a0, a1, a2].toArray H K :=
  HT_of_fev O.impl_madeField mixed Try.func56 (by kernel_rfl) (Eq.mpr (by kernel_rfl : fev prg O.impl_madeField Try.f56 [a0, a1, a2] H K = F.impl_madeField a0 a1 a2 H K) h)

/-! loop.example/g01381/impl.madeField: function 56 -/
def F.impl_madeFieldX (a0 a1 a2 : Value) (H : Hp) (K : Value → Hp → Prop) : Prop :=
  nw #[(.int .i64 0), (.int .i64 0), (.slice none 0 0)] 36 H fun v6x1 H2 =>
  ob (vBuild [(0, 1), (1, 1), (2, 1)] (.agg #[(.int .i64 0), (.int .i64 0), (.slice none 0 0)]) [(0, a0), (1, a1)]) fun v12x3 =>
  nw #[(.int .i64 0), (.int .i64 0), (.slice none 0 0)] 36 H2 fun v7x4 H5 =>
  st 3 v7x4 v12x3 H5 fun H6 =>
  jn (fun σ7 H7 =>
    ob (vLoadN 3 (σ7 7) H7) fun v32x8 =>
    st 3 (σ7 6) v32x8 H7 fun H9 =>
    ob (vLoadN 3 (σ7 6) H9) fun u10 => K u10 H9) fun J7 =>
  lpE (fun Q11 σ11 H11 =>
    ob (vInt .lss (σ11 14) (σ11 13)) fun v15x12 =>
    cnd v15x12
      (jn (fun σ13 H13 =>
      ob (vInt .add (σ13 14) (.int .i64 1)) fun v31x14 =>
      Q11 .normal (up (up σ13 31 v31x14) 14 v31x14) H13) fun J13 =>
    lpE (fun Q15 σ15 H15 =>
      ob (vInt .lss (σ15 18) (σ15 17)) fun v19x16 =>
      cnd v19x16
        ((ob (vFa 2 (σ15 7)) fun v21x17 =>
      ob (vLoad v21x17 H15) fun v22x18 =>
      callV prg (σ15 2) [(σ15 8), (σ15 18)] H15 fun v26x19 H20 =>
      bS 1 1 #[(.int .i64 0)] 2 [(0, v26x19)] H20 fun v27x21 H22 =>
      apd 1 8 #[(.int .i64 0)] 2 v22x18 v27x21 H22 fun v28x23 H24 =>
      ob (vFa 2 (σ15 7)) fun v29x25 =>
      st 1 v29x25 v28x23 H24 fun H26 =>
      ob (vInt .add (σ15 18) (.int .i64 1)) fun v30x27 =>
      Q15 .normal (up (up (up (up (up (up (up (up (up (up (up (up (up (up σ15 19 v19x16) 20 (σ15 18)) 9 (σ15 18)) 21 v21x17) 22 v22x18) 23 (σ15 2)) 24 (σ15 8)) 25 (σ15 18)) 26 v26x19) 27 v27x21) 28 v28x23) 29 v29x25) 30 v30x27) 18 v30x27) H26) ∧ (ob (vFa 2 (σ15 7)) fun v21x28 =>
      callV prg (σ15 2) [(σ15 8), (σ15 18)] H15 fun v26x29 H30 =>
      ob (vLoad v21x28 H30) fun v22x31 =>
      bS 1 1 #[(.int .i64 0)] 2 [(0, v26x29)] H30 fun v27x32 H33 =>
      apd 1 8 #[(.int .i64 0)] 2 v22x31 v27x32 H33 fun v28x34 H35 =>
      ob (vFa 2 (σ15 7)) fun v29x36 =>
      st 1 v29x36 v28x34 H35 fun H37 =>
      ob (vInt .add (σ15 18) (.int .i64 1)) fun v30x38 =>
      Q15 .normal (up (up (up (up (up (up (up (up (up (up (up (up (up (up σ15 19 v19x16) 20 (σ15 18)) 9 (σ15 18)) 21 v21x28) 23 (σ15 2)) 24 (σ15 8)) 25 (σ15 18)) 26 v26x29) 22 v22x31) 27 v27x32) 28 v28x34) 29 v29x36) 30 v30x38) 18 v30x38) H37))
        (Q15 (.exit 2) (up σ15 19 v19x16) H15)) (blkQ 2 (blkQ 1 (thenQ J13 Q11))) (up (up (up (up (up σ11 15 v15x12) 16 (σ11 14)) 8 (σ11 14)) 17 (σ11 1)) 18 (.int .i64 0)) H11)
      (Q11 (.exit 0) (up σ11 15 v15x12) H11)) (blkQ 0 (thenQ J7 (retQ prg [(.cell 6 36)] K))) (up (up (up (up (up (up (up (S0 [a0, a1, a2]) 6 v6x1) 10 a0) 11 a1) 12 v12x3) 7 v7x4) 13 a0) 14 (.int .i64 0)) H6
def O.impl_madeFieldX : Nat → Nat × List Nat := fun i => bif Nat.beq i 8 then (2, [1001, 1005, 0, 1, 2, 3, 4, 5, 6, 7, 8, 9, 0, 2, 3, 4, 5, 1, 6, 7, 8, 9]) else (0, [])
theorem R.impl_madeFieldX {a0 a1 a2 : Value} {H : Hp} {K : Value → Hp → Prop} (h : F.impl_madeFieldX a0 a1 a2 H K) : HT prg I.impl_madeField [a0, a1, a2].toArray H K :=
  HT_of_fev O.impl_madeFieldX mixed Try.func56 (by kernel_rfl) (Eq.mpr (by kernel_rfl : fev prg O.impl_madeFieldX Try.f56 [a0, a1, a2] H K = F.impl_madeFieldX a0 a1 a2 H K) h)

/-! loop.example/g01381/impl.GrowField$1: function 57 -/
def F.impl_GrowField_1 (a0 a1 a2 a3 : Value) (H : Hp) (K : Value → Hp → Prop) : Prop :=
  ob (vLoadN 3 a2 H) fun v7x1 =>
  ob (vLoad a3 H) fun v9x2 =>
  ob (vInt .sub a0 v9x2) fun v10x3 =>
  ob (vLoad a3 H) fun v12x4 =>
  ob (vInt .sub a1 v12x4) fun v13x5 =>
  HT prg I.impl_Field_look [v7x1, v10x3, v13x5, (.bool false)].toArray H fun v14x6 H7 =>
  K v14x6 H7
def O.impl_GrowField_1 : Nat → Nat × List Nat := fun i => (0, [])
theorem R.impl_GrowField_1 {a0 a1 a2 a3 : Value} {H : Hp} {K : Value → Hp → Prop} (h : F.impl_GrowField_1 a0 a1 a2 a3 H K) : HT prg I.impl_GrowField_1 [a0, a1, a2, a3].toArray H K :=
  HT_of_fev O.impl_GrowField_1 mixed Try.func57 (by kernel_rfl) (Eq.mpr (by kernel_rfl : fev prg O.impl_GrowField_1 Try.f57 [a0, a1, a2, a3] H K = F.impl_GrowField_1 a0 a1 a2 a3 H K) h)

/-! loop.example/g01381/impl.GrowField: function 25 -/
def F.impl_GrowField (a0 a1 : Value) (H : Hp) (K : Value → Hp → Prop) : Prop :=
  nw (a0 : Value).cells 36 H fun v2x1 H2 =>
  nw (a1 : Value).cells 2 H2 fun v3x3 H4 =>
  nw #[(.int .i64 0), (.int .i64 0), (.slice none 0 0)] 36 H4 fun v4x5 H6 =>
  ob (vLoadN 3 v2x1 H6) fun v6x7 =>
  HT prg I.impl_isPlain [v6x7].toArray H6 fun v7x8 H9 =>
  ob (vUn .not v7x8) fun v8x10 =>
  gop v8x10 false (fun K11 => ob (vLoad v3x3 H9) fun u => K11 u H9) H9 fun v10x12 H13 =>
  gop v8x10 false (fun K14 => HT prg I.impl_within [v10x12, (.int .i64 0), (.int .i64 24)].toArray H13 K14) H13 fun v11x15 H16 =>
  gop v8x10 false (fun K17 => ob (vUn .not v11x15) fun u => K17 u H16) H16 fun v12x18 H19 =>
  ob (vPick v8x10 (.bool true) v12x18) fun v13x20 =>
  gop v13x20 false (fun K21 => ob (vFa 0 v2x1) fun u => K21 u H19) H19 fun v15x22 H23 =>
  gop v13x20 false (fun K24 => ob (vLoad v15x22 H23) fun u => K24 u H23) H23 fun v16x25 H26 =>
  gop v13x20 false (fun K27 => ob (vLoad v3x3 H26) fun u => K27 u H26) H26 fun v17x28 H29 =>
  gop v13x20 false (fun K30 => ob (vInt .mul (.int .i64 2) v17x28) fun u => K30 u H29) H29 fun v18x31 H32 =>
  gop v13x20 false (fun K33 => ob (vInt .add v16x25 v18x31) fun u => K33 u H32) H32 fun v19x34 H35 =>
  gop v13x20 false (fun K36 => HT prg I.impl_isSide [v19x34].toArray H35 K36) H35 fun v20x37 H38 =>
  gop v13x20 false (fun K39 => ob (vUn .not v20x37) fun u => K39 u H38) H38 fun v21x40 H41 =>
  ob (vPick v13x20 (.bool true) v21x40) fun v22x42 =>
  gop v22x42 false (fun K43 => ob (vFa 1 v2x1) fun u => K43 u H41) H41 fun v24x44 H45 =>
  gop v22x42 false (fun K46 => ob (vLoad v24x44 H45) fun u => K46 u H45) H45 fun v25x47 H48 =>
  gop v22x42 false (fun K49 => ob (vLoad v3x3 H48) fun u => K49 u H48) H48 fun v26x50 H51 =>
  gop v22x42 false (fun K52 => ob (vInt .mul (.int .i64 2) v26x50) fun u => K52 u H51) H51 fun v27x53 H54 =>
  gop v22x42 false (fun K55 => ob (vInt .add v25x47 v27x53) fun u => K55 u H54) H54 fun v28x56 H57 =>
  gop v22x42 false (fun K58 => HT prg I.impl_isSide [v28x56].toArray H57 K58) H57 fun v29x59 H60 =>
  gop v22x42 false (fun K61 => ob (vUn .not v29x59) fun u => K61 u H60) H60 fun v30x62 H63 =>
  ob (vPick v22x42 (.bool true) v30x62) fun v31x64 =>
  cnd v31x64
    (ob (vBuild [(0, 1), (1, 1), (2, 1)] (.agg #[(.int .i64 0), (.int .i64 0), (.slice none 0 0)]) []) fun v32x65 =>
    st 3 v4x5 v32x65 H63 fun H66 =>
    ob (vLoadN 3 v4x5 H66) fun u67 => K (.tuple #[u67, (.bool false)]) H66)
    (ob (vFa 0 v2x1) fun v33x68 =>
  ob (vLoad v33x68 H63) fun v34x69 =>
  ob (vLoad v3x3 H63) fun v35x70 =>
  ob (vInt .mul (.int .i64 2) v35x70) fun v36x71 =>
  ob (vInt .add v34x69 v36x71) fun v37x72 =>
  ob (vFa 1 v2x1) fun v38x73 =>
  ob (vLoad v38x73 H63) fun v39x74 =>
  ob (vLoad v3x3 H63) fun v40x75 =>
  ob (vInt .mul (.int .i64 2) v40x75) fun v41x76 =>
  ob (vInt .add v39x74 v41x76) fun v42x77 =>
  HT prg I.impl_madeField [v37x72, v42x77, (.func (.func I.impl_GrowField_1) #[] #[v2x1, v3x3])].toArray H63 fun v44x78 H79 =>
  st 3 v4x5 v44x78 H79 fun H80 =>
  ob (vLoadN 3 v4x5 H80) fun u81 => K (.tuple #[u81, (.bool true)]) H80)
def O.impl_GrowField : Nat → Nat × List Nat := fun i => (0, [])
theorem R.impl_GrowField {a0 a1 : Value} {H : Hp} {K : Value → Hp → Prop} (h : F.impl_GrowField a0 a1 H K) : HT prg I.impl_GrowField [a0, a1].toArray H K :=
  HT_of_fev O.impl_GrowField mixed Try.func25 (by kernel_rfl) (Eq.mpr (by kernel_rfl : fev prg O.impl_GrowField Try.f25 [a0, a1] H K = F.impl_GrowField a0 a1 H K) h)

/-! loop.example/g01381/laws.markField: function 26 -/
def F.laws_markField (a0 a1 : Value) (H : Hp) (K : Value → Hp → Prop) : Prop :=
  nw (a0 : Value).cells 36 H fun v2x1 H2 =>
  ob (vFa 2 v2x1) fun v5x3 =>
  ob (vLoad v5x3 H2) fun v6x4 =>
  HT prg I.laws_markInt64S [v6x4, a1].toArray H2 fun v8x5 H6 =>
  K v8x5 H6
def O.laws_markField : Nat → Nat × List Nat := fun i => (0, [])
theorem R.laws_markField {a0 a1 : Value} {H : Hp} {K : Value → Hp → Prop} (h : F.laws_markField a0 a1 H K) : HT prg I.laws_markField [a0, a1].toArray H K :=
  HT_of_fev O.laws_markField mixed Try.func26 (by kernel_rfl) (Eq.mpr (by kernel_rfl : fev prg O.laws_markField Try.f26 [a0, a1] H K = F.laws_markField a0 a1 H K) h)

/-! loop.example/g01381/laws.heldField: function 27 -/
def F.laws_heldField (a0 a1 : Value) (H : Hp) (K : Value → Hp → Prop) : Prop :=
  nw (a0 : Value).cells 36 H fun v2x1 H2 =>
  ob (vFa 2 v2x1) fun v5x3 =>
  ob (vLoad v5x3 H2) fun v6x4 =>
  HT prg I.laws_heldInt64S [v6x4, a1].toArray H2 fun v8x5 H6 =>
  ob (vInt .lss v8x5 (.int .i64 0)) fun v10x7 =>
  cnd v10x7
    (K (.int .i64 (-1)) H6)
    (K v8x5 H6)
def O.laws_heldField : Nat → Nat × List Nat := fun i => (0, [])
theorem R.laws_heldField {a0 a1 : Value} {H : Hp} {K : Value → Hp → Prop} (h : F.laws_heldField a0 a1 H K) : HT prg I.laws_heldField [a0, a1].toArray H K :=
  HT_of_fev O.laws_heldField mixed Try.func27 (by kernel_rfl) (Eq.mpr (by kernel_rfl : fev prg O.laws_heldField Try.f27 [a0, a1] H K = F.laws_heldField a0 a1 H K) h)

/-! loop.example/g01381/laws.FnExactGrowField: function 6 -/
def F.laws_FnExactGrowField (a0 a1 : Value) (H : Hp) (K : Value → Hp → Prop) : Prop :=
  nw (a0 : Value).cells 32 H fun v2x1 H2 =>
  ob (vLoadN 3 v2x1 H2) fun v16x3 =>
  HT prg I.laws_szField [v16x3, (.int .i64 1048576)].toArray H2 fun v18x4 H5 =>
  ob (vInt .lss v18x4 (.int .i64 0)) fun v20x6 =>
  cnd v20x6
    (K (.bool true) H5)
    (ob (vLoadN 3 v2x1 H5) fun v22x7 =>
  HT prg I.laws_toField [v22x7].toArray H5 fun v23x8 H9 =>
  HT prg I.spec_GrowField [v23x8, a1].toArray H9 fun v25x10 H11 =>
  ob (vExt v25x10 0) fun v26x12 =>
  ob (vExt v25x10 1) fun v27x13 =>
  nw #[(.int .i64 0), (.int .i64 0), (.slice none 0 0)] 36 H11 fun v6x14 H15 =>
  st 3 v6x14 v26x12 H15 fun H16 =>
  ob (vLoadN 3 v2x1 H16) fun v28x17 =>
  HT prg I.laws_toField [v28x17].toArray H16 fun v29x18 H19 =>
  nw #[(.int .i64 0), (.int .i64 0), (.slice none 0 0)] 36 H19 fun v8x20 H21 =>
  st 3 v8x20 v29x18 H21 fun H22 =>
  ob (vLoadN 3 v8x20 H22) fun v31x23 =>
  HT prg I.impl_GrowField [v31x23, a1].toArray H22 fun v33x24 H25 =>
  ob (vExt v33x24 0) fun v34x26 =>
  ob (vExt v33x24 1) fun v35x27 =>
  nw #[(.int .i64 0), (.int .i64 0), (.slice none 0 0)] 36 H25 fun v9x28 H29 =>
  st 3 v9x28 v34x26 H29 fun H30 =>
  ob (vLoadN 3 v9x28 H30) fun v36x31 =>
  ob (vLoadN 3 v6x14 H30) fun v37x32 =>
  HT prg I.laws_eqField [v36x31, v37x32].toArray H30 fun v38x33 H34 =>
  ob (vUn .not v38x33) fun v39x35 =>
  gop v39x35 false (fun K36 => K36 v35x27 H34) H34 fun v41x37 H38 =>
  gop v39x35 false (fun K39 => K39 v27x13 H38) H38 fun v42x40 H41 =>
  gop v39x35 false (fun K42 => ob (vBool .neq v41x37 v42x40) fun u => K42 u H41) H41 fun v43x43 H44 =>
  ob (vPick v39x35 (.bool true) v43x43) fun v44x45 =>
  cnd v44x45
    (K (.bool false) H44)
    (ob (vLoadN 3 v8x20 H44) fun v45x46 =>
  ob (vLoadN 3 v2x1 H44) fun v46x47 =>
  HT prg I.laws_toField [v46x47].toArray H44 fun v47x48 H49 =>
  Le H44 H49 ∧ (HT prg I.laws_eqField [v45x46, v47x48].toArray H49 fun v48x50 H51 =>
  Le H49 H51 ∧ (ob (vUn .not v48x50) fun v49x52 =>
  cnd v49x52
    (K (.bool false) H51)
    (ob (vLoadN 3 v8x20 H51) fun v50x53 =>
  HT prg I.laws_markField [v50x53, (.int .i64 1)].toArray H51 fun v52x54 H55 =>
  ob (vInt .lss v52x54 (.int .i64 0)) fun v54x56 =>
  gop v54x56 false (fun K57 => ob (vLoadN 3 v9x28 H55) fun u => K57 u H55) H55 fun v56x58 H59 =>
  gop v54x56 false (fun K60 => ob (vLoadN 3 v6x14 H59) fun u => K60 u H59) H59 fun v57x61 H62 =>
  gop v54x56 false (fun K63 => HT prg I.laws_eqField [v56x58, v57x61].toArray H62 K63) H62 fun v58x64 H65 =>
  gop v54x56 false (fun K66 => ob (vUn .not v58x64) fun u => K66 u H65) H65 fun v59x67 H68 =>
  ob (vPick v54x56 (.bool true) v59x67) fun v60x69 =>
  gop v60x69 false (fun K70 => K70 v35x27 H68) H68 fun v62x71 H72 =>
  gop v60x69 false (fun K73 => K73 v27x13 H72) H72 fun v63x74 H75 =>
  gop v60x69 false (fun K76 => ob (vBool .neq v62x71 v63x74) fun u => K76 u H75) H75 fun v64x77 H78 =>
  ob (vPick v60x69 (.bool true) v64x77) fun v65x79 =>
  cnd v65x79
    (K (.bool false) H78)
    (ob (vLoadN 3 v9x28 H78) fun v66x80 =>
  HT prg I.laws_markField [v66x80, (.int .i64 1)].toArray H78 fun v68x81 H82 =>
  ob (vLoadN 3 v9x28 H82) fun v69x83 =>
  HT prg I.laws_heldField [v69x83, (.int .i64 1)].toArray H82 fun v71x84 H85 =>
  ob (vInt .lss v71x84 (.int .i64 0)) fun v73x86 =>
  cnd v73x86
    (K (.bool false) H85)
    (ob (vInt .neq v71x84 v68x81) fun v76x87 =>
  cnd v76x87
    (K (.bool false) H85)
    (ob (vLoadN 3 v2x1 H85) fun v78x88 =>
  HT prg I.laws_toField [v78x88].toArray H85 fun v79x89 H90 =>
  HT prg I.impl_GrowField [v79x89, a1].toArray H90 fun v81x91 H92 =>
  ob (vExt v81x91 0) fun v82x93 =>
  ob (vExt v81x91 1) fun v83x94 =>
  nw #[(.int .i64 0), (.int .i64 0), (.slice none 0 0)] 36 H92 fun v14x95 H96 =>
  st 3 v14x95 v82x93 H96 fun H97 =>
  ob (vLoadN 3 v14x95 H97) fun v84x98 =>
  ob (vLoadN 3 v6x14 H97) fun v85x99 =>
  HT prg I.laws_eqField [v84x98, v85x99].toArray H97 fun v86x100 H101 =>
  ob (vUn .not v86x100) fun v87x102 =>
  gop v87x102 false (fun K103 => K103 v83x94 H101) H101 fun v89x104 H105 =>
  gop v87x102 false (fun K106 => K106 v27x13 H105) H105 fun v90x107 H108 =>
  gop v87x102 false (fun K109 => ob (vBool .neq v89x104 v90x107) fun u => K109 u H108) H108 fun v91x110 H111 =>
  ob (vPick v87x102 (.bool true) v91x110) fun v92x112 =>
  cnd v92x112
    (K (.bool false) H111)
    (ob (vLoadN 3 v9x28 H111) fun v93x113 =>
  HT prg I.laws_heldField [v93x113, (.int .i64 1)].toArray H111 fun v95x114 H115 =>
  ob (vInt .lss v95x114 (.int .i64 0)) fun v97x116 =>
  cnd v97x116
    (K (.bool false) H115)
    (ob (vInt .neq v95x114 v68x81) fun v100x117 =>
  cnd v100x117
    (K (.bool false) H115)
    (K (.bool true) H115)))))))))))
def O.laws_FnExactGrowField : Nat → Nat × List Nat := fun i => bif Nat.beq i 10 then (0, [0, 1, 2, 3, 4]) else (0, [])
theorem R.laws_FnExactGrowField {a0 a1 : Value} {H : Hp} {K : Value → Hp → Prop} (h : F.laws_FnExactGrowField a0 a1 H K) : HT prg I.laws_FnExactGrowField [a0, a1].toArray H K :=
  HT_of_fev O.laws_FnExactGrowField mixed Try.func6 (by kernel_rfl) (Eq.mpr (by kernel_rfl : fev prg O.laws_FnExactGrowField Try.f6 [a0, a1] H K = F.laws_FnExactGrowField a0 a1 H K) h)

/-! loop.example/g01381/spec.l00Min: function 81 -/
def F.spec_l00Min (a0 a1 : Value) (H : Hp) (K : Value → Hp → Prop) : Prop :=
  ob (vInt .lss a0 a1) fun v7x1 =>
  cnd v7x1
    (K a0 H)
    (K a1 H)
def O.spec_l00Min : Nat → Nat × List Nat := fun i => (0, [])
theorem R.spec_l00Min {a0 a1 : Value} {H : Hp} {K : Value → Hp → Prop} (h : F.spec_l00Min a0 a1 H K) : HT prg I.spec_l00Min [a0, a1].toArray H K :=
  HT_of_fev O.spec_l00Min mixed Try.func81 (by kernel_rfl) (Eq.mpr (by kernel_rfl : fev prg O.spec_l00Min Try.f81 [a0, a1] H K = F.spec_l00Min a0 a1 H K) h)

/-! loop.example/g01381/spec.l00Max: function 82 -/
def F.spec_l00Max (a0 a1 : Value) (H : Hp) (K : Value → Hp → Prop) : Prop :=
  ob (vInt .gtr a0 a1) fun v7x1 =>
  cnd v7x1
    (K a0 H)
    (K a1 H)
def O.spec_l00Max : Nat → Nat × List Nat := fun i => (0, [])
theorem R.spec_l00Max {a0 a1 : Value} {H : Hp} {K : Value → Hp → Prop} (h : F.spec_l00Max a0 a1 H K) : HT prg I.spec_l00Max [a0, a1].toArray H K :=
  HT_of_fev O.spec_l00Max mixed Try.func82 (by kernel_rfl) (Eq.mpr (by kernel_rfl : fev prg O.spec_l00Max Try.f82 [a0, a1] H K = F.spec_l00Max a0 a1 H K) h)

/-! loop.example/g01381/spec.l05Cut: function 83 -/
def F.spec_l05Cut (a0 a1 a2 a3 a4 : Value) (H : Hp) (K : Value → Hp → Prop) : Prop :=
  nw #[(.int .i64 0), (.int .i64 0), (.slice none 0 0)] 36 H fun v10x1 H2 =>
  HT prg I.spec_l04New [a3, a4].toArray H2 fun v16x3 H4 =>
  nw #[(.int .i64 0), (.int .i64 0), (.slice none 0 0)] 36 H4 fun v11x5 H6 =>
  st 3 v11x5 v16x3 H6 fun H7 =>
  jn (fun σ8 H8 =>
    ob (vLoadN 3 (σ8 11) H8) fun v53x9 =>
    st 3 (σ8 10) v53x9 H8 fun H10 =>
    ob (vLoadN 3 (σ8 10) H10) fun u11 => K u11 H10) fun J8 =>
  lpE (fun Q12 σ12 H12 =>
    ob (vInt .lss (σ12 12) (σ12 3)) fun v19x13 =>
    cnd v19x13
      (jn (fun σ14 H14 =>
      ob (vInt .add (σ14 12) (.int .i64 1)) fun v21x15 =>
      Q12 .normal (up (up (up σ14 20 (σ14 12)) 21 v21x15) 12 v21x15) H14) fun J14 =>
    lpE (fun Q16 σ16 H16 =>
      ob (vInt .lss (σ16 13) (σ16 4)) fun v24x17 =>
      cnd v24x17
        (ob (vFa 2 (σ16 11)) fun v27x18 =>
      ob (vLoad v27x18 H16) fun v28x19 =>
      ob (vInt .mul (σ16 12) (σ16 4)) fun v31x20 =>
      ob (vInt .add v31x20 (σ16 13)) fun v33x21 =>
      ob (vNilC (σ16 0)) fun v35x22 =>
      ob (vFa 2 v35x22) fun v36x23 =>
      ob (vLoad v36x23 H16) fun v37x24 =>
      ob (vInt .add (σ16 1) (σ16 12)) fun v40x25 =>
      ob (vNilC (σ16 0)) fun v42x26 =>
      ob (vFa 1 v42x26) fun v43x27 =>
      ob (vLoad v43x27 H16) fun v44x28 =>
      ob (vInt .mul v40x25 v44x28) fun v45x29 =>
      ob (vInt .add v45x29 (σ16 2)) fun v47x30 =>
      ob (vInt .add v47x30 (σ16 13)) fun v49x31 =>
      ob (vIx 1 v37x24 v49x31) fun v50x32 =>
      ob (vLoad v50x32 H16) fun v51x33 =>
      ob (vIx 1 v28x19 v33x21) fun v52x34 =>
      st 1 v52x34 v51x33 H16 fun H35 =>
      ob (vInt .add (σ16 13) (.int .i64 1)) fun v26x36 =>
      Q16 .normal (up (up (up (up (up (up (up (up (up (up (up (up (up (up (up (up (up (up (up (up (up (up (up (up (up (up (up (up (up (up (up (up σ16 22 (σ16 13)) 23 (σ16 4)) 24 v24x17) 27 v27x18) 28 v28x19) 29 (σ16 12)) 30 (σ16 4)) 31 v31x20) 32 (σ16 13)) 33 v33x21) 34 (σ16 0)) 35 v35x22) 36 v36x23) 37 v37x24) 38 (σ16 1)) 39 (σ16 12)) 40 v40x25) 41 (σ16 0)) 42 v42x26) 43 v43x27) 44 v44x28) 45 v45x29) 46 (σ16 2)) 47 v47x30) 48 (σ16 13)) 49 v49x31) 50 v50x32) 51 v51x33) 52 v52x34) 25 (σ16 13)) 26 v26x36) 13 v26x36) H35)
        (Q16 (.exit 2) (up (up (up σ16 22 (σ16 13)) 23 (σ16 4)) 24 v24x17) H16)) (blkQ 2 (blkQ 1 (thenQ J14 Q12))) (up (up (up (up σ12 17 (σ12 12)) 18 (σ12 3)) 19 v19x13) 13 (.int .i64 0)) H12)
      (Q12 (.exit 0) (up (up (up σ12 17 (σ12 12)) 18 (σ12 3)) 19 v19x13) H12)) (blkQ 0 (thenQ J8 (retQ prg [(.cell 10 36)] K))) (up (up (up (up (up (up (S0 [a0, a1, a2, a3, a4]) 10 v10x1) 14 a3) 15 a4) 16 v16x3) 11 v11x5) 12 (.int .i64 0)) H7
def O.spec_l05Cut : Nat → Nat × List Nat := fun i => bif Nat.beq i 8 then (0, [0, 1, 2, 3, 4, 5, 6, 7, 8, 9, 10, 11, 12, 13, 14, 15, 16, 17, 18, 19, 20, 21, 22, 23, 24, 25, 26]) else (0, [])
theorem R.spec_l05Cut {a0 a1 a2 a3 a4 : Value} {H : Hp} {K : Value → Hp → Prop} (h : F.spec_l05Cut a0 a1 a2 a3 a4 H K) : HT prg I.spec_l05Cut [a0, a1, a2, a3, a4].toArray H K :=
  HT_of_fev O.spec_l05Cut mixed Try.func83 (by kernel_rfl) (Eq.mpr (by kernel_rfl : fev prg O.spec_l05Cut Try.f83 [a0, a1, a2, a3, a4] H K = F.spec_l05Cut a0 a1 a2 a3 a4 H K) h)

/-! loop.example/g01381/spec.l05Trim: function 59 -/
def F.spec_l05Trim (a0 : Value) (H : Hp) (K : Value → Hp → Prop) : Prop :=
  nw #[(.int .i64 0), (.int .i64 0), (.slice none 0 0)] 36 H fun v2x1 H2 =>
  ob (vNilC a0) fun v13x3 =>
  ob (vFa 0 v13x3) fun v14x4 =>
  ob (vLoad v14x4 H2) fun v15x5 =>
  ob (vNilC a0) fun v17x6 =>
  ob (vFa 1 v17x6) fun v18x7 =>
  ob (vLoad v18x7 H2) fun v19x8 =>
  jn (fun σ9 H9 =>
    ob (vInt .lss (σ9 7) (.int .i64 0)) fun v64x10 =>
    cnd v64x10
      (ob (vBuild [(0, 1), (1, 1), (2, 1)] (.agg #[(.int .i64 0), (.int .i64 0), (.slice none 0 0)]) []) fun v65x11 =>
      st 3 (σ9 2) v65x11 H9 fun H12 =>
      ob (vLoadN 3 (σ9 2) H12) fun u13 => K (.tuple #[u13, (.int .i64 0), (.int .i64 0), (.bool false)]) H12)
      (ob (vInt .sub (σ9 7) (σ9 6)) fun v71x14 =>
    ob (vInt .add v71x14 (.int .i64 1)) fun v72x15 =>
    ob (vInt .sub (σ9 9) (σ9 8)) fun v75x16 =>
    ob (vInt .add v75x16 (.int .i64 1)) fun v76x17 =>
    HT prg I.spec_l05Cut [(σ9 0), (σ9 6), (σ9 8), v72x15, v76x17].toArray H9 fun v77x18 H19 =>
    st 3 (σ9 2) v77x18 H19 fun H20 =>
    ob (vLoadN 3 (σ9 2) H20) fun u21 => K (.tuple #[u21, (σ9 6), (σ9 8), (.bool true)]) H20)) fun J9 =>
  lpE (fun Q22 σ22 H22 =>
    ob (vNilC (σ22 0)) fun v22x23 =>
    ob (vFa 0 v22x23) fun v23x24 =>
    ob (vLoad v23x24 H22) fun v24x25 =>
    ob (vInt .lss (σ22 10) v24x25) fun v25x26 =>
    cnd v25x26
      (jn (fun σ27 H27 =>
      ob (vInt .add (σ27 10) (.int .i64 1)) fun v27x28 =>
      Q22 .normal (up (up (up σ27 26 (σ27 10)) 27 v27x28) 10 v27x28) H27) fun J27 =>
    lpE (fun Q29 σ29 H29 =>
      ob (vNilC (σ29 0)) fun v30x30 =>
      ob (vFa 1 v30x30) fun v31x31 =>
      ob (vLoad v31x31 H29) fun v32x32 =>
      ob (vInt .lss (σ29 11) v32x32) fun v33x33 =>
      cnd v33x33
        (ob (vNilC (σ29 0)) fun v37x34 =>
      ob (vFa 2 v37x34) fun v38x35 =>
      ob (vLoad v38x35 H29) fun v39x36 =>
      ob (vNilC (σ29 0)) fun v42x37 =>
      ob (vFa 1 v42x37) fun v43x38 =>
      ob (vLoad v43x38 H29) fun v44x39 =>
      ob (vInt .mul (σ29 10) v44x39) fun v45x40 =>
      ob (vInt .add v45x40 (σ29 11)) fun v47x41 =>
      ob (vIx 1 v39x36 v47x41) fun v48x42 =>
      ob (vLoad v48x42 H29) fun v49x43 =>
      ob (vInt .eql v49x43 (.int .i64 1)) fun v50x44 =>
      cnd v50x44
        (HT prg I.spec_l00Min [(σ29 6), (σ29 10)].toArray H29 fun v53x45 H46 =>
        HT prg I.spec_l00Max [(σ29 7), (σ29 10)].toArray H46 fun v56x47 H48 =>
        HT prg I.spec_l00Min [(σ29 8), (σ29 11)].toArray H48 fun v59x49 H50 =>
        HT prg I.spec_l00Max [(σ29 9), (σ29 11)].toArray H50 fun v62x51 H52 =>
        ob (vInt .add (σ29 11) (.int .i64 1)) fun v35x53 =>
      Q29 .normal (up (up (up (up (up (up (up (up (up (up (up (up (up (up (up (up (up (up (up (up (up (up (up (up (up (up (up (up (up (up (up (up (up (up (up (up (up (up (up (up σ29 28 (σ29 11)) 29 (σ29 0)) 30 v30x30) 31 v31x31) 32 v32x32) 33 v33x33) 36 (σ29 0)) 37 v37x34) 38 v38x35) 39 v39x36) 40 (σ29 10)) 41 (σ29 0)) 42 v42x37) 43 v43x38) 44 v44x39) 45 v45x40) 46 (σ29 11)) 47 v47x41) 48 v48x42) 49 v49x43) 50 v50x44) 51 (σ29 6)) 52 (σ29 10)) 53 v53x45) 6 v53x45) 54 (σ29 7)) 55 (σ29 10)) 56 v56x47) 7 v56x47) 57 (σ29 8)) 58 (σ29 11)) 59 v59x49) 8 v59x49) 60 (σ29 9)) 61 (σ29 11)) 62 v62x51) 9 v62x51) 34 (σ29 11)) 35 v35x53) 11 v35x53) H52)
        (ob (vInt .add (σ29 11) (.int .i64 1)) fun v35x54 =>
      Q29 .normal (up (up (up (up (up (up (up (up (up (up (up (up (up (up (up (up (up (up (up (up (up (up (up (up σ29 28 (σ29 11)) 29 (σ29 0)) 30 v30x30) 31 v31x31) 32 v32x32) 33 v33x33) 36 (σ29 0)) 37 v37x34) 38 v38x35) 39 v39x36) 40 (σ29 10)) 41 (σ29 0)) 42 v42x37) 43 v43x38) 44 v44x39) 45 v45x40) 46 (σ29 11)) 47 v47x41) 48 v48x42) 49 v49x43) 50 v50x44) 34 (σ29 11)) 35 v35x54) 11 v35x54) H29))
        (Q29 (.exit 2) (up (up (up (up (up (up σ29 28 (σ29 11)) 29 (σ29 0)) 30 v30x30) 31 v31x31) 32 v32x32) 33 v33x33) H29)) (blkQ 2 (blkQ 1 (thenQ J27 Q22))) (up (up (up (up (up (up (up σ22 20 (σ22 10)) 21 (σ22 0)) 22 v22x23) 23 v23x24) 24 v24x25) 25 v25x26) 11 (.int .i64 0)) H22)
      (Q22 (.exit 0) (up (up (up (up (up (up σ22 20 (σ22 10)) 21 (σ22 0)) 22 v22x23) 23 v23x24) 24 v24x25) 25 v25x26) H22)) (blkQ 0 (thenQ J9 (retQ prg [(.cell 2 36), (.tmp 3), (.tmp 4), (.tmp 5)] K))) (up (up (up (up (up (up (up (up (up (up (up (up (up (up (up (up (up (S0 [a0]) 2 v2x1) 3 (.int .i64 0)) 4 (.int .i64 0)) 5 (.bool false)) 12 a0) 13 v13x3) 14 v14x4) 15 v15x5) 6 v15x5) 7 (.int .i64 (-1))) 16 a0) 17 v17x6) 18 v18x7) 19 v19x8) 8 v19x8) 9 (.int .i64 (-1))) 10 (.int .i64 0)) H2
def O.spec_l05Trim : Nat → Nat × List Nat := fun i => bif Nat.beq i 11 then (0, [0, 1, 2, 3, 4, 5, 6, 7, 8, 9, 10, 11, 12, 13, 14]) else (0, [])
theorem R.spec_l05Trim {a0 : Value} {H : Hp} {K : Value → Hp → Prop} (h : F.spec_l05Trim a0 H K) : HT prg I.spec_l05Trim [a0].toArray H K :=
  HT_of_fev O.spec_l05Trim mixed Try.func59 (by kernel_rfl) (Eq.mpr (by kernel_rfl : fev prg O.spec_l05Trim Try.f59 [a0] H K = F.spec_l05Trim a0 H K) h)

/-! loop.example/g01381/spec.TrimField: function 28 -/
def F.spec_TrimField (a0 : Value) (H : Hp) (K : Value → Hp → Prop) : Prop :=
  nw (a0 : Value).cells 36 H fun v1x1 H2 =>
  nw #[(.int .i64 0), (.int .i64 0), (.slice none 0 0)] 36 H2 fun v2x3 H4 =>
  HT prg I.spec_l04Plain [v1x1].toArray H4 fun v6x5 H6 =>
  ob (vUn .not v6x5) fun v7x7 =>
  cnd v7x7
    (ob (vBuild [(0, 1), (1, 1), (2, 1)] (.agg #[(.int .i64 0), (.int .i64 0), (.slice none 0 0)]) []) fun v8x8 =>
    st 3 v2x3 v8x8 H6 fun H9 =>
    ob (vLoadN 3 v2x3 H9) fun u10 => K (.tuple #[u10, (.int .i64 0), (.int .i64 0), (.bool false)]) H9)
    (HT prg I.spec_l05Trim [v1x1].toArray H6 fun v9x11 H12 =>
  ob (vExt v9x11 0) fun v10x13 =>
  ob (vExt v9x11 1) fun v11x14 =>
  ob (vExt v9x11 2) fun v12x15 =>
  ob (vExt v9x11 3) fun v13x16 =>
  st 3 v2x3 v10x13 H12 fun H17 =>
  ob (vLoadN 3 v2x3 H17) fun u18 => K (.tuple #[u18, v11x14, v12x15, v13x16]) H17)
def O.spec_TrimField : Nat → Nat × List Nat := fun i => (0, [])
theorem R.spec_TrimField {a0 : Value} {H : Hp} {K : Value → Hp → Prop} (h : F.spec_TrimField a0 H K) : HT prg I.spec_TrimField [a0].toArray H K :=
  HT_of_fev O.spec_TrimField mixed Try.func28 (by kernel_rfl) (Eq.mpr (by kernel_rfl : fev prg O.spec_TrimField Try.f28 [a0] H K = F.spec_TrimField a0 H K) h)

/-! (loop.example/g01381/impl.Field).cut$1: function 95 -/
def F.impl_Field_cut_1 (a0 a1 a2 a3 a4 : Value) (H : Hp) (K : Value → Hp → Prop) : Prop :=
  ob (vLoadN 3 a2 H) fun v8x1 =>
  ob (vLoad a3 H) fun v9x2 =>
  ob (vInt .add v9x2 a0) fun v11x3 =>
  ob (vLoad a4 H) fun v12x4 =>
  ob (vInt .add v12x4 a1) fun v14x5 =>
  HT prg I.impl_Field_at [v8x1, v11x3, v14x5].toArray H fun v15x6 H7 =>
  K v15x6 H7
def O.impl_Field_cut_1 : Nat → Nat × List Nat := fun i => (0, [])
theorem R.impl_Field_cut_1 {a0 a1 a2 a3 a4 : Value} {H : Hp} {K : Value → Hp → Prop} (h : F.impl_Field_cut_1 a0 a1 a2 a3 a4 H K) : HT prg I.impl_Field_cut_1 [a0, a1, a2, a3, a4].toArray H K :=
  HT_of_fev O.impl_Field_cut_1 mixed Try.func95 (by kernel_rfl) (Eq.mpr (by kernel_rfl : fev prg O.impl_Field_cut_1 Try.f95 [a0, a1, a2, a3, a4] H K = F.impl_Field_cut_1 a0 a1 a2 a3 a4 H K) h)

/-! (loop.example/g01381/impl.Field).cut: function 84 -/
def F.impl_Field_cut (a0 a1 a2 a3 a4 : Value) (H : Hp) (K : Value → Hp → Prop) : Prop :=
  nw (a0 : Value).cells 36 H fun v5x1 H2 =>
  nw (a1 : Value).cells 2 H2 fun v6x3 H4 =>
  nw (a2 : Value).cells 2 H4 fun v7x5 H6 =>
  nw #[(.int .i64 0), (.int .i64 0), (.slice none 0 0)] 36 H6 fun v10x7 H8 =>
  HT prg I.impl_madeField [a3, a4, (.func (.func I.impl_Field_cut_1) #[] #[v5x1, v6x3, v7x5])].toArray H8 fun v14x9 H10 =>
  st 3 v10x7 v14x9 H10 fun H11 =>
  ob (vLoadN 3 v10x7 H11) fun u12 => K u12 H11
def O.impl_Field_cut : Nat → Nat × List Nat := fun i => (0, [])
theorem R.impl_Field_cut {a0 a1 a2 a3 a4 : Value} {H : Hp} {K : Value → Hp → Prop} (h : F.impl_Field_cut a0 a1 a2 a3 a4 H K) : HT prg I.impl_Field_cut [a0, a1, a2, a3, a4].toArray H K :=
  HT_of_fev O.impl_Field_cut mixed Try.func84 (by kernel_rfl) (Eq.mpr (by kernel_rfl : fev prg O.impl_Field_cut Try.f84 [a0, a1, a2, a3, a4] H K = F.impl_Field_cut a0 a1 a2 a3 a4 H K) h)

/-! (loop.example/g01381/impl.Field).trimmed: function 60 -/
def F.impl_Field_trimmed (a0 : Value) (H : Hp) (K : Value → Hp → Prop) : Prop :=
  nw (a0 : Value).cells 36 H fun v1x1 H2 =>
  nw #[(.int .i64 0), (.int .i64 0), (.slice none 0 0)] 36 H2 fun v2x3 H4 =>
  ob (vFa 0 v1x1) fun v14x5 =>
  ob (vLoad v14x5 H4) fun v15x6 =>
  ob (vFa 1 v1x1) fun v16x7 =>
  ob (vLoad v16x7 H4) fun v17x8 =>
  jn (fun σ9 H9 =>
    ob (vInt .lss (σ9 8) (.int .i64 0)) fun v50x10 =>
    cnd v50x10
      (ob (vBuild [(0, 1), (1, 1), (2, 1)] (.agg #[(.int .i64 0), (.int .i64 0), (.slice none 0 0)]) []) fun v51x11 =>
      st 3 (σ9 2) v51x11 H9 fun H12 =>
      ob (vLoadN 3 (σ9 2) H12) fun u13 => K (.tuple #[u13, (.int .i64 0), (.int .i64 0), (.bool false)]) H12)
      (ob (vLoadN 3 (σ9 1) H9) fun v52x14 =>
    ob (vInt .sub (σ9 8) (σ9 6)) fun v57x15 =>
    ob (vInt .add v57x15 (.int .i64 1)) fun v58x16 =>
    ob (vInt .sub (σ9 9) (σ9 7)) fun v61x17 =>
    ob (vInt .add v61x17 (.int .i64 1)) fun v62x18 =>
    HT prg I.impl_Field_cut [v52x14, (σ9 6), (σ9 7), v58x16, v62x18].toArray H9 fun v63x19 H20 =>
    st 3 (σ9 2) v63x19 H20 fun H21 =>
    ob (vLoadN 3 (σ9 2) H21) fun u22 => K (.tuple #[u22, (σ9 6), (σ9 7), (.bool true)]) H21)) fun J9 =>
  ob (vFa 2 v1x1) fun v18x23 =>
  ob (vLoad v18x23 H4) fun v19x24 =>
  ob (vLenSl v19x24) fun v20x25 =>
  lpE (fun Q26 σ26 H26 =>
    ob (vInt .lss (σ26 21) (σ26 20)) fun v22x27 =>
    cnd v22x27
      (ob (vIx 1 (σ26 19) (σ26 21)) fun v24x28 =>
    ob (vLoad v24x28 H26) fun v25x29 =>
    ob (vInt .eql v25x29 (.int .i64 1)) fun v27x30 =>
    cnd v27x30
      (ob (vFa 1 (σ26 1)) fun v29x31 =>
      ob (vLoad v29x31 H26) fun v30x32 =>
      ob (vInt .quo (σ26 21) v30x32) fun v31x33 =>
      ob (vFa 1 (σ26 1)) fun v33x34 =>
      ob (vLoad v33x34 H26) fun v34x35 =>
      ob (vInt .rem (σ26 21) v34x35) fun v35x36 =>
      ob (vMx false (σ26 6) [v31x33]) fun v38x37 =>
      ob (vMx false (σ26 7) [v35x36]) fun v41x38 =>
      ob (vMx true (σ26 8) [v31x33]) fun v44x39 =>
      ob (vMx true (σ26 9) [v35x36]) fun v47x40 =>
      ob (vInt .add (σ26 21) (.int .i64 1)) fun v48x41 =>
    Q26 .normal (up (up (up (up (up (up (up (up (up (up (up (up (up (up (up (up (up (up (up (up (up (up (up (up (up (up (up (up (up (up (up (up (up (up (up (up σ26 22 v22x27) 23 (σ26 21)) 24 v24x28) 25 v25x29) 10 (σ26 21)) 11 v25x29) 26 v25x29) 27 v27x30) 28 (σ26 21)) 29 v29x31) 30 v30x32) 31 v31x33) 32 (σ26 21)) 33 v33x34) 34 v34x35) 35 v35x36) 12 v31x33) 13 v35x36) 36 (σ26 6)) 37 v31x33) 38 v38x37) 39 (σ26 7)) 40 v35x36) 41 v41x38) 42 (σ26 8)) 43 v31x33) 44 v44x39) 45 (σ26 9)) 46 v35x36) 47 v47x40) 6 v38x37) 7 v41x38) 8 v44x39) 9 v47x40) 48 v48x41) 21 v48x41) H26)
      (ob (vInt .add (σ26 21) (.int .i64 1)) fun v48x42 =>
    Q26 .normal (up (up (up (up (up (up (up (up (up (up σ26 22 v22x27) 23 (σ26 21)) 24 v24x28) 25 v25x29) 10 (σ26 21)) 11 v25x29) 26 v25x29) 27 v27x30) 48 v48x42) 21 v48x42) H26))
      (Q26 (.exit 0) (up σ26 22 v22x27) H26)) (blkQ 0 (thenQ J9 (retQ prg [(.cell 2 36), (.tmp 3), (.tmp 4), (.tmp 5)] K))) (up (up (up (up (up (up (up (up (up (up (up (up (up (up (up (up (up (S0 [a0]) 1 v1x1) 2 v2x3) 3 (.int .i64 0)) 4 (.int .i64 0)) 5 (.bool false)) 14 v14x5) 15 v15x6) 16 v16x7) 17 v17x8) 6 v15x6) 7 v17x8) 8 (.int .i64 (-1))) 9 (.int .i64 (-1))) 18 v18x23) 19 v19x24) 20 v20x25) 21 (.int .i64 0)) H4
def O.impl_Field_trimmed : Nat → Nat × List Nat := fun i => bif Nat.beq i 1 then (0, [0, 1, 2, 3, 4, 5, 6, 7]) else bif Nat.beq i 6 then (0, [0, 1, 2, 3, 4, 5, 6, 7, 8, 9]) else (0, [])
theorem R.impl_Field_trimmed {a0 : Value} {H : Hp} {K : Value → Hp → Prop} (h : F.impl_Field_trimmed a0 H K) : HT prg I.impl_Field_trimmed [a0].toArray H K :=
  HT_of_fev O.impl_Field_trimmed mixed Try.func60 (by kernel_rfl) (Eq.mpr (by kernel_rfl : fev prg O.impl_Field_trimmed Try.f60 [a0] H K = F.impl_Field_trimmed a0 H K) h)

/-! loop.example/g01381/impl.TrimField: function 29 -/
def F.impl_TrimField (a0 : Value) (H : Hp) (K : Value → Hp → Prop) : Prop :=
  nw (a0 : Value).cells 36 H fun v1x1 H2 =>
  nw #[(.int .i64 0), (.int .i64 0), (.slice none 0 0)] 36 H2 fun v2x3 H4 =>
  ob (vLoadN 3 v1x1 H4) fun v6x5 =>
  HT prg I.impl_isPlain [v6x5].toArray H4 fun v7x6 H7 =>
  ob (vUn .not v7x6) fun v8x8 =>
  cnd v8x8
    (ob (vBuild [(0, 1), (1, 1), (2, 1)] (.agg #[(.int .i64 0), (.int .i64 0), (.slice none 0 0)]) []) fun v9x9 =>
    st 3 v2x3 v9x9 H7 fun H10 =>
    ob (vLoadN 3 v2x3 H10) fun u11 => K (.tuple #[u11, (.int .i64 0), (.int .i64 0), (.bool false)]) H10)
    (ob (vLoadN 3 v1x1 H7) fun v10x12 =>
  HT prg I.impl_Field_trimmed [v10x12].toArray H7 fun v11x13 H14 =>
  ob (vExt v11x13 0) fun v12x15 =>
  ob (vExt v11x13 1) fun v13x16 =>
  ob (vExt v11x13 2) fun v14x17 =>
  ob (vExt v11x13 3) fun v15x18 =>
  st 3 v2x3 v12x15 H14 fun H19 =>
  ob (vLoadN 3 v2x3 H19) fun u20 => K (.tuple #[u20, v13x16, v14x17, v15x18]) H19)
def O.impl_TrimField : Nat → Nat × List Nat := fun i => (0, [])
theorem R.impl_TrimField {a0 : Value} {H : Hp} {K : Value → Hp → Prop} (h : F.impl_TrimField a0 H K) : HT prg I.impl_TrimField [a0].toArray H K :=
  HT_of_fev O.impl_TrimField mixed Try.func29 (by kernel_rfl) (Eq.mpr (by kernel_rfl : fev prg O.impl_TrimField Try.f29 [a0] H K = F.impl_TrimField a0 H K) h)

end Go.Proofs.Ytnndhafldmkdeaa
