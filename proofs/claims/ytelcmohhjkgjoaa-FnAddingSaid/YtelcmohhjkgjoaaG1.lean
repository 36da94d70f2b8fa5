/- Functions' texts over a partial heap. -/
import Derived.Test.YtelcmohhjkgjoaaG0
namespace Go.Proofs.Ytelcmohhjkgjoaa
open HL
set_option linter.unusedVariables false
set_option maxRecDepth 100000
set_option maxHeartbeats 4000000
/-! loop.example/g01381/spec.l00In: function 83 -/
def F.spec_l00In (a0 a1 a2 : Value) (H : Hp) (K : Value → Hp → Prop) : Prop :=
  ob (vInt .geq a0 a1) fun v9x1 =>
  gop v9x1 true (fun K2 => K2 a0 H) H fun v11x3 H4 =>
  gop v9x1 true (fun K5 => K5 a2 H4) H4 fun v12x6 H7 =>
  gop v9x1 true (fun K8 => ob (vInt .leq v11x3 v12x6) fun u => K8 u H7) H7 fun v13x9 H10 =>
  ob (vPick v9x1 v13x9 (.bool false)) fun v14x11 =>
  K v14x11 H10
def O.spec_l00In : Nat → Nat × List Nat := fun i => (0, [])
theorem R.spec_l00In {a0 a1 a2 : Value} {H : Hp} {K : Value → Hp → Prop} (h : F.spec_l00In a0 a1 a2 H K) : HT prg I.spec_l00In [a0, a1, a2].toArray H K :=
  HT_of_fev O.spec_l00In mixed Try.func83 (by kernel_rfl) (Eq.mpr (by kernel_rfl : fev prg O.spec_l00In Try.f83 [a0, a1, a2] H K = F.spec_l00In a0 a1 a2 H K) h)

/-! loop.example/g01381/spec.l02Ring: function 82 -/
def F.spec_l02Ring (a0 a1 : Value) (H : Hp) (K : Value → Hp → Prop) : Prop :=
  jn (fun σ1 H1 =>
    ob (vLenSl (σ1 0)) fun v21x2 =>
    ob (vInt .geq v21x2 (.int .i64 1)) fun v22x3 =>
    gop v22x3 true (fun K4 => K4 (σ1 0) H1) H1 fun v24x5 H6 =>
    gop v22x3 true (fun K7 => ob (vLenSl v24x5) fun u => K7 u H6) H6 fun v25x8 H9 =>
    gop v22x3 true (fun K10 => ob (vInt .leq v25x8 (.int .i64 64)) fun u => K10 u H9) H9 fun v26x11 H12 =>
    ob (vPick v22x3 v26x11 (.bool false)) fun v27x13 =>
    K v27x13 H12) fun J1 =>
  lpE (fun Q14 σ14 H14 =>
    ob (vLenSl (σ14 0)) fun v8x15 =>
    ob (vInt .lss (σ14 5) v8x15) fun v9x16 =>
    cnd v9x16
      (ob (vIx 1 (σ14 0) (σ14 5)) fun v14x17 =>
    ob (vLoad v14x17 H14) fun v15x18 =>
    ob (vInt .sub (σ14 1) (.int .i64 1)) fun v17x19 =>
    HT prg I.spec_l00In [v15x18, (.int .i64 0), v17x19].toArray H14 fun v18x20 H21 =>
    ob (vUn .not v18x20) fun v19x22 =>
    cnd v19x22
      (Q14 .ret (up (up (up (up (up (up (up (up (up (up (up (up (up σ14 6 (σ14 5)) 7 (σ14 0)) 8 v8x15) 9 v9x16) 12 (σ14 0)) 13 (σ14 5)) 14 v14x17) 15 v15x18) 16 (σ14 1)) 17 v17x19) 18 v18x20) 19 v19x22) 4 (.bool false)) H21)
      (ob (vInt .add (σ14 5) (.int .i64 1)) fun v11x23 =>
    Q14 .normal (up (up (up (up (up (up (up (up (up (up (up (up (up (up (up σ14 6 (σ14 5)) 7 (σ14 0)) 8 v8x15) 9 v9x16) 12 (σ14 0)) 13 (σ14 5)) 14 v14x17) 15 v15x18) 16 (σ14 1)) 17 v17x19) 18 v18x20) 19 v19x22) 10 (σ14 5)) 11 v11x23) 5 v11x23) H21))
      (Q14 (.exit 0) (up (up (up (up σ14 6 (σ14 5)) 7 (σ14 0)) 8 v8x15) 9 v9x16) H14)) (blkQ 0 (thenQ J1 (retQ prg [(.tmp 4)] K))) (up (up (S0 [a0, a1]) 4 (.bool false)) 5 (.int .i64 0)) H
def O.spec_l02Ring : Nat → Nat × List Nat := fun i => (0, [])
theorem R.spec_l02Ring {a0 a1 : Value} {H : Hp} {K : Value → Hp → Prop} (h : F.spec_l02Ring a0 a1 H K) : HT prg I.spec_l02Ring [a0, a1].toArray H K :=
  HT_of_fev O.spec_l02Ring mixed Try.func82 (by kernel_rfl) (Eq.mpr (by kernel_rfl : fev prg O.spec_l02Ring Try.f82 [a0, a1] H K = F.spec_l02Ring a0 a1 H K) h)

/-! loop.example/g01381/spec.l02Turned: function 84 -/
def F.spec_l02Turned (a0 a1 : Value) (H : Hp) (K : Value → Hp → Prop) : Prop :=
  bS 1 0 #[(.int .i64 0)] 2 [] H fun v8x1 H2 =>
  ob (vLenSl a0) fun v10x3 =>
  jn (fun σ4 H4 =>
    K (σ4 5) H4) fun J4 =>
  lpE (fun Q5 σ5 H5 =>
    ob (vInt .lss (σ5 7) (σ5 6)) fun v13x6 =>
    cnd v13x6
      (ob (vInt .add (σ5 7) (σ5 1)) fun v20x7 =>
    ob (vInt .rem v20x7 (σ5 6)) fun v22x8 =>
    ob (vIx 1 (σ5 0) v22x8) fun v23x9 =>
    ob (vLoad v23x9 H5) fun v24x10 =>
    bS 1 1 #[(.int .i64 0)] 2 [(0, v24x10)] H5 fun v25x11 H12 =>
    apd 1 8 #[(.int .i64 0)] 2 (σ5 5) v25x11 H12 fun v26x13 H14 =>
    ob (vInt .add (σ5 7) (.int .i64 1)) fun v15x15 =>
    Q5 .normal (up (up (up (up (up (up (up (up (up (up (up (up (up (up (up (up (up (up σ5 11 (σ5 7)) 12 (σ5 6)) 13 v13x6) 16 (σ5 5)) 17 (σ5 0)) 18 (σ5 7)) 19 (σ5 1)) 20 v20x7) 21 (σ5 6)) 22 v22x8) 23 v23x9) 24 v24x10) 25 v25x11) 26 v26x13) 5 v26x13) 14 (σ5 7)) 15 v15x15) 7 v15x15) H14)
      (Q5 (.exit 0) (up (up (up σ5 11 (σ5 7)) 12 (σ5 6)) 13 v13x6) H5)) (blkQ 0 (thenQ J4 (retQ prg [(.tmp 4)] K))) (up (up (up (up (up (up (up (S0 [a0, a1]) 4 (.slice none 0 0)) 8 v8x1) 5 v8x1) 9 a0) 10 v10x3) 6 v10x3) 7 (.int .i64 0)) H2
def O.spec_l02Turned : Nat → Nat × List Nat := fun i => (0, [])
theorem R.spec_l02Turned {a0 a1 : Value} {H : Hp} {K : Value → Hp → Prop} (h : F.spec_l02Turned a0 a1 H K) : HT prg I.spec_l02Turned [a0, a1].toArray H K :=
  HT_of_fev O.spec_l02Turned mixed Try.func84 (by kernel_rfl) (Eq.mpr (by kernel_rfl : fev prg O.spec_l02Turned Try.f84 [a0, a1] H K = F.spec_l02Turned a0 a1 H K) h)

/-! loop.example/g01381/spec.TurnRing: function 14 -/
def F.spec_TurnRing (a0 a1 : Value) (H : Hp) (K : Value → Hp → Prop) : Prop :=
  HT prg I.spec_l02Ring [a0, (.int .i64 3)].toArray H fun v7x1 H2 =>
  ob (vUn .not v7x1) fun v8x3 =>
  gop v8x3 false (fun K4 => K4 a1 H2) H2 fun v10x5 H6 =>
  gop v8x3 false (fun K7 => HT prg I.spec_l00In [v10x5, (.int .i64 0), (.int .i64 64)].toArray H6 K7) H6 fun v11x8 H9 =>
  gop v8x3 false (fun K10 => ob (vUn .not v11x8) fun u => K10 u H9) H9 fun v12x11 H12 =>
  ob (vPick v8x3 (.bool true) v12x11) fun v13x13 =>
  cnd v13x13
    (K (.tuple #[(.slice none 0 0), (.bool false)]) H12)
    (HT prg I.spec_l02Turned [a0, a1].toArray H12 fun v16x14 H15 =>
  K (.tuple #[v16x14, (.bool true)]) H15)
def O.spec_TurnRing : Nat → Nat × List Nat := fun i => (0, [])
theorem R.spec_TurnRing {a0 a1 : Value} {H : Hp} {K : Value → Hp → Prop} (h : F.spec_TurnRing a0 a1 H K) : HT prg I.spec_TurnRing [a0, a1].toArray H K :=
  HT_of_fev O.spec_TurnRing mixed Try.func14 (by kernel_rfl) (Eq.mpr (by kernel_rfl : fev prg O.spec_TurnRing Try.f14 [a0, a1] H K = F.spec_TurnRing a0 a1 H K) h)

/-! loop.example/g01381/laws.toInt64S: function 15 -/
def F.laws_toInt64S (a0 : Value) (H : Hp) (K : Value → Hp → Prop) : Prop :=
  ob (vLenSl a0) fun v6x1 =>
  mkS 1 8 #[(.int .i64 0)] 2 v6x1 v6x1 H fun v7x2 H3 =>
  jn (fun σ4 H4 =>
    K (σ4 3) H4) fun J4 =>
  lpE (fun Q5 σ5 H5 =>
    ob (vLenSl (σ5 0)) fun v10x6 =>
    ob (vInt .lss (σ5 4) v10x6) fun v11x7 =>
    cnd v11x7
      (ob (vIx 1 (σ5 0) (σ5 4)) fun v18x8 =>
    ob (vLoad v18x8 H5) fun v19x9 =>
    ob (vIx 1 (σ5 3) (σ5 4)) fun v20x10 =>
    st 1 v20x10 v19x9 H5 fun H11 =>
    ob (vInt .add (σ5 4) (.int .i64 1)) fun v13x12 =>
    Q5 .normal (up (up (up (up (up (up (up (up (up (up (up (up (up (up σ5 8 (σ5 4)) 9 (σ5 0)) 10 v10x6) 11 v11x7) 14 (σ5 3)) 15 (σ5 4)) 16 (σ5 0)) 17 (σ5 4)) 18 v18x8) 19 v19x9) 20 v20x10) 12 (σ5 4)) 13 v13x12) 4 v13x12) H11)
      (Q5 (.exit 0) (up (up (up (up σ5 8 (σ5 4)) 9 (σ5 0)) 10 v10x6) 11 v11x7) H5)) (blkQ 0 (thenQ J4 (retQ prg [(.tmp 2)] K))) (up (up (up (up (up (up (S0 [a0]) 2 (.slice none 0 0)) 5 a0) 6 v6x1) 7 v7x2) 3 v7x2) 4 (.int .i64 0)) H3
def O.laws_toInt64S : Nat → Nat × List Nat := fun i => (0, [])
theorem R.laws_toInt64S {a0 : Value} {H : Hp} {K : Value → Hp → Prop} (h : F.laws_toInt64S a0 H K) : HT prg I.laws_toInt64S [a0].toArray H K :=
  HT_of_fev O.laws_toInt64S mixed Try.func15 (by kernel_rfl) (Eq.mpr (by kernel_rfl : fev prg O.laws_toInt64S Try.f15 [a0] H K = F.laws_toInt64S a0 H K) h)

/-! loop.example/g01381/impl.areStates: function 94 -/
def F.impl_areStates (a0 : Value) (H : Hp) (K : Value → Hp → Prop) : Prop :=
  ob (vInt .eql a0 (.int .i64 2)) fun v4x1 =>
  gop v4x1 false (fun K2 => K2 a0 H) H fun v6x3 H4 =>
  gop v4x1 false (fun K5 => ob (vInt .eql v6x3 (.int .i64 3)) fun u => K5 u H4) H4 fun v7x6 H7 =>
  ob (vPick v4x1 (.bool true) v7x6) fun v8x8 =>
  K v8x8 H7
def O.impl_areStates : Nat → Nat × List Nat := fun i => (0, [])
theorem R.impl_areStates {a0 : Value} {H : Hp} {K : Value → Hp → Prop} (h : F.impl_areStates a0 H K) : HT prg I.impl_areStates [a0].toArray H K :=
  HT_of_fev O.impl_areStates mixed Try.func94 (by kernel_rfl) (Eq.mpr (by kernel_rfl : fev prg O.impl_areStates Try.f94 [a0] H K = F.impl_areStates a0 H K) h)

/-! loop.example/g01381/impl.within: function 85 -/
def F.impl_within (a0 a1 a2 : Value) (H : Hp) (K : Value → Hp → Prop) : Prop :=
  ob (vInt .geq a0 a1) fun v9x1 =>
  gop v9x1 true (fun K2 => K2 a0 H) H fun v11x3 H4 =>
  gop v9x1 true (fun K5 => K5 a2 H4) H4 fun v12x6 H7 =>
  gop v9x1 true (fun K8 => ob (vInt .leq v11x3 v12x6) fun u => K8 u H7) H7 fun v13x9 H10 =>
  ob (vPick v9x1 v13x9 (.bool false)) fun v14x11 =>
  K v14x11 H10
def O.impl_within : Nat → Nat × List Nat := fun i => (0, [])
theorem R.impl_within {a0 a1 a2 : Value} {H : Hp} {K : Value → Hp → Prop} (h : F.impl_within a0 a1 a2 H K) : HT prg I.impl_within [a0, a1, a2].toArray H K :=
  HT_of_fev O.impl_within mixed Try.func85 (by kernel_rfl) (Eq.mpr (by kernel_rfl : fev prg O.impl_within Try.f85 [a0, a1, a2] H K = F.impl_within a0 a1 a2 H K) h)

/-! loop.example/g01381/impl.areWithin: function 174 -/
def F.impl_areWithin (a0 a1 a2 : Value) (H : Hp) (K : Value → Hp → Prop) : Prop :=
  jn (fun σ1 H1 =>
    K (.bool true) H1) fun J1 =>
  ob (vLenSl a0) fun v10x2 =>
  lpE (fun Q3 σ3 H3 =>
    ob (vInt .lss (σ3 11) (σ3 10)) fun v12x4 =>
    cnd v12x4
      (ob (vIx 1 (σ3 9) (σ3 11)) fun v13x5 =>
    ob (vLoad v13x5 H3) fun v14x6 =>
    HT prg I.impl_within [v14x6, (σ3 1), (σ3 2)].toArray H3 fun v18x7 H8 =>
    ob (vUn .not v18x7) fun v19x9 =>
    cnd v19x9
      (Q3 .ret (up (up (up (up (up (up (up (up (up (up σ3 12 v12x4) 13 v13x5) 14 v14x6) 8 v14x6) 15 v14x6) 16 (σ3 1)) 17 (σ3 2)) 18 v18x7) 19 v19x9) 6 (.bool false)) H8)
      (ob (vInt .add (σ3 11) (.int .i64 1)) fun v20x10 =>
    Q3 .normal (up (up (up (up (up (up (up (up (up (up (up σ3 12 v12x4) 13 v13x5) 14 v14x6) 8 v14x6) 15 v14x6) 16 (σ3 1)) 17 (σ3 2)) 18 v18x7) 19 v19x9) 20 v20x10) 11 v20x10) H8))
      (Q3 (.exit 0) (up σ3 12 v12x4) H3)) (blkQ 0 (thenQ J1 (retQ prg [(.tmp 6)] K))) (up (up (up (up (S0 [a0, a1, a2]) 6 (.bool false)) 9 a0) 10 v10x2) 11 (.int .i64 0)) H
def O.impl_areWithin : Nat → Nat × List Nat := fun i => (0, [])
theorem R.impl_areWithin {a0 a1 a2 : Value} {H : Hp} {K : Value → Hp → Prop} (h : F.impl_areWithin a0 a1 a2 H K) : HT prg I.impl_areWithin [a0, a1, a2].toArray H K :=
  HT_of_fev O.impl_areWithin mixed Try.func174 (by kernel_rfl) (Eq.mpr (by kernel_rfl : fev prg O.impl_areWithin Try.f174 [a0, a1, a2] H K = F.impl_areWithin a0 a1 a2 H K) h)

/-! loop.example/g01381/impl.areMany: function 97 -/
def F.impl_areMany (a0 a1 a2 a3 a4 : Value) (H : Hp) (K : Value → Hp → Prop) : Prop :=
  ob (vLenSl a0) fun v12x1 =>
  HT prg I.impl_within [v12x1, a1, a2].toArray H fun v15x2 H3 =>
  gop v15x2 true (fun K4 => K4 a0 H3) H3 fun v17x5 H6 =>
  gop v15x2 true (fun K7 => K7 a3 H6) H6 fun v18x8 H9 =>
  gop v15x2 true (fun K10 => K10 a4 H9) H9 fun v19x11 H12 =>
  gop v15x2 true (fun K13 => HT prg I.impl_areWithin [v17x5, v18x8, v19x11].toArray H12 K13) H12 fun v20x14 H15 =>
  ob (vPick v15x2 v20x14 (.bool false)) fun v21x16 =>
  K v21x16 H15
def O.impl_areMany : Nat → Nat × List Nat := fun i => (0, [])
theorem R.impl_areMany {a0 a1 a2 a3 a4 : Value} {H : Hp} {K : Value → Hp → Prop} (h : F.impl_areMany a0 a1 a2 a3 a4 H K) : HT prg I.impl_areMany [a0, a1, a2, a3, a4].toArray H K :=
  HT_of_fev O.impl_areMany mixed Try.func97 (by kernel_rfl) (Eq.mpr (by kernel_rfl : fev prg O.impl_areMany Try.f97 [a0, a1, a2, a3, a4] H K = F.impl_areMany a0 a1 a2 a3 a4 H K) h)

/-! loop.example/g01381/impl.IsRing: function 29 -/
def F.impl_IsRing (a0 a1 : Value) (H : Hp) (K : Value → Hp → Prop) : Prop :=
  HT prg I.impl_areStates [a1].toArray H fun v6x1 H2 =>
  gop v6x1 true (fun K3 => K3 a0 H2) H2 fun v8x4 H5 =>
  gop v6x1 true (fun K6 => K6 a1 H5) H5 fun v9x7 H8 =>
  gop v6x1 true (fun K9 => ob (vInt .sub v9x7 (.int .i64 1)) fun u => K9 u H8) H8 fun v10x10 H11 =>
  gop v6x1 true (fun K12 => HT prg I.impl_areMany [v8x4, (.int .i64 1), (.int .i64 64), (.int .i64 0), v10x10].toArray H11 K12) H11 fun v11x13 H14 =>
  ob (vPick v6x1 v11x13 (.bool false)) fun v12x15 =>
  K v12x15 H14
def O.impl_IsRing : Nat → Nat × List Nat := fun i => (0, [])
theorem R.impl_IsRing {a0 a1 : Value} {H : Hp} {K : Value → Hp → Prop} (h : F.impl_IsRing a0 a1 H K) : HT prg I.impl_IsRing [a0, a1].toArray H K :=
  HT_of_fev O.impl_IsRing mixed Try.func29 (by kernel_rfl) (Eq.mpr (by kernel_rfl : fev prg O.impl_IsRing Try.f29 [a0, a1] H K = F.impl_IsRing a0 a1 H K) h)

/-! slices.Grow[[]int64,int64]: function 198 -/
def F.slices_Grow_int64Zint64 (a0 a1 : Value) (H : Hp) (K : Value → Hp → Prop) : Prop :=
  jn (fun σ1 H1 =>
    ob (vCapSl (σ1 0)) fun v10x2 =>
    ob (vLenSl (σ1 0)) fun v12x3 =>
    ob (vInt .sub v10x2 v12x3) fun v13x4 =>
    ob (vInt .sub (σ1 1) v13x4) fun v14x5 =>
    ob (vInt .gtr v14x5 (.int .i64 0)) fun v16x6 =>
    cnd v16x6
      (ob (vCapSl (σ1 0)) fun v19x7 =>
      ob (vSl3 1 (σ1 0) none (some v19x7) none) fun v20x8 =>
      apm 1 8 #[(.int .i64 0)] 2 v20x8 v14x5 H1 fun v22x9 H10 =>
      ob (vLenSl (σ1 0)) fun v24x11 =>
      ob (vSl3 1 v22x9 none (some v24x11) none) fun v25x12 =>
      K v25x12 H10)
      (K (σ1 0) H1)) fun J1 =>
  ob (vInt .lss a1 (.int .i64 0)) fun v6x13 =>
  cnd v6x13
    (ob (val prg (Instr.makeInterface 9 (.string ⟨#[99, 97, 110, 110, 111, 116, 32, 98, 101, 32, 110, 101, 103, 97, 116, 105, 118, 101]⟩)) H) fun v7x14 =>
    hp prg (do pure (Next.value (← Instr.panic v7x14))) H (nextH prg (fun _ H15 =>
    J1 (up (up (up (up (S0 [a0, a1]) 4 (.slice none 0 0)) 5 a1) 6 v6x13) 7 v7x14) H15)))
    (J1 (up (up (up (S0 [a0, a1]) 4 (.slice none 0 0)) 5 a1) 6 v6x13) H)
def O.slices_Grow_int64Zint64 : Nat → Nat × List Nat := fun i => (0, [])
theorem R.slices_Grow_int64Zint64 {a0 a1 : Value} {H : Hp} {K : Value → Hp → Prop} (h : F.slices_Grow_int64Zint64 a0 a1 H K) : HT prg I.slices_Grow_int64Zint64 [a0, a1].toArray H K :=
  HT_of_fev O.slices_Grow_int64Zint64 mixed Try.func198 (by kernel_rfl) (Eq.mpr (by kernel_rfl : fev prg O.slices_Grow_int64Zint64 Try.f198 [a0, a1] H K = F.slices_Grow_int64Zint64 a0 a1 H K) h)

/-! slices.Concat[[]int64,int64]: function 167 -/
def F.slices_Concat_int64Zint64 (a0 : Value) (H : Hp) (K : Value → Hp → Prop) : Prop :=
  jn (fun σ1 H1 =>
    HT prg I.slices_Grow_int64Zint64 [(.slice none 0 0), (σ1 3)].toArray H1 fun v24x2 H3 =>
    jn (fun σ4 H4 =>
      K (σ4 6) H4) fun J4 =>
    ob (vLenSl (σ1 0)) fun v26x5 =>
    lpE (fun Q6 σ6 H6 =>
      ob (vInt .lss (σ6 27) (σ6 26)) fun v28x7 =>
      cnd v28x7
        (ob (vIx 1 (σ6 25) (σ6 27)) fun v29x8 =>
      ob (vLoad v29x8 H6) fun v30x9 =>
      apd 1 8 #[(.int .i64 0)] 2 (σ6 6) v30x9 H6 fun v33x10 H11 =>
      ob (vInt .add (σ6 27) (.int .i64 1)) fun v34x12 =>
      Q6 .normal (up (up (up (up (up (up (up (up (up (up σ6 28 v28x7) 29 v29x8) 30 v30x9) 8 v30x9) 31 (σ6 6)) 32 v30x9) 33 v33x10) 6 v33x10) 34 v34x12) 27 v34x12) H11)
        (Q6 (.exit 2) (up σ6 28 v28x7) H6)) (blkQ 2 (thenQ J4 (retQ prg [(.tmp 2)] K))) (up (up (up (up (up (up σ1 23 (σ1 3)) 24 v24x2) 6 v24x2) 25 (σ1 0)) 26 v26x5) 27 (.int .i64 0)) H3) fun J1 =>
  ob (vLenSl a0) fun v10x13 =>
  lpE (fun Q14 σ14 H14 =>
    ob (vInt .lss (σ14 11) (σ14 10)) fun v12x15 =>
    cnd v12x15
      (ob (vIx 1 (σ14 9) (σ14 11)) fun v13x16 =>
    ob (vLoad v13x16 H14) fun v14x17 =>
    ob (vLenSl v14x17) fun v17x18 =>
    ob (vInt .add (σ14 3) v17x18) fun v18x19 =>
    ob (vInt .lss v18x19 (.int .i64 0)) fun v20x20 =>
    cnd v20x20
      (ob (val prg (Instr.makeInterface 9 (.string ⟨#[108, 101, 110, 32, 111, 117, 116, 32, 111, 102, 32, 114, 97, 110, 103, 101]⟩)) H14) fun v21x21 =>
      hp prg (do pure (Next.value (← Instr.panic v21x21))) H14 (nextH prg (fun _ H22 =>
      ob (vInt .add (σ14 11) (.int .i64 1)) fun v22x23 =>
    Q14 .normal (up (up (up (up (up (up (up (up (up (up (up (up (up (up σ14 12 v12x15) 13 v13x16) 14 v14x17) 5 v14x17) 15 (σ14 3)) 16 v14x17) 17 v17x18) 18 v18x19) 3 v18x19) 19 v18x19) 20 v20x20) 21 v21x21) 22 v22x23) 11 v22x23) H22)))
      (ob (vInt .add (σ14 11) (.int .i64 1)) fun v22x24 =>
    Q14 .normal (up (up (up (up (up (up (up (up (up (up (up (up (up σ14 12 v12x15) 13 v13x16) 14 v14x17) 5 v14x17) 15 (σ14 3)) 16 v14x17) 17 v17x18) 18 v18x19) 3 v18x19) 19 v18x19) 20 v20x20) 22 v22x24) 11 v22x24) H14))
      (Q14 (.exit 0) (up σ14 12 v12x15) H14)) (blkQ 0 (thenQ J1 (retQ prg [(.tmp 2)] K))) (up (up (up (up (up (S0 [a0]) 2 (.slice none 0 0)) 3 (.int .i64 0)) 9 a0) 10 v10x13) 11 (.int .i64 0)) H
def O.slices_Concat_int64Zint64 : Nat → Nat × List Nat := fun i => (0, [])
theorem R.slices_Concat_int64Zint64 {a0 : Value} {H : Hp} {K : Value → Hp → Prop} (h : F.slices_Concat_int64Zint64 a0 H K) : HT prg I.slices_Concat_int64Zint64 [a0].toArray H K :=
  HT_of_fev O.slices_Concat_int64Zint64 mixed Try.func167 (by kernel_rfl) (Eq.mpr (by kernel_rfl : fev prg O.slices_Concat_int64Zint64 Try.f167 [a0] H K = F.slices_Concat_int64Zint64 a0 H K) h)

/-! loop.example/g01381/impl.turned: function 86 -/
def F.impl_turned (a0 a1 : Value) (H : Hp) (K : Value → Hp → Prop) : Prop :=
  ob (vLenSl a0) fun v7x1 =>
  ob (vInt .rem a1 v7x1) fun v8x2 =>
  ob (vSl3 1 a0 (some v8x2) none none) fun v11x3 =>
  ob (vSl3 1 a0 none (some v8x2) none) fun v14x4 =>
  bS 1 2 #[(.slice none 0 0)] 22 [(0, v11x3), (1, v14x4)] H fun v15x5 H6 =>
  HT prg I.slices_Concat_int64Zint64 [v15x5].toArray H6 fun v16x7 H8 =>
  Le H6 H8 ∧ (K v16x7 H8)
def O.impl_turned : Nat → Nat × List Nat := fun i => bif Nat.beq i 2 then (0, [0, 1, 2, 3, 4, 5, 6, 7, 8]) else (0, [])
theorem R.impl_turned {a0 a1 : Value} {H : Hp} {K : Value → Hp → Prop} (h : F.impl_turned a0 a1 H K) : HT prg I.impl_turned [a0, a1].toArray H K :=
  HT_of_fev O.impl_turned mixed Try.func86 (by kernel_rfl) (Eq.mpr (by kernel_rfl : fev prg O.impl_turned Try.f86 [a0, a1] H K = F.impl_turned a0 a1 H K) h)

/-! loop.example/g01381/impl.TurnRing: function 16 -/
def F.impl_TurnRing (a0 a1 : Value) (H : Hp) (K : Value → Hp → Prop) : Prop :=
  HT prg I.impl_IsRing [a0, (.int .i64 3)].toArray H fun v7x1 H2 =>
  ob (vUn .not v7x1) fun v8x3 =>
  gop v8x3 false (fun K4 => K4 a1 H2) H2 fun v10x5 H6 =>
  gop v8x3 false (fun K7 => HT prg I.impl_within [v10x5, (.int .i64 0), (.int .i64 64)].toArray H6 K7) H6 fun v11x8 H9 =>
  gop v8x3 false (fun K10 => ob (vUn .not v11x8) fun u => K10 u H9) H9 fun v12x11 H12 =>
  ob (vPick v8x3 (.bool true) v12x11) fun v13x13 =>
  cnd v13x13
    (K (.tuple #[(.slice none 0 0), (.bool false)]) H12)
    (HT prg I.impl_turned [a0, a1].toArray H12 fun v16x14 H15 =>
  K (.tuple #[v16x14, (.bool true)]) H15)
def O.impl_TurnRing : Nat → Nat × List Nat := fun i => (0, [])
theorem R.impl_TurnRing {a0 a1 : Value} {H : Hp} {K : Value → Hp → Prop} (h : F.impl_TurnRing a0 a1 H K) : HT prg I.impl_TurnRing [a0, a1].toArray H K :=
  HT_of_fev O.impl_TurnRing mixed Try.func16 (by kernel_rfl) (Eq.mpr (by kernel_rfl : fev prg O.impl_TurnRing Try.f16 [a0, a1] H K = F.impl_TurnRing a0 a1 H K) h)

/-! loop.example/g01381/laws.eqInt64S: function 17 -/
def F.laws_eqInt64S (a0 a1 : Value) (H : Hp) (K : Value → Hp → Prop) : Prop :=
  ob (vLenSl a0) fun v7x1 =>
  ob (vLenSl a1) fun v9x2 =>
  ob (vInt .neq v7x1 v9x2) fun v10x3 =>
  cnd v10x3
    (K (.bool false) H)
    (jn (fun σ4 H4 =>
    K (.bool true) H4) fun J4 =>
  lpE (fun Q5 σ5 H5 =>
    ob (vLenSl (σ5 0)) fun v13x6 =>
    ob (vInt .lss (σ5 5) v13x6) fun v14x7 =>
    cnd v14x7
      (ob (vIx 1 (σ5 0) (σ5 5)) fun v19x8 =>
    ob (vLoad v19x8 H5) fun v20x9 =>
    ob (vIx 1 (σ5 1) (σ5 5)) fun v23x10 =>
    ob (vLoad v23x10 H5) fun v24x11 =>
    ob (vInt .neq v20x9 v24x11) fun v25x12 =>
    cnd v25x12
      (Q5 .ret (up (up (up (up (up (up (up (up (up (up (up (up (up (up σ5 11 (σ5 5)) 12 (σ5 0)) 13 v13x6) 14 v14x7) 17 (σ5 0)) 18 (σ5 5)) 19 v19x8) 20 v20x9) 21 (σ5 1)) 22 (σ5 5)) 23 v23x10) 24 v24x11) 25 v25x12) 4 (.bool false)) H5)
      (ob (vInt .add (σ5 5) (.int .i64 1)) fun v16x13 =>
    Q5 .normal (up (up (up (up (up (up (up (up (up (up (up (up (up (up (up (up σ5 11 (σ5 5)) 12 (σ5 0)) 13 v13x6) 14 v14x7) 17 (σ5 0)) 18 (σ5 5)) 19 v19x8) 20 v20x9) 21 (σ5 1)) 22 (σ5 5)) 23 v23x10) 24 v24x11) 25 v25x12) 15 (σ5 5)) 16 v16x13) 5 v16x13) H5))
      (Q5 (.exit 0) (up (up (up (up σ5 11 (σ5 5)) 12 (σ5 0)) 13 v13x6) 14 v14x7) H5)) (blkQ 0 (thenQ J4 (retQ prg [(.tmp 4)] K))) (up (up (up (up (up (up (up (S0 [a0, a1]) 4 (.bool false)) 6 a0) 7 v7x1) 8 a1) 9 v9x2) 10 v10x3) 5 (.int .i64 0)) H)
def O.laws_eqInt64S : Nat → Nat × List Nat := fun i => bif Nat.beq i 6 then (0, [0, 1, 2, 3, 4, 5, 6, 7, 8]) else (0, [])
theorem R.laws_eqInt64S {a0 a1 : Value} {H : Hp} {K : Value → Hp → Prop} (h : F.laws_eqInt64S a0 a1 H K) : HT prg I.laws_eqInt64S [a0, a1].toArray H K :=
  HT_of_fev O.laws_eqInt64S mixed Try.func17 (by kernel_rfl) (Eq.mpr (by kernel_rfl : fev prg O.laws_eqInt64S Try.f17 [a0, a1] H K = F.laws_eqInt64S a0 a1 H K) h)

/-! loop.example/g01381/laws.markInt64S: function 18 -/
def F.laws_markInt64S (a0 a1 : Value) (H : Hp) (K : Value → Hp → Prop) : Prop :=
  jn (fun σ1 H1 =>
    K (σ1 1) H1) fun J1 =>
  lpE (fun Q2 σ2 H2 =>
    ob (vLenSl (σ2 0)) fun v8x3 =>
    ob (vInt .lss (σ2 5) v8x3) fun v9x4 =>
    cnd v9x4
      (ob (vIx 1 (σ2 0) (σ2 5)) fun v15x5 =>
    st 1 v15x5 (σ2 1) H2 fun H6 =>
    ob (vInt .add (σ2 1) (.int .i64 1)) fun v17x7 =>
    ob (vInt .add (σ2 5) (.int .i64 1)) fun v11x8 =>
    Q2 .normal (up (up (up (up (up (up (up (up (up (up (up (up (up (up σ2 6 (σ2 5)) 7 (σ2 0)) 8 v8x3) 9 v9x4) 12 (σ2 0)) 13 (σ2 5)) 14 (σ2 1)) 15 v15x5) 16 (σ2 1)) 17 v17x7) 1 v17x7) 10 (σ2 5)) 11 v11x8) 5 v11x8) H6)
      (Q2 (.exit 0) (up (up (up (up σ2 6 (σ2 5)) 7 (σ2 0)) 8 v8x3) 9 v9x4) H2)) (blkQ 0 (thenQ J1 (retQ prg [(.tmp 4)] K))) (up (up (S0 [a0, a1]) 4 (.int .i64 0)) 5 (.int .i64 0)) H
def O.laws_markInt64S : Nat → Nat × List Nat := fun i => (0, [])
theorem R.laws_markInt64S {a0 a1 : Value} {H : Hp} {K : Value → Hp → Prop} (h : F.laws_markInt64S a0 a1 H K) : HT prg I.laws_markInt64S [a0, a1].toArray H K :=
  HT_of_fev O.laws_markInt64S mixed Try.func18 (by kernel_rfl) (Eq.mpr (by kernel_rfl : fev prg O.laws_markInt64S Try.f18 [a0, a1] H K = F.laws_markInt64S a0 a1 H K) h)

/-! loop.example/g01381/laws.heldInt64S: function 19 -/
def F.laws_heldInt64S (a0 a1 : Value) (H : Hp) (K : Value → Hp → Prop) : Prop :=
  jn (fun σ1 H1 =>
    K (σ1 1) H1) fun J1 =>
  lpE (fun Q2 σ2 H2 =>
    ob (vLenSl (σ2 0)) fun v8x3 =>
    ob (vInt .lss (σ2 5) v8x3) fun v9x4 =>
    cnd v9x4
      (ob (vIx 1 (σ2 0) (σ2 5)) fun v14x5 =>
    ob (vLoad v14x5 H2) fun v15x6 =>
    ob (vInt .neq v15x6 (σ2 1)) fun v17x7 =>
    cnd v17x7
      (Q2 .ret (up (up (up (up (up (up (up (up (up (up (up σ2 6 (σ2 5)) 7 (σ2 0)) 8 v8x3) 9 v9x4) 12 (σ2 0)) 13 (σ2 5)) 14 v14x5) 15 v15x6) 16 (σ2 1)) 17 v17x7) 4 (.int .i64 (-1))) H2)
      (ob (vInt .add (σ2 1) (.int .i64 1)) fun v19x8 =>
    ob (vInt .add (σ2 5) (.int .i64 1)) fun v11x9 =>
    Q2 .normal (up (up (up (up (up (up (up (up (up (up (up (up (up (up (up (up σ2 6 (σ2 5)) 7 (σ2 0)) 8 v8x3) 9 v9x4) 12 (σ2 0)) 13 (σ2 5)) 14 v14x5) 15 v15x6) 16 (σ2 1)) 17 v17x7) 18 (σ2 1)) 19 v19x8) 1 v19x8) 10 (σ2 5)) 11 v11x9) 5 v11x9) H2))
      (Q2 (.exit 0) (up (up (up (up σ2 6 (σ2 5)) 7 (σ2 0)) 8 v8x3) 9 v9x4) H2)) (blkQ 0 (thenQ J1 (retQ prg [(.tmp 4)] K))) (up (up (S0 [a0, a1]) 4 (.int .i64 0)) 5 (.int .i64 0)) H
def O.laws_heldInt64S : Nat → Nat × List Nat := fun i => (0, [])
theorem R.laws_heldInt64S {a0 a1 : Value} {H : Hp} {K : Value → Hp → Prop} (h : F.laws_heldInt64S a0 a1 H K) : HT prg I.laws_heldInt64S [a0, a1].toArray H K :=
  HT_of_fev O.laws_heldInt64S mixed Try.func19 (by kernel_rfl) (Eq.mpr (by kernel_rfl : fev prg O.laws_heldInt64S Try.f19 [a0, a1] H K = F.laws_heldInt64S a0 a1 H K) h)

/-! loop.example/g01381/laws.FnExactTurnRing: function 3 -/
def F.laws_FnExactTurnRing (a0 a1 : Value) (H : Hp) (K : Value → Hp → Prop) : Prop :=
  ob (vLenSl a0) fun v16x1 =>
  ob (vInt .gtr v16x1 (.int .i64 1048576)) fun v17x2 =>
  cnd v17x2
    (K (.bool true) H)
    (HT prg I.laws_toInt64S [a0].toArray H fun v20x3 H4 =>
  HT prg I.spec_TurnRing [v20x3, a1].toArray H4 fun v22x5 H6 =>
  ob (vExt v22x5 0) fun v23x7 =>
  ob (vExt v22x5 1) fun v24x8 =>
  HT prg I.laws_toInt64S [a0].toArray H6 fun v26x9 H10 =>
  HT prg I.impl_TurnRing [v26x9, a1].toArray H10 fun v30x11 H12 =>
  ob (vExt v30x11 0) fun v31x13 =>
  ob (vExt v30x11 1) fun v32x14 =>
  HT prg I.laws_eqInt64S [v31x13, v23x7].toArray H12 fun v35x15 H16 =>
  ob (vUn .not v35x15) fun v36x17 =>
  gop v36x17 false (fun K18 => K18 v32x14 H16) H16 fun v38x19 H20 =>
  gop v36x17 false (fun K21 => K21 v24x8 H20) H20 fun v39x22 H23 =>
  gop v36x17 false (fun K24 => ob (vBool .neq v38x19 v39x22) fun u => K24 u H23) H23 fun v40x25 H26 =>
  ob (vPick v36x17 (.bool true) v40x25) fun v41x27 =>
  cnd v41x27
    (K (.bool false) H26)
    (HT prg I.laws_toInt64S [a0].toArray H26 fun v44x28 H29 =>
  HT prg I.laws_eqInt64S [v26x9, v44x28].toArray H29 fun v45x30 H31 =>
  ob (vUn .not v45x30) fun v46x32 =>
  cnd v46x32
    (K (.bool false) H31)
    (HT prg I.laws_markInt64S [v26x9, (.int .i64 1)].toArray H31 fun v49x33 H34 =>
  ob (vInt .lss v49x33 (.int .i64 0)) fun v51x35 =>
  gop v51x35 false (fun K36 => K36 v31x13 H34) H34 fun v53x37 H38 =>
  gop v51x35 false (fun K39 => K39 v23x7 H38) H38 fun v54x40 H41 =>
  gop v51x35 false (fun K42 => HT prg I.laws_eqInt64S [v53x37, v54x40].toArray H41 K42) H41 fun v55x43 H44 =>
  gop v51x35 false (fun K45 => ob (vUn .not v55x43) fun u => K45 u H44) H44 fun v56x46 H47 =>
  ob (vPick v51x35 (.bool true) v56x46) fun v57x48 =>
  gop v57x48 false (fun K49 => K49 v32x14 H47) H47 fun v59x50 H51 =>
  gop v57x48 false (fun K52 => K52 v24x8 H51) H51 fun v60x53 H54 =>
  gop v57x48 false (fun K55 => ob (vBool .neq v59x50 v60x53) fun u => K55 u H54) H54 fun v61x56 H57 =>
  ob (vPick v57x48 (.bool true) v61x56) fun v62x58 =>
  cnd v62x58
    (K (.bool false) H57)
    (HT prg I.laws_markInt64S [v31x13, (.int .i64 1)].toArray H57 fun v65x59 H60 =>
  HT prg I.laws_heldInt64S [v31x13, (.int .i64 1)].toArray H60 fun v68x61 H62 =>
  ob (vInt .lss v68x61 (.int .i64 0)) fun v70x63 =>
  cnd v70x63
    (K (.bool false) H62)
    (ob (vInt .neq v68x61 v65x59) fun v73x64 =>
  cnd v73x64
    (K (.bool false) H62)
    (HT prg I.laws_toInt64S [a0].toArray H62 fun v76x65 H66 =>
  HT prg I.impl_TurnRing [v76x65, a1].toArray H66 fun v78x67 H68 =>
  ob (vExt v78x67 0) fun v79x69 =>
  ob (vExt v78x67 1) fun v80x70 =>
  HT prg I.laws_eqInt64S [v79x69, v23x7].toArray H68 fun v83x71 H72 =>
  ob (vUn .not v83x71) fun v84x73 =>
  gop v84x73 false (fun K74 => K74 v80x70 H72) H72 fun v86x75 H76 =>
  gop v84x73 false (fun K77 => K77 v24x8 H76) H76 fun v87x78 H79 =>
  gop v84x73 false (fun K80 => ob (vBool .neq v86x75 v87x78) fun u => K80 u H79) H79 fun v88x81 H82 =>
  ob (vPick v84x73 (.bool true) v88x81) fun v89x83 =>
  cnd v89x83
    (K (.bool false) H82)
    (HT prg I.laws_heldInt64S [v31x13, (.int .i64 1)].toArray H82 fun v92x84 H85 =>
  ob (vInt .lss v92x84 (.int .i64 0)) fun v94x86 =>
  cnd v94x86
    (K (.bool false) H85)
    (ob (vInt .neq v92x84 v65x59) fun v97x87 =>
  cnd v97x87
    (K (.bool false) H85)
    (K (.bool true) H85)))))))))
def O.laws_FnExactTurnRing : Nat → Nat × List Nat := fun i => (0, [])
theorem R.laws_FnExactTurnRing {a0 a1 : Value} {H : Hp} {K : Value → Hp → Prop} (h : F.laws_FnExactTurnRing a0 a1 H K) : HT prg I.laws_FnExactTurnRing [a0, a1].toArray H K :=
  HT_of_fev O.laws_FnExactTurnRing mixed Try.func3 (by kernel_rfl) (Eq.mpr (by kernel_rfl : fev prg O.laws_FnExactTurnRing Try.f3 [a0, a1] H K = F.laws_FnExactTurnRing a0 a1 H K) h)

/-! loop.example/g01381/spec.l02Before: function 87 -/
def F.spec_l02Before (a0 a1 : Value) (H : Hp) (K : Value → Hp → Prop) : Prop :=
  jn (fun σ1 H1 =>
    K (.bool false) H1) fun J1 =>
  lpE (fun Q2 σ2 H2 =>
    ob (vLenSl (σ2 0)) fun v8x3 =>
    ob (vInt .lss (σ2 5) v8x3) fun v9x4 =>
    cnd v9x4
      (ob (vIx 1 (σ2 0) (σ2 5)) fun v14x5 =>
    ob (vLoad v14x5 H2) fun v15x6 =>
    ob (vIx 1 (σ2 1) (σ2 5)) fun v18x7 =>
    ob (vLoad v18x7 H2) fun v19x8 =>
    ob (vInt .neq v15x6 v19x8) fun v20x9 =>
    cnd v20x9
      (ob (vIx 1 (σ2 0) (σ2 5)) fun v23x10 =>
      ob (vLoad v23x10 H2) fun v24x11 =>
      ob (vIx 1 (σ2 1) (σ2 5)) fun v27x12 =>
      ob (vLoad v27x12 H2) fun v28x13 =>
      ob (vInt .lss v24x11 v28x13) fun v29x14 =>
      Q2 .ret (up (up (up (up (up (up (up (up (up (up (up (up (up (up (up (up (up (up (up (up (up (up (up σ2 6 (σ2 5)) 7 (σ2 0)) 8 v8x3) 9 v9x4) 12 (σ2 0)) 13 (σ2 5)) 14 v14x5) 15 v15x6) 16 (σ2 1)) 17 (σ2 5)) 18 v18x7) 19 v19x8) 20 v20x9) 21 (σ2 0)) 22 (σ2 5)) 23 v23x10) 24 v24x11) 25 (σ2 1)) 26 (σ2 5)) 27 v27x12) 28 v28x13) 29 v29x14) 4 v29x14) H2)
      (ob (vInt .add (σ2 5) (.int .i64 1)) fun v11x15 =>
    Q2 .normal (up (up (up (up (up (up (up (up (up (up (up (up (up (up (up (up σ2 6 (σ2 5)) 7 (σ2 0)) 8 v8x3) 9 v9x4) 12 (σ2 0)) 13 (σ2 5)) 14 v14x5) 15 v15x6) 16 (σ2 1)) 17 (σ2 5)) 18 v18x7) 19 v19x8) 20 v20x9) 10 (σ2 5)) 11 v11x15) 5 v11x15) H2))
      (Q2 (.exit 0) (up (up (up (up σ2 6 (σ2 5)) 7 (σ2 0)) 8 v8x3) 9 v9x4) H2)) (blkQ 0 (thenQ J1 (retQ prg [(.tmp 4)] K))) (up (up (S0 [a0, a1]) 4 (.bool false)) 5 (.int .i64 0)) H
def O.spec_l02Before : Nat → Nat × List Nat := fun i => bif Nat.beq i 4 then (0, [0, 1, 2, 3, 4, 5, 6, 7, 8]) else bif Nat.beq i 5 then (0, [0, 1, 2, 3, 4, 5, 6, 7, 8, 9]) else (0, [])
theorem R.spec_l02Before {a0 a1 : Value} {H : Hp} {K : Value → Hp → Prop} (h : F.spec_l02Before a0 a1 H K) : HT prg I.spec_l02Before [a0, a1].toArray H K :=
  HT_of_fev O.spec_l02Before mixed Try.func87 (by kernel_rfl) (Eq.mpr (by kernel_rfl : fev prg O.spec_l02Before Try.f87 [a0, a1] H K = F.spec_l02Before a0 a1 H K) h)

/-! loop.example/g01381/spec.LeastTurn: function 20 -/
def F.spec_LeastTurn (a0 : Value) (H : Hp) (K : Value → Hp → Prop) : Prop :=
  HT prg I.spec_l02Ring [a0, (.int .i64 3)].toArray H fun v8x1 H2 =>
  ob (vUn .not v8x1) fun v9x3 =>
  cnd v9x3
    (K (.tuple #[(.slice none 0 0), (.bool false)]) H2)
    (bS 1 0 #[(.int .i64 0)] 2 [] H2 fun v10x4 H5 =>
  apd 1 8 #[(.int .i64 0)] 2 v10x4 a0 H5 fun v12x6 H7 =>
  jn (fun σ8 H8 =>
    K (.tuple #[(σ8 4), (.bool true)]) H8) fun J8 =>
  lpE (fun Q9 σ9 H9 =>
    ob (vLenSl (σ9 0)) fun v15x10 =>
    ob (vInt .lss (σ9 5) v15x10) fun v16x11 =>
    cnd v16x11
      (HT prg I.spec_l02Turned [(σ9 0), (σ9 5)].toArray H9 fun v21x12 H13 =>
    HT prg I.spec_l02Before [v21x12, (σ9 4)].toArray H13 fun v24x14 H15 =>
    cnd v24x14
      (ob (vInt .add (σ9 5) (.int .i64 1)) fun v18x16 =>
    Q9 .normal (up (up (up (up (up (up (up (up (up (up (up (up (up (up (up (up σ9 13 (σ9 5)) 14 (σ9 0)) 15 v15x10) 16 v16x11) 19 (σ9 0)) 20 (σ9 5)) 21 v21x12) 6 v21x12) 22 v21x12) 23 (σ9 4)) 24 v24x14) 25 v21x12) 4 v21x12) 17 (σ9 5)) 18 v18x16) 5 v18x16) H15)
      (ob (vInt .add (σ9 5) (.int .i64 1)) fun v18x17 =>
    Q9 .normal (up (up (up (up (up (up (up (up (up (up (up (up (up (up σ9 13 (σ9 5)) 14 (σ9 0)) 15 v15x10) 16 v16x11) 19 (σ9 0)) 20 (σ9 5)) 21 v21x12) 6 v21x12) 22 v21x12) 23 (σ9 4)) 24 v24x14) 17 (σ9 5)) 18 v18x17) 5 v18x17) H15))
      (Q9 (.exit 0) (up (up (up (up σ9 13 (σ9 5)) 14 (σ9 0)) 15 v15x10) 16 v16x11) H9)) (blkQ 0 (thenQ J8 (retQ prg [(.tmp 2), (.tmp 3)] K))) (up (up (up (up (up (up (up (up (up (up (S0 [a0]) 2 (.slice none 0 0)) 3 (.bool false)) 7 a0) 8 v8x1) 9 v9x3) 10 v10x4) 11 a0) 12 v12x6) 4 v12x6) 5 (.int .i64 1)) H7)
def O.spec_LeastTurn : Nat → Nat × List Nat := fun i => (0, [])
theorem R.spec_LeastTurn {a0 : Value} {H : Hp} {K : Value → Hp → Prop} (h : F.spec_LeastTurn a0 H K) : HT prg I.spec_LeastTurn [a0].toArray H K :=
  HT_of_fev O.spec_LeastTurn mixed Try.func20 (by kernel_rfl) (Eq.mpr (by kernel_rfl : fev prg O.spec_LeastTurn Try.f20 [a0] H K = F.spec_LeastTurn a0 H K) h)

/-! slices.Clone[[]int64,int64]: function 88 -/
def F.slices_Clone_int64Zint64 (a0 : Value) (H : Hp) (K : Value → Hp → Prop) : Prop :=
  ob (vSlEq .eql a0 (.slice none 0 0)) fun v4x1 =>
  cnd v4x1
    (K (.slice none 0 0) H)
    (bS 1 0 #[(.int .i64 0)] 2 [] H fun v5x2 H3 =>
  apd 1 8 #[(.int .i64 0)] 2 v5x2 a0 H3 fun v7x4 H5 =>
  K v7x4 H5)
def O.slices_Clone_int64Zint64 : Nat → Nat × List Nat := fun i => (0, [])
theorem R.slices_Clone_int64Zint64 {a0 : Value} {H : Hp} {K : Value → Hp → Prop} (h : F.slices_Clone_int64Zint64 a0 H K) : HT prg I.slices_Clone_int64Zint64 [a0].toArray H K :=
  HT_of_fev O.slices_Clone_int64Zint64 mixed Try.func88 (by kernel_rfl) (Eq.mpr (by kernel_rfl : fev prg O.slices_Clone_int64Zint64 Try.f88 [a0] H K = F.slices_Clone_int64Zint64 a0 H K) h)

/-! cmp.isNaN[int64]: function 199 -/
def F.cmp_isNaN_int64 (a0 : Value) (H : Hp) (K : Value → Hp → Prop) : Prop :=
  ob (vInt .neq a0 a0) fun v5x1 =>
  K v5x1 H
def O.cmp_isNaN_int64 : Nat → Nat × List Nat := fun i => (0, [])
theorem R.cmp_isNaN_int64 {a0 : Value} {H : Hp} {K : Value → Hp → Prop} (h : F.cmp_isNaN_int64 a0 H K) : HT prg I.cmp_isNaN_int64 [a0].toArray H K :=
  HT_of_fev O.cmp_isNaN_int64 mixed Try.func199 (by kernel_rfl) (Eq.mpr (by kernel_rfl : fev prg O.cmp_isNaN_int64 Try.f199 [a0] H K = F.cmp_isNaN_int64 a0 H K) h)

/-! cmp.Compare[int64]: function 168 -/
def F.cmp_Compare_int64 (a0 a1 : Value) (H : Hp) (K : Value → Hp → Prop) : Prop :=
  HT prg I.cmp_isNaN_int64 [a0].toArray H fun v8x1 H2 =>
  HT prg I.cmp_isNaN_int64 [a1].toArray H2 fun v10x3 H4 =>
  cnd v8x1
    (cnd v10x3
      (K (.int .i64 0) H4)
      (K (.int .i64 (-1)) H4))
    (cnd v10x3
    (K (.int .i64 1) H4)
    (ob (vInt .lss a0 a1) fun v16x5 =>
  cnd v16x5
    (K (.int .i64 (-1)) H4)
    (ob (vInt .gtr a0 a1) fun v19x6 =>
  cnd v19x6
    (K (.int .i64 1) H4)
    (K (.int .i64 0) H4))))
def O.cmp_Compare_int64 : Nat → Nat × List Nat := fun i => (0, [])
theorem R.cmp_Compare_int64 {a0 a1 : Value} {H : Hp} {K : Value → Hp → Prop} (h : F.cmp_Compare_int64 a0 a1 H K) : HT prg I.cmp_Compare_int64 [a0, a1].toArray H K :=
  HT_of_fev O.cmp_Compare_int64 mixed Try.func168 (by kernel_rfl) (Eq.mpr (by kernel_rfl : fev prg O.cmp_Compare_int64 Try.f168 [a0, a1] H K = F.cmp_Compare_int64 a0 a1 H K) h)

/-! slices.Compare[[]int64,int64]: function 89 -/
def F.slices_Compare_int64Zint64 (a0 a1 : Value) (H : Hp) (K : Value → Hp → Prop) : Prop :=
  jn (fun σ1 H1 =>
    ob (vLenSl (σ1 0)) fun v32x2 =>
    ob (vLenSl (σ1 1)) fun v34x3 =>
    ob (vInt .lss v32x2 v34x3) fun v35x4 =>
    cnd v35x4
      (K (.int .i64 (-1)) H1)
      (K (.int .i64 0) H1)) fun J1 =>
  ob (vLenSl a0) fun v10x5 =>
  lpE (fun Q6 σ6 H6 =>
    ob (vInt .lss (σ6 11) (σ6 10)) fun v12x7 =>
    cnd v12x7
      (ob (vIx 1 (σ6 9) (σ6 11)) fun v14x8 =>
    ob (vLoad v14x8 H6) fun v15x9 =>
    ob (vLenSl (σ6 1)) fun v18x10 =>
    ob (vInt .geq (σ6 11) v18x10) fun v19x11 =>
    cnd v19x11
      (Q6 .ret (up (up (up (up (up (up (up (up (up (up (up σ6 12 v12x7) 13 (σ6 11)) 14 v14x8) 15 v15x9) 5 (σ6 11)) 6 v15x9) 16 (σ6 11)) 17 (σ6 1)) 18 v18x10) 19 v19x11) 4 (.int .i64 1)) H6)
      (ob (vIx 1 (σ6 1) (σ6 11)) fun v22x12 =>
    ob (vLoad v22x12 H6) fun v23x13 =>
    HT prg I.cmp_Compare_int64 [v15x9, v23x13].toArray H6 fun v26x14 H15 =>
    ob (vInt .neq v26x14 (.int .i64 0)) fun v28x16 =>
    cnd v28x16
      (Q6 .ret (up (up (up (up (up (up (up (up (up (up (up (up (up (up (up (up (up (up (up (up (up (up (up σ6 12 v12x7) 13 (σ6 11)) 14 v14x8) 15 v15x9) 5 (σ6 11)) 6 v15x9) 16 (σ6 11)) 17 (σ6 1)) 18 v18x10) 19 v19x11) 20 (σ6 1)) 21 (σ6 11)) 22 v22x12) 23 v23x13) 7 v23x13) 24 v15x9) 25 v23x13) 26 v26x14) 8 v26x14) 27 v26x14) 28 v28x16) 29 v26x14) 4 v26x14) H15)
      (ob (vInt .add (σ6 11) (.int .i64 1)) fun v30x17 =>
    Q6 .normal (up (up (up (up (up (up (up (up (up (up (up (up (up (up (up (up (up (up (up (up (up (up (up σ6 12 v12x7) 13 (σ6 11)) 14 v14x8) 15 v15x9) 5 (σ6 11)) 6 v15x9) 16 (σ6 11)) 17 (σ6 1)) 18 v18x10) 19 v19x11) 20 (σ6 1)) 21 (σ6 11)) 22 v22x12) 23 v23x13) 7 v23x13) 24 v15x9) 25 v23x13) 26 v26x14) 8 v26x14) 27 v26x14) 28 v28x16) 30 v30x17) 11 v30x17) H15)))
      (Q6 (.exit 0) (up σ6 12 v12x7) H6)) (blkQ 0 (thenQ J1 (retQ prg [(.tmp 4)] K))) (up (up (up (up (S0 [a0, a1]) 4 (.int .i64 0)) 9 a0) 10 v10x5) 11 (.int .i64 0)) H
def O.slices_Compare_int64Zint64 : Nat → Nat × List Nat := fun i => (0, [])
theorem R.slices_Compare_int64Zint64 {a0 a1 : Value} {H : Hp} {K : Value → Hp → Prop} (h : F.slices_Compare_int64Zint64 a0 a1 H K) : HT prg I.slices_Compare_int64Zint64 [a0, a1].toArray H K :=
  HT_of_fev O.slices_Compare_int64Zint64 mixed Try.func89 (by kernel_rfl) (Eq.mpr (by kernel_rfl : fev prg O.slices_Compare_int64Zint64 Try.f89 [a0, a1] H K = F.slices_Compare_int64Zint64 a0 a1 H K) h)

/-! loop.example/g01381/impl.LeastTurn: function 21 -/
def F.impl_LeastTurn (a0 : Value) (H : Hp) (K : Value → Hp → Prop) : Prop :=
  HT prg I.impl_IsRing [a0, (.int .i64 3)].toArray H fun v8x1 H2 =>
  ob (vUn .not v8x1) fun v9x3 =>
  cnd v9x3
    (K (.tuple #[(.slice none 0 0), (.bool false)]) H2)
    (HT prg I.slices_Clone_int64Zint64 [a0].toArray H2 fun v11x4 H5 =>
  jn (fun σ6 H6 =>
    K (.tuple #[(σ6 4), (.bool true)]) H6) fun J6 =>
  ob (vLenSl a0) fun v13x7 =>
  lpE (fun Q8 σ8 H8 =>
    ob (vInt .lss (σ8 14) (σ8 13)) fun v15x9 =>
    cnd v15x9
      (HT prg I.impl_turned [(σ8 0), (σ8 14)].toArray H8 fun v19x10 H11 =>
    HT prg I.slices_Compare_int64Zint64 [v19x10, (σ8 4)].toArray H11 fun v22x12 H13 =>
    ob (vInt .lss v22x12 (.int .i64 0)) fun v23x14 =>
    cnd v23x14
      (ob (vInt .add (σ8 14) (.int .i64 1)) fun v25x15 =>
    Q8 .normal (up (up (up (up (up (up (up (up (up (up (up (up (up (up (up σ8 15 v15x9) 16 (σ8 14)) 5 (σ8 14)) 17 (σ8 0)) 18 (σ8 14)) 19 v19x10) 6 v19x10) 20 v19x10) 21 (σ8 4)) 22 v22x12) 23 v23x14) 24 v19x10) 4 v19x10) 25 v25x15) 14 v25x15) H13)
      (ob (vInt .add (σ8 14) (.int .i64 1)) fun v25x16 =>
    Q8 .normal (up (up (up (up (up (up (up (up (up (up (up (up (up σ8 15 v15x9) 16 (σ8 14)) 5 (σ8 14)) 17 (σ8 0)) 18 (σ8 14)) 19 v19x10) 6 v19x10) 20 v19x10) 21 (σ8 4)) 22 v22x12) 23 v23x14) 25 v25x16) 14 v25x16) H13))
      (Q8 (.exit 0) (up σ8 15 v15x9) H8)) (blkQ 0 (thenQ J6 (retQ prg [(.tmp 2), (.tmp 3)] K))) (up (up (up (up (up (up (up (up (up (up (up (S0 [a0]) 2 (.slice none 0 0)) 3 (.bool false)) 7 a0) 8 v8x1) 9 v9x3) 10 a0) 11 v11x4) 4 v11x4) 12 a0) 13 v13x7) 14 (.int .i64 0)) H5)
def O.impl_LeastTurn : Nat → Nat × List Nat := fun i => (0, [])
theorem R.impl_LeastTurn {a0 : Value} {H : Hp} {K : Value → Hp → Prop} (h : F.impl_LeastTurn a0 H K) : HT prg I.impl_LeastTurn [a0].toArray H K :=
  HT_of_fev O.impl_LeastTurn mixed Try.func21 (by kernel_rfl) (Eq.mpr (by kernel_rfl : fev prg O.impl_LeastTurn Try.f21 [a0] H K = F.impl_LeastTurn a0 H K) h)

/-! loop.example/g01381/laws.FnExactLeastTurn: function 4 -/
def F.laws_FnExactLeastTurn (a0 : Value) (H : Hp) (K : Value → Hp → Prop) : Prop :=
  ob (vLenSl a0) fun v14x1 =>
  ob (vInt .gtr v14x1 (.int .i64 1048576)) fun v15x2 =>
  cnd v15x2
    (K (.bool true) H)
    (HT prg I.laws_toInt64S [a0].toArray H fun v18x3 H4 =>
  HT prg I.spec_LeastTurn [v18x3].toArray H4 fun v19x5 H6 =>
  ob (vExt v19x5 0) fun v20x7 =>
  ob (vExt v19x5 1) fun v21x8 =>
  HT prg I.laws_toInt64S [a0].toArray H6 fun v23x9 H10 =>
  HT prg I.impl_LeastTurn [v23x9].toArray H10 fun v26x11 H12 =>
  ob (vExt v26x11 0) fun v27x13 =>
  ob (vExt v26x11 1) fun v28x14 =>
  HT prg I.laws_eqInt64S [v27x13, v20x7].toArray H12 fun v31x15 H16 =>
  ob (vUn .not v31x15) fun v32x17 =>
  gop v32x17 false (fun K18 => K18 v28x14 H16) H16 fun v34x19 H20 =>
  gop v32x17 false (fun K21 => K21 v21x8 H20) H20 fun v35x22 H23 =>
  gop v32x17 false (fun K24 => ob (vBool .neq v34x19 v35x22) fun u => K24 u H23) H23 fun v36x25 H26 =>
  ob (vPick v32x17 (.bool true) v36x25) fun v37x27 =>
  cnd v37x27
    (K (.bool false) H26)
    (HT prg I.laws_toInt64S [a0].toArray H26 fun v40x28 H29 =>
  HT prg I.laws_eqInt64S [v23x9, v40x28].toArray H29 fun v41x30 H31 =>
  ob (vUn .not v41x30) fun v42x32 =>
  cnd v42x32
    (K (.bool false) H31)
    (HT prg I.laws_markInt64S [v23x9, (.int .i64 1)].toArray H31 fun v45x33 H34 =>
  ob (vInt .lss v45x33 (.int .i64 0)) fun v47x35 =>
  gop v47x35 false (fun K36 => K36 v27x13 H34) H34 fun v49x37 H38 =>
  gop v47x35 false (fun K39 => K39 v20x7 H38) H38 fun v50x40 H41 =>
  gop v47x35 false (fun K42 => HT prg I.laws_eqInt64S [v49x37, v50x40].toArray H41 K42) H41 fun v51x43 H44 =>
  gop v47x35 false (fun K45 => ob (vUn .not v51x43) fun u => K45 u H44) H44 fun v52x46 H47 =>
  ob (vPick v47x35 (.bool true) v52x46) fun v53x48 =>
  gop v53x48 false (fun K49 => K49 v28x14 H47) H47 fun v55x50 H51 =>
  gop v53x48 false (fun K52 => K52 v21x8 H51) H51 fun v56x53 H54 =>
  gop v53x48 false (fun K55 => ob (vBool .neq v55x50 v56x53) fun u => K55 u H54) H54 fun v57x56 H57 =>
  ob (vPick v53x48 (.bool true) v57x56) fun v58x58 =>
  cnd v58x58
    (K (.bool false) H57)
    (HT prg I.laws_markInt64S [v27x13, (.int .i64 1)].toArray H57 fun v61x59 H60 =>
  HT prg I.laws_heldInt64S [v27x13, (.int .i64 1)].toArray H60 fun v64x61 H62 =>
  ob (vInt .lss v64x61 (.int .i64 0)) fun v66x63 =>
  cnd v66x63
    (K (.bool false) H62)
    (ob (vInt .neq v64x61 v61x59) fun v69x64 =>
  cnd v69x64
    (K (.bool false) H62)
    (HT prg I.laws_toInt64S [a0].toArray H62 fun v72x65 H66 =>
  HT prg I.impl_LeastTurn [v72x65].toArray H66 fun v73x67 H68 =>
  ob (vExt v73x67 0) fun v74x69 =>
  ob (vExt v73x67 1) fun v75x70 =>
  HT prg I.laws_eqInt64S [v74x69, v20x7].toArray H68 fun v78x71 H72 =>
  ob (vUn .not v78x71) fun v79x73 =>
  gop v79x73 false (fun K74 => K74 v75x70 H72) H72 fun v81x75 H76 =>
  gop v79x73 false (fun K77 => K77 v21x8 H76) H76 fun v82x78 H79 =>
  gop v79x73 false (fun K80 => ob (vBool .neq v81x75 v82x78) fun u => K80 u H79) H79 fun v83x81 H82 =>
  ob (vPick v79x73 (.bool true) v83x81) fun v84x83 =>
  cnd v84x83
    (K (.bool false) H82)
    (HT prg I.laws_heldInt64S [v27x13, (.int .i64 1)].toArray H82 fun v87x84 H85 =>
  ob (vInt .lss v87x84 (.int .i64 0)) fun v89x86 =>
  cnd v89x86
    (K (.bool false) H85)
    (ob (vInt .neq v87x84 v61x59) fun v92x87 =>
  cnd v92x87
    (K (.bool false) H85)
    (K (.bool true) H85)))))))))
def O.laws_FnExactLeastTurn : Nat → Nat × List Nat := fun i => (0, [])
theorem R.laws_FnExactLeastTurn {a0 : Value} {H : Hp} {K : Value → Hp → Prop} (h : F.laws_FnExactLeastTurn a0 H K) : HT prg I.laws_FnExactLeastTurn [a0].toArray H K :=
  HT_of_fev O.laws_FnExactLeastTurn mixed Try.func4 (by kernel_rfl) (Eq.mpr (by kernel_rfl : fev prg O.laws_FnExactLeastTurn Try.f4 [a0] H K = F.laws_FnExactLeastTurn a0 H K) h)

/-! loop.example/g01381/laws.r8Long: function 22 -/
def F.laws_r8Long (a0 a1 : Value) (H : Hp) (K : Value → Hp → Prop) : Prop :=
  ob (vLenSl a0) fun v6x1 =>
  ob (vInt .gtr v6x1 (.int .i64 48)) fun v7x2 =>
  gop v7x2 false (fun K3 => K3 a1 H) H fun v9x4 H5 =>
  gop v7x2 false (fun K6 => ob (vLenSl v9x4) fun u => K6 u H5) H5 fun v10x7 H8 =>
  gop v7x2 false (fun K9 => ob (vInt .gtr v10x7 (.int .i64 48)) fun u => K9 u H8) H8 fun v11x10 H11 =>
  ob (vPick v7x2 (.bool true) v11x10) fun v12x12 =>
  K v12x12 H11
def O.laws_r8Long : Nat → Nat × List Nat := fun i => (0, [])
theorem R.laws_r8Long {a0 a1 : Value} {H : Hp} {K : Value → Hp → Prop} (h : F.laws_r8Long a0 a1 H K) : HT prg I.laws_r8Long [a0, a1].toArray H K :=
  HT_of_fev O.laws_r8Long mixed Try.func22 (by kernel_rfl) (Eq.mpr (by kernel_rfl : fev prg O.laws_r8Long Try.f22 [a0, a1] H K = F.laws_r8Long a0 a1 H K) h)

/-! loop.example/g01381/laws.r8At: function 23 -/
def F.laws_r8At (a0 a1 a2 : Value) (H : Hp) (K : Value → Hp → Prop) : Prop :=
  ob (vInt .leq a2 (.int .i64 1)) fun v8x1 =>
  gop v8x1 false (fun K2 => K2 a1 H) H fun v10x3 H4 =>
  gop v8x1 false (fun K5 => K5 a0 H4) H4 fun v11x6 H7 =>
  gop v8x1 false (fun K8 => ob (vLenSl v11x6) fun u => K8 u H7) H7 fun v12x9 H10 =>
  gop v8x1 false (fun K11 => ob (vInt .geq v10x3 v12x9) fun u => K11 u H10) H10 fun v13x12 H13 =>
  ob (vPick v8x1 (.bool true) v13x12) fun v14x14 =>
  cnd v14x14
    (K (.int .i64 0) H13)
    (ob (vIx 1 a0 a1) fun v17x15 =>
  ob (vLoad v17x15 H13) fun v18x16 =>
  ob (vCI .i64 v18x16) fun v19x17 =>
  ob (vInt .rem v19x17 a2) fun v21x18 =>
  K v21x18 H13)
def O.laws_r8At : Nat → Nat × List Nat := fun i => (0, [])
theorem R.laws_r8At {a0 a1 a2 : Value} {H : Hp} {K : Value → Hp → Prop} (h : F.laws_r8At a0 a1 a2 H K) : HT prg I.laws_r8At [a0, a1, a2].toArray H K :=
  HT_of_fev O.laws_r8At mixed Try.func23 (by kernel_rfl) (Eq.mpr (by kernel_rfl : fev prg O.laws_r8At Try.f23 [a0, a1, a2] H K = F.laws_r8At a0 a1 a2 H K) h)

/-! loop.example/g01381/spec.l00From: function 90 -/
def F.spec_l00From (a0 : Value) (H : Hp) (K : Value → Hp → Prop) : Prop :=
  ob (vBuild [(0, 1), (1, 1), (2, 1)] (.agg #[(.slice none 0 0), (.int .i64 0), (.int .u64 0)]) [(0, a0)]) fun v4x1 =>
  nw (v4x1 : Value).cells 140 H fun v5x2 H3 =>
  K v5x2 H3
def O.spec_l00From : Nat → Nat × List Nat := fun i => (0, [])
theorem R.spec_l00From {a0 : Value} {H : Hp} {K : Value → Hp → Prop} (h : F.spec_l00From a0 H K) : HT prg I.spec_l00From [a0].toArray H K :=
  HT_of_fev O.spec_l00From mixed Try.func90 (by kernel_rfl) (Eq.mpr (by kernel_rfl : fev prg O.spec_l00From Try.f90 [a0] H K = F.spec_l00From a0 H K) h)

/-! (*loop.example/g01381/spec.l00Src).next: function 179 -/
def F.pspec_l00Src_next (a0 : Value) (H : Hp) (K : Value → Hp → Prop) : Prop :=
  jn (fun σ1 H1 =>
    ob (vNilC (σ1 0)) fun v26x2 =>
    ob (vFa 1 v26x2) fun v27x3 =>
    ob (vLoad v27x3 H1) fun v28x4 =>
    ob (vInt .add v28x4 (.int .i64 1)) fun v29x5 =>
    ob (vNilC (σ1 0)) fun v30x6 =>
    ob (vFa 1 v30x6) fun v31x7 =>
    st 1 v31x7 v29x5 H1 fun H8 =>
    ob (vNilC (σ1 0)) fun v34x9 =>
    ob (vFa 2 v34x9) fun v35x10 =>
    ob (vLoad v35x10 H8) fun v36x11 =>
    ob (vInt .mul v36x11 (.int .u64 6364136223846793005)) fun v37x12 =>
    ob (vCI .u64 (σ1 3)) fun v39x13 =>
    ob (vInt .add v37x12 v39x13) fun v40x14 =>
    ob (vInt .add v40x14 (.int .u64 1442695040888963407)) fun v41x15 =>
    ob (vNilC (σ1 0)) fun v42x16 =>
    ob (vFa 2 v42x16) fun v43x17 =>
    st 1 v43x17 v41x15 H8 fun H18 =>
    ob (vNilC (σ1 0)) fun v45x19 =>
    ob (vFa 1 v45x19) fun v46x20 =>
    ob (vLoad v46x20 H18) fun v47x21 =>
    ob (vNilC (σ1 0)) fun v49x22 =>
    ob (vFa 0 v49x22) fun v50x23 =>
    ob (vLoad v50x23 H18) fun v51x24 =>
    ob (vLenSl v51x24) fun v52x25 =>
    ob (vInt .leq v47x21 v52x25) fun v53x26 =>
    cnd v53x26
      (K (σ1 3) H18)
      (ob (vNilC (σ1 0)) fun v56x27 =>
    ob (vFa 2 v56x27) fun v57x28 =>
    ob (vLoad v57x28 H18) fun v58x29 =>
    ob (vInt .shr v58x29 (.int .u64 40)) fun v59x30 =>
    ob (vInt .and v59x30 (.int .u64 255)) fun v60x31 =>
    ob (vCI .i64 v60x31) fun v61x32 =>
    K v61x32 H18)) fun J1 =>
  ob (vNilC a0) fun v5x33 =>
  ob (vFa 1 v5x33) fun v6x34 =>
  ob (vLoad v6x34 H) fun v7x35 =>
  ob (vNilC a0) fun v9x36 =>
  ob (vFa 0 v9x36) fun v10x37 =>
  ob (vLoad v10x37 H) fun v11x38 =>
  ob (vLenSl v11x38) fun v12x39 =>
  ob (vInt .lss v7x35 v12x39) fun v13x40 =>
  cnd v13x40
    (ob (vNilC a0) fun v15x41 =>
    ob (vFa 0 v15x41) fun v16x42 =>
    ob (vLoad v16x42 H) fun v17x43 =>
    ob (vNilC a0) fun v19x44 =>
    ob (vFa 1 v19x44) fun v20x45 =>
    ob (vLoad v20x45 H) fun v21x46 =>
    ob (vIx 1 v17x43 v21x46) fun v22x47 =>
    ob (vLoad v22x47 H) fun v23x48 =>
    ob (vCI .i64 v23x48) fun v24x49 =>
    J1 (up (up (up (up (up (up (up (up (up (up (up (up (up (up (up (up (up (up (up (up (up (up (up (up (S0 [a0]) 2 (.int .i64 0)) 3 (.int .i64 0)) 4 a0) 5 v5x33) 6 v6x34) 7 v7x35) 8 a0) 9 v9x36) 10 v10x37) 11 v11x38) 12 v12x39) 13 v13x40) 14 a0) 15 v15x41) 16 v16x42) 17 v17x43) 18 a0) 19 v19x44) 20 v20x45) 21 v21x46) 22 v22x47) 23 v23x48) 24 v24x49) 3 v24x49) H)
    (J1 (up (up (up (up (up (up (up (up (up (up (up (up (S0 [a0]) 2 (.int .i64 0)) 3 (.int .i64 0)) 4 a0) 5 v5x33) 6 v6x34) 7 v7x35) 8 a0) 9 v9x36) 10 v10x37) 11 v11x38) 12 v12x39) 13 v13x40) H)
def O.pspec_l00Src_next : Nat → Nat × List Nat := fun i => bif Nat.beq i 6 then (0, [0, 1, 2, 3, 4, 5, 6, 7, 8, 9]) else bif Nat.beq i 2 then (0, [0, 1, 2, 3, 4, 5, 6, 7, 8, 9]) else bif Nat.beq i 3 then (0, [0, 1, 2, 3, 4, 5, 6, 7, 8, 9, 10, 11]) else (0, [])
theorem R.pspec_l00Src_next {a0 : Value} {H : Hp} {K : Value → Hp → Prop} (h : F.pspec_l00Src_next a0 H K) : HT prg I.pspec_l00Src_next [a0].toArray H K :=
  HT_of_fev O.pspec_l00Src_next mixed Try.func179 (by kernel_rfl) (Eq.mpr (by kernel_rfl : fev prg O.pspec_l00Src_next Try.f179 [a0] H K = F.pspec_l00Src_next a0 H K) h)

/-! (*loop.example/g01381/spec.l00Src).pick: function 113 -/
def F.pspec_l00Src_pick (a0 a1 : Value) (H : Hp) (K : Value → Hp → Prop) : Prop :=
  ob (vInt .leq a1 (.int .i64 1)) fun v7x1 =>
  cnd v7x1
    (K (.int .i64 0) H)
    (HT prg I.pspec_l00Src_next [a0].toArray H fun v9x2 H3 =>
  ob (vInt .gtr a1 (.int .i64 200)) fun v11x4 =>
  cnd v11x4
    (ob (vInt .mul v9x2 (.int .i64 256)) fun v13x5 =>
    HT prg I.pspec_l00Src_next [a0].toArray H3 fun v15x6 H7 =>
    ob (vInt .add v13x5 v15x6) fun v16x8 =>
    ob (vInt .rem v16x8 a1) fun v19x9 =>
  K v19x9 H7)
    (ob (vInt .rem v9x2 a1) fun v19x10 =>
  K v19x10 H3))
def O.pspec_l00Src_pick : Nat → Nat × List Nat := fun i => (0, [])
theorem R.pspec_l00Src_pick {a0 a1 : Value} {H : Hp} {K : Value → Hp → Prop} (h : F.pspec_l00Src_pick a0 a1 H K) : HT prg I.pspec_l00Src_pick [a0, a1].toArray H K :=
  HT_of_fev O.pspec_l00Src_pick mixed Try.func113 (by kernel_rfl) (Eq.mpr (by kernel_rfl : fev prg O.pspec_l00Src_pick Try.f113 [a0, a1] H K = F.pspec_l00Src_pick a0 a1 H K) h)

/-! loop.example/g01381/spec.l00Max: function 163 -/
def F.spec_l00Max (a0 a1 : Value) (H : Hp) (K : Value → Hp → Prop) : Prop :=
  ob (vInt .gtr a0 a1) fun v7x1 =>
  cnd v7x1
    (K a0 H)
    (K a1 H)
def O.spec_l00Max : Nat → Nat × List Nat := fun i => (0, [])
theorem R.spec_l00Max {a0 a1 : Value} {H : Hp} {K : Value → Hp → Prop} (h : F.spec_l00Max a0 a1 H K) : HT prg I.spec_l00Max [a0, a1].toArray H K :=
  HT_of_fev O.spec_l00Max mixed Try.func163 (by kernel_rfl) (Eq.mpr (by kernel_rfl : fev prg O.spec_l00Max Try.f163 [a0, a1] H K = F.spec_l00Max a0 a1 H K) h)

/-! loop.example/g01381/spec.l00Min: function 169 -/
def F.spec_l00Min (a0 a1 : Value) (H : Hp) (K : Value → Hp → Prop) : Prop :=
  ob (vInt .lss a0 a1) fun v7x1 =>
  cnd v7x1
    (K a0 H)
    (K a1 H)
def O.spec_l00Min : Nat → Nat × List Nat := fun i => (0, [])
theorem R.spec_l00Min {a0 a1 : Value} {H : Hp} {K : Value → Hp → Prop} (h : F.spec_l00Min a0 a1 H K) : HT prg I.spec_l00Min [a0, a1].toArray H K :=
  HT_of_fev O.spec_l00Min mixed Try.func169 (by kernel_rfl) (Eq.mpr (by kernel_rfl : fev prg O.spec_l00Min Try.f169 [a0, a1] H K = F.spec_l00Min a0 a1 H K) h)

/-! loop.example/g01381/spec.l02DrawCells: function 91 -/
def F.spec_l02DrawCells (a0 a1 a2 : Value) (H : Hp) (K : Value → Hp → Prop) : Prop :=
  bS 1 0 #[(.int .i64 0)] 2 [] H fun v9x1 H2 =>
  jn (fun σ3 H3 =>
    K (σ3 7) H3) fun J3 =>
  lpE (fun Q4 σ4 H4 =>
    ob (vInt .gtr (σ4 2) (.int .i64 0)) fun v11x5 =>
    cnd v11x5
      (HT prg I.spec_l00Min [(.int .i64 3), (σ4 1)].toArray H4 fun v16x6 H7 =>
    HT prg I.spec_l00Max [(.int .i64 1), v16x6].toArray H7 fun v17x8 H9 =>
    HT prg I.pspec_l00Src_pick [(σ4 0), v17x8].toArray H9 fun v18x10 H11 =>
    bS 1 1 #[(.int .i64 0)] 2 [(0, v18x10)] H11 fun v21x12 H13 =>
    apd 1 8 #[(.int .i64 0)] 2 (σ4 7) v21x12 H13 fun v22x14 H15 =>
    ob (vInt .sub (σ4 2) (.int .i64 1)) fun v13x16 =>
    Q4 .normal (up (up (up (up (up (up (up (up (up (up (up (up (up (up (up (up σ4 10 (σ4 2)) 11 v11x5) 14 (σ4 0)) 15 (σ4 1)) 16 v16x6) 17 v17x8) 18 v18x10) 8 v18x10) 19 (σ4 7)) 20 v18x10) 21 v21x12) 22 v22x14) 7 v22x14) 12 (σ4 2)) 13 v13x16) 2 v13x16) H15)
      (Q4 (.exit 0) (up (up σ4 10 (σ4 2)) 11 v11x5) H4)) (blkQ 0 (thenQ J3 (retQ prg [(.tmp 6)] K))) (up (up (up (S0 [a0, a1, a2]) 6 (.slice none 0 0)) 9 v9x1) 7 v9x1) H2
def O.spec_l02DrawCells : Nat → Nat × List Nat := fun i => (0, [])
theorem R.spec_l02DrawCells {a0 a1 a2 : Value} {H : Hp} {K : Value → Hp → Prop} (h : F.spec_l02DrawCells a0 a1 a2 H K) : HT prg I.spec_l02DrawCells [a0, a1, a2].toArray H K :=
  HT_of_fev O.spec_l02DrawCells mixed Try.func91 (by kernel_rfl) (Eq.mpr (by kernel_rfl : fev prg O.spec_l02DrawCells Try.f91 [a0, a1, a2] H K = F.spec_l02DrawCells a0 a1 a2 H K) h)

/-! loop.example/g01381/spec.R8Ring: function 24 -/
def F.spec_R8Ring (a0 a1 a2 : Value) (H : Hp) (K : Value → Hp → Prop) : Prop :=
  HT prg I.spec_l00From [a0].toArray H fun v9x1 H2 =>
  HT prg I.spec_l02DrawCells [v9x1, a1, a2].toArray H2 fun v13x3 H4 =>
  K v13x3 H4
def O.spec_R8Ring : Nat → Nat × List Nat := fun i => (0, [])
theorem R.spec_R8Ring {a0 a1 a2 : Value} {H : Hp} {K : Value → Hp → Prop} (h : F.spec_R8Ring a0 a1 a2 H K) : HT prg I.spec_R8Ring [a0, a1, a2].toArray H K :=
  HT_of_fev O.spec_R8Ring mixed Try.func24 (by kernel_rfl) (Eq.mpr (by kernel_rfl : fev prg O.spec_R8Ring Try.f24 [a0, a1, a2] H K = F.spec_R8Ring a0 a1 a2 H K) h)

/-! loop.example/g01381/impl.raised: function 92 -/
def F.impl_raised (a0 a1 : Value) (H : Hp) (K : Value → Hp → Prop) : Prop :=
  jn (fun σ1 H1 =>
    K (σ1 5) H1) fun J1 =>
  lpE (fun Q2 σ2 H2 =>
    ob (vInt .lss (σ2 7) (σ2 6)) fun v8x3 =>
    cnd v8x3
      (ob (vInt .mul (σ2 5) (σ2 0)) fun v11x4 =>
    ob (vInt .add (σ2 7) (.int .i64 1)) fun v12x5 =>
    Q2 .normal (up (up (up (up (up (up (up σ2 8 v8x3) 9 (σ2 5)) 10 (σ2 0)) 11 v11x4) 5 v11x4) 12 v12x5) 7 v12x5) H2)
      (Q2 (.exit 0) (up σ2 8 v8x3) H2)) (blkQ 0 (thenQ J1 (retQ prg [(.tmp 4)] K))) (up (up (up (up (S0 [a0, a1]) 4 (.int .i64 0)) 5 (.int .i64 1)) 6 a1) 7 (.int .i64 0)) H
def O.impl_raised : Nat → Nat × List Nat := fun i => (0, [])
theorem R.impl_raised {a0 a1 : Value} {H : Hp} {K : Value → Hp → Prop} (h : F.impl_raised a0 a1 H K) : HT prg I.impl_raised [a0, a1].toArray H K :=
  HT_of_fev O.impl_raised mixed Try.func92 (by kernel_rfl) (Eq.mpr (by kernel_rfl : fev prg O.impl_raised Try.f92 [a0, a1] H K = F.impl_raised a0 a1 H K) h)

/-! loop.example/g01381/impl.WordsOfRing: function 25 -/
def F.impl_WordsOfRing (a0 a1 a2 : Value) (H : Hp) (K : Value → Hp → Prop) : Prop :=
  HT prg I.impl_IsRing [a0, a1].toArray H fun v14x1 H2 =>
  ob (vUn .not v14x1) fun v15x3 =>
  gop v15x3 false (fun K4 => K4 a2 H2) H2 fun v17x5 H6 =>
  gop v15x3 false (fun K7 => HT prg I.impl_within [v17x5, (.int .i64 1), (.int .i64 4)].toArray H6 K7) H6 fun v18x8 H9 =>
  gop v15x3 false (fun K10 => ob (vUn .not v18x8) fun u => K10 u H9) H9 fun v19x11 H12 =>
  ob (vPick v15x3 (.bool true) v19x11) fun v20x13 =>
  cnd v20x13
    (K (.tuple #[(.slice none 0 0), (.bool false)]) H12)
    (HT prg I.impl_raised [a1, a2].toArray H12 fun v23x14 H15 =>
  mkS 1 8 #[(.int .i64 0)] 2 v23x14 v23x14 H15 fun v24x16 H17 =>
  jn (fun σ18 H18 =>
    K (.tuple #[(σ18 8), (.bool true)]) H18) fun J18 =>
  ob (vLenSl a0) fun v26x19 =>
  lpE (fun Q20 σ20 H20 =>
    ob (vInt .lss (σ20 27) (σ20 26)) fun v28x21 =>
    cnd v28x21
      (jn (fun σ22 H22 =>
      ob (vInt .add (σ22 27) (.int .i64 1)) fun v54x23 =>
      Q20 .normal (up (up σ22 54 v54x23) 27 v54x23) H22) fun J22 =>
    jn (fun σ24 H24 =>
      ob (vIx 1 (σ24 8) (σ24 10)) fun v50x25 =>
      ob (vLoad v50x25 H24) fun v51x26 =>
      ob (vInt .add v51x26 (.int .i64 1)) fun v52x27 =>
      ob (vIx 1 (σ24 8) (σ24 10)) fun v53x28 =>
      st 1 v53x28 v52x27 H24 fun H29 =>
      J22 (up (up (up (up (up (up σ24 48 (σ24 8)) 49 (σ24 10)) 50 v50x25) 51 v51x26) 52 v52x27) 53 v53x28) H29) fun J24 =>
    lpE (fun Q30 σ30 H30 =>
      ob (vInt .lss (σ30 31) (σ30 30)) fun v32x31 =>
      cnd v32x31
        (ob (vInt .mul (σ30 10) (σ30 1)) fun v36x32 =>
      ob (vInt .add (σ30 9) (σ30 31)) fun v40x33 =>
      ob (vLenSl (σ30 0)) fun v42x34 =>
      ob (vInt .rem v40x33 v42x34) fun v43x35 =>
      ob (vIx 1 (σ30 0) v43x35) fun v44x36 =>
      ob (vLoad v44x36 H30) fun v45x37 =>
      ob (vInt .add v36x32 v45x37) fun v46x38 =>
      ob (vInt .add (σ30 31) (.int .i64 1)) fun v47x39 =>
      Q30 .normal (up (up (up (up (up (up (up (up (up (up (up (up (up (up (up (up (up (up (up σ30 32 v32x31) 33 (σ30 31)) 11 (σ30 31)) 34 (σ30 10)) 35 (σ30 1)) 36 v36x32) 37 (σ30 0)) 38 (σ30 9)) 39 (σ30 31)) 40 v40x33) 41 (σ30 0)) 42 v42x34) 43 v43x35) 44 v44x36) 45 v45x37) 46 v46x38) 10 v46x38) 47 v47x39) 31 v47x39) H30)
        (Q30 (.exit 2) (up σ30 32 v32x31) H30)) (blkQ 2 (thenQ J24 (blkQ 1 (thenQ J22 Q20)))) (up (up (up (up (up (up σ20 28 v28x21) 29 (σ20 27)) 9 (σ20 27)) 10 (.int .i64 0)) 30 (σ20 2)) 31 (.int .i64 0)) H20)
      (Q20 (.exit 0) (up σ20 28 v28x21) H20)) (blkQ 0 (thenQ J18 (retQ prg [(.tmp 6), (.tmp 7)] K))) (up (up (up (up (up (up (up (up (up (up (up (up (up (up (up (up (up (up (up (S0 [a0, a1, a2]) 6 (.slice none 0 0)) 7 (.bool false)) 12 a0) 13 a1) 14 v14x1) 15 v15x3) 16 v15x3) 17 v17x5) 18 v18x8) 19 v19x11) 20 v20x13) 21 a1) 22 a2) 23 v23x14) 24 v24x16) 8 v24x16) 25 a0) 26 v26x19) 27 (.int .i64 0)) H17)
def O.impl_WordsOfRing : Nat → Nat × List Nat := fun i => (0, [])
theorem R.impl_WordsOfRing {a0 a1 a2 : Value} {H : Hp} {K : Value → Hp → Prop} (h : F.impl_WordsOfRing a0 a1 a2 H K) : HT prg I.impl_WordsOfRing [a0, a1, a2].toArray H K :=
  HT_of_fev O.impl_WordsOfRing mixed Try.func25 (by kernel_rfl) (Eq.mpr (by kernel_rfl : fev prg O.impl_WordsOfRing Try.f25 [a0, a1, a2] H K = F.impl_WordsOfRing a0 a1 a2 H K) h)

/-! math.Inf: function 170 -/
def F.math_Inf (a0 : Value) (H : Hp) (K : Value → Hp → Prop) : Prop :=
  ob (vInt .geq a0 (.int .i64 0)) fun v5x1 =>
  cnd v5x1
    (hp prg (callFunc I.math_Float64frombits [(.int .u64 9218868437227405312)].toArray) H (nextH prg (fun v7x2 H3 =>
  K v7x2 H3)))
    (hp prg (callFunc I.math_Float64frombits [(.int .u64 18442240474082181120)].toArray) H (nextH prg (fun v7x4 H5 =>
  K v7x4 H5)))
def O.math_Inf : Nat → Nat × List Nat := fun i => (0, [])
theorem R.math_Inf {a0 : Value} {H : Hp} {K : Value → Hp → Prop} (h : F.math_Inf a0 H K) : HT prg I.math_Inf [a0].toArray H K :=
  HT_of_fev O.math_Inf mixed Try.func170 (by kernel_rfl) (Eq.mpr (by kernel_rfl : fev prg O.math_Inf Try.f170 [a0] H K = F.math_Inf a0 H K) h)

/-! math.NaN: function 171 -/
def F.math_NaN (H : Hp) (K : Value → Hp → Prop) : Prop :=
  hp prg (callFunc I.math_Float64frombits [(.int .u64 9221120237041090561)].toArray) H (nextH prg (fun v1x1 H2 =>
  K v1x1 H2))
def O.math_NaN : Nat → Nat × List Nat := fun i => (0, [])
theorem R.math_NaN {H : Hp} {K : Value → Hp → Prop} (h : F.math_NaN  H K) : HT prg I.math_NaN [].toArray H K :=
  HT_of_eq O.math_NaN mixed Try.func171 (by kernel_rfl) (G := F.math_NaN  H K) (by kernel_rfl) h

/-! loop.example/g01381/impl.IsFinite: function 172 -/
def F.impl_IsFinite (a0 : Value) (H : Hp) (K : Value → Hp → Prop) : Prop :=
  fA .sub a0 a0 H fun v5x1 H2 =>
  ob (vFcmp .eql v5x1 (.float .f32 0)) fun v6x3 =>
  K v6x3 H2
def O.impl_IsFinite : Nat → Nat × List Nat := fun i => (0, [])
theorem R.impl_IsFinite {a0 : Value} {H : Hp} {K : Value → Hp → Prop} (h : F.impl_IsFinite a0 H K) : HT prg I.impl_IsFinite [a0].toArray H K :=
  HT_of_fev O.impl_IsFinite mixed Try.func172 (by kernel_rfl) (Eq.mpr (by kernel_rfl : fev prg O.impl_IsFinite Try.f172 [a0] H K = F.impl_IsFinite a0 H K) h)

/-! loop.example/g01381/impl.naturalLog: function 173 -/
def F.impl_naturalLog (a0 : Value) (H : Hp) (K : Value → Hp → Prop) : Prop :=
  jn (fun σ1 H1 =>
    jn (fun σ2 H2 =>
      fA .sub (σ2 0) (.float .f64 4607182418800017408) H2 fun v21x3 H4 =>
      fA .add (σ2 0) (.float .f64 4607182418800017408) H4 fun v23x5 H6 =>
      fA .quo v21x3 v23x5 H6 fun v24x7 H8 =>
      fA .mul v24x7 v24x7 H8 fun v27x9 H10 =>
      jn (fun σ11 H11 =>
        fA .mul (σ11 4) (σ11 6) H11 fun v40x12 H13 =>
        fA .mul (.float .f64 4611686018427387904) v40x12 H13 fun v41x14 H15 =>
        fA .mul (σ11 3) (.float .f64 4604418534313441775) H15 fun v43x16 H17 =>
        fA .add v41x14 v43x16 H17 fun v44x18 H19 =>
        K v44x18 H19) fun J11 =>
      lpE (fun Q20 σ20 H20 =>
        ob (vFcmp .geq (σ20 7) (.float .f64 4607182418800017408)) fun v29x21 =>
        cnd v29x21
          (fA .quo (.float .f64 4607182418800017408) (σ20 7) H20 fun v33x22 H23 =>
        fA .mul (σ20 5) (σ20 6) H23 fun v36x24 H25 =>
        fA .add v33x22 v36x24 H25 fun v37x26 H27 =>
        fA .sub (σ20 7) (.float .f64 4611686018427387904) H27 fun v31x28 H29 =>
        Q20 .normal (up (up (up (up (up (up (up (up (up (up (up (up σ20 28 (σ20 7)) 29 v29x21) 32 (σ20 7)) 33 v33x22) 34 (σ20 5)) 35 (σ20 6)) 36 v36x24) 37 v37x26) 6 v37x26) 30 (σ20 7)) 31 v31x28) 7 v31x28) H29)
          (Q20 (.exit 4) (up (up σ20 28 (σ20 7)) 29 v29x21) H20)) (blkQ 4 (thenQ J11 (retQ prg [(.tmp 2)] K))) (up (up (up (up (up (up (up (up (up (up (up (up σ2 20 (σ2 0)) 21 v21x3) 22 (σ2 0)) 23 v23x5) 24 v24x7) 4 v24x7) 25 v24x7) 26 v24x7) 27 v27x9) 5 v27x9) 6 (.float .f64 0)) 7 (.float .f64 4627730092099895296)) H10) fun J2 =>
    lpE (fun Q30 σ30 H30 =>
      ob (vFcmp .lss (σ30 0) (.float .f64 4604930618986332160)) fun v15x31 =>
      cnd v15x31
        (fA .mul (σ30 0) (.float .f64 4611686018427387904) H30 fun v17x32 H33 =>
      fA .sub (σ30 3) (.float .f64 4607182418800017408) H33 fun v19x34 H35 =>
      Q30 .normal (up (up (up (up (up (up (up (up σ30 14 (σ30 0)) 15 v15x31) 16 (σ30 0)) 17 v17x32) 0 v17x32) 18 (σ30 3)) 19 v19x34) 3 v19x34) H35)
        (Q30 (.exit 2) (up (up σ30 14 (σ30 0)) 15 v15x31) H30)) (blkQ 2 (thenQ J2 (retQ prg [(.tmp 2)] K))) σ1 H1) fun J1 =>
  lpE (fun Q36 σ36 H36 =>
    ob (vFcmp .geq (σ36 0) (.float .f64 4609434218613702656)) fun v9x37 =>
    cnd v9x37
      (fA .quo (σ36 0) (.float .f64 4611686018427387904) H36 fun v11x38 H39 =>
    fA .add (σ36 3) (.float .f64 4607182418800017408) H39 fun v13x40 H41 =>
    Q36 .normal (up (up (up (up (up (up (up (up σ36 8 (σ36 0)) 9 v9x37) 10 (σ36 0)) 11 v11x38) 0 v11x38) 12 (σ36 3)) 13 v13x40) 3 v13x40) H41)
      (Q36 (.exit 0) (up (up σ36 8 (σ36 0)) 9 v9x37) H36)) (blkQ 0 (thenQ J1 (retQ prg [(.tmp 2)] K))) (up (up (S0 [a0]) 2 (.float .f64 0)) 3 (.float .f64 0)) H
def O.impl_naturalLog : Nat → Nat × List Nat := fun i => (0, [])
theorem R.impl_naturalLog {a0 : Value} {H : Hp} {K : Value → Hp → Prop} (h : F.impl_naturalLog a0 H K) : HT prg I.impl_naturalLog [a0].toArray H K :=
  HT_of_fev O.impl_naturalLog mixed Try.func173 (by kernel_rfl) (Eq.mpr (by kernel_rfl : fev prg O.impl_naturalLog Try.f173 [a0] H K = F.impl_naturalLog a0 H K) h)

/-! loop.example/g01381/impl.LogNumber: function 93 -/
def F.impl_LogNumber (a0 : Value) (H : Hp) (K : Value → Hp → Prop) : Prop :=
  ob (vFcmp .eql a0 (.float .f32 0)) fun v5x1 =>
  cnd v5x1
    (HT prg I.math_Inf [(.int .i64 (-1))].toArray H fun v6x2 H3 =>
    fC .f32 v6x2 H3 fun v7x4 H5 =>
    K v7x4 H5)
    (ob (vFcmp .lss a0 (.float .f32 0)) fun v10x6 =>
    gop v10x6 false (fun K7 => K7 a0 H) H fun v12x8 H9 =>
    gop v10x6 false (fun K10 => K10 a0 H9) H9 fun v13x11 H12 =>
    gop v10x6 false (fun K13 => ob (vFcmp .neq v12x8 v13x11) fun u => K13 u H12) H12 fun v14x14 H15 =>
    ob (vPick v10x6 (.bool true) v14x14) fun v15x16 =>
    cnd v15x16
      (HT prg I.math_NaN [].toArray H15 fun v16x17 H18 =>
      fC .f32 v16x17 H18 fun v17x19 H20 =>
      K v17x19 H20)
      (HT prg I.impl_IsFinite [a0].toArray H15 fun v20x21 H22 =>
      ob (vUn .not v20x21) fun v21x23 =>
      cnd v21x23
        (K a0 H22)
        (fC .f64 a0 H22 fun v24x24 H25 =>
  HT prg I.impl_naturalLog [v24x24].toArray H25 fun v25x26 H27 =>
  fC .f32 v25x26 H27 fun v26x28 H29 =>
  K v26x28 H29)))
def O.impl_LogNumber : Nat → Nat × List Nat := fun i => (0, [])
theorem R.impl_LogNumber {a0 : Value} {H : Hp} {K : Value → Hp → Prop} (h : F.impl_LogNumber a0 H K) : HT prg I.impl_LogNumber [a0].toArray H K :=
  HT_of_fev O.impl_LogNumber mixed Try.func93 (by kernel_rfl) (Eq.mpr (by kernel_rfl : fev prg O.impl_LogNumber Try.f93 [a0] H K = F.impl_LogNumber a0 H K) h)

/-! loop.example/g01381/impl.WordEntropy: function 26 -/
def F.impl_WordEntropy (a0 a1 a2 : Value) (H : Hp) (K : Value → Hp → Prop) : Prop :=
  HT prg I.impl_WordsOfRing [a0, a1, a2].toArray H fun v18x1 H2 =>
  ob (vExt v18x1 0) fun v19x3 =>
  ob (vExt v18x1 1) fun v20x4 =>
  ob (vUn .not v20x4) fun v22x5 =>
  cnd v22x5
    (K (.tuple #[(.float .f32 0), (.bool false)]) H2)
    (jn (fun σ6 H6 =>
    fA .sub (.float .f32 0) (σ6 10) H6 fun v46x7 H8 =>
    ob (vCF .f32 (σ6 2)) fun v48x9 =>
    fA .quo v46x7 v48x9 H8 fun v49x10 H11 =>
    K (.tuple #[v49x10, (.bool true)]) H11) fun J6 =>
  ob (vLenSl v19x3) fun v24x12 =>
  lpE (fun Q13 σ13 H13 =>
    ob (vInt .lss (σ13 25) (σ13 24)) fun v26x14 =>
    cnd v26x14
      (ob (vIx 1 (σ13 23) (σ13 25)) fun v27x15 =>
    ob (vLoad v27x15 H13) fun v28x16 =>
    ob (vInt .gtr v28x16 (.int .i64 0)) fun v30x17 =>
    cnd v30x17
      (ob (vCF .f32 v28x16) fun v32x18 =>
      ob (vLenSl (σ13 0)) fun v34x19 =>
      ob (vCF .f32 v34x19) fun v35x20 =>
      fA .quo v32x18 v35x20 H13 fun v36x21 H22 =>
      HT prg I.impl_LogNumber [v36x21].toArray H22 fun v40x23 H24 =>
      fA .mul v36x21 v40x23 H24 fun v41x25 H26 =>
      fA .quo v41x25 (.float .f32 1060205080) H26 fun v42x27 H28 =>
      fA .add (σ13 10) v42x27 H28 fun v43x29 H30 =>
      ob (vInt .add (σ13 25) (.int .i64 1)) fun v44x31 =>
    Q13 .normal (up (up (up (up (up (up (up (up (up (up (up (up (up (up (up (up (up (up (up (up (up (up (up σ13 26 v26x14) 27 v27x15) 28 v28x16) 12 v28x16) 29 v28x16) 30 v30x17) 31 v28x16) 32 v32x18) 33 (σ13 0)) 34 v34x19) 35 v35x20) 36 v36x21) 13 v36x21) 37 (σ13 10)) 38 v36x21) 39 v36x21) 40 v40x23) 41 v41x25) 42 v42x27) 43 v43x29) 10 v43x29) 44 v44x31) 25 v44x31) H30)
      (ob (vInt .add (σ13 25) (.int .i64 1)) fun v44x32 =>
    Q13 .normal (up (up (up (up (up (up (up (up σ13 26 v26x14) 27 v27x15) 28 v28x16) 12 v28x16) 29 v28x16) 30 v30x17) 44 v44x32) 25 v44x32) H13))
      (Q13 (.exit 0) (up σ13 26 v26x14) H13)) (blkQ 0 (thenQ J6 (retQ prg [(.tmp 6), (.tmp 7)] K))) (up (up (up (up (up (up (up (up (up (up (up (up (up (up (up (up (up (S0 [a0, a1, a2]) 6 (.float .f32 0)) 7 (.bool false)) 15 a0) 16 a1) 17 a2) 18 v18x1) 14 v18x1) 19 v19x3) 20 v20x4) 8 v19x3) 9 v20x4) 21 v20x4) 22 v22x5) 10 (.float .f32 0)) 23 v19x3) 24 v24x12) 25 (.int .i64 0)) H2)
def O.impl_WordEntropy : Nat → Nat × List Nat := fun i => (0, [])
theorem R.impl_WordEntropy {a0 a1 a2 : Value} {H : Hp} {K : Value → Hp → Prop} (h : F.impl_WordEntropy a0 a1 a2 H K) : HT prg I.impl_WordEntropy [a0, a1, a2].toArray H K :=
  HT_of_fev O.impl_WordEntropy mixed Try.func26 (by kernel_rfl) (Eq.mpr (by kernel_rfl : fev prg O.impl_WordEntropy Try.f26 [a0, a1, a2] H K = F.impl_WordEntropy a0 a1 a2 H K) h)

/-! loop.example/g01381/laws.r8Same: function 27 -/
def F.laws_r8Same (a0 a1 : Value) (H : Hp) (K : Value → Hp → Prop) : Prop :=
  ob (vLenSl a0) fun v7x1 =>
  ob (vLenSl a1) fun v9x2 =>
  ob (vInt .neq v7x1 v9x2) fun v10x3 =>
  cnd v10x3
    (K (.bool false) H)
    (jn (fun σ4 H4 =>
    K (.bool true) H4) fun J4 =>
  lpE (fun Q5 σ5 H5 =>
    ob (vLenSl (σ5 0)) fun v13x6 =>
    ob (vInt .lss (σ5 5) v13x6) fun v14x7 =>
    cnd v14x7
      (ob (vIx 1 (σ5 0) (σ5 5)) fun v19x8 =>
    ob (vLoad v19x8 H5) fun v20x9 =>
    ob (vIx 1 (σ5 1) (σ5 5)) fun v23x10 =>
    ob (vLoad v23x10 H5) fun v24x11 =>
    ob (vInt .neq v20x9 v24x11) fun v25x12 =>
    cnd v25x12
      (Q5 .ret (up (up (up (up (up (up (up (up (up (up (up (up (up (up σ5 11 (σ5 5)) 12 (σ5 0)) 13 v13x6) 14 v14x7) 17 (σ5 0)) 18 (σ5 5)) 19 v19x8) 20 v20x9) 21 (σ5 1)) 22 (σ5 5)) 23 v23x10) 24 v24x11) 25 v25x12) 4 (.bool false)) H5)
      (ob (vInt .add (σ5 5) (.int .i64 1)) fun v16x13 =>
    Q5 .normal (up (up (up (up (up (up (up (up (up (up (up (up (up (up (up (up σ5 11 (σ5 5)) 12 (σ5 0)) 13 v13x6) 14 v14x7) 17 (σ5 0)) 18 (σ5 5)) 19 v19x8) 20 v20x9) 21 (σ5 1)) 22 (σ5 5)) 23 v23x10) 24 v24x11) 25 v25x12) 15 (σ5 5)) 16 v16x13) 5 v16x13) H5))
      (Q5 (.exit 0) (up (up (up (up σ5 11 (σ5 5)) 12 (σ5 0)) 13 v13x6) 14 v14x7) H5)) (blkQ 0 (thenQ J4 (retQ prg [(.tmp 4)] K))) (up (up (up (up (up (up (up (S0 [a0, a1]) 4 (.bool false)) 6 a0) 7 v7x1) 8 a1) 9 v9x2) 10 v10x3) 5 (.int .i64 0)) H)
def O.laws_r8Same : Nat → Nat × List Nat := fun i => bif Nat.beq i 6 then (0, [0, 1, 2, 3, 4, 5, 6, 7, 8]) else (0, [])
theorem R.laws_r8Same {a0 a1 : Value} {H : Hp} {K : Value → Hp → Prop} (h : F.laws_r8Same a0 a1 H K) : HT prg I.laws_r8Same [a0, a1].toArray H K :=
  HT_of_fev O.laws_r8Same mixed Try.func27 (by kernel_rfl) (Eq.mpr (by kernel_rfl : fev prg O.laws_r8Same Try.f27 [a0, a1] H K = F.laws_r8Same a0 a1 H K) h)

/-! loop.example/g01381/impl.isSeed: function 95 -/
def F.impl_isSeed (a0 : Value) (H : Hp) (K : Value → Hp → Prop) : Prop :=
  HT prg I.impl_within [a0, (.int .i64 0), (.int .i64 4294967295)].toArray H fun v4x1 H2 =>
  K v4x1 H2
def O.impl_isSeed : Nat → Nat × List Nat := fun i => (0, [])
theorem R.impl_isSeed {a0 : Value} {H : Hp} {K : Value → Hp → Prop} (h : F.impl_isSeed a0 H K) : HT prg I.impl_isSeed [a0].toArray H K :=
  HT_of_fev O.impl_isSeed mixed Try.func95 (by kernel_rfl) (Eq.mpr (by kernel_rfl : fev prg O.impl_isSeed Try.f95 [a0] H K = F.impl_isSeed a0 H K) h)

/-! loop.example/g01381/impl.nextSeed: function 96 -/
def F.impl_nextSeed (a0 : Value) (H : Hp) (K : Value → Hp → Prop) : Prop :=
  ob (vInt .mul (.int .i64 1664525) a0) fun v4x1 =>
  ob (vInt .add v4x1 (.int .i64 1013904223)) fun v5x2 =>
  ob (vInt .rem v5x2 (.int .i64 4294967296)) fun v6x3 =>
  K v6x3 H
def O.impl_nextSeed : Nat → Nat × List Nat := fun i => (0, [])
theorem R.impl_nextSeed {a0 : Value} {H : Hp} {K : Value → Hp → Prop} (h : F.impl_nextSeed a0 H K) : HT prg I.impl_nextSeed [a0].toArray H K :=
  HT_of_fev O.impl_nextSeed mixed Try.func96 (by kernel_rfl) (Eq.mpr (by kernel_rfl : fev prg O.impl_nextSeed Try.f96 [a0] H K = F.impl_nextSeed a0 H K) h)

/-! loop.example/g01381/impl.DrawRing: function 28 -/
def F.impl_DrawRing (a0 a1 a2 : Value) (H : Hp) (K : Value → Hp → Prop) : Prop :=
  HT prg I.impl_areStates [a0].toArray H fun v11x1 H2 =>
  ob (vUn .not v11x1) fun v12x3 =>
  gop v12x3 false (fun K4 => K4 a1 H2) H2 fun v14x5 H6 =>
  gop v12x3 false (fun K7 => HT prg I.impl_within [v14x5, (.int .i64 1), (.int .i64 64)].toArray H6 K7) H6 fun v15x8 H9 =>
  gop v12x3 false (fun K10 => ob (vUn .not v15x8) fun u => K10 u H9) H9 fun v16x11 H12 =>
  ob (vPick v12x3 (.bool true) v16x11) fun v17x13 =>
  gop v17x13 false (fun K14 => K14 a2 H12) H12 fun v19x15 H16 =>
  gop v17x13 false (fun K17 => HT prg I.impl_isSeed [v19x15].toArray H16 K17) H16 fun v20x18 H19 =>
  gop v17x13 false (fun K20 => ob (vUn .not v20x18) fun u => K20 u H19) H19 fun v21x21 H22 =>
  ob (vPick v17x13 (.bool true) v21x21) fun v22x23 =>
  cnd v22x23
    (K (.tuple #[(.slice none 0 0), (.int .i64 0), (.bool false)]) H22)
    (bS 1 0 #[(.int .i64 0)] 2 [] H22 fun v23x24 H25 =>
  jn (fun σ26 H26 =>
    K (.tuple #[(σ26 9), (σ26 2), (.bool true)]) H26) fun J26 =>
  lpE (fun Q27 σ27 H27 =>
    ob (vInt .lss (σ27 25) (σ27 24)) fun v26x28 =>
    cnd v26x28
      (HT prg I.impl_nextSeed [(σ27 2)].toArray H27 fun v28x29 H30 =>
    ob (vInt .mul v28x29 (σ27 0)) fun v32x31 =>
    ob (vInt .quo v32x31 (.int .i64 4294967296)) fun v33x32 =>
    bS 1 1 #[(.int .i64 0)] 2 [(0, v33x32)] H30 fun v34x33 H34 =>
    apd 1 8 #[(.int .i64 0)] 2 (σ27 9) v34x33 H34 fun v35x35 H36 =>
    ob (vInt .add (σ27 25) (.int .i64 1)) fun v36x37 =>
    Q27 .normal (up (up (up (up (up (up (up (up (up (up (up (up (up (up σ27 26 v26x28) 27 (σ27 2)) 28 v28x29) 2 v28x29) 29 (σ27 9)) 30 v28x29) 31 (σ27 0)) 32 v32x31) 33 v33x32) 34 v34x33) 35 v35x35) 9 v35x35) 36 v36x37) 25 v36x37) H36)
      (Q27 (.exit 0) (up σ27 26 v26x28) H27)) (blkQ 0 (thenQ J26 (retQ prg [(.tmp 6), (.tmp 7), (.tmp 8)] K))) (up (up (up (up (up (up (up (up (up (up (up (up (up (up (up (up (up (up (up (up (S0 [a0, a1, a2]) 6 (.slice none 0 0)) 7 (.int .i64 0)) 8 (.bool false)) 10 a0) 11 v11x1) 12 v12x3) 13 v12x3) 14 v14x5) 15 v15x8) 16 v16x11) 17 v17x13) 18 v17x13) 19 v19x15) 20 v20x18) 21 v21x21) 22 v22x23) 23 v23x24) 9 v23x24) 24 a1) 25 (.int .i64 0)) H25)
def O.impl_DrawRing : Nat → Nat × List Nat := fun i => (0, [])
theorem R.impl_DrawRing {a0 a1 a2 : Value} {H : Hp} {K : Value → Hp → Prop} (h : F.impl_DrawRing a0 a1 a2 H K) : HT prg I.impl_DrawRing [a0, a1, a2].toArray H K :=
  HT_of_fev O.impl_DrawRing mixed Try.func28 (by kernel_rfl) (Eq.mpr (by kernel_rfl : fev prg O.impl_DrawRing Try.f28 [a0, a1, a2] H K = F.impl_DrawRing a0 a1 a2 H K) h)

/-! loop.example/g01381/laws.FnWordsOf: function 5 -/
def F.laws_FnWordsOf (a0 a1 : Value) (H : Hp) (K : Value → Hp → Prop) : Prop :=
  HT prg I.laws_r8Long [a0, a1].toArray H fun v36x1 H2 =>
  cnd v36x1
    (K (.bool true) H2)
    (HT prg I.laws_r8At [a1, (.int .i64 40), (.int .i64 2)].toArray H2 fun v38x3 H4 =>
  ob (vInt .add (.int .i64 2) v38x3) fun v39x5 =>
  HT prg I.laws_r8At [a1, (.int .i64 41), (.int .i64 30)].toArray H4 fun v41x6 H7 =>
  ob (vInt .add (.int .i64 1) v41x6) fun v42x8 =>
  HT prg I.spec_R8Ring [a0, v39x5, v42x8].toArray H7 fun v46x9 H10 =>
  HT prg I.laws_r8At [a1, (.int .i64 42), (.int .i64 4)].toArray H10 fun v48x11 H12 =>
  ob (vInt .add (.int .i64 1) v48x11) fun v49x13 =>
  HT prg I.impl_WordsOfRing [v46x9, v39x5, v49x13].toArray H12 fun v54x14 H15 =>
  ob (vExt v54x14 0) fun v55x16 =>
  ob (vExt v54x14 1) fun v56x17 =>
  HT prg I.laws_r8At [a1, (.int .i64 43), (.int .i64 30)].toArray H15 fun v60x18 H19 =>
  HT prg I.impl_TurnRing [v46x9, v60x18].toArray H19 fun v61x20 H21 =>
  ob (vExt v61x20 0) fun v62x22 =>
  ob (vExt v61x20 1) fun v63x23 =>
  HT prg I.impl_WordsOfRing [v62x22, v39x5, v49x13].toArray H21 fun v68x24 H25 =>
  ob (vExt v68x24 0) fun v69x26 =>
  ob (vExt v68x24 1) fun v70x27 =>
  HT prg I.impl_WordEntropy [v46x9, v39x5, v49x13].toArray H25 fun v75x28 H29 =>
  ob (vExt v75x28 0) fun v76x30 =>
  ob (vExt v75x28 1) fun v77x31 =>
  mkS 1 8 #[(.int .i64 0)] 2 v42x8 v42x8 H29 fun v80x32 H33 =>
  HT prg I.impl_WordEntropy [v80x32, v39x5, v49x13].toArray H33 fun v83x34 H35 =>
  ob (vExt v83x34 0) fun v84x36 =>
  ob (vExt v83x34 1) fun v85x37 =>
  ob (vUn .not v56x17) fun v87x38 =>
  gop v87x38 false (fun K39 => K39 v63x23 H35) H35 fun v89x40 H41 =>
  gop v87x38 false (fun K42 => ob (vUn .not v89x40) fun u => K42 u H41) H41 fun v90x43 H44 =>
  ob (vPick v87x38 (.bool true) v90x43) fun v91x45 =>
  gop v91x45 false (fun K46 => K46 v70x27 H44) H44 fun v93x47 H48 =>
  gop v91x45 false (fun K49 => ob (vUn .not v93x47) fun u => K49 u H48) H48 fun v94x50 H51 =>
  ob (vPick v91x45 (.bool true) v94x50) fun v95x52 =>
  gop v95x52 false (fun K53 => K53 v77x31 H51) H51 fun v97x54 H55 =>
  gop v95x52 false (fun K56 => ob (vUn .not v97x54) fun u => K56 u H55) H55 fun v98x57 H58 =>
  ob (vPick v95x52 (.bool true) v98x57) fun v99x59 =>
  gop v99x59 false (fun K60 => K60 v85x37 H58) H58 fun v101x61 H62 =>
  gop v99x59 false (fun K63 => ob (vUn .not v101x61) fun u => K63 u H62) H62 fun v102x64 H65 =>
  ob (vPick v99x59 (.bool true) v102x64) fun v103x66 =>
  gop v103x66 false (fun K67 => K67 v55x16 H65) H65 fun v105x68 H69 =>
  gop v103x66 false (fun K70 => K70 v69x26 H69) H69 fun v106x71 H72 =>
  gop v103x66 false (fun K73 => HT prg I.laws_r8Same [v105x68, v106x71].toArray H72 K73) H72 fun v107x74 H75 =>
  gop v103x66 false (fun K76 => ob (vUn .not v107x74) fun u => K76 u H75) H75 fun v108x77 H78 =>
  ob (vPick v103x66 (.bool true) v108x77) fun v109x79 =>
  gop v109x79 false (fun K80 => K80 v76x30 H78) H78 fun v111x81 H82 =>
  gop v109x79 false (fun K83 => fC .f64 v111x81 H82 K83) H82 fun v112x84 H85 =>
  gop v109x79 false (fun K86 => ob (vFcmp .lss v112x84 (.float .f64 13785626545772145148)) fun u => K86 u H85) H85 fun v113x87 H88 =>
  ob (vPick v109x79 (.bool true) v113x87) fun v114x89 =>
  gop v114x89 false (fun K90 => K90 v76x30 H88) H88 fun v116x91 H92 =>
  gop v114x89 false (fun K93 => fC .f64 v116x91 H92 K93) H92 fun v117x94 H95 =>
  gop v114x89 false (fun K96 => ob (vFcmp .gtr v117x94 (.float .f64 4609821528181656519)) fun u => K96 u H95) H95 fun v118x97 H98 =>
  ob (vPick v114x89 (.bool true) v118x97) fun v119x99 =>
  gop v119x99 false (fun K100 => K100 v84x36 H98) H98 fun v121x101 H102 =>
  gop v119x99 false (fun K103 => ob (vFcmp .neq v121x101 (.float .f32 0)) fun u => K103 u H102) H102 fun v122x104 H105 =>
  ob (vPick v119x99 (.bool true) v122x104) fun v123x106 =>
  cnd v123x106
    (K (.bool false) H105)
    (jn (fun σ107 H107 =>
    jn (fun σ108 H108 =>
      ob (vInt .neq (σ108 19) (σ108 6)) fun v146x109 =>
      gop v146x109 false (fun K110 => K110 (σ108 9) H108) H108 fun v148x111 H112 =>
      gop v146x109 false (fun K113 => ob (vLenSl v148x111) fun u => K113 u H112) H112 fun v149x114 H115 =>
      gop v146x109 false (fun K116 => K116 (σ108 20) H115) H115 fun v150x117 H118 =>
      gop v146x109 false (fun K119 => ob (vInt .neq v149x114 v150x117) fun u => K119 u H118) H118 fun v151x120 H121 =>
      ob (vPick v146x109 (.bool true) v151x120) fun v152x122 =>
      cnd v152x122
        (K (.bool false) H121)
        (HT prg I.laws_r8At [(σ108 1), (.int .i64 44), (.int .i64 256)].toArray H121 fun v154x123 H124 =>
      ob (vInt .mul v154x123 (.int .i64 65537)) fun v155x125 =>
      HT prg I.impl_DrawRing [(σ108 5), (σ108 6), v155x125].toArray H124 fun v160x126 H127 =>
      ob (vExt v160x126 0) fun v161x128 =>
      ob (vExt v160x126 1) fun v162x129 =>
      ob (vExt v160x126 2) fun v163x130 =>
      HT prg I.laws_r8At [(σ108 1), (.int .i64 45), (σ108 6)].toArray H127 fun v166x131 H132 =>
      ob (vInt .add (.int .i64 1) v166x131) fun v167x133 =>
      HT prg I.impl_DrawRing [(σ108 5), v167x133, v155x125].toArray H132 fun v172x134 H135 =>
      ob (vExt v172x134 0) fun v173x136 =>
      ob (vExt v172x134 1) fun v174x137 =>
      ob (vExt v172x134 2) fun v175x138 =>
      ob (vUn .not v163x130) fun v177x139 =>
      gop v177x139 false (fun K140 => K140 v175x138 H135) H135 fun v179x141 H142 =>
      gop v177x139 false (fun K143 => ob (vUn .not v179x141) fun u => K143 u H142) H142 fun v180x144 H145 =>
      ob (vPick v177x139 (.bool true) v180x144) fun v181x146 =>
      gop v181x146 false (fun K147 => K147 v161x128 H145) H145 fun v183x148 H149 =>
      gop v181x146 false (fun K150 => ob (vLenSl v183x148) fun u => K150 u H149) H149 fun v184x151 H152 =>
      gop v181x146 false (fun K153 => K153 (σ108 6) H152) H152 fun v185x154 H155 =>
      gop v181x146 false (fun K156 => ob (vInt .neq v184x151 v185x154) fun u => K156 u H155) H155 fun v186x157 H158 =>
      ob (vPick v181x146 (.bool true) v186x157) fun v187x159 =>
      gop v187x159 false (fun K160 => K160 v161x128 H158) H158 fun v189x161 H162 =>
      gop v187x159 false (fun K163 => K163 (σ108 5) H162) H162 fun v190x164 H165 =>
      gop v187x159 false (fun K166 => HT prg I.impl_IsRing [v189x161, v190x164].toArray H165 K166) H165 fun v191x167 H168 =>
      gop v187x159 false (fun K169 => ob (vUn .not v191x167) fun u => K169 u H168) H168 fun v192x170 H171 =>
      ob (vPick v187x159 (.bool true) v192x170) fun v193x172 =>
      gop v193x172 false (fun K173 => K173 v161x128 H171) H171 fun v195x174 H175 =>
      gop v193x172 false (fun K176 => K176 v167x133 H175) H175 fun v196x177 H178 =>
      gop v193x172 false (fun K179 => ob (vSl3 1 v195x174 none (some v196x177) none) fun u => K179 u H178) H178 fun v197x180 H181 =>
      gop v193x172 false (fun K182 => K182 v173x136 H181) H181 fun v198x183 H184 =>
      gop v193x172 false (fun K185 => HT prg I.laws_r8Same [v197x180, v198x183].toArray H184 K185) H184 fun v199x186 H187 =>
      gop v193x172 false (fun K188 => ob (vUn .not v199x186) fun u => K188 u H187) H187 fun v200x189 H190 =>
      ob (vPick v193x172 (.bool true) v200x189) fun v201x191 =>
      cnd v201x191
        (K (.bool false) H190)
        (ob (vInt .eql v167x133 (σ108 6)) fun v204x192 =>
      cnd v204x192
        (ob (vInt .eql v174x137 v162x129) fun v207x193 =>
        K v207x193 H190)
        (ob (vInt .sub (σ108 6) v167x133) fun v212x194 =>
      HT prg I.impl_DrawRing [(σ108 5), v212x194, v174x137].toArray H190 fun v214x195 H196 =>
      ob (vExt v214x195 0) fun v215x197 =>
      ob (vExt v214x195 1) fun v216x198 =>
      ob (vExt v214x195 2) fun v217x199 =>
      gop v217x199 true (fun K200 => K200 v216x198 H196) H196 fun v220x201 H202 =>
      gop v217x199 true (fun K203 => K203 v162x129 H202) H202 fun v221x204 H205 =>
      gop v217x199 true (fun K206 => ob (vInt .eql v220x201 v221x204) fun u => K206 u H205) H205 fun v222x207 H208 =>
      ob (vPick v217x199 v222x207 (.bool false)) fun v223x209 =>
      gop v223x209 true (fun K210 => K210 v161x128 H208) H208 fun v225x211 H212 =>
      gop v223x209 true (fun K213 => K213 v167x133 H212) H212 fun v226x214 H215 =>
      gop v223x209 true (fun K216 => ob (vSl3 1 v225x211 (some v226x214) none none) fun u => K216 u H215) H215 fun v227x217 H218 =>
      gop v223x209 true (fun K219 => K219 v215x197 H218) H218 fun v228x220 H221 =>
      gop v223x209 true (fun K222 => HT prg I.laws_r8Same [v227x217, v228x220].toArray H221 K222) H221 fun v229x223 H224 =>
      ob (vPick v223x209 v229x223 (.bool false)) fun v230x225 =>
      K v230x225 H224)))) fun J108 =>
    lpE (fun Q226 σ226 H226 =>
      ob (vLenSl (σ226 9)) fun v134x227 =>
      ob (vInt .lss (σ226 22) v134x227) fun v135x228 =>
      cnd v135x228
        (ob (vIx 1 (σ226 9) (σ226 22)) fun v141x229 =>
      ob (vLoad v141x229 H226) fun v142x230 =>
      ob (vInt .add (σ226 19) v142x230) fun v143x231 =>
      ob (vInt .add (σ226 22) (.int .i64 1)) fun v137x232 =>
      Q226 .normal (up (up (up (up (up (up (up (up (up (up (up (up (up (up σ226 132 (σ226 22)) 133 (σ226 9)) 134 v134x227) 135 v135x228) 138 (σ226 19)) 139 (σ226 9)) 140 (σ226 22)) 141 v141x229) 142 v142x230) 143 v143x231) 19 v143x231) 136 (σ226 22)) 137 v137x232) 22 v137x232) H226)
        (Q226 (.exit 2) (up (up (up (up σ226 132 (σ226 22)) 133 (σ226 9)) 134 v134x227) 135 v135x228) H226)) (blkQ 2 (thenQ J108 (retQ prg [(.tmp 4)] K))) (up σ107 22 (.int .i64 0)) H107) fun J107 =>
  lpE (fun Q233 σ233 H233 =>
    ob (vInt .lss (σ233 21) (σ233 8)) fun v126x234 =>
    cnd v126x234
      (ob (vInt .mul (σ233 20) (σ233 5)) fun v131x235 =>
    ob (vInt .add (σ233 21) (.int .i64 1)) fun v128x236 =>
    Q233 .normal (up (up (up (up (up (up (up (up (up (up σ233 124 (σ233 21)) 125 (σ233 8)) 126 v126x234) 129 (σ233 20)) 130 (σ233 5)) 131 v131x235) 20 v131x235) 127 (σ233 21)) 128 v128x236) 21 v128x236) H233)
      (Q233 (.exit 0) (up (up (up σ233 124 (σ233 21)) 125 (σ233 8)) 126 v126x234) H233)) (blkQ 0 (thenQ J107 (retQ prg [(.tmp 4)] K))) (up (up (up (up (up (up (up (up (up (up (up (up (up (up (up (up (up (up (up (up (up (up (up (up (up (up (up (up (up (up (up (up (up (up (up (up (up (up (up (up (up (up (up (up (up (up (up (up (up (up (up (up (up (up (up (up (up (up (up (up (up (up (up (up (up (up (up (up (up (up (up (up (up (up (up (up (up (up (up (up (up (up (up (up (up (up (up (up (up (up (up (up (up (up (up (up (up (up (up (up (up (up (up (up (up (up (up (up (S0 [a0, a1]) 4 (.bool false)) 34 a0) 35 a1) 36 v36x1) 37 a1) 38 v38x3) 39 v39x5) 5 v39x5) 40 a1) 41 v41x6) 42 v42x8) 6 v42x8) 43 a0) 44 v39x5) 45 v42x8) 46 v46x9) 7 v46x9) 47 a1) 48 v48x11) 49 v49x13) 8 v49x13) 51 v46x9) 52 v39x5) 53 v49x13) 54 v54x14) 50 v54x14) 55 v55x16) 56 v56x17) 9 v55x16) 10 v56x17) 58 v46x9) 59 a1) 60 v60x18) 61 v61x20) 57 v61x20) 62 v62x22) 63 v63x23) 11 v62x22) 12 v63x23) 65 v62x22) 66 v39x5) 67 v49x13) 68 v68x24) 64 v68x24) 69 v69x26) 70 v70x27) 13 v69x26) 14 v70x27) 72 v46x9) 73 v39x5) 74 v49x13) 75 v75x28) 71 v75x28) 76 v76x30) 77 v77x31) 15 v76x30) 16 v77x31) 79 v42x8) 80 v80x32) 81 v39x5) 82 v49x13) 83 v83x34) 78 v83x34) 84 v84x36) 85 v85x37) 17 v84x36) 18 v85x37) 86 v56x17) 87 v87x38) 88 v87x38) 89 v89x40) 90 v90x43) 91 v91x45) 92 v91x45) 93 v93x47) 94 v94x50) 95 v95x52) 96 v95x52) 97 v97x54) 98 v98x57) 99 v99x59) 100 v99x59) 101 v101x61) 102 v102x64) 103 v103x66) 104 v103x66) 105 v105x68) 106 v106x71) 107 v107x74) 108 v108x77) 109 v109x79) 110 v109x79) 111 v111x81) 112 v112x84) 113 v113x87) 114 v114x89) 115 v114x89) 116 v116x91) 117 v117x94) 118 v118x97) 119 v119x99) 120 v119x99) 121 v121x101) 122 v122x104) 123 v123x106) 19 (.int .i64 0)) 20 (.int .i64 1)) 21 (.int .i64 0)) H105))
def O.laws_FnWordsOf : Nat → Nat × List Nat := fun i => (0, [])
theorem R.laws_FnWordsOf {a0 a1 : Value} {H : Hp} {K : Value → Hp → Prop} (h : F.laws_FnWordsOf a0 a1 H K) : HT prg I.laws_FnWordsOf [a0, a1].toArray H K :=
  HT_of_fev O.laws_FnWordsOf mixed Try.func5 (by kernel_rfl) (Eq.mpr (by kernel_rfl : fev prg O.laws_FnWordsOf Try.f5 [a0, a1] H K = F.laws_FnWordsOf a0 a1 H K) h)

/-! loop.example/g01381/impl.RuleOfNumber: function 30 -/
def F.impl_RuleOfNumber (a0 : Value) (H : Hp) (K : Value → Hp → Prop) : Prop :=
  nw #[(.int .i64 0), (.int .i64 0), (.slice none 0 0)] 43 H fun v2x1 H2 =>
  HT prg I.impl_within [a0, (.int .i64 0), (.int .i64 255)].toArray H2 fun v7x3 H4 =>
  ob (vUn .not v7x3) fun v8x5 =>
  cnd v8x5
    (ob (vBuild [(0, 1), (1, 1), (2, 1)] (.agg #[(.int .i64 0), (.int .i64 0), (.slice none 0 0)]) []) fun v9x6 =>
    st 3 v2x1 v9x6 H4 fun H7 =>
    ob (vLoadN 3 v2x1 H7) fun u8 => K (.tuple #[u8, (.bool false)]) H7)
    (ob (vBuild [(0, 1), (1, 1), (2, 1)] (.agg #[(.int .i64 0), (.int .i64 0), (.slice none 0 0)]) [(0, (.int .i64 2)), (1, (.int .i64 1))]) fun v10x9 =>
  nw #[(.int .i64 0), (.int .i64 0), (.slice none 0 0)] 43 H4 fun v4x10 H11 =>
  st 3 v4x10 v10x9 H11 fun H12 =>
  jn (fun σ13 H13 =>
    ob (vLoadN 3 (σ13 4) H13) fun v24x14 =>
    st 3 (σ13 2) v24x14 H13 fun H15 =>
    ob (vLoadN 3 (σ13 2) H15) fun u16 => K (.tuple #[u16, (.bool true)]) H15) fun J13 =>
  lpE (fun Q17 σ17 H17 =>
    ob (vInt .lss (σ17 11) (.int .i64 8)) fun v12x18 =>
    cnd v12x18
      (ob (vFa 2 (σ17 4)) fun v14x19 =>
    ob (vLoad v14x19 H17) fun v15x20 =>
    ob (vInt .shr (σ17 0) (σ17 11)) fun v18x21 =>
    ob (vInt .and v18x21 (.int .i64 1)) fun v19x22 =>
    bS 1 1 #[(.int .i64 0)] 2 [(0, v19x22)] H17 fun v20x23 H24 =>
    apd 1 8 #[(.int .i64 0)] 2 v15x20 v20x23 H24 fun v21x25 H26 =>
    ob (vFa 2 (σ17 4)) fun v22x27 =>
    st 1 v22x27 v21x25 H26 fun H28 =>
    ob (vInt .add (σ17 11) (.int .i64 1)) fun v23x29 =>
    Q17 .normal (up (up (up (up (up (up (up (up (up (up (up (up (up (up σ17 12 v12x18) 13 (σ17 11)) 5 (σ17 11)) 14 v14x19) 15 v15x20) 16 (σ17 0)) 17 (σ17 11)) 18 v18x21) 19 v19x22) 20 v20x23) 21 v21x25) 22 v22x27) 23 v23x29) 11 v23x29) H28)
      (Q17 (.exit 0) (up σ17 12 v12x18) H17)) (blkQ 0 (thenQ J13 (retQ prg [(.cell 2 43), (.tmp 3)] K))) (up (up (up (up (up (up (up (up (S0 [a0]) 2 v2x1) 3 (.bool false)) 6 a0) 7 v7x3) 8 v8x5) 10 v10x9) 4 v4x10) 11 (.int .i64 0)) H12)
def O.impl_RuleOfNumber : Nat → Nat × List Nat := fun i => bif Nat.beq i 7 then (0, [0, 1, 2, 3, 4, 5, 6, 7, 8, 9]) else (0, [])
theorem R.impl_RuleOfNumber {a0 : Value} {H : Hp} {K : Value → Hp → Prop} (h : F.impl_RuleOfNumber a0 H K) : HT prg I.impl_RuleOfNumber [a0].toArray H K :=
  HT_of_fev O.impl_RuleOfNumber mixed Try.func30 (by kernel_rfl) (Eq.mpr (by kernel_rfl : fev prg O.impl_RuleOfNumber Try.f30 [a0] H K = F.impl_RuleOfNumber a0 H K) h)

/-! (loop.example/g01381/impl.Rule).cells: function 100 -/
def F.impl_Rule_cells (a0 : Value) (H : Hp) (K : Value → Hp → Prop) : Prop :=
  nw (a0 : Value).cells 43 H fun v1x1 H2 =>
  ob (vFa 1 v1x1) fun v3x3 =>
  ob (vLoad v3x3 H2) fun v4x4 =>
  ob (vInt .mul (.int .i64 2) v4x4) fun v5x5 =>
  ob (vInt .add v5x5 (.int .i64 1)) fun v6x6 =>
  K v6x6 H2
def O.impl_Rule_cells : Nat → Nat × List Nat := fun i => (0, [])
theorem R.impl_Rule_cells {a0 : Value} {H : Hp} {K : Value → Hp → Prop} (h : F.impl_Rule_cells a0 H K) : HT prg I.impl_Rule_cells [a0].toArray H K :=
  HT_of_fev O.impl_Rule_cells mixed Try.func100 (by kernel_rfl) (Eq.mpr (by kernel_rfl : fev prg O.impl_Rule_cells Try.f100 [a0] H K = F.impl_Rule_cells a0 H K) h)

/-! loop.example/g01381/impl.isReach: function 105 -/
def F.impl_isReach (a0 : Value) (H : Hp) (K : Value → Hp → Prop) : Prop :=
  HT prg I.impl_within [a0, (.int .i64 0), (.int .i64 2)].toArray H fun v4x1 H2 =>
  K v4x1 H2
def O.impl_isReach : Nat → Nat × List Nat := fun i => (0, [])
theorem R.impl_isReach {a0 : Value} {H : Hp} {K : Value → Hp → Prop} (h : F.impl_isReach a0 H K) : HT prg I.impl_isReach [a0].toArray H K :=
  HT_of_fev O.impl_isReach mixed Try.func105 (by kernel_rfl) (Eq.mpr (by kernel_rfl : fev prg O.impl_isReach Try.f105 [a0] H K = F.impl_isReach a0 H K) h)

/-! loop.example/g01381/impl.ValidRule: function 98 -/
def F.impl_ValidRule (a0 : Value) (H : Hp) (K : Value → Hp → Prop) : Prop :=
  nw (a0 : Value).cells 43 H fun v1x1 H2 =>
  ob (vFa 0 v1x1) fun v4x3 =>
  ob (vLoad v4x3 H2) fun v5x4 =>
  HT prg I.impl_areStates [v5x4].toArray H2 fun v6x5 H6 =>
  ob (vUn .not v6x5) fun v7x7 =>
  gop v7x7 false (fun K8 => ob (vFa 1 v1x1) fun u => K8 u H6) H6 fun v9x9 H10 =>
  gop v7x7 false (fun K11 => ob (vLoad v9x9 H10) fun u => K11 u H10) H10 fun v10x12 H13 =>
  gop v7x7 false (fun K14 => HT prg I.impl_isReach [v10x12].toArray H13 K14) H13 fun v11x15 H16 =>
  gop v7x7 false (fun K17 => ob (vUn .not v11x15) fun u => K17 u H16) H16 fun v12x18 H19 =>
  ob (vPick v7x7 (.bool true) v12x18) fun v13x20 =>
  cnd v13x20
    (K (.bool false) H19)
    (ob (vFa 0 v1x1) fun v14x21 =>
  ob (vLoad v14x21 H19) fun v15x22 =>
  ob (vLoadN 3 v1x1 H19) fun v16x23 =>
  HT prg I.impl_Rule_cells [v16x23].toArray H19 fun v17x24 H25 =>
  Le H19 H25 ∧ (HT prg I.impl_raised [v15x22, v17x24].toArray H25 fun v18x26 H27 =>
  Le H25 H27 ∧ (ob (vFa 2 v1x1) fun v19x28 =>
  ob (vLoad v19x28 H27) fun v20x29 =>
  ob (vFa 0 v1x1) fun v23x30 =>
  ob (vLoad v23x30 H27) fun v24x31 =>
  ob (vInt .sub v24x31 (.int .i64 1)) fun v25x32 =>
  HT prg I.impl_areMany [v20x29, v18x26, v18x26, (.int .i64 0), v25x32].toArray H27 fun v26x33 H34 =>
  K v26x33 H34)))
def O.impl_ValidRule : Nat → Nat × List Nat := fun i => bif Nat.beq i 3 then (0, [0, 1, 2, 3, 4, 5]) else (0, [])
theorem R.impl_ValidRule {a0 : Value} {H : Hp} {K : Value → Hp → Prop} (h : F.impl_ValidRule a0 H K) : HT prg I.impl_ValidRule [a0].toArray H K :=
  HT_of_fev O.impl_ValidRule mixed Try.func98 (by kernel_rfl) (Eq.mpr (by kernel_rfl : fev prg O.impl_ValidRule Try.f98 [a0] H K = F.impl_ValidRule a0 H K) h)

/-! loop.example/g01381/impl.NumberOfRule: function 31 -/
def F.impl_NumberOfRule (a0 : Value) (H : Hp) (K : Value → Hp → Prop) : Prop :=
  nw (a0 : Value).cells 43 H fun v1x1 H2 =>
  ob (vLoadN 3 v1x1 H2) fun v7x3 =>
  HT prg I.impl_ValidRule [v7x3].toArray H2 fun v8x4 H5 =>
  ob (vUn .not v8x4) fun v9x6 =>
  gop v9x6 false (fun K7 => ob (vFa 0 v1x1) fun u => K7 u H5) H5 fun v11x8 H9 =>
  gop v9x6 false (fun K10 => ob (vLoad v11x8 H9) fun u => K10 u H9) H9 fun v12x11 H12 =>
  gop v9x6 false (fun K13 => ob (vInt .neq v12x11 (.int .i64 2)) fun u => K13 u H12) H12 fun v13x14 H15 =>
  ob (vPick v9x6 (.bool true) v13x14) fun v14x16 =>
  gop v14x16 false (fun K17 => ob (vFa 1 v1x1) fun u => K17 u H15) H15 fun v16x18 H19 =>
  gop v14x16 false (fun K20 => ob (vLoad v16x18 H19) fun u => K20 u H19) H19 fun v17x21 H22 =>
  gop v14x16 false (fun K23 => ob (vInt .neq v17x21 (.int .i64 1)) fun u => K23 u H22) H22 fun v18x24 H25 =>
  ob (vPick v14x16 (.bool true) v18x24) fun v19x26 =>
  cnd v19x26
    (K (.tuple #[(.int .i64 0), (.bool false)]) H25)
    (jn (fun σ27 H27 =>
    K (.tuple #[(σ27 4), (.bool true)]) H27) fun J27 =>
  ob (vFa 2 v1x1) fun v20x28 =>
  ob (vLoad v20x28 H25) fun v21x29 =>
  ob (vLenSl v21x29) fun v22x30 =>
  lpE (fun Q31 σ31 H31 =>
    ob (vInt .lss (σ31 23) (σ31 22)) fun v24x32 =>
    cnd v24x32
      (ob (vIx 1 (σ31 21) (σ31 23)) fun v26x33 =>
    ob (vLoad v26x33 H31) fun v27x34 =>
    ob (vInt .shl v27x34 (σ31 23)) fun v31x35 =>
    ob (vInt .or (σ31 4) v31x35) fun v32x36 =>
    ob (vInt .add (σ31 23) (.int .i64 1)) fun v33x37 =>
    Q31 .normal (up (up (up (up (up (up (up (up (up (up (up (up (up (up σ31 24 v24x32) 25 (σ31 23)) 26 v26x33) 27 v27x34) 5 (σ31 23)) 6 v27x34) 28 (σ31 4)) 29 v27x34) 30 (σ31 23)) 31 v31x35) 32 v32x36) 4 v32x36) 33 v33x37) 23 v33x37) H31)
      (Q31 (.exit 0) (up σ31 24 v24x32) H31)) (blkQ 0 (thenQ J27 (retQ prg [(.tmp 2), (.tmp 3)] K))) (up (up (up (up (up (up (up (up (up (up (up (up (up (up (up (up (up (up (up (up (up (S0 [a0]) 1 v1x1) 2 (.int .i64 0)) 3 (.bool false)) 7 v7x3) 8 v8x4) 9 v9x6) 10 v9x6) 11 v11x8) 12 v12x11) 13 v13x14) 14 v14x16) 15 v14x16) 16 v16x18) 17 v17x21) 18 v18x24) 19 v19x26) 4 (.int .i64 0)) 20 v20x28) 21 v21x29) 22 v22x30) 23 (.int .i64 0)) H25)
def O.impl_NumberOfRule : Nat → Nat × List Nat := fun i => (0, [])
theorem R.impl_NumberOfRule {a0 : Value} {H : Hp} {K : Value → Hp → Prop} (h : F.impl_NumberOfRule a0 H K) : HT prg I.impl_NumberOfRule [a0].toArray H K :=
  HT_of_fev O.impl_NumberOfRule mixed Try.func31 (by kernel_rfl) (Eq.mpr (by kernel_rfl : fev prg O.impl_NumberOfRule Try.f31 [a0] H K = F.impl_NumberOfRule a0 H K) h)

/-! loop.example/g01381/impl.ActiveShare: function 32 -/
def F.impl_ActiveShare (a0 : Value) (H : Hp) (K : Value → Hp → Prop) : Prop :=
  nw (a0 : Value).cells 43 H fun v1x1 H2 =>
  ob (vLoadN 3 v1x1 H2) fun v7x3 =>
  HT prg I.impl_ValidRule [v7x3].toArray H2 fun v8x4 H5 =>
  ob (vUn .not v8x4) fun v9x6 =>
  cnd v9x6
    (K (.tuple #[(.float .f32 0), (.bool false)]) H5)
    (jn (fun σ7 H7 =>
    ob (vCF .f32 (σ7 4)) fun v23x8 =>
    ob (vFa 2 (σ7 1)) fun v24x9 =>
    ob (vLoad v24x9 H7) fun v25x10 =>
    ob (vLenSl v25x10) fun v26x11 =>
    ob (vCF .f32 v26x11) fun v27x12 =>
    fA .quo v23x8 v27x12 H7 fun v28x13 H14 =>
    K (.tuple #[v28x13, (.bool true)]) H14) fun J7 =>
  ob (vFa 2 v1x1) fun v10x15 =>
  ob (vLoad v10x15 H5) fun v11x16 =>
  ob (vLenSl v11x16) fun v12x17 =>
  lpE (fun Q18 σ18 H18 =>
    ob (vInt .lss (σ18 13) (σ18 12)) fun v14x19 =>
    cnd v14x19
      (ob (vIx 1 (σ18 11) (σ18 13)) fun v15x20 =>
    ob (vLoad v15x20 H18) fun v16x21 =>
    ob (vInt .neq v16x21 (.int .i64 0)) fun v18x22 =>
    cnd v18x22
      (ob (vInt .add (σ18 4) (.int .i64 1)) fun v20x23 =>
      ob (vInt .add (σ18 13) (.int .i64 1)) fun v21x24 =>
    Q18 .normal (up (up (up (up (up (up (up (up (up (up (up σ18 14 v14x19) 15 v15x20) 16 v16x21) 6 v16x21) 17 v16x21) 18 v18x22) 19 (σ18 4)) 20 v20x23) 4 v20x23) 21 v21x24) 13 v21x24) H18)
      (ob (vInt .add (σ18 13) (.int .i64 1)) fun v21x25 =>
    Q18 .normal (up (up (up (up (up (up (up (up σ18 14 v14x19) 15 v15x20) 16 v16x21) 6 v16x21) 17 v16x21) 18 v18x22) 21 v21x25) 13 v21x25) H18))
      (Q18 (.exit 0) (up σ18 14 v14x19) H18)) (blkQ 0 (thenQ J7 (retQ prg [(.tmp 2), (.tmp 3)] K))) (up (up (up (up (up (up (up (up (up (up (up (S0 [a0]) 1 v1x1) 2 (.float .f32 0)) 3 (.bool false)) 7 v7x3) 8 v8x4) 9 v9x6) 4 (.int .i64 0)) 10 v10x15) 11 v11x16) 12 v12x17) 13 (.int .i64 0)) H5)
def O.impl_ActiveShare : Nat → Nat × List Nat := fun i => (0, [])
theorem R.impl_ActiveShare {a0 : Value} {H : Hp} {K : Value → Hp → Prop} (h : F.impl_ActiveShare a0 H K) : HT prg I.impl_ActiveShare [a0].toArray H K :=
  HT_of_fev O.impl_ActiveShare mixed Try.func32 (by kernel_rfl) (Eq.mpr (by kernel_rfl : fev prg O.impl_ActiveShare Try.f32 [a0] H K = F.impl_ActiveShare a0 H K) h)

/-! loop.example/g01381/impl.digitsOf: function 99 -/
def F.impl_digitsOf (a0 a1 a2 : Value) (H : Hp) (K : Value → Hp → Prop) : Prop :=
  mkS 1 8 #[(.int .i64 0)] 2 a2 a2 H fun v10x1 H2 =>
  jn (fun σ3 H3 =>
    K (σ3 7) H3) fun J3 =>
  ob (vInt .sub a2 (.int .i64 1)) fun v12x4 =>
  lpE (fun Q5 σ5 H5 =>
    ob (vInt .geq (σ5 8) (.int .i64 0)) fun v14x6 =>
    cnd v14x6
      (ob (vInt .rem (σ5 0) (σ5 1)) fun v21x7 =>
    ob (vIx 1 (σ5 7) (σ5 8)) fun v22x8 =>
    st 1 v22x8 v21x7 H5 fun H9 =>
    ob (vInt .quo (σ5 0) (σ5 1)) fun v25x10 =>
    ob (vInt .sub (σ5 8) (.int .i64 1)) fun v16x11 =>
    Q5 .normal (up (up (up (up (up (up (up (up (up (up (up (up (up (up (up σ5 13 (σ5 8)) 14 v14x6) 17 (σ5 7)) 18 (σ5 8)) 19 (σ5 0)) 20 (σ5 1)) 21 v21x7) 22 v22x8) 23 (σ5 0)) 24 (σ5 1)) 25 v25x10) 0 v25x10) 15 (σ5 8)) 16 v16x11) 8 v16x11) H9)
      (Q5 (.exit 0) (up (up σ5 13 (σ5 8)) 14 v14x6) H5)) (blkQ 0 (thenQ J3 (retQ prg [(.tmp 6)] K))) (up (up (up (up (up (up (up (S0 [a0, a1, a2]) 6 (.slice none 0 0)) 9 a2) 10 v10x1) 7 v10x1) 11 a2) 12 v12x4) 8 v12x4) H2
def O.impl_digitsOf : Nat → Nat × List Nat := fun i => (0, [])
theorem R.impl_digitsOf {a0 a1 a2 : Value} {H : Hp} {K : Value → Hp → Prop} (h : F.impl_digitsOf a0 a1 a2 H K) : HT prg I.impl_digitsOf [a0, a1, a2].toArray H K :=
  HT_of_fev O.impl_digitsOf mixed Try.func99 (by kernel_rfl) (Eq.mpr (by kernel_rfl : fev prg O.impl_digitsOf Try.f99 [a0, a1, a2] H K = F.impl_digitsOf a0 a1 a2 H K) h)

/-! loop.example/g01381/impl.numberOf: function 175 -/
def F.impl_numberOf (a0 a1 : Value) (H : Hp) (K : Value → Hp → Prop) : Prop :=
  jn (fun σ1 H1 =>
    K (σ1 5) H1) fun J1 =>
  ob (vLenSl a0) fun v9x2 =>
  lpE (fun Q3 σ3 H3 =>
    ob (vInt .lss (σ3 10) (σ3 9)) fun v11x4 =>
    cnd v11x4
      (ob (vIx 1 (σ3 8) (σ3 10)) fun v12x5 =>
    ob (vLoad v12x5 H3) fun v13x6 =>
    ob (vInt .mul (σ3 5) (σ3 1)) fun v16x7 =>
    ob (vInt .add v16x7 v13x6) fun v18x8 =>
    ob (vInt .add (σ3 10) (.int .i64 1)) fun v19x9 =>
    Q3 .normal (up (up (up (up (up (up (up (up (up (up (up (up σ3 11 v11x4) 12 v12x5) 13 v13x6) 7 v13x6) 14 (σ3 5)) 15 (σ3 1)) 16 v16x7) 17 v13x6) 18 v18x8) 5 v18x8) 19 v19x9) 10 v19x9) H3)
      (Q3 (.exit 0) (up σ3 11 v11x4) H3)) (blkQ 0 (thenQ J1 (retQ prg [(.tmp 4)] K))) (up (up (up (up (up (S0 [a0, a1]) 4 (.int .i64 0)) 5 (.int .i64 0)) 8 a0) 9 v9x2) 10 (.int .i64 0)) H
def O.impl_numberOf : Nat → Nat × List Nat := fun i => (0, [])
theorem R.impl_numberOf {a0 a1 : Value} {H : Hp} {K : Value → Hp → Prop} (h : F.impl_numberOf a0 a1 H K) : HT prg I.impl_numberOf [a0, a1].toArray H K :=
  HT_of_fev O.impl_numberOf mixed Try.func175 (by kernel_rfl) (Eq.mpr (by kernel_rfl : fev prg O.impl_numberOf Try.f175 [a0, a1] H K = F.impl_numberOf a0 a1 H K) h)

/-! (loop.example/g01381/impl.Rule).tells: function 101 -/
def F.impl_Rule_tells (a0 a1 : Value) (H : Hp) (K : Value → Hp → Prop) : Prop :=
  nw (a0 : Value).cells 43 H fun v2x1 H2 =>
  ob (vFa 2 v2x1) fun v5x3 =>
  ob (vLoad v5x3 H2) fun v6x4 =>
  ob (vFa 0 v2x1) fun v8x5 =>
  ob (vLoad v8x5 H2) fun v9x6 =>
  HT prg I.impl_numberOf [a1, v9x6].toArray H2 fun v10x7 H8 =>
  Le H2 H8 ∧ (ob (vIx 1 v6x4 v10x7) fun v11x9 =>
  ob (vLoad v11x9 H8) fun v12x10 =>
  K v12x10 H8)
def O.impl_Rule_tells : Nat → Nat × List Nat := fun i => bif Nat.beq i 1 then (0, [0, 1, 2, 3, 4, 5, 6, 7, 8]) else (0, [])
theorem R.impl_Rule_tells {a0 a1 : Value} {H : Hp} {K : Value → Hp → Prop} (h : F.impl_Rule_tells a0 a1 H K) : HT prg I.impl_Rule_tells [a0, a1].toArray H K :=
  HT_of_fev O.impl_Rule_tells mixed Try.func101 (by kernel_rfl) (Eq.mpr (by kernel_rfl : fev prg O.impl_Rule_tells Try.f101 [a0, a1] H K = F.impl_Rule_tells a0 a1 H K) h)

/-! loop.example/g01381/impl.SenseOf: function 33 -/
def F.impl_SenseOf (a0 : Value) (H : Hp) (K : Value → Hp → Prop) : Prop :=
  nw (a0 : Value).cells 43 H fun v1x1 H2 =>
  ob (vLoadN 3 v1x1 H2) fun v12x3 =>
  HT prg I.impl_ValidRule [v12x3].toArray H2 fun v13x4 H5 =>
  ob (vUn .not v13x4) fun v14x6 =>
  cnd v14x6
    (K (.tuple #[(.float .f32 0), (.bool false)]) H5)
    (jn (fun σ7 H7 =>
    ob (vCF .f32 (σ7 4)) fun v65x8 =>
    ob (vCF .f32 (σ7 5)) fun v67x9 =>
    fA .quo v65x8 v67x9 H7 fun v68x10 H11 =>
    K (.tuple #[v68x10, (.bool true)]) H11) fun J7 =>
  ob (vFa 2 v1x1) fun v15x12 =>
  ob (vLoad v15x12 H5) fun v16x13 =>
  ob (vLenSl v16x13) fun v17x14 =>
  lpE (fun Q15 σ15 H15 =>
    ob (vInt .lss (σ15 18) (σ15 17)) fun v19x16 =>
    cnd v19x16
      (jn (fun σ17 H17 =>
      ob (vInt .add (σ17 18) (.int .i64 1)) fun v63x18 =>
      Q15 .normal (up (up σ17 63 v63x18) 18 v63x18) H17) fun J17 =>
    ob (vIx 1 (σ15 16) (σ15 18)) fun v21x19 =>
    ob (vLoad v21x19 H15) fun v22x20 =>
    ob (vFa 0 (σ15 1)) fun v24x21 =>
    ob (vLoad v24x21 H15) fun v25x22 =>
    ob (vLoadN 3 (σ15 1) H15) fun v26x23 =>
    HT prg I.impl_Rule_cells [v26x23].toArray H15 fun v27x24 H25 =>
    Le H15 H25 ∧ (HT prg I.impl_digitsOf [(σ15 18), v25x22, v27x24].toArray H25 fun v28x26 H27 =>
    Le H25 H27 ∧ (ob (vLenSl v28x26) fun v30x28 =>
    lpE (fun Q29 σ29 H29 =>
      ob (vInt .lss (σ29 31) (σ29 30)) fun v32x30 =>
      cnd v32x30
        (jn (fun σ31 H31 =>
        ob (vInt .add (σ31 31) (.int .i64 1)) fun v62x32 =>
        Q29 .normal (up (up σ31 62 v62x32) 31 v62x32) H31) fun J31 =>
      ob (vIx 1 (σ29 29) (σ29 31)) fun v34x33 =>
      ob (vLoad v34x33 H29) fun v35x34 =>
      jn (fun σ35 H35 =>
        ob (vIx 1 (σ35 8) (σ35 9)) fun v61x36 =>
        st 1 v61x36 (σ35 10) H35 fun H37 =>
        J31 (up (up (up (up σ35 58 (σ35 8)) 59 (σ35 9)) 60 (σ35 10)) 61 v61x36) H37) fun J35 =>
      ob (vFa 0 (σ29 1)) fun v36x38 =>
      ob (vLoad v36x38 H29) fun v37x39 =>
      lpE (fun Q40 σ40 H40 =>
        ob (vInt .lss (σ40 38) (σ40 37)) fun v39x41 =>
        cnd v39x41
          (ob (vInt .eql (σ40 38) (σ40 10)) fun v43x42 =>
        cnd v43x42
          (ob (vInt .add (σ40 38) (.int .i64 1)) fun v57x43 =>
        Q40 .normal (up (up (up (up (up (up (up (up σ40 39 v39x41) 40 (σ40 38)) 11 (σ40 38)) 41 (σ40 38)) 42 (σ40 10)) 43 v43x42) 57 v57x43) 38 v57x43) H40)
          (ob (vIx 1 (σ40 8) (σ40 9)) fun v47x44 =>
        st 1 v47x44 (σ40 38) H40 fun H45 =>
        ob (vInt .add (σ40 5) (.int .i64 1)) fun v49x46 =>
        ob (vLoadN 3 (σ40 1) H45) fun v50x47 =>
        HT prg I.impl_Rule_tells [v50x47, (σ40 8)].toArray H45 fun v52x48 H49 =>
        ob (vInt .neq v52x48 (σ40 7)) fun v54x50 =>
        cnd v54x50
          (ob (vInt .add (σ40 4) (.int .i64 1)) fun v56x51 =>
          ob (vInt .add (σ40 38) (.int .i64 1)) fun v57x52 =>
        Q40 .normal (up (up (up (up (up (up (up (up (up (up (up (up (up (up (up (up (up (up (up (up (up (up (up σ40 39 v39x41) 40 (σ40 38)) 11 (σ40 38)) 41 (σ40 38)) 42 (σ40 10)) 43 v43x42) 44 (σ40 8)) 45 (σ40 9)) 46 (σ40 38)) 47 v47x44) 48 (σ40 5)) 49 v49x46) 5 v49x46) 50 v50x47) 51 (σ40 8)) 52 v52x48) 53 (σ40 7)) 54 v54x50) 55 (σ40 4)) 56 v56x51) 4 v56x51) 57 v57x52) 38 v57x52) H49)
          (ob (vInt .add (σ40 38) (.int .i64 1)) fun v57x53 =>
        Q40 .normal (up (up (up (up (up (up (up (up (up (up (up (up (up (up (up (up (up (up (up (up σ40 39 v39x41) 40 (σ40 38)) 11 (σ40 38)) 41 (σ40 38)) 42 (σ40 10)) 43 v43x42) 44 (σ40 8)) 45 (σ40 9)) 46 (σ40 38)) 47 v47x44) 48 (σ40 5)) 49 v49x46) 5 v49x46) 50 v50x47) 51 (σ40 8)) 52 v52x48) 53 (σ40 7)) 54 v54x50) 57 v57x53) 38 v57x53) H49)))
          (Q40 (.exit 4) (up σ40 39 v39x41) H40)) (blkQ 4 (thenQ J35 (blkQ 3 (thenQ J31 Q29)))) (up (up (up (up (up (up (up (up (up σ29 32 v32x30) 33 (σ29 31)) 34 v34x33) 35 v35x34) 9 (σ29 31)) 10 v35x34) 36 v36x38) 37 v37x39) 38 (.int .i64 0)) H29)
        (Q29 (.exit 2) (up σ29 32 v32x30) H29)) (blkQ 2 (blkQ 1 (thenQ J17 Q15))) (up (up (up (up (up (up (up (up (up (up (up (up (up (up (up (up σ15 19 v19x16) 20 (σ15 18)) 21 v21x19) 22 v22x20) 6 (σ15 18)) 7 v22x20) 23 (σ15 18)) 24 v24x21) 25 v25x22) 26 v26x23) 27 v27x24) 28 v28x26) 8 v28x26) 29 v28x26) 30 v30x28) 31 (.int .i64 0)) H27)))
      (Q15 (.exit 0) (up σ15 19 v19x16) H15)) (blkQ 0 (thenQ J7 (retQ prg [(.tmp 2), (.tmp 3)] K))) (up (up (up (up (up (up (up (up (up (up (up (up (S0 [a0]) 1 v1x1) 2 (.float .f32 0)) 3 (.bool false)) 12 v12x3) 13 v13x4) 14 v14x6) 4 (.int .i64 0)) 5 (.int .i64 0)) 15 v15x12) 16 v16x13) 17 v17x14) 18 (.int .i64 0)) H5)
def O.impl_SenseOf : Nat → Nat × List Nat := fun i => bif Nat.beq i 7 then (0, [0, 1, 2, 3, 4, 5, 6]) else (0, [])
theorem R.impl_SenseOf {a0 : Value} {H : Hp} {K : Value → Hp → Prop} (h : F.impl_SenseOf a0 H K) : HT prg I.impl_SenseOf [a0].toArray H K :=
  HT_of_fev O.impl_SenseOf mixed Try.func33 (by kernel_rfl) (Eq.mpr (by kernel_rfl : fev prg O.impl_SenseOf Try.f33 [a0] H K = F.impl_SenseOf a0 H K) h)

/-! loop.example/g01381/impl.made: function 106 -/
def F.impl_made (a0 a1 a2 : Value) (H : Hp) (K : Value → Hp → Prop) : Prop :=
  nw #[(.int .i64 0), (.int .i64 0), (.slice none 0 0)] 43 H fun v6x1 H2 =>
  ob (vBuild [(0, 1), (1, 1), (2, 1)] (.agg #[(.int .i64 0), (.int .i64 0), (.slice none 0 0)]) [(0, a0), (1, a1)]) fun v11x3 =>
  nw #[(.int .i64 0), (.int .i64 0), (.slice none 0 0)] 43 H2 fun v7x4 H5 =>
  st 3 v7x4 v11x3 H5 fun H6 =>
  jn (fun σ7 H7 =>
    ob (vLoadN 3 (σ7 7) H7) fun v32x8 =>
    st 3 (σ7 6) v32x8 H7 fun H9 =>
    ob (vLoadN 3 (σ7 6) H9) fun u10 => K u10 H9) fun J7 =>
  ob (vLoadN 3 v7x4 H6) fun v13x11 =>
  HT prg I.impl_Rule_cells [v13x11].toArray H6 fun v14x12 H13 =>
  HT prg I.impl_raised [a0, v14x12].toArray H13 fun v15x14 H15 =>
  lpE (fun Q16 σ16 H16 =>
    ob (vInt .lss (σ16 16) (σ16 15)) fun v17x17 =>
    cnd v17x17
      (ob (vFa 2 (σ16 7)) fun v19x18 =>
    ob (vLoad v19x18 H16) fun v20x19 =>
    ob (vLoadN 3 (σ16 7) H16) fun v24x20 =>
    HT prg I.impl_Rule_cells [v24x20].toArray H16 fun v25x21 H22 =>
    Le H16 H22 ∧ (HT prg I.impl_digitsOf [(σ16 16), (σ16 0), v25x21].toArray H22 fun v26x23 H24 =>
    Le H22 H24 ∧ (callV prg (σ16 2) [v26x23] H24 fun v27x25 H26 =>
    Le H24 H26 ∧ (bS 1 1 #[(.int .i64 0)] 2 [(0, v27x25)] H26 fun v28x27 H28 =>
    apd 1 8 #[(.int .i64 0)] 2 v20x19 v28x27 H28 fun v29x29 H30 =>
    ob (vFa 2 (σ16 7)) fun v30x31 =>
    st 1 v30x31 v29x29 H30 fun H32 =>
    ob (vInt .add (σ16 16) (.int .i64 1)) fun v31x33 =>
    Q16 .normal (up (up (up (up (up (up (up (up (up (up (up (up (up (up (up (up (up σ16 17 v17x17) 18 (σ16 16)) 8 (σ16 16)) 19 v19x18) 20 v20x19) 21 (σ16 2)) 22 (σ16 16)) 23 (σ16 0)) 24 v24x20) 25 v25x21) 26 v26x23) 27 v27x25) 28 v28x27) 29 v29x29) 30 v30x31) 31 v31x33) 16 v31x33) H32))))
      (Q16 (.exit 0) (up σ16 17 v17x17) H16)) (blkQ 0 (thenQ J7 (retQ prg [(.cell 6 43)] K))) (up (up (up (up (up (up (up (up (up (up (S0 [a0, a1, a2]) 6 v6x1) 9 a0) 10 a1) 11 v11x3) 7 v7x4) 12 a0) 13 v13x11) 14 v14x12) 15 v15x14) 16 (.int .i64 0)) H15
def O.impl_made : Nat → Nat × List Nat := fun i => bif Nat.beq i 5 then (0, [0, 1, 2, 3, 4, 5, 6, 7, 8, 9, 10, 11, 12]) else (0, [])
theorem R.impl_made {a0 a1 a2 : Value} {H : Hp} {K : Value → Hp → Prop} (h : F.impl_made a0 a1 a2 H K) : HT prg I.impl_made [a0, a1, a2].toArray H K :=
  HT_of_fev O.impl_made mixed Try.func106 (by kernel_rfl) (Eq.mpr (by kernel_rfl : fev prg O.impl_made Try.f106 [a0, a1, a2] H K = F.impl_made a0 a1 a2 H K) h)

/-! loop.example/g01381/impl.weighed$1: function 176 -/
def F.impl_weighed_1 (a0 a1 a2 : Value) (H : Hp) (K : Value → Hp → Prop) : Prop :=
  jn (fun σ1 H1 =>
    ob (vLoad (σ1 2) H1) fun v25x2 =>
    ob (vInt .rem (σ1 5) v25x2) fun v26x3 =>
    K v26x3 H1) fun J1 =>
  ob (vLoad a1 H) fun v8x4 =>
  ob (vLenSl v8x4) fun v9x5 =>
  lpE (fun Q6 σ6 H6 =>
    ob (vInt .lss (σ6 10) (σ6 9)) fun v11x7 =>
    cnd v11x7
      (ob (vIx 1 (σ6 8) (σ6 10)) fun v13x8 =>
    ob (vLoad v13x8 H6) fun v14x9 =>
    ob (vIx 1 (σ6 0) (σ6 10)) fun v19x10 =>
    ob (vLoad v19x10 H6) fun v20x11 =>
    ob (vInt .mul v14x9 v20x11) fun v21x12 =>
    ob (vInt .add (σ6 5) v21x12) fun v22x13 =>
    ob (vInt .add (σ6 10) (.int .i64 1)) fun v23x14 =>
    Q6 .normal (up (up (up (up (up (up (up (up (up (up (up (up (up (up (up (up (up σ6 11 v11x7) 12 (σ6 10)) 13 v13x8) 14 v14x9) 6 (σ6 10)) 7 v14x9) 15 (σ6 5)) 16 v14x9) 17 (σ6 0)) 18 (σ6 10)) 19 v19x10) 20 v20x11) 21 v21x12) 22 v22x13) 5 v22x13) 23 v23x14) 10 v23x14) H6)
      (Q6 (.exit 0) (up σ6 11 v11x7) H6)) (blkQ 0 (thenQ J1 (retQ prg [(.tmp 4)] K))) (up (up (up (up (up (S0 [a0, a1, a2]) 4 (.int .i64 0)) 5 (.int .i64 0)) 8 v8x4) 9 v9x5) 10 (.int .i64 0)) H
def O.impl_weighed_1 : Nat → Nat × List Nat := fun i => (0, [])
theorem R.impl_weighed_1 {a0 a1 a2 : Value} {H : Hp} {K : Value → Hp → Prop} (h : F.impl_weighed_1 a0 a1 a2 H K) : HT prg I.impl_weighed_1 [a0, a1, a2].toArray H K :=
  HT_of_fev O.impl_weighed_1 mixed Try.func176 (by kernel_rfl) (Eq.mpr (by kernel_rfl : fev prg O.impl_weighed_1 Try.f176 [a0, a1, a2] H K = F.impl_weighed_1 a0 a1 a2 H K) h)

/-! loop.example/g01381/impl.weighed: function 102 -/
def F.impl_weighed (a0 a1 : Value) (H : Hp) (K : Value → Hp → Prop) : Prop :=
  nw (a0 : Value).cells 2 H fun v2x1 H2 =>
  nw (a1 : Value).cells 22 H2 fun v3x3 H4 =>
  nw #[(.int .i64 0), (.int .i64 0), (.slice none 0 0)] 43 H4 fun v4x5 H6 =>
  ob (vLoad v2x1 H6) fun v5x7 =>
  ob (vLoad v3x3 H6) fun v6x8 =>
  ob (vLenSl v6x8) fun v7x9 =>
  ob (vInt .quo v7x9 (.int .i64 2)) fun v8x10 =>
  HT prg I.impl_made [v5x7, v8x10, (.func (.func I.impl_weighed_1) #[] #[v3x3, v2x1])].toArray H6 fun v10x11 H12 =>
  st 3 v4x5 v10x11 H12 fun H13 =>
  ob (vLoadN 3 v4x5 H13) fun u14 => K u14 H13
def O.impl_weighed : Nat → Nat × List Nat := fun i => (0, [])
theorem R.impl_weighed {a0 a1 : Value} {H : Hp} {K : Value → Hp → Prop} (h : F.impl_weighed a0 a1 H K) : HT prg I.impl_weighed [a0, a1].toArray H K :=
  HT_of_fev O.impl_weighed mixed Try.func102 (by kernel_rfl) (Eq.mpr (by kernel_rfl : fev prg O.impl_weighed Try.f102 [a0, a1] H K = F.impl_weighed a0 a1 H K) h)

/-! loop.example/g01381/impl.SumRule: function 34 -/
def F.impl_SumRule (a0 a1 : Value) (H : Hp) (K : Value → Hp → Prop) : Prop :=
  nw #[(.int .i64 0), (.int .i64 0), (.slice none 0 0)] 43 H fun v4x1 H2 =>
  HT prg I.impl_areStates [a0].toArray H2 fun v7x3 H4 =>
  ob (vUn .not v7x3) fun v8x5 =>
  gop v8x5 false (fun K6 => K6 a1 H4) H4 fun v10x7 H8 =>
  gop v8x5 false (fun K9 => K9 a0 H8) H8 fun v11x10 H11 =>
  gop v8x5 false (fun K12 => ob (vInt .sub v11x10 (.int .i64 1)) fun u => K12 u H11) H11 fun v12x13 H14 =>
  gop v8x5 false (fun K15 => HT prg I.impl_areMany [v10x7, (.int .i64 1), (.int .i64 5), (.int .i64 0), v12x13].toArray H14 K15) H14 fun v13x16 H17 =>
  gop v8x5 false (fun K18 => ob (vUn .not v13x16) fun u => K18 u H17) H17 fun v14x19 H20 =>
  ob (vPick v8x5 (.bool true) v14x19) fun v15x21 =>
  gop v15x21 false (fun K22 => K22 a1 H20) H20 fun v17x23 H24 =>
  gop v15x21 false (fun K25 => ob (vLenSl v17x23) fun u => K25 u H24) H24 fun v18x26 H27 =>
  gop v15x21 false (fun K28 => ob (vInt .rem v18x26 (.int .i64 2)) fun u => K28 u H27) H27 fun v19x29 H30 =>
  gop v15x21 false (fun K31 => ob (vInt .eql v19x29 (.int .i64 0)) fun u => K31 u H30) H30 fun v20x32 H33 =>
  ob (vPick v15x21 (.bool true) v20x32) fun v21x34 =>
  cnd v21x34
    (ob (vBuild [(0, 1), (1, 1), (2, 1)] (.agg #[(.int .i64 0), (.int .i64 0), (.slice none 0 0)]) []) fun v22x35 =>
    st 3 v4x1 v22x35 H33 fun H36 =>
    ob (vLoadN 3 v4x1 H36) fun u37 => K (.tuple #[u37, (.bool false)]) H36)
    (HT prg I.impl_weighed [a0, a1].toArray H33 fun v25x38 H39 =>
  st 3 v4x1 v25x38 H39 fun H40 =>
  ob (vLoadN 3 v4x1 H40) fun u41 => K (.tuple #[u41, (.bool true)]) H40)
def O.impl_SumRule : Nat → Nat × List Nat := fun i => (0, [])
theorem R.impl_SumRule {a0 a1 : Value} {H : Hp} {K : Value → Hp → Prop} (h : F.impl_SumRule a0 a1 H K) : HT prg I.impl_SumRule [a0, a1].toArray H K :=
  HT_of_fev O.impl_SumRule mixed Try.func34 (by kernel_rfl) (Eq.mpr (by kernel_rfl : fev prg O.impl_SumRule Try.f34 [a0, a1] H K = F.impl_SumRule a0 a1 H K) h)

/-! slices.Equal[[]int64,int64]: function 112 -/
def F.slices_Equal_int64Zint64 (a0 a1 : Value) (H : Hp) (K : Value → Hp → Prop) : Prop :=
  ob (vLenSl a0) fun v7x1 =>
  ob (vLenSl a1) fun v9x2 =>
  ob (vInt .neq v7x1 v9x2) fun v10x3 =>
  cnd v10x3
    (K (.bool false) H)
    (jn (fun σ4 H4 =>
    K (.bool true) H4) fun J4 =>
  ob (vLenSl a0) fun v12x5 =>
  lpE (fun Q6 σ6 H6 =>
    ob (vInt .lss (σ6 13) (σ6 12)) fun v14x7 =>
    cnd v14x7
      (ob (vIx 1 (σ6 0) (σ6 13)) fun v18x8 =>
    ob (vLoad v18x8 H6) fun v19x9 =>
    ob (vIx 1 (σ6 1) (σ6 13)) fun v22x10 =>
    ob (vLoad v22x10 H6) fun v23x11 =>
    ob (vInt .neq v19x9 v23x11) fun v24x12 =>
    cnd v24x12
      (Q6 .ret (up (up (up (up (up (up (up (up (up (up (up (up (up σ6 14 v14x7) 15 (σ6 13)) 5 (σ6 13)) 16 (σ6 0)) 17 (σ6 13)) 18 v18x8) 19 v19x9) 20 (σ6 1)) 21 (σ6 13)) 22 v22x10) 23 v23x11) 24 v24x12) 4 (.bool false)) H6)
      (ob (vInt .add (σ6 13) (.int .i64 1)) fun v25x13 =>
    Q6 .normal (up (up (up (up (up (up (up (up (up (up (up (up (up (up σ6 14 v14x7) 15 (σ6 13)) 5 (σ6 13)) 16 (σ6 0)) 17 (σ6 13)) 18 v18x8) 19 v19x9) 20 (σ6 1)) 21 (σ6 13)) 22 v22x10) 23 v23x11) 24 v24x12) 25 v25x13) 13 v25x13) H6))
      (Q6 (.exit 0) (up σ6 14 v14x7) H6)) (blkQ 0 (thenQ J4 (retQ prg [(.tmp 4)] K))) (up (up (up (up (up (up (up (up (up (S0 [a0, a1]) 4 (.bool false)) 6 a0) 7 v7x1) 8 a1) 9 v9x2) 10 v10x3) 11 a0) 12 v12x5) 13 (.int .i64 0)) H)
def O.slices_Equal_int64Zint64 : Nat → Nat × List Nat := fun i => bif Nat.beq i 6 then (0, [0, 1, 2, 3, 4, 5, 6, 7, 8]) else (0, [])
theorem R.slices_Equal_int64Zint64 {a0 a1 : Value} {H : Hp} {K : Value → Hp → Prop} (h : F.slices_Equal_int64Zint64 a0 a1 H K) : HT prg I.slices_Equal_int64Zint64 [a0, a1].toArray H K :=
  HT_of_fev O.slices_Equal_int64Zint64 mixed Try.func112 (by kernel_rfl) (Eq.mpr (by kernel_rfl : fev prg O.slices_Equal_int64Zint64 Try.f112 [a0, a1] H K = F.slices_Equal_int64Zint64 a0 a1 H K) h)

/-! loop.example/g01381/impl.SameRule: function 42 -/
def F.impl_SameRule (a0 a1 : Value) (H : Hp) (K : Value → Hp → Prop) : Prop :=
  nw (a0 : Value).cells 43 H fun v2x1 H2 =>
  nw (a1 : Value).cells 43 H2 fun v3x3 H4 =>
  ob (vFa 0 v2x1) fun v5x5 =>
  ob (vLoad v5x5 H4) fun v6x6 =>
  ob (vFa 0 v3x3) fun v7x7 =>
  ob (vLoad v7x7 H4) fun v8x8 =>
  ob (vInt .eql v6x6 v8x8) fun v9x9 =>
  gop v9x9 true (fun K10 => ob (vFa 1 v2x1) fun u => K10 u H4) H4 fun v11x11 H12 =>
  gop v9x9 true (fun K13 => ob (vLoad v11x11 H12) fun u => K13 u H12) H12 fun v12x14 H15 =>
  gop v9x9 true (fun K16 => ob (vFa 1 v3x3) fun u => K16 u H15) H15 fun v13x17 H18 =>
  gop v9x9 true (fun K19 => ob (vLoad v13x17 H18) fun u => K19 u H18) H18 fun v14x20 H21 =>
  gop v9x9 true (fun K22 => ob (vInt .eql v12x14 v14x20) fun u => K22 u H21) H21 fun v15x23 H24 =>
  ob (vPick v9x9 v15x23 (.bool false)) fun v16x25 =>
  gop v16x25 true (fun K26 => ob (vFa 2 v2x1) fun u => K26 u H24) H24 fun v18x27 H28 =>
  gop v16x25 true (fun K29 => ob (vLoad v18x27 H28) fun u => K29 u H28) H28 fun v19x30 H31 =>
  gop v16x25 true (fun K32 => ob (vFa 2 v3x3) fun u => K32 u H31) H31 fun v20x33 H34 =>
  gop v16x25 true (fun K35 => ob (vLoad v20x33 H34) fun u => K35 u H34) H34 fun v21x36 H37 =>
  gop v16x25 true (fun K38 => HT prg I.slices_Equal_int64Zint64 [v19x30, v21x36].toArray H37 K38) H37 fun v22x39 H40 =>
  ob (vPick v16x25 v22x39 (.bool false)) fun v23x41 =>
  K v23x41 H40
def O.impl_SameRule : Nat → Nat × List Nat := fun i => (0, [])
theorem R.impl_SameRule {a0 a1 : Value} {H : Hp} {K : Value → Hp → Prop} (h : F.impl_SameRule a0 a1 H K) : HT prg I.impl_SameRule [a0, a1].toArray H K :=
  HT_of_fev O.impl_SameRule mixed Try.func42 (by kernel_rfl) (Eq.mpr (by kernel_rfl : fev prg O.impl_SameRule Try.f42 [a0, a1] H K = F.impl_SameRule a0 a1 H K) h)

/-! (loop.example/g01381/impl.Rule).terms: function 103 -/
def F.impl_Rule_terms (a0 : Value) (H : Hp) (K : Value → Hp → Prop) : Prop :=
  nw (a0 : Value).cells 43 H fun v1x1 H2 =>
  bS 1 0 #[(.int .i64 0)] 2 [] H2 fun v5x3 H4 =>
  jn (fun σ5 H5 =>
    K (σ5 3) H5) fun J5 =>
  ob (vLoadN 3 v1x1 H4) fun v6x6 =>
  HT prg I.impl_Rule_cells [v6x6].toArray H4 fun v7x7 H8 =>
  ob (vInt .sub v7x7 (.int .i64 1)) fun v8x9 =>
  lpE (fun Q10 σ10 H10 =>
    ob (vInt .geq (σ10 4) (.int .i64 0)) fun v10x11 =>
    cnd v10x11
      (ob (vFa 2 (σ10 1)) fun v14x12 =>
    ob (vLoad v14x12 H10) fun v15x13 =>
    ob (vFa 0 (σ10 1)) fun v16x14 =>
    ob (vLoad v16x14 H10) fun v17x15 =>
    HT prg I.impl_raised [v17x15, (σ10 4)].toArray H10 fun v19x16 H17 =>
    Le H10 H17 ∧ (ob (vIx 1 v15x13 v19x16) fun v20x18 =>
    ob (vLoad v20x18 H17) fun v21x19 =>
    bS 1 1 #[(.int .i64 0)] 2 [(0, v21x19)] H17 fun v22x20 H21 =>
    apd 1 8 #[(.int .i64 0)] 2 (σ10 3) v22x20 H21 fun v23x22 H23 =>
    ob (vInt .sub (σ10 4) (.int .i64 1)) fun v12x24 =>
    Q10 .normal (up (up (up (up (up (up (up (up (up (up (up (up (up (up (up (up (up σ10 9 (σ10 4)) 10 v10x11) 13 (σ10 3)) 14 v14x12) 15 v15x13) 16 v16x14) 17 v17x15) 18 (σ10 4)) 19 v19x16) 20 v20x18) 21 v21x19) 22 v22x20) 23 v23x22) 3 v23x22) 11 (σ10 4)) 12 v12x24) 4 v12x24) H23))
      (Q10 (.exit 0) (up (up σ10 9 (σ10 4)) 10 v10x11) H10)) (blkQ 0 (thenQ J5 (retQ prg [(.tmp 2)] K))) (up (up (up (up (up (up (up (up (S0 [a0]) 1 v1x1) 2 (.slice none 0 0)) 5 v5x3) 3 v5x3) 6 v6x6) 7 v7x7) 8 v8x9) 4 v8x9) H8
def O.impl_Rule_terms : Nat → Nat × List Nat := fun i => bif Nat.beq i 5 then (0, [0, 1, 2, 3, 4, 5, 6, 7, 8, 9, 10, 11]) else (0, [])
theorem R.impl_Rule_terms {a0 : Value} {H : Hp} {K : Value → Hp → Prop} (h : F.impl_Rule_terms a0 H K) : HT prg I.impl_Rule_terms [a0].toArray H K :=
  HT_of_fev O.impl_Rule_terms mixed Try.func103 (by kernel_rfl) (Eq.mpr (by kernel_rfl : fev prg O.impl_Rule_terms Try.f103 [a0] H K = F.impl_Rule_terms a0 H K) h)

/-! loop.example/g01381/impl.IsSumRule: function 35 -/
def F.impl_IsSumRule (a0 : Value) (H : Hp) (K : Value → Hp → Prop) : Prop :=
  nw (a0 : Value).cells 43 H fun v1x1 H2 =>
  ob (vLoadN 3 v1x1 H2) fun v4x3 =>
  HT prg I.impl_ValidRule [v4x3].toArray H2 fun v5x4 H5 =>
  ob (vUn .not v5x4) fun v6x6 =>
  cnd v6x6
    (K (.tuple #[(.bool false), (.bool false)]) H5)
    (ob (vLoadN 3 v1x1 H5) fun v7x7 =>
  ob (vFa 0 v1x1) fun v8x8 =>
  ob (vLoad v8x8 H5) fun v9x9 =>
  ob (vLoadN 3 v1x1 H5) fun v10x10 =>
  HT prg I.impl_Rule_terms [v10x10].toArray H5 fun v11x11 H12 =>
  Le H5 H12 ∧ (HT prg I.impl_weighed [v9x9, v11x11].toArray H12 fun v12x13 H14 =>
  Le H12 H14 ∧ (HT prg I.impl_SameRule [v7x7, v12x13].toArray H14 fun v13x15 H16 =>
  Le H14 H16 ∧ (K (.tuple #[v13x15, (.bool true)]) H16))))
def O.impl_IsSumRule : Nat → Nat × List Nat := fun i => bif Nat.beq i 3 then (0, [0, 1, 2, 3, 4, 5, 6, 7, 8]) else (0, [])
theorem R.impl_IsSumRule {a0 : Value} {H : Hp} {K : Value → Hp → Prop} (h : F.impl_IsSumRule a0 H K) : HT prg I.impl_IsSumRule [a0].toArray H K :=
  HT_of_fev O.impl_IsSumRule mixed Try.func35 (by kernel_rfl) (Eq.mpr (by kernel_rfl : fev prg O.impl_IsSumRule Try.f35 [a0] H K = F.impl_IsSumRule a0 H K) h)

/-! slices.IndexFunc[[][]int64,[]int64]: function 201 -/
def F.slices_IndexFunc_int64Zint64 (a0 a1 : Value) (H : Hp) (K : Value → Hp → Prop) : Prop :=
  jn (fun σ1 H1 =>
    K (.int .i64 (-1)) H1) fun J1 =>
  ob (vLenSl a0) fun v7x2 =>
  lpE (fun Q3 σ3 H3 =>
    ob (vInt .lss (σ3 8) (σ3 7)) fun v9x4 =>
    cnd v9x4
      (ob (vIx 1 (σ3 0) (σ3 8)) fun v14x5 =>
    ob (vLoad v14x5 H3) fun v15x6 =>
    callV prg (σ3 1) [v15x6] H3 fun v16x7 H8 =>
    cnd v16x7
      (Q3 .ret (up (up (up (up (up (up (up (up (up (up (up σ3 9 v9x4) 10 (σ3 8)) 5 (σ3 8)) 11 (σ3 1)) 12 (σ3 0)) 13 (σ3 8)) 14 v14x5) 15 v15x6) 16 v16x7) 17 (σ3 8)) 4 (σ3 8)) H8)
      (ob (vInt .add (σ3 8) (.int .i64 1)) fun v18x9 =>
    Q3 .normal (up (up (up (up (up (up (up (up (up (up (up σ3 9 v9x4) 10 (σ3 8)) 5 (σ3 8)) 11 (σ3 1)) 12 (σ3 0)) 13 (σ3 8)) 14 v14x5) 15 v15x6) 16 v16x7) 18 v18x9) 8 v18x9) H8))
      (Q3 (.exit 0) (up σ3 9 v9x4) H3)) (blkQ 0 (thenQ J1 (retQ prg [(.tmp 4)] K))) (up (up (up (up (S0 [a0, a1]) 4 (.int .i64 0)) 6 a0) 7 v7x2) 8 (.int .i64 0)) H
def O.slices_IndexFunc_int64Zint64 : Nat → Nat × List Nat := fun i => (0, [])
theorem R.slices_IndexFunc_int64Zint64 {a0 a1 : Value} {H : Hp} {K : Value → Hp → Prop} (h : F.slices_IndexFunc_int64Zint64 a0 a1 H K) : HT prg I.slices_IndexFunc_int64Zint64 [a0, a1].toArray H K :=
  HT_of_fev O.slices_IndexFunc_int64Zint64 mixed Try.func201 (by kernel_rfl) (Eq.mpr (by kernel_rfl : fev prg O.slices_IndexFunc_int64Zint64 Try.f201 [a0, a1] H K = F.slices_IndexFunc_int64Zint64 a0 a1 H K) h)

/-! slices.ContainsFunc[[][]int64,[]int64]: function 180 -/
def F.slices_ContainsFunc_int64Zint64 (a0 a1 : Value) (H : Hp) (K : Value → Hp → Prop) : Prop :=
  HT prg I.slices_IndexFunc_int64Zint64 [a0, a1].toArray H fun v7x1 H2 =>
  ob (vInt .geq v7x1 (.int .i64 0)) fun v8x3 =>
  K v8x3 H2
def O.slices_ContainsFunc_int64Zint64 : Nat → Nat × List Nat := fun i => (0, [])
theorem R.slices_ContainsFunc_int64Zint64 {a0 a1 : Value} {H : Hp} {K : Value → Hp → Prop} (h : F.slices_ContainsFunc_int64Zint64 a0 a1 H K) : HT prg I.slices_ContainsFunc_int64Zint64 [a0, a1].toArray H K :=
  HT_of_fev O.slices_ContainsFunc_int64Zint64 mixed Try.func180 (by kernel_rfl) (Eq.mpr (by kernel_rfl : fev prg O.slices_ContainsFunc_int64Zint64 Try.f180 [a0, a1] H K = F.slices_ContainsFunc_int64Zint64 a0 a1 H K) h)

end Go.Proofs.Ytelcmohhjkgjoaa
