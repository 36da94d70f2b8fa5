/- Several texts in one. -/
import Derived.Test.YtnijdhlmimemcaaGreatDoorG0
import Derived.Test.YtnijdhlmimemcaaGreatDoorMFates0
/- Functions' texts over a partial heap. -/
namespace Go.Proofs.YtnijdhlmimemcaaGreatDoor
open HL
variable {a0 a1 a2 a3 a4 a5 : Value} {H : Hp} {K : Value → Hp → Prop}
set_option linter.unusedVariables false
set_option maxRecDepth 100000
set_option maxHeartbeats 4000000
def F.qx95 (a0 a1 a2 a3 : Value) (H : Hp) (K : Value → Hp → Prop) : Prop :=
 nw #[(.int .i64 0), (.int .i64 0), (.slice none 0 0)] 36 H fun b H2 =>
 ob (vBuild [(0, 1), (1, 1), (2, 1)] (.agg #[(.int .i64 0), (.int .i64 0), (.slice none 0 0)]) [(0, a1), (1, a2)]) fun c =>
 nw #[(.int .i64 0), (.int .i64 0), (.slice none 0 0)] 36 H2 fun d H5 =>
 st 3 d c H5 fun H6 =>
 jn (fun σ7 H7 =>
 ob (vLoadN 3 (σ7 9) H7) fun e =>
 st 3 (σ7 8) e H7 fun H9 =>
 ob (vLoadN 3 (σ7 8) H9) fun u10 => K u10 H9) fun J7 =>
 ob (vInt .mul a1 a2) fun f =>
 lpE (fun Q12 σ12 H12 =>
 ob (vInt .gtr (σ12 10) (.int .i64 0)) fun g =>
 cnd g
 ((ob (vFa 2 (σ12 9)) fun i =>
 ob (vLoad i H12) fun j =>
 HT prg 65 [(σ12 0), (σ12 3)].toArray H12 fun k H17 =>
 bS 1 1 #[(.int .i64 0)] 2 [(0, k)] H17 fun l H19 =>
 apd 1 8 #[(.int .i64 0)] 2 j l H19 fun m H21 =>
 ob (vFa 2 (σ12 9)) fun n =>
 st 1 n m H21 fun H23 =>
 ob (vInt .sub (σ12 10) (.int .i64 1)) fun p =>
 Q12 .normal (up (up (up (up (up (up (up (up (up (up (up (up (up σ12 17 (σ12 10)) 18 g) 21 i) 22 j) 23 (σ12 0)) 24 (σ12 3)) 25 k) 26 l) 27 m) 28 n) 19 (σ12 10)) 20 p) 10 p) H23) ∧ (ob (vFa 2 (σ12 9)) fun q =>
 HT prg 65 [(σ12 0), (σ12 3)].toArray H12 fun r H27 =>
 ob (vLoad q H27) fun s =>
 bS 1 1 #[(.int .i64 0)] 2 [(0, r)] H27 fun t H30 =>
 apd 1 8 #[(.int .i64 0)] 2 s t H30 fun w H32 =>
 ob (vFa 2 (σ12 9)) fun x =>
 st 1 x w H32 fun H34 =>
 ob (vInt .sub (σ12 10) (.int .i64 1)) fun y =>
 Q12 .normal (up (up (up (up (up (up (up (up (up (up (up (up (up σ12 17 (σ12 10)) 18 g) 21 q) 23 (σ12 0)) 24 (σ12 3)) 25 r) 22 s) 26 t) 27 w) 28 x) 19 (σ12 10)) 20 y) 10 y) H34))
 (Q12 (.exit 0) (up (up σ12 17 (σ12 10)) 18 g) H12)) (blkQ 0 (thenQ J7 (retQ prg [(.cell 8 36)] K))) (up (up (up (up (up (up (up (up (up (S0 [a0, a1, a2, a3]) 8 b) 11 a1) 12 a2) 13 c) 9 d) 14 a1) 15 a2) 16 f) 10 f) H6
def O.qx95 : Nat → Nat × List Nat := fun i => bif Nat.beq i 5 then (2, [1001, 1004, 0, 1, 2, 3, 4, 5, 6, 7, 8, 0, 2, 3, 4, 1, 5, 6, 7, 8]) else (0, [])
theorem R.qx95 (h : F.qx95 a0 a1 a2 a3 H K) : HT prg 74 [a0, a1, a2, a3].toArray H K :=
 HT_of_eq O.qx95 mixed Tryz.func74 (by kernel_rfl) (by kernel_rfl) h
def F.q43 (a0 a1 a2 : Value) (H : Hp) (K : Value → Hp → Prop) : Prop :=
 nw #[(.int .i64 0), (.int .i64 0), (.slice none 0 0)] 36 H fun b H2 =>
 HT prg 74 [a0, a1, a2, (.int .i64 2)].toArray H2 fun c H4 =>
 st 3 b c H4 fun H5 =>
 ob (vLoadN 3 b H5) fun u6 => K u6 H5
theorem R.q43 (h : F.q43 a0 a1 a2 H K) : HT prg 43 [a0, a1, a2].toArray H K :=
 HT_of_eq O0 mixed Tryz.func43 (by kernel_rfl) (by kernel_rfl) h
def F.q15 (a0 a1 a2 : Value) (H : Hp) (K : Value → Hp → Prop) : Prop :=
 nw #[(.int .i64 0), (.int .i64 0), (.slice none 0 0)] 36 H fun b H2 =>
 HT prg 23 [a0].toArray H2 fun c H4 =>
 HT prg 43 [c, a1, a2].toArray H4 fun d H6 =>
 st 3 b d H6 fun H7 =>
 ob (vLoadN 3 b H7) fun u8 => K u8 H7
theorem R.q15 (h : F.q15 a0 a1 a2 H K) : HT prg 15 [a0, a1, a2].toArray H K :=
 HT_of_eq O0 mixed Tryz.func15 (by kernel_rfl) (by kernel_rfl) h
def F.q114 (a0 a1 : Value) (H : Hp) (K : Value → Hp → Prop) : Prop :=
 jn (fun σ1 H1 =>
 K (.int .i64 (-1)) H1) fun J1 =>
 ob (vLenSl a0) fun b =>
 lpE (fun Q3 σ3 H3 =>
 ob (vInt .lss (σ3 8) (σ3 7)) fun c =>
 cnd c
 (ob (vIx 3 (σ3 0) (σ3 8)) fun d =>
 ob (vLoadN 3 d H3) fun e =>
 callV prg (σ3 1) [e] H3 fun f H8 =>
 cnd f
 (Q3 .ret (up (up (up (up (up (up (up (up (up (up (up σ3 9 c) 10 (σ3 8)) 5 (σ3 8)) 11 (σ3 1)) 12 (σ3 0)) 13 (σ3 8)) 14 d) 15 e) 16 f) 17 (σ3 8)) 4 (σ3 8)) H8)
 (ob (vInt .add (σ3 8) (.int .i64 1)) fun g =>
 Q3 .normal (up (up (up (up (up (up (up (up (up (up (up σ3 9 c) 10 (σ3 8)) 5 (σ3 8)) 11 (σ3 1)) 12 (σ3 0)) 13 (σ3 8)) 14 d) 15 e) 16 f) 18 g) 8 g) H8))
 (Q3 (.exit 0) (up σ3 9 c) H3)) (blkQ 0 (thenQ J1 (retQ prg [(.tmp 4)] K))) (up (up (up (up (S0 [a0, a1]) 4 (.int .i64 0)) 6 a0) 7 b) 8 (.int .i64 0)) H
theorem R.q114 (h : F.q114 a0 a1 H K) : HT prg 114 [a0, a1].toArray H K :=
 HT_of_eq O0 mixed Tryz.func114 (by kernel_rfl) (by kernel_rfl) h
def F.q75 (a0 a1 : Value) (H : Hp) (K : Value → Hp → Prop) : Prop :=
 HT prg 114 [a0, a1].toArray H fun b H2 =>
 ob (vInt .geq b (.int .i64 0)) fun c =>
 K c H2
theorem R.q75 (h : F.q75 a0 a1 H K) : HT prg 75 [a0, a1].toArray H K :=
 HT_of_eq O0 mixed Tryz.func75 (by kernel_rfl) (by kernel_rfl) h
def F.q76 (a0 : Value) (H : Hp) (K : Value → Hp → Prop) : Prop :=
 nw (a0 : Value).cells 36 H fun b H2 =>
 ob (vLoadN 3 b H2) fun c =>
 HT prg 77 [c].toArray H2 fun d H5 =>
 ob (vUn .not d) fun e =>
 K e H5
theorem R.q76 (h : F.q76 a0 H K) : HT prg 76 [a0].toArray H K :=
 HT_of_eq O0 mixed Tryz.func76 (by kernel_rfl) (by kernel_rfl) h
def F.q44 (a0 a1 : Value) (H : Hp) (K : Value → Hp → Prop) : Prop :=
 nw (a0 : Value).cells 26 H fun b H2 =>
 ob (vLoadN 2 b H2) fun c =>
 HT prg 30 [c].toArray H2 fun d H5 =>
 gop d true (fun K6 => K6 a1 H5) H5 fun e H8 =>
 gop d true (fun K9 => HT prg 75 [e, (.func (.func 76) #[] #[])].toArray H8 K9) H8 fun f H11 =>
 gop d true (fun K12 => ob (vUn .not f) fun u => K12 u H11) H11 fun g H14 =>
 ob (vPick d g (.bool false)) fun i =>
 K i H14
theorem R.q44 (h : F.q44 a0 a1 H K) : HT prg 44 [a0, a1].toArray H K :=
 HT_of_eq O0 mixed Tryz.func44 (by kernel_rfl) (by kernel_rfl) h
def F.q16 (a0 a1 a2 a3 : Value) (H : Hp) (K : Value → Hp → Prop) : Prop :=
 nw (a0 : Value).cells 26 H fun b H2 =>
 nw (a1 : Value).cells 36 H2 fun c H4 =>
 ob (vLoadN 2 b H4) fun d =>
 ob (vLoadN 3 c H4) fun e =>
 bS 3 1 #[(.int .i64 0), (.int .i64 0), (.slice none 0 0)] 36 [(0, e)] H4 fun f H8 =>
 HT prg 44 [d, f].toArray H8 fun g H10 =>
 ob (vUn .not g) fun i =>
 gop i false (fun K12 => K12 a3 H10) H10 fun j H14 =>
 gop i false (fun K15 => HT prg 33 [j, (.int .i64 0), (.int .i64 512)].toArray H14 K15) H14 fun k H17 =>
 gop i false (fun K18 => ob (vUn .not k) fun u => K18 u H17) H17 fun l H20 =>
 ob (vPick i (.bool true) l) fun m =>
 cnd m
 (K (.tuple #[(.slice none 0 0), (.bool false)]) H20)
 (ob (vLoadN 3 c H20) fun n =>
 HT prg 35 [n, (.int .i64 1)].toArray H20 fun p H24 =>
 bS 1 1 #[(.int .i64 0)] 2 [(0, p)] H24 fun q H26 =>
 jn (fun σ27 H27 =>
 K (.tuple #[(σ27 10), (.bool true)]) H27) fun J27 =>
 lpE (fun Q28 σ28 H28 =>
 ob (vInt .lss (σ28 25) (σ28 24)) fun r =>
 cnd r
 (ob (vLoadN 2 (σ28 4) H28) fun s =>
 ob (vLoadN 3 (σ28 5) H28) fun t =>
 HT prg 45 [s, t, (σ28 2)].toArray H28 fun w H33 =>
 st 3 (σ28 5) w H33 fun H34 =>
 ob (vLoadN 3 (σ28 5) H34) fun x =>
 HT prg 35 [x, (.int .i64 1)].toArray H34 fun y H37 =>
 bS 1 1 #[(.int .i64 0)] 2 [(0, y)] H37 fun z H39 =>
 apd 1 8 #[(.int .i64 0)] 2 (σ28 10) z H39 fun b0 H41 =>
 ob (vInt .add (σ28 25) (.int .i64 1)) fun c0 =>
 Q28 .normal (up (up (up (up (up (up (up (up (up (up (up (up (up σ28 26 r) 27 s) 28 t) 29 (σ28 2)) 30 w) 31 (σ28 10)) 32 x) 33 y) 34 z) 35 b0) 10 b0) 36 c0) 25 c0) H41)
 (Q28 (.exit 0) (up σ28 26 r) H28)) (blkQ 0 (thenQ J27 (retQ prg [(.tmp 8), (.tmp 9)] K))) (up (up (up (up (up (up (up (up (up (up (up (up (up (up (up (up (up (up (up (up (S0 [a0, a1, a2, a3]) 4 b) 5 c) 8 (.slice none 0 0)) 9 (.bool false)) 11 d) 12 e) 13 f) 14 g) 15 i) 16 i) 17 j) 18 k) 19 l) 20 m) 21 n) 22 p) 23 q) 10 q) 24 a3) 25 (.int .i64 0)) H26)
theorem R.q16 (h : F.q16 a0 a1 a2 a3 H K) : HT prg 16 [a0, a1, a2, a3].toArray H K :=
 HT_of_eq O0 mixed Tryz.func16 (by kernel_rfl) (by kernel_rfl) h
def F.q84 (a0 a1 : Value) (H : Hp) (K : Value → Hp → Prop) : Prop :=
 ob (vLenSl a0) fun b =>
 ob (vLenSl a1) fun c =>
 ob (vInt .neq b c) fun d =>
 cnd d
 (K (.bool false) H)
 (jn (fun σ4 H4 =>
 K (.bool true) H4) fun J4 =>
 lpE (fun Q5 σ5 H5 =>
 ob (vLenSl (σ5 0)) fun e =>
 ob (vInt .lss (σ5 5) e) fun f =>
 cnd f
 (ob (vIx 1 (σ5 0) (σ5 5)) fun g =>
 ob (vLoad g H5) fun i =>
 ob (vIx 1 (σ5 1) (σ5 5)) fun j =>
 ob (vLoad j H5) fun k =>
 ob (vInt .neq i k) fun l =>
 cnd l
 (Q5 .ret (up (up (up (up (up (up (up (up (up (up (up (up (up (up σ5 11 (σ5 5)) 12 (σ5 0)) 13 e) 14 f) 17 (σ5 0)) 18 (σ5 5)) 19 g) 20 i) 21 (σ5 1)) 22 (σ5 5)) 23 j) 24 k) 25 l) 4 (.bool false)) H5)
 (ob (vInt .add (σ5 5) (.int .i64 1)) fun m =>
 Q5 .normal (up (up (up (up (up (up (up (up (up (up (up (up (up (up (up (up σ5 11 (σ5 5)) 12 (σ5 0)) 13 e) 14 f) 17 (σ5 0)) 18 (σ5 5)) 19 g) 20 i) 21 (σ5 1)) 22 (σ5 5)) 23 j) 24 k) 25 l) 15 (σ5 5)) 16 m) 5 m) H5))
 (Q5 (.exit 0) (up (up (up (up σ5 11 (σ5 5)) 12 (σ5 0)) 13 e) 14 f) H5)) (blkQ 0 (thenQ J4 (retQ prg [(.tmp 4)] K))) (up (up (up (up (up (up (up (S0 [a0, a1]) 4 (.bool false)) 6 a0) 7 b) 8 a1) 9 c) 10 d) 5 (.int .i64 0)) H)
def O.q84 : Nat → Nat × List Nat := fun i => bif Nat.beq i 6 then (0, [0, 1, 2, 3, 4, 5, 6, 7, 8]) else (0, [])
theorem R.q84 (h : F.q84 a0 a1 H K) : HT prg 84 [a0, a1].toArray H K :=
 HT_of_eq O.q84 mixed Tryz.func84 (by kernel_rfl) (by kernel_rfl) h
def F.q48 (a0 a1 : Value) (H : Hp) (K : Value → Hp → Prop) : Prop :=
 ob (vNilC a0) fun b =>
 ob (vFa 0 b) fun c =>
 ob (vLoad c H) fun d =>
 ob (vNilC a1) fun e =>
 ob (vFa 0 e) fun f =>
 ob (vLoad f H) fun g =>
 ob (vInt .eql d g) fun i =>
 gop i true (fun K8 => K8 a0 H) H fun j H10 =>
 gop i true (fun K11 => ob (vNilC j) fun u => K11 u H10) H10 fun k H13 =>
 gop i true (fun K14 => ob (vFa 1 k) fun u => K14 u H13) H13 fun l H16 =>
 gop i true (fun K17 => ob (vLoad l H16) fun u => K17 u H16) H16 fun m H19 =>
 gop i true (fun K20 => K20 a1 H19) H19 fun n H22 =>
 gop i true (fun K23 => ob (vNilC n) fun u => K23 u H22) H22 fun p H25 =>
 gop i true (fun K26 => ob (vFa 1 p) fun u => K26 u H25) H25 fun q H28 =>
 gop i true (fun K29 => ob (vLoad q H28) fun u => K29 u H28) H28 fun r H31 =>
 gop i true (fun K32 => ob (vInt .eql m r) fun u => K32 u H31) H31 fun s H34 =>
 ob (vPick i s (.bool false)) fun t =>
 gop t true (fun K36 => K36 a0 H34) H34 fun w H38 =>
 gop t true (fun K39 => ob (vNilC w) fun u => K39 u H38) H38 fun x H41 =>
 gop t true (fun K42 => ob (vFa 2 x) fun u => K42 u H41) H41 fun y H44 =>
 gop t true (fun K45 => ob (vLoad y H44) fun u => K45 u H44) H44 fun z H47 =>
 gop t true (fun K48 => K48 a1 H47) H47 fun b0 H50 =>
 gop t true (fun K51 => ob (vNilC b0) fun u => K51 u H50) H50 fun c0 H53 =>
 gop t true (fun K54 => ob (vFa 2 c0) fun u => K54 u H53) H53 fun d0 H56 =>
 gop t true (fun K57 => ob (vLoad d0 H56) fun u => K57 u H56) H56 fun e0 H59 =>
 gop t true (fun K60 => HT prg 84 [z, e0].toArray H59 fun f0 H62 =>
 Le H59 H62 ∧ K60 f0 H62) H59 fun g0 H64 =>
 ob (vPick t g0 (.bool false)) fun i0 =>
 K i0 H64
def O.q48 : Nat → Nat × List Nat := fun i => bif Nat.beq i 1 then (0, [0, 1, 2, 3, 4, 5, 6, 7, 8, 9, 10, 11, 12, 13, 14, 15, 16, 17, 18, 19, 20, 21, 22, 23, 24, 25, 26, 27, 28, 29, 30, 31]) else (0, [])
theorem R.q48 (h : F.q48 a0 a1 H K) : HT prg 48 [a0, a1].toArray H K :=
 HT_of_eq O.q48 mixed Tryz.func48 (by kernel_rfl) (by kernel_rfl) h
def F.q17 (a0 a1 a2 : Value) (H : Hp) (K : Value → Hp → Prop) : Prop :=
 nw (a0 : Value).cells 26 H fun b H2 =>
 nw (a1 : Value).cells 36 H2 fun c H4 =>
 HT prg 40 [b, c].toArray H4 fun d H6 =>
 ob (vUn .not d) fun e =>
 gop e false (fun K8 => K8 a2 H6) H6 fun f H10 =>
 gop e false (fun K11 => HT prg 38 [f, (.int .i64 1), (.int .i64 512)].toArray H10 K11) H10 fun g H13 =>
 gop e false (fun K14 => ob (vUn .not g) fun u => K14 u H13) H13 fun i H16 =>
 ob (vPick e (.bool true) i) fun j =>
 cnd j
 (K (.tuple #[(.int .i64 0), (.int .i64 0), (.bool false)]) H16)
 (HT prg 46 [c].toArray H16 fun k H19 =>
 bS 3 1 #[(.int .i64 0), (.int .i64 0), (.slice none 0 0)] 36 [(0, k)] H19 fun l H21 =>
 jn (fun σ22 H22 =>
 K (.tuple #[(.int .i64 0), (.int .i64 0), (.bool false)]) H22) fun J22 =>
 lpE (fun Q23 σ23 H23 =>
 ob (vInt .leq (σ23 10) (σ23 2)) fun m =>
 cnd m
 (jn (fun σ25 H25 =>
 ob (vInt .add (σ25 10) (.int .i64 1)) fun n =>
 Q23 .normal (up (up (up σ25 25 (σ25 10)) 26 n) 10 n) H25) fun J25 =>
 ob (vInt .sub (σ23 10) (.int .i64 1)) fun p =>
 ob (vIx 3 (σ23 9) p) fun q =>
 HT prg 47 [(σ23 3), q, (.bool true)].toArray H23 fun r H30 =>
 nw #[(.int .i64 0), (.int .i64 0), (.slice none 0 0)] 36 H30 fun s H32 =>
 st 3 s r H32 fun H33 =>
 jn (fun σ34 H34 =>
 ob (vLoadN 3 (σ34 11) H34) fun t =>
 bS 3 1 #[(.int .i64 0), (.int .i64 0), (.slice none 0 0)] 36 [(0, t)] H34 fun w H37 =>
 apd 3 40 #[(.int .i64 0), (.int .i64 0), (.slice none 0 0)] 36 (σ34 9) w H37 fun x H39 =>
 J25 (up (up (up (up (up σ34 46 (σ34 9)) 47 t) 48 w) 49 x) 9 x) H39) fun J34 =>
 ob (vLenSl (σ23 9)) fun y =>
 lpE (fun Q41 σ41 H41 =>
 ob (vInt .lss (σ41 34) (σ41 33)) fun z =>
 cnd z
 (ob (vIx 3 (σ41 9) (σ41 34)) fun b0 =>
 HT prg 48 [b0, (σ41 11)].toArray H41 fun c0 H45 =>
 cnd c0
 (ob (vInt .sub (σ41 10) (σ41 34)) fun d0 =>
 Q41 .ret (up (up (up (up (up (up (up (up (up (up (up (up (up (up σ41 35 z) 36 (σ41 34)) 12 (σ41 34)) 37 (σ41 9)) 38 (σ41 34)) 39 b0) 40 c0) 41 (σ41 34)) 42 (σ41 10)) 43 (σ41 34)) 44 d0) 6 (σ41 34)) 7 d0) 8 (.bool true)) H45)
 (ob (vInt .add (σ41 34) (.int .i64 1)) fun e0 =>
 Q41 .normal (up (up (up (up (up (up (up (up (up σ41 35 z) 36 (σ41 34)) 12 (σ41 34)) 37 (σ41 9)) 38 (σ41 34)) 39 b0) 40 c0) 45 e0) 34 e0) H45))
 (Q41 (.exit 2) (up σ41 35 z) H41)) (blkQ 2 (thenQ J34 (blkQ 1 (thenQ J25 Q23)))) (up (up (up (up (up (up (up (up (up (up (up (up σ23 22 (σ23 10)) 23 (σ23 2)) 24 m) 27 (σ23 9)) 28 (σ23 10)) 29 p) 30 q) 31 r) 11 s) 32 (σ23 9)) 33 y) 34 (.int .i64 0)) H33)
 (Q23 (.exit 0) (up (up (up σ23 22 (σ23 10)) 23 (σ23 2)) 24 m) H23)) (blkQ 0 (thenQ J22 (retQ prg [(.tmp 6), (.tmp 7), (.tmp 8)] K))) (up (up (up (up (up (up (up (up (up (up (up (up (up (up (up (up (S0 [a0, a1, a2]) 3 b) 4 c) 6 (.int .i64 0)) 7 (.int .i64 0)) 8 (.bool false)) 13 d) 14 e) 15 e) 16 f) 17 g) 18 i) 19 j) 20 k) 21 l) 9 l) 10 (.int .i64 1)) H21)
theorem R.q17 (h : F.q17 a0 a1 a2 H K) : HT prg 17 [a0, a1, a2].toArray H K :=
 HT_of_eq O0 mixed Tryz.func17 (by kernel_rfl) (by kernel_rfl) h
def F.q49 (a0 a1 a2 a3 : Value) (H : Hp) (K : Value → Hp → Prop) : Prop :=
 nw (a0 : Value).cells 36 H fun b H2 =>
 opEv.nwM H2 fun c H4 =>
 ob (vLoadN 3 b H4) fun d =>
 nw #[(.int .i64 0), (.int .i64 0), (.slice none 0 0)] 36 H4 fun e H7 =>
 st 3 e d H7 fun H8 =>
 jn (fun σ9 H9 =>
 K (.tuple #[(.int .i64 0), (.int .i64 0), (.bool false)]) H9) fun J9 =>
 lpE (fun Q10 σ10 H10 =>
 ob (vInt .leq (σ10 13) (σ10 3)) fun f =>
 cnd f
 (ob (vLoadN 3 (σ10 12) H10) fun g =>
 callV prg (σ10 1) [g] H10 fun i H14 =>
 hp prg (Instr.lookup 110 (σ10 11) i true) H14 fun j H16 =>
 ob (vExt j 0) fun k =>
 ob (vExt j 1) fun l =>
 cnd l
 (ob (vInt .sub (σ10 13) k) fun m =>
 Q10 .ret (up (up (up (up (up (up (up (up (up (up (up (up (up (up (up (up (up (up (up (up (up σ10 18 (σ10 13)) 19 (σ10 3)) 20 f) 24 (σ10 11)) 25 (σ10 1)) 26 g) 27 i) 28 j) 23 j) 29 k) 30 l) 14 k) 15 l) 31 l) 32 k) 33 (σ10 13)) 34 k) 35 m) 8 k) 9 m) 10 (.bool true)) H16)
 (ob (vLoadN 3 (σ10 12) H16) fun n =>
 callV prg (σ10 1) [n] H16 fun p H22 =>
 hp prg (Instr.mapUpdate 110 (σ10 11) p (σ10 13)) H22 fun _ H23 =>
 ob (vLoadN 3 (σ10 12) H23) fun q =>
 callV prg (σ10 2) [q] H23 fun r H26 =>
 st 3 (σ10 12) r H26 fun H27 =>
 ob (vInt .add (σ10 13) (.int .i64 1)) fun s =>
 Q10 .normal (up (up (up (up (up (up (up (up (up (up (up (up (up (up (up (up (up (up (up (up (up (up (up (up (up σ10 18 (σ10 13)) 19 (σ10 3)) 20 f) 24 (σ10 11)) 25 (σ10 1)) 26 g) 27 i) 28 j) 23 j) 29 k) 30 l) 14 k) 15 l) 31 l) 36 (σ10 11)) 37 (σ10 1)) 38 n) 39 p) 40 (σ10 13)) 41 (σ10 2)) 42 q) 43 r) 21 (σ10 13)) 22 s) 13 s) H27))
 (Q10 (.exit 0) (up (up (up σ10 18 (σ10 13)) 19 (σ10 3)) 20 f) H10)) (blkQ 0 (thenQ J9 (retQ prg [(.tmp 8), (.tmp 9), (.tmp 10)] K))) (up (up (up (up (up (up (up (up (up (S0 [a0, a1, a2, a3]) 4 b) 8 (.int .i64 0)) 9 (.int .i64 0)) 10 (.bool false)) 16 c) 11 c) 17 d) 12 e) 13 (.int .i64 0)) H8
theorem R.q49 (h : F.q49 a0 a1 a2 a3 H K) : HT prg 49 [a0, a1, a2, a3].toArray H K :=
 HT_of_eq O0 mixed Tryz.func49 (by kernel_rfl) (by kernel_rfl) h
def F.q51 (a0 : Value) (H : Hp) (K : Value → Hp → Prop) : Prop :=
 ob (vLenSl a0) fun b =>
 mkS 1 1 #[(.int .u8 0)] 5 b b H fun c H3 =>
 jn (fun σ4 H4 =>
 ob (val prg (convert 22 9 (σ4 3)) H4) fun d =>
 K d H4) fun J4 =>
 ob (vLenSl a0) fun e =>
 lpE (fun Q7 σ7 H7 =>
 ob (vInt .lss (σ7 11) (σ7 10)) fun f =>
 cnd f
 (ob (vIx 1 (σ7 9) (σ7 11)) fun g =>
 ob (vLoad g H7) fun i =>
 ob (vCI .u8 i) fun j =>
 ob (vIx 1 (σ7 3) (σ7 11)) fun k =>
 st 1 k j H7 fun H13 =>
 ob (vInt .add (σ7 11) (.int .i64 1)) fun l =>
 Q7 .normal (up (up (up (up (up (up (up (up (up (up (up (up (up σ7 12 f) 13 (σ7 11)) 14 g) 15 i) 4 (σ7 11)) 5 i) 16 (σ7 3)) 17 (σ7 11)) 18 i) 19 j) 20 k) 21 l) 11 l) H13)
 (Q7 (.exit 0) (up σ7 12 f) H7)) (blkQ 0 (thenQ J4 (retQ prg [(.tmp 2)] K))) (up (up (up (up (up (up (up (up (S0 [a0]) 2 (.string ⟨#[]⟩)) 6 a0) 7 b) 8 c) 3 c) 9 a0) 10 e) 11 (.int .i64 0)) H3
theorem R.q51 (h : F.q51 a0 H K) : HT prg 51 [a0].toArray H K :=
 HT_of_eq O0 mixed Tryz.func51 (by kernel_rfl) (by kernel_rfl) h
def F.q50 (a0 : Value) (H : Hp) (K : Value → Hp → Prop) : Prop :=
 nw (a0 : Value).cells 36 H fun b H2 =>
 ob (vFa 2 b) fun c =>
 ob (vLoad c H2) fun d =>
 HT prg 51 [d].toArray H2 fun e H6 =>
 K e H6
theorem R.q50 (h : F.q50 a0 H K) : HT prg 50 [a0].toArray H K :=
 HT_of_eq O0 mixed Tryz.func50 (by kernel_rfl) (by kernel_rfl) h
def F.q52 (a0 a1 : Value) (H : Hp) (K : Value → Hp → Prop) : Prop :=
 nw (a0 : Value).cells 36 H fun b H2 =>
 nw #[(.int .i64 0), (.int .i64 0), (.slice none 0 0)] 36 H2 fun c H4 =>
 ob (vLoadN 2 a1 H4) fun d =>
 ob (vLoadN 3 b H4) fun e =>
 HT prg 45 [d, e, (.bool true)].toArray H4 fun f H8 =>
 st 3 c f H8 fun H9 =>
 ob (vLoadN 3 c H9) fun u10 => K u10 H9
theorem R.q52 (h : F.q52 a0 a1 H K) : HT prg 52 [a0, a1].toArray H K :=
 HT_of_eq O0 mixed Tryz.func52 (by kernel_rfl) (by kernel_rfl) h
def F.q18 (a0 a1 a2 : Value) (H : Hp) (K : Value → Hp → Prop) : Prop :=
 nw (a0 : Value).cells 26 H fun b H2 =>
 nw (a1 : Value).cells 36 H2 fun c H4 =>
 ob (vLoadN 2 b H4) fun d =>
 ob (vLoadN 3 c H4) fun e =>
 bS 3 1 #[(.int .i64 0), (.int .i64 0), (.slice none 0 0)] 36 [(0, e)] H4 fun f H8 =>
 HT prg 44 [d, f].toArray H8 fun g H10 =>
 ob (vUn .not g) fun i =>
 gop i false (fun K12 => K12 a2 H10) H10 fun j H14 =>
 gop i false (fun K15 => HT prg 33 [j, (.int .i64 1), (.int .i64 512)].toArray H14 K15) H14 fun k H17 =>
 gop i false (fun K18 => ob (vUn .not k) fun u => K18 u H17) H17 fun l H20 =>
 ob (vPick i (.bool true) l) fun m =>
 cnd m
 (K (.tuple #[(.int .i64 0), (.int .i64 0), (.bool false)]) H20)
 (ob (vLoadN 3 c H20) fun n =>
 HT prg 49 [n, (.func (.func 50) #[] #[]), (.func (.func 52) #[] #[b]), a2].toArray H20 fun p H24 =>
 ob (vExt p 0) fun q =>
 ob (vExt p 1) fun r =>
 ob (vExt p 2) fun s =>
 K (.tuple #[q, r, s]) H24)
theorem R.q18 (h : F.q18 a0 a1 a2 H K) : HT prg 18 [a0, a1, a2].toArray H K :=
 HT_of_eq O0 mixed Tryz.func18 (by kernel_rfl) (by kernel_rfl) h
def F.q54 (a0 a1 a2 a3 a4 : Value) (H : Hp) (K : Value → Hp → Prop) : Prop :=
 ob (vLoadN 3 a2 H) fun b =>
 ob (vLoad a3 H) fun c =>
 ob (vInt .sub a0 c) fun d =>
 ob (vLoad a4 H) fun e =>
 ob (vInt .sub a1 e) fun f =>
 HT prg 55 [b, d, f, (.bool false)].toArray H fun g H7 =>
 K g H7
theorem R.q54 (h : F.q54 a0 a1 a2 a3 a4 H K) : HT prg 54 [a0, a1, a2, a3, a4].toArray H K :=
 HT_of_eq O0 mixed Tryz.func54 (by kernel_rfl) (by kernel_rfl) h
def F.q57 (a0 : Value) (H : Hp) (K : Value → Hp → Prop) : Prop :=
 nw (a0 : Value).cells 36 H fun b H2 =>
 jn (fun σ3 H3 =>
 K (.bool false) H3) fun J3 =>
 ob (vFa 2 b) fun c =>
 ob (vLoad c H2) fun d =>
 ob (vLenSl d) fun e =>
 lpE (fun Q7 σ7 H7 =>
 ob (vInt .lss (σ7 10) (σ7 9)) fun f =>
 cnd f
 (ob (vIx 1 (σ7 8) (σ7 10)) fun g =>
 ob (vLoad g H7) fun i =>
 ob (vFa 1 (σ7 1)) fun j =>
 ob (vLoad j H7) fun k =>
 ob (vInt .quo (σ7 10) k) fun l =>
 ob (vFa 1 (σ7 1)) fun m =>
 ob (vLoad m H7) fun n =>
 ob (vInt .rem (σ7 10) n) fun p =>
 ob (vInt .eql i (.int .i64 1)) fun q =>
 gop q true (fun K18 => K18 l H7) H7 fun r H20 =>
 gop q true (fun K21 => ob (vInt .eql r (.int .i64 0)) fun u => K21 u H20) H20 fun s H23 =>
 gop q true (fun K24 => K24 s H23) H23 fun t H26 =>
 gop t false (fun K27 => K27 p H26) H26 fun w H29 =>
 gop t false (fun K30 => ob (vInt .eql w (.int .i64 0)) fun u => K30 u H29) H29 fun x H32 =>
 gop q true (fun K33 => ob (vPick t (.bool true) x) fun u => K33 u H32) H32 fun y H35 =>
 gop q true (fun K36 => K36 y H35) H35 fun z H38 =>
 gop z false (fun K39 => K39 l H38) H38 fun b0 H41 =>
 gop z false (fun K42 => ob (vFa 0 (σ7 1)) fun u => K42 u H41) H41 fun c0 H44 =>
 gop z false (fun K45 => ob (vLoad c0 H44) fun u => K45 u H44) H44 fun d0 H47 =>
 gop z false (fun K48 => ob (vInt .sub d0 (.int .i64 1)) fun u => K48 u H47) H47 fun e0 H50 =>
 gop z false (fun K51 => ob (vInt .eql b0 e0) fun u => K51 u H50) H50 fun f0 H53 =>
 gop q true (fun K54 => ob (vPick z (.bool true) f0) fun u => K54 u H53) H53 fun g0 H56 =>
 gop q true (fun K57 => K57 g0 H56) H56 fun i0 H59 =>
 gop i0 false (fun K60 => K60 p H59) H59 fun j0 H62 =>
 gop i0 false (fun K63 => ob (vFa 1 (σ7 1)) fun u => K63 u H62) H62 fun k0 H65 =>
 gop i0 false (fun K66 => ob (vLoad k0 H65) fun u => K66 u H65) H65 fun l0 H68 =>
 gop i0 false (fun K69 => ob (vInt .sub l0 (.int .i64 1)) fun u => K69 u H68) H68 fun m0 H71 =>
 gop i0 false (fun K72 => ob (vInt .eql j0 m0) fun u => K72 u H71) H71 fun n0 H74 =>
 gop q true (fun K75 => ob (vPick i0 (.bool true) n0) fun u => K75 u H74) H74 fun p0 H77 =>
 ob (vPick q p0 (.bool false)) fun q0 =>
 cnd q0
 (Q7 .ret (up (up (up (up (up (up (up (up (up (up (up (up (up (up (up (up (up (up (up (up (up (up (up (up (up (up (up (up (up (up (up (up (up (up (up (up (up (up (up (up (up σ7 11 f) 12 (σ7 10)) 13 g) 14 i) 3 (σ7 10)) 4 i) 15 (σ7 10)) 16 j) 17 k) 18 l) 19 (σ7 10)) 20 m) 21 n) 22 p) 5 l) 6 p) 23 i) 24 q) 25 q) 26 r) 27 s) 28 t) 29 w) 30 x) 31 y) 32 z) 33 b0) 34 c0) 35 d0) 36 e0) 37 f0) 38 g0) 39 i0) 40 j0) 41 k0) 42 l0) 43 m0) 44 n0) 45 p0) 46 q0) 2 (.bool true)) H77)
 (ob (vInt .add (σ7 10) (.int .i64 1)) fun r0 =>
 Q7 .normal (up (up (up (up (up (up (up (up (up (up (up (up (up (up (up (up (up (up (up (up (up (up (up (up (up (up (up (up (up (up (up (up (up (up (up (up (up (up (up (up (up (up σ7 11 f) 12 (σ7 10)) 13 g) 14 i) 3 (σ7 10)) 4 i) 15 (σ7 10)) 16 j) 17 k) 18 l) 19 (σ7 10)) 20 m) 21 n) 22 p) 5 l) 6 p) 23 i) 24 q) 25 q) 26 r) 27 s) 28 t) 29 w) 30 x) 31 y) 32 z) 33 b0) 34 c0) 35 d0) 36 e0) 37 f0) 38 g0) 39 i0) 40 j0) 41 k0) 42 l0) 43 m0) 44 n0) 45 p0) 46 q0) 47 r0) 10 r0) H77))
 (Q7 (.exit 0) (up σ7 11 f) H7)) (blkQ 0 (thenQ J3 (retQ prg [(.tmp 2)] K))) (up (up (up (up (up (up (S0 [a0]) 1 b) 2 (.bool false)) 7 c) 8 d) 9 e) 10 (.int .i64 0)) H2
def O.q57 : Nat → Nat × List Nat := fun i => bif Nat.beq i 4 then (0, [0, 1, 2, 3, 4, 5, 6, 7, 8, 9]) else (0, [])
theorem R.q57 (h : F.q57 a0 H K) : HT prg 57 [a0].toArray H K :=
 HT_of_eq O.q57 mixed Tryz.func57 (by kernel_rfl) (by kernel_rfl) h
def F.q88 (a0 a1 : Value) (H : Hp) (K : Value → Hp → Prop) : Prop :=
 ob (vLenSl a0) fun b =>
 ob (vLenSl a1) fun c =>
 ob (vInt .neq b c) fun d =>
 cnd d
 (K (.bool false) H)
 (jn (fun σ4 H4 =>
 K (.bool true) H4) fun J4 =>
 ob (vLenSl a0) fun e =>
 lpE (fun Q6 σ6 H6 =>
 ob (vInt .lss (σ6 13) (σ6 12)) fun f =>
 cnd f
 (ob (vIx 1 (σ6 0) (σ6 13)) fun g =>
 ob (vLoad g H6) fun i =>
 ob (vIx 1 (σ6 1) (σ6 13)) fun j =>
 ob (vLoad j H6) fun k =>
 ob (vInt .neq i k) fun l =>
 cnd l
 (Q6 .ret (up (up (up (up (up (up (up (up (up (up (up (up (up σ6 14 f) 15 (σ6 13)) 5 (σ6 13)) 16 (σ6 0)) 17 (σ6 13)) 18 g) 19 i) 20 (σ6 1)) 21 (σ6 13)) 22 j) 23 k) 24 l) 4 (.bool false)) H6)
 (ob (vInt .add (σ6 13) (.int .i64 1)) fun m =>
 Q6 .normal (up (up (up (up (up (up (up (up (up (up (up (up (up (up σ6 14 f) 15 (σ6 13)) 5 (σ6 13)) 16 (σ6 0)) 17 (σ6 13)) 18 g) 19 i) 20 (σ6 1)) 21 (σ6 13)) 22 j) 23 k) 24 l) 25 m) 13 m) H6))
 (Q6 (.exit 0) (up σ6 14 f) H6)) (blkQ 0 (thenQ J4 (retQ prg [(.tmp 4)] K))) (up (up (up (up (up (up (up (up (up (S0 [a0, a1]) 4 (.bool false)) 6 a0) 7 b) 8 a1) 9 c) 10 d) 11 a0) 12 e) 13 (.int .i64 0)) H)
def O.q88 : Nat → Nat × List Nat := fun i => bif Nat.beq i 6 then (0, [0, 1, 2, 3, 4, 5, 6, 7, 8]) else (0, [])
theorem R.q88 (h : F.q88 a0 a1 H K) : HT prg 88 [a0, a1].toArray H K :=
 HT_of_eq O.q88 mixed Tryz.func88 (by kernel_rfl) (by kernel_rfl) h
def F.q58 (a0 a1 : Value) (H : Hp) (K : Value → Hp → Prop) : Prop :=
 nw (a0 : Value).cells 36 H fun b H2 =>
 nw (a1 : Value).cells 36 H2 fun c H4 =>
 ob (vFa 0 b) fun d =>
 ob (vLoad d H4) fun e =>
 ob (vFa 0 c) fun f =>
 ob (vLoad f H4) fun g =>
 ob (vInt .eql e g) fun i =>
 gop i true (fun K10 => ob (vFa 1 b) fun u => K10 u H4) H4 fun j H12 =>
 gop i true (fun K13 => ob (vLoad j H12) fun u => K13 u H12) H12 fun k H15 =>
 gop i true (fun K16 => ob (vFa 1 c) fun u => K16 u H15) H15 fun l H18 =>
 gop i true (fun K19 => ob (vLoad l H18) fun u => K19 u H18) H18 fun m H21 =>
 gop i true (fun K22 => ob (vInt .eql k m) fun u => K22 u H21) H21 fun n H24 =>
 ob (vPick i n (.bool false)) fun p =>
 gop p true (fun K26 => ob (vFa 2 b) fun u => K26 u H24) H24 fun q H28 =>
 gop p true (fun K29 => ob (vLoad q H28) fun u => K29 u H28) H28 fun r H31 =>
 gop p true (fun K32 => ob (vFa 2 c) fun u => K32 u H31) H31 fun s H34 =>
 gop p true (fun K35 => ob (vLoad s H34) fun u => K35 u H34) H34 fun t H37 =>
 gop p true (fun K38 => HT prg 88 [r, t].toArray H37 K38) H37 fun w H40 =>
 ob (vPick p w (.bool false)) fun x =>
 K x H40
theorem R.q58 (h : F.q58 a0 a1 H K) : HT prg 58 [a0, a1].toArray H K :=
 HT_of_eq O0 mixed Tryz.func58 (by kernel_rfl) (by kernel_rfl) h
def F.q19 (a0 a1 a2 : Value) (H : Hp) (K : Value → Hp → Prop) : Prop :=
 nw (a0 : Value).cells 26 H fun b H2 =>
 nw (a1 : Value).cells 36 H2 fun c H4 =>
 ob (vLoadN 2 b H4) fun d =>
 ob (vLoadN 3 c H4) fun e =>
 bS 3 1 #[(.int .i64 0), (.int .i64 0), (.slice none 0 0)] 36 [(0, e)] H4 fun f H8 =>
 HT prg 44 [d, f].toArray H8 fun g H10 =>
 ob (vUn .not g) fun i =>
 gop i false (fun K12 => K12 a2 H10) H10 fun j H14 =>
 gop i false (fun K15 => HT prg 33 [j, (.int .i64 1), (.int .i64 64)].toArray H14 K15) H14 fun k H17 =>
 gop i false (fun K18 => ob (vUn .not k) fun u => K18 u H17) H17 fun l H20 =>
 ob (vPick i (.bool true) l) fun m =>
 cnd m
 (K (.tuple #[(.int .i64 0), (.int .i64 0), (.int .i64 0), (.bool false)]) H20)
 ((ob (vFa 0 c) fun n =>
 ob (vLoad n H20) fun p =>
 ob (vInt .sub (.int .i64 24) p) fun q =>
 ob (vInt .quo q (.int .i64 2)) fun r =>
 ob (vFa 1 c) fun s =>
 ob (vLoad s H20) fun t =>
 ob (vInt .sub (.int .i64 24) t) fun w =>
 ob (vInt .quo w (.int .i64 2)) fun x =>
 nw #[(.int .i64 0)] 2 H20 fun y H31 =>
 nw #[(.int .i64 0)] 2 H31 fun z H33 =>
 st 1 y r H33 fun H34 =>
 st 1 z x H34 fun H35 =>
 HT prg 53 [(.int .i64 24), (.int .i64 24), (.func (.func 54) #[] #[c, y, z])].toArray H35 fun b0 H37 =>
 nw #[(.int .i64 0), (.int .i64 0), (.slice none 0 0)] 36 H37 fun c0 H39 =>
 st 3 c0 b0 H39 fun H40 =>
 ob (vLoadN 3 c0 H40) fun d0 =>
 HT prg 56 [d0].toArray H40 fun e0 H43 =>
 ob (vExt e0 0) fun f0 =>
 ob (vExt e0 1) fun g0 =>
 ob (vExt e0 2) fun i0 =>
 ob (vExt e0 3) fun j0 =>
 nw #[(.int .i64 0), (.int .i64 0), (.slice none 0 0)] 36 H43 fun k0 H49 =>
 st 3 k0 f0 H49 fun H50 =>
 ob (vUn .not j0) fun l0 =>
 gop l0 false (fun K52 => ob (vLoadN 3 c0 H50) fun u => K52 u H50) H50 fun m0 H54 =>
 gop l0 false (fun K55 => HT prg 57 [m0].toArray H54 K55) H54 fun n0 H57 =>
 ob (vPick l0 (.bool true) n0) fun p0 =>
 cnd p0
 (K (.tuple #[(.int .i64 0), (.int .i64 0), (.int .i64 0), (.bool false)]) H57)
 (jn (fun σ59 H59 =>
 K (.tuple #[(.int .i64 0), (.int .i64 0), (.int .i64 0), (.bool false)]) H59) fun J59 =>
 lpE (fun Q60 σ60 H60 =>
 ob (vInt .leq (σ60 17) (σ60 2)) fun q0 =>
 cnd q0
 (ob (vLoadN 2 (σ60 3) H60) fun r0 =>
 ob (vLoadN 3 (σ60 12) H60) fun s0 =>
 HT prg 45 [r0, s0, (.bool false)].toArray H60 fun t0 H65 =>
 st 3 (σ60 12) t0 H65 fun H66 =>
 ob (vLoadN 3 (σ60 12) H66) fun w0 =>
 HT prg 57 [w0].toArray H66 fun x0 H69 =>
 cnd x0
 (Q60 .ret (up (up (up (up (up (up (up (up (up (up (up (up σ60 55 (σ60 17)) 56 (σ60 2)) 57 q0) 60 r0) 61 s0) 62 t0) 63 w0) 64 x0) 6 (.int .i64 0)) 7 (.int .i64 0)) 8 (.int .i64 0)) 9 (.bool false)) H69)
 (ob (vLoadN 3 (σ60 12) H69) fun y0 =>
 HT prg 56 [y0].toArray H69 fun z0 H72 =>
 ob (vExt z0 0) fun b1 =>
 ob (vExt z0 1) fun c1 =>
 ob (vExt z0 2) fun d1 =>
 ob (vExt z0 3) fun e1 =>
 nw #[(.int .i64 0), (.int .i64 0), (.slice none 0 0)] 36 H72 fun f1 H78 =>
 st 3 f1 b1 H78 fun H79 =>
 gop e1 true (fun K80 => ob (vLoadN 3 f1 H79) fun u => K80 u H79) H79 fun g1 H82 =>
 gop e1 true (fun K83 => ob (vLoadN 3 (σ60 13) H82) fun u => K83 u H82) H82 fun i1 H85 =>
 gop e1 true (fun K86 => HT prg 58 [g1, i1].toArray H85 K86) H85 fun j1 H88 =>
 ob (vPick e1 j1 (.bool false)) fun k1 =>
 cnd k1
 (ob (vInt .sub c1 (σ60 14)) fun l1 =>
 ob (vInt .sub d1 (σ60 15)) fun m1 =>
 Q60 .ret (up (up (up (up (up (up (up (up (up (up (up (up (up (up (up (up (up (up (up (up (up (up (up (up (up (up (up (up (up (up (up (up (up (up (up (up σ60 55 (σ60 17)) 56 (σ60 2)) 57 q0) 60 r0) 61 s0) 62 t0) 63 w0) 64 x0) 66 y0) 67 z0) 65 z0) 68 b1) 69 c1) 70 d1) 71 e1) 18 f1) 19 c1) 20 d1) 21 e1) 72 e1) 73 e1) 74 g1) 75 i1) 76 j1) 77 k1) 78 (σ60 17)) 79 c1) 80 (σ60 14)) 81 l1) 82 d1) 83 (σ60 15)) 84 m1) 6 (σ60 17)) 7 l1) 8 m1) 9 (.bool true)) H88)
 (ob (vInt .add (σ60 17) (.int .i64 1)) fun n1 =>
 Q60 .normal (up (up (up (up (up (up (up (up (up (up (up (up (up (up (up (up (up (up (up (up (up (up (up (up (up (up (up (up σ60 55 (σ60 17)) 56 (σ60 2)) 57 q0) 60 r0) 61 s0) 62 t0) 63 w0) 64 x0) 66 y0) 67 z0) 65 z0) 68 b1) 69 c1) 70 d1) 71 e1) 18 f1) 19 c1) 20 d1) 21 e1) 72 e1) 73 e1) 74 g1) 75 i1) 76 j1) 77 k1) 58 (σ60 17)) 59 n1) 17 n1) H88)))
 (Q60 (.exit 0) (up (up (up σ60 55 (σ60 17)) 56 (σ60 2)) 57 q0) H60)) (blkQ 0 (thenQ J59 (retQ prg [(.tmp 6), (.tmp 7), (.tmp 8), (.tmp 9)] K))) (up (up (up (up (up (up (up (up (up (up (up (up (up (up (up (up (up (up (up (up (up (up (up (up (up (up (up (up (up (up (up (up (up (up (up (up (up (up (up (up (up (up (up (up (up (up (up (S0 [a0, a1, a2]) 3 b) 4 c) 6 (.int .i64 0)) 7 (.int .i64 0)) 8 (.int .i64 0)) 9 (.bool false)) 22 d) 23 e) 24 f) 25 g) 26 i) 27 i) 28 j) 29 k) 30 l) 31 m) 32 n) 33 p) 34 q) 35 r) 36 s) 37 t) 38 w) 39 x) 10 y) 11 z) 40 (.func (.func 54) #[] #[c, y, z])) 41 b0) 12 c0) 43 d0) 44 e0) 42 e0) 45 f0) 46 g0) 47 i0) 48 j0) 13 k0) 14 g0) 15 i0) 16 j0) 49 j0) 50 l0) 51 l0) 52 m0) 53 n0) 54 p0) 17 (.int .i64 1)) H57)) ∧ (ob (vFa 0 c) fun p1 =>
 ob (vLoad p1 H20) fun q1 =>
 ob (vInt .sub (.int .i64 24) q1) fun r1 =>
 ob (vInt .quo r1 (.int .i64 2)) fun s1 =>
 ob (vFa 1 c) fun t1 =>
 nw #[(.int .i64 0)] 2 H20 fun w1 H99 =>
 nw #[(.int .i64 0)] 2 H99 fun x1 H101 =>
 st 1 w1 s1 H101 fun H102 =>
 ob (vLoad t1 H102) fun y1 =>
 ob (vInt .sub (.int .i64 24) y1) fun z1 =>
 ob (vInt .quo z1 (.int .i64 2)) fun b2 =>
 st 1 x1 b2 H102 fun H106 =>
 HT prg 53 [(.int .i64 24), (.int .i64 24), (.func (.func 54) #[] #[c, w1, x1])].toArray H106 fun c2 H108 =>
 nw #[(.int .i64 0), (.int .i64 0), (.slice none 0 0)] 36 H108 fun d2 H110 =>
 st 3 d2 c2 H110 fun H111 =>
 ob (vLoadN 3 d2 H111) fun e2 =>
 HT prg 56 [e2].toArray H111 fun f2 H114 =>
 ob (vExt f2 0) fun g2 =>
 ob (vExt f2 1) fun i2 =>
 ob (vExt f2 2) fun j2 =>
 ob (vExt f2 3) fun k2 =>
 nw #[(.int .i64 0), (.int .i64 0), (.slice none 0 0)] 36 H114 fun l2 H120 =>
 st 3 l2 g2 H120 fun H121 =>
 ob (vUn .not k2) fun m2 =>
 gop m2 false (fun K123 => ob (vLoadN 3 d2 H121) fun u => K123 u H121) H121 fun n2 H125 =>
 gop m2 false (fun K126 => HT prg 57 [n2].toArray H125 K126) H125 fun p2 H128 =>
 ob (vPick m2 (.bool true) p2) fun q2 =>
 cnd q2
 (K (.tuple #[(.int .i64 0), (.int .i64 0), (.int .i64 0), (.bool false)]) H128)
 (jn (fun σ130 H130 =>
 K (.tuple #[(.int .i64 0), (.int .i64 0), (.int .i64 0), (.bool false)]) H130) fun J130 =>
 lpE (fun Q131 σ131 H131 =>
 ob (vInt .leq (σ131 17) (σ131 2)) fun r2 =>
 cnd r2
 (ob (vLoadN 2 (σ131 3) H131) fun s2 =>
 ob (vLoadN 3 (σ131 12) H131) fun t2 =>
 HT prg 45 [s2, t2, (.bool false)].toArray H131 fun w2 H136 =>
 st 3 (σ131 12) w2 H136 fun H137 =>
 ob (vLoadN 3 (σ131 12) H137) fun x2 =>
 HT prg 57 [x2].toArray H137 fun y2 H140 =>
 cnd y2
 (Q131 .ret (up (up (up (up (up (up (up (up (up (up (up (up σ131 55 (σ131 17)) 56 (σ131 2)) 57 r2) 60 s2) 61 t2) 62 w2) 63 x2) 64 y2) 6 (.int .i64 0)) 7 (.int .i64 0)) 8 (.int .i64 0)) 9 (.bool false)) H140)
 (ob (vLoadN 3 (σ131 12) H140) fun z2 =>
 HT prg 56 [z2].toArray H140 fun b3 H143 =>
 ob (vExt b3 0) fun c3 =>
 ob (vExt b3 1) fun d3 =>
 ob (vExt b3 2) fun e3 =>
 ob (vExt b3 3) fun f3 =>
 nw #[(.int .i64 0), (.int .i64 0), (.slice none 0 0)] 36 H143 fun g3 H149 =>
 st 3 g3 c3 H149 fun H150 =>
 gop f3 true (fun K151 => ob (vLoadN 3 g3 H150) fun u => K151 u H150) H150 fun i3 H153 =>
 gop f3 true (fun K154 => ob (vLoadN 3 (σ131 13) H153) fun u => K154 u H153) H153 fun j3 H156 =>
 gop f3 true (fun K157 => HT prg 58 [i3, j3].toArray H156 K157) H156 fun k3 H159 =>
 ob (vPick f3 k3 (.bool false)) fun l3 =>
 cnd l3
 (ob (vInt .sub d3 (σ131 14)) fun m3 =>
 ob (vInt .sub e3 (σ131 15)) fun n3 =>
 Q131 .ret (up (up (up (up (up (up (up (up (up (up (up (up (up (up (up (up (up (up (up (up (up (up (up (up (up (up (up (up (up (up (up (up (up (up (up (up σ131 55 (σ131 17)) 56 (σ131 2)) 57 r2) 60 s2) 61 t2) 62 w2) 63 x2) 64 y2) 66 z2) 67 b3) 65 b3) 68 c3) 69 d3) 70 e3) 71 f3) 18 g3) 19 d3) 20 e3) 21 f3) 72 f3) 73 f3) 74 i3) 75 j3) 76 k3) 77 l3) 78 (σ131 17)) 79 d3) 80 (σ131 14)) 81 m3) 82 e3) 83 (σ131 15)) 84 n3) 6 (σ131 17)) 7 m3) 8 n3) 9 (.bool true)) H159)
 (ob (vInt .add (σ131 17) (.int .i64 1)) fun p3 =>
 Q131 .normal (up (up (up (up (up (up (up (up (up (up (up (up (up (up (up (up (up (up (up (up (up (up (up (up (up (up (up (up σ131 55 (σ131 17)) 56 (σ131 2)) 57 r2) 60 s2) 61 t2) 62 w2) 63 x2) 64 y2) 66 z2) 67 b3) 65 b3) 68 c3) 69 d3) 70 e3) 71 f3) 18 g3) 19 d3) 20 e3) 21 f3) 72 f3) 73 f3) 74 i3) 75 j3) 76 k3) 77 l3) 58 (σ131 17)) 59 p3) 17 p3) H159)))
 (Q131 (.exit 0) (up (up (up σ131 55 (σ131 17)) 56 (σ131 2)) 57 r2) H131)) (blkQ 0 (thenQ J130 (retQ prg [(.tmp 6), (.tmp 7), (.tmp 8), (.tmp 9)] K))) (up (up (up (up (up (up (up (up (up (up (up (up (up (up (up (up (up (up (up (up (up (up (up (up (up (up (up (up (up (up (up (up (up (up (up (up (up (up (up (up (up (up (up (up (up (up (up (S0 [a0, a1, a2]) 3 b) 4 c) 6 (.int .i64 0)) 7 (.int .i64 0)) 8 (.int .i64 0)) 9 (.bool false)) 22 d) 23 e) 24 f) 25 g) 26 i) 27 i) 28 j) 29 k) 30 l) 31 m) 32 p1) 33 q1) 34 r1) 35 s1) 36 t1) 10 w1) 11 x1) 37 y1) 38 z1) 39 b2) 40 (.func (.func 54) #[] #[c, w1, x1])) 41 c2) 12 d2) 43 e2) 44 f2) 42 f2) 45 g2) 46 i2) 47 j2) 48 k2) 13 l2) 14 i2) 15 j2) 16 k2) 49 k2) 50 m2) 51 m2) 52 n2) 53 p2) 54 q2) 17 (.int .i64 1)) H128)))
def O.q19 : Nat → Nat × List Nat := fun i => bif Nat.beq i 3 then (0, [1005, 1010, 0, 1, 2, 3, 4, 5, 6, 7, 8, 9, 10, 11, 0, 1, 2, 3, 4, 8, 9, 10, 5, 6, 7, 11]) else (0, [])
theorem R.q19 (h : F.q19 a0 a1 a2 H K) : HT prg 19 [a0, a1, a2].toArray H K :=
 HT_of_eq O.q19 mixed Tryz.func19 (by kernel_rfl) (by kernel_rfl) h
def F.q89 (a0 a1 a2 a3 a4 a5 : Value) (H : Hp) (K : Value → Hp → Prop) : Prop :=
 ob (vLoadN 3 a2 H) fun b =>
 ob (vLoadN 3 a3 H) fun c =>
 ob (vLoad a4 H) fun d =>
 ob (vInt .sub a0 d) fun e =>
 ob (vLoad a5 H) fun f =>
 ob (vInt .sub a1 f) fun g =>
 HT prg 55 [b, a0, a1, (.bool false)].toArray H fun i H8 =>
 Le H H8 ∧ (HT prg 55 [c, e, g, (.bool false)].toArray H8 fun j H10 =>
 Le H8 H10 ∧ (ob (vMx true i [j]) fun k =>
 K k H10))
def O.q89 : Nat → Nat × List Nat := fun i => bif Nat.beq i 1 then (0, [0, 1, 2, 4, 5, 6, 7, 8, 9, 10, 3, 11, 12, 13]) else (0, [])
theorem R.q89 (h : F.q89 a0 a1 a2 a3 a4 a5 H K) : HT prg 89 [a0, a1, a2, a3, a4, a5].toArray H K :=
 HT_of_eq O.q89 mixed Tryz.func89 (by kernel_rfl) (by kernel_rfl) h
def F.q59 (a0 a1 a2 a3 : Value) (H : Hp) (K : Value → Hp → Prop) : Prop :=
 nw (a0 : Value).cells 36 H fun b H2 =>
 nw (a1 : Value).cells 36 H2 fun c H4 =>
 nw (a2 : Value).cells 2 H4 fun d H6 =>
 nw (a3 : Value).cells 2 H6 fun e H8 =>
 nw #[(.int .i64 0), (.int .i64 0), (.slice none 0 0)] 36 H8 fun f H10 =>
 ob (vLoadN 3 b H10) fun g =>
 HT prg 77 [g].toArray H10 fun i H13 =>
 ob (vUn .not i) fun j =>
 gop j false (fun K15 => ob (vLoadN 3 c H13) fun u => K15 u H13) H13 fun k H17 =>
 gop j false (fun K18 => HT prg 77 [k].toArray H17 K18) H17 fun l H20 =>
 gop j false (fun K21 => ob (vUn .not l) fun u => K21 u H20) H20 fun m H23 =>
 ob (vPick j (.bool true) m) fun n =>
 gop n false (fun K25 => ob (vLoad d H23) fun u => K25 u H23) H23 fun p H27 =>
 gop n false (fun K28 => HT prg 33 [p, (.int .i64 0), (.int .i64 24)].toArray H27 K28) H27 fun q H30 =>
 gop n false (fun K31 => ob (vUn .not q) fun u => K31 u H30) H30 fun r H33 =>
 ob (vPick n (.bool true) r) fun s =>
 gop s false (fun K35 => ob (vLoad e H33) fun u => K35 u H33) H33 fun t H37 =>
 gop s false (fun K38 => HT prg 33 [t, (.int .i64 0), (.int .i64 24)].toArray H37 K38) H37 fun w H40 =>
 gop s false (fun K41 => ob (vUn .not w) fun u => K41 u H40) H40 fun x H43 =>
 ob (vPick s (.bool true) x) fun y =>
 cnd y
 (ob (vBuild [(0, 1), (1, 1), (2, 1)] (.agg #[(.int .i64 0), (.int .i64 0), (.slice none 0 0)]) []) fun z =>
 st 3 f z H43 fun H46 =>
 ob (vLoadN 3 f H46) fun u47 => K (.tuple #[u47, (.bool false)]) H46)
 (ob (vFa 0 b) fun b0 =>
 ob (vLoad b0 H43) fun c0 =>
 ob (vLoad d H43) fun d0 =>
 ob (vFa 0 c) fun e0 =>
 ob (vLoad e0 H43) fun f0 =>
 ob (vInt .add d0 f0) fun g0 =>
 ob (vMx true c0 [g0]) fun i0 =>
 ob (vFa 1 b) fun j0 =>
 ob (vLoad j0 H43) fun k0 =>
 ob (vLoad e H43) fun l0 =>
 ob (vFa 1 c) fun m0 =>
 ob (vLoad m0 H43) fun n0 =>
 ob (vInt .add l0 n0) fun p0 =>
 ob (vMx true k0 [p0]) fun q0 =>
 HT prg 31 [i0].toArray H43 fun r0 H63 =>
 ob (vUn .not r0) fun s0 =>
 gop s0 false (fun K65 => K65 q0 H63) H63 fun t0 H67 =>
 gop s0 false (fun K68 => HT prg 31 [t0].toArray H67 K68) H67 fun w0 H70 =>
 gop s0 false (fun K71 => ob (vUn .not w0) fun u => K71 u H70) H70 fun x0 H73 =>
 ob (vPick s0 (.bool true) x0) fun y0 =>
 cnd y0
 (ob (vBuild [(0, 1), (1, 1), (2, 1)] (.agg #[(.int .i64 0), (.int .i64 0), (.slice none 0 0)]) []) fun z0 =>
 st 3 f z0 H73 fun H76 =>
 ob (vLoadN 3 f H76) fun u77 => K (.tuple #[u77, (.bool false)]) H76)
 (HT prg 53 [i0, q0, (.func (.func 89) #[] #[b, c, d, e])].toArray H73 fun b1 H79 =>
 st 3 f b1 H79 fun H80 =>
 ob (vLoadN 3 f H80) fun u81 => K (.tuple #[u81, (.bool true)]) H80))
def O.q59 : Nat → Nat × List Nat := fun i => bif Nat.beq i 3 then (0, [0, 1, 2, 3, 4, 5, 6, 7, 8, 9, 10, 11, 12, 13, 14, 15]) else (0, [])
theorem R.q59 (h : F.q59 a0 a1 a2 a3 H K) : HT prg 59 [a0, a1, a2, a3].toArray H K :=
 HT_of_eq O.q59 mixed Tryz.func59 (by kernel_rfl) (by kernel_rfl) h
def F.q20 (a0 a1 a2 a3 : Value) (H : Hp) (K : Value → Hp → Prop) : Prop :=
 nw (a0 : Value).cells 36 H fun b H2 =>
 nw (a1 : Value).cells 36 H2 fun c H4 =>
 nw #[(.int .i64 0), (.int .i64 0), (.slice none 0 0)] 36 H4 fun d H6 =>
 ob (vLoadN 3 b H6) fun e =>
 ob (vLoadN 3 c H6) fun f =>
 HT prg 59 [e, f, a2, a3].toArray H6 fun g H10 =>
 ob (vExt g 0) fun i =>
 ob (vExt g 1) fun j =>
 st 3 d i H10 fun H13 =>
 ob (vLoadN 3 d H13) fun u14 => K (.tuple #[u14, j]) H13
theorem R.q20 (h : F.q20 a0 a1 a2 a3 H K) : HT prg 20 [a0, a1, a2, a3].toArray H K :=
 HT_of_eq O0 mixed Tryz.func20 (by kernel_rfl) (by kernel_rfl) h
def F.q90 (a0 a1 a2 a3 : Value) (H : Hp) (K : Value → Hp → Prop) : Prop :=
 ob (vLoadN 3 a2 H) fun b =>
 ob (vLoad a3 H) fun c =>
 ob (vInt .sub a0 c) fun d =>
 ob (vLoad a3 H) fun e =>
 ob (vInt .sub a1 e) fun f =>
 HT prg 55 [b, d, f, (.bool false)].toArray H fun g H7 =>
 K g H7
theorem R.q90 (h : F.q90 a0 a1 a2 a3 H K) : HT prg 90 [a0, a1, a2, a3].toArray H K :=
 HT_of_eq O0 mixed Tryz.func90 (by kernel_rfl) (by kernel_rfl) h
def F.q60 (a0 a1 : Value) (H : Hp) (K : Value → Hp → Prop) : Prop :=
 nw (a0 : Value).cells 36 H fun b H2 =>
 nw (a1 : Value).cells 2 H2 fun c H4 =>
 nw #[(.int .i64 0), (.int .i64 0), (.slice none 0 0)] 36 H4 fun d H6 =>
 ob (vLoadN 3 b H6) fun e =>
 HT prg 77 [e].toArray H6 fun f H9 =>
 ob (vUn .not f) fun g =>
 gop g false (fun K11 => ob (vLoad c H9) fun u => K11 u H9) H9 fun i H13 =>
 gop g false (fun K14 => HT prg 33 [i, (.int .i64 0), (.int .i64 24)].toArray H13 K14) H13 fun j H16 =>
 gop g false (fun K17 => ob (vUn .not j) fun u => K17 u H16) H16 fun k H19 =>
 ob (vPick g (.bool true) k) fun l =>
 gop l false (fun K21 => ob (vFa 0 b) fun u => K21 u H19) H19 fun m H23 =>
 gop l false (fun K24 => ob (vLoad m H23) fun u => K24 u H23) H23 fun n H26 =>
 gop l false (fun K27 => ob (vLoad c H26) fun u => K27 u H26) H26 fun p H29 =>
 gop l false (fun K30 => ob (vInt .mul (.int .i64 2) p) fun u => K30 u H29) H29 fun q H32 =>
 gop l false (fun K33 => ob (vInt .add n q) fun u => K33 u H32) H32 fun r H35 =>
 gop l false (fun K36 => HT prg 31 [r].toArray H35 K36) H35 fun s H38 =>
 gop l false (fun K39 => ob (vUn .not s) fun u => K39 u H38) H38 fun t H41 =>
 ob (vPick l (.bool true) t) fun w =>
 gop w false (fun K43 => ob (vFa 1 b) fun u => K43 u H41) H41 fun x H45 =>
 gop w false (fun K46 => ob (vLoad x H45) fun u => K46 u H45) H45 fun y H48 =>
 gop w false (fun K49 => ob (vLoad c H48) fun u => K49 u H48) H48 fun z H51 =>
 gop w false (fun K52 => ob (vInt .mul (.int .i64 2) z) fun u => K52 u H51) H51 fun b0 H54 =>
 gop w false (fun K55 => ob (vInt .add y b0) fun u => K55 u H54) H54 fun c0 H57 =>
 gop w false (fun K58 => HT prg 31 [c0].toArray H57 K58) H57 fun d0 H60 =>
 gop w false (fun K61 => ob (vUn .not d0) fun u => K61 u H60) H60 fun e0 H63 =>
 ob (vPick w (.bool true) e0) fun f0 =>
 cnd f0
 (ob (vBuild [(0, 1), (1, 1), (2, 1)] (.agg #[(.int .i64 0), (.int .i64 0), (.slice none 0 0)]) []) fun g0 =>
 st 3 d g0 H63 fun H66 =>
 ob (vLoadN 3 d H66) fun u67 => K (.tuple #[u67, (.bool false)]) H66)
 (ob (vFa 0 b) fun i0 =>
 ob (vLoad i0 H63) fun j0 =>
 ob (vLoad c H63) fun k0 =>
 ob (vInt .mul (.int .i64 2) k0) fun l0 =>
 ob (vInt .add j0 l0) fun m0 =>
 ob (vFa 1 b) fun n0 =>
 ob (vLoad n0 H63) fun p0 =>
 ob (vLoad c H63) fun q0 =>
 ob (vInt .mul (.int .i64 2) q0) fun r0 =>
 ob (vInt .add p0 r0) fun s0 =>
 HT prg 53 [m0, s0, (.func (.func 90) #[] #[b, c])].toArray H63 fun t0 H79 =>
 st 3 d t0 H79 fun H80 =>
 ob (vLoadN 3 d H80) fun u81 => K (.tuple #[u81, (.bool true)]) H80)
theorem R.q60 (h : F.q60 a0 a1 H K) : HT prg 60 [a0, a1].toArray H K :=
 HT_of_eq O0 mixed Tryz.func60 (by kernel_rfl) (by kernel_rfl) h
def F.q21 (a0 a1 a2 a3 a4 a5 : Value) (H : Hp) (K : Value → Hp → Prop) : Prop :=
 nw (a0 : Value).cells 26 H fun b H2 =>
 nw (a1 : Value).cells 36 H2 fun c H4 =>
 nw (a2 : Value).cells 36 H4 fun d H6 =>
 ob (vLoadN 3 c H6) fun e =>
 ob (vLoadN 3 d H6) fun f =>
 HT prg 59 [e, f, a3, a4].toArray H6 fun g H10 =>
 ob (vExt g 0) fun i =>
 ob (vExt g 1) fun j =>
 nw #[(.int .i64 0), (.int .i64 0), (.slice none 0 0)] 36 H10 fun k H14 =>
 st 3 k i H14 fun H15 =>
 ob (vUn .not j) fun l =>
 gop l false (fun K17 => ob (vLoadN 2 b H15) fun u => K17 u H15) H15 fun m H19 =>
 gop l false (fun K20 => HT prg 30 [m].toArray H19 K20) H19 fun n H22 =>
 gop l false (fun K23 => ob (vUn .not n) fun u => K23 u H22) H22 fun p H25 =>
 ob (vPick l (.bool true) p) fun q =>
 gop q false (fun K27 => K27 a5 H25) H25 fun r H29 =>
 gop q false (fun K30 => HT prg 33 [r, (.int .i64 0), (.int .i64 8)].toArray H29 K30) H29 fun s H32 =>
 gop q false (fun K33 => ob (vUn .not s) fun u => K33 u H32) H32 fun t H35 =>
 ob (vPick q (.bool true) t) fun w =>
 cnd w
 (K (.tuple #[(.slice none 0 0), (.slice none 0 0), (.bool false)]) H35)
 (ob (vLoadN 3 k H35) fun x =>
 HT prg 60 [x, a5].toArray H35 fun y H39 =>
 ob (vExt y 0) fun z =>
 ob (vExt y 1) fun b0 =>
 st 3 k z H39 fun H42 =>
 ob (vUn .not b0) fun c0 =>
 cnd c0
 (K (.tuple #[(.slice none 0 0), (.slice none 0 0), (.bool false)]) H42)
 (ob (vLoadN 2 b H42) fun d0 =>
 ob (vLoadN 3 k H42) fun e0 =>
 HT prg 61 [d0, e0, (.bool false), a5].toArray H42 fun f0 H47 =>
 HT prg 27 [f0].toArray H47 fun g0 H49 =>
 ob (vExt g0 0) fun i0 =>
 ob (vExt g0 1) fun j0 =>
 ob (vExt g0 2) fun k0 =>
 K (.tuple #[i0, j0, k0]) H49))
theorem R.q21 (h : F.q21 a0 a1 a2 a3 a4 a5 H K) : HT prg 21 [a0, a1, a2, a3, a4, a5].toArray H K :=
 HT_of_eq O0 mixed Tryz.func21 (by kernel_rfl) (by kernel_rfl) h
def F.q93 (a0 a1 : Value) (H : Hp) (K : Value → Hp → Prop) : Prop :=
 HT prg 38 [a0, (.int .i64 1), (.int .i64 24)].toArray H fun b H2 =>
 gop b true (fun K3 => K3 a1 H2) H2 fun c H5 =>
 gop b true (fun K6 => HT prg 38 [c, (.int .i64 1), (.int .i64 24)].toArray H5 K6) H5 fun d H8 =>
 ob (vPick b d (.bool false)) fun e =>
 K e H8
theorem R.q93 (h : F.q93 a0 a1 H K) : HT prg 93 [a0, a1].toArray H K :=
 HT_of_eq O0 mixed Tryz.func93 (by kernel_rfl) (by kernel_rfl) h
def F.q63 (a0 a1 a2 a3 : Value) (H : Hp) (K : Value → Hp → Prop) : Prop :=
 nw #[(.int .i64 0), (.int .i64 0), (.slice none 0 0)] 36 H fun b H2 =>
 HT prg 38 [a2, (.int .i64 0), (.int .i64 24)].toArray H2 fun c H4 =>
 ob (vUn .not c) fun d =>
 gop d false (fun K6 => K6 a3 H4) H4 fun e H8 =>
 gop d false (fun K9 => HT prg 38 [e, (.int .i64 0), (.int .i64 24)].toArray H8 K9) H8 fun f H11 =>
 gop d false (fun K12 => ob (vUn .not f) fun u => K12 u H11) H11 fun g H14 =>
 ob (vPick d (.bool true) g) fun i =>
 cnd i
 (ob (vBuild [(0, 1), (1, 1), (2, 1)] (.agg #[(.int .i64 0), (.int .i64 0), (.slice none 0 0)]) []) fun j =>
 st 3 b j H14 fun H17 =>
 ob (vLoadN 3 b H17) fun u18 => K (.tuple #[u18, (.bool false)]) H17)
 (ob (vNilC a0) fun k =>
 ob (vFa 0 k) fun l =>
 ob (vLoad l H14) fun m =>
 ob (vNilC a1) fun n =>
 ob (vFa 0 n) fun p =>
 ob (vLoad p H14) fun q =>
 ob (vInt .add a2 q) fun r =>
 HT prg 92 [m, r].toArray H14 fun s H27 =>
 Le H14 H27 ∧ (ob (vNilC a0) fun t =>
 ob (vFa 1 t) fun w =>
 ob (vLoad w H27) fun x =>
 ob (vNilC a1) fun y =>
 ob (vFa 1 y) fun z =>
 ob (vLoad z H27) fun b0 =>
 ob (vInt .add a3 b0) fun c0 =>
 HT prg 92 [x, c0].toArray H27 fun d0 H36 =>
 Le H27 H36 ∧ (HT prg 93 [s, d0].toArray H36 fun e0 H38 =>
 ob (vUn .not e0) fun f0 =>
 cnd f0
 (ob (vBuild [(0, 1), (1, 1), (2, 1)] (.agg #[(.int .i64 0), (.int .i64 0), (.slice none 0 0)]) []) fun g0 =>
 st 3 b g0 H38 fun H41 =>
 ob (vLoadN 3 b H41) fun u42 => K (.tuple #[u42, (.bool false)]) H41)
 (HT prg 39 [s, d0].toArray H38 fun i0 H44 =>
 nw #[(.int .i64 0), (.int .i64 0), (.slice none 0 0)] 36 H44 fun j0 H46 =>
 st 3 j0 i0 H46 fun H47 =>
 jn (fun σ48 H48 =>
 jn (fun σ49 H49 =>
 ob (vLoadN 3 (σ49 12) H49) fun k0 =>
 st 3 (σ49 8) k0 H49 fun H51 =>
 ob (vLoadN 3 (σ49 8) H51) fun u52 => K (.tuple #[u52, (.bool true)]) H51) fun J49 =>
 lpE (fun Q53 σ53 H53 =>
 ob (vNilC (σ53 1)) fun l0 =>
 ob (vFa 0 l0) fun m0 =>
 ob (vLoad m0 H53) fun n0 =>
 ob (vInt .lss (σ53 15) n0) fun p0 =>
 cnd p0
 (jn (fun σ58 H58 =>
 ob (vInt .add (σ58 15) (.int .i64 1)) fun q0 =>
 Q53 .normal (up (up (up σ58 100 (σ58 15)) 101 q0) 15 q0) H58) fun J58 =>
 lpE (fun Q60 σ60 H60 =>
 ob (vNilC (σ60 1)) fun r0 =>
 ob (vFa 1 r0) fun s0 =>
 ob (vLoad s0 H60) fun t0 =>
 ob (vInt .lss (σ60 16) t0) fun w0 =>
 cnd w0
 (ob (vNilC (σ60 1)) fun x0 =>
 ob (vFa 2 x0) fun y0 =>
 ob (vLoad y0 H60) fun z0 =>
 ob (vNilC (σ60 1)) fun b1 =>
 ob (vFa 1 b1) fun c1 =>
 ob (vLoad c1 H60) fun d1 =>
 ob (vInt .mul (σ60 15) d1) fun e1 =>
 ob (vInt .add e1 (σ60 16)) fun f1 =>
 ob (vIx 1 z0 f1) fun g1 =>
 ob (vLoad g1 H60) fun i1 =>
 ob (vInt .eql i1 (.int .i64 1)) fun j1 =>
 cnd j1
 (ob (vFa 2 (σ60 12)) fun k1 =>
 ob (vLoad k1 H60) fun l1 =>
 ob (vInt .add (σ60 2) (σ60 15)) fun m1 =>
 ob (vInt .mul m1 (σ60 11)) fun n1 =>
 ob (vInt .add n1 (σ60 3)) fun p1 =>
 ob (vInt .add p1 (σ60 16)) fun q1 =>
 ob (vIx 1 l1 q1) fun r1 =>
 st 1 r1 (.int .i64 1) H60 fun H83 =>
 ob (vInt .add (σ60 16) (.int .i64 1)) fun s1 =>
 Q60 .normal (up (up (up (up (up (up (up (up (up (up (up (up (up (up (up (up (up (up (up (up (up (up (up (up (up (up (up (up (up (up (up (up (up (up (up (up σ60 102 (σ60 16)) 103 (σ60 1)) 104 r0) 105 s0) 106 t0) 107 w0) 110 (σ60 1)) 111 x0) 112 y0) 113 z0) 114 (σ60 15)) 115 (σ60 1)) 116 b1) 117 c1) 118 d1) 119 e1) 120 (σ60 16)) 121 f1) 122 g1) 123 i1) 124 j1) 125 k1) 126 l1) 127 (σ60 2)) 128 (σ60 15)) 129 m1) 130 (σ60 11)) 131 n1) 132 (σ60 3)) 133 p1) 134 (σ60 16)) 135 q1) 136 r1) 108 (σ60 16)) 109 s1) 16 s1) H83)
 (ob (vInt .add (σ60 16) (.int .i64 1)) fun t1 =>
 Q60 .normal (up (up (up (up (up (up (up (up (up (up (up (up (up (up (up (up (up (up (up (up (up (up (up (up σ60 102 (σ60 16)) 103 (σ60 1)) 104 r0) 105 s0) 106 t0) 107 w0) 110 (σ60 1)) 111 x0) 112 y0) 113 z0) 114 (σ60 15)) 115 (σ60 1)) 116 b1) 117 c1) 118 d1) 119 e1) 120 (σ60 16)) 121 f1) 122 g1) 123 i1) 124 j1) 108 (σ60 16)) 109 t1) 16 t1) H60))
 (Q60 (.exit 6) (up (up (up (up (up (up σ60 102 (σ60 16)) 103 (σ60 1)) 104 r0) 105 s0) 106 t0) 107 w0) H60)) (blkQ 6 (blkQ 5 (thenQ J58 Q53))) (up (up (up (up (up (up (up σ53 94 (σ53 15)) 95 (σ53 1)) 96 l0) 97 m0) 98 n0) 99 p0) 16 (.int .i64 0)) H53)
 (Q53 (.exit 4) (up (up (up (up (up (up σ53 94 (σ53 15)) 95 (σ53 1)) 96 l0) 97 m0) 98 n0) 99 p0) H53)) (blkQ 4 (thenQ J49 (retQ prg [(.cell 8 36), (.tmp 9)] K))) (up σ48 15 (.int .i64 0)) H48) fun J48 =>
 lpE (fun Q86 σ86 H86 =>
 ob (vNilC (σ86 0)) fun w1 =>
 ob (vFa 0 w1) fun x1 =>
 ob (vLoad x1 H86) fun y1 =>
 ob (vInt .lss (σ86 13) y1) fun z1 =>
 cnd z1
 (jn (fun σ91 H91 =>
 ob (vInt .add (σ91 13) (.int .i64 1)) fun b2 =>
 Q86 .normal (up (up (up σ91 62 (σ91 13)) 63 b2) 13 b2) H91) fun J91 =>
 lpE (fun Q93 σ93 H93 =>
 ob (vNilC (σ93 0)) fun c2 =>
 ob (vFa 1 c2) fun d2 =>
 ob (vLoad d2 H93) fun e2 =>
 ob (vInt .lss (σ93 14) e2) fun f2 =>
 cnd f2
 (ob (vFa 2 (σ93 12)) fun g2 =>
 ob (vLoad g2 H93) fun i2 =>
 ob (vInt .mul (σ93 13) (σ93 11)) fun j2 =>
 ob (vInt .add j2 (σ93 14)) fun k2 =>
 ob (vNilC (σ93 0)) fun l2 =>
 ob (vFa 2 l2) fun m2 =>
 ob (vLoad m2 H93) fun n2 =>
 ob (vNilC (σ93 0)) fun p2 =>
 ob (vFa 1 p2) fun q2 =>
 ob (vLoad q2 H93) fun r2 =>
 ob (vInt .mul (σ93 13) r2) fun s2 =>
 ob (vInt .add s2 (σ93 14)) fun t2 =>
 ob (vIx 1 n2 t2) fun w2 =>
 ob (vLoad w2 H93) fun x2 =>
 ob (vIx 1 i2 k2) fun y2 =>
 st 1 y2 x2 H93 fun H113 =>
 ob (vInt .add (σ93 14) (.int .i64 1)) fun z2 =>
 Q93 .normal (up (up (up (up (up (up (up (up (up (up (up (up (up (up (up (up (up (up (up (up (up (up (up (up (up (up (up (up (up (up (up σ93 64 (σ93 14)) 65 (σ93 0)) 66 c2) 67 d2) 68 e2) 69 f2) 72 g2) 73 i2) 74 (σ93 13)) 75 (σ93 11)) 76 j2) 77 (σ93 14)) 78 k2) 79 (σ93 0)) 80 l2) 81 m2) 82 n2) 83 (σ93 13)) 84 (σ93 0)) 85 p2) 86 q2) 87 r2) 88 s2) 89 (σ93 14)) 90 t2) 91 w2) 92 x2) 93 y2) 70 (σ93 14)) 71 z2) 14 z2) H113)
 (Q93 (.exit 2) (up (up (up (up (up (up σ93 64 (σ93 14)) 65 (σ93 0)) 66 c2) 67 d2) 68 e2) 69 f2) H93)) (blkQ 2 (blkQ 1 (thenQ J91 Q86))) (up (up (up (up (up (up (up σ86 56 (σ86 13)) 57 (σ86 0)) 58 w1) 59 x1) 60 y1) 61 z1) 14 (.int .i64 0)) H86)
 (Q86 (.exit 0) (up (up (up (up (up (up σ86 56 (σ86 13)) 57 (σ86 0)) 58 w1) 59 x1) 60 y1) 61 z1) H86)) (blkQ 0 (thenQ J48 (retQ prg [(.cell 8 36), (.tmp 9)] K))) (up (up (up (up (up (up (up (up (up (up (up (up (up (up (up (up (up (up (up (up (up (up (up (up (up (up (up (up (up (up (up (up (up (up (up (up (up (up (up (up (up (up (up (S0 [a0, a1, a2, a3]) 8 b) 9 (.bool false)) 17 a2) 18 c) 19 d) 20 d) 21 e) 22 f) 23 g) 24 i) 26 a0) 27 k) 28 l) 29 m) 30 a2) 31 a1) 32 n) 33 p) 34 q) 35 r) 36 s) 10 s) 37 a0) 38 t) 39 w) 40 x) 41 a3) 42 a1) 43 y) 44 z) 45 b0) 46 c0) 47 d0) 11 d0) 48 s) 49 d0) 50 e0) 51 f0) 53 s) 54 d0) 55 i0) 12 j0) 13 (.int .i64 0)) H47))))
def O.q63 : Nat → Nat × List Nat := fun i => bif Nat.beq i 3 then (0, [0, 1, 2, 3, 4, 5, 6, 7, 8, 9, 10, 11]) else bif Nat.beq i 4 then (0, [0, 1, 2, 3, 4, 5, 6, 7, 8, 9, 10, 11]) else bif Nat.beq i 21 then (0, [0, 1, 2, 3, 4, 5, 6, 7, 8, 9, 10, 11, 12, 13, 14]) else bif Nat.beq i 14 then (0, [0, 1, 2, 3, 4, 5, 6, 7, 8, 9, 10, 11, 12, 13, 14, 15, 16, 17, 18, 19, 20, 21, 22]) else (0, [])
theorem R.q63 (h : F.q63 a0 a1 a2 a3 H K) : HT prg 63 [a0, a1, a2, a3].toArray H K :=
 HT_of_eq O.q63 mixed Tryz.func63 (by kernel_rfl) (by kernel_rfl) h
def F.q94 (a0 a1 : Value) (H : Hp) (K : Value → Hp → Prop) : Prop :=
 nw #[(.int .i64 0), (.int .i64 0), (.slice none 0 0)] 36 H fun b H2 =>
 ob (vNilC a0) fun c =>
 ob (vFa 0 c) fun d =>
 ob (vLoad d H2) fun e =>
 ob (vInt .mul (.int .i64 2) a1) fun f =>
 ob (vInt .add e f) fun g =>
 ob (vNilC a0) fun i =>
 ob (vFa 1 i) fun j =>
 ob (vLoad j H2) fun k =>
 ob (vInt .mul (.int .i64 2) a1) fun l =>
 ob (vInt .add k l) fun m =>
 HT prg 39 [g, m].toArray H2 fun n H14 =>
 Le H2 H14 ∧ (nw #[(.int .i64 0), (.int .i64 0), (.slice none 0 0)] 36 H14 fun p H16 =>
 st 3 p n H16 fun H17 =>
 jn (fun σ18 H18 =>
 ob (vLoadN 3 (σ18 5) H18) fun q =>
 st 3 (σ18 4) q H18 fun H20 =>
 ob (vLoadN 3 (σ18 4) H20) fun u21 => K u21 H20) fun J18 =>
 lpE (fun Q22 σ22 H22 =>
 ob (vNilC (σ22 0)) fun r =>
 ob (vFa 0 r) fun s =>
 ob (vLoad s H22) fun t =>
 ob (vInt .lss (σ22 6) t) fun w =>
 cnd w
 (jn (fun σ27 H27 =>
 ob (vInt .add (σ27 6) (.int .i64 1)) fun x =>
 Q22 .normal (up (up (up σ27 29 (σ27 6)) 30 x) 6 x) H27) fun J27 =>
 lpE (fun Q29 σ29 H29 =>
 ob (vNilC (σ29 0)) fun y =>
 ob (vFa 1 y) fun z =>
 ob (vLoad z H29) fun b0 =>
 ob (vInt .lss (σ29 7) b0) fun c0 =>
 cnd c0
 (ob (vFa 2 (σ29 5)) fun d0 =>
 ob (vLoad d0 H29) fun e0 =>
 ob (vInt .add (σ29 6) (σ29 1)) fun f0 =>
 ob (vFa 1 (σ29 5)) fun g0 =>
 ob (vLoad g0 H29) fun i0 =>
 ob (vInt .mul f0 i0) fun j0 =>
 ob (vInt .add j0 (σ29 7)) fun k0 =>
 ob (vInt .add k0 (σ29 1)) fun l0 =>
 ob (vNilC (σ29 0)) fun m0 =>
 ob (vFa 2 m0) fun n0 =>
 ob (vLoad n0 H29) fun p0 =>
 ob (vNilC (σ29 0)) fun q0 =>
 ob (vFa 1 q0) fun r0 =>
 ob (vLoad r0 H29) fun s0 =>
 ob (vInt .mul (σ29 6) s0) fun t0 =>
 ob (vInt .add t0 (σ29 7)) fun w0 =>
 ob (vIx 1 p0 w0) fun x0 =>
 ob (vLoad x0 H29) fun y0 =>
 ob (vIx 1 e0 l0) fun z0 =>
 st 1 z0 y0 H29 fun H53 =>
 ob (vInt .add (σ29 7) (.int .i64 1)) fun b1 =>
 Q29 .normal (up (up (up (up (up (up (up (up (up (up (up (up (up (up (up (up (up (up (up (up (up (up (up (up (up (up (up (up (up (up (up (up (up (up (up (up σ29 31 (σ29 7)) 32 (σ29 0)) 33 y) 34 z) 35 b0) 36 c0) 39 d0) 40 e0) 41 (σ29 6)) 42 (σ29 1)) 43 f0) 44 g0) 45 i0) 46 j0) 47 (σ29 7)) 48 k0) 49 (σ29 1)) 50 l0) 51 (σ29 0)) 52 m0) 53 n0) 54 p0) 55 (σ29 6)) 56 (σ29 0)) 57 q0) 58 r0) 59 s0) 60 t0) 61 (σ29 7)) 62 w0) 63 x0) 64 y0) 65 z0) 37 (σ29 7)) 38 b1) 7 b1) H53)
 (Q29 (.exit 2) (up (up (up (up (up (up σ29 31 (σ29 7)) 32 (σ29 0)) 33 y) 34 z) 35 b0) 36 c0) H29)) (blkQ 2 (blkQ 1 (thenQ J27 Q22))) (up (up (up (up (up (up (up σ22 23 (σ22 6)) 24 (σ22 0)) 25 r) 26 s) 27 t) 28 w) 7 (.int .i64 0)) H22)
 (Q22 (.exit 0) (up (up (up (up (up (up σ22 23 (σ22 6)) 24 (σ22 0)) 25 r) 26 s) 27 t) 28 w) H22)) (blkQ 0 (thenQ J18 (retQ prg [(.cell 4 36)] K))) (up (up (up (up (up (up (up (up (up (up (up (up (up (up (up (up (up (up (S0 [a0, a1]) 4 b) 8 a0) 9 c) 10 d) 11 e) 12 a1) 13 f) 14 g) 15 a0) 16 i) 17 j) 18 k) 19 a1) 20 l) 21 m) 22 n) 5 p) 6 (.int .i64 0)) H17)
def O.q94 : Nat → Nat × List Nat := fun i => bif Nat.beq i 1 then (0, [0, 1, 2, 3, 4, 5, 6, 7, 8, 9, 10, 11, 12, 13, 14, 15, 16]) else bif Nat.beq i 8 then (0, [0, 1, 2, 3, 4, 5, 6, 7, 8, 9, 10, 11, 12, 13, 14, 15, 16, 17, 18, 19, 20, 21, 22, 23, 24, 25, 26, 27]) else (0, [])
theorem R.q94 (h : F.q94 a0 a1 H K) : HT prg 94 [a0, a1].toArray H K :=
 HT_of_eq O.q94 mixed Tryz.func94 (by kernel_rfl) (by kernel_rfl) h
def F.q64 (a0 a1 : Value) (H : Hp) (K : Value → Hp → Prop) : Prop :=
 nw (a0 : Value).cells 36 H fun b H2 =>
 nw #[(.int .i64 0), (.int .i64 0), (.slice none 0 0)] 36 H2 fun c H4 =>
 HT prg 62 [b].toArray H4 fun d H6 =>
 ob (vUn .not d) fun e =>
 gop e false (fun K8 => K8 a1 H6) H6 fun f H10 =>
 gop e false (fun K11 => HT prg 38 [f, (.int .i64 0), (.int .i64 24)].toArray H10 K11) H10 fun g H13 =>
 gop e false (fun K14 => ob (vUn .not g) fun u => K14 u H13) H13 fun i H16 =>
 ob (vPick e (.bool true) i) fun j =>
 gop j false (fun K18 => ob (vFa 0 b) fun u => K18 u H16) H16 fun k H20 =>
 gop j false (fun K21 => ob (vLoad k H20) fun u => K21 u H20) H20 fun l H23 =>
 gop j false (fun K24 => K24 a1 H23) H23 fun m H26 =>
 gop j false (fun K27 => ob (vInt .mul (.int .i64 2) m) fun u => K27 u H26) H26 fun n H29 =>
 gop j false (fun K30 => ob (vInt .add l n) fun u => K30 u H29) H29 fun p H32 =>
 gop j false (fun K33 => ob (vFa 1 b) fun u => K33 u H32) H32 fun q H35 =>
 gop j false (fun K36 => ob (vLoad q H35) fun u => K36 u H35) H35 fun r H38 =>
 gop j false (fun K39 => K39 a1 H38) H38 fun s H41 =>
 gop j false (fun K42 => ob (vInt .mul (.int .i64 2) s) fun u => K42 u H41) H41 fun t H44 =>
 gop j false (fun K45 => ob (vInt .add r t) fun u => K45 u H44) H44 fun w H47 =>
 gop j false (fun K48 => HT prg 93 [p, w].toArray H47 K48) H47 fun x H50 =>
 gop j false (fun K51 => ob (vUn .not x) fun u => K51 u H50) H50 fun y H53 =>
 ob (vPick j (.bool true) y) fun z =>
 cnd z
 (ob (vBuild [(0, 1), (1, 1), (2, 1)] (.agg #[(.int .i64 0), (.int .i64 0), (.slice none 0 0)]) []) fun b0 =>
 st 3 c b0 H53 fun H56 =>
 ob (vLoadN 3 c H56) fun u57 => K (.tuple #[u57, (.bool false)]) H56)
 (HT prg 94 [b, a1].toArray H53 fun c0 H59 =>
 st 3 c c0 H59 fun H60 =>
 ob (vLoadN 3 c H60) fun u61 => K (.tuple #[u61, (.bool true)]) H60)
theorem R.q64 (h : F.q64 a0 a1 H K) : HT prg 64 [a0, a1].toArray H K :=
 HT_of_eq O0 mixed Tryz.func64 (by kernel_rfl) (by kernel_rfl) h
def F.q22 (a0 a1 a2 a3 a4 a5 : Value) (H : Hp) (K : Value → Hp → Prop) : Prop :=
 nw (a0 : Value).cells 26 H fun b H2 =>
 nw (a1 : Value).cells 36 H2 fun c H4 =>
 nw (a2 : Value).cells 36 H4 fun d H6 =>
 HT prg 40 [b, c].toArray H6 fun e H8 =>
 ob (vUn .not e) fun f =>
 gop f false (fun K10 => HT prg 62 [d].toArray H8 K10) H8 fun g H12 =>
 gop f false (fun K13 => ob (vUn .not g) fun u => K13 u H12) H12 fun i H15 =>
 ob (vPick f (.bool true) i) fun j =>
 gop j false (fun K17 => K17 a5 H15) H15 fun k H19 =>
 gop j false (fun K20 => HT prg 38 [k, (.int .i64 0), (.int .i64 8)].toArray H19 K20) H19 fun l H22 =>
 gop j false (fun K23 => ob (vUn .not l) fun u => K23 u H22) H22 fun m H25 =>
 ob (vPick j (.bool true) m) fun n =>
 cnd n
 (K (.tuple #[(.slice none 0 0), (.slice none 0 0), (.bool false)]) H25)
 (HT prg 63 [c, d, a3, a4].toArray H25 fun p H28 =>
 ob (vExt p 0) fun q =>
 ob (vExt p 1) fun r =>
 nw #[(.int .i64 0), (.int .i64 0), (.slice none 0 0)] 36 H28 fun s H32 =>
 st 3 s q H32 fun H33 =>
 ob (vUn .not r) fun t =>
 cnd t
 (K (.tuple #[(.slice none 0 0), (.slice none 0 0), (.bool false)]) H33)
 (ob (vLoadN 3 s H33) fun w =>
 HT prg 64 [w, a5].toArray H33 fun x H37 =>
 ob (vExt x 0) fun y =>
 ob (vExt x 1) fun z =>
 nw #[(.int .i64 0), (.int .i64 0), (.slice none 0 0)] 36 H37 fun b0 H41 =>
 st 3 b0 y H41 fun H42 =>
 ob (vUn .not z) fun c0 =>
 cnd c0
 (K (.tuple #[(.slice none 0 0), (.slice none 0 0), (.bool false)]) H42)
 (HT prg 41 [b, b0, (.bool false), a5].toArray H42 fun d0 H45 =>
 nw #[(.int .i64 0), (.int .i64 0), (.slice none 0 0)] 36 H45 fun e0 H47 =>
 st 3 e0 d0 H47 fun H48 =>
 HT prg 29 [e0].toArray H48 fun f0 H50 =>
 ob (vExt f0 0) fun g0 =>
 ob (vExt f0 1) fun i0 =>
 ob (vExt f0 2) fun j0 =>
 ob (vUn .not j0) fun k0 =>
 cnd k0
 (K (.tuple #[(.slice none 0 0), (.slice none 0 0), (.bool false)]) H50)
 (K (.tuple #[g0, i0, (.bool true)]) H50))))
theorem R.q22 (h : F.q22 a0 a1 a2 a3 a4 a5 H K) : HT prg 22 [a0, a1, a2, a3, a4, a5].toArray H K :=
 HT_of_eq O0 mixed Tryz.func22 (by kernel_rfl) (by kernel_rfl) h
end Go.Proofs.YtnijdhlmimemcaaGreatDoor
/- Functions' texts over a partial heap. -/
namespace Go.Proofs.YtnijdhlmimemcaaGreatDoor
open HL
variable {a0 a1 : Value} {H : Hp} {K : Value → Hp → Prop}
set_option linter.unusedVariables false
set_option maxRecDepth 100000
set_option maxHeartbeats 4000000
def F.q4 (a0 a1 : Value) (H : Hp) (K : Value → Hp → Prop) : Prop :=
 HT prg 5 [a0, a1].toArray H fun b H2 =>
 cnd b
 (K (.bool true) H2)
 (HT prg 6 [a0].toArray H2 fun c H4 =>
 nw #[(.slice none 0 0), (.slice none 0 0)] 26 H4 fun d H6 =>
 st 2 d c H6 fun H7 =>
 HT prg 7 [a1, (.int .i64 0), (.int .i64 6)].toArray H7 fun e H9 =>
 ob (vInt .add (.int .i64 1) e) fun f =>
 HT prg 7 [a1, (.int .i64 1), (.int .i64 6)].toArray H9 fun g H12 =>
 ob (vInt .add (.int .i64 1) g) fun i =>
 HT prg 15 [a1, f, i].toArray H12 fun j H15 =>
 nw #[(.int .i64 0), (.int .i64 0), (.slice none 0 0)] 36 H15 fun k H17 =>
 st 3 k j H17 fun H18 =>
 HT prg 7 [a1, (.int .i64 2), (.int .i64 2)].toArray H18 fun l H20 =>
 ob (vInt .eql l (.int .i64 0)) fun m =>
 HT prg 7 [a1, (.int .i64 3), (.int .i64 8)].toArray H20 fun n H23 =>
 ob (vLoadN 2 d H23) fun p =>
 ob (vLoadN 3 k H23) fun q =>
 HT prg 16 [p, q, m, n].toArray H23 fun r H27 =>
 ob (vExt r 0) fun s =>
 ob (vExt r 1) fun t =>
 ob (vUn .not t) fun w =>
 gop w false (fun K31 => K31 s H27) H27 fun x H33 =>
 gop w false (fun K34 => ob (vLenSl x) fun u => K34 u H33) H33 fun y H36 =>
 gop w false (fun K37 => K37 n H36) H36 fun z H39 =>
 gop w false (fun K40 => ob (vInt .add z (.int .i64 1)) fun u => K40 u H39) H39 fun b0 H42 =>
 gop w false (fun K43 => ob (vInt .neq y b0) fun u => K43 u H42) H42 fun c0 H45 =>
 ob (vPick w (.bool true) c0) fun d0 =>
 cnd d0
 (K (.bool false) H45)
 (jn (fun σ47 H47 =>
 ob (vLoadN 2 (σ47 5) H47) fun e0 =>
 ob (vLoadN 3 (σ47 8) H47) fun f0 =>
 HT prg 17 [e0, f0, (.int .i64 40)].toArray H47 fun g0 H51 =>
 ob (vExt g0 0) fun i0 =>
 ob (vExt g0 1) fun j0 =>
 ob (vExt g0 2) fun k0 =>
 ob (vLoadN 2 (σ47 5) H51) fun l0 =>
 ob (vLoadN 3 (σ47 8) H51) fun m0 =>
 HT prg 18 [l0, m0, (.int .i64 40)].toArray H51 fun n0 H58 =>
 ob (vExt n0 0) fun p0 =>
 ob (vExt n0 1) fun q0 =>
 ob (vExt n0 2) fun r0 =>
 ob (vBool .neq r0 k0) fun s0 =>
 cnd s0
 (K (.bool false) H58)
 (jn (fun σ63 H63 =>
 bS 1 1 #[(.int .i64 0)] 2 [(0, (.int .i64 3))] H63 fun t0 H65 =>
 bS 1 2 #[(.int .i64 0)] 2 [(0, (.int .i64 2)), (1, (.int .i64 3))] H65 fun w0 H67 =>
 ob (vBuild [(0, 1), (1, 1)] (.agg #[(.slice none 0 0), (.slice none 0 0)]) [(0, t0), (1, w0)]) fun x0 =>
 nw #[(.slice none 0 0), (.slice none 0 0)] 26 H67 fun y0 H70 =>
 st 2 y0 x0 H70 fun H71 =>
 bS 1 9 #[(.int .i64 0)] 2 [(0, (.int .i64 0)), (1, (.int .i64 1)), (2, (.int .i64 0)), (3, (.int .i64 0)), (4, (.int .i64 0)), (5, (.int .i64 1)), (6, (.int .i64 1)), (7, (.int .i64 1)), (8, (.int .i64 1))] H71 fun z0 H73 =>
 ob (vBuild [(0, 1), (1, 1), (2, 1)] (.agg #[(.int .i64 0), (.int .i64 0), (.slice none 0 0)]) [(0, (.int .i64 3)), (1, (.int .i64 3)), (2, z0)]) fun b1 =>
 nw #[(.int .i64 0), (.int .i64 0), (.slice none 0 0)] 36 H73 fun c1 H76 =>
 st 3 c1 b1 H76 fun H77 =>
 ob (vLoadN 2 y0 H77) fun d1 =>
 ob (vLoadN 3 c1 H77) fun e1 =>
 HT prg 19 [d1, e1, (.int .i64 8)].toArray H77 fun f1 H81 =>
 ob (vExt f1 0) fun g1 =>
 ob (vExt f1 1) fun i1 =>
 ob (vExt f1 2) fun j1 =>
 ob (vExt f1 3) fun k1 =>
 ob (vUn .not k1) fun l1 =>
 gop l1 false (fun K87 => K87 g1 H81) H81 fun m1 H89 =>
 gop l1 false (fun K90 => ob (vInt .neq m1 (.int .i64 4)) fun u => K90 u H89) H89 fun n1 H92 =>
 ob (vPick l1 (.bool true) n1) fun p1 =>
 gop p1 false (fun K94 => K94 i1 H92) H92 fun q1 H96 =>
 gop p1 false (fun K97 => ob (vInt .neq q1 (.int .i64 1)) fun u => K97 u H96) H96 fun r1 H99 =>
 ob (vPick p1 (.bool true) r1) fun s1 =>
 gop s1 false (fun K101 => K101 j1 H99) H99 fun t1 H103 =>
 gop s1 false (fun K104 => ob (vInt .neq t1 (.int .i64 1)) fun u => K104 u H103) H103 fun w1 H106 =>
 ob (vPick s1 (.bool true) w1) fun x1 =>
 cnd x1
 (K (.bool false) H106)
 (HT prg 7 [(σ63 1), (.int .i64 4), (.int .i64 5)].toArray H106 fun y1 H109 =>
 HT prg 7 [(σ63 1), (.int .i64 5), (.int .i64 5)].toArray H109 fun z1 H111 =>
 ob (vLoadN 3 (σ63 8) H111) fun b2 =>
 ob (vLoadN 3 c1 H111) fun c2 =>
 HT prg 20 [b2, c2, y1, z1].toArray H111 fun d2 H115 =>
 ob (vExt d2 0) fun e2 =>
 ob (vExt d2 1) fun f2 =>
 nw #[(.int .i64 0), (.int .i64 0), (.slice none 0 0)] 36 H115 fun g2 H119 =>
 st 3 g2 e2 H119 fun H120 =>
 ob (vUn .not f2) fun i2 =>
 gop i2 false (fun K122 => ob (vFa 0 g2) fun u => K122 u H120) H120 fun j2 H124 =>
 gop i2 false (fun K125 => ob (vLoad j2 H124) fun u => K125 u H124) H124 fun k2 H127 =>
 gop i2 false (fun K128 => K128 (σ63 6) H127) H127 fun l2 H130 =>
 gop i2 false (fun K131 => ob (vInt .lss k2 l2) fun u => K131 u H130) H130 fun m2 H133 =>
 ob (vPick i2 (.bool true) m2) fun n2 =>
 gop n2 false (fun K135 => ob (vFa 1 g2) fun u => K135 u H133) H133 fun p2 H137 =>
 gop n2 false (fun K138 => ob (vLoad p2 H137) fun u => K138 u H137) H137 fun q2 H140 =>
 gop n2 false (fun K141 => K141 (σ63 7) H140) H140 fun r2 H143 =>
 gop n2 false (fun K144 => ob (vInt .lss q2 r2) fun u => K144 u H143) H143 fun s2 H146 =>
 ob (vPick n2 (.bool true) s2) fun t2 =>
 gop t2 false (fun K148 => ob (vFa 2 g2) fun u => K148 u H146) H146 fun w2 H150 =>
 gop t2 false (fun K151 => ob (vLoad w2 H150) fun u => K151 u H150) H150 fun x2 H153 =>
 gop t2 false (fun K154 => ob (vLenSl x2) fun u => K154 u H153) H153 fun y2 H156 =>
 gop t2 false (fun K157 => ob (vFa 0 g2) fun u => K157 u H156) H156 fun z2 H159 =>
 gop t2 false (fun K160 => ob (vLoad z2 H159) fun u => K160 u H159) H159 fun b3 H162 =>
 gop t2 false (fun K163 => ob (vFa 1 g2) fun u => K163 u H162) H162 fun c3 H165 =>
 gop t2 false (fun K166 => ob (vLoad c3 H165) fun u => K166 u H165) H165 fun d3 H168 =>
 gop t2 false (fun K169 => ob (vInt .mul b3 d3) fun u => K169 u H168) H168 fun e3 H171 =>
 gop t2 false (fun K172 => ob (vInt .neq y2 e3) fun u => K172 u H171) H171 fun f3 H174 =>
 ob (vPick t2 (.bool true) f3) fun g3 =>
 cnd g3
 (K (.bool false) H174)
 (jn (fun σ176 H176 =>
 ob (vLoadN 2 (σ176 5) H176) fun i3 =>
 ob (vLoadN 3 (σ176 8) H176) fun j3 =>
 ob (vLoadN 3 (σ176 29) H176) fun k3 =>
 HT prg 21 [i3, j3, k3, (σ176 34), (σ176 35), (.int .i64 3)].toArray H176 fun l3 H181 =>
 ob (vExt l3 0) fun m3 =>
 ob (vExt l3 1) fun n3 =>
 ob (vExt l3 2) fun p3 =>
 ob (vLoadN 2 (σ176 5) H181) fun q3 =>
 ob (vLoadN 3 (σ176 8) H181) fun r3 =>
 ob (vLoadN 3 (σ176 29) H181) fun s3 =>
 HT prg 22 [q3, r3, s3, (σ176 34), (σ176 35), (.int .i64 3)].toArray H181 fun t3 H189 =>
 ob (vExt t3 0) fun w3 =>
 ob (vExt t3 1) fun x3 =>
 ob (vExt t3 2) fun y3 =>
 ob (vUn .not p3) fun z3 =>
 gop z3 false (fun K194 => K194 y3 H189) H189 fun b4 H196 =>
 gop z3 false (fun K197 => ob (vUn .not b4) fun u => K197 u H196) H196 fun c4 H199 =>
 ob (vPick z3 (.bool true) c4) fun d4 =>
 gop d4 false (fun K201 => K201 m3 H199) H199 fun e4 H203 =>
 gop d4 false (fun K204 => ob (vLenSl e4) fun u => K204 u H203) H203 fun f4 H206 =>
 gop d4 false (fun K207 => K207 w3 H206) H206 fun g4 H209 =>
 gop d4 false (fun K210 => ob (vLenSl g4) fun u => K210 u H209) H209 fun i4 H212 =>
 gop d4 false (fun K213 => ob (vInt .neq f4 i4) fun u => K213 u H212) H212 fun j4 H215 =>
 ob (vPick d4 (.bool true) j4) fun k4 =>
 gop k4 false (fun K217 => K217 n3 H215) H215 fun l4 H219 =>
 gop k4 false (fun K220 => K220 x3 H219) H219 fun m4 H222 =>
 gop k4 false (fun K223 => HT prg 14 [l4, m4].toArray H222 K223) H222 fun n4 H225 =>
 gop k4 false (fun K226 => ob (vUn .not n4) fun u => K226 u H225) H225 fun p4 H228 =>
 ob (vPick k4 (.bool true) p4) fun q4 =>
 cnd q4
 (K (.bool false) H228)
 (jn (fun σ230 H230 =>
 K (.bool true) H230) fun J230 =>
 ob (vLenSl m3) fun r4 =>
 lpE (fun Q232 σ232 H232 =>
 ob (vInt .lss (σ232 354) (σ232 353)) fun s4 =>
 cnd s4
 (ob (vIx 1 (σ232 41) (σ232 354)) fun t4 =>
 ob (vLoad t4 H232) fun w4 =>
 ob (vIx 1 (σ232 44) (σ232 354)) fun x4 =>
 ob (vLoad x4 H232) fun y4 =>
 ob (vStr .neq w4 y4) fun z4 =>
 cnd z4
 (Q232 .ret (up (up (up (up (up (up (up (up (up (up (up (up (up σ232 355 s4) 356 (σ232 354)) 47 (σ232 354)) 357 (σ232 41)) 358 (σ232 354)) 359 t4) 360 w4) 361 (σ232 44)) 362 (σ232 354)) 363 x4) 364 y4) 365 z4) 4 (.bool false)) H232)
 (ob (vInt .add (σ232 354) (.int .i64 1)) fun b5 =>
 Q232 .normal (up (up (up (up (up (up (up (up (up (up (up (up (up (up σ232 355 s4) 356 (σ232 354)) 47 (σ232 354)) 357 (σ232 41)) 358 (σ232 354)) 359 t4) 360 w4) 361 (σ232 44)) 362 (σ232 354)) 363 x4) 364 y4) 365 z4) 366 b5) 354 b5) H232))
 (Q232 (.exit 6) (up σ232 355 s4) H232)) (blkQ 6 (thenQ J230 (retQ prg [(.tmp 4)] K))) (up (up (up (up (up (up (up (up (up (up (up (up (up (up (up (up (up (up (up (up (up (up (up (up (up (up (up (up (up (up (up (up (up (up (up (up (up (up (up (up (up (up (up (up (up (up (up (up σ176 314 i3) 315 j3) 316 k3) 317 (σ176 34)) 318 (σ176 35)) 319 l3) 313 l3) 320 m3) 321 n3) 322 p3) 41 m3) 42 n3) 43 p3) 324 q3) 325 r3) 326 s3) 327 (σ176 34)) 328 (σ176 35)) 329 t3) 323 t3) 330 w3) 331 x3) 332 y3) 44 w3) 45 x3) 46 y3) 333 p3) 334 z3) 335 z3) 336 b4) 337 c4) 338 d4) 339 d4) 340 e4) 341 f4) 342 g4) 343 i4) 344 j4) 345 k4) 346 k4) 347 l4) 348 m4) 349 n4) 350 p4) 351 q4) 352 m3) 353 r4) 354 (.int .i64 0)) H228)) fun J176 =>
 lpE (fun Q240 σ240 H240 =>
 ob (vFa 0 (σ240 36)) fun c5 =>
 ob (vLoad c5 H240) fun d5 =>
 ob (vInt .lss (σ240 38) d5) fun e5 =>
 cnd e5
 (jn (fun σ244 H244 =>
 ob (vInt .add (σ244 38) (.int .i64 1)) fun f5 =>
 Q240 .normal (up (up (up σ244 242 (σ244 38)) 243 f5) 38 f5) H244) fun J244 =>
 lpE (fun Q246 σ246 H246 =>
 ob (vFa 1 (σ246 36)) fun g5 =>
 ob (vLoad g5 H246) fun i5 =>
 ob (vInt .lss (σ246 39) i5) fun j5 =>
 cnd j5
 (jn (fun σ250 H250 =>
 jn (fun σ251 H251 =>
 ob (vFa 2 (σ251 36)) fun k5 =>
 ob (vLoad k5 H251) fun l5 =>
 ob (vFa 1 (σ251 36)) fun m5 =>
 ob (vLoad m5 H251) fun n5 =>
 ob (vInt .mul (σ251 38) n5) fun p5 =>
 ob (vInt .add p5 (σ251 39)) fun q5 =>
 ob (vIx 1 l5 q5) fun r5 =>
 ob (vLoad r5 H251) fun s5 =>
 ob (vInt .neq s5 (σ251 40)) fun t5 =>
 cnd t5
 (Q246 .ret (up (up (up (up (up (up (up (up (up (up (up (up (up σ251 301 k5) 302 l5) 303 (σ251 38)) 304 m5) 305 n5) 306 p5) 307 (σ251 39)) 308 q5) 309 r5) 310 s5) 311 (σ251 40)) 312 t5) 4 (.bool false)) H251)
 (ob (vInt .add (σ251 39) (.int .i64 1)) fun w5 =>
 Q246 .normal (up (up (up (up (up (up (up (up (up (up (up (up (up (up (up σ251 301 k5) 302 l5) 303 (σ251 38)) 304 m5) 305 n5) 306 p5) 307 (σ251 39)) 308 q5) 309 r5) 310 s5) 311 (σ251 40)) 312 t5) 248 (σ251 39)) 249 w5) 39 w5) H251)) fun J251 =>
 ob (vInt .geq (σ250 38) (σ250 34)) fun x5 =>
 gop x5 true (fun K263 => K263 (σ250 38) H250) H250 fun y5 H265 =>
 gop x5 true (fun K266 => K266 (σ250 34) H265) H265 fun z5 H268 =>
 gop x5 true (fun K269 => ob (vInt .add z5 (.int .i64 3)) fun u => K269 u H268) H268 fun b6 H271 =>
 gop x5 true (fun K272 => ob (vInt .lss y5 b6) fun u => K272 u H271) H271 fun c6 H274 =>
 ob (vPick x5 c6 (.bool false)) fun d6 =>
 gop d6 true (fun K276 => K276 (σ250 39) H274) H274 fun e6 H278 =>
 gop d6 true (fun K279 => K279 (σ250 35) H278) H278 fun f6 H281 =>
 gop d6 true (fun K282 => ob (vInt .geq e6 f6) fun u => K282 u H281) H281 fun g6 H284 =>
 ob (vPick d6 g6 (.bool false)) fun i6 =>
 gop i6 true (fun K286 => K286 (σ250 39) H284) H284 fun j6 H288 =>
 gop i6 true (fun K289 => K289 (σ250 35) H288) H288 fun k6 H291 =>
 gop i6 true (fun K292 => ob (vInt .add k6 (.int .i64 3)) fun u => K292 u H291) H291 fun l6 H294 =>
 gop i6 true (fun K295 => ob (vInt .lss j6 l6) fun u => K295 u H294) H294 fun m6 H297 =>
 ob (vPick i6 m6 (.bool false)) fun n6 =>
 cnd n6
 (ob (vFa 2 (σ250 29)) fun p6 =>
 ob (vLoad p6 H297) fun q6 =>
 ob (vInt .sub (σ250 38) (σ250 34)) fun r6 =>
 ob (vInt .mul r6 (.int .i64 3)) fun s6 =>
 ob (vInt .add s6 (σ250 39)) fun t6 =>
 ob (vInt .sub t6 (σ250 35)) fun w6 =>
 ob (vIx 1 q6 w6) fun x6 =>
 ob (vLoad x6 H297) fun y6 =>
 ob (vMx true (σ250 40) [y6]) fun z6 =>
 J251 (up (up (up (up (up (up (up (up (up (up (up (up (up (up (up (up (up (up (up (up (up (up (up (up (up (up (up (up (up (up (up (up (up (up (up σ250 267 (σ250 38)) 268 (σ250 34)) 269 x5) 270 x5) 271 y5) 272 z5) 273 b6) 274 c6) 275 d6) 276 d6) 277 e6) 278 f6) 279 g6) 280 i6) 281 i6) 282 j6) 283 k6) 284 l6) 285 m6) 286 n6) 287 (σ250 40)) 288 p6) 289 q6) 290 (σ250 38)) 291 (σ250 34)) 292 r6) 293 s6) 294 (σ250 39)) 295 t6) 296 (σ250 35)) 297 w6) 298 x6) 299 y6) 300 z6) 40 z6) H297)
 (J251 (up (up (up (up (up (up (up (up (up (up (up (up (up (up (up (up (up (up (up (up σ250 267 (σ250 38)) 268 (σ250 34)) 269 x5) 270 x5) 271 y5) 272 z5) 273 b6) 274 c6) 275 d6) 276 d6) 277 e6) 278 f6) 279 g6) 280 i6) 281 i6) 282 j6) 283 k6) 284 l6) 285 m6) 286 n6) H297)) fun J250 =>
 ob (vInt .lss (σ246 38) (σ246 6)) fun b7 =>
 gop b7 true (fun K309 => K309 (σ246 39) H246) H246 fun c7 H311 =>
 gop b7 true (fun K312 => K312 (σ246 7) H311) H311 fun d7 H314 =>
 gop b7 true (fun K315 => ob (vInt .lss c7 d7) fun u => K315 u H314) H314 fun e7 H317 =>
 ob (vPick b7 e7 (.bool false)) fun f7 =>
 cnd f7
 (ob (vFa 2 (σ246 8)) fun g7 =>
 ob (vLoad g7 H317) fun i7 =>
 ob (vInt .mul (σ246 38) (σ246 7)) fun j7 =>
 ob (vInt .add j7 (σ246 39)) fun k7 =>
 ob (vIx 1 i7 k7) fun l7 =>
 ob (vLoad l7 H317) fun m7 =>
 J250 (up (up (up (up (up (up (up (up (up (up (up (up (up (up (up (up (up (up (up (up (up (up (up σ246 244 (σ246 39)) 245 g5) 246 i5) 247 j5) 40 (.int .i64 0)) 250 (σ246 38)) 251 (σ246 6)) 252 b7) 253 b7) 254 c7) 255 d7) 256 e7) 257 f7) 258 g7) 259 i7) 260 (σ246 38)) 261 (σ246 7)) 262 j7) 263 (σ246 39)) 264 k7) 265 l7) 266 m7) 40 m7) H317)
 (J250 (up (up (up (up (up (up (up (up (up (up (up (up (up σ246 244 (σ246 39)) 245 g5) 246 i5) 247 j5) 40 (.int .i64 0)) 250 (σ246 38)) 251 (σ246 6)) 252 b7) 253 b7) 254 c7) 255 d7) 256 e7) 257 f7) H317))
 (Q246 (.exit 4) (up (up (up (up σ246 244 (σ246 39)) 245 g5) 246 i5) 247 j5) H246)) (blkQ 4 (blkQ 3 (thenQ J244 Q240))) (up (up (up (up (up σ240 238 (σ240 38)) 239 c5) 240 d5) 241 e5) 39 (.int .i64 0)) H240)
 (Q240 (.exit 2) (up (up (up (up σ240 238 (σ240 38)) 239 c5) 240 d5) 241 e5) H240)) (blkQ 2 (thenQ J176 (retQ prg [(.tmp 4)] K))) (up (up (up (up (up (up (up (up (up (up (up (up (up (up (up (up (up (up (up (up (up (up (up (up (up (up (up (up (up (up (up (up (up (up (up (up (up (up (up (up (up (up (up (up (up (up (up (up (up (up (up (up (up (up (up (up (up (up (up (up (up (up (up (up (up (up (up (up (up (up (up (up (up (up (up σ63 174 t0) 175 w0) 176 x0) 28 y0) 177 z0) 178 b1) 29 c1) 180 d1) 181 e1) 182 f1) 179 f1) 183 g1) 184 i1) 185 j1) 186 k1) 30 g1) 31 i1) 32 j1) 33 k1) 187 k1) 188 l1) 189 l1) 190 m1) 191 n1) 192 p1) 193 p1) 194 q1) 195 r1) 196 s1) 197 s1) 198 t1) 199 w1) 200 x1) 201 (σ63 1)) 202 y1) 34 y1) 203 (σ63 1)) 204 z1) 35 z1) 206 b2) 207 c2) 208 y1) 209 z1) 210 d2) 205 d2) 211 e2) 212 f2) 36 g2) 37 f2) 213 f2) 214 i2) 215 i2) 216 j2) 217 k2) 218 l2) 219 m2) 220 n2) 221 n2) 222 p2) 223 q2) 224 r2) 225 s2) 226 t2) 227 t2) 228 w2) 229 x2) 230 y2) 231 z2) 232 b3) 233 c3) 234 d3) 235 e3) 236 f3) 237 g3) 38 (.int .i64 0)) H174))) fun J63 =>
 cnd r0
 (ob (vLoadN 2 (σ47 5) H58) fun n7 =>
 ob (vLoadN 3 (σ47 8) H58) fun p7 =>
 HT prg 12 [n7, p7, (.bool true), p0].toArray H58 fun q7 H328 =>
 ob (vExt q7 0) fun r7 =>
 ob (vExt q7 1) fun s7 =>
 nw #[(.int .i64 0), (.int .i64 0), (.slice none 0 0)] 36 H328 fun t7 H332 =>
 st 3 t7 r7 H332 fun H333 =>
 ob (vLoadN 2 (σ47 5) H333) fun w7 =>
 ob (vLoadN 3 (σ47 8) H333) fun x7 =>
 ob (vInt .add p0 q0) fun y7 =>
 HT prg 12 [w7, x7, (.bool true), y7].toArray H333 fun z7 H338 =>
 ob (vExt z7 0) fun b8 =>
 ob (vExt z7 1) fun c8 =>
 nw #[(.int .i64 0), (.int .i64 0), (.slice none 0 0)] 36 H338 fun d8 H342 =>
 st 3 d8 b8 H342 fun H343 =>
 ob (vUn .not s7) fun e8 =>
 gop e8 false (fun K345 => K345 c8 H343) H343 fun f8 H347 =>
 gop e8 false (fun K348 => ob (vUn .not f8) fun u => K348 u H347) H347 fun g8 H350 =>
 ob (vPick e8 (.bool true) g8) fun i8 =>
 gop i8 false (fun K352 => K352 q0 H350) H350 fun j8 H354 =>
 gop i8 false (fun K355 => ob (vInt .lss j8 (.int .i64 1)) fun u => K355 u H354) H354 fun k8 H357 =>
 ob (vPick i8 (.bool true) k8) fun l8 =>
 gop l8 false (fun K359 => K359 p0 H357) H357 fun m8 H361 =>
 gop l8 false (fun K362 => ob (vInt .lss m8 (.int .i64 0)) fun u => K362 u H361) H361 fun n8 H364 =>
 ob (vPick l8 (.bool true) n8) fun p8 =>
 gop p8 false (fun K366 => ob (vFa 2 t7) fun u => K366 u H364) H364 fun q8 H368 =>
 gop p8 false (fun K369 => ob (vLoad q8 H368) fun u => K369 u H368) H368 fun r8 H371 =>
 gop p8 false (fun K372 => ob (vFa 2 d8) fun u => K372 u H371) H371 fun s8 H374 =>
 gop p8 false (fun K375 => ob (vLoad s8 H374) fun u => K375 u H374) H374 fun t8 H377 =>
 gop p8 false (fun K378 => HT prg 14 [r8, t8].toArray H377 K378) H377 fun w8 H380 =>
 gop p8 false (fun K381 => ob (vUn .not w8) fun u => K381 u H380) H380 fun x8 H383 =>
 ob (vPick p8 (.bool true) x8) fun y8 =>
 cnd y8
 (K (.bool false) H383)
 (J63 (up (up (up (up (up (up (up (up (up (up (up (up (up (up (up (up (up (up (up (up (up (up (up (up (up (up (up (up (up (up (up (up (up (up (up (up (up (up (up (up (up (up (up (up (up (up (up (up (up (up (up (up (up (up (up (up (up (up (up (up (up (up (up (up (up (up σ47 119 e0) 120 f0) 121 g0) 118 g0) 122 i0) 123 j0) 124 k0) 18 i0) 19 j0) 20 k0) 126 l0) 127 m0) 128 n0) 125 n0) 129 p0) 130 q0) 131 r0) 21 p0) 22 q0) 23 r0) 132 r0) 133 k0) 134 s0) 135 r0) 137 n7) 138 p7) 139 p0) 140 q7) 136 q7) 141 r7) 142 s7) 24 t7) 25 s7) 144 w7) 145 x7) 146 p0) 147 q0) 148 y7) 149 z7) 143 z7) 150 b8) 151 c8) 26 d8) 27 c8) 152 s7) 153 e8) 154 e8) 155 f8) 156 g8) 157 i8) 158 i8) 159 j8) 160 k8) 161 l8) 162 l8) 163 m8) 164 n8) 165 p8) 166 p8) 167 q8) 168 r8) 169 s8) 170 t8) 171 w8) 172 x8) 173 y8) H383))
 (J63 (up (up (up (up (up (up (up (up (up (up (up (up (up (up (up (up (up (up (up (up (up (up (up (up σ47 119 e0) 120 f0) 121 g0) 118 g0) 122 i0) 123 j0) 124 k0) 18 i0) 19 j0) 20 k0) 126 l0) 127 m0) 128 n0) 125 n0) 129 p0) 130 q0) 131 r0) 21 p0) 22 q0) 23 r0) 132 r0) 133 k0) 134 s0) 135 r0) H58))) fun J47 =>
 ob (vLenSl s) fun z8 =>
 lpE (fun Q386 σ386 H386 =>
 ob (vInt .lss (σ386 87) (σ386 86)) fun b9 =>
 cnd b9
 (ob (vLoadN 2 (σ386 5) H386) fun c9 =>
 ob (vLoadN 3 (σ386 8) H386) fun d9 =>
 HT prg 12 [c9, d9, (σ386 9), (σ386 87)].toArray H386 fun e9 H391 =>
 ob (vExt e9 0) fun f9 =>
 ob (vExt e9 1) fun g9 =>
 nw #[(.int .i64 0), (.int .i64 0), (.slice none 0 0)] 36 H391 fun i9 H395 =>
 st 3 i9 f9 H395 fun H396 =>
 ob (vLoadN 3 i9 H396) fun j9 =>
 HT prg 13 [j9, (.int .i64 1)].toArray H396 fun k9 H399 =>
 ob (vExt k9 0) fun l9 =>
 ob (vExt k9 1) fun m9 =>
 ob (vUn .not g9) fun n9 =>
 gop n9 false (fun K403 => K403 m9 H399) H399 fun p9 H405 =>
 gop n9 false (fun K406 => ob (vUn .not p9) fun u => K406 u H405) H405 fun q9 H408 =>
 ob (vPick n9 (.bool true) q9) fun r9 =>
 gop r9 false (fun K410 => K410 (σ386 11) H408) H408 fun s9 H412 =>
 gop r9 false (fun K413 => K413 (σ386 87) H412) H412 fun t9 H415 =>
 gop r9 false (fun K416 => ob (vIx 1 s9 t9) fun u => K416 u H415) H415 fun w9 H418 =>
 gop r9 false (fun K419 => ob (vLoad w9 H418) fun u => K419 u H418) H418 fun x9 H421 =>
 gop r9 false (fun K422 => K422 l9 H421) H421 fun y9 H424 =>
 gop r9 false (fun K425 => ob (vInt .neq x9 y9) fun u => K425 u H424) H424 fun z9 H427 =>
 ob (vPick r9 (.bool true) z9) fun b10 =>
 cnd b10
 (Q386 .ret (up (up (up (up (up (up (up (up (up (up (up (up (up (up (up (up (up (up (up (up (up (up (up (up (up (up (up (up (up (up (up (up (up (up (up σ386 88 b9) 89 (σ386 87)) 13 (σ386 87)) 91 c9) 92 d9) 93 (σ386 9)) 94 (σ386 87)) 95 e9) 90 e9) 96 f9) 97 g9) 14 i9) 15 g9) 99 j9) 100 k9) 98 k9) 101 l9) 102 m9) 16 l9) 17 m9) 103 g9) 104 n9) 105 n9) 106 p9) 107 q9) 108 r9) 109 r9) 110 s9) 111 t9) 112 w9) 113 x9) 114 y9) 115 z9) 116 b10) 4 (.bool false)) H427)
 (ob (vInt .add (σ386 87) (.int .i64 1)) fun c10 =>
 Q386 .normal (up (up (up (up (up (up (up (up (up (up (up (up (up (up (up (up (up (up (up (up (up (up (up (up (up (up (up (up (up (up (up (up (up (up (up (up σ386 88 b9) 89 (σ386 87)) 13 (σ386 87)) 91 c9) 92 d9) 93 (σ386 9)) 94 (σ386 87)) 95 e9) 90 e9) 96 f9) 97 g9) 14 i9) 15 g9) 99 j9) 100 k9) 98 k9) 101 l9) 102 m9) 16 l9) 17 m9) 103 g9) 104 n9) 105 n9) 106 p9) 107 q9) 108 r9) 109 r9) 110 s9) 111 t9) 112 w9) 113 x9) 114 y9) 115 z9) 116 b10) 117 c10) 87 c10) H427))
 (Q386 (.exit 0) (up σ386 88 b9) H386)) (blkQ 0 (thenQ J47 (retQ prg [(.tmp 4)] K))) (up (up (up (up (up (up (up (up (up (up (up (up (up (up (up (up (up (up (up (up (up (up (up (up (up (up (up (up (up (up (up (up (up (up (up (up (up (up (up (up (up (up (up (up (up (up (up (up (up (S0 [a0, a1]) 4 (.bool false)) 48 a0) 49 a1) 50 b) 51 a0) 52 c) 5 d) 53 a1) 54 e) 55 f) 6 f) 56 a1) 57 g) 58 i) 7 i) 59 a1) 60 f) 61 i) 62 j) 8 k) 63 a1) 64 l) 65 m) 9 m) 66 a1) 67 n) 10 n) 69 p) 70 q) 71 m) 72 n) 73 r) 68 r) 74 s) 75 t) 11 s) 12 t) 76 t) 77 w) 78 w) 79 x) 80 y) 81 z) 82 b0) 83 c0) 84 d0) 85 s) 86 z8) 87 (.int .i64 0)) H45))
def O.q4 : Nat → Nat × List Nat := fun i => bif Nat.beq i 59 then (0, [0, 1, 2, 3, 4, 5, 6, 7, 8]) else (0, [])
theorem R.q4 (h : F.q4 a0 a1 H K) : HT prg 4 [a0, a1].toArray H K :=
 HT_of_eq O.q4 mixed Tryz.func4 (by kernel_rfl) (by kernel_rfl) h
end Go.Proofs.YtnijdhlmimemcaaGreatDoor
/- All functions' texts. -/
/- What the small functions of lanes come to. -/
namespace Go.Proofs.YtnijdhlmimemcaaGreatDoor
open HL
variable {x lo hi : Int} {H : Hp} {K : Value → Hp → Prop} {a : Value} {l : List Int}
theorem C.c0 (hk : K (.bool (decide (lo ≤ x ∧ x ≤ hi))) H) : HT prg 38 [.int .i64 x, .int .i64 lo, .int .i64 hi].toArray H K := by
 refine R.q38 ?_
 unfold F.q38
 by_cases h : lo ≤ x
 simp only [vInt_geq, vInt_leq, ob_some, h, decide_true, gop_tt, vPick_t, true_and] at hk ⊢; exact hk
 simp only [vInt_geq, ob_some, h, decide_false, gop_ft, vPick_f, false_and] at hk ⊢; exact hk

theorem C.c1 (hk : K (.bool (decide (lo ≤ x ∧ x ≤ hi))) H) : HT prg 33 [.int .i64 x, .int .i64 lo, .int .i64 hi].toArray H K := by
 refine R.q33 ?_
 unfold F.q33
 by_cases h : lo ≤ x
 simp only [vInt_geq, vInt_leq, ob_some, h, decide_true, gop_tt, vPick_t, true_and] at hk ⊢; exact hk
 simp only [vInt_geq, ob_some, h, decide_false, gop_ft, vPick_f, false_and] at hk ⊢; exact hk

theorem C.c2 (ha : Sl eI H a l) (hl : l.length ≤ 9223372036854775807) (hk : K (.bool (decide (∀ x ∈ l, lo ≤ x ∧ x ≤ hi))) H) :
    HT prg 113 [a, .int .i64 lo, .int .i64 hi].toArray H K := by
 refine R.q113 ?_
 unfold F.q113 jn; dsimp only
 rw [ha.len, ob_some]
 refine ⟨fun n σ H1 => ∃ i : Nat, n = l.length - i ∧ i ≤ l.length ∧ H1 = H ∧ σ 1 = .int .i64 lo ∧ σ 2 = .int .i64 hi ∧ σ 9 = a ∧ σ 10 = .int .i64 l.length ∧ σ 11 = .int .i64 i ∧ ∀ x ∈ l.take i, lo ≤ x ∧ x ≤ hi,
    ⟨_, 0, rfl, by omega, rfl, rfl, rfl, rfl, rfl, rfl, by simp⟩, ?_⟩
 rintro n σ H1 ⟨i, rfl, hi', rfl, h1, h2, h9, h10, h11, hall⟩
 simp only [h1, h2, h9, h10, h11, vInt_lss, ob_some]
 refine cnd_d (fun hlt => ?_) (fun hge => ?_)
 have hlt' : i < l.length := by omega
 rw [ha.ix (by omega) hlt, ob_some, ha.ld 0 (by omega) hlt, ob_some]
 refine C.c1 ?_
 rw [vUn_not, ob_some]
 refine cnd_i (fun hb => ?_) (fun hb => ?_)
 refine retK (K := K) (v' := .bool false) rfl ?_
 rw [decide_eq_false] at hk
 exact hk
 intro hh
 have := hh _ (at_mem 0 l (i := i) (by omega) hlt)
 simp [this] at hb
 rw [vInt_add (by omega) (by omega), ob_some]
 refine nxt (l.length - (i + 1)) (by omega) ⟨i + 1, rfl, by omega, rfl, h1, h2, h9, h10, rfl, ?_⟩
 rw [take_at 0 l hlt']
 intro x hx
 rcases List.mem_append.mp hx with hx | hx
 exact hall x hx
 simp only [List.mem_singleton] at hx; subst hx; simpa using hb
 refine retK (K := K) (v' := .bool true) rfl ?_
 rw [decide_eq_true] at hk
 exact hk
 intro x hx
 rw [List.take_of_length_le (by omega)] at hall
 exact hall x hx

theorem C.c3 {n m : Int} (ha : Sl eI H a l) (hl : l.length ≤ 9223372036854775807)
    (hk : K (.bool (decide ((n ≤ l.length ∧ l.length ≤ m) ∧ ∀ x ∈ l, lo ≤ x ∧ x ≤ hi))) H) :
    HT prg 143 [a, .int .i64 n, .int .i64 m, .int .i64 lo, .int .i64 hi].toArray H K := by
 refine R.q143 ?_
 unfold F.q143
 rw [ha.len, ob_some]
 refine C.c1 ?_
 by_cases h : n ≤ l.length ∧ l.length ≤ m
 simp only [h, and_self, decide_true, gop_tt, true_and] at hk ⊢
 refine C.c2 ha hl ?_
 rw [vPick_t, ob_some]
 exact hk
 simp only [h, decide_false, gop_ft, vPick_f, ob_some, false_and] at hk ⊢
 exact hk

def isLane (l : List Int) : Prop := (1 ≤ (l.length : Int) ∧ (l.length : Int) ≤ 64) ∧ ∀ x ∈ l, -1 ≤ x ∧ x ≤ 5
instance (l : List Int) : Decidable (isLane l) := by unfold isLane; infer_instance
end Go.Proofs.YtnijdhlmimemcaaGreatDoor
/- Lists of truths: copies, and what is alike; lengths that are paid for. -/
namespace Go.Proofs.YtnijdhlmimemcaaGreatDoor
open HL
set_option maxRecDepth 100000
end Go.Proofs.YtnijdhlmimemcaaGreatDoor
/- Fields: which are valid, which are plain, and what lies where, round and round. -/
namespace Go.Proofs.YtnijdhlmimemcaaGreatDoor
open HL
variable {r c n a b i k : Int} {l : List Int} {p vc : Value} {H : Hp} {K : Value → Hp → Prop}
set_option maxRecDepth 100000
def sidesF (r c : Int) : Prop := (1 ≤ r ∧ r ≤ 24) ∧ (1 ≤ c ∧ c ≤ 24)
instance (r c : Int) : Decidable (sidesF r c) := by unfold sidesF; infer_instance
theorem sidesF_mul (h : sidesF r c) : 1 ≤ r * c ∧ r * c ≤ 576 := by
  obtain ⟨⟨h1, h2⟩, h3, h4⟩ := h
  have a := Int.mul_le_mul h2 h4 (by omega) (by omega)
  have b := Int.mul_le_mul h1 h3 (by omega) (by omega)
  omega
/-- A field whose cells are from 0 to n. -/
def fieldN (n r c : Int) (l : List Int) : Prop := sidesF r c ∧ (l.length : Int) = r * c ∧ ∀ x ∈ l, 0 ≤ x ∧ x ≤ n
instance (n r c : Int) (l : List Int) : Decidable (fieldN n r c l) := by unfold fieldN; infer_instance
theorem vInt_mulF (a b : Int) : vInt .mul (.int .i64 a) (.int .i64 b) = some (.int .i64 (IntKind.i64.wrap (a * b))) := by simp only [vInt, if_true]
theorem fieldN_len (h : fieldN n r c l) : l.length ≤ 576 := by
  have := sidesF_mul h.1
  have := h.2.1
  omega
theorem fieldN_at (h : fieldN n r c l) {i : Int} (h0 : 0 ≤ i) (hi : i < r * c) : 0 ≤ at_ 0 l i ∧ at_ 0 l i ≤ n :=
  h.2.2 _ (at_mem 0 l h0 (by rw [h.2.1]; exact hi))
theorem C.c4 (hp : Cel H p [.int .i64 r, .int .i64 c, vc]) (hc : Sl eI H vc l)
    (k1 : l.length ≤ 9223372036854775807) (hk : K (.bool (decide (fieldN 9 r c l))) H) : HT prg 42 [p].toArray H K := by
 refine R.q42 ?_
 unfold F.q42
 simp only [hp.nilC, hp.fa, hp.ld 0 rfl, ob_some]
 refine C.c0 ⟨Le.refl _, ?_⟩
 by_cases c1 : 1 ≤ r ∧ r ≤ 24
 simp only [decide_eq_true c1, hp.nilC, hp.fa, hp.ld 1 rfl, EV]
 refine C.c0 ⟨Le.refl _, ?_⟩
 by_cases c2 : 1 ≤ c ∧ c ≤ 24
 have hs : sidesF r c := ⟨c1, c2⟩
 have hm := sidesF_mul hs
 simp only [decide_eq_true c2, hp.nilC, hp.fa, hp.ld 2 rfl, hp.ld 0 rfl, hp.ld 1 rfl, hc.len, vInt_mulF, wrap64 (show -9223372036854775808 ≤ r * c by omega) (show r * c < 9223372036854775808 by omega), EV]
 by_cases c3 : (l.length : Int) = r * c
 have f3 : decide ((l.length : Int) ≠ r * c) = false := decide_eq_false (fun h => h c3)
 simp only [f3, EV]
 unfold jn; dsimp only
 refine ⟨fun n σ H1 => ∃ i : Nat, n = l.length - i ∧ i ≤ l.length ∧ H1 = H ∧ σ 0 = p ∧ σ 3 = .int .i64 i ∧ ∀ x ∈ l.take i, 0 ≤ x ∧ x ≤ 9, ⟨_, 0, rfl, by omega, rfl, rfl, rfl, by simp⟩, ?_⟩
 rintro n σ H1 ⟨i, rfl, hi', rfl, h0, h3, hall⟩
 simp only [h0, h3, hp.nilC, hp.fa, hp.ld 2 rfl, hc.len, vInt_lss, ob_some]
 refine cnd_d (fun hlt => ?_) (fun hge => ?_)
 have hlt' : i < l.length := by omega
 rw [hc.ix (by omega) hlt, ob_some, hc.ld 0 (by omega) hlt, ob_some]
 refine C.c0 ?_
 rw [vUn_not, ob_some]
 refine cnd_i (fun hb => ?_) (fun hb => ?_)
 refine retK (K := K) (v' := .bool false) rfl (kF (K := K) hk ?_)
 intro hh
 have := hh.2.2 _ (at_mem 0 l (i := i) (by omega) hlt)
 simp [this] at hb
 rw [vInt_add (by omega) (by omega), ob_some]
 refine nxt (l.length - (i + 1)) (by omega) ⟨i + 1, rfl, by omega, rfl, h0, rfl, ?_⟩
 rw [take_at 0 l hlt']
 intro x hx
 rcases List.mem_append.mp hx with hx | hx
 exact hall x hx
 simp only [List.mem_singleton] at hx; subst hx; simpa using hb
 rw [List.take_of_length_le (by omega)] at hall
 exact retK (K := K) (v' := .bool true) rfl (kT (K := K) hk ⟨hs, c3, hall⟩)
 have f3 : decide ((l.length : Int) ≠ r * c) = true := decide_eq_true c3
 simp only [f3, EV]; exact kF (K := K) hk (fun h => c3 h.2.1)
 simp only [decide_eq_false c2, EV]; exact kF (K := K) hk (fun h => c2 h.1.2)
 simp only [decide_eq_false c1, EV]; exact kF (K := K) hk (fun h => c1 h.1.1)

theorem C.c5 (hp : Cel H p [.int .i64 r, .int .i64 c, vc]) (hc : Sl eI H vc l)
    (k1 : l.length ≤ 9223372036854775807) (hk : K (.bool (decide (fieldN 1 r c l))) H) : HT prg 62 [p].toArray H K := by
 refine R.q62 ?_
 unfold F.q62
 refine C.c4 hp hc k1 ?_
 by_cases c1 : fieldN 9 r c l
 simp only [decide_eq_true c1, EV]
 unfold jn; dsimp only
 refine ⟨fun n σ H1 => ∃ i : Nat, n = l.length - i ∧ i ≤ l.length ∧ H1 = H ∧ σ 0 = p ∧ σ 3 = .int .i64 i ∧ ∀ x ∈ l.take i, x ≤ 1, ⟨_, 0, rfl, by omega, rfl, rfl, rfl, by simp⟩, ?_⟩
 rintro n σ H1 ⟨i, rfl, hi', rfl, h0, h3, hall⟩
 simp only [h0, h3, hp.nilC, hp.fa, hp.ld 2 rfl, hc.len, vInt_lss, ob_some]
 refine cnd_d (fun hlt => ?_) (fun hge => ?_)
 have hlt' : i < l.length := by omega
 rw [hc.ix (by omega) hlt, ob_some, hc.ld 0 (by omega) hlt, ob_some, vInt_gtr, ob_some]
 refine cnd_d (fun hb => ?_) (fun hb => ?_)
 refine retK (K := K) (v' := .bool false) rfl (kF (K := K) hk ?_)
 intro hh
 have := hh.2.2 _ (at_mem 0 l (i := i) (by omega) hlt)
 omega
 rw [vInt_add (by omega) (by omega), ob_some]
 refine nxt (l.length - (i + 1)) (by omega) ⟨i + 1, rfl, by omega, rfl, h0, rfl, ?_⟩
 rw [take_at 0 l hlt']
 intro x hx
 rcases List.mem_append.mp hx with hx | hx
 exact hall x hx
 simp only [List.mem_singleton] at hx; subst hx; omega
 rw [List.take_of_length_le (by omega)] at hall
 exact retK (K := K) (v' := .bool true) rfl (kT (K := K) hk ⟨c1.1, c1.2.1, fun x hx => ⟨(c1.2.2 x hx).1, hall x hx⟩⟩)
 simp only [decide_eq_false c1, EV]; exact kF (K := K) hk (fun h => c1 ⟨h.1, h.2.1, fun x hx => by have := h.2.2 x hx; omega⟩)

theorem C.c6 (hk : K (.bool (decide (1 ≤ r ∧ r ≤ 24))) H) : HT prg 31 [.int .i64 r].toArray H K := R.q31 (C.c1 hk)
theorem C.c7 (hc : Sl eI H vc l)
    (k1 : l.length ≤ 9223372036854775807) (hk : ∀ H', Le H H' → K (.bool (decide (fieldN 9 r c l))) H') : HT prg 115 [.agg #[.int .i64 r, .int .i64 c, vc]].toArray H K := by
 refine R.q115 ?_
 unfold F.q115
 refine nw_i (fun p H1 hp np le1 => ?_)
 replace hk := hk H1 le1
 simp only [hp.fa, hp.ld 0 rfl, hp.ld 1 rfl, vInt_mulF, ob_some]
 refine C.c6 ?_
 by_cases c1 : 1 ≤ r ∧ r ≤ 24
 simp only [decide_eq_true c1, hp.ld 1 rfl, EV]
 refine C.c6 ?_
 by_cases c2 : 1 ≤ c ∧ c ≤ 24
 have hs : sidesF r c := ⟨c1, c2⟩
 have hm := sidesF_mul hs
 simp only [decide_eq_true c2, hp.ld 2 rfl, wrap64 (show -9223372036854775808 ≤ r * c by omega) (show r * c < 9223372036854775808 by omega), EV]
 replace hc := hc.le le1
 refine C.c3 hc k1 ?_
 exact kQ (K := K) hk ⟨fun h => ⟨⟨by have := h.2.1; omega, by have := h.2.1; omega⟩, h.2.2⟩, fun h => ⟨hs, by omega, h.2⟩⟩
 simp only [decide_eq_false c2, EV]; exact kF (K := K) hk (fun h => c2 h.1.2)
 simp only [decide_eq_false c1, EV]; exact kF (K := K) hk (fun h => c1 h.1.1)

theorem C.c8 (hc : Sl eI H vc l)
    (k1 : l.length ≤ 9223372036854775807) (hk : ∀ H', Le H H' → K (.bool (decide (fieldN 1 r c l))) H') : HT prg 77 [.agg #[.int .i64 r, .int .i64 c, vc]].toArray H K := by
 refine R.q77 ?_
 unfold F.q77
 refine nw_i (fun p H1 hp np le1 => ?_)
 refine ob_i (hp.ldn rfl) (C.c7 (hc.le le1) k1 (fun H2 le2 => ?_))
 replace hk := hk H2 (le1.trans le2)
 by_cases c1 : fieldN 9 r c l
 replace hp := hp.le le2
 simp only [decide_eq_true c1, hp.fa, hp.ld 2 rfl, EV]
 replace hc := hc.le (le1.trans le2)
 refine C.c2 hc k1 ?_
 exact kQ (K := K) hk ⟨fun h => h.2.2, fun h => ⟨c1.1, c1.2.1, h⟩⟩
 simp only [decide_eq_false c1, EV]; exact kF (K := K) hk (fun h => c1 ⟨h.1, h.2.1, fun x hx => by have := h.2.2 x hx; omega⟩)

theorem fm_eq (hb : 0 < b) : (a.tmod b + b).tmod b = a % b := by
  have h0 : 0 ≤ a.tmod b + b := by have := Int.lt_tmod_of_pos a hb; omega
  rw [Int.tmod_eq_emod_of_nonneg h0, Int.tmod_def, show a - b * a.tdiv b + b = a + b * (1 - a.tdiv b) by rw [Int.mul_sub, Int.mul_one]; omega, Int.add_mul_emod_self_left]
theorem tmod_bnd (hb : 0 < b) : -b < a.tmod b ∧ a.tmod b < b := ⟨by have := Int.lt_tmod_of_pos a hb; omega, Int.tmod_lt_of_pos a hb⟩
/-- A place, round and round. -/
def roundF (r c i k : Int) : Int := i % r * c + k % c
theorem roundF_lt (h : sidesF r c) : 0 ≤ i % r ∧ i % r < r ∧ 0 ≤ k % c ∧ k % c < c ∧ 0 ≤ i % r * c ∧ i % r * c ≤ 576 ∧ 0 ≤ roundF r c i k ∧ roundF r c i k < r * c := by
  obtain ⟨⟨h1, h2⟩, h3, h4⟩ := h
  have a1 := Int.emod_nonneg i (b := r) (by omega)
  have a2 := Int.emod_lt_of_pos i (b := r) (by omega)
  have a3 := Int.emod_nonneg k (b := c) (by omega)
  have a4 := Int.emod_lt_of_pos k (b := c) (by omega)
  have a5 := Int.mul_nonneg (a := i % r) (b := c) a1 (by omega)
  have a6 := Int.mul_le_mul (a := i % r) (b := c) (c := r - 1) (d := c) (by omega) (by omega) (by omega) (by omega)
  rw [Int.sub_mul] at a6
  have a7 := Int.mul_le_mul h2 h4 (by omega) (by omega)
  unfold roundF
  omega
theorem C.c9 (hp : Cel H p [.int .i64 r, .int .i64 c, vc]) (hs : sidesF r c)
    (hk : K (.int .i64 (roundF r c i k)) H) : HT prg 117 [p, .int .i64 i, .int .i64 k].toArray H K := by
 refine R.q117 ?_
 unfold F.q117
 have b := roundF_lt (i := i) (k := k) hs
 have m := sidesF_mul hs
 obtain ⟨⟨h1, h2⟩, h3, h4⟩ := hs
 have t1 := tmod_bnd (a := i) (b := r) (by omega)
 have t2 := tmod_bnd (a := k) (b := c) (by omega)
 simp only [hp.nilC, hp.fa, hp.ld 0 rfl, hp.ld 1 rfl, ob_some]
 rw [vInt_rem (by omega), ob_some, vInt_add (by omega) (by omega), ob_some, vInt_rem (by omega), ob_some, vInt_rem (by omega), ob_some, vInt_add (by omega) (by omega), ob_some, vInt_rem (by omega), ob_some, fm_eq (by omega), fm_eq (by omega),
    vInt_mul (by omega) (by omega), ob_some, vInt_add (by unfold roundF at b; omega) (by unfold roundF at b; omega), ob_some]
 exact hk

theorem C.c10 (h0 : -1000000 ≤ a) (h1 : a ≤ 1000000) (h2 : 0 < b) (h3 : b ≤ 1000000) (hk : K (.int .i64 (a % b)) H) : HT prg 85 [.int .i64 a, .int .i64 b].toArray H K := by
 refine R.q85 ?_
 unfold F.q85
 have t1 := tmod_bnd (a := a) (b := b) h2
 rw [vInt_rem (by omega), ob_some, vInt_add (by omega) (by omega), ob_some, vInt_rem (by omega), ob_some, fm_eq h2]
 exact hk

theorem C.c11 (hc : Sl eI H vc l) (h0 : 0 ≤ i * c) (h1 : i * c ≤ 1000000) (h2 : 0 ≤ i * c + k) (h3 : i * c + k < l.length) (h4 : l.length ≤ 1000000)
    (hk : ∀ H', Le H H' → K (.int .i64 (at_ 0 l (i * c + k))) H') : HT prg 80 [.agg #[.int .i64 r, .int .i64 c, vc], .int .i64 i, .int .i64 k].toArray H K := by
 refine R.q80 ?_
 unfold F.q80
 refine nw_i (fun p H1 hp np le1 => ?_)
 simp only [hp.fa, hp.ld 1 rfl, hp.ld 2 rfl, ob_some]
 rw [vInt_mul (by omega) (by omega), ob_some, vInt_add (by omega) (by omega), ob_some, (hc.le le1).ix h2 h3, ob_some, (hc.le le1).ld 0 h2 h3, ob_some]
 exact hk _ le1

theorem C.c12 (hc : Sl eI H vc l) (hs : sidesF r c) (hl : (l.length : Int) = r * c) (i0 : -1000 ≤ i) (i1 : i ≤ 1000) (k0 : -1000 ≤ k) (k1 : k ≤ 1000)
    (hk : ∀ H', Le H H' → K (.int .i64 (at_ 0 l (roundF r c i k))) H') : HT prg 55 [.agg #[.int .i64 r, .int .i64 c, vc], .int .i64 i, .int .i64 k, .bool true].toArray H K := by
 refine R.q55 ?_
 unfold F.q55
 refine nw_i (fun p H1 hp np le1 => ?_)
 refine cnd_t1 ?_
 have b := roundF_lt (i := i) (k := k) hs
 have m := sidesF_mul hs
 have q1 := hs.1
 have q2 := hs.2
 refine ob_i (hp.ldn rfl) ?_
 simp only [hp.fa, hp.ld 0 rfl, hp.ld 1 rfl, ob_some]
 refine C.c10 (by omega) (by omega) (by omega) (by omega) ⟨Le.refl _, ?_⟩
 refine C.c10 (by omega) (by omega) (by omega) (by omega) ⟨Le.refl _, ?_⟩
 refine C.c11 (hc.le le1) (by omega) (by omega) (by unfold roundF at b; omega) (by rw [hl]; unfold roundF at b; omega) (by omega) (fun H2 le2 => ⟨le2, ?_⟩)
 exact hk _ (le1.trans le2)

end Go.Proofs.YtnijdhlmimemcaaGreatDoor
/- Rules for the walks that a program writes. -/
namespace Go.Proofs.YtnijdhlmimemcaaGreatDoor.HL
theorem ob_nd {p : Prop} [Decidable p] {K : Value → Prop} (h1 : p → K (.bool false)) (h2 : ¬ p → K (.bool true)) : ob (vUn .not (.bool (decide p))) K := by
  rw [vUn_not, ob_some]
  by_cases c : p
  · rw [decide_eq_true c]; exact h1 c
  · rw [decide_eq_false c]; exact h2 c
theorem vMx_max (k : IntKind) (a b : Int) : vMx true (.int k a) [.int k b] = some (.int k (max a b)) := by
  simp only [vMx]; congr 2; split <;> omega
theorem vMx_min (k : IntKind) (a b : Int) : vMx false (.int k a) [.int k b] = some (.int k (min a b)) := by
  simp only [vMx]; congr 2; split <;> omega
theorem vInt_quoN {a b : Int} (ha : 0 ≤ a) (ha' : a < 9223372036854775808) (hb : 0 < b) : vInt .quo (.int .i64 a) (.int .i64 b) = some (.int .i64 (a / b)) := by
  rw [vInt_quo hb (by omega) ha', Int.tdiv_eq_ediv_of_nonneg ha]
theorem vInt_remN {a b : Int} (ha : 0 ≤ a) (hb : 0 < b) : vInt .rem (.int .i64 a) (.int .i64 b) = some (.int .i64 (a % b)) := by
  rw [vInt_rem (by omega), Int.tmod_eq_emod_of_nonneg ha]
theorem Apart.ap2 {H : Hp} {x u u' : Value} (hx : ∀ b, bk x = some b → ∃ o, H b = some o) (ha : Apart x u) (hb : ∀ b, bk u' = some b → bk u = some b ∨ H b = none) : Apart x u' := fun b h1 h2 => by
  rcases hb b h2 with h | h
  · exact ha b h1 h
  · obtain ⟨o, ho⟩ := hx b h1; rw [h] at ho; simp at ho
theorem Nw.ap2 {H0 H : Hp} {u u' : Value} (hn : Nw H0 u) (hl : Le H0 H) (hb : ∀ b, bk u' = some b → bk u = some b ∨ H b = none) : Nw H0 u' := fun b h => by
  rcases hb b h with h1 | h1
  · exact hn b h1
  · cases ho : H0 b with
    | none => rfl
    | some o => rw [hl b o ho] at h1; simp at h1
theorem apd_any {α : Type} {enc : α → Value} {z : Value} {b : Nat} {e : TypeId} {u t : Value} {l m : List α} {H : Hp} {K : Value → Hp → Prop} (o : Own enc H u l) (ot : Sl enc H t m) (ho : ∀ x, oneCell (enc x) = true) (hb : b ≤ 64) (hl : l.length + m.length ≤ 68719476736)
    (hk : ∀ u' H', Own enc H' u' (l ++ m) → Off u H H' → (∀ b, bk u' = some b → bk u = some b ∨ H b = none) → K u' H') : apd 1 b #[z] e u t H K := by
  refine o.apd ot ho (by omega) (fun c hc => ?_) hk
  have := nsc_le hc
  exact Nat.le_trans (Nat.mul_le_mul this hb) (by omega)
end Go.Proofs.YtnijdhlmimemcaaGreatDoor.HL
/- Fields in slices: one of them. -/
namespace Go.Proofs.YtnijdhlmimemcaaGreatDoor
open HL
variable {v fv : Value} {q : Bool} {H : Hp} {K : Value → Hp → Prop}
/-- A field as it lies in cells. -/
structure Fv where
  r : Int
  c : Int
  v : Value
def fv0 : Fv := ⟨0, 0, .slice none 0 0⟩
def encFv (x : Fv) : List Value := [.int .i64 x.r, .int .i64 x.c, x.v]
theorem encFv_n (x : Fv) : (encFv x).length = 3 := rfl
theorem C.c13 {x : Fv} (hv : SlE 3 encFv H v [x])
    (hcl : ∀ H' (Z : Value → Hp → Prop), Le H H' → (∀ H'', Le H' H'' → Z (.bool q) H'') → callV prg fv [.agg (encFv x).toArray] H' Z) (hk : ∀ H', Le H H' → K (.int .i64 (if q then 0 else -1)) H') :
    HT prg 114 [v, fv].toArray H K := by
 refine R.q114 ?_
 unfold F.q114
 refine jn_i (fun σ' H' => q = false ∧ Le H H') (fun σ1 H1 hP => ?_) (fun J1 hJ1 => ?_)
 obtain ⟨hq, le⟩ := hP
 have := hk H1 le
 rw [hq] at this
 exact this
 refine ob_i hv.len ?_
 refine ⟨fun n σ H1 => ∃ i : Nat, n = 1 - i ∧ i ≤ 1 ∧ σ 0 = v ∧ σ 1 = fv ∧ σ 7 = .int .i64 1 ∧ σ 8 = .int .i64 i ∧ Le H H1 ∧ (i = 1 → q = false), ⟨_, 0, rfl, by omega, rfl, rfl, rfl, rfl, Le.refl H, by omega⟩, ?_⟩
 rintro n σ H1 ⟨i, rfl, hi, g0, g1, g7, g8, le, hq⟩
 simp only [g0, g1, g7, g8]
 refine ob_i (vInt_lss _ _ _) (cnd_d (fun hlt => ?_) (fun hge => ?_))
 obtain rfl : i = 0 := by omega
 refine ob_i ((hv.le le).ix encFv_n (by omega) (by omega) (by simp)) (ob_i ((hv.le le).ldn encFv_n (by omega) fv0 (by omega) (by simp)) (hcl H1 _ le (fun H2 le2 => ?_)))
 refine cnd_i (fun h => ?_) (fun h => ?_)
 refine retK (K := K) (v' := .int .i64 0) rfl ?_
 have := hk H2 (le.trans le2)
 rw [h] at this
 exact this
 exact ob_i (vInt_add (by omega) (by omega)) (nxt (1 - (0 + 1)) (by omega) ⟨0 + 1, rfl, by omega, g0, g1, g7, rfl, le.trans le2, fun _ => h⟩)
 exact hJ1 _ _ ⟨hq (by omega), le⟩

theorem C.c14 {x : Fv} (hv : SlE 3 encFv H v [x])
    (hcl : ∀ H' (Z : Value → Hp → Prop), Le H H' → (∀ H'', Le H' H'' → Z (.bool q) H'') → callV prg fv [.agg (encFv x).toArray] H' Z) (hk : ∀ H', Le H H' → K (.bool q) H') :
    HT prg 75 [v, fv].toArray H K := by
 refine R.q75 ?_
 unfold F.q75
 refine C.c13 hv hcl (fun H1 le => ?_)
 refine ob_i (vInt_geq _ _ _) ?_
 have := hk H1 le
 cases q <;> exact this

theorem C.c15 {vc : Value} {r c : Int} {l : List Int} (hvc : Sl eI H vc l) (k1 : l.length ≤ 9223372036854775807) (hk : ∀ H', Le H H' → K (.bool (!decide (fieldN 1 r c l))) H') :
    HT prg 76 [.agg #[.int .i64 r, .int .i64 c, vc]].toArray H K := by
 refine R.q76 ?_
 unfold F.q76
 refine nw_i (fun p H1 hp np le1 => ?_)
 refine ob_i (hp.ldn rfl) (C.c8 (hvc.le le1) k1 (fun H2 le2 => ?_))
 exact ob_i (vUn_not _) (hk _ (le1.trans le2))

end Go.Proofs.YtnijdhlmimemcaaGreatDoor
/- Slices of fields whose cells are owned. -/
namespace Go.Proofs.YtnijdhlmimemcaaGreatDoor
open HL
variable {w x u : Value} {H0 H H' : Hp} {K : Value → Hp → Prop}
set_option maxRecDepth 100000
namespace HL
/-- What has blocks: a slice or a pointer, or a set of blocks. -/
class Bks (α : Type) where inb : α → Nat → Prop
instance instBV : Bks Value := ⟨fun v b => bk v = some b⟩
def Rg : Type := Nat → Prop
instance instBR : Bks Rg := ⟨fun S b => S b⟩
def Apt {α β : Type} [Bks α] [Bks β] (u : α) (v : β) : Prop := ∀ b, Bks.inb u b → ¬ Bks.inb v b
def Kn {α : Type} [Bks α] (H : Hp) (u : α) : Prop := ∀ b, Bks.inb u b → ∃ o, H b = some o
def Nws (H : Hp) (S : Rg) : Prop := ∀ b, S b → H b = none
def OffS (S : Rg) (H H' : Hp) : Prop := ∀ b o, H b = some o → ¬ S b → H' b = some o
section
variable {α β : Type} [Bks α] [Bks β] {u : α} {v : β} {H H' : Hp} {S : Rg}
theorem Apt.symm (h : Apt u v) : Apt v u := fun b h1 h2 => h b h2 h1
theorem Apt.nil_r {c : Nat} : Apt u (Value.slice none c c) := fun b _ h => by
  have : bk (.slice none c c) = some b := h
  simp [bk] at this
theorem Apt.of_nws (hu : Kn H u) (hn : Nws H S) : Apt u S := fun b h1 h2 => by
  obtain ⟨o, ho⟩ := hu b h1
  rw [hn b h2] at ho; exact absurd ho (by simp)
theorem Apt.of_nw (hu : Kn H u) (hn : Nw H w) : Apt u w := fun b h1 h2 => by
  obtain ⟨o, ho⟩ := hu b h1
  rw [hn b h2] at ho; exact absurd ho (by simp)
theorem Nws.le (h : Nws H' S) (hl : Le H H') : Nws H S := fun b hb => by
  cases ho : H b with
  | none => rfl
  | some o => have := hl b o ho; rw [h b hb] at this; exact absurd this (by simp)
theorem OffS.le (h : OffS S H H') (hl : Le H0 H) (hn : Nws H0 S) : Le H0 H' := fun b o hb =>
  h b o (hl b o hb) (fun e => by rw [hn b e] at hb; exact absurd hb (by simp))
theorem OffS.trans {A B C : Hp} (h : OffS S A B) (h' : OffS S B C) : OffS S A C := fun b o hb hv => h' b o (h b o hb hv) hv
theorem OffS.of_le (h : Le H H') : OffS S H H' := fun b o hb _ => h b o hb
/-- What has no block of a set stays. -/
theorem OffS.off (h : OffS S H H') (ha : Apt w S) : ∀ b o, bk w = some b → H b = some o → H' b = some o := fun b o hb ho => h b o ho (ha b hb)
end
theorem Own.offS {α : Type} {enc : α → Value} {l : List α} {S : Rg} (h : Own enc H u l) (ho : OffS S H H') (ha : Apt u S) : Own enc H' u l := by
  obtain ⟨a, c, rfl, hc, hr⟩ := h
  refine ⟨a, c, rfl, hc, fun h0 => ?_⟩
  obtain ⟨b, off, cs, e, rfl, hb, hs, hcs⟩ := hr h0
  refine ⟨b, off, cs, e, rfl, ho b _ hb (ha b ?_), hs, hcs⟩
  show bk _ = some b
  simp only [bk]
  rw [if_neg (by omega)]
theorem Cel.offS {p : Value} {cs : List Value} {S : Rg} (h : Cel H p cs) (ho : OffS S H H') (ha : Apt p S) : Cel H' p cs := by
  obtain ⟨r, e, rfl, hr⟩ := h
  exact ⟨r, e, rfl, ho r _ hr (ha r rfl)⟩
theorem Ro.offS {α : Type} {enc : α → Value} {l : List α} {S : Rg} (h : Ro enc H u l) (ho : OffS S H H') (ha : Apt u S) : Ro enc H' u l := by
  obtain ⟨⟨a, c, rfl, hc, hr⟩, hk⟩ := h
  have key : ∀ b, bk (.slice a l.length c) = some b → H' b = H b := fun b hb => by
    obtain ⟨o, hbo⟩ := hk b hb
    rw [ho b o hbo (ha b hb), hbo]
  refine ⟨⟨a, c, rfl, hc, fun i hi => ?_⟩, fun b hb => by rw [key b hb]; exact hk b hb⟩
  obtain ⟨ad, rfl, hh⟩ := hr i hi
  refine ⟨ad, rfl, ?_⟩
  have e : H' (ad.add i).block = H (ad.add i).block := by
    rw [add_block]
    exact key _ (by simp only [bk]; rw [if_neg (by omega)])
  unfold Hp.cell? at hh ⊢
  rw [e]; exact hh
/-- A field. -/
structure FdL where
  r : Int
  c : Int
  l : List Int
  deriving DecidableEq
def fd0 : FdL := ⟨0, 0, []⟩
def RelF (P : Value → List Int → Prop) : List Fv → List FdL → Prop
  | [], [] => True
  | x :: L, f :: fs => (x.r = f.r ∧ x.c = f.c ∧ P x.v f.l) ∧ RelF P L fs
  | _, _ => False
section
variable {P Q : Value → List Int → Prop}
theorem RelF.len : ∀ {L : List Fv} {fs : List FdL}, RelF P L fs → L.length = fs.length
  | [], [], _ => rfl
  | x :: L, f :: fs, h => congrArg (· + 1) (RelF.len h.2)
  | [], _ :: _, h => h.elim
  | _ :: _, [], h => h.elim
theorem RelF.imp : ∀ {L : List Fv} {fs : List FdL}, RelF P L fs → (∀ x ∈ L, ∀ l, P x.v l → Q x.v l) → RelF Q L fs
  | [], [], _, _ => trivial
  | x :: L, f :: fs, h, g => ⟨⟨h.1.1, h.1.2.1, g x (by simp) _ h.1.2.2⟩, RelF.imp h.2 (fun y hy => g y (by simp [hy]))⟩
  | [], _ :: _, h, _ => h.elim
  | _ :: _, [], h, _ => h.elim
theorem RelF.app : ∀ {L M : List Fv} {fs gs : List FdL}, RelF P L fs → RelF P M gs → RelF P (L ++ M) (fs ++ gs)
  | [], M, [], gs, _, h => h
  | x :: L, M, f :: fs, gs, h1, h2 => ⟨h1.1, RelF.app h1.2 h2⟩
  | [], _, _ :: _, _, h, _ => h.elim
  | _ :: _, _, [], _, h, _ => h.elim
theorem RelF.get : ∀ {L : List Fv} {fs : List FdL} {i : Nat}, RelF P L fs → i < L.length → (at_ fv0 L (i : Int)).r = (at_ fd0 fs (i : Int)).r ∧ (at_ fv0 L (i : Int)).c = (at_ fd0 fs (i : Int)).c ∧ P (at_ fv0 L (i : Int)).v (at_ fd0 fs (i : Int)).l
  | [], [], i, _, hi => absurd hi (by simp)
  | x :: L, f :: fs, 0, h, _ => h.1
  | x :: L, f :: fs, i + 1, h, hi => RelF.get (L := L) (fs := fs) (i := i) h.2 (by simpa using hi)
  | [], _ :: _, _, h, _ => h.elim
  | _ :: _, [], _, h, _ => h.elim
end
/-- A slice of fields, whose blocks and those of its fields are owned. -/
def Fam (H : Hp) (v : Value) (S : Rg) (fs : List FdL) : Prop :=
  ∃ L, OwnE 3 encFv H v L ∧ RelF (Own eI H) L fs ∧ (∀ x ∈ L, Apart v x.v) ∧ L.Pairwise (fun x y => Apart x.v y.v) ∧ ∀ b, S b ↔ (bk v = some b ∨ ∃ x ∈ L, bk x.v = some b)
theorem RelF.mem {P : Value → List Int → Prop} : ∀ {L : List Fv} {fs : List FdL}, RelF P L fs → ∀ x ∈ L, ∃ l, P x.v l
  | [], [], _ => by simp
  | x :: L, f :: fs, h => fun y hy => by
    rcases List.mem_cons.mp hy with rfl | hy
    · exact ⟨_, h.1.2.2⟩
    · exact RelF.mem h.2 y hy
  | [], _ :: _, h => h.elim
  | _ :: _, [], h => h.elim
section
variable {H H' : Hp} {v : Value} {S : Rg} {fs : List FdL}
theorem Fam.known (h : Fam H v S fs) : Kn H S := by
  obtain ⟨L, h1, h2, h3, h4, h5⟩ := h
  intro b hb
  rcases (h5 b).mp hb with e | ⟨x, hx, e⟩
  · exact h1.known b e
  · obtain ⟨l, hl⟩ := h2.mem x hx
    exact hl.known b e
theorem Fam.le (h : Fam H v S fs) (hl : Le H H') : Fam H' v S fs := by
  obtain ⟨L, h1, h2, h3, h4, h5⟩ := h
  exact ⟨L, h1.le hl, h2.imp (fun _ _ _ h => h.le hl), h3, h4, h5⟩
theorem Fam.off {w : Value} (h : Fam H v S fs) (ho : Off w H H') (ha : Apt S w) : Fam H' v S fs := by
  obtain ⟨L, h1, h2, h3, h4, h5⟩ := h
  exact ⟨L, h1.off ho (fun b hb => ha b ((h5 b).mpr (.inl hb))), h2.imp (fun x hx _ h => h.off ho (fun b hb => ha b ((h5 b).mpr (.inr ⟨x, hx, hb⟩)))), h3, h4, h5⟩
theorem OwnE.offS {n : Nat} {α : Type} {enc : α → List Value} {l : List α} (h : OwnE n enc H u l) (ho : OffS S H H') (ha : Apt u S) : OwnE n enc H' u l := by
  obtain ⟨a, c, rfl, hc, hr⟩ := h
  refine ⟨a, c, rfl, hc, fun h0 => ?_⟩
  obtain ⟨b, off, cs, e, rfl, hb, hs, hcs⟩ := hr h0
  refine ⟨b, off, cs, e, rfl, ho b _ hb (ha b ?_), hs, hcs⟩
  show bk _ = some b
  simp only [bk]
  rw [if_neg (by omega)]
theorem Fam.offS {T : Rg} (h : Fam H v S fs) (ho : OffS T H H') (ha : Apt S T) : Fam H' v S fs := by
  obtain ⟨L, h1, h2, h3, h4, h5⟩ := h
  exact ⟨L, h1.offS ho (fun b hb => ha b ((h5 b).mpr (.inl hb))), h2.imp (fun x hx _ h => h.offS ho (fun b hb => ha b ((h5 b).mpr (.inr ⟨x, hx, hb⟩)))), h3, h4, h5⟩
theorem Fam.len (h : Fam H v S fs) : vLenSl v = some (.int .i64 fs.length) := by
  obtain ⟨L, h1, h2, _⟩ := h
  rw [h1.len, h2.len]
theorem Fam.one (h : Fam H v S fs) : oneCell v = true := by obtain ⟨L, h1, _⟩ := h; exact h1.one
theorem Fam.cells (h : Fam H v S fs) : v.cells = #[v] := by obtain ⟨L, h1, _⟩ := h; exact h1.cells
theorem Fam.isSl (h : Fam H v S fs) : ∃ a n c, v = .slice a n c := by obtain ⟨L, h1, _⟩ := h; exact h1.isSl
theorem Fam.cast {gs : List FdL} (e : fs = gs) (h : Fam H v S fs) : Fam H v S gs := e ▸ h
theorem Fam.nil_of (a : Option Addr) : Fam H (.slice a 0 0) (fun _ => False) [] :=
  ⟨[], OwnE.nil_of a, trivial, by simp, List.Pairwise.nil, fun b => ⟨fun h => h.elim, fun h => by
    rcases h with h | ⟨x, hx, _⟩
    · cases a <;> simp [bk] at h
    · simp at hx⟩⟩
/-- A new slice of fields. -/
theorem bSE_fam {z : Array Value} {e : TypeId} (hk : ∀ v S H', Fam H' v S [] → Nws H S → Le H H' → K v H') : bS 3 0 z e [] H K :=
  bSE_nil (n := 3) (enc := encFv) fun v H' ov nv hb le => hk v (fun _ => False) H' ⟨[], ov, trivial, by simp, List.Pairwise.nil, fun b => ⟨fun h => h.elim, fun h => by
    rcases h with h | ⟨x, hx, _⟩
    · rw [hb] at h; simp at h
    · simp at hx⟩⟩ (fun b h => h.elim) le
/-- One more. -/
theorem Fam.push {bytes : Nat} {z : Array Value} {e : TypeId} {r c : Int} {l : List Int} (h : Fam H v S fs) (hz : z.size = 3) (hw : SlE 3 encFv H w [⟨r, c, x⟩]) (hx : Own eI H x l) (ax : Apt x S)
    (hb : bytes ≤ 64) (hl : fs.length < 1000000)
    (hk : ∀ v' S' H', Fam H' v' S' (fs ++ [⟨r, c, l⟩]) → OffS S H H' → (∀ b, S' b → S b ∨ bk x = some b ∨ H b = none) → (∀ b, bk x = some b → S' b) → Own eI H' x l → K v' H') : apd 3 bytes z e v w H K := by
  obtain ⟨L, h1, h2, h3, h4, h5⟩ := h
  have hlen := h2.len
  have axv : Apart x v := fun b hb hv => ax b hb ((h5 b).mpr (.inl hv))
  refine OwnE.apd h1 encFv_n hz hw (fun y hy t ht => ?_) hb (by simp; omega) (fun v' H' ov off hb' => ?_)
  · simp only [List.mem_singleton] at hy
    subst hy
    simp only [encFv, List.mem_cons, List.not_mem_nil, or_false] at ht
    rcases ht with rfl | rfl | rfl
    · rfl
    · rfl
    · exact hx.one
  have ax' : ∀ y ∈ L, Apart v' y.v := fun y hy b e1 e2 => by
    rcases hb' b e1 with e3 | e3
    · exact h3 y hy b e3 e2
    · obtain ⟨m, hm⟩ := h2.mem y hy
      obtain ⟨o, ho⟩ := hm.known b e2
      rw [e3] at ho; simp at ho
  have axx : Apart v' x := fun b e1 e2 => by
    rcases hb' b e1 with e3 | e3
    · exact axv b e2 e3
    · obtain ⟨o, ho⟩ := hx.known b e2
      rw [e3] at ho; simp at ho
  have hx' := hx.off off axv
  refine hk v' (fun b => bk v' = some b ∨ ∃ y ∈ L ++ [⟨r, c, x⟩], bk y.v = some b) H' ⟨_, ov, ?_, ?_, ?_, fun b => Iff.rfl⟩ (fun b o hbo hn => off b o hbo (fun e => hn ((h5 b).mpr (.inl e)))) ?_ (fun b hb => .inr ⟨⟨r, c, x⟩, by simp, hb⟩) hx'
  · exact (h2.imp (fun y hy m h => h.off off (h3 y hy).symm)).app ⟨⟨rfl, rfl, hx'⟩, trivial⟩
  · intro y hy
    rcases List.mem_append.mp hy with hy | hy
    · exact ax' y hy
    · simp only [List.mem_singleton] at hy; subst hy; exact axx
  · rw [List.pairwise_append]
    refine ⟨h4, List.pairwise_singleton _ _, fun y hy t ht => ?_⟩
    simp only [List.mem_singleton] at ht
    subst ht
    exact fun b e1 e2 => ax b e2 ((h5 b).mpr (.inr ⟨y, hy, e1⟩))
  · intro b hb
    rcases hb with hb | ⟨y, hy, e⟩
    · rcases hb' b hb with e3 | e3
      · exact .inl ((h5 b).mpr (.inl e3))
      · exact .inr (.inr e3)
    · rcases List.mem_append.mp hy with hy | hy
      · exact .inl ((h5 b).mpr (.inr ⟨y, hy, e⟩))
      · simp only [List.mem_singleton] at hy; subst hy; exact .inr (.inl e)
/-- Apart from what was pushed to. -/
theorem Apt.push {α : Type} [Bks α] {u : α} {S' : Rg} {x : Value} (hu : Kn H u) (hS : Apt u S) (hx : Apt u x) (hb : ∀ b, S' b → S b ∨ bk x = some b ∨ H b = none) : Apt u S' := fun b h1 h2 => by
  rcases hb b h2 with h | h | h
  · exact hS b h1 h
  · exact hx b h1 h
  · obtain ⟨o, ho⟩ := hu b h1
    rw [h] at ho; simp at ho
theorem Nws.push {S' : Rg} (hl : Le H0 H) (hS : Nws H0 S) (hx : Nw H0 x) (hb : ∀ b, S' b → S b ∨ bk x = some b ∨ H b = none) : Nws H0 S' := fun b h2 => by
  rcases hb b h2 with h | h | h
  · exact hS b h
  · exact hx b h
  · cases ho : H0 b with
    | none => rfl
    | some o => rw [hl b o ho] at h; simp at h
end
end HL
end Go.Proofs.YtnijdhlmimemcaaGreatDoor
/- Maps from texts to numbers, as owned things. -/
namespace Go.Proofs.YtnijdhlmimemcaaGreatDoor.HL
set_option maxRecDepth 100000
/-- The entries of a map, told as texts and numbers. -/
def entsS (es : List MapEntry) : List (ByteArray × Int) → Prop := fun ms => es.map (fun e => (e.key, e.val)) = ms.map (fun m => (Value.string m.1, Value.int .i64 m.2))
theorem entsS_keys {es : List MapEntry} {ms : List (ByteArray × Int)} (h : entsS es ms) : keysS es := fun e he => by
  have : (e.key, e.val) ∈ es.map (fun e => (e.key, e.val)) := List.mem_map.mpr ⟨e, he, rfl⟩
  rw [h] at this
  obtain ⟨m, _, hm⟩ := List.mem_map.mp this
  exact ⟨m.1, by injection hm with h1 _; exact h1.symm⟩
/-- A map that is owned. -/
def Mp (H : Hp) (p : Value) (S : Rg) (ms : List (ByteArray × Int)) : Prop := ∃ r es c, p = .map (some r) ∧ H r = some (.map es c) ∧ entsS es.toList ms ∧ ∀ b, S b ↔ b = r
section
variable {H H' : Hp} {p : Value} {S : Rg} {ms : List (ByteArray × Int)}
theorem Mp.known (h : Mp H p S ms) : Kn H S := by
  obtain ⟨r, es, c, _, hr, _, hS⟩ := h
  intro b hb
  rw [(hS b).mp hb]; exact ⟨_, hr⟩
theorem Mp.le (h : Mp H p S ms) (hl : Le H H') : Mp H' p S ms := by
  obtain ⟨r, es, c, e, hr, he, hS⟩ := h
  exact ⟨r, es, c, e, hl r _ hr, he, hS⟩
theorem Mp.off {w : Value} (h : Mp H p S ms) (ho : Off w H H') (ha : Apt S w) : Mp H' p S ms := by
  obtain ⟨r, es, c, e, hr, he, hS⟩ := h
  exact ⟨r, es, c, e, ho r _ hr (ha r ((hS r).mpr rfl)), he, hS⟩
theorem Mp.offS {T : Rg} (h : Mp H p S ms) (ho : OffS T H H') (ha : Apt S T) : Mp H' p S ms := by
  obtain ⟨r, es, c, e, hr, he, hS⟩ := h
  exact ⟨r, es, c, e, ho r _ hr (ha r ((hS r).mpr rfl)), he, hS⟩
/-- A new map. -/
theorem Mp.new_ {K : Value → Hp → Prop} (hk : ∀ p S H', Mp H' p S [] → Nws H S → Le H H' → K p H') : opEv.nwM H K := fun r hr =>
  hk (.map (some r)) (fun b => b = r) (H.put r (.map #[] 0)) ⟨r, #[], 0, rfl, Hp.put_same _ _ _, rfl, fun _ => Iff.rfl⟩ (fun b hb => by have : b = r := hb; rw [this]; exact hr) (Le.put _ hr)
/-- What the map has at a text. -/
def mget (k : ByteArray) : List (ByteArray × Int) → Option Int
  | [] => none
  | m :: ms => bif k == m.1 then some m.2 else mget k ms
theorem findS_mget (k : ByteArray) : ∀ (es : List MapEntry) (ms : List (ByteArray × Int)) (i : Nat), entsS es ms → (findS k es i).map Prod.snd = (mget k ms).map (Value.int .i64)
  | [], [], _, _ => rfl
  | e :: es, m :: ms, i, h => by
    simp only [entsS, List.map_cons, List.cons.injEq, Prod.mk.injEq] at h
    obtain ⟨⟨h1, h2⟩, h3⟩ := h
    have ih := findS_mget k es ms (i + 1) h3
    unfold findS mget
    rw [h1]
    simp only [keyIs]
    cases k == m.1
    · exact ih
    · simp [h2]
  | [], _ :: _, _, h => by simp [entsS] at h
  | _ :: _, [], _, h => by simp [entsS] at h
theorem Mp.look {P : Program} {t kt et : TypeId} {k : ByteArray} {K : Value → Hp → Prop} (h : Mp H p S ms) (ht : P.underlying t = some (.map kt et)) (hk : P.underlying kt = some .string) (hz : zeroO P et = some (.int .i64 0))
    (hK : K (.tuple #[.int .i64 ((mget k ms).getD 0), .bool (mget k ms).isSome]) H) : hp P (Instr.lookup t p (.string k) true) H K := by
  obtain ⟨r, es, c, rfl, hr, he, hS⟩ := h
  refine hp_lookup ht hk hz hr (entsS_keys he) ?_
  have e := findS_mget k es.toList ms 0 he
  cases hf : findS k es.toList 0 with
  | none =>
    rw [hf] at e
    cases hm : mget k ms with
    | none => rw [hm] at hK; exact hK
    | some v => rw [hm] at e; simp at e
  | some x =>
    rw [hf] at e
    cases hm : mget k ms with
    | none => rw [hm] at e; simp at e
    | some v =>
      rw [hm] at hK e
      simp only [Option.map_some, Option.some.injEq] at e
      simp only [e]; exact hK
/-- One more entry. -/
theorem Mp.add {P : Program} {t kt et : TypeId} {k : ByteArray} {x : Int} {K : Unit → Hp → Prop} (h : Mp H p S ms) (ht : P.underlying t = some (.map kt et)) (hk : P.underlying kt = some .string) (hn : mget k ms = none)
    (hK : ∀ H', Mp H' p S (ms ++ [(k, x)]) → OffS S H H' → K () H') : hp P (Instr.mapUpdate t p (.string k) (.int .i64 x)) H K := by
  obtain ⟨r, es, c, rfl, hr, he, hS⟩ := h
  have e := findS_mget k es.toList ms 0 he
  have hf : findS k es.toList 0 = none := by
    rw [hn] at e
    cases h : findS k es.toList 0 with
    | none => rfl
    | some x => rw [h] at e; simp at e
  refine hp_mapUpdate_new ht hk hr (entsS_keys he) hf ?_
  refine hK _ ⟨r, _, c + 1, rfl, Hp.put_same _ _ _, ?_, hS⟩ (fun b o hb hn => ?_)
  · unfold entsS at he ⊢
    rw [Array.toList_push, List.map_append, he, List.map_append]; rfl
  · rw [Hp.put_ne _ _ (by rintro rfl; exact hn ((hS _).mpr rfl))]; exact hb
end
end Go.Proofs.YtnijdhlmimemcaaGreatDoor.HL
/- Bytes in slices. -/
namespace Go.Proofs.YtnijdhlmimemcaaGreatDoor.HL
abbrev eU : Int → Value := .int .u8
/-- Numbers that are bytes. -/
def bytP (l : List Int) : Prop := ∀ x ∈ l, 0 ≤ x ∧ x ≤ 255
end Go.Proofs.YtnijdhlmimemcaaGreatDoor.HL
/- Bytes told as texts. -/
namespace Go.Proofs.YtnijdhlmimemcaaGreatDoor.HL
set_option maxRecDepth 100000
def bytesS (s : ByteArray) (l : List Int) : ByteArray := l.foldl (fun s n => s.push (UInt8.ofNat n.toNat)) s
theorem val_bytesFrom (P : Program) (H : Hp) : ∀ (l : List Int) (s : ByteArray),
    val P (forIn (l.map eU) s fun c r => (match c with
      | Value.int IntKind.u8 n => pure (ForInStep.yield (r.push (UInt8.ofNat n.toNat)))
      | _ => do
        stuck "bytesToString: byte expected"
        pure (ForInStep.yield r) : Sem (ForInStep ByteArray))) H = some (bytesS s l)
  | [], s => rfl
  | n :: l, s => by
    simp only [List.map_cons, List.forIn_cons, val_bind', val_pure, Option.bind_some]
    exact val_bytesFrom P H l _
theorem val_bytesToString {P : Program} {H : Hp} {v : Value} {l : List Int} (h : Sl eU H v l) : val P (Conv.bytesToString v) H = some (.string (bytesS .empty l)) := by
  have hf := h.firstC
  obtain ⟨a, c, rfl, hc, hr⟩ := h
  cases a with
  | none =>
    have : l = [] := by
      cases l with
      | nil => rfl
      | cons x r => obtain ⟨ad, e, _⟩ := hr 0 (by simp); simp at e
    subst this
    rfl
  | some ad =>
    simp only [HL.firstC, Nat.mul_one] at hf
    unfold Conv.bytesToString
    simp only [val_bind', val_loadCells P H ad l.length _ hf, Option.bind_some]
    have := val_bytesFrom P H l .empty
    simp only [List.forIn_toArray]
    exact Eq.trans (congrArg (fun o => Option.bind o (fun v => val P (pure (Value.string v)) H)) this) rfl
theorem bytesS_data : ∀ (l : List Int) (s : ByteArray), (bytesS s l).data.toList = s.data.toList ++ l.map fun n => UInt8.ofNat n.toNat
  | [], s => by simp [bytesS]
  | n :: l, s => by
    have := bytesS_data l (s.push (UInt8.ofNat n.toNat))
    simp only [bytesS, List.foldl_cons, List.map_cons] at this ⊢
    rw [this, ByteArray.data_push, Array.toList_push, List.append_assoc]; rfl
theorem bytesS_inj {l m : List Int} (hl : ∀ x ∈ l, 0 ≤ x ∧ x ≤ 255) (hm : ∀ x ∈ m, 0 ≤ x ∧ x ≤ 255) (h : bytesS .empty l = bytesS .empty m) : l = m := by
  have e := congrArg (fun b => b.data.toList) h
  simp only [bytesS_data] at e
  have e2 := List.append_cancel_left e
  clear e h
  induction l generalizing m with
  | nil => cases m with
    | nil => rfl
    | cons y m => simp at e2
  | cons x l ih => cases m with
    | nil => simp at e2
    | cons y m =>
      simp only [List.map_cons, List.cons.injEq] at e2
      have b1 := hl x (by simp)
      have b2 := hm y (by simp)
      have e3 : x = y := by
        have := congrArg UInt8.toNat e2.1
        simp only [UInt8.toNat_ofNat'] at this
        omega
      rw [e3, ih (fun z hz => hl z (by simp [hz])) (fun z hz => hm z (by simp [hz])) e2.2]
theorem beq_bytes (a b : ByteArray) : (a == b) = decide (a = b) := by
  have e : (a == b) = (a.data == b.data) := rfl
  rw [e, Bool.eq_iff_iff, decide_eq_true_eq, beq_iff_eq]
  exact ⟨fun h => ByteArray.ext h, fun h => congrArg ByteArray.data h⟩
end Go.Proofs.YtnijdhlmimemcaaGreatDoor.HL
/- Lanes that are switched: what the program's and the reference's functions come to. -/
namespace Go.Proofs.YtnijdhlmimemcaaGreatDoor
open HL
set_option maxRecDepth 100000
/-- May the car at i leave lane a for lane b? -/
def chg (a b : List Int) (i : Int) : Prop :=
  0 ≤ at_ 0 a i ∧ 0 ≤ at_ 0 a ((i + 1).tmod a.length) ∧ at_ 0 b i < 0 ∧ at_ 0 b ((i + 1).tmod a.length) < 0 ∧ at_ 0 b ((i + a.length - 1).tmod a.length) < 0
instance (a b : List Int) (i : Int) : Decidable (chg a b i) := by unfold chg; infer_instance
theorem C.c16 {a : Value} {l : List Int} {H : Hp} {K : Value → Hp → Prop} (ha : Sl eI H a l) (hl : l.length ≤ 68719476736) (hk : ∀ v H', Own eI H' v l → Nw H v → Le H H' → K v H') :
    HT prg 119 [a].toArray H K := by
 refine R.q119 ?_
 unfold F.q119
 obtain ⟨p, c, rfl, hc, hr⟩ := id ha
 show cnd (.bool p.isNone) _ _
 cases p with
 | none =>
    have : l = [] := by
      cases l with
      | nil => rfl
      | cons x r => obtain ⟨ad, h, _⟩ := hr 0 (by simp); cases h
    subst this
    exact hk _ H ⟨none, 0, rfl, by simp, fun h => absurd h (by simp)⟩ (fun b hb => by simp [bk] at hb) (Le.refl H)
 | some p => exact clone_i (b := 8) ha (fun _ => rfl) (by omega) hl (fun _ => hk)

def okSw (l m : List Int) : Prop := isLane l ∧ isLane m ∧ l.length = m.length
instance (l m : List Int) : Decidable (okSw l m) := by unfold okSw; infer_instance
end Go.Proofs.YtnijdhlmimemcaaGreatDoor
/- What the small functions of structs come to: copies, sizes, what is alike. -/
namespace Go.Proofs.YtnijdhlmimemcaaGreatDoor
open HL
set_option maxRecDepth 100000
end Go.Proofs.YtnijdhlmimemcaaGreatDoor
/- Slices of fields that are compared, marked and held. -/
namespace Go.Proofs.YtnijdhlmimemcaaGreatDoor
open HL
set_option maxRecDepth 100000
namespace HL
theorem at_get {α : Type} (d : α) {l : List α} {i : Nat} (h : i < l.length) : at_ d l (i : Int) = l[i] := by
  unfold at_; rw [List.getD_eq_getElem?_getD, Int.toNat_natCast, List.getElem?_eq_getElem h]; rfl
/-- A new row of elements. -/
theorem bSE_i {α : Type} {enc : α → List Value} {n len : Nat} {z : Array Value} {e : TypeId} {parts : List (Nat × Value)} {l : List α} {H : Hp} {K : Value → Hp → Prop} (h1 : len * n ≤ 1000000) (hl : l.length = len) (hn : ∀ x, (enc x).length = n)
    (hf : Instr.fill (fun i => some (i * n, n)) (if len * n = 0 then #[] else zrow z (len * n)) parts = some (l.flatMap enc).toArray) (hk : ∀ v H', OwnE n enc H' v l → Nw H v → Le H H' → K v H') : bS n len z e parts H K := by
  refine ⟨by omega, ?_⟩
  rw [hf]
  intro r hr
  subst hl
  have fl := flat_len hn l
  refine hk _ _ ⟨some ⟨r, 0, none⟩, l.length, rfl, Nat.le_refl _, fun _ => ⟨r, 0, _, e, rfl, Hp.put_same _ _ _, by simp only [List.size_toArray]; omega, fun i hi => by simp []⟩⟩ ?_ (Le.put _ hr)
  intro b hb
  simp only [bk] at hb
  split at hb
  · simp at hb
  · simp only [Option.some.injEq] at hb; subst hb; exact hr
/-- Fields that are read. -/
def FamS (H : Hp) (v : Value) (fs : List FdL) : Prop := ∃ L, SlE 3 encFv H v L ∧ RelF (Sl eI H) L fs
section
variable {H H' : Hp} {v : Value} {S : Rg} {fs : List FdL}
theorem Fam.sl (h : Fam H v S fs) : FamS H v fs := by
  obtain ⟨L, h1, h2, _⟩ := h
  exact ⟨L, h1.sl encFv_n, h2.imp (fun _ _ _ h => h.sl)⟩
theorem FamS.le (h : FamS H v fs) (hl : Le H H') : FamS H' v fs := by
  obtain ⟨L, h1, h2⟩ := h
  exact ⟨L, h1.le hl, h2.imp (fun _ _ _ h => h.le hl)⟩
theorem FamS.len (h : FamS H v fs) : vLenSl v = some (.int .i64 fs.length) := by
  obtain ⟨L, h1, h2⟩ := h
  rw [h1.len, h2.len]
theorem FamS.one (h : FamS H v fs) : oneCell v = true := by obtain ⟨L, h1, _⟩ := h; exact h1.one
theorem FamS.cells (h : FamS H v fs) : v.cells = #[v] := by obtain ⟨L, h1, _⟩ := h; exact h1.cells
theorem FamS.cast {gs : List FdL} (e : fs = gs) (h : FamS H v fs) : FamS H v gs := e ▸ h
theorem FamS.ix (h : FamS H v fs) {i : Int} (h0 : 0 ≤ i) (h1 : i < fs.length) : vIx 3 v (.int .i64 i) = some (ptrE 3 v i) := by
  obtain ⟨L, g1, g2⟩ := h
  exact g1.ix encFv_n (by omega) h0 (by rw [g2.len]; exact h1)
theorem FamS.at_ (h : FamS H v fs) {i : Nat} (h1 : i < fs.length) : ∃ x, vLoadN 3 (ptrE 3 v i) H = some (.agg #[.int .i64 (at_ fd0 fs (i : Int)).r, .int .i64 (at_ fd0 fs (i : Int)).c, x]) ∧ Sl eI H x (at_ fd0 fs (i : Int)).l ∧
    vLoad (fp (ptrE 3 v i) 0) H = some (.int .i64 (at_ fd0 fs (i : Int)).r) ∧ vLoad (fp (ptrE 3 v i) 1) H = some (.int .i64 (at_ fd0 fs (i : Int)).c) ∧ vLoad (fp (ptrE 3 v i) 2) H = some x ∧ vFa 0 (ptrE 3 v i) = some (fp (ptrE 3 v i) 0) ∧ vFa 1 (ptrE 3 v i) = some (fp (ptrE 3 v i) 1) ∧ vFa 2 (ptrE 3 v i) = some (fp (ptrE 3 v i) 2) := by
  obtain ⟨L, g1, g2⟩ := h
  have hi : (i : Int) < L.length := by rw [g2.len]; omega
  obtain ⟨e1, e2, e3⟩ := g2.get (i := i) (by omega)
  have e := g1.ldn encFv_n (by omega) fv0 (i := (i : Int)) (by omega) hi
  refine ⟨_, ?_, e3, ?_, ?_, ?_, g1.fa encFv_n (by omega) (by omega) hi 0, g1.fa encFv_n (by omega) (by omega) hi 1, g1.fa encFv_n (by omega) (by omega) hi 2⟩
  · rw [e]; simp only [encFv, e1, e2]
  · rw [g1.ld encFv_n (by omega) fv0 (by omega) hi (k := 0) (by omega) rfl, e1]
  · rw [g1.ld encFv_n (by omega) fv0 (by omega) hi (k := 1) (by omega) rfl, e2]
  · exact g1.ld encFv_n (by omega) fv0 (by omega) hi (k := 2) (by omega) rfl
theorem RelF.set : ∀ {P : Value → List Int → Prop} {L : List Fv} {fs : List FdL} {i : Nat} {x : Fv} {f : FdL}, RelF P L fs → (x.r = f.r ∧ x.c = f.c ∧ P x.v f.l) → RelF P (L.set i x) (fs.set i f)
  | P, [], [], i, x, f, _, _ => trivial
  | P, y :: L, g :: fs, 0, x, f, h, hx => ⟨hx, h.2⟩
  | P, y :: L, g :: fs, i + 1, x, f, h, hx => ⟨h.1, RelF.set h.2 hx⟩
  | _, [], _ :: _, _, _, _, h, _ => h.elim
  | _, _ :: _, [], _, _, _, h, _ => h.elim
theorem RelF.gete {P : Value → List Int → Prop} {L : List Fv} {fs : List FdL} {i : Nat} (h : RelF P L fs) (h1 : i < L.length) (h2 : i < fs.length) : L[i].r = fs[i].r ∧ L[i].c = fs[i].c ∧ P L[i].v fs[i].l := by
  have := h.get h1
  rw [at_get fv0 h1, at_get fd0 h2] at this
  exact this
/-- The cells of one of them, and what is put back. -/
theorem Fam.cut (h : Fam H v S fs) {i : Nat} (hi : i < fs.length) : ∃ x, vLoad (fp (ptrE 3 v (i : Int)) 2) H = some x ∧ Own eI H x fs[i].l ∧ ∀ H' m, Own eI H' x m → Off x H H' → Fam H' v S (fs.set i ⟨fs[i].r, fs[i].c, m⟩) ∧ OffS S H H' := by
  obtain ⟨L, h1, h2, h3, h4, h5⟩ := h
  have hi' : i < L.length := by rw [h2.len]; exact hi
  have g := h2.gete hi' hi
  have hx : ∀ b, bk L[i].v = some b → S b := fun b hb => (h5 b).mpr (.inr ⟨_, List.getElem_mem hi', hb⟩)
  refine ⟨L[i].v, ?_, g.2.2, fun H' m om off => ⟨⟨L, h1.off off (h3 _ (List.getElem_mem hi')), ?_, h3, h4, h5⟩, fun b o hb hn => off b o hb (fun e => hn (hx b e))⟩⟩
  · have := (h1.sl encFv_n).ld encFv_n (by omega) fv0 (i := (i : Int)) (by omega) (by omega) (k := 2) (by omega) (x := L[i].v) (by rw [at_get fv0 hi']; rfl)
    exact this
  · have key : ∀ (L : List Fv) (fs : List FdL) (i : Nat) (hi : i < L.length) (hi2 : i < fs.length), RelF (Own eI H) L fs → L.Pairwise (fun x y => Apart x.v y.v) → Off L[i].v H H' → Own eI H' L[i].v m → RelF (Own eI H') L (fs.set i ⟨fs[i].r, fs[i].c, m⟩) := by
      intro L
      induction L with
      | nil => intro fs i hi; simp at hi
      | cons x L ih =>
        intro fs i hi hi2 hr hp hoff ho
        cases fs with
        | nil => simp at hi2
        | cons f fs =>
          rw [List.pairwise_cons] at hp
          cases i with
          | zero =>
            refine ⟨⟨hr.1.1, hr.1.2.1, ho⟩, hr.2.imp (fun y hy _ h => h.off hoff (fun b e1 e2 => hp.1 y hy b e2 e1))⟩
          | succ i =>
            have hi3 : i < L.length := by simpa using hi
            refine ⟨⟨hr.1.1, hr.1.2.1, hr.1.2.2.off hoff (hp.1 _ (List.getElem_mem hi3))⟩, ih fs i hi3 (by simpa using hi2) hr.2 hp.2 hoff ho⟩
    exact key L fs i hi' hi h2 h4 off om
end
end HL
end Go.Proofs.YtnijdhlmimemcaaGreatDoor
/- Pointers that are only read; elements of a family; texts as keys. -/
namespace Go.Proofs.YtnijdhlmimemcaaGreatDoor
open HL
variable {H : Hp} {v u x p : Value} {c : Int} {l : List Int} {K : Value → Hp → Prop}
set_option maxRecDepth 100000
namespace HL
/-- What follows a call, by a name. -/
theorem HTk {P : Program} {f : FuncId} {args : Array Value} {K0 : Value → Hp → Prop} (h : ∀ K, (∀ v H', K0 v H' → K v H') → HT P f args H K) : HT P f args H K0 := h K0 (fun _ _ h => h)
/-- A pointer to cells that are read. -/
def CelR (H : Hp) (p : Value) (cs : List Value) : Prop := ∃ a, p = .pointer (some a) ∧ (∃ o, H a.block = some o) ∧ ∀ i (h : i < cs.length), H.cell? (a.add i) = some cs[i]
section
variable {H H' : Hp} {p u v : Value} {cs : List Value}
theorem Cel.r (h : Cel H p cs) : CelR H p cs := by
  obtain ⟨r, e, rfl, hr⟩ := h
  refine ⟨_, rfl, ⟨_, hr⟩, fun i hi => ?_⟩
  simp only [add_none, Hp.cell?, hr, Nat.zero_add]
  simp [hi]
theorem CelR.known (h : CelR H p cs) : ∀ b, bk p = some b → ∃ o, H b = some o := by
  obtain ⟨a, rfl, ho, _⟩ := h
  intro b hb
  simp only [bk, Option.some.injEq] at hb
  subst hb; exact ho
theorem CelR.le (h : CelR H p cs) (hl : Le H H') : CelR H' p cs := by
  obtain ⟨a, rfl, ⟨o, ho⟩, hc⟩ := h
  exact ⟨a, rfl, ⟨o, hl _ _ ho⟩, fun i hi => hl.cell (hc i hi)⟩
theorem CelR.keep (h : CelR H p cs) (hk : ∀ b, bk p = some b → H' b = H b) : CelR H' p cs := by
  obtain ⟨a, rfl, ⟨o, ho⟩, hc⟩ := h
  have e := hk a.block rfl
  refine ⟨a, rfl, ⟨o, by rw [e]; exact ho⟩, fun i hi => ?_⟩
  have := hc i hi
  unfold Hp.cell? at this ⊢
  rw [add_block] at this ⊢
  rw [e]; exact this
theorem CelR.off (h : CelR H p cs) (ho : Off v H H') (ha : Apart p v) : CelR H' p cs := h.keep fun b hb => by
  obtain ⟨o, hh⟩ := h.known b hb
  rw [ho b o hh (ha b hb), hh]
theorem CelR.offS {S : Rg} (h : CelR H p cs) (ho : OffS S H H') (ha : Apt p S) : CelR H' p cs := h.keep fun b hb => by
  obtain ⟨o, hh⟩ := h.known b hb
  rw [ho b o hh (ha b hb), hh]
theorem CelR.apart (h : CelR H p cs) (hn : Nw H v) : Apart p v := Apart.of_nw h.known hn
theorem CelR.fa (h : CelR H p cs) (k : Nat) : vFa k p = some (fp p k) := by
  obtain ⟨a, rfl, _⟩ := h; rfl
theorem CelR.nilC (h : CelR H p cs) : vNilC p = some p := by
  obtain ⟨a, rfl, _⟩ := h; rfl
theorem CelR.ld (h : CelR H p cs) (k : Nat) {x : Value} (hx : cs[k]? = some x) : vLoad (fp p k) H = some x := by
  obtain ⟨a, rfl, _, hc⟩ := h
  obtain ⟨hk, rfl⟩ := List.getElem?_eq_some_iff.mp hx
  exact hc k hk
theorem CelR.ld0 (h : CelR H p cs) {x : Value} (hx : cs[0]? = some x) : vLoad p H = some x := by
  obtain ⟨a, rfl, _, hc⟩ := h
  obtain ⟨hk, rfl⟩ := List.getElem?_eq_some_iff.mp hx
  have := hc 0 hk
  rw [show a.add 0 = a by unfold Addr.add; simp] at this
  exact this
theorem CelR.ldn (h : CelR H p cs) {n : Nat} (hn : cs.length = n) : vLoadN n p H = some (.agg cs.toArray) := by
  obtain ⟨a, rfl, _, hc⟩ := h
  simp only [vLoadN]
  rw [rd_cells (enc := id) a n 0 cs hn (fun i hi => by rw [Nat.zero_add]; exact hc i hi)]
  simp
theorem CelR.cast {ds : List Value} (e : cs = ds) (h : CelR H p cs) : CelR H p ds := e ▸ h
end
theorem OwnE.blk {n : Nat} {α : Type} {enc : α → List Value} {l : List α} (h : OwnE n enc H v l) (hn : ∀ x, (enc x).length = n) (n0 : 0 < n) {i : Nat} (hi : i < l.length) :
    ∃ a c, v = .slice (some a) l.length c ∧ (∃ o, H a.block = some o) ∧ bk v = some a.block ∧ ∀ j (hj : j < n), H.cell? (a.add (i * n + j)) = (enc l[i])[j]? := by
  have hs := h.sl hn
  obtain ⟨a, c, e, hc⟩ := hs.base hn n0 hi
  have hb : bk v = some a.block := by
    obtain ⟨a', c', e', h1, _⟩ := h
    rw [e] at e'
    simp only [Value.slice.injEq] at e'
    rw [e]
    simp only [bk]
    rw [if_neg (by omega)]
  exact ⟨a, c, e, h.known _ hb, hb, hc⟩
/-- An element of a family, by its pointer. -/
theorem Fam.el {S : Rg} {fs : List FdL} {f : FdL} (h : Fam H v S fs) {i : Int} (i0 : 0 ≤ i) (i1 : i < fs.length) (e : at_ fd0 fs i = f) :
    ∃ P x, vIx 3 v (.int .i64 i) = some P ∧ CelR H P [.int .i64 f.r, .int .i64 f.c, x] ∧ Ro eI H x f.l ∧ (∀ b, bk P = some b → S b) ∧ (∀ b, bk x = some b → S b) := by
  obtain ⟨L, h1, h2, h3, h4, h5⟩ := h
  obtain ⟨n, rfl⟩ := Int.eq_ofNat_of_zero_le i0
  have hl := h2.len
  have hn : n < L.length := by omega
  obtain ⟨g1, g2, g3⟩ := h2.get hn
  obtain ⟨a, c, rfl, ho, hb, hc⟩ := h1.blk encFv_n (by omega) hn
  have hx := at_get fv0 hn
  subst e
  refine ⟨.pointer (some (a.add (n * 3))), (at_ fv0 L (n : Int)).v, ?_, ⟨_, rfl, by rw [add_block]; exact ho, fun j hj => ?_⟩, g3.ro, fun b hb2 => ?_, fun b hb2 => ?_⟩
  · simp only [vIx]
    rw [if_pos (by omega)]; rfl
  · simp only [List.length_cons, List.length_nil] at hj
    rw [add_add, hc j (by omega), ← hx]
    simp only [encFv]
    have hj3 : j = 0 ∨ j = 1 ∨ j = 2 := by omega
    rcases hj3 with rfl | rfl | rfl
    · simp [g1]
    · simp [g2]
    · simp
  · simp only [bk, add_block, Option.some.injEq] at hb2
    subst hb2
    exact (h5 _).mpr (.inl hb)
  · exact (h5 _).mpr (.inr ⟨_, at_mem fv0 L (by omega) (by omega), hb2⟩)
/-- A family of one field. -/
theorem Fam.one_of {r : Int} (h : OwnE 3 encFv H u [⟨r, c, x⟩]) (hx : Own eI H x l) (ap : Apart u x) : ∃ S : Rg, Fam H u S [⟨r, c, l⟩] ∧ ∀ b, S b → bk u = some b ∨ bk x = some b :=
  ⟨fun b => bk u = some b ∨ bk x = some b, ⟨[⟨r, c, x⟩], h, ⟨⟨rfl, rfl, hx⟩, trivial⟩, by simpa using ap, List.pairwise_singleton _ _, fun b => by simp⟩, fun b hb => hb⟩
theorem Apt.of_two {α : Type} [Bks α] {z : α} {u x : Value} {S : Rg} (hS : ∀ b, S b → bk u = some b ∨ bk x = some b) (hu : Apt z u) (hx : Apt z x) : Apt z S := fun b h1 h2 => by
  rcases hS b h2 with h | h
  · exact hu b h1 h
  · exact hx b h1 h
theorem Nws.of_two {S : Rg} (hS : ∀ b, S b → bk u = some b ∨ bk x = some b) (hu : Nw H u) (hx : Nw H x) : Nws H S := fun b h => by
  rcases hS b h with h | h
  · exact hu b h
  · exact hx b h
theorem Apt.ap2 {α : Type} [Bks α] {z : α} {u u' : Value} {H : Hp} (hz : Kn H z) (ha : Apt z u) (hb : ∀ b, bk u' = some b → bk u = some b ∨ H b = none) : Apt z u' := fun b h1 h2 => by
  rcases hb b h2 with h | h
  · exact ha b h1 h
  · obtain ⟨o, ho⟩ := hz b h1
    rw [h] at ho; simp at ho
def mapSI (P : Program) (t : TypeId) : Bool := match P.underlying t with
  | some (.map kt et) => (match P.underlying kt, zeroO P et with | some .string, some (.int .i64 0) => true | _, _ => false)
  | _ => false
theorem mapSI_of {P : Program} {t : TypeId} (h : mapSI P t = true) : ∃ kt et, P.underlying t = some (.map kt et) ∧ P.underlying kt = some .string ∧ zeroO P et = some (.int .i64 0) := by
  unfold mapSI at h
  split at h
  · rename_i kt et he
    split at h
    · rename_i h1 h2; exact ⟨kt, et, he, h1, h2⟩
    · simp at h
  · simp at h
theorem Mp.look' {P : Program} {t : TypeId} {k : ByteArray} {S : Rg} {ms : List (ByteArray × Int)} (h : Mp H p S ms) (ht : mapSI P t = true)
    (hK : K (.tuple #[.int .i64 ((mget k ms).getD 0), .bool (mget k ms).isSome]) H) : hp P (Instr.lookup t p (.string k) true) H K := by
  obtain ⟨kt, et, h1, h2, h3⟩ := mapSI_of ht
  exact h.look h1 h2 h3 hK
theorem Mp.add' {P : Program} {t : TypeId} {k : ByteArray} {x : Int} {S : Rg} {ms : List (ByteArray × Int)} {K : Unit → Hp → Prop} (h : Mp H p S ms) (ht : mapSI P t = true) (hn : mget k ms = none)
    (hK : ∀ H', Mp H' p S (ms ++ [(k, x)]) → OffS S H H' → K () H') : hp P (Instr.mapUpdate t p (.string k) (.int .i64 x)) H K := by
  obtain ⟨kt, et, h1, h2, h3⟩ := mapSI_of ht
  exact h.add h1 h2 hn hK
theorem Mp.cast {S : Rg} {ms ns : List (ByteArray × Int)} (e : ms = ns) (h : Mp H p S ms) : Mp H p S ns := e ▸ h
def cvBS (P : Program) (s d : TypeId) : Bool := match P.underlying s, P.underlying d with
  | some (.slice e), some .string => (match P.underlying e with | some (.int .u8) => true | _ => false)
  | _, _ => false
theorem val_convBS {P : Program} {s d : TypeId} (h : cvBS P s d = true) (hs : Sl eU H v l) : val P (convert s d v) H = some (.string (bytesS .empty l)) := by
  unfold cvBS at h
  split at h
  · rename_i e h1 h2
    split at h
    · rename_i h3
      have hv := val_bytesToString (P := P) hs
      obtain ⟨a, n, c, rfl⟩ := hs.isSl
      unfold convert
      rw [val_bind', val_underlying, h1, Option.bind_some, val_bind', val_underlying, h2, Option.bind_some]
      simp only
      rw [val_bind', val_underlying, h3, Option.bind_some]
      exact hv
    · simp at h
  · simp at h
theorem vCI_u8 {k : IntKind} {a : Int} (h : 0 ≤ a) (h' : a ≤ 255) : vCI .u8 (.int k a) = some (.int .u8 a) := by
  have : IntKind.u8.wrap a = a := by unfold IntKind.wrap; simp [IntKind.signed, IntKind.bits]; omega
  simp only [vCI, this]
end HL
theorem C.c17 {vc : Value} {r i k : Int} (hp : CelR H p [.int .i64 r, .int .i64 c, vc]) (hs : sidesF r c)
    (hk : K (.int .i64 (roundF r c i k)) H) : HT prg 117 [p, .int .i64 i, .int .i64 k].toArray H K := by
 refine R.q117 ?_
 unfold F.q117
 have b := roundF_lt (i := i) (k := k) hs
 have m := sidesF_mul hs
 obtain ⟨⟨h1, h2⟩, h3, h4⟩ := hs
 have t1 := tmod_bnd (a := i) (b := r) (by omega)
 have t2 := tmod_bnd (a := k) (b := c) (by omega)
 simp only [hp.nilC, hp.fa, hp.ld 0 rfl, hp.ld 1 rfl, ob_some]
 rw [vInt_rem (by omega), ob_some, vInt_add (by omega) (by omega), ob_some, vInt_rem (by omega), ob_some, vInt_rem (by omega), ob_some, vInt_add (by omega) (by omega), ob_some, vInt_rem (by omega), ob_some, fm_eq (by omega), fm_eq (by omega),
    vInt_mul (by omega) (by omega), ob_some, vInt_add (by unfold roundF at b; omega) (by unfold roundF at b; omega), ob_some]
 exact hk

end Go.Proofs.YtnijdhlmimemcaaGreatDoor
/- Fields that are made by a function of rows and columns, and fields that grow. -/
namespace Go.Proofs.YtnijdhlmimemcaaGreatDoor
open HL
variable {H : Hp} {u u' z vc : Value} {K : Value → Hp → Prop} {c i k r : Int}
set_option maxRecDepth 100000
theorem Apart.app {x : Value} (hx : ∀ b, bk x = some b → ∃ o, H b = some o) (ha : Apart x u) (hb : ∀ b, bk u' = some b → bk u = some b ∨ H b = none) : Apart x u' := fun b h1 h2 => by
  rcases hb b h2 with h | h
  · exact ha b h1 h
  · obtain ⟨o, ho⟩ := hx b h1; rw [h] at ho; simp at ho
theorem Nw.app {H0 : Hp} (hn : Nw H0 u) (hl : Le H0 H) (hb : ∀ b, bk u' = some b → bk u = some b ∨ H b = none) : Nw H0 u' := fun b h => by
  rcases hb b h with h1 | h1
  · exact hn b h1
  · cases ho : H0 b with
    | none => rfl
    | some o => rw [hl b o ho] at h1; simp at h1
theorem apd_one {α : Type} {enc : α → Value} {b : Nat} {e : TypeId} {t : Value} {x : α} {l : List α} (o : Own enc H u l) (ot : Sl enc H t [x]) (ho : ∀ x, oneCell (enc x) = true) (hb : b ≤ 64) (hl : l.length ≤ 68719476736)
    (hk : ∀ u' H', Own enc H' u' (l ++ [x]) → Off u H H' → (∀ b, bk u' = some b → bk u = some b ∨ H b = none) → K u' H') : apd 1 b #[z] e u t H K := by
  refine o.apd ot ho (by simp; omega) (fun c hc => ?_) hk
  have := nsc_le hc
  simp only [List.length_singleton] at this ⊢
  exact Nat.le_trans (Nat.mul_le_mul this hb) (by omega)
theorem bS_i {α : Type} {enc : α → Value} {len : Nat} {e : TypeId} {parts : List (Nat × Value)} {l : List α} (h1 : len ≤ 1000) (hl : l.length = len)
    (hf : Instr.fill (fun i => some (i * 1, 1)) (if len * 1 = 0 then #[] else zrow #[z] (len * 1)) parts = some (l.map enc).toArray) (hk : ∀ v H', Own enc H' v l → Nw H v → Le H H' → K v H') : bS 1 len #[z] e parts H K := by
  refine ⟨by omega, ?_⟩
  rw [hf]
  intro r hr
  subst hl
  refine hk _ _ ⟨some ⟨r, 0, none⟩, l.length, rfl, Nat.le_refl _, fun _ => ⟨r, 0, _, e, rfl, Hp.put_same _ _ _, by simp, fun i hi => by simp [hi]⟩⟩ ?_ (Le.put _ hr)
  intro b hb
  simp only [bk] at hb
  split at hb
  · simp at hb
  · simp only [Option.some.injEq] at hb; subst hb; exact hr
/-- A field's cells, row by row, by a function. -/
def mkL (c : Int) (g : Int → Int → Int) (n : Nat) : List Int := (List.range n).map fun (t : Nat) => g ((t : Int) / c) ((t : Int) % c)
theorem mkL_length (c : Int) (g : Int → Int → Int) (n : Nat) : (mkL c g n).length = n := by simp [mkL]
theorem mkL_succ (c : Int) (g : Int → Int → Int) (n : Nat) : mkL c g (n + 1) = mkL c g n ++ [g ((n : Int) / c) ((n : Int) % c)] := by simp [mkL, List.range_succ]
theorem divmod (hc : 0 < c) (k0 : 0 ≤ k) (k1 : k < c) : (i * c + k) / c = i ∧ (i * c + k) % c = k := by
  constructor
  · rw [Int.add_comm, Int.add_mul_ediv_right _ _ (by omega), Int.ediv_eq_zero_of_lt k0 k1]; omega
  · rw [Int.add_comm, Int.add_mul_emod_self_right, Int.emod_eq_of_lt k0 k1]
theorem cast_ix {i k : Nat} (hc : 0 ≤ c) : ((i * c.toNat + k : Nat) : Int) = i * c + k := by rw [Int.natCast_add, Int.natCast_mul, Int.toNat_of_nonneg hc]
theorem C.c18 {fv : Value} {rr cc : Int} {g : Int → Int → Int} (r1 : 0 ≤ rr) (r2 : rr ≤ 1000) (c1 : 1 ≤ cc) (c2 : cc ≤ 1000)
    (hcl : ∀ H' (i k : Nat) (Z : Value → Hp → Prop), Le H H' → (i : Int) < rr → (k : Int) < cc → (∀ H'', Le H' H'' → Z (.int .i64 (g i k)) H'') → callV prg fv [.int .i64 i, .int .i64 k] H' Z)
    (hk : ∀ u H', Own eI H' u (mkL cc g (rr.toNat * cc.toNat)) → Nw H u → Le H H' → K (.agg #[.int .i64 rr, .int .i64 cc, u]) H') :
    HT prg 53 [.int .i64 rr, .int .i64 cc, fv].toArray H K := by
 refine R.q53 ?_
 unfold F.q53
 refine nw_i (fun q H1 oq nq le1 => ?_)
 replace oq : Cel H1 q [.int .i64 0, .int .i64 0, .slice none 0 0] := oq
 refine ob_i (a := .agg #[.int .i64 rr, .int .i64 cc, .slice none 0 0]) rfl ?_
 refine nw_i (fun s H2 os ns le2 => ?_)
 have aqs : Apart q s := oq.apart ns
 have ns0 : Nw H s := ns.le le1
 have nq0 : Nw H q := nq
 refine os.stn (ws := [.int .i64 rr, .int .i64 cc, .slice none 0 0]) rfl rfl (by simp [oneCell]) (fun H3 os off3 => ?_)
 have leB : Le H H3 := off3.le (le1.trans le2) ns0
 refine jn_i (fun σ' H' => σ' 6 = q ∧ σ' 7 = s ∧ Cel H' q [.int .i64 0, .int .i64 0, .slice none 0 0] ∧ Le H H' ∧ ∃ u, Cel H' s [.int .i64 rr, .int .i64 cc, u] ∧ Own eI H' u (mkL cc g (rr.toNat * cc.toNat)) ∧ Nw H u ∧ Apart q u) (fun σ' H' hP => ?_) (fun J7 hJ7 => ?_)
 replace oq := (oq.le le2).off off3 aqs
 obtain ⟨g6, g7, oq, le, u, os, ou, nu, aqu⟩ := hP
 rw [g6, g7]
 refine ob_i (os.ldn rfl) (oq.stn (ws := [.int .i64 rr, .int .i64 cc, u]) rfl rfl (oc1 rfl (oc1 rfl (oc1 ou.one oc0))) (fun H6 oq off6 => ?_))
 exact ob_i (oq.ldn rfl) (hk u H6 (ou.off off6 aqu.symm) nu (off6.le le nq0))
 replace oq := (oq.le le2).off off3 aqs
 refine ⟨fun n σ H4 => ∃ i : Nat, n = rr.toNat - i ∧ (i : Int) ≤ rr ∧ σ 1 = .int .i64 cc ∧ σ 2 = fv ∧ σ 6 = q ∧ σ 7 = s ∧ σ 13 = .int .i64 rr ∧ σ 14 = .int .i64 i ∧ Cel H4 q [.int .i64 0, .int .i64 0, .slice none 0 0] ∧ Le H H4 ∧
      ∃ u, Cel H4 s [.int .i64 rr, .int .i64 cc, u] ∧ Own eI H4 u (mkL cc g (i * cc.toNat)) ∧ Nw H u ∧ Apart q u ∧ Apart s u,
    ⟨_, 0, rfl, by omega, rfl, rfl, rfl, rfl, rfl, rfl, oq, leB, .slice none 0 0, os, by rw [Nat.zero_mul]; exact Own.nil_of none, fun b hb => by simp [bk] at hb, fun b _ hb => by simp [bk] at hb, fun b _ hb => by simp [bk] at hb⟩, ?_⟩
 rintro n σ H4 ⟨i, rfl, hiR, g1, g2, g6, g7, g13, g14, oq, le4, hu⟩
 simp only [g1, g13, g14, vInt_lss, ob_some]
 refine cnd_d (fun hlt => ?_) (fun hge => ?_)
 refine jn_i (fun σ' H' => σ' 1 = .int .i64 cc ∧ σ' 2 = fv ∧ σ' 6 = q ∧ σ' 7 = s ∧ σ' 13 = .int .i64 rr ∧ σ' 14 = .int .i64 i ∧ Cel H' q [.int .i64 0, .int .i64 0, .slice none 0 0] ∧ Le H H' ∧
      ∃ u, Cel H' s [.int .i64 rr, .int .i64 cc, u] ∧ Own eI H' u (mkL cc g ((i + 1) * cc.toNat)) ∧ Nw H u ∧ Apart q u ∧ Apart s u) (fun σ' H' hP => ?_) (fun J13 hJ13 => ?_)
 obtain ⟨z1, z2, z6, z7, z13, z14, zq, zle, zu⟩ := hP
 rw [z14, vInt_add (by omega) (by omega), ob_some]
 exact nxt (rr.toNat - (i + 1)) (by omega) ⟨i + 1, rfl, by omega, z1, z2, z6, z7, z13, rfl, zq, zle, zu⟩
 refine ⟨fun n σ H5 => ∃ k : Nat, n = cc.toNat - k ∧ (k : Int) ≤ cc ∧ σ 1 = .int .i64 cc ∧ σ 2 = fv ∧ σ 6 = q ∧ σ 7 = s ∧ σ 13 = .int .i64 rr ∧ σ 14 = .int .i64 i ∧ σ 8 = .int .i64 i ∧ σ 17 = .int .i64 cc ∧ σ 18 = .int .i64 k ∧ Cel H5 q [.int .i64 0, .int .i64 0, .slice none 0 0] ∧ Le H H5 ∧
      ∃ u, Cel H5 s [.int .i64 rr, .int .i64 cc, u] ∧ Own eI H5 u (mkL cc g (i * cc.toNat + k)) ∧ Nw H u ∧ Apart q u ∧ Apart s u,
    ⟨_, 0, rfl, by omega, g1, g2, g6, g7, g13, g14, rfl, rfl, rfl, oq, le4, hu⟩, ?_⟩
 rintro n σ H5 ⟨k, rfl, hkC, z1, z2, z6, z7, z13, z14, z8, z17, z18, zq, le5, u, zs, zu, nu, aqu, asu⟩
 simp only [z2, z7, z8, z17, z18, vInt_lss, ob_some]
 refine cnd_d (fun hkl => ?_) (fun hkg => ?_)
 simp only [zs.fa, zs.ld 2 rfl, ob_some]
 refine hcl H5 i k _ le5 hlt hkl (fun H6 le6 => ⟨le6, ?_⟩)
 refine bS_i (enc := eI) (l := [g i k]) (by omega) rfl (by kernel_rfl) (fun t H7 ot nt le7 => ?_)
 have le57 := le6.trans le7
 have leB7 := le5.trans le57
 have hlen : (mkL cc g (i * cc.toNat + k)).length ≤ 68719476736 := by
    rw [mkL_length]
    have : i * cc.toNat ≤ 1000 * 1000 := Nat.mul_le_mul (by omega) (by omega)
    omega
 replace zu := zu.le le57
 refine apd_one zu ot.sl (fun _ => rfl) (by omega) hlen (fun u' H8 ou' off8 hbk => ?_)
 replace zq := zq.le le57
 have aqu' : Apart q u' := Apart.app zq.known aqu hbk
 replace zs := zs.le le57
 have asu' : Apart s u' := Apart.app zs.known asu hbk
 have nu' : Nw H u' := Nw.app nu leB7 hbk
 have leB8 : Le H H8 := off8.le leB7 nu
 replace zs := zs.off off8 asu
 refine zs.st (by simp) ou'.one ou'.cells (fun H9 os9 off9 => ?_)
 rw [vInt_add (by omega) (by omega), ob_some]
 replace zq := zq.off off8 aqu
 refine nxt (cc.toNat - (k + 1)) (by omega) ⟨k + 1, rfl, by omega, z1, z2, z6, z7, z13, z14, z8, z17, rfl, zq.off off9 aqs, off9.le leB8 ns0, u', os9, ?_, nu', aqu', asu'⟩
 have hd := divmod (c := cc) (i := i) (k := k) (by omega) (by omega) hkl
 rw [← Nat.add_assoc, mkL_succ, cast_ix (by omega), hd.1, hd.2]
 exact ou'.off off9 asu'.symm
 have e : k = cc.toNat := by omega
 refine hJ13 _ _ ⟨z1, z2, z6, z7, z13, z14, zq, le5, u, zs, ?_, nu, aqu, asu⟩
 rw [Nat.add_mul, Nat.one_mul, ← e]; rw [← e] at zu; exact zu
 have e : i = rr.toNat := by omega
 subst e
 obtain ⟨u, os, ou, nu, aqu, asu⟩ := hu
 exact hJ7 _ _ ⟨g6, g7, oq, le4, u, os, ou, nu, aqu⟩

/-- A cell, or 0 beyond the border. -/
def flatF (r c : Int) (l : List Int) (i k : Int) : Int := if (0 ≤ i ∧ i ≤ r - 1) ∧ 0 ≤ k ∧ k ≤ c - 1 then at_ 0 l (i * c + k) else 0
theorem C.c19 (hs : sidesF r c) (hk : ∀ H', Le H H' → K (.bool (decide ((0 ≤ i ∧ i ≤ r - 1) ∧ 0 ≤ k ∧ k ≤ c - 1))) H') :
    HT prg 86 [.agg #[.int .i64 r, .int .i64 c, vc], .int .i64 i, .int .i64 k].toArray H K := by
 refine R.q86 ?_
 unfold F.q86
 refine nw_i (fun p H1 hp np le1 => ?_)
 replace hk := hk H1 le1
 have q1 := hs.1
 have q2 := hs.2
 simp only [hp.fa, hp.ld 0 rfl, ob_some]
 rw [vInt_sub (by omega) (by omega), ob_some]
 refine C.c1 ?_
 by_cases c1 : 0 ≤ i ∧ i ≤ r - 1
 simp only [decide_eq_true c1, hp.ld 1 rfl, EV]
 rw [vInt_sub (by omega) (by omega), ob_some]
 refine C.c1 ?_
 exact kQ (K := K) hk ⟨fun h => h.2, fun h => ⟨c1, h⟩⟩
 simp only [decide_eq_false c1, EV]; exact kF (K := K) hk (fun h => c1 h.1)

theorem C.c20 {l : List Int} (hc : Sl eI H vc l) (hs : sidesF r c) (hl : (l.length : Int) = r * c)
    (hk : ∀ H', Le H H' → K (.int .i64 (flatF r c l i k)) H') : HT prg 55 [.agg #[.int .i64 r, .int .i64 c, vc], .int .i64 i, .int .i64 k, .bool false].toArray H K := by
 refine R.q55 ?_
 unfold F.q55
 refine nw_i (fun p H1 hp np le1 => ?_)
 refine cnd_f1 (ob_i (hp.ldn rfl) (C.c19 hs (fun H2 le2 => ?_)))
 rw [vUn_not, ob_some]
 have m := sidesF_mul hs
 by_cases c1 : (0 ≤ i ∧ i ≤ r - 1) ∧ 0 ≤ k ∧ k ≤ c - 1
 have hk' := fun H' h => hk H' h
 simp only [flatF, c1, and_self, if_true] at hk'
 simp only [decide_eq_true c1, EV]
 refine ob_i ((hp.le le2).ldn rfl) ?_
 have a1 := Int.mul_nonneg (a := i) (b := c) (by omega) (by have := hs.2; omega)
 have a2 := Int.mul_le_mul (a := i) (b := c) (c := r - 1) (d := c) (by omega) (by omega) (by have := hs.2; omega) (by have := hs.1; omega)
 rw [Int.sub_mul] at a2
 refine C.c11 (hc.le (le1.trans le2)) (by omega) (by have := hs.2; omega) (by omega) (by rw [hl]; omega) (by omega) (fun H3 le3 => ?_)
 exact hk' _ ((le1.trans le2).trans le3)
 have h1 := hk H2 (le1.trans le2)
 simp only [flatF, c1, if_false] at h1
 simp only [decide_eq_false c1, EV]; exact h1

end Go.Proofs.YtnijdhlmimemcaaGreatDoor
/- Fields with a border of zeros: the program's and the reference's. -/
namespace Go.Proofs.YtnijdhlmimemcaaGreatDoor
open HL
variable {p vc : Value} {r c b : Int} {l : List Int} {H : Hp} {K : Value → Hp → Prop}
set_option maxRecDepth 100000
def groOk (r c : Int) (l : List Int) (b : Int) : Prop := fieldN 1 r c l ∧ (0 ≤ b ∧ b ≤ 24) ∧ (1 ≤ r + 2 * b ∧ r + 2 * b ≤ 24) ∧ (1 ≤ c + 2 * b ∧ c + 2 * b ≤ 24)
instance (r c : Int) (l : List Int) (b : Int) : Decidable (groOk r c l b) := by unfold groOk; infer_instance
def groG (r c : Int) (l : List Int) (b : Int) (i k : Int) : Int := flatF r c l (i - b) (k - b)
def groW (r c : Int) (l : List Int) (b : Int) : List Int := mkL (c + 2 * b) (groG r c l b) ((r + 2 * b).toNat * (c + 2 * b).toNat)
def groL (r c : Int) (l : List Int) (b : Int) : List Int := if groOk r c l b then groW r c l b else []
def groI (x r c : Int) (l : List Int) (b : Int) : Int := if groOk r c l b then x else 0
theorem C.c21 {q : Value} {i k : Int} (hp : Cel H p [.int .i64 r, .int .i64 c, vc]) (hq : Cel H q [.int .i64 b]) (hc : Sl eI H vc l) (hs : sidesF r c) (hl : (l.length : Int) = r * c)
    (b0 : 0 ≤ b) (b1 : b ≤ 24) (i0 : 0 ≤ i) (i1 : i ≤ 1000) (k0 : 0 ≤ k) (k1 : k ≤ 1000) (hk : ∀ H', Le H H' → K (.int .i64 (groG r c l b i k)) H') : HT prg 90 [.int .i64 i, .int .i64 k, p, q].toArray H K := by
 refine R.q90 ?_
 unfold F.q90
 exact ob_i (hp.ldn rfl) (ob_i (hq.ld0 rfl) (ob_i (vInt_sub (by omega) (by omega)) (ob_i (hq.ld0 rfl) (ob_i (vInt_sub (by omega) (by omega)) (C.c20 hc hs hl hk)))))

theorem C.c22 (hc : Sl eI H vc l)
    (k1 : l.length ≤ 9223372036854775807)
    (hk : ∀ u H', Own eI H' u (groL r c l b) → Nw H u → Le H H' → K (.tuple #[.agg #[.int .i64 (groI (r + 2 * b) r c l b), .int .i64 (groI (c + 2 * b) r c l b), u], .bool (decide (groOk r c l b))]) H') :
    HT prg 60 [.agg #[.int .i64 r, .int .i64 c, vc], .int .i64 b].toArray H K := by
 refine R.q60 ?_
 unfold F.q60
 refine nw_i (fun p H1 hp np le1 => ?_)
 replace hp : Cel H1 p [.int .i64 r, .int .i64 c, vc] := hp
 refine nw_i (fun q H2 oq nq le2 => ?_)
 replace oq : Cel H2 q [.int .i64 b] := oq
 refine nw_i (fun s H3 os ns le3 => ?_)
 replace os : Cel H3 s [.int .i64 0, .int .i64 0, .slice none 0 0] := os
 have le13 := (le1.trans le2).trans le3
 have ns0 : Nw H s := ns.le (le1.trans le2)
 replace hp := (hp.le le2).le le3
 refine ob_i (hp.ldn rfl) (C.c8 (hc.le le13) k1 (fun H4 le4 => ?_))
 have leB := le13.trans le4
 replace os := os.le le4
 have bad : ¬ groOk r c l b → HL.ob (vBuild [(0, 1), (1, 1), (2, 1)] (.agg #[(.int .i64 0), (.int .i64 0), (.slice none 0 0)]) []) fun v32 =>
      st 3 s v32 H4 fun H66 => HL.ob (vLoadN 3 s H66) fun u67 => K (.tuple #[u67, (.bool false)]) H66 := by
    intro hn
    refine ob_i (a := .agg #[.int .i64 0, .int .i64 0, .slice none 0 0]) rfl ?_
    refine os.stn (ws := [.int .i64 0, .int .i64 0, .slice none 0 0]) rfl rfl (by simp [oneCell]) (fun H5 os off5 => ?_)
    refine ob_i (os.ldn rfl) ?_
    have h1 := hk (.slice none 0 0) H5
    simp only [groL, groI, hn, if_false, decide_false] at h1
    exact h1 (Own.nil_of none) (fun b hb => by simp [bk] at hb) (off5.le leB ns0)
 rw [vUn_not, ob_some]
 by_cases c1 : fieldN 1 r c l
 have q1 := c1.1.1
 have q2 := c1.1.2
 replace oq := (oq.le le3).le le4
 simp only [decide_eq_true c1, oq.ld0 (x := .int .i64 b) rfl, EV]
 refine C.c1 ?_
 by_cases c2 : 0 ≤ b ∧ b ≤ 24
 have m1 : vInt .mul (.int .i64 2) (.int .i64 b) = some (.int .i64 (2 * b)) := vInt_mul (by omega) (by omega)
 have m2 : vInt .add (.int .i64 r) (.int .i64 (2 * b)) = some (.int .i64 (r + 2 * b)) := vInt_add (by omega) (by omega)
 have m3 : vInt .add (.int .i64 c) (.int .i64 (2 * b)) = some (.int .i64 (c + 2 * b)) := vInt_add (by omega) (by omega)
 replace hp := hp.le le4
 simp only [decide_eq_true c2, hp.fa, hp.ld 0 rfl, oq.ld0 (x := .int .i64 b) rfl, m1, m2, EV]
 refine C.c6 ?_
 by_cases c3 : 1 ≤ r + 2 * b ∧ r + 2 * b ≤ 24
 simp only [decide_eq_true c3, hp.ld 1 rfl, oq.ld0 (x := .int .i64 b) rfl, m1, m3, EV]
 refine C.c6 ?_
 by_cases c4 : 1 ≤ c + 2 * b ∧ c + 2 * b ≤ 24
 have hok : groOk r c l b := ⟨c1, c2, c3, c4⟩
 simp only [decide_eq_true c4, hp.ld 0 rfl, hp.ld 1 rfl, oq.ld0 (x := .int .i64 b) rfl, m1, m2, m3, EV]
 refine C.c18 (g := groG r c l b) (by omega) (by omega) (by omega) (by omega) (fun H' i k Z le hi hk' hZ => ?_) (fun u H5 ou nu le5 => ?_)
 refine ⟨by kernel_rfl, ?_⟩
 exact C.c21 (hp.le le) (oq.le le) (hc.le (leB.trans le)) c1.1 c1.2.1 c2.1 c2.2 (by omega) (by omega) (by omega) (by omega) hZ
 have asu : Apart s u := os.apart nu
 replace os := os.le le5
 refine os.stn (ws := [.int .i64 (r + 2 * b), .int .i64 (c + 2 * b), u]) rfl rfl (oc1 rfl (oc1 rfl (oc1 ou.one oc0))) (fun H6 os off6 => ?_)
 refine ob_i (os.ldn rfl) ?_
 have h1 := hk u H6
 simp only [groL, groI, hok, if_true, decide_true] at h1
 exact h1 (ou.off off6 asu.symm) (nu.le leB) (off6.le (leB.trans le5) ns0)
 simp only [decide_eq_false c4, EV]; exact bad (fun h => c4 h.2.2.2)
 simp only [decide_eq_false c3, EV]; exact bad (fun h => c3 h.2.2.1)
 simp only [decide_eq_false c2, EV]; exact bad (fun h => c2 h.2.1)
 simp only [decide_eq_false c1, EV]; exact bad (fun h => c1 h.1)

theorem C.c23 {rr cc : Int} (r0 : 0 ≤ rr) (r1 : rr ≤ 24) (c0 : 0 ≤ cc) (c1 : cc ≤ 24)
    (hk : ∀ u H', Own eI H' u (List.replicate (rr.toNat * cc.toNat) 0) → Nw H u → Le H H' → K (.agg #[.int .i64 rr, .int .i64 cc, u]) H') : HT prg 39 [.int .i64 rr, .int .i64 cc].toArray H K := by
 refine R.q39 ?_
 unfold F.q39
 have m := Int.mul_le_mul r1 c1 c0 (by omega)
 have m0 := Int.mul_nonneg r0 c0
 refine nw_i (fun q H1 oq nq le1 => ?_)
 rw [vInt_mul (by omega) (by omega), ob_some]
 refine Own.mk_ (z := (0 : Int)) (by omega) (by omega) (by omega) (by omega) (fun u H2 ou nu le2 => ?_)
 have aqu : Apart q u := oq.apart nu
 refine ob_i (a := .agg #[.int .i64 rr, .int .i64 cc, u]) (by obtain ⟨_, _, _, rfl⟩ := ou.isSl; rfl) ?_
 replace oq := oq.le le2
 refine oq.stn (ws := [.int .i64 rr, .int .i64 cc, u]) rfl rfl (oc1 rfl (oc1 rfl (oc1 ou.one oc0))) (fun H3 oq off3 => ?_)
 refine ob_i (oq.ldn rfl) ?_
 rw [Int.toNat_mul r0 c0] at ou
 exact hk u H3 (ou.off off3 aqu.symm) (nu.le le1) (off3.le (le1.trans le2) nq)

theorem C.c24 (hk : K (.bool (decide ((1 ≤ r ∧ r ≤ 24) ∧ 1 ≤ c ∧ c ≤ 24))) H) : HT prg 93 [.int .i64 r, .int .i64 c].toArray H K := by
 refine R.q93 ?_
 unfold F.q93
 refine C.c0 ?_
 by_cases h : 1 ≤ r ∧ r ≤ 24
 simp only [decide_eq_true h, EV]
 refine C.c0 ?_
 exact kQ (K := K) hk ⟨fun h2 => h2.2, fun h2 => ⟨h, h2⟩⟩
 simp only [decide_eq_false h, EV]; exact kF (K := K) hk (fun h2 => h h2.1)

/-- A grown field's cells, the first t of the small one's placed. -/
def groP (r c : Int) (l : List Int) (b : Int) (t : Nat) (j : Nat) : Int :=
  if ((0 ≤ (j : Int) / (c + 2 * b) - b ∧ (j : Int) / (c + 2 * b) - b ≤ r - 1) ∧ 0 ≤ (j : Int) % (c + 2 * b) - b ∧ (j : Int) % (c + 2 * b) - b ≤ c - 1) ∧ ((j : Int) / (c + 2 * b) - b) * c + ((j : Int) % (c + 2 * b) - b) < t then
    at_ 0 l (((j : Int) / (c + 2 * b) - b) * c + ((j : Int) % (c + 2 * b) - b)) else 0
def groS (r c : Int) (l : List Int) (b : Int) (t : Nat) : List Int := (List.range ((r + 2 * b).toNat * (c + 2 * b).toNat)).map (groP r c l b t)
theorem groS_length (r c : Int) (l : List Int) (b : Int) (t : Nat) : (groS r c l b t).length = (r + 2 * b).toNat * (c + 2 * b).toNat := by simp [groS]
theorem groS_zero (h : groOk r c l b) : groS r c l b 0 = List.replicate ((r + 2 * b).toNat * (c + 2 * b).toNat) 0 := by
  rw [List.eq_replicate_iff]
  refine ⟨groS_length r c l b 0, fun x hx => ?_⟩
  simp only [groS, List.mem_map] at hx
  obtain ⟨j, _, rfl⟩ := hx
  unfold groP
  rw [if_neg]
  rintro ⟨⟨h1, h2⟩, h3⟩
  have := Int.mul_nonneg h1.1 (show (0 : Int) ≤ c by have := h.1.1.2; omega)
  omega
theorem groS_end (h : groOk r c l b) (t : Nat) (ht : (t : Int) = r * c) : groS r c l b t = groW r c l b := by
  unfold groS groW mkL
  apply List.map_congr_left
  intro j _
  unfold groP groG flatF
  by_cases h1 : (0 ≤ (j : Int) / (c + 2 * b) - b ∧ (j : Int) / (c + 2 * b) - b ≤ r - 1) ∧ 0 ≤ (j : Int) % (c + 2 * b) - b ∧ (j : Int) % (c + 2 * b) - b ≤ c - 1
  · rw [if_pos h1, if_pos]
    refine ⟨h1, ?_⟩
    have := Int.mul_le_mul (a := (j : Int) / (c + 2 * b) - b) (b := c) (c := r - 1) (d := c) (by omega) (by omega) (by have := h.1.1.2; omega) (by have := h.1.1.1; omega)
    rw [Int.sub_mul r 1 c] at this
    omega
  · rw [if_neg h1, if_neg (fun h2 => h1 h2.1)]
theorem groS_set (h : groOk r c l b) {i k : Int} (i0 : 0 ≤ i) (i1 : i < r) (k0 : 0 ≤ k) (k1 : k < c) (t : Nat) (ht : (t : Int) = i * c + k) :
    (groS r c l b t).set ((i + b) * (c + 2 * b) + k + b).toNat (at_ 0 l (i * c + k)) = groS r c l b (t + 1) := by
  have hb := h.2.1
  have hj0 : 0 ≤ (i + b) * (c + 2 * b) := Int.mul_nonneg (by omega) (by omega)
  have hd := divmod (c := c + 2 * b) (i := i + b) (k := k + b) (by omega) (by omega) (by omega)
  apply List.ext_getElem?
  intro j
  rw [List.getElem?_set]
  simp only [groS, List.getElem?_map, List.length_map, List.length_range]
  by_cases hj : j < (r + 2 * b).toNat * (c + 2 * b).toNat
  · rw [List.getElem?_range hj]
    simp only [Option.map_some]
    by_cases e : ((i + b) * (c + 2 * b) + k + b).toNat = j
    · rw [if_pos e, if_pos (by omega)]
      have ej : (j : Int) = (i + b) * (c + 2 * b) + (k + b) := by omega
      unfold groP
      rw [ej, hd.1, hd.2, show i + b - b = i by omega, show k + b - b = k by omega, if_pos ⟨⟨⟨i0, by omega⟩, k0, by omega⟩, by omega⟩]
    · rw [if_neg e]
      congr 1
      unfold groP
      by_cases h1 : (0 ≤ (j : Int) / (c + 2 * b) - b ∧ (j : Int) / (c + 2 * b) - b ≤ r - 1) ∧ 0 ≤ (j : Int) % (c + 2 * b) - b ∧ (j : Int) % (c + 2 * b) - b ≤ c - 1
      · have hne : ((j : Int) / (c + 2 * b) - b) * c + ((j : Int) % (c + 2 * b) - b) ≠ t := by
          intro hh
          rw [ht] at hh
          have d1 := divmod (c := c) (i := (j : Int) / (c + 2 * b) - b) (k := (j : Int) % (c + 2 * b) - b) (by omega) h1.2.1 (by omega)
          have d2 := divmod (c := c) (i := i) (k := k) (by omega) k0 k1
          rw [hh] at d1
          have e1 : (j : Int) / (c + 2 * b) = i + b := by omega
          have e2 : (j : Int) % (c + 2 * b) = k + b := by omega
          have e3 := Int.mul_ediv_add_emod (j : Int) (c + 2 * b)
          rw [e1, e2, Int.mul_comm] at e3
          omega
        by_cases h2 : ((j : Int) / (c + 2 * b) - b) * c + ((j : Int) % (c + 2 * b) - b) < t
        · rw [if_pos ⟨h1, h2⟩, if_pos ⟨h1, by omega⟩]
        · rw [if_neg (fun h3 => h2 h3.2), if_neg (fun h3 => by have := h3.2; omega)]
      · rw [if_neg (fun h3 => h1 h3.1), if_neg (fun h3 => h1 h3.1)]
  · rw [List.getElem?_eq_none (by simpa using hj)]
    simp only [Option.map_none]
    split
    · rw [if_neg (by omega)]
    · rfl
theorem C.c25 (hp : Cel H p [.int .i64 r, .int .i64 c, vc]) (hc : Sl eI H vc l) (hok : groOk r c l b)
    (hk : ∀ u H', Own eI H' u (groW r c l b) → Nw H u → Le H H' → K (.agg #[.int .i64 (r + 2 * b), .int .i64 (c + 2 * b), u]) H') : HT prg 94 [p, .int .i64 b].toArray H K := by
 refine R.q94 ?_
 unfold F.q94
 have q1 := hok.1.1.1
 have q2 := hok.1.1.2
 have q3 := hok.2.1
 have q4 := hok.2.2.1
 have q5 := hok.2.2.2
 have hlen := hok.1.2.1
 have hlc := fieldN_len hok.1
 have hN : ((groS r c l b 0).length : Int) = (r + 2 * b) * (c + 2 * b) := by rw [groS_length, Int.natCast_mul, Int.toNat_of_nonneg (by omega), Int.toNat_of_nonneg (by omega)]
 have hNt : ∀ t, ((groS r c l b t).length : Int) = (r + 2 * b) * (c + 2 * b) := fun t => by rw [groS_length, Int.natCast_mul, Int.toNat_of_nonneg (by omega), Int.toNat_of_nonneg (by omega)]
 refine nw_i (fun q H1 oq nq le1 => ?_)
 replace oq : Cel H1 q [.int .i64 0, .int .i64 0, .slice none 0 0] := oq
 have apq : Apart p q := hp.apart nq
 replace hp := hp.le le1
 refine ob_i hp.nilC (ob_i (hp.fa 0) (ob_i (hp.ld 0 rfl) (ob_i (vInt_mul (a := 2) (by omega) (by omega)) ?_)))
 refine ob_i (vInt_add (by omega) (by omega)) (ob_i hp.nilC (ob_i (hp.fa 1) (ob_i (hp.ld 1 rfl) (ob_i (vInt_mul (a := 2) (by omega) (by omega)) ?_))))
 refine ob_i (vInt_add (by omega) (by omega)) (C.c23 (by omega) (by omega) (by omega) (by omega) (fun u H2 ou nu le2 => ⟨le2, ?_⟩))
 have aqu : Apart q u := oq.apart nu
 have apu : Apart p u := hp.apart nu
 have nu0 : Nw H u := nu.le le1
 refine nw_i (fun s H3 os ns le3 => ?_)
 have aus : Apart u s := ou.apart ns
 replace oq := oq.le le2
 have aqs : Apart q s := oq.apart ns
 replace hp := hp.le le2
 have aps : Apart p s := hp.apart ns
 have ns0 : Nw H s := ns.le (le1.trans le2)
 replace ou := ou.le le3
 refine os.stn (ws := [.int .i64 (r + 2 * b), .int .i64 (c + 2 * b), u]) rfl rfl (oc1 rfl (oc1 rfl (oc1 ou.one oc0))) (fun H4 os off4 => ?_)
 have leB : Le H H4 := off4.le ((le1.trans le2).trans le3) ns0
 refine jn_i (fun σ' H' => σ' 4 = q ∧ σ' 5 = s ∧ Cel H' q [.int .i64 0, .int .i64 0, .slice none 0 0] ∧ Cel H' s [.int .i64 (r + 2 * b), .int .i64 (c + 2 * b), u] ∧ Own eI H' u (groW r c l b) ∧ Le H H') (fun σ' H' hP => ?_) (fun J18 hJ18 => ?_)
 replace oq := (oq.le le3).off off4 aqs
 replace ou := ou.off off4 aus
 obtain ⟨g4, g5, oq, os, ou, le⟩ := hP
 rw [g4, g5]
 refine ob_i (os.ldn rfl) (oq.stn (ws := [.int .i64 (r + 2 * b), .int .i64 (c + 2 * b), u]) rfl rfl (oc1 rfl (oc1 rfl (oc1 ou.one oc0))) (fun H5 oq off5 => ?_))
 exact ob_i (oq.ldn rfl) (hk u H5 (ou.off off5 aqu.symm) nu0 (off5.le le nq))
 replace oq := (oq.le le3).off off4 aqs
 replace hp := (hp.le le3).off off4 aps
 replace ou := ou.off off4 aus
 refine ⟨fun n σ H5 => ∃ i : Nat, n = r.toNat - i ∧ (i : Int) ≤ r ∧ σ 0 = p ∧ σ 1 = .int .i64 b ∧ σ 4 = q ∧ σ 5 = s ∧ σ 6 = .int .i64 i ∧ Cel H5 p [.int .i64 r, .int .i64 c, vc] ∧ Cel H5 q [.int .i64 0, .int .i64 0, .slice none 0 0] ∧
      Cel H5 s [.int .i64 (r + 2 * b), .int .i64 (c + 2 * b), u] ∧ Own eI H5 u (groS r c l b (i * c.toNat)) ∧ Le H H5,
    ⟨_, 0, rfl, by omega, rfl, rfl, rfl, rfl, rfl, hp, oq, os, by rw [Nat.zero_mul, groS_zero hok]; exact ou, leB⟩, ?_⟩
 rintro n σ H5 ⟨i, rfl, hir, g0, g1, g4, g5, g6, hp, oq, os, ou, le5⟩
 simp only [g0, g6]
 refine ob_i hp.nilC (ob_i (hp.fa 0) (ob_i (hp.ld 0 rfl) (ob_i (vInt_lss _ _ _) (cnd_d (fun hlt => ?_) (fun hge => ?_)))))
 refine jn_i (fun σ' H' => σ' 0 = p ∧ σ' 1 = .int .i64 b ∧ σ' 4 = q ∧ σ' 5 = s ∧ σ' 6 = .int .i64 i ∧ Cel H' p [.int .i64 r, .int .i64 c, vc] ∧ Cel H' q [.int .i64 0, .int .i64 0, .slice none 0 0] ∧
      Cel H' s [.int .i64 (r + 2 * b), .int .i64 (c + 2 * b), u] ∧ Own eI H' u (groS r c l b ((i + 1) * c.toNat)) ∧ Le H H') (fun σ' H' hP => ?_) (fun J27 hJ27 => ?_)
 obtain ⟨z0, z1, z4, z5, z6, zp, zq, zs, zu, zle⟩ := hP
 rw [z6]
 exact ob_i (vInt_add (by omega) (by omega)) (nxt (r.toNat - (i + 1)) (by omega) ⟨i + 1, rfl, by omega, z0, z1, z4, z5, rfl, zp, zq, zs, zu, zle⟩)
 refine ⟨fun n σ H6 => ∃ k : Nat, n = c.toNat - k ∧ (k : Int) ≤ c ∧ σ 0 = p ∧ σ 1 = .int .i64 b ∧ σ 4 = q ∧ σ 5 = s ∧ σ 6 = .int .i64 i ∧ σ 7 = .int .i64 k ∧ Cel H6 p [.int .i64 r, .int .i64 c, vc] ∧ Cel H6 q [.int .i64 0, .int .i64 0, .slice none 0 0] ∧
      Cel H6 s [.int .i64 (r + 2 * b), .int .i64 (c + 2 * b), u] ∧ Own eI H6 u (groS r c l b (i * c.toNat + k)) ∧ Le H H6,
    ⟨_, 0, rfl, by omega, g0, g1, g4, g5, g6, rfl, hp, oq, os, ou, le5⟩, ?_⟩
 rintro n σ H6 ⟨k, rfl, hkc, z0, z1, z4, z5, z6, z7, hp, oq, os, ou, le6⟩
 simp only [z0, z1, z5, z6, z7]
 refine ob_i hp.nilC (ob_i (hp.fa 1) (ob_i (hp.ld 1 rfl) (ob_i (vInt_lss _ _ _) (cnd_d (fun hkl => ?_) (fun hkg => ?_)))))
 have ht : ((i * c.toNat + k : Nat) : Int) = i * c + k := cast_ix (by omega)
 have n0 : 0 ≤ ((i : Int) + b) * (c + 2 * b) := Int.mul_nonneg (by omega) (by omega)
 have n1 := Int.mul_le_mul (a := (i : Int) + b) (b := c + 2 * b) (c := r + 2 * b - b - 1) (d := c + 2 * b) (by omega) (by omega) (by omega) (by omega)
 rw [Int.sub_mul (r + 2 * b - b) 1, Int.sub_mul (r + 2 * b) b] at n1
 have n2 : 0 ≤ b * (c + 2 * b) := Int.mul_nonneg (by omega) (by omega)
 have n3 := Int.mul_le_mul (a := r + 2 * b) (b := c + 2 * b) (c := 24) (d := 24) (by omega) (by omega) (by omega) (by omega)
 have n4 : 0 ≤ (i : Int) * c := Int.mul_nonneg (by omega) (by omega)
 have n5 := Int.mul_le_mul (a := (i : Int)) (b := c) (c := r - 1) (d := c) (by omega) (by omega) (by omega) (by omega)
 rw [Int.sub_mul r 1 c] at n5
 have hm := sidesF_mul hok.1.1
 have hT := hNt (i * c.toNat + k)
 refine ob_i (os.fa 2) (ob_i (os.ld 2 rfl) (ob_i (vInt_add (by omega) (by omega)) (ob_i (os.fa 1) (ob_i (os.ld 1 rfl) (ob_i (vInt_mul (by omega) (by omega)) (ob_i (vInt_add (by omega) (by omega)) (ob_i (vInt_add (by omega) (by omega)) (ob_i hp.nilC (ob_i (hp.fa 2) ?_)))))))))
 refine ob_i (hp.ld 2 rfl) (ob_i hp.nilC (ob_i (hp.fa 1) (ob_i (hp.ld 1 rfl) (ob_i (vInt_mul (by omega) (by omega)) (ob_i (vInt_add (by omega) (by omega)) (ob_i ((hc.le le6).ix (by omega) (by omega)) (ob_i ((hc.le le6).ld 0 (by omega) (by omega)) (ob_i (ou.sl.ix (by omega) (by omega)) (ou.st (x := at_ 0 l ((i : Int) * c + k)) (by omega) (by omega) rfl rfl (fun H7 ou7 off7 => ?_))))))))))
 refine ob_i (vInt_add (by omega) (by omega)) ?_
 rw [groS_set hok (by omega) hlt (by omega) hkl _ ht] at ou7
 exact nxt (c.toNat - (k + 1)) (by omega) ⟨k + 1, rfl, by omega, z0, z1, z4, z5, z6, rfl, hp.off off7 apu, oq.off off7 aqu, os.off off7 aus.symm, ou7, off7.le le6 nu0⟩
 have e : k = c.toNat := by omega
 refine hJ27 _ _ ⟨z0, z1, z4, z5, z6, hp, oq, os, ?_, le6⟩
 rw [Nat.add_mul, Nat.one_mul, ← e]; rw [← e] at ou; exact ou
 have e : (i : Int) = r := by omega
 have ht : ((i * c.toNat : Nat) : Int) = r * c := by rw [Int.natCast_mul, Int.toNat_of_nonneg (by omega), e]
 rw [groS_end hok _ ht] at ou
 exact hJ18 _ _ ⟨g4, g5, oq, os, ou, le5⟩

theorem C.c26 (hc : Sl eI H vc l)
    (k1 : l.length ≤ 9223372036854775807)
    (hk : ∀ u H', Own eI H' u (groL r c l b) → Nw H u → Le H H' → K (.tuple #[.agg #[.int .i64 (groI (r + 2 * b) r c l b), .int .i64 (groI (c + 2 * b) r c l b), u], .bool (decide (groOk r c l b))]) H') :
    HT prg 64 [.agg #[.int .i64 r, .int .i64 c, vc], .int .i64 b].toArray H K := by
 refine R.q64 ?_
 unfold F.q64
 refine nw_i (fun p H1 hp np le1 => ?_)
 replace hp : Cel H1 p [.int .i64 r, .int .i64 c, vc] := hp
 refine nw_i (fun s H2 os ns le2 => ?_)
 replace os : Cel H2 s [.int .i64 0, .int .i64 0, .slice none 0 0] := os
 have leB := le1.trans le2
 have ns0 : Nw H s := ns.le le1
 have bad : ¬ groOk r c l b → HL.ob (vBuild [(0, 1), (1, 1), (2, 1)] (.agg #[(.int .i64 0), (.int .i64 0), (.slice none 0 0)]) []) fun v32 =>
      st 3 s v32 H2 fun H66 => HL.ob (vLoadN 3 s H66) fun u67 => K (.tuple #[u67, (.bool false)]) H66 := by
    intro hn
    refine ob_i (a := .agg #[.int .i64 0, .int .i64 0, .slice none 0 0]) rfl ?_
    refine os.stn (ws := [.int .i64 0, .int .i64 0, .slice none 0 0]) rfl rfl (by simp [oneCell]) (fun H5 os off5 => ?_)
    refine ob_i (os.ldn rfl) ?_
    have h1 := hk (.slice none 0 0) H5
    simp only [groL, groI, hn, if_false, decide_false] at h1
    exact h1 (Own.nil_of none) (fun b hb => by simp [bk] at hb) (off5.le leB ns0)
 replace hp := hp.le le2
 refine C.c5 hp (hc.le leB) k1 ?_
 rw [vUn_not, ob_some]
 by_cases c1 : fieldN 1 r c l
 have q1 := c1.1.1
 have q2 := c1.1.2
 simp only [decide_eq_true c1, EV]
 refine C.c0 ?_
 by_cases c2 : 0 ≤ b ∧ b ≤ 24
 have m1 : vInt .mul (.int .i64 2) (.int .i64 b) = some (.int .i64 (2 * b)) := vInt_mul (by omega) (by omega)
 have m2 : vInt .add (.int .i64 r) (.int .i64 (2 * b)) = some (.int .i64 (r + 2 * b)) := vInt_add (by omega) (by omega)
 have m3 : vInt .add (.int .i64 c) (.int .i64 (2 * b)) = some (.int .i64 (c + 2 * b)) := vInt_add (by omega) (by omega)
 simp only [decide_eq_true c2, hp.fa, hp.ld 0 rfl, hp.ld 1 rfl, m1, m2, m3, EV]
 refine C.c24 ?_
 by_cases c3 : (1 ≤ r + 2 * b ∧ r + 2 * b ≤ 24) ∧ 1 ≤ c + 2 * b ∧ c + 2 * b ≤ 24
 have hok : groOk r c l b := ⟨c1, c2, c3.1, c3.2⟩
 simp only [decide_eq_true c3, EV]
 refine C.c25 hp (hc.le leB) hok (fun u H5 ou nu le5 => ?_)
 have asu : Apart s u := os.apart nu
 replace os := os.le le5
 refine os.stn (ws := [.int .i64 (r + 2 * b), .int .i64 (c + 2 * b), u]) rfl rfl (oc1 rfl (oc1 rfl (oc1 ou.one oc0))) (fun H6 os off6 => ?_)
 refine ob_i (os.ldn rfl) ?_
 have h1 := hk u H6
 simp only [groL, groI, hok, if_true, decide_true] at h1
 exact h1 (ou.off off6 asu.symm) (nu.le leB) (off6.le (leB.trans le5) ns0)
 simp only [decide_eq_false c3, EV]; exact bad (fun h => c3 ⟨h.2.2.1, h.2.2.2⟩)
 simp only [decide_eq_false c2, EV]; exact bad (fun h => c2 h.2.1)
 simp only [decide_eq_false c1, EV]; exact bad (fun h => c1 h.1)

end Go.Proofs.YtnijdhlmimemcaaGreatDoor
/- The smallest part of a field with all cells of 1. -/
namespace Go.Proofs.YtnijdhlmimemcaaGreatDoor
open HL
variable {c i k a b r row col rows cols : Int} {N t : Nat} {l : List Int} {H : Hp} {K : Value → Hp → Prop} {p vc : Value}
set_option maxRecDepth 100000
/-- Cells that are filled one behind the other. -/
def fillL (c : Int) (g : Int → Int → Int) (N t : Nat) : List Int := (List.range N).map fun (j : Nat) => if j < t then g ((j : Int) / c) ((j : Int) % c) else 0
theorem fillL_length (c : Int) (g : Int → Int → Int) (N t : Nat) : (fillL c g N t).length = N := by simp [fillL]
theorem fillL_zero (c : Int) (g : Int → Int → Int) (N : Nat) : fillL c g N 0 = List.replicate N 0 := by
  rw [List.eq_replicate_iff]
  refine ⟨fillL_length c g N 0, fun x hx => ?_⟩
  simp only [fillL, List.mem_map] at hx
  obtain ⟨j, _, rfl⟩ := hx
  rw [if_neg (by omega)]
theorem fillL_end {g : Int → Int → Int} (h : N ≤ t) : fillL c g N t = mkL c g N := by
  unfold fillL mkL
  apply List.map_congr_left
  intro j hj
  have := List.mem_range.mp hj
  rw [if_pos (by omega)]
theorem fillL_set {g : Int → Int → Int} (hc : 0 < c) (k0 : 0 ≤ k) (k1 : k < c) (ht : (t : Int) = i * c + k) (h : 0 ≤ i * c) : (fillL c g N t).set (i * c + k).toNat (g i k) = fillL c g N (t + 1) := by
  have hd := divmod (c := c) (i := i) (k := k) hc k0 k1
  rw [show (i * c + k).toNat = t by omega]
  apply List.ext_getElem?
  intro j
  rw [List.getElem?_set]
  simp only [fillL, List.getElem?_map, List.length_map, List.length_range]
  by_cases e : t = j
  · subst e
    rw [if_pos rfl]
    by_cases hj : t < N
    · rw [if_pos hj, List.getElem?_range hj]
      simp only [Option.map_some]
      rw [if_pos (by omega), ht, hd.1, hd.2]
    · rw [if_neg hj, List.getElem?_eq_none (by simpa using hj)]; rfl
  · rw [if_neg e]
    by_cases hj : j < N
    · rw [List.getElem?_range hj]
      simp only [Option.map_some]
      by_cases h1 : j < t
      · rw [if_pos h1, if_pos (by omega)]
      · rw [if_neg h1, if_neg (by omega)]
    · rw [List.getElem?_eq_none (by simpa using hj)]; rfl
theorem ix_lt (a0 : 0 ≤ a) (a1 : a < r) (b0 : 0 ≤ b) (b1 : b < c) : 0 ≤ a * c ∧ a * c + b < r * c := by
  have := Int.mul_nonneg a0 (show (0 : Int) ≤ c by omega)
  have := Int.mul_le_mul (a := a) (b := c) (c := r - 1) (d := c) (by omega) (by omega) (by omega) (by omega)
  rw [Int.sub_mul] at this
  omega
theorem ix_le (a0 : 0 ≤ a) (a1 : a ≤ 24) (b0 : 0 ≤ b) (b1 : b ≤ 24) : 0 ≤ a * b ∧ a * b ≤ 576 := by
  have := Int.mul_nonneg a0 b0
  have := Int.mul_le_mul a1 b1 b0 (by omega)
  omega
theorem fillL_len {g : Int → Int → Int} {rr cc : Int} (h1 : 0 ≤ rr) (h2 : 0 ≤ cc) : ((fillL c g (rr.toNat * cc.toNat) t).length : Int) = rr * cc := by
  rw [fillL_length, Int.natCast_mul, Int.toNat_of_nonneg h1, Int.toNat_of_nonneg h2]
/-- A part of a field. -/
def cutG (c : Int) (l : List Int) (row col i k : Int) : Int := at_ 0 l ((row + i) * c + col + k)
/-- Where the cells of 1 lie, of the first t cells: top, bottom, left, right. -/
def trStep (c : Int) (l : List Int) (s : Int × Int × Int × Int) (j : Nat) : Int × Int × Int × Int :=
  if at_ 0 l (j : Int) = 1 then (min s.1 ((j : Int) / c), max s.2.1 ((j : Int) / c), min s.2.2.1 ((j : Int) % c), max s.2.2.2 ((j : Int) % c)) else s
def trS (r c : Int) (l : List Int) (t : Nat) : Int × Int × Int × Int := (List.range t).foldl (trStep c l) (r, -1, c, -1)
theorem trS_t (h : at_ 0 l (t : Int) = 1) :
    trS r c l (t + 1) = (min (trS r c l t).1 ((t : Int) / c), max (trS r c l t).2.1 ((t : Int) / c), min (trS r c l t).2.2.1 ((t : Int) % c), max (trS r c l t).2.2.2 ((t : Int) % c)) := by
  unfold trS
  rw [List.range_succ, List.foldl_append, List.foldl_cons, List.foldl_nil, trStep, if_pos h]
theorem trS_f (h : ¬ at_ 0 l (t : Int) = 1) : trS r c l (t + 1) = trS r c l t := by
  unfold trS
  rw [List.range_succ, List.foldl_append, List.foldl_cons, List.foldl_nil, trStep, if_neg h]
theorem trS_t2 (hc : 0 < c) (k0 : 0 ≤ k) (k1 : k < c) (ht : (t : Int) = i * c + k) (h : at_ 0 l (i * c + k) = 1) :
    trS r c l (t + 1) = (min (trS r c l t).1 i, max (trS r c l t).2.1 i, min (trS r c l t).2.2.1 k, max (trS r c l t).2.2.2 k) := by
  have hd := divmod (c := c) (i := i) (k := k) hc k0 k1
  rw [trS_t (by rw [ht]; exact h), ht, hd.1, hd.2]
theorem trS_f2 (ht : (t : Int) = i * c + k) (h : ¬ at_ 0 l (i * c + k) = 1) : trS r c l (t + 1) = trS r c l t := trS_f (by rw [ht]; exact h)
theorem trS_inv {r c : Int} {l : List Int} (hs : sidesF r c) : ∀ t : Nat, (t : Int) ≤ r * c →
    trS r c l t = (r, -1, c, -1) ∨ ((0 ≤ (trS r c l t).1 ∧ (trS r c l t).1 ≤ (trS r c l t).2.1 ∧ (trS r c l t).2.1 < r) ∧ 0 ≤ (trS r c l t).2.2.1 ∧ (trS r c l t).2.2.1 ≤ (trS r c l t).2.2.2 ∧ (trS r c l t).2.2.2 < c)
  | 0, _ => .inl rfl
  | t + 1, h => by
    have q1 := hs.1
    have q2 := hs.2
    have d1 := Int.ediv_nonneg (a := (t : Int)) (b := c) (by omega) (by omega)
    have d2 : (t : Int) / c < r := Int.ediv_lt_of_lt_mul (by omega) (by omega)
    have d3 := Int.emod_nonneg (t : Int) (b := c) (by omega)
    have d4 := Int.emod_lt_of_pos (t : Int) (b := c) (by omega)
    by_cases e : at_ 0 l (t : Int) = 1
    · rw [trS_t e]
      refine .inr ?_
      rcases trS_inv (l := l) hs t (by omega) with h1 | h1
      · rw [h1]; simp only; omega
      · simp only; omega
    · rw [trS_f e]
      exact trS_inv hs t (by omega)
theorem trS_bnd (hs : sidesF r c) (t : Nat) (h : (t : Int) ≤ r * c) : (0 ≤ (trS r c l t).1 ∧ (trS r c l t).1 ≤ r ∧ -1 ≤ (trS r c l t).2.1 ∧ (trS r c l t).2.1 < r) ∧ 0 ≤ (trS r c l t).2.2.1 ∧ (trS r c l t).2.2.1 ≤ c ∧ -1 ≤ (trS r c l t).2.2.2 ∧ (trS r c l t).2.2.2 < c := by
  have q1 := hs.1
  have q2 := hs.2
  rcases trS_inv (l := l) hs t h with h1 | h1
  · rw [h1]; simp only; omega
  · omega
theorem trS_ok (hs : sidesF r c) (t : Nat) (h : (t : Int) ≤ r * c) (hb : 0 ≤ (trS r c l t).2.1) : (trS r c l t).1 ≤ (trS r c l t).2.1 ∧ (trS r c l t).2.2.1 ≤ (trS r c l t).2.2.2 := by
  rcases trS_inv (l := l) hs t h with h1 | h1
  · rw [h1] at hb; simp only at hb; omega
  · omega
/-- The smallest part: its sides, its cells, and where it begins. -/
def trm (r c : Int) (l : List Int) : Int × Int × Int × Int := trS r c l (r * c).toNat
def trR (r c : Int) (l : List Int) : Int := (trm r c l).2.1 - (trm r c l).1 + 1
def trC (r c : Int) (l : List Int) : Int := (trm r c l).2.2.2 - (trm r c l).2.2.1 + 1
def trL (r c : Int) (l : List Int) : List Int := mkL (trC r c l) (cutG c l (trm r c l).1 (trm r c l).2.2.1) ((trR r c l).toNat * (trC r c l).toNat)
theorem trm_bnd (hs : sidesF r c) (hb : 0 ≤ (trm r c l).2.1) : 0 ≤ (trm r c l).1 ∧ 0 ≤ (trm r c l).2.2.1 ∧ 1 ≤ trR r c l ∧ 1 ≤ trC r c l ∧ (trm r c l).1 + trR r c l ≤ r ∧ (trm r c l).2.2.1 + trC r c l ≤ c := by
  have m := sidesF_mul hs
  have b := trS_bnd (l := l) hs (r * c).toNat (by omega)
  have d := trS_ok (l := l) hs (r * c).toNat (by omega) hb
  unfold trR trC trm
  omega
def trimOk (r c : Int) (l : List Int) : Prop := fieldN 1 r c l ∧ 0 ≤ (trm r c l).2.1
instance (r c : Int) (l : List Int) : Decidable (trimOk r c l) := by unfold trimOk; infer_instance
theorem C.c27 (hk : K (.int .i64 (min a b)) H) : HT prg 138 [.int .i64 a, .int .i64 b].toArray H K := by
 refine R.q138 ?_
 unfold F.q138
 rw [vInt_lss, ob_some]
 refine cnd_d (fun h => ?_) (fun h => ?_)
 rw [show min a b = a by omega] at hk; exact hk
 rw [show min a b = b by omega] at hk; exact hk

theorem C.c28 (hk : K (.int .i64 (max a b)) H) : HT prg 92 [.int .i64 a, .int .i64 b].toArray H K := by
 refine R.q92 ?_
 unfold F.q92
 rw [vInt_gtr, ob_some]
 refine cnd_d (fun h => ?_) (fun h => ?_)
 rw [show max a b = a by omega] at hk; exact hk
 rw [show max a b = b by omega] at hk; exact hk

theorem C.c29 (hp0 : Cel H p [.int .i64 r, .int .i64 c, vc]) (hvc0 : Sl eI H vc l) (hs : sidesF r c) (hl : (l.length : Int) = r * c)
    (h0 : 0 ≤ row) (h1 : 0 ≤ col) (h2 : 1 ≤ rows) (h3 : 1 ≤ cols) (h4 : row + rows ≤ r) (h5 : col + cols ≤ c) (hk : ∀ u H', Own eI H' u (mkL cols (cutG c l row col) (rows.toNat * cols.toNat)) → Nw H u → Le H H' → K (.agg #[.int .i64 rows, .int .i64 cols, u]) H') :
    HT prg 139 [p, .int .i64 row, .int .i64 col, .int .i64 rows, .int .i64 cols].toArray H K := by
 have q1 := hs.1
 have q2 := hs.2
 have lE := Le.refl H
 refine R.q139 ?_
 unfold F.q139
 refine nw_i (fun q H1 oq nn2 le3 => ?_)
 have nq := nn2.le lE
 replace oq : Cel H1 q [(.int .i64 (0)), (.int .i64 (0)), (.slice none 0 0)] := oq
 refine C.c23 (by omega) (by omega) (by omega) (by omega) (fun u H4 ou nn6  le5 => ?_)
 have aqXu := oq.apart nn6
 replace lE := lE.trans le3
 have nu := nn6.le lE
 refine nw_i (fun s H7 os nn8 le9 => ?_)
 replace oq := oq.le le5
 have aqXs := oq.apart nn8
 have auXs := ou.apart nn8
 replace lE := lE.trans le5
 have ns := nn8.le lE
 replace ou := ou.le le9
 refine os.stn (ws := [(.int .i64 (rows)), (.int .i64 (cols)), u]) rfl rfl (oc1 rfl (oc1 rfl (oc1 ou.one oc0))) (fun H10 os off11 => ?_)
 refine jn_i (fun σ' H' => σ' 10 = q ∧ σ' 11 = s ∧ Cel H' q [(.int .i64 (0)), (.int .i64 (0)), (.slice none 0 0)] ∧ Own eI H' u (mkL cols (cutG c l row col) (rows.toNat * cols.toNat)) ∧ Cel H' s [(.int .i64 (rows)), (.int .i64 (cols)), u] ∧ Le H H') (fun σ12 H12 hP => ?_) (fun J12 hJ12 => ?_)
 replace oq := (oq.le le9).off off11 aqXs
 replace lE := off11.le (lE.trans le9) ns
 replace ou := ou.off off11 auXs
 obtain ⟨g10L12, g11L12, oq, ou, os, lE⟩ := hP
 simp only [g10L12, g11L12]
 refine ob_i (os.ldn rfl) (oq.stn (ws := [(.int .i64 (rows)), (.int .i64 (cols)), u]) rfl rfl (oc1 rfl (oc1 rfl (oc1 ou.one oc0))) (fun H13 oq off14 => ?_))
 refine ob_i (oq.ldn rfl) ?_
 replace ou := ou.off off14 aqXu.symm
 replace lE := off14.le lE nq
 exact hk u _ ou nu lE
 replace oq := (oq.le le9).off off11 aqXs
 replace lE := off11.le (lE.trans le9) ns
 replace ou := ou.off off11 auXs
 refine ⟨fun n' σ' H' => ∃ i : Nat, n' = rows.toNat - i ∧ i ≤ rows.toNat ∧ σ' 0 = p ∧ σ' 1 = (.int .i64 (row)) ∧ σ' 2 = (.int .i64 (col)) ∧ σ' 3 = (.int .i64 (rows)) ∧ σ' 4 = (.int .i64 (cols)) ∧ σ' 10 = q ∧ σ' 11 = s ∧ σ' 12 = (.int .i64 ((i : Int))) ∧ Cel H' q [(.int .i64 (0)), (.int .i64 (0)), (.slice none 0 0)] ∧ Own eI H' u (fillL cols (cutG c l row col) (rows.toNat * cols.toNat) (i * cols.toNat)) ∧ Cel H' s [(.int .i64 (rows)), (.int .i64 (cols)), u] ∧ Le H H',
    ⟨_, 0, rfl, by omega, rfl, rfl, rfl, rfl, rfl, rfl, rfl, rfl, oq, by rw [Nat.zero_mul, fillL_zero]; exact ou, os, lE⟩, ?_⟩
 rintro n15 σ15 H15 ⟨i, rfl, hiN, g0L15, g1L15, g2L15, g3L15, g4L15, g10L15, g11L15, g12L15, oq, ou, os, lE⟩
 simp only [g3L15, g12L15]
 refine ob_i (vInt_lss _ _ _) (cnd_d (fun hg16 => ?_) (fun hg16 => ?_))
 have ti := hg16
 refine jn_i (fun σ' H' => σ' 0 = p ∧ σ' 1 = (.int .i64 (row)) ∧ σ' 2 = (.int .i64 (col)) ∧ σ' 3 = (.int .i64 (rows)) ∧ σ' 4 = (.int .i64 (cols)) ∧ σ' 10 = q ∧ σ' 11 = s ∧ σ' 12 = (.int .i64 ((i : Int))) ∧ Cel H' q [(.int .i64 (0)), (.int .i64 (0)), (.slice none 0 0)] ∧ Own eI H' u (fillL cols (cutG c l row col) (rows.toNat * cols.toNat) ((i + 1) * cols.toNat)) ∧ Cel H' s [(.int .i64 (rows)), (.int .i64 (cols)), u] ∧ Le H H') (fun σ17 H17 hP => ?_) (fun J17 hJ17 => ?_)
 obtain ⟨g0L17, g1L17, g2L17, g3L17, g4L17, g10L17, g11L17, g12L17, oq, ou, os, lE⟩ := hP
 simp only [g12L17]
 exact ob_i (vInt_add (by omega) (by omega)) (nxt (rows.toNat - (i + 1)) (by omega) ⟨i + 1, rfl, by omega, g0L17, g1L17, g2L17, g3L17, g4L17, g10L17, g11L17, rfl, oq, ou, os, lE⟩)
 refine ⟨fun n' σ' H' => ∃ k : Nat, n' = cols.toNat - k ∧ k ≤ cols.toNat ∧ σ' 0 = p ∧ σ' 1 = (.int .i64 (row)) ∧ σ' 2 = (.int .i64 (col)) ∧ σ' 3 = (.int .i64 (rows)) ∧ σ' 4 = (.int .i64 (cols)) ∧ σ' 10 = q ∧ σ' 11 = s ∧ σ' 12 = (.int .i64 ((i : Int))) ∧ σ' 13 = (.int .i64 ((k : Int))) ∧ Cel H' q [(.int .i64 (0)), (.int .i64 (0)), (.slice none 0 0)] ∧ Own eI H' u (fillL cols (cutG c l row col) (rows.toNat * cols.toNat) (i * cols.toNat + k)) ∧ Cel H' s [(.int .i64 (rows)), (.int .i64 (cols)), u] ∧ Le H H',
    ⟨_, 0, rfl, by omega, g0L15, g1L15, g2L15, g3L15, g4L15, g10L15, g11L15, g12L15, rfl, oq, ou, os, lE⟩, ?_⟩
 rintro n18 σ18 H18 ⟨k, rfl, hkN, g0L18, g1L18, g2L18, g3L18, g4L18, g10L18, g11L18, g12L18, g13L18, oq, ou, os, lE⟩
 simp only [g0L18, g1L18, g2L18, g4L18, g11L18, g12L18, g13L18]
 refine ob_i (vInt_lss _ _ _) (cnd_d (fun hg19 => ?_) (fun hg19 => ?_))
 have tk := hg19
 have x1 := ix_lt (a := row + i) (b := col + k) (r := r) (c := c) (by omega) (by omega) (by omega) (by omega)
 have x2 := ix_lt (a := (i : Int)) (b := (k : Int)) (r := rows) (c := cols) (by omega) (by omega) (by omega) (by omega)
 have x3 := fillL_len (c := cols) (g := cutG c l row col) (rr := rows) (cc := cols) (t := i * cols.toNat + k) (by omega) (by omega)
 have x4 := sidesF_mul hs
 have x5 := ix_le (a := rows) (b := cols) (by omega) (by omega) (by omega) (by omega)
 refine ob_i (os.fa 2) (ob_i (os.ld 2 rfl) (ob_i (vInt_mul (by omega) (by omega)) (ob_i (vInt_add (by omega) (by omega)) (ob_i ((hp0.le lE).nilC) (ob_i ((hp0.le lE).fa 2) (ob_i ((hp0.le lE).ld 2 rfl) (ob_i (vInt_add (by omega) (by omega)) (ob_i ((hp0.le lE).nilC) (ob_i ((hp0.le lE).fa 1) ?_)))))))))
 refine ob_i ((hp0.le lE).ld 1 rfl) (ob_i (vInt_mul (by omega) (by omega)) (ob_i (vInt_add (by omega) (by omega)) (ob_i (vInt_add (by omega) (by omega)) (ob_i ((hvc0.le lE).ix (by omega) (by omega)) (ob_i ((hvc0.le lE).ld 0 (by omega) (by omega)) (ob_i (ou.sl.ix (by omega) (by omega)) (ou.st (x := at_ 0 (l) ((((row + (i : Int)) * c) + col) + (k : Int))) (by omega) (by omega) rfl rfl (fun H20 ou off21 => ?_))))))))
 refine ob_i (vInt_add (by omega) (by omega)) ?_
 have e := fillL_set (c := cols) (g := cutG c l row col) (N := (rows.toNat * cols.toNat)) (i := i) (k := k) (t := i * cols.toNat + k) (by omega) (by omega) (by omega) (cast_ix (by omega)) (by omega)
 replace ou : Own eI H20 u (fillL cols (cutG c l row col) (rows.toNat * cols.toNat) (i * cols.toNat + (k + 1))) := by rw [← Nat.add_assoc, ← e]; exact ou
 replace oq := oq.off off21 aqXu
 replace os := os.off off21 auXs.symm
 replace lE := off21.le lE nu
 exact nxt (cols.toNat - (k + 1)) (by omega) ⟨k + 1, rfl, by omega, g0L18, g1L18, g2L18, g3L18, g4L18, g10L18, g11L18, g12L18, rfl, oq, ou, os, lE⟩
 have tk := hg19
 rw [show i * cols.toNat + k = (i + 1) * cols.toNat by rw [Nat.add_mul, Nat.one_mul]; omega] at ou
 exact hJ17 _ _ ⟨g0L18, g1L18, g2L18, g3L18, g4L18, g10L18, g11L18, g12L18, oq, ou, os, lE⟩
 have ti := hg16
 rw [fillL_end (by rw [show i = rows.toNat by omega]; exact Nat.le_refl _)] at ou
 exact hJ12 _ _ ⟨g10L15, g11L15, oq, ou, os, lE⟩

theorem C.c30 (hp0 : Cel H p [.int .i64 r, .int .i64 c, vc]) (hvc0 : Sl eI H vc l) (hs : sidesF r c) (hl : (l.length : Int) = r * c)
    (hk1 : (trm r c l).2.1 < 0 → ∀ H', Le H H' → K (.tuple #[.agg #[.int .i64 0, .int .i64 0, .slice none 0 0], .int .i64 0, .int .i64 0, .bool false]) H')
    (hk2 : 0 ≤ (trm r c l).2.1 → ∀ u H', Own eI H' u (trL r c l) → Nw H u → Le H H' → K (.tuple #[.agg #[.int .i64 (trR r c l), .int .i64 (trC r c l), u], .int .i64 (trm r c l).1, .int .i64 (trm r c l).2.2.1, .bool true]) H') :
    HT prg 110 [p].toArray H K := by
 have q1 := hs.1
 have q2 := hs.2
 have m := sidesF_mul hs
 change (trS r c l (r * c).toNat).2.1 < 0 → _ at hk1
 change 0 ≤ (trS r c l (r * c).toNat).2.1 → _ at hk2
 have lE := Le.refl H
 refine R.q110 ?_
 unfold F.q110
 refine nw_i (fun q H1 oq nn2 le3 => ?_)
 have nq := nn2.le lE
 replace oq : Cel H1 q [(.int .i64 (0)), (.int .i64 (0)), (.slice none 0 0)] := oq
 replace lE := lE.trans le3
 refine ob_i ((hp0.le lE).nilC) (ob_i ((hp0.le lE).fa 0) (ob_i ((hp0.le lE).ld 0 rfl) (ob_i ((hp0.le lE).nilC) (ob_i ((hp0.le lE).fa 1) (ob_i ((hp0.le lE).ld 1 rfl) (jn_i (fun σ' H' => σ' 0 = p ∧ σ' 2 = q ∧ σ' 6 = (.int .i64 ((trS r c l ((r * c).toNat)).1)) ∧ σ' 7 = (.int .i64 ((trS r c l ((r * c).toNat)).2.1)) ∧ σ' 8 = (.int .i64 ((trS r c l ((r * c).toNat)).2.2.1)) ∧ σ' 9 = (.int .i64 ((trS r c l ((r * c).toNat)).2.2.2)) ∧ Cel H' q [(.int .i64 (0)), (.int .i64 (0)), (.slice none 0 0)] ∧ Le H H') (fun σ4 H4 hP => ?_) (fun J4 hJ4 => ?_)))))))
 obtain ⟨g0L4, g2L4, g6L4, g7L4, g8L4, g9L4, oq, lE⟩ := hP
 simp only [g0L4, g2L4, g6L4, g7L4, g8L4, g9L4]
 have b := trS_bnd (l := l) hs (r * c).toNat (by omega)
 have b2 := trS_ok (l := l) hs (r * c).toNat (by omega)
 refine ob_i (vInt_lss _ _ _) (cnd_d (fun hg5 => ?_) (fun hg5 => ?_))
 refine ob_i (a := (.agg #[(.int .i64 (0)), (.int .i64 (0)), (.slice none 0 0)])) (by rfl) ?_
 refine oq.stn (ws := [(.int .i64 (0)), (.int .i64 (0)), (.slice none 0 0)]) rfl rfl (oc1 rfl (oc1 rfl (oc1 rfl oc0))) (fun H6 oq off7 => ?_)
 refine ob_i (oq.ldn rfl) ?_
 replace lE := off7.le lE nq
 exact hk1 (by omega) _ lE
 refine ob_i (vInt_sub (by omega) (by omega)) (ob_i (vInt_add (by omega) (by omega)) (ob_i (vInt_sub (by omega) (by omega)) (ob_i (vInt_add (by omega) (by omega)) (C.c29 (hp0.le lE) (hvc0.le lE) hs hl (by omega) (by omega) (by omega) (by omega) (by omega) (by omega) (fun u10 H8 ou10 nn11  le9 => ?_)))))
 have aqXu10 := oq.apart nn11
 have nu10 := nn11.le lE
 replace oq := oq.le le9
 refine oq.stn (ws := [(.int .i64 ((((trS r c l ((r * c).toNat)).2.1) - ((trS r c l ((r * c).toNat)).1)) + 1)), (.int .i64 ((((trS r c l ((r * c).toNat)).2.2.2) - ((trS r c l ((r * c).toNat)).2.2.1)) + 1)), u10]) rfl rfl (oc1 rfl (oc1 rfl (oc1 ou10.one oc0))) (fun H12 oq off13 => ?_)
 refine ob_i (oq.ldn rfl) ?_
 replace lE := off13.le (lE.trans le9) nq
 replace ou10 := ou10.off off13 aqXu10.symm
 exact hk2 (by omega) u10 _ ou10 nu10 lE
 refine ⟨fun n' σ' H' => ∃ i : Nat, n' = r.toNat - i ∧ i ≤ r.toNat ∧ σ' 0 = p ∧ σ' 2 = q ∧ σ' 6 = (.int .i64 ((trS r c l (i * c.toNat)).1)) ∧ σ' 7 = (.int .i64 ((trS r c l (i * c.toNat)).2.1)) ∧ σ' 8 = (.int .i64 ((trS r c l (i * c.toNat)).2.2.1)) ∧ σ' 9 = (.int .i64 ((trS r c l (i * c.toNat)).2.2.2)) ∧ σ' 10 = (.int .i64 ((i : Int))) ∧ Cel H' q [(.int .i64 (0)), (.int .i64 (0)), (.slice none 0 0)] ∧ Le H H',
    ⟨_, 0, rfl, by omega, rfl, rfl, by rw [Nat.zero_mul]; rfl, by rw [Nat.zero_mul]; rfl, by rw [Nat.zero_mul]; rfl, by rw [Nat.zero_mul]; rfl, rfl, oq, lE⟩, ?_⟩
 rintro n14 σ14 H14 ⟨i, rfl, hiN, g0L14, g2L14, g6L14, g7L14, g8L14, g9L14, g10L14, oq, lE⟩
 simp only [g0L14, g10L14]
 refine ob_i ((hp0.le lE).nilC) (ob_i ((hp0.le lE).fa 0) (ob_i ((hp0.le lE).ld 0 rfl) (ob_i (vInt_lss _ _ _) (cnd_d (fun hg15 => ?_) (fun hg15 => ?_)))))
 have ti := hg15
 refine jn_i (fun σ' H' => σ' 0 = p ∧ σ' 2 = q ∧ σ' 6 = (.int .i64 ((trS r c l ((i + 1) * c.toNat)).1)) ∧ σ' 7 = (.int .i64 ((trS r c l ((i + 1) * c.toNat)).2.1)) ∧ σ' 8 = (.int .i64 ((trS r c l ((i + 1) * c.toNat)).2.2.1)) ∧ σ' 9 = (.int .i64 ((trS r c l ((i + 1) * c.toNat)).2.2.2)) ∧ σ' 10 = (.int .i64 ((i : Int))) ∧ Cel H' q [(.int .i64 (0)), (.int .i64 (0)), (.slice none 0 0)] ∧ Le H H') (fun σ16 H16 hP => ?_) (fun J16 hJ16 => ?_)
 obtain ⟨g0L16, g2L16, g6L16, g7L16, g8L16, g9L16, g10L16, oq, lE⟩ := hP
 simp only [g10L16]
 exact ob_i (vInt_add (by omega) (by omega)) (nxt (r.toNat - (i + 1)) (by omega) ⟨i + 1, rfl, by omega, g0L16, g2L16, g6L16, g7L16, g8L16, g9L16, rfl, oq, lE⟩)
 refine ⟨fun n' σ' H' => ∃ k : Nat, n' = c.toNat - k ∧ k ≤ c.toNat ∧ σ' 0 = p ∧ σ' 2 = q ∧ σ' 6 = (.int .i64 ((trS r c l (i * c.toNat + k)).1)) ∧ σ' 7 = (.int .i64 ((trS r c l (i * c.toNat + k)).2.1)) ∧ σ' 8 = (.int .i64 ((trS r c l (i * c.toNat + k)).2.2.1)) ∧ σ' 9 = (.int .i64 ((trS r c l (i * c.toNat + k)).2.2.2)) ∧ σ' 10 = (.int .i64 ((i : Int))) ∧ σ' 11 = (.int .i64 ((k : Int))) ∧ Cel H' q [(.int .i64 (0)), (.int .i64 (0)), (.slice none 0 0)] ∧ Le H H',
    ⟨_, 0, rfl, by omega, g0L14, g2L14, g6L14, g7L14, g8L14, g9L14, g10L14, rfl, oq, lE⟩, ?_⟩
 rintro n17 σ17 H17 ⟨k, rfl, hkN, g0L17, g2L17, g6L17, g7L17, g8L17, g9L17, g10L17, g11L17, oq, lE⟩
 simp only [g0L17, g6L17, g7L17, g8L17, g9L17, g10L17, g11L17]
 refine ob_i ((hp0.le lE).nilC) (ob_i ((hp0.le lE).fa 1) (ob_i ((hp0.le lE).ld 1 rfl) (ob_i (vInt_lss _ _ _) (cnd_d (fun hg18 => ?_) (fun hg18 => ?_)))))
 have tk := hg18
 have x1 := ix_lt (a := (i : Int)) (b := (k : Int)) (r := r) (c := c) (by omega) (by omega) (by omega) (by omega)
 have x4 := sidesF_mul hs
 refine ob_i ((hp0.le lE).nilC) (ob_i ((hp0.le lE).fa 2) (ob_i ((hp0.le lE).ld 2 rfl) (ob_i ((hp0.le lE).nilC) (ob_i ((hp0.le lE).fa 1) (ob_i ((hp0.le lE).ld 1 rfl) (ob_i (vInt_mul (by omega) (by omega)) (ob_i (vInt_add (by omega) (by omega)) (ob_i ((hvc0.le lE).ix (by omega) (by omega)) (ob_i ((hvc0.le lE).ld 0 (by omega) (by omega)) ?_)))))))))
 refine ob_i (vInt_eql _ _ _) (cnd_d (fun hg19 => ?_) (fun hg19 => ?_))
 refine C.c27  ?_
 refine C.c28  ?_
 refine C.c27  ?_
 refine C.c28  ?_
 refine ob_i (vInt_add (by omega) (by omega)) ?_
 have eT := trS_t2 (r := r) (c := c) (i := (i : Int)) (k := (k : Int)) (t := i * c.toNat + k) (by omega) (by omega) (by omega) (cast_ix (by omega)) hg19
 exact nxt (c.toNat - (k + 1)) (by omega) ⟨k + 1, rfl, by omega, g0L17, g2L17, (by rw [← Nat.add_assoc, eT]; rfl), (by rw [← Nat.add_assoc, eT]; rfl), (by rw [← Nat.add_assoc, eT]; rfl), (by rw [← Nat.add_assoc, eT]; rfl), g10L17, rfl, oq, lE⟩
 refine ob_i (vInt_add (by omega) (by omega)) ?_
 have eT := trS_f2 (r := r) (c := c) (i := (i : Int)) (k := (k : Int)) (t := i * c.toNat + k) (cast_ix (by omega)) hg19
 exact nxt (c.toNat - (k + 1)) (by omega) ⟨k + 1, rfl, by omega, g0L17, g2L17, (by rw [← Nat.add_assoc, eT]; exact g6L17), (by rw [← Nat.add_assoc, eT]; exact g7L17), (by rw [← Nat.add_assoc, eT]; exact g8L17), (by rw [← Nat.add_assoc, eT]; exact g9L17), g10L17, rfl, oq, lE⟩
 have tk := hg18
 exact hJ16 _ _ ⟨g0L17, g2L17, (by rw [← show i * c.toNat + k = (i + 1) * c.toNat by rw [Nat.add_mul, Nat.one_mul]; congr 1; omega]; exact g6L17), (by rw [← show i * c.toNat + k = (i + 1) * c.toNat by rw [Nat.add_mul, Nat.one_mul]; congr 1; omega]; exact g7L17), (by rw [← show i * c.toNat + k = (i + 1) * c.toNat by rw [Nat.add_mul, Nat.one_mul]; congr 1; omega]; exact g8L17), (by rw [← show i * c.toNat + k = (i + 1) * c.toNat by rw [Nat.add_mul, Nat.one_mul]; congr 1; omega]; exact g9L17), g10L17, oq, lE⟩
 have ti := hg15
 exact hJ4 _ _ ⟨g0L14, g2L14, (by rw [← show i * c.toNat = (r * c).toNat by rw [Int.toNat_mul (by omega) (by omega)]; congr 1; omega]; exact g6L14), (by rw [← show i * c.toNat = (r * c).toNat by rw [Int.toNat_mul (by omega) (by omega)]; congr 1; omega]; exact g7L14), (by rw [← show i * c.toNat = (r * c).toNat by rw [Int.toNat_mul (by omega) (by omega)]; congr 1; omega]; exact g8L14), (by rw [← show i * c.toNat = (r * c).toNat by rw [Int.toNat_mul (by omega) (by omega)]; congr 1; omega]; exact g9L14), oq, lE⟩

theorem C.c31 {q s : Value} (hp0 : Cel H p [.int .i64 r, .int .i64 c, vc]) (hq0 : Cel H q [.int .i64 row]) (hs0 : Cel H s [.int .i64 col]) (hvc0 : Sl eI H vc l) (hs : sidesF r c) (hl : (l.length : Int) = r * c)
    (h0 : 0 ≤ row + i) (h1 : 0 ≤ col + k) (h2 : row + i < r) (h3 : col + k < c) (hk : ∀ H', Le H H' → K (.int .i64 (cutG c l row col i k)) H') : HT prg 118 [.int .i64 i, .int .i64 k, p, q, s].toArray H K := by
 unfold cutG at hk
 have hs' := hs
 have lE := Le.refl H
 have hsx := hs0
 refine R.q118 ?_
 unfold F.q118
 have x1 := ix_lt (a := row + i) (b := col + k) (r := r) (c := c) (by omega) (by omega) (by omega) (by omega)
 have m := sidesF_mul hs
 have q1 := hs.1
 have q2 := hs.2
 refine ob_i ((hp0.le lE).ldn rfl) (ob_i ((hq0.le lE).ld0 rfl) (ob_i (vInt_add (by omega) (by omega)) (ob_i (hsx.ld0 rfl) (ob_i (vInt_add (by omega) (by omega)) (C.c11 (hvc0.le lE) (by omega) (by omega) (by omega) (by omega) (by omega) (fun H1 le2 => ?_))))))
 rw [show (row + i) * c + (col + k) = (row + i) * c + col + k by omega]
 replace lE := lE.trans le2
 exact hk _ lE

theorem C.c32 (hvc0 : Sl eI H vc l) (hs : sidesF r c) (hl : (l.length : Int) = r * c)
    (h0 : 0 ≤ row) (h1 : 0 ≤ col) (h2 : 1 ≤ rows) (h3 : 1 ≤ cols) (h4 : row + rows ≤ r) (h5 : col + cols ≤ c) (hk : ∀ u H', Own eI H' u (mkL cols (cutG c l row col) (rows.toNat * cols.toNat)) → Nw H u → Le H H' → K (.agg #[.int .i64 rows, .int .i64 cols, u]) H') :
    HT prg 87 [.agg #[.int .i64 r, .int .i64 c, vc], .int .i64 row, .int .i64 col, .int .i64 rows, .int .i64 cols].toArray H K := by
 have lE := Le.refl H
 refine R.q87 ?_
 unfold F.q87
 have q1 := hs.1
 have q2 := hs.2
 refine nw_i (fun p1 H2 op1 nn3 le4 => ?_)
 replace op1 : Cel H2 p1 [(.int .i64 (r)), (.int .i64 (c)), vc] := op1
 refine nw_i (fun p5 H6 op5 nn7 le8 => ?_)
 replace op5 : Cel H6 p5 [(.int .i64 (row))] := op5
 refine nw_i (fun p9 H10 op9 nn11 le12 => ?_)
 replace op9 : Cel H10 p9 [(.int .i64 (col))] := op9
 refine nw_i (fun p13 H14 op13 nn15 le16 => ?_)
 replace lE := ((lE.trans le4).trans le8).trans le12
 have np13 := nn15.le lE
 replace op13 : Cel H14 p13 [(.int .i64 (0)), (.int .i64 (0)), (.slice none 0 0)] := op13
 refine C.c18 (g := cutG c l row col) (by omega) (by omega) (by omega) (by omega) (fun H' i k Z le hi hk' hZ => ?_) (fun u17 H18 ou17 nn19 le20 => ?_)
 refine ⟨by kernel_rfl, ?_⟩
 replace op1 := ((op1.le le8).le le12).le le16
 replace op5 := (op5.le le12).le le16
 replace op9 := op9.le le16
 replace lE := lE.trans le16
 exact C.c31 (op1.le le) (op5.le le) (op9.le le) ((hvc0.le lE).le le) hs hl (by omega) (by omega) (by omega) (by omega) hZ
 have ap13Xu17 := op13.apart nn19
 replace lE := lE.trans le16
 have nu17 := nn19.le lE
 replace op13 := op13.le le20
 refine op13.stn (ws := [(.int .i64 (rows)), (.int .i64 (cols)), u17]) rfl rfl (oc1 rfl (oc1 rfl (oc1 ou17.one oc0))) (fun H21 op13 off22 => ?_)
 refine ob_i (op13.ldn rfl) ?_
 replace lE := off22.le (lE.trans le20) np13
 replace ou17 := ou17.off off22 ap13Xu17.symm
 exact hk u17 _ ou17 nu17 lE

theorem C.c33 (hvc0 : Sl eI H vc l) (hs : sidesF r c) (hl : (l.length : Int) = r * c)
    (hk1 : (trm r c l).2.1 < 0 → ∀ H', Le H H' → K (.tuple #[.agg #[.int .i64 0, .int .i64 0, .slice none 0 0], .int .i64 0, .int .i64 0, .bool false]) H')
    (hk2 : 0 ≤ (trm r c l).2.1 → ∀ u H', Own eI H' u (trL r c l) → Nw H u → Le H H' → K (.tuple #[.agg #[.int .i64 (trR r c l), .int .i64 (trC r c l), u], .int .i64 (trm r c l).1, .int .i64 (trm r c l).2.2.1, .bool true]) H') :
    HT prg 56 [.agg #[.int .i64 r, .int .i64 c, vc]].toArray H K := by
 have q1 := hs.1
 have q2 := hs.2
 have m := sidesF_mul hs
 change (trS r c l (r * c).toNat).2.1 < 0 → _ at hk1
 change 0 ≤ (trS r c l (r * c).toNat).2.1 → _ at hk2
 have lE := Le.refl H
 refine R.q56 ?_
 unfold F.q56
 refine nw_i (fun p H1 op nn2 le3 => ?_)
 replace op : Cel H1 p [(.int .i64 (r)), (.int .i64 (c)), vc] := op
 refine nw_i (fun q H4 oq nn5 le6 => ?_)
 replace lE := lE.trans le3
 have nq := nn5.le lE
 replace oq : Cel H4 q [(.int .i64 (0)), (.int .i64 (0)), (.slice none 0 0)] := oq
 replace op := op.le le6
 refine ob_i (op.fa 0) (ob_i (op.ld 0 rfl) (ob_i (op.fa 1) (ob_i (op.ld 1 rfl) (jn_i (fun σ' H' => σ' 1 = p ∧ σ' 2 = q ∧ σ' 6 = (.int .i64 ((trS r c l ((r * c).toNat)).1)) ∧ σ' 7 = (.int .i64 ((trS r c l ((r * c).toNat)).2.2.1)) ∧ σ' 8 = (.int .i64 ((trS r c l ((r * c).toNat)).2.1)) ∧ σ' 9 = (.int .i64 ((trS r c l ((r * c).toNat)).2.2.2)) ∧ Cel H' p [(.int .i64 (r)), (.int .i64 (c)), vc] ∧ Cel H' q [(.int .i64 (0)), (.int .i64 (0)), (.slice none 0 0)] ∧ Le H H') (fun σ7 H7 hP => ?_) (fun J7 hJ7 => ?_)))))
 replace lE := lE.trans le6
 obtain ⟨g1L7, g2L7, g6L7, g7L7, g8L7, g9L7, op, oq, lE⟩ := hP
 simp only [g1L7, g2L7, g6L7, g7L7, g8L7, g9L7]
 have b := trS_bnd (l := l) hs (r * c).toNat (by omega)
 have b2 := trS_ok (l := l) hs (r * c).toNat (by omega)
 refine ob_i (vInt_lss _ _ _) (cnd_d (fun hg8 => ?_) (fun hg8 => ?_))
 refine ob_i (a := (.agg #[(.int .i64 (0)), (.int .i64 (0)), (.slice none 0 0)])) (by rfl) ?_
 refine oq.stn (ws := [(.int .i64 (0)), (.int .i64 (0)), (.slice none 0 0)]) rfl rfl (oc1 rfl (oc1 rfl (oc1 rfl oc0))) (fun H9 oq off10 => ?_)
 refine ob_i (oq.ldn rfl) ?_
 replace lE := off10.le lE nq
 exact hk1 (by omega) _ lE
 refine ob_i (op.ldn rfl) (ob_i (vInt_sub (by omega) (by omega)) (ob_i (vInt_add (by omega) (by omega)) (ob_i (vInt_sub (by omega) (by omega)) (ob_i (vInt_add (by omega) (by omega)) (C.c32 (hvc0.le lE) hs hl (by omega) (by omega) (by omega) (by omega) (by omega) (by omega) (fun u13 H11 ou13 nn14  le12 => ?_))))))
 have aqXu13 := oq.apart nn14
 have nu13 := nn14.le lE
 replace oq := oq.le le12
 refine oq.stn (ws := [(.int .i64 ((((trS r c l ((r * c).toNat)).2.1) - ((trS r c l ((r * c).toNat)).1)) + 1)), (.int .i64 ((((trS r c l ((r * c).toNat)).2.2.2) - ((trS r c l ((r * c).toNat)).2.2.1)) + 1)), u13]) rfl rfl (oc1 rfl (oc1 rfl (oc1 ou13.one oc0))) (fun H15 oq off16 => ?_)
 refine ob_i (oq.ldn rfl) ?_
 replace lE := off16.le (lE.trans le12) nq
 replace ou13 := ou13.off off16 aqXu13.symm
 exact hk2 (by omega) u13 _ ou13 nu13 lE
 refine ob_i (op.fa 2) (ob_i (op.ld 2 rfl) ?_)
 replace lE := lE.trans le6
 refine ob_i ((hvc0.le lE).len) ?_
 refine ⟨fun n' σ' H' => ∃ t : Nat, n' = l.length - t ∧ t ≤ l.length ∧ σ' 1 = p ∧ σ' 2 = q ∧ σ' 6 = (.int .i64 ((trS r c l (t)).1)) ∧ σ' 7 = (.int .i64 ((trS r c l (t)).2.2.1)) ∧ σ' 8 = (.int .i64 ((trS r c l (t)).2.1)) ∧ σ' 9 = (.int .i64 ((trS r c l (t)).2.2.2)) ∧ σ' 19 = vc ∧ σ' 20 = (.int .i64 (((l).length : Int))) ∧ σ' 21 = (.int .i64 ((t : Int))) ∧ Cel H' p [(.int .i64 (r)), (.int .i64 (c)), vc] ∧ Cel H' q [(.int .i64 (0)), (.int .i64 (0)), (.slice none 0 0)] ∧ Le H H',
    ⟨_, 0, rfl, by omega, rfl, rfl, rfl, rfl, rfl, rfl, rfl, rfl, rfl, op, oq, lE⟩, ?_⟩
 rintro n17 σ17 H17 ⟨t, rfl, htN, g1L17, g2L17, g6L17, g7L17, g8L17, g9L17, g19L17, g20L17, g21L17, op, oq, lE⟩
 simp only [g1L17, g6L17, g7L17, g8L17, g9L17, g19L17, g20L17, g21L17]
 refine ob_i (vInt_lss _ _ _) (cnd_d (fun hg18 => ?_) (fun hg18 => ?_))
 have tt := hg18
 refine ob_i ((hvc0.le lE).ix (by omega) (by omega)) (ob_i ((hvc0.le lE).ld 0 (by omega) (by omega)) (ob_i (vInt_eql _ _ _) (cnd_d (fun hg19 => ?_) (fun hg19 => ?_))))
 refine ob_i (op.fa 1) (ob_i (op.ld 1 rfl) (ob_i (vInt_quoN (by omega) (by omega) (by omega)) (ob_i (op.fa 1) (ob_i (op.ld 1 rfl) (ob_i (vInt_remN (by omega) (by omega)) (ob_i (vMx_min _ _ _) (ob_i (vMx_min _ _ _) (ob_i (vMx_max _ _ _) (ob_i (vMx_max _ _ _) ?_)))))))))
 refine ob_i (vInt_add (by omega) (by omega)) ?_
 have eT := trS_t (r := r) (c := c) hg19
 exact nxt (l.length - (t + 1)) (by omega) ⟨t + 1, rfl, by omega, g1L17, g2L17, (by rw [eT]; rfl), (by rw [eT]; rfl), (by rw [eT]; rfl), (by rw [eT]; rfl), g19L17, g20L17, rfl, op, oq, lE⟩
 refine ob_i (vInt_add (by omega) (by omega)) ?_
 have eT := trS_f (r := r) (c := c) hg19
 exact nxt (l.length - (t + 1)) (by omega) ⟨t + 1, rfl, by omega, g1L17, g2L17, (by rw [eT]; exact g6L17), (by rw [eT]; exact g7L17), (by rw [eT]; exact g8L17), (by rw [eT]; exact g9L17), g19L17, g20L17, rfl, op, oq, lE⟩
 have tt := hg18
 exact hJ7 _ _ ⟨g1L17, g2L17, (by rw [← show t = (r * c).toNat by omega]; exact g6L17), (by rw [← show t = (r * c).toNat by omega]; exact g7L17), (by rw [← show t = (r * c).toNat by omega]; exact g8L17), (by rw [← show t = (r * c).toNat by omega]; exact g9L17), op, oq, lE⟩

end Go.Proofs.YtnijdhlmimemcaaGreatDoor
/- Life on fields: what a step and many steps come to. -/
namespace Go.Proofs.YtnijdhlmimemcaaGreatDoor
open HL
variable {l b s : List Int} {n : Nat} {r c i k x : Int} {rnd : Bool}
set_option maxRecDepth 100000
/-- Numbers that rise, the first n of them. -/
def cntU (l : List Int) (n : Nat) : Prop := ∀ j : Nat, j < n → 0 < j → at_ 0 l ((j : Int) - 1) < at_ 0 l (j : Int)
def cntV (l : List Int) (n : Nat) : Prop := ∀ j : Nat, j < n → 0 ≤ at_ 0 l (j : Int) ∧ at_ 0 l (j : Int) ≤ 8
/-- Counts of neighbours. -/
def cntP (l : List Int) : Prop := (∀ x ∈ l, 0 ≤ x ∧ x ≤ 8) ∧ cntU l l.length
instance (l : List Int) (n : Nat) : Decidable (cntU l n) := by unfold cntU; infer_instance
instance (l : List Int) : Decidable (cntP l) := by unfold cntP; infer_instance
theorem cntU_zero (l : List Int) : cntU l 0 := fun j h => by omega
theorem cntU_one (l : List Int) : cntU l 1 := fun j h h0 => by omega
theorem cntV_zero (l : List Int) : cntV l 0 := fun j h => by omega
theorem cntU_succ (h : cntU l n) (h1 : 0 < n → at_ 0 l ((n : Int) - 1) < at_ 0 l (n : Int)) : cntU l (n + 1) := fun j hj h0 => by
  by_cases e : j = n
  · subst e; exact h1 h0
  · exact h j (by omega) h0
theorem cntV_succ (h : cntV l n) (h1 : 0 ≤ at_ 0 l (n : Int) ∧ at_ 0 l (n : Int) ≤ 8) : cntV l (n + 1) := fun j hj => by
  by_cases e : j = n
  · subst e; exact h1
  · exact h j (by omega)
theorem cntV_all (h : cntV l n) (hn : l.length ≤ n) : ∀ x ∈ l, 0 ≤ x ∧ x ≤ 8 := fun x hx => by
  obtain ⟨j, hj, rfl⟩ := List.mem_iff_getElem.mp hx
  have := h j (by omega)
  rw [at_eq 0 l hj] at this
  exact this
theorem cntP_in (h : cntP l) {j : Nat} (hj : j < l.length) : 0 ≤ at_ 0 l (j : Int) ∧ at_ 0 l (j : Int) ≤ 8 := h.1 _ (at_mem 0 l (by omega) (by omega))
theorem cntP_up (h : cntP l) {j : Nat} (hj : j < l.length) (h0 : 0 < j) : at_ 0 l ((j : Int) - 1) < at_ 0 l (j : Int) := h.2 j hj h0
theorem cntU_full (h : cntU l n) (hn : l.length ≤ n) : cntU l l.length := fun j hj h0 => h j (by omega) h0
/-- Is a life valid? -/
def lifP (b s : List Int) : Prop := cntP b ∧ cntP s
instance (b s : List Int) : Decidable (lifP b s) := by unfold lifP; infer_instance
/-- Can a field live? -/
def canP (b s : List Int) (r c : Int) (l : List Int) : Prop := lifP b s ∧ fieldN 1 r c l
instance (b s : List Int) (r c : Int) (l : List Int) : Decidable (canP b s r c l) := by unfold canP; infer_instance
def sumF (f : Int → Int) : Nat → Int
  | 0 => 0
  | n + 1 => sumF f n + f n
theorem sumF_zero (f : Int → Int) : sumF f 0 = 0 := rfl
theorem sumF_succ (f : Int → Int) (n : Nat) : sumF f (n + 1) = sumF f n + f n := rfl
theorem sumF_3 (f : Int → Int) : sumF f 3 = f 0 + f 1 + f 2 := by
  show 0 + f ((0 : Nat) : Int) + f ((1 : Nat) : Int) + f ((2 : Nat) : Int) = _
  simp
theorem sumF_bnd {f : Int → Int} {a b : Int} (h : ∀ i, a ≤ f i ∧ f i ≤ b) : ∀ n : Nat, (n : Int) * a ≤ sumF f n ∧ sumF f n ≤ (n : Int) * b
  | 0 => by simp [sumF]
  | n + 1 => by
    have h1 := sumF_bnd h n
    have h2 := h n
    simp only [sumF, Int.natCast_add, Int.add_mul]
    omega
/-- A cell, round and round, or 0 beyond the border. -/
def lkF (rnd : Bool) (r c : Int) (l : List Int) (i k : Int) : Int := if rnd then at_ 0 l (roundF r c i k) else flatF r c l i k
/-- The same, but 0 for one cell. -/
def skF (rnd : Bool) (r c : Int) (l : List Int) (i k a b : Int) : Int := if a = i ∧ b = k then 0 else lkF rnd r c l a b
/-- The neighbours of a cell that are 1. -/
def arF (rnd : Bool) (r c : Int) (l : List Int) (i k : Int) : Int := sumF (fun a => sumF (fun b => skF rnd r c l i k (i - 1 + a) (k - 1 + b)) 3) 3
theorem roundF_in (h1 : 0 ≤ i) (h2 : i < r) (h3 : 0 ≤ k) (h4 : k < c) : roundF r c i k = i * c + k := by
  unfold roundF
  rw [Int.emod_eq_of_lt h1 h2, Int.emod_eq_of_lt h3 h4]
theorem lkF_in (h1 : 0 ≤ i) (h2 : i < r) (h3 : 0 ≤ k) (h4 : k < c) : lkF rnd r c l i k = at_ 0 l (i * c + k) := by
  unfold lkF
  rw [roundF_in h1 h2 h3 h4]
  split
  · rfl
  · unfold flatF; rw [if_pos (by omega)]
theorem lkF_01 (h : fieldN 1 r c l) (i k : Int) : 0 ≤ lkF rnd r c l i k ∧ lkF rnd r c l i k ≤ 1 := by
  unfold lkF
  split
  · have b := roundF_lt (i := i) (k := k) h.1
    exact fieldN_at h (by omega) (by omega)
  · unfold flatF
    split
    · rename_i h1
      have b := ix_lt (a := i) (b := k) (r := r) (c := c) (by omega) (by omega) (by omega) (by omega)
      exact fieldN_at h (by omega) (by omega)
    · omega
theorem skF_01 (h : fieldN 1 r c l) (i k a b : Int) : 0 ≤ skF rnd r c l i k a b ∧ skF rnd r c l i k a b ≤ 1 := by
  unfold skF
  split
  · omega
  · exact lkF_01 h a b
theorem skF_eq {a b : Int} : skF rnd r c l i k a b = if a = i ∧ b = k then 0 else if rnd = true ∨ ((0 ≤ a ∧ a ≤ r - 1) ∧ 0 ≤ b ∧ b ≤ c - 1) then at_ 0 l (roundF r c a b) else 0 := by
  unfold skF lkF flatF
  split
  · rfl
  · cases rnd with
    | true => simp
    | false =>
      simp only [Bool.false_eq_true, if_false, false_or]
      split
      · rename_i h; rw [roundF_in (by omega) (by omega) (by omega) (by omega)]
      · rfl
theorem arF_eq (h1 : 0 ≤ i) (h2 : i < r) (h3 : 0 ≤ k) (h4 : k < c) :
    -at_ 0 l (i * c + k) + sumF (fun a => sumF (fun b => lkF rnd r c l (i - 1 + a) (k - 1 + b)) 3) 3 = arF rnd r c l i k := by
  have e := lkF_in (rnd := rnd) (l := l) h1 h2 h3 h4
  unfold arF
  simp only [sumF_3, skF]
  rw [if_neg (by omega), if_neg (by omega), if_neg (by omega), if_neg (by omega), if_pos (by omega), if_neg (by omega), if_neg (by omega), if_neg (by omega), if_neg (by omega)]
  rw [show i - 1 + 1 = i by omega, show k - 1 + 1 = k by omega, e]
  omega
/-- What a cell becomes. -/
def nxG (rnd : Bool) (b s : List Int) (r c : Int) (l : List Int) (i k : Int) : Int :=
  if at_ 0 l (i * c + k) = 0 then (if arF rnd r c l i k ∈ b then 1 else 0) else (if arF rnd r c l i k ∈ s then 1 else 0)
section
variable {rnd : Bool} {b s : List Int} {r c i k : Int} {l : List Int}
theorem nx_b1 (h : at_ 0 l (i * c + k) = 0) (h2 : arF rnd r c l i k ∈ b) : nxG rnd b s r c l i k = 1 := by unfold nxG; rw [if_pos h, if_pos h2]
theorem nx_b0 (h : at_ 0 l (i * c + k) = 0) (h2 : arF rnd r c l i k ∉ b) : nxG rnd b s r c l i k = 0 := by unfold nxG; rw [if_pos h, if_neg h2]
theorem nx_s1 (h : at_ 0 l (i * c + k) = 1) (h2 : arF rnd r c l i k ∈ s) : nxG rnd b s r c l i k = 1 := by unfold nxG; rw [if_neg (by omega), if_pos h2]
theorem nx_s0 (h : at_ 0 l (i * c + k) = 1) (h2 : arF rnd r c l i k ∉ s) : nxG rnd b s r c l i k = 0 := by unfold nxG; rw [if_neg (by omega), if_neg h2]
end
/-- The next field. -/
def nxL (rnd : Bool) (b s : List Int) (r c : Int) (l : List Int) : List Int := mkL c (nxG rnd b s r c l) (r.toNat * c.toNat)
theorem nxG_01 (rnd : Bool) (b s : List Int) (r c : Int) (l : List Int) (i k : Int) : 0 ≤ nxG rnd b s r c l i k ∧ nxG rnd b s r c l i k ≤ 1 := by
  unfold nxG
  split <;> split <;> omega
theorem mkL_len' {g : Int → Int → Int} {rr cc : Int} (h1 : 0 ≤ rr) (h2 : 0 ≤ cc) : ((mkL c g (rr.toNat * cc.toNat)).length : Int) = rr * cc := by
  rw [mkL_length, Int.natCast_mul, Int.toNat_of_nonneg h1, Int.toNat_of_nonneg h2]
theorem mkL_field {n : Int} {g : Int → Int → Int} (h : sidesF r c) (hg : ∀ i k, 0 ≤ g i k ∧ g i k ≤ n) : fieldN n r c (mkL c g (r.toNat * c.toNat)) := by
  have q1 := h.1
  have q2 := h.2
  refine ⟨h, mkL_len' (by omega) (by omega), fun x hx => ?_⟩
  simp only [mkL, List.mem_map] at hx
  obtain ⟨j, _, rfl⟩ := hx
  exact hg _ _
theorem nxL_field (h : sidesF r c) : fieldN 1 r c (nxL rnd b s r c l) := mkL_field h (nxG_01 rnd b s r c l)
/-- The field behind steps. -/
def rnL (rnd : Bool) (b s : List Int) (r c : Int) (l : List Int) : Nat → List Int
  | 0 => l
  | n + 1 => nxL rnd b s r c (rnL rnd b s r c l n)
theorem rnL_field (h : fieldN 1 r c l) : ∀ n, fieldN 1 r c (rnL rnd b s r c l n)
  | 0 => h
  | _ + 1 => nxL_field h.1
theorem fillL_skip {g : Int → Int → Int} {N : Nat} {t : Nat} (hc : 0 < c) (k0 : 0 ≤ k) (k1 : k < c) (ht : (t : Int) = i * c + k) (h : g i k = 0) : fillL c g N t = fillL c g N (t + 1) := by
  have hd := divmod (c := c) (i := i) (k := k) hc k0 k1
  unfold fillL
  apply List.map_congr_left
  intro j _
  by_cases e : j = t
  · subst e
    rw [if_neg (by omega), if_pos (by omega), ht, hd.1, hd.2, h]
  · by_cases h1 : j < t
    · rw [if_pos h1, if_pos (by omega)]
    · rw [if_neg h1, if_neg (by omega)]
theorem notin_succ {i : Nat} (h : x ∉ l.take i) (hi : i < l.length) (hne : ¬ at_ 0 l (i : Int) = x) : x ∉ l.take (i + 1) := by
  rw [take_at 0 l hi]
  intro hh
  rcases List.mem_append.mp hh with hh | hh
  · exact h hh
  · simp only [List.mem_singleton] at hh; exact hne hh.symm
/-- Where a number stands first, or -1. -/
def idxL (x : Int) (l : List Int) : Int := if x ∈ l then (l.findIdx (· == x) : Nat) else -1
theorem idxL_not (h : x ∉ l) : idxL x l = -1 := if_neg h
theorem idxL_mem : 0 ≤ idxL x l ↔ x ∈ l := by
  unfold idxL
  split
  · rename_i h; simp [h]
  · rename_i h; simp [h]
theorem idxL_at {i : Nat} (h : x ∉ l.take i) (hi : i < l.length) (he : at_ 0 l (i : Int) = x) : idxL x l = (i : Int) := by
  rw [at_eq 0 l hi] at he
  unfold idxL
  rw [if_pos (he ▸ List.getElem_mem hi)]
  congr 1
  rw [List.findIdx_eq hi]
  refine ⟨by simp [he], fun j hj => ?_⟩
  simp only [beq_eq_false_iff_ne, ne_eq]
  intro hh
  exact h (List.mem_iff_getElem.mpr ⟨j, by simp; omega, by simp [hh]⟩)
/-- How many cells have a state. -/
def cntE (v : Int) (l : List Int) : Int := l.countP (· == v)
theorem cntE_take {v : Int} {i : Nat} (h : i < l.length) : cntE v (l.take (i + 1)) = cntE v (l.take i) + (if at_ 0 l (i : Int) = v then 1 else 0) := by
  unfold cntE
  rw [take_at 0 l h, List.countP_append]
  simp only [List.countP_cons, List.countP_nil, beq_iff_eq, Nat.zero_add]
  split <;> simp
theorem cntE_bnd (v : Int) (l : List Int) : 0 ≤ cntE v l ∧ cntE v l ≤ l.length := by
  unfold cntE
  have := List.countP_le_length (p := (· == v)) (l := l)
  omega
end Go.Proofs.YtnijdhlmimemcaaGreatDoor
/- What is found first; counts ahead; shifted fields. -/
namespace Go.Proofs.YtnijdhlmimemcaaGreatDoor
open HL
/-- The first number below N of which something holds, or -1. -/
def fstN (p : Nat → Prop) [DecidablePred p] : Nat → Int
  | 0 => -1
  | n + 1 => if 0 ≤ fstN p n then fstN p n else if p n then (n : Int) else -1
theorem fstN_none {p : Nat → Prop} [DecidablePred p] : ∀ {N : Nat}, (∀ t, t < N → ¬ p t) → fstN p N = -1
  | 0, _ => rfl
  | n + 1, h => by
    have ih := fstN_none (p := p) (N := n) (fun t ht => h t (by omega))
    simp only [fstN, ih]
    rw [if_neg (by omega), if_neg (h n (by omega))]
theorem fstN_at {p : Nat → Prop} [DecidablePred p] {t : Nat} (hp : p t) (h : ∀ s, s < t → ¬ p s) : ∀ {N : Nat}, t < N → fstN p N = (t : Int)
  | 0, ht => by omega
  | n + 1, ht => by
    by_cases e : t = n
    · subst e
      simp only [fstN, fstN_none h]
      rw [if_neg (by omega), if_pos hp]
    · have ih := fstN_at hp h (N := n) (by omega)
      simp only [fstN, ih]
      rw [if_pos (by omega)]
/-- The counts behind each of some steps. -/
def caL (rnd : Bool) (b s : List Int) (r c : Int) (l : List Int) (n : Nat) : List Int := (List.range (n + 1)).map fun j => cntE 1 (rnL rnd b s r c l j)
theorem caL_succ (rnd : Bool) (b s : List Int) (r c : Int) (l : List Int) (n : Nat) : caL rnd b s r c l n ++ [cntE 1 (nxL rnd b s r c (rnL rnd b s r c l n))] = caL rnd b s r c l (n + 1) := by
  unfold caL
  rw [List.range_succ (n := n + 1), List.map_append]; rfl
theorem caL_len (rnd : Bool) (b s : List Int) (r c : Int) (l : List Int) (n : Nat) : (caL rnd b s r c l n).length = n + 1 := by simp [caL]
/-- A shifted field. -/
def shG (r c : Int) (l : List Int) (a b i k : Int) : Int := at_ 0 l (roundF r c (i - a) (k - b))
def shL (r c : Int) (l : List Int) (a b : Int) : List Int := mkL c (shG r c l a b) (r.toNat * c.toNat)
/-- A place of a shift: steps, rows and columns in one number. -/
def mvP (b s : List Int) (r c : Int) (l : List Int) (t : Nat) : Prop :=
  cntE 1 (rnL true b s r c l (t / c.toNat / r.toNat + 1)) = cntE 1 l ∧ rnL true b s r c l (t / c.toNat / r.toNat + 1) = shL r c l ((t / c.toNat % r.toNat : Nat) : Int) ((t % c.toNat : Nat) : Int)
instance (b s : List Int) (r c : Int) (l : List Int) : DecidablePred (mvP b s r c l) := fun t => by unfold mvP; infer_instance
/-- Where a field is shifted first, steps, rows and columns in one number. -/
def mvF (b s : List Int) (r c : Int) (l : List Int) (st : Int) : Int := fstN (mvP b s r c l) (st.toNat * r.toNat * c.toNat)
def mvOk (b s : List Int) (r c : Int) (l : List Int) (st : Int) : Prop := canP b s r c l ∧ (1 ≤ st ∧ st ≤ 512) ∧ 0 ≤ mvF b s r c l st
instance (b s : List Int) (r c : Int) (l : List Int) (st : Int) : Decidable (mvOk b s r c l st) := by unfold mvOk; infer_instance
section
variable {b s : List Int} {r c st : Int} {l : List Int} {n i k : Nat}
end
/-- A plain square of 4, 8 or 16 rows. -/
def sqP (r c : Int) (l : List Int) : Prop := fieldN 1 r c l ∧ r = c ∧ (r = 4 ∨ r = 8 ∨ r = 16)
instance (r c : Int) (l : List Int) : Decidable (sqP r c l) := by unfold sqP; infer_instance
def inP (b s : List Int) (r c : Int) (l : List Int) : Prop := lifP b s ∧ sqP r c l
instance (b s : List Int) (r c : Int) (l : List Int) : Decidable (inP b s r c l) := by unfold inP; infer_instance
end Go.Proofs.YtnijdhlmimemcaaGreatDoor
/- What the small functions of structs come to: copies, sizes, what is alike. -/
namespace Go.Proofs.YtnijdhlmimemcaaGreatDoor
open HL
set_option maxRecDepth 100000
end Go.Proofs.YtnijdhlmimemcaaGreatDoor
/- What says whether lists are equal, and whether gases are. -/
namespace Go.Proofs.YtnijdhlmimemcaaGreatDoor
open HL
variable {a b : Value} {l m : List Int} {H : Hp} {K : Value → Hp → Prop}
set_option maxRecDepth 100000
theorem C.c34 (ha : Sl eI H a l) (hb : Sl eI H b m) (hl : l.length ≤ 9223372036854775807) (hk : K (.bool (decide (l = m))) H) :
    HT prg 84 [a, b].toArray H K := by
 refine R.q84 ?_
 unfold F.q84 jn; dsimp only
 rw [ha.len, hb.len, ob_some, ob_some, vInt_neq, ob_some]
 refine cnd_d (fun hne => ?_) (fun heq => ?_)
 rw [decide_eq_false] at hk
 exact hk
 rintro rfl; exact hne rfl
 have hlen : l.length = m.length := by omega
 refine ⟨fun n σ H1 => ∃ i : Nat, n = l.length - i ∧ i ≤ l.length ∧ H1 = H ∧ σ 0 = a ∧ σ 1 = b ∧ σ 5 = .int .i64 i ∧ l.take i = m.take i,
    ⟨_, 0, rfl, by omega, rfl, rfl, rfl, rfl, by simp⟩, ?_⟩
 rintro n σ H1 ⟨i, rfl, hi', rfl, h0, h1, h5, hall⟩
 simp only [h0, h1, h5, ha.len, vInt_lss, ob_some]
 refine cnd_d (fun hlt => ?_) (fun hge => ?_)
 have hlt' : i < l.length := by omega
 rw [ha.ix (by omega) hlt, ob_some, ha.ld 0 (by omega) hlt, ob_some, hb.ix (by omega) (by omega), ob_some, hb.ld 0 (by omega) (by omega), ob_some, vInt_neq, ob_some]
 refine cnd_d (fun hne => ?_) (fun heq => ?_)
 refine retK (K := K) (v' := .bool false) rfl ?_
 rw [decide_eq_false] at hk
 exact hk
 rintro rfl; exact hne rfl
 rw [vInt_add (by omega) (by omega), ob_some]
 refine nxt (l.length - (i + 1)) (by omega) ⟨i + 1, rfl, by omega, rfl, h0, h1, rfl, ?_⟩
 rw [take_at 0 l hlt', take_at 0 m (by omega), hall, Decidable.not_not.mp heq]
 refine retK (K := K) (v' := .bool true) rfl ?_
 rw [List.take_of_length_le (by omega), List.take_of_length_le (by omega)] at hall
 rw [decide_eq_true hall] at hk
 exact hk

theorem C.c35 (ha : Sl eI H a l) (hb : Sl eI H b m) (hl : l.length ≤ 9223372036854775807) (hk : K (.bool (decide (l = m))) H) :
    HT prg 88 [a, b].toArray H K := by
 refine R.q88 ?_
 unfold F.q88 jn; dsimp only
 rw [ha.len, hb.len, ob_some, ob_some, vInt_neq, ob_some]
 refine cnd_d (fun hne => ?_) (fun heq => ?_)
 rw [decide_eq_false] at hk
 exact hk
 rintro rfl; exact hne rfl
 have hlen : l.length = m.length := by omega
 rw [ob_some]
 refine ⟨fun n σ H1 => ∃ i : Nat, n = l.length - i ∧ i ≤ l.length ∧ H1 = H ∧ σ 0 = a ∧ σ 1 = b ∧ σ 13 = .int .i64 i ∧ σ 12 = .int .i64 l.length ∧ l.take i = m.take i,
    ⟨_, 0, rfl, by omega, rfl, rfl, rfl, rfl, rfl, by simp⟩, ?_⟩
 rintro n σ H1 ⟨i, rfl, hi', rfl, h0, h1, h5, h12, hall⟩
 simp only [h0, h1, h5, h12, vInt_lss, ob_some]
 refine cnd_d (fun hlt => ?_) (fun hge => ?_)
 have hlt' : i < l.length := by omega
 rw [ha.ix (by omega) hlt, ob_some, ha.ld 0 (by omega) hlt, ob_some, hb.ix (by omega) (by omega), ob_some, hb.ld 0 (by omega) (by omega), ob_some, vInt_neq, ob_some]
 refine cnd_d (fun hne => ?_) (fun heq => ?_)
 refine retK (K := K) (v' := .bool false) rfl ?_
 rw [decide_eq_false] at hk
 exact hk
 rintro rfl; exact hne rfl
 rw [vInt_add (by omega) (by omega), ob_some]
 refine nxt (l.length - (i + 1)) (by omega) ⟨i + 1, rfl, by omega, rfl, h0, h1, rfl, h12, ?_⟩
 rw [take_at 0 l hlt', take_at 0 m (by omega), hall, Decidable.not_not.mp heq]
 refine retK (K := K) (v' := .bool true) rfl ?_
 rw [List.take_of_length_le (by omega), List.take_of_length_le (by omega)] at hall
 rw [decide_eq_true hall] at hk
 exact hk

end Go.Proofs.YtnijdhlmimemcaaGreatDoor
