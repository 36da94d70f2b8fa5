/- The law of spins: sweeps walked. -/
import Derived.Test.YtkehomlkgcfjnaaWB
import Derived.Test.YtkehomlkgcfjnaaUF
import Derived.Test.YtkehomlkgcfjnaaTC
import Derived.Test.YtkehomlkgcfjnaaZA
import Derived.Test.YtkehomlkgcfjnaaLU
namespace Go.Proofs.Ytkehomlkgcfjnaa
open HL
set_option maxRecDepth 100000
theorem all_snoc {l : List Int} {x : Int} {p : Int → Prop} (h : ∀ y ∈ l, p y) (hx : p x) : ∀ y ∈ l ++ [x], p y := fun y hy => by
  rcases List.mem_append.mp hy with hy | hy
  · exact h y hy
  · simp only [List.mem_singleton] at hy; subst hy; exact hx
/-- The next seeds as the law counts them. -/
theorem sdS_law (x : Int) (n : Nat) : sdS x (n + 1) = (1664525 * sdS x n + 1013904223) % 4294967296 := rfl
/-- How many of the first n cells are not the same. -/
def apN (l m : List Int) : Nat → Int
  | 0 => 0
  | n + 1 => apN l m n + if at_ 0 l (n : Int) = at_ 0 m (n : Int) then 0 else 1
theorem apN_bnd (l m : List Int) : ∀ n : Nat, 0 ≤ apN l m n ∧ apN l m n ≤ n
  | 0 => by simp [apN]
  | n + 1 => by have := apN_bnd l m n; simp only [apN]; split <;> omega
theorem apN_all {l m : List Int} : ∀ n : Nat, (∀ j : Nat, j < n → at_ 0 l (j : Int) ≠ at_ 0 m (j : Int)) → apN l m n = n
  | 0, _ => rfl
  | n + 1, h => by simp only [apN, apN_all n (fun j hj => h j (by omega)), if_neg (h n (by omega))]; omega
def zerG (_ _ : Int) : Int := 0
theorem zer_all {c : Int} {N : Nat} : ∀ x ∈ mkL c zerG N, x = 0 := fun x hx => by
  obtain ⟨_, _, rfl⟩ := List.mem_map.mp hx; rfl
theorem zer_field {r c : Int} (h : sidesF r c) : fieldN 1 r c (mkL c zerG (r.toNat * c.toNat)) := mkL_field h (fun _ _ => by unfold zerG; omega)
theorem opp_take {l : List Int} {i : Nat} (h : i < l.length) : oppL (l.take i) ++ [1 - at_ 0 l (i : Int)] = oppL (l.take (i + 1)) := by
  rw [take_at 0 l h]; simp [oppL]
theorem opp_len (l : List Int) : (oppL l).length = l.length := List.length_map ..
theorem hot_apart {r c : Int} {l : List Int} (h : fieldN 1 r c l) : apN (swS true r c l l.length) l l.length = r * c := by
  have hl := h.2.1
  rw [apN_all, hl]
  intro j hj
  have b := fieldN_at h (i := (j : Int)) (by omega) (by omega)
  rw [hot_at h l.length (by omega) j (by omega), if_pos hj]; omega
theorem C.impl_isSeed {x : Int}  {H : Hp} {K : Value → Hp → Prop}
    (hk : ∀ H', Le H H' → K (.bool (decide (0 ≤ x ∧ x ≤ 4294967295))) H') : HT prg I.impl_isSeed [(.int .i64 (x))].toArray H K := by
  have lE := Le.refl H
  refine R.impl_isSeed ?_
  unfold F.impl_isSeed
  refine C.impl_within  ?_
  skip
  exact hk   _    lE
theorem C.impl_nextSeed {x : Int}  {H : Hp} {K : Value → Hp → Prop} (x0 : 0 ≤ x) (x1 : x ≤ 4294967295)
    (hk : K (.int .i64 (nxS x)) H) : HT prg I.impl_nextSeed [(.int .i64 (x))].toArray H K := by
  have lE := Le.refl H
  refine R.impl_nextSeed ?_
  unfold F.impl_nextSeed
  refine ob_i (vInt_mul (by omega) (by omega)) ?_
  refine ob_i (vInt_add (by omega) (by omega)) ?_
  refine ob_i (vInt_remN (by omega) (by omega)) ?_
  skip
  exact keq (K := K) (by rw [show ((((1664525 * x) + 1013904223) % 4294967296) : Int) = (nxS x) from by rfl]) (hk )
theorem C.impl_copyField {vc : Value} {r c : Int} {l : List Int}  {H : Hp} {K : Value → Hp → Prop} (hvc0 : Sl eI H vc l) (hl : l.length ≤ 68719476736)
    (hk : ∀ u1 H', Own eI H' u1 l → Nw H u1 → Le H H' → K (.agg #[(.int .i64 (r)), (.int .i64 (c)), u1]) H') : HT prg I.impl_copyField [(.agg #[(.int .i64 (r)), (.int .i64 (c)), vc])].toArray H K := by
  have lE := Le.refl H
  have hvc := hvc0
  refine R.impl_copyField ?_
  unfold F.impl_copyField
  refine nw_i (fun p1 H2 op1 nn3 le4 => ?_)
  have np1 : Nw H p1 := nn3.le lE
  replace hvc := hvc.le le4
  replace lE := lE.trans le4
  replace op1 : Cel H2 p1 [(.int .i64 (r)), (.int .i64 (c)), vc] := op1
  refine nw_i (fun p5 H6 op5 nn7 le8 => ?_)
  have ap1Xp5 : Apart p1 p5 := op1.apart nn7
  have np5 : Nw H p5 := nn7.le lE
  replace op1 := op1.le le8
  replace hvc := hvc.le le8
  replace lE := lE.trans le8
  replace op5 : Cel H6 p5 [(.int .i64 (0)), (.int .i64 (0)), (.slice none 0 0)] := op5
  refine ob_i (op1.fa 2) ?_
  refine ob_i (op1.ld 2 rfl) ?_
  refine C.slices_Clone_int64Zint64 hvc (by first | omega | assumption) (fun  u11 H9 ou11 nn12  le10 => ?_)
  have ap1Xu11 : Apart p1 u11 := op1.apart nn12
  have ap5Xu11 : Apart p5 u11 := op5.apart nn12
  have nu11 : Nw H u11 := nn12.le lE
  replace op1 := op1.le le10
  replace op5 := op5.le le10
  replace hvc := hvc.le le10
  replace lE := lE.trans le10
  refine ob_i (op1.fa 2) ?_
  refine op1.st (by simp) ou11.one ou11.cells (fun H13 op1 off14 => ?_)
  replace op5 := op5.off off14 ap1Xp5.symm
  replace ou11 := ou11.off off14 ap1Xu11.symm
  replace hvc := hvc0.le (off14.le lE np1)
  replace lE := off14.le lE np1
  replace op1 : Cel H13 p1 [(.int .i64 (r)), (.int .i64 (c)), u11] := op1
  refine ob_i (op1.ldn rfl) ?_
  refine op5.stn (ws := [(.int .i64 (r)), (.int .i64 (c)), u11]) rfl rfl (oc1 rfl (oc1 rfl (oc1 ou11.one oc0))) (fun H15 op5 off16 => ?_)
  replace op1 := op1.off off16 ap1Xp5
  replace ou11 := ou11.off off16 ap5Xu11.symm
  replace hvc := hvc0.le (off16.le lE np5)
  replace lE := off16.le lE np5
  replace op5 : Cel H15 p5 [(.int .i64 (r)), (.int .i64 (c)), u11] := op5
  refine ob_i (op5.ldn rfl) ?_
  skip
  exact hk  u11 _ ou11 nu11  lE
theorem C.sweep_cold {vc : Value} {r c x : Int} {l : List Int}  {H : Hp} {K : Value → Hp → Prop} (hvc0 : Sl eI H vc l) (k1 : l.length ≤ 9223372036854775807) (hf : fieldN 1 r c l) (x0 : 0 ≤ x) (x1 : x ≤ 4294967295)
    (hk : ∀ u1 H', Own eI H' u1 (swS false r c l l.length) → Nw H u1 → Le H H' → K (.tuple #[(.agg #[(.int .i64 (r)), (.int .i64 (c)), u1]), (.int .i64 (sdS x l.length)), (.bool true)]) H') : HT prg I.impl_SpinSweep [(.agg #[(.int .i64 (r)), (.int .i64 (c)), vc]), (.float .f32 1120403456), (.int .i64 (x))].toArray H K := by
  have lE := Le.refl H
  have hvc := hvc0
  refine R.impl_SpinSweep ?_
  unfold F.impl_SpinSweep
  have hs := hf.1
  have hl := hf.2.1
  have qm := sidesF_mul hs
  have q1 := hs.1
  have q2 := hs.2
  have sb := sdS_bnd x0 x1
  refine nw_i (fun q H1 oq nn2 le3 => ?_)
  have nq : Nw H q := nn2.le lE
  replace hvc := hvc.le le3
  replace lE := lE.trans le3
  replace oq : Cel H1 q [(.int .i64 (r)), (.int .i64 (c)), vc] := oq
  refine nw_i (fun p4 H5 op4 nn6 le7 => ?_)
  have aqXp4 : Apart q p4 := oq.apart nn6
  have np4 : Nw H p4 := nn6.le lE
  replace oq := oq.le le7
  replace hvc := hvc.le le7
  replace lE := lE.trans le7
  replace op4 : Cel H5 p4 [(.int .i64 (0)), (.int .i64 (0)), (.slice none 0 0)] := op4
  refine ob_i (oq.ldn rfl) ?_
  refine C.impl_isPlain hvc (by first | omega | assumption) (fun   H8    le9 => ?_)
  replace oq := oq.le le9
  replace op4 := op4.le le9
  replace hvc := hvc.le le9
  replace lE := lE.trans le9
  refine ob_nd (fun hc10 => ?_) (fun hc10 => ?_)
  · skip
    refine gop_rf ?_
    refine gop_rf ?_
    refine C.impl_IsFinite ?_
    rw [fin_100]
    refine gop_rf ?_
    refine ob_i (a := .bool false) rfl ?_
    refine ob_i (vPick_f _ _) ?_
    refine gop_rf ?_
    refine gop_rf ?_
    refine ob_i (vF_geq _ _) ?_
    refine gop_rf ?_
    refine ob_i (a := .bool false) (by rw [ge_100]; rfl) ?_
    refine ob_i (vPick_f _ _) ?_
    refine gop_rf ?_
    refine gop_rf ?_
    refine C.impl_isSeed  (fun   H11    le12 => ?_)
    replace oq := oq.le le12
    replace op4 := op4.le le12
    replace hvc := hvc.le le12
    replace lE := lE.trans le12
    refine gop_rf ?_
    refine ob_nd (fun hc13 => ?_) (fun hc13 => ?_)
    · skip
      refine ob_i (vPick_f _ _) ?_
      refine cnd_f1 ?_
      refine ob_i (oq.ldn rfl) ?_
      refine C.impl_copyField hvc (by first | omega | assumption) (fun  u H14 ou nn16  le15 => ?_)
      have aqXu : Apart q u := oq.apart nn16
      have ap4Xu : Apart p4 u := op4.apart nn16
      have nu : Nw H u := nn16.le lE
      replace oq := oq.le le15
      replace op4 := op4.le le15
      replace hvc := hvc.le le15
      replace lE := lE.trans le15
      refine oq.stn (ws := [(.int .i64 (r)), (.int .i64 (c)), u]) rfl rfl (oc1 rfl (oc1 rfl (oc1 ou.one oc0))) (fun H17 oq off18 => ?_)
      replace op4 := op4.off off18 aqXp4.symm
      replace ou := ou.off off18 aqXu.symm
      replace hvc := hvc0.le (off18.le lE nq)
      replace lE := off18.le lE nq
      replace oq : Cel H17 q [(.int .i64 (r)), (.int .i64 (c)), u] := oq
      refine jn_i (fun σ' H' => σ' 2 = (.int .i64 (sdS x l.length)) ∧ σ' 3 = q ∧ σ' 6 = p4 ∧ Cel H' q [(.int .i64 (r)), (.int .i64 (c)), u] ∧ Cel H' p4 [(.int .i64 (0)), (.int .i64 (0)), (.slice none 0 0)] ∧ Own eI H' u (swS false r c l l.length) ∧ Le H H') (fun σ19 H19 hP => ?_) (fun J19 hJ19 => ?_)
      · skip
        obtain ⟨g2L19, g3L19, g6L19, oq, op4, ou, lE⟩ := hP
        have hvc := hvc0.le lE
        try simp only [g2L19, g3L19, g6L19]
        refine ob_i (oq.ldn rfl) ?_
        refine op4.stn (ws := [(.int .i64 (r)), (.int .i64 (c)), u]) rfl rfl (oc1 rfl (oc1 rfl (oc1 ou.one oc0))) (fun H20 op4 off21 => ?_)
        replace oq := oq.off off21 aqXp4
        replace ou := ou.off off21 ap4Xu.symm
        replace hvc := hvc0.le (off21.le lE np4)
        replace lE := off21.le lE np4
        replace op4 : Cel H20 p4 [(.int .i64 (r)), (.int .i64 (c)), u] := op4
        refine ob_i (op4.ldn rfl) ?_
        skip
        exact hk  u _ ou nu  lE
      refine ob_i (oq.fa 2) ?_
      refine ob_i (oq.ld 2 rfl) ?_
      refine ob_i (ou.len) ?_
      refine ⟨fun n' σ' H' => ∃ i : Nat, n' = l.length - i ∧ i ≤ l.length ∧ σ' 1 = (.float .f32 1120403456) ∧ σ' 2 = (.int .i64 (sdS x i)) ∧ σ' 3 = q ∧ σ' 6 = p4 ∧ σ' 36 = (.int .i64 (((l).length : Int))) ∧ σ' 37 = (.int .i64 ((i : Int))) ∧ Cel H' q [(.int .i64 (r)), (.int .i64 (c)), u] ∧ Cel H' p4 [(.int .i64 (0)), (.int .i64 (0)), (.slice none 0 0)] ∧ Own eI H' u (swS false r c l i) ∧ Le H H',
        ⟨_, 0, rfl, by omega, rfl, (congrArg (Value.int .i64) (by first | omega | rfl | (simp; done))), rfl, rfl, rfl, (congrArg (Value.int .i64) (by first | omega | rfl | (simp; done))), oq, op4, ou, lE⟩, ?_⟩
      rintro n22 σ22 H22 ⟨i, rfl, hiN, g1L22, g2L22, g3L22, g6L22, g36L22, g37L22, oq, op4, ou, lE⟩
      have hvc := hvc0.le lE
      try simp only [g1L22, g2L22, g3L22, g6L22, g36L22, g37L22]
      have hfi := swS_field (hot := false) hf i (by omega)
      have hli := hfi.2.1
      have si := sb i
      have sj := sb (i + 1)
      have ej : sdS x (i + 1) = nxS (sdS x i) := rfl
      rw [ej] at sj
      have a0 : 0 ≤ (i : Int) / c := Int.ediv_nonneg (by omega) (by omega)
      have b0 := Int.emod_nonneg (i : Int) (b := c) (by omega)
      have b1 := Int.emod_lt_of_pos (i : Int) (b := c) (by omega)
      have sd := swD_bnd hfi i
      unfold swD at sd
      have sp0 := spinF_le hfi ((i : Int) / c) ((i : Int) % c)
      have sp1 := spinF_le hfi ((i : Int) / c - 1) ((i : Int) % c)
      have sp2 := spinF_le hfi ((i : Int) / c) ((i : Int) % c + 1)
      have sp3 := spinF_le hfi ((i : Int) / c + 1) ((i : Int) % c)
      have sp4 := spinF_le hfi ((i : Int) / c) ((i : Int) % c - 1)
      refine ob_i (vInt_lss _ _ _) ?_
      refine cnd_d (fun hg23 => ?_) (fun hg23 => ?_)
      · skip
        have ti := hg23
        have a1 : (i : Int) / c < r := Int.ediv_lt_of_lt_mul (by omega) (by omega)
        have av := fieldN_at hfi (i := (i : Int)) (by omega) (by omega)
        refine ob_i (oq.fa 1) ?_
        refine ob_i (oq.ld 1 rfl) ?_
        refine ob_i (vInt_quoN (by omega) (by omega) (by omega)) ?_
        refine ob_i (oq.fa 1) ?_
        refine ob_i (oq.ld 1 rfl) ?_
        have rm24 := And.intro (Int.emod_nonneg ((i : Int)) (b := c) (by omega)) (Int.emod_lt_of_pos ((i : Int)) (b := c) (by omega))
        refine ob_i (vInt_remN (by omega) (by omega)) ?_
        refine ob_i (oq.ldn rfl) ?_
        refine ob_i (oq.ldn rfl) ?_
        refine ob_i (vInt_sub (by omega) (by omega)) ?_
        refine ob_i (oq.ldn rfl) ?_
        refine ob_i (vInt_add (by omega) (by omega)) ?_
        refine ob_i (oq.ldn rfl) ?_
        refine ob_i (vInt_add (by omega) (by omega)) ?_
        refine ob_i (oq.ldn rfl) ?_
        refine ob_i (vInt_sub (by omega) (by omega)) ?_
        refine C.impl_Field_spin ou.sl (by first | omega | assumption) (by first | omega | assumption) (by first | omega | assumption) (by first | omega | assumption) (by first | omega | assumption) (fun   H25    le26 => ?_)
        replace oq := oq.le le26
        replace op4 := op4.le le26
        replace ou := ou.le le26
        replace hvc := hvc.le le26
        replace lE := lE.trans le26
        refine ⟨le26, ?_⟩
        refine ob_i (vInt_mul (by omega) (by omega)) ?_
        refine C.impl_Field_spin ou.sl (by first | omega | assumption) (by first | omega | assumption) (by first | omega | assumption) (by first | omega | assumption) (by first | omega | assumption) (fun   H27    le28 => ?_)
        replace oq := oq.le le28
        replace op4 := op4.le le28
        replace ou := ou.le le28
        replace hvc := hvc.le le28
        replace lE := lE.trans le28
        refine ⟨le28, ?_⟩
        refine C.impl_Field_spin ou.sl (by first | omega | assumption) (by first | omega | assumption) (by first | omega | assumption) (by first | omega | assumption) (by first | omega | assumption) (fun   H29    le30 => ?_)
        replace oq := oq.le le30
        replace op4 := op4.le le30
        replace ou := ou.le le30
        replace hvc := hvc.le le30
        replace lE := lE.trans le30
        refine ⟨le30, ?_⟩
        refine ob_i (vInt_add (by omega) (by omega)) ?_
        refine C.impl_Field_spin ou.sl (by first | omega | assumption) (by first | omega | assumption) (by first | omega | assumption) (by first | omega | assumption) (by first | omega | assumption) (fun   H31    le32 => ?_)
        replace oq := oq.le le32
        replace op4 := op4.le le32
        replace ou := ou.le le32
        replace hvc := hvc.le le32
        replace lE := lE.trans le32
        refine ⟨le32, ?_⟩
        refine ob_i (vInt_add (by omega) (by omega)) ?_
        refine C.impl_Field_spin ou.sl (by first | omega | assumption) (by first | omega | assumption) (by first | omega | assumption) (by first | omega | assumption) (by first | omega | assumption) (fun   H33    le34 => ?_)
        replace oq := oq.le le34
        replace op4 := op4.le le34
        replace ou := ou.le le34
        replace hvc := hvc.le le34
        replace lE := lE.trans le34
        refine ⟨le34, ?_⟩
        refine ob_i (vInt_add (by omega) (by omega)) ?_
        refine ob_i (vInt_mul (by omega) (by omega)) ?_
        refine C.impl_nextSeed (by first | omega | assumption) (by first | omega | assumption) ?_
        refine ob_i (vInt_leq _ _ _) ?_
        by_cases hc35 : ((2 * (spinF r c (swS false r c l i) ((i : Int) / c) ((i : Int) % c))) * ((((spinF r c (swS false r c l i) (((i : Int) / c) - 1) ((i : Int) % c)) + (spinF r c (swS false r c l i) ((i : Int) / c) (((i : Int) % c) + 1))) + (spinF r c (swS false r c l i) (((i : Int) / c) + 1) ((i : Int) % c))) + (spinF r c (swS false r c l i) ((i : Int) / c) (((i : Int) % c) - 1)))) ≤ 0
        · skip
          refine gop_e (decide_eq_true hc35) ?_
          refine gop_st ?_
          refine gop_e (decide_eq_true hc35) ?_
          refine gop_st ?_
          refine gop_e (decide_eq_true hc35) ?_
          refine gop_st ?_
          refine gop_e (decide_eq_true hc35) ?_
          refine gop_st ?_
          refine gop_e (decide_eq_true hc35) ?_
          refine gop_st ?_
          refine gop_e (decide_eq_true hc35) ?_
          refine gop_st ?_
          refine gop_e (decide_eq_true hc35) ?_
          refine gop_st ?_
          refine gop_e (decide_eq_true hc35) ?_
          refine gop_st ?_
          refine gop_e (decide_eq_true hc35) ?_
          refine gop_st ?_
          refine ob_i (vPick_et (decide_eq_true hc35) _ _) ?_
          refine cnd_t1 ?_
          refine ob_i (oq.fa 2) ?_
          refine ob_i (oq.ld 2 rfl) ?_
          refine ob_i (oq.fa 2) ?_
          refine ob_i (oq.ld 2 rfl) ?_
          refine ob_i (ou.sl.ix (by omega) (by omega)) ?_
          refine ob_i (ou.sl.ld 0 (by omega) (by omega)) ?_
          refine ob_i (vInt_sub (by omega) (by omega)) ?_
          refine ob_i (ou.sl.ix (by omega) (by omega)) ?_
          refine ou.st (x := 1 - (at_ 0 (swS false r c l i) ((i : Int)))) (by omega) (by omega) rfl rfl (fun H36 ou off37 => ?_)
          replace oq := oq.off off37 aqXu
          replace op4 := op4.off off37 ap4Xu
          replace hvc := hvc0.le (off37.le lE nu)
          replace lE := off37.le lE nu
          refine ob_i (vInt_add (by omega) (by omega)) ?_
          have eS : swS false r c l (i + 1) = _ := swS_yes (Or.inr (by unfold swD; exact hc35))
          exact nxt (l.length - (i + 1)) (by omega) ⟨i + 1, rfl, by omega, g1L22, (congrArg (Value.int .i64) rfl), g3L22, g6L22, g36L22, (congrArg (Value.int .i64) (by first | omega | rfl | (simp; done))), oq, op4, (Own.cast (by rw [eS]; try rfl) ou), lE⟩
        · skip
          refine gop_e (decide_eq_false hc35) ?_
          refine gop_rf ?_
          refine gop_e (decide_eq_false hc35) ?_
          refine gop_rf ?_
          refine R.impl_shareOf ?_
          unfold F.impl_shareOf
          refine ob_i (vInt_quoN (by omega) (by omega) (by omega)) ?_
          refine ob_i (a := (.float .f32 (FloatKind.nearest .f32 ((nxS (sdS x i)) / 256)))) rfl ?_
          refine fA_i (o := (FloatKind.f32.format.div (FloatKind.nearest .f32 ((nxS (sdS x i)) / 256)) 1266679808)) rfl (fun t => nan_bits32 _ _ t) (fun z38 hz38 => ?_)
          refine gop_e (decide_eq_false hc35) ?_
          refine gop_rf ?_
          refine gop_e (decide_eq_false hc35) ?_
          refine gop_rf ?_
          refine gop_e (decide_eq_false hc35) ?_
          refine gop_rf ?_
          refine ob_i (a := (.float .f32 (FloatKind.nearest .f32 ((2 * (spinF r c (swS false r c l i) ((i : Int) / c) ((i : Int) % c))) * ((((spinF r c (swS false r c l i) (((i : Int) / c) - 1) ((i : Int) % c)) + (spinF r c (swS false r c l i) ((i : Int) / c) (((i : Int) % c) + 1))) + (spinF r c (swS false r c l i) (((i : Int) / c) + 1) ((i : Int) % c))) + (spinF r c (swS false r c l i) ((i : Int) / c) (((i : Int) % c) - 1))))))) rfl ?_
          refine gop_e (decide_eq_false hc35) ?_
          refine gop_rf ?_
          refine fA_i (o := (FloatKind.f32.format.mul 1120403456 (FloatKind.nearest .f32 ((2 * (spinF r c (swS false r c l i) ((i : Int) / c) ((i : Int) % c))) * ((((spinF r c (swS false r c l i) (((i : Int) / c) - 1) ((i : Int) % c)) + (spinF r c (swS false r c l i) ((i : Int) / c) (((i : Int) % c) + 1))) + (spinF r c (swS false r c l i) (((i : Int) / c) + 1) ((i : Int) % c))) + (spinF r c (swS false r c l i) ((i : Int) / c) (((i : Int) % c) - 1))))))) rfl (fun t => nan_bits32 _ _ t) (fun z39 hz39 => ?_)
          refine gop_e (decide_eq_false hc35) ?_
          refine gop_rf ?_
          refine fA_i (o := (FloatKind.f32.format.sub 0 z39)) rfl (fun t => nan_bits32 _ _ t) (fun z40 hz40 => ?_)
          refine gop_e (decide_eq_false hc35) ?_
          refine gop_rf ?_
          have hd4 := swD_at hfi i (by unfold swD; exact hc35)
          unfold swD at hd4
          refine C.exp_low (cold_low hd4 hz39 hz40) ?_
          have hsh : fLt z38 0 = false := (fLtO_of hz38).trans (shB_lo sj.1 sj.2)
          refine gop_e (decide_eq_false hc35) ?_
          refine gop_rf ?_
          refine ob_i (vF_lss _ _) ?_
          refine ob_i (vPick_ef (decide_eq_false hc35) _ _) ?_
          refine cnd_e (hsh) ?_
          refine cnd_f1 ?_
          refine ob_i (vInt_add (by omega) (by omega)) ?_
          have eS : swS false r c l (i + 1) = _ := swS_no (fun x => x.elim (fun y => absurd y (by simp)) (fun y => hc35 (by unfold swD at y; exact y)))
          exact nxt (l.length - (i + 1)) (by omega) ⟨i + 1, rfl, by omega, g1L22, (congrArg (Value.int .i64) rfl), g3L22, g6L22, g36L22, (congrArg (Value.int .i64) (by first | omega | rfl | (simp; done))), oq, op4, (Own.cast (by rw [eS]; try rfl) ou), lE⟩
      · skip
        have ti := hg23
        obtain rfl : i = l.length := by omega
        exact hJ19 _ _ ⟨(g2L22.trans (congrArg (Value.int .i64) (by first | omega | rfl | (simp; done)))), g3L22, g6L22, oq, op4, ou, lE⟩
    · skip
      exact absurd hc13 (fun h => h ⟨x0, x1⟩)
  · skip
    exact absurd hc10 (fun h => h hf)
theorem C.sweep_hot {vc : Value} {r c x : Int} {l : List Int}  {H : Hp} {K : Value → Hp → Prop} (hvc0 : Sl eI H vc l) (k1 : l.length ≤ 9223372036854775807) (hf : fieldN 1 r c l) (x0 : 0 ≤ x) (x1 : x ≤ 4294967295)
    (hk : ∀ u1 H', Own eI H' u1 (swS true r c l l.length) → Nw H u1 → Le H H' → K (.tuple #[(.agg #[(.int .i64 (r)), (.int .i64 (c)), u1]), (.int .i64 (sdS x l.length)), (.bool true)]) H') : HT prg I.impl_SpinSweep [(.agg #[(.int .i64 (r)), (.int .i64 (c)), vc]), (.float .f32 0), (.int .i64 (x))].toArray H K := by
  have lE := Le.refl H
  have hvc := hvc0
  refine R.impl_SpinSweep ?_
  unfold F.impl_SpinSweep
  have hs := hf.1
  have hl := hf.2.1
  have qm := sidesF_mul hs
  have q1 := hs.1
  have q2 := hs.2
  have sb := sdS_bnd x0 x1
  refine nw_i (fun q H1 oq nn2 le3 => ?_)
  have nq : Nw H q := nn2.le lE
  replace hvc := hvc.le le3
  replace lE := lE.trans le3
  replace oq : Cel H1 q [(.int .i64 (r)), (.int .i64 (c)), vc] := oq
  refine nw_i (fun p4 H5 op4 nn6 le7 => ?_)
  have aqXp4 : Apart q p4 := oq.apart nn6
  have np4 : Nw H p4 := nn6.le lE
  replace oq := oq.le le7
  replace hvc := hvc.le le7
  replace lE := lE.trans le7
  replace op4 : Cel H5 p4 [(.int .i64 (0)), (.int .i64 (0)), (.slice none 0 0)] := op4
  refine ob_i (oq.ldn rfl) ?_
  refine C.impl_isPlain hvc (by first | omega | assumption) (fun   H8    le9 => ?_)
  replace oq := oq.le le9
  replace op4 := op4.le le9
  replace hvc := hvc.le le9
  replace lE := lE.trans le9
  refine ob_nd (fun hc10 => ?_) (fun hc10 => ?_)
  · skip
    refine gop_rf ?_
    refine gop_rf ?_
    refine C.impl_IsFinite ?_
    rw [fin_0]
    refine gop_rf ?_
    refine ob_i (a := .bool false) rfl ?_
    refine ob_i (vPick_f _ _) ?_
    refine gop_rf ?_
    refine gop_rf ?_
    refine ob_i (vF_geq _ _) ?_
    refine gop_rf ?_
    refine ob_i (a := .bool false) (by rw [ge_0]; rfl) ?_
    refine ob_i (vPick_f _ _) ?_
    refine gop_rf ?_
    refine gop_rf ?_
    refine C.impl_isSeed  (fun   H11    le12 => ?_)
    replace oq := oq.le le12
    replace op4 := op4.le le12
    replace hvc := hvc.le le12
    replace lE := lE.trans le12
    refine gop_rf ?_
    refine ob_nd (fun hc13 => ?_) (fun hc13 => ?_)
    · skip
      refine ob_i (vPick_f _ _) ?_
      refine cnd_f1 ?_
      refine ob_i (oq.ldn rfl) ?_
      refine C.impl_copyField hvc (by first | omega | assumption) (fun  u H14 ou nn16  le15 => ?_)
      have aqXu : Apart q u := oq.apart nn16
      have ap4Xu : Apart p4 u := op4.apart nn16
      have nu : Nw H u := nn16.le lE
      replace oq := oq.le le15
      replace op4 := op4.le le15
      replace hvc := hvc.le le15
      replace lE := lE.trans le15
      refine oq.stn (ws := [(.int .i64 (r)), (.int .i64 (c)), u]) rfl rfl (oc1 rfl (oc1 rfl (oc1 ou.one oc0))) (fun H17 oq off18 => ?_)
      replace op4 := op4.off off18 aqXp4.symm
      replace ou := ou.off off18 aqXu.symm
      replace hvc := hvc0.le (off18.le lE nq)
      replace lE := off18.le lE nq
      replace oq : Cel H17 q [(.int .i64 (r)), (.int .i64 (c)), u] := oq
      refine jn_i (fun σ' H' => σ' 2 = (.int .i64 (sdS x l.length)) ∧ σ' 3 = q ∧ σ' 6 = p4 ∧ Cel H' q [(.int .i64 (r)), (.int .i64 (c)), u] ∧ Cel H' p4 [(.int .i64 (0)), (.int .i64 (0)), (.slice none 0 0)] ∧ Own eI H' u (swS true r c l l.length) ∧ Le H H') (fun σ19 H19 hP => ?_) (fun J19 hJ19 => ?_)
      · skip
        obtain ⟨g2L19, g3L19, g6L19, oq, op4, ou, lE⟩ := hP
        have hvc := hvc0.le lE
        try simp only [g2L19, g3L19, g6L19]
        refine ob_i (oq.ldn rfl) ?_
        refine op4.stn (ws := [(.int .i64 (r)), (.int .i64 (c)), u]) rfl rfl (oc1 rfl (oc1 rfl (oc1 ou.one oc0))) (fun H20 op4 off21 => ?_)
        replace oq := oq.off off21 aqXp4
        replace ou := ou.off off21 ap4Xu.symm
        replace hvc := hvc0.le (off21.le lE np4)
        replace lE := off21.le lE np4
        replace op4 : Cel H20 p4 [(.int .i64 (r)), (.int .i64 (c)), u] := op4
        refine ob_i (op4.ldn rfl) ?_
        skip
        exact hk  u _ ou nu  lE
      refine ob_i (oq.fa 2) ?_
      refine ob_i (oq.ld 2 rfl) ?_
      refine ob_i (ou.len) ?_
      refine ⟨fun n' σ' H' => ∃ i : Nat, n' = l.length - i ∧ i ≤ l.length ∧ σ' 1 = (.float .f32 0) ∧ σ' 2 = (.int .i64 (sdS x i)) ∧ σ' 3 = q ∧ σ' 6 = p4 ∧ σ' 36 = (.int .i64 (((l).length : Int))) ∧ σ' 37 = (.int .i64 ((i : Int))) ∧ Cel H' q [(.int .i64 (r)), (.int .i64 (c)), u] ∧ Cel H' p4 [(.int .i64 (0)), (.int .i64 (0)), (.slice none 0 0)] ∧ Own eI H' u (swS true r c l i) ∧ Le H H',
        ⟨_, 0, rfl, by omega, rfl, (congrArg (Value.int .i64) (by first | omega | rfl | (simp; done))), rfl, rfl, rfl, (congrArg (Value.int .i64) (by first | omega | rfl | (simp; done))), oq, op4, ou, lE⟩, ?_⟩
      rintro n22 σ22 H22 ⟨i, rfl, hiN, g1L22, g2L22, g3L22, g6L22, g36L22, g37L22, oq, op4, ou, lE⟩
      have hvc := hvc0.le lE
      try simp only [g1L22, g2L22, g3L22, g6L22, g36L22, g37L22]
      have hfi := swS_field (hot := true) hf i (by omega)
      have hli := hfi.2.1
      have si := sb i
      have sj := sb (i + 1)
      have ej : sdS x (i + 1) = nxS (sdS x i) := rfl
      rw [ej] at sj
      have a0 : 0 ≤ (i : Int) / c := Int.ediv_nonneg (by omega) (by omega)
      have b0 := Int.emod_nonneg (i : Int) (b := c) (by omega)
      have b1 := Int.emod_lt_of_pos (i : Int) (b := c) (by omega)
      have sd := swD_bnd hfi i
      unfold swD at sd
      have sp0 := spinF_le hfi ((i : Int) / c) ((i : Int) % c)
      have sp1 := spinF_le hfi ((i : Int) / c - 1) ((i : Int) % c)
      have sp2 := spinF_le hfi ((i : Int) / c) ((i : Int) % c + 1)
      have sp3 := spinF_le hfi ((i : Int) / c + 1) ((i : Int) % c)
      have sp4 := spinF_le hfi ((i : Int) / c) ((i : Int) % c - 1)
      refine ob_i (vInt_lss _ _ _) ?_
      refine cnd_d (fun hg23 => ?_) (fun hg23 => ?_)
      · skip
        have ti := hg23
        have a1 : (i : Int) / c < r := Int.ediv_lt_of_lt_mul (by omega) (by omega)
        have av := fieldN_at hfi (i := (i : Int)) (by omega) (by omega)
        refine ob_i (oq.fa 1) ?_
        refine ob_i (oq.ld 1 rfl) ?_
        refine ob_i (vInt_quoN (by omega) (by omega) (by omega)) ?_
        refine ob_i (oq.fa 1) ?_
        refine ob_i (oq.ld 1 rfl) ?_
        have rm24 := And.intro (Int.emod_nonneg ((i : Int)) (b := c) (by omega)) (Int.emod_lt_of_pos ((i : Int)) (b := c) (by omega))
        refine ob_i (vInt_remN (by omega) (by omega)) ?_
        refine ob_i (oq.ldn rfl) ?_
        refine ob_i (oq.ldn rfl) ?_
        refine ob_i (vInt_sub (by omega) (by omega)) ?_
        refine ob_i (oq.ldn rfl) ?_
        refine ob_i (vInt_add (by omega) (by omega)) ?_
        refine ob_i (oq.ldn rfl) ?_
        refine ob_i (vInt_add (by omega) (by omega)) ?_
        refine ob_i (oq.ldn rfl) ?_
        refine ob_i (vInt_sub (by omega) (by omega)) ?_
        refine C.impl_Field_spin ou.sl (by first | omega | assumption) (by first | omega | assumption) (by first | omega | assumption) (by first | omega | assumption) (by first | omega | assumption) (fun   H25    le26 => ?_)
        replace oq := oq.le le26
        replace op4 := op4.le le26
        replace ou := ou.le le26
        replace hvc := hvc.le le26
        replace lE := lE.trans le26
        refine ⟨le26, ?_⟩
        refine ob_i (vInt_mul (by omega) (by omega)) ?_
        refine C.impl_Field_spin ou.sl (by first | omega | assumption) (by first | omega | assumption) (by first | omega | assumption) (by first | omega | assumption) (by first | omega | assumption) (fun   H27    le28 => ?_)
        replace oq := oq.le le28
        replace op4 := op4.le le28
        replace ou := ou.le le28
        replace hvc := hvc.le le28
        replace lE := lE.trans le28
        refine ⟨le28, ?_⟩
        refine C.impl_Field_spin ou.sl (by first | omega | assumption) (by first | omega | assumption) (by first | omega | assumption) (by first | omega | assumption) (by first | omega | assumption) (fun   H29    le30 => ?_)
        replace oq := oq.le le30
        replace op4 := op4.le le30
        replace ou := ou.le le30
        replace hvc := hvc.le le30
        replace lE := lE.trans le30
        refine ⟨le30, ?_⟩
        refine ob_i (vInt_add (by omega) (by omega)) ?_
        refine C.impl_Field_spin ou.sl (by first | omega | assumption) (by first | omega | assumption) (by first | omega | assumption) (by first | omega | assumption) (by first | omega | assumption) (fun   H31    le32 => ?_)
        replace oq := oq.le le32
        replace op4 := op4.le le32
        replace ou := ou.le le32
        replace hvc := hvc.le le32
        replace lE := lE.trans le32
        refine ⟨le32, ?_⟩
        refine ob_i (vInt_add (by omega) (by omega)) ?_
        refine C.impl_Field_spin ou.sl (by first | omega | assumption) (by first | omega | assumption) (by first | omega | assumption) (by first | omega | assumption) (by first | omega | assumption) (fun   H33    le34 => ?_)
        replace oq := oq.le le34
        replace op4 := op4.le le34
        replace ou := ou.le le34
        replace hvc := hvc.le le34
        replace lE := lE.trans le34
        refine ⟨le34, ?_⟩
        refine ob_i (vInt_add (by omega) (by omega)) ?_
        refine ob_i (vInt_mul (by omega) (by omega)) ?_
        refine C.impl_nextSeed (by first | omega | assumption) (by first | omega | assumption) ?_
        refine ob_i (vInt_leq _ _ _) ?_
        by_cases hc35 : ((2 * (spinF r c (swS true r c l i) ((i : Int) / c) ((i : Int) % c))) * ((((spinF r c (swS true r c l i) (((i : Int) / c) - 1) ((i : Int) % c)) + (spinF r c (swS true r c l i) ((i : Int) / c) (((i : Int) % c) + 1))) + (spinF r c (swS true r c l i) (((i : Int) / c) + 1) ((i : Int) % c))) + (spinF r c (swS true r c l i) ((i : Int) / c) (((i : Int) % c) - 1)))) ≤ 0
        · skip
          refine gop_e (decide_eq_true hc35) ?_
          refine gop_st ?_
          refine gop_e (decide_eq_true hc35) ?_
          refine gop_st ?_
          refine gop_e (decide_eq_true hc35) ?_
          refine gop_st ?_
          refine gop_e (decide_eq_true hc35) ?_
          refine gop_st ?_
          refine gop_e (decide_eq_true hc35) ?_
          refine gop_st ?_
          refine gop_e (decide_eq_true hc35) ?_
          refine gop_st ?_
          refine gop_e (decide_eq_true hc35) ?_
          refine gop_st ?_
          refine gop_e (decide_eq_true hc35) ?_
          refine gop_st ?_
          refine gop_e (decide_eq_true hc35) ?_
          refine gop_st ?_
          refine ob_i (vPick_et (decide_eq_true hc35) _ _) ?_
          refine cnd_t1 ?_
          refine ob_i (oq.fa 2) ?_
          refine ob_i (oq.ld 2 rfl) ?_
          refine ob_i (oq.fa 2) ?_
          refine ob_i (oq.ld 2 rfl) ?_
          refine ob_i (ou.sl.ix (by omega) (by omega)) ?_
          refine ob_i (ou.sl.ld 0 (by omega) (by omega)) ?_
          refine ob_i (vInt_sub (by omega) (by omega)) ?_
          refine ob_i (ou.sl.ix (by omega) (by omega)) ?_
          refine ou.st (x := 1 - (at_ 0 (swS true r c l i) ((i : Int)))) (by omega) (by omega) rfl rfl (fun H36 ou off37 => ?_)
          replace oq := oq.off off37 aqXu
          replace op4 := op4.off off37 ap4Xu
          replace hvc := hvc0.le (off37.le lE nu)
          replace lE := off37.le lE nu
          refine ob_i (vInt_add (by omega) (by omega)) ?_
          have eS : swS true r c l (i + 1) = _ := swS_yes (Or.inr (by unfold swD; exact hc35))
          exact nxt (l.length - (i + 1)) (by omega) ⟨i + 1, rfl, by omega, g1L22, (congrArg (Value.int .i64) rfl), g3L22, g6L22, g36L22, (congrArg (Value.int .i64) (by first | omega | rfl | (simp; done))), oq, op4, (Own.cast (by rw [eS]; try rfl) ou), lE⟩
        · skip
          refine gop_e (decide_eq_false hc35) ?_
          refine gop_rf ?_
          refine gop_e (decide_eq_false hc35) ?_
          refine gop_rf ?_
          refine R.impl_shareOf ?_
          unfold F.impl_shareOf
          refine ob_i (vInt_quoN (by omega) (by omega) (by omega)) ?_
          refine ob_i (a := (.float .f32 (FloatKind.nearest .f32 ((nxS (sdS x i)) / 256)))) rfl ?_
          refine fA_i (o := (FloatKind.f32.format.div (FloatKind.nearest .f32 ((nxS (sdS x i)) / 256)) 1266679808)) rfl (fun t => nan_bits32 _ _ t) (fun z38 hz38 => ?_)
          refine gop_e (decide_eq_false hc35) ?_
          refine gop_rf ?_
          refine gop_e (decide_eq_false hc35) ?_
          refine gop_rf ?_
          refine gop_e (decide_eq_false hc35) ?_
          refine gop_rf ?_
          refine ob_i (a := (.float .f32 (FloatKind.nearest .f32 ((2 * (spinF r c (swS true r c l i) ((i : Int) / c) ((i : Int) % c))) * ((((spinF r c (swS true r c l i) (((i : Int) / c) - 1) ((i : Int) % c)) + (spinF r c (swS true r c l i) ((i : Int) / c) (((i : Int) % c) + 1))) + (spinF r c (swS true r c l i) (((i : Int) / c) + 1) ((i : Int) % c))) + (spinF r c (swS true r c l i) ((i : Int) / c) (((i : Int) % c) - 1))))))) rfl ?_
          refine gop_e (decide_eq_false hc35) ?_
          refine gop_rf ?_
          refine fA_i (o := (FloatKind.f32.format.mul 0 (FloatKind.nearest .f32 ((2 * (spinF r c (swS true r c l i) ((i : Int) / c) ((i : Int) % c))) * ((((spinF r c (swS true r c l i) (((i : Int) / c) - 1) ((i : Int) % c)) + (spinF r c (swS true r c l i) ((i : Int) / c) (((i : Int) % c) + 1))) + (spinF r c (swS true r c l i) (((i : Int) / c) + 1) ((i : Int) % c))) + (spinF r c (swS true r c l i) ((i : Int) / c) (((i : Int) % c) - 1))))))) rfl (fun t => nan_bits32 _ _ t) (fun z39 hz39 => ?_)
          refine gop_e (decide_eq_false hc35) ?_
          refine gop_rf ?_
          refine fA_i (o := (FloatKind.f32.format.sub 0 z39)) rfl (fun t => nan_bits32 _ _ t) (fun z40 hz40 => ?_)
          refine gop_e (decide_eq_false hc35) ?_
          refine gop_rf ?_
          have hd4 := swD_at hfi i (by unfold swD; exact hc35)
          unfold swD at hd4
          refine C.exp_zero (hot_zero hd4 hz39 hz40) ?_
          have hsh : fLt z38 1065353216 = true := (fLtO_of hz38).trans (shB_hi sj.1 sj.2)
          refine gop_e (decide_eq_false hc35) ?_
          refine gop_rf ?_
          refine ob_i (vF_lss _ _) ?_
          refine ob_i (vPick_ef (decide_eq_false hc35) _ _) ?_
          refine cnd_e (hsh) ?_
          refine cnd_t1 ?_
          refine ob_i (oq.fa 2) ?_
          refine ob_i (oq.ld 2 rfl) ?_
          refine ob_i (oq.fa 2) ?_
          refine ob_i (oq.ld 2 rfl) ?_
          refine ob_i (ou.sl.ix (by omega) (by omega)) ?_
          refine ob_i (ou.sl.ld 0 (by omega) (by omega)) ?_
          refine ob_i (vInt_sub (by omega) (by omega)) ?_
          refine ob_i (ou.sl.ix (by omega) (by omega)) ?_
          refine ou.st (x := 1 - (at_ 0 (swS true r c l i) ((i : Int)))) (by omega) (by omega) rfl rfl (fun H41 ou off42 => ?_)
          replace oq := oq.off off42 aqXu
          replace op4 := op4.off off42 ap4Xu
          replace hvc := hvc0.le (off42.le lE nu)
          replace lE := off42.le lE nu
          refine ob_i (vInt_add (by omega) (by omega)) ?_
          have eS : swS true r c l (i + 1) = _ := swS_yes (Or.inl rfl)
          exact nxt (l.length - (i + 1)) (by omega) ⟨i + 1, rfl, by omega, g1L22, (congrArg (Value.int .i64) rfl), g3L22, g6L22, g36L22, (congrArg (Value.int .i64) (by first | omega | rfl | (simp; done))), oq, op4, (Own.cast (by rw [eS]; try rfl) ou), lE⟩
      · skip
        have ti := hg23
        obtain rfl : i = l.length := by omega
        exact hJ19 _ _ ⟨(g2L22.trans (congrArg (Value.int .i64) (by first | omega | rfl | (simp; done)))), g3L22, g6L22, oq, op4, ou, lE⟩
    · skip
      exact absurd hc13 (fun h => h ⟨x0, x1⟩)
  · skip
    exact absurd hc10 (fun h => h hf)
theorem C.impl_NewField {r c : Int}  {H : Hp} {K : Value → Hp → Prop} (hs : sidesF r c)
    (hk : ∀ u1 H', Own eI H' u1 (mkL c zerG (r.toNat * c.toNat)) → Nw H u1 → Le H H' → K (.tuple #[(.agg #[(.int .i64 (r)), (.int .i64 (c)), u1]), (.bool true)]) H') : HT prg I.impl_NewField [(.int .i64 (r)), (.int .i64 (c))].toArray H K := by
  have lE := Le.refl H
  refine R.impl_NewField ?_
  unfold F.impl_NewField
  have q1 := hs.1
  have q2 := hs.2
  refine nw_i (fun p1 H2 op1 nn3 le4 => ?_)
  have np1 : Nw H p1 := nn3.le lE
  replace lE := lE.trans le4
  replace op1 : Cel H2 p1 [(.int .i64 (0)), (.int .i64 (0)), (.slice none 0 0)] := op1
  refine C.impl_isSide  ?_
  refine ob_nd (fun hc5 => ?_) (fun hc5 => ?_)
  · skip
    refine gop_rf ?_
    refine gop_rf ?_
    refine C.impl_isSide  ?_
    refine gop_rf ?_
    refine ob_nd (fun hc6 => ?_) (fun hc6 => ?_)
    · skip
      refine ob_i (vPick_f _ _) ?_
      refine cnd_f1 ?_
      refine C.impl_madeField (g := zerG) (by omega) (by omega) (by omega) (by omega) (fun H11c i11 k11 Z leZ hi11 hk11 hZ => ?_) (fun u7 H8 ou7 nn9 le10 => ?_)
      · refine ⟨by kernel_rfl, ?_⟩
        replace op1 := op1.le leZ
        replace lE := lE.trans leZ
        have lZ := Le.refl H11c
        refine R.impl_NewField_1 ?_
        unfold F.impl_NewField_1
        exact keq (K := Z) (by rw [show ((0) : Int) = zerG (i11 : Int) (k11 : Int) from rfl]) (hZ _ lZ)
      have ap1Xu7 : Apart p1 u7 := op1.apart nn9
      have nu7 : Nw H u7 := nn9.le lE
      replace op1 := op1.le le10
      replace lE := lE.trans le10
      refine op1.stn (ws := [(.int .i64 (r)), (.int .i64 (c)), u7]) rfl rfl (oc1 rfl (oc1 rfl (oc1 ou7.one oc0))) (fun H12 op1 off13 => ?_)
      replace ou7 := ou7.off off13 ap1Xu7.symm
      replace lE := off13.le lE np1
      replace op1 : Cel H12 p1 [(.int .i64 (r)), (.int .i64 (c)), u7] := op1
      refine ob_i (op1.ldn rfl) ?_
      skip
      exact hk  u7 _ (Own.cast (show mkL (c) (zerG) ((r : Int).toNat * (c : Int).toNat) = mkL c zerG (r.toNat * c.toNat) by first | rfl | simp) ou7) nu7  lE
    · skip
      exact absurd hc6 (fun h => h q2)
  · skip
    exact absurd hc5 (fun h => h q1)
theorem C.en_ok {vc : Value} {r c : Int} {l : List Int} {H : Hp} {K : Value → Hp → Prop} (hc : Sl eI H vc l) (hf : fieldN 1 r c l)
    (hk : ∀ H', Le H H' → K (.tuple #[.int .i64 (energy r c l), .bool true]) H') : HT prg I.impl_EnergyOf [.agg #[.int .i64 r, .int .i64 c, vc]].toArray H K :=
  C.impl_EnergyOf hc (by have := fieldN_len hf; omega) (fun H' le => by rw [decide_eq_true hf]; exact hk H' le)
theorem C.impl_alike {va vb : Value} {r c : Int} {l : List Int} {m : List Int}  {H : Hp} {K : Value → Hp → Prop} (hva0 : Sl eI H va l) (hvb0 : Sl eI H vb m) (hfl : fieldN 1 r c l) (hfm : fieldN 1 r c m)
    (hk : ∀ H', Le H H' → K (.bool true) H') : HT prg I.impl_alike [(.agg #[(.int .i64 (r)), (.int .i64 (c)), va]), (.agg #[(.int .i64 (r)), (.int .i64 (c)), vb])].toArray H K := by
  have lE := Le.refl H
  have hva := hva0
  have hvb := hvb0
  refine R.impl_alike ?_
  unfold F.impl_alike
  have l1 := fieldN_len hfl
  have l2 := fieldN_len hfm
  have l3 := hfl.2.1
  have l4 := hfm.2.1
  refine nw_i (fun p1 H2 op1 nn3 le4 => ?_)
  have np1 : Nw H p1 := nn3.le lE
  replace hva := hva.le le4
  replace hvb := hvb.le le4
  replace lE := lE.trans le4
  replace op1 : Cel H2 p1 [(.int .i64 (r)), (.int .i64 (c)), va] := op1
  refine nw_i (fun p5 H6 op5 nn7 le8 => ?_)
  have ap1Xp5 : Apart p1 p5 := op1.apart nn7
  have np5 : Nw H p5 := nn7.le lE
  replace op1 := op1.le le8
  replace hva := hva.le le8
  replace hvb := hvb.le le8
  replace lE := lE.trans le8
  replace op5 : Cel H6 p5 [(.int .i64 (r)), (.int .i64 (c)), vb] := op5
  refine ob_i (op1.ldn rfl) ?_
  refine C.impl_ValidField hva (by first | omega | assumption) (fun   H9    le10 => ?_)
  replace op1 := op1.le le10
  replace op5 := op5.le le10
  replace hva := hva.le le10
  replace hvb := hvb.le le10
  replace lE := lE.trans le10
  by_cases hc11 : fieldN 9 r c l
  · skip
    refine gop_e (decide_eq_true hc11) ?_
    refine gop_rt ?_
    refine ob_i (op5.ldn rfl) ?_
    refine gop_e (decide_eq_true hc11) ?_
    refine gop_rt ?_
    refine C.impl_ValidField hvb (by first | omega | assumption) (fun   H12    le13 => ?_)
    replace op1 := op1.le le13
    replace op5 := op5.le le13
    replace hva := hva.le le13
    replace hvb := hvb.le le13
    replace lE := lE.trans le13
    refine ob_i (vPick_et (decide_eq_true hc11) _ _) ?_
    by_cases hc14 : fieldN 9 r c m
    · skip
      refine gop_e (decide_eq_true hc14) ?_
      refine gop_rt ?_
      refine ob_i (op1.fa 0) ?_
      refine gop_e (decide_eq_true hc14) ?_
      refine gop_rt ?_
      refine ob_i (op1.ld 0 rfl) ?_
      refine gop_e (decide_eq_true hc14) ?_
      refine gop_rt ?_
      refine ob_i (op5.fa 0) ?_
      refine gop_e (decide_eq_true hc14) ?_
      refine gop_rt ?_
      refine ob_i (op5.ld 0 rfl) ?_
      refine gop_e (decide_eq_true hc14) ?_
      refine gop_rt ?_
      refine ob_i (vInt_eql _ _ _) ?_
      refine ob_i (vPick_et (decide_eq_true hc14) _ _) ?_
      by_cases hc15 : r = r
      · skip
        refine gop_e (decide_eq_true hc15) ?_
        refine gop_rt ?_
        refine ob_i (op1.fa 1) ?_
        refine gop_e (decide_eq_true hc15) ?_
        refine gop_rt ?_
        refine ob_i (op1.ld 1 rfl) ?_
        refine gop_e (decide_eq_true hc15) ?_
        refine gop_rt ?_
        refine ob_i (op5.fa 1) ?_
        refine gop_e (decide_eq_true hc15) ?_
        refine gop_rt ?_
        refine ob_i (op5.ld 1 rfl) ?_
        refine gop_e (decide_eq_true hc15) ?_
        refine gop_rt ?_
        refine ob_i (vInt_eql _ _ _) ?_
        refine ob_i (vPick_et (decide_eq_true hc15) _ _) ?_
        rw [decide_eq_true (show c = c from rfl)]
        exact hk _ lE
      · skip
        exact absurd hc15 (fun h => h rfl)
    · skip
      exact absurd hc14 (fun h => h (show fieldN 9 r c m from ⟨hfm.1, hfm.2.1, fun x hx => by have := hfm.2.2 x hx; omega⟩))
  · skip
    exact absurd hc11 (fun h => h (show fieldN 9 r c l from ⟨hfl.1, hfl.2.1, fun x hx => by have := hfl.2.2 x hx; omega⟩))
theorem C.impl_CellsApart {va vb : Value} {r c : Int} {l : List Int} {m : List Int}  {H : Hp} {K : Value → Hp → Prop} (hva0 : Sl eI H va l) (hvb0 : Sl eI H vb m) (hfl : fieldN 1 r c l) (hfm : fieldN 1 r c m)
    (hk : ∀ H', Le H H' → K (.tuple #[(.int .i64 (apN l m l.length)), (.bool true)]) H') : HT prg I.impl_CellsApart [(.agg #[(.int .i64 (r)), (.int .i64 (c)), va]), (.agg #[(.int .i64 (r)), (.int .i64 (c)), vb])].toArray H K := by
  have lE := Le.refl H
  have hva := hva0
  have hvb := hvb0
  refine R.impl_CellsApart ?_
  unfold F.impl_CellsApart
  have l1 := fieldN_len hfl
  have l2 := fieldN_len hfm
  have l3 := hfl.2.1
  have l4 := hfm.2.1
  refine nw_i (fun p1 H2 op1 nn3 le4 => ?_)
  have np1 : Nw H p1 := nn3.le lE
  replace hva := hva.le le4
  replace hvb := hvb.le le4
  replace lE := lE.trans le4
  replace op1 : Cel H2 p1 [(.int .i64 (r)), (.int .i64 (c)), va] := op1
  refine nw_i (fun p5 H6 op5 nn7 le8 => ?_)
  have ap1Xp5 : Apart p1 p5 := op1.apart nn7
  have np5 : Nw H p5 := nn7.le lE
  replace op1 := op1.le le8
  replace hva := hva.le le8
  replace hvb := hvb.le le8
  replace lE := lE.trans le8
  replace op5 : Cel H6 p5 [(.int .i64 (r)), (.int .i64 (c)), vb] := op5
  refine ob_i (op1.ldn rfl) ?_
  refine ob_i (op5.ldn rfl) ?_
  refine C.impl_alike hva hvb (by first | omega | assumption) (by first | omega | assumption) (fun   H9    le10 => ?_)
  replace op1 := op1.le le10
  replace op5 := op5.le le10
  replace hva := hva.le le10
  replace hvb := hvb.le le10
  replace lE := lE.trans le10
  refine ob_i (a := .bool false) rfl ?_
  refine cnd_f1 ?_
  refine jn_i (fun σ' H' => σ' 6 = (.int .i64 (apN l m l.length)) ∧ Cel H' p1 [(.int .i64 (r)), (.int .i64 (c)), va] ∧ Cel H' p5 [(.int .i64 (r)), (.int .i64 (c)), vb] ∧ Le H H') (fun σ11 H11 hP => ?_) (fun J11 hJ11 => ?_)
  · skip
    obtain ⟨g6L11, op1, op5, lE⟩ := hP
    have hva := hva0.le lE
    have hvb := hvb0.le lE
    try simp only [g6L11]
    skip
    exact hk   _    lE
  refine ob_i (op1.fa 2) ?_
  refine ob_i (op1.ld 2 rfl) ?_
  refine ob_i (hva.len) ?_
  refine ⟨fun n' σ' H' => ∃ i : Nat, n' = l.length - i ∧ i ≤ l.length ∧ σ' 3 = p5 ∧ σ' 6 = (.int .i64 (apN l m i)) ∧ σ' 14 = va ∧ σ' 15 = (.int .i64 (((l).length : Int))) ∧ σ' 16 = (.int .i64 ((i : Int))) ∧ Cel H' p1 [(.int .i64 (r)), (.int .i64 (c)), va] ∧ Cel H' p5 [(.int .i64 (r)), (.int .i64 (c)), vb] ∧ Le H H',
    ⟨_, 0, rfl, by omega, rfl, (congrArg (Value.int .i64) (by first | omega | rfl | (simp; done))), rfl, rfl, (congrArg (Value.int .i64) (by first | omega | rfl | (simp; done))), op1, op5, lE⟩, ?_⟩
  rintro n12 σ12 H12 ⟨i, rfl, hiN, g3L12, g6L12, g14L12, g15L12, g16L12, op1, op5, lE⟩
  have hva := hva0.le lE
  have hvb := hvb0.le lE
  try simp only [g3L12, g6L12, g14L12, g15L12, g16L12]
  have ab := apN_bnd l m i
  have eq : apN l m (i + 1) = apN l m i + if at_ 0 l (i : Int) = at_ 0 m (i : Int) then 0 else 1 := rfl
  refine ob_i (vInt_lss _ _ _) ?_
  refine cnd_d (fun hg13 => ?_) (fun hg13 => ?_)
  · skip
    have ti := hg13
    refine ob_i (hva.ix (by omega) (by omega)) ?_
    refine ob_i (hva.ld 0 (by omega) (by omega)) ?_
    refine ob_i (op5.fa 2) ?_
    refine ob_i (op5.ld 2 rfl) ?_
    refine ob_i (hvb.ix (by omega) (by omega)) ?_
    refine ob_i (hvb.ld 0 (by omega) (by omega)) ?_
    refine ob_i (vInt_neq _ _ _) ?_
    refine cnd_d (fun hg14 => ?_) (fun hg14 => ?_)
    · skip
      refine ob_i (vInt_add (by omega) (by omega)) ?_
      refine ob_i (vInt_add (by omega) (by omega)) ?_
      rw [if_neg hg14] at eq
      exact nxt (l.length - (i + 1)) (by omega) ⟨i + 1, rfl, by omega, g3L12, (congrArg (Value.int .i64) (by first | omega | rfl | (simp; done))), g14L12, g15L12, (congrArg (Value.int .i64) (by first | omega | rfl | (simp; done))), op1, op5, lE⟩
    · skip
      refine ob_i (vInt_add (by omega) (by omega)) ?_
      rw [if_pos (Decidable.not_not.mp hg14)] at eq
      exact nxt (l.length - (i + 1)) (by omega) ⟨i + 1, rfl, by omega, g3L12, (g6L12.trans (congrArg (Value.int .i64) (by first | omega | rfl | (simp; done)))), g14L12, g15L12, (congrArg (Value.int .i64) (by first | omega | rfl | (simp; done))), op1, op5, lE⟩
  · skip
    have ti := hg13
    obtain rfl : i = l.length := by omega
    exact hJ11 _ _ ⟨(g6L12.trans (congrArg (Value.int .i64) (by first | omega | rfl | (simp; done)))), op1, op5, lE⟩
theorem C.spec_R8Field {vy : Value} {r c : Int} {l : List Int}  {H : Hp} {K : Value → Hp → Prop} (hvy0 : Sl eU H vy l) (hb_vy : bytP l) (hl_vy : l.length ≤ 9223372036854775807) (hs : sidesF r c)
    (hk : ∀ (lf : List Int), (fieldN 1 r c lf) → ∀ u1 H', Own eI H' u1 lf → Nw H u1 → Le H H' → K (.agg #[(.int .i64 (r)), (.int .i64 (c)), u1]) H') : HT prg I.spec_R8Field [vy, (.int .i64 (r)), (.int .i64 (c)), (.int .i64 (2))].toArray H K := by
  have lE := Le.refl H
  have hvy := hvy0
  refine R.spec_R8Field ?_
  unfold F.spec_R8Field
  have qm := sidesF_mul hs
  have q1 := hs.1
  have q2 := hs.2
  refine nw_i (fun p1 H2 op1 nn3 le4 => ?_)
  have np1 : Nw H p1 := nn3.le lE
  replace hvy := hvy.le le4
  replace lE := lE.trans le4
  replace op1 : Cel H2 p1 [(.int .i64 (0)), (.int .i64 (0)), (.slice none 0 0)] := op1
  refine C.spec_l00From hvy (fun z H5 oz nn6 le7 => ?_)
  have ap1Xz : Apart p1 z := op1.apart nn6
  have nz : Nw H z := nn6.le lE
  replace op1 := op1.le le7
  replace hvy := hvy.le le7
  replace lE := lE.trans le7
  replace oz : Cel H5 z [vy, (.int .i64 (0)), (.int .u64 (0))] := oz
  refine R.spec_l04DrawStatesX ?_
  unfold F.spec_l04DrawStatesX
  refine nw_i (fun q0 H8 oq0 nn9 le10 => ?_)
  have ap1Xq0 : Apart p1 q0 := op1.apart nn9
  have azXq0 : Apart z q0 := oz.apart nn9
  have nq0 : Nw H q0 := nn9.le lE
  replace op1 := op1.le le10
  replace oz := oz.le le10
  replace hvy := hvy.le le10
  replace lE := lE.trans le10
  replace oq0 : Cel H8 q0 [(.int .i64 (0)), (.int .i64 (0)), (.slice none 0 0)] := oq0
  refine ob_i (a := (.agg #[(.int .i64 (r)), (.int .i64 (c)), (.slice none 0 0)])) (by rfl) ?_
  refine nw_i (fun q H11 oq nn12 le13 => ?_)
  have ap1Xq : Apart p1 q := op1.apart nn12
  have azXq : Apart z q := oz.apart nn12
  have aq0Xq : Apart q0 q := oq0.apart nn12
  have nq : Nw H q := nn12.le lE
  replace op1 := op1.le le13
  replace oz := oz.le le13
  replace oq0 := oq0.le le13
  replace hvy := hvy.le le13
  replace lE := lE.trans le13
  replace oq : Cel H11 q [(.int .i64 (0)), (.int .i64 (0)), (.slice none 0 0)] := oq
  refine oq.stn (ws := [(.int .i64 (r)), (.int .i64 (c)), (.slice none 0 0)]) rfl rfl (oc1 rfl (oc1 rfl (oc1 rfl oc0))) (fun H14 oq off15 => ?_)
  replace op1 := op1.off off15 ap1Xq
  replace oz := oz.off off15 azXq
  replace oq0 := oq0.off off15 aq0Xq
  replace hvy := hvy0.le (off15.le lE nq)
  replace lE := off15.le lE nq
  replace oq : Cel H14 q [(.int .i64 (r)), (.int .i64 (c)), (.slice none 0 0)] := oq
  refine jn_i (fun σ' H' => ∃ u, ∃ lu, σ' 8 = q0 ∧ σ' 9 = q ∧ Cel H' p1 [(.int .i64 (0)), (.int .i64 (0)), (.slice none 0 0)] ∧ Cel H' q0 [(.int .i64 (0)), (.int .i64 (0)), (.slice none 0 0)] ∧ Cel H' q [(.int .i64 (r)), (.int .i64 (c)), u] ∧ Own eI H' u (lu) ∧ Nw H u ∧ Apart p1 u ∧ Apart q0 u ∧ Apart q u ∧ Le H H' ∧ (lu.length : Int) = r * c ∧ (∀ x ∈ lu, 0 ≤ x ∧ x ≤ 1)) (fun σ16 H16 hP => ?_) (fun J16 hJ16 => ?_)
  · skip
    obtain ⟨u, lu, g8L16, g9L16, op1, oq0, oq, ou, nu, ap1Xu, aq0Xu, aqXu, lE, hln, hLa⟩ := hP
    have hvy := hvy0.le lE
    try simp only [g8L16, g9L16]
    refine ob_i (oq.ldn rfl) ?_
    refine oq0.stn (ws := [(.int .i64 (r)), (.int .i64 (c)), u]) rfl rfl (oc1 rfl (oc1 rfl (oc1 ou.one oc0))) (fun H17 oq0 off18 => ?_)
    replace op1 := op1.off off18 ap1Xq0
    replace oq := oq.off off18 aq0Xq.symm
    replace ou := ou.off off18 aq0Xu.symm
    replace hvy := hvy0.le (off18.le lE nq0)
    replace lE := off18.le lE nq0
    replace oq0 : Cel H17 q0 [(.int .i64 (r)), (.int .i64 (c)), u] := oq0
    refine ob_i (oq0.ldn rfl) ?_
    refine op1.stn (ws := [(.int .i64 (r)), (.int .i64 (c)), u]) rfl rfl (oc1 rfl (oc1 rfl (oc1 ou.one oc0))) (fun H19 op1 off20 => ?_)
    replace oq0 := oq0.off off20 ap1Xq0.symm
    replace oq := oq.off off20 ap1Xq.symm
    replace ou := ou.off off20 ap1Xu.symm
    replace hvy := hvy0.le (off20.le lE np1)
    replace lE := off20.le lE np1
    replace op1 : Cel H19 p1 [(.int .i64 (r)), (.int .i64 (c)), u] := op1
    refine ob_i (op1.ldn rfl) ?_
    skip
    exact hk  lu (by exact ⟨hs, hln, hLa⟩) u _ ou nu  lE
  refine ob_i (vInt_mul (by omega) (by omega)) ?_
  refine ⟨fun n' σ' H' => ∃ i : Nat, n' = (r * c).toNat - i ∧ i ≤ (r * c).toNat ∧ ∃ u, ∃ lu, ∃ ats, ∃ sd, σ' 0 = z ∧ σ' 3 = (.int .i64 (2)) ∧ σ' 8 = q0 ∧ σ' 9 = q ∧ σ' 10 = (.int .i64 (r * c - (i : Int))) ∧ Cel H' p1 [(.int .i64 (0)), (.int .i64 (0)), (.slice none 0 0)] ∧ Cel H' z [vy, (.int .i64 (ats)), (.int .u64 (sd))] ∧ Cel H' q0 [(.int .i64 (0)), (.int .i64 (0)), (.slice none 0 0)] ∧ Cel H' q [(.int .i64 (r)), (.int .i64 (c)), u] ∧ Own eI H' u (lu) ∧ Nw H u ∧ Apart p1 u ∧ Apart z u ∧ Apart q0 u ∧ Apart q u ∧ Le H H' ∧ lu.length = i ∧ (∀ x ∈ lu, 0 ≤ x ∧ x ≤ 1) ∧ 0 ≤ ats ∧ ats ≤ 2 * (i : Int),
    ⟨_, 0, rfl, by omega, _, [], 0, 0, rfl, rfl, rfl, rfl, (congrArg (Value.int .i64) (by first | omega | rfl | (simp; done))), op1, oz, oq0, oq, (Own.cast (by first | rfl | (simp; done)) (Own.nil_of none)), (fun b hb => by simp [bk] at hb), (fun b _ hb => by simp [bk] at hb), (fun b _ hb => by simp [bk] at hb), (fun b _ hb => by simp [bk] at hb), (fun b _ hb => by simp [bk] at hb), lE, rfl, (by simp), ⟨by omega, by omega⟩⟩, ?_⟩
  rintro n21 σ21 H21 ⟨i, rfl, hiN, u, lu, ats, sd, g0L21, g3L21, g8L21, g9L21, g10L21, op1, oz, oq0, oq, ou, nu, ap1Xu, azXu, aq0Xu, aqXu, lE, hln, hLa, hat⟩
  have hvy := hvy0.le lE
  try simp only [g0L21, g3L21, g8L21, g9L21, g10L21]
  refine ob_i (vInt_gtr _ _ _) ?_
  refine cnd_d (fun hg22 => ?_) (fun hg22 => ?_)
  · skip
    have ti := hg22
    refine ⟨?_, ?_⟩
    · skip
      refine ob_i (oq.fa 2) ?_
      refine ob_i (oq.ld 2 rfl) ?_
      refine C.pspec_l00Src_pick hvy0 hb_vy hl_vy lE nz oz (by omega) (by omega) (fun x23 at24 sd25 H26 xp28 xq29 ap30 aq31 oz off27 => ?_)
      replace xq29 := xq29 (by omega)
      replace op1 := op1.off off27 ap1Xz
      replace oq0 := oq0.off off27 azXq0.symm
      replace oq := oq.off off27 azXq.symm
      replace ou := ou.off off27 azXu.symm
      replace hvy := hvy0.le (off27.le lE nz)
      replace lE := off27.le lE nz
      replace oz : Cel H26 z [vy, (.int .i64 (at24)), (.int .u64 (sd25))] := oz
      refine bS_i (enc := eI) (l := [x23]) (by omega) rfl (by kernel_rfl) (fun u32 H33 ou32 nn34 le36 => ?_)
      have ap1Xu32 : Apart p1 u32 := op1.apart nn34
      have azXu32 : Apart z u32 := oz.apart nn34
      have aq0Xu32 : Apart q0 u32 := oq0.apart nn34
      have aqXu32 : Apart q u32 := oq.apart nn34
      have auXu32 : Apart u u32 := ou.apart nn34
      have nu32 : Nw H u32 := nn34.le lE
      replace op1 := op1.le le36
      replace oz := oz.le le36
      replace oq0 := oq0.le le36
      replace oq := oq.le le36
      replace ou := ou.le le36
      replace hvy := hvy.le le36
      replace lE := lE.trans le36
      refine apd_any ou ou32.sl (fun _ => rfl) (by omega) (by first | omega | (simp only [List.length_cons, List.length_nil, List.length_append, List.length_replicate, List.length_map, List.length_range]; omega)) (fun u40 H37 ou40 off38 hb39 => ?_)
      have ap1Xu40 : Apart p1 u40 := Apart.ap2 op1.known ap1Xu hb39
      have azXu40 : Apart z u40 := Apart.ap2 oz.known azXu hb39
      have aq0Xu40 : Apart q0 u40 := Apart.ap2 oq0.known aq0Xu hb39
      have aqXu40 : Apart q u40 := Apart.ap2 oq.known aqXu hb39
      have au32Xu40 : Apart u32 u40 := Apart.ap2 ou32.known auXu32.symm hb39
      have nu40 : Nw H u40 := Nw.ap2 nu lE hb39
      replace op1 := op1.off off38 ap1Xu
      replace oz := oz.off off38 azXu
      replace oq0 := oq0.off off38 aq0Xu
      replace oq := oq.off off38 aqXu
      replace ou32 := ou32.off off38 auXu32.symm
      replace hvy := hvy0.le (off38.le lE nu)
      replace lE := off38.le lE nu
      refine ob_i (oq.fa 2) ?_
      refine oq.st (by simp) ou40.one ou40.cells (fun H41 oq off42 => ?_)
      replace op1 := op1.off off42 ap1Xq
      replace oz := oz.off off42 azXq
      replace oq0 := oq0.off off42 aq0Xq
      replace ou32 := ou32.off off42 aqXu32.symm
      replace ou40 := ou40.off off42 aqXu40.symm
      replace hvy := hvy0.le (off42.le lE nq)
      replace lE := off42.le lE nq
      replace oq : Cel H41 q [(.int .i64 (r)), (.int .i64 (c)), u40] := oq
      refine ob_i (vInt_sub (by omega) (by omega)) ?_
      exact nxt ((r * c).toNat - (i + 1)) (by omega) ⟨i + 1, rfl, by omega, u40, (lu ++ ([x23])), (at24), (sd25), g0L21, g3L21, g8L21, g9L21, (congrArg (Value.int .i64) (by first | omega | rfl | (simp; done))), op1, oz, oq0, oq, ou40, nu40, ap1Xu40, azXu40, aq0Xu40, aqXu40, lE, (by rw [List.length_append, hln]; rfl), (all_snoc hLa (by omega)), ⟨by omega, by omega⟩⟩
    · skip
      refine ob_i (oq.fa 2) ?_
      refine C.pspec_l00Src_pick hvy0 hb_vy hl_vy lE nz oz (by omega) (by omega) (fun x43 at44 sd45 H46 xp48 xq49 ap50 aq51 oz off47 => ?_)
      replace xq49 := xq49 (by omega)
      replace op1 := op1.off off47 ap1Xz
      replace oq0 := oq0.off off47 azXq0.symm
      replace oq := oq.off off47 azXq.symm
      replace ou := ou.off off47 azXu.symm
      replace hvy := hvy0.le (off47.le lE nz)
      replace lE := off47.le lE nz
      replace oz : Cel H46 z [vy, (.int .i64 (at44)), (.int .u64 (sd45))] := oz
      refine ob_i (oq.ld 2 rfl) ?_
      refine bS_i (enc := eI) (l := [x43]) (by omega) rfl (by kernel_rfl) (fun u52 H53 ou52 nn54 le56 => ?_)
      have ap1Xu52 : Apart p1 u52 := op1.apart nn54
      have azXu52 : Apart z u52 := oz.apart nn54
      have aq0Xu52 : Apart q0 u52 := oq0.apart nn54
      have aqXu52 : Apart q u52 := oq.apart nn54
      have auXu52 : Apart u u52 := ou.apart nn54
      have nu52 : Nw H u52 := nn54.le lE
      replace op1 := op1.le le56
      replace oz := oz.le le56
      replace oq0 := oq0.le le56
      replace oq := oq.le le56
      replace ou := ou.le le56
      replace hvy := hvy.le le56
      replace lE := lE.trans le56
      refine apd_any ou ou52.sl (fun _ => rfl) (by omega) (by first | omega | (simp only [List.length_cons, List.length_nil, List.length_append, List.length_replicate, List.length_map, List.length_range]; omega)) (fun u60 H57 ou60 off58 hb59 => ?_)
      have ap1Xu60 : Apart p1 u60 := Apart.ap2 op1.known ap1Xu hb59
      have azXu60 : Apart z u60 := Apart.ap2 oz.known azXu hb59
      have aq0Xu60 : Apart q0 u60 := Apart.ap2 oq0.known aq0Xu hb59
      have aqXu60 : Apart q u60 := Apart.ap2 oq.known aqXu hb59
      have au52Xu60 : Apart u52 u60 := Apart.ap2 ou52.known auXu52.symm hb59
      have nu60 : Nw H u60 := Nw.ap2 nu lE hb59
      replace op1 := op1.off off58 ap1Xu
      replace oz := oz.off off58 azXu
      replace oq0 := oq0.off off58 aq0Xu
      replace oq := oq.off off58 aqXu
      replace ou52 := ou52.off off58 auXu52.symm
      replace hvy := hvy0.le (off58.le lE nu)
      replace lE := off58.le lE nu
      refine ob_i (oq.fa 2) ?_
      refine oq.st (by simp) ou60.one ou60.cells (fun H61 oq off62 => ?_)
      replace op1 := op1.off off62 ap1Xq
      replace oz := oz.off off62 azXq
      replace oq0 := oq0.off off62 aq0Xq
      replace ou52 := ou52.off off62 aqXu52.symm
      replace ou60 := ou60.off off62 aqXu60.symm
      replace hvy := hvy0.le (off62.le lE nq)
      replace lE := off62.le lE nq
      replace oq : Cel H61 q [(.int .i64 (r)), (.int .i64 (c)), u60] := oq
      refine ob_i (vInt_sub (by omega) (by omega)) ?_
      exact nxt ((r * c).toNat - (i + 1)) (by omega) ⟨i + 1, rfl, by omega, u60, (lu ++ ([x43])), (at44), (sd45), g0L21, g3L21, g8L21, g9L21, (congrArg (Value.int .i64) (by first | omega | rfl | (simp; done))), op1, oz, oq0, oq, ou60, nu60, ap1Xu60, azXu60, aq0Xu60, aqXu60, lE, (by rw [List.length_append, hln]; rfl), (all_snoc hLa (by omega)), ⟨by omega, by omega⟩⟩
  · skip
    have ti := hg22
    exact hJ16 _ _ ⟨u, _, g8L21, g9L21, op1, oq0, oq, ou, nu, ap1Xu, aq0Xu, aqXu, lE, (by omega), hLa⟩
theorem C.laws_r8Long {vy vm : Value} {l : List Int} {m : List Int}  {H : Hp} {K : Value → Hp → Prop} (hvy0 : Sl eU H vy l) (hvm0 : Sl eU H vm m)
    (hk : ∀ H', Le H H' → K (.bool (decide (48 < l.length ∨ 48 < m.length))) H') : HT prg I.laws_r8Long [vy, vm].toArray H K := by
  have lE := Le.refl H
  have hvy := hvy0
  have hvm := hvm0
  refine R.laws_r8Long ?_
  unfold F.laws_r8Long
  refine ob_i (hvy.len) ?_
  refine ob_i (vInt_gtr _ _ _) ?_
  by_cases hc1 : 48 < (((l).length : Int))
  · skip
    refine gop_e (decide_eq_true hc1) ?_
    refine gop_st ?_
    refine gop_e (decide_eq_true hc1) ?_
    refine gop_st ?_
    refine gop_e (decide_eq_true hc1) ?_
    refine gop_st ?_
    refine ob_i (vPick_et (decide_eq_true hc1) _ _) ?_
    skip
    exact keq (K := K) (by rw [decide_eq_true (show (48 < l.length ∨ 48 < m.length) from by omega)]) (hk   _    lE)
  · skip
    refine gop_e (decide_eq_false hc1) ?_
    refine gop_rf ?_
    refine gop_e (decide_eq_false hc1) ?_
    refine gop_rf ?_
    refine ob_i (hvm.len) ?_
    refine gop_e (decide_eq_false hc1) ?_
    refine gop_rf ?_
    refine ob_i (vInt_gtr _ _ _) ?_
    refine ob_i (vPick_ef (decide_eq_false hc1) _ _) ?_
    skip
    exact keq (K := K) (by rw [show decide (48 < (((m).length : Int))) = decide (48 < l.length ∨ 48 < m.length) from decide_eq_decide.mpr (by omega)]) (hk   _    lE)
set_option maxHeartbeats 4000000 in
theorem C.laws_FnSpins {vy vm : Value} {l : List Int} {mm : List Int}  {H : Hp} {K : Value → Hp → Prop} (hvy0 : Sl eU H vy l) (hvm0 : Sl eU H vm mm) (hb_vy : bytP l) (hl_vy : l.length ≤ 9223372036854775807) (hb_vm : bytP mm) (hl_vm : mm.length ≤ 9223372036854775807)
    (hk : ∀ H', Le H H' → K (.bool true) H') : HT prg I.laws_FnSpins [vy, vm].toArray H K := by
  have lE := Le.refl H
  have hvy := hvy0
  have hvm := hvm0
  refine R.laws_FnSpins ?_
  unfold F.laws_FnSpins
  refine C.laws_r8Long hvy hvm (fun   H1    le2 => ?_)
  replace hvy := hvy.le le2
  replace hvm := hvm.le le2
  replace lE := lE.trans le2
  refine cnd_d (fun hg3 => ?_) (fun hg3 => ?_)
  · skip
    skip
    exact hk   _    lE
  · skip
    refine C.laws_r8At (k := 40) (n := 4) hvm hb_vm hl_vm (by omega) (fun x4 xp5 xq6 => ?_)
    replace xq6 := xq6 (by omega)
    refine ob_i (vInt_add (by omega) (by omega)) ?_
    obtain ⟨n, hn⟩ : ∃ x : Int, x = 2 + x4 := ⟨_, rfl⟩
    rw [← hn]
    refine C.laws_r8At (k := 41) (n := 4) hvm hb_vm hl_vm (by omega) (fun x7 xp8 xq9 => ?_)
    replace xq9 := xq9 (by omega)
    refine ob_i (vInt_add (by omega) (by omega)) ?_
    obtain ⟨cn, hcn⟩ : ∃ x : Int, x = 2 + x7 := ⟨_, rfl⟩
    rw [← hcn]
    have hs : sidesF n cn := ⟨⟨by omega, by omega⟩, by omega, by omega⟩
    have qm := sidesF_mul hs
    have q3 : (-2) * n * cn = (-2) * (n * cn) := Int.mul_assoc _ _ _
    refine C.spec_R8Field hvy (by first | omega | assumption) (by first | omega | assumption) (by exact hs) (fun  lf hlf u12 H10 ou12 nn13  le11 => ?_)
    have nu12 : Nw H u12 := nn13.le lE
    replace hvy := hvy.le le11
    replace hvm := hvm.le le11
    replace lE := lE.trans le11
    have hlf1 := fieldN_len hlf
    have hl := hlf.2.1
    have hop := opp_field hlf
    have hze : fieldN 1 n cn (mkL cn zerG (n.toNat * cn.toNat)) := zer_field hs
    have en1 := opp_en hlf
    have en2 := calm_en hze zer_all
    have en3 := en_bnd hlf
    have hcf := swS_field (hot := false) hlf lf.length (by omega)
    have hhf := swS_field (hot := true) hlf lf.length (by omega)
    have en4 := cold_le hlf (by omega) (by omega) lf.length (by omega)
    have hap := hot_apart hlf
    have hc1 := fieldN_len hcf
    have hh1 := fieldN_len hhf
    have hc2 := hcf.2.1
    have hh2 := hhf.2.1
    have hap2 : apN (swS true n cn lf lf.length) lf (swS true n cn lf lf.length).length = n * cn := by rw [show (swS true n cn lf lf.length).length = lf.length by omega]; exact hap
    refine nw_i (fun pf H14 opf nn15 le16 => ?_)
    have au12Xpf : Apart u12 pf := ou12.apart nn15
    have npf : Nw H pf := nn15.le lE
    replace ou12 := ou12.le le16
    replace hvy := hvy.le le16
    replace hvm := hvm.le le16
    replace lE := lE.trans le16
    replace opf : Cel H14 pf [(.int .i64 (0)), (.int .i64 (0)), (.slice none 0 0)] := opf
    refine opf.stn (ws := [(.int .i64 (n)), (.int .i64 (cn)), u12]) rfl rfl (oc1 rfl (oc1 rfl (oc1 ou12.one oc0))) (fun H17 opf off18 => ?_)
    replace ou12 := ou12.off off18 au12Xpf
    replace hvy := hvy0.le (off18.le lE npf)
    replace hvm := hvm0.le (off18.le lE npf)
    replace lE := off18.le lE npf
    replace opf : Cel H17 pf [(.int .i64 (n)), (.int .i64 (cn)), u12] := opf
    refine ob_i (a := (.agg #[(.int .i64 (n)), (.int .i64 (cn)), (.slice none 0 0)])) (by rfl) ?_
    refine nw_i (fun po H19 opo nn20 le21 => ?_)
    have au12Xpo : Apart u12 po := ou12.apart nn20
    have apfXpo : Apart pf po := opf.apart nn20
    have npo : Nw H po := nn20.le lE
    replace ou12 := ou12.le le21
    replace opf := opf.le le21
    replace hvy := hvy.le le21
    replace hvm := hvm.le le21
    replace lE := lE.trans le21
    replace opo : Cel H19 po [(.int .i64 (0)), (.int .i64 (0)), (.slice none 0 0)] := opo
    refine opo.stn (ws := [(.int .i64 (n)), (.int .i64 (cn)), (.slice none 0 0)]) rfl rfl (oc1 rfl (oc1 rfl (oc1 rfl oc0))) (fun H22 opo off23 => ?_)
    replace ou12 := ou12.off off23 au12Xpo
    replace opf := opf.off off23 apfXpo
    replace hvy := hvy0.le (off23.le lE npo)
    replace hvm := hvm0.le (off23.le lE npo)
    replace lE := off23.le lE npo
    replace opo : Cel H22 po [(.int .i64 (n)), (.int .i64 (cn)), (.slice none 0 0)] := opo
    refine jn_i (fun σ' H' => ∃ u, σ' 1 = vm ∧ σ' 5 = (.int .i64 (n)) ∧ σ' 6 = (.int .i64 (cn)) ∧ σ' 7 = pf ∧ σ' 8 = po ∧ Own eI H' u12 (lf) ∧ Cel H' pf [(.int .i64 (n)), (.int .i64 (cn)), u12] ∧ Cel H' po [(.int .i64 (n)), (.int .i64 (cn)), u] ∧ Own eI H' u (oppL lf) ∧ Nw H u ∧ Apart u12 u ∧ Apart pf u ∧ Apart po u ∧ Le H H') (fun σ24 H24 hP => ?_) (fun J24 hJ24 => ?_)
    · skip
      obtain ⟨u, g1L24, g5L24, g6L24, g7L24, g8L24, ou12, opf, opo, ou, nu, au12Xu, apfXu, apoXu, lE⟩ := hP
      have hvy := hvy0.le lE
      have hvm := hvm0.le lE
      try simp only [g1L24, g5L24, g6L24, g7L24, g8L24]
      refine C.impl_NewField (by exact hs) (fun  u27 H25 ou27 nn28  le26 => ?_)
      have au12Xu27 : Apart u12 u27 := ou12.apart nn28
      have apfXu27 : Apart pf u27 := opf.apart nn28
      have apoXu27 : Apart po u27 := opo.apart nn28
      have auXu27 : Apart u u27 := ou.apart nn28
      have nu27 : Nw H u27 := nn28.le lE
      replace ou12 := ou12.le le26
      replace opf := opf.le le26
      replace opo := opo.le le26
      replace ou := ou.le le26
      replace hvy := hvy.le le26
      replace hvm := hvm.le le26
      replace lE := lE.trans le26
      refine ob_i (vExt_20 _ _) ?_
      refine ob_i (vExt_21 _ _) ?_
      refine nw_i (fun pz H29 opz nn30 le31 => ?_)
      have au12Xpz : Apart u12 pz := ou12.apart nn30
      have apfXpz : Apart pf pz := opf.apart nn30
      have apoXpz : Apart po pz := opo.apart nn30
      have auXpz : Apart u pz := ou.apart nn30
      have au27Xpz : Apart u27 pz := ou27.apart nn30
      have npz : Nw H pz := nn30.le lE
      replace ou12 := ou12.le le31
      replace opf := opf.le le31
      replace opo := opo.le le31
      replace ou := ou.le le31
      replace ou27 := ou27.le le31
      replace hvy := hvy.le le31
      replace hvm := hvm.le le31
      replace lE := lE.trans le31
      replace opz : Cel H29 pz [(.int .i64 (0)), (.int .i64 (0)), (.slice none 0 0)] := opz
      refine opz.stn (ws := [(.int .i64 (n)), (.int .i64 (cn)), u27]) rfl rfl (oc1 rfl (oc1 rfl (oc1 ou27.one oc0))) (fun H32 opz off33 => ?_)
      replace ou12 := ou12.off off33 au12Xpz
      replace opf := opf.off off33 apfXpz
      replace opo := opo.off off33 apoXpz
      replace ou := ou.off off33 auXpz
      replace ou27 := ou27.off off33 au27Xpz
      replace hvy := hvy0.le (off33.le lE npz)
      replace hvm := hvm0.le (off33.le lE npz)
      replace lE := off33.le lE npz
      replace opz : Cel H32 pz [(.int .i64 (n)), (.int .i64 (cn)), u27] := opz
      refine ob_i (opf.ldn rfl) ?_
      refine C.en_ok ou12.sl (by first | exact hlf | exact hop | exact hze | exact hcf | exact hhf) (fun   H34    le35 => ?_)
      replace ou12 := ou12.le le35
      replace opf := opf.le le35
      replace opo := opo.le le35
      replace ou := ou.le le35
      replace ou27 := ou27.le le35
      replace opz := opz.le le35
      replace hvy := hvy.le le35
      replace hvm := hvm.le le35
      replace lE := lE.trans le35
      refine ob_i (vExt_20 _ _) ?_
      refine ob_i (vExt_21 _ _) ?_
      refine ob_i (opo.ldn rfl) ?_
      refine C.en_ok ou.sl (by first | exact hlf | exact hop | exact hze | exact hcf | exact hhf) (fun   H36    le37 => ?_)
      replace ou12 := ou12.le le37
      replace opf := opf.le le37
      replace opo := opo.le le37
      replace ou := ou.le le37
      replace ou27 := ou27.le le37
      replace opz := opz.le le37
      replace hvy := hvy.le le37
      replace hvm := hvm.le le37
      replace lE := lE.trans le37
      refine ob_i (vExt_20 _ _) ?_
      refine ob_i (vExt_21 _ _) ?_
      refine ob_i (opz.ldn rfl) ?_
      refine C.en_ok ou27.sl (by first | exact hlf | exact hop | exact hze | exact hcf | exact hhf) (fun   H38    le39 => ?_)
      replace ou12 := ou12.le le39
      replace opf := opf.le le39
      replace opo := opo.le le39
      replace ou := ou.le le39
      replace ou27 := ou27.le le39
      replace opz := opz.le le39
      replace hvy := hvy.le le39
      replace hvm := hvm.le le39
      replace lE := lE.trans le39
      refine ob_i (vExt_20 _ _) ?_
      refine ob_i (vExt_21 _ _) ?_
      refine C.laws_r8At (k := 42) (n := 256) hvm hb_vm hl_vm (by omega) (fun x40 xp41 xq42 => ?_)
      replace xq42 := xq42 (by omega)
      refine ob_i (vInt_mul (by omega) (by omega)) ?_
      obtain ⟨sd, hsd⟩ : ∃ x : Int, x = x40 * 65537 := ⟨_, rfl⟩
      rw [← hsd]
      refine ob_i (opf.ldn rfl) ?_
      have sd0 := sdS_bnd (x := sd) (by omega) (by omega)
      refine C.sweep_cold ou12.sl (by first | omega | assumption) (by first | exact hlf | exact hop | exact hze | exact hcf | exact hhf) (by first | omega | assumption) (by first | omega | assumption) (fun  u45 H43 ou45 nn46  le44 => ?_)
      have au12Xu45 : Apart u12 u45 := ou12.apart nn46
      have apfXu45 : Apart pf u45 := opf.apart nn46
      have apoXu45 : Apart po u45 := opo.apart nn46
      have auXu45 : Apart u u45 := ou.apart nn46
      have au27Xu45 : Apart u27 u45 := ou27.apart nn46
      have apzXu45 : Apart pz u45 := opz.apart nn46
      have nu45 : Nw H u45 := nn46.le lE
      replace ou12 := ou12.le le44
      replace opf := opf.le le44
      replace opo := opo.le le44
      replace ou := ou.le le44
      replace ou27 := ou27.le le44
      replace opz := opz.le le44
      replace hvy := hvy.le le44
      replace hvm := hvm.le le44
      replace lE := lE.trans le44
      refine ob_i (vExt_30 _ _ _) ?_
      refine ob_i (vExt_31 _ _ _) ?_
      refine ob_i (vExt_32 _ _ _) ?_
      refine nw_i (fun pc H47 opc nn48 le49 => ?_)
      have au12Xpc : Apart u12 pc := ou12.apart nn48
      have apfXpc : Apart pf pc := opf.apart nn48
      have apoXpc : Apart po pc := opo.apart nn48
      have auXpc : Apart u pc := ou.apart nn48
      have au27Xpc : Apart u27 pc := ou27.apart nn48
      have apzXpc : Apart pz pc := opz.apart nn48
      have au45Xpc : Apart u45 pc := ou45.apart nn48
      have npc : Nw H pc := nn48.le lE
      replace ou12 := ou12.le le49
      replace opf := opf.le le49
      replace opo := opo.le le49
      replace ou := ou.le le49
      replace ou27 := ou27.le le49
      replace opz := opz.le le49
      replace ou45 := ou45.le le49
      replace hvy := hvy.le le49
      replace hvm := hvm.le le49
      replace lE := lE.trans le49
      replace opc : Cel H47 pc [(.int .i64 (0)), (.int .i64 (0)), (.slice none 0 0)] := opc
      refine opc.stn (ws := [(.int .i64 (n)), (.int .i64 (cn)), u45]) rfl rfl (oc1 rfl (oc1 rfl (oc1 ou45.one oc0))) (fun H50 opc off51 => ?_)
      replace ou12 := ou12.off off51 au12Xpc
      replace opf := opf.off off51 apfXpc
      replace opo := opo.off off51 apoXpc
      replace ou := ou.off off51 auXpc
      replace ou27 := ou27.off off51 au27Xpc
      replace opz := opz.off off51 apzXpc
      replace ou45 := ou45.off off51 au45Xpc
      replace hvy := hvy0.le (off51.le lE npc)
      replace hvm := hvm0.le (off51.le lE npc)
      replace lE := off51.le lE npc
      replace opc : Cel H50 pc [(.int .i64 (n)), (.int .i64 (cn)), u45] := opc
      refine ob_i (opc.ldn rfl) ?_
      refine C.en_ok ou45.sl (by first | exact hlf | exact hop | exact hze | exact hcf | exact hhf) (fun   H52    le53 => ?_)
      replace ou12 := ou12.le le53
      replace opf := opf.le le53
      replace opo := opo.le le53
      replace ou := ou.le le53
      replace ou27 := ou27.le le53
      replace opz := opz.le le53
      replace ou45 := ou45.le le53
      replace opc := opc.le le53
      replace hvy := hvy.le le53
      replace hvm := hvm.le le53
      replace lE := lE.trans le53
      refine ob_i (vExt_20 _ _) ?_
      refine ob_i (vExt_21 _ _) ?_
      refine ob_i (opf.ldn rfl) ?_
      have sd0 := sdS_bnd (x := sd) (by omega) (by omega)
      refine C.sweep_hot ou12.sl (by first | omega | assumption) (by first | exact hlf | exact hop | exact hze | exact hcf | exact hhf) (by first | omega | assumption) (by first | omega | assumption) (fun  u56 H54 ou56 nn57  le55 => ?_)
      have au12Xu56 : Apart u12 u56 := ou12.apart nn57
      have apfXu56 : Apart pf u56 := opf.apart nn57
      have apoXu56 : Apart po u56 := opo.apart nn57
      have auXu56 : Apart u u56 := ou.apart nn57
      have au27Xu56 : Apart u27 u56 := ou27.apart nn57
      have apzXu56 : Apart pz u56 := opz.apart nn57
      have au45Xu56 : Apart u45 u56 := ou45.apart nn57
      have apcXu56 : Apart pc u56 := opc.apart nn57
      have nu56 : Nw H u56 := nn57.le lE
      replace ou12 := ou12.le le55
      replace opf := opf.le le55
      replace opo := opo.le le55
      replace ou := ou.le le55
      replace ou27 := ou27.le le55
      replace opz := opz.le le55
      replace ou45 := ou45.le le55
      replace opc := opc.le le55
      replace hvy := hvy.le le55
      replace hvm := hvm.le le55
      replace lE := lE.trans le55
      refine ob_i (vExt_30 _ _ _) ?_
      refine ob_i (vExt_31 _ _ _) ?_
      refine ob_i (vExt_32 _ _ _) ?_
      refine nw_i (fun ph H58 oph nn59 le60 => ?_)
      have au12Xph : Apart u12 ph := ou12.apart nn59
      have apfXph : Apart pf ph := opf.apart nn59
      have apoXph : Apart po ph := opo.apart nn59
      have auXph : Apart u ph := ou.apart nn59
      have au27Xph : Apart u27 ph := ou27.apart nn59
      have apzXph : Apart pz ph := opz.apart nn59
      have au45Xph : Apart u45 ph := ou45.apart nn59
      have apcXph : Apart pc ph := opc.apart nn59
      have au56Xph : Apart u56 ph := ou56.apart nn59
      have nph : Nw H ph := nn59.le lE
      replace ou12 := ou12.le le60
      replace opf := opf.le le60
      replace opo := opo.le le60
      replace ou := ou.le le60
      replace ou27 := ou27.le le60
      replace opz := opz.le le60
      replace ou45 := ou45.le le60
      replace opc := opc.le le60
      replace ou56 := ou56.le le60
      replace hvy := hvy.le le60
      replace hvm := hvm.le le60
      replace lE := lE.trans le60
      replace oph : Cel H58 ph [(.int .i64 (0)), (.int .i64 (0)), (.slice none 0 0)] := oph
      refine oph.stn (ws := [(.int .i64 (n)), (.int .i64 (cn)), u56]) rfl rfl (oc1 rfl (oc1 rfl (oc1 ou56.one oc0))) (fun H61 oph off62 => ?_)
      replace ou12 := ou12.off off62 au12Xph
      replace opf := opf.off off62 apfXph
      replace opo := opo.off off62 apoXph
      replace ou := ou.off off62 auXph
      replace ou27 := ou27.off off62 au27Xph
      replace opz := opz.off off62 apzXph
      replace ou45 := ou45.off off62 au45Xph
      replace opc := opc.off off62 apcXph
      replace ou56 := ou56.off off62 au56Xph
      replace hvy := hvy0.le (off62.le lE nph)
      replace hvm := hvm0.le (off62.le lE nph)
      replace lE := off62.le lE nph
      replace oph : Cel H61 ph [(.int .i64 (n)), (.int .i64 (cn)), u56] := oph
      refine ob_i (a := .bool false) rfl ?_
      refine gop_rf ?_
      refine gop_rf ?_
      refine ob_i (a := .bool false) rfl ?_
      refine ob_i (vPick_f _ _) ?_
      refine gop_rf ?_
      refine gop_rf ?_
      refine ob_i (a := .bool false) rfl ?_
      refine ob_i (vPick_f _ _) ?_
      refine gop_rf ?_
      refine gop_rf ?_
      refine ob_i (a := .bool false) rfl ?_
      refine ob_i (vPick_f _ _) ?_
      refine gop_rf ?_
      refine gop_rf ?_
      refine ob_i (a := .bool false) rfl ?_
      refine ob_i (vPick_f _ _) ?_
      refine gop_rf ?_
      refine gop_rf ?_
      refine ob_i (a := .bool false) rfl ?_
      refine ob_i (vPick_f _ _) ?_
      refine gop_rf ?_
      refine gop_rf ?_
      refine ob_i (a := .bool false) rfl ?_
      refine ob_i (vPick_f _ _) ?_
      refine gop_rf ?_
      refine gop_rf ?_
      refine gop_rf ?_
      refine ob_i (vInt_neq _ _ _) ?_
      refine ob_i (vPick_f _ _) ?_
      by_cases hc63 : (energy n cn lf) ≠ (energy n cn (oppL lf))
      · skip
        refine gop_e (decide_eq_true hc63) ?_
        refine gop_st ?_
        refine gop_e (decide_eq_true hc63) ?_
        refine gop_st ?_
        refine gop_e (decide_eq_true hc63) ?_
        refine gop_st ?_
        refine gop_e (decide_eq_true hc63) ?_
        refine gop_st ?_
        refine gop_e (decide_eq_true hc63) ?_
        refine gop_st ?_
        refine gop_e (decide_eq_true hc63) ?_
        refine gop_st ?_
        refine ob_i (vPick_et (decide_eq_true hc63) _ _) ?_
        refine gop_st ?_
        refine gop_st ?_
        refine gop_st ?_
        refine ob_i (vPick_t _ _) ?_
        refine gop_st ?_
        refine gop_st ?_
        refine gop_st ?_
        refine gop_st ?_
        refine ob_i (vPick_t _ _) ?_
        refine gop_st ?_
        refine gop_st ?_
        refine gop_st ?_
        refine ob_i (vPick_t _ _) ?_
        refine gop_st ?_
        refine gop_st ?_
        refine gop_st ?_
        refine ob_i (vPick_t _ _) ?_
        refine gop_st ?_
        refine gop_st ?_
        refine gop_st ?_
        refine ob_i (vPick_t _ _) ?_
        refine cnd_t1 ?_
        exfalso
        first | omega | exact absurd rfl hc63 | exact hc63 rfl
      · skip
        refine gop_e (decide_eq_false hc63) ?_
        refine gop_rf ?_
        refine gop_e (decide_eq_false hc63) ?_
        refine gop_rf ?_
        refine gop_e (decide_eq_false hc63) ?_
        refine gop_rf ?_
        refine ob_i (vInt_mul (by omega) (by omega)) ?_
        refine gop_e (decide_eq_false hc63) ?_
        refine gop_rf ?_
        refine gop_e (decide_eq_false hc63) ?_
        refine gop_rf ?_
        refine ob_i (vInt_mul (by omega) (by omega)) ?_
        refine gop_e (decide_eq_false hc63) ?_
        refine gop_rf ?_
        refine ob_i (vInt_neq _ _ _) ?_
        refine ob_i (vPick_ef (decide_eq_false hc63) _ _) ?_
        by_cases hc64 : (energy n cn (mkL cn zerG (n.toNat * cn.toNat))) ≠ (((-2) * n) * cn)
        · skip
          refine gop_e (decide_eq_true hc64) ?_
          refine gop_st ?_
          refine gop_e (decide_eq_true hc64) ?_
          refine gop_st ?_
          refine gop_e (decide_eq_true hc64) ?_
          refine gop_st ?_
          refine ob_i (vPick_et (decide_eq_true hc64) _ _) ?_
          refine gop_st ?_
          refine gop_st ?_
          refine gop_st ?_
          refine gop_st ?_
          refine ob_i (vPick_t _ _) ?_
          refine gop_st ?_
          refine gop_st ?_
          refine gop_st ?_
          refine ob_i (vPick_t _ _) ?_
          refine gop_st ?_
          refine gop_st ?_
          refine gop_st ?_
          refine ob_i (vPick_t _ _) ?_
          refine gop_st ?_
          refine gop_st ?_
          refine gop_st ?_
          refine ob_i (vPick_t _ _) ?_
          refine cnd_t1 ?_
          exfalso
          first | omega | exact absurd rfl hc64 | exact hc64 rfl
        · skip
          refine gop_e (decide_eq_false hc64) ?_
          refine gop_rf ?_
          refine gop_e (decide_eq_false hc64) ?_
          refine gop_rf ?_
          refine gop_e (decide_eq_false hc64) ?_
          refine gop_rf ?_
          refine ob_i (vInt_lss _ _ _) ?_
          refine ob_i (vPick_ef (decide_eq_false hc64) _ _) ?_
          by_cases hc65 : (energy n cn lf) < (energy n cn (mkL cn zerG (n.toNat * cn.toNat)))
          · skip
            refine gop_e (decide_eq_true hc65) ?_
            refine gop_st ?_
            refine gop_e (decide_eq_true hc65) ?_
            refine gop_st ?_
            refine gop_e (decide_eq_true hc65) ?_
            refine gop_st ?_
            refine gop_e (decide_eq_true hc65) ?_
            refine gop_st ?_
            refine ob_i (vPick_et (decide_eq_true hc65) _ _) ?_
            refine gop_st ?_
            refine gop_st ?_
            refine gop_st ?_
            refine ob_i (vPick_t _ _) ?_
            refine gop_st ?_
            refine gop_st ?_
            refine gop_st ?_
            refine ob_i (vPick_t _ _) ?_
            refine gop_st ?_
            refine gop_st ?_
            refine gop_st ?_
            refine ob_i (vPick_t _ _) ?_
            refine cnd_t1 ?_
            exfalso
            first | omega | exact absurd rfl hc65 | exact hc65 rfl
          · skip
            refine gop_e (decide_eq_false hc65) ?_
            refine gop_rf ?_
            refine gop_e (decide_eq_false hc65) ?_
            refine gop_rf ?_
            refine gop_e (decide_eq_false hc65) ?_
            refine gop_rf ?_
            refine ob_i (vUn_ngK (by omega) (by omega)) ?_
            refine gop_e (decide_eq_false hc65) ?_
            refine gop_rf ?_
            refine ob_i (vInt_gtr _ _ _) ?_
            refine ob_i (vPick_ef (decide_eq_false hc65) _ _) ?_
            by_cases hc66 : (-(energy n cn (mkL cn zerG (n.toNat * cn.toNat)))) < (energy n cn lf)
            · skip
              refine gop_e (decide_eq_true hc66) ?_
              refine gop_st ?_
              refine gop_e (decide_eq_true hc66) ?_
              refine gop_st ?_
              refine gop_e (decide_eq_true hc66) ?_
              refine gop_st ?_
              refine ob_i (vPick_et (decide_eq_true hc66) _ _) ?_
              refine gop_st ?_
              refine gop_st ?_
              refine gop_st ?_
              refine ob_i (vPick_t _ _) ?_
              refine gop_st ?_
              refine gop_st ?_
              refine gop_st ?_
              refine ob_i (vPick_t _ _) ?_
              refine cnd_t1 ?_
              exfalso
              first | omega | exact absurd rfl hc66 | exact hc66 rfl
            · skip
              refine gop_e (decide_eq_false hc66) ?_
              refine gop_rf ?_
              refine gop_e (decide_eq_false hc66) ?_
              refine gop_rf ?_
              refine gop_e (decide_eq_false hc66) ?_
              refine gop_rf ?_
              refine ob_i (vInt_gtr _ _ _) ?_
              refine ob_i (vPick_ef (decide_eq_false hc66) _ _) ?_
              by_cases hc67 : (energy n cn lf) < (energy n cn (swS false n cn lf lf.length))
              · skip
                refine gop_e (decide_eq_true hc67) ?_
                refine gop_st ?_
                refine gop_e (decide_eq_true hc67) ?_
                refine gop_st ?_
                refine gop_e (decide_eq_true hc67) ?_
                refine gop_st ?_
                refine ob_i (vPick_et (decide_eq_true hc67) _ _) ?_
                refine gop_st ?_
                refine gop_st ?_
                refine gop_st ?_
                refine ob_i (vPick_t _ _) ?_
                refine cnd_t1 ?_
                exfalso
                first | omega | exact absurd rfl hc67 | exact hc67 rfl
              · skip
                refine gop_e (decide_eq_false hc67) ?_
                refine gop_rf ?_
                refine gop_e (decide_eq_false hc67) ?_
                refine gop_rf ?_
                refine gop_e (decide_eq_false hc67) ?_
                refine gop_rf ?_
                refine ob_i (vInt_neq _ _ _) ?_
                refine ob_i (vPick_ef (decide_eq_false hc67) _ _) ?_
                by_cases hc68 : (sdS sd lf.length) ≠ (sdS sd lf.length)
                · skip
                  refine gop_e (decide_eq_true hc68) ?_
                  refine gop_st ?_
                  refine gop_e (decide_eq_true hc68) ?_
                  refine gop_st ?_
                  refine gop_e (decide_eq_true hc68) ?_
                  refine gop_st ?_
                  refine ob_i (vPick_et (decide_eq_true hc68) _ _) ?_
                  refine cnd_t1 ?_
                  exfalso
                  first | omega | exact absurd rfl hc68 | exact hc68 rfl
                · skip
                  refine gop_e (decide_eq_false hc68) ?_
                  refine gop_rf ?_
                  refine ob_i (opc.ldn rfl) ?_
                  refine gop_e (decide_eq_false hc68) ?_
                  refine gop_rf ?_
                  refine C.impl_ValidField ou45.sl (by first | omega | assumption) (fun   H69    le70 => ?_)
                  replace ou12 := ou12.le le70
                  replace opf := opf.le le70
                  replace opo := opo.le le70
                  replace ou := ou.le le70
                  replace ou27 := ou27.le le70
                  replace opz := opz.le le70
                  replace ou45 := ou45.le le70
                  replace opc := opc.le le70
                  replace ou56 := ou56.le le70
                  replace oph := oph.le le70
                  replace hvy := hvy.le le70
                  replace hvm := hvm.le le70
                  replace lE := lE.trans le70
                  refine gop_e (decide_eq_false hc68) ?_
                  refine gop_rf ?_
                  refine ob_nd (fun hc71 => ?_) (fun hc71 => ?_)
                  · skip
                    refine ob_i (vPick_ef (decide_eq_false hc68) _ _) ?_
                    refine cnd_f1 ?_
                    refine jn_i (fun σ' H' => σ' 5 = (.int .i64 (n)) ∧ σ' 6 = (.int .i64 (cn)) ∧ σ' 7 = pf ∧ σ' 20 = (.int .i64 (sdS sd lf.length)) ∧ σ' 24 = ph ∧ σ' 27 = (.int .i64 (sdS sd lf.length)) ∧ Own eI H' u12 (lf) ∧ Cel H' pf [(.int .i64 (n)), (.int .i64 (cn)), u12] ∧ Cel H' po [(.int .i64 (n)), (.int .i64 (cn)), u] ∧ Own eI H' u (oppL lf) ∧ Own eI H' u27 (mkL cn zerG (n.toNat * cn.toNat)) ∧ Cel H' pz [(.int .i64 (n)), (.int .i64 (cn)), u27] ∧ Own eI H' u45 (swS false n cn lf lf.length) ∧ Cel H' pc [(.int .i64 (n)), (.int .i64 (cn)), u45] ∧ Own eI H' u56 (swS true n cn lf lf.length) ∧ Cel H' ph [(.int .i64 (n)), (.int .i64 (cn)), u56] ∧ Le H H') (fun σ72 H72 hP => ?_) (fun J72 hJ72 => ?_)
                    · skip
                      obtain ⟨g5L72, g6L72, g7L72, g20L72, g24L72, g27L72, ou12, opf, opo, ou, ou27, opz, ou45, opc, ou56, oph, lE⟩ := hP
                      have hvy := hvy0.le lE
                      have hvm := hvm0.le lE
                      try simp only [g5L72, g6L72, g7L72, g20L72, g24L72, g27L72]
                      refine ob_i (oph.ldn rfl) ?_
                      refine ob_i (opf.ldn rfl) ?_
                      refine C.impl_CellsApart ou56.sl ou12.sl (by exact hhf) (by exact hlf) (fun   H73    le74 => ?_)
                      replace ou12 := ou12.le le74
                      replace opf := opf.le le74
                      replace opo := opo.le le74
                      replace ou := ou.le le74
                      replace ou27 := ou27.le le74
                      replace opz := opz.le le74
                      replace ou45 := ou45.le le74
                      replace opc := opc.le le74
                      replace ou56 := ou56.le le74
                      replace oph := oph.le le74
                      replace hvy := hvy.le le74
                      replace hvm := hvm.le le74
                      replace lE := lE.trans le74
                      refine ob_i (vExt_20 _ _) ?_
                      refine ob_i (vExt_21 _ _) ?_
                      refine gop_rt ?_
                      refine gop_rt ?_
                      refine gop_rt ?_
                      refine ob_i (vInt_eql _ _ _) ?_
                      refine ob_i (vPick_t _ _) ?_
                      by_cases hc75 : (sdS sd lf.length) = (sdS sd lf.length)
                      · skip
                        refine gop_e (decide_eq_true hc75) ?_
                        refine gop_rt ?_
                        refine gop_e (decide_eq_true hc75) ?_
                        refine gop_rt ?_
                        refine gop_e (decide_eq_true hc75) ?_
                        refine gop_rt ?_
                        refine gop_e (decide_eq_true hc75) ?_
                        refine gop_rt ?_
                        refine ob_i (vInt_mul (by omega) (by omega)) ?_
                        refine gop_e (decide_eq_true hc75) ?_
                        refine gop_rt ?_
                        refine ob_i (vInt_eql _ _ _) ?_
                        refine ob_i (vPick_et (decide_eq_true hc75) _ _) ?_
                        rw [decide_eq_true (show (apN (swS true n cn lf lf.length) lf (swS true n cn lf lf.length).length) = (n * cn) from by omega)]
                        exact hk _ lE
                      · skip
                        refine gop_e (decide_eq_false hc75) ?_
                        refine gop_sf ?_
                        refine gop_e (decide_eq_false hc75) ?_
                        refine gop_sf ?_
                        refine gop_e (decide_eq_false hc75) ?_
                        refine gop_sf ?_
                        refine gop_e (decide_eq_false hc75) ?_
                        refine gop_sf ?_
                        refine gop_e (decide_eq_false hc75) ?_
                        refine gop_sf ?_
                        refine ob_i (vPick_ef (decide_eq_false hc75) _ _) ?_
                        exfalso
                        first | omega | exact absurd rfl hc75 | exact hc75 rfl
                    refine ⟨fun n' σ' H' => ∃ i : Nat, n' = lf.length - i ∧ i ≤ lf.length ∧ σ' 5 = (.int .i64 (n)) ∧ σ' 6 = (.int .i64 (cn)) ∧ σ' 7 = pf ∧ σ' 20 = (.int .i64 (sdS sd lf.length)) ∧ σ' 24 = ph ∧ σ' 27 = (.int .i64 (sdS sd i)) ∧ σ' 28 = (.int .i64 ((i : Int))) ∧ Own eI H' u12 (lf) ∧ Cel H' pf [(.int .i64 (n)), (.int .i64 (cn)), u12] ∧ Cel H' po [(.int .i64 (n)), (.int .i64 (cn)), u] ∧ Own eI H' u (oppL lf) ∧ Own eI H' u27 (mkL cn zerG (n.toNat * cn.toNat)) ∧ Cel H' pz [(.int .i64 (n)), (.int .i64 (cn)), u27] ∧ Own eI H' u45 (swS false n cn lf lf.length) ∧ Cel H' pc [(.int .i64 (n)), (.int .i64 (cn)), u45] ∧ Own eI H' u56 (swS true n cn lf lf.length) ∧ Cel H' ph [(.int .i64 (n)), (.int .i64 (cn)), u56] ∧ Le H H',
                      ⟨_, 0, rfl, by omega, g5L24, g6L24, g7L24, rfl, rfl, (congrArg (Value.int .i64) (by first | omega | rfl | (simp; done))), (congrArg (Value.int .i64) (by first | omega | rfl | (simp; done))), ou12, opf, opo, ou, ou27, opz, ou45, opc, ou56, oph, lE⟩, ?_⟩
                    rintro n76 σ76 H76 ⟨i, rfl, hiN, g5L76, g6L76, g7L76, g20L76, g24L76, g27L76, g28L76, ou12, opf, opo, ou, ou27, opz, ou45, opc, ou56, oph, lE⟩
                    have hvy := hvy0.le lE
                    have hvm := hvm0.le lE
                    try simp only [g5L76, g6L76, g27L76, g28L76]
                    have si := sdS_bnd (x := sd) (by omega) (by omega) i
                    refine ob_i (vInt_mul (by omega) (by omega)) ?_
                    refine ob_i (vInt_lss _ _ _) ?_
                    refine cnd_d (fun hg77 => ?_) (fun hg77 => ?_)
                    · skip
                      have ti := hg77
                      refine ob_i (vInt_mul (by omega) (by omega)) ?_
                      refine ob_i (vInt_add (by omega) (by omega)) ?_
                      refine ob_i (vInt_remN (by omega) (by omega)) ?_
                      refine ob_i (vInt_add (by omega) (by omega)) ?_
                      exact nxt (lf.length - (i + 1)) (by omega) ⟨i + 1, rfl, by omega, g5L76, g6L76, g7L76, g20L76, g24L76, (congrArg (Value.int .i64) (by first | omega | rfl | (simp; done))), (congrArg (Value.int .i64) (by first | omega | rfl | (simp; done))), ou12, opf, opo, ou, ou27, opz, ou45, opc, ou56, oph, lE⟩
                    · skip
                      have ti := hg77
                      obtain rfl : i = lf.length := by omega
                      exact hJ72 _ _ ⟨g5L76, g6L76, g7L76, g20L76, g24L76, (g27L76.trans (congrArg (Value.int .i64) (by first | omega | rfl | (simp; done)))), ou12, opf, opo, ou, ou27, opz, ou45, opc, ou56, oph, lE⟩
                  · skip
                    exact absurd hc71 (fun h => h ⟨hcf.1, hcf.2.1, fun x hx => by have := hcf.2.2 x hx; omega⟩)
    refine ⟨fun n' σ' H' => ∃ i : Nat, n' = lf.length - i ∧ i ≤ lf.length ∧ ∃ u, σ' 1 = vm ∧ σ' 5 = (.int .i64 (n)) ∧ σ' 6 = (.int .i64 (cn)) ∧ σ' 7 = pf ∧ σ' 8 = po ∧ σ' 9 = (.int .i64 ((i : Int))) ∧ Own eI H' u12 (lf) ∧ Cel H' pf [(.int .i64 (n)), (.int .i64 (cn)), u12] ∧ Cel H' po [(.int .i64 (n)), (.int .i64 (cn)), u] ∧ Own eI H' u (oppL (lf.take i)) ∧ Nw H u ∧ Apart u12 u ∧ Apart pf u ∧ Apart po u ∧ Le H H',
      ⟨_, 0, rfl, by omega, _, rfl, rfl, rfl, rfl, rfl, (congrArg (Value.int .i64) (by first | omega | rfl | (simp; done))), ou12, opf, opo, (Own.cast (by first | rfl | (simp; done)) (Own.nil_of none)), (fun b hb => by simp [bk] at hb), (fun b _ hb => by simp [bk] at hb), (fun b _ hb => by simp [bk] at hb), (fun b _ hb => by simp [bk] at hb), lE⟩, ?_⟩
    rintro n78 σ78 H78 ⟨i, rfl, hiN, u, g1L78, g5L78, g6L78, g7L78, g8L78, g9L78, ou12, opf, opo, ou, nu, au12Xu, apfXu, apoXu, lE⟩
    have hvy := hvy0.le lE
    have hvm := hvm0.le lE
    try simp only [g7L78, g8L78, g9L78]
    have ol := opp_len (lf.take i)
    have tl : (lf.take i).length = i := by rw [List.length_take]; omega
    refine ob_i (opf.fa 2) ?_
    refine ob_i (opf.ld 2 rfl) ?_
    refine ob_i (ou12.len) ?_
    refine ob_i (vInt_lss _ _ _) ?_
    refine cnd_d (fun hg79 => ?_) (fun hg79 => ?_)
    · skip
      have ti := hg79
      have fb := fieldN_at hlf (i := (i : Int)) (by omega) (by omega)
      refine ob_i (opo.fa 2) ?_
      refine ob_i (opo.ld 2 rfl) ?_
      refine ob_i (opf.fa 2) ?_
      refine ob_i (opf.ld 2 rfl) ?_
      refine ob_i (ou12.sl.ix (by omega) (by omega)) ?_
      refine ob_i (ou12.sl.ld 0 (by omega) (by omega)) ?_
      refine ob_i (vInt_sub (by omega) (by omega)) ?_
      refine bS_i (enc := eI) (l := [1 - (at_ 0 (lf) ((i : Int)))]) (by omega) rfl (by kernel_rfl) (fun u80 H81 ou80 nn82 le84 => ?_)
      have au12Xu80 : Apart u12 u80 := ou12.apart nn82
      have apfXu80 : Apart pf u80 := opf.apart nn82
      have apoXu80 : Apart po u80 := opo.apart nn82
      have auXu80 : Apart u u80 := ou.apart nn82
      have nu80 : Nw H u80 := nn82.le lE
      replace ou12 := ou12.le le84
      replace opf := opf.le le84
      replace opo := opo.le le84
      replace ou := ou.le le84
      replace hvy := hvy.le le84
      replace hvm := hvm.le le84
      replace lE := lE.trans le84
      refine apd_any ou ou80.sl (fun _ => rfl) (by omega) (by first | omega | (simp only [List.length_cons, List.length_nil, List.length_append, List.length_replicate, List.length_map, List.length_range]; omega)) (fun u88 H85 ou88 off86 hb87 => ?_)
      have au12Xu88 : Apart u12 u88 := Apart.ap2 ou12.known au12Xu hb87
      have apfXu88 : Apart pf u88 := Apart.ap2 opf.known apfXu hb87
      have apoXu88 : Apart po u88 := Apart.ap2 opo.known apoXu hb87
      have au80Xu88 : Apart u80 u88 := Apart.ap2 ou80.known auXu80.symm hb87
      have nu88 : Nw H u88 := Nw.ap2 nu lE hb87
      replace ou12 := ou12.off off86 au12Xu
      replace opf := opf.off off86 apfXu
      replace opo := opo.off off86 apoXu
      replace ou80 := ou80.off off86 auXu80.symm
      replace hvy := hvy0.le (off86.le lE nu)
      replace hvm := hvm0.le (off86.le lE nu)
      replace lE := off86.le lE nu
      refine ob_i (opo.fa 2) ?_
      refine opo.st (by simp) ou88.one ou88.cells (fun H89 opo off90 => ?_)
      replace ou12 := ou12.off off90 au12Xpo
      replace opf := opf.off off90 apfXpo
      replace ou80 := ou80.off off90 apoXu80.symm
      replace ou88 := ou88.off off90 apoXu88.symm
      replace hvy := hvy0.le (off90.le lE npo)
      replace hvm := hvm0.le (off90.le lE npo)
      replace lE := off90.le lE npo
      replace opo : Cel H89 po [(.int .i64 (n)), (.int .i64 (cn)), u88] := opo
      refine ob_i (vInt_add (by omega) (by omega)) ?_
      exact nxt (lf.length - (i + 1)) (by omega) ⟨i + 1, rfl, by omega, u88, g1L78, g5L78, g6L78, g7L78, g8L78, (congrArg (Value.int .i64) (by first | omega | rfl | (simp; done))), ou12, opf, opo, (Own.cast (opp_take (by omega)) ou88), nu88, au12Xu88, apfXu88, apoXu88, lE⟩
    · skip
      have ti := hg79
      obtain rfl : i = lf.length := by omega
      rw [List.take_length] at ou
      exact hJ24 _ _ ⟨u, g1L78, g5L78, g6L78, g7L78, g8L78, ou12, opf, opo, ou, nu, au12Xu, apfXu, apoXu, lE⟩
theorem L.FnSpins {vy vm : Value} {l m : List Int} {H : Hp} {K : Value → Hp → Prop} (h0 : Sl eU H vy l) (h1 : Sl eU H vm m) (l0 : l.length ≤ 9223372036854775807) (l1 : m.length ≤ 9223372036854775807) (b0 : bytP l) (b1 : bytP m) (hk : ∀ H', Le H H' → K (.bool true) H') : HT prg I.laws_FnSpins [vy, vm].toArray H K :=
  C.laws_FnSpins h0 h1 b0 l0 b1 l1 hk
end Go.Proofs.Ytkehomlkgcfjnaa
