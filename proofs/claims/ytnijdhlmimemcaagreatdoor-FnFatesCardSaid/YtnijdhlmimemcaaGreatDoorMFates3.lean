/- Several texts in one. -/
import Derived.Test.YtnijdhlmimemcaaGreatDoorMFates2
import Derived.Test.YtnijdhlmimemcaaGreatDoorMFates0
import Derived.Laws.Strings
import Derived.Test.YtnijdhlmimemcaaGreatDoorMFates1
/- Patterns that come again elsewhere: the program's and the reference's. -/
namespace Go.Proofs.YtnijdhlmimemcaaGreatDoor
open HL
variable {vc : Value} {r c : Int} {l : List Int}
set_option maxRecDepth 100000
theorem C.c73  {H : Hp} {K : Value → Hp → Prop} (hvc0 : Sl eI H vc l) (hs : sidesF r c) (hl : (l.length : Int) = r * c)
    (hk : ∀ H', Le H H' → K (.bool (decide (brdP r c l))) H') : HT prg 57 [(.agg #[(.int .i64 (r)), (.int .i64 (c)), vc])].toArray H K := by
 have lE := Le.refl H
 refine R.q57 ?_
 unfold F.q57
 have q1 := hs.1
 have q2 := hs.2
 have qm := sidesF_mul hs
 refine nw_i (fun p1 H2 op1 nn3 le4 => ?_)
 replace op1 : Cel H2 p1 [(.int .i64 (r)), (.int .i64 (c)), vc] := op1
 refine jn_i (fun σ' H' => Cel H' p1 [(.int .i64 (r)), (.int .i64 (c)), vc] ∧ Le H H' ∧ bdU r c l l.length) (fun σ5 H5 hP => ?_) (fun J5 hJ5 => ?_)
 replace lE := lE.trans le4
 obtain ⟨op1, lE, ho0⟩ := hP
 exact keq (K := K) (by rw [decide_eq_false (show ¬ (brdP r c l) from by exact fun h => h (by rw [← hl]; exact ho0))]) (hk   _    lE)
 refine ob_i (op1.fa 2) (ob_i (op1.ld 2 rfl) ?_)
 replace lE := lE.trans le4
 refine ob_i ((hvc0.le lE).len) ?_
 refine ⟨fun n' σ' H' => ∃ i : Nat, n' = l.length - i ∧ i ≤ l.length ∧ σ' 1 = p1 ∧ σ' 8 = vc ∧ σ' 9 = (.int .i64 (((l).length : Int))) ∧ σ' 10 = (.int .i64 ((i : Int))) ∧ Cel H' p1 [(.int .i64 (r)), (.int .i64 (c)), vc] ∧ Le H H' ∧ bdU r c l i,
    ⟨_, 0, rfl, by omega, rfl, rfl, rfl, (congrArg (Value.int .i64) (by first | omega | rfl | (simp; done))), op1, lE, bdU_zero⟩, ?_⟩
 rintro n6 σ6 H6 ⟨i, rfl, hiN, g1L6, g8L6, g9L6, g10L6, op1, lE, hm0⟩
 try simp only [g1L6, g8L6, g9L6, g10L6]
 refine ob_i (vInt_lss _ _ _) (cnd_d (fun hg7 => ?_) (fun hg7 => ?_))
 have ti := hg7
 refine ob_i ((hvc0.le lE).ix (by omega) (by omega)) (ob_i ((hvc0.le lE).ld 0 (by omega) (by omega)) (ob_i (op1.fa 1) (ob_i (op1.ld 1 rfl) (ob_i (vInt_quoN (by omega) (by omega) (by omega)) (ob_i (op1.fa 1) (ob_i (op1.ld 1 rfl) (ob_i (vInt_remN (by omega) (by omega)) (ob_i (vInt_eql _ _ _) ?_))))))))
 by_cases hc8 : (at_ 0 (l) ((i : Int))) = 1
 refine gT hc8 (gT hc8 (ob_i (vInt_eql _ _ _) (gT hc8 ?_)))
 by_cases hc9 : ((i : Int) / c) = 0
 refine hT hc9 (hT hc9 (gT hc8 (ob_i (vPick_et (decide_eq_true hc9) _ _) (gT hc8 (gop_st (gop_st (gop_st (gop_st (gop_st ?_)))))))))
 refine gT hc8 (ob_i (vPick_t _ _) (gT hc8 (gop_st (gop_st (gop_st (gop_st (gop_st (gT hc8 (ob_i (vPick_t _ _) ?_)))))))))
 refine ob_i (vPick_et (decide_eq_true hc8) _ _) (cnd_t1 (retK (K := K) (v' := (.bool true)) rfl ?_))
 exact keq (K := K) (by rw [decide_eq_true (show (brdP r c l) from by exact brd_yes (n := i) ⟨by assumption, by first | exact Or.inl (by assumption) | exact Or.inr (Or.inl (by assumption)) | exact Or.inr (Or.inr (Or.inl (by assumption))) | exact Or.inr (Or.inr (Or.inr (by assumption)))⟩ (by omega))]) (hk   _    lE)
 refine gF hc9 (gF hc9 (ob_i (vInt_eql _ _ _) (gT hc8 (ob_i (vPick_ef (decide_eq_false hc9) _ _) (gT hc8 ?_)))))
 by_cases hc10 : ((i : Int) % c) = 0
 refine hT hc10 (hT hc10 (hT hc10 (hT hc10 (hT hc10 (gT hc8 (ob_i (vPick_et (decide_eq_true hc10) _ _) (gT hc8 (gop_st (gop_st ?_)))))))))
 refine gop_st (gop_st (gop_st (gT hc8 (ob_i (vPick_t _ _) (ob_i (vPick_et (decide_eq_true hc8) _ _) (cnd_t1 (retK (K := K) (v' := (.bool true)) rfl ?_)))))))
 exact keq (K := K) (by rw [decide_eq_true (show (brdP r c l) from by exact brd_yes (n := i) ⟨by assumption, by first | exact Or.inl (by assumption) | exact Or.inr (Or.inl (by assumption)) | exact Or.inr (Or.inr (Or.inl (by assumption))) | exact Or.inr (Or.inr (Or.inr (by assumption)))⟩ (by omega))]) (hk   _    lE)
 refine gF hc10 (gF hc10 (ob_i (op1.fa 0) (gF hc10 (ob_i (op1.ld 0 rfl) (gF hc10 (ob_i (vInt_sub (by omega) (by omega)) (gF hc10 (ob_i (vInt_eql _ _ _) (gT hc8 ?_)))))))))
 refine ob_i (vPick_ef (decide_eq_false hc10) _ _) (gT hc8 ?_)
 by_cases hc11 : ((i : Int) / c) = (r - 1)
 refine hT hc11 (hT hc11 (hT hc11 (hT hc11 (hT hc11 (gT hc8 (ob_i (vPick_et (decide_eq_true hc11) _ _) (ob_i (vPick_et (decide_eq_true hc8) _ _) (cnd_t1 (retK (K := K) (v' := (.bool true)) rfl ?_)))))))))
 exact keq (K := K) (by rw [decide_eq_true (show (brdP r c l) from by exact brd_yes (n := i) ⟨by assumption, by first | exact Or.inl (by assumption) | exact Or.inr (Or.inl (by assumption)) | exact Or.inr (Or.inr (Or.inl (by assumption))) | exact Or.inr (Or.inr (Or.inr (by assumption)))⟩ (by omega))]) (hk   _    lE)
 refine gF hc11 (gF hc11 (ob_i (op1.fa 1) (gF hc11 (ob_i (op1.ld 1 rfl) (gF hc11 (ob_i (vInt_sub (by omega) (by omega)) (gF hc11 (ob_i (vInt_eql _ _ _) (gT hc8 ?_)))))))))
 refine ob_i (vPick_ef (decide_eq_false hc11) _ _) (ob_i (vPick_et (decide_eq_true hc8) _ _) (cnd_d (fun hg12 => ?_) (fun hg12 => ?_)))
 refine retK (K := K) (v' := (.bool true)) rfl ?_
 exact keq (K := K) (by rw [decide_eq_true (show (brdP r c l) from by exact brd_yes (n := i) ⟨by assumption, by first | exact Or.inl (by assumption) | exact Or.inr (Or.inl (by assumption)) | exact Or.inr (Or.inr (Or.inl (by assumption))) | exact Or.inr (Or.inr (Or.inr (by assumption)))⟩ (by omega))]) (hk   _    lE)
 refine ob_i (vInt_add (by omega) (by omega)) ?_
 exact nxt (l.length - (i + 1)) (by omega) ⟨i + 1, rfl, by omega, g1L6, g8L6, g9L6, (congrArg (Value.int .i64) (by first | omega | rfl | (simp; done))), op1, lE, (bdU_succ hm0 (fun h => by first | exact absurd h.1 (by assumption) | (rcases h.2 with h3 | h3 | h3 | h3 <;> exact absurd h3 (by assumption))))⟩
 refine hF hc8 (hF hc8 (hF hc8 (gop_u (gop_u (hF hc8 (hF hc8 (gop_u (gop_u (gop_u ?_)))))))))
 refine gop_u (gop_u (hF hc8 (hF hc8 (gop_u (gop_u (gop_u (gop_u (gop_u (hF hc8 ?_)))))))))
 refine ob_i (vPick_ef (decide_eq_false hc8) _ _) (cnd_f1 (ob_i (vInt_add (by omega) (by omega)) ?_))
 exact nxt (l.length - (i + 1)) (by omega) ⟨i + 1, rfl, by omega, g1L6, g8L6, g9L6, (congrArg (Value.int .i64) (by first | omega | rfl | (simp; done))), op1, lE, (bdU_succ hm0 (fun h => by first | exact absurd h.1 (by assumption) | (rcases h.2 with h3 | h3 | h3 | h3 <;> exact absurd h3 (by assumption))))⟩
 have ti := hg7
 exact hJ5 _ _ ⟨op1, lE, (by rw [show l.length = i by omega]; exact hm0)⟩

theorem C.c74 {p g h : Value} {i k a bb : Int}  {H : Hp} {K : Value → Hp → Prop} (hp0 : Cel H p [(.int .i64 (r)), (.int .i64 (c)), vc]) (hg0 : Cel H g [(.int .i64 (a))]) (hh0 : Cel H h [(.int .i64 (bb))]) (hvc0 : Sl eI H vc l) (hf : fieldN 1 r c l) (a0 : -24 ≤ a) (a1 : a ≤ 24) (b0 : -24 ≤ bb) (b1 : bb ≤ 24) (i0 : 0 ≤ i) (i1 : i < 24) (j0 : 0 ≤ k) (j1 : k < 24)
    (hk : ∀ H', Le H H' → K (.int .i64 (flatF r c l (i - a) (k - bb))) H') : HT prg 54 [(.int .i64 (i)), (.int .i64 (k)), p, g, h].toArray H K := by
 have lE := Le.refl H
 refine R.q54 ?_
 unfold F.q54
 have hs := hf.1
 have hl := hf.2.1
 have q1 := hs.1
 have q2 := hs.2
 have qm := sidesF_mul hs
 refine ob_i ((hp0.le lE).ldn rfl) (ob_i ((hg0.le lE).ld0 rfl) (ob_i (vInt_sub (by omega) (by omega)) (ob_i ((hh0.le lE).ld0 rfl) (ob_i (vInt_sub (by omega) (by omega)) (C.c49 (hvc0.le lE) (by first | omega | assumption) (by first | omega | assumption) (by first | omega | assumption) (by first | omega | assumption) (by first | omega | assumption) (by first | omega | assumption) (fun   H1    le2 => ?_))))))
 replace lE := lE.trans le2
 exact keq (K := K) (by rw [show ((lkF false r c l (i - a) (k - bb)) : Int) = (flatF r c l (i - a) (k - bb)) from by rfl]) (hk   _    lE)

theorem C.c75 {vb vs : Value} {st : Int} {b : List Int} {s : List Int}  {H : Hp} {K : Value → Hp → Prop} (hvb0 : Sl eI H vb b) (hvs0 : Sl eI H vs s) (hvc0 : Sl eI H vc l) (kb : b.length ≤ 9223372036854775807) (ks : s.length ≤ 9223372036854775807) (k1 : l.length ≤ 9223372036854775807)
    (hk : ∀ H', Le H H' → K (.tuple #[(.int .i64 (selI (shpOk b s r c l st) (shpF b s r c l st + 1))), (.int .i64 (selI (shpOk b s r c l st) ((trm 24 24 (shpT b s r c l st)).1 - (trm 24 24 (shp0 r c l)).1))), (.int .i64 (selI (shpOk b s r c l st) ((trm 24 24 (shpT b s r c l st)).2.2.1 - (trm 24 24 (shp0 r c l)).2.2.1))), (.bool (decide (shpOk b s r c l st)))]) H') : HT prg 19 [(.agg #[vb, vs]), (.agg #[(.int .i64 (r)), (.int .i64 (c)), vc]), (.int .i64 (st))].toArray H K := by
 have lE := Le.refl H
 refine R.q19 ?_
 unfold F.q19
 refine nw_i (fun p1 H2 op1 nn3 le4 => ?_)
 replace op1 : Cel H2 p1 [vb, vs] := op1
 refine nw_i (fun p5 H6 op5 nn7 le8 => ?_)
 replace op5 : Cel H6 p5 [(.int .i64 (r)), (.int .i64 (c)), vc] := op5
 replace op1 := op1.le le8
 refine ob_i (op1.ldn rfl) (ob_i (op5.ldn rfl) (bSE_one (enc := encFv) (x := (⟨r, c, vc⟩ : Fv)) rfl rfl (by omega) (by omega) rfl (fun u9 H10 ou9 nn11 le13 => ?_) rfl))
 replace lE := ((lE.trans le4).trans le8).trans le13
 refine C.c41 (hvb0.le lE) (hvs0.le lE) (hvc0.le lE) (ou9.sl encFv_n) (by first | omega | assumption) (by first | omega | assumption) (by first | omega | assumption) (fun   H14    le15 => ?_)
 refine ob_nd (fun hc16 => ?_) (fun hc16 => ?_)
 have hf := hc16.2
 have l1 := fieldN_len hf
 have hs := hf.1
 have hl := hf.2.1
 have q1 := hs.1
 have q2 := hs.2
 have qm := sidesF_mul hs
 have hs24 := s24
 have hf0 := shp0_field hf
 have hl0 := hf0.2.1
 have tb0 := trm24 (shp0 r c l)
 have tl0 := trl24 (shp0 r c l)
 refine gop_rf (gop_rf (C.c1  ?_))
 refine gop_rf (ob_nd (fun hc17 => ?_) (fun hc17 => ?_))
 refine ob_i (vPick_f _ _) (cnd_f1 ?_)
 refine ⟨?_, ?_⟩
 replace op5 := (op5.le le13).le le15
 refine ob_i (op5.fa 0) (ob_i (op5.ld 0 rfl) (ob_i (vInt_sub (by omega) (by omega)) (ob_i (vInt_quoN (by omega) (by omega) (by omega)) (ob_i (op5.fa 1) (ob_i (op5.ld 1 rfl) (ob_i (vInt_sub (by omega) (by omega)) (ob_i (vInt_quoN (by omega) (by omega) (by omega)) (nw_i (fun p18 H19 op18 nn20 le21 => ?_)))))))))
 replace op1 := (op1.le le13).le le15
 have ap1Xp18 := op1.apart nn20
 have ap5Xp18 := op5.apart nn20
 replace ou9 := ou9.le le15
 have au9Xp18 := ou9.apart nn20
 replace lE := lE.trans le15
 have np18 := nn20.le lE
 replace op18 : Cel H19 p18 [(.int .i64 (0))] := op18
 refine nw_i (fun p22 H23 op22 nn24 le25 => ?_)
 replace op1 := op1.le le21
 have ap1Xp22 := op1.apart nn24
 replace op5 := op5.le le21
 have ap5Xp22 := op5.apart nn24
 replace ou9 := ou9.le le21
 have au9Xp22 := ou9.apart nn24
 have ap18Xp22 := op18.apart nn24
 replace lE := lE.trans le21
 have np22 := nn24.le lE
 replace op22 : Cel H23 p22 [(.int .i64 (0))] := op22
 replace op18 := op18.le le25
 refine op18.st0 (by simp) rfl rfl (fun H26 op18 off27 => ?_)
 replace op18 : Cel H26 p18 [(.int .i64 ((24 - r) / 2))] := op18
 replace op22 := op22.off off27 ap18Xp22.symm
 refine op22.st0 (by simp) rfl rfl (fun H28 op22 off29 => ?_)
 replace op22 : Cel H28 p22 [(.int .i64 ((24 - c) / 2))] := op22
 refine C.c18 (g := (fun x y => flatF r c l (x - ((24 - r) / 2)) (y - ((24 - c) / 2)))) (by omega) (by omega) (by omega) (by omega) (fun H34c i34 k34 Z leZ hi34 hk34 hZ => ?_) (fun u30 H31 ou30 nn32 le33 => ?_)
 refine ⟨by kernel_rfl, ?_⟩
 have lZ := Le.refl H34c
 replace op5 := (((op5.le le25).off off27 ap5Xp18).off off29 ap5Xp22).le leZ
 replace lE := (off29.le (off27.le (lE.trans le25) np18) np22).trans leZ
 replace op18 := (op18.off off29 ap18Xp22).le leZ
 replace op22 := op22.le leZ
 refine C.c74 op5 op18 op22 (hvc0.le lE) (by first | omega | assumption) (by first | omega | assumption) (by first | omega | assumption) (by first | omega | assumption) (by first | omega | assumption) (by first | omega | assumption) (by first | omega | assumption) (by first | omega | assumption) (by first | omega | assumption) (fun   H35    le36 => ?_)
 replace lZ := lZ.trans le36
 exact keq (K := Z) (by rw [show ((flatF r c l ((i34 : Int) - ((24 - r) / 2)) ((k34 : Int) - ((24 - c) / 2))) : Int) = ((fun x y => flatF r c l (x - ((24 - r) / 2)) (y - ((24 - c) / 2)))) (i34 : Int) (k34 : Int) from rfl]) (hZ _ lZ)
 replace op1 := ((op1.le le25).off off27 ap1Xp18).off off29 ap1Xp22
 have ap1Xu30 := op1.apart nn32
 replace op5 := ((op5.le le25).off off27 ap5Xp18).off off29 ap5Xp22
 have ap5Xu30 := op5.apart nn32
 replace ou9 := ((ou9.le le25).off off27 au9Xp18).off off29 au9Xp22
 have au9Xu30 := ou9.apart nn32
 replace op18 := op18.off off29 ap18Xp22
 have ap18Xu30 := op18.apart nn32
 have ap22Xu30 := op22.apart nn32
 replace lE := off29.le (off27.le (lE.trans le25) np18) np22
 have nu30 := nn32.le lE
 replace ou30 : Own eI H31 u30 (shp0 r c l) := ou30
 refine nw_i (fun q H37 oq nn38 le39 => ?_)
 replace op1 := op1.le le33
 have ap1Xq := op1.apart nn38
 replace op5 := op5.le le33
 have ap5Xq := op5.apart nn38
 replace ou9 := ou9.le le33
 have au9Xq := ou9.apart nn38
 replace op18 := op18.le le33
 have ap18Xq := op18.apart nn38
 replace op22 := op22.le le33
 have ap22Xq := op22.apart nn38
 have au30Xq := ou30.apart nn38
 replace lE := lE.trans le33
 have nq := nn38.le lE
 replace ou30 := ou30.le le39
 refine oq.stn (ws := [(.int .i64 (24)), (.int .i64 (24)), u30]) rfl rfl (oc1 rfl (oc1 rfl (oc1 ou30.one oc0))) (fun H40 oq off41 => ?_)
 refine ob_i (oq.ldn rfl) ?_
 replace ou30 := ou30.off off41 au30Xq
 refine C.c33 ou30.sl (by first | omega | assumption) (by first | assumption | exact hl0 | exact hln) (fun hc42  H43    le44 => ?_) (fun hc45 u48 H46 ou48 nn49  le47 => ?_)
 refine ob_i (vExt_40 _ _ _ _) (ob_i (vExt_41 _ _ _ _) (ob_i (vExt_42 _ _ _ _) (ob_i (vExt_43 _ _ _ _) (nw_i (fun p50 H51 op50 nn52 le53 => ?_)))))
 replace lE := (off41.le (lE.trans le39) nq).trans le44
 have np50 := nn52.le lE
 refine op50.stn (ws := [(.int .i64 (0)), (.int .i64 (0)), (.slice none 0 0)]) rfl rfl (oc1 rfl (oc1 rfl (oc1 rfl oc0))) (fun H54 op50 off55 => ?_)
 refine ob_i (a := .bool true) rfl ?_
 refine gop_st (gop_st (ob_i (vPick_t _ _) (cnd_t1 ?_)))
 have hok : ¬ (shpOk b s r c l st) := by intro h; have := h.2.2.1; omega
 replace lE := off55.le (lE.trans le53) np50
 exact keq (K := K) (by rw [show ((selI (shpOk b s r c l st) (shpF b s r c l st + 1)) : Int) = (0) from by first | exact selI_f hok | (rw [selI_t hok, hT.2.1]; done) | (rw [selI_t hok, hT.2.2]; rfl)]; rw [show ((selI (shpOk b s r c l st) ((trm 24 24 (shpT b s r c l st)).1 - (trm 24 24 (shp0 r c l)).1)) : Int) = (0) from by first | exact selI_f hok | (rw [selI_t hok, hT.2.1]; done) | (rw [selI_t hok, hT.2.2]; rfl)]; rw [show ((selI (shpOk b s r c l st) ((trm 24 24 (shpT b s r c l st)).2.2.1 - (trm 24 24 (shp0 r c l)).2.2.1)) : Int) = (0) from by first | exact selI_f hok | (rw [selI_t hok, hT.2.1]; done) | (rw [selI_t hok, hT.2.2]; rfl)]; rw [decide_eq_false (show ¬ (shpOk b s r c l st) from by exact hok)]) (hk   _    lE)
 have au30Xu48 := ou30.apart nn49
 have aqXu48 := oq.apart nn49
 refine ob_i (vExt_40 _ _ _ _) (ob_i (vExt_41 _ _ _ _) (ob_i (vExt_42 _ _ _ _) (ob_i (vExt_43 _ _ _ _) (nw_i (fun p56 H57 op56 nn58 le59 => ?_)))))
 replace op1 := ((op1.le le39).off off41 ap1Xq).le le47
 have ap1Xp56 := op1.apart nn58
 replace op5 := ((op5.le le39).off off41 ap5Xq).le le47
 have ap5Xp56 := op5.apart nn58
 replace ou9 := ((ou9.le le39).off off41 au9Xq).le le47
 have au9Xp56 := ou9.apart nn58
 replace op18 := ((op18.le le39).off off41 ap18Xq).le le47
 have ap18Xp56 := op18.apart nn58
 replace op22 := ((op22.le le39).off off41 ap22Xq).le le47
 have ap22Xp56 := op22.apart nn58
 replace ou30 := ou30.le le47
 have au30Xp56 := ou30.apart nn58
 replace oq := oq.le le47
 have aqXp56 := oq.apart nn58
 have au48Xp56 := ou48.apart nn58
 replace lE := (off41.le (lE.trans le39) nq).trans le47
 have np56 := nn58.le lE
 replace ou48 := ou48.le le59
 refine op56.stn (ws := [(.int .i64 (trR 24 24 (shp0 r c l))), (.int .i64 (trC 24 24 (shp0 r c l))), u48]) rfl rfl (oc1 rfl (oc1 rfl (oc1 ou48.one oc0))) (fun H60 op56 off61 => ?_)
 refine ob_i (a := .bool false) rfl ?_
 refine gop_rf ?_
 replace oq := (oq.le le59).off off61 aqXp56
 refine ob_i (oq.ldn rfl) (gop_rf ?_)
 replace ou30 := (ou30.le le59).off off61 au30Xp56
 refine C.c73 ou30.sl (by first | omega | assumption) (by first | assumption | exact hl0 | exact hln) (fun   H62    le63 => ?_)
 refine ob_i (vPick_f _ _) (cnd_d (fun hg64 => ?_) (fun hg64 => ?_))
 have hok : ¬ (shpOk b s r c l st) := by exact fun h => h.2.2.2.1 hg64
 replace lE := (off61.le (lE.trans le59) np56).trans le63
 exact keq (K := K) (by rw [show ((selI (shpOk b s r c l st) (shpF b s r c l st + 1)) : Int) = (0) from by first | exact selI_f hok | (rw [selI_t hok, hT.2.1]; done) | (rw [selI_t hok, hT.2.2]; rfl)]; rw [show ((selI (shpOk b s r c l st) ((trm 24 24 (shpT b s r c l st)).1 - (trm 24 24 (shp0 r c l)).1)) : Int) = (0) from by first | exact selI_f hok | (rw [selI_t hok, hT.2.1]; done) | (rw [selI_t hok, hT.2.2]; rfl)]; rw [show ((selI (shpOk b s r c l st) ((trm 24 24 (shpT b s r c l st)).2.2.1 - (trm 24 24 (shp0 r c l)).2.2.1)) : Int) = (0) from by first | exact selI_f hok | (rw [selI_t hok, hT.2.1]; done) | (rw [selI_t hok, hT.2.2]; rfl)]; rw [decide_eq_false (show ¬ (shpOk b s r c l st) from by exact hok)]) (hk   _    lE)
 refine jn_i (fun σ' H' => ∃ u, ∃ t', Cel H' p1 [vb, vs] ∧ Cel H' p5 [(.int .i64 (r)), (.int .i64 (c)), vc] ∧ OwnE 3 encFv H' u9 ([⟨r, c, vc⟩]) ∧ Cel H' p18 [(.int .i64 ((24 - r) / 2))] ∧ Cel H' p22 [(.int .i64 ((24 - c) / 2))] ∧ Cel H' q [(.int .i64 (24)), (.int .i64 (24)), u] ∧ Own eI H' u48 (trL 24 24 (shp0 r c l)) ∧ Cel H' p56 [(.int .i64 (trR 24 24 (shp0 r c l))), (.int .i64 (trC 24 24 (shp0 r c l))), u48] ∧ Own eI H' u (shpS b s r c l t') ∧ Nw H u ∧ Apart p1 u ∧ Apart p5 u ∧ Apart u9 u ∧ Apart p18 u ∧ Apart p22 u ∧ Apart q u ∧ Apart u48 u ∧ Apart p56 u ∧ Le H H' ∧ ∀ x, x < st.toNat → ¬ shpE b s r c l x) (fun σ65 H65 hP => ?_) (fun J65 hJ65 => ?_)
 replace op1 := ((op1.le le59).off off61 ap1Xp56).le le63
 replace op5 := ((op5.le le59).off off61 ap5Xp56).le le63
 replace ou9 := ((ou9.le le59).off off61 au9Xp56).le le63
 replace op18 := ((op18.le le59).off off61 ap18Xp56).le le63
 replace op22 := ((op22.le le59).off off61 ap22Xp56).le le63
 replace lE := (off61.le (lE.trans le59) np56).trans le63
 replace ou48 := (ou48.off off61 au48Xp56).le le63
 replace oq := oq.le le63
 replace op56 := op56.le le63
 obtain ⟨u, t', op1, op5, ou9, op18, op22, oq, ou48, op56, ou, nu, ap1Xu, ap5Xu, au9Xu, ap18Xu, ap22Xu, aqXu, au48Xu, ap56Xu, lE, ho0⟩ := hP
 have hok : ¬ (shpOk b s r c l st) := by exact shp_none ho0
 exact keq (K := K) (by rw [show ((selI (shpOk b s r c l st) (shpF b s r c l st + 1)) : Int) = (0) from by first | exact selI_f hok | (rw [selI_t hok, hT.2.1]; done) | (rw [selI_t hok, hT.2.2]; rfl)]; rw [show ((selI (shpOk b s r c l st) ((trm 24 24 (shpT b s r c l st)).1 - (trm 24 24 (shp0 r c l)).1)) : Int) = (0) from by first | exact selI_f hok | (rw [selI_t hok, hT.2.1]; done) | (rw [selI_t hok, hT.2.2]; rfl)]; rw [show ((selI (shpOk b s r c l st) ((trm 24 24 (shpT b s r c l st)).2.2.1 - (trm 24 24 (shp0 r c l)).2.2.1)) : Int) = (0) from by first | exact selI_f hok | (rw [selI_t hok, hT.2.1]; done) | (rw [selI_t hok, hT.2.2]; rfl)]; rw [decide_eq_false (show ¬ (shpOk b s r c l st) from by exact hok)]) (hk   _    lE)
 replace op1 := ((op1.le le59).off off61 ap1Xp56).le le63
 replace op5 := ((op5.le le59).off off61 ap5Xp56).le le63
 replace ou9 := ((ou9.le le59).off off61 au9Xp56).le le63
 replace op18 := ((op18.le le59).off off61 ap18Xp56).le le63
 replace op22 := ((op22.le le59).off off61 ap22Xp56).le le63
 replace lE := (off61.le (lE.trans le59) np56).trans le63
 replace ou48 := (ou48.off off61 au48Xp56).le le63
 replace ou30 := ou30.le le63
 replace oq := oq.le le63
 replace op56 := op56.le le63
 refine ⟨fun n' σ' H' => ∃ t : Nat, n' = st.toNat - t ∧ t ≤ st.toNat ∧ ∃ u, σ' 2 = (.int .i64 (st)) ∧ σ' 3 = p1 ∧ σ' 12 = q ∧ σ' 13 = p56 ∧ σ' 14 = (.int .i64 ((trm 24 24 (shp0 r c l)).1)) ∧ σ' 15 = (.int .i64 ((trm 24 24 (shp0 r c l)).2.2.1)) ∧ σ' 17 = (.int .i64 ((t : Int) + 1)) ∧ Cel H' p1 [vb, vs] ∧ Cel H' p5 [(.int .i64 (r)), (.int .i64 (c)), vc] ∧ OwnE 3 encFv H' u9 ([⟨r, c, vc⟩]) ∧ Cel H' p18 [(.int .i64 ((24 - r) / 2))] ∧ Cel H' p22 [(.int .i64 ((24 - c) / 2))] ∧ Cel H' q [(.int .i64 (24)), (.int .i64 (24)), u] ∧ Own eI H' u48 (trL 24 24 (shp0 r c l)) ∧ Cel H' p56 [(.int .i64 (trR 24 24 (shp0 r c l))), (.int .i64 (trC 24 24 (shp0 r c l))), u48] ∧ Own eI H' u (shpS b s r c l t) ∧ Nw H u ∧ Apart p1 u ∧ Apart p5 u ∧ Apart u9 u ∧ Apart p18 u ∧ Apart p22 u ∧ Apart q u ∧ Apart u48 u ∧ Apart p56 u ∧ Le H H' ∧ ∀ x, x < t → ¬ shpE b s r c l x,
    ⟨_, 0, rfl, by omega, u30, rfl, rfl, rfl, rfl, rfl, rfl, (congrArg (Value.int .i64) (by first | omega | rfl | (simp; done))), op1, op5, ou9, op18, op22, oq, ou48, op56, (Own.cast (by first | rfl | (simp; done)) ou30), nu30, ap1Xu30, ap5Xu30, au9Xu30, ap18Xu30, ap22Xu30, au30Xq.symm, au30Xu48.symm, au30Xp56.symm, lE, (fun x hx => by omega)⟩, ?_⟩
 rintro n66 σ66 H66 ⟨t, rfl, htN, u, g2L66, g3L66, g12L66, g13L66, g14L66, g15L66, g17L66, op1, op5, ou9, op18, op22, oq, ou48, op56, ou, nu, ap1Xu, ap5Xu, au9Xu, ap18Xu, ap22Xu, aqXu, au48Xu, ap56Xu, lE, hm0⟩
 try simp only [g2L66, g3L66, g12L66, g13L66, g14L66, g15L66, g17L66]
 have hfi : fieldN 1 24 24 (shpS b s r c l t) := rnL_field hf0 t
 have hfn : fieldN 1 24 24 (nxL false b s 24 24 (shpS b s r c l t)) := nxL_field hs24
 have hln := hfn.2.1
 have tbn := trm24 (nxL false b s 24 24 (shpS b s r c l t))
 have tln := trl24 (nxL false b s 24 24 (shpS b s r c l t))
 refine ob_i (vInt_leq _ _ _) (cnd_d (fun hg67 => ?_) (fun hg67 => ?_))
 have tt := hg67
 refine ob_i (op1.ldn rfl) (ob_i (oq.ldn rfl) (C.c53 (hvb0.le lE) (hvs0.le lE) ou.sl (by first | omega | assumption) (by first | omega | assumption) (by first | omega | assumption) (fun  u70 H68 ou70 nn71  le69 => ?_)))
 have ap1Xu70 := op1.apart nn71
 have ap5Xu70 := op5.apart nn71
 have au9Xu70 := ou9.apart nn71
 have ap18Xu70 := op18.apart nn71
 have ap22Xu70 := op22.apart nn71
 have aqXu70 := oq.apart nn71
 have au48Xu70 := ou48.apart nn71
 have ap56Xu70 := op56.apart nn71
 have nu70 := nn71.le lE
 replace oq := oq.le le69
 refine oq.stn (ws := [(.int .i64 (24)), (.int .i64 (24)), u70]) rfl rfl (oc1 rfl (oc1 rfl (oc1 ou70.one oc0))) (fun H72 oq off73 => ?_)
 refine ob_i (oq.ldn rfl) ?_
 replace ou70 := ou70.off off73 aqXu70.symm
 refine C.c73 ou70.sl (by first | omega | assumption) (by first | assumption | exact hl0 | exact hln) (fun   H74    le75 => ?_)
 refine cnd_d (fun hg76 => ?_) (fun hg76 => ?_)
 refine retK (K := K) (v' := (.tuple #[(.int .i64 (0)), (.int .i64 (0)), (.int .i64 (0)), (.bool false)])) rfl ?_
 have hok : ¬ (shpOk b s r c l st) := by exact shp_fail hg76 hm0 (by omega)
 replace lE := (off73.le (lE.trans le69) nq).trans le75
 exact keq (K := K) (by rw [show ((selI (shpOk b s r c l st) (shpF b s r c l st + 1)) : Int) = (0) from by first | exact selI_f hok | (rw [selI_t hok, hT.2.1]; done) | (rw [selI_t hok, hT.2.2]; rfl)]; rw [show ((selI (shpOk b s r c l st) ((trm 24 24 (shpT b s r c l st)).1 - (trm 24 24 (shp0 r c l)).1)) : Int) = (0) from by first | exact selI_f hok | (rw [selI_t hok, hT.2.1]; done) | (rw [selI_t hok, hT.2.2]; rfl)]; rw [show ((selI (shpOk b s r c l st) ((trm 24 24 (shpT b s r c l st)).2.2.1 - (trm 24 24 (shp0 r c l)).2.2.1)) : Int) = (0) from by first | exact selI_f hok | (rw [selI_t hok, hT.2.1]; done) | (rw [selI_t hok, hT.2.2]; rfl)]; rw [decide_eq_false (show ¬ (shpOk b s r c l st) from by exact hok)]) (hk   _    lE)
 replace oq := oq.le le75
 refine ob_i (oq.ldn rfl) ?_
 replace ou70 := ou70.le le75
 refine C.c33 ou70.sl (by first | omega | assumption) (by first | assumption | exact hl0 | exact hln) (fun hc77  H78    le79 => ?_) (fun hc80 u83 H81 ou83 nn84  le82 => ?_)
 refine ob_i (vExt_40 _ _ _ _) (ob_i (vExt_41 _ _ _ _) (ob_i (vExt_42 _ _ _ _) (ob_i (vExt_43 _ _ _ _) (nw_i (fun p85 H86 op85 nn87 le88 => ?_)))))
 replace op1 := (((op1.le le69).off off73 ap1Xq).le le75).le le79
 have ap1Xp85 := op1.apart nn87
 replace op5 := (((op5.le le69).off off73 ap5Xq).le le75).le le79
 have ap5Xp85 := op5.apart nn87
 replace ou9 := (((ou9.le le69).off off73 au9Xq).le le75).le le79
 have au9Xp85 := ou9.apart nn87
 replace op18 := (((op18.le le69).off off73 ap18Xq).le le75).le le79
 have ap18Xp85 := op18.apart nn87
 replace op22 := (((op22.le le69).off off73 ap22Xq).le le75).le le79
 have ap22Xp85 := op22.apart nn87
 replace oq := oq.le le79
 have aqXp85 := oq.apart nn87
 replace ou48 := (((ou48.le le69).off off73 aqXu48.symm).le le75).le le79
 have au48Xp85 := ou48.apart nn87
 replace op56 := (((op56.le le69).off off73 aqXp56.symm).le le75).le le79
 have ap56Xp85 := op56.apart nn87
 replace ou70 := ou70.le le79
 have au70Xp85 := ou70.apart nn87
 replace lE := ((off73.le (lE.trans le69) nq).trans le75).trans le79
 have np85 := nn87.le lE
 refine op85.stn (ws := [(.int .i64 (0)), (.int .i64 (0)), (.slice none 0 0)]) rfl rfl (oc1 rfl (oc1 rfl (oc1 rfl oc0))) (fun H89 op85 off90 => ?_)
 refine gop_sf (gop_sf (gop_sf (ob_i (vPick_f _ _) (cnd_f1 (ob_i (vInt_add (by omega) (by omega)) ?_)))))
 replace op1 := (op1.le le88).off off90 ap1Xp85
 replace op5 := (op5.le le88).off off90 ap5Xp85
 replace ou9 := (ou9.le le88).off off90 au9Xp85
 replace op18 := (op18.le le88).off off90 ap18Xp85
 replace op22 := (op22.le le88).off off90 ap22Xp85
 replace oq := (oq.le le88).off off90 aqXp85
 replace ou48 := (ou48.le le88).off off90 au48Xp85
 replace op56 := (op56.le le88).off off90 ap56Xp85
 replace ou70 := (ou70.le le88).off off90 au70Xp85
 replace lE := off90.le (lE.trans le88) np85
 exact nxt (st.toNat - (t + 1)) (by omega) ⟨t + 1, rfl, by omega, u70, g2L66, g3L66, g12L66, g13L66, g14L66, g15L66, (congrArg (Value.int .i64) (by first | omega | rfl | (simp; done))), op1, op5, ou9, op18, op22, oq, ou48, op56, ou70, nu70, ap1Xu70, ap5Xu70, au9Xu70, ap18Xu70, ap22Xu70, aqXu70, au48Xu70, ap56Xu70, lE, (shp_next hg76 (fun h => by have h1 := h.1; have h2 := hc77; change (trm 24 24 (nxL false b s 24 24 (shpS b s r c l t))).2.1 < 0 at h2; change 0 ≤ (trm 24 24 (nxL false b s 24 24 (shpS b s r c l t))).2.1 at h1; omega) hm0)⟩
 refine ob_i (vExt_40 _ _ _ _) (ob_i (vExt_41 _ _ _ _) (ob_i (vExt_42 _ _ _ _) (ob_i (vExt_43 _ _ _ _) (nw_i (fun p91 H92 op91 nn93 le94 => ?_)))))
 replace op1 := (((op1.le le69).off off73 ap1Xq).le le75).le le82
 have ap1Xp91 := op1.apart nn93
 replace op5 := (((op5.le le69).off off73 ap5Xq).le le75).le le82
 have ap5Xp91 := op5.apart nn93
 replace ou9 := (((ou9.le le69).off off73 au9Xq).le le75).le le82
 have au9Xp91 := ou9.apart nn93
 replace op18 := (((op18.le le69).off off73 ap18Xq).le le75).le le82
 have ap18Xp91 := op18.apart nn93
 replace op22 := (((op22.le le69).off off73 ap22Xq).le le75).le le82
 have ap22Xp91 := op22.apart nn93
 replace oq := oq.le le82
 have aqXp91 := oq.apart nn93
 replace ou48 := (((ou48.le le69).off off73 aqXu48.symm).le le75).le le82
 have au48Xp91 := ou48.apart nn93
 replace op56 := (((op56.le le69).off off73 aqXp56.symm).le le75).le le82
 have ap56Xp91 := op56.apart nn93
 replace ou70 := ou70.le le82
 have au70Xp91 := ou70.apart nn93
 have au83Xp91 := ou83.apart nn93
 replace lE := ((off73.le (lE.trans le69) nq).trans le75).trans le82
 have np91 := nn93.le lE
 replace ou83 := ou83.le le94
 refine op91.stn (ws := [(.int .i64 (trR 24 24 (nxL false b s 24 24 (shpS b s r c l t)))), (.int .i64 (trC 24 24 (nxL false b s 24 24 (shpS b s r c l t)))), u83]) rfl rfl (oc1 rfl (oc1 rfl (oc1 ou83.one oc0))) (fun H95 op91 off96 => ?_)
 refine gop_rt (ob_i (op91.ldn rfl) (gop_rt ?_))
 replace op56 := (op56.le le94).off off96 ap56Xp91
 refine ob_i (op56.ldn rfl) (gop_rt ?_)
 replace ou48 := (ou48.le le94).off off96 au48Xp91
 replace ou83 := ou83.off off96 au83Xp91
 refine C.c60 ou83.sl ou48.sl (by first | omega | assumption) (fun   H97    le98 => ?_)
 refine ob_i (vPick_t _ _) (cnd_d (fun hg99 => ?_) (fun hg99 => ?_))
 refine ob_i (vInt_sub (by omega) (by omega)) (ob_i (vInt_sub (by omega) (by omega)) (retK (K := K) (v' := (.tuple #[(.int .i64 ((t : Int) + 1)), (.int .i64 (((trm 24 24 (nxL false b s 24 24 (shpS b s r c l t))).1) - ((trm 24 24 (shp0 r c l)).1))), (.int .i64 (((trm 24 24 (nxL false b s 24 24 (shpS b s r c l t))).2.2.1) - ((trm 24 24 (shp0 r c l)).2.2.1))), (.bool true)])) rfl ?_))
 have hT := shp_hit (b := b) (s := s) (r := r) (c := c) (l := l) (t := t) hc16 hc17 hc45 hg64 hg76 ⟨hc80, hg99.1, hg99.2.1, hg99.2.2⟩ hm0 (by omega)
 have hok : shpOk b s r c l st := by exact hT.1
 replace lE := (off96.le (lE.trans le94) np91).trans le98
 exact keq (K := K) (by rw [show ((selI (shpOk b s r c l st) (shpF b s r c l st + 1)) : Int) = ((t : Int) + 1) from by first | exact selI_f hok | (rw [selI_t hok, hT.2.1]; done) | (rw [selI_t hok, hT.2.2]; rfl)]; rw [show ((selI (shpOk b s r c l st) ((trm 24 24 (shpT b s r c l st)).1 - (trm 24 24 (shp0 r c l)).1)) : Int) = (((trm 24 24 (nxL false b s 24 24 (shpS b s r c l t))).1) - ((trm 24 24 (shp0 r c l)).1)) from by first | exact selI_f hok | (rw [selI_t hok, hT.2.1]; done) | (rw [selI_t hok, hT.2.2]; rfl)]; rw [show ((selI (shpOk b s r c l st) ((trm 24 24 (shpT b s r c l st)).2.2.1 - (trm 24 24 (shp0 r c l)).2.2.1)) : Int) = (((trm 24 24 (nxL false b s 24 24 (shpS b s r c l t))).2.2.1) - ((trm 24 24 (shp0 r c l)).2.2.1)) from by first | exact selI_f hok | (rw [selI_t hok, hT.2.1]; done) | (rw [selI_t hok, hT.2.2]; rfl)]; rw [decide_eq_true (show (shpOk b s r c l st) from by exact hok)]) (hk   _    lE)
 refine ob_i (vInt_add (by omega) (by omega)) ?_
 replace op1 := ((op1.le le94).off off96 ap1Xp91).le le98
 replace op5 := ((op5.le le94).off off96 ap5Xp91).le le98
 replace ou9 := ((ou9.le le94).off off96 au9Xp91).le le98
 replace op18 := ((op18.le le94).off off96 ap18Xp91).le le98
 replace op22 := ((op22.le le94).off off96 ap22Xp91).le le98
 replace oq := ((oq.le le94).off off96 aqXp91).le le98
 replace ou70 := ((ou70.le le94).off off96 au70Xp91).le le98
 replace lE := (off96.le (lE.trans le94) np91).trans le98
 replace ou48 := ou48.le le98
 replace op56 := op56.le le98
 exact nxt (st.toNat - (t + 1)) (by omega) ⟨t + 1, rfl, by omega, u70, g2L66, g3L66, g12L66, g13L66, g14L66, g15L66, (congrArg (Value.int .i64) (by first | omega | rfl | (simp; done))), op1, op5, ou9, op18, op22, oq, ou48, op56, ou70, nu70, ap1Xu70, ap5Xu70, au9Xu70, ap18Xu70, ap22Xu70, aqXu70, au48Xu70, ap56Xu70, lE, (shp_next hg76 (fun h => hg99 ⟨h.2.1, h.2.2.1, h.2.2.2⟩) hm0)⟩
 have tt := hg67
 exact hJ65 _ _ ⟨u, t, op1, op5, ou9, op18, op22, oq, ou48, op56, ou, nu, ap1Xu, ap5Xu, au9Xu, ap18Xu, ap22Xu, aqXu, au48Xu, ap56Xu, lE, (fun x hx => hm0 x (by omega))⟩
 replace op5 := (op5.le le13).le le15
 refine ob_i (op5.fa 0) (ob_i (op5.ld 0 rfl) (ob_i (vInt_sub (by omega) (by omega)) (ob_i (vInt_quoN (by omega) (by omega) (by omega)) (ob_i (op5.fa 1) (nw_i (fun p100 H101 op100 nn102 le103 => ?_))))))
 replace op1 := (op1.le le13).le le15
 have ap1Xp100 := op1.apart nn102
 have ap5Xp100 := op5.apart nn102
 replace ou9 := ou9.le le15
 have au9Xp100 := ou9.apart nn102
 replace lE := lE.trans le15
 have np100 := nn102.le lE
 replace op100 : Cel H101 p100 [(.int .i64 (0))] := op100
 refine nw_i (fun p104 H105 op104 nn106 le107 => ?_)
 replace op1 := op1.le le103
 have ap1Xp104 := op1.apart nn106
 replace op5 := op5.le le103
 have ap5Xp104 := op5.apart nn106
 replace ou9 := ou9.le le103
 have au9Xp104 := ou9.apart nn106
 have ap100Xp104 := op100.apart nn106
 replace lE := lE.trans le103
 have np104 := nn106.le lE
 replace op104 : Cel H105 p104 [(.int .i64 (0))] := op104
 replace op100 := op100.le le107
 refine op100.st0 (by simp) rfl rfl (fun H108 op100 off109 => ?_)
 replace op100 : Cel H108 p100 [(.int .i64 ((24 - r) / 2))] := op100
 replace op5 := (op5.le le107).off off109 ap5Xp100
 refine ob_i (op5.ld 1 rfl) (ob_i (vInt_sub (by omega) (by omega)) (ob_i (vInt_quoN (by omega) (by omega) (by omega)) ?_))
 replace op104 := op104.off off109 ap100Xp104.symm
 refine op104.st0 (by simp) rfl rfl (fun H110 op104 off111 => ?_)
 replace op104 : Cel H110 p104 [(.int .i64 ((24 - c) / 2))] := op104
 refine C.c18 (g := (fun x y => flatF r c l (x - ((24 - r) / 2)) (y - ((24 - c) / 2)))) (by omega) (by omega) (by omega) (by omega) (fun H116c i116 k116 Z leZ hi116 hk116 hZ => ?_) (fun u112 H113 ou112 nn114 le115 => ?_)
 refine ⟨by kernel_rfl, ?_⟩
 have lZ := Le.refl H116c
 replace lE := (off111.le (off109.le (lE.trans le107) np100) np104).trans leZ
 replace op5 := (op5.off off111 ap5Xp104).le leZ
 replace op100 := (op100.off off111 ap100Xp104).le leZ
 replace op104 := op104.le leZ
 refine C.c74 op5 op100 op104 (hvc0.le lE) (by first | omega | assumption) (by first | omega | assumption) (by first | omega | assumption) (by first | omega | assumption) (by first | omega | assumption) (by first | omega | assumption) (by first | omega | assumption) (by first | omega | assumption) (by first | omega | assumption) (fun   H117    le118 => ?_)
 replace lZ := lZ.trans le118
 exact keq (K := Z) (by rw [show ((flatF r c l ((i116 : Int) - ((24 - r) / 2)) ((k116 : Int) - ((24 - c) / 2))) : Int) = ((fun x y => flatF r c l (x - ((24 - r) / 2)) (y - ((24 - c) / 2)))) (i116 : Int) (k116 : Int) from rfl]) (hZ _ lZ)
 replace op1 := ((op1.le le107).off off109 ap1Xp100).off off111 ap1Xp104
 have ap1Xu112 := op1.apart nn114
 replace op5 := op5.off off111 ap5Xp104
 have ap5Xu112 := op5.apart nn114
 replace ou9 := ((ou9.le le107).off off109 au9Xp100).off off111 au9Xp104
 have au9Xu112 := ou9.apart nn114
 replace op100 := op100.off off111 ap100Xp104
 have ap100Xu112 := op100.apart nn114
 have ap104Xu112 := op104.apart nn114
 replace lE := off111.le (off109.le (lE.trans le107) np100) np104
 have nu112 := nn114.le lE
 replace ou112 : Own eI H113 u112 (shp0 r c l) := ou112
 refine nw_i (fun q H119 oq nn120 le121 => ?_)
 replace op1 := op1.le le115
 have ap1Xq := op1.apart nn120
 replace op5 := op5.le le115
 have ap5Xq := op5.apart nn120
 replace ou9 := ou9.le le115
 have au9Xq := ou9.apart nn120
 replace op100 := op100.le le115
 have ap100Xq := op100.apart nn120
 replace op104 := op104.le le115
 have ap104Xq := op104.apart nn120
 have au112Xq := ou112.apart nn120
 replace lE := lE.trans le115
 have nq := nn120.le lE
 replace ou112 := ou112.le le121
 refine oq.stn (ws := [(.int .i64 (24)), (.int .i64 (24)), u112]) rfl rfl (oc1 rfl (oc1 rfl (oc1 ou112.one oc0))) (fun H122 oq off123 => ?_)
 refine ob_i (oq.ldn rfl) ?_
 replace ou112 := ou112.off off123 au112Xq
 refine C.c33 ou112.sl (by first | omega | assumption) (by first | assumption | exact hl0 | exact hln) (fun hc124  H125    le126 => ?_) (fun hc127 u130 H128 ou130 nn131  le129 => ?_)
 refine ob_i (vExt_40 _ _ _ _) (ob_i (vExt_41 _ _ _ _) (ob_i (vExt_42 _ _ _ _) (ob_i (vExt_43 _ _ _ _) (nw_i (fun p132 H133 op132 nn134 le135 => ?_)))))
 replace lE := (off123.le (lE.trans le121) nq).trans le126
 have np132 := nn134.le lE
 refine op132.stn (ws := [(.int .i64 (0)), (.int .i64 (0)), (.slice none 0 0)]) rfl rfl (oc1 rfl (oc1 rfl (oc1 rfl oc0))) (fun H136 op132 off137 => ?_)
 refine ob_i (a := .bool true) rfl ?_
 refine gop_st (gop_st (ob_i (vPick_t _ _) (cnd_t1 ?_)))
 have hok : ¬ (shpOk b s r c l st) := by intro h; have := h.2.2.1; omega
 replace lE := off137.le (lE.trans le135) np132
 exact keq (K := K) (by rw [show ((selI (shpOk b s r c l st) (shpF b s r c l st + 1)) : Int) = (0) from by first | exact selI_f hok | (rw [selI_t hok, hT.2.1]; done) | (rw [selI_t hok, hT.2.2]; rfl)]; rw [show ((selI (shpOk b s r c l st) ((trm 24 24 (shpT b s r c l st)).1 - (trm 24 24 (shp0 r c l)).1)) : Int) = (0) from by first | exact selI_f hok | (rw [selI_t hok, hT.2.1]; done) | (rw [selI_t hok, hT.2.2]; rfl)]; rw [show ((selI (shpOk b s r c l st) ((trm 24 24 (shpT b s r c l st)).2.2.1 - (trm 24 24 (shp0 r c l)).2.2.1)) : Int) = (0) from by first | exact selI_f hok | (rw [selI_t hok, hT.2.1]; done) | (rw [selI_t hok, hT.2.2]; rfl)]; rw [decide_eq_false (show ¬ (shpOk b s r c l st) from by exact hok)]) (hk   _    lE)
 have au112Xu130 := ou112.apart nn131
 have aqXu130 := oq.apart nn131
 refine ob_i (vExt_40 _ _ _ _) (ob_i (vExt_41 _ _ _ _) (ob_i (vExt_42 _ _ _ _) (ob_i (vExt_43 _ _ _ _) (nw_i (fun p138 H139 op138 nn140 le141 => ?_)))))
 replace op1 := ((op1.le le121).off off123 ap1Xq).le le129
 have ap1Xp138 := op1.apart nn140
 replace op5 := ((op5.le le121).off off123 ap5Xq).le le129
 have ap5Xp138 := op5.apart nn140
 replace ou9 := ((ou9.le le121).off off123 au9Xq).le le129
 have au9Xp138 := ou9.apart nn140
 replace op100 := ((op100.le le121).off off123 ap100Xq).le le129
 have ap100Xp138 := op100.apart nn140
 replace op104 := ((op104.le le121).off off123 ap104Xq).le le129
 have ap104Xp138 := op104.apart nn140
 replace ou112 := ou112.le le129
 have au112Xp138 := ou112.apart nn140
 replace oq := oq.le le129
 have aqXp138 := oq.apart nn140
 have au130Xp138 := ou130.apart nn140
 replace lE := (off123.le (lE.trans le121) nq).trans le129
 have np138 := nn140.le lE
 replace ou130 := ou130.le le141
 refine op138.stn (ws := [(.int .i64 (trR 24 24 (shp0 r c l))), (.int .i64 (trC 24 24 (shp0 r c l))), u130]) rfl rfl (oc1 rfl (oc1 rfl (oc1 ou130.one oc0))) (fun H142 op138 off143 => ?_)
 refine ob_i (a := .bool false) rfl ?_
 refine gop_rf ?_
 replace oq := (oq.le le141).off off143 aqXp138
 refine ob_i (oq.ldn rfl) (gop_rf ?_)
 replace ou112 := (ou112.le le141).off off143 au112Xp138
 refine C.c73 ou112.sl (by first | omega | assumption) (by first | assumption | exact hl0 | exact hln) (fun   H144    le145 => ?_)
 refine ob_i (vPick_f _ _) (cnd_d (fun hg146 => ?_) (fun hg146 => ?_))
 have hok : ¬ (shpOk b s r c l st) := by exact fun h => h.2.2.2.1 hg146
 replace lE := (off143.le (lE.trans le141) np138).trans le145
 exact keq (K := K) (by rw [show ((selI (shpOk b s r c l st) (shpF b s r c l st + 1)) : Int) = (0) from by first | exact selI_f hok | (rw [selI_t hok, hT.2.1]; done) | (rw [selI_t hok, hT.2.2]; rfl)]; rw [show ((selI (shpOk b s r c l st) ((trm 24 24 (shpT b s r c l st)).1 - (trm 24 24 (shp0 r c l)).1)) : Int) = (0) from by first | exact selI_f hok | (rw [selI_t hok, hT.2.1]; done) | (rw [selI_t hok, hT.2.2]; rfl)]; rw [show ((selI (shpOk b s r c l st) ((trm 24 24 (shpT b s r c l st)).2.2.1 - (trm 24 24 (shp0 r c l)).2.2.1)) : Int) = (0) from by first | exact selI_f hok | (rw [selI_t hok, hT.2.1]; done) | (rw [selI_t hok, hT.2.2]; rfl)]; rw [decide_eq_false (show ¬ (shpOk b s r c l st) from by exact hok)]) (hk   _    lE)
 refine jn_i (fun σ' H' => ∃ u, ∃ t', Cel H' p1 [vb, vs] ∧ Cel H' p5 [(.int .i64 (r)), (.int .i64 (c)), vc] ∧ OwnE 3 encFv H' u9 ([⟨r, c, vc⟩]) ∧ Cel H' p100 [(.int .i64 ((24 - r) / 2))] ∧ Cel H' p104 [(.int .i64 ((24 - c) / 2))] ∧ Cel H' q [(.int .i64 (24)), (.int .i64 (24)), u] ∧ Own eI H' u130 (trL 24 24 (shp0 r c l)) ∧ Cel H' p138 [(.int .i64 (trR 24 24 (shp0 r c l))), (.int .i64 (trC 24 24 (shp0 r c l))), u130] ∧ Own eI H' u (shpS b s r c l t') ∧ Nw H u ∧ Apart p1 u ∧ Apart p5 u ∧ Apart u9 u ∧ Apart p100 u ∧ Apart p104 u ∧ Apart q u ∧ Apart u130 u ∧ Apart p138 u ∧ Le H H' ∧ ∀ x, x < st.toNat → ¬ shpE b s r c l x) (fun σ147 H147 hP => ?_) (fun J147 hJ147 => ?_)
 replace op1 := ((op1.le le141).off off143 ap1Xp138).le le145
 replace op5 := ((op5.le le141).off off143 ap5Xp138).le le145
 replace ou9 := ((ou9.le le141).off off143 au9Xp138).le le145
 replace op100 := ((op100.le le141).off off143 ap100Xp138).le le145
 replace op104 := ((op104.le le141).off off143 ap104Xp138).le le145
 replace lE := (off143.le (lE.trans le141) np138).trans le145
 replace ou130 := (ou130.off off143 au130Xp138).le le145
 replace oq := oq.le le145
 replace op138 := op138.le le145
 obtain ⟨u, t', op1, op5, ou9, op100, op104, oq, ou130, op138, ou, nu, ap1Xu, ap5Xu, au9Xu, ap100Xu, ap104Xu, aqXu, au130Xu, ap138Xu, lE, ho0⟩ := hP
 have hok : ¬ (shpOk b s r c l st) := by exact shp_none ho0
 exact keq (K := K) (by rw [show ((selI (shpOk b s r c l st) (shpF b s r c l st + 1)) : Int) = (0) from by first | exact selI_f hok | (rw [selI_t hok, hT.2.1]; done) | (rw [selI_t hok, hT.2.2]; rfl)]; rw [show ((selI (shpOk b s r c l st) ((trm 24 24 (shpT b s r c l st)).1 - (trm 24 24 (shp0 r c l)).1)) : Int) = (0) from by first | exact selI_f hok | (rw [selI_t hok, hT.2.1]; done) | (rw [selI_t hok, hT.2.2]; rfl)]; rw [show ((selI (shpOk b s r c l st) ((trm 24 24 (shpT b s r c l st)).2.2.1 - (trm 24 24 (shp0 r c l)).2.2.1)) : Int) = (0) from by first | exact selI_f hok | (rw [selI_t hok, hT.2.1]; done) | (rw [selI_t hok, hT.2.2]; rfl)]; rw [decide_eq_false (show ¬ (shpOk b s r c l st) from by exact hok)]) (hk   _    lE)
 replace op1 := ((op1.le le141).off off143 ap1Xp138).le le145
 replace op5 := ((op5.le le141).off off143 ap5Xp138).le le145
 replace ou9 := ((ou9.le le141).off off143 au9Xp138).le le145
 replace op100 := ((op100.le le141).off off143 ap100Xp138).le le145
 replace op104 := ((op104.le le141).off off143 ap104Xp138).le le145
 replace lE := (off143.le (lE.trans le141) np138).trans le145
 replace ou130 := (ou130.off off143 au130Xp138).le le145
 replace ou112 := ou112.le le145
 replace oq := oq.le le145
 replace op138 := op138.le le145
 refine ⟨fun n' σ' H' => ∃ t : Nat, n' = st.toNat - t ∧ t ≤ st.toNat ∧ ∃ u, σ' 2 = (.int .i64 (st)) ∧ σ' 3 = p1 ∧ σ' 12 = q ∧ σ' 13 = p138 ∧ σ' 14 = (.int .i64 ((trm 24 24 (shp0 r c l)).1)) ∧ σ' 15 = (.int .i64 ((trm 24 24 (shp0 r c l)).2.2.1)) ∧ σ' 17 = (.int .i64 ((t : Int) + 1)) ∧ Cel H' p1 [vb, vs] ∧ Cel H' p5 [(.int .i64 (r)), (.int .i64 (c)), vc] ∧ OwnE 3 encFv H' u9 ([⟨r, c, vc⟩]) ∧ Cel H' p100 [(.int .i64 ((24 - r) / 2))] ∧ Cel H' p104 [(.int .i64 ((24 - c) / 2))] ∧ Cel H' q [(.int .i64 (24)), (.int .i64 (24)), u] ∧ Own eI H' u130 (trL 24 24 (shp0 r c l)) ∧ Cel H' p138 [(.int .i64 (trR 24 24 (shp0 r c l))), (.int .i64 (trC 24 24 (shp0 r c l))), u130] ∧ Own eI H' u (shpS b s r c l t) ∧ Nw H u ∧ Apart p1 u ∧ Apart p5 u ∧ Apart u9 u ∧ Apart p100 u ∧ Apart p104 u ∧ Apart q u ∧ Apart u130 u ∧ Apart p138 u ∧ Le H H' ∧ ∀ x, x < t → ¬ shpE b s r c l x,
    ⟨_, 0, rfl, by omega, u112, rfl, rfl, rfl, rfl, rfl, rfl, (congrArg (Value.int .i64) (by first | omega | rfl | (simp; done))), op1, op5, ou9, op100, op104, oq, ou130, op138, (Own.cast (by first | rfl | (simp; done)) ou112), nu112, ap1Xu112, ap5Xu112, au9Xu112, ap100Xu112, ap104Xu112, au112Xq.symm, au112Xu130.symm, au112Xp138.symm, lE, (fun x hx => by omega)⟩, ?_⟩
 rintro n148 σ148 H148 ⟨t, rfl, htN, u, g2L148, g3L148, g12L148, g13L148, g14L148, g15L148, g17L148, op1, op5, ou9, op100, op104, oq, ou130, op138, ou, nu, ap1Xu, ap5Xu, au9Xu, ap100Xu, ap104Xu, aqXu, au130Xu, ap138Xu, lE, hm0⟩
 try simp only [g2L148, g3L148, g12L148, g13L148, g14L148, g15L148, g17L148]
 have hfi : fieldN 1 24 24 (shpS b s r c l t) := rnL_field hf0 t
 have hfn : fieldN 1 24 24 (nxL false b s 24 24 (shpS b s r c l t)) := nxL_field hs24
 have hln := hfn.2.1
 have tbn := trm24 (nxL false b s 24 24 (shpS b s r c l t))
 have tln := trl24 (nxL false b s 24 24 (shpS b s r c l t))
 refine ob_i (vInt_leq _ _ _) (cnd_d (fun hg149 => ?_) (fun hg149 => ?_))
 have tt := hg149
 refine ob_i (op1.ldn rfl) (ob_i (oq.ldn rfl) (C.c53 (hvb0.le lE) (hvs0.le lE) ou.sl (by first | omega | assumption) (by first | omega | assumption) (by first | omega | assumption) (fun  u152 H150 ou152 nn153  le151 => ?_)))
 have ap1Xu152 := op1.apart nn153
 have ap5Xu152 := op5.apart nn153
 have au9Xu152 := ou9.apart nn153
 have ap100Xu152 := op100.apart nn153
 have ap104Xu152 := op104.apart nn153
 have aqXu152 := oq.apart nn153
 have au130Xu152 := ou130.apart nn153
 have ap138Xu152 := op138.apart nn153
 have nu152 := nn153.le lE
 replace oq := oq.le le151
 refine oq.stn (ws := [(.int .i64 (24)), (.int .i64 (24)), u152]) rfl rfl (oc1 rfl (oc1 rfl (oc1 ou152.one oc0))) (fun H154 oq off155 => ?_)
 refine ob_i (oq.ldn rfl) ?_
 replace ou152 := ou152.off off155 aqXu152.symm
 refine C.c73 ou152.sl (by first | omega | assumption) (by first | assumption | exact hl0 | exact hln) (fun   H156    le157 => ?_)
 refine cnd_d (fun hg158 => ?_) (fun hg158 => ?_)
 refine retK (K := K) (v' := (.tuple #[(.int .i64 (0)), (.int .i64 (0)), (.int .i64 (0)), (.bool false)])) rfl ?_
 have hok : ¬ (shpOk b s r c l st) := by exact shp_fail hg158 hm0 (by omega)
 replace lE := (off155.le (lE.trans le151) nq).trans le157
 exact keq (K := K) (by rw [show ((selI (shpOk b s r c l st) (shpF b s r c l st + 1)) : Int) = (0) from by first | exact selI_f hok | (rw [selI_t hok, hT.2.1]; done) | (rw [selI_t hok, hT.2.2]; rfl)]; rw [show ((selI (shpOk b s r c l st) ((trm 24 24 (shpT b s r c l st)).1 - (trm 24 24 (shp0 r c l)).1)) : Int) = (0) from by first | exact selI_f hok | (rw [selI_t hok, hT.2.1]; done) | (rw [selI_t hok, hT.2.2]; rfl)]; rw [show ((selI (shpOk b s r c l st) ((trm 24 24 (shpT b s r c l st)).2.2.1 - (trm 24 24 (shp0 r c l)).2.2.1)) : Int) = (0) from by first | exact selI_f hok | (rw [selI_t hok, hT.2.1]; done) | (rw [selI_t hok, hT.2.2]; rfl)]; rw [decide_eq_false (show ¬ (shpOk b s r c l st) from by exact hok)]) (hk   _    lE)
 replace oq := oq.le le157
 refine ob_i (oq.ldn rfl) ?_
 replace ou152 := ou152.le le157
 refine C.c33 ou152.sl (by first | omega | assumption) (by first | assumption | exact hl0 | exact hln) (fun hc159  H160    le161 => ?_) (fun hc162 u165 H163 ou165 nn166  le164 => ?_)
 refine ob_i (vExt_40 _ _ _ _) (ob_i (vExt_41 _ _ _ _) (ob_i (vExt_42 _ _ _ _) (ob_i (vExt_43 _ _ _ _) (nw_i (fun p167 H168 op167 nn169 le170 => ?_)))))
 replace op1 := (((op1.le le151).off off155 ap1Xq).le le157).le le161
 have ap1Xp167 := op1.apart nn169
 replace op5 := (((op5.le le151).off off155 ap5Xq).le le157).le le161
 have ap5Xp167 := op5.apart nn169
 replace ou9 := (((ou9.le le151).off off155 au9Xq).le le157).le le161
 have au9Xp167 := ou9.apart nn169
 replace op100 := (((op100.le le151).off off155 ap100Xq).le le157).le le161
 have ap100Xp167 := op100.apart nn169
 replace op104 := (((op104.le le151).off off155 ap104Xq).le le157).le le161
 have ap104Xp167 := op104.apart nn169
 replace oq := oq.le le161
 have aqXp167 := oq.apart nn169
 replace ou130 := (((ou130.le le151).off off155 aqXu130.symm).le le157).le le161
 have au130Xp167 := ou130.apart nn169
 replace op138 := (((op138.le le151).off off155 aqXp138.symm).le le157).le le161
 have ap138Xp167 := op138.apart nn169
 replace ou152 := ou152.le le161
 have au152Xp167 := ou152.apart nn169
 replace lE := ((off155.le (lE.trans le151) nq).trans le157).trans le161
 have np167 := nn169.le lE
 refine op167.stn (ws := [(.int .i64 (0)), (.int .i64 (0)), (.slice none 0 0)]) rfl rfl (oc1 rfl (oc1 rfl (oc1 rfl oc0))) (fun H171 op167 off172 => ?_)
 refine gop_sf (gop_sf (gop_sf (ob_i (vPick_f _ _) (cnd_f1 (ob_i (vInt_add (by omega) (by omega)) ?_)))))
 replace op1 := (op1.le le170).off off172 ap1Xp167
 replace op5 := (op5.le le170).off off172 ap5Xp167
 replace ou9 := (ou9.le le170).off off172 au9Xp167
 replace op100 := (op100.le le170).off off172 ap100Xp167
 replace op104 := (op104.le le170).off off172 ap104Xp167
 replace oq := (oq.le le170).off off172 aqXp167
 replace ou130 := (ou130.le le170).off off172 au130Xp167
 replace op138 := (op138.le le170).off off172 ap138Xp167
 replace ou152 := (ou152.le le170).off off172 au152Xp167
 replace lE := off172.le (lE.trans le170) np167
 exact nxt (st.toNat - (t + 1)) (by omega) ⟨t + 1, rfl, by omega, u152, g2L148, g3L148, g12L148, g13L148, g14L148, g15L148, (congrArg (Value.int .i64) (by first | omega | rfl | (simp; done))), op1, op5, ou9, op100, op104, oq, ou130, op138, ou152, nu152, ap1Xu152, ap5Xu152, au9Xu152, ap100Xu152, ap104Xu152, aqXu152, au130Xu152, ap138Xu152, lE, (shp_next hg158 (fun h => by have h1 := h.1; have h2 := hc159; change (trm 24 24 (nxL false b s 24 24 (shpS b s r c l t))).2.1 < 0 at h2; change 0 ≤ (trm 24 24 (nxL false b s 24 24 (shpS b s r c l t))).2.1 at h1; omega) hm0)⟩
 refine ob_i (vExt_40 _ _ _ _) (ob_i (vExt_41 _ _ _ _) (ob_i (vExt_42 _ _ _ _) (ob_i (vExt_43 _ _ _ _) (nw_i (fun p173 H174 op173 nn175 le176 => ?_)))))
 replace op1 := (((op1.le le151).off off155 ap1Xq).le le157).le le164
 have ap1Xp173 := op1.apart nn175
 replace op5 := (((op5.le le151).off off155 ap5Xq).le le157).le le164
 have ap5Xp173 := op5.apart nn175
 replace ou9 := (((ou9.le le151).off off155 au9Xq).le le157).le le164
 have au9Xp173 := ou9.apart nn175
 replace op100 := (((op100.le le151).off off155 ap100Xq).le le157).le le164
 have ap100Xp173 := op100.apart nn175
 replace op104 := (((op104.le le151).off off155 ap104Xq).le le157).le le164
 have ap104Xp173 := op104.apart nn175
 replace oq := oq.le le164
 have aqXp173 := oq.apart nn175
 replace ou130 := (((ou130.le le151).off off155 aqXu130.symm).le le157).le le164
 have au130Xp173 := ou130.apart nn175
 replace op138 := (((op138.le le151).off off155 aqXp138.symm).le le157).le le164
 have ap138Xp173 := op138.apart nn175
 replace ou152 := ou152.le le164
 have au152Xp173 := ou152.apart nn175
 have au165Xp173 := ou165.apart nn175
 replace lE := ((off155.le (lE.trans le151) nq).trans le157).trans le164
 have np173 := nn175.le lE
 replace ou165 := ou165.le le176
 refine op173.stn (ws := [(.int .i64 (trR 24 24 (nxL false b s 24 24 (shpS b s r c l t)))), (.int .i64 (trC 24 24 (nxL false b s 24 24 (shpS b s r c l t)))), u165]) rfl rfl (oc1 rfl (oc1 rfl (oc1 ou165.one oc0))) (fun H177 op173 off178 => ?_)
 refine gop_rt (ob_i (op173.ldn rfl) (gop_rt ?_))
 replace op138 := (op138.le le176).off off178 ap138Xp173
 refine ob_i (op138.ldn rfl) (gop_rt ?_)
 replace ou130 := (ou130.le le176).off off178 au130Xp173
 replace ou165 := ou165.off off178 au165Xp173
 refine C.c60 ou165.sl ou130.sl (by first | omega | assumption) (fun   H179    le180 => ?_)
 refine ob_i (vPick_t _ _) (cnd_d (fun hg181 => ?_) (fun hg181 => ?_))
 refine ob_i (vInt_sub (by omega) (by omega)) (ob_i (vInt_sub (by omega) (by omega)) (retK (K := K) (v' := (.tuple #[(.int .i64 ((t : Int) + 1)), (.int .i64 (((trm 24 24 (nxL false b s 24 24 (shpS b s r c l t))).1) - ((trm 24 24 (shp0 r c l)).1))), (.int .i64 (((trm 24 24 (nxL false b s 24 24 (shpS b s r c l t))).2.2.1) - ((trm 24 24 (shp0 r c l)).2.2.1))), (.bool true)])) rfl ?_))
 have hT := shp_hit (b := b) (s := s) (r := r) (c := c) (l := l) (t := t) hc16 hc17 hc127 hg146 hg158 ⟨hc162, hg181.1, hg181.2.1, hg181.2.2⟩ hm0 (by omega)
 have hok : shpOk b s r c l st := by exact hT.1
 replace lE := (off178.le (lE.trans le176) np173).trans le180
 exact keq (K := K) (by rw [show ((selI (shpOk b s r c l st) (shpF b s r c l st + 1)) : Int) = ((t : Int) + 1) from by first | exact selI_f hok | (rw [selI_t hok, hT.2.1]; done) | (rw [selI_t hok, hT.2.2]; rfl)]; rw [show ((selI (shpOk b s r c l st) ((trm 24 24 (shpT b s r c l st)).1 - (trm 24 24 (shp0 r c l)).1)) : Int) = (((trm 24 24 (nxL false b s 24 24 (shpS b s r c l t))).1) - ((trm 24 24 (shp0 r c l)).1)) from by first | exact selI_f hok | (rw [selI_t hok, hT.2.1]; done) | (rw [selI_t hok, hT.2.2]; rfl)]; rw [show ((selI (shpOk b s r c l st) ((trm 24 24 (shpT b s r c l st)).2.2.1 - (trm 24 24 (shp0 r c l)).2.2.1)) : Int) = (((trm 24 24 (nxL false b s 24 24 (shpS b s r c l t))).2.2.1) - ((trm 24 24 (shp0 r c l)).2.2.1)) from by first | exact selI_f hok | (rw [selI_t hok, hT.2.1]; done) | (rw [selI_t hok, hT.2.2]; rfl)]; rw [decide_eq_true (show (shpOk b s r c l st) from by exact hok)]) (hk   _    lE)
 refine ob_i (vInt_add (by omega) (by omega)) ?_
 replace op1 := ((op1.le le176).off off178 ap1Xp173).le le180
 replace op5 := ((op5.le le176).off off178 ap5Xp173).le le180
 replace ou9 := ((ou9.le le176).off off178 au9Xp173).le le180
 replace op100 := ((op100.le le176).off off178 ap100Xp173).le le180
 replace op104 := ((op104.le le176).off off178 ap104Xp173).le le180
 replace oq := ((oq.le le176).off off178 aqXp173).le le180
 replace ou152 := ((ou152.le le176).off off178 au152Xp173).le le180
 replace lE := (off178.le (lE.trans le176) np173).trans le180
 replace ou130 := ou130.le le180
 replace op138 := op138.le le180
 exact nxt (st.toNat - (t + 1)) (by omega) ⟨t + 1, rfl, by omega, u152, g2L148, g3L148, g12L148, g13L148, g14L148, g15L148, (congrArg (Value.int .i64) (by first | omega | rfl | (simp; done))), op1, op5, ou9, op100, op104, oq, ou130, op138, ou152, nu152, ap1Xu152, ap5Xu152, au9Xu152, ap100Xu152, ap104Xu152, aqXu152, au130Xu152, ap138Xu152, lE, (shp_next hg158 (fun h => hg181 ⟨h.2.1, h.2.2.1, h.2.2.2⟩) hm0)⟩
 have tt := hg149
 exact hJ147 _ _ ⟨u, t, op1, op5, ou9, op100, op104, oq, ou130, op138, ou, nu, ap1Xu, ap5Xu, au9Xu, ap100Xu, ap104Xu, aqXu, au130Xu, ap138Xu, lE, (fun x hx => hm0 x (by omega))⟩
 refine ob_i (vPick_f _ _) (cnd_t1 ?_)
 have hok : ¬ (shpOk b s r c l st) := by exact fun h => hc17 h.2.1
 replace lE := lE.trans le15
 exact keq (K := K) (by rw [show ((selI (shpOk b s r c l st) (shpF b s r c l st + 1)) : Int) = (0) from by first | exact selI_f hok | (rw [selI_t hok, hT.2.1]; done) | (rw [selI_t hok, hT.2.2]; rfl)]; rw [show ((selI (shpOk b s r c l st) ((trm 24 24 (shpT b s r c l st)).1 - (trm 24 24 (shp0 r c l)).1)) : Int) = (0) from by first | exact selI_f hok | (rw [selI_t hok, hT.2.1]; done) | (rw [selI_t hok, hT.2.2]; rfl)]; rw [show ((selI (shpOk b s r c l st) ((trm 24 24 (shpT b s r c l st)).2.2.1 - (trm 24 24 (shp0 r c l)).2.2.1)) : Int) = (0) from by first | exact selI_f hok | (rw [selI_t hok, hT.2.1]; done) | (rw [selI_t hok, hT.2.2]; rfl)]; rw [decide_eq_false (show ¬ (shpOk b s r c l st) from by exact hok)]) (hk   _    lE)
 refine gop_st (gop_st (gop_st (ob_i (vPick_t _ _) (cnd_t1 ?_))))
 have hok : ¬ (shpOk b s r c l st) := by exact fun h => hc16 h.1
 replace lE := lE.trans le15
 exact keq (K := K) (by rw [show ((selI (shpOk b s r c l st) (shpF b s r c l st + 1)) : Int) = (0) from by first | exact selI_f hok | (rw [selI_t hok, hT.2.1]; done) | (rw [selI_t hok, hT.2.2]; rfl)]; rw [show ((selI (shpOk b s r c l st) ((trm 24 24 (shpT b s r c l st)).1 - (trm 24 24 (shp0 r c l)).1)) : Int) = (0) from by first | exact selI_f hok | (rw [selI_t hok, hT.2.1]; done) | (rw [selI_t hok, hT.2.2]; rfl)]; rw [show ((selI (shpOk b s r c l st) ((trm 24 24 (shpT b s r c l st)).2.2.1 - (trm 24 24 (shp0 r c l)).2.2.1)) : Int) = (0) from by first | exact selI_f hok | (rw [selI_t hok, hT.2.1]; done) | (rw [selI_t hok, hT.2.2]; rfl)]; rw [decide_eq_false (show ¬ (shpOk b s r c l st) from by exact hok)]) (hk   _    lE)

end Go.Proofs.YtnijdhlmimemcaaGreatDoor
/- Fields that are drawn, and what they become. -/
namespace Go.Proofs.YtnijdhlmimemcaaGreatDoor
open HL
set_option maxRecDepth 100000
end Go.Proofs.YtnijdhlmimemcaaGreatDoor
/- Texts: bytes in a row. -/
namespace Go.Proofs.YtnijdhlmimemcaaGreatDoor.HL
set_option maxRecDepth 100000
/-- A text of some bytes. -/
def tS (l : List UInt8) : ByteArray := ⟨l.toArray⟩
abbrev vS (l : List UInt8) : Value := .string (tS l)
theorem tS_size (l : List UInt8) : (tS l).size = l.length := rfl
theorem tS_data (l : List UInt8) : (tS l).data.toList = l := rfl
theorem tS_toList (l : List UInt8) : (tS l).toList = l := by rw [ByteArray.toList_eq]; rfl
theorem tS_of (b : ByteArray) : b = tS b.data.toList := by cases b; rfl
theorem tS_append (a b : List UInt8) : tS a ++ tS b = tS (a ++ b) := by
  have h : ∀ {x y : ByteArray}, x.data.toList = y.data.toList → x = y := fun {x y} h => by
    cases x; cases y; simp only [ByteArray.mk.injEq]; exact Array.toList_inj.mp h
  apply h
  rw [ByteArray.data_append, Array.toList_append]
  rfl
theorem vStr_add {a b : List UInt8} (h : a.length + b.length ≤ 9223372036854775807) : vStr .add (vS a) (vS b) = some (vS (a ++ b)) := by
  simp only [vStr, tS_size, tS_append]
  rw [if_pos]
  have e : IntKind.i64.max = 9223372036854775807 := by decide
  rw [e]; omega
theorem vStr_eql (a b : List UInt8) : vStr .eql (vS a) (vS b) = some (.bool (decide (a = b))) := by
  simp only [vStr, tS_toList]
  congr 2
  by_cases h : a = b
  · simp [h]
  · simp [h]
theorem vStr_neq (a b : List UInt8) : vStr .neq (vS a) (vS b) = some (.bool (decide (a ≠ b))) := by
  simp only [vStr, tS_toList]
  congr 2
  by_cases h : a = b
  · simp [h]
  · simp [h]
theorem vStr_neq_same (a : List UInt8) : vStr .neq (vS a) (vS a) = some (.bool false) := by rw [vStr_neq]; simp
theorem vStr_lss (a b : List UInt8) : vStr .lss (vS a) (vS b) = some (.bool (Op.bytesLess a b)) := by simp only [vStr, tS_toList]
theorem vLenS_t (a : List UInt8) : vLenS (vS a) = some (.int .i64 a.length) := rfl
theorem tS_extract (a : List UInt8) (l h : Nat) : (tS a).extract l h = tS ((a.drop l).take (h - l)) := by
  have hh : ∀ {x y : ByteArray}, x.data.toList = y.data.toList → x = y := fun {x y} h => by
    cases x; cases y; simp only [ByteArray.mk.injEq]; exact Array.toList_inj.mp h
  apply hh
  rw [ByteArray.data_extract, Array.toList_extract, List.extract_eq_take_drop]
  rfl
theorem vSlS_t {a : List UInt8} {k k' : IntKind} {l h : Int} (l0 : 0 ≤ l) (lh : l ≤ h) (h1 : h ≤ a.length) : vSlS (vS a) (some (.int k l)) (some (.int k' h)) = some (vS ((a.drop l.toNat).take (h.toNat - l.toNat))) := by
  have e := tS_size a
  simp only [vSlS, bnd, e]
  rw [if_pos ⟨by omega, by omega⟩]
  simp only
  rw [if_pos ⟨by omega, by omega⟩]
  simp only [tS_extract]
end Go.Proofs.YtnijdhlmimemcaaGreatDoor.HL
/- The runs of a row, as texts: plain law. -/
namespace Go.Proofs.YtnijdhlmimemcaaGreatDoor
open HL
variable {l : List Int} {t a k e : Nat}
set_option maxRecDepth 100000
/-- A number below 100 in decimal. -/
def decT (n : Nat) : List UInt8 := if n < 10 then [UInt8.ofNat (48 + n)] else [UInt8.ofNat (48 + n / 10), UInt8.ofNat (48 + n % 10)]
theorem decT_len (n : Nat) : 1 ≤ (decT n).length ∧ (decT n).length ≤ 2 := by unfold decT; split <;> simp
/-- How often a number stands at the beginning. -/
def rN (x : Int) : List Int → Nat
  | [] => 0
  | y :: l => if y = x then rN x l + 1 else 0
theorem rN_le (x : Int) : ∀ l : List Int, rN x l ≤ l.length
  | [] => Nat.le_refl _
  | y :: l => by
    have := rN_le x l
    unfold rN
    split <;> simp <;> omega
theorem rN_step {x : Int} : ∀ {l : List Int} {t : Nat}, t ≤ rN x l → t < l.length → at_ 0 l (t : Int) = x → t + 1 ≤ rN x l
  | [], t, _, h, _ => by simp at h
  | y :: l, 0, _, _, h => by
    have : y = x := h
    unfold rN
    rw [if_pos this]; omega
  | y :: l, t + 1, h1, h2, h3 => by
    unfold rN at h1 ⊢
    split at h1
    · rename_i hy
      rw [if_pos hy]
      have := rN_step (x := x) (l := l) (t := t) (by omega) (by simpa using h2) (by
        unfold at_ at h3 ⊢
        simpa using h3)
      omega
    · omega
theorem rN_at {x : Int} : ∀ {l : List Int} {t : Nat}, t < rN x l → at_ 0 l (t : Int) = x
  | [], t, h => by simp [rN] at h
  | y :: l, 0, h => by
    unfold rN at h
    split at h
    · rename_i hy; exact hy
    · omega
  | y :: l, t + 1, h => by
    unfold rN at h
    split at h
    · have := rN_at (x := x) (l := l) (t := t) (by omega)
      unfold at_ at this ⊢
      simpa using this
    · omega
theorem rN_end {x : Int} (h1 : t ≤ rN x l) (h2 : t = l.length ∨ at_ 0 l (t : Int) ≠ x) : t = rN x l := by
  rcases Nat.lt_or_ge t (rN x l) with h | h
  · have h3 := rN_at h
    rcases h2 with h2 | h2
    · have := rN_le x l; omega
    · exact absurd h3 h2
  · omega
def chT (x : Int) : UInt8 := if x = 1 then 111 else 98
/-- The runs of a row, without zeros at its end. -/
def rtx : List Int → List UInt8
  | [] => []
  | x :: l => if x = 0 ∧ rN x (x :: l) = l.length + 1 then [] else (if rN x (x :: l) = 1 then [] else decT (rN x (x :: l))) ++ [chT x] ++ rtx ((x :: l).drop (rN x (x :: l)))
termination_by l => l.length
decreasing_by
  have : 1 ≤ rN x (x :: l) := by unfold rN; rw [if_pos rfl]; omega
  simp only [List.length_drop, List.length_cons]; omega
theorem rtx_nil : rtx [] = [] := by unfold rtx; rfl
theorem rtx_of (h : 0 < l.length) : rtx l = if at_ 0 l 0 = 0 ∧ rN (at_ 0 l 0) l = l.length then [] else (if rN (at_ 0 l 0) l = 1 then [] else decT (rN (at_ 0 l 0) l)) ++ [chT (at_ 0 l 0)] ++ rtx (l.drop (rN (at_ 0 l 0) l)) := by
  cases l with
  | nil => simp at h
  | cons x l =>
    conv => lhs; unfold rtx
    rfl
theorem rtx_zero : ∀ {l : List Int}, (∀ t, t < l.length → at_ 0 l (t : Int) = 0) → rtx l = []
  | [], _ => rtx_nil
  | x :: l, h => by
    rw [rtx_of (by simp)]
    have e0 : at_ 0 (x :: l) 0 = 0 := h 0 (by simp)
    rw [e0]
    have hk : ∀ t, t ≤ (x :: l).length → t ≤ rN 0 (x :: l) := by
      intro t
      induction t with
      | zero => intro _; omega
      | succ t ih => intro ht; exact rN_step (ih (by omega)) (by omega) (h t (by omega))
    have := hk _ (Nat.le_refl _)
    have := rN_le 0 (x :: l)
    rw [if_pos ⟨rfl, by omega⟩]
theorem rtx_len : ∀ (n : Nat) (l : List Int), l.length ≤ n → (rtx l).length ≤ 3 * l.length
  | 0, l, h => by
    have : l = [] := List.length_eq_zero_iff.mp (by omega)
    subst this
    simp [rtx_nil]
  | n + 1, l, h => by
    cases l with
    | nil => simp [rtx_nil]
    | cons x l =>
      rw [rtx_of (by simp)]
      split
      · simp
      · have h1 : 1 ≤ rN (at_ 0 (x :: l) 0) (x :: l) := rN_step (t := 0) (by omega) (by simp) rfl
        have h2 := rN_le (at_ 0 (x :: l) 0) (x :: l)
        have h3 := rtx_len n ((x :: l).drop (rN (at_ 0 (x :: l) 0) (x :: l))) (by simp only [List.length_drop]; simp only [List.length_cons] at h ⊢; omega)
        simp only [List.length_drop] at h3
        have h4 := decT_len (rN (at_ 0 (x :: l) 0) (x :: l))
        simp only [List.length_append, List.length_singleton]
        split
        · simp only [List.length_nil]; omega
        · omega
section
variable {row : List Int}
theorem at_drop : at_ 0 (row.drop a) (t : Int) = at_ 0 row ((a + t : Nat) : Int) := by
  unfold at_
  rw [Int.toNat_natCast, Int.toNat_natCast]
  simp [List.getD_eq_getElem?_getD, List.getElem?_drop]
/-- A run that is told: what is written, and what is left. -/
theorem rtx_run (ha : a < row.length) (hk : k = rN (at_ 0 row (a : Int)) (row.drop a)) (hne : ¬ (at_ 0 row (a : Int) = 0 ∧ a + k = row.length)) :
    rtx (row.drop a) = (if k = 1 then [] else decT k) ++ [chT (at_ 0 row (a : Int))] ++ rtx (row.drop (a + k)) := by
  have e0 : at_ 0 (row.drop a) 0 = at_ 0 row (a : Int) := at_drop (t := 0)
  rw [rtx_of (by simp; omega), e0, ← hk]
  rw [if_neg (fun h => hne ⟨h.1, by have := h.2; simp only [List.length_drop] at this; omega⟩), List.drop_drop]
theorem rtx_stop (ha : a < row.length) (hk : k = rN (at_ 0 row (a : Int)) (row.drop a)) (h : at_ 0 row (a : Int) = 0 ∧ a + k = row.length) : rtx (row.drop a) = [] := by
  have e0 : at_ 0 (row.drop a) 0 = at_ 0 row (a : Int) := at_drop (t := 0)
  rw [rtx_of (by simp; omega), e0, ← hk]
  rw [if_pos ⟨h.1, by simp only [List.length_drop]; omega⟩]
theorem run_zero (ha : a < row.length) : a + 1 - a ≤ rN (at_ 0 row (a : Int)) (row.drop a) := by
  have := rN_step (x := at_ 0 row (a : Int)) (l := row.drop a) (t := 0) (by omega) (by simp; omega) (at_drop (t := 0))
  omega
theorem run_next (hae : a ≤ e) (h : e - a ≤ rN (at_ 0 row (a : Int)) (row.drop a)) (he : e < row.length) (hx : at_ 0 row (e : Int) = at_ 0 row (a : Int)) : e + 1 - a ≤ rN (at_ 0 row (a : Int)) (row.drop a) := by
  have := rN_step (t := e - a) h (by simp; omega) (by rw [at_drop, show a + (e - a) = e by omega]; exact hx)
  omega
theorem run_end (hae : a ≤ e) (h : e - a ≤ rN (at_ 0 row (a : Int)) (row.drop a)) (he : e ≤ row.length) (hx : e = row.length ∨ at_ 0 row (e : Int) ≠ at_ 0 row (a : Int)) : e - a = rN (at_ 0 row (a : Int)) (row.drop a) := by
  refine rN_end h ?_
  rcases hx with hx | hx
  · exact .inl (by simp; omega)
  · exact .inr (by rw [at_drop, show a + (e - a) = e by omega]; exact hx)
theorem run_pos (ha : a < row.length) : 1 ≤ rN (at_ 0 row (a : Int)) (row.drop a) ∧ a + rN (at_ 0 row (a : Int)) (row.drop a) ≤ row.length := by
  have := run_zero ha
  have := rN_le (at_ 0 row (a : Int)) (row.drop a)
  simp only [List.length_drop] at this
  omega
/-- The end of a row without the zeros behind it. -/
def endP (row : List Int) (e : Nat) : Prop := e ≤ row.length ∧ ∀ j, e ≤ j → j < row.length → at_ 0 row (j : Int) = 0
theorem endP_rtx (h : endP row e) : rtx (row.drop e) = [] := rtx_zero (fun t ht => by
  rw [at_drop]
  exact h.2 _ (by omega) (by simp only [List.length_drop] at ht; omega))
/-- A run within a row that is cut so. -/
theorem run_cut (h : endP row e) (hl : 0 < e → at_ 0 row ((e - 1 : Nat) : Int) ≠ 0) (ha : a < e) (k1 : 1 ≤ k) (hk : k ≤ rN (at_ 0 row (a : Int)) (row.drop a)) (hke : a + k ≤ e) (hx : a + k = e ∨ at_ 0 row ((a + k : Nat) : Int) ≠ at_ 0 row (a : Int)) :
    k = rN (at_ 0 row (a : Int)) (row.drop a) ∧ ¬ (at_ 0 row (a : Int) = 0 ∧ a + k = row.length) := by
  have hlast : a + k = e → at_ 0 row (a : Int) ≠ 0 := fun he h0 => by
    have h1 := rN_at (x := at_ 0 row (a : Int)) (l := row.drop a) (t := k - 1) (by omega)
    rw [at_drop, show a + (k - 1) = e - 1 by omega] at h1
    exact hl (by omega) (h1.trans h0)
  have e1 := run_end (a := a) (e := a + k) (by omega) (by rw [show a + k - a = k by omega]; exact hk) (by have := h.1; omega) (by
    rcases hx with hx | hx
    · rcases Nat.lt_or_ge (a + k) row.length with h2 | h2
      · right
        rw [h.2 (a + k) (by omega) h2]
        exact fun h3 => hlast hx h3.symm
      · left; have := h.1; omega
    · exact .inr hx)
  refine ⟨by omega, fun hh => ?_⟩
  rcases hx with hx | hx
  · exact hlast hx hh.1
  · have := h.1
    have : a + k = e := by omega
    exact hlast this hh.1
end
/-- Texts with another one between them. -/
def joinT (sep : List UInt8) : List (List UInt8) → List UInt8
  | [] => []
  | a :: r => a ++ r.flatMap (sep ++ ·)
theorem joinT_snoc (sep : List UInt8) (x : List UInt8) : ∀ ls : List (List UInt8), ls ≠ [] → joinT sep (ls ++ [x]) = joinT sep ls ++ sep ++ x
  | [], h => absurd rfl h
  | a :: r, _ => by simp [joinT]
end Go.Proofs.YtnijdhlmimemcaaGreatDoor
/- Parts of slices; slices that are put together. -/
namespace Go.Proofs.YtnijdhlmimemcaaGreatDoor
open HL
set_option maxRecDepth 100000
namespace HL
theorem Sl.cut {α : Type} {enc : α → Value} {H : Hp} {v : Value} {l : List α} (h : Sl enc H v l) {lo hi : Int} (h0 : 0 ≤ lo) (h1 : lo ≤ hi) (h2 : hi ≤ l.length) :
    ∃ x, vSl3 1 v (some (.int .i64 lo)) (some (.int .i64 hi)) none = some x ∧ (hi = l.length → vSl3 1 v (some (.int .i64 lo)) none none = some x) ∧ (lo = 0 → vSl3 1 v none (some (.int .i64 hi)) none = some x) ∧ (lo = 0 → hi = l.length → vSl3 1 v none none none = some x) ∧
      Sl enc H x ((l.drop lo.toNat).take (hi.toNat - lo.toNat)) ∧ (∀ b, bk x = some b → bk v = some b) := by
  obtain ⟨a, c, rfl, hc, hr⟩ := h
  have e1 : bnd (some (.int .i64 hi)) c l.length = some hi.toNat := by simp only [bnd]; rw [if_pos ⟨by omega, by omega⟩]
  have e2 : bnd (some (.int .i64 lo)) hi.toNat 0 = some lo.toNat := by simp only [bnd]; rw [if_pos ⟨by omega, by omega⟩]
  have e3 : bnd none c l.length = some l.length := rfl
  refine ⟨.slice (if c = lo.toNat then a else a.map (·.add (lo.toNat * 1))) (hi.toNat - lo.toNat) (c - lo.toNat), ?_, ?_, ?_, ?_, ?_, ?_⟩
  · simp only [vSl3, vSl, e1, e2]
  · intro e
    subst e
    have e2' : bnd (some (.int .i64 lo)) l.length 0 = some lo.toNat := by simpa using e2
    simp only [vSl3, vSl, e3, e2', Int.toNat_natCast]
  · intro e
    subst e
    simp only [vSl3, vSl, e1]; rfl
  · intro e e'
    subst e e'
    simp only [vSl3, vSl, e3, Int.toNat_natCast]; rfl
  · have hl : ((l.drop lo.toNat).take (hi.toNat - lo.toNat)).length = hi.toNat - lo.toNat := by simp; omega
    refine ⟨_, _, by rw [hl], by rw [hl]; omega, fun i hi' => ?_⟩
    rw [hl] at hi'
    obtain ⟨ad, rfl, hh⟩ := hr (lo.toNat + i) (by omega)
    rw [if_neg (by omega)]
    refine ⟨ad.add (lo.toNat * 1), rfl, ?_⟩
    have e4 : (ad.add (lo.toNat * 1)).add i = ad.add (lo.toNat + i) := by
      rw [Nat.mul_one]
      unfold Addr.add
      by_cases hx : lo.toNat = 0
      · rw [if_pos hx, hx, Nat.zero_add]
      · by_cases hy : i = 0
        · subst hy; simp
        · rw [if_neg hx, if_neg hy, if_neg (by omega)]; simp [Nat.add_assoc]
    rw [e4, hh]
    simp
  · intro b hb
    by_cases hcl : c = lo.toNat
    · rw [if_pos hcl] at hb
      cases a with
      | none => simp [bk] at hb
      | some ad => simp only [bk] at hb; rw [if_pos (by omega)] at hb; simp at hb
    · rw [if_neg hcl] at hb
      cases a with
      | none => simp [bk] at hb
      | some ad =>
        have hbl : ∀ k, (ad.add k).block = ad.block := fun k => by unfold Addr.add; split <;> rfl
        simp only [Option.map_some, bk] at hb ⊢
        split at hb
        · simp at hb
        · rw [if_neg (by omega)]; rw [hbl] at hb; exact hb
end HL
end Go.Proofs.YtnijdhlmimemcaaGreatDoor
/- Ranges over functions: a rule by an invariant; slices.Chunk. -/
namespace Go.Proofs.YtnijdhlmimemcaaGreatDoor
open HL
variable {H : Hp} {c r : Nat} {l : List Int} {vc : Value} {K : Value → Hp → Prop}
set_option maxRecDepth 100000
namespace HL
/-- A range over an iterator that gives N times something: what holds ahead of each round. -/
theorem rgE_i {fv : Value} {ps : List Nat} {body : (Exit → S → Hp → Prop) → S → Hp → Prop} {Q : Exit → S → Hp → Prop} {σ : S} (N : Nat) (arg : Nat → List Value) (I : Nat → Hp → Prop) (hfv : match fv with | .func (.func _) _ _ => True | _ => False) (hps : ∀ t, (arg t).length = ps.length) (h0 : I 0 H)
    (hb : ∀ t A σ' (Q' : Exit → S → Hp → Prop), t < N → σ' = ups σ ps (arg t) → (∀ σ'' B, I (t + 1) B → Q' .normal σ'' B) → (∀ σ'' B, Q .ret σ B → Q' .ret σ'' B) → (∀ id σ'' B, Q (.exit id) σ B → Q' (.exit id) σ'' B) → I t A → body Q' σ' A)
    (hend : ∀ A, I N A → Q .normal σ A)
    (hcall : ∀ (yv : Value) (J : Nat → Hp → Prop) (St : Hp → Prop) (H1 : Hp) (K : Value → Hp → Prop), (∀ t A, J t A → ∃ A' b o, A = A'.put b o ∧ A' b = none ∧ I t A') → J 0 H1 →
      (∀ t A (Z : Value → Hp → Prop), t < N → J t A → (∀ B, J (t + 1) B → Z (.bool true) B) → (∀ B, St B → Z (.bool false) B) → callV prg yv (arg t) A Z) → (∀ A, J N A → K (.tuple #[]) A) → (∀ A, St A → K (.tuple #[]) A) → callV prg fv [yv] H1 K) :
    rgE prg fv ps body Q σ H := by
  refine ⟨hfv, fun l X hl hy => ?_⟩
  refine hcall _ (fun t A => ∃ A', A = A'.put l (X none) ∧ A' l = none ∧ I t A') (fun A => ∃ A' j, A = A'.put l (X j) ∧ A' l = none ∧ jmpQ Q σ A' j) _ _ ?_ ⟨H, rfl, hl, h0⟩ ?_ ?_ ?_
  · rintro t A ⟨A', rfl, hn, hI⟩
    exact ⟨A', l, X none, rfl, hn, hI⟩
  · rintro t A Z ht ⟨A', rfl, hn, hI⟩ hT hF
    refine hy (arg t) A' Z (hps t) hn (hb t A' _ _ ht rfl (fun σ'' B hB hBl => ?_) (fun σ'' B hB hBl => ?_) (fun id σ'' B hB hBl => ?_) hI)
    · exact hT _ ⟨B, rfl, hBl, hB⟩
    · exact hF _ ⟨B, some .ret, rfl, hBl, hB⟩
    · exact hF _ ⟨B, some (.exit id), rfl, hBl, hB⟩
  · rintro A ⟨A', rfl, hn, hI⟩
    exact ⟨A', none, rfl, hn, hend A' hI⟩
  · rintro A ⟨A', j, rfl, hn, hj⟩
    exact ⟨A', j, rfl, hn, hj⟩
/-- A piece of a slice, with no room behind it. -/
def chV (v : Value) (lo c : Nat) : Value := (vSl3 1 v (some (.int .i64 (lo : Int))) (some (.int .i64 ((lo : Int) + (c : Int)))) (some (.int .i64 ((lo : Int) + (c : Int))))).getD undef
theorem chV_sl {α : Type} {enc : α → Value} {v : Value} {l : List α} (h : Sl enc H v l) {lo c : Nat} (h1 : lo + c ≤ l.length) :
    vSl3 1 v (some (.int .i64 (lo : Int))) (some (.int .i64 ((lo : Int) + (c : Int)))) (some (.int .i64 ((lo : Int) + (c : Int)))) = some (chV v lo c) ∧ Sl enc H (chV v lo c) ((l.drop lo).take c) := by
  obtain ⟨a, k, rfl, hc, hr⟩ := h
  have e0 : bnd (some (.int .i64 ((lo : Int) + (c : Int)))) k k = some (lo + c) := by simp only [bnd]; rw [if_pos ⟨by omega, by omega⟩]; congr 1
  have e1 : bnd (some (.int .i64 ((lo : Int) + (c : Int)))) (lo + c) (lo + c) = some (lo + c) := by simp only [bnd]; rw [if_pos ⟨by omega, by omega⟩]; congr 1
  have e2 : bnd (some (.int .i64 (lo : Int))) (lo + c) 0 = some lo := by simp only [bnd]; rw [if_pos ⟨by omega, by omega⟩]; simp
  have e : vSl3 1 (.slice a l.length k) (some (.int .i64 (lo : Int))) (some (.int .i64 ((lo : Int) + (c : Int)))) (some (.int .i64 ((lo : Int) + (c : Int)))) = some (.slice (if lo + c = lo then a else a.map (·.add (lo * 1))) (lo + c - lo) (lo + c - lo)) := by
    simp only [vSl3, e0, e1, e2]
  refine ⟨by unfold chV; rw [e]; rfl, ?_⟩
  unfold chV
  rw [e]
  show Sl enc H (.slice _ _ _) _
  have hl : ((l.drop lo).take c).length = c := by simp; omega
  refine ⟨_, _, by rw [hl]; congr 1; omega, by rw [hl]; omega, fun i hi' => ?_⟩
  rw [hl] at hi'
  obtain ⟨ad, rfl, hh⟩ := hr (lo + i) (by omega)
  rw [if_neg (by omega)]
  refine ⟨ad.add (lo * 1), rfl, ?_⟩
  have e4 : (ad.add (lo * 1)).add i = ad.add (lo + i) := by
    rw [Nat.mul_one]
    unfold Addr.add
    by_cases hx : lo = 0
    · rw [if_pos hx, hx, Nat.zero_add]
    · by_cases hy : i = 0
      · subst hy; simp
      · rw [if_neg hx, if_neg hy, if_neg (by omega)]; simp [Nat.add_assoc]
  rw [e4, hh]
  simp
end HL
/-- A row of a list. -/
def rowL (c : Nat) (l : List Int) (i : Nat) : List Int := (l.drop (i * c)).take c
theorem rowL_len (hl : l.length = r * c) {i : Nat} (hi : i < r) : (rowL c l i).length = c := by
  unfold rowL
  have := Nat.mul_le_mul_right c (show i + 1 ≤ r by omega)
  rw [Nat.add_mul, Nat.one_mul] at this
  simp; omega
theorem C.c76 {n : Int} (hv : Sl eI H vc l) (hn : 1 ≤ n)
    (hk : ∀ ps pn H', Cel H' ps [vc] → Cel H' pn [.int .i64 n] → Nw H ps → Nw H pn → Apart ps pn → Le H H' → K (.func (.func 147) #[] #[ps, pn]) H') :
    HT prg 123 [vc, .int .i64 n].toArray H K := by
 refine R.q123 ?_
 unfold F.q123
 rw [hv.cells]
 refine nw_i (fun ps H2 ops nps le2 => ?_)
 refine nw_i (fun pn H4 opn npn le4 => ?_)
 refine ob_i (opn.ld0 rfl) (ob_i (vInt_lss _ _ _) ?_)
 rw [decide_eq_false (show ¬ n < 1 by omega)]
 exact cnd_f1 (hk ps pn H4 (ops.le le4) opn nps (npn.le le2) (ops.apart npn) (le2.trans le4))

theorem C.c77 {yv ps pn : Value} {H0 : Hp} {J : Nat → Hp → Prop} {St : Hp → Prop} (hv : Sl eI H0 vc l) (hl : l.length = r * c) (c1 : 1 ≤ c) (c2 : c ≤ 1000000) (l2 : l.length ≤ 1000000)
    (hb : ∀ t A, J t A → Cel A ps [vc] ∧ Cel A pn [.int .i64 (c : Int)]) (h0 : J 0 H)
    (hst : ∀ t A (Z : Value → Hp → Prop), t < r → J t A → (∀ B, J (t + 1) B → Z (.bool true) B) → (∀ B, St B → Z (.bool false) B) → callV prg yv [chV vc (t * c) c] A Z)
    (hk : ∀ A, J r A → K (.tuple #[]) A) (hs : ∀ A, St A → K (.tuple #[]) A) :
    HT prg 147 [yv, ps, pn].toArray H K := by
 refine R.q147 ?_
 unfold F.q147
 refine ⟨fun n σ H' => ∃ t : Nat, n = r - t ∧ t ≤ r ∧ σ 0 = yv ∧ σ 1 = ps ∧ σ 2 = pn ∧ σ 4 = .int .i64 ((t * c : Nat) : Int) ∧ J t H', ⟨_, 0, rfl, by omega, rfl, rfl, rfl, congrArg (Value.int .i64) (by simp), h0⟩, ?_⟩
 rintro n σ H1 ⟨t, rfl, ht, g0, g1, g2, g4, hJ⟩
 simp only [g0, g1, g2, g4]
 obtain ⟨ops, opn⟩ := hb t H1 hJ
 refine ob_i (ops.ld0 rfl) (ob_i hv.len (ob_i (vInt_lss _ _ _) (cnd_d (fun hlt => ?_) (fun hge => ?_))))
 have htr : t < r := Nat.lt_of_not_le fun hh => by
    have := Nat.mul_le_mul_right c hh
    omega
 have hm := Nat.mul_le_mul_right c (show t + 1 ≤ r by omega)
 rw [Nat.add_mul, Nat.one_mul] at hm
 refine ob_i (opn.ld0 rfl) (ob_i (ops.ld0 rfl) ?_)
 obtain ⟨x, _, hx2, _, _, hx5, _⟩ := hv.cut (lo := ((t * c : Nat) : Int)) (hi := (l.length : Int)) (by omega) (by omega) (by omega)
 refine ob_i (hx2 rfl) (ob_i hx5.len ?_)
 have hmin : vMx false (.int .i64 (c : Int)) [.int .i64 (((l.drop ((t * c : Nat) : Int).toNat).take ((l.length : Int).toNat - ((t * c : Nat) : Int).toNat)).length : Int)] = some (.int .i64 (c : Int)) := by
    simp only [vMx]
    rw [if_neg]
    rw [List.length_take, List.length_drop, Int.toNat_natCast, Int.toNat_natCast]
    omega
 refine ob_i hmin (ob_i (ops.ld0 rfl) (ob_i (vInt_add (by omega) (by omega)) (ob_i (vInt_add (by omega) (by omega)) (ob_i (chV_sl hv (lo := t * c) (c := c) (by omega)).1 (hst t H1 _ htr hJ (fun B hB => ?_) (fun B hB => ?_))))))
 refine ob_i (a := .bool false) rfl ?_
 refine cnd_f1 ?_
 obtain ⟨ops, opn⟩ := hb _ B hB
 refine ob_i (opn.ld0 rfl) (ob_i (vInt_add (by omega) (by omega)) ?_)
 exact nxt (r - (t + 1)) (by omega) ⟨t + 1, rfl, by omega, g0, g1, g2, congrArg (Value.int .i64) (by rw [Nat.add_mul, Nat.one_mul]; omega), hB⟩
 refine ob_i (a := .bool true) rfl ?_
 exact cnd_t1 (hs B hB)
 obtain rfl : t = r := by
    have := Nat.le_antisymm ht (Nat.le_of_not_lt fun hh => by
      have hm := Nat.mul_le_mul_right c (show t + 1 ≤ r by omega)
      rw [Nat.add_mul, Nat.one_mul] at hm
      omega)
    exact this
 exact hk _ hJ

end Go.Proofs.YtnijdhlmimemcaaGreatDoor
/- Texts: bytes turned to texts, small numbers, the rows of a field. -/
namespace Go.Proofs.YtnijdhlmimemcaaGreatDoor
open HL
variable {H : Hp} {l : List Int} {n x r : Int} {c i : Nat}
set_option maxRecDepth 100000
namespace HL
def btT (l : List Int) : List UInt8 := l.map fun n => UInt8.ofNat n.toNat
theorem val_convT {P : Program} {s d : TypeId} {v : Value} (h : cvBS P s d = true) (hs : Sl eU H v l) : val P (convert s d v) H = some (vS (btT l)) := by
  rw [val_convBS h hs, tS_of (bytesS .empty l), bytesS_data]
  rfl
theorem Cel.castX {p : Value} {cs ds : List Value} (e : cs = ds) (h : Cel H p cs) : Cel H p ds := e ▸ h
end HL
def digT : List UInt8 := [48, 49, 50, 51, 52, 53, 54, 55, 56, 57, 97, 98, 99, 100, 101, 102, 103, 104, 105, 106, 107, 108, 109, 110, 111, 112, 113, 114, 115, 116, 117, 118, 119, 120, 121, 122]
def dig2T : List UInt8 := [48, 48, 48, 49, 48, 50, 48, 51, 48, 52, 48, 53, 48, 54, 48, 55, 48, 56, 48, 57, 49, 48, 49, 49, 49, 50, 49, 51, 49, 52, 49, 53, 49, 54, 49, 55, 49, 56, 49, 57, 50, 48, 50, 49, 50, 50, 50, 51, 50, 52, 50, 53, 50, 54, 50, 55, 50, 56, 50, 57, 51, 48, 51, 49, 51, 50, 51, 51, 51, 52, 51, 53, 51, 54, 51, 55, 51, 56, 51, 57, 52, 48, 52, 49, 52, 50, 52, 51, 52, 52, 52, 53, 52, 54, 52, 55, 52, 56, 52, 57, 53, 48, 53, 49, 53, 50, 53, 51, 53, 52, 53, 53, 53, 54, 53, 55, 53, 56, 53, 57, 54, 48, 54, 49, 54, 50, 54, 51, 54, 52, 54, 53, 54, 54, 54, 55, 54, 56, 54, 57, 55, 48, 55, 49, 55, 50, 55, 51, 55, 52, 55, 53, 55, 54, 55, 55, 55, 56, 55, 57, 56, 48, 56, 49, 56, 50, 56, 51, 56, 52, 56, 53, 56, 54, 56, 55, 56, 56, 56, 57, 57, 48, 57, 49, 57, 50, 57, 51, 57, 52, 57, 53, 57, 54, 57, 55, 57, 56, 57, 57]
theorem dig_one : ∀ n : Nat, n < 10 → (digT.drop n).take (n + 1 - n) = decT n := by decide +kernel
theorem dig_two : ∀ n : Nat, n < 100 → 10 ≤ n → (dig2T.drop (n * 2)).take (n * 2 + 2 - n * 2) = decT n := by decide +kernel
theorem small_one (h0 : 0 ≤ n) (h1 : n < 10) : (digT.drop n.toNat).take ((n + 1).toNat - n.toNat) = decT n.toNat := by
  have := dig_one n.toNat (by omega)
  rw [show (n + 1).toNat = n.toNat + 1 by omega]; exact this
theorem small_two (h0 : 10 ≤ n) (h1 : n < 100) : (dig2T.drop (n * 2).toNat).take ((n * 2 + 2).toNat - (n * 2).toNat) = decT n.toNat := by
  have := dig_two n.toNat (by omega) (by omega)
  rw [show (n * 2 + 2).toNat = n.toNat * 2 + 2 by omega, show (n * 2).toNat = n.toNat * 2 by omega]; exact this
theorem num_one (h0 : 0 ≤ n) (h1 : n < 10) : btT [48 + n] = decT n.toNat := by
  unfold btT decT
  rw [if_pos (by omega)]
  simp only [List.map_cons, List.map_nil]
  rw [show (48 + n).toNat = 48 + n.toNat by omega]
theorem num_two (h0 : 10 ≤ n) (h1 : n < 100) : decT (n / 10).toNat ++ btT [48 + n % 10] = decT n.toNat := by
  unfold btT decT
  rw [if_pos (by omega), if_neg (by omega)]
  simp only [List.map_cons, List.map_nil, List.singleton_append]
  rw [show (48 + n % 10).toNat = 48 + n.toNat % 10 by omega, show (n / 10).toNat = n.toNat / 10 by omega]
theorem bo_T (h0 : 0 ≤ x) (h1 : x ≤ 1) : (([98, 111] : List UInt8).drop x.toNat).take ((x + 1).toNat - x.toNat) = [chT x] := by
  rcases show x = 0 ∨ x = 1 by omega with rfl | rfl <;> rfl
theorem chT_1 (h : x = 1) : ([111] : List UInt8) = [chT x] := by subst h; rfl
theorem chT_0 (h : ¬ x = 1) : ([98] : List UInt8) = [chT x] := by unfold chT; rw [if_neg h]
/-- The rows' texts. -/
def rowsT (c : Nat) (l : List Int) (n : Nat) : List (List UInt8) := (List.range n).map fun i => rtx (rowL c l i)
theorem rowsT_len {n : Nat} : (rowsT c l n).length = n := by simp [rowsT]
theorem rowsT_succ {n : Nat} : rowsT c l (n + 1) = rowsT c l n ++ [rtx (rowL c l n)] := by simp [rowsT, List.range_succ]
theorem rowsT_flat {c : Nat} {l : List Int} : ∀ n : Nat, (rowsT c l n).flatten.length ≤ n * (3 * c)
  | 0 => by simp [rowsT]
  | n + 1 => by
    have ih := rowsT_flat (c := c) (l := l) n
    have h2 := rtx_len c (rowL c l n) (by unfold rowL; simp; omega)
    have h3 : (rowL c l n).length ≤ c := by unfold rowL; simp; omega
    rw [rowsT_succ]
    simp only [List.flatten_append, List.length_append, List.flatten_cons, List.flatten_nil, List.append_nil]
    rw [Nat.add_mul]
    omega
def joinR (c : Nat) (l : List Int) (n : Nat) : List UInt8 := joinT [36] (rowsT c l n)
theorem joinR_zero : joinR c l 0 = [] := rfl
theorem joinR_one {n : Nat} (h : n = 0) : joinR c l (n + 1) = rtx (rowL c l n) := by
  subst h
  simp [joinR, rowsT, joinT]
theorem joinR_succ {n : Nat} (h : 0 < n) : joinR c l (n + 1) = joinR c l n ++ [36] ++ rtx (rowL c l n) := by
  unfold joinR
  rw [rowsT_succ]
  exact joinT_snoc _ _ _ (fun he => by have := congrArg List.length he; rw [rowsT_len] at this; simp at this; omega)
theorem joinR_len {c : Nat} {l : List Int} : ∀ n : Nat, (joinR c l n).length ≤ n * (3 * c + 1)
  | 0 => by simp [joinR_zero]
  | n + 1 => by
    have ih := joinR_len (c := c) (l := l) n
    have h2 := rtx_len c (rowL c l n) (by unfold rowL; simp; omega)
    have h3 : (rowL c l n).length ≤ c := by unfold rowL; simp; omega
    rcases Nat.eq_zero_or_pos n with h | h
    · rw [joinR_one h, Nat.add_mul]; omega
    · rw [joinR_succ h, Nat.add_mul]; simp only [List.length_append, List.length_singleton]; omega
/-- What is written ahead of the rows. -/
def headT (r c : Int) : List UInt8 := decT c.toNat ++ [44] ++ decT r.toNat ++ [58]
theorem headT_len (r c : Int) : (headT r c).length ≤ 6 := by
  have := decT_len c.toNat
  have := decT_len r.toNat
  simp only [headT, List.length_append, List.length_singleton]
  omega
/-- A field's text. -/
def fieldT (r c : Int) (l : List Int) : List UInt8 := headT r c ++ joinR c.toNat l r.toNat ++ [33]
theorem row_mul {c : Int} (hs : sidesF r c) (hi : (i : Int) < r) : ((i * c.toNat : Nat) : Int) = (i : Int) * c ∧ 0 ≤ (i : Int) * c ∧ (i : Int) * c + c ≤ r * c ∧ ((i : Int) + 1) * c = (i : Int) * c + c := by
  obtain ⟨⟨_, _⟩, _, _⟩ := hs
  have e : ((i * c.toNat : Nat) : Int) = (i : Int) * c := by rw [Int.natCast_mul, Int.toNat_of_nonneg (by omega)]
  have h1 : ((i : Int) + 1) * c ≤ r * c := Int.mul_le_mul_of_nonneg_right (by omega) (by omega)
  have h2 : ((i : Int) + 1) * c = (i : Int) * c + c := by rw [Int.add_mul, Int.one_mul]
  refine ⟨e, ?_, by omega, h2⟩
  have := Int.mul_nonneg (show (0 : Int) ≤ i by omega) (show 0 ≤ c by omega)
  exact this
theorem row_eq {c : Int} (hs : sidesF r c) (hi : (i : Int) < r) : (l.drop ((i : Int) * c).toNat).take ((((i : Int) + 1) * c).toNat - ((i : Int) * c).toNat) = rowL c.toNat l i := by
  obtain ⟨e, h0, h1, h2⟩ := row_mul hs hi
  unfold rowL
  rw [show ((i : Int) * c).toNat = i * c.toNat by omega, show (((i : Int) + 1) * c).toNat - i * c.toNat = c.toNat by have := hs.2.1; omega]
theorem row_01 (h : ∀ x ∈ l, 0 ≤ x ∧ x ≤ 1) : ∀ x ∈ rowL c l i, 0 ≤ x ∧ x ≤ 1 := fun x hx => h x (List.mem_of_mem_drop (List.mem_of_mem_take hx))
theorem endP_back {row : List Int} {e : Nat} (h : endP row e) (he : 0 < e) (h0 : at_ 0 row ((e : Int) - 1) = 0) {d : Nat} (hd : d = e - 1) : endP row d := by
  subst hd
  refine ⟨by have := h.1; omega, fun q h1 h2 => ?_⟩
  rcases Nat.lt_or_ge q e with h3 | h3
  · rw [show (q : Int) = (e : Int) - 1 by omega]; exact h0
  · exact h.2 q h3 h2
end Go.Proofs.YtnijdhlmimemcaaGreatDoor
/- Fields that are turned and mirrored. -/
namespace Go.Proofs.YtnijdhlmimemcaaGreatDoor
open HL
variable {l : List Int}
set_option maxRecDepth 100000
def turG (r c : Int) (l : List Int) (x y : Int) : Int := at_ 0 l ((r - 1 - y) * c + x)
def turL (r c : Int) (l : List Int) : List Int := mkL r (turG r c l) (c.toNat * r.toNat)
def mirG (c : Int) (l : List Int) (x y : Int) : Int := at_ 0 l (x * c + (c - 1 - y))
def mirL (r c : Int) (l : List Int) : List Int := mkL c (mirG c l) (r.toNat * c.toNat)
theorem at_01 (h : ∀ x ∈ l, 0 ≤ x ∧ x ≤ 1) (i : Int) : 0 ≤ at_ 0 l i ∧ at_ 0 l i ≤ 1 := by
  unfold at_
  rw [List.getD_eq_getElem?_getD]
  cases he : l[i.toNat]? with
  | none => simp
  | some y => exact h y (List.mem_of_getElem? he)
def turF (f : FdL) : FdL := ⟨f.c, f.r, turL f.r f.c f.l⟩
def mirF (f : FdL) : FdL := ⟨f.r, f.c, mirL f.r f.c f.l⟩
def okF (f : FdL) : Prop := fieldN 1 f.r f.c f.l
theorem turF_ok {f : FdL} (h : okF f) : okF (turF f) := mkL_field ⟨h.1.2, h.1.1⟩ (fun _ _ => at_01 h.2.2 _)
theorem mirF_ok {f : FdL} (h : okF f) : okF (mirF f) := mkL_field h.1 (fun _ _ => at_01 h.2.2 _)
def imK (f : FdL) : Nat → FdL
  | 0 => f
  | k + 1 => turF (imK f k)
theorem imK_ok {f : FdL} (h : okF f) : ∀ k, okF (imK f k)
  | 0 => h
  | k + 1 => turF_ok (imK_ok h k)
/-- The field of a side. -/
def imB (f : FdL) (i : Nat) : FdL := if i = 0 then f else mirF f
theorem imB_ok {f : FdL} (h : okF f) (i : Nat) : okF (imB f i) := by
  unfold imB
  split
  · exact h
  · exact mirF_ok h
def imgs (f : FdL) (n : Nat) : List FdL := (List.range n).map fun t => imK (imB f (t / 4)) (t % 4)
theorem imgs_len (f : FdL) (n : Nat) : (imgs f n).length = n := by simp [imgs]
theorem imgs_succ (f : FdL) {i k : Nat} (hk : k < 4) : imgs f (4 * i + k) ++ [⟨(imK (imB f i) k).r, (imK (imB f i) k).c, (imK (imB f i) k).l⟩] = imgs f (4 * i + k + 1) := by
  simp only [imgs, List.range_succ, List.map_append, List.map_cons, List.map_nil]
  rw [show (4 * i + k) / 4 = i by omega, show (4 * i + k) % 4 = k by omega]
theorem cut_all {r c : Int} (h1 : 0 ≤ r) (h2 : 0 < c) (hl : (l.length : Int) = r * c) : mkL c (cutG c l 0 0) (r.toNat * c.toNat) = l := by
  have hl2 := mkL_len' (c := c) (g := cutG c l 0 0) (rr := r) (cc := c) h1 (by omega)
  apply List.ext_getElem
  · omega
  · intro j g1 g2
    have d := Int.mul_ediv_add_emod (j : Int) c
    rw [Int.mul_comm] at d
    simp only [mkL, List.getElem_map, List.getElem_range, cutG]
    rw [show (0 + (j : Int) / c) * c + 0 + (j : Int) % c = (j : Int) by rw [Int.zero_add]; omega, at_get 0 g2]
/-- What is told of the field of a round, and of the next one. -/
def gL (f : FdL) (i : Nat) : List Int := if i = 0 then f.l else if i = 1 then (mirF f).l else []
def hL (f : FdL) (i : Nat) : List Int := if i = 0 then (mirF f).l else []
theorem hgL (f : FdL) (i : Nat) : hL f i = gL f (i + 1) := by
  unfold hL gL
  rcases i with _ | i <;> simp
theorem gL_eq {f : FdL} {i : Nat} (h : i < 2) : gL f i = (imB f i).l := by
  rcases (by omega : i = 0 ∨ i = 1) with rfl | rfl <;> rfl
theorem imB_r (f : FdL) (i : Nat) : (imB f i).r = f.r := by unfold imB; split <;> rfl
theorem imB_c (f : FdL) (i : Nat) : (imB f i).c = f.c := by unfold imB; split <;> rfl
end Go.Proofs.YtnijdhlmimemcaaGreatDoor
/- Names of fields: the least text of the trimmed field's images: plain law. -/
namespace Go.Proofs.YtnijdhlmimemcaaGreatDoor
open HL
variable {m x : List UInt8} {n : Nat} {r c : Int} {l : List Int}
set_option maxRecDepth 100000
theorem bytesLess_tri : ∀ a b : List UInt8, Op.bytesLess b a = !(Op.bytesLess a b || a == b)
  | [], [] => rfl
  | [], _ :: _ => rfl
  | _ :: _, [] => rfl
  | x :: a, y :: b => by
    have ih := bytesLess_tri a b
    simp only [Op.bytesLess, ih, List.cons_beq_cons]
    rcases Nat.lt_trichotomy x.toNat y.toNat with h | h | h
    · have h1 : x < y := UInt8.lt_iff_toNat_lt.mpr h
      have h2 : ¬ y < x := fun g => by have := UInt8.lt_iff_toNat_lt.mp g; omega
      have h3 : ¬ y = x := fun g => by subst g; omega
      simp [h1, h2, h3]
    · obtain rfl : x = y := UInt8.toNat_inj.mp h
      have h2 : ¬ x < x := fun g => by have := UInt8.lt_iff_toNat_lt.mp g; omega
      simp [h2]
    · have h1 : y < x := UInt8.lt_iff_toNat_lt.mpr h
      have h2 : ¬ x < y := fun g => by have := UInt8.lt_iff_toNat_lt.mp g; omega
      have h3 : ¬ x = y := fun g => by subst g; omega
      simp [h1, h2, h3]
/-- The lesser of two texts. -/
def minT (m x : List UInt8) : List UInt8 := if Op.bytesLess x m = true then x else m
/-- The least of some texts. -/
def minF : List (List UInt8) → List UInt8
  | [] => []
  | a :: r => r.foldl minT a
theorem minF_snoc (ls : List (List UInt8)) (x : List UInt8) (h : ls ≠ []) : minF (ls ++ [x]) = minT (minF ls) x := by
  cases ls with
  | nil => exact absurd rfl h
  | cons a r => simp [minF]
theorem min_tr {P : Program} {H : Hp} {K : Value → Hp → Prop} {ts : Array TypeId} {t : TypeId} {bs : Array Bool} (h : K (vS (minT m x)) H) : hp P (builtin .min ts t bs #[vS m, vS x]) H (nextH P K) := by
  have e : hp P (builtin .min ts t bs #[vS m, vS x]) H (nextH P K) = K (.string (if (Op.bytesLess (tS m).toList (tS x).toList || (tS m).toList == (tS x).toList) = true then tS m else tS x)) H := rfl
  rw [e]
  simp only [tS_toList]
  have : (if (Op.bytesLess m x || m == x) = true then tS m else tS x) = tS (minT m x) := by
    unfold minT
    rw [bytesLess_tri m x]
    cases Op.bytesLess m x || m == x <;> rfl
  rw [this]
  exact h
section
variable {r c : Int} {l : List Int}
theorem trF_ok (h : fieldN 1 r c l) (hb : 0 ≤ (trm r c l).2.1) : fieldN 1 (trR r c l) (trC r c l) (trL r c l) := by
  obtain ⟨h1, h2, h3, h4, h5, h6⟩ := trm_bnd h.1 hb
  have hs := h.1
  obtain ⟨⟨_, _⟩, _, _⟩ := hs
  refine ⟨⟨⟨h3, by omega⟩, h4, by omega⟩, ?_, fun x hx => ?_⟩
  · unfold trL; exact mkL_len (by omega) (by omega)
  · simp only [trL, mkL, List.mem_map] at hx
    obtain ⟨t, _, rfl⟩ := hx
    exact at_01 h.2.2 _
end
/-- The text of a field. -/
def ftx (f : FdL) : List UInt8 := fieldT f.r f.c f.l
/-- The trimmed field. -/
def tmF (r c : Int) (l : List Int) : FdL := ⟨trR r c l, trC r c l, trL r c l⟩
def imF (f : FdL) (i : Nat) : FdL := imK (imB f (i / 4)) (i % 4)
theorem imF_ok {f : FdL} (h : okF f) (i : Nat) : okF (imF f i) := imK_ok (imB_ok h _) _
theorem imF_at {f : FdL} {i : Nat} (h : i < n) : at_ fd0 (imgs f n) (i : Int) = ⟨(imF f i).r, (imF f i).c, (imF f i).l⟩ := by
  rw [at_eq fd0 (imgs f n) (by rw [imgs_len]; omega)]
  simp [imgs, imF]
def imT (f : FdL) (n : Nat) : List (List UInt8) := (List.range n).map fun i => ftx (imF f i)
theorem imT_len {f : FdL} : (imT f n).length = n := by simp [imT]
theorem imT_succ {f : FdL} : imT f (n + 1) = imT f n ++ [fieldT (imF f n).r (imF f n).c (imF f n).l] := by simp [imT, List.range_succ, ftx]
theorem minF_next {f : FdL} (h : 0 < n) : minF (imT f (n + 1)) = minT (minF (imT f n)) (fieldT (imF f n).r (imF f n).c (imF f n).l) := by
  rw [imT_succ]
  exact minF_snoc _ _ (fun e => by have := congrArg List.length e; rw [imT_len] at this; simp at this; omega)
theorem minF_first {f : FdL} (h : n = 0) : minF (imT f (n + 1)) = fieldT (imF f n).r (imF f n).c (imF f n).l := by
  subst h; rfl
theorem minT_t (h : Op.bytesLess x m = true) : minT m x = x := if_pos h
theorem minT_f (h : ¬ Op.bytesLess x m = true) : minT m x = m := if_neg h
/-- The least of the first texts. -/
theorem minF_take {ls : List (List UInt8)} {t : Nat} (h0 : 1 ≤ t) (h : t < ls.length) : minF (ls.take (t + 1)) = minT (minF (ls.take t)) (at_ [] ls (t : Int)) := by
  rw [take_at [] ls h]
  exact minF_snoc _ _ (fun e => by have := congrArg List.length e; simp only [List.length_take, List.length_nil] at this; omega)
theorem minF_take1 {ls : List (List UInt8)} (h : 1 ≤ ls.length) : minF (ls.take 1) = at_ [] ls 0 := by
  cases ls with
  | nil => simp at h
  | cons a r => rfl
/-- A field's name. -/
def nameT (r c : Int) (l : List Int) : List UInt8 := if 0 ≤ (trm r c l).2.1 then minF (imT (tmF r c l) 8) else []
theorem nameT_t (h : 0 ≤ (trm r c l).2.1) : nameT r c l = minF (imT (tmF r c l) 8) := if_pos h
theorem nameT_f (h : (trm r c l).2.1 < 0) : nameT r c l = [] := if_neg (by omega)
end Go.Proofs.YtnijdhlmimemcaaGreatDoor
/- A census: plain law. Names in rising order, each with how often it stands. -/
namespace Go.Proofs.YtnijdhlmimemcaaGreatDoor
open HL
set_option maxRecDepth 100000
abbrev Txt := List UInt8
def LtT (a b : Txt) : Prop := Op.bytesLess a b = true
theorem less_lt : ∀ a b : Txt, Op.bytesLess a b = decide (a < b)
  | [], [] => rfl
  | [], _ :: _ => rfl
  | _ :: _, [] => rfl
  | x :: a, y :: b => by
    have ih := less_lt a b
    simp only [Op.bytesLess, ih, List.cons_lt_cons_iff]
    by_cases h1 : x < y <;> by_cases h2 : x = y <;> simp [h1, h2]
theorem ltT_iff {a b : Txt} : LtT a b ↔ a < b := by unfold LtT; rw [less_lt]; simp
theorem ltT_irr (a : Txt) : ¬ LtT a a := fun h => List.lt_irrefl a (ltT_iff.mp h)
theorem ltT_trans {a b c : Txt} (h : LtT a b) (h' : LtT b c) : LtT a c := ltT_iff.mpr (List.lt_trans (ltT_iff.mp h) (ltT_iff.mp h'))
theorem ltT_tri {a b : Txt} (h : ¬ LtT a b) (h' : a ≠ b) : LtT b a := by
  unfold LtT at *
  rw [bytesLess_tri a b]
  simp [h, h']
theorem ltT_ne {a b : Txt} (h : LtT a b) : a ≠ b := fun e => ltT_irr a (e ▸ h)
/-- The names of a list, rising, with how often each stands there. -/
structure Cen (ns : List Txt) (cs : List Int) (L : List Txt) : Prop where
  srt : ns.Pairwise LtT
  mem : ∀ x, x ∈ ns ↔ x ∈ L
  cnt : cs = ns.map fun x => (L.count x : Int)
theorem cen_nil : Cen [] [] [] := ⟨List.Pairwise.nil, fun _ => Iff.rfl, rfl⟩
section
variable {A B : List Txt} {b x : Txt} {cs : List Int} {ns L : List Txt}
theorem Cen.len (h : Cen ns cs L) : cs.length = ns.length := by rw [h.cnt]; simp
theorem Cen.nodup (h : Cen ns cs L) : ns.Nodup := h.srt.imp fun hab => ltT_ne hab
theorem Cen.le (h : Cen ns cs L) : ns.length ≤ L.length := by
  have : ns ⊆ L := fun x hx => (h.mem x).mp hx
  exact h.nodup.length_le_of_subset this
theorem Cen.bnd (h : Cen ns cs L) {c : Int} (hc : c ∈ cs) : 0 ≤ c ∧ c ≤ L.length := by
  rw [h.cnt] at hc
  obtain ⟨x, _, rfl⟩ := List.mem_map.mp hc
  have := List.count_le_length (a := x) (l := L)
  omega
theorem map_ne {C : List Txt} (h : ∀ a ∈ C, a ≠ x) : (C.map fun y => (L.count y : Int)) = C.map fun y => ((L ++ [x]).count y : Int) := by
  refine List.map_congr_left fun a ha => ?_
  rw [List.count_append, List.count_singleton]
  have : ¬ x = a := fun e => h a ha e.symm
  simp [this]
theorem cen_hit (h : Cen (A ++ b :: B) cs L) (hb : b = x) : Cen (A ++ b :: B) (cs.set A.length (at_ 0 cs (A.length : Int) + 1)) (L ++ [x]) := by
  subst hb
  have hs := h.srt
  rw [List.pairwise_append] at hs
  obtain ⟨_, hB, hAB⟩ := hs
  rw [List.pairwise_cons] at hB
  have hA' : ∀ a ∈ A, a ≠ b := fun a ha => ltT_ne (hAB a ha b (by simp))
  have hB' : ∀ a ∈ B, a ≠ b := fun a ha => (ltT_ne (hB.1 a ha)).symm
  refine ⟨h.srt, fun y => ?_, ?_⟩
  · rw [h.mem y, List.mem_append, List.mem_singleton]
    refine ⟨.inl, fun hy => ?_⟩
    rcases hy with hy | rfl
    · exact hy
    · exact (h.mem y).mp (by simp)
  · have hat : at_ 0 cs (A.length : Int) = (L.count b : Int) := by
      rw [h.cnt, at_eq 0 _ (by simp)]
      simp
    rw [hat, h.cnt]
    simp only [List.map_append, List.map_cons]
    rw [map_ne hA', map_ne hB', List.set_append_right _ _ (by simp)]
    simp only [List.length_map, Nat.sub_self, List.set_cons_zero]
    congr 2
    rw [List.count_append, List.count_singleton]
    simp
theorem cen_new (h : Cen (A ++ B) cs L) (hA : ∀ a ∈ A, LtT a x) (hB : ∀ b ∈ B, LtT x b) : Cen (A ++ [x] ++ B) (cs.take A.length ++ [1] ++ cs.drop A.length) (L ++ [x]) := by
  have hs := h.srt
  rw [List.pairwise_append] at hs
  obtain ⟨h1, h2, h3⟩ := hs
  have hA' : ∀ a ∈ A, a ≠ x := fun a ha => ltT_ne (hA a ha)
  have hB' : ∀ a ∈ B, a ≠ x := fun a ha => (ltT_ne (hB a ha)).symm
  have hx : x ∉ L := fun hx => by
    rcases List.mem_append.mp ((h.mem x).mpr hx) with h | h
    · exact hA' x h rfl
    · exact hB' x h rfl
  refine ⟨?_, fun y => ?_, ?_⟩
  · rw [List.append_assoc, List.pairwise_append]
    refine ⟨h1, ?_, fun a ha y hy => ?_⟩
    · rw [List.singleton_append, List.pairwise_cons]; exact ⟨hB, h2⟩
    · rw [List.singleton_append, List.mem_cons] at hy
      rcases hy with rfl | hy
      · exact hA a ha
      · exact h3 a ha y hy
  · have := h.mem y
    simp only [List.mem_append, List.mem_singleton] at this ⊢
    rw [← this]
    constructor
    · rintro ((h | h) | h)
      · exact .inl (.inl h)
      · exact .inr h
      · exact .inl (.inr h)
    · rintro ((h | h) | h)
      · exact .inl (.inl h)
      · exact .inr h
      · exact .inl (.inr h)
  · rw [h.cnt]
    simp only [List.map_append, List.map_cons, List.map_nil]
    rw [List.take_append_of_le_length (by simp), List.take_of_length_le (by simp), List.drop_append_of_le_length (by simp), List.drop_of_length_le (by simp), List.nil_append, ← map_ne hA', ← map_ne hB']
    congr 2
    rw [List.count_append, List.count_singleton, List.count_eq_zero.mpr hx]
    simp
end
section
variable {x : Txt} {cs : List Int} {ns L : List Txt} {p : Nat}
/-- One more name, at its place. -/
theorem cen_at_hit (h : Cen ns cs L) (hp : p < ns.length) (hx : at_ [] ns (p : Int) = x) : Cen ns (cs.set p (at_ 0 cs (p : Int) + 1)) (L ++ [x]) := by
  have e : ns = ns.take p ++ at_ [] ns (p : Int) :: ns.drop (p + 1) := by rw [at_eq [] ns hp]; simp
  have hl : (ns.take p).length = p := by rw [List.length_take]; omega
  rw [e] at h ⊢
  have := cen_hit h hx
  rw [hl] at this
  exact this
theorem cen_at_new (h : Cen ns cs L) (hp : p ≤ ns.length) (hA : ∀ j, j < p → LtT (at_ [] ns (j : Int)) x) (hB : p < ns.length → ¬ LtT (at_ [] ns (p : Int)) x ∧ at_ [] ns (p : Int) ≠ x) : Cen (ns.take p ++ [x] ++ ns.drop p) (cs.take p ++ [1] ++ cs.drop p) (L ++ [x]) := by
  have hl : (ns.take p).length = p := by rw [List.length_take]; omega
  have hs := h.srt
  rw [← List.take_append_drop p ns] at h
  have := cen_new h (x := x) (fun a ha => ?_) (fun b hb => ?_)
  · rw [hl] at this; exact this
  · obtain ⟨j, hj, rfl⟩ := List.getElem_of_mem ha
    rw [hl] at hj
    have := hA j hj
    rw [at_eq [] ns (by omega)] at this
    rw [List.getElem_take]
    exact this
  · obtain ⟨j, hj, rfl⟩ := List.getElem_of_mem hb
    rw [List.length_drop] at hj
    obtain ⟨h1, h2⟩ := hB (by omega)
    have h3 := ltT_tri h1 h2
    rw [at_eq [] ns (by omega)] at h3
    rw [List.getElem_drop]
    rcases Nat.eq_zero_or_pos j with rfl | hj0
    · exact h3
    · exact ltT_trans h3 (List.pairwise_iff_getElem.mp hs p (p + j) (by omega) (by omega) (by omega))
/-- The names are told by what stands in the list, not by its order. -/
theorem cen_uni {ns' L' : List Txt} {cs' : List Int} (h : Cen ns cs L) (h' : Cen ns' cs' L') (hp : L.Perm L') : ns = ns' ∧ cs = cs' := by
  have e : ns = ns' := by
    refine List.Perm.eq_of_pairwise (le := LtT) (fun a b _ _ h1 h2 => absurd (ltT_trans h1 h2) (ltT_irr a)) h.srt h'.srt ?_
    rw [List.perm_ext_iff_of_nodup h.nodup h'.nodup]
    intro a
    rw [h.mem a, h'.mem a]
    exact hp.mem_iff
  subst e
  refine ⟨rfl, ?_⟩
  rw [h.cnt, h'.cnt]
  exact List.map_congr_left fun a _ => by rw [hp.count_eq]
end
theorem cen_ex : ∀ L : List Txt, ∃ ns cs, Cen ns cs L := by
  intro L
  induction hn : L.length generalizing L with
  | zero => obtain rfl := List.length_eq_zero_iff.mp hn; exact ⟨[], [], cen_nil⟩
  | succ n ih =>
    obtain ⟨M, x, rfl⟩ : ∃ M x, L = M ++ [x] := ⟨L.dropLast, L.getLast (by intro e; rw [e] at hn; simp at hn), (List.dropLast_concat_getLast _).symm⟩
    obtain ⟨ns, cs, h⟩ := ih M (by simpa using hn)
    have hp : ∃ p, p ≤ ns.length ∧ (∀ j, j < p → LtT (at_ [] ns (j : Int)) x) ∧ (p < ns.length → ¬ LtT (at_ [] ns (p : Int)) x) := by
      have : ∀ k, k ≤ ns.length → (∀ j, j < k → LtT (at_ [] ns (j : Int)) x) ∨ ∃ p, p ≤ ns.length ∧ (∀ j, j < p → LtT (at_ [] ns (j : Int)) x) ∧ (p < ns.length → ¬ LtT (at_ [] ns (p : Int)) x) := by
        intro k
        induction k with
        | zero => intro _; exact .inl (fun j hj => absurd hj (by omega))
        | succ k ihk =>
          intro hk
          rcases ihk (by omega) with h1 | h1
          · by_cases hx : LtT (at_ [] ns (k : Int)) x
            · exact .inl fun j hj => by
                rcases Nat.lt_or_ge j k with h2 | h2
                · exact h1 j h2
                · obtain rfl : j = k := by omega
                  exact hx
            · exact .inr ⟨k, by omega, h1, fun _ => hx⟩
          · exact .inr h1
      rcases this ns.length (Nat.le_refl _) with h1 | h1
      · exact ⟨ns.length, Nat.le_refl _, h1, fun h => absurd h (by omega)⟩
      · exact h1
    obtain ⟨p, hp1, hp2, hp3⟩ := hp
    by_cases hx : p < ns.length ∧ at_ [] ns (p : Int) = x
    · exact ⟨_, _, cen_at_hit h hx.1 hx.2⟩
    · exact ⟨_, _, cen_at_new h hp1 hp2 fun hp => ⟨hp3 hp, fun e => hx ⟨hp, e⟩⟩⟩
noncomputable def cenN (L : List Txt) : List Txt := Classical.choose (cen_ex L)
noncomputable def cenC (L : List Txt) : List Int := Classical.choose (Classical.choose_spec (cen_ex L))
theorem cen_of (L : List Txt) : Cen (cenN L) (cenC L) L := Classical.choose_spec (Classical.choose_spec (cen_ex L))
theorem cen_eq {ns : List Txt} {cs : List Int} {L M : List Txt} (h : Cen ns cs L) (hp : L.Perm M) : ns = cenN M ∧ cs = cenC M := cen_uni h (cen_of M) hp
/-- The sorted list. -/
def srtT (L : List Txt) : List Txt := L.mergeSort fun x y => decide (x ≤ y)
theorem srtT_perm (L : List Txt) : (srtT L).Perm L := List.mergeSort_perm L _
theorem srtT_len (L : List Txt) : (srtT L).length = L.length := (srtT_perm L).length_eq
theorem srtT_le (L : List Txt) {i j : Nat} (hi : i < j) (hj : j < (srtT L).length) : ¬ LtT (at_ [] (srtT L) (j : Int)) (at_ [] (srtT L) (i : Int)) := by
  have h := List.pairwise_mergeSort (le := fun x y : Txt => decide (x ≤ y)) (fun a b c h1 h2 => by simp only [decide_eq_true_eq] at *; exact List.le_trans h1 h2) (fun a b => by simp only [Bool.or_eq_true, decide_eq_true_eq]; exact List.le_total a b) L
  have := List.pairwise_iff_getElem.mp h i j (by show i < (srtT L).length; omega) hj hi
  rw [at_eq [] _ hj, at_eq [] _ (by omega), ltT_iff]
  simp only [decide_eq_true_eq] at this
  exact List.not_lt.mpr this
end Go.Proofs.YtnijdhlmimemcaaGreatDoor
/- Parts of a field, by plain law: what can be reached, starts, numbers. -/
namespace Go.Proofs.YtnijdhlmimemcaaGreatDoor
open HL
variable {x y i : Nat} {ls : List Int}
set_option maxRecDepth 100000
/-- Cells side by side, or corner by corner; a cell and itself too. -/
def nbP (c : Int) (x y : Nat) : Prop := ((x : Int) / c - (y : Int) / c ≤ 1 ∧ (y : Int) / c - (x : Int) / c ≤ 1) ∧ (x : Int) % c - (y : Int) % c ≤ 1 ∧ (y : Int) % c - (x : Int) % c ≤ 1
theorem nbP_symm {c : Int} (h : nbP c x y) : nbP c y x := ⟨⟨h.1.2, h.1.1⟩, h.2.2, h.2.1⟩
/-- A cell of 1. -/
def onP (l : List Int) (x : Nat) : Prop := x < l.length ∧ at_ 0 l (x : Int) = 1
instance (l : List Int) (x : Nat) : Decidable (onP l x) := by unfold onP; infer_instance
/-- What can be reached from a cell. -/
inductive Rch (c : Int) (l : List Int) (s : Nat) : Nat → Prop
  | base : onP l s → Rch c l s s
  | step {x y : Nat} : Rch c l s x → nbP c x y → onP l y → Rch c l s y
section
variable {c : Int} {l : List Int} {s : Nat}
theorem Rch.on (h : Rch c l s x) : onP l x ∧ onP l s := by
  induction h with
  | base h => exact ⟨h, h⟩
  | step _ _ hy ih => exact ⟨hy, ih.2⟩
theorem Rch.trans (h : Rch c l s x) (h2 : Rch c l x y) : Rch c l s y := by
  induction h2 with
  | base _ => exact h
  | step _ hn hy ih => exact ih.step hn hy
theorem Rch.symm (h : Rch c l s x) : Rch c l x s := by
  induction h with
  | base h => exact .base h
  | step hx hn hy ih => exact ((Rch.base hy).step (nbP_symm hn) hx.on.1).trans ih
/-- A set that holds a cell, is sound and closed, is what can be reached. -/
theorem Rch_set {C : Nat → Prop} (hs : C s) (sd : ∀ x, C x → Rch c l s x) (cl : ∀ x y, C x → nbP c x y → onP l y → C y) (x : Nat) : C x ↔ Rch c l s x := by
  constructor
  · exact sd x
  · intro h
    induction h with
    | base _ => exact hs
    | step _ hn hy ih => exact cl _ _ ih hn hy
end
open Classical in
/-- The starts among the first cells. -/
noncomputable def stsL (c : Int) (l : List Int) : Nat → List Nat
  | 0 => []
  | i + 1 => if onP l i ∧ ∀ s ∈ stsL c l i, ¬ Rch c l s i then stsL c l i ++ [i] else stsL c l i
open Classical in
/-- A part alone. -/
noncomputable def aloL (c : Int) (l : List Int) (s : Nat) : List Int := (List.range l.length).map fun x => if Rch c l s x then 1 else 0
open Classical in
/-- The number of a cell's part; 0: none. -/
noncomputable def nuN (c : Int) (l : List Int) : List Nat → Nat → Int
  | [], _ => 0
  | s :: L, x => if Rch c l s x then 1 else if nuN c l L x = 0 then 0 else nuN c l L x + 1
section
variable {c : Int} {l : List Int}
theorem aloL_len (s : Nat) : (aloL c l s).length = l.length := by simp [aloL]
theorem stsL_on : ∀ {i s : Nat}, s ∈ stsL c l i → onP l s ∧ s < i
  | 0, s, h => by simp [stsL] at h
  | i + 1, s, h => by
    unfold stsL at h
    split at h
    · rename_i hc
      rcases List.mem_append.mp h with h | h
      · have := stsL_on h; exact ⟨this.1, by omega⟩
      · simp only [List.mem_singleton] at h; subst h; exact ⟨hc.1, by omega⟩
    · have := stsL_on h; exact ⟨this.1, by omega⟩
theorem nuN_zero : ∀ {L : List Nat} {x : Nat}, nuN c l L x = 0 ↔ ∀ s ∈ L, ¬ Rch c l s x
  | [], x => by simp [nuN]
  | s :: L, x => by
    have ih := nuN_zero (L := L) (x := x)
    have pos : ∀ L : List Nat, 0 ≤ nuN c l L x := by
      intro L
      induction L with
      | nil => simp [nuN]
      | cons a L ih => unfold nuN; split <;> (try split) <;> omega
    have := pos L
    unfold nuN
    by_cases h : Rch c l s x
    · rw [if_pos h]
      constructor
      · intro g; omega
      · intro g; exact absurd h (g s (by simp))
    · rw [if_neg h]
      by_cases h2 : nuN c l L x = 0
      · rw [if_pos h2]
        constructor
        · intro _ a ha
          rcases List.mem_cons.mp ha with rfl | ha
          · exact h
          · exact ih.mp h2 a ha
        · intro _; rfl
      · rw [if_neg h2]
        constructor
        · intro g; omega
        · intro g; exact absurd (ih.mpr (fun a ha => g a (by simp [ha]))) h2
open Classical in
/-- One more start behind the others. -/
theorem nuN_snoc {x t : Nat} : ∀ {L : List Nat}, nuN c l (L ++ [t]) x = if nuN c l L x = 0 then (if Rch c l t x then (L.length : Int) + 1 else 0) else nuN c l L x
  | [] => by
    simp only [List.nil_append, nuN, if_true, List.length_nil]
    by_cases h : Rch c l t x
    · simp [h]
    · simp [h]
  | s :: L => by
    have ih := nuN_snoc (x := x) (t := t) (L := L)
    have p0 : 0 ≤ nuN c l L x := by
      clear ih
      induction L with
      | nil => simp [nuN]
      | cons a L ih => unfold nuN; split <;> (try split) <;> omega
    simp only [List.cons_append, nuN, List.length_cons]
    by_cases h : Rch c l s x
    · rw [if_pos h, if_pos h, if_neg (by omega)]
    · rw [if_neg h, if_neg h, ih]
      by_cases h2 : nuN c l L x = 0
      · rw [if_pos h2]
        simp only [h2, if_true]
        by_cases h3 : Rch c l t x
        · rw [if_pos h3, if_pos h3, if_neg (by omega)]; omega
        · rw [if_neg h3, if_neg h3, if_pos rfl]
      · rw [if_neg h2, if_neg h2, if_neg (by omega)]
end
theorem nodup_len : ∀ (N : Nat) (ls : List Int), ls.Nodup → (∀ x ∈ ls, 0 ≤ x ∧ x < (N : Int)) → ls.length ≤ N
  | 0, ls, _, h => by
    cases ls with
    | nil => simp
    | cons a ls => have := h a (by simp); omega
  | N + 1, ls, hn, h => by
    by_cases hm : (N : Int) ∈ ls
    · obtain ⟨a, b, rfl⟩ := List.append_of_mem hm
      have h1 : (a ++ b).Nodup := by
        have := List.nodup_append.mp hn
        have h2 := List.nodup_cons.mp this.2.1
        exact List.nodup_append.mpr ⟨this.1, h2.2, fun x hx y hy => this.2.2 x hx y (by simp [hy])⟩
      have h3 : ∀ x ∈ a ++ b, x ≠ (N : Int) := by
        have := List.nodup_append.mp hn
        have h2 := List.nodup_cons.mp this.2.1
        intro x hx e
        subst e
        rcases List.mem_append.mp hx with g | g
        · exact this.2.2 _ g _ (by simp) rfl
        · exact h2.1 g
      have := nodup_len N (a ++ b) h1 (fun x hx => by
        have g := h x (by rcases List.mem_append.mp hx with g | g <;> simp [g])
        have := h3 x hx
        omega)
      simp at this ⊢; omega
    · have := nodup_len N ls hn (fun x hx => by
        have g := h x hx
        have : x ≠ (N : Int) := fun e => hm (e ▸ hx)
        omega)
      omega
open Classical in
/-- Which cells are reached from a list of starts, or are in a list. -/
noncomputable def tkB (c : Int) (l : List Int) (L : List Nat) (ls : List Int) : List Bool := (List.range l.length).map fun x => decide ((∃ s ∈ L, Rch c l s x) ∨ (x : Int) ∈ ls)
open Classical in
noncomputable def indL (l ls : List Int) : List Int := (List.range l.length).map fun (x : Nat) => if (x : Int) ∈ ls then 1 else 0
section
variable {c : Int} {l : List Int}
theorem stsL_t (h : onP l i) (hn : ∀ s ∈ stsL c l i, ¬ Rch c l s i) : stsL c l (i + 1) = stsL c l i ++ [i] := by
  conv => lhs; unfold stsL
  rw [if_pos ⟨h, hn⟩]
theorem stsL_f (h : ¬ (onP l i ∧ ∀ s ∈ stsL c l i, ¬ Rch c l s i)) : stsL c l (i + 1) = stsL c l i := by
  conv => lhs; unfold stsL
  rw [if_neg h]
theorem tkB_len {L : List Nat} : (tkB c l L ls).length = l.length := by simp [tkB]
theorem indL_len : (indL l ls).length = l.length := by simp [indL]
/-- A flood that has come to its end. -/
theorem flood_end (hi : (i : Int) ∈ ls) (sd : ∀ x ∈ ls, ∃ k : Nat, x = (k : Int) ∧ Rch c l i k) (cl : ∀ x y : Nat, (x : Int) ∈ ls → nbP c x y → onP l y → (y : Int) ∈ ls) (x : Nat) : (x : Int) ∈ ls ↔ Rch c l i x := by
  refine Rch_set (C := fun x : Nat => (x : Int) ∈ ls) hi (fun y hy => ?_) (fun y z h1 h2 h3 => cl y z h1 h2 h3) x
  obtain ⟨k, hk, hr⟩ := sd _ hy
  have : y = k := by omega
  subst this; exact hr
theorem tkB_end {L : List Nat} (h : ∀ x : Nat, (x : Int) ∈ ls ↔ Rch c l i x) : tkB c l L ls = tkB c l (L ++ [i]) [] := by
  unfold tkB
  apply List.map_congr_left
  intro x _
  apply decide_eq_decide.mpr
  rw [h x]
  constructor
  · rintro (⟨s, h1, h2⟩ | h1)
    · exact .inl ⟨s, by simp [h1], h2⟩
    · exact .inl ⟨i, by simp, h1⟩
  · rintro (⟨s, h1, h2⟩ | h1)
    · rcases List.mem_append.mp h1 with h1 | h1
      · exact .inl ⟨s, h1, h2⟩
      · simp only [List.mem_singleton] at h1; subst h1; exact .inr h2
    · simp at h1
theorem indL_end (h : ∀ x : Nat, (x : Int) ∈ ls ↔ Rch c l i x) : indL l ls = aloL c l i := by
  unfold indL aloL
  apply List.map_congr_left
  intro x _
  by_cases g : Rch c l i x
  · rw [if_pos ((h x).mpr g), if_pos g]
  · rw [if_neg (fun q => g ((h x).mp q)), if_neg g]
end
end Go.Proofs.YtnijdhlmimemcaaGreatDoor
/- Parts of a field, by plain law: the rounds of a flood; parts and places. -/
namespace Go.Proofs.YtnijdhlmimemcaaGreatDoor
open HL
variable {r c row col p q xv : Int} {y : Nat} {ls : List Int}
set_option maxRecDepth 100000
/-- A flood from i: what is in the list, when t of it are told. -/
def flP (c : Int) (l : List Int) (i : Nat) (ls : List Int) (t : Nat) : Prop := (i : Int) ∈ ls ∧ (∀ x ∈ ls, ∃ k : Nat, x = (k : Int) ∧ Rch c l i k) ∧ ls.Nodup ∧ t ≤ ls.length ∧ ∀ x y : Nat, (x : Int) ∈ ls.take t → nbP c x y → onP l y → (y : Int) ∈ ls
/-- The cells around a place that come ahead of another are in the list. -/
def nbD (c : Int) (l ls : List Int) (row col a b : Int) : Prop := ∀ y : Nat, (row - (y : Int) / c ≤ 1 ∧ (y : Int) / c - row ≤ 1) → (col - (y : Int) % c ≤ 1 ∧ (y : Int) % c - col ≤ 1) → onP l y → ((y : Int) / c < a ∨ ((y : Int) / c = a ∧ (y : Int) % c < b)) → (y : Int) ∈ ls
theorem rc_bnd {x : Int} (hc : 1 ≤ c) (x0 : 0 ≤ x) (x1 : x < r * c) (hr : row = x / c) (hq : col = x % c) : 0 ≤ row ∧ row < r ∧ 0 ≤ col ∧ col < c := by
  subst hr hq
  exact ⟨Int.ediv_nonneg x0 (by omega), Int.ediv_lt_of_lt_mul (by omega) x1, Int.emod_nonneg _ (by omega), Int.emod_lt_of_pos _ (by omega)⟩
theorem pq_dm (p0 : 0 ≤ p) (p1 : p ≤ r - 1) (q0 : 0 ≤ q) (q1 : q ≤ c - 1) : (0 ≤ p * c + q ∧ p * c + q < r * c) ∧ (0 ≤ p * c ∧ p * c ≤ r * c) ∧ (p * c + q) / c = p ∧ (p * c + q) % c = q := by
  have a := Int.mul_nonneg p0 (show 0 ≤ c by omega)
  have b := Int.mul_le_mul_of_nonneg_right (show p + 1 ≤ r by omega) (show 0 ≤ c by omega)
  rw [Int.add_mul, Int.one_mul] at b
  refine ⟨⟨by omega, by omega⟩, ⟨a, by omega⟩, ?_, ?_⟩
  · rw [Int.add_comm, Int.add_mul_ediv_right _ _ (by omega), Int.ediv_eq_zero_of_lt q0 (by omega), Int.zero_add]
  · rw [Int.add_comm, Int.add_mul_emod_self_right]; exact Int.emod_eq_of_lt q0 (by omega)
section
variable {c : Int} {l ls : List Int} {i t : Nat}
theorem flP_start (h : onP l i) : flP c l i [(i : Int)] 0 :=
  ⟨by simp, fun x hx => ⟨i, by simpa using hx, .base h⟩, by simp, by simp, fun x y hx => by simp at hx⟩
theorem flP_len (h : flP c l i ls t) : ls.length ≤ l.length ∧ ∀ x ∈ ls, 0 ≤ x ∧ x < (l.length : Int) := by
  have hb : ∀ x ∈ ls, 0 ≤ x ∧ x < (l.length : Int) := fun x hx => by
    obtain ⟨k, rfl, hr⟩ := h.2.1 x hx
    have := hr.on.1.1
    omega
  exact ⟨nodup_len _ _ h.2.2.1 hb, hb⟩
/-- One more cell. -/
theorem flP_put {x : Nat} (h : flP c l i ls t) (hx : (x : Int) ∈ ls) (hn : nbP c x y) (hy : onP l y) (hy2 : (y : Int) ∉ ls) : flP c l i (ls ++ [(y : Int)]) t := by
  obtain ⟨h1, h2, h3, h4, h5⟩ := h
  refine ⟨by simp [h1], fun z hz => ?_, ?_, by simp; omega, fun z w hz hw ho => ?_⟩
  · rcases List.mem_append.mp hz with hz | hz
    · exact h2 z hz
    · simp only [List.mem_singleton] at hz
      obtain ⟨k, hk, hr⟩ := h2 _ hx
      have : x = k := by omega
      subst this
      exact ⟨y, hz, hr.step hn hy⟩
  · exact List.nodup_append.mpr ⟨h3, by simp, fun a ha b hb => by
      simp only [List.mem_singleton] at hb
      subst hb
      exact fun e => hy2 (e ▸ ha)⟩
  · rw [List.take_append_of_le_length h4] at hz
    exact List.mem_append_left _ (h5 z w hz hw ho)
/-- A cell whose neighbours are all told. -/
theorem flP_next (h : flP c l i ls t) (ht : t < ls.length) {row col : Int} (hr : row = at_ 0 ls (t : Int) / c) (hc : col = at_ 0 ls (t : Int) % c) (hd : nbD c l ls row col (row + 2) 0) : flP c l i ls (t + 1) := by
  obtain ⟨h1, h2, h3, h4, h5⟩ := h
  refine ⟨h1, h2, h3, by omega, fun x y hx hn ho => ?_⟩
  rw [take_at 0 ls ht] at hx
  rcases List.mem_append.mp hx with hx | hx
  · exact h5 x y hx hn ho
  · simp only [List.mem_singleton] at hx
    have hn1 := hn.1
    have hn2 := hn.2
    rw [hx] at hn1 hn2
    rw [← hr] at hn1
    rw [← hc] at hn2
    exact hd y hn1 hn2 ho (.inl (by omega))
theorem nbD_app {a b z : Int} (h : nbD c l ls row col a b) : nbD c l (ls ++ [z]) row col a b := fun y h1 h2 h3 h4 => List.mem_append_left _ (h y h1 h2 h3 h4)
/-- The next place in a row: told, or no cell of 1. -/
theorem nbD_next (h : nbD c l ls row col p q) (hy : ∀ y : Nat, (y : Int) / c = p → (y : Int) % c = q → onP l y → (y : Int) ∈ ls) : nbD c l ls row col p (q + 1) := fun y h1 h2 h3 h4 => by
  by_cases e : (y : Int) / c = p ∧ (y : Int) % c = q
  · exact hy y e.1 e.2 h3
  · exact h y h1 h2 h3 (by omega)
theorem nbD_row (h : nbD c l ls row col p (col + 2)) (b : Int) (hb : b ≤ col - 1) : nbD c l ls row col (p + 1) b := fun y h1 h2 h3 h4 => by
  refine h y h1 h2 h3 ?_
  omega
theorem nbD_zero : nbD c l ls row col (row - 1) (col - 1) := fun y h1 h2 h3 h4 => by omega
end
section
variable {c : Int} {l : List Int}
theorem stsL_len (i : Nat) : (stsL c l i).length ≤ i := by
  induction i with
  | zero => simp [stsL]
  | succ i ih =>
    unfold stsL; split
    · rw [List.length_append, List.length_singleton]; omega
    · omega
open Classical in
theorem tkB_at {L : List Nat} (hy : y < l.length) : at_ false (tkB c l L ls) (y : Int) = decide ((∃ s ∈ L, Rch c l s y) ∨ (y : Int) ∈ ls) := by
  rw [at_eq false _ (by rw [tkB_len]; exact hy)]
  unfold tkB
  rw [List.getElem_map]
  exact decide_eq_decide.mpr (by rw [List.getElem_range])
open Classical in
theorem tkB_t {L : List Nat} (hy : y < l.length) (h : at_ false (tkB c l L ls) (y : Int) = true) : (∃ s ∈ L, Rch c l s y) ∨ (y : Int) ∈ ls := by
  rw [tkB_at hy] at h; exact of_decide_eq_true h
open Classical in
theorem tkB_f {L : List Nat} (hy : y < l.length) (h : at_ false (tkB c l L ls) (y : Int) = false) : (∀ s ∈ L, ¬ Rch c l s y) ∧ (y : Int) ∉ ls := by
  rw [tkB_at hy] at h
  have := of_decide_eq_false h
  exact ⟨fun s h1 h2 => this (.inl ⟨s, h1, h2⟩), fun h1 => this (.inr h1)⟩
theorem tkB_set {L : List Nat} (hy : y < l.length) : (tkB c l L ls).set y true = tkB c l L (ls ++ [(y : Int)]) := by
  apply List.ext_getElem
  · rw [List.length_set, tkB_len, tkB_len]
  · intro j h1 h2
    simp only [tkB, List.getElem_set, List.getElem_map, List.getElem_range]
    by_cases e : y = j
    · subst e; rw [if_pos rfl]; simp
    · rw [if_neg e]
      apply decide_eq_decide.mpr
      have er : (List.range l.length)[j]'(by simpa [tkB_len] using h2) = j := List.getElem_range _
      rw [er]
      constructor
      · rintro (h | h)
        · exact .inl h
        · exact .inr (List.mem_append_left _ h)
      · rintro (h | h)
        · exact .inl h
        · rcases List.mem_append.mp h with h | h
          · exact .inr h
          · simp only [List.mem_singleton] at h; omega
theorem indL_set {t : Nat} (ht : t < ls.length) (h0 : 0 ≤ at_ 0 ls (t : Int)) (h1 : at_ 0 ls (t : Int) < l.length) : (indL l (ls.take t)).set (at_ 0 ls (t : Int)).toNat 1 = indL l (ls.take (t + 1)) := by
  obtain ⟨y, hy⟩ := Int.eq_ofNat_of_zero_le h0
  rw [take_at 0 ls ht, hy]
  apply List.ext_getElem
  · rw [List.length_set, indL_len, indL_len]
  · intro j g1 g2
    simp only [indL, List.getElem_set, List.getElem_map, List.getElem_range, Int.toNat_natCast]
    by_cases e : y = j
    · subst e; rw [if_pos rfl, if_pos (by simp)]
    · rw [if_neg e]
      by_cases m : (j : Int) ∈ ls.take t
      · rw [if_pos m, if_pos (by simp [m])]
      · rw [if_neg m, if_neg (by simp [m]; omega)]
theorem indL_nil : indL l [] = List.replicate l.length 0 := by
  apply List.ext_getElem
  · rw [indL_len, List.length_replicate]
  · intro j g1 g2
    simp [indL]
end
section
variable {c : Int} {l ls : List Int} {i t : Nat}
/-- A neighbour that is found is put behind the others. -/
theorem flP_found {y : Int} (h : flP c l i ls t) (ht : t < ls.length) (hx : at_ 0 ls (t : Int) = xv) (hr : row = xv / c) (hc : col = xv % c) (y0 : 0 ≤ y) (y1 : y < l.length) (hp : y / c = p) (hq : y % c = q) (rp : row - p ≤ 1 ∧ p - row ≤ 1) (cq : col - q ≤ 1 ∧ q - col ≤ 1) (on : at_ 0 l y = 1) (L : List Nat) (nt : at_ false (tkB c l L ls) y = false) (hd : nbD c l ls row col p q) :
    flP c l i (ls ++ [y]) t ∧ t < (ls ++ [y]).length ∧ (ls ++ [y]).take (t + 1) = ls.take (t + 1) ∧ at_ 0 (ls ++ [y]) (t : Int) = xv ∧ nbD c l (ls ++ [y]) row col p (q + 1) ∧ (tkB c l L ls).set y.toNat true = tkB c l L (ls ++ [y]) := by
  obtain ⟨Y, rfl⟩ := Int.eq_ofNat_of_zero_le y0
  have hm : xv ∈ ls := hx ▸ at_mem 0 ls (by omega) (by omega)
  obtain ⟨X, hX, _⟩ := h.2.1 xv hm
  have oY : onP l Y := ⟨by omega, on⟩
  have nY := (tkB_f (L := L) (by omega) nt).2
  have hn : nbP c X Y := by
    unfold nbP
    rw [← hX, ← hr, ← hc, hp, hq]
    exact ⟨rp, cq⟩
  refine ⟨flP_put h (x := X) (by rw [← hX]; exact hm) hn oY nY, by simp; omega, List.take_append_of_le_length (by omega), ?_, nbD_next (nbD_app hd) (fun z hz1 hz2 _ => ?_), by rw [Int.toNat_natCast]; exact tkB_set (by omega)⟩
  · rw [at_eq 0 _ (by simp; omega), List.getElem_append_left ht, ← at_eq 0 ls ht]; exact hx
  · have e1 := Int.emod_add_mul_ediv (z : Int) c
    have e2 := Int.emod_add_mul_ediv (Y : Int) c
    rw [hz1, hz2] at e1
    rw [hp, hq] at e2
    have : (z : Int) = (Y : Int) := by rw [← e1, ← e2]
    rw [this]; simp
/-- A place that is no cell of 1, taken, or out of the field. -/
theorem nbD_skip {L : List Nat} (hd : nbD c l ls row col p q) (hL : ∀ s ∈ L, ∀ y : Nat, (y : Int) / c = p → (y : Int) % c = q → onP l y → Rch c l s y → (y : Int) ∈ ls) (h : ∀ y : Nat, (y : Int) / c = p → (y : Int) % c = q → onP l y → at_ false (tkB c l L ls) (y : Int) = true) : nbD c l ls row col p (q + 1) :=
  nbD_next hd (fun y h1 h2 h3 => by
    rcases tkB_t h3.1 (h y h1 h2 h3) with ⟨s, g1, g2⟩ | g
    · exact hL s g1 y h1 h2 h3 g2
    · exact g)
end
section
variable {c : Int} {l ls : List Int} {i t : Nat}
theorem nbD_skip2 (h : flP c l i ls t) (ht : t < ls.length) (hx : at_ 0 ls (t : Int) = xv) (hr : row = xv / c) (hc : col = xv % c) (rp : row - p ≤ 1 ∧ p - row ≤ 1) (cq : col - q ≤ 1 ∧ q - col ≤ 1) (L : List Nat) (hnr : ∀ s ∈ L, ¬ Rch c l s i) (hd : nbD c l ls row col p q)
    (hs : ∀ y : Nat, (y : Int) / c = p → (y : Int) % c = q → onP l y → at_ false (tkB c l L ls) (y : Int) = true) : nbD c l ls row col p (q + 1) := by
  refine nbD_skip (L := L) hd (fun s hsL y h1 h2 h3 h4 => ?_) hs
  have hm : xv ∈ ls := hx ▸ at_mem 0 ls (by omega) (by omega)
  obtain ⟨X, hX, hX2⟩ := h.2.1 xv hm
  have hn : nbP c X y := by
    unfold nbP
    rw [← hX, ← hr, ← hc, h1, h2]
    exact ⟨rp, cq⟩
  exact absurd ((h4.step (nbP_symm hn) hX2.on.1).trans hX2.symm) (hnr s hsL)
end
end Go.Proofs.YtnijdhlmimemcaaGreatDoor
/- Parts of a field, by plain law: the parts and their places. -/
namespace Go.Proofs.YtnijdhlmimemcaaGreatDoor
open HL
set_option maxRecDepth 100000
noncomputable def prtF (r c : Int) (l : List Int) (s : Nat) : FdL := ⟨trR r c (aloL c l s), trC r c (aloL c l s), trL r c (aloL c l s)⟩
noncomputable def prtL (r c : Int) (l : List Int) (L : List Nat) : List FdL := L.map (prtF r c l)
noncomputable def plcL (r c : Int) (l : List Int) (L : List Nat) : List Int := L.flatMap fun s => [(trm r c (aloL c l s)).1, (trm r c (aloL c l s)).2.2.1]
section
variable {r c : Int} {l : List Int} {L : List Nat}
theorem prtL_len : (prtL r c l L).length = L.length := by simp [prtL]
theorem plcL_len : (plcL r c l L).length = 2 * L.length := by
  induction L with
  | nil => rfl
  | cons a L ih => simp only [plcL, List.flatMap_cons, List.length_append, List.length_cons, List.length_nil] at ih ⊢; omega
theorem prtL_snoc (s : Nat) : prtL r c l L ++ [⟨trR r c (aloL c l s), trC r c (aloL c l s), trL r c (aloL c l s)⟩] = prtL r c l (L ++ [s]) := by simp [prtL, prtF]
theorem plcL_snoc (s : Nat) : plcL r c l L ++ [(trm r c (aloL c l s)).1, (trm r c (aloL c l s)).2.2.1] = plcL r c l (L ++ [s]) := by simp [plcL]
theorem trS_pos {m : List Int} (hs : sidesF r c) {x : Nat} (hx : at_ 0 m (x : Int) = 1) : ∀ d : Nat, 0 ≤ (trS r c m (x + 1 + d)).2.1
  | 0 => by
    rw [Nat.add_zero, trS_t hx]
    have : 0 ≤ (x : Int) / c := Int.ediv_nonneg (by omega) (by have := hs.2; omega)
    show 0 ≤ max _ _
    omega
  | d + 1 => by
    have ih := trS_pos hs hx d
    rw [show x + 1 + (d + 1) = (x + 1 + d) + 1 by omega]
    by_cases h : at_ 0 m ((x + 1 + d : Nat) : Int) = 1
    · rw [trS_t h]
      show 0 ≤ max _ _
      omega
    · rw [trS_f h]; exact ih
theorem alo_pos {s : Nat} (hs : sidesF r c) (hl : (l.length : Int) = r * c) (h : onP l s) : 0 ≤ (trm r c (aloL c l s)).2.1 := by
  have e : at_ 0 (aloL c l s) (s : Int) = 1 := by
    rw [at_eq 0 _ (by rw [aloL_len]; exact h.1)]
    unfold aloL
    rw [List.getElem_map, List.getElem_range, if_pos (.base h)]
  have := trS_pos hs e ((r * c).toNat - (s + 1))
  have h1 := h.1
  rw [show s + 1 + ((r * c).toNat - (s + 1)) = (r * c).toNat by omega] at this
  exact this
theorem tkB_zero : tkB c l (stsL c l 0) [] = List.replicate l.length false := by
  apply List.ext_getElem
  · rw [tkB_len, List.length_replicate]
  · intro j g1 g2
    simp [tkB, stsL]
end
end Go.Proofs.YtnijdhlmimemcaaGreatDoor
/- Parts of fields: the program's and the reference's. -/
namespace Go.Proofs.YtnijdhlmimemcaaGreatDoor
open HL
set_option maxRecDepth 100000
set_option maxHeartbeats 2000000 in
theorem C.c78 {p vc : Value} {r c : Int} {l : List Int}  {H : Hp} {K : Value → Hp → Prop} (hp0 : Cel H p [(.int .i64 (r)), (.int .i64 (c)), vc]) (hvc0 : Sl eI H vc l) (hf : fieldN 1 r c l)
    (hk : ∀ u1 Su1 u2 H', Fam H' u1 Su1 (prtL r c l (stsL c l l.length)) → Own eI H' u2 (plcL r c l (stsL c l l.length)) → Nws H Su1 → Nw H u2 → Apt Su1 u2 → Le H H' → K (.tuple #[u1, u2]) H') : HT prg 71 [p].toArray H K := by
 have lE := Le.refl H
 refine R.q71 ?_
 unfold F.q71
 have hs := hf.1
 have hl := hf.2.1
 have q1 := hs.1
 have q2 := hs.2
 have qm := sidesF_mul hs
 have hlN : l.length = r.toNat * c.toNat := by have e := congrArg Int.toNat hl; rw [Int.toNat_natCast, Int.toNat_mul (by omega) (by omega)] at e; exact e
 refine ob_i ((hp0.le lE).nilC) (ob_i ((hp0.le lE).fa 2) (ob_i ((hp0.le lE).ld 2 rfl) (ob_i ((hvc0.le lE).len) (Own.mk_ (z := (false : Bool)) (by omega) (by omega) (by omega) (by omega) (fun tk H1 otk nn2 le3 => ?_)))))
 have ntk := nn2.le lE
 refine bSE_fam (fun ps Sps H4 ops nn5 le7 => ?_)
 have atkXps : Apt tk Sps := Apt.of_nws otk.known nn5
 replace lE := lE.trans le3
 have nps : Nws H Sps := nn5.le lE
 refine bS_nil (enc := eI) (fun pl H8 opl nn9 kk10 le11 => ?_)
 replace otk := otk.le le7
 have atkXpl := otk.apart nn9
 have apsXpl : Apt Sps pl := Apt.of_nw ops.known nn9
 replace lE := lE.trans le7
 have npl := nn9.le lE
 refine jn_i (fun σ' H' => ∃ ps, ∃ Sps, ∃ pl, σ' 5 = ps ∧ σ' 6 = pl ∧ Fam H' ps Sps (prtL r c l (stsL c l l.length)) ∧ Own eI H' pl (plcL r c l (stsL c l l.length)) ∧ Nws H Sps ∧ Nw H pl ∧ Apt Sps pl ∧ Le H H') (fun σ12 H12 hP => ?_) (fun J12 hJ12 => ?_)
 replace ops := ops.le le11
 replace lE := lE.trans le11
 obtain ⟨ps, Sps, pl, g5L12, g6L12, ops, opl, nps, npl, apsXpl, lE⟩ := hP
 try simp only [g5L12, g6L12]
 exact hk  ps _ pl _ ops opl nps npl apsXpl lE
 replace lE := lE.trans le11
 refine ob_i ((hp0.le lE).nilC) (ob_i ((hp0.le lE).fa 2) (ob_i ((hp0.le lE).ld 2 rfl) (ob_i ((hvc0.le lE).len) ?_)))
 replace otk := otk.le le11
 replace ops := ops.le le11
 refine ⟨fun n' σ' H' => ∃ i : Nat, n' = l.length - i ∧ i ≤ l.length ∧ ∃ ps, ∃ Sps, ∃ pl, σ' 0 = p ∧ σ' 4 = tk ∧ σ' 5 = ps ∧ σ' 6 = pl ∧ σ' 32 = (.int .i64 (((l).length : Int))) ∧ σ' 33 = (.int .i64 ((i : Int))) ∧ Own eB H' tk (tkB c l (stsL c l i) []) ∧ Fam H' ps Sps (prtL r c l (stsL c l i)) ∧ Own eI H' pl (plcL r c l (stsL c l i)) ∧ Nws H Sps ∧ Apt tk Sps ∧ Nw H pl ∧ Apart tk pl ∧ Apt Sps pl ∧ Le H H',
    ⟨_, 0, rfl, by omega, ps, Sps, pl, rfl, rfl, rfl, rfl, rfl, (congrArg (Value.int .i64) (by first | omega | rfl | (simp; done))), (Own.cast (by rw [tkB_zero]; simp) otk), (Fam.cast (by rfl) ops), (Own.cast (by rfl) opl), nps, atkXps, npl, atkXpl, apsXpl, lE⟩, ?_⟩
 rintro n13 σ13 H13 ⟨i, rfl, hiN, ps, Sps, pl, g0L13, g4L13, g5L13, g6L13, g32L13, g33L13, otk, ops, opl, nps, atkXps, npl, atkXpl, apsXpl, lE⟩
 try simp only [g0L13, g4L13, g5L13, g6L13, g32L13, g33L13]
 have tl := tkB_len (c := c) (l := l) (L := (stsL c l i)) (ls := [])
 have pl1 := prtL_len (r := r) (c := c) (l := l) (L := (stsL c l i))
 have pl2 := plcL_len (r := r) (c := c) (l := l) (L := (stsL c l i))
 have sl := stsL_len (c := c) (l := l) i
 refine ob_i (vInt_lss _ _ _) (cnd_d (fun hg14 => ?_) (fun hg14 => ?_))
 have ti := hg14
 refine jn_i (fun σ' H' => ∃ ps, ∃ Sps, ∃ pl, σ' 0 = p ∧ σ' 4 = tk ∧ σ' 5 = ps ∧ σ' 6 = pl ∧ σ' 32 = (.int .i64 (((l).length : Int))) ∧ σ' 33 = (.int .i64 ((i : Int))) ∧ Own eB H' tk (tkB c l (stsL c l (i + 1)) []) ∧ Fam H' ps Sps (prtL r c l (stsL c l (i + 1))) ∧ Own eI H' pl (plcL r c l (stsL c l (i + 1))) ∧ Nws H Sps ∧ Apt tk Sps ∧ Nw H pl ∧ Apart tk pl ∧ Apt Sps pl ∧ Le H H') (fun σ15 H15 hP => ?_) (fun J15 hJ15 => ?_)
 obtain ⟨ps, Sps, pl, g0L15, g4L15, g5L15, g6L15, g32L15, g33L15, otk, ops, opl, nps, atkXps, npl, atkXpl, apsXpl, lE⟩ := hP
 try simp only [g33L15]
 refine ob_i (vInt_add (by omega) (by omega)) ?_
 exact nxt (l.length - (i + 1)) (by omega) ⟨i + 1, rfl, by omega, ps, Sps, pl, g0L15, g4L15, g5L15, g6L15, g32L15, (congrArg (Value.int .i64) (by first | omega | rfl | (simp; done))), otk, ops, opl, nps, atkXps, npl, atkXpl, apsXpl, lE⟩
 refine ob_i ((hp0.le lE).nilC) (ob_i ((hp0.le lE).fa 2) (ob_i ((hp0.le lE).ld 2 rfl) (ob_i ((hvc0.le lE).ix (by omega) (by omega)) (ob_i ((hvc0.le lE).ld 0 (by omega) (by omega)) (ob_i (vInt_neq _ _ _) ?_)))))
 by_cases hc16 : (at_ 0 (l) ((i : Int))) ≠ 1
 refine hT hc16 (hT hc16 (hT hc16 (hT hc16 (ob_i (vPick_et (decide_eq_true hc16) _ _) (cnd_t1 ?_)))))
 have hno : stsL c l (i + 1) = (stsL c l i) := stsL_f (fun g => hc16 g.1.2)
 rw [← hno] at otk ops opl
 exact hJ15 _ _ ⟨ps, Sps, pl, g0L13, g4L13, g5L13, g6L13, g32L13, g33L13, otk, ops, opl, nps, atkXps, npl, atkXpl, apsXpl, lE⟩
 refine gF hc16 (gF hc16 (gF hc16 (ob_i (otk.sl.ix (by omega) (by omega)) (gF hc16 (ob_i (otk.sl.ld false (by omega) (by omega)) (ob_i (vPick_ef (decide_eq_false hc16) _ _) (cnd_i (fun hg17 => ?_) (fun hg17 => ?_))))))))
 have hno : stsL c l (i + 1) = (stsL c l i) := stsL_f (fun g => (tkB_t (by omega) hg17).elim (fun ⟨s, h1, h2⟩ => g.2 s h1 h2) (fun h1 => by simp at h1))
 rw [← hno] at otk ops opl
 exact hJ15 _ _ ⟨ps, Sps, pl, g0L13, g4L13, g5L13, g6L13, g32L13, g33L13, otk, ops, opl, nps, atkXps, npl, atkXpl, apsXpl, lE⟩
 refine ob_i ((hp0.le lE).nilC) (ob_i ((hp0.le lE).fa 0) (ob_i ((hp0.le lE).ld 0 rfl) (ob_i ((hp0.le lE).nilC) (ob_i ((hp0.le lE).fa 1) (ob_i ((hp0.le lE).ld 1 rfl) ?_)))))
 have hon : onP l i := ⟨by omega, Decidable.not_not.mp hc16⟩
 have hnr : ∀ s ∈ (stsL c l i), ¬ Rch c l s i := (tkB_f (by omega) (by first | exact hg17 | exact Bool.eq_false_iff.mpr hg17)).1
 refine C.c23 (by first | omega | assumption) (by first | omega | assumption) (by first | omega | assumption) (by first | omega | assumption) (fun  ac H18 oac nn20  le19 => ?_)
 have atkXac := otk.apart nn20
 have apsXac : Apt Sps ac := Apt.of_nw ops.known nn20
 have aplXac := opl.apart nn20
 have nac := nn20.le lE
 refine ⟨le19, ?_⟩
 refine nw_i (fun al H21 oal nn22 le23 => ?_)
 replace otk := otk.le le19
 have atkXal := otk.apart nn22
 replace ops := ops.le le19
 have apsXal : Apt Sps al := Apt.of_nw ops.known nn22
 replace opl := opl.le le19
 have aplXal := opl.apart nn22
 have aacXal := oac.apart nn22
 replace lE := lE.trans le19
 have nal := nn22.le lE
 replace oac := oac.le le23
 refine oal.stn (ws := [(.int .i64 (r)), (.int .i64 (c)), ac]) rfl rfl (oc1 rfl (oc1 rfl (oc1 oac.one oc0))) (fun H24 oal off25 => ?_)
 refine bS_i (enc := eI) (l := [(i : Int)]) (by omega) rfl (by kernel_rfl) (fun q9 H26 oq9 nn27 le29 => ?_)
 replace otk := (otk.le le23).off off25 atkXal
 have atkXq9 := otk.apart nn27
 replace ops := (ops.le le23).off off25 apsXal
 have apsXq9 : Apt Sps q9 := Apt.of_nw ops.known nn27
 replace opl := (opl.le le23).off off25 aplXal
 have aplXq9 := opl.apart nn27
 replace oac := oac.off off25 aacXal
 have aacXq9 := oac.apart nn27
 have aalXq9 := oal.apart nn27
 replace lE := off25.le (lE.trans le23) nal
 have nq9 := nn27.le lE
 replace otk := otk.le le29
 refine ob_i (otk.sl.ix (by omega) (by omega)) (otk.st (x := true) (by omega) (by omega) rfl rfl (fun H30 otk off31 => ?_))
 refine jn_i (fun σ' H' => σ' 0 = p ∧ σ' 4 = tk ∧ σ' 5 = ps ∧ σ' 6 = pl ∧ σ' 8 = al ∧ σ' 32 = (.int .i64 (((l).length : Int))) ∧ σ' 33 = (.int .i64 ((i : Int))) ∧ Own eB H' tk (tkB c l ((stsL c l i) ++ [i]) []) ∧ Fam H' ps Sps (prtL r c l (stsL c l i)) ∧ Own eI H' pl (plcL r c l (stsL c l i)) ∧ Own eI H' ac (aloL c l i) ∧ Cel H' al [(.int .i64 (r)), (.int .i64 (c)), ac] ∧ Le H H') (fun σ32 H32 hP => ?_) (fun J32 hJ32 => ?_)
 replace ops := (ops.le le29).off off31 atkXps.symm
 replace opl := (opl.le le29).off off31 atkXpl.symm
 replace oac := (oac.le le29).off off31 atkXac.symm
 replace oal := (oal.le le29).off off31 atkXal.symm
 replace lE := off31.le (lE.trans le29) ntk
 obtain ⟨g0L32, g4L32, g5L32, g6L32, g8L32, g32L32, g33L32, otk, ops, opl, oac, oal, lE⟩ := hP
 try simp only [g5L32, g6L32, g8L32]
 have hpos : ¬ (trm r c (aloL c l i)).2.1 < 0 := by have := alo_pos hs hl hon; omega
 refine C.c30 oal oac.sl (by first | omega | assumption) (by rw [aloL_len]; exact hl) (fun hc33  H34    le35 => ?_) (fun hc36 u39 H37 ou39 nn40  le38 => ?_)
 exact absurd hc33 hpos
 have atkXu39 := otk.apart nn40
 have apsXu39 : Apt Sps u39 := Apt.of_nw ops.known nn40
 have aplXu39 := opl.apart nn40
 have nu39 := nn40.le lE
 refine ob_i (vExt_40 _ _ _ _) (ob_i (vExt_41 _ _ _ _) (ob_i (vExt_42 _ _ _ _) (ob_i (vExt_43 _ _ _ _) (nw_i (fun p41 H42 op41 nn43 le44 => ?_)))))
 replace otk := otk.le le38
 have atkXp41 := otk.apart nn43
 replace ops := ops.le le38
 have apsXp41 : Apt Sps p41 := Apt.of_nw ops.known nn43
 replace opl := opl.le le38
 have aplXp41 := opl.apart nn43
 have au39Xp41 := ou39.apart nn43
 replace lE := lE.trans le38
 have np41 := nn43.le lE
 replace ou39 := ou39.le le44
 refine op41.stn (ws := [(.int .i64 (trR r c (aloL c l i))), (.int .i64 (trC r c (aloL c l i))), u39]) rfl rfl (oc1 rfl (oc1 rfl (oc1 ou39.one oc0))) (fun H45 op41 off46 => ?_)
 refine ob_i (op41.ldn rfl) (bSE_one (enc := encFv) (x := (⟨trR r c (aloL c l i), trC r c (aloL c l i), u39⟩ : Fv)) rfl rfl (by omega) (by omega) rfl (fun u47 H48 ou47 nn49 le51 => ?_) rfl)
 replace ops := ((ops.le le44).off off46 apsXp41).le le51
 replace ou39 := (ou39.off off46 au39Xp41).le le51
 refine Fam.push ops rfl (ou47.sl encFv_n) ou39 apsXu39.symm (by omega) (by first | omega | (simp; omega)) (fun u56 Su56 H52 ou56 off53 hb54 hx55 oxu39 => ?_)
 replace otk := ((otk.le le44).off off46 atkXp41).le le51
 have atkXu56 : Apt tk Su56 := Apt.push otk.known atkXps atkXu39 hb54
 replace opl := ((opl.le le44).off off46 aplXp41).le le51
 have aplXu56 : Apt pl Su56 := Apt.push opl.known apsXpl.symm aplXu39 hb54
 replace lE := (off46.le (lE.trans le44) np41).trans le51
 have nu56 : Nws H Su56 := Nws.push lE nps nu39 hb54
 replace ou39 := oxu39.ro
 refine bS_i (enc := eI) (l := [(trm r c (aloL c l i)).1, (trm r c (aloL c l i)).2.2.1]) (by omega) rfl (by kernel_rfl) (fun u57 H58 ou57 nn59 le61 => ?_)
 replace opl := (opl.offS off53 apsXpl.symm).le le61
 refine apd_any opl ou57.sl (fun _ => rfl) (by omega) (by first | omega | (simp only [List.length_cons, List.length_nil, List.length_append, List.length_replicate, List.length_map, List.length_range]; omega)) (fun u65 H62 ou65 off63 hb64 => ?_)
 replace otk := (otk.offS off53 atkXps).le le61
 have atkXu65 := Apart.ap2 otk.known atkXpl hb64
 replace ou56 := ou56.le le61
 have au56Xu65 := Apt.ap2 ou56.known aplXu56.symm hb64
 replace lE := (off53.le lE nps).trans le61
 have nu65 : Nw H u65 := Nw.ap2 npl lE hb64
 have hyes : stsL c l (i + 1) = (stsL c l i) ++ [i] := stsL_t hon hnr
 replace otk := otk.off off63 atkXpl
 replace ou56 := ou56.off off63 aplXu56.symm
 replace lE := off63.le lE npl
 exact hJ15 _ _ ⟨u56, Su56, u65, g0L32, g4L32, rfl, rfl, g32L32, g33L32, (Own.cast (by rw [hyes]) otk), (Fam.cast (by rw [hyes]; exact prtL_snoc i) ou56), (Own.cast (by rw [hyes]; exact plcL_snoc i) ou65), nu56, atkXu56, nu65, atkXu65, au56Xu65, lE⟩
 replace ops := (ops.le le29).off off31 atkXps.symm
 replace opl := (opl.le le29).off off31 atkXpl.symm
 replace oac := (oac.le le29).off off31 atkXac.symm
 replace oal := (oal.le le29).off off31 atkXal.symm
 replace lE := off31.le (lE.trans le29) ntk
 replace oq9 := oq9.off off31 atkXq9.symm
 refine ⟨fun n' σ' H' => ∃ t : Nat, n' = l.length - t ∧ t ≤ l.length ∧ ∃ q9, ∃ ls : List Int, σ' 0 = p ∧ σ' 4 = tk ∧ σ' 5 = ps ∧ σ' 6 = pl ∧ σ' 8 = al ∧ σ' 9 = q9 ∧ σ' 10 = (.int .i64 ((t : Int))) ∧ σ' 32 = (.int .i64 (((l).length : Int))) ∧ σ' 33 = (.int .i64 ((i : Int))) ∧ Own eB H' tk (tkB c l (stsL c l i) ls) ∧ Fam H' ps Sps (prtL r c l (stsL c l i)) ∧ Own eI H' pl (plcL r c l (stsL c l i)) ∧ Own eI H' ac (indL l (ls.take t)) ∧ Cel H' al [(.int .i64 (r)), (.int .i64 (c)), ac] ∧ Own eI H' q9 (ls) ∧ Nw H q9 ∧ Apart tk q9 ∧ Apt Sps q9 ∧ Apart pl q9 ∧ Apart ac q9 ∧ Apart al q9 ∧ Le H H' ∧ flP c l i ls t,
    ⟨_, 0, rfl, by omega, q9, [(i : Int)], g0L13, g4L13, g5L13, g6L13, rfl, rfl, (congrArg (Value.int .i64) (by first | omega | rfl | (simp; done))), g32L13, g33L13, (Own.cast (tkB_set hon.1) otk), ops, opl, (Own.cast (by rw [List.take_zero, indL_nil, hlN]) oac), oal, (Own.cast (by first | rfl | (simp; done)) oq9), nq9, atkXq9, apsXq9, aplXq9, aacXq9, aalXq9, lE, (flP_start hon)⟩, ?_⟩
 rintro n66 σ66 H66 ⟨t, rfl, htN, q9, ls, g0L66, g4L66, g5L66, g6L66, g8L66, g9L66, g10L66, g32L66, g33L66, otk, ops, opl, oac, oal, oq9, nq9, atkXq9, apsXq9, aplXq9, aacXq9, aalXq9, lE, hfl⟩
 try simp only [g0L66, g4L66, g8L66, g9L66, g10L66]
 have fl2 := flP_len hfl
 have tl2 := tkB_len (c := c) (l := l) (L := (stsL c l i)) (ls := ls)
 have il := indL_len (l := l) (ls := ls.take t)
 refine ob_i (oq9.len) (ob_i (vInt_lss _ _ _) (cnd_d (fun hg67 => ?_) (fun hg67 => ?_)))
 have tt := hg67
 obtain ⟨xs, hxs⟩ : ∃ xs, xs = ls.take (t + 1) := ⟨_, rfl⟩
 have xb := fl2.2 _ (at_mem 0 ls (i := (t : Int)) (by omega) (by omega))
 have ix := indL_set (l := l) (ls := ls) (t := t) (by omega) xb.1 xb.2
 rw [← hxs] at ix
 have rb0 := rc_bnd (r := r) (c := c) (x := at_ 0 ls (t : Int)) (by omega) xb.1 (by omega) rfl rfl
 obtain ⟨xv, hxv0⟩ : ∃ x : Int, x = at_ 0 ls (t : Int) := ⟨_, rfl⟩
 refine jn_i (fun σ' H' => ∃ q9, ∃ ls : List Int, σ' 0 = p ∧ σ' 4 = tk ∧ σ' 5 = ps ∧ σ' 6 = pl ∧ σ' 8 = al ∧ σ' 9 = q9 ∧ σ' 10 = (.int .i64 ((t : Int))) ∧ σ' 32 = (.int .i64 (((l).length : Int))) ∧ σ' 33 = (.int .i64 ((i : Int))) ∧ Own eB H' tk (tkB c l (stsL c l i) ls) ∧ Fam H' ps Sps (prtL r c l (stsL c l i)) ∧ Own eI H' pl (plcL r c l (stsL c l i)) ∧ Own eI H' ac (indL l xs) ∧ Cel H' al [(.int .i64 (r)), (.int .i64 (c)), ac] ∧ Own eI H' q9 (ls) ∧ Nw H q9 ∧ Apart tk q9 ∧ Apt Sps q9 ∧ Apart pl q9 ∧ Apart ac q9 ∧ Apart al q9 ∧ Le H H' ∧ flP c l i ls (t + 1) ∧ ls.take (t + 1) = xs) (fun σ68 H68 hP => ?_) (fun J68 hJ68 => ?_)
 obtain ⟨q9, ls, g0L68, g4L68, g5L68, g6L68, g8L68, g9L68, g10L68, g32L68, g33L68, otk, ops, opl, oac, oal, oq9, nq9, atkXq9, apsXq9, aplXq9, aacXq9, aalXq9, lE, hfn, hx1⟩ := hP
 try simp only [g10L68]
 refine ob_i (vInt_add (by omega) (by omega)) ?_
 exact nxt (l.length - (t + 1)) (by omega) ⟨t + 1, rfl, by omega, q9, _, g0L68, g4L68, g5L68, g6L68, g8L68, g9L68, (congrArg (Value.int .i64) (by first | omega | rfl | (simp; done))), g32L68, g33L68, otk, ops, opl, (Own.cast (by rw [hx1]) oac), oal, oq9, nq9, atkXq9, apsXq9, aplXq9, aacXq9, aalXq9, lE, hfn⟩
 refine ob_i (oal.fa 2) (ob_i (oal.ld 2 rfl) (ob_i (oq9.sl.ix (by omega) (by omega)) (ob_i (oq9.sl.ld 0 (by omega) (by omega)) (ob_i (oac.sl.ix (by omega) (by omega)) (oac.st (x := 1) (by omega) (by omega) rfl rfl (fun H69 oac off70 => ?_))))))
 replace oq9 := oq9.off off70 aacXq9.symm
 refine ob_i (oq9.sl.ix (by omega) (by omega)) (ob_i (oq9.sl.ld 0 (by omega) (by omega)) ?_)
 replace lE := off70.le lE nac
 refine ob_i ((hp0.le lE).nilC) (ob_i ((hp0.le lE).fa 1) (ob_i ((hp0.le lE).ld 1 rfl) (ob_i (vInt_quoN (by omega) (by omega) (by omega)) ?_)))
 obtain ⟨row, hrow⟩ : ∃ x : Int, x = (at_ 0 (ls) ((t : Int))) / c := ⟨_, rfl⟩
 rw [← hrow]
 refine ob_i (oq9.sl.ix (by omega) (by omega)) (ob_i (oq9.sl.ld 0 (by omega) (by omega)) (ob_i ((hp0.le lE).nilC) (ob_i ((hp0.le lE).fa 1) (ob_i ((hp0.le lE).ld 1 rfl) ?_))))
 have rm71 := And.intro (Int.emod_nonneg (at_ 0 (ls) ((t : Int))) (b := c) (by omega)) (Int.emod_lt_of_pos (at_ 0 (ls) ((t : Int))) (b := c) (by omega))
 refine ob_i (vInt_remN (by omega) (by omega)) ?_
 obtain ⟨col, hcol⟩ : ∃ x : Int, x = (at_ 0 (ls) ((t : Int))) % c := ⟨_, rfl⟩
 rw [← hcol]
 refine ob_i (vInt_sub (by omega) (by omega)) ?_
 replace otk := otk.off off70 atkXac
 replace ops := ops.off off70 apsXac
 replace opl := opl.off off70 aplXac
 replace oal := oal.off off70 aacXal.symm
 refine ⟨fun n' σ' H' => ∃ a : Nat, n' = 3 - a ∧ a ≤ 3 ∧ ∃ q9, ∃ ls : List Int, σ' 0 = p ∧ σ' 4 = tk ∧ σ' 5 = ps ∧ σ' 6 = pl ∧ σ' 8 = al ∧ σ' 9 = q9 ∧ σ' 10 = (.int .i64 ((t : Int))) ∧ σ' 11 = (.int .i64 (row)) ∧ σ' 12 = (.int .i64 (col)) ∧ σ' 13 = (.int .i64 (row - 1 + (a : Int))) ∧ σ' 32 = (.int .i64 (((l).length : Int))) ∧ σ' 33 = (.int .i64 ((i : Int))) ∧ Own eB H' tk (tkB c l (stsL c l i) ls) ∧ Fam H' ps Sps (prtL r c l (stsL c l i)) ∧ Own eI H' pl (plcL r c l (stsL c l i)) ∧ Own eI H' ac (indL l xs) ∧ Cel H' al [(.int .i64 (r)), (.int .i64 (c)), ac] ∧ Own eI H' q9 (ls) ∧ Nw H q9 ∧ Apart tk q9 ∧ Apt Sps q9 ∧ Apart pl q9 ∧ Apart ac q9 ∧ Apart al q9 ∧ Le H H' ∧ flP c l i ls t ∧ t < ls.length ∧ ls.take (t + 1) = xs ∧ at_ 0 ls (t : Int) = xv ∧ nbD c l ls row col (row - 1 + (a : Int)) (col - 1),
    ⟨_, 0, rfl, by omega, q9, _, g0L66, g4L66, g5L66, g6L66, g8L66, g9L66, g10L66, rfl, rfl, (congrArg (Value.int .i64) (by first | omega | rfl | (simp; done))), g32L66, g33L66, by simpa using otk, ops, opl, (Own.cast ix oac), oal, (Own.cast (by first | rfl | (simp; done)) oq9), nq9, atkXq9, apsXq9, aplXq9, aacXq9, aalXq9, lE, hfl, (by omega), hxs.symm, hxv0.symm, (by rw [show row - 1 + ((0 : Nat) : Int) = row - 1 by omega]; exact nbD_zero)⟩, ?_⟩
 rintro n72 σ72 H72 ⟨a, rfl, haN, q9, ls, g0L72, g4L72, g5L72, g6L72, g8L72, g9L72, g10L72, g11L72, g12L72, g13L72, g32L72, g33L72, otk, ops, opl, oac, oal, oq9, nq9, atkXq9, apsXq9, aplXq9, aacXq9, aalXq9, lE, hfl, htl, hxt, hxv, hnb⟩
 try simp only [g0L72, g4L72, g9L72, g11L72, g12L72, g13L72]
 rw [← hxv0] at xb
 have hrow : row = xv / c := by rw [hxv0]; assumption
 have hcol : col = xv % c := by rw [hxv0]; assumption
 have rb := rc_bnd (r := r) (c := c) (by omega) xb.1 (by omega) hrow hcol
 refine ob_i (vInt_add (by omega) (by omega)) (ob_i (vInt_leq _ _ _) (cnd_d (fun hg73 => ?_) (fun hg73 => ?_)))
 have ta := hg73
 refine jn_i (fun σ' H' => ∃ q9, ∃ ls : List Int, σ' 0 = p ∧ σ' 4 = tk ∧ σ' 5 = ps ∧ σ' 6 = pl ∧ σ' 8 = al ∧ σ' 9 = q9 ∧ σ' 10 = (.int .i64 ((t : Int))) ∧ σ' 11 = (.int .i64 (row)) ∧ σ' 12 = (.int .i64 (col)) ∧ σ' 13 = (.int .i64 (row - 1 + (a : Int))) ∧ σ' 32 = (.int .i64 (((l).length : Int))) ∧ σ' 33 = (.int .i64 ((i : Int))) ∧ Own eB H' tk (tkB c l (stsL c l i) ls) ∧ Fam H' ps Sps (prtL r c l (stsL c l i)) ∧ Own eI H' pl (plcL r c l (stsL c l i)) ∧ Own eI H' ac (indL l xs) ∧ Cel H' al [(.int .i64 (r)), (.int .i64 (c)), ac] ∧ Own eI H' q9 (ls) ∧ Nw H q9 ∧ Apart tk q9 ∧ Apt Sps q9 ∧ Apart pl q9 ∧ Apart ac q9 ∧ Apart al q9 ∧ Le H H' ∧ flP c l i ls t ∧ t < ls.length ∧ ls.take (t + 1) = xs ∧ at_ 0 ls (t : Int) = xv ∧ nbD c l ls row col (row - 1 + ((a + 1 : Nat) : Int)) (col - 1)) (fun σ74 H74 hP => ?_) (fun J74 hJ74 => ?_)
 obtain ⟨q9, ls, g0L74, g4L74, g5L74, g6L74, g8L74, g9L74, g10L74, g11L74, g12L74, g13L74, g32L74, g33L74, otk, ops, opl, oac, oal, oq9, nq9, atkXq9, apsXq9, aplXq9, aacXq9, aalXq9, lE, hf6, ht6, hx6, hv6, hn6⟩ := hP
 try simp only [g13L74]
 refine ob_i (vInt_add (by omega) (by omega)) ?_
 exact nxt (3 - (a + 1)) (by omega) ⟨a + 1, rfl, by omega, q9, _, g0L74, g4L74, g5L74, g6L74, g8L74, g9L74, g10L74, g11L74, g12L74, (congrArg (Value.int .i64) (by first | omega | rfl | (simp; done))), g32L74, g33L74, otk, ops, opl, oac, oal, oq9, nq9, atkXq9, apsXq9, aplXq9, aacXq9, aalXq9, lE, hf6, ht6, hx6, hv6, hn6⟩
 refine ob_i (vInt_sub (by omega) (by omega)) ?_
 refine ⟨fun n' σ' H' => ∃ b : Nat, n' = 3 - b ∧ b ≤ 3 ∧ ∃ q9, ∃ ls : List Int, σ' 0 = p ∧ σ' 4 = tk ∧ σ' 5 = ps ∧ σ' 6 = pl ∧ σ' 8 = al ∧ σ' 9 = q9 ∧ σ' 10 = (.int .i64 ((t : Int))) ∧ σ' 11 = (.int .i64 (row)) ∧ σ' 12 = (.int .i64 (col)) ∧ σ' 13 = (.int .i64 (row - 1 + (a : Int))) ∧ σ' 14 = (.int .i64 (col - 1 + (b : Int))) ∧ σ' 32 = (.int .i64 (((l).length : Int))) ∧ σ' 33 = (.int .i64 ((i : Int))) ∧ Own eB H' tk (tkB c l (stsL c l i) ls) ∧ Fam H' ps Sps (prtL r c l (stsL c l i)) ∧ Own eI H' pl (plcL r c l (stsL c l i)) ∧ Own eI H' ac (indL l xs) ∧ Cel H' al [(.int .i64 (r)), (.int .i64 (c)), ac] ∧ Own eI H' q9 (ls) ∧ Nw H q9 ∧ Apart tk q9 ∧ Apt Sps q9 ∧ Apart pl q9 ∧ Apart ac q9 ∧ Apart al q9 ∧ Le H H' ∧ flP c l i ls t ∧ t < ls.length ∧ ls.take (t + 1) = xs ∧ at_ 0 ls (t : Int) = xv ∧ nbD c l ls row col (row - 1 + (a : Int)) (col - 1 + (b : Int)),
    ⟨_, 0, rfl, by omega, q9, _, g0L72, g4L72, g5L72, g6L72, g8L72, g9L72, g10L72, g11L72, g12L72, g13L72, (congrArg (Value.int .i64) (by first | omega | rfl | (simp; done))), g32L72, g33L72, by simpa using otk, ops, opl, by simpa using oac, oal, (Own.cast (by first | rfl | (simp; done)) oq9), nq9, atkXq9, apsXq9, aplXq9, aacXq9, aalXq9, lE, hfl, htl, hxt, hxv, (by rw [show col - 1 + ((0 : Nat) : Int) = col - 1 by omega]; exact hnb)⟩, ?_⟩
 rintro n75 σ75 H75 ⟨b, rfl, hbN, q9, ls, g0L75, g4L75, g5L75, g6L75, g8L75, g9L75, g10L75, g11L75, g12L75, g13L75, g14L75, g32L75, g33L75, otk, ops, opl, oac, oal, oq9, nq9, atkXq9, apsXq9, aplXq9, aacXq9, aalXq9, lE, hfl, htl, hxt, hxv, hnb⟩
 try simp only [g0L75, g4L75, g9L75, g12L75, g13L75, g14L75]
 have tl6 := tkB_len (c := c) (l := l) (L := (stsL c l i)) (ls := ls)
 have fl6 := flP_len hfl
 refine ob_i (vInt_add (by omega) (by omega)) (ob_i (vInt_leq _ _ _) (cnd_d (fun hg76 => ?_) (fun hg76 => ?_)))
 have tb := hg76
 refine ob_i ((hp0.le lE).nilC) (ob_i ((hp0.le lE).fa 0) (ob_i ((hp0.le lE).ld 0 rfl) (ob_i (vInt_sub (by omega) (by omega)) (C.c0  ?_))))
 refine ob_nd (fun hc77 => ?_) (fun hc77 => ?_)
 refine gop_rf (gop_rf (gop_rf (ob_i ((hp0.le lE).nilC) (gop_rf (ob_i ((hp0.le lE).fa 1) (gop_rf (ob_i ((hp0.le lE).ld 1 rfl) (gop_rf (ob_i (vInt_sub (by omega) (by omega)) ?_)))))))))
 refine gop_rf (C.c0  ?_)
 refine gop_rf (ob_nd (fun hc78 => ?_) (fun hc78 => ?_))
 have pq := pq_dm (r := r) (c := c) (p := row - 1 + (a : Int)) (q := col - 1 + (b : Int)) (by omega) (by omega) (by omega) (by omega)
 refine ob_i (vPick_f _ _) (cnd_f1 (ob_i ((hp0.le lE).nilC) (ob_i ((hp0.le lE).fa 1) (ob_i ((hp0.le lE).ld 1 rfl) (ob_i (vInt_mul (by omega) (by omega)) (ob_i (vInt_add (by omega) (by omega)) (ob_i ((hp0.le lE).nilC) (ob_i ((hp0.le lE).fa 2) (ob_i ((hp0.le lE).ld 2 rfl) ?_)))))))))
 refine ob_i ((hvc0.le lE).ix (by omega) (by omega)) (ob_i ((hvc0.le lE).ld 0 (by omega) (by omega)) (ob_i (vInt_eql _ _ _) ?_))
 by_cases hc79 : (at_ 0 (l) (((row - 1 + (a : Int)) * c) + (col - 1 + (b : Int)))) = 1
 refine gT hc79 (gT hc79 (gT hc79 (ob_i (otk.sl.ix (by omega) (by omega)) (gT hc79 (ob_i (otk.sl.ld false (by omega) (by omega)) (gT hc79 (ob_i (vUn_not _) (ob_i (vPick_et (decide_eq_true hc79) _ _) (cnd_i (fun hg80 => ?_) (fun hg80 => ?_))))))))))
 refine ob_i (otk.sl.ix (by omega) (by omega)) (otk.st (x := true) (by omega) (by omega) rfl rfl (fun H81 otk off82 => ?_))
 refine bS_i (enc := eI) (l := [((row - 1 + (a : Int)) * c) + (col - 1 + (b : Int))]) (by omega) rfl (by kernel_rfl) (fun u83 H84 ou83 nn85 le87 => ?_)
 replace oq9 := (oq9.off off82 atkXq9.symm).le le87
 refine apd_any oq9 ou83.sl (fun _ => rfl) (by omega) (by first | omega | (simp only [List.length_cons, List.length_nil, List.length_append, List.length_replicate, List.length_map, List.length_range]; omega)) (fun u91 H88 ou91 off89 hb90 => ?_)
 replace otk := otk.le le87
 have atkXu91 := Apart.ap2 otk.known atkXq9 hb90
 replace ops := (ops.off off82 atkXps.symm).le le87
 have apsXu91 := Apt.ap2 ops.known apsXq9 hb90
 replace opl := (opl.off off82 atkXpl.symm).le le87
 have aplXu91 := Apart.ap2 opl.known aplXq9 hb90
 replace oac := (oac.off off82 atkXac.symm).le le87
 have aacXu91 := Apart.ap2 oac.known aacXq9 hb90
 replace oal := (oal.off off82 atkXal.symm).le le87
 have aalXu91 := Apart.ap2 oal.known aalXq9 hb90
 replace lE := (off82.le lE ntk).trans le87
 have nu91 : Nw H u91 := Nw.ap2 nq9 lE hb90
 refine ob_i (vInt_add (by omega) (by omega)) ?_
 have fz := flP_found (y := ((row - 1 + (a : Int)) * c + (col - 1 + (b : Int)))) (p := (row - 1 + (a : Int))) (q := (col - 1 + (b : Int))) hfl htl hxv hrow hcol pq.1.1 (by omega) pq.2.2.1 pq.2.2.2 ⟨by omega, by omega⟩ ⟨by omega, by omega⟩ hc79 (stsL c l i) (by first | exact hg80 | (simpa using hg80)) hnb
 have fn := fz.2.2.2.2.1
 replace otk := otk.off off89 atkXq9
 replace ops := ops.off off89 apsXq9
 replace opl := opl.off off89 aplXq9
 replace oac := oac.off off89 aacXq9
 replace oal := oal.off off89 aalXq9
 replace lE := off89.le lE nq9
 exact nxt (3 - (b + 1)) (by omega) ⟨b + 1, rfl, by omega, u91, (ls ++ ([((row - 1 + (a : Int)) * c) + (col - 1 + (b : Int))])), g0L75, g4L75, g5L75, g6L75, g8L75, rfl, g10L75, g11L75, g12L75, g13L75, (congrArg (Value.int .i64) (by first | omega | rfl | (simp; done))), g32L75, g33L75, (Own.cast fz.2.2.2.2.2 otk), ops, opl, oac, oal, ou91, nu91, atkXu91, apsXu91, aplXu91, aacXu91, aalXu91, lE, fz.1, fz.2.1, (fz.2.2.1.trans hxt), fz.2.2.2.1, (by rw [show col - 1 + ((b + 1 : Nat) : Int) = col - 1 + (b : Int) + 1 by omega]; exact fn)⟩
 refine ob_i (vInt_add (by omega) (by omega)) ?_
 have fn := nbD_skip2 (p := (row - 1 + (a : Int))) (q := (col - 1 + (b : Int))) hfl htl hxv hrow hcol ⟨by omega, by omega⟩ ⟨by omega, by omega⟩ (stsL c l i) hnr hnb (fun y h1 h2 h3 => by have yb := rc_bnd (r := r) (c := c) (x := (y : Int)) (by omega) (by omega) (by have := h3.1; omega) h1.symm h2.symm; have e0 := Int.emod_add_mul_ediv (y : Int) c; rw [h1, h2, Int.mul_comm c] at e0; have ye : (y : Int) = ((row - 1 + (a : Int)) * c + (col - 1 + (b : Int))) := (by omega); have y1 := h3.2; rw [ye] at y1 ⊢; first | omega | assumption | contradiction | (simp_all; done))
 exact nxt (3 - (b + 1)) (by omega) ⟨b + 1, rfl, by omega, q9, ls, g0L75, g4L75, g5L75, g6L75, g8L75, g9L75, g10L75, g11L75, g12L75, g13L75, (congrArg (Value.int .i64) (by first | omega | rfl | (simp; done))), g32L75, g33L75, otk, ops, opl, oac, oal, oq9, nq9, atkXq9, apsXq9, aplXq9, aacXq9, aalXq9, lE, hfl, htl, hxt, hxv, (by rw [show col - 1 + ((b + 1 : Nat) : Int) = col - 1 + (b : Int) + 1 by omega]; exact fn)⟩
 refine hF hc79 (hF hc79 (hF hc79 (hF hc79 (hF hc79 (ob_i (vPick_ef (decide_eq_false hc79) _ _) (cnd_f1 (ob_i (vInt_add (by omega) (by omega)) ?_)))))))
 have fn := nbD_skip2 (p := (row - 1 + (a : Int))) (q := (col - 1 + (b : Int))) hfl htl hxv hrow hcol ⟨by omega, by omega⟩ ⟨by omega, by omega⟩ (stsL c l i) hnr hnb (fun y h1 h2 h3 => by have yb := rc_bnd (r := r) (c := c) (x := (y : Int)) (by omega) (by omega) (by have := h3.1; omega) h1.symm h2.symm; have e0 := Int.emod_add_mul_ediv (y : Int) c; rw [h1, h2, Int.mul_comm c] at e0; have ye : (y : Int) = ((row - 1 + (a : Int)) * c + (col - 1 + (b : Int))) := (by omega); have y1 := h3.2; rw [ye] at y1 ⊢; first | omega | assumption | contradiction | (simp_all; done))
 exact nxt (3 - (b + 1)) (by omega) ⟨b + 1, rfl, by omega, q9, ls, g0L75, g4L75, g5L75, g6L75, g8L75, g9L75, g10L75, g11L75, g12L75, g13L75, (congrArg (Value.int .i64) (by first | omega | rfl | (simp; done))), g32L75, g33L75, otk, ops, opl, oac, oal, oq9, nq9, atkXq9, apsXq9, aplXq9, aacXq9, aalXq9, lE, hfl, htl, hxt, hxv, (by rw [show col - 1 + ((b + 1 : Nat) : Int) = col - 1 + (b : Int) + 1 by omega]; exact fn)⟩
 refine ob_i (vPick_f _ _) (cnd_t1 (ob_i (vInt_add (by omega) (by omega)) ?_))
 have fn := nbD_skip2 (p := (row - 1 + (a : Int))) (q := (col - 1 + (b : Int))) hfl htl hxv hrow hcol ⟨by omega, by omega⟩ ⟨by omega, by omega⟩ (stsL c l i) hnr hnb (fun y h1 h2 h3 => by have yb := rc_bnd (r := r) (c := c) (x := (y : Int)) (by omega) (by omega) (by have := h3.1; omega) h1.symm h2.symm; have e0 := Int.emod_add_mul_ediv (y : Int) c; rw [h1, h2, Int.mul_comm c] at e0; have ye : (y : Int) = ((row - 1 + (a : Int)) * c + (col - 1 + (b : Int))) := (by omega); have y1 := h3.2; rw [ye] at y1 ⊢; first | omega | assumption | contradiction | (simp_all; done))
 exact nxt (3 - (b + 1)) (by omega) ⟨b + 1, rfl, by omega, q9, ls, g0L75, g4L75, g5L75, g6L75, g8L75, g9L75, g10L75, g11L75, g12L75, g13L75, (congrArg (Value.int .i64) (by first | omega | rfl | (simp; done))), g32L75, g33L75, otk, ops, opl, oac, oal, oq9, nq9, atkXq9, apsXq9, aplXq9, aacXq9, aalXq9, lE, hfl, htl, hxt, hxv, (by rw [show col - 1 + ((b + 1 : Nat) : Int) = col - 1 + (b : Int) + 1 by omega]; exact fn)⟩
 refine gop_st (gop_st (gop_st (gop_st (gop_st (gop_st (gop_st (gop_st (ob_i (vPick_t _ _) (cnd_t1 ?_)))))))))
 refine ob_i (vInt_add (by omega) (by omega)) ?_
 have fn := nbD_skip2 (p := (row - 1 + (a : Int))) (q := (col - 1 + (b : Int))) hfl htl hxv hrow hcol ⟨by omega, by omega⟩ ⟨by omega, by omega⟩ (stsL c l i) hnr hnb (fun y h1 h2 h3 => by have yb := rc_bnd (r := r) (c := c) (x := (y : Int)) (by omega) (by omega) (by have := h3.1; omega) h1.symm h2.symm; have e0 := Int.emod_add_mul_ediv (y : Int) c; rw [h1, h2, Int.mul_comm c] at e0; have ye : (y : Int) = ((row - 1 + (a : Int)) * c + (col - 1 + (b : Int))) := (by omega); have y1 := h3.2; rw [ye] at y1 ⊢; first | omega | assumption | contradiction | (simp_all; done))
 exact nxt (3 - (b + 1)) (by omega) ⟨b + 1, rfl, by omega, q9, ls, g0L75, g4L75, g5L75, g6L75, g8L75, g9L75, g10L75, g11L75, g12L75, g13L75, (congrArg (Value.int .i64) (by first | omega | rfl | (simp; done))), g32L75, g33L75, otk, ops, opl, oac, oal, oq9, nq9, atkXq9, apsXq9, aplXq9, aacXq9, aalXq9, lE, hfl, htl, hxt, hxv, (by rw [show col - 1 + ((b + 1 : Nat) : Int) = col - 1 + (b : Int) + 1 by omega]; exact fn)⟩
 have tb := hg76
 exact hJ74 _ _ ⟨q9, _, g0L75, g4L75, g5L75, g6L75, g8L75, g9L75, g10L75, g11L75, g12L75, g13L75, g32L75, g33L75, otk, ops, opl, oac, oal, oq9, nq9, atkXq9, apsXq9, aplXq9, aacXq9, aalXq9, lE, hfl, htl, hxt, hxv, (by have hh := nbD_row (b := col - 1) (show nbD c l ls row col (row - 1 + (a : Int)) (col + 2) by rw [show col + 2 = col - 1 + (b : Int) by omega]; exact hnb) (by omega); rw [show row - 1 + ((a + 1 : Nat) : Int) = row - 1 + (a : Int) + 1 by omega]; exact hh)⟩
 have ta := hg73
 have hfz := flP_next hfl htl (by rw [hxv]; exact hrow) (by rw [hxv]; exact hcol) (show nbD c l ls row col (row + 2) 0 from fun y g1 g2 g3 g4 => hnb y g1 g2 g3 (by omega))
 exact hJ68 _ _ ⟨q9, _, g0L72, g4L72, g5L72, g6L72, g8L72, g9L72, g10L72, g32L72, g33L72, otk, ops, opl, oac, oal, oq9, nq9, atkXq9, apsXq9, aplXq9, aacXq9, aalXq9, lE, hfz, hxt⟩
 have tt := hg67
 have hte := hfl.2.2.2.1
 have hend := flood_end hfl.1 hfl.2.1 (fun x y hx => hfl.2.2.2.2 x y (by rw [List.take_of_length_le (by omega)]; exact hx))
 exact hJ32 _ _ ⟨g0L66, g4L66, g5L66, g6L66, g8L66, g32L66, g33L66, (Own.cast (tkB_end hend) otk), ops, opl, (Own.cast (by rw [List.take_of_length_le (by omega)]; exact indL_end hend) oac), oal, lE⟩
 have ti := hg14
 obtain rfl : i = l.length := by omega
 exact hJ12 _ _ ⟨ps, Sps, pl, g5L13, g6L13, ops, opl, nps, npl, apsXpl, lE⟩

end Go.Proofs.YtnijdhlmimemcaaGreatDoor
/- The cells around a cell: each is told once, row by row; and slices that are cut in front of their last. -/
namespace Go.Proofs.YtnijdhlmimemcaaGreatDoor
open HL
variable {A B H : Hp} {b : Nat} {v : Value}
set_option maxRecDepth 100000
/-- A heap less one block. -/
def HL.Hp.del (H : Hp) (b : Nat) : Hp := fun x => if x = b then none else H x
theorem HL.Hp.del_none (H : Hp) (b : Nat) : H.del b b = none := by simp [Hp.del]
theorem HL.Hp.del_put {o : Obj} (h : Le (A.put b o) B) : B = (B.del b).put b o := by
  funext x
  unfold Hp.put Hp.del
  by_cases e : x = b
  · subst e; rw [if_pos rfl]; exact h _ _ (Hp.put_same _ _ _)
  · rw [if_neg e, if_neg e]
theorem HL.Hp.del_le {o : Obj} (h : Le (A.put b o) B) (hn : A b = none) : Le A (B.del b) := by
  intro x y hx
  have e : x ≠ b := by rintro rfl; rw [hn] at hx; exact absurd hx (by simp)
  unfold Hp.del
  rw [if_neg e]
  exact h _ _ (by rw [Hp.put_ne _ _ e]; exact hx)
theorem callV_frame {args : List Value} {Z : Value → Hp → Prop} {o : Obj} (h : callV prg v args A (fun x B => B b = none → Z x (B.put b o))) (hn : A b = none) : callV prg v args (A.put b o) Z := by
  unfold callV at h ⊢
  split at h
  · exact ⟨h.1, (HT.frame o h.2 hn).mono (fun x B' ⟨B, h3, h4, h5⟩ => h5 ▸ h3 h4)⟩
  · refine hp_mono prg _ _ _ _ ?_ (hp_frame prg _ _ _ b o h hn)
    rintro nx H'' ⟨H', hk, hr, rfl⟩
    cases nx <;> simp only [nextH] at hk ⊢
    · exact hk hr
    · exact hk hr
    · exact (HT.frame o hk hr).mono (fun x B' ⟨B, h3, h4, h5⟩ => h5 ▸ h3 h4)
    · exact (RT.frame o hk hr).mono (fun x B' ⟨B, h3, h4, h5⟩ => h5 ▸ h3 h4)
  · exact h
/-- A slice that is cut in front of its last cells: it is owned as before. -/
theorem HL.Own.trunc {α : Type} {enc : α → Value} {l : List α} {kk : IntKind} {n : Int} (h : Own enc H v l) (h0 : 0 ≤ n) (h1 : n ≤ l.length) :
    ∃ v', vSl3 1 v none (some (.int kk n)) none = some v' ∧ Own enc H v' (l.take n.toNat) ∧ ∀ b, bk v' = some b → bk v = some b := by
  obtain ⟨a, c, rfl, hc, hr⟩ := h
  refine ⟨.slice a n.toNat c, ?_, ⟨a, c, by simp; omega, by simp; omega, fun hp => ?_⟩, fun b hb => by cases a <;> exact hb⟩
  · simp only [vSl3, vSl, bnd]
    rw [if_pos ⟨h0, by omega⟩]
    simp only [Nat.zero_mul, Nat.sub_zero]
    cases a with
    | none => simp
    | some ad => simp [Addr.add]
  · obtain ⟨b, off, cs, e, h2, h3, h4, h5⟩ := hr hp
    refine ⟨b, off, cs, e, h2, h3, h4, fun i hi => ?_⟩
    have hi2 : i < l.length := by have := hi; simp at this; omega
    rw [h5 i hi2, List.getElem_take]
theorem C.c79 {fv : Value} {r c i k : Int} {vc : Value} {K : Value → Hp → Prop} {Inv : Int → Int → Hp → Prop} (hs : sidesF r c) (i0 : 0 ≤ i) (i1 : i ≤ 1000) (k0 : 0 ≤ k) (k1 : k ≤ 1000)
    (h0 : Inv (i - 1) (k - 1) H) (hle : ∀ p q A B, Inv p q A → Le A B → Inv p q B)
    (hno : ∀ p q A, ¬ (((0 ≤ p ∧ p ≤ r - 1) ∧ 0 ≤ q ∧ q ≤ c - 1) ∧ (p ≠ i ∨ q ≠ k)) → i - 1 ≤ p → p ≤ i + 1 → k - 1 ≤ q → q ≤ k + 1 → Inv p q A → Inv p (q + 1) A)
    (hrow : ∀ p A, i - 1 ≤ p → p ≤ i + 1 → Inv p (k + 2) A → Inv (p + 1) (k - 1) A)
    (hdo : ∀ p q A (Z : Value → Hp → Prop), ((0 ≤ p ∧ p ≤ r - 1) ∧ 0 ≤ q ∧ q ≤ c - 1) → (p ≠ i ∨ q ≠ k) → i - 1 ≤ p → p ≤ i + 1 → k - 1 ≤ q → q ≤ k + 1 → Inv p q A → (∀ B, Inv p (q + 1) B → Z (.tuple #[]) B) → callV prg fv [.int .i64 p, .int .i64 q] A Z)
    (hk : ∀ A, Inv (i + 2) (k - 1) A → K (.tuple #[]) A) : HT prg 102 [.agg #[.int .i64 r, .int .i64 c, vc], .int .i64 i, .int .i64 k, fv].toArray H K := by
 refine R.q102 ?_
 unfold F.q102
 intro b hb
 generalize hO : (Obj.cells (Value.agg #[.int .i64 r, .int .i64 c, vc]).cells _) = o
 have hlb : ∀ A : Hp, vLoadN 3 (.pointer (some ⟨b, 0, none⟩)) (A.put b o) = some (.agg #[.int .i64 r, .int .i64 c, vc]) := fun A => by
    rw [← hO]
    exact Cel.ldn (cs := [.int .i64 r, .int .i64 c, vc]) ⟨b, _, rfl, by rw [Hp.put_same]; rfl⟩ rfl
 refine ob_i (vInt_sub (by omega) (by omega)) ?_
 refine ⟨fun n σ H' => ∃ t : Nat, n = 3 - t ∧ t ≤ 3 ∧ σ 1 = .int .i64 i ∧ σ 2 = .int .i64 k ∧ σ 3 = fv ∧ σ 4 = .pointer (some ⟨b, 0, none⟩) ∧ σ 8 = .int .i64 (i - 1 + (t : Int)) ∧ ∃ A, H' = A.put b o ∧ A b = none ∧ Inv (i - 1 + (t : Int)) (k - 1) A,
    ⟨_, 0, rfl, by omega, rfl, rfl, rfl, rfl, congrArg (Value.int .i64) (by omega), H, rfl, hb, by rw [show i - 1 + ((0 : Nat) : Int) = i - 1 by omega]; exact h0⟩, ?_⟩
 rintro n σ H1 ⟨t, rfl, ht, g1, g2, g3, g4, g8, A, rfl, hA, hI⟩
 simp only [g1, g2, g3, g4, g8]
 refine ob_i (vInt_add (by omega) (by omega)) (ob_i (vInt_leq _ _ _) (cnd_d (fun hlt => ?_) (fun hge => ?_)))
 refine jn_i (fun σ' H' => σ' 1 = .int .i64 i ∧ σ' 2 = .int .i64 k ∧ σ' 3 = fv ∧ σ' 4 = .pointer (some ⟨b, 0, none⟩) ∧ σ' 8 = .int .i64 (i - 1 + (t : Int)) ∧ ∃ A, H' = A.put b o ∧ A b = none ∧ Inv (i - 1 + (t : Int) + 1) (k - 1) A) (fun σ2 H2 hP => ?_) (fun J hJ => ?_)
 obtain ⟨g1, g2, g3, g4, g8, A, rfl, hA, hI⟩ := hP
 simp only [g8]
 refine ob_i (vInt_add (by omega) (by omega)) ?_
 exact nxt (3 - (t + 1)) (by omega) ⟨t + 1, rfl, by omega, g1, g2, g3, g4, congrArg (Value.int .i64) (by omega), A, rfl, hA, by rw [show i - 1 + ((t + 1 : Nat) : Int) = i - 1 + (t : Int) + 1 by omega]; exact hI⟩
 refine ob_i (vInt_sub (by omega) (by omega)) ?_
 refine ⟨fun n σ H' => ∃ u : Nat, n = 3 - u ∧ u ≤ 3 ∧ σ 1 = .int .i64 i ∧ σ 2 = .int .i64 k ∧ σ 3 = fv ∧ σ 4 = .pointer (some ⟨b, 0, none⟩) ∧ σ 8 = .int .i64 (i - 1 + (t : Int)) ∧ σ 9 = .int .i64 (k - 1 + (u : Int)) ∧ ∃ A, H' = A.put b o ∧ A b = none ∧ Inv (i - 1 + (t : Int)) (k - 1 + (u : Int)) A,
    ⟨_, 0, rfl, by omega, g1, g2, g3, g4, g8, congrArg (Value.int .i64) (by omega), A, rfl, hA, by rw [show k - 1 + ((0 : Nat) : Int) = k - 1 by omega]; exact hI⟩, ?_⟩
 clear hI hA g1 g2 g3 g4 g8 A
 rintro n σ H1 ⟨u, rfl, hu, g1, g2, g3, g4, g8, g9, A, rfl, hA, hI⟩
 simp only [g1, g2, g3, g4, g8, g9]
 refine ob_i (vInt_add (by omega) (by omega)) (ob_i (vInt_leq _ _ _) (cnd_d (fun hlt2 => ?_) (fun hge2 => ?_)))
 refine ob_i (hlb A) (C.c19 hs (fun H3 le3 => ?_))
 have hB := Hp.del_le le3 hA
 have eB := Hp.del_put le3
 have nB := Hp.del_none H3 b
 generalize H3.del b = B at hB eB nB
 subst eB
 have hI2 := hle _ _ _ _ hI hB
 have eu : k - 1 + ((u + 1 : Nat) : Int) = k - 1 + (u : Int) + 1 := by omega
 have no : ∀ σ' : S, σ' 1 = .int .i64 i → σ' 2 = .int .i64 k → σ' 3 = fv → σ' 4 = .pointer (some ⟨b, 0, none⟩) → σ' 8 = .int .i64 (i - 1 + (t : Int)) → σ' 9 = .int .i64 (k - 1 + (u : Int) + 1) → ∀ C : Hp, C b = none → Inv (i - 1 + (t : Int)) (k - 1 + (u : Int) + 1) C →
      ∃ u' : Nat, 3 - (u + 1) = 3 - u' ∧ u' ≤ 3 ∧ σ' 1 = .int .i64 i ∧ σ' 2 = .int .i64 k ∧ σ' 3 = fv ∧ σ' 4 = .pointer (some ⟨b, 0, none⟩) ∧ σ' 8 = .int .i64 (i - 1 + (t : Int)) ∧ σ' 9 = .int .i64 (k - 1 + (u' : Int)) ∧ ∃ A, C.put b o = A.put b o ∧ A b = none ∧ Inv (i - 1 + (t : Int)) (k - 1 + (u' : Int)) A :=
    fun σ' a1 a2 a3 a4 a8 a9 C hC hIC => ⟨u + 1, rfl, by omega, a1, a2, a3, a4, a8, by rw [eu]; exact a9, C, rfl, hC, by rw [eu]; exact hIC⟩
 by_cases hP : (0 ≤ i - 1 + (t : Int) ∧ i - 1 + (t : Int) ≤ r - 1) ∧ 0 ≤ k - 1 + (u : Int) ∧ k - 1 + (u : Int) ≤ c - 1
 rw [decide_eq_true hP]
 refine gop_rt (gop_rt (gop_rt (ob_i (vInt_neq _ _ _) (gop_rt ?_))))
 by_cases h1 : i - 1 + (t : Int) = i
 rw [decide_eq_false (show ¬ i - 1 + (t : Int) ≠ i from fun h => h h1)]
 refine gop_rf (gop_rf (gop_rf (ob_i (vInt_neq _ _ _) (gop_rt (ob_i (vPick_f _ _) (ob_i (vPick_t _ _) (cnd_d (fun h2 => ?_) (fun h2 => ?_))))))))
 refine callV_frame (hdo _ _ B _ hP (.inr h2) (by omega) (by omega) (by omega) (by omega) hI2 (fun C hC nC => ?_)) nB
 refine ob_i (vInt_add (by omega) (by omega)) (nxt (3 - (u + 1)) (by omega) ?_)
 refine no _ ?_ ?_ ?_ ?_ ?_ ?_ C nC hC
 exact g1
 exact g2
 exact g3
 exact g4
 exact g8
 exact rfl
 refine ob_i (vInt_add (by omega) (by omega)) (nxt (3 - (u + 1)) (by omega) ?_)
 refine no _ ?_ ?_ ?_ ?_ ?_ ?_ B nB (hno _ _ B (fun h => h.2.elim (fun h3 => h3 h1) h2) (by omega) (by omega) (by omega) (by omega) hI2)
 exact g1
 exact g2
 exact g3
 exact g4
 exact g8
 exact rfl
 rw [decide_eq_true h1]
 refine gop_st (gop_st (gop_st (gop_rt (ob_i (vPick_t _ _) (ob_i (vPick_t _ _) (cnd_t1 (callV_frame (hdo _ _ B _ hP (.inl h1) (by omega) (by omega) (by omega) (by omega) hI2 (fun C hC nC => ?_)) nB)))))))
 refine ob_i (vInt_add (by omega) (by omega)) (nxt (3 - (u + 1)) (by omega) ?_)
 refine no _ ?_ ?_ ?_ ?_ ?_ ?_ C nC hC
 exact g1
 exact g2
 exact g3
 exact g4
 exact g8
 exact rfl
 rw [decide_eq_false hP]
 refine gop_sf (gop_sf (gop_sf (gop_sf (gop_u (gop_u (gop_u (gop_sf (ob_i (vPick_f _ _) (cnd_f1 ?_)))))))))
 refine ob_i (vInt_add (by omega) (by omega)) (nxt (3 - (u + 1)) (by omega) ?_)
 refine no _ ?_ ?_ ?_ ?_ ?_ ?_ B nB (hno _ _ B (fun h => hP h.1) (by omega) (by omega) (by omega) (by omega) hI2)
 exact g1
 exact g2
 exact g3
 exact g4
 exact g8
 exact rfl
 exact hJ _ _ ⟨g1, g2, g3, g4, g8, A, rfl, hA, hrow _ _ (by omega) (by omega) (by rw [show k + 2 = k - 1 + (u : Int) by omega]; exact hI)⟩
 have := hle _ _ _ _ hI (Le.put o hA)
 exact hk _ (by rw [show i + 2 = i - 1 + (t : Int) by omega]; exact this)

end Go.Proofs.YtnijdhlmimemcaaGreatDoor
/- Parts of a field, by plain law: a flood with a stack, and the numbers that it leaves. -/
namespace Go.Proofs.YtnijdhlmimemcaaGreatDoor
open HL
variable {y : Nat} {xv p q r : Int}
set_option maxRecDepth 100000
open Classical in
/-- The numbers that stand: those of the starts before, and the next one for the cells of a list. -/
noncomputable def ouL (c : Int) (l : List Int) (L : List Nat) (ls : List Int) : List Int := (List.range l.length).map fun x => if nuN c l L x = 0 then (if (x : Int) ∈ ls then (L.length : Int) + 1 else 0) else nuN c l L x
/-- A flood from i with a stack: all that has been found, and what is still to be looked at. -/
def stS (c : Int) (l : List Int) (i : Nat) (ls td : List Int) : Prop := ((i : Int) ∈ ls ∧ (∀ x ∈ ls, ∃ k : Nat, x = (k : Int) ∧ Rch c l i k) ∧ ls.Nodup ∧ ∀ x ∈ td, x ∈ ls) ∧ ∀ x y : Nat, (x : Int) ∈ ls → (x : Int) ∉ td → nbP c x y → onP l y → (y : Int) ∈ ls
/-- The same, while the neighbours of one cell are told up to a place. -/
def stN (c : Int) (l : List Int) (i : Nat) (ls td : List Int) (xv p q : Int) : Prop := ((i : Int) ∈ ls ∧ (∀ x ∈ ls, ∃ k : Nat, x = (k : Int) ∧ Rch c l i k) ∧ ls.Nodup ∧ ∀ x ∈ td, x ∈ ls) ∧ xv ∈ ls ∧ (∀ x y : Nat, (x : Int) ∈ ls → (x : Int) ∉ td → (x : Int) ≠ xv → nbP c x y → onP l y → (y : Int) ∈ ls) ∧ nbD c l ls (xv / c) (xv % c) p q
section
variable {c : Int} {l : List Int} {L : List Nat} {ls td : List Int} {i : Nat}
theorem ouL_len : (ouL c l L ls).length = l.length := by simp [ouL]
open Classical in
theorem ouL_at (hy : y < l.length) : at_ 0 (ouL c l L ls) (y : Int) = if nuN c l L y = 0 then (if (y : Int) ∈ ls then (L.length : Int) + 1 else 0) else nuN c l L y := by
  rw [at_eq 0 _ (by rw [ouL_len]; exact hy)]
  unfold ouL
  rw [List.getElem_map, List.getElem_range]
theorem ouL_f (hy : y < l.length) (h : at_ 0 (ouL c l L ls) (y : Int) = 0) : (∀ s ∈ L, ¬ Rch c l s y) ∧ (y : Int) ∉ ls := by
  rw [ouL_at hy] at h
  by_cases h0 : nuN c l L y = 0
  · rw [if_pos h0] at h
    refine ⟨nuN_zero.mp h0, fun hm => ?_⟩
    rw [if_pos hm] at h
    omega
  · rw [if_neg h0] at h; exact absurd h h0
theorem ouL_t (hy : y < l.length) (h : at_ 0 (ouL c l L ls) (y : Int) ≠ 0) : (∃ s ∈ L, Rch c l s y) ∨ (y : Int) ∈ ls := by
  rw [ouL_at hy] at h
  by_cases h0 : nuN c l L y = 0
  · rw [if_pos h0] at h
    by_cases hm : (y : Int) ∈ ls
    · exact .inr hm
    · rw [if_neg hm] at h; exact absurd rfl h
  · refine .inl (Classical.byContradiction fun hn => h0 (nuN_zero.mpr fun s hs hr => hn ⟨s, hs, hr⟩))
theorem ouL_zero : ouL c l (stsL c l 0) [] = List.replicate l.length 0 := by
  apply List.ext_getElem
  · rw [ouL_len, List.length_replicate]
  · intro j g1 g2
    simp [ouL, stsL, nuN]
theorem ouL_set (hy : y < l.length) (h : ∀ s ∈ L, ¬ Rch c l s y) : (ouL c l L ls).set y ((L.length : Int) + 1) = ouL c l L (ls ++ [(y : Int)]) := by
  apply List.ext_getElem
  · rw [List.length_set, ouL_len, ouL_len]
  · intro j h1 h2
    simp only [ouL, List.getElem_set, List.getElem_map, List.getElem_range]
    by_cases e : y = j
    · subst e; rw [if_pos rfl, if_pos (nuN_zero.mpr h), if_pos (by simp)]
    · rw [if_neg e]
      by_cases m : (j : Int) ∈ ls
      · simp [m]
      · have : ¬ (j : Int) ∈ ls ++ [(y : Int)] := by simp [m]; omega
        simp [m, this]
theorem ouL_end (h : ∀ x : Nat, (x : Int) ∈ ls ↔ Rch c l i x) : ouL c l L ls = ouL c l (L ++ [i]) [] := by
  unfold ouL
  apply List.map_congr_left
  intro x _
  rw [nuN_snoc]
  by_cases h0 : nuN c l L x = 0
  · by_cases h1 : Rch c l i x
    · rw [if_pos h0, if_pos ((h x).mpr h1)]
      simp only [h0, h1, if_true]
      rw [if_neg (by omega)]
    · rw [if_pos h0, if_neg (fun g => h1 ((h x).mp g))]
      simp [h0, h1]
  · simp [h0]
theorem stS_start (h : onP l i) : stS c l i [(i : Int)] [(i : Int)] :=
  ⟨⟨by simp, fun x hx => ⟨i, by simpa using hx, .base h⟩, by simp, fun x hx => hx⟩, fun x y hx hn => absurd hx hn⟩
theorem stS_len (h : stS c l i ls td) : ls.length ≤ l.length ∧ ∀ x ∈ ls, 0 ≤ x ∧ x < (l.length : Int) := by
  have hb : ∀ x ∈ ls, 0 ≤ x ∧ x < (l.length : Int) := fun x hx => by
    obtain ⟨k, rfl, hr⟩ := h.1.2.1 x hx
    have := hr.on.1.1
    omega
  exact ⟨nodup_len _ _ h.1.2.2.1 hb, hb⟩
theorem stS_end (h : stS c l i ls []) : ∀ x : Nat, (x : Int) ∈ ls ↔ Rch c l i x :=
  fun x => flood_end h.1.1 h.1.2.1 (fun a b ha hn ho => h.2 a b ha (by simp) hn ho) x
/-- The last of the stack is taken. -/
theorem stS_pop (h : stS c l i ls td) (hp : 0 < td.length) : stN c l i ls (td.take (td.length - 1)) (at_ 0 td ((td.length : Int) - 1)) (at_ 0 td ((td.length : Int) - 1) / c - 1) (at_ 0 td ((td.length : Int) - 1) % c - 1) := by
  obtain ⟨⟨h1, h2, h3, h4⟩, h5⟩ := h
  have hm : at_ 0 td ((td.length : Int) - 1) ∈ td := at_mem 0 td (by omega) (by omega)
  refine ⟨⟨h1, h2, h3, fun x hx => h4 x (List.mem_of_mem_take hx)⟩, h4 _ hm, fun x y hx hn hne hb ho => h5 x y hx (fun hxt => ?_) hb ho, nbD_zero⟩
  have e := take_at 0 td (show td.length - 1 < td.length by omega)
  rw [show td.length - 1 + 1 = td.length by omega, List.take_length] at e
  rw [e] at hxt
  rcases List.mem_append.mp hxt with g | g
  · exact hn g
  · simp only [List.mem_singleton] at g
    exact hne (by rw [g]; congr 1; omega)
theorem stN_len (h : stN c l i ls td xv p q) : ls.length ≤ l.length ∧ (∀ x ∈ ls, 0 ≤ x ∧ x < (l.length : Int)) ∧ 0 ≤ xv ∧ xv < (l.length : Int) := by
  have hb : ∀ x ∈ ls, 0 ≤ x ∧ x < (l.length : Int) := fun x hx => by
    obtain ⟨k, rfl, hr⟩ := h.1.2.1 x hx
    have := hr.on.1.1
    omega
  exact ⟨nodup_len _ _ h.1.2.2.1 hb, hb, hb _ h.2.1⟩
/-- All neighbours are told. -/
theorem stN_end (h : stN c l i ls td xv (xv / c + 2) q) : stS c l i ls td := by
  obtain ⟨h1, h2, h3, h4⟩ := h
  refine ⟨h1, fun x y hx hn hb ho => ?_⟩
  by_cases e : (x : Int) = xv
  · subst e
    exact h4 y hb.1 hb.2 ho (.inl (by have := hb.1; omega))
  · exact h3 x y hx hn e hb ho
theorem stN_row (h : stN c l i ls td xv p (xv % c + 2)) : stN c l i ls td xv (p + 1) (xv % c - 1) := ⟨h.1, h.2.1, h.2.2.1, nbD_row h.2.2.2 _ (by omega)⟩
/-- A place that is told already, or no place at all. -/
theorem stN_skip (h : stN c l i ls td xv p q) (hy : ∀ y : Nat, (y : Int) / c = p → (y : Int) % c = q → onP l y → (y : Int) ∈ ls) : stN c l i ls td xv p (q + 1) := ⟨h.1, h.2.1, h.2.2.1, nbD_next h.2.2.2 hy⟩
theorem stN_out (hs : sidesF r c) (hl : (l.length : Int) = r * c) (h : stN c l i ls td xv p q) (hn : ¬ (((0 ≤ p ∧ p ≤ r - 1) ∧ 0 ≤ q ∧ q ≤ c - 1) ∧ (p ≠ xv / c ∨ q ≠ xv % c))) : stN c l i ls td xv p (q + 1) := by
  have q2 := hs.2
  refine stN_skip h fun y h1 h2 h3 => ?_
  have yb := rc_bnd (r := r) (c := c) (x := (y : Int)) (by omega) (by omega) (by have := h3.1; omega) h1.symm h2.symm
  have e : p = xv / c ∧ q = xv % c := Classical.byContradiction fun g => hn ⟨⟨by omega, by omega⟩, by omega⟩
  have e0 := Int.emod_add_mul_ediv (y : Int) c
  have e1 := Int.emod_add_mul_ediv xv c
  rw [h1, h2, e.1, e.2, e1] at e0
  rw [← e0]
  exact h.2.1
/-- A neighbour that is no cell of 1, or has a number. -/
theorem stN_told (hs : sidesF r c) (p0 : 0 ≤ p) (p1 : p ≤ r - 1) (q0 : 0 ≤ q) (q1 : q ≤ c - 1) (h : stN c l i ls td xv p q) (rp : xv / c - p ≤ 1 ∧ p - xv / c ≤ 1) (cq : xv % c - q ≤ 1 ∧ q - xv % c ≤ 1) (hnr : ∀ s ∈ L, ¬ Rch c l s i)
    (hn : at_ 0 l (p * c + q) = 1 → at_ 0 (ouL c l L ls) (p * c + q) ≠ 0) : stN c l i ls td xv p (q + 1) := by
  refine stN_skip h fun y h1 h2 h3 => ?_
  have e0 := Int.emod_add_mul_ediv (y : Int) c
  rw [h1, h2, Int.mul_comm c] at e0
  have ye : (y : Int) = p * c + q := by omega
  have h4 := hn (ye ▸ h3.2)
  rw [← ye] at h4
  rcases ouL_t h3.1 h4 with ⟨s, hs1, hs2⟩ | g
  · exfalso
    obtain ⟨X, hX, hX2⟩ := h.1.2.1 xv h.2.1
    have hn : nbP c X y := by
      unfold nbP
      rw [← hX, h1, h2]
      exact ⟨rp, cq⟩
    exact hnr s hs1 ((hs2.step (nbP_symm hn) hX2.on.1).trans hX2.symm)
  · exact g
/-- A neighbour that is found. -/
theorem stN_put (hs : sidesF r c) (hl : (l.length : Int) = r * c) (p0 : 0 ≤ p) (p1 : p ≤ r - 1) (q0 : 0 ≤ q) (q1 : q ≤ c - 1) (h : stN c l i ls td xv p q) (rp : xv / c - p ≤ 1 ∧ p - xv / c ≤ 1) (cq : xv % c - q ≤ 1 ∧ q - xv % c ≤ 1)
    (on : at_ 0 l (p * c + q) = 1) (nt : at_ 0 (ouL c l L ls) (p * c + q) = 0) :
    stN c l i (ls ++ [p * c + q]) (td ++ [p * c + q]) xv p (q + 1) ∧ (ouL c l L ls).set (p * c + q).toNat ((L.length : Int) + 1) = ouL c l L (ls ++ [p * c + q]) := by
  have pq := pq_dm (r := r) (c := c) p0 p1 q0 q1
  obtain ⟨Y, hY⟩ := Int.eq_ofNat_of_zero_le pq.1.1
  have hYl : Y < l.length := by omega
  rw [hY] at on nt
  have ho := ouL_f hYl nt
  have oY : onP l Y := ⟨hYl, on⟩
  obtain ⟨⟨h1, h2, h3, h4⟩, h5, h6, h7⟩ := h
  obtain ⟨X, hX, hX2⟩ := h2 xv h5
  have hYp : (Y : Int) / c = p := by rw [← hY]; exact pq.2.2.1
  have hYq : (Y : Int) % c = q := by rw [← hY]; exact pq.2.2.2
  have hn : nbP c X Y := by
    unfold nbP
    rw [← hX, hYp, hYq]
    exact ⟨rp, cq⟩
  rw [hY]
  refine ⟨⟨⟨by simp [h1], fun x hx => ?_, ?_, fun x hx => ?_⟩, by simp [h5], fun x y hx hn hne hb hoy => ?_, nbD_next (nbD_app h7) fun z hz1 hz2 _ => ?_⟩, by rw [Int.toNat_natCast]; exact ouL_set hYl ho.1⟩
  · rcases List.mem_append.mp hx with hx | hx
    · exact h2 x hx
    · simp only [List.mem_singleton] at hx
      exact ⟨Y, hx, hX2.step hn oY⟩
  · exact List.nodup_append.mpr ⟨h3, by simp, fun a ha b hb => by
      simp only [List.mem_singleton] at hb
      subst hb
      exact fun e => ho.2 (e ▸ ha)⟩
  · rcases List.mem_append.mp hx with hx | hx
    · exact List.mem_append_left _ (h4 x hx)
    · exact List.mem_append_right _ hx
  · have hx1 : (x : Int) ∈ ls := by
      rcases List.mem_append.mp hx with hx | hx
      · exact hx
      · exact absurd (List.mem_append_right _ hx) hn
    exact List.mem_append_left _ (h6 x y hx1 (fun g => hn (List.mem_append_left _ g)) hne hb hoy)
  · have e1 := Int.emod_add_mul_ediv (z : Int) c
    have e2 := Int.emod_add_mul_ediv (Y : Int) c
    rw [hz1, hz2] at e1
    rw [hYp, hYq] at e2
    have : (z : Int) = (Y : Int) := by rw [← e1, ← e2]
    rw [this]; simp
/-- Starts reach one another not. -/
theorem stsL_pw : ∀ i : Nat, (stsL c l i).Pairwise fun s t => ¬ Rch c l s t
  | 0 => by simp [stsL]
  | i + 1 => by
    unfold stsL
    split
    · rename_i h
      exact List.pairwise_append.mpr ⟨stsL_pw i, by simp, fun a ha b hb => by
        simp only [List.mem_singleton] at hb
        subst hb
        exact h.2 a ha⟩
    · exact stsL_pw i
theorem nuN_ix {x : Nat} : ∀ {L : List Nat} (_ : L.Pairwise fun s t => ¬ Rch c l s t) {n : Nat} (hn : n < L.length), nuN c l L x = (n : Int) + 1 ↔ Rch c l L[n] x
  | [], _, n, hn => by simp at hn
  | s :: L, hp, n, hn => by
    have pos : 0 ≤ nuN c l L x := by
      clear hp hn
      induction L with
      | nil => simp [nuN]
      | cons a L ih => unfold nuN; split <;> (try split) <;> omega
    rw [List.pairwise_cons] at hp
    unfold nuN
    cases n with
    | zero =>
      simp only [List.getElem_cons_zero]
      by_cases h : Rch c l s x
      · simp [h]
      · rw [if_neg h]
        constructor
        · intro g
          split at g <;> omega
        · intro g; exact absurd g h
    | succ n =>
      simp only [List.getElem_cons_succ]
      have hn' : n < L.length := by simpa using hn
      have ih := nuN_ix hp.2 (x := x) hn'
      by_cases h : Rch c l s x
      · rw [if_pos h]
        constructor
        · intro g; omega
        · intro g; exact absurd (h.trans g.symm) (hp.1 _ (List.getElem_mem hn'))
      · rw [if_neg h]
        by_cases h0 : nuN c l L x = 0
        · rw [if_pos h0]
          constructor
          · intro g; omega
          · intro g
            exact absurd (ih.mpr g) (by rw [h0]; omega)
        · rw [if_neg h0, ← ih]
          omega
end
/-- A part, read off the numbers. -/
theorem prt_num {c : Int} {l : List Int} (hs : sidesF r c) (hl : (l.length : Int) = r * c) {n : Nat} (hn : n < (stsL c l l.length).length) :
    mkL c (fun i k => if at_ 0 (ouL c l (stsL c l l.length) []) (i * c + k) = (n : Int) + 1 then 1 else 0) (r.toNat * c.toNat) = aloL c l (at_ 0 (stsL c l l.length) (n : Int)) := by
  have e : r.toNat * c.toNat = l.length := by
    have e := congrArg Int.toNat hl
    rw [Int.toNat_natCast, Int.toNat_mul (by have := hs.1; omega) (by have := hs.2; omega)] at e
    exact e.symm
  unfold mkL aloL
  rw [e]
  apply List.map_congr_left
  intro x hx
  have hx' : x < l.length := List.mem_range.mp hx
  have e0 := Int.emod_add_mul_ediv (x : Int) c
  have e1 : (x : Int) / c * c + (x : Int) % c = (x : Int) := by rw [Int.mul_comm]; omega
  have e2 : at_ 0 (stsL c l l.length) (n : Int) = (stsL c l l.length)[n] := at_eq 0 _ hn
  have ix := nuN_ix (x := x) (stsL_pw (c := c) (l := l) l.length) hn
  rw [← e2] at ix
  simp only [e1, ouL_at hx']
  have e3 : (if nuN c l (stsL c l l.length) x = 0 then (if (x : Int) ∈ ([] : List Int) then ((stsL c l l.length).length : Int) + 1 else 0) else nuN c l (stsL c l l.length) x) = nuN c l (stsL c l l.length) x := by
    by_cases h : nuN c l (stsL c l l.length) x = 0 <;> simp [h]
  rw [e3]
  by_cases h : Rch c l (at_ 0 (stsL c l l.length) (n : Int)) x
  · rw [if_pos (ix.mpr h), if_pos h]
  · rw [if_neg (fun g => h (ix.mp g)), if_neg h]
end Go.Proofs.YtnijdhlmimemcaaGreatDoor
/- Parts of fields: the program's, and the reference's front. -/
namespace Go.Proofs.YtnijdhlmimemcaaGreatDoor
open HL
variable {r c : Int}
set_option maxRecDepth 100000
theorem C.c80 {pn pf pt nb : Value} {i k t : Int} {m : List Int}  {vc : Value} {H : Hp} {K : Value → Hp → Prop} (hpn0 : Cel H pn [nb]) (hpf0 : Cel H pf [(.int .i64 (r)), (.int .i64 (c)), vc]) (hpt0 : Cel H pt [(.int .i64 (t))]) (hnb0 : Sl eI H nb m) (hs : sidesF r c) (hl : (m.length : Int) = r * c) (i0 : 0 ≤ i) (i1 : i < r) (j0 : 0 ≤ k) (j1 : k < c) (t0 : 0 ≤ t) (t1 : t ≤ 1000)
    (hk : ∀ H', Le H H' → K (.int .i64 (if at_ 0 m (i * c + k) = t + 1 then 1 else 0)) H') : HT prg 103 [(.int .i64 (i)), (.int .i64 (k)), pn, pf, pt].toArray H K := by
 have lE := Le.refl H
 refine R.q103 ?_
 unfold F.q103
 have q1 := hs.1
 have q2 := hs.2
 have qm := sidesF_mul hs
 have x2 := ix_lt (a := i) (b := k) (r := r) (c := c) (by omega) (by omega) (by omega) (by omega)
 refine ob_i ((hpn0.le lE).ld0 rfl) (ob_i ((hpf0.le lE).fa 1) (ob_i ((hpf0.le lE).ld 1 rfl) (ob_i (vInt_mul (by omega) (by omega)) (ob_i (vInt_add (by omega) (by omega)) (ob_i ((hnb0.le lE).ix (by omega) (by omega)) (ob_i ((hnb0.le lE).ld 0 (by omega) (by omega)) (ob_i ((hpt0.le lE).ld0 rfl) (ob_i (vInt_add (by omega) (by omega)) (ob_i (vInt_eql _ _ _) (C.c47  ?_))))))))))
 refine ⟨Le.refl _, ?_⟩
 exact keq (K := K) (by rw [show ((if (decide ((at_ 0 (m) ((i * c) + k)) = (t + 1))) = true then 1 else 0) : Int) = (if at_ 0 m (i * c + k) = t + 1 then 1 else 0) from by simp only [decide_eq_true_eq]]) (hk   _    lE)

set_option maxHeartbeats 2000000 in
theorem C.c81 {vc : Value} {l : List Int}  {H : Hp} {K : Value → Hp → Prop} (hvc0 : Sl eI H vc l) (k1 : l.length ≤ 9223372036854775807)
    (hk : ∀ u1 Su1 u2 H', Fam H' u1 Su1 (selL (fieldN 1 r c l) (prtL r c l (stsL c l l.length))) → Own eI H' u2 (selL (fieldN 1 r c l) (plcL r c l (stsL c l l.length))) → Nws H Su1 → Nw H u2 → Apt Su1 u2 → Le H H' → K (.tuple #[u1, u2, (.bool (decide (fieldN 1 r c l)))]) H') : HT prg 67 [(.agg #[(.int .i64 (r)), (.int .i64 (c)), vc])].toArray H K := by
 have lE := Le.refl H
 refine R.q67 ?_
 unfold F.q67
 refine nw_i (fun pf H1 opf nn2 le3 => ?_)
 replace opf : Cel H1 pf [(.int .i64 (r)), (.int .i64 (c)), vc] := opf
 refine ob_i (opf.ldn rfl) ?_
 replace lE := lE.trans le3
 refine C.c8 (hvc0.le lE) (by first | omega | assumption) (fun   H4    le5 => ?_)
 refine ob_nd (fun hc6 => ?_) (fun hc6 => ?_)
 have hf := hc6
 have l1 := fieldN_len hf
 have hs := hf.1
 have hl := hf.2.1
 have q1 := hs.1
 have q2 := hs.2
 have qm := sidesF_mul hs
 refine cnd_f1 ?_
 replace opf := opf.le le5
 refine ob_i (opf.ldn rfl) (ob_i (opf.ldn rfl) (R.qx35 ?_))
 unfold F.qx35
 refine nw_i (fun p2 H7 op2 nn8 le9 => ?_)
 replace op2 : Cel H7 p2 [(.int .i64 (r)), (.int .i64 (c)), vc] := op2
 refine ob_i (op2.fa 2) (ob_i (op2.ld 2 rfl) ?_)
 replace lE := (lE.trans le5).trans le9
 refine ob_i ((hvc0.le lE).len) (Own.mk_ (z := (0 : Int)) (by omega) (by omega) (by omega) (by omega) (fun ou H10 oou nn11 le12 => ?_))
 replace opf := opf.le le9
 have apfXou := opf.apart nn11
 have ap2Xou := op2.apart nn11
 have nou := nn11.le lE
 refine nw_i (fun po H13 opo nn14 le15 => ?_)
 replace opf := opf.le le12
 have apfXpo := opf.apart nn14
 replace op2 := op2.le le12
 have ap2Xpo := op2.apart nn14
 have aouXpo := oou.apart nn14
 replace lE := lE.trans le12
 have npo := nn14.le lE
 replace opo : Cel H13 po [(.slice none 0 0)] := opo
 replace oou := oou.le le15
 refine opo.st0 (by simp) oou.one oou.cells (fun H16 opo off17 => ?_)
 replace opo : Cel H16 po [ou] := opo
 refine nw_i (fun pc H18 opc nn19 le20 => ?_)
 replace opf := (opf.le le15).off off17 apfXpo
 have apfXpc := opf.apart nn19
 replace op2 := (op2.le le15).off off17 ap2Xpo
 have ap2Xpc := op2.apart nn19
 replace oou := oou.off off17 aouXpo
 have aouXpc := oou.apart nn19
 have apoXpc := opo.apart nn19
 replace lE := off17.le (lE.trans le15) npo
 have npc := nn19.le lE
 replace opc : Cel H18 pc [(.int .i64 (0))] := opc
 refine opc.st0 (by simp) rfl rfl (fun H21 opc off22 => ?_)
 replace opc : Cel H21 pc [(.int .i64 (0))] := opc
 refine jn_i (fun σ' H' => σ' 6 = po ∧ σ' 7 = pc ∧ Cel H' pf [(.int .i64 (r)), (.int .i64 (c)), vc] ∧ Cel H' p2 [(.int .i64 (r)), (.int .i64 (c)), vc] ∧ Own eI H' ou (ouL c l (stsL c l l.length) []) ∧ Cel H' po [ou] ∧ Cel H' pc [(.int .i64 (((stsL c l l.length).length : Int)))] ∧ Le H H') (fun σ23 H23 hP => ?_) (fun J23 hJ23 => ?_)
 replace opf := (opf.le le20).off off22 apfXpc
 replace op2 := (op2.le le20).off off22 ap2Xpc
 replace oou := (oou.le le20).off off22 aouXpc
 replace opo := (opo.le le20).off off22 apoXpc
 replace lE := off22.le (lE.trans le20) npc
 obtain ⟨g6L23, g7L23, opf, op2, oou, opo, opc, lE⟩ := hP
 try simp only [g6L23, g7L23]
 refine ob_i (opo.ld0 rfl) (ob_i (opc.ld0 rfl) (ob_i (vExt_20 _ _) (ob_i (vExt_21 _ _) (nw_i (fun pn H24 opn nn25 le26 => ?_)))))
 have apfXpn := opf.apart nn25
 have ap2Xpn := op2.apart nn25
 have aouXpn := oou.apart nn25
 have apoXpn := opo.apart nn25
 have apcXpn := opc.apart nn25
 have npn := nn25.le lE
 replace opn : Cel H24 pn [(.slice none 0 0)] := opn
 replace oou := oou.le le26
 refine opn.st0 (by simp) oou.one oou.cells (fun H27 opn off28 => ?_)
 replace opn : Cel H27 pn [ou] := opn
 refine bSE_fam (fun ps Sps H29 ops nn30 le32 => ?_)
 replace opf := (opf.le le26).off off28 apfXpn
 have apfXps : Apt pf Sps := Apt.of_nws opf.known nn30
 replace op2 := (op2.le le26).off off28 ap2Xpn
 have ap2Xps : Apt p2 Sps := Apt.of_nws op2.known nn30
 replace oou := oou.off off28 aouXpn
 have aouXps : Apt ou Sps := Apt.of_nws oou.known nn30
 replace opo := (opo.le le26).off off28 apoXpn
 have apoXps : Apt po Sps := Apt.of_nws opo.known nn30
 replace opc := (opc.le le26).off off28 apcXpn
 have apcXps : Apt pc Sps := Apt.of_nws opc.known nn30
 have apnXps : Apt pn Sps := Apt.of_nws opn.known nn30
 replace lE := off28.le (lE.trans le26) npn
 have nps : Nws H Sps := nn30.le lE
 refine bS_nil (enc := eI) (fun pl H33 opl nn34 kk35 le36 => ?_)
 replace opf := opf.le le32
 have apfXpl := opf.apart nn34
 replace op2 := op2.le le32
 have ap2Xpl := op2.apart nn34
 replace oou := oou.le le32
 have aouXpl := oou.apart nn34
 replace opo := opo.le le32
 have apoXpl := opo.apart nn34
 replace opc := opc.le le32
 have apcXpl := opc.apart nn34
 replace opn := opn.le le32
 have apnXpl := opn.apart nn34
 have apsXpl : Apt Sps pl := Apt.of_nw ops.known nn34
 replace lE := lE.trans le32
 have npl := nn34.le lE
 refine jn_i (fun σ' H' => ∃ ps, ∃ Sps, ∃ pl, σ' 7 = ps ∧ σ' 8 = pl ∧ Cel H' pf [(.int .i64 (r)), (.int .i64 (c)), vc] ∧ Cel H' p2 [(.int .i64 (r)), (.int .i64 (c)), vc] ∧ Own eI H' ou (ouL c l (stsL c l l.length) []) ∧ Cel H' po [ou] ∧ Cel H' pc [(.int .i64 (((stsL c l l.length).length : Int)))] ∧ Cel H' pn [ou] ∧ Fam H' ps Sps (prtL r c l (stsL c l l.length)) ∧ Own eI H' pl (plcL r c l (stsL c l l.length)) ∧ Nws H Sps ∧ Apt pf Sps ∧ Apt p2 Sps ∧ Apt ou Sps ∧ Apt po Sps ∧ Apt pc Sps ∧ Apt pn Sps ∧ Nw H pl ∧ Apart pf pl ∧ Apart p2 pl ∧ Apart ou pl ∧ Apart po pl ∧ Apart pc pl ∧ Apart pn pl ∧ Apt Sps pl ∧ Le H H') (fun σ37 H37 hP => ?_) (fun J37 hJ37 => ?_)
 replace opf := opf.le le36
 replace op2 := op2.le le36
 replace oou := oou.le le36
 replace opo := opo.le le36
 replace opc := opc.le le36
 replace opn := opn.le le36
 replace ops := ops.le le36
 replace lE := lE.trans le36
 obtain ⟨ps, Sps, pl, g7L37, g8L37, opf, op2, oou, opo, opc, opn, ops, opl, nps, apfXps, ap2Xps, aouXps, apoXps, apcXps, apnXps, npl, apfXpl, ap2Xpl, aouXpl, apoXpl, apcXpl, apnXpl, apsXpl, lE⟩ := hP
 try simp only [g7L37, g8L37]
 have hok : fieldN 1 r c l := by assumption
 exact keq (K := K) (by rw [decide_eq_true (show (fieldN 1 r c l) from by exact hok)]) (hk  ps _ pl _ (Fam.cast (show prtL r c l (stsL c l l.length) = selL (fieldN 1 r c l) (prtL r c l (stsL c l l.length)) by exact (selL_t hok).symm) ops) (Own.cast (show plcL r c l (stsL c l l.length) = selL (fieldN 1 r c l) (plcL r c l (stsL c l l.length)) by exact (selL_t hok).symm) opl) nps npl apsXpl lE)
 replace opf := opf.le le36
 replace op2 := op2.le le36
 replace oou := oou.le le36
 replace opo := opo.le le36
 replace opc := opc.le le36
 replace opn := opn.le le36
 replace ops := ops.le le36
 replace lE := lE.trans le36
 refine ⟨fun n' σ' H' => ∃ t : Nat, n' = (stsL c l l.length).length - t ∧ t ≤ (stsL c l l.length).length ∧ ∃ ps, ∃ Sps, ∃ pl, σ' 1 = pf ∧ σ' 5 = pn ∧ σ' 7 = ps ∧ σ' 8 = pl ∧ σ' 27 = (.int .i64 (((stsL c l l.length).length : Int))) ∧ σ' 28 = (.int .i64 ((t : Int))) ∧ Cel H' pf [(.int .i64 (r)), (.int .i64 (c)), vc] ∧ Cel H' p2 [(.int .i64 (r)), (.int .i64 (c)), vc] ∧ Own eI H' ou (ouL c l (stsL c l l.length) []) ∧ Cel H' po [ou] ∧ Cel H' pc [(.int .i64 (((stsL c l l.length).length : Int)))] ∧ Cel H' pn [ou] ∧ Fam H' ps Sps (prtL r c l ((stsL c l l.length).take t)) ∧ Own eI H' pl (plcL r c l ((stsL c l l.length).take t)) ∧ Nws H Sps ∧ Apt pf Sps ∧ Apt p2 Sps ∧ Apt ou Sps ∧ Apt po Sps ∧ Apt pc Sps ∧ Apt pn Sps ∧ Nw H pl ∧ Apart pf pl ∧ Apart p2 pl ∧ Apart ou pl ∧ Apart po pl ∧ Apart pc pl ∧ Apart pn pl ∧ Apt Sps pl ∧ Le H H',
    ⟨_, 0, rfl, by omega, ps, Sps, pl, rfl, rfl, rfl, rfl, rfl, (congrArg (Value.int .i64) (by first | omega | rfl | (simp; done))), opf, op2, oou, opo, opc, opn, (Fam.cast (by first | rfl | (simp; done)) ops), (Own.cast (by first | rfl | (simp; done)) opl), nps, apfXps, ap2Xps, aouXps, apoXps, apcXps, apnXps, npl, apfXpl, ap2Xpl, aouXpl, apoXpl, apcXpl, apnXpl, apsXpl, lE⟩, ?_⟩
 rintro n38 σ38 H38 ⟨t, rfl, htN, ps, Sps, pl, g1L38, g5L38, g7L38, g8L38, g27L38, g28L38, opf, op2, oou, opo, opc, opn, ops, opl, nps, apfXps, ap2Xps, aouXps, apoXps, apcXps, apnXps, npl, apfXpl, ap2Xpl, aouXpl, apoXpl, apcXpl, apnXpl, apsXpl, lE⟩
 try simp only [g1L38, g5L38, g7L38, g8L38, g27L38, g28L38]
 have sl := stsL_len (c := c) (l := l) l.length
 have pl1 := prtL_len (r := r) (c := c) (l := l) (L := (stsL c l l.length).take t)
 have pl2 := plcL_len (r := r) (c := c) (l := l) (L := (stsL c l l.length).take t)
 have pl3 : ((stsL c l l.length).take t).length = t := by rw [List.length_take]; omega
 refine ob_i (vInt_lss _ _ _) (cnd_d (fun hg39 => ?_) (fun hg39 => ?_))
 have tt := hg39
 refine nw_i (fun p40 H41 op40 nn42 le43 => ?_)
 have apfXp40 := opf.apart nn42
 have ap2Xp40 := op2.apart nn42
 have aouXp40 := oou.apart nn42
 have apoXp40 := opo.apart nn42
 have apcXp40 := opc.apart nn42
 have apnXp40 := opn.apart nn42
 have apsXp40 : Apt Sps p40 := Apt.of_nw ops.known nn42
 have aplXp40 := opl.apart nn42
 have np40 := nn42.le lE
 replace op40 : Cel H41 p40 [(.int .i64 (0))] := op40
 refine op40.st0 (by simp) rfl rfl (fun H44 op40 off45 => ?_)
 replace op40 : Cel H44 p40 [(.int .i64 ((t : Int)))] := op40
 replace opf := (opf.le le43).off off45 apfXp40
 refine ob_i (opf.fa 0) (ob_i (opf.ld 0 rfl) (ob_i (opf.fa 1) (ob_i (opf.ld 1 rfl) (C.c18 (g := (fun x y => if at_ 0 (ouL c l (stsL c l l.length) []) (x * c + y) = (t : Int) + 1 then 1 else 0)) (by omega) (by omega) (by omega) (by omega) (fun H49c i49 k49 Z leZ hi49 hk49 hZ => ?_) (fun al H46 oal nn47 le48 => ?_)))))
 refine ⟨by kernel_rfl, ?_⟩
 have lZ := Le.refl H49c
 replace oou := ((oou.le le43).off off45 aouXp40).le leZ
 replace opn := ((opn.le le43).off off45 apnXp40).le leZ
 replace opf := opf.le leZ
 replace op40 := op40.le leZ
 refine C.c80 opn opf op40 oou.sl (by exact hs) (by rw [ouL_len]; exact hl) (by first | omega | assumption) (by first | omega | assumption) (by first | omega | assumption) (by first | omega | assumption) (by first | omega | assumption) (by first | omega | assumption) (fun   H50    le51 => ?_)
 replace lZ := lZ.trans le51
 exact keq (K := Z) (by rw [show ((if at_ 0 (ouL c l (stsL c l l.length) []) ((i49 : Int) * c + (k49 : Int)) = (t : Int) + 1 then 1 else 0) : Int) = ((fun x y => if at_ 0 (ouL c l (stsL c l l.length) []) (x * c + y) = (t : Int) + 1 then 1 else 0)) (i49 : Int) (k49 : Int) from rfl]) (hZ _ lZ)
 replace oal := oal.cast (prt_num hs hl (by omega))
 refine nw_i (fun p52 H53 op52 nn54 le55 => ?_)
 replace opf := opf.le le48
 have apfXp52 := opf.apart nn54
 replace op2 := ((op2.le le43).off off45 ap2Xp40).le le48
 have ap2Xp52 := op2.apart nn54
 replace oou := ((oou.le le43).off off45 aouXp40).le le48
 have aouXp52 := oou.apart nn54
 replace opo := ((opo.le le43).off off45 apoXp40).le le48
 have apoXp52 := opo.apart nn54
 replace opc := ((opc.le le43).off off45 apcXp40).le le48
 have apcXp52 := opc.apart nn54
 replace opn := ((opn.le le43).off off45 apnXp40).le le48
 have apnXp52 := opn.apart nn54
 replace ops := ((ops.le le43).off off45 apsXp40).le le48
 have apsXp52 : Apt Sps p52 := Apt.of_nw ops.known nn54
 replace opl := ((opl.le le43).off off45 aplXp40).le le48
 have aplXp52 := opl.apart nn54
 have aalXp52 := oal.apart nn54
 replace lE := (off45.le (lE.trans le43) np40).trans le48
 have np52 := nn54.le lE
 replace oal := oal.le le55
 refine op52.stn (ws := [(.int .i64 (r)), (.int .i64 (c)), al]) rfl rfl (oc1 rfl (oc1 rfl (oc1 oal.one oc0))) (fun H56 op52 off57 => ?_)
 refine ob_i (op52.ldn rfl) ?_
 have hpos : ¬ (trm r c (aloL c l (at_ 0 (stsL c l l.length) (t : Int)))).2.1 < 0 := by have := alo_pos hs hl (stsL_on (at_mem 0 (stsL c l l.length) (i := (t : Int)) (by omega) (by omega))).1; omega
 replace oal := oal.off off57 aalXp52
 refine C.c33 oal.sl (by first | omega | assumption) (by rw [aloL_len]; exact hl) (fun hc58  H59    le60 => ?_) (fun hc61 u64 H62 ou64 nn65  le63 => ?_)
 exact absurd hc58 hpos
 replace opf := (opf.le le55).off off57 apfXp52
 have apfXu64 := opf.apart nn65
 replace op2 := (op2.le le55).off off57 ap2Xp52
 have ap2Xu64 := op2.apart nn65
 replace oou := (oou.le le55).off off57 aouXp52
 have aouXu64 := oou.apart nn65
 replace opo := (opo.le le55).off off57 apoXp52
 have apoXu64 := opo.apart nn65
 replace opc := (opc.le le55).off off57 apcXp52
 have apcXu64 := opc.apart nn65
 replace opn := (opn.le le55).off off57 apnXp52
 have apnXu64 := opn.apart nn65
 replace ops := (ops.le le55).off off57 apsXp52
 have apsXu64 : Apt Sps u64 := Apt.of_nw ops.known nn65
 replace opl := (opl.le le55).off off57 aplXp52
 have aplXu64 := opl.apart nn65
 replace lE := off57.le (lE.trans le55) np52
 have nu64 := nn65.le lE
 refine ob_i (vExt_40 _ _ _ _) (ob_i (vExt_41 _ _ _ _) (ob_i (vExt_42 _ _ _ _) (ob_i (vExt_43 _ _ _ _) (nw_i (fun p66 H67 op66 nn68 le69 => ?_)))))
 replace opf := opf.le le63
 have apfXp66 := opf.apart nn68
 replace op2 := op2.le le63
 have ap2Xp66 := op2.apart nn68
 replace oou := oou.le le63
 have aouXp66 := oou.apart nn68
 replace opo := opo.le le63
 have apoXp66 := opo.apart nn68
 replace opc := opc.le le63
 have apcXp66 := opc.apart nn68
 replace opn := opn.le le63
 have apnXp66 := opn.apart nn68
 replace ops := ops.le le63
 have apsXp66 : Apt Sps p66 := Apt.of_nw ops.known nn68
 replace opl := opl.le le63
 have aplXp66 := opl.apart nn68
 have au64Xp66 := ou64.apart nn68
 replace lE := lE.trans le63
 have np66 := nn68.le lE
 replace ou64 := ou64.le le69
 refine op66.stn (ws := [(.int .i64 (trR r c (aloL c l (at_ 0 (stsL c l l.length) (t : Int))))), (.int .i64 (trC r c (aloL c l (at_ 0 (stsL c l l.length) (t : Int))))), u64]) rfl rfl (oc1 rfl (oc1 rfl (oc1 ou64.one oc0))) (fun H70 op66 off71 => ?_)
 refine ob_i (op66.ldn rfl) (bSE_one (enc := encFv) (x := (⟨trR r c (aloL c l (at_ 0 (stsL c l l.length) (t : Int))), trC r c (aloL c l (at_ 0 (stsL c l l.length) (t : Int))), u64⟩ : Fv)) rfl rfl (by omega) (by omega) rfl (fun u72 H73 ou72 nn74 le76 => ?_) rfl)
 replace ops := ((ops.le le69).off off71 apsXp66).le le76
 replace ou64 := (ou64.off off71 au64Xp66).le le76
 refine Fam.push ops rfl (ou72.sl encFv_n) ou64 apsXu64.symm (by omega) (by first | omega | (simp; omega)) (fun u81 Su81 H77 ou81 off78 hb79 hx80 oxu64 => ?_)
 replace opf := ((opf.le le69).off off71 apfXp66).le le76
 have apfXu81 : Apt pf Su81 := Apt.push opf.known apfXps apfXu64 hb79
 replace op2 := ((op2.le le69).off off71 ap2Xp66).le le76
 have ap2Xu81 : Apt p2 Su81 := Apt.push op2.known ap2Xps ap2Xu64 hb79
 replace oou := ((oou.le le69).off off71 aouXp66).le le76
 have aouXu81 : Apt ou Su81 := Apt.push oou.known aouXps aouXu64 hb79
 replace opo := ((opo.le le69).off off71 apoXp66).le le76
 have apoXu81 : Apt po Su81 := Apt.push opo.known apoXps apoXu64 hb79
 replace opc := ((opc.le le69).off off71 apcXp66).le le76
 have apcXu81 : Apt pc Su81 := Apt.push opc.known apcXps apcXu64 hb79
 replace opn := ((opn.le le69).off off71 apnXp66).le le76
 have apnXu81 : Apt pn Su81 := Apt.push opn.known apnXps apnXu64 hb79
 replace opl := ((opl.le le69).off off71 aplXp66).le le76
 have aplXu81 : Apt pl Su81 := Apt.push opl.known apsXpl.symm aplXu64 hb79
 replace lE := (off71.le (lE.trans le69) np66).trans le76
 have nu81 : Nws H Su81 := Nws.push lE nps nu64 hb79
 replace ou64 := oxu64.ro
 refine bS_i (enc := eI) (l := [(trm r c (aloL c l (at_ 0 (stsL c l l.length) (t : Int)))).1, (trm r c (aloL c l (at_ 0 (stsL c l l.length) (t : Int)))).2.2.1]) (by omega) rfl (by kernel_rfl) (fun u82 H83 ou82 nn84 le86 => ?_)
 replace opl := (opl.offS off78 apsXpl.symm).le le86
 refine apd_any opl ou82.sl (fun _ => rfl) (by omega) (by first | omega | (simp only [List.length_cons, List.length_nil, List.length_append, List.length_replicate, List.length_map, List.length_range]; omega)) (fun u90 H87 ou90 off88 hb89 => ?_)
 replace opf := (opf.offS off78 apfXps).le le86
 have apfXu90 := Apart.ap2 opf.known apfXpl hb89
 replace op2 := (op2.offS off78 ap2Xps).le le86
 have ap2Xu90 := Apart.ap2 op2.known ap2Xpl hb89
 replace oou := (oou.offS off78 aouXps).le le86
 have aouXu90 := Apart.ap2 oou.known aouXpl hb89
 replace opo := (opo.offS off78 apoXps).le le86
 have apoXu90 := Apart.ap2 opo.known apoXpl hb89
 replace opc := (opc.offS off78 apcXps).le le86
 have apcXu90 := Apart.ap2 opc.known apcXpl hb89
 replace opn := (opn.offS off78 apnXps).le le86
 have apnXu90 := Apart.ap2 opn.known apnXpl hb89
 replace ou81 := ou81.le le86
 have au81Xu90 := Apt.ap2 ou81.known aplXu81.symm hb89
 replace lE := (off78.le lE nps).trans le86
 have nu90 : Nw H u90 := Nw.ap2 npl lE hb89
 refine ob_i (vInt_add (by omega) (by omega)) ?_
 replace opf := opf.off off88 apfXpl
 replace op2 := op2.off off88 ap2Xpl
 replace oou := oou.off off88 aouXpl
 replace opo := opo.off off88 apoXpl
 replace opc := opc.off off88 apcXpl
 replace opn := opn.off off88 apnXpl
 replace ou81 := ou81.off off88 aplXu81.symm
 replace lE := off88.le lE npl
 exact nxt ((stsL c l l.length).length - (t + 1)) (by omega) ⟨t + 1, rfl, by omega, u81, Su81, u90, g1L38, g5L38, rfl, rfl, g27L38, (congrArg (Value.int .i64) (by first | omega | rfl | (simp; done))), opf, op2, oou, opo, opc, opn, (Fam.cast (by rw [take_at 0 (stsL c l l.length) (show t < (stsL c l l.length).length by omega)]; exact prtL_snoc _) ou81), (Own.cast (by rw [take_at 0 (stsL c l l.length) (show t < (stsL c l l.length).length by omega)]; exact plcL_snoc _) ou90), nu81, apfXu81, ap2Xu81, aouXu81, apoXu81, apcXu81, apnXu81, nu90, apfXu90, ap2Xu90, aouXu90, apoXu90, apcXu90, apnXu90, au81Xu90, lE⟩
 have tt := hg39
 rw [List.take_of_length_le (by omega)] at ops opl
 exact hJ37 _ _ ⟨ps, Sps, pl, g7L38, g8L38, opf, op2, oou, opo, opc, opn, ops, opl, nps, apfXps, ap2Xps, aouXps, apoXps, apcXps, apnXps, npl, apfXpl, ap2Xpl, aouXpl, apoXpl, apcXpl, apnXpl, apsXpl, lE⟩
 replace op2 := (op2.le le20).off off22 ap2Xpc
 refine ob_i (op2.fa 2) (ob_i (op2.ld 2 rfl) ?_)
 replace lE := off22.le (lE.trans le20) npc
 refine ob_i ((hvc0.le lE).len) ?_
 replace opf := (opf.le le20).off off22 apfXpc
 replace oou := (oou.le le20).off off22 aouXpc
 replace opo := (opo.le le20).off off22 apoXpc
 refine ⟨fun n' σ' H' => ∃ i : Nat, n' = l.length - i ∧ i ≤ l.length ∧ σ' 1 = (.func (.func 102) #[(.agg #[(.int .i64 (r)), (.int .i64 (c)), vc])] #[]) ∧ σ' 2 = p2 ∧ σ' 6 = po ∧ σ' 7 = pc ∧ σ' 17 = vc ∧ σ' 18 = (.int .i64 (((l).length : Int))) ∧ σ' 19 = (.int .i64 ((i : Int))) ∧ Cel H' pf [(.int .i64 (r)), (.int .i64 (c)), vc] ∧ Cel H' p2 [(.int .i64 (r)), (.int .i64 (c)), vc] ∧ Own eI H' ou (ouL c l (stsL c l i) []) ∧ Cel H' po [ou] ∧ Cel H' pc [(.int .i64 (((stsL c l i).length : Int)))] ∧ Le H H',
    ⟨_, 0, rfl, by omega, rfl, rfl, rfl, rfl, rfl, rfl, (congrArg (Value.int .i64) (by first | omega | rfl | (simp; done))), opf, op2, (Own.cast (by rw [ouL_zero]; simp) oou), opo, (Cel.cast (by first | rfl | (simp [stsL]; done)) opc), lE⟩, ?_⟩
 rintro n91 σ91 H91 ⟨i, rfl, hiN, g1L91, g2L91, g6L91, g7L91, g17L91, g18L91, g19L91, opf, op2, oou, opo, opc, lE⟩
 try simp only [g1L91, g2L91, g6L91, g7L91, g17L91, g18L91, g19L91]
 have sl := stsL_len (c := c) (l := l) i
 have oL := ouL_len (c := c) (l := l) (L := (stsL c l i)) (ls := [])
 refine ob_i (vInt_lss _ _ _) (cnd_d (fun hg92 => ?_) (fun hg92 => ?_))
 have ti := hg92
 refine jn_i (fun σ' H' => σ' 1 = (.func (.func 102) #[(.agg #[(.int .i64 (r)), (.int .i64 (c)), vc])] #[]) ∧ σ' 2 = p2 ∧ σ' 6 = po ∧ σ' 7 = pc ∧ σ' 17 = vc ∧ σ' 18 = (.int .i64 (((l).length : Int))) ∧ σ' 19 = (.int .i64 ((i : Int))) ∧ Cel H' pf [(.int .i64 (r)), (.int .i64 (c)), vc] ∧ Cel H' p2 [(.int .i64 (r)), (.int .i64 (c)), vc] ∧ Own eI H' ou (ouL c l (stsL c l (i + 1)) []) ∧ Cel H' po [ou] ∧ Cel H' pc [(.int .i64 (((stsL c l (i + 1)).length : Int)))] ∧ Le H H') (fun σ93 H93 hP => ?_) (fun J93 hJ93 => ?_)
 obtain ⟨g1L93, g2L93, g6L93, g7L93, g17L93, g18L93, g19L93, opf, op2, oou, opo, opc, lE⟩ := hP
 try simp only [g19L93]
 refine ob_i (vInt_add (by omega) (by omega)) ?_
 exact nxt (l.length - (i + 1)) (by omega) ⟨i + 1, rfl, by omega, g1L93, g2L93, g6L93, g7L93, g17L93, g18L93, (congrArg (Value.int .i64) (by first | omega | rfl | (simp; done))), opf, op2, oou, opo, opc, lE⟩
 refine ob_i ((hvc0.le lE).ix (by omega) (by omega)) (ob_i ((hvc0.le lE).ld 0 (by omega) (by omega)) (ob_i (vInt_neq _ _ _) ?_))
 by_cases hc94 : (at_ 0 (l) ((i : Int))) ≠ 1
 refine hT hc94 (hT hc94 (hT hc94 (hT hc94 (hT hc94 (ob_i (vPick_et (decide_eq_true hc94) _ _) (cnd_t1 ?_))))))
 have hno : stsL c l (i + 1) = (stsL c l i) := stsL_f (fun g => hc94 g.1.2)
 exact hJ93 _ _ ⟨g1L91, g2L91, g6L91, g7L91, g17L91, g18L91, g19L91, opf, op2, (Own.cast (by rw [hno]) oou), opo, (Cel.cast (by rw [hno]) opc), lE⟩
 refine gF hc94 (ob_i (opo.ld0 rfl) (gF hc94 (gF hc94 (ob_i (oou.sl.ix (by omega) (by omega)) (gF hc94 (ob_i (oou.sl.ld 0 (by omega) (by omega)) (gF hc94 (ob_i (vInt_neq _ _ _) (ob_i (vPick_ef (decide_eq_false hc94) _ _) (cnd_d (fun hg95 => ?_) (fun hg95 => ?_)))))))))))
 have hno : stsL c l (i + 1) = (stsL c l i) := stsL_f (fun g => (ouL_t (by omega) hg95).elim (fun ⟨s, h1, h2⟩ => g.2 s h1 h2) (fun h1 => by simp at h1))
 exact hJ93 _ _ ⟨g1L91, g2L91, g6L91, g7L91, g17L91, g18L91, g19L91, opf, op2, (Own.cast (by rw [hno]) oou), opo, (Cel.cast (by rw [hno]) opc), lE⟩
 refine ob_i (opc.ld0 rfl) (ob_i (vInt_add (by omega) (by omega)) (opc.st0 (by simp) rfl rfl (fun H96 opc off97 => ?_)))
 replace opc : Cel H96 pc [(.int .i64 ((((stsL c l i).length : Int)) + 1))] := opc
 replace opo := opo.off off97 apoXpc
 refine ob_i (opo.ld0 rfl) (ob_i (opc.ld0 rfl) ?_)
 replace oou := oou.off off97 aouXpc
 refine ob_i (oou.sl.ix (by omega) (by omega)) (oou.st (x := (((stsL c l i).length : Int)) + 1) (by omega) (by omega) rfl rfl (fun H98 oou off99 => ?_))
 refine bS_i (enc := eI) (l := [(i : Int)]) (by omega) rfl (by kernel_rfl) (fun td0 H100 otd0 nn101 le103 => ?_)
 replace opf := (opf.off off97 apfXpc).off off99 apfXou
 have apfXtd0 := opf.apart nn101
 replace op2 := (op2.off off97 ap2Xpc).off off99 ap2Xou
 have ap2Xtd0 := op2.apart nn101
 have aouXtd0 := oou.apart nn101
 replace opo := opo.off off99 aouXpo.symm
 have apoXtd0 := opo.apart nn101
 replace opc := opc.off off99 aouXpc.symm
 have apcXtd0 := opc.apart nn101
 replace lE := off99.le (off97.le lE npc) nou
 have ntd0 := nn101.le lE
 refine nw_i (fun ptd H104 optd nn105 le106 => ?_)
 replace opf := opf.le le103
 have apfXptd := opf.apart nn105
 replace op2 := op2.le le103
 have ap2Xptd := op2.apart nn105
 replace oou := oou.le le103
 have aouXptd := oou.apart nn105
 replace opo := opo.le le103
 have apoXptd := opo.apart nn105
 replace opc := opc.le le103
 have apcXptd := opc.apart nn105
 have atd0Xptd := otd0.apart nn105
 replace lE := lE.trans le103
 have nptd := nn105.le lE
 replace optd : Cel H104 ptd [(.slice none 0 0)] := optd
 replace otd0 := otd0.le le106
 refine optd.st0 (by simp) otd0.one otd0.cells (fun H107 optd off108 => ?_)
 replace optd : Cel H107 ptd [td0] := optd
 have hon : onP l i := ⟨by omega, Decidable.not_not.mp hc94⟩
 have hnr : ∀ s ∈ (stsL c l i), ¬ Rch c l s i := (ouL_f (by omega) (Decidable.not_not.mp hg95)).1
 replace opf := (opf.le le106).off off108 apfXptd
 replace op2 := (op2.le le106).off off108 ap2Xptd
 replace oou := (oou.le le106).off off108 aouXptd
 replace opo := (opo.le le106).off off108 apoXptd
 replace opc := (opc.le le106).off off108 apcXptd
 replace lE := off108.le (lE.trans le106) nptd
 replace otd0 := otd0.off off108 atd0Xptd
 refine ⟨fun n' σ' H' => ∃ t : Nat, n' = l.length - t ∧ t ≤ l.length ∧ ∃ td, ∃ ls : List Int, ∃ tds : List Int, σ' 1 = (.func (.func 102) #[(.agg #[(.int .i64 (r)), (.int .i64 (c)), vc])] #[]) ∧ σ' 2 = p2 ∧ σ' 6 = po ∧ σ' 7 = pc ∧ σ' 10 = ptd ∧ σ' 17 = vc ∧ σ' 18 = (.int .i64 (((l).length : Int))) ∧ σ' 19 = (.int .i64 ((i : Int))) ∧ Cel H' pf [(.int .i64 (r)), (.int .i64 (c)), vc] ∧ Cel H' p2 [(.int .i64 (r)), (.int .i64 (c)), vc] ∧ Own eI H' ou (ouL c l (stsL c l i) ls) ∧ Cel H' po [ou] ∧ Cel H' pc [(.int .i64 ((((stsL c l i).length : Int)) + 1))] ∧ Cel H' ptd [td] ∧ Own eI H' td (tds) ∧ Nw H td ∧ Apart pf td ∧ Apart p2 td ∧ Apart ou td ∧ Apart po td ∧ Apart pc td ∧ Apart ptd td ∧ Le H H' ∧ stS c l i ls tds ∧ t + tds.length = ls.length,
    ⟨_, 0, rfl, by omega, td0, [(i : Int)], [(i : Int)], g1L91, g2L91, g6L91, g7L91, rfl, g17L91, g18L91, g19L91, opf, op2, (Own.cast (ouL_set hon.1 hnr) oou), opo, opc, optd, (Own.cast (by first | rfl | (simp; done)) otd0), ntd0, apfXtd0, ap2Xtd0, aouXtd0, apoXtd0, apcXtd0, atd0Xptd.symm, lE, (stS_start hon), rfl⟩, ?_⟩
 rintro n109 σ109 H109 ⟨t, rfl, htN, td, ls, tds, g1L109, g2L109, g6L109, g7L109, g10L109, g17L109, g18L109, g19L109, opf, op2, oou, opo, opc, optd, otd, ntd, apfXtd, ap2Xtd, aouXtd, apoXtd, apcXtd, aptdXtd, lE, hst, hct⟩
 try simp only [g1L109, g2L109, g6L109, g7L109, g10L109]
 have sl2 := stS_len hst
 have oL2 := ouL_len (c := c) (l := l) (L := (stsL c l i)) (ls := ls)
 refine ob_i (optd.ld0 rfl) (ob_i (otd.len) (ob_i (vInt_gtr _ _ _) (cnd_d (fun hg110 => ?_) (fun hg110 => ?_))))
 have tt := hg110
 have hsp := stS_pop hst (by omega)
 have hsl := stN_len hsp
 have rb := rc_bnd (r := r) (c := c) (x := at_ 0 (tds) ((tds.length : Int) - 1)) (by omega) hsl.2.2.1 (by omega) rfl rfl
 refine ob_i (optd.ld0 rfl) (ob_i (optd.ld0 rfl) (ob_i (otd.len) (ob_i (vInt_sub (by omega) (by omega)) (ob_i (otd.sl.ix (by omega) (by omega)) (ob_i (otd.sl.ld 0 (by omega) (by omega)) (ob_i (optd.ld0 rfl) (ob_i (optd.ld0 rfl) (ob_i (otd.len) (ob_i (vInt_sub (by omega) (by omega)) ?_)))))))))
 obtain ⟨x111, eq112, ox111, hb113⟩ := otd.trunc (n := ((((tds).length : Int)) - 1 : Int)) (by omega) (by omega)
 refine ob_i (eq112) ?_
 have apfXx111 : Apart pf x111 := fun b h1 h2 => apfXtd b h1 (hb113 b h2)
 have ap2Xx111 : Apart p2 x111 := fun b h1 h2 => ap2Xtd b h1 (hb113 b h2)
 have aouXx111 : Apart ou x111 := fun b h1 h2 => aouXtd b h1 (hb113 b h2)
 have apoXx111 : Apart po x111 := fun b h1 h2 => apoXtd b h1 (hb113 b h2)
 have apcXx111 : Apart pc x111 := fun b h1 h2 => apcXtd b h1 (hb113 b h2)
 have aptdXx111 : Apart ptd x111 := fun b h1 h2 => aptdXtd b h1 (hb113 b h2)
 have nx111 : Nw H x111 := fun b h2 => ntd b (hb113 b h2)
 refine optd.st0 (by simp) ox111.one ox111.cells (fun H114 optd off115 => ?_)
 replace optd : Cel H114 ptd [x111] := optd
 replace op2 := op2.off off115 ap2Xptd
 refine ob_i (op2.fa 1) (ob_i (op2.ld 1 rfl) (ob_i (vInt_quoN (by omega) (by omega) (by omega)) (ob_i (op2.fa 1) (ob_i (op2.ld 1 rfl) ?_))))
 have rm116 := And.intro (Int.emod_nonneg (at_ 0 (tds) ((((tds).length : Int)) - 1)) (b := c) (by omega)) (Int.emod_lt_of_pos (at_ 0 (tds) ((((tds).length : Int)) - 1)) (b := c) (by omega))
 refine ob_i (vInt_remN (by omega) (by omega)) ?_
 refine ⟨by kernel_rfl, ?_⟩
 obtain ⟨X0, hX0⟩ : ∃ X0, X0 = at_ 0 (tds) ((tds.length : Int) - 1) := ⟨_, rfl⟩
 rw [← hX0] at hsp rb
 replace ox111 := ox111.off off115 aptdXx111.symm
 rw [show ((tds.length : Int) - 1).toNat = tds.length - 1 by omega] at ox111
 rw [← hX0]
 replace opf := opf.off off115 apfXptd
 replace oou := oou.off off115 aouXptd
 replace opo := opo.off off115 apoXptd
 replace opc := opc.off off115 apcXptd
 replace lE := off115.le lE nptd
 refine C.c79 (Inv := fun ya yb H' => ∃ td, ∃ ls : List Int, ∃ tds : List Int, Cel H' pf [(.int .i64 (r)), (.int .i64 (c)), vc] ∧ Cel H' p2 [(.int .i64 (r)), (.int .i64 (c)), vc] ∧ Own eI H' ou (ouL c l (stsL c l i) ls) ∧ Cel H' po [ou] ∧ Cel H' pc [(.int .i64 ((((stsL c l i).length : Int)) + 1))] ∧ Cel H' ptd [td] ∧ Own eI H' td (tds) ∧ Nw H td ∧ Apart pf td ∧ Apart p2 td ∧ Apart ou td ∧ Apart po td ∧ Apart pc td ∧ Apart ptd td ∧ Le H H' ∧ stN c l i ls tds X0 ya yb ∧ t + 1 + tds.length = ls.length) hs (by omega) (by omega) (by omega) (by omega) ⟨x111, _, _, opf, op2, oou, opo, opc, optd, ox111, nx111, apfXx111, ap2Xx111, aouXx111, apoXx111, apcXx111, aptdXx111, lE, hsp, (by rw [List.length_take]; omega)⟩ (fun ya yb A117 B117 hI117 le117 => ?_) (fun ya yb A117 hno117 g1 g2 g3 g4 hI117 => ?_) (fun ya A117 g1 g2 hI117 => ?_) (fun ya yb A117 Z117 hin hne g1 g2 g3 g4 hI117 hZ117 => ?_) (fun A117 hI117 => ?_)
 obtain ⟨td, ls, tds, opf, op2, oou, opo, opc, optd, otd, ntd, apfXtd, ap2Xtd, aouXtd, apoXtd, apcXtd, aptdXtd, lE, hsn, hcm⟩ := hI117
 exact ⟨td, ls, tds, (opf.le le117), (op2.le le117), (oou.le le117), (opo.le le117), (opc.le le117), (optd.le le117), (otd.le le117), ntd, apfXtd, ap2Xtd, aouXtd, apoXtd, apcXtd, aptdXtd, (lE.trans le117), hsn, hcm⟩
 obtain ⟨td, ls, tds, opf, op2, oou, opo, opc, optd, otd, ntd, apfXtd, ap2Xtd, aouXtd, apoXtd, apcXtd, aptdXtd, lE, hsn, hcm⟩ := hI117
 exact ⟨td, ls, tds, opf, op2, oou, opo, opc, optd, otd, ntd, apfXtd, ap2Xtd, aouXtd, apoXtd, apcXtd, aptdXtd, lE, (stN_out hs hl hsn hno117), hcm⟩
 obtain ⟨td, ls, tds, opf, op2, oou, opo, opc, optd, otd, ntd, apfXtd, ap2Xtd, aouXtd, apoXtd, apcXtd, aptdXtd, lE, hsn, hcm⟩ := hI117
 exact ⟨td, ls, tds, opf, op2, oou, opo, opc, optd, otd, ntd, apfXtd, ap2Xtd, aouXtd, apoXtd, apcXtd, aptdXtd, lE, (stN_row hsn), hcm⟩
 obtain ⟨td, ls, tds, opf, op2, oou, opo, opc, optd, otd, ntd, apfXtd, ap2Xtd, aouXtd, apoXtd, apcXtd, aptdXtd, lE, hsn, hcm⟩ := hI117
 have pq := pq_dm (r := r) (c := c) hin.1.1 hin.1.2 hin.2.1 hin.2.2
 have hsl := stN_len hsn
 have oL := ouL_len (c := c) (l := l) (L := (stsL c l i)) (ls := ls)
 refine ⟨by kernel_rfl, ?_⟩
 refine R.q120 ?_
 unfold F.q120
 refine ob_i (op2.fa 1) (ob_i (op2.ld 1 rfl) (ob_i (vInt_mul (by omega) (by omega)) (ob_i (vInt_add (by omega) (by omega)) (ob_i (op2.fa 2) (ob_i (op2.ld 2 rfl) (ob_i ((hvc0.le lE).ix (by omega) (by omega)) (ob_i ((hvc0.le lE).ld 0 (by omega) (by omega)) (ob_i (vInt_eql _ _ _) ?_))))))))
 by_cases hc118 : (at_ 0 (l) ((ya * c) + yb)) = 1
 refine gT hc118 (ob_i (opo.ld0 rfl) (gT hc118 (gT hc118 (ob_i (oou.sl.ix (by omega) (by omega)) (gT hc118 (ob_i (oou.sl.ld 0 (by omega) (by omega)) (gT hc118 (ob_i (vInt_eql _ _ _) (ob_i (vPick_et (decide_eq_true hc118) _ _) (cnd_d (fun hg119 => ?_) (fun hg119 => ?_)))))))))))
 refine ob_i (opo.ld0 rfl) (ob_i (opc.ld0 rfl) (ob_i (oou.sl.ix (by omega) (by omega)) (oou.st (x := (((stsL c l i).length : Int)) + 1) (by omega) (by omega) rfl rfl (fun H120 oou off121 => ?_))))
 replace optd := optd.off off121 aouXptd.symm
 refine ob_i (optd.ld0 rfl) (bS_i (enc := eI) (l := [(ya * c) + yb]) (by omega) rfl (by kernel_rfl) (fun u122 H123 ou122 nn124 le126 => ?_))
 replace otd := (otd.off off121 aouXtd.symm).le le126
 refine apd_any otd ou122.sl (fun _ => rfl) (by omega) (by first | omega | (simp only [List.length_cons, List.length_nil, List.length_append, List.length_replicate, List.length_map, List.length_range]; omega)) (fun u130 H127 ou130 off128 hb129 => ?_)
 replace opf := (opf.off off121 apfXou).le le126
 have apfXu130 := Apart.ap2 opf.known apfXtd hb129
 replace op2 := (op2.off off121 ap2Xou).le le126
 have ap2Xu130 := Apart.ap2 op2.known ap2Xtd hb129
 replace oou := oou.le le126
 have aouXu130 := Apart.ap2 oou.known aouXtd hb129
 replace opo := (opo.off off121 aouXpo.symm).le le126
 have apoXu130 := Apart.ap2 opo.known apoXtd hb129
 replace opc := (opc.off off121 aouXpc.symm).le le126
 have apcXu130 := Apart.ap2 opc.known apcXtd hb129
 replace optd := optd.le le126
 have aptdXu130 := Apart.ap2 optd.known aptdXtd hb129
 replace lE := (off121.le lE nou).trans le126
 have nu130 : Nw H u130 := Nw.ap2 ntd lE hb129
 replace optd := optd.off off128 aptdXtd
 refine optd.st0 (by simp) ou130.one ou130.cells (fun H131 optd off132 => ?_)
 replace optd : Cel H131 ptd [u130] := optd
 have hp := stN_put (L := (stsL c l i)) hs hl hin.1.1 hin.1.2 hin.2.1 hin.2.2 hsn ⟨by omega, by omega⟩ ⟨by omega, by omega⟩ hc118 hg119
 replace opf := (opf.off off128 apfXtd).off off132 apfXptd
 replace op2 := (op2.off off128 ap2Xtd).off off132 ap2Xptd
 replace oou := (oou.off off128 aouXtd).off off132 aouXptd
 replace opo := (opo.off off128 apoXtd).off off132 apoXptd
 replace opc := (opc.off off128 apcXtd).off off132 apcXptd
 replace lE := off132.le (off128.le lE ntd) nptd
 replace ou130 := ou130.off off132 aptdXu130.symm
 exact hZ117 _ ⟨u130, _, _, opf, op2, (Own.cast hp.2 oou), opo, opc, optd, ou130, nu130, apfXu130, ap2Xu130, aouXu130, apoXu130, apcXu130, aptdXu130, lE, hp.1, (by simp only [List.length_append, List.length_singleton]; omega)⟩
 have hp := stN_told (L := (stsL c l i)) hs hin.1.1 hin.1.2 hin.2.1 hin.2.2 hsn ⟨by omega, by omega⟩ ⟨by omega, by omega⟩ hnr (fun _ => hg119)
 exact hZ117 _ ⟨td, _, _, opf, op2, oou, opo, opc, optd, otd, ntd, apfXtd, ap2Xtd, aouXtd, apoXtd, apcXtd, aptdXtd, lE, hp, hcm⟩
 refine hF hc118 (hF hc118 (hF hc118 (hF hc118 (hF hc118 (ob_i (vPick_ef (decide_eq_false hc118) _ _) (cnd_f1 ?_))))))
 have hp := stN_told (L := (stsL c l i)) hs hin.1.1 hin.1.2 hin.2.1 hin.2.2 hsn ⟨by omega, by omega⟩ ⟨by omega, by omega⟩ hnr (fun h => absurd h hc118)
 exact hZ117 _ ⟨td, _, _, opf, op2, oou, opo, opc, optd, otd, ntd, apfXtd, ap2Xtd, aouXtd, apoXtd, apcXtd, aptdXtd, lE, hp, hcm⟩
 obtain ⟨td, ls, tds, opf, op2, oou, opo, opc, optd, otd, ntd, apfXtd, ap2Xtd, aouXtd, apoXtd, apcXtd, aptdXtd, lE, hsn, hcm⟩ := hI117
 exact nxt (l.length - (t + 1)) (by omega) ⟨t + 1, rfl, by omega, td, _, _, g1L109, g2L109, g6L109, g7L109, g10L109, g17L109, g18L109, g19L109, opf, op2, oou, opo, opc, optd, otd, ntd, apfXtd, ap2Xtd, aouXtd, apoXtd, apcXtd, aptdXtd, lE, (stN_end hsn), (by omega)⟩
 have tt := hg110
 have hend := stS_end (show stS c l i ls [] by rw [← List.length_eq_zero_iff.mp (show tds.length = 0 by omega)]; exact hst)
 have hyes : stsL c l (i + 1) = (stsL c l i) ++ [i] := stsL_t hon hnr
 exact hJ93 _ _ ⟨g1L109, g2L109, g6L109, g7L109, g17L109, g18L109, g19L109, opf, op2, (Own.cast (by rw [hyes]; exact ouL_end hend) oou), opo, (Cel.cast (by rw [hyes]; simp) opc), lE⟩
 have ti := hg92
 obtain rfl : i = l.length := by omega
 exact hJ23 _ _ ⟨g6L91, g7L91, opf, op2, oou, opo, opc, lE⟩
 refine cnd_t1 ?_
 have hok : ¬ (fieldN 1 r c l) := by assumption
 replace lE := lE.trans le5
 exact keq (K := K) (by rw [decide_eq_false (show ¬ (fieldN 1 r c l) from by exact hok)]) (hk  (.slice none 0 0) _ (.slice none 0 0) _ (Fam.cast (show [] = selL (fieldN 1 r c l) (prtL r c l (stsL c l l.length)) by exact (selL_f hok).symm) (Fam.nil_of none)) (Own.cast (show [] = selL (fieldN 1 r c l) (plcL r c l (stsL c l l.length)) by exact (selL_f hok).symm) (Own.nil_of none)) (fun b hb => hb.elim) (fun b hb => by simp [bk] at hb) (fun b hb => hb.elim) lE)

end Go.Proofs.YtnijdhlmimemcaaGreatDoor
/- Builders of texts: what each of their operations does; strings.Join. -/
namespace Go.Proofs.YtnijdhlmimemcaaGreatDoor
open HL
variable {k r n e u count off : Nat} {H : Hp}
set_option maxRecDepth 100000
namespace HL
/-- A byte as a value. -/
abbrev eC (b : UInt8) : Value := .int .u8 (b.toNat : Int)
section
variable {P : Program} {H : Hp}
theorem val_eqP0 (d : Nat) {t e : TypeId} (b : Option Addr) (ht : P.underlying t = some (.pointer e)) : val P (Op.equalIn (d + 1) t (.pointer none) (.pointer b)) H = some b.isNone := by
  simp only [Op.equalIn, val_bind', val_underlying, ht, Option.bind_some]; cases b <;> rfl
theorem val_eqP1 (d : Nat) {t e : TypeId} (a : Addr) (ht : P.underlying t = some (.pointer e)) : val P (Op.equalIn (d + 1) t (.pointer (some a)) (.pointer none)) H = some false := by
  simp only [Op.equalIn, val_bind', val_underlying, ht, Option.bind_some]; rfl
theorem val_eqP2 (d : Nat) {t e : TypeId} (a : Addr) {k : Nat} (ht : P.underlying t = some (.pointer e)) (he : szO P e = some (k + 1)) : val P (Op.equalIn (d + 1) t (.pointer (some a)) (.pointer (some a))) H = some true := by
  simp only [Op.equalIn, val_bind', val_underlying, ht, Option.bind_some, val_sizeOf, he]
  rw [if_pos (by omega)]
  simp only [sameAddr, beq_self_eq_true, if_true]
  rfl
theorem val_ptr_nil {t e : TypeId} {x y : Operand} (ht : P.underlying t = some (.pointer e)) : val P (do eqGuard .eql t x y (.pointer none) (.pointer none); binOp .eql t (.pointer none) (.pointer none)) H = some (.bool true) := by
  have e1 : val P (Op.equal t (.pointer none) (.pointer none)) H = some true := val_eqP0 9999 none ht
  rw [val_bind', val_eqGuard_other P .eql t x y _ _ H (by simp) (by simp)]
  simp only [Option.bind_some, binOp, val_bind', e1, val_pure]
theorem val_ptr_some {t e : TypeId} {x y : Operand} {a : Addr} (ht : P.underlying t = some (.pointer e)) : val P (do eqGuard .eql t x y (.pointer (some a)) (.pointer none); binOp .eql t (.pointer (some a)) (.pointer none)) H = some (.bool false) := by
  have e1 : val P (Op.equal t (.pointer (some a)) (.pointer none)) H = some false := val_eqP1 9999 a ht
  rw [val_bind', val_eqGuard_other P .eql t x y _ _ H (by simp) (by simp)]
  simp only [Option.bind_some, binOp, val_bind', e1, val_pure]
theorem val_ptr_same {t e : TypeId} {x y : Operand} {a : Addr} (ht : P.underlying t = some (.pointer e)) (he : szO P e = some (k + 1)) : val P (do eqGuard .neq t x y (.pointer (some a)) (.pointer (some a)); binOp .neq t (.pointer (some a)) (.pointer (some a))) H = some (.bool false) := by
  have e1 : val P (Op.equal t (.pointer (some a)) (.pointer (some a))) H = some true := val_eqP2 9999 a ht he
  rw [val_bind', val_eqGuard_other P .neq t x y _ _ H (by simp) (by simp)]
  simp only [Option.bind_some, binOp, val_bind', e1, val_pure, Bool.not_true]
theorem val_viewAt {c : Array Value} {e : TypeId} {f : Nat × Nat} (h : H r = some (.cells c e f)) : val P (viewAt r) H = some none := by
  simp only [viewAt, shape, val_bind', val, h, Option.bind_some]
  rfl
theorem val_seenAt {a : Addr} {c : Array Value} {e : TypeId} {f : Nat × Nat} (h : H a.block = some (.cells c e f)) : val P (Conv.seenAt a) H = some a := by
  simp only [Conv.seenAt, val_bind', val_viewAt h, Option.bind_some]
  rfl
theorem val_cellsIn {c : Array Value} {e : TypeId} {f : Nat × Nat} (h : H r = some (.cells c e f)) : val P (cellsIn r) H = some (some c.size) := by
  simp only [cellsIn, shape, val_bind', val, h, Option.bind_some]
  rfl
theorem val_variablesAt {a : Addr} {c : Array Value} {e u : TypeId} {f : Nat × Nat} (h : H a.block = some (.cells c e f)) (hl : liesAt P P.depth e (c.size / P.cellsOf e) a.off u n = true) : val P (variablesAt a u n) H = some true := by
  simp only [variablesAt, shape, program, val_bind', val, h, Option.bind_some]
  rw [hl]
  rfl
theorem val_up {s d t : TypeId} {a : Addr} {c : Array Value} {e : TypeId} {f : Nat × Nat} (hs : P.underlying s = some (.pointer t)) (hd : P.underlying d = some .unsafePointer) (ht : szO P t = some (k + 1)) (h : H a.block = some (.cells c e f)) (ha : a.off < c.size) :
    val P (convert s d (.pointer (some a))) H = some (.pointer (some a)) := by
  simp only [convert, val_bind', val_underlying, hs, hd, Option.bind_some, Conv.unsafePointer, val_seenAt h, val_cellsIn h, val_sizeOf, ht]
  rw [if_neg]
  · rfl
  · simp; omega
theorem val_down {s d u : TypeId} {a : Addr} {c : Array Value} {e : TypeId} {f : Nat × Nat} (hs : P.underlying s = some .unsafePointer) (hd : P.underlying d = some (.pointer u)) (hu : szO P u = some (k + 1)) (h : H a.block = some (.cells c e f)) (hl : liesAt P P.depth e (c.size / P.cellsOf e) a.off u 1 = true) :
    val P (convert s d (.pointer (some a))) H = some (.pointer (some a)) := by
  simp only [convert, val_bind', val_underlying, hs, hd, Option.bind_some, Conv.unsafePointer, val_seenAt h, val_sizeOf, hu, val_variablesAt h hl]
  rw [if_pos (by simp)]
  rfl
theorem rowAt_plain {d : Nat} (hs : P.cellsOf e = 1) (hf : sameLayout P P.depth e u = true) (h : off + n ≤ count) : liesAt P (d + 1) e count off u n = true := by
  have hd : ∃ d', P.depth = d' + 1 := by
    cases hd : P.depth with
    | zero => rw [hd] at hf; simp [sameLayout] at hf
    | succ d' => exact ⟨d', rfl⟩
  obtain ⟨d', hd⟩ := hd
  unfold liesAt
  rw [hd]
  unfold rowAt
  simp only [hs, Nat.div_one, Nat.mod_one]
  rw [hd] at hf
  simp [hf, h]
theorem lies_plain (hs : P.cellsOf e = 1) (hf : sameLayout P P.depth e u = true) (h : off + n ≤ count) : liesAt P P.depth e count off u n = true := by
  obtain ⟨d', hd⟩ : ∃ d', P.depth = d' + 1 := by
    cases hd : P.depth with
    | zero => rw [hd] at hf; simp [sameLayout] at hf
    | succ d' => exact ⟨d', rfl⟩
  have := rowAt_plain (d := d') hs hf h
  rw [← hd] at this
  exact this
theorem val_loadBytes : ∀ (l : List UInt8) (a : Addr) (acc : ByteArray), (∀ i (h : i < l.length), H.cell? (a.add i) = some (eC l[i])) → val P (loadBytes a acc l.length) H = some ⟨acc.data ++ l.toArray⟩
  | [], a, acc, _ => by simp [loadBytes, val_pure]
  | x :: l, a, acc, h => by
    have h0 := h 0 (by simp)
    rw [show a.add 0 = a from rfl] at h0
    have ih := val_loadBytes l (a.add 1) (acc.push x) (fun i hi => by
      have := h (i + 1) (by simpa using hi)
      rw [show (a.add 1).add i = a.add (i + 1) by
        unfold Addr.add
        by_cases hi : i = 0
        · subst hi; rfl
        · simp [hi, Nat.add_comm, Nat.add_left_comm]]
      simpa using this)
    simp only [List.length_cons, loadBytes, load, val_bind', val, h0, Option.bind_some, List.getElem_cons_zero]
    rw [show (Int.toNat ((x.toNat : Nat) : Int)).toUInt8 = x by simp, ih]
    congr 2
    show acc.data.push x ++ l.toArray = acc.data ++ (x :: l).toArray
    simp
theorem digits_size : ∀ (n t : Nat) (acc : Array Value), (Extern.BytealgMakeNoZero.digits n t acc).size = acc.size + n
  | 0, _, _ => rfl
  | n + 1, t, acc => by
    unfold Extern.BytealgMakeNoZero.digits
    rw [digits_size]; simp; omega
theorem hp_makeNoZero {params results : Array TypeId} {t e : TypeId} {n : Int} {Q : Value → Hp → Prop} (hr : results[0]? = some t) (ht : P.underlying t = some (.slice e)) (h0 : 0 ≤ n) (h1 : n ≤ 1099511627776)
    (hk : ∀ c r (cs : Array Value), n.toNat ≤ c → c < 9223372036854775808 → H r = none → cs.size = c → Q (.slice (some ⟨r, 0, none⟩) n.toNat c) (H.put r (.cells cs e (0, 0)))) : hp P (Extern.BytealgMakeNoZero.makeNoZero params results #[.int .i64 n]) H Q := by
  delta Extern.BytealgMakeNoZero.makeNoZero
  have e0 : ∀ (f : Int → Sem Value) (g : Array Value → Sem Value), Extern.BytealgMakeNoZero.makeNoZero.match_3 (fun _ => Sem Value) #[.int .i64 n] f g = f n := fun _ _ => rfl
  rw [e0]
  simp only [hr]
  refine hp_val_bind P _ _ H Q _ (by rw [val_underlying, ht]) ?_
  simp only
  rw [if_neg (by simp; omega)]
  simp only [choose, hp_bind', hp, Question.forced, Bool.false_eq_true, if_false]
  intro tt
  refine hp_askRoom P _ H _ ?_
  intro t2
  refine hp_newRow P _ _ _ _ ?_
  intro r hr'
  have hcut : (Question.appendCap n.toNat 0 e).cut tt = n.toNat + tt % (2 ^ 63 - n.toNat) := rfl
  refine hk _ r _ ?_ ?_ hr' (by rw [digits_size]; simp)
  · rw [hcut]; omega
  · rw [hcut]
    have : tt % (2 ^ 63 - n.toNat) < 2 ^ 63 - n.toNat := Nat.mod_lt _ (by omega)
    omega
end
end HL
/-- A Builder's header and its room. -/
structure Bd (e eb : TypeId) (H : Hp) (r b c : Nat) (l : List UInt8) : Prop where
  ne : r ≠ b
  hdr : H r = some (.cells #[.pointer (some ⟨r, 0, none⟩), .slice (some ⟨b, 0, none⟩) l.length c] e (0, 0))
  buf : ∃ cs : Array Value, H b = some (.cells cs eb (0, 0)) ∧ cs.size = c ∧ l.length ≤ c ∧ ∀ i (h : i < l.length), cs[i]? = some (eC l[i])
noncomputable def nzR : Array TypeId := ((prg.funcs[167]?).map (·.resultTypes)).getD #[]
noncomputable def nzT : TypeId := (nzR[0]?).getD 0
noncomputable def nzE : TypeId := match prg.underlying nzT with | some (.slice e) => e | _ => 0
section
variable {H : Hp} {K : Value → Hp → Prop} {r b c : Nat} {e eb : TypeId} {l s : List UInt8}
theorem vLoad_cell {c : Array Value} {e : TypeId} {f : Nat × Nat} {v : Value} (h : H r = some (.cells c e f)) (hv : c[k]? = some v) : vLoad (.pointer (some ⟨r, k, none⟩)) H = some v := by
  simp only [vLoad, Hp.cell?, h]
  simpa using hv
theorem st_cell {c : Array Value} {e : TypeId} {x : Value} {K : Hp → Prop} (h : H r = some (.cells c e (0, 0))) (hk : k < c.size) (ho : oneCell x = true) (hz : x.cells = #[x]) (hK : K (H.put r (.cells (c.setIfInBounds k x) e (0, 0)))) : st 1 (.pointer (some ⟨r, k, none⟩)) x H K := by
  simp only [HL.st, hz, List.toList_toArray, List.size_toArray, List.length_singleton, true_and, stC, add_none, Nat.add_zero]
  refine ⟨ho, ?_, ?_, ?_⟩
  · simp only [Hp.cell?, h]; simp [hk]
  · simp only [Hp.frozen?, h]; simp
  · simp only [Hp.setCell, h]; exact hK
end
noncomputable def bdP : TypeId := ((prg.funcs[159]?).bind (·.params[0]?)).getD 0
noncomputable def bdE : TypeId := match prg.underlying bdP with | some (.pointer e) => e | _ => 0
section
variable {H : Hp} {K : Value → Hp → Prop} {r b c : Nat} {eb : TypeId} {l s : List UInt8}
theorem C.c82 {u : Value} (h : H r = some (.cells #[.pointer none, u] bdE (0, 0))) (hk : K (.tuple #[]) (H.put r (.cells #[.pointer (some ⟨r, 0, none⟩), u] bdE (0, 0)))) :
    HT prg 159 [.pointer (some ⟨r, 0, none⟩)].toArray H K := by
 refine R.q159 ?_
 unfold F.q159
 refine ob_i (a := .pointer (some ⟨r, 0, none⟩)) rfl ?_
 refine ob_i (a := .pointer (some ⟨r, 0, none⟩)) rfl ?_
 refine ob_i (vLoad_cell h rfl) (ob_i (val_ptr_nil (e := bdE) (by kernel_rfl)) (cnd_t1 (hp_of_val prg _ _ _ _ (val_up (t := bdE) (k := 1) (by kernel_rfl) (by kernel_rfl) (by kernel_rfl) h (by simp)) ?_)))
 have e0 : ∀ Q, hp prg (callFunc 166 [Value.pointer (some ⟨r, 0, none⟩)].toArray) H Q = Q (.value (.pointer (some ⟨r, 0, none⟩))) H := fun Q => by kernel_rfl
 rw [e0]
 refine hp_of_val prg _ _ _ _ (val_down (u := bdE) (k := 1) (by kernel_rfl) (by kernel_rfl) (by kernel_rfl) h (by kernel_rfl)) ?_
 refine ob_i (a := .pointer (some ⟨r, 0, none⟩)) rfl ?_
 refine ob_i (a := .pointer (some ⟨r, 0, none⟩)) rfl ?_
 exact st_cell h (by simp) rfl rfl hk

theorem C.c83 {u : Value} (h : H r = some (.cells #[.pointer (some ⟨r, 0, none⟩), u] bdE (0, 0))) (hk : K (.tuple #[]) H) :
    HT prg 159 [.pointer (some ⟨r, 0, none⟩)].toArray H K := by
 refine R.q159 ?_
 unfold F.q159
 refine ob_i (a := .pointer (some ⟨r, 0, none⟩)) rfl ?_
 refine ob_i (a := .pointer (some ⟨r, 0, none⟩)) rfl ?_
 refine ob_i (vLoad_cell h rfl) (ob_i (val_ptr_some (e := bdE) (by kernel_rfl)) (cnd_f1 (ob_i (a := .pointer (some ⟨r, 0, none⟩)) rfl ?_)))
 refine ob_i (a := .pointer (some ⟨r, 0, none⟩)) rfl ?_
 exact ob_i (vLoad_cell h rfl) (ob_i (val_ptr_same (e := bdE) (k := 1) (by kernel_rfl) (by kernel_rfl)) (cnd_f1 (hk)))

theorem C.c84 {n : Int} (h : H r = some (.cells #[.pointer none, .slice none 0 0] bdE (0, 0))) (n0 : 1 ≤ n) (n1 : n ≤ 1099511627776)
    (hk : ∀ b c H', n.toNat ≤ c → c < 9223372036854775808 → H b = none → Bd bdE nzE H' r b c [] → (∀ x o, H x = some o → x ≠ r → H' x = some o) → K (.tuple #[]) H') :
    HT prg 149 [.pointer (some ⟨r, 0, none⟩), .int .i64 n].toArray H K := by
 refine R.q149 ?_
 unfold F.q149
 refine C.c82 h ?_
 have h1 : (H.put r (.cells #[.pointer (some ⟨r, 0, none⟩), .slice none 0 0] bdE (0, 0))) r = some (.cells #[.pointer (some ⟨r, 0, none⟩), .slice none 0 0] bdE (0, 0)) := Hp.put_same _ _ _
 refine jn_i (fun σ H' => σ 0 = .pointer (some ⟨r, 0, none⟩) ∧ σ 1 = .int .i64 n ∧ H' = H.put r (.cells #[.pointer (some ⟨r, 0, none⟩), .slice none 0 0] bdE (0, 0))) (fun σ H2 hP => ?_) (fun J hJ => ?_)
 obtain ⟨g0, g1, rfl⟩ := hP
 simp only [g0, g1]
 refine ob_i (a := .pointer (some ⟨r, 0, none⟩)) rfl ?_
 refine ob_i (a := .pointer (some ⟨r, 1, none⟩)) rfl ?_
 refine ob_i (vLoad_cell h1 rfl) (ob_i (a := .int .i64 0) rfl ?_)
 refine ob_i (a := .pointer (some ⟨r, 0, none⟩)) rfl ?_
 refine ob_i (a := .pointer (some ⟨r, 1, none⟩)) rfl ?_
 refine ob_i (vLoad_cell h1 rfl) (ob_i (a := .int .i64 0) rfl ?_)
 refine ob_i (vInt_sub (by omega) (by omega)) (ob_i (vInt_lss _ _ _) ?_)
 rw [decide_eq_true (show (0 : Int) - 0 < n by omega)]
 refine cnd_t1 (R.q160 ?_)
 unfold F.q160
 refine ob_i (a := .pointer (some ⟨r, 0, none⟩)) rfl ?_
 refine ob_i (a := .pointer (some ⟨r, 1, none⟩)) rfl ?_
 refine ob_i (vLoad_cell h1 rfl) (ob_i (a := .int .i64 0) rfl ?_)
 refine ob_i (vInt_mul (by omega) (by omega)) (ob_i (vInt_add (by omega) (by omega)) (ob_i (a := .pointer (some ⟨r, 0, none⟩)) rfl ?_))
 refine ob_i (a := .pointer (some ⟨r, 1, none⟩)) rfl ?_
 refine ob_i (vLoad_cell h1 rfl) (ob_i (a := .int .i64 0) rfl ?_)
 rw [show (2 : Int) * 0 + n = n by omega]
 have e0 : ∀ H Q, hp prg (callFunc 167 [Value.int .i64 n].toArray) H Q = hp prg (do pure (Next.value (← Extern.BytealgMakeNoZero.makeNoZero nzR nzR #[.int .i64 n]))) H Q := fun H Q => by kernel_rfl
 rw [e0]
 refine hp_v ?_
 refine hp_makeNoZero (t := nzT) (e := nzE) (by kernel_rfl) (by kernel_rfl) (by omega) n1 (fun c b cs hc1 hc2 hb hcs => ?_)
 have hrb : r ≠ b := by rintro rfl; rw [h1] at hb; exact absurd hb (by simp)
 have hbH : H b = none := by rw [Hp.put_ne _ _ (Ne.symm hrb)] at hb; exact hb
 refine ⟨Le.put _ hb, ?_⟩
 have e1 : vSl3 1 (.slice (some ⟨b, 0, none⟩) n.toNat c) none (some (.int .i64 0)) none = some (.slice (some ⟨b, 0, none⟩) 0 c) := by
    simp only [vSl3, vSl, bnd]
    rw [if_pos ⟨by omega, by omega⟩]
    simp only [Option.map_some, Nat.zero_mul, Nat.sub_zero]
    congr 1
    split <;> rfl
 refine ob_i e1 ?_
 have h2 : ((H.put r (.cells #[.pointer (some ⟨r, 0, none⟩), .slice none 0 0] bdE (0, 0))).put b (.cells cs nzE (0, 0))) r = some (.cells #[.pointer (some ⟨r, 0, none⟩), .slice none 0 0] bdE (0, 0)) := by
    rw [Hp.put_ne _ _ hrb]; exact h1
 refine ob_i (a := .pointer (some ⟨r, 0, none⟩)) rfl ?_
 refine ob_i (a := .pointer (some ⟨r, 1, none⟩)) rfl ?_
 refine ob_i (vLoad_cell h2 rfl) (hp_v ?_)
 refine hp_of_val prg _ _ _ (.int .i64 0) (by kernel_rfl) ?_
 refine ob_i (a := .pointer (some ⟨r, 0, none⟩)) rfl ?_
 refine ob_i (a := .pointer (some ⟨r, 1, none⟩)) rfl ?_
 refine st_cell h2 (by simp) rfl rfl ?_
 refine hk b c _ hc1 hc2 hbH ⟨hrb, Hp.put_same _ _ _, cs, by rw [Hp.put_ne _ _ (Ne.symm hrb), Hp.put_same], hcs, by simp, fun i hi => absurd hi (by simp)⟩ (fun x o hx hxr => ?_)
 have hxb : x ≠ b := by rintro rfl; rw [hbH] at hx; exact absurd hx (by simp)
 rw [Hp.put_ne _ _ hxr, Hp.put_ne _ _ hxb, Hp.put_ne _ _ hxr]
 exact hx
 refine ob_i (vInt_lss _ _ _) ?_
 rw [decide_eq_false (show ¬ n < 0 by omega)]
 exact cnd_f1 (hJ _ _ ⟨rfl, rfl, rfl⟩)

theorem firstC_str : firstC H 1 s.length (vS s) = some (s.map eC) := by
  simp only [firstC]
  congr 1
  have : (tS s).extract 0 s.length = tS s := by rw [tS_extract]; simp
  rw [this, tS_data]
theorem C.c85 (h : Bd bdE eb H r b c l) (hc : l.length + s.length ≤ c)
    (hk : ∀ H', Bd bdE eb H' r b c (l ++ s) → (∀ x o, H x = some o → x ≠ r → x ≠ b → H' x = some o) → K (.tuple #[.int .i64 s.length, .nilIface]) H') :
    HT prg 150 [.pointer (some ⟨r, 0, none⟩), vS s].toArray H K := by
 refine R.q150 ?_
 unfold F.q150
 refine C.c83 h.hdr ?_
 refine ob_i (a := .pointer (some ⟨r, 0, none⟩)) rfl ?_
 refine ob_i (a := .pointer (some ⟨r, 1, none⟩)) rfl ?_
 refine ob_i (a := .slice (some ⟨b, 0, none⟩) l.length c) (vLoad_cell h.hdr rfl) ?_
 obtain ⟨cs, hb, hcs, hlc, hel⟩ := h.buf
 have hlen : lenO (vS s) = some s.length := rfl
 simp only [HL.apd, hlen]
 rw [if_pos hc]
 simp only [firstC_str]
 refine stC_run (b := b) (e := eb) (s.map eC) _ 0 cs H (by rw [Nat.mul_one]; unfold Addr.add; split <;> rfl) (by rw [Nat.mul_one]; unfold Addr.add; split <;> rfl) hb (by rw [Nat.mul_one, add_none]; simp; omega) (by simp; intro x _; rfl) ?_
 intro H' cs' h1 h2 h3 h4 h5
 rw [Nat.mul_one, add_none] at h3 h4
 simp only [Nat.add_zero, Nat.zero_add] at h3 h4
 have hr' : H' r = some (.cells #[.pointer (some ⟨r, 0, none⟩), .slice (some ⟨b, 0, none⟩) l.length c] bdE (0, 0)) := by rw [h5 r h.ne]; exact h.hdr
 refine ob_i (a := .pointer (some ⟨r, 0, none⟩)) rfl ?_
 refine ob_i (a := .pointer (some ⟨r, 1, none⟩)) rfl ?_
 refine st_cell hr' (by simp) rfl rfl ?_
 refine ob_i (vLenS_t s) ?_
 refine hk _ ⟨h.ne, by rw [Hp.put_same]; simp, cs', by rw [Hp.put_ne _ _ (Ne.symm h.ne)]; exact h1, by rw [h2, hcs], by simpa using hc, fun i hi => ?_⟩ (fun x o hx hxr hxb => ?_)
 by_cases hil : i < l.length
 rw [h3 i hil, hel i hil, List.getElem_append_left hil]
 have := h4 (i - l.length) (by simp at hi ⊢; omega)
 rw [show l.length + (i - l.length) = i by omega] at this
 rw [this, List.getElem_append_right (by omega)]; simp
 rw [Hp.put_ne _ _ hxr, h5 x hxb]; exact hx

theorem C.c86 (h : Bd bdE nzE H r b c l) (hl : 0 < l.length) (hl2 : l.length ≤ 9223372036854775807) (hk : ∀ H', (∀ x o, H x = some o → x ≠ r → x ≠ b → H' x = some o) → K (vS l) H') :
    HT prg 151 [.pointer (some ⟨r, 0, none⟩)].toArray H K := by
 obtain ⟨cs, hb, hcs, hlc, hel⟩ := h.buf
 have e1 : ∀ ts ty H, val prg (Builtin.unsafeSliceData_ ts ty #[.slice (some ⟨b, 0, none⟩) l.length c]) H = some (.pointer (some ⟨b, 0, none⟩)) := fun ts ty H => by
    obtain ⟨c', hc'⟩ : ∃ c', c = c' + 1 := ⟨c - 1, by omega⟩
    rw [hc']
    kernel_rfl
 have hld : val prg (loadBytes ⟨b, 0, none⟩ .empty l.length) H = some ⟨ByteArray.empty.data ++ l.toArray⟩ := val_loadBytes l _ _ (fun i hi => by
    rw [add_none]
    simp only [Hp.cell?, hb, Nat.zero_add, hel i hi]; rfl)
 have e2 : ∀ (ts : Array TypeId) ty pt (Q : Value → Hp → Prop), ts[0]? = some pt → prg.underlying pt = some (.pointer nzE) → (∀ H', (∀ x o, H x = some o → x ≠ r → x ≠ b → H' x = some o) → Q (vS l) H') → hp prg (Builtin.unsafeString_ ts ty #[.pointer (some ⟨b, 0, none⟩), .int .i64 l.length]) H Q := fun ts ty pt Q ht hpt hQ => by
    delta Builtin.unsafeString_
    have e0 : ∀ (f : Option Addr → Value → Sem Value) (g : Array Value → Sem Value), Builtin.unsafeString_.match_3 (fun _ => Sem Value) #[.pointer (some ⟨b, 0, none⟩), .int .i64 l.length] f g = f (some ⟨b, 0, none⟩) (.int .i64 l.length) := fun _ _ => rfl
    rw [e0]
    refine hp_val_bind prg _ _ H Q (l.length : Int) (by kernel_rfl) ?_
    simp only [ht]
    have em : IntKind.i64.max = 9223372036854775807 := by decide
    rw [if_neg (by omega), if_neg (by rw [em]; omega)]
    have hn0 : ¬ ((l.length : Int) = 0) := by omega
    simp only [hn0, if_false]
    refine hp_val_bind prg _ _ H Q nzE (by simp only [elemOf, val_bind', val_underlying, hpt, Option.bind_some]; rfl) ?_
    have hs1 : prg.cellsOf nzE = 1 := by kernel_rfl
    refine hp_val_bind prg _ _ H Q true (val_variablesAt hb (by rw [hs1, Nat.div_one]; exact lies_plain hs1 (by kernel_rfl) (by simp; omega))) ?_
    simp only [if_true]
    rw [Int.toNat_natCast]
    refine hp_val_bind prg _ _ H Q _ hld ?_
    simp only [freeze, hp_bind', hp, hb]
    rw [if_neg (by omega)]
    have et : (⟨ByteArray.empty.data ++ l.toArray⟩ : ByteArray) = tS l := by
      show (⟨#[] ++ l.toArray⟩ : ByteArray) = _
      rw [Array.empty_append]; rfl
    rw [et]
    exact hQ _ (fun x o hx hxr hxb => by rw [Hp.put_ne _ _ hxb]; exact hx)
 refine R.q151 ?_
 unfold F.q151
 refine ⟨?_, ?_⟩
 refine ob_i (a := .pointer (some ⟨r, 0, none⟩)) rfl ?_
 refine ob_i (a := .pointer (some ⟨r, 1, none⟩)) rfl ?_
 refine ob_i (a := .slice (some ⟨b, 0, none⟩) l.length c) (vLoad_cell h.hdr rfl) ?_
 refine ob_i (a := .pointer (some ⟨r, 0, none⟩)) rfl ?_
 refine ob_i (a := .pointer (some ⟨r, 1, none⟩)) rfl ?_
 refine ob_i (a := .slice (some ⟨b, 0, none⟩) l.length c) (vLoad_cell h.hdr rfl) ?_
 refine ob_i (a := .int .i64 l.length) rfl ?_
 refine hp_v (hp_of_val prg _ _ _ _ (e1 _ _ _) ?_)
 refine hp_v (e2 _ _ _ _ rfl (by kernel_rfl) (fun H' hH' => hk H' hH'))
 refine ob_i (a := .pointer (some ⟨r, 0, none⟩)) rfl ?_
 refine ob_i (a := .pointer (some ⟨r, 1, none⟩)) rfl ?_
 refine ob_i (a := .slice (some ⟨b, 0, none⟩) l.length c) (vLoad_cell h.hdr rfl) ?_
 refine ob_i (a := .pointer (some ⟨r, 0, none⟩)) rfl ?_
 refine ob_i (a := .pointer (some ⟨r, 1, none⟩)) rfl ?_
 refine hp_v (hp_of_val prg _ _ _ _ (e1 _ _ _) ?_)
 refine ob_i (a := .slice (some ⟨b, 0, none⟩) l.length c) (vLoad_cell h.hdr rfl) ?_
 refine ob_i (a := .int .i64 l.length) rfl ?_
 refine hp_v (e2 _ _ _ _ rfl (by kernel_rfl) (fun H' hH' => hk H' hH'))

end
end Go.Proofs.YtnijdhlmimemcaaGreatDoor
