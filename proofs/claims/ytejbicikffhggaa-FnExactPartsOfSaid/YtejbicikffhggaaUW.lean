/- Parts of fields: the program's and the reference's. -/
import Derived.Test.YtejbicikffhggaaPH
import Derived.Test.YtejbicikffhggaaSN
import Derived.Test.YtejbicikffhggaaKT
namespace Go.Proofs.Ytejbicikffhggaa
open HL
set_option maxRecDepth 100000
set_option maxHeartbeats 2000000 in
theorem C.spec_l05Parts {p vc : Value} {r c : Int} {l : List Int}  {H : Hp} {K : Value → Hp → Prop} (hp0 : Cel H p [(.int .i64 (r)), (.int .i64 (c)), vc]) (hvc0 : Sl eI H vc l) (hf : fieldN 1 r c l)
    (hk : ∀ u1 Su1 u2 H', Fam H' u1 Su1 (prtL r c l (stsL c l l.length)) → Own eI H' u2 (plcL r c l (stsL c l l.length)) → Nws H Su1 → Nw H u2 → Apt Su1 u2 → Le H H' → K (.tuple #[u1, u2]) H') : HT prg I.spec_l05Parts [p].toArray H K := by
  have lE := Le.refl H
  have hp := hp0
  have hvc := hvc0
  refine R.spec_l05Parts ?_
  unfold F.spec_l05Parts
  have hs := hf.1
  have hl := hf.2.1
  have q1 := hs.1
  have q2 := hs.2
  have qm := sidesF_mul hs
  have hlN : l.length = r.toNat * c.toNat := by have e := congrArg Int.toNat hl; rw [Int.toNat_natCast, Int.toNat_mul (by omega) (by omega)] at e; exact e
  refine ob_i (hp.nilC) ?_
  refine ob_i (hp.fa 2) ?_
  refine ob_i (hp.ld 2 rfl) ?_
  refine ob_i (hvc.len) ?_
  refine Own.mk_ (z := (false : Bool)) (by omega) (by omega) (by omega) (by omega) (fun tk H1 otk nn2 le3 => ?_)
  have ntk : Nw H tk := nn2.le lE
  replace hp := hp.le le3
  replace hvc := hvc.le le3
  replace lE := lE.trans le3
  refine bSE_fam (fun ps Sps H4 ops nn5 le7 => ?_)
  have atkXps : Apt tk Sps := Apt.of_nws otk.known nn5
  have nps : Nws H Sps := nn5.le lE
  replace otk := otk.le le7
  replace hp := hp.le le7
  replace hvc := hvc.le le7
  replace lE := lE.trans le7
  refine bS_nil (enc := eI) (fun pl H8 opl nn9 kk10 le11 => ?_)
  have atkXpl : Apart tk pl := otk.apart nn9
  have apsXpl : Apt Sps pl := Apt.of_nw ops.known nn9
  have npl : Nw H pl := nn9.le lE
  replace otk := otk.le le11
  replace ops := ops.le le11
  replace hp := hp.le le11
  replace hvc := hvc.le le11
  replace lE := lE.trans le11
  refine jn_i (fun σ' H' => ∃ ps, ∃ Sps, ∃ pl, σ' 5 = ps ∧ σ' 6 = pl ∧ Fam H' ps Sps (prtL r c l (stsL c l l.length)) ∧ Own eI H' pl (plcL r c l (stsL c l l.length)) ∧ Nws H Sps ∧ Nw H pl ∧ Apt Sps pl ∧ Le H H') (fun σ12 H12 hP => ?_) (fun J12 hJ12 => ?_)
  · skip
    obtain ⟨ps, Sps, pl, g5L12, g6L12, ops, opl, nps, npl, apsXpl, lE⟩ := hP
    have hp := hp0.le lE
    have hvc := hvc0.le lE
    try simp only [g5L12, g6L12]
    skip
    exact hk  ps _ pl _ ops opl nps npl apsXpl lE
  refine ob_i (hp.nilC) ?_
  refine ob_i (hp.fa 2) ?_
  refine ob_i (hp.ld 2 rfl) ?_
  refine ob_i (hvc.len) ?_
  refine ⟨fun n' σ' H' => ∃ i : Nat, n' = l.length - i ∧ i ≤ l.length ∧ ∃ ps, ∃ Sps, ∃ pl, σ' 0 = p ∧ σ' 4 = tk ∧ σ' 5 = ps ∧ σ' 6 = pl ∧ σ' 32 = (.int .i64 (((l).length : Int))) ∧ σ' 33 = (.int .i64 ((i : Int))) ∧ Own eB H' tk (tkB c l (stsL c l i) []) ∧ Fam H' ps Sps (prtL r c l (stsL c l i)) ∧ Own eI H' pl (plcL r c l (stsL c l i)) ∧ Nws H Sps ∧ Apt tk Sps ∧ Nw H pl ∧ Apart tk pl ∧ Apt Sps pl ∧ Le H H',
    ⟨_, 0, rfl, by omega, ps, Sps, pl, rfl, rfl, rfl, rfl, rfl, (congrArg (Value.int .i64) (by first | omega | rfl | (simp; done))), (Own.cast (by rw [tkB_zero]; simp) otk), (Fam.cast (by rfl) ops), (Own.cast (by rfl) opl), nps, atkXps, npl, atkXpl, apsXpl, lE⟩, ?_⟩
  rintro n13 σ13 H13 ⟨i, rfl, hiN, ps, Sps, pl, g0L13, g4L13, g5L13, g6L13, g32L13, g33L13, otk, ops, opl, nps, atkXps, npl, atkXpl, apsXpl, lE⟩
  have hp := hp0.le lE
  have hvc := hvc0.le lE
  try simp only [g0L13, g4L13, g5L13, g6L13, g32L13, g33L13]
  have tl := tkB_len (c := c) (l := l) (L := (stsL c l i)) (ls := [])
  have pl1 := prtL_len (r := r) (c := c) (l := l) (L := (stsL c l i))
  have pl2 := plcL_len (r := r) (c := c) (l := l) (L := (stsL c l i))
  have sl := stsL_len (c := c) (l := l) i
  refine ob_i (vInt_lss _ _ _) ?_
  refine cnd_d (fun hg14 => ?_) (fun hg14 => ?_)
  · skip
    have ti := hg14
    refine jn_i (fun σ' H' => ∃ ps, ∃ Sps, ∃ pl, σ' 0 = p ∧ σ' 4 = tk ∧ σ' 5 = ps ∧ σ' 6 = pl ∧ σ' 32 = (.int .i64 (((l).length : Int))) ∧ σ' 33 = (.int .i64 ((i : Int))) ∧ Own eB H' tk (tkB c l (stsL c l (i + 1)) []) ∧ Fam H' ps Sps (prtL r c l (stsL c l (i + 1))) ∧ Own eI H' pl (plcL r c l (stsL c l (i + 1))) ∧ Nws H Sps ∧ Apt tk Sps ∧ Nw H pl ∧ Apart tk pl ∧ Apt Sps pl ∧ Le H H') (fun σ15 H15 hP => ?_) (fun J15 hJ15 => ?_)
    · skip
      obtain ⟨ps, Sps, pl, g0L15, g4L15, g5L15, g6L15, g32L15, g33L15, otk, ops, opl, nps, atkXps, npl, atkXpl, apsXpl, lE⟩ := hP
      have hp := hp0.le lE
      have hvc := hvc0.le lE
      try simp only [g33L15]
      refine ob_i (vInt_add (by omega) (by omega)) ?_
      exact nxt (l.length - (i + 1)) (by omega) ⟨i + 1, rfl, by omega, ps, Sps, pl, g0L15, g4L15, g5L15, g6L15, g32L15, (congrArg (Value.int .i64) (by first | omega | rfl | (simp; done))), otk, ops, opl, nps, atkXps, npl, atkXpl, apsXpl, lE⟩
    refine ob_i (hp.nilC) ?_
    refine ob_i (hp.fa 2) ?_
    refine ob_i (hp.ld 2 rfl) ?_
    refine ob_i (hvc.ix (by omega) (by omega)) ?_
    refine ob_i (hvc.ld 0 (by omega) (by omega)) ?_
    refine ob_i (vInt_neq _ _ _) ?_
    by_cases hc16 : (at_ 0 (l) ((i : Int))) ≠ 1
    · skip
      refine gop_e (decide_eq_true hc16) ?_
      refine gop_st ?_
      refine gop_e (decide_eq_true hc16) ?_
      refine gop_st ?_
      refine gop_e (decide_eq_true hc16) ?_
      refine gop_st ?_
      refine gop_e (decide_eq_true hc16) ?_
      refine gop_st ?_
      refine ob_i (vPick_et (decide_eq_true hc16) _ _) ?_
      refine cnd_t1 ?_
      have hno : stsL c l (i + 1) = (stsL c l i) := stsL_f (fun g => hc16 g.1.2)
      rw [← hno] at otk ops opl
      exact hJ15 _ _ ⟨ps, Sps, pl, g0L13, g4L13, g5L13, g6L13, g32L13, g33L13, otk, ops, opl, nps, atkXps, npl, atkXpl, apsXpl, lE⟩
    · skip
      refine gop_e (decide_eq_false hc16) ?_
      refine gop_rf ?_
      refine gop_e (decide_eq_false hc16) ?_
      refine gop_rf ?_
      refine gop_e (decide_eq_false hc16) ?_
      refine gop_rf ?_
      refine ob_i (otk.sl.ix (by omega) (by omega)) ?_
      refine gop_e (decide_eq_false hc16) ?_
      refine gop_rf ?_
      refine ob_i (otk.sl.ld false (by omega) (by omega)) ?_
      refine ob_i (vPick_ef (decide_eq_false hc16) _ _) ?_
      refine cnd_i (fun hg17 => ?_) (fun hg17 => ?_)
      · skip
        have hno : stsL c l (i + 1) = (stsL c l i) := stsL_f (fun g => (tkB_t (by omega) hg17).elim (fun ⟨s, h1, h2⟩ => g.2 s h1 h2) (fun h1 => by simp at h1))
        rw [← hno] at otk ops opl
        exact hJ15 _ _ ⟨ps, Sps, pl, g0L13, g4L13, g5L13, g6L13, g32L13, g33L13, otk, ops, opl, nps, atkXps, npl, atkXpl, apsXpl, lE⟩
      · skip
        refine ob_i (hp.nilC) ?_
        refine ob_i (hp.fa 0) ?_
        refine ob_i (hp.ld 0 rfl) ?_
        refine ob_i (hp.nilC) ?_
        refine ob_i (hp.fa 1) ?_
        refine ob_i (hp.ld 1 rfl) ?_
        have hon : onP l i := ⟨by omega, Decidable.not_not.mp hc16⟩
        have hnr : ∀ s ∈ (stsL c l i), ¬ Rch c l s i := (tkB_f (by omega) (by first | exact hg17 | exact Bool.eq_false_iff.mpr hg17)).1
        refine C.spec_l04New (by first | omega | assumption) (by first | omega | assumption) (by first | omega | assumption) (by first | omega | assumption) (fun  ac H18 oac nn20  le19 => ?_)
        have atkXac : Apart tk ac := otk.apart nn20
        have apsXac : Apt Sps ac := Apt.of_nw ops.known nn20
        have aplXac : Apart pl ac := opl.apart nn20
        have nac : Nw H ac := nn20.le lE
        replace otk := otk.le le19
        replace ops := ops.le le19
        replace opl := opl.le le19
        replace hp := hp.le le19
        replace hvc := hvc.le le19
        replace lE := lE.trans le19
        refine ⟨le19, ?_⟩
        refine nw_i (fun al H21 oal nn22 le23 => ?_)
        have atkXal : Apart tk al := otk.apart nn22
        have apsXal : Apt Sps al := Apt.of_nw ops.known nn22
        have aplXal : Apart pl al := opl.apart nn22
        have aacXal : Apart ac al := oac.apart nn22
        have nal : Nw H al := nn22.le lE
        replace otk := otk.le le23
        replace ops := ops.le le23
        replace opl := opl.le le23
        replace oac := oac.le le23
        replace hp := hp.le le23
        replace hvc := hvc.le le23
        replace lE := lE.trans le23
        replace oal : Cel H21 al [(.int .i64 (0)), (.int .i64 (0)), (.slice none 0 0)] := oal
        refine oal.stn (ws := [(.int .i64 (r)), (.int .i64 (c)), ac]) rfl rfl (oc1 rfl (oc1 rfl (oc1 oac.one oc0))) (fun H24 oal off25 => ?_)
        replace otk := otk.off off25 atkXal
        replace ops := ops.off off25 apsXal
        replace opl := opl.off off25 aplXal
        replace oac := oac.off off25 aacXal
        replace hp := hp0.le (off25.le lE nal)
        replace hvc := hvc0.le (off25.le lE nal)
        replace lE := off25.le lE nal
        replace oal : Cel H24 al [(.int .i64 (r)), (.int .i64 (c)), ac] := oal
        refine bS_i (enc := eI) (l := [(i : Int)]) (by omega) rfl (by kernel_rfl) (fun q9 H26 oq9 nn27 le29 => ?_)
        have atkXq9 : Apart tk q9 := otk.apart nn27
        have apsXq9 : Apt Sps q9 := Apt.of_nw ops.known nn27
        have aplXq9 : Apart pl q9 := opl.apart nn27
        have aacXq9 : Apart ac q9 := oac.apart nn27
        have aalXq9 : Apart al q9 := oal.apart nn27
        have nq9 : Nw H q9 := nn27.le lE
        replace otk := otk.le le29
        replace ops := ops.le le29
        replace opl := opl.le le29
        replace oac := oac.le le29
        replace oal := oal.le le29
        replace hp := hp.le le29
        replace hvc := hvc.le le29
        replace lE := lE.trans le29
        refine ob_i (otk.sl.ix (by omega) (by omega)) ?_
        refine otk.st (x := true) (by omega) (by omega) rfl rfl (fun H30 otk off31 => ?_)
        replace ops := ops.off off31 atkXps.symm
        replace opl := opl.off off31 atkXpl.symm
        replace oac := oac.off off31 atkXac.symm
        replace oal := oal.off off31 atkXal.symm
        replace oq9 := oq9.off off31 atkXq9.symm
        replace hp := hp0.le (off31.le lE ntk)
        replace hvc := hvc0.le (off31.le lE ntk)
        replace lE := off31.le lE ntk
        refine jn_i (fun σ' H' => σ' 0 = p ∧ σ' 4 = tk ∧ σ' 5 = ps ∧ σ' 6 = pl ∧ σ' 8 = al ∧ σ' 32 = (.int .i64 (((l).length : Int))) ∧ σ' 33 = (.int .i64 ((i : Int))) ∧ Own eB H' tk (tkB c l ((stsL c l i) ++ [i]) []) ∧ Fam H' ps Sps (prtL r c l (stsL c l i)) ∧ Own eI H' pl (plcL r c l (stsL c l i)) ∧ Own eI H' ac (aloL c l i) ∧ Cel H' al [(.int .i64 (r)), (.int .i64 (c)), ac] ∧ Le H H') (fun σ32 H32 hP => ?_) (fun J32 hJ32 => ?_)
        · skip
          obtain ⟨g0L32, g4L32, g5L32, g6L32, g8L32, g32L32, g33L32, otk, ops, opl, oac, oal, lE⟩ := hP
          have hp := hp0.le lE
          have hvc := hvc0.le lE
          try simp only [g5L32, g6L32, g8L32]
          have hpos : ¬ (trm r c (aloL c l i)).2.1 < 0 := by have := alo_pos hs hl hon; omega
          refine C.spec_l05Trim oal oac.sl (by first | omega | assumption) (by rw [aloL_len]; exact hl) (fun hc33  H34    le35 => ?_) (fun hc36 u39 H37 ou39 nn40  le38 => ?_)
          · skip
            exact absurd hc33 hpos
          · skip
            have atkXu39 : Apart tk u39 := otk.apart nn40
            have apsXu39 : Apt Sps u39 := Apt.of_nw ops.known nn40
            have aplXu39 : Apart pl u39 := opl.apart nn40
            have aacXu39 : Apart ac u39 := oac.apart nn40
            have aalXu39 : Apart al u39 := oal.apart nn40
            have nu39 : Nw H u39 := nn40.le lE
            replace otk := otk.le le38
            replace ops := ops.le le38
            replace opl := opl.le le38
            replace oac := oac.le le38
            replace oal := oal.le le38
            replace hp := hp.le le38
            replace hvc := hvc.le le38
            replace lE := lE.trans le38
            refine ob_i (vExt_40 _ _ _ _) ?_
            refine ob_i (vExt_41 _ _ _ _) ?_
            refine ob_i (vExt_42 _ _ _ _) ?_
            refine ob_i (vExt_43 _ _ _ _) ?_
            refine nw_i (fun p41 H42 op41 nn43 le44 => ?_)
            have atkXp41 : Apart tk p41 := otk.apart nn43
            have apsXp41 : Apt Sps p41 := Apt.of_nw ops.known nn43
            have aplXp41 : Apart pl p41 := opl.apart nn43
            have aacXp41 : Apart ac p41 := oac.apart nn43
            have aalXp41 : Apart al p41 := oal.apart nn43
            have au39Xp41 : Apart u39 p41 := ou39.apart nn43
            have np41 : Nw H p41 := nn43.le lE
            replace otk := otk.le le44
            replace ops := ops.le le44
            replace opl := opl.le le44
            replace oac := oac.le le44
            replace oal := oal.le le44
            replace ou39 := ou39.le le44
            replace hp := hp.le le44
            replace hvc := hvc.le le44
            replace lE := lE.trans le44
            replace op41 : Cel H42 p41 [(.int .i64 (0)), (.int .i64 (0)), (.slice none 0 0)] := op41
            refine op41.stn (ws := [(.int .i64 (trR r c (aloL c l i))), (.int .i64 (trC r c (aloL c l i))), u39]) rfl rfl (oc1 rfl (oc1 rfl (oc1 ou39.one oc0))) (fun H45 op41 off46 => ?_)
            replace otk := otk.off off46 atkXp41
            replace ops := ops.off off46 apsXp41
            replace opl := opl.off off46 aplXp41
            replace oac := oac.off off46 aacXp41
            replace oal := oal.off off46 aalXp41
            replace ou39 := ou39.off off46 au39Xp41
            replace hp := hp0.le (off46.le lE np41)
            replace hvc := hvc0.le (off46.le lE np41)
            replace lE := off46.le lE np41
            replace op41 : Cel H45 p41 [(.int .i64 (trR r c (aloL c l i))), (.int .i64 (trC r c (aloL c l i))), u39] := op41
            refine ob_i (op41.ldn rfl) ?_
            refine bSE_one (enc := encFv) (x := (⟨trR r c (aloL c l i), trC r c (aloL c l i), u39⟩ : Fv)) rfl rfl (by omega) (by omega) rfl (fun u47 H48 ou47 nn49 le51 => ?_) rfl
            have atkXu47 : Apart tk u47 := otk.apart nn49
            have apsXu47 : Apt Sps u47 := Apt.of_nw ops.known nn49
            have aplXu47 : Apart pl u47 := opl.apart nn49
            have aacXu47 : Apart ac u47 := oac.apart nn49
            have aalXu47 : Apart al u47 := oal.apart nn49
            have au39Xu47 : Apart u39 u47 := ou39.apart nn49
            have ap41Xu47 : Apart p41 u47 := op41.apart nn49
            have nu47 : Nw H u47 := nn49.le lE
            replace otk := otk.le le51
            replace ops := ops.le le51
            replace opl := opl.le le51
            replace oac := oac.le le51
            replace oal := oal.le le51
            replace ou39 := ou39.le le51
            replace op41 := op41.le le51
            replace hp := hp.le le51
            replace hvc := hvc.le le51
            replace lE := lE.trans le51
            refine Fam.push ops rfl (ou47.sl encFv_n) ou39 apsXu39.symm (by omega) (by first | omega | (simp; omega)) (fun u56 Su56 H52 ou56 off53 hb54 hx55 oxu39 => ?_)
            have atkXu56 : Apt tk Su56 := Apt.push otk.known atkXps atkXu39 hb54
            have aplXu56 : Apt pl Su56 := Apt.push opl.known apsXpl.symm aplXu39 hb54
            have aacXu56 : Apt ac Su56 := Apt.push oac.known apsXac.symm aacXu39 hb54
            have aalXu56 : Apt al Su56 := Apt.push oal.known apsXal.symm aalXu39 hb54
            have ap41Xu56 : Apt p41 Su56 := Apt.push op41.known apsXp41.symm au39Xp41.symm hb54
            have au47Xu56 : Apt u47 Su56 := Apt.push ou47.known apsXu47.symm au39Xu47.symm hb54
            have nu56 : Nws H Su56 := Nws.push lE nps nu39 hb54
            replace otk := otk.offS off53 atkXps
            replace opl := opl.offS off53 apsXpl.symm
            replace oac := oac.offS off53 apsXac.symm
            replace oal := oal.offS off53 apsXal.symm
            replace op41 := op41.offS off53 apsXp41.symm
            replace ou47 := ou47.offS off53 apsXu47.symm
            replace hp := hp0.le (off53.le lE nps)
            replace hvc := hvc0.le (off53.le lE nps)
            replace lE := off53.le lE nps
            replace ou39 := oxu39.ro
            refine bS_i (enc := eI) (l := [(trm r c (aloL c l i)).1, (trm r c (aloL c l i)).2.2.1]) (by omega) rfl (by kernel_rfl) (fun u57 H58 ou57 nn59 le61 => ?_)
            have atkXu57 : Apart tk u57 := otk.apart nn59
            have aplXu57 : Apart pl u57 := opl.apart nn59
            have aacXu57 : Apart ac u57 := oac.apart nn59
            have aalXu57 : Apart al u57 := oal.apart nn59
            have au39Xu57 : Apart u39 u57 := ou39.apart nn59
            have ap41Xu57 : Apart p41 u57 := op41.apart nn59
            have au47Xu57 : Apart u47 u57 := ou47.apart nn59
            have au56Xu57 : Apt Su56 u57 := Apt.of_nw ou56.known nn59
            have nu57 : Nw H u57 := nn59.le lE
            replace otk := otk.le le61
            replace opl := opl.le le61
            replace oac := oac.le le61
            replace oal := oal.le le61
            replace ou39 := ou39.le le61
            replace op41 := op41.le le61
            replace ou47 := ou47.le le61
            replace ou56 := ou56.le le61
            replace hp := hp.le le61
            replace hvc := hvc.le le61
            replace lE := lE.trans le61
            refine apd_any opl ou57.sl (fun _ => rfl) (by omega) (by first | omega | (simp only [List.length_cons, List.length_nil, List.length_append, List.length_replicate, List.length_map, List.length_range]; omega)) (fun u65 H62 ou65 off63 hb64 => ?_)
            have atkXu65 : Apart tk u65 := Apart.ap2 otk.known atkXpl hb64
            have aacXu65 : Apart ac u65 := Apart.ap2 oac.known aplXac.symm hb64
            have aalXu65 : Apart al u65 := Apart.ap2 oal.known aplXal.symm hb64
            have au39Xu65 : Apart u39 u65 := Apart.ap2 ou39.known aplXu39.symm hb64
            have ap41Xu65 : Apart p41 u65 := Apart.ap2 op41.known aplXp41.symm hb64
            have au47Xu65 : Apart u47 u65 := Apart.ap2 ou47.known aplXu47.symm hb64
            have au56Xu65 : Apt Su56 u65 := Apt.ap2 ou56.known aplXu56.symm hb64
            have au57Xu65 : Apart u57 u65 := Apart.ap2 ou57.known aplXu57.symm hb64
            have nu65 : Nw H u65 := Nw.ap2 npl lE hb64
            replace otk := otk.off off63 atkXpl
            replace oac := oac.off off63 aplXac.symm
            replace oal := oal.off off63 aplXal.symm
            replace ou39 := ou39.off off63 aplXu39.symm
            replace op41 := op41.off off63 aplXp41.symm
            replace ou47 := ou47.off off63 aplXu47.symm
            replace ou56 := ou56.off off63 aplXu56.symm
            replace ou57 := ou57.off off63 aplXu57.symm
            replace hp := hp0.le (off63.le lE npl)
            replace hvc := hvc0.le (off63.le lE npl)
            replace lE := off63.le lE npl
            have hyes : stsL c l (i + 1) = (stsL c l i) ++ [i] := stsL_t hon hnr
            exact hJ15 _ _ ⟨u56, Su56, u65, g0L32, g4L32, rfl, rfl, g32L32, g33L32, (Own.cast (by rw [hyes]) otk), (Fam.cast (by rw [hyes]; exact prtL_snoc i) ou56), (Own.cast (by rw [hyes]; exact plcL_snoc i) ou65), nu56, atkXu56, nu65, atkXu65, au56Xu65, lE⟩
        refine ⟨fun n' σ' H' => ∃ t : Nat, n' = l.length - t ∧ t ≤ l.length ∧ ∃ q9, ∃ ls : List Int, σ' 0 = p ∧ σ' 4 = tk ∧ σ' 5 = ps ∧ σ' 6 = pl ∧ σ' 8 = al ∧ σ' 9 = q9 ∧ σ' 10 = (.int .i64 ((t : Int))) ∧ σ' 32 = (.int .i64 (((l).length : Int))) ∧ σ' 33 = (.int .i64 ((i : Int))) ∧ Own eB H' tk (tkB c l (stsL c l i) ls) ∧ Fam H' ps Sps (prtL r c l (stsL c l i)) ∧ Own eI H' pl (plcL r c l (stsL c l i)) ∧ Own eI H' ac (indL l (ls.take t)) ∧ Cel H' al [(.int .i64 (r)), (.int .i64 (c)), ac] ∧ Own eI H' q9 (ls) ∧ Nw H q9 ∧ Apart tk q9 ∧ Apt Sps q9 ∧ Apart pl q9 ∧ Apart ac q9 ∧ Apart al q9 ∧ Le H H' ∧ flP c l i ls t,
          ⟨_, 0, rfl, by omega, q9, [(i : Int)], g0L13, g4L13, g5L13, g6L13, rfl, rfl, (congrArg (Value.int .i64) (by first | omega | rfl | (simp; done))), g32L13, g33L13, (Own.cast (tkB_set hon.1) otk), ops, opl, (Own.cast (by rw [List.take_zero, indL_nil, hlN]) oac), oal, (Own.cast (by first | rfl | (simp; done)) oq9), nq9, atkXq9, apsXq9, aplXq9, aacXq9, aalXq9, lE, (flP_start hon)⟩, ?_⟩
        rintro n66 σ66 H66 ⟨t, rfl, htN, q9, ls, g0L66, g4L66, g5L66, g6L66, g8L66, g9L66, g10L66, g32L66, g33L66, otk, ops, opl, oac, oal, oq9, nq9, atkXq9, apsXq9, aplXq9, aacXq9, aalXq9, lE, hfl⟩
        have hp := hp0.le lE
        have hvc := hvc0.le lE
        try simp only [g0L66, g4L66, g8L66, g9L66, g10L66]
        have fl2 := flP_len hfl
        have tl2 := tkB_len (c := c) (l := l) (L := (stsL c l i)) (ls := ls)
        have il := indL_len (l := l) (ls := ls.take t)
        refine ob_i (oq9.len) ?_
        refine ob_i (vInt_lss _ _ _) ?_
        refine cnd_d (fun hg67 => ?_) (fun hg67 => ?_)
        · skip
          have tt := hg67
          obtain ⟨xs, hxs⟩ : ∃ xs, xs = ls.take (t + 1) := ⟨_, rfl⟩
          have xb := fl2.2 _ (at_mem 0 ls (i := (t : Int)) (by omega) (by omega))
          have ix := indL_set (l := l) (ls := ls) (t := t) (by omega) xb.1 xb.2
          rw [← hxs] at ix
          have rb0 := rc_bnd (r := r) (c := c) (x := at_ 0 ls (t : Int)) (by omega) xb.1 (by omega) rfl rfl
          obtain ⟨xv, hxv0⟩ : ∃ x : Int, x = at_ 0 ls (t : Int) := ⟨_, rfl⟩
          refine jn_i (fun σ' H' => ∃ q9, ∃ ls : List Int, σ' 0 = p ∧ σ' 4 = tk ∧ σ' 5 = ps ∧ σ' 6 = pl ∧ σ' 8 = al ∧ σ' 9 = q9 ∧ σ' 10 = (.int .i64 ((t : Int))) ∧ σ' 32 = (.int .i64 (((l).length : Int))) ∧ σ' 33 = (.int .i64 ((i : Int))) ∧ Own eB H' tk (tkB c l (stsL c l i) ls) ∧ Fam H' ps Sps (prtL r c l (stsL c l i)) ∧ Own eI H' pl (plcL r c l (stsL c l i)) ∧ Own eI H' ac (indL l xs) ∧ Cel H' al [(.int .i64 (r)), (.int .i64 (c)), ac] ∧ Own eI H' q9 (ls) ∧ Nw H q9 ∧ Apart tk q9 ∧ Apt Sps q9 ∧ Apart pl q9 ∧ Apart ac q9 ∧ Apart al q9 ∧ Le H H' ∧ flP c l i ls (t + 1) ∧ ls.take (t + 1) = xs) (fun σ68 H68 hP => ?_) (fun J68 hJ68 => ?_)
          · skip
            obtain ⟨q9, ls, g0L68, g4L68, g5L68, g6L68, g8L68, g9L68, g10L68, g32L68, g33L68, otk, ops, opl, oac, oal, oq9, nq9, atkXq9, apsXq9, aplXq9, aacXq9, aalXq9, lE, hfn, hx1⟩ := hP
            have hp := hp0.le lE
            have hvc := hvc0.le lE
            try simp only [g10L68]
            refine ob_i (vInt_add (by omega) (by omega)) ?_
            exact nxt (l.length - (t + 1)) (by omega) ⟨t + 1, rfl, by omega, q9, _, g0L68, g4L68, g5L68, g6L68, g8L68, g9L68, (congrArg (Value.int .i64) (by first | omega | rfl | (simp; done))), g32L68, g33L68, otk, ops, opl, (Own.cast (by rw [hx1]) oac), oal, oq9, nq9, atkXq9, apsXq9, aplXq9, aacXq9, aalXq9, lE, hfn⟩
          refine ob_i (oal.fa 2) ?_
          refine ob_i (oal.ld 2 rfl) ?_
          refine ob_i (oq9.sl.ix (by omega) (by omega)) ?_
          refine ob_i (oq9.sl.ld 0 (by omega) (by omega)) ?_
          refine ob_i (oac.sl.ix (by omega) (by omega)) ?_
          refine oac.st (x := 1) (by omega) (by omega) rfl rfl (fun H69 oac off70 => ?_)
          replace otk := otk.off off70 atkXac
          replace ops := ops.off off70 apsXac
          replace opl := opl.off off70 aplXac
          replace oal := oal.off off70 aacXal.symm
          replace oq9 := oq9.off off70 aacXq9.symm
          replace hp := hp0.le (off70.le lE nac)
          replace hvc := hvc0.le (off70.le lE nac)
          replace lE := off70.le lE nac
          refine ob_i (oq9.sl.ix (by omega) (by omega)) ?_
          refine ob_i (oq9.sl.ld 0 (by omega) (by omega)) ?_
          refine ob_i (hp.nilC) ?_
          refine ob_i (hp.fa 1) ?_
          refine ob_i (hp.ld 1 rfl) ?_
          refine ob_i (vInt_quoN (by omega) (by omega) (by omega)) ?_
          obtain ⟨row, hrow⟩ : ∃ x : Int, x = (at_ 0 (ls) ((t : Int))) / c := ⟨_, rfl⟩
          rw [← hrow]
          refine ob_i (oq9.sl.ix (by omega) (by omega)) ?_
          refine ob_i (oq9.sl.ld 0 (by omega) (by omega)) ?_
          refine ob_i (hp.nilC) ?_
          refine ob_i (hp.fa 1) ?_
          refine ob_i (hp.ld 1 rfl) ?_
          have rm71 := And.intro (Int.emod_nonneg (at_ 0 (ls) ((t : Int))) (b := c) (by omega)) (Int.emod_lt_of_pos (at_ 0 (ls) ((t : Int))) (b := c) (by omega))
          refine ob_i (vInt_remN (by omega) (by omega)) ?_
          obtain ⟨col, hcol⟩ : ∃ x : Int, x = (at_ 0 (ls) ((t : Int))) % c := ⟨_, rfl⟩
          rw [← hcol]
          refine ob_i (vInt_sub (by omega) (by omega)) ?_
          refine ⟨fun n' σ' H' => ∃ a : Nat, n' = 3 - a ∧ a ≤ 3 ∧ ∃ q9, ∃ ls : List Int, σ' 0 = p ∧ σ' 4 = tk ∧ σ' 5 = ps ∧ σ' 6 = pl ∧ σ' 8 = al ∧ σ' 9 = q9 ∧ σ' 10 = (.int .i64 ((t : Int))) ∧ σ' 11 = (.int .i64 (row)) ∧ σ' 12 = (.int .i64 (col)) ∧ σ' 13 = (.int .i64 (row - 1 + (a : Int))) ∧ σ' 32 = (.int .i64 (((l).length : Int))) ∧ σ' 33 = (.int .i64 ((i : Int))) ∧ Own eB H' tk (tkB c l (stsL c l i) ls) ∧ Fam H' ps Sps (prtL r c l (stsL c l i)) ∧ Own eI H' pl (plcL r c l (stsL c l i)) ∧ Own eI H' ac (indL l xs) ∧ Cel H' al [(.int .i64 (r)), (.int .i64 (c)), ac] ∧ Own eI H' q9 (ls) ∧ Nw H q9 ∧ Apart tk q9 ∧ Apt Sps q9 ∧ Apart pl q9 ∧ Apart ac q9 ∧ Apart al q9 ∧ Le H H' ∧ flP c l i ls t ∧ t < ls.length ∧ ls.take (t + 1) = xs ∧ at_ 0 ls (t : Int) = xv ∧ nbD c l ls row col (row - 1 + (a : Int)) (col - 1),
            ⟨_, 0, rfl, by omega, q9, _, g0L66, g4L66, g5L66, g6L66, g8L66, g9L66, g10L66, rfl, rfl, (congrArg (Value.int .i64) (by first | omega | rfl | (simp; done))), g32L66, g33L66, by simpa using otk, ops, opl, (Own.cast ix oac), oal, (Own.cast (by first | rfl | (simp; done)) oq9), nq9, atkXq9, apsXq9, aplXq9, aacXq9, aalXq9, lE, hfl, (by omega), hxs.symm, hxv0.symm, (by rw [show row - 1 + ((0 : Nat) : Int) = row - 1 by omega]; exact nbD_zero)⟩, ?_⟩
          rintro n72 σ72 H72 ⟨a, rfl, haN, q9, ls, g0L72, g4L72, g5L72, g6L72, g8L72, g9L72, g10L72, g11L72, g12L72, g13L72, g32L72, g33L72, otk, ops, opl, oac, oal, oq9, nq9, atkXq9, apsXq9, aplXq9, aacXq9, aalXq9, lE, hfl, htl, hxt, hxv, hnb⟩
          have hp := hp0.le lE
          have hvc := hvc0.le lE
          try simp only [g0L72, g4L72, g9L72, g11L72, g12L72, g13L72]
          rw [← hxv0] at xb
          have hrow : row = xv / c := by rw [hxv0]; assumption
          have hcol : col = xv % c := by rw [hxv0]; assumption
          have rb := rc_bnd (r := r) (c := c) (by omega) xb.1 (by omega) hrow hcol
          refine ob_i (vInt_add (by omega) (by omega)) ?_
          refine ob_i (vInt_leq _ _ _) ?_
          refine cnd_d (fun hg73 => ?_) (fun hg73 => ?_)
          · skip
            have ta := hg73
            refine jn_i (fun σ' H' => ∃ q9, ∃ ls : List Int, σ' 0 = p ∧ σ' 4 = tk ∧ σ' 5 = ps ∧ σ' 6 = pl ∧ σ' 8 = al ∧ σ' 9 = q9 ∧ σ' 10 = (.int .i64 ((t : Int))) ∧ σ' 11 = (.int .i64 (row)) ∧ σ' 12 = (.int .i64 (col)) ∧ σ' 13 = (.int .i64 (row - 1 + (a : Int))) ∧ σ' 32 = (.int .i64 (((l).length : Int))) ∧ σ' 33 = (.int .i64 ((i : Int))) ∧ Own eB H' tk (tkB c l (stsL c l i) ls) ∧ Fam H' ps Sps (prtL r c l (stsL c l i)) ∧ Own eI H' pl (plcL r c l (stsL c l i)) ∧ Own eI H' ac (indL l xs) ∧ Cel H' al [(.int .i64 (r)), (.int .i64 (c)), ac] ∧ Own eI H' q9 (ls) ∧ Nw H q9 ∧ Apart tk q9 ∧ Apt Sps q9 ∧ Apart pl q9 ∧ Apart ac q9 ∧ Apart al q9 ∧ Le H H' ∧ flP c l i ls t ∧ t < ls.length ∧ ls.take (t + 1) = xs ∧ at_ 0 ls (t : Int) = xv ∧ nbD c l ls row col (row - 1 + ((a + 1 : Nat) : Int)) (col - 1)) (fun σ74 H74 hP => ?_) (fun J74 hJ74 => ?_)
            · skip
              obtain ⟨q9, ls, g0L74, g4L74, g5L74, g6L74, g8L74, g9L74, g10L74, g11L74, g12L74, g13L74, g32L74, g33L74, otk, ops, opl, oac, oal, oq9, nq9, atkXq9, apsXq9, aplXq9, aacXq9, aalXq9, lE, hf6, ht6, hx6, hv6, hn6⟩ := hP
              have hp := hp0.le lE
              have hvc := hvc0.le lE
              try simp only [g13L74]
              refine ob_i (vInt_add (by omega) (by omega)) ?_
              exact nxt (3 - (a + 1)) (by omega) ⟨a + 1, rfl, by omega, q9, _, g0L74, g4L74, g5L74, g6L74, g8L74, g9L74, g10L74, g11L74, g12L74, (congrArg (Value.int .i64) (by first | omega | rfl | (simp; done))), g32L74, g33L74, otk, ops, opl, oac, oal, oq9, nq9, atkXq9, apsXq9, aplXq9, aacXq9, aalXq9, lE, hf6, ht6, hx6, hv6, hn6⟩
            refine ob_i (vInt_sub (by omega) (by omega)) ?_
            refine ⟨fun n' σ' H' => ∃ b : Nat, n' = 3 - b ∧ b ≤ 3 ∧ ∃ q9, ∃ ls : List Int, σ' 0 = p ∧ σ' 4 = tk ∧ σ' 5 = ps ∧ σ' 6 = pl ∧ σ' 8 = al ∧ σ' 9 = q9 ∧ σ' 10 = (.int .i64 ((t : Int))) ∧ σ' 11 = (.int .i64 (row)) ∧ σ' 12 = (.int .i64 (col)) ∧ σ' 13 = (.int .i64 (row - 1 + (a : Int))) ∧ σ' 14 = (.int .i64 (col - 1 + (b : Int))) ∧ σ' 32 = (.int .i64 (((l).length : Int))) ∧ σ' 33 = (.int .i64 ((i : Int))) ∧ Own eB H' tk (tkB c l (stsL c l i) ls) ∧ Fam H' ps Sps (prtL r c l (stsL c l i)) ∧ Own eI H' pl (plcL r c l (stsL c l i)) ∧ Own eI H' ac (indL l xs) ∧ Cel H' al [(.int .i64 (r)), (.int .i64 (c)), ac] ∧ Own eI H' q9 (ls) ∧ Nw H q9 ∧ Apart tk q9 ∧ Apt Sps q9 ∧ Apart pl q9 ∧ Apart ac q9 ∧ Apart al q9 ∧ Le H H' ∧ flP c l i ls t ∧ t < ls.length ∧ ls.take (t + 1) = xs ∧ at_ 0 ls (t : Int) = xv ∧ nbD c l ls row col (row - 1 + (a : Int)) (col - 1 + (b : Int)),
              ⟨_, 0, rfl, by omega, q9, _, g0L72, g4L72, g5L72, g6L72, g8L72, g9L72, g10L72, g11L72, g12L72, g13L72, (congrArg (Value.int .i64) (by first | omega | rfl | (simp; done))), g32L72, g33L72, by simpa using otk, ops, opl, by simpa using oac, oal, (Own.cast (by first | rfl | (simp; done)) oq9), nq9, atkXq9, apsXq9, aplXq9, aacXq9, aalXq9, lE, hfl, htl, hxt, hxv, (by rw [show col - 1 + ((0 : Nat) : Int) = col - 1 by omega]; exact hnb)⟩, ?_⟩
            rintro n75 σ75 H75 ⟨b, rfl, hbN, q9, ls, g0L75, g4L75, g5L75, g6L75, g8L75, g9L75, g10L75, g11L75, g12L75, g13L75, g14L75, g32L75, g33L75, otk, ops, opl, oac, oal, oq9, nq9, atkXq9, apsXq9, aplXq9, aacXq9, aalXq9, lE, hfl, htl, hxt, hxv, hnb⟩
            have hp := hp0.le lE
            have hvc := hvc0.le lE
            try simp only [g0L75, g4L75, g9L75, g12L75, g13L75, g14L75]
            have tl6 := tkB_len (c := c) (l := l) (L := (stsL c l i)) (ls := ls)
            have fl6 := flP_len hfl
            refine ob_i (vInt_add (by omega) (by omega)) ?_
            refine ob_i (vInt_leq _ _ _) ?_
            refine cnd_d (fun hg76 => ?_) (fun hg76 => ?_)
            · skip
              have tb := hg76
              refine ob_i (hp.nilC) ?_
              refine ob_i (hp.fa 0) ?_
              refine ob_i (hp.ld 0 rfl) ?_
              refine ob_i (vInt_sub (by omega) (by omega)) ?_
              refine C.spec_l00In  ?_
              refine ob_nd (fun hc77 => ?_) (fun hc77 => ?_)
              · skip
                refine gop_rf ?_
                refine gop_rf ?_
                refine gop_rf ?_
                refine ob_i (hp.nilC) ?_
                refine gop_rf ?_
                refine ob_i (hp.fa 1) ?_
                refine gop_rf ?_
                refine ob_i (hp.ld 1 rfl) ?_
                refine gop_rf ?_
                refine ob_i (vInt_sub (by omega) (by omega)) ?_
                refine gop_rf ?_
                refine C.spec_l00In  ?_
                refine gop_rf ?_
                refine ob_nd (fun hc78 => ?_) (fun hc78 => ?_)
                · skip
                  have pq := pq_dm (r := r) (c := c) (p := row - 1 + (a : Int)) (q := col - 1 + (b : Int)) (by omega) (by omega) (by omega) (by omega)
                  refine ob_i (vPick_f _ _) ?_
                  refine cnd_f1 ?_
                  refine ob_i (hp.nilC) ?_
                  refine ob_i (hp.fa 1) ?_
                  refine ob_i (hp.ld 1 rfl) ?_
                  refine ob_i (vInt_mul (by omega) (by omega)) ?_
                  refine ob_i (vInt_add (by omega) (by omega)) ?_
                  refine ob_i (hp.nilC) ?_
                  refine ob_i (hp.fa 2) ?_
                  refine ob_i (hp.ld 2 rfl) ?_
                  refine ob_i (hvc.ix (by omega) (by omega)) ?_
                  refine ob_i (hvc.ld 0 (by omega) (by omega)) ?_
                  refine ob_i (vInt_eql _ _ _) ?_
                  by_cases hc79 : (at_ 0 (l) (((row - 1 + (a : Int)) * c) + (col - 1 + (b : Int)))) = 1
                  · skip
                    refine gop_e (decide_eq_true hc79) ?_
                    refine gop_rt ?_
                    refine gop_e (decide_eq_true hc79) ?_
                    refine gop_rt ?_
                    refine gop_e (decide_eq_true hc79) ?_
                    refine gop_rt ?_
                    refine ob_i (otk.sl.ix (by omega) (by omega)) ?_
                    refine gop_e (decide_eq_true hc79) ?_
                    refine gop_rt ?_
                    refine ob_i (otk.sl.ld false (by omega) (by omega)) ?_
                    refine gop_e (decide_eq_true hc79) ?_
                    refine gop_rt ?_
                    refine ob_i (vUn_not _) ?_
                    refine ob_i (vPick_et (decide_eq_true hc79) _ _) ?_
                    refine cnd_i (fun hg80 => ?_) (fun hg80 => ?_)
                    · skip
                      refine ob_i (otk.sl.ix (by omega) (by omega)) ?_
                      refine otk.st (x := true) (by omega) (by omega) rfl rfl (fun H81 otk off82 => ?_)
                      replace ops := ops.off off82 atkXps.symm
                      replace opl := opl.off off82 atkXpl.symm
                      replace oac := oac.off off82 atkXac.symm
                      replace oal := oal.off off82 atkXal.symm
                      replace oq9 := oq9.off off82 atkXq9.symm
                      replace hp := hp0.le (off82.le lE ntk)
                      replace hvc := hvc0.le (off82.le lE ntk)
                      replace lE := off82.le lE ntk
                      refine bS_i (enc := eI) (l := [((row - 1 + (a : Int)) * c) + (col - 1 + (b : Int))]) (by omega) rfl (by kernel_rfl) (fun u83 H84 ou83 nn85 le87 => ?_)
                      have atkXu83 : Apart tk u83 := otk.apart nn85
                      have apsXu83 : Apt Sps u83 := Apt.of_nw ops.known nn85
                      have aplXu83 : Apart pl u83 := opl.apart nn85
                      have aacXu83 : Apart ac u83 := oac.apart nn85
                      have aalXu83 : Apart al u83 := oal.apart nn85
                      have aq9Xu83 : Apart q9 u83 := oq9.apart nn85
                      have nu83 : Nw H u83 := nn85.le lE
                      replace otk := otk.le le87
                      replace ops := ops.le le87
                      replace opl := opl.le le87
                      replace oac := oac.le le87
                      replace oal := oal.le le87
                      replace oq9 := oq9.le le87
                      replace hp := hp.le le87
                      replace hvc := hvc.le le87
                      replace lE := lE.trans le87
                      refine apd_any oq9 ou83.sl (fun _ => rfl) (by omega) (by first | omega | (simp only [List.length_cons, List.length_nil, List.length_append, List.length_replicate, List.length_map, List.length_range]; omega)) (fun u91 H88 ou91 off89 hb90 => ?_)
                      have atkXu91 : Apart tk u91 := Apart.ap2 otk.known atkXq9 hb90
                      have apsXu91 : Apt Sps u91 := Apt.ap2 ops.known apsXq9 hb90
                      have aplXu91 : Apart pl u91 := Apart.ap2 opl.known aplXq9 hb90
                      have aacXu91 : Apart ac u91 := Apart.ap2 oac.known aacXq9 hb90
                      have aalXu91 : Apart al u91 := Apart.ap2 oal.known aalXq9 hb90
                      have au83Xu91 : Apart u83 u91 := Apart.ap2 ou83.known aq9Xu83.symm hb90
                      have nu91 : Nw H u91 := Nw.ap2 nq9 lE hb90
                      replace otk := otk.off off89 atkXq9
                      replace ops := ops.off off89 apsXq9
                      replace opl := opl.off off89 aplXq9
                      replace oac := oac.off off89 aacXq9
                      replace oal := oal.off off89 aalXq9
                      replace ou83 := ou83.off off89 aq9Xu83.symm
                      replace hp := hp0.le (off89.le lE nq9)
                      replace hvc := hvc0.le (off89.le lE nq9)
                      replace lE := off89.le lE nq9
                      refine ob_i (vInt_add (by omega) (by omega)) ?_
                      have fz := flP_found (y := ((row - 1 + (a : Int)) * c + (col - 1 + (b : Int)))) (p := (row - 1 + (a : Int))) (q := (col - 1 + (b : Int))) hfl htl hxv hrow hcol pq.1.1 (by omega) pq.2.2.1 pq.2.2.2 ⟨by omega, by omega⟩ ⟨by omega, by omega⟩ hc79 (stsL c l i) (by first | exact hg80 | (simpa using hg80)) hnb
                      have fn := fz.2.2.2.2.1
                      exact nxt (3 - (b + 1)) (by omega) ⟨b + 1, rfl, by omega, u91, (ls ++ ([((row - 1 + (a : Int)) * c) + (col - 1 + (b : Int))])), g0L75, g4L75, g5L75, g6L75, g8L75, rfl, g10L75, g11L75, g12L75, g13L75, (congrArg (Value.int .i64) (by first | omega | rfl | (simp; done))), g32L75, g33L75, (Own.cast fz.2.2.2.2.2 otk), ops, opl, oac, oal, ou91, nu91, atkXu91, apsXu91, aplXu91, aacXu91, aalXu91, lE, fz.1, fz.2.1, (fz.2.2.1.trans hxt), fz.2.2.2.1, (by rw [show col - 1 + ((b + 1 : Nat) : Int) = col - 1 + (b : Int) + 1 by omega]; exact fn)⟩
                    · skip
                      refine ob_i (vInt_add (by omega) (by omega)) ?_
                      have fn := nbD_skip2 (p := (row - 1 + (a : Int))) (q := (col - 1 + (b : Int))) hfl htl hxv hrow hcol ⟨by omega, by omega⟩ ⟨by omega, by omega⟩ (stsL c l i) hnr hnb (fun y h1 h2 h3 => by have yb := rc_bnd (r := r) (c := c) (x := (y : Int)) (by omega) (by omega) (by have := h3.1; omega) h1.symm h2.symm; have e0 := Int.emod_add_mul_ediv (y : Int) c; rw [h1, h2, Int.mul_comm c] at e0; have ye : (y : Int) = ((row - 1 + (a : Int)) * c + (col - 1 + (b : Int))) := (by omega); have y1 := h3.2; rw [ye] at y1 ⊢; first | omega | assumption | contradiction | (simp_all; done))
                      exact nxt (3 - (b + 1)) (by omega) ⟨b + 1, rfl, by omega, q9, ls, g0L75, g4L75, g5L75, g6L75, g8L75, g9L75, g10L75, g11L75, g12L75, g13L75, (congrArg (Value.int .i64) (by first | omega | rfl | (simp; done))), g32L75, g33L75, otk, ops, opl, oac, oal, oq9, nq9, atkXq9, apsXq9, aplXq9, aacXq9, aalXq9, lE, hfl, htl, hxt, hxv, (by rw [show col - 1 + ((b + 1 : Nat) : Int) = col - 1 + (b : Int) + 1 by omega]; exact fn)⟩
                  · skip
                    refine gop_e (decide_eq_false hc79) ?_
                    refine gop_sf ?_
                    refine gop_e (decide_eq_false hc79) ?_
                    refine gop_sf ?_
                    refine gop_e (decide_eq_false hc79) ?_
                    refine gop_sf ?_
                    refine gop_e (decide_eq_false hc79) ?_
                    refine gop_sf ?_
                    refine gop_e (decide_eq_false hc79) ?_
                    refine gop_sf ?_
                    refine ob_i (vPick_ef (decide_eq_false hc79) _ _) ?_
                    refine cnd_f1 ?_
                    refine ob_i (vInt_add (by omega) (by omega)) ?_
                    have fn := nbD_skip2 (p := (row - 1 + (a : Int))) (q := (col - 1 + (b : Int))) hfl htl hxv hrow hcol ⟨by omega, by omega⟩ ⟨by omega, by omega⟩ (stsL c l i) hnr hnb (fun y h1 h2 h3 => by have yb := rc_bnd (r := r) (c := c) (x := (y : Int)) (by omega) (by omega) (by have := h3.1; omega) h1.symm h2.symm; have e0 := Int.emod_add_mul_ediv (y : Int) c; rw [h1, h2, Int.mul_comm c] at e0; have ye : (y : Int) = ((row - 1 + (a : Int)) * c + (col - 1 + (b : Int))) := (by omega); have y1 := h3.2; rw [ye] at y1 ⊢; first | omega | assumption | contradiction | (simp_all; done))
                    exact nxt (3 - (b + 1)) (by omega) ⟨b + 1, rfl, by omega, q9, ls, g0L75, g4L75, g5L75, g6L75, g8L75, g9L75, g10L75, g11L75, g12L75, g13L75, (congrArg (Value.int .i64) (by first | omega | rfl | (simp; done))), g32L75, g33L75, otk, ops, opl, oac, oal, oq9, nq9, atkXq9, apsXq9, aplXq9, aacXq9, aalXq9, lE, hfl, htl, hxt, hxv, (by rw [show col - 1 + ((b + 1 : Nat) : Int) = col - 1 + (b : Int) + 1 by omega]; exact fn)⟩
                · skip
                  refine ob_i (vPick_f _ _) ?_
                  refine cnd_t1 ?_
                  refine ob_i (vInt_add (by omega) (by omega)) ?_
                  have fn := nbD_skip2 (p := (row - 1 + (a : Int))) (q := (col - 1 + (b : Int))) hfl htl hxv hrow hcol ⟨by omega, by omega⟩ ⟨by omega, by omega⟩ (stsL c l i) hnr hnb (fun y h1 h2 h3 => by have yb := rc_bnd (r := r) (c := c) (x := (y : Int)) (by omega) (by omega) (by have := h3.1; omega) h1.symm h2.symm; have e0 := Int.emod_add_mul_ediv (y : Int) c; rw [h1, h2, Int.mul_comm c] at e0; have ye : (y : Int) = ((row - 1 + (a : Int)) * c + (col - 1 + (b : Int))) := (by omega); have y1 := h3.2; rw [ye] at y1 ⊢; first | omega | assumption | contradiction | (simp_all; done))
                  exact nxt (3 - (b + 1)) (by omega) ⟨b + 1, rfl, by omega, q9, ls, g0L75, g4L75, g5L75, g6L75, g8L75, g9L75, g10L75, g11L75, g12L75, g13L75, (congrArg (Value.int .i64) (by first | omega | rfl | (simp; done))), g32L75, g33L75, otk, ops, opl, oac, oal, oq9, nq9, atkXq9, apsXq9, aplXq9, aacXq9, aalXq9, lE, hfl, htl, hxt, hxv, (by rw [show col - 1 + ((b + 1 : Nat) : Int) = col - 1 + (b : Int) + 1 by omega]; exact fn)⟩
              · skip
                refine gop_st ?_
                refine gop_st ?_
                refine gop_st ?_
                refine gop_st ?_
                refine gop_st ?_
                refine gop_st ?_
                refine gop_st ?_
                refine gop_st ?_
                refine ob_i (vPick_t _ _) ?_
                refine cnd_t1 ?_
                refine ob_i (vInt_add (by omega) (by omega)) ?_
                have fn := nbD_skip2 (p := (row - 1 + (a : Int))) (q := (col - 1 + (b : Int))) hfl htl hxv hrow hcol ⟨by omega, by omega⟩ ⟨by omega, by omega⟩ (stsL c l i) hnr hnb (fun y h1 h2 h3 => by have yb := rc_bnd (r := r) (c := c) (x := (y : Int)) (by omega) (by omega) (by have := h3.1; omega) h1.symm h2.symm; have e0 := Int.emod_add_mul_ediv (y : Int) c; rw [h1, h2, Int.mul_comm c] at e0; have ye : (y : Int) = ((row - 1 + (a : Int)) * c + (col - 1 + (b : Int))) := (by omega); have y1 := h3.2; rw [ye] at y1 ⊢; first | omega | assumption | contradiction | (simp_all; done))
                exact nxt (3 - (b + 1)) (by omega) ⟨b + 1, rfl, by omega, q9, ls, g0L75, g4L75, g5L75, g6L75, g8L75, g9L75, g10L75, g11L75, g12L75, g13L75, (congrArg (Value.int .i64) (by first | omega | rfl | (simp; done))), g32L75, g33L75, otk, ops, opl, oac, oal, oq9, nq9, atkXq9, apsXq9, aplXq9, aacXq9, aalXq9, lE, hfl, htl, hxt, hxv, (by rw [show col - 1 + ((b + 1 : Nat) : Int) = col - 1 + (b : Int) + 1 by omega]; exact fn)⟩
            · skip
              have tb := hg76
              exact hJ74 _ _ ⟨q9, _, g0L75, g4L75, g5L75, g6L75, g8L75, g9L75, g10L75, g11L75, g12L75, g13L75, g32L75, g33L75, otk, ops, opl, oac, oal, oq9, nq9, atkXq9, apsXq9, aplXq9, aacXq9, aalXq9, lE, hfl, htl, hxt, hxv, (by have hh := nbD_row (b := col - 1) (show nbD c l ls row col (row - 1 + (a : Int)) (col + 2) by rw [show col + 2 = col - 1 + (b : Int) by omega]; exact hnb) (by omega); rw [show row - 1 + ((a + 1 : Nat) : Int) = row - 1 + (a : Int) + 1 by omega]; exact hh)⟩
          · skip
            have ta := hg73
            have hfz := flP_next hfl htl (by rw [hxv]; exact hrow) (by rw [hxv]; exact hcol) (show nbD c l ls row col (row + 2) 0 from fun y g1 g2 g3 g4 => hnb y g1 g2 g3 (by omega))
            exact hJ68 _ _ ⟨q9, _, g0L72, g4L72, g5L72, g6L72, g8L72, g9L72, g10L72, g32L72, g33L72, otk, ops, opl, oac, oal, oq9, nq9, atkXq9, apsXq9, aplXq9, aacXq9, aalXq9, lE, hfz, hxt⟩
        · skip
          have tt := hg67
          have hte := hfl.2.2.2.1
          have hend := flood_end hfl.1 hfl.2.1 (fun x y hx => hfl.2.2.2.2 x y (by rw [List.take_of_length_le (by omega)]; exact hx))
          exact hJ32 _ _ ⟨g0L66, g4L66, g5L66, g6L66, g8L66, g32L66, g33L66, (Own.cast (tkB_end hend) otk), ops, opl, (Own.cast (by rw [List.take_of_length_le (by omega)]; exact indL_end hend) oac), oal, lE⟩
  · skip
    have ti := hg14
    obtain rfl : i = l.length := by omega
    exact hJ12 _ _ ⟨ps, Sps, pl, g5L13, g6L13, ops, opl, nps, npl, apsXpl, lE⟩
end Go.Proofs.Ytejbicikffhggaa
