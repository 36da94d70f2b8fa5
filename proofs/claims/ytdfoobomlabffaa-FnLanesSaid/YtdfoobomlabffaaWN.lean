/- The law of lanes. -/
import Derived.Test.YtdfoobomlabffaaLP
import Derived.Test.YtdfoobomlabffaaWL
namespace Go.Proofs.Ytdfoobomlabffaa
open HL
set_option maxRecDepth 100000
theorem C.laws_r8Cars {va : Value} {l : List Int}  {H : Hp} {K : Value → Hp → Prop} (hva0 : Sl eI H va l) (k1 : l.length ≤ 9223372036854775807)
    (hk : ∀ H', Le H H' → K (.int .i64 (carsN l)) H') : HT prg I.laws_r8Cars [va].toArray H K := by
  have lE := Le.refl H
  have hva := hva0
  refine R.laws_r8Cars ?_
  unfold F.laws_r8Cars
  refine jn_i (fun σ' H' => σ' 3 = (.int .i64 (carsN l)) ∧ Le H H') (fun σ1 H1 hP => ?_) (fun J1 hJ1 => ?_)
  · skip
    obtain ⟨g3L1, lE⟩ := hP
    have hva := hva0.le lE
    try simp only [g3L1]
    skip
    exact hk   _    lE
  refine ⟨fun n' σ' H' => ∃ i : Nat, n' = l.length - i ∧ i ≤ l.length ∧ σ' 0 = va ∧ σ' 3 = (.int .i64 (cN (fun i => at_ 0 l (i : Int)) i)) ∧ σ' 4 = (.int .i64 ((i : Int))) ∧ Le H H',
    ⟨_, 0, rfl, by omega, rfl, (congrArg (Value.int .i64) (by first | omega | rfl | (simp; done))), (congrArg (Value.int .i64) (by first | omega | rfl | (simp; done))), lE⟩, ?_⟩
  rintro n2 σ2 H2 ⟨i, rfl, hiN, g0L2, g3L2, g4L2, lE⟩
  have hva := hva0.le lE
  try simp only [g0L2, g3L2, g4L2]
  have cb := cN_bnd (fun i => at_ 0 l (i : Int)) i
  refine ob_i (hva.len) ?_
  refine ob_i (vInt_lss _ _ _) ?_
  refine cnd_d (fun hg3 => ?_) (fun hg3 => ?_)
  · skip
    have ti := hg3
    refine ob_i (hva.ix (by omega) (by omega)) ?_
    refine ob_i (hva.ld 0 (by omega) (by omega)) ?_
    refine ob_i (vInt_geq _ _ _) ?_
    refine cnd_d (fun hg4 => ?_) (fun hg4 => ?_)
    · skip
      refine ob_i (vInt_add (by omega) (by omega)) ?_
      refine ob_i (vInt_add (by omega) (by omega)) ?_
      have cs : cN (fun i => at_ 0 l (i : Int)) (i + 1) = cN (fun i => at_ 0 l (i : Int)) i + 1 := by rw [cN, if_pos (by omega)]
      exact nxt (l.length - (i + 1)) (by omega) ⟨i + 1, rfl, by omega, g0L2, (congrArg (Value.int .i64) (by first | omega | rfl | (simp; done))), (congrArg (Value.int .i64) (by first | omega | rfl | (simp; done))), lE⟩
    · skip
      refine ob_i (vInt_add (by omega) (by omega)) ?_
      have cs : cN (fun i => at_ 0 l (i : Int)) (i + 1) = cN (fun i => at_ 0 l (i : Int)) i + 0 := by rw [cN, if_neg (by omega)]
      exact nxt (l.length - (i + 1)) (by omega) ⟨i + 1, rfl, by omega, g0L2, (g3L2.trans (congrArg (Value.int .i64) (by first | omega | rfl | (simp; done)))), (congrArg (Value.int .i64) (by first | omega | rfl | (simp; done))), lE⟩
  · skip
    have ti := hg3
    obtain rfl : i = l.length := by omega
    exact hJ1 _ _ ⟨(g3L2.trans (congrArg (Value.int .i64) (by first | omega | rfl | (simp; done)))), lE⟩
theorem C.spec_R8Lane {vy : Value} {n : Int} {l : List Int}  {H : Hp} {K : Value → Hp → Prop} (hvy0 : Sl eU H vy l) (hb_vy : bytP l) (hl_vy : l.length ≤ 9223372036854775807) (n0 : 0 ≤ n) (n1 : n ≤ 1000)
    (hk : ∀ (ls : List Int), ((ls.length : Int) = n ∧ ∀ x ∈ ls, -1 ≤ x ∧ x ≤ 3) → ∀ u1 H', Own eI H' u1 ls → Nw H u1 → Le H H' → K u1 H') : HT prg I.spec_R8Lane [vy, (.int .i64 (n))].toArray H K := by
  have lE := Le.refl H
  have hvy := hvy0
  refine R.spec_R8Lane ?_
  unfold F.spec_R8Lane
  refine C.spec_l00From hvy (fun q H1 oq nn2 le3 => ?_)
  have nq : Nw H q := nn2.le lE
  replace hvy := hvy.le le3
  replace lE := lE.trans le3
  replace oq : Cel H1 q [vy, (.int .i64 (0)), (.int .u64 (0))] := oq
  refine bS_nil (enc := eI) (fun u4 H5 ou4 nn6 kk7 le8 => ?_)
  have aqXu4 : Apart q u4 := oq.apart nn6
  have nu4 : Nw H u4 := nn6.le lE
  replace oq := oq.le le8
  replace hvy := hvy.le le8
  replace lE := lE.trans le8
  refine jn_i (fun σ' H' => ∃ u, ∃ ls, σ' 6 = u ∧ Own eI H' u (ls) ∧ Nw H u ∧ Le H H' ∧ ls.length = n.toNat ∧ (∀ x ∈ ls, -1 ≤ x ∧ x ≤ 3)) (fun σ9 H9 hP => ?_) (fun J9 hJ9 => ?_)
  · skip
    obtain ⟨u, ls, g6L9, ou, nu, lE, hln, hLa⟩ := hP
    have hvy := hvy0.le lE
    try simp only [g6L9]
    skip
    exact hk  ls (by exact ⟨by omega, hLa⟩) u _ ou nu  lE
  refine ⟨fun n' σ' H' => ∃ i : Nat, n' = n.toNat - i ∧ i ≤ n.toNat ∧ ∃ u, ∃ ls, ∃ ats, ∃ sd, σ' 1 = (.int .i64 (n - (i : Int))) ∧ σ' 5 = q ∧ σ' 6 = u ∧ Cel H' q [vy, (.int .i64 (ats)), (.int .u64 (sd))] ∧ Own eI H' u (ls) ∧ Nw H u ∧ Apart q u ∧ Le H H' ∧ ls.length = i ∧ (∀ x ∈ ls, -1 ≤ x ∧ x ≤ 3) ∧ 0 ≤ ats ∧ ats ≤ 4 * (i : Int),
    ⟨_, 0, rfl, by omega, u4, [], 0, 0, (congrArg (Value.int .i64) (by first | omega | rfl | (simp; done))), rfl, rfl, oq, (Own.cast (by first | rfl | (simp; done)) ou4), nu4, aqXu4, lE, rfl, (by simp), ⟨by omega, by omega⟩⟩, ?_⟩
  rintro n10 σ10 H10 ⟨i, rfl, hiN, u, ls, ats, sd, g1L10, g5L10, g6L10, oq, ou, nu, aqXu, lE, hln, hLa, hat⟩
  have hvy := hvy0.le lE
  try simp only [g1L10, g5L10, g6L10]
  refine ob_i (vInt_gtr _ _ _) ?_
  refine cnd_d (fun hg11 => ?_) (fun hg11 => ?_)
  · skip
    have ti := hg11
    refine C.pspec_l00Src_one (n := 3) hvy0 hb_vy hl_vy lE nq oq (by omega) (by omega) (fun x12 at13 sd14 H15 ap17 aq18 oq off16 => ?_)
    replace ou := ou.off off16 aqXu.symm
    replace hvy := hvy0.le (off16.le lE nq)
    replace lE := off16.le lE nq
    replace oq : Cel H15 q [vy, (.int .i64 (at13)), (.int .u64 (sd14))] := oq
    refine cnd_i (fun hg19 => ?_) (fun hg19 => ?_)
    · skip
      refine C.pspec_l00Src_pick hvy0 hb_vy hl_vy lE nq oq (by omega) (by omega) (fun x20 at21 sd22 H23 xp25 xq26 ap27 aq28 oq off24 => ?_)
      replace xq26 := xq26 (by omega)
      replace ou := ou.off off24 aqXu.symm
      replace hvy := hvy0.le (off24.le lE nq)
      replace lE := off24.le lE nq
      replace oq : Cel H23 q [vy, (.int .i64 (at21)), (.int .u64 (sd22))] := oq
      refine bS_i (enc := eI) (l := [x20]) (by omega) rfl (by kernel_rfl) (fun u29 H30 ou29 nn31 le33 => ?_)
      have aqXu29 : Apart q u29 := oq.apart nn31
      have auXu29 : Apart u u29 := ou.apart nn31
      have nu29 : Nw H u29 := nn31.le lE
      replace oq := oq.le le33
      replace ou := ou.le le33
      replace hvy := hvy.le le33
      replace lE := lE.trans le33
      refine apd_any ou ou29.sl (fun _ => rfl) (by omega) (by first | omega | (simp only [List.length_cons, List.length_nil, List.length_append, List.length_replicate, List.length_map, List.length_range]; omega)) (fun u37 H34 ou37 off35 hb36 => ?_)
      have aqXu37 : Apart q u37 := Apart.ap2 oq.known aqXu hb36
      have au29Xu37 : Apart u29 u37 := Apart.ap2 ou29.known auXu29.symm hb36
      have nu37 : Nw H u37 := Nw.ap2 nu lE hb36
      replace oq := oq.off off35 aqXu
      replace ou29 := ou29.off off35 auXu29.symm
      replace hvy := hvy0.le (off35.le lE nu)
      replace lE := off35.le lE nu
      refine ob_i (vInt_sub (by omega) (by omega)) ?_
      exact nxt (n.toNat - (i + 1)) (by omega) ⟨i + 1, rfl, by omega, u37, (ls ++ ([x20])), (at21), (sd22), (congrArg (Value.int .i64) (by first | omega | rfl | (simp; done))), g5L10, rfl, oq, ou37, nu37, aqXu37, lE, (by simp [hln]), (all_snoc hLa (by omega)), ⟨by omega, by omega⟩⟩
    · skip
      refine bS_i (enc := eI) (l := [(-1)]) (by omega) rfl (by kernel_rfl) (fun u38 H39 ou38 nn40 le42 => ?_)
      have aqXu38 : Apart q u38 := oq.apart nn40
      have auXu38 : Apart u u38 := ou.apart nn40
      have nu38 : Nw H u38 := nn40.le lE
      replace oq := oq.le le42
      replace ou := ou.le le42
      replace hvy := hvy.le le42
      replace lE := lE.trans le42
      refine apd_any ou ou38.sl (fun _ => rfl) (by omega) (by first | omega | (simp only [List.length_cons, List.length_nil, List.length_append, List.length_replicate, List.length_map, List.length_range]; omega)) (fun u46 H43 ou46 off44 hb45 => ?_)
      have aqXu46 : Apart q u46 := Apart.ap2 oq.known aqXu hb45
      have au38Xu46 : Apart u38 u46 := Apart.ap2 ou38.known auXu38.symm hb45
      have nu46 : Nw H u46 := Nw.ap2 nu lE hb45
      replace oq := oq.off off44 aqXu
      replace ou38 := ou38.off off44 auXu38.symm
      replace hvy := hvy0.le (off44.le lE nu)
      replace lE := off44.le lE nu
      refine ob_i (vInt_sub (by omega) (by omega)) ?_
      exact nxt (n.toNat - (i + 1)) (by omega) ⟨i + 1, rfl, by omega, u46, (ls ++ ([(-1)])), (at13), (sd14), (congrArg (Value.int .i64) (by first | omega | rfl | (simp; done))), g5L10, rfl, oq, ou46, nu46, aqXu46, lE, (by simp [hln]), (all_snoc hLa (by omega)), ⟨by omega, by omega⟩⟩
  · skip
    have ti := hg11
    exact hJ9 _ _ ⟨u, ls, g6L10, ou, nu, lE, (by omega), hLa⟩
theorem C.lane_ok {va : Value} {l : List Int} {mo x : Int} {sh : Nat} {H : Hp} {K : Value → Hp → Prop} (hva0 : Sl eI H va l) (k1 : l.length ≤ 9223372036854775807) (hP : lnsP l mo sh x) (hk : ∀ u1 H', Own eI H' u1 (lnL l mo sh x) → Nw H u1 → Le H H' → K (.tuple #[u1, .int .i64 (lnX l mo sh x), .bool true]) H') :
    HT prg I.impl_LaneStep [va, .int .i64 mo, .float .f32 sh, .int .i64 x].toArray H K :=
  C.impl_LaneStep hva0 k1 (fun u1 H' o n le => by rw [selL_t hP] at o; rw [selI_t hP, decide_eq_true hP]; exact hk u1 H' o n le)
theorem C.sw_ok {va vb : Value} {l m : List Int} {H : Hp} {K : Value → Hp → Prop} (hva0 : Sl eI H va l) (hvb0 : Sl eI H vb m) (hP : okSw l m) (hk : ∀ u1 u2 H', Own eI H' u1 (swL l m l.length) → Own eI H' u2 (swL m l m.length) → Nw H u1 → Nw H u2 → Apart u1 u2 → Le H H' → K (.tuple #[u1, u2, .bool true]) H') :
    HT prg I.impl_SwitchLanes [va, vb].toArray H K := by
  have h1 := hP.1.1; have h2 := hP.2.1.1
  refine C.impl_SwitchLanes hva0 hvb0 (by omega) (by omega) (fun u1 u2 H' o1 o2 n1 n2 ap le => ?_)
  unfold sw1 at o1; unfold sw2 at o2
  rw [if_pos hP] at o1 o2; rw [decide_eq_true hP]
  exact hk u1 u2 H' o1 o2 n1 n2 ap le
theorem C.speed_ok {va : Value} {l : List Int} {mo x : Int} {sh : Nat} {H : Hp} {K : Value → Hp → Prop} (hL : isLane l) (hn : l.length ≤ 20) (m0 : 1 ≤ mo) (m1 : mo ≤ 5) (hva0 : Sl eI H va (lnL l mo sh x)) (hk : ∀ z, (0 < carsN l → fLt z 0 = false ∧ fGt z (FloatKind.f32.nearest mo) = false) → K (.tuple #[.float .f32 z, .bool (decide (0 < (carsN l)))]) H) :
    HT prg I.impl_LaneSpeed [va].toArray H K := by
  refine C.impl_LaneSpeed hva0 (by rw [ln_len]; omega) (fun z hz => ?_)
  have h := ln_speed (sh := sh) (x := x) hL hn m0 m1 hz
  rw [decide_eq_decide.mpr h.1]
  exact hk z (fun g => h.2 (h.1.mpr g))
theorem C.laws_r8Long {vy vm : Value} {l : List Int} {m : List Int}  {H : Hp} {K : Value → Hp → Prop} (hvy0 : Sl eU H vy l) (hvm0 : Sl eU H vm m)
    (hk : ∀ H', Le H H' → K (.bool (decide (48 < l.length ∨ 48 < m.length))) H') : HT prg I.laws_r8Long [vy, vm].toArray H K := by
  have lE := Le.refl H
  have hvy := hvy0
  have hvm := hvm0
  refine R.laws_r8Long ?_
  unfold F.laws_r8Long
  refine ob_i (hvy.len) ?_
  refine ob_i (vInt_gtr _ _ _) ?_
  by_cases hc1 : 48 < (((l).length : Int))
  · skip
    refine gop_e (decide_eq_true hc1) ?_
    refine gop_st ?_
    refine gop_e (decide_eq_true hc1) ?_
    refine gop_st ?_
    refine gop_e (decide_eq_true hc1) ?_
    refine gop_st ?_
    refine ob_i (vPick_et (decide_eq_true hc1) _ _) ?_
    skip
    exact keq (K := K) (by rw [decide_eq_true (show (48 < l.length ∨ 48 < m.length) from by omega)]) (hk   _    lE)
  · skip
    refine gop_e (decide_eq_false hc1) ?_
    refine gop_rf ?_
    refine gop_e (decide_eq_false hc1) ?_
    refine gop_rf ?_
    refine ob_i (hvm.len) ?_
    refine gop_e (decide_eq_false hc1) ?_
    refine gop_rf ?_
    refine ob_i (vInt_gtr _ _ _) ?_
    refine ob_i (vPick_ef (decide_eq_false hc1) _ _) ?_
    skip
    exact keq (K := K) (by rw [show decide (48 < (((m).length : Int))) = decide (48 < l.length ∨ 48 < m.length) from decide_eq_decide.mpr (by omega)]) (hk   _    lE)
set_option maxHeartbeats 4000000 in
theorem C.laws_FnLanes {vy vm : Value} {l : List Int} {m : List Int}  {H : Hp} {K : Value → Hp → Prop} (hvy0 : Sl eU H vy l) (hvm0 : Sl eU H vm m) (hb_vy : bytP l) (hl_vy : l.length ≤ 9223372036854775807) (hb_vm : bytP m) (hl_vm : m.length ≤ 9223372036854775807)
    (hk : ∀ H', Le H H' → K (.bool true) H') : HT prg I.laws_FnLanes [vy, vm].toArray H K := by
 have lE := Le.refl H
 have hvy := hvy0
 have hvm := hvm0
 refine R.laws_FnLanes ?_
 unfold F.laws_FnLanes
 refine C.laws_r8Long hvy hvm (fun   H1    le2 => ?_)
 replace hvy := hvy.le le2
 replace hvm := hvm.le le2
 replace lE := lE.trans le2
 refine cnd_d (fun hg3 => ?_) (fun hg3 => ?_)
 ·skip
  skip
  exact hk   _    lE
 ·skip
  refine C.laws_r8At (k := 40) (n := 20) hvm hb_vm hl_vm (by omega) (fun x4 xp5 xq6 => ?_)
  replace xq6 := xq6 (by omega)
  refine ob_i (vInt_add (by omega) (by omega)) ?_
  obtain ⟨n, hn⟩ : ∃ x, x = 1 + x4 := ⟨_, rfl⟩
  rw [← hn]
  refine C.spec_R8Lane hvy (by first | omega | assumption) (by first | omega | assumption) (by first | omega | assumption) (by first | omega | assumption) (fun  la hla u9 H7 ou9 nn10  le8 => ?_)
  have nu9 : Nw H u9 := nn10.le lE
  replace hvy := hvy.le le8
  replace hvm := hvm.le le8
  replace lE := lE.trans le8
  have hLla : isLane la := ⟨⟨by omega, by omega⟩, fun y hy => by have := hla.2 y hy; omega⟩
  have hcla : 0 ≤ carsN la ∧ carsN la ≤ (la.length : Int) := cN_bnd _ _
  refine C.spec_R8Lane hvm (by first | omega | assumption) (by first | omega | assumption) (by first | omega | assumption) (by first | omega | assumption) (fun  lb hlb u13 H11 ou13 nn14  le12 => ?_)
  have au9Xu13 : Apart u9 u13 := ou9.apart nn14
  have nu13 : Nw H u13 := nn14.le lE
  replace ou9 := ou9.le le12
  replace hvy := hvy.le le12
  replace hvm := hvm.le le12
  replace lE := lE.trans le12
  have hLlb : isLane lb := ⟨⟨by omega, by omega⟩, fun y hy => by have := hlb.2 y hy; omega⟩
  have hclb : 0 ≤ carsN lb ∧ carsN lb ≤ (lb.length : Int) := cN_bnd _ _
  refine C.laws_r8At (k := 41) (n := 5) hvm hb_vm hl_vm (by omega) (fun x15 xp16 xq17 => ?_)
  replace xq17 := xq17 (by omega)
  refine ob_i (vInt_add (by omega) (by omega)) ?_
  obtain ⟨mo, hmo⟩ : ∃ x, x = 1 + x15 := ⟨_, rfl⟩
  rw [← hmo]
  refine C.laws_r8At (k := 42) (n := 5) hvm hb_vm hl_vm (by omega) (fun x18 xp19 xq20 => ?_)
  replace xq20 := xq20 (by omega)
  refine ob_i (a := (.float .f32 (FloatKind.nearest .f32 (x18)))) rfl ?_
  refine fA_i (o := (FloatKind.f32.format.div (FloatKind.nearest .f32 (x18)) 1082130432)) rfl (fun t => nan_bits32 _ _ t) (fun slow hslow => ?_)
  refine C.laws_r8At (k := 43) (n := 256) hvm hb_vm hl_vm (by omega) (fun x21 xp22 xq23 => ?_)
  replace xq23 := xq23 (by omega)
  refine ob_i (vInt_mul (by omega) (by omega)) ?_
  obtain ⟨sd, hsd⟩ : ∃ x, x = x21 * 65537 := ⟨_, rfl⟩
  rw [← hsd]
  refine C.lane_ok ou9.sl (by omega) (by exact ⟨by assumption, ⟨by omega, by omega⟩, by first | exact shr_zero | exact shr_quarter (by omega) (by omega) hslow, by omega⟩) (fun  u26 H24 ou26 nn27  le25 => ?_)
  have au9Xu26 : Apart u9 u26 := ou9.apart nn27
  have au13Xu26 : Apart u13 u26 := ou13.apart nn27
  have nu26 : Nw H u26 := nn27.le lE
  replace ou9 := ou9.le le25
  replace ou13 := ou13.le le25
  replace hvy := hvy.le le25
  replace hvm := hvm.le le25
  replace lE := lE.trans le25
  have ea1 := ln_len (l := la) (most := mo) (sh := slow) (x := sd)
  have eb1 := ln_seed (l := la) (most := mo) (sh := slow) (x := sd)
  have ec1 := ln_cars (l := la) (most := mo) (sh := slow) (x := sd) (by omega) (by omega)
  have ed1 : isLane (lnL la (mo) slow (sd)) := ln_lane (by assumption) (by omega) (by omega)
  have ef1 := @ln_at la (mo) slow (sd) (by omega) (by omega)
  have eg1 := @ln_stay la (mo) slow (sd) (by omega) (by omega)
  refine ob_i (vExt_30 _ _ _) ?_
  refine ob_i (vExt_31 _ _ _) ?_
  refine ob_i (vExt_32 _ _ _) ?_
  refine C.lane_ok ou9.sl (by omega) (by exact ⟨by assumption, ⟨by omega, by omega⟩, by first | exact shr_zero | exact shr_quarter (by omega) (by omega) hslow, by omega⟩) (fun  u30 H28 ou30 nn31  le29 => ?_)
  have au9Xu30 : Apart u9 u30 := ou9.apart nn31
  have au13Xu30 : Apart u13 u30 := ou13.apart nn31
  have au26Xu30 : Apart u26 u30 := ou26.apart nn31
  have nu30 : Nw H u30 := nn31.le lE
  replace ou9 := ou9.le le29
  replace ou13 := ou13.le le29
  replace ou26 := ou26.le le29
  replace hvy := hvy.le le29
  replace hvm := hvm.le le29
  replace lE := lE.trans le29
  have ea2 := ln_len (l := la) (most := mo) (sh := 0) (x := sd)
  have eb2 := ln_seed (l := la) (most := mo) (sh := 0) (x := sd)
  have ec2 := ln_cars (l := la) (most := mo) (sh := 0) (x := sd) (by omega) (by omega)
  have ed2 : isLane (lnL la (mo) 0 (sd)) := ln_lane (by assumption) (by omega) (by omega)
  have ef2 := @ln_at la (mo) 0 (sd) (by omega) (by omega)
  have eg2 := @ln_stay la (mo) 0 (sd) (by omega) (by omega)
  refine ob_i (vExt_30 _ _ _) ?_
  refine ob_i (vExt_31 _ _ _) ?_
  refine ob_i (vExt_32 _ _ _) ?_
  refine ob_i (a := .bool false) rfl ?_
  refine gop_rf ?_
  refine gop_rf ?_
  refine ob_i (a := .bool false) rfl ?_
  refine ob_i (vPick_f _ _) ?_
  refine gop_rf ?_
  refine gop_rf ?_
  refine C.impl_IsLane ou26.sl (by omega) ?_
  refine gop_rf ?_
  refine ob_nd (fun hc32 => ?_) (fun hc32 => ?_)
  ·skip
   refine ob_i (vPick_f _ _) ?_
   refine gop_rf ?_
   refine gop_rf ?_
   refine ob_i (ou26.len) ?_
   refine gop_rf ?_
   refine gop_rf ?_
   refine ob_i (vInt_neq _ _ _) ?_
   refine ob_i (vPick_f _ _) ?_
   by_cases hc33 : (((lnL la mo slow sd).length : Int)) ≠ n
   ·skip
    refine gop_e (decide_eq_true hc33) ?_
    refine gop_st ?_
    refine gop_e (decide_eq_true hc33) ?_
    refine gop_st ?_
    refine gop_e (decide_eq_true hc33) ?_
    refine gop_st ?_
    refine gop_e (decide_eq_true hc33) ?_
    refine gop_st ?_
    refine ob_i (vPick_et (decide_eq_true hc33) _ _) ?_
    refine gop_st ?_
    refine gop_st ?_
    refine gop_st ?_
    refine ob_i (vPick_t _ _) ?_
    refine cnd_t1 ?_
    exfalso
    first | contradiction | omega | (have g := hsp (by assumption); simp_all; done) | exact absurd (shr_quarter (by omega) (by omega) hslow) (by assumption)
   ·skip
    refine gop_e (decide_eq_false hc33) ?_
    refine gop_rf ?_
    refine gop_e (decide_eq_false hc33) ?_
    refine gop_rf ?_
    refine ob_i (ou30.len) ?_
    refine gop_e (decide_eq_false hc33) ?_
    refine gop_rf ?_
    refine gop_e (decide_eq_false hc33) ?_
    refine gop_rf ?_
    refine ob_i (vInt_neq _ _ _) ?_
    refine ob_i (vPick_ef (decide_eq_false hc33) _ _) ?_
    by_cases hc34 : (((lnL la mo 0 sd).length : Int)) ≠ n
    ·skip
     refine gop_e (decide_eq_true hc34) ?_
     refine gop_st ?_
     refine gop_e (decide_eq_true hc34) ?_
     refine gop_st ?_
     refine gop_e (decide_eq_true hc34) ?_
     refine gop_st ?_
     refine ob_i (vPick_et (decide_eq_true hc34) _ _) ?_
     refine cnd_t1 ?_
     exfalso
     first | contradiction | omega | (have g := hsp (by assumption); simp_all; done) | exact absurd (shr_quarter (by omega) (by omega) hslow) (by assumption)
    ·skip
     refine gop_e (decide_eq_false hc34) ?_
     refine gop_rf ?_
     refine gop_e (decide_eq_false hc34) ?_
     refine gop_rf ?_
     refine gop_e (decide_eq_false hc34) ?_
     refine gop_rf ?_
     refine ob_i (vInt_neq _ _ _) ?_
     refine ob_i (vPick_ef (decide_eq_false hc34) _ _) ?_
     refine cnd_d (fun hg35 => ?_) (fun hg35 => ?_)
     ·skip
      exfalso
      first | contradiction | omega | (have g := hsp (by assumption); simp_all; done) | exact absurd (shr_quarter (by omega) (by omega) hslow) (by assumption)
     ·skip
      refine C.laws_r8Cars ou9.sl (by omega) (fun   H36    le37 => ?_)
      replace ou9 := ou9.le le37
      replace ou13 := ou13.le le37
      replace ou26 := ou26.le le37
      replace ou30 := ou30.le le37
      replace hvy := hvy.le le37
      replace hvm := hvm.le le37
      replace lE := lE.trans le37
      refine jn_i (fun σ' H' => σ' 5 = (.int .i64 (n)) ∧ σ' 6 = u9 ∧ σ' 7 = u13 ∧ σ' 8 = (.int .i64 (mo)) ∧ σ' 9 = (.float .f32 slow) ∧ σ' 11 = u26 ∧ σ' 12 = (.int .i64 (lnX la mo slow sd)) ∧ σ' 14 = u30 ∧ σ' 17 = (.int .i64 (carsN la)) ∧ σ' 18 = (.int .i64 (sdS sd (carsN la).toNat)) ∧ Own eI H' u9 (la) ∧ Own eI H' u13 (lb) ∧ Own eI H' u26 (lnL la mo slow sd) ∧ Own eI H' u30 (lnL la mo 0 sd) ∧ Le H H') (fun σ38 H38 hP => ?_) (fun J38 hJ38 => ?_)
      ·skip
       obtain ⟨g5L38, g6L38, g7L38, g8L38, g9L38, g11L38, g12L38, g14L38, g17L38, g18L38, ou9, ou13, ou26, ou30, lE⟩ := hP
       have hvy := hvy0.le lE
       have hvm := hvm0.le lE
       try simp only [g5L38, g6L38, g7L38, g8L38, g9L38, g11L38, g12L38, g14L38, g17L38, g18L38]
       refine C.laws_r8Cars ou26.sl (by omega) (fun   H39    le40 => ?_)
       replace ou9 := ou9.le le40
       replace ou13 := ou13.le le40
       replace ou26 := ou26.le le40
       replace ou30 := ou30.le le40
       replace hvy := hvy.le le40
       replace hvm := hvm.le le40
       replace lE := lE.trans le40
       refine ob_i (vInt_neq _ _ _) ?_
       by_cases hc41 : (carsN (lnL la mo slow sd)) ≠ (carsN la)
       ·skip
        refine gop_e (decide_eq_true hc41) ?_
        refine gop_st ?_
        refine gop_e (decide_eq_true hc41) ?_
        refine gop_st ?_
        refine gop_e (decide_eq_true hc41) ?_
        refine gop_st ?_
        refine gop_e (decide_eq_true hc41) ?_
        refine gop_st ?_
        refine ob_i (vPick_et (decide_eq_true hc41) _ _) ?_
        refine gop_st ?_
        refine gop_st ?_
        refine gop_st ?_
        refine ob_i (vPick_t _ _) ?_
        refine cnd_t1 ?_
        exfalso
        first | contradiction | omega | (have g := hsp (by assumption); simp_all; done) | exact absurd (shr_quarter (by omega) (by omega) hslow) (by assumption)
       ·skip
        refine gop_e (decide_eq_false hc41) ?_
        refine gop_rf ?_
        refine gop_e (decide_eq_false hc41) ?_
        refine gop_rf ?_
        refine C.laws_r8Cars ou30.sl (by omega) (fun   H42    le43 => ?_)
        replace ou9 := ou9.le le43
        replace ou13 := ou13.le le43
        replace ou26 := ou26.le le43
        replace ou30 := ou30.le le43
        replace hvy := hvy.le le43
        replace hvm := hvm.le le43
        replace lE := lE.trans le43
        refine gop_e (decide_eq_false hc41) ?_
        refine gop_rf ?_
        refine gop_e (decide_eq_false hc41) ?_
        refine gop_rf ?_
        refine ob_i (vInt_neq _ _ _) ?_
        refine ob_i (vPick_ef (decide_eq_false hc41) _ _) ?_
        by_cases hc44 : (carsN (lnL la mo 0 sd)) ≠ (carsN la)
        ·skip
         refine gop_e (decide_eq_true hc44) ?_
         refine gop_st ?_
         refine gop_e (decide_eq_true hc44) ?_
         refine gop_st ?_
         refine gop_e (decide_eq_true hc44) ?_
         refine gop_st ?_
         refine ob_i (vPick_et (decide_eq_true hc44) _ _) ?_
         refine cnd_t1 ?_
         exfalso
         first | contradiction | omega | (have g := hsp (by assumption); simp_all; done) | exact absurd (shr_quarter (by omega) (by omega) hslow) (by assumption)
        ·skip
         refine gop_e (decide_eq_false hc44) ?_
         refine gop_rf ?_
         refine gop_e (decide_eq_false hc44) ?_
         refine gop_rf ?_
         refine gop_e (decide_eq_false hc44) ?_
         refine gop_rf ?_
         refine ob_i (vInt_neq _ _ _) ?_
         refine ob_i (vPick_ef (decide_eq_false hc44) _ _) ?_
         refine cnd_d (fun hg45 => ?_) (fun hg45 => ?_)
         ·skip
          exfalso
          first | contradiction | omega | (have g := hsp (by assumption); simp_all; done) | exact absurd (shr_quarter (by omega) (by omega) hslow) (by assumption)
         ·skip
          refine jn_i (fun σ' H' => σ' 5 = (.int .i64 (n)) ∧ σ' 6 = u9 ∧ σ' 7 = u13 ∧ σ' 8 = (.int .i64 (mo)) ∧ σ' 11 = u26 ∧ σ' 17 = (.int .i64 (carsN la)) ∧ Own eI H' u9 (la) ∧ Own eI H' u13 (lb) ∧ Own eI H' u26 (lnL la mo slow sd) ∧ Own eI H' u30 (lnL la mo 0 sd) ∧ Le H H') (fun σ46 H46 hP => ?_) (fun J46 hJ46 => ?_)
          ·skip
           obtain ⟨g5L46, g6L46, g7L46, g8L46, g11L46, g17L46, ou9, ou13, ou26, ou30, lE⟩ := hP
           have hvy := hvy0.le lE
           have hvm := hvm0.le lE
           try simp only [g5L46, g6L46, g7L46, g8L46, g11L46, g17L46]
           refine C.speed_ok (l := la) (mo := mo) (sh := slow) (x := sd) hLla (by omega) (by omega) (by omega) ou26.sl (fun zs hsp => ?_)
           refine ob_i (vExt_20 _ _) ?_
           refine ob_i (vExt_21 _ _) ?_
           refine ob_i (vInt_gtr _ _ _) ?_
           refine ob_i (vBool_neq_same _) ?_
           refine gop_rf ?_
           refine gop_rf ?_
           by_cases hc47 : 0 < (carsN la)
           ·skip
            refine gop_e (decide_eq_true hc47) ?_
            refine gop_rt ?_
            refine gop_e (decide_eq_true hc47) ?_
            refine gop_rt ?_
            refine ob_i (vF_lss _ _) ?_
            refine gop_e (decide_eq_true hc47) ?_
            refine gop_rt ?_
            by_cases hc48 : (fLt zs 0) = true
            ·skip
             refine gop_e (hc48) ?_
             refine gop_st ?_
             refine gop_e (hc48) ?_
             refine gop_st ?_
             refine gop_e (hc48) ?_
             refine gop_st ?_
             refine gop_e (hc48) ?_
             refine gop_st ?_
             refine gop_e (decide_eq_true hc47) ?_
             refine gop_rt ?_
             refine ob_i (vPick_et (hc48) _ _) ?_
             refine gop_rf ?_
             refine ob_i (vPick_et (decide_eq_true hc47) _ _) ?_
             refine ob_i (vPick_f _ _) ?_
             refine cnd_t1 ?_
             exfalso
             first | contradiction | omega | (have g := hsp (by assumption); simp_all; done) | exact absurd (shr_quarter (by omega) (by omega) hslow) (by assumption)
            ·skip
             refine gop_e (eq_false_of_ne_true hc48) ?_
             refine gop_rf ?_
             refine gop_e (eq_false_of_ne_true hc48) ?_
             refine gop_rf ?_
             refine gop_e (eq_false_of_ne_true hc48) ?_
             refine gop_rf ?_
             refine ob_i (a := (.float .f32 (FloatKind.nearest .f32 (mo)))) rfl ?_
             refine gop_e (eq_false_of_ne_true hc48) ?_
             refine gop_rf ?_
             refine ob_i (vF_gtr _ _) ?_
             refine gop_e (decide_eq_true hc47) ?_
             refine gop_rt ?_
             refine ob_i (vPick_ef (eq_false_of_ne_true hc48) _ _) ?_
             refine gop_rf ?_
             refine ob_i (vPick_et (decide_eq_true hc47) _ _) ?_
             refine ob_i (vPick_f _ _) ?_
             refine cnd_i (fun hg49 => ?_) (fun hg49 => ?_)
             ·skip
              exfalso
              first | contradiction | omega | (have g := hsp (by assumption); simp_all; done) | exact absurd (shr_quarter (by omega) (by omega) hslow) (by assumption)
             ·skip
              refine C.sw_ok ou9.sl ou13.sl (by exact ⟨by assumption, by assumption, by omega⟩) (fun  u52 u53 H50 ou52 ou53 nn54 nn55 au52Xu53 le51 => ?_)
              have au9Xu52 : Apart u9 u52 := ou9.apart nn54
              have au13Xu52 : Apart u13 u52 := ou13.apart nn54
              have au26Xu52 : Apart u26 u52 := ou26.apart nn54
              have au30Xu52 : Apart u30 u52 := ou30.apart nn54
              have nu52 : Nw H u52 := nn54.le lE
              have au9Xu53 : Apart u9 u53 := ou9.apart nn55
              have au13Xu53 : Apart u13 u53 := ou13.apart nn55
              have au26Xu53 : Apart u26 u53 := ou26.apart nn55
              have au30Xu53 : Apart u30 u53 := ou30.apart nn55
              have nu53 : Nw H u53 := nn55.le lE
              replace ou9 := ou9.le le51
              replace ou13 := ou13.le le51
              replace ou26 := ou26.le le51
              replace ou30 := ou30.le le51
              replace hvy := hvy.le le51
              replace hvm := hvm.le le51
              replace lE := lE.trans le51
              have es1 := sw_cars (a := la) (b := lb) (by omega)
              have es2 := swL_length (a := la) (b := lb) (Nat.le_refl _)
              have es3 := swL_length (a := lb) (b := la) (Nat.le_refl _)
              refine ob_i (vExt_30 _ _ _) ?_
              refine ob_i (vExt_31 _ _ _) ?_
              refine ob_i (vExt_32 _ _ _) ?_
              refine ob_i (a := .bool false) rfl ?_
              refine gop_rf ?_
              refine gop_rf ?_
              refine ob_i (ou52.len) ?_
              refine gop_rf ?_
              refine gop_rf ?_
              refine ob_i (vInt_neq _ _ _) ?_
              refine ob_i (vPick_f _ _) ?_
              by_cases hc56 : (((swL la lb la.length).length : Int)) ≠ n
              ·skip
               refine gop_e (decide_eq_true hc56) ?_
               refine gop_st ?_
               refine gop_e (decide_eq_true hc56) ?_
               refine gop_st ?_
               refine gop_e (decide_eq_true hc56) ?_
               refine gop_st ?_
               refine gop_e (decide_eq_true hc56) ?_
               refine gop_st ?_
               refine ob_i (vPick_et (decide_eq_true hc56) _ _) ?_
               refine gop_st ?_
               refine gop_st ?_
               refine gop_st ?_
               refine gop_st ?_
               refine gop_st ?_
               refine gop_st ?_
               refine gop_st ?_
               refine gop_st ?_
               refine gop_st ?_
               refine gop_st ?_
               refine ob_i (vPick_t _ _) ?_
               refine cnd_t1 ?_
               exfalso
               first | contradiction | omega | (have g := hsp (by assumption); simp_all; done) | exact absurd (shr_quarter (by omega) (by omega) hslow) (by assumption)
              ·skip
               refine gop_e (decide_eq_false hc56) ?_
               refine gop_rf ?_
               refine gop_e (decide_eq_false hc56) ?_
               refine gop_rf ?_
               refine ob_i (ou53.len) ?_
               refine gop_e (decide_eq_false hc56) ?_
               refine gop_rf ?_
               refine gop_e (decide_eq_false hc56) ?_
               refine gop_rf ?_
               refine ob_i (vInt_neq _ _ _) ?_
               refine ob_i (vPick_ef (decide_eq_false hc56) _ _) ?_
               by_cases hc57 : (((swL lb la lb.length).length : Int)) ≠ n
               ·skip
                refine gop_e (decide_eq_true hc57) ?_
                refine gop_st ?_
                refine gop_e (decide_eq_true hc57) ?_
                refine gop_st ?_
                refine gop_e (decide_eq_true hc57) ?_
                refine gop_st ?_
                refine gop_e (decide_eq_true hc57) ?_
                refine gop_st ?_
                refine gop_e (decide_eq_true hc57) ?_
                refine gop_st ?_
                refine gop_e (decide_eq_true hc57) ?_
                refine gop_st ?_
                refine gop_e (decide_eq_true hc57) ?_
                refine gop_st ?_
                refine gop_e (decide_eq_true hc57) ?_
                refine gop_st ?_
                refine gop_e (decide_eq_true hc57) ?_
                refine gop_st ?_
                refine gop_e (decide_eq_true hc57) ?_
                refine gop_st ?_
                refine ob_i (vPick_et (decide_eq_true hc57) _ _) ?_
                refine cnd_t1 ?_
                exfalso
                first | contradiction | omega | (have g := hsp (by assumption); simp_all; done) | exact absurd (shr_quarter (by omega) (by omega) hslow) (by assumption)
               ·skip
                refine gop_e (decide_eq_false hc57) ?_
                refine gop_rf ?_
                refine gop_e (decide_eq_false hc57) ?_
                refine gop_rf ?_
                refine C.laws_r8Cars ou52.sl (by omega) (fun   H58    le59 => ?_)
                replace ou9 := ou9.le le59
                replace ou13 := ou13.le le59
                replace ou26 := ou26.le le59
                replace ou30 := ou30.le le59
                replace ou52 := ou52.le le59
                replace ou53 := ou53.le le59
                replace hvy := hvy.le le59
                replace hvm := hvm.le le59
                replace lE := lE.trans le59
                refine gop_e (decide_eq_false hc57) ?_
                refine gop_rf ?_
                refine gop_e (decide_eq_false hc57) ?_
                refine gop_rf ?_
                refine C.laws_r8Cars ou53.sl (by omega) (fun   H60    le61 => ?_)
                replace ou9 := ou9.le le61
                replace ou13 := ou13.le le61
                replace ou26 := ou26.le le61
                replace ou30 := ou30.le le61
                replace ou52 := ou52.le le61
                replace ou53 := ou53.le le61
                replace hvy := hvy.le le61
                replace hvm := hvm.le le61
                replace lE := lE.trans le61
                refine gop_e (decide_eq_false hc57) ?_
                refine gop_rf ?_
                refine ob_i (vInt_add (by omega) (by omega)) ?_
                refine gop_e (decide_eq_false hc57) ?_
                refine gop_rf ?_
                refine gop_e (decide_eq_false hc57) ?_
                refine gop_rf ?_
                refine gop_e (decide_eq_false hc57) ?_
                refine gop_rf ?_
                refine C.laws_r8Cars ou13.sl (by omega) (fun   H62    le63 => ?_)
                replace ou9 := ou9.le le63
                replace ou13 := ou13.le le63
                replace ou26 := ou26.le le63
                replace ou30 := ou30.le le63
                replace ou52 := ou52.le le63
                replace ou53 := ou53.le le63
                replace hvy := hvy.le le63
                replace hvm := hvm.le le63
                replace lE := lE.trans le63
                refine gop_e (decide_eq_false hc57) ?_
                refine gop_rf ?_
                refine ob_i (vInt_add (by omega) (by omega)) ?_
                refine gop_e (decide_eq_false hc57) ?_
                refine gop_rf ?_
                refine ob_i (vInt_neq _ _ _) ?_
                refine ob_i (vPick_ef (decide_eq_false hc57) _ _) ?_
                refine cnd_d (fun hg64 => ?_) (fun hg64 => ?_)
                ·skip
                 exfalso
                 first | contradiction | omega | (have g := hsp (by assumption); simp_all; done) | exact absurd (shr_quarter (by omega) (by omega) hslow) (by assumption)
                ·skip
                 refine jn_i (fun σ' H' => Own eI H' u9 (la) ∧ Own eI H' u13 (lb) ∧ Own eI H' u26 (lnL la mo slow sd) ∧ Own eI H' u30 (lnL la mo 0 sd) ∧ Own eI H' u52 (swL la lb la.length) ∧ Own eI H' u53 (swL lb la lb.length) ∧ Le H H') (fun σ65 H65 hP => ?_) (fun J65 hJ65 => ?_)
                 ·skip
                  obtain ⟨ou9, ou13, ou26, ou30, ou52, ou53, lE⟩ := hP
                  have hvy := hvy0.le lE
                  have hvm := hvm0.le lE
                  skip
                  exact hk   _    lE
                 refine ⟨fun n' σ' H' => ∃ i : Nat, n' = n.toNat - i ∧ i ≤ n.toNat ∧ σ' 5 = (.int .i64 (n)) ∧ σ' 6 = u9 ∧ σ' 7 = u13 ∧ σ' 23 = u52 ∧ σ' 24 = u53 ∧ σ' 26 = (.int .i64 ((i : Int))) ∧ Own eI H' u9 (la) ∧ Own eI H' u13 (lb) ∧ Own eI H' u26 (lnL la mo slow sd) ∧ Own eI H' u30 (lnL la mo 0 sd) ∧ Own eI H' u52 (swL la lb la.length) ∧ Own eI H' u53 (swL lb la lb.length) ∧ Le H H',
                   ⟨_, 0, rfl, by omega, g5L46, g6L46, g7L46, rfl, rfl, (congrArg (Value.int .i64) (by first | omega | rfl | (simp; done))), ou9, ou13, ou26, ou30, ou52, ou53, lE⟩, ?_⟩
                 rintro n66 σ66 H66 ⟨i, rfl, hiN, g5L66, g6L66, g7L66, g23L66, g24L66, g26L66, ou9, ou13, ou26, ou30, ou52, ou53, lE⟩
                 have hvy := hvy0.le lE
                 have hvm := hvm0.le lE
                 try simp only [g5L66, g6L66, g7L66, g23L66, g24L66, g26L66]
                 refine ob_i (vInt_lss _ _ _) ?_
                 refine cnd_d (fun hg67 => ?_) (fun hg67 => ?_)
                 ·skip
                  have ti := hg67
                  have f4 := sw_at (a := la) (b := lb) (n := n) (i := i) (by omega) (by omega) (by omega)
                  refine ob_i (ou52.sl.ix (by omega) (by omega)) ?_
                  refine ob_i (ou52.sl.ld 0 (by omega) (by omega)) ?_
                  refine ob_i (ou9.sl.ix (by omega) (by omega)) ?_
                  refine ob_i (ou9.sl.ld 0 (by omega) (by omega)) ?_
                  refine ob_i (vInt_eql _ _ _) ?_
                  by_cases hc68 : (at_ 0 (swL la lb la.length) ((i : Int))) = (at_ 0 (la) ((i : Int)))
                  ·skip
                   refine gop_e (decide_eq_true hc68) ?_
                   refine gop_rt ?_
                   refine gop_e (decide_eq_true hc68) ?_
                   refine gop_rt ?_
                   refine gop_e (decide_eq_true hc68) ?_
                   refine gop_rt ?_
                   refine ob_i (ou53.sl.ix (by omega) (by omega)) ?_
                   refine gop_e (decide_eq_true hc68) ?_
                   refine gop_rt ?_
                   refine ob_i (ou53.sl.ld 0 (by omega) (by omega)) ?_
                   refine gop_e (decide_eq_true hc68) ?_
                   refine gop_rt ?_
                   refine gop_e (decide_eq_true hc68) ?_
                   refine gop_rt ?_
                   refine gop_e (decide_eq_true hc68) ?_
                   refine gop_rt ?_
                   refine ob_i (ou13.sl.ix (by omega) (by omega)) ?_
                   refine gop_e (decide_eq_true hc68) ?_
                   refine gop_rt ?_
                   refine ob_i (ou13.sl.ld 0 (by omega) (by omega)) ?_
                   refine gop_e (decide_eq_true hc68) ?_
                   refine gop_rt ?_
                   refine ob_i (vInt_eql _ _ _) ?_
                   refine ob_i (vPick_et (decide_eq_true hc68) _ _) ?_
                   refine ob_i (ou52.sl.ix (by omega) (by omega)) ?_
                   refine ob_i (ou52.sl.ld 0 (by omega) (by omega)) ?_
                   refine ob_i (ou13.sl.ix (by omega) (by omega)) ?_
                   refine ob_i (ou13.sl.ld 0 (by omega) (by omega)) ?_
                   refine ob_i (vInt_eql _ _ _) ?_
                   by_cases hc69 : (at_ 0 (swL la lb la.length) ((i : Int))) = (at_ 0 (lb) ((i : Int)))
                   ·skip
                    refine gop_e (decide_eq_true hc69) ?_
                    refine gop_rt ?_
                    refine gop_e (decide_eq_true hc69) ?_
                    refine gop_rt ?_
                    refine gop_e (decide_eq_true hc69) ?_
                    refine gop_rt ?_
                    refine ob_i (ou53.sl.ix (by omega) (by omega)) ?_
                    refine gop_e (decide_eq_true hc69) ?_
                    refine gop_rt ?_
                    refine ob_i (ou53.sl.ld 0 (by omega) (by omega)) ?_
                    refine gop_e (decide_eq_true hc69) ?_
                    refine gop_rt ?_
                    refine gop_e (decide_eq_true hc69) ?_
                    refine gop_rt ?_
                    refine gop_e (decide_eq_true hc69) ?_
                    refine gop_rt ?_
                    refine ob_i (ou9.sl.ix (by omega) (by omega)) ?_
                    refine gop_e (decide_eq_true hc69) ?_
                    refine gop_rt ?_
                    refine ob_i (ou9.sl.ld 0 (by omega) (by omega)) ?_
                    refine gop_e (decide_eq_true hc69) ?_
                    refine gop_rt ?_
                    refine ob_i (vInt_eql _ _ _) ?_
                    refine ob_i (vPick_et (decide_eq_true hc69) _ _) ?_
                    refine ob_nd (fun hc70 => ?_) (fun hc70 => ?_)
                    ·skip
                     refine gop_sf ?_
                     refine gop_sf ?_
                     refine ob_i (vPick_f _ _) ?_
                     refine cnd_f1 ?_
                     by_cases hc71 : (at_ 0 (swL lb la lb.length) ((i : Int))) = (at_ 0 (la) ((i : Int)))
                     ·skip
                      refine gop_e (decide_eq_true hc71) ?_
                      refine gop_rt ?_
                      refine gop_e (decide_eq_true hc71) ?_
                      refine gop_rt ?_
                      refine ob_nd (fun hc72 => ?_) (fun hc72 => ?_)
                      ·skip
                       refine ob_i (vPick_et (decide_eq_true hc71) _ _) ?_
                       refine gop_sf ?_
                       refine gop_sf ?_
                       refine gop_sf ?_
                       refine gop_sf ?_
                       refine gop_sf ?_
                       refine ob_i (vPick_f _ _) ?_
                       refine gop_sf ?_
                       refine gop_sf ?_
                       refine gop_sf ?_
                       refine gop_sf ?_
                       refine gop_sf ?_
                       refine gop_sf ?_
                       refine gop_u ?_
                       refine gop_u ?_
                       refine gop_u ?_
                       refine gop_u ?_
                       refine gop_u ?_
                       refine gop_u ?_
                       refine gop_u ?_
                       refine gop_u ?_
                       refine gop_sf ?_
                       refine gop_sf ?_
                       refine gop_u ?_
                       refine gop_u ?_
                       refine gop_u ?_
                       refine gop_u ?_
                       refine gop_u ?_
                       refine gop_u ?_
                       refine gop_u ?_
                       refine gop_u ?_
                       refine gop_sf ?_
                       refine gop_sf ?_
                       refine gop_u ?_
                       refine gop_u ?_
                       refine gop_u ?_
                       refine gop_u ?_
                       refine gop_u ?_
                       refine gop_u ?_
                       refine gop_u ?_
                       refine gop_u ?_
                       refine gop_u ?_
                       refine gop_u ?_
                       refine gop_sf ?_
                       refine ob_i (vPick_f _ _) ?_
                       refine cnd_f1 ?_
                       refine ob_i (vInt_add (by omega) (by omega)) ?_
                       exact nxt (n.toNat - (i + 1)) (by omega) ⟨i + 1, rfl, by omega, g5L66, g6L66, g7L66, g23L66, g24L66, (congrArg (Value.int .i64) (by first | omega | rfl | (simp; done))), ou9, ou13, ou26, ou30, ou52, ou53, lE⟩
                      ·skip
                       refine ob_i (vPick_et (decide_eq_true hc71) _ _) ?_
                       refine gop_rt ?_
                       refine gop_rt ?_
                       refine gop_rt ?_
                       refine ob_i (ou9.sl.ix (by omega) (by omega)) ?_
                       refine gop_rt ?_
                       refine ob_i (ou9.sl.ld 0 (by omega) (by omega)) ?_
                       refine gop_rt ?_
                       refine ob_i (vInt_geq _ _ _) ?_
                       refine ob_i (vPick_t _ _) ?_
                       by_cases hc73 : 0 ≤ (at_ 0 (la) ((i : Int)))
                       ·skip
                        refine gop_e (decide_eq_true hc73) ?_
                        refine gop_rt ?_
                        refine gop_e (decide_eq_true hc73) ?_
                        refine gop_rt ?_
                        refine gop_e (decide_eq_true hc73) ?_
                        refine gop_rt ?_
                        refine ob_i (ou13.sl.ix (by omega) (by omega)) ?_
                        refine gop_e (decide_eq_true hc73) ?_
                        refine gop_rt ?_
                        refine ob_i (ou13.sl.ld 0 (by omega) (by omega)) ?_
                        refine gop_e (decide_eq_true hc73) ?_
                        refine gop_rt ?_
                        refine ob_i (vInt_geq _ _ _) ?_
                        refine gop_e (decide_eq_true hc73) ?_
                        refine gop_rt ?_
                        by_cases hc74 : 0 ≤ (at_ 0 (lb) ((i : Int)))
                        ·skip
                         refine gop_e (decide_eq_true hc74) ?_
                         refine gop_st ?_
                         refine gop_e (decide_eq_true hc74) ?_
                         refine gop_st ?_
                         refine gop_e (decide_eq_true hc74) ?_
                         refine gop_st ?_
                         refine gop_e (decide_eq_true hc74) ?_
                         refine gop_st ?_
                         refine gop_e (decide_eq_true hc74) ?_
                         refine gop_st ?_
                         refine gop_e (decide_eq_true hc74) ?_
                         refine gop_st ?_
                         refine gop_e (decide_eq_true hc74) ?_
                         refine gop_st ?_
                         refine gop_e (decide_eq_true hc74) ?_
                         refine gop_st ?_
                         refine gop_e (decide_eq_true hc73) ?_
                         refine gop_rt ?_
                         refine ob_i (vPick_et (decide_eq_true hc74) _ _) ?_
                         refine gop_e (decide_eq_true hc73) ?_
                         refine gop_rt ?_
                         refine gop_st ?_
                         refine gop_st ?_
                         refine gop_st ?_
                         refine gop_st ?_
                         refine gop_st ?_
                         refine gop_st ?_
                         refine gop_st ?_
                         refine gop_st ?_
                         refine gop_e (decide_eq_true hc73) ?_
                         refine gop_rt ?_
                         refine ob_i (vPick_t _ _) ?_
                         refine gop_e (decide_eq_true hc73) ?_
                         refine gop_rt ?_
                         refine gop_st ?_
                         refine gop_st ?_
                         refine gop_st ?_
                         refine gop_st ?_
                         refine gop_st ?_
                         refine gop_st ?_
                         refine gop_st ?_
                         refine gop_st ?_
                         refine gop_st ?_
                         refine gop_st ?_
                         refine gop_e (decide_eq_true hc73) ?_
                         refine gop_rt ?_
                         refine ob_i (vPick_t _ _) ?_
                         refine ob_i (vPick_et (decide_eq_true hc73) _ _) ?_
                         refine cnd_t1 ?_
                         refine retK (K := K) (v' := (.bool false)) rfl ?_
                         exfalso
                         first | contradiction | omega | (have g := hsp (by assumption); simp_all; done) | exact absurd (shr_quarter (by omega) (by omega) hslow) (by assumption)
                        ·skip
                         refine gop_e (decide_eq_false hc74) ?_
                         refine gop_rf ?_
                         refine gop_e (decide_eq_false hc74) ?_
                         refine gop_rf ?_
                         refine gop_e (decide_eq_false hc74) ?_
                         refine gop_rf ?_
                         refine ob_i (vInt_add (by omega) (by omega)) ?_
                         refine gop_e (decide_eq_false hc74) ?_
                         refine gop_rf ?_
                         refine gop_e (decide_eq_false hc74) ?_
                         refine gop_rf ?_
                         have rm75 := And.intro (Int.emod_nonneg ((i : Int) + 1) (b := n) (by omega)) (Int.emod_lt_of_pos ((i : Int) + 1) (b := n) (by omega))
                         refine ob_i (vInt_remN (by omega) (by omega)) ?_
                         refine gop_e (decide_eq_false hc74) ?_
                         refine gop_rf ?_
                         refine ob_i (ou9.sl.ix (by omega) (by omega)) ?_
                         refine gop_e (decide_eq_false hc74) ?_
                         refine gop_rf ?_
                         refine ob_i (ou9.sl.ld 0 (by omega) (by omega)) ?_
                         refine gop_e (decide_eq_false hc74) ?_
                         refine gop_rf ?_
                         refine ob_i (vInt_lss _ _ _) ?_
                         refine gop_e (decide_eq_true hc73) ?_
                         refine gop_rt ?_
                         refine ob_i (vPick_ef (decide_eq_false hc74) _ _) ?_
                         refine gop_e (decide_eq_true hc73) ?_
                         refine gop_rt ?_
                         by_cases hc76 : (at_ 0 (la) (((i : Int) + 1) % n)) < 0
                         ·skip
                          refine gop_e (decide_eq_true hc76) ?_
                          refine gop_st ?_
                          refine gop_e (decide_eq_true hc76) ?_
                          refine gop_st ?_
                          refine gop_e (decide_eq_true hc76) ?_
                          refine gop_st ?_
                          refine gop_e (decide_eq_true hc76) ?_
                          refine gop_st ?_
                          refine gop_e (decide_eq_true hc76) ?_
                          refine gop_st ?_
                          refine gop_e (decide_eq_true hc76) ?_
                          refine gop_st ?_
                          refine gop_e (decide_eq_true hc76) ?_
                          refine gop_st ?_
                          refine gop_e (decide_eq_true hc76) ?_
                          refine gop_st ?_
                          refine gop_e (decide_eq_true hc73) ?_
                          refine gop_rt ?_
                          refine ob_i (vPick_et (decide_eq_true hc76) _ _) ?_
                          refine gop_e (decide_eq_true hc73) ?_
                          refine gop_rt ?_
                          refine gop_st ?_
                          refine gop_st ?_
                          refine gop_st ?_
                          refine gop_st ?_
                          refine gop_st ?_
                          refine gop_st ?_
                          refine gop_st ?_
                          refine gop_st ?_
                          refine gop_st ?_
                          refine gop_st ?_
                          refine gop_e (decide_eq_true hc73) ?_
                          refine gop_rt ?_
                          refine ob_i (vPick_t _ _) ?_
                          refine ob_i (vPick_et (decide_eq_true hc73) _ _) ?_
                          refine cnd_t1 ?_
                          refine retK (K := K) (v' := (.bool false)) rfl ?_
                          exfalso
                          first | contradiction | omega | (have g := hsp (by assumption); simp_all; done) | exact absurd (shr_quarter (by omega) (by omega) hslow) (by assumption)
                         ·skip
                          refine gop_e (decide_eq_false hc76) ?_
                          refine gop_rf ?_
                          refine gop_e (decide_eq_false hc76) ?_
                          refine gop_rf ?_
                          refine gop_e (decide_eq_false hc76) ?_
                          refine gop_rf ?_
                          refine ob_i (vInt_add (by omega) (by omega)) ?_
                          refine gop_e (decide_eq_false hc76) ?_
                          refine gop_rf ?_
                          refine gop_e (decide_eq_false hc76) ?_
                          refine gop_rf ?_
                          have rm77 := And.intro (Int.emod_nonneg ((i : Int) + 1) (b := n) (by omega)) (Int.emod_lt_of_pos ((i : Int) + 1) (b := n) (by omega))
                          refine ob_i (vInt_remN (by omega) (by omega)) ?_
                          refine gop_e (decide_eq_false hc76) ?_
                          refine gop_rf ?_
                          refine ob_i (ou13.sl.ix (by omega) (by omega)) ?_
                          refine gop_e (decide_eq_false hc76) ?_
                          refine gop_rf ?_
                          refine ob_i (ou13.sl.ld 0 (by omega) (by omega)) ?_
                          refine gop_e (decide_eq_false hc76) ?_
                          refine gop_rf ?_
                          refine ob_i (vInt_geq _ _ _) ?_
                          refine gop_e (decide_eq_true hc73) ?_
                          refine gop_rt ?_
                          refine ob_i (vPick_ef (decide_eq_false hc76) _ _) ?_
                          refine gop_e (decide_eq_true hc73) ?_
                          refine gop_rt ?_
                          by_cases hc78 : 0 ≤ (at_ 0 (lb) (((i : Int) + 1) % n))
                          ·skip
                           refine gop_e (decide_eq_true hc78) ?_
                           refine gop_st ?_
                           refine gop_e (decide_eq_true hc78) ?_
                           refine gop_st ?_
                           refine gop_e (decide_eq_true hc78) ?_
                           refine gop_st ?_
                           refine gop_e (decide_eq_true hc78) ?_
                           refine gop_st ?_
                           refine gop_e (decide_eq_true hc78) ?_
                           refine gop_st ?_
                           refine gop_e (decide_eq_true hc78) ?_
                           refine gop_st ?_
                           refine gop_e (decide_eq_true hc78) ?_
                           refine gop_st ?_
                           refine gop_e (decide_eq_true hc78) ?_
                           refine gop_st ?_
                           refine gop_e (decide_eq_true hc78) ?_
                           refine gop_st ?_
                           refine gop_e (decide_eq_true hc78) ?_
                           refine gop_st ?_
                           refine gop_e (decide_eq_true hc73) ?_
                           refine gop_rt ?_
                           refine ob_i (vPick_et (decide_eq_true hc78) _ _) ?_
                           refine ob_i (vPick_et (decide_eq_true hc73) _ _) ?_
                           refine cnd_t1 ?_
                           refine retK (K := K) (v' := (.bool false)) rfl ?_
                           exfalso
                           first | contradiction | omega | (have g := hsp (by assumption); simp_all; done) | exact absurd (shr_quarter (by omega) (by omega) hslow) (by assumption)
                          ·skip
                           refine gop_e (decide_eq_false hc78) ?_
                           refine gop_rf ?_
                           refine gop_e (decide_eq_false hc78) ?_
                           refine gop_rf ?_
                           refine gop_e (decide_eq_false hc78) ?_
                           refine gop_rf ?_
                           refine gop_e (decide_eq_false hc78) ?_
                           refine gop_rf ?_
                           refine ob_i (vInt_add (by omega) (by omega)) ?_
                           refine gop_e (decide_eq_false hc78) ?_
                           refine gop_rf ?_
                           refine ob_i (vInt_sub (by omega) (by omega)) ?_
                           refine gop_e (decide_eq_false hc78) ?_
                           refine gop_rf ?_
                           refine gop_e (decide_eq_false hc78) ?_
                           refine gop_rf ?_
                           have rm79 := And.intro (Int.emod_nonneg (((i : Int) + n) - 1) (b := n) (by omega)) (Int.emod_lt_of_pos (((i : Int) + n) - 1) (b := n) (by omega))
                           refine ob_i (vInt_remN (by omega) (by omega)) ?_
                           refine gop_e (decide_eq_false hc78) ?_
                           refine gop_rf ?_
                           refine ob_i (ou13.sl.ix (by omega) (by omega)) ?_
                           refine gop_e (decide_eq_false hc78) ?_
                           refine gop_rf ?_
                           refine ob_i (ou13.sl.ld 0 (by omega) (by omega)) ?_
                           refine gop_e (decide_eq_false hc78) ?_
                           refine gop_rf ?_
                           refine ob_i (vInt_geq _ _ _) ?_
                           refine gop_e (decide_eq_true hc73) ?_
                           refine gop_rt ?_
                           refine ob_i (vPick_ef (decide_eq_false hc78) _ _) ?_
                           refine ob_i (vPick_et (decide_eq_true hc73) _ _) ?_
                           refine cnd_d (fun hg80 => ?_) (fun hg80 => ?_)
                           ·skip
                            refine retK (K := K) (v' := (.bool false)) rfl ?_
                            exfalso
                            first | contradiction | omega | (have g := hsp (by assumption); simp_all; done) | exact absurd (shr_quarter (by omega) (by omega) hslow) (by assumption)
                           ·skip
                            refine ob_i (vInt_add (by omega) (by omega)) ?_
                            exact nxt (n.toNat - (i + 1)) (by omega) ⟨i + 1, rfl, by omega, g5L66, g6L66, g7L66, g23L66, g24L66, (congrArg (Value.int .i64) (by first | omega | rfl | (simp; done))), ou9, ou13, ou26, ou30, ou52, ou53, lE⟩
                       ·skip
                        refine gop_e (decide_eq_false hc73) ?_
                        refine gop_sf ?_
                        refine gop_e (decide_eq_false hc73) ?_
                        refine gop_sf ?_
                        refine gop_e (decide_eq_false hc73) ?_
                        refine gop_sf ?_
                        refine gop_e (decide_eq_false hc73) ?_
                        refine gop_sf ?_
                        refine gop_e (decide_eq_false hc73) ?_
                        refine gop_sf ?_
                        refine gop_e (decide_eq_false hc73) ?_
                        refine gop_sf ?_
                        refine gop_u ?_
                        refine gop_u ?_
                        refine gop_u ?_
                        refine gop_u ?_
                        refine gop_u ?_
                        refine gop_u ?_
                        refine gop_u ?_
                        refine gop_u ?_
                        refine gop_e (decide_eq_false hc73) ?_
                        refine gop_sf ?_
                        refine gop_e (decide_eq_false hc73) ?_
                        refine gop_sf ?_
                        refine gop_u ?_
                        refine gop_u ?_
                        refine gop_u ?_
                        refine gop_u ?_
                        refine gop_u ?_
                        refine gop_u ?_
                        refine gop_u ?_
                        refine gop_u ?_
                        refine gop_e (decide_eq_false hc73) ?_
                        refine gop_sf ?_
                        refine gop_e (decide_eq_false hc73) ?_
                        refine gop_sf ?_
                        refine gop_u ?_
                        refine gop_u ?_
                        refine gop_u ?_
                        refine gop_u ?_
                        refine gop_u ?_
                        refine gop_u ?_
                        refine gop_u ?_
                        refine gop_u ?_
                        refine gop_u ?_
                        refine gop_u ?_
                        refine gop_e (decide_eq_false hc73) ?_
                        refine gop_sf ?_
                        refine ob_i (vPick_ef (decide_eq_false hc73) _ _) ?_
                        refine cnd_f1 ?_
                        refine ob_i (vInt_add (by omega) (by omega)) ?_
                        exact nxt (n.toNat - (i + 1)) (by omega) ⟨i + 1, rfl, by omega, g5L66, g6L66, g7L66, g23L66, g24L66, (congrArg (Value.int .i64) (by first | omega | rfl | (simp; done))), ou9, ou13, ou26, ou30, ou52, ou53, lE⟩
                     ·skip
                      refine gop_e (decide_eq_false hc71) ?_
                      refine gop_sf ?_
                      refine gop_e (decide_eq_false hc71) ?_
                      refine gop_sf ?_
                      refine ob_i (vPick_ef (decide_eq_false hc71) _ _) ?_
                      refine gop_sf ?_
                      refine gop_sf ?_
                      refine gop_sf ?_
                      refine gop_sf ?_
                      refine gop_sf ?_
                      refine ob_i (vPick_f _ _) ?_
                      refine gop_sf ?_
                      refine gop_sf ?_
                      refine gop_sf ?_
                      refine gop_sf ?_
                      refine gop_sf ?_
                      refine gop_sf ?_
                      refine gop_u ?_
                      refine gop_u ?_
                      refine gop_u ?_
                      refine gop_u ?_
                      refine gop_u ?_
                      refine gop_u ?_
                      refine gop_u ?_
                      refine gop_u ?_
                      refine gop_sf ?_
                      refine gop_sf ?_
                      refine gop_u ?_
                      refine gop_u ?_
                      refine gop_u ?_
                      refine gop_u ?_
                      refine gop_u ?_
                      refine gop_u ?_
                      refine gop_u ?_
                      refine gop_u ?_
                      refine gop_sf ?_
                      refine gop_sf ?_
                      refine gop_u ?_
                      refine gop_u ?_
                      refine gop_u ?_
                      refine gop_u ?_
                      refine gop_u ?_
                      refine gop_u ?_
                      refine gop_u ?_
                      refine gop_u ?_
                      refine gop_u ?_
                      refine gop_u ?_
                      refine gop_sf ?_
                      refine ob_i (vPick_f _ _) ?_
                      refine cnd_f1 ?_
                      refine ob_i (vInt_add (by omega) (by omega)) ?_
                      exact nxt (n.toNat - (i + 1)) (by omega) ⟨i + 1, rfl, by omega, g5L66, g6L66, g7L66, g23L66, g24L66, (congrArg (Value.int .i64) (by first | omega | rfl | (simp; done))), ou9, ou13, ou26, ou30, ou52, ou53, lE⟩
                    ·skip
                     refine gop_rt ?_
                     refine gop_rt ?_
                     refine ob_nd (fun hc81 => ?_) (fun hc81 => ?_)
                     ·skip
                      refine ob_i (vPick_t _ _) ?_
                      refine cnd_f1 ?_
                      by_cases hc82 : (at_ 0 (swL lb la lb.length) ((i : Int))) = (at_ 0 (la) ((i : Int)))
                      ·skip
                       refine gop_e (decide_eq_true hc82) ?_
                       refine gop_rt ?_
                       refine gop_e (decide_eq_true hc82) ?_
                       refine gop_rt ?_
                       refine ob_nd (fun hc83 => ?_) (fun hc83 => ?_)
                       ·skip
                        refine ob_i (vPick_et (decide_eq_true hc82) _ _) ?_
                        refine gop_sf ?_
                        refine gop_sf ?_
                        refine gop_sf ?_
                        refine gop_sf ?_
                        refine gop_sf ?_
                        refine ob_i (vPick_f _ _) ?_
                        refine gop_sf ?_
                        refine gop_sf ?_
                        refine gop_sf ?_
                        refine gop_sf ?_
                        refine gop_sf ?_
                        refine gop_sf ?_
                        refine gop_u ?_
                        refine gop_u ?_
                        refine gop_u ?_
                        refine gop_u ?_
                        refine gop_u ?_
                        refine gop_u ?_
                        refine gop_u ?_
                        refine gop_u ?_
                        refine gop_sf ?_
                        refine gop_sf ?_
                        refine gop_u ?_
                        refine gop_u ?_
                        refine gop_u ?_
                        refine gop_u ?_
                        refine gop_u ?_
                        refine gop_u ?_
                        refine gop_u ?_
                        refine gop_u ?_
                        refine gop_sf ?_
                        refine gop_sf ?_
                        refine gop_u ?_
                        refine gop_u ?_
                        refine gop_u ?_
                        refine gop_u ?_
                        refine gop_u ?_
                        refine gop_u ?_
                        refine gop_u ?_
                        refine gop_u ?_
                        refine gop_u ?_
                        refine gop_u ?_
                        refine gop_sf ?_
                        refine ob_i (vPick_f _ _) ?_
                        refine cnd_f1 ?_
                        refine ob_i (vInt_add (by omega) (by omega)) ?_
                        exact nxt (n.toNat - (i + 1)) (by omega) ⟨i + 1, rfl, by omega, g5L66, g6L66, g7L66, g23L66, g24L66, (congrArg (Value.int .i64) (by first | omega | rfl | (simp; done))), ou9, ou13, ou26, ou30, ou52, ou53, lE⟩
                       ·skip
                        refine ob_i (vPick_et (decide_eq_true hc82) _ _) ?_
                        refine gop_rt ?_
                        refine gop_rt ?_
                        refine gop_rt ?_
                        refine ob_i (ou9.sl.ix (by omega) (by omega)) ?_
                        refine gop_rt ?_
                        refine ob_i (ou9.sl.ld 0 (by omega) (by omega)) ?_
                        refine gop_rt ?_
                        refine ob_i (vInt_geq _ _ _) ?_
                        refine ob_i (vPick_t _ _) ?_
                        by_cases hc84 : 0 ≤ (at_ 0 (la) ((i : Int)))
                        ·skip
                         refine gop_e (decide_eq_true hc84) ?_
                         refine gop_rt ?_
                         refine gop_e (decide_eq_true hc84) ?_
                         refine gop_rt ?_
                         refine gop_e (decide_eq_true hc84) ?_
                         refine gop_rt ?_
                         refine ob_i (ou13.sl.ix (by omega) (by omega)) ?_
                         refine gop_e (decide_eq_true hc84) ?_
                         refine gop_rt ?_
                         refine ob_i (ou13.sl.ld 0 (by omega) (by omega)) ?_
                         refine gop_e (decide_eq_true hc84) ?_
                         refine gop_rt ?_
                         refine ob_i (vInt_geq _ _ _) ?_
                         refine gop_e (decide_eq_true hc84) ?_
                         refine gop_rt ?_
                         by_cases hc85 : 0 ≤ (at_ 0 (lb) ((i : Int)))
                         ·skip
                          refine gop_e (decide_eq_true hc85) ?_
                          refine gop_st ?_
                          refine gop_e (decide_eq_true hc85) ?_
                          refine gop_st ?_
                          refine gop_e (decide_eq_true hc85) ?_
                          refine gop_st ?_
                          refine gop_e (decide_eq_true hc85) ?_
                          refine gop_st ?_
                          refine gop_e (decide_eq_true hc85) ?_
                          refine gop_st ?_
                          refine gop_e (decide_eq_true hc85) ?_
                          refine gop_st ?_
                          refine gop_e (decide_eq_true hc85) ?_
                          refine gop_st ?_
                          refine gop_e (decide_eq_true hc85) ?_
                          refine gop_st ?_
                          refine gop_e (decide_eq_true hc84) ?_
                          refine gop_rt ?_
                          refine ob_i (vPick_et (decide_eq_true hc85) _ _) ?_
                          refine gop_e (decide_eq_true hc84) ?_
                          refine gop_rt ?_
                          refine gop_st ?_
                          refine gop_st ?_
                          refine gop_st ?_
                          refine gop_st ?_
                          refine gop_st ?_
                          refine gop_st ?_
                          refine gop_st ?_
                          refine gop_st ?_
                          refine gop_e (decide_eq_true hc84) ?_
                          refine gop_rt ?_
                          refine ob_i (vPick_t _ _) ?_
                          refine gop_e (decide_eq_true hc84) ?_
                          refine gop_rt ?_
                          refine gop_st ?_
                          refine gop_st ?_
                          refine gop_st ?_
                          refine gop_st ?_
                          refine gop_st ?_
                          refine gop_st ?_
                          refine gop_st ?_
                          refine gop_st ?_
                          refine gop_st ?_
                          refine gop_st ?_
                          refine gop_e (decide_eq_true hc84) ?_
                          refine gop_rt ?_
                          refine ob_i (vPick_t _ _) ?_
                          refine ob_i (vPick_et (decide_eq_true hc84) _ _) ?_
                          refine cnd_t1 ?_
                          refine retK (K := K) (v' := (.bool false)) rfl ?_
                          exfalso
                          first | contradiction | omega | (have g := hsp (by assumption); simp_all; done) | exact absurd (shr_quarter (by omega) (by omega) hslow) (by assumption)
                         ·skip
                          refine gop_e (decide_eq_false hc85) ?_
                          refine gop_rf ?_
                          refine gop_e (decide_eq_false hc85) ?_
                          refine gop_rf ?_
                          refine gop_e (decide_eq_false hc85) ?_
                          refine gop_rf ?_
                          refine ob_i (vInt_add (by omega) (by omega)) ?_
                          refine gop_e (decide_eq_false hc85) ?_
                          refine gop_rf ?_
                          refine gop_e (decide_eq_false hc85) ?_
                          refine gop_rf ?_
                          have rm86 := And.intro (Int.emod_nonneg ((i : Int) + 1) (b := n) (by omega)) (Int.emod_lt_of_pos ((i : Int) + 1) (b := n) (by omega))
                          refine ob_i (vInt_remN (by omega) (by omega)) ?_
                          refine gop_e (decide_eq_false hc85) ?_
                          refine gop_rf ?_
                          refine ob_i (ou9.sl.ix (by omega) (by omega)) ?_
                          refine gop_e (decide_eq_false hc85) ?_
                          refine gop_rf ?_
                          refine ob_i (ou9.sl.ld 0 (by omega) (by omega)) ?_
                          refine gop_e (decide_eq_false hc85) ?_
                          refine gop_rf ?_
                          refine ob_i (vInt_lss _ _ _) ?_
                          refine gop_e (decide_eq_true hc84) ?_
                          refine gop_rt ?_
                          refine ob_i (vPick_ef (decide_eq_false hc85) _ _) ?_
                          refine gop_e (decide_eq_true hc84) ?_
                          refine gop_rt ?_
                          by_cases hc87 : (at_ 0 (la) (((i : Int) + 1) % n)) < 0
                          ·skip
                           refine gop_e (decide_eq_true hc87) ?_
                           refine gop_st ?_
                           refine gop_e (decide_eq_true hc87) ?_
                           refine gop_st ?_
                           refine gop_e (decide_eq_true hc87) ?_
                           refine gop_st ?_
                           refine gop_e (decide_eq_true hc87) ?_
                           refine gop_st ?_
                           refine gop_e (decide_eq_true hc87) ?_
                           refine gop_st ?_
                           refine gop_e (decide_eq_true hc87) ?_
                           refine gop_st ?_
                           refine gop_e (decide_eq_true hc87) ?_
                           refine gop_st ?_
                           refine gop_e (decide_eq_true hc87) ?_
                           refine gop_st ?_
                           refine gop_e (decide_eq_true hc84) ?_
                           refine gop_rt ?_
                           refine ob_i (vPick_et (decide_eq_true hc87) _ _) ?_
                           refine gop_e (decide_eq_true hc84) ?_
                           refine gop_rt ?_
                           refine gop_st ?_
                           refine gop_st ?_
                           refine gop_st ?_
                           refine gop_st ?_
                           refine gop_st ?_
                           refine gop_st ?_
                           refine gop_st ?_
                           refine gop_st ?_
                           refine gop_st ?_
                           refine gop_st ?_
                           refine gop_e (decide_eq_true hc84) ?_
                           refine gop_rt ?_
                           refine ob_i (vPick_t _ _) ?_
                           refine ob_i (vPick_et (decide_eq_true hc84) _ _) ?_
                           refine cnd_t1 ?_
                           refine retK (K := K) (v' := (.bool false)) rfl ?_
                           exfalso
                           first | contradiction | omega | (have g := hsp (by assumption); simp_all; done) | exact absurd (shr_quarter (by omega) (by omega) hslow) (by assumption)
                          ·skip
                           refine gop_e (decide_eq_false hc87) ?_
                           refine gop_rf ?_
                           refine gop_e (decide_eq_false hc87) ?_
                           refine gop_rf ?_
                           refine gop_e (decide_eq_false hc87) ?_
                           refine gop_rf ?_
                           refine ob_i (vInt_add (by omega) (by omega)) ?_
                           refine gop_e (decide_eq_false hc87) ?_
                           refine gop_rf ?_
                           refine gop_e (decide_eq_false hc87) ?_
                           refine gop_rf ?_
                           have rm88 := And.intro (Int.emod_nonneg ((i : Int) + 1) (b := n) (by omega)) (Int.emod_lt_of_pos ((i : Int) + 1) (b := n) (by omega))
                           refine ob_i (vInt_remN (by omega) (by omega)) ?_
                           refine gop_e (decide_eq_false hc87) ?_
                           refine gop_rf ?_
                           refine ob_i (ou13.sl.ix (by omega) (by omega)) ?_
                           refine gop_e (decide_eq_false hc87) ?_
                           refine gop_rf ?_
                           refine ob_i (ou13.sl.ld 0 (by omega) (by omega)) ?_
                           refine gop_e (decide_eq_false hc87) ?_
                           refine gop_rf ?_
                           refine ob_i (vInt_geq _ _ _) ?_
                           refine gop_e (decide_eq_true hc84) ?_
                           refine gop_rt ?_
                           refine ob_i (vPick_ef (decide_eq_false hc87) _ _) ?_
                           refine gop_e (decide_eq_true hc84) ?_
                           refine gop_rt ?_
                           by_cases hc89 : 0 ≤ (at_ 0 (lb) (((i : Int) + 1) % n))
                           ·skip
                            refine gop_e (decide_eq_true hc89) ?_
                            refine gop_st ?_
                            refine gop_e (decide_eq_true hc89) ?_
                            refine gop_st ?_
                            refine gop_e (decide_eq_true hc89) ?_
                            refine gop_st ?_
                            refine gop_e (decide_eq_true hc89) ?_
                            refine gop_st ?_
                            refine gop_e (decide_eq_true hc89) ?_
                            refine gop_st ?_
                            refine gop_e (decide_eq_true hc89) ?_
                            refine gop_st ?_
                            refine gop_e (decide_eq_true hc89) ?_
                            refine gop_st ?_
                            refine gop_e (decide_eq_true hc89) ?_
                            refine gop_st ?_
                            refine gop_e (decide_eq_true hc89) ?_
                            refine gop_st ?_
                            refine gop_e (decide_eq_true hc89) ?_
                            refine gop_st ?_
                            refine gop_e (decide_eq_true hc84) ?_
                            refine gop_rt ?_
                            refine ob_i (vPick_et (decide_eq_true hc89) _ _) ?_
                            refine ob_i (vPick_et (decide_eq_true hc84) _ _) ?_
                            refine cnd_t1 ?_
                            refine retK (K := K) (v' := (.bool false)) rfl ?_
                            exfalso
                            first | contradiction | omega | (have g := hsp (by assumption); simp_all; done) | exact absurd (shr_quarter (by omega) (by omega) hslow) (by assumption)
                           ·skip
                            refine gop_e (decide_eq_false hc89) ?_
                            refine gop_rf ?_
                            refine gop_e (decide_eq_false hc89) ?_
                            refine gop_rf ?_
                            refine gop_e (decide_eq_false hc89) ?_
                            refine gop_rf ?_
                            refine gop_e (decide_eq_false hc89) ?_
                            refine gop_rf ?_
                            refine ob_i (vInt_add (by omega) (by omega)) ?_
                            refine gop_e (decide_eq_false hc89) ?_
                            refine gop_rf ?_
                            refine ob_i (vInt_sub (by omega) (by omega)) ?_
                            refine gop_e (decide_eq_false hc89) ?_
                            refine gop_rf ?_
                            refine gop_e (decide_eq_false hc89) ?_
                            refine gop_rf ?_
                            have rm90 := And.intro (Int.emod_nonneg (((i : Int) + n) - 1) (b := n) (by omega)) (Int.emod_lt_of_pos (((i : Int) + n) - 1) (b := n) (by omega))
                            refine ob_i (vInt_remN (by omega) (by omega)) ?_
                            refine gop_e (decide_eq_false hc89) ?_
                            refine gop_rf ?_
                            refine ob_i (ou13.sl.ix (by omega) (by omega)) ?_
                            refine gop_e (decide_eq_false hc89) ?_
                            refine gop_rf ?_
                            refine ob_i (ou13.sl.ld 0 (by omega) (by omega)) ?_
                            refine gop_e (decide_eq_false hc89) ?_
                            refine gop_rf ?_
                            refine ob_i (vInt_geq _ _ _) ?_
                            refine gop_e (decide_eq_true hc84) ?_
                            refine gop_rt ?_
                            refine ob_i (vPick_ef (decide_eq_false hc89) _ _) ?_
                            refine ob_i (vPick_et (decide_eq_true hc84) _ _) ?_
                            refine cnd_d (fun hg91 => ?_) (fun hg91 => ?_)
                            ·skip
                             refine retK (K := K) (v' := (.bool false)) rfl ?_
                             exfalso
                             first | contradiction | omega | (have g := hsp (by assumption); simp_all; done) | exact absurd (shr_quarter (by omega) (by omega) hslow) (by assumption)
                            ·skip
                             refine ob_i (vInt_add (by omega) (by omega)) ?_
                             exact nxt (n.toNat - (i + 1)) (by omega) ⟨i + 1, rfl, by omega, g5L66, g6L66, g7L66, g23L66, g24L66, (congrArg (Value.int .i64) (by first | omega | rfl | (simp; done))), ou9, ou13, ou26, ou30, ou52, ou53, lE⟩
                        ·skip
                         refine gop_e (decide_eq_false hc84) ?_
                         refine gop_sf ?_
                         refine gop_e (decide_eq_false hc84) ?_
                         refine gop_sf ?_
                         refine gop_e (decide_eq_false hc84) ?_
                         refine gop_sf ?_
                         refine gop_e (decide_eq_false hc84) ?_
                         refine gop_sf ?_
                         refine gop_e (decide_eq_false hc84) ?_
                         refine gop_sf ?_
                         refine gop_e (decide_eq_false hc84) ?_
                         refine gop_sf ?_
                         refine gop_u ?_
                         refine gop_u ?_
                         refine gop_u ?_
                         refine gop_u ?_
                         refine gop_u ?_
                         refine gop_u ?_
                         refine gop_u ?_
                         refine gop_u ?_
                         refine gop_e (decide_eq_false hc84) ?_
                         refine gop_sf ?_
                         refine gop_e (decide_eq_false hc84) ?_
                         refine gop_sf ?_
                         refine gop_u ?_
                         refine gop_u ?_
                         refine gop_u ?_
                         refine gop_u ?_
                         refine gop_u ?_
                         refine gop_u ?_
                         refine gop_u ?_
                         refine gop_u ?_
                         refine gop_e (decide_eq_false hc84) ?_
                         refine gop_sf ?_
                         refine gop_e (decide_eq_false hc84) ?_
                         refine gop_sf ?_
                         refine gop_u ?_
                         refine gop_u ?_
                         refine gop_u ?_
                         refine gop_u ?_
                         refine gop_u ?_
                         refine gop_u ?_
                         refine gop_u ?_
                         refine gop_u ?_
                         refine gop_u ?_
                         refine gop_u ?_
                         refine gop_e (decide_eq_false hc84) ?_
                         refine gop_sf ?_
                         refine ob_i (vPick_ef (decide_eq_false hc84) _ _) ?_
                         refine cnd_f1 ?_
                         refine ob_i (vInt_add (by omega) (by omega)) ?_
                         exact nxt (n.toNat - (i + 1)) (by omega) ⟨i + 1, rfl, by omega, g5L66, g6L66, g7L66, g23L66, g24L66, (congrArg (Value.int .i64) (by first | omega | rfl | (simp; done))), ou9, ou13, ou26, ou30, ou52, ou53, lE⟩
                      ·skip
                       refine gop_e (decide_eq_false hc82) ?_
                       refine gop_sf ?_
                       refine gop_e (decide_eq_false hc82) ?_
                       refine gop_sf ?_
                       refine ob_i (vPick_ef (decide_eq_false hc82) _ _) ?_
                       refine gop_sf ?_
                       refine gop_sf ?_
                       refine gop_sf ?_
                       refine gop_sf ?_
                       refine gop_sf ?_
                       refine ob_i (vPick_f _ _) ?_
                       refine gop_sf ?_
                       refine gop_sf ?_
                       refine gop_sf ?_
                       refine gop_sf ?_
                       refine gop_sf ?_
                       refine gop_sf ?_
                       refine gop_u ?_
                       refine gop_u ?_
                       refine gop_u ?_
                       refine gop_u ?_
                       refine gop_u ?_
                       refine gop_u ?_
                       refine gop_u ?_
                       refine gop_u ?_
                       refine gop_sf ?_
                       refine gop_sf ?_
                       refine gop_u ?_
                       refine gop_u ?_
                       refine gop_u ?_
                       refine gop_u ?_
                       refine gop_u ?_
                       refine gop_u ?_
                       refine gop_u ?_
                       refine gop_u ?_
                       refine gop_sf ?_
                       refine gop_sf ?_
                       refine gop_u ?_
                       refine gop_u ?_
                       refine gop_u ?_
                       refine gop_u ?_
                       refine gop_u ?_
                       refine gop_u ?_
                       refine gop_u ?_
                       refine gop_u ?_
                       refine gop_u ?_
                       refine gop_u ?_
                       refine gop_sf ?_
                       refine ob_i (vPick_f _ _) ?_
                       refine cnd_f1 ?_
                       refine ob_i (vInt_add (by omega) (by omega)) ?_
                       exact nxt (n.toNat - (i + 1)) (by omega) ⟨i + 1, rfl, by omega, g5L66, g6L66, g7L66, g23L66, g24L66, (congrArg (Value.int .i64) (by first | omega | rfl | (simp; done))), ou9, ou13, ou26, ou30, ou52, ou53, lE⟩
                     ·skip
                      refine ob_i (vPick_t _ _) ?_
                      refine cnd_t1 ?_
                      refine retK (K := K) (v' := (.bool false)) rfl ?_
                      exfalso
                      first | contradiction | omega | (have g := hsp (by assumption); simp_all; done) | exact absurd (shr_quarter (by omega) (by omega) hslow) (by assumption)
                   ·skip
                    refine gop_e (decide_eq_false hc69) ?_
                    refine gop_sf ?_
                    refine gop_e (decide_eq_false hc69) ?_
                    refine gop_sf ?_
                    refine gop_e (decide_eq_false hc69) ?_
                    refine gop_sf ?_
                    refine gop_e (decide_eq_false hc69) ?_
                    refine gop_sf ?_
                    refine gop_e (decide_eq_false hc69) ?_
                    refine gop_sf ?_
                    refine gop_e (decide_eq_false hc69) ?_
                    refine gop_sf ?_
                    refine gop_e (decide_eq_false hc69) ?_
                    refine gop_sf ?_
                    refine gop_e (decide_eq_false hc69) ?_
                    refine gop_sf ?_
                    refine gop_e (decide_eq_false hc69) ?_
                    refine gop_sf ?_
                    refine ob_i (vPick_ef (decide_eq_false hc69) _ _) ?_
                    refine ob_nd (fun hc92 => ?_) (fun hc92 => ?_)
                    ·skip
                     refine gop_sf ?_
                     refine gop_sf ?_
                     refine ob_i (vPick_f _ _) ?_
                     refine cnd_f1 ?_
                     refine gop_sf ?_
                     refine gop_sf ?_
                     refine ob_i (vPick_f _ _) ?_
                     refine gop_sf ?_
                     refine gop_sf ?_
                     refine gop_sf ?_
                     refine gop_sf ?_
                     refine gop_sf ?_
                     refine ob_i (vPick_f _ _) ?_
                     refine gop_sf ?_
                     refine gop_sf ?_
                     refine gop_sf ?_
                     refine gop_sf ?_
                     refine gop_sf ?_
                     refine gop_sf ?_
                     refine gop_u ?_
                     refine gop_u ?_
                     refine gop_u ?_
                     refine gop_u ?_
                     refine gop_u ?_
                     refine gop_u ?_
                     refine gop_u ?_
                     refine gop_u ?_
                     refine gop_sf ?_
                     refine gop_sf ?_
                     refine gop_u ?_
                     refine gop_u ?_
                     refine gop_u ?_
                     refine gop_u ?_
                     refine gop_u ?_
                     refine gop_u ?_
                     refine gop_u ?_
                     refine gop_u ?_
                     refine gop_sf ?_
                     refine gop_sf ?_
                     refine gop_u ?_
                     refine gop_u ?_
                     refine gop_u ?_
                     refine gop_u ?_
                     refine gop_u ?_
                     refine gop_u ?_
                     refine gop_u ?_
                     refine gop_u ?_
                     refine gop_u ?_
                     refine gop_u ?_
                     refine gop_sf ?_
                     refine ob_i (vPick_f _ _) ?_
                     refine cnd_f1 ?_
                     refine ob_i (vInt_add (by omega) (by omega)) ?_
                     exact nxt (n.toNat - (i + 1)) (by omega) ⟨i + 1, rfl, by omega, g5L66, g6L66, g7L66, g23L66, g24L66, (congrArg (Value.int .i64) (by first | omega | rfl | (simp; done))), ou9, ou13, ou26, ou30, ou52, ou53, lE⟩
                    ·skip
                     refine gop_rt ?_
                     refine gop_rt ?_
                     refine ob_i (a := .bool true) rfl ?_
                     refine ob_i (vPick_t _ _) ?_
                     refine cnd_t1 ?_
                     refine retK (K := K) (v' := (.bool false)) rfl ?_
                     exfalso
                     first | contradiction | omega | (have g := hsp (by assumption); simp_all; done) | exact absurd (shr_quarter (by omega) (by omega) hslow) (by assumption)
                  ·skip
                   refine gop_e (decide_eq_false hc68) ?_
                   refine gop_sf ?_
                   refine gop_e (decide_eq_false hc68) ?_
                   refine gop_sf ?_
                   refine gop_e (decide_eq_false hc68) ?_
                   refine gop_sf ?_
                   refine gop_e (decide_eq_false hc68) ?_
                   refine gop_sf ?_
                   refine gop_e (decide_eq_false hc68) ?_
                   refine gop_sf ?_
                   refine gop_e (decide_eq_false hc68) ?_
                   refine gop_sf ?_
                   refine gop_e (decide_eq_false hc68) ?_
                   refine gop_sf ?_
                   refine gop_e (decide_eq_false hc68) ?_
                   refine gop_sf ?_
                   refine gop_e (decide_eq_false hc68) ?_
                   refine gop_sf ?_
                   refine ob_i (vPick_ef (decide_eq_false hc68) _ _) ?_
                   refine ob_i (ou52.sl.ix (by omega) (by omega)) ?_
                   refine ob_i (ou52.sl.ld 0 (by omega) (by omega)) ?_
                   refine ob_i (ou13.sl.ix (by omega) (by omega)) ?_
                   refine ob_i (ou13.sl.ld 0 (by omega) (by omega)) ?_
                   refine ob_i (vInt_eql _ _ _) ?_
                   by_cases hc93 : (at_ 0 (swL la lb la.length) ((i : Int))) = (at_ 0 (lb) ((i : Int)))
                   ·skip
                    refine gop_e (decide_eq_true hc93) ?_
                    refine gop_rt ?_
                    refine gop_e (decide_eq_true hc93) ?_
                    refine gop_rt ?_
                    refine gop_e (decide_eq_true hc93) ?_
                    refine gop_rt ?_
                    refine ob_i (ou53.sl.ix (by omega) (by omega)) ?_
                    refine gop_e (decide_eq_true hc93) ?_
                    refine gop_rt ?_
                    refine ob_i (ou53.sl.ld 0 (by omega) (by omega)) ?_
                    refine gop_e (decide_eq_true hc93) ?_
                    refine gop_rt ?_
                    refine gop_e (decide_eq_true hc93) ?_
                    refine gop_rt ?_
                    refine gop_e (decide_eq_true hc93) ?_
                    refine gop_rt ?_
                    refine ob_i (ou9.sl.ix (by omega) (by omega)) ?_
                    refine gop_e (decide_eq_true hc93) ?_
                    refine gop_rt ?_
                    refine ob_i (ou9.sl.ld 0 (by omega) (by omega)) ?_
                    refine gop_e (decide_eq_true hc93) ?_
                    refine gop_rt ?_
                    refine ob_i (vInt_eql _ _ _) ?_
                    refine ob_i (vPick_et (decide_eq_true hc93) _ _) ?_
                    refine ob_i (a := .bool true) rfl ?_
                    refine gop_rt ?_
                    refine gop_rt ?_
                    refine ob_nd (fun hc94 => ?_) (fun hc94 => ?_)
                    ·skip
                     refine ob_i (vPick_t _ _) ?_
                     refine cnd_f1 ?_
                     by_cases hc95 : (at_ 0 (swL lb la lb.length) ((i : Int))) = (at_ 0 (la) ((i : Int)))
                     ·skip
                      refine gop_e (decide_eq_true hc95) ?_
                      refine gop_rt ?_
                      refine gop_e (decide_eq_true hc95) ?_
                      refine gop_rt ?_
                      refine ob_i (a := .bool true) rfl ?_
                      refine ob_i (vPick_et (decide_eq_true hc95) _ _) ?_
                      refine gop_rt ?_
                      refine gop_rt ?_
                      refine gop_rt ?_
                      refine ob_i (ou9.sl.ix (by omega) (by omega)) ?_
                      refine gop_rt ?_
                      refine ob_i (ou9.sl.ld 0 (by omega) (by omega)) ?_
                      refine gop_rt ?_
                      refine ob_i (vInt_geq _ _ _) ?_
                      refine ob_i (vPick_t _ _) ?_
                      by_cases hc96 : 0 ≤ (at_ 0 (la) ((i : Int)))
                      ·skip
                       refine gop_e (decide_eq_true hc96) ?_
                       refine gop_rt ?_
                       refine gop_e (decide_eq_true hc96) ?_
                       refine gop_rt ?_
                       refine gop_e (decide_eq_true hc96) ?_
                       refine gop_rt ?_
                       refine ob_i (ou13.sl.ix (by omega) (by omega)) ?_
                       refine gop_e (decide_eq_true hc96) ?_
                       refine gop_rt ?_
                       refine ob_i (ou13.sl.ld 0 (by omega) (by omega)) ?_
                       refine gop_e (decide_eq_true hc96) ?_
                       refine gop_rt ?_
                       refine ob_i (vInt_geq _ _ _) ?_
                       refine gop_e (decide_eq_true hc96) ?_
                       refine gop_rt ?_
                       by_cases hc97 : 0 ≤ (at_ 0 (lb) ((i : Int)))
                       ·skip
                        refine gop_e (decide_eq_true hc97) ?_
                        refine gop_st ?_
                        refine gop_e (decide_eq_true hc97) ?_
                        refine gop_st ?_
                        refine gop_e (decide_eq_true hc97) ?_
                        refine gop_st ?_
                        refine gop_e (decide_eq_true hc97) ?_
                        refine gop_st ?_
                        refine gop_e (decide_eq_true hc97) ?_
                        refine gop_st ?_
                        refine gop_e (decide_eq_true hc97) ?_
                        refine gop_st ?_
                        refine gop_e (decide_eq_true hc97) ?_
                        refine gop_st ?_
                        refine gop_e (decide_eq_true hc97) ?_
                        refine gop_st ?_
                        refine gop_e (decide_eq_true hc96) ?_
                        refine gop_rt ?_
                        refine ob_i (vPick_et (decide_eq_true hc97) _ _) ?_
                        refine gop_e (decide_eq_true hc96) ?_
                        refine gop_rt ?_
                        refine gop_st ?_
                        refine gop_st ?_
                        refine gop_st ?_
                        refine gop_st ?_
                        refine gop_st ?_
                        refine gop_st ?_
                        refine gop_st ?_
                        refine gop_st ?_
                        refine gop_e (decide_eq_true hc96) ?_
                        refine gop_rt ?_
                        refine ob_i (vPick_t _ _) ?_
                        refine gop_e (decide_eq_true hc96) ?_
                        refine gop_rt ?_
                        refine gop_st ?_
                        refine gop_st ?_
                        refine gop_st ?_
                        refine gop_st ?_
                        refine gop_st ?_
                        refine gop_st ?_
                        refine gop_st ?_
                        refine gop_st ?_
                        refine gop_st ?_
                        refine gop_st ?_
                        refine gop_e (decide_eq_true hc96) ?_
                        refine gop_rt ?_
                        refine ob_i (vPick_t _ _) ?_
                        refine ob_i (vPick_et (decide_eq_true hc96) _ _) ?_
                        refine cnd_t1 ?_
                        refine retK (K := K) (v' := (.bool false)) rfl ?_
                        exfalso
                        first | contradiction | omega | (have g := hsp (by assumption); simp_all; done) | exact absurd (shr_quarter (by omega) (by omega) hslow) (by assumption)
                       ·skip
                        refine gop_e (decide_eq_false hc97) ?_
                        refine gop_rf ?_
                        refine gop_e (decide_eq_false hc97) ?_
                        refine gop_rf ?_
                        refine gop_e (decide_eq_false hc97) ?_
                        refine gop_rf ?_
                        refine ob_i (vInt_add (by omega) (by omega)) ?_
                        refine gop_e (decide_eq_false hc97) ?_
                        refine gop_rf ?_
                        refine gop_e (decide_eq_false hc97) ?_
                        refine gop_rf ?_
                        have rm98 := And.intro (Int.emod_nonneg ((i : Int) + 1) (b := n) (by omega)) (Int.emod_lt_of_pos ((i : Int) + 1) (b := n) (by omega))
                        refine ob_i (vInt_remN (by omega) (by omega)) ?_
                        refine gop_e (decide_eq_false hc97) ?_
                        refine gop_rf ?_
                        refine ob_i (ou9.sl.ix (by omega) (by omega)) ?_
                        refine gop_e (decide_eq_false hc97) ?_
                        refine gop_rf ?_
                        refine ob_i (ou9.sl.ld 0 (by omega) (by omega)) ?_
                        refine gop_e (decide_eq_false hc97) ?_
                        refine gop_rf ?_
                        refine ob_i (vInt_lss _ _ _) ?_
                        refine gop_e (decide_eq_true hc96) ?_
                        refine gop_rt ?_
                        refine ob_i (vPick_ef (decide_eq_false hc97) _ _) ?_
                        refine gop_e (decide_eq_true hc96) ?_
                        refine gop_rt ?_
                        by_cases hc99 : (at_ 0 (la) (((i : Int) + 1) % n)) < 0
                        ·skip
                         refine gop_e (decide_eq_true hc99) ?_
                         refine gop_st ?_
                         refine gop_e (decide_eq_true hc99) ?_
                         refine gop_st ?_
                         refine gop_e (decide_eq_true hc99) ?_
                         refine gop_st ?_
                         refine gop_e (decide_eq_true hc99) ?_
                         refine gop_st ?_
                         refine gop_e (decide_eq_true hc99) ?_
                         refine gop_st ?_
                         refine gop_e (decide_eq_true hc99) ?_
                         refine gop_st ?_
                         refine gop_e (decide_eq_true hc99) ?_
                         refine gop_st ?_
                         refine gop_e (decide_eq_true hc99) ?_
                         refine gop_st ?_
                         refine gop_e (decide_eq_true hc96) ?_
                         refine gop_rt ?_
                         refine ob_i (vPick_et (decide_eq_true hc99) _ _) ?_
                         refine gop_e (decide_eq_true hc96) ?_
                         refine gop_rt ?_
                         refine gop_st ?_
                         refine gop_st ?_
                         refine gop_st ?_
                         refine gop_st ?_
                         refine gop_st ?_
                         refine gop_st ?_
                         refine gop_st ?_
                         refine gop_st ?_
                         refine gop_st ?_
                         refine gop_st ?_
                         refine gop_e (decide_eq_true hc96) ?_
                         refine gop_rt ?_
                         refine ob_i (vPick_t _ _) ?_
                         refine ob_i (vPick_et (decide_eq_true hc96) _ _) ?_
                         refine cnd_t1 ?_
                         refine retK (K := K) (v' := (.bool false)) rfl ?_
                         exfalso
                         first | contradiction | omega | (have g := hsp (by assumption); simp_all; done) | exact absurd (shr_quarter (by omega) (by omega) hslow) (by assumption)
                        ·skip
                         refine gop_e (decide_eq_false hc99) ?_
                         refine gop_rf ?_
                         refine gop_e (decide_eq_false hc99) ?_
                         refine gop_rf ?_
                         refine gop_e (decide_eq_false hc99) ?_
                         refine gop_rf ?_
                         refine ob_i (vInt_add (by omega) (by omega)) ?_
                         refine gop_e (decide_eq_false hc99) ?_
                         refine gop_rf ?_
                         refine gop_e (decide_eq_false hc99) ?_
                         refine gop_rf ?_
                         have rm100 := And.intro (Int.emod_nonneg ((i : Int) + 1) (b := n) (by omega)) (Int.emod_lt_of_pos ((i : Int) + 1) (b := n) (by omega))
                         refine ob_i (vInt_remN (by omega) (by omega)) ?_
                         refine gop_e (decide_eq_false hc99) ?_
                         refine gop_rf ?_
                         refine ob_i (ou13.sl.ix (by omega) (by omega)) ?_
                         refine gop_e (decide_eq_false hc99) ?_
                         refine gop_rf ?_
                         refine ob_i (ou13.sl.ld 0 (by omega) (by omega)) ?_
                         refine gop_e (decide_eq_false hc99) ?_
                         refine gop_rf ?_
                         refine ob_i (vInt_geq _ _ _) ?_
                         refine gop_e (decide_eq_true hc96) ?_
                         refine gop_rt ?_
                         refine ob_i (vPick_ef (decide_eq_false hc99) _ _) ?_
                         refine gop_e (decide_eq_true hc96) ?_
                         refine gop_rt ?_
                         by_cases hc101 : 0 ≤ (at_ 0 (lb) (((i : Int) + 1) % n))
                         ·skip
                          refine gop_e (decide_eq_true hc101) ?_
                          refine gop_st ?_
                          refine gop_e (decide_eq_true hc101) ?_
                          refine gop_st ?_
                          refine gop_e (decide_eq_true hc101) ?_
                          refine gop_st ?_
                          refine gop_e (decide_eq_true hc101) ?_
                          refine gop_st ?_
                          refine gop_e (decide_eq_true hc101) ?_
                          refine gop_st ?_
                          refine gop_e (decide_eq_true hc101) ?_
                          refine gop_st ?_
                          refine gop_e (decide_eq_true hc101) ?_
                          refine gop_st ?_
                          refine gop_e (decide_eq_true hc101) ?_
                          refine gop_st ?_
                          refine gop_e (decide_eq_true hc101) ?_
                          refine gop_st ?_
                          refine gop_e (decide_eq_true hc101) ?_
                          refine gop_st ?_
                          refine gop_e (decide_eq_true hc96) ?_
                          refine gop_rt ?_
                          refine ob_i (vPick_et (decide_eq_true hc101) _ _) ?_
                          refine ob_i (vPick_et (decide_eq_true hc96) _ _) ?_
                          refine cnd_t1 ?_
                          refine retK (K := K) (v' := (.bool false)) rfl ?_
                          exfalso
                          first | contradiction | omega | (have g := hsp (by assumption); simp_all; done) | exact absurd (shr_quarter (by omega) (by omega) hslow) (by assumption)
                         ·skip
                          refine gop_e (decide_eq_false hc101) ?_
                          refine gop_rf ?_
                          refine gop_e (decide_eq_false hc101) ?_
                          refine gop_rf ?_
                          refine gop_e (decide_eq_false hc101) ?_
                          refine gop_rf ?_
                          refine gop_e (decide_eq_false hc101) ?_
                          refine gop_rf ?_
                          refine ob_i (vInt_add (by omega) (by omega)) ?_
                          refine gop_e (decide_eq_false hc101) ?_
                          refine gop_rf ?_
                          refine ob_i (vInt_sub (by omega) (by omega)) ?_
                          refine gop_e (decide_eq_false hc101) ?_
                          refine gop_rf ?_
                          refine gop_e (decide_eq_false hc101) ?_
                          refine gop_rf ?_
                          have rm102 := And.intro (Int.emod_nonneg (((i : Int) + n) - 1) (b := n) (by omega)) (Int.emod_lt_of_pos (((i : Int) + n) - 1) (b := n) (by omega))
                          refine ob_i (vInt_remN (by omega) (by omega)) ?_
                          refine gop_e (decide_eq_false hc101) ?_
                          refine gop_rf ?_
                          refine ob_i (ou13.sl.ix (by omega) (by omega)) ?_
                          refine gop_e (decide_eq_false hc101) ?_
                          refine gop_rf ?_
                          refine ob_i (ou13.sl.ld 0 (by omega) (by omega)) ?_
                          refine gop_e (decide_eq_false hc101) ?_
                          refine gop_rf ?_
                          refine ob_i (vInt_geq _ _ _) ?_
                          refine gop_e (decide_eq_true hc96) ?_
                          refine gop_rt ?_
                          refine ob_i (vPick_ef (decide_eq_false hc101) _ _) ?_
                          refine ob_i (vPick_et (decide_eq_true hc96) _ _) ?_
                          refine cnd_d (fun hg103 => ?_) (fun hg103 => ?_)
                          ·skip
                           refine retK (K := K) (v' := (.bool false)) rfl ?_
                           exfalso
                           first | contradiction | omega | (have g := hsp (by assumption); simp_all; done) | exact absurd (shr_quarter (by omega) (by omega) hslow) (by assumption)
                          ·skip
                           refine ob_i (vInt_add (by omega) (by omega)) ?_
                           exact nxt (n.toNat - (i + 1)) (by omega) ⟨i + 1, rfl, by omega, g5L66, g6L66, g7L66, g23L66, g24L66, (congrArg (Value.int .i64) (by first | omega | rfl | (simp; done))), ou9, ou13, ou26, ou30, ou52, ou53, lE⟩
                      ·skip
                       refine gop_e (decide_eq_false hc96) ?_
                       refine gop_sf ?_
                       refine gop_e (decide_eq_false hc96) ?_
                       refine gop_sf ?_
                       refine gop_e (decide_eq_false hc96) ?_
                       refine gop_sf ?_
                       refine gop_e (decide_eq_false hc96) ?_
                       refine gop_sf ?_
                       refine gop_e (decide_eq_false hc96) ?_
                       refine gop_sf ?_
                       refine gop_e (decide_eq_false hc96) ?_
                       refine gop_sf ?_
                       refine gop_u ?_
                       refine gop_u ?_
                       refine gop_u ?_
                       refine gop_u ?_
                       refine gop_u ?_
                       refine gop_u ?_
                       refine gop_u ?_
                       refine gop_u ?_
                       refine gop_e (decide_eq_false hc96) ?_
                       refine gop_sf ?_
                       refine gop_e (decide_eq_false hc96) ?_
                       refine gop_sf ?_
                       refine gop_u ?_
                       refine gop_u ?_
                       refine gop_u ?_
                       refine gop_u ?_
                       refine gop_u ?_
                       refine gop_u ?_
                       refine gop_u ?_
                       refine gop_u ?_
                       refine gop_e (decide_eq_false hc96) ?_
                       refine gop_sf ?_
                       refine gop_e (decide_eq_false hc96) ?_
                       refine gop_sf ?_
                       refine gop_u ?_
                       refine gop_u ?_
                       refine gop_u ?_
                       refine gop_u ?_
                       refine gop_u ?_
                       refine gop_u ?_
                       refine gop_u ?_
                       refine gop_u ?_
                       refine gop_u ?_
                       refine gop_u ?_
                       refine gop_e (decide_eq_false hc96) ?_
                       refine gop_sf ?_
                       refine ob_i (vPick_ef (decide_eq_false hc96) _ _) ?_
                       refine cnd_f1 ?_
                       refine ob_i (vInt_add (by omega) (by omega)) ?_
                       exact nxt (n.toNat - (i + 1)) (by omega) ⟨i + 1, rfl, by omega, g5L66, g6L66, g7L66, g23L66, g24L66, (congrArg (Value.int .i64) (by first | omega | rfl | (simp; done))), ou9, ou13, ou26, ou30, ou52, ou53, lE⟩
                     ·skip
                      refine gop_e (decide_eq_false hc95) ?_
                      refine gop_sf ?_
                      refine gop_e (decide_eq_false hc95) ?_
                      refine gop_sf ?_
                      refine ob_i (vPick_ef (decide_eq_false hc95) _ _) ?_
                      refine gop_sf ?_
                      refine gop_sf ?_
                      refine gop_sf ?_
                      refine gop_sf ?_
                      refine gop_sf ?_
                      refine ob_i (vPick_f _ _) ?_
                      refine gop_sf ?_
                      refine gop_sf ?_
                      refine gop_sf ?_
                      refine gop_sf ?_
                      refine gop_sf ?_
                      refine gop_sf ?_
                      refine gop_u ?_
                      refine gop_u ?_
                      refine gop_u ?_
                      refine gop_u ?_
                      refine gop_u ?_
                      refine gop_u ?_
                      refine gop_u ?_
                      refine gop_u ?_
                      refine gop_sf ?_
                      refine gop_sf ?_
                      refine gop_u ?_
                      refine gop_u ?_
                      refine gop_u ?_
                      refine gop_u ?_
                      refine gop_u ?_
                      refine gop_u ?_
                      refine gop_u ?_
                      refine gop_u ?_
                      refine gop_sf ?_
                      refine gop_sf ?_
                      refine gop_u ?_
                      refine gop_u ?_
                      refine gop_u ?_
                      refine gop_u ?_
                      refine gop_u ?_
                      refine gop_u ?_
                      refine gop_u ?_
                      refine gop_u ?_
                      refine gop_u ?_
                      refine gop_u ?_
                      refine gop_sf ?_
                      refine ob_i (vPick_f _ _) ?_
                      refine cnd_f1 ?_
                      refine ob_i (vInt_add (by omega) (by omega)) ?_
                      exact nxt (n.toNat - (i + 1)) (by omega) ⟨i + 1, rfl, by omega, g5L66, g6L66, g7L66, g23L66, g24L66, (congrArg (Value.int .i64) (by first | omega | rfl | (simp; done))), ou9, ou13, ou26, ou30, ou52, ou53, lE⟩
                    ·skip
                     refine ob_i (vPick_t _ _) ?_
                     refine cnd_t1 ?_
                     refine retK (K := K) (v' := (.bool false)) rfl ?_
                     exfalso
                     first | contradiction | omega | (have g := hsp (by assumption); simp_all; done) | exact absurd (shr_quarter (by omega) (by omega) hslow) (by assumption)
                   ·skip
                    refine gop_e (decide_eq_false hc93) ?_
                    refine gop_sf ?_
                    refine gop_e (decide_eq_false hc93) ?_
                    refine gop_sf ?_
                    refine gop_e (decide_eq_false hc93) ?_
                    refine gop_sf ?_
                    refine gop_e (decide_eq_false hc93) ?_
                    refine gop_sf ?_
                    refine gop_e (decide_eq_false hc93) ?_
                    refine gop_sf ?_
                    refine gop_e (decide_eq_false hc93) ?_
                    refine gop_sf ?_
                    refine gop_e (decide_eq_false hc93) ?_
                    refine gop_sf ?_
                    refine gop_e (decide_eq_false hc93) ?_
                    refine gop_sf ?_
                    refine gop_e (decide_eq_false hc93) ?_
                    refine gop_sf ?_
                    refine ob_i (vPick_ef (decide_eq_false hc93) _ _) ?_
                    refine ob_i (a := .bool true) rfl ?_
                    refine gop_rt ?_
                    refine gop_rt ?_
                    refine ob_i (a := .bool true) rfl ?_
                    refine ob_i (vPick_t _ _) ?_
                    refine cnd_t1 ?_
                    refine retK (K := K) (v' := (.bool false)) rfl ?_
                    exfalso
                    first | contradiction | omega | (have g := hsp (by assumption); simp_all; done) | exact absurd (shr_quarter (by omega) (by omega) hslow) (by assumption)
                 ·skip
                  have ti := hg67
                  exact hJ65 _ _ ⟨ou9, ou13, ou26, ou30, ou52, ou53, lE⟩
           ·skip
            refine gop_e (decide_eq_false hc47) ?_
            refine gop_sf ?_
            refine gop_e (decide_eq_false hc47) ?_
            refine gop_sf ?_
            refine gop_e (decide_eq_false hc47) ?_
            refine gop_sf ?_
            refine gop_u ?_
            refine gop_u ?_
            refine gop_u ?_
            refine gop_u ?_
            refine gop_e (decide_eq_false hc47) ?_
            refine gop_sf ?_
            refine gop_rf ?_
            refine ob_i (vPick_ef (decide_eq_false hc47) _ _) ?_
            refine ob_i (vPick_f _ _) ?_
            refine cnd_f1 ?_
            refine C.sw_ok ou9.sl ou13.sl (by exact ⟨by assumption, by assumption, by omega⟩) (fun  u106 u107 H104 ou106 ou107 nn108 nn109 au106Xu107 le105 => ?_)
            have au9Xu106 : Apart u9 u106 := ou9.apart nn108
            have au13Xu106 : Apart u13 u106 := ou13.apart nn108
            have au26Xu106 : Apart u26 u106 := ou26.apart nn108
            have au30Xu106 : Apart u30 u106 := ou30.apart nn108
            have nu106 : Nw H u106 := nn108.le lE
            have au9Xu107 : Apart u9 u107 := ou9.apart nn109
            have au13Xu107 : Apart u13 u107 := ou13.apart nn109
            have au26Xu107 : Apart u26 u107 := ou26.apart nn109
            have au30Xu107 : Apart u30 u107 := ou30.apart nn109
            have nu107 : Nw H u107 := nn109.le lE
            replace ou9 := ou9.le le105
            replace ou13 := ou13.le le105
            replace ou26 := ou26.le le105
            replace ou30 := ou30.le le105
            replace hvy := hvy.le le105
            replace hvm := hvm.le le105
            replace lE := lE.trans le105
            have es1 := sw_cars (a := la) (b := lb) (by omega)
            have es2 := swL_length (a := la) (b := lb) (Nat.le_refl _)
            have es3 := swL_length (a := lb) (b := la) (Nat.le_refl _)
            refine ob_i (vExt_30 _ _ _) ?_
            refine ob_i (vExt_31 _ _ _) ?_
            refine ob_i (vExt_32 _ _ _) ?_
            refine ob_i (a := .bool false) rfl ?_
            refine gop_rf ?_
            refine gop_rf ?_
            refine ob_i (ou106.len) ?_
            refine gop_rf ?_
            refine gop_rf ?_
            refine ob_i (vInt_neq _ _ _) ?_
            refine ob_i (vPick_f _ _) ?_
            by_cases hc110 : (((swL la lb la.length).length : Int)) ≠ n
            ·skip
             refine gop_e (decide_eq_true hc110) ?_
             refine gop_st ?_
             refine gop_e (decide_eq_true hc110) ?_
             refine gop_st ?_
             refine gop_e (decide_eq_true hc110) ?_
             refine gop_st ?_
             refine gop_e (decide_eq_true hc110) ?_
             refine gop_st ?_
             refine ob_i (vPick_et (decide_eq_true hc110) _ _) ?_
             refine gop_st ?_
             refine gop_st ?_
             refine gop_st ?_
             refine gop_st ?_
             refine gop_st ?_
             refine gop_st ?_
             refine gop_st ?_
             refine gop_st ?_
             refine gop_st ?_
             refine gop_st ?_
             refine ob_i (vPick_t _ _) ?_
             refine cnd_t1 ?_
             exfalso
             first | contradiction | omega | (have g := hsp (by assumption); simp_all; done) | exact absurd (shr_quarter (by omega) (by omega) hslow) (by assumption)
            ·skip
             refine gop_e (decide_eq_false hc110) ?_
             refine gop_rf ?_
             refine gop_e (decide_eq_false hc110) ?_
             refine gop_rf ?_
             refine ob_i (ou107.len) ?_
             refine gop_e (decide_eq_false hc110) ?_
             refine gop_rf ?_
             refine gop_e (decide_eq_false hc110) ?_
             refine gop_rf ?_
             refine ob_i (vInt_neq _ _ _) ?_
             refine ob_i (vPick_ef (decide_eq_false hc110) _ _) ?_
             by_cases hc111 : (((swL lb la lb.length).length : Int)) ≠ n
             ·skip
              refine gop_e (decide_eq_true hc111) ?_
              refine gop_st ?_
              refine gop_e (decide_eq_true hc111) ?_
              refine gop_st ?_
              refine gop_e (decide_eq_true hc111) ?_
              refine gop_st ?_
              refine gop_e (decide_eq_true hc111) ?_
              refine gop_st ?_
              refine gop_e (decide_eq_true hc111) ?_
              refine gop_st ?_
              refine gop_e (decide_eq_true hc111) ?_
              refine gop_st ?_
              refine gop_e (decide_eq_true hc111) ?_
              refine gop_st ?_
              refine gop_e (decide_eq_true hc111) ?_
              refine gop_st ?_
              refine gop_e (decide_eq_true hc111) ?_
              refine gop_st ?_
              refine gop_e (decide_eq_true hc111) ?_
              refine gop_st ?_
              refine ob_i (vPick_et (decide_eq_true hc111) _ _) ?_
              refine cnd_t1 ?_
              exfalso
              first | contradiction | omega | (have g := hsp (by assumption); simp_all; done) | exact absurd (shr_quarter (by omega) (by omega) hslow) (by assumption)
             ·skip
              refine gop_e (decide_eq_false hc111) ?_
              refine gop_rf ?_
              refine gop_e (decide_eq_false hc111) ?_
              refine gop_rf ?_
              refine C.laws_r8Cars ou106.sl (by omega) (fun   H112    le113 => ?_)
              replace ou9 := ou9.le le113
              replace ou13 := ou13.le le113
              replace ou26 := ou26.le le113
              replace ou30 := ou30.le le113
              replace ou106 := ou106.le le113
              replace ou107 := ou107.le le113
              replace hvy := hvy.le le113
              replace hvm := hvm.le le113
              replace lE := lE.trans le113
              refine gop_e (decide_eq_false hc111) ?_
              refine gop_rf ?_
              refine gop_e (decide_eq_false hc111) ?_
              refine gop_rf ?_
              refine C.laws_r8Cars ou107.sl (by omega) (fun   H114    le115 => ?_)
              replace ou9 := ou9.le le115
              replace ou13 := ou13.le le115
              replace ou26 := ou26.le le115
              replace ou30 := ou30.le le115
              replace ou106 := ou106.le le115
              replace ou107 := ou107.le le115
              replace hvy := hvy.le le115
              replace hvm := hvm.le le115
              replace lE := lE.trans le115
              refine gop_e (decide_eq_false hc111) ?_
              refine gop_rf ?_
              refine ob_i (vInt_add (by omega) (by omega)) ?_
              refine gop_e (decide_eq_false hc111) ?_
              refine gop_rf ?_
              refine gop_e (decide_eq_false hc111) ?_
              refine gop_rf ?_
              refine gop_e (decide_eq_false hc111) ?_
              refine gop_rf ?_
              refine C.laws_r8Cars ou13.sl (by omega) (fun   H116    le117 => ?_)
              replace ou9 := ou9.le le117
              replace ou13 := ou13.le le117
              replace ou26 := ou26.le le117
              replace ou30 := ou30.le le117
              replace ou106 := ou106.le le117
              replace ou107 := ou107.le le117
              replace hvy := hvy.le le117
              replace hvm := hvm.le le117
              replace lE := lE.trans le117
              refine gop_e (decide_eq_false hc111) ?_
              refine gop_rf ?_
              refine ob_i (vInt_add (by omega) (by omega)) ?_
              refine gop_e (decide_eq_false hc111) ?_
              refine gop_rf ?_
              refine ob_i (vInt_neq _ _ _) ?_
              refine ob_i (vPick_ef (decide_eq_false hc111) _ _) ?_
              refine cnd_d (fun hg118 => ?_) (fun hg118 => ?_)
              ·skip
               exfalso
               first | contradiction | omega | (have g := hsp (by assumption); simp_all; done) | exact absurd (shr_quarter (by omega) (by omega) hslow) (by assumption)
              ·skip
               refine jn_i (fun σ' H' => Own eI H' u9 (la) ∧ Own eI H' u13 (lb) ∧ Own eI H' u26 (lnL la mo slow sd) ∧ Own eI H' u30 (lnL la mo 0 sd) ∧ Own eI H' u106 (swL la lb la.length) ∧ Own eI H' u107 (swL lb la lb.length) ∧ Le H H') (fun σ119 H119 hP => ?_) (fun J119 hJ119 => ?_)
               ·skip
                obtain ⟨ou9, ou13, ou26, ou30, ou106, ou107, lE⟩ := hP
                have hvy := hvy0.le lE
                have hvm := hvm0.le lE
                skip
                exact hk   _    lE
               refine ⟨fun n' σ' H' => ∃ i : Nat, n' = n.toNat - i ∧ i ≤ n.toNat ∧ σ' 5 = (.int .i64 (n)) ∧ σ' 6 = u9 ∧ σ' 7 = u13 ∧ σ' 23 = u106 ∧ σ' 24 = u107 ∧ σ' 26 = (.int .i64 ((i : Int))) ∧ Own eI H' u9 (la) ∧ Own eI H' u13 (lb) ∧ Own eI H' u26 (lnL la mo slow sd) ∧ Own eI H' u30 (lnL la mo 0 sd) ∧ Own eI H' u106 (swL la lb la.length) ∧ Own eI H' u107 (swL lb la lb.length) ∧ Le H H',
                 ⟨_, 0, rfl, by omega, g5L46, g6L46, g7L46, rfl, rfl, (congrArg (Value.int .i64) (by first | omega | rfl | (simp; done))), ou9, ou13, ou26, ou30, ou106, ou107, lE⟩, ?_⟩
               rintro n120 σ120 H120 ⟨i, rfl, hiN, g5L120, g6L120, g7L120, g23L120, g24L120, g26L120, ou9, ou13, ou26, ou30, ou106, ou107, lE⟩
               have hvy := hvy0.le lE
               have hvm := hvm0.le lE
               try simp only [g5L120, g6L120, g7L120, g23L120, g24L120, g26L120]
               refine ob_i (vInt_lss _ _ _) ?_
               refine cnd_d (fun hg121 => ?_) (fun hg121 => ?_)
               ·skip
                have ti := hg121
                have f4 := sw_at (a := la) (b := lb) (n := n) (i := i) (by omega) (by omega) (by omega)
                refine ob_i (ou106.sl.ix (by omega) (by omega)) ?_
                refine ob_i (ou106.sl.ld 0 (by omega) (by omega)) ?_
                refine ob_i (ou9.sl.ix (by omega) (by omega)) ?_
                refine ob_i (ou9.sl.ld 0 (by omega) (by omega)) ?_
                refine ob_i (vInt_eql _ _ _) ?_
                by_cases hc122 : (at_ 0 (swL la lb la.length) ((i : Int))) = (at_ 0 (la) ((i : Int)))
                ·skip
                 refine gop_e (decide_eq_true hc122) ?_
                 refine gop_rt ?_
                 refine gop_e (decide_eq_true hc122) ?_
                 refine gop_rt ?_
                 refine gop_e (decide_eq_true hc122) ?_
                 refine gop_rt ?_
                 refine ob_i (ou107.sl.ix (by omega) (by omega)) ?_
                 refine gop_e (decide_eq_true hc122) ?_
                 refine gop_rt ?_
                 refine ob_i (ou107.sl.ld 0 (by omega) (by omega)) ?_
                 refine gop_e (decide_eq_true hc122) ?_
                 refine gop_rt ?_
                 refine gop_e (decide_eq_true hc122) ?_
                 refine gop_rt ?_
                 refine gop_e (decide_eq_true hc122) ?_
                 refine gop_rt ?_
                 refine ob_i (ou13.sl.ix (by omega) (by omega)) ?_
                 refine gop_e (decide_eq_true hc122) ?_
                 refine gop_rt ?_
                 refine ob_i (ou13.sl.ld 0 (by omega) (by omega)) ?_
                 refine gop_e (decide_eq_true hc122) ?_
                 refine gop_rt ?_
                 refine ob_i (vInt_eql _ _ _) ?_
                 refine ob_i (vPick_et (decide_eq_true hc122) _ _) ?_
                 refine ob_i (ou106.sl.ix (by omega) (by omega)) ?_
                 refine ob_i (ou106.sl.ld 0 (by omega) (by omega)) ?_
                 refine ob_i (ou13.sl.ix (by omega) (by omega)) ?_
                 refine ob_i (ou13.sl.ld 0 (by omega) (by omega)) ?_
                 refine ob_i (vInt_eql _ _ _) ?_
                 by_cases hc123 : (at_ 0 (swL la lb la.length) ((i : Int))) = (at_ 0 (lb) ((i : Int)))
                 ·skip
                  refine gop_e (decide_eq_true hc123) ?_
                  refine gop_rt ?_
                  refine gop_e (decide_eq_true hc123) ?_
                  refine gop_rt ?_
                  refine gop_e (decide_eq_true hc123) ?_
                  refine gop_rt ?_
                  refine ob_i (ou107.sl.ix (by omega) (by omega)) ?_
                  refine gop_e (decide_eq_true hc123) ?_
                  refine gop_rt ?_
                  refine ob_i (ou107.sl.ld 0 (by omega) (by omega)) ?_
                  refine gop_e (decide_eq_true hc123) ?_
                  refine gop_rt ?_
                  refine gop_e (decide_eq_true hc123) ?_
                  refine gop_rt ?_
                  refine gop_e (decide_eq_true hc123) ?_
                  refine gop_rt ?_
                  refine ob_i (ou9.sl.ix (by omega) (by omega)) ?_
                  refine gop_e (decide_eq_true hc123) ?_
                  refine gop_rt ?_
                  refine ob_i (ou9.sl.ld 0 (by omega) (by omega)) ?_
                  refine gop_e (decide_eq_true hc123) ?_
                  refine gop_rt ?_
                  refine ob_i (vInt_eql _ _ _) ?_
                  refine ob_i (vPick_et (decide_eq_true hc123) _ _) ?_
                  refine ob_nd (fun hc124 => ?_) (fun hc124 => ?_)
                  ·skip
                   refine gop_sf ?_
                   refine gop_sf ?_
                   refine ob_i (vPick_f _ _) ?_
                   refine cnd_f1 ?_
                   by_cases hc125 : (at_ 0 (swL lb la lb.length) ((i : Int))) = (at_ 0 (la) ((i : Int)))
                   ·skip
                    refine gop_e (decide_eq_true hc125) ?_
                    refine gop_rt ?_
                    refine gop_e (decide_eq_true hc125) ?_
                    refine gop_rt ?_
                    refine ob_nd (fun hc126 => ?_) (fun hc126 => ?_)
                    ·skip
                     refine ob_i (vPick_et (decide_eq_true hc125) _ _) ?_
                     refine gop_sf ?_
                     refine gop_sf ?_
                     refine gop_sf ?_
                     refine gop_sf ?_
                     refine gop_sf ?_
                     refine ob_i (vPick_f _ _) ?_
                     refine gop_sf ?_
                     refine gop_sf ?_
                     refine gop_sf ?_
                     refine gop_sf ?_
                     refine gop_sf ?_
                     refine gop_sf ?_
                     refine gop_u ?_
                     refine gop_u ?_
                     refine gop_u ?_
                     refine gop_u ?_
                     refine gop_u ?_
                     refine gop_u ?_
                     refine gop_u ?_
                     refine gop_u ?_
                     refine gop_sf ?_
                     refine gop_sf ?_
                     refine gop_u ?_
                     refine gop_u ?_
                     refine gop_u ?_
                     refine gop_u ?_
                     refine gop_u ?_
                     refine gop_u ?_
                     refine gop_u ?_
                     refine gop_u ?_
                     refine gop_sf ?_
                     refine gop_sf ?_
                     refine gop_u ?_
                     refine gop_u ?_
                     refine gop_u ?_
                     refine gop_u ?_
                     refine gop_u ?_
                     refine gop_u ?_
                     refine gop_u ?_
                     refine gop_u ?_
                     refine gop_u ?_
                     refine gop_u ?_
                     refine gop_sf ?_
                     refine ob_i (vPick_f _ _) ?_
                     refine cnd_f1 ?_
                     refine ob_i (vInt_add (by omega) (by omega)) ?_
                     exact nxt (n.toNat - (i + 1)) (by omega) ⟨i + 1, rfl, by omega, g5L120, g6L120, g7L120, g23L120, g24L120, (congrArg (Value.int .i64) (by first | omega | rfl | (simp; done))), ou9, ou13, ou26, ou30, ou106, ou107, lE⟩
                    ·skip
                     refine ob_i (vPick_et (decide_eq_true hc125) _ _) ?_
                     refine gop_rt ?_
                     refine gop_rt ?_
                     refine gop_rt ?_
                     refine ob_i (ou9.sl.ix (by omega) (by omega)) ?_
                     refine gop_rt ?_
                     refine ob_i (ou9.sl.ld 0 (by omega) (by omega)) ?_
                     refine gop_rt ?_
                     refine ob_i (vInt_geq _ _ _) ?_
                     refine ob_i (vPick_t _ _) ?_
                     by_cases hc127 : 0 ≤ (at_ 0 (la) ((i : Int)))
                     ·skip
                      refine gop_e (decide_eq_true hc127) ?_
                      refine gop_rt ?_
                      refine gop_e (decide_eq_true hc127) ?_
                      refine gop_rt ?_
                      refine gop_e (decide_eq_true hc127) ?_
                      refine gop_rt ?_
                      refine ob_i (ou13.sl.ix (by omega) (by omega)) ?_
                      refine gop_e (decide_eq_true hc127) ?_
                      refine gop_rt ?_
                      refine ob_i (ou13.sl.ld 0 (by omega) (by omega)) ?_
                      refine gop_e (decide_eq_true hc127) ?_
                      refine gop_rt ?_
                      refine ob_i (vInt_geq _ _ _) ?_
                      refine gop_e (decide_eq_true hc127) ?_
                      refine gop_rt ?_
                      by_cases hc128 : 0 ≤ (at_ 0 (lb) ((i : Int)))
                      ·skip
                       refine gop_e (decide_eq_true hc128) ?_
                       refine gop_st ?_
                       refine gop_e (decide_eq_true hc128) ?_
                       refine gop_st ?_
                       refine gop_e (decide_eq_true hc128) ?_
                       refine gop_st ?_
                       refine gop_e (decide_eq_true hc128) ?_
                       refine gop_st ?_
                       refine gop_e (decide_eq_true hc128) ?_
                       refine gop_st ?_
                       refine gop_e (decide_eq_true hc128) ?_
                       refine gop_st ?_
                       refine gop_e (decide_eq_true hc128) ?_
                       refine gop_st ?_
                       refine gop_e (decide_eq_true hc128) ?_
                       refine gop_st ?_
                       refine gop_e (decide_eq_true hc127) ?_
                       refine gop_rt ?_
                       refine ob_i (vPick_et (decide_eq_true hc128) _ _) ?_
                       refine gop_e (decide_eq_true hc127) ?_
                       refine gop_rt ?_
                       refine gop_st ?_
                       refine gop_st ?_
                       refine gop_st ?_
                       refine gop_st ?_
                       refine gop_st ?_
                       refine gop_st ?_
                       refine gop_st ?_
                       refine gop_st ?_
                       refine gop_e (decide_eq_true hc127) ?_
                       refine gop_rt ?_
                       refine ob_i (vPick_t _ _) ?_
                       refine gop_e (decide_eq_true hc127) ?_
                       refine gop_rt ?_
                       refine gop_st ?_
                       refine gop_st ?_
                       refine gop_st ?_
                       refine gop_st ?_
                       refine gop_st ?_
                       refine gop_st ?_
                       refine gop_st ?_
                       refine gop_st ?_
                       refine gop_st ?_
                       refine gop_st ?_
                       refine gop_e (decide_eq_true hc127) ?_
                       refine gop_rt ?_
                       refine ob_i (vPick_t _ _) ?_
                       refine ob_i (vPick_et (decide_eq_true hc127) _ _) ?_
                       refine cnd_t1 ?_
                       refine retK (K := K) (v' := (.bool false)) rfl ?_
                       exfalso
                       first | contradiction | omega | (have g := hsp (by assumption); simp_all; done) | exact absurd (shr_quarter (by omega) (by omega) hslow) (by assumption)
                      ·skip
                       refine gop_e (decide_eq_false hc128) ?_
                       refine gop_rf ?_
                       refine gop_e (decide_eq_false hc128) ?_
                       refine gop_rf ?_
                       refine gop_e (decide_eq_false hc128) ?_
                       refine gop_rf ?_
                       refine ob_i (vInt_add (by omega) (by omega)) ?_
                       refine gop_e (decide_eq_false hc128) ?_
                       refine gop_rf ?_
                       refine gop_e (decide_eq_false hc128) ?_
                       refine gop_rf ?_
                       have rm129 := And.intro (Int.emod_nonneg ((i : Int) + 1) (b := n) (by omega)) (Int.emod_lt_of_pos ((i : Int) + 1) (b := n) (by omega))
                       refine ob_i (vInt_remN (by omega) (by omega)) ?_
                       refine gop_e (decide_eq_false hc128) ?_
                       refine gop_rf ?_
                       refine ob_i (ou9.sl.ix (by omega) (by omega)) ?_
                       refine gop_e (decide_eq_false hc128) ?_
                       refine gop_rf ?_
                       refine ob_i (ou9.sl.ld 0 (by omega) (by omega)) ?_
                       refine gop_e (decide_eq_false hc128) ?_
                       refine gop_rf ?_
                       refine ob_i (vInt_lss _ _ _) ?_
                       refine gop_e (decide_eq_true hc127) ?_
                       refine gop_rt ?_
                       refine ob_i (vPick_ef (decide_eq_false hc128) _ _) ?_
                       refine gop_e (decide_eq_true hc127) ?_
                       refine gop_rt ?_
                       by_cases hc130 : (at_ 0 (la) (((i : Int) + 1) % n)) < 0
                       ·skip
                        refine gop_e (decide_eq_true hc130) ?_
                        refine gop_st ?_
                        refine gop_e (decide_eq_true hc130) ?_
                        refine gop_st ?_
                        refine gop_e (decide_eq_true hc130) ?_
                        refine gop_st ?_
                        refine gop_e (decide_eq_true hc130) ?_
                        refine gop_st ?_
                        refine gop_e (decide_eq_true hc130) ?_
                        refine gop_st ?_
                        refine gop_e (decide_eq_true hc130) ?_
                        refine gop_st ?_
                        refine gop_e (decide_eq_true hc130) ?_
                        refine gop_st ?_
                        refine gop_e (decide_eq_true hc130) ?_
                        refine gop_st ?_
                        refine gop_e (decide_eq_true hc127) ?_
                        refine gop_rt ?_
                        refine ob_i (vPick_et (decide_eq_true hc130) _ _) ?_
                        refine gop_e (decide_eq_true hc127) ?_
                        refine gop_rt ?_
                        refine gop_st ?_
                        refine gop_st ?_
                        refine gop_st ?_
                        refine gop_st ?_
                        refine gop_st ?_
                        refine gop_st ?_
                        refine gop_st ?_
                        refine gop_st ?_
                        refine gop_st ?_
                        refine gop_st ?_
                        refine gop_e (decide_eq_true hc127) ?_
                        refine gop_rt ?_
                        refine ob_i (vPick_t _ _) ?_
                        refine ob_i (vPick_et (decide_eq_true hc127) _ _) ?_
                        refine cnd_t1 ?_
                        refine retK (K := K) (v' := (.bool false)) rfl ?_
                        exfalso
                        first | contradiction | omega | (have g := hsp (by assumption); simp_all; done) | exact absurd (shr_quarter (by omega) (by omega) hslow) (by assumption)
                       ·skip
                        refine gop_e (decide_eq_false hc130) ?_
                        refine gop_rf ?_
                        refine gop_e (decide_eq_false hc130) ?_
                        refine gop_rf ?_
                        refine gop_e (decide_eq_false hc130) ?_
                        refine gop_rf ?_
                        refine ob_i (vInt_add (by omega) (by omega)) ?_
                        refine gop_e (decide_eq_false hc130) ?_
                        refine gop_rf ?_
                        refine gop_e (decide_eq_false hc130) ?_
                        refine gop_rf ?_
                        have rm131 := And.intro (Int.emod_nonneg ((i : Int) + 1) (b := n) (by omega)) (Int.emod_lt_of_pos ((i : Int) + 1) (b := n) (by omega))
                        refine ob_i (vInt_remN (by omega) (by omega)) ?_
                        refine gop_e (decide_eq_false hc130) ?_
                        refine gop_rf ?_
                        refine ob_i (ou13.sl.ix (by omega) (by omega)) ?_
                        refine gop_e (decide_eq_false hc130) ?_
                        refine gop_rf ?_
                        refine ob_i (ou13.sl.ld 0 (by omega) (by omega)) ?_
                        refine gop_e (decide_eq_false hc130) ?_
                        refine gop_rf ?_
                        refine ob_i (vInt_geq _ _ _) ?_
                        refine gop_e (decide_eq_true hc127) ?_
                        refine gop_rt ?_
                        refine ob_i (vPick_ef (decide_eq_false hc130) _ _) ?_
                        refine gop_e (decide_eq_true hc127) ?_
                        refine gop_rt ?_
                        by_cases hc132 : 0 ≤ (at_ 0 (lb) (((i : Int) + 1) % n))
                        ·skip
                         refine gop_e (decide_eq_true hc132) ?_
                         refine gop_st ?_
                         refine gop_e (decide_eq_true hc132) ?_
                         refine gop_st ?_
                         refine gop_e (decide_eq_true hc132) ?_
                         refine gop_st ?_
                         refine gop_e (decide_eq_true hc132) ?_
                         refine gop_st ?_
                         refine gop_e (decide_eq_true hc132) ?_
                         refine gop_st ?_
                         refine gop_e (decide_eq_true hc132) ?_
                         refine gop_st ?_
                         refine gop_e (decide_eq_true hc132) ?_
                         refine gop_st ?_
                         refine gop_e (decide_eq_true hc132) ?_
                         refine gop_st ?_
                         refine gop_e (decide_eq_true hc132) ?_
                         refine gop_st ?_
                         refine gop_e (decide_eq_true hc132) ?_
                         refine gop_st ?_
                         refine gop_e (decide_eq_true hc127) ?_
                         refine gop_rt ?_
                         refine ob_i (vPick_et (decide_eq_true hc132) _ _) ?_
                         refine ob_i (vPick_et (decide_eq_true hc127) _ _) ?_
                         refine cnd_t1 ?_
                         refine retK (K := K) (v' := (.bool false)) rfl ?_
                         exfalso
                         first | contradiction | omega | (have g := hsp (by assumption); simp_all; done) | exact absurd (shr_quarter (by omega) (by omega) hslow) (by assumption)
                        ·skip
                         refine gop_e (decide_eq_false hc132) ?_
                         refine gop_rf ?_
                         refine gop_e (decide_eq_false hc132) ?_
                         refine gop_rf ?_
                         refine gop_e (decide_eq_false hc132) ?_
                         refine gop_rf ?_
                         refine gop_e (decide_eq_false hc132) ?_
                         refine gop_rf ?_
                         refine ob_i (vInt_add (by omega) (by omega)) ?_
                         refine gop_e (decide_eq_false hc132) ?_
                         refine gop_rf ?_
                         refine ob_i (vInt_sub (by omega) (by omega)) ?_
                         refine gop_e (decide_eq_false hc132) ?_
                         refine gop_rf ?_
                         refine gop_e (decide_eq_false hc132) ?_
                         refine gop_rf ?_
                         have rm133 := And.intro (Int.emod_nonneg (((i : Int) + n) - 1) (b := n) (by omega)) (Int.emod_lt_of_pos (((i : Int) + n) - 1) (b := n) (by omega))
                         refine ob_i (vInt_remN (by omega) (by omega)) ?_
                         refine gop_e (decide_eq_false hc132) ?_
                         refine gop_rf ?_
                         refine ob_i (ou13.sl.ix (by omega) (by omega)) ?_
                         refine gop_e (decide_eq_false hc132) ?_
                         refine gop_rf ?_
                         refine ob_i (ou13.sl.ld 0 (by omega) (by omega)) ?_
                         refine gop_e (decide_eq_false hc132) ?_
                         refine gop_rf ?_
                         refine ob_i (vInt_geq _ _ _) ?_
                         refine gop_e (decide_eq_true hc127) ?_
                         refine gop_rt ?_
                         refine ob_i (vPick_ef (decide_eq_false hc132) _ _) ?_
                         refine ob_i (vPick_et (decide_eq_true hc127) _ _) ?_
                         refine cnd_d (fun hg134 => ?_) (fun hg134 => ?_)
                         ·skip
                          refine retK (K := K) (v' := (.bool false)) rfl ?_
                          exfalso
                          first | contradiction | omega | (have g := hsp (by assumption); simp_all; done) | exact absurd (shr_quarter (by omega) (by omega) hslow) (by assumption)
                         ·skip
                          refine ob_i (vInt_add (by omega) (by omega)) ?_
                          exact nxt (n.toNat - (i + 1)) (by omega) ⟨i + 1, rfl, by omega, g5L120, g6L120, g7L120, g23L120, g24L120, (congrArg (Value.int .i64) (by first | omega | rfl | (simp; done))), ou9, ou13, ou26, ou30, ou106, ou107, lE⟩
                     ·skip
                      refine gop_e (decide_eq_false hc127) ?_
                      refine gop_sf ?_
                      refine gop_e (decide_eq_false hc127) ?_
                      refine gop_sf ?_
                      refine gop_e (decide_eq_false hc127) ?_
                      refine gop_sf ?_
                      refine gop_e (decide_eq_false hc127) ?_
                      refine gop_sf ?_
                      refine gop_e (decide_eq_false hc127) ?_
                      refine gop_sf ?_
                      refine gop_e (decide_eq_false hc127) ?_
                      refine gop_sf ?_
                      refine gop_u ?_
                      refine gop_u ?_
                      refine gop_u ?_
                      refine gop_u ?_
                      refine gop_u ?_
                      refine gop_u ?_
                      refine gop_u ?_
                      refine gop_u ?_
                      refine gop_e (decide_eq_false hc127) ?_
                      refine gop_sf ?_
                      refine gop_e (decide_eq_false hc127) ?_
                      refine gop_sf ?_
                      refine gop_u ?_
                      refine gop_u ?_
                      refine gop_u ?_
                      refine gop_u ?_
                      refine gop_u ?_
                      refine gop_u ?_
                      refine gop_u ?_
                      refine gop_u ?_
                      refine gop_e (decide_eq_false hc127) ?_
                      refine gop_sf ?_
                      refine gop_e (decide_eq_false hc127) ?_
                      refine gop_sf ?_
                      refine gop_u ?_
                      refine gop_u ?_
                      refine gop_u ?_
                      refine gop_u ?_
                      refine gop_u ?_
                      refine gop_u ?_
                      refine gop_u ?_
                      refine gop_u ?_
                      refine gop_u ?_
                      refine gop_u ?_
                      refine gop_e (decide_eq_false hc127) ?_
                      refine gop_sf ?_
                      refine ob_i (vPick_ef (decide_eq_false hc127) _ _) ?_
                      refine cnd_f1 ?_
                      refine ob_i (vInt_add (by omega) (by omega)) ?_
                      exact nxt (n.toNat - (i + 1)) (by omega) ⟨i + 1, rfl, by omega, g5L120, g6L120, g7L120, g23L120, g24L120, (congrArg (Value.int .i64) (by first | omega | rfl | (simp; done))), ou9, ou13, ou26, ou30, ou106, ou107, lE⟩
                   ·skip
                    refine gop_e (decide_eq_false hc125) ?_
                    refine gop_sf ?_
                    refine gop_e (decide_eq_false hc125) ?_
                    refine gop_sf ?_
                    refine ob_i (vPick_ef (decide_eq_false hc125) _ _) ?_
                    refine gop_sf ?_
                    refine gop_sf ?_
                    refine gop_sf ?_
                    refine gop_sf ?_
                    refine gop_sf ?_
                    refine ob_i (vPick_f _ _) ?_
                    refine gop_sf ?_
                    refine gop_sf ?_
                    refine gop_sf ?_
                    refine gop_sf ?_
                    refine gop_sf ?_
                    refine gop_sf ?_
                    refine gop_u ?_
                    refine gop_u ?_
                    refine gop_u ?_
                    refine gop_u ?_
                    refine gop_u ?_
                    refine gop_u ?_
                    refine gop_u ?_
                    refine gop_u ?_
                    refine gop_sf ?_
                    refine gop_sf ?_
                    refine gop_u ?_
                    refine gop_u ?_
                    refine gop_u ?_
                    refine gop_u ?_
                    refine gop_u ?_
                    refine gop_u ?_
                    refine gop_u ?_
                    refine gop_u ?_
                    refine gop_sf ?_
                    refine gop_sf ?_
                    refine gop_u ?_
                    refine gop_u ?_
                    refine gop_u ?_
                    refine gop_u ?_
                    refine gop_u ?_
                    refine gop_u ?_
                    refine gop_u ?_
                    refine gop_u ?_
                    refine gop_u ?_
                    refine gop_u ?_
                    refine gop_sf ?_
                    refine ob_i (vPick_f _ _) ?_
                    refine cnd_f1 ?_
                    refine ob_i (vInt_add (by omega) (by omega)) ?_
                    exact nxt (n.toNat - (i + 1)) (by omega) ⟨i + 1, rfl, by omega, g5L120, g6L120, g7L120, g23L120, g24L120, (congrArg (Value.int .i64) (by first | omega | rfl | (simp; done))), ou9, ou13, ou26, ou30, ou106, ou107, lE⟩
                  ·skip
                   refine gop_rt ?_
                   refine gop_rt ?_
                   refine ob_nd (fun hc135 => ?_) (fun hc135 => ?_)
                   ·skip
                    refine ob_i (vPick_t _ _) ?_
                    refine cnd_f1 ?_
                    by_cases hc136 : (at_ 0 (swL lb la lb.length) ((i : Int))) = (at_ 0 (la) ((i : Int)))
                    ·skip
                     refine gop_e (decide_eq_true hc136) ?_
                     refine gop_rt ?_
                     refine gop_e (decide_eq_true hc136) ?_
                     refine gop_rt ?_
                     refine ob_nd (fun hc137 => ?_) (fun hc137 => ?_)
                     ·skip
                      refine ob_i (vPick_et (decide_eq_true hc136) _ _) ?_
                      refine gop_sf ?_
                      refine gop_sf ?_
                      refine gop_sf ?_
                      refine gop_sf ?_
                      refine gop_sf ?_
                      refine ob_i (vPick_f _ _) ?_
                      refine gop_sf ?_
                      refine gop_sf ?_
                      refine gop_sf ?_
                      refine gop_sf ?_
                      refine gop_sf ?_
                      refine gop_sf ?_
                      refine gop_u ?_
                      refine gop_u ?_
                      refine gop_u ?_
                      refine gop_u ?_
                      refine gop_u ?_
                      refine gop_u ?_
                      refine gop_u ?_
                      refine gop_u ?_
                      refine gop_sf ?_
                      refine gop_sf ?_
                      refine gop_u ?_
                      refine gop_u ?_
                      refine gop_u ?_
                      refine gop_u ?_
                      refine gop_u ?_
                      refine gop_u ?_
                      refine gop_u ?_
                      refine gop_u ?_
                      refine gop_sf ?_
                      refine gop_sf ?_
                      refine gop_u ?_
                      refine gop_u ?_
                      refine gop_u ?_
                      refine gop_u ?_
                      refine gop_u ?_
                      refine gop_u ?_
                      refine gop_u ?_
                      refine gop_u ?_
                      refine gop_u ?_
                      refine gop_u ?_
                      refine gop_sf ?_
                      refine ob_i (vPick_f _ _) ?_
                      refine cnd_f1 ?_
                      refine ob_i (vInt_add (by omega) (by omega)) ?_
                      exact nxt (n.toNat - (i + 1)) (by omega) ⟨i + 1, rfl, by omega, g5L120, g6L120, g7L120, g23L120, g24L120, (congrArg (Value.int .i64) (by first | omega | rfl | (simp; done))), ou9, ou13, ou26, ou30, ou106, ou107, lE⟩
                     ·skip
                      refine ob_i (vPick_et (decide_eq_true hc136) _ _) ?_
                      refine gop_rt ?_
                      refine gop_rt ?_
                      refine gop_rt ?_
                      refine ob_i (ou9.sl.ix (by omega) (by omega)) ?_
                      refine gop_rt ?_
                      refine ob_i (ou9.sl.ld 0 (by omega) (by omega)) ?_
                      refine gop_rt ?_
                      refine ob_i (vInt_geq _ _ _) ?_
                      refine ob_i (vPick_t _ _) ?_
                      by_cases hc138 : 0 ≤ (at_ 0 (la) ((i : Int)))
                      ·skip
                       refine gop_e (decide_eq_true hc138) ?_
                       refine gop_rt ?_
                       refine gop_e (decide_eq_true hc138) ?_
                       refine gop_rt ?_
                       refine gop_e (decide_eq_true hc138) ?_
                       refine gop_rt ?_
                       refine ob_i (ou13.sl.ix (by omega) (by omega)) ?_
                       refine gop_e (decide_eq_true hc138) ?_
                       refine gop_rt ?_
                       refine ob_i (ou13.sl.ld 0 (by omega) (by omega)) ?_
                       refine gop_e (decide_eq_true hc138) ?_
                       refine gop_rt ?_
                       refine ob_i (vInt_geq _ _ _) ?_
                       refine gop_e (decide_eq_true hc138) ?_
                       refine gop_rt ?_
                       by_cases hc139 : 0 ≤ (at_ 0 (lb) ((i : Int)))
                       ·skip
                        refine gop_e (decide_eq_true hc139) ?_
                        refine gop_st ?_
                        refine gop_e (decide_eq_true hc139) ?_
                        refine gop_st ?_
                        refine gop_e (decide_eq_true hc139) ?_
                        refine gop_st ?_
                        refine gop_e (decide_eq_true hc139) ?_
                        refine gop_st ?_
                        refine gop_e (decide_eq_true hc139) ?_
                        refine gop_st ?_
                        refine gop_e (decide_eq_true hc139) ?_
                        refine gop_st ?_
                        refine gop_e (decide_eq_true hc139) ?_
                        refine gop_st ?_
                        refine gop_e (decide_eq_true hc139) ?_
                        refine gop_st ?_
                        refine gop_e (decide_eq_true hc138) ?_
                        refine gop_rt ?_
                        refine ob_i (vPick_et (decide_eq_true hc139) _ _) ?_
                        refine gop_e (decide_eq_true hc138) ?_
                        refine gop_rt ?_
                        refine gop_st ?_
                        refine gop_st ?_
                        refine gop_st ?_
                        refine gop_st ?_
                        refine gop_st ?_
                        refine gop_st ?_
                        refine gop_st ?_
                        refine gop_st ?_
                        refine gop_e (decide_eq_true hc138) ?_
                        refine gop_rt ?_
                        refine ob_i (vPick_t _ _) ?_
                        refine gop_e (decide_eq_true hc138) ?_
                        refine gop_rt ?_
                        refine gop_st ?_
                        refine gop_st ?_
                        refine gop_st ?_
                        refine gop_st ?_
                        refine gop_st ?_
                        refine gop_st ?_
                        refine gop_st ?_
                        refine gop_st ?_
                        refine gop_st ?_
                        refine gop_st ?_
                        refine gop_e (decide_eq_true hc138) ?_
                        refine gop_rt ?_
                        refine ob_i (vPick_t _ _) ?_
                        refine ob_i (vPick_et (decide_eq_true hc138) _ _) ?_
                        refine cnd_t1 ?_
                        refine retK (K := K) (v' := (.bool false)) rfl ?_
                        exfalso
                        first | contradiction | omega | (have g := hsp (by assumption); simp_all; done) | exact absurd (shr_quarter (by omega) (by omega) hslow) (by assumption)
                       ·skip
                        refine gop_e (decide_eq_false hc139) ?_
                        refine gop_rf ?_
                        refine gop_e (decide_eq_false hc139) ?_
                        refine gop_rf ?_
                        refine gop_e (decide_eq_false hc139) ?_
                        refine gop_rf ?_
                        refine ob_i (vInt_add (by omega) (by omega)) ?_
                        refine gop_e (decide_eq_false hc139) ?_
                        refine gop_rf ?_
                        refine gop_e (decide_eq_false hc139) ?_
                        refine gop_rf ?_
                        have rm140 := And.intro (Int.emod_nonneg ((i : Int) + 1) (b := n) (by omega)) (Int.emod_lt_of_pos ((i : Int) + 1) (b := n) (by omega))
                        refine ob_i (vInt_remN (by omega) (by omega)) ?_
                        refine gop_e (decide_eq_false hc139) ?_
                        refine gop_rf ?_
                        refine ob_i (ou9.sl.ix (by omega) (by omega)) ?_
                        refine gop_e (decide_eq_false hc139) ?_
                        refine gop_rf ?_
                        refine ob_i (ou9.sl.ld 0 (by omega) (by omega)) ?_
                        refine gop_e (decide_eq_false hc139) ?_
                        refine gop_rf ?_
                        refine ob_i (vInt_lss _ _ _) ?_
                        refine gop_e (decide_eq_true hc138) ?_
                        refine gop_rt ?_
                        refine ob_i (vPick_ef (decide_eq_false hc139) _ _) ?_
                        refine gop_e (decide_eq_true hc138) ?_
                        refine gop_rt ?_
                        by_cases hc141 : (at_ 0 (la) (((i : Int) + 1) % n)) < 0
                        ·skip
                         refine gop_e (decide_eq_true hc141) ?_
                         refine gop_st ?_
                         refine gop_e (decide_eq_true hc141) ?_
                         refine gop_st ?_
                         refine gop_e (decide_eq_true hc141) ?_
                         refine gop_st ?_
                         refine gop_e (decide_eq_true hc141) ?_
                         refine gop_st ?_
                         refine gop_e (decide_eq_true hc141) ?_
                         refine gop_st ?_
                         refine gop_e (decide_eq_true hc141) ?_
                         refine gop_st ?_
                         refine gop_e (decide_eq_true hc141) ?_
                         refine gop_st ?_
                         refine gop_e (decide_eq_true hc141) ?_
                         refine gop_st ?_
                         refine gop_e (decide_eq_true hc138) ?_
                         refine gop_rt ?_
                         refine ob_i (vPick_et (decide_eq_true hc141) _ _) ?_
                         refine gop_e (decide_eq_true hc138) ?_
                         refine gop_rt ?_
                         refine gop_st ?_
                         refine gop_st ?_
                         refine gop_st ?_
                         refine gop_st ?_
                         refine gop_st ?_
                         refine gop_st ?_
                         refine gop_st ?_
                         refine gop_st ?_
                         refine gop_st ?_
                         refine gop_st ?_
                         refine gop_e (decide_eq_true hc138) ?_
                         refine gop_rt ?_
                         refine ob_i (vPick_t _ _) ?_
                         refine ob_i (vPick_et (decide_eq_true hc138) _ _) ?_
                         refine cnd_t1 ?_
                         refine retK (K := K) (v' := (.bool false)) rfl ?_
                         exfalso
                         first | contradiction | omega | (have g := hsp (by assumption); simp_all; done) | exact absurd (shr_quarter (by omega) (by omega) hslow) (by assumption)
                        ·skip
                         refine gop_e (decide_eq_false hc141) ?_
                         refine gop_rf ?_
                         refine gop_e (decide_eq_false hc141) ?_
                         refine gop_rf ?_
                         refine gop_e (decide_eq_false hc141) ?_
                         refine gop_rf ?_
                         refine ob_i (vInt_add (by omega) (by omega)) ?_
                         refine gop_e (decide_eq_false hc141) ?_
                         refine gop_rf ?_
                         refine gop_e (decide_eq_false hc141) ?_
                         refine gop_rf ?_
                         have rm142 := And.intro (Int.emod_nonneg ((i : Int) + 1) (b := n) (by omega)) (Int.emod_lt_of_pos ((i : Int) + 1) (b := n) (by omega))
                         refine ob_i (vInt_remN (by omega) (by omega)) ?_
                         refine gop_e (decide_eq_false hc141) ?_
                         refine gop_rf ?_
                         refine ob_i (ou13.sl.ix (by omega) (by omega)) ?_
                         refine gop_e (decide_eq_false hc141) ?_
                         refine gop_rf ?_
                         refine ob_i (ou13.sl.ld 0 (by omega) (by omega)) ?_
                         refine gop_e (decide_eq_false hc141) ?_
                         refine gop_rf ?_
                         refine ob_i (vInt_geq _ _ _) ?_
                         refine gop_e (decide_eq_true hc138) ?_
                         refine gop_rt ?_
                         refine ob_i (vPick_ef (decide_eq_false hc141) _ _) ?_
                         refine gop_e (decide_eq_true hc138) ?_
                         refine gop_rt ?_
                         by_cases hc143 : 0 ≤ (at_ 0 (lb) (((i : Int) + 1) % n))
                         ·skip
                          refine gop_e (decide_eq_true hc143) ?_
                          refine gop_st ?_
                          refine gop_e (decide_eq_true hc143) ?_
                          refine gop_st ?_
                          refine gop_e (decide_eq_true hc143) ?_
                          refine gop_st ?_
                          refine gop_e (decide_eq_true hc143) ?_
                          refine gop_st ?_
                          refine gop_e (decide_eq_true hc143) ?_
                          refine gop_st ?_
                          refine gop_e (decide_eq_true hc143) ?_
                          refine gop_st ?_
                          refine gop_e (decide_eq_true hc143) ?_
                          refine gop_st ?_
                          refine gop_e (decide_eq_true hc143) ?_
                          refine gop_st ?_
                          refine gop_e (decide_eq_true hc143) ?_
                          refine gop_st ?_
                          refine gop_e (decide_eq_true hc143) ?_
                          refine gop_st ?_
                          refine gop_e (decide_eq_true hc138) ?_
                          refine gop_rt ?_
                          refine ob_i (vPick_et (decide_eq_true hc143) _ _) ?_
                          refine ob_i (vPick_et (decide_eq_true hc138) _ _) ?_
                          refine cnd_t1 ?_
                          refine retK (K := K) (v' := (.bool false)) rfl ?_
                          exfalso
                          first | contradiction | omega | (have g := hsp (by assumption); simp_all; done) | exact absurd (shr_quarter (by omega) (by omega) hslow) (by assumption)
                         ·skip
                          refine gop_e (decide_eq_false hc143) ?_
                          refine gop_rf ?_
                          refine gop_e (decide_eq_false hc143) ?_
                          refine gop_rf ?_
                          refine gop_e (decide_eq_false hc143) ?_
                          refine gop_rf ?_
                          refine gop_e (decide_eq_false hc143) ?_
                          refine gop_rf ?_
                          refine ob_i (vInt_add (by omega) (by omega)) ?_
                          refine gop_e (decide_eq_false hc143) ?_
                          refine gop_rf ?_
                          refine ob_i (vInt_sub (by omega) (by omega)) ?_
                          refine gop_e (decide_eq_false hc143) ?_
                          refine gop_rf ?_
                          refine gop_e (decide_eq_false hc143) ?_
                          refine gop_rf ?_
                          have rm144 := And.intro (Int.emod_nonneg (((i : Int) + n) - 1) (b := n) (by omega)) (Int.emod_lt_of_pos (((i : Int) + n) - 1) (b := n) (by omega))
                          refine ob_i (vInt_remN (by omega) (by omega)) ?_
                          refine gop_e (decide_eq_false hc143) ?_
                          refine gop_rf ?_
                          refine ob_i (ou13.sl.ix (by omega) (by omega)) ?_
                          refine gop_e (decide_eq_false hc143) ?_
                          refine gop_rf ?_
                          refine ob_i (ou13.sl.ld 0 (by omega) (by omega)) ?_
                          refine gop_e (decide_eq_false hc143) ?_
                          refine gop_rf ?_
                          refine ob_i (vInt_geq _ _ _) ?_
                          refine gop_e (decide_eq_true hc138) ?_
                          refine gop_rt ?_
                          refine ob_i (vPick_ef (decide_eq_false hc143) _ _) ?_
                          refine ob_i (vPick_et (decide_eq_true hc138) _ _) ?_
                          refine cnd_d (fun hg145 => ?_) (fun hg145 => ?_)
                          ·skip
                           refine retK (K := K) (v' := (.bool false)) rfl ?_
                           exfalso
                           first | contradiction | omega | (have g := hsp (by assumption); simp_all; done) | exact absurd (shr_quarter (by omega) (by omega) hslow) (by assumption)
                          ·skip
                           refine ob_i (vInt_add (by omega) (by omega)) ?_
                           exact nxt (n.toNat - (i + 1)) (by omega) ⟨i + 1, rfl, by omega, g5L120, g6L120, g7L120, g23L120, g24L120, (congrArg (Value.int .i64) (by first | omega | rfl | (simp; done))), ou9, ou13, ou26, ou30, ou106, ou107, lE⟩
                      ·skip
                       refine gop_e (decide_eq_false hc138) ?_
                       refine gop_sf ?_
                       refine gop_e (decide_eq_false hc138) ?_
                       refine gop_sf ?_
                       refine gop_e (decide_eq_false hc138) ?_
                       refine gop_sf ?_
                       refine gop_e (decide_eq_false hc138) ?_
                       refine gop_sf ?_
                       refine gop_e (decide_eq_false hc138) ?_
                       refine gop_sf ?_
                       refine gop_e (decide_eq_false hc138) ?_
                       refine gop_sf ?_
                       refine gop_u ?_
                       refine gop_u ?_
                       refine gop_u ?_
                       refine gop_u ?_
                       refine gop_u ?_
                       refine gop_u ?_
                       refine gop_u ?_
                       refine gop_u ?_
                       refine gop_e (decide_eq_false hc138) ?_
                       refine gop_sf ?_
                       refine gop_e (decide_eq_false hc138) ?_
                       refine gop_sf ?_
                       refine gop_u ?_
                       refine gop_u ?_
                       refine gop_u ?_
                       refine gop_u ?_
                       refine gop_u ?_
                       refine gop_u ?_
                       refine gop_u ?_
                       refine gop_u ?_
                       refine gop_e (decide_eq_false hc138) ?_
                       refine gop_sf ?_
                       refine gop_e (decide_eq_false hc138) ?_
                       refine gop_sf ?_
                       refine gop_u ?_
                       refine gop_u ?_
                       refine gop_u ?_
                       refine gop_u ?_
                       refine gop_u ?_
                       refine gop_u ?_
                       refine gop_u ?_
                       refine gop_u ?_
                       refine gop_u ?_
                       refine gop_u ?_
                       refine gop_e (decide_eq_false hc138) ?_
                       refine gop_sf ?_
                       refine ob_i (vPick_ef (decide_eq_false hc138) _ _) ?_
                       refine cnd_f1 ?_
                       refine ob_i (vInt_add (by omega) (by omega)) ?_
                       exact nxt (n.toNat - (i + 1)) (by omega) ⟨i + 1, rfl, by omega, g5L120, g6L120, g7L120, g23L120, g24L120, (congrArg (Value.int .i64) (by first | omega | rfl | (simp; done))), ou9, ou13, ou26, ou30, ou106, ou107, lE⟩
                    ·skip
                     refine gop_e (decide_eq_false hc136) ?_
                     refine gop_sf ?_
                     refine gop_e (decide_eq_false hc136) ?_
                     refine gop_sf ?_
                     refine ob_i (vPick_ef (decide_eq_false hc136) _ _) ?_
                     refine gop_sf ?_
                     refine gop_sf ?_
                     refine gop_sf ?_
                     refine gop_sf ?_
                     refine gop_sf ?_
                     refine ob_i (vPick_f _ _) ?_
                     refine gop_sf ?_
                     refine gop_sf ?_
                     refine gop_sf ?_
                     refine gop_sf ?_
                     refine gop_sf ?_
                     refine gop_sf ?_
                     refine gop_u ?_
                     refine gop_u ?_
                     refine gop_u ?_
                     refine gop_u ?_
                     refine gop_u ?_
                     refine gop_u ?_
                     refine gop_u ?_
                     refine gop_u ?_
                     refine gop_sf ?_
                     refine gop_sf ?_
                     refine gop_u ?_
                     refine gop_u ?_
                     refine gop_u ?_
                     refine gop_u ?_
                     refine gop_u ?_
                     refine gop_u ?_
                     refine gop_u ?_
                     refine gop_u ?_
                     refine gop_sf ?_
                     refine gop_sf ?_
                     refine gop_u ?_
                     refine gop_u ?_
                     refine gop_u ?_
                     refine gop_u ?_
                     refine gop_u ?_
                     refine gop_u ?_
                     refine gop_u ?_
                     refine gop_u ?_
                     refine gop_u ?_
                     refine gop_u ?_
                     refine gop_sf ?_
                     refine ob_i (vPick_f _ _) ?_
                     refine cnd_f1 ?_
                     refine ob_i (vInt_add (by omega) (by omega)) ?_
                     exact nxt (n.toNat - (i + 1)) (by omega) ⟨i + 1, rfl, by omega, g5L120, g6L120, g7L120, g23L120, g24L120, (congrArg (Value.int .i64) (by first | omega | rfl | (simp; done))), ou9, ou13, ou26, ou30, ou106, ou107, lE⟩
                   ·skip
                    refine ob_i (vPick_t _ _) ?_
                    refine cnd_t1 ?_
                    refine retK (K := K) (v' := (.bool false)) rfl ?_
                    exfalso
                    first | contradiction | omega | (have g := hsp (by assumption); simp_all; done) | exact absurd (shr_quarter (by omega) (by omega) hslow) (by assumption)
                 ·skip
                  refine gop_e (decide_eq_false hc123) ?_
                  refine gop_sf ?_
                  refine gop_e (decide_eq_false hc123) ?_
                  refine gop_sf ?_
                  refine gop_e (decide_eq_false hc123) ?_
                  refine gop_sf ?_
                  refine gop_e (decide_eq_false hc123) ?_
                  refine gop_sf ?_
                  refine gop_e (decide_eq_false hc123) ?_
                  refine gop_sf ?_
                  refine gop_e (decide_eq_false hc123) ?_
                  refine gop_sf ?_
                  refine gop_e (decide_eq_false hc123) ?_
                  refine gop_sf ?_
                  refine gop_e (decide_eq_false hc123) ?_
                  refine gop_sf ?_
                  refine gop_e (decide_eq_false hc123) ?_
                  refine gop_sf ?_
                  refine ob_i (vPick_ef (decide_eq_false hc123) _ _) ?_
                  refine ob_nd (fun hc146 => ?_) (fun hc146 => ?_)
                  ·skip
                   refine gop_sf ?_
                   refine gop_sf ?_
                   refine ob_i (vPick_f _ _) ?_
                   refine cnd_f1 ?_
                   refine gop_sf ?_
                   refine gop_sf ?_
                   refine ob_i (vPick_f _ _) ?_
                   refine gop_sf ?_
                   refine gop_sf ?_
                   refine gop_sf ?_
                   refine gop_sf ?_
                   refine gop_sf ?_
                   refine ob_i (vPick_f _ _) ?_
                   refine gop_sf ?_
                   refine gop_sf ?_
                   refine gop_sf ?_
                   refine gop_sf ?_
                   refine gop_sf ?_
                   refine gop_sf ?_
                   refine gop_u ?_
                   refine gop_u ?_
                   refine gop_u ?_
                   refine gop_u ?_
                   refine gop_u ?_
                   refine gop_u ?_
                   refine gop_u ?_
                   refine gop_u ?_
                   refine gop_sf ?_
                   refine gop_sf ?_
                   refine gop_u ?_
                   refine gop_u ?_
                   refine gop_u ?_
                   refine gop_u ?_
                   refine gop_u ?_
                   refine gop_u ?_
                   refine gop_u ?_
                   refine gop_u ?_
                   refine gop_sf ?_
                   refine gop_sf ?_
                   refine gop_u ?_
                   refine gop_u ?_
                   refine gop_u ?_
                   refine gop_u ?_
                   refine gop_u ?_
                   refine gop_u ?_
                   refine gop_u ?_
                   refine gop_u ?_
                   refine gop_u ?_
                   refine gop_u ?_
                   refine gop_sf ?_
                   refine ob_i (vPick_f _ _) ?_
                   refine cnd_f1 ?_
                   refine ob_i (vInt_add (by omega) (by omega)) ?_
                   exact nxt (n.toNat - (i + 1)) (by omega) ⟨i + 1, rfl, by omega, g5L120, g6L120, g7L120, g23L120, g24L120, (congrArg (Value.int .i64) (by first | omega | rfl | (simp; done))), ou9, ou13, ou26, ou30, ou106, ou107, lE⟩
                  ·skip
                   refine gop_rt ?_
                   refine gop_rt ?_
                   refine ob_i (a := .bool true) rfl ?_
                   refine ob_i (vPick_t _ _) ?_
                   refine cnd_t1 ?_
                   refine retK (K := K) (v' := (.bool false)) rfl ?_
                   exfalso
                   first | contradiction | omega | (have g := hsp (by assumption); simp_all; done) | exact absurd (shr_quarter (by omega) (by omega) hslow) (by assumption)
                ·skip
                 refine gop_e (decide_eq_false hc122) ?_
                 refine gop_sf ?_
                 refine gop_e (decide_eq_false hc122) ?_
                 refine gop_sf ?_
                 refine gop_e (decide_eq_false hc122) ?_
                 refine gop_sf ?_
                 refine gop_e (decide_eq_false hc122) ?_
                 refine gop_sf ?_
                 refine gop_e (decide_eq_false hc122) ?_
                 refine gop_sf ?_
                 refine gop_e (decide_eq_false hc122) ?_
                 refine gop_sf ?_
                 refine gop_e (decide_eq_false hc122) ?_
                 refine gop_sf ?_
                 refine gop_e (decide_eq_false hc122) ?_
                 refine gop_sf ?_
                 refine gop_e (decide_eq_false hc122) ?_
                 refine gop_sf ?_
                 refine ob_i (vPick_ef (decide_eq_false hc122) _ _) ?_
                 refine ob_i (ou106.sl.ix (by omega) (by omega)) ?_
                 refine ob_i (ou106.sl.ld 0 (by omega) (by omega)) ?_
                 refine ob_i (ou13.sl.ix (by omega) (by omega)) ?_
                 refine ob_i (ou13.sl.ld 0 (by omega) (by omega)) ?_
                 refine ob_i (vInt_eql _ _ _) ?_
                 by_cases hc147 : (at_ 0 (swL la lb la.length) ((i : Int))) = (at_ 0 (lb) ((i : Int)))
                 ·skip
                  refine gop_e (decide_eq_true hc147) ?_
                  refine gop_rt ?_
                  refine gop_e (decide_eq_true hc147) ?_
                  refine gop_rt ?_
                  refine gop_e (decide_eq_true hc147) ?_
                  refine gop_rt ?_
                  refine ob_i (ou107.sl.ix (by omega) (by omega)) ?_
                  refine gop_e (decide_eq_true hc147) ?_
                  refine gop_rt ?_
                  refine ob_i (ou107.sl.ld 0 (by omega) (by omega)) ?_
                  refine gop_e (decide_eq_true hc147) ?_
                  refine gop_rt ?_
                  refine gop_e (decide_eq_true hc147) ?_
                  refine gop_rt ?_
                  refine gop_e (decide_eq_true hc147) ?_
                  refine gop_rt ?_
                  refine ob_i (ou9.sl.ix (by omega) (by omega)) ?_
                  refine gop_e (decide_eq_true hc147) ?_
                  refine gop_rt ?_
                  refine ob_i (ou9.sl.ld 0 (by omega) (by omega)) ?_
                  refine gop_e (decide_eq_true hc147) ?_
                  refine gop_rt ?_
                  refine ob_i (vInt_eql _ _ _) ?_
                  refine ob_i (vPick_et (decide_eq_true hc147) _ _) ?_
                  refine ob_i (a := .bool true) rfl ?_
                  refine gop_rt ?_
                  refine gop_rt ?_
                  refine ob_nd (fun hc148 => ?_) (fun hc148 => ?_)
                  ·skip
                   refine ob_i (vPick_t _ _) ?_
                   refine cnd_f1 ?_
                   by_cases hc149 : (at_ 0 (swL lb la lb.length) ((i : Int))) = (at_ 0 (la) ((i : Int)))
                   ·skip
                    refine gop_e (decide_eq_true hc149) ?_
                    refine gop_rt ?_
                    refine gop_e (decide_eq_true hc149) ?_
                    refine gop_rt ?_
                    refine ob_i (a := .bool true) rfl ?_
                    refine ob_i (vPick_et (decide_eq_true hc149) _ _) ?_
                    refine gop_rt ?_
                    refine gop_rt ?_
                    refine gop_rt ?_
                    refine ob_i (ou9.sl.ix (by omega) (by omega)) ?_
                    refine gop_rt ?_
                    refine ob_i (ou9.sl.ld 0 (by omega) (by omega)) ?_
                    refine gop_rt ?_
                    refine ob_i (vInt_geq _ _ _) ?_
                    refine ob_i (vPick_t _ _) ?_
                    by_cases hc150 : 0 ≤ (at_ 0 (la) ((i : Int)))
                    ·skip
                     refine gop_e (decide_eq_true hc150) ?_
                     refine gop_rt ?_
                     refine gop_e (decide_eq_true hc150) ?_
                     refine gop_rt ?_
                     refine gop_e (decide_eq_true hc150) ?_
                     refine gop_rt ?_
                     refine ob_i (ou13.sl.ix (by omega) (by omega)) ?_
                     refine gop_e (decide_eq_true hc150) ?_
                     refine gop_rt ?_
                     refine ob_i (ou13.sl.ld 0 (by omega) (by omega)) ?_
                     refine gop_e (decide_eq_true hc150) ?_
                     refine gop_rt ?_
                     refine ob_i (vInt_geq _ _ _) ?_
                     refine gop_e (decide_eq_true hc150) ?_
                     refine gop_rt ?_
                     by_cases hc151 : 0 ≤ (at_ 0 (lb) ((i : Int)))
                     ·skip
                      refine gop_e (decide_eq_true hc151) ?_
                      refine gop_st ?_
                      refine gop_e (decide_eq_true hc151) ?_
                      refine gop_st ?_
                      refine gop_e (decide_eq_true hc151) ?_
                      refine gop_st ?_
                      refine gop_e (decide_eq_true hc151) ?_
                      refine gop_st ?_
                      refine gop_e (decide_eq_true hc151) ?_
                      refine gop_st ?_
                      refine gop_e (decide_eq_true hc151) ?_
                      refine gop_st ?_
                      refine gop_e (decide_eq_true hc151) ?_
                      refine gop_st ?_
                      refine gop_e (decide_eq_true hc151) ?_
                      refine gop_st ?_
                      refine gop_e (decide_eq_true hc150) ?_
                      refine gop_rt ?_
                      refine ob_i (vPick_et (decide_eq_true hc151) _ _) ?_
                      refine gop_e (decide_eq_true hc150) ?_
                      refine gop_rt ?_
                      refine gop_st ?_
                      refine gop_st ?_
                      refine gop_st ?_
                      refine gop_st ?_
                      refine gop_st ?_
                      refine gop_st ?_
                      refine gop_st ?_
                      refine gop_st ?_
                      refine gop_e (decide_eq_true hc150) ?_
                      refine gop_rt ?_
                      refine ob_i (vPick_t _ _) ?_
                      refine gop_e (decide_eq_true hc150) ?_
                      refine gop_rt ?_
                      refine gop_st ?_
                      refine gop_st ?_
                      refine gop_st ?_
                      refine gop_st ?_
                      refine gop_st ?_
                      refine gop_st ?_
                      refine gop_st ?_
                      refine gop_st ?_
                      refine gop_st ?_
                      refine gop_st ?_
                      refine gop_e (decide_eq_true hc150) ?_
                      refine gop_rt ?_
                      refine ob_i (vPick_t _ _) ?_
                      refine ob_i (vPick_et (decide_eq_true hc150) _ _) ?_
                      refine cnd_t1 ?_
                      refine retK (K := K) (v' := (.bool false)) rfl ?_
                      exfalso
                      first | contradiction | omega | (have g := hsp (by assumption); simp_all; done) | exact absurd (shr_quarter (by omega) (by omega) hslow) (by assumption)
                     ·skip
                      refine gop_e (decide_eq_false hc151) ?_
                      refine gop_rf ?_
                      refine gop_e (decide_eq_false hc151) ?_
                      refine gop_rf ?_
                      refine gop_e (decide_eq_false hc151) ?_
                      refine gop_rf ?_
                      refine ob_i (vInt_add (by omega) (by omega)) ?_
                      refine gop_e (decide_eq_false hc151) ?_
                      refine gop_rf ?_
                      refine gop_e (decide_eq_false hc151) ?_
                      refine gop_rf ?_
                      have rm152 := And.intro (Int.emod_nonneg ((i : Int) + 1) (b := n) (by omega)) (Int.emod_lt_of_pos ((i : Int) + 1) (b := n) (by omega))
                      refine ob_i (vInt_remN (by omega) (by omega)) ?_
                      refine gop_e (decide_eq_false hc151) ?_
                      refine gop_rf ?_
                      refine ob_i (ou9.sl.ix (by omega) (by omega)) ?_
                      refine gop_e (decide_eq_false hc151) ?_
                      refine gop_rf ?_
                      refine ob_i (ou9.sl.ld 0 (by omega) (by omega)) ?_
                      refine gop_e (decide_eq_false hc151) ?_
                      refine gop_rf ?_
                      refine ob_i (vInt_lss _ _ _) ?_
                      refine gop_e (decide_eq_true hc150) ?_
                      refine gop_rt ?_
                      refine ob_i (vPick_ef (decide_eq_false hc151) _ _) ?_
                      refine gop_e (decide_eq_true hc150) ?_
                      refine gop_rt ?_
                      by_cases hc153 : (at_ 0 (la) (((i : Int) + 1) % n)) < 0
                      ·skip
                       refine gop_e (decide_eq_true hc153) ?_
                       refine gop_st ?_
                       refine gop_e (decide_eq_true hc153) ?_
                       refine gop_st ?_
                       refine gop_e (decide_eq_true hc153) ?_
                       refine gop_st ?_
                       refine gop_e (decide_eq_true hc153) ?_
                       refine gop_st ?_
                       refine gop_e (decide_eq_true hc153) ?_
                       refine gop_st ?_
                       refine gop_e (decide_eq_true hc153) ?_
                       refine gop_st ?_
                       refine gop_e (decide_eq_true hc153) ?_
                       refine gop_st ?_
                       refine gop_e (decide_eq_true hc153) ?_
                       refine gop_st ?_
                       refine gop_e (decide_eq_true hc150) ?_
                       refine gop_rt ?_
                       refine ob_i (vPick_et (decide_eq_true hc153) _ _) ?_
                       refine gop_e (decide_eq_true hc150) ?_
                       refine gop_rt ?_
                       refine gop_st ?_
                       refine gop_st ?_
                       refine gop_st ?_
                       refine gop_st ?_
                       refine gop_st ?_
                       refine gop_st ?_
                       refine gop_st ?_
                       refine gop_st ?_
                       refine gop_st ?_
                       refine gop_st ?_
                       refine gop_e (decide_eq_true hc150) ?_
                       refine gop_rt ?_
                       refine ob_i (vPick_t _ _) ?_
                       refine ob_i (vPick_et (decide_eq_true hc150) _ _) ?_
                       refine cnd_t1 ?_
                       refine retK (K := K) (v' := (.bool false)) rfl ?_
                       exfalso
                       first | contradiction | omega | (have g := hsp (by assumption); simp_all; done) | exact absurd (shr_quarter (by omega) (by omega) hslow) (by assumption)
                      ·skip
                       refine gop_e (decide_eq_false hc153) ?_
                       refine gop_rf ?_
                       refine gop_e (decide_eq_false hc153) ?_
                       refine gop_rf ?_
                       refine gop_e (decide_eq_false hc153) ?_
                       refine gop_rf ?_
                       refine ob_i (vInt_add (by omega) (by omega)) ?_
                       refine gop_e (decide_eq_false hc153) ?_
                       refine gop_rf ?_
                       refine gop_e (decide_eq_false hc153) ?_
                       refine gop_rf ?_
                       have rm154 := And.intro (Int.emod_nonneg ((i : Int) + 1) (b := n) (by omega)) (Int.emod_lt_of_pos ((i : Int) + 1) (b := n) (by omega))
                       refine ob_i (vInt_remN (by omega) (by omega)) ?_
                       refine gop_e (decide_eq_false hc153) ?_
                       refine gop_rf ?_
                       refine ob_i (ou13.sl.ix (by omega) (by omega)) ?_
                       refine gop_e (decide_eq_false hc153) ?_
                       refine gop_rf ?_
                       refine ob_i (ou13.sl.ld 0 (by omega) (by omega)) ?_
                       refine gop_e (decide_eq_false hc153) ?_
                       refine gop_rf ?_
                       refine ob_i (vInt_geq _ _ _) ?_
                       refine gop_e (decide_eq_true hc150) ?_
                       refine gop_rt ?_
                       refine ob_i (vPick_ef (decide_eq_false hc153) _ _) ?_
                       refine gop_e (decide_eq_true hc150) ?_
                       refine gop_rt ?_
                       by_cases hc155 : 0 ≤ (at_ 0 (lb) (((i : Int) + 1) % n))
                       ·skip
                        refine gop_e (decide_eq_true hc155) ?_
                        refine gop_st ?_
                        refine gop_e (decide_eq_true hc155) ?_
                        refine gop_st ?_
                        refine gop_e (decide_eq_true hc155) ?_
                        refine gop_st ?_
                        refine gop_e (decide_eq_true hc155) ?_
                        refine gop_st ?_
                        refine gop_e (decide_eq_true hc155) ?_
                        refine gop_st ?_
                        refine gop_e (decide_eq_true hc155) ?_
                        refine gop_st ?_
                        refine gop_e (decide_eq_true hc155) ?_
                        refine gop_st ?_
                        refine gop_e (decide_eq_true hc155) ?_
                        refine gop_st ?_
                        refine gop_e (decide_eq_true hc155) ?_
                        refine gop_st ?_
                        refine gop_e (decide_eq_true hc155) ?_
                        refine gop_st ?_
                        refine gop_e (decide_eq_true hc150) ?_
                        refine gop_rt ?_
                        refine ob_i (vPick_et (decide_eq_true hc155) _ _) ?_
                        refine ob_i (vPick_et (decide_eq_true hc150) _ _) ?_
                        refine cnd_t1 ?_
                        refine retK (K := K) (v' := (.bool false)) rfl ?_
                        exfalso
                        first | contradiction | omega | (have g := hsp (by assumption); simp_all; done) | exact absurd (shr_quarter (by omega) (by omega) hslow) (by assumption)
                       ·skip
                        refine gop_e (decide_eq_false hc155) ?_
                        refine gop_rf ?_
                        refine gop_e (decide_eq_false hc155) ?_
                        refine gop_rf ?_
                        refine gop_e (decide_eq_false hc155) ?_
                        refine gop_rf ?_
                        refine gop_e (decide_eq_false hc155) ?_
                        refine gop_rf ?_
                        refine ob_i (vInt_add (by omega) (by omega)) ?_
                        refine gop_e (decide_eq_false hc155) ?_
                        refine gop_rf ?_
                        refine ob_i (vInt_sub (by omega) (by omega)) ?_
                        refine gop_e (decide_eq_false hc155) ?_
                        refine gop_rf ?_
                        refine gop_e (decide_eq_false hc155) ?_
                        refine gop_rf ?_
                        have rm156 := And.intro (Int.emod_nonneg (((i : Int) + n) - 1) (b := n) (by omega)) (Int.emod_lt_of_pos (((i : Int) + n) - 1) (b := n) (by omega))
                        refine ob_i (vInt_remN (by omega) (by omega)) ?_
                        refine gop_e (decide_eq_false hc155) ?_
                        refine gop_rf ?_
                        refine ob_i (ou13.sl.ix (by omega) (by omega)) ?_
                        refine gop_e (decide_eq_false hc155) ?_
                        refine gop_rf ?_
                        refine ob_i (ou13.sl.ld 0 (by omega) (by omega)) ?_
                        refine gop_e (decide_eq_false hc155) ?_
                        refine gop_rf ?_
                        refine ob_i (vInt_geq _ _ _) ?_
                        refine gop_e (decide_eq_true hc150) ?_
                        refine gop_rt ?_
                        refine ob_i (vPick_ef (decide_eq_false hc155) _ _) ?_
                        refine ob_i (vPick_et (decide_eq_true hc150) _ _) ?_
                        refine cnd_d (fun hg157 => ?_) (fun hg157 => ?_)
                        ·skip
                         refine retK (K := K) (v' := (.bool false)) rfl ?_
                         exfalso
                         first | contradiction | omega | (have g := hsp (by assumption); simp_all; done) | exact absurd (shr_quarter (by omega) (by omega) hslow) (by assumption)
                        ·skip
                         refine ob_i (vInt_add (by omega) (by omega)) ?_
                         exact nxt (n.toNat - (i + 1)) (by omega) ⟨i + 1, rfl, by omega, g5L120, g6L120, g7L120, g23L120, g24L120, (congrArg (Value.int .i64) (by first | omega | rfl | (simp; done))), ou9, ou13, ou26, ou30, ou106, ou107, lE⟩
                    ·skip
                     refine gop_e (decide_eq_false hc150) ?_
                     refine gop_sf ?_
                     refine gop_e (decide_eq_false hc150) ?_
                     refine gop_sf ?_
                     refine gop_e (decide_eq_false hc150) ?_
                     refine gop_sf ?_
                     refine gop_e (decide_eq_false hc150) ?_
                     refine gop_sf ?_
                     refine gop_e (decide_eq_false hc150) ?_
                     refine gop_sf ?_
                     refine gop_e (decide_eq_false hc150) ?_
                     refine gop_sf ?_
                     refine gop_u ?_
                     refine gop_u ?_
                     refine gop_u ?_
                     refine gop_u ?_
                     refine gop_u ?_
                     refine gop_u ?_
                     refine gop_u ?_
                     refine gop_u ?_
                     refine gop_e (decide_eq_false hc150) ?_
                     refine gop_sf ?_
                     refine gop_e (decide_eq_false hc150) ?_
                     refine gop_sf ?_
                     refine gop_u ?_
                     refine gop_u ?_
                     refine gop_u ?_
                     refine gop_u ?_
                     refine gop_u ?_
                     refine gop_u ?_
                     refine gop_u ?_
                     refine gop_u ?_
                     refine gop_e (decide_eq_false hc150) ?_
                     refine gop_sf ?_
                     refine gop_e (decide_eq_false hc150) ?_
                     refine gop_sf ?_
                     refine gop_u ?_
                     refine gop_u ?_
                     refine gop_u ?_
                     refine gop_u ?_
                     refine gop_u ?_
                     refine gop_u ?_
                     refine gop_u ?_
                     refine gop_u ?_
                     refine gop_u ?_
                     refine gop_u ?_
                     refine gop_e (decide_eq_false hc150) ?_
                     refine gop_sf ?_
                     refine ob_i (vPick_ef (decide_eq_false hc150) _ _) ?_
                     refine cnd_f1 ?_
                     refine ob_i (vInt_add (by omega) (by omega)) ?_
                     exact nxt (n.toNat - (i + 1)) (by omega) ⟨i + 1, rfl, by omega, g5L120, g6L120, g7L120, g23L120, g24L120, (congrArg (Value.int .i64) (by first | omega | rfl | (simp; done))), ou9, ou13, ou26, ou30, ou106, ou107, lE⟩
                   ·skip
                    refine gop_e (decide_eq_false hc149) ?_
                    refine gop_sf ?_
                    refine gop_e (decide_eq_false hc149) ?_
                    refine gop_sf ?_
                    refine ob_i (vPick_ef (decide_eq_false hc149) _ _) ?_
                    refine gop_sf ?_
                    refine gop_sf ?_
                    refine gop_sf ?_
                    refine gop_sf ?_
                    refine gop_sf ?_
                    refine ob_i (vPick_f _ _) ?_
                    refine gop_sf ?_
                    refine gop_sf ?_
                    refine gop_sf ?_
                    refine gop_sf ?_
                    refine gop_sf ?_
                    refine gop_sf ?_
                    refine gop_u ?_
                    refine gop_u ?_
                    refine gop_u ?_
                    refine gop_u ?_
                    refine gop_u ?_
                    refine gop_u ?_
                    refine gop_u ?_
                    refine gop_u ?_
                    refine gop_sf ?_
                    refine gop_sf ?_
                    refine gop_u ?_
                    refine gop_u ?_
                    refine gop_u ?_
                    refine gop_u ?_
                    refine gop_u ?_
                    refine gop_u ?_
                    refine gop_u ?_
                    refine gop_u ?_
                    refine gop_sf ?_
                    refine gop_sf ?_
                    refine gop_u ?_
                    refine gop_u ?_
                    refine gop_u ?_
                    refine gop_u ?_
                    refine gop_u ?_
                    refine gop_u ?_
                    refine gop_u ?_
                    refine gop_u ?_
                    refine gop_u ?_
                    refine gop_u ?_
                    refine gop_sf ?_
                    refine ob_i (vPick_f _ _) ?_
                    refine cnd_f1 ?_
                    refine ob_i (vInt_add (by omega) (by omega)) ?_
                    exact nxt (n.toNat - (i + 1)) (by omega) ⟨i + 1, rfl, by omega, g5L120, g6L120, g7L120, g23L120, g24L120, (congrArg (Value.int .i64) (by first | omega | rfl | (simp; done))), ou9, ou13, ou26, ou30, ou106, ou107, lE⟩
                  ·skip
                   refine ob_i (vPick_t _ _) ?_
                   refine cnd_t1 ?_
                   refine retK (K := K) (v' := (.bool false)) rfl ?_
                   exfalso
                   first | contradiction | omega | (have g := hsp (by assumption); simp_all; done) | exact absurd (shr_quarter (by omega) (by omega) hslow) (by assumption)
                 ·skip
                  refine gop_e (decide_eq_false hc147) ?_
                  refine gop_sf ?_
                  refine gop_e (decide_eq_false hc147) ?_
                  refine gop_sf ?_
                  refine gop_e (decide_eq_false hc147) ?_
                  refine gop_sf ?_
                  refine gop_e (decide_eq_false hc147) ?_
                  refine gop_sf ?_
                  refine gop_e (decide_eq_false hc147) ?_
                  refine gop_sf ?_
                  refine gop_e (decide_eq_false hc147) ?_
                  refine gop_sf ?_
                  refine gop_e (decide_eq_false hc147) ?_
                  refine gop_sf ?_
                  refine gop_e (decide_eq_false hc147) ?_
                  refine gop_sf ?_
                  refine gop_e (decide_eq_false hc147) ?_
                  refine gop_sf ?_
                  refine ob_i (vPick_ef (decide_eq_false hc147) _ _) ?_
                  refine ob_i (a := .bool true) rfl ?_
                  refine gop_rt ?_
                  refine gop_rt ?_
                  refine ob_i (a := .bool true) rfl ?_
                  refine ob_i (vPick_t _ _) ?_
                  refine cnd_t1 ?_
                  refine retK (K := K) (v' := (.bool false)) rfl ?_
                  exfalso
                  first | contradiction | omega | (have g := hsp (by assumption); simp_all; done) | exact absurd (shr_quarter (by omega) (by omega) hslow) (by assumption)
               ·skip
                have ti := hg121
                exact hJ119 _ _ ⟨ou9, ou13, ou26, ou30, ou106, ou107, lE⟩
          refine ⟨fun n' σ' H' => ∃ i : Nat, n' = n.toNat - i ∧ i ≤ n.toNat ∧ σ' 5 = (.int .i64 (n)) ∧ σ' 6 = u9 ∧ σ' 7 = u13 ∧ σ' 8 = (.int .i64 (mo)) ∧ σ' 9 = (.float .f32 slow) ∧ σ' 11 = u26 ∧ σ' 14 = u30 ∧ σ' 17 = (.int .i64 (carsN la)) ∧ σ' 20 = (.int .i64 ((i : Int))) ∧ Own eI H' u9 (la) ∧ Own eI H' u13 (lb) ∧ Own eI H' u26 (lnL la mo slow sd) ∧ Own eI H' u30 (lnL la mo 0 sd) ∧ Le H H',
            ⟨_, 0, rfl, by omega, g5L38, g6L38, g7L38, g8L38, g9L38, g11L38, g14L38, g17L38, (congrArg (Value.int .i64) (by first | omega | rfl | (simp; done))), ou9, ou13, ou26, ou30, lE⟩, ?_⟩
          rintro n158 σ158 H158 ⟨i, rfl, hiN, g5L158, g6L158, g7L158, g8L158, g9L158, g11L158, g14L158, g17L158, g20L158, ou9, ou13, ou26, ou30, lE⟩
          have hvy := hvy0.le lE
          have hvm := hvm0.le lE
          try simp only [g5L158, g6L158, g8L158, g9L158, g11L158, g14L158, g20L158]
          refine ob_i (vInt_lss _ _ _) ?_
          refine cnd_d (fun hg159 => ?_) (fun hg159 => ?_)
          ·skip
           have ti := hg159
           have f1 := ef1 (j := i) (by omega)
           have f2 := ef2 (j := i) (by omega)
           have f3 := eg2 (j := i) (by omega)
           rw [show (la.length : Int) = n by omega] at f1 f2 f3
           refine ob_i (ou26.sl.ix (by omega) (by omega)) ?_
           refine ob_i (ou26.sl.ld 0 (by omega) (by omega)) ?_
           refine ob_i (vInt_gtr _ _ _) ?_
           by_cases hc160 : mo < (at_ 0 (lnL la mo slow sd) ((i : Int)))
           ·skip
            refine gop_e (decide_eq_true hc160) ?_
            refine gop_st ?_
            refine gop_e (decide_eq_true hc160) ?_
            refine gop_st ?_
            refine gop_e (decide_eq_true hc160) ?_
            refine gop_st ?_
            refine gop_e (decide_eq_true hc160) ?_
            refine gop_st ?_
            refine gop_e (decide_eq_true hc160) ?_
            refine gop_st ?_
            refine gop_e (decide_eq_true hc160) ?_
            refine gop_st ?_
            refine ob_i (vPick_et (decide_eq_true hc160) _ _) ?_
            refine gop_st ?_
            refine gop_st ?_
            refine gop_st ?_
            refine gop_st ?_
            refine gop_st ?_
            refine gop_st ?_
            refine gop_u ?_
            refine gop_u ?_
            refine gop_u ?_
            refine gop_u ?_
            refine gop_u ?_
            refine gop_u ?_
            refine gop_u ?_
            refine gop_u ?_
            refine gop_u ?_
            refine gop_u ?_
            refine gop_u ?_
            refine gop_u ?_
            refine gop_u ?_
            refine gop_u ?_
            refine gop_u ?_
            refine gop_u ?_
            refine gop_st ?_
            refine ob_i (vPick_t _ _) ?_
            refine gop_st ?_
            refine gop_st ?_
            refine gop_st ?_
            refine gop_st ?_
            refine gop_st ?_
            refine gop_st ?_
            refine gop_u ?_
            refine gop_u ?_
            refine gop_st ?_
            refine gop_st ?_
            refine gop_u ?_
            refine gop_u ?_
            refine gop_st ?_
            refine gop_st ?_
            refine gop_u ?_
            refine gop_u ?_
            refine gop_u ?_
            refine gop_u ?_
            refine gop_u ?_
            refine gop_st ?_
            refine gop_st ?_
            refine gop_u ?_
            refine gop_u ?_
            refine gop_u ?_
            refine gop_u ?_
            refine gop_u ?_
            refine gop_u ?_
            refine gop_u ?_
            refine gop_u ?_
            refine gop_st ?_
            refine gop_st ?_
            refine gop_u ?_
            refine gop_u ?_
            refine gop_st ?_
            refine ob_i (vPick_t _ _) ?_
            refine cnd_t1 ?_
            refine retK (K := K) (v' := (.bool false)) rfl ?_
            exfalso
            first | contradiction | omega | (have g := hsp (by assumption); simp_all; done) | exact absurd (shr_quarter (by omega) (by omega) hslow) (by assumption)
           ·skip
            refine gop_e (decide_eq_false hc160) ?_
            refine gop_rf ?_
            refine gop_e (decide_eq_false hc160) ?_
            refine gop_rf ?_
            refine gop_e (decide_eq_false hc160) ?_
            refine gop_rf ?_
            refine ob_i (ou30.sl.ix (by omega) (by omega)) ?_
            refine gop_e (decide_eq_false hc160) ?_
            refine gop_rf ?_
            refine ob_i (ou30.sl.ld 0 (by omega) (by omega)) ?_
            refine gop_e (decide_eq_false hc160) ?_
            refine gop_rf ?_
            refine gop_e (decide_eq_false hc160) ?_
            refine gop_rf ?_
            refine ob_i (vInt_gtr _ _ _) ?_
            refine ob_i (vPick_ef (decide_eq_false hc160) _ _) ?_
            by_cases hc161 : mo < (at_ 0 (lnL la mo 0 sd) ((i : Int)))
            ·skip
             refine gop_e (decide_eq_true hc161) ?_
             refine gop_st ?_
             refine gop_e (decide_eq_true hc161) ?_
             refine gop_st ?_
             refine gop_e (decide_eq_true hc161) ?_
             refine gop_st ?_
             refine gop_e (decide_eq_true hc161) ?_
             refine gop_st ?_
             refine gop_e (decide_eq_true hc161) ?_
             refine gop_st ?_
             refine gop_e (decide_eq_true hc161) ?_
             refine gop_st ?_
             refine gop_u ?_
             refine gop_u ?_
             refine gop_u ?_
             refine gop_u ?_
             refine gop_u ?_
             refine gop_u ?_
             refine gop_u ?_
             refine gop_u ?_
             refine gop_u ?_
             refine gop_u ?_
             refine gop_u ?_
             refine gop_u ?_
             refine gop_u ?_
             refine gop_u ?_
             refine gop_u ?_
             refine gop_u ?_
             refine gop_e (decide_eq_true hc161) ?_
             refine gop_st ?_
             refine ob_i (vPick_et (decide_eq_true hc161) _ _) ?_
             refine gop_st ?_
             refine gop_st ?_
             refine gop_st ?_
             refine gop_st ?_
             refine gop_st ?_
             refine gop_st ?_
             refine gop_u ?_
             refine gop_u ?_
             refine gop_st ?_
             refine gop_st ?_
             refine gop_u ?_
             refine gop_u ?_
             refine gop_st ?_
             refine gop_st ?_
             refine gop_u ?_
             refine gop_u ?_
             refine gop_u ?_
             refine gop_u ?_
             refine gop_u ?_
             refine gop_st ?_
             refine gop_st ?_
             refine gop_u ?_
             refine gop_u ?_
             refine gop_u ?_
             refine gop_u ?_
             refine gop_u ?_
             refine gop_u ?_
             refine gop_u ?_
             refine gop_u ?_
             refine gop_st ?_
             refine gop_st ?_
             refine gop_u ?_
             refine gop_u ?_
             refine gop_st ?_
             refine ob_i (vPick_t _ _) ?_
             refine cnd_t1 ?_
             refine retK (K := K) (v' := (.bool false)) rfl ?_
             exfalso
             first | contradiction | omega | (have g := hsp (by assumption); simp_all; done) | exact absurd (shr_quarter (by omega) (by omega) hslow) (by assumption)
            ·skip
             refine gop_e (decide_eq_false hc161) ?_
             refine gop_rf ?_
             refine gop_e (decide_eq_false hc161) ?_
             refine gop_rf ?_
             refine gop_e (decide_eq_false hc161) ?_
             refine gop_rf ?_
             refine ob_i (ou30.sl.ix (by omega) (by omega)) ?_
             refine gop_e (decide_eq_false hc161) ?_
             refine gop_rf ?_
             refine ob_i (ou30.sl.ld 0 (by omega) (by omega)) ?_
             refine gop_e (decide_eq_false hc161) ?_
             refine gop_rf ?_
             refine ob_i (vInt_gtr _ _ _) ?_
             refine gop_e (decide_eq_false hc161) ?_
             refine gop_rf ?_
             by_cases hc162 : 0 < (at_ 0 (lnL la mo 0 sd) ((i : Int)))
             ·skip
              refine gop_e (decide_eq_true hc162) ?_
              refine gop_rt ?_
              refine gop_e (decide_eq_true hc162) ?_
              refine gop_rt ?_
              refine gop_e (decide_eq_true hc162) ?_
              refine gop_rt ?_
              refine gop_e (decide_eq_true hc162) ?_
              refine gop_rt ?_
              refine gop_e (decide_eq_true hc162) ?_
              refine gop_rt ?_
              refine ob_i (ou30.sl.ix (by omega) (by omega)) ?_
              refine gop_e (decide_eq_true hc162) ?_
              refine gop_rt ?_
              refine ob_i (ou30.sl.ld 0 (by omega) (by omega)) ?_
              refine gop_e (decide_eq_true hc162) ?_
              refine gop_rt ?_
              refine gop_e (decide_eq_true hc162) ?_
              refine gop_rt ?_
              have rm163 := And.intro (Int.emod_nonneg (at_ 0 (lnL la mo 0 sd) ((i : Int))) (b := n) (by omega)) (Int.emod_lt_of_pos (at_ 0 (lnL la mo 0 sd) ((i : Int))) (b := n) (by omega))
              refine ob_i (vInt_remN (by omega) (by omega)) ?_
              refine gop_e (decide_eq_true hc162) ?_
              refine gop_rt ?_
              refine ob_i (vInt_sub (by omega) (by omega)) ?_
              refine gop_e (decide_eq_true hc162) ?_
              refine gop_rt ?_
              refine gop_e (decide_eq_true hc162) ?_
              refine gop_rt ?_
              refine ob_i (vInt_add (by omega) (by omega)) ?_
              refine gop_e (decide_eq_true hc162) ?_
              refine gop_rt ?_
              refine gop_e (decide_eq_true hc162) ?_
              refine gop_rt ?_
              have rm164 := And.intro (Int.emod_nonneg (((i : Int) - ((at_ 0 (lnL la mo 0 sd) ((i : Int))) % n)) + n) (b := n) (by omega)) (Int.emod_lt_of_pos (((i : Int) - ((at_ 0 (lnL la mo 0 sd) ((i : Int))) % n)) + n) (b := n) (by omega))
              refine ob_i (vInt_remN (by omega) (by omega)) ?_
              refine gop_e (decide_eq_true hc162) ?_
              refine gop_rt ?_
              refine ob_i (ou9.sl.ix (by omega) (by omega)) ?_
              refine gop_e (decide_eq_true hc162) ?_
              refine gop_rt ?_
              refine ob_i (ou9.sl.ld 0 (by omega) (by omega)) ?_
              refine gop_e (decide_eq_true hc162) ?_
              refine gop_rt ?_
              refine ob_i (vInt_lss _ _ _) ?_
              refine gop_e (decide_eq_false hc161) ?_
              refine gop_rf ?_
              refine ob_i (vPick_et (decide_eq_true hc162) _ _) ?_
              refine ob_i (vPick_ef (decide_eq_false hc161) _ _) ?_
              by_cases hc165 : (at_ 0 (la) ((((i : Int) - ((at_ 0 (lnL la mo 0 sd) ((i : Int))) % n)) + n) % n)) < 0
              ·skip
               refine gop_e (decide_eq_true hc165) ?_
               refine gop_st ?_
               refine gop_e (decide_eq_true hc165) ?_
               refine gop_st ?_
               refine gop_e (decide_eq_true hc165) ?_
               refine gop_st ?_
               refine gop_e (decide_eq_true hc165) ?_
               refine gop_st ?_
               refine gop_e (decide_eq_true hc165) ?_
               refine gop_st ?_
               refine gop_e (decide_eq_true hc165) ?_
               refine gop_st ?_
               refine gop_u ?_
               refine gop_u ?_
               refine gop_e (decide_eq_true hc165) ?_
               refine gop_st ?_
               refine gop_e (decide_eq_true hc165) ?_
               refine gop_st ?_
               refine gop_u ?_
               refine gop_u ?_
               refine gop_e (decide_eq_true hc165) ?_
               refine gop_st ?_
               refine gop_e (decide_eq_true hc165) ?_
               refine gop_st ?_
               refine gop_u ?_
               refine gop_u ?_
               refine gop_u ?_
               refine gop_u ?_
               refine gop_u ?_
               refine gop_e (decide_eq_true hc165) ?_
               refine gop_st ?_
               refine gop_e (decide_eq_true hc165) ?_
               refine gop_st ?_
               refine gop_u ?_
               refine gop_u ?_
               refine gop_u ?_
               refine gop_u ?_
               refine gop_u ?_
               refine gop_u ?_
               refine gop_u ?_
               refine gop_u ?_
               refine gop_e (decide_eq_true hc165) ?_
               refine gop_st ?_
               refine gop_e (decide_eq_true hc165) ?_
               refine gop_st ?_
               refine gop_u ?_
               refine gop_u ?_
               refine gop_e (decide_eq_true hc165) ?_
               refine gop_st ?_
               refine ob_i (vPick_et (decide_eq_true hc165) _ _) ?_
               refine cnd_t1 ?_
               refine retK (K := K) (v' := (.bool false)) rfl ?_
               exfalso
               first | contradiction | omega | (have g := hsp (by assumption); simp_all; done) | exact absurd (shr_quarter (by omega) (by omega) hslow) (by assumption)
              ·skip
               refine gop_e (decide_eq_false hc165) ?_
               refine gop_rf ?_
               refine gop_e (decide_eq_false hc165) ?_
               refine gop_rf ?_
               refine gop_e (decide_eq_false hc165) ?_
               refine gop_rf ?_
               refine ob_i (ou9.sl.ix (by omega) (by omega)) ?_
               refine gop_e (decide_eq_false hc165) ?_
               refine gop_rf ?_
               refine ob_i (ou9.sl.ld 0 (by omega) (by omega)) ?_
               refine gop_e (decide_eq_false hc165) ?_
               refine gop_rf ?_
               refine ob_i (vInt_geq _ _ _) ?_
               refine gop_e (decide_eq_false hc165) ?_
               refine gop_rf ?_
               by_cases hc166 : 0 ≤ (at_ 0 (la) ((i : Int)))
               ·skip
                refine gop_e (decide_eq_true hc166) ?_
                refine gop_rt ?_
                refine gop_e (decide_eq_true hc166) ?_
                refine gop_rt ?_
                refine ob_i (vInt_eql _ _ _) ?_
                refine gop_e (decide_eq_false hc165) ?_
                refine gop_rf ?_
                refine ob_i (vPick_et (decide_eq_true hc166) _ _) ?_
                refine gop_e (decide_eq_false hc165) ?_
                refine gop_rf ?_
                by_cases hc167 : mo = 1
                ·skip
                 refine gop_e (decide_eq_true hc167) ?_
                 refine gop_rt ?_
                 refine gop_e (decide_eq_true hc167) ?_
                 refine gop_rt ?_
                 refine ob_i (vF_eql _ _) ?_
                 refine gop_e (decide_eq_false hc165) ?_
                 refine gop_rf ?_
                 refine ob_i (vPick_et (decide_eq_true hc167) _ _) ?_
                 refine gop_e (decide_eq_false hc165) ?_
                 refine gop_rf ?_
                 by_cases hc168 : (fEq slow 0) = true
                 ·skip
                  refine gop_e (hc168) ?_
                  refine gop_rt ?_
                  refine gop_e (hc168) ?_
                  refine gop_rt ?_
                  refine gop_e (hc168) ?_
                  refine gop_rt ?_
                  refine ob_i (ou30.sl.ix (by omega) (by omega)) ?_
                  refine gop_e (hc168) ?_
                  refine gop_rt ?_
                  refine ob_i (ou30.sl.ld 0 (by omega) (by omega)) ?_
                  refine gop_e (hc168) ?_
                  refine gop_rt ?_
                  refine ob_i (vInt_lss _ _ _) ?_
                  refine gop_e (decide_eq_false hc165) ?_
                  refine gop_rf ?_
                  refine ob_i (vPick_et (hc168) _ _) ?_
                  refine gop_e (decide_eq_false hc165) ?_
                  refine gop_rf ?_
                  by_cases hc169 : (at_ 0 (lnL la mo 0 sd) ((i : Int))) < 0
                  ·skip
                   refine gop_e (decide_eq_true hc169) ?_
                   refine gop_rt ?_
                   refine gop_e (decide_eq_true hc169) ?_
                   refine gop_rt ?_
                   refine gop_e (decide_eq_true hc169) ?_
                   refine gop_rt ?_
                   refine ob_i (vInt_add (by omega) (by omega)) ?_
                   refine gop_e (decide_eq_true hc169) ?_
                   refine gop_rt ?_
                   refine gop_e (decide_eq_true hc169) ?_
                   refine gop_rt ?_
                   have rm170 := And.intro (Int.emod_nonneg ((i : Int) + 1) (b := n) (by omega)) (Int.emod_lt_of_pos ((i : Int) + 1) (b := n) (by omega))
                   refine ob_i (vInt_remN (by omega) (by omega)) ?_
                   refine gop_e (decide_eq_true hc169) ?_
                   refine gop_rt ?_
                   refine ob_i (ou9.sl.ix (by omega) (by omega)) ?_
                   refine gop_e (decide_eq_true hc169) ?_
                   refine gop_rt ?_
                   refine ob_i (ou9.sl.ld 0 (by omega) (by omega)) ?_
                   refine gop_e (decide_eq_true hc169) ?_
                   refine gop_rt ?_
                   refine ob_i (vInt_geq _ _ _) ?_
                   refine gop_e (decide_eq_false hc165) ?_
                   refine gop_rf ?_
                   refine ob_i (vPick_et (decide_eq_true hc169) _ _) ?_
                   refine gop_e (decide_eq_false hc165) ?_
                   refine gop_rf ?_
                   by_cases hc171 : 0 ≤ (at_ 0 (la) (((i : Int) + 1) % n))
                   ·skip
                    refine gop_e (decide_eq_true hc171) ?_
                    refine gop_rt ?_
                    refine gop_e (decide_eq_true hc171) ?_
                    refine gop_rt ?_
                    refine ob_i (vInt_gtr _ _ _) ?_
                    refine gop_e (decide_eq_false hc165) ?_
                    refine gop_rf ?_
                    refine ob_i (vPick_et (decide_eq_true hc171) _ _) ?_
                    refine ob_i (vPick_ef (decide_eq_false hc165) _ _) ?_
                    refine cnd_d (fun hg172 => ?_) (fun hg172 => ?_)
                    ·skip
                     refine retK (K := K) (v' := (.bool false)) rfl ?_
                     exfalso
                     first | contradiction | omega | (have g := hsp (by assumption); simp_all; done) | exact absurd (shr_quarter (by omega) (by omega) hslow) (by assumption)
                    ·skip
                     refine ob_i (vInt_add (by omega) (by omega)) ?_
                     exact nxt (n.toNat - (i + 1)) (by omega) ⟨i + 1, rfl, by omega, g5L158, g6L158, g7L158, g8L158, g9L158, g11L158, g14L158, g17L158, (congrArg (Value.int .i64) (by first | omega | rfl | (simp; done))), ou9, ou13, ou26, ou30, lE⟩
                   ·skip
                    refine gop_e (decide_eq_false hc171) ?_
                    refine gop_sf ?_
                    refine gop_e (decide_eq_false hc171) ?_
                    refine gop_sf ?_
                    refine gop_e (decide_eq_false hc165) ?_
                    refine gop_rf ?_
                    refine ob_i (vPick_ef (decide_eq_false hc171) _ _) ?_
                    refine ob_i (vPick_ef (decide_eq_false hc165) _ _) ?_
                    refine cnd_f1 ?_
                    refine ob_i (vInt_add (by omega) (by omega)) ?_
                    exact nxt (n.toNat - (i + 1)) (by omega) ⟨i + 1, rfl, by omega, g5L158, g6L158, g7L158, g8L158, g9L158, g11L158, g14L158, g17L158, (congrArg (Value.int .i64) (by first | omega | rfl | (simp; done))), ou9, ou13, ou26, ou30, lE⟩
                  ·skip
                   refine gop_e (decide_eq_false hc169) ?_
                   refine gop_sf ?_
                   refine gop_e (decide_eq_false hc169) ?_
                   refine gop_sf ?_
                   refine gop_e (decide_eq_false hc169) ?_
                   refine gop_sf ?_
                   refine gop_e (decide_eq_false hc169) ?_
                   refine gop_sf ?_
                   refine gop_e (decide_eq_false hc169) ?_
                   refine gop_sf ?_
                   refine gop_e (decide_eq_false hc169) ?_
                   refine gop_sf ?_
                   refine gop_e (decide_eq_false hc169) ?_
                   refine gop_sf ?_
                   refine gop_e (decide_eq_false hc169) ?_
                   refine gop_sf ?_
                   refine gop_e (decide_eq_false hc165) ?_
                   refine gop_rf ?_
                   refine ob_i (vPick_ef (decide_eq_false hc169) _ _) ?_
                   refine gop_e (decide_eq_false hc165) ?_
                   refine gop_rf ?_
                   refine gop_sf ?_
                   refine gop_sf ?_
                   refine gop_e (decide_eq_false hc165) ?_
                   refine gop_rf ?_
                   refine ob_i (vPick_f _ _) ?_
                   refine ob_i (vPick_ef (decide_eq_false hc165) _ _) ?_
                   refine cnd_f1 ?_
                   refine ob_i (vInt_add (by omega) (by omega)) ?_
                   exact nxt (n.toNat - (i + 1)) (by omega) ⟨i + 1, rfl, by omega, g5L158, g6L158, g7L158, g8L158, g9L158, g11L158, g14L158, g17L158, (congrArg (Value.int .i64) (by first | omega | rfl | (simp; done))), ou9, ou13, ou26, ou30, lE⟩
                 ·skip
                  refine gop_e (eq_false_of_ne_true hc168) ?_
                  refine gop_sf ?_
                  refine gop_e (eq_false_of_ne_true hc168) ?_
                  refine gop_sf ?_
                  refine gop_e (eq_false_of_ne_true hc168) ?_
                  refine gop_sf ?_
                  refine gop_e (eq_false_of_ne_true hc168) ?_
                  refine gop_sf ?_
                  refine gop_e (eq_false_of_ne_true hc168) ?_
                  refine gop_sf ?_
                  refine gop_e (decide_eq_false hc165) ?_
                  refine gop_rf ?_
                  refine ob_i (vPick_ef (eq_false_of_ne_true hc168) _ _) ?_
                  refine gop_e (decide_eq_false hc165) ?_
                  refine gop_rf ?_
                  refine gop_sf ?_
                  refine gop_sf ?_
                  refine gop_sf ?_
                  refine gop_sf ?_
                  refine gop_sf ?_
                  refine gop_sf ?_
                  refine gop_sf ?_
                  refine gop_sf ?_
                  refine gop_e (decide_eq_false hc165) ?_
                  refine gop_rf ?_
                  refine ob_i (vPick_f _ _) ?_
                  refine gop_e (decide_eq_false hc165) ?_
                  refine gop_rf ?_
                  refine gop_sf ?_
                  refine gop_sf ?_
                  refine gop_e (decide_eq_false hc165) ?_
                  refine gop_rf ?_
                  refine ob_i (vPick_f _ _) ?_
                  refine ob_i (vPick_ef (decide_eq_false hc165) _ _) ?_
                  refine cnd_f1 ?_
                  refine ob_i (vInt_add (by omega) (by omega)) ?_
                  exact nxt (n.toNat - (i + 1)) (by omega) ⟨i + 1, rfl, by omega, g5L158, g6L158, g7L158, g8L158, g9L158, g11L158, g14L158, g17L158, (congrArg (Value.int .i64) (by first | omega | rfl | (simp; done))), ou9, ou13, ou26, ou30, lE⟩
                ·skip
                 refine gop_e (decide_eq_false hc167) ?_
                 refine gop_sf ?_
                 refine gop_e (decide_eq_false hc167) ?_
                 refine gop_sf ?_
                 refine gop_e (decide_eq_false hc165) ?_
                 refine gop_rf ?_
                 refine ob_i (vPick_ef (decide_eq_false hc167) _ _) ?_
                 refine gop_e (decide_eq_false hc165) ?_
                 refine gop_rf ?_
                 refine gop_sf ?_
                 refine gop_sf ?_
                 refine gop_sf ?_
                 refine gop_sf ?_
                 refine gop_sf ?_
                 refine gop_e (decide_eq_false hc165) ?_
                 refine gop_rf ?_
                 refine ob_i (vPick_f _ _) ?_
                 refine gop_e (decide_eq_false hc165) ?_
                 refine gop_rf ?_
                 refine gop_sf ?_
                 refine gop_sf ?_
                 refine gop_sf ?_
                 refine gop_sf ?_
                 refine gop_sf ?_
                 refine gop_sf ?_
                 refine gop_sf ?_
                 refine gop_sf ?_
                 refine gop_e (decide_eq_false hc165) ?_
                 refine gop_rf ?_
                 refine ob_i (vPick_f _ _) ?_
                 refine gop_e (decide_eq_false hc165) ?_
                 refine gop_rf ?_
                 refine gop_sf ?_
                 refine gop_sf ?_
                 refine gop_e (decide_eq_false hc165) ?_
                 refine gop_rf ?_
                 refine ob_i (vPick_f _ _) ?_
                 refine ob_i (vPick_ef (decide_eq_false hc165) _ _) ?_
                 refine cnd_f1 ?_
                 refine ob_i (vInt_add (by omega) (by omega)) ?_
                 exact nxt (n.toNat - (i + 1)) (by omega) ⟨i + 1, rfl, by omega, g5L158, g6L158, g7L158, g8L158, g9L158, g11L158, g14L158, g17L158, (congrArg (Value.int .i64) (by first | omega | rfl | (simp; done))), ou9, ou13, ou26, ou30, lE⟩
               ·skip
                refine gop_e (decide_eq_false hc166) ?_
                refine gop_sf ?_
                refine gop_e (decide_eq_false hc166) ?_
                refine gop_sf ?_
                refine gop_e (decide_eq_false hc165) ?_
                refine gop_rf ?_
                refine ob_i (vPick_ef (decide_eq_false hc166) _ _) ?_
                refine gop_e (decide_eq_false hc165) ?_
                refine gop_rf ?_
                refine gop_sf ?_
                refine gop_sf ?_
                refine gop_e (decide_eq_false hc165) ?_
                refine gop_rf ?_
                refine ob_i (vPick_f _ _) ?_
                refine gop_e (decide_eq_false hc165) ?_
                refine gop_rf ?_
                refine gop_sf ?_
                refine gop_sf ?_
                refine gop_sf ?_
                refine gop_sf ?_
                refine gop_sf ?_
                refine gop_e (decide_eq_false hc165) ?_
                refine gop_rf ?_
                refine ob_i (vPick_f _ _) ?_
                refine gop_e (decide_eq_false hc165) ?_
                refine gop_rf ?_
                refine gop_sf ?_
                refine gop_sf ?_
                refine gop_sf ?_
                refine gop_sf ?_
                refine gop_sf ?_
                refine gop_sf ?_
                refine gop_sf ?_
                refine gop_sf ?_
                refine gop_e (decide_eq_false hc165) ?_
                refine gop_rf ?_
                refine ob_i (vPick_f _ _) ?_
                refine gop_e (decide_eq_false hc165) ?_
                refine gop_rf ?_
                refine gop_sf ?_
                refine gop_sf ?_
                refine gop_e (decide_eq_false hc165) ?_
                refine gop_rf ?_
                refine ob_i (vPick_f _ _) ?_
                refine ob_i (vPick_ef (decide_eq_false hc165) _ _) ?_
                refine cnd_f1 ?_
                refine ob_i (vInt_add (by omega) (by omega)) ?_
                exact nxt (n.toNat - (i + 1)) (by omega) ⟨i + 1, rfl, by omega, g5L158, g6L158, g7L158, g8L158, g9L158, g11L158, g14L158, g17L158, (congrArg (Value.int .i64) (by first | omega | rfl | (simp; done))), ou9, ou13, ou26, ou30, lE⟩
             ·skip
              refine gop_e (decide_eq_false hc162) ?_
              refine gop_sf ?_
              refine gop_e (decide_eq_false hc162) ?_
              refine gop_sf ?_
              refine gop_e (decide_eq_false hc162) ?_
              refine gop_sf ?_
              refine gop_e (decide_eq_false hc162) ?_
              refine gop_sf ?_
              refine gop_e (decide_eq_false hc162) ?_
              refine gop_sf ?_
              refine gop_e (decide_eq_false hc162) ?_
              refine gop_sf ?_
              refine gop_e (decide_eq_false hc162) ?_
              refine gop_sf ?_
              refine gop_e (decide_eq_false hc162) ?_
              refine gop_sf ?_
              refine gop_e (decide_eq_false hc162) ?_
              refine gop_sf ?_
              refine gop_e (decide_eq_false hc162) ?_
              refine gop_sf ?_
              refine gop_e (decide_eq_false hc162) ?_
              refine gop_sf ?_
              refine gop_e (decide_eq_false hc162) ?_
              refine gop_sf ?_
              refine gop_e (decide_eq_false hc162) ?_
              refine gop_sf ?_
              refine gop_e (decide_eq_false hc162) ?_
              refine gop_sf ?_
              refine gop_e (decide_eq_false hc162) ?_
              refine gop_sf ?_
              refine gop_e (decide_eq_false hc162) ?_
              refine gop_sf ?_
              refine gop_e (decide_eq_false hc161) ?_
              refine gop_rf ?_
              refine ob_i (vPick_ef (decide_eq_false hc162) _ _) ?_
              refine ob_i (vPick_ef (decide_eq_false hc161) _ _) ?_
              refine gop_rf ?_
              refine gop_rf ?_
              refine gop_rf ?_
              refine ob_i (ou9.sl.ix (by omega) (by omega)) ?_
              refine gop_rf ?_
              refine ob_i (ou9.sl.ld 0 (by omega) (by omega)) ?_
              refine gop_rf ?_
              refine ob_i (vInt_geq _ _ _) ?_
              refine gop_rf ?_
              by_cases hc173 : 0 ≤ (at_ 0 (la) ((i : Int)))
              ·skip
               refine gop_e (decide_eq_true hc173) ?_
               refine gop_rt ?_
               refine gop_e (decide_eq_true hc173) ?_
               refine gop_rt ?_
               refine ob_i (vInt_eql _ _ _) ?_
               refine gop_rf ?_
               refine ob_i (vPick_et (decide_eq_true hc173) _ _) ?_
               refine gop_rf ?_
               by_cases hc174 : mo = 1
               ·skip
                refine gop_e (decide_eq_true hc174) ?_
                refine gop_rt ?_
                refine gop_e (decide_eq_true hc174) ?_
                refine gop_rt ?_
                refine ob_i (vF_eql _ _) ?_
                refine gop_rf ?_
                refine ob_i (vPick_et (decide_eq_true hc174) _ _) ?_
                refine gop_rf ?_
                by_cases hc175 : (fEq slow 0) = true
                ·skip
                 refine gop_e (hc175) ?_
                 refine gop_rt ?_
                 refine gop_e (hc175) ?_
                 refine gop_rt ?_
                 refine gop_e (hc175) ?_
                 refine gop_rt ?_
                 refine ob_i (ou30.sl.ix (by omega) (by omega)) ?_
                 refine gop_e (hc175) ?_
                 refine gop_rt ?_
                 refine ob_i (ou30.sl.ld 0 (by omega) (by omega)) ?_
                 refine gop_e (hc175) ?_
                 refine gop_rt ?_
                 refine ob_i (vInt_lss _ _ _) ?_
                 refine gop_rf ?_
                 refine ob_i (vPick_et (hc175) _ _) ?_
                 refine gop_rf ?_
                 by_cases hc176 : (at_ 0 (lnL la mo 0 sd) ((i : Int))) < 0
                 ·skip
                  refine gop_e (decide_eq_true hc176) ?_
                  refine gop_rt ?_
                  refine gop_e (decide_eq_true hc176) ?_
                  refine gop_rt ?_
                  refine gop_e (decide_eq_true hc176) ?_
                  refine gop_rt ?_
                  refine ob_i (vInt_add (by omega) (by omega)) ?_
                  refine gop_e (decide_eq_true hc176) ?_
                  refine gop_rt ?_
                  refine gop_e (decide_eq_true hc176) ?_
                  refine gop_rt ?_
                  have rm177 := And.intro (Int.emod_nonneg ((i : Int) + 1) (b := n) (by omega)) (Int.emod_lt_of_pos ((i : Int) + 1) (b := n) (by omega))
                  refine ob_i (vInt_remN (by omega) (by omega)) ?_
                  refine gop_e (decide_eq_true hc176) ?_
                  refine gop_rt ?_
                  refine ob_i (ou9.sl.ix (by omega) (by omega)) ?_
                  refine gop_e (decide_eq_true hc176) ?_
                  refine gop_rt ?_
                  refine ob_i (ou9.sl.ld 0 (by omega) (by omega)) ?_
                  refine gop_e (decide_eq_true hc176) ?_
                  refine gop_rt ?_
                  refine ob_i (vInt_geq _ _ _) ?_
                  refine gop_rf ?_
                  refine ob_i (vPick_et (decide_eq_true hc176) _ _) ?_
                  refine gop_rf ?_
                  by_cases hc178 : 0 ≤ (at_ 0 (la) (((i : Int) + 1) % n))
                  ·skip
                   refine gop_e (decide_eq_true hc178) ?_
                   refine gop_rt ?_
                   refine gop_e (decide_eq_true hc178) ?_
                   refine gop_rt ?_
                   refine ob_i (vInt_gtr _ _ _) ?_
                   refine gop_rf ?_
                   refine ob_i (vPick_et (decide_eq_true hc178) _ _) ?_
                   refine ob_i (vPick_f _ _) ?_
                   refine cnd_d (fun hg179 => ?_) (fun hg179 => ?_)
                   ·skip
                    refine retK (K := K) (v' := (.bool false)) rfl ?_
                    exfalso
                    first | contradiction | omega | (have g := hsp (by assumption); simp_all; done) | exact absurd (shr_quarter (by omega) (by omega) hslow) (by assumption)
                   ·skip
                    refine ob_i (vInt_add (by omega) (by omega)) ?_
                    exact nxt (n.toNat - (i + 1)) (by omega) ⟨i + 1, rfl, by omega, g5L158, g6L158, g7L158, g8L158, g9L158, g11L158, g14L158, g17L158, (congrArg (Value.int .i64) (by first | omega | rfl | (simp; done))), ou9, ou13, ou26, ou30, lE⟩
                  ·skip
                   refine gop_e (decide_eq_false hc178) ?_
                   refine gop_sf ?_
                   refine gop_e (decide_eq_false hc178) ?_
                   refine gop_sf ?_
                   refine gop_rf ?_
                   refine ob_i (vPick_ef (decide_eq_false hc178) _ _) ?_
                   refine ob_i (vPick_f _ _) ?_
                   refine cnd_f1 ?_
                   refine ob_i (vInt_add (by omega) (by omega)) ?_
                   exact nxt (n.toNat - (i + 1)) (by omega) ⟨i + 1, rfl, by omega, g5L158, g6L158, g7L158, g8L158, g9L158, g11L158, g14L158, g17L158, (congrArg (Value.int .i64) (by first | omega | rfl | (simp; done))), ou9, ou13, ou26, ou30, lE⟩
                 ·skip
                  refine gop_e (decide_eq_false hc176) ?_
                  refine gop_sf ?_
                  refine gop_e (decide_eq_false hc176) ?_
                  refine gop_sf ?_
                  refine gop_e (decide_eq_false hc176) ?_
                  refine gop_sf ?_
                  refine gop_e (decide_eq_false hc176) ?_
                  refine gop_sf ?_
                  refine gop_e (decide_eq_false hc176) ?_
                  refine gop_sf ?_
                  refine gop_e (decide_eq_false hc176) ?_
                  refine gop_sf ?_
                  refine gop_e (decide_eq_false hc176) ?_
                  refine gop_sf ?_
                  refine gop_e (decide_eq_false hc176) ?_
                  refine gop_sf ?_
                  refine gop_rf ?_
                  refine ob_i (vPick_ef (decide_eq_false hc176) _ _) ?_
                  refine gop_rf ?_
                  refine gop_sf ?_
                  refine gop_sf ?_
                  refine gop_rf ?_
                  refine ob_i (vPick_f _ _) ?_
                  refine ob_i (vPick_f _ _) ?_
                  refine cnd_f1 ?_
                  refine ob_i (vInt_add (by omega) (by omega)) ?_
                  exact nxt (n.toNat - (i + 1)) (by omega) ⟨i + 1, rfl, by omega, g5L158, g6L158, g7L158, g8L158, g9L158, g11L158, g14L158, g17L158, (congrArg (Value.int .i64) (by first | omega | rfl | (simp; done))), ou9, ou13, ou26, ou30, lE⟩
                ·skip
                 refine gop_e (eq_false_of_ne_true hc175) ?_
                 refine gop_sf ?_
                 refine gop_e (eq_false_of_ne_true hc175) ?_
                 refine gop_sf ?_
                 refine gop_e (eq_false_of_ne_true hc175) ?_
                 refine gop_sf ?_
                 refine gop_e (eq_false_of_ne_true hc175) ?_
                 refine gop_sf ?_
                 refine gop_e (eq_false_of_ne_true hc175) ?_
                 refine gop_sf ?_
                 refine gop_rf ?_
                 refine ob_i (vPick_ef (eq_false_of_ne_true hc175) _ _) ?_
                 refine gop_rf ?_
                 refine gop_sf ?_
                 refine gop_sf ?_
                 refine gop_sf ?_
                 refine gop_sf ?_
                 refine gop_sf ?_
                 refine gop_sf ?_
                 refine gop_sf ?_
                 refine gop_sf ?_
                 refine gop_rf ?_
                 refine ob_i (vPick_f _ _) ?_
                 refine gop_rf ?_
                 refine gop_sf ?_
                 refine gop_sf ?_
                 refine gop_rf ?_
                 refine ob_i (vPick_f _ _) ?_
                 refine ob_i (vPick_f _ _) ?_
                 refine cnd_f1 ?_
                 refine ob_i (vInt_add (by omega) (by omega)) ?_
                 exact nxt (n.toNat - (i + 1)) (by omega) ⟨i + 1, rfl, by omega, g5L158, g6L158, g7L158, g8L158, g9L158, g11L158, g14L158, g17L158, (congrArg (Value.int .i64) (by first | omega | rfl | (simp; done))), ou9, ou13, ou26, ou30, lE⟩
               ·skip
                refine gop_e (decide_eq_false hc174) ?_
                refine gop_sf ?_
                refine gop_e (decide_eq_false hc174) ?_
                refine gop_sf ?_
                refine gop_rf ?_
                refine ob_i (vPick_ef (decide_eq_false hc174) _ _) ?_
                refine gop_rf ?_
                refine gop_sf ?_
                refine gop_sf ?_
                refine gop_sf ?_
                refine gop_sf ?_
                refine gop_sf ?_
                refine gop_rf ?_
                refine ob_i (vPick_f _ _) ?_
                refine gop_rf ?_
                refine gop_sf ?_
                refine gop_sf ?_
                refine gop_sf ?_
                refine gop_sf ?_
                refine gop_sf ?_
                refine gop_sf ?_
                refine gop_sf ?_
                refine gop_sf ?_
                refine gop_rf ?_
                refine ob_i (vPick_f _ _) ?_
                refine gop_rf ?_
                refine gop_sf ?_
                refine gop_sf ?_
                refine gop_rf ?_
                refine ob_i (vPick_f _ _) ?_
                refine ob_i (vPick_f _ _) ?_
                refine cnd_f1 ?_
                refine ob_i (vInt_add (by omega) (by omega)) ?_
                exact nxt (n.toNat - (i + 1)) (by omega) ⟨i + 1, rfl, by omega, g5L158, g6L158, g7L158, g8L158, g9L158, g11L158, g14L158, g17L158, (congrArg (Value.int .i64) (by first | omega | rfl | (simp; done))), ou9, ou13, ou26, ou30, lE⟩
              ·skip
               refine gop_e (decide_eq_false hc173) ?_
               refine gop_sf ?_
               refine gop_e (decide_eq_false hc173) ?_
               refine gop_sf ?_
               refine gop_rf ?_
               refine ob_i (vPick_ef (decide_eq_false hc173) _ _) ?_
               refine gop_rf ?_
               refine gop_sf ?_
               refine gop_sf ?_
               refine gop_rf ?_
               refine ob_i (vPick_f _ _) ?_
               refine gop_rf ?_
               refine gop_sf ?_
               refine gop_sf ?_
               refine gop_sf ?_
               refine gop_sf ?_
               refine gop_sf ?_
               refine gop_rf ?_
               refine ob_i (vPick_f _ _) ?_
               refine gop_rf ?_
               refine gop_sf ?_
               refine gop_sf ?_
               refine gop_sf ?_
               refine gop_sf ?_
               refine gop_sf ?_
               refine gop_sf ?_
               refine gop_sf ?_
               refine gop_sf ?_
               refine gop_rf ?_
               refine ob_i (vPick_f _ _) ?_
               refine gop_rf ?_
               refine gop_sf ?_
               refine gop_sf ?_
               refine gop_rf ?_
               refine ob_i (vPick_f _ _) ?_
               refine ob_i (vPick_f _ _) ?_
               refine cnd_f1 ?_
               refine ob_i (vInt_add (by omega) (by omega)) ?_
               exact nxt (n.toNat - (i + 1)) (by omega) ⟨i + 1, rfl, by omega, g5L158, g6L158, g7L158, g8L158, g9L158, g11L158, g14L158, g17L158, (congrArg (Value.int .i64) (by first | omega | rfl | (simp; done))), ou9, ou13, ou26, ou30, lE⟩
          ·skip
           have ti := hg159
           exact hJ46 _ _ ⟨g5L158, g6L158, g7L158, g8L158, g11L158, g17L158, ou9, ou13, ou26, ou30, lE⟩
      refine ⟨fun n' σ' H' => ∃ i : Nat, n' = (carsN la).toNat - i ∧ i ≤ (carsN la).toNat ∧ σ' 5 = (.int .i64 (n)) ∧ σ' 6 = u9 ∧ σ' 7 = u13 ∧ σ' 8 = (.int .i64 (mo)) ∧ σ' 9 = (.float .f32 slow) ∧ σ' 11 = u26 ∧ σ' 12 = (.int .i64 (lnX la mo slow sd)) ∧ σ' 14 = u30 ∧ σ' 17 = (.int .i64 (carsN la)) ∧ σ' 18 = (.int .i64 (sdS sd i)) ∧ σ' 19 = (.int .i64 ((i : Int))) ∧ Own eI H' u9 (la) ∧ Own eI H' u13 (lb) ∧ Own eI H' u26 (lnL la mo slow sd) ∧ Own eI H' u30 (lnL la mo 0 sd) ∧ Le H H',
        ⟨_, 0, rfl, by omega, rfl, rfl, rfl, rfl, rfl, rfl, rfl, rfl, rfl, (congrArg (Value.int .i64) (by first | omega | rfl | (simp; done))), (congrArg (Value.int .i64) (by first | omega | rfl | (simp; done))), ou9, ou13, ou26, ou30, lE⟩, ?_⟩
      rintro n180 σ180 H180 ⟨i, rfl, hiN, g5L180, g6L180, g7L180, g8L180, g9L180, g11L180, g12L180, g14L180, g17L180, g18L180, g19L180, ou9, ou13, ou26, ou30, lE⟩
      have hvy := hvy0.le lE
      have hvm := hvm0.le lE
      try simp only [g17L180, g18L180, g19L180]
      have sb := sdS_bnd (x := sd) (by omega) (by omega) i
      refine ob_i (vInt_lss _ _ _) ?_
      refine cnd_d (fun hg181 => ?_) (fun hg181 => ?_)
      ·skip
       have ti := hg181
       refine ob_i (vInt_mul (by omega) (by omega)) ?_
       refine ob_i (vInt_add (by omega) (by omega)) ?_
       refine ob_i (vInt_remN (by omega) (by omega)) ?_
       refine ob_i (vInt_add (by omega) (by omega)) ?_
       exact nxt ((carsN la).toNat - (i + 1)) (by omega) ⟨i + 1, rfl, by omega, g5L180, g6L180, g7L180, g8L180, g9L180, g11L180, g12L180, g14L180, g17L180, (congrArg (Value.int .i64) (by first | omega | rfl | (simp; done))), (congrArg (Value.int .i64) (by first | omega | rfl | (simp; done))), ou9, ou13, ou26, ou30, lE⟩
      ·skip
       have ti := hg181
       obtain rfl : i = (carsN la).toNat := by omega
       exact hJ38 _ _ ⟨g5L180, g6L180, g7L180, g8L180, g9L180, g11L180, g12L180, g14L180, g17L180, (g18L180.trans (congrArg (Value.int .i64) (by first | omega | rfl | (simp; done)))), ou9, ou13, ou26, ou30, lE⟩
  ·skip
   refine ob_i (vPick_f _ _) ?_
   refine gop_st ?_
   refine gop_st ?_
   refine gop_st ?_
   refine gop_st ?_
   refine ob_i (vPick_t _ _) ?_
   refine gop_st ?_
   refine gop_st ?_
   refine gop_st ?_
   refine gop_st ?_
   refine ob_i (vPick_t _ _) ?_
   refine gop_st ?_
   refine gop_st ?_
   refine gop_st ?_
   refine ob_i (vPick_t _ _) ?_
   refine cnd_t1 ?_
   exfalso
   first | contradiction | omega | (have g := hsp (by assumption); simp_all; done) | exact absurd (shr_quarter (by omega) (by omega) hslow) (by assumption)
theorem L.FnLanes {vy vm : Value} {l m : List Int} {H : Hp} {K : Value → Hp → Prop} (h0 : Sl eU H vy l) (h1 : Sl eU H vm m) (l0 : l.length ≤ 9223372036854775807) (l1 : m.length ≤ 9223372036854775807) (b0 : bytP l) (b1 : bytP m) (hk : ∀ H', Le H H' → K (.bool true) H') : HT prg I.laws_FnLanes [vy, vm].toArray H K :=
  C.laws_FnLanes h0 h1 b0 l0 b1 l1 hk
end Go.Proofs.Ytdfoobomlabffaa
