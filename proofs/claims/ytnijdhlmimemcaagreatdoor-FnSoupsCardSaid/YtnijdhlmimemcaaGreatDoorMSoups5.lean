/- Several texts in one. -/
import Derived.Test.YtnijdhlmimemcaaGreatDoorMSoups4
/- The law of soups. -/
namespace Go.Proofs.YtnijdhlmimemcaaGreatDoor
open HL
set_option maxRecDepth 100000
attribute [local irreducible] vStr
/-- Counts that rise, all less than a number. -/
def lifK (l : List Int) (k : Int) : Prop := cntP l ∧ ∀ x ∈ l, x < k
theorem lifK_nil (k : Int) : lifK [] k := ⟨by decide, by simp⟩
theorem lifK_mono {l : List Int} {k m : Int} (h : lifK l k) (hm : k ≤ m) : lifK l m := ⟨h.1, fun x hx => by have := h.2 x hx; omega⟩
theorem lifK_snoc {l : List Int} {k m : Int} (h : lifK l k) (h0 : 0 ≤ k) (h1 : k ≤ 8) (hm : k < m) : lifK (l ++ [k]) m := by
  obtain ⟨⟨g1, g2⟩, g3⟩ := h
  refine ⟨⟨fun x hx => ?_, fun j hj j0 => ?_⟩, fun x hx => ?_⟩
  · rcases List.mem_append.mp hx with h | h
    · exact g1 x h
    · simp only [List.mem_singleton] at h; omega
  · simp only [List.length_append, List.length_singleton] at hj
    have e : ∀ i : Nat, i < l.length → at_ 0 (l ++ [k]) (i : Int) = at_ 0 l (i : Int) := fun i hi => by
      rw [at_eq 0 _ (by simp; omega), at_eq 0 _ hi, List.getElem_append_left hi]
    have e2 : at_ 0 (l ++ [k]) (l.length : Int) = k := by
      rw [at_eq 0 _ (by simp), List.getElem_append_right (Nat.le_refl _)]; simp
    have e3 := e (j - 1) (by omega)
    rw [show (((j - 1 : Nat) : Nat) : Int) = (j : Int) - 1 by omega] at e3
    rw [e3]
    by_cases g : j = l.length
    · rw [g, e2]
      have := g3 _ (at_mem 0 l (i := (l.length : Int) - 1) (by omega) (by omega))
      exact this
    · rw [e j (by omega)]; exact g2 j (by omega) j0
  · rcases List.mem_append.mp hx with h | h
    · have := g3 x h; omega
    · simp only [List.mem_singleton] at h; omega
theorem ints_eq {l m : List Int} (h : l.length = m.length) (ha : ∀ j : Nat, j < l.length → at_ 0 l (j : Int) = at_ 0 m (j : Int)) : l = m := by
  apply List.ext_getElem h
  intro j h1 h2
  have := ha j h1
  rw [at_eq 0 l h1, at_eq 0 m h2] at this
  exact this
theorem ints_snoc {l m : List Int} {i : Nat} (ha : ∀ j : Nat, j < i → at_ 0 l (j : Int) = at_ 0 m (j : Int)) (h : at_ 0 l (i : Int) = at_ 0 m (i : Int)) : ∀ j : Nat, j < i + 1 → at_ 0 l (j : Int) = at_ 0 m (j : Int) := fun j hj => by
  by_cases e : j = i
  · subst e; exact h
  · exact ha j (by omega)
theorem share_all : (List.range 9).all (fun k => match FloatKind.f32.format.div (FloatKind.f32.nearest ((k : Nat) : Int)) 1090519040 with | some r => decide (shrP r) | none => false) = true := by decide +kernel
theorem share_ok {k : Int} {z : Nat} (h0 : 0 ≤ k) (h1 : k < 9) (h : FR .f32 (FloatKind.f32.format.div (FloatKind.f32.nearest k) 1090519040) z) : shrP z := by
  have hk := List.all_eq_true.mp share_all k.toNat (List.mem_range.mpr (by omega))
  rw [Int.toNat_of_nonneg h0] at hk
  cases e : FloatKind.f32.format.div (FloatKind.f32.nearest k) 1090519040 with
  | none => simp only [e] at hk; cases hk
  | some r =>
    simp only [e] at hk h
    rw [show z = r from h]
    exact of_decide_eq_true hk
theorem cen_many {r c : Int} {l : List Int} (h : l.length ≤ 64) : (cenN (nmL r c l (stsL c l l.length))).length ≤ 64 := by
  have := (cen_of (nmL r c l (stsL c l l.length))).le
  rw [nmL_len] at this
  have : (stsL c l l.length).length ≤ l.length := stsL_len _
  omega
theorem C.spec_B10Life {vy : Value} {l : List Int}  {H : Hp} {K : Value → Hp → Prop} (hvy0 : Sl eU H vy l) (hb_vy : bytP l) (hl_vy : l.length ≤ 9223372036854775807)
    (hk : ∀ (lb : List Int) (lz : List Int), (True) → (lifP lb lz ∧ lb.length ≤ 8 ∧ lz.length ≤ 8) → ∀ u1 u2 H', Own eI H' u1 lb → Own eI H' u2 lz → Nw H u1 → Nw H u2 → Apart u1 u2 → Le H H' → K (.agg #[u1, u2]) H') : HT prg I.spec_B10Life [vy].toArray H K := by
 have lE := Le.refl H
 have hvy := hvy0
 refine R.spec_B10Life ?_
 unfold F.spec_B10Life
 refine nw_i (fun p1 H2 op1 nn3 le4 => ?_)
 have np1 : Nw H p1 := nn3.le lE
 replace hvy := hvy.le le4
 replace lE := lE.trans le4
 replace op1 : Cel H2 p1 [(.slice none 0 0), (.slice none 0 0)] := op1
 refine C.spec_l00From hvy (fun z H5 oz nn6 le7 => ?_)
 have ap1Xz : Apart p1 z := op1.apart nn6
 have nz : Nw H z := nn6.le lE
 replace op1 := op1.le le7
 replace hvy := hvy.le le7
 replace lE := lE.trans le7
 replace oz : Cel H5 z [vy, (.int .i64 (0)), (.int .u64 (0))] := oz
 refine C.pspec_l00Src_one (n := 2) hvy0 hb_vy hl_vy lE nz oz (by omega) (by omega) (fun x8 at9 sd10 H11 ap13 aq14 oz off12 => ?_)
 replace op1 := op1.off off12 ap1Xz
 replace hvy := hvy0.le (off12.le lE nz)
 replace lE := off12.le lE nz
 replace oz : Cel H11 z [vy, (.int .i64 (at9)), (.int .u64 (sd10))] := oz
 refine cnd_i (fun hg15 => ?_) (fun hg15 => ?_)
 ·skip
  refine bS_i (enc := eI) (l := [(3 : Int)]) (by omega) rfl (by kernel_rfl) (fun u16 H17 ou16 nn18 le20 => ?_)
  have ap1Xu16 : Apart p1 u16 := op1.apart nn18
  have nu16 : Nw H u16 := nn18.le lE
  replace op1 := op1.le le20
  replace hvy := hvy.le le20
  replace lE := lE.trans le20
  refine bS_i (enc := eI) (l := [(2 : Int), (3 : Int)]) (by omega) rfl (by kernel_rfl) (fun u21 H22 ou21 nn23 le25 => ?_)
  have ap1Xu21 : Apart p1 u21 := op1.apart nn23
  have au16Xu21 : Apart u16 u21 := ou16.apart nn23
  have nu21 : Nw H u21 := nn23.le lE
  replace op1 := op1.le le25
  replace ou16 := ou16.le le25
  replace hvy := hvy.le le25
  replace lE := lE.trans le25
  refine ob_i (a := (.agg #[u16, u21])) (by obtain ⟨_, _, _, rfl⟩ := ou16.isSl; obtain ⟨_, _, _, rfl⟩ := ou21.isSl; rfl) ?_
  refine op1.stn (ws := [u16, u21]) rfl rfl (oc1 ou16.one (oc1 ou21.one oc0)) (fun H26 op1 off27 => ?_)
  replace ou16 := ou16.off off27 ap1Xu16.symm
  replace ou21 := ou21.off off27 ap1Xu21.symm
  replace hvy := hvy0.le (off27.le lE np1)
  replace lE := off27.le lE np1
  replace op1 : Cel H26 p1 [u16, u21] := op1
  refine ob_i (op1.ldn rfl) ?_
  skip
  exact hk  ([(3 : Int)]) ([(2 : Int), (3 : Int)]) (by first | trivial | exact ⟨hlu, hll, hlm⟩ | decide) (by first | trivial | exact ⟨hlu, hll, hlm⟩ | decide) u16 u21 _ ou16 ou21 nu16 nu21 au16Xu21 lE
 ·skip
  refine R.spec_l04DrawLifeOk ?_
  unfold F.spec_l04DrawLifeOk
  refine nw_i (fun q0 H28 oq0 nn29 le30 => ?_)
  have ap1Xq0 : Apart p1 q0 := op1.apart nn29
  have azXq0 : Apart z q0 := oz.apart nn29
  have nq0 : Nw H q0 := nn29.le lE
  replace op1 := op1.le le30
  replace oz := oz.le le30
  replace hvy := hvy.le le30
  replace lE := lE.trans le30
  replace oq0 : Cel H28 q0 [(.slice none 0 0), (.slice none 0 0)] := oq0
  refine bS_i (enc := eI) (l := [(3 : Int)]) (by omega) rfl (by kernel_rfl) (fun u31 H32 ou31 nn33 le35 => ?_)
  have ap1Xu31 : Apart p1 u31 := op1.apart nn33
  have azXu31 : Apart z u31 := oz.apart nn33
  have aq0Xu31 : Apart q0 u31 := oq0.apart nn33
  have nu31 : Nw H u31 := nn33.le lE
  replace op1 := op1.le le35
  replace oz := oz.le le35
  replace oq0 := oq0.le le35
  replace hvy := hvy.le le35
  replace lE := lE.trans le35
  refine bS_i (enc := eI) (l := [(2 : Int), (3 : Int)]) (by omega) rfl (by kernel_rfl) (fun u36 H37 ou36 nn38 le40 => ?_)
  have ap1Xu36 : Apart p1 u36 := op1.apart nn38
  have azXu36 : Apart z u36 := oz.apart nn38
  have aq0Xu36 : Apart q0 u36 := oq0.apart nn38
  have au31Xu36 : Apart u31 u36 := ou31.apart nn38
  have nu36 : Nw H u36 := nn38.le lE
  replace op1 := op1.le le40
  replace oz := oz.le le40
  replace oq0 := oq0.le le40
  replace ou31 := ou31.le le40
  replace hvy := hvy.le le40
  replace lE := lE.trans le40
  refine ob_i (a := (.agg #[u31, u36])) (by obtain ⟨_, _, _, rfl⟩ := ou31.isSl; obtain ⟨_, _, _, rfl⟩ := ou36.isSl; rfl) ?_
  refine nw_i (fun q H41 oq nn42 le43 => ?_)
  have ap1Xq : Apart p1 q := op1.apart nn42
  have azXq : Apart z q := oz.apart nn42
  have aq0Xq : Apart q0 q := oq0.apart nn42
  have au31Xq : Apart u31 q := ou31.apart nn42
  have au36Xq : Apart u36 q := ou36.apart nn42
  have nq : Nw H q := nn42.le lE
  replace op1 := op1.le le43
  replace oz := oz.le le43
  replace oq0 := oq0.le le43
  replace ou31 := ou31.le le43
  replace ou36 := ou36.le le43
  replace hvy := hvy.le le43
  replace lE := lE.trans le43
  replace oq : Cel H41 q [(.slice none 0 0), (.slice none 0 0)] := oq
  refine oq.stn (ws := [u31, u36]) rfl rfl (oc1 ou31.one (oc1 ou36.one oc0)) (fun H44 oq off45 => ?_)
  replace op1 := op1.off off45 ap1Xq
  replace oz := oz.off off45 azXq
  replace oq0 := oq0.off off45 aq0Xq
  replace ou31 := ou31.off off45 au31Xq
  replace ou36 := ou36.off off45 au36Xq
  replace hvy := hvy0.le (off45.le lE nq)
  replace lE := off45.le lE nq
  replace oq : Cel H44 q [u31, u36] := oq
  refine jn_i (fun σ' H' => ∃ u, ∃ v, ∃ lu, ∃ lv, σ' 2 = q0 ∧ σ' 3 = q ∧ Cel H' p1 [(.slice none 0 0), (.slice none 0 0)] ∧ Cel H' q0 [(.slice none 0 0), (.slice none 0 0)] ∧ Cel H' q [u, v] ∧ Own eI H' u (lu) ∧ Own eI H' v (lv) ∧ Nw H u ∧ Apart p1 u ∧ Apart q0 u ∧ Apart q u ∧ Nw H v ∧ Apart p1 v ∧ Apart q0 v ∧ Apart q v ∧ Apart u v ∧ Le H H' ∧ lifP lu lv ∧ lu.length ≤ 8 ∧ lv.length ≤ 8) (fun σ46 H46 hP => ?_) (fun J46 hJ46 => ?_)
  ·skip
   obtain ⟨u, v, lu, lv, g2L46, g3L46, op1, oq0, oq, ou, ov, nu, ap1Xu, aq0Xu, aqXu, nv, ap1Xv, aq0Xv, aqXv, auXv, lE, hlu, hll, hlm⟩ := hP
   have hvy := hvy0.le lE
   try simp only [g2L46, g3L46]
   refine ob_i (oq.ldn rfl) ?_
   refine oq0.stn (ws := [u, v]) rfl rfl (oc1 ou.one (oc1 ov.one oc0)) (fun H47 oq0 off48 => ?_)
   replace op1 := op1.off off48 ap1Xq0
   replace ou := ou.off off48 aq0Xu.symm
   replace ov := ov.off off48 aq0Xv.symm
   replace hvy := hvy0.le (off48.le lE nq0)
   replace lE := off48.le lE nq0
   replace oq0 : Cel H47 q0 [u, v] := oq0
   refine ob_i (oq0.ldn rfl) ?_
   refine op1.stn (ws := [u, v]) rfl rfl (oc1 ou.one (oc1 ov.one oc0)) (fun H49 op1 off50 => ?_)
   replace ou := ou.off off50 ap1Xu.symm
   replace ov := ov.off off50 ap1Xv.symm
   replace hvy := hvy0.le (off50.le lE np1)
   replace lE := off50.le lE np1
   replace op1 : Cel H49 p1 [u, v] := op1
   refine ob_i (op1.ldn rfl) ?_
   skip
   exact hk  lu lv (by first | trivial | exact ⟨hlu, hll, hlm⟩ | decide) (by first | trivial | exact ⟨hlu, hll, hlm⟩ | decide) u v _ ou ov nu nv auXv lE
  refine C.pspec_l00Src_one (n := 2) hvy0 hb_vy hl_vy lE nz oz (by omega) (by omega) (fun x51 at52 sd53 H54 ap56 aq57 oz off55 => ?_)
  replace op1 := op1.off off55 ap1Xz
  replace oq0 := oq0.off off55 azXq0.symm
  replace ou31 := ou31.off off55 azXu31.symm
  replace ou36 := ou36.off off55 azXu36.symm
  replace oq := oq.off off55 azXq.symm
  replace hvy := hvy0.le (off55.le lE nz)
  replace lE := off55.le lE nz
  replace oz : Cel H54 z [vy, (.int .i64 (at52)), (.int .u64 (sd53))] := oz
  refine cnd_i (fun hg58 => ?_) (fun hg58 => ?_)
  ·skip
   refine bS_nil (enc := eI) (fun u59 H60 ou59 nn61 kk62 le63 => ?_)
   have ap1Xu59 : Apart p1 u59 := op1.apart nn61
   have azXu59 : Apart z u59 := oz.apart nn61
   have aq0Xu59 : Apart q0 u59 := oq0.apart nn61
   have au31Xu59 : Apart u31 u59 := ou31.apart nn61
   have au36Xu59 : Apart u36 u59 := ou36.apart nn61
   have aqXu59 : Apart q u59 := oq.apart nn61
   have nu59 : Nw H u59 := nn61.le lE
   replace op1 := op1.le le63
   replace oz := oz.le le63
   replace oq0 := oq0.le le63
   replace ou31 := ou31.le le63
   replace ou36 := ou36.le le63
   replace oq := oq.le le63
   replace hvy := hvy.le le63
   replace lE := lE.trans le63
   refine bS_nil (enc := eI) (fun u64 H65 ou64 nn66 kk67 le68 => ?_)
   have ap1Xu64 : Apart p1 u64 := op1.apart nn66
   have azXu64 : Apart z u64 := oz.apart nn66
   have aq0Xu64 : Apart q0 u64 := oq0.apart nn66
   have au31Xu64 : Apart u31 u64 := ou31.apart nn66
   have au36Xu64 : Apart u36 u64 := ou36.apart nn66
   have aqXu64 : Apart q u64 := oq.apart nn66
   have au59Xu64 : Apart u59 u64 := ou59.apart nn66
   have nu64 : Nw H u64 := nn66.le lE
   replace op1 := op1.le le68
   replace oz := oz.le le68
   replace oq0 := oq0.le le68
   replace ou31 := ou31.le le68
   replace ou36 := ou36.le le68
   replace oq := oq.le le68
   replace ou59 := ou59.le le68
   replace hvy := hvy.le le68
   replace lE := lE.trans le68
   refine ob_i (a := (.agg #[u59, u64])) (by obtain ⟨_, _, _, rfl⟩ := ou59.isSl; obtain ⟨_, _, _, rfl⟩ := ou64.isSl; rfl) ?_
   refine oq.stn (ws := [u59, u64]) rfl rfl (oc1 ou59.one (oc1 ou64.one oc0)) (fun H69 oq off70 => ?_)
   replace op1 := op1.off off70 ap1Xq
   replace oz := oz.off off70 azXq
   replace oq0 := oq0.off off70 aq0Xq
   replace ou31 := ou31.off off70 au31Xq
   replace ou36 := ou36.off off70 au36Xq
   replace ou59 := ou59.off off70 aqXu59.symm
   replace ou64 := ou64.off off70 aqXu64.symm
   replace hvy := hvy0.le (off70.le lE nq)
   replace lE := off70.le lE nq
   replace oq : Cel H69 q [u59, u64] := oq
   refine ⟨fun n' σ' H' => ∃ i : Nat, n' = 8 - i ∧ i ≤ 8 ∧ ∃ u, ∃ v, ∃ lu, ∃ lv, ∃ ats, ∃ sd, σ' 0 = z ∧ σ' 2 = q0 ∧ σ' 3 = q ∧ σ' 4 = (.int .i64 ((i : Int) + 1)) ∧ Cel H' p1 [(.slice none 0 0), (.slice none 0 0)] ∧ Cel H' z [vy, (.int .i64 (ats)), (.int .u64 (sd))] ∧ Cel H' q0 [(.slice none 0 0), (.slice none 0 0)] ∧ Own eI H' u31 ([(3 : Int)]) ∧ Own eI H' u36 ([(2 : Int), (3 : Int)]) ∧ Cel H' q [u, v] ∧ Own eI H' u (lu) ∧ Own eI H' v (lv) ∧ Nw H u ∧ Apart p1 u ∧ Apart z u ∧ Apart q0 u ∧ Apart u31 u ∧ Apart u36 u ∧ Apart q u ∧ Nw H v ∧ Apart p1 v ∧ Apart z v ∧ Apart q0 v ∧ Apart u31 v ∧ Apart u36 v ∧ Apart q v ∧ Apart u v ∧ Le H H' ∧ lifK lu ((i : Int) + 1) ∧ lifK lv ((i : Int) + 1) ∧ lu.length ≤ i ∧ lv.length ≤ i ∧ 0 ≤ ats ∧ ats ≤ 8 + 4 * (i : Int),
    ⟨_, 0, rfl, by omega, u59, u64, [], [], _, _, rfl, rfl, rfl, (congrArg (Value.int .i64) (by first | omega | rfl | (simp; done))), op1, oz, oq0, ou31, ou36, oq, (Own.cast (by first | rfl | (simp; done)) ou59), (Own.cast (by first | rfl | (simp; done)) ou64), nu59, ap1Xu59, azXu59, aq0Xu59, au31Xu59, au36Xu59, aqXu59, nu64, ap1Xu64, azXu64, aq0Xu64, au31Xu64, au36Xu64, aqXu64, au59Xu64, lE, lifK_nil _, lifK_nil _, (by simp), (by simp), ⟨by omega, by omega⟩⟩, ?_⟩
   rintro n71 σ71 H71 ⟨i, rfl, hiN, u, v, lu, lv, ats, sd, g0L71, g2L71, g3L71, g4L71, op1, oz, oq0, ou31, ou36, oq, ou, ov, nu, ap1Xu, azXu, aq0Xu, au31Xu, au36Xu, aqXu, nv, ap1Xv, azXv, aq0Xv, au31Xv, au36Xv, aqXv, auXv, lE, hlu, hlv, hll, hlm, hat⟩
   have hvy := hvy0.le lE
   try simp only [g0L71, g2L71, g3L71, g4L71]
   refine ob_i (vInt_lss _ _ _) ?_
   refine cnd_d (fun hg72 => ?_) (fun hg72 => ?_)
   ·skip
    have ti := hg72
    refine C.pspec_l00Src_one (n := 3) hvy0 hb_vy hl_vy lE nz oz (by omega) (by omega) (fun x73 at74 sd75 H76 ap78 aq79 oz off77 => ?_)
    replace op1 := op1.off off77 ap1Xz
    replace oq0 := oq0.off off77 azXq0.symm
    replace ou31 := ou31.off off77 azXu31.symm
    replace ou36 := ou36.off off77 azXu36.symm
    replace oq := oq.off off77 azXq.symm
    replace ou := ou.off off77 azXu.symm
    replace ov := ov.off off77 azXv.symm
    replace hvy := hvy0.le (off77.le lE nz)
    replace lE := off77.le lE nz
    replace oz : Cel H76 z [vy, (.int .i64 (at74)), (.int .u64 (sd75))] := oz
    refine cnd_i (fun hg80 => ?_) (fun hg80 => ?_)
    ·skip
     refine ob_i (oq.fa 0) ?_
     refine ob_i (oq.ld 0 rfl) ?_
     refine bS_i (enc := eI) (l := [(i : Int) + 1]) (by omega) rfl (by kernel_rfl) (fun u81 H82 ou81 nn83 le85 => ?_)
     replace op1 := op1.le le85
     replace oz := oz.le le85
     replace oq0 := oq0.le le85
     replace ou31 := ou31.le le85
     replace ou36 := ou36.le le85
     replace oq := oq.le le85
     replace ou := ou.le le85
     replace ov := ov.le le85
     replace hvy := hvy.le le85
     replace lE := lE.trans le85
     refine apd_any ou ou81.sl (fun _ => rfl) (by omega) (by first | omega | (simp only [List.length_cons, List.length_nil, List.length_append, List.length_replicate, List.length_map, List.length_range]; omega)) (fun u89 H86 ou89 off87 hb88 => ?_)
     have ap1Xu89 : Apart p1 u89 := Apart.ap2 op1.known ap1Xu hb88
     have azXu89 : Apart z u89 := Apart.ap2 oz.known azXu hb88
     have aq0Xu89 : Apart q0 u89 := Apart.ap2 oq0.known aq0Xu hb88
     have au31Xu89 : Apart u31 u89 := Apart.ap2 ou31.known au31Xu hb88
     have au36Xu89 : Apart u36 u89 := Apart.ap2 ou36.known au36Xu hb88
     have aqXu89 : Apart q u89 := Apart.ap2 oq.known aqXu hb88
     have avXu89 : Apart v u89 := Apart.ap2 ov.known auXv.symm hb88
     have nu89 : Nw H u89 := Nw.ap2 nu lE hb88
     replace op1 := op1.off off87 ap1Xu
     replace oz := oz.off off87 azXu
     replace oq0 := oq0.off off87 aq0Xu
     replace ou31 := ou31.off off87 au31Xu
     replace ou36 := ou36.off off87 au36Xu
     replace oq := oq.off off87 aqXu
     replace ov := ov.off off87 auXv.symm
     replace hvy := hvy0.le (off87.le lE nu)
     replace lE := off87.le lE nu
     refine ob_i (oq.fa 0) ?_
     refine oq.st (by simp) ou89.one ou89.cells (fun H90 oq off91 => ?_)
     replace op1 := op1.off off91 ap1Xq
     replace oz := oz.off off91 azXq
     replace oq0 := oq0.off off91 aq0Xq
     replace ou31 := ou31.off off91 au31Xq
     replace ou36 := ou36.off off91 au36Xq
     replace ov := ov.off off91 aqXv.symm
     replace ou89 := ou89.off off91 aqXu89.symm
     replace hvy := hvy0.le (off91.le lE nq)
     replace lE := off91.le lE nq
     replace oq : Cel H90 q [u89, v] := oq
     refine C.pspec_l00Src_one (n := 3) hvy0 hb_vy hl_vy lE nz oz (by omega) (by omega) (fun x92 at93 sd94 H95 ap97 aq98 oz off96 => ?_)
     replace op1 := op1.off off96 ap1Xz
     replace oq0 := oq0.off off96 azXq0.symm
     replace ou31 := ou31.off off96 azXu31.symm
     replace ou36 := ou36.off off96 azXu36.symm
     replace oq := oq.off off96 azXq.symm
     replace ov := ov.off off96 azXv.symm
     replace ou89 := ou89.off off96 azXu89.symm
     replace hvy := hvy0.le (off96.le lE nz)
     replace lE := off96.le lE nz
     replace oz : Cel H95 z [vy, (.int .i64 (at93)), (.int .u64 (sd94))] := oz
     refine cnd_i (fun hg99 => ?_) (fun hg99 => ?_)
     ·skip
      refine ob_i (oq.fa 1) ?_
      refine ob_i (oq.ld 1 rfl) ?_
      refine bS_i (enc := eI) (l := [(i : Int) + 1]) (by omega) rfl (by kernel_rfl) (fun u100 H101 ou100 nn102 le104 => ?_)
      replace op1 := op1.le le104
      replace oz := oz.le le104
      replace oq0 := oq0.le le104
      replace ou31 := ou31.le le104
      replace ou36 := ou36.le le104
      replace oq := oq.le le104
      replace ov := ov.le le104
      replace ou89 := ou89.le le104
      replace hvy := hvy.le le104
      replace lE := lE.trans le104
      refine apd_any ov ou100.sl (fun _ => rfl) (by omega) (by first | omega | (simp only [List.length_cons, List.length_nil, List.length_append, List.length_replicate, List.length_map, List.length_range]; omega)) (fun u108 H105 ou108 off106 hb107 => ?_)
      have ap1Xu108 : Apart p1 u108 := Apart.ap2 op1.known ap1Xv hb107
      have azXu108 : Apart z u108 := Apart.ap2 oz.known azXv hb107
      have aq0Xu108 : Apart q0 u108 := Apart.ap2 oq0.known aq0Xv hb107
      have au31Xu108 : Apart u31 u108 := Apart.ap2 ou31.known au31Xv hb107
      have au36Xu108 : Apart u36 u108 := Apart.ap2 ou36.known au36Xv hb107
      have aqXu108 : Apart q u108 := Apart.ap2 oq.known aqXv hb107
      have au89Xu108 : Apart u89 u108 := Apart.ap2 ou89.known avXu89.symm hb107
      have nu108 : Nw H u108 := Nw.ap2 nv lE hb107
      replace op1 := op1.off off106 ap1Xv
      replace oz := oz.off off106 azXv
      replace oq0 := oq0.off off106 aq0Xv
      replace ou31 := ou31.off off106 au31Xv
      replace ou36 := ou36.off off106 au36Xv
      replace oq := oq.off off106 aqXv
      replace ou89 := ou89.off off106 avXu89.symm
      replace hvy := hvy0.le (off106.le lE nv)
      replace lE := off106.le lE nv
      refine ob_i (oq.fa 1) ?_
      refine oq.st (by simp) ou108.one ou108.cells (fun H109 oq off110 => ?_)
      replace op1 := op1.off off110 ap1Xq
      replace oz := oz.off off110 azXq
      replace oq0 := oq0.off off110 aq0Xq
      replace ou31 := ou31.off off110 au31Xq
      replace ou36 := ou36.off off110 au36Xq
      replace ou89 := ou89.off off110 aqXu89.symm
      replace ou108 := ou108.off off110 aqXu108.symm
      replace hvy := hvy0.le (off110.le lE nq)
      replace lE := off110.le lE nq
      replace oq : Cel H109 q [u89, u108] := oq
      refine ob_i (vInt_add (by omega) (by omega)) ?_
      exact nxt (8 - (i + 1)) (by omega) ⟨i + 1, rfl, by omega, u89, u108, (lu ++ ([(i : Int) + 1])), (lv ++ ([(i : Int) + 1])), (at93), (sd94), g0L71, g2L71, g3L71, (congrArg (Value.int .i64) (by first | omega | rfl | (simp; done))), op1, oz, oq0, ou31, ou36, oq, ou89, ou108, nu89, ap1Xu89, azXu89, aq0Xu89, au31Xu89, au36Xu89, aqXu89, nu108, ap1Xu108, azXu108, aq0Xu108, au31Xu108, au36Xu108, aqXu108, au89Xu108, lE, (by first | exact lifK_mono hlu (by omega) | exact lifK_snoc hlu (by omega) (by omega) (by omega)), (by first | exact lifK_mono hlv (by omega) | exact lifK_snoc hlv (by omega) (by omega) (by omega)), (by first | (simp only [List.length_append, List.length_singleton]; omega) | omega), (by first | (simp only [List.length_append, List.length_singleton]; omega) | omega), ⟨by omega, by omega⟩⟩
     ·skip
      refine ob_i (vInt_add (by omega) (by omega)) ?_
      exact nxt (8 - (i + 1)) (by omega) ⟨i + 1, rfl, by omega, u89, v, (lu ++ ([(i : Int) + 1])), (lv), (at93), (sd94), g0L71, g2L71, g3L71, (congrArg (Value.int .i64) (by first | omega | rfl | (simp; done))), op1, oz, oq0, ou31, ou36, oq, ou89, ov, nu89, ap1Xu89, azXu89, aq0Xu89, au31Xu89, au36Xu89, aqXu89, nv, ap1Xv, azXv, aq0Xv, au31Xv, au36Xv, aqXv, avXu89.symm, lE, (by first | exact lifK_mono hlu (by omega) | exact lifK_snoc hlu (by omega) (by omega) (by omega)), (by first | exact lifK_mono hlv (by omega) | exact lifK_snoc hlv (by omega) (by omega) (by omega)), (by first | (simp only [List.length_append, List.length_singleton]; omega) | omega), (by first | (simp only [List.length_append, List.length_singleton]; omega) | omega), ⟨by omega, by omega⟩⟩
    ·skip
     refine C.pspec_l00Src_one (n := 3) hvy0 hb_vy hl_vy lE nz oz (by omega) (by omega) (fun x111 at112 sd113 H114 ap116 aq117 oz off115 => ?_)
     replace op1 := op1.off off115 ap1Xz
     replace oq0 := oq0.off off115 azXq0.symm
     replace ou31 := ou31.off off115 azXu31.symm
     replace ou36 := ou36.off off115 azXu36.symm
     replace oq := oq.off off115 azXq.symm
     replace ou := ou.off off115 azXu.symm
     replace ov := ov.off off115 azXv.symm
     replace hvy := hvy0.le (off115.le lE nz)
     replace lE := off115.le lE nz
     replace oz : Cel H114 z [vy, (.int .i64 (at112)), (.int .u64 (sd113))] := oz
     refine cnd_i (fun hg118 => ?_) (fun hg118 => ?_)
     ·skip
      refine ob_i (oq.fa 1) ?_
      refine ob_i (oq.ld 1 rfl) ?_
      refine bS_i (enc := eI) (l := [(i : Int) + 1]) (by omega) rfl (by kernel_rfl) (fun u119 H120 ou119 nn121 le123 => ?_)
      replace op1 := op1.le le123
      replace oz := oz.le le123
      replace oq0 := oq0.le le123
      replace ou31 := ou31.le le123
      replace ou36 := ou36.le le123
      replace oq := oq.le le123
      replace ou := ou.le le123
      replace ov := ov.le le123
      replace hvy := hvy.le le123
      replace lE := lE.trans le123
      refine apd_any ov ou119.sl (fun _ => rfl) (by omega) (by first | omega | (simp only [List.length_cons, List.length_nil, List.length_append, List.length_replicate, List.length_map, List.length_range]; omega)) (fun u127 H124 ou127 off125 hb126 => ?_)
      have ap1Xu127 : Apart p1 u127 := Apart.ap2 op1.known ap1Xv hb126
      have azXu127 : Apart z u127 := Apart.ap2 oz.known azXv hb126
      have aq0Xu127 : Apart q0 u127 := Apart.ap2 oq0.known aq0Xv hb126
      have au31Xu127 : Apart u31 u127 := Apart.ap2 ou31.known au31Xv hb126
      have au36Xu127 : Apart u36 u127 := Apart.ap2 ou36.known au36Xv hb126
      have aqXu127 : Apart q u127 := Apart.ap2 oq.known aqXv hb126
      have auXu127 : Apart u u127 := Apart.ap2 ou.known auXv hb126
      have nu127 : Nw H u127 := Nw.ap2 nv lE hb126
      replace op1 := op1.off off125 ap1Xv
      replace oz := oz.off off125 azXv
      replace oq0 := oq0.off off125 aq0Xv
      replace ou31 := ou31.off off125 au31Xv
      replace ou36 := ou36.off off125 au36Xv
      replace oq := oq.off off125 aqXv
      replace ou := ou.off off125 auXv
      replace hvy := hvy0.le (off125.le lE nv)
      replace lE := off125.le lE nv
      refine ob_i (oq.fa 1) ?_
      refine oq.st (by simp) ou127.one ou127.cells (fun H128 oq off129 => ?_)
      replace op1 := op1.off off129 ap1Xq
      replace oz := oz.off off129 azXq
      replace oq0 := oq0.off off129 aq0Xq
      replace ou31 := ou31.off off129 au31Xq
      replace ou36 := ou36.off off129 au36Xq
      replace ou := ou.off off129 aqXu.symm
      replace ou127 := ou127.off off129 aqXu127.symm
      replace hvy := hvy0.le (off129.le lE nq)
      replace lE := off129.le lE nq
      replace oq : Cel H128 q [u, u127] := oq
      refine ob_i (vInt_add (by omega) (by omega)) ?_
      exact nxt (8 - (i + 1)) (by omega) ⟨i + 1, rfl, by omega, u, u127, (lu), (lv ++ ([(i : Int) + 1])), (at112), (sd113), g0L71, g2L71, g3L71, (congrArg (Value.int .i64) (by first | omega | rfl | (simp; done))), op1, oz, oq0, ou31, ou36, oq, ou, ou127, nu, ap1Xu, azXu, aq0Xu, au31Xu, au36Xu, aqXu, nu127, ap1Xu127, azXu127, aq0Xu127, au31Xu127, au36Xu127, aqXu127, auXu127, lE, (by first | exact lifK_mono hlu (by omega) | exact lifK_snoc hlu (by omega) (by omega) (by omega)), (by first | exact lifK_mono hlv (by omega) | exact lifK_snoc hlv (by omega) (by omega) (by omega)), (by first | (simp only [List.length_append, List.length_singleton]; omega) | omega), (by first | (simp only [List.length_append, List.length_singleton]; omega) | omega), ⟨by omega, by omega⟩⟩
     ·skip
      refine ob_i (vInt_add (by omega) (by omega)) ?_
      exact nxt (8 - (i + 1)) (by omega) ⟨i + 1, rfl, by omega, u, v, (lu), (lv), (at112), (sd113), g0L71, g2L71, g3L71, (congrArg (Value.int .i64) (by first | omega | rfl | (simp; done))), op1, oz, oq0, ou31, ou36, oq, ou, ov, nu, ap1Xu, azXu, aq0Xu, au31Xu, au36Xu, aqXu, nv, ap1Xv, azXv, aq0Xv, au31Xv, au36Xv, aqXv, auXv, lE, (by first | exact lifK_mono hlu (by omega) | exact lifK_snoc hlu (by omega) (by omega) (by omega)), (by first | exact lifK_mono hlv (by omega) | exact lifK_snoc hlv (by omega) (by omega) (by omega)), (by first | (simp only [List.length_append, List.length_singleton]; omega) | omega), (by first | (simp only [List.length_append, List.length_singleton]; omega) | omega), ⟨by omega, by omega⟩⟩
   ·skip
    have ti := hg72
    exact hJ46 _ _ ⟨u, v, _, _, g2L71, g3L71, op1, oq0, oq, ou, ov, nu, ap1Xu, aq0Xu, aqXu, nv, ap1Xv, aq0Xv, aqXv, auXv, lE, (by first | exact ⟨hlu.1, hlv.1⟩ | decide), (by first | decide | omega), (by first | decide | omega)⟩
  ·skip
   exact hJ46 _ _ ⟨u31, u36, _, _, rfl, rfl, op1, oq0, oq, ou31, ou36, nu31, ap1Xu31, aq0Xu31, au31Xq.symm, nu36, ap1Xu36, aq0Xu36, au36Xq.symm, au31Xu36, lE, (by first | exact ⟨hlu.1, hlv.1⟩ | decide), (by first | decide | omega), (by first | decide | omega)⟩
theorem C.laws_b10Ints {va vb : Value} {l : List Int} {m : List Int}  {H : Hp} {K : Value → Hp → Prop} (hva0 : Sl eI H va l) (hvb0 : Sl eI H vb m) (k1 : l.length ≤ 9223372036854775807)
    (hk : ∀ H', Le H H' → K (.bool (decide (l = m))) H') : HT prg I.laws_b10Ints [va, vb].toArray H K := by
 have lE := Le.refl H
 have hva := hva0
 have hvb := hvb0
 refine R.laws_b10Ints ?_
 unfold F.laws_b10Ints
 refine ob_i (hva.len) ?_
 refine ob_i (hvb.len) ?_
 refine ob_i (vInt_neq _ _ _) ?_
 refine cnd_d (fun hg1 => ?_) (fun hg1 => ?_)
 ·skip
  skip
  exact keq (K := K) (by rw [decide_eq_false (show ¬ (l = m) from by intro h; subst h; omega)]; try rfl) (hk   _    lE)
 ·skip
  refine jn_i (fun σ' H' => Le H H' ∧ (∀ j : Nat, j < l.length → at_ 0 l (j : Int) = at_ 0 m (j : Int))) (fun σ2 H2 hP => ?_) (fun J2 hJ2 => ?_)
  ·skip
   obtain ⟨lE, ho0⟩ := hP
   skip
   exact keq (K := K) (by rw [decide_eq_true (show (l = m) from by exact ints_eq (by omega) ho0)]; try rfl) (hk   _    lE)
  refine ob_i (hva.len) ?_
  refine ⟨fun n' σ' H' => ∃ i : Nat, n' = l.length - i ∧ i ≤ l.length ∧ σ' 0 = va ∧ σ' 1 = vb ∧ σ' 12 = (.int .i64 (((l).length : Int))) ∧ σ' 13 = (.int .i64 ((i : Int))) ∧ Le H H' ∧ (∀ j : Nat, j < i → at_ 0 l (j : Int) = at_ 0 m (j : Int)),
   ⟨_, 0, rfl, by omega, rfl, rfl, rfl, (congrArg (Value.int .i64) (by first | omega | rfl | (simp; done))), lE, (fun j hj => by omega)⟩, ?_⟩
  rintro n3 σ3 H3 ⟨i, rfl, hiN, g0L3, g1L3, g12L3, g13L3, lE, hm0⟩
  have hva := hva0.le lE
  have hvb := hvb0.le lE
  try simp only [g0L3, g1L3, g12L3, g13L3]
  refine ob_i (vInt_lss _ _ _) ?_
  refine cnd_d (fun hg4 => ?_) (fun hg4 => ?_)
  ·skip
   have ti := hg4
   refine ob_i (hva.ix (by omega) (by omega)) ?_
   refine ob_i (hva.ld 0 (by omega) (by omega)) ?_
   refine ob_i (hvb.ix (by omega) (by omega)) ?_
   refine ob_i (hvb.ld 0 (by omega) (by omega)) ?_
   refine ob_i (vInt_neq _ _ _) ?_
   refine cnd_d (fun hg5 => ?_) (fun hg5 => ?_)
   ·skip
    refine retK (K := K) (v' := (.bool false)) rfl ?_
    skip
    exact keq (K := K) (by rw [decide_eq_false (show ¬ (l = m) from by intro h; subst h; omega)]; try rfl) (hk   _    lE)
   ·skip
    refine ob_i (vInt_add (by omega) (by omega)) ?_
    exact nxt (l.length - (i + 1)) (by omega) ⟨i + 1, rfl, by omega, g0L3, g1L3, g12L3, (congrArg (Value.int .i64) (by first | omega | rfl | (simp; done))), lE, (ints_snoc hm0 (Decidable.not_not.mp hg5))⟩
  ·skip
   have ti := hg4
   exact hJ2 _ _ ⟨lE, (by rw [show l.length = i by omega]; exact hm0)⟩
theorem C.laws_b10Long {vy vm : Value} {l : List Int} {m : List Int}  {H : Hp} {K : Value → Hp → Prop} (hvy0 : Sl eU H vy l) (hvm0 : Sl eU H vm m)
    (hk : ∀ H', Le H H' → K (.bool (decide (1048576 < l.length ∨ 1048576 < m.length))) H') : HT prg I.laws_b10Long [vy, vm].toArray H K := by
 have lE := Le.refl H
 have hvy := hvy0
 have hvm := hvm0
 refine R.laws_b10Long ?_
 unfold F.laws_b10Long
 refine ob_i (hvy.len) ?_
 refine ob_i (vInt_gtr _ _ _) ?_
 by_cases hc1 : 1048576 < (((l).length : Int))
 ·skip
  refine gop_e (decide_eq_true hc1) ?_
  refine gop_st ?_
  refine gop_e (decide_eq_true hc1) ?_
  refine gop_st ?_
  refine gop_e (decide_eq_true hc1) ?_
  refine gop_st ?_
  refine ob_i (vPick_et (decide_eq_true hc1) _ _) ?_
  skip
  exact keq (K := K) (by rw [decide_eq_true (show (1048576 < l.length ∨ 1048576 < m.length) from by omega)]; try rfl) (hk   _    lE)
 ·skip
  refine gop_e (decide_eq_false hc1) ?_
  refine gop_rf ?_
  refine gop_e (decide_eq_false hc1) ?_
  refine gop_rf ?_
  refine ob_i (hvm.len) ?_
  refine gop_e (decide_eq_false hc1) ?_
  refine gop_rf ?_
  refine ob_i (vInt_gtr _ _ _) ?_
  refine ob_i (vPick_ef (decide_eq_false hc1) _ _) ?_
  skip
  exact keq (K := K) (by rw [show decide (1048576 < (((m).length : Int))) = decide (1048576 < l.length ∨ 1048576 < m.length) from decide_eq_decide.mpr (by omega)]; try rfl) (hk   _    lE)
theorem C.spec_CountCells {vc : Value} {r c v : Int} {l : List Int}  {H : Hp} {K : Value → Hp → Prop} (hvc0 : Sl eI H vc l) (hf : fieldN 1 r c l)
    (hk : ∀ H', Le H H' → K (.tuple #[(.int .i64 (cntE v l)), (.bool true)]) H') : HT prg I.spec_CountCells [(.agg #[(.int .i64 (r)), (.int .i64 (c)), vc]), (.int .i64 (v))].toArray H K := by
 have lE := Le.refl H
 have hvc := hvc0
 refine R.spec_CountCells ?_
 unfold F.spec_CountCells
 have k1 := fieldN_len hf
 have h9 : fieldN 9 r c l := ⟨hf.1, hf.2.1, fun x hx => by have := hf.2.2 x hx; omega⟩
 refine nw_i (fun p1 H2 op1 nn3 le4 => ?_)
 replace hvc := hvc.le le4
 replace lE := lE.trans le4
 replace op1 : Cel H2 p1 [(.int .i64 (r)), (.int .i64 (c)), vc] := op1
 refine C.spec_l04Is op1 hvc (by first | omega | assumption) ?_
 refine ob_nd (fun hc5 => ?_) (fun hc5 => ?_)
 ·skip
  refine cnd_f1 ?_
  refine jn_i (fun σ' H' => σ' 6 = (.int .i64 (cntE v l)) ∧ Cel H' p1 [(.int .i64 (r)), (.int .i64 (c)), vc] ∧ Le H H') (fun σ6 H6 hP => ?_) (fun J6 hJ6 => ?_)
  ·skip
   obtain ⟨g6L6, op1, lE⟩ := hP
   try simp only [g6L6]
   skip
   exact hk   _    lE
  refine ⟨fun n' σ' H' => ∃ i : Nat, n' = l.length - i ∧ i ≤ l.length ∧ σ' 1 = (.int .i64 (v)) ∧ σ' 2 = p1 ∧ σ' 6 = (.int .i64 (cntE v (l.take i))) ∧ σ' 7 = (.int .i64 ((i : Int))) ∧ Cel H' p1 [(.int .i64 (r)), (.int .i64 (c)), vc] ∧ Le H H',
   ⟨_, 0, rfl, by omega, rfl, rfl, (congrArg (Value.int .i64) (by first | omega | rfl | (simp; done))), (congrArg (Value.int .i64) (by first | omega | rfl | (simp; done))), op1, lE⟩, ?_⟩
  rintro n7 σ7 H7 ⟨i, rfl, hiN, g1L7, g2L7, g6L7, g7L7, op1, lE⟩
  have hvc := hvc0.le lE
  try simp only [g1L7, g2L7, g6L7, g7L7]
  have bb := cntE_bnd v (l.take i)
  have bl : ((l.take i).length : Int) ≤ 1000 := by simp; omega
  refine ob_i (op1.fa 2) ?_
  refine ob_i (op1.ld 2 rfl) ?_
  refine ob_i (hvc.len) ?_
  refine ob_i (vInt_lss _ _ _) ?_
  refine cnd_d (fun hg8 => ?_) (fun hg8 => ?_)
  ·skip
   have ti := hg8
   refine ob_i (op1.fa 2) ?_
   refine ob_i (op1.ld 2 rfl) ?_
   refine ob_i (hvc.ix (by omega) (by omega)) ?_
   refine ob_i (hvc.ld 0 (by omega) (by omega)) ?_
   refine ob_i (vInt_eql _ _ _) ?_
   refine cnd_d (fun hg9 => ?_) (fun hg9 => ?_)
   ·skip
    refine ob_i (vInt_add (by omega) (by omega)) ?_
    refine ob_i (vInt_add (by omega) (by omega)) ?_
    have eS := cntE_take (v := v) (l := l) (i := i) (by omega)
    rw [if_pos hg9] at eS
    exact nxt (l.length - (i + 1)) (by omega) ⟨i + 1, rfl, by omega, g1L7, g2L7, (congrArg (Value.int .i64) (by first | omega | rfl | (simp; done))), (congrArg (Value.int .i64) (by first | omega | rfl | (simp; done))), op1, lE⟩
   ·skip
    refine ob_i (vInt_add (by omega) (by omega)) ?_
    have eS := cntE_take (v := v) (l := l) (i := i) (by omega)
    rw [if_neg hg9] at eS
    exact nxt (l.length - (i + 1)) (by omega) ⟨i + 1, rfl, by omega, g1L7, g2L7, (g6L7.trans (congrArg (Value.int .i64) (by first | omega | rfl | (simp; done)))), (congrArg (Value.int .i64) (by first | omega | rfl | (simp; done))), op1, lE⟩
  ·skip
   have ti := hg8
   rw [List.take_of_length_le (by omega)] at *
   exact hJ6 _ _ ⟨(g6L7.trans (congrArg (Value.int .i64) (by first | omega | rfl | (simp; done)))), op1, lE⟩
 ·skip
  exact absurd hc5 (fun h => h h9)
theorem C.iSoupOf_ok {vb vs : Value} {r x st : Int} {b : List Int} {s : List Int} {sh : Nat} {H : Hp} {K : Value → Hp → Prop} (hvb0 : Sl eI H vb b) (hvs0 : Sl eI H vs s) (kb : b.length ≤ 9223372036854775807) (ks : s.length ≤ 9223372036854775807) (hP : soP b s r sh x st ∧ (cenN (nmL r r (soL b s r x sh st.toNat) (stsL r (soL b s r x sh st.toNat) ((soL b s r x sh st.toNat)).length))).length ≤ 64)
    (hk : ∀ u1 u2 H', Own vS H' u1 (cenN (nmL r r (soL b s r x sh st.toNat) (stsL r (soL b s r x sh st.toNat) ((soL b s r x sh st.toNat)).length))) → Own eI H' u2 (cenC (nmL r r (soL b s r x sh st.toNat) (stsL r (soL b s r x sh st.toNat) ((soL b s r x sh st.toNat)).length))) → Nw H u1 → Nw H u2 → Apart u1 u2 → Le H H' → K (.tuple #[u1, u2, (.int .i64 (sdS x (r.toNat * r.toNat))), (.bool true)]) H') : HT prg I.impl_SoupOf [(.agg #[vb, vs]), (.int .i64 (r)), (.float .f32 sh), (.int .i64 (x)), (.int .i64 (st))].toArray H K :=
  C.impl_SoupOf hvb0 hvs0 kb ks (fun u1 u2 H' ou1 ou2 nu1 nu2 au1u2 le => by rw [selL_t hP] at ou1 ou2; simp only [selI_t hP, decide_eq_true hP]; exact hk u1 u2 H' ou1 ou2 nu1 nu2 au1u2 le)
theorem C.sSoupOf_ok {vb vs : Value} {r x st : Int} {b : List Int} {s : List Int} {sh : Nat} {H : Hp} {K : Value → Hp → Prop} (hvb0 : Sl eI H vb b) (hvs0 : Sl eI H vs s) (kb : b.length ≤ 9223372036854775807) (ks : s.length ≤ 9223372036854775807) (hP : soP b s r sh x st ∧ (cenN (nmL r r (soL b s r x sh st.toNat) (stsL r (soL b s r x sh st.toNat) ((soL b s r x sh st.toNat)).length))).length ≤ 64)
    (hk : ∀ u1 u2 H', Own vS H' u1 (cenN (nmL r r (soL b s r x sh st.toNat) (stsL r (soL b s r x sh st.toNat) ((soL b s r x sh st.toNat)).length))) → Own eI H' u2 (cenC (nmL r r (soL b s r x sh st.toNat) (stsL r (soL b s r x sh st.toNat) ((soL b s r x sh st.toNat)).length))) → Nw H u1 → Nw H u2 → Apart u1 u2 → Le H H' → K (.tuple #[u1, u2, (.int .i64 (sdS x (r.toNat * r.toNat))), (.bool true)]) H') : HT prg I.spec_SoupOf [(.agg #[vb, vs]), (.int .i64 (r)), (.float .f32 sh), (.int .i64 (x)), (.int .i64 (st))].toArray H K :=
  C.spec_SoupOf hvb0 hvs0 kb ks (fun u1 u2 H' ou1 ou2 nu1 nu2 au1u2 le => by rw [selL_t hP] at ou1 ou2; simp only [selI_t hP, decide_eq_true hP]; exact hk u1 u2 H' ou1 ou2 nu1 nu2 au1u2 le)
theorem C.SoupsShared_ok {vb vs va : Value} {r st wk : Int} {b : List Int} {s : List Int} {l : List Int} {sh : Nat} {H : Hp} {K : Value → Hp → Prop} (hvb0 : Sl eI H vb b) (hvs0 : Sl eI H vs s) (hva0 : Sl eI H va l) (kb : b.length ≤ 9223372036854775807) (ks : s.length ≤ 9223372036854775807) (k1 : l.length ≤ 9223372036854775807) (hP : ssP b s r sh l st wk)
    (hk : ∀ u1 H', Own eI H' u1 (ssL b s r sh st.toNat l) → Nw H u1 → Le H H' → K (.tuple #[u1, (.bool true)]) H') : HT prg I.impl_SoupsShared [(.agg #[vb, vs]), (.int .i64 (r)), (.float .f32 sh), va, (.int .i64 (st)), (.int .i64 (wk))].toArray H K :=
  C.impl_SoupsShared hvb0 hvs0 hva0 kb ks k1 (fun u1 H' ou1 nu1  le => by rw [selL_t hP] at ou1; simp only [selI_t hP, decide_eq_true hP]; exact hk u1 H' ou1 nu1  le)
theorem C.sRunLife_ok {vb vs vc : Value} {r c st : Int} {rnd : Bool} {b : List Int} {s : List Int} {l : List Int}  {H : Hp} {K : Value → Hp → Prop} (hvb0 : Sl eI H vb b) (hvs0 : Sl eI H vs s) (hvc0 : Sl eI H vc l) (kb : b.length ≤ 9223372036854775807) (ks : s.length ≤ 9223372036854775807) (k1 : l.length ≤ 9223372036854775807) (hP : runP b s r c l st)
    (hk : ∀ u1 H', Own eI H' u1 (rnL rnd b s r c l st.toNat) → Nw H u1 → Le H H' → K (.tuple #[(.agg #[(.int .i64 (r)), (.int .i64 (c)), u1]), (.bool true)]) H') : HT prg I.spec_RunLife [(.agg #[vb, vs]), (.agg #[(.int .i64 (r)), (.int .i64 (c)), vc]), (.bool (rnd)), (.int .i64 (st))].toArray H K :=
  C.spec_RunLife hvb0 hvs0 hvc0 kb ks k1 (fun u1 H' ou1 nu1  le => by rw [selL_t hP] at ou1; simp only [selI_t hP, decide_eq_true hP]; exact hk u1 H' ou1 nu1  le)
theorem C.sDraw_ok {r c x : Int} {sh : Nat} {H : Hp} {K : Value → Hp → Prop} (hP : drP r c x sh) (hk : ∀ u1 H', Own eI H' u1 (drL r c x sh) → Nw H u1 → Le H H' → K (.tuple #[.agg #[.int .i64 r, .int .i64 c, u1], .int .i64 (sdS x (r.toNat * c.toNat)), .bool true]) H') : HT prg I.spec_DrawField [.int .i64 r, .int .i64 c, .float .f32 sh, .int .i64 x].toArray H K :=
  C.spec_DrawField (fun h => absurd hP h) (fun _ => hk)
set_option maxHeartbeats 4000000 in
theorem C.laws_FnSoups {vy vm : Value} {l : List Int} {mm : List Int}  {H : Hp} {K : Value → Hp → Prop} (hvy0 : Sl eU H vy l) (hvm0 : Sl eU H vm mm) (hb_vy : bytP l) (hl_vy : l.length ≤ 9223372036854775807) (hb_vm : bytP mm) (hl_vm : mm.length ≤ 9223372036854775807)
    (hk : ∀ H', Le H H' → K (.bool true) H') : HT prg I.laws_FnSoups [vy, vm].toArray H K := by
 have lE := Le.refl H
 have hvy := hvy0
 have hvm := hvm0
 refine R.laws_FnSoups ?_
 unfold F.laws_FnSoups
 refine C.laws_b10Long hvy hvm (fun   H1    le2 => ?_)
 replace hvy := hvy.le le2
 replace hvm := hvm.le le2
 replace lE := lE.trans le2
 refine cnd_d (fun hg3 => ?_) (fun hg3 => ?_)
 ·skip
  skip
  exact hk   _    lE
 ·skip
  refine C.spec_B10Life hvy (by first | omega | assumption) (by first | omega | assumption) (fun  lb lz hlb hlz u6 u7 H4 ou6 ou7 nn8 nn9 au6Xu7 le5 => ?_)
  replace hvy := hvy.le le5
  replace hvm := hvm.le le5
  replace lE := lE.trans le5
  refine nw_i (fun p10 H11 op10 nn12 le13 => ?_)
  have au6Xp10 : Apart u6 p10 := ou6.apart nn12
  have au7Xp10 : Apart u7 p10 := ou7.apart nn12
  have np10 : Nw H p10 := nn12.le lE
  replace ou6 := ou6.le le13
  replace ou7 := ou7.le le13
  replace hvy := hvy.le le13
  replace hvm := hvm.le le13
  replace lE := lE.trans le13
  replace op10 : Cel H11 p10 [(.slice none 0 0), (.slice none 0 0)] := op10
  refine op10.stn (ws := [u6, u7]) rfl rfl (oc1 ou6.one (oc1 ou7.one oc0)) (fun H14 op10 off15 => ?_)
  replace ou6 := ou6.off off15 au6Xp10
  replace ou7 := ou7.off off15 au7Xp10
  replace hvy := hvy0.le (off15.le lE np10)
  replace hvm := hvm0.le (off15.le lE np10)
  replace lE := off15.le lE np10
  replace op10 : Cel H14 p10 [u6, u7] := op10
  refine C.laws_b10At (k := 0) (n := 8) hvm hb_vm hl_vm (by omega) (by omega) (fun x16 xp17 xq18 => ?_)
  replace xq18 := xq18 (by omega)
  refine ob_i (vInt_add (by omega) (by omega)) ?_
  obtain ⟨r, hr⟩ : ∃ x : Int, x = 1 + x16 := ⟨_, rfl⟩
  rw [← hr]
  refine C.laws_b10At (k := 1) (n := 9) hvm hb_vm hl_vm (by omega) (by omega) (fun x19 xp20 xq21 => ?_)
  replace xq21 := xq21 (by omega)
  obtain ⟨kk, hkk⟩ : ∃ x : Int, x = x19 := ⟨_, rfl⟩
  rw [← hkk]
  refine ob_i (a := (.float .f32 (FloatKind.nearest .f32 (kk)))) rfl ?_
  refine fA_i (o := (FloatKind.f32.format.div (FloatKind.nearest .f32 (kk)) 1090519040)) rfl (fun t => nan_bits32 _ _ t) (fun zs hzs => ?_)
  refine C.laws_b10At (k := 2) (n := 256) hvm hb_vm hl_vm (by omega) (by omega) (fun x22 xp23 xq24 => ?_)
  replace xq24 := xq24 (by omega)
  refine ob_i (vInt_mul (by omega) (by omega)) ?_
  refine C.laws_b10At (k := 3) (n := 256) hvm hb_vm hl_vm (by omega) (by omega) (fun x25 xp26 xq27 => ?_)
  replace xq27 := xq27 (by omega)
  refine ob_i (vInt_add (by omega) (by omega)) ?_
  obtain ⟨x, hx⟩ : ∃ x : Int, x = (1000 * x22) + x25 := ⟨_, rfl⟩
  rw [← hx]
  refine C.laws_b10At (k := 4) (n := 10) hvm hb_vm hl_vm (by omega) (by omega) (fun x28 xp29 xq30 => ?_)
  replace xq30 := xq30 (by omega)
  obtain ⟨st, hst⟩ : ∃ x : Int, x = x28 := ⟨_, rfl⟩
  rw [← hst]
  refine ob_i (op10.ldn rfl) ?_
  have hsq : sidesF r r := ⟨⟨by omega, by omega⟩, by omega, by omega⟩
  have hsh : shrP zs := share_ok (by omega) (by omega) hzs
  have hso : soP lb lz r zs x st := ⟨hlz.1, by omega, hsq, hsh, by omega, by omega⟩
  have hff : fieldN 1 r r (soL lb lz r x zs st.toNat) := soL_field hsq
  have qm := sidesF_mul hsq
  have hl := hff.2.1
  have q8 : r * r ≤ 8 * 8 := Int.mul_le_mul (by omega) (by omega) (by omega) (by omega)
  have l64 : ((soL lb lz r x zs st.toNat)).length ≤ 64 := by omega
  have hcn := cen_many (r := r) (c := r) l64
  have hdf : fieldN 1 r r (drL r r x zs) := drL_field hsq
  have ldf := fieldN_len hdf
  have hrf : fieldN 1 r r (rnL true lb lz r r (drL r r x zs) st.toNat) := rnL_field hdf _
  have lrf := fieldN_len hrf
  have hcl := (cen_of (nmL r r (soL lb lz r x zs st.toNat) (stsL r (soL lb lz r x zs st.toNat) ((soL lb lz r x zs st.toNat)).length))).len
  refine C.iSoupOf_ok ou6.sl ou7.sl (by first | omega | assumption) (by first | omega | assumption) (by exact ⟨hso, hcn⟩) (fun  u33 u34 H31 ou33 ou34 nn35 nn36 au33Xu34 le32 => ?_)
  replace ou6 := ou6.le le32
  replace ou7 := ou7.le le32
  replace op10 := op10.le le32
  replace hvy := hvy.le le32
  replace hvm := hvm.le le32
  replace lE := lE.trans le32
  refine ob_i (vExt_40 _ _ _ _) ?_
  refine ob_i (vExt_41 _ _ _ _) ?_
  refine ob_i (vExt_42 _ _ _ _) ?_
  refine ob_i (vExt_43 _ _ _ _) ?_
  refine ob_i (op10.ldn rfl) ?_
  refine C.sSoupOf_ok ou6.sl ou7.sl (by first | omega | assumption) (by first | omega | assumption) (by exact ⟨hso, hcn⟩) (fun  u39 u40 H37 ou39 ou40 nn41 nn42 au39Xu40 le38 => ?_)
  replace ou6 := ou6.le le38
  replace ou7 := ou7.le le38
  replace op10 := op10.le le38
  replace ou33 := ou33.le le38
  replace ou34 := ou34.le le38
  replace hvy := hvy.le le38
  replace hvm := hvm.le le38
  replace lE := lE.trans le38
  refine ob_i (vExt_40 _ _ _ _) ?_
  refine ob_i (vExt_41 _ _ _ _) ?_
  refine ob_i (vExt_42 _ _ _ _) ?_
  refine ob_i (vExt_43 _ _ _ _) ?_
  refine ob_i (op10.ldn rfl) ?_
  refine C.laws_b10At (k := 5) (n := 8) hvm hb_vm hl_vm (by omega) (by omega) (fun x43 xp44 xq45 => ?_)
  replace xq45 := xq45 (by omega)
  refine ⟨Le.refl _, ?_⟩
  refine ob_i (vInt_add (by omega) (by omega)) ?_
  refine bS_i (enc := eI) (l := [x, x]) (by omega) rfl (by kernel_rfl) (fun u46 H47 ou46 nn48 le50 => ?_)
  replace ou6 := ou6.le le50
  replace ou7 := ou7.le le50
  replace op10 := op10.le le50
  replace ou33 := ou33.le le50
  replace ou34 := ou34.le le50
  replace ou39 := ou39.le le50
  replace ou40 := ou40.le le50
  replace hvy := hvy.le le50
  replace hvm := hvm.le le50
  replace lE := lE.trans le50
  refine C.SoupsShared_ok ou6.sl ou7.sl ou46.sl (by first | omega | assumption) (by first | omega | assumption) (by simp) (by exact ⟨hlz.1, ⟨by omega, by omega⟩, hsh, by simp, by omega, by omega, by simp; omega⟩) (fun  u53 H51 ou53 nn54  le52 => ?_)
  replace ou6 := ou6.le le52
  replace ou7 := ou7.le le52
  replace op10 := op10.le le52
  replace ou33 := ou33.le le52
  replace ou34 := ou34.le le52
  replace ou39 := ou39.le le52
  replace ou40 := ou40.le le52
  replace ou46 := ou46.le le52
  replace hvy := hvy.le le52
  replace hvm := hvm.le le52
  replace lE := lE.trans le52
  refine ⟨le52, ?_⟩
  refine ob_i (vExt_20 _ _) ?_
  refine ob_i (vExt_21 _ _) ?_
  refine C.sDraw_ok (by exact ⟨hsq, hsh, by omega, by omega⟩) (fun  u57 H55 ou57 nn58  le56 => ?_)
  replace ou6 := ou6.le le56
  replace ou7 := ou7.le le56
  replace op10 := op10.le le56
  replace ou33 := ou33.le le56
  replace ou34 := ou34.le le56
  replace ou39 := ou39.le le56
  replace ou40 := ou40.le le56
  replace ou46 := ou46.le le56
  replace ou53 := ou53.le le56
  replace hvy := hvy.le le56
  replace hvm := hvm.le le56
  replace lE := lE.trans le56
  refine ob_i (vExt_30 _ _ _) ?_
  refine ob_i (vExt_31 _ _ _) ?_
  refine ob_i (vExt_32 _ _ _) ?_
  refine nw_i (fun p59 H60 op59 nn61 le62 => ?_)
  have au6Xp59 : Apart u6 p59 := ou6.apart nn61
  have au7Xp59 : Apart u7 p59 := ou7.apart nn61
  have ap10Xp59 : Apart p10 p59 := op10.apart nn61
  have au33Xp59 : Apart u33 p59 := ou33.apart nn61
  have au34Xp59 : Apart u34 p59 := ou34.apart nn61
  have au39Xp59 : Apart u39 p59 := ou39.apart nn61
  have au40Xp59 : Apart u40 p59 := ou40.apart nn61
  have au46Xp59 : Apart u46 p59 := ou46.apart nn61
  have au53Xp59 : Apart u53 p59 := ou53.apart nn61
  have au57Xp59 : Apart u57 p59 := ou57.apart nn61
  have np59 : Nw H p59 := nn61.le lE
  replace ou6 := ou6.le le62
  replace ou7 := ou7.le le62
  replace op10 := op10.le le62
  replace ou33 := ou33.le le62
  replace ou34 := ou34.le le62
  replace ou39 := ou39.le le62
  replace ou40 := ou40.le le62
  replace ou46 := ou46.le le62
  replace ou53 := ou53.le le62
  replace ou57 := ou57.le le62
  replace hvy := hvy.le le62
  replace hvm := hvm.le le62
  replace lE := lE.trans le62
  replace op59 : Cel H60 p59 [(.int .i64 (0)), (.int .i64 (0)), (.slice none 0 0)] := op59
  refine op59.stn (ws := [(.int .i64 (r)), (.int .i64 (r)), u57]) rfl rfl (oc1 rfl (oc1 rfl (oc1 ou57.one oc0))) (fun H63 op59 off64 => ?_)
  replace ou6 := ou6.off off64 au6Xp59
  replace ou7 := ou7.off off64 au7Xp59
  replace op10 := op10.off off64 ap10Xp59
  replace ou33 := ou33.off off64 au33Xp59
  replace ou34 := ou34.off off64 au34Xp59
  replace ou39 := ou39.off off64 au39Xp59
  replace ou40 := ou40.off off64 au40Xp59
  replace ou46 := ou46.off off64 au46Xp59
  replace ou53 := ou53.off off64 au53Xp59
  replace ou57 := ou57.off off64 au57Xp59
  replace hvy := hvy0.le (off64.le lE np59)
  replace hvm := hvm0.le (off64.le lE np59)
  replace lE := off64.le lE np59
  replace op59 : Cel H63 p59 [(.int .i64 (r)), (.int .i64 (r)), u57] := op59
  refine ob_i (op10.ldn rfl) ?_
  refine ob_i (op59.ldn rfl) ?_
  refine C.sRunLife_ok ou6.sl ou7.sl ou57.sl (by first | omega | assumption) (by first | omega | assumption) (by first | omega | assumption) (by exact ⟨⟨hlz.1, hdf⟩, by omega⟩) (fun  u67 H65 ou67 nn68  le66 => ?_)
  replace ou6 := ou6.le le66
  replace ou7 := ou7.le le66
  replace op10 := op10.le le66
  replace ou33 := ou33.le le66
  replace ou34 := ou34.le le66
  replace ou39 := ou39.le le66
  replace ou40 := ou40.le le66
  replace ou46 := ou46.le le66
  replace ou53 := ou53.le le66
  replace ou57 := ou57.le le66
  replace op59 := op59.le le66
  replace hvy := hvy.le le66
  replace hvm := hvm.le le66
  replace lE := lE.trans le66
  refine ob_i (vExt_20 _ _) ?_
  refine ob_i (vExt_21 _ _) ?_
  refine nw_i (fun p69 H70 op69 nn71 le72 => ?_)
  have au6Xp69 : Apart u6 p69 := ou6.apart nn71
  have au7Xp69 : Apart u7 p69 := ou7.apart nn71
  have ap10Xp69 : Apart p10 p69 := op10.apart nn71
  have au33Xp69 : Apart u33 p69 := ou33.apart nn71
  have au34Xp69 : Apart u34 p69 := ou34.apart nn71
  have au39Xp69 : Apart u39 p69 := ou39.apart nn71
  have au40Xp69 : Apart u40 p69 := ou40.apart nn71
  have au46Xp69 : Apart u46 p69 := ou46.apart nn71
  have au53Xp69 : Apart u53 p69 := ou53.apart nn71
  have au57Xp69 : Apart u57 p69 := ou57.apart nn71
  have ap59Xp69 : Apart p59 p69 := op59.apart nn71
  have au67Xp69 : Apart u67 p69 := ou67.apart nn71
  have np69 : Nw H p69 := nn71.le lE
  replace ou6 := ou6.le le72
  replace ou7 := ou7.le le72
  replace op10 := op10.le le72
  replace ou33 := ou33.le le72
  replace ou34 := ou34.le le72
  replace ou39 := ou39.le le72
  replace ou40 := ou40.le le72
  replace ou46 := ou46.le le72
  replace ou53 := ou53.le le72
  replace ou57 := ou57.le le72
  replace op59 := op59.le le72
  replace ou67 := ou67.le le72
  replace hvy := hvy.le le72
  replace hvm := hvm.le le72
  replace lE := lE.trans le72
  replace op69 : Cel H70 p69 [(.int .i64 (0)), (.int .i64 (0)), (.slice none 0 0)] := op69
  refine op69.stn (ws := [(.int .i64 (r)), (.int .i64 (r)), u67]) rfl rfl (oc1 rfl (oc1 rfl (oc1 ou67.one oc0))) (fun H73 op69 off74 => ?_)
  replace ou6 := ou6.off off74 au6Xp69
  replace ou7 := ou7.off off74 au7Xp69
  replace op10 := op10.off off74 ap10Xp69
  replace ou33 := ou33.off off74 au33Xp69
  replace ou34 := ou34.off off74 au34Xp69
  replace ou39 := ou39.off off74 au39Xp69
  replace ou40 := ou40.off off74 au40Xp69
  replace ou46 := ou46.off off74 au46Xp69
  replace ou53 := ou53.off off74 au53Xp69
  replace ou57 := ou57.off off74 au57Xp69
  replace op59 := op59.off off74 ap59Xp69
  replace ou67 := ou67.off off74 au67Xp69
  replace hvy := hvy0.le (off74.le lE np69)
  replace hvm := hvm0.le (off74.le lE np69)
  replace lE := off74.le lE np69
  replace op69 : Cel H73 p69 [(.int .i64 (r)), (.int .i64 (r)), u67] := op69
  refine ob_i (op69.ldn rfl) ?_
  refine C.spec_CountCells ou67.sl (by exact hrf) (fun   H75    le76 => ?_)
  replace ou6 := ou6.le le76
  replace ou7 := ou7.le le76
  replace op10 := op10.le le76
  replace ou33 := ou33.le le76
  replace ou34 := ou34.le le76
  replace ou39 := ou39.le le76
  replace ou40 := ou40.le le76
  replace ou46 := ou46.le le76
  replace ou53 := ou53.le le76
  replace ou57 := ou57.le le76
  replace op59 := op59.le le76
  replace ou67 := ou67.le le76
  replace op69 := op69.le le76
  replace lE := lE.trans le76
  refine ob_i (vExt_20 _ _) ?_
  refine ob_i (vExt_21 _ _) ?_
  refine ob_i (a := .bool false) rfl ?_
  refine gop_rf ?_
  refine gop_rf ?_
  refine ob_i (a := .bool false) rfl ?_
  refine ob_i (vPick_f _ _) ?_
  refine gop_rf ?_
  refine gop_rf ?_
  refine ob_i (a := .bool false) rfl ?_
  refine ob_i (vPick_f _ _) ?_
  refine gop_rf ?_
  refine gop_rf ?_
  refine ob_i (a := .bool false) rfl ?_
  refine ob_i (vPick_f _ _) ?_
  refine gop_rf ?_
  refine gop_rf ?_
  refine ob_i (a := .bool false) rfl ?_
  refine ob_i (vPick_f _ _) ?_
  refine gop_rf ?_
  refine gop_rf ?_
  refine ob_i (a := .bool false) rfl ?_
  refine ob_i (vPick_f _ _) ?_
  refine gop_rf ?_
  refine gop_rf ?_
  refine gop_rf ?_
  refine ob_i (vInt_neq _ _ _) ?_
  refine ob_i (vPick_f _ _) ?_
  by_cases hc77 : (sdS x (r.toNat * r.toNat)) ≠ (sdS x (r.toNat * r.toNat))
  ·skip
   refine gop_e (decide_eq_true hc77) ?_
   refine gop_st ?_
   refine gop_e (decide_eq_true hc77) ?_
   refine gop_st ?_
   refine gop_e (decide_eq_true hc77) ?_
   refine gop_st ?_
   refine gop_e (decide_eq_true hc77) ?_
   refine gop_st ?_
   refine gop_e (decide_eq_true hc77) ?_
   refine gop_st ?_
   refine ob_i (vPick_et (decide_eq_true hc77) _ _) ?_
   refine gop_st ?_
   refine gop_st ?_
   refine gop_st ?_
   refine gop_st ?_
   refine ob_i (vPick_t _ _) ?_
   refine gop_st ?_
   refine gop_st ?_
   refine gop_st ?_
   refine ob_i (vPick_t _ _) ?_
   refine gop_st ?_
   refine gop_st ?_
   refine gop_st ?_
   refine gop_st ?_
   refine gop_st ?_
   refine ob_i (vPick_t _ _) ?_
   refine gop_st ?_
   refine gop_st ?_
   refine gop_st ?_
   refine gop_st ?_
   refine gop_st ?_
   refine ob_i (vPick_t _ _) ?_
   refine cnd_t1 ?_
   exact absurd (by first | rfl | omega | (simp [ssL]; done)) hc77
  ·skip
   refine gop_e (decide_eq_false hc77) ?_
   refine gop_rf ?_
   refine gop_e (decide_eq_false hc77) ?_
   refine gop_rf ?_
   refine ob_i (ou33.len) ?_
   refine gop_e (decide_eq_false hc77) ?_
   refine gop_rf ?_
   refine gop_e (decide_eq_false hc77) ?_
   refine gop_rf ?_
   refine ob_i (ou39.len) ?_
   refine gop_e (decide_eq_false hc77) ?_
   refine gop_rf ?_
   refine ob_i (vInt_neq _ _ _) ?_
   refine ob_i (vPick_ef (decide_eq_false hc77) _ _) ?_
   by_cases hc78 : (((cenN (nmL r r (soL lb lz r x zs st.toNat) (stsL r (soL lb lz r x zs st.toNat) ((soL lb lz r x zs st.toNat)).length))).length : Int)) ≠ (((cenN (nmL r r (soL lb lz r x zs st.toNat) (stsL r (soL lb lz r x zs st.toNat) ((soL lb lz r x zs st.toNat)).length))).length : Int))
   ·skip
    refine gop_e (decide_eq_true hc78) ?_
    refine gop_st ?_
    refine gop_e (decide_eq_true hc78) ?_
    refine gop_st ?_
    refine gop_e (decide_eq_true hc78) ?_
    refine gop_st ?_
    refine gop_e (decide_eq_true hc78) ?_
    refine gop_st ?_
    refine ob_i (vPick_et (decide_eq_true hc78) _ _) ?_
    refine gop_st ?_
    refine gop_st ?_
    refine gop_st ?_
    refine ob_i (vPick_t _ _) ?_
    refine gop_st ?_
    refine gop_st ?_
    refine gop_st ?_
    refine gop_st ?_
    refine gop_st ?_
    refine ob_i (vPick_t _ _) ?_
    refine gop_st ?_
    refine gop_st ?_
    refine gop_st ?_
    refine gop_st ?_
    refine gop_st ?_
    refine ob_i (vPick_t _ _) ?_
    refine cnd_t1 ?_
    exact absurd (by first | rfl | omega | (simp [ssL]; done)) hc78
   ·skip
    refine gop_e (decide_eq_false hc78) ?_
    refine gop_rf ?_
    refine gop_e (decide_eq_false hc78) ?_
    refine gop_rf ?_
    refine gop_e (decide_eq_false hc78) ?_
    refine gop_rf ?_
    refine C.laws_b10Ints ou34.sl ou40.sl (by first | omega | assumption) (fun   H79    le80 => ?_)
    replace ou6 := ou6.le le80
    replace ou7 := ou7.le le80
    replace op10 := op10.le le80
    replace ou33 := ou33.le le80
    replace ou34 := ou34.le le80
    replace ou39 := ou39.le le80
    replace ou40 := ou40.le le80
    replace ou46 := ou46.le le80
    replace ou53 := ou53.le le80
    replace ou57 := ou57.le le80
    replace op59 := op59.le le80
    replace ou67 := ou67.le le80
    replace op69 := op69.le le80
    replace lE := lE.trans le80
    refine gop_e (decide_eq_false hc78) ?_
    refine gop_rf ?_
    refine ob_nd (fun hc81 => ?_) (fun hc81 => ?_)
    ·skip
     refine ob_i (vPick_ef (decide_eq_false hc78) _ _) ?_
     refine gop_rf ?_
     refine gop_rf ?_
     refine ob_i (ou53.len) ?_
     refine gop_rf ?_
     refine ob_i (vInt_neq _ _ _) ?_
     refine ob_i (vPick_f _ _) ?_
     by_cases hc82 : (((ssL lb lz r zs st.toNat ([x, x])).length : Int)) ≠ 2
     ·skip
      refine gop_e (decide_eq_true hc82) ?_
      refine gop_st ?_
      refine gop_e (decide_eq_true hc82) ?_
      refine gop_st ?_
      refine gop_e (decide_eq_true hc82) ?_
      refine gop_st ?_
      refine gop_e (decide_eq_true hc82) ?_
      refine gop_st ?_
      refine gop_e (decide_eq_true hc82) ?_
      refine gop_st ?_
      refine ob_i (vPick_et (decide_eq_true hc82) _ _) ?_
      refine gop_st ?_
      refine gop_st ?_
      refine gop_st ?_
      refine gop_st ?_
      refine gop_st ?_
      refine ob_i (vPick_t _ _) ?_
      refine cnd_t1 ?_
      exact absurd (by first | rfl | omega | (simp [ssL]; done)) hc82
     ·skip
      refine gop_e (decide_eq_false hc82) ?_
      refine gop_rf ?_
      refine gop_e (decide_eq_false hc82) ?_
      refine gop_rf ?_
      refine ob_i (ou53.sl.ix (by omega) (by omega)) ?_
      refine gop_e (decide_eq_false hc82) ?_
      refine gop_rf ?_
      refine ob_i (ou53.sl.ld 0 (by omega) (by omega)) ?_
      refine gop_e (decide_eq_false hc82) ?_
      refine gop_rf ?_
      refine gop_e (decide_eq_false hc82) ?_
      refine gop_rf ?_
      refine ob_i (vInt_neq _ _ _) ?_
      refine ob_i (vPick_ef (decide_eq_false hc82) _ _) ?_
      by_cases hc83 : (at_ 0 (ssL lb lz r zs st.toNat ([x, x])) (0)) ≠ (cntE 1 (rnL true lb lz r r (drL r r x zs) st.toNat))
      ·skip
       refine gop_e (decide_eq_true hc83) ?_
       refine gop_st ?_
       refine gop_e (decide_eq_true hc83) ?_
       refine gop_st ?_
       refine gop_e (decide_eq_true hc83) ?_
       refine gop_st ?_
       refine gop_e (decide_eq_true hc83) ?_
       refine gop_st ?_
       refine gop_e (decide_eq_true hc83) ?_
       refine gop_st ?_
       refine ob_i (vPick_et (decide_eq_true hc83) _ _) ?_
       refine cnd_t1 ?_
       exact absurd (by first | rfl | omega | (simp [ssL]; done)) hc83
      ·skip
       refine gop_e (decide_eq_false hc83) ?_
       refine gop_rf ?_
       refine gop_e (decide_eq_false hc83) ?_
       refine gop_rf ?_
       refine ob_i (ou53.sl.ix (by omega) (by omega)) ?_
       refine gop_e (decide_eq_false hc83) ?_
       refine gop_rf ?_
       refine ob_i (ou53.sl.ld 0 (by omega) (by omega)) ?_
       refine gop_e (decide_eq_false hc83) ?_
       refine gop_rf ?_
       refine gop_e (decide_eq_false hc83) ?_
       refine gop_rf ?_
       refine ob_i (vInt_neq _ _ _) ?_
       refine ob_i (vPick_ef (decide_eq_false hc83) _ _) ?_
       refine cnd_d (fun hg84 => ?_) (fun hg84 => ?_)
       ·skip
        exact absurd (by first | rfl | omega | (simp [ssL]; done)) hg84
       ·skip
        refine jn_i (fun σ' H' => Own eI H' u6 (lb) ∧ Own eI H' u7 (lz) ∧ Cel H' p10 [u6, u7] ∧ Own vS H' u33 (cenN (nmL r r (soL lb lz r x zs st.toNat) (stsL r (soL lb lz r x zs st.toNat) ((soL lb lz r x zs st.toNat)).length))) ∧ Own eI H' u34 (cenC (nmL r r (soL lb lz r x zs st.toNat) (stsL r (soL lb lz r x zs st.toNat) ((soL lb lz r x zs st.toNat)).length))) ∧ Own vS H' u39 (cenN (nmL r r (soL lb lz r x zs st.toNat) (stsL r (soL lb lz r x zs st.toNat) ((soL lb lz r x zs st.toNat)).length))) ∧ Own eI H' u40 (cenC (nmL r r (soL lb lz r x zs st.toNat) (stsL r (soL lb lz r x zs st.toNat) ((soL lb lz r x zs st.toNat)).length))) ∧ Own eI H' u46 ([x, x]) ∧ Own eI H' u53 (ssL lb lz r zs st.toNat ([x, x])) ∧ Own eI H' u57 (drL r r x zs) ∧ Cel H' p59 [(.int .i64 (r)), (.int .i64 (r)), u57] ∧ Own eI H' u67 (rnL true lb lz r r (drL r r x zs) st.toNat) ∧ Cel H' p69 [(.int .i64 (r)), (.int .i64 (r)), u67] ∧ Le H H') (fun σ85 H85 hP => ?_) (fun J85 hJ85 => ?_)
        ·skip
         obtain ⟨ou6, ou7, op10, ou33, ou34, ou39, ou40, ou46, ou53, ou57, op59, ou67, op69, lE⟩ := hP
         skip
         exact hk   _    lE
        refine ob_i (ou33.len) ?_
        refine ⟨fun n' σ' H' => ∃ i : Nat, n' = (cenN (nmL r r (soL lb lz r x zs st.toNat) (stsL r (soL lb lz r x zs st.toNat) ((soL lb lz r x zs st.toNat)).length))).length - i ∧ i ≤ (cenN (nmL r r (soL lb lz r x zs st.toNat) (stsL r (soL lb lz r x zs st.toNat) ((soL lb lz r x zs st.toNat)).length))).length ∧ σ' 10 = u33 ∧ σ' 14 = u39 ∧ σ' 165 = (.int .i64 (((cenN (nmL r r (soL lb lz r x zs st.toNat) (stsL r (soL lb lz r x zs st.toNat) ((soL lb lz r x zs st.toNat)).length))).length : Int))) ∧ σ' 166 = (.int .i64 ((i : Int))) ∧ Own eI H' u6 (lb) ∧ Own eI H' u7 (lz) ∧ Cel H' p10 [u6, u7] ∧ Own vS H' u33 (cenN (nmL r r (soL lb lz r x zs st.toNat) (stsL r (soL lb lz r x zs st.toNat) ((soL lb lz r x zs st.toNat)).length))) ∧ Own eI H' u34 (cenC (nmL r r (soL lb lz r x zs st.toNat) (stsL r (soL lb lz r x zs st.toNat) ((soL lb lz r x zs st.toNat)).length))) ∧ Own vS H' u39 (cenN (nmL r r (soL lb lz r x zs st.toNat) (stsL r (soL lb lz r x zs st.toNat) ((soL lb lz r x zs st.toNat)).length))) ∧ Own eI H' u40 (cenC (nmL r r (soL lb lz r x zs st.toNat) (stsL r (soL lb lz r x zs st.toNat) ((soL lb lz r x zs st.toNat)).length))) ∧ Own eI H' u46 ([x, x]) ∧ Own eI H' u53 (ssL lb lz r zs st.toNat ([x, x])) ∧ Own eI H' u57 (drL r r x zs) ∧ Cel H' p59 [(.int .i64 (r)), (.int .i64 (r)), u57] ∧ Own eI H' u67 (rnL true lb lz r r (drL r r x zs) st.toNat) ∧ Cel H' p69 [(.int .i64 (r)), (.int .i64 (r)), u67] ∧ Le H H',
         ⟨_, 0, rfl, by omega, rfl, rfl, rfl, (congrArg (Value.int .i64) (by first | omega | rfl | (simp; done))), ou6, ou7, op10, ou33, ou34, ou39, ou40, ou46, ou53, ou57, op59, ou67, op69, lE⟩, ?_⟩
        rintro n86 σ86 H86 ⟨i, rfl, hiN, g10L86, g14L86, g165L86, g166L86, ou6, ou7, op10, ou33, ou34, ou39, ou40, ou46, ou53, ou57, op59, ou67, op69, lE⟩
        try simp only [g10L86, g14L86, g165L86, g166L86]
        refine ob_i (vInt_lss _ _ _) ?_
        refine cnd_d (fun hg87 => ?_) (fun hg87 => ?_)
        ·skip
         have ti := hg87
         refine ob_i (ou33.sl.ix (by omega) (by omega)) ?_
         refine ob_i (ou33.sl.ld [] (by omega) (by omega)) ?_
         refine ob_i (ou39.sl.ix (by omega) (by omega)) ?_
         refine ob_i (ou39.sl.ld [] (by omega) (by omega)) ?_
         refine ob_i (vStr_neq_same _) ?_
         refine cnd_f1 ?_
         refine ob_i (vInt_add (by omega) (by omega)) ?_
         exact nxt ((cenN (nmL r r (soL lb lz r x zs st.toNat) (stsL r (soL lb lz r x zs st.toNat) ((soL lb lz r x zs st.toNat)).length))).length - (i + 1)) (by omega) ⟨i + 1, rfl, by omega, g10L86, g14L86, g165L86, (congrArg (Value.int .i64) (by first | omega | rfl | (simp; done))), ou6, ou7, op10, ou33, ou34, ou39, ou40, ou46, ou53, ou57, op59, ou67, op69, lE⟩
        ·skip
         have ti := hg87
         exact hJ85 _ _ ⟨ou6, ou7, op10, ou33, ou34, ou39, ou40, ou46, ou53, ou57, op59, ou67, op69, lE⟩
    ·skip
     refine ob_i (vPick_ef (decide_eq_false hc78) _ _) ?_
     refine gop_st ?_
     refine gop_st ?_
     refine gop_st ?_
     refine ob_i (vPick_t _ _) ?_
     refine gop_st ?_
     refine gop_st ?_
     refine gop_st ?_
     refine gop_st ?_
     refine gop_st ?_
     refine ob_i (vPick_t _ _) ?_
     refine gop_st ?_
     refine gop_st ?_
     refine gop_st ?_
     refine gop_st ?_
     refine gop_st ?_
     refine ob_i (vPick_t _ _) ?_
     refine cnd_t1 ?_
     exact absurd (by first | rfl | omega | (simp [ssL]; done)) hc81
theorem L.FnSoups {vy vm : Value} {l m : List Int} {H : Hp} {K : Value → Hp → Prop} (h0 : Sl eU H vy l) (h1 : Sl eU H vm m) (l0 : l.length ≤ 9223372036854775807) (l1 : m.length ≤ 9223372036854775807) (b0 : bytP l) (b1 : bytP m) (hk : ∀ H', Le H H' → K (.bool true) H') : HT prg I.laws_FnSoups [vy, vm].toArray H K :=
  C.laws_FnSoups h0 h1 b0 l0 b1 l1 hk
end Go.Proofs.YtnijdhlmimemcaaGreatDoor
