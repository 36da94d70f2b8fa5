/- Several texts in one. -/
import Derived.Test.YthocjpfibegjcaaGreatDoorMParts3
import Derived.Test.YthocjpfibegjcaaGreatDoorMParts0
import Derived.Test.YthocjpfibegjcaaGreatDoorG0
import Derived.Below
import Derived.WalkKit
import Derived.ProofKit
/- The law of a field's parts. -/
namespace Go.Proofs.YthocjpfibegjcaaGreatDoor
open HL
set_option maxRecDepth 100000
attribute [local irreducible] vStr
theorem all_snoc {l : List Int} {x : Int} {p : Int → Prop} (h : ∀ y ∈ l, p y) (hx : p x) : ∀ y ∈ l ++ [x], p y := fun y hy => by
  rcases List.mem_append.mp hy with hy | hy
  · exact h y hy
  · simp only [List.mem_singleton] at hy; subst hy; exact hx
theorem ints_eq {l m : List Int} (h : l.length = m.length) (ha : ∀ j : Nat, j < l.length → at_ 0 l (j : Int) = at_ 0 m (j : Int)) : l = m := by
  apply List.ext_getElem h
  intro j h1 h2
  have := ha j h1
  rw [at_eq 0 l h1, at_eq 0 m h2] at this
  exact this
theorem ints_snoc {l m : List Int} {i : Nat} (ha : ∀ j : Nat, j < i → at_ 0 l (j : Int) = at_ 0 m (j : Int)) (h : at_ 0 l (i : Int) = at_ 0 m (i : Int)) : ∀ j : Nat, j < i + 1 → at_ 0 l (j : Int) = at_ 0 m (j : Int) := fun j hj => by
  by_cases e : j = i
  · subst e; exact h
  · exact ha j (by omega)
theorem vStr_leq_t (a b : List UInt8) : vStr .leq (vS a) (vS b) = some (.bool (Op.bytesLess a b || a == b)) := by simp only [vStr, tS_toList]
theorem C.spec_B10Plain {vy : Value} {r c : Int} {l : List Int}  {H : Hp} {K : Value → Hp → Prop} (hvy0 : Sl eU H vy l) (hb_vy : bytP l) (hl_vy : l.length ≤ 9223372036854775807) (hs : sidesF r c)
    (hk : ∀ (lf : List Int), (fieldN 1 r c lf) → ∀ u1 H', Own eI H' u1 lf → Nw H u1 → Le H H' → K (.agg #[(.int .i64 (r)), (.int .i64 (c)), u1]) H') : HT prg I.spec_B10Plain [vy, (.int .i64 (r)), (.int .i64 (c))].toArray H K := by
  have lE := Le.refl H
  have hvy := hvy0
  refine R.spec_B10Plain ?_
  unfold F.spec_B10Plain
  have qm := sidesF_mul hs
  have q1 := hs.1
  have q2 := hs.2
  refine nw_i (fun p1 H2 op1 nn3 le4 => ?_)
  have np1 : Nw H p1 := nn3.le lE
  replace hvy := hvy.le le4
  replace lE := lE.trans le4
  replace op1 : Cel H2 p1 [(.int .i64 (0)), (.int .i64 (0)), (.slice none 0 0)] := op1
  refine C.spec_l00From hvy (fun z H5 oz nn6 le7 => ?_)
  have ap1Xz : Apart p1 z := op1.apart nn6
  have nz : Nw H z := nn6.le lE
  replace op1 := op1.le le7
  replace hvy := hvy.le le7
  replace lE := lE.trans le7
  replace oz : Cel H5 z [vy, (.int .i64 (0)), (.int .u64 (0))] := oz
  refine R.spec_l04DrawOk ?_
  unfold F.spec_l04DrawOk
  refine nw_i (fun p8 H9 op8 nn10 le11 => ?_)
  have ap1Xp8 : Apart p1 p8 := op1.apart nn10
  have azXp8 : Apart z p8 := oz.apart nn10
  have np8 : Nw H p8 := nn10.le lE
  replace op1 := op1.le le11
  replace oz := oz.le le11
  replace hvy := hvy.le le11
  replace lE := lE.trans le11
  replace op8 : Cel H9 p8 [(.int .i64 (0)), (.int .i64 (0)), (.slice none 0 0)] := op8
  refine R.spec_l04DrawStatesX ?_
  unfold F.spec_l04DrawStatesX
  refine nw_i (fun q0 H12 oq0 nn13 le14 => ?_)
  have ap1Xq0 : Apart p1 q0 := op1.apart nn13
  have azXq0 : Apart z q0 := oz.apart nn13
  have ap8Xq0 : Apart p8 q0 := op8.apart nn13
  have nq0 : Nw H q0 := nn13.le lE
  replace op1 := op1.le le14
  replace oz := oz.le le14
  replace op8 := op8.le le14
  replace hvy := hvy.le le14
  replace lE := lE.trans le14
  replace oq0 : Cel H12 q0 [(.int .i64 (0)), (.int .i64 (0)), (.slice none 0 0)] := oq0
  refine ob_i (a := (.agg #[(.int .i64 (r)), (.int .i64 (c)), (.slice none 0 0)])) (by rfl) ?_
  refine nw_i (fun q H15 oq nn16 le17 => ?_)
  have ap1Xq : Apart p1 q := op1.apart nn16
  have azXq : Apart z q := oz.apart nn16
  have ap8Xq : Apart p8 q := op8.apart nn16
  have aq0Xq : Apart q0 q := oq0.apart nn16
  have nq : Nw H q := nn16.le lE
  replace op1 := op1.le le17
  replace oz := oz.le le17
  replace op8 := op8.le le17
  replace oq0 := oq0.le le17
  replace hvy := hvy.le le17
  replace lE := lE.trans le17
  replace oq : Cel H15 q [(.int .i64 (0)), (.int .i64 (0)), (.slice none 0 0)] := oq
  refine oq.stn (ws := [(.int .i64 (r)), (.int .i64 (c)), (.slice none 0 0)]) rfl rfl (oc1 rfl (oc1 rfl (oc1 rfl oc0))) (fun H18 oq off19 => ?_)
  replace op1 := op1.off off19 ap1Xq
  replace oz := oz.off off19 azXq
  replace op8 := op8.off off19 ap8Xq
  replace oq0 := oq0.off off19 aq0Xq
  replace hvy := hvy0.le (off19.le lE nq)
  replace lE := off19.le lE nq
  replace oq : Cel H18 q [(.int .i64 (r)), (.int .i64 (c)), (.slice none 0 0)] := oq
  refine jn_i (fun σ' H' => ∃ u, ∃ lu, σ' 8 = q0 ∧ σ' 9 = q ∧ Cel H' p1 [(.int .i64 (0)), (.int .i64 (0)), (.slice none 0 0)] ∧ Cel H' p8 [(.int .i64 (0)), (.int .i64 (0)), (.slice none 0 0)] ∧ Cel H' q0 [(.int .i64 (0)), (.int .i64 (0)), (.slice none 0 0)] ∧ Cel H' q [(.int .i64 (r)), (.int .i64 (c)), u] ∧ Own eI H' u (lu) ∧ Nw H u ∧ Apart p1 u ∧ Apart p8 u ∧ Apart q0 u ∧ Apart q u ∧ Le H H' ∧ (lu.length : Int) = r * c ∧ (∀ x ∈ lu, 0 ≤ x ∧ x ≤ 1)) (fun σ20 H20 hP => ?_) (fun J20 hJ20 => ?_)
  · skip
    obtain ⟨u, lu, g8L20, g9L20, op1, op8, oq0, oq, ou, nu, ap1Xu, ap8Xu, aq0Xu, aqXu, lE, hln, hLa⟩ := hP
    have hvy := hvy0.le lE
    try simp only [g8L20, g9L20]
    refine ob_i (oq.ldn rfl) ?_
    refine oq0.stn (ws := [(.int .i64 (r)), (.int .i64 (c)), u]) rfl rfl (oc1 rfl (oc1 rfl (oc1 ou.one oc0))) (fun H21 oq0 off22 => ?_)
    replace op1 := op1.off off22 ap1Xq0
    replace op8 := op8.off off22 ap8Xq0
    replace oq := oq.off off22 aq0Xq.symm
    replace ou := ou.off off22 aq0Xu.symm
    replace hvy := hvy0.le (off22.le lE nq0)
    replace lE := off22.le lE nq0
    replace oq0 : Cel H21 q0 [(.int .i64 (r)), (.int .i64 (c)), u] := oq0
    refine ob_i (oq0.ldn rfl) ?_
    refine op8.stn (ws := [(.int .i64 (r)), (.int .i64 (c)), u]) rfl rfl (oc1 rfl (oc1 rfl (oc1 ou.one oc0))) (fun H23 op8 off24 => ?_)
    replace op1 := op1.off off24 ap1Xp8
    replace oq0 := oq0.off off24 ap8Xq0.symm
    replace oq := oq.off off24 ap8Xq.symm
    replace ou := ou.off off24 ap8Xu.symm
    replace hvy := hvy0.le (off24.le lE np8)
    replace lE := off24.le lE np8
    replace op8 : Cel H23 p8 [(.int .i64 (r)), (.int .i64 (c)), u] := op8
    refine ob_i (op8.ldn rfl) ?_
    refine op1.stn (ws := [(.int .i64 (r)), (.int .i64 (c)), u]) rfl rfl (oc1 rfl (oc1 rfl (oc1 ou.one oc0))) (fun H25 op1 off26 => ?_)
    replace op8 := op8.off off26 ap1Xp8.symm
    replace oq0 := oq0.off off26 ap1Xq0.symm
    replace oq := oq.off off26 ap1Xq.symm
    replace ou := ou.off off26 ap1Xu.symm
    replace hvy := hvy0.le (off26.le lE np1)
    replace lE := off26.le lE np1
    replace op1 : Cel H25 p1 [(.int .i64 (r)), (.int .i64 (c)), u] := op1
    refine ob_i (op1.ldn rfl) ?_
    skip
    exact hk  lu (by exact ⟨hs, hln, hLa⟩) u _ ou nu  lE
  refine ob_i (vInt_mul (by omega) (by omega)) ?_
  refine ⟨fun n' σ' H' => ∃ i : Nat, n' = (r * c).toNat - i ∧ i ≤ (r * c).toNat ∧ ∃ u, ∃ lu, ∃ ats, ∃ sd, σ' 0 = z ∧ σ' 3 = (.int .i64 (2)) ∧ σ' 8 = q0 ∧ σ' 9 = q ∧ σ' 10 = (.int .i64 (r * c - (i : Int))) ∧ Cel H' p1 [(.int .i64 (0)), (.int .i64 (0)), (.slice none 0 0)] ∧ Cel H' z [vy, (.int .i64 (ats)), (.int .u64 (sd))] ∧ Cel H' p8 [(.int .i64 (0)), (.int .i64 (0)), (.slice none 0 0)] ∧ Cel H' q0 [(.int .i64 (0)), (.int .i64 (0)), (.slice none 0 0)] ∧ Cel H' q [(.int .i64 (r)), (.int .i64 (c)), u] ∧ Own eI H' u (lu) ∧ Nw H u ∧ Apart p1 u ∧ Apart z u ∧ Apart p8 u ∧ Apart q0 u ∧ Apart q u ∧ Le H H' ∧ lu.length = i ∧ (∀ x ∈ lu, 0 ≤ x ∧ x ≤ 1) ∧ 0 ≤ ats ∧ ats ≤ 2 * (i : Int),
    ⟨_, 0, rfl, by omega, _, [], 0, 0, rfl, rfl, rfl, rfl, (congrArg (Value.int .i64) (by first | omega | rfl | (simp; done))), op1, oz, op8, oq0, oq, (Own.cast (by first | rfl | (simp; done)) (Own.nil_of none)), (fun b hb => by simp [bk] at hb), (fun b _ hb => by simp [bk] at hb), (fun b _ hb => by simp [bk] at hb), (fun b _ hb => by simp [bk] at hb), (fun b _ hb => by simp [bk] at hb), (fun b _ hb => by simp [bk] at hb), lE, rfl, (by simp), ⟨by omega, by omega⟩⟩, ?_⟩
  rintro n27 σ27 H27 ⟨i, rfl, hiN, u, lu, ats, sd, g0L27, g3L27, g8L27, g9L27, g10L27, op1, oz, op8, oq0, oq, ou, nu, ap1Xu, azXu, ap8Xu, aq0Xu, aqXu, lE, hln, hLa, hat⟩
  have hvy := hvy0.le lE
  try simp only [g0L27, g3L27, g8L27, g9L27, g10L27]
  refine ob_i (vInt_gtr _ _ _) ?_
  refine cnd_d (fun hg28 => ?_) (fun hg28 => ?_)
  · skip
    have ti := hg28
    refine ⟨?_, ?_⟩
    · skip
      refine ob_i (oq.fa 2) ?_
      refine ob_i (oq.ld 2 rfl) ?_
      refine C.pspec_l00Src_pick hvy0 hb_vy hl_vy lE nz oz (by omega) (by omega) (fun x29 at30 sd31 H32 xp34 xq35 ap36 aq37 oz off33 => ?_)
      replace xq35 := xq35 (by omega)
      replace op1 := op1.off off33 ap1Xz
      replace op8 := op8.off off33 azXp8.symm
      replace oq0 := oq0.off off33 azXq0.symm
      replace oq := oq.off off33 azXq.symm
      replace ou := ou.off off33 azXu.symm
      replace hvy := hvy0.le (off33.le lE nz)
      replace lE := off33.le lE nz
      replace oz : Cel H32 z [vy, (.int .i64 (at30)), (.int .u64 (sd31))] := oz
      refine bS_i (enc := eI) (l := [x29]) (by omega) rfl (by kernel_rfl) (fun u38 H39 ou38 nn40 le42 => ?_)
      have ap1Xu38 : Apart p1 u38 := op1.apart nn40
      have azXu38 : Apart z u38 := oz.apart nn40
      have ap8Xu38 : Apart p8 u38 := op8.apart nn40
      have aq0Xu38 : Apart q0 u38 := oq0.apart nn40
      have aqXu38 : Apart q u38 := oq.apart nn40
      have auXu38 : Apart u u38 := ou.apart nn40
      have nu38 : Nw H u38 := nn40.le lE
      replace op1 := op1.le le42
      replace oz := oz.le le42
      replace op8 := op8.le le42
      replace oq0 := oq0.le le42
      replace oq := oq.le le42
      replace ou := ou.le le42
      replace hvy := hvy.le le42
      replace lE := lE.trans le42
      refine apd_any ou ou38.sl (fun _ => rfl) (by omega) (by first | omega | (simp only [List.length_cons, List.length_nil, List.length_append, List.length_replicate, List.length_map, List.length_range]; omega)) (fun u46 H43 ou46 off44 hb45 => ?_)
      have ap1Xu46 : Apart p1 u46 := Apart.ap2 op1.known ap1Xu hb45
      have azXu46 : Apart z u46 := Apart.ap2 oz.known azXu hb45
      have ap8Xu46 : Apart p8 u46 := Apart.ap2 op8.known ap8Xu hb45
      have aq0Xu46 : Apart q0 u46 := Apart.ap2 oq0.known aq0Xu hb45
      have aqXu46 : Apart q u46 := Apart.ap2 oq.known aqXu hb45
      have au38Xu46 : Apart u38 u46 := Apart.ap2 ou38.known auXu38.symm hb45
      have nu46 : Nw H u46 := Nw.ap2 nu lE hb45
      replace op1 := op1.off off44 ap1Xu
      replace oz := oz.off off44 azXu
      replace op8 := op8.off off44 ap8Xu
      replace oq0 := oq0.off off44 aq0Xu
      replace oq := oq.off off44 aqXu
      replace ou38 := ou38.off off44 auXu38.symm
      replace hvy := hvy0.le (off44.le lE nu)
      replace lE := off44.le lE nu
      refine ob_i (oq.fa 2) ?_
      refine oq.st (by simp) ou46.one ou46.cells (fun H47 oq off48 => ?_)
      replace op1 := op1.off off48 ap1Xq
      replace oz := oz.off off48 azXq
      replace op8 := op8.off off48 ap8Xq
      replace oq0 := oq0.off off48 aq0Xq
      replace ou38 := ou38.off off48 aqXu38.symm
      replace ou46 := ou46.off off48 aqXu46.symm
      replace hvy := hvy0.le (off48.le lE nq)
      replace lE := off48.le lE nq
      replace oq : Cel H47 q [(.int .i64 (r)), (.int .i64 (c)), u46] := oq
      refine ob_i (vInt_sub (by omega) (by omega)) ?_
      exact nxt ((r * c).toNat - (i + 1)) (by omega) ⟨i + 1, rfl, by omega, u46, (lu ++ ([x29])), (at30), (sd31), g0L27, g3L27, g8L27, g9L27, (congrArg (Value.int .i64) (by first | omega | rfl | (simp; done))), op1, oz, op8, oq0, oq, ou46, nu46, ap1Xu46, azXu46, ap8Xu46, aq0Xu46, aqXu46, lE, (by rw [List.length_append, hln]; rfl), (all_snoc hLa (by omega)), ⟨by omega, by omega⟩⟩
    · skip
      refine ob_i (oq.fa 2) ?_
      refine C.pspec_l00Src_pick hvy0 hb_vy hl_vy lE nz oz (by omega) (by omega) (fun x49 at50 sd51 H52 xp54 xq55 ap56 aq57 oz off53 => ?_)
      replace xq55 := xq55 (by omega)
      replace op1 := op1.off off53 ap1Xz
      replace op8 := op8.off off53 azXp8.symm
      replace oq0 := oq0.off off53 azXq0.symm
      replace oq := oq.off off53 azXq.symm
      replace ou := ou.off off53 azXu.symm
      replace hvy := hvy0.le (off53.le lE nz)
      replace lE := off53.le lE nz
      replace oz : Cel H52 z [vy, (.int .i64 (at50)), (.int .u64 (sd51))] := oz
      refine ob_i (oq.ld 2 rfl) ?_
      refine bS_i (enc := eI) (l := [x49]) (by omega) rfl (by kernel_rfl) (fun u58 H59 ou58 nn60 le62 => ?_)
      have ap1Xu58 : Apart p1 u58 := op1.apart nn60
      have azXu58 : Apart z u58 := oz.apart nn60
      have ap8Xu58 : Apart p8 u58 := op8.apart nn60
      have aq0Xu58 : Apart q0 u58 := oq0.apart nn60
      have aqXu58 : Apart q u58 := oq.apart nn60
      have auXu58 : Apart u u58 := ou.apart nn60
      have nu58 : Nw H u58 := nn60.le lE
      replace op1 := op1.le le62
      replace oz := oz.le le62
      replace op8 := op8.le le62
      replace oq0 := oq0.le le62
      replace oq := oq.le le62
      replace ou := ou.le le62
      replace hvy := hvy.le le62
      replace lE := lE.trans le62
      refine apd_any ou ou58.sl (fun _ => rfl) (by omega) (by first | omega | (simp only [List.length_cons, List.length_nil, List.length_append, List.length_replicate, List.length_map, List.length_range]; omega)) (fun u66 H63 ou66 off64 hb65 => ?_)
      have ap1Xu66 : Apart p1 u66 := Apart.ap2 op1.known ap1Xu hb65
      have azXu66 : Apart z u66 := Apart.ap2 oz.known azXu hb65
      have ap8Xu66 : Apart p8 u66 := Apart.ap2 op8.known ap8Xu hb65
      have aq0Xu66 : Apart q0 u66 := Apart.ap2 oq0.known aq0Xu hb65
      have aqXu66 : Apart q u66 := Apart.ap2 oq.known aqXu hb65
      have au58Xu66 : Apart u58 u66 := Apart.ap2 ou58.known auXu58.symm hb65
      have nu66 : Nw H u66 := Nw.ap2 nu lE hb65
      replace op1 := op1.off off64 ap1Xu
      replace oz := oz.off off64 azXu
      replace op8 := op8.off off64 ap8Xu
      replace oq0 := oq0.off off64 aq0Xu
      replace oq := oq.off off64 aqXu
      replace ou58 := ou58.off off64 auXu58.symm
      replace hvy := hvy0.le (off64.le lE nu)
      replace lE := off64.le lE nu
      refine ob_i (oq.fa 2) ?_
      refine oq.st (by simp) ou66.one ou66.cells (fun H67 oq off68 => ?_)
      replace op1 := op1.off off68 ap1Xq
      replace oz := oz.off off68 azXq
      replace op8 := op8.off off68 ap8Xq
      replace oq0 := oq0.off off68 aq0Xq
      replace ou58 := ou58.off off68 aqXu58.symm
      replace ou66 := ou66.off off68 aqXu66.symm
      replace hvy := hvy0.le (off68.le lE nq)
      replace lE := off68.le lE nq
      replace oq : Cel H67 q [(.int .i64 (r)), (.int .i64 (c)), u66] := oq
      refine ob_i (vInt_sub (by omega) (by omega)) ?_
      exact nxt ((r * c).toNat - (i + 1)) (by omega) ⟨i + 1, rfl, by omega, u66, (lu ++ ([x49])), (at50), (sd51), g0L27, g3L27, g8L27, g9L27, (congrArg (Value.int .i64) (by first | omega | rfl | (simp; done))), op1, oz, op8, oq0, oq, ou66, nu66, ap1Xu66, azXu66, ap8Xu66, aq0Xu66, aqXu66, lE, (by rw [List.length_append, hln]; rfl), (all_snoc hLa (by omega)), ⟨by omega, by omega⟩⟩
  · skip
    have ti := hg28
    exact hJ20 _ _ ⟨u, _, g8L27, g9L27, op1, op8, oq0, oq, ou, nu, ap1Xu, ap8Xu, aq0Xu, aqXu, lE, (by omega), hLa⟩
theorem C.laws_b10Ints {va vb : Value} {l : List Int} {m : List Int}  {H : Hp} {K : Value → Hp → Prop} (hva0 : Sl eI H va l) (hvb0 : Sl eI H vb m) (k1 : l.length ≤ 9223372036854775807)
    (hk : ∀ H', Le H H' → K (.bool (decide (l = m))) H') : HT prg I.laws_b10Ints [va, vb].toArray H K := by
  have lE := Le.refl H
  have hva := hva0
  have hvb := hvb0
  refine R.laws_b10Ints ?_
  unfold F.laws_b10Ints
  refine ob_i (hva.len) ?_
  refine ob_i (hvb.len) ?_
  refine ob_i (vInt_neq _ _ _) ?_
  refine cnd_d (fun hg1 => ?_) (fun hg1 => ?_)
  · skip
    skip
    exact keq (K := K) (by rw [decide_eq_false (show ¬ (l = m) from by intro h; subst h; omega)]; try rfl) (hk   _    lE)
  · skip
    refine jn_i (fun σ' H' => Le H H' ∧ (∀ j : Nat, j < l.length → at_ 0 l (j : Int) = at_ 0 m (j : Int))) (fun σ2 H2 hP => ?_) (fun J2 hJ2 => ?_)
    · skip
      obtain ⟨lE, ho0⟩ := hP
      have hva := hva0.le lE
      have hvb := hvb0.le lE
      skip
      exact keq (K := K) (by rw [decide_eq_true (show (l = m) from by exact ints_eq (by omega) ho0)]; try rfl) (hk   _    lE)
    refine ob_i (hva.len) ?_
    refine ⟨fun n' σ' H' => ∃ i : Nat, n' = l.length - i ∧ i ≤ l.length ∧ σ' 0 = va ∧ σ' 1 = vb ∧ σ' 12 = (.int .i64 (((l).length : Int))) ∧ σ' 13 = (.int .i64 ((i : Int))) ∧ Le H H' ∧ (∀ j : Nat, j < i → at_ 0 l (j : Int) = at_ 0 m (j : Int)),
      ⟨_, 0, rfl, by omega, rfl, rfl, rfl, (congrArg (Value.int .i64) (by first | omega | rfl | (simp; done))), lE, (fun j hj => by omega)⟩, ?_⟩
    rintro n3 σ3 H3 ⟨i, rfl, hiN, g0L3, g1L3, g12L3, g13L3, lE, hm0⟩
    have hva := hva0.le lE
    have hvb := hvb0.le lE
    try simp only [g0L3, g1L3, g12L3, g13L3]
    refine ob_i (vInt_lss _ _ _) ?_
    refine cnd_d (fun hg4 => ?_) (fun hg4 => ?_)
    · skip
      have ti := hg4
      refine ob_i (hva.ix (by omega) (by omega)) ?_
      refine ob_i (hva.ld 0 (by omega) (by omega)) ?_
      refine ob_i (hvb.ix (by omega) (by omega)) ?_
      refine ob_i (hvb.ld 0 (by omega) (by omega)) ?_
      refine ob_i (vInt_neq _ _ _) ?_
      refine cnd_d (fun hg5 => ?_) (fun hg5 => ?_)
      · skip
        refine retK (K := K) (v' := (.bool false)) rfl ?_
        skip
        exact keq (K := K) (by rw [decide_eq_false (show ¬ (l = m) from by intro h; subst h; omega)]; try rfl) (hk   _    lE)
      · skip
        refine ob_i (vInt_add (by omega) (by omega)) ?_
        exact nxt (l.length - (i + 1)) (by omega) ⟨i + 1, rfl, by omega, g0L3, g1L3, g12L3, (congrArg (Value.int .i64) (by first | omega | rfl | (simp; done))), lE, (ints_snoc hm0 (Decidable.not_not.mp hg5))⟩
    · skip
      have ti := hg4
      exact hJ2 _ _ ⟨lE, (by rw [show l.length = i by omega]; exact hm0)⟩
theorem C.laws_b10Long {vy vm : Value} {l : List Int} {m : List Int}  {H : Hp} {K : Value → Hp → Prop} (hvy0 : Sl eU H vy l) (hvm0 : Sl eU H vm m)
    (hk : ∀ H', Le H H' → K (.bool (decide (1048576 < l.length ∨ 1048576 < m.length))) H') : HT prg I.laws_b10Long [vy, vm].toArray H K := by
  have lE := Le.refl H
  have hvy := hvy0
  have hvm := hvm0
  refine R.laws_b10Long ?_
  unfold F.laws_b10Long
  refine ob_i (hvy.len) ?_
  refine ob_i (vInt_gtr _ _ _) ?_
  by_cases hc1 : 1048576 < (((l).length : Int))
  · skip
    refine gop_e (decide_eq_true hc1) ?_
    refine gop_st ?_
    refine gop_e (decide_eq_true hc1) ?_
    refine gop_st ?_
    refine gop_e (decide_eq_true hc1) ?_
    refine gop_st ?_
    refine ob_i (vPick_et (decide_eq_true hc1) _ _) ?_
    skip
    exact keq (K := K) (by rw [decide_eq_true (show (1048576 < l.length ∨ 1048576 < m.length) from by omega)]; try rfl) (hk   _    lE)
  · skip
    refine gop_e (decide_eq_false hc1) ?_
    refine gop_rf ?_
    refine gop_e (decide_eq_false hc1) ?_
    refine gop_rf ?_
    refine ob_i (hvm.len) ?_
    refine gop_e (decide_eq_false hc1) ?_
    refine gop_rf ?_
    refine ob_i (vInt_gtr _ _ _) ?_
    refine ob_i (vPick_ef (decide_eq_false hc1) _ _) ?_
    skip
    exact keq (K := K) (by rw [show decide (1048576 < (((m).length : Int))) = decide (1048576 < l.length ∨ 1048576 < m.length) from decide_eq_decide.mpr (by omega)]; try rfl) (hk   _    lE)
theorem C.cenI_ok {vc : Value} {r c : Int} {l : List Int} {H : Hp} {K : Value → Hp → Prop} (hvc0 : Sl eI H vc l) (k1 : l.length ≤ 9223372036854775807) (hP : fieldN 1 r c l ∧ (cenN (nmL r c l (stsL c l l.length))).length ≤ 64)
    (hk : ∀ u1 u2 H', Own vS H' u1 (cenN (nmL r c l (stsL c l l.length))) → Own eI H' u2 (cenC (nmL r c l (stsL c l l.length))) → Nw H u1 → Nw H u2 → Apart u1 u2 → Le H H' → K (.tuple #[u1, u2, .bool true]) H') : HT prg I.impl_CensusOf [.agg #[.int .i64 r, .int .i64 c, vc]].toArray H K :=
  C.impl_CensusOf hvc0 k1 (fun u1 u2 H' o1 o2 n1 n2 a le => by rw [selL_t hP] at o1 o2; rw [decide_eq_true hP]; exact hk u1 u2 H' o1 o2 n1 n2 a le)
theorem C.cenS_ok {vc : Value} {r c : Int} {l : List Int} {H : Hp} {K : Value → Hp → Prop} (hvc0 : Sl eI H vc l) (k1 : l.length ≤ 9223372036854775807) (hP : fieldN 1 r c l ∧ (cenN (nmL r c l (stsL c l l.length))).length ≤ 64)
    (hk : ∀ u1 u2 H', Own vS H' u1 (cenN (nmL r c l (stsL c l l.length))) → Own eI H' u2 (cenC (nmL r c l (stsL c l l.length))) → Nw H u1 → Nw H u2 → Apart u1 u2 → Le H H' → K (.tuple #[u1, u2, .bool true]) H') : HT prg I.spec_CensusOf [.agg #[.int .i64 r, .int .i64 c, vc]].toArray H K :=
  C.spec_CensusOf hvc0 k1 (fun u1 u2 H' o1 o2 n1 n2 a le => by rw [selL_t hP] at o1 o2; rw [decide_eq_true hP]; exact hk u1 u2 H' o1 o2 n1 n2 a le)
theorem C.parts_ok {vc : Value} {r c : Int} {l : List Int} {H : Hp} {K : Value → Hp → Prop} (hvc0 : Sl eI H vc l) (k1 : l.length ≤ 9223372036854775807) (hP : fieldN 1 r c l)
    (hk : ∀ u1 S1 u2 H', Fam H' u1 S1 (prtL r c l (stsL c l l.length)) → Own eI H' u2 (plcL r c l (stsL c l l.length)) → Nws H S1 → Nw H u2 → Apt S1 u2 → Le H H' → K (.tuple #[u1, u2, .bool true]) H') : HT prg I.impl_PartsOf [.agg #[.int .i64 r, .int .i64 c, vc]].toArray H K :=
  C.PartsOf_c hvc0 k1 (fun _ => hk) (fun h => absurd hP h)
section
variable {r c : Int} {l : List Int}
theorem parts_many (hf : fieldN 1 r c l) : (stsL c l l.length).length ≤ l.length := stsL_len _
theorem cen_many (hf : fieldN 1 r c l) (h : l.length ≤ 64) : (cenN (nmL r c l (stsL c l l.length))).length ≤ 64 := by
  have := (cen_of (nmL r c l (stsL c l l.length))).le
  rw [nmL_len] at this
  have := parts_many hf
  omega
/-- What is known of a part. -/
theorem part_box (hf : fieldN 1 r c l) {t : Nat} (ht : t < (stsL c l l.length).length) : ∃ s, s = at_ 0 (stsL c l l.length) (t : Int) ∧ onP l s ∧ at_ 0 (plcL r c l (stsL c l l.length)) (2 * (t : Int)) = (trm r c (aloL c l s)).1 ∧ at_ 0 (plcL r c l (stsL c l l.length)) (2 * (t : Int) + 1) = (trm r c (aloL c l s)).2.2.1 ∧
    0 ≤ (trm r c (aloL c l s)).1 ∧ 0 ≤ (trm r c (aloL c l s)).2.2.1 ∧ 1 ≤ trR r c (aloL c l s) ∧ 1 ≤ trC r c (aloL c l s) ∧ (trm r c (aloL c l s)).1 + trR r c (aloL c l s) ≤ r ∧ (trm r c (aloL c l s)).2.2.1 + trC r c (aloL c l s) ≤ c := by
  have hon := (stsL_on (at_mem 0 (stsL c l l.length) (i := (t : Int)) (by omega) (by omega))).1
  obtain ⟨b1, b2, b3, b4, b5, b6⟩ := trm_bnd hf.1 (alo_pos hf.1 hf.2.1 hon)
  have hp : ∀ (L : List Nat) (t : Nat), t < L.length → at_ 0 (plcL r c l L) ((2 * t : Nat) : Int) = (trm r c (aloL c l (at_ 0 L (t : Int)))).1 ∧ at_ 0 (plcL r c l L) ((2 * t + 1 : Nat) : Int) = (trm r c (aloL c l (at_ 0 L (t : Int)))).2.2.1 := by
    intro L
    induction L with
    | nil => intro t h; simp at h
    | cons a L ih =>
      intro t h
      cases t with
      | zero => exact ⟨rfl, rfl⟩
      | succ t =>
        obtain ⟨i1, i2⟩ := ih t (by simpa using h)
        have e0 : at_ 0 (a :: L) ((t + 1 : Nat) : Int) = at_ 0 L (t : Int) := by
          rw [at_eq 0 _ h, at_eq 0 _ (by simpa using h)]; simp
        rw [e0, ← i1, ← i2]
        have el : plcL r c l (a :: L) = (trm r c (aloL c l a)).1 :: (trm r c (aloL c l a)).2.2.1 :: plcL r c l L := rfl
        rw [el]
        unfold at_
        simp only [Int.toNat_natCast, List.getD_eq_getElem?_getD]
        rw [show 2 * (t + 1) = 2 * t + 1 + 1 by omega, show 2 * t + 1 + 1 + 1 = (2 * t + 1) + 1 + 1 by omega]
        simp only [List.getElem?_cons_succ]
        exact ⟨trivial, trivial⟩
  obtain ⟨p1, p2⟩ := hp _ t ht
  exact ⟨_, rfl, hon, by rw [← p1]; congr 1, by rw [← p2]; congr 1, b1, b2, b3, b4, b5, b6⟩
end
theorem rise_no {a b : List UInt8} (h : LtT a b) : ¬ (Op.bytesLess b a || b == a) = true := by
  have := bytesLess_tri b a
  rw [show Op.bytesLess a b = true from h] at this
  cases hh : (Op.bytesLess b a || b == a) with
  | true => rw [hh] at this; cases this
  | false => simp
set_option maxHeartbeats 4000000 in
theorem C.laws_FnParts {vy vm : Value} {l : List Int} {mm : List Int}  {H : Hp} {K : Value → Hp → Prop} (hvy0 : Sl eU H vy l) (hvm0 : Sl eU H vm mm) (hb_vy : bytP l) (hl_vy : l.length ≤ 9223372036854775807) (hb_vm : bytP mm) (hl_vm : mm.length ≤ 9223372036854775807)
    (hk : ∀ H', Le H H' → K (.bool true) H') : HT prg I.laws_FnParts [vy, vm].toArray H K := by
  have lE := Le.refl H
  have hvy := hvy0
  have hvm := hvm0
  refine R.laws_FnParts ?_
  unfold F.laws_FnParts
  refine C.laws_b10Long hvy hvm (fun   H1    le2 => ?_)
  replace hvy := hvy.le le2
  replace hvm := hvm.le le2
  replace lE := lE.trans le2
  refine cnd_d (fun hg3 => ?_) (fun hg3 => ?_)
  · skip
    skip
    exact hk   _    lE
  · skip
    refine C.laws_b10At (k := 0) (n := 8) hvm hb_vm hl_vm (by omega) (by omega) (fun x4 xp5 xq6 => ?_)
    replace xq6 := xq6 (by omega)
    refine ob_i (vInt_add (by omega) (by omega)) ?_
    obtain ⟨r, hr⟩ : ∃ x : Int, x = 1 + x4 := ⟨_, rfl⟩
    rw [← hr]
    refine C.laws_b10At (k := 1) (n := 8) hvm hb_vm hl_vm (by omega) (by omega) (fun x7 xp8 xq9 => ?_)
    replace xq9 := xq9 (by omega)
    refine ob_i (vInt_add (by omega) (by omega)) ?_
    obtain ⟨c, hc⟩ : ∃ x : Int, x = 1 + x7 := ⟨_, rfl⟩
    rw [← hc]
    refine C.spec_B10Plain hvy (by first | omega | assumption) (by first | omega | assumption) (by exact ⟨⟨by omega, by omega⟩, by omega, by omega⟩) (fun  lf hlf u12 H10 ou12 nn13  le11 => ?_)
    have nu12 : Nw H u12 := nn13.le lE
    replace hvy := hvy.le le11
    replace hvm := hvm.le le11
    replace lE := lE.trans le11
    have hf := hlf
    have l1 := fieldN_len hf
    have hs := hf.1
    have hl := hf.2.1
    have q1 := hs.1
    have q2 := hs.2
    have qm := sidesF_mul hs
    have l64 : lf.length ≤ 64 := by have : r * c ≤ 8 * 8 := Int.mul_le_mul (by omega) (by omega) (by omega) (by omega); omega
    have hcen := cen_of (nmL r c lf (stsL c lf lf.length))
    have hcn := cen_many hf l64
    have hP : fieldN 1 r c lf ∧ (cenN (nmL r c lf (stsL c lf lf.length))).length ≤ 64 := ⟨hf, hcn⟩
    have hcl := hcen.len
    have hpl := prtL_len (r := r) (c := c) (l := lf) (L := (stsL c lf lf.length))
    have hcl2 := plcL_len (r := r) (c := c) (l := lf) (L := (stsL c lf lf.length))
    have hpm := parts_many hf
    have hsum := hcen.sum
    rw [nmL_len] at hsum
    have hnl := nmL_len (r := r) (c := c) (l := lf) (L := (stsL c lf lf.length))
    have hcle := hcen.le
    refine nw_i (fun q H14 oq nn15 le16 => ?_)
    have au12Xq : Apart u12 q := ou12.apart nn15
    have nq : Nw H q := nn15.le lE
    replace ou12 := ou12.le le16
    replace hvy := hvy.le le16
    replace hvm := hvm.le le16
    replace lE := lE.trans le16
    replace oq : Cel H14 q [(.int .i64 (0)), (.int .i64 (0)), (.slice none 0 0)] := oq
    refine oq.stn (ws := [(.int .i64 (r)), (.int .i64 (c)), u12]) rfl rfl (oc1 rfl (oc1 rfl (oc1 ou12.one oc0))) (fun H17 oq off18 => ?_)
    replace ou12 := ou12.off off18 au12Xq
    replace hvy := hvy0.le (off18.le lE nq)
    replace hvm := hvm0.le (off18.le lE nq)
    replace lE := off18.le lE nq
    replace oq : Cel H17 q [(.int .i64 (r)), (.int .i64 (c)), u12] := oq
    refine ob_i (oq.ldn rfl) ?_
    refine C.parts_ok ou12.sl (by first | omega | assumption) (by first | exact hP | exact hf) (fun  u21 Su21 u22 H19 ou21 ou22 nn23 nn24 au21Xu22 le20 => ?_)
    have au12Xu21 : Apt u12 Su21 := Apt.of_nws ou12.known nn23
    have aqXu21 : Apt q Su21 := Apt.of_nws oq.known nn23
    have nu21 : Nws H Su21 := nn23.le lE
    have au12Xu22 : Apart u12 u22 := ou12.apart nn24
    have aqXu22 : Apart q u22 := oq.apart nn24
    have nu22 : Nw H u22 := nn24.le lE
    replace ou12 := ou12.le le20
    replace oq := oq.le le20
    replace hvy := hvy.le le20
    replace hvm := hvm.le le20
    replace lE := lE.trans le20
    refine ob_i (vExt_30 _ _ _) ?_
    refine ob_i (vExt_31 _ _ _) ?_
    refine ob_i (vExt_32 _ _ _) ?_
    refine ob_i (oq.ldn rfl) ?_
    refine C.cenI_ok ou12.sl (by first | omega | assumption) (by first | exact hP | exact hf) (fun  u27 u28 H25 ou27 ou28 nn29 nn30 au27Xu28 le26 => ?_)
    have au12Xu27 : Apart u12 u27 := ou12.apart nn29
    have aqXu27 : Apart q u27 := oq.apart nn29
    have au21Xu27 : Apt Su21 u27 := Apt.of_nw ou21.known nn29
    have au22Xu27 : Apart u22 u27 := ou22.apart nn29
    have nu27 : Nw H u27 := nn29.le lE
    have au12Xu28 : Apart u12 u28 := ou12.apart nn30
    have aqXu28 : Apart q u28 := oq.apart nn30
    have au21Xu28 : Apt Su21 u28 := Apt.of_nw ou21.known nn30
    have au22Xu28 : Apart u22 u28 := ou22.apart nn30
    have nu28 : Nw H u28 := nn30.le lE
    replace ou12 := ou12.le le26
    replace oq := oq.le le26
    replace ou21 := ou21.le le26
    replace ou22 := ou22.le le26
    replace hvy := hvy.le le26
    replace hvm := hvm.le le26
    replace lE := lE.trans le26
    refine ob_i (vExt_30 _ _ _) ?_
    refine ob_i (vExt_31 _ _ _) ?_
    refine ob_i (vExt_32 _ _ _) ?_
    refine ob_i (oq.ldn rfl) ?_
    refine C.cenS_ok ou12.sl (by first | omega | assumption) (by first | exact hP | exact hf) (fun  u33 u34 H31 ou33 ou34 nn35 nn36 au33Xu34 le32 => ?_)
    have au12Xu33 : Apart u12 u33 := ou12.apart nn35
    have aqXu33 : Apart q u33 := oq.apart nn35
    have au21Xu33 : Apt Su21 u33 := Apt.of_nw ou21.known nn35
    have au22Xu33 : Apart u22 u33 := ou22.apart nn35
    have au27Xu33 : Apart u27 u33 := ou27.apart nn35
    have au28Xu33 : Apart u28 u33 := ou28.apart nn35
    have nu33 : Nw H u33 := nn35.le lE
    have au12Xu34 : Apart u12 u34 := ou12.apart nn36
    have aqXu34 : Apart q u34 := oq.apart nn36
    have au21Xu34 : Apt Su21 u34 := Apt.of_nw ou21.known nn36
    have au22Xu34 : Apart u22 u34 := ou22.apart nn36
    have au27Xu34 : Apart u27 u34 := ou27.apart nn36
    have au28Xu34 : Apart u28 u34 := ou28.apart nn36
    have nu34 : Nw H u34 := nn36.le lE
    replace ou12 := ou12.le le32
    replace oq := oq.le le32
    replace ou21 := ou21.le le32
    replace ou22 := ou22.le le32
    replace ou27 := ou27.le le32
    replace ou28 := ou28.le le32
    replace hvy := hvy.le le32
    replace hvm := hvm.le le32
    replace lE := lE.trans le32
    refine ob_i (vExt_30 _ _ _) ?_
    refine ob_i (vExt_31 _ _ _) ?_
    refine ob_i (vExt_32 _ _ _) ?_
    refine ob_i (a := .bool false) rfl ?_
    refine gop_rf ?_
    refine gop_rf ?_
    refine ob_i (a := .bool false) rfl ?_
    refine ob_i (vPick_f _ _) ?_
    refine gop_rf ?_
    refine gop_rf ?_
    refine ob_i (a := .bool false) rfl ?_
    refine ob_i (vPick_f _ _) ?_
    refine gop_rf ?_
    refine gop_rf ?_
    refine ob_i (ou22.len) ?_
    refine gop_rf ?_
    refine gop_rf ?_
    refine ob_i (ou21.len) ?_
    refine gop_rf ?_
    refine ob_i (vInt_mul (by omega) (by omega)) ?_
    refine gop_rf ?_
    refine ob_i (vInt_neq _ _ _) ?_
    refine ob_i (vPick_f _ _) ?_
    by_cases hc37 : (((plcL r c lf (stsL c lf lf.length)).length : Int)) ≠ (2 * (((prtL r c lf (stsL c lf lf.length)).length : Int)))
    · skip
      refine gop_e (decide_eq_true hc37) ?_
      refine gop_st ?_
      refine gop_e (decide_eq_true hc37) ?_
      refine gop_st ?_
      refine gop_e (decide_eq_true hc37) ?_
      refine gop_st ?_
      refine gop_e (decide_eq_true hc37) ?_
      refine gop_st ?_
      refine gop_e (decide_eq_true hc37) ?_
      refine gop_st ?_
      refine ob_i (vPick_et (decide_eq_true hc37) _ _) ?_
      refine gop_st ?_
      refine gop_st ?_
      refine gop_st ?_
      refine gop_st ?_
      refine ob_i (vPick_t _ _) ?_
      refine cnd_t1 ?_
      exact absurd (by first | rfl | omega) hc37
    · skip
      refine gop_e (decide_eq_false hc37) ?_
      refine gop_rf ?_
      refine gop_e (decide_eq_false hc37) ?_
      refine gop_rf ?_
      refine ob_i (ou27.len) ?_
      refine gop_e (decide_eq_false hc37) ?_
      refine gop_rf ?_
      refine gop_e (decide_eq_false hc37) ?_
      refine gop_rf ?_
      refine ob_i (ou33.len) ?_
      refine gop_e (decide_eq_false hc37) ?_
      refine gop_rf ?_
      refine ob_i (vInt_neq _ _ _) ?_
      refine ob_i (vPick_ef (decide_eq_false hc37) _ _) ?_
      by_cases hc38 : (((cenN (nmL r c lf (stsL c lf lf.length))).length : Int)) ≠ (((cenN (nmL r c lf (stsL c lf lf.length))).length : Int))
      · skip
        refine gop_e (decide_eq_true hc38) ?_
        refine gop_st ?_
        refine gop_e (decide_eq_true hc38) ?_
        refine gop_st ?_
        refine gop_e (decide_eq_true hc38) ?_
        refine gop_st ?_
        refine gop_e (decide_eq_true hc38) ?_
        refine gop_st ?_
        refine ob_i (vPick_et (decide_eq_true hc38) _ _) ?_
        refine cnd_t1 ?_
        exact absurd (by first | rfl | omega) hc38
      · skip
        refine gop_e (decide_eq_false hc38) ?_
        refine gop_rf ?_
        refine gop_e (decide_eq_false hc38) ?_
        refine gop_rf ?_
        refine gop_e (decide_eq_false hc38) ?_
        refine gop_rf ?_
        refine C.laws_b10Ints ou28.sl ou34.sl (by first | omega | assumption) (fun   H39    le40 => ?_)
        replace ou12 := ou12.le le40
        replace oq := oq.le le40
        replace ou21 := ou21.le le40
        replace ou22 := ou22.le le40
        replace ou27 := ou27.le le40
        replace ou28 := ou28.le le40
        replace ou33 := ou33.le le40
        replace ou34 := ou34.le le40
        replace hvy := hvy.le le40
        replace hvm := hvm.le le40
        replace lE := lE.trans le40
        refine gop_e (decide_eq_false hc38) ?_
        refine gop_rf ?_
        refine ob_nd (fun hc41 => ?_) (fun hc41 => ?_)
        · skip
          refine ob_i (vPick_ef (decide_eq_false hc38) _ _) ?_
          refine cnd_f1 ?_
          refine jn_i (fun σ' H' => σ' 5 = (.int .i64 (r)) ∧ σ' 6 = (.int .i64 (c)) ∧ σ' 7 = q ∧ σ' 8 = u21 ∧ σ' 9 = u22 ∧ σ' 17 = (.int .i64 ((((stsL c lf lf.length)).length : Int))) ∧ Own eI H' u12 (lf) ∧ Cel H' q [(.int .i64 (r)), (.int .i64 (c)), u12] ∧ Fam H' u21 Su21 (prtL r c lf (stsL c lf lf.length)) ∧ Own eI H' u22 (plcL r c lf (stsL c lf lf.length)) ∧ Own vS H' u27 (cenN (nmL r c lf (stsL c lf lf.length))) ∧ Own eI H' u28 (cenC (nmL r c lf (stsL c lf lf.length))) ∧ Own vS H' u33 (cenN (nmL r c lf (stsL c lf lf.length))) ∧ Own eI H' u34 (cenC (nmL r c lf (stsL c lf lf.length))) ∧ Le H H') (fun σ42 H42 hP => ?_) (fun J42 hJ42 => ?_)
          · skip
            obtain ⟨g5L42, g6L42, g7L42, g8L42, g9L42, g17L42, ou12, oq, ou21, ou22, ou27, ou28, ou33, ou34, lE⟩ := hP
            have hvy := hvy0.le lE
            have hvm := hvm0.le lE
            try simp only [g5L42, g6L42, g7L42, g8L42, g9L42, g17L42]
            refine ob_i (oq.fa 2) ?_
            refine ob_i (oq.ld 2 rfl) ?_
            refine ob_i (ou12.len) ?_
            refine Own.mk_ (z := (0 : Int)) (by omega) (by omega) (by omega) (by omega) (fun al H43 oal nn44 le45 => ?_)
            have au12Xal : Apart u12 al := ou12.apart nn44
            have aqXal : Apart q al := oq.apart nn44
            have au21Xal : Apt Su21 al := Apt.of_nw ou21.known nn44
            have au22Xal : Apart u22 al := ou22.apart nn44
            have au27Xal : Apart u27 al := ou27.apart nn44
            have au28Xal : Apart u28 al := ou28.apart nn44
            have au33Xal : Apart u33 al := ou33.apart nn44
            have au34Xal : Apart u34 al := ou34.apart nn44
            have nal : Nw H al := nn44.le lE
            replace ou12 := ou12.le le45
            replace oq := oq.le le45
            replace ou21 := ou21.le le45
            replace ou22 := ou22.le le45
            replace ou27 := ou27.le le45
            replace ou28 := ou28.le le45
            replace ou33 := ou33.le le45
            replace ou34 := ou34.le le45
            replace hvy := hvy.le le45
            replace hvm := hvm.le le45
            replace lE := lE.trans le45
            refine jn_i (fun σ' H' => σ' 7 = q ∧ σ' 8 = u21 ∧ σ' 17 = (.int .i64 ((((stsL c lf lf.length)).length : Int))) ∧ σ' 19 = al ∧ Own eI H' u12 (lf) ∧ Cel H' q [(.int .i64 (r)), (.int .i64 (c)), u12] ∧ Fam H' u21 Su21 (prtL r c lf (stsL c lf lf.length)) ∧ Own eI H' u22 (plcL r c lf (stsL c lf lf.length)) ∧ Own vS H' u27 (cenN (nmL r c lf (stsL c lf lf.length))) ∧ Own eI H' u28 (cenC (nmL r c lf (stsL c lf lf.length))) ∧ Own vS H' u33 (cenN (nmL r c lf (stsL c lf lf.length))) ∧ Own eI H' u34 (cenC (nmL r c lf (stsL c lf lf.length))) ∧ Own eI H' al (lf) ∧ Le H H') (fun σ46 H46 hP => ?_) (fun J46 hJ46 => ?_)
            · skip
              obtain ⟨g7L46, g8L46, g17L46, g19L46, ou12, oq, ou21, ou22, ou27, ou28, ou33, ou34, oal, lE⟩ := hP
              have hvy := hvy0.le lE
              have hvm := hvm0.le lE
              try simp only [g7L46, g8L46, g17L46, g19L46]
              refine ob_i (ou21.len) ?_
              refine ob_i (vInt_eql _ _ _) ?_
              by_cases hc47 : ((((stsL c lf lf.length)).length : Int)) = (((prtL r c lf (stsL c lf lf.length)).length : Int))
              · skip
                refine gop_e (decide_eq_true hc47) ?_
                refine gop_rt ?_
                refine gop_e (decide_eq_true hc47) ?_
                refine gop_rt ?_
                refine ob_i (oq.fa 2) ?_
                refine gop_e (decide_eq_true hc47) ?_
                refine gop_rt ?_
                refine ob_i (oq.ld 2 rfl) ?_
                refine gop_e (decide_eq_true hc47) ?_
                refine gop_rt ?_
                refine C.laws_b10Ints oal.sl ou12.sl (by first | omega | assumption) (fun   H48    le49 => ?_)
                replace ou12 := ou12.le le49
                replace oq := oq.le le49
                replace ou21 := ou21.le le49
                replace ou22 := ou22.le le49
                replace ou27 := ou27.le le49
                replace ou28 := ou28.le le49
                replace ou33 := ou33.le le49
                replace ou34 := ou34.le le49
                replace oal := oal.le le49
                replace hvy := hvy.le le49
                replace hvm := hvm.le le49
                replace lE := lE.trans le49
                refine ob_i (vPick_et (decide_eq_true hc47) _ _) ?_
                exact keq (K := K) (by rw [decide_eq_true rfl]) (hk _ lE)
              · skip
                refine gop_e (decide_eq_false hc47) ?_
                refine gop_sf ?_
                refine gop_e (decide_eq_false hc47) ?_
                refine gop_sf ?_
                refine gop_e (decide_eq_false hc47) ?_
                refine gop_sf ?_
                refine gop_e (decide_eq_false hc47) ?_
                refine gop_sf ?_
                refine ob_i (vPick_ef (decide_eq_false hc47) _ _) ?_
                exact absurd (by first | rfl | omega) hc47
            refine ob_i (ou21.len) ?_
            refine ⟨fun n' σ' H' => ∃ t : Nat, n' = (stsL c lf lf.length).length - t ∧ t ≤ (stsL c lf lf.length).length ∧ σ' 5 = (.int .i64 (r)) ∧ σ' 6 = (.int .i64 (c)) ∧ σ' 7 = q ∧ σ' 8 = u21 ∧ σ' 9 = u22 ∧ σ' 17 = (.int .i64 ((((stsL c lf lf.length)).length : Int))) ∧ σ' 19 = al ∧ σ' 128 = (.int .i64 (((prtL r c lf (stsL c lf lf.length)).length : Int))) ∧ σ' 129 = (.int .i64 ((t : Int))) ∧ Own eI H' u12 (lf) ∧ Cel H' q [(.int .i64 (r)), (.int .i64 (c)), u12] ∧ Fam H' u21 Su21 (prtL r c lf (stsL c lf lf.length)) ∧ Own eI H' u22 (plcL r c lf (stsL c lf lf.length)) ∧ Own vS H' u27 (cenN (nmL r c lf (stsL c lf lf.length))) ∧ Own eI H' u28 (cenC (nmL r c lf (stsL c lf lf.length))) ∧ Own vS H' u33 (cenN (nmL r c lf (stsL c lf lf.length))) ∧ Own eI H' u34 (cenC (nmL r c lf (stsL c lf lf.length))) ∧ Own eI H' al ((alS c lf ((stsL c lf lf.length).take t))) ∧ Le H H',
              ⟨_, 0, rfl, by omega, g5L42, g6L42, g7L42, g8L42, g9L42, g17L42, rfl, rfl, (congrArg (Value.int .i64) (by first | omega | rfl | (simp; done))), ou12, oq, ou21, ou22, ou27, ou28, ou33, ou34, (Own.cast (by rw [List.take_zero, alS_nil]; congr 1) oal), lE⟩, ?_⟩
            rintro n50 σ50 H50 ⟨t, rfl, htN, g5L50, g6L50, g7L50, g8L50, g9L50, g17L50, g19L50, g128L50, g129L50, ou12, oq, ou21, ou22, ou27, ou28, ou33, ou34, oal, lE⟩
            have hvy := hvy0.le lE
            have hvm := hvm0.le lE
            try simp only [g5L50, g6L50, g8L50, g9L50, g19L50, g128L50, g129L50]
            refine ob_i (vInt_lss _ _ _) ?_
            refine cnd_d (fun hg51 => ?_) (fun hg51 => ?_)
            · skip
              have tt := hg51
              obtain ⟨s, hs0, hon, hp1, hp2, b1, b2, b3, b4, b5, b6⟩ := part_box hf (t := t) (by omega)
              obtain ⟨R, hR⟩ : ∃ x : Int, x = trR r c (aloL c lf s) := ⟨_, rfl⟩
              obtain ⟨C, hC⟩ : ∃ x : Int, x = trC r c (aloL c lf s) := ⟨_, rfl⟩
              rw [← hR] at b3 b5
              rw [← hC] at b4 b6
              rw [← hp1] at b1 b5
              rw [← hp2] at b2 b6
              have hRC : ((R.toNat * C.toNat : Nat) : Int) = R * C := by rw [Int.natCast_mul, Int.toNat_of_nonneg (by omega), Int.toNat_of_nonneg (by omega)]
              have tll : ((trL r c (aloL c lf s)).length : Int) = R * C := by rw [hR, hC]; unfold trL; exact mkL_len (by omega) (by omega)
              have hRC2 : R * C ≤ 24 * 24 := Int.mul_le_mul (by omega) (by omega) (by omega) (by omega)
              have alen := alS_len (c := c) (l := lf) (L := (stsL c lf lf.length).take t)
              refine jn_i (fun σ' H' => σ' 5 = (.int .i64 (r)) ∧ σ' 6 = (.int .i64 (c)) ∧ σ' 7 = q ∧ σ' 8 = u21 ∧ σ' 9 = u22 ∧ σ' 17 = (.int .i64 ((((stsL c lf lf.length)).length : Int))) ∧ σ' 19 = al ∧ σ' 128 = (.int .i64 (((prtL r c lf (stsL c lf lf.length)).length : Int))) ∧ σ' 129 = (.int .i64 ((t : Int))) ∧ Own eI H' u12 (lf) ∧ Cel H' q [(.int .i64 (r)), (.int .i64 (c)), u12] ∧ Fam H' u21 Su21 (prtL r c lf (stsL c lf lf.length)) ∧ Own eI H' u22 (plcL r c lf (stsL c lf lf.length)) ∧ Own vS H' u27 (cenN (nmL r c lf (stsL c lf lf.length))) ∧ Own eI H' u28 (cenC (nmL r c lf (stsL c lf lf.length))) ∧ Own vS H' u33 (cenN (nmL r c lf (stsL c lf lf.length))) ∧ Own eI H' u34 (cenC (nmL r c lf (stsL c lf lf.length))) ∧ Own eI H' al (alS c lf ((stsL c lf lf.length).take (t + 1))) ∧ Le H H') (fun σ52 H52 hP => ?_) (fun J52 hJ52 => ?_)
              · skip
                obtain ⟨g5L52, g6L52, g7L52, g8L52, g9L52, g17L52, g19L52, g128L52, g129L52, ou12, oq, ou21, ou22, ou27, ou28, ou33, ou34, oal, lE⟩ := hP
                have hvy := hvy0.le lE
                have hvm := hvm0.le lE
                try simp only [g129L52]
                refine ob_i (vInt_add (by omega) (by omega)) ?_
                exact nxt ((stsL c lf lf.length).length - (t + 1)) (by omega) ⟨t + 1, rfl, by omega, g5L52, g6L52, g7L52, g8L52, g9L52, g17L52, g19L52, g128L52, (congrArg (Value.int .i64) (by first | omega | rfl | (simp; done))), ou12, oq, ou21, ou22, ou27, ou28, ou33, ou34, oal, lE⟩
              obtain ⟨P53, y54, hb55a, oP53, oy54, hb55p, hb55x⟩ := ou21.el (i := (t : Int)) (f := ⟨R, C, (trL r c (aloL c lf s))⟩) (by omega) (by first | omega | (simp; omega)) ((by rw [prt_at (by omega), ← hs0, hR, hC]; rfl))
              have au12XP53 : Apart u12 P53 := fun b h1 h2 => au12Xu21 b h1 (hb55p b h2)
              have aqXP53 : Apart q P53 := fun b h1 h2 => aqXu21 b h1 (hb55p b h2)
              have au22XP53 : Apart u22 P53 := fun b h1 h2 => au21Xu22.symm b h1 (hb55p b h2)
              have au27XP53 : Apart u27 P53 := fun b h1 h2 => au21Xu27.symm b h1 (hb55p b h2)
              have au28XP53 : Apart u28 P53 := fun b h1 h2 => au21Xu28.symm b h1 (hb55p b h2)
              have au33XP53 : Apart u33 P53 := fun b h1 h2 => au21Xu33.symm b h1 (hb55p b h2)
              have au34XP53 : Apart u34 P53 := fun b h1 h2 => au21Xu34.symm b h1 (hb55p b h2)
              have aalXP53 : Apart al P53 := fun b h1 h2 => au21Xal.symm b h1 (hb55p b h2)
              have au12Xy54 : Apart u12 y54 := fun b h1 h2 => au12Xu21 b h1 (hb55x b h2)
              have aqXy54 : Apart q y54 := fun b h1 h2 => aqXu21 b h1 (hb55x b h2)
              have au22Xy54 : Apart u22 y54 := fun b h1 h2 => au21Xu22.symm b h1 (hb55x b h2)
              have au27Xy54 : Apart u27 y54 := fun b h1 h2 => au21Xu27.symm b h1 (hb55x b h2)
              have au28Xy54 : Apart u28 y54 := fun b h1 h2 => au21Xu28.symm b h1 (hb55x b h2)
              have au33Xy54 : Apart u33 y54 := fun b h1 h2 => au21Xu33.symm b h1 (hb55x b h2)
              have au34Xy54 : Apart u34 y54 := fun b h1 h2 => au21Xu34.symm b h1 (hb55x b h2)
              have aalXy54 : Apart al y54 := fun b h1 h2 => au21Xal.symm b h1 (hb55x b h2)
              replace oP53 : CelR H50 P53 [(.int .i64 (R)), (.int .i64 (C)), y54] := oP53
              replace oy54 : Ro eI H50 y54 ((trL r c (aloL c lf s))) := oy54
              refine ob_i (hb55a) ?_
              refine ob_i (oP53.ldn rfl) ?_
              refine nw_i (fun p56 H57 op56 nn58 le59 => ?_)
              have au12Xp56 : Apart u12 p56 := ou12.apart nn58
              have aqXp56 : Apart q p56 := oq.apart nn58
              have au21Xp56 : Apt Su21 p56 := Apt.of_nw ou21.known nn58
              have au22Xp56 : Apart u22 p56 := ou22.apart nn58
              have au27Xp56 : Apart u27 p56 := ou27.apart nn58
              have au28Xp56 : Apart u28 p56 := ou28.apart nn58
              have au33Xp56 : Apart u33 p56 := ou33.apart nn58
              have au34Xp56 : Apart u34 p56 := ou34.apart nn58
              have aalXp56 : Apart al p56 := oal.apart nn58
              have aP53Xp56 : Apart P53 p56 := oP53.apart nn58
              have ay54Xp56 : Apart y54 p56 := oy54.apart nn58
              have np56 : Nw H p56 := nn58.le lE
              replace ou12 := ou12.le le59
              replace oq := oq.le le59
              replace ou21 := ou21.le le59
              replace ou22 := ou22.le le59
              replace ou27 := ou27.le le59
              replace ou28 := ou28.le le59
              replace ou33 := ou33.le le59
              replace ou34 := ou34.le le59
              replace oal := oal.le le59
              replace oP53 := oP53.le le59
              replace oy54 := oy54.le le59
              replace hvy := hvy.le le59
              replace hvm := hvm.le le59
              replace lE := lE.trans le59
              replace op56 : Cel H57 p56 [(.int .i64 (0)), (.int .i64 (0)), (.slice none 0 0)] := op56
              refine op56.stn (ws := [(.int .i64 (R)), (.int .i64 (C)), y54]) rfl rfl (oc1 rfl (oc1 rfl (oc1 oy54.one oc0))) (fun H60 op56 off61 => ?_)
              replace ou12 := ou12.off off61 au12Xp56
              replace oq := oq.off off61 aqXp56
              replace ou21 := ou21.off off61 au21Xp56
              replace ou22 := ou22.off off61 au22Xp56
              replace ou27 := ou27.off off61 au27Xp56
              replace ou28 := ou28.off off61 au28Xp56
              replace ou33 := ou33.off off61 au33Xp56
              replace ou34 := ou34.off off61 au34Xp56
              replace oal := oal.off off61 aalXp56
              replace oP53 := oP53.off off61 aP53Xp56
              replace oy54 := oy54.off off61 ay54Xp56
              replace hvy := hvy0.le (off61.le lE np56)
              replace hvm := hvm0.le (off61.le lE np56)
              replace lE := off61.le lE np56
              replace op56 : Cel H60 p56 [(.int .i64 (R)), (.int .i64 (C)), y54] := op56
              refine ob_i (op56.fa 0) ?_
              refine ob_i (op56.ld 0 rfl) ?_
              refine ob_i (vInt_lss _ _ _) ?_
              by_cases hc62 : R < 1
              · skip
                exact absurd hc62 ((by omega))
              · skip
                refine gop_e (decide_eq_false hc62) ?_
                refine gop_rf ?_
                refine ob_i (op56.fa 1) ?_
                refine gop_e (decide_eq_false hc62) ?_
                refine gop_rf ?_
                refine ob_i (op56.ld 1 rfl) ?_
                refine gop_e (decide_eq_false hc62) ?_
                refine gop_rf ?_
                refine ob_i (vInt_lss _ _ _) ?_
                refine ob_i (vPick_ef (decide_eq_false hc62) _ _) ?_
                by_cases hc63 : C < 1
                · skip
                  exact absurd hc63 ((by omega))
                · skip
                  refine gop_e (decide_eq_false hc63) ?_
                  refine gop_rf ?_
                  refine ob_i (op56.fa 2) ?_
                  refine gop_e (decide_eq_false hc63) ?_
                  refine gop_rf ?_
                  refine ob_i (op56.ld 2 rfl) ?_
                  refine gop_e (decide_eq_false hc63) ?_
                  refine gop_rf ?_
                  refine ob_i (oy54.len) ?_
                  refine gop_e (decide_eq_false hc63) ?_
                  refine gop_rf ?_
                  refine ob_i (op56.fa 0) ?_
                  refine gop_e (decide_eq_false hc63) ?_
                  refine gop_rf ?_
                  refine ob_i (op56.ld 0 rfl) ?_
                  refine gop_e (decide_eq_false hc63) ?_
                  refine gop_rf ?_
                  refine ob_i (op56.fa 1) ?_
                  refine gop_e (decide_eq_false hc63) ?_
                  refine gop_rf ?_
                  refine ob_i (op56.ld 1 rfl) ?_
                  refine gop_e (decide_eq_false hc63) ?_
                  refine gop_rf ?_
                  refine ob_i (vInt_mul (by omega) (by omega)) ?_
                  refine gop_e (decide_eq_false hc63) ?_
                  refine gop_rf ?_
                  refine ob_i (vInt_neq _ _ _) ?_
                  refine ob_i (vPick_ef (decide_eq_false hc63) _ _) ?_
                  by_cases hc64 : ((((trL r c (aloL c lf s))).length : Int)) ≠ (R * C)
                  · skip
                    exact absurd hc64 ((by omega))
                  · skip
                    refine gop_e (decide_eq_false hc64) ?_
                    refine gop_rf ?_
                    refine gop_e (decide_eq_false hc64) ?_
                    refine gop_rf ?_
                    refine gop_e (decide_eq_false hc64) ?_
                    refine gop_rf ?_
                    refine ob_i (vInt_mul (by omega) (by omega)) ?_
                    refine gop_e (decide_eq_false hc64) ?_
                    refine gop_rf ?_
                    refine ob_i (ou22.sl.ix (by omega) (by omega)) ?_
                    refine gop_e (decide_eq_false hc64) ?_
                    refine gop_rf ?_
                    refine ob_i (ou22.sl.ld 0 (by omega) (by omega)) ?_
                    refine gop_e (decide_eq_false hc64) ?_
                    refine gop_rf ?_
                    refine ob_i (vInt_lss _ _ _) ?_
                    refine ob_i (vPick_ef (decide_eq_false hc64) _ _) ?_
                    by_cases hc65 : (at_ 0 (plcL r c lf (stsL c lf lf.length)) (2 * (t : Int))) < 0
                    · skip
                      exact absurd hc65 ((by omega))
                    · skip
                      refine gop_e (decide_eq_false hc65) ?_
                      refine gop_rf ?_
                      refine gop_e (decide_eq_false hc65) ?_
                      refine gop_rf ?_
                      refine gop_e (decide_eq_false hc65) ?_
                      refine gop_rf ?_
                      refine ob_i (vInt_mul (by omega) (by omega)) ?_
                      refine gop_e (decide_eq_false hc65) ?_
                      refine gop_rf ?_
                      refine ob_i (vInt_add (by omega) (by omega)) ?_
                      refine gop_e (decide_eq_false hc65) ?_
                      refine gop_rf ?_
                      refine ob_i (ou22.sl.ix (by omega) (by omega)) ?_
                      refine gop_e (decide_eq_false hc65) ?_
                      refine gop_rf ?_
                      refine ob_i (ou22.sl.ld 0 (by omega) (by omega)) ?_
                      refine gop_e (decide_eq_false hc65) ?_
                      refine gop_rf ?_
                      refine ob_i (vInt_lss _ _ _) ?_
                      refine ob_i (vPick_ef (decide_eq_false hc65) _ _) ?_
                      by_cases hc66 : (at_ 0 (plcL r c lf (stsL c lf lf.length)) ((2 * (t : Int)) + 1)) < 0
                      · skip
                        exact absurd hc66 ((by omega))
                      · skip
                        refine gop_e (decide_eq_false hc66) ?_
                        refine gop_rf ?_
                        refine gop_e (decide_eq_false hc66) ?_
                        refine gop_rf ?_
                        refine gop_e (decide_eq_false hc66) ?_
                        refine gop_rf ?_
                        refine ob_i (vInt_mul (by omega) (by omega)) ?_
                        refine gop_e (decide_eq_false hc66) ?_
                        refine gop_rf ?_
                        refine ob_i (ou22.sl.ix (by omega) (by omega)) ?_
                        refine gop_e (decide_eq_false hc66) ?_
                        refine gop_rf ?_
                        refine ob_i (ou22.sl.ld 0 (by omega) (by omega)) ?_
                        refine gop_e (decide_eq_false hc66) ?_
                        refine gop_rf ?_
                        refine ob_i (op56.fa 0) ?_
                        refine gop_e (decide_eq_false hc66) ?_
                        refine gop_rf ?_
                        refine ob_i (op56.ld 0 rfl) ?_
                        refine gop_e (decide_eq_false hc66) ?_
                        refine gop_rf ?_
                        refine ob_i (vInt_add (by omega) (by omega)) ?_
                        refine gop_e (decide_eq_false hc66) ?_
                        refine gop_rf ?_
                        refine gop_e (decide_eq_false hc66) ?_
                        refine gop_rf ?_
                        refine ob_i (vInt_gtr _ _ _) ?_
                        refine ob_i (vPick_ef (decide_eq_false hc66) _ _) ?_
                        by_cases hc67 : r < ((at_ 0 (plcL r c lf (stsL c lf lf.length)) (2 * (t : Int))) + R)
                        · skip
                          exact absurd hc67 ((by omega))
                        · skip
                          refine gop_e (decide_eq_false hc67) ?_
                          refine gop_rf ?_
                          refine gop_e (decide_eq_false hc67) ?_
                          refine gop_rf ?_
                          refine gop_e (decide_eq_false hc67) ?_
                          refine gop_rf ?_
                          refine ob_i (vInt_mul (by omega) (by omega)) ?_
                          refine gop_e (decide_eq_false hc67) ?_
                          refine gop_rf ?_
                          refine ob_i (vInt_add (by omega) (by omega)) ?_
                          refine gop_e (decide_eq_false hc67) ?_
                          refine gop_rf ?_
                          refine ob_i (ou22.sl.ix (by omega) (by omega)) ?_
                          refine gop_e (decide_eq_false hc67) ?_
                          refine gop_rf ?_
                          refine ob_i (ou22.sl.ld 0 (by omega) (by omega)) ?_
                          refine gop_e (decide_eq_false hc67) ?_
                          refine gop_rf ?_
                          refine ob_i (op56.fa 1) ?_
                          refine gop_e (decide_eq_false hc67) ?_
                          refine gop_rf ?_
                          refine ob_i (op56.ld 1 rfl) ?_
                          refine gop_e (decide_eq_false hc67) ?_
                          refine gop_rf ?_
                          refine ob_i (vInt_add (by omega) (by omega)) ?_
                          refine gop_e (decide_eq_false hc67) ?_
                          refine gop_rf ?_
                          refine gop_e (decide_eq_false hc67) ?_
                          refine gop_rf ?_
                          refine ob_i (vInt_gtr _ _ _) ?_
                          refine ob_i (vPick_ef (decide_eq_false hc67) _ _) ?_
                          refine cnd_d (fun hg68 => ?_) (fun hg68 => ?_)
                          · skip
                            exact absurd hg68 ((by omega))
                          · skip
                            refine ob_i (op56.fa 2) ?_
                            refine ob_i (op56.ld 2 rfl) ?_
                            refine ob_i (oy54.len) ?_
                            refine ⟨fun n' σ' H' => ∃ k : Nat, n' = (R.toNat * C.toNat) - k ∧ k ≤ (R.toNat * C.toNat) ∧ ∃ Ak, σ' 5 = (.int .i64 (r)) ∧ σ' 6 = (.int .i64 (c)) ∧ σ' 7 = q ∧ σ' 8 = u21 ∧ σ' 9 = u22 ∧ σ' 17 = (.int .i64 ((((stsL c lf lf.length)).length : Int))) ∧ σ' 19 = al ∧ σ' 20 = (.int .i64 ((t : Int))) ∧ σ' 21 = p56 ∧ σ' 128 = (.int .i64 (((prtL r c lf (stsL c lf lf.length)).length : Int))) ∧ σ' 129 = (.int .i64 ((t : Int))) ∧ σ' 199 = (.int .i64 ((((trL r c (aloL c lf s))).length : Int))) ∧ σ' 200 = (.int .i64 ((k : Int))) ∧ Own eI H' u12 (lf) ∧ Cel H' q [(.int .i64 (r)), (.int .i64 (c)), u12] ∧ Fam H' u21 Su21 (prtL r c lf (stsL c lf lf.length)) ∧ Own eI H' u22 (plcL r c lf (stsL c lf lf.length)) ∧ Own vS H' u27 (cenN (nmL r c lf (stsL c lf lf.length))) ∧ Own eI H' u28 (cenC (nmL r c lf (stsL c lf lf.length))) ∧ Own vS H' u33 (cenN (nmL r c lf (stsL c lf lf.length))) ∧ Own eI H' u34 (cenC (nmL r c lf (stsL c lf lf.length))) ∧ Own eI H' al (Ak) ∧ CelR H' P53 [(.int .i64 (R)), (.int .i64 (C)), y54] ∧ Ro eI H' y54 ((trL r c (aloL c lf s))) ∧ Cel H' p56 [(.int .i64 (R)), (.int .i64 (C)), y54] ∧ Le H H' ∧ adB c (at_ 0 (plcL r c lf (stsL c lf lf.length)) (2 * (t : Int))) (at_ 0 (plcL r c lf (stsL c lf lf.length)) (2 * (t : Int) + 1)) C (alS c lf ((stsL c lf lf.length).take t)) (aloL c lf s) k Ak,
                              ⟨_, 0, rfl, by omega, _, g5L50, g6L50, g7L50, g8L50, g9L50, g17L50, g19L50, rfl, rfl, g128L50, g129L50, rfl, (congrArg (Value.int .i64) (by first | omega | rfl | (simp; done))), ou12, oq, ou21, ou22, ou27, ou28, ou33, ou34, by simpa using oal, oP53, oy54, op56, lE, adB_zero⟩, ?_⟩
                            rintro n69 σ69 H69 ⟨k, rfl, hkN, Ak, g5L69, g6L69, g7L69, g8L69, g9L69, g17L69, g19L69, g20L69, g21L69, g128L69, g129L69, g199L69, g200L69, ou12, oq, ou21, ou22, ou27, ou28, ou33, ou34, oal, oP53, oy54, op56, lE, hadb⟩
                            have hvy := hvy0.le lE
                            have hvm := hvm0.le lE
                            try simp only [g6L69, g9L69, g19L69, g20L69, g21L69, g199L69, g200L69]
                            have akl := hadb.1
                            refine ob_i (vInt_lss _ _ _) ?_
                            refine cnd_d (fun hg70 => ?_) (fun hg70 => ?_)
                            · skip
                              have tk := hg70
                              have ib := ix_bnd (top := (at_ 0 (plcL r c lf (stsL c lf lf.length)) (2 * (t : Int)))) (lft := (at_ 0 (plcL r c lf (stsL c lf lf.length)) (2 * (t : Int) + 1))) (R := R) (C := C) (r := r) (c := c) (k := k) (by omega) (by omega) (by omega) (by omega) (by omega) (by omega) (by omega) (by omega)
                              have ab := adB_bnd hadb (z := ((at_ 0 (plcL r c lf (stsL c lf lf.length)) (2 * (t : Int))) + (k : Int) / C) * c + (at_ 0 (plcL r c lf (stsL c lf lf.length)) (2 * (t : Int) + 1)) + (k : Int) % C) (by omega) (by omega)
                              have t01 := at_01 (l := (trL r c (aloL c lf s))) (part_ok2 hf hon) (k : Int)
                              rw [List.length_take] at ab
                              refine ob_i (vInt_mul (by omega) (by omega)) ?_
                              refine ob_i (ou22.sl.ix (by omega) (by omega)) ?_
                              refine ob_i (ou22.sl.ld 0 (by omega) (by omega)) ?_
                              refine ob_i (op56.fa 1) ?_
                              refine ob_i (op56.ld 1 rfl) ?_
                              refine ob_i (vInt_quoN (by omega) (by omega) (by omega)) ?_
                              refine ob_i (vInt_add (by omega) (by omega)) ?_
                              refine ob_i (vInt_mul (by omega) (by omega)) ?_
                              refine ob_i (vInt_mul (by omega) (by omega)) ?_
                              refine ob_i (vInt_add (by omega) (by omega)) ?_
                              refine ob_i (ou22.sl.ix (by omega) (by omega)) ?_
                              refine ob_i (ou22.sl.ld 0 (by omega) (by omega)) ?_
                              refine ob_i (vInt_add (by omega) (by omega)) ?_
                              refine ob_i (op56.fa 1) ?_
                              refine ob_i (op56.ld 1 rfl) ?_
                              have rm71 := And.intro (Int.emod_nonneg ((k : Int)) (b := C) (by omega)) (Int.emod_lt_of_pos ((k : Int)) (b := C) (by omega))
                              refine ob_i (vInt_remN (by omega) (by omega)) ?_
                              refine ob_i (vInt_add (by omega) (by omega)) ?_
                              refine ob_i (oal.sl.ix (by omega) (by omega)) ?_
                              refine ob_i (oal.sl.ld 0 (by omega) (by omega)) ?_
                              refine ob_i (op56.fa 2) ?_
                              refine ob_i (op56.ld 2 rfl) ?_
                              refine ob_i (oy54.sl.ix (by omega) (by omega)) ?_
                              refine ob_i (oy54.sl.ld 0 (by omega) (by omega)) ?_
                              refine ob_i (vInt_add (by omega) (by omega)) ?_
                              refine ob_i (oal.sl.ix (by omega) (by omega)) ?_
                              refine oal.st (x := (at_ 0 (Ak) (((((at_ 0 (plcL r c lf (stsL c lf lf.length)) (2 * (t : Int))) + ((k : Int) / C)) * c) + (at_ 0 (plcL r c lf (stsL c lf lf.length)) ((2 * (t : Int)) + 1))) + ((k : Int) % C))) + (at_ 0 ((trL r c (aloL c lf s))) ((k : Int)))) (by omega) (by omega) rfl rfl (fun H72 oal off73 => ?_)
                              replace ou12 := ou12.off off73 au12Xal
                              replace oq := oq.off off73 aqXal
                              replace ou21 := ou21.off off73 au21Xal
                              replace ou22 := ou22.off off73 au22Xal
                              replace ou27 := ou27.off off73 au27Xal
                              replace ou28 := ou28.off off73 au28Xal
                              replace ou33 := ou33.off off73 au33Xal
                              replace ou34 := ou34.off off73 au34Xal
                              replace oP53 := oP53.off off73 aalXP53.symm
                              replace oy54 := oy54.off off73 aalXy54.symm
                              replace op56 := op56.off off73 aalXp56.symm
                              replace hvy := hvy0.le (off73.le lE nal)
                              replace hvm := hvm0.le (off73.le lE nal)
                              replace lE := off73.le lE nal
                              refine ob_i (vInt_add (by omega) (by omega)) ?_
                              exact nxt ((R.toNat * C.toNat) - (k + 1)) (by omega) ⟨k + 1, rfl, by omega, _, g5L69, g6L69, g7L69, g8L69, g9L69, g17L69, g19L69, g20L69, g21L69, g128L69, g129L69, g199L69, (congrArg (Value.int .i64) (by first | omega | rfl | (simp; done))), ou12, oq, ou21, ou22, ou27, ou28, ou33, ou34, oal, oP53, oy54, op56, lE, (adB_next hadb (by omega) (by omega) (by omega) (show 0 ≤ (_ + _) * _ + _ + _ by omega) (show (_ + _) * _ + _ + _ < _ by omega) (by rw [trL_at2 hR hC hp1 hp2 (by omega)]; rfl))⟩
                            · skip
                              have tk := hg70
                              have hdone : Ak = alS c lf ((stsL c lf lf.length).take (t + 1)) := by rw [take_at 0 (stsL c lf lf.length) (by omega), ← hs0]; exact adB_end hs hl hon (by rw [← hR, ← hC, ← hp1, ← hp2, show R.toNat * C.toNat = k by omega]; exact hadb)
                              rw [hdone] at oal
                              exact hJ52 _ _ ⟨g5L69, g6L69, g7L69, g8L69, g9L69, g17L69, g19L69, g128L69, g129L69, ou12, oq, ou21, ou22, ou27, ou28, ou33, ou34, oal, lE⟩
            · skip
              have tt := hg51
              rw [List.take_of_length_le (by omega), alS_all hf] at oal
              exact hJ46 _ _ ⟨g7L50, g8L50, g17L50, g19L50, ou12, oq, ou21, ou22, ou27, ou28, ou33, ou34, oal, lE⟩
          refine ob_i (ou27.len) ?_
          refine ⟨fun n' σ' H' => ∃ i : Nat, n' = (cenN (nmL r c lf (stsL c lf lf.length))).length - i ∧ i ≤ (cenN (nmL r c lf (stsL c lf lf.length))).length ∧ σ' 5 = (.int .i64 (r)) ∧ σ' 6 = (.int .i64 (c)) ∧ σ' 7 = q ∧ σ' 8 = u21 ∧ σ' 9 = u22 ∧ σ' 11 = u27 ∧ σ' 12 = u28 ∧ σ' 14 = u33 ∧ σ' 17 = (.int .i64 (((cenC (nmL r c lf (stsL c lf lf.length))).take i).sum)) ∧ σ' 87 = (.int .i64 (((cenN (nmL r c lf (stsL c lf lf.length))).length : Int))) ∧ σ' 88 = (.int .i64 ((i : Int))) ∧ Own eI H' u12 (lf) ∧ Cel H' q [(.int .i64 (r)), (.int .i64 (c)), u12] ∧ Fam H' u21 Su21 (prtL r c lf (stsL c lf lf.length)) ∧ Own eI H' u22 (plcL r c lf (stsL c lf lf.length)) ∧ Own vS H' u27 (cenN (nmL r c lf (stsL c lf lf.length))) ∧ Own eI H' u28 (cenC (nmL r c lf (stsL c lf lf.length))) ∧ Own vS H' u33 (cenN (nmL r c lf (stsL c lf lf.length))) ∧ Own eI H' u34 (cenC (nmL r c lf (stsL c lf lf.length))) ∧ Le H H',
            ⟨_, 0, rfl, by omega, rfl, rfl, rfl, rfl, rfl, rfl, rfl, rfl, rfl, rfl, (congrArg (Value.int .i64) (by first | omega | rfl | (simp; done))), ou12, oq, ou21, ou22, ou27, ou28, ou33, ou34, lE⟩, ?_⟩
          rintro n74 σ74 H74 ⟨i, rfl, hiN, g5L74, g6L74, g7L74, g8L74, g9L74, g11L74, g12L74, g14L74, g17L74, g87L74, g88L74, ou12, oq, ou21, ou22, ou27, ou28, ou33, ou34, lE⟩
          have hvy := hvy0.le lE
          have hvm := hvm0.le lE
          try simp only [g11L74, g12L74, g14L74, g17L74, g87L74, g88L74]
          have ca := cen_any hcen (i : Int)
          have sb := sum_bnd (cs := (cenC (nmL r c lf (stsL c lf lf.length))).take i) (B := 64) (fun x hx => by have := hcen.bnd (List.mem_of_mem_take hx); omega)
          rw [List.length_take] at sb
          refine ob_i (vInt_lss _ _ _) ?_
          refine cnd_d (fun hg75 => ?_) (fun hg75 => ?_)
          · skip
            have ti := hg75
            refine ob_i (ou27.sl.ix (by omega) (by omega)) ?_
            refine ob_i (ou27.sl.ld [] (by omega) (by omega)) ?_
            refine ob_i (ou33.sl.ix (by omega) (by omega)) ?_
            refine ob_i (ou33.sl.ld [] (by omega) (by omega)) ?_
            refine ob_i (vStr_neq_same _) ?_
            refine gop_rf ?_
            refine gop_rf ?_
            refine ob_i (vInt_gtr _ _ _) ?_
            refine gop_rf ?_
            by_cases hc76 : 0 < (i : Int)
            · skip
              refine gop_e (decide_eq_true hc76) ?_
              refine gop_rt ?_
              refine gop_e (decide_eq_true hc76) ?_
              refine gop_rt ?_
              refine gop_e (decide_eq_true hc76) ?_
              refine gop_rt ?_
              refine ob_i (ou27.sl.ix (by omega) (by omega)) ?_
              refine gop_e (decide_eq_true hc76) ?_
              refine gop_rt ?_
              refine ob_i (ou27.sl.ld [] (by omega) (by omega)) ?_
              refine gop_e (decide_eq_true hc76) ?_
              refine gop_rt ?_
              refine gop_e (decide_eq_true hc76) ?_
              refine gop_rt ?_
              refine gop_e (decide_eq_true hc76) ?_
              refine gop_rt ?_
              refine ob_i (vInt_sub (by omega) (by omega)) ?_
              refine gop_e (decide_eq_true hc76) ?_
              refine gop_rt ?_
              refine ob_i (ou27.sl.ix (by omega) (by omega)) ?_
              refine gop_e (decide_eq_true hc76) ?_
              refine gop_rt ?_
              refine ob_i (ou27.sl.ld [] (by omega) (by omega)) ?_
              refine gop_e (decide_eq_true hc76) ?_
              refine gop_rt ?_
              refine ob_i (vStr_leq_t (at_ [] (cenN (nmL r c lf (stsL c lf lf.length))) ((i : Int))) (at_ [] (cenN (nmL r c lf (stsL c lf lf.length))) ((i : Int) - 1))) ?_
              refine gop_rf ?_
              refine ob_i (vPick_et (decide_eq_true hc76) _ _) ?_
              refine ob_i (vPick_f _ _) ?_
              refine cnd_i (fun hg77 => ?_) (fun hg77 => ?_)
              · skip
                exact absurd hg77 ((rise_no (hcen.rise (by omega) (by omega))))
              · skip
                refine ob_i (ou28.sl.ix (by omega) (by omega)) ?_
                refine ob_i (ou28.sl.ld 0 (by omega) (by omega)) ?_
                refine ob_i (vInt_add (by omega) (by omega)) ?_
                refine ob_i (vInt_add (by omega) (by omega)) ?_
                exact nxt ((cenN (nmL r c lf (stsL c lf lf.length))).length - (i + 1)) (by omega) ⟨i + 1, rfl, by omega, g5L74, g6L74, g7L74, g8L74, g9L74, g11L74, g12L74, g14L74, (congrArg (Value.int .i64) (sum_take (by omega)).symm), g87L74, (congrArg (Value.int .i64) (by first | omega | rfl | (simp; done))), ou12, oq, ou21, ou22, ou27, ou28, ou33, ou34, lE⟩
            · skip
              refine gop_e (decide_eq_false hc76) ?_
              refine gop_sf ?_
              refine gop_e (decide_eq_false hc76) ?_
              refine gop_sf ?_
              refine gop_e (decide_eq_false hc76) ?_
              refine gop_sf ?_
              refine gop_e (decide_eq_false hc76) ?_
              refine gop_sf ?_
              refine gop_e (decide_eq_false hc76) ?_
              refine gop_sf ?_
              refine gop_e (decide_eq_false hc76) ?_
              refine gop_sf ?_
              refine gop_e (decide_eq_false hc76) ?_
              refine gop_sf ?_
              refine gop_e (decide_eq_false hc76) ?_
              refine gop_sf ?_
              refine gop_e (decide_eq_false hc76) ?_
              refine gop_sf ?_
              refine gop_e (decide_eq_false hc76) ?_
              refine gop_sf ?_
              refine gop_rf ?_
              refine ob_i (vPick_ef (decide_eq_false hc76) _ _) ?_
              refine ob_i (vPick_f _ _) ?_
              refine cnd_f1 ?_
              refine ob_i (ou28.sl.ix (by omega) (by omega)) ?_
              refine ob_i (ou28.sl.ld 0 (by omega) (by omega)) ?_
              refine ob_i (vInt_add (by omega) (by omega)) ?_
              refine ob_i (vInt_add (by omega) (by omega)) ?_
              exact nxt ((cenN (nmL r c lf (stsL c lf lf.length))).length - (i + 1)) (by omega) ⟨i + 1, rfl, by omega, g5L74, g6L74, g7L74, g8L74, g9L74, g11L74, g12L74, g14L74, (congrArg (Value.int .i64) (sum_take (by omega)).symm), g87L74, (congrArg (Value.int .i64) (by first | omega | rfl | (simp; done))), ou12, oq, ou21, ou22, ou27, ou28, ou33, ou34, lE⟩
          · skip
            have ti := hg75
            exact hJ42 _ _ ⟨g5L74, g6L74, g7L74, g8L74, g9L74, (g17L74.trans (congrArg (Value.int .i64) (by rw [List.take_of_length_le (by omega)]; exact hsum))), ou12, oq, ou21, ou22, ou27, ou28, ou33, ou34, lE⟩
        · skip
          refine ob_i (vPick_ef (decide_eq_false hc38) _ _) ?_
          refine cnd_t1 ?_
          exact absurd (by first | rfl | omega) hc41
theorem L.FnParts {vy vm : Value} {l m : List Int} {H : Hp} {K : Value → Hp → Prop} (h0 : Sl eU H vy l) (h1 : Sl eU H vm m) (l0 : l.length ≤ 9223372036854775807) (l1 : m.length ≤ 9223372036854775807) (b0 : bytP l) (b1 : bytP m) (hk : ∀ H', Le H H' → K (.bool true) H') : HT prg I.laws_FnParts [vy, vm].toArray H K :=
  C.laws_FnParts h0 h1 b0 l0 b1 l1 hk
end Go.Proofs.YthocjpfibegjcaaGreatDoor
/- From a contract over a whole heap to a call's end: what the statement asks. -/
namespace Go.Proofs.YthocjpfibegjcaaGreatDoor.HL
open Go.RowKit

/-- All of a world's blocks. -/
def whole (W : World) : Hp := fun b => W.heap[b]?
theorem whole_sub (W : World) : Sub (whole W) W := fun _ _ h => h

theorem calls_true {P : Program} {f : FuncId} {args : Array Value} {W : World} (h : HT P f args (whole W) (fun v H' => v = .bool true ∧ Le (whole W) H')) :
    Calls P f args W (fun e W' => e = .returned (.bool true) ∧ Below W.heap.size W W') := by
  refine (h W (whole_sub W)).mono ?_
  rintro e W' ⟨v, H', rfl, hs, fr, rfl, hle⟩
  refine ⟨rfl, fr.os, fr.tape, fr.output, fr.size, fun k hk => ?_⟩
  have h1 : whole W k = some W.heap[k] := by unfold whole; exact Array.getElem?_eq_getElem hk
  have h2 := hs k _ (hle k _ h1)
  rw [h2, Array.getElem?_eq_getElem hk]

/-- A row of numbers of the world, as the kit's rows tell it. -/
def IsRow (k : IntKind) (w : World) (a : Option Addr) (len cap : Nat) (zs : List Int) : Prop :=
  (a = none ∧ len = 0 ∧ cap = 0 ∧ zs = []) ∨
  ∃ x, a = some x ∧ len ≤ cap ∧ cap ≤ maxLen ∧ zs.length = cap ∧ (∀ i, i < zs.length → w.cell? (x.add i) = some (.int k (zs.getD i 0))) ∧ ∀ n ∈ zs, (Lit.int k n).wf = true

theorem sl_of_row {W : World} {a : Option Addr} {len cap : Nat} {zs : List Int} (h : IsRow .i64 W a len cap zs) : Sl eI (whole W) (.slice a len cap) (zs.take len) := by
  rcases h with ⟨rfl, rfl, rfl, rfl⟩ | ⟨x, rfl, h1, _, h3, h4, _⟩
  · exact Sl.nil 0 none
  · have hlen : (zs.take len).length = len := by simp; omega
    refine ⟨some x, cap, by rw [hlen], by omega, fun i hi => ⟨x, rfl, ?_⟩⟩
    have hi' : i < zs.length := by simp at hi; omega
    have := h4 i hi'
    rw [List.getElem_take]
    rw [List.getD_eq_getElem?_getD, List.getElem?_eq_getElem hi'] at this
    exact this
theorem row_max {W : World} {a : Option Addr} {len cap : Nat} {zs : List Int} (h : IsRow .i64 W a len cap zs) : (zs.take len).length ≤ 9223372036854775807 := by
  rcases h with ⟨rfl, rfl, rfl, rfl⟩ | ⟨x, rfl, h1, h2, h3, _, _⟩
  · simp
  · have : maxLen = 9223372036854775807 := by decide
    simp; omega
theorem addr_zero (a : Addr) : a.add 0 = a := by unfold Addr.add; simp
theorem list_of {α : Type} : ∀ (n : Nat) (Q : Nat → α → Prop), (∀ i, i < n → ∃ b, Q i b) → ∃ l : List α, l.length = n ∧ ∀ i (h : i < l.length), Q i l[i]
  | 0, _, _ => ⟨[], rfl, fun i h => absurd h (by simp)⟩
  | n + 1, Q, h => by
    obtain ⟨l, hl, hq⟩ := list_of n Q (fun i hi => h i (by omega))
    obtain ⟨b, hb⟩ := h n (by omega)
    refine ⟨l ++ [b], by simp [hl], fun i hi => ?_⟩
    by_cases e : i < l.length
    · rw [List.getElem_append_left e]; exact hq i e
    · have : i = l.length := by simp at hi; omega
      subst this
      rw [List.getElem_append_right (by omega)]
      simp only [Nat.sub_self, List.getElem_cons_zero]
      rw [hl]; exact hb
theorem arr3 {α : Type} {a : Array α} (h : a.size = 3) : ∃ x0 x1 x2, a = #[x0, x1, x2] := by
  obtain ⟨l⟩ := a
  match l, h with
  | [x0, x1, x2], _ => exact ⟨x0, x1, x2, rfl⟩
theorem arr2 {α : Type} {a : Array α} (h : a.size = 2) : ∃ x0 x1, a = #[x0, x1] := by
  obtain ⟨l⟩ := a
  match l, h with
  | [x0, x1], _ => exact ⟨x0, x1, rfl⟩
theorem arr4 {α : Type} {a : Array α} (h : a.size = 4) : ∃ x0 x1 x2 x3, a = #[x0, x1, x2, x3] := by
  obtain ⟨l⟩ := a
  match l, h with
  | [x0, x1, x2, x3], _ => exact ⟨x0, x1, x2, x3, rfl⟩
theorem arr5 {α : Type} {a : Array α} (h : a.size = 5) : ∃ x0 x1 x2 x3 x4, a = #[x0, x1, x2, x3, x4] := by
  obtain ⟨l⟩ := a
  match l, h with
  | [x0, x1, x2, x3, x4], _ => exact ⟨x0, x1, x2, x3, x4, rfl⟩
theorem int_wf {n : Int} (h : (Lit.int .i64 n).wf = true) : -9223372036854775808 ≤ n ∧ n < 9223372036854775808 := by
  unfold Lit.wf at h
  simp [IntKind.min, IntKind.max, IntKind.signed, IntKind.bits] at h
  omega
open Go.ChangeShapes Go.WideShapes Go.ChangeAt in
theorem sl_of_elems {α B : Type} {en : α → Value} {Pr : α → Prop} {enc : TypeId × Value → B} {P : Program} {W : World} {base : Nat} {sp : Nat → Bool} {held : Bool} {t e : TypeId} {fuel : Nat} {cs : List Value} {x : DataW B × List MemPlace}
    (ht : P.underlying t = some (.slice e)) (hc : P.cellsOf e = 1) (each : ∀ n v y, DataW.trod enc P W base sp held n e [v] = some y → ∃ a, v = en a ∧ Pr a)
    (h : DataW.trod enc P W base sp held fuel t cs = some x) : ∃ v l, cs = [v] ∧ Sl en (whole W) v l ∧ l.length ≤ 9223372036854775807 ∧ ∀ a ∈ l, Pr a := by
  rcases DataW.trod_slice ht h with ⟨h0, _⟩ | ⟨a, len, cap, elems, rest, n, _, rfl, _, _, hl, hm, hlen, hel, _, _⟩
  · exact ⟨_, [], h0, Sl.nil 0 none, by simp, by simp⟩
  · have one : ∀ i, i < len → ∃ b, W.cell? (a.add i) = some (en b) ∧ Pr b := by
      intro i hi
      have h1 := hel i hi
      rw [hc, Nat.mul_one] at h1
      have h2 : elems[i]? = some (elems[i]'(by omega)) := List.getElem?_eq_getElem _
      rw [h2, Option.bind_eq_some_iff] at h1
      obtain ⟨cs', hcs, hy⟩ := h1
      have h3 : ∃ v, W.cell? (a.add i) = some v ∧ cs' = [v] := by
        unfold World.cells? at hcs
        split at hcs
        · simp only [List.range_succ, List.range_zero, List.nil_append, List.mapM_cons, List.mapM_nil, addr_zero] at hcs
          cases hw : W.cell? (a.add i) with
          | none => simp [hw] at hcs
          | some v => simp [hw] at hcs; exact ⟨v, rfl, hcs.symm⟩
        · simp at hcs
      obtain ⟨v, hv, rfl⟩ := h3
      obtain ⟨b, rfl, hb⟩ := each n v _ hy
      exact ⟨b, hv, hb⟩
    obtain ⟨l, hll, hlc⟩ := list_of len (fun i b => W.cell? (a.add i) = some (en b) ∧ Pr b) one
    refine ⟨_, l, rfl, ⟨some a, cap, by rw [hll], by omega, fun i hi => ⟨a, rfl, (hlc i hi).1⟩⟩, ?_, ?_⟩
    · have : maxLen = 9223372036854775807 := by decide
      omega
    · intro b hb
      obtain ⟨i, hi, rfl⟩ := List.getElem_of_mem hb
      exact (hlc i hi).2
open Go.ChangeShapes Go.WideShapes Go.ChangeAt in
theorem sl_of_ints {B : Type} {enc : TypeId × Value → B} {P : Program} {W : World} {base : Nat} {sp : Nat → Bool} {held : Bool} {t e : TypeId} {fuel : Nat} {cs : List Value} {x : DataW B × List MemPlace}
    (ht : P.underlying t = some (.slice e)) (he : P.underlying e = some (.int .i64)) (hc : P.cellsOf e = 1) (h : DataW.trod enc P W base sp held fuel t cs = some x) :
    ∃ v l, cs = [v] ∧ Sl eI (whole W) v l ∧ l.length ≤ 9223372036854775807 ∧ ∀ a ∈ l, -9223372036854775808 ≤ a ∧ a < 9223372036854775808 :=
  sl_of_elems ht hc (fun n v y hy => by obtain ⟨m, hm, _, hw⟩ := DataW.trod_int he hy; exact ⟨m, by simpa using hm, int_wf hw⟩) h
open Go.ChangeShapes Go.WideShapes Go.ChangeAt in
theorem sl_of_bools {B : Type} {enc : TypeId × Value → B} {P : Program} {W : World} {base : Nat} {sp : Nat → Bool} {held : Bool} {t e : TypeId} {fuel : Nat} {cs : List Value} {x : DataW B × List MemPlace}
    (ht : P.underlying t = some (.slice e)) (he : P.underlying e = some .bool) (hc : P.cellsOf e = 1) (h : DataW.trod enc P W base sp held fuel t cs = some x) :
    ∃ v l, cs = [v] ∧ Sl eB (whole W) v l ∧ l.length ≤ 9223372036854775807 ∧ ∀ a ∈ l, True :=
  sl_of_elems ht hc (fun n v y hy => by obtain ⟨m, hm, _⟩ := DataW.trod_bool he hy; exact ⟨m, by simpa using hm, trivial⟩) h
theorem trod_f32 {B : Type} {enc : TypeId × Value → B} {P : Program} {W : World} {base : Nat} {sp : Nat → Bool} {held : Bool} {e : TypeId} {n : Nat} {v : Value} {y : DataW B × List MemPlace}
    (he : P.underlying e = some (.float .f32)) (h : DataW.trod enc P W base sp held n e [v] = some y) : ∃ b, v = .float .f32 b ∧ b < 4294967296 := by
  cases n with
  | zero => simp [DataW.trod] at h
  | succ n =>
    cases v with
    | float k b =>
      simp only [DataW.trod, he] at h
      by_cases c : k = .f32 ∧ (Lit.float .f32 b).wf = true
      · obtain ⟨rfl, c2⟩ := c
        exact ⟨_, rfl, by simpa [Lit.wf] using c2⟩
      · rw [if_neg c] at h; simp at h
    | _ => simp [DataW.trod, he] at h
open Go.ChangeShapes Go.WideShapes Go.ChangeAt in
theorem sl_of_floats {B : Type} {enc : TypeId × Value → B} {P : Program} {W : World} {base : Nat} {sp : Nat → Bool} {held : Bool} {t e : TypeId} {fuel : Nat} {cs : List Value} {x : DataW B × List MemPlace}
    (ht : P.underlying t = some (.slice e)) (he : P.underlying e = some (.float .f32)) (hc : P.cellsOf e = 1) (h : DataW.trod enc P W base sp held fuel t cs = some x) :
    ∃ v l, cs = [v] ∧ Sl eF (whole W) v l ∧ l.length ≤ 9223372036854775807 ∧ ∀ a ∈ l, a < 4294967296 :=
  sl_of_elems ht hc (fun n v y hy => by obtain ⟨m, hm, hb⟩ := trod_f32 he hy; exact ⟨m, hm, hb⟩) h
end Go.Proofs.YthocjpfibegjcaaGreatDoor.HL
/- A statement's bytes. -/
namespace Go.Proofs.YthocjpfibegjcaaGreatDoor.HL
theorem slU_of_row {W : World} {a : Option Addr} {len cap : Nat} {zs : List Int} (h : IsRow .u8 W a len cap zs) : Sl eU (whole W) (.slice a len cap) (zs.take len) := by
  rcases h with ⟨rfl, rfl, rfl, rfl⟩ | ⟨x, rfl, h1, _, h3, h4, _⟩
  · exact Sl.nil 0 none
  · have hlen : (zs.take len).length = len := by simp; omega
    refine ⟨some x, cap, by rw [hlen], by omega, fun i hi => ⟨x, rfl, ?_⟩⟩
    have hi' : i < zs.length := by simp at hi; omega
    have := h4 i hi'
    rw [List.getElem_take]
    rw [List.getD_eq_getElem?_getD, List.getElem?_eq_getElem hi'] at this
    exact this
theorem rowU_max {W : World} {a : Option Addr} {len cap : Nat} {zs : List Int} (h : IsRow .u8 W a len cap zs) : (zs.take len).length ≤ 9223372036854775807 := by
  rcases h with ⟨rfl, rfl, rfl, rfl⟩ | ⟨x, rfl, h1, h2, h3, _, _⟩
  · simp
  · have : maxLen = 9223372036854775807 := by decide
    simp; omega
theorem rowU_byt {W : World} {a : Option Addr} {len cap : Nat} {zs : List Int} (h : IsRow .u8 W a len cap zs) : bytP (zs.take len) := by
  rcases h with ⟨rfl, rfl, rfl, rfl⟩ | ⟨x, rfl, h1, h2, h3, _, hw⟩
  · intro y hy; simp at hy
  · intro y hy
    have := hw y (List.mem_of_mem_take hy)
    unfold Lit.wf at this
    simp [IntKind.min, IntKind.max, IntKind.signed, IntKind.bits] at this
    omega
end Go.Proofs.YthocjpfibegjcaaGreatDoor.HL
