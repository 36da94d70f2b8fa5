/- Several texts in one. -/
import Derived.Test.YtijmoehbgkibnaaGreatDoorMTexts1
import Derived.Test.YtijmoehbgkibnaaGreatDoorMTexts2
import Derived.Test.YtijmoehbgkibnaaGreatDoorMTexts0
import Derived.Test.YtijmoehbgkibnaaGreatDoorG0
import Derived.Below
import Derived.WalkKit
import Derived.ProofKit
import Derived.Test.YtijmoehbgkibnaaGreatDoorRows
import Derived.Handed
import Derived.Stop.LaidErr
import Derived.Lib.LaidTab
import Derived.LaidHandle
set_option linter.unusedVariables false
/- The law of texts. -/
namespace Go.Proofs.YtijmoehbgkibnaaGreatDoor
open HL
set_option maxRecDepth 100000
attribute [local irreducible] vStr
theorem all_snoc {l : List Int} {x : Int} {p : Int → Prop} (h : ∀ y ∈ l, p y) (hx : p x) : ∀ y ∈ l ++ [x], p y := fun y hy => by
  rcases List.mem_append.mp hy with hy | hy
  · exact h y hy
  · simp only [List.mem_singleton] at hy; subst hy; exact hx
theorem ints_eq {l m : List Int} (h : l.length = m.length) (ha : ∀ j : Nat, j < l.length → at_ 0 l (j : Int) = at_ 0 m (j : Int)) : l = m := by
  apply List.ext_getElem h
  intro j h1 h2
  have := ha j h1
  rw [at_eq 0 l h1, at_eq 0 m h2] at this
  exact this
theorem ints_snoc {l m : List Int} {i : Nat} (ha : ∀ j : Nat, j < i → at_ 0 l (j : Int) = at_ 0 m (j : Int)) (h : at_ 0 l (i : Int) = at_ 0 m (i : Int)) : ∀ j : Nat, j < i + 1 → at_ 0 l (j : Int) = at_ 0 m (j : Int) := fun j hj => by
  by_cases e : j = i
  · subst e; exact h
  · exact ha j (by omega)
theorem fieldT_1200 {r c : Int} {l : List Int} (h0 : 0 ≤ r) (h1 : r ≤ 8) (h2 : 0 ≤ c) (h3 : c ≤ 12) : (fieldT r c l).length ≤ 1200 := by
  have a := headT_len r c
  have b := joinR_len (c := c.toNat) (l := l) r.toNat
  have d : r.toNat * (3 * c.toNat + 1) ≤ 8 * 37 := Nat.mul_le_mul (by omega) (by omega)
  simp only [fieldT, List.length_append, List.length_singleton]
  omega
/-- A part that is put row by row. -/
def pasF (row col pc : Int) (p : List Int) (i k x y : Int) : Int := if (row ≤ x ∧ x < row + i ∧ col ≤ y ∧ y < col + pc) ∨ (x = row + i ∧ col ≤ y ∧ y < col + k) then at_ 0 p ((x - row) * pc + (y - col)) else 0
theorem pasF_zero {row col pc c : Int} {p : List Int} {N : Nat} (hc : 0 < c) : mkL c (pasF row col pc p 0 0) N = List.replicate N 0 := by
  rw [← mkL_zero (c := c)]
  refine mkL_congr hc fun x y _ _ _ _ => ?_
  unfold pasF; rw [if_neg (by omega)]
theorem pasF_row {row col pc c i : Int} {p : List Int} {N : Nat} (hc : 0 < c) (hi : 0 ≤ i) : mkL c (pasF row col pc p i pc) N = mkL c (pasF row col pc p (i + 1) 0) N := by
  refine mkL_congr hc fun x y _ _ _ _ => ?_
  unfold pasF
  by_cases h : (row ≤ x ∧ x < row + i ∧ col ≤ y ∧ y < col + pc) ∨ (x = row + i ∧ col ≤ y ∧ y < col + pc)
  · rw [if_pos h, if_pos (by omega)]
  · rw [if_neg h, if_neg (by omega)]
theorem pasF_set {row col pc c i k : Int} {p : List Int} {N : Nat} (hc : 0 < c) (k0 : 0 ≤ col + k) (k1 : col + k < c) (h : 0 ≤ (row + i) * c) (hk : 0 ≤ k) : (mkL c (pasF row col pc p i k) N).set ((row + i) * c + col + k).toNat (at_ 0 p (i * pc + k)) = mkL c (pasF row col pc p i (k + 1)) N := by
  rw [Int.add_assoc, mkL_set hc k0 k1 h]
  refine mkL_congr hc fun x y _ _ _ _ => ?_
  unfold pasF
  by_cases e : x = row + i ∧ y = col + k
  · rw [if_pos e, if_pos (by omega), e.1, e.2]
    congr 1
    rw [show row + i - row = i by omega, show col + k - col = k by omega]
  · rw [if_neg e]
    by_cases h2 : (row ≤ x ∧ x < row + i ∧ col ≤ y ∧ y < col + pc) ∨ (x = row + i ∧ col ≤ y ∧ y < col + k)
    · rw [if_pos h2, if_pos (by omega)]
    · rw [if_neg h2, if_neg (by omega)]
theorem pasF_end {row col pr pc c : Int} {p : List Int} {N : Nat} (hc : 0 < c) : mkL c (pasF row col pc p pr 0) N = mkL c (pasG row col pr pc p) N := by
  refine mkL_congr hc fun x y _ _ _ _ => ?_
  unfold pasF pasG
  by_cases h : (row ≤ x ∧ x < row + pr ∧ col ≤ y ∧ y < col + pc) ∨ (x = row + pr ∧ col ≤ y ∧ y < col + 0)
  · rw [if_pos h, if_pos (by omega)]
  · rw [if_neg h, if_neg (by omega)]
theorem C.wrI_ok {vc : Value} {r c : Int} {l : List Int} {H : Hp} {K : Value → Hp → Prop} (hvc0 : Sl eI H vc l) (k1 : l.length ≤ 9223372036854775807) (hf : fieldN 1 r c l) (hk : ∀ H', Le H H' → K (.tuple #[vS (fieldT r c l), .bool true]) H') : HT prg I.impl_WriteRuns [.agg #[.int .i64 r, .int .i64 c, vc]].toArray H K :=
  C.impl_WriteRuns hvc0 k1 (fun H' le => by rw [selL_t hf, decide_eq_true hf]; exact hk H' le)
theorem C.wrS_ok {vc : Value} {r c : Int} {l : List Int} {H : Hp} {K : Value → Hp → Prop} (hvc0 : Sl eI H vc l) (k1 : l.length ≤ 9223372036854775807) (hf : fieldN 1 r c l) (hk : ∀ H', Le H H' → K (.tuple #[vS (fieldT r c l), .bool true]) H') : HT prg I.spec_WriteRuns [.agg #[.int .i64 r, .int .i64 c, vc]].toArray H K :=
  C.spec_WriteRuns hvc0 k1 (fun H' le => by rw [selL_t hf, decide_eq_true hf]; exact hk H' le)
theorem C.nmI_ok {vc : Value} {r c : Int} {l : List Int} {H : Hp} {K : Value → Hp → Prop} (hvc0 : Sl eI H vc l) (k1 : l.length ≤ 9223372036854775807) (hf : fieldN 1 r c l) (hk : ∀ H', Le H H' → K (.tuple #[vS (nameT r c l), .bool true]) H') : HT prg I.impl_NameOf [.agg #[.int .i64 r, .int .i64 c, vc]].toArray H K :=
  C.impl_NameOf hvc0 k1 (fun H' le => by rw [selL_t hf, decide_eq_true hf]; exact hk H' le)
theorem C.ssI_ok {vc vd : Value} {r c r2 c2 : Int} {l m : List Int} {H : Hp} {K : Value → Hp → Prop} (hvc0 : Sl eI H vc l) (hvd0 : Sl eI H vd m) (k1 : l.length ≤ 9223372036854775807) (k2 : m.length ≤ 9223372036854775807) (hf : fieldN 1 r c l) (hg : fieldN 1 r2 c2 m) (hs : nameT r c l = nameT r2 c2 m) (hk : ∀ H', Le H H' → K (.tuple #[.bool true, .bool true]) H') : HT prg I.impl_SameShape [.agg #[.int .i64 r, .int .i64 c, vc], .agg #[.int .i64 r2, .int .i64 c2, vd]].toArray H K :=
  C.impl_SameShape hvc0 hvd0 k1 k2 (fun H' le => by rw [decide_eq_true (⟨⟨hf, hg⟩, hs⟩ : (fieldN 1 r c l ∧ fieldN 1 r2 c2 m) ∧ nameT r c l = nameT r2 c2 m), decide_eq_true (⟨hf, hg⟩ : fieldN 1 r c l ∧ fieldN 1 r2 c2 m)]; exact hk H' le)
theorem C.img_ok {vc : Value} {r c : Int} {l : List Int} {H : Hp} {K : Value → Hp → Prop} (hvc0 : Sl eI H vc l) (k1 : l.length ≤ 9223372036854775807) (hf : fieldN 1 r c l) (hk : ∀ u1 S1 H', Fam H' u1 S1 (imgs (⟨r, c, l⟩ : FdL) 8) → Nws H S1 → Le H H' → K (.tuple #[u1, .bool true]) H') : HT prg I.impl_ImagesOfField [.agg #[.int .i64 r, .int .i64 c, vc]].toArray H K :=
  C.impl_ImagesOfField hvc0 k1 (fun u1 S1 H' o n le => by rw [selL_t hf] at o; rw [decide_eq_true hf]; exact hk u1 S1 H' o n le)
theorem C.trI_c {vc : Value} {r c : Int} {l : List Int} {H : Hp} {K : Value → Hp → Prop} (hvc0 : Sl eI H vc l) (k1 : l.length ≤ 9223372036854775807) (hf : fieldN 1 r c l)
    (hk1 : (trm r c l).2.1 < 0 → ∀ u1 H', Own eI H' u1 [] → Nw H u1 → Le H H' → K (.tuple #[.agg #[.int .i64 0, .int .i64 0, u1], .int .i64 0, .int .i64 0, .bool false]) H')
    (hk2 : 0 ≤ (trm r c l).2.1 → ∀ u1 H', Own eI H' u1 (trL r c l) → Nw H u1 → Le H H' → K (.tuple #[.agg #[.int .i64 (trR r c l), .int .i64 (trC r c l), u1], .int .i64 (trm r c l).1, .int .i64 (trm r c l).2.2.1, .bool true]) H') : HT prg I.impl_TrimField [.agg #[.int .i64 r, .int .i64 c, vc]].toArray H K :=
  C.impl_TrimField hvc0 k1 (fun u H' o n le => by
    by_cases h : 0 ≤ (trm r c l).2.1
    · have hok : trimOk r c l := ⟨hf, h⟩
      simp only [trimL, trimI, if_pos hok, decide_eq_true hok] at o ⊢; exact hk2 h u H' o n le
    · have hok : ¬ trimOk r c l := fun h2 => h h2.2
      simp only [trimL, trimI, if_neg hok, decide_eq_false hok] at o ⊢; exact hk1 (by omega) u H' o n le)
theorem C.trI_g {vc : Value} {r c b : Int} {l : List Int} {H : Hp} {K : Value → Hp → Prop} (hf : fieldN 1 r c l) (hb : 0 ≤ (trm r c l).2.1) (b0 : 0 ≤ b) (hg : groOk (trR r c l) (trC r c l) (trL r c l) b) (hvc0 : Sl eI H vc (groW (trR r c l) (trC r c l) (trL r c l) b))
    (hk : ∀ u1 H', Own eI H' u1 (trL r c l) → Nw H u1 → Le H H' → K (.tuple #[.agg #[.int .i64 (trR r c l), .int .i64 (trC r c l), u1], .int .i64 b, .int .i64 b, .bool true]) H') : HT prg I.impl_TrimField [.agg #[.int .i64 (trR r c l + 2 * b), .int .i64 (trC r c l + 2 * b), vc]].toArray H K := by
  have hF : okF (⟨r, c, l⟩ : FdL) := hf
  obtain ⟨e1, e2⟩ := gr_tm (f := ⟨r, c, l⟩) hF hb b0 hg
  have hG := grF_ok (p := tmG ⟨r, c, l⟩) (tmG_ok hF hb) hg
  have hs := tm_sides (f := ⟨r, c, l⟩) hF hb
  have e0 : trm (trR r c l + 2 * b) (trC r c l + 2 * b) (groW (trR r c l) (trC r c l) (trL r c l) b) = (b, b + trR r c l - 1, b, b + trC r c l - 1) := e1
  have e3 : trR (trR r c l + 2 * b) (trC r c l + 2 * b) (groW (trR r c l) (trC r c l) (trL r c l) b) = trR r c l := congrArg FdL.r e2
  have e4 : trC (trR r c l + 2 * b) (trC r c l + 2 * b) (groW (trR r c l) (trC r c l) (trL r c l) b) = trC r c l := congrArg FdL.c e2
  have e5 : trL (trR r c l + 2 * b) (trC r c l + 2 * b) (groW (trR r c l) (trC r c l) (trL r c l) b) = trL r c l := congrArg FdL.l e2
  have hs1 : 1 ≤ trR r c l := hs.1.1
  refine C.trI_c hvc0 (Nat.le_trans (fieldN_len (show fieldN 1 _ _ _ from hG)) (by decide)) hG (fun h => ?_) (fun h u H' o n le => ?_)
  · rw [e0] at h; exact absurd h (by show ¬ (b + trR r c l - 1 < 0); omega)
  · rw [e5] at o; rw [e0, e3, e4]; exact hk u H' o n le
theorem C.grI_ok {vc : Value} {r c b : Int} {l : List Int} {H : Hp} {K : Value → Hp → Prop} (hvc0 : Sl eI H vc l) (k1 : l.length ≤ 9223372036854775807) (hP : groOk r c l b)
    (hk : ∀ u1 H', Own eI H' u1 (groW r c l b) → Nw H u1 → Le H H' → K (.tuple #[.agg #[.int .i64 (r + 2 * b), .int .i64 (c + 2 * b), u1], .bool true]) H') : HT prg I.impl_GrowField [.agg #[.int .i64 r, .int .i64 c, vc], .int .i64 b].toArray H K :=
  C.impl_GrowField hvc0 k1 (fun u H' o n le => by simp only [groL, groI, if_pos hP, decide_eq_true hP] at o ⊢; exact hk u H' o n le)
theorem C.spec_B10Plain {vy : Value} {r c : Int} {l : List Int}  {H : Hp} {K : Value → Hp → Prop} (hvy0 : Sl eU H vy l) (hb_vy : bytP l) (hl_vy : l.length ≤ 9223372036854775807) (hs : sidesF r c)
    (hk : ∀ (lf : List Int), (fieldN 1 r c lf) → ∀ u1 H', Own eI H' u1 lf → Nw H u1 → Le H H' → K (.agg #[(.int .i64 (r)), (.int .i64 (c)), u1]) H') : HT prg I.spec_B10Plain [vy, (.int .i64 (r)), (.int .i64 (c))].toArray H K := by
 have lE := Le.refl H
 have hvy := hvy0
 refine R.spec_B10Plain ?_
 unfold F.spec_B10Plain
 have qm := sidesF_mul hs
 have q1 := hs.1
 have q2 := hs.2
 refine nw_i (fun p1 H2 op1 nn3 le4 => ?_)
 have np1 : Nw H p1 := nn3.le lE
 replace hvy := hvy.le le4
 replace lE := lE.trans le4
 replace op1 : Cel H2 p1 [(.int .i64 (0)), (.int .i64 (0)), (.slice none 0 0)] := op1
 refine C.spec_l00From hvy (fun z H5 oz nn6 le7 => ?_)
 have ap1Xz : Apart p1 z := op1.apart nn6
 have nz : Nw H z := nn6.le lE
 replace op1 := op1.le le7
 replace hvy := hvy.le le7
 replace lE := lE.trans le7
 replace oz : Cel H5 z [vy, (.int .i64 (0)), (.int .u64 (0))] := oz
 refine R.spec_l04DrawOk ?_
 unfold F.spec_l04DrawOk
 refine nw_i (fun p8 H9 op8 nn10 le11 => ?_)
 have ap1Xp8 : Apart p1 p8 := op1.apart nn10
 have azXp8 : Apart z p8 := oz.apart nn10
 have np8 : Nw H p8 := nn10.le lE
 replace op1 := op1.le le11
 replace oz := oz.le le11
 replace hvy := hvy.le le11
 replace lE := lE.trans le11
 replace op8 : Cel H9 p8 [(.int .i64 (0)), (.int .i64 (0)), (.slice none 0 0)] := op8
 refine R.spec_l04DrawStatesX ?_
 unfold F.spec_l04DrawStatesX
 refine nw_i (fun q0 H12 oq0 nn13 le14 => ?_)
 have ap1Xq0 : Apart p1 q0 := op1.apart nn13
 have azXq0 : Apart z q0 := oz.apart nn13
 have ap8Xq0 : Apart p8 q0 := op8.apart nn13
 have nq0 : Nw H q0 := nn13.le lE
 replace op1 := op1.le le14
 replace oz := oz.le le14
 replace op8 := op8.le le14
 replace hvy := hvy.le le14
 replace lE := lE.trans le14
 replace oq0 : Cel H12 q0 [(.int .i64 (0)), (.int .i64 (0)), (.slice none 0 0)] := oq0
 refine ob_i (a := (.agg #[(.int .i64 (r)), (.int .i64 (c)), (.slice none 0 0)])) (by rfl) ?_
 refine nw_i (fun q H15 oq nn16 le17 => ?_)
 have ap1Xq : Apart p1 q := op1.apart nn16
 have azXq : Apart z q := oz.apart nn16
 have ap8Xq : Apart p8 q := op8.apart nn16
 have aq0Xq : Apart q0 q := oq0.apart nn16
 have nq : Nw H q := nn16.le lE
 replace op1 := op1.le le17
 replace oz := oz.le le17
 replace op8 := op8.le le17
 replace oq0 := oq0.le le17
 replace hvy := hvy.le le17
 replace lE := lE.trans le17
 replace oq : Cel H15 q [(.int .i64 (0)), (.int .i64 (0)), (.slice none 0 0)] := oq
 refine oq.stn (ws := [(.int .i64 (r)), (.int .i64 (c)), (.slice none 0 0)]) rfl rfl (oc1 rfl (oc1 rfl (oc1 rfl oc0))) (fun H18 oq off19 => ?_)
 replace op1 := op1.off off19 ap1Xq
 replace oz := oz.off off19 azXq
 replace op8 := op8.off off19 ap8Xq
 replace oq0 := oq0.off off19 aq0Xq
 replace hvy := hvy0.le (off19.le lE nq)
 replace lE := off19.le lE nq
 replace oq : Cel H18 q [(.int .i64 (r)), (.int .i64 (c)), (.slice none 0 0)] := oq
 refine jn_i (fun σ' H' => ∃ u, ∃ lu, σ' 8 = q0 ∧ σ' 9 = q ∧ Cel H' p1 [(.int .i64 (0)), (.int .i64 (0)), (.slice none 0 0)] ∧ Cel H' p8 [(.int .i64 (0)), (.int .i64 (0)), (.slice none 0 0)] ∧ Cel H' q0 [(.int .i64 (0)), (.int .i64 (0)), (.slice none 0 0)] ∧ Cel H' q [(.int .i64 (r)), (.int .i64 (c)), u] ∧ Own eI H' u (lu) ∧ Nw H u ∧ Apart p1 u ∧ Apart p8 u ∧ Apart q0 u ∧ Apart q u ∧ Le H H' ∧ (lu.length : Int) = r * c ∧ (∀ x ∈ lu, 0 ≤ x ∧ x ≤ 1)) (fun σ20 H20 hP => ?_) (fun J20 hJ20 => ?_)
 ·skip
  obtain ⟨u, lu, g8L20, g9L20, op1, op8, oq0, oq, ou, nu, ap1Xu, ap8Xu, aq0Xu, aqXu, lE, hln, hLa⟩ := hP
  have hvy := hvy0.le lE
  try simp only [g8L20, g9L20]
  refine ob_i (oq.ldn rfl) ?_
  refine oq0.stn (ws := [(.int .i64 (r)), (.int .i64 (c)), u]) rfl rfl (oc1 rfl (oc1 rfl (oc1 ou.one oc0))) (fun H21 oq0 off22 => ?_)
  replace op1 := op1.off off22 ap1Xq0
  replace op8 := op8.off off22 ap8Xq0
  replace ou := ou.off off22 aq0Xu.symm
  replace hvy := hvy0.le (off22.le lE nq0)
  replace lE := off22.le lE nq0
  replace oq0 : Cel H21 q0 [(.int .i64 (r)), (.int .i64 (c)), u] := oq0
  refine ob_i (oq0.ldn rfl) ?_
  refine op8.stn (ws := [(.int .i64 (r)), (.int .i64 (c)), u]) rfl rfl (oc1 rfl (oc1 rfl (oc1 ou.one oc0))) (fun H23 op8 off24 => ?_)
  replace op1 := op1.off off24 ap1Xp8
  replace ou := ou.off off24 ap8Xu.symm
  replace hvy := hvy0.le (off24.le lE np8)
  replace lE := off24.le lE np8
  replace op8 : Cel H23 p8 [(.int .i64 (r)), (.int .i64 (c)), u] := op8
  refine ob_i (op8.ldn rfl) ?_
  refine op1.stn (ws := [(.int .i64 (r)), (.int .i64 (c)), u]) rfl rfl (oc1 rfl (oc1 rfl (oc1 ou.one oc0))) (fun H25 op1 off26 => ?_)
  replace ou := ou.off off26 ap1Xu.symm
  replace hvy := hvy0.le (off26.le lE np1)
  replace lE := off26.le lE np1
  replace op1 : Cel H25 p1 [(.int .i64 (r)), (.int .i64 (c)), u] := op1
  refine ob_i (op1.ldn rfl) ?_
  skip
  exact hk  lu (by exact ⟨hs, hln, hLa⟩) u _ ou nu  lE
 refine ob_i (vInt_mul (by omega) (by omega)) ?_
 refine ⟨fun n' σ' H' => ∃ i : Nat, n' = (r * c).toNat - i ∧ i ≤ (r * c).toNat ∧ ∃ u, ∃ lu, ∃ ats, ∃ sd, σ' 0 = z ∧ σ' 3 = (.int .i64 (2)) ∧ σ' 8 = q0 ∧ σ' 9 = q ∧ σ' 10 = (.int .i64 (r * c - (i : Int))) ∧ Cel H' p1 [(.int .i64 (0)), (.int .i64 (0)), (.slice none 0 0)] ∧ Cel H' z [vy, (.int .i64 (ats)), (.int .u64 (sd))] ∧ Cel H' p8 [(.int .i64 (0)), (.int .i64 (0)), (.slice none 0 0)] ∧ Cel H' q0 [(.int .i64 (0)), (.int .i64 (0)), (.slice none 0 0)] ∧ Cel H' q [(.int .i64 (r)), (.int .i64 (c)), u] ∧ Own eI H' u (lu) ∧ Nw H u ∧ Apart p1 u ∧ Apart z u ∧ Apart p8 u ∧ Apart q0 u ∧ Apart q u ∧ Le H H' ∧ lu.length = i ∧ (∀ x ∈ lu, 0 ≤ x ∧ x ≤ 1) ∧ 0 ≤ ats ∧ ats ≤ 2 * (i : Int),
  ⟨_, 0, rfl, by omega, _, [], 0, 0, rfl, rfl, rfl, rfl, (congrArg (Value.int .i64) (by first | omega | rfl | (simp; done))), op1, oz, op8, oq0, oq, (Own.cast (by first | rfl | (simp; done)) (Own.nil_of none)), (fun b hb => by simp [bk] at hb), (fun b _ hb => by simp [bk] at hb), (fun b _ hb => by simp [bk] at hb), (fun b _ hb => by simp [bk] at hb), (fun b _ hb => by simp [bk] at hb), (fun b _ hb => by simp [bk] at hb), lE, rfl, (by simp), ⟨by omega, by omega⟩⟩, ?_⟩
 rintro n27 σ27 H27 ⟨i, rfl, hiN, u, lu, ats, sd, g0L27, g3L27, g8L27, g9L27, g10L27, op1, oz, op8, oq0, oq, ou, nu, ap1Xu, azXu, ap8Xu, aq0Xu, aqXu, lE, hln, hLa, hat⟩
 have hvy := hvy0.le lE
 try simp only [g0L27, g3L27, g8L27, g9L27, g10L27]
 refine ob_i (vInt_gtr _ _ _) ?_
 refine cnd_d (fun hg28 => ?_) (fun hg28 => ?_)
 ·skip
  have ti := hg28
  refine ⟨?_, ?_⟩
  ·skip
   refine ob_i (oq.fa 2) ?_
   refine ob_i (oq.ld 2 rfl) ?_
   refine C.pspec_l00Src_pick hvy0 hb_vy hl_vy lE nz oz (by omega) (by omega) (fun x29 at30 sd31 H32 xp34 xq35 ap36 aq37 oz off33 => ?_)
   replace xq35 := xq35 (by omega)
   replace op1 := op1.off off33 ap1Xz
   replace op8 := op8.off off33 azXp8.symm
   replace oq0 := oq0.off off33 azXq0.symm
   replace oq := oq.off off33 azXq.symm
   replace ou := ou.off off33 azXu.symm
   replace hvy := hvy0.le (off33.le lE nz)
   replace lE := off33.le lE nz
   replace oz : Cel H32 z [vy, (.int .i64 (at30)), (.int .u64 (sd31))] := oz
   refine bS_i (enc := eI) (l := [x29]) (by omega) rfl (by kernel_rfl) (fun u38 H39 ou38 nn40 le42 => ?_)
   replace op1 := op1.le le42
   replace oz := oz.le le42
   replace op8 := op8.le le42
   replace oq0 := oq0.le le42
   replace oq := oq.le le42
   replace ou := ou.le le42
   replace hvy := hvy.le le42
   replace lE := lE.trans le42
   refine apd_any ou ou38.sl (fun _ => rfl) (by omega) (by first | omega | (simp only [List.length_cons, List.length_nil, List.length_append, List.length_replicate, List.length_map, List.length_range]; omega)) (fun u46 H43 ou46 off44 hb45 => ?_)
   have ap1Xu46 : Apart p1 u46 := Apart.ap2 op1.known ap1Xu hb45
   have azXu46 : Apart z u46 := Apart.ap2 oz.known azXu hb45
   have ap8Xu46 : Apart p8 u46 := Apart.ap2 op8.known ap8Xu hb45
   have aq0Xu46 : Apart q0 u46 := Apart.ap2 oq0.known aq0Xu hb45
   have aqXu46 : Apart q u46 := Apart.ap2 oq.known aqXu hb45
   have nu46 : Nw H u46 := Nw.ap2 nu lE hb45
   replace op1 := op1.off off44 ap1Xu
   replace oz := oz.off off44 azXu
   replace op8 := op8.off off44 ap8Xu
   replace oq0 := oq0.off off44 aq0Xu
   replace oq := oq.off off44 aqXu
   replace hvy := hvy0.le (off44.le lE nu)
   replace lE := off44.le lE nu
   refine ob_i (oq.fa 2) ?_
   refine oq.st (by simp) ou46.one ou46.cells (fun H47 oq off48 => ?_)
   replace op1 := op1.off off48 ap1Xq
   replace oz := oz.off off48 azXq
   replace op8 := op8.off off48 ap8Xq
   replace oq0 := oq0.off off48 aq0Xq
   replace ou46 := ou46.off off48 aqXu46.symm
   replace hvy := hvy0.le (off48.le lE nq)
   replace lE := off48.le lE nq
   replace oq : Cel H47 q [(.int .i64 (r)), (.int .i64 (c)), u46] := oq
   refine ob_i (vInt_sub (by omega) (by omega)) ?_
   exact nxt ((r * c).toNat - (i + 1)) (by omega) ⟨i + 1, rfl, by omega, u46, (lu ++ ([x29])), (at30), (sd31), g0L27, g3L27, g8L27, g9L27, (congrArg (Value.int .i64) (by first | omega | rfl | (simp; done))), op1, oz, op8, oq0, oq, ou46, nu46, ap1Xu46, azXu46, ap8Xu46, aq0Xu46, aqXu46, lE, (by rw [List.length_append, hln]; rfl), (all_snoc hLa (by omega)), ⟨by omega, by omega⟩⟩
  ·skip
   refine ob_i (oq.fa 2) ?_
   refine C.pspec_l00Src_pick hvy0 hb_vy hl_vy lE nz oz (by omega) (by omega) (fun x49 at50 sd51 H52 xp54 xq55 ap56 aq57 oz off53 => ?_)
   replace xq55 := xq55 (by omega)
   replace op1 := op1.off off53 ap1Xz
   replace op8 := op8.off off53 azXp8.symm
   replace oq0 := oq0.off off53 azXq0.symm
   replace oq := oq.off off53 azXq.symm
   replace ou := ou.off off53 azXu.symm
   replace hvy := hvy0.le (off53.le lE nz)
   replace lE := off53.le lE nz
   replace oz : Cel H52 z [vy, (.int .i64 (at50)), (.int .u64 (sd51))] := oz
   refine ob_i (oq.ld 2 rfl) ?_
   refine bS_i (enc := eI) (l := [x49]) (by omega) rfl (by kernel_rfl) (fun u58 H59 ou58 nn60 le62 => ?_)
   replace op1 := op1.le le62
   replace oz := oz.le le62
   replace op8 := op8.le le62
   replace oq0 := oq0.le le62
   replace oq := oq.le le62
   replace ou := ou.le le62
   replace hvy := hvy.le le62
   replace lE := lE.trans le62
   refine apd_any ou ou58.sl (fun _ => rfl) (by omega) (by first | omega | (simp only [List.length_cons, List.length_nil, List.length_append, List.length_replicate, List.length_map, List.length_range]; omega)) (fun u66 H63 ou66 off64 hb65 => ?_)
   have ap1Xu66 : Apart p1 u66 := Apart.ap2 op1.known ap1Xu hb65
   have azXu66 : Apart z u66 := Apart.ap2 oz.known azXu hb65
   have ap8Xu66 : Apart p8 u66 := Apart.ap2 op8.known ap8Xu hb65
   have aq0Xu66 : Apart q0 u66 := Apart.ap2 oq0.known aq0Xu hb65
   have aqXu66 : Apart q u66 := Apart.ap2 oq.known aqXu hb65
   have nu66 : Nw H u66 := Nw.ap2 nu lE hb65
   replace op1 := op1.off off64 ap1Xu
   replace oz := oz.off off64 azXu
   replace op8 := op8.off off64 ap8Xu
   replace oq0 := oq0.off off64 aq0Xu
   replace oq := oq.off off64 aqXu
   replace hvy := hvy0.le (off64.le lE nu)
   replace lE := off64.le lE nu
   refine ob_i (oq.fa 2) ?_
   refine oq.st (by simp) ou66.one ou66.cells (fun H67 oq off68 => ?_)
   replace op1 := op1.off off68 ap1Xq
   replace oz := oz.off off68 azXq
   replace op8 := op8.off off68 ap8Xq
   replace oq0 := oq0.off off68 aq0Xq
   replace ou66 := ou66.off off68 aqXu66.symm
   replace hvy := hvy0.le (off68.le lE nq)
   replace lE := off68.le lE nq
   replace oq : Cel H67 q [(.int .i64 (r)), (.int .i64 (c)), u66] := oq
   refine ob_i (vInt_sub (by omega) (by omega)) ?_
   exact nxt ((r * c).toNat - (i + 1)) (by omega) ⟨i + 1, rfl, by omega, u66, (lu ++ ([x49])), (at50), (sd51), g0L27, g3L27, g8L27, g9L27, (congrArg (Value.int .i64) (by first | omega | rfl | (simp; done))), op1, oz, op8, oq0, oq, ou66, nu66, ap1Xu66, azXu66, ap8Xu66, aq0Xu66, aqXu66, lE, (by rw [List.length_append, hln]; rfl), (all_snoc hLa (by omega)), ⟨by omega, by omega⟩⟩
 ·skip
  have ti := hg28
  exact hJ20 _ _ ⟨u, _, g8L27, g9L27, op1, op8, oq0, oq, ou, nu, ap1Xu, ap8Xu, aq0Xu, aqXu, lE, (by omega), hLa⟩
theorem C.laws_b10Ints {va vb : Value} {l : List Int} {m : List Int}  {H : Hp} {K : Value → Hp → Prop} (hva0 : Sl eI H va l) (hvb0 : Sl eI H vb m) (k1 : l.length ≤ 9223372036854775807)
    (hk : ∀ H', Le H H' → K (.bool (decide (l = m))) H') : HT prg I.laws_b10Ints [va, vb].toArray H K := by
 have lE := Le.refl H
 have hva := hva0
 have hvb := hvb0
 refine R.laws_b10Ints ?_
 unfold F.laws_b10Ints
 refine ob_i (hva.len) ?_
 refine ob_i (hvb.len) ?_
 refine ob_i (vInt_neq _ _ _) ?_
 refine cnd_d (fun hg1 => ?_) (fun hg1 => ?_)
 ·skip
  skip
  exact keq (K := K) (by rw [decide_eq_false (show ¬ (l = m) from by intro h; subst h; omega)]; try rfl) (hk   _    lE)
 ·skip
  refine jn_i (fun σ' H' => Le H H' ∧ (∀ j : Nat, j < l.length → at_ 0 l (j : Int) = at_ 0 m (j : Int))) (fun σ2 H2 hP => ?_) (fun J2 hJ2 => ?_)
  ·skip
   obtain ⟨lE, ho0⟩ := hP
   skip
   exact keq (K := K) (by rw [decide_eq_true (show (l = m) from by exact ints_eq (by omega) ho0)]; try rfl) (hk   _    lE)
  refine ob_i (hva.len) ?_
  refine ⟨fun n' σ' H' => ∃ i : Nat, n' = l.length - i ∧ i ≤ l.length ∧ σ' 0 = va ∧ σ' 1 = vb ∧ σ' 12 = (.int .i64 (((l).length : Int))) ∧ σ' 13 = (.int .i64 ((i : Int))) ∧ Le H H' ∧ (∀ j : Nat, j < i → at_ 0 l (j : Int) = at_ 0 m (j : Int)),
   ⟨_, 0, rfl, by omega, rfl, rfl, rfl, (congrArg (Value.int .i64) (by first | omega | rfl | (simp; done))), lE, (fun j hj => by omega)⟩, ?_⟩
  rintro n3 σ3 H3 ⟨i, rfl, hiN, g0L3, g1L3, g12L3, g13L3, lE, hm0⟩
  have hva := hva0.le lE
  have hvb := hvb0.le lE
  try simp only [g0L3, g1L3, g12L3, g13L3]
  refine ob_i (vInt_lss _ _ _) ?_
  refine cnd_d (fun hg4 => ?_) (fun hg4 => ?_)
  ·skip
   have ti := hg4
   refine ob_i (hva.ix (by omega) (by omega)) ?_
   refine ob_i (hva.ld 0 (by omega) (by omega)) ?_
   refine ob_i (hvb.ix (by omega) (by omega)) ?_
   refine ob_i (hvb.ld 0 (by omega) (by omega)) ?_
   refine ob_i (vInt_neq _ _ _) ?_
   refine cnd_d (fun hg5 => ?_) (fun hg5 => ?_)
   ·skip
    refine retK (K := K) (v' := (.bool false)) rfl ?_
    skip
    exact keq (K := K) (by rw [decide_eq_false (show ¬ (l = m) from by intro h; subst h; omega)]; try rfl) (hk   _    lE)
   ·skip
    refine ob_i (vInt_add (by omega) (by omega)) ?_
    exact nxt (l.length - (i + 1)) (by omega) ⟨i + 1, rfl, by omega, g0L3, g1L3, g12L3, (congrArg (Value.int .i64) (by first | omega | rfl | (simp; done))), lE, (ints_snoc hm0 (Decidable.not_not.mp hg5))⟩
  ·skip
   have ti := hg4
   exact hJ2 _ _ ⟨lE, (by rw [show l.length = i by omega]; exact hm0)⟩
theorem C.laws_b10Long {vy vm : Value} {l : List Int} {m : List Int}  {H : Hp} {K : Value → Hp → Prop} (hvy0 : Sl eU H vy l) (hvm0 : Sl eU H vm m)
    (hk : ∀ H', Le H H' → K (.bool (decide (1048576 < l.length ∨ 1048576 < m.length))) H') : HT prg I.laws_b10Long [vy, vm].toArray H K := by
 have lE := Le.refl H
 have hvy := hvy0
 have hvm := hvm0
 refine R.laws_b10Long ?_
 unfold F.laws_b10Long
 refine ob_i (hvy.len) ?_
 refine ob_i (vInt_gtr _ _ _) ?_
 by_cases hc1 : 1048576 < (((l).length : Int))
 ·skip
  refine gop_e (decide_eq_true hc1) ?_
  refine gop_st ?_
  refine gop_e (decide_eq_true hc1) ?_
  refine gop_st ?_
  refine gop_e (decide_eq_true hc1) ?_
  refine gop_st ?_
  refine ob_i (vPick_et (decide_eq_true hc1) _ _) ?_
  skip
  exact keq (K := K) (by rw [decide_eq_true (show (1048576 < l.length ∨ 1048576 < m.length) from by omega)]; try rfl) (hk   _    lE)
 ·skip
  refine gop_e (decide_eq_false hc1) ?_
  refine gop_rf ?_
  refine gop_e (decide_eq_false hc1) ?_
  refine gop_rf ?_
  refine ob_i (hvm.len) ?_
  refine gop_e (decide_eq_false hc1) ?_
  refine gop_rf ?_
  refine ob_i (vInt_gtr _ _ _) ?_
  refine ob_i (vPick_ef (decide_eq_false hc1) _ _) ?_
  skip
  exact keq (K := K) (by rw [show decide (1048576 < (((m).length : Int))) = decide (1048576 < l.length ∨ 1048576 < m.length) from decide_eq_decide.mpr (by omega)]; try rfl) (hk   _    lE)
theorem C.spec_CountCells {vc : Value} {r c v : Int} {l : List Int}  {H : Hp} {K : Value → Hp → Prop} (hvc0 : Sl eI H vc l) (hf : fieldN 1 r c l)
    (hk : ∀ H', Le H H' → K (.tuple #[(.int .i64 (cntE v l)), (.bool true)]) H') : HT prg I.spec_CountCells [(.agg #[(.int .i64 (r)), (.int .i64 (c)), vc]), (.int .i64 (v))].toArray H K := by
 have lE := Le.refl H
 have hvc := hvc0
 refine R.spec_CountCells ?_
 unfold F.spec_CountCells
 have k1 := fieldN_len hf
 have h9 : fieldN 9 r c l := ⟨hf.1, hf.2.1, fun x hx => by have := hf.2.2 x hx; omega⟩
 refine nw_i (fun p1 H2 op1 nn3 le4 => ?_)
 replace hvc := hvc.le le4
 replace lE := lE.trans le4
 replace op1 : Cel H2 p1 [(.int .i64 (r)), (.int .i64 (c)), vc] := op1
 refine C.spec_l04Is op1 hvc (by first | omega | assumption) ?_
 refine ob_nd (fun hc5 => ?_) (fun hc5 => ?_)
 ·skip
  refine cnd_f1 ?_
  refine jn_i (fun σ' H' => σ' 6 = (.int .i64 (cntE v l)) ∧ Cel H' p1 [(.int .i64 (r)), (.int .i64 (c)), vc] ∧ Le H H') (fun σ6 H6 hP => ?_) (fun J6 hJ6 => ?_)
  ·skip
   obtain ⟨g6L6, op1, lE⟩ := hP
   try simp only [g6L6]
   skip
   exact hk   _    lE
  refine ⟨fun n' σ' H' => ∃ i : Nat, n' = l.length - i ∧ i ≤ l.length ∧ σ' 1 = (.int .i64 (v)) ∧ σ' 2 = p1 ∧ σ' 6 = (.int .i64 (cntE v (l.take i))) ∧ σ' 7 = (.int .i64 ((i : Int))) ∧ Cel H' p1 [(.int .i64 (r)), (.int .i64 (c)), vc] ∧ Le H H',
   ⟨_, 0, rfl, by omega, rfl, rfl, (congrArg (Value.int .i64) (by first | omega | rfl | (simp; done))), (congrArg (Value.int .i64) (by first | omega | rfl | (simp; done))), op1, lE⟩, ?_⟩
  rintro n7 σ7 H7 ⟨i, rfl, hiN, g1L7, g2L7, g6L7, g7L7, op1, lE⟩
  have hvc := hvc0.le lE
  try simp only [g1L7, g2L7, g6L7, g7L7]
  have bb := cntE_bnd v (l.take i)
  have bl : ((l.take i).length : Int) ≤ 1000 := by simp; omega
  refine ob_i (op1.fa 2) ?_
  refine ob_i (op1.ld 2 rfl) ?_
  refine ob_i (hvc.len) ?_
  refine ob_i (vInt_lss _ _ _) ?_
  refine cnd_d (fun hg8 => ?_) (fun hg8 => ?_)
  ·skip
   have ti := hg8
   refine ob_i (op1.fa 2) ?_
   refine ob_i (op1.ld 2 rfl) ?_
   refine ob_i (hvc.ix (by omega) (by omega)) ?_
   refine ob_i (hvc.ld 0 (by omega) (by omega)) ?_
   refine ob_i (vInt_eql _ _ _) ?_
   refine cnd_d (fun hg9 => ?_) (fun hg9 => ?_)
   ·skip
    refine ob_i (vInt_add (by omega) (by omega)) ?_
    refine ob_i (vInt_add (by omega) (by omega)) ?_
    have eS := cntE_take (v := v) (l := l) (i := i) (by omega)
    rw [if_pos hg9] at eS
    exact nxt (l.length - (i + 1)) (by omega) ⟨i + 1, rfl, by omega, g1L7, g2L7, (congrArg (Value.int .i64) (by first | omega | rfl | (simp; done))), (congrArg (Value.int .i64) (by first | omega | rfl | (simp; done))), op1, lE⟩
   ·skip
    refine ob_i (vInt_add (by omega) (by omega)) ?_
    have eS := cntE_take (v := v) (l := l) (i := i) (by omega)
    rw [if_neg hg9] at eS
    exact nxt (l.length - (i + 1)) (by omega) ⟨i + 1, rfl, by omega, g1L7, g2L7, (g6L7.trans (congrArg (Value.int .i64) (by first | omega | rfl | (simp; done)))), (congrArg (Value.int .i64) (by first | omega | rfl | (simp; done))), op1, lE⟩
  ·skip
   have ti := hg8
   rw [List.take_of_length_le (by omega)] at *
   exact hJ6 _ _ ⟨(g6L7.trans (congrArg (Value.int .i64) (by first | omega | rfl | (simp; done)))), op1, lE⟩
 ·skip
  exact absurd hc5 (fun h => h h9)
theorem C.spec_l04Sides {r c : Int}  {H : Hp} {K : Value → Hp → Prop}
    (hk : ∀ H', Le H H' → K (.bool (decide ((1 ≤ r ∧ r ≤ 24) ∧ 1 ≤ c ∧ c ≤ 24))) H') : HT prg I.spec_l04Sides [(.int .i64 (r)), (.int .i64 (c))].toArray H K := by
 have lE := Le.refl H
 refine R.spec_l04Sides ?_
 unfold F.spec_l04Sides
 refine C.spec_l00In  ?_
 by_cases hc1 : 1 ≤ r ∧ r ≤ 24
 ·skip
  refine gop_e (decide_eq_true hc1) ?_
  refine gop_rt ?_
  refine gop_e (decide_eq_true hc1) ?_
  refine gop_rt ?_
  refine C.spec_l00In  ?_
  refine ob_i (vPick_et (decide_eq_true hc1) _ _) ?_
  skip
  exact keq (K := K) (by rw [show decide (1 ≤ c ∧ c ≤ 24) = decide ((1 ≤ r ∧ r ≤ 24) ∧ 1 ≤ c ∧ c ≤ 24) from decide_eq_decide.mpr (by exact ⟨fun h => ⟨by assumption, h⟩, fun h => h.2⟩)]; try rfl) (hk   _    lE)
 ·skip
  refine gop_e (decide_eq_false hc1) ?_
  refine gop_sf ?_
  refine gop_e (decide_eq_false hc1) ?_
  refine gop_sf ?_
  refine ob_i (vPick_ef (decide_eq_false hc1) _ _) ?_
  skip
  exact keq (K := K) (by rw [decide_eq_false (show ¬ ((1 ≤ r ∧ r ≤ 24) ∧ 1 ≤ c ∧ c ≤ 24) from by exact fun h => absurd h.1 (by assumption))]; try rfl) (hk   _    lE)
theorem C.spec_l04Within {p vc : Value} {row col rows cols r c : Int} {l : List Int}  {H : Hp} {K : Value → Hp → Prop} (hp0 : Cel H p [(.int .i64 (r)), (.int .i64 (c)), vc]) (hvc0 : Sl eI H vc l) (hs : sidesF r c) (w0 : 1 ≤ rows ∧ rows ≤ 24) (w1 : 1 ≤ cols ∧ cols ≤ 24)
    (hk : ∀ H', Le H H' → K (.bool (decide (((1 ≤ rows ∧ rows ≤ 24) ∧ 1 ≤ cols ∧ cols ≤ 24) ∧ (0 ≤ row ∧ row ≤ r - rows) ∧ 0 ≤ col ∧ col ≤ c - cols))) H') : HT prg I.spec_l04Within [p, (.int .i64 (row)), (.int .i64 (col)), (.int .i64 (rows)), (.int .i64 (cols))].toArray H K := by
 have lE := Le.refl H
 have hp := hp0
 refine R.spec_l04Within ?_
 unfold F.spec_l04Within
 have q1 := hs.1
 have q2 := hs.2
 refine C.spec_l04Sides  (fun   H1    le2 => ?_)
 replace hp := hp.le le2
 replace lE := lE.trans le2
 by_cases hc3 : (1 ≤ rows ∧ rows ≤ 24) ∧ 1 ≤ cols ∧ cols ≤ 24
 ·skip
  refine gop_e (decide_eq_true hc3) ?_
  refine gop_rt ?_
  refine gop_e (decide_eq_true hc3) ?_
  refine gop_rt ?_
  refine gop_e (decide_eq_true hc3) ?_
  refine gop_rt ?_
  refine ob_i (hp.nilC) ?_
  refine gop_e (decide_eq_true hc3) ?_
  refine gop_rt ?_
  refine ob_i (hp.fa 0) ?_
  refine gop_e (decide_eq_true hc3) ?_
  refine gop_rt ?_
  refine ob_i (hp.ld 0 rfl) ?_
  refine gop_e (decide_eq_true hc3) ?_
  refine gop_rt ?_
  refine gop_e (decide_eq_true hc3) ?_
  refine gop_rt ?_
  refine ob_i (vInt_sub (by omega) (by omega)) ?_
  refine gop_e (decide_eq_true hc3) ?_
  refine gop_rt ?_
  refine C.spec_l00In  ?_
  refine ob_i (vPick_et (decide_eq_true hc3) _ _) ?_
  by_cases hc4 : 0 ≤ row ∧ row ≤ (r - rows)
  ·skip
   refine gop_e (decide_eq_true hc4) ?_
   refine gop_rt ?_
   refine gop_e (decide_eq_true hc4) ?_
   refine gop_rt ?_
   refine gop_e (decide_eq_true hc4) ?_
   refine gop_rt ?_
   refine ob_i (hp.nilC) ?_
   refine gop_e (decide_eq_true hc4) ?_
   refine gop_rt ?_
   refine ob_i (hp.fa 1) ?_
   refine gop_e (decide_eq_true hc4) ?_
   refine gop_rt ?_
   refine ob_i (hp.ld 1 rfl) ?_
   refine gop_e (decide_eq_true hc4) ?_
   refine gop_rt ?_
   refine gop_e (decide_eq_true hc4) ?_
   refine gop_rt ?_
   refine ob_i (vInt_sub (by omega) (by omega)) ?_
   refine gop_e (decide_eq_true hc4) ?_
   refine gop_rt ?_
   refine C.spec_l00In  ?_
   refine ob_i (vPick_et (decide_eq_true hc4) _ _) ?_
   skip
   exact keq (K := K) (by rw [show decide (0 ≤ col ∧ col ≤ (c - cols)) = decide (((1 ≤ rows ∧ rows ≤ 24) ∧ 1 ≤ cols ∧ cols ≤ 24) ∧ (0 ≤ row ∧ row ≤ r - rows) ∧ 0 ≤ col ∧ col ≤ c - cols) from decide_eq_decide.mpr (by omega)]; try rfl) (hk   _    lE)
  ·skip
   refine gop_e (decide_eq_false hc4) ?_
   refine gop_sf ?_
   refine gop_e (decide_eq_false hc4) ?_
   refine gop_sf ?_
   refine gop_e (decide_eq_false hc4) ?_
   refine gop_sf ?_
   refine gop_e (decide_eq_false hc4) ?_
   refine gop_sf ?_
   refine gop_e (decide_eq_false hc4) ?_
   refine gop_sf ?_
   refine gop_e (decide_eq_false hc4) ?_
   refine gop_sf ?_
   refine gop_e (decide_eq_false hc4) ?_
   refine gop_sf ?_
   refine gop_e (decide_eq_false hc4) ?_
   refine gop_sf ?_
   refine ob_i (vPick_ef (decide_eq_false hc4) _ _) ?_
   skip
   exact keq (K := K) (by rw [decide_eq_false (show ¬ (((1 ≤ rows ∧ rows ≤ 24) ∧ 1 ≤ cols ∧ cols ≤ 24) ∧ (0 ≤ row ∧ row ≤ r - rows) ∧ 0 ≤ col ∧ col ≤ c - cols) from by omega)]; try rfl) (hk   _    lE)
 ·skip
  refine gop_e (decide_eq_false hc3) ?_
  refine gop_sf ?_
  refine gop_e (decide_eq_false hc3) ?_
  refine gop_sf ?_
  refine gop_e (decide_eq_false hc3) ?_
  refine gop_sf ?_
  refine gop_e (decide_eq_false hc3) ?_
  refine gop_sf ?_
  refine gop_e (decide_eq_false hc3) ?_
  refine gop_sf ?_
  refine gop_e (decide_eq_false hc3) ?_
  refine gop_sf ?_
  refine gop_e (decide_eq_false hc3) ?_
  refine gop_sf ?_
  refine gop_e (decide_eq_false hc3) ?_
  refine gop_sf ?_
  refine ob_i (vPick_ef (decide_eq_false hc3) _ _) ?_
  refine gop_sf ?_
  refine gop_sf ?_
  refine gop_sf ?_
  refine gop_sf ?_
  refine gop_sf ?_
  refine gop_sf ?_
  refine gop_sf ?_
  refine gop_sf ?_
  refine ob_i (vPick_f _ _) ?_
  skip
  exact keq (K := K) (by rw [decide_eq_false (show ¬ (((1 ≤ rows ∧ rows ≤ 24) ∧ 1 ≤ cols ∧ cols ≤ 24) ∧ (0 ≤ row ∧ row ≤ r - rows) ∧ 0 ≤ col ∧ col ≤ c - cols) from by omega)]; try rfl) (hk   _    lE)
theorem C.spec_l04Own {p vc : Value} {r c : Int} {l : List Int}  {H : Hp} {K : Value → Hp → Prop} (hp0 : Cel H p [(.int .i64 (r)), (.int .i64 (c)), vc]) (hvc0 : Sl eI H vc l) (k2 : l.length ≤ 68719476736)
    (hk : ∀ u1 H', Own eI H' u1 l → Nw H u1 → Le H H' → K (.agg #[(.int .i64 (r)), (.int .i64 (c)), u1]) H') : HT prg I.spec_l04Own [p].toArray H K := by
 have lE := Le.refl H
 have hp := hp0
 have hvc := hvc0
 refine R.spec_l04Own ?_
 unfold F.spec_l04Own
 refine nw_i (fun p1 H2 op1 nn3 le4 => ?_)
 have np1 : Nw H p1 := nn3.le lE
 replace hp := hp.le le4
 replace hvc := hvc.le le4
 replace lE := lE.trans le4
 replace op1 : Cel H2 p1 [(.int .i64 (0)), (.int .i64 (0)), (.slice none 0 0)] := op1
 refine ob_i (hp.nilC) ?_
 refine ob_i (hp.fa 0) ?_
 refine ob_i (hp.ld 0 rfl) ?_
 refine ob_i (hp.nilC) ?_
 refine ob_i (hp.fa 1) ?_
 refine ob_i (hp.ld 1 rfl) ?_
 refine ob_i (hp.nilC) ?_
 refine ob_i (hp.fa 2) ?_
 refine ob_i (hp.ld 2 rfl) ?_
 refine bS_nil (enc := eI) (fun u5 H6 ou5 nn7 kk8 le9 => ?_)
 replace op1 := op1.le le9
 replace hp := hp.le le9
 replace hvc := hvc.le le9
 replace lE := lE.trans le9
 refine apd_nil ou5 kk8 hvc (fun _ => rfl) (by omega) (by omega) (fun u13 H10 ou13 nn14 le15 => ?_)
 have ap1Xu13 : Apart p1 u13 := op1.apart nn14
 have nu13 : Nw H u13 := nn14.le lE
 replace op1 := op1.le le15
 replace hp := hp.le le15
 replace hvc := hvc.le le15
 replace lE := lE.trans le15
 refine ⟨le15, ?_⟩
 refine ob_i (a := (.agg #[(.int .i64 (r)), (.int .i64 (c)), u13])) (by obtain ⟨_, _, _, rfl⟩ := ou13.isSl; rfl) ?_
 refine op1.stn (ws := [(.int .i64 (r)), (.int .i64 (c)), u13]) rfl rfl (oc1 rfl (oc1 rfl (oc1 ou13.one oc0))) (fun H16 op1 off17 => ?_)
 replace ou13 := ou13.off off17 ap1Xu13.symm
 replace hp := hp0.le (off17.le lE np1)
 replace hvc := hvc0.le (off17.le lE np1)
 replace lE := off17.le lE np1
 replace op1 : Cel H16 p1 [(.int .i64 (r)), (.int .i64 (c)), u13] := op1
 refine ob_i (op1.ldn rfl) ?_
 skip
 exact hk  u13 _ ou13 nu13  lE
theorem C.new_ok {r c : Int}  {H : Hp} {K : Value → Hp → Prop} (hs : sidesF r c)
    (hk : ∀ u1 H', Own eI H' u1 (List.replicate ((r : Int).toNat * (c : Int).toNat) 0) → Nw H u1 → Le H H' → K (.tuple #[(.agg #[(.int .i64 (r)), (.int .i64 (c)), u1]), (.bool true)]) H') : HT prg I.spec_NewField [(.int .i64 (r)), (.int .i64 (c))].toArray H K := by
 have lE := Le.refl H
 refine R.spec_NewField ?_
 unfold F.spec_NewField
 have q1 := hs.1
 have q2 := hs.2
 refine nw_i (fun p1 H2 op1 nn3 le4 => ?_)
 have np1 : Nw H p1 := nn3.le lE
 replace lE := lE.trans le4
 replace op1 : Cel H2 p1 [(.int .i64 (0)), (.int .i64 (0)), (.slice none 0 0)] := op1
 refine C.spec_l04Sides  (fun   H5    le6 => ?_)
 replace op1 := op1.le le6
 replace lE := lE.trans le6
 refine ob_nd (fun hc7 => ?_) (fun hc7 => ?_)
 ·skip
  refine cnd_f1 ?_
  refine C.spec_l04New (by first | omega | assumption) (by first | omega | assumption) (by first | omega | assumption) (by first | omega | assumption) (fun  u10 H8 ou10 nn11  le9 => ?_)
  have ap1Xu10 : Apart p1 u10 := op1.apart nn11
  have nu10 : Nw H u10 := nn11.le lE
  replace op1 := op1.le le9
  replace lE := lE.trans le9
  refine op1.stn (ws := [(.int .i64 (r)), (.int .i64 (c)), u10]) rfl rfl (oc1 rfl (oc1 rfl (oc1 ou10.one oc0))) (fun H12 op1 off13 => ?_)
  replace ou10 := ou10.off off13 ap1Xu10.symm
  replace lE := off13.le lE np1
  replace op1 : Cel H12 p1 [(.int .i64 (r)), (.int .i64 (c)), u10] := op1
  refine ob_i (op1.ldn rfl) ?_
  skip
  exact hk  u10 _ ou10 nu10  lE
 ·skip
  exact absurd hc7 (by omega)
theorem C.pas_ok {vc vp : Value} {r c rows cols row col : Int} {l : List Int} {m : List Int}  {H : Hp} {K : Value → Hp → Prop} (hvc0 : Sl eI H vc l) (hvp0 : Sl eI H vp m) (k1 : l.length ≤ 9223372036854775807) (k2 : m.length ≤ 9223372036854775807) (hs : sidesF r c) (hz : l = List.replicate ((r : Int).toNat * (c : Int).toNat) 0) (hg : fieldN 1 rows cols m) (h0 : 0 ≤ row) (h1 : 0 ≤ col) (h4 : row + rows ≤ r) (h5 : col + cols ≤ c)
    (hk : ∀ u1 H', Own eI H' u1 (mkL c (pasG row col rows cols m) ((r : Int).toNat * (c : Int).toNat)) → Nw H u1 → Le H H' → K (.tuple #[(.agg #[(.int .i64 (r)), (.int .i64 (c)), u1]), (.bool true)]) H') : HT prg I.spec_PasteField [(.agg #[(.int .i64 (r)), (.int .i64 (c)), vc]), (.agg #[(.int .i64 (rows)), (.int .i64 (cols)), vp]), (.int .i64 (row)), (.int .i64 (col))].toArray H K := by
 have lE := Le.refl H
 have hvc := hvc0
 have hvp := hvp0
 refine R.spec_PasteField ?_
 unfold F.spec_PasteField
 have q1 := hs.1
 have q2 := hs.2
 have qm := sidesF_mul hs
 have p1 := hg.1.1
 have p2 := hg.1.2
 have pl := hg.2.1
 have pn := fieldN_len hg
 have hf : fieldN 9 r c l := by subst hz; refine ⟨hs, ?_, fun x hx => by rw [List.eq_of_mem_replicate hx]; omega⟩; rw [List.length_replicate, Int.natCast_mul, Int.toNat_of_nonneg (by omega), Int.toNat_of_nonneg (by omega)]
 have lq := fieldN_len hf
 have hl := hf.2.1
 have h9 : fieldN 9 rows cols m := ⟨hg.1, hg.2.1, fun x hx => by have := hg.2.2 x hx; omega⟩
 refine nw_i (fun p1 H2 op1 nn3 le4 => ?_)
 replace hvc := hvc.le le4
 replace hvp := hvp.le le4
 replace lE := lE.trans le4
 replace op1 : Cel H2 p1 [(.int .i64 (r)), (.int .i64 (c)), vc] := op1
 refine nw_i (fun p5 H6 op5 nn7 le8 => ?_)
 replace op1 := op1.le le8
 replace hvc := hvc.le le8
 replace hvp := hvp.le le8
 replace lE := lE.trans le8
 replace op5 : Cel H6 p5 [(.int .i64 (rows)), (.int .i64 (cols)), vp] := op5
 refine nw_i (fun p9 H10 op9 nn11 le12 => ?_)
 have np9 : Nw H p9 := nn11.le lE
 replace op1 := op1.le le12
 replace op5 := op5.le le12
 replace hvc := hvc.le le12
 replace hvp := hvp.le le12
 replace lE := lE.trans le12
 replace op9 : Cel H10 p9 [(.int .i64 (0)), (.int .i64 (0)), (.slice none 0 0)] := op9
 refine C.spec_l04Is op1 hvc (by first | omega | assumption) ?_
 refine ob_nd (fun hc13 => ?_) (fun hc13 => ?_)
 ·skip
  refine gop_rf ?_
  refine C.spec_l04Is op5 hvp (by first | omega | assumption) ?_
  refine gop_rf ?_
  refine ob_nd (fun hc14 => ?_) (fun hc14 => ?_)
  ·skip
   refine ob_i (vPick_f _ _) ?_
   refine gop_rf ?_
   refine gop_rf ?_
   refine gop_rf ?_
   refine ob_i (op5.fa 0) ?_
   refine gop_rf ?_
   refine ob_i (op5.ld 0 rfl) ?_
   refine gop_rf ?_
   refine ob_i (op5.fa 1) ?_
   refine gop_rf ?_
   refine ob_i (op5.ld 1 rfl) ?_
   refine gop_rf ?_
   refine C.spec_l04Within op1 hvc (by first | omega | assumption) (by first | omega | assumption) (by first | omega | assumption) (fun   H15    le16 => ?_)
   replace op1 := op1.le le16
   replace op5 := op5.le le16
   replace op9 := op9.le le16
   replace hvc := hvc.le le16
   replace hvp := hvp.le le16
   replace lE := lE.trans le16
   refine gop_rf ?_
   refine ob_nd (fun hc17 => ?_) (fun hc17 => ?_)
   ·skip
    refine ob_i (vPick_f _ _) ?_
    refine cnd_f1 ?_
    refine C.spec_l04Own op1 hvc (by first | omega | assumption) (fun  u H18 ou nn20  le19 => ?_)
    have ap1Xu : Apart p1 u := op1.apart nn20
    have ap5Xu : Apart p5 u := op5.apart nn20
    have ap9Xu : Apart p9 u := op9.apart nn20
    have nu : Nw H u := nn20.le lE
    replace op1 := op1.le le19
    replace op5 := op5.le le19
    replace op9 := op9.le le19
    replace hvc := hvc.le le19
    replace hvp := hvp.le le19
    replace lE := lE.trans le19
    refine nw_i (fun q H21 oq nn22 le23 => ?_)
    have ap1Xq : Apart p1 q := op1.apart nn22
    have ap5Xq : Apart p5 q := op5.apart nn22
    have ap9Xq : Apart p9 q := op9.apart nn22
    have auXq : Apart u q := ou.apart nn22
    have nq : Nw H q := nn22.le lE
    replace op1 := op1.le le23
    replace op5 := op5.le le23
    replace op9 := op9.le le23
    replace ou := ou.le le23
    replace hvc := hvc.le le23
    replace hvp := hvp.le le23
    replace lE := lE.trans le23
    replace oq : Cel H21 q [(.int .i64 (0)), (.int .i64 (0)), (.slice none 0 0)] := oq
    refine oq.stn (ws := [(.int .i64 (r)), (.int .i64 (c)), u]) rfl rfl (oc1 rfl (oc1 rfl (oc1 ou.one oc0))) (fun H24 oq off25 => ?_)
    replace op1 := op1.off off25 ap1Xq
    replace op5 := op5.off off25 ap5Xq
    replace op9 := op9.off off25 ap9Xq
    replace ou := ou.off off25 auXq
    replace hvc := hvc0.le (off25.le lE nq)
    replace hvp := hvp0.le (off25.le lE nq)
    replace lE := off25.le lE nq
    replace oq : Cel H24 q [(.int .i64 (r)), (.int .i64 (c)), u] := oq
    refine jn_i (fun σ' H' => σ' 8 = p9 ∧ σ' 10 = q ∧ Cel H' p1 [(.int .i64 (r)), (.int .i64 (c)), vc] ∧ Cel H' p5 [(.int .i64 (rows)), (.int .i64 (cols)), vp] ∧ Cel H' p9 [(.int .i64 (0)), (.int .i64 (0)), (.slice none 0 0)] ∧ Own eI H' u (mkL c (pasG row col rows cols m) (r.toNat * c.toNat)) ∧ Cel H' q [(.int .i64 (r)), (.int .i64 (c)), u] ∧ Le H H') (fun σ26 H26 hP => ?_) (fun J26 hJ26 => ?_)
    ·skip
     obtain ⟨g8L26, g10L26, op1, op5, op9, ou, oq, lE⟩ := hP
     have hvc := hvc0.le lE
     have hvp := hvp0.le lE
     try simp only [g8L26, g10L26]
     refine ob_i (oq.ldn rfl) ?_
     refine op9.stn (ws := [(.int .i64 (r)), (.int .i64 (c)), u]) rfl rfl (oc1 rfl (oc1 rfl (oc1 ou.one oc0))) (fun H27 op9 off28 => ?_)
     replace ou := ou.off off28 ap9Xu.symm
     replace hvc := hvc0.le (off28.le lE np9)
     replace hvp := hvp0.le (off28.le lE np9)
     replace lE := off28.le lE np9
     replace op9 : Cel H27 p9 [(.int .i64 (r)), (.int .i64 (c)), u] := op9
     refine ob_i (op9.ldn rfl) ?_
     skip
     exact hk  u _ (Own.cast (show mkL c (pasG row col rows cols m) (r.toNat * c.toNat) = mkL c (pasG row col rows cols m) ((r : Int).toNat * (c : Int).toNat) by first | rfl | simp) ou) nu  lE
    refine ⟨fun n' σ' H' => ∃ i : Nat, n' = rows.toNat - i ∧ i ≤ rows.toNat ∧ σ' 2 = (.int .i64 (row)) ∧ σ' 3 = (.int .i64 (col)) ∧ σ' 4 = p1 ∧ σ' 5 = p5 ∧ σ' 8 = p9 ∧ σ' 10 = q ∧ σ' 11 = (.int .i64 ((i : Int))) ∧ Cel H' p1 [(.int .i64 (r)), (.int .i64 (c)), vc] ∧ Cel H' p5 [(.int .i64 (rows)), (.int .i64 (cols)), vp] ∧ Cel H' p9 [(.int .i64 (0)), (.int .i64 (0)), (.slice none 0 0)] ∧ Own eI H' u (mkL c (pasF row col cols m (i : Int) 0) (r.toNat * c.toNat)) ∧ Cel H' q [(.int .i64 (r)), (.int .i64 (c)), u] ∧ Le H H',
     ⟨_, 0, rfl, by omega, rfl, rfl, rfl, rfl, rfl, rfl, (congrArg (Value.int .i64) (by first | omega | rfl | (simp; done))), op1, op5, op9, (by rw [show ((0 : Nat) : Int) = 0 from rfl, pasF_zero (by omega), ← hz]; exact ou), oq, lE⟩, ?_⟩
    rintro n29 σ29 H29 ⟨i, rfl, hiN, g2L29, g3L29, g4L29, g5L29, g8L29, g10L29, g11L29, op1, op5, op9, ou, oq, lE⟩
    have hvc := hvc0.le lE
    have hvp := hvp0.le lE
    try simp only [g2L29, g3L29, g4L29, g5L29, g8L29, g10L29, g11L29]
    refine ob_i (op5.fa 0) ?_
    refine ob_i (op5.ld 0 rfl) ?_
    refine ob_i (vInt_lss _ _ _) ?_
    refine cnd_d (fun hg30 => ?_) (fun hg30 => ?_)
    ·skip
     have ti := hg30
     refine jn_i (fun σ' H' => σ' 2 = (.int .i64 (row)) ∧ σ' 3 = (.int .i64 (col)) ∧ σ' 4 = p1 ∧ σ' 5 = p5 ∧ σ' 8 = p9 ∧ σ' 10 = q ∧ σ' 11 = (.int .i64 ((i : Int))) ∧ Cel H' p1 [(.int .i64 (r)), (.int .i64 (c)), vc] ∧ Cel H' p5 [(.int .i64 (rows)), (.int .i64 (cols)), vp] ∧ Cel H' p9 [(.int .i64 (0)), (.int .i64 (0)), (.slice none 0 0)] ∧ Own eI H' u (mkL c (pasF row col cols m ((i + 1 : Nat) : Int) 0) (r.toNat * c.toNat)) ∧ Cel H' q [(.int .i64 (r)), (.int .i64 (c)), u] ∧ Le H H') (fun σ31 H31 hP => ?_) (fun J31 hJ31 => ?_)
     ·skip
      obtain ⟨g2L31, g3L31, g4L31, g5L31, g8L31, g10L31, g11L31, op1, op5, op9, ou, oq, lE⟩ := hP
      try simp only [g8L31, g11L31]
      refine ob_i (vInt_add (by omega) (by omega)) ?_
      exact nxt (rows.toNat - (i + 1)) (by omega) ⟨i + 1, rfl, by omega, g2L31, g3L31, g4L31, g5L31, g8L31, g10L31, (congrArg (Value.int .i64) (by first | omega | rfl | (simp; done))), op1, op5, op9, ou, oq, lE⟩
     refine ⟨fun n' σ' H' => ∃ k : Nat, n' = cols.toNat - k ∧ k ≤ cols.toNat ∧ σ' 2 = (.int .i64 (row)) ∧ σ' 3 = (.int .i64 (col)) ∧ σ' 4 = p1 ∧ σ' 5 = p5 ∧ σ' 8 = p9 ∧ σ' 10 = q ∧ σ' 11 = (.int .i64 ((i : Int))) ∧ σ' 12 = (.int .i64 ((k : Int))) ∧ Cel H' p1 [(.int .i64 (r)), (.int .i64 (c)), vc] ∧ Cel H' p5 [(.int .i64 (rows)), (.int .i64 (cols)), vp] ∧ Cel H' p9 [(.int .i64 (0)), (.int .i64 (0)), (.slice none 0 0)] ∧ Own eI H' u (mkL c (pasF row col cols m (i : Int) (k : Int)) (r.toNat * c.toNat)) ∧ Cel H' q [(.int .i64 (r)), (.int .i64 (c)), u] ∧ Le H H',
      ⟨_, 0, rfl, by omega, g2L29, g3L29, g4L29, g5L29, g8L29, g10L29, g11L29, (congrArg (Value.int .i64) (by first | omega | rfl | (simp; done))), op1, op5, op9, ou, oq, lE⟩, ?_⟩
     rintro n32 σ32 H32 ⟨k, rfl, hkN, g2L32, g3L32, g4L32, g5L32, g8L32, g10L32, g11L32, g12L32, op1, op5, op9, ou, oq, lE⟩
     have hvc := hvc0.le lE
     have hvp := hvp0.le lE
     try simp only [g2L32, g3L32, g4L32, g5L32, g8L32, g10L32, g11L32, g12L32]
     refine ob_i (op5.fa 1) ?_
     refine ob_i (op5.ld 1 rfl) ?_
     refine ob_i (vInt_lss _ _ _) ?_
     refine cnd_d (fun hg33 => ?_) (fun hg33 => ?_)
     ·skip
      have tk := hg33
      have x1 := ix_lt (a := row + i) (b := col + k) (r := r) (c := c) (by omega) (by omega) (by omega) (by omega)
      have x2 := ix_lt (a := (i : Int)) (b := (k : Int)) (r := rows) (c := cols) (by omega) (by omega) (by omega) (by omega)
      have x3 : ((mkL c (pasF row col cols m (i : Int) (k : Int)) (r.toNat * c.toNat)).length : Int) = r * c := mkL_len (by omega) (by omega)
      refine ob_i (oq.fa 2) ?_
      refine ob_i (oq.ld 2 rfl) ?_
      refine ob_i (vInt_add (by omega) (by omega)) ?_
      refine ob_i (op1.fa 1) ?_
      refine ob_i (op1.ld 1 rfl) ?_
      refine ob_i (vInt_mul (by omega) (by omega)) ?_
      refine ob_i (vInt_add (by omega) (by omega)) ?_
      refine ob_i (vInt_add (by omega) (by omega)) ?_
      refine ob_i (op5.fa 2) ?_
      refine ob_i (op5.ld 2 rfl) ?_
      refine ob_i (op5.fa 1) ?_
      refine ob_i (op5.ld 1 rfl) ?_
      refine ob_i (vInt_mul (by omega) (by omega)) ?_
      refine ob_i (vInt_add (by omega) (by omega)) ?_
      refine ob_i (hvp.ix (by omega) (by omega)) ?_
      refine ob_i (hvp.ld 0 (by omega) (by omega)) ?_
      refine ob_i (ou.sl.ix (by omega) (by omega)) ?_
      refine ou.st (x := at_ 0 (m) (((i : Int) * cols) + (k : Int))) (by omega) (by omega) rfl rfl (fun H34 ou off35 => ?_)
      replace op1 := op1.off off35 ap1Xu
      replace op5 := op5.off off35 ap5Xu
      replace op9 := op9.off off35 ap9Xu
      replace oq := oq.off off35 auXq.symm
      replace hvc := hvc0.le (off35.le lE nu)
      replace hvp := hvp0.le (off35.le lE nu)
      replace lE := off35.le lE nu
      refine ob_i (vInt_add (by omega) (by omega)) ?_
      replace ou : Own eI H34 u (mkL c (pasF row col cols m (i : Int) ((k + 1 : Nat) : Int)) (r.toNat * c.toNat)) := by rw [show ((k + 1 : Nat) : Int) = (k : Int) + 1 by omega, ← pasF_set (by omega) (by omega) (by omega) (by omega) (by omega)]; exact ou
      exact nxt (cols.toNat - (k + 1)) (by omega) ⟨k + 1, rfl, by omega, g2L32, g3L32, g4L32, g5L32, g8L32, g10L32, g11L32, (congrArg (Value.int .i64) (by first | omega | rfl | (simp; done))), op1, op5, op9, ou, oq, lE⟩
     ·skip
      have tk := hg33
      rw [show (k : Int) = cols by omega, pasF_row (by omega) (by omega), show (i : Int) + 1 = ((i + 1 : Nat) : Int) by omega] at ou
      exact hJ31 _ _ ⟨g2L32, g3L32, g4L32, g5L32, g8L32, g10L32, g11L32, op1, op5, op9, ou, oq, lE⟩
    ·skip
     have ti := hg30
     rw [show (i : Int) = rows by omega, pasF_end (by omega)] at ou
     exact hJ26 _ _ ⟨g8L29, g10L29, op1, op5, op9, ou, oq, lE⟩
   ·skip
    exact absurd hc17 (by omega)
  ·skip
   exact absurd hc14 (fun h => h h9)
 ·skip
  exact absurd hc13 (fun h => h hf)
set_option maxHeartbeats 8000000 in
theorem C.laws_FnTexts {vy vm : Value} {l : List Int} {mm : List Int}  {H : Hp} {K : Value → Hp → Prop} (hvy0 : Sl eU H vy l) (hvm0 : Sl eU H vm mm) (hb_vy : bytP l) (hl_vy : l.length ≤ 9223372036854775807) (hb_vm : bytP mm) (hl_vm : mm.length ≤ 9223372036854775807) (hv : VR H)
    (hk : ∀ H', Le H H' → K (.bool true) H') : HT prg I.laws_FnTexts [vy, vm].toArray H K := by
 have lE := Le.refl H
 have hvy := hvy0
 have hvm := hvm0
 refine R.laws_FnTexts ?_
 unfold F.laws_FnTexts
 refine C.laws_b10Long hvy hvm (fun   H1    le2 => ?_)
 replace hvy := hvy.le le2
 replace hvm := hvm.le le2
 replace lE := lE.trans le2
 refine cnd_d (fun hg3 => ?_) (fun hg3 => ?_)
 ·skip
  skip
  exact hk   _    lE
 ·skip
  refine C.laws_b10At (k := 0) (n := 8) hvm hb_vm hl_vm (by omega) (by omega) (fun x4 xp5 xq6 => ?_)
  replace xq6 := xq6 (by omega)
  refine ob_i (vInt_add (by omega) (by omega)) ?_
  obtain ⟨r, hr⟩ : ∃ x : Int, x = 1 + x4 := ⟨_, rfl⟩
  rw [← hr]
  refine C.laws_b10At (k := 1) (n := 12) hvm hb_vm hl_vm (by omega) (by omega) (fun x7 xp8 xq9 => ?_)
  replace xq9 := xq9 (by omega)
  refine ob_i (vInt_add (by omega) (by omega)) ?_
  obtain ⟨c, hc⟩ : ∃ x : Int, x = 1 + x7 := ⟨_, rfl⟩
  rw [← hc]
  refine C.spec_B10Plain hvy (by first | omega | assumption) (by first | omega | assumption) (by first | exact ⟨⟨by omega, by omega⟩, by omega, by omega⟩ | exact (name_im hF t).symm) (fun  lf hlf u12 H10 ou12 nn13  le11 => ?_)
  replace hvy := hvy.le le11
  replace hvm := hvm.le le11
  replace lE := lE.trans le11
  have hf := hlf
  have l1 := fieldN_len hlf
  have hs := hlf.1
  have hl := hlf.2.1
  have q1 := hs.1
  have q2 := hs.2
  have qm := sidesF_mul hs
  have hF : okF (⟨r, c, lf⟩ : FdL) := hlf
  have hlen := fieldT_1200 (r := r) (c := c) (l := lf) (by omega) (by omega) (by omega) (by omega)
  have sb := sumL_bnd hlf.2.2
  have il := imgs_len (⟨r, c, lf⟩ : FdL) 8
  refine nw_i (fun pf H14 opf nn15 le16 => ?_)
  have au12Xpf : Apart u12 pf := ou12.apart nn15
  have npf : Nw H pf := nn15.le lE
  replace ou12 := ou12.le le16
  replace hvy := hvy.le le16
  replace hvm := hvm.le le16
  replace lE := lE.trans le16
  replace opf : Cel H14 pf [(.int .i64 (0)), (.int .i64 (0)), (.slice none 0 0)] := opf
  refine opf.stn (ws := [(.int .i64 (r)), (.int .i64 (c)), u12]) rfl rfl (oc1 rfl (oc1 rfl (oc1 ou12.one oc0))) (fun H17 opf off18 => ?_)
  replace ou12 := ou12.off off18 au12Xpf
  replace hvy := hvy0.le (off18.le lE npf)
  replace hvm := hvm0.le (off18.le lE npf)
  replace lE := off18.le lE npf
  replace opf : Cel H17 pf [(.int .i64 (r)), (.int .i64 (c)), u12] := opf
  refine ob_i (opf.ldn rfl) ?_
  refine C.wrI_ok ou12.sl (by first | omega | (rw [mkL_length]; have x1 := ix_le (a := r) (b := c) (by omega) (by omega) (by omega) (by omega); rw [← Int.toNat_of_nonneg (show 0 ≤ r by omega), ← Int.toNat_of_nonneg (show 0 ≤ c by omega), ← Int.natCast_mul] at x1; omega) | exact Nat.le_trans (fieldN_len (imF_ok hF t)) (by decide) | (rw [List.length_replicate]; omega) | (rw [List.length_replicate]; have x1 := ix_le (a := r) (b := c) (by omega) (by omega) (by omega) (by omega); rw [← Int.toNat_of_nonneg (show 0 ≤ r by omega), ← Int.toNat_of_nonneg (show 0 ≤ c by omega), ← Int.natCast_mul] at x1; omega)) (by first | exact hlf | exact imF_ok hF t | exact hT) (fun   H19    le20 => ?_)
  replace ou12 := ou12.le le20
  replace opf := opf.le le20
  replace hvy := hvy.le le20
  replace hvm := hvm.le le20
  replace lE := lE.trans le20
  refine ob_i (vExt_20 _ _) ?_
  refine ob_i (vExt_21 _ _) ?_
  refine ob_i (opf.ldn rfl) ?_
  refine C.wrS_ok ou12.sl (by first | omega | (rw [mkL_length]; have x1 := ix_le (a := r) (b := c) (by omega) (by omega) (by omega) (by omega); rw [← Int.toNat_of_nonneg (show 0 ≤ r by omega), ← Int.toNat_of_nonneg (show 0 ≤ c by omega), ← Int.natCast_mul] at x1; omega) | exact Nat.le_trans (fieldN_len (imF_ok hF t)) (by decide) | (rw [List.length_replicate]; omega) | (rw [List.length_replicate]; have x1 := ix_le (a := r) (b := c) (by omega) (by omega) (by omega) (by omega); rw [← Int.toNat_of_nonneg (show 0 ≤ r by omega), ← Int.toNat_of_nonneg (show 0 ≤ c by omega), ← Int.natCast_mul] at x1; omega)) (by first | exact hlf | exact imF_ok hF t | exact hT) (fun   H21    le22 => ?_)
  replace ou12 := ou12.le le22
  replace opf := opf.le le22
  replace hvy := hvy.le le22
  replace hvm := hvm.le le22
  replace lE := lE.trans le22
  refine ob_i (vExt_20 _ _) ?_
  refine ob_i (vExt_21 _ _) ?_
  refine C.readRuns_ok hlf (hv.le lE) hlen (fun u23 H24 ou23 nn25 le26 => ?_)
  replace ou12 := ou12.le le26
  replace opf := opf.le le26
  replace hvy := hvy.le le26
  replace hvm := hvm.le le26
  replace lE := lE.trans le26
  refine ob_i (vExt_20 _ _) ?_
  refine ob_i (vExt_21 _ _) ?_
  refine nw_i (fun pb H27 opb nn28 le29 => ?_)
  have au12Xpb : Apart u12 pb := ou12.apart nn28
  have apfXpb : Apart pf pb := opf.apart nn28
  have au23Xpb : Apart u23 pb := ou23.apart nn28
  have npb : Nw H pb := nn28.le lE
  replace ou12 := ou12.le le29
  replace opf := opf.le le29
  replace ou23 := ou23.le le29
  replace hvy := hvy.le le29
  replace hvm := hvm.le le29
  replace lE := lE.trans le29
  replace opb : Cel H27 pb [(.int .i64 (0)), (.int .i64 (0)), (.slice none 0 0)] := opb
  refine opb.stn (ws := [(.int .i64 (r)), (.int .i64 (c)), u23]) rfl rfl (oc1 rfl (oc1 rfl (oc1 ou23.one oc0))) (fun H30 opb off31 => ?_)
  replace ou12 := ou12.off off31 au12Xpb
  replace opf := opf.off off31 apfXpb
  replace ou23 := ou23.off off31 au23Xpb
  replace hvy := hvy0.le (off31.le lE npb)
  replace hvm := hvm0.le (off31.le lE npb)
  replace lE := off31.le lE npb
  replace opb : Cel H30 pb [(.int .i64 (r)), (.int .i64 (c)), u23] := opb
  refine ob_i (a := .bool false) rfl ?_
  refine gop_rf ?_
  refine gop_rf ?_
  refine ob_i (a := .bool false) rfl ?_
  refine ob_i (vPick_f _ _) ?_
  refine gop_rf ?_
  refine gop_rf ?_
  refine ob_i (a := .bool false) rfl ?_
  refine ob_i (vPick_f _ _) ?_
  refine gop_rf ?_
  refine gop_rf ?_
  refine gop_rf ?_
  refine ob_i (vStr_neq_same _) ?_
  refine ob_i (vPick_f _ _) ?_
  refine gop_rf ?_
  refine ob_i (opb.fa 0) ?_
  refine gop_rf ?_
  refine ob_i (opb.ld 0 rfl) ?_
  refine gop_rf ?_
  refine gop_rf ?_
  refine ob_i (vInt_neq _ _ _) ?_
  refine ob_i (vPick_f _ _) ?_
  by_cases hc32 : r ≠ r
  ·skip
   refine gop_e (decide_eq_true hc32) ?_
   refine gop_st ?_
   refine gop_e (decide_eq_true hc32) ?_
   refine gop_st ?_
   refine gop_e (decide_eq_true hc32) ?_
   refine gop_st ?_
   refine gop_e (decide_eq_true hc32) ?_
   refine gop_st ?_
   refine ob_i (vPick_et (decide_eq_true hc32) _ _) ?_
   refine gop_st ?_
   refine gop_st ?_
   refine gop_st ?_
   refine gop_st ?_
   refine gop_st ?_
   refine gop_st ?_
   refine ob_i (vPick_t _ _) ?_
   refine cnd_t1 ?_
   exfalso
   first | exact hc32 rfl | exact hc32 (cnt_im hF t) | exact hc32 (name_im hF t) | exact hc32 (cnt_tm hF hb) | exact hc32 (pas_back hF hb) | omega | (simp [hsp, hnp] at hc32; done) | (simp [hsn, hnn] at hc32; done)
  ·skip
   refine gop_e (decide_eq_false hc32) ?_
   refine gop_rf ?_
   refine ob_i (opb.fa 1) ?_
   refine gop_e (decide_eq_false hc32) ?_
   refine gop_rf ?_
   refine ob_i (opb.ld 1 rfl) ?_
   refine gop_e (decide_eq_false hc32) ?_
   refine gop_rf ?_
   refine gop_e (decide_eq_false hc32) ?_
   refine gop_rf ?_
   refine ob_i (vInt_neq _ _ _) ?_
   refine ob_i (vPick_ef (decide_eq_false hc32) _ _) ?_
   by_cases hc33 : c ≠ c
   ·skip
    refine gop_e (decide_eq_true hc33) ?_
    refine gop_st ?_
    refine gop_e (decide_eq_true hc33) ?_
    refine gop_st ?_
    refine gop_e (decide_eq_true hc33) ?_
    refine gop_st ?_
    refine gop_e (decide_eq_true hc33) ?_
    refine gop_st ?_
    refine gop_e (decide_eq_true hc33) ?_
    refine gop_st ?_
    refine gop_e (decide_eq_true hc33) ?_
    refine gop_st ?_
    refine ob_i (vPick_et (decide_eq_true hc33) _ _) ?_
    refine cnd_t1 ?_
    exfalso
    first | exact hc33 rfl | exact hc33 (cnt_im hF t) | exact hc33 (name_im hF t) | exact hc33 (cnt_tm hF hb) | exact hc33 (pas_back hF hb) | omega | (simp [hsp, hnp] at hc33; done) | (simp [hsn, hnn] at hc33; done)
   ·skip
    refine gop_e (decide_eq_false hc33) ?_
    refine gop_rf ?_
    refine ob_i (opb.fa 2) ?_
    refine gop_e (decide_eq_false hc33) ?_
    refine gop_rf ?_
    refine ob_i (opb.ld 2 rfl) ?_
    refine gop_e (decide_eq_false hc33) ?_
    refine gop_rf ?_
    refine ob_i (opf.fa 2) ?_
    refine gop_e (decide_eq_false hc33) ?_
    refine gop_rf ?_
    refine ob_i (opf.ld 2 rfl) ?_
    refine gop_e (decide_eq_false hc33) ?_
    refine gop_rf ?_
    refine C.laws_b10Ints ou23.sl ou12.sl (by first | omega | (rw [mkL_length]; have x1 := ix_le (a := r) (b := c) (by omega) (by omega) (by omega) (by omega); rw [← Int.toNat_of_nonneg (show 0 ≤ r by omega), ← Int.toNat_of_nonneg (show 0 ≤ c by omega), ← Int.natCast_mul] at x1; omega) | exact Nat.le_trans (fieldN_len (imF_ok hF t)) (by decide) | (rw [List.length_replicate]; omega) | (rw [List.length_replicate]; have x1 := ix_le (a := r) (b := c) (by omega) (by omega) (by omega) (by omega); rw [← Int.toNat_of_nonneg (show 0 ≤ r by omega), ← Int.toNat_of_nonneg (show 0 ≤ c by omega), ← Int.natCast_mul] at x1; omega)) (fun   H34    le35 => ?_)
    replace ou12 := ou12.le le35
    replace opf := opf.le le35
    replace ou23 := ou23.le le35
    replace opb := opb.le le35
    replace hvy := hvy.le le35
    replace hvm := hvm.le le35
    replace lE := lE.trans le35
    refine gop_e (decide_eq_false hc33) ?_
    refine gop_rf ?_
    refine ob_nd (fun hc36 => ?_) (fun hc36 => ?_)
    ·skip
     refine ob_i (vPick_ef (decide_eq_false hc33) _ _) ?_
     refine cnd_f1 ?_
     refine jn_i (fun σ' H' => σ' 1 = vm ∧ σ' 5 = (.int .i64 (r)) ∧ σ' 6 = (.int .i64 (c)) ∧ σ' 7 = pf ∧ σ' 14 = (.int .i64 (sumL lf)) ∧ Own eI H' u12 (lf) ∧ Cel H' pf [(.int .i64 (r)), (.int .i64 (c)), u12] ∧ Own eI H' u23 (lf) ∧ Cel H' pb [(.int .i64 (r)), (.int .i64 (c)), u23] ∧ Le H H') (fun σ37 H37 hP => ?_) (fun J37 hJ37 => ?_)
     ·skip
      obtain ⟨g1L37, g5L37, g6L37, g7L37, g14L37, ou12, opf, ou23, opb, lE⟩ := hP
      have hvy := hvy0.le lE
      have hvm := hvm0.le lE
      try simp only [g1L37, g5L37, g6L37, g7L37, g14L37]
      refine ob_i (opf.ldn rfl) ?_
      refine C.img_ok ou12.sl (by first | omega | (rw [mkL_length]; have x1 := ix_le (a := r) (b := c) (by omega) (by omega) (by omega) (by omega); rw [← Int.toNat_of_nonneg (show 0 ≤ r by omega), ← Int.toNat_of_nonneg (show 0 ≤ c by omega), ← Int.natCast_mul] at x1; omega) | exact Nat.le_trans (fieldN_len (imF_ok hF t)) (by decide) | (rw [List.length_replicate]; omega) | (rw [List.length_replicate]; have x1 := ix_le (a := r) (b := c) (by omega) (by omega) (by omega) (by omega); rw [← Int.toNat_of_nonneg (show 0 ≤ r by omega), ← Int.toNat_of_nonneg (show 0 ≤ c by omega), ← Int.natCast_mul] at x1; omega)) (by first | exact hlf | exact imF_ok hF t | exact hT) (fun  u40 Su40 H38 ou40 nn41  le39 => ?_)
      replace ou12 := ou12.le le39
      replace opf := opf.le le39
      replace ou23 := ou23.le le39
      replace opb := opb.le le39
      replace hvy := hvy.le le39
      replace hvm := hvm.le le39
      replace lE := lE.trans le39
      refine ob_i (vExt_20 _ _) ?_
      refine ob_i (vExt_21 _ _) ?_
      refine ob_i (a := .bool false) rfl ?_
      refine gop_rf ?_
      refine gop_rf ?_
      refine ob_i (ou40.len) ?_
      refine gop_rf ?_
      refine ob_i (vInt_neq _ _ _) ?_
      refine ob_i (vPick_f _ _) ?_
      by_cases hc42 : (((imgs (⟨r, c, lf⟩ : FdL) 8).length : Int)) ≠ 8
      ·skip
       refine gop_e (decide_eq_true hc42) ?_
       refine gop_st ?_
       refine gop_e (decide_eq_true hc42) ?_
       refine gop_st ?_
       refine gop_e (decide_eq_true hc42) ?_
       refine gop_st ?_
       refine gop_e (decide_eq_true hc42) ?_
       refine gop_st ?_
       refine gop_e (decide_eq_true hc42) ?_
       refine gop_st ?_
       refine gop_e (decide_eq_true hc42) ?_
       refine gop_st ?_
       refine gop_e (decide_eq_true hc42) ?_
       refine gop_st ?_
       refine gop_e (decide_eq_true hc42) ?_
       refine gop_st ?_
       refine ob_i (vPick_et (decide_eq_true hc42) _ _) ?_
       refine cnd_t1 ?_
       exfalso
       first | exact hc42 rfl | exact hc42 (cnt_im hF t) | exact hc42 (name_im hF t) | exact hc42 (cnt_tm hF hb) | exact hc42 (pas_back hF hb) | omega | (simp [hsp, hnp] at hc42; done) | (simp [hsn, hnn] at hc42; done)
      ·skip
       refine gop_e (decide_eq_false hc42) ?_
       refine gop_rf ?_
       refine gop_e (decide_eq_false hc42) ?_
       refine gop_rf ?_
       obtain ⟨P43, y44, hb45a, oP43, oy44, hb45p, hb45x⟩ := ou40.el (i := 0) (f := ⟨r, c, lf⟩) (by omega) (by first | omega | (simp; omega)) (imF_at (f := (⟨r, c, lf⟩ : FdL)) (n := 8) (i := 0) (by omega))
       replace oP43 : CelR H38 P43 [(.int .i64 (r)), (.int .i64 (c)), y44] := oP43
       replace oy44 : Ro eI H38 y44 (lf) := oy44
       refine ob_i (hb45a) ?_
       refine gop_e (decide_eq_false hc42) ?_
       refine gop_rf ?_
       refine ob_i (oP43.fa 2) ?_
       refine gop_e (decide_eq_false hc42) ?_
       refine gop_rf ?_
       refine ob_i (oP43.ld 2 rfl) ?_
       refine gop_e (decide_eq_false hc42) ?_
       refine gop_rf ?_
       refine ob_i (opf.fa 2) ?_
       refine gop_e (decide_eq_false hc42) ?_
       refine gop_rf ?_
       refine ob_i (opf.ld 2 rfl) ?_
       refine gop_e (decide_eq_false hc42) ?_
       refine gop_rf ?_
       refine C.laws_b10Ints oy44.sl ou12.sl (by first | omega | (rw [mkL_length]; have x1 := ix_le (a := r) (b := c) (by omega) (by omega) (by omega) (by omega); rw [← Int.toNat_of_nonneg (show 0 ≤ r by omega), ← Int.toNat_of_nonneg (show 0 ≤ c by omega), ← Int.natCast_mul] at x1; omega) | exact Nat.le_trans (fieldN_len (imF_ok hF t)) (by decide) | (rw [List.length_replicate]; omega) | (rw [List.length_replicate]; have x1 := ix_le (a := r) (b := c) (by omega) (by omega) (by omega) (by omega); rw [← Int.toNat_of_nonneg (show 0 ≤ r by omega), ← Int.toNat_of_nonneg (show 0 ≤ c by omega), ← Int.natCast_mul] at x1; omega)) (fun   H46    le47 => ?_)
       replace ou12 := ou12.le le47
       replace opf := opf.le le47
       replace ou23 := ou23.le le47
       replace opb := opb.le le47
       replace ou40 := ou40.le le47
       replace oP43 := oP43.le le47
       replace oy44 := oy44.le le47
       replace hvy := hvy.le le47
       replace hvm := hvm.le le47
       replace lE := lE.trans le47
       refine ⟨le47, ?_⟩
       refine gop_e (decide_eq_false hc42) ?_
       refine gop_rf ?_
       refine ob_nd (fun hc48 => ?_) (fun hc48 => ?_)
       ·skip
        refine ob_i (vPick_ef (decide_eq_false hc42) _ _) ?_
        refine cnd_f1 ?_
        refine ob_i (opf.ldn rfl) ?_
        refine C.nmI_ok ou12.sl (by first | omega | (rw [mkL_length]; have x1 := ix_le (a := r) (b := c) (by omega) (by omega) (by omega) (by omega); rw [← Int.toNat_of_nonneg (show 0 ≤ r by omega), ← Int.toNat_of_nonneg (show 0 ≤ c by omega), ← Int.natCast_mul] at x1; omega) | exact Nat.le_trans (fieldN_len (imF_ok hF t)) (by decide) | (rw [List.length_replicate]; omega) | (rw [List.length_replicate]; have x1 := ix_le (a := r) (b := c) (by omega) (by omega) (by omega) (by omega); rw [← Int.toNat_of_nonneg (show 0 ≤ r by omega), ← Int.toNat_of_nonneg (show 0 ≤ c by omega), ← Int.natCast_mul] at x1; omega)) (by first | exact hlf | exact imF_ok hF t | exact hT) (fun   H49    le50 => ?_)
        replace ou12 := ou12.le le50
        replace opf := opf.le le50
        replace ou23 := ou23.le le50
        replace opb := opb.le le50
        replace ou40 := ou40.le le50
        replace oP43 := oP43.le le50
        replace oy44 := oy44.le le50
        replace hvy := hvy.le le50
        replace hvm := hvm.le le50
        replace lE := lE.trans le50
        refine ob_i (vExt_20 _ _) ?_
        refine ob_i (vExt_21 _ _) ?_
        refine jn_i (fun σ' H' => σ' 1 = vm ∧ σ' 5 = (.int .i64 (r)) ∧ σ' 6 = (.int .i64 (c)) ∧ σ' 7 = pf ∧ σ' 14 = (.int .i64 (sumL lf)) ∧ σ' 18 = (vS (nameT r c lf)) ∧ σ' 19 = (.bool true) ∧ Own eI H' u12 (lf) ∧ Cel H' pf [(.int .i64 (r)), (.int .i64 (c)), u12] ∧ Own eI H' u23 (lf) ∧ Cel H' pb [(.int .i64 (r)), (.int .i64 (c)), u23] ∧ Fam H' u40 Su40 (imgs (⟨r, c, lf⟩ : FdL) 8) ∧ CelR H' P43 [(.int .i64 (r)), (.int .i64 (c)), y44] ∧ Ro eI H' y44 (lf) ∧ Le H H') (fun σ51 H51 hP => ?_) (fun J51 hJ51 => ?_)
        ·skip
         obtain ⟨g1L51, g5L51, g6L51, g7L51, g14L51, g18L51, g19L51, ou12, opf, ou23, opb, ou40, oP43, oy44, lE⟩ := hP
         have hvy := hvy0.le lE
         have hvm := hvm0.le lE
         try simp only [g1L51, g5L51, g6L51, g7L51, g14L51, g18L51, g19L51]
         refine ob_i (opf.ldn rfl) ?_
         refine C.trI_c ou12.sl (by first | omega | (rw [mkL_length]; have x1 := ix_le (a := r) (b := c) (by omega) (by omega) (by omega) (by omega); rw [← Int.toNat_of_nonneg (show 0 ≤ r by omega), ← Int.toNat_of_nonneg (show 0 ≤ c by omega), ← Int.natCast_mul] at x1; omega) | exact Nat.le_trans (fieldN_len (imF_ok hF t)) (by decide) | (rw [List.length_replicate]; omega) | (rw [List.length_replicate]; have x1 := ix_le (a := r) (b := c) (by omega) (by omega) (by omega) (by omega); rw [← Int.toNat_of_nonneg (show 0 ≤ r by omega), ← Int.toNat_of_nonneg (show 0 ≤ c by omega), ← Int.natCast_mul] at x1; omega)) (by first | exact hlf | exact imF_ok hF t | exact hT) (fun hc52 u55 H53 ou55 nn56  le54 => ?_) (fun hc57 u60 H58 ou60 nn61  le59 => ?_)
         ·skip
          have hsn : ¬ 0 < sumL lf := fun h => by have h2 : 0 ≤ (trm r c lf).2.1 := (sum_pos hF).mp h; omega
          have hnn : ¬ 0 < (nameT r c lf).length := fun h => by have h2 : 0 ≤ (trm r c lf).2.1 := (name_pos (f := (⟨r, c, lf⟩ : FdL))).mp h; omega
          replace hvy := hvy.le le54
          replace hvm := hvm.le le54
          replace lE := lE.trans le54
          refine ob_i (vExt_40 _ _ _ _) ?_
          refine ob_i (vExt_41 _ _ _ _) ?_
          refine ob_i (vExt_42 _ _ _ _) ?_
          refine ob_i (vExt_43 _ _ _ _) ?_
          refine nw_i (fun p62 H63 op62 nn64 le65 => ?_)
          have np62 : Nw H p62 := nn64.le lE
          replace ou55 := ou55.le le65
          replace hvy := hvy.le le65
          replace hvm := hvm.le le65
          replace lE := lE.trans le65
          replace op62 : Cel H63 p62 [(.int .i64 (0)), (.int .i64 (0)), (.slice none 0 0)] := op62
          refine op62.stn (ws := [(.int .i64 (0)), (.int .i64 (0)), u55]) rfl rfl (oc1 rfl (oc1 rfl (oc1 ou55.one oc0))) (fun H66 op62 off67 => ?_)
          replace hvy := hvy0.le (off67.le lE np62)
          replace hvm := hvm0.le (off67.le lE np62)
          replace lE := off67.le lE np62
          replace op62 : Cel H66 p62 [(.int .i64 (0)), (.int .i64 (0)), u55] := op62
          refine ob_i (a := .bool false) rfl ?_
          refine gop_rf ?_
          refine gop_rf ?_
          refine gop_rf ?_
          refine ob_i (vInt_gtr _ _ _) ?_
          refine gop_rf ?_
          refine ob_i (vBool_neq _ _) ?_
          refine ob_i (vPick_f _ _) ?_
          by_cases hc68 : (!((false) == (decide (0 < (sumL lf))))) = true
          ·skip
           refine gop_e (hc68) ?_
           refine gop_st ?_
           refine gop_e (hc68) ?_
           refine gop_st ?_
           refine gop_e (hc68) ?_
           refine gop_st ?_
           refine gop_e (hc68) ?_
           refine gop_st ?_
           refine gop_e (hc68) ?_
           refine gop_st ?_
           refine ob_i (vPick_et (hc68) _ _) ?_
           refine cnd_t1 ?_
           exfalso
           first | exact hc68 rfl | exact hc68 (cnt_im hF t) | exact hc68 (name_im hF t) | exact hc68 (cnt_tm hF hb) | exact hc68 (pas_back hF hb) | omega | (simp [hsp, hnp] at hc68; done) | (simp [hsn, hnn] at hc68; done)
          ·skip
           refine gop_e (eq_false_of_ne_true hc68) ?_
           refine gop_rf ?_
           refine gop_e (eq_false_of_ne_true hc68) ?_
           refine gop_rf ?_
           refine ob_i (vLenS_t (nameT r c lf)) ?_
           refine gop_e (eq_false_of_ne_true hc68) ?_
           refine gop_rf ?_
           refine ob_i (vInt_gtr _ _ _) ?_
           refine gop_e (eq_false_of_ne_true hc68) ?_
           refine gop_rf ?_
           refine gop_e (eq_false_of_ne_true hc68) ?_
           refine gop_rf ?_
           refine ob_i (vBool_neq _ _) ?_
           refine ob_i (vPick_ef (eq_false_of_ne_true hc68) _ _) ?_
           refine cnd_i (fun hg69 => ?_) (fun hg69 => ?_)
           ·skip
            exfalso
            first | exact hg69 rfl | exact hg69 (cnt_im hF t) | exact hg69 (name_im hF t) | exact hg69 (cnt_tm hF hb) | exact hg69 (pas_back hF hb) | omega | (simp [hsp, hnp] at hg69; done) | (simp [hsn, hnn] at hg69; done)
           ·skip
            refine ob_i (a := .bool true) rfl ?_
            refine cnd_t1 ?_
            skip
            exact hk   _    lE
         ·skip
          have hb := hc57
          have hsp : 0 < sumL lf := (sum_pos hF).mpr hb
          have hnp : 0 < (nameT r c lf).length := (name_pos (f := (⟨r, c, lf⟩ : FdL))).mpr hb
          have hT : fieldN 1 (trR r c lf) (trC r c lf) (trL r c lf) := tmG_ok hF hb
          have hTl := fieldN_len hT
          have hts := tm_sides hF hb
          have ht1 : 1 ≤ trR r c lf := hts.1.1
          have ht2 : (trm r c lf).1 + trR r c lf ≤ r := hts.1.2
          have ht3 : 1 ≤ trC r c lf := hts.2.1.1
          have ht4 : (trm r c lf).2.2.1 + trC r c lf ≤ c := hts.2.1.2
          have ht5 : 0 ≤ (trm r c lf).1 := hts.2.2.1
          have ht6 : 0 ≤ (trm r c lf).2.2.1 := hts.2.2.2
          replace ou12 := ou12.le le59
          replace opf := opf.le le59
          replace hvy := hvy.le le59
          replace hvm := hvm.le le59
          replace lE := lE.trans le59
          refine ob_i (vExt_40 _ _ _ _) ?_
          refine ob_i (vExt_41 _ _ _ _) ?_
          refine ob_i (vExt_42 _ _ _ _) ?_
          refine ob_i (vExt_43 _ _ _ _) ?_
          refine nw_i (fun p70 H71 op70 nn72 le73 => ?_)
          have au12Xp70 : Apart u12 p70 := ou12.apart nn72
          have apfXp70 : Apart pf p70 := opf.apart nn72
          have au60Xp70 : Apart u60 p70 := ou60.apart nn72
          have np70 : Nw H p70 := nn72.le lE
          replace ou12 := ou12.le le73
          replace opf := opf.le le73
          replace ou60 := ou60.le le73
          replace hvy := hvy.le le73
          replace hvm := hvm.le le73
          replace lE := lE.trans le73
          replace op70 : Cel H71 p70 [(.int .i64 (0)), (.int .i64 (0)), (.slice none 0 0)] := op70
          refine op70.stn (ws := [(.int .i64 (trR r c lf)), (.int .i64 (trC r c lf)), u60]) rfl rfl (oc1 rfl (oc1 rfl (oc1 ou60.one oc0))) (fun H74 op70 off75 => ?_)
          replace ou12 := ou12.off off75 au12Xp70
          replace opf := opf.off off75 apfXp70
          replace ou60 := ou60.off off75 au60Xp70
          replace hvy := hvy0.le (off75.le lE np70)
          replace hvm := hvm0.le (off75.le lE np70)
          replace lE := off75.le lE np70
          replace op70 : Cel H74 p70 [(.int .i64 (trR r c lf)), (.int .i64 (trC r c lf)), u60] := op70
          refine ob_i (a := .bool false) rfl ?_
          refine gop_rf ?_
          refine gop_rf ?_
          refine gop_rf ?_
          refine ob_i (vInt_gtr _ _ _) ?_
          refine gop_rf ?_
          refine ob_i (vBool_neq _ _) ?_
          refine ob_i (vPick_f _ _) ?_
          by_cases hc76 : (!((true) == (decide (0 < (sumL lf))))) = true
          ·skip
           refine gop_e (hc76) ?_
           refine gop_st ?_
           refine gop_e (hc76) ?_
           refine gop_st ?_
           refine gop_e (hc76) ?_
           refine gop_st ?_
           refine gop_e (hc76) ?_
           refine gop_st ?_
           refine gop_e (hc76) ?_
           refine gop_st ?_
           refine ob_i (vPick_et (hc76) _ _) ?_
           refine cnd_t1 ?_
           exfalso
           first | exact hc76 rfl | exact hc76 (cnt_im hF t) | exact hc76 (name_im hF t) | exact hc76 (cnt_tm hF hb) | exact hc76 (pas_back hF hb) | omega | (simp [hsp, hnp] at hc76; done) | (simp [hsn, hnn] at hc76; done)
          ·skip
           refine gop_e (eq_false_of_ne_true hc76) ?_
           refine gop_rf ?_
           refine gop_e (eq_false_of_ne_true hc76) ?_
           refine gop_rf ?_
           refine ob_i (vLenS_t (nameT r c lf)) ?_
           refine gop_e (eq_false_of_ne_true hc76) ?_
           refine gop_rf ?_
           refine ob_i (vInt_gtr _ _ _) ?_
           refine gop_e (eq_false_of_ne_true hc76) ?_
           refine gop_rf ?_
           refine gop_e (eq_false_of_ne_true hc76) ?_
           refine gop_rf ?_
           refine ob_i (vBool_neq _ _) ?_
           refine ob_i (vPick_ef (eq_false_of_ne_true hc76) _ _) ?_
           refine cnd_i (fun hg77 => ?_) (fun hg77 => ?_)
           ·skip
            exfalso
            first | exact hg77 rfl | exact hg77 (cnt_im hF t) | exact hg77 (name_im hF t) | exact hg77 (cnt_tm hF hb) | exact hg77 (pas_back hF hb) | omega | (simp [hsp, hnp] at hg77; done) | (simp [hsn, hnn] at hg77; done)
           ·skip
            refine ob_i (a := .bool false) rfl ?_
            refine cnd_f1 ?_
            refine ob_i (op70.ldn rfl) ?_
            refine C.spec_CountCells ou60.sl (by first | exact hlf | exact imF_ok hF t | exact hT) (fun   H78    le79 => ?_)
            replace ou12 := ou12.le le79
            replace opf := opf.le le79
            replace ou60 := ou60.le le79
            replace op70 := op70.le le79
            replace hvy := hvy.le le79
            replace hvm := hvm.le le79
            replace lE := lE.trans le79
            refine ob_i (vExt_20 _ _) ?_
            refine ob_i (vExt_21 _ _) ?_
            refine C.new_ok (by first | exact ⟨⟨by omega, by omega⟩, by omega, by omega⟩ | exact (name_im hF t).symm) (fun  u82 H80 ou82 nn83  le81 => ?_)
            replace ou12 := ou12.le le81
            replace opf := opf.le le81
            replace ou60 := ou60.le le81
            replace op70 := op70.le le81
            replace hvy := hvy.le le81
            replace hvm := hvm.le le81
            replace lE := lE.trans le81
            refine ob_i (vExt_20 _ _) ?_
            refine ob_i (vExt_21 _ _) ?_
            refine nw_i (fun p84 H85 op84 nn86 le87 => ?_)
            have au12Xp84 : Apart u12 p84 := ou12.apart nn86
            have apfXp84 : Apart pf p84 := opf.apart nn86
            have au60Xp84 : Apart u60 p84 := ou60.apart nn86
            have ap70Xp84 : Apart p70 p84 := op70.apart nn86
            have au82Xp84 : Apart u82 p84 := ou82.apart nn86
            have np84 : Nw H p84 := nn86.le lE
            replace ou12 := ou12.le le87
            replace opf := opf.le le87
            replace ou60 := ou60.le le87
            replace op70 := op70.le le87
            replace ou82 := ou82.le le87
            replace hvy := hvy.le le87
            replace hvm := hvm.le le87
            replace lE := lE.trans le87
            replace op84 : Cel H85 p84 [(.int .i64 (0)), (.int .i64 (0)), (.slice none 0 0)] := op84
            refine op84.stn (ws := [(.int .i64 (r)), (.int .i64 (c)), u82]) rfl rfl (oc1 rfl (oc1 rfl (oc1 ou82.one oc0))) (fun H88 op84 off89 => ?_)
            replace ou12 := ou12.off off89 au12Xp84
            replace opf := opf.off off89 apfXp84
            replace ou60 := ou60.off off89 au60Xp84
            replace op70 := op70.off off89 ap70Xp84
            replace ou82 := ou82.off off89 au82Xp84
            replace hvy := hvy0.le (off89.le lE np84)
            replace hvm := hvm0.le (off89.le lE np84)
            replace lE := off89.le lE np84
            replace op84 : Cel H88 p84 [(.int .i64 (r)), (.int .i64 (c)), u82] := op84
            refine ob_i (op84.ldn rfl) ?_
            refine ob_i (op70.ldn rfl) ?_
            refine C.pas_ok ou82.sl ou60.sl (by first | omega | (rw [mkL_length]; have x1 := ix_le (a := r) (b := c) (by omega) (by omega) (by omega) (by omega); rw [← Int.toNat_of_nonneg (show 0 ≤ r by omega), ← Int.toNat_of_nonneg (show 0 ≤ c by omega), ← Int.natCast_mul] at x1; omega) | exact Nat.le_trans (fieldN_len (imF_ok hF t)) (by decide) | (rw [List.length_replicate]; omega) | (rw [List.length_replicate]; have x1 := ix_le (a := r) (b := c) (by omega) (by omega) (by omega) (by omega); rw [← Int.toNat_of_nonneg (show 0 ≤ r by omega), ← Int.toNat_of_nonneg (show 0 ≤ c by omega), ← Int.natCast_mul] at x1; omega)) (by first | omega | exact Nat.le_trans (fieldN_len (imF_ok hF t)) (by decide) | (rw [List.length_replicate]; omega)) (by first | exact ⟨⟨by omega, by omega⟩, by omega, by omega⟩ | exact (name_im hF t).symm) (by rfl) (by first | exact hlf | exact imF_ok hF t | exact hT) (by first | omega | assumption) (by first | omega | assumption) (by first | omega | assumption) (by first | omega | assumption) (fun  u92 H90 ou92 nn93  le91 => ?_)
            replace ou12 := ou12.le le91
            replace opf := opf.le le91
            replace ou60 := ou60.le le91
            replace op70 := op70.le le91
            replace hvy := hvy.le le91
            replace hvm := hvm.le le91
            replace lE := lE.trans le91
            refine ob_i (vExt_20 _ _) ?_
            refine ob_i (vExt_21 _ _) ?_
            refine nw_i (fun p94 H95 op94 nn96 le97 => ?_)
            have au12Xp94 : Apart u12 p94 := ou12.apart nn96
            have apfXp94 : Apart pf p94 := opf.apart nn96
            have au60Xp94 : Apart u60 p94 := ou60.apart nn96
            have ap70Xp94 : Apart p70 p94 := op70.apart nn96
            have au92Xp94 : Apart u92 p94 := ou92.apart nn96
            have np94 : Nw H p94 := nn96.le lE
            replace ou12 := ou12.le le97
            replace opf := opf.le le97
            replace ou60 := ou60.le le97
            replace op70 := op70.le le97
            replace ou92 := ou92.le le97
            replace hvy := hvy.le le97
            replace hvm := hvm.le le97
            replace lE := lE.trans le97
            replace op94 : Cel H95 p94 [(.int .i64 (0)), (.int .i64 (0)), (.slice none 0 0)] := op94
            refine op94.stn (ws := [(.int .i64 (r)), (.int .i64 (c)), u92]) rfl rfl (oc1 rfl (oc1 rfl (oc1 ou92.one oc0))) (fun H98 op94 off99 => ?_)
            replace ou12 := ou12.off off99 au12Xp94
            replace opf := opf.off off99 apfXp94
            replace ou60 := ou60.off off99 au60Xp94
            replace op70 := op70.off off99 ap70Xp94
            replace ou92 := ou92.off off99 au92Xp94
            replace hvy := hvy0.le (off99.le lE np94)
            replace hvm := hvm0.le (off99.le lE np94)
            replace lE := off99.le lE np94
            replace op94 : Cel H98 p94 [(.int .i64 (r)), (.int .i64 (c)), u92] := op94
            refine C.laws_b10At (k := 2) (n := 4) hvm hb_vm hl_vm (by omega) (by omega) (fun x100 xp101 xq102 => ?_)
            replace xq102 := xq102 (by omega)
            refine ob_i (op70.ldn rfl) ?_
            have hgo : groOk (trR r c lf) (trC r c lf) (trL r c lf) x100 := ⟨hT, by omega, by omega, by omega⟩
            refine C.grI_ok ou60.sl (by first | omega | (rw [mkL_length]; have x1 := ix_le (a := r) (b := c) (by omega) (by omega) (by omega) (by omega); rw [← Int.toNat_of_nonneg (show 0 ≤ r by omega), ← Int.toNat_of_nonneg (show 0 ≤ c by omega), ← Int.natCast_mul] at x1; omega) | exact Nat.le_trans (fieldN_len (imF_ok hF t)) (by decide) | (rw [List.length_replicate]; omega) | (rw [List.length_replicate]; have x1 := ix_le (a := r) (b := c) (by omega) (by omega) (by omega) (by omega); rw [← Int.toNat_of_nonneg (show 0 ≤ r by omega), ← Int.toNat_of_nonneg (show 0 ≤ c by omega), ← Int.natCast_mul] at x1; omega)) (by exact hgo) (fun  u105 H103 ou105 nn106  le104 => ?_)
            replace ou12 := ou12.le le104
            replace opf := opf.le le104
            replace ou60 := ou60.le le104
            replace op70 := op70.le le104
            replace ou92 := ou92.le le104
            replace op94 := op94.le le104
            replace hvy := hvy.le le104
            replace hvm := hvm.le le104
            replace lE := lE.trans le104
            refine ob_i (vExt_20 _ _) ?_
            refine ob_i (vExt_21 _ _) ?_
            refine nw_i (fun p107 H108 op107 nn109 le110 => ?_)
            have au12Xp107 : Apart u12 p107 := ou12.apart nn109
            have apfXp107 : Apart pf p107 := opf.apart nn109
            have au60Xp107 : Apart u60 p107 := ou60.apart nn109
            have ap70Xp107 : Apart p70 p107 := op70.apart nn109
            have au92Xp107 : Apart u92 p107 := ou92.apart nn109
            have ap94Xp107 : Apart p94 p107 := op94.apart nn109
            have au105Xp107 : Apart u105 p107 := ou105.apart nn109
            have np107 : Nw H p107 := nn109.le lE
            replace ou12 := ou12.le le110
            replace opf := opf.le le110
            replace ou60 := ou60.le le110
            replace op70 := op70.le le110
            replace ou92 := ou92.le le110
            replace op94 := op94.le le110
            replace ou105 := ou105.le le110
            replace hvy := hvy.le le110
            replace hvm := hvm.le le110
            replace lE := lE.trans le110
            replace op107 : Cel H108 p107 [(.int .i64 (0)), (.int .i64 (0)), (.slice none 0 0)] := op107
            refine op107.stn (ws := [(.int .i64 ((trR r c lf) + 2 * x100)), (.int .i64 ((trC r c lf) + 2 * x100)), u105]) rfl rfl (oc1 rfl (oc1 rfl (oc1 ou105.one oc0))) (fun H111 op107 off112 => ?_)
            replace ou12 := ou12.off off112 au12Xp107
            replace opf := opf.off off112 apfXp107
            replace ou60 := ou60.off off112 au60Xp107
            replace op70 := op70.off off112 ap70Xp107
            replace ou92 := ou92.off off112 au92Xp107
            replace op94 := op94.off off112 ap94Xp107
            replace ou105 := ou105.off off112 au105Xp107
            replace hvy := hvy0.le (off112.le lE np107)
            replace hvm := hvm0.le (off112.le lE np107)
            replace lE := off112.le lE np107
            replace op107 : Cel H111 p107 [(.int .i64 ((trR r c lf) + 2 * x100)), (.int .i64 ((trC r c lf) + 2 * x100)), u105] := op107
            refine ob_i (op107.ldn rfl) ?_
            refine C.trI_g (b := x100) hlf hb (by omega) hgo ou105.sl (fun u113 H114 ou113 nn115 le116 => ?_)
            replace ou12 := ou12.le le116
            replace opf := opf.le le116
            replace ou60 := ou60.le le116
            replace op70 := op70.le le116
            replace ou92 := ou92.le le116
            replace op94 := op94.le le116
            replace op107 := op107.le le116
            replace hvy := hvy.le le116
            replace hvm := hvm.le le116
            replace lE := lE.trans le116
            refine ob_i (vExt_40 _ _ _ _) ?_
            refine ob_i (vExt_41 _ _ _ _) ?_
            refine ob_i (vExt_42 _ _ _ _) ?_
            refine ob_i (vExt_43 _ _ _ _) ?_
            refine nw_i (fun p117 H118 op117 nn119 le120 => ?_)
            have au12Xp117 : Apart u12 p117 := ou12.apart nn119
            have apfXp117 : Apart pf p117 := opf.apart nn119
            have au60Xp117 : Apart u60 p117 := ou60.apart nn119
            have ap70Xp117 : Apart p70 p117 := op70.apart nn119
            have au92Xp117 : Apart u92 p117 := ou92.apart nn119
            have ap94Xp117 : Apart p94 p117 := op94.apart nn119
            have ap107Xp117 : Apart p107 p117 := op107.apart nn119
            have au113Xp117 : Apart u113 p117 := ou113.apart nn119
            have np117 : Nw H p117 := nn119.le lE
            replace ou12 := ou12.le le120
            replace opf := opf.le le120
            replace ou60 := ou60.le le120
            replace op70 := op70.le le120
            replace ou92 := ou92.le le120
            replace op94 := op94.le le120
            replace op107 := op107.le le120
            replace ou113 := ou113.le le120
            replace hvy := hvy.le le120
            replace hvm := hvm.le le120
            replace lE := lE.trans le120
            replace op117 : Cel H118 p117 [(.int .i64 (0)), (.int .i64 (0)), (.slice none 0 0)] := op117
            refine op117.stn (ws := [(.int .i64 (trR r c lf)), (.int .i64 (trC r c lf)), u113]) rfl rfl (oc1 rfl (oc1 rfl (oc1 ou113.one oc0))) (fun H121 op117 off122 => ?_)
            replace ou12 := ou12.off off122 au12Xp117
            replace opf := opf.off off122 apfXp117
            replace ou60 := ou60.off off122 au60Xp117
            replace op70 := op70.off off122 ap70Xp117
            replace ou92 := ou92.off off122 au92Xp117
            replace op94 := op94.off off122 ap94Xp117
            replace op107 := op107.off off122 ap107Xp117
            replace ou113 := ou113.off off122 au113Xp117
            replace hvy := hvy0.le (off122.le lE np117)
            replace hvm := hvm0.le (off122.le lE np117)
            replace lE := off122.le lE np117
            replace op117 : Cel H121 p117 [(.int .i64 (trR r c lf)), (.int .i64 (trC r c lf)), u113] := op117
            refine gop_rt ?_
            refine ob_i (vPick_t _ _) ?_
            refine gop_rt ?_
            refine ob_i (vPick_t _ _) ?_
            refine gop_rt ?_
            refine ob_i (vPick_t _ _) ?_
            refine gop_rt ?_
            refine ob_i (vPick_t _ _) ?_
            refine gop_rt ?_
            refine gop_rt ?_
            refine gop_rt ?_
            refine ob_i (vInt_eql _ _ _) ?_
            refine ob_i (vPick_t _ _) ?_
            by_cases hc123 : (cntE 1 (trL r c lf)) = (sumL lf)
            ·skip
             refine gop_e (decide_eq_true hc123) ?_
             refine gop_rt ?_
             refine ob_i (op94.fa 2) ?_
             refine gop_e (decide_eq_true hc123) ?_
             refine gop_rt ?_
             refine ob_i (op94.ld 2 rfl) ?_
             refine gop_e (decide_eq_true hc123) ?_
             refine gop_rt ?_
             refine ob_i (opf.fa 2) ?_
             refine gop_e (decide_eq_true hc123) ?_
             refine gop_rt ?_
             refine ob_i (opf.ld 2 rfl) ?_
             refine gop_e (decide_eq_true hc123) ?_
             refine gop_rt ?_
             refine C.laws_b10Ints ou92.sl ou12.sl (by first | omega | (rw [mkL_length]; have x1 := ix_le (a := r) (b := c) (by omega) (by omega) (by omega) (by omega); rw [← Int.toNat_of_nonneg (show 0 ≤ r by omega), ← Int.toNat_of_nonneg (show 0 ≤ c by omega), ← Int.natCast_mul] at x1; omega) | exact Nat.le_trans (fieldN_len (imF_ok hF t)) (by decide) | (rw [List.length_replicate]; omega) | (rw [List.length_replicate]; have x1 := ix_le (a := r) (b := c) (by omega) (by omega) (by omega) (by omega); rw [← Int.toNat_of_nonneg (show 0 ≤ r by omega), ← Int.toNat_of_nonneg (show 0 ≤ c by omega), ← Int.natCast_mul] at x1; omega)) (fun   H124    le125 => ?_)
             replace ou60 := ou60.le le125
             replace op70 := op70.le le125
             replace op107 := op107.le le125
             replace ou113 := ou113.le le125
             replace op117 := op117.le le125
             replace lE := lE.trans le125
             refine ob_i (vPick_et (decide_eq_true hc123) _ _) ?_
             by_cases hc126 : (mkL c (pasG ((trm r c lf).1) ((trm r c lf).2.2.1) (trR r c lf) (trC r c lf) (trL r c lf)) ((r : Int).toNat * (c : Int).toNat)) = lf
             ·skip
              refine gop_e (decide_eq_true hc126) ?_
              refine gop_rt ?_
              refine gop_e (decide_eq_true hc126) ?_
              refine gop_rt ?_
              refine gop_e (decide_eq_true hc126) ?_
              refine gop_rt ?_
              refine ob_i (vInt_eql _ _ _) ?_
              refine ob_i (vPick_et (decide_eq_true hc126) _ _) ?_
              by_cases hc127 : x100 = x100
              ·skip
               refine gop_e (decide_eq_true hc127) ?_
               refine gop_rt ?_
               refine gop_e (decide_eq_true hc127) ?_
               refine gop_rt ?_
               refine gop_e (decide_eq_true hc127) ?_
               refine gop_rt ?_
               refine ob_i (vInt_eql _ _ _) ?_
               refine ob_i (vPick_et (decide_eq_true hc127) _ _) ?_
               refine gop_e (decide_eq_true hc127) ?_
               refine gop_rt ?_
               refine ob_i (op117.fa 2) ?_
               refine gop_e (decide_eq_true hc127) ?_
               refine gop_rt ?_
               refine ob_i (op117.ld 2 rfl) ?_
               refine gop_e (decide_eq_true hc127) ?_
               refine gop_rt ?_
               refine ob_i (op70.fa 2) ?_
               refine gop_e (decide_eq_true hc127) ?_
               refine gop_rt ?_
               refine ob_i (op70.ld 2 rfl) ?_
               refine gop_e (decide_eq_true hc127) ?_
               refine gop_rt ?_
               refine C.laws_b10Ints ou113.sl ou60.sl (by first | omega | (rw [mkL_length]; have x1 := ix_le (a := r) (b := c) (by omega) (by omega) (by omega) (by omega); rw [← Int.toNat_of_nonneg (show 0 ≤ r by omega), ← Int.toNat_of_nonneg (show 0 ≤ c by omega), ← Int.natCast_mul] at x1; omega) | exact Nat.le_trans (fieldN_len (imF_ok hF t)) (by decide) | (rw [List.length_replicate]; omega) | (rw [List.length_replicate]; have x1 := ix_le (a := r) (b := c) (by omega) (by omega) (by omega) (by omega); rw [← Int.toNat_of_nonneg (show 0 ≤ r by omega), ← Int.toNat_of_nonneg (show 0 ≤ c by omega), ← Int.natCast_mul] at x1; omega)) (fun   H128    le129 => ?_)
               replace op70 := op70.le le129
               replace op107 := op107.le le129
               replace lE := lE.trans le129
               refine ob_i (vPick_et (decide_eq_true hc127) _ _) ?_
               by_cases hc130 : (trL r c lf) = (trL r c lf)
               ·skip
                refine gop_e (decide_eq_true hc130) ?_
                refine gop_rt ?_
                refine ob_i (op107.fa 0) ?_
                refine gop_e (decide_eq_true hc130) ?_
                refine gop_rt ?_
                refine ob_i (op107.ld 0 rfl) ?_
                refine gop_e (decide_eq_true hc130) ?_
                refine gop_rt ?_
                refine ob_i (op70.fa 0) ?_
                refine gop_e (decide_eq_true hc130) ?_
                refine gop_rt ?_
                refine ob_i (op70.ld 0 rfl) ?_
                refine gop_e (decide_eq_true hc130) ?_
                refine gop_rt ?_
                refine gop_e (decide_eq_true hc130) ?_
                refine gop_rt ?_
                refine ob_i (vInt_mul (by omega) (by omega)) ?_
                refine gop_e (decide_eq_true hc130) ?_
                refine gop_rt ?_
                refine ob_i (vInt_add (by omega) (by omega)) ?_
                refine gop_e (decide_eq_true hc130) ?_
                refine gop_rt ?_
                refine ob_i (vInt_eql _ _ _) ?_
                refine ob_i (vPick_et (decide_eq_true hc130) _ _) ?_
                exact keq (K := K) (by rw [decide_eq_true (by first | rfl | omega)]) (hk _ lE)
               ·skip
                refine gop_e (decide_eq_false hc130) ?_
                refine gop_sf ?_
                refine gop_e (decide_eq_false hc130) ?_
                refine gop_sf ?_
                refine gop_e (decide_eq_false hc130) ?_
                refine gop_sf ?_
                refine gop_e (decide_eq_false hc130) ?_
                refine gop_sf ?_
                refine gop_e (decide_eq_false hc130) ?_
                refine gop_sf ?_
                refine gop_e (decide_eq_false hc130) ?_
                refine gop_sf ?_
                refine gop_e (decide_eq_false hc130) ?_
                refine gop_sf ?_
                refine gop_e (decide_eq_false hc130) ?_
                refine gop_sf ?_
                refine ob_i (vPick_ef (decide_eq_false hc130) _ _) ?_
                exfalso
                first | exact hc130 rfl | exact hc130 (cnt_im hF t) | exact hc130 (name_im hF t) | exact hc130 (cnt_tm hF hb) | exact hc130 (pas_back hF hb) | omega | (simp [hsp, hnp] at hc130; done) | (simp [hsn, hnn] at hc130; done)
              ·skip
               refine gop_e (decide_eq_false hc127) ?_
               refine gop_sf ?_
               refine gop_e (decide_eq_false hc127) ?_
               refine gop_sf ?_
               refine gop_e (decide_eq_false hc127) ?_
               refine gop_sf ?_
               refine ob_i (vPick_ef (decide_eq_false hc127) _ _) ?_
               refine gop_sf ?_
               refine gop_sf ?_
               refine gop_sf ?_
               refine gop_sf ?_
               refine gop_sf ?_
               refine ob_i (vPick_f _ _) ?_
               refine gop_sf ?_
               refine gop_sf ?_
               refine gop_sf ?_
               refine gop_sf ?_
               refine gop_sf ?_
               refine gop_sf ?_
               refine gop_sf ?_
               refine gop_sf ?_
               refine ob_i (vPick_f _ _) ?_
               exfalso
               first | exact hc127 rfl | exact hc127 (cnt_im hF t) | exact hc127 (name_im hF t) | exact hc127 (cnt_tm hF hb) | exact hc127 (pas_back hF hb) | omega | (simp [hsp, hnp] at hc127; done) | (simp [hsn, hnn] at hc127; done)
             ·skip
              refine gop_e (decide_eq_false hc126) ?_
              refine gop_sf ?_
              refine gop_e (decide_eq_false hc126) ?_
              refine gop_sf ?_
              refine gop_e (decide_eq_false hc126) ?_
              refine gop_sf ?_
              refine ob_i (vPick_ef (decide_eq_false hc126) _ _) ?_
              refine gop_sf ?_
              refine gop_sf ?_
              refine gop_sf ?_
              refine ob_i (vPick_f _ _) ?_
              refine gop_sf ?_
              refine gop_sf ?_
              refine gop_sf ?_
              refine gop_sf ?_
              refine gop_sf ?_
              refine ob_i (vPick_f _ _) ?_
              refine gop_sf ?_
              refine gop_sf ?_
              refine gop_sf ?_
              refine gop_sf ?_
              refine gop_sf ?_
              refine gop_sf ?_
              refine gop_sf ?_
              refine gop_sf ?_
              refine ob_i (vPick_f _ _) ?_
              exfalso
              first | exact hc126 rfl | exact hc126 (cnt_im hF t) | exact hc126 (name_im hF t) | exact hc126 (cnt_tm hF hb) | exact hc126 (pas_back hF hb) | omega | (simp [hsp, hnp] at hc126; done) | (simp [hsn, hnn] at hc126; done)
            ·skip
             refine gop_e (decide_eq_false hc123) ?_
             refine gop_sf ?_
             refine gop_e (decide_eq_false hc123) ?_
             refine gop_sf ?_
             refine gop_e (decide_eq_false hc123) ?_
             refine gop_sf ?_
             refine gop_e (decide_eq_false hc123) ?_
             refine gop_sf ?_
             refine gop_e (decide_eq_false hc123) ?_
             refine gop_sf ?_
             refine ob_i (vPick_ef (decide_eq_false hc123) _ _) ?_
             refine gop_sf ?_
             refine gop_sf ?_
             refine gop_sf ?_
             refine ob_i (vPick_f _ _) ?_
             refine gop_sf ?_
             refine gop_sf ?_
             refine gop_sf ?_
             refine ob_i (vPick_f _ _) ?_
             refine gop_sf ?_
             refine gop_sf ?_
             refine gop_sf ?_
             refine gop_sf ?_
             refine gop_sf ?_
             refine ob_i (vPick_f _ _) ?_
             refine gop_sf ?_
             refine gop_sf ?_
             refine gop_sf ?_
             refine gop_sf ?_
             refine gop_sf ?_
             refine gop_sf ?_
             refine gop_sf ?_
             refine gop_sf ?_
             refine ob_i (vPick_f _ _) ?_
             exfalso
             first | exact hc123 rfl | exact hc123 (cnt_im hF t) | exact hc123 (name_im hF t) | exact hc123 (cnt_tm hF hb) | exact hc123 (pas_back hF hb) | omega | (simp [hsp, hnp] at hc123; done) | (simp [hsn, hnn] at hc123; done)
        refine ob_i (ou40.len) ?_
        refine ⟨fun n' σ' H' => ∃ t : Nat, n' = 8 - t ∧ t ≤ 8 ∧ σ' 1 = vm ∧ σ' 5 = (.int .i64 (r)) ∧ σ' 6 = (.int .i64 (c)) ∧ σ' 7 = pf ∧ σ' 14 = (.int .i64 (sumL lf)) ∧ σ' 16 = u40 ∧ σ' 18 = (vS (nameT r c lf)) ∧ σ' 19 = (.bool true) ∧ σ' 149 = (.int .i64 (((imgs (⟨r, c, lf⟩ : FdL) 8).length : Int))) ∧ σ' 150 = (.int .i64 ((t : Int))) ∧ Own eI H' u12 (lf) ∧ Cel H' pf [(.int .i64 (r)), (.int .i64 (c)), u12] ∧ Own eI H' u23 (lf) ∧ Cel H' pb [(.int .i64 (r)), (.int .i64 (c)), u23] ∧ Fam H' u40 Su40 (imgs (⟨r, c, lf⟩ : FdL) 8) ∧ CelR H' P43 [(.int .i64 (r)), (.int .i64 (c)), y44] ∧ Ro eI H' y44 (lf) ∧ Le H H',
         ⟨_, 0, rfl, by omega, g1L37, g5L37, g6L37, g7L37, g14L37, rfl, rfl, rfl, rfl, (congrArg (Value.int .i64) (by first | omega | rfl | (simp; done))), ou12, opf, ou23, opb, ou40, oP43, oy44, lE⟩, ?_⟩
        rintro n131 σ131 H131 ⟨t, rfl, htN, g1L131, g5L131, g6L131, g7L131, g14L131, g16L131, g18L131, g19L131, g149L131, g150L131, ou12, opf, ou23, opb, ou40, oP43, oy44, lE⟩
        try simp only [g7L131, g14L131, g16L131, g18L131, g149L131, g150L131]
        refine ob_i (vInt_lss _ _ _) ?_
        refine cnd_d (fun hg132 => ?_) (fun hg132 => ?_)
        ·skip
         have tt := hg132
         obtain ⟨P133, y134, hb135a, oP133, oy134, hb135p, hb135x⟩ := ou40.el (i := (t : Int)) (f := ⟨(imF (⟨r, c, lf⟩ : FdL) t).r, (imF (⟨r, c, lf⟩ : FdL) t).c, (imF (⟨r, c, lf⟩ : FdL) t).l⟩) (by omega) (by first | omega | (simp; omega)) (imF_at (f := (⟨r, c, lf⟩ : FdL)) (n := 8) (i := t) (by omega))
         replace oP133 : CelR H131 P133 [(.int .i64 ((imF (⟨r, c, lf⟩ : FdL) t).r)), (.int .i64 ((imF (⟨r, c, lf⟩ : FdL) t).c)), y134] := oP133
         replace oy134 : Ro eI H131 y134 ((imF (⟨r, c, lf⟩ : FdL) t).l) := oy134
         refine ob_i (hb135a) ?_
         refine ob_i (oP133.ldn rfl) ?_
         refine C.spec_CountCells oy134.sl (by first | exact hlf | exact imF_ok hF t | exact hT) (fun   H136    le137 => ?_)
         replace ou12 := ou12.le le137
         replace opf := opf.le le137
         replace ou23 := ou23.le le137
         replace opb := opb.le le137
         replace ou40 := ou40.le le137
         replace oP43 := oP43.le le137
         replace oy44 := oy44.le le137
         replace lE := lE.trans le137
         refine ob_i (vExt_20 _ _) ?_
         refine ob_i (vExt_21 _ _) ?_
         obtain ⟨P138, y139, hb140a, oP138, oy139, hb140p, hb140x⟩ := ou40.el (i := (t : Int)) (f := ⟨(imF (⟨r, c, lf⟩ : FdL) t).r, (imF (⟨r, c, lf⟩ : FdL) t).c, (imF (⟨r, c, lf⟩ : FdL) t).l⟩) (by omega) (by first | omega | (simp; omega)) (imF_at (f := (⟨r, c, lf⟩ : FdL)) (n := 8) (i := t) (by omega))
         replace oP138 : CelR H136 P138 [(.int .i64 ((imF (⟨r, c, lf⟩ : FdL) t).r)), (.int .i64 ((imF (⟨r, c, lf⟩ : FdL) t).c)), y139] := oP138
         replace oy139 : Ro eI H136 y139 ((imF (⟨r, c, lf⟩ : FdL) t).l) := oy139
         refine ob_i (hb140a) ?_
         refine ob_i (oP138.ldn rfl) ?_
         refine C.nmI_ok oy139.sl (by first | omega | (rw [mkL_length]; have x1 := ix_le (a := r) (b := c) (by omega) (by omega) (by omega) (by omega); rw [← Int.toNat_of_nonneg (show 0 ≤ r by omega), ← Int.toNat_of_nonneg (show 0 ≤ c by omega), ← Int.natCast_mul] at x1; omega) | exact Nat.le_trans (fieldN_len (imF_ok hF t)) (by decide) | (rw [List.length_replicate]; omega) | (rw [List.length_replicate]; have x1 := ix_le (a := r) (b := c) (by omega) (by omega) (by omega) (by omega); rw [← Int.toNat_of_nonneg (show 0 ≤ r by omega), ← Int.toNat_of_nonneg (show 0 ≤ c by omega), ← Int.natCast_mul] at x1; omega)) (by first | exact hlf | exact imF_ok hF t | exact hT) (fun   H141    le142 => ?_)
         replace ou12 := ou12.le le142
         replace opf := opf.le le142
         replace ou23 := ou23.le le142
         replace opb := opb.le le142
         replace ou40 := ou40.le le142
         replace oP43 := oP43.le le142
         replace oy44 := oy44.le le142
         replace lE := lE.trans le142
         refine ob_i (vExt_20 _ _) ?_
         refine ob_i (vExt_21 _ _) ?_
         refine ob_i (opf.ldn rfl) ?_
         obtain ⟨P143, y144, hb145a, oP143, oy144, hb145p, hb145x⟩ := ou40.el (i := (t : Int)) (f := ⟨(imF (⟨r, c, lf⟩ : FdL) t).r, (imF (⟨r, c, lf⟩ : FdL) t).c, (imF (⟨r, c, lf⟩ : FdL) t).l⟩) (by omega) (by first | omega | (simp; omega)) (imF_at (f := (⟨r, c, lf⟩ : FdL)) (n := 8) (i := t) (by omega))
         replace oP143 : CelR H141 P143 [(.int .i64 ((imF (⟨r, c, lf⟩ : FdL) t).r)), (.int .i64 ((imF (⟨r, c, lf⟩ : FdL) t).c)), y144] := oP143
         replace oy144 : Ro eI H141 y144 ((imF (⟨r, c, lf⟩ : FdL) t).l) := oy144
         refine ob_i (hb145a) ?_
         refine ob_i (oP143.ldn rfl) ?_
         refine C.ssI_ok ou12.sl oy144.sl (by first | omega | (rw [mkL_length]; have x1 := ix_le (a := r) (b := c) (by omega) (by omega) (by omega) (by omega); rw [← Int.toNat_of_nonneg (show 0 ≤ r by omega), ← Int.toNat_of_nonneg (show 0 ≤ c by omega), ← Int.natCast_mul] at x1; omega) | exact Nat.le_trans (fieldN_len (imF_ok hF t)) (by decide) | (rw [List.length_replicate]; omega) | (rw [List.length_replicate]; have x1 := ix_le (a := r) (b := c) (by omega) (by omega) (by omega) (by omega); rw [← Int.toNat_of_nonneg (show 0 ≤ r by omega), ← Int.toNat_of_nonneg (show 0 ≤ c by omega), ← Int.natCast_mul] at x1; omega)) (by first | omega | exact Nat.le_trans (fieldN_len (imF_ok hF t)) (by decide) | (rw [List.length_replicate]; omega)) (by first | exact hlf | exact imF_ok hF t | exact hT) (by first | exact hlf | exact imF_ok hF t | exact hT) (by first | exact ⟨⟨by omega, by omega⟩, by omega, by omega⟩ | exact (name_im hF t).symm) (fun   H146    le147 => ?_)
         replace ou12 := ou12.le le147
         replace opf := opf.le le147
         replace ou23 := ou23.le le147
         replace opb := opb.le le147
         replace ou40 := ou40.le le147
         replace oP43 := oP43.le le147
         replace oy44 := oy44.le le147
         replace lE := lE.trans le147
         refine ⟨le147, ?_⟩
         refine ob_i (vExt_20 _ _) ?_
         refine ob_i (vExt_21 _ _) ?_
         refine ob_i (a := .bool false) rfl ?_
         refine gop_rf ?_
         refine gop_rf ?_
         refine ob_i (a := .bool false) rfl ?_
         refine ob_i (vPick_f _ _) ?_
         refine gop_rf ?_
         refine gop_rf ?_
         refine ob_i (a := .bool false) rfl ?_
         refine ob_i (vPick_f _ _) ?_
         refine gop_rf ?_
         refine gop_rf ?_
         refine ob_i (a := .bool false) rfl ?_
         refine ob_i (vPick_f _ _) ?_
         refine gop_rf ?_
         refine gop_rf ?_
         refine gop_rf ?_
         refine ob_i (vInt_neq _ _ _) ?_
         refine ob_i (vPick_f _ _) ?_
         by_cases hc148 : (cntE 1 ((imF (⟨r, c, lf⟩ : FdL) t).l)) ≠ (sumL lf)
         ·skip
          refine gop_e (decide_eq_true hc148) ?_
          refine gop_st ?_
          refine gop_e (decide_eq_true hc148) ?_
          refine gop_st ?_
          refine gop_e (decide_eq_true hc148) ?_
          refine gop_st ?_
          refine ob_i (vPick_et (decide_eq_true hc148) _ _) ?_
          refine cnd_t1 ?_
          refine retK (K := K) (v' := (.bool false)) rfl ?_
          exfalso
          first | exact hc148 rfl | exact hc148 (cnt_im hF t) | exact hc148 (name_im hF t) | exact hc148 (cnt_tm hF hb) | exact hc148 (pas_back hF hb) | omega | (simp [hsp, hnp] at hc148; done) | (simp [hsn, hnn] at hc148; done)
         ·skip
          refine gop_e (decide_eq_false hc148) ?_
          refine gop_rf ?_
          refine gop_e (decide_eq_false hc148) ?_
          refine gop_rf ?_
          refine gop_e (decide_eq_false hc148) ?_
          refine gop_rf ?_
          refine ob_i (vStr_neq (nameT ((imF (⟨r, c, lf⟩ : FdL) t).r) ((imF (⟨r, c, lf⟩ : FdL) t).c) ((imF (⟨r, c, lf⟩ : FdL) t).l)) (nameT r c lf)) ?_
          refine ob_i (vPick_ef (decide_eq_false hc148) _ _) ?_
          refine cnd_d (fun hg149 => ?_) (fun hg149 => ?_)
          ·skip
           refine retK (K := K) (v' := (.bool false)) rfl ?_
           exfalso
           first | exact hg149 rfl | exact hg149 (cnt_im hF t) | exact hg149 (name_im hF t) | exact hg149 (cnt_tm hF hb) | exact hg149 (pas_back hF hb) | omega | (simp [hsp, hnp] at hg149; done) | (simp [hsn, hnn] at hg149; done)
          ·skip
           refine ob_i (vInt_add (by omega) (by omega)) ?_
           exact nxt (8 - (t + 1)) (by omega) ⟨t + 1, rfl, by omega, g1L131, g5L131, g6L131, g7L131, g14L131, g16L131, g18L131, g19L131, g149L131, (congrArg (Value.int .i64) (by first | omega | rfl | (simp; done))), ou12, opf, ou23, opb, ou40, oP43, oy44, lE⟩
        ·skip
         have tt := hg132
         exact hJ51 _ _ ⟨g1L131, g5L131, g6L131, g7L131, g14L131, g18L131, g19L131, ou12, opf, ou23, opb, ou40, oP43, oy44, lE⟩
       ·skip
        refine ob_i (vPick_ef (decide_eq_false hc42) _ _) ?_
        refine cnd_t1 ?_
        exfalso
        first | exact hc48 rfl | exact hc48 (cnt_im hF t) | exact hc48 (name_im hF t) | exact hc48 (cnt_tm hF hb) | exact hc48 (pas_back hF hb) | omega | (simp [hsp, hnp] at hc48; done) | (simp [hsn, hnn] at hc48; done)
     refine ob_i (opf.fa 2) ?_
     refine ob_i (opf.ld 2 rfl) ?_
     refine ob_i (ou12.len) ?_
     refine ⟨fun n' σ' H' => ∃ i : Nat, n' = lf.length - i ∧ i ≤ lf.length ∧ σ' 1 = vm ∧ σ' 5 = (.int .i64 (r)) ∧ σ' 6 = (.int .i64 (c)) ∧ σ' 7 = pf ∧ σ' 14 = (.int .i64 (sumL (lf.take i))) ∧ σ' 109 = (.int .i64 (((lf).length : Int))) ∧ σ' 110 = (.int .i64 ((i : Int))) ∧ Own eI H' u12 (lf) ∧ Cel H' pf [(.int .i64 (r)), (.int .i64 (c)), u12] ∧ Own eI H' u23 (lf) ∧ Cel H' pb [(.int .i64 (r)), (.int .i64 (c)), u23] ∧ Le H H',
      ⟨_, 0, rfl, by omega, rfl, rfl, rfl, rfl, (congrArg (Value.int .i64) (by first | omega | rfl | (simp; done))), rfl, (congrArg (Value.int .i64) (by first | omega | rfl | (simp; done))), ou12, opf, ou23, opb, lE⟩, ?_⟩
     rintro n150 σ150 H150 ⟨i, rfl, hiN, g1L150, g5L150, g6L150, g7L150, g14L150, g109L150, g110L150, ou12, opf, ou23, opb, lE⟩
     try simp only [g7L150, g14L150, g109L150, g110L150]
     have tb := sumL_bnd (l := lf.take i) (m := 1) (fun x hx => hlf.2.2 x (List.mem_of_mem_take hx))
     have tl : (lf.take i).length ≤ 1000 := by simp; omega
     refine ob_i (vInt_lss _ _ _) ?_
     refine cnd_d (fun hg151 => ?_) (fun hg151 => ?_)
     ·skip
      have ti := hg151
      have eS := sumL_take (l := lf) (i := i) (by omega)
      have x01 := at_01 hlf.2.2 (i : Int)
      refine ob_i (opf.fa 2) ?_
      refine ob_i (opf.ld 2 rfl) ?_
      refine ob_i (ou12.sl.ix (by omega) (by omega)) ?_
      refine ob_i (ou12.sl.ld 0 (by omega) (by omega)) ?_
      refine ob_i (vInt_add (by omega) (by omega)) ?_
      refine ob_i (vInt_add (by omega) (by omega)) ?_
      exact nxt (lf.length - (i + 1)) (by omega) ⟨i + 1, rfl, by omega, g1L150, g5L150, g6L150, g7L150, (congrArg (Value.int .i64) (by first | omega | rfl | (simp; done))), g109L150, (congrArg (Value.int .i64) (by first | omega | rfl | (simp; done))), ou12, opf, ou23, opb, lE⟩
     ·skip
      have ti := hg151
      rw [List.take_of_length_le (by omega)] at *
      exact hJ37 _ _ ⟨g1L150, g5L150, g6L150, g7L150, (g14L150.trans (congrArg (Value.int .i64) (by first | omega | rfl | (simp; done)))), ou12, opf, ou23, opb, lE⟩
    ·skip
     refine ob_i (vPick_ef (decide_eq_false hc33) _ _) ?_
     refine cnd_t1 ?_
     exfalso
     first | exact hc36 rfl | exact hc36 (cnt_im hF t) | exact hc36 (name_im hF t) | exact hc36 (cnt_tm hF hb) | exact hc36 (pas_back hF hb) | omega | (simp [hsp, hnp] at hc36; done) | (simp [hsn, hnn] at hc36; done)
theorem L.FnTexts {vy vm : Value} {l m : List Int} {H : Hp} {K : Value → Hp → Prop} (h0 : Sl eU H vy l) (h1 : Sl eU H vm m) (l0 : l.length ≤ 9223372036854775807) (l1 : m.length ≤ 9223372036854775807) (b0 : bytP l) (b1 : bytP m) (hv : VR H) (hk : ∀ H', Le H H' → K (.bool true) H') : HT prg I.laws_FnTexts [vy, vm].toArray H K :=
  C.laws_FnTexts h0 h1 b0 l0 b1 l1 hv hk
end Go.Proofs.YtijmoehbgkibnaaGreatDoor
/- From a contract over a whole heap to a call's end: what the statement asks. -/
namespace Go.Proofs.YtijmoehbgkibnaaGreatDoor.HL
open Go.RowKit
/-- All of a world's blocks. -/
def whole (W : World) : Hp := fun b => W.heap[b]?
theorem whole_sub (W : World) : Sub (whole W) W := fun _ _ h => h

theorem calls_true {P : Program} {f : FuncId} {args : Array Value} {W : World} (h : HT P f args (whole W) (fun v H' => v = .bool true ∧ Le (whole W) H')) :
    Calls P f args W (fun e W' => e = .returned (.bool true) ∧ Below W.heap.size W W') := by
  refine (h W (whole_sub W)).mono ?_
  rintro e W' ⟨v, H', rfl, hs, fr, rfl, hle⟩
  refine ⟨rfl, fr.os, fr.tape, fr.output, fr.size, fun k hk => ?_⟩
  have h1 : whole W k = some W.heap[k] := by unfold whole; exact Array.getElem?_eq_getElem hk
  have h2 := hs k _ (hle k _ h1)
  rw [h2, Array.getElem?_eq_getElem hk]

/-- A row of numbers of the world, as the kit's rows tell it. -/
def IsRow (k : IntKind) (w : World) (a : Option Addr) (len cap : Nat) (zs : List Int) : Prop :=
  (a = none ∧ len = 0 ∧ cap = 0 ∧ zs = []) ∨
  ∃ x, a = some x ∧ len ≤ cap ∧ cap ≤ maxLen ∧ zs.length = cap ∧ (∀ i, i < zs.length → w.cell? (x.add i) = some (.int k (zs.getD i 0))) ∧ ∀ n ∈ zs, (Lit.int k n).wf = true

end Go.Proofs.YtijmoehbgkibnaaGreatDoor.HL
/- A statement's bytes. -/
namespace Go.Proofs.YtijmoehbgkibnaaGreatDoor.HL
theorem slU_of_row {W : World} {a : Option Addr} {len cap : Nat} {zs : List Int} (h : IsRow .u8 W a len cap zs) : Sl eU (whole W) (.slice a len cap) (zs.take len) := by
  rcases h with ⟨rfl, rfl, rfl, rfl⟩ | ⟨x, rfl, h1, _, h3, h4, _⟩
  · exact Sl.nil 0 none
  · have hlen : (zs.take len).length = len := by simp; omega
    refine ⟨some x, cap, by rw [hlen], by omega, fun i hi => ⟨x, rfl, ?_⟩⟩
    have hi' : i < zs.length := by simp at hi; omega
    have := h4 i hi'
    rw [List.getElem_take]
    rw [List.getD_eq_getElem?_getD, List.getElem?_eq_getElem hi'] at this
    exact this
theorem rowU_max {W : World} {a : Option Addr} {len cap : Nat} {zs : List Int} (h : IsRow .u8 W a len cap zs) : (zs.take len).length ≤ 9223372036854775807 := by
  rcases h with ⟨rfl, rfl, rfl, rfl⟩ | ⟨x, rfl, h1, h2, h3, _, _⟩
  · simp
  · have : maxLen = 9223372036854775807 := by decide
    simp; omega
theorem rowU_byt {W : World} {a : Option Addr} {len cap : Nat} {zs : List Int} (h : IsRow .u8 W a len cap zs) : bytP (zs.take len) := by
  rcases h with ⟨rfl, rfl, rfl, rfl⟩ | ⟨x, rfl, h1, h2, h3, _, hw⟩
  · intro y hy; simp at hy
  · intro y hy
    have := hw y (List.mem_of_mem_take hy)
    unfold Lit.wf at this
    simp [IntKind.min, IntKind.max, IntKind.signed, IntKind.bits] at this
    omega
end Go.Proofs.YtijmoehbgkibnaaGreatDoor.HL
/- The library's variables, as the law's own world has them; the wrap that hands on that world's shape. -/
namespace Go.Proofs.YtijmoehbgkibnaaGreatDoor
open HL Go
theorem cell_up {W w : World} (hw : Sub (whole W) w) {g : Nat} {v : Value} (h : W.cell? ⟨g, 0, none⟩ = some v) : w.cell? ⟨g, 0, none⟩ = some v := by
  unfold World.cell? at h ⊢
  cases ho : W.heap[g]? with
  | none => simp [ho] at h
  | some o =>
    have := hw g o ho
    simp only [ho] at h
    simp only [this]
    exact h
theorem var_up {W w : World} (hw : Sub (whole W) w) {n : String} {cs : Array Value} (h : W.var? Tryz.prog n = some cs) : w.var? Tryz.prog n = some cs := by
  unfold World.var? at h ⊢
  cases hg : Tryz.prog.globalNamed n with
  | none => simp [hg] at h
  | some g =>
    simp only [hg, Option.bind_some] at h ⊢
    cases ho : W.heap[g]? with
    | none => simp [ho] at h
    | some o =>
      have := hw g o ho
      simp only [ho] at h
      simp only [this]
      exact h
theorem cell_of_var {W : World} {n : String} {g : Nat} {v : Value} (hg : Tryz.prog.globalNamed n = some g) (h : W.var? Tryz.prog n = some #[v]) : W.cell? ⟨g, 0, none⟩ = some v := by
  unfold World.var? at h
  simp only [hg, Option.bind_some] at h
  unfold World.cell?
  cases ho : W.heap[g]? with
  | none => simp [ho] at h
  | some o =>
    simp only [ho] at h ⊢
    cases o <;> simp_all
theorem star_es : "*" ++ "errors.errorString" = "*errors.errorString" := by decide
theorem row_es (u : TypeId) (h : Tryz.prog.typeName? 3 u = some "*errors.errorString") : u = 154 :=
  typeName_ptr_named (nm := "errors.errorString") (by rw [star_es]; kernel_rfl) (by kernel_rfl) (by decide) u (by rw [star_es]; exact h)
theorem vr_of {W : World} (hsh : W.ShapedOpen Tryz.prog) (hL : laidMetH Tryz.prog Rows.fnTextsRow.laid W) : VR (whole W) := fun w hw => by
  have hM : laidMet Tryz.prog Rows.fnTextsRow.laid W := hL
  obtain ⟨m, hm⟩ := Tryz.laysM145.s1_3 W hsh
  obtain ⟨a0, s0, hv0, -, -, -⟩ := laid_sentinel hM.tail.tail.tail.tail.tail (by kernel_rfl : Tryz.prog.globalNamed "strconv.ErrSyntax" = some 1) (by kernel_rfl : (Tryz.prog.globals[1]?).map (·.type) = some 85) Tryz.underlying85 row_es Tryz.underlying154 Tryz.underlying156 rfl rfl Tryz.underlying9 (by kernel_rfl) (by kernel_rfl)
  obtain ⟨a1, s1, hv1, -, -, -⟩ := laid_sentinel hM.tail.tail.tail.tail (by kernel_rfl : Tryz.prog.globalNamed "strconv.ErrRange" = some 2) (by kernel_rfl : (Tryz.prog.globals[2]?).map (·.type) = some 85) Tryz.underlying85 row_es Tryz.underlying154 Tryz.underlying156 rfl rfl Tryz.underlying9 (by kernel_rfl) (by kernel_rfl)
  have ht : Go.Lib.TabIs Tryz.prog W "internal/strconv.uint64pow10" .u64 Go.Lib.pow10Tab := Go.Lib.tabIs_of_head (g := 3) (t := 151) (by kernel_rfl) (by kernel_rfl) Tryz.underlying151 Tryz.underlying73 (by kernel_rfl) (by kernel_rfl) hM.tail.tail
  exact ⟨⟨m, cell_up hw hm⟩, ⟨_, _, cell_up hw (cell_of_var (by kernel_rfl) hv0)⟩, ⟨_, _, cell_up hw (cell_of_var (by kernel_rfl) hv1)⟩, var_up hw ht⟩
theorem returnsInHanded_and_shaped {H : Type} {enc : TypeId × Value → H} {a : Assume} {C : Checked} {os : Os} {f : FuncId} {fn : Func} {s : ChangeSpec} {conds : List PathCond} {apart fresh handsOn again : Bool} {X : World → Array Value → Prop}
    (hX : ∀ (w w' : World) (args : Array Value), w.heap = w'.heap → X w args → X w' args)
    (own : ownKnob C.prog.godebug = none) (started : os.Started) (noInit : C.prog.inits.idxOf? f = none) (hfn : C.prog.funcs[f]? = some fn)
    (witness : ∃ (w : World) (tape : Tape) (i : Input), w.os = os ∧ (w.forCall tape i).Shaped C.prog ∧ i.vars = [] ∧ Input.okWide C.prog (w.forCall tape i) .any w.heap.size f i ∧
      ((s.pre enc C.prog fn conds apart (w.forCall tape i).memory i.args ∧ X (w.forCall tape i).memory i.args) ∧ sizedMet enc C.prog fn (OpenSpec.ofChange s) apart (w.forCall tape i).memory i.args) ∧ a.holds C.prog (lone (Frame.enter C.prog f i.args .normal) [] (w.forCall tape i)))
    (contract : ∀ (W : World) (base : Nat) (args : Array Value) (ds gs : List (DataW H)) (before : List MemPlace),
      (∀ (j : Nat) t v, fn.params[j]? = some t → args[j]? = some v → Value.okWide C.prog W .any base t v) →
      DataW.Whole enc C.prog fn.params.toList s.vars apart W args.toList ds gs before →
      conds.all (PathCond.test C.prog ⟨fn.params.toList, ds, s.plain.varTypes C.prog, gs⟩) = true →
      (DataW.weightsEach C.prog (fn.params.toList ++ s.plain.varTypes C.prog) (ds ++ gs)).all (· ≤ reachBytes) = true → X W args → W.ShapedOpen C.prog →
      Calls C.prog f args W fun e W' => ∃ v, e = .returned v ∧ s.post enc C.prog fn apart fresh handsOn again W args v W') :
    ReturnsInHanded a C os f .any (fun w args => (s.pre enc C.prog fn conds apart w args ∧ X w args) ∧ sizedMet enc C.prog fn (OpenSpec.ofChange s) apart w args) (s.post enc C.prog fn apart fresh handsOn again) := by
  refine returnsInHanded_of_calls own started noInit witness ?_
  intro w tape i _ hsh _ hok hpre _
  obtain ⟨_, _, _, fn', hfn', _, _, _, _, hval⟩ := hok
  have e : fn' = fn := Option.some.inj (hfn'.symm.trans hfn)
  subst e
  obtain ⟨⟨⟨ds, gs, before, hw, hc⟩, hx⟩, hz⟩ := hpre
  have hw' := DataW.Whole.of_heap (w' := w.forCall tape i) (by rfl) hw
  refine (contract (w.forCall tape i) w.heap.size i.args ds gs before hval hw' hc (hz.weights hw) (hX _ _ _ (by rfl) hx) hsh).mono fun e W' ⟨v, he, hp⟩ => ?_
  subst he
  exact ChangeSpec.post_blind hp
end Go.Proofs.YtijmoehbgkibnaaGreatDoor
