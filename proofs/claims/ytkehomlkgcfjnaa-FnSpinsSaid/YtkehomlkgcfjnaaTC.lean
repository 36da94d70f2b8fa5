/- Fields that are made by a function of rows and columns, and fields that grow. -/
import Derived.Test.YtkehomlkgcfjnaaTA
namespace Go.Proofs.Ytkehomlkgcfjnaa
open HL
set_option maxRecDepth 100000
theorem Apart.app {H : Hp} {x u u' : Value} (hx : ∀ b, bk x = some b → ∃ o, H b = some o) (ha : Apart x u) (hb : ∀ b, bk u' = some b → bk u = some b ∨ H b = none) : Apart x u' := fun b h1 h2 => by
  rcases hb b h2 with h | h
  · exact ha b h1 h
  · obtain ⟨o, ho⟩ := hx b h1; rw [h] at ho; simp at ho
theorem Nw.app {H0 H : Hp} {u u' : Value} (hn : Nw H0 u) (hl : Le H0 H) (hb : ∀ b, bk u' = some b → bk u = some b ∨ H b = none) : Nw H0 u' := fun b h => by
  rcases hb b h with h1 | h1
  · exact hn b h1
  · cases ho : H0 b with
    | none => rfl
    | some o => rw [hl b o ho] at h1; simp at h1
theorem apd_one {α : Type} {enc : α → Value} {z : Value} {b : Nat} {e : TypeId} {u t : Value} {x : α} {l : List α} {H : Hp} {K : Value → Hp → Prop} (o : Own enc H u l) (ot : Sl enc H t [x]) (ho : ∀ x, oneCell (enc x) = true) (hb : b ≤ 64) (hl : l.length ≤ 68719476736)
    (hk : ∀ u' H', Own enc H' u' (l ++ [x]) → Off u H H' → (∀ b, bk u' = some b → bk u = some b ∨ H b = none) → K u' H') : apd 1 b #[z] e u t H K := by
  refine o.apd ot ho (by simp; omega) (fun c hc => ?_) hk
  have := nsc_le hc
  simp only [List.length_singleton] at this ⊢
  exact Nat.le_trans (Nat.mul_le_mul this hb) (by omega)
theorem bS_i {α : Type} {enc : α → Value} {len : Nat} {z : Value} {e : TypeId} {parts : List (Nat × Value)} {l : List α} {H : Hp} {K : Value → Hp → Prop} (h1 : len ≤ 1000) (hl : l.length = len)
    (hf : Instr.fill (fun i => some (i * 1, 1)) (if len * 1 = 0 then #[] else zrow #[z] (len * 1)) parts = some (l.map enc).toArray) (hk : ∀ v H', Own enc H' v l → Nw H v → Le H H' → K v H') : bS 1 len #[z] e parts H K := by
  refine ⟨by omega, ?_⟩
  rw [hf]
  intro r hr
  subst hl
  refine hk _ _ ⟨some ⟨r, 0, none⟩, l.length, rfl, Nat.le_refl _, fun _ => ⟨r, 0, _, e, rfl, Hp.put_same _ _ _, by simp, fun i hi => by simp [hi]⟩⟩ ?_ (Le.put _ hr)
  intro b hb
  simp only [bk] at hb
  split at hb
  · simp at hb
  · simp only [Option.some.injEq] at hb; subst hb; exact hr
/-- A field's cells, row by row, by a function. -/
def mkL (c : Int) (g : Int → Int → Int) (n : Nat) : List Int := (List.range n).map fun (t : Nat) => g ((t : Int) / c) ((t : Int) % c)
theorem mkL_length (c : Int) (g : Int → Int → Int) (n : Nat) : (mkL c g n).length = n := by simp [mkL]
theorem mkL_succ (c : Int) (g : Int → Int → Int) (n : Nat) : mkL c g (n + 1) = mkL c g n ++ [g ((n : Int) / c) ((n : Int) % c)] := by simp [mkL, List.range_succ]
theorem divmod {c : Int} {i k : Int} (hc : 0 < c) (k0 : 0 ≤ k) (k1 : k < c) : (i * c + k) / c = i ∧ (i * c + k) % c = k := by
  constructor
  · rw [Int.add_comm, Int.add_mul_ediv_right _ _ (by omega), Int.ediv_eq_zero_of_lt k0 k1]; omega
  · rw [Int.add_comm, Int.add_mul_emod_self_right, Int.emod_eq_of_lt k0 k1]
theorem cast_ix {c : Int} {i k : Nat} (hc : 0 ≤ c) : ((i * c.toNat + k : Nat) : Int) = i * c + k := by rw [Int.natCast_add, Int.natCast_mul, Int.toNat_of_nonneg hc]
theorem C.impl_madeField {fv : Value} {rr cc : Int} {g : Int → Int → Int} {H : Hp} {K : Value → Hp → Prop} (r1 : 0 ≤ rr) (r2 : rr ≤ 1000) (c1 : 1 ≤ cc) (c2 : cc ≤ 1000)
    (hcl : ∀ H' (i k : Nat) (Z : Value → Hp → Prop), Le H H' → (i : Int) < rr → (k : Int) < cc → (∀ H'', Le H' H'' → Z (.int .i64 (g i k)) H'') → callV prg fv [.int .i64 i, .int .i64 k] H' Z)
    (hk : ∀ u H', Own eI H' u (mkL cc g (rr.toNat * cc.toNat)) → Nw H u → Le H H' → K (.agg #[.int .i64 rr, .int .i64 cc, u]) H') :
    HT prg I.impl_madeField [.int .i64 rr, .int .i64 cc, fv].toArray H K := by
  refine R.impl_madeField ?_
  unfold F.impl_madeField
  refine nw_i (fun q H1 oq nq le1 => ?_)
  replace oq : Cel H1 q [.int .i64 0, .int .i64 0, .slice none 0 0] := oq
  refine ob_i (a := .agg #[.int .i64 rr, .int .i64 cc, .slice none 0 0]) rfl ?_
  refine nw_i (fun s H2 os ns le2 => ?_)
  have aqs : Apart q s := oq.apart ns
  replace oq := oq.le le2
  have ns0 : Nw H s := ns.le le1
  have nq0 : Nw H q := nq
  refine os.stn (ws := [.int .i64 rr, .int .i64 cc, .slice none 0 0]) rfl rfl (by simp [oneCell]) (fun H3 os off3 => ?_)
  replace oq := oq.off off3 aqs
  have leB : Le H H3 := off3.le (le1.trans le2) ns0
  refine jn_i (fun σ' H' => σ' 6 = q ∧ σ' 7 = s ∧ Cel H' q [.int .i64 0, .int .i64 0, .slice none 0 0] ∧ Le H H' ∧ ∃ u, Cel H' s [.int .i64 rr, .int .i64 cc, u] ∧ Own eI H' u (mkL cc g (rr.toNat * cc.toNat)) ∧ Nw H u ∧ Apart q u) (fun σ' H' hP => ?_) (fun J7 hJ7 => ?_)
  · obtain ⟨g6, g7, oq, le, u, os, ou, nu, aqu⟩ := hP
    rw [g6, g7]
    refine ob_i (os.ldn rfl) ?_
    refine oq.stn (ws := [.int .i64 rr, .int .i64 cc, u]) rfl rfl (oc1 rfl (oc1 rfl (oc1 ou.one oc0))) (fun H6 oq off6 => ?_)
    refine ob_i (oq.ldn rfl) ?_
    exact hk u H6 (ou.off off6 aqu.symm) nu (off6.le le nq0)
  refine ⟨fun n σ H4 => ∃ i : Nat, n = rr.toNat - i ∧ (i : Int) ≤ rr ∧ σ 1 = .int .i64 cc ∧ σ 2 = fv ∧ σ 6 = q ∧ σ 7 = s ∧ σ 13 = .int .i64 rr ∧ σ 14 = .int .i64 i ∧ Cel H4 q [.int .i64 0, .int .i64 0, .slice none 0 0] ∧ Le H H4 ∧
      ∃ u, Cel H4 s [.int .i64 rr, .int .i64 cc, u] ∧ Own eI H4 u (mkL cc g (i * cc.toNat)) ∧ Nw H u ∧ Apart q u ∧ Apart s u,
    ⟨_, 0, rfl, by omega, rfl, rfl, rfl, rfl, rfl, rfl, oq, leB, .slice none 0 0, os, by rw [Nat.zero_mul]; exact Own.nil_of none, fun b hb => by simp [bk] at hb, fun b _ hb => by simp [bk] at hb, fun b _ hb => by simp [bk] at hb⟩, ?_⟩
  rintro n σ H4 ⟨i, rfl, hiR, g1, g2, g6, g7, g13, g14, oq, le4, hu⟩
  simp only [g1, g13, g14, vInt_lss, ob_some]
  refine cnd_d (fun hlt => ?_) (fun hge => ?_)
  · refine jn_i (fun σ' H' => σ' 1 = .int .i64 cc ∧ σ' 2 = fv ∧ σ' 6 = q ∧ σ' 7 = s ∧ σ' 13 = .int .i64 rr ∧ σ' 14 = .int .i64 i ∧ Cel H' q [.int .i64 0, .int .i64 0, .slice none 0 0] ∧ Le H H' ∧
        ∃ u, Cel H' s [.int .i64 rr, .int .i64 cc, u] ∧ Own eI H' u (mkL cc g ((i + 1) * cc.toNat)) ∧ Nw H u ∧ Apart q u ∧ Apart s u) (fun σ' H' hP => ?_) (fun J13 hJ13 => ?_)
    · obtain ⟨z1, z2, z6, z7, z13, z14, zq, zle, zu⟩ := hP
      rw [z14, vInt_add (by omega) (by omega), ob_some]
      exact nxt (rr.toNat - (i + 1)) (by omega) ⟨i + 1, rfl, by omega, z1, z2, z6, z7, z13, rfl, zq, zle, zu⟩
    refine ⟨fun n σ H5 => ∃ k : Nat, n = cc.toNat - k ∧ (k : Int) ≤ cc ∧ σ 1 = .int .i64 cc ∧ σ 2 = fv ∧ σ 6 = q ∧ σ 7 = s ∧ σ 13 = .int .i64 rr ∧ σ 14 = .int .i64 i ∧ σ 8 = .int .i64 i ∧ σ 17 = .int .i64 cc ∧ σ 18 = .int .i64 k ∧ Cel H5 q [.int .i64 0, .int .i64 0, .slice none 0 0] ∧ Le H H5 ∧
        ∃ u, Cel H5 s [.int .i64 rr, .int .i64 cc, u] ∧ Own eI H5 u (mkL cc g (i * cc.toNat + k)) ∧ Nw H u ∧ Apart q u ∧ Apart s u,
      ⟨_, 0, rfl, by omega, g1, g2, g6, g7, g13, g14, rfl, rfl, rfl, oq, le4, hu⟩, ?_⟩
    rintro n σ H5 ⟨k, rfl, hkC, z1, z2, z6, z7, z13, z14, z8, z17, z18, zq, le5, u, zs, zu, nu, aqu, asu⟩
    simp only [z2, z7, z8, z17, z18, vInt_lss, ob_some]
    refine cnd_d (fun hkl => ?_) (fun hkg => ?_)
    · simp only [zs.fa, zs.ld 2 rfl, ob_some]
      refine hcl H5 i k _ le5 hlt hkl (fun H6 le6 => ⟨le6, ?_⟩)
      refine bS_i (enc := eI) (l := [g i k]) (by omega) rfl (by kernel_rfl) (fun t H7 ot nt le7 => ?_)
      have le57 := le6.trans le7
      replace zq := zq.le le57
      replace zs := zs.le le57
      replace zu := zu.le le57
      have leB7 := le5.trans le57
      have hlen : (mkL cc g (i * cc.toNat + k)).length ≤ 68719476736 := by
        rw [mkL_length]
        have : i * cc.toNat ≤ 1000 * 1000 := Nat.mul_le_mul (by omega) (by omega)
        omega
      refine apd_one zu ot.sl (fun _ => rfl) (by omega) hlen (fun u' H8 ou' off8 hbk => ?_)
      have aqu' : Apart q u' := Apart.app zq.known aqu hbk
      have asu' : Apart s u' := Apart.app zs.known asu hbk
      have nu' : Nw H u' := Nw.app nu leB7 hbk
      replace zq := zq.off off8 aqu
      replace zs := zs.off off8 asu
      have leB8 : Le H H8 := off8.le leB7 nu
      refine zs.st (by simp) ou'.one ou'.cells (fun H9 os9 off9 => ?_)
      rw [vInt_add (by omega) (by omega), ob_some]
      refine nxt (cc.toNat - (k + 1)) (by omega) ⟨k + 1, rfl, by omega, z1, z2, z6, z7, z13, z14, z8, z17, rfl, zq.off off9 aqs, off9.le leB8 ns0, u', os9, ?_, nu', aqu', asu'⟩
      have hd := divmod (c := cc) (i := i) (k := k) (by omega) (by omega) hkl
      rw [← Nat.add_assoc, mkL_succ, cast_ix (by omega), hd.1, hd.2]
      exact ou'.off off9 asu'.symm
    · have e : k = cc.toNat := by omega
      refine hJ13 _ _ ⟨z1, z2, z6, z7, z13, z14, zq, le5, u, zs, ?_, nu, aqu, asu⟩
      rw [Nat.add_mul, Nat.one_mul, ← e]; rw [← e] at zu; exact zu
  · have e : i = rr.toNat := by omega
    subst e
    obtain ⟨u, os, ou, nu, aqu, asu⟩ := hu
    exact hJ7 _ _ ⟨g6, g7, oq, le4, u, os, ou, nu, aqu⟩
/-- A cell, or 0 beyond the border. -/
def flatF (r c : Int) (l : List Int) (i k : Int) : Int := if (0 ≤ i ∧ i ≤ r - 1) ∧ 0 ≤ k ∧ k ≤ c - 1 then at_ 0 l (i * c + k) else 0
theorem C.impl_Field_has {vc : Value} {r c i k : Int} {H : Hp} {K : Value → Hp → Prop} (hs : sidesF r c) (hk : ∀ H', Le H H' → K (.bool (decide ((0 ≤ i ∧ i ≤ r - 1) ∧ 0 ≤ k ∧ k ≤ c - 1))) H') :
    HT prg I.impl_Field_has [.agg #[.int .i64 r, .int .i64 c, vc], .int .i64 i, .int .i64 k].toArray H K := by
  refine R.impl_Field_has ?_
  unfold F.impl_Field_has
  refine nw_i (fun p H1 hp np le1 => ?_)
  replace hk := hk H1 le1
  have q1 := hs.1
  have q2 := hs.2
  simp only [hp.fa, hp.ld 0 rfl, ob_some]
  rw [vInt_sub (by omega) (by omega), ob_some]
  refine C.impl_within ?_
  by_cases c1 : 0 ≤ i ∧ i ≤ r - 1
  · simp only [decide_eq_true c1, hp.fa, hp.ld 1 rfl, EV]
    rw [vInt_sub (by omega) (by omega), ob_some]
    refine C.impl_within ?_
    exact kQ (K := K) hk ⟨fun h => h.2, fun h => ⟨c1, h⟩⟩
  · simp only [decide_eq_false c1, EV]; exact kF (K := K) hk (fun h => c1 h.1)
theorem C.look_flat {vc : Value} {r c i k : Int} {l : List Int} {H : Hp} {K : Value → Hp → Prop} (hc : Sl eI H vc l) (hs : sidesF r c) (hl : (l.length : Int) = r * c)
    (hk : ∀ H', Le H H' → K (.int .i64 (flatF r c l i k)) H') : HT prg I.impl_Field_look [.agg #[.int .i64 r, .int .i64 c, vc], .int .i64 i, .int .i64 k, .bool false].toArray H K := by
  refine R.impl_Field_look ?_
  unfold F.impl_Field_look
  refine nw_i (fun p H1 hp np le1 => ?_)
  refine cnd_f1 ?_
  refine ob_i (hp.ldn rfl) ?_
  refine C.impl_Field_has hs (fun H2 le2 => ?_)
  rw [vUn_not, ob_some]
  have m := sidesF_mul hs
  by_cases c1 : (0 ≤ i ∧ i ≤ r - 1) ∧ 0 ≤ k ∧ k ≤ c - 1
  · have hk' := fun H' h => hk H' h
    simp only [flatF, c1, and_self, if_true] at hk'
    simp only [decide_eq_true c1, EV]
    refine ob_i ((hp.le le2).ldn rfl) ?_
    have a1 := Int.mul_nonneg (a := i) (b := c) (by omega) (by have := hs.2; omega)
    have a2 := Int.mul_le_mul (a := i) (b := c) (c := r - 1) (d := c) (by omega) (by omega) (by have := hs.2; omega) (by have := hs.1; omega)
    rw [Int.sub_mul] at a2
    refine C.impl_Field_at (hc.le (le1.trans le2)) (by omega) (by have := hs.2; omega) (by omega) (by rw [hl]; omega) (by omega) (fun H3 le3 => ?_)
    exact hk' _ ((le1.trans le2).trans le3)
  · have h1 := hk H2 (le1.trans le2)
    simp only [flatF, c1, if_false] at h1
    simp only [decide_eq_false c1, EV]; exact h1
end Go.Proofs.Ytkehomlkgcfjnaa
