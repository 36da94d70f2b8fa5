/- Fields that are drawn. -/
import Derived.Test.YthbffbpdoankjaaUQ
import Derived.Test.YthbffbpdoankjaaFA
namespace Go.Proofs.Ythbffbpdoankjaa
open HL
set_option maxRecDepth 100000
def HL.fLt (x y : Nat) : Bool := FloatKind.f32.format.order x y == some .lt
theorem HL.vF_lss (x y : Nat) : vFcmp .lss (.float .f32 x) (.float .f32 y) = some (.bool (fLt x y)) := by simp [vFcmp, fLt]
def HL.fLe (x y : Nat) : Bool := FloatKind.f32.format.order x y == some .lt || FloatKind.f32.format.order x y == some .eq
theorem HL.vF_leq (x y : Nat) : vFcmp .leq (.float .f32 x) (.float .f32 y) = some (.bool (fLe x y)) := by simp [vFcmp, fLe]
def HL.fGt (x y : Nat) : Bool := FloatKind.f32.format.order x y == some .gt
theorem HL.vF_gtr (x y : Nat) : vFcmp .gtr (.float .f32 x) (.float .f32 y) = some (.bool (fGt x y)) := by simp [vFcmp, fGt]
def HL.fGe (x y : Nat) : Bool := FloatKind.f32.format.order x y == some .gt || FloatKind.f32.format.order x y == some .eq
theorem HL.vF_geq (x y : Nat) : vFcmp .geq (.float .f32 x) (.float .f32 y) = some (.bool (fGe x y)) := by simp [vFcmp, fGe]
/-- A share: from 0 to 1. -/
def shrP (x : Nat) : Prop := fGe x 0 = true ∧ fLe x 1065353216 = true
instance (x : Nat) : Decidable (shrP x) := by unfold shrP; infer_instance
/-- Less, where one side may be no number. -/
def fLtO (o : Option Nat) (y : Nat) : Bool := match o with | some r => fLt r y | none => false
theorem fLtO_of {o : Option Nat} {z y : Nat} (h : FR .f32 o z) : fLt z y = fLtO o y := by
  cases o with
  | some r => simp only [FR] at h; subst h; rfl
  | none =>
    simp only [FR] at h
    unfold fLtO fLt
    rw [order_nan h]; rfl
/-- The next seed, and the one behind some draws. -/
def nxS (x : Int) : Int := (1664525 * x + 1013904223) % 4294967296
def sdS (x : Int) : Nat → Int
  | 0 => x
  | n + 1 => nxS (sdS x n)
theorem sdS_bnd {x : Int} (h0 : 0 ≤ x) (h1 : x ≤ 4294967295) : ∀ n, 0 ≤ sdS x n ∧ sdS x n ≤ 4294967295
  | 0 => ⟨h0, h1⟩
  | n + 1 => by simp only [sdS, nxS]; omega
def shB (x : Int) (sh : Nat) : Bool := fLtO (FloatKind.f32.format.div (FloatKind.f32.nearest (x / 256)) 1266679808) sh
def drG (c x : Int) (sh : Nat) (i k : Int) : Int := if shB (sdS x ((i * c + k).toNat + 1)) sh = true then 1 else 0
def drL (r c x : Int) (sh : Nat) : List Int := mkL c (drG c x sh) (r.toNat * c.toNat)
def drP (r c x : Int) (sh : Nat) : Prop := sidesF r c ∧ shrP sh ∧ 0 ≤ x ∧ x ≤ 4294967295
instance (r c x : Int) (sh : Nat) : Decidable (drP r c x sh) := by unfold drP; infer_instance
theorem drL_field {r c x : Int} {sh : Nat} (h : sidesF r c) : fieldN 1 r c (drL r c x sh) := mkL_field h (fun i k => by unfold drG; split <;> omega)
theorem dr_ix {c x : Int} {sh : Nat} {t : Nat} (hc : 0 < c) : drG c x sh ((t : Int) / c) ((t : Int) % c) = if shB (sdS x (t + 1)) sh = true then 1 else 0 := by
  unfold drG
  have h : ((t : Int) / c * c + (t : Int) % c).toNat = t := by
    have := Int.mul_ediv_add_emod (t : Int) c
    rw [Int.mul_comm] at this; omega
  rw [h]
theorem fillL_set1 {c : Int} {g : Int → Int → Int} {N t : Nat} : (fillL c g N t).set t (g ((t : Int) / c) ((t : Int) % c)) = fillL c g N (t + 1) := by
  apply List.ext_getElem?
  intro j
  rw [List.getElem?_set]
  simp only [fillL, List.getElem?_map, List.length_map, List.length_range]
  by_cases hj : j < N
  · rw [List.getElem?_range hj]
    simp only [Option.map_some]
    by_cases e : t = j
    · subst e; rw [if_pos rfl, if_pos hj, if_pos (by omega)]
    · rw [if_neg e]
      by_cases h1 : j < t
      · rw [if_pos h1, if_pos (by omega)]
      · rw [if_neg h1, if_neg (by omega)]
  · rw [List.getElem?_eq_none (by simpa using hj)]
    simp only [Option.map_none]
    split
    · rw [if_neg (by omega)]
    · rfl
theorem fillL_skip1 {c : Int} {g : Int → Int → Int} {N t : Nat} (h : g ((t : Int) / c) ((t : Int) % c) = 0) : fillL c g N t = fillL c g N (t + 1) := by
  unfold fillL
  apply List.map_congr_left
  intro j _
  by_cases e : j = t
  · subst e; rw [if_neg (by omega), if_pos (by omega), h]
  · by_cases h1 : j < t
    · rw [if_pos h1, if_pos (by omega)]
    · rw [if_neg h1, if_neg (by omega)]
theorem HL.Off.lex {p q : Value} {H H' H'' : Hp} (h : Off p H H') (h2 : Off q H' H'') (hn : Nw H q) : Off p H H'' := fun b o hb hp => h2 b o (h b o hb hp) (fun e => by have := hn b e; rw [this] at hb; simp at hb)
theorem HL.Off.lel {p : Value} {H H' H'' : Hp} (h : Off p H H') (h2 : Le H' H'') : Off p H H'' := fun b o hb hp => h2 b o (h b o hb hp)
theorem C.impl_madeField_cell {fv p : Value} {rr cc : Int} {g : Int → Int → Int} {sd : Nat → Int} {H : Hp} {K : Value → Hp → Prop} (r1 : 0 ≤ rr) (r2 : rr ≤ 1000) (c1 : 1 ≤ cc) (c2 : cc ≤ 1000) (hp : Cel H p [.int .i64 (sd 0)])
    (hcl : ∀ H' (i k : Nat) (Z : Value → Hp → Prop), Off p H H' → Cel H' p [.int .i64 (sd (i * cc.toNat + k))] → (i : Int) < rr → (k : Int) < cc → (∀ H'', Cel H'' p [.int .i64 (sd (i * cc.toNat + k + 1))] → Off p H' H'' → Z (.int .i64 (g i k)) H'') → callV prg fv [.int .i64 i, .int .i64 k] H' Z)
    (hk : ∀ u H', Own eI H' u (mkL cc g (rr.toNat * cc.toNat)) → Nw H u → Cel H' p [.int .i64 (sd (rr.toNat * cc.toNat))] → Off p H H' → K (.agg #[.int .i64 rr, .int .i64 cc, u]) H') :
    HT prg I.impl_madeField [.int .i64 rr, .int .i64 cc, fv].toArray H K := by
  refine R.impl_madeFieldX ?_
  unfold F.impl_madeFieldX
  refine nw_i (fun q H1 oq nq le1 => ?_)
  replace oq : Cel H1 q [.int .i64 0, .int .i64 0, .slice none 0 0] := oq
  refine ob_i (a := .agg #[.int .i64 rr, .int .i64 cc, .slice none 0 0]) rfl ?_
  have apq : Apart p q := hp.apart nq
  refine nw_i (fun s H2 os ns le2 => ?_)
  have aqs : Apart q s := oq.apart ns
  have aps : Apart p s := (hp.le le1).apart ns
  replace oq := oq.le le2
  have ns0 : Nw H s := ns.le le1
  have nq0 : Nw H q := nq
  refine os.stn (ws := [.int .i64 rr, .int .i64 cc, .slice none 0 0]) rfl rfl (by simp [oneCell]) (fun H3 os off3 => ?_)
  replace oq := oq.off off3 aqs
  have op : Cel H3 p [.int .i64 (sd 0)] := ((hp.le le1).le le2).off off3 aps
  have ofB : Off p H H3 := ((Off.of_le (le1.trans le2)).lex off3 ns0)
  refine jn_i (fun σ' H' => σ' 6 = q ∧ σ' 7 = s ∧ Cel H' q [.int .i64 0, .int .i64 0, .slice none 0 0] ∧ Cel H' p [.int .i64 (sd (rr.toNat * cc.toNat))] ∧ Off p H H' ∧ ∃ u, Cel H' s [.int .i64 rr, .int .i64 cc, u] ∧ Own eI H' u (mkL cc g (rr.toNat * cc.toNat)) ∧ Nw H u ∧ Apart q u) (fun σ' H' hP => ?_) (fun J7 hJ7 => ?_)
  · obtain ⟨g6, g7, oq, op, off, u, os, ou, nu, aqu⟩ := hP
    rw [g6, g7]
    refine ob_i (os.ldn rfl) ?_
    refine oq.stn (ws := [.int .i64 rr, .int .i64 cc, u]) rfl rfl (oc1 rfl (oc1 rfl (oc1 ou.one oc0))) (fun H6 oq off6 => ?_)
    refine ob_i (oq.ldn rfl) ?_
    exact hk u H6 (ou.off off6 aqu.symm) nu (op.off off6 apq) (off.lex off6 nq0)
  refine ⟨fun n σ H4 => ∃ i : Nat, n = rr.toNat - i ∧ (i : Int) ≤ rr ∧ σ 1 = .int .i64 cc ∧ σ 2 = fv ∧ σ 6 = q ∧ σ 7 = s ∧ σ 13 = .int .i64 rr ∧ σ 14 = .int .i64 i ∧ Cel H4 q [.int .i64 0, .int .i64 0, .slice none 0 0] ∧ Cel H4 p [.int .i64 (sd (i * cc.toNat))] ∧ Off p H H4 ∧
      ∃ u, Cel H4 s [.int .i64 rr, .int .i64 cc, u] ∧ Own eI H4 u (mkL cc g (i * cc.toNat)) ∧ Nw H u ∧ Apart q u ∧ Apart s u,
    ⟨_, 0, rfl, by omega, rfl, rfl, rfl, rfl, rfl, rfl, oq, by rw [Nat.zero_mul]; exact op, ofB, .slice none 0 0, os, by rw [Nat.zero_mul]; exact Own.nil_of none, fun b hb => by simp [bk] at hb, fun b _ hb => by simp [bk] at hb, fun b _ hb => by simp [bk] at hb⟩, ?_⟩
  rintro n σ H4 ⟨i, rfl, hiR, g1, g2, g6, g7, g13, g14, oq, op, of4, hu⟩
  simp only [g1, g13, g14, vInt_lss, ob_some]
  refine cnd_d (fun hlt => ?_) (fun hge => ?_)
  · refine jn_i (fun σ' H' => σ' 1 = .int .i64 cc ∧ σ' 2 = fv ∧ σ' 6 = q ∧ σ' 7 = s ∧ σ' 13 = .int .i64 rr ∧ σ' 14 = .int .i64 i ∧ Cel H' q [.int .i64 0, .int .i64 0, .slice none 0 0] ∧ Cel H' p [.int .i64 (sd ((i + 1) * cc.toNat))] ∧ Off p H H' ∧
        ∃ u, Cel H' s [.int .i64 rr, .int .i64 cc, u] ∧ Own eI H' u (mkL cc g ((i + 1) * cc.toNat)) ∧ Nw H u ∧ Apart q u ∧ Apart s u) (fun σ' H' hP => ?_) (fun J13 hJ13 => ?_)
    · obtain ⟨z1, z2, z6, z7, z13, z14, zq, zp, zof, zu⟩ := hP
      rw [z14, vInt_add (by omega) (by omega), ob_some]
      exact nxt (rr.toNat - (i + 1)) (by omega) ⟨i + 1, rfl, by omega, z1, z2, z6, z7, z13, rfl, zq, zp, zof, zu⟩
    refine ⟨fun n σ H5 => ∃ k : Nat, n = cc.toNat - k ∧ (k : Int) ≤ cc ∧ σ 1 = .int .i64 cc ∧ σ 2 = fv ∧ σ 6 = q ∧ σ 7 = s ∧ σ 13 = .int .i64 rr ∧ σ 14 = .int .i64 i ∧ σ 8 = .int .i64 i ∧ σ 17 = .int .i64 cc ∧ σ 18 = .int .i64 k ∧ Cel H5 q [.int .i64 0, .int .i64 0, .slice none 0 0] ∧ Cel H5 p [.int .i64 (sd (i * cc.toNat + k))] ∧ Off p H H5 ∧
        ∃ u, Cel H5 s [.int .i64 rr, .int .i64 cc, u] ∧ Own eI H5 u (mkL cc g (i * cc.toNat + k)) ∧ Nw H u ∧ Apart q u ∧ Apart s u,
      ⟨_, 0, rfl, by omega, g1, g2, g6, g7, g13, g14, rfl, rfl, rfl, oq, op, of4, hu⟩, ?_⟩
    rintro n σ H5 ⟨k, rfl, hkC, z1, z2, z6, z7, z13, z14, z8, z17, z18, zq, zp, of5, u, zs, zu, nu, aqu, asu⟩
    simp only [z2, z7, z8, z17, z18, vInt_lss, ob_some]
    refine cnd_d (fun hkl => ?_) (fun hkg => ?_)
    · have apu : Apart p u := hp.apart nu
      have apq' := apq.symm
      have aps' := aps.symm
      refine ⟨?_, ?_⟩
      · refine ob_i (zs.fa 2) ?_
        refine ob_i (zs.ld 2 rfl) ?_
        refine hcl H5 i k _ of5 zp hlt hkl (fun H6 zp of6 => ?_)
        replace zq := zq.off of6 apq'
        replace zs := zs.off of6 aps'
        replace zu := zu.off of6 apu.symm
        have of56 : Off p H H6 := of5.trans of6
        refine bS_i (enc := eI) (l := [g i k]) (by omega) rfl (by kernel_rfl) (fun t H7 ot nt le7 => ?_)
        replace zq := zq.le le7
        replace zs := zs.le le7
        replace zu := zu.le le7
        replace zp := zp.le le7
        have of7 := of56.lel le7
        have hlen : (mkL cc g (i * cc.toNat + k)).length ≤ 68719476736 := by
          rw [mkL_length]
          have : i * cc.toNat ≤ 1000 * 1000 := Nat.mul_le_mul (by omega) (by omega)
          omega
        refine apd_one zu ot.sl (fun _ => rfl) (by omega) hlen (fun u' H8 ou' off8 hbk => ?_)
        have aqu' : Apart q u' := Apart.app zq.known aqu hbk
        have asu' : Apart s u' := Apart.app zs.known asu hbk
        have nu' : Nw H u' := fun b hb => by
          rcases hbk b hb with h | h
          · exact nu b h
          · cases hH : H b with
            | none => rfl
            | some o =>
              by_cases hpb : bk p = some b
              · obtain ⟨o', ho'⟩ := zp.known b hpb; rw [h] at ho'; simp at ho'
              · have := of7 b o hH hpb; rw [h] at this; simp at this
        replace zq := zq.off off8 aqu
        replace zs := zs.off off8 asu
        replace zp := zp.off off8 apu
        have of8 := of7.lex off8 nu
        refine ob_i (zs.fa 2) ?_
        refine zs.st (by simp) ou'.one ou'.cells (fun H9 os9 off9 => ?_)
        rw [vInt_add (by omega) (by omega), ob_some]
        refine nxt (cc.toNat - (k + 1)) (by omega) ⟨k + 1, rfl, by omega, z1, z2, z6, z7, z13, z14, z8, z17, rfl, zq.off off9 aqs, zp.off off9 aps, of8.lex off9 ns0, u', os9, ?_, nu', aqu', asu'⟩
        have hd := divmod (c := cc) (i := i) (k := k) (by omega) (by omega) hkl
        rw [← Nat.add_assoc, mkL_succ, cast_ix (by omega), hd.1, hd.2]
        exact ou'.off off9 asu'.symm
      · refine ob_i (zs.fa 2) ?_
        refine hcl H5 i k _ of5 zp hlt hkl (fun H6 zp of6 => ?_)
        replace zq := zq.off of6 apq'
        replace zs := zs.off of6 aps'
        replace zu := zu.off of6 apu.symm
        have of56 : Off p H H6 := of5.trans of6
        refine ob_i (zs.ld 2 rfl) ?_
        refine bS_i (enc := eI) (l := [g i k]) (by omega) rfl (by kernel_rfl) (fun t H7 ot nt le7 => ?_)
        replace zq := zq.le le7
        replace zs := zs.le le7
        replace zu := zu.le le7
        replace zp := zp.le le7
        have of7 := of56.lel le7
        have hlen : (mkL cc g (i * cc.toNat + k)).length ≤ 68719476736 := by
          rw [mkL_length]
          have : i * cc.toNat ≤ 1000 * 1000 := Nat.mul_le_mul (by omega) (by omega)
          omega
        refine apd_one zu ot.sl (fun _ => rfl) (by omega) hlen (fun u' H8 ou' off8 hbk => ?_)
        have aqu' : Apart q u' := Apart.app zq.known aqu hbk
        have asu' : Apart s u' := Apart.app zs.known asu hbk
        have nu' : Nw H u' := fun b hb => by
          rcases hbk b hb with h | h
          · exact nu b h
          · cases hH : H b with
            | none => rfl
            | some o =>
              by_cases hpb : bk p = some b
              · obtain ⟨o', ho'⟩ := zp.known b hpb; rw [h] at ho'; simp at ho'
              · have := of7 b o hH hpb; rw [h] at this; simp at this
        replace zq := zq.off off8 aqu
        replace zs := zs.off off8 asu
        replace zp := zp.off off8 apu
        have of8 := of7.lex off8 nu
        refine ob_i (zs.fa 2) ?_
        refine zs.st (by simp) ou'.one ou'.cells (fun H9 os9 off9 => ?_)
        rw [vInt_add (by omega) (by omega), ob_some]
        refine nxt (cc.toNat - (k + 1)) (by omega) ⟨k + 1, rfl, by omega, z1, z2, z6, z7, z13, z14, z8, z17, rfl, zq.off off9 aqs, zp.off off9 aps, of8.lex off9 ns0, u', os9, ?_, nu', aqu', asu'⟩
        have hd := divmod (c := cc) (i := i) (k := k) (by omega) (by omega) hkl
        rw [← Nat.add_assoc, mkL_succ, cast_ix (by omega), hd.1, hd.2]
        exact ou'.off off9 asu'.symm
    · have e : k = cc.toNat := by omega
      refine hJ13 _ _ ⟨z1, z2, z6, z7, z13, z14, zq, ?_, of5, u, zs, ?_, nu, aqu, asu⟩
      · rw [Nat.add_mul, Nat.one_mul, ← e]; rw [← e] at zp; exact zp
      · rw [Nat.add_mul, Nat.one_mul, ← e]; rw [← e] at zu; exact zu
  · have e : i = rr.toNat := by omega
    subst e
    obtain ⟨u, os, ou, nu, aqu, asu⟩ := hu
    exact hJ7 _ _ ⟨g6, g7, oq, op, of4, u, os, ou, nu, aqu⟩
/-- What a soup becomes. -/
def soL (b s : List Int) (r x : Int) (sh : Nat) (n : Nat) : List Int := rnL true b s r r (drL r r x sh) n
def soP (b s : List Int) (r : Int) (sh : Nat) (x st : Int) : Prop := lifP b s ∧ (0 ≤ st ∧ st ≤ 64) ∧ drP r r x sh
instance (b s : List Int) (r : Int) (sh : Nat) (x st : Int) : Decidable (soP b s r sh x st) := by unfold soP; infer_instance
theorem soL_field {b s : List Int} {r x : Int} {sh n : Nat} (h : sidesF r r) : fieldN 1 r r (soL b s r x sh n) := rnL_field (drL_field h) n
/-- The counts of soups. -/
def ssL (b s : List Int) (r : Int) (sh n : Nat) (l : List Int) : List Int := l.map fun x => cntE 1 (soL b s r x sh n)
theorem ssL_take {b s : List Int} {r : Int} {sh n i : Nat} {l : List Int} (h : i < l.length) : ssL b s r sh n (l.take i) ++ [cntE 1 (soL b s r (at_ 0 l (i : Int)) sh n)] = ssL b s r sh n (l.take (i + 1)) := by
  rw [take_at 0 l h]; simp [ssL]
theorem ssL_len {b s : List Int} {r : Int} {sh n : Nat} {l : List Int} : (ssL b s r sh n l).length = l.length := by simp [ssL]
def ssP (b s : List Int) (r : Int) (sh : Nat) (l : List Int) (st wk : Int) : Prop := lifP b s ∧ (1 ≤ r ∧ r ≤ 24) ∧ shrP sh ∧ (l.length : Int) ≤ 16 ∧ (0 ≤ st ∧ st ≤ 64) ∧ (1 ≤ wk ∧ wk ≤ 8) ∧ ∀ x ∈ l, 0 ≤ x ∧ x ≤ 4294967295
instance (b s : List Int) (r : Int) (sh : Nat) (l : List Int) (st wk : Int) : Decidable (ssP b s r sh l st wk) := by unfold ssP; infer_instance
theorem ssP_len {b s : List Int} {r : Int} {sh : Nat} {l : List Int} {st wk : Int} {n : Nat} : (selL (ssP b s r sh l st wk) (ssL b s r sh n l)).length ≤ 600 := selL_len fun h => by rw [ssL_len]; have := h.2.2.2.1; omega
end Go.Proofs.Ythbffbpdoankjaa
