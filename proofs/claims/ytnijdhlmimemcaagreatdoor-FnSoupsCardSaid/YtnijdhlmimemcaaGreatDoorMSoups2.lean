/- Several texts in one. -/
import Derived.Test.YtnijdhlmimemcaaGreatDoorMSoups1
import Derived.Test.YtnijdhlmimemcaaGreatDoorMSoups0
import Derived.Laws.Strings
/- Fields that are drawn. -/
namespace Go.Proofs.YtnijdhlmimemcaaGreatDoor
open HL
set_option maxRecDepth 100000
def drG (c x : Int) (sh : Nat) (i k : Int) : Int := if shB (sdS x ((i * c + k).toNat + 1)) sh = true then 1 else 0
def drL (r c x : Int) (sh : Nat) : List Int := mkL c (drG c x sh) (r.toNat * c.toNat)
def drP (r c x : Int) (sh : Nat) : Prop := sidesF r c ∧ shrP sh ∧ 0 ≤ x ∧ x ≤ 4294967295
instance (r c x : Int) (sh : Nat) : Decidable (drP r c x sh) := by unfold drP; infer_instance
theorem drL_field {r c x : Int} {sh : Nat} (h : sidesF r c) : fieldN 1 r c (drL r c x sh) := mkL_field h (fun i k => by unfold drG; split <;> omega)
theorem dr_ix {c x : Int} {sh : Nat} {t : Nat} (hc : 0 < c) : drG c x sh ((t : Int) / c) ((t : Int) % c) = if shB (sdS x (t + 1)) sh = true then 1 else 0 := by
  unfold drG
  have h : ((t : Int) / c * c + (t : Int) % c).toNat = t := by
    have := Int.mul_ediv_add_emod (t : Int) c
    rw [Int.mul_comm] at this; omega
  rw [h]
theorem fillL_set1 {c : Int} {g : Int → Int → Int} {N t : Nat} : (fillL c g N t).set t (g ((t : Int) / c) ((t : Int) % c)) = fillL c g N (t + 1) := by
  apply List.ext_getElem?
  intro j
  rw [List.getElem?_set]
  simp only [fillL, List.getElem?_map, List.length_map, List.length_range]
  by_cases hj : j < N
  · rw [List.getElem?_range hj]
    simp only [Option.map_some]
    by_cases e : t = j
    · subst e; rw [if_pos rfl, if_pos hj, if_pos (by omega)]
    · rw [if_neg e]
      by_cases h1 : j < t
      · rw [if_pos h1, if_pos (by omega)]
      · rw [if_neg h1, if_neg (by omega)]
  · rw [List.getElem?_eq_none (by simpa using hj)]
    simp only [Option.map_none]
    split
    · rw [if_neg (by omega)]
    · rfl
theorem fillL_skip1 {c : Int} {g : Int → Int → Int} {N t : Nat} (h : g ((t : Int) / c) ((t : Int) % c) = 0) : fillL c g N t = fillL c g N (t + 1) := by
  unfold fillL
  apply List.map_congr_left
  intro j _
  by_cases e : j = t
  · subst e; rw [if_neg (by omega), if_pos (by omega), h]
  · by_cases h1 : j < t
    · rw [if_pos h1, if_pos (by omega)]
    · rw [if_neg h1, if_neg (by omega)]
theorem HL.Off.lex {p q : Value} {H H' H'' : Hp} (h : Off p H H') (h2 : Off q H' H'') (hn : Nw H q) : Off p H H'' := fun b o hb hp => h2 b o (h b o hb hp) (fun e => by have := hn b e; rw [this] at hb; simp at hb)
theorem HL.Off.lel {p : Value} {H H' H'' : Hp} (h : Off p H H') (h2 : Le H' H'') : Off p H H'' := fun b o hb hp => h2 b o (h b o hb hp)
theorem C.impl_madeField_cell {fv p : Value} {rr cc : Int} {g : Int → Int → Int} {sd : Nat → Int} {H : Hp} {K : Value → Hp → Prop} (r1 : 0 ≤ rr) (r2 : rr ≤ 1000) (c1 : 1 ≤ cc) (c2 : cc ≤ 1000) (hp : Cel H p [.int .i64 (sd 0)])
    (hcl : ∀ H' (i k : Nat) (Z : Value → Hp → Prop), Off p H H' → Cel H' p [.int .i64 (sd (i * cc.toNat + k))] → (i : Int) < rr → (k : Int) < cc → (∀ H'', Cel H'' p [.int .i64 (sd (i * cc.toNat + k + 1))] → Off p H' H'' → Z (.int .i64 (g i k)) H'') → callV prg fv [.int .i64 i, .int .i64 k] H' Z)
    (hk : ∀ u H', Own eI H' u (mkL cc g (rr.toNat * cc.toNat)) → Nw H u → Cel H' p [.int .i64 (sd (rr.toNat * cc.toNat))] → Off p H H' → K (.agg #[.int .i64 rr, .int .i64 cc, u]) H') :
    HT prg I.impl_madeField [.int .i64 rr, .int .i64 cc, fv].toArray H K := by
 refine R.impl_madeFieldX ?_
 unfold F.impl_madeFieldX
 refine nw_i (fun q H1 oq nq le1 => ?_)
 replace oq : Cel H1 q [.int .i64 0, .int .i64 0, .slice none 0 0] := oq
 refine ob_i (a := .agg #[.int .i64 rr, .int .i64 cc, .slice none 0 0]) rfl ?_
 have apq : Apart p q := hp.apart nq
 refine nw_i (fun s H2 os ns le2 => ?_)
 have aqs : Apart q s := oq.apart ns
 have aps : Apart p s := (hp.le le1).apart ns
 replace oq := oq.le le2
 have ns0 : Nw H s := ns.le le1
 have nq0 : Nw H q := nq
 refine os.stn (ws := [.int .i64 rr, .int .i64 cc, .slice none 0 0]) rfl rfl (by simp [oneCell]) (fun H3 os off3 => ?_)
 replace oq := oq.off off3 aqs
 have op : Cel H3 p [.int .i64 (sd 0)] := ((hp.le le1).le le2).off off3 aps
 have ofB : Off p H H3 := ((Off.of_le (le1.trans le2)).lex off3 ns0)
 refine jn_i (fun σ' H' => σ' 6 = q ∧ σ' 7 = s ∧ Cel H' q [.int .i64 0, .int .i64 0, .slice none 0 0] ∧ Cel H' p [.int .i64 (sd (rr.toNat * cc.toNat))] ∧ Off p H H' ∧ ∃ u, Cel H' s [.int .i64 rr, .int .i64 cc, u] ∧ Own eI H' u (mkL cc g (rr.toNat * cc.toNat)) ∧ Nw H u ∧ Apart q u) (fun σ' H' hP => ?_) (fun J7 hJ7 => ?_)
 ·obtain ⟨g6, g7, oq, op, off, u, os, ou, nu, aqu⟩ := hP
  rw [g6, g7]
  refine ob_i (os.ldn rfl) ?_
  refine oq.stn (ws := [.int .i64 rr, .int .i64 cc, u]) rfl rfl (oc1 rfl (oc1 rfl (oc1 ou.one oc0))) (fun H6 oq off6 => ?_)
  refine ob_i (oq.ldn rfl) ?_
  exact hk u H6 (ou.off off6 aqu.symm) nu (op.off off6 apq) (off.lex off6 nq0)
 refine ⟨fun n σ H4 => ∃ i : Nat, n = rr.toNat - i ∧ (i : Int) ≤ rr ∧ σ 1 = .int .i64 cc ∧ σ 2 = fv ∧ σ 6 = q ∧ σ 7 = s ∧ σ 13 = .int .i64 rr ∧ σ 14 = .int .i64 i ∧ Cel H4 q [.int .i64 0, .int .i64 0, .slice none 0 0] ∧ Cel H4 p [.int .i64 (sd (i * cc.toNat))] ∧ Off p H H4 ∧
   ∃ u, Cel H4 s [.int .i64 rr, .int .i64 cc, u] ∧ Own eI H4 u (mkL cc g (i * cc.toNat)) ∧ Nw H u ∧ Apart q u ∧ Apart s u,
  ⟨_, 0, rfl, by omega, rfl, rfl, rfl, rfl, rfl, rfl, oq, by rw [Nat.zero_mul]; exact op, ofB, .slice none 0 0, os, by rw [Nat.zero_mul]; exact Own.nil_of none, fun b hb => by simp [bk] at hb, fun b _ hb => by simp [bk] at hb, fun b _ hb => by simp [bk] at hb⟩, ?_⟩
 rintro n σ H4 ⟨i, rfl, hiR, g1, g2, g6, g7, g13, g14, oq, op, of4, hu⟩
 simp only [g1, g13, g14, vInt_lss, ob_some]
 refine cnd_d (fun hlt => ?_) (fun hge => ?_)
 ·refine jn_i (fun σ' H' => σ' 1 = .int .i64 cc ∧ σ' 2 = fv ∧ σ' 6 = q ∧ σ' 7 = s ∧ σ' 13 = .int .i64 rr ∧ σ' 14 = .int .i64 i ∧ Cel H' q [.int .i64 0, .int .i64 0, .slice none 0 0] ∧ Cel H' p [.int .i64 (sd ((i + 1) * cc.toNat))] ∧ Off p H H' ∧
    ∃ u, Cel H' s [.int .i64 rr, .int .i64 cc, u] ∧ Own eI H' u (mkL cc g ((i + 1) * cc.toNat)) ∧ Nw H u ∧ Apart q u ∧ Apart s u) (fun σ' H' hP => ?_) (fun J13 hJ13 => ?_)
  ·obtain ⟨z1, z2, z6, z7, z13, z14, zq, zp, zof, zu⟩ := hP
   rw [z14, vInt_add (by omega) (by omega), ob_some]
   exact nxt (rr.toNat - (i + 1)) (by omega) ⟨i + 1, rfl, by omega, z1, z2, z6, z7, z13, rfl, zq, zp, zof, zu⟩
  refine ⟨fun n σ H5 => ∃ k : Nat, n = cc.toNat - k ∧ (k : Int) ≤ cc ∧ σ 1 = .int .i64 cc ∧ σ 2 = fv ∧ σ 6 = q ∧ σ 7 = s ∧ σ 13 = .int .i64 rr ∧ σ 14 = .int .i64 i ∧ σ 8 = .int .i64 i ∧ σ 17 = .int .i64 cc ∧ σ 18 = .int .i64 k ∧ Cel H5 q [.int .i64 0, .int .i64 0, .slice none 0 0] ∧ Cel H5 p [.int .i64 (sd (i * cc.toNat + k))] ∧ Off p H H5 ∧
    ∃ u, Cel H5 s [.int .i64 rr, .int .i64 cc, u] ∧ Own eI H5 u (mkL cc g (i * cc.toNat + k)) ∧ Nw H u ∧ Apart q u ∧ Apart s u,
   ⟨_, 0, rfl, by omega, g1, g2, g6, g7, g13, g14, rfl, rfl, rfl, oq, op, of4, hu⟩, ?_⟩
  rintro n σ H5 ⟨k, rfl, hkC, z1, z2, z6, z7, z13, z14, z8, z17, z18, zq, zp, of5, u, zs, zu, nu, aqu, asu⟩
  simp only [z2, z7, z8, z17, z18, vInt_lss, ob_some]
  refine cnd_d (fun hkl => ?_) (fun hkg => ?_)
  ·have apu : Apart p u := hp.apart nu
   have apq' := apq.symm
   have aps' := aps.symm
   refine ⟨?_, ?_⟩
   ·refine ob_i (zs.fa 2) ?_
    refine ob_i (zs.ld 2 rfl) ?_
    refine hcl H5 i k _ of5 zp hlt hkl (fun H6 zp of6 => ?_)
    replace zq := zq.off of6 apq'
    replace zs := zs.off of6 aps'
    replace zu := zu.off of6 apu.symm
    have of56 : Off p H H6 := of5.trans of6
    refine bS_i (enc := eI) (l := [g i k]) (by omega) rfl (by kernel_rfl) (fun t H7 ot nt le7 => ?_)
    replace zq := zq.le le7
    replace zs := zs.le le7
    replace zu := zu.le le7
    replace zp := zp.le le7
    have of7 := of56.lel le7
    have hlen : (mkL cc g (i * cc.toNat + k)).length ≤ 68719476736 := by
     rw [mkL_length]
     have : i * cc.toNat ≤ 1000 * 1000 := Nat.mul_le_mul (by omega) (by omega)
     omega
    refine apd_one zu ot.sl (fun _ => rfl) (by omega) hlen (fun u' H8 ou' off8 hbk => ?_)
    have aqu' : Apart q u' := Apart.app zq.known aqu hbk
    have asu' : Apart s u' := Apart.app zs.known asu hbk
    have nu' : Nw H u' := fun b hb => by
     rcases hbk b hb with h | h
     ·exact nu b h
     ·cases hH : H b with
      | none => rfl
      | some o =>
       by_cases hpb : bk p = some b
       ·obtain ⟨o', ho'⟩ := zp.known b hpb; rw [h] at ho'; simp at ho'
       ·have := of7 b o hH hpb; rw [h] at this; simp at this
    replace zq := zq.off off8 aqu
    replace zs := zs.off off8 asu
    replace zp := zp.off off8 apu
    have of8 := of7.lex off8 nu
    refine ob_i (zs.fa 2) ?_
    refine zs.st (by simp) ou'.one ou'.cells (fun H9 os9 off9 => ?_)
    rw [vInt_add (by omega) (by omega), ob_some]
    refine nxt (cc.toNat - (k + 1)) (by omega) ⟨k + 1, rfl, by omega, z1, z2, z6, z7, z13, z14, z8, z17, rfl, zq.off off9 aqs, zp.off off9 aps, of8.lex off9 ns0, u', os9, ?_, nu', aqu', asu'⟩
    have hd := divmod (c := cc) (i := i) (k := k) (by omega) (by omega) hkl
    rw [← Nat.add_assoc, mkL_succ, cast_ix (by omega), hd.1, hd.2]
    exact ou'.off off9 asu'.symm
   ·refine ob_i (zs.fa 2) ?_
    refine hcl H5 i k _ of5 zp hlt hkl (fun H6 zp of6 => ?_)
    replace zq := zq.off of6 apq'
    replace zs := zs.off of6 aps'
    replace zu := zu.off of6 apu.symm
    have of56 : Off p H H6 := of5.trans of6
    refine ob_i (zs.ld 2 rfl) ?_
    refine bS_i (enc := eI) (l := [g i k]) (by omega) rfl (by kernel_rfl) (fun t H7 ot nt le7 => ?_)
    replace zq := zq.le le7
    replace zs := zs.le le7
    replace zu := zu.le le7
    replace zp := zp.le le7
    have of7 := of56.lel le7
    have hlen : (mkL cc g (i * cc.toNat + k)).length ≤ 68719476736 := by
     rw [mkL_length]
     have : i * cc.toNat ≤ 1000 * 1000 := Nat.mul_le_mul (by omega) (by omega)
     omega
    refine apd_one zu ot.sl (fun _ => rfl) (by omega) hlen (fun u' H8 ou' off8 hbk => ?_)
    have aqu' : Apart q u' := Apart.app zq.known aqu hbk
    have asu' : Apart s u' := Apart.app zs.known asu hbk
    have nu' : Nw H u' := fun b hb => by
     rcases hbk b hb with h | h
     ·exact nu b h
     ·cases hH : H b with
      | none => rfl
      | some o =>
       by_cases hpb : bk p = some b
       ·obtain ⟨o', ho'⟩ := zp.known b hpb; rw [h] at ho'; simp at ho'
       ·have := of7 b o hH hpb; rw [h] at this; simp at this
    replace zq := zq.off off8 aqu
    replace zs := zs.off off8 asu
    replace zp := zp.off off8 apu
    have of8 := of7.lex off8 nu
    refine ob_i (zs.fa 2) ?_
    refine zs.st (by simp) ou'.one ou'.cells (fun H9 os9 off9 => ?_)
    rw [vInt_add (by omega) (by omega), ob_some]
    refine nxt (cc.toNat - (k + 1)) (by omega) ⟨k + 1, rfl, by omega, z1, z2, z6, z7, z13, z14, z8, z17, rfl, zq.off off9 aqs, zp.off off9 aps, of8.lex off9 ns0, u', os9, ?_, nu', aqu', asu'⟩
    have hd := divmod (c := cc) (i := i) (k := k) (by omega) (by omega) hkl
    rw [← Nat.add_assoc, mkL_succ, cast_ix (by omega), hd.1, hd.2]
    exact ou'.off off9 asu'.symm
  ·have e : k = cc.toNat := by omega
   refine hJ13 _ _ ⟨z1, z2, z6, z7, z13, z14, zq, ?_, of5, u, zs, ?_, nu, aqu, asu⟩
   ·rw [Nat.add_mul, Nat.one_mul, ← e]; rw [← e] at zp; exact zp
   ·rw [Nat.add_mul, Nat.one_mul, ← e]; rw [← e] at zu; exact zu
 ·have e : i = rr.toNat := by omega
  subst e
  obtain ⟨u, os, ou, nu, aqu, asu⟩ := hu
  exact hJ7 _ _ ⟨g6, g7, oq, op, of4, u, os, ou, nu, aqu⟩
/-- What a soup becomes. -/
def soL (b s : List Int) (r x : Int) (sh : Nat) (n : Nat) : List Int := rnL true b s r r (drL r r x sh) n
def soP (b s : List Int) (r : Int) (sh : Nat) (x st : Int) : Prop := lifP b s ∧ (0 ≤ st ∧ st ≤ 64) ∧ drP r r x sh
instance (b s : List Int) (r : Int) (sh : Nat) (x st : Int) : Decidable (soP b s r sh x st) := by unfold soP; infer_instance
theorem soL_field {b s : List Int} {r x : Int} {sh n : Nat} (h : sidesF r r) : fieldN 1 r r (soL b s r x sh n) := rnL_field (drL_field h) n
/-- The counts of soups. -/
def ssL (b s : List Int) (r : Int) (sh n : Nat) (l : List Int) : List Int := l.map fun x => cntE 1 (soL b s r x sh n)
theorem ssL_take {b s : List Int} {r : Int} {sh n i : Nat} {l : List Int} (h : i < l.length) : ssL b s r sh n (l.take i) ++ [cntE 1 (soL b s r (at_ 0 l (i : Int)) sh n)] = ssL b s r sh n (l.take (i + 1)) := by
  rw [take_at 0 l h]; simp [ssL]
theorem ssL_len {b s : List Int} {r : Int} {sh n : Nat} {l : List Int} : (ssL b s r sh n l).length = l.length := by simp [ssL]
def ssP (b s : List Int) (r : Int) (sh : Nat) (l : List Int) (st wk : Int) : Prop := lifP b s ∧ (1 ≤ r ∧ r ≤ 24) ∧ shrP sh ∧ (l.length : Int) ≤ 16 ∧ (0 ≤ st ∧ st ≤ 64) ∧ (1 ≤ wk ∧ wk ≤ 8) ∧ ∀ x ∈ l, 0 ≤ x ∧ x ≤ 4294967295
instance (b s : List Int) (r : Int) (sh : Nat) (l : List Int) (st wk : Int) : Decidable (ssP b s r sh l st wk) := by unfold ssP; infer_instance
end Go.Proofs.YtnijdhlmimemcaaGreatDoor
/- Slices whose elements have some cells each: what is read, what is owned. -/
namespace Go.Proofs.YtnijdhlmimemcaaGreatDoor.HL
theorem add_add (a : Addr) (x y : Nat) : (a.add x).add y = a.add (x + y) := by
  unfold Addr.add
  by_cases hx : x = 0
  · subst hx; simp
  · by_cases hy : y = 0
    · subst hy; simp
    · rw [if_neg hx, if_neg hy, if_neg (by omega)]; simp [Nat.add_assoc]
theorem add_block (a : Addr) (x : Nat) : (a.add x).block = a.block := by unfold Addr.add; split <;> rfl
section
variable {α : Type} {enc : α → List Value} {n : Nat} {H H' : Hp} {u v : Value} {l m : List α}
theorem flat_len (hn : ∀ x, (enc x).length = n) : ∀ l : List α, (l.flatMap enc).length = l.length * n
  | [] => by simp
  | x :: r => by rw [List.flatMap_cons, List.length_append, hn, flat_len hn r, List.length_cons, Nat.add_mul, Nat.one_mul]; omega
theorem flat_get (hn : ∀ x, (enc x).length = n) : ∀ (l : List α) (i j : Nat) (h : i < l.length), j < n → (l.flatMap enc)[i * n + j]? = (enc l[i])[j]?
  | x :: r, 0, j, h, hj => by rw [List.flatMap_cons, Nat.zero_mul, Nat.zero_add, List.getElem?_append_left (by rw [hn]; exact hj)]; rfl
  | x :: r, i + 1, j, h, hj => by
    rw [List.flatMap_cons, List.getElem?_append_right (by rw [hn, Nat.add_mul]; omega), hn, show (i + 1) * n + j - n = i * n + j by rw [Nat.add_mul]; omega, flat_get hn r i j (by simpa using h) hj]
    rfl
theorem flat_ix {i j N : Nat} (h : i < N) (hj : j < n) : i * n + j < N * n := by
  have := Nat.mul_le_mul_right n (show i + 1 ≤ N by omega)
  rw [Nat.add_mul] at this; omega
/-- A slice of elements of n cells that reads so. -/
def SlE (n : Nat) (enc : α → List Value) (H : Hp) (v : Value) (l : List α) : Prop :=
  ∃ a c, v = .slice a l.length c ∧ l.length ≤ c ∧ ∀ t (h : t < (l.flatMap enc).length), ∃ ad, a = some ad ∧ H.cell? (ad.add t) = some (l.flatMap enc)[t]
/-- One whose block is known whole, and may be written. -/
def OwnE (n : Nat) (enc : α → List Value) (H : Hp) (v : Value) (l : List α) : Prop :=
  ∃ a c, v = .slice a l.length c ∧ l.length ≤ c ∧ (0 < c → ∃ b off cs e, a = some ⟨b, off, none⟩ ∧ H b = some (.cells cs e (0, 0)) ∧ off + c * n ≤ cs.size ∧ ∀ t (h : t < (l.flatMap enc).length), cs[off + t]? = some (l.flatMap enc)[t])
/-- The pointer to an element. -/
def ptrE (n : Nat) (v : Value) (i : Int) : Value := match v with | .slice (some a) _ _ => .pointer (some (a.add (i.toNat * n))) | _ => undef
theorem SlE.le (h : SlE n enc H v l) (hl : Le H H') : SlE n enc H' v l := by
  obtain ⟨a, c, rfl, hc, hr⟩ := h
  exact ⟨a, c, rfl, hc, fun i hi => by obtain ⟨ad, e, hh⟩ := hr i hi; exact ⟨ad, e, hl.cell hh⟩⟩
theorem SlE.len (h : SlE n enc H v l) : vLenSl v = some (.int .i64 l.length) := by
  obtain ⟨a, c, rfl, hc, hr⟩ := h; rfl
theorem SlE.base (h : SlE n enc H v l) (hn : ∀ x, (enc x).length = n) (n0 : 0 < n) {i : Nat} (hi : i < l.length) : ∃ a c, v = .slice (some a) l.length c ∧ ∀ j (hj : j < n), H.cell? (a.add (i * n + j)) = (enc l[i])[j]? := by
  obtain ⟨a, c, rfl, hc, hr⟩ := h
  have hb := flat_ix (n := n) hi n0
  obtain ⟨ad, rfl, _⟩ := hr (i * n + 0) (by rw [flat_len hn]; exact hb)
  refine ⟨ad, c, rfl, fun j hj => ?_⟩
  have hk := flat_ix (n := n) hi hj
  obtain ⟨ad', e, hh⟩ := hr (i * n + j) (by rw [flat_len hn]; exact hk)
  cases e
  rw [hh, ← flat_get hn l i j hi hj, List.getElem?_eq_getElem]
theorem SlE.ix (h : SlE n enc H v l) (hn : ∀ x, (enc x).length = n) (n0 : 0 < n) {k : IntKind} {i : Int} (h0 : 0 ≤ i) (h1 : i < l.length) : vIx n v (.int k i) = some (ptrE n v i) := by
  obtain ⟨a, c, rfl, _⟩ := h.base hn n0 (i := i.toNat) (by omega)
  simp only [vIx, ptrE]
  rw [if_pos ⟨h0, by simpa using h1⟩]
theorem SlE.ldn (h : SlE n enc H v l) (hn : ∀ x, (enc x).length = n) (n0 : 0 < n) (d : α) {i : Int} (h0 : 0 ≤ i) (h1 : i < l.length) : vLoadN n (ptrE n v i) H = some (.agg (enc (at_ d l i)).toArray) := by
  have hi : i.toNat < l.length := by omega
  obtain ⟨a, c, rfl, hr⟩ := h.base hn n0 hi
  have e : at_ d l i = l[i.toNat] := by unfold at_; rw [List.getD_eq_getElem?_getD, List.getElem?_eq_getElem hi]; rfl
  simp only [vLoadN, ptrE]
  rw [rd_cells (enc := id) _ n 0 (enc l[i.toNat]) (hn _) (fun j hj => by
    rw [add_add, Nat.zero_add, hr j (by rw [hn] at hj; exact hj), List.getElem?_eq_getElem hj]; rfl), e]
  simp
theorem SlE.fa (h : SlE n enc H v l) (hn : ∀ x, (enc x).length = n) (n0 : 0 < n) {i : Int} (h0 : 0 ≤ i) (h1 : i < l.length) (k : Nat) : vFa k (ptrE n v i) = some (fp (ptrE n v i) k) := by
  obtain ⟨a, c, rfl, _⟩ := h.base hn n0 (i := i.toNat) (by omega)
  rfl
theorem SlE.nilC (h : SlE n enc H v l) (hn : ∀ x, (enc x).length = n) (n0 : 0 < n) {i : Int} (h0 : 0 ≤ i) (h1 : i < l.length) : vNilC (ptrE n v i) = some (ptrE n v i) := by
  obtain ⟨a, c, rfl, _⟩ := h.base hn n0 (i := i.toNat) (by omega)
  rfl
theorem SlE.ld (h : SlE n enc H v l) (hn : ∀ x, (enc x).length = n) (n0 : 0 < n) (d : α) {i : Int} (h0 : 0 ≤ i) (h1 : i < l.length) {k : Nat} (hk : k < n) {x : Value} (hx : (enc (at_ d l i))[k]? = some x) : vLoad (fp (ptrE n v i) k) H = some x := by
  have hi : i.toNat < l.length := by omega
  obtain ⟨a, c, rfl, hr⟩ := h.base hn n0 hi
  have e : at_ d l i = l[i.toNat] := by unfold at_; rw [List.getD_eq_getElem?_getD, List.getElem?_eq_getElem hi]; rfl
  simp only [vLoad, fp, ptrE, add_add]
  rw [hr k hk, ← e, hx]
theorem SlE.firstC (h : SlE n enc H v l) (hn : ∀ x, (enc x).length = n) : firstC H n l.length v = some (l.flatMap enc) := by
  obtain ⟨a, c, rfl, hc, hr⟩ := h
  by_cases h0 : (l.flatMap enc).length = 0
  · have e : l.flatMap enc = [] := List.length_eq_zero_iff.mp h0
    have e2 : l.length * n = 0 := by rw [← flat_len hn]; exact h0
    cases a with
    | none => rw [e]; rfl
    | some ad => simp only [HL.firstC, e2, e]; rfl
  · obtain ⟨ad, rfl, _⟩ := hr 0 (by omega)
    simp only [HL.firstC]
    have := rd_cells (H := H) (enc := id) ad (l.length * n) 0 (l.flatMap enc) (flat_len hn l) (fun i hi => by obtain ⟨ad', e, hh⟩ := hr i hi; cases e; simpa using hh)
    rw [this]; simp
theorem SlE.lenO (h : SlE n enc H v l) : lenO v = some l.length := by
  obtain ⟨a, c, rfl, hc, hr⟩ := h; rfl
theorem OwnE.len (h : OwnE n enc H v l) : vLenSl v = some (.int .i64 l.length) := by
  obtain ⟨a, c, rfl, hc, hr⟩ := h; rfl
theorem OwnE.sl (h : OwnE n enc H v l) (hn : ∀ x, (enc x).length = n) : SlE n enc H v l := by
  obtain ⟨a, c, rfl, hc, hr⟩ := h
  refine ⟨a, c, rfl, hc, fun i hi => ?_⟩
  have h1 := flat_len hn l
  have hc0 : 0 < c := by
    rcases Nat.eq_zero_or_pos c with h | h
    · have : l.length = 0 := by omega
      rw [this, Nat.zero_mul] at h1; omega
    · exact h
  obtain ⟨b, off, cs, e, rfl, hb, hs, hcs⟩ := hr hc0
  exact ⟨_, rfl, by simp only [Hp.cell?, add_none, hb, hcs i hi]; rfl⟩
theorem OwnE.off (h : OwnE n enc H u l) (ho : Off v H H') (ha : Apart u v) : OwnE n enc H' u l := by
  obtain ⟨a, c, rfl, hc, hr⟩ := h
  refine ⟨a, c, rfl, hc, fun h0 => ?_⟩
  obtain ⟨b, off, cs, e, rfl, hb, hs, hcs⟩ := hr h0
  refine ⟨b, off, cs, e, rfl, ho b _ hb (ha b ?_), hs, hcs⟩
  simp only [bk]
  rw [if_neg (by omega)]
theorem OwnE.le (h : OwnE n enc H u l) (hl : Le H H') : OwnE n enc H' u l := by
  obtain ⟨a, c, rfl, hc, hr⟩ := h
  refine ⟨a, c, rfl, hc, fun h0 => ?_⟩
  obtain ⟨b, off, cs, e, rfl, hb, hs, hcs⟩ := hr h0
  exact ⟨b, off, cs, e, rfl, hl b _ hb, hs, hcs⟩
theorem OwnE.known (h : OwnE n enc H u l) : ∀ b, bk u = some b → ∃ o, H b = some o := by
  obtain ⟨a, c, rfl, hc, hr⟩ := h
  intro b hb
  cases a with
  | none => simp [bk] at hb
  | some ad =>
    simp only [bk] at hb
    by_cases h0 : c = 0
    · rw [if_pos h0] at hb; simp at hb
    · rw [if_neg h0] at hb
      obtain ⟨b', off, cs, e, he, hbb, _⟩ := hr (by omega)
      simp only [Option.some.injEq] at hb he
      subst he
      simp only at hb
      subst hb
      exact ⟨_, hbb⟩
theorem OwnE.apart (h : OwnE n enc H u l) (hn : Nw H v) : Apart u v := Apart.of_nw h.known hn
theorem OwnE.one (h : OwnE n enc H v l) : oneCell v = true := by
  obtain ⟨a, c, rfl, _⟩ := h; rfl
theorem OwnE.cells (h : OwnE n enc H v l) : v.cells = #[v] := by
  obtain ⟨a, c, rfl, _⟩ := h; rfl
theorem OwnE.isSl (h : OwnE n enc H v l) : ∃ a n c, v = .slice a n c := by
  obtain ⟨a, c, h, _⟩ := h; exact ⟨_, _, _, h⟩
theorem OwnE.cast {l' : List α} (e : l = l') (h : OwnE n enc H v l) : OwnE n enc H v l' := e ▸ h
theorem OwnE.nil_of (a : Option Addr) : OwnE n enc H (.slice a 0 0) ([] : List α) := ⟨a, 0, rfl, by simp, fun h0 => absurd h0 (by simp)⟩
theorem SlE.nil (c : Nat) (a : Option Addr) : SlE n enc H (.slice a 0 c) ([] : List α) := ⟨a, c, rfl, by simp, fun i hi => absurd hi (by simp)⟩
theorem SlE.one (h : SlE n enc H v l) : oneCell v = true := by
  obtain ⟨a, c, rfl, _⟩ := h; rfl
theorem SlE.cells (h : SlE n enc H v l) : v.cells = #[v] := by
  obtain ⟨a, c, rfl, _⟩ := h; rfl
theorem SlE.cast {l' : List α} (e : l = l') (h : SlE n enc H v l) : SlE n enc H v l' := e ▸ h
/-- A new row of elements of n cells: one element. -/
theorem bSE_one {z : Array Value} {e : TypeId} {x : α} {k : Nat} {cs : List Value} {K : Value → Hp → Prop} (hx : enc x = cs) (hl : cs.length = n) (n0 : 0 < n) (n1 : n ≤ 1000) (hz : z.size = n)
    (hk : ∀ v H', OwnE n enc H' v [x] → Nw H v → Le H H' → K v H') (hk1 : k = 1) : bS n k z e [(0, .agg cs.toArray)] H K := by
  subst hk1
  refine ⟨by omega, ?_⟩
  have hs : (zrow z (1 * n)).size = n := by simp [zrow]
  have hf : Instr.fill (fun i => some (i * n, n)) (if 1 * n = 0 then #[] else zrow z (1 * n)) [(0, .agg cs.toArray)] = some cs.toArray := by
    rw [if_neg (by omega)]
    simp only [Instr.fill, Value.cells, Nat.zero_mul, Nat.zero_add]
    rw [if_neg (by rw [hs]; simp [hl])]
    congr 1
    apply Array.ext_getElem?
    intro i
    have key : ∀ (r : List Value) (s : Nat) (a : Array Value), s + r.length ≤ a.size → ((r.toArray.zipIdx s).foldl (fun cs x => cs.setIfInBounds x.2 x.1) a)[i]? = if s ≤ i ∧ i < s + r.length then r[i - s]? else a[i]? := by
      intro r
      induction r with
      | nil => intro s a _; rw [if_neg (by simp only [List.length_nil]; omega), ← Array.foldl_toList, Array.toList_zipIdx]; rfl
      | cons y r ih =>
        intro s a ha
        simp only [List.length_cons] at ha ⊢
        rw [← Array.foldl_toList]
        simp only [Array.toList_zipIdx, List.zipIdx_cons, List.foldl_cons]
        have := ih (s + 1) (a.setIfInBounds s y) (by simp; omega)
        rw [← Array.foldl_toList] at this
        simp only [Array.toList_zipIdx] at this
        rw [this]
        by_cases h1 : s = i
        · subst h1
          rw [if_neg (by omega), if_pos (by omega), Array.getElem?_setIfInBounds_self_of_lt (by omega)]; simp
        · by_cases h2 : s + 1 ≤ i ∧ i < s + 1 + r.length
          · rw [if_pos h2, if_pos (by omega), show i - s = (i - (s + 1)) + 1 by omega]; simp
          · rw [if_neg h2, if_neg (by omega), Array.getElem?_setIfInBounds_ne h1]
    have := key cs 0 (zrow z (1 * n)) (by rw [hs]; omega)
    simp only [Nat.zero_add, Nat.zero_le, true_and, Nat.sub_zero] at this
    rw [this]
    split
    · simp
    · rw [Array.getElem?_eq_none (by rw [hs]; omega), Array.getElem?_eq_none (by simp; omega)]
  rw [hf]
  intro r hr
  refine hk _ _ ⟨some ⟨r, 0, none⟩, 1, rfl, Nat.le_refl _, fun _ => ⟨r, 0, _, e, rfl, Hp.put_same _ _ _, by simp [hl], fun t ht => ?_⟩⟩ ?_ (Le.put _ hr)
  · simp only [List.flatMap_cons, List.flatMap_nil, List.append_nil, hx] at ht ⊢
    simp [ht]
  · intro b hb
    simp only [bk] at hb
    split at hb
    · simp at hb
    · simp only [Option.some.injEq] at hb; subst hb; exact hr
theorem bSE_nil {z : Array Value} {e : TypeId} {K : Value → Hp → Prop} (hk : ∀ v H', OwnE n enc H' v ([] : List α) → Nw H v → bk v = none → Le H H' → K v H') : bS n 0 z e [] H K := by
  refine ⟨by simp, ?_⟩
  rw [if_pos (by simp)]
  show match some (#[] : Array Value) with
    | some cells => ∀ r, H r = none → K (.slice (some ⟨r, 0, none⟩) 0 0) (H.put r (.cells cells e))
    | none => False
  intro r hr
  refine hk _ _ (OwnE.nil_of _) ?_ rfl (Le.put _ hr)
  intro b hb
  simp [bk] at hb
/-- An append. -/
theorem OwnE.apd {bytes : Nat} {z : Array Value} {e : TypeId} {w : Value} {K : Value → Hp → Prop} (h : OwnE n enc H v l) (hn : ∀ x, (enc x).length = n) (hz : z.size = n) (hm : SlE n enc H w m) (ho : ∀ x ∈ m, ∀ y ∈ enc x, oneCell y = true)
    (hb : bytes ≤ 64) (hlm : l.length + m.length ≤ 68719476736)
    (hk : ∀ v' H', OwnE n enc H' v' (l ++ m) → Off v H H' → (∀ b, bk v' = some b → bk v = some b ∨ H b = none) → K v' H') : apd n bytes z e v w H K := by
  have hmf := hm.firstC hn
  have hml := hm.lenO
  have hlf := (h.sl hn).firstC hn
  have fl := flat_len hn l
  have fm := flat_len hn m
  have hap : (l ++ m).flatMap enc = l.flatMap enc ++ m.flatMap enc := List.flatMap_append
  obtain ⟨a, c, rfl, hlc, hr⟩ := h
  simp only [HL.apd, hml]
  by_cases hcap : l.length + m.length ≤ c
  · rw [if_pos hcap]
    simp only [hmf]
    by_cases hc0 : c = 0
    · have hl : l = [] := List.length_eq_zero_iff.mp (by omega)
      have hm' : m = [] := List.length_eq_zero_iff.mp (by omega)
      subst hl hm' hc0
      have : K (.slice a (([] : List α).length + ([] : List α).length) 0) H := hk _ H ⟨a, 0, rfl, by simp, fun h0 => absurd h0 (by simp)⟩ (fun b o hb _ => hb) (fun b hb => by cases a <;> simp [bk] at hb)
      cases a with
      | none => exact this
      | some ad => exact this
    · obtain ⟨b, off, cs, e', rfl, hbb, hs, hcs⟩ := hr (by omega)
      have hmul : (l.length + m.length) * n ≤ c * n := Nat.mul_le_mul_right n hcap
      rw [Nat.add_mul] at hmul
      simp only [add_none]
      refine stC_run (b := b) (e := e') (m.flatMap enc) _ 0 cs H rfl rfl hbb (by simp only [Nat.add_zero]; omega) (fun x hx => by
        obtain ⟨y, hy, hxy⟩ := List.mem_flatMap.mp hx; exact ho y hy x hxy) ?_
      intro H' cs' h1 h2 h3 h4 h5
      simp only [Nat.add_zero] at h3 h4
      refine hk _ H' ⟨some ⟨b, off, none⟩, c, by simp, by simpa using hcap, fun _ => ⟨b, off, cs', e', rfl, h1, by omega, ?_⟩⟩ ?_ ?_
      · simp only [hap]
        intro t ht
        rw [List.length_append] at ht
        by_cases htl : t < (l.flatMap enc).length
        · rw [h3 _ (by omega), hcs t htl, List.getElem_append_left htl]
        · have := h4 (t - (l.flatMap enc).length) (by omega)
          rw [show off + l.length * n + (t - (l.flatMap enc).length) = off + t by omega] at this
          rw [this, List.getElem_append_right (by omega)]
      · intro x o hx hne
        simp only [bk, if_neg hc0] at hne
        rw [h5 x (by rintro rfl; exact hne rfl)]; exact hx
      · intro x hx
        left; exact hx
  · rw [if_neg hcap]
    refine ⟨by omega, ?_, ?_⟩
    · have := nsc_le (n := l.length + m.length) (c := c) (by omega)
      exact Nat.le_trans (Nat.mul_le_mul this hb) (by omega)
    simp only [hlf, hmf]
    intro c' hc1 hc2 r hr'
    have hmul : (l.length + m.length) * n ≤ c' * n := Nat.mul_le_mul_right n hc1
    have hsub : (c' - (l.length + m.length)) * n = c' * n - (l.length + m.length) * n := Nat.sub_mul _ _ _
    rw [Nat.add_mul] at hmul hsub
    refine hk _ _ ⟨some ⟨r, 0, none⟩, c', by simp, by simpa using hc1, fun _ => ⟨r, 0, _, e, rfl, Hp.put_same _ _ _, ?_, ?_⟩⟩ ?_ ?_
    · have : (Builtin.zeroCells z (c' - (l.length + m.length))).size = (c' - (l.length + m.length)) * n := by simp [Builtin.zeroCells, hz]
      simp only [Nat.zero_add, Array.size_append, List.size_toArray, this, fl, fm]; omega
    · simp only [hap]
      intro t ht
      rw [Nat.zero_add, Array.getElem?_append_left (by simpa using ht)]
      rw [← Array.getElem?_toList]
      simp only [Array.toList_append]
      rw [List.getElem?_eq_getElem ht]
    · intro x o hx _
      rw [Hp.put_ne _ _ (by rintro rfl; rw [hr'] at hx; exact absurd hx (by simp))]; exact hx
    · intro x hx
      right
      simp only [bk] at hx
      split at hx
      · simp at hx
      · simp only [Option.some.injEq] at hx; subst hx; exact hr'
end
end Go.Proofs.YtnijdhlmimemcaaGreatDoor.HL
/- Fields in slices: one of them. -/
namespace Go.Proofs.YtnijdhlmimemcaaGreatDoor
open HL
/-- A field as it lies in cells. -/
structure Fv where
  r : Int
  c : Int
  v : Value
def fv0 : Fv := ⟨0, 0, .slice none 0 0⟩
def encFv (x : Fv) : List Value := [.int .i64 x.r, .int .i64 x.c, x.v]
theorem encFv_n (x : Fv) : (encFv x).length = 3 := rfl
end Go.Proofs.YtnijdhlmimemcaaGreatDoor
/- What the small functions of structs come to: copies, sizes, what is alike. -/
namespace Go.Proofs.YtnijdhlmimemcaaGreatDoor
open HL
set_option maxRecDepth 100000
end Go.Proofs.YtnijdhlmimemcaaGreatDoor
/- What says whether lists are equal, and whether gases are. -/
namespace Go.Proofs.YtnijdhlmimemcaaGreatDoor
open HL
set_option maxRecDepth 100000
end Go.Proofs.YtnijdhlmimemcaaGreatDoor
/- Lanes that are switched: what the program's and the reference's functions come to. -/
namespace Go.Proofs.YtnijdhlmimemcaaGreatDoor
open HL
set_option maxRecDepth 100000
/-- May the car at i leave lane a for lane b? -/
def chg (a b : List Int) (i : Int) : Prop :=
  0 ≤ at_ 0 a i ∧ 0 ≤ at_ 0 a ((i + 1).tmod a.length) ∧ at_ 0 b i < 0 ∧ at_ 0 b ((i + 1).tmod a.length) < 0 ∧ at_ 0 b ((i + a.length - 1).tmod a.length) < 0
instance (a b : List Int) (i : Int) : Decidable (chg a b i) := by unfold chg; infer_instance
theorem C.slices_Clone_int64Zint64 {a : Value} {l : List Int} {H : Hp} {K : Value → Hp → Prop} (ha : Sl eI H a l) (hl : l.length ≤ 68719476736) (hk : ∀ v H', Own eI H' v l → Nw H v → Le H H' → K v H') :
    HT prg I.slices_Clone_int64Zint64 [a].toArray H K := by
 refine R.slices_Clone_int64Zint64 ?_
 unfold F.slices_Clone_int64Zint64
 obtain ⟨p, c, rfl, hc, hr⟩ := id ha
 show cnd (.bool p.isNone) _ _
 cases p with
 | none =>
  have : l = [] := by
   cases l with
   | nil => rfl
   | cons x r => obtain ⟨ad, h, _⟩ := hr 0 (by simp); cases h
  subst this
  exact hk _ H ⟨none, 0, rfl, by simp, fun h => absurd h (by simp)⟩ (fun b hb => by simp [bk] at hb) (Le.refl H)
 | some p => exact clone_i (b := 8) ha (fun _ => rfl) (by omega) hl (fun _ => hk)
def okSw (l m : List Int) : Prop := isLane l ∧ isLane m ∧ l.length = m.length
instance (l m : List Int) : Decidable (okSw l m) := by unfold okSw; infer_instance
end Go.Proofs.YtnijdhlmimemcaaGreatDoor
/- Life on fields, step by step: the program's and the reference's. -/
namespace Go.Proofs.YtnijdhlmimemcaaGreatDoor
open HL
set_option maxRecDepth 100000
theorem C.spec_l04Counts {va : Value} {l : List Int}  {H : Hp} {K : Value → Hp → Prop} (hva0 : Sl eI H va l) (k1 : l.length ≤ 9223372036854775807)
    (hk : ∀ H', Le H H' → K (.bool (decide (cntP l))) H') : HT prg I.spec_l04Counts [va].toArray H K := by
 have lE := Le.refl H
 have hva := hva0
 refine R.spec_l04Counts ?_
 unfold F.spec_l04Counts
 refine jn_i (fun σ' H' => Le H H' ∧ cntU l l.length ∧ cntV l l.length) (fun σ1 H1 hP => ?_) (fun J1 hJ1 => ?_)
 ·skip
  obtain ⟨lE, ho0⟩ := hP
  skip
  exact keq (K := K) (by rw [decide_eq_true (show (cntP l) from by exact ⟨cntV_all ho0.2 (Nat.le_refl _), ho0.1⟩)]) (hk   _    lE)
 refine ⟨fun n' σ' H' => ∃ i : Nat, n' = l.length - i ∧ i ≤ l.length ∧ σ' 0 = va ∧ σ' 3 = (.int .i64 ((i : Int))) ∧ Le H H' ∧ cntU l i ∧ cntV l i,
  ⟨_, 0, rfl, by omega, rfl, (congrArg (Value.int .i64) (by first | omega | rfl | (simp; done))), lE, ⟨cntU_zero l, cntV_zero l⟩⟩, ?_⟩
 rintro n2 σ2 H2 ⟨i, rfl, hiN, g0L2, g3L2, lE, hpre⟩
 have hva := hva0.le lE
 try simp only [g0L2, g3L2]
 refine ob_i (hva.len) ?_
 refine ob_i (vInt_lss _ _ _) ?_
 refine cnd_d (fun hg3 => ?_) (fun hg3 => ?_)
 ·skip
  have ti := hg3
  refine ob_i (hva.ix (by omega) (by omega)) ?_
  refine ob_i (hva.ld 0 (by omega) (by omega)) ?_
  refine C.spec_l00In  ?_
  refine ⟨Le.refl _, ?_⟩
  refine ob_nd (fun hc4 => ?_) (fun hc4 => ?_)
  ·skip
   refine gop_rf ?_
   refine gop_rf ?_
   refine ob_i (vInt_gtr _ _ _) ?_
   refine gop_rf ?_
   by_cases hc5 : 0 < (i : Int)
   ·skip
    refine gop_e (decide_eq_true hc5) ?_
    refine gop_rt ?_
    refine gop_e (decide_eq_true hc5) ?_
    refine gop_rt ?_
    refine gop_e (decide_eq_true hc5) ?_
    refine gop_rt ?_
    refine ob_i (hva.ix (by omega) (by omega)) ?_
    refine gop_e (decide_eq_true hc5) ?_
    refine gop_rt ?_
    refine ob_i (hva.ld 0 (by omega) (by omega)) ?_
    refine gop_e (decide_eq_true hc5) ?_
    refine gop_rt ?_
    refine gop_e (decide_eq_true hc5) ?_
    refine gop_rt ?_
    refine gop_e (decide_eq_true hc5) ?_
    refine gop_rt ?_
    refine ob_i (vInt_sub (by omega) (by omega)) ?_
    refine gop_e (decide_eq_true hc5) ?_
    refine gop_rt ?_
    refine ob_i (hva.ix (by omega) (by omega)) ?_
    refine gop_e (decide_eq_true hc5) ?_
    refine gop_rt ?_
    refine ob_i (hva.ld 0 (by omega) (by omega)) ?_
    refine gop_e (decide_eq_true hc5) ?_
    refine gop_rt ?_
    refine ob_i (vInt_leq _ _ _) ?_
    refine gop_rf ?_
    refine ob_i (vPick_et (decide_eq_true hc5) _ _) ?_
    refine ob_i (vPick_f _ _) ?_
    refine cnd_d (fun hg6 => ?_) (fun hg6 => ?_)
    ·skip
     refine retK (K := K) (v' := (.bool false)) rfl ?_
     skip
     exact keq (K := K) (by rw [decide_eq_false (show ¬ (cntP l) from by intro h; have h1 := cntP_in h (j := i) (by omega); have h2 := cntP_up h (j := i) (by omega); omega)]) (hk   _    lE)
    ·skip
     refine ob_i (vInt_add (by omega) (by omega)) ?_
     exact nxt (l.length - (i + 1)) (by omega) ⟨i + 1, rfl, by omega, g0L2, (congrArg (Value.int .i64) (by first | omega | rfl | (simp; done))), lE, ⟨cntU_succ hpre.1 (by intro; omega), cntV_succ hpre.2 (by first | assumption | omega)⟩⟩
   ·skip
    refine gop_e (decide_eq_false hc5) ?_
    refine gop_sf ?_
    refine gop_e (decide_eq_false hc5) ?_
    refine gop_sf ?_
    refine gop_e (decide_eq_false hc5) ?_
    refine gop_sf ?_
    refine gop_e (decide_eq_false hc5) ?_
    refine gop_sf ?_
    refine gop_e (decide_eq_false hc5) ?_
    refine gop_sf ?_
    refine gop_e (decide_eq_false hc5) ?_
    refine gop_sf ?_
    refine gop_e (decide_eq_false hc5) ?_
    refine gop_sf ?_
    refine gop_e (decide_eq_false hc5) ?_
    refine gop_sf ?_
    refine gop_e (decide_eq_false hc5) ?_
    refine gop_sf ?_
    refine gop_e (decide_eq_false hc5) ?_
    refine gop_sf ?_
    refine gop_rf ?_
    refine ob_i (vPick_ef (decide_eq_false hc5) _ _) ?_
    refine ob_i (vPick_f _ _) ?_
    refine cnd_f1 ?_
    refine ob_i (vInt_add (by omega) (by omega)) ?_
    exact nxt (l.length - (i + 1)) (by omega) ⟨i + 1, rfl, by omega, g0L2, (congrArg (Value.int .i64) (by first | omega | rfl | (simp; done))), lE, ⟨cntU_succ hpre.1 (by intro; omega), cntV_succ hpre.2 (by first | assumption | omega)⟩⟩
  ·skip
   refine gop_st ?_
   refine gop_st ?_
   refine gop_st ?_
   refine gop_u ?_
   refine gop_u ?_
   refine gop_u ?_
   refine gop_u ?_
   refine gop_u ?_
   refine gop_u ?_
   refine gop_u ?_
   refine gop_u ?_
   refine gop_u ?_
   refine gop_u ?_
   refine gop_st ?_
   refine ob_i (vPick_t _ _) ?_
   refine cnd_t1 ?_
   refine retK (K := K) (v' := (.bool false)) rfl ?_
   skip
   exact keq (K := K) (by rw [decide_eq_false (show ¬ (cntP l) from by intro h; have h1 := cntP_in h (j := i) (by omega); have h2 := cntP_up h (j := i) (by omega); omega)]) (hk   _    lE)
 ·skip
  have ti := hg3
  exact hJ1 _ _ ⟨lE, (by rw [show l.length = i by omega]; exact hpre)⟩
theorem C.impl_areCounts {va : Value} {l : List Int}  {H : Hp} {K : Value → Hp → Prop} (hva0 : Sl eI H va l) (k1 : l.length ≤ 9223372036854775807)
    (hk : ∀ H', Le H H' → K (.bool (decide (cntP l))) H') : HT prg I.impl_areCounts [va].toArray H K := by
 have lE := Le.refl H
 have hva := hva0
 refine R.impl_areCounts ?_
 unfold F.impl_areCounts
 refine jn_i (fun σ' H' => σ' 0 = va ∧ Le H H' ∧ cntU l l.length) (fun σ1 H1 hP => ?_) (fun J1 hJ1 => ?_)
 ·skip
  obtain ⟨g0L1, lE, ho0⟩ := hP
  have hva := hva0.le lE
  try simp only [g0L1]
  refine C.impl_areWithin hva (by first | omega | assumption) ?_
  skip
  exact keq (K := K) (by rw [show decide (∀ x ∈ l, 0 ≤ x ∧ x ≤ 8) = decide (cntP l) from decide_eq_decide.mpr (by exact ⟨fun h => ⟨h, ho0⟩, fun h => h.1⟩)]) (hk   _    lE)
 refine ⟨fun n' σ' H' => ∃ i : Nat, n' = l.length - i ∧ i ≤ l.length ∧ σ' 0 = va ∧ σ' 3 = (.int .i64 ((i : Int) + 1)) ∧ Le H H' ∧ cntU l (i + 1),
  ⟨_, 0, rfl, by omega, rfl, (congrArg (Value.int .i64) (by first | omega | rfl | (simp; done))), lE, cntU_one l⟩, ?_⟩
 rintro n2 σ2 H2 ⟨i, rfl, hiN, g0L2, g3L2, lE, hpre⟩
 have hva := hva0.le lE
 try simp only [g0L2, g3L2]
 refine ob_i (hva.len) ?_
 refine ob_i (vInt_lss _ _ _) ?_
 refine cnd_d (fun hg3 => ?_) (fun hg3 => ?_)
 ·skip
  have ti := hg3
  refine ob_i (hva.ix (by omega) (by omega)) ?_
  refine ob_i (hva.ld 0 (by omega) (by omega)) ?_
  refine ob_i (vInt_sub (by omega) (by omega)) ?_
  refine ob_i (hva.ix (by omega) (by omega)) ?_
  refine ob_i (hva.ld 0 (by omega) (by omega)) ?_
  refine ob_i (vInt_leq _ _ _) ?_
  refine cnd_d (fun hg4 => ?_) (fun hg4 => ?_)
  ·skip
   refine retK (K := K) (v' := (.bool false)) rfl ?_
   skip
   exact keq (K := K) (by rw [decide_eq_false (show ¬ (cntP l) from by intro h; have h2 := cntP_up h (j := i + 1) (by omega); rw [show (((i + 1 : Nat) : Int)) = (i : Int) + 1 by omega] at h2; omega)]) (hk   _    lE)
  ·skip
   refine ob_i (vInt_add (by omega) (by omega)) ?_
   exact nxt (l.length - (i + 1)) (by omega) ⟨i + 1, rfl, by omega, g0L2, (congrArg (Value.int .i64) (by first | omega | rfl | (simp; done))), lE, cntU_succ hpre (by intro; rw [show (((i + 1 : Nat) : Int)) = (i : Int) + 1 by omega]; omega)⟩
 ·skip
  have ti := hg3
  exact hJ1 _ _ ⟨g0L2, lE, cntU_full hpre (by omega)⟩
theorem C.spec_l04Life {w vb vs : Value} {b : List Int} {s : List Int}  {H : Hp} {K : Value → Hp → Prop} (hw0 : Cel H w [vb, vs]) (hvb0 : Sl eI H vb b) (hvs0 : Sl eI H vs s) (kb : b.length ≤ 9223372036854775807) (ks : s.length ≤ 9223372036854775807)
    (hk : ∀ H', Le H H' → K (.bool (decide (lifP b s))) H') : HT prg I.spec_l04Life [w].toArray H K := by
 have lE := Le.refl H
 have hw := hw0
 have hvb := hvb0
 have hvs := hvs0
 refine R.spec_l04Life ?_
 unfold F.spec_l04Life
 refine ob_i (hw.nilC) ?_
 refine ob_i (hw.fa 0) ?_
 refine ob_i (hw.ld 0 rfl) ?_
 refine C.spec_l04Counts hvb (by first | omega | assumption) (fun   H1    le2 => ?_)
 replace hw := hw.le le2
 replace hvs := hvs.le le2
 replace lE := lE.trans le2
 by_cases hc3 : cntP b
 ·skip
  refine gop_e (decide_eq_true hc3) ?_
  refine gop_rt ?_
  refine gop_e (decide_eq_true hc3) ?_
  refine gop_rt ?_
  refine ob_i (hw.nilC) ?_
  refine gop_e (decide_eq_true hc3) ?_
  refine gop_rt ?_
  refine ob_i (hw.fa 1) ?_
  refine gop_e (decide_eq_true hc3) ?_
  refine gop_rt ?_
  refine ob_i (hw.ld 1 rfl) ?_
  refine gop_e (decide_eq_true hc3) ?_
  refine gop_rt ?_
  refine C.spec_l04Counts hvs (by first | omega | assumption) (fun   H4    le5 => ?_)
  replace lE := lE.trans le5
  refine ob_i (vPick_et (decide_eq_true hc3) _ _) ?_
  skip
  exact keq (K := K) (by rw [show decide (cntP s) = decide (lifP b s) from decide_eq_decide.mpr (by exact ⟨fun h => ⟨by assumption, h⟩, fun h => h.2⟩)]) (hk   _    lE)
 ·skip
  refine gop_e (decide_eq_false hc3) ?_
  refine gop_sf ?_
  refine gop_e (decide_eq_false hc3) ?_
  refine gop_sf ?_
  refine gop_e (decide_eq_false hc3) ?_
  refine gop_sf ?_
  refine gop_e (decide_eq_false hc3) ?_
  refine gop_sf ?_
  refine gop_e (decide_eq_false hc3) ?_
  refine gop_sf ?_
  refine ob_i (vPick_ef (decide_eq_false hc3) _ _) ?_
  skip
  have hc_ := hc3
  exact keq (K := K) (by rw [decide_eq_false (show ¬ (lifP b s) from by exact fun h => hc_ h.1)]) (hk   _    lE)
theorem C.impl_ValidLife {vb vs : Value} {b : List Int} {s : List Int}  {H : Hp} {K : Value → Hp → Prop} (hvb0 : Sl eI H vb b) (hvs0 : Sl eI H vs s) (kb : b.length ≤ 9223372036854775807) (ks : s.length ≤ 9223372036854775807)
    (hk : ∀ H', Le H H' → K (.bool (decide (lifP b s))) H') : HT prg I.impl_ValidLife [(.agg #[vb, vs])].toArray H K := by
 have lE := Le.refl H
 have hvb := hvb0
 have hvs := hvs0
 refine R.impl_ValidLife ?_
 unfold F.impl_ValidLife
 refine nw_i (fun p1 H2 op1 nn3 le4 => ?_)
 replace hvb := hvb.le le4
 replace hvs := hvs.le le4
 replace lE := lE.trans le4
 replace op1 : Cel H2 p1 [vb, vs] := op1
 refine ob_i (op1.fa 0) ?_
 refine ob_i (op1.ld 0 rfl) ?_
 refine C.impl_areCounts hvb (by first | omega | assumption) (fun   H5    le6 => ?_)
 replace op1 := op1.le le6
 replace hvs := hvs.le le6
 replace lE := lE.trans le6
 by_cases hc7 : cntP b
 ·skip
  refine gop_e (decide_eq_true hc7) ?_
  refine gop_rt ?_
  refine ob_i (op1.fa 1) ?_
  refine gop_e (decide_eq_true hc7) ?_
  refine gop_rt ?_
  refine ob_i (op1.ld 1 rfl) ?_
  refine gop_e (decide_eq_true hc7) ?_
  refine gop_rt ?_
  refine C.impl_areCounts hvs (by first | omega | assumption) (fun   H8    le9 => ?_)
  replace lE := lE.trans le9
  refine ob_i (vPick_et (decide_eq_true hc7) _ _) ?_
  skip
  exact keq (K := K) (by rw [show decide (cntP s) = decide (lifP b s) from decide_eq_decide.mpr (by exact ⟨fun h => ⟨by assumption, h⟩, fun h => h.2⟩)]) (hk   _    lE)
 ·skip
  refine gop_e (decide_eq_false hc7) ?_
  refine gop_sf ?_
  refine gop_e (decide_eq_false hc7) ?_
  refine gop_sf ?_
  refine gop_e (decide_eq_false hc7) ?_
  refine gop_sf ?_
  refine ob_i (vPick_ef (decide_eq_false hc7) _ _) ?_
  skip
  have hc_ := hc7
  exact keq (K := K) (by rw [decide_eq_false (show ¬ (lifP b s) from by exact fun h => hc_ h.1)]) (hk   _    lE)
theorem C.spec_l04Can {w p vb vs vc : Value} {r c : Int} {b : List Int} {s : List Int} {l : List Int}  {H : Hp} {K : Value → Hp → Prop} (hw0 : Cel H w [vb, vs]) (hp0 : Cel H p [(.int .i64 (r)), (.int .i64 (c)), vc]) (hvb0 : Sl eI H vb b) (hvs0 : Sl eI H vs s) (hvc0 : Sl eI H vc l) (kb : b.length ≤ 9223372036854775807) (ks : s.length ≤ 9223372036854775807) (k1 : l.length ≤ 9223372036854775807)
    (hk : ∀ H', Le H H' → K (.bool (decide (canP b s r c l))) H') : HT prg I.spec_l04Can [w, p].toArray H K := by
 have lE := Le.refl H
 have hw := hw0
 have hp := hp0
 have hvb := hvb0
 have hvs := hvs0
 have hvc := hvc0
 refine R.spec_l04Can ?_
 unfold F.spec_l04Can
 refine C.spec_l04Life hw hvb hvs (by first | omega | assumption) (by first | omega | assumption) (fun   H1    le2 => ?_)
 replace hp := hp.le le2
 replace hvc := hvc.le le2
 replace lE := lE.trans le2
 by_cases hc3 : lifP b s
 ·skip
  refine gop_e (decide_eq_true hc3) ?_
  refine gop_rt ?_
  refine gop_e (decide_eq_true hc3) ?_
  refine gop_rt ?_
  refine C.spec_l04Plain hp hvc (by first | omega | assumption) ?_
  refine ob_i (vPick_et (decide_eq_true hc3) _ _) ?_
  skip
  exact keq (K := K) (by rw [show decide (fieldN 1 r c l) = decide (canP b s r c l) from decide_eq_decide.mpr (by exact ⟨fun h => ⟨by assumption, h⟩, fun h => h.2⟩)]) (hk   _    lE)
 ·skip
  refine gop_e (decide_eq_false hc3) ?_
  refine gop_sf ?_
  refine gop_e (decide_eq_false hc3) ?_
  refine gop_sf ?_
  refine ob_i (vPick_ef (decide_eq_false hc3) _ _) ?_
  skip
  have hc_ := hc3
  exact keq (K := K) (by rw [decide_eq_false (show ¬ (canP b s r c l) from by exact fun h => hc_ h.1)]) (hk   _    lE)
theorem C.spec_l04Own {p vc : Value} {r c : Int} {l : List Int}  {H : Hp} {K : Value → Hp → Prop} (hp0 : Cel H p [(.int .i64 (r)), (.int .i64 (c)), vc]) (hvc0 : Sl eI H vc l) (k2 : l.length ≤ 68719476736)
    (hk : ∀ u1 H', Own eI H' u1 l → Nw H u1 → Le H H' → K (.agg #[(.int .i64 (r)), (.int .i64 (c)), u1]) H') : HT prg I.spec_l04Own [p].toArray H K := by
 have lE := Le.refl H
 have hp := hp0
 have hvc := hvc0
 refine R.spec_l04Own ?_
 unfold F.spec_l04Own
 refine nw_i (fun p1 H2 op1 nn3 le4 => ?_)
 have np1 : Nw H p1 := nn3.le lE
 replace hp := hp.le le4
 replace hvc := hvc.le le4
 replace lE := lE.trans le4
 replace op1 : Cel H2 p1 [(.int .i64 (0)), (.int .i64 (0)), (.slice none 0 0)] := op1
 refine ob_i (hp.nilC) ?_
 refine ob_i (hp.fa 0) ?_
 refine ob_i (hp.ld 0 rfl) ?_
 refine ob_i (hp.nilC) ?_
 refine ob_i (hp.fa 1) ?_
 refine ob_i (hp.ld 1 rfl) ?_
 refine ob_i (hp.nilC) ?_
 refine ob_i (hp.fa 2) ?_
 refine ob_i (hp.ld 2 rfl) ?_
 refine bS_nil (enc := eI) (fun u5 H6 ou5 nn7 kk8 le9 => ?_)
 replace op1 := op1.le le9
 replace hp := hp.le le9
 replace hvc := hvc.le le9
 replace lE := lE.trans le9
 refine apd_nil ou5 kk8 hvc (fun _ => rfl) (by omega) (by omega) (fun u13 H10 ou13 nn14 le15 => ?_)
 have ap1Xu13 : Apart p1 u13 := op1.apart nn14
 have nu13 : Nw H u13 := nn14.le lE
 replace op1 := op1.le le15
 replace hp := hp.le le15
 replace hvc := hvc.le le15
 replace lE := lE.trans le15
 refine ⟨le15, ?_⟩
 refine ob_i (a := (.agg #[(.int .i64 (r)), (.int .i64 (c)), u13])) (by obtain ⟨_, _, _, rfl⟩ := ou13.isSl; rfl) ?_
 refine op1.stn (ws := [(.int .i64 (r)), (.int .i64 (c)), u13]) rfl rfl (oc1 rfl (oc1 rfl (oc1 ou13.one oc0))) (fun H16 op1 off17 => ?_)
 replace ou13 := ou13.off off17 ap1Xu13.symm
 replace hp := hp0.le (off17.le lE np1)
 replace hvc := hvc0.le (off17.le lE np1)
 replace lE := off17.le lE np1
 replace op1 : Cel H16 p1 [(.int .i64 (r)), (.int .i64 (c)), u13] := op1
 refine ob_i (op1.ldn rfl) ?_
 skip
 exact hk  u13 _ ou13 nu13  lE
theorem C.impl_copyField {vc : Value} {r c : Int} {l : List Int}  {H : Hp} {K : Value → Hp → Prop} (hvc0 : Sl eI H vc l) (k2 : l.length ≤ 68719476736)
    (hk : ∀ u1 H', Own eI H' u1 l → Nw H u1 → Le H H' → K (.agg #[(.int .i64 (r)), (.int .i64 (c)), u1]) H') : HT prg I.impl_copyField [(.agg #[(.int .i64 (r)), (.int .i64 (c)), vc])].toArray H K := by
 have lE := Le.refl H
 have hvc := hvc0
 refine R.impl_copyField ?_
 unfold F.impl_copyField
 refine nw_i (fun p1 H2 op1 nn3 le4 => ?_)
 have np1 : Nw H p1 := nn3.le lE
 replace hvc := hvc.le le4
 replace lE := lE.trans le4
 replace op1 : Cel H2 p1 [(.int .i64 (r)), (.int .i64 (c)), vc] := op1
 refine nw_i (fun p5 H6 op5 nn7 le8 => ?_)
 have ap1Xp5 : Apart p1 p5 := op1.apart nn7
 have np5 : Nw H p5 := nn7.le lE
 replace op1 := op1.le le8
 replace hvc := hvc.le le8
 replace lE := lE.trans le8
 replace op5 : Cel H6 p5 [(.int .i64 (0)), (.int .i64 (0)), (.slice none 0 0)] := op5
 refine ob_i (op1.fa 2) ?_
 refine ob_i (op1.ld 2 rfl) ?_
 refine C.slices_Clone_int64Zint64 hvc (by first | omega | assumption) (fun  u11 H9 ou11 nn12  le10 => ?_)
 have ap1Xu11 : Apart p1 u11 := op1.apart nn12
 have ap5Xu11 : Apart p5 u11 := op5.apart nn12
 have nu11 : Nw H u11 := nn12.le lE
 replace op1 := op1.le le10
 replace op5 := op5.le le10
 replace hvc := hvc.le le10
 replace lE := lE.trans le10
 refine ob_i (op1.fa 2) ?_
 refine op1.st (by simp) ou11.one ou11.cells (fun H13 op1 off14 => ?_)
 replace op5 := op5.off off14 ap1Xp5.symm
 replace ou11 := ou11.off off14 ap1Xu11.symm
 replace hvc := hvc0.le (off14.le lE np1)
 replace lE := off14.le lE np1
 replace op1 : Cel H13 p1 [(.int .i64 (r)), (.int .i64 (c)), u11] := op1
 refine ob_i (op1.ldn rfl) ?_
 refine op5.stn (ws := [(.int .i64 (r)), (.int .i64 (c)), u11]) rfl rfl (oc1 rfl (oc1 rfl (oc1 ou11.one oc0))) (fun H15 op5 off16 => ?_)
 replace ou11 := ou11.off off16 ap5Xu11.symm
 replace hvc := hvc0.le (off16.le lE np5)
 replace lE := off16.le lE np5
 replace op5 : Cel H15 p5 [(.int .i64 (r)), (.int .i64 (c)), u11] := op5
 refine ob_i (op5.ldn rfl) ?_
 skip
 exact hk  u11 _ ou11 nu11  lE
theorem C.spec_l04Has {va : Value} {x : Int} {l : List Int}  {H : Hp} {K : Value → Hp → Prop} (hva0 : Sl eI H va l) (k1 : l.length ≤ 9223372036854775807)
    (hk : ∀ H', Le H H' → K (.bool (decide (x ∈ l))) H') : HT prg I.spec_l04Has [va, (.int .i64 (x))].toArray H K := by
 have lE := Le.refl H
 have hva := hva0
 refine R.spec_l04Has ?_
 unfold F.spec_l04Has
 refine jn_i (fun σ' H' => Le H H' ∧ x ∉ l) (fun σ1 H1 hP => ?_) (fun J1 hJ1 => ?_)
 ·skip
  obtain ⟨lE, ho0⟩ := hP
  skip
  exact keq (K := K) (by rw [decide_eq_false (show ¬ (x ∈ l) from by exact ho0)]) (hk   _    lE)
 refine ⟨fun n' σ' H' => ∃ i : Nat, n' = l.length - i ∧ i ≤ l.length ∧ σ' 0 = va ∧ σ' 1 = (.int .i64 (x)) ∧ σ' 5 = (.int .i64 ((i : Int))) ∧ Le H H' ∧ x ∉ l.take i,
  ⟨_, 0, rfl, by omega, rfl, rfl, (congrArg (Value.int .i64) (by first | omega | rfl | (simp; done))), lE, by simp⟩, ?_⟩
 rintro n2 σ2 H2 ⟨i, rfl, hiN, g0L2, g1L2, g5L2, lE, hm0⟩
 have hva := hva0.le lE
 try simp only [g0L2, g1L2, g5L2]
 refine ob_i (hva.len) ?_
 refine ob_i (vInt_lss _ _ _) ?_
 refine cnd_d (fun hg3 => ?_) (fun hg3 => ?_)
 ·skip
  have ti := hg3
  refine ob_i (hva.ix (by omega) (by omega)) ?_
  refine ob_i (hva.ld 0 (by omega) (by omega)) ?_
  refine ob_i (vInt_eql _ _ _) ?_
  refine cnd_d (fun hg4 => ?_) (fun hg4 => ?_)
  ·skip
   refine retK (K := K) (v' := (.bool true)) rfl ?_
   skip
   have hg_ := hg4
   exact keq (K := K) (by rw [decide_eq_true (show (x ∈ l) from by rw [← hg_]; exact at_mem 0 l (by omega) (by omega))]) (hk   _    lE)
  ·skip
   refine ob_i (vInt_add (by omega) (by omega)) ?_
   exact nxt (l.length - (i + 1)) (by omega) ⟨i + 1, rfl, by omega, g0L2, g1L2, (congrArg (Value.int .i64) (by first | omega | rfl | (simp; done))), lE, notin_succ hm0 (by omega) hg4⟩
 ·skip
  have ti := hg3
  exact hJ1 _ _ ⟨lE, (by rw [List.take_of_length_le (by omega)] at hm0; exact hm0)⟩
theorem C.slices_Index_int64Zint64 {va : Value} {x : Int} {l : List Int}  {H : Hp} {K : Value → Hp → Prop} (hva0 : Sl eI H va l) (k1 : l.length ≤ 9223372036854775807)
    (hk : ∀ H', Le H H' → K (.int .i64 (idxL x l)) H') : HT prg I.slices_Index_int64Zint64 [va, (.int .i64 (x))].toArray H K := by
 have lE := Le.refl H
 have hva := hva0
 refine R.slices_Index_int64Zint64 ?_
 unfold F.slices_Index_int64Zint64
 refine jn_i (fun σ' H' => Le H H' ∧ x ∉ l) (fun σ1 H1 hP => ?_) (fun J1 hJ1 => ?_)
 ·skip
  obtain ⟨lE, ho0⟩ := hP
  skip
  exact keq (K := K) (by rw [show ((idxL x l) : Int) = ((-1)) from by exact idxL_not ho0]) (hk   _    lE)
 refine ob_i (hva.len) ?_
 refine ⟨fun n' σ' H' => ∃ i : Nat, n' = l.length - i ∧ i ≤ l.length ∧ σ' 0 = va ∧ σ' 1 = (.int .i64 (x)) ∧ σ' 7 = (.int .i64 (((l).length : Int))) ∧ σ' 8 = (.int .i64 ((i : Int))) ∧ Le H H' ∧ x ∉ l.take i,
  ⟨_, 0, rfl, by omega, rfl, rfl, rfl, (congrArg (Value.int .i64) (by first | omega | rfl | (simp; done))), lE, by simp⟩, ?_⟩
 rintro n2 σ2 H2 ⟨i, rfl, hiN, g0L2, g1L2, g7L2, g8L2, lE, hm0⟩
 have hva := hva0.le lE
 try simp only [g0L2, g1L2, g7L2, g8L2]
 refine ob_i (vInt_lss _ _ _) ?_
 refine cnd_d (fun hg3 => ?_) (fun hg3 => ?_)
 ·skip
  have ti := hg3
  refine ob_i (hva.ix (by omega) (by omega)) ?_
  refine ob_i (hva.ld 0 (by omega) (by omega)) ?_
  refine ob_i (vInt_eql _ _ _) ?_
  refine cnd_d (fun hg4 => ?_) (fun hg4 => ?_)
  ·skip
   refine retK (K := K) (v' := (.int .i64 ((i : Int)))) rfl ?_
   skip
   exact keq (K := K) (by rw [show (((i : Int)) : Int) = (idxL x l) from by exact (idxL_at hm0 (by omega) hg4.symm).symm]) (hk   _    lE)
  ·skip
   refine ob_i (vInt_add (by omega) (by omega)) ?_
   exact nxt (l.length - (i + 1)) (by omega) ⟨i + 1, rfl, by omega, g0L2, g1L2, g7L2, (congrArg (Value.int .i64) (by first | omega | rfl | (simp; done))), lE, notin_succ hm0 (by omega) (fun h => hg4 h.symm)⟩
 ·skip
  have ti := hg3
  exact hJ1 _ _ ⟨lE, (by rw [List.take_of_length_le (by omega)] at hm0; exact hm0)⟩
theorem C.slices_Contains_int64Zint64 {va : Value} {x : Int} {l : List Int}  {H : Hp} {K : Value → Hp → Prop} (hva0 : Sl eI H va l) (k1 : l.length ≤ 9223372036854775807)
    (hk : ∀ H', Le H H' → K (.bool (decide (x ∈ l))) H') : HT prg I.slices_Contains_int64Zint64 [va, (.int .i64 (x))].toArray H K := by
 have lE := Le.refl H
 have hva := hva0
 refine R.slices_Contains_int64Zint64 ?_
 unfold F.slices_Contains_int64Zint64
 refine C.slices_Index_int64Zint64 hva (by first | omega | assumption) (fun   H1    le2 => ?_)
 replace lE := lE.trans le2
 refine ob_i (vInt_geq _ _ _) ?_
 skip
 exact keq (K := K) (by rw [show decide (0 ≤ (idxL x l)) = decide (x ∈ l) from decide_eq_decide.mpr (by exact idxL_mem)]) (hk   _    lE)
theorem C.impl_bit {q : Bool}  {H : Hp} {K : Value → Hp → Prop}
    (hk : K (.int .i64 (if q = true then 1 else 0)) H) : HT prg I.impl_bit [(.bool (q))].toArray H K := by
 have lE := Le.refl H
 refine R.impl_bit ?_
 unfold F.impl_bit
 refine cnd_i (fun hg1 => ?_) (fun hg1 => ?_)
 ·skip
  skip
  exact keq (K := K) (by rw [show ((if q = true then 1 else 0) : Int) = (1) from by rw [if_pos hg1]]) (hk )
 ·skip
  skip
  exact keq (K := K) (by rw [show ((if q = true then 1 else 0) : Int) = (0) from by rw [if_neg (by rw [hg1]; simp)]]) (hk )
theorem C.spec_l04Around {p vc : Value} {i k r c : Int} {rnd : Bool} {l : List Int}  {H : Hp} {K : Value → Hp → Prop} (hp0 : Cel H p [(.int .i64 (r)), (.int .i64 (c)), vc]) (hvc0 : Sl eI H vc l) (hf : fieldN 1 r c l) (i0 : 0 ≤ i) (i1 : i < r) (j0 : 0 ≤ k) (j1 : k < c)
    (hk : ∀ H', Le H H' → K (.int .i64 (arF rnd r c l i k)) H') : HT prg I.spec_l04Around [p, (.int .i64 (i)), (.int .i64 (k)), (.bool (rnd))].toArray H K := by
 have lE := Le.refl H
 have hp := hp0
 have hvc := hvc0
 refine R.spec_l04Around ?_
 unfold F.spec_l04Around
 have hs := hf.1
 have hl := hf.2.1
 have q1 := hs.1
 have q2 := hs.2
 have qm := sidesF_mul hs
 refine jn_i (fun σ' H' => σ' 9 = (.int .i64 (sumF (fun a => sumF (fun b => skF rnd r c l i k (i - 1 + a) (k - 1 + b)) 3) 3)) ∧ Le H H') (fun σ1 H1 hP => ?_) (fun J1 hJ1 => ?_)
 ·skip
  obtain ⟨g9L1, lE⟩ := hP
  try simp only [g9L1]
  skip
  exact keq (K := K) (by rw [show ((sumF (fun a => sumF (fun b => skF rnd r c l i k (i - 1 + a) (k - 1 + b)) 3) 3) : Int) = (arF rnd r c l i k) from by rfl]) (hk   _    lE)
 refine ob_i (vInt_sub (by omega) (by omega)) ?_
 refine ⟨fun n' σ' H' => ∃ t : Nat, n' = 3 - t ∧ t ≤ 3 ∧ σ' 0 = p ∧ σ' 1 = (.int .i64 (i)) ∧ σ' 2 = (.int .i64 (k)) ∧ σ' 3 = (.bool (rnd)) ∧ σ' 9 = (.int .i64 (sumF (fun a => sumF (fun b => skF rnd r c l i k (i - 1 + a) (k - 1 + b)) 3) t)) ∧ σ' 10 = (.int .i64 (i - 1 + (t : Int))) ∧ Le H H',
  ⟨_, 0, rfl, by omega, rfl, rfl, rfl, rfl, (congrArg (Value.int .i64) (by first | omega | rfl | (simp; done))), (congrArg (Value.int .i64) (by first | omega | rfl | (simp; done))), lE⟩, ?_⟩
 rintro n2 σ2 H2 ⟨t, rfl, htN, g0L2, g1L2, g2L2, g3L2, g9L2, g10L2, lE⟩
 have hp := hp0.le lE
 have hvc := hvc0.le lE
 try simp only [g0L2, g1L2, g2L2, g3L2, g9L2, g10L2]
 have bO := sumF_bnd (f := fun a => sumF (fun b => skF rnd r c l i k (i - 1 + a) (k - 1 + b)) 3) (a := 0) (b := 3) (fun a => by have := sumF_bnd (f := fun b => skF rnd r c l i k (i - 1 + a) (k - 1 + b)) (fun b => skF_01 hf i k _ _) 3; omega) t
 have zI := sumF_zero (fun b => skF rnd r c l i k (i - 1 + (t : Int)) (k - 1 + b))
 refine ob_i (vInt_add (by omega) (by omega)) ?_
 refine ob_i (vInt_leq _ _ _) ?_
 refine cnd_d (fun hg3 => ?_) (fun hg3 => ?_)
 ·skip
  have tt := hg3
  refine jn_i (fun σ' H' => σ' 0 = p ∧ σ' 1 = (.int .i64 (i)) ∧ σ' 2 = (.int .i64 (k)) ∧ σ' 3 = (.bool (rnd)) ∧ σ' 9 = (.int .i64 (sumF (fun a => sumF (fun b => skF rnd r c l i k (i - 1 + a) (k - 1 + b)) 3) (t + 1))) ∧ σ' 10 = (.int .i64 (i - 1 + (t : Int))) ∧ Le H H') (fun σ4 H4 hP => ?_) (fun J4 hJ4 => ?_)
  ·skip
   obtain ⟨g0L4, g1L4, g2L4, g3L4, g9L4, g10L4, lE⟩ := hP
   try simp only [g10L4]
   refine ob_i (vInt_add (by omega) (by omega)) ?_
   exact nxt (3 - (t + 1)) (by omega) ⟨t + 1, rfl, by omega, g0L4, g1L4, g2L4, g3L4, (g9L4.trans (congrArg (Value.int .i64) (by first | omega | rfl | (simp; done)))), (congrArg (Value.int .i64) (by first | omega | rfl | (simp; done))), lE⟩
  refine ob_i (vInt_sub (by omega) (by omega)) ?_
  refine ⟨fun n' σ' H' => ∃ u : Nat, n' = 3 - u ∧ u ≤ 3 ∧ σ' 0 = p ∧ σ' 1 = (.int .i64 (i)) ∧ σ' 2 = (.int .i64 (k)) ∧ σ' 3 = (.bool (rnd)) ∧ σ' 9 = (.int .i64 (sumF (fun a => sumF (fun b => skF rnd r c l i k (i - 1 + a) (k - 1 + b)) 3) t + sumF (fun b => skF rnd r c l i k (i - 1 + (t : Int)) (k - 1 + b)) u)) ∧ σ' 10 = (.int .i64 (i - 1 + (t : Int))) ∧ σ' 11 = (.int .i64 (k - 1 + (u : Int))) ∧ Le H H',
   ⟨_, 0, rfl, by omega, g0L2, g1L2, g2L2, g3L2, (g9L2.trans (congrArg (Value.int .i64) (by first | omega | rfl | (simp; done)))), g10L2, (congrArg (Value.int .i64) (by first | omega | rfl | (simp; done))), lE⟩, ?_⟩
  rintro n5 σ5 H5 ⟨u, rfl, huN, g0L5, g1L5, g2L5, g3L5, g9L5, g10L5, g11L5, lE⟩
  have hp := hp0.le lE
  have hvc := hvc0.le lE
  try simp only [g0L5, g1L5, g2L5, g3L5, g9L5, g10L5, g11L5]
  have bI := sumF_bnd (f := fun b => skF rnd r c l i k (i - 1 + (t : Int)) (k - 1 + b)) (fun b => skF_01 hf i k _ _) u
  have bR := roundF_lt (i := i - 1 + (t : Int)) (k := k - 1 + (u : Int)) hs
  have bV := fieldN_at hf (i := roundF r c (i - 1 + (t : Int)) (k - 1 + (u : Int))) (by omega) (by omega)
  refine ob_i (vInt_add (by omega) (by omega)) ?_
  refine ob_i (vInt_leq _ _ _) ?_
  refine cnd_d (fun hg6 => ?_) (fun hg6 => ?_)
  ·skip
   have tu := hg6
   refine ob_i (vInt_eql _ _ _) ?_
   by_cases hc7 : (i - 1 + (t : Int)) = i
   ·skip
    refine gop_e (decide_eq_true hc7) ?_
    refine gop_rt ?_
    refine gop_e (decide_eq_true hc7) ?_
    refine gop_rt ?_
    refine gop_e (decide_eq_true hc7) ?_
    refine gop_rt ?_
    refine ob_i (vInt_eql _ _ _) ?_
    refine ob_i (vPick_et (decide_eq_true hc7) _ _) ?_
    refine cnd_d (fun hg8 => ?_) (fun hg8 => ?_)
    ·skip
     refine ob_i (vInt_add (by omega) (by omega)) ?_
     have e3 : skF rnd r c l i k (i - 1 + (t : Int)) (k - 1 + (u : Int)) = 0 := by rw [skF_eq]; first | rw [if_pos (by omega)] | (rw [if_neg (by omega)]; first | rw [if_pos (by first | (left; assumption) | (right; omega))] | rw [if_neg (by rintro (h | h) <;> first | omega | exact absurd h (by assumption))])
     have eS : sumF (fun b => skF rnd r c l i k (i - 1 + (t : Int)) (k - 1 + b)) (u + 1) = sumF (fun b => skF rnd r c l i k (i - 1 + (t : Int)) (k - 1 + b)) u + skF rnd r c l i k (i - 1 + (t : Int)) (k - 1 + (u : Int)) := rfl
     exact nxt (3 - (u + 1)) (by omega) ⟨u + 1, rfl, by omega, g0L5, g1L5, g2L5, g3L5, (g9L5.trans (congrArg (Value.int .i64) (by first | omega | rfl | (simp; done)))), g10L5, (congrArg (Value.int .i64) (by first | omega | rfl | (simp; done))), lE⟩
    ·skip
     by_cases hc9 : (rnd) = true
     ·skip
      refine gop_e (hc9) ?_
      refine gop_st ?_
      refine gop_e (hc9) ?_
      refine gop_st ?_
      refine gop_e (hc9) ?_
      refine gop_st ?_
      refine gop_e (hc9) ?_
      refine gop_st ?_
      refine gop_e (hc9) ?_
      refine gop_st ?_
      refine gop_e (hc9) ?_
      refine gop_st ?_
      refine gop_e (hc9) ?_
      refine gop_st ?_
      refine gop_e (hc9) ?_
      refine gop_st ?_
      refine gop_u ?_
      refine gop_u ?_
      refine gop_u ?_
      refine gop_u ?_
      refine gop_u ?_
      refine gop_u ?_
      refine gop_u ?_
      refine gop_e (hc9) ?_
      refine gop_st ?_
      refine ob_i (vPick_et (hc9) _ _) ?_
      refine cnd_t1 ?_
      refine ob_i (hp.nilC) ?_
      refine ob_i (hp.fa 2) ?_
      refine ob_i (hp.ld 2 rfl) ?_
      refine C.spec_l04Round hp (by first | omega | assumption) ?_
      refine ⟨Le.refl _, ?_⟩
      refine ob_i (hvc.ix (by omega) (by omega)) ?_
      refine ob_i (hvc.ld 0 (by omega) (by omega)) ?_
      refine ob_i (vInt_add (by omega) (by omega)) ?_
      refine ob_i (vInt_add (by omega) (by omega)) ?_
      have e3 : skF rnd r c l i k (i - 1 + (t : Int)) (k - 1 + (u : Int)) = at_ 0 l (roundF r c (i - 1 + (t : Int)) (k - 1 + (u : Int))) := by rw [skF_eq]; first | rw [if_pos (by omega)] | (rw [if_neg (by omega)]; first | rw [if_pos (by first | (left; assumption) | (right; omega))] | rw [if_neg (by rintro (h | h) <;> first | omega | exact absurd h (by assumption))])
      have eS : sumF (fun b => skF rnd r c l i k (i - 1 + (t : Int)) (k - 1 + b)) (u + 1) = sumF (fun b => skF rnd r c l i k (i - 1 + (t : Int)) (k - 1 + b)) u + skF rnd r c l i k (i - 1 + (t : Int)) (k - 1 + (u : Int)) := rfl
      exact nxt (3 - (u + 1)) (by omega) ⟨u + 1, rfl, by omega, g0L5, g1L5, g2L5, g3L5, (congrArg (Value.int .i64) (by first | omega | rfl | (simp; done))), g10L5, (congrArg (Value.int .i64) (by first | omega | rfl | (simp; done))), lE⟩
     ·skip
      refine gop_e (eq_false_of_ne_true hc9) ?_
      refine gop_rf ?_
      refine gop_e (eq_false_of_ne_true hc9) ?_
      refine gop_rf ?_
      refine gop_e (eq_false_of_ne_true hc9) ?_
      refine gop_rf ?_
      refine ob_i (hp.nilC) ?_
      refine gop_e (eq_false_of_ne_true hc9) ?_
      refine gop_rf ?_
      refine ob_i (hp.fa 0) ?_
      refine gop_e (eq_false_of_ne_true hc9) ?_
      refine gop_rf ?_
      refine ob_i (hp.ld 0 rfl) ?_
      refine gop_e (eq_false_of_ne_true hc9) ?_
      refine gop_rf ?_
      refine ob_i (vInt_sub (by omega) (by omega)) ?_
      refine gop_e (eq_false_of_ne_true hc9) ?_
      refine gop_rf ?_
      refine C.spec_l00In  ?_
      refine gop_e (eq_false_of_ne_true hc9) ?_
      refine gop_rf ?_
      by_cases hc10 : 0 ≤ (i - 1 + (t : Int)) ∧ (i - 1 + (t : Int)) ≤ (r - 1)
      ·skip
       refine gop_e (decide_eq_true hc10) ?_
       refine gop_rt ?_
       refine gop_e (decide_eq_true hc10) ?_
       refine gop_rt ?_
       refine gop_e (decide_eq_true hc10) ?_
       refine gop_rt ?_
       refine ob_i (hp.nilC) ?_
       refine gop_e (decide_eq_true hc10) ?_
       refine gop_rt ?_
       refine ob_i (hp.fa 1) ?_
       refine gop_e (decide_eq_true hc10) ?_
       refine gop_rt ?_
       refine ob_i (hp.ld 1 rfl) ?_
       refine gop_e (decide_eq_true hc10) ?_
       refine gop_rt ?_
       refine ob_i (vInt_sub (by omega) (by omega)) ?_
       refine gop_e (decide_eq_true hc10) ?_
       refine gop_rt ?_
       refine C.spec_l00In  ?_
       refine gop_e (eq_false_of_ne_true hc9) ?_
       refine gop_rf ?_
       refine ob_i (vPick_et (decide_eq_true hc10) _ _) ?_
       refine ob_i (vPick_ef (eq_false_of_ne_true hc9) _ _) ?_
       refine cnd_d (fun hg11 => ?_) (fun hg11 => ?_)
       ·skip
        refine ob_i (hp.nilC) ?_
        refine ob_i (hp.fa 2) ?_
        refine ob_i (hp.ld 2 rfl) ?_
        refine C.spec_l04Round hp (by first | omega | assumption) ?_
        refine ⟨Le.refl _, ?_⟩
        refine ob_i (hvc.ix (by omega) (by omega)) ?_
        refine ob_i (hvc.ld 0 (by omega) (by omega)) ?_
        refine ob_i (vInt_add (by omega) (by omega)) ?_
        refine ob_i (vInt_add (by omega) (by omega)) ?_
        have e3 : skF rnd r c l i k (i - 1 + (t : Int)) (k - 1 + (u : Int)) = at_ 0 l (roundF r c (i - 1 + (t : Int)) (k - 1 + (u : Int))) := by rw [skF_eq]; first | rw [if_pos (by omega)] | (rw [if_neg (by omega)]; first | rw [if_pos (by first | (left; assumption) | (right; omega))] | rw [if_neg (by rintro (h | h) <;> first | omega | exact absurd h (by assumption))])
        have eS : sumF (fun b => skF rnd r c l i k (i - 1 + (t : Int)) (k - 1 + b)) (u + 1) = sumF (fun b => skF rnd r c l i k (i - 1 + (t : Int)) (k - 1 + b)) u + skF rnd r c l i k (i - 1 + (t : Int)) (k - 1 + (u : Int)) := rfl
        exact nxt (3 - (u + 1)) (by omega) ⟨u + 1, rfl, by omega, g0L5, g1L5, g2L5, g3L5, (congrArg (Value.int .i64) (by first | omega | rfl | (simp; done))), g10L5, (congrArg (Value.int .i64) (by first | omega | rfl | (simp; done))), lE⟩
       ·skip
        refine ob_i (vInt_add (by omega) (by omega)) ?_
        have e3 : skF rnd r c l i k (i - 1 + (t : Int)) (k - 1 + (u : Int)) = 0 := by rw [skF_eq]; first | rw [if_pos (by omega)] | (rw [if_neg (by omega)]; first | rw [if_pos (by first | (left; assumption) | (right; omega))] | rw [if_neg (by rintro (h | h) <;> first | omega | exact absurd h (by assumption))])
        have eS : sumF (fun b => skF rnd r c l i k (i - 1 + (t : Int)) (k - 1 + b)) (u + 1) = sumF (fun b => skF rnd r c l i k (i - 1 + (t : Int)) (k - 1 + b)) u + skF rnd r c l i k (i - 1 + (t : Int)) (k - 1 + (u : Int)) := rfl
        exact nxt (3 - (u + 1)) (by omega) ⟨u + 1, rfl, by omega, g0L5, g1L5, g2L5, g3L5, (g9L5.trans (congrArg (Value.int .i64) (by first | omega | rfl | (simp; done)))), g10L5, (congrArg (Value.int .i64) (by first | omega | rfl | (simp; done))), lE⟩
      ·skip
       refine gop_e (decide_eq_false hc10) ?_
       refine gop_sf ?_
       refine gop_e (decide_eq_false hc10) ?_
       refine gop_sf ?_
       refine gop_e (decide_eq_false hc10) ?_
       refine gop_sf ?_
       refine gop_e (decide_eq_false hc10) ?_
       refine gop_sf ?_
       refine gop_e (decide_eq_false hc10) ?_
       refine gop_sf ?_
       refine gop_e (decide_eq_false hc10) ?_
       refine gop_sf ?_
       refine gop_e (decide_eq_false hc10) ?_
       refine gop_sf ?_
       refine gop_e (eq_false_of_ne_true hc9) ?_
       refine gop_rf ?_
       refine ob_i (vPick_ef (decide_eq_false hc10) _ _) ?_
       refine ob_i (vPick_ef (eq_false_of_ne_true hc9) _ _) ?_
       refine cnd_f1 ?_
       refine ob_i (vInt_add (by omega) (by omega)) ?_
       have e3 : skF rnd r c l i k (i - 1 + (t : Int)) (k - 1 + (u : Int)) = 0 := by rw [skF_eq]; first | rw [if_pos (by omega)] | (rw [if_neg (by omega)]; first | rw [if_pos (by first | (left; assumption) | (right; omega))] | rw [if_neg (by rintro (h | h) <;> first | omega | exact absurd h (by assumption))])
       have eS : sumF (fun b => skF rnd r c l i k (i - 1 + (t : Int)) (k - 1 + b)) (u + 1) = sumF (fun b => skF rnd r c l i k (i - 1 + (t : Int)) (k - 1 + b)) u + skF rnd r c l i k (i - 1 + (t : Int)) (k - 1 + (u : Int)) := rfl
       exact nxt (3 - (u + 1)) (by omega) ⟨u + 1, rfl, by omega, g0L5, g1L5, g2L5, g3L5, (g9L5.trans (congrArg (Value.int .i64) (by first | omega | rfl | (simp; done)))), g10L5, (congrArg (Value.int .i64) (by first | omega | rfl | (simp; done))), lE⟩
   ·skip
    refine gop_e (decide_eq_false hc7) ?_
    refine gop_sf ?_
    refine gop_e (decide_eq_false hc7) ?_
    refine gop_sf ?_
    refine gop_e (decide_eq_false hc7) ?_
    refine gop_sf ?_
    refine ob_i (vPick_ef (decide_eq_false hc7) _ _) ?_
    refine cnd_f1 ?_
    by_cases hc12 : (rnd) = true
    ·skip
     refine gop_e (hc12) ?_
     refine gop_st ?_
     refine gop_e (hc12) ?_
     refine gop_st ?_
     refine gop_e (hc12) ?_
     refine gop_st ?_
     refine gop_e (hc12) ?_
     refine gop_st ?_
     refine gop_e (hc12) ?_
     refine gop_st ?_
     refine gop_e (hc12) ?_
     refine gop_st ?_
     refine gop_e (hc12) ?_
     refine gop_st ?_
     refine gop_e (hc12) ?_
     refine gop_st ?_
     refine gop_u ?_
     refine gop_u ?_
     refine gop_u ?_
     refine gop_u ?_
     refine gop_u ?_
     refine gop_u ?_
     refine gop_u ?_
     refine gop_e (hc12) ?_
     refine gop_st ?_
     refine ob_i (vPick_et (hc12) _ _) ?_
     refine cnd_t1 ?_
     refine ob_i (hp.nilC) ?_
     refine ob_i (hp.fa 2) ?_
     refine ob_i (hp.ld 2 rfl) ?_
     refine C.spec_l04Round hp (by first | omega | assumption) ?_
     refine ⟨Le.refl _, ?_⟩
     refine ob_i (hvc.ix (by omega) (by omega)) ?_
     refine ob_i (hvc.ld 0 (by omega) (by omega)) ?_
     refine ob_i (vInt_add (by omega) (by omega)) ?_
     refine ob_i (vInt_add (by omega) (by omega)) ?_
     have e3 : skF rnd r c l i k (i - 1 + (t : Int)) (k - 1 + (u : Int)) = at_ 0 l (roundF r c (i - 1 + (t : Int)) (k - 1 + (u : Int))) := by rw [skF_eq]; first | rw [if_pos (by omega)] | (rw [if_neg (by omega)]; first | rw [if_pos (by first | (left; assumption) | (right; omega))] | rw [if_neg (by rintro (h | h) <;> first | omega | exact absurd h (by assumption))])
     have eS : sumF (fun b => skF rnd r c l i k (i - 1 + (t : Int)) (k - 1 + b)) (u + 1) = sumF (fun b => skF rnd r c l i k (i - 1 + (t : Int)) (k - 1 + b)) u + skF rnd r c l i k (i - 1 + (t : Int)) (k - 1 + (u : Int)) := rfl
     exact nxt (3 - (u + 1)) (by omega) ⟨u + 1, rfl, by omega, g0L5, g1L5, g2L5, g3L5, (congrArg (Value.int .i64) (by first | omega | rfl | (simp; done))), g10L5, (congrArg (Value.int .i64) (by first | omega | rfl | (simp; done))), lE⟩
    ·skip
     refine gop_e (eq_false_of_ne_true hc12) ?_
     refine gop_rf ?_
     refine gop_e (eq_false_of_ne_true hc12) ?_
     refine gop_rf ?_
     refine gop_e (eq_false_of_ne_true hc12) ?_
     refine gop_rf ?_
     refine ob_i (hp.nilC) ?_
     refine gop_e (eq_false_of_ne_true hc12) ?_
     refine gop_rf ?_
     refine ob_i (hp.fa 0) ?_
     refine gop_e (eq_false_of_ne_true hc12) ?_
     refine gop_rf ?_
     refine ob_i (hp.ld 0 rfl) ?_
     refine gop_e (eq_false_of_ne_true hc12) ?_
     refine gop_rf ?_
     refine ob_i (vInt_sub (by omega) (by omega)) ?_
     refine gop_e (eq_false_of_ne_true hc12) ?_
     refine gop_rf ?_
     refine C.spec_l00In  ?_
     refine gop_e (eq_false_of_ne_true hc12) ?_
     refine gop_rf ?_
     by_cases hc13 : 0 ≤ (i - 1 + (t : Int)) ∧ (i - 1 + (t : Int)) ≤ (r - 1)
     ·skip
      refine gop_e (decide_eq_true hc13) ?_
      refine gop_rt ?_
      refine gop_e (decide_eq_true hc13) ?_
      refine gop_rt ?_
      refine gop_e (decide_eq_true hc13) ?_
      refine gop_rt ?_
      refine ob_i (hp.nilC) ?_
      refine gop_e (decide_eq_true hc13) ?_
      refine gop_rt ?_
      refine ob_i (hp.fa 1) ?_
      refine gop_e (decide_eq_true hc13) ?_
      refine gop_rt ?_
      refine ob_i (hp.ld 1 rfl) ?_
      refine gop_e (decide_eq_true hc13) ?_
      refine gop_rt ?_
      refine ob_i (vInt_sub (by omega) (by omega)) ?_
      refine gop_e (decide_eq_true hc13) ?_
      refine gop_rt ?_
      refine C.spec_l00In  ?_
      refine gop_e (eq_false_of_ne_true hc12) ?_
      refine gop_rf ?_
      refine ob_i (vPick_et (decide_eq_true hc13) _ _) ?_
      refine ob_i (vPick_ef (eq_false_of_ne_true hc12) _ _) ?_
      refine cnd_d (fun hg14 => ?_) (fun hg14 => ?_)
      ·skip
       refine ob_i (hp.nilC) ?_
       refine ob_i (hp.fa 2) ?_
       refine ob_i (hp.ld 2 rfl) ?_
       refine C.spec_l04Round hp (by first | omega | assumption) ?_
       refine ⟨Le.refl _, ?_⟩
       refine ob_i (hvc.ix (by omega) (by omega)) ?_
       refine ob_i (hvc.ld 0 (by omega) (by omega)) ?_
       refine ob_i (vInt_add (by omega) (by omega)) ?_
       refine ob_i (vInt_add (by omega) (by omega)) ?_
       have e3 : skF rnd r c l i k (i - 1 + (t : Int)) (k - 1 + (u : Int)) = at_ 0 l (roundF r c (i - 1 + (t : Int)) (k - 1 + (u : Int))) := by rw [skF_eq]; first | rw [if_pos (by omega)] | (rw [if_neg (by omega)]; first | rw [if_pos (by first | (left; assumption) | (right; omega))] | rw [if_neg (by rintro (h | h) <;> first | omega | exact absurd h (by assumption))])
       have eS : sumF (fun b => skF rnd r c l i k (i - 1 + (t : Int)) (k - 1 + b)) (u + 1) = sumF (fun b => skF rnd r c l i k (i - 1 + (t : Int)) (k - 1 + b)) u + skF rnd r c l i k (i - 1 + (t : Int)) (k - 1 + (u : Int)) := rfl
       exact nxt (3 - (u + 1)) (by omega) ⟨u + 1, rfl, by omega, g0L5, g1L5, g2L5, g3L5, (congrArg (Value.int .i64) (by first | omega | rfl | (simp; done))), g10L5, (congrArg (Value.int .i64) (by first | omega | rfl | (simp; done))), lE⟩
      ·skip
       refine ob_i (vInt_add (by omega) (by omega)) ?_
       have e3 : skF rnd r c l i k (i - 1 + (t : Int)) (k - 1 + (u : Int)) = 0 := by rw [skF_eq]; first | rw [if_pos (by omega)] | (rw [if_neg (by omega)]; first | rw [if_pos (by first | (left; assumption) | (right; omega))] | rw [if_neg (by rintro (h | h) <;> first | omega | exact absurd h (by assumption))])
       have eS : sumF (fun b => skF rnd r c l i k (i - 1 + (t : Int)) (k - 1 + b)) (u + 1) = sumF (fun b => skF rnd r c l i k (i - 1 + (t : Int)) (k - 1 + b)) u + skF rnd r c l i k (i - 1 + (t : Int)) (k - 1 + (u : Int)) := rfl
       exact nxt (3 - (u + 1)) (by omega) ⟨u + 1, rfl, by omega, g0L5, g1L5, g2L5, g3L5, (g9L5.trans (congrArg (Value.int .i64) (by first | omega | rfl | (simp; done)))), g10L5, (congrArg (Value.int .i64) (by first | omega | rfl | (simp; done))), lE⟩
     ·skip
      refine gop_e (decide_eq_false hc13) ?_
      refine gop_sf ?_
      refine gop_e (decide_eq_false hc13) ?_
      refine gop_sf ?_
      refine gop_e (decide_eq_false hc13) ?_
      refine gop_sf ?_
      refine gop_e (decide_eq_false hc13) ?_
      refine gop_sf ?_
      refine gop_e (decide_eq_false hc13) ?_
      refine gop_sf ?_
      refine gop_e (decide_eq_false hc13) ?_
      refine gop_sf ?_
      refine gop_e (decide_eq_false hc13) ?_
      refine gop_sf ?_
      refine gop_e (eq_false_of_ne_true hc12) ?_
      refine gop_rf ?_
      refine ob_i (vPick_ef (decide_eq_false hc13) _ _) ?_
      refine ob_i (vPick_ef (eq_false_of_ne_true hc12) _ _) ?_
      refine cnd_f1 ?_
      refine ob_i (vInt_add (by omega) (by omega)) ?_
      have e3 : skF rnd r c l i k (i - 1 + (t : Int)) (k - 1 + (u : Int)) = 0 := by rw [skF_eq]; first | rw [if_pos (by omega)] | (rw [if_neg (by omega)]; first | rw [if_pos (by first | (left; assumption) | (right; omega))] | rw [if_neg (by rintro (h | h) <;> first | omega | exact absurd h (by assumption))])
      have eS : sumF (fun b => skF rnd r c l i k (i - 1 + (t : Int)) (k - 1 + b)) (u + 1) = sumF (fun b => skF rnd r c l i k (i - 1 + (t : Int)) (k - 1 + b)) u + skF rnd r c l i k (i - 1 + (t : Int)) (k - 1 + (u : Int)) := rfl
      exact nxt (3 - (u + 1)) (by omega) ⟨u + 1, rfl, by omega, g0L5, g1L5, g2L5, g3L5, (g9L5.trans (congrArg (Value.int .i64) (by first | omega | rfl | (simp; done)))), g10L5, (congrArg (Value.int .i64) (by first | omega | rfl | (simp; done))), lE⟩
  ·skip
   have tu := hg6
   obtain rfl : u = 3 := by omega
   exact hJ4 _ _ ⟨g0L5, g1L5, g2L5, g3L5, (g9L5.trans (congrArg (Value.int .i64) (by first | omega | rfl | (simp; done)))), g10L5, lE⟩
 ·skip
  have tt := hg3
  obtain rfl : t = 3 := by omega
  exact hJ1 _ _ ⟨(g9L2.trans (congrArg (Value.int .i64) (by first | omega | rfl | (simp; done)))), lE⟩
theorem C.look_any {vc : Value} {r c i k : Int} {rnd : Bool} {l : List Int} {H : Hp} {K : Value → Hp → Prop} (hc : Sl eI H vc l) (hs : sidesF r c) (hl : (l.length : Int) = r * c) (i0 : -1000 ≤ i) (i1 : i ≤ 1000) (k0 : -1000 ≤ k) (k1 : k ≤ 1000)
    (hk : ∀ H', Le H H' → K (.int .i64 (lkF rnd r c l i k)) H') : HT prg I.impl_Field_look [.agg #[.int .i64 r, .int .i64 c, vc], .int .i64 i, .int .i64 k, .bool rnd].toArray H K := by
  cases rnd with
  | true => exact C.look_round hc hs hl i0 i1 k0 k1 hk
  | false => exact C.look_flat hc hs hl hk
theorem C.impl_Field_around {vc : Value} {r c i k : Int} {rnd : Bool} {l : List Int}  {H : Hp} {K : Value → Hp → Prop} (hvc0 : Sl eI H vc l) (hf : fieldN 1 r c l) (i0 : 0 ≤ i) (i1 : i < r) (j0 : 0 ≤ k) (j1 : k < c)
    (hk : ∀ H', Le H H' → K (.int .i64 (arF rnd r c l i k)) H') : HT prg I.impl_Field_around [(.agg #[(.int .i64 (r)), (.int .i64 (c)), vc]), (.int .i64 (i)), (.int .i64 (k)), (.bool (rnd))].toArray H K := by
 have lE := Le.refl H
 have hvc := hvc0
 refine R.impl_Field_around ?_
 unfold F.impl_Field_around
 have hs := hf.1
 have hl := hf.2.1
 have q1 := hs.1
 have q2 := hs.2
 have qm := sidesF_mul hs
 have x1 := ix_lt (a := i) (b := k) (r := r) (c := c) (by omega) (by omega) (by omega) (by omega)
 have cA := fieldN_at hf (i := i * c + k) (by omega) (by omega)
 have z0 := sumF_zero (fun a => sumF (fun b => lkF rnd r c l (i - 1 + a) (k - 1 + b)) 3)
 refine nw_i (fun p1 H2 op1 nn3 le4 => ?_)
 replace hvc := hvc.le le4
 replace lE := lE.trans le4
 replace op1 : Cel H2 p1 [(.int .i64 (r)), (.int .i64 (c)), vc] := op1
 refine ob_i (op1.ldn rfl) ?_
 refine C.impl_Field_at hvc (by first | omega | assumption) (by first | omega | assumption) (by first | omega | assumption) (by first | omega | assumption) (by first | omega | assumption) (fun   H5    le6 => ?_)
 replace op1 := op1.le le6
 replace hvc := hvc.le le6
 replace lE := lE.trans le6
 refine ob_i (vUn_ngK (by omega) (by omega)) ?_
 refine jn_i (fun σ' H' => σ' 9 = (.int .i64 (arF rnd r c l i k)) ∧ Cel H' p1 [(.int .i64 (r)), (.int .i64 (c)), vc] ∧ Le H H') (fun σ7 H7 hP => ?_) (fun J7 hJ7 => ?_)
 ·skip
  obtain ⟨g9L7, op1, lE⟩ := hP
  try simp only [g9L7]
  skip
  exact hk   _    lE
 refine ob_i (vInt_sub (by omega) (by omega)) ?_
 refine ⟨fun n' σ' H' => ∃ t : Nat, n' = 3 - t ∧ t ≤ 3 ∧ σ' 1 = (.int .i64 (i)) ∧ σ' 2 = (.int .i64 (k)) ∧ σ' 3 = (.bool (rnd)) ∧ σ' 4 = p1 ∧ σ' 9 = (.int .i64 (-at_ 0 l (i * c + k) + sumF (fun a => sumF (fun b => lkF rnd r c l (i - 1 + a) (k - 1 + b)) 3) t)) ∧ σ' 10 = (.int .i64 (i - 1 + (t : Int))) ∧ Cel H' p1 [(.int .i64 (r)), (.int .i64 (c)), vc] ∧ Le H H',
  ⟨_, 0, rfl, by omega, rfl, rfl, rfl, rfl, (congrArg (Value.int .i64) (by first | omega | rfl | (simp; done))), (congrArg (Value.int .i64) (by first | omega | rfl | (simp; done))), op1, lE⟩, ?_⟩
 rintro n8 σ8 H8 ⟨t, rfl, htN, g1L8, g2L8, g3L8, g4L8, g9L8, g10L8, op1, lE⟩
 have hvc := hvc0.le lE
 try simp only [g1L8, g2L8, g3L8, g4L8, g9L8, g10L8]
 have bO := sumF_bnd (f := fun a => sumF (fun b => lkF rnd r c l (i - 1 + a) (k - 1 + b)) 3) (a := 0) (b := 3) (fun a => by have := sumF_bnd (f := fun b => lkF rnd r c l (i - 1 + a) (k - 1 + b)) (fun b => lkF_01 hf _ _) 3; omega) t
 have zI := sumF_zero (fun b => lkF rnd r c l (i - 1 + (t : Int)) (k - 1 + b))
 refine ob_i (vInt_add (by omega) (by omega)) ?_
 refine ob_i (vInt_leq _ _ _) ?_
 refine cnd_d (fun hg9 => ?_) (fun hg9 => ?_)
 ·skip
  have tt := hg9
  refine jn_i (fun σ' H' => σ' 1 = (.int .i64 (i)) ∧ σ' 2 = (.int .i64 (k)) ∧ σ' 3 = (.bool (rnd)) ∧ σ' 4 = p1 ∧ σ' 9 = (.int .i64 (-at_ 0 l (i * c + k) + sumF (fun a => sumF (fun b => lkF rnd r c l (i - 1 + a) (k - 1 + b)) 3) (t + 1))) ∧ σ' 10 = (.int .i64 (i - 1 + (t : Int))) ∧ Cel H' p1 [(.int .i64 (r)), (.int .i64 (c)), vc] ∧ Le H H') (fun σ10 H10 hP => ?_) (fun J10 hJ10 => ?_)
  ·skip
   obtain ⟨g1L10, g2L10, g3L10, g4L10, g9L10, g10L10, op1, lE⟩ := hP
   try simp only [g10L10]
   refine ob_i (vInt_add (by omega) (by omega)) ?_
   exact nxt (3 - (t + 1)) (by omega) ⟨t + 1, rfl, by omega, g1L10, g2L10, g3L10, g4L10, (g9L10.trans (congrArg (Value.int .i64) (by first | omega | rfl | (simp; done)))), (congrArg (Value.int .i64) (by first | omega | rfl | (simp; done))), op1, lE⟩
  refine ob_i (vInt_sub (by omega) (by omega)) ?_
  refine ⟨fun n' σ' H' => ∃ u : Nat, n' = 3 - u ∧ u ≤ 3 ∧ σ' 1 = (.int .i64 (i)) ∧ σ' 2 = (.int .i64 (k)) ∧ σ' 3 = (.bool (rnd)) ∧ σ' 4 = p1 ∧ σ' 9 = (.int .i64 (-at_ 0 l (i * c + k) + sumF (fun a => sumF (fun b => lkF rnd r c l (i - 1 + a) (k - 1 + b)) 3) t + sumF (fun b => lkF rnd r c l (i - 1 + (t : Int)) (k - 1 + b)) u)) ∧ σ' 10 = (.int .i64 (i - 1 + (t : Int))) ∧ σ' 11 = (.int .i64 (k - 1 + (u : Int))) ∧ Cel H' p1 [(.int .i64 (r)), (.int .i64 (c)), vc] ∧ Le H H',
   ⟨_, 0, rfl, by omega, g1L8, g2L8, g3L8, g4L8, (g9L8.trans (congrArg (Value.int .i64) (by first | omega | rfl | (simp; done)))), g10L8, (congrArg (Value.int .i64) (by first | omega | rfl | (simp; done))), op1, lE⟩, ?_⟩
  rintro n11 σ11 H11 ⟨u, rfl, huN, g1L11, g2L11, g3L11, g4L11, g9L11, g10L11, g11L11, op1, lE⟩
  have hvc := hvc0.le lE
  try simp only [g2L11, g3L11, g4L11, g9L11, g10L11, g11L11]
  have bI := sumF_bnd (f := fun b => lkF rnd r c l (i - 1 + (t : Int)) (k - 1 + b)) (fun b => lkF_01 hf _ _) u
  have bV := lkF_01 (rnd := rnd) hf (i - 1 + (t : Int)) (k - 1 + (u : Int))
  refine ob_i (vInt_add (by omega) (by omega)) ?_
  refine ob_i (vInt_leq _ _ _) ?_
  refine cnd_d (fun hg12 => ?_) (fun hg12 => ?_)
  ·skip
   have tu := hg12
   refine ob_i (op1.ldn rfl) ?_
   refine C.look_any hvc (by first | omega | assumption) (by first | omega | assumption) (by first | omega | assumption) (by first | omega | assumption) (by first | omega | assumption) (by first | omega | assumption) (fun   H13    le14 => ?_)
   replace op1 := op1.le le14
   replace lE := lE.trans le14
   refine ob_i (vInt_add (by omega) (by omega)) ?_
   refine ob_i (vInt_add (by omega) (by omega)) ?_
   have eS := sumF_succ (fun b => lkF rnd r c l (i - 1 + (t : Int)) (k - 1 + b)) u
   exact nxt (3 - (u + 1)) (by omega) ⟨u + 1, rfl, by omega, g1L11, g2L11, g3L11, g4L11, (congrArg (Value.int .i64) (by first | omega | rfl | (simp; done))), g10L11, (congrArg (Value.int .i64) (by first | omega | rfl | (simp; done))), op1, lE⟩
  ·skip
   have tu := hg12
   obtain rfl : u = 3 := by omega
   have eO := sumF_succ (fun a => sumF (fun b => lkF rnd r c l (i - 1 + a) (k - 1 + b)) 3) t
   exact hJ10 _ _ ⟨g1L11, g2L11, g3L11, g4L11, (g9L11.trans (congrArg (Value.int .i64) (by first | omega | rfl | (simp; done)))), g10L11, op1, lE⟩
 ·skip
  have tt := hg9
  obtain rfl : t = 3 := by omega
  have eA := arF_eq (rnd := rnd) (l := l) i0 i1 j0 j1
  exact hJ7 _ _ ⟨(g9L8.trans (congrArg (Value.int .i64) (by first | omega | rfl | (simp; done)))), op1, lE⟩
theorem C.impl_Life_becomes {vb vs : Value} {x n : Int} {b : List Int} {s : List Int}  {H : Hp} {K : Value → Hp → Prop} (hvb0 : Sl eI H vb b) (hvs0 : Sl eI H vs s) (kb : b.length ≤ 9223372036854775807) (ks : s.length ≤ 9223372036854775807)
    (hk : ∀ H', Le H H' → K (.int .i64 (if x = 0 then (if n ∈ b then 1 else 0) else (if n ∈ s then 1 else 0))) H') : HT prg I.impl_Life_becomes [(.agg #[vb, vs]), (.int .i64 (x)), (.int .i64 (n))].toArray H K := by
 have lE := Le.refl H
 have hvb := hvb0
 have hvs := hvs0
 refine R.impl_Life_becomes ?_
 unfold F.impl_Life_becomes
 refine nw_i (fun p1 H2 op1 nn3 le4 => ?_)
 replace hvb := hvb.le le4
 replace hvs := hvs.le le4
 replace lE := lE.trans le4
 replace op1 : Cel H2 p1 [vb, vs] := op1
 refine ob_i (vInt_eql _ _ _) ?_
 refine cnd_d (fun hg5 => ?_) (fun hg5 => ?_)
 ·skip
  refine ob_i (op1.fa 0) ?_
  refine ob_i (op1.ld 0 rfl) ?_
  refine C.slices_Contains_int64Zint64 hvb (by first | omega | assumption) (fun   H6    le7 => ?_)
  replace lE := lE.trans le7
  refine C.impl_bit  ?_
  skip
  exact keq (K := K) (by rw [show ((if x = 0 then (if n ∈ b then 1 else 0) else (if n ∈ s then 1 else 0)) : Int) = (if (decide (n ∈ b)) = true then 1 else 0) from by simp only [ hg5, if_true, if_false, decide_eq_true_eq]]) (hk   _    lE)
 ·skip
  refine ob_i (op1.fa 1) ?_
  refine ob_i (op1.ld 1 rfl) ?_
  refine C.slices_Contains_int64Zint64 hvs (by first | omega | assumption) (fun   H8    le9 => ?_)
  replace lE := lE.trans le9
  refine C.impl_bit  ?_
  skip
  exact keq (K := K) (by rw [show ((if x = 0 then (if n ∈ b then 1 else 0) else (if n ∈ s then 1 else 0)) : Int) = (if (decide (n ∈ s)) = true then 1 else 0) from by simp only [ hg5, if_true, if_false, decide_eq_true_eq]]) (hk   _    lE)
theorem C.impl_Life_step_1 {w p g vb vs vc : Value} {i k r c : Int} {rnd : Bool} {b : List Int} {s : List Int} {l : List Int}  {H : Hp} {K : Value → Hp → Prop} (hw0 : Cel H w [vb, vs]) (hp0 : Cel H p [(.int .i64 (r)), (.int .i64 (c)), vc]) (hg0 : Cel H g [(.bool (rnd))]) (hvb0 : Sl eI H vb b) (hvs0 : Sl eI H vs s) (hvc0 : Sl eI H vc l) (hf : fieldN 1 r c l) (kb : b.length ≤ 9223372036854775807) (ks : s.length ≤ 9223372036854775807) (i0 : 0 ≤ i) (i1 : i < r) (j0 : 0 ≤ k) (j1 : k < c)
    (hk : ∀ H', Le H H' → K (.int .i64 (nxG rnd b s r c l i k)) H') : HT prg I.impl_Life_step_1 [(.int .i64 (i)), (.int .i64 (k)), w, p, g].toArray H K := by
 have lE := Le.refl H
 have hw := hw0
 have hp := hp0
 have hg := hg0
 have hvb := hvb0
 have hvs := hvs0
 have hvc := hvc0
 refine R.impl_Life_step_1 ?_
 unfold F.impl_Life_step_1
 have hs := hf.1
 have hl := hf.2.1
 have q1 := hs.1
 have q2 := hs.2
 have qm := sidesF_mul hs
 have x1 := ix_lt (a := i) (b := k) (r := r) (c := c) (by omega) (by omega) (by omega) (by omega)
 refine ob_i (hw.ldn rfl) ?_
 refine ob_i (hp.ldn rfl) ?_
 refine ob_i (hp.ldn rfl) ?_
 refine ob_i (hg.ld0 rfl) ?_
 refine C.impl_Field_at hvc (by first | omega | assumption) (by first | omega | assumption) (by first | omega | assumption) (by first | omega | assumption) (by first | omega | assumption) (fun   H1    le2 => ?_)
 replace hvb := hvb.le le2
 replace hvs := hvs.le le2
 replace hvc := hvc.le le2
 replace lE := lE.trans le2
 refine ⟨le2, ?_⟩
 refine C.impl_Field_around hvc (by first | omega | assumption) (by first | omega | assumption) (by first | omega | assumption) (by first | omega | assumption) (by first | omega | assumption) (fun   H3    le4 => ?_)
 replace hvb := hvb.le le4
 replace hvs := hvs.le le4
 replace lE := lE.trans le4
 refine ⟨le4, ?_⟩
 refine C.impl_Life_becomes hvb hvs (by first | omega | assumption) (by first | omega | assumption) (fun   H5    le6 => ?_)
 replace lE := lE.trans le6
 refine ⟨le6, ?_⟩
 skip
 exact keq (K := K) (by rw [show ((if (at_ 0 l (i * c + k)) = 0 then (if (arF rnd r c l i k) ∈ b then 1 else 0) else (if (arF rnd r c l i k) ∈ s then 1 else 0)) : Int) = (nxG rnd b s r c l i k) from by rfl]) (hk   _    lE)
theorem C.impl_Life_step {vb vs vc : Value} {r c : Int} {rnd : Bool} {b : List Int} {s : List Int} {l : List Int}  {H : Hp} {K : Value → Hp → Prop} (hvb0 : Sl eI H vb b) (hvs0 : Sl eI H vs s) (hvc0 : Sl eI H vc l) (hf : fieldN 1 r c l) (kb : b.length ≤ 9223372036854775807) (ks : s.length ≤ 9223372036854775807)
    (hk : ∀ u1 H', Own eI H' u1 (nxL rnd b s r c l) → Nw H u1 → Le H H' → K (.agg #[(.int .i64 (r)), (.int .i64 (c)), u1]) H') : HT prg I.impl_Life_step [(.agg #[vb, vs]), (.agg #[(.int .i64 (r)), (.int .i64 (c)), vc]), (.bool (rnd))].toArray H K := by
 have lE := Le.refl H
 have hvb := hvb0
 have hvs := hvs0
 have hvc := hvc0
 refine R.impl_Life_step ?_
 unfold F.impl_Life_step
 have hs := hf.1
 have hl := hf.2.1
 have q1 := hs.1
 have q2 := hs.2
 have qm := sidesF_mul hs
 refine nw_i (fun p1 H2 op1 nn3 le4 => ?_)
 replace hvb := hvb.le le4
 replace hvs := hvs.le le4
 replace hvc := hvc.le le4
 replace lE := lE.trans le4
 replace op1 : Cel H2 p1 [vb, vs] := op1
 refine nw_i (fun p5 H6 op5 nn7 le8 => ?_)
 replace op1 := op1.le le8
 replace hvb := hvb.le le8
 replace hvs := hvs.le le8
 replace hvc := hvc.le le8
 replace lE := lE.trans le8
 replace op5 : Cel H6 p5 [(.int .i64 (r)), (.int .i64 (c)), vc] := op5
 refine nw_i (fun p9 H10 op9 nn11 le12 => ?_)
 replace op1 := op1.le le12
 replace op5 := op5.le le12
 replace hvb := hvb.le le12
 replace hvs := hvs.le le12
 replace hvc := hvc.le le12
 replace lE := lE.trans le12
 replace op9 : Cel H10 p9 [(.bool (rnd))] := op9
 refine nw_i (fun p13 H14 op13 nn15 le16 => ?_)
 have np13 : Nw H p13 := nn15.le lE
 replace op1 := op1.le le16
 replace op5 := op5.le le16
 replace op9 := op9.le le16
 replace hvb := hvb.le le16
 replace hvs := hvs.le le16
 replace hvc := hvc.le le16
 replace lE := lE.trans le16
 replace op13 : Cel H14 p13 [(.int .i64 (0)), (.int .i64 (0)), (.slice none 0 0)] := op13
 refine ob_i (op5.fa 0) ?_
 refine ob_i (op5.ld 0 rfl) ?_
 refine ob_i (op5.fa 1) ?_
 refine ob_i (op5.ld 1 rfl) ?_
 refine C.impl_madeField (g := nxG rnd b s r c l) (by omega) (by omega) (by omega) (by omega) (fun H21c i21 k21 Z leZ hi21 hk21 hZ => ?_) (fun u17 H18 ou17 nn19 le20 => ?_)
 ·refine ⟨by kernel_rfl, ?_⟩
  replace op1 := op1.le leZ
  replace op5 := op5.le leZ
  replace op9 := op9.le leZ
  replace hvb := hvb.le leZ
  replace hvs := hvs.le leZ
  replace hvc := hvc.le leZ
  replace lE := lE.trans leZ
  have lZ := Le.refl H21c
  refine C.impl_Life_step_1 op1 op5 op9 hvb hvs hvc (by first | omega | assumption) (by first | omega | assumption) (by first | omega | assumption) (by first | omega | assumption) (by first | omega | assumption) (by first | omega | assumption) (by first | omega | assumption) (fun   H22    le23 => ?_)
  replace lE := lE.trans le23
  replace lZ := lZ.trans le23
  exact keq (K := Z) (by rw [show ((nxG rnd b s r c l (i21 : Int) (k21 : Int)) : Int) = (nxG rnd b s r c l) (i21 : Int) (k21 : Int) from rfl]) (hZ _ lZ)
 have ap13Xu17 : Apart p13 u17 := op13.apart nn19
 have nu17 : Nw H u17 := nn19.le lE
 replace op13 := op13.le le20
 replace hvb := hvb.le le20
 replace hvs := hvs.le le20
 replace hvc := hvc.le le20
 replace lE := lE.trans le20
 refine op13.stn (ws := [(.int .i64 (r)), (.int .i64 (c)), u17]) rfl rfl (oc1 rfl (oc1 rfl (oc1 ou17.one oc0))) (fun H24 op13 off25 => ?_)
 replace ou17 := ou17.off off25 ap13Xu17.symm
 replace hvb := hvb0.le (off25.le lE np13)
 replace hvs := hvs0.le (off25.le lE np13)
 replace hvc := hvc0.le (off25.le lE np13)
 replace lE := off25.le lE np13
 replace op13 : Cel H24 p13 [(.int .i64 (r)), (.int .i64 (c)), u17] := op13
 refine ob_i (op13.ldn rfl) ?_
 skip
 exact hk  u17 _ (Own.cast (show mkL (c) (nxG rnd b s r c l) ((r : Int).toNat * (c : Int).toNat) = nxL rnd b s r c l by first | rfl | simp) ou17) nu17  lE
theorem C.spec_l04Next {w p vb vs vc : Value} {r c : Int} {rnd : Bool} {b : List Int} {s : List Int} {l : List Int}  {H : Hp} {K : Value → Hp → Prop} (hw0 : Cel H w [vb, vs]) (hp0 : Cel H p [(.int .i64 (r)), (.int .i64 (c)), vc]) (hvb0 : Sl eI H vb b) (hvs0 : Sl eI H vs s) (hvc0 : Sl eI H vc l) (hf : fieldN 1 r c l) (kb : b.length ≤ 9223372036854775807) (ks : s.length ≤ 9223372036854775807)
    (hk : ∀ u1 H', Own eI H' u1 (nxL rnd b s r c l) → Nw H u1 → Le H H' → K (.agg #[(.int .i64 (r)), (.int .i64 (c)), u1]) H') : HT prg I.spec_l04Next [w, p, (.bool (rnd))].toArray H K := by
 have lE := Le.refl H
 have hw := hw0
 have hp := hp0
 have hvb := hvb0
 have hvs := hvs0
 have hvc := hvc0
 refine R.spec_l04Next ?_
 unfold F.spec_l04Next
 have hs := hf.1
 have hl := hf.2.1
 have q1 := hs.1
 have q2 := hs.2
 have qm := sidesF_mul hs
 refine nw_i (fun p1 H2 op1 nn3 le4 => ?_)
 have np1 : Nw H p1 := nn3.le lE
 replace hw := hw.le le4
 replace hp := hp.le le4
 replace hvb := hvb.le le4
 replace hvs := hvs.le le4
 replace hvc := hvc.le le4
 replace lE := lE.trans le4
 replace op1 : Cel H2 p1 [(.int .i64 (0)), (.int .i64 (0)), (.slice none 0 0)] := op1
 refine ob_i (hp.nilC) ?_
 refine ob_i (hp.fa 0) ?_
 refine ob_i (hp.ld 0 rfl) ?_
 refine ob_i (hp.nilC) ?_
 refine ob_i (hp.fa 1) ?_
 refine ob_i (hp.ld 1 rfl) ?_
 refine C.spec_l04New (by first | omega | assumption) (by first | omega | assumption) (by first | omega | assumption) (by first | omega | assumption) (fun  u H5 ou nn7  le6 => ?_)
 have ap1Xu : Apart p1 u := op1.apart nn7
 have nu : Nw H u := nn7.le lE
 replace op1 := op1.le le6
 replace hw := hw.le le6
 replace hp := hp.le le6
 replace hvb := hvb.le le6
 replace hvs := hvs.le le6
 replace hvc := hvc.le le6
 replace lE := lE.trans le6
 refine ⟨le6, ?_⟩
 refine nw_i (fun p8 H9 op8 nn10 le11 => ?_)
 have ap1Xp8 : Apart p1 p8 := op1.apart nn10
 have auXp8 : Apart u p8 := ou.apart nn10
 have np8 : Nw H p8 := nn10.le lE
 replace op1 := op1.le le11
 replace ou := ou.le le11
 replace hw := hw.le le11
 replace hp := hp.le le11
 replace hvb := hvb.le le11
 replace hvs := hvs.le le11
 replace hvc := hvc.le le11
 replace lE := lE.trans le11
 replace op8 : Cel H9 p8 [(.int .i64 (0)), (.int .i64 (0)), (.slice none 0 0)] := op8
 refine op8.stn (ws := [(.int .i64 (r)), (.int .i64 (c)), u]) rfl rfl (oc1 rfl (oc1 rfl (oc1 ou.one oc0))) (fun H12 op8 off13 => ?_)
 replace op1 := op1.off off13 ap1Xp8
 replace ou := ou.off off13 auXp8
 replace hw := hw0.le (off13.le lE np8)
 replace hp := hp0.le (off13.le lE np8)
 replace hvb := hvb0.le (off13.le lE np8)
 replace hvs := hvs0.le (off13.le lE np8)
 replace hvc := hvc0.le (off13.le lE np8)
 replace lE := off13.le lE np8
 replace op8 : Cel H12 p8 [(.int .i64 (r)), (.int .i64 (c)), u] := op8
 refine jn_i (fun σ' H' => σ' 6 = p1 ∧ σ' 7 = p8 ∧ Cel H' p1 [(.int .i64 (0)), (.int .i64 (0)), (.slice none 0 0)] ∧ Own eI H' u (nxL rnd b s r c l) ∧ Cel H' p8 [(.int .i64 (r)), (.int .i64 (c)), u] ∧ Le H H') (fun σ14 H14 hP => ?_) (fun J14 hJ14 => ?_)
 ·skip
  obtain ⟨g6L14, g7L14, op1, ou, op8, lE⟩ := hP
  have hw := hw0.le lE
  have hp := hp0.le lE
  have hvb := hvb0.le lE
  have hvs := hvs0.le lE
  have hvc := hvc0.le lE
  try simp only [g6L14, g7L14]
  refine ob_i (op8.ldn rfl) ?_
  refine op1.stn (ws := [(.int .i64 (r)), (.int .i64 (c)), u]) rfl rfl (oc1 rfl (oc1 rfl (oc1 ou.one oc0))) (fun H15 op1 off16 => ?_)
  replace ou := ou.off off16 ap1Xu.symm
  replace hw := hw0.le (off16.le lE np1)
  replace hp := hp0.le (off16.le lE np1)
  replace hvb := hvb0.le (off16.le lE np1)
  replace hvs := hvs0.le (off16.le lE np1)
  replace hvc := hvc0.le (off16.le lE np1)
  replace lE := off16.le lE np1
  replace op1 : Cel H15 p1 [(.int .i64 (r)), (.int .i64 (c)), u] := op1
  refine ob_i (op1.ldn rfl) ?_
  skip
  exact hk  u _ ou nu  lE
 refine ⟨fun n' σ' H' => ∃ i : Nat, n' = r.toNat - i ∧ i ≤ r.toNat ∧ σ' 0 = w ∧ σ' 1 = p ∧ σ' 2 = (.bool (rnd)) ∧ σ' 6 = p1 ∧ σ' 7 = p8 ∧ σ' 8 = (.int .i64 ((i : Int))) ∧ Cel H' p1 [(.int .i64 (0)), (.int .i64 (0)), (.slice none 0 0)] ∧ Own eI H' u (fillL c (nxG rnd b s r c l) (r.toNat * c.toNat) (i * c.toNat)) ∧ Cel H' p8 [(.int .i64 (r)), (.int .i64 (c)), u] ∧ Le H H',
  ⟨_, 0, rfl, by omega, rfl, rfl, rfl, rfl, rfl, (congrArg (Value.int .i64) (by first | omega | rfl | (simp; done))), op1, (by rw [Nat.zero_mul, fillL_zero]; exact ou), op8, lE⟩, ?_⟩
 rintro n17 σ17 H17 ⟨i, rfl, hiN, g0L17, g1L17, g2L17, g6L17, g7L17, g8L17, op1, ou, op8, lE⟩
 have hw := hw0.le lE
 have hp := hp0.le lE
 have hvb := hvb0.le lE
 have hvs := hvs0.le lE
 have hvc := hvc0.le lE
 try simp only [g0L17, g1L17, g2L17, g6L17, g7L17, g8L17]
 refine ob_i (hp.nilC) ?_
 refine ob_i (hp.fa 0) ?_
 refine ob_i (hp.ld 0 rfl) ?_
 refine ob_i (vInt_lss _ _ _) ?_
 refine cnd_d (fun hg18 => ?_) (fun hg18 => ?_)
 ·skip
  have ti := hg18
  refine jn_i (fun σ' H' => σ' 0 = w ∧ σ' 1 = p ∧ σ' 2 = (.bool (rnd)) ∧ σ' 6 = p1 ∧ σ' 7 = p8 ∧ σ' 8 = (.int .i64 ((i : Int))) ∧ Cel H' p1 [(.int .i64 (0)), (.int .i64 (0)), (.slice none 0 0)] ∧ Own eI H' u (fillL c (nxG rnd b s r c l) (r.toNat * c.toNat) ((i + 1) * c.toNat)) ∧ Cel H' p8 [(.int .i64 (r)), (.int .i64 (c)), u] ∧ Le H H') (fun σ19 H19 hP => ?_) (fun J19 hJ19 => ?_)
  ·skip
   obtain ⟨g0L19, g1L19, g2L19, g6L19, g7L19, g8L19, op1, ou, op8, lE⟩ := hP
   try simp only [g6L19, g8L19]
   refine ob_i (vInt_add (by omega) (by omega)) ?_
   exact nxt (r.toNat - (i + 1)) (by omega) ⟨i + 1, rfl, by omega, g0L19, g1L19, g2L19, g6L19, g7L19, (congrArg (Value.int .i64) (by first | omega | rfl | (simp; done))), op1, ou, op8, lE⟩
  refine ⟨fun n' σ' H' => ∃ k : Nat, n' = c.toNat - k ∧ k ≤ c.toNat ∧ σ' 0 = w ∧ σ' 1 = p ∧ σ' 2 = (.bool (rnd)) ∧ σ' 6 = p1 ∧ σ' 7 = p8 ∧ σ' 8 = (.int .i64 ((i : Int))) ∧ σ' 9 = (.int .i64 ((k : Int))) ∧ Cel H' p1 [(.int .i64 (0)), (.int .i64 (0)), (.slice none 0 0)] ∧ Own eI H' u (fillL c (nxG rnd b s r c l) (r.toNat * c.toNat) (i * c.toNat + k)) ∧ Cel H' p8 [(.int .i64 (r)), (.int .i64 (c)), u] ∧ Le H H',
   ⟨_, 0, rfl, by omega, g0L17, g1L17, g2L17, g6L17, g7L17, g8L17, (congrArg (Value.int .i64) (by first | omega | rfl | (simp; done))), op1, ou, op8, lE⟩, ?_⟩
  rintro n20 σ20 H20 ⟨k, rfl, hkN, g0L20, g1L20, g2L20, g6L20, g7L20, g8L20, g9L20, op1, ou, op8, lE⟩
  have hw := hw0.le lE
  have hp := hp0.le lE
  have hvb := hvb0.le lE
  have hvs := hvs0.le lE
  have hvc := hvc0.le lE
  try simp only [g0L20, g1L20, g2L20, g6L20, g7L20, g8L20, g9L20]
  refine ob_i (hp.nilC) ?_
  refine ob_i (hp.fa 1) ?_
  refine ob_i (hp.ld 1 rfl) ?_
  refine ob_i (vInt_lss _ _ _) ?_
  refine cnd_d (fun hg21 => ?_) (fun hg21 => ?_)
  ·skip
   have tk := hg21
   have x1 := ix_lt (a := (i : Int)) (b := (k : Int)) (r := r) (c := c) (by omega) (by omega) (by omega) (by omega)
   have x3 := fillL_len (c := c) (g := nxG rnd b s r c l) (rr := r) (cc := c) (t := i * c.toNat + k) (by omega) (by omega)
   have x4 := fieldN_at hf (i := (i : Int) * c + (k : Int)) (by omega) (by omega)
   refine C.spec_l04Around hp hvc (by first | omega | assumption) (by first | omega | assumption) (by first | omega | assumption) (by first | omega | assumption) (by first | omega | assumption) (fun   H22    le23 => ?_)
   replace op1 := op1.le le23
   replace ou := ou.le le23
   replace op8 := op8.le le23
   replace hw := hw.le le23
   replace hp := hp.le le23
   replace hvb := hvb.le le23
   replace hvs := hvs.le le23
   replace hvc := hvc.le le23
   replace lE := lE.trans le23
   refine ob_i (hp.nilC) ?_
   refine ob_i (hp.fa 1) ?_
   refine ob_i (hp.ld 1 rfl) ?_
   refine ob_i (vInt_mul (by omega) (by omega)) ?_
   refine ob_i (vInt_add (by omega) (by omega)) ?_
   refine ob_i (hp.nilC) ?_
   refine ob_i (hp.fa 2) ?_
   refine ob_i (hp.ld 2 rfl) ?_
   refine ob_i (hvc.ix (by omega) (by omega)) ?_
   refine ob_i (hvc.ld 0 (by omega) (by omega)) ?_
   refine ob_i (vInt_eql _ _ _) ?_
   by_cases hc24 : (at_ 0 (l) (((i : Int) * c) + (k : Int))) = 0
   ·skip
    refine gop_e (decide_eq_true hc24) ?_
    refine gop_rt ?_
    refine gop_e (decide_eq_true hc24) ?_
    refine gop_rt ?_
    refine ob_i (hw.nilC) ?_
    refine gop_e (decide_eq_true hc24) ?_
    refine gop_rt ?_
    refine ob_i (hw.fa 0) ?_
    refine gop_e (decide_eq_true hc24) ?_
    refine gop_rt ?_
    refine ob_i (hw.ld 0 rfl) ?_
    refine gop_e (decide_eq_true hc24) ?_
    refine gop_rt ?_
    refine gop_e (decide_eq_true hc24) ?_
    refine gop_rt ?_
    refine C.spec_l04Has hvb (by first | omega | assumption) (fun   H25    le26 => ?_)
    replace op1 := op1.le le26
    replace ou := ou.le le26
    replace op8 := op8.le le26
    replace hw := hw.le le26
    replace hp := hp.le le26
    replace hvb := hvb.le le26
    replace hvs := hvs.le le26
    replace hvc := hvc.le le26
    replace lE := lE.trans le26
    refine ob_i (vPick_et (decide_eq_true hc24) _ _) ?_
    by_cases hc27 : (arF rnd r c l (i : Int) (k : Int)) ∈ b
    ·skip
     refine gop_e (decide_eq_true hc27) ?_
     refine gop_st ?_
     refine gop_e (decide_eq_true hc27) ?_
     refine gop_st ?_
     refine gop_e (decide_eq_true hc27) ?_
     refine gop_st ?_
     refine gop_e (decide_eq_true hc27) ?_
     refine gop_st ?_
     refine gop_e (decide_eq_true hc27) ?_
     refine gop_st ?_
     refine gop_e (decide_eq_true hc27) ?_
     refine gop_st ?_
     refine gop_e (decide_eq_true hc27) ?_
     refine gop_st ?_
     refine gop_e (decide_eq_true hc27) ?_
     refine gop_st ?_
     refine gop_e (decide_eq_true hc27) ?_
     refine gop_st ?_
     refine gop_u ?_
     refine gop_u ?_
     refine gop_u ?_
     refine gop_u ?_
     refine gop_u ?_
     refine gop_u ?_
     refine gop_e (decide_eq_true hc27) ?_
     refine gop_st ?_
     refine ob_i (vPick_et (decide_eq_true hc27) _ _) ?_
     refine cnd_t1 ?_
     refine ob_i (op8.fa 2) ?_
     refine ob_i (op8.ld 2 rfl) ?_
     refine ob_i (ou.sl.ix (by omega) (by omega)) ?_
     refine ou.st (x := 1) (by omega) (by omega) rfl rfl (fun H28 ou off29 => ?_)
     replace op1 := op1.off off29 ap1Xu
     replace op8 := op8.off off29 auXp8.symm
     replace hw := hw0.le (off29.le lE nu)
     replace hp := hp0.le (off29.le lE nu)
     replace hvb := hvb0.le (off29.le lE nu)
     replace hvs := hvs0.le (off29.le lE nu)
     replace hvc := hvc0.le (off29.le lE nu)
     replace lE := off29.le lE nu
     refine ob_i (vInt_add (by omega) (by omega)) ?_
     have eG : nxG rnd b s r c l (i : Int) (k : Int) = 1 := by first | exact nx_b1 (by assumption) (by assumption) | exact nx_s1 (by assumption) (by assumption) | (exfalso; omega)
     replace ou : Own eI H28 u (fillL c (nxG rnd b s r c l) (r.toNat * c.toNat) (i * c.toNat + (k + 1))) := by rw [← Nat.add_assoc, ← fillL_set (c := c) (g := nxG rnd b s r c l) (i := (i : Int)) (k := (k : Int)) (by omega) (by omega) (by omega) (cast_ix (by omega)) (by omega), eG]; exact ou
     exact nxt (c.toNat - (k + 1)) (by omega) ⟨k + 1, rfl, by omega, g0L20, g1L20, g2L20, g6L20, g7L20, g8L20, (congrArg (Value.int .i64) (by first | omega | rfl | (simp; done))), op1, ou, op8, lE⟩
    ·skip
     refine gop_e (decide_eq_false hc27) ?_
     refine gop_rf ?_
     refine gop_e (decide_eq_false hc27) ?_
     refine gop_rf ?_
     refine ob_i (hp.nilC) ?_
     refine gop_e (decide_eq_false hc27) ?_
     refine gop_rf ?_
     refine ob_i (hp.fa 2) ?_
     refine gop_e (decide_eq_false hc27) ?_
     refine gop_rf ?_
     refine ob_i (hp.ld 2 rfl) ?_
     refine gop_e (decide_eq_false hc27) ?_
     refine gop_rf ?_
     refine gop_e (decide_eq_false hc27) ?_
     refine gop_rf ?_
     refine ob_i (hvc.ix (by omega) (by omega)) ?_
     refine gop_e (decide_eq_false hc27) ?_
     refine gop_rf ?_
     refine ob_i (hvc.ld 0 (by omega) (by omega)) ?_
     refine gop_e (decide_eq_false hc27) ?_
     refine gop_rf ?_
     refine ob_i (vInt_eql _ _ _) ?_
     refine gop_e (decide_eq_false hc27) ?_
     refine gop_rf ?_
     by_cases hc30 : (at_ 0 (l) (((i : Int) * c) + (k : Int))) = 1
     ·skip
      refine gop_e (decide_eq_true hc30) ?_
      refine gop_rt ?_
      refine gop_e (decide_eq_true hc30) ?_
      refine gop_rt ?_
      refine ob_i (hw.nilC) ?_
      refine gop_e (decide_eq_true hc30) ?_
      refine gop_rt ?_
      refine ob_i (hw.fa 1) ?_
      refine gop_e (decide_eq_true hc30) ?_
      refine gop_rt ?_
      refine ob_i (hw.ld 1 rfl) ?_
      refine gop_e (decide_eq_true hc30) ?_
      refine gop_rt ?_
      refine gop_e (decide_eq_true hc30) ?_
      refine gop_rt ?_
      refine C.spec_l04Has hvs (by first | omega | assumption) (fun   H31    le32 => ?_)
      replace op1 := op1.le le32
      replace ou := ou.le le32
      replace op8 := op8.le le32
      replace hw := hw.le le32
      replace hp := hp.le le32
      replace hvb := hvb.le le32
      replace hvs := hvs.le le32
      replace hvc := hvc.le le32
      replace lE := lE.trans le32
      refine gop_e (decide_eq_false hc27) ?_
      refine gop_rf ?_
      refine ob_i (vPick_et (decide_eq_true hc30) _ _) ?_
      refine ob_i (vPick_ef (decide_eq_false hc27) _ _) ?_
      refine cnd_d (fun hg33 => ?_) (fun hg33 => ?_)
      ·skip
       refine ob_i (op8.fa 2) ?_
       refine ob_i (op8.ld 2 rfl) ?_
       refine ob_i (ou.sl.ix (by omega) (by omega)) ?_
       refine ou.st (x := 1) (by omega) (by omega) rfl rfl (fun H34 ou off35 => ?_)
       replace op1 := op1.off off35 ap1Xu
       replace op8 := op8.off off35 auXp8.symm
       replace hw := hw0.le (off35.le lE nu)
       replace hp := hp0.le (off35.le lE nu)
       replace hvb := hvb0.le (off35.le lE nu)
       replace hvs := hvs0.le (off35.le lE nu)
       replace hvc := hvc0.le (off35.le lE nu)
       replace lE := off35.le lE nu
       refine ob_i (vInt_add (by omega) (by omega)) ?_
       have eG : nxG rnd b s r c l (i : Int) (k : Int) = 1 := by first | exact nx_b1 (by assumption) (by assumption) | exact nx_s1 (by assumption) (by assumption) | (exfalso; omega)
       replace ou : Own eI H34 u (fillL c (nxG rnd b s r c l) (r.toNat * c.toNat) (i * c.toNat + (k + 1))) := by rw [← Nat.add_assoc, ← fillL_set (c := c) (g := nxG rnd b s r c l) (i := (i : Int)) (k := (k : Int)) (by omega) (by omega) (by omega) (cast_ix (by omega)) (by omega), eG]; exact ou
       exact nxt (c.toNat - (k + 1)) (by omega) ⟨k + 1, rfl, by omega, g0L20, g1L20, g2L20, g6L20, g7L20, g8L20, (congrArg (Value.int .i64) (by first | omega | rfl | (simp; done))), op1, ou, op8, lE⟩
      ·skip
       refine ob_i (vInt_add (by omega) (by omega)) ?_
       have eG : nxG rnd b s r c l (i : Int) (k : Int) = 0 := by first | exact nx_b0 (by assumption) (by assumption) | exact nx_s0 (by assumption) (by assumption) | (exfalso; omega)
       replace ou : Own eI H31 u (fillL c (nxG rnd b s r c l) (r.toNat * c.toNat) (i * c.toNat + (k + 1))) := by rw [← Nat.add_assoc, ← fillL_skip (c := c) (g := nxG rnd b s r c l) (i := (i : Int)) (k := (k : Int)) (by omega) (by omega) (by omega) (cast_ix (by omega)) eG]; exact ou
       exact nxt (c.toNat - (k + 1)) (by omega) ⟨k + 1, rfl, by omega, g0L20, g1L20, g2L20, g6L20, g7L20, g8L20, (congrArg (Value.int .i64) (by first | omega | rfl | (simp; done))), op1, ou, op8, lE⟩
     ·skip
      refine gop_e (decide_eq_false hc30) ?_
      refine gop_sf ?_
      refine gop_e (decide_eq_false hc30) ?_
      refine gop_sf ?_
      refine gop_e (decide_eq_false hc30) ?_
      refine gop_sf ?_
      refine gop_e (decide_eq_false hc30) ?_
      refine gop_sf ?_
      refine gop_e (decide_eq_false hc30) ?_
      refine gop_sf ?_
      refine gop_e (decide_eq_false hc30) ?_
      refine gop_sf ?_
      refine gop_e (decide_eq_false hc27) ?_
      refine gop_rf ?_
      refine ob_i (vPick_ef (decide_eq_false hc30) _ _) ?_
      refine ob_i (vPick_ef (decide_eq_false hc27) _ _) ?_
      refine cnd_f1 ?_
      refine ob_i (vInt_add (by omega) (by omega)) ?_
      have eG : nxG rnd b s r c l (i : Int) (k : Int) = 0 := by first | exact nx_b0 (by assumption) (by assumption) | exact nx_s0 (by assumption) (by assumption) | (exfalso; omega)
      replace ou : Own eI H25 u (fillL c (nxG rnd b s r c l) (r.toNat * c.toNat) (i * c.toNat + (k + 1))) := by rw [← Nat.add_assoc, ← fillL_skip (c := c) (g := nxG rnd b s r c l) (i := (i : Int)) (k := (k : Int)) (by omega) (by omega) (by omega) (cast_ix (by omega)) eG]; exact ou
      exact nxt (c.toNat - (k + 1)) (by omega) ⟨k + 1, rfl, by omega, g0L20, g1L20, g2L20, g6L20, g7L20, g8L20, (congrArg (Value.int .i64) (by first | omega | rfl | (simp; done))), op1, ou, op8, lE⟩
   ·skip
    refine gop_e (decide_eq_false hc24) ?_
    refine gop_sf ?_
    refine gop_e (decide_eq_false hc24) ?_
    refine gop_sf ?_
    refine gop_e (decide_eq_false hc24) ?_
    refine gop_sf ?_
    refine gop_e (decide_eq_false hc24) ?_
    refine gop_sf ?_
    refine gop_e (decide_eq_false hc24) ?_
    refine gop_sf ?_
    refine gop_e (decide_eq_false hc24) ?_
    refine gop_sf ?_
    refine ob_i (vPick_ef (decide_eq_false hc24) _ _) ?_
    refine gop_rf ?_
    refine gop_rf ?_
    refine ob_i (hp.nilC) ?_
    refine gop_rf ?_
    refine ob_i (hp.fa 2) ?_
    refine gop_rf ?_
    refine ob_i (hp.ld 2 rfl) ?_
    refine gop_rf ?_
    refine gop_rf ?_
    refine ob_i (hvc.ix (by omega) (by omega)) ?_
    refine gop_rf ?_
    refine ob_i (hvc.ld 0 (by omega) (by omega)) ?_
    refine gop_rf ?_
    refine ob_i (vInt_eql _ _ _) ?_
    refine gop_rf ?_
    by_cases hc36 : (at_ 0 (l) (((i : Int) * c) + (k : Int))) = 1
    ·skip
     refine gop_e (decide_eq_true hc36) ?_
     refine gop_rt ?_
     refine gop_e (decide_eq_true hc36) ?_
     refine gop_rt ?_
     refine ob_i (hw.nilC) ?_
     refine gop_e (decide_eq_true hc36) ?_
     refine gop_rt ?_
     refine ob_i (hw.fa 1) ?_
     refine gop_e (decide_eq_true hc36) ?_
     refine gop_rt ?_
     refine ob_i (hw.ld 1 rfl) ?_
     refine gop_e (decide_eq_true hc36) ?_
     refine gop_rt ?_
     refine gop_e (decide_eq_true hc36) ?_
     refine gop_rt ?_
     refine C.spec_l04Has hvs (by first | omega | assumption) (fun   H37    le38 => ?_)
     replace op1 := op1.le le38
     replace ou := ou.le le38
     replace op8 := op8.le le38
     replace hw := hw.le le38
     replace hp := hp.le le38
     replace hvb := hvb.le le38
     replace hvs := hvs.le le38
     replace hvc := hvc.le le38
     replace lE := lE.trans le38
     refine gop_rf ?_
     refine ob_i (vPick_et (decide_eq_true hc36) _ _) ?_
     refine ob_i (vPick_f _ _) ?_
     refine cnd_d (fun hg39 => ?_) (fun hg39 => ?_)
     ·skip
      refine ob_i (op8.fa 2) ?_
      refine ob_i (op8.ld 2 rfl) ?_
      refine ob_i (ou.sl.ix (by omega) (by omega)) ?_
      refine ou.st (x := 1) (by omega) (by omega) rfl rfl (fun H40 ou off41 => ?_)
      replace op1 := op1.off off41 ap1Xu
      replace op8 := op8.off off41 auXp8.symm
      replace hw := hw0.le (off41.le lE nu)
      replace hp := hp0.le (off41.le lE nu)
      replace hvb := hvb0.le (off41.le lE nu)
      replace hvs := hvs0.le (off41.le lE nu)
      replace hvc := hvc0.le (off41.le lE nu)
      replace lE := off41.le lE nu
      refine ob_i (vInt_add (by omega) (by omega)) ?_
      have eG : nxG rnd b s r c l (i : Int) (k : Int) = 1 := by first | exact nx_b1 (by assumption) (by assumption) | exact nx_s1 (by assumption) (by assumption) | (exfalso; omega)
      replace ou : Own eI H40 u (fillL c (nxG rnd b s r c l) (r.toNat * c.toNat) (i * c.toNat + (k + 1))) := by rw [← Nat.add_assoc, ← fillL_set (c := c) (g := nxG rnd b s r c l) (i := (i : Int)) (k := (k : Int)) (by omega) (by omega) (by omega) (cast_ix (by omega)) (by omega), eG]; exact ou
      exact nxt (c.toNat - (k + 1)) (by omega) ⟨k + 1, rfl, by omega, g0L20, g1L20, g2L20, g6L20, g7L20, g8L20, (congrArg (Value.int .i64) (by first | omega | rfl | (simp; done))), op1, ou, op8, lE⟩
     ·skip
      refine ob_i (vInt_add (by omega) (by omega)) ?_
      have eG : nxG rnd b s r c l (i : Int) (k : Int) = 0 := by first | exact nx_b0 (by assumption) (by assumption) | exact nx_s0 (by assumption) (by assumption) | (exfalso; omega)
      replace ou : Own eI H37 u (fillL c (nxG rnd b s r c l) (r.toNat * c.toNat) (i * c.toNat + (k + 1))) := by rw [← Nat.add_assoc, ← fillL_skip (c := c) (g := nxG rnd b s r c l) (i := (i : Int)) (k := (k : Int)) (by omega) (by omega) (by omega) (cast_ix (by omega)) eG]; exact ou
      exact nxt (c.toNat - (k + 1)) (by omega) ⟨k + 1, rfl, by omega, g0L20, g1L20, g2L20, g6L20, g7L20, g8L20, (congrArg (Value.int .i64) (by first | omega | rfl | (simp; done))), op1, ou, op8, lE⟩
    ·skip
     refine gop_e (decide_eq_false hc36) ?_
     refine gop_sf ?_
     refine gop_e (decide_eq_false hc36) ?_
     refine gop_sf ?_
     refine gop_e (decide_eq_false hc36) ?_
     refine gop_sf ?_
     refine gop_e (decide_eq_false hc36) ?_
     refine gop_sf ?_
     refine gop_e (decide_eq_false hc36) ?_
     refine gop_sf ?_
     refine gop_e (decide_eq_false hc36) ?_
     refine gop_sf ?_
     refine gop_rf ?_
     refine ob_i (vPick_ef (decide_eq_false hc36) _ _) ?_
     refine ob_i (vPick_f _ _) ?_
     refine cnd_f1 ?_
     refine ob_i (vInt_add (by omega) (by omega)) ?_
     have eG : nxG rnd b s r c l (i : Int) (k : Int) = 0 := by first | exact nx_b0 (by assumption) (by assumption) | exact nx_s0 (by assumption) (by assumption) | (exfalso; omega)
     replace ou : Own eI H22 u (fillL c (nxG rnd b s r c l) (r.toNat * c.toNat) (i * c.toNat + (k + 1))) := by rw [← Nat.add_assoc, ← fillL_skip (c := c) (g := nxG rnd b s r c l) (i := (i : Int)) (k := (k : Int)) (by omega) (by omega) (by omega) (cast_ix (by omega)) eG]; exact ou
     exact nxt (c.toNat - (k + 1)) (by omega) ⟨k + 1, rfl, by omega, g0L20, g1L20, g2L20, g6L20, g7L20, g8L20, (congrArg (Value.int .i64) (by first | omega | rfl | (simp; done))), op1, ou, op8, lE⟩
  ·skip
   have tk := hg21
   rw [show i * c.toNat + k = (i + 1) * c.toNat by rw [Nat.add_mul, Nat.one_mul]; omega] at ou
   exact hJ19 _ _ ⟨g0L20, g1L20, g2L20, g6L20, g7L20, g8L20, op1, ou, op8, lE⟩
 ·skip
  have ti := hg18
  rw [fillL_end (by rw [show i = r.toNat by omega]; exact Nat.le_refl _)] at ou
  exact hJ14 _ _ ⟨g6L17, g7L17, op1, ou, op8, lE⟩
theorem C.spec_l04Run {w p vb vs vc : Value} {st r c : Int} {rnd : Bool} {b : List Int} {s : List Int} {l : List Int}  {H : Hp} {K : Value → Hp → Prop} (hw0 : Cel H w [vb, vs]) (hp0 : Cel H p [(.int .i64 (r)), (.int .i64 (c)), vc]) (hvb0 : Sl eI H vb b) (hvs0 : Sl eI H vs s) (hvc0 : Sl eI H vc l) (hf : fieldN 1 r c l) (kb : b.length ≤ 9223372036854775807) (ks : s.length ≤ 9223372036854775807) (st0 : 0 ≤ st) (st1 : st ≤ 1000)
    (hk : ∀ u1 H', Own eI H' u1 (rnL rnd b s r c l st.toNat) → Nw H u1 → Le H H' → K (.agg #[(.int .i64 (r)), (.int .i64 (c)), u1]) H') : HT prg I.spec_l04Run [w, p, (.bool (rnd)), (.int .i64 (st))].toArray H K := by
 have lE := Le.refl H
 have hw := hw0
 have hp := hp0
 have hvb := hvb0
 have hvs := hvs0
 have hvc := hvc0
 refine R.spec_l04Run ?_
 unfold F.spec_l04Run
 have l1 := fieldN_len hf
 refine nw_i (fun p1 H2 op1 nn3 le4 => ?_)
 have np1 : Nw H p1 := nn3.le lE
 replace hw := hw.le le4
 replace hp := hp.le le4
 replace hvb := hvb.le le4
 replace hvs := hvs.le le4
 replace hvc := hvc.le le4
 replace lE := lE.trans le4
 replace op1 : Cel H2 p1 [(.int .i64 (0)), (.int .i64 (0)), (.slice none 0 0)] := op1
 refine C.spec_l04Own hp hvc (by first | omega | assumption) (fun  u7 H5 ou7 nn8  le6 => ?_)
 have ap1Xu7 : Apart p1 u7 := op1.apart nn8
 have nu7 : Nw H u7 := nn8.le lE
 replace op1 := op1.le le6
 replace hw := hw.le le6
 replace hp := hp.le le6
 replace hvb := hvb.le le6
 replace hvs := hvs.le le6
 replace hvc := hvc.le le6
 replace lE := lE.trans le6
 refine nw_i (fun q H9 oq nn10 le11 => ?_)
 have ap1Xq : Apart p1 q := op1.apart nn10
 have au7Xq : Apart u7 q := ou7.apart nn10
 have nq : Nw H q := nn10.le lE
 replace op1 := op1.le le11
 replace ou7 := ou7.le le11
 replace hw := hw.le le11
 replace hp := hp.le le11
 replace hvb := hvb.le le11
 replace hvs := hvs.le le11
 replace hvc := hvc.le le11
 replace lE := lE.trans le11
 replace oq : Cel H9 q [(.int .i64 (0)), (.int .i64 (0)), (.slice none 0 0)] := oq
 refine oq.stn (ws := [(.int .i64 (r)), (.int .i64 (c)), u7]) rfl rfl (oc1 rfl (oc1 rfl (oc1 ou7.one oc0))) (fun H12 oq off13 => ?_)
 replace op1 := op1.off off13 ap1Xq
 replace ou7 := ou7.off off13 au7Xq
 replace hw := hw0.le (off13.le lE nq)
 replace hp := hp0.le (off13.le lE nq)
 replace hvb := hvb0.le (off13.le lE nq)
 replace hvs := hvs0.le (off13.le lE nq)
 replace hvc := hvc0.le (off13.le lE nq)
 replace lE := off13.le lE nq
 replace oq : Cel H12 q [(.int .i64 (r)), (.int .i64 (c)), u7] := oq
 refine jn_i (fun σ' H' => ∃ u, σ' 8 = p1 ∧ σ' 9 = q ∧ Cel H' p1 [(.int .i64 (0)), (.int .i64 (0)), (.slice none 0 0)] ∧ Cel H' q [(.int .i64 (r)), (.int .i64 (c)), u] ∧ Own eI H' u (rnL rnd b s r c l st.toNat) ∧ Nw H u ∧ Apart p1 u ∧ Apart q u ∧ Le H H') (fun σ14 H14 hP => ?_) (fun J14 hJ14 => ?_)
 ·skip
  obtain ⟨u, g8L14, g9L14, op1, oq, ou, nu, ap1Xu, aqXu, lE⟩ := hP
  have hw := hw0.le lE
  have hp := hp0.le lE
  have hvb := hvb0.le lE
  have hvs := hvs0.le lE
  have hvc := hvc0.le lE
  try simp only [g8L14, g9L14]
  refine ob_i (oq.ldn rfl) ?_
  refine op1.stn (ws := [(.int .i64 (r)), (.int .i64 (c)), u]) rfl rfl (oc1 rfl (oc1 rfl (oc1 ou.one oc0))) (fun H15 op1 off16 => ?_)
  replace ou := ou.off off16 ap1Xu.symm
  replace hw := hw0.le (off16.le lE np1)
  replace hp := hp0.le (off16.le lE np1)
  replace hvb := hvb0.le (off16.le lE np1)
  replace hvs := hvs0.le (off16.le lE np1)
  replace hvc := hvc0.le (off16.le lE np1)
  replace lE := off16.le lE np1
  replace op1 : Cel H15 p1 [(.int .i64 (r)), (.int .i64 (c)), u] := op1
  refine ob_i (op1.ldn rfl) ?_
  skip
  exact hk  u _ ou nu  lE
 refine ⟨fun n' σ' H' => ∃ i : Nat, n' = st.toNat - i ∧ i ≤ st.toNat ∧ ∃ u, σ' 0 = w ∧ σ' 2 = (.bool (rnd)) ∧ σ' 3 = (.int .i64 (st - (i : Int))) ∧ σ' 8 = p1 ∧ σ' 9 = q ∧ Cel H' p1 [(.int .i64 (0)), (.int .i64 (0)), (.slice none 0 0)] ∧ Cel H' q [(.int .i64 (r)), (.int .i64 (c)), u] ∧ Own eI H' u (rnL rnd b s r c l i) ∧ Nw H u ∧ Apart p1 u ∧ Apart q u ∧ Le H H',
  ⟨_, 0, rfl, by omega, u7, rfl, rfl, (congrArg (Value.int .i64) (by first | omega | rfl | (simp; done))), rfl, rfl, op1, oq, (Own.cast (by first | rfl | (simp; done)) ou7), nu7, ap1Xu7, au7Xq.symm, lE⟩, ?_⟩
 rintro n17 σ17 H17 ⟨i, rfl, hiN, u, g0L17, g2L17, g3L17, g8L17, g9L17, op1, oq, ou, nu, ap1Xu, aqXu, lE⟩
 have hw := hw0.le lE
 have hp := hp0.le lE
 have hvb := hvb0.le lE
 have hvs := hvs0.le lE
 have hvc := hvc0.le lE
 try simp only [g0L17, g2L17, g3L17, g8L17, g9L17]
 have hfi : fieldN 1 r c (rnL rnd b s r c l i) := rnL_field hf i
 have hli := fieldN_len hfi
 have hfn : fieldN 1 r c (nxL rnd b s r c (rnL rnd b s r c l i)) := nxL_field hf.1
 have hln := fieldN_len hfn
 refine ob_i (vInt_gtr _ _ _) ?_
 refine cnd_d (fun hg18 => ?_) (fun hg18 => ?_)
 ·skip
  have ti := hg18
  refine C.spec_l04Next hw oq hvb hvs ou.sl (by first | omega | assumption) (by first | omega | assumption) (by first | omega | assumption) (fun  u21 H19 ou21 nn22  le20 => ?_)
  have ap1Xu21 : Apart p1 u21 := op1.apart nn22
  have aqXu21 : Apart q u21 := oq.apart nn22
  have nu21 : Nw H u21 := nn22.le lE
  replace op1 := op1.le le20
  replace oq := oq.le le20
  replace hw := hw.le le20
  replace hp := hp.le le20
  replace hvb := hvb.le le20
  replace hvs := hvs.le le20
  replace hvc := hvc.le le20
  replace lE := lE.trans le20
  refine oq.stn (ws := [(.int .i64 (r)), (.int .i64 (c)), u21]) rfl rfl (oc1 rfl (oc1 rfl (oc1 ou21.one oc0))) (fun H23 oq off24 => ?_)
  replace op1 := op1.off off24 ap1Xq
  replace ou21 := ou21.off off24 aqXu21.symm
  replace hw := hw0.le (off24.le lE nq)
  replace hp := hp0.le (off24.le lE nq)
  replace hvb := hvb0.le (off24.le lE nq)
  replace hvs := hvs0.le (off24.le lE nq)
  replace hvc := hvc0.le (off24.le lE nq)
  replace lE := off24.le lE nq
  replace oq : Cel H23 q [(.int .i64 (r)), (.int .i64 (c)), u21] := oq
  refine ob_i (vInt_sub (by omega) (by omega)) ?_
  exact nxt (st.toNat - (i + 1)) (by omega) ⟨i + 1, rfl, by omega, u21, g0L17, g2L17, (congrArg (Value.int .i64) (by first | omega | rfl | (simp; done))), g8L17, g9L17, op1, oq, ou21, nu21, ap1Xu21, aqXu21, lE⟩
 ·skip
  have ti := hg18
  rw [show i = st.toNat by omega] at ou
  exact hJ14 _ _ ⟨u, g8L17, g9L17, op1, oq, ou, nu, ap1Xu, aqXu, lE⟩
theorem C.impl_Life_run {vb vs vc : Value} {r c st : Int} {rnd : Bool} {b : List Int} {s : List Int} {l : List Int}  {H : Hp} {K : Value → Hp → Prop} (hvb0 : Sl eI H vb b) (hvs0 : Sl eI H vs s) (hvc0 : Sl eI H vc l) (hf : fieldN 1 r c l) (kb : b.length ≤ 9223372036854775807) (ks : s.length ≤ 9223372036854775807) (st0 : 0 ≤ st) (st1 : st ≤ 1000)
    (hk : ∀ u1 H', Own eI H' u1 (rnL rnd b s r c l st.toNat) → Nw H u1 → Le H H' → K (.agg #[(.int .i64 (r)), (.int .i64 (c)), u1]) H') : HT prg I.impl_Life_run [(.agg #[vb, vs]), (.agg #[(.int .i64 (r)), (.int .i64 (c)), vc]), (.bool (rnd)), (.int .i64 (st))].toArray H K := by
 have lE := Le.refl H
 have hvb := hvb0
 have hvs := hvs0
 have hvc := hvc0
 refine R.impl_Life_run ?_
 unfold F.impl_Life_run
 have l1 := fieldN_len hf
 refine nw_i (fun p1 H2 op1 nn3 le4 => ?_)
 replace hvb := hvb.le le4
 replace hvs := hvs.le le4
 replace hvc := hvc.le le4
 replace lE := lE.trans le4
 replace op1 : Cel H2 p1 [vb, vs] := op1
 refine nw_i (fun q H5 oq nn6 le7 => ?_)
 have ap1Xq : Apart p1 q := op1.apart nn6
 have nq : Nw H q := nn6.le lE
 replace op1 := op1.le le7
 replace hvb := hvb.le le7
 replace hvs := hvs.le le7
 replace hvc := hvc.le le7
 replace lE := lE.trans le7
 replace oq : Cel H5 q [(.int .i64 (r)), (.int .i64 (c)), vc] := oq
 refine nw_i (fun p8 H9 op8 nn10 le11 => ?_)
 have aqXp8 : Apart q p8 := oq.apart nn10
 have np8 : Nw H p8 := nn10.le lE
 replace op1 := op1.le le11
 replace oq := oq.le le11
 replace hvb := hvb.le le11
 replace hvs := hvs.le le11
 replace hvc := hvc.le le11
 replace lE := lE.trans le11
 replace op8 : Cel H9 p8 [(.int .i64 (0)), (.int .i64 (0)), (.slice none 0 0)] := op8
 refine ob_i (oq.ldn rfl) ?_
 refine C.impl_copyField hvc (by first | omega | assumption) (fun  u14 H12 ou14 nn15  le13 => ?_)
 have ap1Xu14 : Apart p1 u14 := op1.apart nn15
 have aqXu14 : Apart q u14 := oq.apart nn15
 have ap8Xu14 : Apart p8 u14 := op8.apart nn15
 have nu14 : Nw H u14 := nn15.le lE
 replace op1 := op1.le le13
 replace oq := oq.le le13
 replace op8 := op8.le le13
 replace hvb := hvb.le le13
 replace hvs := hvs.le le13
 replace hvc := hvc.le le13
 replace lE := lE.trans le13
 refine oq.stn (ws := [(.int .i64 (r)), (.int .i64 (c)), u14]) rfl rfl (oc1 rfl (oc1 rfl (oc1 ou14.one oc0))) (fun H16 oq off17 => ?_)
 replace op1 := op1.off off17 ap1Xq
 replace op8 := op8.off off17 aqXp8.symm
 replace ou14 := ou14.off off17 aqXu14.symm
 replace hvb := hvb0.le (off17.le lE nq)
 replace hvs := hvs0.le (off17.le lE nq)
 replace hvc := hvc0.le (off17.le lE nq)
 replace lE := off17.le lE nq
 replace oq : Cel H16 q [(.int .i64 (r)), (.int .i64 (c)), u14] := oq
 refine jn_i (fun σ' H' => ∃ u, σ' 5 = q ∧ σ' 8 = p8 ∧ Cel H' p1 [vb, vs] ∧ Cel H' q [(.int .i64 (r)), (.int .i64 (c)), u] ∧ Cel H' p8 [(.int .i64 (0)), (.int .i64 (0)), (.slice none 0 0)] ∧ Own eI H' u (rnL rnd b s r c l st.toNat) ∧ Nw H u ∧ Apart p1 u ∧ Apart q u ∧ Apart p8 u ∧ Le H H') (fun σ18 H18 hP => ?_) (fun J18 hJ18 => ?_)
 ·skip
  obtain ⟨u, g5L18, g8L18, op1, oq, op8, ou, nu, ap1Xu, aqXu, ap8Xu, lE⟩ := hP
  have hvb := hvb0.le lE
  have hvs := hvs0.le lE
  have hvc := hvc0.le lE
  try simp only [g5L18, g8L18]
  refine ob_i (oq.ldn rfl) ?_
  refine op8.stn (ws := [(.int .i64 (r)), (.int .i64 (c)), u]) rfl rfl (oc1 rfl (oc1 rfl (oc1 ou.one oc0))) (fun H19 op8 off20 => ?_)
  replace ou := ou.off off20 ap8Xu.symm
  replace hvb := hvb0.le (off20.le lE np8)
  replace hvs := hvs0.le (off20.le lE np8)
  replace hvc := hvc0.le (off20.le lE np8)
  replace lE := off20.le lE np8
  replace op8 : Cel H19 p8 [(.int .i64 (r)), (.int .i64 (c)), u] := op8
  refine ob_i (op8.ldn rfl) ?_
  skip
  exact hk  u _ ou nu  lE
 refine ⟨fun n' σ' H' => ∃ i : Nat, n' = st.toNat - i ∧ i ≤ st.toNat ∧ ∃ u, σ' 2 = (.bool (rnd)) ∧ σ' 4 = p1 ∧ σ' 5 = q ∧ σ' 8 = p8 ∧ σ' 11 = (.int .i64 (st)) ∧ σ' 12 = (.int .i64 ((i : Int))) ∧ Cel H' p1 [vb, vs] ∧ Cel H' q [(.int .i64 (r)), (.int .i64 (c)), u] ∧ Cel H' p8 [(.int .i64 (0)), (.int .i64 (0)), (.slice none 0 0)] ∧ Own eI H' u (rnL rnd b s r c l i) ∧ Nw H u ∧ Apart p1 u ∧ Apart q u ∧ Apart p8 u ∧ Le H H',
  ⟨_, 0, rfl, by omega, u14, rfl, rfl, rfl, rfl, rfl, (congrArg (Value.int .i64) (by first | omega | rfl | (simp; done))), op1, oq, op8, (Own.cast (by first | rfl | (simp; done)) ou14), nu14, ap1Xu14, aqXu14, ap8Xu14, lE⟩, ?_⟩
 rintro n21 σ21 H21 ⟨i, rfl, hiN, u, g2L21, g4L21, g5L21, g8L21, g11L21, g12L21, op1, oq, op8, ou, nu, ap1Xu, aqXu, ap8Xu, lE⟩
 have hvb := hvb0.le lE
 have hvs := hvs0.le lE
 have hvc := hvc0.le lE
 try simp only [g2L21, g4L21, g5L21, g8L21, g11L21, g12L21]
 have hfi : fieldN 1 r c (rnL rnd b s r c l i) := rnL_field hf i
 have hli := fieldN_len hfi
 have hfn : fieldN 1 r c (nxL rnd b s r c (rnL rnd b s r c l i)) := nxL_field hf.1
 have hln := fieldN_len hfn
 refine ob_i (vInt_lss _ _ _) ?_
 refine cnd_d (fun hg22 => ?_) (fun hg22 => ?_)
 ·skip
  have ti := hg22
  refine ob_i (op1.ldn rfl) ?_
  refine ob_i (oq.ldn rfl) ?_
  refine C.impl_Life_step hvb hvs ou.sl (by first | omega | assumption) (by first | omega | assumption) (by first | omega | assumption) (fun  u25 H23 ou25 nn26  le24 => ?_)
  have ap1Xu25 : Apart p1 u25 := op1.apart nn26
  have aqXu25 : Apart q u25 := oq.apart nn26
  have ap8Xu25 : Apart p8 u25 := op8.apart nn26
  have nu25 : Nw H u25 := nn26.le lE
  replace op1 := op1.le le24
  replace oq := oq.le le24
  replace op8 := op8.le le24
  replace hvb := hvb.le le24
  replace hvs := hvs.le le24
  replace hvc := hvc.le le24
  replace lE := lE.trans le24
  refine oq.stn (ws := [(.int .i64 (r)), (.int .i64 (c)), u25]) rfl rfl (oc1 rfl (oc1 rfl (oc1 ou25.one oc0))) (fun H27 oq off28 => ?_)
  replace op1 := op1.off off28 ap1Xq
  replace op8 := op8.off off28 aqXp8.symm
  replace ou25 := ou25.off off28 aqXu25.symm
  replace hvb := hvb0.le (off28.le lE nq)
  replace hvs := hvs0.le (off28.le lE nq)
  replace hvc := hvc0.le (off28.le lE nq)
  replace lE := off28.le lE nq
  replace oq : Cel H27 q [(.int .i64 (r)), (.int .i64 (c)), u25] := oq
  refine ob_i (vInt_add (by omega) (by omega)) ?_
  exact nxt (st.toNat - (i + 1)) (by omega) ⟨i + 1, rfl, by omega, u25, g2L21, g4L21, g5L21, g8L21, g11L21, (congrArg (Value.int .i64) (by first | omega | rfl | (simp; done))), op1, oq, op8, ou25, nu25, ap1Xu25, aqXu25, ap8Xu25, lE⟩
 ·skip
  have ti := hg22
  rw [show i = st.toNat by omega] at ou
  exact hJ18 _ _ ⟨u, g5L21, g8L21, op1, oq, op8, ou, nu, ap1Xu, aqXu, ap8Xu, lE⟩
def runP (b s : List Int) (r c : Int) (l : List Int) (n : Int) : Prop := canP b s r c l ∧ 0 ≤ n ∧ n ≤ 512
instance (b s : List Int) (r c : Int) (l : List Int) (n : Int) : Decidable (runP b s r c l n) := by unfold runP; infer_instance
theorem C.spec_RunLife {vb vs vc : Value} {r c st : Int} {rnd : Bool} {b : List Int} {s : List Int} {l : List Int}  {H : Hp} {K : Value → Hp → Prop} (hvb0 : Sl eI H vb b) (hvs0 : Sl eI H vs s) (hvc0 : Sl eI H vc l) (kb : b.length ≤ 9223372036854775807) (ks : s.length ≤ 9223372036854775807) (k1 : l.length ≤ 9223372036854775807)
    (hk : ∀ u1 H', Own eI H' u1 (selL (runP b s r c l st) (rnL rnd b s r c l st.toNat)) → Nw H u1 → Le H H' → K (.tuple #[(.agg #[(.int .i64 (selI (runP b s r c l st) (r))), (.int .i64 (selI (runP b s r c l st) (c))), u1]), (.bool (decide (runP b s r c l st)))]) H') : HT prg I.spec_RunLife [(.agg #[vb, vs]), (.agg #[(.int .i64 (r)), (.int .i64 (c)), vc]), (.bool (rnd)), (.int .i64 (st))].toArray H K := by
 have lE := Le.refl H
 have hvb := hvb0
 have hvs := hvs0
 have hvc := hvc0
 refine R.spec_RunLife ?_
 unfold F.spec_RunLife
 refine nw_i (fun p1 H2 op1 nn3 le4 => ?_)
 replace hvb := hvb.le le4
 replace hvs := hvs.le le4
 replace hvc := hvc.le le4
 replace lE := lE.trans le4
 replace op1 : Cel H2 p1 [vb, vs] := op1
 refine nw_i (fun p5 H6 op5 nn7 le8 => ?_)
 replace op1 := op1.le le8
 replace hvb := hvb.le le8
 replace hvs := hvs.le le8
 replace hvc := hvc.le le8
 replace lE := lE.trans le8
 replace op5 : Cel H6 p5 [(.int .i64 (r)), (.int .i64 (c)), vc] := op5
 refine nw_i (fun p9 H10 op9 nn11 le12 => ?_)
 have np9 : Nw H p9 := nn11.le lE
 replace op1 := op1.le le12
 replace op5 := op5.le le12
 replace hvb := hvb.le le12
 replace hvs := hvs.le le12
 replace hvc := hvc.le le12
 replace lE := lE.trans le12
 replace op9 : Cel H10 p9 [(.int .i64 (0)), (.int .i64 (0)), (.slice none 0 0)] := op9
 refine C.spec_l04Can op1 op5 hvb hvs hvc (by first | omega | assumption) (by first | omega | assumption) (by first | omega | assumption) (fun   H13    le14 => ?_)
 replace op1 := op1.le le14
 replace op5 := op5.le le14
 replace op9 := op9.le le14
 replace hvb := hvb.le le14
 replace hvs := hvs.le le14
 replace hvc := hvc.le le14
 replace lE := lE.trans le14
 refine ob_nd (fun hc15 => ?_) (fun hc15 => ?_)
 ·skip
  have hf := hc15.2
  have l1 := fieldN_len hf
  refine gop_rf ?_
  refine gop_rf ?_
  refine C.spec_l00In  ?_
  refine gop_rf ?_
  refine ob_nd (fun hc16 => ?_) (fun hc16 => ?_)
  ·skip
   refine ob_i (vPick_f _ _) ?_
   refine cnd_f1 ?_
   refine C.spec_l04Run op1 op5 hvb hvs hvc (by first | omega | assumption) (by first | omega | assumption) (by first | omega | assumption) (by first | omega | assumption) (by first | omega | assumption) (fun  u19 H17 ou19 nn20  le18 => ?_)
   have ap9Xu19 : Apart p9 u19 := op9.apart nn20
   have nu19 : Nw H u19 := nn20.le lE
   replace op9 := op9.le le18
   replace hvb := hvb.le le18
   replace hvs := hvs.le le18
   replace hvc := hvc.le le18
   replace lE := lE.trans le18
   refine op9.stn (ws := [(.int .i64 (r)), (.int .i64 (c)), u19]) rfl rfl (oc1 rfl (oc1 rfl (oc1 ou19.one oc0))) (fun H21 op9 off22 => ?_)
   replace ou19 := ou19.off off22 ap9Xu19.symm
   replace hvb := hvb0.le (off22.le lE np9)
   replace hvs := hvs0.le (off22.le lE np9)
   replace hvc := hvc0.le (off22.le lE np9)
   replace lE := off22.le lE np9
   replace op9 : Cel H21 p9 [(.int .i64 (r)), (.int .i64 (c)), u19] := op9
   refine ob_i (op9.ldn rfl) ?_
   skip
   have hok : runP b s r c l st := by first | assumption | exact ⟨by assumption, by assumption⟩ | exact ⟨by assumption, by omega⟩
   exact keq (K := K) (by rw [show ((selI (runP b s r c l st) (r)) : Int) = (r) from by first | exact selI_t hok | exact selI_f hok]; rw [show ((selI (runP b s r c l st) (c)) : Int) = (c) from by first | exact selI_t hok | exact selI_f hok]; rw [decide_eq_true (show (runP b s r c l st) from by exact hok)]) (hk  u19 _ (Own.cast (show rnL rnd b s r c l st.toNat = selL (runP b s r c l st) (rnL rnd b s r c l st.toNat) by exact (selL_t hok).symm) ou19) nu19  lE)
  ·skip
   refine ob_i (vPick_f _ _) ?_
   refine cnd_t1 ?_
   refine ob_i (a := (.agg #[(.int .i64 (0)), (.int .i64 (0)), (.slice none 0 0)])) (by rfl) ?_
   refine op9.stn (ws := [(.int .i64 (0)), (.int .i64 (0)), (.slice none 0 0)]) rfl rfl (oc1 rfl (oc1 rfl (oc1 rfl oc0))) (fun H23 op9 off24 => ?_)
   replace hvb := hvb0.le (off24.le lE np9)
   replace hvs := hvs0.le (off24.le lE np9)
   replace hvc := hvc0.le (off24.le lE np9)
   replace lE := off24.le lE np9
   replace op9 : Cel H23 p9 [(.int .i64 (0)), (.int .i64 (0)), (.slice none 0 0)] := op9
   refine ob_i (op9.ldn rfl) ?_
   skip
   have hok : ¬ (runP b s r c l st) := by intro h; first | exact absurd h.1 (by assumption) | exact absurd h.2 (by assumption) | (have := h.2; omega)
   exact keq (K := K) (by rw [show ((selI (runP b s r c l st) (r)) : Int) = (0) from by first | exact selI_t hok | exact selI_f hok]; rw [show ((selI (runP b s r c l st) (c)) : Int) = (0) from by first | exact selI_t hok | exact selI_f hok]; rw [decide_eq_false (show ¬ (runP b s r c l st) from by exact hok)]) (hk  (.slice none 0 0) _ (Own.cast (show [] = selL (runP b s r c l st) (rnL rnd b s r c l st.toNat) by exact (selL_f hok).symm) (Own.nil_of none)) (fun b hb => by simp [bk] at hb)  lE)
 ·skip
  refine gop_st ?_
  refine gop_st ?_
  refine gop_st ?_
  refine ob_i (vPick_t _ _) ?_
  refine cnd_t1 ?_
  refine ob_i (a := (.agg #[(.int .i64 (0)), (.int .i64 (0)), (.slice none 0 0)])) (by rfl) ?_
  refine op9.stn (ws := [(.int .i64 (0)), (.int .i64 (0)), (.slice none 0 0)]) rfl rfl (oc1 rfl (oc1 rfl (oc1 rfl oc0))) (fun H25 op9 off26 => ?_)
  replace hvb := hvb0.le (off26.le lE np9)
  replace hvs := hvs0.le (off26.le lE np9)
  replace hvc := hvc0.le (off26.le lE np9)
  replace lE := off26.le lE np9
  replace op9 : Cel H25 p9 [(.int .i64 (0)), (.int .i64 (0)), (.slice none 0 0)] := op9
  refine ob_i (op9.ldn rfl) ?_
  skip
  have hok : ¬ (runP b s r c l st) := by intro h; first | exact absurd h.1 (by assumption) | exact absurd h.2 (by assumption) | (have := h.2; omega)
  exact keq (K := K) (by rw [show ((selI (runP b s r c l st) (r)) : Int) = (0) from by first | exact selI_t hok | exact selI_f hok]; rw [show ((selI (runP b s r c l st) (c)) : Int) = (0) from by first | exact selI_t hok | exact selI_f hok]; rw [decide_eq_false (show ¬ (runP b s r c l st) from by exact hok)]) (hk  (.slice none 0 0) _ (Own.cast (show [] = selL (runP b s r c l st) (rnL rnd b s r c l st.toNat) by exact (selL_f hok).symm) (Own.nil_of none)) (fun b hb => by simp [bk] at hb)  lE)
end Go.Proofs.YtnijdhlmimemcaaGreatDoor
/- Counts ahead, inner steps. -/
namespace Go.Proofs.YtnijdhlmimemcaaGreatDoor
open HL
set_option maxRecDepth 100000
theorem C.impl_Field_count {vc : Value} {r c v : Int} {l : List Int}  {H : Hp} {K : Value → Hp → Prop} (hvc0 : Sl eI H vc l) (k1 : l.length ≤ 1000)
    (hk : ∀ H', Le H H' → K (.int .i64 (cntE v l)) H') : HT prg I.impl_Field_count [(.agg #[(.int .i64 (r)), (.int .i64 (c)), vc]), (.int .i64 (v))].toArray H K := by
 have lE := Le.refl H
 have hvc := hvc0
 refine R.impl_Field_count ?_
 unfold F.impl_Field_count
 refine nw_i (fun p1 H2 op1 nn3 le4 => ?_)
 replace hvc := hvc.le le4
 replace lE := lE.trans le4
 replace op1 : Cel H2 p1 [(.int .i64 (r)), (.int .i64 (c)), vc] := op1
 refine jn_i (fun σ' H' => σ' 5 = (.int .i64 (cntE v l)) ∧ Cel H' p1 [(.int .i64 (r)), (.int .i64 (c)), vc] ∧ Le H H') (fun σ5 H5 hP => ?_) (fun J5 hJ5 => ?_)
 ·skip
  obtain ⟨g5L5, op1, lE⟩ := hP
  try simp only [g5L5]
  skip
  exact hk   _    lE
 refine ob_i (op1.fa 2) ?_
 refine ob_i (op1.ld 2 rfl) ?_
 refine ob_i (hvc.len) ?_
 refine ⟨fun n' σ' H' => ∃ i : Nat, n' = l.length - i ∧ i ≤ l.length ∧ σ' 1 = (.int .i64 (v)) ∧ σ' 5 = (.int .i64 (cntE v (l.take i))) ∧ σ' 9 = vc ∧ σ' 10 = (.int .i64 (((l).length : Int))) ∧ σ' 11 = (.int .i64 ((i : Int))) ∧ Cel H' p1 [(.int .i64 (r)), (.int .i64 (c)), vc] ∧ Le H H',
  ⟨_, 0, rfl, by omega, rfl, (congrArg (Value.int .i64) (by first | omega | rfl | (simp; done))), rfl, rfl, (congrArg (Value.int .i64) (by first | omega | rfl | (simp; done))), op1, lE⟩, ?_⟩
 rintro n6 σ6 H6 ⟨i, rfl, hiN, g1L6, g5L6, g9L6, g10L6, g11L6, op1, lE⟩
 have hvc := hvc0.le lE
 try simp only [g1L6, g5L6, g9L6, g10L6, g11L6]
 have bb := cntE_bnd v (l.take i)
 have bl : ((l.take i).length : Int) ≤ 1000 := by simp; omega
 refine ob_i (vInt_lss _ _ _) ?_
 refine cnd_d (fun hg7 => ?_) (fun hg7 => ?_)
 ·skip
  have ti := hg7
  refine ob_i (hvc.ix (by omega) (by omega)) ?_
  refine ob_i (hvc.ld 0 (by omega) (by omega)) ?_
  refine ob_i (vInt_eql _ _ _) ?_
  refine cnd_d (fun hg8 => ?_) (fun hg8 => ?_)
  ·skip
   refine ob_i (vInt_add (by omega) (by omega)) ?_
   refine ob_i (vInt_add (by omega) (by omega)) ?_
   have eS := cntE_take (v := v) (l := l) (i := i) (by omega)
   rw [if_pos hg8] at eS
   exact nxt (l.length - (i + 1)) (by omega) ⟨i + 1, rfl, by omega, g1L6, (congrArg (Value.int .i64) (by first | omega | rfl | (simp; done))), g9L6, g10L6, (congrArg (Value.int .i64) (by first | omega | rfl | (simp; done))), op1, lE⟩
  ·skip
   refine ob_i (vInt_add (by omega) (by omega)) ?_
   have eS := cntE_take (v := v) (l := l) (i := i) (by omega)
   rw [if_neg hg8] at eS
   exact nxt (l.length - (i + 1)) (by omega) ⟨i + 1, rfl, by omega, g1L6, (g5L6.trans (congrArg (Value.int .i64) (by first | omega | rfl | (simp; done)))), g9L6, g10L6, (congrArg (Value.int .i64) (by first | omega | rfl | (simp; done))), op1, lE⟩
 ·skip
  have ti := hg7
  rw [List.take_of_length_le (by omega)] at *
  exact hJ5 _ _ ⟨(g5L6.trans (congrArg (Value.int .i64) (by first | omega | rfl | (simp; done)))), op1, lE⟩
end Go.Proofs.YtnijdhlmimemcaaGreatDoor
/- Fields that are still, and those that lead to one. -/
namespace Go.Proofs.YtnijdhlmimemcaaGreatDoor
open HL
set_option maxRecDepth 100000
end Go.Proofs.YtnijdhlmimemcaaGreatDoor
/- Patterns that come again elsewhere: the program's and the reference's. -/
namespace Go.Proofs.YtnijdhlmimemcaaGreatDoor
open HL
set_option maxRecDepth 100000
end Go.Proofs.YtnijdhlmimemcaaGreatDoor
/- Fields that are drawn, and what they become. -/
namespace Go.Proofs.YtnijdhlmimemcaaGreatDoor
open HL
set_option maxRecDepth 100000
theorem C.impl_isShare {sh : Nat} {H : Hp} {K : Value → Hp → Prop}
    (hk : ∀ H', Le H H' → K (.bool (decide (shrP sh))) H') : HT prg I.impl_isShare [(.float .f32 sh)].toArray H K := by
 have lE := Le.refl H
 refine R.impl_isShare ?_
 unfold F.impl_isShare
 refine ob_i (vF_geq _ _) ?_
 by_cases hc1 : (fGe sh 0) = true
 ·skip
  refine gop_e (hc1) ?_
  refine gop_rt ?_
  refine gop_e (hc1) ?_
  refine gop_rt ?_
  refine ob_i (vF_leq _ _) ?_
  refine ob_i (vPick_et (hc1) _ _) ?_
  skip
  exact keq (K := K) (by rw [show (fLe sh 1065353216) = decide (shrP sh) from by rw [Bool.eq_iff_iff, decide_eq_true_eq]; exact ⟨fun h => ⟨by assumption, h⟩, fun h => h.2⟩]) (hk   _    lE)
 ·skip
  refine gop_e (eq_false_of_ne_true hc1) ?_
  refine gop_sf ?_
  refine gop_e (eq_false_of_ne_true hc1) ?_
  refine gop_sf ?_
  refine ob_i (vPick_ef (eq_false_of_ne_true hc1) _ _) ?_
  skip
  exact keq (K := K) (by rw [decide_eq_false (show ¬ (shrP sh) from by exact fun h => by have := h.1; simp_all)]) (hk   _    lE)
theorem C.spec_l02Share {sh : Nat} {H : Hp} {K : Value → Hp → Prop}
    (hk : ∀ H', Le H H' → K (.bool (decide (shrP sh))) H') : HT prg I.spec_l02Share [(.float .f32 sh)].toArray H K := by
 have lE := Le.refl H
 refine R.spec_l02Share ?_
 unfold F.spec_l02Share
 refine ob_i (vF_geq _ _) ?_
 by_cases hc1 : (fGe sh 0) = true
 ·skip
  refine gop_e (hc1) ?_
  refine gop_rt ?_
  refine gop_e (hc1) ?_
  refine gop_rt ?_
  refine ob_i (vF_leq _ _) ?_
  refine ob_i (vPick_et (hc1) _ _) ?_
  skip
  exact keq (K := K) (by rw [show (fLe sh 1065353216) = decide (shrP sh) from by rw [Bool.eq_iff_iff, decide_eq_true_eq]; exact ⟨fun h => ⟨by assumption, h⟩, fun h => h.2⟩]) (hk   _    lE)
 ·skip
  refine gop_e (eq_false_of_ne_true hc1) ?_
  refine gop_sf ?_
  refine gop_e (eq_false_of_ne_true hc1) ?_
  refine gop_sf ?_
  refine ob_i (vPick_ef (eq_false_of_ne_true hc1) _ _) ?_
  skip
  exact keq (K := K) (by rw [decide_eq_false (show ¬ (shrP sh) from by exact fun h => by have := h.1; simp_all)]) (hk   _    lE)
theorem C.impl_isSeed {x : Int}  {H : Hp} {K : Value → Hp → Prop}
    (hk : ∀ H', Le H H' → K (.bool (decide (0 ≤ x ∧ x ≤ 4294967295))) H') : HT prg I.impl_isSeed [(.int .i64 (x))].toArray H K := by
 have lE := Le.refl H
 refine R.impl_isSeed ?_
 unfold F.impl_isSeed
 refine C.impl_within  ?_
 skip
 exact hk   _    lE
theorem C.impl_areWorkers {x : Int}  {H : Hp} {K : Value → Hp → Prop}
    (hk : ∀ H', Le H H' → K (.bool (decide (1 ≤ x ∧ x ≤ 8))) H') : HT prg I.impl_areWorkers [(.int .i64 (x))].toArray H K := by
 have lE := Le.refl H
 refine R.impl_areWorkers ?_
 unfold F.impl_areWorkers
 refine C.impl_within  ?_
 skip
 exact hk   _    lE
theorem C.spec_l04Sides {r c : Int}  {H : Hp} {K : Value → Hp → Prop}
    (hk : ∀ H', Le H H' → K (.bool (decide ((1 ≤ r ∧ r ≤ 24) ∧ 1 ≤ c ∧ c ≤ 24))) H') : HT prg I.spec_l04Sides [(.int .i64 (r)), (.int .i64 (c))].toArray H K := by
 have lE := Le.refl H
 refine R.spec_l04Sides ?_
 unfold F.spec_l04Sides
 refine C.spec_l00In  ?_
 by_cases hc1 : 1 ≤ r ∧ r ≤ 24
 ·skip
  refine gop_e (decide_eq_true hc1) ?_
  refine gop_rt ?_
  refine gop_e (decide_eq_true hc1) ?_
  refine gop_rt ?_
  refine C.spec_l00In  ?_
  refine ob_i (vPick_et (decide_eq_true hc1) _ _) ?_
  skip
  exact keq (K := K) (by rw [show decide (1 ≤ c ∧ c ≤ 24) = decide ((1 ≤ r ∧ r ≤ 24) ∧ 1 ≤ c ∧ c ≤ 24) from decide_eq_decide.mpr (by exact ⟨fun h => ⟨by assumption, h⟩, fun h => h.2⟩)]) (hk   _    lE)
 ·skip
  refine gop_e (decide_eq_false hc1) ?_
  refine gop_sf ?_
  refine gop_e (decide_eq_false hc1) ?_
  refine gop_sf ?_
  refine ob_i (vPick_ef (decide_eq_false hc1) _ _) ?_
  skip
  exact keq (K := K) (by rw [decide_eq_false (show ¬ ((1 ≤ r ∧ r ≤ 24) ∧ 1 ≤ c ∧ c ≤ 24) from by exact fun h => absurd h.1 (by assumption))]) (hk   _    lE)
theorem C.impl_nextSeed {x : Int}  {H : Hp} {K : Value → Hp → Prop} (x0 : 0 ≤ x) (x1 : x ≤ 4294967295)
    (hk : K (.int .i64 (nxS x)) H) : HT prg I.impl_nextSeed [(.int .i64 (x))].toArray H K := by
 have lE := Le.refl H
 refine R.impl_nextSeed ?_
 unfold F.impl_nextSeed
 refine ob_i (vInt_mul (by omega) (by omega)) ?_
 refine ob_i (vInt_add (by omega) (by omega)) ?_
 refine ob_i (vInt_remN (by omega) (by omega)) ?_
 skip
 exact keq (K := K) (by rw [show ((((1664525 * x) + 1013904223) % 4294967296) : Int) = (nxS x) from by rfl]) (hk )
theorem C.spec_DrawField {r c x : Int} {sh : Nat} {H : Hp} {K : Value → Hp → Prop}
    (hk1 : ¬ drP r c x sh → ∀ H', Le H H' → K (.tuple #[(.agg #[(.int .i64 (0)), (.int .i64 (0)), (.slice none 0 0)]), (.int .i64 (0)), (.bool false)]) H')
    (hk2 : drP r c x sh → ∀ u1 H', Own eI H' u1 (drL r c x sh) → Nw H u1 → Le H H' → K (.tuple #[(.agg #[(.int .i64 (r)), (.int .i64 (c)), u1]), (.int .i64 (sdS x (r.toNat * c.toNat))), (.bool true)]) H') : HT prg I.spec_DrawField [(.int .i64 (r)), (.int .i64 (c)), (.float .f32 sh), (.int .i64 (x))].toArray H K := by
 have lE := Le.refl H
 refine R.spec_DrawField ?_
 unfold F.spec_DrawField
 refine nw_i (fun p1 H2 op1 nn3 le4 => ?_)
 have np1 : Nw H p1 := nn3.le lE
 replace lE := lE.trans le4
 replace op1 : Cel H2 p1 [(.int .i64 (0)), (.int .i64 (0)), (.slice none 0 0)] := op1
 refine C.spec_l04Sides  (fun   H5    le6 => ?_)
 replace op1 := op1.le le6
 replace lE := lE.trans le6
 refine ob_nd (fun hc7 => ?_) (fun hc7 => ?_)
 ·skip
  have hs : sidesF r c := hc7
  have qm := sidesF_mul hs
  have q1 := hs.1
  have q2 := hs.2
  have qc : ((r.toNat * c.toNat : Nat) : Int) = r * c := by rw [← Int.toNat_mul (by omega) (by omega)]; omega
  refine gop_rf ?_
  refine gop_rf ?_
  refine C.spec_l02Share  (fun   H8    le9 => ?_)
  replace op1 := op1.le le9
  replace lE := lE.trans le9
  refine gop_rf ?_
  refine ob_nd (fun hc10 => ?_) (fun hc10 => ?_)
  ·skip
   refine ob_i (vPick_f _ _) ?_
   refine gop_rf ?_
   refine gop_rf ?_
   refine C.spec_l00In  ?_
   refine gop_rf ?_
   refine ob_nd (fun hc11 => ?_) (fun hc11 => ?_)
   ·skip
    have sb := sdS_bnd (x := x) (by omega) (by omega)
    refine ob_i (vPick_f _ _) ?_
    refine cnd_f1 ?_
    refine C.spec_l04New (by first | omega | assumption) (by first | omega | assumption) (by first | omega | assumption) (by first | omega | assumption) (fun  u14 H12 ou14 nn15  le13 => ?_)
    have ap1Xu14 : Apart p1 u14 := op1.apart nn15
    have nu14 : Nw H u14 := nn15.le lE
    replace op1 := op1.le le13
    replace lE := lE.trans le13
    refine nw_i (fun q H16 oq nn17 le18 => ?_)
    have ap1Xq : Apart p1 q := op1.apart nn17
    have au14Xq : Apart u14 q := ou14.apart nn17
    have nq : Nw H q := nn17.le lE
    replace op1 := op1.le le18
    replace ou14 := ou14.le le18
    replace lE := lE.trans le18
    replace oq : Cel H16 q [(.int .i64 (0)), (.int .i64 (0)), (.slice none 0 0)] := oq
    refine oq.stn (ws := [(.int .i64 (r)), (.int .i64 (c)), u14]) rfl rfl (oc1 rfl (oc1 rfl (oc1 ou14.one oc0))) (fun H19 oq off20 => ?_)
    replace op1 := op1.off off20 ap1Xq
    replace ou14 := ou14.off off20 au14Xq
    replace lE := off20.le lE nq
    replace oq : Cel H19 q [(.int .i64 (r)), (.int .i64 (c)), u14] := oq
    refine jn_i (fun σ' H' => ∃ u, σ' 3 = (.int .i64 (sdS x (r.toNat * c.toNat))) ∧ σ' 8 = p1 ∧ σ' 11 = q ∧ Cel H' p1 [(.int .i64 (0)), (.int .i64 (0)), (.slice none 0 0)] ∧ Cel H' q [(.int .i64 (r)), (.int .i64 (c)), u] ∧ Own eI H' u (drL r c x sh) ∧ Nw H u ∧ Apart p1 u ∧ Apart q u ∧ Le H H') (fun σ21 H21 hP => ?_) (fun J21 hJ21 => ?_)
    ·skip
     obtain ⟨u, g3L21, g8L21, g11L21, op1, oq, ou, nu, ap1Xu, aqXu, lE⟩ := hP
     try simp only [g3L21, g8L21, g11L21]
     refine ob_i (oq.ldn rfl) ?_
     refine op1.stn (ws := [(.int .i64 (r)), (.int .i64 (c)), u]) rfl rfl (oc1 rfl (oc1 rfl (oc1 ou.one oc0))) (fun H22 op1 off23 => ?_)
     replace ou := ou.off off23 ap1Xu.symm
     replace lE := off23.le lE np1
     replace op1 : Cel H22 p1 [(.int .i64 (r)), (.int .i64 (c)), u] := op1
     refine ob_i (op1.ldn rfl) ?_
     skip
     exact hk2 (by exact ⟨hs, by assumption, by omega⟩) u _ ou nu  lE
    refine ⟨fun n' σ' H' => ∃ i : Nat, n' = (r.toNat * c.toNat) - i ∧ i ≤ (r.toNat * c.toNat) ∧ ∃ u, σ' 2 = (.float .f32 sh) ∧ σ' 3 = (.int .i64 (sdS x i)) ∧ σ' 8 = p1 ∧ σ' 11 = q ∧ σ' 12 = (.int .i64 ((i : Int))) ∧ Cel H' p1 [(.int .i64 (0)), (.int .i64 (0)), (.slice none 0 0)] ∧ Cel H' q [(.int .i64 (r)), (.int .i64 (c)), u] ∧ Own eI H' u (fillL c (drG c x sh) (r.toNat * c.toNat) i) ∧ Nw H u ∧ Apart p1 u ∧ Apart q u ∧ Le H H',
     ⟨_, 0, rfl, by omega, u14, rfl, (congrArg (Value.int .i64) (by first | omega | rfl | (simp; done))), rfl, rfl, (congrArg (Value.int .i64) (by first | omega | rfl | (simp; done))), op1, oq, (Own.cast (by exact (fillL_zero _ _ _).symm) ou14), nu14, ap1Xu14, au14Xq.symm, lE⟩, ?_⟩
    rintro n24 σ24 H24 ⟨i, rfl, hiN, u, g2L24, g3L24, g8L24, g11L24, g12L24, op1, oq, ou, nu, ap1Xu, aqXu, lE⟩
    try simp only [g2L24, g3L24, g8L24, g11L24, g12L24]
    have si := sb i
    have fl := fillL_length c (drG c x sh) (r.toNat * c.toNat) i
    refine ob_i (oq.fa 2) ?_
    refine ob_i (oq.ld 2 rfl) ?_
    refine ob_i (ou.len) ?_
    refine ob_i (vInt_lss _ _ _) ?_
    refine cnd_d (fun hg25 => ?_) (fun hg25 => ?_)
    ·skip
     have ti := hg25
     refine ob_i (vInt_mul (by omega) (by omega)) ?_
     refine ob_i (vInt_add (by omega) (by omega)) ?_
     refine ob_i (vInt_remN (by omega) (by omega)) ?_
     refine ob_i (vInt_quoN (by omega) (by omega) (by omega)) ?_
     refine ob_i (a := (.float .f32 (FloatKind.nearest .f32 ((((1664525 * (sdS x i)) + 1013904223) % 4294967296) / 256)))) rfl ?_
     refine fA_i (o := (FloatKind.f32.format.div (FloatKind.nearest .f32 ((((1664525 * (sdS x i)) + 1013904223) % 4294967296) / 256)) 1266679808)) rfl (fun t => nan_bits32 _ _ t) (fun z26 hz26 => ?_)
     refine ob_i (vF_lss _ _) ?_
     refine cnd_i (fun hg27 => ?_) (fun hg27 => ?_)
     ·skip
      refine ob_i (oq.fa 2) ?_
      refine ob_i (oq.ld 2 rfl) ?_
      refine ob_i (ou.sl.ix (by omega) (by omega)) ?_
      refine ou.st (x := 1) (by omega) (by omega) rfl rfl (fun H28 ou off29 => ?_)
      replace op1 := op1.off off29 ap1Xu
      replace oq := oq.off off29 aqXu
      replace lE := off29.le lE nu
      refine ob_i (vInt_add (by omega) (by omega)) ?_
      have eB : fLt z26 sh = shB (sdS x (i + 1)) sh := fLtO_of hz26
      have eG : drG c x sh ((i : Int) / c) ((i : Int) % c) = 1 := by rw [dr_ix (by omega), if_pos (eB.symm.trans hg27)]
      replace ou : Own eI H28 u (fillL c (drG c x sh) (r.toNat * c.toNat) (i + 1)) := by have e := fillL_set1 (c := c) (g := drG c x sh) (N := (r.toNat * c.toNat)) (t := i); rw [eG] at e; rw [Int.toNat_natCast] at ou; rw [← e]; exact ou
      exact nxt ((r.toNat * c.toNat) - (i + 1)) (by omega) ⟨i + 1, rfl, by omega, u, g2L24, (congrArg (Value.int .i64) (by first | omega | rfl | (simp; done))), g8L24, g11L24, (congrArg (Value.int .i64) (by first | omega | rfl | (simp; done))), op1, oq, ou, nu, ap1Xu, aqXu, lE⟩
     ·skip
      refine ob_i (vInt_add (by omega) (by omega)) ?_
      have eB : fLt z26 sh = shB (sdS x (i + 1)) sh := fLtO_of hz26
      have eG : drG c x sh ((i : Int) / c) ((i : Int) % c) = 0 := by rw [dr_ix (by omega), if_neg (by rw [← eB, hg27]; simp)]
      replace ou : Own eI H24 u (fillL c (drG c x sh) (r.toNat * c.toNat) (i + 1)) := by rw [← fillL_skip1 eG]; exact ou
      exact nxt ((r.toNat * c.toNat) - (i + 1)) (by omega) ⟨i + 1, rfl, by omega, u, g2L24, (congrArg (Value.int .i64) (by first | omega | rfl | (simp; done))), g8L24, g11L24, (congrArg (Value.int .i64) (by first | omega | rfl | (simp; done))), op1, oq, ou, nu, ap1Xu, aqXu, lE⟩
    ·skip
     have ti := hg25
     obtain rfl : i = (r.toNat * c.toNat) := by omega
     rw [fillL_end (Nat.le_refl _)] at ou
     exact hJ21 _ _ ⟨u, (g3L24.trans (congrArg (Value.int .i64) (by first | omega | rfl | (simp; done)))), g8L24, g11L24, op1, oq, ou, nu, ap1Xu, aqXu, lE⟩
   ·skip
    refine ob_i (vPick_f _ _) ?_
    refine cnd_t1 ?_
    refine ob_i (a := (.agg #[(.int .i64 (0)), (.int .i64 (0)), (.slice none 0 0)])) (by rfl) ?_
    refine op1.stn (ws := [(.int .i64 (0)), (.int .i64 (0)), (.slice none 0 0)]) rfl rfl (oc1 rfl (oc1 rfl (oc1 rfl oc0))) (fun H30 op1 off31 => ?_)
    replace lE := off31.le lE np1
    replace op1 : Cel H30 p1 [(.int .i64 (0)), (.int .i64 (0)), (.slice none 0 0)] := op1
    refine ob_i (op1.ldn rfl) ?_
    skip
    exact hk1 (by intro h; have h1 := h.1.1; have h2 := h.1.2; have h3 := h.2.2; first | omega | exact absurd h.2.1 (by assumption) | exact absurd (show (1 ≤ r ∧ r ≤ 24) ∧ 1 ≤ c ∧ c ≤ 24 from h.1) (by assumption))  _    lE
  ·skip
   refine ob_i (vPick_f _ _) ?_
   refine gop_st ?_
   refine gop_st ?_
   refine gop_st ?_
   refine ob_i (vPick_t _ _) ?_
   refine cnd_t1 ?_
   refine ob_i (a := (.agg #[(.int .i64 (0)), (.int .i64 (0)), (.slice none 0 0)])) (by rfl) ?_
   refine op1.stn (ws := [(.int .i64 (0)), (.int .i64 (0)), (.slice none 0 0)]) rfl rfl (oc1 rfl (oc1 rfl (oc1 rfl oc0))) (fun H32 op1 off33 => ?_)
   replace lE := off33.le lE np1
   replace op1 : Cel H32 p1 [(.int .i64 (0)), (.int .i64 (0)), (.slice none 0 0)] := op1
   refine ob_i (op1.ldn rfl) ?_
   skip
   exact hk1 (by intro h; have h1 := h.1.1; have h2 := h.1.2; have h3 := h.2.2; first | omega | exact absurd h.2.1 (by assumption) | exact absurd (show (1 ≤ r ∧ r ≤ 24) ∧ 1 ≤ c ∧ c ≤ 24 from h.1) (by assumption))  _    lE
 ·skip
  refine gop_st ?_
  refine gop_st ?_
  refine gop_st ?_
  refine ob_i (vPick_t _ _) ?_
  refine gop_st ?_
  refine gop_st ?_
  refine gop_st ?_
  refine ob_i (vPick_t _ _) ?_
  refine cnd_t1 ?_
  refine ob_i (a := (.agg #[(.int .i64 (0)), (.int .i64 (0)), (.slice none 0 0)])) (by rfl) ?_
  refine op1.stn (ws := [(.int .i64 (0)), (.int .i64 (0)), (.slice none 0 0)]) rfl rfl (oc1 rfl (oc1 rfl (oc1 rfl oc0))) (fun H34 op1 off35 => ?_)
  replace lE := off35.le lE np1
  replace op1 : Cel H34 p1 [(.int .i64 (0)), (.int .i64 (0)), (.slice none 0 0)] := op1
  refine ob_i (op1.ldn rfl) ?_
  skip
  exact hk1 (by intro h; have h1 := h.1.1; have h2 := h.1.2; have h3 := h.2.2; first | omega | exact absurd h.2.1 (by assumption) | exact absurd (show (1 ≤ r ∧ r ≤ 24) ∧ 1 ≤ c ∧ c ≤ 24 from h.1) (by assumption))  _    lE
theorem C.impl_DrawField {r c x : Int} {sh : Nat} {H : Hp} {K : Value → Hp → Prop}
    (hk1 : ¬ drP r c x sh → ∀ H', Le H H' → K (.tuple #[(.agg #[(.int .i64 (0)), (.int .i64 (0)), (.slice none 0 0)]), (.int .i64 (0)), (.bool false)]) H')
    (hk2 : drP r c x sh → ∀ u1 H', Own eI H' u1 (drL r c x sh) → Nw H u1 → Le H H' → K (.tuple #[(.agg #[(.int .i64 (r)), (.int .i64 (c)), u1]), (.int .i64 (sdS x (r.toNat * c.toNat))), (.bool true)]) H') : HT prg I.impl_DrawField [(.int .i64 (r)), (.int .i64 (c)), (.float .f32 sh), (.int .i64 (x))].toArray H K := by
 have lE := Le.refl H
 refine R.impl_DrawField ?_
 unfold F.impl_DrawField
 refine nw_i (fun p1 H2 op1 nn3 le4 => ?_)
 replace lE := lE.trans le4
 replace op1 : Cel H2 p1 [(.float .f32 sh)] := op1
 refine nw_i (fun p5 H6 op5 nn7 le8 => ?_)
 have ap1Xp5 : Apart p1 p5 := op1.apart nn7
 have np5 : Nw H p5 := nn7.le lE
 replace op1 := op1.le le8
 replace lE := lE.trans le8
 replace op5 : Cel H6 p5 [(.int .i64 (x))] := op5
 refine nw_i (fun p9 H10 op9 nn11 le12 => ?_)
 have ap5Xp9 : Apart p5 p9 := op5.apart nn11
 have np9 : Nw H p9 := nn11.le lE
 replace op1 := op1.le le12
 replace op5 := op5.le le12
 replace lE := lE.trans le12
 replace op9 : Cel H10 p9 [(.int .i64 (0)), (.int .i64 (0)), (.slice none 0 0)] := op9
 refine C.impl_isSide  ?_
 refine ob_nd (fun hc13 => ?_) (fun hc13 => ?_)
 ·skip
  refine gop_rf ?_
  refine gop_rf ?_
  refine C.impl_isSide  ?_
  refine gop_rf ?_
  refine ob_nd (fun hc14 => ?_) (fun hc14 => ?_)
  ·skip
   have hs : sidesF r c := ⟨by assumption, hc14⟩
   have qm := sidesF_mul hs
   have q1 := hs.1
   have q2 := hs.2
   have qc : ((r.toNat * c.toNat : Nat) : Int) = r * c := by rw [← Int.toNat_mul (by omega) (by omega)]; omega
   refine ob_i (vPick_f _ _) ?_
   refine gop_rf ?_
   refine ob_i (op1.ld0 rfl) ?_
   refine gop_rf ?_
   refine C.impl_isShare  (fun   H15    le16 => ?_)
   replace op1 := op1.le le16
   replace op5 := op5.le le16
   replace op9 := op9.le le16
   replace lE := lE.trans le16
   refine gop_rf ?_
   refine ob_nd (fun hc17 => ?_) (fun hc17 => ?_)
   ·skip
    refine ob_i (vPick_f _ _) ?_
    refine gop_rf ?_
    refine ob_i (op5.ld0 rfl) ?_
    refine gop_rf ?_
    refine C.impl_isSeed  (fun   H18    le19 => ?_)
    replace op1 := op1.le le19
    replace op5 := op5.le le19
    replace op9 := op9.le le19
    replace lE := lE.trans le19
    refine gop_rf ?_
    refine ob_nd (fun hc20 => ?_) (fun hc20 => ?_)
    ·skip
     have sb := sdS_bnd (x := x) (by omega) (by omega)
     refine ob_i (vPick_f _ _) ?_
     refine cnd_f1 ?_
     refine C.impl_madeField_cell (g := drG c x sh) (sd := sdS x) (by omega) (by omega) (by omega) (by omega) op5 (fun Ha25 i25 k25 Z ofa25 opa25 hi25 hk25 hZ => ?_) (fun u21 H22 ou21 nn23 opE25 off24 => ?_)
     ·refine ⟨by kernel_rfl, ?_⟩
      replace op1 := op1.off ofa25 ap1Xp5
      replace lE := ofa25.le lE np5
      have op5 := opa25
      replace op5 : Cel Ha25 p5 [(.int .i64 (sdS x (i25 * (c : Int).toNat + k25)))] := op5
      have ofq25 := Off.of_le (v := p5) (Le.refl Ha25)
      have si := sb (i25 * c.toNat + k25)
      have sj := sb (i25 * c.toNat + k25 + 1)
      have ej : sdS x (i25 * c.toNat + k25 + 1) = nxS (sdS x (i25 * c.toNat + k25)) := rfl
      refine R.impl_DrawField_1 ?_
      unfold F.impl_DrawField_1
      refine ob_i (op5.ld0 rfl) ?_
      refine C.impl_nextSeed (by first | omega | assumption) (by first | omega | assumption) ?_
      refine op5.st0 (by simp) rfl rfl (fun H26 op5 off27 => ?_)
      replace op1 := op1.off off27 ap1Xp5
      replace lE := off27.le lE np5
      replace ofq25 := ofq25.trans off27
      replace op5 : Cel H26 p5 [(.int .i64 (nxS (sdS x (i25 * (c : Int).toNat + k25))))] := op5
      refine ob_i (op5.ld0 rfl) ?_
      refine ob_i (op1.ld0 rfl) ?_
      have lq28 := Le.refl H26
      refine R.impl_shareOf ?_
      unfold F.impl_shareOf
      refine ob_i (vInt_quoN (by omega) (by omega) (by omega)) ?_
      refine ob_i (a := (.float .f32 (FloatKind.nearest .f32 ((nxS (sdS x (i25 * (c : Int).toNat + k25))) / 256)))) rfl ?_
      refine fA_i (o := (FloatKind.f32.format.div (FloatKind.nearest .f32 ((nxS (sdS x (i25 * (c : Int).toNat + k25))) / 256)) 1266679808)) rfl (fun t => nan_bits32 _ _ t) (fun z29 hz29 => ?_)
      refine ⟨lq28, ?_⟩
      refine ob_i (vF_lss _ _) ?_
      refine C.impl_bit  ?_
      refine ⟨Le.refl _, ?_⟩
      have eN : (((i25 : Int) * c + (k25 : Int)).toNat) = i25 * c.toNat + k25 := by rw [← cast_ix (by omega)]; rfl
      have eQ : (if (fLt z29 sh) = true then 1 else 0) = drG c x sh (i25 : Int) (k25 : Int) := by unfold drG; rw [eN, show fLt z29 sh = shB (sdS x (i25 * c.toNat + k25 + 1)) sh from fLtO_of hz29]
      exact keq (K := Z) (by rw [eQ]) (hZ _ (Cel.cast (by first | rfl | simp) op5) ofq25)
     have ap9Xu21 : Apart p9 u21 := op9.apart nn23
     have nu21 : Nw H u21 := nn23.le lE
     replace op9 := op9.off off24 ap5Xp9.symm
     replace lE := off24.le lE np5
     have op5 := opE25
     replace op5 : Cel H22 p5 [(.int .i64 (sdS x ((r : Int).toNat * (c : Int).toNat)))] := op5
     refine nw_i (fun p30 H31 op30 nn32 le33 => ?_)
     have ap5Xp30 : Apart p5 p30 := op5.apart nn32
     have ap9Xp30 : Apart p9 p30 := op9.apart nn32
     have au21Xp30 : Apart u21 p30 := ou21.apart nn32
     have np30 : Nw H p30 := nn32.le lE
     replace op5 := op5.le le33
     replace op9 := op9.le le33
     replace ou21 := ou21.le le33
     replace lE := lE.trans le33
     replace op30 : Cel H31 p30 [(.int .i64 (0)), (.int .i64 (0)), (.slice none 0 0)] := op30
     refine op30.stn (ws := [(.int .i64 (r)), (.int .i64 (c)), u21]) rfl rfl (oc1 rfl (oc1 rfl (oc1 ou21.one oc0))) (fun H34 op30 off35 => ?_)
     replace op5 := op5.off off35 ap5Xp30
     replace op9 := op9.off off35 ap9Xp30
     replace ou21 := ou21.off off35 au21Xp30
     replace lE := off35.le lE np30
     replace op30 : Cel H34 p30 [(.int .i64 (r)), (.int .i64 (c)), u21] := op30
     refine ⟨?_, ?_⟩
     ·skip
      refine ob_i (op30.ldn rfl) ?_
      refine ob_i (op5.ld0 rfl) ?_
      refine op9.stn (ws := [(.int .i64 (r)), (.int .i64 (c)), u21]) rfl rfl (oc1 rfl (oc1 rfl (oc1 ou21.one oc0))) (fun H36 op9 off37 => ?_)
      replace ou21 := ou21.off off37 ap9Xu21.symm
      replace lE := off37.le lE np9
      replace op9 : Cel H36 p9 [(.int .i64 (r)), (.int .i64 (c)), u21] := op9
      refine ob_i (op9.ldn rfl) ?_
      skip
      exact keq (K := K) (by rw [show ((sdS x ((r : Int).toNat * (c : Int).toNat)) : Int) = (sdS x (r.toNat * c.toNat)) from by omega]) (hk2 (by exact ⟨hs, by assumption, by omega⟩) u21 _ (Own.cast (show mkL (c) (drG c x sh) ((r : Int).toNat * (c : Int).toNat) = drL r c x sh by first | rfl | simp) ou21) nu21  lE)
     ·skip
      refine ob_i (op30.ldn rfl) ?_
      refine op9.stn (ws := [(.int .i64 (r)), (.int .i64 (c)), u21]) rfl rfl (oc1 rfl (oc1 rfl (oc1 ou21.one oc0))) (fun H38 op9 off39 => ?_)
      replace op5 := op5.off off39 ap5Xp9
      replace ou21 := ou21.off off39 ap9Xu21.symm
      replace lE := off39.le lE np9
      replace op9 : Cel H38 p9 [(.int .i64 (r)), (.int .i64 (c)), u21] := op9
      refine ob_i (op5.ld0 rfl) ?_
      refine ob_i (op9.ldn rfl) ?_
      skip
      exact keq (K := K) (by rw [show ((sdS x ((r : Int).toNat * (c : Int).toNat)) : Int) = (sdS x (r.toNat * c.toNat)) from by omega]) (hk2 (by exact ⟨hs, by assumption, by omega⟩) u21 _ (Own.cast (show mkL (c) (drG c x sh) ((r : Int).toNat * (c : Int).toNat) = drL r c x sh by first | rfl | simp) ou21) nu21  lE)
    ·skip
     refine ob_i (vPick_f _ _) ?_
     refine cnd_t1 ?_
     refine ob_i (a := (.agg #[(.int .i64 (0)), (.int .i64 (0)), (.slice none 0 0)])) (by rfl) ?_
     refine op9.stn (ws := [(.int .i64 (0)), (.int .i64 (0)), (.slice none 0 0)]) rfl rfl (oc1 rfl (oc1 rfl (oc1 rfl oc0))) (fun H40 op9 off41 => ?_)
     replace lE := off41.le lE np9
     replace op9 : Cel H40 p9 [(.int .i64 (0)), (.int .i64 (0)), (.slice none 0 0)] := op9
     refine ob_i (op9.ldn rfl) ?_
     skip
     exact hk1 (by intro h; have h1 := h.1.1; have h2 := h.1.2; have h3 := h.2.2; first | omega | exact absurd h.2.1 (by assumption) | exact absurd (show (1 ≤ r ∧ r ≤ 24) ∧ 1 ≤ c ∧ c ≤ 24 from h.1) (by assumption))  _    lE
   ·skip
    refine ob_i (vPick_f _ _) ?_
    refine gop_st ?_
    refine gop_st ?_
    refine gop_st ?_
    refine ob_i (vPick_t _ _) ?_
    refine cnd_t1 ?_
    refine ob_i (a := (.agg #[(.int .i64 (0)), (.int .i64 (0)), (.slice none 0 0)])) (by rfl) ?_
    refine op9.stn (ws := [(.int .i64 (0)), (.int .i64 (0)), (.slice none 0 0)]) rfl rfl (oc1 rfl (oc1 rfl (oc1 rfl oc0))) (fun H42 op9 off43 => ?_)
    replace lE := off43.le lE np9
    replace op9 : Cel H42 p9 [(.int .i64 (0)), (.int .i64 (0)), (.slice none 0 0)] := op9
    refine ob_i (op9.ldn rfl) ?_
    skip
    exact hk1 (by intro h; have h1 := h.1.1; have h2 := h.1.2; have h3 := h.2.2; first | omega | exact absurd h.2.1 (by assumption) | exact absurd (show (1 ≤ r ∧ r ≤ 24) ∧ 1 ≤ c ∧ c ≤ 24 from h.1) (by assumption))  _    lE
  ·skip
   refine ob_i (vPick_f _ _) ?_
   refine gop_st ?_
   refine gop_st ?_
   refine gop_st ?_
   refine ob_i (vPick_t _ _) ?_
   refine gop_st ?_
   refine gop_st ?_
   refine gop_st ?_
   refine ob_i (vPick_t _ _) ?_
   refine cnd_t1 ?_
   refine ob_i (a := (.agg #[(.int .i64 (0)), (.int .i64 (0)), (.slice none 0 0)])) (by rfl) ?_
   refine op9.stn (ws := [(.int .i64 (0)), (.int .i64 (0)), (.slice none 0 0)]) rfl rfl (oc1 rfl (oc1 rfl (oc1 rfl oc0))) (fun H44 op9 off45 => ?_)
   replace lE := off45.le lE np9
   replace op9 : Cel H44 p9 [(.int .i64 (0)), (.int .i64 (0)), (.slice none 0 0)] := op9
   refine ob_i (op9.ldn rfl) ?_
   skip
   exact hk1 (by intro h; have h1 := h.1.1; have h2 := h.1.2; have h3 := h.2.2; first | omega | exact absurd h.2.1 (by assumption) | exact absurd (show (1 ≤ r ∧ r ≤ 24) ∧ 1 ≤ c ∧ c ≤ 24 from h.1) (by assumption))  _    lE
 ·skip
  refine gop_st ?_
  refine gop_st ?_
  refine gop_st ?_
  refine ob_i (vPick_t _ _) ?_
  refine gop_st ?_
  refine gop_st ?_
  refine gop_st ?_
  refine ob_i (vPick_t _ _) ?_
  refine gop_st ?_
  refine gop_st ?_
  refine gop_st ?_
  refine ob_i (vPick_t _ _) ?_
  refine cnd_t1 ?_
  refine ob_i (a := (.agg #[(.int .i64 (0)), (.int .i64 (0)), (.slice none 0 0)])) (by rfl) ?_
  refine op9.stn (ws := [(.int .i64 (0)), (.int .i64 (0)), (.slice none 0 0)]) rfl rfl (oc1 rfl (oc1 rfl (oc1 rfl oc0))) (fun H46 op9 off47 => ?_)
  replace lE := off47.le lE np9
  replace op9 : Cel H46 p9 [(.int .i64 (0)), (.int .i64 (0)), (.slice none 0 0)] := op9
  refine ob_i (op9.ldn rfl) ?_
  skip
  exact hk1 (by intro h; have h1 := h.1.1; have h2 := h.1.2; have h3 := h.2.2; first | omega | exact absurd h.2.1 (by assumption) | exact absurd (show (1 ≤ r ∧ r ≤ 24) ∧ 1 ≤ c ∧ c ≤ 24 from h.1) (by assumption))  _    lE
theorem C.spec_l05Soup {w vb vs : Value} {r x st : Int} {b : List Int} {s : List Int} {sh : Nat} {H : Hp} {K : Value → Hp → Prop} (hw0 : Cel H w [vb, vs]) (hvb0 : Sl eI H vb b) (hvs0 : Sl eI H vs s) (kb : b.length ≤ 9223372036854775807) (ks : s.length ≤ 9223372036854775807)
    (hk1 : ¬ soP b s r sh x st → ∀ H', Le H H' → K (.tuple #[(.agg #[(.int .i64 (0)), (.int .i64 (0)), (.slice none 0 0)]), (.int .i64 (0)), (.bool false)]) H')
    (hk2 : soP b s r sh x st → ∀ u1 H', Own eI H' u1 (soL b s r x sh st.toNat) → Nw H u1 → Le H H' → K (.tuple #[(.agg #[(.int .i64 (r)), (.int .i64 (r)), u1]), (.int .i64 (sdS x (r.toNat * r.toNat))), (.bool true)]) H') : HT prg I.spec_l05Soup [w, (.int .i64 (r)), (.float .f32 sh), (.int .i64 (x)), (.int .i64 (st))].toArray H K := by
 have lE := Le.refl H
 have hw := hw0
 have hvb := hvb0
 have hvs := hvs0
 refine R.spec_l05Soup ?_
 unfold F.spec_l05Soup
 refine nw_i (fun p1 H2 op1 nn3 le4 => ?_)
 have np1 : Nw H p1 := nn3.le lE
 replace hw := hw.le le4
 replace hvb := hvb.le le4
 replace hvs := hvs.le le4
 replace lE := lE.trans le4
 replace op1 : Cel H2 p1 [(.int .i64 (0)), (.int .i64 (0)), (.slice none 0 0)] := op1
 refine C.spec_l04Life hw hvb hvs (by first | omega | assumption) (by first | omega | assumption) (fun   H5    le6 => ?_)
 replace op1 := op1.le le6
 replace hw := hw.le le6
 replace hvb := hvb.le le6
 replace hvs := hvs.le le6
 replace lE := lE.trans le6
 refine ob_nd (fun hc7 => ?_) (fun hc7 => ?_)
 ·skip
  refine gop_rf ?_
  refine gop_rf ?_
  refine C.spec_l00In  ?_
  refine gop_rf ?_
  refine ob_nd (fun hc8 => ?_) (fun hc8 => ?_)
  ·skip
   refine ob_i (vPick_f _ _) ?_
   refine cnd_f1 ?_
   refine C.spec_DrawField  (fun hc9  H10    le11 => ?_) (fun hc12 u15 H13 ou15 nn16  le14 => ?_)
   ·skip
    replace op1 := op1.le le11
    replace hw := hw.le le11
    replace hvb := hvb.le le11
    replace hvs := hvs.le le11
    replace lE := lE.trans le11
    refine ob_i (vExt_30 _ _ _) ?_
    refine ob_i (vExt_31 _ _ _) ?_
    refine ob_i (vExt_32 _ _ _) ?_
    refine nw_i (fun p17 H18 op17 nn19 le20 => ?_)
    have ap1Xp17 : Apart p1 p17 := op1.apart nn19
    have np17 : Nw H p17 := nn19.le lE
    replace op1 := op1.le le20
    replace hw := hw.le le20
    replace hvb := hvb.le le20
    replace hvs := hvs.le le20
    replace lE := lE.trans le20
    replace op17 : Cel H18 p17 [(.int .i64 (0)), (.int .i64 (0)), (.slice none 0 0)] := op17
    refine op17.stn (ws := [(.int .i64 (0)), (.int .i64 (0)), (.slice none 0 0)]) rfl rfl (oc1 rfl (oc1 rfl (oc1 rfl oc0))) (fun H21 op17 off22 => ?_)
    replace op1 := op1.off off22 ap1Xp17
    replace hw := hw0.le (off22.le lE np17)
    replace hvb := hvb0.le (off22.le lE np17)
    replace hvs := hvs0.le (off22.le lE np17)
    replace lE := off22.le lE np17
    replace op17 : Cel H21 p17 [(.int .i64 (0)), (.int .i64 (0)), (.slice none 0 0)] := op17
    refine ob_i (a := .bool true) rfl ?_
    refine cnd_t1 ?_
    refine ob_i (a := (.agg #[(.int .i64 (0)), (.int .i64 (0)), (.slice none 0 0)])) (by rfl) ?_
    refine op1.stn (ws := [(.int .i64 (0)), (.int .i64 (0)), (.slice none 0 0)]) rfl rfl (oc1 rfl (oc1 rfl (oc1 rfl oc0))) (fun H23 op1 off24 => ?_)
    replace hw := hw0.le (off24.le lE np1)
    replace hvb := hvb0.le (off24.le lE np1)
    replace hvs := hvs0.le (off24.le lE np1)
    replace lE := off24.le lE np1
    replace op1 : Cel H23 p1 [(.int .i64 (0)), (.int .i64 (0)), (.slice none 0 0)] := op1
    refine ob_i (op1.ldn rfl) ?_
    skip
    exact hk1 (by intro h; first | exact absurd h.1 (by assumption) | exact absurd h.2.1 (by assumption) | exact absurd h.2.2 (by assumption))  _    lE
   ·skip
    have hs := hc12.1
    have hf : fieldN 1 r r (drL r r x sh) := drL_field hs
    have l1 := fieldN_len hf
    replace op1 := op1.le le14
    replace hw := hw.le le14
    replace hvb := hvb.le le14
    replace hvs := hvs.le le14
    replace lE := lE.trans le14
    refine ob_i (vExt_30 _ _ _) ?_
    refine ob_i (vExt_31 _ _ _) ?_
    refine ob_i (vExt_32 _ _ _) ?_
    refine nw_i (fun p25 H26 op25 nn27 le28 => ?_)
    have ap1Xp25 : Apart p1 p25 := op1.apart nn27
    have au15Xp25 : Apart u15 p25 := ou15.apart nn27
    have np25 : Nw H p25 := nn27.le lE
    replace op1 := op1.le le28
    replace ou15 := ou15.le le28
    replace hw := hw.le le28
    replace hvb := hvb.le le28
    replace hvs := hvs.le le28
    replace lE := lE.trans le28
    replace op25 : Cel H26 p25 [(.int .i64 (0)), (.int .i64 (0)), (.slice none 0 0)] := op25
    refine op25.stn (ws := [(.int .i64 (r)), (.int .i64 (r)), u15]) rfl rfl (oc1 rfl (oc1 rfl (oc1 ou15.one oc0))) (fun H29 op25 off30 => ?_)
    replace op1 := op1.off off30 ap1Xp25
    replace ou15 := ou15.off off30 au15Xp25
    replace hw := hw0.le (off30.le lE np25)
    replace hvb := hvb0.le (off30.le lE np25)
    replace hvs := hvs0.le (off30.le lE np25)
    replace lE := off30.le lE np25
    replace op25 : Cel H29 p25 [(.int .i64 (r)), (.int .i64 (r)), u15] := op25
    refine ob_i (a := .bool false) rfl ?_
    refine cnd_f1 ?_
    refine C.spec_l04Run hw op25 hvb hvs ou15.sl (by first | omega | assumption) (by first | omega | assumption) (by first | omega | assumption) (by first | omega | assumption) (by first | omega | assumption) (fun  u33 H31 ou33 nn34  le32 => ?_)
    have ap1Xu33 : Apart p1 u33 := op1.apart nn34
    have nu33 : Nw H u33 := nn34.le lE
    replace op1 := op1.le le32
    replace hw := hw.le le32
    replace hvb := hvb.le le32
    replace hvs := hvs.le le32
    replace lE := lE.trans le32
    refine op1.stn (ws := [(.int .i64 (r)), (.int .i64 (r)), u33]) rfl rfl (oc1 rfl (oc1 rfl (oc1 ou33.one oc0))) (fun H35 op1 off36 => ?_)
    replace ou33 := ou33.off off36 ap1Xu33.symm
    replace hw := hw0.le (off36.le lE np1)
    replace hvb := hvb0.le (off36.le lE np1)
    replace hvs := hvs0.le (off36.le lE np1)
    replace lE := off36.le lE np1
    replace op1 : Cel H35 p1 [(.int .i64 (r)), (.int .i64 (r)), u33] := op1
    refine ob_i (op1.ldn rfl) ?_
    skip
    exact hk2 (by exact ⟨by assumption, by assumption, by assumption⟩) u33 _ (Own.cast (show rnL true b s r r (drL r r x sh) st.toNat = soL b s r x sh st.toNat by rfl) ou33) nu33  lE
  ·skip
   refine ob_i (vPick_f _ _) ?_
   refine cnd_t1 ?_
   refine ob_i (a := (.agg #[(.int .i64 (0)), (.int .i64 (0)), (.slice none 0 0)])) (by rfl) ?_
   refine op1.stn (ws := [(.int .i64 (0)), (.int .i64 (0)), (.slice none 0 0)]) rfl rfl (oc1 rfl (oc1 rfl (oc1 rfl oc0))) (fun H37 op1 off38 => ?_)
   replace hw := hw0.le (off38.le lE np1)
   replace hvb := hvb0.le (off38.le lE np1)
   replace hvs := hvs0.le (off38.le lE np1)
   replace lE := off38.le lE np1
   replace op1 : Cel H37 p1 [(.int .i64 (0)), (.int .i64 (0)), (.slice none 0 0)] := op1
   refine ob_i (op1.ldn rfl) ?_
   skip
   exact hk1 (by intro h; first | exact absurd h.1 (by assumption) | exact absurd h.2.1 (by assumption) | exact absurd h.2.2 (by assumption))  _    lE
 ·skip
  refine gop_st ?_
  refine gop_st ?_
  refine gop_st ?_
  refine ob_i (vPick_t _ _) ?_
  refine cnd_t1 ?_
  refine ob_i (a := (.agg #[(.int .i64 (0)), (.int .i64 (0)), (.slice none 0 0)])) (by rfl) ?_
  refine op1.stn (ws := [(.int .i64 (0)), (.int .i64 (0)), (.slice none 0 0)]) rfl rfl (oc1 rfl (oc1 rfl (oc1 rfl oc0))) (fun H39 op1 off40 => ?_)
  replace hw := hw0.le (off40.le lE np1)
  replace hvb := hvb0.le (off40.le lE np1)
  replace hvs := hvs0.le (off40.le lE np1)
  replace lE := off40.le lE np1
  replace op1 : Cel H39 p1 [(.int .i64 (0)), (.int .i64 (0)), (.slice none 0 0)] := op1
  refine ob_i (op1.ldn rfl) ?_
  skip
  exact hk1 (by intro h; first | exact absurd h.1 (by assumption) | exact absurd h.2.1 (by assumption) | exact absurd h.2.2 (by assumption))  _    lE
theorem C.impl_soup {vb vs : Value} {r x st : Int} {b : List Int} {s : List Int} {sh : Nat} {H : Hp} {K : Value → Hp → Prop} (hvb0 : Sl eI H vb b) (hvs0 : Sl eI H vs s) (kb : b.length ≤ 9223372036854775807) (ks : s.length ≤ 9223372036854775807)
    (hk1 : ¬ soP b s r sh x st → ∀ H', Le H H' → K (.tuple #[(.agg #[(.int .i64 (0)), (.int .i64 (0)), (.slice none 0 0)]), (.int .i64 (0)), (.bool false)]) H')
    (hk2 : soP b s r sh x st → ∀ u1 H', Own eI H' u1 (soL b s r x sh st.toNat) → Nw H u1 → Le H H' → K (.tuple #[(.agg #[(.int .i64 (r)), (.int .i64 (r)), u1]), (.int .i64 (sdS x (r.toNat * r.toNat))), (.bool true)]) H') : HT prg I.impl_soup [(.agg #[vb, vs]), (.int .i64 (r)), (.float .f32 sh), (.int .i64 (x)), (.int .i64 (st))].toArray H K := by
 have lE := Le.refl H
 have hvb := hvb0
 have hvs := hvs0
 refine R.impl_soup ?_
 unfold F.impl_soup
 refine nw_i (fun p1 H2 op1 nn3 le4 => ?_)
 replace hvb := hvb.le le4
 replace hvs := hvs.le le4
 replace lE := lE.trans le4
 replace op1 : Cel H2 p1 [vb, vs] := op1
 refine nw_i (fun p5 H6 op5 nn7 le8 => ?_)
 have np5 : Nw H p5 := nn7.le lE
 replace op1 := op1.le le8
 replace hvb := hvb.le le8
 replace hvs := hvs.le le8
 replace lE := lE.trans le8
 replace op5 : Cel H6 p5 [(.int .i64 (0)), (.int .i64 (0)), (.slice none 0 0)] := op5
 refine ob_i (op1.ldn rfl) ?_
 refine C.impl_ValidLife hvb hvs (by first | omega | assumption) (by first | omega | assumption) (fun   H9    le10 => ?_)
 replace op1 := op1.le le10
 replace op5 := op5.le le10
 replace hvb := hvb.le le10
 replace hvs := hvs.le le10
 replace lE := lE.trans le10
 refine ob_nd (fun hc11 => ?_) (fun hc11 => ?_)
 ·skip
  refine gop_rf ?_
  refine gop_rf ?_
  refine C.impl_within  ?_
  refine gop_rf ?_
  refine ob_nd (fun hc12 => ?_) (fun hc12 => ?_)
  ·skip
   refine ob_i (vPick_f _ _) ?_
   refine cnd_f1 ?_
   refine C.impl_DrawField  (fun hc13  H14    le15 => ?_) (fun hc16 u19 H17 ou19 nn20  le18 => ?_)
   ·skip
    replace op5 := op5.le le15
    replace hvb := hvb.le le15
    replace hvs := hvs.le le15
    replace lE := lE.trans le15
    refine ob_i (vExt_30 _ _ _) ?_
    refine ob_i (vExt_31 _ _ _) ?_
    refine ob_i (vExt_32 _ _ _) ?_
    refine nw_i (fun p21 H22 op21 nn23 le24 => ?_)
    have ap5Xp21 : Apart p5 p21 := op5.apart nn23
    have np21 : Nw H p21 := nn23.le lE
    replace op5 := op5.le le24
    replace hvb := hvb.le le24
    replace hvs := hvs.le le24
    replace lE := lE.trans le24
    replace op21 : Cel H22 p21 [(.int .i64 (0)), (.int .i64 (0)), (.slice none 0 0)] := op21
    refine op21.stn (ws := [(.int .i64 (0)), (.int .i64 (0)), (.slice none 0 0)]) rfl rfl (oc1 rfl (oc1 rfl (oc1 rfl oc0))) (fun H25 op21 off26 => ?_)
    replace op5 := op5.off off26 ap5Xp21
    replace hvb := hvb0.le (off26.le lE np21)
    replace hvs := hvs0.le (off26.le lE np21)
    replace lE := off26.le lE np21
    replace op21 : Cel H25 p21 [(.int .i64 (0)), (.int .i64 (0)), (.slice none 0 0)] := op21
    refine ob_i (a := .bool true) rfl ?_
    refine cnd_t1 ?_
    refine ob_i (a := (.agg #[(.int .i64 (0)), (.int .i64 (0)), (.slice none 0 0)])) (by rfl) ?_
    refine op5.stn (ws := [(.int .i64 (0)), (.int .i64 (0)), (.slice none 0 0)]) rfl rfl (oc1 rfl (oc1 rfl (oc1 rfl oc0))) (fun H27 op5 off28 => ?_)
    replace hvb := hvb0.le (off28.le lE np5)
    replace hvs := hvs0.le (off28.le lE np5)
    replace lE := off28.le lE np5
    replace op5 : Cel H27 p5 [(.int .i64 (0)), (.int .i64 (0)), (.slice none 0 0)] := op5
    refine ob_i (op5.ldn rfl) ?_
    skip
    exact hk1 (by intro h; first | exact absurd h.1 (by assumption) | exact absurd h.2.1 (by assumption) | exact absurd h.2.2 (by assumption))  _    lE
   ·skip
    have hs := hc16.1
    have hf : fieldN 1 r r (drL r r x sh) := drL_field hs
    have l1 := fieldN_len hf
    replace op1 := op1.le le18
    replace op5 := op5.le le18
    replace hvb := hvb.le le18
    replace hvs := hvs.le le18
    replace lE := lE.trans le18
    refine ob_i (vExt_30 _ _ _) ?_
    refine ob_i (vExt_31 _ _ _) ?_
    refine ob_i (vExt_32 _ _ _) ?_
    refine nw_i (fun p29 H30 op29 nn31 le32 => ?_)
    have ap1Xp29 : Apart p1 p29 := op1.apart nn31
    have ap5Xp29 : Apart p5 p29 := op5.apart nn31
    have au19Xp29 : Apart u19 p29 := ou19.apart nn31
    have np29 : Nw H p29 := nn31.le lE
    replace op1 := op1.le le32
    replace op5 := op5.le le32
    replace ou19 := ou19.le le32
    replace hvb := hvb.le le32
    replace hvs := hvs.le le32
    replace lE := lE.trans le32
    replace op29 : Cel H30 p29 [(.int .i64 (0)), (.int .i64 (0)), (.slice none 0 0)] := op29
    refine op29.stn (ws := [(.int .i64 (r)), (.int .i64 (r)), u19]) rfl rfl (oc1 rfl (oc1 rfl (oc1 ou19.one oc0))) (fun H33 op29 off34 => ?_)
    replace op1 := op1.off off34 ap1Xp29
    replace op5 := op5.off off34 ap5Xp29
    replace ou19 := ou19.off off34 au19Xp29
    replace hvb := hvb0.le (off34.le lE np29)
    replace hvs := hvs0.le (off34.le lE np29)
    replace lE := off34.le lE np29
    replace op29 : Cel H33 p29 [(.int .i64 (r)), (.int .i64 (r)), u19] := op29
    refine ob_i (a := .bool false) rfl ?_
    refine cnd_f1 ?_
    refine ob_i (op1.ldn rfl) ?_
    refine ob_i (op29.ldn rfl) ?_
    refine C.impl_Life_run hvb hvs ou19.sl (by first | omega | assumption) (by first | omega | assumption) (by first | omega | assumption) (by first | omega | assumption) (by first | omega | assumption) (fun  u37 H35 ou37 nn38  le36 => ?_)
    have ap5Xu37 : Apart p5 u37 := op5.apart nn38
    have nu37 : Nw H u37 := nn38.le lE
    replace op5 := op5.le le36
    replace hvb := hvb.le le36
    replace hvs := hvs.le le36
    replace lE := lE.trans le36
    refine op5.stn (ws := [(.int .i64 (r)), (.int .i64 (r)), u37]) rfl rfl (oc1 rfl (oc1 rfl (oc1 ou37.one oc0))) (fun H39 op5 off40 => ?_)
    replace ou37 := ou37.off off40 ap5Xu37.symm
    replace hvb := hvb0.le (off40.le lE np5)
    replace hvs := hvs0.le (off40.le lE np5)
    replace lE := off40.le lE np5
    replace op5 : Cel H39 p5 [(.int .i64 (r)), (.int .i64 (r)), u37] := op5
    refine ob_i (op5.ldn rfl) ?_
    skip
    exact hk2 (by exact ⟨by assumption, by assumption, by assumption⟩) u37 _ (Own.cast (show rnL true b s r r (drL r r x sh) st.toNat = soL b s r x sh st.toNat by rfl) ou37) nu37  lE
  ·skip
   refine ob_i (vPick_f _ _) ?_
   refine cnd_t1 ?_
   refine ob_i (a := (.agg #[(.int .i64 (0)), (.int .i64 (0)), (.slice none 0 0)])) (by rfl) ?_
   refine op5.stn (ws := [(.int .i64 (0)), (.int .i64 (0)), (.slice none 0 0)]) rfl rfl (oc1 rfl (oc1 rfl (oc1 rfl oc0))) (fun H41 op5 off42 => ?_)
   replace hvb := hvb0.le (off42.le lE np5)
   replace hvs := hvs0.le (off42.le lE np5)
   replace lE := off42.le lE np5
   replace op5 : Cel H41 p5 [(.int .i64 (0)), (.int .i64 (0)), (.slice none 0 0)] := op5
   refine ob_i (op5.ldn rfl) ?_
   skip
   exact hk1 (by intro h; first | exact absurd h.1 (by assumption) | exact absurd h.2.1 (by assumption) | exact absurd h.2.2 (by assumption))  _    lE
 ·skip
  refine gop_st ?_
  refine gop_st ?_
  refine gop_st ?_
  refine ob_i (vPick_t _ _) ?_
  refine cnd_t1 ?_
  refine ob_i (a := (.agg #[(.int .i64 (0)), (.int .i64 (0)), (.slice none 0 0)])) (by rfl) ?_
  refine op5.stn (ws := [(.int .i64 (0)), (.int .i64 (0)), (.slice none 0 0)]) rfl rfl (oc1 rfl (oc1 rfl (oc1 rfl oc0))) (fun H43 op5 off44 => ?_)
  replace hvb := hvb0.le (off44.le lE np5)
  replace hvs := hvs0.le (off44.le lE np5)
  replace lE := off44.le lE np5
  replace op5 : Cel H43 p5 [(.int .i64 (0)), (.int .i64 (0)), (.slice none 0 0)] := op5
  refine ob_i (op5.ldn rfl) ?_
  skip
  exact hk1 (by intro h; first | exact absurd h.1 (by assumption) | exact absurd h.2.1 (by assumption) | exact absurd h.2.2 (by assumption))  _    lE
theorem all_tk {l : List Int} {i : Nat} {p : Int → Prop} (h : ∀ x ∈ l.take i, p x) (hi : i < l.length) (hp : p (at_ 0 l (i : Int))) : ∀ x ∈ l.take (i + 1), p x := by
  rw [take_at 0 l hi]
  intro x hx
  rcases List.mem_append.mp hx with hx | hx
  · exact h x hx
  · simp only [List.mem_singleton] at hx; subst hx; exact hp
theorem C.impl_SoupsShared {vb vs va : Value} {r st wk : Int} {b : List Int} {s : List Int} {l : List Int} {sh : Nat} {H : Hp} {K : Value → Hp → Prop} (hvb0 : Sl eI H vb b) (hvs0 : Sl eI H vs s) (hva0 : Sl eI H va l) (kb : b.length ≤ 9223372036854775807) (ks : s.length ≤ 9223372036854775807) (k1 : l.length ≤ 9223372036854775807)
    (hk : ∀ u1 H', Own eI H' u1 (selL (ssP b s r sh l st wk) (ssL b s r sh st.toNat l)) → Nw H u1 → Le H H' → K (.tuple #[u1, (.bool (decide (ssP b s r sh l st wk)))]) H') : HT prg I.impl_SoupsShared [(.agg #[vb, vs]), (.int .i64 (r)), (.float .f32 sh), va, (.int .i64 (st)), (.int .i64 (wk))].toArray H K := by
 have lE := Le.refl H
 have hvb := hvb0
 have hvs := hvs0
 have hva := hva0
 refine R.impl_SoupsShared ?_
 unfold F.impl_SoupsShared
 refine nw_i (fun p1 H2 op1 nn3 le4 => ?_)
 replace hvb := hvb.le le4
 replace hvs := hvs.le le4
 replace hva := hva.le le4
 replace lE := lE.trans le4
 replace op1 : Cel H2 p1 [vb, vs] := op1
 refine ob_i (op1.ldn rfl) ?_
 refine C.impl_ValidLife hvb hvs (by first | omega | assumption) (by first | omega | assumption) (fun   H5    le6 => ?_)
 replace op1 := op1.le le6
 replace hvb := hvb.le le6
 replace hvs := hvs.le le6
 replace hva := hva.le le6
 replace lE := lE.trans le6
 refine ob_nd (fun hc7 => ?_) (fun hc7 => ?_)
 ·skip
  refine gop_rf ?_
  refine gop_rf ?_
  refine C.impl_isSide  ?_
  refine gop_rf ?_
  refine ob_nd (fun hc8 => ?_) (fun hc8 => ?_)
  ·skip
   refine ob_i (vPick_f _ _) ?_
   refine gop_rf ?_
   refine gop_rf ?_
   refine C.impl_isShare  (fun   H9    le10 => ?_)
   replace op1 := op1.le le10
   replace hvb := hvb.le le10
   replace hvs := hvs.le le10
   replace hva := hva.le le10
   replace lE := lE.trans le10
   refine gop_rf ?_
   refine ob_nd (fun hc11 => ?_) (fun hc11 => ?_)
   ·skip
    refine ob_i (vPick_f _ _) ?_
    refine gop_rf ?_
    refine gop_rf ?_
    refine ob_i (hva.len) ?_
    refine gop_rf ?_
    refine ob_i (vInt_gtr _ _ _) ?_
    refine ob_i (vPick_f _ _) ?_
    by_cases hc12 : 16 < (((l).length : Int))
    ·skip
     refine gop_e (decide_eq_true hc12) ?_
     refine gop_st ?_
     refine gop_e (decide_eq_true hc12) ?_
     refine gop_st ?_
     refine gop_e (decide_eq_true hc12) ?_
     refine gop_st ?_
     refine ob_i (vPick_et (decide_eq_true hc12) _ _) ?_
     refine gop_st ?_
     refine gop_st ?_
     refine gop_st ?_
     refine ob_i (vPick_t _ _) ?_
     refine cnd_t1 ?_
     skip
     have hok : ¬ (ssP b s r sh l st wk) := by intro h; obtain ⟨h1, h2, h3, h4, h5, h6, h7⟩ := h; first | contradiction | omega
     exact keq (K := K) (by rw [decide_eq_false (show ¬ (ssP b s r sh l st wk) from by exact hok)]) (hk  (.slice none 0 0) _ (Own.cast (show [] = selL (ssP b s r sh l st wk) (ssL b s r sh st.toNat l) by exact (selL_f hok).symm) (Own.nil_of none)) (fun b hb => by simp [bk] at hb)  lE)
    ·skip
     refine gop_e (decide_eq_false hc12) ?_
     refine gop_rf ?_
     refine gop_e (decide_eq_false hc12) ?_
     refine gop_rf ?_
     refine C.impl_within  ?_
     refine gop_e (decide_eq_false hc12) ?_
     refine gop_rf ?_
     refine ob_nd (fun hc13 => ?_) (fun hc13 => ?_)
     ·skip
      refine ob_i (vPick_ef (decide_eq_false hc12) _ _) ?_
      refine gop_rf ?_
      refine gop_rf ?_
      refine C.impl_areWorkers  (fun   H14    le15 => ?_)
      replace op1 := op1.le le15
      replace hvb := hvb.le le15
      replace hvs := hvs.le le15
      replace hva := hva.le le15
      replace lE := lE.trans le15
      refine gop_rf ?_
      refine ob_nd (fun hc16 => ?_) (fun hc16 => ?_)
      ·skip
       refine ob_i (vPick_f _ _) ?_
       refine cnd_f1 ?_
       refine bS_nil (enc := eI) (fun u17 H18 ou17 nn19 kk20 le21 => ?_)
       have ap1Xu17 : Apart p1 u17 := op1.apart nn19
       have nu17 : Nw H u17 := nn19.le lE
       replace op1 := op1.le le21
       replace hvb := hvb.le le21
       replace hvs := hvs.le le21
       replace hva := hva.le le21
       replace lE := lE.trans le21
       refine jn_i (fun σ' H' => ∃ v, σ' 14 = v ∧ Cel H' p1 [vb, vs] ∧ Own eI H' v (ssL b s r sh st.toNat l) ∧ Nw H v ∧ Apart p1 v ∧ Le H H' ∧ ∀ x ∈ l, 0 ≤ x ∧ x ≤ 4294967295) (fun σ22 H22 hP => ?_) (fun J22 hJ22 => ?_)
       ·skip
        obtain ⟨v, g14L22, op1, ov, nv, ap1Xv, lE, ho0⟩ := hP
        try simp only [g14L22]
        skip
        have hok : ssP b s r sh l st wk := by exact ⟨by assumption, by omega, by assumption, by omega, by omega, by omega, ho0⟩
        exact keq (K := K) (by rw [decide_eq_true (show (ssP b s r sh l st wk) from by exact hok)]) (hk  v _ (Own.cast (show ssL b s r sh st.toNat l = selL (ssP b s r sh l st wk) (ssL b s r sh st.toNat l) by exact (selL_t hok).symm) ov) nv  lE)
       refine ob_i (hva.len) ?_
       refine ⟨fun n' σ' H' => ∃ i : Nat, n' = l.length - i ∧ i ≤ l.length ∧ ∃ v, σ' 1 = (.int .i64 (r)) ∧ σ' 2 = (.float .f32 sh) ∧ σ' 4 = (.int .i64 (st)) ∧ σ' 6 = p1 ∧ σ' 14 = v ∧ σ' 49 = va ∧ σ' 50 = (.int .i64 (((l).length : Int))) ∧ σ' 51 = (.int .i64 ((i : Int))) ∧ Cel H' p1 [vb, vs] ∧ Own eI H' v (ssL b s r sh st.toNat (l.take i)) ∧ Nw H v ∧ Apart p1 v ∧ Le H H' ∧ ∀ x ∈ l.take i, 0 ≤ x ∧ x ≤ 4294967295,
        ⟨_, 0, rfl, by omega, u17, rfl, rfl, rfl, rfl, rfl, rfl, rfl, (congrArg (Value.int .i64) (by first | omega | rfl | (simp; done))), op1, (Own.cast (by simp [ssL]) ou17), nu17, ap1Xu17, lE, (by simp)⟩, ?_⟩
       rintro n23 σ23 H23 ⟨i, rfl, hiN, v, g1L23, g2L23, g4L23, g6L23, g14L23, g49L23, g50L23, g51L23, op1, ov, nv, ap1Xv, lE, hm0⟩
       have hvb := hvb0.le lE
       have hvs := hvs0.le lE
       have hva := hva0.le lE
       try simp only [g1L23, g2L23, g4L23, g6L23, g14L23, g49L23, g50L23, g51L23]
       have vl := ssL_len (b := b) (s := s) (r := r) (sh := sh) (n := st.toNat) (l := l.take i)
       have vt : (l.take i).length ≤ 16 := by simp; omega
       have hsq : sidesF r r := ⟨by omega, by omega⟩
       have hff : fieldN 1 r r (soL b s r (at_ 0 l (i : Int)) sh st.toNat) := soL_field hsq
       have lff := fieldN_len hff
       refine ob_i (vInt_lss _ _ _) ?_
       refine cnd_d (fun hg24 => ?_) (fun hg24 => ?_)
       ·skip
        have ti := hg24
        refine ob_i (hva.ix (by omega) (by omega)) ?_
        refine ob_i (hva.ld 0 (by omega) (by omega)) ?_
        refine ob_i (op1.ldn rfl) ?_
        refine C.impl_soup hvb hvs (by first | omega | assumption) (by first | omega | assumption) (fun hc25  H26    le27 => ?_) (fun hc28 u31 H29 ou31 nn32  le30 => ?_)
        ·skip
         replace hvb := hvb.le le27
         replace hvs := hvs.le le27
         replace hva := hva.le le27
         replace lE := lE.trans le27
         refine ob_i (vExt_30 _ _ _) ?_
         refine ob_i (vExt_31 _ _ _) ?_
         refine ob_i (vExt_32 _ _ _) ?_
         refine nw_i (fun p33 H34 op33 nn35 le36 => ?_)
         have np33 : Nw H p33 := nn35.le lE
         replace hvb := hvb.le le36
         replace hvs := hvs.le le36
         replace hva := hva.le le36
         replace lE := lE.trans le36
         replace op33 : Cel H34 p33 [(.int .i64 (0)), (.int .i64 (0)), (.slice none 0 0)] := op33
         refine op33.stn (ws := [(.int .i64 (0)), (.int .i64 (0)), (.slice none 0 0)]) rfl rfl (oc1 rfl (oc1 rfl (oc1 rfl oc0))) (fun H37 op33 off38 => ?_)
         replace hvb := hvb0.le (off38.le lE np33)
         replace hvs := hvs0.le (off38.le lE np33)
         replace hva := hva0.le (off38.le lE np33)
         replace lE := off38.le lE np33
         replace op33 : Cel H37 p33 [(.int .i64 (0)), (.int .i64 (0)), (.slice none 0 0)] := op33
         refine ob_i (a := .bool true) rfl ?_
         refine cnd_t1 ?_
         refine retK (K := K) (v' := (.tuple #[(.slice none 0 0), (.bool false)])) rfl ?_
         skip
         have hok : ¬ (ssP b s r sh l st wk) := by intro h; exact hc25 ⟨h.1, h.2.2.2.2.1, ⟨h.2.1, h.2.1⟩, h.2.2.1, h.2.2.2.2.2.2 _ (at_mem 0 l (i := (i : Int)) (by omega) (by omega))⟩
         exact keq (K := K) (by rw [decide_eq_false (show ¬ (ssP b s r sh l st wk) from by exact hok)]) (hk  (.slice none 0 0) _ (Own.cast (show [] = selL (ssP b s r sh l st wk) (ssL b s r sh st.toNat l) by exact (selL_f hok).symm) (Own.nil_of none)) (fun b hb => by simp [bk] at hb)  lE)
        ·skip
         replace op1 := op1.le le30
         replace ov := ov.le le30
         replace hvb := hvb.le le30
         replace hvs := hvs.le le30
         replace hva := hva.le le30
         replace lE := lE.trans le30
         refine ob_i (vExt_30 _ _ _) ?_
         refine ob_i (vExt_31 _ _ _) ?_
         refine ob_i (vExt_32 _ _ _) ?_
         refine nw_i (fun p39 H40 op39 nn41 le42 => ?_)
         have ap1Xp39 : Apart p1 p39 := op1.apart nn41
         have avXp39 : Apart v p39 := ov.apart nn41
         have au31Xp39 : Apart u31 p39 := ou31.apart nn41
         have np39 : Nw H p39 := nn41.le lE
         replace op1 := op1.le le42
         replace ov := ov.le le42
         replace ou31 := ou31.le le42
         replace hvb := hvb.le le42
         replace hvs := hvs.le le42
         replace hva := hva.le le42
         replace lE := lE.trans le42
         replace op39 : Cel H40 p39 [(.int .i64 (0)), (.int .i64 (0)), (.slice none 0 0)] := op39
         refine op39.stn (ws := [(.int .i64 (r)), (.int .i64 (r)), u31]) rfl rfl (oc1 rfl (oc1 rfl (oc1 ou31.one oc0))) (fun H43 op39 off44 => ?_)
         replace op1 := op1.off off44 ap1Xp39
         replace ov := ov.off off44 avXp39
         replace ou31 := ou31.off off44 au31Xp39
         replace hvb := hvb0.le (off44.le lE np39)
         replace hvs := hvs0.le (off44.le lE np39)
         replace hva := hva0.le (off44.le lE np39)
         replace lE := off44.le lE np39
         replace op39 : Cel H43 p39 [(.int .i64 (r)), (.int .i64 (r)), u31] := op39
         refine ob_i (a := .bool false) rfl ?_
         refine cnd_f1 ?_
         refine ob_i (op39.ldn rfl) ?_
         refine C.impl_Field_count ou31.sl (by first | omega | assumption) (fun   H45    le46 => ?_)
         replace op1 := op1.le le46
         replace ov := ov.le le46
         replace hvb := hvb.le le46
         replace hvs := hvs.le le46
         replace hva := hva.le le46
         replace lE := lE.trans le46
         refine bS_i (enc := eI) (l := [cntE 1 (soL b s r (at_ 0 (l) ((i : Int))) sh st.toNat)]) (by omega) rfl (by kernel_rfl) (fun u47 H48 ou47 nn49 le51 => ?_)
         replace op1 := op1.le le51
         replace ov := ov.le le51
         replace hvb := hvb.le le51
         replace hvs := hvs.le le51
         replace hva := hva.le le51
         replace lE := lE.trans le51
         refine apd_any ov ou47.sl (fun _ => rfl) (by omega) (by first | omega | (simp only [List.length_cons, List.length_nil, List.length_append, List.length_replicate, List.length_map, List.length_range]; omega)) (fun u55 H52 ou55 off53 hb54 => ?_)
         have ap1Xu55 : Apart p1 u55 := Apart.ap2 op1.known ap1Xv hb54
         have nu55 : Nw H u55 := Nw.ap2 nv lE hb54
         replace op1 := op1.off off53 ap1Xv
         replace hvb := hvb0.le (off53.le lE nv)
         replace hvs := hvs0.le (off53.le lE nv)
         replace hva := hva0.le (off53.le lE nv)
         replace lE := off53.le lE nv
         refine ob_i (vInt_add (by omega) (by omega)) ?_
         exact nxt (l.length - (i + 1)) (by omega) ⟨i + 1, rfl, by omega, u55, g1L23, g2L23, g4L23, g6L23, rfl, g49L23, g50L23, (congrArg (Value.int .i64) (by first | omega | rfl | (simp; done))), op1, (Own.cast (ssL_take (by omega)) ou55), nu55, ap1Xu55, lE, (all_tk hm0 (by omega) (hc28).2.2.2.2)⟩
       ·skip
        have ti := hg24
        rw [List.take_of_length_le (by omega)] at ov
        exact hJ22 _ _ ⟨v, g14L23, op1, ov, nv, ap1Xv, lE, (by rw [List.take_of_length_le (by omega)] at hm0; exact hm0)⟩
      ·skip
       refine ob_i (vPick_f _ _) ?_
       refine cnd_t1 ?_
       skip
       have hok : ¬ (ssP b s r sh l st wk) := by intro h; obtain ⟨h1, h2, h3, h4, h5, h6, h7⟩ := h; first | contradiction | omega
       exact keq (K := K) (by rw [decide_eq_false (show ¬ (ssP b s r sh l st wk) from by exact hok)]) (hk  (.slice none 0 0) _ (Own.cast (show [] = selL (ssP b s r sh l st wk) (ssL b s r sh st.toNat l) by exact (selL_f hok).symm) (Own.nil_of none)) (fun b hb => by simp [bk] at hb)  lE)
     ·skip
      refine ob_i (vPick_ef (decide_eq_false hc12) _ _) ?_
      refine gop_st ?_
      refine gop_st ?_
      refine gop_st ?_
      refine ob_i (vPick_t _ _) ?_
      refine cnd_t1 ?_
      skip
      have hok : ¬ (ssP b s r sh l st wk) := by intro h; obtain ⟨h1, h2, h3, h4, h5, h6, h7⟩ := h; first | contradiction | omega
      exact keq (K := K) (by rw [decide_eq_false (show ¬ (ssP b s r sh l st wk) from by exact hok)]) (hk  (.slice none 0 0) _ (Own.cast (show [] = selL (ssP b s r sh l st wk) (ssL b s r sh st.toNat l) by exact (selL_f hok).symm) (Own.nil_of none)) (fun b hb => by simp [bk] at hb)  lE)
   ·skip
    refine ob_i (vPick_f _ _) ?_
    refine gop_st ?_
    refine gop_st ?_
    refine gop_st ?_
    refine ob_i (vPick_t _ _) ?_
    refine gop_st ?_
    refine gop_st ?_
    refine gop_st ?_
    refine ob_i (vPick_t _ _) ?_
    refine gop_st ?_
    refine gop_st ?_
    refine gop_st ?_
    refine ob_i (vPick_t _ _) ?_
    refine cnd_t1 ?_
    skip
    have hok : ¬ (ssP b s r sh l st wk) := by intro h; obtain ⟨h1, h2, h3, h4, h5, h6, h7⟩ := h; first | contradiction | omega
    exact keq (K := K) (by rw [decide_eq_false (show ¬ (ssP b s r sh l st wk) from by exact hok)]) (hk  (.slice none 0 0) _ (Own.cast (show [] = selL (ssP b s r sh l st wk) (ssL b s r sh st.toNat l) by exact (selL_f hok).symm) (Own.nil_of none)) (fun b hb => by simp [bk] at hb)  lE)
  ·skip
   refine ob_i (vPick_f _ _) ?_
   refine gop_st ?_
   refine gop_st ?_
   refine gop_st ?_
   refine ob_i (vPick_t _ _) ?_
   refine gop_st ?_
   refine gop_st ?_
   refine gop_st ?_
   refine ob_i (vPick_t _ _) ?_
   refine gop_st ?_
   refine gop_st ?_
   refine gop_st ?_
   refine ob_i (vPick_t _ _) ?_
   refine gop_st ?_
   refine gop_st ?_
   refine gop_st ?_
   refine ob_i (vPick_t _ _) ?_
   refine cnd_t1 ?_
   skip
   have hok : ¬ (ssP b s r sh l st wk) := by intro h; obtain ⟨h1, h2, h3, h4, h5, h6, h7⟩ := h; first | contradiction | omega
   exact keq (K := K) (by rw [decide_eq_false (show ¬ (ssP b s r sh l st wk) from by exact hok)]) (hk  (.slice none 0 0) _ (Own.cast (show [] = selL (ssP b s r sh l st wk) (ssL b s r sh st.toNat l) by exact (selL_f hok).symm) (Own.nil_of none)) (fun b hb => by simp [bk] at hb)  lE)
 ·skip
  refine gop_st ?_
  refine gop_st ?_
  refine gop_st ?_
  refine ob_i (vPick_t _ _) ?_
  refine gop_st ?_
  refine gop_st ?_
  refine gop_st ?_
  refine ob_i (vPick_t _ _) ?_
  refine gop_st ?_
  refine gop_st ?_
  refine gop_st ?_
  refine ob_i (vPick_t _ _) ?_
  refine gop_st ?_
  refine gop_st ?_
  refine gop_st ?_
  refine ob_i (vPick_t _ _) ?_
  refine gop_st ?_
  refine gop_st ?_
  refine gop_st ?_
  refine ob_i (vPick_t _ _) ?_
  refine cnd_t1 ?_
  skip
  have hok : ¬ (ssP b s r sh l st wk) := by intro h; obtain ⟨h1, h2, h3, h4, h5, h6, h7⟩ := h; first | contradiction | omega
  exact keq (K := K) (by rw [decide_eq_false (show ¬ (ssP b s r sh l st wk) from by exact hok)]) (hk  (.slice none 0 0) _ (Own.cast (show [] = selL (ssP b s r sh l st wk) (ssL b s r sh st.toNat l) by exact (selL_f hok).symm) (Own.nil_of none)) (fun b hb => by simp [bk] at hb)  lE)
end Go.Proofs.YtnijdhlmimemcaaGreatDoor
/- Texts: bytes in a row. -/
namespace Go.Proofs.YtnijdhlmimemcaaGreatDoor.HL
set_option maxRecDepth 100000
/-- A text of some bytes. -/
def tS (l : List UInt8) : ByteArray := ⟨l.toArray⟩
abbrev vS (l : List UInt8) : Value := .string (tS l)
theorem tS_size (l : List UInt8) : (tS l).size = l.length := rfl
theorem tS_data (l : List UInt8) : (tS l).data.toList = l := rfl
theorem tS_toList (l : List UInt8) : (tS l).toList = l := by rw [ByteArray.toList_eq]; rfl
theorem tS_of (b : ByteArray) : b = tS b.data.toList := by cases b; rfl
theorem tS_append (a b : List UInt8) : tS a ++ tS b = tS (a ++ b) := by
  have h : ∀ {x y : ByteArray}, x.data.toList = y.data.toList → x = y := fun {x y} h => by
    cases x; cases y; simp only [ByteArray.mk.injEq]; exact Array.toList_inj.mp h
  apply h
  rw [ByteArray.data_append, Array.toList_append]
  rfl
theorem vStr_add {a b : List UInt8} (h : a.length + b.length ≤ 9223372036854775807) : vStr .add (vS a) (vS b) = some (vS (a ++ b)) := by
  simp only [vStr, tS_size, tS_append]
  rw [if_pos]
  have e : IntKind.i64.max = 9223372036854775807 := by decide
  rw [e]; omega
theorem vStr_eql (a b : List UInt8) : vStr .eql (vS a) (vS b) = some (.bool (decide (a = b))) := by
  simp only [vStr, tS_toList]
  congr 2
  by_cases h : a = b
  · simp [h]
  · simp [h]
theorem vStr_neq (a b : List UInt8) : vStr .neq (vS a) (vS b) = some (.bool (decide (a ≠ b))) := by
  simp only [vStr, tS_toList]
  congr 2
  by_cases h : a = b
  · simp [h]
  · simp [h]
theorem vStr_neq_same (a : List UInt8) : vStr .neq (vS a) (vS a) = some (.bool false) := by rw [vStr_neq]; simp
theorem vStr_lss (a b : List UInt8) : vStr .lss (vS a) (vS b) = some (.bool (Op.bytesLess a b)) := by simp only [vStr, tS_toList]
theorem vLenS_t (a : List UInt8) : vLenS (vS a) = some (.int .i64 a.length) := rfl
theorem tS_extract (a : List UInt8) (l h : Nat) : (tS a).extract l h = tS ((a.drop l).take (h - l)) := by
  have hh : ∀ {x y : ByteArray}, x.data.toList = y.data.toList → x = y := fun {x y} h => by
    cases x; cases y; simp only [ByteArray.mk.injEq]; exact Array.toList_inj.mp h
  apply hh
  rw [ByteArray.data_extract, Array.toList_extract, List.extract_eq_take_drop]
  rfl
theorem vSlS_t {a : List UInt8} {k k' : IntKind} {l h : Int} (l0 : 0 ≤ l) (lh : l ≤ h) (h1 : h ≤ a.length) : vSlS (vS a) (some (.int k l)) (some (.int k' h)) = some (vS ((a.drop l.toNat).take (h.toNat - l.toNat))) := by
  have e := tS_size a
  simp only [vSlS, bnd, e]
  rw [if_pos ⟨by omega, by omega⟩]
  simp only
  rw [if_pos ⟨by omega, by omega⟩]
  simp only [tS_extract]
end Go.Proofs.YtnijdhlmimemcaaGreatDoor.HL
/- The runs of a row, as texts: plain law. -/
namespace Go.Proofs.YtnijdhlmimemcaaGreatDoor
open HL
set_option maxRecDepth 100000
/-- A number below 100 in decimal. -/
def decT (n : Nat) : List UInt8 := if n < 10 then [UInt8.ofNat (48 + n)] else [UInt8.ofNat (48 + n / 10), UInt8.ofNat (48 + n % 10)]
theorem decT_len (n : Nat) : 1 ≤ (decT n).length ∧ (decT n).length ≤ 2 := by unfold decT; split <;> simp
/-- How often a number stands at the beginning. -/
def rN (x : Int) : List Int → Nat
  | [] => 0
  | y :: l => if y = x then rN x l + 1 else 0
theorem rN_le (x : Int) : ∀ l : List Int, rN x l ≤ l.length
  | [] => Nat.le_refl _
  | y :: l => by
    have := rN_le x l
    unfold rN
    split <;> simp <;> omega
theorem rN_step {x : Int} : ∀ {l : List Int} {t : Nat}, t ≤ rN x l → t < l.length → at_ 0 l (t : Int) = x → t + 1 ≤ rN x l
  | [], t, _, h, _ => by simp at h
  | y :: l, 0, _, _, h => by
    have : y = x := h
    unfold rN
    rw [if_pos this]; omega
  | y :: l, t + 1, h1, h2, h3 => by
    unfold rN at h1 ⊢
    split at h1
    · rename_i hy
      rw [if_pos hy]
      have := rN_step (x := x) (l := l) (t := t) (by omega) (by simpa using h2) (by
        unfold at_ at h3 ⊢
        simpa using h3)
      omega
    · omega
theorem rN_at {x : Int} : ∀ {l : List Int} {t : Nat}, t < rN x l → at_ 0 l (t : Int) = x
  | [], t, h => by simp [rN] at h
  | y :: l, 0, h => by
    unfold rN at h
    split at h
    · rename_i hy; exact hy
    · omega
  | y :: l, t + 1, h => by
    unfold rN at h
    split at h
    · have := rN_at (x := x) (l := l) (t := t) (by omega)
      unfold at_ at this ⊢
      simpa using this
    · omega
theorem rN_end {x : Int} {l : List Int} {t : Nat} (h1 : t ≤ rN x l) (h2 : t = l.length ∨ at_ 0 l (t : Int) ≠ x) : t = rN x l := by
  rcases Nat.lt_or_ge t (rN x l) with h | h
  · have h3 := rN_at h
    rcases h2 with h2 | h2
    · have := rN_le x l; omega
    · exact absurd h3 h2
  · omega
def chT (x : Int) : UInt8 := if x = 1 then 111 else 98
/-- The runs of a row, without zeros at its end. -/
def rtx : List Int → List UInt8
  | [] => []
  | x :: l => if x = 0 ∧ rN x (x :: l) = l.length + 1 then [] else (if rN x (x :: l) = 1 then [] else decT (rN x (x :: l))) ++ [chT x] ++ rtx ((x :: l).drop (rN x (x :: l)))
termination_by l => l.length
decreasing_by
  have : 1 ≤ rN x (x :: l) := by unfold rN; rw [if_pos rfl]; omega
  simp only [List.length_drop, List.length_cons]; omega
theorem rtx_nil : rtx [] = [] := by unfold rtx; rfl
theorem rtx_of {l : List Int} (h : 0 < l.length) : rtx l = if at_ 0 l 0 = 0 ∧ rN (at_ 0 l 0) l = l.length then [] else (if rN (at_ 0 l 0) l = 1 then [] else decT (rN (at_ 0 l 0) l)) ++ [chT (at_ 0 l 0)] ++ rtx (l.drop (rN (at_ 0 l 0) l)) := by
  cases l with
  | nil => simp at h
  | cons x l =>
    conv => lhs; unfold rtx
    rfl
theorem rtx_zero : ∀ {l : List Int}, (∀ t, t < l.length → at_ 0 l (t : Int) = 0) → rtx l = []
  | [], _ => rtx_nil
  | x :: l, h => by
    rw [rtx_of (by simp)]
    have e0 : at_ 0 (x :: l) 0 = 0 := h 0 (by simp)
    rw [e0]
    have hk : ∀ t, t ≤ (x :: l).length → t ≤ rN 0 (x :: l) := by
      intro t
      induction t with
      | zero => intro _; omega
      | succ t ih => intro ht; exact rN_step (ih (by omega)) (by omega) (h t (by omega))
    have := hk _ (Nat.le_refl _)
    have := rN_le 0 (x :: l)
    rw [if_pos ⟨rfl, by omega⟩]
theorem rtx_len : ∀ (n : Nat) (l : List Int), l.length ≤ n → (rtx l).length ≤ 3 * l.length
  | 0, l, h => by
    have : l = [] := List.length_eq_zero_iff.mp (by omega)
    subst this
    simp [rtx_nil]
  | n + 1, l, h => by
    cases l with
    | nil => simp [rtx_nil]
    | cons x l =>
      rw [rtx_of (by simp)]
      split
      · simp
      · have h1 : 1 ≤ rN (at_ 0 (x :: l) 0) (x :: l) := rN_step (t := 0) (by omega) (by simp) rfl
        have h2 := rN_le (at_ 0 (x :: l) 0) (x :: l)
        have h3 := rtx_len n ((x :: l).drop (rN (at_ 0 (x :: l) 0) (x :: l))) (by simp only [List.length_drop]; simp only [List.length_cons] at h ⊢; omega)
        simp only [List.length_drop] at h3
        have h4 := decT_len (rN (at_ 0 (x :: l) 0) (x :: l))
        simp only [List.length_append, List.length_singleton]
        split
        · simp only [List.length_nil]; omega
        · omega
section
variable {row : List Int}
theorem at_drop {a t : Nat} : at_ 0 (row.drop a) (t : Int) = at_ 0 row ((a + t : Nat) : Int) := by
  unfold at_
  rw [Int.toNat_natCast, Int.toNat_natCast]
  simp [List.getD_eq_getElem?_getD, List.getElem?_drop]
/-- A run that is told: what is written, and what is left. -/
theorem rtx_run {a k : Nat} (ha : a < row.length) (hk : k = rN (at_ 0 row (a : Int)) (row.drop a)) (hne : ¬ (at_ 0 row (a : Int) = 0 ∧ a + k = row.length)) :
    rtx (row.drop a) = (if k = 1 then [] else decT k) ++ [chT (at_ 0 row (a : Int))] ++ rtx (row.drop (a + k)) := by
  have e0 : at_ 0 (row.drop a) 0 = at_ 0 row (a : Int) := at_drop (t := 0)
  rw [rtx_of (by simp; omega), e0, ← hk]
  rw [if_neg (fun h => hne ⟨h.1, by have := h.2; simp only [List.length_drop] at this; omega⟩), List.drop_drop]
theorem rtx_stop {a k : Nat} (ha : a < row.length) (hk : k = rN (at_ 0 row (a : Int)) (row.drop a)) (h : at_ 0 row (a : Int) = 0 ∧ a + k = row.length) : rtx (row.drop a) = [] := by
  have e0 : at_ 0 (row.drop a) 0 = at_ 0 row (a : Int) := at_drop (t := 0)
  rw [rtx_of (by simp; omega), e0, ← hk]
  rw [if_pos ⟨h.1, by simp only [List.length_drop]; omega⟩]
theorem run_zero {a : Nat} (ha : a < row.length) : a + 1 - a ≤ rN (at_ 0 row (a : Int)) (row.drop a) := by
  have := rN_step (x := at_ 0 row (a : Int)) (l := row.drop a) (t := 0) (by omega) (by simp; omega) (at_drop (t := 0))
  omega
theorem run_next {a e : Nat} (hae : a ≤ e) (h : e - a ≤ rN (at_ 0 row (a : Int)) (row.drop a)) (he : e < row.length) (hx : at_ 0 row (e : Int) = at_ 0 row (a : Int)) : e + 1 - a ≤ rN (at_ 0 row (a : Int)) (row.drop a) := by
  have := rN_step (t := e - a) h (by simp; omega) (by rw [at_drop, show a + (e - a) = e by omega]; exact hx)
  omega
theorem run_end {a e : Nat} (hae : a ≤ e) (h : e - a ≤ rN (at_ 0 row (a : Int)) (row.drop a)) (he : e ≤ row.length) (hx : e = row.length ∨ at_ 0 row (e : Int) ≠ at_ 0 row (a : Int)) : e - a = rN (at_ 0 row (a : Int)) (row.drop a) := by
  refine rN_end h ?_
  rcases hx with hx | hx
  · exact .inl (by simp; omega)
  · exact .inr (by rw [at_drop, show a + (e - a) = e by omega]; exact hx)
theorem run_pos {a : Nat} (ha : a < row.length) : 1 ≤ rN (at_ 0 row (a : Int)) (row.drop a) ∧ a + rN (at_ 0 row (a : Int)) (row.drop a) ≤ row.length := by
  have := run_zero ha
  have := rN_le (at_ 0 row (a : Int)) (row.drop a)
  simp only [List.length_drop] at this
  omega
/-- The end of a row without the zeros behind it. -/
def endP (row : List Int) (e : Nat) : Prop := e ≤ row.length ∧ ∀ j, e ≤ j → j < row.length → at_ 0 row (j : Int) = 0
theorem endP_rtx {e : Nat} (h : endP row e) : rtx (row.drop e) = [] := rtx_zero (fun t ht => by
  rw [at_drop]
  exact h.2 _ (by omega) (by simp only [List.length_drop] at ht; omega))
/-- A run within a row that is cut so. -/
theorem run_cut {a e k : Nat} (h : endP row e) (hl : 0 < e → at_ 0 row ((e - 1 : Nat) : Int) ≠ 0) (ha : a < e) (k1 : 1 ≤ k) (hk : k ≤ rN (at_ 0 row (a : Int)) (row.drop a)) (hke : a + k ≤ e) (hx : a + k = e ∨ at_ 0 row ((a + k : Nat) : Int) ≠ at_ 0 row (a : Int)) :
    k = rN (at_ 0 row (a : Int)) (row.drop a) ∧ ¬ (at_ 0 row (a : Int) = 0 ∧ a + k = row.length) := by
  have hlast : a + k = e → at_ 0 row (a : Int) ≠ 0 := fun he h0 => by
    have h1 := rN_at (x := at_ 0 row (a : Int)) (l := row.drop a) (t := k - 1) (by omega)
    rw [at_drop, show a + (k - 1) = e - 1 by omega] at h1
    exact hl (by omega) (h1.trans h0)
  have e1 := run_end (a := a) (e := a + k) (by omega) (by rw [show a + k - a = k by omega]; exact hk) (by have := h.1; omega) (by
    rcases hx with hx | hx
    · rcases Nat.lt_or_ge (a + k) row.length with h2 | h2
      · right
        rw [h.2 (a + k) (by omega) h2]
        exact fun h3 => hlast hx h3.symm
      · left; have := h.1; omega
    · exact .inr hx)
  refine ⟨by omega, fun hh => ?_⟩
  rcases hx with hx | hx
  · exact hlast hx hh.1
  · have := h.1
    have : a + k = e := by omega
    exact hlast this hh.1
end
/-- Texts with another one between them. -/
def joinT (sep : List UInt8) : List (List UInt8) → List UInt8
  | [] => []
  | a :: r => a ++ r.flatMap (sep ++ ·)
theorem joinT_snoc (sep : List UInt8) (x : List UInt8) : ∀ ls : List (List UInt8), ls ≠ [] → joinT sep (ls ++ [x]) = joinT sep ls ++ sep ++ x
  | [], h => absurd rfl h
  | a :: r, _ => by simp [joinT]
end Go.Proofs.YtnijdhlmimemcaaGreatDoor
/- Parts of slices; slices that are put together. -/
namespace Go.Proofs.YtnijdhlmimemcaaGreatDoor
open HL
set_option maxRecDepth 100000
namespace HL
theorem Sl.cut {α : Type} {enc : α → Value} {H : Hp} {v : Value} {l : List α} (h : Sl enc H v l) {lo hi : Int} (h0 : 0 ≤ lo) (h1 : lo ≤ hi) (h2 : hi ≤ l.length) :
    ∃ x, vSl3 1 v (some (.int .i64 lo)) (some (.int .i64 hi)) none = some x ∧ (hi = l.length → vSl3 1 v (some (.int .i64 lo)) none none = some x) ∧ (lo = 0 → vSl3 1 v none (some (.int .i64 hi)) none = some x) ∧ (lo = 0 → hi = l.length → vSl3 1 v none none none = some x) ∧
      Sl enc H x ((l.drop lo.toNat).take (hi.toNat - lo.toNat)) ∧ (∀ b, bk x = some b → bk v = some b) := by
  obtain ⟨a, c, rfl, hc, hr⟩ := h
  have e1 : bnd (some (.int .i64 hi)) c l.length = some hi.toNat := by simp only [bnd]; rw [if_pos ⟨by omega, by omega⟩]
  have e2 : bnd (some (.int .i64 lo)) hi.toNat 0 = some lo.toNat := by simp only [bnd]; rw [if_pos ⟨by omega, by omega⟩]
  have e3 : bnd none c l.length = some l.length := rfl
  refine ⟨.slice (if c = lo.toNat then a else a.map (·.add (lo.toNat * 1))) (hi.toNat - lo.toNat) (c - lo.toNat), ?_, ?_, ?_, ?_, ?_, ?_⟩
  · simp only [vSl3, vSl, e1, e2]
  · intro e
    subst e
    have e2' : bnd (some (.int .i64 lo)) l.length 0 = some lo.toNat := by simpa using e2
    simp only [vSl3, vSl, e3, e2', Int.toNat_natCast]
  · intro e
    subst e
    simp only [vSl3, vSl, e1]; rfl
  · intro e e'
    subst e e'
    simp only [vSl3, vSl, e3, Int.toNat_natCast]; rfl
  · have hl : ((l.drop lo.toNat).take (hi.toNat - lo.toNat)).length = hi.toNat - lo.toNat := by simp; omega
    refine ⟨_, _, by rw [hl], by rw [hl]; omega, fun i hi' => ?_⟩
    rw [hl] at hi'
    obtain ⟨ad, rfl, hh⟩ := hr (lo.toNat + i) (by omega)
    rw [if_neg (by omega)]
    refine ⟨ad.add (lo.toNat * 1), rfl, ?_⟩
    have e4 : (ad.add (lo.toNat * 1)).add i = ad.add (lo.toNat + i) := by
      rw [Nat.mul_one]
      unfold Addr.add
      by_cases hx : lo.toNat = 0
      · rw [if_pos hx, hx, Nat.zero_add]
      · by_cases hy : i = 0
        · subst hy; simp
        · rw [if_neg hx, if_neg hy, if_neg (by omega)]; simp [Nat.add_assoc]
    rw [e4, hh]
    simp
  · intro b hb
    by_cases hcl : c = lo.toNat
    · rw [if_pos hcl] at hb
      cases a with
      | none => simp [bk] at hb
      | some ad => simp only [bk] at hb; rw [if_pos (by omega)] at hb; simp at hb
    · rw [if_neg hcl] at hb
      cases a with
      | none => simp [bk] at hb
      | some ad =>
        have hbl : ∀ k, (ad.add k).block = ad.block := fun k => by unfold Addr.add; split <;> rfl
        simp only [Option.map_some, bk] at hb ⊢
        split at hb
        · simp at hb
        · rw [if_neg (by omega)]; rw [hbl] at hb; exact hb
end HL
end Go.Proofs.YtnijdhlmimemcaaGreatDoor
/- Ranges over functions: a rule by an invariant; slices.Chunk. -/
namespace Go.Proofs.YtnijdhlmimemcaaGreatDoor
open HL
set_option maxRecDepth 100000
namespace HL
/-- A range over an iterator that gives N times something: what holds ahead of each round. -/
theorem rgE_i {fv : Value} {ps : List Nat} {body : (Exit → S → Hp → Prop) → S → Hp → Prop} {Q : Exit → S → Hp → Prop} {σ : S} {H : Hp} (N : Nat) (arg : Nat → List Value) (I : Nat → Hp → Prop) (hfv : match fv with | .func (.func _) _ _ => True | _ => False) (hps : ∀ t, (arg t).length = ps.length) (h0 : I 0 H)
    (hb : ∀ t A σ' (Q' : Exit → S → Hp → Prop), t < N → σ' = ups σ ps (arg t) → (∀ σ'' B, I (t + 1) B → Q' .normal σ'' B) → (∀ σ'' B, Q .ret σ B → Q' .ret σ'' B) → (∀ id σ'' B, Q (.exit id) σ B → Q' (.exit id) σ'' B) → I t A → body Q' σ' A)
    (hend : ∀ A, I N A → Q .normal σ A)
    (hcall : ∀ (yv : Value) (J : Nat → Hp → Prop) (St : Hp → Prop) (H1 : Hp) (K : Value → Hp → Prop), (∀ t A, J t A → ∃ A' b o, A = A'.put b o ∧ A' b = none ∧ I t A') → J 0 H1 →
      (∀ t A (Z : Value → Hp → Prop), t < N → J t A → (∀ B, J (t + 1) B → Z (.bool true) B) → (∀ B, St B → Z (.bool false) B) → callV prg yv (arg t) A Z) → (∀ A, J N A → K (.tuple #[]) A) → (∀ A, St A → K (.tuple #[]) A) → callV prg fv [yv] H1 K) :
    rgE prg fv ps body Q σ H := by
  refine ⟨hfv, fun l X hl hy => ?_⟩
  refine hcall _ (fun t A => ∃ A', A = A'.put l (X none) ∧ A' l = none ∧ I t A') (fun A => ∃ A' j, A = A'.put l (X j) ∧ A' l = none ∧ jmpQ Q σ A' j) _ _ ?_ ⟨H, rfl, hl, h0⟩ ?_ ?_ ?_
  · rintro t A ⟨A', rfl, hn, hI⟩
    exact ⟨A', l, X none, rfl, hn, hI⟩
  · rintro t A Z ht ⟨A', rfl, hn, hI⟩ hT hF
    refine hy (arg t) A' Z (hps t) hn (hb t A' _ _ ht rfl (fun σ'' B hB hBl => ?_) (fun σ'' B hB hBl => ?_) (fun id σ'' B hB hBl => ?_) hI)
    · exact hT _ ⟨B, rfl, hBl, hB⟩
    · exact hF _ ⟨B, some .ret, rfl, hBl, hB⟩
    · exact hF _ ⟨B, some (.exit id), rfl, hBl, hB⟩
  · rintro A ⟨A', rfl, hn, hI⟩
    exact ⟨A', none, rfl, hn, hend A' hI⟩
  · rintro A ⟨A', j, rfl, hn, hj⟩
    exact ⟨A', j, rfl, hn, hj⟩
/-- A piece of a slice, with no room behind it. -/
def chV (v : Value) (lo c : Nat) : Value := (vSl3 1 v (some (.int .i64 (lo : Int))) (some (.int .i64 ((lo : Int) + (c : Int)))) (some (.int .i64 ((lo : Int) + (c : Int))))).getD undef
theorem chV_sl {α : Type} {enc : α → Value} {H : Hp} {v : Value} {l : List α} (h : Sl enc H v l) {lo c : Nat} (h1 : lo + c ≤ l.length) :
    vSl3 1 v (some (.int .i64 (lo : Int))) (some (.int .i64 ((lo : Int) + (c : Int)))) (some (.int .i64 ((lo : Int) + (c : Int)))) = some (chV v lo c) ∧ Sl enc H (chV v lo c) ((l.drop lo).take c) := by
  obtain ⟨a, k, rfl, hc, hr⟩ := h
  have e0 : bnd (some (.int .i64 ((lo : Int) + (c : Int)))) k k = some (lo + c) := by simp only [bnd]; rw [if_pos ⟨by omega, by omega⟩]; congr 1
  have e1 : bnd (some (.int .i64 ((lo : Int) + (c : Int)))) (lo + c) (lo + c) = some (lo + c) := by simp only [bnd]; rw [if_pos ⟨by omega, by omega⟩]; congr 1
  have e2 : bnd (some (.int .i64 (lo : Int))) (lo + c) 0 = some lo := by simp only [bnd]; rw [if_pos ⟨by omega, by omega⟩]; simp
  have e : vSl3 1 (.slice a l.length k) (some (.int .i64 (lo : Int))) (some (.int .i64 ((lo : Int) + (c : Int)))) (some (.int .i64 ((lo : Int) + (c : Int)))) = some (.slice (if lo + c = lo then a else a.map (·.add (lo * 1))) (lo + c - lo) (lo + c - lo)) := by
    simp only [vSl3, e0, e1, e2]
  refine ⟨by unfold chV; rw [e]; rfl, ?_⟩
  unfold chV
  rw [e]
  show Sl enc H (.slice _ _ _) _
  have hl : ((l.drop lo).take c).length = c := by simp; omega
  refine ⟨_, _, by rw [hl]; congr 1; omega, by rw [hl]; omega, fun i hi' => ?_⟩
  rw [hl] at hi'
  obtain ⟨ad, rfl, hh⟩ := hr (lo + i) (by omega)
  rw [if_neg (by omega)]
  refine ⟨ad.add (lo * 1), rfl, ?_⟩
  have e4 : (ad.add (lo * 1)).add i = ad.add (lo + i) := by
    rw [Nat.mul_one]
    unfold Addr.add
    by_cases hx : lo = 0
    · rw [if_pos hx, hx, Nat.zero_add]
    · by_cases hy : i = 0
      · subst hy; simp
      · rw [if_neg hx, if_neg hy, if_neg (by omega)]; simp [Nat.add_assoc]
  rw [e4, hh]
  simp
end HL
/-- A row of a list. -/
def rowL (c : Nat) (l : List Int) (i : Nat) : List Int := (l.drop (i * c)).take c
theorem rowL_len {c r : Nat} {l : List Int} (hl : l.length = r * c) {i : Nat} (hi : i < r) : (rowL c l i).length = c := by
  unfold rowL
  have := Nat.mul_le_mul_right c (show i + 1 ≤ r by omega)
  rw [Nat.add_mul, Nat.one_mul] at this
  simp; omega
theorem C.slices_Chunk {vc : Value} {l : List Int} {n : Int} {H : Hp} {K : Value → Hp → Prop} (hv : Sl eI H vc l) (hn : 1 ≤ n)
    (hk : ∀ ps pn H', Cel H' ps [vc] → Cel H' pn [.int .i64 n] → Nw H ps → Nw H pn → Apart ps pn → Le H H' → K (.func (.func I.slices_Chunk_int64Zint64Z1) #[] #[ps, pn]) H') :
    HT prg I.slices_Chunk_int64Zint64 [vc, .int .i64 n].toArray H K := by
 refine R.slices_Chunk_int64Zint64 ?_
 unfold F.slices_Chunk_int64Zint64
 rw [hv.cells]
 refine nw_i (fun ps H2 ops nps le2 => ?_)
 refine nw_i (fun pn H4 opn npn le4 => ?_)
 refine ob_i (opn.ld0 rfl) ?_
 refine ob_i (vInt_lss _ _ _) ?_
 rw [decide_eq_false (show ¬ n < 1 by omega)]
 refine cnd_f1 ?_
 exact hk ps pn H4 (ops.le le4) opn nps (npn.le le2) (ops.apart npn) (le2.trans le4)
theorem C.slices_ChunkZ1 {yv ps pn vc : Value} {l : List Int} {c r : Nat} {H0 H : Hp} {K : Value → Hp → Prop} {J : Nat → Hp → Prop} {St : Hp → Prop} (hv : Sl eI H0 vc l) (hl : l.length = r * c) (c1 : 1 ≤ c) (c2 : c ≤ 1000000) (l2 : l.length ≤ 1000000)
    (hb : ∀ t A, J t A → Cel A ps [vc] ∧ Cel A pn [.int .i64 (c : Int)]) (h0 : J 0 H)
    (hst : ∀ t A (Z : Value → Hp → Prop), t < r → J t A → (∀ B, J (t + 1) B → Z (.bool true) B) → (∀ B, St B → Z (.bool false) B) → callV prg yv [chV vc (t * c) c] A Z)
    (hk : ∀ A, J r A → K (.tuple #[]) A) (hs : ∀ A, St A → K (.tuple #[]) A) :
    HT prg I.slices_Chunk_int64Zint64Z1 [yv, ps, pn].toArray H K := by
 refine R.slices_Chunk_int64Zint64Z1 ?_
 unfold F.slices_Chunk_int64Zint64Z1
 refine ⟨fun n σ H' => ∃ t : Nat, n = r - t ∧ t ≤ r ∧ σ 0 = yv ∧ σ 1 = ps ∧ σ 2 = pn ∧ σ 4 = .int .i64 ((t * c : Nat) : Int) ∧ J t H', ⟨_, 0, rfl, by omega, rfl, rfl, rfl, congrArg (Value.int .i64) (by simp), h0⟩, ?_⟩
 rintro n σ H1 ⟨t, rfl, ht, g0, g1, g2, g4, hJ⟩
 simp only [g0, g1, g2, g4]
 obtain ⟨ops, opn⟩ := hb t H1 hJ
 refine ob_i (ops.ld0 rfl) ?_
 refine ob_i hv.len ?_
 refine ob_i (vInt_lss _ _ _) ?_
 refine cnd_d (fun hlt => ?_) (fun hge => ?_)
 ·have htr : t < r := Nat.lt_of_not_le fun hh => by
   have := Nat.mul_le_mul_right c hh
   omega
  have hm := Nat.mul_le_mul_right c (show t + 1 ≤ r by omega)
  rw [Nat.add_mul, Nat.one_mul] at hm
  refine ob_i (opn.ld0 rfl) ?_
  refine ob_i (ops.ld0 rfl) ?_
  obtain ⟨x, _, hx2, _, _, hx5, _⟩ := hv.cut (lo := ((t * c : Nat) : Int)) (hi := (l.length : Int)) (by omega) (by omega) (by omega)
  refine ob_i (hx2 rfl) ?_
  refine ob_i hx5.len ?_
  have hmin : vMx false (.int .i64 (c : Int)) [.int .i64 (((l.drop ((t * c : Nat) : Int).toNat).take ((l.length : Int).toNat - ((t * c : Nat) : Int).toNat)).length : Int)] = some (.int .i64 (c : Int)) := by
   simp only [vMx]
   rw [if_neg]
   rw [List.length_take, List.length_drop, Int.toNat_natCast, Int.toNat_natCast]
   omega
  refine ob_i hmin ?_
  refine ob_i (ops.ld0 rfl) ?_
  refine ob_i (vInt_add (by omega) (by omega)) ?_
  refine ob_i (vInt_add (by omega) (by omega)) ?_
  refine ob_i (chV_sl hv (lo := t * c) (c := c) (by omega)).1 ?_
  refine hst t H1 _ htr hJ (fun B hB => ?_) (fun B hB => ?_)
  ·refine ob_i (a := .bool false) rfl ?_
   refine cnd_f1 ?_
   obtain ⟨ops, opn⟩ := hb _ B hB
   refine ob_i (opn.ld0 rfl) ?_
   refine ob_i (vInt_add (by omega) (by omega)) ?_
   exact nxt (r - (t + 1)) (by omega) ⟨t + 1, rfl, by omega, g0, g1, g2, congrArg (Value.int .i64) (by rw [Nat.add_mul, Nat.one_mul]; omega), hB⟩
  ·refine ob_i (a := .bool true) rfl ?_
   refine cnd_t1 ?_
   exact hs B hB
 ·obtain rfl : t = r := by
   have := Nat.le_antisymm ht (Nat.le_of_not_lt fun hh => by
    have hm := Nat.mul_le_mul_right c (show t + 1 ≤ r by omega)
    rw [Nat.add_mul, Nat.one_mul] at hm
    omega)
   exact this
  exact hk _ hJ
end Go.Proofs.YtnijdhlmimemcaaGreatDoor
/- Maps by texts. -/
namespace Go.Proofs.YtnijdhlmimemcaaGreatDoor.HL
set_option maxRecDepth 100000
def keyIs (k : ByteArray) (v : Value) : Bool := match v with | .string s => k == s | _ => false
/-- What a map has at a text: where, and what. -/
def findS (k : ByteArray) : List MapEntry → Nat → Option (Nat × Value)
  | [], _ => none
  | e :: es, i => bif keyIs k e.key then some (i, e.val) else findS k es (i + 1)
def keysS (es : List MapEntry) : Prop := ∀ e ∈ es, ∃ s, e.key = .string s
theorem findNow_s (k : ByteArray) : ∀ (es : List MapEntry) (i : Nat), keysS es → Instr.findNow .string (.string k) es i = some (findS k es i)
  | [], i, _ => rfl
  | e :: es, i, h => by
    obtain ⟨s, hs⟩ := h e (by simp)
    have ih := findNow_s k es (i + 1) (fun x hx => h x (by simp [hx]))
    unfold Instr.findNow findS
    rw [hs]
    simp only [Instr.sameNow, keyIs]
    cases e1 : (k == s) with
    | true => rfl
    | false => exact ih
theorem val_checkKey (P : Program) (b : Bool) (n : Nat) (t : TypeId) (k : ByteArray) (H : Hp) (ht : P.underlying t = some .string) : val P (Instr.checkKey b (n + 1) t (.string k)) H = some () := by
  unfold Instr.checkKey
  rw [val_bind', val_underlying, ht]
  rfl
theorem val_findKey (P : Program) (t : TypeId) (k : ByteArray) (es : List MapEntry) (H : Hp) (ht : P.underlying t = some .string) (hk : keysS es) : val P (Instr.findKey t (.string k) es) H = some (findS k es 0) := by
  unfold Instr.findKey
  rw [val_bind', val_underlying, ht]
  simp only [Option.bind_some]
  rw [findNow_s k es 0 hk]
  rfl
/-- A new entry. -/
theorem hp_mapUpdate_new {P : Program} {t kt et : TypeId} {r c : Nat} {es : Array MapEntry} {k : ByteArray} {x : Value} {H : Hp} {K : Unit → Hp → Prop} (ht : P.underlying t = some (.map kt et)) (hk : P.underlying kt = some .string)
    (hr : H r = some (.map es c)) (hs : keysS es.toList) (hn : findS k es.toList 0 = none) (h : K () (H.put r (.map (es.push { key := .string k, val := x, born := c }) (c + 1)))) : hp P (Instr.mapUpdate t (.map (some r)) (.string k) x) H K := by
  unfold Instr.mapUpdate
  have e1 : val P (getObj r) H = some (.map es c) := by
    show val P (Sem.getObj r Sem.pure) H = _
    simp only [val, hr]
  refine hp_val_bind P _ _ H K _ (by rw [val_underlying, ht]) ?_
  refine hp_val_bind P _ _ H K _ e1 ?_
  refine hp_val_bind P _ _ H K _ (val_checkKey P _ 9999 kt k H hk) ?_
  refine hp_val_bind P _ _ H K _ (val_findKey P kt k es.toList H hk hs) ?_
  rw [hn]
  show hp P (Sem.setObj r _ (Sem.pure ())) H K
  simp only [hp, hr]
  exact h
end Go.Proofs.YtnijdhlmimemcaaGreatDoor.HL
/- Slices of fields whose cells are owned. -/
namespace Go.Proofs.YtnijdhlmimemcaaGreatDoor
open HL
set_option maxRecDepth 100000
namespace HL
/-- What has blocks: a slice or a pointer, or a set of blocks. -/
class Bks (α : Type) where inb : α → Nat → Prop
instance instBV : Bks Value := ⟨fun v b => bk v = some b⟩
def Rg : Type := Nat → Prop
instance instBR : Bks Rg := ⟨fun S b => S b⟩
def Apt {α β : Type} [Bks α] [Bks β] (u : α) (v : β) : Prop := ∀ b, Bks.inb u b → ¬ Bks.inb v b
def Kn {α : Type} [Bks α] (H : Hp) (u : α) : Prop := ∀ b, Bks.inb u b → ∃ o, H b = some o
def Nws (H : Hp) (S : Rg) : Prop := ∀ b, S b → H b = none
def OffS (S : Rg) (H H' : Hp) : Prop := ∀ b o, H b = some o → ¬ S b → H' b = some o
section
variable {α β : Type} [Bks α] [Bks β] {u : α} {v : β} {H H' : Hp} {S : Rg}
theorem Apt.symm (h : Apt u v) : Apt v u := fun b h1 h2 => h b h2 h1
theorem Apt.nil_r {c : Nat} : Apt u (Value.slice none c c) := fun b _ h => by
  have : bk (.slice none c c) = some b := h
  simp [bk] at this
theorem Apt.of_nws (hu : Kn H u) (hn : Nws H S) : Apt u S := fun b h1 h2 => by
  obtain ⟨o, ho⟩ := hu b h1
  rw [hn b h2] at ho; exact absurd ho (by simp)
theorem Apt.of_nw {w : Value} (hu : Kn H u) (hn : Nw H w) : Apt u w := fun b h1 h2 => by
  obtain ⟨o, ho⟩ := hu b h1
  rw [hn b h2] at ho; exact absurd ho (by simp)
theorem Nws.le (h : Nws H' S) (hl : Le H H') : Nws H S := fun b hb => by
  cases ho : H b with
  | none => rfl
  | some o => have := hl b o ho; rw [h b hb] at this; exact absurd this (by simp)
theorem OffS.le {H0 : Hp} (h : OffS S H H') (hl : Le H0 H) (hn : Nws H0 S) : Le H0 H' := fun b o hb =>
  h b o (hl b o hb) (fun e => by rw [hn b e] at hb; exact absurd hb (by simp))
theorem OffS.trans {A B C : Hp} (h : OffS S A B) (h' : OffS S B C) : OffS S A C := fun b o hb hv => h' b o (h b o hb hv) hv
theorem OffS.of_le (h : Le H H') : OffS S H H' := fun b o hb _ => h b o hb
/-- What has no block of a set stays. -/
theorem OffS.off {w x : Value} (h : OffS S H H') (ha : Apt w S) : ∀ b o, bk w = some b → H b = some o → H' b = some o := fun b o hb ho => h b o ho (ha b hb)
end
theorem Own.offS {α : Type} {enc : α → Value} {H H' : Hp} {u : Value} {l : List α} {S : Rg} (h : Own enc H u l) (ho : OffS S H H') (ha : Apt u S) : Own enc H' u l := by
  obtain ⟨a, c, rfl, hc, hr⟩ := h
  refine ⟨a, c, rfl, hc, fun h0 => ?_⟩
  obtain ⟨b, off, cs, e, rfl, hb, hs, hcs⟩ := hr h0
  refine ⟨b, off, cs, e, rfl, ho b _ hb (ha b ?_), hs, hcs⟩
  show bk _ = some b
  simp only [bk]
  rw [if_neg (by omega)]
theorem Cel.offS {H H' : Hp} {p : Value} {cs : List Value} {S : Rg} (h : Cel H p cs) (ho : OffS S H H') (ha : Apt p S) : Cel H' p cs := by
  obtain ⟨r, e, rfl, hr⟩ := h
  exact ⟨r, e, rfl, ho r _ hr (ha r rfl)⟩
theorem Ro.offS {α : Type} {enc : α → Value} {H H' : Hp} {u : Value} {l : List α} {S : Rg} (h : Ro enc H u l) (ho : OffS S H H') (ha : Apt u S) : Ro enc H' u l := by
  obtain ⟨⟨a, c, rfl, hc, hr⟩, hk⟩ := h
  have key : ∀ b, bk (.slice a l.length c) = some b → H' b = H b := fun b hb => by
    obtain ⟨o, hbo⟩ := hk b hb
    rw [ho b o hbo (ha b hb), hbo]
  refine ⟨⟨a, c, rfl, hc, fun i hi => ?_⟩, fun b hb => by rw [key b hb]; exact hk b hb⟩
  obtain ⟨ad, rfl, hh⟩ := hr i hi
  refine ⟨ad, rfl, ?_⟩
  have e : H' (ad.add i).block = H (ad.add i).block := by
    rw [add_block]
    exact key _ (by simp only [bk]; rw [if_neg (by omega)])
  unfold Hp.cell? at hh ⊢
  rw [e]; exact hh
/-- A field. -/
structure FdL where
  r : Int
  c : Int
  l : List Int
  deriving DecidableEq
def fd0 : FdL := ⟨0, 0, []⟩
def RelF (P : Value → List Int → Prop) : List Fv → List FdL → Prop
  | [], [] => True
  | x :: L, f :: fs => (x.r = f.r ∧ x.c = f.c ∧ P x.v f.l) ∧ RelF P L fs
  | _, _ => False
section
variable {P Q : Value → List Int → Prop}
theorem RelF.len : ∀ {L : List Fv} {fs : List FdL}, RelF P L fs → L.length = fs.length
  | [], [], _ => rfl
  | x :: L, f :: fs, h => congrArg (· + 1) (RelF.len h.2)
  | [], _ :: _, h => h.elim
  | _ :: _, [], h => h.elim
theorem RelF.imp : ∀ {L : List Fv} {fs : List FdL}, RelF P L fs → (∀ x ∈ L, ∀ l, P x.v l → Q x.v l) → RelF Q L fs
  | [], [], _, _ => trivial
  | x :: L, f :: fs, h, g => ⟨⟨h.1.1, h.1.2.1, g x (by simp) _ h.1.2.2⟩, RelF.imp h.2 (fun y hy => g y (by simp [hy]))⟩
  | [], _ :: _, h, _ => h.elim
  | _ :: _, [], h, _ => h.elim
theorem RelF.app : ∀ {L M : List Fv} {fs gs : List FdL}, RelF P L fs → RelF P M gs → RelF P (L ++ M) (fs ++ gs)
  | [], M, [], gs, _, h => h
  | x :: L, M, f :: fs, gs, h1, h2 => ⟨h1.1, RelF.app h1.2 h2⟩
  | [], _, _ :: _, _, h, _ => h.elim
  | _ :: _, _, [], _, h, _ => h.elim
theorem RelF.get : ∀ {L : List Fv} {fs : List FdL} {i : Nat}, RelF P L fs → i < L.length → (at_ fv0 L (i : Int)).r = (at_ fd0 fs (i : Int)).r ∧ (at_ fv0 L (i : Int)).c = (at_ fd0 fs (i : Int)).c ∧ P (at_ fv0 L (i : Int)).v (at_ fd0 fs (i : Int)).l
  | [], [], i, _, hi => absurd hi (by simp)
  | x :: L, f :: fs, 0, h, _ => h.1
  | x :: L, f :: fs, i + 1, h, hi => RelF.get (L := L) (fs := fs) (i := i) h.2 (by simpa using hi)
  | [], _ :: _, _, h, _ => h.elim
  | _ :: _, [], _, h, _ => h.elim
end
/-- A slice of fields, whose blocks and those of its fields are owned. -/
def Fam (H : Hp) (v : Value) (S : Rg) (fs : List FdL) : Prop :=
  ∃ L, OwnE 3 encFv H v L ∧ RelF (Own eI H) L fs ∧ (∀ x ∈ L, Apart v x.v) ∧ L.Pairwise (fun x y => Apart x.v y.v) ∧ ∀ b, S b ↔ (bk v = some b ∨ ∃ x ∈ L, bk x.v = some b)
theorem RelF.mem {P : Value → List Int → Prop} : ∀ {L : List Fv} {fs : List FdL}, RelF P L fs → ∀ x ∈ L, ∃ l, P x.v l
  | [], [], _ => by simp
  | x :: L, f :: fs, h => fun y hy => by
    rcases List.mem_cons.mp hy with rfl | hy
    · exact ⟨_, h.1.2.2⟩
    · exact RelF.mem h.2 y hy
  | [], _ :: _, h => h.elim
  | _ :: _, [], h => h.elim
section
variable {H H' : Hp} {v : Value} {S : Rg} {fs : List FdL}
theorem Fam.known (h : Fam H v S fs) : Kn H S := by
  obtain ⟨L, h1, h2, h3, h4, h5⟩ := h
  intro b hb
  rcases (h5 b).mp hb with e | ⟨x, hx, e⟩
  · exact h1.known b e
  · obtain ⟨l, hl⟩ := h2.mem x hx
    exact hl.known b e
theorem Fam.le (h : Fam H v S fs) (hl : Le H H') : Fam H' v S fs := by
  obtain ⟨L, h1, h2, h3, h4, h5⟩ := h
  exact ⟨L, h1.le hl, h2.imp (fun _ _ _ h => h.le hl), h3, h4, h5⟩
theorem Fam.off {w : Value} (h : Fam H v S fs) (ho : Off w H H') (ha : Apt S w) : Fam H' v S fs := by
  obtain ⟨L, h1, h2, h3, h4, h5⟩ := h
  exact ⟨L, h1.off ho (fun b hb => ha b ((h5 b).mpr (.inl hb))), h2.imp (fun x hx _ h => h.off ho (fun b hb => ha b ((h5 b).mpr (.inr ⟨x, hx, hb⟩)))), h3, h4, h5⟩
theorem OwnE.offS {n : Nat} {α : Type} {enc : α → List Value} {u : Value} {l : List α} (h : OwnE n enc H u l) (ho : OffS S H H') (ha : Apt u S) : OwnE n enc H' u l := by
  obtain ⟨a, c, rfl, hc, hr⟩ := h
  refine ⟨a, c, rfl, hc, fun h0 => ?_⟩
  obtain ⟨b, off, cs, e, rfl, hb, hs, hcs⟩ := hr h0
  refine ⟨b, off, cs, e, rfl, ho b _ hb (ha b ?_), hs, hcs⟩
  show bk _ = some b
  simp only [bk]
  rw [if_neg (by omega)]
theorem Fam.offS {T : Rg} (h : Fam H v S fs) (ho : OffS T H H') (ha : Apt S T) : Fam H' v S fs := by
  obtain ⟨L, h1, h2, h3, h4, h5⟩ := h
  exact ⟨L, h1.offS ho (fun b hb => ha b ((h5 b).mpr (.inl hb))), h2.imp (fun x hx _ h => h.offS ho (fun b hb => ha b ((h5 b).mpr (.inr ⟨x, hx, hb⟩)))), h3, h4, h5⟩
theorem Fam.len (h : Fam H v S fs) : vLenSl v = some (.int .i64 fs.length) := by
  obtain ⟨L, h1, h2, _⟩ := h
  rw [h1.len, h2.len]
theorem Fam.one (h : Fam H v S fs) : oneCell v = true := by obtain ⟨L, h1, _⟩ := h; exact h1.one
theorem Fam.cells (h : Fam H v S fs) : v.cells = #[v] := by obtain ⟨L, h1, _⟩ := h; exact h1.cells
theorem Fam.isSl (h : Fam H v S fs) : ∃ a n c, v = .slice a n c := by obtain ⟨L, h1, _⟩ := h; exact h1.isSl
theorem Fam.cast {gs : List FdL} (e : fs = gs) (h : Fam H v S fs) : Fam H v S gs := e ▸ h
theorem Fam.nil_of (a : Option Addr) : Fam H (.slice a 0 0) (fun _ => False) [] :=
  ⟨[], OwnE.nil_of a, trivial, by simp, List.Pairwise.nil, fun b => ⟨fun h => h.elim, fun h => by
    rcases h with h | ⟨x, hx, _⟩
    · cases a <;> simp [bk] at h
    · simp at hx⟩⟩
/-- A new slice of fields. -/
theorem bSE_fam {z : Array Value} {e : TypeId} {K : Value → Hp → Prop} (hk : ∀ v S H', Fam H' v S [] → Nws H S → Le H H' → K v H') : bS 3 0 z e [] H K :=
  bSE_nil (n := 3) (enc := encFv) fun v H' ov nv hb le => hk v (fun _ => False) H' ⟨[], ov, trivial, by simp, List.Pairwise.nil, fun b => ⟨fun h => h.elim, fun h => by
    rcases h with h | ⟨x, hx, _⟩
    · rw [hb] at h; simp at h
    · simp at hx⟩⟩ (fun b h => h.elim) le
/-- One more. -/
theorem Fam.push {bytes : Nat} {z : Array Value} {e : TypeId} {w x : Value} {r c : Int} {l : List Int} {K : Value → Hp → Prop} (h : Fam H v S fs) (hz : z.size = 3) (hw : SlE 3 encFv H w [⟨r, c, x⟩]) (hx : Own eI H x l) (ax : Apt x S)
    (hb : bytes ≤ 64) (hl : fs.length < 1000000)
    (hk : ∀ v' S' H', Fam H' v' S' (fs ++ [⟨r, c, l⟩]) → OffS S H H' → (∀ b, S' b → S b ∨ bk x = some b ∨ H b = none) → (∀ b, bk x = some b → S' b) → Own eI H' x l → K v' H') : apd 3 bytes z e v w H K := by
  obtain ⟨L, h1, h2, h3, h4, h5⟩ := h
  have hlen := h2.len
  have axv : Apart x v := fun b hb hv => ax b hb ((h5 b).mpr (.inl hv))
  refine OwnE.apd h1 encFv_n hz hw (fun y hy t ht => ?_) hb (by simp; omega) (fun v' H' ov off hb' => ?_)
  · simp only [List.mem_singleton] at hy
    subst hy
    simp only [encFv, List.mem_cons, List.not_mem_nil, or_false] at ht
    rcases ht with rfl | rfl | rfl
    · rfl
    · rfl
    · exact hx.one
  have ax' : ∀ y ∈ L, Apart v' y.v := fun y hy b e1 e2 => by
    rcases hb' b e1 with e3 | e3
    · exact h3 y hy b e3 e2
    · obtain ⟨m, hm⟩ := h2.mem y hy
      obtain ⟨o, ho⟩ := hm.known b e2
      rw [e3] at ho; simp at ho
  have axx : Apart v' x := fun b e1 e2 => by
    rcases hb' b e1 with e3 | e3
    · exact axv b e2 e3
    · obtain ⟨o, ho⟩ := hx.known b e2
      rw [e3] at ho; simp at ho
  have hx' := hx.off off axv
  refine hk v' (fun b => bk v' = some b ∨ ∃ y ∈ L ++ [⟨r, c, x⟩], bk y.v = some b) H' ⟨_, ov, ?_, ?_, ?_, fun b => Iff.rfl⟩ (fun b o hbo hn => off b o hbo (fun e => hn ((h5 b).mpr (.inl e)))) ?_ (fun b hb => .inr ⟨⟨r, c, x⟩, by simp, hb⟩) hx'
  · exact (h2.imp (fun y hy m h => h.off off (h3 y hy).symm)).app ⟨⟨rfl, rfl, hx'⟩, trivial⟩
  · intro y hy
    rcases List.mem_append.mp hy with hy | hy
    · exact ax' y hy
    · simp only [List.mem_singleton] at hy; subst hy; exact axx
  · rw [List.pairwise_append]
    refine ⟨h4, List.pairwise_singleton _ _, fun y hy t ht => ?_⟩
    simp only [List.mem_singleton] at ht
    subst ht
    exact fun b e1 e2 => ax b e2 ((h5 b).mpr (.inr ⟨y, hy, e1⟩))
  · intro b hb
    rcases hb with hb | ⟨y, hy, e⟩
    · rcases hb' b hb with e3 | e3
      · exact .inl ((h5 b).mpr (.inl e3))
      · exact .inr (.inr e3)
    · rcases List.mem_append.mp hy with hy | hy
      · exact .inl ((h5 b).mpr (.inr ⟨y, hy, e⟩))
      · simp only [List.mem_singleton] at hy; subst hy; exact .inr (.inl e)
/-- Apart from what was pushed to. -/
theorem Apt.push {α : Type} [Bks α] {u : α} {S' : Rg} {x : Value} (hu : Kn H u) (hS : Apt u S) (hx : Apt u x) (hb : ∀ b, S' b → S b ∨ bk x = some b ∨ H b = none) : Apt u S' := fun b h1 h2 => by
  rcases hb b h2 with h | h | h
  · exact hS b h1 h
  · exact hx b h1 h
  · obtain ⟨o, ho⟩ := hu b h1
    rw [h] at ho; simp at ho
theorem Nws.push {H0 : Hp} {S' : Rg} {x : Value} (hl : Le H0 H) (hS : Nws H0 S) (hx : Nw H0 x) (hb : ∀ b, S' b → S b ∨ bk x = some b ∨ H b = none) : Nws H0 S' := fun b h2 => by
  rcases hb b h2 with h | h | h
  · exact hS b h
  · exact hx b h
  · cases ho : H0 b with
    | none => rfl
    | some o => rw [hl b o ho] at h; simp at h
end
end HL
end Go.Proofs.YtnijdhlmimemcaaGreatDoor
/- Maps from texts to numbers, as owned things. -/
namespace Go.Proofs.YtnijdhlmimemcaaGreatDoor.HL
set_option maxRecDepth 100000
/-- The entries of a map, told as texts and numbers. -/
def entsS (es : List MapEntry) : List (ByteArray × Int) → Prop := fun ms => es.map (fun e => (e.key, e.val)) = ms.map (fun m => (Value.string m.1, Value.int .i64 m.2))
theorem entsS_keys {es : List MapEntry} {ms : List (ByteArray × Int)} (h : entsS es ms) : keysS es := fun e he => by
  have : (e.key, e.val) ∈ es.map (fun e => (e.key, e.val)) := List.mem_map.mpr ⟨e, he, rfl⟩
  rw [h] at this
  obtain ⟨m, _, hm⟩ := List.mem_map.mp this
  exact ⟨m.1, by injection hm with h1 _; exact h1.symm⟩
/-- A map that is owned. -/
def Mp (H : Hp) (p : Value) (S : Rg) (ms : List (ByteArray × Int)) : Prop := ∃ r es c, p = .map (some r) ∧ H r = some (.map es c) ∧ entsS es.toList ms ∧ ∀ b, S b ↔ b = r
section
variable {H H' : Hp} {p : Value} {S : Rg} {ms : List (ByteArray × Int)}
theorem Mp.known (h : Mp H p S ms) : Kn H S := by
  obtain ⟨r, es, c, _, hr, _, hS⟩ := h
  intro b hb
  rw [(hS b).mp hb]; exact ⟨_, hr⟩
theorem Mp.le (h : Mp H p S ms) (hl : Le H H') : Mp H' p S ms := by
  obtain ⟨r, es, c, e, hr, he, hS⟩ := h
  exact ⟨r, es, c, e, hl r _ hr, he, hS⟩
theorem Mp.off {w : Value} (h : Mp H p S ms) (ho : Off w H H') (ha : Apt S w) : Mp H' p S ms := by
  obtain ⟨r, es, c, e, hr, he, hS⟩ := h
  exact ⟨r, es, c, e, ho r _ hr (ha r ((hS r).mpr rfl)), he, hS⟩
theorem Mp.offS {T : Rg} (h : Mp H p S ms) (ho : OffS T H H') (ha : Apt S T) : Mp H' p S ms := by
  obtain ⟨r, es, c, e, hr, he, hS⟩ := h
  exact ⟨r, es, c, e, ho r _ hr (ha r ((hS r).mpr rfl)), he, hS⟩
/-- What the map has at a text. -/
def mget (k : ByteArray) : List (ByteArray × Int) → Option Int
  | [] => none
  | m :: ms => bif k == m.1 then some m.2 else mget k ms
theorem findS_mget (k : ByteArray) : ∀ (es : List MapEntry) (ms : List (ByteArray × Int)) (i : Nat), entsS es ms → (findS k es i).map Prod.snd = (mget k ms).map (Value.int .i64)
  | [], [], _, _ => rfl
  | e :: es, m :: ms, i, h => by
    simp only [entsS, List.map_cons, List.cons.injEq, Prod.mk.injEq] at h
    obtain ⟨⟨h1, h2⟩, h3⟩ := h
    have ih := findS_mget k es ms (i + 1) h3
    unfold findS mget
    rw [h1]
    simp only [keyIs]
    cases k == m.1
    · exact ih
    · simp [h2]
  | [], _ :: _, _, h => by simp [entsS] at h
  | _ :: _, [], _, h => by simp [entsS] at h
/-- One more entry. -/
theorem Mp.add {P : Program} {t kt et : TypeId} {k : ByteArray} {x : Int} {K : Unit → Hp → Prop} (h : Mp H p S ms) (ht : P.underlying t = some (.map kt et)) (hk : P.underlying kt = some .string) (hn : mget k ms = none)
    (hK : ∀ H', Mp H' p S (ms ++ [(k, x)]) → OffS S H H' → K () H') : hp P (Instr.mapUpdate t p (.string k) (.int .i64 x)) H K := by
  obtain ⟨r, es, c, rfl, hr, he, hS⟩ := h
  have e := findS_mget k es.toList ms 0 he
  have hf : findS k es.toList 0 = none := by
    rw [hn] at e
    cases h : findS k es.toList 0 with
    | none => rfl
    | some x => rw [h] at e; simp at e
  refine hp_mapUpdate_new ht hk hr (entsS_keys he) hf ?_
  refine hK _ ⟨r, _, c + 1, rfl, Hp.put_same _ _ _, ?_, hS⟩ (fun b o hb hn => ?_)
  · unfold entsS at he ⊢
    rw [Array.toList_push, List.map_append, he, List.map_append]; rfl
  · rw [Hp.put_ne _ _ (by rintro rfl; exact hn ((hS _).mpr rfl))]; exact hb
end
end Go.Proofs.YtnijdhlmimemcaaGreatDoor.HL
/- Bytes in slices. -/
namespace Go.Proofs.YtnijdhlmimemcaaGreatDoor.HL
abbrev eU : Int → Value := .int .u8
/-- Numbers that are bytes. -/
def bytP (l : List Int) : Prop := ∀ x ∈ l, 0 ≤ x ∧ x ≤ 255
end Go.Proofs.YtnijdhlmimemcaaGreatDoor.HL
/- Bytes told as texts. -/
namespace Go.Proofs.YtnijdhlmimemcaaGreatDoor.HL
set_option maxRecDepth 100000
def bytesS (s : ByteArray) (l : List Int) : ByteArray := l.foldl (fun s n => s.push (UInt8.ofNat n.toNat)) s
theorem val_bytesFrom (P : Program) (H : Hp) : ∀ (l : List Int) (s : ByteArray),
    val P (forIn (l.map eU) s fun c r => (match c with
      | Value.int IntKind.u8 n => pure (ForInStep.yield (r.push (UInt8.ofNat n.toNat)))
      | _ => do
        stuck "bytesToString: byte expected"
        pure (ForInStep.yield r) : Sem (ForInStep ByteArray))) H = some (bytesS s l)
  | [], s => rfl
  | n :: l, s => by
    simp only [List.map_cons, List.forIn_cons, val_bind', val_pure, Option.bind_some]
    exact val_bytesFrom P H l _
theorem val_bytesToString {P : Program} {H : Hp} {v : Value} {l : List Int} (h : Sl eU H v l) : val P (Conv.bytesToString v) H = some (.string (bytesS .empty l)) := by
  have hf := h.firstC
  obtain ⟨a, c, rfl, hc, hr⟩ := h
  cases a with
  | none =>
    have : l = [] := by
      cases l with
      | nil => rfl
      | cons x r => obtain ⟨ad, e, _⟩ := hr 0 (by simp); simp at e
    subst this
    rfl
  | some ad =>
    simp only [HL.firstC, Nat.mul_one] at hf
    unfold Conv.bytesToString
    simp only [val_bind', val_loadCells P H ad l.length _ hf, Option.bind_some]
    have := val_bytesFrom P H l .empty
    simp only [List.forIn_toArray]
    exact Eq.trans (congrArg (fun o => Option.bind o (fun v => val P (pure (Value.string v)) H)) this) rfl
theorem bytesS_data : ∀ (l : List Int) (s : ByteArray), (bytesS s l).data.toList = s.data.toList ++ l.map fun n => UInt8.ofNat n.toNat
  | [], s => by simp [bytesS]
  | n :: l, s => by
    have := bytesS_data l (s.push (UInt8.ofNat n.toNat))
    simp only [bytesS, List.foldl_cons, List.map_cons] at this ⊢
    rw [this, ByteArray.data_push, Array.toList_push, List.append_assoc]; rfl
end Go.Proofs.YtnijdhlmimemcaaGreatDoor.HL
/- What the small functions of structs come to: copies, sizes, what is alike. -/
namespace Go.Proofs.YtnijdhlmimemcaaGreatDoor
open HL
set_option maxRecDepth 100000
end Go.Proofs.YtnijdhlmimemcaaGreatDoor
