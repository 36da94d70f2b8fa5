/- The smallest part of a field with all cells of 1. -/
import Derived.Test.YtejbicikffhggaaTD
import Derived.Test.YtejbicikffhggaaSY
namespace Go.Proofs.Ytejbicikffhggaa
open HL
set_option maxRecDepth 100000
/-- Cells that are filled one behind the other. -/
def fillL (c : Int) (g : Int → Int → Int) (N t : Nat) : List Int := (List.range N).map fun (j : Nat) => if j < t then g ((j : Int) / c) ((j : Int) % c) else 0
theorem fillL_length (c : Int) (g : Int → Int → Int) (N t : Nat) : (fillL c g N t).length = N := by simp [fillL]
theorem fillL_zero (c : Int) (g : Int → Int → Int) (N : Nat) : fillL c g N 0 = List.replicate N 0 := by
  rw [List.eq_replicate_iff]
  refine ⟨fillL_length c g N 0, fun x hx => ?_⟩
  simp only [fillL, List.mem_map] at hx
  obtain ⟨j, _, rfl⟩ := hx
  rw [if_neg (by omega)]
theorem fillL_end {c : Int} {g : Int → Int → Int} {N t : Nat} (h : N ≤ t) : fillL c g N t = mkL c g N := by
  unfold fillL mkL
  apply List.map_congr_left
  intro j hj
  have := List.mem_range.mp hj
  rw [if_pos (by omega)]
theorem fillL_set {c : Int} {g : Int → Int → Int} {N : Nat} {i k : Int} {t : Nat} (hc : 0 < c) (k0 : 0 ≤ k) (k1 : k < c) (ht : (t : Int) = i * c + k) (h : 0 ≤ i * c) : (fillL c g N t).set (i * c + k).toNat (g i k) = fillL c g N (t + 1) := by
  have hd := divmod (c := c) (i := i) (k := k) hc k0 k1
  rw [show (i * c + k).toNat = t by omega]
  apply List.ext_getElem?
  intro j
  rw [List.getElem?_set]
  simp only [fillL, List.getElem?_map, List.length_map, List.length_range]
  by_cases e : t = j
  · subst e
    rw [if_pos rfl]
    by_cases hj : t < N
    · rw [if_pos hj, List.getElem?_range hj]
      simp only [Option.map_some]
      rw [if_pos (by omega), ht, hd.1, hd.2]
    · rw [if_neg hj, List.getElem?_eq_none (by simpa using hj)]; rfl
  · rw [if_neg e]
    by_cases hj : j < N
    · rw [List.getElem?_range hj]
      simp only [Option.map_some]
      by_cases h1 : j < t
      · rw [if_pos h1, if_pos (by omega)]
      · rw [if_neg h1, if_neg (by omega)]
    · rw [List.getElem?_eq_none (by simpa using hj)]; rfl
theorem ix_lt {a b r c : Int} (a0 : 0 ≤ a) (a1 : a < r) (b0 : 0 ≤ b) (b1 : b < c) : 0 ≤ a * c ∧ a * c + b < r * c := by
  have := Int.mul_nonneg a0 (show (0 : Int) ≤ c by omega)
  have := Int.mul_le_mul (a := a) (b := c) (c := r - 1) (d := c) (by omega) (by omega) (by omega) (by omega)
  rw [Int.sub_mul] at this
  omega
theorem ix_le {a b : Int} (a0 : 0 ≤ a) (a1 : a ≤ 24) (b0 : 0 ≤ b) (b1 : b ≤ 24) : 0 ≤ a * b ∧ a * b ≤ 576 := by
  have := Int.mul_nonneg a0 b0
  have := Int.mul_le_mul a1 b1 b0 (by omega)
  omega
theorem fillL_len {c : Int} {g : Int → Int → Int} {rr cc : Int} {t : Nat} (h1 : 0 ≤ rr) (h2 : 0 ≤ cc) : ((fillL c g (rr.toNat * cc.toNat) t).length : Int) = rr * cc := by
  rw [fillL_length, Int.natCast_mul, Int.toNat_of_nonneg h1, Int.toNat_of_nonneg h2]
/-- A part of a field. -/
def cutG (c : Int) (l : List Int) (row col i k : Int) : Int := at_ 0 l ((row + i) * c + col + k)
/-- Where the cells of 1 lie, of the first t cells: top, bottom, left, right. -/
def trStep (c : Int) (l : List Int) (s : Int × Int × Int × Int) (j : Nat) : Int × Int × Int × Int :=
  if at_ 0 l (j : Int) = 1 then (min s.1 ((j : Int) / c), max s.2.1 ((j : Int) / c), min s.2.2.1 ((j : Int) % c), max s.2.2.2 ((j : Int) % c)) else s
def trS (r c : Int) (l : List Int) (t : Nat) : Int × Int × Int × Int := (List.range t).foldl (trStep c l) (r, -1, c, -1)
theorem trS_t {r c : Int} {l : List Int} {t : Nat} (h : at_ 0 l (t : Int) = 1) :
    trS r c l (t + 1) = (min (trS r c l t).1 ((t : Int) / c), max (trS r c l t).2.1 ((t : Int) / c), min (trS r c l t).2.2.1 ((t : Int) % c), max (trS r c l t).2.2.2 ((t : Int) % c)) := by
  unfold trS
  rw [List.range_succ, List.foldl_append, List.foldl_cons, List.foldl_nil, trStep, if_pos h]
theorem trS_f {r c : Int} {l : List Int} {t : Nat} (h : ¬ at_ 0 l (t : Int) = 1) : trS r c l (t + 1) = trS r c l t := by
  unfold trS
  rw [List.range_succ, List.foldl_append, List.foldl_cons, List.foldl_nil, trStep, if_neg h]
theorem trS_t2 {r c : Int} {l : List Int} {i k : Int} {t : Nat} (hc : 0 < c) (k0 : 0 ≤ k) (k1 : k < c) (ht : (t : Int) = i * c + k) (h : at_ 0 l (i * c + k) = 1) :
    trS r c l (t + 1) = (min (trS r c l t).1 i, max (trS r c l t).2.1 i, min (trS r c l t).2.2.1 k, max (trS r c l t).2.2.2 k) := by
  have hd := divmod (c := c) (i := i) (k := k) hc k0 k1
  rw [trS_t (by rw [ht]; exact h), ht, hd.1, hd.2]
theorem trS_f2 {r c : Int} {l : List Int} {i k : Int} {t : Nat} (ht : (t : Int) = i * c + k) (h : ¬ at_ 0 l (i * c + k) = 1) : trS r c l (t + 1) = trS r c l t := trS_f (by rw [ht]; exact h)
theorem trS_inv {r c : Int} {l : List Int} (hs : sidesF r c) : ∀ t : Nat, (t : Int) ≤ r * c →
    trS r c l t = (r, -1, c, -1) ∨ ((0 ≤ (trS r c l t).1 ∧ (trS r c l t).1 ≤ (trS r c l t).2.1 ∧ (trS r c l t).2.1 < r) ∧ 0 ≤ (trS r c l t).2.2.1 ∧ (trS r c l t).2.2.1 ≤ (trS r c l t).2.2.2 ∧ (trS r c l t).2.2.2 < c)
  | 0, _ => .inl rfl
  | t + 1, h => by
    have q1 := hs.1
    have q2 := hs.2
    have d1 := Int.ediv_nonneg (a := (t : Int)) (b := c) (by omega) (by omega)
    have d2 : (t : Int) / c < r := Int.ediv_lt_of_lt_mul (by omega) (by omega)
    have d3 := Int.emod_nonneg (t : Int) (b := c) (by omega)
    have d4 := Int.emod_lt_of_pos (t : Int) (b := c) (by omega)
    by_cases e : at_ 0 l (t : Int) = 1
    · rw [trS_t e]
      refine .inr ?_
      rcases trS_inv (l := l) hs t (by omega) with h1 | h1
      · rw [h1]; simp only; omega
      · simp only; omega
    · rw [trS_f e]
      exact trS_inv hs t (by omega)
theorem trS_bnd {r c : Int} {l : List Int} (hs : sidesF r c) (t : Nat) (h : (t : Int) ≤ r * c) : (0 ≤ (trS r c l t).1 ∧ (trS r c l t).1 ≤ r ∧ -1 ≤ (trS r c l t).2.1 ∧ (trS r c l t).2.1 < r) ∧ 0 ≤ (trS r c l t).2.2.1 ∧ (trS r c l t).2.2.1 ≤ c ∧ -1 ≤ (trS r c l t).2.2.2 ∧ (trS r c l t).2.2.2 < c := by
  have q1 := hs.1
  have q2 := hs.2
  rcases trS_inv (l := l) hs t h with h1 | h1
  · rw [h1]; simp only; omega
  · omega
theorem trS_ok {r c : Int} {l : List Int} (hs : sidesF r c) (t : Nat) (h : (t : Int) ≤ r * c) (hb : 0 ≤ (trS r c l t).2.1) : (trS r c l t).1 ≤ (trS r c l t).2.1 ∧ (trS r c l t).2.2.1 ≤ (trS r c l t).2.2.2 := by
  rcases trS_inv (l := l) hs t h with h1 | h1
  · rw [h1] at hb; simp only at hb; omega
  · omega
/-- The smallest part: its sides, its cells, and where it begins. -/
def trm (r c : Int) (l : List Int) : Int × Int × Int × Int := trS r c l (r * c).toNat
def trR (r c : Int) (l : List Int) : Int := (trm r c l).2.1 - (trm r c l).1 + 1
def trC (r c : Int) (l : List Int) : Int := (trm r c l).2.2.2 - (trm r c l).2.2.1 + 1
def trL (r c : Int) (l : List Int) : List Int := mkL (trC r c l) (cutG c l (trm r c l).1 (trm r c l).2.2.1) ((trR r c l).toNat * (trC r c l).toNat)
theorem trm_bnd {r c : Int} {l : List Int} (hs : sidesF r c) (hb : 0 ≤ (trm r c l).2.1) : 0 ≤ (trm r c l).1 ∧ 0 ≤ (trm r c l).2.2.1 ∧ 1 ≤ trR r c l ∧ 1 ≤ trC r c l ∧ (trm r c l).1 + trR r c l ≤ r ∧ (trm r c l).2.2.1 + trC r c l ≤ c := by
  have m := sidesF_mul hs
  have b := trS_bnd (l := l) hs (r * c).toNat (by omega)
  have d := trS_ok (l := l) hs (r * c).toNat (by omega) hb
  unfold trR trC trm
  omega
def trimOk (r c : Int) (l : List Int) : Prop := fieldN 1 r c l ∧ 0 ≤ (trm r c l).2.1
instance (r c : Int) (l : List Int) : Decidable (trimOk r c l) := by unfold trimOk; infer_instance
def trimI (x r c : Int) (l : List Int) : Int := if trimOk r c l then x else 0
def trimL (r c : Int) (l : List Int) : List Int := if trimOk r c l then trL r c l else []
theorem trimL_len {r c : Int} {l : List Int} : (trimL r c l).length ≤ 576 := by
  unfold trimL
  split
  · rename_i h
    have b := trm_bnd h.1.1 h.2
    have q1 := h.1.1.1
    have q2 := h.1.1.2
    unfold trL
    rw [mkL_length]
    have := Nat.mul_le_mul (show (trR r c l).toNat ≤ 24 by omega) (show (trC r c l).toNat ≤ 24 by omega)
    omega
  · simp
theorem C.spec_l00Min {a b : Int} {H : Hp} {K : Value → Hp → Prop} (hk : K (.int .i64 (min a b)) H) : HT prg I.spec_l00Min [.int .i64 a, .int .i64 b].toArray H K := by
  refine R.spec_l00Min ?_
  unfold F.spec_l00Min
  rw [vInt_lss, ob_some]
  refine cnd_d (fun h => ?_) (fun h => ?_)
  · rw [show min a b = a by omega] at hk; exact hk
  · rw [show min a b = b by omega] at hk; exact hk
theorem C.spec_l00Max {a b : Int} {H : Hp} {K : Value → Hp → Prop} (hk : K (.int .i64 (max a b)) H) : HT prg I.spec_l00Max [.int .i64 a, .int .i64 b].toArray H K := by
  refine R.spec_l00Max ?_
  unfold F.spec_l00Max
  rw [vInt_gtr, ob_some]
  refine cnd_d (fun h => ?_) (fun h => ?_)
  · rw [show max a b = a by omega] at hk; exact hk
  · rw [show max a b = b by omega] at hk; exact hk
theorem C.spec_l05Cut {p vc : Value} {r c row col rows cols : Int} {l : List Int} {H : Hp} {K : Value → Hp → Prop} (hp0 : Cel H p [.int .i64 r, .int .i64 c, vc]) (hvc0 : Sl eI H vc l) (hs : sidesF r c) (hl : (l.length : Int) = r * c)
    (h0 : 0 ≤ row) (h1 : 0 ≤ col) (h2 : 1 ≤ rows) (h3 : 1 ≤ cols) (h4 : row + rows ≤ r) (h5 : col + cols ≤ c) (hk : ∀ u H', Own eI H' u (mkL cols (cutG c l row col) (rows.toNat * cols.toNat)) → Nw H u → Le H H' → K (.agg #[.int .i64 rows, .int .i64 cols, u]) H') :
    HT prg I.spec_l05Cut [p, .int .i64 row, .int .i64 col, .int .i64 rows, .int .i64 cols].toArray H K := by
  have q1 := hs.1
  have q2 := hs.2
  have lE := Le.refl H
  have hp := hp0
  have hvc := hvc0
  refine R.spec_l05Cut ?_
  unfold F.spec_l05Cut
  refine nw_i (fun q H1 oq nn2 le3 => ?_)
  have nq : Nw H q := nn2.le lE
  replace hp := hp.le le3
  replace hvc := hvc.le le3
  replace lE := lE.trans le3
  replace oq : Cel H1 q [(.int .i64 (0)), (.int .i64 (0)), (.slice none 0 0)] := oq
  refine C.spec_l04New (by omega) (by omega) (by omega) (by omega) (fun u H4 ou nn6  le5 => ?_)
  have aqXu : Apart q u := oq.apart nn6
  have nu : Nw H u := nn6.le lE
  replace oq := oq.le le5
  replace hp := hp.le le5
  replace hvc := hvc.le le5
  replace lE := lE.trans le5
  refine nw_i (fun s H7 os nn8 le9 => ?_)
  have aqXs : Apart q s := oq.apart nn8
  have auXs : Apart u s := ou.apart nn8
  have ns : Nw H s := nn8.le lE
  replace oq := oq.le le9
  replace ou := ou.le le9
  replace hp := hp.le le9
  replace hvc := hvc.le le9
  replace lE := lE.trans le9
  replace os : Cel H7 s [(.int .i64 (0)), (.int .i64 (0)), (.slice none 0 0)] := os
  refine os.stn (ws := [(.int .i64 (rows)), (.int .i64 (cols)), u]) rfl rfl (oc1 rfl (oc1 rfl (oc1 ou.one oc0))) (fun H10 os off11 => ?_)
  replace oq := oq.off off11 aqXs
  replace ou := ou.off off11 auXs
  replace hp := hp0.le (off11.le lE ns)
  replace hvc := hvc0.le (off11.le lE ns)
  replace lE := off11.le lE ns
  replace os : Cel H10 s [(.int .i64 (rows)), (.int .i64 (cols)), u] := os
  refine jn_i (fun σ' H' => σ' 10 = q ∧ σ' 11 = s ∧ Cel H' q [(.int .i64 (0)), (.int .i64 (0)), (.slice none 0 0)] ∧ Own eI H' u (mkL cols (cutG c l row col) (rows.toNat * cols.toNat)) ∧ Cel H' s [(.int .i64 (rows)), (.int .i64 (cols)), u] ∧ Le H H') (fun σ12 H12 hP => ?_) (fun J12 hJ12 => ?_)
  · skip
    obtain ⟨g10L12, g11L12, oq, ou, os, lE⟩ := hP
    have hp := hp0.le lE
    have hvc := hvc0.le lE
    simp only [g10L12, g11L12]
    refine ob_i (os.ldn rfl) ?_
    refine oq.stn (ws := [(.int .i64 (rows)), (.int .i64 (cols)), u]) rfl rfl (oc1 rfl (oc1 rfl (oc1 ou.one oc0))) (fun H13 oq off14 => ?_)
    replace ou := ou.off off14 aqXu.symm
    replace os := os.off off14 aqXs.symm
    replace hp := hp0.le (off14.le lE nq)
    replace hvc := hvc0.le (off14.le lE nq)
    replace lE := off14.le lE nq
    replace oq : Cel H13 q [(.int .i64 (rows)), (.int .i64 (cols)), u] := oq
    refine ob_i (oq.ldn rfl) ?_
    exact hk u _ ou nu lE
  refine ⟨fun n' σ' H' => ∃ i : Nat, n' = rows.toNat - i ∧ i ≤ rows.toNat ∧ σ' 0 = p ∧ σ' 1 = (.int .i64 (row)) ∧ σ' 2 = (.int .i64 (col)) ∧ σ' 3 = (.int .i64 (rows)) ∧ σ' 4 = (.int .i64 (cols)) ∧ σ' 10 = q ∧ σ' 11 = s ∧ σ' 12 = (.int .i64 ((i : Int))) ∧ Cel H' q [(.int .i64 (0)), (.int .i64 (0)), (.slice none 0 0)] ∧ Own eI H' u (fillL cols (cutG c l row col) (rows.toNat * cols.toNat) (i * cols.toNat)) ∧ Cel H' s [(.int .i64 (rows)), (.int .i64 (cols)), u] ∧ Le H H',
    ⟨_, 0, rfl, by omega, rfl, rfl, rfl, rfl, rfl, rfl, rfl, rfl, oq, by rw [Nat.zero_mul, fillL_zero]; exact ou, os, lE⟩, ?_⟩
  rintro n15 σ15 H15 ⟨i, rfl, hiN, g0L15, g1L15, g2L15, g3L15, g4L15, g10L15, g11L15, g12L15, oq, ou, os, lE⟩
  have hp := hp0.le lE
  have hvc := hvc0.le lE
  simp only [g0L15, g1L15, g2L15, g3L15, g4L15, g10L15, g11L15, g12L15]
  refine ob_i (vInt_lss _ _ _) ?_
  refine cnd_d (fun hg16 => ?_) (fun hg16 => ?_)
  · skip
    have ti := hg16
    refine jn_i (fun σ' H' => σ' 0 = p ∧ σ' 1 = (.int .i64 (row)) ∧ σ' 2 = (.int .i64 (col)) ∧ σ' 3 = (.int .i64 (rows)) ∧ σ' 4 = (.int .i64 (cols)) ∧ σ' 10 = q ∧ σ' 11 = s ∧ σ' 12 = (.int .i64 ((i : Int))) ∧ Cel H' q [(.int .i64 (0)), (.int .i64 (0)), (.slice none 0 0)] ∧ Own eI H' u (fillL cols (cutG c l row col) (rows.toNat * cols.toNat) ((i + 1) * cols.toNat)) ∧ Cel H' s [(.int .i64 (rows)), (.int .i64 (cols)), u] ∧ Le H H') (fun σ17 H17 hP => ?_) (fun J17 hJ17 => ?_)
    · skip
      obtain ⟨g0L17, g1L17, g2L17, g3L17, g4L17, g10L17, g11L17, g12L17, oq, ou, os, lE⟩ := hP
      have hp := hp0.le lE
      have hvc := hvc0.le lE
      simp only [g10L17, g12L17]
      refine ob_i (vInt_add (by omega) (by omega)) ?_
      exact nxt (rows.toNat - (i + 1)) (by omega) ⟨i + 1, rfl, by omega, g0L17, g1L17, g2L17, g3L17, g4L17, g10L17, g11L17, rfl, oq, ou, os, lE⟩
    refine ⟨fun n' σ' H' => ∃ k : Nat, n' = cols.toNat - k ∧ k ≤ cols.toNat ∧ σ' 0 = p ∧ σ' 1 = (.int .i64 (row)) ∧ σ' 2 = (.int .i64 (col)) ∧ σ' 3 = (.int .i64 (rows)) ∧ σ' 4 = (.int .i64 (cols)) ∧ σ' 10 = q ∧ σ' 11 = s ∧ σ' 12 = (.int .i64 ((i : Int))) ∧ σ' 13 = (.int .i64 ((k : Int))) ∧ Cel H' q [(.int .i64 (0)), (.int .i64 (0)), (.slice none 0 0)] ∧ Own eI H' u (fillL cols (cutG c l row col) (rows.toNat * cols.toNat) (i * cols.toNat + k)) ∧ Cel H' s [(.int .i64 (rows)), (.int .i64 (cols)), u] ∧ Le H H',
      ⟨_, 0, rfl, by omega, g0L15, g1L15, g2L15, g3L15, g4L15, g10L15, g11L15, g12L15, rfl, oq, ou, os, lE⟩, ?_⟩
    rintro n18 σ18 H18 ⟨k, rfl, hkN, g0L18, g1L18, g2L18, g3L18, g4L18, g10L18, g11L18, g12L18, g13L18, oq, ou, os, lE⟩
    have hp := hp0.le lE
    have hvc := hvc0.le lE
    simp only [g0L18, g1L18, g2L18, g4L18, g10L18, g11L18, g12L18, g13L18]
    refine ob_i (vInt_lss _ _ _) ?_
    refine cnd_d (fun hg19 => ?_) (fun hg19 => ?_)
    · skip
      have tk := hg19
      have x1 := ix_lt (a := row + i) (b := col + k) (r := r) (c := c) (by omega) (by omega) (by omega) (by omega)
      have x2 := ix_lt (a := (i : Int)) (b := (k : Int)) (r := rows) (c := cols) (by omega) (by omega) (by omega) (by omega)
      have x3 := fillL_len (c := cols) (g := cutG c l row col) (rr := rows) (cc := cols) (t := i * cols.toNat + k) (by omega) (by omega)
      have x4 := sidesF_mul hs
      have x5 := ix_le (a := rows) (b := cols) (by omega) (by omega) (by omega) (by omega)
      refine ob_i (os.fa 2) ?_
      refine ob_i (os.ld 2 rfl) ?_
      refine ob_i (vInt_mul (by omega) (by omega)) ?_
      refine ob_i (vInt_add (by omega) (by omega)) ?_
      refine ob_i (hp.nilC) ?_
      refine ob_i (hp.fa 2) ?_
      refine ob_i (hp.ld 2 rfl) ?_
      refine ob_i (vInt_add (by omega) (by omega)) ?_
      refine ob_i (hp.nilC) ?_
      refine ob_i (hp.fa 1) ?_
      refine ob_i (hp.ld 1 rfl) ?_
      refine ob_i (vInt_mul (by omega) (by omega)) ?_
      refine ob_i (vInt_add (by omega) (by omega)) ?_
      refine ob_i (vInt_add (by omega) (by omega)) ?_
      refine ob_i (hvc.ix (by omega) (by omega)) ?_
      refine ob_i (hvc.ld 0 (by omega) (by omega)) ?_
      refine ob_i (ou.sl.ix (by omega) (by omega)) ?_
      refine ou.st (x := at_ 0 (l) ((((row + (i : Int)) * c) + col) + (k : Int))) (by omega) (by omega) rfl rfl (fun H20 ou off21 => ?_)
      replace oq := oq.off off21 aqXu
      replace os := os.off off21 auXs.symm
      replace hp := hp0.le (off21.le lE nu)
      replace hvc := hvc0.le (off21.le lE nu)
      replace lE := off21.le lE nu
      refine ob_i (vInt_add (by omega) (by omega)) ?_
      have e := fillL_set (c := cols) (g := cutG c l row col) (N := (rows.toNat * cols.toNat)) (i := i) (k := k) (t := i * cols.toNat + k) (by omega) (by omega) (by omega) (cast_ix (by omega)) (by omega)
      replace ou : Own eI H20 u (fillL cols (cutG c l row col) (rows.toNat * cols.toNat) (i * cols.toNat + (k + 1))) := by rw [← Nat.add_assoc, ← e]; exact ou
      exact nxt (cols.toNat - (k + 1)) (by omega) ⟨k + 1, rfl, by omega, g0L18, g1L18, g2L18, g3L18, g4L18, g10L18, g11L18, g12L18, rfl, oq, ou, os, lE⟩
    · skip
      have tk := hg19
      rw [show i * cols.toNat + k = (i + 1) * cols.toNat by rw [Nat.add_mul, Nat.one_mul]; omega] at ou
      exact hJ17 _ _ ⟨g0L18, g1L18, g2L18, g3L18, g4L18, g10L18, g11L18, g12L18, oq, ou, os, lE⟩
  · skip
    have ti := hg16
    rw [fillL_end (by rw [show i = rows.toNat by omega]; exact Nat.le_refl _)] at ou
    exact hJ12 _ _ ⟨g10L15, g11L15, oq, ou, os, lE⟩
theorem C.spec_l05Trim {p vc : Value} {r c : Int} {l : List Int} {H : Hp} {K : Value → Hp → Prop} (hp0 : Cel H p [.int .i64 r, .int .i64 c, vc]) (hvc0 : Sl eI H vc l) (hs : sidesF r c) (hl : (l.length : Int) = r * c)
    (hk1 : (trm r c l).2.1 < 0 → ∀ H', Le H H' → K (.tuple #[.agg #[.int .i64 0, .int .i64 0, .slice none 0 0], .int .i64 0, .int .i64 0, .bool false]) H')
    (hk2 : 0 ≤ (trm r c l).2.1 → ∀ u H', Own eI H' u (trL r c l) → Nw H u → Le H H' → K (.tuple #[.agg #[.int .i64 (trR r c l), .int .i64 (trC r c l), u], .int .i64 (trm r c l).1, .int .i64 (trm r c l).2.2.1, .bool true]) H') :
    HT prg I.spec_l05Trim [p].toArray H K := by
  have q1 := hs.1
  have q2 := hs.2
  have m := sidesF_mul hs
  change (trS r c l (r * c).toNat).2.1 < 0 → _ at hk1
  change 0 ≤ (trS r c l (r * c).toNat).2.1 → _ at hk2
  have lE := Le.refl H
  have hp := hp0
  have hvc := hvc0
  refine R.spec_l05Trim ?_
  unfold F.spec_l05Trim
  refine nw_i (fun q H1 oq nn2 le3 => ?_)
  have nq : Nw H q := nn2.le lE
  replace hp := hp.le le3
  replace hvc := hvc.le le3
  replace lE := lE.trans le3
  replace oq : Cel H1 q [(.int .i64 (0)), (.int .i64 (0)), (.slice none 0 0)] := oq
  refine ob_i (hp.nilC) ?_
  refine ob_i (hp.fa 0) ?_
  refine ob_i (hp.ld 0 rfl) ?_
  refine ob_i (hp.nilC) ?_
  refine ob_i (hp.fa 1) ?_
  refine ob_i (hp.ld 1 rfl) ?_
  refine jn_i (fun σ' H' => σ' 0 = p ∧ σ' 2 = q ∧ σ' 6 = (.int .i64 ((trS r c l ((r * c).toNat)).1)) ∧ σ' 7 = (.int .i64 ((trS r c l ((r * c).toNat)).2.1)) ∧ σ' 8 = (.int .i64 ((trS r c l ((r * c).toNat)).2.2.1)) ∧ σ' 9 = (.int .i64 ((trS r c l ((r * c).toNat)).2.2.2)) ∧ Cel H' q [(.int .i64 (0)), (.int .i64 (0)), (.slice none 0 0)] ∧ Le H H') (fun σ4 H4 hP => ?_) (fun J4 hJ4 => ?_)
  · skip
    obtain ⟨g0L4, g2L4, g6L4, g7L4, g8L4, g9L4, oq, lE⟩ := hP
    have hp := hp0.le lE
    have hvc := hvc0.le lE
    simp only [g0L4, g2L4, g6L4, g7L4, g8L4, g9L4]
    have b := trS_bnd (l := l) hs (r * c).toNat (by omega)
    have b2 := trS_ok (l := l) hs (r * c).toNat (by omega)
    refine ob_i (vInt_lss _ _ _) ?_
    refine cnd_d (fun hg5 => ?_) (fun hg5 => ?_)
    · skip
      refine ob_i (a := (.agg #[(.int .i64 (0)), (.int .i64 (0)), (.slice none 0 0)])) (by rfl) ?_
      refine oq.stn (ws := [(.int .i64 (0)), (.int .i64 (0)), (.slice none 0 0)]) rfl rfl (oc1 rfl (oc1 rfl (oc1 rfl oc0))) (fun H6 oq off7 => ?_)
      replace hp := hp0.le (off7.le lE nq)
      replace hvc := hvc0.le (off7.le lE nq)
      replace lE := off7.le lE nq
      replace oq : Cel H6 q [(.int .i64 (0)), (.int .i64 (0)), (.slice none 0 0)] := oq
      refine ob_i (oq.ldn rfl) ?_
      exact hk1 (by omega) _ lE
    · skip
      refine ob_i (vInt_sub (by omega) (by omega)) ?_
      refine ob_i (vInt_add (by omega) (by omega)) ?_
      refine ob_i (vInt_sub (by omega) (by omega)) ?_
      refine ob_i (vInt_add (by omega) (by omega)) ?_
      refine C.spec_l05Cut hp hvc hs hl (by omega) (by omega) (by omega) (by omega) (by omega) (by omega) (fun u10 H8 ou10 nn11  le9 => ?_)
      have aqXu10 : Apart q u10 := oq.apart nn11
      have nu10 : Nw H u10 := nn11.le lE
      replace oq := oq.le le9
      replace hp := hp.le le9
      replace hvc := hvc.le le9
      replace lE := lE.trans le9
      refine oq.stn (ws := [(.int .i64 ((((trS r c l ((r * c).toNat)).2.1) - ((trS r c l ((r * c).toNat)).1)) + 1)), (.int .i64 ((((trS r c l ((r * c).toNat)).2.2.2) - ((trS r c l ((r * c).toNat)).2.2.1)) + 1)), u10]) rfl rfl (oc1 rfl (oc1 rfl (oc1 ou10.one oc0))) (fun H12 oq off13 => ?_)
      replace ou10 := ou10.off off13 aqXu10.symm
      replace hp := hp0.le (off13.le lE nq)
      replace hvc := hvc0.le (off13.le lE nq)
      replace lE := off13.le lE nq
      replace oq : Cel H12 q [(.int .i64 ((((trS r c l ((r * c).toNat)).2.1) - ((trS r c l ((r * c).toNat)).1)) + 1)), (.int .i64 ((((trS r c l ((r * c).toNat)).2.2.2) - ((trS r c l ((r * c).toNat)).2.2.1)) + 1)), u10] := oq
      refine ob_i (oq.ldn rfl) ?_
      exact hk2 (by omega) u10 _ ou10 nu10 lE
  refine ⟨fun n' σ' H' => ∃ i : Nat, n' = r.toNat - i ∧ i ≤ r.toNat ∧ σ' 0 = p ∧ σ' 2 = q ∧ σ' 6 = (.int .i64 ((trS r c l (i * c.toNat)).1)) ∧ σ' 7 = (.int .i64 ((trS r c l (i * c.toNat)).2.1)) ∧ σ' 8 = (.int .i64 ((trS r c l (i * c.toNat)).2.2.1)) ∧ σ' 9 = (.int .i64 ((trS r c l (i * c.toNat)).2.2.2)) ∧ σ' 10 = (.int .i64 ((i : Int))) ∧ Cel H' q [(.int .i64 (0)), (.int .i64 (0)), (.slice none 0 0)] ∧ Le H H',
    ⟨_, 0, rfl, by omega, rfl, rfl, by rw [Nat.zero_mul]; rfl, by rw [Nat.zero_mul]; rfl, by rw [Nat.zero_mul]; rfl, by rw [Nat.zero_mul]; rfl, rfl, oq, lE⟩, ?_⟩
  rintro n14 σ14 H14 ⟨i, rfl, hiN, g0L14, g2L14, g6L14, g7L14, g8L14, g9L14, g10L14, oq, lE⟩
  have hp := hp0.le lE
  have hvc := hvc0.le lE
  simp only [g0L14, g2L14, g6L14, g7L14, g8L14, g9L14, g10L14]
  refine ob_i (hp.nilC) ?_
  refine ob_i (hp.fa 0) ?_
  refine ob_i (hp.ld 0 rfl) ?_
  refine ob_i (vInt_lss _ _ _) ?_
  refine cnd_d (fun hg15 => ?_) (fun hg15 => ?_)
  · skip
    have ti := hg15
    refine jn_i (fun σ' H' => σ' 0 = p ∧ σ' 2 = q ∧ σ' 6 = (.int .i64 ((trS r c l ((i + 1) * c.toNat)).1)) ∧ σ' 7 = (.int .i64 ((trS r c l ((i + 1) * c.toNat)).2.1)) ∧ σ' 8 = (.int .i64 ((trS r c l ((i + 1) * c.toNat)).2.2.1)) ∧ σ' 9 = (.int .i64 ((trS r c l ((i + 1) * c.toNat)).2.2.2)) ∧ σ' 10 = (.int .i64 ((i : Int))) ∧ Cel H' q [(.int .i64 (0)), (.int .i64 (0)), (.slice none 0 0)] ∧ Le H H') (fun σ16 H16 hP => ?_) (fun J16 hJ16 => ?_)
    · skip
      obtain ⟨g0L16, g2L16, g6L16, g7L16, g8L16, g9L16, g10L16, oq, lE⟩ := hP
      have hp := hp0.le lE
      have hvc := hvc0.le lE
      simp only [g2L16, g10L16]
      refine ob_i (vInt_add (by omega) (by omega)) ?_
      exact nxt (r.toNat - (i + 1)) (by omega) ⟨i + 1, rfl, by omega, g0L16, g2L16, g6L16, g7L16, g8L16, g9L16, rfl, oq, lE⟩
    refine ⟨fun n' σ' H' => ∃ k : Nat, n' = c.toNat - k ∧ k ≤ c.toNat ∧ σ' 0 = p ∧ σ' 2 = q ∧ σ' 6 = (.int .i64 ((trS r c l (i * c.toNat + k)).1)) ∧ σ' 7 = (.int .i64 ((trS r c l (i * c.toNat + k)).2.1)) ∧ σ' 8 = (.int .i64 ((trS r c l (i * c.toNat + k)).2.2.1)) ∧ σ' 9 = (.int .i64 ((trS r c l (i * c.toNat + k)).2.2.2)) ∧ σ' 10 = (.int .i64 ((i : Int))) ∧ σ' 11 = (.int .i64 ((k : Int))) ∧ Cel H' q [(.int .i64 (0)), (.int .i64 (0)), (.slice none 0 0)] ∧ Le H H',
      ⟨_, 0, rfl, by omega, g0L14, g2L14, g6L14, g7L14, g8L14, g9L14, g10L14, rfl, oq, lE⟩, ?_⟩
    rintro n17 σ17 H17 ⟨k, rfl, hkN, g0L17, g2L17, g6L17, g7L17, g8L17, g9L17, g10L17, g11L17, oq, lE⟩
    have hp := hp0.le lE
    have hvc := hvc0.le lE
    simp only [g0L17, g2L17, g6L17, g7L17, g8L17, g9L17, g10L17, g11L17]
    refine ob_i (hp.nilC) ?_
    refine ob_i (hp.fa 1) ?_
    refine ob_i (hp.ld 1 rfl) ?_
    refine ob_i (vInt_lss _ _ _) ?_
    refine cnd_d (fun hg18 => ?_) (fun hg18 => ?_)
    · skip
      have tk := hg18
      have x1 := ix_lt (a := (i : Int)) (b := (k : Int)) (r := r) (c := c) (by omega) (by omega) (by omega) (by omega)
      have x4 := sidesF_mul hs
      refine ob_i (hp.nilC) ?_
      refine ob_i (hp.fa 2) ?_
      refine ob_i (hp.ld 2 rfl) ?_
      refine ob_i (hp.nilC) ?_
      refine ob_i (hp.fa 1) ?_
      refine ob_i (hp.ld 1 rfl) ?_
      refine ob_i (vInt_mul (by omega) (by omega)) ?_
      refine ob_i (vInt_add (by omega) (by omega)) ?_
      refine ob_i (hvc.ix (by omega) (by omega)) ?_
      refine ob_i (hvc.ld 0 (by omega) (by omega)) ?_
      refine ob_i (vInt_eql _ _ _) ?_
      refine cnd_d (fun hg19 => ?_) (fun hg19 => ?_)
      · skip
        refine C.spec_l00Min  ?_
        refine C.spec_l00Max  ?_
        refine C.spec_l00Min  ?_
        refine C.spec_l00Max  ?_
        refine ob_i (vInt_add (by omega) (by omega)) ?_
        have eT := trS_t2 (r := r) (c := c) (i := (i : Int)) (k := (k : Int)) (t := i * c.toNat + k) (by omega) (by omega) (by omega) (cast_ix (by omega)) hg19
        exact nxt (c.toNat - (k + 1)) (by omega) ⟨k + 1, rfl, by omega, g0L17, g2L17, (by rw [← Nat.add_assoc, eT]; rfl), (by rw [← Nat.add_assoc, eT]; rfl), (by rw [← Nat.add_assoc, eT]; rfl), (by rw [← Nat.add_assoc, eT]; rfl), g10L17, rfl, oq, lE⟩
      · skip
        refine ob_i (vInt_add (by omega) (by omega)) ?_
        have eT := trS_f2 (r := r) (c := c) (i := (i : Int)) (k := (k : Int)) (t := i * c.toNat + k) (cast_ix (by omega)) hg19
        exact nxt (c.toNat - (k + 1)) (by omega) ⟨k + 1, rfl, by omega, g0L17, g2L17, (by rw [← Nat.add_assoc, eT]; exact g6L17), (by rw [← Nat.add_assoc, eT]; exact g7L17), (by rw [← Nat.add_assoc, eT]; exact g8L17), (by rw [← Nat.add_assoc, eT]; exact g9L17), g10L17, rfl, oq, lE⟩
    · skip
      have tk := hg18
      exact hJ16 _ _ ⟨g0L17, g2L17, (by rw [← show i * c.toNat + k = (i + 1) * c.toNat by rw [Nat.add_mul, Nat.one_mul]; congr 1; omega]; exact g6L17), (by rw [← show i * c.toNat + k = (i + 1) * c.toNat by rw [Nat.add_mul, Nat.one_mul]; congr 1; omega]; exact g7L17), (by rw [← show i * c.toNat + k = (i + 1) * c.toNat by rw [Nat.add_mul, Nat.one_mul]; congr 1; omega]; exact g8L17), (by rw [← show i * c.toNat + k = (i + 1) * c.toNat by rw [Nat.add_mul, Nat.one_mul]; congr 1; omega]; exact g9L17), g10L17, oq, lE⟩
  · skip
    have ti := hg15
    exact hJ4 _ _ ⟨g0L14, g2L14, (by rw [← show i * c.toNat = (r * c).toNat by rw [Int.toNat_mul (by omega) (by omega)]; congr 1; omega]; exact g6L14), (by rw [← show i * c.toNat = (r * c).toNat by rw [Int.toNat_mul (by omega) (by omega)]; congr 1; omega]; exact g7L14), (by rw [← show i * c.toNat = (r * c).toNat by rw [Int.toNat_mul (by omega) (by omega)]; congr 1; omega]; exact g8L14), (by rw [← show i * c.toNat = (r * c).toNat by rw [Int.toNat_mul (by omega) (by omega)]; congr 1; omega]; exact g9L14), oq, lE⟩
theorem C.impl_Field_cut_1 {p q s vc : Value} {r c row col i k : Int} {l : List Int} {H : Hp} {K : Value → Hp → Prop} (hp0 : Cel H p [.int .i64 r, .int .i64 c, vc]) (hq0 : Cel H q [.int .i64 row]) (hs0 : Cel H s [.int .i64 col]) (hvc0 : Sl eI H vc l) (hs : sidesF r c) (hl : (l.length : Int) = r * c)
    (h0 : 0 ≤ row + i) (h1 : 0 ≤ col + k) (h2 : row + i < r) (h3 : col + k < c) (hk : ∀ H', Le H H' → K (.int .i64 (cutG c l row col i k)) H') : HT prg I.impl_Field_cut_1 [.int .i64 i, .int .i64 k, p, q, s].toArray H K := by
  unfold cutG at hk
  have hs' := hs
  have lE := Le.refl H
  have hp := hp0
  have hq := hq0
  have hsx := hs0
  have hvc := hvc0
  refine R.impl_Field_cut_1 ?_
  unfold F.impl_Field_cut_1
  have x1 := ix_lt (a := row + i) (b := col + k) (r := r) (c := c) (by omega) (by omega) (by omega) (by omega)
  have m := sidesF_mul hs
  have q1 := hs.1
  have q2 := hs.2
  refine ob_i (hp.ldn rfl) ?_
  refine ob_i (hq.ld0 rfl) ?_
  refine ob_i (vInt_add (by omega) (by omega)) ?_
  refine ob_i (hsx.ld0 rfl) ?_
  refine ob_i (vInt_add (by omega) (by omega)) ?_
  refine C.impl_Field_at hvc (by omega) (by omega) (by omega) (by omega) (by omega) (fun H1 le2 => ?_)
  replace hp := hp.le le2
  replace hq := hq.le le2
  replace hsx := hsx.le le2
  replace hvc := hvc.le le2
  replace lE := lE.trans le2
  rw [show (row + i) * c + (col + k) = (row + i) * c + col + k by omega]
  exact hk _ lE
theorem C.impl_Field_cut {vc : Value} {r c row col rows cols : Int} {l : List Int} {H : Hp} {K : Value → Hp → Prop} (hvc0 : Sl eI H vc l) (hs : sidesF r c) (hl : (l.length : Int) = r * c)
    (h0 : 0 ≤ row) (h1 : 0 ≤ col) (h2 : 1 ≤ rows) (h3 : 1 ≤ cols) (h4 : row + rows ≤ r) (h5 : col + cols ≤ c) (hk : ∀ u H', Own eI H' u (mkL cols (cutG c l row col) (rows.toNat * cols.toNat)) → Nw H u → Le H H' → K (.agg #[.int .i64 rows, .int .i64 cols, u]) H') :
    HT prg I.impl_Field_cut [.agg #[.int .i64 r, .int .i64 c, vc], .int .i64 row, .int .i64 col, .int .i64 rows, .int .i64 cols].toArray H K := by
  have lE := Le.refl H
  have hvc := hvc0
  refine R.impl_Field_cut ?_
  unfold F.impl_Field_cut
  have q1 := hs.1
  have q2 := hs.2
  refine nw_i (fun p1 H2 op1 nn3 le4 => ?_)
  have np1 : Nw H p1 := nn3.le lE
  replace hvc := hvc.le le4
  replace lE := lE.trans le4
  replace op1 : Cel H2 p1 [(.int .i64 (r)), (.int .i64 (c)), vc] := op1
  refine nw_i (fun p5 H6 op5 nn7 le8 => ?_)
  have ap1Xp5 : Apart p1 p5 := op1.apart nn7
  have np5 : Nw H p5 := nn7.le lE
  replace op1 := op1.le le8
  replace hvc := hvc.le le8
  replace lE := lE.trans le8
  replace op5 : Cel H6 p5 [(.int .i64 (row))] := op5
  refine nw_i (fun p9 H10 op9 nn11 le12 => ?_)
  have ap1Xp9 : Apart p1 p9 := op1.apart nn11
  have ap5Xp9 : Apart p5 p9 := op5.apart nn11
  have np9 : Nw H p9 := nn11.le lE
  replace op1 := op1.le le12
  replace op5 := op5.le le12
  replace hvc := hvc.le le12
  replace lE := lE.trans le12
  replace op9 : Cel H10 p9 [(.int .i64 (col))] := op9
  refine nw_i (fun p13 H14 op13 nn15 le16 => ?_)
  have ap1Xp13 : Apart p1 p13 := op1.apart nn15
  have ap5Xp13 : Apart p5 p13 := op5.apart nn15
  have ap9Xp13 : Apart p9 p13 := op9.apart nn15
  have np13 : Nw H p13 := nn15.le lE
  replace op1 := op1.le le16
  replace op5 := op5.le le16
  replace op9 := op9.le le16
  replace hvc := hvc.le le16
  replace lE := lE.trans le16
  replace op13 : Cel H14 p13 [(.int .i64 (0)), (.int .i64 (0)), (.slice none 0 0)] := op13
  refine C.impl_madeField (g := cutG c l row col) (by omega) (by omega) (by omega) (by omega) (fun H' i k Z le hi hk' hZ => ?_) (fun u17 H18 ou17 nn19 le20 => ?_)
  · refine ⟨by kernel_rfl, ?_⟩
    exact C.impl_Field_cut_1 (op1.le le) (op5.le le) (op9.le le) (hvc.le le) hs hl (by omega) (by omega) (by omega) (by omega) hZ
  have ap1Xu17 : Apart p1 u17 := op1.apart nn19
  have ap5Xu17 : Apart p5 u17 := op5.apart nn19
  have ap9Xu17 : Apart p9 u17 := op9.apart nn19
  have ap13Xu17 : Apart p13 u17 := op13.apart nn19
  have nu17 : Nw H u17 := nn19.le lE
  replace op1 := op1.le le20
  replace op5 := op5.le le20
  replace op9 := op9.le le20
  replace op13 := op13.le le20
  replace hvc := hvc.le le20
  replace lE := lE.trans le20
  refine op13.stn (ws := [(.int .i64 (rows)), (.int .i64 (cols)), u17]) rfl rfl (oc1 rfl (oc1 rfl (oc1 ou17.one oc0))) (fun H21 op13 off22 => ?_)
  replace op1 := op1.off off22 ap1Xp13
  replace op5 := op5.off off22 ap5Xp13
  replace op9 := op9.off off22 ap9Xp13
  replace ou17 := ou17.off off22 ap13Xu17.symm
  replace hvc := hvc0.le (off22.le lE np13)
  replace lE := off22.le lE np13
  replace op13 : Cel H21 p13 [(.int .i64 (rows)), (.int .i64 (cols)), u17] := op13
  refine ob_i (op13.ldn rfl) ?_
  exact hk u17 _ ou17 nu17 lE
theorem C.impl_Field_trimmed {vc : Value} {r c : Int} {l : List Int} {H : Hp} {K : Value → Hp → Prop} (hvc0 : Sl eI H vc l) (hs : sidesF r c) (hl : (l.length : Int) = r * c)
    (hk1 : (trm r c l).2.1 < 0 → ∀ H', Le H H' → K (.tuple #[.agg #[.int .i64 0, .int .i64 0, .slice none 0 0], .int .i64 0, .int .i64 0, .bool false]) H')
    (hk2 : 0 ≤ (trm r c l).2.1 → ∀ u H', Own eI H' u (trL r c l) → Nw H u → Le H H' → K (.tuple #[.agg #[.int .i64 (trR r c l), .int .i64 (trC r c l), u], .int .i64 (trm r c l).1, .int .i64 (trm r c l).2.2.1, .bool true]) H') :
    HT prg I.impl_Field_trimmed [.agg #[.int .i64 r, .int .i64 c, vc]].toArray H K := by
  have q1 := hs.1
  have q2 := hs.2
  have m := sidesF_mul hs
  change (trS r c l (r * c).toNat).2.1 < 0 → _ at hk1
  change 0 ≤ (trS r c l (r * c).toNat).2.1 → _ at hk2
  have lE := Le.refl H
  have hvc := hvc0
  refine R.impl_Field_trimmed ?_
  unfold F.impl_Field_trimmed
  refine nw_i (fun p H1 op nn2 le3 => ?_)
  have np : Nw H p := nn2.le lE
  replace hvc := hvc.le le3
  replace lE := lE.trans le3
  replace op : Cel H1 p [(.int .i64 (r)), (.int .i64 (c)), vc] := op
  refine nw_i (fun q H4 oq nn5 le6 => ?_)
  have apXq : Apart p q := op.apart nn5
  have nq : Nw H q := nn5.le lE
  replace op := op.le le6
  replace hvc := hvc.le le6
  replace lE := lE.trans le6
  replace oq : Cel H4 q [(.int .i64 (0)), (.int .i64 (0)), (.slice none 0 0)] := oq
  refine ob_i (op.fa 0) ?_
  refine ob_i (op.ld 0 rfl) ?_
  refine ob_i (op.fa 1) ?_
  refine ob_i (op.ld 1 rfl) ?_
  refine jn_i (fun σ' H' => σ' 1 = p ∧ σ' 2 = q ∧ σ' 6 = (.int .i64 ((trS r c l ((r * c).toNat)).1)) ∧ σ' 7 = (.int .i64 ((trS r c l ((r * c).toNat)).2.2.1)) ∧ σ' 8 = (.int .i64 ((trS r c l ((r * c).toNat)).2.1)) ∧ σ' 9 = (.int .i64 ((trS r c l ((r * c).toNat)).2.2.2)) ∧ Cel H' p [(.int .i64 (r)), (.int .i64 (c)), vc] ∧ Cel H' q [(.int .i64 (0)), (.int .i64 (0)), (.slice none 0 0)] ∧ Le H H') (fun σ7 H7 hP => ?_) (fun J7 hJ7 => ?_)
  · skip
    obtain ⟨g1L7, g2L7, g6L7, g7L7, g8L7, g9L7, op, oq, lE⟩ := hP
    have hvc := hvc0.le lE
    simp only [g1L7, g2L7, g6L7, g7L7, g8L7, g9L7]
    have b := trS_bnd (l := l) hs (r * c).toNat (by omega)
    have b2 := trS_ok (l := l) hs (r * c).toNat (by omega)
    refine ob_i (vInt_lss _ _ _) ?_
    refine cnd_d (fun hg8 => ?_) (fun hg8 => ?_)
    · skip
      refine ob_i (a := (.agg #[(.int .i64 (0)), (.int .i64 (0)), (.slice none 0 0)])) (by rfl) ?_
      refine oq.stn (ws := [(.int .i64 (0)), (.int .i64 (0)), (.slice none 0 0)]) rfl rfl (oc1 rfl (oc1 rfl (oc1 rfl oc0))) (fun H9 oq off10 => ?_)
      replace op := op.off off10 apXq
      replace hvc := hvc0.le (off10.le lE nq)
      replace lE := off10.le lE nq
      replace oq : Cel H9 q [(.int .i64 (0)), (.int .i64 (0)), (.slice none 0 0)] := oq
      refine ob_i (oq.ldn rfl) ?_
      exact hk1 (by omega) _ lE
    · skip
      refine ob_i (op.ldn rfl) ?_
      refine ob_i (vInt_sub (by omega) (by omega)) ?_
      refine ob_i (vInt_add (by omega) (by omega)) ?_
      refine ob_i (vInt_sub (by omega) (by omega)) ?_
      refine ob_i (vInt_add (by omega) (by omega)) ?_
      refine C.impl_Field_cut hvc hs hl (by omega) (by omega) (by omega) (by omega) (by omega) (by omega) (fun u13 H11 ou13 nn14  le12 => ?_)
      have apXu13 : Apart p u13 := op.apart nn14
      have aqXu13 : Apart q u13 := oq.apart nn14
      have nu13 : Nw H u13 := nn14.le lE
      replace op := op.le le12
      replace oq := oq.le le12
      replace hvc := hvc.le le12
      replace lE := lE.trans le12
      refine oq.stn (ws := [(.int .i64 ((((trS r c l ((r * c).toNat)).2.1) - ((trS r c l ((r * c).toNat)).1)) + 1)), (.int .i64 ((((trS r c l ((r * c).toNat)).2.2.2) - ((trS r c l ((r * c).toNat)).2.2.1)) + 1)), u13]) rfl rfl (oc1 rfl (oc1 rfl (oc1 ou13.one oc0))) (fun H15 oq off16 => ?_)
      replace op := op.off off16 apXq
      replace ou13 := ou13.off off16 aqXu13.symm
      replace hvc := hvc0.le (off16.le lE nq)
      replace lE := off16.le lE nq
      replace oq : Cel H15 q [(.int .i64 ((((trS r c l ((r * c).toNat)).2.1) - ((trS r c l ((r * c).toNat)).1)) + 1)), (.int .i64 ((((trS r c l ((r * c).toNat)).2.2.2) - ((trS r c l ((r * c).toNat)).2.2.1)) + 1)), u13] := oq
      refine ob_i (oq.ldn rfl) ?_
      exact hk2 (by omega) u13 _ ou13 nu13 lE
  refine ob_i (op.fa 2) ?_
  refine ob_i (op.ld 2 rfl) ?_
  refine ob_i (hvc.len) ?_
  refine ⟨fun n' σ' H' => ∃ t : Nat, n' = l.length - t ∧ t ≤ l.length ∧ σ' 1 = p ∧ σ' 2 = q ∧ σ' 6 = (.int .i64 ((trS r c l (t)).1)) ∧ σ' 7 = (.int .i64 ((trS r c l (t)).2.2.1)) ∧ σ' 8 = (.int .i64 ((trS r c l (t)).2.1)) ∧ σ' 9 = (.int .i64 ((trS r c l (t)).2.2.2)) ∧ σ' 19 = vc ∧ σ' 20 = (.int .i64 (((l).length : Int))) ∧ σ' 21 = (.int .i64 ((t : Int))) ∧ Cel H' p [(.int .i64 (r)), (.int .i64 (c)), vc] ∧ Cel H' q [(.int .i64 (0)), (.int .i64 (0)), (.slice none 0 0)] ∧ Le H H',
    ⟨_, 0, rfl, by omega, rfl, rfl, rfl, rfl, rfl, rfl, rfl, rfl, rfl, op, oq, lE⟩, ?_⟩
  rintro n17 σ17 H17 ⟨t, rfl, htN, g1L17, g2L17, g6L17, g7L17, g8L17, g9L17, g19L17, g20L17, g21L17, op, oq, lE⟩
  have hvc := hvc0.le lE
  simp only [g1L17, g2L17, g6L17, g7L17, g8L17, g9L17, g19L17, g20L17, g21L17]
  refine ob_i (vInt_lss _ _ _) ?_
  refine cnd_d (fun hg18 => ?_) (fun hg18 => ?_)
  · skip
    have tt := hg18
    refine ob_i (hvc.ix (by omega) (by omega)) ?_
    refine ob_i (hvc.ld 0 (by omega) (by omega)) ?_
    refine ob_i (vInt_eql _ _ _) ?_
    refine cnd_d (fun hg19 => ?_) (fun hg19 => ?_)
    · skip
      refine ob_i (op.fa 1) ?_
      refine ob_i (op.ld 1 rfl) ?_
      refine ob_i (vInt_quoN (by omega) (by omega) (by omega)) ?_
      refine ob_i (op.fa 1) ?_
      refine ob_i (op.ld 1 rfl) ?_
      refine ob_i (vInt_remN (by omega) (by omega)) ?_
      refine ob_i (vMx_min _ _ _) ?_
      refine ob_i (vMx_min _ _ _) ?_
      refine ob_i (vMx_max _ _ _) ?_
      refine ob_i (vMx_max _ _ _) ?_
      refine ob_i (vInt_add (by omega) (by omega)) ?_
      have eT := trS_t (r := r) (c := c) hg19
      exact nxt (l.length - (t + 1)) (by omega) ⟨t + 1, rfl, by omega, g1L17, g2L17, (by rw [eT]; rfl), (by rw [eT]; rfl), (by rw [eT]; rfl), (by rw [eT]; rfl), g19L17, g20L17, rfl, op, oq, lE⟩
    · skip
      refine ob_i (vInt_add (by omega) (by omega)) ?_
      have eT := trS_f (r := r) (c := c) hg19
      exact nxt (l.length - (t + 1)) (by omega) ⟨t + 1, rfl, by omega, g1L17, g2L17, (by rw [eT]; exact g6L17), (by rw [eT]; exact g7L17), (by rw [eT]; exact g8L17), (by rw [eT]; exact g9L17), g19L17, g20L17, rfl, op, oq, lE⟩
  · skip
    have tt := hg18
    exact hJ7 _ _ ⟨g1L17, g2L17, (by rw [← show t = (r * c).toNat by omega]; exact g6L17), (by rw [← show t = (r * c).toNat by omega]; exact g7L17), (by rw [← show t = (r * c).toNat by omega]; exact g8L17), (by rw [← show t = (r * c).toNat by omega]; exact g9L17), op, oq, lE⟩
end Go.Proofs.Ytejbicikffhggaa
