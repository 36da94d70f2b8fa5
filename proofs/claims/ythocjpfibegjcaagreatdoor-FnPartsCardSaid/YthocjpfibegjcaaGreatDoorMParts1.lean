/- Several texts in one. -/
import Derived.Test.YthocjpfibegjcaaGreatDoorMParts0
/- The smallest part of a field with all cells of 1. -/
namespace Go.Proofs.YthocjpfibegjcaaGreatDoor
open HL
set_option maxRecDepth 100000
/-- Cells that are filled one behind the other. -/
def fillL (c : Int) (g : Int → Int → Int) (N t : Nat) : List Int := (List.range N).map fun (j : Nat) => if j < t then g ((j : Int) / c) ((j : Int) % c) else 0
theorem fillL_length (c : Int) (g : Int → Int → Int) (N t : Nat) : (fillL c g N t).length = N := by simp [fillL]
theorem fillL_zero (c : Int) (g : Int → Int → Int) (N : Nat) : fillL c g N 0 = List.replicate N 0 := by
  rw [List.eq_replicate_iff]
  refine ⟨fillL_length c g N 0, fun x hx => ?_⟩
  simp only [fillL, List.mem_map] at hx
  obtain ⟨j, _, rfl⟩ := hx
  rw [if_neg (by omega)]
theorem fillL_end {c : Int} {g : Int → Int → Int} {N t : Nat} (h : N ≤ t) : fillL c g N t = mkL c g N := by
  unfold fillL mkL
  apply List.map_congr_left
  intro j hj
  have := List.mem_range.mp hj
  rw [if_pos (by omega)]
theorem fillL_set {c : Int} {g : Int → Int → Int} {N : Nat} {i k : Int} {t : Nat} (hc : 0 < c) (k0 : 0 ≤ k) (k1 : k < c) (ht : (t : Int) = i * c + k) (h : 0 ≤ i * c) : (fillL c g N t).set (i * c + k).toNat (g i k) = fillL c g N (t + 1) := by
  have hd := divmod (c := c) (i := i) (k := k) hc k0 k1
  rw [show (i * c + k).toNat = t by omega]
  apply List.ext_getElem?
  intro j
  rw [List.getElem?_set]
  simp only [fillL, List.getElem?_map, List.length_map, List.length_range]
  by_cases e : t = j
  · subst e
    rw [if_pos rfl]
    by_cases hj : t < N
    · rw [if_pos hj, List.getElem?_range hj]
      simp only [Option.map_some]
      rw [if_pos (by omega), ht, hd.1, hd.2]
    · rw [if_neg hj, List.getElem?_eq_none (by simpa using hj)]; rfl
  · rw [if_neg e]
    by_cases hj : j < N
    · rw [List.getElem?_range hj]
      simp only [Option.map_some]
      by_cases h1 : j < t
      · rw [if_pos h1, if_pos (by omega)]
      · rw [if_neg h1, if_neg (by omega)]
    · rw [List.getElem?_eq_none (by simpa using hj)]; rfl
theorem ix_lt {a b r c : Int} (a0 : 0 ≤ a) (a1 : a < r) (b0 : 0 ≤ b) (b1 : b < c) : 0 ≤ a * c ∧ a * c + b < r * c := by
  have := Int.mul_nonneg a0 (show (0 : Int) ≤ c by omega)
  have := Int.mul_le_mul (a := a) (b := c) (c := r - 1) (d := c) (by omega) (by omega) (by omega) (by omega)
  rw [Int.sub_mul] at this
  omega
theorem ix_le {a b : Int} (a0 : 0 ≤ a) (a1 : a ≤ 24) (b0 : 0 ≤ b) (b1 : b ≤ 24) : 0 ≤ a * b ∧ a * b ≤ 576 := by
  have := Int.mul_nonneg a0 b0
  have := Int.mul_le_mul a1 b1 b0 (by omega)
  omega
theorem fillL_len {c : Int} {g : Int → Int → Int} {rr cc : Int} {t : Nat} (h1 : 0 ≤ rr) (h2 : 0 ≤ cc) : ((fillL c g (rr.toNat * cc.toNat) t).length : Int) = rr * cc := by
  rw [fillL_length, Int.natCast_mul, Int.toNat_of_nonneg h1, Int.toNat_of_nonneg h2]
/-- A part of a field. -/
def cutG (c : Int) (l : List Int) (row col i k : Int) : Int := at_ 0 l ((row + i) * c + col + k)
/-- Where the cells of 1 lie, of the first t cells: top, bottom, left, right. -/
def trStep (c : Int) (l : List Int) (s : Int × Int × Int × Int) (j : Nat) : Int × Int × Int × Int :=
  if at_ 0 l (j : Int) = 1 then (min s.1 ((j : Int) / c), max s.2.1 ((j : Int) / c), min s.2.2.1 ((j : Int) % c), max s.2.2.2 ((j : Int) % c)) else s
def trS (r c : Int) (l : List Int) (t : Nat) : Int × Int × Int × Int := (List.range t).foldl (trStep c l) (r, -1, c, -1)
theorem trS_t {r c : Int} {l : List Int} {t : Nat} (h : at_ 0 l (t : Int) = 1) :
    trS r c l (t + 1) = (min (trS r c l t).1 ((t : Int) / c), max (trS r c l t).2.1 ((t : Int) / c), min (trS r c l t).2.2.1 ((t : Int) % c), max (trS r c l t).2.2.2 ((t : Int) % c)) := by
  unfold trS
  rw [List.range_succ, List.foldl_append, List.foldl_cons, List.foldl_nil, trStep, if_pos h]
theorem trS_f {r c : Int} {l : List Int} {t : Nat} (h : ¬ at_ 0 l (t : Int) = 1) : trS r c l (t + 1) = trS r c l t := by
  unfold trS
  rw [List.range_succ, List.foldl_append, List.foldl_cons, List.foldl_nil, trStep, if_neg h]
theorem trS_t2 {r c : Int} {l : List Int} {i k : Int} {t : Nat} (hc : 0 < c) (k0 : 0 ≤ k) (k1 : k < c) (ht : (t : Int) = i * c + k) (h : at_ 0 l (i * c + k) = 1) :
    trS r c l (t + 1) = (min (trS r c l t).1 i, max (trS r c l t).2.1 i, min (trS r c l t).2.2.1 k, max (trS r c l t).2.2.2 k) := by
  have hd := divmod (c := c) (i := i) (k := k) hc k0 k1
  rw [trS_t (by rw [ht]; exact h), ht, hd.1, hd.2]
theorem trS_f2 {r c : Int} {l : List Int} {i k : Int} {t : Nat} (ht : (t : Int) = i * c + k) (h : ¬ at_ 0 l (i * c + k) = 1) : trS r c l (t + 1) = trS r c l t := trS_f (by rw [ht]; exact h)
theorem trS_inv {r c : Int} {l : List Int} (hs : sidesF r c) : ∀ t : Nat, (t : Int) ≤ r * c →
    trS r c l t = (r, -1, c, -1) ∨ ((0 ≤ (trS r c l t).1 ∧ (trS r c l t).1 ≤ (trS r c l t).2.1 ∧ (trS r c l t).2.1 < r) ∧ 0 ≤ (trS r c l t).2.2.1 ∧ (trS r c l t).2.2.1 ≤ (trS r c l t).2.2.2 ∧ (trS r c l t).2.2.2 < c)
  | 0, _ => .inl rfl
  | t + 1, h => by
    have q1 := hs.1
    have q2 := hs.2
    have d1 := Int.ediv_nonneg (a := (t : Int)) (b := c) (by omega) (by omega)
    have d2 : (t : Int) / c < r := Int.ediv_lt_of_lt_mul (by omega) (by omega)
    have d3 := Int.emod_nonneg (t : Int) (b := c) (by omega)
    have d4 := Int.emod_lt_of_pos (t : Int) (b := c) (by omega)
    by_cases e : at_ 0 l (t : Int) = 1
    · rw [trS_t e]
      refine .inr ?_
      rcases trS_inv (l := l) hs t (by omega) with h1 | h1
      · rw [h1]; simp only; omega
      · simp only; omega
    · rw [trS_f e]
      exact trS_inv hs t (by omega)
theorem trS_bnd {r c : Int} {l : List Int} (hs : sidesF r c) (t : Nat) (h : (t : Int) ≤ r * c) : (0 ≤ (trS r c l t).1 ∧ (trS r c l t).1 ≤ r ∧ -1 ≤ (trS r c l t).2.1 ∧ (trS r c l t).2.1 < r) ∧ 0 ≤ (trS r c l t).2.2.1 ∧ (trS r c l t).2.2.1 ≤ c ∧ -1 ≤ (trS r c l t).2.2.2 ∧ (trS r c l t).2.2.2 < c := by
  have q1 := hs.1
  have q2 := hs.2
  rcases trS_inv (l := l) hs t h with h1 | h1
  · rw [h1]; simp only; omega
  · omega
theorem trS_ok {r c : Int} {l : List Int} (hs : sidesF r c) (t : Nat) (h : (t : Int) ≤ r * c) (hb : 0 ≤ (trS r c l t).2.1) : (trS r c l t).1 ≤ (trS r c l t).2.1 ∧ (trS r c l t).2.2.1 ≤ (trS r c l t).2.2.2 := by
  rcases trS_inv (l := l) hs t h with h1 | h1
  · rw [h1] at hb; simp only at hb; omega
  · omega
/-- The smallest part: its sides, its cells, and where it begins. -/
def trm (r c : Int) (l : List Int) : Int × Int × Int × Int := trS r c l (r * c).toNat
def trR (r c : Int) (l : List Int) : Int := (trm r c l).2.1 - (trm r c l).1 + 1
def trC (r c : Int) (l : List Int) : Int := (trm r c l).2.2.2 - (trm r c l).2.2.1 + 1
def trL (r c : Int) (l : List Int) : List Int := mkL (trC r c l) (cutG c l (trm r c l).1 (trm r c l).2.2.1) ((trR r c l).toNat * (trC r c l).toNat)
theorem trm_bnd {r c : Int} {l : List Int} (hs : sidesF r c) (hb : 0 ≤ (trm r c l).2.1) : 0 ≤ (trm r c l).1 ∧ 0 ≤ (trm r c l).2.2.1 ∧ 1 ≤ trR r c l ∧ 1 ≤ trC r c l ∧ (trm r c l).1 + trR r c l ≤ r ∧ (trm r c l).2.2.1 + trC r c l ≤ c := by
  have m := sidesF_mul hs
  have b := trS_bnd (l := l) hs (r * c).toNat (by omega)
  have d := trS_ok (l := l) hs (r * c).toNat (by omega) hb
  unfold trR trC trm
  omega
def trimOk (r c : Int) (l : List Int) : Prop := fieldN 1 r c l ∧ 0 ≤ (trm r c l).2.1
instance (r c : Int) (l : List Int) : Decidable (trimOk r c l) := by unfold trimOk; infer_instance
def trimI (x r c : Int) (l : List Int) : Int := if trimOk r c l then x else 0
def trimL (r c : Int) (l : List Int) : List Int := if trimOk r c l then trL r c l else []
theorem trimL_len {r c : Int} {l : List Int} : (trimL r c l).length ≤ 576 := by
  unfold trimL
  split
  · rename_i h
    have b := trm_bnd h.1.1 h.2
    have q1 := h.1.1.1
    have q2 := h.1.1.2
    unfold trL
    rw [mkL_length]
    have := Nat.mul_le_mul (show (trR r c l).toNat ≤ 24 by omega) (show (trC r c l).toNat ≤ 24 by omega)
    omega
  · simp
theorem C.spec_l00Min {a b : Int} {H : Hp} {K : Value → Hp → Prop} (hk : K (.int .i64 (min a b)) H) : HT prg I.spec_l00Min [.int .i64 a, .int .i64 b].toArray H K := by
  refine R.spec_l00Min ?_
  unfold F.spec_l00Min
  rw [vInt_lss, ob_some]
  refine cnd_d (fun h => ?_) (fun h => ?_)
  · rw [show min a b = a by omega] at hk; exact hk
  · rw [show min a b = b by omega] at hk; exact hk
theorem C.spec_l00Max {a b : Int} {H : Hp} {K : Value → Hp → Prop} (hk : K (.int .i64 (max a b)) H) : HT prg I.spec_l00Max [.int .i64 a, .int .i64 b].toArray H K := by
  refine R.spec_l00Max ?_
  unfold F.spec_l00Max
  rw [vInt_gtr, ob_some]
  refine cnd_d (fun h => ?_) (fun h => ?_)
  · rw [show max a b = a by omega] at hk; exact hk
  · rw [show max a b = b by omega] at hk; exact hk
theorem C.spec_l05Cut {p vc : Value} {r c row col rows cols : Int} {l : List Int} {H : Hp} {K : Value → Hp → Prop} (hp0 : Cel H p [.int .i64 r, .int .i64 c, vc]) (hvc0 : Sl eI H vc l) (hs : sidesF r c) (hl : (l.length : Int) = r * c)
    (h0 : 0 ≤ row) (h1 : 0 ≤ col) (h2 : 1 ≤ rows) (h3 : 1 ≤ cols) (h4 : row + rows ≤ r) (h5 : col + cols ≤ c) (hk : ∀ u H', Own eI H' u (mkL cols (cutG c l row col) (rows.toNat * cols.toNat)) → Nw H u → Le H H' → K (.agg #[.int .i64 rows, .int .i64 cols, u]) H') :
    HT prg I.spec_l05Cut [p, .int .i64 row, .int .i64 col, .int .i64 rows, .int .i64 cols].toArray H K := by
  have q1 := hs.1
  have q2 := hs.2
  have lE := Le.refl H
  have hp := hp0
  have hvc := hvc0
  refine R.spec_l05Cut ?_
  unfold F.spec_l05Cut
  refine nw_i (fun q H1 oq nn2 le3 => ?_)
  have nq : Nw H q := nn2.le lE
  replace hp := hp.le le3
  replace hvc := hvc.le le3
  replace lE := lE.trans le3
  replace oq : Cel H1 q [(.int .i64 (0)), (.int .i64 (0)), (.slice none 0 0)] := oq
  refine C.spec_l04New (by omega) (by omega) (by omega) (by omega) (fun u H4 ou nn6  le5 => ?_)
  have aqXu : Apart q u := oq.apart nn6
  have nu : Nw H u := nn6.le lE
  replace oq := oq.le le5
  replace hp := hp.le le5
  replace hvc := hvc.le le5
  replace lE := lE.trans le5
  refine nw_i (fun s H7 os nn8 le9 => ?_)
  have aqXs : Apart q s := oq.apart nn8
  have auXs : Apart u s := ou.apart nn8
  have ns : Nw H s := nn8.le lE
  replace oq := oq.le le9
  replace ou := ou.le le9
  replace hp := hp.le le9
  replace hvc := hvc.le le9
  replace lE := lE.trans le9
  replace os : Cel H7 s [(.int .i64 (0)), (.int .i64 (0)), (.slice none 0 0)] := os
  refine os.stn (ws := [(.int .i64 (rows)), (.int .i64 (cols)), u]) rfl rfl (oc1 rfl (oc1 rfl (oc1 ou.one oc0))) (fun H10 os off11 => ?_)
  replace oq := oq.off off11 aqXs
  replace ou := ou.off off11 auXs
  replace hp := hp0.le (off11.le lE ns)
  replace hvc := hvc0.le (off11.le lE ns)
  replace lE := off11.le lE ns
  replace os : Cel H10 s [(.int .i64 (rows)), (.int .i64 (cols)), u] := os
  refine jn_i (fun σ' H' => σ' 10 = q ∧ σ' 11 = s ∧ Cel H' q [(.int .i64 (0)), (.int .i64 (0)), (.slice none 0 0)] ∧ Own eI H' u (mkL cols (cutG c l row col) (rows.toNat * cols.toNat)) ∧ Cel H' s [(.int .i64 (rows)), (.int .i64 (cols)), u] ∧ Le H H') (fun σ12 H12 hP => ?_) (fun J12 hJ12 => ?_)
  · skip
    obtain ⟨g10L12, g11L12, oq, ou, os, lE⟩ := hP
    have hp := hp0.le lE
    have hvc := hvc0.le lE
    simp only [g10L12, g11L12]
    refine ob_i (os.ldn rfl) ?_
    refine oq.stn (ws := [(.int .i64 (rows)), (.int .i64 (cols)), u]) rfl rfl (oc1 rfl (oc1 rfl (oc1 ou.one oc0))) (fun H13 oq off14 => ?_)
    replace ou := ou.off off14 aqXu.symm
    replace os := os.off off14 aqXs.symm
    replace hp := hp0.le (off14.le lE nq)
    replace hvc := hvc0.le (off14.le lE nq)
    replace lE := off14.le lE nq
    replace oq : Cel H13 q [(.int .i64 (rows)), (.int .i64 (cols)), u] := oq
    refine ob_i (oq.ldn rfl) ?_
    exact hk u _ ou nu lE
  refine ⟨fun n' σ' H' => ∃ i : Nat, n' = rows.toNat - i ∧ i ≤ rows.toNat ∧ σ' 0 = p ∧ σ' 1 = (.int .i64 (row)) ∧ σ' 2 = (.int .i64 (col)) ∧ σ' 3 = (.int .i64 (rows)) ∧ σ' 4 = (.int .i64 (cols)) ∧ σ' 10 = q ∧ σ' 11 = s ∧ σ' 12 = (.int .i64 ((i : Int))) ∧ Cel H' q [(.int .i64 (0)), (.int .i64 (0)), (.slice none 0 0)] ∧ Own eI H' u (fillL cols (cutG c l row col) (rows.toNat * cols.toNat) (i * cols.toNat)) ∧ Cel H' s [(.int .i64 (rows)), (.int .i64 (cols)), u] ∧ Le H H',
    ⟨_, 0, rfl, by omega, rfl, rfl, rfl, rfl, rfl, rfl, rfl, rfl, oq, by rw [Nat.zero_mul, fillL_zero]; exact ou, os, lE⟩, ?_⟩
  rintro n15 σ15 H15 ⟨i, rfl, hiN, g0L15, g1L15, g2L15, g3L15, g4L15, g10L15, g11L15, g12L15, oq, ou, os, lE⟩
  have hp := hp0.le lE
  have hvc := hvc0.le lE
  simp only [g0L15, g1L15, g2L15, g3L15, g4L15, g10L15, g11L15, g12L15]
  refine ob_i (vInt_lss _ _ _) ?_
  refine cnd_d (fun hg16 => ?_) (fun hg16 => ?_)
  · skip
    have ti := hg16
    refine jn_i (fun σ' H' => σ' 0 = p ∧ σ' 1 = (.int .i64 (row)) ∧ σ' 2 = (.int .i64 (col)) ∧ σ' 3 = (.int .i64 (rows)) ∧ σ' 4 = (.int .i64 (cols)) ∧ σ' 10 = q ∧ σ' 11 = s ∧ σ' 12 = (.int .i64 ((i : Int))) ∧ Cel H' q [(.int .i64 (0)), (.int .i64 (0)), (.slice none 0 0)] ∧ Own eI H' u (fillL cols (cutG c l row col) (rows.toNat * cols.toNat) ((i + 1) * cols.toNat)) ∧ Cel H' s [(.int .i64 (rows)), (.int .i64 (cols)), u] ∧ Le H H') (fun σ17 H17 hP => ?_) (fun J17 hJ17 => ?_)
    · skip
      obtain ⟨g0L17, g1L17, g2L17, g3L17, g4L17, g10L17, g11L17, g12L17, oq, ou, os, lE⟩ := hP
      have hp := hp0.le lE
      have hvc := hvc0.le lE
      simp only [g10L17, g12L17]
      refine ob_i (vInt_add (by omega) (by omega)) ?_
      exact nxt (rows.toNat - (i + 1)) (by omega) ⟨i + 1, rfl, by omega, g0L17, g1L17, g2L17, g3L17, g4L17, g10L17, g11L17, rfl, oq, ou, os, lE⟩
    refine ⟨fun n' σ' H' => ∃ k : Nat, n' = cols.toNat - k ∧ k ≤ cols.toNat ∧ σ' 0 = p ∧ σ' 1 = (.int .i64 (row)) ∧ σ' 2 = (.int .i64 (col)) ∧ σ' 3 = (.int .i64 (rows)) ∧ σ' 4 = (.int .i64 (cols)) ∧ σ' 10 = q ∧ σ' 11 = s ∧ σ' 12 = (.int .i64 ((i : Int))) ∧ σ' 13 = (.int .i64 ((k : Int))) ∧ Cel H' q [(.int .i64 (0)), (.int .i64 (0)), (.slice none 0 0)] ∧ Own eI H' u (fillL cols (cutG c l row col) (rows.toNat * cols.toNat) (i * cols.toNat + k)) ∧ Cel H' s [(.int .i64 (rows)), (.int .i64 (cols)), u] ∧ Le H H',
      ⟨_, 0, rfl, by omega, g0L15, g1L15, g2L15, g3L15, g4L15, g10L15, g11L15, g12L15, rfl, oq, ou, os, lE⟩, ?_⟩
    rintro n18 σ18 H18 ⟨k, rfl, hkN, g0L18, g1L18, g2L18, g3L18, g4L18, g10L18, g11L18, g12L18, g13L18, oq, ou, os, lE⟩
    have hp := hp0.le lE
    have hvc := hvc0.le lE
    simp only [g0L18, g1L18, g2L18, g4L18, g10L18, g11L18, g12L18, g13L18]
    refine ob_i (vInt_lss _ _ _) ?_
    refine cnd_d (fun hg19 => ?_) (fun hg19 => ?_)
    · skip
      have tk := hg19
      have x1 := ix_lt (a := row + i) (b := col + k) (r := r) (c := c) (by omega) (by omega) (by omega) (by omega)
      have x2 := ix_lt (a := (i : Int)) (b := (k : Int)) (r := rows) (c := cols) (by omega) (by omega) (by omega) (by omega)
      have x3 := fillL_len (c := cols) (g := cutG c l row col) (rr := rows) (cc := cols) (t := i * cols.toNat + k) (by omega) (by omega)
      have x4 := sidesF_mul hs
      have x5 := ix_le (a := rows) (b := cols) (by omega) (by omega) (by omega) (by omega)
      refine ob_i (os.fa 2) ?_
      refine ob_i (os.ld 2 rfl) ?_
      refine ob_i (vInt_mul (by omega) (by omega)) ?_
      refine ob_i (vInt_add (by omega) (by omega)) ?_
      refine ob_i (hp.nilC) ?_
      refine ob_i (hp.fa 2) ?_
      refine ob_i (hp.ld 2 rfl) ?_
      refine ob_i (vInt_add (by omega) (by omega)) ?_
      refine ob_i (hp.nilC) ?_
      refine ob_i (hp.fa 1) ?_
      refine ob_i (hp.ld 1 rfl) ?_
      refine ob_i (vInt_mul (by omega) (by omega)) ?_
      refine ob_i (vInt_add (by omega) (by omega)) ?_
      refine ob_i (vInt_add (by omega) (by omega)) ?_
      refine ob_i (hvc.ix (by omega) (by omega)) ?_
      refine ob_i (hvc.ld 0 (by omega) (by omega)) ?_
      refine ob_i (ou.sl.ix (by omega) (by omega)) ?_
      refine ou.st (x := at_ 0 (l) ((((row + (i : Int)) * c) + col) + (k : Int))) (by omega) (by omega) rfl rfl (fun H20 ou off21 => ?_)
      replace oq := oq.off off21 aqXu
      replace os := os.off off21 auXs.symm
      replace hp := hp0.le (off21.le lE nu)
      replace hvc := hvc0.le (off21.le lE nu)
      replace lE := off21.le lE nu
      refine ob_i (vInt_add (by omega) (by omega)) ?_
      have e := fillL_set (c := cols) (g := cutG c l row col) (N := (rows.toNat * cols.toNat)) (i := i) (k := k) (t := i * cols.toNat + k) (by omega) (by omega) (by omega) (cast_ix (by omega)) (by omega)
      replace ou : Own eI H20 u (fillL cols (cutG c l row col) (rows.toNat * cols.toNat) (i * cols.toNat + (k + 1))) := by rw [← Nat.add_assoc, ← e]; exact ou
      exact nxt (cols.toNat - (k + 1)) (by omega) ⟨k + 1, rfl, by omega, g0L18, g1L18, g2L18, g3L18, g4L18, g10L18, g11L18, g12L18, rfl, oq, ou, os, lE⟩
    · skip
      have tk := hg19
      rw [show i * cols.toNat + k = (i + 1) * cols.toNat by rw [Nat.add_mul, Nat.one_mul]; omega] at ou
      exact hJ17 _ _ ⟨g0L18, g1L18, g2L18, g3L18, g4L18, g10L18, g11L18, g12L18, oq, ou, os, lE⟩
  · skip
    have ti := hg16
    rw [fillL_end (by rw [show i = rows.toNat by omega]; exact Nat.le_refl _)] at ou
    exact hJ12 _ _ ⟨g10L15, g11L15, oq, ou, os, lE⟩
theorem C.spec_l05Trim {p vc : Value} {r c : Int} {l : List Int} {H : Hp} {K : Value → Hp → Prop} (hp0 : Cel H p [.int .i64 r, .int .i64 c, vc]) (hvc0 : Sl eI H vc l) (hs : sidesF r c) (hl : (l.length : Int) = r * c)
    (hk1 : (trm r c l).2.1 < 0 → ∀ H', Le H H' → K (.tuple #[.agg #[.int .i64 0, .int .i64 0, .slice none 0 0], .int .i64 0, .int .i64 0, .bool false]) H')
    (hk2 : 0 ≤ (trm r c l).2.1 → ∀ u H', Own eI H' u (trL r c l) → Nw H u → Le H H' → K (.tuple #[.agg #[.int .i64 (trR r c l), .int .i64 (trC r c l), u], .int .i64 (trm r c l).1, .int .i64 (trm r c l).2.2.1, .bool true]) H') :
    HT prg I.spec_l05Trim [p].toArray H K := by
  have q1 := hs.1
  have q2 := hs.2
  have m := sidesF_mul hs
  change (trS r c l (r * c).toNat).2.1 < 0 → _ at hk1
  change 0 ≤ (trS r c l (r * c).toNat).2.1 → _ at hk2
  have lE := Le.refl H
  have hp := hp0
  have hvc := hvc0
  refine R.spec_l05Trim ?_
  unfold F.spec_l05Trim
  refine nw_i (fun q H1 oq nn2 le3 => ?_)
  have nq : Nw H q := nn2.le lE
  replace hp := hp.le le3
  replace hvc := hvc.le le3
  replace lE := lE.trans le3
  replace oq : Cel H1 q [(.int .i64 (0)), (.int .i64 (0)), (.slice none 0 0)] := oq
  refine ob_i (hp.nilC) ?_
  refine ob_i (hp.fa 0) ?_
  refine ob_i (hp.ld 0 rfl) ?_
  refine ob_i (hp.nilC) ?_
  refine ob_i (hp.fa 1) ?_
  refine ob_i (hp.ld 1 rfl) ?_
  refine jn_i (fun σ' H' => σ' 0 = p ∧ σ' 2 = q ∧ σ' 6 = (.int .i64 ((trS r c l ((r * c).toNat)).1)) ∧ σ' 7 = (.int .i64 ((trS r c l ((r * c).toNat)).2.1)) ∧ σ' 8 = (.int .i64 ((trS r c l ((r * c).toNat)).2.2.1)) ∧ σ' 9 = (.int .i64 ((trS r c l ((r * c).toNat)).2.2.2)) ∧ Cel H' q [(.int .i64 (0)), (.int .i64 (0)), (.slice none 0 0)] ∧ Le H H') (fun σ4 H4 hP => ?_) (fun J4 hJ4 => ?_)
  · skip
    obtain ⟨g0L4, g2L4, g6L4, g7L4, g8L4, g9L4, oq, lE⟩ := hP
    have hp := hp0.le lE
    have hvc := hvc0.le lE
    simp only [g0L4, g2L4, g6L4, g7L4, g8L4, g9L4]
    have b := trS_bnd (l := l) hs (r * c).toNat (by omega)
    have b2 := trS_ok (l := l) hs (r * c).toNat (by omega)
    refine ob_i (vInt_lss _ _ _) ?_
    refine cnd_d (fun hg5 => ?_) (fun hg5 => ?_)
    · skip
      refine ob_i (a := (.agg #[(.int .i64 (0)), (.int .i64 (0)), (.slice none 0 0)])) (by rfl) ?_
      refine oq.stn (ws := [(.int .i64 (0)), (.int .i64 (0)), (.slice none 0 0)]) rfl rfl (oc1 rfl (oc1 rfl (oc1 rfl oc0))) (fun H6 oq off7 => ?_)
      replace hp := hp0.le (off7.le lE nq)
      replace hvc := hvc0.le (off7.le lE nq)
      replace lE := off7.le lE nq
      replace oq : Cel H6 q [(.int .i64 (0)), (.int .i64 (0)), (.slice none 0 0)] := oq
      refine ob_i (oq.ldn rfl) ?_
      exact hk1 (by omega) _ lE
    · skip
      refine ob_i (vInt_sub (by omega) (by omega)) ?_
      refine ob_i (vInt_add (by omega) (by omega)) ?_
      refine ob_i (vInt_sub (by omega) (by omega)) ?_
      refine ob_i (vInt_add (by omega) (by omega)) ?_
      refine C.spec_l05Cut hp hvc hs hl (by omega) (by omega) (by omega) (by omega) (by omega) (by omega) (fun u10 H8 ou10 nn11  le9 => ?_)
      have aqXu10 : Apart q u10 := oq.apart nn11
      have nu10 : Nw H u10 := nn11.le lE
      replace oq := oq.le le9
      replace hp := hp.le le9
      replace hvc := hvc.le le9
      replace lE := lE.trans le9
      refine oq.stn (ws := [(.int .i64 ((((trS r c l ((r * c).toNat)).2.1) - ((trS r c l ((r * c).toNat)).1)) + 1)), (.int .i64 ((((trS r c l ((r * c).toNat)).2.2.2) - ((trS r c l ((r * c).toNat)).2.2.1)) + 1)), u10]) rfl rfl (oc1 rfl (oc1 rfl (oc1 ou10.one oc0))) (fun H12 oq off13 => ?_)
      replace ou10 := ou10.off off13 aqXu10.symm
      replace hp := hp0.le (off13.le lE nq)
      replace hvc := hvc0.le (off13.le lE nq)
      replace lE := off13.le lE nq
      replace oq : Cel H12 q [(.int .i64 ((((trS r c l ((r * c).toNat)).2.1) - ((trS r c l ((r * c).toNat)).1)) + 1)), (.int .i64 ((((trS r c l ((r * c).toNat)).2.2.2) - ((trS r c l ((r * c).toNat)).2.2.1)) + 1)), u10] := oq
      refine ob_i (oq.ldn rfl) ?_
      exact hk2 (by omega) u10 _ ou10 nu10 lE
  refine ⟨fun n' σ' H' => ∃ i : Nat, n' = r.toNat - i ∧ i ≤ r.toNat ∧ σ' 0 = p ∧ σ' 2 = q ∧ σ' 6 = (.int .i64 ((trS r c l (i * c.toNat)).1)) ∧ σ' 7 = (.int .i64 ((trS r c l (i * c.toNat)).2.1)) ∧ σ' 8 = (.int .i64 ((trS r c l (i * c.toNat)).2.2.1)) ∧ σ' 9 = (.int .i64 ((trS r c l (i * c.toNat)).2.2.2)) ∧ σ' 10 = (.int .i64 ((i : Int))) ∧ Cel H' q [(.int .i64 (0)), (.int .i64 (0)), (.slice none 0 0)] ∧ Le H H',
    ⟨_, 0, rfl, by omega, rfl, rfl, by rw [Nat.zero_mul]; rfl, by rw [Nat.zero_mul]; rfl, by rw [Nat.zero_mul]; rfl, by rw [Nat.zero_mul]; rfl, rfl, oq, lE⟩, ?_⟩
  rintro n14 σ14 H14 ⟨i, rfl, hiN, g0L14, g2L14, g6L14, g7L14, g8L14, g9L14, g10L14, oq, lE⟩
  have hp := hp0.le lE
  have hvc := hvc0.le lE
  simp only [g0L14, g2L14, g6L14, g7L14, g8L14, g9L14, g10L14]
  refine ob_i (hp.nilC) ?_
  refine ob_i (hp.fa 0) ?_
  refine ob_i (hp.ld 0 rfl) ?_
  refine ob_i (vInt_lss _ _ _) ?_
  refine cnd_d (fun hg15 => ?_) (fun hg15 => ?_)
  · skip
    have ti := hg15
    refine jn_i (fun σ' H' => σ' 0 = p ∧ σ' 2 = q ∧ σ' 6 = (.int .i64 ((trS r c l ((i + 1) * c.toNat)).1)) ∧ σ' 7 = (.int .i64 ((trS r c l ((i + 1) * c.toNat)).2.1)) ∧ σ' 8 = (.int .i64 ((trS r c l ((i + 1) * c.toNat)).2.2.1)) ∧ σ' 9 = (.int .i64 ((trS r c l ((i + 1) * c.toNat)).2.2.2)) ∧ σ' 10 = (.int .i64 ((i : Int))) ∧ Cel H' q [(.int .i64 (0)), (.int .i64 (0)), (.slice none 0 0)] ∧ Le H H') (fun σ16 H16 hP => ?_) (fun J16 hJ16 => ?_)
    · skip
      obtain ⟨g0L16, g2L16, g6L16, g7L16, g8L16, g9L16, g10L16, oq, lE⟩ := hP
      have hp := hp0.le lE
      have hvc := hvc0.le lE
      simp only [g2L16, g10L16]
      refine ob_i (vInt_add (by omega) (by omega)) ?_
      exact nxt (r.toNat - (i + 1)) (by omega) ⟨i + 1, rfl, by omega, g0L16, g2L16, g6L16, g7L16, g8L16, g9L16, rfl, oq, lE⟩
    refine ⟨fun n' σ' H' => ∃ k : Nat, n' = c.toNat - k ∧ k ≤ c.toNat ∧ σ' 0 = p ∧ σ' 2 = q ∧ σ' 6 = (.int .i64 ((trS r c l (i * c.toNat + k)).1)) ∧ σ' 7 = (.int .i64 ((trS r c l (i * c.toNat + k)).2.1)) ∧ σ' 8 = (.int .i64 ((trS r c l (i * c.toNat + k)).2.2.1)) ∧ σ' 9 = (.int .i64 ((trS r c l (i * c.toNat + k)).2.2.2)) ∧ σ' 10 = (.int .i64 ((i : Int))) ∧ σ' 11 = (.int .i64 ((k : Int))) ∧ Cel H' q [(.int .i64 (0)), (.int .i64 (0)), (.slice none 0 0)] ∧ Le H H',
      ⟨_, 0, rfl, by omega, g0L14, g2L14, g6L14, g7L14, g8L14, g9L14, g10L14, rfl, oq, lE⟩, ?_⟩
    rintro n17 σ17 H17 ⟨k, rfl, hkN, g0L17, g2L17, g6L17, g7L17, g8L17, g9L17, g10L17, g11L17, oq, lE⟩
    have hp := hp0.le lE
    have hvc := hvc0.le lE
    simp only [g0L17, g2L17, g6L17, g7L17, g8L17, g9L17, g10L17, g11L17]
    refine ob_i (hp.nilC) ?_
    refine ob_i (hp.fa 1) ?_
    refine ob_i (hp.ld 1 rfl) ?_
    refine ob_i (vInt_lss _ _ _) ?_
    refine cnd_d (fun hg18 => ?_) (fun hg18 => ?_)
    · skip
      have tk := hg18
      have x1 := ix_lt (a := (i : Int)) (b := (k : Int)) (r := r) (c := c) (by omega) (by omega) (by omega) (by omega)
      have x4 := sidesF_mul hs
      refine ob_i (hp.nilC) ?_
      refine ob_i (hp.fa 2) ?_
      refine ob_i (hp.ld 2 rfl) ?_
      refine ob_i (hp.nilC) ?_
      refine ob_i (hp.fa 1) ?_
      refine ob_i (hp.ld 1 rfl) ?_
      refine ob_i (vInt_mul (by omega) (by omega)) ?_
      refine ob_i (vInt_add (by omega) (by omega)) ?_
      refine ob_i (hvc.ix (by omega) (by omega)) ?_
      refine ob_i (hvc.ld 0 (by omega) (by omega)) ?_
      refine ob_i (vInt_eql _ _ _) ?_
      refine cnd_d (fun hg19 => ?_) (fun hg19 => ?_)
      · skip
        refine C.spec_l00Min  ?_
        refine C.spec_l00Max  ?_
        refine C.spec_l00Min  ?_
        refine C.spec_l00Max  ?_
        refine ob_i (vInt_add (by omega) (by omega)) ?_
        have eT := trS_t2 (r := r) (c := c) (i := (i : Int)) (k := (k : Int)) (t := i * c.toNat + k) (by omega) (by omega) (by omega) (cast_ix (by omega)) hg19
        exact nxt (c.toNat - (k + 1)) (by omega) ⟨k + 1, rfl, by omega, g0L17, g2L17, (by rw [← Nat.add_assoc, eT]; rfl), (by rw [← Nat.add_assoc, eT]; rfl), (by rw [← Nat.add_assoc, eT]; rfl), (by rw [← Nat.add_assoc, eT]; rfl), g10L17, rfl, oq, lE⟩
      · skip
        refine ob_i (vInt_add (by omega) (by omega)) ?_
        have eT := trS_f2 (r := r) (c := c) (i := (i : Int)) (k := (k : Int)) (t := i * c.toNat + k) (cast_ix (by omega)) hg19
        exact nxt (c.toNat - (k + 1)) (by omega) ⟨k + 1, rfl, by omega, g0L17, g2L17, (by rw [← Nat.add_assoc, eT]; exact g6L17), (by rw [← Nat.add_assoc, eT]; exact g7L17), (by rw [← Nat.add_assoc, eT]; exact g8L17), (by rw [← Nat.add_assoc, eT]; exact g9L17), g10L17, rfl, oq, lE⟩
    · skip
      have tk := hg18
      exact hJ16 _ _ ⟨g0L17, g2L17, (by rw [← show i * c.toNat + k = (i + 1) * c.toNat by rw [Nat.add_mul, Nat.one_mul]; congr 1; omega]; exact g6L17), (by rw [← show i * c.toNat + k = (i + 1) * c.toNat by rw [Nat.add_mul, Nat.one_mul]; congr 1; omega]; exact g7L17), (by rw [← show i * c.toNat + k = (i + 1) * c.toNat by rw [Nat.add_mul, Nat.one_mul]; congr 1; omega]; exact g8L17), (by rw [← show i * c.toNat + k = (i + 1) * c.toNat by rw [Nat.add_mul, Nat.one_mul]; congr 1; omega]; exact g9L17), g10L17, oq, lE⟩
  · skip
    have ti := hg15
    exact hJ4 _ _ ⟨g0L14, g2L14, (by rw [← show i * c.toNat = (r * c).toNat by rw [Int.toNat_mul (by omega) (by omega)]; congr 1; omega]; exact g6L14), (by rw [← show i * c.toNat = (r * c).toNat by rw [Int.toNat_mul (by omega) (by omega)]; congr 1; omega]; exact g7L14), (by rw [← show i * c.toNat = (r * c).toNat by rw [Int.toNat_mul (by omega) (by omega)]; congr 1; omega]; exact g8L14), (by rw [← show i * c.toNat = (r * c).toNat by rw [Int.toNat_mul (by omega) (by omega)]; congr 1; omega]; exact g9L14), oq, lE⟩
theorem C.impl_Field_cut_1 {p q s vc : Value} {r c row col i k : Int} {l : List Int} {H : Hp} {K : Value → Hp → Prop} (hp0 : Cel H p [.int .i64 r, .int .i64 c, vc]) (hq0 : Cel H q [.int .i64 row]) (hs0 : Cel H s [.int .i64 col]) (hvc0 : Sl eI H vc l) (hs : sidesF r c) (hl : (l.length : Int) = r * c)
    (h0 : 0 ≤ row + i) (h1 : 0 ≤ col + k) (h2 : row + i < r) (h3 : col + k < c) (hk : ∀ H', Le H H' → K (.int .i64 (cutG c l row col i k)) H') : HT prg I.impl_Field_cut_1 [.int .i64 i, .int .i64 k, p, q, s].toArray H K := by
  unfold cutG at hk
  have hs' := hs
  have lE := Le.refl H
  have hp := hp0
  have hq := hq0
  have hsx := hs0
  have hvc := hvc0
  refine R.impl_Field_cut_1 ?_
  unfold F.impl_Field_cut_1
  have x1 := ix_lt (a := row + i) (b := col + k) (r := r) (c := c) (by omega) (by omega) (by omega) (by omega)
  have m := sidesF_mul hs
  have q1 := hs.1
  have q2 := hs.2
  refine ob_i (hp.ldn rfl) ?_
  refine ob_i (hq.ld0 rfl) ?_
  refine ob_i (vInt_add (by omega) (by omega)) ?_
  refine ob_i (hsx.ld0 rfl) ?_
  refine ob_i (vInt_add (by omega) (by omega)) ?_
  refine C.impl_Field_at hvc (by omega) (by omega) (by omega) (by omega) (by omega) (fun H1 le2 => ?_)
  replace hp := hp.le le2
  replace hq := hq.le le2
  replace hsx := hsx.le le2
  replace hvc := hvc.le le2
  replace lE := lE.trans le2
  rw [show (row + i) * c + (col + k) = (row + i) * c + col + k by omega]
  exact hk _ lE
theorem C.impl_Field_cut {vc : Value} {r c row col rows cols : Int} {l : List Int} {H : Hp} {K : Value → Hp → Prop} (hvc0 : Sl eI H vc l) (hs : sidesF r c) (hl : (l.length : Int) = r * c)
    (h0 : 0 ≤ row) (h1 : 0 ≤ col) (h2 : 1 ≤ rows) (h3 : 1 ≤ cols) (h4 : row + rows ≤ r) (h5 : col + cols ≤ c) (hk : ∀ u H', Own eI H' u (mkL cols (cutG c l row col) (rows.toNat * cols.toNat)) → Nw H u → Le H H' → K (.agg #[.int .i64 rows, .int .i64 cols, u]) H') :
    HT prg I.impl_Field_cut [.agg #[.int .i64 r, .int .i64 c, vc], .int .i64 row, .int .i64 col, .int .i64 rows, .int .i64 cols].toArray H K := by
  have lE := Le.refl H
  have hvc := hvc0
  refine R.impl_Field_cut ?_
  unfold F.impl_Field_cut
  have q1 := hs.1
  have q2 := hs.2
  refine nw_i (fun p1 H2 op1 nn3 le4 => ?_)
  have np1 : Nw H p1 := nn3.le lE
  replace hvc := hvc.le le4
  replace lE := lE.trans le4
  replace op1 : Cel H2 p1 [(.int .i64 (r)), (.int .i64 (c)), vc] := op1
  refine nw_i (fun p5 H6 op5 nn7 le8 => ?_)
  have ap1Xp5 : Apart p1 p5 := op1.apart nn7
  have np5 : Nw H p5 := nn7.le lE
  replace op1 := op1.le le8
  replace hvc := hvc.le le8
  replace lE := lE.trans le8
  replace op5 : Cel H6 p5 [(.int .i64 (row))] := op5
  refine nw_i (fun p9 H10 op9 nn11 le12 => ?_)
  have ap1Xp9 : Apart p1 p9 := op1.apart nn11
  have ap5Xp9 : Apart p5 p9 := op5.apart nn11
  have np9 : Nw H p9 := nn11.le lE
  replace op1 := op1.le le12
  replace op5 := op5.le le12
  replace hvc := hvc.le le12
  replace lE := lE.trans le12
  replace op9 : Cel H10 p9 [(.int .i64 (col))] := op9
  refine nw_i (fun p13 H14 op13 nn15 le16 => ?_)
  have ap1Xp13 : Apart p1 p13 := op1.apart nn15
  have ap5Xp13 : Apart p5 p13 := op5.apart nn15
  have ap9Xp13 : Apart p9 p13 := op9.apart nn15
  have np13 : Nw H p13 := nn15.le lE
  replace op1 := op1.le le16
  replace op5 := op5.le le16
  replace op9 := op9.le le16
  replace hvc := hvc.le le16
  replace lE := lE.trans le16
  replace op13 : Cel H14 p13 [(.int .i64 (0)), (.int .i64 (0)), (.slice none 0 0)] := op13
  refine C.impl_madeField (g := cutG c l row col) (by omega) (by omega) (by omega) (by omega) (fun H' i k Z le hi hk' hZ => ?_) (fun u17 H18 ou17 nn19 le20 => ?_)
  · refine ⟨by kernel_rfl, ?_⟩
    exact C.impl_Field_cut_1 (op1.le le) (op5.le le) (op9.le le) (hvc.le le) hs hl (by omega) (by omega) (by omega) (by omega) hZ
  have ap1Xu17 : Apart p1 u17 := op1.apart nn19
  have ap5Xu17 : Apart p5 u17 := op5.apart nn19
  have ap9Xu17 : Apart p9 u17 := op9.apart nn19
  have ap13Xu17 : Apart p13 u17 := op13.apart nn19
  have nu17 : Nw H u17 := nn19.le lE
  replace op1 := op1.le le20
  replace op5 := op5.le le20
  replace op9 := op9.le le20
  replace op13 := op13.le le20
  replace hvc := hvc.le le20
  replace lE := lE.trans le20
  refine op13.stn (ws := [(.int .i64 (rows)), (.int .i64 (cols)), u17]) rfl rfl (oc1 rfl (oc1 rfl (oc1 ou17.one oc0))) (fun H21 op13 off22 => ?_)
  replace op1 := op1.off off22 ap1Xp13
  replace op5 := op5.off off22 ap5Xp13
  replace op9 := op9.off off22 ap9Xp13
  replace ou17 := ou17.off off22 ap13Xu17.symm
  replace hvc := hvc0.le (off22.le lE np13)
  replace lE := off22.le lE np13
  replace op13 : Cel H21 p13 [(.int .i64 (rows)), (.int .i64 (cols)), u17] := op13
  refine ob_i (op13.ldn rfl) ?_
  exact hk u17 _ ou17 nu17 lE
theorem C.impl_Field_trimmed {vc : Value} {r c : Int} {l : List Int} {H : Hp} {K : Value → Hp → Prop} (hvc0 : Sl eI H vc l) (hs : sidesF r c) (hl : (l.length : Int) = r * c)
    (hk1 : (trm r c l).2.1 < 0 → ∀ H', Le H H' → K (.tuple #[.agg #[.int .i64 0, .int .i64 0, .slice none 0 0], .int .i64 0, .int .i64 0, .bool false]) H')
    (hk2 : 0 ≤ (trm r c l).2.1 → ∀ u H', Own eI H' u (trL r c l) → Nw H u → Le H H' → K (.tuple #[.agg #[.int .i64 (trR r c l), .int .i64 (trC r c l), u], .int .i64 (trm r c l).1, .int .i64 (trm r c l).2.2.1, .bool true]) H') :
    HT prg I.impl_Field_trimmed [.agg #[.int .i64 r, .int .i64 c, vc]].toArray H K := by
  have q1 := hs.1
  have q2 := hs.2
  have m := sidesF_mul hs
  change (trS r c l (r * c).toNat).2.1 < 0 → _ at hk1
  change 0 ≤ (trS r c l (r * c).toNat).2.1 → _ at hk2
  have lE := Le.refl H
  have hvc := hvc0
  refine R.impl_Field_trimmed ?_
  unfold F.impl_Field_trimmed
  refine nw_i (fun p H1 op nn2 le3 => ?_)
  have np : Nw H p := nn2.le lE
  replace hvc := hvc.le le3
  replace lE := lE.trans le3
  replace op : Cel H1 p [(.int .i64 (r)), (.int .i64 (c)), vc] := op
  refine nw_i (fun q H4 oq nn5 le6 => ?_)
  have apXq : Apart p q := op.apart nn5
  have nq : Nw H q := nn5.le lE
  replace op := op.le le6
  replace hvc := hvc.le le6
  replace lE := lE.trans le6
  replace oq : Cel H4 q [(.int .i64 (0)), (.int .i64 (0)), (.slice none 0 0)] := oq
  refine ob_i (op.fa 0) ?_
  refine ob_i (op.ld 0 rfl) ?_
  refine ob_i (op.fa 1) ?_
  refine ob_i (op.ld 1 rfl) ?_
  refine jn_i (fun σ' H' => σ' 1 = p ∧ σ' 2 = q ∧ σ' 6 = (.int .i64 ((trS r c l ((r * c).toNat)).1)) ∧ σ' 7 = (.int .i64 ((trS r c l ((r * c).toNat)).2.2.1)) ∧ σ' 8 = (.int .i64 ((trS r c l ((r * c).toNat)).2.1)) ∧ σ' 9 = (.int .i64 ((trS r c l ((r * c).toNat)).2.2.2)) ∧ Cel H' p [(.int .i64 (r)), (.int .i64 (c)), vc] ∧ Cel H' q [(.int .i64 (0)), (.int .i64 (0)), (.slice none 0 0)] ∧ Le H H') (fun σ7 H7 hP => ?_) (fun J7 hJ7 => ?_)
  · skip
    obtain ⟨g1L7, g2L7, g6L7, g7L7, g8L7, g9L7, op, oq, lE⟩ := hP
    have hvc := hvc0.le lE
    simp only [g1L7, g2L7, g6L7, g7L7, g8L7, g9L7]
    have b := trS_bnd (l := l) hs (r * c).toNat (by omega)
    have b2 := trS_ok (l := l) hs (r * c).toNat (by omega)
    refine ob_i (vInt_lss _ _ _) ?_
    refine cnd_d (fun hg8 => ?_) (fun hg8 => ?_)
    · skip
      refine ob_i (a := (.agg #[(.int .i64 (0)), (.int .i64 (0)), (.slice none 0 0)])) (by rfl) ?_
      refine oq.stn (ws := [(.int .i64 (0)), (.int .i64 (0)), (.slice none 0 0)]) rfl rfl (oc1 rfl (oc1 rfl (oc1 rfl oc0))) (fun H9 oq off10 => ?_)
      replace op := op.off off10 apXq
      replace hvc := hvc0.le (off10.le lE nq)
      replace lE := off10.le lE nq
      replace oq : Cel H9 q [(.int .i64 (0)), (.int .i64 (0)), (.slice none 0 0)] := oq
      refine ob_i (oq.ldn rfl) ?_
      exact hk1 (by omega) _ lE
    · skip
      refine ob_i (op.ldn rfl) ?_
      refine ob_i (vInt_sub (by omega) (by omega)) ?_
      refine ob_i (vInt_add (by omega) (by omega)) ?_
      refine ob_i (vInt_sub (by omega) (by omega)) ?_
      refine ob_i (vInt_add (by omega) (by omega)) ?_
      refine C.impl_Field_cut hvc hs hl (by omega) (by omega) (by omega) (by omega) (by omega) (by omega) (fun u13 H11 ou13 nn14  le12 => ?_)
      have apXu13 : Apart p u13 := op.apart nn14
      have aqXu13 : Apart q u13 := oq.apart nn14
      have nu13 : Nw H u13 := nn14.le lE
      replace op := op.le le12
      replace oq := oq.le le12
      replace hvc := hvc.le le12
      replace lE := lE.trans le12
      refine oq.stn (ws := [(.int .i64 ((((trS r c l ((r * c).toNat)).2.1) - ((trS r c l ((r * c).toNat)).1)) + 1)), (.int .i64 ((((trS r c l ((r * c).toNat)).2.2.2) - ((trS r c l ((r * c).toNat)).2.2.1)) + 1)), u13]) rfl rfl (oc1 rfl (oc1 rfl (oc1 ou13.one oc0))) (fun H15 oq off16 => ?_)
      replace op := op.off off16 apXq
      replace ou13 := ou13.off off16 aqXu13.symm
      replace hvc := hvc0.le (off16.le lE nq)
      replace lE := off16.le lE nq
      replace oq : Cel H15 q [(.int .i64 ((((trS r c l ((r * c).toNat)).2.1) - ((trS r c l ((r * c).toNat)).1)) + 1)), (.int .i64 ((((trS r c l ((r * c).toNat)).2.2.2) - ((trS r c l ((r * c).toNat)).2.2.1)) + 1)), u13] := oq
      refine ob_i (oq.ldn rfl) ?_
      exact hk2 (by omega) u13 _ ou13 nu13 lE
  refine ob_i (op.fa 2) ?_
  refine ob_i (op.ld 2 rfl) ?_
  refine ob_i (hvc.len) ?_
  refine ⟨fun n' σ' H' => ∃ t : Nat, n' = l.length - t ∧ t ≤ l.length ∧ σ' 1 = p ∧ σ' 2 = q ∧ σ' 6 = (.int .i64 ((trS r c l (t)).1)) ∧ σ' 7 = (.int .i64 ((trS r c l (t)).2.2.1)) ∧ σ' 8 = (.int .i64 ((trS r c l (t)).2.1)) ∧ σ' 9 = (.int .i64 ((trS r c l (t)).2.2.2)) ∧ σ' 19 = vc ∧ σ' 20 = (.int .i64 (((l).length : Int))) ∧ σ' 21 = (.int .i64 ((t : Int))) ∧ Cel H' p [(.int .i64 (r)), (.int .i64 (c)), vc] ∧ Cel H' q [(.int .i64 (0)), (.int .i64 (0)), (.slice none 0 0)] ∧ Le H H',
    ⟨_, 0, rfl, by omega, rfl, rfl, rfl, rfl, rfl, rfl, rfl, rfl, rfl, op, oq, lE⟩, ?_⟩
  rintro n17 σ17 H17 ⟨t, rfl, htN, g1L17, g2L17, g6L17, g7L17, g8L17, g9L17, g19L17, g20L17, g21L17, op, oq, lE⟩
  have hvc := hvc0.le lE
  simp only [g1L17, g2L17, g6L17, g7L17, g8L17, g9L17, g19L17, g20L17, g21L17]
  refine ob_i (vInt_lss _ _ _) ?_
  refine cnd_d (fun hg18 => ?_) (fun hg18 => ?_)
  · skip
    have tt := hg18
    refine ob_i (hvc.ix (by omega) (by omega)) ?_
    refine ob_i (hvc.ld 0 (by omega) (by omega)) ?_
    refine ob_i (vInt_eql _ _ _) ?_
    refine cnd_d (fun hg19 => ?_) (fun hg19 => ?_)
    · skip
      refine ob_i (op.fa 1) ?_
      refine ob_i (op.ld 1 rfl) ?_
      refine ob_i (vInt_quoN (by omega) (by omega) (by omega)) ?_
      refine ob_i (op.fa 1) ?_
      refine ob_i (op.ld 1 rfl) ?_
      refine ob_i (vInt_remN (by omega) (by omega)) ?_
      refine ob_i (vMx_min _ _ _) ?_
      refine ob_i (vMx_min _ _ _) ?_
      refine ob_i (vMx_max _ _ _) ?_
      refine ob_i (vMx_max _ _ _) ?_
      refine ob_i (vInt_add (by omega) (by omega)) ?_
      have eT := trS_t (r := r) (c := c) hg19
      exact nxt (l.length - (t + 1)) (by omega) ⟨t + 1, rfl, by omega, g1L17, g2L17, (by rw [eT]; rfl), (by rw [eT]; rfl), (by rw [eT]; rfl), (by rw [eT]; rfl), g19L17, g20L17, rfl, op, oq, lE⟩
    · skip
      refine ob_i (vInt_add (by omega) (by omega)) ?_
      have eT := trS_f (r := r) (c := c) hg19
      exact nxt (l.length - (t + 1)) (by omega) ⟨t + 1, rfl, by omega, g1L17, g2L17, (by rw [eT]; exact g6L17), (by rw [eT]; exact g7L17), (by rw [eT]; exact g8L17), (by rw [eT]; exact g9L17), g19L17, g20L17, rfl, op, oq, lE⟩
  · skip
    have tt := hg18
    exact hJ7 _ _ ⟨g1L17, g2L17, (by rw [← show t = (r * c).toNat by omega]; exact g6L17), (by rw [← show t = (r * c).toNat by omega]; exact g7L17), (by rw [← show t = (r * c).toNat by omega]; exact g8L17), (by rw [← show t = (r * c).toNat by omega]; exact g9L17), op, oq, lE⟩
end Go.Proofs.YthocjpfibegjcaaGreatDoor
/- Life on fields: what a step and many steps come to. -/
namespace Go.Proofs.YthocjpfibegjcaaGreatDoor
open HL
set_option maxRecDepth 100000
/-- Numbers that rise, the first n of them. -/
def cntU (l : List Int) (n : Nat) : Prop := ∀ j : Nat, j < n → 0 < j → at_ 0 l ((j : Int) - 1) < at_ 0 l (j : Int)
def cntV (l : List Int) (n : Nat) : Prop := ∀ j : Nat, j < n → 0 ≤ at_ 0 l (j : Int) ∧ at_ 0 l (j : Int) ≤ 8
/-- Counts of neighbours. -/
def cntP (l : List Int) : Prop := (∀ x ∈ l, 0 ≤ x ∧ x ≤ 8) ∧ cntU l l.length
instance (l : List Int) (n : Nat) : Decidable (cntU l n) := by unfold cntU; infer_instance
instance (l : List Int) : Decidable (cntP l) := by unfold cntP; infer_instance
theorem cntU_zero (l : List Int) : cntU l 0 := fun j h => by omega
theorem cntU_one (l : List Int) : cntU l 1 := fun j h h0 => by omega
theorem cntV_zero (l : List Int) : cntV l 0 := fun j h => by omega
theorem cntU_succ {l : List Int} {n : Nat} (h : cntU l n) (h1 : 0 < n → at_ 0 l ((n : Int) - 1) < at_ 0 l (n : Int)) : cntU l (n + 1) := fun j hj h0 => by
  by_cases e : j = n
  · subst e; exact h1 h0
  · exact h j (by omega) h0
theorem cntV_succ {l : List Int} {n : Nat} (h : cntV l n) (h1 : 0 ≤ at_ 0 l (n : Int) ∧ at_ 0 l (n : Int) ≤ 8) : cntV l (n + 1) := fun j hj => by
  by_cases e : j = n
  · subst e; exact h1
  · exact h j (by omega)
theorem cntV_all {l : List Int} {n : Nat} (h : cntV l n) (hn : l.length ≤ n) : ∀ x ∈ l, 0 ≤ x ∧ x ≤ 8 := fun x hx => by
  obtain ⟨j, hj, rfl⟩ := List.mem_iff_getElem.mp hx
  have := h j (by omega)
  rw [at_eq 0 l hj] at this
  exact this
theorem cntP_in {l : List Int} (h : cntP l) {j : Nat} (hj : j < l.length) : 0 ≤ at_ 0 l (j : Int) ∧ at_ 0 l (j : Int) ≤ 8 := h.1 _ (at_mem 0 l (by omega) (by omega))
theorem cntP_up {l : List Int} (h : cntP l) {j : Nat} (hj : j < l.length) (h0 : 0 < j) : at_ 0 l ((j : Int) - 1) < at_ 0 l (j : Int) := h.2 j hj h0
theorem cntU_full {l : List Int} {n : Nat} (h : cntU l n) (hn : l.length ≤ n) : cntU l l.length := fun j hj h0 => h j (by omega) h0
/-- Is a life valid? -/
def lifP (b s : List Int) : Prop := cntP b ∧ cntP s
instance (b s : List Int) : Decidable (lifP b s) := by unfold lifP; infer_instance
/-- Can a field live? -/
def canP (b s : List Int) (r c : Int) (l : List Int) : Prop := lifP b s ∧ fieldN 1 r c l
instance (b s : List Int) (r c : Int) (l : List Int) : Decidable (canP b s r c l) := by unfold canP; infer_instance
def sumF (f : Int → Int) : Nat → Int
  | 0 => 0
  | n + 1 => sumF f n + f n
theorem sumF_zero (f : Int → Int) : sumF f 0 = 0 := rfl
theorem sumF_succ (f : Int → Int) (n : Nat) : sumF f (n + 1) = sumF f n + f n := rfl
theorem sumF_3 (f : Int → Int) : sumF f 3 = f 0 + f 1 + f 2 := by
  show 0 + f ((0 : Nat) : Int) + f ((1 : Nat) : Int) + f ((2 : Nat) : Int) = _
  simp
theorem sumF_bnd {f : Int → Int} {a b : Int} (h : ∀ i, a ≤ f i ∧ f i ≤ b) : ∀ n : Nat, (n : Int) * a ≤ sumF f n ∧ sumF f n ≤ (n : Int) * b
  | 0 => by simp [sumF]
  | n + 1 => by
    have h1 := sumF_bnd h n
    have h2 := h n
    simp only [sumF, Int.natCast_add, Int.add_mul]
    omega
/-- A cell, round and round, or 0 beyond the border. -/
def lkF (rnd : Bool) (r c : Int) (l : List Int) (i k : Int) : Int := if rnd then at_ 0 l (roundF r c i k) else flatF r c l i k
/-- The same, but 0 for one cell. -/
def skF (rnd : Bool) (r c : Int) (l : List Int) (i k a b : Int) : Int := if a = i ∧ b = k then 0 else lkF rnd r c l a b
/-- The neighbours of a cell that are 1. -/
def arF (rnd : Bool) (r c : Int) (l : List Int) (i k : Int) : Int := sumF (fun a => sumF (fun b => skF rnd r c l i k (i - 1 + a) (k - 1 + b)) 3) 3
theorem roundF_in {r c i k : Int} (h1 : 0 ≤ i) (h2 : i < r) (h3 : 0 ≤ k) (h4 : k < c) : roundF r c i k = i * c + k := by
  unfold roundF
  rw [Int.emod_eq_of_lt h1 h2, Int.emod_eq_of_lt h3 h4]
theorem lkF_in {rnd : Bool} {r c i k : Int} {l : List Int} (h1 : 0 ≤ i) (h2 : i < r) (h3 : 0 ≤ k) (h4 : k < c) : lkF rnd r c l i k = at_ 0 l (i * c + k) := by
  unfold lkF
  rw [roundF_in h1 h2 h3 h4]
  split
  · rfl
  · unfold flatF; rw [if_pos (by omega)]
theorem lkF_01 {rnd : Bool} {r c : Int} {l : List Int} (h : fieldN 1 r c l) (i k : Int) : 0 ≤ lkF rnd r c l i k ∧ lkF rnd r c l i k ≤ 1 := by
  unfold lkF
  split
  · have b := roundF_lt (i := i) (k := k) h.1
    exact fieldN_at h (by omega) (by omega)
  · unfold flatF
    split
    · rename_i h1
      have b := ix_lt (a := i) (b := k) (r := r) (c := c) (by omega) (by omega) (by omega) (by omega)
      exact fieldN_at h (by omega) (by omega)
    · omega
theorem skF_01 {rnd : Bool} {r c : Int} {l : List Int} (h : fieldN 1 r c l) (i k a b : Int) : 0 ≤ skF rnd r c l i k a b ∧ skF rnd r c l i k a b ≤ 1 := by
  unfold skF
  split
  · omega
  · exact lkF_01 h a b
theorem skF_eq {rnd : Bool} {r c : Int} {l : List Int} {i k a b : Int} : skF rnd r c l i k a b = if a = i ∧ b = k then 0 else if rnd = true ∨ ((0 ≤ a ∧ a ≤ r - 1) ∧ 0 ≤ b ∧ b ≤ c - 1) then at_ 0 l (roundF r c a b) else 0 := by
  unfold skF lkF flatF
  split
  · rfl
  · cases rnd with
    | true => simp
    | false =>
      simp only [Bool.false_eq_true, if_false, false_or]
      split
      · rename_i h; rw [roundF_in (by omega) (by omega) (by omega) (by omega)]
      · rfl
theorem arF_eq {rnd : Bool} {r c : Int} {l : List Int} {i k : Int} (h1 : 0 ≤ i) (h2 : i < r) (h3 : 0 ≤ k) (h4 : k < c) :
    -at_ 0 l (i * c + k) + sumF (fun a => sumF (fun b => lkF rnd r c l (i - 1 + a) (k - 1 + b)) 3) 3 = arF rnd r c l i k := by
  have e := lkF_in (rnd := rnd) (l := l) h1 h2 h3 h4
  unfold arF
  simp only [sumF_3, skF]
  rw [if_neg (by omega), if_neg (by omega), if_neg (by omega), if_neg (by omega), if_pos (by omega), if_neg (by omega), if_neg (by omega), if_neg (by omega), if_neg (by omega)]
  rw [show i - 1 + 1 = i by omega, show k - 1 + 1 = k by omega, e]
  omega
/-- What a cell becomes. -/
def nxG (rnd : Bool) (b s : List Int) (r c : Int) (l : List Int) (i k : Int) : Int :=
  if at_ 0 l (i * c + k) = 0 then (if arF rnd r c l i k ∈ b then 1 else 0) else (if arF rnd r c l i k ∈ s then 1 else 0)
section
variable {rnd : Bool} {b s : List Int} {r c i k : Int} {l : List Int}
theorem nx_b1 (h : at_ 0 l (i * c + k) = 0) (h2 : arF rnd r c l i k ∈ b) : nxG rnd b s r c l i k = 1 := by unfold nxG; rw [if_pos h, if_pos h2]
theorem nx_b0 (h : at_ 0 l (i * c + k) = 0) (h2 : arF rnd r c l i k ∉ b) : nxG rnd b s r c l i k = 0 := by unfold nxG; rw [if_pos h, if_neg h2]
theorem nx_s1 (h : at_ 0 l (i * c + k) = 1) (h2 : arF rnd r c l i k ∈ s) : nxG rnd b s r c l i k = 1 := by unfold nxG; rw [if_neg (by omega), if_pos h2]
theorem nx_s0 (h : at_ 0 l (i * c + k) = 1) (h2 : arF rnd r c l i k ∉ s) : nxG rnd b s r c l i k = 0 := by unfold nxG; rw [if_neg (by omega), if_neg h2]
end
/-- The next field. -/
def nxL (rnd : Bool) (b s : List Int) (r c : Int) (l : List Int) : List Int := mkL c (nxG rnd b s r c l) (r.toNat * c.toNat)
theorem nxG_01 (rnd : Bool) (b s : List Int) (r c : Int) (l : List Int) (i k : Int) : 0 ≤ nxG rnd b s r c l i k ∧ nxG rnd b s r c l i k ≤ 1 := by
  unfold nxG
  split <;> split <;> omega
theorem mkL_len' {c : Int} {g : Int → Int → Int} {rr cc : Int} (h1 : 0 ≤ rr) (h2 : 0 ≤ cc) : ((mkL c g (rr.toNat * cc.toNat)).length : Int) = rr * cc := by
  rw [mkL_length, Int.natCast_mul, Int.toNat_of_nonneg h1, Int.toNat_of_nonneg h2]
theorem mkL_field {n r c : Int} {g : Int → Int → Int} (h : sidesF r c) (hg : ∀ i k, 0 ≤ g i k ∧ g i k ≤ n) : fieldN n r c (mkL c g (r.toNat * c.toNat)) := by
  have q1 := h.1
  have q2 := h.2
  refine ⟨h, mkL_len' (by omega) (by omega), fun x hx => ?_⟩
  simp only [mkL, List.mem_map] at hx
  obtain ⟨j, _, rfl⟩ := hx
  exact hg _ _
theorem nxL_field {rnd : Bool} {b s : List Int} {r c : Int} {l : List Int} (h : sidesF r c) : fieldN 1 r c (nxL rnd b s r c l) := mkL_field h (nxG_01 rnd b s r c l)
/-- The field behind steps. -/
def rnL (rnd : Bool) (b s : List Int) (r c : Int) (l : List Int) : Nat → List Int
  | 0 => l
  | n + 1 => nxL rnd b s r c (rnL rnd b s r c l n)
theorem rnL_zero (rnd : Bool) (b s : List Int) (r c : Int) (l : List Int) : rnL rnd b s r c l 0 = l := rfl
theorem rnL_succ (rnd : Bool) (b s : List Int) (r c : Int) (l : List Int) (n : Nat) : rnL rnd b s r c l (n + 1) = nxL rnd b s r c (rnL rnd b s r c l n) := rfl
theorem rnL_field {rnd : Bool} {b s : List Int} {r c : Int} {l : List Int} (h : fieldN 1 r c l) : ∀ n, fieldN 1 r c (rnL rnd b s r c l n)
  | 0 => h
  | _ + 1 => nxL_field h.1
theorem fillL_skip {c : Int} {g : Int → Int → Int} {N : Nat} {i k : Int} {t : Nat} (hc : 0 < c) (k0 : 0 ≤ k) (k1 : k < c) (ht : (t : Int) = i * c + k) (h : g i k = 0) : fillL c g N t = fillL c g N (t + 1) := by
  have hd := divmod (c := c) (i := i) (k := k) hc k0 k1
  unfold fillL
  apply List.map_congr_left
  intro j _
  by_cases e : j = t
  · subst e
    rw [if_neg (by omega), if_pos (by omega), ht, hd.1, hd.2, h]
  · by_cases h1 : j < t
    · rw [if_pos h1, if_pos (by omega)]
    · rw [if_neg h1, if_neg (by omega)]
theorem notin_succ {x : Int} {l : List Int} {i : Nat} (h : x ∉ l.take i) (hi : i < l.length) (hne : ¬ at_ 0 l (i : Int) = x) : x ∉ l.take (i + 1) := by
  rw [take_at 0 l hi]
  intro hh
  rcases List.mem_append.mp hh with hh | hh
  · exact h hh
  · simp only [List.mem_singleton] at hh; exact hne hh.symm
/-- Where a number stands first, or -1. -/
def idxL (x : Int) (l : List Int) : Int := if x ∈ l then (l.findIdx (· == x) : Nat) else -1
theorem idxL_not {x : Int} {l : List Int} (h : x ∉ l) : idxL x l = -1 := if_neg h
theorem idxL_mem {x : Int} {l : List Int} : 0 ≤ idxL x l ↔ x ∈ l := by
  unfold idxL
  split
  · rename_i h; simp [h]
  · rename_i h; simp [h]
theorem idxL_at {x : Int} {l : List Int} {i : Nat} (h : x ∉ l.take i) (hi : i < l.length) (he : at_ 0 l (i : Int) = x) : idxL x l = (i : Int) := by
  rw [at_eq 0 l hi] at he
  unfold idxL
  rw [if_pos (he ▸ List.getElem_mem hi)]
  congr 1
  rw [List.findIdx_eq hi]
  refine ⟨by simp [he], fun j hj => ?_⟩
  simp only [beq_eq_false_iff_ne, ne_eq]
  intro hh
  exact h (List.mem_iff_getElem.mpr ⟨j, by simp; omega, by simp [hh]⟩)
/-- How many cells have a state. -/
def cntE (v : Int) (l : List Int) : Int := l.countP (· == v)
def sumL : List Int → Int
  | [] => 0
  | x :: r => x + sumL r
theorem sumL_append (a b : List Int) : sumL (a ++ b) = sumL a + sumL b := by
  induction a with
  | nil => simp [sumL]
  | cons x r ih => simp only [List.cons_append, sumL, ih]; omega
theorem cntE_take {v : Int} {l : List Int} {i : Nat} (h : i < l.length) : cntE v (l.take (i + 1)) = cntE v (l.take i) + (if at_ 0 l (i : Int) = v then 1 else 0) := by
  unfold cntE
  rw [take_at 0 l h, List.countP_append]
  simp only [List.countP_cons, List.countP_nil, beq_iff_eq, Nat.zero_add]
  split <;> simp
theorem sumL_take {l : List Int} {i : Nat} (h : i < l.length) : sumL (l.take (i + 1)) = sumL (l.take i) + at_ 0 l (i : Int) := by
  rw [take_at 0 l h, sumL_append]; simp [sumL]
theorem cntE_one : ∀ {l : List Int}, (∀ x ∈ l, 0 ≤ x ∧ x ≤ 1) → cntE 1 l = sumL l
  | [], _ => rfl
  | x :: r, h => by
    have h1 := h x (by simp)
    have ih := cntE_one (l := r) (fun y hy => h y (by simp [hy]))
    unfold cntE at ih ⊢
    simp only [sumL, List.countP_cons, Int.natCast_add, beq_iff_eq]
    split
    · simp; omega
    · simp; omega
theorem cntE_bnd (v : Int) (l : List Int) : 0 ≤ cntE v l ∧ cntE v l ≤ l.length := by
  unfold cntE
  have := List.countP_le_length (p := (· == v)) (l := l)
  omega
theorem sumL_bnd {l : List Int} {m : Int} (h : ∀ x ∈ l, 0 ≤ x ∧ x ≤ m) : 0 ≤ sumL l ∧ sumL l ≤ l.length * m := by
  induction l with
  | nil => simp [sumL]
  | cons x r ih =>
    have h1 := h x (by simp)
    have h2 := ih (fun y hy => h y (by simp [hy]))
    simp only [sumL, List.length_cons, Int.natCast_add, Int.add_mul]
    omega
end Go.Proofs.YthocjpfibegjcaaGreatDoor
/- What is found first; counts ahead; shifted fields. -/
namespace Go.Proofs.YthocjpfibegjcaaGreatDoor
open HL
/-- The first number below N of which something holds, or -1. -/
def fstN (p : Nat → Prop) [DecidablePred p] : Nat → Int
  | 0 => -1
  | n + 1 => if 0 ≤ fstN p n then fstN p n else if p n then (n : Int) else -1
theorem fstN_none {p : Nat → Prop} [DecidablePred p] : ∀ {N : Nat}, (∀ t, t < N → ¬ p t) → fstN p N = -1
  | 0, _ => rfl
  | n + 1, h => by
    have ih := fstN_none (p := p) (N := n) (fun t ht => h t (by omega))
    simp only [fstN, ih]
    rw [if_neg (by omega), if_neg (h n (by omega))]
theorem fstN_at {p : Nat → Prop} [DecidablePred p] {t : Nat} (hp : p t) (h : ∀ s, s < t → ¬ p s) : ∀ {N : Nat}, t < N → fstN p N = (t : Int)
  | 0, ht => by omega
  | n + 1, ht => by
    by_cases e : t = n
    · subst e
      simp only [fstN, fstN_none h]
      rw [if_neg (by omega), if_pos hp]
    · have ih := fstN_at hp h (N := n) (by omega)
      simp only [fstN, ih]
      rw [if_pos (by omega)]
theorem fstN_lt {p : Nat → Prop} [DecidablePred p] : ∀ {N : Nat}, fstN p N < N ∧ -1 ≤ fstN p N
  | 0 => by simp [fstN]
  | n + 1 => by
    have ih := fstN_lt (p := p) (N := n)
    simp only [fstN]
    split
    · omega
    · split <;> omega
/-- The counts behind each of some steps. -/
def caL (rnd : Bool) (b s : List Int) (r c : Int) (l : List Int) (n : Nat) : List Int := (List.range (n + 1)).map fun j => cntE 1 (rnL rnd b s r c l j)
theorem caL_succ (rnd : Bool) (b s : List Int) (r c : Int) (l : List Int) (n : Nat) : caL rnd b s r c l n ++ [cntE 1 (nxL rnd b s r c (rnL rnd b s r c l n))] = caL rnd b s r c l (n + 1) := by
  unfold caL
  rw [List.range_succ (n := n + 1), List.map_append]; rfl
theorem caL_len (rnd : Bool) (b s : List Int) (r c : Int) (l : List Int) (n : Nat) : (caL rnd b s r c l n).length = n + 1 := by simp [caL]
theorem field_01 {r c : Int} {l : List Int} (h : fieldN 1 r c l) : ∀ x ∈ l, 0 ≤ x ∧ x ≤ 1 := h.2.2
/-- A shifted field. -/
def shG (r c : Int) (l : List Int) (a b i k : Int) : Int := at_ 0 l (roundF r c (i - a) (k - b))
def shL (r c : Int) (l : List Int) (a b : Int) : List Int := mkL c (shG r c l a b) (r.toNat * c.toNat)
/-- A place of a shift: steps, rows and columns in one number. -/
def mvP (b s : List Int) (r c : Int) (l : List Int) (t : Nat) : Prop :=
  cntE 1 (rnL true b s r c l (t / c.toNat / r.toNat + 1)) = cntE 1 l ∧ rnL true b s r c l (t / c.toNat / r.toNat + 1) = shL r c l ((t / c.toNat % r.toNat : Nat) : Int) ((t % c.toNat : Nat) : Int)
instance (b s : List Int) (r c : Int) (l : List Int) : DecidablePred (mvP b s r c l) := fun t => by unfold mvP; infer_instance
theorem tri {n i k r c : Nat} (hi : i < r) (hk : k < c) : ((n * r + i) * c + k) / c / r = n ∧ ((n * r + i) * c + k) / c % r = i ∧ ((n * r + i) * c + k) % c = k := by
  have h1 : ((n * r + i) * c + k) / c = n * r + i := by rw [Nat.add_comm, Nat.add_mul_div_right _ _ (by omega), Nat.div_eq_of_lt hk]; omega
  have h2 : ((n * r + i) * c + k) % c = k := by rw [Nat.add_comm, Nat.add_mul_mod_self_right, Nat.mod_eq_of_lt hk]
  rw [h1, h2]
  refine ⟨?_, ?_, rfl⟩
  · rw [Nat.add_comm, Nat.add_mul_div_right _ _ (by omega), Nat.div_eq_of_lt hi]; omega
  · rw [Nat.add_comm, Nat.add_mul_mod_self_right, Nat.mod_eq_of_lt hi]
/-- Where a field is shifted first, steps, rows and columns in one number. -/
def mvF (b s : List Int) (r c : Int) (l : List Int) (st : Int) : Int := fstN (mvP b s r c l) (st.toNat * r.toNat * c.toNat)
def mvT (b s : List Int) (r c : Int) (l : List Int) (st : Int) : Nat := (mvF b s r c l st).toNat
def mvOk (b s : List Int) (r c : Int) (l : List Int) (st : Int) : Prop := canP b s r c l ∧ (1 ≤ st ∧ st ≤ 512) ∧ 0 ≤ mvF b s r c l st
instance (b s : List Int) (r c : Int) (l : List Int) (st : Int) : Decidable (mvOk b s r c l st) := by unfold mvOk; infer_instance
section
variable {b s : List Int} {r c st : Int} {l : List Int} {n i k : Nat}
theorem mv_hit {t : Nat} (h1 : canP b s r c l) (h2 : 1 ≤ st ∧ st ≤ 512) (hp : mvP b s r c l t) (h : ∀ s', s' < t → ¬ mvP b s r c l s') (ht : t < st.toNat * r.toNat * c.toNat) : mvOk b s r c l st ∧ mvT b s r c l st = t := by
  have e : mvF b s r c l st = (t : Int) := fstN_at hp h ht
  refine ⟨⟨h1, h2, by omega⟩, ?_⟩
  unfold mvT; omega
theorem mv_none (h : ∀ t, t < st.toNat * r.toNat * c.toNat → ¬ mvP b s r c l t) : ¬ mvOk b s r c l st := fun hh => by
  have := hh.2.2
  unfold mvF at this
  rw [fstN_none h] at this
  omega
theorem mv_skip (hne : ¬ cntE 1 (rnL true b s r c l (n + 1)) = cntE 1 l) (h : ∀ t, t < (n * r.toNat + i) * c.toNat → ¬ mvP b s r c l t) : ∀ t, t < (n + 1) * r.toNat * c.toNat → ¬ mvP b s r c l t := fun t ht hp => by
  by_cases h1 : t < (n * r.toNat + i) * c.toNat
  · exact h t h1 hp
  · have e : t / c.toNat / r.toNat = n := by
      rw [Nat.div_div_eq_div_mul, Nat.div_eq_iff (by
        rcases Nat.eq_zero_or_pos (c.toNat * r.toNat) with h0 | h0
        · rw [Nat.mul_assoc, Nat.mul_comm r.toNat, h0] at ht; omega
        · exact h0)]
      have h3 : n * r.toNat * c.toNat ≤ t := by
        rw [Nat.add_mul] at h1; omega
      have h4 : n * (c.toNat * r.toNat) = n * r.toNat * c.toNat := by rw [Nat.mul_comm c.toNat, Nat.mul_assoc]
      have h5 : (n + 1) * r.toNat * c.toNat = n * r.toNat * c.toNat + c.toNat * r.toNat := by rw [Nat.add_mul, Nat.add_mul, Nat.one_mul, Nat.mul_comm r.toNat]
      omega
    have := hp.1
    rw [e] at this
    exact hne this
theorem mv_next (hi : i < r.toNat) (hk : k < c.toNat) (h : ∀ t, t < (n * r.toNat + i) * c.toNat + k → ¬ mvP b s r c l t) (hq : ¬ rnL true b s r c l (n + 1) = shL r c l (i : Int) (k : Int)) : ∀ t, t < (n * r.toNat + i) * c.toNat + (k + 1) → ¬ mvP b s r c l t := fun t ht hp => by
  by_cases e : t = (n * r.toNat + i) * c.toNat + k
  · have q := tri (n := n) hi hk
    rw [← e] at q
    have h2 := hp.2
    rw [q.1, q.2.1, q.2.2] at h2
    exact hq h2
  · exact h t (by omega) hp
theorem mv_is (hi : i < r.toNat) (hk : k < c.toNat) (h1 : cntE 1 (rnL true b s r c l (n + 1)) = cntE 1 l) (h2 : rnL true b s r c l (n + 1) = shL r c l (i : Int) (k : Int)) : mvP b s r c l ((n * r.toNat + i) * c.toNat + k) := by
  have q := tri (n := n) hi hk
  unfold mvP
  rw [q.1, q.2.1, q.2.2]
  exact ⟨h1, h2⟩
theorem mv_row (hk : k = c.toNat) (h : ∀ t, t < (n * r.toNat + i) * c.toNat + k → ¬ mvP b s r c l t) : ∀ t, t < (n * r.toNat + (i + 1)) * c.toNat → ¬ mvP b s r c l t := fun t ht => h t (by subst hk; rw [← Nat.add_assoc, Nat.add_mul _ 1] at ht; omega)
theorem mv_round (hi : i = r.toNat) (h : ∀ t, t < (n * r.toNat + i) * c.toNat → ¬ mvP b s r c l t) : ∀ t, t < (n + 1) * r.toNat * c.toNat → ¬ mvP b s r c l t := fun t ht => h t (by subst hi; rw [Nat.add_mul n 1, Nat.one_mul] at ht; exact ht)
theorem mv_lt (hn : n < st.toNat) (hi : i < r.toNat) (hk : k < c.toNat) : (n * r.toNat + i) * c.toNat + k < st.toNat * r.toNat * c.toNat := by
  have h1 : (n * r.toNat + i + 1) ≤ st.toNat * r.toNat := by
    have := Nat.mul_le_mul_right r.toNat (show n + 1 ≤ st.toNat by omega)
    rw [Nat.add_mul] at this; omega
  have h2 := Nat.mul_le_mul_right c.toNat h1
  rw [Nat.add_mul _ 1] at h2; omega
end
/-- A plain square of 4, 8 or 16 rows. -/
def sqP (r c : Int) (l : List Int) : Prop := fieldN 1 r c l ∧ r = c ∧ (r = 4 ∨ r = 8 ∨ r = 16)
instance (r c : Int) (l : List Int) : Decidable (sqP r c l) := by unfold sqP; infer_instance
/-- The inner part behind a step. -/
def inL (b s : List Int) (r c : Int) (l : List Int) : List Int := mkL (c - 2) (cutG c (nxL false b s r c l) 1 1) ((r - 2).toNat * (c - 2).toNat)
def inP (b s : List Int) (r c : Int) (l : List Int) : Prop := lifP b s ∧ sqP r c l
instance (b s : List Int) (r c : Int) (l : List Int) : Decidable (inP b s r c l) := by unfold inP; infer_instance
theorem inL_len {b s : List Int} {r c : Int} {l : List Int} (h : inP b s r c l) : (inL b s r c l).length ≤ 576 := by
  obtain ⟨_, ⟨⟨h1, _⟩, _⟩⟩ := h
  unfold inL
  rw [mkL_length]
  have q1 := h1.1
  have q2 := h1.2
  have := Nat.mul_le_mul (show (r - 2).toNat ≤ 24 by omega) (show (c - 2).toNat ≤ 24 by omega)
  omega
theorem inPL {b s : List Int} {r c : Int} {l : List Int} : (selL (inP b s r c l) (inL b s r c l)).length ≤ 576 := selL_len inL_len
theorem shL_len {r c a b : Int} {l : List Int} (h : sidesF r c) : ((shL r c l a b).length : Int) = r * c := by
  have q1 := h.1
  have q2 := h.2
  exact mkL_len' (by omega) (by omega)
end Go.Proofs.YthocjpfibegjcaaGreatDoor
/- Digits of numbers, and all plain fields of few cells. -/
namespace Go.Proofs.YthocjpfibegjcaaGreatDoor
open HL
theorem HL.Cel.cast {H : Hp} {p : Value} {cs cs' : List Value} (e : cs = cs') (h : Cel H p cs) : Cel H p cs' := e ▸ h
theorem HL.vInt_shl1 {k : IntKind} {n : Int} (h0 : 0 ≤ n) (h1 : n ≤ 62) : vInt .shl (.int .i64 1) (.int k n) = some (.int .i64 ((2 ^ n.toNat : Nat) : Int)) := by
  simp only [vInt, if_pos h0, Int.one_mul]
  have h2 : min n.toNat IntKind.i64.bits = n.toNat := by
    have : IntKind.i64.bits = 64 := rfl
    omega
  have h3 : (2 : Nat) ^ n.toNat ≤ 2 ^ 62 := Nat.pow_le_pow_right (by omega) (by omega)
  have e : (2 : Int) ^ n.toNat = ((2 ^ n.toNat : Nat) : Int) := by rw [Int.natCast_pow]; rfl
  have h4 : ((2 ^ n.toNat : Nat) : Int) ≤ ((2 ^ 62 : Nat) : Int) := Int.ofNat_le.mpr h3
  have h5 : (0 : Int) ≤ ((2 ^ n.toNat : Nat) : Int) := Int.natCast_nonneg _
  have h6 : ((2 ^ 62 : Nat) : Int) = 4611686018427387904 := by decide
  rw [h2, e, wrap64 (Int.le_trans (by decide) h5) (Int.lt_of_le_of_lt h4 (by rw [h6]; decide))]
/-- A power of 2. -/
def pw (n : Int) : Nat := 2 ^ n.toNat
theorem pw_le {n : Int} (h : n ≤ 12) : pw n ≤ 4096 := Nat.pow_le_pow_right (by omega) (show n.toNat ≤ 12 by omega)
theorem pw_pos (n : Int) : 0 < pw n := Nat.pow_pos (by omega)
/-- The digits of a number, the greatest one first; and the last t of them. -/
def dgL (b x : Int) (N : Nat) : List Int := (List.range N).map fun j => x / b ^ (N - 1 - j) % b
def dgF (b x : Int) (N t : Nat) : List Int := (List.range N).map fun j => if N - t ≤ j then x / b ^ (N - 1 - j) % b else 0
theorem dgL_len (b x : Int) (N : Nat) : (dgL b x N).length = N := by simp [dgL]
theorem dgF_len (b x : Int) (N t : Nat) : (dgF b x N t).length = N := by simp [dgF]
theorem dgF_zero (b x : Int) (N : Nat) : dgF b x N 0 = List.replicate N 0 := by
  rw [List.eq_replicate_iff]
  refine ⟨dgF_len b x N 0, fun y hy => ?_⟩
  simp only [dgF, List.mem_map, List.mem_range] at hy
  obtain ⟨j, hj, rfl⟩ := hy
  rw [if_neg (by omega)]
theorem dgF_full (b x : Int) (N : Nat) : dgF b x N N = dgL b x N := by
  unfold dgF dgL
  apply List.map_congr_left
  intro j _
  rw [if_pos (by omega)]
theorem dgF_set {b x : Int} {N t : Nat} (h : t < N) {i : Int} (hi : i = (N : Int) - 1 - t) : (dgF b x N t).set i.toNat (x / b ^ t % b) = dgF b x N (t + 1) := by
  have e : i.toNat = N - 1 - t := by omega
  rw [e]
  apply List.ext_getElem?
  intro j
  rw [List.getElem?_set]
  simp only [dgF, List.getElem?_map, List.length_map, List.length_range]
  by_cases hj : j < N
  · rw [List.getElem?_range hj]
    simp only [Option.map_some]
    by_cases h1 : N - 1 - t = j
    · rw [if_pos h1, if_pos (by omega), if_pos (by omega), show N - 1 - j = t by omega]
    · rw [if_neg h1]
      by_cases h2 : N - t ≤ j
      · rw [if_pos h2, if_pos (by omega)]
      · rw [if_neg h2, if_neg (by omega)]
  · rw [List.getElem?_eq_none (by simpa using hj)]
    simp only [Option.map_none]
    split
    · rw [if_neg (by omega)]
    · rfl
theorem dg_div {b x : Int} {t : Nat} (hb : 0 < b) : x / b ^ t / b = x / b ^ (t + 1) := by
  rw [Int.pow_succ, Int.ediv_ediv_of_nonneg (Int.le_of_lt (Int.pow_pos hb))]
theorem dg_bnd {b x : Int} {t : Nat} (hb : 0 < b) (hx : 0 ≤ x) : 0 ≤ x / b ^ t ∧ x / b ^ t ≤ x := by
  have hp : 0 < b ^ t := Int.pow_pos hb
  exact ⟨Int.ediv_nonneg hx (by omega), Int.ediv_le_self _ hx⟩
theorem dg_one {b x : Int} : x / b ^ 0 = x := by rw [Int.pow_zero, Int.ediv_one]
theorem dgL_mem {b x : Int} {N : Nat} (hb : 0 < b) : ∀ y ∈ dgL b x N, 0 ≤ y ∧ y ≤ b - 1 := fun y hy => by
  simp only [dgL, List.mem_map, List.mem_range] at hy
  obtain ⟨j, _, rfl⟩ := hy
  have h1 := Int.emod_nonneg (x / b ^ (N - 1 - j)) (b := b) (by omega)
  have h2 := Int.emod_lt_of_pos (x / b ^ (N - 1 - j)) hb
  omega
/-- Few cells. -/
def smP (r c : Int) : Prop := sidesF r c ∧ r * c ≤ 12
instance (r c : Int) : Decidable (smP r c) := by unfold smP; infer_instance
theorem dgL_field {r c x : Int} (h : sidesF r c) : fieldN 1 r c (dgL 2 x (r * c).toNat) := by
  have := sidesF_mul h
  exact ⟨h, by rw [dgL_len]; omega, fun y hy => by have := dgL_mem (b := 2) (by omega) y hy; omega⟩
/-- How many numbers below n have something. -/
def cnN (p : Nat → Prop) [DecidablePred p] : Nat → Int
  | 0 => 0
  | n + 1 => cnN p n + (if p n then 1 else 0)
theorem cnN_zero (p : Nat → Prop) [DecidablePred p] : cnN p 0 = 0 := rfl
theorem cnN_yes {p : Nat → Prop} [DecidablePred p] {n : Nat} (h : p n) : cnN p (n + 1) = cnN p n + 1 := by simp [cnN, h]
theorem cnN_no {p : Nat → Prop} [DecidablePred p] {n : Nat} (h : ¬ p n) : cnN p (n + 1) = cnN p n := by simp [cnN, h]
theorem cnN_bnd (p : Nat → Prop) [DecidablePred p] : ∀ n, 0 ≤ cnN p n ∧ cnN p n ≤ n
  | 0 => by simp [cnN]
  | n + 1 => by
    have := cnN_bnd p n
    simp only [cnN]
    split <;> omega
def stillP (b s : List Int) (r c : Int) (t : Nat) : Prop := nxL false b s r c (dgL 2 t (r * c).toNat) = dgL 2 t (r * c).toNat
instance (b s : List Int) (r c : Int) : DecidablePred (stillP b s r c) := fun t => by unfold stillP; infer_instance
def befP (b s : List Int) (r c : Int) (l : List Int) (t : Nat) : Prop := nxL false b s r c (dgL 2 t (r * c).toNat) = l
instance (b s : List Int) (r c : Int) (l : List Int) : DecidablePred (befP b s r c l) := fun t => by unfold befP; infer_instance
def stlP (b s : List Int) (r c : Int) : Prop := lifP b s ∧ smP r c
instance (b s : List Int) (r c : Int) : Decidable (stlP b s r c) := by unfold stlP; infer_instance
def cbfP (b s : List Int) (r c : Int) (l : List Int) : Prop := canP b s r c l ∧ smP r c
instance (b s : List Int) (r c : Int) (l : List Int) : Decidable (cbfP b s r c l) := by unfold cbfP; infer_instance
theorem fst_keep {p : Nat → Prop} [DecidablePred p] {t : Nat} (h : 0 ≤ fstN p t) : fstN p (t + 1) = fstN p t := by simp only [fstN]; rw [if_pos h]
theorem fst_skip {p : Nat → Prop} [DecidablePred p] {t : Nat} (h : ¬ p t) : fstN p (t + 1) = fstN p t := by
  by_cases h0 : 0 ≤ fstN p t
  · exact fst_keep h0
  · show (if 0 ≤ fstN p t then fstN p t else if p t then (t : Int) else -1) = _
    rw [if_neg h0, if_neg h]
    have := fstN_lt (p := p) (N := t)
    omega
theorem fst_hit {p : Nat → Prop} [DecidablePred p] {t : Nat} (h : ¬ 0 ≤ fstN p t) (hp : p t) : fstN p (t + 1) = (t : Int) := by simp only [fstN]; rw [if_neg h, if_pos hp]
theorem HL.selI_iff {p q : Prop} [Decidable p] [Decidable q] {x : Int} (h : p ↔ q) : selI p x = selI q x := by unfold selI; simp [h]
theorem HL.selL_iff {α : Type} {p q : Prop} [Decidable p] [Decidable q] {l : List α} (h : p ↔ q) : selL p l = selL q l := by unfold selL; simp [h]
/-- The first field that leads to one. -/
def fbF (b s : List Int) (r c : Int) (l : List Int) : Int := fstN (befP b s r c l) (pw (r * c))
def fbP (b s : List Int) (r c : Int) (l : List Int) : Prop := cbfP b s r c l ∧ 0 ≤ fbF b s r c l
instance (b s : List Int) (r c : Int) (l : List Int) : Decidable (fbP b s r c l) := by unfold fbP; infer_instance
theorem fbP_len {b s : List Int} {r c : Int} {l : List Int} : (selL (fbP b s r c l) (dgL 2 (fbF b s r c l) (r * c).toNat)).length ≤ 576 := selL_len fun h => by rw [dgL_len]; have := h.1.2.2; omega
end Go.Proofs.YthocjpfibegjcaaGreatDoor
/- Two fields put together: the program's and the reference's. -/
namespace Go.Proofs.YthocjpfibegjcaaGreatDoor
open HL
set_option maxRecDepth 100000
theorem mkL_congr {c : Int} {f g : Int → Int → Int} {N : Nat} (hc : 0 < c) (h : ∀ x y, 0 ≤ x → 0 ≤ y → y < c → x * c + y < N → f x y = g x y) : mkL c f N = mkL c g N := by
  unfold mkL
  apply List.map_congr_left
  intro j hj
  have := List.mem_range.mp hj
  have d := Int.mul_ediv_add_emod (j : Int) c
  rw [Int.mul_comm] at d
  exact h _ _ (Int.ediv_nonneg (by omega) (by omega)) (Int.emod_nonneg _ (by omega)) (Int.emod_lt_of_pos _ hc) (by omega)
theorem mkL_set {c : Int} {f : Int → Int → Int} {N : Nat} {i k v : Int} (hc : 0 < c) (k0 : 0 ≤ k) (k1 : k < c) (h : 0 ≤ i * c) : (mkL c f N).set (i * c + k).toNat v = mkL c (fun x y => if x = i ∧ y = k then v else f x y) N := by
  have hd := divmod (c := c) (i := i) (k := k) hc k0 k1
  apply List.ext_getElem?
  intro j
  rw [List.getElem?_set]
  simp only [mkL, List.getElem?_map, List.length_map, List.length_range]
  by_cases hj : j < N
  · rw [List.getElem?_range hj]
    simp only [Option.map_some]
    by_cases e : (i * c + k).toNat = j
    · rw [if_pos e, if_pos (by omega), if_pos]
      have ej : (j : Int) = i * c + k := by omega
      rw [ej]; exact hd
    · rw [if_neg e, if_neg]
      rintro ⟨h1, h2⟩
      have d := Int.mul_ediv_add_emod (j : Int) c
      rw [h1, h2, Int.mul_comm] at d
      omega
  · rw [List.getElem?_eq_none (by simpa using hj)]
    simp only [Option.map_none]
    split
    · rw [if_neg (by omega)]
    · rfl
theorem mkL_len {c : Int} {g : Int → Int → Int} {rr cc : Int} (h1 : 0 ≤ rr) (h2 : 0 ≤ cc) : ((mkL c g (rr.toNat * cc.toNat)).length : Int) = rr * cc := by
  rw [mkL_length, Int.natCast_mul, Int.toNat_of_nonneg h1, Int.toNat_of_nonneg h2]
theorem mkL_zero {c : Int} {N : Nat} : mkL c (fun _ _ => 0) N = List.replicate N 0 := by
  rw [List.eq_replicate_iff]
  refine ⟨mkL_length _ _ _, fun x hx => ?_⟩
  simp only [mkL, List.mem_map] at hx
  obtain ⟨j, _, rfl⟩ := hx
  rfl
theorem flatF_01 {r c : Int} {l : List Int} (h : fieldN 1 r c l) (x y : Int) : 0 ≤ flatF r c l x y ∧ flatF r c l x y ≤ 1 := by
  unfold flatF
  split
  · rename_i h1
    have b := ix_lt (a := x) (b := y) (r := r) (c := c) (by omega) (by omega) (by omega) (by omega)
    exact fieldN_at h (by omega) (by omega)
  · omega
/-- Two fields' cells. -/
def metG (ra ca : Int) (la : List Int) (rb cb : Int) (lb : List Int) (row col x y : Int) : Int := max (flatF ra ca la x y) (flatF rb cb lb (x - row) (y - col))
def metA (ca : Int) (la : List Int) (i k x y : Int) : Int := if (x < i ∧ y < ca) ∨ (x = i ∧ y < k) then at_ 0 la (x * ca + y) else 0
def metB (ra ca : Int) (la : List Int) (cb : Int) (lb : List Int) (row col i k x y : Int) : Int :=
  if ((0 ≤ x - row ∧ x - row < i ∧ 0 ≤ y - col ∧ y - col < cb) ∨ (x - row = i ∧ 0 ≤ y - col ∧ y - col < k)) ∧ at_ 0 lb ((x - row) * cb + (y - col)) = 1 then 1 else flatF ra ca la x y
def metO (ra ca rb cb row col : Int) : Prop := (0 ≤ row ∧ row ≤ 24) ∧ (0 ≤ col ∧ col ≤ 24) ∧ (1 ≤ max ra (row + rb) ∧ max ra (row + rb) ≤ 24) ∧ (1 ≤ max ca (col + cb) ∧ max ca (col + cb) ≤ 24)
def metOk (ra ca : Int) (la : List Int) (rb cb : Int) (lb : List Int) (row col : Int) : Prop := fieldN 1 ra ca la ∧ fieldN 1 rb cb lb ∧ metO ra ca rb cb row col
instance (ra ca rb cb row col : Int) : Decidable (metO ra ca rb cb row col) := by unfold metO; infer_instance
instance (ra ca : Int) (la : List Int) (rb cb : Int) (lb : List Int) (row col : Int) : Decidable (metOk ra ca la rb cb lb row col) := by unfold metOk; infer_instance
def metL0 (ra ca : Int) (la : List Int) (rb cb : Int) (lb : List Int) (row col : Int) : List Int := mkL (max ca (col + cb)) (metG ra ca la rb cb lb row col) ((max ra (row + rb)).toNat * (max ca (col + cb)).toNat)
def metL (ra ca : Int) (la : List Int) (rb cb : Int) (lb : List Int) (row col : Int) : List Int := if metOk ra ca la rb cb lb row col then metL0 ra ca la rb cb lb row col else []
def metI (x ra ca : Int) (la : List Int) (rb cb : Int) (lb : List Int) (row col : Int) : Int := if metOk ra ca la rb cb lb row col then x else 0
theorem metL_len {ra ca : Int} {la : List Int} {rb cb : Int} {lb : List Int} {row col : Int} : (metL ra ca la rb cb lb row col).length ≤ 576 := by
  unfold metL
  split
  · rename_i h
    obtain ⟨_, _, _, _, h3, h4⟩ := h
    unfold metL0
    rw [mkL_length]
    have := Nat.mul_le_mul (show (max ra (row + rb)).toNat ≤ 24 by omega) (show (max ca (col + cb)).toNat ≤ 24 by omega)
    omega
  · simp
theorem metA_zero {c ca : Int} {la : List Int} {N : Nat} (hc : 0 < c) (h : 0 ≤ ca) : List.replicate N 0 = mkL c (metA ca la 0 0) N := by
  rw [← mkL_zero (c := c)]
  apply mkL_congr hc
  intro x y h1 h2 _ _
  unfold metA
  rw [if_neg (by omega)]
theorem metA_set {c ca : Int} {la : List Int} {N : Nat} {i k : Int} (k0 : 0 ≤ k) (k1 : k < ca) (k2 : k < c) (i0 : 0 ≤ i) (h : 0 ≤ i * c) : (mkL c (metA ca la i k) N).set (i * c + k).toNat (at_ 0 la (i * ca + k)) = mkL c (metA ca la i (k + 1)) N := by
  rw [mkL_set (by omega) k0 k2 h]
  apply mkL_congr (by omega)
  intro x y h1 h2 _ _
  unfold metA
  by_cases e : x = i ∧ y = k
  · obtain ⟨rfl, rfl⟩ := e
    rw [if_pos ⟨rfl, rfl⟩, if_pos (by omega)]
  · rw [if_neg e]
    by_cases e2 : (x < i ∧ y < ca) ∨ (x = i ∧ y < k)
    · rw [if_pos e2, if_pos (by omega)]
    · rw [if_neg e2, if_neg (by omega)]
theorem metA_row {c ca : Int} {la : List Int} {N : Nat} {i k : Int} (hc : 0 < c) (k1 : k = ca) : mkL c (metA ca la i k) N = mkL c (metA ca la (i + 1) 0) N := by
  apply mkL_congr hc
  intro x y h1 h2 _ _
  unfold metA
  by_cases e2 : (x < i ∧ y < ca) ∨ (x = i ∧ y < k)
  · rw [if_pos e2, if_pos (by omega)]
  · rw [if_neg e2, if_neg (by omega)]
theorem metA_end {c ra ca cb : Int} {la lb : List Int} {row col : Int} {N : Nat} (hc : 0 < c) : mkL c (metA ca la ra 0) N = mkL c (metB ra ca la cb lb row col 0 0) N := by
  apply mkL_congr hc
  intro x y h1 h2 _ _
  unfold metA metB
  rw [if_neg (show ¬ (((0 ≤ x - row ∧ x - row < 0 ∧ 0 ≤ y - col ∧ y - col < cb) ∨ (x - row = 0 ∧ 0 ≤ y - col ∧ y - col < 0)) ∧ at_ 0 lb ((x - row) * cb + (y - col)) = 1) from fun h => by have := h.1; omega)]
  unfold flatF
  by_cases e2 : (x < ra ∧ y < ca) ∨ (x = ra ∧ y < 0)
  · rw [if_pos e2, if_pos (by omega)]
  · rw [if_neg e2, if_neg (by omega)]
theorem metB_set {c ra ca cb : Int} {la lb : List Int} {row col : Int} {N : Nat} {i k : Int} (k0 : 0 ≤ k) (k1 : k < cb) (k2 : col + k < c) (i0 : 0 ≤ i) (c0 : 0 ≤ col) (h : 0 ≤ (row + i) * c) (h1 : at_ 0 lb (i * cb + k) = 1) :
    (mkL c (metB ra ca la cb lb row col i k) N).set ((row + i) * c + col + k).toNat 1 = mkL c (metB ra ca la cb lb row col i (k + 1)) N := by
  rw [show (row + i) * c + col + k = (row + i) * c + (col + k) by omega, mkL_set (by omega) (by omega) k2 h]
  apply mkL_congr (by omega)
  intro x y _ _ _ _
  unfold metB
  by_cases e : x = row + i ∧ y = col + k
  · obtain ⟨rfl, rfl⟩ := e
    rw [if_pos ⟨rfl, rfl⟩, if_pos]
    rw [show row + i - row = i by omega, show col + k - col = k by omega]
    exact ⟨by omega, h1⟩
  · rw [if_neg e]
    by_cases e2 : ((0 ≤ x - row ∧ x - row < i ∧ 0 ≤ y - col ∧ y - col < cb) ∨ (x - row = i ∧ 0 ≤ y - col ∧ y - col < k)) ∧ at_ 0 lb ((x - row) * cb + (y - col)) = 1
    · rw [if_pos e2, if_pos ⟨by have := e2.1; omega, e2.2⟩]
    · rw [if_neg e2, if_neg (fun h => e2 ⟨by have := h.1; omega, h.2⟩)]
theorem metB_skip {c ra ca cb : Int} {la lb : List Int} {row col : Int} {N : Nat} {i k : Int} (hc : 0 < c) (h1 : ¬ at_ 0 lb (i * cb + k) = 1) :
    mkL c (metB ra ca la cb lb row col i k) N = mkL c (metB ra ca la cb lb row col i (k + 1)) N := by
  apply mkL_congr hc
  intro x y _ _ _ _
  unfold metB
  by_cases e : x - row = i ∧ y - col = k
  · obtain ⟨rfl, rfl⟩ := e
    rw [if_neg (fun h => h1 h.2), if_neg (fun h => h1 h.2)]
  · by_cases e2 : ((0 ≤ x - row ∧ x - row < i ∧ 0 ≤ y - col ∧ y - col < cb) ∨ (x - row = i ∧ 0 ≤ y - col ∧ y - col < k)) ∧ at_ 0 lb ((x - row) * cb + (y - col)) = 1
    · rw [if_pos e2, if_pos ⟨by have := e2.1; omega, e2.2⟩]
    · rw [if_neg e2, if_neg (fun h => e2 ⟨by have := h.1; omega, h.2⟩)]
theorem metB_row {c ra ca cb : Int} {la lb : List Int} {row col : Int} {N : Nat} {i k : Int} (hc : 0 < c) (i0 : 0 ≤ i) (k1 : k = cb) : mkL c (metB ra ca la cb lb row col i k) N = mkL c (metB ra ca la cb lb row col (i + 1) 0) N := by
  apply mkL_congr hc
  intro x y _ _ _ _
  unfold metB
  by_cases e2 : ((0 ≤ x - row ∧ x - row < i ∧ 0 ≤ y - col ∧ y - col < cb) ∨ (x - row = i ∧ 0 ≤ y - col ∧ y - col < k)) ∧ at_ 0 lb ((x - row) * cb + (y - col)) = 1
  · rw [if_pos e2, if_pos ⟨by have := e2.1; omega, e2.2⟩]
  · rw [if_neg e2, if_neg (fun h => e2 ⟨by have := h.1; omega, h.2⟩)]
theorem metB_end {c ra ca rb cb : Int} {la lb : List Int} {row col : Int} {N : Nat} (hc : 0 < c) (ha : fieldN 1 ra ca la) (hb : fieldN 1 rb cb lb) : mkL c (metB ra ca la cb lb row col rb 0) N = mkL c (metG ra ca la rb cb lb row col) N := by
  apply mkL_congr hc
  intro x y _ _ _ _
  have fa := flatF_01 ha x y
  have fb := flatF_01 hb (x - row) (y - col)
  unfold metB metG
  by_cases e : (0 ≤ x - row ∧ x - row ≤ rb - 1) ∧ 0 ≤ y - col ∧ y - col ≤ cb - 1
  · have e3 : flatF rb cb lb (x - row) (y - col) = at_ 0 lb ((x - row) * cb + (y - col)) := by unfold flatF; rw [if_pos e]
    rw [e3] at fb ⊢
    by_cases e4 : at_ 0 lb ((x - row) * cb + (y - col)) = 1
    · rw [if_pos ⟨by omega, e4⟩]; omega
    · rw [if_neg (fun h => e4 h.2)]; omega
  · have e3 : flatF rb cb lb (x - row) (y - col) = 0 := by unfold flatF; rw [if_neg e]
    rw [e3, if_neg (fun h => e (by have := h.1; omega))]; omega
end Go.Proofs.YthocjpfibegjcaaGreatDoor
/- Patterns that come again elsewhere. -/
namespace Go.Proofs.YthocjpfibegjcaaGreatDoor
open HL
set_option maxRecDepth 100000
/-- A cell of 1 on the border. -/
def bdC (r c : Int) (l : List Int) (j : Nat) : Prop := at_ 0 l (j : Int) = 1 ∧ ((j : Int) / c = 0 ∨ (j : Int) % c = 0 ∨ (j : Int) / c = r - 1 ∨ (j : Int) % c = c - 1)
instance (r c : Int) (l : List Int) (j : Nat) : Decidable (bdC r c l j) := by unfold bdC; infer_instance
def bdU (r c : Int) (l : List Int) (n : Nat) : Prop := ∀ j, j < n → ¬ bdC r c l j
instance (r c : Int) (l : List Int) (n : Nat) : Decidable (bdU r c l n) := by unfold bdU; infer_instance
/-- Is a cell on the border 1? -/
def brdP (r c : Int) (l : List Int) : Prop := ¬ bdU r c l (r * c).toNat
instance (r c : Int) (l : List Int) : Decidable (brdP r c l) := by unfold brdP; infer_instance
section
variable {r c : Int} {l : List Int}
theorem bdU_zero : bdU r c l 0 := fun j h => by omega
theorem bdU_succ {n : Nat} (h : bdU r c l n) (h1 : ¬ bdC r c l n) : bdU r c l (n + 1) := fun j hj => by
  by_cases e : j = n
  · subst e; exact h1
  · exact h j (by omega)
theorem bdC_at {i k n : Nat} (hk : (k : Int) < c) (hn : (n : Int) = i * c + k) : bdC r c l n ↔ (at_ 0 l ((i : Int) * c + k) = 1 ∧ ((i : Int) = 0 ∨ (k : Int) = 0 ∨ (i : Int) = r - 1 ∨ (k : Int) = c - 1)) := by
  have d := divmod (c := c) (i := (i : Int)) (k := (k : Int)) (by omega) (by omega) hk
  unfold bdC
  rw [hn, d.1, d.2]
theorem brd_yes {n : Nat} (h : bdC r c l n) (hn : (n : Int) < r * c) : brdP r c l := fun hh => hh n (by omega) h
end
/-- A pattern in the middle of a great field, the first rows of it. -/
def shpA (c : Int) (l : List Int) (row col i k x y : Int) : Int := if (0 ≤ x - row ∧ x - row < i ∧ 0 ≤ y - col ∧ y - col < c) ∨ (x - row = i ∧ 0 ≤ y - col ∧ y - col < k) then at_ 0 l ((x - row) * c + (y - col)) else 0
def shp0 (r c : Int) (l : List Int) : List Int := mkL 24 (fun x y => flatF r c l (x - (24 - r) / 2) (y - (24 - c) / 2)) ((24 : Int).toNat * (24 : Int).toNat)
theorem shpA_zero {c row col : Int} {l : List Int} {N : Nat} (h : 0 ≤ row) : List.replicate N 0 = mkL 24 (shpA c l row col 0 0) N := by
  rw [← mkL_zero (c := 24)]
  apply mkL_congr (by omega)
  intro x y h1 h2 _ _
  unfold shpA
  rw [if_neg (by omega)]
theorem shpA_set {c row col i k : Int} {l : List Int} {N : Nat} (k0 : 0 ≤ k) (k1 : k < c) (i0 : 0 ≤ i) (r0 : 0 ≤ row) (c0 : 0 ≤ col) (k2 : col + k < 24) :
    (mkL 24 (shpA c l row col i k) N).set ((row + i) * 24 + col + k).toNat (at_ 0 l (i * c + k)) = mkL 24 (shpA c l row col i (k + 1)) N := by
  rw [show (row + i) * 24 + col + k = (row + i) * 24 + (col + k) by omega, mkL_set (by omega) (by omega) k2 (by omega)]
  apply mkL_congr (by omega)
  intro x y _ _ _ _
  unfold shpA
  by_cases e : x = row + i ∧ y = col + k
  · obtain ⟨rfl, rfl⟩ := e
    rw [if_pos ⟨rfl, rfl⟩, if_pos (by omega), show row + i - row = i by omega, show col + k - col = k by omega]
  · rw [if_neg e]
    by_cases e2 : (0 ≤ x - row ∧ x - row < i ∧ 0 ≤ y - col ∧ y - col < c) ∨ (x - row = i ∧ 0 ≤ y - col ∧ y - col < k)
    · rw [if_pos e2, if_pos (by omega)]
    · rw [if_neg e2, if_neg (by omega)]
theorem shpA_row {c row col i k : Int} {l : List Int} {N : Nat} (i0 : 0 ≤ i) (hk : k = c) : mkL 24 (shpA c l row col i k) N = mkL 24 (shpA c l row col (i + 1) 0) N := by
  apply mkL_congr (by omega)
  intro x y _ _ _ _
  unfold shpA
  by_cases e2 : (0 ≤ x - row ∧ x - row < i ∧ 0 ≤ y - col ∧ y - col < c) ∨ (x - row = i ∧ 0 ≤ y - col ∧ y - col < k)
  · rw [if_pos e2, if_pos (by omega)]
  · rw [if_neg e2, if_neg (by omega)]
theorem shpA_end {r c row col : Int} {l : List Int} {N : Nat} : mkL 24 (shpA c l row col r 0) N = mkL 24 (fun x y => flatF r c l (x - row) (y - col)) N := by
  apply mkL_congr (by omega)
  intro x y _ _ _ _
  unfold shpA flatF
  by_cases e2 : (0 ≤ x - row ∧ x - row < r ∧ 0 ≤ y - col ∧ y - col < c) ∨ (x - row = r ∧ 0 ≤ y - col ∧ y - col < 0)
  · rw [if_pos e2, if_pos (by omega)]
  · rw [if_neg e2, if_neg (by omega)]
theorem s24 : sidesF 24 24 := ⟨by omega, by omega⟩
theorem shp0_field {r c : Int} {l : List Int} (h : fieldN 1 r c l) : fieldN 1 24 24 (shp0 r c l) := by
  have := mkL_field (n := 1) (g := fun x y => flatF r c l (x - (24 - r) / 2) (y - (24 - c) / 2)) s24 (fun i k => flatF_01 h _ _)
  exact this
theorem trm24 (l : List Int) : (0 ≤ (trm 24 24 l).1 ∧ (trm 24 24 l).1 ≤ 24) ∧ 0 ≤ (trm 24 24 l).2.2.1 ∧ (trm 24 24 l).2.2.1 ≤ 24 := by
  have b := trS_bnd (l := l) s24 (24 * 24 : Int).toNat (by omega)
  exact ⟨⟨b.1.1, b.1.2.1⟩, b.2.1, b.2.2.1⟩
theorem trl24 (l : List Int) : (trL 24 24 l).length ≤ 100000 := by
  unfold trL
  rw [mkL_length]
  have b := trS_bnd (l := l) s24 (24 * 24 : Int).toNat (by omega)
  have h1 : (trR 24 24 l).toNat ≤ 100 := by unfold trR trm; omega
  have h2 : (trC 24 24 l).toNat ≤ 100 := by unfold trC trm; omega
  have := Nat.mul_le_mul h1 h2
  omega
/-- Is a field's smallest part that of another one? -/
def matP (l m : List Int) : Prop := 0 ≤ (trm 24 24 m).2.1 ∧ trR 24 24 m = trR 24 24 l ∧ trC 24 24 m = trC 24 24 l ∧ trL 24 24 m = trL 24 24 l
instance (l m : List Int) : Decidable (matP l m) := by unfold matP; infer_instance
def shpS (b s : List Int) (r c : Int) (l : List Int) (n : Nat) : List Int := rnL false b s 24 24 (shp0 r c l) n
def shpE (b s : List Int) (r c : Int) (l : List Int) (t : Nat) : Prop := brdP 24 24 (shpS b s r c l (t + 1)) ∨ matP (shp0 r c l) (shpS b s r c l (t + 1))
instance (b s : List Int) (r c : Int) (l : List Int) : DecidablePred (shpE b s r c l) := fun t => by unfold shpE; infer_instance
def shpF (b s : List Int) (r c : Int) (l : List Int) (st : Int) : Int := fstN (shpE b s r c l) st.toNat
def shpT (b s : List Int) (r c : Int) (l : List Int) (st : Int) : List Int := shpS b s r c l ((shpF b s r c l st).toNat + 1)
def shpOk (b s : List Int) (r c : Int) (l : List Int) (st : Int) : Prop := canP b s r c l ∧ (1 ≤ st ∧ st ≤ 64) ∧ 0 ≤ (trm 24 24 (shp0 r c l)).2.1 ∧ ¬ brdP 24 24 (shp0 r c l) ∧ 0 ≤ shpF b s r c l st ∧ ¬ brdP 24 24 (shpT b s r c l st)
instance (b s : List Int) (r c : Int) (l : List Int) (st : Int) : Decidable (shpOk b s r c l st) := by unfold shpOk; infer_instance
section
variable {b s : List Int} {r c st : Int} {l : List Int} {t : Nat}
theorem shp_fail (hb : brdP 24 24 (shpS b s r c l (t + 1))) (h : ∀ x, x < t → ¬ shpE b s r c l x) (ht : t < st.toNat) : ¬ shpOk b s r c l st := fun hh => by
  have e : shpF b s r c l st = (t : Int) := fstN_at (p := shpE b s r c l) (.inl hb) h ht
  have := hh.2.2.2.2.2
  unfold shpT at this
  rw [e] at this
  exact this hb
theorem shp_none (h : ∀ x, x < st.toNat → ¬ shpE b s r c l x) : ¬ shpOk b s r c l st := fun hh => by
  have := hh.2.2.2.2.1
  unfold shpF at this
  rw [fstN_none h] at this
  omega
theorem shp_hit (h1 : canP b s r c l) (h2 : 1 ≤ st ∧ st ≤ 64) (h3 : 0 ≤ (trm 24 24 (shp0 r c l)).2.1) (h4 : ¬ brdP 24 24 (shp0 r c l)) (hb : ¬ brdP 24 24 (shpS b s r c l (t + 1))) (hm : matP (shp0 r c l) (shpS b s r c l (t + 1)))
    (h : ∀ x, x < t → ¬ shpE b s r c l x) (ht : t < st.toNat) : shpOk b s r c l st ∧ shpF b s r c l st = (t : Int) ∧ shpT b s r c l st = shpS b s r c l (t + 1) := by
  have e : shpF b s r c l st = (t : Int) := fstN_at (p := shpE b s r c l) (.inr hm) h ht
  have e2 : shpT b s r c l st = shpS b s r c l (t + 1) := by unfold shpT; rw [e]; rfl
  exact ⟨⟨h1, h2, h3, h4, by omega, by rw [e2]; exact hb⟩, e, e2⟩
theorem shp_next (hb : ¬ brdP 24 24 (shpS b s r c l (t + 1))) (hm : ¬ matP (shp0 r c l) (shpS b s r c l (t + 1))) (h : ∀ x, x < t → ¬ shpE b s r c l x) : ∀ x, x < t + 1 → ¬ shpE b s r c l x := fun x hx hp => by
  by_cases e : x = t
  · subst e; exact hp.elim hb hm
  · exact h x (by omega) hp
end
end Go.Proofs.YthocjpfibegjcaaGreatDoor
/- Fields that are turned and mirrored. -/
namespace Go.Proofs.YthocjpfibegjcaaGreatDoor
open HL
set_option maxRecDepth 100000
def turG (r c : Int) (l : List Int) (x y : Int) : Int := at_ 0 l ((r - 1 - y) * c + x)
def turL (r c : Int) (l : List Int) : List Int := mkL r (turG r c l) (c.toNat * r.toNat)
def mirG (c : Int) (l : List Int) (x y : Int) : Int := at_ 0 l (x * c + (c - 1 - y))
def mirL (r c : Int) (l : List Int) : List Int := mkL c (mirG c l) (r.toNat * c.toNat)
theorem at_01 {l : List Int} (h : ∀ x ∈ l, 0 ≤ x ∧ x ≤ 1) (i : Int) : 0 ≤ at_ 0 l i ∧ at_ 0 l i ≤ 1 := by
  unfold at_
  rw [List.getD_eq_getElem?_getD]
  cases he : l[i.toNat]? with
  | none => simp
  | some y => exact h y (List.mem_of_getElem? he)
def turF (f : FdL) : FdL := ⟨f.c, f.r, turL f.r f.c f.l⟩
def mirF (f : FdL) : FdL := ⟨f.r, f.c, mirL f.r f.c f.l⟩
def okF (f : FdL) : Prop := fieldN 1 f.r f.c f.l
theorem turF_ok {f : FdL} (h : okF f) : okF (turF f) := mkL_field ⟨h.1.2, h.1.1⟩ (fun _ _ => at_01 h.2.2 _)
theorem mirF_ok {f : FdL} (h : okF f) : okF (mirF f) := mkL_field h.1 (fun _ _ => at_01 h.2.2 _)
def imK (f : FdL) : Nat → FdL
  | 0 => f
  | k + 1 => turF (imK f k)
theorem imK_ok {f : FdL} (h : okF f) : ∀ k, okF (imK f k)
  | 0 => h
  | k + 1 => turF_ok (imK_ok h k)
/-- The field of a side. -/
def imB (f : FdL) (i : Nat) : FdL := if i = 0 then f else mirF f
theorem imB_ok {f : FdL} (h : okF f) (i : Nat) : okF (imB f i) := by
  unfold imB
  split
  · exact h
  · exact mirF_ok h
def imgs (f : FdL) (n : Nat) : List FdL := (List.range n).map fun t => imK (imB f (t / 4)) (t % 4)
theorem imgs_len (f : FdL) (n : Nat) : (imgs f n).length = n := by simp [imgs]
theorem imgs_succ (f : FdL) {i k : Nat} (hk : k < 4) : imgs f (4 * i + k) ++ [⟨(imK (imB f i) k).r, (imK (imB f i) k).c, (imK (imB f i) k).l⟩] = imgs f (4 * i + k + 1) := by
  simp only [imgs, List.range_succ, List.map_append, List.map_cons, List.map_nil]
  rw [show (4 * i + k) / 4 = i by omega, show (4 * i + k) % 4 = k by omega]
theorem cut_all {r c : Int} {l : List Int} (h1 : 0 ≤ r) (h2 : 0 < c) (hl : (l.length : Int) = r * c) : mkL c (cutG c l 0 0) (r.toNat * c.toNat) = l := by
  have hl2 := mkL_len' (c := c) (g := cutG c l 0 0) (rr := r) (cc := c) h1 (by omega)
  apply List.ext_getElem
  · omega
  · intro j g1 g2
    have d := Int.mul_ediv_add_emod (j : Int) c
    rw [Int.mul_comm] at d
    simp only [mkL, List.getElem_map, List.getElem_range, cutG]
    rw [show (0 + (j : Int) / c) * c + 0 + (j : Int) % c = (j : Int) by rw [Int.zero_add]; omega, at_get 0 g2]
theorem fsz_le_mul {n : Nat} : ∀ {fs : List FdL}, (∀ f ∈ fs, f.l.length ≤ n) → fsz fs ≤ fs.length * (2 + n)
  | [], _ => by simp [fsz]
  | f :: fs, h => by
    have h1 := h f (by simp)
    have h2 := fsz_le_mul (fs := fs) (fun g hg => h g (by simp [hg]))
    simp only [fsz, List.length_cons, Nat.add_mul, Nat.one_mul]
    omega
theorem imgs_mem {f : FdL} (h : okF f) {n : Nat} : ∀ g ∈ imgs f n, g.l.length ≤ 576 := by
  intro g hg
  simp only [imgs, List.mem_map] at hg
  obtain ⟨t, _, rfl⟩ := hg
  exact fieldN_len (imK_ok (imB_ok h _) _)
theorem imB_s (f : FdL) (i : Nat) : imB f (i + 1) = mirF f := rfl
/-- What is told of the field of a round, and of the next one. -/
def gL (f : FdL) (i : Nat) : List Int := if i = 0 then f.l else if i = 1 then (mirF f).l else []
def hL (f : FdL) (i : Nat) : List Int := if i = 0 then (mirF f).l else []
theorem hgL (f : FdL) (i : Nat) : hL f i = gL f (i + 1) := by
  unfold hL gL
  rcases i with _ | i <;> simp
theorem gL_eq {f : FdL} {i : Nat} (h : i < 2) : gL f i = (imB f i).l := by
  rcases (by omega : i = 0 ∨ i = 1) with rfl | rfl <;> rfl
theorem imB_r (f : FdL) (i : Nat) : (imB f i).r = f.r := by unfold imB; split <;> rfl
theorem imB_c (f : FdL) (i : Nat) : (imB f i).c = f.c := by unfold imB; split <;> rfl
theorem imgP_len {r c : Int} {l : List Int} : (selL (fieldN 1 r c l) (imgs ⟨r, c, l⟩ 8)).length ≤ 8 ∧ fsz (selL (fieldN 1 r c l) (imgs ⟨r, c, l⟩ 8)) ≤ 5000 ∧ ∀ f ∈ selL (fieldN 1 r c l) (imgs ⟨r, c, l⟩ 8), f.l.length ≤ 1000000000 := by
  by_cases h : fieldN 1 r c l
  · rw [selL_t h, imgs_len]
    have hm := imgs_mem (f := ⟨r, c, l⟩) h (n := 8)
    have := fsz_le_mul hm
    rw [imgs_len] at this
    exact ⟨by omega, by omega, fun f hf => by have := hm f hf; omega⟩
  · rw [selL_f h]; simp [fsz]
end Go.Proofs.YthocjpfibegjcaaGreatDoor
/- Names of fields: the least text of the trimmed field's images: plain law. -/
namespace Go.Proofs.YthocjpfibegjcaaGreatDoor
open HL
set_option maxRecDepth 100000
theorem bytesLess_tri : ∀ a b : List UInt8, Op.bytesLess b a = !(Op.bytesLess a b || a == b)
  | [], [] => rfl
  | [], _ :: _ => rfl
  | _ :: _, [] => rfl
  | x :: a, y :: b => by
    have ih := bytesLess_tri a b
    simp only [Op.bytesLess, ih, List.cons_beq_cons]
    rcases Nat.lt_trichotomy x.toNat y.toNat with h | h | h
    · have h1 : x < y := UInt8.lt_iff_toNat_lt.mpr h
      have h2 : ¬ y < x := fun g => by have := UInt8.lt_iff_toNat_lt.mp g; omega
      have h3 : ¬ y = x := fun g => by subst g; omega
      simp [h1, h2, h3]
    · obtain rfl : x = y := UInt8.toNat_inj.mp h
      have h2 : ¬ x < x := fun g => by have := UInt8.lt_iff_toNat_lt.mp g; omega
      simp [h2]
    · have h1 : y < x := UInt8.lt_iff_toNat_lt.mpr h
      have h2 : ¬ x < y := fun g => by have := UInt8.lt_iff_toNat_lt.mp g; omega
      have h3 : ¬ x = y := fun g => by subst g; omega
      simp [h1, h2, h3]
/-- The lesser of two texts. -/
def minT (m x : List UInt8) : List UInt8 := if Op.bytesLess x m = true then x else m
/-- The least of some texts. -/
def minF : List (List UInt8) → List UInt8
  | [] => []
  | a :: r => r.foldl minT a
theorem minF_snoc (ls : List (List UInt8)) (x : List UInt8) (h : ls ≠ []) : minF (ls ++ [x]) = minT (minF ls) x := by
  cases ls with
  | nil => exact absurd rfl h
  | cons a r => simp [minF]
theorem minF_one (x : List UInt8) : minF [x] = x := rfl
theorem min_tr {P : Program} {H : Hp} {K : Value → Hp → Prop} {ts : Array TypeId} {t : TypeId} {bs : Array Bool} {m x : List UInt8} (h : K (vS (minT m x)) H) : hp P (builtin .min ts t bs #[vS m, vS x]) H (nextH P K) := by
  have e : hp P (builtin .min ts t bs #[vS m, vS x]) H (nextH P K) = K (.string (if (Op.bytesLess (tS m).toList (tS x).toList || (tS m).toList == (tS x).toList) = true then tS m else tS x)) H := rfl
  rw [e]
  simp only [tS_toList]
  have : (if (Op.bytesLess m x || m == x) = true then tS m else tS x) = tS (minT m x) := by
    unfold minT
    rw [bytesLess_tri m x]
    cases Op.bytesLess m x || m == x <;> rfl
  rw [this]
  exact h
section
variable {r c : Int} {l : List Int}
theorem trF_ok (h : fieldN 1 r c l) (hb : 0 ≤ (trm r c l).2.1) : fieldN 1 (trR r c l) (trC r c l) (trL r c l) := by
  obtain ⟨h1, h2, h3, h4, h5, h6⟩ := trm_bnd h.1 hb
  have hs := h.1
  obtain ⟨⟨_, _⟩, _, _⟩ := hs
  refine ⟨⟨⟨h3, by omega⟩, h4, by omega⟩, ?_, fun x hx => ?_⟩
  · unfold trL; exact mkL_len (by omega) (by omega)
  · simp only [trL, mkL, List.mem_map] at hx
    obtain ⟨t, _, rfl⟩ := hx
    exact at_01 h.2.2 _
end
/-- The text of a field. -/
def ftx (f : FdL) : List UInt8 := fieldT f.r f.c f.l
/-- The trimmed field. -/
def tmF (r c : Int) (l : List Int) : FdL := ⟨trR r c l, trC r c l, trL r c l⟩
def imF (f : FdL) (i : Nat) : FdL := imK (imB f (i / 4)) (i % 4)
theorem imF_ok {f : FdL} (h : okF f) (i : Nat) : okF (imF f i) := imK_ok (imB_ok h _) _
theorem imF_at {f : FdL} {n i : Nat} (h : i < n) : at_ fd0 (imgs f n) (i : Int) = ⟨(imF f i).r, (imF f i).c, (imF f i).l⟩ := by
  rw [at_eq fd0 (imgs f n) (by rw [imgs_len]; omega)]
  simp [imgs, imF]
def imT (f : FdL) (n : Nat) : List (List UInt8) := (List.range n).map fun i => ftx (imF f i)
theorem imT_len {f : FdL} {n : Nat} : (imT f n).length = n := by simp [imT]
theorem imT_succ {f : FdL} {n : Nat} : imT f (n + 1) = imT f n ++ [fieldT (imF f n).r (imF f n).c (imF f n).l] := by simp [imT, List.range_succ, ftx]
theorem minF_next {f : FdL} {n : Nat} (h : 0 < n) : minF (imT f (n + 1)) = minT (minF (imT f n)) (fieldT (imF f n).r (imF f n).c (imF f n).l) := by
  rw [imT_succ]
  exact minF_snoc _ _ (fun e => by have := congrArg List.length e; rw [imT_len] at this; simp at this; omega)
theorem minF_first {f : FdL} {n : Nat} (h : n = 0) : minF (imT f (n + 1)) = fieldT (imF f n).r (imF f n).c (imF f n).l := by
  subst h; rfl
theorem minT_t {m x : List UInt8} (h : Op.bytesLess x m = true) : minT m x = x := if_pos h
theorem minT_f {m x : List UInt8} (h : ¬ Op.bytesLess x m = true) : minT m x = m := if_neg h
/-- The least of the first texts. -/
theorem minF_take {ls : List (List UInt8)} {t : Nat} (h0 : 1 ≤ t) (h : t < ls.length) : minF (ls.take (t + 1)) = minT (minF (ls.take t)) (at_ [] ls (t : Int)) := by
  rw [take_at [] ls h]
  exact minF_snoc _ _ (fun e => by have := congrArg List.length e; simp only [List.length_take, List.length_nil] at this; omega)
theorem minF_take1 {ls : List (List UInt8)} (h : 1 ≤ ls.length) : minF (ls.take 1) = at_ [] ls 0 := by
  cases ls with
  | nil => simp at h
  | cons a r => rfl
/-- A field's name. -/
def nameT (r c : Int) (l : List Int) : List UInt8 := if 0 ≤ (trm r c l).2.1 then minF (imT (tmF r c l) 8) else []
theorem nameT_t {r c : Int} {l : List Int} (h : 0 ≤ (trm r c l).2.1) : nameT r c l = minF (imT (tmF r c l) 8) := if_pos h
theorem nameT_f {r c : Int} {l : List Int} (h : (trm r c l).2.1 < 0) : nameT r c l = [] := if_neg (by omega)
theorem minT_len {m x : List UInt8} {n : Nat} (h1 : m.length ≤ n) (h2 : x.length ≤ n) : (minT m x).length ≤ n := by
  unfold minT; split <;> assumption
theorem minF_len {n : Nat} : ∀ {ls : List (List UInt8)}, (∀ x ∈ ls, x.length ≤ n) → (minF ls).length ≤ n := by
  intro ls h
  cases ls with
  | nil => simp [minF]
  | cons a r =>
    have : ∀ (r : List (List UInt8)) (a : List UInt8), a.length ≤ n → (∀ x ∈ r, x.length ≤ n) → (r.foldl minT a).length ≤ n := by
      intro r
      induction r with
      | nil => intro a ha _; exact ha
      | cons b r ih => intro a ha hr; exact ih _ (minT_len ha (hr b (by simp))) (fun x hx => hr x (by simp [hx]))
    exact this r a (h a (by simp)) (fun x hx => h x (by simp [hx]))
theorem nameT_len {r c : Int} {l : List Int} (h : fieldN 1 r c l) : (nameT r c l).length ≤ 2000 := by
  unfold nameT
  split
  · rename_i hb
    refine minF_len fun x hx => ?_
    simp only [imT, List.mem_map] at hx
    obtain ⟨i, _, rfl⟩ := hx
    exact fieldT_len (imF_ok (f := tmF r c l) (trF_ok h hb) i).1
  · simp
end Go.Proofs.YthocjpfibegjcaaGreatDoor
/- A census: plain law. Names in rising order, each with how often it stands. -/
namespace Go.Proofs.YthocjpfibegjcaaGreatDoor
open HL
set_option maxRecDepth 100000
abbrev Txt := List UInt8
def LtT (a b : Txt) : Prop := Op.bytesLess a b = true
theorem less_lt : ∀ a b : Txt, Op.bytesLess a b = decide (a < b)
  | [], [] => rfl
  | [], _ :: _ => rfl
  | _ :: _, [] => rfl
  | x :: a, y :: b => by
    have ih := less_lt a b
    simp only [Op.bytesLess, ih, List.cons_lt_cons_iff]
    by_cases h1 : x < y <;> by_cases h2 : x = y <;> simp [h1, h2]
theorem ltT_iff {a b : Txt} : LtT a b ↔ a < b := by unfold LtT; rw [less_lt]; simp
theorem ltT_irr (a : Txt) : ¬ LtT a a := fun h => List.lt_irrefl a (ltT_iff.mp h)
theorem ltT_trans {a b c : Txt} (h : LtT a b) (h' : LtT b c) : LtT a c := ltT_iff.mpr (List.lt_trans (ltT_iff.mp h) (ltT_iff.mp h'))
theorem ltT_tri {a b : Txt} (h : ¬ LtT a b) (h' : a ≠ b) : LtT b a := by
  unfold LtT at *
  rw [bytesLess_tri a b]
  simp [h, h']
theorem ltT_ne {a b : Txt} (h : LtT a b) : a ≠ b := fun e => ltT_irr a (e ▸ h)
/-- The names of a list, rising, with how often each stands there. -/
structure Cen (ns : List Txt) (cs : List Int) (L : List Txt) : Prop where
  srt : ns.Pairwise LtT
  mem : ∀ x, x ∈ ns ↔ x ∈ L
  cnt : cs = ns.map fun x => (L.count x : Int)
theorem cen_nil : Cen [] [] [] := ⟨List.Pairwise.nil, fun _ => Iff.rfl, rfl⟩
section
variable {A B : List Txt} {b x : Txt} {cs : List Int} {ns L : List Txt}
theorem Cen.len (h : Cen ns cs L) : cs.length = ns.length := by rw [h.cnt]; simp
theorem Cen.nodup (h : Cen ns cs L) : ns.Nodup := h.srt.imp fun hab => ltT_ne hab
theorem Cen.le (h : Cen ns cs L) : ns.length ≤ L.length := by
  have : ns ⊆ L := fun x hx => (h.mem x).mp hx
  exact h.nodup.length_le_of_subset this
theorem Cen.bnd (h : Cen ns cs L) {c : Int} (hc : c ∈ cs) : 0 ≤ c ∧ c ≤ L.length := by
  rw [h.cnt] at hc
  obtain ⟨x, _, rfl⟩ := List.mem_map.mp hc
  have := List.count_le_length (a := x) (l := L)
  omega
theorem map_ne {C : List Txt} (h : ∀ a ∈ C, a ≠ x) : (C.map fun y => (L.count y : Int)) = C.map fun y => ((L ++ [x]).count y : Int) := by
  refine List.map_congr_left fun a ha => ?_
  rw [List.count_append, List.count_singleton]
  have : ¬ x = a := fun e => h a ha e.symm
  simp [this]
theorem cen_hit (h : Cen (A ++ b :: B) cs L) (hb : b = x) : Cen (A ++ b :: B) (cs.set A.length (at_ 0 cs (A.length : Int) + 1)) (L ++ [x]) := by
  subst hb
  have hs := h.srt
  rw [List.pairwise_append] at hs
  obtain ⟨_, hB, hAB⟩ := hs
  rw [List.pairwise_cons] at hB
  have hA' : ∀ a ∈ A, a ≠ b := fun a ha => ltT_ne (hAB a ha b (by simp))
  have hB' : ∀ a ∈ B, a ≠ b := fun a ha => (ltT_ne (hB.1 a ha)).symm
  refine ⟨h.srt, fun y => ?_, ?_⟩
  · rw [h.mem y, List.mem_append, List.mem_singleton]
    refine ⟨.inl, fun hy => ?_⟩
    rcases hy with hy | rfl
    · exact hy
    · exact (h.mem y).mp (by simp)
  · have hat : at_ 0 cs (A.length : Int) = (L.count b : Int) := by
      rw [h.cnt, at_eq 0 _ (by simp)]
      simp
    rw [hat, h.cnt]
    simp only [List.map_append, List.map_cons]
    rw [map_ne hA', map_ne hB', List.set_append_right _ _ (by simp)]
    simp only [List.length_map, Nat.sub_self, List.set_cons_zero]
    congr 2
    rw [List.count_append, List.count_singleton]
    simp
theorem cen_new (h : Cen (A ++ B) cs L) (hA : ∀ a ∈ A, LtT a x) (hB : ∀ b ∈ B, LtT x b) : Cen (A ++ [x] ++ B) (cs.take A.length ++ [1] ++ cs.drop A.length) (L ++ [x]) := by
  have hs := h.srt
  rw [List.pairwise_append] at hs
  obtain ⟨h1, h2, h3⟩ := hs
  have hA' : ∀ a ∈ A, a ≠ x := fun a ha => ltT_ne (hA a ha)
  have hB' : ∀ a ∈ B, a ≠ x := fun a ha => (ltT_ne (hB a ha)).symm
  have hx : x ∉ L := fun hx => by
    rcases List.mem_append.mp ((h.mem x).mpr hx) with h | h
    · exact hA' x h rfl
    · exact hB' x h rfl
  refine ⟨?_, fun y => ?_, ?_⟩
  · rw [List.append_assoc, List.pairwise_append]
    refine ⟨h1, ?_, fun a ha y hy => ?_⟩
    · rw [List.singleton_append, List.pairwise_cons]; exact ⟨hB, h2⟩
    · rw [List.singleton_append, List.mem_cons] at hy
      rcases hy with rfl | hy
      · exact hA a ha
      · exact h3 a ha y hy
  · have := h.mem y
    simp only [List.mem_append, List.mem_singleton] at this ⊢
    rw [← this]
    constructor
    · rintro ((h | h) | h)
      · exact .inl (.inl h)
      · exact .inr h
      · exact .inl (.inr h)
    · rintro ((h | h) | h)
      · exact .inl (.inl h)
      · exact .inr h
      · exact .inl (.inr h)
  · rw [h.cnt]
    simp only [List.map_append, List.map_cons, List.map_nil]
    rw [List.take_append_of_le_length (by simp), List.take_of_length_le (by simp), List.drop_append_of_le_length (by simp), List.drop_of_length_le (by simp), List.nil_append, ← map_ne hA', ← map_ne hB']
    congr 2
    rw [List.count_append, List.count_singleton, List.count_eq_zero.mpr hx]
    simp
end
section
variable {x : Txt} {cs : List Int} {ns L : List Txt} {p : Nat}
/-- One more name, at its place. -/
theorem cen_at_hit (h : Cen ns cs L) (hp : p < ns.length) (hx : at_ [] ns (p : Int) = x) : Cen ns (cs.set p (at_ 0 cs (p : Int) + 1)) (L ++ [x]) := by
  have e : ns = ns.take p ++ at_ [] ns (p : Int) :: ns.drop (p + 1) := by rw [at_eq [] ns hp]; simp
  have hl : (ns.take p).length = p := by rw [List.length_take]; omega
  rw [e] at h ⊢
  have := cen_hit h hx
  rw [hl] at this
  exact this
theorem cen_at_new (h : Cen ns cs L) (hp : p ≤ ns.length) (hA : ∀ j, j < p → LtT (at_ [] ns (j : Int)) x) (hB : p < ns.length → ¬ LtT (at_ [] ns (p : Int)) x ∧ at_ [] ns (p : Int) ≠ x) : Cen (ns.take p ++ [x] ++ ns.drop p) (cs.take p ++ [1] ++ cs.drop p) (L ++ [x]) := by
  have hl : (ns.take p).length = p := by rw [List.length_take]; omega
  have hs := h.srt
  rw [← List.take_append_drop p ns] at h
  have := cen_new h (x := x) (fun a ha => ?_) (fun b hb => ?_)
  · rw [hl] at this; exact this
  · obtain ⟨j, hj, rfl⟩ := List.getElem_of_mem ha
    rw [hl] at hj
    have := hA j hj
    rw [at_eq [] ns (by omega)] at this
    rw [List.getElem_take]
    exact this
  · obtain ⟨j, hj, rfl⟩ := List.getElem_of_mem hb
    rw [List.length_drop] at hj
    obtain ⟨h1, h2⟩ := hB (by omega)
    have h3 := ltT_tri h1 h2
    rw [at_eq [] ns (by omega)] at h3
    rw [List.getElem_drop]
    rcases Nat.eq_zero_or_pos j with rfl | hj0
    · exact h3
    · exact ltT_trans h3 (List.pairwise_iff_getElem.mp hs p (p + j) (by omega) (by omega) (by omega))
/-- The names are told by what stands in the list, not by its order. -/
theorem cen_uni {ns' L' : List Txt} {cs' : List Int} (h : Cen ns cs L) (h' : Cen ns' cs' L') (hp : L.Perm L') : ns = ns' ∧ cs = cs' := by
  have e : ns = ns' := by
    refine List.Perm.eq_of_pairwise (le := LtT) (fun a b _ _ h1 h2 => absurd (ltT_trans h1 h2) (ltT_irr a)) h.srt h'.srt ?_
    rw [List.perm_ext_iff_of_nodup h.nodup h'.nodup]
    intro a
    rw [h.mem a, h'.mem a]
    exact hp.mem_iff
  subst e
  refine ⟨rfl, ?_⟩
  rw [h.cnt, h'.cnt]
  exact List.map_congr_left fun a _ => by rw [hp.count_eq]
end
theorem cen_ex : ∀ L : List Txt, ∃ ns cs, Cen ns cs L := by
  intro L
  induction hn : L.length generalizing L with
  | zero => obtain rfl := List.length_eq_zero_iff.mp hn; exact ⟨[], [], cen_nil⟩
  | succ n ih =>
    obtain ⟨M, x, rfl⟩ : ∃ M x, L = M ++ [x] := ⟨L.dropLast, L.getLast (by intro e; rw [e] at hn; simp at hn), (List.dropLast_concat_getLast _).symm⟩
    obtain ⟨ns, cs, h⟩ := ih M (by simpa using hn)
    have hp : ∃ p, p ≤ ns.length ∧ (∀ j, j < p → LtT (at_ [] ns (j : Int)) x) ∧ (p < ns.length → ¬ LtT (at_ [] ns (p : Int)) x) := by
      have : ∀ k, k ≤ ns.length → (∀ j, j < k → LtT (at_ [] ns (j : Int)) x) ∨ ∃ p, p ≤ ns.length ∧ (∀ j, j < p → LtT (at_ [] ns (j : Int)) x) ∧ (p < ns.length → ¬ LtT (at_ [] ns (p : Int)) x) := by
        intro k
        induction k with
        | zero => intro _; exact .inl (fun j hj => absurd hj (by omega))
        | succ k ihk =>
          intro hk
          rcases ihk (by omega) with h1 | h1
          · by_cases hx : LtT (at_ [] ns (k : Int)) x
            · exact .inl fun j hj => by
                rcases Nat.lt_or_ge j k with h2 | h2
                · exact h1 j h2
                · obtain rfl : j = k := by omega
                  exact hx
            · exact .inr ⟨k, by omega, h1, fun _ => hx⟩
          · exact .inr h1
      rcases this ns.length (Nat.le_refl _) with h1 | h1
      · exact ⟨ns.length, Nat.le_refl _, h1, fun h => absurd h (by omega)⟩
      · exact h1
    obtain ⟨p, hp1, hp2, hp3⟩ := hp
    by_cases hx : p < ns.length ∧ at_ [] ns (p : Int) = x
    · exact ⟨_, _, cen_at_hit h hx.1 hx.2⟩
    · exact ⟨_, _, cen_at_new h hp1 hp2 fun hp => ⟨hp3 hp, fun e => hx ⟨hp, e⟩⟩⟩
noncomputable def cenN (L : List Txt) : List Txt := Classical.choose (cen_ex L)
noncomputable def cenC (L : List Txt) : List Int := Classical.choose (Classical.choose_spec (cen_ex L))
theorem cen_of (L : List Txt) : Cen (cenN L) (cenC L) L := Classical.choose_spec (Classical.choose_spec (cen_ex L))
theorem cen_eq {ns : List Txt} {cs : List Int} {L M : List Txt} (h : Cen ns cs L) (hp : L.Perm M) : ns = cenN M ∧ cs = cenC M := cen_uni h (cen_of M) hp
/-- The sorted list. -/
def srtT (L : List Txt) : List Txt := L.mergeSort fun x y => decide (x ≤ y)
theorem srtT_perm (L : List Txt) : (srtT L).Perm L := List.mergeSort_perm L _
theorem srtT_len (L : List Txt) : (srtT L).length = L.length := (srtT_perm L).length_eq
theorem srtT_le (L : List Txt) {i j : Nat} (hi : i < j) (hj : j < (srtT L).length) : ¬ LtT (at_ [] (srtT L) (j : Int)) (at_ [] (srtT L) (i : Int)) := by
  have h := List.pairwise_mergeSort (le := fun x y : Txt => decide (x ≤ y)) (fun a b c h1 h2 => by simp only [decide_eq_true_eq] at *; exact List.le_trans h1 h2) (fun a b => by simp only [Bool.or_eq_true, decide_eq_true_eq]; exact List.le_total a b) L
  have := List.pairwise_iff_getElem.mp h i j (by show i < (srtT L).length; omega) hj hi
  rw [at_eq [] _ hj, at_eq [] _ (by omega), ltT_iff]
  simp only [decide_eq_true_eq] at this
  exact List.not_lt.mpr this
end Go.Proofs.YthocjpfibegjcaaGreatDoor
/- Parts of a field, by plain law: what can be reached, starts, numbers. -/
namespace Go.Proofs.YthocjpfibegjcaaGreatDoor
open HL
set_option maxRecDepth 100000
/-- Cells side by side, or corner by corner; a cell and itself too. -/
def nbP (c : Int) (x y : Nat) : Prop := ((x : Int) / c - (y : Int) / c ≤ 1 ∧ (y : Int) / c - (x : Int) / c ≤ 1) ∧ (x : Int) % c - (y : Int) % c ≤ 1 ∧ (y : Int) % c - (x : Int) % c ≤ 1
theorem nbP_symm {c : Int} {x y : Nat} (h : nbP c x y) : nbP c y x := ⟨⟨h.1.2, h.1.1⟩, h.2.2, h.2.1⟩
/-- A cell of 1. -/
def onP (l : List Int) (x : Nat) : Prop := x < l.length ∧ at_ 0 l (x : Int) = 1
instance (l : List Int) (x : Nat) : Decidable (onP l x) := by unfold onP; infer_instance
/-- What can be reached from a cell. -/
inductive Rch (c : Int) (l : List Int) (s : Nat) : Nat → Prop
  | base : onP l s → Rch c l s s
  | step {x y : Nat} : Rch c l s x → nbP c x y → onP l y → Rch c l s y
section
variable {c : Int} {l : List Int} {s : Nat}
theorem Rch.on {x : Nat} (h : Rch c l s x) : onP l x ∧ onP l s := by
  induction h with
  | base h => exact ⟨h, h⟩
  | step _ _ hy ih => exact ⟨hy, ih.2⟩
theorem Rch.trans {x y : Nat} (h : Rch c l s x) (h2 : Rch c l x y) : Rch c l s y := by
  induction h2 with
  | base _ => exact h
  | step _ hn hy ih => exact ih.step hn hy
theorem Rch.symm {x : Nat} (h : Rch c l s x) : Rch c l x s := by
  induction h with
  | base h => exact .base h
  | step hx hn hy ih => exact ((Rch.base hy).step (nbP_symm hn) hx.on.1).trans ih
/-- A set that holds a cell, is sound and closed, is what can be reached. -/
theorem Rch_set {C : Nat → Prop} (hs : C s) (sd : ∀ x, C x → Rch c l s x) (cl : ∀ x y, C x → nbP c x y → onP l y → C y) (x : Nat) : C x ↔ Rch c l s x := by
  constructor
  · exact sd x
  · intro h
    induction h with
    | base _ => exact hs
    | step _ hn hy ih => exact cl _ _ ih hn hy
end
open Classical in
/-- The starts among the first cells. -/
noncomputable def stsL (c : Int) (l : List Int) : Nat → List Nat
  | 0 => []
  | i + 1 => if onP l i ∧ ∀ s ∈ stsL c l i, ¬ Rch c l s i then stsL c l i ++ [i] else stsL c l i
open Classical in
/-- A part alone. -/
noncomputable def aloL (c : Int) (l : List Int) (s : Nat) : List Int := (List.range l.length).map fun x => if Rch c l s x then 1 else 0
open Classical in
/-- The number of a cell's part; 0: none. -/
noncomputable def nuN (c : Int) (l : List Int) : List Nat → Nat → Int
  | [], _ => 0
  | s :: L, x => if Rch c l s x then 1 else if nuN c l L x = 0 then 0 else nuN c l L x + 1
section
variable {c : Int} {l : List Int}
theorem aloL_len (s : Nat) : (aloL c l s).length = l.length := by simp [aloL]
theorem stsL_on : ∀ {i s : Nat}, s ∈ stsL c l i → onP l s ∧ s < i
  | 0, s, h => by simp [stsL] at h
  | i + 1, s, h => by
    unfold stsL at h
    split at h
    · rename_i hc
      rcases List.mem_append.mp h with h | h
      · have := stsL_on h; exact ⟨this.1, by omega⟩
      · simp only [List.mem_singleton] at h; subst h; exact ⟨hc.1, by omega⟩
    · have := stsL_on h; exact ⟨this.1, by omega⟩
/-- Each cell of 1 among the first is reached by a start. -/
theorem stsL_all : ∀ {i x : Nat}, x < i → onP l x → ∃ s ∈ stsL c l i, Rch c l s x
  | 0, x, h, _ => by omega
  | i + 1, x, h, hx => by
    unfold stsL
    by_cases e : x = i
    · subst e
      split
      · exact ⟨x, by simp, .base hx⟩
      · rename_i hc
        apply Classical.byContradiction
        intro hn
        exact hc ⟨hx, fun s hs hr => hn ⟨s, hs, hr⟩⟩
    · obtain ⟨s, h1, h2⟩ := stsL_all (show x < i by omega) hx
      split
      · exact ⟨s, by simp [h1], h2⟩
      · exact ⟨s, h1, h2⟩
theorem nuN_zero : ∀ {L : List Nat} {x : Nat}, nuN c l L x = 0 ↔ ∀ s ∈ L, ¬ Rch c l s x
  | [], x => by simp [nuN]
  | s :: L, x => by
    have ih := nuN_zero (L := L) (x := x)
    have pos : ∀ L : List Nat, 0 ≤ nuN c l L x := by
      intro L
      induction L with
      | nil => simp [nuN]
      | cons a L ih => unfold nuN; split <;> (try split) <;> omega
    have := pos L
    unfold nuN
    by_cases h : Rch c l s x
    · rw [if_pos h]
      constructor
      · intro g; omega
      · intro g; exact absurd h (g s (by simp))
    · rw [if_neg h]
      by_cases h2 : nuN c l L x = 0
      · rw [if_pos h2]
        constructor
        · intro _ a ha
          rcases List.mem_cons.mp ha with rfl | ha
          · exact h
          · exact ih.mp h2 a ha
        · intro _; rfl
      · rw [if_neg h2]
        constructor
        · intro g; omega
        · intro g; exact absurd (ih.mpr (fun a ha => g a (by simp [ha]))) h2
open Classical in
/-- One more start behind the others. -/
theorem nuN_snoc {x t : Nat} : ∀ {L : List Nat}, nuN c l (L ++ [t]) x = if nuN c l L x = 0 then (if Rch c l t x then (L.length : Int) + 1 else 0) else nuN c l L x
  | [] => by
    simp only [List.nil_append, nuN, if_true, List.length_nil]
    by_cases h : Rch c l t x
    · simp [h]
    · simp [h]
  | s :: L => by
    have ih := nuN_snoc (x := x) (t := t) (L := L)
    have p0 : 0 ≤ nuN c l L x := by
      clear ih
      induction L with
      | nil => simp [nuN]
      | cons a L ih => unfold nuN; split <;> (try split) <;> omega
    simp only [List.cons_append, nuN, List.length_cons]
    by_cases h : Rch c l s x
    · rw [if_pos h, if_pos h, if_neg (by omega)]
    · rw [if_neg h, if_neg h, ih]
      by_cases h2 : nuN c l L x = 0
      · rw [if_pos h2]
        simp only [h2, if_true]
        by_cases h3 : Rch c l t x
        · rw [if_pos h3, if_pos h3, if_neg (by omega)]; omega
        · rw [if_neg h3, if_neg h3, if_pos rfl]
      · rw [if_neg h2, if_neg h2, if_neg (by omega)]
end
theorem nodup_len : ∀ (N : Nat) (ls : List Int), ls.Nodup → (∀ x ∈ ls, 0 ≤ x ∧ x < (N : Int)) → ls.length ≤ N
  | 0, ls, _, h => by
    cases ls with
    | nil => simp
    | cons a ls => have := h a (by simp); omega
  | N + 1, ls, hn, h => by
    by_cases hm : (N : Int) ∈ ls
    · obtain ⟨a, b, rfl⟩ := List.append_of_mem hm
      have h1 : (a ++ b).Nodup := by
        have := List.nodup_append.mp hn
        have h2 := List.nodup_cons.mp this.2.1
        exact List.nodup_append.mpr ⟨this.1, h2.2, fun x hx y hy => this.2.2 x hx y (by simp [hy])⟩
      have h3 : ∀ x ∈ a ++ b, x ≠ (N : Int) := by
        have := List.nodup_append.mp hn
        have h2 := List.nodup_cons.mp this.2.1
        intro x hx e
        subst e
        rcases List.mem_append.mp hx with g | g
        · exact this.2.2 _ g _ (by simp) rfl
        · exact h2.1 g
      have := nodup_len N (a ++ b) h1 (fun x hx => by
        have g := h x (by rcases List.mem_append.mp hx with g | g <;> simp [g])
        have := h3 x hx
        omega)
      simp at this ⊢; omega
    · have := nodup_len N ls hn (fun x hx => by
        have g := h x hx
        have : x ≠ (N : Int) := fun e => hm (e ▸ hx)
        omega)
      omega
open Classical in
/-- Which cells are reached from a list of starts, or are in a list. -/
noncomputable def tkB (c : Int) (l : List Int) (L : List Nat) (ls : List Int) : List Bool := (List.range l.length).map fun x => decide ((∃ s ∈ L, Rch c l s x) ∨ (x : Int) ∈ ls)
open Classical in
noncomputable def indL (l ls : List Int) : List Int := (List.range l.length).map fun (x : Nat) => if (x : Int) ∈ ls then 1 else 0
section
variable {c : Int} {l : List Int}
theorem stsL_t {i : Nat} (h : onP l i) (hn : ∀ s ∈ stsL c l i, ¬ Rch c l s i) : stsL c l (i + 1) = stsL c l i ++ [i] := by
  conv => lhs; unfold stsL
  rw [if_pos ⟨h, hn⟩]
theorem stsL_f {i : Nat} (h : ¬ (onP l i ∧ ∀ s ∈ stsL c l i, ¬ Rch c l s i)) : stsL c l (i + 1) = stsL c l i := by
  conv => lhs; unfold stsL
  rw [if_neg h]
theorem tkB_len {L : List Nat} {ls : List Int} : (tkB c l L ls).length = l.length := by simp [tkB]
theorem indL_len {ls : List Int} : (indL l ls).length = l.length := by simp [indL]
/-- A flood that has come to its end. -/
theorem flood_end {i : Nat} {ls : List Int} (hi : (i : Int) ∈ ls) (sd : ∀ x ∈ ls, ∃ k : Nat, x = (k : Int) ∧ Rch c l i k) (cl : ∀ x y : Nat, (x : Int) ∈ ls → nbP c x y → onP l y → (y : Int) ∈ ls) (x : Nat) : (x : Int) ∈ ls ↔ Rch c l i x := by
  refine Rch_set (C := fun x : Nat => (x : Int) ∈ ls) hi (fun y hy => ?_) (fun y z h1 h2 h3 => cl y z h1 h2 h3) x
  obtain ⟨k, hk, hr⟩ := sd _ hy
  have : y = k := by omega
  subst this; exact hr
theorem tkB_end {i : Nat} {L : List Nat} {ls : List Int} (h : ∀ x : Nat, (x : Int) ∈ ls ↔ Rch c l i x) : tkB c l L ls = tkB c l (L ++ [i]) [] := by
  unfold tkB
  apply List.map_congr_left
  intro x _
  apply decide_eq_decide.mpr
  rw [h x]
  constructor
  · rintro (⟨s, h1, h2⟩ | h1)
    · exact .inl ⟨s, by simp [h1], h2⟩
    · exact .inl ⟨i, by simp, h1⟩
  · rintro (⟨s, h1, h2⟩ | h1)
    · rcases List.mem_append.mp h1 with h1 | h1
      · exact .inl ⟨s, h1, h2⟩
      · simp only [List.mem_singleton] at h1; subst h1; exact .inr h2
    · simp at h1
theorem indL_end {i : Nat} {ls : List Int} (h : ∀ x : Nat, (x : Int) ∈ ls ↔ Rch c l i x) : indL l ls = aloL c l i := by
  unfold indL aloL
  apply List.map_congr_left
  intro x _
  by_cases g : Rch c l i x
  · rw [if_pos ((h x).mpr g), if_pos g]
  · rw [if_neg (fun q => g ((h x).mp q)), if_neg g]
end
end Go.Proofs.YthocjpfibegjcaaGreatDoor
/- Parts of a field, by plain law: the rounds of a flood; parts and places. -/
namespace Go.Proofs.YthocjpfibegjcaaGreatDoor
open HL
set_option maxRecDepth 100000
/-- A flood from i: what is in the list, when t of it are told. -/
def flP (c : Int) (l : List Int) (i : Nat) (ls : List Int) (t : Nat) : Prop := (i : Int) ∈ ls ∧ (∀ x ∈ ls, ∃ k : Nat, x = (k : Int) ∧ Rch c l i k) ∧ ls.Nodup ∧ t ≤ ls.length ∧ ∀ x y : Nat, (x : Int) ∈ ls.take t → nbP c x y → onP l y → (y : Int) ∈ ls
/-- The cells around a place that come ahead of another are in the list. -/
def nbD (c : Int) (l ls : List Int) (row col a b : Int) : Prop := ∀ y : Nat, (row - (y : Int) / c ≤ 1 ∧ (y : Int) / c - row ≤ 1) → (col - (y : Int) % c ≤ 1 ∧ (y : Int) % c - col ≤ 1) → onP l y → ((y : Int) / c < a ∨ ((y : Int) / c = a ∧ (y : Int) % c < b)) → (y : Int) ∈ ls
theorem rc_bnd {r c x row col : Int} (hc : 1 ≤ c) (x0 : 0 ≤ x) (x1 : x < r * c) (hr : row = x / c) (hq : col = x % c) : 0 ≤ row ∧ row < r ∧ 0 ≤ col ∧ col < c := by
  subst hr hq
  exact ⟨Int.ediv_nonneg x0 (by omega), Int.ediv_lt_of_lt_mul (by omega) x1, Int.emod_nonneg _ (by omega), Int.emod_lt_of_pos _ (by omega)⟩
theorem pq_dm {r c p q : Int} (p0 : 0 ≤ p) (p1 : p ≤ r - 1) (q0 : 0 ≤ q) (q1 : q ≤ c - 1) : (0 ≤ p * c + q ∧ p * c + q < r * c) ∧ (0 ≤ p * c ∧ p * c ≤ r * c) ∧ (p * c + q) / c = p ∧ (p * c + q) % c = q := by
  have a := Int.mul_nonneg p0 (show 0 ≤ c by omega)
  have b := Int.mul_le_mul_of_nonneg_right (show p + 1 ≤ r by omega) (show 0 ≤ c by omega)
  rw [Int.add_mul, Int.one_mul] at b
  refine ⟨⟨by omega, by omega⟩, ⟨a, by omega⟩, ?_, ?_⟩
  · rw [Int.add_comm, Int.add_mul_ediv_right _ _ (by omega), Int.ediv_eq_zero_of_lt q0 (by omega), Int.zero_add]
  · rw [Int.add_comm, Int.add_mul_emod_self_right]; exact Int.emod_eq_of_lt q0 (by omega)
section
variable {c : Int} {l ls : List Int} {i t : Nat}
theorem flP_start (h : onP l i) : flP c l i [(i : Int)] 0 :=
  ⟨by simp, fun x hx => ⟨i, by simpa using hx, .base h⟩, by simp, by simp, fun x y hx => by simp at hx⟩
theorem flP_len (h : flP c l i ls t) : ls.length ≤ l.length ∧ ∀ x ∈ ls, 0 ≤ x ∧ x < (l.length : Int) := by
  have hb : ∀ x ∈ ls, 0 ≤ x ∧ x < (l.length : Int) := fun x hx => by
    obtain ⟨k, rfl, hr⟩ := h.2.1 x hx
    have := hr.on.1.1
    omega
  exact ⟨nodup_len _ _ h.2.2.1 hb, hb⟩
/-- One more cell. -/
theorem flP_put {x y : Nat} (h : flP c l i ls t) (hx : (x : Int) ∈ ls) (hn : nbP c x y) (hy : onP l y) (hy2 : (y : Int) ∉ ls) : flP c l i (ls ++ [(y : Int)]) t := by
  obtain ⟨h1, h2, h3, h4, h5⟩ := h
  refine ⟨by simp [h1], fun z hz => ?_, ?_, by simp; omega, fun z w hz hw ho => ?_⟩
  · rcases List.mem_append.mp hz with hz | hz
    · exact h2 z hz
    · simp only [List.mem_singleton] at hz
      obtain ⟨k, hk, hr⟩ := h2 _ hx
      have : x = k := by omega
      subst this
      exact ⟨y, hz, hr.step hn hy⟩
  · exact List.nodup_append.mpr ⟨h3, by simp, fun a ha b hb => by
      simp only [List.mem_singleton] at hb
      subst hb
      exact fun e => hy2 (e ▸ ha)⟩
  · rw [List.take_append_of_le_length h4] at hz
    exact List.mem_append_left _ (h5 z w hz hw ho)
/-- A cell whose neighbours are all told. -/
theorem flP_next (h : flP c l i ls t) (ht : t < ls.length) {row col : Int} (hr : row = at_ 0 ls (t : Int) / c) (hc : col = at_ 0 ls (t : Int) % c) (hd : nbD c l ls row col (row + 2) 0) : flP c l i ls (t + 1) := by
  obtain ⟨h1, h2, h3, h4, h5⟩ := h
  refine ⟨h1, h2, h3, by omega, fun x y hx hn ho => ?_⟩
  rw [take_at 0 ls ht] at hx
  rcases List.mem_append.mp hx with hx | hx
  · exact h5 x y hx hn ho
  · simp only [List.mem_singleton] at hx
    have hn1 := hn.1
    have hn2 := hn.2
    rw [hx] at hn1 hn2
    rw [← hr] at hn1
    rw [← hc] at hn2
    exact hd y hn1 hn2 ho (.inl (by omega))
theorem nbD_app {row col a b z : Int} (h : nbD c l ls row col a b) : nbD c l (ls ++ [z]) row col a b := fun y h1 h2 h3 h4 => List.mem_append_left _ (h y h1 h2 h3 h4)
/-- The next place in a row: told, or no cell of 1. -/
theorem nbD_next {row col p q : Int} (h : nbD c l ls row col p q) (hy : ∀ y : Nat, (y : Int) / c = p → (y : Int) % c = q → onP l y → (y : Int) ∈ ls) : nbD c l ls row col p (q + 1) := fun y h1 h2 h3 h4 => by
  by_cases e : (y : Int) / c = p ∧ (y : Int) % c = q
  · exact hy y e.1 e.2 h3
  · exact h y h1 h2 h3 (by omega)
theorem nbD_row {row col p : Int} (h : nbD c l ls row col p (col + 2)) (b : Int) (hb : b ≤ col - 1) : nbD c l ls row col (p + 1) b := fun y h1 h2 h3 h4 => by
  refine h y h1 h2 h3 ?_
  omega
theorem nbD_zero {row col : Int} : nbD c l ls row col (row - 1) (col - 1) := fun y h1 h2 h3 h4 => by omega
end
section
variable {c : Int} {l : List Int}
theorem stsL_len (i : Nat) : (stsL c l i).length ≤ i := by
  induction i with
  | zero => simp [stsL]
  | succ i ih =>
    unfold stsL; split
    · rw [List.length_append, List.length_singleton]; omega
    · omega
open Classical in
theorem tkB_at {L : List Nat} {ls : List Int} {y : Nat} (hy : y < l.length) : at_ false (tkB c l L ls) (y : Int) = decide ((∃ s ∈ L, Rch c l s y) ∨ (y : Int) ∈ ls) := by
  rw [at_eq false _ (by rw [tkB_len]; exact hy)]
  unfold tkB
  rw [List.getElem_map]
  exact decide_eq_decide.mpr (by rw [List.getElem_range])
open Classical in
theorem tkB_t {L : List Nat} {ls : List Int} {y : Nat} (hy : y < l.length) (h : at_ false (tkB c l L ls) (y : Int) = true) : (∃ s ∈ L, Rch c l s y) ∨ (y : Int) ∈ ls := by
  rw [tkB_at hy] at h; exact of_decide_eq_true h
open Classical in
theorem tkB_f {L : List Nat} {ls : List Int} {y : Nat} (hy : y < l.length) (h : at_ false (tkB c l L ls) (y : Int) = false) : (∀ s ∈ L, ¬ Rch c l s y) ∧ (y : Int) ∉ ls := by
  rw [tkB_at hy] at h
  have := of_decide_eq_false h
  exact ⟨fun s h1 h2 => this (.inl ⟨s, h1, h2⟩), fun h1 => this (.inr h1)⟩
theorem tkB_set {L : List Nat} {ls : List Int} {y : Nat} (hy : y < l.length) : (tkB c l L ls).set y true = tkB c l L (ls ++ [(y : Int)]) := by
  apply List.ext_getElem
  · rw [List.length_set, tkB_len, tkB_len]
  · intro j h1 h2
    simp only [tkB, List.getElem_set, List.getElem_map, List.getElem_range]
    by_cases e : y = j
    · subst e; rw [if_pos rfl]; simp
    · rw [if_neg e]
      apply decide_eq_decide.mpr
      have er : (List.range l.length)[j]'(by simpa [tkB_len] using h2) = j := List.getElem_range _
      rw [er]
      constructor
      · rintro (h | h)
        · exact .inl h
        · exact .inr (List.mem_append_left _ h)
      · rintro (h | h)
        · exact .inl h
        · rcases List.mem_append.mp h with h | h
          · exact .inr h
          · simp only [List.mem_singleton] at h; omega
theorem indL_set {ls : List Int} {t : Nat} (ht : t < ls.length) (h0 : 0 ≤ at_ 0 ls (t : Int)) (h1 : at_ 0 ls (t : Int) < l.length) : (indL l (ls.take t)).set (at_ 0 ls (t : Int)).toNat 1 = indL l (ls.take (t + 1)) := by
  obtain ⟨y, hy⟩ := Int.eq_ofNat_of_zero_le h0
  rw [take_at 0 ls ht, hy]
  apply List.ext_getElem
  · rw [List.length_set, indL_len, indL_len]
  · intro j g1 g2
    simp only [indL, List.getElem_set, List.getElem_map, List.getElem_range, Int.toNat_natCast]
    by_cases e : y = j
    · subst e; rw [if_pos rfl, if_pos (by simp)]
    · rw [if_neg e]
      by_cases m : (j : Int) ∈ ls.take t
      · rw [if_pos m, if_pos (by simp [m])]
      · rw [if_neg m, if_neg (by simp [m]; omega)]
theorem indL_nil : indL l [] = List.replicate l.length 0 := by
  apply List.ext_getElem
  · rw [indL_len, List.length_replicate]
  · intro j g1 g2
    simp [indL]
end
section
variable {c : Int} {l ls : List Int} {i t : Nat}
/-- A neighbour that is found is put behind the others. -/
theorem flP_found {row col xv y p q : Int} (h : flP c l i ls t) (ht : t < ls.length) (hx : at_ 0 ls (t : Int) = xv) (hr : row = xv / c) (hc : col = xv % c) (y0 : 0 ≤ y) (y1 : y < l.length) (hp : y / c = p) (hq : y % c = q) (rp : row - p ≤ 1 ∧ p - row ≤ 1) (cq : col - q ≤ 1 ∧ q - col ≤ 1) (on : at_ 0 l y = 1) (L : List Nat) (nt : at_ false (tkB c l L ls) y = false) (hd : nbD c l ls row col p q) :
    flP c l i (ls ++ [y]) t ∧ t < (ls ++ [y]).length ∧ (ls ++ [y]).take (t + 1) = ls.take (t + 1) ∧ at_ 0 (ls ++ [y]) (t : Int) = xv ∧ nbD c l (ls ++ [y]) row col p (q + 1) ∧ (tkB c l L ls).set y.toNat true = tkB c l L (ls ++ [y]) := by
  obtain ⟨Y, rfl⟩ := Int.eq_ofNat_of_zero_le y0
  have hm : xv ∈ ls := hx ▸ at_mem 0 ls (by omega) (by omega)
  obtain ⟨X, hX, _⟩ := h.2.1 xv hm
  have oY : onP l Y := ⟨by omega, on⟩
  have nY := (tkB_f (L := L) (by omega) nt).2
  have hn : nbP c X Y := by
    unfold nbP
    rw [← hX, ← hr, ← hc, hp, hq]
    exact ⟨rp, cq⟩
  refine ⟨flP_put h (x := X) (by rw [← hX]; exact hm) hn oY nY, by simp; omega, List.take_append_of_le_length (by omega), ?_, nbD_next (nbD_app hd) (fun z hz1 hz2 _ => ?_), by rw [Int.toNat_natCast]; exact tkB_set (by omega)⟩
  · rw [at_eq 0 _ (by simp; omega), List.getElem_append_left ht, ← at_eq 0 ls ht]; exact hx
  · have e1 := Int.emod_add_mul_ediv (z : Int) c
    have e2 := Int.emod_add_mul_ediv (Y : Int) c
    rw [hz1, hz2] at e1
    rw [hp, hq] at e2
    have : (z : Int) = (Y : Int) := by rw [← e1, ← e2]
    rw [this]; simp
/-- A place that is no cell of 1, taken, or out of the field. -/
theorem nbD_skip {row col p q : Int} {L : List Nat} (hd : nbD c l ls row col p q) (hL : ∀ s ∈ L, ∀ y : Nat, (y : Int) / c = p → (y : Int) % c = q → onP l y → Rch c l s y → (y : Int) ∈ ls) (h : ∀ y : Nat, (y : Int) / c = p → (y : Int) % c = q → onP l y → at_ false (tkB c l L ls) (y : Int) = true) : nbD c l ls row col p (q + 1) :=
  nbD_next hd (fun y h1 h2 h3 => by
    rcases tkB_t h3.1 (h y h1 h2 h3) with ⟨s, g1, g2⟩ | g
    · exact hL s g1 y h1 h2 h3 g2
    · exact g)
end
section
variable {c : Int} {l ls : List Int} {i t : Nat}
theorem nbD_skip2 {row col xv p q : Int} (h : flP c l i ls t) (ht : t < ls.length) (hx : at_ 0 ls (t : Int) = xv) (hr : row = xv / c) (hc : col = xv % c) (rp : row - p ≤ 1 ∧ p - row ≤ 1) (cq : col - q ≤ 1 ∧ q - col ≤ 1) (L : List Nat) (hnr : ∀ s ∈ L, ¬ Rch c l s i) (hd : nbD c l ls row col p q)
    (hs : ∀ y : Nat, (y : Int) / c = p → (y : Int) % c = q → onP l y → at_ false (tkB c l L ls) (y : Int) = true) : nbD c l ls row col p (q + 1) := by
  refine nbD_skip (L := L) hd (fun s hsL y h1 h2 h3 h4 => ?_) hs
  have hm : xv ∈ ls := hx ▸ at_mem 0 ls (by omega) (by omega)
  obtain ⟨X, hX, hX2⟩ := h.2.1 xv hm
  have hn : nbP c X y := by
    unfold nbP
    rw [← hX, ← hr, ← hc, h1, h2]
    exact ⟨rp, cq⟩
  exact absurd ((h4.step (nbP_symm hn) hX2.on.1).trans hX2.symm) (hnr s hsL)
end
end Go.Proofs.YthocjpfibegjcaaGreatDoor
/- Parts of a field, by plain law: the parts and their places. -/
namespace Go.Proofs.YthocjpfibegjcaaGreatDoor
open HL
set_option maxRecDepth 100000
noncomputable def prtF (r c : Int) (l : List Int) (s : Nat) : FdL := ⟨trR r c (aloL c l s), trC r c (aloL c l s), trL r c (aloL c l s)⟩
noncomputable def prtL (r c : Int) (l : List Int) (L : List Nat) : List FdL := L.map (prtF r c l)
noncomputable def plcL (r c : Int) (l : List Int) (L : List Nat) : List Int := L.flatMap fun s => [(trm r c (aloL c l s)).1, (trm r c (aloL c l s)).2.2.1]
section
variable {r c : Int} {l : List Int} {L : List Nat}
theorem prtL_len : (prtL r c l L).length = L.length := by simp [prtL]
theorem plcL_len : (plcL r c l L).length = 2 * L.length := by
  induction L with
  | nil => rfl
  | cons a L ih => simp only [plcL, List.flatMap_cons, List.length_append, List.length_cons, List.length_nil] at ih ⊢; omega
theorem prtL_snoc (s : Nat) : prtL r c l L ++ [⟨trR r c (aloL c l s), trC r c (aloL c l s), trL r c (aloL c l s)⟩] = prtL r c l (L ++ [s]) := by simp [prtL, prtF]
theorem plcL_snoc (s : Nat) : plcL r c l L ++ [(trm r c (aloL c l s)).1, (trm r c (aloL c l s)).2.2.1] = plcL r c l (L ++ [s]) := by simp [plcL]
theorem trS_pos {m : List Int} (hs : sidesF r c) {x : Nat} (hx : at_ 0 m (x : Int) = 1) : ∀ d : Nat, 0 ≤ (trS r c m (x + 1 + d)).2.1
  | 0 => by
    rw [Nat.add_zero, trS_t hx]
    have : 0 ≤ (x : Int) / c := Int.ediv_nonneg (by omega) (by have := hs.2; omega)
    show 0 ≤ max _ _
    omega
  | d + 1 => by
    have ih := trS_pos hs hx d
    rw [show x + 1 + (d + 1) = (x + 1 + d) + 1 by omega]
    by_cases h : at_ 0 m ((x + 1 + d : Nat) : Int) = 1
    · rw [trS_t h]
      show 0 ≤ max _ _
      omega
    · rw [trS_f h]; exact ih
theorem alo_pos {s : Nat} (hs : sidesF r c) (hl : (l.length : Int) = r * c) (h : onP l s) : 0 ≤ (trm r c (aloL c l s)).2.1 := by
  have e : at_ 0 (aloL c l s) (s : Int) = 1 := by
    rw [at_eq 0 _ (by rw [aloL_len]; exact h.1)]
    unfold aloL
    rw [List.getElem_map, List.getElem_range, if_pos (.base h)]
  have := trS_pos hs e ((r * c).toNat - (s + 1))
  have h1 := h.1
  rw [show s + 1 + ((r * c).toNat - (s + 1)) = (r * c).toNat by omega] at this
  exact this
theorem tkB_zero : tkB c l (stsL c l 0) [] = List.replicate l.length false := by
  apply List.ext_getElem
  · rw [tkB_len, List.length_replicate]
  · intro j g1 g2
    simp [tkB, stsL]
end
end Go.Proofs.YthocjpfibegjcaaGreatDoor
/- Parts of fields: the program's and the reference's. -/
namespace Go.Proofs.YthocjpfibegjcaaGreatDoor
open HL
set_option maxRecDepth 100000
set_option maxHeartbeats 2000000 in
theorem C.spec_l05Parts {p vc : Value} {r c : Int} {l : List Int}  {H : Hp} {K : Value → Hp → Prop} (hp0 : Cel H p [(.int .i64 (r)), (.int .i64 (c)), vc]) (hvc0 : Sl eI H vc l) (hf : fieldN 1 r c l)
    (hk : ∀ u1 Su1 u2 H', Fam H' u1 Su1 (prtL r c l (stsL c l l.length)) → Own eI H' u2 (plcL r c l (stsL c l l.length)) → Nws H Su1 → Nw H u2 → Apt Su1 u2 → Le H H' → K (.tuple #[u1, u2]) H') : HT prg I.spec_l05Parts [p].toArray H K := by
  have lE := Le.refl H
  have hp := hp0
  have hvc := hvc0
  refine R.spec_l05Parts ?_
  unfold F.spec_l05Parts
  have hs := hf.1
  have hl := hf.2.1
  have q1 := hs.1
  have q2 := hs.2
  have qm := sidesF_mul hs
  have hlN : l.length = r.toNat * c.toNat := by have e := congrArg Int.toNat hl; rw [Int.toNat_natCast, Int.toNat_mul (by omega) (by omega)] at e; exact e
  refine ob_i (hp.nilC) ?_
  refine ob_i (hp.fa 2) ?_
  refine ob_i (hp.ld 2 rfl) ?_
  refine ob_i (hvc.len) ?_
  refine Own.mk_ (z := (false : Bool)) (by omega) (by omega) (by omega) (by omega) (fun tk H1 otk nn2 le3 => ?_)
  have ntk : Nw H tk := nn2.le lE
  replace hp := hp.le le3
  replace hvc := hvc.le le3
  replace lE := lE.trans le3
  refine bSE_fam (fun ps Sps H4 ops nn5 le7 => ?_)
  have atkXps : Apt tk Sps := Apt.of_nws otk.known nn5
  have nps : Nws H Sps := nn5.le lE
  replace otk := otk.le le7
  replace hp := hp.le le7
  replace hvc := hvc.le le7
  replace lE := lE.trans le7
  refine bS_nil (enc := eI) (fun pl H8 opl nn9 kk10 le11 => ?_)
  have atkXpl : Apart tk pl := otk.apart nn9
  have apsXpl : Apt Sps pl := Apt.of_nw ops.known nn9
  have npl : Nw H pl := nn9.le lE
  replace otk := otk.le le11
  replace ops := ops.le le11
  replace hp := hp.le le11
  replace hvc := hvc.le le11
  replace lE := lE.trans le11
  refine jn_i (fun σ' H' => ∃ ps, ∃ Sps, ∃ pl, σ' 5 = ps ∧ σ' 6 = pl ∧ Fam H' ps Sps (prtL r c l (stsL c l l.length)) ∧ Own eI H' pl (plcL r c l (stsL c l l.length)) ∧ Nws H Sps ∧ Nw H pl ∧ Apt Sps pl ∧ Le H H') (fun σ12 H12 hP => ?_) (fun J12 hJ12 => ?_)
  · skip
    obtain ⟨ps, Sps, pl, g5L12, g6L12, ops, opl, nps, npl, apsXpl, lE⟩ := hP
    have hp := hp0.le lE
    have hvc := hvc0.le lE
    try simp only [g5L12, g6L12]
    skip
    exact hk  ps _ pl _ ops opl nps npl apsXpl lE
  refine ob_i (hp.nilC) ?_
  refine ob_i (hp.fa 2) ?_
  refine ob_i (hp.ld 2 rfl) ?_
  refine ob_i (hvc.len) ?_
  refine ⟨fun n' σ' H' => ∃ i : Nat, n' = l.length - i ∧ i ≤ l.length ∧ ∃ ps, ∃ Sps, ∃ pl, σ' 0 = p ∧ σ' 4 = tk ∧ σ' 5 = ps ∧ σ' 6 = pl ∧ σ' 32 = (.int .i64 (((l).length : Int))) ∧ σ' 33 = (.int .i64 ((i : Int))) ∧ Own eB H' tk (tkB c l (stsL c l i) []) ∧ Fam H' ps Sps (prtL r c l (stsL c l i)) ∧ Own eI H' pl (plcL r c l (stsL c l i)) ∧ Nws H Sps ∧ Apt tk Sps ∧ Nw H pl ∧ Apart tk pl ∧ Apt Sps pl ∧ Le H H',
    ⟨_, 0, rfl, by omega, ps, Sps, pl, rfl, rfl, rfl, rfl, rfl, (congrArg (Value.int .i64) (by first | omega | rfl | (simp; done))), (Own.cast (by rw [tkB_zero]; simp) otk), (Fam.cast (by rfl) ops), (Own.cast (by rfl) opl), nps, atkXps, npl, atkXpl, apsXpl, lE⟩, ?_⟩
  rintro n13 σ13 H13 ⟨i, rfl, hiN, ps, Sps, pl, g0L13, g4L13, g5L13, g6L13, g32L13, g33L13, otk, ops, opl, nps, atkXps, npl, atkXpl, apsXpl, lE⟩
  have hp := hp0.le lE
  have hvc := hvc0.le lE
  try simp only [g0L13, g4L13, g5L13, g6L13, g32L13, g33L13]
  have tl := tkB_len (c := c) (l := l) (L := (stsL c l i)) (ls := [])
  have pl1 := prtL_len (r := r) (c := c) (l := l) (L := (stsL c l i))
  have pl2 := plcL_len (r := r) (c := c) (l := l) (L := (stsL c l i))
  have sl := stsL_len (c := c) (l := l) i
  refine ob_i (vInt_lss _ _ _) ?_
  refine cnd_d (fun hg14 => ?_) (fun hg14 => ?_)
  · skip
    have ti := hg14
    refine jn_i (fun σ' H' => ∃ ps, ∃ Sps, ∃ pl, σ' 0 = p ∧ σ' 4 = tk ∧ σ' 5 = ps ∧ σ' 6 = pl ∧ σ' 32 = (.int .i64 (((l).length : Int))) ∧ σ' 33 = (.int .i64 ((i : Int))) ∧ Own eB H' tk (tkB c l (stsL c l (i + 1)) []) ∧ Fam H' ps Sps (prtL r c l (stsL c l (i + 1))) ∧ Own eI H' pl (plcL r c l (stsL c l (i + 1))) ∧ Nws H Sps ∧ Apt tk Sps ∧ Nw H pl ∧ Apart tk pl ∧ Apt Sps pl ∧ Le H H') (fun σ15 H15 hP => ?_) (fun J15 hJ15 => ?_)
    · skip
      obtain ⟨ps, Sps, pl, g0L15, g4L15, g5L15, g6L15, g32L15, g33L15, otk, ops, opl, nps, atkXps, npl, atkXpl, apsXpl, lE⟩ := hP
      have hp := hp0.le lE
      have hvc := hvc0.le lE
      try simp only [g33L15]
      refine ob_i (vInt_add (by omega) (by omega)) ?_
      exact nxt (l.length - (i + 1)) (by omega) ⟨i + 1, rfl, by omega, ps, Sps, pl, g0L15, g4L15, g5L15, g6L15, g32L15, (congrArg (Value.int .i64) (by first | omega | rfl | (simp; done))), otk, ops, opl, nps, atkXps, npl, atkXpl, apsXpl, lE⟩
    refine ob_i (hp.nilC) ?_
    refine ob_i (hp.fa 2) ?_
    refine ob_i (hp.ld 2 rfl) ?_
    refine ob_i (hvc.ix (by omega) (by omega)) ?_
    refine ob_i (hvc.ld 0 (by omega) (by omega)) ?_
    refine ob_i (vInt_neq _ _ _) ?_
    by_cases hc16 : (at_ 0 (l) ((i : Int))) ≠ 1
    · skip
      refine gop_e (decide_eq_true hc16) ?_
      refine gop_st ?_
      refine gop_e (decide_eq_true hc16) ?_
      refine gop_st ?_
      refine gop_e (decide_eq_true hc16) ?_
      refine gop_st ?_
      refine gop_e (decide_eq_true hc16) ?_
      refine gop_st ?_
      refine ob_i (vPick_et (decide_eq_true hc16) _ _) ?_
      refine cnd_t1 ?_
      have hno : stsL c l (i + 1) = (stsL c l i) := stsL_f (fun g => hc16 g.1.2)
      rw [← hno] at otk ops opl
      exact hJ15 _ _ ⟨ps, Sps, pl, g0L13, g4L13, g5L13, g6L13, g32L13, g33L13, otk, ops, opl, nps, atkXps, npl, atkXpl, apsXpl, lE⟩
    · skip
      refine gop_e (decide_eq_false hc16) ?_
      refine gop_rf ?_
      refine gop_e (decide_eq_false hc16) ?_
      refine gop_rf ?_
      refine gop_e (decide_eq_false hc16) ?_
      refine gop_rf ?_
      refine ob_i (otk.sl.ix (by omega) (by omega)) ?_
      refine gop_e (decide_eq_false hc16) ?_
      refine gop_rf ?_
      refine ob_i (otk.sl.ld false (by omega) (by omega)) ?_
      refine ob_i (vPick_ef (decide_eq_false hc16) _ _) ?_
      refine cnd_i (fun hg17 => ?_) (fun hg17 => ?_)
      · skip
        have hno : stsL c l (i + 1) = (stsL c l i) := stsL_f (fun g => (tkB_t (by omega) hg17).elim (fun ⟨s, h1, h2⟩ => g.2 s h1 h2) (fun h1 => by simp at h1))
        rw [← hno] at otk ops opl
        exact hJ15 _ _ ⟨ps, Sps, pl, g0L13, g4L13, g5L13, g6L13, g32L13, g33L13, otk, ops, opl, nps, atkXps, npl, atkXpl, apsXpl, lE⟩
      · skip
        refine ob_i (hp.nilC) ?_
        refine ob_i (hp.fa 0) ?_
        refine ob_i (hp.ld 0 rfl) ?_
        refine ob_i (hp.nilC) ?_
        refine ob_i (hp.fa 1) ?_
        refine ob_i (hp.ld 1 rfl) ?_
        have hon : onP l i := ⟨by omega, Decidable.not_not.mp hc16⟩
        have hnr : ∀ s ∈ (stsL c l i), ¬ Rch c l s i := (tkB_f (by omega) (by first | exact hg17 | exact Bool.eq_false_iff.mpr hg17)).1
        refine C.spec_l04New (by first | omega | assumption) (by first | omega | assumption) (by first | omega | assumption) (by first | omega | assumption) (fun  ac H18 oac nn20  le19 => ?_)
        have atkXac : Apart tk ac := otk.apart nn20
        have apsXac : Apt Sps ac := Apt.of_nw ops.known nn20
        have aplXac : Apart pl ac := opl.apart nn20
        have nac : Nw H ac := nn20.le lE
        replace otk := otk.le le19
        replace ops := ops.le le19
        replace opl := opl.le le19
        replace hp := hp.le le19
        replace hvc := hvc.le le19
        replace lE := lE.trans le19
        refine ⟨le19, ?_⟩
        refine nw_i (fun al H21 oal nn22 le23 => ?_)
        have atkXal : Apart tk al := otk.apart nn22
        have apsXal : Apt Sps al := Apt.of_nw ops.known nn22
        have aplXal : Apart pl al := opl.apart nn22
        have aacXal : Apart ac al := oac.apart nn22
        have nal : Nw H al := nn22.le lE
        replace otk := otk.le le23
        replace ops := ops.le le23
        replace opl := opl.le le23
        replace oac := oac.le le23
        replace hp := hp.le le23
        replace hvc := hvc.le le23
        replace lE := lE.trans le23
        replace oal : Cel H21 al [(.int .i64 (0)), (.int .i64 (0)), (.slice none 0 0)] := oal
        refine oal.stn (ws := [(.int .i64 (r)), (.int .i64 (c)), ac]) rfl rfl (oc1 rfl (oc1 rfl (oc1 oac.one oc0))) (fun H24 oal off25 => ?_)
        replace otk := otk.off off25 atkXal
        replace ops := ops.off off25 apsXal
        replace opl := opl.off off25 aplXal
        replace oac := oac.off off25 aacXal
        replace hp := hp0.le (off25.le lE nal)
        replace hvc := hvc0.le (off25.le lE nal)
        replace lE := off25.le lE nal
        replace oal : Cel H24 al [(.int .i64 (r)), (.int .i64 (c)), ac] := oal
        refine bS_i (enc := eI) (l := [(i : Int)]) (by omega) rfl (by kernel_rfl) (fun q9 H26 oq9 nn27 le29 => ?_)
        have atkXq9 : Apart tk q9 := otk.apart nn27
        have apsXq9 : Apt Sps q9 := Apt.of_nw ops.known nn27
        have aplXq9 : Apart pl q9 := opl.apart nn27
        have aacXq9 : Apart ac q9 := oac.apart nn27
        have aalXq9 : Apart al q9 := oal.apart nn27
        have nq9 : Nw H q9 := nn27.le lE
        replace otk := otk.le le29
        replace ops := ops.le le29
        replace opl := opl.le le29
        replace oac := oac.le le29
        replace oal := oal.le le29
        replace hp := hp.le le29
        replace hvc := hvc.le le29
        replace lE := lE.trans le29
        refine ob_i (otk.sl.ix (by omega) (by omega)) ?_
        refine otk.st (x := true) (by omega) (by omega) rfl rfl (fun H30 otk off31 => ?_)
        replace ops := ops.off off31 atkXps.symm
        replace opl := opl.off off31 atkXpl.symm
        replace oac := oac.off off31 atkXac.symm
        replace oal := oal.off off31 atkXal.symm
        replace oq9 := oq9.off off31 atkXq9.symm
        replace hp := hp0.le (off31.le lE ntk)
        replace hvc := hvc0.le (off31.le lE ntk)
        replace lE := off31.le lE ntk
        refine jn_i (fun σ' H' => σ' 0 = p ∧ σ' 4 = tk ∧ σ' 5 = ps ∧ σ' 6 = pl ∧ σ' 8 = al ∧ σ' 32 = (.int .i64 (((l).length : Int))) ∧ σ' 33 = (.int .i64 ((i : Int))) ∧ Own eB H' tk (tkB c l ((stsL c l i) ++ [i]) []) ∧ Fam H' ps Sps (prtL r c l (stsL c l i)) ∧ Own eI H' pl (plcL r c l (stsL c l i)) ∧ Own eI H' ac (aloL c l i) ∧ Cel H' al [(.int .i64 (r)), (.int .i64 (c)), ac] ∧ Le H H') (fun σ32 H32 hP => ?_) (fun J32 hJ32 => ?_)
        · skip
          obtain ⟨g0L32, g4L32, g5L32, g6L32, g8L32, g32L32, g33L32, otk, ops, opl, oac, oal, lE⟩ := hP
          have hp := hp0.le lE
          have hvc := hvc0.le lE
          try simp only [g5L32, g6L32, g8L32]
          have hpos : ¬ (trm r c (aloL c l i)).2.1 < 0 := by have := alo_pos hs hl hon; omega
          refine C.spec_l05Trim oal oac.sl (by first | omega | assumption) (by rw [aloL_len]; exact hl) (fun hc33  H34    le35 => ?_) (fun hc36 u39 H37 ou39 nn40  le38 => ?_)
          · skip
            exact absurd hc33 hpos
          · skip
            have atkXu39 : Apart tk u39 := otk.apart nn40
            have apsXu39 : Apt Sps u39 := Apt.of_nw ops.known nn40
            have aplXu39 : Apart pl u39 := opl.apart nn40
            have aacXu39 : Apart ac u39 := oac.apart nn40
            have aalXu39 : Apart al u39 := oal.apart nn40
            have nu39 : Nw H u39 := nn40.le lE
            replace otk := otk.le le38
            replace ops := ops.le le38
            replace opl := opl.le le38
            replace oac := oac.le le38
            replace oal := oal.le le38
            replace hp := hp.le le38
            replace hvc := hvc.le le38
            replace lE := lE.trans le38
            refine ob_i (vExt_40 _ _ _ _) ?_
            refine ob_i (vExt_41 _ _ _ _) ?_
            refine ob_i (vExt_42 _ _ _ _) ?_
            refine ob_i (vExt_43 _ _ _ _) ?_
            refine nw_i (fun p41 H42 op41 nn43 le44 => ?_)
            have atkXp41 : Apart tk p41 := otk.apart nn43
            have apsXp41 : Apt Sps p41 := Apt.of_nw ops.known nn43
            have aplXp41 : Apart pl p41 := opl.apart nn43
            have aacXp41 : Apart ac p41 := oac.apart nn43
            have aalXp41 : Apart al p41 := oal.apart nn43
            have au39Xp41 : Apart u39 p41 := ou39.apart nn43
            have np41 : Nw H p41 := nn43.le lE
            replace otk := otk.le le44
            replace ops := ops.le le44
            replace opl := opl.le le44
            replace oac := oac.le le44
            replace oal := oal.le le44
            replace ou39 := ou39.le le44
            replace hp := hp.le le44
            replace hvc := hvc.le le44
            replace lE := lE.trans le44
            replace op41 : Cel H42 p41 [(.int .i64 (0)), (.int .i64 (0)), (.slice none 0 0)] := op41
            refine op41.stn (ws := [(.int .i64 (trR r c (aloL c l i))), (.int .i64 (trC r c (aloL c l i))), u39]) rfl rfl (oc1 rfl (oc1 rfl (oc1 ou39.one oc0))) (fun H45 op41 off46 => ?_)
            replace otk := otk.off off46 atkXp41
            replace ops := ops.off off46 apsXp41
            replace opl := opl.off off46 aplXp41
            replace oac := oac.off off46 aacXp41
            replace oal := oal.off off46 aalXp41
            replace ou39 := ou39.off off46 au39Xp41
            replace hp := hp0.le (off46.le lE np41)
            replace hvc := hvc0.le (off46.le lE np41)
            replace lE := off46.le lE np41
            replace op41 : Cel H45 p41 [(.int .i64 (trR r c (aloL c l i))), (.int .i64 (trC r c (aloL c l i))), u39] := op41
            refine ob_i (op41.ldn rfl) ?_
            refine bSE_one (enc := encFv) (x := (⟨trR r c (aloL c l i), trC r c (aloL c l i), u39⟩ : Fv)) rfl rfl (by omega) (by omega) rfl (fun u47 H48 ou47 nn49 le51 => ?_) rfl
            have atkXu47 : Apart tk u47 := otk.apart nn49
            have apsXu47 : Apt Sps u47 := Apt.of_nw ops.known nn49
            have aplXu47 : Apart pl u47 := opl.apart nn49
            have aacXu47 : Apart ac u47 := oac.apart nn49
            have aalXu47 : Apart al u47 := oal.apart nn49
            have au39Xu47 : Apart u39 u47 := ou39.apart nn49
            have ap41Xu47 : Apart p41 u47 := op41.apart nn49
            have nu47 : Nw H u47 := nn49.le lE
            replace otk := otk.le le51
            replace ops := ops.le le51
            replace opl := opl.le le51
            replace oac := oac.le le51
            replace oal := oal.le le51
            replace ou39 := ou39.le le51
            replace op41 := op41.le le51
            replace hp := hp.le le51
            replace hvc := hvc.le le51
            replace lE := lE.trans le51
            refine Fam.push ops rfl (ou47.sl encFv_n) ou39 apsXu39.symm (by omega) (by first | omega | (simp; omega)) (fun u56 Su56 H52 ou56 off53 hb54 hx55 oxu39 => ?_)
            have atkXu56 : Apt tk Su56 := Apt.push otk.known atkXps atkXu39 hb54
            have aplXu56 : Apt pl Su56 := Apt.push opl.known apsXpl.symm aplXu39 hb54
            have aacXu56 : Apt ac Su56 := Apt.push oac.known apsXac.symm aacXu39 hb54
            have aalXu56 : Apt al Su56 := Apt.push oal.known apsXal.symm aalXu39 hb54
            have ap41Xu56 : Apt p41 Su56 := Apt.push op41.known apsXp41.symm au39Xp41.symm hb54
            have au47Xu56 : Apt u47 Su56 := Apt.push ou47.known apsXu47.symm au39Xu47.symm hb54
            have nu56 : Nws H Su56 := Nws.push lE nps nu39 hb54
            replace otk := otk.offS off53 atkXps
            replace opl := opl.offS off53 apsXpl.symm
            replace oac := oac.offS off53 apsXac.symm
            replace oal := oal.offS off53 apsXal.symm
            replace op41 := op41.offS off53 apsXp41.symm
            replace ou47 := ou47.offS off53 apsXu47.symm
            replace hp := hp0.le (off53.le lE nps)
            replace hvc := hvc0.le (off53.le lE nps)
            replace lE := off53.le lE nps
            replace ou39 := oxu39.ro
            refine bS_i (enc := eI) (l := [(trm r c (aloL c l i)).1, (trm r c (aloL c l i)).2.2.1]) (by omega) rfl (by kernel_rfl) (fun u57 H58 ou57 nn59 le61 => ?_)
            have atkXu57 : Apart tk u57 := otk.apart nn59
            have aplXu57 : Apart pl u57 := opl.apart nn59
            have aacXu57 : Apart ac u57 := oac.apart nn59
            have aalXu57 : Apart al u57 := oal.apart nn59
            have au39Xu57 : Apart u39 u57 := ou39.apart nn59
            have ap41Xu57 : Apart p41 u57 := op41.apart nn59
            have au47Xu57 : Apart u47 u57 := ou47.apart nn59
            have au56Xu57 : Apt Su56 u57 := Apt.of_nw ou56.known nn59
            have nu57 : Nw H u57 := nn59.le lE
            replace otk := otk.le le61
            replace opl := opl.le le61
            replace oac := oac.le le61
            replace oal := oal.le le61
            replace ou39 := ou39.le le61
            replace op41 := op41.le le61
            replace ou47 := ou47.le le61
            replace ou56 := ou56.le le61
            replace hp := hp.le le61
            replace hvc := hvc.le le61
            replace lE := lE.trans le61
            refine apd_any opl ou57.sl (fun _ => rfl) (by omega) (by first | omega | (simp only [List.length_cons, List.length_nil, List.length_append, List.length_replicate, List.length_map, List.length_range]; omega)) (fun u65 H62 ou65 off63 hb64 => ?_)
            have atkXu65 : Apart tk u65 := Apart.ap2 otk.known atkXpl hb64
            have aacXu65 : Apart ac u65 := Apart.ap2 oac.known aplXac.symm hb64
            have aalXu65 : Apart al u65 := Apart.ap2 oal.known aplXal.symm hb64
            have au39Xu65 : Apart u39 u65 := Apart.ap2 ou39.known aplXu39.symm hb64
            have ap41Xu65 : Apart p41 u65 := Apart.ap2 op41.known aplXp41.symm hb64
            have au47Xu65 : Apart u47 u65 := Apart.ap2 ou47.known aplXu47.symm hb64
            have au56Xu65 : Apt Su56 u65 := Apt.ap2 ou56.known aplXu56.symm hb64
            have au57Xu65 : Apart u57 u65 := Apart.ap2 ou57.known aplXu57.symm hb64
            have nu65 : Nw H u65 := Nw.ap2 npl lE hb64
            replace otk := otk.off off63 atkXpl
            replace oac := oac.off off63 aplXac.symm
            replace oal := oal.off off63 aplXal.symm
            replace ou39 := ou39.off off63 aplXu39.symm
            replace op41 := op41.off off63 aplXp41.symm
            replace ou47 := ou47.off off63 aplXu47.symm
            replace ou56 := ou56.off off63 aplXu56.symm
            replace ou57 := ou57.off off63 aplXu57.symm
            replace hp := hp0.le (off63.le lE npl)
            replace hvc := hvc0.le (off63.le lE npl)
            replace lE := off63.le lE npl
            have hyes : stsL c l (i + 1) = (stsL c l i) ++ [i] := stsL_t hon hnr
            exact hJ15 _ _ ⟨u56, Su56, u65, g0L32, g4L32, rfl, rfl, g32L32, g33L32, (Own.cast (by rw [hyes]) otk), (Fam.cast (by rw [hyes]; exact prtL_snoc i) ou56), (Own.cast (by rw [hyes]; exact plcL_snoc i) ou65), nu56, atkXu56, nu65, atkXu65, au56Xu65, lE⟩
        refine ⟨fun n' σ' H' => ∃ t : Nat, n' = l.length - t ∧ t ≤ l.length ∧ ∃ q9, ∃ ls : List Int, σ' 0 = p ∧ σ' 4 = tk ∧ σ' 5 = ps ∧ σ' 6 = pl ∧ σ' 8 = al ∧ σ' 9 = q9 ∧ σ' 10 = (.int .i64 ((t : Int))) ∧ σ' 32 = (.int .i64 (((l).length : Int))) ∧ σ' 33 = (.int .i64 ((i : Int))) ∧ Own eB H' tk (tkB c l (stsL c l i) ls) ∧ Fam H' ps Sps (prtL r c l (stsL c l i)) ∧ Own eI H' pl (plcL r c l (stsL c l i)) ∧ Own eI H' ac (indL l (ls.take t)) ∧ Cel H' al [(.int .i64 (r)), (.int .i64 (c)), ac] ∧ Own eI H' q9 (ls) ∧ Nw H q9 ∧ Apart tk q9 ∧ Apt Sps q9 ∧ Apart pl q9 ∧ Apart ac q9 ∧ Apart al q9 ∧ Le H H' ∧ flP c l i ls t,
          ⟨_, 0, rfl, by omega, q9, [(i : Int)], g0L13, g4L13, g5L13, g6L13, rfl, rfl, (congrArg (Value.int .i64) (by first | omega | rfl | (simp; done))), g32L13, g33L13, (Own.cast (tkB_set hon.1) otk), ops, opl, (Own.cast (by rw [List.take_zero, indL_nil, hlN]) oac), oal, (Own.cast (by first | rfl | (simp; done)) oq9), nq9, atkXq9, apsXq9, aplXq9, aacXq9, aalXq9, lE, (flP_start hon)⟩, ?_⟩
        rintro n66 σ66 H66 ⟨t, rfl, htN, q9, ls, g0L66, g4L66, g5L66, g6L66, g8L66, g9L66, g10L66, g32L66, g33L66, otk, ops, opl, oac, oal, oq9, nq9, atkXq9, apsXq9, aplXq9, aacXq9, aalXq9, lE, hfl⟩
        have hp := hp0.le lE
        have hvc := hvc0.le lE
        try simp only [g0L66, g4L66, g8L66, g9L66, g10L66]
        have fl2 := flP_len hfl
        have tl2 := tkB_len (c := c) (l := l) (L := (stsL c l i)) (ls := ls)
        have il := indL_len (l := l) (ls := ls.take t)
        refine ob_i (oq9.len) ?_
        refine ob_i (vInt_lss _ _ _) ?_
        refine cnd_d (fun hg67 => ?_) (fun hg67 => ?_)
        · skip
          have tt := hg67
          obtain ⟨xs, hxs⟩ : ∃ xs, xs = ls.take (t + 1) := ⟨_, rfl⟩
          have xb := fl2.2 _ (at_mem 0 ls (i := (t : Int)) (by omega) (by omega))
          have ix := indL_set (l := l) (ls := ls) (t := t) (by omega) xb.1 xb.2
          rw [← hxs] at ix
          have rb0 := rc_bnd (r := r) (c := c) (x := at_ 0 ls (t : Int)) (by omega) xb.1 (by omega) rfl rfl
          obtain ⟨xv, hxv0⟩ : ∃ x : Int, x = at_ 0 ls (t : Int) := ⟨_, rfl⟩
          refine jn_i (fun σ' H' => ∃ q9, ∃ ls : List Int, σ' 0 = p ∧ σ' 4 = tk ∧ σ' 5 = ps ∧ σ' 6 = pl ∧ σ' 8 = al ∧ σ' 9 = q9 ∧ σ' 10 = (.int .i64 ((t : Int))) ∧ σ' 32 = (.int .i64 (((l).length : Int))) ∧ σ' 33 = (.int .i64 ((i : Int))) ∧ Own eB H' tk (tkB c l (stsL c l i) ls) ∧ Fam H' ps Sps (prtL r c l (stsL c l i)) ∧ Own eI H' pl (plcL r c l (stsL c l i)) ∧ Own eI H' ac (indL l xs) ∧ Cel H' al [(.int .i64 (r)), (.int .i64 (c)), ac] ∧ Own eI H' q9 (ls) ∧ Nw H q9 ∧ Apart tk q9 ∧ Apt Sps q9 ∧ Apart pl q9 ∧ Apart ac q9 ∧ Apart al q9 ∧ Le H H' ∧ flP c l i ls (t + 1) ∧ ls.take (t + 1) = xs) (fun σ68 H68 hP => ?_) (fun J68 hJ68 => ?_)
          · skip
            obtain ⟨q9, ls, g0L68, g4L68, g5L68, g6L68, g8L68, g9L68, g10L68, g32L68, g33L68, otk, ops, opl, oac, oal, oq9, nq9, atkXq9, apsXq9, aplXq9, aacXq9, aalXq9, lE, hfn, hx1⟩ := hP
            have hp := hp0.le lE
            have hvc := hvc0.le lE
            try simp only [g10L68]
            refine ob_i (vInt_add (by omega) (by omega)) ?_
            exact nxt (l.length - (t + 1)) (by omega) ⟨t + 1, rfl, by omega, q9, _, g0L68, g4L68, g5L68, g6L68, g8L68, g9L68, (congrArg (Value.int .i64) (by first | omega | rfl | (simp; done))), g32L68, g33L68, otk, ops, opl, (Own.cast (by rw [hx1]) oac), oal, oq9, nq9, atkXq9, apsXq9, aplXq9, aacXq9, aalXq9, lE, hfn⟩
          refine ob_i (oal.fa 2) ?_
          refine ob_i (oal.ld 2 rfl) ?_
          refine ob_i (oq9.sl.ix (by omega) (by omega)) ?_
          refine ob_i (oq9.sl.ld 0 (by omega) (by omega)) ?_
          refine ob_i (oac.sl.ix (by omega) (by omega)) ?_
          refine oac.st (x := 1) (by omega) (by omega) rfl rfl (fun H69 oac off70 => ?_)
          replace otk := otk.off off70 atkXac
          replace ops := ops.off off70 apsXac
          replace opl := opl.off off70 aplXac
          replace oal := oal.off off70 aacXal.symm
          replace oq9 := oq9.off off70 aacXq9.symm
          replace hp := hp0.le (off70.le lE nac)
          replace hvc := hvc0.le (off70.le lE nac)
          replace lE := off70.le lE nac
          refine ob_i (oq9.sl.ix (by omega) (by omega)) ?_
          refine ob_i (oq9.sl.ld 0 (by omega) (by omega)) ?_
          refine ob_i (hp.nilC) ?_
          refine ob_i (hp.fa 1) ?_
          refine ob_i (hp.ld 1 rfl) ?_
          refine ob_i (vInt_quoN (by omega) (by omega) (by omega)) ?_
          obtain ⟨row, hrow⟩ : ∃ x : Int, x = (at_ 0 (ls) ((t : Int))) / c := ⟨_, rfl⟩
          rw [← hrow]
          refine ob_i (oq9.sl.ix (by omega) (by omega)) ?_
          refine ob_i (oq9.sl.ld 0 (by omega) (by omega)) ?_
          refine ob_i (hp.nilC) ?_
          refine ob_i (hp.fa 1) ?_
          refine ob_i (hp.ld 1 rfl) ?_
          have rm71 := And.intro (Int.emod_nonneg (at_ 0 (ls) ((t : Int))) (b := c) (by omega)) (Int.emod_lt_of_pos (at_ 0 (ls) ((t : Int))) (b := c) (by omega))
          refine ob_i (vInt_remN (by omega) (by omega)) ?_
          obtain ⟨col, hcol⟩ : ∃ x : Int, x = (at_ 0 (ls) ((t : Int))) % c := ⟨_, rfl⟩
          rw [← hcol]
          refine ob_i (vInt_sub (by omega) (by omega)) ?_
          refine ⟨fun n' σ' H' => ∃ a : Nat, n' = 3 - a ∧ a ≤ 3 ∧ ∃ q9, ∃ ls : List Int, σ' 0 = p ∧ σ' 4 = tk ∧ σ' 5 = ps ∧ σ' 6 = pl ∧ σ' 8 = al ∧ σ' 9 = q9 ∧ σ' 10 = (.int .i64 ((t : Int))) ∧ σ' 11 = (.int .i64 (row)) ∧ σ' 12 = (.int .i64 (col)) ∧ σ' 13 = (.int .i64 (row - 1 + (a : Int))) ∧ σ' 32 = (.int .i64 (((l).length : Int))) ∧ σ' 33 = (.int .i64 ((i : Int))) ∧ Own eB H' tk (tkB c l (stsL c l i) ls) ∧ Fam H' ps Sps (prtL r c l (stsL c l i)) ∧ Own eI H' pl (plcL r c l (stsL c l i)) ∧ Own eI H' ac (indL l xs) ∧ Cel H' al [(.int .i64 (r)), (.int .i64 (c)), ac] ∧ Own eI H' q9 (ls) ∧ Nw H q9 ∧ Apart tk q9 ∧ Apt Sps q9 ∧ Apart pl q9 ∧ Apart ac q9 ∧ Apart al q9 ∧ Le H H' ∧ flP c l i ls t ∧ t < ls.length ∧ ls.take (t + 1) = xs ∧ at_ 0 ls (t : Int) = xv ∧ nbD c l ls row col (row - 1 + (a : Int)) (col - 1),
            ⟨_, 0, rfl, by omega, q9, _, g0L66, g4L66, g5L66, g6L66, g8L66, g9L66, g10L66, rfl, rfl, (congrArg (Value.int .i64) (by first | omega | rfl | (simp; done))), g32L66, g33L66, by simpa using otk, ops, opl, (Own.cast ix oac), oal, (Own.cast (by first | rfl | (simp; done)) oq9), nq9, atkXq9, apsXq9, aplXq9, aacXq9, aalXq9, lE, hfl, (by omega), hxs.symm, hxv0.symm, (by rw [show row - 1 + ((0 : Nat) : Int) = row - 1 by omega]; exact nbD_zero)⟩, ?_⟩
          rintro n72 σ72 H72 ⟨a, rfl, haN, q9, ls, g0L72, g4L72, g5L72, g6L72, g8L72, g9L72, g10L72, g11L72, g12L72, g13L72, g32L72, g33L72, otk, ops, opl, oac, oal, oq9, nq9, atkXq9, apsXq9, aplXq9, aacXq9, aalXq9, lE, hfl, htl, hxt, hxv, hnb⟩
          have hp := hp0.le lE
          have hvc := hvc0.le lE
          try simp only [g0L72, g4L72, g9L72, g11L72, g12L72, g13L72]
          rw [← hxv0] at xb
          have hrow : row = xv / c := by rw [hxv0]; assumption
          have hcol : col = xv % c := by rw [hxv0]; assumption
          have rb := rc_bnd (r := r) (c := c) (by omega) xb.1 (by omega) hrow hcol
          refine ob_i (vInt_add (by omega) (by omega)) ?_
          refine ob_i (vInt_leq _ _ _) ?_
          refine cnd_d (fun hg73 => ?_) (fun hg73 => ?_)
          · skip
            have ta := hg73
            refine jn_i (fun σ' H' => ∃ q9, ∃ ls : List Int, σ' 0 = p ∧ σ' 4 = tk ∧ σ' 5 = ps ∧ σ' 6 = pl ∧ σ' 8 = al ∧ σ' 9 = q9 ∧ σ' 10 = (.int .i64 ((t : Int))) ∧ σ' 11 = (.int .i64 (row)) ∧ σ' 12 = (.int .i64 (col)) ∧ σ' 13 = (.int .i64 (row - 1 + (a : Int))) ∧ σ' 32 = (.int .i64 (((l).length : Int))) ∧ σ' 33 = (.int .i64 ((i : Int))) ∧ Own eB H' tk (tkB c l (stsL c l i) ls) ∧ Fam H' ps Sps (prtL r c l (stsL c l i)) ∧ Own eI H' pl (plcL r c l (stsL c l i)) ∧ Own eI H' ac (indL l xs) ∧ Cel H' al [(.int .i64 (r)), (.int .i64 (c)), ac] ∧ Own eI H' q9 (ls) ∧ Nw H q9 ∧ Apart tk q9 ∧ Apt Sps q9 ∧ Apart pl q9 ∧ Apart ac q9 ∧ Apart al q9 ∧ Le H H' ∧ flP c l i ls t ∧ t < ls.length ∧ ls.take (t + 1) = xs ∧ at_ 0 ls (t : Int) = xv ∧ nbD c l ls row col (row - 1 + ((a + 1 : Nat) : Int)) (col - 1)) (fun σ74 H74 hP => ?_) (fun J74 hJ74 => ?_)
            · skip
              obtain ⟨q9, ls, g0L74, g4L74, g5L74, g6L74, g8L74, g9L74, g10L74, g11L74, g12L74, g13L74, g32L74, g33L74, otk, ops, opl, oac, oal, oq9, nq9, atkXq9, apsXq9, aplXq9, aacXq9, aalXq9, lE, hf6, ht6, hx6, hv6, hn6⟩ := hP
              have hp := hp0.le lE
              have hvc := hvc0.le lE
              try simp only [g13L74]
              refine ob_i (vInt_add (by omega) (by omega)) ?_
              exact nxt (3 - (a + 1)) (by omega) ⟨a + 1, rfl, by omega, q9, _, g0L74, g4L74, g5L74, g6L74, g8L74, g9L74, g10L74, g11L74, g12L74, (congrArg (Value.int .i64) (by first | omega | rfl | (simp; done))), g32L74, g33L74, otk, ops, opl, oac, oal, oq9, nq9, atkXq9, apsXq9, aplXq9, aacXq9, aalXq9, lE, hf6, ht6, hx6, hv6, hn6⟩
            refine ob_i (vInt_sub (by omega) (by omega)) ?_
            refine ⟨fun n' σ' H' => ∃ b : Nat, n' = 3 - b ∧ b ≤ 3 ∧ ∃ q9, ∃ ls : List Int, σ' 0 = p ∧ σ' 4 = tk ∧ σ' 5 = ps ∧ σ' 6 = pl ∧ σ' 8 = al ∧ σ' 9 = q9 ∧ σ' 10 = (.int .i64 ((t : Int))) ∧ σ' 11 = (.int .i64 (row)) ∧ σ' 12 = (.int .i64 (col)) ∧ σ' 13 = (.int .i64 (row - 1 + (a : Int))) ∧ σ' 14 = (.int .i64 (col - 1 + (b : Int))) ∧ σ' 32 = (.int .i64 (((l).length : Int))) ∧ σ' 33 = (.int .i64 ((i : Int))) ∧ Own eB H' tk (tkB c l (stsL c l i) ls) ∧ Fam H' ps Sps (prtL r c l (stsL c l i)) ∧ Own eI H' pl (plcL r c l (stsL c l i)) ∧ Own eI H' ac (indL l xs) ∧ Cel H' al [(.int .i64 (r)), (.int .i64 (c)), ac] ∧ Own eI H' q9 (ls) ∧ Nw H q9 ∧ Apart tk q9 ∧ Apt Sps q9 ∧ Apart pl q9 ∧ Apart ac q9 ∧ Apart al q9 ∧ Le H H' ∧ flP c l i ls t ∧ t < ls.length ∧ ls.take (t + 1) = xs ∧ at_ 0 ls (t : Int) = xv ∧ nbD c l ls row col (row - 1 + (a : Int)) (col - 1 + (b : Int)),
              ⟨_, 0, rfl, by omega, q9, _, g0L72, g4L72, g5L72, g6L72, g8L72, g9L72, g10L72, g11L72, g12L72, g13L72, (congrArg (Value.int .i64) (by first | omega | rfl | (simp; done))), g32L72, g33L72, by simpa using otk, ops, opl, by simpa using oac, oal, (Own.cast (by first | rfl | (simp; done)) oq9), nq9, atkXq9, apsXq9, aplXq9, aacXq9, aalXq9, lE, hfl, htl, hxt, hxv, (by rw [show col - 1 + ((0 : Nat) : Int) = col - 1 by omega]; exact hnb)⟩, ?_⟩
            rintro n75 σ75 H75 ⟨b, rfl, hbN, q9, ls, g0L75, g4L75, g5L75, g6L75, g8L75, g9L75, g10L75, g11L75, g12L75, g13L75, g14L75, g32L75, g33L75, otk, ops, opl, oac, oal, oq9, nq9, atkXq9, apsXq9, aplXq9, aacXq9, aalXq9, lE, hfl, htl, hxt, hxv, hnb⟩
            have hp := hp0.le lE
            have hvc := hvc0.le lE
            try simp only [g0L75, g4L75, g9L75, g12L75, g13L75, g14L75]
            have tl6 := tkB_len (c := c) (l := l) (L := (stsL c l i)) (ls := ls)
            have fl6 := flP_len hfl
            refine ob_i (vInt_add (by omega) (by omega)) ?_
            refine ob_i (vInt_leq _ _ _) ?_
            refine cnd_d (fun hg76 => ?_) (fun hg76 => ?_)
            · skip
              have tb := hg76
              refine ob_i (hp.nilC) ?_
              refine ob_i (hp.fa 0) ?_
              refine ob_i (hp.ld 0 rfl) ?_
              refine ob_i (vInt_sub (by omega) (by omega)) ?_
              refine C.spec_l00In  ?_
              refine ob_nd (fun hc77 => ?_) (fun hc77 => ?_)
              · skip
                refine gop_rf ?_
                refine gop_rf ?_
                refine gop_rf ?_
                refine ob_i (hp.nilC) ?_
                refine gop_rf ?_
                refine ob_i (hp.fa 1) ?_
                refine gop_rf ?_
                refine ob_i (hp.ld 1 rfl) ?_
                refine gop_rf ?_
                refine ob_i (vInt_sub (by omega) (by omega)) ?_
                refine gop_rf ?_
                refine C.spec_l00In  ?_
                refine gop_rf ?_
                refine ob_nd (fun hc78 => ?_) (fun hc78 => ?_)
                · skip
                  have pq := pq_dm (r := r) (c := c) (p := row - 1 + (a : Int)) (q := col - 1 + (b : Int)) (by omega) (by omega) (by omega) (by omega)
                  refine ob_i (vPick_f _ _) ?_
                  refine cnd_f1 ?_
                  refine ob_i (hp.nilC) ?_
                  refine ob_i (hp.fa 1) ?_
                  refine ob_i (hp.ld 1 rfl) ?_
                  refine ob_i (vInt_mul (by omega) (by omega)) ?_
                  refine ob_i (vInt_add (by omega) (by omega)) ?_
                  refine ob_i (hp.nilC) ?_
                  refine ob_i (hp.fa 2) ?_
                  refine ob_i (hp.ld 2 rfl) ?_
                  refine ob_i (hvc.ix (by omega) (by omega)) ?_
                  refine ob_i (hvc.ld 0 (by omega) (by omega)) ?_
                  refine ob_i (vInt_eql _ _ _) ?_
                  by_cases hc79 : (at_ 0 (l) (((row - 1 + (a : Int)) * c) + (col - 1 + (b : Int)))) = 1
                  · skip
                    refine gop_e (decide_eq_true hc79) ?_
                    refine gop_rt ?_
                    refine gop_e (decide_eq_true hc79) ?_
                    refine gop_rt ?_
                    refine gop_e (decide_eq_true hc79) ?_
                    refine gop_rt ?_
                    refine ob_i (otk.sl.ix (by omega) (by omega)) ?_
                    refine gop_e (decide_eq_true hc79) ?_
                    refine gop_rt ?_
                    refine ob_i (otk.sl.ld false (by omega) (by omega)) ?_
                    refine gop_e (decide_eq_true hc79) ?_
                    refine gop_rt ?_
                    refine ob_i (vUn_not _) ?_
                    refine ob_i (vPick_et (decide_eq_true hc79) _ _) ?_
                    refine cnd_i (fun hg80 => ?_) (fun hg80 => ?_)
                    · skip
                      refine ob_i (otk.sl.ix (by omega) (by omega)) ?_
                      refine otk.st (x := true) (by omega) (by omega) rfl rfl (fun H81 otk off82 => ?_)
                      replace ops := ops.off off82 atkXps.symm
                      replace opl := opl.off off82 atkXpl.symm
                      replace oac := oac.off off82 atkXac.symm
                      replace oal := oal.off off82 atkXal.symm
                      replace oq9 := oq9.off off82 atkXq9.symm
                      replace hp := hp0.le (off82.le lE ntk)
                      replace hvc := hvc0.le (off82.le lE ntk)
                      replace lE := off82.le lE ntk
                      refine bS_i (enc := eI) (l := [((row - 1 + (a : Int)) * c) + (col - 1 + (b : Int))]) (by omega) rfl (by kernel_rfl) (fun u83 H84 ou83 nn85 le87 => ?_)
                      have atkXu83 : Apart tk u83 := otk.apart nn85
                      have apsXu83 : Apt Sps u83 := Apt.of_nw ops.known nn85
                      have aplXu83 : Apart pl u83 := opl.apart nn85
                      have aacXu83 : Apart ac u83 := oac.apart nn85
                      have aalXu83 : Apart al u83 := oal.apart nn85
                      have aq9Xu83 : Apart q9 u83 := oq9.apart nn85
                      have nu83 : Nw H u83 := nn85.le lE
                      replace otk := otk.le le87
                      replace ops := ops.le le87
                      replace opl := opl.le le87
                      replace oac := oac.le le87
                      replace oal := oal.le le87
                      replace oq9 := oq9.le le87
                      replace hp := hp.le le87
                      replace hvc := hvc.le le87
                      replace lE := lE.trans le87
                      refine apd_any oq9 ou83.sl (fun _ => rfl) (by omega) (by first | omega | (simp only [List.length_cons, List.length_nil, List.length_append, List.length_replicate, List.length_map, List.length_range]; omega)) (fun u91 H88 ou91 off89 hb90 => ?_)
                      have atkXu91 : Apart tk u91 := Apart.ap2 otk.known atkXq9 hb90
                      have apsXu91 : Apt Sps u91 := Apt.ap2 ops.known apsXq9 hb90
                      have aplXu91 : Apart pl u91 := Apart.ap2 opl.known aplXq9 hb90
                      have aacXu91 : Apart ac u91 := Apart.ap2 oac.known aacXq9 hb90
                      have aalXu91 : Apart al u91 := Apart.ap2 oal.known aalXq9 hb90
                      have au83Xu91 : Apart u83 u91 := Apart.ap2 ou83.known aq9Xu83.symm hb90
                      have nu91 : Nw H u91 := Nw.ap2 nq9 lE hb90
                      replace otk := otk.off off89 atkXq9
                      replace ops := ops.off off89 apsXq9
                      replace opl := opl.off off89 aplXq9
                      replace oac := oac.off off89 aacXq9
                      replace oal := oal.off off89 aalXq9
                      replace ou83 := ou83.off off89 aq9Xu83.symm
                      replace hp := hp0.le (off89.le lE nq9)
                      replace hvc := hvc0.le (off89.le lE nq9)
                      replace lE := off89.le lE nq9
                      refine ob_i (vInt_add (by omega) (by omega)) ?_
                      have fz := flP_found (y := ((row - 1 + (a : Int)) * c + (col - 1 + (b : Int)))) (p := (row - 1 + (a : Int))) (q := (col - 1 + (b : Int))) hfl htl hxv hrow hcol pq.1.1 (by omega) pq.2.2.1 pq.2.2.2 ⟨by omega, by omega⟩ ⟨by omega, by omega⟩ hc79 (stsL c l i) (by first | exact hg80 | (simpa using hg80)) hnb
                      have fn := fz.2.2.2.2.1
                      exact nxt (3 - (b + 1)) (by omega) ⟨b + 1, rfl, by omega, u91, (ls ++ ([((row - 1 + (a : Int)) * c) + (col - 1 + (b : Int))])), g0L75, g4L75, g5L75, g6L75, g8L75, rfl, g10L75, g11L75, g12L75, g13L75, (congrArg (Value.int .i64) (by first | omega | rfl | (simp; done))), g32L75, g33L75, (Own.cast fz.2.2.2.2.2 otk), ops, opl, oac, oal, ou91, nu91, atkXu91, apsXu91, aplXu91, aacXu91, aalXu91, lE, fz.1, fz.2.1, (fz.2.2.1.trans hxt), fz.2.2.2.1, (by rw [show col - 1 + ((b + 1 : Nat) : Int) = col - 1 + (b : Int) + 1 by omega]; exact fn)⟩
                    · skip
                      refine ob_i (vInt_add (by omega) (by omega)) ?_
                      have fn := nbD_skip2 (p := (row - 1 + (a : Int))) (q := (col - 1 + (b : Int))) hfl htl hxv hrow hcol ⟨by omega, by omega⟩ ⟨by omega, by omega⟩ (stsL c l i) hnr hnb (fun y h1 h2 h3 => by have yb := rc_bnd (r := r) (c := c) (x := (y : Int)) (by omega) (by omega) (by have := h3.1; omega) h1.symm h2.symm; have e0 := Int.emod_add_mul_ediv (y : Int) c; rw [h1, h2, Int.mul_comm c] at e0; have ye : (y : Int) = ((row - 1 + (a : Int)) * c + (col - 1 + (b : Int))) := (by omega); have y1 := h3.2; rw [ye] at y1 ⊢; first | omega | assumption | contradiction | (simp_all; done))
                      exact nxt (3 - (b + 1)) (by omega) ⟨b + 1, rfl, by omega, q9, ls, g0L75, g4L75, g5L75, g6L75, g8L75, g9L75, g10L75, g11L75, g12L75, g13L75, (congrArg (Value.int .i64) (by first | omega | rfl | (simp; done))), g32L75, g33L75, otk, ops, opl, oac, oal, oq9, nq9, atkXq9, apsXq9, aplXq9, aacXq9, aalXq9, lE, hfl, htl, hxt, hxv, (by rw [show col - 1 + ((b + 1 : Nat) : Int) = col - 1 + (b : Int) + 1 by omega]; exact fn)⟩
                  · skip
                    refine gop_e (decide_eq_false hc79) ?_
                    refine gop_sf ?_
                    refine gop_e (decide_eq_false hc79) ?_
                    refine gop_sf ?_
                    refine gop_e (decide_eq_false hc79) ?_
                    refine gop_sf ?_
                    refine gop_e (decide_eq_false hc79) ?_
                    refine gop_sf ?_
                    refine gop_e (decide_eq_false hc79) ?_
                    refine gop_sf ?_
                    refine ob_i (vPick_ef (decide_eq_false hc79) _ _) ?_
                    refine cnd_f1 ?_
                    refine ob_i (vInt_add (by omega) (by omega)) ?_
                    have fn := nbD_skip2 (p := (row - 1 + (a : Int))) (q := (col - 1 + (b : Int))) hfl htl hxv hrow hcol ⟨by omega, by omega⟩ ⟨by omega, by omega⟩ (stsL c l i) hnr hnb (fun y h1 h2 h3 => by have yb := rc_bnd (r := r) (c := c) (x := (y : Int)) (by omega) (by omega) (by have := h3.1; omega) h1.symm h2.symm; have e0 := Int.emod_add_mul_ediv (y : Int) c; rw [h1, h2, Int.mul_comm c] at e0; have ye : (y : Int) = ((row - 1 + (a : Int)) * c + (col - 1 + (b : Int))) := (by omega); have y1 := h3.2; rw [ye] at y1 ⊢; first | omega | assumption | contradiction | (simp_all; done))
                    exact nxt (3 - (b + 1)) (by omega) ⟨b + 1, rfl, by omega, q9, ls, g0L75, g4L75, g5L75, g6L75, g8L75, g9L75, g10L75, g11L75, g12L75, g13L75, (congrArg (Value.int .i64) (by first | omega | rfl | (simp; done))), g32L75, g33L75, otk, ops, opl, oac, oal, oq9, nq9, atkXq9, apsXq9, aplXq9, aacXq9, aalXq9, lE, hfl, htl, hxt, hxv, (by rw [show col - 1 + ((b + 1 : Nat) : Int) = col - 1 + (b : Int) + 1 by omega]; exact fn)⟩
                · skip
                  refine ob_i (vPick_f _ _) ?_
                  refine cnd_t1 ?_
                  refine ob_i (vInt_add (by omega) (by omega)) ?_
                  have fn := nbD_skip2 (p := (row - 1 + (a : Int))) (q := (col - 1 + (b : Int))) hfl htl hxv hrow hcol ⟨by omega, by omega⟩ ⟨by omega, by omega⟩ (stsL c l i) hnr hnb (fun y h1 h2 h3 => by have yb := rc_bnd (r := r) (c := c) (x := (y : Int)) (by omega) (by omega) (by have := h3.1; omega) h1.symm h2.symm; have e0 := Int.emod_add_mul_ediv (y : Int) c; rw [h1, h2, Int.mul_comm c] at e0; have ye : (y : Int) = ((row - 1 + (a : Int)) * c + (col - 1 + (b : Int))) := (by omega); have y1 := h3.2; rw [ye] at y1 ⊢; first | omega | assumption | contradiction | (simp_all; done))
                  exact nxt (3 - (b + 1)) (by omega) ⟨b + 1, rfl, by omega, q9, ls, g0L75, g4L75, g5L75, g6L75, g8L75, g9L75, g10L75, g11L75, g12L75, g13L75, (congrArg (Value.int .i64) (by first | omega | rfl | (simp; done))), g32L75, g33L75, otk, ops, opl, oac, oal, oq9, nq9, atkXq9, apsXq9, aplXq9, aacXq9, aalXq9, lE, hfl, htl, hxt, hxv, (by rw [show col - 1 + ((b + 1 : Nat) : Int) = col - 1 + (b : Int) + 1 by omega]; exact fn)⟩
              · skip
                refine gop_st ?_
                refine gop_st ?_
                refine gop_st ?_
                refine gop_st ?_
                refine gop_st ?_
                refine gop_st ?_
                refine gop_st ?_
                refine gop_st ?_
                refine ob_i (vPick_t _ _) ?_
                refine cnd_t1 ?_
                refine ob_i (vInt_add (by omega) (by omega)) ?_
                have fn := nbD_skip2 (p := (row - 1 + (a : Int))) (q := (col - 1 + (b : Int))) hfl htl hxv hrow hcol ⟨by omega, by omega⟩ ⟨by omega, by omega⟩ (stsL c l i) hnr hnb (fun y h1 h2 h3 => by have yb := rc_bnd (r := r) (c := c) (x := (y : Int)) (by omega) (by omega) (by have := h3.1; omega) h1.symm h2.symm; have e0 := Int.emod_add_mul_ediv (y : Int) c; rw [h1, h2, Int.mul_comm c] at e0; have ye : (y : Int) = ((row - 1 + (a : Int)) * c + (col - 1 + (b : Int))) := (by omega); have y1 := h3.2; rw [ye] at y1 ⊢; first | omega | assumption | contradiction | (simp_all; done))
                exact nxt (3 - (b + 1)) (by omega) ⟨b + 1, rfl, by omega, q9, ls, g0L75, g4L75, g5L75, g6L75, g8L75, g9L75, g10L75, g11L75, g12L75, g13L75, (congrArg (Value.int .i64) (by first | omega | rfl | (simp; done))), g32L75, g33L75, otk, ops, opl, oac, oal, oq9, nq9, atkXq9, apsXq9, aplXq9, aacXq9, aalXq9, lE, hfl, htl, hxt, hxv, (by rw [show col - 1 + ((b + 1 : Nat) : Int) = col - 1 + (b : Int) + 1 by omega]; exact fn)⟩
            · skip
              have tb := hg76
              exact hJ74 _ _ ⟨q9, _, g0L75, g4L75, g5L75, g6L75, g8L75, g9L75, g10L75, g11L75, g12L75, g13L75, g32L75, g33L75, otk, ops, opl, oac, oal, oq9, nq9, atkXq9, apsXq9, aplXq9, aacXq9, aalXq9, lE, hfl, htl, hxt, hxv, (by have hh := nbD_row (b := col - 1) (show nbD c l ls row col (row - 1 + (a : Int)) (col + 2) by rw [show col + 2 = col - 1 + (b : Int) by omega]; exact hnb) (by omega); rw [show row - 1 + ((a + 1 : Nat) : Int) = row - 1 + (a : Int) + 1 by omega]; exact hh)⟩
          · skip
            have ta := hg73
            have hfz := flP_next hfl htl (by rw [hxv]; exact hrow) (by rw [hxv]; exact hcol) (show nbD c l ls row col (row + 2) 0 from fun y g1 g2 g3 g4 => hnb y g1 g2 g3 (by omega))
            exact hJ68 _ _ ⟨q9, _, g0L72, g4L72, g5L72, g6L72, g8L72, g9L72, g10L72, g32L72, g33L72, otk, ops, opl, oac, oal, oq9, nq9, atkXq9, apsXq9, aplXq9, aacXq9, aalXq9, lE, hfz, hxt⟩
        · skip
          have tt := hg67
          have hte := hfl.2.2.2.1
          have hend := flood_end hfl.1 hfl.2.1 (fun x y hx => hfl.2.2.2.2 x y (by rw [List.take_of_length_le (by omega)]; exact hx))
          exact hJ32 _ _ ⟨g0L66, g4L66, g5L66, g6L66, g8L66, g32L66, g33L66, (Own.cast (tkB_end hend) otk), ops, opl, (Own.cast (by rw [List.take_of_length_le (by omega)]; exact indL_end hend) oac), oal, lE⟩
  · skip
    have ti := hg14
    obtain rfl : i = l.length := by omega
    exact hJ12 _ _ ⟨ps, Sps, pl, g5L13, g6L13, ops, opl, nps, npl, apsXpl, lE⟩
end Go.Proofs.YthocjpfibegjcaaGreatDoor
/- The cells around a cell: each is told once, row by row; and slices that are cut in front of their last. -/
namespace Go.Proofs.YthocjpfibegjcaaGreatDoor
open HL
set_option maxRecDepth 100000
/-- A heap less one block. -/
def HL.Hp.del (H : Hp) (b : Nat) : Hp := fun x => if x = b then none else H x
theorem HL.Hp.del_none (H : Hp) (b : Nat) : H.del b b = none := by simp [Hp.del]
theorem HL.Hp.del_put {A B : Hp} {b : Nat} {o : Obj} (h : Le (A.put b o) B) : B = (B.del b).put b o := by
  funext x
  unfold Hp.put Hp.del
  by_cases e : x = b
  · subst e; rw [if_pos rfl]; exact h _ _ (Hp.put_same _ _ _)
  · rw [if_neg e, if_neg e]
theorem HL.Hp.del_le {A B : Hp} {b : Nat} {o : Obj} (h : Le (A.put b o) B) (hn : A b = none) : Le A (B.del b) := by
  intro x y hx
  have e : x ≠ b := by rintro rfl; rw [hn] at hx; exact absurd hx (by simp)
  unfold Hp.del
  rw [if_neg e]
  exact h _ _ (by rw [Hp.put_ne _ _ e]; exact hx)
theorem callV_frame {v : Value} {args : List Value} {A : Hp} {Z : Value → Hp → Prop} {b : Nat} {o : Obj} (h : callV prg v args A (fun x B => B b = none → Z x (B.put b o))) (hn : A b = none) : callV prg v args (A.put b o) Z := by
  unfold callV at h ⊢
  split at h
  · exact ⟨h.1, (HT.frame o h.2 hn).mono (fun x B' ⟨B, h3, h4, h5⟩ => h5 ▸ h3 h4)⟩
  · refine hp_mono prg _ _ _ _ ?_ (hp_frame prg _ _ _ b o h hn)
    rintro nx H'' ⟨H', hk, hr, rfl⟩
    cases nx <;> simp only [nextH] at hk ⊢
    · exact hk hr
    · exact hk hr
    · exact (HT.frame o hk hr).mono (fun x B' ⟨B, h3, h4, h5⟩ => h5 ▸ h3 h4)
    · exact (RT.frame o hk hr).mono (fun x B' ⟨B, h3, h4, h5⟩ => h5 ▸ h3 h4)
  · exact h
theorem callV_mono {v : Value} {args : List Value} {A : Hp} {Z Z' : Value → Hp → Prop} (h : callV prg v args A Z) (h2 : ∀ x B, Z x B → Z' x B) : callV prg v args A Z' := by
  unfold callV at h ⊢
  split at h
  · exact ⟨h.1, h.2.mono h2⟩
  · exact hp_mono prg _ _ _ _ (fun x B hx => nextH_mono h2 x B hx) h
  · exact h
/-- A slice that is cut in front of its last cells: it is owned as before. -/
theorem HL.Own.trunc {α : Type} {enc : α → Value} {H : Hp} {v : Value} {l : List α} {kk : IntKind} {n : Int} (h : Own enc H v l) (h0 : 0 ≤ n) (h1 : n ≤ l.length) :
    ∃ v', vSl3 1 v none (some (.int kk n)) none = some v' ∧ Own enc H v' (l.take n.toNat) ∧ ∀ b, bk v' = some b → bk v = some b := by
  obtain ⟨a, c, rfl, hc, hr⟩ := h
  refine ⟨.slice a n.toNat c, ?_, ⟨a, c, by simp; omega, by simp; omega, fun hp => ?_⟩, fun b hb => by cases a <;> exact hb⟩
  · simp only [vSl3, vSl, bnd]
    rw [if_pos ⟨h0, by omega⟩]
    simp only [Nat.zero_mul, Nat.sub_zero]
    cases a with
    | none => simp
    | some ad => simp [Addr.add]
  · obtain ⟨b, off, cs, e, h2, h3, h4, h5⟩ := hr hp
    refine ⟨b, off, cs, e, h2, h3, h4, fun i hi => ?_⟩
    have hi2 : i < l.length := by have := hi; simp at this; omega
    rw [h5 i hi2, List.getElem_take]
theorem C.impl_Field_corners {fv : Value} {r c i k : Int} {vc : Value} {H : Hp} {K : Value → Hp → Prop} {Inv : Int → Int → Hp → Prop} (hs : sidesF r c) (i0 : 0 ≤ i) (i1 : i ≤ 1000) (k0 : 0 ≤ k) (k1 : k ≤ 1000)
    (h0 : Inv (i - 1) (k - 1) H) (hle : ∀ p q A B, Inv p q A → Le A B → Inv p q B)
    (hno : ∀ p q A, ¬ (((0 ≤ p ∧ p ≤ r - 1) ∧ 0 ≤ q ∧ q ≤ c - 1) ∧ (p ≠ i ∨ q ≠ k)) → i - 1 ≤ p → p ≤ i + 1 → k - 1 ≤ q → q ≤ k + 1 → Inv p q A → Inv p (q + 1) A)
    (hrow : ∀ p A, i - 1 ≤ p → p ≤ i + 1 → Inv p (k + 2) A → Inv (p + 1) (k - 1) A)
    (hdo : ∀ p q A (Z : Value → Hp → Prop), ((0 ≤ p ∧ p ≤ r - 1) ∧ 0 ≤ q ∧ q ≤ c - 1) → (p ≠ i ∨ q ≠ k) → i - 1 ≤ p → p ≤ i + 1 → k - 1 ≤ q → q ≤ k + 1 → Inv p q A → (∀ B, Inv p (q + 1) B → Z (.tuple #[]) B) → callV prg fv [.int .i64 p, .int .i64 q] A Z)
    (hk : ∀ A, Inv (i + 2) (k - 1) A → K (.tuple #[]) A) : HT prg I.impl_Field_corners [.agg #[.int .i64 r, .int .i64 c, vc], .int .i64 i, .int .i64 k, fv].toArray H K := by
  refine R.impl_Field_corners ?_
  unfold F.impl_Field_corners
  intro b hb
  generalize hO : (Obj.cells (Value.agg #[.int .i64 r, .int .i64 c, vc]).cells _) = o
  have hlb : ∀ A : Hp, vLoadN 3 (.pointer (some ⟨b, 0, none⟩)) (A.put b o) = some (.agg #[.int .i64 r, .int .i64 c, vc]) := fun A => by
    rw [← hO]
    exact Cel.ldn (cs := [.int .i64 r, .int .i64 c, vc]) ⟨b, _, rfl, by rw [Hp.put_same]; rfl⟩ rfl
  refine ob_i (vInt_sub (by omega) (by omega)) ?_
  refine ⟨fun n σ H' => ∃ t : Nat, n = 3 - t ∧ t ≤ 3 ∧ σ 1 = .int .i64 i ∧ σ 2 = .int .i64 k ∧ σ 3 = fv ∧ σ 4 = .pointer (some ⟨b, 0, none⟩) ∧ σ 8 = .int .i64 (i - 1 + (t : Int)) ∧ ∃ A, H' = A.put b o ∧ A b = none ∧ Inv (i - 1 + (t : Int)) (k - 1) A,
    ⟨_, 0, rfl, by omega, rfl, rfl, rfl, rfl, congrArg (Value.int .i64) (by omega), H, rfl, hb, by rw [show i - 1 + ((0 : Nat) : Int) = i - 1 by omega]; exact h0⟩, ?_⟩
  rintro n σ H1 ⟨t, rfl, ht, g1, g2, g3, g4, g8, A, rfl, hA, hI⟩
  simp only [g1, g2, g3, g4, g8]
  refine ob_i (vInt_add (by omega) (by omega)) ?_
  refine ob_i (vInt_leq _ _ _) ?_
  refine cnd_d (fun hlt => ?_) (fun hge => ?_)
  · refine jn_i (fun σ' H' => σ' 1 = .int .i64 i ∧ σ' 2 = .int .i64 k ∧ σ' 3 = fv ∧ σ' 4 = .pointer (some ⟨b, 0, none⟩) ∧ σ' 8 = .int .i64 (i - 1 + (t : Int)) ∧ ∃ A, H' = A.put b o ∧ A b = none ∧ Inv (i - 1 + (t : Int) + 1) (k - 1) A) (fun σ2 H2 hP => ?_) (fun J hJ => ?_)
    · obtain ⟨g1, g2, g3, g4, g8, A, rfl, hA, hI⟩ := hP
      simp only [g8]
      refine ob_i (vInt_add (by omega) (by omega)) ?_
      exact nxt (3 - (t + 1)) (by omega) ⟨t + 1, rfl, by omega, g1, g2, g3, g4, congrArg (Value.int .i64) (by omega), A, rfl, hA, by rw [show i - 1 + ((t + 1 : Nat) : Int) = i - 1 + (t : Int) + 1 by omega]; exact hI⟩
    · refine ob_i (vInt_sub (by omega) (by omega)) ?_
      refine ⟨fun n σ H' => ∃ u : Nat, n = 3 - u ∧ u ≤ 3 ∧ σ 1 = .int .i64 i ∧ σ 2 = .int .i64 k ∧ σ 3 = fv ∧ σ 4 = .pointer (some ⟨b, 0, none⟩) ∧ σ 8 = .int .i64 (i - 1 + (t : Int)) ∧ σ 9 = .int .i64 (k - 1 + (u : Int)) ∧ ∃ A, H' = A.put b o ∧ A b = none ∧ Inv (i - 1 + (t : Int)) (k - 1 + (u : Int)) A,
        ⟨_, 0, rfl, by omega, g1, g2, g3, g4, g8, congrArg (Value.int .i64) (by omega), A, rfl, hA, by rw [show k - 1 + ((0 : Nat) : Int) = k - 1 by omega]; exact hI⟩, ?_⟩
      clear hI hA g1 g2 g3 g4 g8 A
      rintro n σ H1 ⟨u, rfl, hu, g1, g2, g3, g4, g8, g9, A, rfl, hA, hI⟩
      simp only [g1, g2, g3, g4, g8, g9]
      refine ob_i (vInt_add (by omega) (by omega)) ?_
      refine ob_i (vInt_leq _ _ _) ?_
      refine cnd_d (fun hlt2 => ?_) (fun hge2 => ?_)
      · refine ob_i (hlb A) ?_
        refine C.impl_Field_has hs (fun H3 le3 => ?_)
        have hB := Hp.del_le le3 hA
        have eB := Hp.del_put le3
        have nB := Hp.del_none H3 b
        generalize H3.del b = B at hB eB nB
        subst eB
        have hI2 := hle _ _ _ _ hI hB
        have eu : k - 1 + ((u + 1 : Nat) : Int) = k - 1 + (u : Int) + 1 := by omega
        have no : ∀ σ' : S, σ' 1 = .int .i64 i → σ' 2 = .int .i64 k → σ' 3 = fv → σ' 4 = .pointer (some ⟨b, 0, none⟩) → σ' 8 = .int .i64 (i - 1 + (t : Int)) → σ' 9 = .int .i64 (k - 1 + (u : Int) + 1) → ∀ C : Hp, C b = none → Inv (i - 1 + (t : Int)) (k - 1 + (u : Int) + 1) C →
            ∃ u' : Nat, 3 - (u + 1) = 3 - u' ∧ u' ≤ 3 ∧ σ' 1 = .int .i64 i ∧ σ' 2 = .int .i64 k ∧ σ' 3 = fv ∧ σ' 4 = .pointer (some ⟨b, 0, none⟩) ∧ σ' 8 = .int .i64 (i - 1 + (t : Int)) ∧ σ' 9 = .int .i64 (k - 1 + (u' : Int)) ∧ ∃ A, C.put b o = A.put b o ∧ A b = none ∧ Inv (i - 1 + (t : Int)) (k - 1 + (u' : Int)) A :=
          fun σ' a1 a2 a3 a4 a8 a9 C hC hIC => ⟨u + 1, rfl, by omega, a1, a2, a3, a4, a8, by rw [eu]; exact a9, C, rfl, hC, by rw [eu]; exact hIC⟩
        by_cases hP : (0 ≤ i - 1 + (t : Int) ∧ i - 1 + (t : Int) ≤ r - 1) ∧ 0 ≤ k - 1 + (u : Int) ∧ k - 1 + (u : Int) ≤ c - 1
        · rw [decide_eq_true hP]
          refine gop_rt ?_
          refine gop_rt ?_
          refine gop_rt ?_
          refine ob_i (vInt_neq _ _ _) ?_
          refine gop_rt ?_
          by_cases h1 : i - 1 + (t : Int) = i
          · rw [decide_eq_false (show ¬ i - 1 + (t : Int) ≠ i from fun h => h h1)]
            refine gop_rf ?_
            refine gop_rf ?_
            refine gop_rf ?_
            refine ob_i (vInt_neq _ _ _) ?_
            refine gop_rt ?_
            refine ob_i (vPick_f _ _) ?_
            refine ob_i (vPick_t _ _) ?_
            refine cnd_d (fun h2 => ?_) (fun h2 => ?_)
            · refine callV_frame (hdo _ _ B _ hP (.inr h2) (by omega) (by omega) (by omega) (by omega) hI2 (fun C hC nC => ?_)) nB
              refine ob_i (vInt_add (by omega) (by omega)) ?_
              refine nxt (3 - (u + 1)) (by omega) ?_
              refine no _ ?_ ?_ ?_ ?_ ?_ ?_ C nC hC
              · exact g1
              · exact g2
              · exact g3
              · exact g4
              · exact g8
              · exact rfl
            · refine ob_i (vInt_add (by omega) (by omega)) ?_
              refine nxt (3 - (u + 1)) (by omega) ?_
              refine no _ ?_ ?_ ?_ ?_ ?_ ?_ B nB (hno _ _ B (fun h => h.2.elim (fun h3 => h3 h1) h2) (by omega) (by omega) (by omega) (by omega) hI2)
              · exact g1
              · exact g2
              · exact g3
              · exact g4
              · exact g8
              · exact rfl
          · rw [decide_eq_true h1]
            refine gop_st ?_
            refine gop_st ?_
            refine gop_st ?_
            refine gop_rt ?_
            refine ob_i (vPick_t _ _) ?_
            refine ob_i (vPick_t _ _) ?_
            refine cnd_t1 ?_
            refine callV_frame (hdo _ _ B _ hP (.inl h1) (by omega) (by omega) (by omega) (by omega) hI2 (fun C hC nC => ?_)) nB
            refine ob_i (vInt_add (by omega) (by omega)) ?_
            refine nxt (3 - (u + 1)) (by omega) ?_
            refine no _ ?_ ?_ ?_ ?_ ?_ ?_ C nC hC
            · exact g1
            · exact g2
            · exact g3
            · exact g4
            · exact g8
            · exact rfl
        · rw [decide_eq_false hP]
          refine gop_sf ?_
          refine gop_sf ?_
          refine gop_sf ?_
          refine gop_sf ?_
          refine gop_u ?_
          refine gop_u ?_
          refine gop_u ?_
          refine gop_sf ?_
          refine ob_i (vPick_f _ _) ?_
          refine cnd_f1 ?_
          refine ob_i (vInt_add (by omega) (by omega)) ?_
          refine nxt (3 - (u + 1)) (by omega) ?_
          refine no _ ?_ ?_ ?_ ?_ ?_ ?_ B nB (hno _ _ B (fun h => hP h.1) (by omega) (by omega) (by omega) (by omega) hI2)
          · exact g1
          · exact g2
          · exact g3
          · exact g4
          · exact g8
          · exact rfl
      · exact hJ _ _ ⟨g1, g2, g3, g4, g8, A, rfl, hA, hrow _ _ (by omega) (by omega) (by rw [show k + 2 = k - 1 + (u : Int) by omega]; exact hI)⟩
  · have := hle _ _ _ _ hI (Le.put o hA)
    exact hk _ (by rw [show i + 2 = i - 1 + (t : Int) by omega]; exact this)
end Go.Proofs.YthocjpfibegjcaaGreatDoor
/- Parts of a field, by plain law: a flood with a stack, and the numbers that it leaves. -/
namespace Go.Proofs.YthocjpfibegjcaaGreatDoor
open HL
set_option maxRecDepth 100000
open Classical in
/-- The numbers that stand: those of the starts before, and the next one for the cells of a list. -/
noncomputable def ouL (c : Int) (l : List Int) (L : List Nat) (ls : List Int) : List Int := (List.range l.length).map fun x => if nuN c l L x = 0 then (if (x : Int) ∈ ls then (L.length : Int) + 1 else 0) else nuN c l L x
/-- A flood from i with a stack: all that has been found, and what is still to be looked at. -/
def stS (c : Int) (l : List Int) (i : Nat) (ls td : List Int) : Prop := ((i : Int) ∈ ls ∧ (∀ x ∈ ls, ∃ k : Nat, x = (k : Int) ∧ Rch c l i k) ∧ ls.Nodup ∧ ∀ x ∈ td, x ∈ ls) ∧ ∀ x y : Nat, (x : Int) ∈ ls → (x : Int) ∉ td → nbP c x y → onP l y → (y : Int) ∈ ls
/-- The same, while the neighbours of one cell are told up to a place. -/
def stN (c : Int) (l : List Int) (i : Nat) (ls td : List Int) (xv p q : Int) : Prop := ((i : Int) ∈ ls ∧ (∀ x ∈ ls, ∃ k : Nat, x = (k : Int) ∧ Rch c l i k) ∧ ls.Nodup ∧ ∀ x ∈ td, x ∈ ls) ∧ xv ∈ ls ∧ (∀ x y : Nat, (x : Int) ∈ ls → (x : Int) ∉ td → (x : Int) ≠ xv → nbP c x y → onP l y → (y : Int) ∈ ls) ∧ nbD c l ls (xv / c) (xv % c) p q
section
variable {c : Int} {l : List Int} {L : List Nat} {ls td : List Int} {i : Nat}
theorem ouL_len : (ouL c l L ls).length = l.length := by simp [ouL]
open Classical in
theorem ouL_at {y : Nat} (hy : y < l.length) : at_ 0 (ouL c l L ls) (y : Int) = if nuN c l L y = 0 then (if (y : Int) ∈ ls then (L.length : Int) + 1 else 0) else nuN c l L y := by
  rw [at_eq 0 _ (by rw [ouL_len]; exact hy)]
  unfold ouL
  rw [List.getElem_map, List.getElem_range]
theorem ouL_f {y : Nat} (hy : y < l.length) (h : at_ 0 (ouL c l L ls) (y : Int) = 0) : (∀ s ∈ L, ¬ Rch c l s y) ∧ (y : Int) ∉ ls := by
  rw [ouL_at hy] at h
  by_cases h0 : nuN c l L y = 0
  · rw [if_pos h0] at h
    refine ⟨nuN_zero.mp h0, fun hm => ?_⟩
    rw [if_pos hm] at h
    omega
  · rw [if_neg h0] at h; exact absurd h h0
theorem ouL_t {y : Nat} (hy : y < l.length) (h : at_ 0 (ouL c l L ls) (y : Int) ≠ 0) : (∃ s ∈ L, Rch c l s y) ∨ (y : Int) ∈ ls := by
  rw [ouL_at hy] at h
  by_cases h0 : nuN c l L y = 0
  · rw [if_pos h0] at h
    by_cases hm : (y : Int) ∈ ls
    · exact .inr hm
    · rw [if_neg hm] at h; exact absurd rfl h
  · refine .inl (Classical.byContradiction fun hn => h0 (nuN_zero.mpr fun s hs hr => hn ⟨s, hs, hr⟩))
theorem ouL_zero : ouL c l (stsL c l 0) [] = List.replicate l.length 0 := by
  apply List.ext_getElem
  · rw [ouL_len, List.length_replicate]
  · intro j g1 g2
    simp [ouL, stsL, nuN]
theorem ouL_set {y : Nat} (hy : y < l.length) (h : ∀ s ∈ L, ¬ Rch c l s y) : (ouL c l L ls).set y ((L.length : Int) + 1) = ouL c l L (ls ++ [(y : Int)]) := by
  apply List.ext_getElem
  · rw [List.length_set, ouL_len, ouL_len]
  · intro j h1 h2
    simp only [ouL, List.getElem_set, List.getElem_map, List.getElem_range]
    by_cases e : y = j
    · subst e; rw [if_pos rfl, if_pos (nuN_zero.mpr h), if_pos (by simp)]
    · rw [if_neg e]
      by_cases m : (j : Int) ∈ ls
      · simp [m]
      · have : ¬ (j : Int) ∈ ls ++ [(y : Int)] := by simp [m]; omega
        simp [m, this]
theorem ouL_end (h : ∀ x : Nat, (x : Int) ∈ ls ↔ Rch c l i x) : ouL c l L ls = ouL c l (L ++ [i]) [] := by
  unfold ouL
  apply List.map_congr_left
  intro x _
  rw [nuN_snoc]
  by_cases h0 : nuN c l L x = 0
  · by_cases h1 : Rch c l i x
    · rw [if_pos h0, if_pos ((h x).mpr h1)]
      simp only [h0, h1, if_true]
      rw [if_neg (by omega)]
    · rw [if_pos h0, if_neg (fun g => h1 ((h x).mp g))]
      simp [h0, h1]
  · simp [h0]
theorem stS_start (h : onP l i) : stS c l i [(i : Int)] [(i : Int)] :=
  ⟨⟨by simp, fun x hx => ⟨i, by simpa using hx, .base h⟩, by simp, fun x hx => hx⟩, fun x y hx hn => absurd hx hn⟩
theorem stS_len (h : stS c l i ls td) : ls.length ≤ l.length ∧ ∀ x ∈ ls, 0 ≤ x ∧ x < (l.length : Int) := by
  have hb : ∀ x ∈ ls, 0 ≤ x ∧ x < (l.length : Int) := fun x hx => by
    obtain ⟨k, rfl, hr⟩ := h.1.2.1 x hx
    have := hr.on.1.1
    omega
  exact ⟨nodup_len _ _ h.1.2.2.1 hb, hb⟩
theorem stS_end (h : stS c l i ls []) : ∀ x : Nat, (x : Int) ∈ ls ↔ Rch c l i x :=
  fun x => flood_end h.1.1 h.1.2.1 (fun a b ha hn ho => h.2 a b ha (by simp) hn ho) x
/-- The last of the stack is taken. -/
theorem stS_pop (h : stS c l i ls td) (hp : 0 < td.length) : stN c l i ls (td.take (td.length - 1)) (at_ 0 td ((td.length : Int) - 1)) (at_ 0 td ((td.length : Int) - 1) / c - 1) (at_ 0 td ((td.length : Int) - 1) % c - 1) := by
  obtain ⟨⟨h1, h2, h3, h4⟩, h5⟩ := h
  have hm : at_ 0 td ((td.length : Int) - 1) ∈ td := at_mem 0 td (by omega) (by omega)
  refine ⟨⟨h1, h2, h3, fun x hx => h4 x (List.mem_of_mem_take hx)⟩, h4 _ hm, fun x y hx hn hne hb ho => h5 x y hx (fun hxt => ?_) hb ho, nbD_zero⟩
  have e := take_at 0 td (show td.length - 1 < td.length by omega)
  rw [show td.length - 1 + 1 = td.length by omega, List.take_length] at e
  rw [e] at hxt
  rcases List.mem_append.mp hxt with g | g
  · exact hn g
  · simp only [List.mem_singleton] at g
    exact hne (by rw [g]; congr 1; omega)
theorem stN_len {xv p q : Int} (h : stN c l i ls td xv p q) : ls.length ≤ l.length ∧ (∀ x ∈ ls, 0 ≤ x ∧ x < (l.length : Int)) ∧ 0 ≤ xv ∧ xv < (l.length : Int) := by
  have hb : ∀ x ∈ ls, 0 ≤ x ∧ x < (l.length : Int) := fun x hx => by
    obtain ⟨k, rfl, hr⟩ := h.1.2.1 x hx
    have := hr.on.1.1
    omega
  exact ⟨nodup_len _ _ h.1.2.2.1 hb, hb, hb _ h.2.1⟩
/-- All neighbours are told. -/
theorem stN_end {xv q : Int} (h : stN c l i ls td xv (xv / c + 2) q) : stS c l i ls td := by
  obtain ⟨h1, h2, h3, h4⟩ := h
  refine ⟨h1, fun x y hx hn hb ho => ?_⟩
  by_cases e : (x : Int) = xv
  · subst e
    exact h4 y hb.1 hb.2 ho (.inl (by have := hb.1; omega))
  · exact h3 x y hx hn e hb ho
theorem stN_row {xv p : Int} (h : stN c l i ls td xv p (xv % c + 2)) : stN c l i ls td xv (p + 1) (xv % c - 1) := ⟨h.1, h.2.1, h.2.2.1, nbD_row h.2.2.2 _ (by omega)⟩
/-- A place that is told already, or no place at all. -/
theorem stN_skip {xv p q : Int} (h : stN c l i ls td xv p q) (hy : ∀ y : Nat, (y : Int) / c = p → (y : Int) % c = q → onP l y → (y : Int) ∈ ls) : stN c l i ls td xv p (q + 1) := ⟨h.1, h.2.1, h.2.2.1, nbD_next h.2.2.2 hy⟩
theorem stN_out {r xv p q : Int} (hs : sidesF r c) (hl : (l.length : Int) = r * c) (h : stN c l i ls td xv p q) (hn : ¬ (((0 ≤ p ∧ p ≤ r - 1) ∧ 0 ≤ q ∧ q ≤ c - 1) ∧ (p ≠ xv / c ∨ q ≠ xv % c))) : stN c l i ls td xv p (q + 1) := by
  have q2 := hs.2
  refine stN_skip h fun y h1 h2 h3 => ?_
  have yb := rc_bnd (r := r) (c := c) (x := (y : Int)) (by omega) (by omega) (by have := h3.1; omega) h1.symm h2.symm
  have e : p = xv / c ∧ q = xv % c := Classical.byContradiction fun g => hn ⟨⟨by omega, by omega⟩, by omega⟩
  have e0 := Int.emod_add_mul_ediv (y : Int) c
  have e1 := Int.emod_add_mul_ediv xv c
  rw [h1, h2, e.1, e.2, e1] at e0
  rw [← e0]
  exact h.2.1
/-- A neighbour that is no cell of 1, or has a number. -/
theorem stN_told {r xv p q : Int} (hs : sidesF r c) (p0 : 0 ≤ p) (p1 : p ≤ r - 1) (q0 : 0 ≤ q) (q1 : q ≤ c - 1) (h : stN c l i ls td xv p q) (rp : xv / c - p ≤ 1 ∧ p - xv / c ≤ 1) (cq : xv % c - q ≤ 1 ∧ q - xv % c ≤ 1) (hnr : ∀ s ∈ L, ¬ Rch c l s i)
    (hn : at_ 0 l (p * c + q) = 1 → at_ 0 (ouL c l L ls) (p * c + q) ≠ 0) : stN c l i ls td xv p (q + 1) := by
  refine stN_skip h fun y h1 h2 h3 => ?_
  have e0 := Int.emod_add_mul_ediv (y : Int) c
  rw [h1, h2, Int.mul_comm c] at e0
  have ye : (y : Int) = p * c + q := by omega
  have h4 := hn (ye ▸ h3.2)
  rw [← ye] at h4
  rcases ouL_t h3.1 h4 with ⟨s, hs1, hs2⟩ | g
  · exfalso
    obtain ⟨X, hX, hX2⟩ := h.1.2.1 xv h.2.1
    have hn : nbP c X y := by
      unfold nbP
      rw [← hX, h1, h2]
      exact ⟨rp, cq⟩
    exact hnr s hs1 ((hs2.step (nbP_symm hn) hX2.on.1).trans hX2.symm)
  · exact g
/-- A neighbour that is found. -/
theorem stN_put {r xv p q : Int} (hs : sidesF r c) (hl : (l.length : Int) = r * c) (p0 : 0 ≤ p) (p1 : p ≤ r - 1) (q0 : 0 ≤ q) (q1 : q ≤ c - 1) (h : stN c l i ls td xv p q) (rp : xv / c - p ≤ 1 ∧ p - xv / c ≤ 1) (cq : xv % c - q ≤ 1 ∧ q - xv % c ≤ 1)
    (on : at_ 0 l (p * c + q) = 1) (nt : at_ 0 (ouL c l L ls) (p * c + q) = 0) :
    stN c l i (ls ++ [p * c + q]) (td ++ [p * c + q]) xv p (q + 1) ∧ (ouL c l L ls).set (p * c + q).toNat ((L.length : Int) + 1) = ouL c l L (ls ++ [p * c + q]) := by
  have pq := pq_dm (r := r) (c := c) p0 p1 q0 q1
  obtain ⟨Y, hY⟩ := Int.eq_ofNat_of_zero_le pq.1.1
  have hYl : Y < l.length := by omega
  rw [hY] at on nt
  have ho := ouL_f hYl nt
  have oY : onP l Y := ⟨hYl, on⟩
  obtain ⟨⟨h1, h2, h3, h4⟩, h5, h6, h7⟩ := h
  obtain ⟨X, hX, hX2⟩ := h2 xv h5
  have hYp : (Y : Int) / c = p := by rw [← hY]; exact pq.2.2.1
  have hYq : (Y : Int) % c = q := by rw [← hY]; exact pq.2.2.2
  have hn : nbP c X Y := by
    unfold nbP
    rw [← hX, hYp, hYq]
    exact ⟨rp, cq⟩
  rw [hY]
  refine ⟨⟨⟨by simp [h1], fun x hx => ?_, ?_, fun x hx => ?_⟩, by simp [h5], fun x y hx hn hne hb hoy => ?_, nbD_next (nbD_app h7) fun z hz1 hz2 _ => ?_⟩, by rw [Int.toNat_natCast]; exact ouL_set hYl ho.1⟩
  · rcases List.mem_append.mp hx with hx | hx
    · exact h2 x hx
    · simp only [List.mem_singleton] at hx
      exact ⟨Y, hx, hX2.step hn oY⟩
  · exact List.nodup_append.mpr ⟨h3, by simp, fun a ha b hb => by
      simp only [List.mem_singleton] at hb
      subst hb
      exact fun e => ho.2 (e ▸ ha)⟩
  · rcases List.mem_append.mp hx with hx | hx
    · exact List.mem_append_left _ (h4 x hx)
    · exact List.mem_append_right _ hx
  · have hx1 : (x : Int) ∈ ls := by
      rcases List.mem_append.mp hx with hx | hx
      · exact hx
      · exact absurd (List.mem_append_right _ hx) hn
    exact List.mem_append_left _ (h6 x y hx1 (fun g => hn (List.mem_append_left _ g)) hne hb hoy)
  · have e1 := Int.emod_add_mul_ediv (z : Int) c
    have e2 := Int.emod_add_mul_ediv (Y : Int) c
    rw [hz1, hz2] at e1
    rw [hYp, hYq] at e2
    have : (z : Int) = (Y : Int) := by rw [← e1, ← e2]
    rw [this]; simp
/-- Starts reach one another not. -/
theorem stsL_pw : ∀ i : Nat, (stsL c l i).Pairwise fun s t => ¬ Rch c l s t
  | 0 => by simp [stsL]
  | i + 1 => by
    unfold stsL
    split
    · rename_i h
      exact List.pairwise_append.mpr ⟨stsL_pw i, by simp, fun a ha b hb => by
        simp only [List.mem_singleton] at hb
        subst hb
        exact h.2 a ha⟩
    · exact stsL_pw i
theorem nuN_ix {x : Nat} : ∀ {L : List Nat} (_ : L.Pairwise fun s t => ¬ Rch c l s t) {n : Nat} (hn : n < L.length), nuN c l L x = (n : Int) + 1 ↔ Rch c l L[n] x
  | [], _, n, hn => by simp at hn
  | s :: L, hp, n, hn => by
    have pos : 0 ≤ nuN c l L x := by
      clear hp hn
      induction L with
      | nil => simp [nuN]
      | cons a L ih => unfold nuN; split <;> (try split) <;> omega
    rw [List.pairwise_cons] at hp
    unfold nuN
    cases n with
    | zero =>
      simp only [List.getElem_cons_zero]
      by_cases h : Rch c l s x
      · simp [h]
      · rw [if_neg h]
        constructor
        · intro g
          split at g <;> omega
        · intro g; exact absurd g h
    | succ n =>
      simp only [List.getElem_cons_succ]
      have hn' : n < L.length := by simpa using hn
      have ih := nuN_ix hp.2 (x := x) hn'
      by_cases h : Rch c l s x
      · rw [if_pos h]
        constructor
        · intro g; omega
        · intro g; exact absurd (h.trans g.symm) (hp.1 _ (List.getElem_mem hn'))
      · rw [if_neg h]
        by_cases h0 : nuN c l L x = 0
        · rw [if_pos h0]
          constructor
          · intro g; omega
          · intro g
            exact absurd (ih.mpr g) (by rw [h0]; omega)
        · rw [if_neg h0, ← ih]
          omega
end
/-- A part, read off the numbers. -/
theorem prt_num {r c : Int} {l : List Int} (hs : sidesF r c) (hl : (l.length : Int) = r * c) {n : Nat} (hn : n < (stsL c l l.length).length) :
    mkL c (fun i k => if at_ 0 (ouL c l (stsL c l l.length) []) (i * c + k) = (n : Int) + 1 then 1 else 0) (r.toNat * c.toNat) = aloL c l (at_ 0 (stsL c l l.length) (n : Int)) := by
  have e : r.toNat * c.toNat = l.length := by
    have e := congrArg Int.toNat hl
    rw [Int.toNat_natCast, Int.toNat_mul (by have := hs.1; omega) (by have := hs.2; omega)] at e
    exact e.symm
  unfold mkL aloL
  rw [e]
  apply List.map_congr_left
  intro x hx
  have hx' : x < l.length := List.mem_range.mp hx
  have e0 := Int.emod_add_mul_ediv (x : Int) c
  have e1 : (x : Int) / c * c + (x : Int) % c = (x : Int) := by rw [Int.mul_comm]; omega
  have e2 : at_ 0 (stsL c l l.length) (n : Int) = (stsL c l l.length)[n] := at_eq 0 _ hn
  have ix := nuN_ix (x := x) (stsL_pw (c := c) (l := l) l.length) hn
  rw [← e2] at ix
  simp only [e1, ouL_at hx']
  have e3 : (if nuN c l (stsL c l l.length) x = 0 then (if (x : Int) ∈ ([] : List Int) then ((stsL c l l.length).length : Int) + 1 else 0) else nuN c l (stsL c l l.length) x) = nuN c l (stsL c l l.length) x := by
    by_cases h : nuN c l (stsL c l l.length) x = 0 <;> simp [h]
  rw [e3]
  by_cases h : Rch c l (at_ 0 (stsL c l l.length) (n : Int)) x
  · rw [if_pos (ix.mpr h), if_pos h]
  · rw [if_neg (fun g => h (ix.mp g)), if_neg h]
end Go.Proofs.YthocjpfibegjcaaGreatDoor
